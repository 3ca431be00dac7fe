import Derived.Test.YtchdoignomidjaaComb
/- The walk of the reference's Combine; LinearCombines. -/
set_option linter.unusedVariables false
set_option linter.unusedSimpArgs false
namespace Go.Proofs.Ytchdoignomidjaa.F
open Go.RowKit Go.Shelf Go.Proofs.YtchdoignomidjaaW.PrintLast

theorem KeepU.putR4 {W : World} {g : Nat} {x1 x2 x3 x4 y2 y3 : Value} (ho : Own W g [x1, x2, x3, x4]) (hn : NoU [x1, x2, x3, x4]) (hm : NoU [y2, y3]) (y4 : Value) :
    KeepU W (((W.setCell ⟨g, 1, none⟩ y2).setCell ⟨g, 2, none⟩ y3).setCell ⟨g, 3, none⟩ y4) := by
  have n : ∀ v ∈ [y2, y3], ∀ y, Value.int .u32 y ≠ v := fun v hv y e => hm y (by rw [e]; exact hv)
  have a2 := KeepU.set ho hn 1 y2
  have o2 := ho.set 1 y2
  have m2 := hn.set 1 (n y2 (by simp))
  have a3 := KeepU.set o2 m2 2 y3
  have o3 := o2.set 2 y3
  have m3 := m2.set 2 (n y3 (by simp))
  have a4 := KeepU.set o3 m3 3 y4
  exact (a2.trans a3).trans a4
theorem Fr.putR4 {w W : World} {bs : List (Nat × List Value)} {g : Nat} {x1 x2 x3 x4 : Value} (h : Fr w W bs) (k : Nat) (hk : bs[k]? = some (g, [x1, x2, x3, x4])) (hg : w.heap.size ≤ g) (hn : ∀ p ∈ bs.eraseIdx k, p.1 ≠ g) (y2 y3 y4 : Value) :
    Fr w (((W.setCell ⟨g, 1, none⟩ y2).setCell ⟨g, 2, none⟩ y3).setCell ⟨g, 3, none⟩ y4) (bs.set k (g, [x1, y2, y3, y4])) := by
  have hlt : k < bs.length := (List.getElem?_eq_some_iff.1 hk).1
  have e : ∀ (bs : List (Nat × List Value)) (p : Nat × List Value), (bs.set k p).eraseIdx k = bs.eraseIdx k := fun bs p => by rw [List.eraseIdx_set_eq]
  have h2 := h.setN k hk hg hn 1 y2
  have h3 := h2.setN k (by rw [List.getElem?_set_self hlt]) hg (by rw [e]; exact hn) 2 y3
  have h4 := h3.setN k (by rw [List.getElem?_set_self (by simpa using hlt)]) hg (by rw [e, e]; exact hn) 3 y4
  simp only [List.set_set] at h4
  exact h4
theorem OwnF.putR4 {W : World} {B : Nat} {v : Value} {l : Frm} {g : Nat} (h : OwnF W B v l) (hne : v.ownBlock ≠ some g) (y2 y3 y4 : Value) (hk : KeepU W (((W.setCell ⟨g, 1, none⟩ y2).setCell ⟨g, 2, none⟩ y3).setCell ⟨g, 3, none⟩ y4)) :
    OwnF (((W.setCell ⟨g, 1, none⟩ y2).setCell ⟨g, 2, none⟩ y3).setCell ⟨g, 3, none⟩ y4) B v l := by
  refine h.kept (fun k hk0 hv => ?_) hk
  have hkg : k ≠ g := fun e => hne (by rw [← e]; exact hv)
  rw [Below.heap_setCell _ _ _ _ hkg, Below.heap_setCell _ _ _ _ hkg, Below.heap_setCell _ _ _ _ hkg]
theorem OwnF.put1 {W : World} {B : Nat} {v : Value} {l : Frm} {g i : Nat} (h : OwnF W B v l) (hne : v.ownBlock ≠ some g) (y : Value) (hk : KeepU W (W.setCell ⟨g, i, none⟩ y)) : OwnF (W.setCell ⟨g, i, none⟩ y) B v l := by
  refine h.kept (fun k hk0 hv => ?_) hk
  have hkg : k ≠ g := fun e => hne (by rw [← e]; exact hv)
  rw [Below.heap_setCell _ _ _ _ hkg]

set_option maxHeartbeats 4000000 in
set_option maxRecDepth 100000 in
theorem r6_Combine (A : Option Addr) (c : Nat) (xs : List WgtD) (w : World) (h : kWgt.Row w A xs) (hc : xs.length ≤ c) (hx : ∀ x ∈ xs, GoodW x) (hb : (xs.map wtW).sum ≤ 1048576) :
    Calls Try.prog 37 #[.slice A xs.length c] w (ToldA w (nform (cat xs)) (cst xs)) := by
  have hln : xs.length * 7 ≤ (xs.map wtW).sum := len_le_sum xs fun x _ => by unfold wtW wtA wt; omega
  have hl : xs.length ≤ 1099511627776 := by omega
  have H1 := Lib.hid h
  have HX := Lib.hid hx
  have HS := Lib.hid (fun i => cat_small (xs.take i) (fun x hm => hx x (List.mem_of_mem_take hm)) (Nat.le_trans (wtW_take xs i) hb))
  have HM := Lib.hid (show ∀ x ∈ xs, wtW x ≤ 1048576 from fun x hm => Nat.le_trans (le_sum hm) hb)
  obtain ⟨q0, hq0⟩ : ∃ q, q = (0 : Rat) := ⟨_, rfl⟩
  have hW := Lib.hid (fun (W : World) => r6_zero W)
  rw [← hq0] at hW
  have HF := Lib.hid ((Fr.refl w).box [.slice none 0 0, .bool false, .slice none 0 0, .slice none 0 0] 60)
  have HZ := Lib.hid (show q0 = cst (xs.take 0) from hq0)
  clear h hx hb hln hq0
  go_enter Try.func37, Try.ntmps37
  go_wp2_with fail
  refine (hW.out _).mono ?_
  rintro e V1 ⟨A0, c0, B0, d0, rfl, g1, g2, g3⟩
  have Q0 := Lib.hid (InQ.mk g1 g2)
  replace HF := Lib.hid (HF.out.below g3)
  clear g1 g2 g3 hW
  have hgw : w.heap.size < V1.heap.size := HF.out.ltN 0 rfl
  replace Q0 := Lib.hid (Q0.out.below ((Below.refl _ V1).alloc (Nat.le_refl _) (.cells #[.slice none 0 0, .bool (decide (q0.num < 0)), .slice A0 (dg q0.num.natAbs).length c0, .slice B0 (dg q0.den).length d0] 60)))
  replace HF := Lib.hid (HF.out.box [.slice none 0 0, .bool (decide (q0.num < 0)), .slice A0 (dg q0.num.natAbs).length c0, .slice B0 (dg q0.den).length d0] 60)
  go_wp2
  go_loopg [4] xs.length (fun gg s4 wr => ∃ (i : Nat) (l : Frm) (q : Rat) (E : Option Addr) (j : Nat) (A1 : Option Addr) (c1 : Nat) (B1 : Option Addr) (d1 : Nat), i + gg = xs.length ∧ s4 = .int .i64 i ∧ Hid (Fr w wr [(V1.heap.size, [.slice E l.length j, .bool (decide (q.num < 0)), .slice A1 (dg q.num.natAbs).length c1, .slice B1 (dg q.den).length d1]), (w.heap.size, [.slice none 0 0, .bool false, .slice none 0 0, .slice none 0 0])]) ∧ Hid (OwnF wr (V1.heap.size + 1) (.slice E l.length j) l) ∧ Hid (InQ wr A1 c1 B1 d1 q) ∧ Hid (l = nform (cat (xs.take i))) ∧ Hid (q = cst (xs.take i)))
  case atStart => exact ⟨0, [], q0, none, 0, A0, c0, B0, d0, by omega, rfl, HF, OwnF.nil _ _, Q0, rfl, HZ⟩
  case round =>
    clear HF Q0 HZ
    obtain ⟨i, l, q, E, j, A1, c1, B1, d1, hg, rfl, HF, HO, HQ, HE1, HE2⟩ := hrel
    by_cases hlt : i < xs.length
    · have hltz : (i : Int) < (xs.length : Int) := by omega
      obtain ⟨ad, A2, c2, B2, d2, D2, e2, B3, d3, D3, e3, rfl, h1, h2, h3, h4, h5, h6, h7, hlc, hrow, hq1, hq2⟩ := row_wgt H1.out i hlt
      have gm := HX.out xs[i] (List.getElem_mem hlt)
      have wm := HM.out xs[i] (List.getElem_mem hlt)
      have s1 := HS.out i
      have s2 := HS.out (i + 1)
      have eq1 := cat_succ xs i hlt
      have eq2 := cst_succ xs i hlt
      have HN1 := Lib.hid (show nform (l ++ smul (rq xs[i].2) (fval xs[i].1.1)) = nform (cat (xs.take (i + 1))) by rw [eq1, HE1.out, nform_apl])
      have HN2 := Lib.hid (show q + rq xs[i].2 * rq xs[i].1.2 = cst (xs.take (i + 1)) by rw [eq2, HE2.out])
      have hml : mf l ≤ mf (cat (xs.take i)) := by rw [HE1.out]; exact mf_nform _
      have hll : l.length ≤ (cat (xs.take i)).length := by rw [HE1.out]; exact nform_len _
      have hmq : mu q ≤ 1048577 := by rw [HE2.out]; exact s1.2.2
      have hma : mf (cat (xs.take (i + 1))) = mf (cat (xs.take i)) + mf (smul (rq xs[i].2) (fval xs[i].1.1)) := by rw [eq1, mf_append]
      clear eq1 eq2 HE1 HE2
      generalize xs[i] = m at *
      obtain ⟨⟨g, ⟨⟨sb, us⟩, es⟩⟩, ⟨sc, vs⟩, fs⟩ := m
      have n1 := gm.of.const.mn
      have n2 := gm.of.const.md
      have n3 := gm.coef.mn
      have n4 := gm.coef.md
      have hlg : g.length * 7 ≤ (g.map wtm).sum := len_le_sum g fun m _ => wtm7 m
      have hR : FRaw w A2 c2 g := FRaw.of hrow hlc gm.of.form (by unfold wtW wtA at wm; dsimp only at wm; omega)
      have hI1 := hq1.num gm.of.const
      have hI2 := hq1.den gm.of.const
      have hI3 := hq2.num gm.coef
      have hI4 := hq2.den gm.coef
      have u1 := mu_rq gm.of.const
      have u2 := mu_rq gm.coef
      unfold wtW wtA at wm
      dsimp only at *
      have u3 := mu_mul (rv sc vs fs) (rv sb us es)
      have u4 := mf_nform (smul (rv sc vs fs) (fval g))
      have u5 := wtm_can l
      have u6 := mu_len q
      have u7 := wtm_can (nform (smul (rv sc vs fs) (fval g)))
      have u8 := nform_len (smul (rv sc vs fs) (fval g))
      rw [smul_length, fval_length] at u8
      have u9 := mu_len (rv sc vs fs * rv sb us es)
      change mf (cat (xs.take (i + 1))) = _ + mf (smul (rv sc vs fs) (fval g)) at hma
      change mu (rv sb us es) ≤ _ at u1
      change mu (rv sc vs fs) ≤ _ at u2
      have hS := Lib.hid (fun (W : World) (hb : Below w.heap.size w W) => r6_Scale sc B3 d3 vs D3 e3 fs A2 c2 g W (hI3.below hb) (by omega) (hI4.below hb) (by omega) (hR.below hb) (by omega))
      have hA := Lib.hid (show ∀ (W : World) (E5 : Option Addr) (e5 : Nat), FIn W E j l → FIn W E5 e5 (nform (smul (rv sc vs fs) (fval g))) → Calls Try.prog 39 #[.slice E l.length j, .slice E5 (nform (smul (rv sc vs fs) (fval g))).length e5] W (ToldFm W (nform (cat (xs.take (i + 1))))) from fun W E5 e5 k1 k2 => by
        have e := r6_Add E j _ E5 e5 _ W (k1.raw (by omega)) (k2.raw (by omega)) (by omega)
        rw [List.length_map, List.length_map, fval_can, fval_can, nform_app] at e
        rw [show nform (l ++ smul (rv sc vs fs) (fval g)) = _ from HN1.out] at e
        exact e)
      have hM := Lib.hid (fun (W : World) (hb : Below w.heap.size w W) => r3_Mul sc B3 d3 vs D3 e3 fs sb B2 d2 us D2 e2 es W (hI3.below hb) (by omega) (hI4.below hb) (by omega) (hI1.below hb) (by omega) (hI2.below hb) (by omega))
      have hP := Lib.hid (show ∀ (W : World) (A7 : Option Addr) (c7 : Nat) (B7 : Option Addr) (d7 : Nat), InQ W A1 c1 B1 d1 q → InQ W A7 c7 B7 d7 (rv sc vs fs * rv sb us es) → Calls Try.prog 30 #[.agg #[.bool (decide (q.num < 0)), .slice A1 (dg q.num.natAbs).length c1, .slice B1 (dg q.den).length d1], .agg #[.bool (decide ((rv sc vs fs * rv sb us es).num < 0)), .slice A7 (dg (rv sc vs fs * rv sb us es).num.natAbs).length c7, .slice B7 (dg (rv sc vs fs * rv sb us es).den).length d7]] W (ToldQ W (cst (xs.take (i + 1)))) from fun W A7 c7 B7 d7 k1 k2 => by
        have e := r3_Add (decide (q.num < 0)) A1 c1 _ B1 d1 _ (decide ((rv sc vs fs * rv sb us es).num < 0)) A7 c7 _ B7 d7 _ W k1.num (by omega) k1.den (by omega) k2.num (by omega) k2.den (by omega)
        rw [rv_can, rv_can, show q + rv sc vs fs * rv sb us es = _ from HN2.out] at e
        exact e)
      obtain ⟨l2, hl2⟩ : ∃ l2, l2 = nform (cat (xs.take (i + 1))) := ⟨_, rfl⟩
      obtain ⟨q2, hq2'⟩ : ∃ q2, q2 = cst (xs.take (i + 1)) := ⟨_, rfl⟩
      rw [← hl2] at hA
      rw [← hq2'] at hP
      have HL2 := Lib.hid hl2
      have HQ2 := Lib.hid hq2'
      clear hlc hrow hq1 hq2 gm wm s1 s2 HN1 HN2 hml hll hmq hma n1 n2 n3 n4 hlg hR hI1 hI2 hI3 hI4 u1 u2 u3 u4 u5 u6 u7 u8 u9 hl2 hq2'
      generalize rv sc vs fs * rv sb us es = p at *
      generalize nform (smul (rv sc vs fs) (fval g)) = n at *
      have hgr : V1.heap.size < wr.heap.size := HF.out.ltN 0 rfl
      go_wp2_with fail
      replace HO := Lib.hid (HO.out.below (Below.drew (Below.refl _ _)))
      replace HQ := Lib.hid (HQ.out.below (Below.drew (Below.refl _ _)))
      have HF_ := Lib.hid HF.out.drew
      clear HF
      have HF := HF_
      clear HF_
      refine start_ (n := 17) (S := fun w' => w'.cell? ⟨V1.heap.size, 0, none⟩ = some (.slice E l.length j) ∧ w'.cell? ⟨V1.heap.size, 1, none⟩ = some (.bool (decide (q.num < 0))) ∧ w'.cell? ⟨V1.heap.size, 2, none⟩ = some (.slice A1 (dg q.num.natAbs).length c1) ∧ w'.cell? ⟨V1.heap.size, 3, none⟩ = some (.slice B1 (dg q.den).length d1) ∧ w'.cell? (ad.add (i * 7)) = some (.slice A2 g.length c2) ∧ w'.cell? (nxt (ad.add (i * 7)) 4) = some (.bool sc) ∧ w'.cell? (nxt (ad.add (i * 7)) 5) = some (.slice B3 vs.length d3) ∧ w'.cell? (nxt (ad.add (i * 7)) 6) = some (.slice D3 fs.length e3)) (ds := [16]) #[false, false, false, false, false, false, false, false, false, false, false, false, false, false, false, false, false] (by kernel_rfl) rfl rfl ⟨HF.out.cellN 0 rfl 0 rfl, HF.out.cellN 0 rfl 1 rfl, HF.out.cellN 0 rfl 2 rfl, HF.out.cellN 0 rfl 3 rfl, cell_below HF.out.bel h1, cell_below HF.out.bel h5, cell_below HF.out.bel h6, cell_below HF.out.bel h7⟩ (fun hHeld => ?_)
      generalize World.drew _ = W at *
      refine pure_ (i := 0) (N := (some 13)) (v := ?_) (a' := ?_) #[true, false, false, false, false, false, false, false, false, false, false, false, false, false, false, false, false] rfl rfl (by kernel_rfl) (fun _ _ _ h => h) (Or.inl ⟨by rfl, ?_⟩) ?_ ?_
      rotate_left
      · intro w'
        go_simp
        with_reducible rfl
      rotate_left
      · simp only [Act.put, List.setIfInBounds_toArray, List.set_cons_zero, List.set_cons_succ]
        rfl
      refine pure_ (i := 2) (N := (some 15)) (v := ?_) (a' := ?_) #[true, false, true, false, false, false, false, false, false, false, false, false, false, false, false, false, false] rfl rfl (by kernel_rfl) (fun _ _ _ h => h) (Or.inl ⟨by rfl, ?_⟩) ?_ ?_
      rotate_left
      · intro w'
        go_simp
        with_reducible rfl
      rotate_left
      · simp only [Act.put, List.setIfInBounds_toArray, List.set_cons_zero, List.set_cons_succ]
        rfl
      refine pure_ (i := 3) (N := (some 16)) (v := ?_) (a' := ?_) #[true, false, true, true, false, false, false, false, false, false, false, false, false, false, false, false, false] rfl rfl (by kernel_rfl) (fun _ _ _ h => h) (Or.inl ⟨by rfl, ?_⟩) ?_ ?_
      rotate_left
      · intro w'
        go_simp
        with_reducible rfl
      rotate_left
      · simp only [Act.put, List.setIfInBounds_toArray, List.set_cons_zero, List.set_cons_succ]
        rfl
      refine pure_ (i := 4) (N := (some 17)) (v := ?_) (a' := ?_) #[true, false, true, true, true, false, false, false, false, false, false, false, false, false, false, false, false] rfl rfl (by kernel_rfl) (fun _ _ _ h => h) (Or.inl ⟨by rfl, ?_⟩) ?_ ?_
      rotate_left
      · intro w'
        go_simp
        with_reducible rfl
      rotate_left
      · simp only [Act.put, List.setIfInBounds_toArray, List.set_cons_zero, List.set_cons_succ]
        rfl
      refine pure_ (i := 5) (N := (some 18)) (v := ?_) (a' := ?_) #[true, false, true, true, true, true, false, false, false, false, false, false, false, false, false, false, false] rfl rfl (by kernel_rfl) (fun _ _ _ h => h) (Or.inl ⟨by rfl, ?_⟩) ?_ ?_
      rotate_left
      · intro w'
        go_simp
        with_reducible rfl
      rotate_left
      · simp only [Act.put, List.setIfInBounds_toArray, List.set_cons_zero, List.set_cons_succ]
        rfl
      refine pure_ (i := 7) (N := (some 20)) (v := ?_) (a' := ?_) #[true, false, true, true, true, true, false, true, false, false, false, false, false, false, false, false, false] rfl rfl (by kernel_rfl) (fun _ _ _ h => h) (Or.inl ⟨by rfl, ?_⟩) ?_ ?_
      rotate_left
      · intro w'
        go_simp
        with_reducible rfl
      rotate_left
      · simp only [Act.put, List.setIfInBounds_toArray, List.set_cons_zero, List.set_cons_succ]
        rfl
      refine pure_ (i := 8) (N := (some 21)) (v := ?_) (a' := ?_) #[true, false, true, true, true, true, false, true, true, false, false, false, false, false, false, false, false] rfl rfl (by kernel_rfl) (fun _ _ _ h => h) (Or.inl ⟨by rfl, ?_⟩) ?_ ?_
      rotate_left
      · intro w'
        go_simp
        with_reducible rfl
      rotate_left
      · simp only [Act.put, List.setIfInBounds_toArray, List.set_cons_zero, List.set_cons_succ]
        rfl
      refine pure_ (i := 9) (N := (some 22)) (v := ?_) (a' := ?_) #[true, false, true, true, true, true, false, true, true, true, false, false, false, false, false, false, false] rfl rfl (by kernel_rfl) (fun _ _ _ h => h) (Or.inl ⟨by rfl, ?_⟩) ?_ ?_
      rotate_left
      · intro w'
        go_simp
        with_reducible rfl
      rotate_left
      · simp only [Act.put, List.setIfInBounds_toArray, List.set_cons_zero, List.set_cons_succ]
        rfl
      refine pure_ (i := 10) (N := (some 23)) (v := ?_) (a' := ?_) #[true, false, true, true, true, true, false, true, true, true, true, false, false, false, false, false, false] rfl rfl (by kernel_rfl) (fun _ _ _ h => h) (Or.inl ⟨by rfl, ?_⟩) ?_ ?_
      rotate_left
      · intro w'
        go_simp
        with_reducible rfl
      rotate_left
      · simp only [Act.put, List.setIfInBounds_toArray, List.set_cons_zero, List.set_cons_succ]
        rfl
      refine pure_ (i := 11) (N := (some 24)) (v := ?_) (a' := ?_) #[true, false, true, true, true, true, false, true, true, true, true, true, false, false, false, false, false] rfl rfl (by kernel_rfl) (fun _ _ _ h => h) (Or.inl ⟨by rfl, ?_⟩) ?_ ?_
      rotate_left
      · intro w'
        go_simp
        with_reducible rfl
      rotate_left
      · simp only [Act.put, List.setIfInBounds_toArray, List.set_cons_zero, List.set_cons_succ]
        rfl
      refine take_ (i := 1) (N := (some 14)) (v := ?_) (a' := ?_) #[true, true, true, true, true, true, false, true, true, true, true, true, false, false, false, false, false] rfl rfl (by kernel_rfl) (fun _ _ _ h => h) (Or.inl ⟨by rfl, ?_⟩) hHeld ?_ ?_
      rotate_left
      · rintro w' ⟨s0, s1, s2, s3, s4, s5, s6, s7⟩
        go_simp
        with_reducible rfl
      rotate_left
      · simp only [Act.put, List.setIfInBounds_toArray, List.set_cons_zero, List.set_cons_succ]
        rfl
      refine take_ (i := 6) (N := (some 19)) (v := ?_) (a' := ?_) #[true, true, true, true, true, true, true, true, true, true, true, true, false, false, false, false, false] rfl rfl (by kernel_rfl) (fun _ _ _ h => h) (Or.inl ⟨by rfl, ?_⟩) hHeld ?_ ?_
      rotate_left
      · rintro w' ⟨s0, s1, s2, s3, s4, s5, s6, s7⟩
        go_simp
        with_reducible rfl
      rotate_left
      · simp only [Act.put, List.setIfInBounds_toArray, List.set_cons_zero, List.set_cons_succ]
        rfl
      refine take_ (i := 12) (N := (some 25)) (v := ?_) (a' := ?_) #[true, true, true, true, true, true, true, true, true, true, true, true, true, false, false, false, false] rfl rfl (by kernel_rfl) (fun _ _ _ h => h) (Or.inl ⟨by rfl, ?_⟩) hHeld ?_ ?_
      rotate_left
      · rintro w' ⟨s0, s1, s2, s3, s4, s5, s6, s7⟩
        go_simp
        with_reducible rfl
      rotate_left
      · simp only [Act.put, List.setIfInBounds_toArray, List.set_cons_zero, List.set_cons_succ]
        rfl
      refine one_ (i := 13) (N := (some 26)) #[true, true, true, true, true, true, true, true, true, true, true, true, true, true, false, false, false] rfl rfl (by kernel_rfl) (by decide) (fun K hK => ?_)
      refine goes_ Try.func26 (by kernel_rfl) rfl #[.agg #[.bool sc, .slice B3 vs.length d3, .slice D3 fs.length e3], .slice A2 g.length c2] (by rfl) rfl rfl (by (try simp only [List.map_toArray, List.map_cons, List.map_nil]); first | done | rfl) ?_
      refine (hS.out W HF.out.bel).mono ?_
      rintro e W1 ⟨v_, rfl, g1, g2⟩
      refine ⟨_, rfl, ?_⟩
      obtain ⟨E5, e5, rfl, g3⟩ := g1.fin
      have Q5 := Lib.hid g3
      replace HF := Lib.hid (HF.out.below g2)
      replace HO := Lib.hid (HO.out.below g2)
      replace HQ := Lib.hid (HQ.out.below g2)
      clear g1 g2 g3 hS
      refine hK.out _ _ ⟨HF.out.cellN 0 rfl 0 rfl, HF.out.cellN 0 rfl 1 rfl, HF.out.cellN 0 rfl 2 rfl, HF.out.cellN 0 rfl 3 rfl, cell_below HF.out.bel h1, cell_below HF.out.bel h5, cell_below HF.out.bel h6, cell_below HF.out.bel h7⟩ (fun hHeld => ?_)
      clear hK K
      refine norm_ (a' := ?_) ?_ ?_
      rotate_left
      · show Act.put _ (some 26) _ = _
        simp only [Act.put, List.setIfInBounds_toArray, List.set_cons_zero, List.set_cons_succ]
        rfl
      refine one_ (i := 14) (N := (some 27)) #[true, true, true, true, true, true, true, true, true, true, true, true, true, true, true, false, false] rfl rfl (by kernel_rfl) (by decide) (fun K hK => ?_)
      refine goes_ Try.func39 (by kernel_rfl) rfl #[.slice E l.length j, .slice E5 n.length e5] (by rfl) rfl rfl (by (try simp only [List.map_toArray, List.map_cons, List.map_nil]); first | done | rfl) ?_
      refine (hA.out W1 E5 e5 HO.out.fin' Q5.out).mono ?_
      rintro e W2 ⟨v_, rfl, g1, g2⟩
      refine ⟨_, rfl, ?_⟩
      obtain ⟨E6, e6, rfl, g3⟩ := g1.fin
      have hg3 := HF.out.ltN 0 rfl
      replace HO := Lib.hid (g1.mono (by omega : V1.heap.size + 1 ≤ _))
      replace HF := Lib.hid (HF.out.below g2)
      replace HQ := Lib.hid (HQ.out.below g2)
      clear g1 g2 g3 hA Q5 hg3
      refine hK.out _ _ ⟨HF.out.cellN 0 rfl 0 rfl, HF.out.cellN 0 rfl 1 rfl, HF.out.cellN 0 rfl 2 rfl, HF.out.cellN 0 rfl 3 rfl, cell_below HF.out.bel h1, cell_below HF.out.bel h5, cell_below HF.out.bel h6, cell_below HF.out.bel h7⟩ (fun hHeld => ?_)
      clear hK K
      refine norm_ (a' := ?_) ?_ ?_
      rotate_left
      · show Act.put _ (some 27) _ = _
        simp only [Act.put, List.setIfInBounds_toArray, List.set_cons_zero, List.set_cons_succ]
        rfl
      refine pure_ (i := 15) (N := (some 28)) (v := ?_) (a' := ?_) #[true, true, true, true, true, true, true, true, true, true, true, true, true, true, true, true, false] rfl rfl (by kernel_rfl) (fun _ _ _ h => h) (Or.inl ⟨by rfl, ?_⟩) ?_ ?_
      rotate_left
      · intro w'
        go_simp
        with_reducible rfl
      rotate_left
      · simp only [Act.put, List.setIfInBounds_toArray, List.set_cons_zero, List.set_cons_succ]
        rfl
      refine last_ (i := 16) (N := none) #[true, true, true, true, true, true, true, true, true, true, true, true, true, true, true, true, true] rfl rfl (by kernel_rfl) (by decide) (fun K hK => ?_)
      have hf0 := HF.out.frozenN 0 rfl 0
      have hd0 := HF.out.cellN 0 rfl 0 rfl
      refine skip_ (w1 := ?_) (by rfl) rfl ?_ ?_
      rotate_left
      · go_simp
        rfl
      have HKU := Lib.hid (KeepU.set (HF.out.ownN 0 rfl) (fun y hy => by simp at hy) 0 (.slice E6 l2.length e6))
      replace HQ := Lib.hid (HQ.out.keep HKU.out)
      replace HO := Lib.hid (HO.out.put1 (fun h => by have := (HO.out.block _ h).1; omega) _ HKU.out)
      replace HF := Lib.hid (HF.out.setN 0 rfl (by omega) (by simp; omega) 0 (.slice E6 l2.length e6))
      clear HKU hf0 hd0
      refine hK.out _ _ ?_
      clear hK K
      refine done_ (by kernel_rfl) ?_
      generalize World.setCell _ _ _ = W at HF HO HQ ⊢
      go_wp2_with fail
      replace HO := Lib.hid (HO.out.below (Below.drew (Below.refl _ _)))
      replace HQ := Lib.hid (HQ.out.below (Below.drew (Below.refl _ _)))
      have HF_ := Lib.hid HF.out.drew
      clear HF
      have HF := HF_
      clear HF_
      refine start_ (n := 17) (S := fun w' => w'.cell? ⟨V1.heap.size, 0, none⟩ = some (.slice E6 l2.length e6) ∧ w'.cell? ⟨V1.heap.size, 1, none⟩ = some (.bool (decide (q.num < 0))) ∧ w'.cell? ⟨V1.heap.size, 2, none⟩ = some (.slice A1 (dg q.num.natAbs).length c1) ∧ w'.cell? ⟨V1.heap.size, 3, none⟩ = some (.slice B1 (dg q.den).length d1) ∧ w'.cell? (nxt (ad.add (i * 7)) 1) = some (.bool sb) ∧ w'.cell? (nxt (ad.add (i * 7)) 2) = some (.slice B2 us.length d2) ∧ w'.cell? (nxt (ad.add (i * 7)) 3) = some (.slice D2 es.length e2) ∧ w'.cell? (nxt (ad.add (i * 7)) 4) = some (.bool sc) ∧ w'.cell? (nxt (ad.add (i * 7)) 5) = some (.slice B3 vs.length d3) ∧ w'.cell? (nxt (ad.add (i * 7)) 6) = some (.slice D3 fs.length e3)) (ds := [16]) #[false, false, false, false, false, false, false, false, false, false, false, false, false, false, false, false, false] (by kernel_rfl) rfl rfl ⟨HF.out.cellN 0 rfl 0 rfl, HF.out.cellN 0 rfl 1 rfl, HF.out.cellN 0 rfl 2 rfl, HF.out.cellN 0 rfl 3 rfl, cell_below HF.out.bel h2, cell_below HF.out.bel h3, cell_below HF.out.bel h4, cell_below HF.out.bel h5, cell_below HF.out.bel h6, cell_below HF.out.bel h7⟩ (fun hHeld => ?_)
      generalize World.drew _ = W at *
      refine pure_ (i := 0) (N := (some 29)) (v := ?_) (a' := ?_) #[true, false, false, false, false, false, false, false, false, false, false, false, false, false, false, false, false] rfl rfl (by kernel_rfl) (fun _ _ _ h => h) (Or.inl ⟨by rfl, ?_⟩) ?_ ?_
      rotate_left
      · intro w'
        go_simp
        with_reducible rfl
      rotate_left
      · simp only [Act.put, List.setIfInBounds_toArray, List.set_cons_zero, List.set_cons_succ]
        rfl
      refine pure_ (i := 2) (N := (some 31)) (v := ?_) (a' := ?_) #[true, false, true, false, false, false, false, false, false, false, false, false, false, false, false, false, false] rfl rfl (by kernel_rfl) (fun _ _ _ h => h) (Or.inl ⟨by rfl, ?_⟩) ?_ ?_
      rotate_left
      · intro w'
        go_simp
        with_reducible rfl
      rotate_left
      · simp only [Act.put, List.setIfInBounds_toArray, List.set_cons_zero, List.set_cons_succ]
        rfl
      refine pure_ (i := 3) (N := (some 32)) (v := ?_) (a' := ?_) #[true, false, true, true, false, false, false, false, false, false, false, false, false, false, false, false, false] rfl rfl (by kernel_rfl) (fun _ _ _ h => h) (Or.inl ⟨by rfl, ?_⟩) ?_ ?_
      rotate_left
      · intro w'
        go_simp
        with_reducible rfl
      rotate_left
      · simp only [Act.put, List.setIfInBounds_toArray, List.set_cons_zero, List.set_cons_succ]
        rfl
      refine pure_ (i := 4) (N := (some 33)) (v := ?_) (a' := ?_) #[true, false, true, true, true, false, false, false, false, false, false, false, false, false, false, false, false] rfl rfl (by kernel_rfl) (fun _ _ _ h => h) (Or.inl ⟨by rfl, ?_⟩) ?_ ?_
      rotate_left
      · intro w'
        go_simp
        with_reducible rfl
      rotate_left
      · simp only [Act.put, List.setIfInBounds_toArray, List.set_cons_zero, List.set_cons_succ]
        rfl
      refine pure_ (i := 5) (N := (some 34)) (v := ?_) (a' := ?_) #[true, false, true, true, true, true, false, false, false, false, false, false, false, false, false, false, false] rfl rfl (by kernel_rfl) (fun _ _ _ h => h) (Or.inl ⟨by rfl, ?_⟩) ?_ ?_
      rotate_left
      · intro w'
        go_simp
        with_reducible rfl
      rotate_left
      · simp only [Act.put, List.setIfInBounds_toArray, List.set_cons_zero, List.set_cons_succ]
        rfl
      refine pure_ (i := 7) (N := (some 36)) (v := ?_) (a' := ?_) #[true, false, true, true, true, true, false, true, false, false, false, false, false, false, false, false, false] rfl rfl (by kernel_rfl) (fun _ _ _ h => h) (Or.inl ⟨by rfl, ?_⟩) ?_ ?_
      rotate_left
      · intro w'
        go_simp
        with_reducible rfl
      rotate_left
      · simp only [Act.put, List.setIfInBounds_toArray, List.set_cons_zero, List.set_cons_succ]
        rfl
      refine pure_ (i := 8) (N := (some 37)) (v := ?_) (a' := ?_) #[true, false, true, true, true, true, false, true, true, false, false, false, false, false, false, false, false] rfl rfl (by kernel_rfl) (fun _ _ _ h => h) (Or.inl ⟨by rfl, ?_⟩) ?_ ?_
      rotate_left
      · intro w'
        go_simp
        with_reducible rfl
      rotate_left
      · simp only [Act.put, List.setIfInBounds_toArray, List.set_cons_zero, List.set_cons_succ]
        rfl
      refine pure_ (i := 9) (N := (some 38)) (v := ?_) (a' := ?_) #[true, false, true, true, true, true, false, true, true, true, false, false, false, false, false, false, false] rfl rfl (by kernel_rfl) (fun _ _ _ h => h) (Or.inl ⟨by rfl, ?_⟩) ?_ ?_
      rotate_left
      · intro w'
        go_simp
        with_reducible rfl
      rotate_left
      · simp only [Act.put, List.setIfInBounds_toArray, List.set_cons_zero, List.set_cons_succ]
        rfl
      refine pure_ (i := 10) (N := (some 39)) (v := ?_) (a' := ?_) #[true, false, true, true, true, true, false, true, true, true, true, false, false, false, false, false, false] rfl rfl (by kernel_rfl) (fun _ _ _ h => h) (Or.inl ⟨by rfl, ?_⟩) ?_ ?_
      rotate_left
      · intro w'
        go_simp
        with_reducible rfl
      rotate_left
      · simp only [Act.put, List.setIfInBounds_toArray, List.set_cons_zero, List.set_cons_succ]
        rfl
      refine pure_ (i := 11) (N := (some 40)) (v := ?_) (a' := ?_) #[true, false, true, true, true, true, false, true, true, true, true, true, false, false, false, false, false] rfl rfl (by kernel_rfl) (fun _ _ _ h => h) (Or.inl ⟨by rfl, ?_⟩) ?_ ?_
      rotate_left
      · intro w'
        go_simp
        with_reducible rfl
      rotate_left
      · simp only [Act.put, List.setIfInBounds_toArray, List.set_cons_zero, List.set_cons_succ]
        rfl
      refine take_ (i := 1) (N := (some 30)) (v := ?_) (a' := ?_) #[true, true, true, true, true, true, false, true, true, true, true, true, false, false, false, false, false] rfl rfl (by kernel_rfl) (fun _ _ _ h => h) (Or.inl ⟨by rfl, ?_⟩) hHeld ?_ ?_
      rotate_left
      · rintro w' ⟨s0, s1, s2, s3, s4, s5, s6, s7, s8, s9⟩
        go_simp
        with_reducible rfl
      rotate_left
      · simp only [Act.put, List.setIfInBounds_toArray, List.set_cons_zero, List.set_cons_succ]
        rfl
      refine take_ (i := 6) (N := (some 35)) (v := ?_) (a' := ?_) #[true, true, true, true, true, true, true, true, true, true, true, true, false, false, false, false, false] rfl rfl (by kernel_rfl) (fun _ _ _ h => h) (Or.inl ⟨by rfl, ?_⟩) hHeld ?_ ?_
      rotate_left
      · rintro w' ⟨s0, s1, s2, s3, s4, s5, s6, s7, s8, s9⟩
        go_simp
        with_reducible rfl
      rotate_left
      · simp only [Act.put, List.setIfInBounds_toArray, List.set_cons_zero, List.set_cons_succ]
        rfl
      refine take_ (i := 12) (N := (some 41)) (v := ?_) (a' := ?_) #[true, true, true, true, true, true, true, true, true, true, true, true, true, false, false, false, false] rfl rfl (by kernel_rfl) (fun _ _ _ h => h) (Or.inl ⟨by rfl, ?_⟩) hHeld ?_ ?_
      rotate_left
      · rintro w' ⟨s0, s1, s2, s3, s4, s5, s6, s7, s8, s9⟩
        go_simp
        with_reducible rfl
      rotate_left
      · simp only [Act.put, List.setIfInBounds_toArray, List.set_cons_zero, List.set_cons_succ]
        rfl
      refine one_ (i := 13) (N := (some 42)) #[true, true, true, true, true, true, true, true, true, true, true, true, true, true, false, false, false] rfl rfl (by kernel_rfl) (by decide) (fun K hK => ?_)
      refine goes_ Try.func51 (by kernel_rfl) rfl #[.agg #[.bool sc, .slice B3 vs.length d3, .slice D3 fs.length e3], .agg #[.bool sb, .slice B2 us.length d2, .slice D2 es.length e2]] (by rfl) rfl rfl (by (try simp only [List.map_toArray, List.map_cons, List.map_nil]); first | done | rfl) ?_
      refine (hM.out W HF.out.bel).mono ?_
      rintro e W1 ⟨A7, c7, B7, d7, rfl, g1, g2, g3⟩
      refine ⟨_, rfl, ?_⟩
      have Q7 := Lib.hid (InQ.mk g1 g2)
      replace HF := Lib.hid (HF.out.below g3)
      replace HO := Lib.hid (HO.out.below g3)
      replace HQ := Lib.hid (HQ.out.below g3)
      clear g1 g2 g3 hM
      refine hK.out _ _ ⟨HF.out.cellN 0 rfl 0 rfl, HF.out.cellN 0 rfl 1 rfl, HF.out.cellN 0 rfl 2 rfl, HF.out.cellN 0 rfl 3 rfl, cell_below HF.out.bel h2, cell_below HF.out.bel h3, cell_below HF.out.bel h4, cell_below HF.out.bel h5, cell_below HF.out.bel h6, cell_below HF.out.bel h7⟩ (fun hHeld => ?_)
      clear hK K
      refine norm_ (a' := ?_) ?_ ?_
      rotate_left
      · show Act.put _ (some 42) _ = _
        simp only [Act.put, List.setIfInBounds_toArray, List.set_cons_zero, List.set_cons_succ]
        rfl
      refine one_ (i := 14) (N := (some 43)) #[true, true, true, true, true, true, true, true, true, true, true, true, true, true, true, false, false] rfl rfl (by kernel_rfl) (by decide) (fun K hK => ?_)
      refine goes_ Try.func30 (by kernel_rfl) rfl #[.agg #[.bool (decide (q.num < 0)), .slice A1 (dg q.num.natAbs).length c1, .slice B1 (dg q.den).length d1], .agg #[.bool (decide (p.num < 0)), .slice A7 (dg p.num.natAbs).length c7, .slice B7 (dg p.den).length d7]] (by rfl) rfl rfl (by (try simp only [List.map_toArray, List.map_cons, List.map_nil]); first | done | rfl) ?_
      refine (hP.out W1 A7 c7 B7 d7 HQ.out Q7.out).mono ?_
      rintro e W2 ⟨A8, c8, B8, d8, rfl, g1, g2, g3⟩
      refine ⟨_, rfl, ?_⟩
      have Q8 := Lib.hid (InQ.mk g1 g2)
      replace HF := Lib.hid (HF.out.below g3)
      replace HO := Lib.hid (HO.out.below g3)
      clear g1 g2 g3 hP Q7 HQ
      refine hK.out _ _ ⟨HF.out.cellN 0 rfl 0 rfl, HF.out.cellN 0 rfl 1 rfl, HF.out.cellN 0 rfl 2 rfl, HF.out.cellN 0 rfl 3 rfl, cell_below HF.out.bel h2, cell_below HF.out.bel h3, cell_below HF.out.bel h4, cell_below HF.out.bel h5, cell_below HF.out.bel h6, cell_below HF.out.bel h7⟩ (fun hHeld => ?_)
      clear hK K
      refine norm_ (a' := ?_) ?_ ?_
      rotate_left
      · show Act.put _ (some 43) _ = _
        simp only [Act.put, List.setIfInBounds_toArray, List.set_cons_zero, List.set_cons_succ]
        rfl
      refine pure_ (i := 15) (N := (some 44)) (v := ?_) (a' := ?_) #[true, true, true, true, true, true, true, true, true, true, true, true, true, true, true, true, false] rfl rfl (by kernel_rfl) (fun _ _ _ h => h) (Or.inl ⟨by rfl, ?_⟩) ?_ ?_
      rotate_left
      · intro w'
        go_simp
        with_reducible rfl
      rotate_left
      · simp only [Act.put, List.setIfInBounds_toArray, List.set_cons_zero, List.set_cons_succ]
        rfl
      refine last_ (i := 16) (N := none) #[true, true, true, true, true, true, true, true, true, true, true, true, true, true, true, true, true] rfl rfl (by kernel_rfl) (by decide) (fun K hK => ?_)
      have hf1 := HF.out.frozenN 0 rfl 1
      have hf2 := HF.out.frozenN 0 rfl 2
      have hf3 := HF.out.frozenN 0 rfl 3
      have hd1 := HF.out.cellN 0 rfl 1 rfl
      have hd2 := HF.out.cellN 0 rfl 2 rfl
      have hd3 := HF.out.cellN 0 rfl 3 rfl
      refine skip_ (w1 := ?_) (by rfl) rfl ?_ ?_
      rotate_left
      · go_simp
        rfl
      have HKU := Lib.hid (KeepU.putR4 (HF.out.ownN 0 rfl) (fun y hy => by simp at hy) (y2 := .bool (decide (q2.num < 0))) (y3 := .slice A8 (dg q2.num.natAbs).length c8) (fun y hy => by simp at hy) (.slice B8 (dg q2.den).length d8))
      replace Q8 := Lib.hid (Q8.out.keep HKU.out)
      replace HO := Lib.hid (HO.out.putR4 (fun h => by have := (HO.out.block _ h).1; omega) _ _ _ HKU.out)
      replace HF := Lib.hid (HF.out.putR4 0 rfl (by omega) (by simp; omega) (.bool (decide (q2.num < 0))) (.slice A8 (dg q2.num.natAbs).length c8) (.slice B8 (dg q2.den).length d8))
      clear HKU hf1 hf2 hf3 hd1 hd2 hd3
      refine hK.out _ _ ?_
      clear hK K
      refine done_ (by kernel_rfl) ?_
      generalize World.setCell _ _ _ = W at HF HO Q8 ⊢
      go_wp2
      go_roundg (xs.length - (i + 1))
      case measure => omega
      case rel => exact ⟨i + 1, l2, q2, E6, e6, A8, c8, B8, d8, by omega, by go_num, HF, HO, Q8, HL2, HQ2⟩
    · have hltz : ¬ (i : Int) < (xs.length : Int) := by omega
      have e1 : l = nform (cat xs) := by rw [HE1.out, List.take_of_length_le (by omega)]
      have e2 : q = cst xs := by rw [HE2.out, List.take_of_length_le (by omega)]
      have HE3 := Lib.hid e1
      have HE4 := Lib.hid e2
      clear HE1 HE2 e1 e2
      have hf0 := HF.out.frozenN 1 rfl 0
      have hf1 := HF.out.frozenN 1 rfl 1
      have hf2 := HF.out.frozenN 1 rfl 2
      have hf3 := HF.out.frozenN 1 rfl 3
      have hd0 := HF.out.cellN 1 rfl 0 rfl
      have hd1 := HF.out.cellN 1 rfl 1 rfl
      have hd2 := HF.out.cellN 1 rfl 2 rfl
      have hd3 := HF.out.cellN 1 rfl 3 rfl
      have a0 := HF.out.cellN 0 rfl 0 rfl
      have a1 := HF.out.cellN 0 rfl 1 rfl
      have a2 := HF.out.cellN 0 rfl 2 rfl
      have a3 := HF.out.cellN 0 rfl 3 rfl
      have HKU := Lib.hid (KeepU.put4 (HF.out.ownN 1 rfl) (fun y hy => by simp at hy) (y1 := .slice E l.length j) (y2 := .bool (decide (q.num < 0))) (y3 := .slice A1 (dg q.num.natAbs).length c1) (fun y hy => by simp at hy) (.slice B1 (dg q.den).length d1))
      replace HQ := Lib.hid (HQ.out.keep HKU.out)
      replace HO := Lib.hid (HO.out.put4 (fun h => by have := (HO.out.block _ h).1; omega) _ _ _ _ HKU.out)
      replace HF := Lib.hid (HF.out.put4 1 rfl (by omega) (by simp; omega) (.slice E l.length j) (.bool (decide (q.num < 0))) (.slice A1 (dg q.num.natAbs).length c1) (.slice B1 (dg q.den).length d1))
      clear HKU
      go_wp2
      refine post_own (HF.out.ownN 1 rfl) rfl rfl rfl Try.underlying60 rfl (by kernel_rfl) ?_
      rw [← HE3.out, ← HE4.out]
      exact ⟨_, _, _, _, _, _, rfl, HO.out.mono (by omega), HQ.out, HF.out.bel⟩

set_option maxHeartbeats 1000000 in
set_option maxRecDepth 100000 in
theorem law_Combines (A : Option Addr) (c : Nat) (xs : List WgtD) (w : World) (h : kWgt.Row w A xs) (hc : xs.length ≤ c) (hx : ∀ x ∈ xs, GoodW x) (hb : (xs.map wtW).sum ≤ 1048576) :
    Calls Try.prog 9 #[.slice A xs.length c] w fun e w' => e = .returned (.bool true) ∧ Below w.heap.size w w' := by
  have h1 := Lib.hid (linear_Combine A c xs w h hc hx hb)
  have h2 := Lib.hid (fun (W : World) (k : Below w.heap.size w W) => r6_Combine A c xs W (Knd.Row.below k h) hc hx hb)
  have s := cat_small xs hx hb
  have hl := nform_len (cat xs)
  have hm := mu_len (cst xs)
  have hl' : (nform (cat xs)).length ≤ 1099511627776 := by omega
  have k1 : (dg (cst xs).num.natAbs).length ≤ 1099511627776 := by omega
  have k2 : (dg (cst xs).den).length ≤ 1099511627776 := by omega
  clear h hx hb s hl hm
  generalize nform (cat xs) = l at *
  generalize cst xs = q at *
  go_enter Try.func9, Try.ntmps9
  go_wp2_with fail
  refine h1.out.mono ?_
  rintro e V1 ⟨E1, j1, A1, c1, B1, d1, rfl, g1, g2, g3⟩
  have Q1 := Lib.hid g1.fin'
  have R1 := Lib.hid g2
  have HB := Lib.hid g3
  clear g1 g2 g3 h1
  go_wp2_with fail
  refine (h2.out V1 HB.out).mono ?_
  rintro e W2 ⟨E2, j2, A2, c2, B2, d2, rfl, g1, g2, g3⟩
  have Q2 := Lib.hid g1.fin'
  have R2 := Lib.hid g2
  replace Q1 := Lib.hid (Q1.out.below g3)
  replace R1 := Lib.hid (R1.out.below g3)
  replace HB := Lib.hid (HB.out.trans (g3.mono HB.out.size))
  clear g1 g2 g3 h2
  have hS := Lib.hid (same_Aff l q E1 j1 A1 c1 B1 d1 E2 j2 A2 c2 B2 d2 W2 Q1.out R1.out Q2.out R2.out hl' k1 k2)
  clear Q1 Q2 R1 R2
  go_wp2_with fail
  refine hS.out.mono ?_
  rintro e W3 ⟨rfl, g3⟩
  replace HB := Lib.hid (HB.out.trans (g3.mono HB.out.size))
  clear g3 hS
  go_wp2
  go_ret
  exact ⟨rfl, HB.out⟩
end Go.Proofs.Ytchdoignomidjaa.F
namespace Go.Proofs.Ytchdoignomidjaa.combines
open Go.ChangeShapes Go.WideShapes Go.ChangeAt Go.RowKit
open Go.Proofs.Ytchdoignomidjaa.F

set_option maxRecDepth 100000 in
theorem contract (H : Type) (enc : TypeId × Value → H) (W : World) (base : Nat) (args : Array Value) (ds gs : List (DataW H)) (before : List MemPlace)
    (hval : ∀ (j : Nat) t v, Try.f9.params[j]? = some t → args[j]? = some v → Value.okWide Try.prog W .any base t v)
    (hW : DataW.Whole enc Try.prog Try.f9.params.toList Rows.linearCombinesSpec.vars false W args.toList ds gs before) (hk : Rows.uptoSmall H (ds ++ gs) = true) :
    Calls Try.prog 9 args W fun e W' => ∃ v, e = .returned v ∧ Rows.linearCombinesSpec.post enc Try.prog Try.f9 false true false false W args v W' := by
  have hW' := hW
  obtain ⟨p, q, hA0, hV, rfl, hfz, hnd⟩ := hW
  have hA : DataW.TrodAll enc Try.prog W 0 (fun _ => true) true Try.f9.params.toList args.toList ds p := hA0
  rw [Try.params9] at hA hval
  obtain ⟨v0, vs0, d0, ds0, p0, q0, hargs, rfl, rfl, h0, r0⟩ := trodAll_cons hA
  obtain ⟨rfl, rfl, rfl⟩ := trodAll_nil r0
  obtain rfl : args = #[v0] := by cases args; simp_all
  obtain ⟨rfl, rfl⟩ := trodVars_none hV
  obtain ⟨a0, len0, cap0, rfl⟩ := okWide_slice Try.underlying57 (hval 0 57 v0 rfl rfl)
  have k0 := h0
  have lt0 : ∀ x ∈ p0, x.block < W.heap.size := by obtain ⟨m, hm⟩ := k0; exact DataW.trod_lt m _ _ _ hm
  obtain ⟨m0, g0⟩ := h0
  obtain ⟨l, hC0, ok0⟩ := opens_Weighteds H enc W m0 _ _ g0
  have hb : Rows.uptoBulkAll (H := H) [d0] ≤ 1048576 := by
    have h2 := of_decide_eq_true hk
    simpa only [List.append_nil] using h2
  simp only [Rows.uptoBulkAll] at hb
  obtain ⟨A0, c0, e0, hc0, hm0, hr0⟩ := hC0
  simp [Value.cells] at e0
  obtain ⟨rfl, rfl, rfl⟩ := e0
  have w0 : (l.map wtW).sum + 1 ≤ Rows.uptoBulk d0 := wt_wgts ok0
  have hlaw := law_Combines a0 cap0 l W hr0 hc0 (good_wgts ok0) (by omega)
  refine hlaw.mono fun e W' ⟨he, bel⟩ => ?_
  subst he
  exact ⟨_, rfl, _, _, _, [], _, [], hW', trodAll_mk1 (shut_bool Try.underlying4 _), (trodAll_cons_mk (Below.trod prog_laid (by kernel_rfl) (of_decide_eq_true (by kernel_rfl)) k0 bel lt0) trodAll_mk0), rfl, bel.frame _, fun h => by cases h⟩

set_option maxRecDepth 100000 in
theorem lifted (os : Os) (started : os.Started) (H : Type) (enc : TypeId × Value → H) (F : Stop.Interp) :
    ReturnsInHanded {} Try.checked os 9 .any ((Rows.OpenSpec.upto Rows.linearCombinesSpec).pre6 enc Try.prog Try.f9 Rows.linearCombinesUptoRow.domain false) (((Rows.OpenSpec.upto Rows.linearCombinesSpec).at F).post enc Try.prog Try.f9 false true false false) := by
  refine returnsInHanded_of_cond (C := Try.checked) (s := Rows.OpenSpec.upto Rows.linearCombinesSpec) (k := Rows.uptoSmall) rfl prog_own started (by kernel_rfl) Try.func9
    (OpenSpec.witness (enc := enc) (C := Try.checked) (s := Rows.OpenSpec.upto Rows.linearCombinesSpec) (k := Rows.uptoSmall) rfl false ⟨#[], #[.slice none 0 0], []⟩ 8 (by kernel_rfl) (by kernel_rfl) (by kernel_rfl)
      (x := ([.nil], [], [])) (by kernel_rfl) rfl (by kernel_rfl)) ?_
  intro W base args ds gs before hval hW _ hk _
  exact contract H enc W base args ds gs before hval hW hk

theorem over : Rows.LinearCombinesUptoSaid :=
  OpenClaim.holds_of_cond 9 Try.f9 rfl rfl rfl rfl rfl rfl rfl ⟨rfl, rfl, rfl, rfl, rfl⟩ rfl rfl rfl rfl rfl (by kernel_rfl) Try.func9 (by kernel_rfl)
    (of_decide_eq_true (by kernel_rfl)) (by unfold Func.isWrapper; first | (rw [if_pos (by decide +kernel)]; kernel_rfl) | (rw [if_neg (by decide +kernel)]; exact ⟨rfl, rfl⟩))
    (fun os started H enc _ F => lifted os started H enc F)
end Go.Proofs.Ytchdoignomidjaa.combines
namespace Go.Proofs.Ytchdoignomidjaa
theorem linearCombines_holds : Rows.LinearCombinesUptoSaid := combines.over
#print axioms linearCombines_holds
end Go.Proofs.Ytchdoignomidjaa
