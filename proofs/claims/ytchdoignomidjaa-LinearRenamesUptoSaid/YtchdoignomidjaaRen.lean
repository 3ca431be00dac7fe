import Derived.Test.YtchdoignomidjaaSix
/- The walks of Rename: the reference's and linear's. -/
set_option linter.unusedVariables false
set_option linter.unusedSimpArgs false
namespace Go.Proofs.Ytchdoignomidjaa.F
open Go.RowKit Go.Shelf Go.Proofs.YtchdoignomidjaaW.PrintLast

/-- a variable that the new names know -/
def inr (n : Nat) (m : Int × Rat) : Bool := decide (0 ≤ m.1) && decide (m.1 < (n : Int))
def ren (tn : List Int) (l : Frm) : Frm := l.map fun m => (tn.getD m.1.toNat 0, m.2)
theorem inr_true {n : Nat} {m : Int × Rat} (h0 : 0 ≤ m.1) (h1 : m.1 < (n : Int)) : inr n m = true := by unfold inr; simp [h0, h1]
theorem all_false {n : Nat} {l : Frm} {m : Int × Rat} (hm : m ∈ l) (h : m.1 < 0 ∨ ¬ m.1 < (n : Int)) : l.all (inr n) = false := by
  rw [List.all_eq_false]
  refine ⟨m, hm, ?_⟩
  unfold inr
  rcases h with h | h
  · rw [decide_eq_false (by omega : ¬ 0 ≤ m.1)]; simp
  · rw [decide_eq_false h]; simp
theorem mf_ren (tn : List Int) (l : Frm) : mf (ren tn l) = mf l := by unfold mf ren; rw [List.map_map]; rfl
theorem ren_length (tn : List Int) (l : Frm) : (ren tn l).length = l.length := by unfold ren; rw [List.length_map]
theorem ren_succ (tn : List Int) (l : Frm) (i : Nat) (h : i < l.length) : ren tn (l.take (i + 1)) = ren tn (l.take i) ++ [(tn.getD (l[i]).1.toNat 0, (l[i]).2)] := by
  rw [List.take_succ_eq_append_getElem h]
  unfold ren
  rw [List.map_append]
  rfl
theorem all_succ (n : Nat) (l : Frm) (i : Nat) (h : i < l.length) (h1 : (l.take i).all (inr n) = true) (h2 : inr n l[i] = true) : (l.take (i + 1)).all (inr n) = true := by
  rw [List.take_succ_eq_append_getElem h, List.all_append, h1, List.all_cons, h2]
  rfl
/-- the answer: the form with its new names and 0, or no form and 61 -/
def ToldRn (w : World) (tn : List Int) (l : Frm) (e : Ending) (w' : World) : Prop :=
  ∃ v, e = .returned (.tuple #[v, .int .i64 (if l.all (inr tn.length) then 0 else 61)]) ∧ OwnF w' w.heap.size v (if l.all (inr tn.length) then nform (ren tn l) else []) ∧ Below w.heap.size w w'
theorem told_bad {w w' : World} {tn : List Int} {l : Frm} (ha : l.all (inr tn.length) = false) (hb : Below w.heap.size w w') : ToldRn w tn l (.returned (.tuple #[.slice none 0 0, .int .i64 61])) w' :=
  ⟨.slice none 0 0, by rw [ha]; rfl, by rw [ha]; exact OwnF.nil _ _, hb⟩
theorem told_good {w w' : World} {tn : List Int} {l : Frm} {v : Value} (ha : l.all (inr tn.length) = true) (ho : OwnF w' w.heap.size v (nform (ren tn l))) (hb : Below w.heap.size w w') : ToldRn w tn l (.returned (.tuple #[v, .int .i64 0])) w' :=
  ⟨v, by rw [ha]; rfl, by rw [ha]; exact ho, hb⟩

set_option maxHeartbeats 2000000 in
set_option maxRecDepth 100000 in
theorem r6_Rename (A : Option Addr) (c : Nat) (f : List (Int × RatD)) (B : Option Addr) (d : Nat) (tn : List Int) (w : World) (h : FRaw w A c f) (ht : (Knd.int .i64).Row w B tn) (hc : tn.length ≤ d) (hd : tn.length ≤ 9223372036854775807) (hs : 2 * mf (fval f) + 5 * f.length ≤ 137438953471) :
    Calls Try.prog 23 #[.slice A f.length c, .slice B tn.length d] w (ToldRn w tn (nform (fval f))) := by
  have hlen := h.len
  have hAll := Lib.hid (r6_Norm A c f w h)
  have hT := Lib.hid (fun (W : World) (hb : Below w.heap.size w W) => ht.below hb)
  have hvl : (nform (fval f)).length ≤ f.length := by have := nform_len (fval f); rwa [fval_length] at this
  have hml := mf_nform (fval f)
  have hN := Lib.hid (show ∀ (W : World) (C : Nat) (v : Value), OwnF W C v (ren tn (nform (fval f))) → ∃ (A1 : Option Addr) (c1 : Nat), v = .slice A1 (nform (fval f)).length c1 ∧ Calls Try.prog 38 #[.slice A1 (nform (fval f)).length c1] W (ToldFm W (nform (ren tn (nform (fval f))))) from fun W C v h => by
    obtain ⟨A1, c1, rfl, h1⟩ := h.fin
    have hl := ren_length tn (nform (fval f))
    have h2 := r6_Norm A1 c1 _ W (h1.raw (by rw [hl, mf_ren]; omega))
    rw [fval_can, List.length_map, hl] at h2
    exact ⟨A1, c1, by rw [hl], h2⟩)
  clear h ht hs hml
  generalize nform (fval f) = l at *
  go_enter Try.func23, Try.ntmps23
  go_wp2_with fail
  refine hAll.out.mono ?_
  rintro e W1 ⟨v, rfl, h1, h2⟩
  obtain ⟨A1, c1, rfl, h3⟩ := h1.fin
  have Q0 := Lib.hid h3
  have HB1 := Lib.hid h2
  have hw1 := HB1.out.size
  clear h1 h2 h3 hAll
  go_wp2
  go_loopg [7, 8] l.length (fun gg s7 s8 wr => ∃ (i : Nat) (v : Value), i + gg = l.length ∧ s8 = .int .i64 i ∧ v = s7 ∧ Hid ((l.take i).all (inr tn.length) = true) ∧ Hid (OwnF wr W1.heap.size v (ren tn (l.take i))) ∧ Hid (Below W1.heap.size W1 wr))
  case atStart => exact ⟨0, _, by omega, rfl, rfl, by rw [List.take_zero]; rfl, OwnF.nil _ _, Below.refl _ _⟩
  case round =>
    obtain ⟨i, v, hg, rfl, rfl, HI, HO, HB⟩ := hrel
    by_cases hlt : i < l.length
    · have hltz : (i : Int) < (l.length : Int) := by omega
      have HS := Lib.hid (ren_succ tn l i hlt)
      have HI2 := Lib.hid (all_succ tn.length l i hlt HI.out)
      have HX := Lib.hid (fun h => all_false (n := tn.length) (List.getElem_mem hlt) h)
      obtain ⟨ad, r, rfl, hvq, hat, j1, j2, j3, j4⟩ := (Q0.out.below HB.out).at_ i hlt
      rw [← hvq] at HS HI2 HX
      obtain ⟨u, q, A2, c2, B2, d2⟩ := r
      dsimp only at j1 j2 j3 j4
      have Q := Lib.hid hat
      clear hat hvq HI
      by_cases hneg : u < 0
      · have ha := Lib.hid (HX.out (.inl hneg))
        have HB2 := Lib.hid (HB1.out.trans (HB.out.mono hw1))
        clear HX HS HI2 HO HB hN hT
        go_wp2
        go_ret2
        exact told_bad ha.out HB2.out
      · by_cases hbig : u < (tn.length : Int)
        · obtain ⟨k, rfl⟩ : ∃ k : Nat, u = k := ⟨u.toNat, by omega⟩
          have hk : k < tn.length := by omega
          have hk0 : 0 ≤ (k : Int) := by omega
          replace HI2 := Lib.hid (HI2.out (inr_true (m := (MC.mk (k : Int) q A2 c2 B2 d2).vq) hk0 hbig))
          have e0 : tn.getD ((MC.mk (k : Int) q A2 c2 B2 d2).vq.1).toNat 0 = tn[k] := by
            show tn.getD (k : Int).toNat 0 = _
            rw [Int.toNat_natCast, List.getD_eq_getElem?_getD, List.getElem?_eq_getElem hk]
            rfl
          rw [e0] at HS
          clear e0
          obtain ⟨bd, rfl, hbc⟩ := Knd.at_int (hT.out wr (HB1.out.trans (HB.out.mono hw1))) k hk
          generalize tn[k] = t at *
          have HF : Hid (Fr wr wr []) := Fr.refl wr
          have hw2 := HB.out.size
          have hnl := ren_length tn (l.take i)
          rw [List.length_take] at hnl
          clear hN HX
          go_wp2_with fail
          replace HO := Lib.hid (HO.out.below (Below.drew (Below.refl _ _)))
          have HF_ := Lib.hid HF.out.drew
          clear HF
          have HF := HF_
          clear HF_
          refine start_ (n := 18) (S := fun w' => w'.cell? (ad.add (i * 4)) = some (.int .i64 (k : Int)) ∧ w'.cell? (nxt (ad.add (i * 4)) 1) = some (.bool (decide (q.num < 0))) ∧ w'.cell? (nxt (ad.add (i * 4)) 2) = some (.slice A2 (dg q.num.natAbs).length c2) ∧ w'.cell? (nxt (ad.add (i * 4)) 3) = some (.slice B2 (dg q.den).length d2) ∧ w'.cell? (bd.add k) = some (.int .i64 t)) (ds := [16]) #[false, false, false, false, false, false, false, false, false, false, false, false, false, false, false, false, false, false] (by kernel_rfl) rfl rfl ⟨cell_below HF.out.bel j1, cell_below HF.out.bel j2, cell_below HF.out.bel j3, cell_below HF.out.bel j4, cell_below HF.out.bel hbc⟩ (fun hHeld => ?_)
          generalize World.drew _ = W at *
          refine pure_ (i := 0) (N := (some 33)) (v := ?_) (a' := ?_) #[true, false, false, false, false, false, false, false, false, false, false, false, false, false, false, false, false, false] rfl rfl (by kernel_rfl) (fun _ _ _ h => h) (Or.inl ⟨by rfl, ?_⟩) ?_ ?_
          rotate_left
          · intro w'
            go_simp
            with_reducible rfl
          rotate_left
          · simp only [Act.put, List.setIfInBounds_toArray, List.set_cons_zero, List.set_cons_succ]
            rfl
          refine pure_ (i := 1) (N := (some 34)) (v := ?_) (a' := ?_) #[true, true, false, false, false, false, false, false, false, false, false, false, false, false, false, false, false, false] rfl rfl (by kernel_rfl) (fun _ _ _ h => h) (Or.inl ⟨by rfl, ?_⟩) ?_ ?_
          rotate_left
          · intro w'
            go_simp
            with_reducible rfl
          rotate_left
          · simp only [Act.put, List.setIfInBounds_toArray, List.set_cons_zero, List.set_cons_succ]
            rfl
          refine pure_ (i := 2) (N := (some 35)) (v := ?_) (a' := ?_) #[true, true, true, false, false, false, false, false, false, false, false, false, false, false, false, false, false, false] rfl rfl (by kernel_rfl) (fun _ _ _ h => h) (Or.inl ⟨by rfl, ?_⟩) ?_ ?_
          rotate_left
          · intro w'
            go_simp
            with_reducible rfl
          rotate_left
          · simp only [Act.put, List.setIfInBounds_toArray, List.set_cons_zero, List.set_cons_succ]
            rfl
          refine pure_ (i := 3) (N := (some 36)) (v := ?_) (a' := ?_) #[true, true, true, true, false, false, false, false, false, false, false, false, false, false, false, false, false, false] rfl rfl (by kernel_rfl) (fun _ _ _ h => h) (Or.inl ⟨by rfl, ?_⟩) ?_ ?_
          rotate_left
          · intro w'
            go_simp
            with_reducible rfl
          rotate_left
          · simp only [Act.put, List.setIfInBounds_toArray, List.set_cons_zero, List.set_cons_succ]
            rfl
          refine pure_ (i := 4) (N := (some 37)) (v := ?_) (a' := ?_) #[true, true, true, true, true, false, false, false, false, false, false, false, false, false, false, false, false, false] rfl rfl (by kernel_rfl) (fun _ _ _ h => h) (Or.inl ⟨by rfl, ?_⟩) ?_ ?_
          rotate_left
          · intro w'
            go_simp
            with_reducible rfl
          rotate_left
          · simp only [Act.put, List.setIfInBounds_toArray, List.set_cons_zero, List.set_cons_succ]
            rfl
          refine pure_ (i := 5) (N := (some 38)) (v := ?_) (a' := ?_) #[true, true, true, true, true, true, false, false, false, false, false, false, false, false, false, false, false, false] rfl rfl (by kernel_rfl) (fun _ _ _ h => h) (Or.inl ⟨by rfl, ?_⟩) ?_ ?_
          rotate_left
          · intro w'
            go_simp
            with_reducible rfl
          rotate_left
          · simp only [Act.put, List.setIfInBounds_toArray, List.set_cons_zero, List.set_cons_succ]
            rfl
          refine pure_ (i := 9) (N := (some 42)) (v := ?_) (a' := ?_) #[true, true, true, true, true, true, false, false, false, true, false, false, false, false, false, false, false, false] rfl rfl (by kernel_rfl) (fun _ _ _ h => h) (Or.inl ⟨by rfl, ?_⟩) ?_ ?_
          rotate_left
          · intro w'
            go_simp
            with_reducible rfl
          rotate_left
          · simp only [Act.put, List.setIfInBounds_toArray, List.set_cons_zero, List.set_cons_succ]
            rfl
          refine pure_ (i := 10) (N := (some 43)) (v := ?_) (a' := ?_) #[true, true, true, true, true, true, false, false, false, true, true, false, false, false, false, false, false, false] rfl rfl (by kernel_rfl) (fun _ _ _ h => h) (Or.inl ⟨by rfl, ?_⟩) ?_ ?_
          rotate_left
          · intro w'
            go_simp
            with_reducible rfl
          rotate_left
          · simp only [Act.put, List.setIfInBounds_toArray, List.set_cons_zero, List.set_cons_succ]
            rfl
          refine pure_ (i := 11) (N := (some 44)) (v := ?_) (a' := ?_) #[true, true, true, true, true, true, false, false, false, true, true, true, false, false, false, false, false, false] rfl rfl (by kernel_rfl) (fun _ _ _ h => h) (Or.inl ⟨by rfl, ?_⟩) ?_ ?_
          rotate_left
          · intro w'
            go_simp
            with_reducible rfl
          rotate_left
          · simp only [Act.put, List.setIfInBounds_toArray, List.set_cons_zero, List.set_cons_succ]
            rfl
          refine pure_ (i := 12) (N := (some 45)) (v := ?_) (a' := ?_) #[true, true, true, true, true, true, false, false, false, true, true, true, true, false, false, false, false, false] rfl rfl (by kernel_rfl) (fun _ _ _ h => h) (Or.inl ⟨by rfl, ?_⟩) ?_ ?_
          rotate_left
          · intro w'
            go_simp
            with_reducible rfl
          rotate_left
          · simp only [Act.put, List.setIfInBounds_toArray, List.set_cons_zero, List.set_cons_succ]
            rfl
          refine take_ (i := 6) (N := (some 39)) (v := ?_) (a' := ?_) #[true, true, true, true, true, true, true, false, false, true, true, true, true, false, false, false, false, false] rfl rfl (by kernel_rfl) (fun _ _ _ h => h) (Or.inl ⟨by rfl, ?_⟩) hHeld ?_ ?_
          rotate_left
          · rintro w' ⟨s0, s1, s2, s3, s4⟩
            go_simp
            with_reducible rfl
          rotate_left
          · simp only [Act.put, List.setIfInBounds_toArray, List.set_cons_zero, List.set_cons_succ]
            rfl
          refine pure_ (i := 7) (N := (some 40)) (v := ?_) (a' := ?_) #[true, true, true, true, true, true, true, true, false, true, true, true, true, false, false, false, false, false] rfl rfl (by kernel_rfl) (fun _ _ _ h => h) (Or.inl ⟨by rfl, ?_⟩) ?_ ?_
          rotate_left
          · intro w'
            go_simp
            with_reducible rfl
          rotate_left
          · simp only [Act.put, List.setIfInBounds_toArray, List.set_cons_zero, List.set_cons_succ]
            rfl
          refine take_ (i := 8) (N := (some 41)) (v := ?_) (a' := ?_) #[true, true, true, true, true, true, true, true, true, true, true, true, true, false, false, false, false, false] rfl rfl (by kernel_rfl) (fun _ _ _ h => h) (Or.inl ⟨by rfl, ?_⟩) hHeld ?_ ?_
          rotate_left
          · rintro w' ⟨s0, s1, s2, s3, s4⟩
            go_simp
            with_reducible rfl
          rotate_left
          · simp only [Act.put, List.setIfInBounds_toArray, List.set_cons_zero, List.set_cons_succ]
            rfl
          refine take_ (i := 13) (N := (some 46)) (v := ?_) (a' := ?_) #[true, true, true, true, true, true, true, true, true, true, true, true, true, true, false, false, false, false] rfl rfl (by kernel_rfl) (fun _ _ _ h => h) (Or.inl ⟨by rfl, ?_⟩) hHeld ?_ ?_
          rotate_left
          · rintro w' ⟨s0, s1, s2, s3, s4⟩
            go_simp
            with_reducible rfl
          rotate_left
          · simp only [Act.put, List.setIfInBounds_toArray, List.set_cons_zero, List.set_cons_succ]
            rfl
          refine pure_ (i := 14) (N := (some 47)) (v := ?_) (a' := ?_) #[true, true, true, true, true, true, true, true, true, true, true, true, true, true, true, false, false, false] rfl rfl (by kernel_rfl) (fun _ _ _ h => h) (Or.inl ⟨by rfl, ?_⟩) ?_ ?_
          rotate_left
          · intro w'
            go_simp
            with_reducible rfl
          rotate_left
          · simp only [Act.put, List.setIfInBounds_toArray, List.set_cons_zero, List.set_cons_succ]
            rfl
          refine one_ (i := 15) (N := (some 48)) #[true, true, true, true, true, true, true, true, true, true, true, true, true, true, true, true, false, false] rfl rfl (by kernel_rfl) (by decide) (fun K hK => ?_)
          refine value_ (v := ?_) (w1 := ?_) (by rfl) rfl ?_ ?_
          rotate_left
          rotate_left
          · go_simp
            first | rfl | (refine ⟨?_, ?_⟩ <;> rfl)
          have hown := Lib.hid (Own.mk (w := W) (MC.mk t q A2 c2 B2 d2).cells 75)
          have hbe := Lib.hid ((Below.refl _ W).alloc (Nat.le_refl _) (.cells (MC.mk t q A2 c2 B2 d2).cells.toArray 75))
          have hgg := HF.out.bel.size
          replace HO := Lib.hid (HO.out.below hbe.out)
          replace HF := Lib.hid (HF.out.below hbe.out)
          have hsz := hbe.out.size
          refine hK.out _ _ ⟨cell_below HF.out.bel j1, cell_below HF.out.bel j2, cell_below HF.out.bel j3, cell_below HF.out.bel j4, cell_below HF.out.bel hbc⟩ (fun hHeld => ?_)
          clear hK K
          refine norm_ (a' := ?_) ?_ ?_
          rotate_left
          · show Act.put _ (some 48) _ = _
            simp only [Act.put, List.setIfInBounds_toArray, List.set_cons_zero, List.set_cons_succ]
            rfl
          obtain ⟨g, hg0⟩ : ∃ g, g = W.heap.size := ⟨_, rfl⟩
          obtain ⟨W1, hV⟩ : ∃ X, X = W.alloc (.cells (MC.mk t q A2 c2 B2 d2).cells.toArray 75) := ⟨_, rfl⟩
          rw [← hV] at HF HO hown hsz
          rw [← hg0] at hown hgg hsz
          rw [show W.alloc (.cells #[.int .i64 t, .bool (decide (q.num < 0)), .slice A2 (dg q.num.natAbs).length c2, .slice B2 (dg q.den).length d2] 75) = W1 from hV.symm, ← hg0]
          clear hg0 hV hbe
          refine last_ (i := 16) (N := (some 49)) #[true, true, true, true, true, true, true, true, true, true, true, true, true, true, true, true, true, false] rfl rfl (by kernel_rfl) (by decide) (fun K hK => ?_)
          obtain ⟨v_, W2, hpush, hO', hS'⟩ := push1 (t := 23) (ty := 23) (r := MC.mk t q A2 c2 B2 d2) Try.underlying23 HO.out ⟨(Q.out.inq.below HF.out.bel), Q.out.ql⟩ hown.out (by omega) (by omega)
          refine push_ (by rfl) rfl rfl rfl rfl hpush ?_
          clear hpush
          have HB2 := Lib.hid ((HB.out.trans (HF.out.bel.mono hw2)).trans hS'.below)
          have HO2 := Lib.hid (show OwnF _ _ _ _ from hO')
          replace HO2 : Hid (OwnF _ _ _ (ren tn (l.take i) ++ [(t, (MC.mk (k : Int) q A2 c2 B2 d2).vq.2)])) := HO2
          rw [← HS.out] at HO2
          clear hO' hS' HO HF Q HB
          refine hK.out _ _ ?_
          clear hK K
          refine norm_ (a' := ?_) ?_ ?_
          rotate_left
          · show Act.put _ (some 49) _ = _
            simp only [Act.put, List.setIfInBounds_toArray, List.set_cons_zero, List.set_cons_succ]
            rfl
          refine pure_ (i := 17) (N := (some 7)) (v := ?_) (a' := ?_) #[true, true, true, true, true, true, true, true, true, true, true, true, true, true, true, true, true, true] rfl rfl (by kernel_rfl) (fun _ _ _ h => h) (Or.inl ⟨by rfl, ?_⟩) ?_ ?_
          rotate_left
          · intro w'
            go_simp
            with_reducible rfl
          rotate_left
          · simp only [Act.put, List.setIfInBounds_toArray, List.set_cons_zero, List.set_cons_succ]
            rfl
          refine done_ (by kernel_rfl) ?_
          go_wp2
          go_roundg (l.length - (i + 1))
          case measure => omega
          case rel => exact ⟨i + 1, _, by omega, by go_num, rfl, HI2, HO2, HB2⟩
        · have ha := Lib.hid (HX.out (.inr hbig))
          have HB2 := Lib.hid (HB1.out.trans (HB.out.mono hw1))
          clear HX HS HI2 HO HB hN hT
          go_wp2
          go_ret2
          exact told_bad ha.out HB2.out
    · have hltz : ¬ (i : Int) < (l.length : Int) := by omega
      rw [List.take_of_length_le (by omega)] at HO HI
      obtain ⟨A2, c2, rfl, hC⟩ := hN.out wr _ v HO.out
      have HC := Lib.hid hC
      clear hC HO hN hT
      go_wp2_with fail
      refine HC.out.mono ?_
      rintro e W3 ⟨v, rfl, h1, h2⟩
      have HO := Lib.hid (h1.mono (show w.heap.size ≤ wr.heap.size by have := HB.out.size; omega))
      have HB9 := Lib.hid ((HB1.out.trans (HB.out.mono hw1)).trans (h2.mono (by have := HB.out.size; omega)))
      clear h1 h2 HC
      go_wp2
      go_ret2
      exact told_good HI.out HO.out HB9.out

/-- a form of the call's own: one variable's name is another -/
theorem flat_setV (rs : List MC) (i : Nat) (hi : i < rs.length) (u : Int) : (rs.flatMap MC.cells).set (i * 4) (.int .i64 u) = (rs.set i { rs[i] with v := u }).flatMap MC.cells := by
  induction rs generalizing i with
  | nil => simp at hi
  | cons a rs ih =>
    cases i with
    | zero => simp only [List.flatMap_cons, List.set_cons_zero, MC.cells, Nat.zero_mul, List.cons_append, List.getElem_cons_zero]
    | succ i =>
      have h := ih i (by simpa using hi)
      simp only [List.flatMap_cons, List.set_cons_succ, List.getElem_cons_succ]
      rw [← h, List.set_append_right _ _ (by show 4 ≤ _; omega), show (i + 1) * 4 - a.cells.length = i * 4 by show _ - 4 = _; omega]
theorem OwnR.putV {w : World} {B g cap : Nat} {rs : List MC} (h : OwnR w B g cap rs) (i : Nat) (hi : i < rs.length) (u : Int) :
    OwnR (w.setCell ⟨g, i * 4, none⟩ (.int .i64 u)) B g cap (rs.set i { rs[i] with v := u }) ∧ KeepU w (w.setCell ⟨g, i * 4, none⟩ (.int .i64 u)) := by
  obtain ⟨h1, k1⟩ := h.own.setCell (i * 4) (by omega) (u := .int .i64 u) (fun y e => by cases e)
  rw [flat_setV rs i hi u] at h1
  refine ⟨⟨by rw [List.length_set]; exact h1, fun x hx => ?_⟩, k1⟩
  rcases List.mem_or_eq_of_mem_set hx with hx | rfl
  · exact (h.at_ x hx).keep k1
  · have := (h.at_ _ (List.getElem_mem hi)).keep k1
    exact ⟨this.inq, this.ql⟩

set_option maxHeartbeats 2000000 in
set_option maxRecDepth 100000 in
theorem linear_Rename (A : Option Addr) (c : Nat) (f : List (Int × RatD)) (B : Option Addr) (d : Nat) (tn : List Int) (w : World) (h : FRaw w A c f) (ht : (Knd.int .i64).Row w B tn) (hc : tn.length ≤ d) (hd : tn.length ≤ 9223372036854775807) (hs : 2 * mf (fval f) + 5 * f.length ≤ 137438953471) :
    Calls Try.prog 22 #[.slice A f.length c, .slice B tn.length d] w (ToldRn w tn (nform (fval f))) := by
  have hlen := h.len
  have hAll := Lib.hid (linear_Norm f.length A c f w (Nat.le_refl _) h)
  have hT := Lib.hid (fun (W : World) (hb : Below w.heap.size w W) => ht.below hb)
  have hvl : (nform (fval f)).length ≤ f.length := by have := nform_len (fval f); rwa [fval_length] at this
  have hml := mf_nform (fval f)
  have hN := Lib.hid (show ∀ (W : World) (C : Nat) (v : Value), OwnF W C v (ren tn (nform (fval f))) → ∃ (A1 : Option Addr) (c1 : Nat), v = .slice A1 (nform (fval f)).length c1 ∧ Calls Try.prog 29 #[.slice A1 (nform (fval f)).length c1] W (ToldFm W (nform (ren tn (nform (fval f))))) from fun W C v h => by
    obtain ⟨A1, c1, rfl, h1⟩ := h.fin
    have hl := ren_length tn (nform (fval f))
    have h2 := linear_Norm _ A1 c1 _ W (Nat.le_refl _) (h1.raw (by rw [hl, mf_ren]; omega))
    rw [fval_can, List.length_map, hl] at h2
    exact ⟨A1, c1, by rw [hl], h2⟩)
  clear h ht hs hml
  generalize nform (fval f) = l at *
  go_enter Try.func22, Try.ntmps22
  go_wp2_with fail
  refine hAll.out.mono ?_
  rintro e W1 ⟨v, rfl, h1, h2⟩
  have HB1 := Lib.hid h2
  have hw1 := HB1.out.size
  obtain ⟨rs, hrs, hown, hat⟩ := h1
  clear h2 hAll
  rcases hown.2 with ⟨rfl, hl0⟩ | ⟨g, cap, cur, rfl, hgB, hrest⟩
  · have : l = [] := List.eq_nil_of_length_eq_zero hl0
    subst this
    rw [show ren tn [] = [] from rfl] at hN
    clear hown hat hrs hl0 hT
    go_wp2
    go_loopg [12] 0 (fun gg s12 wr => s12 = .int .i64 0 ∧ wr = W1)
    case atStart => exact ⟨rfl, rfl⟩
    case round =>
      obtain ⟨rfl, rfl⟩ := hrel
      obtain ⟨A2, c2, hv, hC⟩ := hN.out wr 0 _ (OwnF.nil _ _)
      cases hv
      have HC := Lib.hid hC
      clear hC hN
      simp only [List.length_nil] at HC
      go_wp2_with fail
      refine HC.out.mono ?_
      rintro e W3 ⟨v, rfl, h1, h2⟩
      have HO := Lib.hid (h1.mono hw1)
      have HB9 := Lib.hid (HB1.out.trans (h2.mono hw1))
      clear h1 h2 HC
      go_wp2
      go_ret2
      exact told_good rfl HO.out HB9.out
  · have hrl : rs.length = l.length := by rw [← hrs]; simp
    have HO := Lib.hid (show OwnR W1 w.heap.size g cap rs from ⟨by rw [hrl]; exact hown, hat⟩)
    have HRS := Lib.hid hrs
    have HF := Lib.hid (show Fr w W1 [] from ⟨HB1.out, fun b hb => by cases hb⟩)
    clear hown hat hrs hrest HB1
    go_wp2
    go_loopg [12] l.length (fun gg s12 wr => ∃ (i : Nat) (ts : List MC), i + gg = l.length ∧ s12 = .int .i64 i ∧ ts.length ≤ l.length ∧ l.length ≤ ts.length ∧ Hid ((l.take i).all (inr tn.length) = true) ∧ Hid (ts.map MC.vq = ren tn (l.take i) ++ l.drop i) ∧ Hid (OwnR wr w.heap.size g cap ts) ∧ Hid (Fr w wr []))
    case atStart => exact ⟨0, rs, by omega, rfl, by omega, by omega, by rw [List.take_zero]; rfl, by show _ = _; rw [HRS.out]; rfl, HO, HF⟩
    case round =>
      clear HO HF HRS
      obtain ⟨i, ts, hg, rfl, ht1, ht2, HI, HT, HO, HF⟩ := hrel
      by_cases hlt : i < l.length
      · have hltz : (i : Int) < (l.length : Int) := by omega
        have hit : i < ts.length := by omega
        have hvq : (ts[i]).vq = l[i] := by
          have h1 : (ts.map MC.vq)[i]? = some (ts[i]).vq := by rw [List.getElem?_map, List.getElem?_eq_getElem hit]; rfl
          rw [HT.out, List.getElem?_append_right (by rw [ren_length, List.length_take]; omega)] at h1
          have h2 : i - (ren tn (l.take i)).length = 0 := by rw [ren_length, List.length_take]; omega
          rw [h2, List.getElem?_drop, Nat.add_zero, List.getElem?_eq_getElem hlt] at h1
          exact (Option.some.inj h1).symm
        have HS := Lib.hid (ren_succ tn l i hlt)
        have HI2 := Lib.hid (all_succ tn.length l i hlt HI.out)
        have HX := Lib.hid (fun h => all_false (n := tn.length) (List.getElem_mem hlt) h)
        rw [← hvq] at HS HI2 HX
        have q0 := HO.out.cell i hit 0 rfl
        have q1 := HO.out.cell i hit 1 rfl
        have q2 := HO.out.cell i hit 2 rfl
        have q3 := HO.out.cell i hit 3 rfl
        have HP := Lib.hid (fun (W : World) (h : OwnR W w.heap.size g cap ts) (u : Int) => (h.putV i hit u).1)
        have HT2 := Lib.hid (show ∀ u, (ts.set i { ts[i] with v := u }).map MC.vq = ren tn (l.take i) ++ [(u, (ts[i]).vq.2)] ++ l.drop (i + 1) from fun u => by
          have e1 : (ren tn (l.take i)).length = i := by rw [ren_length, List.length_take]; omega
          rw [List.map_set, HT.out, List.set_append_right _ _ (by omega), e1, Nat.sub_self, List.drop_eq_getElem_cons hlt, List.set_cons_zero, List.append_assoc]
          rfl)
        obtain ⟨r, hr⟩ : ∃ r, r = ts[i] := ⟨_, rfl⟩
        rw [← hr] at HS HI2 HX q0 q1 q2 q3 HP HT2
        obtain ⟨u, q, A2, c2, B2, d2⟩ := r
        dsimp only at HP HT2 q0 q1 q2 q3
        clear hr hvq HI HT
        rw [show i * 4 + 0 = i * 4 from rfl] at q0
        have hgg := HO.out.own.block.1
        have hal := Lib.hid ((Below.refl _ wr).alloc (Nat.le_refl _) (.cells #[.int .i64 u, .bool (decide (q.num < 0)), .slice A2 (dg q.num.natAbs).length c2, .slice B2 (dg q.den).length d2] 75))
        have HB2 := Lib.hid (HF.out.bel.trans (hal.out.mono HF.out.size))
        have HOn := Lib.hid (HO.out.below hal.out)
        by_cases hneg : u < 0
        · have ha := Lib.hid (HX.out (.inl hneg))
          clear HX HS HI2 HO HF hN hT HP HT2 hal HOn
          go_wp2
          go_ret2
          exact told_bad ha.out HB2.out
        · by_cases hbig : u < (tn.length : Int)
          · obtain ⟨k, rfl⟩ : ∃ k : Nat, u = k := ⟨u.toNat, by omega⟩
            have hk : k < tn.length := by omega
            have hk0 : 0 ≤ (k : Int) := by omega
            replace HI2 := Lib.hid (HI2.out (inr_true (m := (MC.mk (k : Int) q A2 c2 B2 d2).vq) hk0 hbig))
            have e0 : tn.getD ((MC.mk (k : Int) q A2 c2 B2 d2).vq.1).toNat 0 = tn[k] := by
              show tn.getD (k : Int).toNat 0 = _
              rw [Int.toNat_natCast, List.getD_eq_getElem?_getD, List.getElem?_eq_getElem hk]
              rfl
            rw [e0] at HS
            clear e0
            obtain ⟨bd, rfl, hbc⟩ := Knd.at_int (hT.out _ HB2.out) k hk
            generalize tn[k] = t at *
            have hfz := HOn.out.frozen (i * 4)
            have hcg := cell_below hal.out q0
            have HP2 := Lib.hid (HP.out _ HOn.out t)
            have HT3 := Lib.hid (show List.map MC.vq (ts.set i (MC.mk t q A2 c2 B2 d2)) = ren tn (l.take (i + 1)) ++ l.drop (i + 1) by rw [HS.out]; exact HT2.out t)
            have HFn := Lib.hid ((show Fr w (wr.alloc (.cells #[.int .i64 (k : Int), .bool (decide (q.num < 0)), .slice A2 (dg q.num.natAbs).length c2, .slice B2 (dg q.den).length d2] 75)) [] from ⟨HB2.out, fun b hb => by cases hb⟩).far (p := ⟨g, i * 4, none⟩) (by show w.heap.size ≤ g; omega) (by simp) (.int .i64 t))
            clear HX HS hN hT HT2 hal HOn HP HO HF HB2
            go_wp2
            go_roundg (l.length - (i + 1))
            case measure => omega
            case rel => exact ⟨i + 1, ts.set i (MC.mk t q A2 c2 B2 d2), by omega, by go_num, by simpa using ht1, by simpa using ht2, HI2, HT3, HP2, HFn⟩
          · have ha := Lib.hid (HX.out (.inr hbig))
            clear HX HS HI2 HO HF hN hT HP HT2 hal HOn
            go_wp2
            go_ret2
            exact told_bad ha.out HB2.out
      · have hltz : ¬ (i : Int) < (l.length : Int) := by omega
        have HT2 := Lib.hid (show ts.map MC.vq = ren tn l from by rw [HT.out, List.take_of_length_le (by omega), List.drop_of_length_le (by omega), List.append_nil])
        rw [List.take_of_length_le (by omega)] at HI
        have HE := Lib.hid (HO.out.ownF)
        rw [HT2.out, show ts.length = l.length by omega] at HE
        obtain ⟨A2, c2, hv, hC⟩ := hN.out wr _ _ HE.out
        cases hv
        have HC := Lib.hid hC
        clear hC HT HT2 HO hN hT HE
        go_wp2_with fail
        refine HC.out.mono ?_
        rintro e W3 ⟨v, rfl, h1, h2⟩
        have HO := Lib.hid (h1.mono (show w.heap.size ≤ wr.heap.size from HF.out.size))
        have HB9 := Lib.hid (HF.out.bel.trans (h2.mono HF.out.size))
        clear h1 h2 HC
        go_wp2
        go_ret2
        exact told_good HI.out HO.out HB9.out
end Go.Proofs.Ytchdoignomidjaa.F
