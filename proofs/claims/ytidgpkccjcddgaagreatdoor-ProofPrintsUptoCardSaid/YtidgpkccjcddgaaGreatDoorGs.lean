/- The reference's layer 17: zero, truth, constant. Condition: atoms of weight at most 1048576. -/
import Derived.Test.YtidgpkccjcddgaaGreatDoorGr
import Derived.BigQuiet
set_option linter.unusedVariables false
set_option linter.unusedSimpArgs false
namespace Go.Proofs.YtidgpkccjcddgaaGreatDoor.F
open Go.RowKit Go.Shelf Go.Proofs.YtidgpkccjcddgaaGreatDoorW.PrintLast
set_option maxHeartbeats 1000000 in
set_option maxRecDepth 100000 in
theorem r17_zero (w : World) : Calls Tryz.prog 219 #[] w fun e w' => ToldQ w 0 e w' := by
  have hW := Lib.hid (fun (W : World) => r3_Whole 0 W (by omega) (by omega))
  rw [show ((0 : Int) : Rat) = 0 from rfl] at hW
  obtain ⟨q, hq⟩ : ∃ q : Rat, q = 0 := ⟨_, rfl⟩
  rw [← hq] at hW ⊢
  clear hq
  have HF := Lib.hid ((Fr.refl w).box [.bool false, .slice none 0 0, .slice none 0 0] 43)
  go_enter Tryz.func219, Tryz.ntmps219
  go_wp2_with fail
  refine (hW.out _).mono ?_
  rintro e W1 ⟨A2, c2, B2, d2, rfl, g1, g2, g3⟩
  replace HF := Lib.hid (HF.out.below g3)
  have Q1 := Lib.hid g1
  have Q2 := Lib.hid g2
  clear g1 g2 g3 hW
  have hf0 := HF.out.frozenN 0 rfl 0
  have hf1 := HF.out.frozenN 0 rfl 1
  have hf2 := HF.out.frozenN 0 rfl 2
  have hd0 := HF.out.cellN 0 rfl 0 rfl
  have hd1 := HF.out.cellN 0 rfl 1 rfl
  have hd2 := HF.out.cellN 0 rfl 2 rfl
  have HE := Lib.hid (end_rat HF.out (by simp) (by simp) (by omega) Q1.out Q2.out rfl)
  generalize decide (q.num < 0) = b at HE ⊢
  go_wp2
  obtain ⟨f1, f2⟩ := HE.out
  exact post_own f2 rfl rfl rfl Tryz.underlying43 rfl (by kernel_rfl) f1
/-- is it the true one? -/
def truthA (a : AtomD) : Bool := decide (a.1.1.1.data = #[]) && (decide (a.1.1.2.length = 0) && (!a.2 && decide (a.1.2 = canD 0)))
/-- is it a Bool constant? -/
def constA (a : AtomD) : Bool := !decide (a.1.1.1.data = #[]) && (decide (a.1.1.2.length = 0) && (!a.2 && decide (a.1.2 = canD 0)))
set_option maxHeartbeats 2000000 in
set_option maxRecDepth 100000 in
theorem r17_truth (a : AtomD) (A : Option Addr) (c : Nat) (B : Option Addr) (d : Nat) (D : Option Addr) (e : Nat) (w : World) (h : AtIn w a A c B d D e) :
    Calls Tryz.prog 163 #[.agg (atc a A c B d D e).toArray] w (Decides w (truthA a)) := by
  have hl := h.lens
  have hZ := Lib.hid (fun (W : World) => r17_zero W)
  unfold truthA
  obtain ⟨q, hq⟩ : ∃ q : Rat, q = 0 := ⟨_, rfl⟩
  rw [← hq] at hZ ⊢
  have l1 : (canD q).1.2.length ≤ 1 := by rw [hq]; decide +kernel
  have l2 : (canD q).2.length ≤ 1 := by rw [hq]; decide +kernel
  have hR := Lib.hid (show ∀ (W : World) (hb : Below w.heap.size w W) (B' : Option Addr) (d' : Nat) (D' : Option Addr) (e' : Nat) (k : InQ W B' d' D' e' q), Calls Tryz.prog 221 #[.agg #[.bool a.1.2.1.1, .slice B a.1.2.1.2.length d, .slice D a.1.2.2.length e], .agg #[.bool (decide (q.num < 0)), .slice B' (dg q.num.natAbs).length d', .slice D' (dg q.den).length e']] W (Decides W (decide (a.1.2 = canD q))) from fun W hb B' d' D' e' k => r3_SameD a.1.2 (canD q) B d D e B' d' D' e' W (h.bound.below hb) ⟨k.num, k.den⟩ (by omega) (by omega) (by omega) (by omega))
  clear h hl l1 l2 hq
  unfold atc
  obtain ⟨⟨⟨nm, f⟩, ⟨⟨s, xs⟩, ys⟩⟩, st⟩ := a
  dsimp only at *
  generalize decide ((((s, xs), ys) : RatD) = canD q) = b at *
  have HF := Lib.hid ((Fr.refl w).box [.string nm, .slice A f.length c, .bool s, .slice B xs.length d, .slice D ys.length e, .bool st] 84)
  generalize f.length = n1 at *
  generalize xs.length = n2 at *
  generalize ys.length = n3 at *
  simp only [List.toArray] at *
  by_cases hn : nm.data = #[]
  · obtain ⟨dn⟩ := nm
    dsimp only at hn
    subst hn
    rw [decide_eq_true rfl]
    by_cases h0 : n1 = 0
    · subst h0
      cases st with
      | true =>
        clear hZ hR
        go_enter Tryz.func163, Tryz.ntmps163
        go_wp2_with fail
        go_quiet (fail)
        go_wp2
        go_ret
        exact ⟨rfl, below_drewN HF.out.bel _⟩
      | false =>
        go_enter Tryz.func163, Tryz.ntmps163
        go_wp2_with fail
        generalize World.alloc _ _ = W at HF ⊢
        have HF_ := Lib.hid HF.out.drew
        clear HF
        have HF := HF_
        clear HF_
        refine start_ (n := 21) (S := fun w' => w'.cell? ⟨w.heap.size, 0, none⟩ = some (.string ⟨#[]⟩) ∧ w'.cell? ⟨w.heap.size, 1, none⟩ = some (.slice A 0 c) ∧ w'.cell? ⟨w.heap.size, 2, none⟩ = some (.bool s) ∧ w'.cell? ⟨w.heap.size, 3, none⟩ = some (.slice B n2 d) ∧ w'.cell? ⟨w.heap.size, 4, none⟩ = some (.slice D n3 e) ∧ w'.cell? ⟨w.heap.size, 5, none⟩ = some (.bool false)) (ds := []) #[false, false, false, false, false, false, false, false, false, false, false, false, false, false, false, false, false, false, false, false, false] (by kernel_rfl) rfl rfl ⟨HF.out.cellN 0 rfl 0 rfl, HF.out.cellN 0 rfl 1 rfl, HF.out.cellN 0 rfl 2 rfl, HF.out.cellN 0 rfl 3 rfl, HF.out.cellN 0 rfl 4 rfl, HF.out.cellN 0 rfl 5 rfl⟩ (fun hHeld => ?_)
        generalize World.drew _ = W at *
        refine pu_ (v := ?_) (a' := ?_) 0 (some 3) rfl rfl ?_ ?_ ?_
        rotate_left; · intro w'; go_simp; with_reducible rfl
        rotate_left; · simp only [Act.put, s1, s2, s3]; rfl
        refine tk_ (v := ?_) (a' := ?_) 1 (some 4) rfl rfl ?_ hHeld ?_ ?_
        rotate_left
        · rintro w' ⟨s0, s1, s2, s3, s4, s5⟩; go_simp; with_reducible rfl
        rotate_left; · simp only [Act.put, s1, s2, s3]; rfl
        refine pu_ (v := ?_) (a' := ?_) 2 (some 5) rfl rfl ?_ ?_ ?_
        rotate_left; · intro w'; go_simp; with_reducible rfl
        rotate_left; · simp only [Act.put, s1, s2, s3]; rfl
        refine pu_ (v := ?_) (a' := ?_) 3 (some 6) rfl rfl ?_ ?_ ?_
        rotate_left; · intro w'; go_simp; with_reducible rfl
        rotate_left; · simp only [Act.put, s1, s2, s3]; rfl
        refine pu_ (v := ?_) (a' := ?_) 4 (some 7) rfl rfl ?_ ?_ ?_
        rotate_left; · intro w'; go_simp; with_reducible rfl
        rotate_left; · simp only [Act.put, s1, s2, s3]; rfl
        refine tk_ (v := ?_) (a' := ?_) 5 (some 8) rfl rfl ?_ hHeld ?_ ?_
        rotate_left
        · rintro w' ⟨s0, s1, s2, s3, s4, s5⟩; go_simp; with_reducible rfl
        rotate_left; · simp only [Act.put, s1, s2, s3]; rfl
        refine pu_ (v := ?_) (a' := ?_) 6 (some 9) rfl rfl ?_ ?_ ?_
        rotate_left; · intro w'; go_simp; with_reducible rfl
        rotate_left; · simp only [Act.put, s1, s2, s3]; rfl
        refine pu_ (v := ?_) (a' := ?_) 7 (some 10) rfl rfl ?_ ?_ ?_
        rotate_left; · intro w'; go_simp; with_reducible rfl
        rotate_left; · simp only [Act.put, s1, s2, s3]; rfl
        refine pu_ (v := ?_) (a' := ?_) 8 (some 11) rfl rfl ?_ ?_ ?_
        rotate_left; · intro w'; go_simp; with_reducible rfl
        rotate_left; · simp only [Act.put, s1, s2, s3]; rfl
        refine pu_ (v := ?_) (a' := ?_) 9 (some 12) rfl rfl ?_ ?_ ?_
        rotate_left; · intro w'; go_simp; with_reducible rfl
        rotate_left; · simp only [Act.put, s1, s2, s3]; rfl
        refine pu_ (v := ?_) (a' := ?_) 10 (some 13) rfl rfl ?_ ?_ ?_
        rotate_left; · intro w'; go_simp; with_reducible rfl
        rotate_left; · simp only [Act.put, s1, s2, s3]; rfl
        refine tk_ (v := ?_) (a' := ?_) 11 (some 14) rfl rfl ?_ hHeld ?_ ?_
        rotate_left
        · rintro w' ⟨s0, s1, s2, s3, s4, s5⟩; go_simp; with_reducible rfl
        rotate_left; · simp only [Act.put, s1, s2, s3]; rfl
        refine pu_ (v := ?_) (a' := ?_) 12 (some 15) rfl rfl ?_ ?_ ?_
        rotate_left; · intro w'; go_simp; with_reducible rfl
        rotate_left; · simp only [Act.put, s1, s2, s3]; rfl
        refine pu_ (v := ?_) (a' := ?_) 13 (some 16) rfl rfl ?_ ?_ ?_
        rotate_left; · intro w'; go_simp; with_reducible rfl
        rotate_left; · simp only [Act.put, s1, s2, s3]; rfl
        refine pu_ (v := ?_) (a' := ?_) 14 (some 17) rfl rfl ?_ ?_ ?_
        rotate_left; · intro w'; go_simp; with_reducible rfl
        rotate_left; · simp only [Act.put, s1, s2, s3]; rfl
        refine pu_ (v := ?_) (a' := ?_) 15 (some 18) rfl rfl ?_ ?_ ?_
        rotate_left; · intro w'; go_simp; with_reducible rfl
        rotate_left; · simp only [Act.put, s1, s2, s3]; rfl
        refine tk_ (v := ?_) (a' := ?_) 16 (some 19) rfl rfl ?_ hHeld ?_ ?_
        rotate_left
        · rintro w' ⟨s0, s1, s2, s3, s4, s5⟩; go_simp; with_reducible rfl
        rotate_left; · simp only [Act.put, s1, s2, s3]; rfl
        refine on_ 17 (N := (some 20)) rfl rfl (fun K hK => ?_)
        refine goes_ Tryz.func219 (by kernel_rfl) rfl #[] (by rfl) rfl rfl (by (try simp only [List.map_toArray, List.map_cons, List.map_nil]); first | done | rfl) ?_
        refine (hZ.out W).mono ?_
        rintro e W1 ⟨A2, c2, B2, d2, rfl, q1, q2, q3⟩
        refine ⟨_, rfl, ?_⟩
        replace HF := Lib.hid (HF.out.below q3)
        have Q := Lib.hid (InQ.mk q1 q2)
        clear q1 q2 q3 hZ
        refine hK.out _ _ ⟨HF.out.cellN 0 rfl 0 rfl, HF.out.cellN 0 rfl 1 rfl, HF.out.cellN 0 rfl 2 rfl, HF.out.cellN 0 rfl 3 rfl, HF.out.cellN 0 rfl 4 rfl, HF.out.cellN 0 rfl 5 rfl⟩ (fun hHeld => ?_)
        clear hK K
        refine norm_ (a' := ?_) ?_ ?_
        rotate_left
        · show Act.put _ (some 20) _ = _
          simp only [Act.put, s1, s2, s3]; rfl
        refine on_ 18 (N := (some 21)) rfl rfl (fun K hK => ?_)
        refine goes_ Tryz.func221 (by kernel_rfl) rfl #[.agg #[.bool s, .slice B n2 d, .slice D n3 e], .agg #[.bool (decide (q.num < 0)), .slice A2 (dg q.num.natAbs).length c2, .slice B2 (dg q.den).length d2]] (by rfl) rfl rfl (by (try simp only [List.map_toArray, List.map_cons, List.map_nil]); first | done | rfl) ?_
        refine (hR.out W1 HF.out.bel _ _ _ _ Q.out).mono ?_
        rintro e W2 ⟨rfl, q3⟩
        refine ⟨_, rfl, ?_⟩
        replace HF := Lib.hid (HF.out.below q3)
        clear q3 Q hR
        refine hK.out _ _ ⟨HF.out.cellN 0 rfl 0 rfl, HF.out.cellN 0 rfl 1 rfl, HF.out.cellN 0 rfl 2 rfl, HF.out.cellN 0 rfl 3 rfl, HF.out.cellN 0 rfl 4 rfl, HF.out.cellN 0 rfl 5 rfl⟩ (fun hHeld => ?_)
        clear hK K
        refine norm_ (a' := ?_) ?_ ?_
        rotate_left
        · show Act.put _ (some 21) _ = _
          simp only [Act.put, s1, s2, s3]; rfl
        refine pu_ (v := ?_) (a' := ?_) 19 (some 22) rfl rfl ?_ ?_ ?_
        rotate_left; · intro w'; go_simp; with_reducible rfl
        rotate_left; · simp only [Act.put, s1, s2, s3]; rfl
        refine pu_ (v := ?_) (a' := ?_) 20 (some 2) rfl rfl ?_ ?_ ?_
        rotate_left; · intro w'; go_simp; with_reducible rfl
        rotate_left; · simp only [Act.put, s1, s2, s3]; rfl
        refine done_ (by kernel_rfl) ?_
        go_wp2
        go_ret
        exact ⟨ret_bool (show b = (true && (decide ((0 : Nat) = 0) && (!false && b))) from rfl), HF.out.bel⟩
    · have h0b : ((n1 : Int) == 0) = false := by rw [beq_eq_false_iff_ne]; omega
      rw [decide_eq_false h0]
      clear h0 hZ hR
      go_enter Tryz.func163, Tryz.ntmps163
      go_wp2_with fail
      go_quiet (fail)
      go_wp2
      go_ret
      exact ⟨rfl, below_drewN HF.out.bel _⟩
  · have hne : nm.toList.isEmpty = false := by rw [Lib.toList_data]; simpa using hn
    rw [decide_eq_false hn]
    clear hn
    clear hZ hR
    go_enter Tryz.func163, Tryz.ntmps163
    go_wp2_with fail
    go_quiet (fail)
    go_wp2
    go_ret
    exact ⟨rfl, below_drewN HF.out.bel _⟩
set_option maxHeartbeats 2000000 in
set_option maxRecDepth 100000 in
theorem r17_constant (a : AtomD) (A : Option Addr) (c : Nat) (B : Option Addr) (d : Nat) (D : Option Addr) (e : Nat) (w : World) (h : AtIn w a A c B d D e) :
    Calls Tryz.prog 164 #[.agg (atc a A c B d D e).toArray] w (Decides w (constA a)) := by
  have hl := h.lens
  have hZ := Lib.hid (fun (W : World) => r17_zero W)
  unfold constA
  obtain ⟨q, hq⟩ : ∃ q : Rat, q = 0 := ⟨_, rfl⟩
  rw [← hq] at hZ ⊢
  have l1 : (canD q).1.2.length ≤ 1 := by rw [hq]; decide +kernel
  have l2 : (canD q).2.length ≤ 1 := by rw [hq]; decide +kernel
  have hR := Lib.hid (show ∀ (W : World) (hb : Below w.heap.size w W) (B' : Option Addr) (d' : Nat) (D' : Option Addr) (e' : Nat) (k : InQ W B' d' D' e' q), Calls Tryz.prog 221 #[.agg #[.bool a.1.2.1.1, .slice B a.1.2.1.2.length d, .slice D a.1.2.2.length e], .agg #[.bool (decide (q.num < 0)), .slice B' (dg q.num.natAbs).length d', .slice D' (dg q.den).length e']] W (Decides W (decide (a.1.2 = canD q))) from fun W hb B' d' D' e' k => r3_SameD a.1.2 (canD q) B d D e B' d' D' e' W (h.bound.below hb) ⟨k.num, k.den⟩ (by omega) (by omega) (by omega) (by omega))
  clear h hl l1 l2 hq
  unfold atc
  obtain ⟨⟨⟨nm, f⟩, ⟨⟨s, xs⟩, ys⟩⟩, st⟩ := a
  dsimp only at *
  generalize decide ((((s, xs), ys) : RatD) = canD q) = b at *
  have HF := Lib.hid ((Fr.refl w).box [.string nm, .slice A f.length c, .bool s, .slice B xs.length d, .slice D ys.length e, .bool st] 84)
  generalize f.length = n1 at *
  generalize xs.length = n2 at *
  generalize ys.length = n3 at *
  simp only [List.toArray] at *
  by_cases hn : nm.data = #[]
  · obtain ⟨dn⟩ := nm
    dsimp only at hn
    subst hn
    rw [decide_eq_true rfl]
    clear hZ hR
    go_enter Tryz.func164, Tryz.ntmps164
    go_wp2_with fail
    go_quiet (fail)
    go_wp2
    go_ret
    exact ⟨rfl, below_drewN HF.out.bel _⟩
  · have hne : nm.toList.isEmpty = false := by rw [Lib.toList_data]; simpa using hn
    rw [decide_eq_false hn]
    clear hn
    by_cases h0 : n1 = 0
    · subst h0
      cases st with
      | true =>
        clear hZ hR
        go_enter Tryz.func164, Tryz.ntmps164
        go_wp2_with fail
        go_quiet (fail)
        go_wp2
        go_ret
        exact ⟨rfl, below_drewN HF.out.bel _⟩
      | false =>
        go_enter Tryz.func164, Tryz.ntmps164
        go_wp2_with fail
        generalize World.alloc _ _ = W at HF ⊢
        have HF_ := Lib.hid HF.out.drew
        clear HF
        have HF := HF_
        clear HF_
        refine start_ (n := 21) (S := fun w' => w'.cell? ⟨w.heap.size, 0, none⟩ = some (.string nm) ∧ w'.cell? ⟨w.heap.size, 1, none⟩ = some (.slice A 0 c) ∧ w'.cell? ⟨w.heap.size, 2, none⟩ = some (.bool s) ∧ w'.cell? ⟨w.heap.size, 3, none⟩ = some (.slice B n2 d) ∧ w'.cell? ⟨w.heap.size, 4, none⟩ = some (.slice D n3 e) ∧ w'.cell? ⟨w.heap.size, 5, none⟩ = some (.bool false)) (ds := []) #[false, false, false, false, false, false, false, false, false, false, false, false, false, false, false, false, false, false, false, false, false] (by kernel_rfl) rfl rfl ⟨HF.out.cellN 0 rfl 0 rfl, HF.out.cellN 0 rfl 1 rfl, HF.out.cellN 0 rfl 2 rfl, HF.out.cellN 0 rfl 3 rfl, HF.out.cellN 0 rfl 4 rfl, HF.out.cellN 0 rfl 5 rfl⟩ (fun hHeld => ?_)
        generalize World.drew _ = W at *
        refine pu_ (v := ?_) (a' := ?_) 0 (some 3) rfl rfl ?_ ?_ ?_
        rotate_left; · intro w'; go_simp; with_reducible rfl
        rotate_left; · simp only [Act.put, s1, s2, s3]; rfl
        refine tk_ (v := ?_) (a' := ?_) 1 (some 4) rfl rfl ?_ hHeld ?_ ?_
        rotate_left
        · rintro w' ⟨s0, s1, s2, s3, s4, s5⟩; go_simp; with_reducible rfl
        rotate_left; · simp only [Act.put, s1, s2, s3]; rfl
        refine pu_ (v := ?_) (a' := ?_) 2 (some 5) rfl rfl ?_ ?_ ?_
        rotate_left; · intro w'; go_simp; with_reducible rfl
        rotate_left; · simp only [Act.put, s1, s2, s3]; rfl
        refine pu_ (v := ?_) (a' := ?_) 3 (some 6) rfl rfl ?_ ?_ ?_
        rotate_left; · intro w'; go_simp; with_reducible rfl
        rotate_left; · simp only [Act.put, s1, s2, s3]; rfl
        refine pu_ (v := ?_) (a' := ?_) 4 (some 7) rfl rfl ?_ ?_ ?_
        rotate_left; · intro w'; go_simp; with_reducible rfl
        rotate_left; · simp only [Act.put, s1, s2, s3]; rfl
        refine tk_ (v := ?_) (a' := ?_) 5 (some 8) rfl rfl ?_ hHeld ?_ ?_
        rotate_left
        · rintro w' ⟨s0, s1, s2, s3, s4, s5⟩; go_simp; with_reducible rfl
        rotate_left; · simp only [Act.put, s1, s2, s3]; rfl
        refine pu_ (v := ?_) (a' := ?_) 6 (some 9) rfl rfl ?_ ?_ ?_
        rotate_left; · intro w'; go_simp; with_reducible rfl
        rotate_left; · simp only [Act.put, s1, s2, s3]; rfl
        refine pu_ (v := ?_) (a' := ?_) 7 (some 10) rfl rfl ?_ ?_ ?_
        rotate_left; · intro w'; go_simp; with_reducible rfl
        rotate_left; · simp only [Act.put, s1, s2, s3]; rfl
        refine pu_ (v := ?_) (a' := ?_) 8 (some 11) rfl rfl ?_ ?_ ?_
        rotate_left; · intro w'; go_simp; with_reducible rfl
        rotate_left; · simp only [Act.put, s1, s2, s3]; rfl
        refine pu_ (v := ?_) (a' := ?_) 9 (some 12) rfl rfl ?_ ?_ ?_
        rotate_left; · intro w'; go_simp; with_reducible rfl
        rotate_left; · simp only [Act.put, s1, s2, s3]; rfl
        refine pu_ (v := ?_) (a' := ?_) 10 (some 13) rfl rfl ?_ ?_ ?_
        rotate_left; · intro w'; go_simp; with_reducible rfl
        rotate_left; · simp only [Act.put, s1, s2, s3]; rfl
        refine tk_ (v := ?_) (a' := ?_) 11 (some 14) rfl rfl ?_ hHeld ?_ ?_
        rotate_left
        · rintro w' ⟨s0, s1, s2, s3, s4, s5⟩; go_simp; with_reducible rfl
        rotate_left; · simp only [Act.put, s1, s2, s3]; rfl
        refine pu_ (v := ?_) (a' := ?_) 12 (some 15) rfl rfl ?_ ?_ ?_
        rotate_left; · intro w'; go_simp; with_reducible rfl
        rotate_left; · simp only [Act.put, s1, s2, s3]; rfl
        refine pu_ (v := ?_) (a' := ?_) 13 (some 16) rfl rfl ?_ ?_ ?_
        rotate_left; · intro w'; go_simp; with_reducible rfl
        rotate_left; · simp only [Act.put, s1, s2, s3]; rfl
        refine pu_ (v := ?_) (a' := ?_) 14 (some 17) rfl rfl ?_ ?_ ?_
        rotate_left; · intro w'; go_simp; with_reducible rfl
        rotate_left; · simp only [Act.put, s1, s2, s3]; rfl
        refine pu_ (v := ?_) (a' := ?_) 15 (some 18) rfl rfl ?_ ?_ ?_
        rotate_left; · intro w'; go_simp; with_reducible rfl
        rotate_left; · simp only [Act.put, s1, s2, s3]; rfl
        refine tk_ (v := ?_) (a' := ?_) 16 (some 19) rfl rfl ?_ hHeld ?_ ?_
        rotate_left
        · rintro w' ⟨s0, s1, s2, s3, s4, s5⟩; go_simp; with_reducible rfl
        rotate_left; · simp only [Act.put, s1, s2, s3]; rfl
        refine on_ 17 (N := (some 20)) rfl rfl (fun K hK => ?_)
        refine goes_ Tryz.func219 (by kernel_rfl) rfl #[] (by rfl) rfl rfl (by (try simp only [List.map_toArray, List.map_cons, List.map_nil]); first | done | rfl) ?_
        refine (hZ.out W).mono ?_
        rintro e W1 ⟨A2, c2, B2, d2, rfl, q1, q2, q3⟩
        refine ⟨_, rfl, ?_⟩
        replace HF := Lib.hid (HF.out.below q3)
        have Q := Lib.hid (InQ.mk q1 q2)
        clear q1 q2 q3 hZ
        refine hK.out _ _ ⟨HF.out.cellN 0 rfl 0 rfl, HF.out.cellN 0 rfl 1 rfl, HF.out.cellN 0 rfl 2 rfl, HF.out.cellN 0 rfl 3 rfl, HF.out.cellN 0 rfl 4 rfl, HF.out.cellN 0 rfl 5 rfl⟩ (fun hHeld => ?_)
        clear hK K
        refine norm_ (a' := ?_) ?_ ?_
        rotate_left
        · show Act.put _ (some 20) _ = _
          simp only [Act.put, s1, s2, s3]; rfl
        refine on_ 18 (N := (some 21)) rfl rfl (fun K hK => ?_)
        refine goes_ Tryz.func221 (by kernel_rfl) rfl #[.agg #[.bool s, .slice B n2 d, .slice D n3 e], .agg #[.bool (decide (q.num < 0)), .slice A2 (dg q.num.natAbs).length c2, .slice B2 (dg q.den).length d2]] (by rfl) rfl rfl (by (try simp only [List.map_toArray, List.map_cons, List.map_nil]); first | done | rfl) ?_
        refine (hR.out W1 HF.out.bel _ _ _ _ Q.out).mono ?_
        rintro e W2 ⟨rfl, q3⟩
        refine ⟨_, rfl, ?_⟩
        replace HF := Lib.hid (HF.out.below q3)
        clear q3 Q hR
        refine hK.out _ _ ⟨HF.out.cellN 0 rfl 0 rfl, HF.out.cellN 0 rfl 1 rfl, HF.out.cellN 0 rfl 2 rfl, HF.out.cellN 0 rfl 3 rfl, HF.out.cellN 0 rfl 4 rfl, HF.out.cellN 0 rfl 5 rfl⟩ (fun hHeld => ?_)
        clear hK K
        refine norm_ (a' := ?_) ?_ ?_
        rotate_left
        · show Act.put _ (some 21) _ = _
          simp only [Act.put, s1, s2, s3]; rfl
        refine pu_ (v := ?_) (a' := ?_) 19 (some 22) rfl rfl ?_ ?_ ?_
        rotate_left; · intro w'; go_simp; with_reducible rfl
        rotate_left; · simp only [Act.put, s1, s2, s3]; rfl
        refine pu_ (v := ?_) (a' := ?_) 20 (some 2) rfl rfl ?_ ?_ ?_
        rotate_left; · intro w'; go_simp; with_reducible rfl
        rotate_left; · simp only [Act.put, s1, s2, s3]; rfl
        refine done_ (by kernel_rfl) ?_
        go_wp2
        go_ret
        exact ⟨ret_bool (show b = (true && (decide ((0 : Nat) = 0) && (!false && b))) from rfl), HF.out.bel⟩
    · have h0b : ((n1 : Int) == 0) = false := by rw [beq_eq_false_iff_ne]; omega
      rw [decide_eq_false h0]
      clear h0 hZ hR
      go_enter Tryz.func164, Tryz.ntmps164
      go_wp2_with fail
      go_quiet (fail)
      go_wp2
      go_ret
      exact ⟨rfl, below_drewN HF.out.bel _⟩
end Go.Proofs.YtidgpkccjcddgaaGreatDoor.F
/- The reference's layer 17: inequality. Condition: atoms of weight at most 1048576. -/
namespace Go.Proofs.YtidgpkccjcddgaaGreatDoor.F
open Go.RowKit Go.Shelf Go.Proofs.YtidgpkccjcddgaaGreatDoorW.PrintLast
/-- is it an inequality? -/
def ineqA (a : AtomD) : Bool := decide (a.1.1.1.data = #[]) && (decide (0 < a.1.1.2.length) && (decide (a.1.1.2 = (prF a.1.1.2).map canM) && decide (a.1.2 = canD (rq a.1.2))))
set_option maxHeartbeats 2000000 in
set_option maxRecDepth 100000 in
theorem r17_inequality (a : AtomD) (A : Option Addr) (c : Nat) (B : Option Addr) (d : Nat) (D : Option Addr) (e : Nat) (w : World) (h : AtIn w a A c B d D e) :
    Calls Tryz.prog 165 #[.agg (atc a A c B d D e).toArray] w (Decides w (ineqA a)) := by
  have hl := h.lens
  have yl := canA_lens h
  have hpr := h.pr
  have hc := h.cap
  have hnl := h.raw.len
  have hP := Lib.hid (fun (W : World) (hb : Below w.heap.size w W) => r6_Prime A c a.1.1.2 W (h.raw.below hb) h.shp)
  rw [show nform (smul (pc (nform (fval a.1.1.2)))⁻¹ (nform (fval a.1.1.2))) = prF a.1.1.2 from rfl] at hP
  have hS := Lib.hid (fun (W : World) (hb : Below w.heap.size w W) (E : Option Addr) (j : Nat) (k : FIn W E j (prF a.1.1.2)) => r7_SameForm A c E j a.1.1.2 _ W (h.raw.below hb) (k.raw (by omega)))
  have hN := Lib.hid (fun (W : World) (hb : Below w.heap.size w W) => r3_Norm a.1.2.1.1 B d a.1.2.1.2 D e a.1.2.2 W (h.bound.num.below hb) (by omega) (h.bound.den.below hb) (by omega))
  rw [show rv a.1.2.1.1 a.1.2.1.2 a.1.2.2 = rq a.1.2 from rfl] at hN
  have l1 : (canD (rq a.1.2)).1.2.length ≤ 1048576 := yl.1
  have l2 : (canD (rq a.1.2)).2.length ≤ 1048576 := yl.2
  unfold ineqA
  generalize rq a.1.2 = q at *
  have hR := Lib.hid (show ∀ (W : World) (hb : Below w.heap.size w W) (B' : Option Addr) (d' : Nat) (D' : Option Addr) (e' : Nat) (k : InQ W B' d' D' e' q), Calls Tryz.prog 221 #[.agg #[.bool a.1.2.1.1, .slice B a.1.2.1.2.length d, .slice D a.1.2.2.length e], .agg #[.bool (decide (q.num < 0)), .slice B' (dg q.num.natAbs).length d', .slice D' (dg q.den).length e']] W (Decides W (decide (a.1.2 = canD q))) from fun W hb B' d' D' e' k => r3_SameD a.1.2 (canD q) B d D e B' d' D' e' W (h.bound.below hb) ⟨k.num, k.den⟩ (by omega) (by omega) (by omega) (by omega))
  generalize prF a.1.1.2 = p at *
  generalize pc (nform (fval a.1.1.2)) = q2 at *
  clear h hl l1 l2 yl hpr
  unfold atc
  obtain ⟨⟨⟨nm, f⟩, ⟨⟨s, xs⟩, ys⟩⟩, st⟩ := a
  dsimp only at *
  simp only [List.length_map] at hS
  obtain ⟨b1, hb1⟩ : ∃ b, b = decide (f = p.map canM) := ⟨_, rfl⟩
  rw [← hb1] at hS ⊢
  clear hb1
  generalize decide ((((s, xs), ys) : RatD) = canD q) = b2 at *
  have HF := Lib.hid ((Fr.refl w).box [.string nm, .slice A f.length c, .bool s, .slice B xs.length d, .slice D ys.length e, .bool st] 84)
  generalize f.length = n1 at *
  obtain ⟨b0, hb0⟩ : ∃ b, b = decide (0 < n1) := ⟨_, rfl⟩
  obtain ⟨bn, hbn⟩ : ∃ b, b = decide (nm.data = #[]) := ⟨_, rfl⟩
  rw [← hb0, ← hbn]
  have HB0 := Lib.hid hb0
  have HBN := Lib.hid hbn
  clear hb0 hbn
  generalize xs.length = n2 at *
  generalize ys.length = n3 at *
  simp only [List.toArray] at *
  go_enter Tryz.func165, Tryz.ntmps165
  go_wp2_with fail
  refine (hP.out _ HF.out.bel).mono ?_
  rintro e' W2 ⟨E, j, A1, c1, B1, d1, rfl, k1, k2, hb⟩
  replace HF := Lib.hid (HF.out.below hb)
  have K1 := Lib.hid k1.fin'
  clear hb hP k1 k2
  generalize decide (q2.num < 0) = bq
  generalize (dg q2.num.natAbs).length = nq
  generalize (dg q2.den).length = dq
  have hal := Lib.hid ((Below.refl _ W2).alloc (Nat.le_refl _) (.cells #[.bool bq, .slice A1 nq c1, .slice B1 dq d1] 43))
  replace K1 := Lib.hid (K1.out.below hal.out)
  replace HF := Lib.hid (HF.out.below hal.out)
  clear hal
  go_wp2_with fail
  generalize W2.alloc _ = W at HF K1 ⊢
  by_cases hn : nm.data = #[]
  · have hb : bn = true := by rw [HBN.out]; exact decide_eq_true hn
    subst hb
    obtain ⟨dn⟩ := nm
    dsimp only at hn
    subst hn
    by_cases h0 : 0 < n1
    · have hb : b0 = true := by rw [HB0.out]; exact decide_eq_true h0
      subst hb
      have h0z : (0 : Int) < (n1 : Int) := by omega
      clear HBN HB0
      cases b1 with
      | false =>
          replace K1 := Lib.hid (K1.out.below (Below.drew (Below.refl _ _)))
          have HF_ := Lib.hid HF.out.drew
          clear HF
          have HF := HF_
          clear HF_
          refine start_ (n := 24) (S := fun w' => w'.cell? ⟨w.heap.size, 0, none⟩ = some (.string ⟨#[]⟩) ∧ w'.cell? ⟨w.heap.size, 1, none⟩ = some (.slice A n1 c) ∧ w'.cell? ⟨w.heap.size, 2, none⟩ = some (.bool s) ∧ w'.cell? ⟨w.heap.size, 3, none⟩ = some (.slice B n2 d) ∧ w'.cell? ⟨w.heap.size, 4, none⟩ = some (.slice D n3 e) ∧ w'.cell? ⟨w.heap.size, 5, none⟩ = some (.bool st)) (ds := []) #[false, false, false, false, false, false, false, false, false, false, false, false, false, false, false, false, false, false, false, false, false, false, false, false] (by kernel_rfl) rfl rfl ⟨HF.out.cellN 0 rfl 0 rfl, HF.out.cellN 0 rfl 1 rfl, HF.out.cellN 0 rfl 2 rfl, HF.out.cellN 0 rfl 3 rfl, HF.out.cellN 0 rfl 4 rfl, HF.out.cellN 0 rfl 5 rfl⟩ (fun hHeld => ?_)
          generalize World.drew _ = W at *
          refine pu_ (v := ?_) (a' := ?_) 0 (some 11) rfl rfl ?_ ?_ ?_
          rotate_left; · intro w'; go_simp; with_reducible rfl
          rotate_left; · simp only [Act.put, s1, s2, s3]; rfl
          refine tk_ (v := ?_) (a' := ?_) 1 (some 12) rfl rfl ?_ hHeld ?_ ?_
          rotate_left
          · rintro w' ⟨s0, s1, s2, s3, s4, s5⟩; go_simp; with_reducible rfl
          rotate_left; · simp only [Act.put, s1, s2, s3]; rfl
          refine pu_ (v := ?_) (a' := ?_) 2 (some 13) rfl rfl ?_ ?_ ?_
          rotate_left; · intro w'; go_simp; with_reducible rfl
          rotate_left; · simp only [Act.put, s1, s2, s3]; rfl
          refine pu_ (v := ?_) (a' := ?_) 3 (some 14) rfl rfl ?_ ?_ ?_
          rotate_left; · intro w'; go_simp; with_reducible rfl
          rotate_left; · simp only [Act.put, s1, s2, s3]; rfl
          refine pu_ (v := ?_) (a' := ?_) 4 (some 15) rfl rfl ?_ ?_ ?_
          rotate_left; · intro w'; go_simp; with_reducible rfl
          rotate_left; · simp only [Act.put, s1, s2, s3]; rfl
          refine tk_ (v := ?_) (a' := ?_) 5 (some 16) rfl rfl ?_ hHeld ?_ ?_
          rotate_left
          · rintro w' ⟨s0, s1, s2, s3, s4, s5⟩; go_simp; with_reducible rfl
          rotate_left; · simp only [Act.put, s1, s2, s3]; rfl
          refine pu_ (v := ?_) (a' := ?_) 6 (some 17) rfl rfl ?_ ?_ ?_
          rotate_left; · intro w'; go_simp; with_reducible rfl
          rotate_left; · simp only [Act.put, s1, s2, s3]; rfl
          refine pu_ (v := ?_) (a' := ?_) 7 (some 18) rfl rfl ?_ ?_ ?_
          rotate_left; · intro w'; go_simp; with_reducible rfl
          rotate_left; · simp only [Act.put, s1, s2, s3]; rfl
          refine pu_ (v := ?_) (a' := ?_) 8 (some 19) rfl rfl ?_ ?_ ?_
          rotate_left; · intro w'; go_simp; with_reducible rfl
          rotate_left; · simp only [Act.put, s1, s2, s3]; rfl
          refine pu_ (v := ?_) (a' := ?_) 9 (some 20) rfl rfl ?_ ?_ ?_
          rotate_left; · intro w'; go_simp; with_reducible rfl
          rotate_left; · simp only [Act.put, s1, s2, s3]; rfl
          refine pu_ (v := ?_) (a' := ?_) 10 (some 21) rfl rfl ?_ ?_ ?_
          rotate_left; · intro w'; go_simp; with_reducible rfl
          rotate_left; · simp only [Act.put, s1, s2, s3]; rfl
          refine pu_ (v := ?_) (a' := ?_) 12 (some 23) rfl rfl ?_ ?_ ?_
          rotate_left; · intro w'; go_simp; with_reducible rfl
          rotate_left; · simp only [Act.put, s1, s2, s3]; rfl
          refine tk_ (v := ?_) (a' := ?_) 11 (some 22) rfl rfl ?_ hHeld ?_ ?_
          rotate_left
          · rintro w' ⟨s0, s1, s2, s3, s4, s5⟩; go_simp; with_reducible rfl
          rotate_left; · simp only [Act.put, s1, s2, s3]; rfl
          refine on_ 13 (N := (some 24)) rfl rfl (fun K hK => ?_)
          refine goes_ Tryz.func223 (by kernel_rfl) rfl #[.slice A n1 c, .slice E p.length j] (by rfl) rfl rfl (by (try simp only [List.map_toArray, List.map_cons, List.map_nil]); first | done | rfl) ?_
          refine (hS.out W HF.out.bel _ _ K1.out).mono ?_
          rintro e W1 ⟨rfl, q3⟩
          refine ⟨_, rfl, ?_⟩
          replace HF := Lib.hid (HF.out.below q3)
          clear q3 K1 hS
          refine hK.out _ _ ⟨HF.out.cellN 0 rfl 0 rfl, HF.out.cellN 0 rfl 1 rfl, HF.out.cellN 0 rfl 2 rfl, HF.out.cellN 0 rfl 3 rfl, HF.out.cellN 0 rfl 4 rfl, HF.out.cellN 0 rfl 5 rfl⟩ (fun hHeld => ?_)
          clear hK K
          refine norm_ (a' := ?_) ?_ ?_
          rotate_left
          · show Act.put _ (some 24) _ = _
            simp only [Act.put, s1, s2, s3]; rfl
          refine pu_ (v := ?_) (a' := ?_) 14 (some 25) rfl rfl ?_ ?_ ?_
          rotate_left; · intro w'; go_simp; with_reducible rfl
          rotate_left; · simp only [Act.put, s1, s2, s3]; rfl
          refine pu_ (v := ?_) (a' := ?_) 15 (some 26) rfl rfl ?_ ?_ ?_
          rotate_left; · intro w'; go_simp; with_reducible rfl
          rotate_left; · simp only [Act.put, s1, s2, s3]; rfl
          refine po_ (a' := ?_) 16 (some 27) rfl rfl ?_ ?_
          rotate_left; · simp only [Act.put, s1, s2, s3]; rfl
          refine to_ (a' := ?_) 17 (some 28) rfl rfl hHeld ?_ ?_
          rotate_left; · simp only [Act.put, s1, s2, s3]; rfl
          refine po_ (a' := ?_) 18 (some 29) rfl rfl ?_ ?_
          rotate_left; · simp only [Act.put, s1, s2, s3]; rfl
          refine to_ (a' := ?_) 19 (some 30) rfl rfl hHeld ?_ ?_
          rotate_left; · simp only [Act.put, s1, s2, s3]; rfl
          refine on_ 20 (N := (some 31)) rfl rfl (fun K hK => ?_)
          refine off_ (by rfl) ?_
          refine hK.out _ _ ⟨HF.out.cellN 0 rfl 0 rfl, HF.out.cellN 0 rfl 1 rfl, HF.out.cellN 0 rfl 2 rfl, HF.out.cellN 0 rfl 3 rfl, HF.out.cellN 0 rfl 4 rfl, HF.out.cellN 0 rfl 5 rfl⟩ (fun hHeld => ?_)
          clear hK K
          refine norm_ (a' := ?_) ?_ ?_
          rotate_left
          · show Act.put _ (some 31) _ = _
            simp only [Act.put, s1, s2, s3]; rfl
          refine on_ 21 (N := (some 32)) rfl rfl (fun K hK => ?_)
          refine off_ (by rfl) ?_
          refine hK.out _ _ ⟨HF.out.cellN 0 rfl 0 rfl, HF.out.cellN 0 rfl 1 rfl, HF.out.cellN 0 rfl 2 rfl, HF.out.cellN 0 rfl 3 rfl, HF.out.cellN 0 rfl 4 rfl, HF.out.cellN 0 rfl 5 rfl⟩ (fun hHeld => ?_)
          clear hK K
          refine norm_ (a' := ?_) ?_ ?_
          rotate_left
          · show Act.put _ (some 32) _ = _
            simp only [Act.put, s1, s2, s3]; rfl
          refine pu_ (v := ?_) (a' := ?_) 22 (some 33) rfl rfl ?_ ?_ ?_
          rotate_left; · intro w'; go_simp; with_reducible rfl
          rotate_left; · simp only [Act.put, s1, s2, s3]; rfl
          refine pu_ (v := ?_) (a' := ?_) 23 (some 2) rfl rfl ?_ ?_ ?_
          rotate_left; · intro w'; go_simp; with_reducible rfl
          rotate_left; · simp only [Act.put, s1, s2, s3]; rfl
          refine done_ (by kernel_rfl) ?_
          clear hN hR
          go_wp2
          go_ret
          exact ⟨rfl, HF.out.bel⟩
      | true =>
          replace K1 := Lib.hid (K1.out.below (Below.drew (Below.refl _ _)))
          have HF_ := Lib.hid HF.out.drew
          clear HF
          have HF := HF_
          clear HF_
          refine start_ (n := 24) (S := fun w' => w'.cell? ⟨w.heap.size, 0, none⟩ = some (.string ⟨#[]⟩) ∧ w'.cell? ⟨w.heap.size, 1, none⟩ = some (.slice A n1 c) ∧ w'.cell? ⟨w.heap.size, 2, none⟩ = some (.bool s) ∧ w'.cell? ⟨w.heap.size, 3, none⟩ = some (.slice B n2 d) ∧ w'.cell? ⟨w.heap.size, 4, none⟩ = some (.slice D n3 e) ∧ w'.cell? ⟨w.heap.size, 5, none⟩ = some (.bool st)) (ds := []) #[false, false, false, false, false, false, false, false, false, false, false, false, false, false, false, false, false, false, false, false, false, false, false, false] (by kernel_rfl) rfl rfl ⟨HF.out.cellN 0 rfl 0 rfl, HF.out.cellN 0 rfl 1 rfl, HF.out.cellN 0 rfl 2 rfl, HF.out.cellN 0 rfl 3 rfl, HF.out.cellN 0 rfl 4 rfl, HF.out.cellN 0 rfl 5 rfl⟩ (fun hHeld => ?_)
          generalize World.drew _ = W at *
          refine pu_ (v := ?_) (a' := ?_) 0 (some 11) rfl rfl ?_ ?_ ?_
          rotate_left; · intro w'; go_simp; with_reducible rfl
          rotate_left; · simp only [Act.put, s1, s2, s3]; rfl
          refine tk_ (v := ?_) (a' := ?_) 1 (some 12) rfl rfl ?_ hHeld ?_ ?_
          rotate_left
          · rintro w' ⟨s0, s1, s2, s3, s4, s5⟩; go_simp; with_reducible rfl
          rotate_left; · simp only [Act.put, s1, s2, s3]; rfl
          refine pu_ (v := ?_) (a' := ?_) 2 (some 13) rfl rfl ?_ ?_ ?_
          rotate_left; · intro w'; go_simp; with_reducible rfl
          rotate_left; · simp only [Act.put, s1, s2, s3]; rfl
          refine pu_ (v := ?_) (a' := ?_) 3 (some 14) rfl rfl ?_ ?_ ?_
          rotate_left; · intro w'; go_simp; with_reducible rfl
          rotate_left; · simp only [Act.put, s1, s2, s3]; rfl
          refine pu_ (v := ?_) (a' := ?_) 4 (some 15) rfl rfl ?_ ?_ ?_
          rotate_left; · intro w'; go_simp; with_reducible rfl
          rotate_left; · simp only [Act.put, s1, s2, s3]; rfl
          refine tk_ (v := ?_) (a' := ?_) 5 (some 16) rfl rfl ?_ hHeld ?_ ?_
          rotate_left
          · rintro w' ⟨s0, s1, s2, s3, s4, s5⟩; go_simp; with_reducible rfl
          rotate_left; · simp only [Act.put, s1, s2, s3]; rfl
          refine pu_ (v := ?_) (a' := ?_) 6 (some 17) rfl rfl ?_ ?_ ?_
          rotate_left; · intro w'; go_simp; with_reducible rfl
          rotate_left; · simp only [Act.put, s1, s2, s3]; rfl
          refine pu_ (v := ?_) (a' := ?_) 7 (some 18) rfl rfl ?_ ?_ ?_
          rotate_left; · intro w'; go_simp; with_reducible rfl
          rotate_left; · simp only [Act.put, s1, s2, s3]; rfl
          refine pu_ (v := ?_) (a' := ?_) 8 (some 19) rfl rfl ?_ ?_ ?_
          rotate_left; · intro w'; go_simp; with_reducible rfl
          rotate_left; · simp only [Act.put, s1, s2, s3]; rfl
          refine pu_ (v := ?_) (a' := ?_) 9 (some 20) rfl rfl ?_ ?_ ?_
          rotate_left; · intro w'; go_simp; with_reducible rfl
          rotate_left; · simp only [Act.put, s1, s2, s3]; rfl
          refine pu_ (v := ?_) (a' := ?_) 10 (some 21) rfl rfl ?_ ?_ ?_
          rotate_left; · intro w'; go_simp; with_reducible rfl
          rotate_left; · simp only [Act.put, s1, s2, s3]; rfl
          refine pu_ (v := ?_) (a' := ?_) 12 (some 23) rfl rfl ?_ ?_ ?_
          rotate_left; · intro w'; go_simp; with_reducible rfl
          rotate_left; · simp only [Act.put, s1, s2, s3]; rfl
          refine tk_ (v := ?_) (a' := ?_) 11 (some 22) rfl rfl ?_ hHeld ?_ ?_
          rotate_left
          · rintro w' ⟨s0, s1, s2, s3, s4, s5⟩; go_simp; with_reducible rfl
          rotate_left; · simp only [Act.put, s1, s2, s3]; rfl
          refine on_ 13 (N := (some 24)) rfl rfl (fun K hK => ?_)
          refine goes_ Tryz.func223 (by kernel_rfl) rfl #[.slice A n1 c, .slice E p.length j] (by rfl) rfl rfl (by (try simp only [List.map_toArray, List.map_cons, List.map_nil]); first | done | rfl) ?_
          refine (hS.out W HF.out.bel _ _ K1.out).mono ?_
          rintro e W1 ⟨rfl, q3⟩
          refine ⟨_, rfl, ?_⟩
          replace HF := Lib.hid (HF.out.below q3)
          clear q3 K1 hS
          refine hK.out _ _ ⟨HF.out.cellN 0 rfl 0 rfl, HF.out.cellN 0 rfl 1 rfl, HF.out.cellN 0 rfl 2 rfl, HF.out.cellN 0 rfl 3 rfl, HF.out.cellN 0 rfl 4 rfl, HF.out.cellN 0 rfl 5 rfl⟩ (fun hHeld => ?_)
          clear hK K
          refine norm_ (a' := ?_) ?_ ?_
          rotate_left
          · show Act.put _ (some 24) _ = _
            simp only [Act.put, s1, s2, s3]; rfl
          refine pu_ (v := ?_) (a' := ?_) 14 (some 25) rfl rfl ?_ ?_ ?_
          rotate_left; · intro w'; go_simp; with_reducible rfl
          rotate_left; · simp only [Act.put, s1, s2, s3]; rfl
          refine pu_ (v := ?_) (a' := ?_) 15 (some 26) rfl rfl ?_ ?_ ?_
          rotate_left; · intro w'; go_simp; with_reducible rfl
          rotate_left; · simp only [Act.put, s1, s2, s3]; rfl
          refine pu_ (v := ?_) (a' := ?_) 16 (some 27) rfl rfl ?_ ?_ ?_
          rotate_left; · intro w'; go_simp; with_reducible rfl
          rotate_left; · simp only [Act.put, s1, s2, s3]; rfl
          refine pu_ (v := ?_) (a' := ?_) 18 (some 29) rfl rfl ?_ ?_ ?_
          rotate_left; · intro w'; go_simp; with_reducible rfl
          rotate_left; · simp only [Act.put, s1, s2, s3]; rfl
          refine tk_ (v := ?_) (a' := ?_) 17 (some 28) rfl rfl ?_ hHeld ?_ ?_
          rotate_left
          · rintro w' ⟨s0, s1, s2, s3, s4, s5⟩; go_simp; with_reducible rfl
          rotate_left; · simp only [Act.put, s1, s2, s3]; rfl
          refine tk_ (v := ?_) (a' := ?_) 19 (some 30) rfl rfl ?_ hHeld ?_ ?_
          rotate_left
          · rintro w' ⟨s0, s1, s2, s3, s4, s5⟩; go_simp; with_reducible rfl
          rotate_left; · simp only [Act.put, s1, s2, s3]; rfl
          refine on_ 20 (N := (some 31)) rfl rfl (fun K hK => ?_)
          refine goes_ Tryz.func91 (by kernel_rfl) rfl #[.agg #[.bool s, .slice B n2 d, .slice D n3 e]] (by rfl) rfl rfl (by (try simp only [List.map_toArray, List.map_cons, List.map_nil]); first | done | rfl) ?_
          refine (hN.out W1 HF.out.bel).mono ?_
          rintro e W2 ⟨A2, c2, B2, d2, rfl, q1, q2, q3⟩
          refine ⟨_, rfl, ?_⟩
          replace HF := Lib.hid (HF.out.below q3)
          have Q := Lib.hid (InQ.mk q1 q2)
          clear q1 q2 q3 hN
          refine hK.out _ _ ⟨HF.out.cellN 0 rfl 0 rfl, HF.out.cellN 0 rfl 1 rfl, HF.out.cellN 0 rfl 2 rfl, HF.out.cellN 0 rfl 3 rfl, HF.out.cellN 0 rfl 4 rfl, HF.out.cellN 0 rfl 5 rfl⟩ (fun hHeld => ?_)
          clear hK K
          refine norm_ (a' := ?_) ?_ ?_
          rotate_left
          · show Act.put _ (some 31) _ = _
            simp only [Act.put, s1, s2, s3]; rfl
          refine on_ 21 (N := (some 32)) rfl rfl (fun K hK => ?_)
          refine goes_ Tryz.func221 (by kernel_rfl) rfl #[.agg #[.bool s, .slice B n2 d, .slice D n3 e], .agg #[.bool (decide (q.num < 0)), .slice A2 (dg q.num.natAbs).length c2, .slice B2 (dg q.den).length d2]] (by rfl) rfl rfl (by (try simp only [List.map_toArray, List.map_cons, List.map_nil]); first | done | rfl) ?_
          refine (hR.out W2 HF.out.bel _ _ _ _ Q.out).mono ?_
          rintro e W3 ⟨rfl, q3⟩
          refine ⟨_, rfl, ?_⟩
          replace HF := Lib.hid (HF.out.below q3)
          clear q3 Q hR
          refine hK.out _ _ ⟨HF.out.cellN 0 rfl 0 rfl, HF.out.cellN 0 rfl 1 rfl, HF.out.cellN 0 rfl 2 rfl, HF.out.cellN 0 rfl 3 rfl, HF.out.cellN 0 rfl 4 rfl, HF.out.cellN 0 rfl 5 rfl⟩ (fun hHeld => ?_)
          clear hK K
          refine norm_ (a' := ?_) ?_ ?_
          rotate_left
          · show Act.put _ (some 32) _ = _
            simp only [Act.put, s1, s2, s3]; rfl
          refine pu_ (v := ?_) (a' := ?_) 22 (some 33) rfl rfl ?_ ?_ ?_
          rotate_left; · intro w'; go_simp; with_reducible rfl
          rotate_left; · simp only [Act.put, s1, s2, s3]; rfl
          refine pu_ (v := ?_) (a' := ?_) 23 (some 2) rfl rfl ?_ ?_ ?_
          rotate_left; · intro w'; go_simp; with_reducible rfl
          rotate_left; · simp only [Act.put, s1, s2, s3]; rfl
          refine done_ (by kernel_rfl) ?_
          go_wp2
          go_ret
          exact ⟨ret_bool (show b2 = (true && (true && (true && b2))) from rfl), HF.out.bel⟩
    · have hb : b0 = false := by rw [HB0.out]; exact decide_eq_false h0
      subst hb
      have h0z : ¬ (0 : Int) < (n1 : Int) := by omega
      clear hS hN hR K1 HBN HB0
      have HF_ := Lib.hid HF.out.drew
      clear HF
      have HF := HF_
      clear HF_
      refine start_ (n := 24) (S := fun w' => w'.cell? ⟨w.heap.size, 0, none⟩ = some (.string ⟨#[]⟩) ∧ w'.cell? ⟨w.heap.size, 1, none⟩ = some (.slice A n1 c) ∧ w'.cell? ⟨w.heap.size, 2, none⟩ = some (.bool s) ∧ w'.cell? ⟨w.heap.size, 3, none⟩ = some (.slice B n2 d) ∧ w'.cell? ⟨w.heap.size, 4, none⟩ = some (.slice D n3 e) ∧ w'.cell? ⟨w.heap.size, 5, none⟩ = some (.bool st)) (ds := []) #[false, false, false, false, false, false, false, false, false, false, false, false, false, false, false, false, false, false, false, false, false, false, false, false] (by kernel_rfl) rfl rfl ⟨HF.out.cellN 0 rfl 0 rfl, HF.out.cellN 0 rfl 1 rfl, HF.out.cellN 0 rfl 2 rfl, HF.out.cellN 0 rfl 3 rfl, HF.out.cellN 0 rfl 4 rfl, HF.out.cellN 0 rfl 5 rfl⟩ (fun hHeld => ?_)
      generalize World.drew _ = W at *
      refine pu_ (v := ?_) (a' := ?_) 0 (some 11) rfl rfl ?_ ?_ ?_
      rotate_left; · intro w'; go_simp; with_reducible rfl
      rotate_left; · simp only [Act.put, s1, s2, s3]; rfl
      refine tk_ (v := ?_) (a' := ?_) 1 (some 12) rfl rfl ?_ hHeld ?_ ?_
      rotate_left
      · rintro w' ⟨s0, s1, s2, s3, s4, s5⟩; go_simp; with_reducible rfl
      rotate_left; · simp only [Act.put, s1, s2, s3]; rfl
      refine pu_ (v := ?_) (a' := ?_) 2 (some 13) rfl rfl ?_ ?_ ?_
      rotate_left; · intro w'; go_simp; with_reducible rfl
      rotate_left; · simp only [Act.put, s1, s2, s3]; rfl
      refine pu_ (v := ?_) (a' := ?_) 3 (some 14) rfl rfl ?_ ?_ ?_
      rotate_left; · intro w'; go_simp; with_reducible rfl
      rotate_left; · simp only [Act.put, s1, s2, s3]; rfl
      refine pu_ (v := ?_) (a' := ?_) 4 (some 15) rfl rfl ?_ ?_ ?_
      rotate_left; · intro w'; go_simp; with_reducible rfl
      rotate_left; · simp only [Act.put, s1, s2, s3]; rfl
      refine tk_ (v := ?_) (a' := ?_) 5 (some 16) rfl rfl ?_ hHeld ?_ ?_
      rotate_left
      · rintro w' ⟨s0, s1, s2, s3, s4, s5⟩; go_simp; with_reducible rfl
      rotate_left; · simp only [Act.put, s1, s2, s3]; rfl
      refine pu_ (v := ?_) (a' := ?_) 6 (some 17) rfl rfl ?_ ?_ ?_
      rotate_left; · intro w'; go_simp; with_reducible rfl
      rotate_left; · simp only [Act.put, s1, s2, s3]; rfl
      refine pu_ (v := ?_) (a' := ?_) 7 (some 18) rfl rfl ?_ ?_ ?_
      rotate_left; · intro w'; go_simp; with_reducible rfl
      rotate_left; · simp only [Act.put, s1, s2, s3]; rfl
      refine pu_ (v := ?_) (a' := ?_) 8 (some 19) rfl rfl ?_ ?_ ?_
      rotate_left; · intro w'; go_simp; with_reducible rfl
      rotate_left; · simp only [Act.put, s1, s2, s3]; rfl
      refine pu_ (v := ?_) (a' := ?_) 9 (some 20) rfl rfl ?_ ?_ ?_
      rotate_left; · intro w'; go_simp; with_reducible rfl
      rotate_left; · simp only [Act.put, s1, s2, s3]; rfl
      refine po_ (a' := ?_) 10 (some 21) rfl rfl ?_ ?_
      rotate_left; · simp only [Act.put, s1, s2, s3]; rfl
      refine to_ (a' := ?_) 11 (some 22) rfl rfl hHeld ?_ ?_
      rotate_left; · simp only [Act.put, s1, s2, s3]; rfl
      refine po_ (a' := ?_) 12 (some 23) rfl rfl ?_ ?_
      rotate_left; · simp only [Act.put, s1, s2, s3]; rfl
      refine on_ 13 (N := (some 24)) rfl rfl (fun K hK => ?_)
      refine off_ (by rfl) ?_
      refine hK.out _ _ ⟨HF.out.cellN 0 rfl 0 rfl, HF.out.cellN 0 rfl 1 rfl, HF.out.cellN 0 rfl 2 rfl, HF.out.cellN 0 rfl 3 rfl, HF.out.cellN 0 rfl 4 rfl, HF.out.cellN 0 rfl 5 rfl⟩ (fun hHeld => ?_)
      clear hK K
      refine norm_ (a' := ?_) ?_ ?_
      rotate_left
      · show Act.put _ (some 24) _ = _
        simp only [Act.put, s1, s2, s3]; rfl
      refine pu_ (v := ?_) (a' := ?_) 14 (some 25) rfl rfl ?_ ?_ ?_
      rotate_left; · intro w'; go_simp; with_reducible rfl
      rotate_left; · simp only [Act.put, s1, s2, s3]; rfl
      refine pu_ (v := ?_) (a' := ?_) 15 (some 26) rfl rfl ?_ ?_ ?_
      rotate_left; · intro w'; go_simp; with_reducible rfl
      rotate_left; · simp only [Act.put, s1, s2, s3]; rfl
      refine po_ (a' := ?_) 16 (some 27) rfl rfl ?_ ?_
      rotate_left; · simp only [Act.put, s1, s2, s3]; rfl
      refine to_ (a' := ?_) 17 (some 28) rfl rfl hHeld ?_ ?_
      rotate_left; · simp only [Act.put, s1, s2, s3]; rfl
      refine po_ (a' := ?_) 18 (some 29) rfl rfl ?_ ?_
      rotate_left; · simp only [Act.put, s1, s2, s3]; rfl
      refine to_ (a' := ?_) 19 (some 30) rfl rfl hHeld ?_ ?_
      rotate_left; · simp only [Act.put, s1, s2, s3]; rfl
      refine on_ 20 (N := (some 31)) rfl rfl (fun K hK => ?_)
      refine off_ (by rfl) ?_
      refine hK.out _ _ ⟨HF.out.cellN 0 rfl 0 rfl, HF.out.cellN 0 rfl 1 rfl, HF.out.cellN 0 rfl 2 rfl, HF.out.cellN 0 rfl 3 rfl, HF.out.cellN 0 rfl 4 rfl, HF.out.cellN 0 rfl 5 rfl⟩ (fun hHeld => ?_)
      clear hK K
      refine norm_ (a' := ?_) ?_ ?_
      rotate_left
      · show Act.put _ (some 31) _ = _
        simp only [Act.put, s1, s2, s3]; rfl
      refine on_ 21 (N := (some 32)) rfl rfl (fun K hK => ?_)
      refine off_ (by rfl) ?_
      refine hK.out _ _ ⟨HF.out.cellN 0 rfl 0 rfl, HF.out.cellN 0 rfl 1 rfl, HF.out.cellN 0 rfl 2 rfl, HF.out.cellN 0 rfl 3 rfl, HF.out.cellN 0 rfl 4 rfl, HF.out.cellN 0 rfl 5 rfl⟩ (fun hHeld => ?_)
      clear hK K
      refine norm_ (a' := ?_) ?_ ?_
      rotate_left
      · show Act.put _ (some 32) _ = _
        simp only [Act.put, s1, s2, s3]; rfl
      refine pu_ (v := ?_) (a' := ?_) 22 (some 33) rfl rfl ?_ ?_ ?_
      rotate_left; · intro w'; go_simp; with_reducible rfl
      rotate_left; · simp only [Act.put, s1, s2, s3]; rfl
      refine pu_ (v := ?_) (a' := ?_) 23 (some 2) rfl rfl ?_ ?_ ?_
      rotate_left; · intro w'; go_simp; with_reducible rfl
      rotate_left; · simp only [Act.put, s1, s2, s3]; rfl
      refine done_ (by kernel_rfl) ?_
      go_wp2
      go_ret
      exact ⟨rfl, HF.out.bel⟩
  · have hb : bn = false := by rw [HBN.out]; exact decide_eq_false hn
    subst hb
    have hne : nm.toList.isEmpty = false := by rw [Lib.toList_data]; simpa using hn
    clear hn
    clear hS hN hR K1 HBN HB0
    have HF_ := Lib.hid HF.out.drew
    clear HF
    have HF := HF_
    clear HF_
    refine start_ (n := 24) (S := fun w' => w'.cell? ⟨w.heap.size, 0, none⟩ = some (.string nm) ∧ w'.cell? ⟨w.heap.size, 1, none⟩ = some (.slice A n1 c) ∧ w'.cell? ⟨w.heap.size, 2, none⟩ = some (.bool s) ∧ w'.cell? ⟨w.heap.size, 3, none⟩ = some (.slice B n2 d) ∧ w'.cell? ⟨w.heap.size, 4, none⟩ = some (.slice D n3 e) ∧ w'.cell? ⟨w.heap.size, 5, none⟩ = some (.bool st)) (ds := []) #[false, false, false, false, false, false, false, false, false, false, false, false, false, false, false, false, false, false, false, false, false, false, false, false] (by kernel_rfl) rfl rfl ⟨HF.out.cellN 0 rfl 0 rfl, HF.out.cellN 0 rfl 1 rfl, HF.out.cellN 0 rfl 2 rfl, HF.out.cellN 0 rfl 3 rfl, HF.out.cellN 0 rfl 4 rfl, HF.out.cellN 0 rfl 5 rfl⟩ (fun hHeld => ?_)
    generalize World.drew _ = W at *
    refine pu_ (v := ?_) (a' := ?_) 0 (some 11) rfl rfl ?_ ?_ ?_
    rotate_left; · intro w'; go_simp; with_reducible rfl
    rotate_left; · simp only [Act.put, s1, s2, s3]; rfl
    refine tk_ (v := ?_) (a' := ?_) 1 (some 12) rfl rfl ?_ hHeld ?_ ?_
    rotate_left
    · rintro w' ⟨s0, s1, s2, s3, s4, s5⟩; go_simp; with_reducible rfl
    rotate_left; · simp only [Act.put, s1, s2, s3]; rfl
    refine pu_ (v := ?_) (a' := ?_) 2 (some 13) rfl rfl ?_ ?_ ?_
    rotate_left; · intro w'; go_simp; with_reducible rfl
    rotate_left; · simp only [Act.put, s1, s2, s3]; rfl
    refine pu_ (v := ?_) (a' := ?_) 3 (some 14) rfl rfl ?_ ?_ ?_
    rotate_left; · intro w'; go_simp; with_reducible rfl
    rotate_left; · simp only [Act.put, s1, s2, s3]; rfl
    refine po_ (a' := ?_) 4 (some 15) rfl rfl ?_ ?_
    rotate_left; · simp only [Act.put, s1, s2, s3]; rfl
    refine to_ (a' := ?_) 5 (some 16) rfl rfl hHeld ?_ ?_
    rotate_left; · simp only [Act.put, s1, s2, s3]; rfl
    refine po_ (a' := ?_) 6 (some 17) rfl rfl ?_ ?_
    rotate_left; · simp only [Act.put, s1, s2, s3]; rfl
    refine po_ (a' := ?_) 7 (some 18) rfl rfl ?_ ?_
    rotate_left; · simp only [Act.put, s1, s2, s3]; rfl
    refine pu_ (v := ?_) (a' := ?_) 8 (some 19) rfl rfl ?_ ?_ ?_
    rotate_left; · intro w'; go_simp; with_reducible rfl
    rotate_left; · simp only [Act.put, s1, s2, s3]; rfl
    refine pu_ (v := ?_) (a' := ?_) 9 (some 20) rfl rfl ?_ ?_ ?_
    rotate_left; · intro w'; go_simp; with_reducible rfl
    rotate_left; · simp only [Act.put, s1, s2, s3]; rfl
    refine po_ (a' := ?_) 10 (some 21) rfl rfl ?_ ?_
    rotate_left; · simp only [Act.put, s1, s2, s3]; rfl
    refine to_ (a' := ?_) 11 (some 22) rfl rfl hHeld ?_ ?_
    rotate_left; · simp only [Act.put, s1, s2, s3]; rfl
    refine po_ (a' := ?_) 12 (some 23) rfl rfl ?_ ?_
    rotate_left; · simp only [Act.put, s1, s2, s3]; rfl
    refine on_ 13 (N := (some 24)) rfl rfl (fun K hK => ?_)
    refine off_ (by rfl) ?_
    refine hK.out _ _ ⟨HF.out.cellN 0 rfl 0 rfl, HF.out.cellN 0 rfl 1 rfl, HF.out.cellN 0 rfl 2 rfl, HF.out.cellN 0 rfl 3 rfl, HF.out.cellN 0 rfl 4 rfl, HF.out.cellN 0 rfl 5 rfl⟩ (fun hHeld => ?_)
    clear hK K
    refine norm_ (a' := ?_) ?_ ?_
    rotate_left
    · show Act.put _ (some 24) _ = _
      simp only [Act.put, s1, s2, s3]; rfl
    refine pu_ (v := ?_) (a' := ?_) 14 (some 25) rfl rfl ?_ ?_ ?_
    rotate_left; · intro w'; go_simp; with_reducible rfl
    rotate_left; · simp only [Act.put, s1, s2, s3]; rfl
    refine pu_ (v := ?_) (a' := ?_) 15 (some 26) rfl rfl ?_ ?_ ?_
    rotate_left; · intro w'; go_simp; with_reducible rfl
    rotate_left; · simp only [Act.put, s1, s2, s3]; rfl
    refine po_ (a' := ?_) 16 (some 27) rfl rfl ?_ ?_
    rotate_left; · simp only [Act.put, s1, s2, s3]; rfl
    refine to_ (a' := ?_) 17 (some 28) rfl rfl hHeld ?_ ?_
    rotate_left; · simp only [Act.put, s1, s2, s3]; rfl
    refine po_ (a' := ?_) 18 (some 29) rfl rfl ?_ ?_
    rotate_left; · simp only [Act.put, s1, s2, s3]; rfl
    refine to_ (a' := ?_) 19 (some 30) rfl rfl hHeld ?_ ?_
    rotate_left; · simp only [Act.put, s1, s2, s3]; rfl
    refine on_ 20 (N := (some 31)) rfl rfl (fun K hK => ?_)
    refine off_ (by rfl) ?_
    refine hK.out _ _ ⟨HF.out.cellN 0 rfl 0 rfl, HF.out.cellN 0 rfl 1 rfl, HF.out.cellN 0 rfl 2 rfl, HF.out.cellN 0 rfl 3 rfl, HF.out.cellN 0 rfl 4 rfl, HF.out.cellN 0 rfl 5 rfl⟩ (fun hHeld => ?_)
    clear hK K
    refine norm_ (a' := ?_) ?_ ?_
    rotate_left
    · show Act.put _ (some 31) _ = _
      simp only [Act.put, s1, s2, s3]; rfl
    refine on_ 21 (N := (some 32)) rfl rfl (fun K hK => ?_)
    refine off_ (by rfl) ?_
    refine hK.out _ _ ⟨HF.out.cellN 0 rfl 0 rfl, HF.out.cellN 0 rfl 1 rfl, HF.out.cellN 0 rfl 2 rfl, HF.out.cellN 0 rfl 3 rfl, HF.out.cellN 0 rfl 4 rfl, HF.out.cellN 0 rfl 5 rfl⟩ (fun hHeld => ?_)
    clear hK K
    refine norm_ (a' := ?_) ?_ ?_
    rotate_left
    · show Act.put _ (some 32) _ = _
      simp only [Act.put, s1, s2, s3]; rfl
    refine pu_ (v := ?_) (a' := ?_) 22 (some 33) rfl rfl ?_ ?_ ?_
    rotate_left; · intro w'; go_simp; with_reducible rfl
    rotate_left; · simp only [Act.put, s1, s2, s3]; rfl
    refine pu_ (v := ?_) (a' := ?_) 23 (some 2) rfl rfl ?_ ?_ ?_
    rotate_left; · intro w'; go_simp; with_reducible rfl
    rotate_left; · simp only [Act.put, s1, s2, s3]; rfl
    refine done_ (by kernel_rfl) ?_
    go_wp2
    go_ret
    exact ⟨rfl, HF.out.bel⟩
end Go.Proofs.YtidgpkccjcddgaaGreatDoor.F
