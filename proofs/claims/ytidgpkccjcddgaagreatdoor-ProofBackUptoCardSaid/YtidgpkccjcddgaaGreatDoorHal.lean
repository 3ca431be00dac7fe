/- The law ProofOneText. Condition: texts of at most 1048576 bytes; the tables lie as laid. -/
import Derived.Test.YtidgpkccjcddgaaGreatDoorHaj
import Derived.Test.YtidgpkccjcddgaaGreatDoorGv
import Derived.Test.YtidgpkccjcddgaaGreatDoorGy
set_option linter.unusedVariables false
set_option linter.unusedSimpArgs false
namespace Go.Proofs.YtidgpkccjcddgaaGreatDoor.F
open Go.RowKit Go.Shelf Go.Proofs.YtidgpkccjcddgaaGreatDoorW.PrintLast
set_option maxHeartbeats 2000000 in
set_option maxRecDepth 100000 in
theorem law_awakeP (w : World) (hL : Laid w) (hP : PowTab w) : Calls Tryz.prog 39 #[] w (Decides w true) := by
 have hA : Calls Tryz.prog 36 #[.string ⟨#[114, 101, 102, 117, 116, 97, 116, 105, 111, 110, 32, 49, 32, 48, 10, 116, 114, 117, 101, 10]⟩] w (ToldPp w [114, 101, 102, 117, 116, 97, 116, 105, 111, 110, 32, 49, 32, 48, 10, 116, 114, 117, 101, 10]) := proof_Parse _ w (by decide) (lnsOk_small (by decide)) hL hP
 have HA := Lib.hid hA
 clear hA hL hP
 go_enter Tryz.func39, Tryz.ntmps39
 go_wp2_with fail
 refine HA.out.mono ?_
 rintro e W1 (⟨r, A, a, B, b, hp, rfl, ha, hb, hbel⟩ | ⟨k, hp, _⟩)
 · rw [parse_awake] at hp
   cases hp
   have HF := Lib.hid ((show Fr w W1 [] from ⟨hbel, fun p hp => by cases hp⟩).box [.slice A 1 a, .slice B 0 b] 25)
   clear HA ha hb hbel
   simp only [List.toArray, List.length_cons, List.length_nil, Nat.zero_add] at HF ⊢
   go_upto_region 2 with fail
   generalize hgt : World.alloc _ _ = W at HF ⊢
   clear hgt
   have a0 := HF.out.cellN 0 rfl 0 rfl
   have a1 := HF.out.cellN 0 rfl 1 rfl
   go_wp2
   go_ret
   exact ⟨rfl, HF.out.bel⟩
 · rw [parse_awake] at hp
   cases hp
set_option maxHeartbeats 1000000 in
theorem s24_Ints (A : Option Addr) (c : Nat) (B : Option Addr) (d : Nat) (xs ys : List Int) (w : World) (h : (Knd.int .i64).Row w A xs) (hc : xs.length ≤ c) (k : (Knd.int .i64).Row w B ys) (kc : ys.length ≤ d) (hm : xs.length ≤ 1099511627776) (km : ys.length ≤ 1099511627776) :
 Calls Tryz.prog 167 #[.slice A xs.length c, .slice B ys.length d] w (Decides w (decide (xs = ys))) := by
 have H1 := Lib.hid h
 have K1 := Lib.hid k
 clear h k
 by_cases hl : xs.length = ys.length
 · have HL := Lib.hid hl
   have hlz : ((xs.length : Int) == (ys.length : Int)) = true := by rw [beq_iff_eq]; omega
   have hle : ys.length ≤ xs.length := by omega
   have hle' : xs.length ≤ ys.length := by omega
   clear hl
   go_enter Tryz.func167, Tryz.ntmps167
   go_wp2
   go_loopg [5] xs.length (fun gg s5 wr => ∃ i : Nat, i + gg = xs.length ∧ s5 = .int .i64 i ∧ Hid (xs.take i = ys.take i) ∧ ∃ n, wr = w.drewN n)
   case atStart => exact ⟨0, by omega, rfl, by show _ = _; simp, 0, rfl⟩
   case round =>
    obtain ⟨i, hg, rfl, HT, n, rfl⟩ := hrel
    by_cases hlt : i < xs.length
    · have hltz : (i : Int) < (xs.length : Int) := by omega
      have hlty : (i : Int) < (ys.length : Int) := by omega
      have HT2 := Lib.hid (show xs[i]'hlt = ys[i]'(by omega) → xs.take (i + 1) = ys.take (i + 1) from fun e => by
       rw [List.take_succ_eq_append_getElem hlt, List.take_succ_eq_append_getElem (by omega), HT.out, e])
      have HN := Lib.hid (show xs[i]'hlt ≠ ys[i]'(by omega) → xs ≠ ys from fun e h => e (by subst h; rfl))
      obtain ⟨ad, rfl, hcell⟩ := Knd.at_int H1.out i hlt
      obtain ⟨bd, rfl, hcell2⟩ := Knd.at_int K1.out i (by omega)
      generalize xs[i] = x at *
      generalize ys[i]'(by omega) = y at *
      by_cases he : x = y
      · have HT3 := Lib.hid (HT2.out he)
        subst he
        clear HT HT2 HN hlz
        go_wp2
        go_quiet (fail)
        go_wp2
        go_roundg (xs.length - (i + 1))
        case measure => omega
        case rel => exact ⟨i + 1, by omega, by go_num, HT3, _, rfl⟩
      · have HBB := Lib.hid (show decide (xs = ys) = false from decide_eq_false (HN.out he))
        have heb : (x == y) = false := by rw [beq_eq_false_iff_ne]; exact he
        clear HT HT2 HN hlz
        go_wp2
        go_quiet (fail)
        go_wp2
        go_ret
        exact ⟨ret_bool HBB.out.symm, below_drewN (below_drewN (Below.refl _ _) _) _⟩
    · have hltz : ¬ (i : Int) < (xs.length : Int) := by omega
      have HBB := Lib.hid (show decide (xs = ys) = true from decide_eq_true (by
       have := HT.out
       rwa [List.take_of_length_le (by omega), List.take_of_length_le (by omega)] at this))
      clear HT hlz
      go_wp2
      go_ret
      exact ⟨ret_bool HBB.out.symm, below_drewN (Below.refl _ _) n⟩
 · have hb : decide (xs = ys) = false := decide_eq_false fun h => hl (by rw [h])
   rw [hb]
   have hlz : ((xs.length : Int) == (ys.length : Int)) = false := by rw [beq_eq_false_iff_ne]; omega
   clear hl hb
   go_enter Tryz.func167, Tryz.ntmps167
   go_wp2
   go_ret
   exact ⟨rfl, Below.refl _ _⟩
set_option maxHeartbeats 1000000 in
set_option maxRecDepth 100000 in
theorem same_RatR (x : RatD) (A1 : Option Addr) (c1 : Nat) (B1 : Option Addr) (d1 : Nat) (A2 : Option Addr) (c2 : Nat) (B2 : Option Addr) (d2 : Nat) (w : World) (h : InD w x A1 c1 B1 d1) (k : InD w x A2 c2 B2 d2) (hm : x.1.2.length ≤ 1099511627776) (km : x.2.length ≤ 1099511627776) :
 Calls Tryz.prog 29 #[.agg #[.bool x.1.1, .slice A1 x.1.2.length c1, .slice B1 x.2.length d1], .agg #[.bool x.1.1, .slice A2 x.1.2.length c2, .slice B2 x.2.length d2]] w (Decides w true) := by
 obtain ⟨⟨s, xs⟩, ys⟩ := x
 dsimp only at *
 have hS := Lib.hid (fun (W : World) (hb : Below w.heap.size w W) => same_Int s A1 c1 A2 c2 xs W (h.num.below hb) (k.num.below hb) hm)
 have hD := Lib.hid (fun (W : World) (hb : Below w.heap.size w W) => same_Nat B1 d1 B2 d2 ys W (h.den.below hb) (k.den.below hb) km)
 clear h k hm km
 have HF := Lib.hid (((Fr.refl w).box [.bool s, .slice A1 xs.length c1, .slice B1 ys.length d1] 43).box [.bool s, .slice A2 xs.length c2, .slice B2 ys.length d2] 43)
 have hsz : (w.alloc (.cells [Value.bool s, .slice A1 xs.length c1, .slice B1 ys.length d1].toArray 43)).heap.size = w.heap.size + 1 := by simp
 rw [hsz] at HF
 clear hsz
 generalize xs.length = n1 at *
 generalize ys.length = n2 at *
 go_enter Tryz.func29, Tryz.ntmps29
 go_wp2_with fail
 refine (hS.out _ HF.out.bel).mono ?_
 rintro e W1 ⟨rfl, hb⟩
 replace HF := Lib.hid (HF.out.below hb)
 clear hb
 have hc0 := HF.out.cellN 1 rfl 2 rfl
 have hc1 := HF.out.cellN 0 rfl 2 rfl
 go_wp2_with fail
 refine (hD.out _ HF.out.bel).mono ?_
 rintro e W2 ⟨rfl, hb⟩
 replace HF := Lib.hid (HF.out.below hb)
 clear hb hc0 hc1
 go_wp2
 go_ret
 exact ⟨rfl, HF.out.bel⟩
set_option maxHeartbeats 2000000 in
set_option maxRecDepth 100000 in
theorem same_FormR (A : Option Addr) (c : Nat) (B : Option Addr) (d : Nat) (l : List (Int × RatD)) (w : World) (h : FRaw w A c l) (k : FRaw w B d l) :
 Calls Tryz.prog 16 #[.slice A l.length c, .slice B l.length d] w (Decides w true) := by
 have hc := h.cap
 have kc := k.cap
 have hln := h.len
 have H := Lib.hid h.row
 have K := Lib.hid k.row
 have HG := Lib.hid h.good
 have HS := Lib.hid h.sum
 clear h k
 go_enter Tryz.func16, Tryz.ntmps16
 go_wp2
 go_loopg [5] l.length (fun gg s5 wr => ∃ i : Nat, i + gg = l.length ∧ s5 = .int .i64 i ∧ Hid (Below w.heap.size w wr))
 case atStart => exact ⟨0, by omega, rfl, Below.refl _ _⟩
 case round =>
  obtain ⟨i, hg, rfl, HB⟩ := hrel
  by_cases hlt : i < l.length
  · have hltz : (i : Int) < (l.length : Int) := by omega
    obtain ⟨ad, B1, c1, D1, d1, rfl, i1, i2, i3, i4, hq1⟩ := row_mono H.out i hlt
    obtain ⟨bd, B2, c2, D2, d2, rfl, j1, j2, j3, j4, hq2⟩ := row_mono K.out i hlt
    have hmem : l[i] ∈ l := List.getElem_mem _
    have g := HG.out _ hmem
    have hsm : wtm l[i] ≤ (l.map wtm).sum := le_sum hmem
    have hS0 := HS.out
    have hw : wt l[i].2 + 2 = wtm l[i] := rfl
    have gm := g.mn
    have gd := g.md
    have hSR := Lib.hid (fun (W : World) (hb : Below w.heap.size w W) => same_RatR l[i].2 B1 c1 D1 d1 B2 c2 D2 d2 W ⟨(hq1.num g).below hb, (hq1.den g).below hb⟩ ⟨(hq2.num g).below hb, (hq2.den g).below hb⟩ (by omega) (by omega))
    have HF := Lib.hid (show Fr w wr [] from ⟨HB.out, fun p hp => by cases hp⟩)
    clear hq1 hq2 g hsm hS0 hw gm gd HB hmem
    generalize l[i].1 = v at *
    generalize l[i].2.1.1 = s at *
    generalize l[i].2.1.2.length = n1 at *
    generalize l[i].2.2.length = n2 at *
    go_wp2_with fail
    have HF_ := Lib.hid HF.out.drew
    clear HF
    have HF := HF_
    clear HF_
    refine start_ (n := 12) (S := fun w' => w'.cell? (nxt (ad.add (i * 4)) 1) = some (.bool s) ∧ w'.cell? (nxt (ad.add (i * 4)) 2) = some (.slice B1 n1 c1) ∧ w'.cell? (nxt (ad.add (i * 4)) 3) = some (.slice D1 n2 d1) ∧ w'.cell? (nxt (bd.add (i * 4)) 1) = some (.bool s) ∧ w'.cell? (nxt (bd.add (i * 4)) 2) = some (.slice B2 n1 c2) ∧ w'.cell? (nxt (bd.add (i * 4)) 3) = some (.slice D2 n2 d2)) (ds := []) #[false, false, false, false, false, false, false, false, false, false, false, false] (by kernel_rfl) rfl rfl ⟨cell_below HF.out.bel i2, cell_below HF.out.bel i3, cell_below HF.out.bel i4, cell_below HF.out.bel j2, cell_below HF.out.bel j3, cell_below HF.out.bel j4⟩ (fun hHeld => ?_)
    generalize World.drew _ = W at *
    refine pu_ (v := ?_) (a' := ?_) 0 (some 18) rfl rfl ?_ ?_ ?_
    rotate_left; · intro w'; go_simp; with_reducible rfl
    rotate_left
    · simp only [Act.put, sa_, sb_, sc_]
      rfl
    refine pu_ (v := ?_) (a' := ?_) 1 (some 19) rfl rfl ?_ ?_ ?_
    rotate_left; · intro w'; go_simp; with_reducible rfl
    rotate_left
    · simp only [Act.put, sa_, sb_, sc_]
      rfl
    refine pu_ (v := ?_) (a' := ?_) 2 (some 20) rfl rfl ?_ ?_ ?_
    rotate_left; · intro w'; go_simp; with_reducible rfl
    rotate_left
    · simp only [Act.put, sa_, sb_, sc_]
      rfl
    refine pu_ (v := ?_) (a' := ?_) 3 (some 21) rfl rfl ?_ ?_ ?_
    rotate_left; · intro w'; go_simp; with_reducible rfl
    rotate_left
    · simp only [Act.put, sa_, sb_, sc_]
      rfl
    refine pu_ (v := ?_) (a' := ?_) 5 (some 23) rfl rfl ?_ ?_ ?_
    rotate_left; · intro w'; go_simp; with_reducible rfl
    rotate_left
    · simp only [Act.put, sa_, sb_, sc_]
      rfl
    refine pu_ (v := ?_) (a' := ?_) 6 (some 24) rfl rfl ?_ ?_ ?_
    rotate_left; · intro w'; go_simp; with_reducible rfl
    rotate_left
    · simp only [Act.put, sa_, sb_, sc_]
      rfl
    refine pu_ (v := ?_) (a' := ?_) 7 (some 25) rfl rfl ?_ ?_ ?_
    rotate_left; · intro w'; go_simp; with_reducible rfl
    rotate_left
    · simp only [Act.put, sa_, sb_, sc_]
      rfl
    refine pu_ (v := ?_) (a' := ?_) 8 (some 26) rfl rfl ?_ ?_ ?_
    rotate_left; · intro w'; go_simp; with_reducible rfl
    rotate_left
    · simp only [Act.put, sa_, sb_, sc_]
      rfl
    refine tk_ (v := ?_) (a' := ?_) 4 (some 22) rfl rfl ?_ hHeld ?_ ?_
    rotate_left
    · rintro w' ⟨s0, s1, s2, s3, s4, s5⟩; go_simp; with_reducible rfl
    rotate_left
    · simp only [Act.put, sa_, sb_, sc_]
      rfl
    refine tk_ (v := ?_) (a' := ?_) 9 (some 27) rfl rfl ?_ hHeld ?_ ?_
    rotate_left
    · rintro w' ⟨s0, s1, s2, s3, s4, s5⟩; go_simp; with_reducible rfl
    rotate_left
    · simp only [Act.put, sa_, sb_, sc_]
      rfl
    refine on_ 10 (N := (some 28)) rfl rfl (fun K hK => ?_)
    refine goes_ Tryz.func29 (by kernel_rfl) rfl #[.agg #[.bool s, .slice B1 n1 c1, .slice D1 n2 d1], .agg #[.bool s, .slice B2 n1 c2, .slice D2 n2 d2]] (by rfl) rfl rfl (by (try simp only [List.map_toArray, List.map_cons, List.map_nil]); first | done | rfl) ?_
    refine (hSR.out W HF.out.bel).mono ?_
    rintro e W1 ⟨rfl, q3⟩
    refine ⟨_, rfl, ?_⟩
    replace HF := Lib.hid (HF.out.below q3)
    clear q3
    refine hK.out _ _ ⟨cell_below HF.out.bel i2, cell_below HF.out.bel i3, cell_below HF.out.bel i4, cell_below HF.out.bel j2, cell_below HF.out.bel j3, cell_below HF.out.bel j4⟩ (fun hHeld => ?_)
    clear hK K
    refine norm_ (a' := ?_) ?_ ?_
    rotate_left
    · show Act.put _ (some 28) _ = _
      simp only [Act.put, sa_, sb_, sc_]
      rfl
    refine pu_ (v := ?_) (a' := ?_) 11 (some 6) rfl rfl ?_ ?_ ?_
    rotate_left; · intro w'; go_simp; with_reducible rfl
    rotate_left
    · simp only [Act.put, sa_, sb_, sc_]
      rfl
    refine done_ (by kernel_rfl) ?_
    have n1' := cell_below HF.out.bel i1
    have n2' := cell_below HF.out.bel j1
    clear hSR i1 i2 i3 i4 j1 j2 j3 j4
    go_wp2_with fail
    go_quiet (fail)
    go_wp2
    go_roundg (l.length - (i + 1))
    case measure => omega
    case rel => exact ⟨i + 1, by omega, by go_num, below_drewN HF.out.bel _⟩
  · have hltz : ¬ (i : Int) < (l.length : Int) := by omega
    go_wp2
    go_ret
    exact ⟨rfl, HB.out⟩
set_option maxHeartbeats 2000000 in
set_option maxRecDepth 100000 in
theorem same_AtomR (d : AtomD) (E1 : Option Addr) (j1 : Nat) (A1 : Option Addr) (c1 : Nat) (B1 : Option Addr) (e1 : Nat) (E2 : Option Addr) (j2 : Nat) (A2 : Option Addr) (c2 : Nat) (B2 : Option Addr) (e2 : Nat) (w : World) (h : AtX w d E1 j1 A1 c1 B1 e1) (k : AtX w d E2 j2 A2 c2 B2 e2) :
 Calls Tryz.prog 99 #[.agg (atc d E1 j1 A1 c1 B1 e1).toArray, .agg (atc d E2 j2 A2 c2 B2 e2).toArray] w (Decides w true) := by
 have hl := h.lens
 have hF := Lib.hid (fun (W : World) (hb : Below w.heap.size w W) => same_FormR E1 j1 E2 j2 d.1.1.2 W (h.raw.below hb) (k.raw.below hb))
 have hR := Lib.hid (fun (W : World) (hb : Below w.heap.size w W) => same_RatR d.1.2 A1 c1 B1 e1 A2 c2 B2 e2 W (h.bound.below hb) (k.bound.below hb) (by omega) (by omega))
 clear h k hl
 unfold atc
 generalize d.1.1.1 = nm at *
 generalize d.1.1.2.length = n0 at *
 generalize d.1.2.1.1 = qb at *
 generalize d.1.2.1.2.length = n1 at *
 generalize d.1.2.2.length = n2 at *
 generalize d.2 = st at *
 have HF := Lib.hid (((Fr.refl w).box [.string nm, .slice E1 n0 j1, .bool qb, .slice A1 n1 c1, .slice B1 n2 e1, .bool st] 84).box [.string nm, .slice E2 n0 j2, .bool qb, .slice A2 n1 c2, .slice B2 n2 e2, .bool st] 84)
 have hsz : (w.alloc (.cells [Value.string nm, .slice E1 n0 j1, .bool qb, .slice A1 n1 c1, .slice B1 n2 e1, .bool st].toArray 84)).heap.size = w.heap.size + 1 := by simp
 rw [hsz] at HF
 clear hsz
 simp only [List.toArray] at HF ⊢
 go_enter Tryz.func99, Tryz.ntmps99
 go_upto_region 1 with fail
 generalize hgt : World.alloc _ _ = W at HF ⊢
 clear hgt
 have x0 := HF.out.cellN 1 rfl 0 rfl
 have x1 := HF.out.cellN 1 rfl 1 rfl
 have x5 := HF.out.cellN 1 rfl 5 rfl
 have y0 := HF.out.cellN 0 rfl 0 rfl
 have y1 := HF.out.cellN 0 rfl 1 rfl
 have y5 := HF.out.cellN 0 rfl 5 rfl
 go_wp2_with fail
 refine (hF.out _ HF.out.bel).mono ?_
 rintro e W1 ⟨rfl, hb⟩
 replace HF := Lib.hid (HF.out.below hb)
 clear hb hF x0 x1 x5 y0 y1 y5
 have x2 := HF.out.cellN 1 rfl 2 rfl
 have x3 := HF.out.cellN 1 rfl 3 rfl
 have x4 := HF.out.cellN 1 rfl 4 rfl
 have y2 := HF.out.cellN 0 rfl 2 rfl
 have y3 := HF.out.cellN 0 rfl 3 rfl
 have y4 := HF.out.cellN 0 rfl 4 rfl
 go_wp2_with fail
 refine (hR.out _ HF.out.bel).mono ?_
 rintro e W2 ⟨rfl, hb⟩
 replace HF := Lib.hid (HF.out.below hb)
 clear hb hR x2 x3 x4 y2 y3 y4
 go_wp2
 go_ret
 exact ⟨rfl, HF.out.bel⟩
set_option maxHeartbeats 2000000 in
set_option maxRecDepth 100000 in
theorem same_StepR (d : StepD) (A1 : Option Addr) (c1 : Nat) (B1 : Option Addr) (b1 : Nat) (D1 : Option Addr) (e1 : Nat) (A2 : Option Addr) (c2 : Nat) (B2 : Option Addr) (b2 : Nat) (D2 : Option Addr) (e2 : Nat) (w : World) (h : StIn w d A1 c1 B1 b1 D1 e1) (k : StIn w d A2 c2 B2 b2 D2 e2) :
 Calls Tryz.prog 100 #[.agg (stc d A1 c1 B1 b1 D1 e1).toArray, .agg (stc d A2 c2 B2 b2 D2 e2).toArray] w (Decides w true) := by
 have hg := h.good
 have hf := hg.few
 unfold wts at hf
 have hl := wt_len d.2
 have hI1 := Lib.hid (fun (W : World) (hb : Below w.heap.size w W) => show Calls Tryz.prog 167 #[.slice A1 d.1.1.2.length c1, .slice A2 d.1.1.2.length c2] W (Decides W true) from by
  have := s24_Ints A1 c1 A2 c2 d.1.1.2 d.1.1.2 W (h.rowC.below hb) h.capC (k.rowC.below hb) k.capC (by omega) (by omega)
  rwa [decide_eq_true rfl] at this)
 have hI2 := Lib.hid (fun (W : World) (hb : Below w.heap.size w W) => show Calls Tryz.prog 167 #[.slice B1 d.1.2.length b1, .slice B2 d.1.2.length b2] W (Decides W true) from by
  have := s24_Ints B1 b1 B2 b2 d.1.2 d.1.2 W (h.rowB.below hb) h.capB (k.rowB.below hb) k.capB (by omega) (by omega)
  rwa [decide_eq_true rfl] at this)
 have HR1 := Lib.hid (fun (i : Nat) (hi : i < d.2.length) => rat_row h.rowQ hg.good (by omega) i hi)
 have HR2 := Lib.hid (fun (i : Nat) (hi : i < d.2.length) => rat_row k.rowQ hg.good (by omega) i hi)
 have hq1 := h.capQ
 have hq2 := k.capQ
 have hql : d.2.length ≤ 8388608 := by omega
 clear h k hg hf hl
 unfold stc
 generalize d.1.1.1 = kd at *
 generalize d.1.1.2.length = n0 at *
 generalize d.1.2.length = n1 at *
 have HF := Lib.hid (((Fr.refl w).box [.int .i64 kd, .slice A1 n0 c1, .slice B1 n1 b1, .slice D1 d.2.length e1] 80).box [.int .i64 kd, .slice A2 n0 c2, .slice B2 n1 b2, .slice D2 d.2.length e2] 80)
 have hsz : (w.alloc (.cells [.int .i64 kd, .slice A1 n0 c1, .slice B1 n1 b1, .slice D1 d.2.length e1].toArray 80)).heap.size = w.heap.size + 1 := by simp
 rw [hsz] at HF
 clear hsz
 simp only [List.toArray] at HF ⊢
 go_enter Tryz.func100, Tryz.ntmps100
 go_upto_region 1 with fail
 generalize hgt : World.alloc _ _ = W at HF ⊢
 clear hgt
 have x0 := HF.out.cellN 1 rfl 0 rfl
 have x1 := HF.out.cellN 1 rfl 1 rfl
 have y0 := HF.out.cellN 0 rfl 0 rfl
 have y1 := HF.out.cellN 0 rfl 1 rfl
 go_wp2_with fail
 refine (hI1.out _ HF.out.bel).mono ?_
 rintro e W1 ⟨rfl, hb⟩
 replace HF := Lib.hid (HF.out.below hb)
 clear hb hI1 x0 x1 y0 y1
 have x2 := HF.out.cellN 1 rfl 2 rfl
 have y2 := HF.out.cellN 0 rfl 2 rfl
 go_wp2_with fail
 refine (hI2.out _ HF.out.bel).mono ?_
 rintro e W2 ⟨rfl, hb⟩
 replace HF := Lib.hid (HF.out.below hb)
 clear hb hI2 x2 y2
 have x3 := HF.out.cellN 1 rfl 3 rfl
 have y3 := HF.out.cellN 0 rfl 3 rfl
 go_wp2_with fail
 go_loopg [5] d.2.length (fun gg s5 wr => ∃ i : Nat, i + gg = d.2.length ∧ s5 = .int .i64 i ∧ Hid (Fr w wr [(w.heap.size + 1, [.int .i64 kd, .slice A2 n0 c2, .slice B2 n1 b2, .slice D2 d.2.length e2]), (w.heap.size, [.int .i64 kd, .slice A1 n0 c1, .slice B1 n1 b1, .slice D1 d.2.length e1])]))
 case atStart => exact ⟨0, by omega, rfl, HF.out⟩
 case round =>
  clear HF x3 y3
  obtain ⟨i, hg, rfl, HF⟩ := hrel
  have x3 := HF.out.cellN 1 rfl 3 rfl
  by_cases hlt : i < d.2.length
  · have hltz : (i : Int) < (d.2.length : Int) := by omega
    obtain ⟨ad, Ba, ca, Da, da, rfl, i1, i2, i3, hq1', l1, l2⟩ := HR1.out i hlt
    obtain ⟨bd, Bb, cb, Db, db, rfl, j1, j2, j3, hq2', _, _⟩ := HR2.out i hlt
    have hSR := Lib.hid (fun (W : World) (hb : Below w.heap.size w W) => same_RatR d.2[i] Ba ca Da da Bb cb Db db W (hq1'.below hb) (hq2'.below hb) (by omega) (by omega))
    clear hq1' hq2' l1 l2
    generalize d.2[i].1.1 = s at *
    generalize d.2[i].1.2.length = m1 at *
    generalize d.2[i].2.length = m2 at *
    go_wp2_with fail
    have HF_ := Lib.hid HF.out.drew
    clear HF
    have HF := HF_
    clear HF_
    refine start_ (n := 12) (S := fun w' => w'.cell? ⟨w.heap.size, 0, none⟩ = some (.int .i64 kd) ∧ w'.cell? ⟨w.heap.size, 1, none⟩ = some (.slice A1 n0 c1) ∧ w'.cell? ⟨w.heap.size, 2, none⟩ = some (.slice B1 n1 b1) ∧ w'.cell? ⟨w.heap.size, 3, none⟩ = some (.slice (some ad) d.2.length e1) ∧ w'.cell? ⟨w.heap.size + 1, 0, none⟩ = some (.int .i64 kd) ∧ w'.cell? ⟨w.heap.size + 1, 1, none⟩ = some (.slice A2 n0 c2) ∧ w'.cell? ⟨w.heap.size + 1, 2, none⟩ = some (.slice B2 n1 b2) ∧ w'.cell? ⟨w.heap.size + 1, 3, none⟩ = some (.slice (some bd) d.2.length e2) ∧ w'.cell? (ad.add (i * 3)) = some (.bool s) ∧ w'.cell? (nxt (ad.add (i * 3)) 1) = some (.slice Ba m1 ca) ∧ w'.cell? (nxt (ad.add (i * 3)) 2) = some (.slice Da m2 da) ∧ w'.cell? (bd.add (i * 3)) = some (.bool s) ∧ w'.cell? (nxt (bd.add (i * 3)) 1) = some (.slice Bb m1 cb) ∧ w'.cell? (nxt (bd.add (i * 3)) 2) = some (.slice Db m2 db)) (ds := []) #[false, false, false, false, false, false, false, false, false, false, false, false] (by kernel_rfl) rfl rfl ⟨HF.out.cellN 1 rfl 0 rfl, HF.out.cellN 1 rfl 1 rfl, HF.out.cellN 1 rfl 2 rfl, HF.out.cellN 1 rfl 3 rfl, HF.out.cellN 0 rfl 0 rfl, HF.out.cellN 0 rfl 1 rfl, HF.out.cellN 0 rfl 2 rfl, HF.out.cellN 0 rfl 3 rfl, cell_below HF.out.bel i1, cell_below HF.out.bel i2, cell_below HF.out.bel i3, cell_below HF.out.bel j1, cell_below HF.out.bel j2, cell_below HF.out.bel j3⟩ (fun hHeld => ?_)
    generalize World.drew _ = W at *
    refine pu_ (v := ?_) (a' := ?_) 0 (some 44) rfl rfl ?_ ?_ ?_
    rotate_left; · intro w'; go_simp; with_reducible rfl
    rotate_left
    · simp only [Act.put, sa_, sb_, sc_]
      rfl
    refine pu_ (v := ?_) (a' := ?_) 2 (some 46) rfl rfl ?_ ?_ ?_
    rotate_left; · intro w'; go_simp; with_reducible rfl
    rotate_left
    · simp only [Act.put, sa_, sb_, sc_]
      rfl
    refine pu_ (v := ?_) (a' := ?_) 5 (some 49) rfl rfl ?_ ?_ ?_
    rotate_left; · intro w'; go_simp; with_reducible rfl
    rotate_left
    · simp only [Act.put, sa_, sb_, sc_]
      rfl
    refine pu_ (v := ?_) (a' := ?_) 7 (some 51) rfl rfl ?_ ?_ ?_
    rotate_left; · intro w'; go_simp; with_reducible rfl
    rotate_left
    · simp only [Act.put, sa_, sb_, sc_]
      rfl
    refine tk_ (v := ?_) (a' := ?_) 1 (some 45) rfl rfl ?_ hHeld ?_ ?_
    rotate_left
    · rintro w' ⟨s0, s1, s2, s3, s4, s5, s6, s7, s8, s9, s10, s11, s12, s13⟩; go_simp; with_reducible rfl
    rotate_left
    · simp only [Act.put, sa_, sb_, sc_]
      rfl
    refine pu_ (v := ?_) (a' := ?_) 3 (some 47) rfl rfl ?_ ?_ ?_
    rotate_left; · intro w'; go_simp; with_reducible rfl
    rotate_left
    · simp only [Act.put, sa_, sb_, sc_]
      rfl
    refine tk_ (v := ?_) (a' := ?_) 4 (some 48) rfl rfl ?_ hHeld ?_ ?_
    rotate_left
    · rintro w' ⟨s0, s1, s2, s3, s4, s5, s6, s7, s8, s9, s10, s11, s12, s13⟩; go_simp; with_reducible rfl
    rotate_left
    · simp only [Act.put, sa_, sb_, sc_]
      rfl
    refine tk_ (v := ?_) (a' := ?_) 6 (some 50) rfl rfl ?_ hHeld ?_ ?_
    rotate_left
    · rintro w' ⟨s0, s1, s2, s3, s4, s5, s6, s7, s8, s9, s10, s11, s12, s13⟩; go_simp; with_reducible rfl
    rotate_left
    · simp only [Act.put, sa_, sb_, sc_]
      rfl
    refine pu_ (v := ?_) (a' := ?_) 8 (some 52) rfl rfl ?_ ?_ ?_
    rotate_left; · intro w'; go_simp; with_reducible rfl
    rotate_left
    · simp only [Act.put, sa_, sb_, sc_]
      rfl
    refine tk_ (v := ?_) (a' := ?_) 9 (some 53) rfl rfl ?_ hHeld ?_ ?_
    rotate_left
    · rintro w' ⟨s0, s1, s2, s3, s4, s5, s6, s7, s8, s9, s10, s11, s12, s13⟩; go_simp; with_reducible rfl
    rotate_left
    · simp only [Act.put, sa_, sb_, sc_]
      rfl
    refine on_ 10 (N := (some 54)) rfl rfl (fun K hK => ?_)
    refine goes_ Tryz.func29 (by kernel_rfl) rfl #[.agg #[.bool s, .slice Ba m1 ca, .slice Da m2 da], .agg #[.bool s, .slice Bb m1 cb, .slice Db m2 db]] (by rfl) rfl rfl (by (try simp only [List.map_toArray, List.map_cons, List.map_nil]); first | done | rfl) ?_
    refine (hSR.out W HF.out.bel).mono ?_
    rintro e W1 ⟨rfl, q3⟩
    refine ⟨_, rfl, ?_⟩
    replace HF := Lib.hid (HF.out.below q3)
    clear q3
    refine hK.out _ _ ⟨HF.out.cellN 1 rfl 0 rfl, HF.out.cellN 1 rfl 1 rfl, HF.out.cellN 1 rfl 2 rfl, HF.out.cellN 1 rfl 3 rfl, HF.out.cellN 0 rfl 0 rfl, HF.out.cellN 0 rfl 1 rfl, HF.out.cellN 0 rfl 2 rfl, HF.out.cellN 0 rfl 3 rfl, cell_below HF.out.bel i1, cell_below HF.out.bel i2, cell_below HF.out.bel i3, cell_below HF.out.bel j1, cell_below HF.out.bel j2, cell_below HF.out.bel j3⟩ (fun hHeld => ?_)
    clear hK K
    refine norm_ (a' := ?_) ?_ ?_
    rotate_left
    · show Act.put _ (some 54) _ = _
      simp only [Act.put, sa_, sb_, sc_]
      rfl
    refine pu_ (v := ?_) (a' := ?_) 11 (some 6) rfl rfl ?_ ?_ ?_
    rotate_left; · intro w'; go_simp; with_reducible rfl
    rotate_left
    · simp only [Act.put, sa_, sb_, sc_]
      rfl
    refine done_ (by kernel_rfl) ?_
    clear hSR i1 i2 i3 j1 j2 j3 x3
    go_wp2
    go_roundg (d.2.length - (i + 1))
    case measure => omega
    case rel => exact ⟨i + 1, by omega, by go_num, HF.out⟩
  · have hltz : ¬ (i : Int) < (d.2.length : Int) := by omega
    go_wp2
    go_ret
    exact ⟨rfl, HF.out.bel⟩
set_option maxHeartbeats 4000000 in
set_option maxRecDepth 100000 in
theorem same_RefR (r : RefD) (A : Option Addr) (a : Nat) (B : Option Addr) (b : Nat) (A' : Option Addr) (a' : Nat) (B' : Option Addr) (b' : Nat) (w : World) (h : RefIn w r A a B b) (k : RefIn w r A' a' B' b') :
 Calls Tryz.prog 38 #[.agg #[.slice A r.1.length a, .slice B r.2.length b], .agg #[.slice A' r.1.length a', .slice B' r.2.length b']] w (Decides w true) := by
 have hl := h.lens
 have hc1 := h.capA
 have hc2 := h.capS
 have kc1 := k.capA
 have kc2 := k.capS
 have HA1 := Lib.hid (fun (i : Nat) (hi : i < r.1.length) => atIn_row h.rowA h.goodA i hi)
 have HA2 := Lib.hid (fun (i : Nat) (hi : i < r.1.length) => atIn_row k.rowA k.goodA i hi)
 have HS1 := Lib.hid (fun (i : Nat) (hi : i < r.2.length) => stIn_row h.rowS h.goodS i hi)
 have HS2 := Lib.hid (fun (i : Nat) (hi : i < r.2.length) => stIn_row k.rowS k.goodS i hi)
 clear h k
 have HF := Lib.hid (((Fr.refl w).box [.slice A r.1.length a, .slice B r.2.length b] 25).box [.slice A' r.1.length a', .slice B' r.2.length b'] 25)
 have hsz : (w.alloc (.cells [Value.slice A r.1.length a, .slice B r.2.length b].toArray 25)).heap.size = w.heap.size + 1 := by simp
 rw [hsz] at HF
 clear hsz
 simp only [List.toArray] at HF ⊢
 go_enter Tryz.func38, Tryz.ntmps38
 go_upto_region 1 with fail
 generalize hgt : World.alloc _ _ = W at HF ⊢
 clear hgt
 have x0 := HF.out.cellN 1 rfl 0 rfl
 have x1 := HF.out.cellN 1 rfl 1 rfl
 have y0 := HF.out.cellN 0 rfl 0 rfl
 have y1 := HF.out.cellN 0 rfl 1 rfl
 go_wp2_with fail
 go_loopg [5] r.1.length (fun gg s5 wr => ∃ i : Nat, i + gg = r.1.length ∧ s5 = .int .i64 i ∧ Hid (Fr w wr [(w.heap.size + 1, [.slice A' r.1.length a', .slice B' r.2.length b']), (w.heap.size, [.slice A r.1.length a, .slice B r.2.length b])]))
 case atStart => exact ⟨0, by omega, rfl, HF.out⟩
 case round =>
  clear HF x0 x1 y0 y1
  obtain ⟨i, hg, rfl, HF⟩ := hrel
  have x0 := HF.out.cellN 1 rfl 0 rfl
  by_cases hlt : i < r.1.length
  · have hltz : (i : Int) < (r.1.length : Int) := by omega
    obtain ⟨ad, E1, j1, A1, c1, B1, e1, rfl, i0, i1, i2, i3, i4, i5, ha1, _⟩ := HA1.out i hlt
    obtain ⟨bd, E2, j2, A2, c2, B2, e2, rfl, k0, k1, k2, k3, k4, k5, ha2, _⟩ := HA2.out i hlt
    have hSR := Lib.hid (fun (W : World) (hb : Below w.heap.size w W) => same_AtomR r.1[i] E1 j1 A1 c1 B1 e1 E2 j2 A2 c2 B2 e2 W (ha1.x.below hb) (ha2.x.below hb))
    clear ha1 ha2
    unfold atc at hSR
    simp only [List.toArray] at hSR
    generalize r.1[i] = d at *
    generalize d.1.1.1 = nm at *
    generalize d.1.1.2.length = n0 at *
    generalize d.1.2.1.1 = qb at *
    generalize d.1.2.1.2.length = n1 at *
    generalize d.1.2.2.length = n2 at *
    generalize d.2 = st at *
    go_wp2_with fail
    have HF_ := Lib.hid HF.out.drew
    clear HF
    have HF := HF_
    clear HF_
    refine start_ (n := 12) (S := fun w' => w'.cell? ⟨w.heap.size, 0, none⟩ = some (.slice (some ad) r.1.length a) ∧ w'.cell? ⟨w.heap.size, 1, none⟩ = some (.slice B r.2.length b) ∧ w'.cell? ⟨w.heap.size + 1, 0, none⟩ = some (.slice (some bd) r.1.length a') ∧ w'.cell? ⟨w.heap.size + 1, 1, none⟩ = some (.slice B' r.2.length b') ∧ w'.cell? (ad.add (i * 6)) = some (.string nm) ∧ w'.cell? (nxt (ad.add (i * 6)) 1) = some (.slice E1 n0 j1) ∧ w'.cell? (nxt (ad.add (i * 6)) 2) = some (.bool qb) ∧ w'.cell? (nxt (ad.add (i * 6)) 3) = some (.slice A1 n1 c1) ∧ w'.cell? (nxt (ad.add (i * 6)) 4) = some (.slice B1 n2 e1) ∧ w'.cell? (nxt (ad.add (i * 6)) 5) = some (.bool st) ∧ w'.cell? (bd.add (i * 6)) = some (.string nm) ∧ w'.cell? (nxt (bd.add (i * 6)) 1) = some (.slice E2 n0 j2) ∧ w'.cell? (nxt (bd.add (i * 6)) 2) = some (.bool qb) ∧ w'.cell? (nxt (bd.add (i * 6)) 3) = some (.slice A2 n1 c2) ∧ w'.cell? (nxt (bd.add (i * 6)) 4) = some (.slice B2 n2 e2) ∧ w'.cell? (nxt (bd.add (i * 6)) 5) = some (.bool st)) (ds := []) #[false, false, false, false, false, false, false, false, false, false, false, false] (by kernel_rfl) rfl rfl ⟨HF.out.cellN 1 rfl 0 rfl, HF.out.cellN 1 rfl 1 rfl, HF.out.cellN 0 rfl 0 rfl, HF.out.cellN 0 rfl 1 rfl, cell_below HF.out.bel i0, cell_below HF.out.bel i1, cell_below HF.out.bel i2, cell_below HF.out.bel i3, cell_below HF.out.bel i4, cell_below HF.out.bel i5, cell_below HF.out.bel k0, cell_below HF.out.bel k1, cell_below HF.out.bel k2, cell_below HF.out.bel k3, cell_below HF.out.bel k4, cell_below HF.out.bel k5⟩ (fun hHeld => ?_)
    generalize World.drew _ = W at *
    refine pu_ (v := ?_) (a' := ?_) 0 (some 32) rfl rfl ?_ ?_ ?_
    rotate_left; · intro w'; go_simp; with_reducible rfl
    rotate_left
    · simp only [Act.put, sa_, sb_, sc_]
      rfl
    refine pu_ (v := ?_) (a' := ?_) 2 (some 34) rfl rfl ?_ ?_ ?_
    rotate_left; · intro w'; go_simp; with_reducible rfl
    rotate_left
    · simp only [Act.put, sa_, sb_, sc_]
      rfl
    refine pu_ (v := ?_) (a' := ?_) 5 (some 37) rfl rfl ?_ ?_ ?_
    rotate_left; · intro w'; go_simp; with_reducible rfl
    rotate_left
    · simp only [Act.put, sa_, sb_, sc_]
      rfl
    refine pu_ (v := ?_) (a' := ?_) 7 (some 39) rfl rfl ?_ ?_ ?_
    rotate_left; · intro w'; go_simp; with_reducible rfl
    rotate_left
    · simp only [Act.put, sa_, sb_, sc_]
      rfl
    refine tk_ (v := ?_) (a' := ?_) 1 (some 33) rfl rfl ?_ hHeld ?_ ?_
    rotate_left
    · rintro w' ⟨s0, s1, s2, s3, s4, s5, s6, s7, s8, s9, s10, s11, s12, s13, s14, s15⟩; go_simp; with_reducible rfl
    rotate_left
    · simp only [Act.put, sa_, sb_, sc_]
      rfl
    refine pu_ (v := ?_) (a' := ?_) 3 (some 35) rfl rfl ?_ ?_ ?_
    rotate_left; · intro w'; go_simp; with_reducible rfl
    rotate_left
    · simp only [Act.put, sa_, sb_, sc_]
      rfl
    refine tk_ (v := ?_) (a' := ?_) 4 (some 36) rfl rfl ?_ hHeld ?_ ?_
    rotate_left
    · rintro w' ⟨s0, s1, s2, s3, s4, s5, s6, s7, s8, s9, s10, s11, s12, s13, s14, s15⟩; go_simp; with_reducible rfl
    rotate_left
    · simp only [Act.put, sa_, sb_, sc_]
      rfl
    refine tk_ (v := ?_) (a' := ?_) 6 (some 38) rfl rfl ?_ hHeld ?_ ?_
    rotate_left
    · rintro w' ⟨s0, s1, s2, s3, s4, s5, s6, s7, s8, s9, s10, s11, s12, s13, s14, s15⟩; go_simp; with_reducible rfl
    rotate_left
    · simp only [Act.put, sa_, sb_, sc_]
      rfl
    refine pu_ (v := ?_) (a' := ?_) 8 (some 40) rfl rfl ?_ ?_ ?_
    rotate_left; · intro w'; go_simp; with_reducible rfl
    rotate_left
    · simp only [Act.put, sa_, sb_, sc_]
      rfl
    refine tk_ (v := ?_) (a' := ?_) 9 (some 41) rfl rfl ?_ hHeld ?_ ?_
    rotate_left
    · rintro w' ⟨s0, s1, s2, s3, s4, s5, s6, s7, s8, s9, s10, s11, s12, s13, s14, s15⟩; go_simp; with_reducible rfl
    rotate_left
    · simp only [Act.put, sa_, sb_, sc_]
      rfl
    refine on_ 10 (N := (some 42)) rfl rfl (fun K hK => ?_)
    refine goes_ Tryz.func99 (by kernel_rfl) rfl #[.agg #[.string nm, .slice E1 n0 j1, .bool qb, .slice A1 n1 c1, .slice B1 n2 e1, .bool st], .agg #[.string nm, .slice E2 n0 j2, .bool qb, .slice A2 n1 c2, .slice B2 n2 e2, .bool st]] (by rfl) rfl rfl (by (try simp only [List.map_toArray, List.map_cons, List.map_nil]); first | done | rfl) ?_
    refine (hSR.out W HF.out.bel).mono ?_
    rintro e W1 ⟨rfl, q3⟩
    refine ⟨_, rfl, ?_⟩
    replace HF := Lib.hid (HF.out.below q3)
    clear q3
    refine hK.out _ _ ⟨HF.out.cellN 1 rfl 0 rfl, HF.out.cellN 1 rfl 1 rfl, HF.out.cellN 0 rfl 0 rfl, HF.out.cellN 0 rfl 1 rfl, cell_below HF.out.bel i0, cell_below HF.out.bel i1, cell_below HF.out.bel i2, cell_below HF.out.bel i3, cell_below HF.out.bel i4, cell_below HF.out.bel i5, cell_below HF.out.bel k0, cell_below HF.out.bel k1, cell_below HF.out.bel k2, cell_below HF.out.bel k3, cell_below HF.out.bel k4, cell_below HF.out.bel k5⟩ (fun hHeld => ?_)
    clear hK K
    refine norm_ (a' := ?_) ?_ ?_
    rotate_left
    · show Act.put _ (some 42) _ = _
      simp only [Act.put, sa_, sb_, sc_]
      rfl
    refine pu_ (v := ?_) (a' := ?_) 11 (some 6) rfl rfl ?_ ?_ ?_
    rotate_left; · intro w'; go_simp; with_reducible rfl
    rotate_left
    · simp only [Act.put, sa_, sb_, sc_]
      rfl
    refine done_ (by kernel_rfl) ?_
    clear hSR i0 i1 i2 i3 i4 i5 k0 k1 k2 k3 k4 k5 x0
    go_wp2
    go_roundg (r.1.length - (i + 1))
    case measure => omega
    case rel => exact ⟨i + 1, by omega, by go_num, HF.out⟩
  · have hltz : ¬ (i : Int) < (r.1.length : Int) := by omega
    have x1 := HF.out.cellN 1 rfl 1 rfl
    go_wp2_with fail
    go_loopg [7] r.2.length (fun gg s7 wr => ∃ i : Nat, i + gg = r.2.length ∧ s7 = .int .i64 i ∧ Hid (Fr w wr [(w.heap.size + 1, [.slice A' r.1.length a', .slice B' r.2.length b']), (w.heap.size, [.slice A r.1.length a, .slice B r.2.length b])]))
    case atStart => exact ⟨0, by omega, rfl, HF.out⟩
    case round =>
     clear HF x0 x1 hltz hlt hg
     obtain ⟨i, hg, rfl, HF⟩ := hrel
     have x1 := HF.out.cellN 1 rfl 1 rfl
     by_cases hlt : i < r.2.length
     · have hltz : (i : Int) < (r.2.length : Int) := by omega
       obtain ⟨ad, A1, c1, B1, b1, D1, e1, rfl, i0, i1, i2, i3, ha1⟩ := HS1.out i hlt
       obtain ⟨bd, A2, c2, B2, b2, D2, e2, rfl, k0, k1, k2, k3, ha2⟩ := HS2.out i hlt
       have hSR := Lib.hid (fun (W : World) (hb : Below w.heap.size w W) => same_StepR r.2[i] A1 c1 B1 b1 D1 e1 A2 c2 B2 b2 D2 e2 W (ha1.below hb) (ha2.below hb))
       clear ha1 ha2
       unfold stc at hSR
       simp only [List.toArray] at hSR
       generalize r.2[i] = d at *
       generalize d.1.1.1 = kd at *
       generalize d.1.1.2.length = n0 at *
       generalize d.1.2.length = n1 at *
       generalize d.2.length = n2 at *
       go_wp2_with fail
       have HF_ := Lib.hid HF.out.drew
       clear HF
       have HF := HF_
       clear HF_
       refine start_ (n := 12) (S := fun w' => w'.cell? ⟨w.heap.size, 0, none⟩ = some (.slice A r.1.length a) ∧ w'.cell? ⟨w.heap.size, 1, none⟩ = some (.slice (some ad) r.2.length b) ∧ w'.cell? ⟨w.heap.size + 1, 0, none⟩ = some (.slice A' r.1.length a') ∧ w'.cell? ⟨w.heap.size + 1, 1, none⟩ = some (.slice (some bd) r.2.length b') ∧ w'.cell? (ad.add (i * 4)) = some (.int .i64 kd) ∧ w'.cell? (nxt (ad.add (i * 4)) 1) = some (.slice A1 n0 c1) ∧ w'.cell? (nxt (ad.add (i * 4)) 2) = some (.slice B1 n1 b1) ∧ w'.cell? (nxt (ad.add (i * 4)) 3) = some (.slice D1 n2 e1) ∧ w'.cell? (bd.add (i * 4)) = some (.int .i64 kd) ∧ w'.cell? (nxt (bd.add (i * 4)) 1) = some (.slice A2 n0 c2) ∧ w'.cell? (nxt (bd.add (i * 4)) 2) = some (.slice B2 n1 b2) ∧ w'.cell? (nxt (bd.add (i * 4)) 3) = some (.slice D2 n2 e2)) (ds := []) #[false, false, false, false, false, false, false, false, false, false, false, false] (by kernel_rfl) rfl rfl ⟨HF.out.cellN 1 rfl 0 rfl, HF.out.cellN 1 rfl 1 rfl, HF.out.cellN 0 rfl 0 rfl, HF.out.cellN 0 rfl 1 rfl, cell_below HF.out.bel i0, cell_below HF.out.bel i1, cell_below HF.out.bel i2, cell_below HF.out.bel i3, cell_below HF.out.bel k0, cell_below HF.out.bel k1, cell_below HF.out.bel k2, cell_below HF.out.bel k3⟩ (fun hHeld => ?_)
       generalize World.drew _ = W at *
       refine pu_ (v := ?_) (a' := ?_) 0 (some 52) rfl rfl ?_ ?_ ?_
       rotate_left; · intro w'; go_simp; with_reducible rfl
       rotate_left
       · simp only [Act.put, sa_, sb_, sc_]
         rfl
       refine pu_ (v := ?_) (a' := ?_) 2 (some 54) rfl rfl ?_ ?_ ?_
       rotate_left; · intro w'; go_simp; with_reducible rfl
       rotate_left
       · simp only [Act.put, sa_, sb_, sc_]
         rfl
       refine pu_ (v := ?_) (a' := ?_) 5 (some 57) rfl rfl ?_ ?_ ?_
       rotate_left; · intro w'; go_simp; with_reducible rfl
       rotate_left
       · simp only [Act.put, sa_, sb_, sc_]
         rfl
       refine pu_ (v := ?_) (a' := ?_) 7 (some 59) rfl rfl ?_ ?_ ?_
       rotate_left; · intro w'; go_simp; with_reducible rfl
       rotate_left
       · simp only [Act.put, sa_, sb_, sc_]
         rfl
       refine tk_ (v := ?_) (a' := ?_) 1 (some 53) rfl rfl ?_ hHeld ?_ ?_
       rotate_left
       · rintro w' ⟨s0, s1, s2, s3, s4, s5, s6, s7, s8, s9, s10, s11⟩; go_simp; with_reducible rfl
       rotate_left
       · simp only [Act.put, sa_, sb_, sc_]
         rfl
       refine pu_ (v := ?_) (a' := ?_) 3 (some 55) rfl rfl ?_ ?_ ?_
       rotate_left; · intro w'; go_simp; with_reducible rfl
       rotate_left
       · simp only [Act.put, sa_, sb_, sc_]
         rfl
       refine tk_ (v := ?_) (a' := ?_) 4 (some 56) rfl rfl ?_ hHeld ?_ ?_
       rotate_left
       · rintro w' ⟨s0, s1, s2, s3, s4, s5, s6, s7, s8, s9, s10, s11⟩; go_simp; with_reducible rfl
       rotate_left
       · simp only [Act.put, sa_, sb_, sc_]
         rfl
       refine tk_ (v := ?_) (a' := ?_) 6 (some 58) rfl rfl ?_ hHeld ?_ ?_
       rotate_left
       · rintro w' ⟨s0, s1, s2, s3, s4, s5, s6, s7, s8, s9, s10, s11⟩; go_simp; with_reducible rfl
       rotate_left
       · simp only [Act.put, sa_, sb_, sc_]
         rfl
       refine pu_ (v := ?_) (a' := ?_) 8 (some 60) rfl rfl ?_ ?_ ?_
       rotate_left; · intro w'; go_simp; with_reducible rfl
       rotate_left
       · simp only [Act.put, sa_, sb_, sc_]
         rfl
       refine tk_ (v := ?_) (a' := ?_) 9 (some 61) rfl rfl ?_ hHeld ?_ ?_
       rotate_left
       · rintro w' ⟨s0, s1, s2, s3, s4, s5, s6, s7, s8, s9, s10, s11⟩; go_simp; with_reducible rfl
       rotate_left
       · simp only [Act.put, sa_, sb_, sc_]
         rfl
       refine on_ 10 (N := (some 62)) rfl rfl (fun K hK => ?_)
       refine goes_ Tryz.func100 (by kernel_rfl) rfl #[.agg #[.int .i64 kd, .slice A1 n0 c1, .slice B1 n1 b1, .slice D1 n2 e1], .agg #[.int .i64 kd, .slice A2 n0 c2, .slice B2 n1 b2, .slice D2 n2 e2]] (by rfl) rfl rfl (by (try simp only [List.map_toArray, List.map_cons, List.map_nil]); first | done | rfl) ?_
       refine (hSR.out W HF.out.bel).mono ?_
       rintro e W1 ⟨rfl, q3⟩
       refine ⟨_, rfl, ?_⟩
       replace HF := Lib.hid (HF.out.below q3)
       clear q3
       refine hK.out _ _ ⟨HF.out.cellN 1 rfl 0 rfl, HF.out.cellN 1 rfl 1 rfl, HF.out.cellN 0 rfl 0 rfl, HF.out.cellN 0 rfl 1 rfl, cell_below HF.out.bel i0, cell_below HF.out.bel i1, cell_below HF.out.bel i2, cell_below HF.out.bel i3, cell_below HF.out.bel k0, cell_below HF.out.bel k1, cell_below HF.out.bel k2, cell_below HF.out.bel k3⟩ (fun hHeld => ?_)
       clear hK K
       refine norm_ (a' := ?_) ?_ ?_
       rotate_left
       · show Act.put _ (some 62) _ = _
         simp only [Act.put, sa_, sb_, sc_]
         rfl
       refine pu_ (v := ?_) (a' := ?_) 11 (some 8) rfl rfl ?_ ?_ ?_
       rotate_left; · intro w'; go_simp; with_reducible rfl
       rotate_left
       · simp only [Act.put, sa_, sb_, sc_]
         rfl
       refine done_ (by kernel_rfl) ?_
       clear hSR i0 i1 i2 i3 k0 k1 k2 k3 x1
       go_wp2
       go_roundg (r.2.length - (i + 1))
       case measure => omega
       case rel => exact ⟨i + 1, by omega, by go_num, HF.out⟩
     · have hltz : ¬ (i : Int) < (r.2.length : Int) := by omega
       go_wp2
       go_ret
       exact ⟨rfl, HF.out.bel⟩
end Go.Proofs.YtidgpkccjcddgaaGreatDoor.F
