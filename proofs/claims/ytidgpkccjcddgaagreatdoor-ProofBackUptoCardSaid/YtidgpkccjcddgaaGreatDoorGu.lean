/- The reference's layer 17: Check. Condition: atoms of weight at most 1048576. -/
import Derived.Test.YtidgpkccjcddgaaGreatDoorGt
import Derived.Deep.DeepCutAuto
import Derived.Maps.OwnSet
import Derived.Deep.CutBlock
set_option linter.unusedVariables false
set_option linter.unusedSimpArgs false
namespace Go.Proofs.YtidgpkccjcddgaaGreatDoor.F
open Go.RowKit Go.Shelf Go.Proofs.YtidgpkccjcddgaaGreatDoorW.PrintLast
theorem add_none (a : Addr) : a.add 0 = a := by unfold Addr.add; simp
theorem atIn_zero {w : World} {A : Option Addr} {xs : List AtomD} (h : kAtom.Row w A xs) (hg : ∀ a ∈ xs, GoodA a) (hi : 0 < xs.length) :
 ∃ ad E c B d D e, A = some ad ∧ w.cell? ad = some (.string xs[0].1.1.1) ∧ w.cell? (nxt ad 1) = some (.slice E xs[0].1.1.2.length c) ∧ w.cell? (nxt ad 2) = some (.bool xs[0].1.2.1.1) ∧ w.cell? (nxt ad 3) = some (.slice B xs[0].1.2.1.2.length d) ∧ w.cell? (nxt ad 4) = some (.slice D xs[0].1.2.2.length e) ∧ w.cell? (nxt ad 5) = some (.bool xs[0].2) ∧ AtIn w xs[0] E c B d D e ∧ xs[0].1.1.1.size ≤ 1048576 := by
 obtain ⟨ad, E, c, B, d, D, e, e0, h0, h1, h2, h3, h4, h5, k⟩ := atIn_row h hg 0 hi
 rw [Nat.zero_mul, add_none] at h0 h1 h2 h3 h4 h5
 exact ⟨ad, E, c, B, d, D, e, e0, h0, h1, h2, h3, h4, h5, k⟩
open Go.Maps
theorem below_grown {w w' : World} (h : Below w.heap.size w w') : w.grownBy w' none := ⟨h.os, h.tape, h.output, h.size, fun i hi _ => h.block i hi⟩
theorem strKey : Keyed Tryz.prog 9 := string_keyed Tryz.underlying9
theorem zeroI (w : World) : (zeroValue 3).run Tryz.prog w = .ok (.int .i64 0) w := by kernel_rfl
noncomputable def tabB (l : List AtomD) : Bool := @decide (TabOk l) (Classical.propDecidable _)
theorem tabB_ok {l : List AtomD} (h : TabOk l) : tabB l = true := by unfold tabB; simpa using h
theorem tabB_bad {l : List AtomD} (h : ¬ TabOk l) : tabB l = false := by unfold tabB; simpa using h
def KeyM (l : List AtomD) (i : Nat) (D : DataW Unit) : Prop := Maps.IsMap D ∧ (∀ j (h : j < l.length), 0 < j → j < i → Maps.has D (.string (keyA l[j])) = true) ∧ ∀ k, Maps.has D (.string k) = true → ∃ j, ∃ h : j < l.length, 0 < j ∧ j < i ∧ keyA l[j] = k
theorem KeyM.one (l : List AtomD) : KeyM l 1 (.map []) := ⟨Maps.isMap_empty, fun j h h1 h2 => by omega, fun k h => by simp [Maps.has] at h⟩
theorem KeyM.put {l : List AtomD} {i : Nat} {D : DataW Unit} (h : KeyM l i D) (hi : i < l.length) (h0 : 0 < i) (d : DataW Unit) : KeyM l (i + 1) (D.put (.string (keyA l[i])) d) := by
 obtain ⟨h1, h2, h3⟩ := h
 have hk : WideAt.IsKeyLit (.string (keyA l[i])) := trivial
 refine ⟨h1.put _ _, fun j hj hj0 hji => ?_, fun k hk2 => ?_⟩
 · by_cases e : keyA l[j] = keyA l[i]
   · rw [e]; exact Maps.has_put_same h1 hk d
   · rw [Maps.has_put_other (by simpa using e)]
     exact h2 j hj hj0 (by
      rcases Nat.lt_succ_iff_lt_or_eq.1 hji with h | rfl
      · exact h
      · exact absurd rfl e)
 · by_cases e : k = keyA l[i]
   · exact ⟨i, hi, h0, by omega, e.symm⟩
   · rw [Maps.has_put_other (by simpa using e)] at hk2
     obtain ⟨j, hj, a, b, c⟩ := h3 k hk2
     exact ⟨j, hj, a, by omega, c⟩
set_option maxHeartbeats 4000000 in
set_option maxRecDepth 100000 in
theorem at_load (A : Option Addr) (c : Nat) (l : List AtomD) (w : World) (hr : kAtom.Row w A l) (hc : l.length ≤ c) (hg : ∀ a ∈ l, GoodA a) (hm : l.length ≤ 8388608) :
 Calls Tryz.prog 169 #[.slice A l.length c] w (fun e' w' => (∃ m, e' = .returned (.tuple #[m, .bool (tabB l)])) ∧ Below w.heap.size w w') := by
 have HR := Lib.hid hr
 have HG := Lib.hid hg
 clear hr hg
 by_cases h0 : l.length = 0
 · have hx : tabB l = false := tabB_bad (fun h => by obtain ⟨_, ⟨hl, _⟩, _⟩ := h; omega)
   rw [hx]
   have h0z : ((l.length : Int) == 0) = true := by rw [beq_iff_eq]; omega
   clear hx h0
   generalize l.length = n at *
   go_enter Tryz.func169, Tryz.ntmps169
   go_wp2
   go_ret2
   exact ⟨⟨_, rfl⟩, Below.refl _ _⟩
 have h0z : ((l.length : Int) == 0) = false := by rw [beq_eq_false_iff_ne]; omega
 by_cases h1 : 262144 < l.length
 · have hx : tabB l = false := tabB_bad (fun h => by obtain ⟨_, _, _⟩ := h; omega)
   rw [hx]
   have h1z : (262144 : Int) < (l.length : Int) := by omega
   clear hx h0
   generalize l.length = n at *
   go_enter Tryz.func169, Tryz.ntmps169
   go_wp2
   go_ret2
   exact ⟨⟨_, rfl⟩, Below.refl _ _⟩
 have h1z : ¬ (262144 : Int) < (l.length : Int) := by omega
 have hp : 0 < l.length := by omega
 have hpz : (0 : Int) < (l.length : Int) := by omega
 obtain ⟨ad, E, c0, B, d, D, e, rfl, a0, a1, a2, a3, a4, a5, ha, _⟩ := atIn_zero HR.out HG.out hp
 have hl := ha.lens
 have hte := truth_eq l[0]
 have hS := Lib.hid (fun (W : World) (hb : Below w.heap.size w W) => ratio_Sign l[0].1.2.1.1 B d l[0].1.2.1.2 D e l[0].1.2.2 W (ha.bound.num.below hb) (by omega) (ha.bound.den.below hb) (by omega))
 have hN := Lib.hid (fun (W : World) (hb : Below w.heap.size w W) => at_normal l[0] E c0 B d D e W (ha.below hb))
 rw [show rv l[0].1.2.1.1 l[0].1.2.1.2 l[0].1.2.2 = rq l[0].1.2 from rfl] at hS
 unfold atc at hN
 simp only [List.toArray] at hN
 clear ha hl
 have HT := Lib.hid (show truthA l[0] = true → ∃ h : 0 < l.length, truthA l[0] = true from fun h => ⟨hp, h⟩)
 have HTn := Lib.hid (show truthA l[0] = false → tabB l = false from fun h => tabB_bad fun k => by obtain ⟨_, ⟨_, h'⟩, _⟩ := k; rw [h] at h'; cases h')
 generalize truthA l[0] = tb at hte HT HTn
 generalize l[0] = t at *
 have HTe := Lib.hid hte
 clear hte
 have HF := Lib.hid ((Fr.refl w).box [.string t.1.1.1, .slice E t.1.1.2.length c0, .bool t.1.2.1.1, .slice B t.1.2.1.2.length d, .slice D t.1.2.2.length e, .bool t.2] 84)
 simp only [List.toArray] at HF
 go_enter Tryz.func169, Tryz.ntmps169
 go_upto_region 4 with fail
 go_cut [45] (fun s45 wc => s45 = .bool (!tb) ∧ Hid (Fr w wc [(w.heap.size, [.string t.1.1.1, .slice E t.1.1.2.length c0, .bool t.1.2.1.1, .slice B t.1.2.1.2.length d, .slice D t.1.2.2.length e, .bool t.2])]))
 case first =>
  generalize World.alloc _ _ = W at HF ⊢
  clear a0 a1 a2 a3 a4 a5 HTn HT HR HG h0 h0z h1 h1z hp hpz
  have a0 := HF.out.cellN 0 rfl 0 rfl
  have a1 := HF.out.cellN 0 rfl 1 rfl
  have a2 := HF.out.cellN 0 rfl 2 rfl
  have a3 := HF.out.cellN 0 rfl 3 rfl
  have a4 := HF.out.cellN 0 rfl 4 rfl
  have a5 := HF.out.cellN 0 rfl 5 rfl
  obtain ⟨⟨⟨nm, f⟩, ⟨⟨s, xs⟩, ys⟩⟩, st⟩ := t
  dsimp only at *
  have HLen : Hid (decide (f.length = 0) = decide (f.length = 0)) := rfl
  generalize f.length = n1 at *
  generalize sgn (rq ((s, xs), ys)).num = z at *
  generalize nrmA _ = nb at *
  by_cases hn : nm.data = #[]
  · obtain ⟨dn⟩ := nm
    dsimp only at hn
    subst hn
    by_cases hf : n1 = 0
    · subst hf
      go_wp2_with fail
      refine (hS.out _ HF.out.bel).mono ?_
      rintro e' W2 ⟨rfl, hb⟩
      replace HF := Lib.hid (HF.out.below hb)
      clear hb hS a0 a1 a2 a3 a4 a5
      by_cases hz : z = 0
      · subst hz
        have a0 := HF.out.cellN 0 rfl 0 rfl
        have a1 := HF.out.cellN 0 rfl 1 rfl
        have a2 := HF.out.cellN 0 rfl 2 rfl
        have a3 := HF.out.cellN 0 rfl 3 rfl
        have a4 := HF.out.cellN 0 rfl 4 rfl
        have a5 := HF.out.cellN 0 rfl 5 rfl
        cases st with
        | true =>
         have HM := Lib.hid (show tb = false from by rw [HTe.out]; simp)
         clear HTe hN
         go_wp2
         go_meet
         case rel => exact ⟨congrArg Value.bool (by rw [HM.out]; rfl), HF.out⟩
        | false =>
         have HM := Lib.hid (show tb = nb from by rw [HTe.out]; simp)
         clear HTe
         go_wp2_with fail
         refine (hN.out _ HF.out.bel).mono ?_
         rintro e' W3 ⟨rfl, hb⟩
         replace HF := Lib.hid (HF.out.below hb)
         clear hb hN a0 a1 a2 a3 a4 a5
         go_wp2
         go_meet
         case rel => exact ⟨congrArg Value.bool (by rw [HM.out]), HF.out⟩
      · have hzb : (z != 0) = true := by simpa using hz
        have HM := Lib.hid (show tb = false from by rw [HTe.out, decide_eq_false hz]; simp)
        clear HTe hN hz
        go_wp2
        go_meet
        case rel => exact ⟨congrArg Value.bool (by rw [HM.out]; rfl), HF.out⟩
    · have hfz : (0 : Int) < (n1 : Int) := by omega
      have HM := Lib.hid (show tb = false from by rw [HTe.out, decide_eq_false hf]; simp)
      clear HTe hN hS hf
      go_wp2
      go_meet
      case rel => exact ⟨congrArg Value.bool (by rw [HM.out]; rfl), HF.out⟩
  · have hne : nm.toList.isEmpty = false := by rw [Lib.toList_data]; simpa using hn
    have HM := Lib.hid (show tb = false from by rw [HTe.out, decide_eq_false hn]; simp)
    clear HTe hN hS hn
    go_wp2
    go_meet
    case rel => exact ⟨congrArg Value.bool (by rw [HM.out]; rfl), HF.out⟩
 case rest =>
 clear HF
 obtain ⟨rfl, HF⟩ := hcut
 clear hS hN a0 a1 a2 a3 a4 a5 HTe
 have HB := Lib.hid HF.out.bel
 clear HF
 cases tb with
 | false =>
  have HX := Lib.hid (HTn.out rfl)
  clear HT HTn
  go_wp2
  go_ret2
  rw [HX.out]
  exact ⟨⟨_, rfl⟩, HB.out⟩
 | true =>
  replace HT := Lib.hid (HT.out rfl)
  clear HTn
  have hmm := @run_makeMap Tryz.prog
  have hcz : (1 : Int) ≤ (l.length : Int) := by omega
  have HO := Lib.hid (World.ownsMap_made (H := Unit) wc Tryz.prog 9 (plainElem Tryz.prog 3))
  have hbw : w.heap.size ≤ wc.heap.size := HB.out.size
  have HB2 := Lib.hid ((Below.refl _ wc).alloc (Nat.le_refl _) (.map #[] 0))
  replace HB := Lib.hid (HB.out.trans (HB2.out.mono HB.out.size))
  have hbm : wc.heap.size < (wc.alloc (.map #[] 0)).heap.size := by simp
  clear HB2
  go_upto_region 7 with fail
  generalize wc.alloc (.map #[] 0) = W at *
  generalize wc.heap.size = bm at *
  go_cut [48, 49, 50] (fun s48 s49 s50 wx => s50 = .int .i64 0 ∧ s49 = .int .i64 ((l.length - 1 : Nat) : Int) ∧ wx = W ∧ ∃ A' c', s48 = .slice A' (l.length - 1) c' ∧ l.length - 1 ≤ c' ∧ (1 < l.length → A' = some (ad.add 6)))
  case first =>
   clear HO HB HT HR HG
   have hlz : Hid (((l.length : Int) - 1) = ((l.length - 1 : Nat) : Int)) := by show _ = _; omega
   by_cases hc1 : c = 1
   · subst hc1
     go_wp2
     go_meet
     case rel => exact ⟨rfl, congrArg (Value.int .i64) (by have := hlz.out; omega), rfl, some ad, 0, by rw [show l.length - 1 = 0 by omega], by omega, fun h => by omega⟩
   · go_wp2
     go_meet
     case rel => exact ⟨rfl, congrArg (Value.int .i64) (by simp), rfl, _, _, rfl, by omega, fun h => rfl⟩
  case rest =>
  obtain ⟨rfl, rfl, rfl, A', c', rfl, hc', hA'⟩ := hcut
  obtain ⟨a6, h6⟩ : ∃ x, x = ad.add 6 := ⟨_, rfl⟩
  rw [← h6] at hA'
  have HA6 := Lib.hid h6
  have HAd := Lib.hid hA'
  clear hA' h6
  have hln : Hid (l.length = (l.length - 1) + 1) := by show _ = _; omega
  go_wp2_with fail
  go_loopg [50] (l.length - 1) (fun gg s50 wr => ∃ i : Nat, i + gg = l.length - 1 ∧ s50 = .int .i64 i ∧ Hid (TabK l (i + 1)) ∧ Hid (Below w.heap.size w wr) ∧ Hid (∃ D n, wr.ownsMap Tryz.prog 9 (plainElem Tryz.prog 3) bm n D ∧ n ≤ i ∧ KeyM l (i + 1) D))
  case atStart => exact ⟨0, by omega, rfl, TabK.one l, HB.out, _, _, HO.out, Nat.le_refl _, KeyM.one l⟩
  case round =>
   clear HB HO
   obtain ⟨i, hgg, rfl, HK, HB, HD⟩ := hrel
   by_cases hlt : i < l.length - 1
   · have hltz : (i : Int) < ((l.length - 1 : Nat) : Int) := by omega
     have hi1 : i + 1 < l.length := by omega
     obtain ⟨ad', E1, c1, B1, d1, D1, e1, hA, a0, a1, a2, a3, a4, a5, ha, hns⟩ := atIn_row HR.out HG.out (i + 1) hi1
     obtain rfl : ad = ad' := Option.some.inj hA
     clear hA
     have hA2 := HAd.out (by omega)
     subst hA2
     rw [show (i + 1) * 6 = 6 + i * 6 by omega, ← add_add, ← HA6.out] at a0 a1 a2 a3 a4 a5
     have hK := Lib.hid (fun (W : World) (hb : Below w.heap.size w W) => at_key l[i + 1] E1 c1 B1 d1 D1 e1 W (ha.below hb) hns)
     have hM := Lib.hid (fun (W : World) (hb : Below w.heap.size w W) => at_may l[i + 1] E1 c1 B1 d1 D1 e1 W (ha.below hb))
     have hkl : (keyA l[i + 1]).length ≤ 200000000 := by
      have := ha.tx
      have h2 : l[i + 1].1.1.1.data.toList.length = l[i + 1].1.1.1.size := Array.length_toList
      unfold keyA
      simp only [List.length_cons, List.length_append]
      omega
     have HKs := Lib.hid (fun (h1 : mayA l[i + 1] = true) (h2 : ∀ k (hk : k < i + 1), 0 < k → keyA (l[k]'(by omega)) ≠ keyA l[i + 1]) => HK.out.succ hi1 h1 h2)
     have HBad := Lib.hid (fun (h1 : ¬ (mayA l[i + 1] = true ∧ ∀ k (hk : k < i + 1), 0 < k → keyA (l[k]'(by omega)) ≠ keyA l[i + 1])) => tabB_bad (l := l) fun h => h1 (((tabOk_K l).1 h).2.2 (i + 1) hi1 (by omega) hi1))
     obtain ⟨D0, n0, hD1, hD2, hD3⟩ := HD.out
     have HPut := Lib.hid (fun d => hD3.put hi1 (by omega) d)
     have HHas := Lib.hid (show (Maps.has D0 (.string (keyA l[i + 1])) = true → ¬ (mayA l[i + 1] = true ∧ ∀ k (hk : k < i + 1), 0 < k → keyA (l[k]'(by omega)) ≠ keyA l[i + 1])) ∧ (Maps.has D0 (.string (keyA l[i + 1])) = false → ∀ k (hk : k < i + 1), 0 < k → keyA (l[k]'(by omega)) ≠ keyA l[i + 1]) from by
      refine ⟨fun h h2 => ?_, fun h k hk hk0 e => ?_⟩
      · obtain ⟨j, hj, b1, b2, b3⟩ := hD3.2.2 _ h
        exact h2.2 j b2 b1 b3
      · have := hD3.2.1 k (by omega) hk0 hk
        rw [e, h] at this
        cases this)
     have HO := Lib.hid hD1
     have hbr := HB.out.size
     clear ha HK hD1 hD3 HD hns
     generalize keyA l[i + 1] = key at *
     generalize l[i + 1] = a at *
     unfold atc at hK hM
     simp only [List.toArray] at hK hM
     have HFb := Lib.hid ((show Fr w wr [] from ⟨HB.out, fun p hp => by cases hp⟩).box [.string a.1.1.1, .slice E1 a.1.1.2.length c1, .bool a.1.2.1.1, .slice B1 a.1.2.1.2.length d1, .slice D1 a.1.2.2.length e1, .bool a.2] 84)
     simp only [List.toArray] at HFb
     have b0 := cell_below HB.out a0
     have b1 := cell_below HB.out a1
     have b2 := cell_below HB.out a2
     have b3 := cell_below HB.out a3
     have b4 := cell_below HB.out a4
     have b5 := cell_below HB.out a5
     clear a0 a1 a2 a3 a4 a5
     have HOa := Lib.hid (HO.out.alloc (.cells #[.string a.1.1.1, .slice E1 a.1.1.2.length c1, .bool a.1.2.1.1, .slice B1 a.1.2.1.2.length d1, .slice D1 a.1.2.2.length e1, .bool a.2] 84))
     have HBa := Lib.hid ((Below.refl _ wr).alloc (Nat.le_refl _) (.cells #[.string a.1.1.1, .slice E1 a.1.1.2.length c1, .bool a.1.2.1.1, .slice B1 a.1.2.1.2.length d1, .slice D1 a.1.2.2.length e1, .bool a.2] 84))
     replace HB := Lib.hid (HB.out.trans (HBa.out.mono HB.out.size))
     clear HO HBa
     go_upto_region 10 with fail
     generalize hgt : World.alloc wr _ = W at HFb HOa HB ⊢
     clear hgt b0 b1 b2 b3 b4 b5
     have b0 := HFb.out.cellN 0 rfl 0 rfl
     have b1 := HFb.out.cellN 0 rfl 1 rfl
     have b2 := HFb.out.cellN 0 rfl 2 rfl
     have b3 := HFb.out.cellN 0 rfl 3 rfl
     have b4 := HFb.out.cellN 0 rfl 4 rfl
     have b5 := HFb.out.cellN 0 rfl 5 rfl
     go_wp2_with fail
     refine (hK.out _ HB.out).mono ?_
     rintro e' W2 ⟨rfl, hb⟩
     replace HB := Lib.hid (HB.out.trans (hb.mono HB.out.size))
     replace HFb := Lib.hid (HFb.out.below hb)
     have HOb := Lib.hid (HOa.out.kept (row := none) (below_grown hb) (by simp))
     clear hb hK HOa b0 b1 b2 b3 b4 b5
     have hown := HOb.out
     have hkey : keyOf Tryz.prog 9 (.string ⟨key.toArray⟩) = some (.string key) := WideMaps.keyOf_string_mk Tryz.underlying9 (by show key.toArray.size ≤ _; unfold maxLen; rw [List.size_toArray]; omega)
     clear HOb
     go_upto_region 12 with (at_lookup; refine wpList_lookup_own_ok_int _ rfl _ _ 143 rfl 9 3 .i64 strKey Tryz.underlying143 Tryz.underlying3 (zeroI _) bm n0 D0 rfl hown _ _ rfl hkey ?_; intro c9 hat9 hwc9)
     clear hat9 hwc9
     cases hhas : Maps.has D0 (.string key) with
     | true =>
      have HX := Lib.hid (HBad.out (HHas.out.1 hhas))
      clear hhas HHas HBad HKs hown hkey hM HPut
      go_wp2
      go_ret2
      rw [HX.out]
      exact ⟨⟨_, rfl⟩, HB.out⟩
     | false =>
      have HNo := Lib.hid (HHas.out.2 hhas)
      clear hhas HHas
      have b0 := HFb.out.cellN 0 rfl 0 rfl
      have b1 := HFb.out.cellN 0 rfl 1 rfl
      have b2 := HFb.out.cellN 0 rfl 2 rfl
      have b3 := HFb.out.cellN 0 rfl 3 rfl
      have b4 := HFb.out.cellN 0 rfl 4 rfl
      have b5 := HFb.out.cellN 0 rfl 5 rfl
      have HOc := Lib.hid hown
      clear hown
      go_wp2_with fail
      refine (hM.out _ HB.out).mono ?_
      rintro e' W3 ⟨rfl, hb⟩
      have hbs := hb.size
      replace HB := Lib.hid (HB.out.trans (hb.mono HB.out.size))
      have hown := HOc.out.kept (row := none) (below_grown hb) (by simp)
      clear hb hM HOc b0 b1 b2 b3 b4 b5 HFb
      cases hma : mayA a with
      | false =>
       have HX := Lib.hid (HBad.out (fun h => by rw [hma] at h; exact absurd h.1 (by decide)))
       clear hma HBad HKs hown hkey HPut HNo
       go_wp2
       go_ret2
       rw [HX.out]
       exact ⟨⟨_, rfl⟩, HB.out⟩
      | true =>
       have HK3 := Lib.hid (HKs.out hma HNo.out)
       clear hma HBad HKs HNo
       have hwf : (Lit.int .i64 ((i : Int) + 2)).wf = true := WalkArith.wf_i64 (by omega)
       go_wp2_with (at_mapUpdate; refine wpList_mapUpdate_own _ rfl _ _ _ 143 rfl 9 3 strKey Tryz.underlying143 _ bm n0 D0 rfl hown (by unfold maxLen; omega) _ _ _ rfl rfl hkey _ [] (plainElem_int Tryz.underlying3 hwf) ?_; intro w1 hown1 hgrow1)
       have HB4 := Lib.hid (HB.out.grown hgrow1 HB.out.size (fun j hj => by cases hj; omega))
       clear hgrow1 hown hkey
       go_roundg (l.length - 1 - (i + 1))
       case measure => omega
       case rel => exact ⟨i + 1, by omega, by go_num, HK3, HB4.out, _, _, hown1, by omega, HPut.out _⟩
   · have hltz : ¬ (i : Int) < ((l.length - 1 : Nat) : Int) := by omega
     have HX := Lib.hid (tabB_ok (l := l) ((tabOk_K l).2 ⟨by omega, HT.out, by
      have h := HK.out
      rwa [show i + 1 = l.length by omega] at h⟩))
     clear HK HD
     go_wp2
     go_ret2
     rw [HX.out]
     exact ⟨⟨_, rfl⟩, HB.out⟩
set_option maxHeartbeats 1000000 in
set_option maxRecDepth 100000 in
theorem at_Check (A : Option Addr) (c : Nat) (l : List AtomD) (w : World) (hr : kAtom.Row w A l) (hc : l.length ≤ c) (hg : ∀ a ∈ l, GoodA a) (hm : l.length ≤ 8388608) :
 Calls Tryz.prog 108 #[.slice A l.length c] w (fun e' w' => e' = .returned (.int .i64 (chk l)) ∧ Below w.heap.size w w') := by
 have hL := Lib.hid (at_load A c l w hr hc hg hm)
 have HX := Lib.hid (show (tabB l = true → chk l = 0) ∧ (tabB l = false → chk l = 170) from by
  by_cases h : TabOk l
  · exact ⟨fun _ => chk_ok h, fun e => (by rw [tabB_ok h] at e; cases e)⟩
  · exact ⟨fun e => (by rw [tabB_bad h] at e; cases e), fun _ => chk_bad h⟩)
 clear hr hg
 generalize l.length = n at *
 generalize tabB l = b at *
 generalize chk l = r at *
 go_enter Tryz.func108, Tryz.ntmps108
 go_wp2_with fail
 refine hL.out.mono ?_
 rintro e' W1 ⟨⟨m, rfl⟩, hb⟩
 have HB := Lib.hid hb
 clear hb hL
 cases b with
 | true =>
  have HR := Lib.hid (HX.out.1 rfl)
  clear HX
  go_wp2
  go_ret
  rw [HR.out]
  exact ⟨rfl, HB.out⟩
 | false =>
  have HR := Lib.hid (HX.out.2 rfl)
  clear HX
  go_wp2
  go_ret
  rw [HR.out]
  exact ⟨rfl, HB.out⟩
end Go.Proofs.YtidgpkccjcddgaaGreatDoor.F
