/- fulcrumref24.Copy, fulcrumlaw24.normal. Condition: refutations of weight at most 4194304. -/
import Derived.Test.YtidgpkccjcddgaaGreatDoorHam
import Derived.Test.YtidgpkccjcddgaaGreatDoorHal
set_option linter.unusedVariables false
set_option linter.unusedSimpArgs false
namespace Go.Proofs.YtidgpkccjcddgaaGreatDoor.F
open Go.RowKit Go.Shelf Go.Proofs.YtidgpkccjcddgaaGreatDoorW.PrintLast
theorem pushI0 {w : World} {t ty : TypeId} (ht : Tryz.prog.underlying t = some (.slice 3)) (xs : List Int) (A : Option Addr) (c : Nat) (hr : (Knd.int .i64).Row w A xs) (hl : xs.length ≤ 8388608) :
 ∃ v' w', (Builtin.append_ #[t, t] ty #[.slice none 0 0, .slice A xs.length c]).run Tryz.prog w = .ok v' w' ∧ OwnL w' w.heap.size 3 1 v' xs.length (ic xs) ∧ Below w.heap.size w w' := by
 obtain ⟨v', w', h1, h2, h3⟩ := push_any (P := Tryz.prog) (w := w) (B := w.heap.size) (ty := ty) (c := c) (m := xs.length) (news := ic xs) (A := A) (v := .slice none 0 0) (xs := []) (n := 0) ht info_int (by rfl) (OwnL.nil _ _ _ _) (by unfold ic; rw [List.length_map, Nat.mul_one]) (fun hp => by
  obtain ⟨ad, rfl, _⟩ := Knd.at_int hr 0 hp
  refine ⟨ad, rfl, fun j u hj => ?_⟩
  have hjl := (List.getElem?_eq_some_iff.1 hj).1
  have hjx : j < xs.length := by unfold ic at hjl; rwa [List.length_map] at hjl
  obtain ⟨ad', e, hc⟩ := Knd.at_int hr j hjx
  cases e
  rw [hc, ← hj]
  unfold ic
  rw [List.getElem?_map, List.getElem?_eq_getElem hjx]
  rfl) (fun u hu => by
  unfold ic at hu
  obtain ⟨x, _, rfl⟩ := List.mem_map.1 hu
  rfl) (fun y hy => by
  unfold ic at hy
  obtain ⟨x, _, e⟩ := List.mem_map.1 hy
  cases e) (fun y hy => by simp [Value.cells] at hy) (by simp only [maxLen]; omega) (by omega) (Nat.le_refl _)
 refine ⟨v', w', h1, ?_, h3.below⟩
 rw [Nat.zero_add, List.nil_append] at h2
 exact h2
theorem pushQM {w : World} {B : Nat} {v : Value} {l : List RatD} (h : OwY w B 43 3 AtQ v l) {b : Bool} {xs ys : List Int} {A : Option Addr} {c : Nat} {D : Option Addr} {d : Nat} (k : InD w ((b, xs), ys) A c D d) (k1 : xs.length ≤ 137438953472) (k2 : ys.length ≤ 137438953472) (hl : l.length ≤ 8388608) (hB : B ≤ w.heap.size) :
 ∃ v' w', (Builtin.append_ #[78, 78] 78 #[v, .slice (some ⟨w.heap.size, 0, none⟩) 1 1]).run Tryz.prog (w.alloc (.cells #[.bool b, .slice A xs.length c, .slice D ys.length d] 43)) = .ok v' w' ∧ OwY w' B 43 3 AtQ v' (l ++ [((b, xs), ys)]) ∧ Below B w w' ∧ ∀ t, t ≠ 43 → KeepT t w w' := by
 have hal : Below w.heap.size w (w.alloc (.cells #[.bool b, .slice A xs.length c, .slice D ys.length d] 43)) := (Below.refl _ w).alloc (Nat.le_refl _) _
 have ho := Own.mk (w := w) [.bool b, .slice A xs.length c, .slice D ys.length d] 43
 obtain ⟨v', w', hr, h1, h2, _, h3, _⟩ := OwY.pushM (P := Tryz.prog) (ty := 78) (x := ((b, xs), ys)) Tryz.underlying78 info_Rat3 rfl (fun y hy => by simp [Value.cells] at hy) (h.below atQ_nst hal) atQ_nst (fun t ht => (List.not_mem_nil ht).elim) ho
  ⟨A, c, D, d, rfl, k.keep (KeepU.below hal), k1, k2⟩ rfl (fun u hu => by
   simp only [List.mem_cons, List.not_mem_nil, or_false] at hu
   rcases hu with rfl | rfl | rfl <;> rfl) (fun y hy => by simp at hy) (by omega) (by decide) (Nat.le_trans hB hal.size)
 exact ⟨v', w', hr, h1, (hal.mono hB).trans h2, fun t ht => (KeepT.below hal).trans (h3 t ht)⟩
def OwR (w : World) (B : Nat) (v : Value) (l : List RatD) : Prop := OwY w B 43 3 AtQ v l
theorem OwR.below {w w' : World} {B : Nat} {v : Value} {l : List RatD} (h : OwR w B v l) (hb : Below w.heap.size w w') : OwR w' B v l := OwY.below h atQ_nst hb
theorem copy_end {w W : World} {g n0 n1 m c5 b5 cq : Nat} {kd : Int} {A5 B5 Aq : Option Addr} {xs ys : List Value} {l : List RatD} (h : Own W (g + 1) [.int .i64 0, .slice none 0 0, .slice none 0 0, .slice none 0 0]) (hb : Below g w W) (h1 : OwnL W (g + 3) 3 1 (.slice A5 n0 c5) n0 xs) (h2 : OwnL W (g + 3) 3 1 (.slice B5 n1 b5) n1 ys) (h3 : OwR W (g + 3) (.slice Aq m cq) l) :
 let W' := (((W.setCell ⟨g + 1, 0, none⟩ (.int .i64 kd)).setCell ⟨g + 1, 1, none⟩ (.slice A5 n0 c5)).setCell ⟨g + 1, 2, none⟩ (.slice B5 n1 b5)).setCell ⟨g + 1, 3, none⟩ (.slice Aq m cq)
 Own W' (g + 1) [.int .i64 kd, .slice A5 n0 c5, .slice B5 n1 b5, .slice Aq m cq] ∧ OwnL W' (g + 3) 3 1 (.slice A5 n0 c5) n0 xs ∧ OwnL W' (g + 3) 3 1 (.slice B5 n1 b5) n1 ys ∧ OwR W' (g + 3) (.slice Aq m cq) l ∧ Below g w W' := by
 intro W'
 have s0 := h.set 0 (.int .i64 kd)
 have s1 := s0.set 1 (.slice A5 n0 c5)
 have s2 := s1.set 2 (.slice B5 n1 b5)
 have s3 := s2.set 3 (.slice Aq m cq)
 have hg : g + 1 < g + 3 := by omega
 refine ⟨s3, OwnL.set (OwnL.set (OwnL.set (OwnL.set h1 hg _) hg _) hg _) hg _, OwnL.set (OwnL.set (OwnL.set (OwnL.set h2 hg _) hg _) hg _) hg _, ?_, (((hb.setCell (by show g ≤ g + 1; omega) _).setCell (by show g ≤ g + 1; omega) _).setCell (by show g ≤ g + 1; omega) _).setCell (by show g ≤ g + 1; omega) _⟩
 exact OwY.setQ (OwY.setQ (OwY.setQ (OwY.setQ h3 h (fun y hy => by simp at hy) hg 0 _) s0 (fun y hy => by simp at hy) hg 1 _) s1 (fun y hy => by simp at hy) hg 2 _) s2 (fun y hy => by simp at hy) hg 3 _
def ToldCp (w : World) (d : StepD) (e : Ending) (w' : World) : Prop := ∃ cs, e = .returned (.agg cs.toArray) ∧ StO w' (canSt d) cs ∧ Below w.heap.size w w'
set_option maxHeartbeats 4000000 in
set_option maxRecDepth 100000 in
theorem r24_Copy (d : StepD) (A1 : Option Addr) (c1 : Nat) (B1 : Option Addr) (b1 : Nat) (D1 : Option Addr) (e1 : Nat) (w : World) (h : StIn w d A1 c1 B1 b1 D1 e1) :
 Calls Tryz.prog 101 #[.agg (stc d A1 c1 B1 b1 D1 e1).toArray] w (ToldCp w d) := by
 have hg := h.good
 have hf := hg.few
 unfold wts at hf
 have hl := wt_len d.2
 have hP1 := Lib.hid (fun (W : World) (hb : Below w.heap.size w W) => pushI0 (w := W) (t := 77) (ty := 77) Tryz.underlying77 d.1.1.2 A1 c1 (h.rowC.below hb) (by omega))
 have hP2 := Lib.hid (fun (W : World) (hb : Below w.heap.size w W) => pushI0 (w := W) (t := 76) (ty := 76) Tryz.underlying76 d.1.2 B1 b1 (h.rowB.below hb) (by omega))
 have HR1 := Lib.hid (fun (i : Nat) (hi : i < d.2.length) => rat_row h.rowQ hg.good (by omega) i hi)
 have hq1 := h.capQ
 have hql : d.2.length ≤ 8388608 := by omega
 have HFin := Lib.hid (fun (W : World) (v1 v2 v3 : Value) (a1 : OwZ W v1 d.1.1.2) (a2 : OwZ W v2 d.1.2) (a3 : OwQ W v3 (d.2.map fun q => canD (rq q))) => show StO W (canSt d) [.int .i64 d.1.1.1, v1, v2, v3] from ⟨v1, v2, v3, rfl, a1, a2, a3, by show (d.2.map fun q => canD (rq q)).length ≤ _; rw [List.length_map]; omega⟩)
 clear h hg hf hl
 unfold stc
 generalize d.1.1.1 = kd at *
 generalize d.1.1.2 = xs at *
 generalize d.1.2 = ys at *
 obtain ⟨n0, hn0⟩ : ∃ n, n = xs.length := ⟨_, rfl⟩
 obtain ⟨n1, hn1⟩ : ∃ n, n = ys.length := ⟨_, rfl⟩
 rw [← hn0] at hP1
 rw [← hn1] at hP2
 rw [← hn0, ← hn1]
 have HFin2 := Lib.hid (fun (W : World) (B : Nat) (v1 v2 v3 : Value) (qs : List RatD) (a1 : OwnL W B 3 1 v1 n0 (ic xs)) (a2 : OwnL W B 3 1 v2 n1 (ic ys)) (hq : qs = d.2.map fun q => canD (rq q)) (a3 : OwR W B v3 qs) => show StO W (canSt d) [.int .i64 kd, v1, v2, v3] from HFin.out W v1 v2 v3 (OwnL.mono (hn0 ▸ a1) (Nat.zero_le _)) (OwnL.mono (hn1 ▸ a2) (Nat.zero_le _)) (OwQ.mono (hq ▸ a3)))
 clear hn0 hn1 HFin
 have HF0 := Lib.hid (((Fr.refl w).box [.int .i64 kd, .slice A1 n0 c1, .slice B1 n1 b1, .slice D1 d.2.length e1] 80).box [.int .i64 0, .slice none 0 0, .slice none 0 0, .slice none 0 0] 80)
 have HF := Lib.hid (HF0.out.box [.int .i64 kd, .slice none 0 0, .slice none 0 0, .slice none 0 0] 80)
 have hsz : (w.alloc (.cells [.int .i64 kd, .slice A1 n0 c1, .slice B1 n1 b1, .slice D1 d.2.length e1].toArray 80)).heap.size = w.heap.size + 1 := by simp
 have hsz2 : ((w.alloc (.cells [.int .i64 kd, .slice A1 n0 c1, .slice B1 n1 b1, .slice D1 d.2.length e1].toArray 80)).alloc (.cells [.int .i64 0, .slice none 0 0, .slice none 0 0, .slice none 0 0].toArray 80)).heap.size = w.heap.size + 2 := by simp
 rw [hsz, hsz2] at HF
 clear hsz hsz2 HF0
 simp only [List.toArray] at HF ⊢
 go_enter Tryz.func101, Tryz.ntmps101
 go_upto_region 2 with fail
 generalize hgt : World.alloc _ _ = W at HF ⊢
 clear hgt
 have x1 := HF.out.cellN 0 rfl 1 rfl
 have y1 := HF.out.cellN 2 rfl 1 rfl
 obtain ⟨v1, W1, hr, hO1, hb⟩ := hP1.out W HF.out.bel
 have hg2 : w.heap.size + 2 < W.heap.size := HF.out.ltN 0 rfl
 have HP := Lib.hid hr
 obtain ⟨A5, c5, rfl, _⟩ := OwnL.form hO1
 replace hO1 := OwnL.mono (C := w.heap.size + 3) hO1 (by omega)
 have HF1 := Lib.hid (HF.out.below hb)
 have f1 := HF1.out.frozenN 0 rfl 1
 have z1 := HF1.out.cellN 0 rfl 1 rfl
 have HF2 := Lib.hid (HF1.out.setN 0 rfl (by omega) (by simp) 1 (.slice A5 n0 c5))
 have HO1 := Lib.hid (OwnL.set (g := w.heap.size + 2) (i := 1) hO1 (by omega) (.slice A5 n0 c5))
 simp only [List.set_cons_zero, List.set_cons_succ] at HF2
 clear hr hO1 hb hP1 HF HF1 hg2
 go_upto_region 3 with (refine pushL_ rfl rfl rfl rfl HP.out ?_; clear HP)
 clear x1 y1 f1 z1
 generalize hgt : World.setCell _ _ _ = W at HF2 HO1 ⊢
 clear hgt
 have x1 := HF2.out.cellN 0 rfl 2 rfl
 have y1 := HF2.out.cellN 2 rfl 2 rfl
 obtain ⟨v1, W2, hr, hO2, hb⟩ := hP2.out W HF2.out.bel
 have hg2 : w.heap.size + 2 < W.heap.size := HF2.out.ltN 0 rfl
 have HP := Lib.hid hr
 obtain ⟨B5, b5, rfl, _⟩ := OwnL.form hO2
 replace hO2 := OwnL.mono (C := w.heap.size + 3) hO2 (by omega)
 have HF3 := Lib.hid (HF2.out.below hb)
 have f1 := HF3.out.frozenN 0 rfl 2
 have z1 := HF3.out.cellN 0 rfl 2 rfl
 have HF := Lib.hid (HF3.out.setN 0 rfl (by omega) (by simp) 2 (.slice B5 n1 b5))
 have HO2 := Lib.hid (OwnL.set (g := w.heap.size + 2) (i := 2) hO2 (by omega) (.slice B5 n1 b5))
 replace HO1 := Lib.hid (OwnL.set (g := w.heap.size + 2) (i := 2) (HO1.out.below hb) (by omega) (.slice B5 n1 b5))
 simp only [List.set_cons_zero, List.set_cons_succ] at HF
 clear hr hO2 hb hP2 HF2 HF3 hg2
 go_upto_region 4 with (refine pushL_ rfl rfl rfl rfl HP.out ?_; clear HP)
 clear x1 y1 f1 z1
 generalize hgt : World.setCell _ _ _ = W at HF HO1 HO2 ⊢
 clear hgt
 go_wp2_with fail
 go_loopg [4] d.2.length (fun gg s4 wr => ∃ (i : Nat) (Aq : Option Addr) (cq : Nat) (qs : List RatD), i + gg = d.2.length ∧ s4 = .int .i64 i ∧ Hid (qs = (d.2.take i).map fun q => canD (rq q)) ∧ Hid (Fr w wr [(w.heap.size + 2, [.int .i64 kd, .slice A5 n0 c5, .slice B5 n1 b5, .slice Aq qs.length cq]), (w.heap.size + 1, [.int .i64 0, .slice none 0 0, .slice none 0 0, .slice none 0 0]), (w.heap.size, [.int .i64 kd, .slice A1 n0 c1, .slice B1 n1 b1, .slice D1 d.2.length e1])]) ∧ Hid (OwnL wr (w.heap.size + 3) 3 1 (.slice A5 n0 c5) n0 (ic xs)) ∧ Hid (OwnL wr (w.heap.size + 3) 3 1 (.slice B5 n1 b5) n1 (ic ys)) ∧ Hid (OwR wr (w.heap.size + 3) (.slice Aq qs.length cq) qs))
 case atStart => exact ⟨0, none, 0, [], by omega, rfl, (show Hid _ from rfl), HF.out, HO1.out, HO2.out, OwY.nil _ _ _ _ _⟩
 case round =>
  clear HF HO1 HO2
  obtain ⟨i, Aq, cq, qs, hgg, rfl, HQ, HF, HO1, HO2, HO⟩ := hrel
  have x3 := HF.out.cellN 2 rfl 3 rfl
  by_cases hlt : i < d.2.length
  · have hltz : (i : Int) < (d.2.length : Int) := by omega
    obtain ⟨ad, Ba, ca, Da, da, rfl, i1, i2, i3, hq', l1, l2⟩ := HR1.out i hlt
    have HNr := Lib.hid (fun (W : World) (hb : Below w.heap.size w W) => r3_Norm d.2[i].1.1 Ba ca d.2[i].1.2 Da da d.2[i].2 W (hq'.num.below hb) (by omega) (hq'.den.below hb) (by omega))
    rw [show rv d.2[i].1.1 d.2[i].1.2 d.2[i].2 = rq d.2[i] from rfl] at HNr
    have HQn := Lib.hid (show (d.2.take (i + 1)).map (fun q => canD (rq q)) = qs ++ [canD (rq d.2[i])] from by rw [List.take_succ_eq_append_getElem hlt, List.map_append, HQ.out]; rfl)
    have hrv := rv_len d.2[i].1.1 hq'.num.lim hq'.den.lim
    rw [show rv d.2[i].1.1 d.2[i].1.2 d.2[i].2 = rq d.2[i] from rfl] at hrv
    have hqlen : qs.length ≤ 8388608 := by rw [HQ.out, List.length_map, List.length_take]; omega
    clear hq' HQ
    generalize d.2[i].1.1 = s at *
    generalize d.2[i].1.2.length = m1 at *
    generalize d.2[i].2.length = m2 at *
    generalize rq d.2[i] = q at *
    obtain ⟨qs2, hqs2⟩ : ∃ x, x = qs ++ [canD q] := ⟨_, rfl⟩
    rw [← hqs2] at HQn
    have HQs := Lib.hid hqs2
    clear hqs2
    go_wp2_with fail
    replace HO := Lib.hid (HO.out.below (Below.drew (Below.refl _ _)))
    replace HO1 := Lib.hid (HO1.out.below (Below.drew (Below.refl _ _)))
    replace HO2 := Lib.hid (HO2.out.below (Below.drew (Below.refl _ _)))
    have HF_ := Lib.hid HF.out.drew
    clear HF
    have HF := HF_
    clear HF_
    refine start_ (n := 12) (S := fun w' => w'.cell? ⟨w.heap.size, 0, none⟩ = some (.int .i64 kd) ∧ w'.cell? ⟨w.heap.size, 1, none⟩ = some (.slice A1 n0 c1) ∧ w'.cell? ⟨w.heap.size, 2, none⟩ = some (.slice B1 n1 b1) ∧ w'.cell? ⟨w.heap.size, 3, none⟩ = some (.slice (some ad) d.2.length e1) ∧ w'.cell? ⟨w.heap.size + 2, 0, none⟩ = some (.int .i64 kd) ∧ w'.cell? ⟨w.heap.size + 2, 1, none⟩ = some (.slice A5 n0 c5) ∧ w'.cell? ⟨w.heap.size + 2, 2, none⟩ = some (.slice B5 n1 b5) ∧ w'.cell? ⟨w.heap.size + 2, 3, none⟩ = some (.slice Aq qs.length cq) ∧ w'.cell? (ad.add (i * 3)) = some (.bool s) ∧ w'.cell? (nxt (ad.add (i * 3)) 1) = some (.slice Ba m1 ca) ∧ w'.cell? (nxt (ad.add (i * 3)) 2) = some (.slice Da m2 da)) (ds := [9, 11]) #[false, false, false, false, false, false, false, false, false, false, false, false] (by kernel_rfl) rfl rfl ⟨HF.out.cellN 2 rfl 0 rfl, HF.out.cellN 2 rfl 1 rfl, HF.out.cellN 2 rfl 2 rfl, HF.out.cellN 2 rfl 3 rfl, HF.out.cellN 0 rfl 0 rfl, HF.out.cellN 0 rfl 1 rfl, HF.out.cellN 0 rfl 2 rfl, HF.out.cellN 0 rfl 3 rfl, cell_below HF.out.bel i1, cell_below HF.out.bel i2, cell_below HF.out.bel i3⟩ (fun hHeld => ?_)
    generalize World.drew _ = W at *
    refine pu_ (v := ?_) (a' := ?_) 0 (some 27) rfl rfl ?_ ?_ ?_
    rotate_left; · intro w'; go_simp; with_reducible rfl
    rotate_left
    · simp only [Act.put, sa_, sb_, sc_]
      rfl
    refine pu_ (v := ?_) (a' := ?_) 2 (some 29) rfl rfl ?_ ?_ ?_
    rotate_left; · intro w'; go_simp; with_reducible rfl
    rotate_left
    · simp only [Act.put, sa_, sb_, sc_]
      rfl
    refine pu_ (v := ?_) (a' := ?_) 4 (some 31) rfl rfl ?_ ?_ ?_
    rotate_left; · intro w'; go_simp; with_reducible rfl
    rotate_left
    · simp only [Act.put, sa_, sb_, sc_]
      rfl
    refine tk_ (v := ?_) (a' := ?_) 1 (some 28) rfl rfl ?_ hHeld ?_ ?_
    rotate_left
    · rintro w' ⟨s0, s1, s2, s3, s4, s5, s6, s7, s8, s9, s10⟩; go_simp; with_reducible rfl
    rotate_left
    · simp only [Act.put, sa_, sb_, sc_]
      rfl
    refine tk_ (v := ?_) (a' := ?_) 3 (some 30) rfl rfl ?_ hHeld ?_ ?_
    rotate_left
    · rintro w' ⟨s0, s1, s2, s3, s4, s5, s6, s7, s8, s9, s10⟩; go_simp; with_reducible rfl
    rotate_left
    · simp only [Act.put, sa_, sb_, sc_]
      rfl
    refine pu_ (v := ?_) (a' := ?_) 5 (some 32) rfl rfl ?_ ?_ ?_
    rotate_left; · intro w'; go_simp; with_reducible rfl
    rotate_left
    · simp only [Act.put, sa_, sb_, sc_]
      rfl
    refine tk_ (v := ?_) (a' := ?_) 6 (some 33) rfl rfl ?_ hHeld ?_ ?_
    rotate_left
    · rintro w' ⟨s0, s1, s2, s3, s4, s5, s6, s7, s8, s9, s10⟩; go_simp; with_reducible rfl
    rotate_left
    · simp only [Act.put, sa_, sb_, sc_]
      rfl
    refine on_ 7 (N := (some 34)) rfl rfl (fun K hK => ?_)
    refine goes_ Tryz.func91 (by kernel_rfl) rfl #[.agg #[.bool s, .slice Ba m1 ca, .slice Da m2 da]] (by rfl) rfl rfl (by (try simp only [List.map_toArray, List.map_cons, List.map_nil]); first | done | rfl) ?_
    refine (HNr.out W HF.out.bel).mono ?_
    rintro e W1 ⟨A9, c9, B9, d9, rfl, q1, q2, q3⟩
    refine ⟨_, rfl, ?_⟩
    replace HF := Lib.hid (HF.out.below q3)
    replace HO := Lib.hid (HO.out.below q3)
    replace HO1 := Lib.hid (HO1.out.below q3)
    replace HO2 := Lib.hid (HO2.out.below q3)
    have HK := Lib.hid (show InD _ (canD q) A9 c9 B9 d9 from ⟨q1, q2⟩)
    clear q1 q2 q3
    refine hK.out _ _ ⟨HF.out.cellN 2 rfl 0 rfl, HF.out.cellN 2 rfl 1 rfl, HF.out.cellN 2 rfl 2 rfl, HF.out.cellN 2 rfl 3 rfl, HF.out.cellN 0 rfl 0 rfl, HF.out.cellN 0 rfl 1 rfl, HF.out.cellN 0 rfl 2 rfl, HF.out.cellN 0 rfl 3 rfl, cell_below HF.out.bel i1, cell_below HF.out.bel i2, cell_below HF.out.bel i3⟩ (fun hHeld => ?_)
    clear hK K
    refine norm_ (a' := ?_) ?_ ?_
    rotate_left
    · show Act.put _ (some 34) _ = _
      simp only [Act.put, sa_, sb_, sc_]
      rfl
    refine on_ 8 (N := (some 35)) rfl rfl (fun K hK => ?_)
    refine value_ (v := ?_) (w1 := ?_) (by rfl) rfl ?_ ?_
    rotate_left
    rotate_left
    · go_simp
      first | rfl | (refine ⟨?_, ?_⟩ <;> rfl)
    have hal := (Below.refl (W1).heap.size W1).alloc (Nat.le_refl _) (.cells #[.bool (decide (q.num < 0)), .slice A9 (dg q.num.natAbs).length c9, .slice B9 (dg q.den).length d9] 43)
    have HP := Lib.hid (pushQM HO.out (HK.out) (show (dg q.num.natAbs).length ≤ 137438953472 by omega) (show (dg q.den).length ≤ 137438953472 by omega) (by omega) (by have := HF.out.ltN 0 rfl; omega))
    have HFa := Lib.hid (HF.out.below hal)
    have HO1a := HO1
    have HO2a := HO2
    replace HO1 := Lib.hid (HO1.out.below hal)
    replace HO2 := Lib.hid (HO2.out.below hal)
    have HFo := HF
    replace HF := HFa
    clear hal
    refine hK.out _ _ ⟨HF.out.cellN 2 rfl 0 rfl, HF.out.cellN 2 rfl 1 rfl, HF.out.cellN 2 rfl 2 rfl, HF.out.cellN 2 rfl 3 rfl, HF.out.cellN 0 rfl 0 rfl, HF.out.cellN 0 rfl 1 rfl, HF.out.cellN 0 rfl 2 rfl, HF.out.cellN 0 rfl 3 rfl, cell_below HF.out.bel i1, cell_below HF.out.bel i2, cell_below HF.out.bel i3⟩ (fun hHeld => ?_)
    clear hK K
    refine norm_ (a' := ?_) ?_ ?_
    rotate_left
    · show Act.put _ (some 35) _ = _
      simp only [Act.put, sa_, sb_, sc_]
      rfl
    refine ls_ 9 (N := (some 36)) rfl rfl (fun K hK => ?_)
    obtain ⟨v_, W2, hpush, hO', hb', hkt⟩ := HP.out
    refine push_ (by rfl) rfl rfl rfl rfl hpush ?_
    clear hpush
    rw [show qs ++ [((decide (q.num < 0), dg q.num.natAbs), dg q.den)] = qs2 from HQs.out.symm] at hO'
    obtain ⟨A7, c7, rfl, _⟩ := hO'.form
    have hg2 : w.heap.size + 2 < w.heap.size + 3 := by omega
    have HF1 := Lib.hid (HFo.out.belowB hb' (by omega) (by simp))
    have HO11 := Lib.hid (OwnL.keepT HO1a.out (hkt 3 (by decide)))
    have HO21 := Lib.hid (OwnL.keepT HO2a.out (hkt 3 (by decide)))
    have HOn := Lib.hid hO'
    clear hO' hb' hkt HO HO1 HO2 HO1a HO2a HF HFo HP HK
    refine hK.out _ _ ?_
    clear hK K
    refine norm_ (a' := ?_) ?_ ?_
    rotate_left
    · show Act.put _ (some 36) _ = _
      simp only [Act.put, sa_, sb_, sc_]
      rfl
    refine pu_ (v := ?_) (a' := ?_) 10 (some 37) rfl rfl ?_ ?_ ?_
    rotate_left; · intro w'; go_simp; with_reducible rfl
    rotate_left
    · simp only [Act.put, sa_, sb_, sc_]
      rfl
    refine ls_ 11 (N := none) rfl rfl (fun K hK => ?_)
    have hf := HF1.out.frozenN 0 rfl 3
    have hd := HF1.out.cellN 0 rfl 3 rfl
    refine skip_ (w1 := ?_) (by rfl) rfl ?_ ?_
    rotate_left
    · go_simp
      rfl
    refine hK.out _ _ ?_
    clear hK K
    refine done_ (by kernel_rfl) ?_
    have HF8 := Lib.hid (HF1.out.setN 0 rfl (by omega) (by simp) 3 (.slice A7 qs2.length c7))
    have HO18 := Lib.hid (OwnL.set (g := w.heap.size + 2) (i := 3) HO11.out (by omega) (.slice A7 qs2.length c7))
    have HO28 := Lib.hid (OwnL.set (g := w.heap.size + 2) (i := 3) HO21.out (by omega) (.slice A7 qs2.length c7))
    have HO8 := Lib.hid (HOn.out.setQ (HF1.out.ownN 0 rfl) (fun y hy => by simp at hy) (by omega) 3 (.slice A7 qs2.length c7))
    simp only [List.set_cons_zero, List.set_cons_succ] at HF8
    clear HF1 HO11 HO21 HOn hf hd hHeld HNr x3 i1 i2 i3
    go_wp2
    go_roundg (d.2.length - (i + 1))
    case measure => omega
    case rel => exact ⟨i + 1, A7, c7, qs2, by omega, by go_num, HQn.out.symm, HF8.out, HO18.out, HO28.out, HO8.out⟩
  · have hltz : ¬ (i : Int) < (d.2.length : Int) := by omega
    have hqs : qs = d.2.map fun q => canD (rq q) := by rw [HQ.out, List.take_of_length_le (by omega)]
    have a0 := HF.out.cellN 0 rfl 0 rfl
    have a1 := HF.out.cellN 0 rfl 1 rfl
    have a2 := HF.out.cellN 0 rfl 2 rfl
    have a3 := HF.out.cellN 0 rfl 3 rfl
    have d0 := HF.out.cellN 1 rfl 0 rfl
    have d1 := HF.out.cellN 1 rfl 1 rfl
    have d2 := HF.out.cellN 1 rfl 2 rfl
    have d3 := HF.out.cellN 1 rfl 3 rfl
    have f0 := HF.out.frozenN 1 rfl 0
    have f1 := HF.out.frozenN 1 rfl 1
    have f2 := HF.out.frozenN 1 rfl 2
    have f3 := HF.out.frozenN 1 rfl 3
    have HE := Lib.hid (copy_end (kd := kd) (HF.out.ownN 1 rfl) HF.out.bel HO1.out HO2.out HO.out)
    have HS := Lib.hid (HFin2.out _ _ _ _ _ _ HE.out.2.1 HE.out.2.2.1 hqs HE.out.2.2.2.1)
    have HO9 := Lib.hid (And.intro HE.out.1 HE.out.2.2.2.2)
    clear HE HFin2 HF HO HO1 HO2 HQ HR1 hqs
    go_wp2
    exact post_own HO9.out.1 rfl rfl rfl Tryz.underlying80 rfl (by kernel_rfl) ⟨_, rfl, HS.out, HO9.out.2⟩
theorem ToldCp.at {w : World} {d : StepD} {e : Ending} {w' : World} (h : ToldCp w d e w') : ∃ A a B b D e', e = .returned (.agg #[.int .i64 d.1.1.1, .slice A d.1.1.2.length a, .slice B d.1.2.length b, .slice D d.2.length e']) ∧ StO w' (canSt d) [.int .i64 d.1.1.1, .slice A d.1.1.2.length a, .slice B d.1.2.length b, .slice D d.2.length e'] ∧ Below w.heap.size w w' := by
 obtain ⟨cs, rfl, h1, h2⟩ := h
 obtain ⟨A, a, B, b, D, e', rfl⟩ := h1.cells
 have e2 : (canSt d).2.length = d.2.length := by show (d.2.map _).length = _; rw [List.length_map]
 rw [e2] at h1 ⊢
 exact ⟨A, a, B, b, D, e', rfl, h1, h2⟩
def OwSt (w : World) (B : Nat) (v : Value) (l : List StepD) : Prop := OwS w B v l
theorem OwSt.below {w w' : World} {B : Nat} {v : Value} {l : List StepD} (h : OwSt w B v l) (hb : Below w.heap.size w w') : OwSt w' B v l := OwY.below h stO_nst hb
theorem OwSt.setT {W : World} {B g : Nat} {v : Value} {l : List StepD} {cs : List Value} (h : OwSt W B v l) (ho : OwnT W g 25 cs) (hu : NoU cs) (i : Nat) (y : Value) : OwSt (W.setCell ⟨g, i, none⟩ y) B v l :=
 OwY.keep h stO_nst ((Oth.set (g := g) W i y).keepU ho hu) (fun ty ht => KeepT.set ho (by simp only [List.mem_cons, List.not_mem_nil, or_false] at ht; rcases ht with rfl | rfl <;> decide) i y) (KeepT.set ho (by decide) i y)
theorem OwnT.far' {w : World} {g : Nat} {t : TypeId} {cs : List Value} (h : OwnT w g t cs) {k : Nat} (hk : g ≠ k) (i : Nat) (v : Value) : OwnT (w.setCell ⟨k, i, none⟩ v) g t cs := (Below.heap_setCell w ⟨k, i, none⟩ v g hk).trans h
set_option maxHeartbeats 4000000 in
set_option maxRecDepth 100000 in
theorem law_normal (r : RefD) (A : Option Addr) (a : Nat) (B : Option Addr) (b : Nat) (w : World) (h : RefIn w r A a B b) :
 Calls Tryz.prog 40 #[.agg #[.slice A r.1.length a, .slice B r.2.length b]] w fun e w' => ∃ A2 c2, e = .returned (.agg #[.slice A r.1.length a, .slice A2 r.2.length c2]) ∧ OwS w' 0 (.slice A2 r.2.length c2) (r.2.map canSt) ∧ Below w.heap.size w w' := by
 have hl := h.lens
 have hc2 := h.capS
 have HS1 := Lib.hid (fun (i : Nat) (hi : i < r.2.length) => stIn_row h.rowS h.goodS i hi)
 clear h
 generalize r.1.length = n0 at *
 have HF0 := Lib.hid (((Fr.refl w).box [.slice A n0 a, .slice B r.2.length b] 25).box [.slice none 0 0, .slice none 0 0] 25)
 have HT := Lib.hid (OwnT.mk (w := (w.alloc (.cells [.slice A n0 a, .slice B r.2.length b].toArray 25)).alloc (.cells [.slice none 0 0, .slice none 0 0].toArray 25)) [.slice A n0 a, .slice none 0 0] 25)
 have HU := Lib.hid ((OwnT.mk (w := w.alloc (.cells [.slice A n0 a, .slice B r.2.length b].toArray 25)) [.slice none 0 0, .slice none 0 0] 25).below ((Below.refl _ _).alloc (Nat.le_refl _) (.cells [.slice A n0 a, .slice none 0 0].toArray 25)))
 have HF := Lib.hid (HF0.out.box [.slice A n0 a, .slice none 0 0] 25)
 have hsz : (w.alloc (.cells [.slice A n0 a, .slice B r.2.length b].toArray 25)).heap.size = w.heap.size + 1 := by simp
 have hsz2 : ((w.alloc (.cells [.slice A n0 a, .slice B r.2.length b].toArray 25)).alloc (.cells [.slice none 0 0, .slice none 0 0].toArray 25)).heap.size = w.heap.size + 2 := by simp
 rw [hsz, hsz2] at HF
 rw [hsz2] at HT
 rw [hsz] at HU
 clear hsz hsz2 HF0
 simp only [List.toArray] at HF HT HU ⊢
 go_enter Tryz.func40, Tryz.ntmps40
 go_upto_region 2 with fail
 generalize hgt : World.alloc _ _ = W at HF HT HU ⊢
 clear hgt
 go_wp2_with fail
 go_loopg [4] r.2.length (fun gg s4 wr => ∃ (i : Nat) (Aq : Option Addr) (cq : Nat) (ss : List StepD), i + gg = r.2.length ∧ s4 = .int .i64 i ∧ Hid (ss = (r.2.take i).map canSt) ∧ Hid (Fr w wr [(w.heap.size + 2, [.slice A n0 a, .slice Aq ss.length cq]), (w.heap.size + 1, [.slice none 0 0, .slice none 0 0]), (w.heap.size, [.slice A n0 a, .slice B r.2.length b])]) ∧ Hid (OwnT wr (w.heap.size + 2) 25 [.slice A n0 a, .slice Aq ss.length cq]) ∧ Hid (OwnT wr (w.heap.size + 1) 25 [.slice none 0 0, .slice none 0 0]) ∧ Hid (OwSt wr (w.heap.size + 3) (.slice Aq ss.length cq) ss))
 case atStart => exact ⟨0, none, 0, [], by omega, rfl, (show Hid _ from rfl), HF.out, HT.out, HU.out, OwY.nil _ _ _ _ _⟩
 case round =>
  clear HF HT HU
  obtain ⟨i, Aq, cq, ss, hgg, rfl, HQ, HF, HT, HU, HO⟩ := hrel
  have x1 := HF.out.cellN 2 rfl 1 rfl
  by_cases hlt : i < r.2.length
  · have hltz : (i : Int) < (r.2.length : Int) := by omega
    obtain ⟨ad, A1, c1, B1, b1, D1, e1, rfl, i0, i1, i2, i3, hst⟩ := HS1.out i hlt
    have HCp := Lib.hid (fun (W : World) (hb : Below w.heap.size w W) => (r24_Copy r.2[i] A1 c1 B1 b1 D1 e1 W (hst.below hb)).mono fun e w' h => h.at)
    have HQn := Lib.hid (show (r.2.take (i + 1)).map canSt = ss ++ [canSt r.2[i]] from by rw [List.take_succ_eq_append_getElem hlt, List.map_append, HQ.out]; rfl)
    have hqlen : ss.length ≤ 8388608 := by rw [HQ.out, List.length_map, List.length_take]; omega
    clear hst HQ
    unfold stc at HCp
    simp only [List.toArray] at HCp
    generalize r.2[i] = d at *
    generalize d.1.1.1 = kd at *
    generalize d.1.1.2.length = m0 at *
    generalize d.1.2.length = m1 at *
    generalize d.2.length = m2 at *
    generalize canSt d = d' at *
    obtain ⟨ss2, hss2⟩ : ∃ x, x = ss ++ [d'] := ⟨_, rfl⟩
    rw [← hss2] at HQn
    have HQs := Lib.hid hss2
    clear hss2
    go_wp2_with fail
    replace HO := Lib.hid (HO.out.below (Below.drew (Below.refl _ _)))
    replace HT := Lib.hid (HT.out.below (Below.drew (Below.refl _ _)))
    replace HU := Lib.hid (HU.out.below (Below.drew (Below.refl _ _)))
    have HF_ := Lib.hid HF.out.drew
    clear HF
    have HF := HF_
    clear HF_
    refine start_ (n := 12) (S := fun w' => w'.cell? ⟨w.heap.size, 0, none⟩ = some (.slice A n0 a) ∧ w'.cell? ⟨w.heap.size, 1, none⟩ = some (.slice (some ad) r.2.length b) ∧ w'.cell? ⟨w.heap.size + 2, 0, none⟩ = some (.slice A n0 a) ∧ w'.cell? ⟨w.heap.size + 2, 1, none⟩ = some (.slice Aq ss.length cq) ∧ w'.cell? (ad.add (i * 4)) = some (.int .i64 kd) ∧ w'.cell? (nxt (ad.add (i * 4)) 1) = some (.slice A1 m0 c1) ∧ w'.cell? (nxt (ad.add (i * 4)) 2) = some (.slice B1 m1 b1) ∧ w'.cell? (nxt (ad.add (i * 4)) 3) = some (.slice D1 m2 e1)) (ds := [9, 11]) #[false, false, false, false, false, false, false, false, false, false, false, false] (by kernel_rfl) rfl rfl ⟨HF.out.cellN 2 rfl 0 rfl, HF.out.cellN 2 rfl 1 rfl, HF.out.cellN 0 rfl 0 rfl, HF.out.cellN 0 rfl 1 rfl, cell_below HF.out.bel i0, cell_below HF.out.bel i1, cell_below HF.out.bel i2, cell_below HF.out.bel i3⟩ (fun hHeld => ?_)
    generalize World.drew _ = W at *
    refine pu_ (v := ?_) (a' := ?_) 0 (some 15) rfl rfl ?_ ?_ ?_
    rotate_left; · intro w'; go_simp; with_reducible rfl
    rotate_left
    · simp only [Act.put, sa_, sb_, sc_]
      rfl
    refine pu_ (v := ?_) (a' := ?_) 2 (some 17) rfl rfl ?_ ?_ ?_
    rotate_left; · intro w'; go_simp; with_reducible rfl
    rotate_left
    · simp only [Act.put, sa_, sb_, sc_]
      rfl
    refine pu_ (v := ?_) (a' := ?_) 4 (some 19) rfl rfl ?_ ?_ ?_
    rotate_left; · intro w'; go_simp; with_reducible rfl
    rotate_left
    · simp only [Act.put, sa_, sb_, sc_]
      rfl
    refine tk_ (v := ?_) (a' := ?_) 1 (some 16) rfl rfl ?_ hHeld ?_ ?_
    rotate_left
    · rintro w' ⟨s0, s1, s2, s3, s4, s5, s6, s7⟩; go_simp; with_reducible rfl
    rotate_left
    · simp only [Act.put, sa_, sb_, sc_]
      rfl
    refine tk_ (v := ?_) (a' := ?_) 3 (some 18) rfl rfl ?_ hHeld ?_ ?_
    rotate_left
    · rintro w' ⟨s0, s1, s2, s3, s4, s5, s6, s7⟩; go_simp; with_reducible rfl
    rotate_left
    · simp only [Act.put, sa_, sb_, sc_]
      rfl
    refine pu_ (v := ?_) (a' := ?_) 5 (some 20) rfl rfl ?_ ?_ ?_
    rotate_left; · intro w'; go_simp; with_reducible rfl
    rotate_left
    · simp only [Act.put, sa_, sb_, sc_]
      rfl
    refine tk_ (v := ?_) (a' := ?_) 6 (some 21) rfl rfl ?_ hHeld ?_ ?_
    rotate_left
    · rintro w' ⟨s0, s1, s2, s3, s4, s5, s6, s7⟩; go_simp; with_reducible rfl
    rotate_left
    · simp only [Act.put, sa_, sb_, sc_]
      rfl
    refine on_ 7 (N := (some 22)) rfl rfl (fun K hK => ?_)
    refine goes_ Tryz.func101 (by kernel_rfl) rfl #[.agg #[.int .i64 kd, .slice A1 m0 c1, .slice B1 m1 b1, .slice D1 m2 e1]] (by rfl) rfl rfl (by (try simp only [List.map_toArray, List.map_cons, List.map_nil]); first | done | rfl) ?_
    refine (HCp.out W HF.out.bel).mono ?_
    rintro e W1 ⟨A8, a8, B8, b8, D8, e8, rfl, q1, q2⟩
    refine ⟨_, rfl, ?_⟩
    replace HF := Lib.hid (HF.out.below q2)
    replace HO := Lib.hid (HO.out.below q2)
    replace HT := Lib.hid (HT.out.below q2)
    replace HU := Lib.hid (HU.out.below q2)
    have HSt := Lib.hid q1
    clear q1 q2
    refine hK.out _ _ ⟨HF.out.cellN 2 rfl 0 rfl, HF.out.cellN 2 rfl 1 rfl, HF.out.cellN 0 rfl 0 rfl, HF.out.cellN 0 rfl 1 rfl, cell_below HF.out.bel i0, cell_below HF.out.bel i1, cell_below HF.out.bel i2, cell_below HF.out.bel i3⟩ (fun hHeld => ?_)
    clear hK K
    refine norm_ (a' := ?_) ?_ ?_
    rotate_left
    · show Act.put _ (some 22) _ = _
      simp only [Act.put, sa_, sb_, sc_]
      rfl
    refine on_ 8 (N := (some 23)) rfl rfl (fun K hK => ?_)
    refine value_ (v := ?_) (w1 := ?_) (by rfl) rfl ?_ ?_
    rotate_left
    rotate_left
    · go_simp
      first | rfl | (refine ⟨?_, ?_⟩ <;> rfl)
    have hal := (Below.refl (W1).heap.size W1).alloc (Nat.le_refl _) (.cells #[.int .i64 kd, .slice A8 m0 a8, .slice B8 m1 b8, .slice D8 m2 e8] 80)
    have HS := Lib.hid (OwnT.mk (w := W1) [.int .i64 kd, .slice A8 m0 a8, .slice B8 m1 b8, .slice D8 m2 e8] 80)
    replace HF := Lib.hid (HF.out.below hal)
    replace HO := Lib.hid (HO.out.below hal)
    replace HT := Lib.hid (HT.out.below hal)
    replace HU := Lib.hid (HU.out.below hal)
    replace HSt := Lib.hid (HSt.out.below hal)
    have hone6 := HSt.out.one
    clear hal
    refine hK.out _ _ ⟨HF.out.cellN 2 rfl 0 rfl, HF.out.cellN 2 rfl 1 rfl, HF.out.cellN 0 rfl 0 rfl, HF.out.cellN 0 rfl 1 rfl, cell_below HF.out.bel i0, cell_below HF.out.bel i1, cell_below HF.out.bel i2, cell_below HF.out.bel i3⟩ (fun hHeld => ?_)
    clear hK K
    refine norm_ (a' := ?_) ?_ ?_
    rotate_left
    · show Act.put _ (some 23) _ = _
      simp only [Act.put, sa_, sb_, sc_]
      rfl
    refine ls_ 9 (N := (some 24)) rfl rfl (fun K hK => ?_)
    obtain ⟨v_, W2, hpush, hO', hb', _, hkt, _⟩ := OwY.pushM (P := Tryz.prog) (ty := 23) (x := d') Tryz.underlying23 info_Step4 rfl (fun y hy => by simp [Value.cells] at hy) HO.out stO_nst neS_ HS.out.own HSt.out rfl hone6.2.1 hone6.2.2 (by omega) (by decide) (by have := HF.out.ltN 0 rfl; omega)
    refine push_ (by rfl) rfl rfl rfl rfl hpush ?_
    clear hpush
    rw [show ss ++ [d'] = ss2 from HQs.out.symm] at hO'
    obtain ⟨A7, c7, rfl, _⟩ := hO'.form
    have HF1 := Lib.hid (HF.out.belowB hb' (by omega) (by simp))
    have HT1 := Lib.hid (HT.out.keep (hkt 25 (by decide)))
    have HU1 := Lib.hid (HU.out.keep (hkt 25 (by decide)))
    have HOn := Lib.hid (show OwSt _ _ _ _ from hO')
    clear hO' hb' hkt HO HT HU HF HSt HS hone6
    refine hK.out _ _ ?_
    clear hK K
    refine norm_ (a' := ?_) ?_ ?_
    rotate_left
    · show Act.put _ (some 24) _ = _
      simp only [Act.put, sa_, sb_, sc_]
      rfl
    refine pu_ (v := ?_) (a' := ?_) 10 (some 25) rfl rfl ?_ ?_ ?_
    rotate_left; · intro w'; go_simp; with_reducible rfl
    rotate_left
    · simp only [Act.put, sa_, sb_, sc_]
      rfl
    refine ls_ 11 (N := none) rfl rfl (fun K hK => ?_)
    have hf := HF1.out.frozenN 0 rfl 1
    have hd := HF1.out.cellN 0 rfl 1 rfl
    refine skip_ (w1 := ?_) (by rfl) rfl ?_ ?_
    rotate_left
    · go_simp
      rfl
    refine hK.out _ _ ?_
    clear hK K
    refine done_ (by kernel_rfl) ?_
    have HF8 := Lib.hid (HF1.out.setN 0 rfl (by omega) (by simp) 1 (.slice A7 ss2.length c7))
    have HT8 := Lib.hid (HT1.out.set 1 (.slice A7 ss2.length c7))
    have HU8 := Lib.hid (HU1.out.far' (k := w.heap.size + 2) (by omega) 1 (.slice A7 ss2.length c7))
    have HO8 := Lib.hid (HOn.out.setT HT1.out (fun y hy => by simp at hy) 1 (.slice A7 ss2.length c7))
    simp only [List.set_cons_zero, List.set_cons_succ] at HF8 HT8
    clear HF1 HT1 HU1 HOn hf hd hHeld HCp x1 i0 i1 i2 i3
    go_wp2
    go_roundg (r.2.length - (i + 1))
    case measure => omega
    case rel => exact ⟨i + 1, A7, c7, ss2, by omega, by go_num, HQn.out.symm, HF8.out, HT8.out, HU8.out, HO8.out⟩
  · have hltz : ¬ (i : Int) < (r.2.length : Int) := by omega
    have hss : ss = r.2.map canSt := by rw [HQ.out, List.take_of_length_le (by omega)]
    have hsl : ss.length = r.2.length := by rw [hss, List.length_map]
    have a0 := HF.out.cellN 0 rfl 0 rfl
    have a1 := HF.out.cellN 0 rfl 1 rfl
    have d0 := HF.out.cellN 1 rfl 0 rfl
    have d1 := HF.out.cellN 1 rfl 1 rfl
    have f0 := HF.out.frozenN 1 rfl 0
    have f1 := HF.out.frozenN 1 rfl 1
    have HU1 := Lib.hid (HU.out.set 0 (.slice A n0 a))
    have HU2 := Lib.hid (HU1.out.set 1 (.slice Aq ss.length cq))
    have HO2 := Lib.hid ((HO.out.setT HU.out (fun y hy => by simp at hy) 0 (.slice A n0 a)).setT HU1.out (fun y hy => by simp at hy) 1 (.slice Aq ss.length cq))
    have HB := Lib.hid (show Below w.heap.size w ((wr.setCell ⟨w.heap.size + 1, 0, none⟩ (.slice A n0 a)).setCell ⟨w.heap.size + 1, 1, none⟩ (.slice Aq ss.length cq)) from (HF.out.bel.setCell (by show w.heap.size ≤ w.heap.size + 1; omega) _).setCell (by show w.heap.size ≤ w.heap.size + 1; omega) _)
    simp only [List.set_cons_zero, List.set_cons_succ] at HU2
    have HE := Lib.hid (show ∃ A2 c2, Ending.returned (.agg #[.slice A n0 a, .slice Aq ss.length cq]) = .returned (.agg #[.slice A n0 a, .slice A2 r.2.length c2]) ∧ OwS ((wr.setCell ⟨w.heap.size + 1, 0, none⟩ (.slice A n0 a)).setCell ⟨w.heap.size + 1, 1, none⟩ (.slice Aq ss.length cq)) 0 (.slice A2 r.2.length c2) (r.2.map canSt) ∧ Below w.heap.size w ((wr.setCell ⟨w.heap.size + 1, 0, none⟩ (.slice A n0 a)).setCell ⟨w.heap.size + 1, 1, none⟩ (.slice Aq ss.length cq)) from by
     refine ⟨Aq, cq, by rw [hsl], ?_, HB.out⟩
     have := OwY.mono HO2.out (Nat.zero_le (w.heap.size + 3))
     rw [hss] at this ⊢
     rw [List.length_map] at this ⊢
     exact this)
    clear HU HU1 HO HO2 HB HQ hss hsl HT HF HS1
    go_wp2
    exact post_own HU2.out.own rfl rfl rfl Tryz.underlying25 rfl (by kernel_rfl) HE.out
end Go.Proofs.YtidgpkccjcddgaaGreatDoor.F
