/- A line is taken: (*proof.reader).take where a step is awaited. Condition: a line of at most 1048576 bytes; the tables lie as laid. -/
import Derived.Test.YtidgpkccjcddgaaGreatDoorHai
import Derived.WalkSpells
set_option linter.unusedVariables false
set_option linter.unusedSimpArgs false
namespace Go.Proofs.YtidgpkccjcddgaaGreatDoor.F
open Go.RowKit Go.Shelf Go.Maps Go.Proofs.YtidgpkccjcddgaaGreatDoorW.PrintLast
theorem info_Step4 : (Tryz.prog.info? 80).map (fun i => (i.zero, i.size, i.bytes)) = some (some (.agg #[.int .i64 0, .slice none 0 0, .slice none 0 0, .slice none 0 0]), 4, 80) := by kernel_rfl
theorem as101_98 (v : Value) (w : World) : (Instr.typeAssert (.iface 101 v) 203 98 true).run Tryz.prog w = .ok (.tuple #[.agg #[.string ⟨#[]⟩, .slice none 0 0, .bool false, .slice none 0 0, .slice none 0 0, .bool false], .bool false]) w := by kernel_rfl
theorem as101_101 (v : Value) (w : World) : (Instr.typeAssert (.iface 101 v) 203 101 true).run Tryz.prog w = .ok (.tuple #[v, .bool true]) w := by kernel_rfl
theorem meth101 (v : Value) (w : World) : (method 427 101 v "fulcrum/proof.text").run Tryz.prog w = .ok (49, v) w := by kernel_rfl
theorem StO.stIn {w : World} {d : StepD} {cs : List Value} (h : StO w d cs) (hg : GoodS d) : ∃ A c B b D e, cs = stc d A c B b D e ∧ StIn w d A c B b D e := by
 obtain ⟨A, c, B, b, D, e, rfl, g1, g2, g3, g4, g5, g6⟩ := kStep_cells h.knd
 exact ⟨A, c, B, b, D, e, rfl, ⟨g2, g1, g4, g3, g6, g5, hg⟩⟩
theorem StO.stIn' {w : World} {d : StepD} {A : Option Addr} {c : Nat} {B : Option Addr} {b : Nat} {D : Option Addr} {e : Nat} (h : StO w d (stc d A c B b D e)) (hg : GoodS d) : StIn w d A c B b D e := by
 obtain ⟨A', c', B', b', D', e', e1, h2⟩ := h.stIn hg
 unfold stc at e1
 simp only [List.cons.injEq, Value.slice.injEq, true_and, and_true] at e1
 obtain ⟨⟨rfl, rfl⟩, ⟨rfl, rfl⟩, rfl, rfl⟩ := e1
 exact h2
theorem neS_ : ∀ t ∈ [3, 43], t ≠ 80 := by decide
theorem next_step {t : Ps} {s : List UInt8} (hb : t.beg = true) (h1 : ¬ (t.al.length : Int) < t.na) (h2 : (t.sl.length : Int) < t.ns) {d : StepD} (hd : IsStep s d) (ho : mayS d t.sl.length t.na.toNat = true) : NextOk t s ⟨t.beg, t.na, t.ns, t.al, t.sl ++ [d]⟩ := by
 unfold NextOk
 rw [if_neg (by rw [hb]; decide), if_neg h1, if_pos h2]
 exact ⟨d, hd, ho, rfl⟩
theorem next_step_inv {t : Ps} {s : List UInt8} (hb : t.beg = true) (h1 : ¬ (t.al.length : Int) < t.na) (h2 : (t.sl.length : Int) < t.ns) {u : Ps} (h : NextOk t s u) : ∃ d, IsStep s d ∧ mayS d t.sl.length t.na.toNat = true := by
 unfold NextOk at h
 rw [if_neg (by rw [hb]; decide), if_neg h1, if_pos h2] at h
 obtain ⟨d, hd, ho, _⟩ := h
 exact ⟨d, hd, ho⟩
set_option maxHeartbeats 8000000 in
set_option maxRecDepth 100000 in
theorem take_step (w0 : World) (hL : Laid w0) (hP : PowTab w0) (g bm : Nat) (hg0 : w0.heap.size ≤ g) (t : Ps) (hf : Fine t) (ht : t.beg = true) (h1 : ¬ (t.al.length : Int) < t.na) (h2 : (t.sl.length : Int) < t.ns) (hsl : t.sl.length ≤ 67108864) (s : List UInt8) (hs : s.length ≤ 67108864) (hbig : BigS s) (w : World) (va vs : Value) (n : Nat) (D : DataW Unit) (hr : RdG w0 w g bm t va vs n D) (hn : n ≤ t.al.length) (hD : SeenM t.al D) :
 Calls Tryz.prog 93 #[.pointer (some ⟨g, 0, none⟩), .string ⟨s.toArray⟩] w (ToldTk w0 g bm t s) := by
 obtain ⟨A, a, B, b, rfl, rfl⟩ := hr.forms
 have hmany := hf.many ht
 have HX := Lib.hid (fun (W' : World) (hb : Below w0.heap.size w0 W') (hx : ∀ d, IsStep s d → mayS d t.sl.length t.na.toNat = true → False) => show ToldTk w0 g bm t s (.returned (.bool false)) W' from .inr ⟨rfl, fun u hu => by
  obtain ⟨d, hd, ho⟩ := next_step_inv ht h1 h2 hu
  exact hx d hd ho, hb⟩)
 have HYes := Lib.hid (fun d (hd : IsStep s d) (ho : mayS d t.sl.length t.na.toNat = true) => next_step ht h1 h2 hd ho)
 have hR := Lib.hid (fun (W : World) (k : Laid W) => pr_readStep s W hs hbig k)
 have hSB : (⟨s.toArray⟩ : ByteArray).toList = s := ByteArray.toList_mk s
 have HR := Lib.hid hr
 have HD := Lib.hid hD
 have HL := Lib.hid hL
 have HPt := Lib.hid hP
 obtain ⟨beg, na, ns, al, sl⟩ := t
 dsimp only at *
 subst ht
 have hna0 : 1 ≤ na := hmany.1
 have hna1 : na ≤ 262144 := hmany.2.1
 have a0 := hr.blk.own.cell 0 (by simp)
 have a1 := hr.blk.own.cell 1 (by simp)
 have a2 := hr.blk.own.cell 2 (by simp)
 have a3 := hr.blk.own.cell 3 (by simp)
 have a4 := hr.blk.own.cell 4 (by simp)
 simp only [List.getElem_cons_succ, List.getElem_cons_zero] at a0 a1 a2 a3 a4
 clear hr hD hL hP hmany hf hbig
 generalize (⟨s.toArray⟩ : ByteArray) = SB at *
 go_enter Tryz.func93, Tryz.ntmps93
 go_wp2_with fail
 go_quiet (fail)
 have HQ1 := Lib.hid (below_drewN (Below.refl w.heap.size w) nq)
 generalize hW : w.drewN nq = W1 at HQ1 ⊢
 clear hW
 replace HR := Lib.hid (HR.out.below HQ1.out)
 have a0 := cell_below HQ1.out a0
 have a1 := cell_below HQ1.out a1
 have a3 := cell_below HQ1.out a3
 have a4 := cell_below HQ1.out a4
 clear HQ1 a2
 go_wp2_with fail
 go_quiet (fail)
 have HQ1 := Lib.hid (below_drewN (Below.refl W1.heap.size W1) nq)
 generalize hW : W1.drewN nq = W2 at HQ1 ⊢
 clear hW
 replace HR := Lib.hid (HR.out.below HQ1.out)
 clear HQ1 a0 a1 a3 a4
 go_wp2_with fail
 refine (hR.out W2 (HL.out.below HR.out.bel)).mono ?_
 rintro e W3 (⟨d, cs, rfl, hst, hgd, hcan, hb, hone⟩ | ⟨rfl, hb, hno⟩)
 · replace HR := Lib.hid (HR.out.below hb)
   obtain ⟨A2, c2, B2, b2, D2, e2, rfl, hsi⟩ := hst.stIn hgd
   have HT := Lib.hid (pr_stepText d A2 c2 B2 b2 D2 e2 W3 hsi (HPt.out.below HR.out.bel))
   have HSt := Lib.hid hst
   have HCan := Lib.hid (show (lnP d = s → IsStep s d) ∧ ∀ d', IsStep s d' → d = d' from ⟨fun e => ⟨hcan, e⟩, hone⟩)
   obtain ⟨sl2, hsl2⟩ : ∃ x, x = sl ++ [d] := ⟨_, rfl⟩
   have hsll : sl2.length = sl.length + 1 := by rw [hsl2, List.length_append]; rfl
   have HSl := Lib.hid hsl2
   have HSll := Lib.hid hsll
   have hsl1 : (1 : Int) ≤ (sl2.length : Int) := by omega
   have hsl3 : (sl2.length : Int) ≤ (67108865 : Int) := by omega
   have HMay := Lib.hid (fun (W : World) (h : StO W d (stc d A2 c2 B2 b2 D2 e2)) => show Calls Tryz.prog 109 #[.agg (stc d A2 c2 B2 b2 D2 e2).toArray, .int .i64 (IntKind.i64.wrap ((sl2.length : Int) - 1)), .int .i64 na] W (Decides W (mayS d sl.length na.toNat)) from by
    have h1 := pr_may d A2 c2 B2 b2 D2 e2 sl.length na.toNat (by omega) W (h.stIn' hgd)
    rwa [show ((na.toNat : Nat) : Int) = na by omega, show ((sl.length : Nat) : Int) = IntKind.i64.wrap ((sl2.length : Int) - 1) by rw [i64w (by omega) (by omega)]; omega] at h1)
   unfold stc at HT HSt HMay ⊢
   simp only [List.toArray] at HT HMay ⊢
   clear hsi hb hst hcan hone hR HL hsl2 hsll hgd HPt
   obtain ⟨ln, hln⟩ : ∃ ln, ln = lnP d := ⟨_, rfl⟩
   rw [← hln] at HT HCan
   have HLn := Lib.hid hln
   have hLB : (⟨ln.toArray⟩ : ByteArray).toList = ln := ByteArray.toList_mk ln
   clear hln
   generalize (⟨ln.toArray⟩ : ByteArray) = LB at *
   generalize hmb : mayS d sl.length na.toNat = mb at *
   have HMb := Lib.hid hmb
   clear hmb
   generalize d.1.1.1 = kd at *
   generalize d.1.1.2.length = n0 at *
   generalize d.1.2.length = n1 at *
   generalize d.2.length = n2 at *
   have hm101 := meth101
   have h101a := as101_98
   have h101b := as101_101
   go_wp2_with fail
   refine HT.out.mono ?_
   rintro e W4 ⟨rfl, hb⟩
   replace HR := Lib.hid (HR.out.below hb)
   replace HSt := Lib.hid (HSt.out.below hb)
   clear hb HT
   by_cases heq : ln = s
   · have hte : (ln == s) = true := by rw [heq]; simp
     have hIs := HCan.out.1 heq
     have HOnly := Lib.hid (fun d' (hd' : IsStep s d') => HCan.out.2 d' hd')
     have HIs := Lib.hid hIs
     have HB6 := Lib.hid (OwnT.mk (w := W4) [.int .i64 kd, .slice A2 n0 c2, .slice B2 n1 b2, .slice D2 n2 e2] 101)
     have hal := (Below.refl W4.heap.size W4).alloc (Nat.le_refl _) (.cells #[.int .i64 kd, .slice A2 n0 c2, .slice B2 n1 b2, .slice D2 n2 e2] 101)
     replace HR := Lib.hid (HR.out.below hal)
     replace HSt := Lib.hid (HSt.out.below hal)
     clear heq hIs HCan HLn hal
     simp only [List.toArray] at HB6 HR HSt
     go_upto_region 21 with fail
     generalize hgt : World.alloc _ _ = W at HB6 HR HSt ⊢
     clear hgt
     generalize W4.heap.size = g6 at *
     have hone6 := HSt.out.one
     have HF := Lib.hid (show Fr w0 W [(g, [.slice A al.length a, .slice B sl.length b, .bool true, .int .i64 na, .int .i64 ns, .map (some bm)]), (g6, [.int .i64 kd, .slice A2 n0 c2, .slice B2 n1 b2, .slice D2 n2 e2])] from ⟨HR.out.bel, fun p hp => by
      simp only [List.mem_cons, List.not_mem_nil, or_false] at hp
      rcases hp with rfl | rfl
      · exact HR.out.blk.own
      · exact HB6.out.own⟩)
     replace HR := Lib.hid (HR.out.below (Below.drew (Below.refl _ _)))
     replace HB6 := Lib.hid (HB6.out.below (Below.drew (Below.refl _ _)))
     replace HSt := Lib.hid (HSt.out.below (Below.drew (Below.refl _ _)))
     have HF_ := Lib.hid HF.out.drew
     clear HF
     have HF := HF_
     clear HF_
     refine start_ (n := 14) (S := fun w' => w'.cell? ⟨g, 0, none⟩ = some (.slice A al.length a) ∧ w'.cell? ⟨g, 1, none⟩ = some (.slice B sl.length b) ∧ w'.cell? ⟨g, 2, none⟩ = some (.bool true) ∧ w'.cell? ⟨g, 3, none⟩ = some (.int .i64 na) ∧ w'.cell? ⟨g, 4, none⟩ = some (.int .i64 ns) ∧ w'.cell? ⟨g, 5, none⟩ = some (.map (some bm)) ∧ w'.cell? ⟨g6, 0, none⟩ = some (.int .i64 kd) ∧ w'.cell? ⟨g6, 1, none⟩ = some (.slice A2 n0 c2) ∧ w'.cell? ⟨g6, 2, none⟩ = some (.slice B2 n1 b2) ∧ w'.cell? ⟨g6, 3, none⟩ = some (.slice D2 n2 e2)) (ds := [9, 13]) #[false, false, false, false, false, false, false, false, false, false, false, false, false, false] (by kernel_rfl) rfl rfl ⟨HF.out.cellN 0 rfl 0 rfl, HF.out.cellN 0 rfl 1 rfl, HF.out.cellN 0 rfl 2 rfl, HF.out.cellN 0 rfl 3 rfl, HF.out.cellN 0 rfl 4 rfl, HF.out.cellN 0 rfl 5 rfl, HF.out.cellN 1 rfl 0 rfl, HF.out.cellN 1 rfl 1 rfl, HF.out.cellN 1 rfl 2 rfl, HF.out.cellN 1 rfl 3 rfl⟩ (fun hHeld => ?_)
     generalize World.drew _ = W at *
     refine pu_ (v := ?_) (a' := ?_) 0 (some 105) rfl rfl ?_ ?_ ?_
     rotate_left; · intro w'; go_simp; with_reducible rfl
     rotate_left
     · simp only [Act.put, sa_, sb_, sc_]
       rfl
     refine pu_ (v := ?_) (a' := ?_) 1 (some 106) rfl rfl ?_ ?_ ?_
     rotate_left; · intro w'; go_simp; with_reducible rfl
     rotate_left
     · simp only [Act.put, sa_, sb_, sc_]
       rfl
     refine pu_ (v := ?_) (a' := ?_) 2 (some 107) rfl rfl ?_ ?_ ?_
     rotate_left; · intro w'; go_simp; with_reducible rfl
     rotate_left
     · simp only [Act.put, sa_, sb_, sc_]
       rfl
     refine pu_ (v := ?_) (a' := ?_) 3 (some 108) rfl rfl ?_ ?_ ?_
     rotate_left; · intro w'; go_simp; with_reducible rfl
     rotate_left
     · simp only [Act.put, sa_, sb_, sc_]
       rfl
     refine pu_ (v := ?_) (a' := ?_) 4 (some 109) rfl rfl ?_ ?_ ?_
     rotate_left; · intro w'; go_simp; with_reducible rfl
     rotate_left
     · simp only [Act.put, sa_, sb_, sc_]
       rfl
     refine pu_ (v := ?_) (a' := ?_) 6 (some 111) rfl rfl ?_ ?_ ?_
     rotate_left; · intro w'; go_simp; with_reducible rfl
     rotate_left
     · simp only [Act.put, sa_, sb_, sc_]
       rfl
     refine tk_ (v := ?_) (a' := ?_) 5 (some 110) rfl rfl ?_ hHeld ?_ ?_
     rotate_left
     · rintro w' ⟨s0, s1, s2, s3, s4, s5, s6, s7, s8, s9⟩; go_simp; with_reducible rfl
     rotate_left
     · simp only [Act.put, sa_, sb_, sc_]
       rfl
     refine tk_ (v := ?_) (a' := ?_) 7 (some 112) rfl rfl ?_ hHeld ?_ ?_
     rotate_left
     · rintro w' ⟨s0, s1, s2, s3, s4, s5, s6, s7, s8, s9⟩; go_simp; with_reducible rfl
     rotate_left
     · simp only [Act.put, sa_, sb_, sc_]
       rfl
     refine on_ 8 (N := (some 113)) rfl rfl (fun K hK => ?_)
     refine value_ (v := ?_) (w1 := ?_) (by rfl) rfl ?_ ?_
     rotate_left
     rotate_left
     · go_simp
       first | rfl | (refine ⟨?_, ?_⟩ <;> rfl)
     have hal := (Below.refl (W).heap.size W).alloc (Nat.le_refl _) (.cells #[.int .i64 kd, .slice A2 n0 c2, .slice B2 n1 b2, .slice D2 n2 e2] 80)
     have HS := Lib.hid (OwnT.mk (w := W) [.int .i64 kd, .slice A2 n0 c2, .slice B2 n1 b2, .slice D2 n2 e2] 80)
     replace HF := Lib.hid (HF.out.below hal)
     replace HR := Lib.hid (HR.out.below hal)
     replace HB6 := Lib.hid (HB6.out.below hal)
     replace HSt := Lib.hid (HSt.out.below hal)
     clear hal
     refine hK.out _ _ ⟨HF.out.cellN 0 rfl 0 rfl, HF.out.cellN 0 rfl 1 rfl, HF.out.cellN 0 rfl 2 rfl, HF.out.cellN 0 rfl 3 rfl, HF.out.cellN 0 rfl 4 rfl, HF.out.cellN 0 rfl 5 rfl, HF.out.cellN 1 rfl 0 rfl, HF.out.cellN 1 rfl 1 rfl, HF.out.cellN 1 rfl 2 rfl, HF.out.cellN 1 rfl 3 rfl⟩ (fun hHeld => ?_)
     clear hK K
     refine norm_ (a' := ?_) ?_ ?_
     rotate_left
     · show Act.put _ (some 113) _ = _
       simp only [Act.put, sa_, sb_, sc_]
       rfl
     refine ls_ 9 (N := (some 114)) rfl rfl (fun K hK => ?_)
     obtain ⟨v_, W1, hpush, hO', hb', hku, hkt, hmp⟩ := OwY.pushM (P := Tryz.prog) (ty := 23) (x := d) Tryz.underlying23 info_Step4 rfl (fun y hy => by simp [Value.cells] at hy) HR.out.steps stO_nst neS_ HS.out.own HSt.out rfl hone6.2.1 hone6.2.2 (show sl.length + 1 ≤ 1099511627776 by omega) (by decide) HR.out.bel.size
     refine push_ (by rfl) rfl rfl rfl rfl hpush ?_
     clear hpush
     rw [show (Ps.mk true na ns al sl).sl ++ [d] = sl2 from HSl.out.symm] at hO'
     obtain ⟨B5, b5, rfl, h5⟩ := hO'.form
     have HK1 := Lib.hid (show OwnT _ g 145 [.slice A al.length a, .slice B sl.length b, .bool true, .int .i64 na, .int .i64 ns, .map (some bm)] from HR.out.blk.keep (hkt _ (by decide)))
     have HA1 := Lib.hid (show OwA _ w0.heap.size (.slice A al.length a) al from HR.out.atoms.keep atO_nst hku (fun ty ht => hkt ty (by rw [List.mem_singleton.1 ht]; decide)) (hkt _ (by decide)))
     have HM1 := Lib.hid (hmp _ _ _ _ _ HR.out.map)
     have HB1 := Lib.hid (HR.out.bel.trans hb')
     have HB61 := Lib.hid (HB6.out.keep (hkt 101 (by decide)))
     have HSt1 := Lib.hid (stO_nst _ _ _ _ HSt.out hku fun ty ht => hkt ty (by simp only [List.mem_cons, List.not_mem_nil, or_false] at ht; rcases ht with rfl | rfl <;> decide))
     have HO1 := Lib.hid hO'
     clear hO' hb' hku hkt hmp HR HF HB6 HSt HS h5
     refine hK.out _ _ ?_
     clear hK K
     refine norm_ (a' := ?_) ?_ ?_
     rotate_left
     · show Act.put _ (some 114) _ = _
       simp only [Act.put, sa_, sb_, sc_]
       rfl
     refine pu_ (v := ?_) (a' := ?_) 10 (some 115) rfl rfl ?_ ?_ ?_
     rotate_left; · intro w'; go_simp; with_reducible rfl
     rotate_left
     · simp only [Act.put, sa_, sb_, sc_]
       rfl
     refine pu_ (v := ?_) (a' := ?_) 11 (some 116) rfl rfl ?_ ?_ ?_
     rotate_left; · intro w'; go_simp; with_reducible rfl
     rotate_left
     · simp only [Act.put, sa_, sb_, sc_]
       rfl
     refine pu_ (v := ?_) (a' := ?_) 12 (some 117) rfl rfl ?_ ?_ ?_
     rotate_left; · intro w'; go_simp; with_reducible rfl
     rotate_left
     · simp only [Act.put, sa_, sb_, sc_]
       rfl
     refine ls_ 13 (N := none) rfl rfl (fun K hK => ?_)
     have hf := HK1.out.own.frozen 1
     have hd := HK1.out.own.cell 1 (by simp)
     refine skip_ (w1 := ?_) (by rfl) rfl ?_ ?_
     rotate_left
     · go_simp
       rfl
     refine hK.out _ _ ?_
     clear hK K
     refine done_ (by kernel_rfl) ?_
     have HR2 := Lib.hid (reader_set HK1.out (fun y hy => by simp at hy) HA1.out HO1.out HB1.out HM1.out hg0 1 (.slice B5 sl2.length b5) rfl)
     have HB62 := Lib.hid (HB61.out.keep (KeepT.set HK1.out (by decide) 1 (.slice B5 sl2.length b5)))
     have HSt2 := Lib.hid (stO_nst _ _ _ _ HSt1.out ((Oth.set (g := g) W1 1 (.slice B5 sl2.length b5)).keepU HK1.out (fun y hy => by simp at hy)) fun ty ht => KeepT.set HK1.out (by simp only [List.mem_cons, List.not_mem_nil, or_false] at ht; rcases ht with rfl | rfl <;> decide) 1 _)
     clear HK1 HO1 HA1 HB1 HM1 HB61 HSt1 hf hd hHeld
     generalize World.setCell _ _ _ = W at HR2 HB62 HSt2 ⊢
     have HF := Lib.hid (show Fr w0 W [(g, [.slice A al.length a, .slice B5 sl2.length b5, .bool true, .int .i64 na, .int .i64 ns, .map (some bm)]), (g6, [.int .i64 kd, .slice A2 n0 c2, .slice B2 n1 b2, .slice D2 n2 e2])] from ⟨HR2.out.bel, fun p hp => by
      simp only [List.mem_cons, List.not_mem_nil, or_false] at hp
      rcases hp with rfl | rfl
      · exact HR2.out.blk.own
      · exact HB62.out.own⟩)
     go_wp2_with fail
     replace HR2 := Lib.hid (HR2.out.below (Below.drew (Below.refl _ _)))
     replace HSt2 := Lib.hid (HSt2.out.below (Below.drew (Below.refl _ _)))
     have HF_ := Lib.hid HF.out.drew
     clear HF
     have HF := HF_
     clear HF_
     refine start_ (n := 15) (S := fun w' => w'.cell? ⟨g, 0, none⟩ = some (.slice A al.length a) ∧ w'.cell? ⟨g, 1, none⟩ = some (.slice B5 sl2.length b5) ∧ w'.cell? ⟨g, 2, none⟩ = some (.bool true) ∧ w'.cell? ⟨g, 3, none⟩ = some (.int .i64 na) ∧ w'.cell? ⟨g, 4, none⟩ = some (.int .i64 ns) ∧ w'.cell? ⟨g, 5, none⟩ = some (.map (some bm)) ∧ w'.cell? ⟨g6, 0, none⟩ = some (.int .i64 kd) ∧ w'.cell? ⟨g6, 1, none⟩ = some (.slice A2 n0 c2) ∧ w'.cell? ⟨g6, 2, none⟩ = some (.slice B2 n1 b2) ∧ w'.cell? ⟨g6, 3, none⟩ = some (.slice D2 n2 e2)) (ds := []) #[false, false, false, false, false, false, false, false, false, false, false, false, false, false, false] (by kernel_rfl) rfl rfl ⟨HF.out.cellN 0 rfl 0 rfl, HF.out.cellN 0 rfl 1 rfl, HF.out.cellN 0 rfl 2 rfl, HF.out.cellN 0 rfl 3 rfl, HF.out.cellN 0 rfl 4 rfl, HF.out.cellN 0 rfl 5 rfl, HF.out.cellN 1 rfl 0 rfl, HF.out.cellN 1 rfl 1 rfl, HF.out.cellN 1 rfl 2 rfl, HF.out.cellN 1 rfl 3 rfl⟩ (fun hHeld => ?_)
     generalize World.drew _ = W at *
     refine pu_ (v := ?_) (a' := ?_) 0 (some 118) rfl rfl ?_ ?_ ?_
     rotate_left; · intro w'; go_simp; with_reducible rfl
     rotate_left
     · simp only [Act.put, sa_, sb_, sc_]
       rfl
     refine pu_ (v := ?_) (a' := ?_) 2 (some 120) rfl rfl ?_ ?_ ?_
     rotate_left; · intro w'; go_simp; with_reducible rfl
     rotate_left
     · simp only [Act.put, sa_, sb_, sc_]
       rfl
     refine pu_ (v := ?_) (a' := ?_) 3 (some 121) rfl rfl ?_ ?_ ?_
     rotate_left; · intro w'; go_simp; with_reducible rfl
     rotate_left
     · simp only [Act.put, sa_, sb_, sc_]
       rfl
     refine pu_ (v := ?_) (a' := ?_) 4 (some 122) rfl rfl ?_ ?_ ?_
     rotate_left; · intro w'; go_simp; with_reducible rfl
     rotate_left
     · simp only [Act.put, sa_, sb_, sc_]
       rfl
     refine pu_ (v := ?_) (a' := ?_) 5 (some 123) rfl rfl ?_ ?_ ?_
     rotate_left; · intro w'; go_simp; with_reducible rfl
     rotate_left
     · simp only [Act.put, sa_, sb_, sc_]
       rfl
     refine pu_ (v := ?_) (a' := ?_) 9 (some 127) rfl rfl ?_ ?_ ?_
     rotate_left; · intro w'; go_simp; with_reducible rfl
     rotate_left
     · simp only [Act.put, sa_, sb_, sc_]
       rfl
     refine pu_ (v := ?_) (a' := ?_) 10 (some 128) rfl rfl ?_ ?_ ?_
     rotate_left; · intro w'; go_simp; with_reducible rfl
     rotate_left
     · simp only [Act.put, sa_, sb_, sc_]
       rfl
     refine pu_ (v := ?_) (a' := ?_) 11 (some 129) rfl rfl ?_ ?_ ?_
     rotate_left; · intro w'; go_simp; with_reducible rfl
     rotate_left
     · simp only [Act.put, sa_, sb_, sc_]
       rfl
     refine tk_ (v := ?_) (a' := ?_) 1 (some 119) rfl rfl ?_ hHeld ?_ ?_
     rotate_left
     · rintro w' ⟨s0, s1, s2, s3, s4, s5, s6, s7, s8, s9⟩; go_simp; with_reducible rfl
     rotate_left
     · simp only [Act.put, sa_, sb_, sc_]
       rfl
     refine tk_ (v := ?_) (a' := ?_) 6 (some 124) rfl rfl ?_ hHeld ?_ ?_
     rotate_left
     · rintro w' ⟨s0, s1, s2, s3, s4, s5, s6, s7, s8, s9⟩; go_simp; with_reducible rfl
     rotate_left
     · simp only [Act.put, sa_, sb_, sc_]
       rfl
     refine pu_ (v := ?_) (a' := ?_) 7 (some 125) rfl rfl ?_ ?_ ?_
     rotate_left; · intro w'; go_simp; with_reducible rfl
     rotate_left
     · simp only [Act.put, sa_, sb_, sc_]
       rfl
     refine pu_ (v := ?_) (a' := ?_) 8 (some 126) rfl rfl ?_ ?_ ?_
     rotate_left; · intro w'; go_simp; with_reducible rfl
     rotate_left
     · simp only [Act.put, sa_, sb_, sc_]
       rfl
     refine tk_ (v := ?_) (a' := ?_) 12 (some 130) rfl rfl ?_ hHeld ?_ ?_
     rotate_left
     · rintro w' ⟨s0, s1, s2, s3, s4, s5, s6, s7, s8, s9⟩; go_simp; with_reducible rfl
     rotate_left
     · simp only [Act.put, sa_, sb_, sc_]
       rfl
     refine on_ 13 (N := (some 131)) rfl rfl (fun K hK => ?_)
     refine goes_ Tryz.func109 (by kernel_rfl) rfl #[.agg #[.int .i64 kd, .slice A2 n0 c2, .slice B2 n1 b2, .slice D2 n2 e2], .int .i64 (IntKind.i64.wrap ((sl2.length : Int) - 1)), .int .i64 na] (by rfl) rfl rfl (by (try simp only [List.map_toArray, List.map_cons, List.map_nil]); first | done | rfl) ?_
     refine (HMay.out W HSt2.out).mono ?_
     rintro e W1 ⟨rfl, hb9⟩
     refine ⟨_, rfl, ?_⟩
     have HR3 := Lib.hid (HR2.out.below hb9)
     replace HF := Lib.hid (HF.out.below hb9)
     clear hb9 HR2 HSt2
     refine hK.out _ _ ⟨HF.out.cellN 0 rfl 0 rfl, HF.out.cellN 0 rfl 1 rfl, HF.out.cellN 0 rfl 2 rfl, HF.out.cellN 0 rfl 3 rfl, HF.out.cellN 0 rfl 4 rfl, HF.out.cellN 0 rfl 5 rfl, HF.out.cellN 1 rfl 0 rfl, HF.out.cellN 1 rfl 1 rfl, HF.out.cellN 1 rfl 2 rfl, HF.out.cellN 1 rfl 3 rfl⟩ (fun hHeld => ?_)
     clear hK K
     refine norm_ (a' := ?_) ?_ ?_
     rotate_left
     · show Act.put _ (some 131) _ = _
       simp only [Act.put, sa_, sb_, sc_]
       rfl
     refine pu_ (v := ?_) (a' := ?_) 14 (some 4) rfl rfl ?_ ?_ ?_
     rotate_left; · intro w'; go_simp; with_reducible rfl
     rotate_left
     · simp only [Act.put, sa_, sb_, sc_]
       rfl
     refine done_ (by kernel_rfl) ?_
     have HE := Lib.hid (show ToldTk w0 g bm ⟨true, na, ns, al, sl⟩ s (.returned (.bool mb)) W1 from by
      cases hmb : mb with
      | true => exact .inl ⟨⟨true, na, ns, al, sl2⟩, rfl, by
       have h := HYes.out d HIs.out (HMb.out.trans hmb)
       rw [HSl.out]
       exact h, _, _, _, _, HR3.out, hn, HD.out⟩
      | false => exact HX.out W1 HR3.out.bel (fun d' hd' ho => by
       rw [← HOnly.out d' hd', HMb.out, hmb] at ho
       cases ho))
     clear HR3 HX HYes HD HOnly HIs HMay HF HSl HSll HMb HB62
     go_wp2
     go_ret
     exact HE.out
   · have hte : (ln == s) = false := by simpa using heq
     have HE := Lib.hid (HX.out W4 HR.out.bel (fun d' hd' _ => absurd (HLn.out.trans (by rw [HCan.out.2 d' hd']; exact hd'.2)) heq))
     clear heq HR HX HYes HD HCan HLn HSt HMay
     go_wp2
     go_ret
     exact HE.out
 · have HE := Lib.hid (HX.out W3 (HR.out.bel.trans (hb.mono HR.out.bel.size)) (fun d hd _ => absurd hd (hno d)))
   clear hb hno HR HX HYes hR HD HL HPt
   go_wp2
   go_ret
   exact HE.out
structure LnOk (t : Ps) (s : List UInt8) : Prop where
 len : s.length ≤ 67108864
 head : t.beg = false → s.length ≤ 1048576
 atom : t.beg = true → (t.al.length : Int) < t.na → BigA s
 step : t.beg = true → ¬ (t.al.length : Int) < t.na → BigS s
theorem LnOk.small {t : Ps} {s : List UInt8} (h : s.length ≤ 1048576) : LnOk t s := ⟨by omega, fun _ => h, fun _ _ => .inl h, fun _ _ => .inl h⟩
theorem rd_takeLine (w0 : World) (hL : Laid w0) (hP : PowTab w0) (g bm : Nat) (hg0 : w0.heap.size ≤ g) (hbm : w0.heap.size ≤ bm) (t : Ps) (hf : Fine t) (hsl : t.sl.length ≤ 67108864) (s : List UInt8) (hs : LnOk t s) (w : World) (hr : RdIn w0 w g bm t) :
 Calls Tryz.prog 93 #[.pointer (some ⟨g, 0, none⟩), .string ⟨s.toArray⟩] w (ToldTk w0 g bm t s) := by
 obtain ⟨va, vs, n, D, h1, h2, h3⟩ := hr
 by_cases hb : t.beg = true
 · by_cases ha : (t.al.length : Int) < t.na
   · exact take_atom w0 hL g bm hg0 hbm t hf hb ha s hs.len (hs.atom hb ha) w va vs n D h1 h2 h3
   · by_cases hc : (t.sl.length : Int) < t.ns
     · exact take_step w0 hL hP g bm hg0 t hf hb ha hc hsl s hs.len (hs.step hb ha) w va vs n D h1 h2 h3
     · exact take_none w0 g bm t hb ha hc s w va vs n D h1
 · exact take_head w0 hL hP g bm hg0 t hf (by simpa using hb) s (hs.head (by simpa using hb)) w va vs n D h1 h2 h3
open Go.ChangeShapes Go.WideShapes Go.ChangeAt
theorem results_cell_row3p {P : Program} {fn : Func} {p u x : Tmp} {ty : TypeId} (h : fn.results = #[.cell p ty, .tmp u, .tmp x]) (tmps : Array Value) (w : World) (g : Nat) (t : TypeId) (cs : Array Value) (fr : Nat × Nat) (d : TypeDesc)
 (hp : tmps.getD p undef = .pointer (some ⟨g, 0, none⟩)) (hg : w.heap[g]? = some (.cells cs t fr))
 (hu : P.underlying ty = some d) (hd : (match d with | .struct _ | .array _ _ => true | _ => false) = true) (hi : (P.info? ty).map (·.size) = some cs.size) :
 (results fn tmps).run P w = .ok (.tuple #[.agg cs, tmps.getD u undef, tmps.getD x undef]) w := by
 have hp' : tmps[p]?.getD undef = .pointer (some ⟨g, 0, none⟩) := by simpa using hp
 simp [results, h, hp', asAddr, run_loadVar_row w g t ty cs fr d hg hu hd hi]
theorem post_own3p {P : Program} {fn : Func} {R : Ending → World → Prop} {a : Act} {w : World} {p u x : Tmp} {ty : TypeId} {g : Nat} {vs : List Value} {d : TypeDesc} (ho : Own w g vs) (h : fn.results = #[.cell p ty, .tmp u, .tmp x]) (h0 : a.defers = [])
 (hp : a.tmps.getD p undef = .pointer (some ⟨g, 0, none⟩)) (hu : P.underlying ty = some d) (hd : (match d with | .struct _ | .array _ _ => true | _ => false) = true) (hi : (P.info? ty).map (·.size) = some vs.length)
 (hR : R (.returned (.tuple #[.agg vs.toArray, a.tmps.getD u undef, a.tmps.getD x undef])) w) : bodyPost P fn R .ret a w := by
 obtain ⟨t, ho⟩ := ho
 exact bodyPost_ret (results_cell_row3p h _ _ g t vs.toArray (0, 0) d hp ho hu hd (by simpa using hi)) h0 hR
theorem lines_len {t : Ps} {ls : List (List UInt8)} (hf : Fine t) (h : runP Ps.init 0 ls = .inl t) : t.sl.length ≤ ls.length := by
 have e := run_lns ls Fine.init h
 unfold lnsP at e
 rw [if_neg (show ¬ Ps.init.beg = true from by decide), List.nil_append] at e
 by_cases hb : t.beg = true
 · rw [if_pos hb] at e
   have := congrArg List.length e
   simp only [List.length_cons, List.length_append, List.length_map] at this
   omega
 · rw [hf.none (by simpa using hb)]
   exact Nat.zero_le _
theorem parseV_stop {s : List UInt8} {t : Ps} {i : Nat} (hi : i < (segsC 10 s).dropLast.length) (h : runP Ps.init 0 ((segsC 10 s).dropLast.take i) = .inl t) (hn : ∀ u, ¬ NextOk t (segsC 10 s).dropLast[i] u) : parseV s = .inr (i + 1) := by
 unfold parseV
 rw [runP_stop hi h (nxt_none hn)]
theorem parseV_end {s : List UInt8} {t : Ps} (h : runP Ps.init 0 (segsC 10 s).dropLast = .inl t) : parseV s = if (segsC 10 s).getLast (segsC_ne 10 s) ≠ [] ∨ t.beg = false ∨ (t.al.length : Int) < t.na ∨ (t.sl.length : Int) < t.ns then .inr (segsC 10 s).length else .inl (t.al, t.sl) := by
 unfold parseV
 rw [h]
def ToldPp (w : World) (s : List UInt8) (e : Ending) (w' : World) : Prop :=
 (∃ r A a B b, parseV s = .inl r ∧ e = .returned (.tuple #[.agg #[.slice A r.1.length a, .slice B r.2.length b], .int .i64 0, .int .i64 0]) ∧ OwA w' 0 (.slice A r.1.length a) r.1 ∧ OwS w' 0 (.slice B r.2.length b) r.2 ∧ Below w.heap.size w w') ∨
 (∃ k : Nat, parseV s = .inr k ∧ 1 ≤ k ∧ e = .returned (.tuple #[.agg #[.slice none 0 0, .slice none 0 0], .int .i64 241, .int .i64 k]) ∧ Below w.heap.size w w')
def LnsOk (s : List UInt8) : Prop := ∀ (i : Nat) (h : i < (segsC 10 s).dropLast.length) (t : Ps), runP Ps.init 0 ((segsC 10 s).dropLast.take i) = .inl t → LnOk t (segsC 10 s).dropLast[i]
theorem lnsOk_small {s : List UInt8} (h : s.length ≤ 1048576) : LnsOk s := fun i hi t _ => LnOk.small (by
 have := (segs_few 10 s).2 _ ((List.dropLast_sublist _).subset (List.getElem_mem hi))
 omega)
theorem parse_bad {w W : World} {s : List UInt8} {gr k : Nat} (hgr : w.heap.size = gr) (ho : OwnT W gr 25 [.slice none 0 0, .slice none 0 0]) (hb : Below w.heap.size w W) (h : parseV s = .inr k) (hk : 1 ≤ k) {x : Int} (hx : x = k) :
 OwnT ((W.setCell ⟨gr, 0, none⟩ (.slice none 0 0)).setCell ⟨gr, 1, none⟩ (.slice none 0 0)) gr 25 [.slice none 0 0, .slice none 0 0] ∧ ToldPp w s (.returned (.tuple #[.agg #[.slice none 0 0, .slice none 0 0], .int .i64 241, .int .i64 x])) ((W.setCell ⟨gr, 0, none⟩ (.slice none 0 0)).setCell ⟨gr, 1, none⟩ (.slice none 0 0)) := by
 subst hgr hx
 exact ⟨(ho.set 0 (.slice none 0 0)).set 1 (.slice none 0 0), .inr ⟨k, h, hk, rfl, (hb.setCell (Nat.le_refl _) _).setCell (Nat.le_refl _) _⟩⟩
theorem parse_fin {w W : World} {s : List UInt8} {gr : Nat} {al : List AtomD} {sl : List StepD} {A : Option Addr} {a : Nat} {B : Option Addr} {b : Nat} (hgr : w.heap.size = gr) (ho : OwnT W gr 25 [.slice none 0 0, .slice none 0 0]) (hb : Below w.heap.size w W) (h : parseV s = .inl (al, sl)) (ha : OwA W 0 (.slice A al.length a) al) (hs : OwS W 0 (.slice B sl.length b) sl) :
 OwnT ((W.setCell ⟨gr, 0, none⟩ (.slice A al.length a)).setCell ⟨gr, 1, none⟩ (.slice B sl.length b)) gr 25 [.slice A al.length a, .slice B sl.length b] ∧ ToldPp w s (.returned (.tuple #[.agg #[.slice A al.length a, .slice B sl.length b], .int .i64 0, .int .i64 0])) ((W.setCell ⟨gr, 0, none⟩ (.slice A al.length a)).setCell ⟨gr, 1, none⟩ (.slice B sl.length b)) := by
 subst hgr
 have ho1 := ho.set 0 (.slice A al.length a)
 have u1 : KeepU W (W.setCell ⟨w.heap.size, 0, none⟩ (.slice A al.length a)) := (Oth.set W 0 _).keepU ho (fun y hy => by simp at hy)
 have u2 : KeepU (W.setCell ⟨w.heap.size, 0, none⟩ (.slice A al.length a)) ((W.setCell ⟨w.heap.size, 0, none⟩ (.slice A al.length a)).setCell ⟨w.heap.size, 1, none⟩ (.slice B sl.length b)) := (Oth.set _ 1 _).keepU ho1 (fun y hy => by simp at hy)
 have kt : ∀ ty, ty ≠ 25 → KeepT ty W ((W.setCell ⟨w.heap.size, 0, none⟩ (.slice A al.length a)).setCell ⟨w.heap.size, 1, none⟩ (.slice B sl.length b)) := fun ty hn => (KeepT.set ho hn 0 _).trans (KeepT.set ho1 hn 1 _)
 refine ⟨ho1.set 1 (.slice B sl.length b), .inl ⟨(al, sl), A, a, B, b, h, rfl, ?_, ?_, (hb.setCell (Nat.le_refl _) _).setCell (Nat.le_refl _) _⟩⟩
 · exact ha.keep atO_nst (u1.trans u2) (fun ty ht => kt ty (by rw [List.mem_singleton.1 ht]; decide)) (kt _ (by decide))
 · exact hs.keep stO_nst (u1.trans u2) (fun ty ht => kt ty (by simp only [List.mem_cons, List.not_mem_nil, or_false] at ht; rcases ht with rfl | rfl <;> decide)) (kt _ (by decide))
set_option maxHeartbeats 4000000 in
set_option maxRecDepth 100000 in
theorem proof_Parse (s : List UInt8) (w : World) (hs : s.length ≤ 67108864) (hln : LnsOk s) (hL : Laid w) (hP : PowTab w) :
 Calls Tryz.prog 36 #[.string ⟨s.toArray⟩] w (ToldPp w s) := by
 have HL := Lib.hid hL
 have HPt := Lib.hid hP
 have HSp := Lib.hid (fun (W : World) (k : Laid W) => split_l s 10 W (by omega) k)
 obtain ⟨hfew, hlen⟩ := segs_few 10 s
 have HLen := Lib.hid hlen
 obtain ⟨k, hk⟩ : ∃ k, (segsC 10 s).length = k + 1 := ⟨(segsC 10 s).length - 1, by have := List.length_pos_iff.2 (segsC_ne 10 s); omega⟩
 have hdl : (segsC 10 s).dropLast.length = k := by rw [List.length_dropLast, hk]; rfl
 have HDl := Lib.hid (fun (i : Nat) (hi : i < k) => show ∃ (h : i < (segsC 10 s).length) (h' : i < (segsC 10 s).dropLast.length), (segsC 10 s)[i] = (segsC 10 s).dropLast[i] from ⟨by omega, by omega, by rw [List.getElem_dropLast]⟩)
 have hlast : (segsC 10 s)[k]'(by omega) = (segsC 10 s).getLast (segsC_ne 10 s) := by rw [List.getLast_eq_getElem]; congr 1; omega
 have HStop := Lib.hid (fun (t : Ps) (i : Nat) => @parseV_stop s t i)
 have HEnd := Lib.hid (fun (t : Ps) => @parseV_end s t)
 have HLn := Lib.hid (show ∀ (i : Nat) (h : i < (segsC 10 s).dropLast.length) (t : Ps), runP Ps.init 0 ((segsC 10 s).dropLast.take i) = .inl t → LnOk t (segsC 10 s).dropLast[i] from hln)
 clear hln
 rw [hk] at HEnd
 generalize hlst : (segsC 10 s).getLast (segsC_ne 10 s) = lst at *
 generalize hls : (segsC 10 s).dropLast = ls at *
 have hcs : ∀ (W : World) (g : Nat), (∀ i (h : i < (segsC 10 s).length), W.cell? ⟨g, i, none⟩ = some (.string ⟨((segsC 10 s)[i]).toArray⟩)) → (∀ i (h : i < ls.length), W.cell? ⟨g, i, none⟩ = some (.string ⟨(ls[i]).toArray⟩)) ∧ W.cell? ⟨g, k, none⟩ = some (.string ⟨lst.toArray⟩) := fun W g h => by
  refine ⟨fun i hi => ?_, ?_⟩
  · obtain ⟨h1, h2, h3⟩ := HDl.out i (by omega)
    rw [h i h1, h3]
  · rw [h k (by omega), hlast]
 have HCs := Lib.hid hcs
 rw [hk] at hfew
 clear hL hP hlen HLen HDl hlast hlst hls hcs
 have hq : (⟨lst.toArray⟩ : ByteArray).toList = lst := ByteArray.toList_mk lst
 generalize (⟨s.toArray⟩ : ByteArray) = SB at *
 have HF0 := Lib.hid (OwnT.mk (w := w) [.slice none 0 0, .slice none 0 0] 25)
 have hal0 := (Below.refl w.heap.size w).alloc (Nat.le_refl _) (.cells #[.slice none 0 0, .slice none 0 0] 25)
 have HB0 := Lib.hid hal0
 replace HL := Lib.hid (HL.out.below hal0)
 replace HPt := Lib.hid (HPt.out.below hal0)
 simp only [List.toArray] at HF0
 have hmm := @run_makeMap Tryz.prog
 clear hal0
 go_enter Tryz.func36, Tryz.ntmps36
 go_upto_region 1 with fail
 generalize hgt : World.alloc _ _ = W0 at HF0 HB0 HL HPt ⊢
 clear hgt
 go_wp2_with fail
 refine (HSp.out W0 HL.out).mono ?_
 rintro e W1 ⟨g1, rfl, hb, hc⟩
 obtain ⟨hc1, hc2⟩ := HCs.out W1 g1 (fun i h => hc i h)
 rw [hk]
 have HC := Lib.hid hc1
 have HF1 := Lib.hid (HF0.out.below hb)
 have HB1 := Lib.hid (HB0.out.trans (hb.mono HB0.out.size))
 replace HL := Lib.hid (HL.out.below hb)
 replace HPt := Lib.hid (HPt.out.below hb)
 clear hb hc hc1 HF0 HB0 HCs HSp
 have hw1 : w.heap.size < W1.heap.size := HF1.out.lt
 generalize hgr : w.heap.size = gr at *
 have HO1 := Lib.hid (World.ownsMap_made (H := Unit) W1 Tryz.prog 9 (plainElem Tryz.prog 3))
 have hm1 := (Below.refl W1.heap.size W1).alloc (Nat.le_refl _) (.map #[] 0)
 have hsz : (W1.alloc (.map #[] 0)).heap.size = W1.heap.size + 1 := by show (W1.heap.push _).size = _; simp
 have hal := (Below.refl (W1.alloc (.map #[] 0)).heap.size (W1.alloc (.map #[] 0))).alloc (Nat.le_refl _) (.cells #[.slice none 0 0, .slice none 0 0, .bool false, .int .i64 0, .int .i64 0, .map (some W1.heap.size)] 145)
 have HRd := Lib.hid (show RdIn W1 ((W1.alloc (.map #[] 0)).alloc (.cells #[.slice none 0 0, .slice none 0 0, .bool false, .int .i64 0, .int .i64 0, .map (some W1.heap.size)] 145)) (W1.alloc (.map #[] 0)).heap.size W1.heap.size Ps.init from
  ⟨.slice none 0 0, .slice none 0 0, 0, .map [], ⟨OwnT.mk _ _, OwY.nil _ _ _ _ _, OwY.nil _ _ _ _ _, hm1.trans (hal.mono hm1.size), HO1.out.alloc _⟩, Nat.le_refl _, SeenM.nil⟩)
 rw [hsz] at HRd
 clear hm1 hal HO1
 have HF2 := Lib.hid (fun (W : World) (hb : Below W1.heap.size W1 W) => HF1.out.below hb)
 have HB2 := Lib.hid (fun (W : World) (hb : Below W1.heap.size W1 W) => HB1.out.trans (hb.mono (by have := HB1.out.size; omega)))
 clear HF1 HB1
 obtain ⟨g, hg⟩ : ∃ g, g = W1.heap.size + 1 := ⟨_, rfl⟩
 rw [← hg] at HRd
 have hg0 : W1.heap.size ≤ g := by omega
 simp only [List.toArray] at HRd
 go_upto_region 5 with fail
 rw [← hg]
 clear hsz hg
 generalize World.alloc _ _ = W3 at HRd ⊢
 obtain ⟨bm, hbm⟩ : ∃ b, b = W1.heap.size := ⟨_, rfl⟩
 rw [← hbm] at HRd
 have hbm0 : W1.heap.size ≤ bm := by omega
 clear hbm
 have hkb : k ≤ 67108864 := by omega
 clear hq hw1 hmm hc2 hfew
 go_wp2_with fail
 go_loopg [28] k (fun gg s28 wr => ∃ (i : Nat) (t : Ps), i + gg = k ∧ s28 = .int .i64 i ∧ Hid (runP Ps.init 0 (ls.take i) = .inl t) ∧ Hid (Fine t) ∧ Hid (RdIn W1 wr g bm t))
 case atStart => exact ⟨0, Ps.init, by omega, rfl, (show Hid _ from rfl), Fine.init, HRd.out⟩
 case round =>
  clear HRd
  obtain ⟨i, t, hgk, rfl, HT, HFi, HR⟩ := hrel
  have hbw : Below W1.heap.size W1 wr := by obtain ⟨_, _, _, _, h, _⟩ := HR.out; exact h.bel
  have HBw := Lib.hid hbw
  clear hbw
  by_cases hlt : i < k
  · have hltz : (i : Int) < (k : Int) := by omega
    have hlti : i < ls.length := by omega
    have hci := cell_below HBw.out (HC.out i hlti)
    have hlen := HLn.out i hlti t HT.out
    have hsl : t.sl.length ≤ 67108864 := by
     have := lines_len HFi.out HT.out
     rw [List.length_take] at this
     omega
    have HTk := Lib.hid (rd_takeLine W1 HL.out HPt.out g bm hg0 hbm0 t HFi.out hsl ls[i] hlen wr HR.out)
    have HNx := Lib.hid (fun u (h : NextOk t ls[i] u) => show runP Ps.init 0 (ls.take (i + 1)) = .inl u ∧ Fine u from ⟨runP_next hlti HT.out (nxt_some h), next_fine HFi.out h⟩)
    have HSt := Lib.hid (fun (h : ∀ u, ¬ NextOk t ls[i] u) => HStop.out t i hlti HT.out h)
    clear HT HFi HR
    generalize ls[i] = x at *
    go_wp2_with fail
    refine HTk.out.mono ?_
    rintro e W5 (⟨u, rfl, hn, hr⟩ | ⟨rfl, hn, hb⟩)
    · obtain ⟨hT2, hF2⟩ := HNx.out u hn
      have HT2 := Lib.hid hT2
      have HFi2 := Lib.hid hF2
      have HR2 := Lib.hid hr
      clear hn hr hT2 hF2 HTk HNx HSt
      go_wp2
      go_roundg (k - (i + 1))
      case measure => omega
      case rel => exact ⟨i + 1, u, by omega, by go_num, HT2, HFi2, HR2⟩
    · have hpv := HSt.out hn
      have HF := Lib.hid (HF2.out W5 hb)
      have HB := Lib.hid (HB2.out W5 hb)
      have d0 := HF.out.own.cell 0 (by simp)
      have d1 := HF.out.own.cell 1 (by simp)
      simp only [List.getElem_cons_succ, List.getElem_cons_zero] at d0 d1
      have f0 := HF.out.own.frozen 0
      have f1 := HF.out.own.frozen 1
      have HO := Lib.hid ((HF.out.set 0 (.slice none 0 0)).set 1 (.slice none 0 0))
      have HBf := Lib.hid (show Below w.heap.size w ((W5.setCell ⟨gr, 0, none⟩ (.slice none 0 0)).setCell ⟨gr, 1, none⟩ (.slice none 0 0)) from by
       have := HB.out
       rw [← hgr] at this ⊢
       exact (this.setCell (Nat.le_refl _) _).setCell (Nat.le_refl _) _)
      have HV := Lib.hid hpv
      clear hpv hb hn HTk HNx HSt HF HB HF2 HB2 hgr
      go_wp2
      exact post_own3p HO.out.own rfl rfl rfl Tryz.underlying25 rfl (by kernel_rfl) (.inr ⟨i + 1, HV.out, by omega, by go_num, HBf.out⟩)
  · have hik : i = k := by omega
    have hT := HT.out
    rw [hik, List.take_of_length_le (by omega)] at hT
    have hpv := HEnd.out t hT
    obtain ⟨va, vs, n, D, hr, _, _⟩ := HR.out
    obtain ⟨A, a, B, b, rfl, rfl⟩ := hr.forms
    have HG := Lib.hid hr
    have hltz : ¬ (i : Int) < (k : Int) := by omega
    have HF := Lib.hid (HF2.out wr HBw.out)
    have HB := Lib.hid (HB2.out wr HBw.out)
    have x0 := hr.blk.own.cell 0 (by simp)
    have x1 := hr.blk.own.cell 1 (by simp)
    have x2 := hr.blk.own.cell 2 (by simp)
    have x3 := hr.blk.own.cell 3 (by simp)
    have x4 := hr.blk.own.cell 4 (by simp)
    simp only [List.getElem_cons_succ, List.getElem_cons_zero] at x0 x1 x2 x3 x4
    obtain ⟨beg, na, ns, al, sl⟩ := t
    dsimp only at hpv x0 x1 x2 x3 x4 HG
    have HBad := Lib.hid (fun (W : World) (hb : Below wr.heap.size wr W) (h : parseV s = .inr (k + 1)) => show OwnT W gr 25 [.slice none 0 0, .slice none 0 0] ∧ _ from
     have hB : Below w.heap.size w W := by
      have := HB.out
      rw [← hgr] at this
      exact this.trans (hb.mono this.size)
     ⟨HF.out.below hb, parse_bad hgr (HF.out.below hb) hB h (by omega) (x := (k : Int) + 1) (by omega)⟩)
    have HGood := Lib.hid (fun (W : World) (hb : Below wr.heap.size wr W) (h : parseV s = .inl (al, sl)) => show OwnT W gr 25 [.slice none 0 0, .slice none 0 0] ∧ (W.cell? ⟨g, 0, none⟩ = some (.slice A al.length a) ∧ W.cell? ⟨g, 1, none⟩ = some (.slice B sl.length b)) ∧ _ from
     have hB : Below w.heap.size w W := by
      have := HB.out
      rw [← hgr] at this
      exact this.trans (hb.mono this.size)
     ⟨HF.out.below hb, ⟨cell_below hb x0, cell_below hb x1⟩, parse_fin hgr (HF.out.below hb) hB h (OwY.mono (HG.out.atoms.below atO_nst hb) (Nat.zero_le _)) (OwY.mono (HG.out.steps.below stO_nst hb) (Nat.zero_le _))⟩)
    have HPv := Lib.hid hpv
    have HgE := Lib.hid hgr
    clear hr hT HT HFi HR HG HF HB HF2 HB2 HEnd HStop HBw HLn HC HL HPt hik hgk hgr hpv hk hdl
    by_cases hl0 : lst = []
    · have hle : lst.isEmpty = true := by rw [hl0]; rfl
      cases beg with
      | false =>
       clear hl0
       go_wp2_with fail
       go_quiet (fail)
       have HE := Lib.hid (HBad.out _ (below_drewN (Below.refl wr.heap.size wr) nq) (HPv.out.trans (if_pos (.inr (.inl (by first | trivial | rfl))))))
       have f0 := HE.out.1.own.frozen 0
       have f1 := HE.out.1.own.frozen 1
       have d0 := HE.out.1.own.cell 0 (by simp)
       have d1 := HE.out.1.own.cell 1 (by simp)
       simp only [List.getElem_cons_succ, List.getElem_cons_zero] at d0 d1
       have HO := Lib.hid (HE.out.2)
       clear HE HBad HGood HPv HgE
       go_wp2
       exact post_own3p HO.out.1.own rfl rfl rfl Tryz.underlying25 rfl (by kernel_rfl) HO.out.2
      | true =>
       by_cases ha : (al.length : Int) < na
       · clear hl0
         go_wp2_with fail
         go_quiet (fail)
         have HE := Lib.hid (HBad.out _ (below_drewN (Below.refl wr.heap.size wr) nq) (HPv.out.trans (if_pos (.inr (.inr (.inl ha))))))
         have f0 := HE.out.1.own.frozen 0
         have f1 := HE.out.1.own.frozen 1
         have d0 := HE.out.1.own.cell 0 (by simp)
         have d1 := HE.out.1.own.cell 1 (by simp)
         simp only [List.getElem_cons_succ, List.getElem_cons_zero] at d0 d1
         have HO := Lib.hid (HE.out.2)
         clear HE HBad HGood HPv HgE
         go_wp2
         exact post_own3p HO.out.1.own rfl rfl rfl Tryz.underlying25 rfl (by kernel_rfl) HO.out.2
       · by_cases hb : (sl.length : Int) < ns
         · clear hl0
           go_wp2_with fail
           go_quiet (fail)
           have HE := Lib.hid (HBad.out _ (below_drewN (Below.refl wr.heap.size wr) nq) (HPv.out.trans (if_pos (.inr (.inr (.inr hb))))))
           have f0 := HE.out.1.own.frozen 0
           have f1 := HE.out.1.own.frozen 1
           have d0 := HE.out.1.own.cell 0 (by simp)
           have d1 := HE.out.1.own.cell 1 (by simp)
           simp only [List.getElem_cons_succ, List.getElem_cons_zero] at d0 d1
           have HO := Lib.hid (HE.out.2)
           clear HE HBad HGood HPv HgE
           go_wp2
           exact post_own3p HO.out.1.own rfl rfl rfl Tryz.underlying25 rfl (by kernel_rfl) HO.out.2
         · have HV := Lib.hid (HPv.out.trans (if_neg (by rintro (h | h | h | h); exact h hl0; cases h; exact ha h; exact hb h)))
           clear hl0
           go_wp2_with fail
           go_quiet (fail)
           have HE := Lib.hid (HGood.out _ (below_drewN (Below.refl wr.heap.size wr) nq) HV.out)
           have f0 := HE.out.1.own.frozen 0
           have f1 := HE.out.1.own.frozen 1
           have d0 := HE.out.1.own.cell 0 (by simp)
           have d1 := HE.out.1.own.cell 1 (by simp)
           simp only [List.getElem_cons_succ, List.getElem_cons_zero] at d0 d1
           obtain ⟨y0, y1⟩ := HE.out.2.1
           have HO := Lib.hid (HE.out.2.2)
           clear HE HBad HGood HPv HgE HV
           go_wp2
           exact post_own3p HO.out.1.own rfl rfl rfl Tryz.underlying25 rfl (by kernel_rfl) HO.out.2
    · have hle : lst.isEmpty = false := by simpa using hl0
      go_wp2_with fail
      go_quiet (fail)
      have HE := Lib.hid (HBad.out _ (below_drewN (Below.refl wr.heap.size wr) nq) (HPv.out.trans (if_pos (.inl hl0))))
      have f0 := HE.out.1.own.frozen 0
      have f1 := HE.out.1.own.frozen 1
      have d0 := HE.out.1.own.cell 0 (by simp)
      have d1 := HE.out.1.own.cell 1 (by simp)
      simp only [List.getElem_cons_succ, List.getElem_cons_zero] at d0 d1
      have HO := Lib.hid (HE.out.2)
      clear HE HBad HGood HPv HgE
      go_wp2
      exact post_own3p HO.out.1.own rfl rfl rfl Tryz.underlying25 rfl (by kernel_rfl) HO.out.2
end Go.Proofs.YtidgpkccjcddgaaGreatDoor.F
