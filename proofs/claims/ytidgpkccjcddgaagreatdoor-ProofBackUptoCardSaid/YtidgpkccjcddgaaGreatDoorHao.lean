/- The law ProofBack. Condition: refutations of weight at most 1048576; the tables lie as laid. -/
import Derived.Test.YtidgpkccjcddgaaGreatDoorHan
import Derived.Test.YtidgpkccjcddgaaGreatDoorHal
set_option linter.unusedVariables false
set_option linter.unusedSimpArgs false
namespace Go.Proofs.YtidgpkccjcddgaaGreatDoor.F
open Go.RowKit Go.Shelf Go.Proofs.YtidgpkccjcddgaaGreatDoorW.PrintLast
theorem vld_inv {r : RefD} (h : vldE r = 0) : TabOk r.1 ∧ ∀ j, j < r.2.length → mayAt r j = true := by
 by_cases ht : TabOk r.1
 · refine ⟨ht, fun j hj => ?_⟩
   cases hb : badN r with
   | some i => rw [(vld_bad ht hb).2] at h; cases h
   | none =>
    unfold badN at hb
    rw [List.find?_eq_none] at hb
    have := hb j (List.mem_range.2 hj)
    simpa using this
 · rw [(vld_tab ht).2] at h; cases h
theorem wts_can {d : StepD} (h : GoodS d) : wts (canSt d) ≤ 2 * wts d := by
 have h1 := wt_map h.good
 have h2 := wt_len d.2
 unfold wts
 show d.1.1.2.length + d.1.2.length + ((d.2.map fun q => canD (rq q)).map wt).sum + 5 ≤ _
 omega
theorem wts_map : ∀ {l : List StepD}, (∀ d ∈ l, GoodS d) → ((l.map canSt).map wts).sum ≤ 2 * (l.map wts).sum
 | [], _ => Nat.le_refl _
 | x :: l, h => by
  have h1 := wts_can (h x (by simp))
  have h2 := wts_map fun y hy => h y (List.mem_cons_of_mem x hy)
  simp only [List.map_cons, List.sum_cons]
  omega
theorem Vld.refIn {r : RefD} (h : Vld r) {w : World} {A : Option Addr} {a : Nat} {B : Option Addr} {b : Nat} (hA : kAtom.Row w A r.1) (hc : r.1.length ≤ a) (hS : OwS w 0 (.slice B r.2.length b) (r.2.map canSt)) : RefIn w (r.1, r.2.map canSt) A a B b := by
 obtain ⟨B', b', e2, l2, r2⟩ := OwY.row (d := kStep) hS rfl fun x cs _ h => StO.knd h
 rw [List.length_map] at e2
 simp only [Value.slice.injEq, true_and] at e2
 obtain ⟨rfl, rfl⟩ := e2
 have h1 := wts_map h.goodS
 have h2 := h.few
 refine ⟨hA, hc, r2, l2, h.goodA, fun d hd => ?_, ?_⟩
 · obtain ⟨x, hx, rfl⟩ := List.mem_map.1 hd
   exact canSt_good (h.goodS x hx) (h.wts_le hx)
 · show (r.1.map wtn).sum + ((r.2.map canSt).map wts).sum ≤ 8388608
   omega
set_option maxHeartbeats 4000000 in
set_option maxRecDepth 100000 in
theorem law_PBack (r : RefD) (A : Option Addr) (a : Nat) (B : Option Addr) (b : Nat) (w : World) (h : RefIn w r A a B b) (hf : (r.1.map wtn).sum + (r.2.map wts).sum ≤ 1048576) (hL : Laid w) (hP : PowTab w) :
 Calls Tryz.prog 8 #[.agg #[.slice A r.1.length a, .slice B r.2.length b]] w (Decides w true) := by
 have hPr := Lib.hid (fun (W : World) (hb : Below w.heap.size w W) => pr_Print r A a B b W (h.below hb) (hP.below hb))
 have hAw := Lib.hid (fun (W : World) (hb : Below w.heap.size w W) => law_awakeP W (hL.below hb) (hP.below hb))
 have HF := Lib.hid ((Fr.refl w).box [.slice A r.1.length a, .slice B r.2.length b] 25)
 simp only [List.toArray] at HF
 by_cases hv : vldE r = 0
 · obtain ⟨v1, v2⟩ := vld_inv hv
   have hV : Vld r := ⟨v1, v2, h.goodA, h.goodS, hf⟩
   have hps : prS r = prT r := by unfold prS; rw [if_pos hv]
   rw [hv, hps] at hPr
   have hPa := Lib.hid (fun (W : World) (hb : Below w.heap.size w W) => proof_Parse (prT r) W hV.len hV.lns (hL.below hb) (hP.below hb))
   have hNo := Lib.hid (fun (W : World) (hb : Below w.heap.size w W) => law_normal r A a B b W (h.below hb))
   have HRf := Lib.hid (fun (W : World) (A : Option Addr) (a : Nat) (B : Option Addr) (b : Nat) (hA : kAtom.Row W A r.1) (hc : r.1.length ≤ a) (hS : OwS W 0 (.slice B r.2.length b) (r.2.map canSt)) => hV.refIn hA hc hS)
   have HSm := Lib.hid (fun (W : World) (A1 : Option Addr) (a1 : Nat) (B1 : Option Addr) (b1 : Nat) (A2 : Option Addr) (a2 : Nat) (B2 : Option Addr) (b2 : Nat) (k1 : RefIn W (r.1, r.2.map canSt) A1 a1 B1 b1) (k2 : RefIn W (r.1, r.2.map canSt) A2 a2 B2 b2) => show Calls Tryz.prog 38 #[.agg #[.slice A1 r.1.length a1, .slice B1 r.2.length b1], .agg #[.slice A2 r.1.length a2, .slice B2 r.2.length b2]] W (Decides W true) from by
    have := same_RefR (r.1, r.2.map canSt) A1 a1 B1 b1 A2 a2 B2 b2 W k1 k2
    rwa [show (r.1, r.2.map canSt).2.length = r.2.length from List.length_map ..] at this)
   have hpv := Lib.hid hV.parse
   have HrA := Lib.hid (show kAtom.Row w A r.1 ∧ r.1.length ≤ a from ⟨h.rowA, h.capA⟩)
   clear h hf hL hP v1 v2 hV hv hps hAw
   obtain ⟨n0, hn0⟩ : ∃ n, n = r.1.length := ⟨_, rfl⟩
   obtain ⟨n1, hn1⟩ : ∃ n, n = r.2.length := ⟨_, rfl⟩
   rw [← hn0, ← hn1] at hPr hNo HF HSm
   rw [← hn1] at HRf
   have HN := Lib.hid (And.intro hn0 hn1)
   rw [← hn0, ← hn1]
   clear hn0 hn1
   generalize (⟨(prT r).toArray⟩ : ByteArray) = SB at *
   go_enter Tryz.func8, Tryz.ntmps8
   go_upto_region 1 with fail
   generalize hgt : World.alloc _ _ = W at HF ⊢
   clear hgt
   have x0 := HF.out.cellN 0 rfl 0 rfl
   have x1 := HF.out.cellN 0 rfl 1 rfl
   go_wp2_with fail
   refine (hPr.out _ HF.out.bel).mono ?_
   rintro e' W1 ⟨rfl, hb⟩
   replace HF := Lib.hid (HF.out.below hb)
   clear hb hPr x0 x1
   go_wp2_with fail
   refine (hPa.out _ HF.out.bel).mono ?_
   rintro e' W2 (⟨r', A2, a2, B2, b2, hp, rfl, ha, hs, hb⟩ | ⟨k, hp, _⟩)
   · rw [hpv.out] at hp
     cases hp
     have e1 : (r.1, r.2.map canSt).2.length = n1 := by rw [HN.out.2]; exact List.length_map ..
     have e0 : (r.1, r.2.map canSt).1.length = n0 := HN.out.1.symm
     rw [e0, e1]
     rw [e0] at ha
     rw [e1] at hs
     replace HF := Lib.hid (HF.out.below hb)
     have HA := Lib.hid (show OwA W2 0 (.slice A2 n0 a2) r.1 from ha)
     have HS := Lib.hid (show OwS W2 0 (.slice B2 n1 b2) (r.2.map canSt) from hs)
     clear ha hs hb hPa hpv e0 e1
     have HG := Lib.hid (HF.out.box [.slice A2 n0 a2, .slice B2 n1 b2] 25)
     have hal := (Below.refl W2.heap.size W2).alloc (Nat.le_refl _) (.cells #[.slice A2 n0 a2, .slice B2 n1 b2] 25)
     replace HA := Lib.hid (HA.out.below atO_nst hal)
     replace HS := Lib.hid (HS.out.below stO_nst hal)
     clear HF hal
     simp only [List.toArray] at HG HA HS
     go_upto_region 5 with fail
     generalize hgt : World.alloc _ _ = W at HG HA HS ⊢
     clear hgt
     generalize W2.heap.size = g2 at *
     have HF := HG
     clear HG
     have HI1 := Lib.hid (show RefIn W (r.1, r.2.map canSt) A2 a2 B2 b2 from by
      obtain ⟨A3, a3, e3, l3, r3⟩ := OwY.row (d := kAtom) HA.out rfl fun x cs _ h => AtO.knd h
      rw [← HN.out.1] at e3
      simp only [Value.slice.injEq, true_and] at e3
      obtain ⟨rfl, rfl⟩ := e3
      exact HRf.out W A2 a2 B2 b2 r3 l3 HS.out)
     clear HA HS
     replace HI1 := Lib.hid (HI1.out.below (Below.drew (Below.refl _ _)))
     have HF_ := Lib.hid HF.out.drew
     clear HF
     have HF := HF_
     clear HF_
     refine start_ (n := 13) (S := fun w' => w'.cell? ⟨w.heap.size, 0, none⟩ = some (.slice A n0 a) ∧ w'.cell? ⟨w.heap.size, 1, none⟩ = some (.slice B n1 b) ∧ w'.cell? ⟨g2, 0, none⟩ = some (.slice A2 n0 a2) ∧ w'.cell? ⟨g2, 1, none⟩ = some (.slice B2 n1 b2)) (ds := []) #[false, false, false, false, false, false, false, false, false, false, false, false, false] (by kernel_rfl) rfl rfl ⟨HF.out.cellN 1 rfl 0 rfl, HF.out.cellN 1 rfl 1 rfl, HF.out.cellN 0 rfl 0 rfl, HF.out.cellN 0 rfl 1 rfl⟩ (fun hHeld => ?_)
     generalize World.drew _ = W at *
     refine pu_ (v := ?_) (a' := ?_) 0 (some 27) rfl rfl ?_ ?_ ?_
     rotate_left; · intro w'; go_simp; with_reducible rfl
     rotate_left
     · simp only [Act.put, sa_, sb_, sc_]
       rfl
     refine pu_ (v := ?_) (a' := ?_) 1 (some 28) rfl rfl ?_ ?_ ?_
     rotate_left; · intro w'; go_simp; with_reducible rfl
     rotate_left
     · simp only [Act.put, sa_, sb_, sc_]
       rfl
     refine pu_ (v := ?_) (a' := ?_) 2 (some 29) rfl rfl ?_ ?_ ?_
     rotate_left; · intro w'; go_simp; with_reducible rfl
     rotate_left
     · simp only [Act.put, sa_, sb_, sc_]
       rfl
     refine pu_ (v := ?_) (a' := ?_) 3 (some 30) rfl rfl ?_ ?_ ?_
     rotate_left; · intro w'; go_simp; with_reducible rfl
     rotate_left
     · simp only [Act.put, sa_, sb_, sc_]
       rfl
     refine pu_ (v := ?_) (a' := ?_) 4 (some 31) rfl rfl ?_ ?_ ?_
     rotate_left; · intro w'; go_simp; with_reducible rfl
     rotate_left
     · simp only [Act.put, sa_, sb_, sc_]
       rfl
     refine pu_ (v := ?_) (a' := ?_) 5 (some 32) rfl rfl ?_ ?_ ?_
     rotate_left; · intro w'; go_simp; with_reducible rfl
     rotate_left
     · simp only [Act.put, sa_, sb_, sc_]
       rfl
     refine pu_ (v := ?_) (a' := ?_) 6 (some 33) rfl rfl ?_ ?_ ?_
     rotate_left; · intro w'; go_simp; with_reducible rfl
     rotate_left
     · simp only [Act.put, sa_, sb_, sc_]
       rfl
     refine tk_ (v := ?_) (a' := ?_) 7 (some 34) rfl rfl ?_ hHeld ?_ ?_
     rotate_left
     · rintro w' ⟨s0, s1, s2, s3⟩; go_simp; with_reducible rfl
     rotate_left
     · simp only [Act.put, sa_, sb_, sc_]
       rfl
     refine tk_ (v := ?_) (a' := ?_) 8 (some 35) rfl rfl ?_ hHeld ?_ ?_
     rotate_left
     · rintro w' ⟨s0, s1, s2, s3⟩; go_simp; with_reducible rfl
     rotate_left
     · simp only [Act.put, sa_, sb_, sc_]
       rfl
     refine on_ 9 (N := (some 36)) rfl rfl (fun K hK => ?_)
     refine goes_ Tryz.func40 (by kernel_rfl) rfl #[.agg #[.slice A n0 a, .slice B n1 b]] (by rfl) rfl rfl (by (try simp only [List.map_toArray, List.map_cons, List.map_nil]); first | done | rfl) ?_
     refine (hNo.out W HF.out.bel).mono ?_
     rintro e W1 ⟨B3, b3, rfl, q1, q2⟩
     refine ⟨_, rfl, ?_⟩
     replace HF := Lib.hid (HF.out.below q2)
     replace HI1 := Lib.hid (HI1.out.below q2)
     have HSn := Lib.hid q1
     clear q1 q2
     refine hK.out _ _ ⟨HF.out.cellN 1 rfl 0 rfl, HF.out.cellN 1 rfl 1 rfl, HF.out.cellN 0 rfl 0 rfl, HF.out.cellN 0 rfl 1 rfl⟩ (fun hHeld => ?_)
     clear hK K
     refine norm_ (a' := ?_) ?_ ?_
     rotate_left
     · show Act.put _ (some 36) _ = _
       simp only [Act.put, sa_, sb_, sc_]
       rfl
     refine on_ 10 (N := (some 37)) rfl rfl (fun K hK => ?_)
     refine goes_ Tryz.func38 (by kernel_rfl) rfl #[.agg #[.slice A2 n0 a2, .slice B2 n1 b2], .agg #[.slice A n0 a, .slice B3 n1 b3]] (by rfl) rfl rfl (by (try simp only [List.map_toArray, List.map_cons, List.map_nil]); first | done | rfl) ?_
     refine (HSm.out W1 A2 a2 B2 b2 A a B3 b3 HI1.out (HRf.out W1 A a B3 b3 (HrA.out.1.below HF.out.bel) HrA.out.2 HSn.out)).mono ?_
     rintro e W2 ⟨rfl, q2⟩
     refine ⟨_, rfl, ?_⟩
     replace HF := Lib.hid (HF.out.below q2)
     clear q2 HI1 HSn
     refine hK.out _ _ ⟨HF.out.cellN 1 rfl 0 rfl, HF.out.cellN 1 rfl 1 rfl, HF.out.cellN 0 rfl 0 rfl, HF.out.cellN 0 rfl 1 rfl⟩ (fun hHeld => ?_)
     clear hK K
     refine norm_ (a' := ?_) ?_ ?_
     rotate_left
     · show Act.put _ (some 37) _ = _
       simp only [Act.put, sa_, sb_, sc_]
       rfl
     refine pu_ (v := ?_) (a' := ?_) 11 (some 38) rfl rfl ?_ ?_ ?_
     rotate_left; · intro w'; go_simp; with_reducible rfl
     rotate_left
     · simp only [Act.put, sa_, sb_, sc_]
       rfl
     refine pu_ (v := ?_) (a' := ?_) 12 (some 2) rfl rfl ?_ ?_ ?_
     rotate_left; · intro w'; go_simp; with_reducible rfl
     rotate_left
     · simp only [Act.put, sa_, sb_, sc_]
       rfl
     refine done_ (by kernel_rfl) ?_
     clear hNo HSm HRf HrA HN hHeld
     go_wp2
     go_ret
     exact ⟨rfl, HF.out.bel⟩
   · rw [hpv.out] at hp
     cases hp
 · have hps : prS r = [] := by unfold prS; rw [if_neg hv]
   rw [hps] at hPr
   have hvz : (vldE r == 0) = false := by rw [beq_eq_false_iff_ne]; exact hv
   clear h hf hL hP hps hv
   generalize vldE r = ve at *
   generalize r.1.length = n0 at *
   generalize r.2.length = n1 at *
   go_enter Tryz.func8, Tryz.ntmps8
   go_upto_region 1 with fail
   generalize hgt : World.alloc _ _ = W at HF ⊢
   clear hgt
   have x0 := HF.out.cellN 0 rfl 0 rfl
   have x1 := HF.out.cellN 0 rfl 1 rfl
   go_wp2_with fail
   refine (hPr.out _ HF.out.bel).mono ?_
   rintro e' W1 ⟨rfl, hb⟩
   replace HF := Lib.hid (HF.out.below hb)
   have HA := Lib.hid (hAw.out _ HF.out.bel)
   clear hb hPr x0 x1 hAw
   go_wp2_with fail
   refine HA.out.mono ?_
   rintro e' W2 ⟨rfl, hb⟩
   replace HF := Lib.hid (HF.out.below hb)
   clear hb HA
   go_wp2
   go_ret
   exact ⟨rfl, HF.out.bel⟩
end Go.Proofs.YtidgpkccjcddgaaGreatDoor.F
