/- proof.readStep. Condition: a line of at most 67108864 bytes, not longer than 1048576 or the text of a step of bounded weight; the tables lie in blocks 0 to 3. -/
import Derived.Test.YtidgpkccjcddgaaGreatDoorHaf
import Derived.Deep.CutBlock
import Derived.Deep.DeepCutAuto
set_option linter.unusedVariables false
set_option linter.unusedSimpArgs false
namespace Go.Proofs.YtidgpkccjcddgaaGreatDoor.F
open Go.RowKit Go.Shelf Go.Proofs.YtidgpkccjcddgaaGreatDoorW.PrintLast
def ToldRS (w : World) (s : List UInt8) (e : Ending) (w' : World) : Prop :=
 (∃ d cs, e = .returned (.iface 101 (.agg cs.toArray)) ∧ StO w' d cs ∧ GoodS d ∧ CanS d ∧ Below w.heap.size w w' ∧ ∀ d0, IsStep s d0 → d = d0) ∨
 (e = .returned .nilIface ∧ Below w.heap.size w w' ∧ ∀ d0, ¬ IsStep s d0)
theorem step_no {s k : List UInt8} {r : List (List UInt8)} (hw : segsC 32 s = k :: r) (h : (r.take (byI r)).all okI = false ∨ ¬(k ≠ wI ↔ byI r < r.length)) : ∀ d0, ¬ IsStep s d0 := fun d0 hd => by
 have h1 := (isStep_rd.1 hd).1
 rw [hw, rdS, if_pos h] at h1
 cases h1
theorem step_kind {s k : List UInt8} {r : List (List UInt8)} (hw : segsC 32 s = k :: r) (h1 : k ≠ wI) (h2 : k ≠ wU) (h3 : k ≠ wF) : ∀ d0, ¬ IsStep s d0 := fun d0 hd => by
 have h := (isStep_rd.1 hd).1
 rw [hw, rdS, if_neg h1, if_neg h2, if_neg h3] at h
 split at h <;> cases h
theorem step_inp {s : List UInt8} {r : List (List UInt8)} (hw : segsC 32 s = wI :: r) : ∀ d0, IsStep s d0 → (((1, (r.take (byI r)).map valI), []), []) = d0 := fun d0 hd => by
 have h := (isStep_rd.1 hd).1
 rw [hw, rdS] at h
 split at h
 · cases h
 · rw [if_pos rfl] at h
   exact Option.some.inj h
theorem step_uni {s : List UInt8} {r : List (List UInt8)} (hw : segsC 32 s = wU :: r) : ∀ d0, IsStep s d0 → (r.drop (byI r + 1)).all okI = true ∧ (((2, (r.take (byI r)).map valI), (r.drop (byI r + 1)).map valI), []) = d0 := fun d0 hd => by
 have h := (isStep_rd.1 hd).1
 rw [hw, rdS] at h
 split at h
 · cases h
 · rw [if_neg (by decide), if_pos rfl] at h
   split at h
   · rename_i ha
     exact ⟨ha, Option.some.inj h⟩
   · cases h
theorem step_far {s : List UInt8} {r : List (List UInt8)} (hw : segsC 32 s = wF :: r) : ∀ d0, IsStep s d0 → (r.drop (byI r + 1)).all okQ = true ∧ (((3, (r.take (byI r)).map valI), []), (r.drop (byI r + 1)).map fun x => canD (qOf x)) = d0 := fun d0 hd => by
 have h := (isStep_rd.1 hd).1
 rw [hw, rdS] at h
 split at h
 · cases h
 · rw [if_neg (by decide), if_neg (by decide), if_pos rfl] at h
   split at h
   · rename_i ha
     exact ⟨ha, Option.some.inj h⟩
   · cases h
theorem StrRow.take {w : World} {A : Option Addr} {ws : List (List UInt8)} (h : StrRow w A ws) (n : Nat) : StrRow w A (ws.take n) := fun i hi => by
 rw [List.length_take] at hi
 obtain ⟨ad, e, hc⟩ := h i (by omega)
 exact ⟨ad, e, by rw [List.getElem_take]; exact hc⟩
theorem addr_add (ad : Addr) (m i : Nat) (hm : m ≠ 0) : (⟨ad.block, ad.off + m, none⟩ : Addr).add i = ad.add (m + i) := by
 unfold Addr.add
 rw [if_neg (show ¬ m + i = 0 by omega)]
 by_cases hi : i = 0
 · subst hi
   rw [if_pos rfl]
   rfl
 · rw [if_neg hi]
   simp only [Addr.mk.injEq, true_and, and_true]
   omega
theorem segs_cons (c : UInt8) (s : List UInt8) : ∃ k r, segsC c s = k :: r := by
 cases h : segsC c s with
 | nil => exact absurd h (segsC_ne c s)
 | cons k r => exact ⟨k, r, rfl⟩
theorem stO_ints {W : World} {k : Int} {c b : List Int} {v u : Value} (h : OwZ W v c) (h2 : OwZ W u b) : StO W (((k, c), b), []) [.int .i64 k, v, u, .slice none 0 0] := ⟨v, u, _, rfl, h, h2, OwY.nil _ _ _ _ _, by simp⟩
theorem owZ_nil (W : World) : OwZ W (.slice none 0 0) [] := OwnL.nil _ _ _ _
theorem goodS_ints {k : Int} {c b : List Int} (hk : k = 1 ∨ k = 2) (hb1 : k = 1 → b = []) (hc : ∀ x ∈ c, inr x) (hb : ∀ x ∈ b, inr x) (l1 : c.length ≤ 1048576) (l2 : b.length ≤ 1048576) : GoodS (((k, c), b), []) ∧ CanS (((k, c), b), []) := by
 refine ⟨⟨?_, hc, hb, fun q hq => (List.not_mem_nil hq).elim, ?_⟩, ⟨?_, hc, hb, fun q hq => (List.not_mem_nil hq).elim⟩⟩
 · show inr k
   unfold inr
   omega
 · show c.length + b.length + ([].map wt).sum + 5 ≤ _
   rw [List.map_nil, List.sum_nil]
   omega
 · rcases hk with h | h
   · exact .inl ⟨h, hb1 h, rfl⟩
   · exact .inr (.inl ⟨h, rfl⟩)
def BigS (s : List UInt8) : Prop := s.length ≤ 1048576 ∨ ∃ d0, IsStep s d0 ∧ GoodS d0
theorem goodS_of {s : List UInt8} {d : StepD} (hq : BigS s) (hx : ∀ d0, IsStep s d0 → d = d0) (hc : CanS d) (hsm : s.length ≤ 1048576 → GoodS d) : GoodS d ∧ CanS d := by
 refine ⟨?_, hc⟩
 rcases hq with h | ⟨d0, h1, h2⟩
 · exact hsm h
 · rw [hx d0 h1]; exact h2
theorem canS_ints {k : Int} {c b : List Int} (hk : k = 1 ∨ k = 2) (hb1 : k = 1 → b = []) (hc : ∀ x ∈ c, inr x) (hb : ∀ x ∈ b, inr x) : CanS (((k, c), b), []) := by
 refine ⟨?_, hc, hb, fun q hq => (List.not_mem_nil hq).elim⟩
 rcases hk with h | h
 · exact .inl ⟨h, hb1 h, rfl⟩
 · exact .inr (.inl ⟨h, rfl⟩)
set_option maxHeartbeats 8000000 in
set_option maxRecDepth 100000 in
theorem pr_readStep (s : List UInt8) (w : World) (hs : s.length ≤ 67108864) (hq : BigS s) (hL : Laid w) :
 Calls Tryz.prog 159 #[.string ⟨s.toArray⟩] w (ToldRS w s) := by
 have HL := Lib.hid hL
 have HQ := Lib.hid hq
 clear hq
 have HSp := Lib.hid (split_l s 32 w (by omega) hL)
 obtain ⟨k, r, hkr⟩ := segs_cons 32 s
 obtain ⟨hfew, hlen⟩ := segs_few 32 s
 have hcw := cw_segs 32 s
 rw [hkr, cw_cons] at hcw
 have HCW := Lib.hid (show (r.take (byI r)).length + cw (r.drop (byI r + 1)) ≤ 6 * s.length + 6 from by have := cw_parts r (byI r); omega)
 clear hcw
 have HW := Lib.hid hkr
 rw [hkr] at HSp hfew hlen
 have HLen := Lib.hid hlen
 have hk0 : (k :: r).length = r.length + 1 := List.length_cons
 rw [hk0] at hfew
 clear hL hkr hlen
 generalize hSB : (⟨s.toArray⟩ : ByteArray) = SB at *
 clear hSB
 go_enter Tryz.func159, Tryz.ntmps159
 go_wp2_with fail
 refine HSp.out.mono ?_
 rintro e W1 ⟨g, rfl, hb, hc⟩
 have HB := Lib.hid hb
 replace HL := Lib.hid (HL.out.below hb)
 have c0 := hc 0 (by simp)
 have HR := Lib.hid (show StrRow W1 (some ⟨g, 1, none⟩) r from fun i hi => ⟨_, rfl, by
  have := hc (i + 1) (by simpa using hi)
  rw [show (⟨g, 1, none⟩ : Addr).add i = ⟨g, i + 1, none⟩ from by unfold Addr.add; split <;> simp_all <;> omega]
  simpa using this⟩)
 rw [hk0]
 simp only [List.getElem_cons_zero] at c0
 clear hc hb HSp hk0
 go_upto_block 0 with fail
 generalize hA : (if r = [] then some (⟨g, 0, none⟩ : Addr) else some ⟨g, 1, none⟩) = A1
 replace HR := Lib.hid (show StrRow W1 A1 r from fun i hi => by
  obtain ⟨ad, e, hc⟩ := HR.out i hi
  have hr0 : r ≠ [] := fun e => by rw [e] at hi; simp at hi
  rw [if_neg hr0] at hA
  exact ⟨ad, by rw [← hA]; exact e, hc⟩)
 clear hA
 go_cut [5] (fun s5 wx => wx = W1 ∧ s5 = .int .i64 (byI r))
 case first =>
  clear HL HB HW HLen c0
  go_wp2_with fail
  go_loopg [5, 26] r.length (fun gg s5 s26 wr => ∃ i : Nat, i + gg = r.length ∧ s26 = .int .i64 i ∧ s5 = .int .i64 r.length ∧ wr = W1 ∧ Hid (∀ j (hj : j < i) (h : j < r.length), r[j] ≠ wB))
  case atStart => exact ⟨0, by omega, rfl, rfl, rfl, (show Hid _ from fun j hj => absurd hj (Nat.not_lt_zero _))⟩
  case round =>
   obtain ⟨i, hg, rfl, rfl, rfl, HN⟩ := hrel
   by_cases hlt : i < r.length
   · have hltz : (i : Int) < (r.length : Int) := by omega
     obtain ⟨ad, rfl, hc⟩ := HR.out i hlt
     by_cases hx : r[i] = wB
     · have HBy := Lib.hid (byI_found hlt (fun j hj => HN.out j hj (by omega)) hx)
       have hxz : (r[i] == [98, 121]) = true := by rw [hx]; rfl
       generalize r[i] = x at *
       clear hx HN
       go_wp2
       go_meet
       case rel => exact ⟨rfl, by rw [HBy.out]⟩
     · have hxz : (r[i] == [98, 121]) = false := beq_eq_false_iff_ne.2 (show r[i] ≠ [98, 121] from hx)
       have HN2 := Lib.hid (show ∀ j (hj : j < i + 1) (h : j < r.length), r[j] ≠ wB from fun j hj h => by
        by_cases e : j = i
        · subst e; exact hx
        · exact HN.out j (by omega) h)
       generalize r[i] = x at *
       clear hx HN
       go_wp2
       go_roundg (r.length - (i + 1))
       case measure => omega
       case rel => exact ⟨i + 1, by omega, by go_num, rfl, rfl, HN2⟩
   · have hltz : ¬ (i : Int) < (r.length : Int) := by omega
     have HBy := Lib.hid (byI_not (fun j hj => HN.out j (by omega) hj))
     clear HN
     go_wp2
     go_meet
     case rel => exact ⟨rfl, by rw [HBy.out]⟩
 case rest =>
 obtain ⟨rfl, rfl⟩ := hcut
 have hble := byI_le r
 have HIn := Lib.hid (show Calls Tryz.prog 218 #[.slice A1 (byI r) r.length] wc (ToldIn wc (r.take (byI r))) from by
  have := pr_ints A1 r.length (r.take (byI r)) wc (HR.out.take _) (fun x hx => by have := HLen.out x (List.mem_cons_of_mem _ (List.mem_of_mem_take hx)); omega) (by rw [List.length_take]; omega) HL.out
  rwa [List.length_take, Nat.min_eq_left hble] at this)
 have hbz : (byI r : Int) ≤ (r.length : Int) := by omega
 have hbz0 : (0 : Int) ≤ (byI r : Int) := by omega
 go_wp2_with fail
 refine HIn.out.mono ?_
 clear HIn
 rintro e W2 (⟨v2, rfl, ho, ha, hb⟩ | ⟨rfl, ha, hb⟩)
 · have hcn : ((r.take (byI r)).map valI).length ≤ s.length := by rw [List.length_map, List.length_take]; omega
   have hci := all_vals ha
   generalize hcl : (r.take (byI r)).map valI = cl at *
   have HCi := Lib.hid hci
   have HCl := Lib.hid hcl
   clear hcl hci
   replace ho : OwZ W2 v2 cl := OwnL.mono ho (Nat.zero_le _)
   obtain ⟨A2, a2, rfl, _⟩ := OwZ.row ho
   have HO := Lib.hid ho
   have HB2 := Lib.hid (HB.out.trans (hb.mono HB.out.size))
   replace HL := Lib.hid (HL.out.below hb)
   replace HR := Lib.hid (HR.out.below hb)
   clear ho hb HB c0
   have HF := Lib.hid ((Fr.refl W2).box [.int .i64 0, .slice A2 cl.length a2, .slice none 0 0, .slice none 0 0] 80)
   simp only [List.toArray] at HF
   go_upto_region 13 with fail
   generalize hgt : World.alloc _ _ = W3 at HF ⊢
   clear hgt
   by_cases hk : k = wI
   · have hkz : (k == [105, 110, 112, 117, 116]) = true := by rw [hk]; rfl
     by_cases hlt : byI r < r.length
     · have hltz : (byI r : Int) < (r.length : Int) := by omega
       have HX := Lib.hid (step_no HW.out (.inr (fun e => (e.2 hlt) hk)))
       have HB3 := Lib.hid (HB2.out.trans (HF.out.bel.mono HB2.out.size))
       clear HW HLen HR HL HB2 HF HO HCi ha hk hlt
       go_wp2
       go_ret
       exact .inr ⟨rfl, HB3.out, HX.out⟩
     · have hltz : ¬ (byI r : Int) < (r.length : Int) := by omega
       subst hk
       have HX := Lib.hid (show ∀ d0, IsStep s d0 → (((1, cl), []), []) = d0 from fun d0 hd => by rw [← HCl.out]; exact step_inp HW.out d0 hd)
       have f0 := HF.out.frozenN 0 rfl 0
       have d0 := HF.out.cellN 0 rfl 0 rfl
       have d1 := HF.out.cellN 0 rfl 1 rfl
       have d2 := HF.out.cellN 0 rfl 2 rfl
       have d3 := HF.out.cellN 0 rfl 3 rfl
       replace HF := Lib.hid (HF.out.setN 0 rfl (Nat.le_refl _) (by simp) 0 (.int .i64 1))
       have HB3 := Lib.hid (HB2.out.trans (HF.out.bel.mono HB2.out.size))
       have HO3 := Lib.hid (stO_ints (k := 1) (HO.out.keep (KeepT.below HF.out.bel)) (owZ_nil _))
       have HGd := Lib.hid (goodS_of HQ.out HX.out (canS_ints (.inl rfl) (fun _ => rfl) HCi.out (fun x hx => (List.not_mem_nil hx).elim)) (fun h => (goodS_ints (k := 1) (b := []) (.inl rfl) (fun _ => rfl) HCi.out (fun x hx => (List.not_mem_nil hx).elim) (by omega) (by simp)).1))
       clear HW HLen HR HL HB2 HO ha hlt HF
       go_wp2
       go_ret
       exact .inl ⟨_, _, rfl, HO3.out, HGd.out.1, HGd.out.2, HB3.out, HX.out⟩
   · have hkz : (k == [105, 110, 112, 117, 116]) = false := beq_eq_false_iff_ne.2 (show k ≠ [105, 110, 112, 117, 116] from hk)
     by_cases hlt : byI r < r.length
     · have hltz : (byI r : Int) < (r.length : Int) := by omega
       obtain ⟨ad, hA, _⟩ := HR.out (byI r) hlt
       subst hA
       have hp1 : (byI r : Int) + 1 ≤ (r.length : Int) := by omega
       have hp0 : (0 : Int) ≤ (byI r : Int) + 1 := by omega
       have f0 := HF.out.frozenN 0 rfl 0
       have d0 := HF.out.cellN 0 rfl 0 rfl
       have hwl : (r.drop (byI r + 1)).length = r.length - (byI r + 1) := List.length_drop
       by_cases hu : k = wU
       · subst hu
         have f2 := HF.out.frozenN 0 rfl 2
         have d1 := HF.out.cellN 0 rfl 1 rfl
         have d2 := HF.out.cellN 0 rfl 2 rfl
         have d3 := HF.out.cellN 0 rfl 3 rfl
         replace HF := Lib.hid (HF.out.setN 0 rfl (Nat.le_refl _) (by simp) 0 (.int .i64 2))
         have HI := Lib.hid (fun (A' : Option Addr) (c' : Nat) (hr : StrRow (W3.setCell ⟨W2.heap.size, 0, none⟩ (.int .i64 2)) A' (r.drop (byI r + 1))) => pr_ints A' c' (r.drop (byI r + 1)) _ hr (fun x hx => by have := HLen.out x (List.mem_cons_of_mem _ (List.mem_of_mem_drop hx)); omega) (by omega) (HL.out.below HF.out.bel))
         have HX := Lib.hid (fun d0 (h : IsStep s d0) => step_uni HW.out d0 h)
         have hlw : (r.drop (byI r + 1)).length ≤ s.length := by omega
         have hE : (r.drop (byI r + 1)).all okI = true → ∀ x ∈ (r.drop (byI r + 1)).map valI, inr x := all_vals
         rw [hwl] at HI
         by_cases hl : byI r + 1 = r.length
         · have hlz : r.length - (byI r + 1) = 0 := by omega
           have hrow : StrRow (W3.setCell ⟨W2.heap.size, 0, none⟩ (.int .i64 2)) (some ad) (r.drop (byI r + 1)) := fun i hi => by omega
           rw [hlz] at HI
           clear hl
           go_wp2_with fail
           refine (HI.out _ _ hrow).mono ?_
           clear HI hrow
           rintro e W4 (⟨v4, rfl, ho4, ha4, hb4⟩ | ⟨rfl, ha4, hb4⟩)
           · obtain ⟨A4, a4, rfl, _⟩ := OwZ.row (show OwZ W4 v4 _ from OwnL.mono ho4 (Nat.zero_le _))
             have HF4 := Lib.hid (HF.out.below hb4)
             have f2 := HF4.out.frozenN 0 rfl 2
             have d0 := HF4.out.cellN 0 rfl 0 rfl
             have d1 := HF4.out.cellN 0 rfl 1 rfl
             have d2 := HF4.out.cellN 0 rfl 2 rfl
             have d3 := HF4.out.cellN 0 rfl 3 rfl
             have hg2 : W2.heap.size < (W3.setCell ⟨W2.heap.size, 0, none⟩ (.int .i64 2)).heap.size := HF.out.ltN 0 rfl
             generalize hbl : (r.drop (byI r + 1)).map valI = bl at *
             have hbn : bl.length ≤ s.length := by rw [← hbl, List.length_map]; exact hlw
             have HX2 := Lib.hid (show ∀ d0, IsStep s d0 → (((2, cl), bl), []) = d0 from fun d0 hd => by rw [← HCl.out]; exact (HX.out d0 hd).2)
             have HF5 := Lib.hid (HF4.out.setN 0 rfl (Nat.le_refl _) (by simp) 2 (.slice A4 bl.length a4))
             have HS5 := Lib.hid (stO_ints (k := 2) (HO.out.keep (KeepT.below HF5.out.bel)) (show OwZ _ _ bl from OwnL.mono (OwnL.set (i := 2) ho4 hg2 (.slice A4 bl.length a4)) (Nat.zero_le _)))
             have HGd := Lib.hid (goodS_of HQ.out HX2.out (canS_ints (k := 2) (.inr rfl) (fun e => by cases e) HCi.out (hE ha4)) (fun h => (goodS_ints (k := 2) (.inr rfl) (fun e => by cases e) HCi.out (hE ha4) (by omega) (by omega)).1))
             have HB5 := Lib.hid (HB2.out.trans (HF5.out.bel.mono HB2.out.size))
             clear ho4 hb4 hE HX HF HF4 HF5 HO HB2 HW HLen HR HL hbl
             go_wp2
             go_ret
             exact .inl ⟨_, _, rfl, HS5.out, HGd.out.1, HGd.out.2, HB5.out, HX2.out⟩
           · have HX2 := Lib.hid (show ∀ d0, ¬ IsStep s d0 from fun d0 hd => by
              have := (HX.out d0 hd).1
              rw [ha4] at this
              cases this)
             have HF4 := Lib.hid (HF.out.below hb4)
             have f2 := HF4.out.frozenN 0 rfl 2
             have d2 := HF4.out.cellN 0 rfl 2 rfl
             have HF5 := Lib.hid (HF4.out.setN 0 rfl (Nat.le_refl _) (by simp) 2 (.slice none 0 0))
             have HB5 := Lib.hid (HB2.out.trans (HF5.out.bel.mono HB2.out.size))
             clear hb4 hE HX HF HF4 HF5 HO HB2 HW HLen HR HL
             go_wp2
             go_ret
             exact .inr ⟨rfl, HB5.out, HX2.out⟩
         · have hl2 : r.length - (byI r + 1) ≠ 0 := by omega
           have hrow : StrRow (W3.setCell ⟨W2.heap.size, 0, none⟩ (.int .i64 2)) (some ⟨ad.block, ad.off + (byI r + 1), none⟩) (r.drop (byI r + 1)) := fun i hi => by
            obtain ⟨ad', e', hc⟩ := (HR.out.below HF.out.bel) (byI r + 1 + i) (by omega)
            cases e'
            refine ⟨_, rfl, ?_⟩
            rw [List.getElem_drop, ← hc]
            congr 1
            unfold Addr.add
            split <;> simp_all <;> omega
           go_wp2_with fail
           refine (HI.out _ _ hrow).mono ?_
           clear HI hrow
           rintro e W4 (⟨v4, rfl, ho4, ha4, hb4⟩ | ⟨rfl, ha4, hb4⟩)
           · obtain ⟨A4, a4, rfl, _⟩ := OwZ.row (show OwZ W4 v4 _ from OwnL.mono ho4 (Nat.zero_le _))
             have HF4 := Lib.hid (HF.out.below hb4)
             have f2 := HF4.out.frozenN 0 rfl 2
             have d0 := HF4.out.cellN 0 rfl 0 rfl
             have d1 := HF4.out.cellN 0 rfl 1 rfl
             have d2 := HF4.out.cellN 0 rfl 2 rfl
             have d3 := HF4.out.cellN 0 rfl 3 rfl
             have hg2 : W2.heap.size < (W3.setCell ⟨W2.heap.size, 0, none⟩ (.int .i64 2)).heap.size := HF.out.ltN 0 rfl
             generalize hbl : (r.drop (byI r + 1)).map valI = bl at *
             have hbn : bl.length ≤ s.length := by rw [← hbl, List.length_map]; exact hlw
             have HX2 := Lib.hid (show ∀ d0, IsStep s d0 → (((2, cl), bl), []) = d0 from fun d0 hd => by rw [← HCl.out]; exact (HX.out d0 hd).2)
             have HF5 := Lib.hid (HF4.out.setN 0 rfl (Nat.le_refl _) (by simp) 2 (.slice A4 bl.length a4))
             have HS5 := Lib.hid (stO_ints (k := 2) (HO.out.keep (KeepT.below HF5.out.bel)) (show OwZ _ _ bl from OwnL.mono (OwnL.set (i := 2) ho4 hg2 (.slice A4 bl.length a4)) (Nat.zero_le _)))
             have HGd := Lib.hid (goodS_of HQ.out HX2.out (canS_ints (k := 2) (.inr rfl) (fun e => by cases e) HCi.out (hE ha4)) (fun h => (goodS_ints (k := 2) (.inr rfl) (fun e => by cases e) HCi.out (hE ha4) (by omega) (by omega)).1))
             have HB5 := Lib.hid (HB2.out.trans (HF5.out.bel.mono HB2.out.size))
             clear ho4 hb4 hE HX HF HF4 HF5 HO HB2 HW HLen HR HL hbl
             go_wp2
             go_ret
             exact .inl ⟨_, _, rfl, HS5.out, HGd.out.1, HGd.out.2, HB5.out, HX2.out⟩
           · have HX2 := Lib.hid (show ∀ d0, ¬ IsStep s d0 from fun d0 hd => by
              have := (HX.out d0 hd).1
              rw [ha4] at this
              cases this)
             have HF4 := Lib.hid (HF.out.below hb4)
             have f2 := HF4.out.frozenN 0 rfl 2
             have d2 := HF4.out.cellN 0 rfl 2 rfl
             have HF5 := Lib.hid (HF4.out.setN 0 rfl (Nat.le_refl _) (by simp) 2 (.slice none 0 0))
             have HB5 := Lib.hid (HB2.out.trans (HF5.out.bel.mono HB2.out.size))
             clear hb4 hE HX HF HF4 HF5 HO HB2 HW HLen HR HL
             go_wp2
             go_ret
             exact .inr ⟨rfl, HB5.out, HX2.out⟩
       · have huz : (k == [117, 110, 105, 116, 115]) = false := beq_eq_false_iff_ne.2 (show k ≠ [117, 110, 105, 116, 115] from hu)
         by_cases hf : k = wF
         · subst hf
           replace HF := Lib.hid (HF.out.setN 0 rfl (Nat.le_refl _) (by simp) 0 (.int .i64 3))
           have HX := Lib.hid (fun d0 (h : IsStep s d0) => step_far HW.out d0 h)
           obtain ⟨n, hn⟩ : ∃ n, n = r.length - (byI r + 1) := ⟨_, rfl⟩
           go_upto_region 24 with fail
           generalize hgt : World.setCell _ _ _ = W4 at HF ⊢
           clear hgt
           go_cut [77, 78, 79] (fun s77 s78 s79 wx => wx = W4 ∧ s78 = .int .i64 n ∧ s79 = .int .i64 0 ∧ ∃ A', s77 = .slice A' n n ∧ StrRow W2 A' (r.drop (byI r + 1)))
           case first =>
            by_cases hl : byI r + 1 = r.length
            · have hlz : r.length - (byI r + 1) = 0 := by omega
              have hn0 : n = 0 := by omega
              have hrow : StrRow W2 (some ad) (r.drop (byI r + 1)) := fun i hi => by omega
              clear hl HW HLen HR HL HF HO HCi HX hn
              subst hn0
              go_wp2
              go_meet
              case rel => exact ⟨rfl, rfl, rfl, _, rfl, hrow⟩
            · have hl2 : r.length - (byI r + 1) ≠ 0 := by omega
              have hrow : StrRow W2 (some ⟨ad.block, ad.off + (byI r + 1), none⟩) (r.drop (byI r + 1)) := fun i hi => by
               obtain ⟨ad', e', hc⟩ := HR.out (byI r + 1 + i) (by omega)
               cases e'
               exact ⟨_, rfl, by rw [List.getElem_drop, addr_add _ _ _ (by omega)]; exact hc⟩
              clear HW HLen HR HL HF HO HCi HX
              subst hn
              go_wp2
              go_meet
              case rel => exact ⟨rfl, rfl, rfl, _, rfl, hrow⟩
           case rest =>
           obtain ⟨rfl, rfl, rfl, A', rfl, hrow⟩ := hcut
           simp only [List.set_cons_zero] at HF
           have HRw := Lib.hid hrow
           have HLw := Lib.hid (show ∀ x ∈ r.drop (byI r + 1), x.length ≤ 67108864 from fun x hx => by have := HLen.out x (List.mem_cons_of_mem _ (List.mem_of_mem_drop hx)); omega)
           have hcw : cl.length + cw (r.drop (byI r + 1)) ≤ 6 * s.length + 6 := by rw [← HCl.out, List.length_map]; exact HCW.out
           have HC3 := Lib.hid (show ∀ d0, IsStep s d0 → (r.drop (byI r + 1)).all okQ = true ∧ (((3, cl), []), (r.drop (byI r + 1)).map fun x => canD (qOf x)) = d0 from fun d0 hd => by rw [← HCl.out]; exact HX.out d0 hd)
           clear hrow HR HX HCl HCW HLen HW
           generalize hws : r.drop (byI r + 1) = ws at *
           have hwn : ws.length = n := by rw [hwl, hn]
           have hnn : n ≤ 67108865 := by omega
           clear hws hn hwl hp1 hp0 hltz f0 d0
           go_wp2_with fail
           go_loopg [9, 79] n (fun gg s9 s79 wr => ∃ (i : Nat) (ok : Bool) (vq : Value) (qs : List RatD), i + gg = n ∧ s79 = .int .i64 i ∧ s9 = .bool ok ∧ Hid (Fr W2 wr [(W2.heap.size, [.int .i64 3, .slice A2 cl.length a2, .slice none 0 0, vq])]) ∧ Hid (OwY wr (W2.heap.size + 1) 43 3 AtQ vq qs) ∧ Hid (FarI ws i ok qs))
           case atStart => exact ⟨0, true, _, [], by omega, rfl, rfl, HF.out, OwY.nil _ _ _ _ _, FarI.init ws⟩
           case round =>
            clear HF
            obtain ⟨i, ok, vq, qs, hg, rfl, rfl, HF, HO3, HI⟩ := hrel
            have HO2 := HO
            have HO := HO3
            clear HO3
            have hql : qs.length ≤ 67108865 := by have := HI.out.len; omega
            by_cases hlt : i < n
            · have hltz : (i : Int) < (n : Int) := by omega
              have hiw : i < ws.length := by omega
              obtain ⟨ad', rfl, hc⟩ := HRw.out i hiw
              have hc := cell_below HF.out.bel hc
              have hxl := HLw.out ws[i] (List.getElem_mem hiw)
              have HPr := Lib.hid (ratio_Parse ws[i] wr (by omega) (HL.out.below HF.out.bel))
              have HOk := Lib.hid (fun q hl hx => HI.out.ok (q := q) hiw hl hx)
              have HNo := Lib.hid (fun hx => HI.out.no hiw hx)
              generalize ws[i] = x at *
              go_wp2_with fail
              refine HPr.out.mono ?_
              rintro e W5 (⟨q, A5, c5, B5, d5, rfl, hq, hlen, hb, hx⟩ | ⟨rfl, hb, hx⟩)
              · have HI2 := Lib.hid (HOk.out q hlen hx)
                have hk : InD W5 (canD q) A5 c5 B5 d5 := ⟨hq.num, hq.den⟩
                have k1 : (dg q.num.natAbs).length ≤ 137438953472 := by omega
                have k2 : (dg q.den).length ≤ 137438953472 := by omega
                replace HF := Lib.hid (HF.out.below hb)
                replace HO := Lib.hid (HO.out.below atQ_nst hb)
                clear hx hb hq hlen HPr HOk HNo HI hc
                obtain ⟨Aq, cq, rfl, hqc⟩ := HO.out.form
                have hg2 : W2.heap.size < W5.heap.size := HF.out.ltN 0 rfl
                have HFr := Lib.hid (HF.out.box [.bool (decide (q.num < 0)), .slice A5 (dg q.num.natAbs).length c5, .slice B5 (dg q.den).length d5] 43)
                have hal := Lib.hid ((Below.refl W5.heap.size W5).alloc (Nat.le_refl _) (.cells #[.bool (decide (q.num < 0)), .slice A5 (dg q.num.natAbs).length c5, .slice B5 (dg q.den).length d5] 43))
                have HFx := Lib.hid (HF.out.below hal.out)
                have HOx := Lib.hid (HO.out.below atQ_nst hal.out)
                have HKx := Lib.hid (hk.keep (KeepU.below hal.out))
                have hsz6 := hal.out.size
                clear hk hal HF HO
                simp only [List.toArray] at HFr
                go_upto_region 28 with fail
                generalize hgt : World.alloc W5 _ = W6 at HFr HFx HOx HKx hsz6 ⊢
                clear hgt
                have c0 := HFr.out.cellN 0 rfl 0 rfl
                have c1 := HFr.out.cellN 0 rfl 1 rfl
                have c2 := HFr.out.cellN 0 rfl 2 rfl
                have x3 := HFx.out.cellN 0 rfl 3 rfl
                obtain ⟨v', W7, hr, hO', hb'⟩ := pushQ HOx.out HKx.out k1 k2 (by omega) (by omega)
                generalize hq2 : qs ++ [((decide (q.num < 0), dg q.num.natAbs), dg q.den)] = qs2 at hO'
                replace HI2 := Lib.hid (show FarI ws (i + 1) ok qs2 from by rw [← hq2]; exact HI2.out)
                clear hq2
                obtain ⟨A7, c7, rfl, _⟩ := hO'.form
                have HP := Lib.hid hr
                have HF7 := Lib.hid (HFx.out.belowB hb' (by omega) (by simp))
                have f3 := HF7.out.frozenN 0 rfl 3
                have x7 := HF7.out.cellN 0 rfl 3 rfl
                have HF8 := Lib.hid (HF7.out.setN 0 rfl (Nat.le_refl _) (by simp) 3 (.slice A7 qs2.length c7))
                have HO8 := Lib.hid (hO'.setQ (HF7.out.ownN 0 rfl) (fun y hy => by simp at hy) (by omega) 3 (.slice A7 qs2.length c7))
                simp only [List.set_cons_zero, List.set_cons_succ] at HF8
                clear hr hO' hb' HFr HFx HOx HKx HF7
                cases ok with
                | true =>
                 go_wp2_with (refine pushL_ rfl rfl rfl rfl HP.out ?_; clear HP)
                 go_roundg (n - (i + 1))
                 case measure => omega
                 case rel => exact ⟨i + 1, true, .slice A7 qs2.length c7, qs2, by omega, by go_num, rfl, HF8.out, HO8.out, HI2.out⟩
                | false =>
                 go_wp2_with (refine pushL_ rfl rfl rfl rfl HP.out ?_; clear HP)
                 go_roundg (n - (i + 1))
                 case measure => omega
                 case rel => exact ⟨i + 1, false, .slice A7 qs2.length c7, qs2, by omega, by go_num, rfl, HF8.out, HO8.out, HI2.out⟩
              · have HI2 := Lib.hid (HNo.out hx)
                have hk : InD W5 ((false, []), []) none 0 none 0 := ⟨In.nil _ _ _, In.nil _ _ _⟩
                replace HF := Lib.hid (HF.out.below hb)
                replace HO := Lib.hid (HO.out.below atQ_nst hb)
                clear hx hb HPr HOk HNo HI hc
                obtain ⟨Aq, cq, rfl, hqc⟩ := HO.out.form
                have hg2 : W2.heap.size < W5.heap.size := HF.out.ltN 0 rfl
                have HFr := Lib.hid (HF.out.box [.bool false, .slice none 0 0, .slice none 0 0] 43)
                have hal := Lib.hid ((Below.refl W5.heap.size W5).alloc (Nat.le_refl _) (.cells #[.bool false, .slice none 0 0, .slice none 0 0] 43))
                have HFx := Lib.hid (HF.out.below hal.out)
                have HOx := Lib.hid (HO.out.below atQ_nst hal.out)
                have HKx := Lib.hid (hk.keep (KeepU.below hal.out))
                have hsz6 := hal.out.size
                clear hk hal HF HO
                simp only [List.toArray] at HFr
                go_upto_region 28 with fail
                generalize hgt : World.alloc W5 _ = W6 at HFr HFx HOx HKx hsz6 ⊢
                clear hgt
                have c0 := HFr.out.cellN 0 rfl 0 rfl
                have c1 := HFr.out.cellN 0 rfl 1 rfl
                have c2 := HFr.out.cellN 0 rfl 2 rfl
                have x3 := HFx.out.cellN 0 rfl 3 rfl
                obtain ⟨v', W7, hr, hO', hb'⟩ := pushQ HOx.out HKx.out (Nat.zero_le _) (Nat.zero_le _) (by omega) (by omega)
                generalize hq2 : qs ++ [((false, []), [])] = qs2 at hO' HI2
                clear hq2
                obtain ⟨A7, c7, rfl, _⟩ := hO'.form
                have HP := Lib.hid hr
                have HF7 := Lib.hid (HFx.out.belowB hb' (by omega) (by simp))
                have f3 := HF7.out.frozenN 0 rfl 3
                have x7 := HF7.out.cellN 0 rfl 3 rfl
                have HF8 := Lib.hid (HF7.out.setN 0 rfl (Nat.le_refl _) (by simp) 3 (.slice A7 qs2.length c7))
                have HO8 := Lib.hid (hO'.setQ (HF7.out.ownN 0 rfl) (fun y hy => by simp at hy) (by omega) 3 (.slice A7 qs2.length c7))
                simp only [List.set_cons_zero, List.set_cons_succ] at HF8
                clear hr hO' hb' HFr HFx HOx HKx HF7
                cases ok with
                | true =>
                 go_wp2_with (refine pushL_ rfl rfl rfl rfl HP.out ?_; clear HP)
                 go_roundg (n - (i + 1))
                 case measure => omega
                 case rel => exact ⟨i + 1, false, .slice A7 qs2.length c7, qs2, by omega, by go_num, rfl, HF8.out, HO8.out, HI2.out⟩
                | false =>
                 go_wp2_with (refine pushL_ rfl rfl rfl rfl HP.out ?_; clear HP)
                 go_roundg (n - (i + 1))
                 case measure => omega
                 case rel => exact ⟨i + 1, false, .slice A7 qs2.length c7, qs2, by omega, by go_num, rfl, HF8.out, HO8.out, HI2.out⟩
            · have hltz : ¬ (i : Int) < (n : Int) := by omega
              have hin : i = n := by omega
              subst hin
              obtain ⟨Aq, cq, rfl, hqc⟩ := HO.out.form
              have x0 := HF.out.cellN 0 rfl 0 rfl
              have x1 := HF.out.cellN 0 rfl 1 rfl
              have x2 := HF.out.cellN 0 rfl 2 rfl
              have x3 := HF.out.cellN 0 rfl 3 rfl
              have HB3 := Lib.hid (HB2.out.trans (HF.out.bel.mono HB2.out.size))
              subst hwn
              cases ok with
              | false =>
               have HX := Lib.hid (show ∀ d0, ¬ IsStep s d0 from fun d0 hd => by
                have h1 := (HI.out.all (HC3.out d0 hd).1).1
                cases h1)
               clear HF HO HI HC3 HL HLw HRw HO2 HCi
               go_wp2
               go_ret
               exact .inr ⟨rfl, HB3.out, HX.out⟩
              | true =>
               have HX := Lib.hid (show ∀ d0, IsStep s d0 → (((3, cl), []), qs) = d0 from fun d0 hd => by
                obtain ⟨h1, h2⟩ := HC3.out d0 hd
                rw [(HI.out.all h1).2]
                exact h2)
               have HS := Lib.hid (show StO wr (((3, cl), []), qs) [.int .i64 3, .slice A2 cl.length a2, .slice none 0 0, .slice Aq qs.length cq] from ⟨_, _, _, rfl, HO2.out.keep (KeepT.below HF.out.bel), owZ_nil _, OwQ.mono HO.out, by show qs.length ≤ _; omega⟩)
               have HGd := Lib.hid (goodS_of HQ.out HX.out ⟨.inr (.inr ⟨rfl, rfl⟩), HCi.out, fun x hx => (List.not_mem_nil hx).elim, HI.out.can rfl⟩ (fun hsm => ⟨by show inr 3; unfold inr; omega, HCi.out, fun x hx => (List.not_mem_nil hx).elim, HI.out.good, by
                have h1 := HI.out.few
                rw [List.take_length] at h1
                show cl.length + 0 + (qs.map wt).sum + 5 ≤ _
                omega⟩))
               clear HF HO HI HC3 HL HLw HRw HO2 HCi
               go_wp2
               go_ret
               exact .inl ⟨_, _, rfl, HS.out, HGd.out.1, HGd.out.2, HB3.out, HX.out⟩
         · have hfz : (k == [102, 97, 114, 107, 97, 115]) = false := beq_eq_false_iff_ne.2 (show k ≠ [102, 97, 114, 107, 97, 115] from hf)
           have HX := Lib.hid (step_kind HW.out hk hu hf)
           have HB3 := Lib.hid (HB2.out.trans (HF.out.bel.mono HB2.out.size))
           clear HW HLen HR HL HB2 HF HO HCi ha hk hu hf
           go_wp2
           go_ret
           exact .inr ⟨rfl, HB3.out, HX.out⟩
     · have hltz : ¬ (byI r : Int) < (r.length : Int) := by omega
       have HX := Lib.hid (step_no HW.out (.inr (fun e => hlt (e.1 hk))))
       have HB3 := Lib.hid (HB2.out.trans (HF.out.bel.mono HB2.out.size))
       clear HW HLen HR HL HB2 HF HO HCi ha hk hlt
       go_wp2
       go_ret
       exact .inr ⟨rfl, HB3.out, HX.out⟩
 · have HX := Lib.hid (step_no HW.out (.inl ha))
   have HB2 := Lib.hid (HB.out.trans (hb.mono HB.out.size))
   clear ha hb HW HLen HR HL HB
   go_wp2
   go_ret
   exact .inr ⟨rfl, HB2.out.alloc HB2.out.size _, HX.out⟩
end Go.Proofs.YtidgpkccjcddgaaGreatDoor.F
