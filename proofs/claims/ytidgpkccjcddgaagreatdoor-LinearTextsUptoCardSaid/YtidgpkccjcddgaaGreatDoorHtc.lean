/- A text cut at each plus sign, and one part read: the reference's pieces and part of layer 6. Condition: a text of at most 67108864 bytes. -/
import Derived.Test.YtidgpkccjcddgaaGreatDoorHtb
import Derived.Test.YtidgpkccjcddgaaGreatDoorHta
import Derived.Test.YtidgpkccjcddgaaGreatDoorGq
set_option linter.unusedVariables false
set_option linter.unusedSimpArgs false
namespace Go.Proofs.YtidgpkccjcddgaaGreatDoor.F
open Go.RowKit Go.Shelf Go.Proofs.YtidgpkccjcddgaaGreatDoorW.PrintLast

def sv (x : List UInt8) : Value := .string ⟨x.toArray⟩
theorem noU_sv (x : List UInt8) : NoU [sv x] := fun y hy => by simp [sv] at hy
theorem info_str : (Tryz.prog.info? 9).map (fun i => (i.zero, i.size, i.bytes)) = some (some (.string ⟨#[]⟩), 1, 16) := by kernel_rfl
/-- 'append(l, s)' of strings -/
theorem push_str {w : World} {B n : Nat} {v : Value} {xs : List (List UInt8)} {x : List UInt8} (hown : OwnL w B 9 1 v n (xs.map sv)) (hn : n ≤ 4294967296) (hB : B ≤ w.heap.size) :
    ∃ v' w', (Builtin.append_ #[105, 105] 105 #[v, .slice (some ⟨w.heap.size, 0, none⟩) 1 1]).run Tryz.prog (w.alloc (.cells #[.string ⟨x.toArray⟩] 9)) = .ok v' w' ∧ OwnL w' B 9 1 v' (n + 1) ((xs ++ [x]).map sv) ∧ Below B w w' := by
  have hal : Below w.heap.size w (w.alloc (.cells #[sv x] 9)) := (Below.refl _ w).alloc (Nat.le_refl _) _
  have hob : Own (w.alloc (.cells #[sv x] 9)) w.heap.size [sv x] := Own.mk [sv x] 9
  obtain ⟨v', w', hr, ho, hs⟩ := push_run (P := Tryz.prog) (t := 105) (ty := 105) (n := n) (m := 1) (c := 1) (news := [sv x]) (ad := ⟨w.heap.size, 0, none⟩) Tryz.underlying105 info_str rfl (hown.below hal) (by simp) (fun j u hu => by
    have hj : j = 0 := by
      cases j with
      | zero => rfl
      | succ j => simp at hu
    subst hj
    simp at hu
    subst hu
    rw [show (⟨w.heap.size, 0, none⟩ : Addr).add 0 = ⟨w.heap.size, 0, none⟩ from rfl]
    exact hob.cell 0 (by simp)) (fun u hu => by rw [List.mem_singleton.1 hu]; rfl) (noU_sv x) (fun y hy => by simp [Value.cells] at hy) (by simp only [maxLen]; omega) (by omega) (Nat.le_trans hB hal.size)
  exact ⟨v', w', hr, by rw [List.map_append, List.map_singleton]; exact ho, (hal.mono hB).trans hs.below⟩
/-- texts in cells -/
def ToldSp (w : World) (xs : List (List UInt8)) (e : Ending) (w' : World) : Prop := ∃ g c, e = .returned (.slice (some ⟨g, 0, none⟩) xs.length c) ∧ Below w.heap.size w w' ∧ ∀ i (h : i < xs.length), w'.cell? ⟨g, i, none⟩ = some (.string ⟨xs[i].toArray⟩)
theorem ownS_told {w w' : World} {v : Value} {xs : List (List UInt8)} {n : Nat} (h : OwnL w' w.heap.size 9 1 v n (xs.map sv)) (hn : n = xs.length) (h0 : 0 < n) (hb : Below w.heap.size w w') : ToldSp w xs (.returned v) w' := by
  subst hn
  rcases h.2 with ⟨rfl, h1⟩ | ⟨g, cap, cur, rfl, h2⟩
  · omega
  · refine ⟨g, cap, rfl, hb, fun i hi => ?_⟩
    have := h.to.cells (g := g) rfl i (sv xs[i]) (by simp [hi])
    rwa [show (⟨g, 0, none⟩ : Addr).add i = ⟨g, i, none⟩ from by unfold Addr.add; split <;> simp_all] at this

set_option maxHeartbeats 2000000 in
set_option maxRecDepth 100000 in
theorem r6_pieces (s : List UInt8) (w : World) (hs : s.length ≤ 67108864) :
    Calls Tryz.prog 57 #[.string ⟨s.toArray⟩] w (ToldSp w (segsC 43 s)) := by
  have hz := str_size s
  have HG := Lib.hid (str_get s)
  have HC := Lib.hid (str_cut s)
  have HFr := Lib.hid (str_from s)
  have HL := Lib.hid (lnC_le 43 s)
  have HE := Lib.hid (segsC_ln 43 s)
  have HX := Lib.hid (show ∀ k, lnC 43 s (k + 1) = if s.getD k 0 == 43 then ((lnC 43 s k).1 ++ [((lnC 43 s k).2, k)], k + 1) else lnC 43 s k from fun k => rfl)
  generalize hS : (⟨s.toArray⟩ : ByteArray) = SB at *
  clear hS
  go_enter Tryz.func57, Tryz.ntmps57
  go_wp2_with fail
  go_loopg [3, 4, 5] s.length (fun gg s3 s4 s5 wr => ∃ (i : Nat) (v : Value) (sp : List (Nat × Nat)) (fr n : Nat), i + gg = s.length ∧ s5 = .int .i64 i ∧ s3 = v ∧ s4 = .int .i64 fr ∧ fr ≤ i ∧ n ≤ i ∧ Hid (n = sp.length) ∧ Hid ((sp, fr) = lnC 43 s i) ∧ Hid (OwnL wr w.heap.size 9 1 v n ((sp.map (cutAt s)).map sv)) ∧ Hid (Below w.heap.size w wr))
  case atStart => exact ⟨0, _, [], 0, 0, by omega, rfl, rfl, rfl, Nat.le_refl _, Nat.le_refl _, rfl, rfl, OwnL.nil _ _ _ _, Below.refl _ _⟩
  case round =>
    obtain ⟨i, v, sp, fr, n, hg, rfl, rfl, rfl, hfr, hn, HN, HS, HO, HB⟩ := hrel
    by_cases hlt : i < s.length
    · have hltz : (i : Int) < (s.length : Int) := by omega
      have hi2 : i < SB.size := by omega
      have hget := HG.out i hi2
      have hst := HX.out i
      rw [← HS.out, ← hget] at hst
      clear hget
      generalize hxy : SB[i]'hi2 = y at *
      by_cases hy : y = 43
      · have hyz : ((y.toNat : Int) == 43) = true := by rw [hy]; rfl
        rw [if_pos (by rw [hy]; rfl)] at hst
        have HS2 := Lib.hid hst.symm
        have hcut := HC.out fr i
        obtain ⟨v2, W2, hr, ho, hb⟩ := push_str (x := cutAt s (fr, i)) HO.out (by omega) HB.out.size
        have HP := Lib.hid hr
        have HO2 := Lib.hid (show OwnL W2 w.heap.size 9 1 v2 (n + 1) (((sp ++ [(fr, i)]).map (cutAt s)).map sv) by rw [List.map_append (l₁ := sp), List.map_singleton]; exact ho)
        have HB2 := Lib.hid (HB.out.trans hb)
        have HN2 := Lib.hid (show n + 1 = (sp ++ [(fr, i)]).length by rw [List.length_append, ← HN.out]; rfl)
        have hfz : (fr : Int) ≤ (i : Int) := by omega
        have hfz0 : (0 : Int) ≤ (fr : Int) := by omega
        have hiz0 : (0 : Int) ≤ (i : Int) := by omega
        have hiz1 : (i : Int) ≤ (s.length : Int) := by omega
        clear hst hr ho hb HO HB HS hy
        generalize cutAt s (fr, i) = ct at *
        go_wp2_with (refine pushL_ rfl rfl rfl rfl HP.out ?_; clear HP)
        go_roundg (s.length - (i + 1))
        case measure => omega
        case rel => exact ⟨i + 1, v2, sp ++ [(fr, i)], i + 1, n + 1, by omega, by go_num, rfl, by go_num, Nat.le_refl _, by omega, HN2, HS2, HO2, HB2⟩
      · have hyz : ((y.toNat : Int) == 43) = false := by
          rw [beq_eq_false_iff_ne]
          intro e
          exact hy (UInt8.toNat_inj.1 (show y.toNat = 43 by omega))
        rw [if_neg (by simpa using hy)] at hst
        have HS2 := Lib.hid hst.symm
        clear hst HS hy
        go_wp2
        go_roundg (s.length - (i + 1))
        case measure => omega
        case rel => exact ⟨i + 1, _, sp, fr, n, by omega, by go_num, rfl, rfl, by omega, by omega, HN, HS2, HO, HB⟩
    · have hltz : ¬ (i : Int) < (s.length : Int) := by omega
      have hil : i = s.length := by omega
      subst hil
      have hcut := HFr.out fr
      have HEq := Lib.hid (show segsC 43 s = sp.map (cutAt s) ++ [s.drop fr] by rw [HE.out, ← HS.out])
      obtain ⟨v2, W2, hr, ho, hb⟩ := push_str (x := s.drop fr) HO.out (by omega) HB.out.size
      have HP := Lib.hid hr
      have HT := Lib.hid (ownS_told (w := w) ho (by rw [List.length_append, List.length_map, ← HN.out]; rfl) (by omega) (HB.out.trans hb))
      rw [← HEq.out] at HT
      have hfz : (fr : Int) ≤ (s.length : Int) := by omega
      have hfz0 : (0 : Int) ≤ (fr : Int) := by omega
      clear hr ho hb HO HB HS HE HEq HX HL HN
      generalize s.drop fr = ct at *
      go_wp2_with (refine pushL_ rfl rfl rfl rfl HP.out ?_; clear HP)
      go_ret
      exact HT.out

/-! ### one part -/
theorem tt_first {m : Int × Rat} {s : List UInt8} (h : s = tt m) {i : Nat} (hi : i + 1 < s.length) (hp : s.getD i 0 = 42 ∧ s.getD (i + 1) 0 = 120) (hno : ∀ j, j < i → ¬ (s.getD j 0 = 42 ∧ s.getD (j + 1) 0 = 120)) :
    s.take i = tq m.2 ∧ s.drop (i + 2) = Lib.itoa m.1 := by
  have e : s = tq m.2 ++ 42 :: 120 :: Lib.itoa m.1 := h
  have hfree := tq_free42 m.2
  generalize tq m.2 = a at *
  generalize Lib.itoa m.1 = b at *
  have hia : i = a.length := by
    rcases Nat.lt_trichotomy i a.length with hlt | heq | hgt
    · exfalso
      have : s.getD i 0 = a[i] := by rw [e]; simp [List.getElem?_append_left hlt, hlt]
      rw [this] at hp
      exact hfree a[i] (List.getElem_mem hlt) hp.1
    · exact heq
    · exfalso
      refine hno a.length hgt ⟨?_, ?_⟩ <;> rw [e] <;> simp
  subst hia
  rw [e]
  refine ⟨List.take_left, ?_⟩
  rw [show a ++ 42 :: 120 :: b = (a ++ [42, 120]) ++ b by simp, show a.length + 2 = (a ++ [42, 120]).length by simp, List.drop_left]
theorem tt_none {m : Int × Rat} {s : List UInt8} (h : s = tt m) {i : Nat} (hi : ¬ i + 1 < s.length) (hno : ∀ j, j < i → ¬ (s.getD j 0 = 42 ∧ s.getD (j + 1) 0 = 120)) : False := by
  have e : s = tq m.2 ++ 42 :: 120 :: Lib.itoa m.1 := h
  have hn := itoa_ne m.1
  generalize tq m.2 = a at *
  generalize Lib.itoa m.1 = b at *
  have hb : 0 < b.length := List.length_pos_iff.2 hn
  have hl : s.length = a.length + (2 + b.length) := by rw [e]; simp; omega
  refine hno a.length (by omega) ⟨?_, ?_⟩ <;> rw [e] <;> simp

theorem Fr.third {w W : World} {a b c : Nat × List Value} {bs : List (Nat × List Value)} (h : Fr w W (a :: b :: c :: bs)) : Fr w W (c :: a :: b :: bs) := ⟨h.1, fun p hp => h.2 p (by simp only [List.mem_cons] at hp ⊢; rcases hp with h | h | h | h <;> simp [h])⟩
set_option maxHeartbeats 8000000 in
set_option maxRecDepth 100000 in
theorem r6_part (s : List UInt8) (w : World) (hs : s.length ≤ 67108864) :
    Calls Tryz.prog 58 #[.string ⟨s.toArray⟩] w (ToldPt w s) := by
  have HF := Lib.hid ((Fr.refl w).box [.int .i64 0, .bool false, .slice none 0 0, .slice none 0 0] 57)
  have hz := str_size s
  have HG := Lib.hid (str_get s)
  have HTo := Lib.hid (str_to s)
  have HFr := Lib.hid (str_from s)
  generalize hS : (⟨s.toArray⟩ : ByteArray) = SB at *
  clear hS
  go_enter Tryz.func58, Tryz.ntmps58
  go_wp2_with fail
  go_loopg [4] s.length (fun gg s4 wr => ∃ i : Nat, i + gg = s.length ∧ s4 = .int .i64 i ∧ wr = w.alloc (.cells #[.int .i64 0, .bool false, .slice none 0 0, .slice none 0 0] 57) ∧ Hid (∀ j, j < i → ¬ (s.getD j 0 = 42 ∧ s.getD (j + 1) 0 = 120)))
  case atStart => exact ⟨0, by omega, rfl, rfl, (show Hid _ from fun j hj => by omega)⟩
  case round =>
    obtain ⟨i, hg, rfl, rfl, HNo⟩ := hrel
    by_cases hlt : i + 1 < s.length
    · have hltz : (i : Int) + 1 < (s.length : Int) := by omega
      have hi1 : i < SB.size := by omega
      have hi2 : i + 1 < SB.size := by omega
      have g1 := HG.out i hi1
      have g2 := HG.out (i + 1) hi2
      have ez : ((i : Int) + 1).toNat = i + 1 := by omega
      by_cases hp : s.getD i 0 = 42 ∧ s.getD (i + 1) 0 = 120
      · have h1 : ((SB[i]'hi1).toNat : Int) = 42 := by rw [g1, hp.1]; rfl
        have h2 : ((SB[i + 1]'hi2).toNat : Int) = 120 := by rw [g2, hp.2]; rfl
        have hcut1 : SB.extract 0 i = ⟨(s.take i).toArray⟩ := HTo.out i
        have hcut2 : SB.extract (i + 2) s.length = ⟨(s.drop (i + 2)).toArray⟩ := HFr.out (i + 2)
        have HTT := Lib.hid (show ∀ m, s = tt m → s.take i = tq m.2 ∧ s.drop (i + 2) = Lib.itoa m.1 from fun m h => tt_first h hlt hp HNo.out)
        have hla : (s.take i).length ≤ s.length := by rw [List.length_take]; omega
        have hlb : (s.drop (i + 2)).length ≤ s.length := by rw [List.length_drop]; omega
        have hi3 : (i : Int) ≤ (s.length : Int) := by omega
        have hi4 : (i : Int) + 2 ≤ (s.length : Int) := by omega
        clear hp HNo HG HTo HFr g1 g2
        generalize s.take i = a at *
        generalize s.drop (i + 2) = b at *
        have hR := Lib.hid (fun (W : World) => r3_Parse a W (by omega))
        have hI := Lib.hid (fun (W : World) => r2_Parse b W (by omega))
        generalize haB : (⟨a.toArray⟩ : ByteArray) = AB at *
        generalize hbB : (⟨b.toArray⟩ : ByteArray) = BB at *
        go_wp2_with fail
        refine (hR.out _).mono ?_
        rintro e W2 (⟨q, A1, c1, B1, d1, rfl, q1, hq, q2, hx⟩ | ⟨rfl, q2, hx⟩)
        · replace HF := Lib.hid (HF.out.below q2)
          have HX := Lib.hid hx
          have hal := Lib.hid ((Below.refl _ W2).alloc (Nat.le_refl _) (.cells #[.bool (decide (q.num < 0)), .slice A1 (dg q.num.natAbs).length c1, .slice B1 (dg q.den).length d1] 43))
          replace HF := Lib.hid (HF.out.box [.bool (decide (q.num < 0)), .slice A1 (dg q.num.natAbs).length c1, .slice B1 (dg q.den).length d1] 43)
          have HQ := Lib.hid (q1.below hal.out)
          have HSz := Lib.hid (show szq q ≤ 2 * s.length + 4 ∧ QL q from ⟨by unfold szq; omega, by omega, by omega⟩)
          clear q1 q2 hx hal hR hq
          generalize hg2 : W2.heap.size = g2 at *
          generalize hqb : decide (q.num < 0) = qb at *
          generalize hqn : (dg q.num.natAbs).length = qn at *
          generalize hqd : (dg q.den).length = qd at *
          go_wp2_with fail
          refine (hI.out _).mono ?_
          rintro e W3 (⟨n, A4, c4, rfl, q3, hn3, q4, hx4⟩ | ⟨rfl, q4, hx4⟩)
          · replace HF := Lib.hid (HF.out.below q4)
            replace HQ := Lib.hid (HQ.out.below q4)
            have hal4 := Lib.hid ((Below.refl _ W3).alloc (Nat.le_refl _) (.cells #[.bool (decide (n < 0)), .slice A4 (dg n.natAbs).length c4] 41))
            replace HF := Lib.hid (HF.out.box [.bool (decide (n < 0)), .slice A4 (dg n.natAbs).length c4] 41)
            replace HQ := Lib.hid (HQ.out.below hal4.out)
            have HI4 := Lib.hid (q3.below hal4.out)
            have hSm := Lib.hid (r2_Small n A4 c4 _ HI4.out (by omega))
            have HX4 := Lib.hid hx4
            clear q3 q4 hal4 hI HI4 hn3 hx4
            generalize hg4 : W3.heap.size = g4 at *
            generalize hnb : decide (n < 0) = nb at *
            generalize hnl : (dg n.natAbs).length = nl at *
            go_wp2_with fail
            refine hSm.out.mono ?_
            rintro e W5 ⟨v, sb, rfl, hv5, hs5, q5⟩
            replace HF := Lib.hid (HF.out.below q5)
            replace HQ := Lib.hid (HQ.out.below q5)
            clear q5 hSm hnb hnl
            have HIv := Lib.hid (show inr v from hv5)
            rcases hs5 with ⟨hin, hvn, rfl⟩ | ⟨hin, rfl⟩
            · have HM := Lib.hid (show ∀ m : Int × Rat, inr m.1 → s = tt m → (v, q) = m from fun m hm h => by
                obtain ⟨h1, h2⟩ := HTT.out m h
                have h3 := HX4.out m.1 h2
                have h4 := HX.out m.2 h1
                rw [hvn, h3, h4])
              clear HX4 HX HTT hin hvn hv5
              have hf0 := HF.out.frozenN 2 rfl 0
              have hf1 := HF.out.frozenN 2 rfl 1
              have hf2 := HF.out.frozenN 2 rfl 2
              have hf3 := HF.out.frozenN 2 rfl 3
              have hd0 := HF.out.cellN 2 rfl 0 rfl
              have hd1 := HF.out.cellN 2 rfl 1 rfl
              have hd2 := HF.out.cellN 2 rfl 2 rfl
              have hd3 := HF.out.cellN 2 rfl 3 rfl
              have hr0 := HF.out.cellN 1 rfl 0 rfl
              have hr1 := HF.out.cellN 1 rfl 1 rfl
              have hr2 := HF.out.cellN 1 rfl 2 rfl
              have HE := Lib.hid (put4_end (Fr.third HF.out) (Nat.le_refl _) (by intro y hy; simp at hy) (.int .i64 v) (.bool qb) (.slice A1 qn c1) (.slice B1 qd d1) (by intro y hy; simp at hy) rfl)
              clear HF
              go_wp2
              subst hqb hqn hqd
              exact post_ownU HE.out.2.1 rfl rfl rfl Tryz.underlying57 rfl (by kernel_rfl) (.inl ⟨⟨v, q, A1, c1, B1, d1⟩, rfl, ⟨HQ.out.keep HE.out.2.2, HSz.out.2⟩, HIv.out, HSz.out.1, HE.out.1, HM.out⟩)
            · have HM := Lib.hid (show ∀ m : Int × Rat, inr m.1 → s ≠ tt m from fun m hm h => by
                obtain ⟨h1, h2⟩ := HTT.out m h
                have h3 := HX4.out m.1 h2
                exact hin (by rw [h3]; exact hm))
              clear HX4 HX HTT hin HSz HQ HIv hv5
              have hf0 := HF.out.frozenN 2 rfl 0
              have hf1 := HF.out.frozenN 2 rfl 1
              have hf2 := HF.out.frozenN 2 rfl 2
              have hf3 := HF.out.frozenN 2 rfl 3
              have hd0 := HF.out.cellN 2 rfl 0 rfl
              have hd1 := HF.out.cellN 2 rfl 1 rfl
              have hd2 := HF.out.cellN 2 rfl 2 rfl
              have hd3 := HF.out.cellN 2 rfl 3 rfl
              have hr0 := HF.out.cellN 1 rfl 0 rfl
              have hr1 := HF.out.cellN 1 rfl 1 rfl
              have hr2 := HF.out.cellN 1 rfl 2 rfl
              have HE := Lib.hid (put4_end (Fr.third HF.out) (Nat.le_refl _) (by intro y hy; simp at hy) (.int .i64 v) (.bool qb) (.slice A1 qn c1) (.slice B1 qd d1) (by intro y hy; simp at hy) rfl)
              clear HF
              go_wp2
              exact post_ownU HE.out.2.1 rfl rfl rfl Tryz.underlying57 rfl (by kernel_rfl) (.inr ⟨_, _, _, _, _, _, _, _, rfl, HE.out.1, HM.out⟩)
          · replace HF := Lib.hid (HF.out.below q4)
            have HM := Lib.hid (show ∀ m : Int × Rat, inr m.1 → s ≠ tt m from fun m hm h => hx4 m.1 (HTT.out m h).2)
            have hal4 := Lib.hid ((Below.refl _ W3).alloc (Nat.le_refl _) (.cells #[.bool false, .slice none 0 0] 41))
            replace HF := Lib.hid (HF.out.box [.bool false, .slice none 0 0] 41)
            have hSm := Lib.hid (r2_Small 0 none 0 (W3.alloc (.cells #[.bool false, .slice none 0 0] 41)) (by show In _ _ _ (dg 0); rw [dg_zero]; exact In.nil _ _ _) (by show (dg 0).length ≤ _; rw [dg_zero]; simp))
            have e0 : (dg (0 : Int).natAbs).length = 0 := by show (dg 0).length = 0; rw [dg_zero]; rfl
            have e1 : decide ((0 : Int) < 0) = false := by decide
            rw [e0, e1] at hSm
            clear q4 hal4 hI hx4 e0 e1
            clear HX HTT HSz HQ
            generalize hg4 : W3.heap.size = g4 at *
            go_wp2_with fail
            refine hSm.out.mono ?_
            rintro e W5 ⟨v, sb, rfl, hv5, hs5, q5⟩
            replace HF := Lib.hid (HF.out.below q5)
            clear q5 hSm
            clear hv5 hs5
            have hf0 := HF.out.frozenN 2 rfl 0
            have hf1 := HF.out.frozenN 2 rfl 1
            have hf2 := HF.out.frozenN 2 rfl 2
            have hf3 := HF.out.frozenN 2 rfl 3
            have hd0 := HF.out.cellN 2 rfl 0 rfl
            have hd1 := HF.out.cellN 2 rfl 1 rfl
            have hd2 := HF.out.cellN 2 rfl 2 rfl
            have hd3 := HF.out.cellN 2 rfl 3 rfl
            have hr0 := HF.out.cellN 1 rfl 0 rfl
            have hr1 := HF.out.cellN 1 rfl 1 rfl
            have hr2 := HF.out.cellN 1 rfl 2 rfl
            have HE := Lib.hid (put4_end (Fr.third HF.out) (Nat.le_refl _) (by intro y hy; simp at hy) (.int .i64 v) (.bool qb) (.slice A1 qn c1) (.slice B1 qd d1) (by intro y hy; simp at hy) rfl)
            clear HF
            go_wp2
            exact post_ownU HE.out.2.1 rfl rfl rfl Tryz.underlying57 rfl (by kernel_rfl) (.inr ⟨_, _, _, _, _, _, _, _, rfl, HE.out.1, HM.out⟩)
        · replace HF := Lib.hid (HF.out.below q2)
          have HM := Lib.hid (show ∀ m : Int × Rat, inr m.1 → s ≠ tt m from fun m hm h => hx m.2 (HTT.out m h).1)
          replace HF := Lib.hid (HF.out.box [.bool false, .slice none 0 0, .slice none 0 0] 43)
          clear q2 hx hR HTT
          generalize hg2 : W2.heap.size = g2 at *
          go_wp2_with fail
          refine (hI.out _).mono ?_
          rintro e W3 (⟨n, A4, c4, rfl, q3, hn3, q4, hx4⟩ | ⟨rfl, q4, hx4⟩)
          · replace HF := Lib.hid (HF.out.below q4)
            have hal4 := Lib.hid ((Below.refl _ W3).alloc (Nat.le_refl _) (.cells #[.bool (decide (n < 0)), .slice A4 (dg n.natAbs).length c4] 41))
            replace HF := Lib.hid (HF.out.box [.bool (decide (n < 0)), .slice A4 (dg n.natAbs).length c4] 41)
            have HI4 := Lib.hid (q3.below hal4.out)
            have hSm := Lib.hid (r2_Small n A4 c4 _ HI4.out (by omega))
            have HX4 := Lib.hid hx4
            clear q3 q4 hal4 hI HI4 hn3 hx4
            generalize hg4 : W3.heap.size = g4 at *
            generalize hnb : decide (n < 0) = nb at *
            generalize hnl : (dg n.natAbs).length = nl at *
            go_wp2_with fail
            refine hSm.out.mono ?_
            rintro e W5 ⟨v, sb, rfl, hv5, hs5, q5⟩
            replace HF := Lib.hid (HF.out.below q5)
            clear q5 hSm hnb hnl
            clear HX4 hv5 hs5
            have hf0 := HF.out.frozenN 2 rfl 0
            have hf1 := HF.out.frozenN 2 rfl 1
            have hf2 := HF.out.frozenN 2 rfl 2
            have hf3 := HF.out.frozenN 2 rfl 3
            have hd0 := HF.out.cellN 2 rfl 0 rfl
            have hd1 := HF.out.cellN 2 rfl 1 rfl
            have hd2 := HF.out.cellN 2 rfl 2 rfl
            have hd3 := HF.out.cellN 2 rfl 3 rfl
            have hr0 := HF.out.cellN 1 rfl 0 rfl
            have hr1 := HF.out.cellN 1 rfl 1 rfl
            have hr2 := HF.out.cellN 1 rfl 2 rfl
            have HE := Lib.hid (put4_end (Fr.third HF.out) (Nat.le_refl _) (by intro y hy; simp at hy) (.int .i64 v) (.bool false) (.slice none 0 0) (.slice none 0 0) (by intro y hy; simp at hy) rfl)
            clear HF
            go_wp2
            exact post_ownU HE.out.2.1 rfl rfl rfl Tryz.underlying57 rfl (by kernel_rfl) (.inr ⟨_, _, _, _, _, _, _, _, rfl, HE.out.1, HM.out⟩)
          · replace HF := Lib.hid (HF.out.below q4)
            have hal4 := Lib.hid ((Below.refl _ W3).alloc (Nat.le_refl _) (.cells #[.bool false, .slice none 0 0] 41))
            replace HF := Lib.hid (HF.out.box [.bool false, .slice none 0 0] 41)
            have hSm := Lib.hid (r2_Small 0 none 0 (W3.alloc (.cells #[.bool false, .slice none 0 0] 41)) (by show In _ _ _ (dg 0); rw [dg_zero]; exact In.nil _ _ _) (by show (dg 0).length ≤ _; rw [dg_zero]; simp))
            have e0 : (dg (0 : Int).natAbs).length = 0 := by show (dg 0).length = 0; rw [dg_zero]; rfl
            have e1 : decide ((0 : Int) < 0) = false := by decide
            rw [e0, e1] at hSm
            clear q4 hal4 hI hx4 e0 e1
            generalize hg4 : W3.heap.size = g4 at *
            go_wp2_with fail
            refine hSm.out.mono ?_
            rintro e W5 ⟨v, sb, rfl, hv5, hs5, q5⟩
            replace HF := Lib.hid (HF.out.below q5)
            clear q5 hSm
            clear hv5 hs5
            have hf0 := HF.out.frozenN 2 rfl 0
            have hf1 := HF.out.frozenN 2 rfl 1
            have hf2 := HF.out.frozenN 2 rfl 2
            have hf3 := HF.out.frozenN 2 rfl 3
            have hd0 := HF.out.cellN 2 rfl 0 rfl
            have hd1 := HF.out.cellN 2 rfl 1 rfl
            have hd2 := HF.out.cellN 2 rfl 2 rfl
            have hd3 := HF.out.cellN 2 rfl 3 rfl
            have hr0 := HF.out.cellN 1 rfl 0 rfl
            have hr1 := HF.out.cellN 1 rfl 1 rfl
            have hr2 := HF.out.cellN 1 rfl 2 rfl
            have HE := Lib.hid (put4_end (Fr.third HF.out) (Nat.le_refl _) (by intro y hy; simp at hy) (.int .i64 v) (.bool false) (.slice none 0 0) (.slice none 0 0) (by intro y hy; simp at hy) rfl)
            clear HF
            go_wp2
            exact post_ownU HE.out.2.1 rfl rfl rfl Tryz.underlying57 rfl (by kernel_rfl) (.inr ⟨_, _, _, _, _, _, _, _, rfl, HE.out.1, HM.out⟩)
      · have HN2 := Lib.hid (show ∀ j, j < i + 1 → ¬ (s.getD j 0 = 42 ∧ s.getD (j + 1) 0 = 120) from fun j hj => by
          by_cases e : j = i
          · subst e; exact hp
          · exact HNo.out j (by omega))
        have hpz : (((SB[i]'hi1).toNat : Int) == 42) = false ∨ (((SB[i]'hi1).toNat : Int) = 42 ∧ (((SB[i + 1]'hi2).toNat : Int) == 120) = false) := by
          rw [g1, g2]
          by_cases h1 : s.getD i 0 = 42
          · refine .inr ⟨by rw [h1]; rfl, ?_⟩
            rw [beq_eq_false_iff_ne]
            intro e
            exact hp ⟨h1, UInt8.toNat_inj.1 (show (s.getD (i + 1) 0).toNat = 120 by omega)⟩
          · refine .inl ?_
            rw [beq_eq_false_iff_ne]
            intro e
            exact h1 (UInt8.toNat_inj.1 (show (s.getD i 0).toNat = 42 by omega))
        clear hp HNo g1 g2
        rcases hpz with h1 | ⟨h1, h2⟩
        · go_wp2
          go_roundg (s.length - (i + 1))
          case measure => omega
          case rel => exact ⟨i + 1, by omega, by go_num, rfl, HN2⟩
        · go_wp2
          go_roundg (s.length - (i + 1))
          case measure => omega
          case rel => exact ⟨i + 1, by omega, by go_num, rfl, HN2⟩
    · have hltz : ¬ (i : Int) + 1 < (s.length : Int) := by omega
      have HM := Lib.hid (show ∀ m : Int × Rat, inr m.1 → s ≠ tt m from fun m hm h => tt_none h hlt HNo.out)
      clear HNo HG HTo HFr
      go_wp2
      exact post_ownU (HF.out.ownN 0 rfl) rfl rfl rfl Tryz.underlying57 rfl (by kernel_rfl) (.inr ⟨_, _, _, _, _, _, _, _, rfl, HF.out.bel, HM.out⟩)
end Go.Proofs.YtidgpkccjcddgaaGreatDoor.F
/- A form is read of a text: the reference's Parse of layer 6. Condition: a text of at most 67108864 bytes. -/
set_option linter.unusedVariables false
set_option linter.unusedSimpArgs false
namespace Go.Proofs.YtidgpkccjcddgaaGreatDoor.F
open Go.RowKit Go.Shelf Go.Proofs.YtidgpkccjcddgaaGreatDoorW.PrintLast

theorem normR (A : Option Addr) (c : Nat) (l : Frm) (w : World) (h : FIn w A c l) (hm : mf l ≤ 549755813) : Calls Tryz.prog 59 #[.slice A l.length c] w (ToldFm w (nform l)) := by
  have h1 := r6_Norm A c (l.map canM) w (h.raw (by have := mf_len' l; omega))
  rwa [List.length_map, fval_can] at h1
theorem textR (A : Option Addr) (c : Nat) (l : Frm) (w : World) (h : FIn w A c l) (hv : CanF (nform l)) (hm : mf l ≤ 549755813) : Calls Tryz.prog 18 #[.slice A l.length c] w fun e w' => e = .returned (.string ⟨(tf (nform l)).toArray⟩) ∧ Below w.heap.size w w' := by
  have h2 := r6_Text A c (l.map canM) w (h.raw (by have := mf_len' l; omega)) (by rw [fval_can]; exact TxOk.of hv.var (Nat.le_trans (mf_nform l) hm))
  rwa [List.length_map, fval_can] at h2

set_option maxHeartbeats 2000000 in
set_option maxRecDepth 100000 in
theorem r6_Parse (s : List UInt8) (w : World) (hs : s.length ≤ 67108864) :
    Calls Tryz.prog 15 #[.string ⟨s.toArray⟩] w (ToldPF w s) := by
  have HSp := Lib.hid (r6_pieces s w (by omega))
  have hSB : (⟨s.toArray⟩ : ByteArray).toList = s := ByteArray.toList_mk s
  generalize (⟨s.toArray⟩ : ByteArray) = SB at *
  by_cases h0 : s = [48]
  · have hz : (s == [48]) = true := by rw [h0]; rfl
    have HR := Lib.hid (show s = tf [] from h0)
    clear h0 HSp
    go_enter Tryz.func15, Tryz.ntmps15
    go_wp2
    go_ret2
    exact .inl ⟨[], none, 0, rfl, FIn.nil _ _ _, CanF.nil, HR.out, Nat.zero_le _, Below.refl _ _⟩
  · have hz : (s == [48]) = false := by simpa using h0
    have hn0 : ∀ l0, s = tf l0 → l0 ≠ [] := fun l0 h e => h0 (by rw [h, e]; rfl)
    have hseg : ∀ l0, s = tf l0 → segsC 43 s = l0.map tt := fun l0 h => by
      rw [h]; exact tf_segs (hn0 l0 h)
    have hcost := cost_segs 43 s
    obtain ⟨hfew, hlen⟩ := segs_few 43 s
    generalize segsC 43 s = xs at *
    have HSeg := Lib.hid hseg
    have HLen := Lib.hid hlen
    clear hn0 hseg hlen h0
    go_enter Tryz.func15, Tryz.ntmps15
    go_wp2_with fail
    refine HSp.out.mono ?_
    rintro e W1 ⟨g, cg, rfl, hb, hc⟩
    have HC := Lib.hid hc
    have HB1 := Lib.hid hb
    clear hc hb HSp
    go_wp2_with fail
    go_loopg [5, 6] xs.length (fun gg s5 s6 wr => ∃ (i : Nat) (v : Value) (l : Frm), i + gg = xs.length ∧ s6 = .int .i64 i ∧ s5 = v ∧ l.length = i ∧ mf l ≤ cost (xs.take i) ∧ Hid (OwnF wr W1.heap.size v l) ∧ Hid (∀ m ∈ l, inr m.1) ∧ Hid (∀ l0, CanF l0 → s = tf l0 → l = l0.take i) ∧ Hid (Below W1.heap.size W1 wr))
    case atStart => exact ⟨0, _, [], by omega, rfl, rfl, rfl, Nat.zero_le _, OwnF.nil _ _, (show Hid _ from fun m hm => by cases hm), (show Hid _ from fun l0 _ _ => by rw [List.take_zero]), Below.refl _ _⟩
    case round =>
      obtain ⟨i, v, l, hg, rfl, rfl, hli, hmf, HO, HV, HX, HB⟩ := hrel
      by_cases hlt : i < xs.length
      · have hltz : (i : Int) < (xs.length : Int) := by omega
        have hcell := cell_below HB.out (HC.out i hlt)
        have hct := cost_take xs i hlt
        have hxl := HLen.out xs[i] (List.getElem_mem hlt)
        have HXi := Lib.hid (show ∀ l0, s = tf l0 → ∃ h : i < l0.length, xs[i] = tt l0[i] from fun l0 h => by
          have h1 := HSeg.out l0 h
          have h2 : i < l0.length := by rw [h1] at hlt; simpa using hlt
          refine ⟨h2, ?_⟩
          simp only [h1, List.getElem_map])
        have HPt := Lib.hid (r6_part xs[i] wr (by omega))
        generalize xs[i] = x at *
        go_wp2_with fail
        refine HPt.out.mono ?_
        rintro e W2 (⟨r, rfl, hat, hiv, hsz, hb, hm⟩ | ⟨v1, b1, A1, n1, c1, B1, m1, d1, rfl, hb, hm⟩)
        · have hmu := mu_szq r.q
          have HA := Lib.hid hat
          have HM := Lib.hid hm
          have HIv := Lib.hid hiv
          replace HO := Lib.hid (HO.out.below hb)
          replace HB := Lib.hid (HB.out.trans (hb.mono HB.out.size))
          clear hat hm hiv hb HPt hcell
          have hal : Below W2.heap.size W2 (W2.alloc (.cells r.cells.toArray 57)) := (Below.refl _ W2).alloc (Nat.le_refl _) _
          have ho := Own.mk (w := W2) r.cells 57
          replace HO := Lib.hid (HO.out.below hal)
          replace HA := Lib.hid (HA.out.keep (KeepU.below hal))
          replace HB := Lib.hid (HB.out.trans (hal.mono HB.out.size))
          have c0 := ho.cell 0 (by show 0 < 4; omega)
          have c1 := ho.cell 1 (by show 1 < 4; omega)
          have c2 := ho.cell 2 (by show 2 < 4; omega)
          have c3 := ho.cell 3 (by show 3 < 4; omega)
          obtain ⟨v', W5, hr, hO', hb'⟩ := pushA HO.out HA.out (by omega) (HB.out.size)
          have HP := Lib.hid hr
          have HO2 := Lib.hid hO'
          have HB2 := Lib.hid (HB.out.trans hb')
          have HV2 := Lib.hid (show ∀ m ∈ l ++ [r.vq], inr m.1 from fun m hm => by
            rcases List.mem_append.1 hm with hm | hm
            · exact HV.out m hm
            · rw [List.mem_singleton.1 hm]; exact HIv.out)
          have HX2 := Lib.hid (show ∀ l0, CanF l0 → s = tf l0 → l ++ [r.vq] = l0.take (i + 1) from fun l0 hc h => by
            obtain ⟨h1, h2⟩ := HXi.out l0 h
            rw [List.take_succ_eq_append_getElem h1, ← HX.out l0 hc h, HM.out l0[i] (hc.var _ (List.getElem_mem h1)) h2])
          have hmf2 : mf (l ++ [r.vq]) ≤ cost (xs.take (i + 1)) := by
            rw [mf_append, hct]
            have : mf [r.vq] = mu r.q + 1 := by simp [mf, MC.vq]
            omega
          have hl2 : (l ++ [r.vq]).length = i + 1 := by rw [List.length_append, hli]; rfl
          generalize l ++ [r.vq] = l2 at *
          clear hr hO' hb' HO HV HX HM HXi HIv hsz hmu hct ho hal HA
          obtain ⟨rv0, rq0, rA, rc, rB, rd⟩ := r
          simp only [MC.cells] at HP c0 c1 c2 c3 ⊢
          simp only [List.getElem_cons_zero, List.getElem_cons_succ] at c0 c1 c2 c3
          go_upto_region 11 with (fail)
          generalize W2.alloc _ = W6 at HP c0 c1 c2 c3 ⊢
          go_wp2_with (refine pushL_ rfl rfl rfl rfl HP.out ?_; clear HP)
          go_roundg (xs.length - (i + 1))
          case measure => omega
          case rel => exact ⟨i + 1, v', l2, by omega, by go_num, rfl, hl2, hmf2, HO2, HV2, HX2, HB2⟩
        · have HR := Lib.hid (show ∀ l0, CanF l0 → s ≠ tf l0 from fun l0 hc h => by
            obtain ⟨h1, h2⟩ := HXi.out l0 h
            exact hm l0[i] (hc.var _ (List.getElem_mem h1)) h2)
          have HB9 := Lib.hid (HB1.out.trans ((HB.out.trans (hb.mono HB.out.size)).mono HB1.out.size))
          have hal : Below W2.heap.size W2 (W2.alloc (.cells #[.int .i64 v1, .bool b1, .slice A1 n1 c1, .slice B1 m1 d1] 57)) := (Below.refl _ W2).alloc (Nat.le_refl _) _
          have HB8 := Lib.hid (HB9.out.trans (hal.mono HB9.out.size))
          clear hm hb HPt HXi HX HV HO HB hal HB9
          go_wp2
          go_ret2
          exact .inr ⟨rfl, HB8.out, HR.out⟩
      · have hltz : ¬ (i : Int) < (xs.length : Int) := by omega
        have hil : i = xs.length := by omega
        have HXX := Lib.hid (show ∀ l0, CanF l0 → s = tf l0 → l = l0 from fun l0 hc h => by
          rw [HX.out l0 hc h]
          refine List.take_of_length_le ?_
          have h1 := HSeg.out l0 h
          rw [hil, h1, List.length_map]
          exact Nat.le_refl _)
        have hmf0 : mf l ≤ 6 * s.length + 6 := by rw [hil, List.take_of_length_le (Nat.le_refl _)] at hmf; omega
        obtain ⟨A, c, rfl, k1⟩ := HO.out.fin
        have HI := Lib.hid k1
        have HCn := Lib.hid (CanF.of HV.out)
        have HT := Lib.hid (textR A c l wr HI.out HCn.out (by omega))
        have HN := Lib.hid (fun (W : World) (k : FIn W A c l) => normR A c l W k (by omega))
        have HMn := Lib.hid (show mf (nform l) ≤ 6 * s.length + 6 from Nat.le_trans (mf_nform l) hmf0)
        replace HB := Lib.hid (HB1.out.trans (HB.out.mono HB1.out.size))
        clear HX HV HO k1 HSeg HLen HC hmf hmf0
        subst hli
        clear hil hg
        generalize hnl : nform l = nl at *
        have HNL := Lib.hid hnl
        clear hnl
        go_wp2_with fail
        refine HT.out.mono ?_
        rintro e W4 ⟨rfl, q1⟩
        replace HI := Lib.hid (HI.out.below q1)
        replace HB := Lib.hid (HB.out.trans (q1.mono HB.out.size))
        have HN4 := Lib.hid (HN.out _ HI.out)
        clear q1 HT HN HI
        by_cases heq : tf nl = s
        · have hte : (tf nl == s) = true := by rw [heq]; simp
          have HR := Lib.hid heq.symm
          clear heq
          go_wp2_with fail
          refine HN4.out.mono ?_
          rintro e W5 ⟨v5, rfl, h1, hb⟩
          obtain ⟨E3, j3, rfl, k3⟩ := h1.fin
          have HI3 := Lib.hid k3
          replace HB := Lib.hid (HB.out.trans (hb.mono HB.out.size))
          clear h1 k3 hb HN4
          go_wp2
          go_ret2
          exact .inl ⟨nl, _, _, rfl, HI3.out, HCn.out, HR.out, HMn.out, HB.out⟩
        · have hte : (tf nl == s) = false := by simpa using heq
          have HR := Lib.hid (show ∀ l0, CanF l0 → s ≠ tf l0 from fun l0 hc h => heq (by
            have h5 := HXX.out l0 hc h
            rw [← HNL.out, h5, nform_self hc.nf]
            exact h.symm))
          clear heq HNL HN4
          go_wp2
          go_ret2
          exact .inr ⟨rfl, HB.out, HR.out⟩
end Go.Proofs.YtidgpkccjcddgaaGreatDoor.F
