/- proof.ints, the first line. Condition: words of at most 4000000000 bytes; the tables lie in blocks 0 to 3. -/
import Derived.Test.YtidgpkccjcddgaaGreatDoorHae
import Derived.Test.YtidgpkccjcddgaaGreatDoorHad
import Derived.Test.YtidgpkccjcddgaaGreatDoorHac
set_option linter.unusedVariables false
set_option linter.unusedSimpArgs false
namespace Go.Proofs.YtidgpkccjcddgaaGreatDoor.F
open Go.RowKit Go.Shelf Go.Proofs.YtidgpkccjcddgaaGreatDoorW.PrintLast
def StrRow (w : World) (A : Option Addr) (ws : List (List UInt8)) : Prop := ∀ i (h : i < ws.length), ∃ ad, A = some ad ∧ w.cell? (ad.add i) = some (.string ⟨ws[i].toArray⟩)
theorem StrRow.below {w w' : World} {A : Option Addr} {ws : List (List UInt8)} (h : StrRow w A ws) (hb : Below w.heap.size w w') : StrRow w' A ws := fun i hi => by
 obtain ⟨ad, e, hc⟩ := h i hi
 exact ⟨ad, e, cell_below hb hc⟩
def ToldIn (w : World) (ws : List (List UInt8)) (e : Ending) (w' : World) : Prop :=
 (∃ v, e = .returned (.tuple #[v, .bool true]) ∧ OwnL w' w.heap.size 3 1 v (ws.map valI).length (ic (ws.map valI)) ∧ ws.all okI = true ∧ Below w.heap.size w w') ∨
 (e = .returned (.tuple #[.slice none 0 0, .bool false]) ∧ ws.all okI = false ∧ Below w.heap.size w w')
theorem OwnL.set {W : World} {B : Nat} {e : TypeId} {sz : Nat} {v : Value} {n : Nat} {xs : List Value} {g i : Nat} (h : OwnL W B e sz v n xs) (hg : g < B) (y : Value) : OwnL (W.setCell ⟨g, i, none⟩ y) B e sz v n xs := h.kept fun k hk hv => by
 have := (h.to.lt k hv).1
 exact Below.heap_setCell _ _ _ _ (by show k ≠ g; omega)
theorem info_int : (Tryz.prog.info? 3).map (fun i => (i.zero, i.size, i.bytes)) = some (some (.int .i64 0), 1, 8) := by kernel_rfl
theorem pushZ {w : World} {B : Nat} {v : Value} {l : List Int} (h : OwnL w B 3 1 v l.length (ic l)) (x : Int) (hl : l.length ≤ 2199023255552) (hB : B ≤ w.heap.size) :
 ∃ v' w', (Builtin.append_ #[76, 76] 76 #[v, .slice (some ⟨w.heap.size, 0, none⟩) 1 1]).run Tryz.prog (w.alloc (.cells #[.int .i64 x] 3)) = .ok v' w' ∧ OwnL w' B 3 1 v' (l ++ [x]).length (ic (l ++ [x])) ∧ Below B w w' := by
 have hal : Below w.heap.size w (w.alloc (.cells #[.int .i64 x] 3)) := (Below.refl _ w).alloc (Nat.le_refl _) _
 have ho := Own.mk (w := w) [.int .i64 x] 3
 obtain ⟨v', w', hr, h5, h6⟩ := push_any (P := Tryz.prog) (w := w.alloc (.cells #[.int .i64 x] 3)) (ty := 76) (c := 1) (m := 1) (news := [.int .i64 x]) (A := some ⟨w.heap.size, 0, none⟩) Tryz.underlying76 info_int (by rfl) (h.below hal) rfl (fun _ => ⟨_, rfl, fun j u hj => by
  have hjl := (List.getElem?_eq_some_iff.1 hj).1
  have hj0 : j = 0 := by simpa using hjl
  subst hj0
  simp at hj
  subst hj
  exact ho.cell 0 (by simp)⟩) (fun u hu => by rw [List.mem_singleton.1 hu]; rfl) (fun y hy => by simp at hy) (fun y hy => by simp [Value.cells] at hy) (by simp only [maxLen]; omega) (by omega) (Nat.le_trans hB hal.size)
 refine ⟨v', w', hr, ?_, (hal.mono hB).trans h6.below⟩
 have e : ic l ++ [.int .i64 x] = ic (l ++ [x]) := by simp [ic]
 rw [e] at h5
 rw [List.length_append]
 exact h5
theorem all_take_stop {ws : List (List UInt8)} {i : Nat} (h : i < ws.length) (hn : okI ws[i] = false) : ws.all okI = false := by
 rw [List.all_eq_false]
 exact ⟨ws[i], List.getElem_mem h, by rw [hn]; simp⟩
set_option maxHeartbeats 2000000 in
set_option maxRecDepth 100000 in
theorem pr_ints (A : Option Addr) (c : Nat) (ws : List (List UInt8)) (w : World) (hr : StrRow w A ws) (hs : ∀ x ∈ ws, x.length ≤ 4000000000) (hl : ws.length ≤ 4000000000) (hL : Laid w) :
 Calls Tryz.prog 218 #[.slice A ws.length c] w (ToldIn w ws) := by
 have HR := Lib.hid hr
 have HS := Lib.hid hs
 have HL := Lib.hid hL
 have HT := Lib.hid (fun i (h : i < ws.length) => show (ws.take (i + 1)).map valI = (ws.take i).map valI ++ [valI ws[i]] from by rw [List.take_succ_eq_append_getElem h, List.map_append]; rfl)
 have HA := Lib.hid (fun i (h : i < ws.length) (ha : (ws.take i).all okI = true) (ho : okI ws[i] = true) => show (ws.take (i + 1)).all okI = true from by rw [List.take_succ_eq_append_getElem h, List.all_append, ha]; simp [ho])
 have HN := Lib.hid (fun i (h : i < ws.length) (ho : okI ws[i] = false) => all_take_stop h ho)
 clear hr hs hL
 go_enter Tryz.func218, Tryz.ntmps218
 go_wp2
 go_loopg [4, 11] ws.length (fun gg s4 s11 wr => ∃ (i : Nat) (v : Value), i + gg = ws.length ∧ s11 = .int .i64 i ∧ s4 = v ∧ Hid (OwnL wr w.heap.size 3 1 v ((ws.take i).map valI).length (ic ((ws.take i).map valI))) ∧ Hid ((ws.take i).all okI = true) ∧ Hid (Below w.heap.size w wr))
 case atStart => exact ⟨0, _, by omega, rfl, rfl, OwnL.nil _ _ _ _, (show Hid _ from rfl), Below.refl _ _⟩
 case round =>
  obtain ⟨i, v, hg, rfl, rfl, HO, HK, HB⟩ := hrel
  by_cases hlt : i < ws.length
  · have hltz : (i : Int) < (ws.length : Int) := by omega
    obtain ⟨ad, rfl, hc⟩ := HR.out i hlt
    have hc := cell_below HB.out hc
    have HAt := Lib.hid (atoi_l ws[i] wr (HS.out _ (List.getElem_mem hlt)) (HL.out.below HB.out))
    have HTi := Lib.hid (HT.out i hlt)
    have HAi := Lib.hid (HA.out i hlt)
    have HNi := Lib.hid (HN.out i hlt)
    have hli : ((ws.take i).map valI).length ≤ 2199023255552 := by rw [List.length_map, List.length_take]; omega
    obtain ⟨l2, hl2⟩ : ∃ l2, l2 = (ws.take (i + 1)).map valI := ⟨_, rfl⟩
    obtain ⟨k2, hk2⟩ : ∃ k2, k2 = (ws.take (i + 1)).all okI := ⟨_, rfl⟩
    have HL2 := Lib.hid hl2
    have HK3 := Lib.hid hk2
    rw [← hl2] at HTi
    rw [← hk2] at HAi
    clear hl2 hk2
    generalize (ws.take i).map valI = l1 at *
    generalize (ws.take i).all okI = k1 at *
    generalize ws[i] = x at *
    go_wp2_with fail
    refine HAt.out.mono ?_
    rintro e W2 ⟨n, err, rfl, hb, (⟨ha, rfl⟩ | ⟨ha, he⟩)⟩
    · obtain ⟨o1, o2⟩ := okI_of ha
      rw [o2] at HTi
      have HK2 := Lib.hid (HAi.out HK.out o1)
      replace HO := Lib.hid (HO.out.below hb)
      replace HB := Lib.hid (HB.out.trans (hb.mono HB.out.size))
      clear ha hb HAt HAi HNi o1 o2 hc
      obtain ⟨v', W5, hr, hO', hb'⟩ := pushZ HO.out n hli HB.out.size
      rw [← HTi.out] at hO'
      have HP := Lib.hid hr
      have HO3 := Lib.hid hO'
      have HB2 := Lib.hid (HB.out.trans hb')
      clear hr hO' hb' HO HTi HK HB
      go_wp2_with (refine pushL_ rfl rfl rfl rfl HP.out ?_; clear HP)
      go_roundg (ws.length - (i + 1))
      case measure => omega
      case rel => exact ⟨i + 1, v', by omega, by go_num, rfl, (by rw [← HL2.out]; exact HO3), (by rw [← HK3.out]; exact HK2), HB2⟩
    · have HX := Lib.hid (HNi.out (okI_no ha))
      have HB9 := Lib.hid (HB.out.trans (hb.mono HB.out.size))
      clear ha hb HAt HAi HNi HO HK HB HTi hc
      obtain ⟨te, pe, rfl⟩ := he
      go_wp2
      go_ret2
      exact .inr ⟨rfl, HX.out, HB9.out⟩
  · have hltz : ¬ (i : Int) < (ws.length : Int) := by omega
    have hil : i = ws.length := by omega
    subst hil
    rw [List.take_length] at *
    have HO3 := HO
    clear HO HT HA HN HR HS
    go_wp2
    go_ret2
    exact .inl ⟨_, rfl, HO3.out, HK.out, HB.out⟩
theorem canA_len {a : AtomD} (h : CanA a) : (nform (fval a.1.1.2)).length = a.1.1.2.length := by
 rcases h with rfl | ⟨n, _, rfl⟩ | ⟨l, q, st, _, hc, rfl⟩
 · rfl
 · rfl
 · show (nform (fval (l.map canM))).length = (l.map canM).length
   rw [nf_can hc, List.length_map]
theorem lnA_key {a b : AtomD} (ha : CanA a) (hb : CanA b) (h : keyA a = keyA b) : lnA a = lnA b := by
 obtain ⟨h1, h2, h3, h4⟩ := keyA_inj h
 have h5 : a.1.1.2.length = b.1.1.2.length := by rw [← canA_len ha, ← canA_len hb, h2]
 unfold lnA
 rw [h1, h2, h3, h4, h5]
theorem TabK.ext {l : List AtomD} {n : Nat} (h : TabK l n) (hn : n ≤ l.length) (d : AtomD) : TabK (l ++ [d]) n := fun j hj h1 h2 => by
 have hj' : j < l.length := by omega
 obtain ⟨a, b⟩ := h j hj' h1 h2
 refine ⟨by rw [List.getElem_append_left hj']; exact a, fun k hk hk0 => ?_⟩
 rw [List.getElem_append_left (by omega), List.getElem_append_left hj']
 exact b k hk hk0
theorem next_fine {t u : Ps} {s : List UInt8} (h : Fine t) (hn : NextOk t s u) : Fine u := by
 unfold NextOk at hn
 split at hn
 · obtain ⟨a, b, hh, rfl⟩ := hn
   obtain ⟨_, ha, hb, h1, h2, h3⟩ := hh
   exact ⟨fun e => (by cases e), fun _ => ⟨h1, h2, h3, hb⟩, (by show ((0 : Nat) : Int) ≤ a; omega), (by show ((0 : Nat) : Int) ≤ b; omega), fun e => absurd rfl e, fun x hx => (List.not_mem_nil hx).elim, fun x hx => (List.not_mem_nil hx).elim, fun j hj => absurd hj (Nat.not_lt_zero _), fun hj => absurd hj (Nat.not_lt_zero _), fun i hi => absurd hi (Nat.not_lt_zero _)⟩
 · rename_i hb
   split at hn
   · rename_i hlt
     obtain ⟨d, hd, hm, hnot, rfl⟩ := hn
     have hs : t.sl = [] := Classical.byContradiction fun e => by have := h.full e; omega
     have hl : (t.al ++ [d]).length = t.al.length + 1 := by rw [List.length_append]; rfl
     refine ⟨fun e => absurd e hb, h.many, ?_, h.steps, fun e => absurd hs e, mem_snoc h.canA hd.1, h.canS, ?_, ?_, h.may⟩
     · show ((t.al ++ [d]).length : Int) ≤ t.na
       rw [hl]; omega
     · show TabK (t.al ++ [d]) (t.al ++ [d]).length
       rw [hl]
       by_cases h0 : t.al.length = 0
       · rw [h0]; exact TabK.one _
       · rw [if_neg h0] at hm
         refine (h.tab.ext (Nat.le_refl _) d).succ (by rw [hl]; omega) ?_ fun k hk hk0 e => ?_
         · rw [List.getElem_append_right (Nat.le_refl _)]
           simpa using hm
         · rw [List.getElem_append_left hk, List.getElem_append_right (Nat.le_refl _)] at e
           simp only [Nat.sub_self, List.getElem_singleton] at e
           refine hnot (List.mem_map.2 ⟨t.al[k], List.getElem_mem hk, ?_⟩)
           exact lnA_key (h.canA _ (List.getElem_mem hk)) hd.1 e
     · intro hp
       show truthA (t.al ++ [d])[0] = true
       by_cases h0 : t.al.length = 0
       · rw [if_pos h0] at hm
         rw [List.getElem_append_right (by omega)]
         simpa [h0] using hm
       · rw [List.getElem_append_left (by omega)]
         exact h.tru (by omega)
   · rename_i hge
     split at hn
     · rename_i hlt
       obtain ⟨d, hd, hm, rfl⟩ := hn
       have hl : (t.sl ++ [d]).length = t.sl.length + 1 := by rw [List.length_append]; rfl
       refine ⟨fun e => absurd e hb, h.many, h.atoms, ?_, fun _ => ?_, h.canA, mem_snoc h.canS hd.1, h.tab, h.tru, fun i hi => ?_⟩
       · show ((t.sl ++ [d]).length : Int) ≤ t.ns
         rw [hl]; omega
       · show (t.al.length : Int) = t.na
         have := h.atoms
         omega
       · show mayS (t.sl ++ [d])[i] i t.na.toNat = true
         by_cases hi2 : i < t.sl.length
         · rw [List.getElem_append_left hi2]
           exact h.may i hi2
         · have hi3 : i < (t.sl ++ [d]).length := hi
           have : i = t.sl.length := by omega
           subst this
           rw [List.getElem_append_right (Nat.le_refl _)]
           simpa using hm
     · exact hn.elim
def lnsP (t : Ps) : List (List UInt8) := if t.beg = true then headT t.na t.ns :: (t.al.map lnA ++ t.sl.map lnP) else []
theorem lns_next {t u : Ps} {s : List UInt8} (h : Fine t) (hn : NextOk t s u) : lnsP u = lnsP t ++ [s] := by
 unfold NextOk at hn
 split at hn
 · rename_i hb
   obtain ⟨a, b, hh, rfl⟩ := hn
   unfold lnsP
   rw [if_pos rfl, hb, if_neg (by decide), hh.1]
   rfl
 · rename_i hb
   have hb : t.beg = true := by simpa using hb
   split at hn
   · rename_i hlt
     obtain ⟨d, hd, hm, hnot, rfl⟩ := hn
     have hs : t.sl = [] := Classical.byContradiction fun e => by have := h.full e; omega
     unfold lnsP
     rw [if_pos hb, if_pos hb, hs, ← hd.2]
     simp
   · split at hn
     · obtain ⟨d, hd, hm, rfl⟩ := hn
       unfold lnsP
       rw [if_pos hb, if_pos hb, ← hd.2]
       simp
     · exact hn.elim
theorem run_lns : ∀ (ls : List (List UInt8)) {t u : Ps} {k : Nat}, Fine t → runP t k ls = .inl u → lnsP u = lnsP t ++ ls
 | [], t, u, k, h, e => by rw [runP] at e; cases e; simp
 | x :: r, t, u, k, h, e => by
  rw [runP] at e
  cases hx : nxP t x with
  | none => rw [hx] at e; cases e
  | some v =>
   rw [hx] at e
   rw [run_lns r (next_fine h (nxt_ok hx)) e, lns_next h (nxt_ok hx)]
   simp
theorem join_ends (c : UInt8) : ∀ (x : List UInt8) (l : List (List UInt8)), joinC c (x :: (l ++ [[]])) = (x :: l).flatMap (· ++ [c])
 | x, [] => by simp [joinC]
 | x, y :: r => by rw [List.cons_append, joinC_cons c (List.cons_ne_nil _ _), join_ends c y r]; simp
def cw (xs : List (List UInt8)) : Nat := (xs.map fun x => 6 * x.length + 6).sum
theorem cw_take (xs : List (List UInt8)) (i : Nat) (h : i < xs.length) : cw (xs.take (i + 1)) = cw (xs.take i) + (6 * xs[i].length + 6) := by
 unfold cw
 rw [List.take_succ_eq_append_getElem h, List.map_append, List.sum_append]
 simp
theorem cw_glue (b : UInt8) {l : List (List UInt8)} (h : l ≠ []) : cw (glueC b l) = cw l + 6 := by
 cases l with
 | nil => exact absurd rfl h
 | cons x xs => unfold cw glueC; simp only [List.map_cons, List.sum_cons, List.length_cons]; omega
theorem cw_segs (c : UInt8) : ∀ s : List UInt8, cw (segsC c s) ≤ 6 * s.length + 6
 | [] => Nat.le_refl _
 | b :: r => by
  have ih := cw_segs c r
  rw [segsC, List.length_cons]
  split
  · have e : cw ([] :: segsC c r) = 6 + cw (segsC c r) := by unfold cw; simp
    omega
  · rw [cw_glue b (segsC_ne c r)]; omega
theorem cw_len : ∀ xs : List (List UInt8), xs.length ≤ cw xs
 | [] => Nat.le_refl _
 | x :: xs => by
  have ih := cw_len xs
  unfold cw at *
  rw [List.map_cons, List.sum_cons, List.length_cons]
  omega
theorem cw_append (a b : List (List UInt8)) : cw (a ++ b) = cw a + cw b := by unfold cw; rw [List.map_append, List.sum_append]
theorem cw_cons (x : List UInt8) (l : List (List UInt8)) : cw (x :: l) = 6 * x.length + 6 + cw l := by unfold cw; rw [List.map_cons, List.sum_cons]
theorem cw_parts (r : List (List UInt8)) (n : Nat) : (r.take n).length + cw (r.drop (n + 1)) ≤ cw r := by
 have h1 := cw_len (r.take n)
 have h2 : cw r = cw (r.take n) + cw (r.drop n) := by rw [← cw_append, List.take_append_drop]
 have h3 : cw (r.drop (n + 1)) ≤ cw (r.drop n) := by
  by_cases h : n < r.length
  · have e := List.drop_eq_getElem_cons h
    rw [e, cw_cons]
    omega
  · rw [List.drop_of_length_le (by omega), List.drop_of_length_le (by omega)]
    exact Nat.le_refl _
 omega
theorem tq_zero : tq 0 = [48] := by decide +kernel
theorem tz1 : (tq 0).length ≤ 1048576 - (tf []).length := by rw [tq_zero]; decide
theorem tz2 : (tf []).length + (tq 0).length ≤ 2 := by rw [tq_zero]; decide
theorem goodA_line {a : AtomD} (h : CanA a) (hl : (lnA a).length ≤ 1048576) : GoodA a := by
 rcases h with rfl | ⟨n, hn, rfl⟩ | ⟨l, q, st, hne, hc, rfl⟩
 · exact good_text (l := []) (q := 0) CanF.nil (by decide) tz1 (by decide) (.inl rfl)
 · rw [lnA_B hn] at hl
   simp only [joinC, List.length_append, List.length_cons, hexN_len, wBo, List.length_nil] at hl
   exact good_text (nm := ⟨n.toArray⟩) (l := []) (q := 0) (st := false) CanF.nil (by decide) tz1 (by show n.toArray.size ≤ _; rw [List.size_toArray]; omega) (.inr tz2)
 · rw [lnA_L hc hne] at hl
   simp only [joinC, List.length_append, List.length_cons] at hl
   exact good_text hc (by omega) (by omega) (Nat.zero_le _) (.inl rfl)
theorem parse_awake : parseV [114, 101, 102, 117, 116, 97, 116, 105, 111, 110, 32, 49, 32, 48, 10, 116, 114, 117, 101, 10] = .inl ([tokT], []) := by
 have e1 : headT 1 0 = [114, 101, 102, 117, 116, 97, 116, 105, 111, 110, 32, 49, 32, 48] := by decide +kernel
 have es : segsC 10 [114, 101, 102, 117, 116, 97, 116, 105, 111, 110, 32, 49, 32, 48, 10, 116, 114, 117, 101, 10] = [headT 1 0, wT, []] := by rw [e1]; decide +kernel
 have n1 : nxP Ps.init (headT 1 0) = some ⟨true, 1, 0, [], []⟩ := nxt_some (by
  unfold NextOk
  rw [if_pos (show Ps.init.beg = false from rfl)]
  exact ⟨1, 0, ⟨rfl, by unfold inr; omega, by unfold inr; omega, by omega, by omega, by omega⟩, rfl⟩)
 have n2 : nxP ⟨true, 1, 0, [], []⟩ wT = some ⟨true, 1, 0, [tokT], []⟩ := nxt_some (by
  unfold NextOk
  rw [if_neg (by decide), if_pos (by decide)]
  exact ⟨tokT, ⟨.inl rfl, rfl⟩, by rw [if_pos (show ([] : List AtomD).length = 0 from rfl)]; exact truth_T, by simp, rfl⟩)
 have hr : runP Ps.init 0 [headT 1 0, wT] = .inl ⟨true, 1, 0, [tokT], []⟩ := by
  rw [runP, n1]
  show runP ⟨true, 1, 0, [], []⟩ 1 [wT] = _
  rw [runP, n2]
  rfl
 have hd : (segsC 10 [114, 101, 102, 117, 116, 97, 116, 105, 111, 110, 32, 49, 32, 48, 10, 116, 114, 117, 101, 10]).dropLast = [headT 1 0, wT] := by rw [es]; rfl
 have hg : (segsC 10 [114, 101, 102, 117, 116, 97, 116, 105, 111, 110, 32, 49, 32, 48, 10, 116, 114, 117, 101, 10]).getLast (segsC_ne 10 _) = [] := by simp only [es]; rfl
 unfold parseV
 rw [hd, hr]
 simp only [hg]
 simp
structure FarI (ws : List (List UInt8)) (i : Nat) (ok : Bool) (qs : List RatD) : Prop where
 len : qs.length = i
 good : ∀ q ∈ qs, Good (wt q) q
 few : (qs.map wt).sum ≤ cw (ws.take i)
 at_ : ∀ j (h : j < ws.length) (h2 : j < qs.length) q0, ws[j] = tq q0 → qs[j] = canD q0
 can : ok = true → ∀ q ∈ qs, q = canD (rq q)
 bad : ok = false → ∃ j, ∃ h : j < ws.length, ∀ q0, ws[j] ≠ tq q0
theorem FarI.init (ws : List (List UInt8)) : FarI ws 0 true [] := ⟨rfl, fun q hq => (List.not_mem_nil hq).elim, Nat.zero_le _, fun j h h2 => absurd h2 (Nat.not_lt_zero _), fun _ q hq => (List.not_mem_nil hq).elim, fun e => by cases e⟩
theorem FarI.snoc {ws : List (List UInt8)} {i : Nat} {ok ok' : Bool} {qs : List RatD} {y : RatD} (h : FarI ws i ok qs) (hi : i < ws.length) (hg : Good (wt y) y) (hw : wt y ≤ 6 * ws[i].length + 6) (ha : ∀ q0, ws[i] = tq q0 → y = canD q0)
 (hc : ok' = true → ok = true ∧ y = canD (rq y)) (hb : ok' = false → ok = false ∨ ∀ q0, ws[i] ≠ tq q0) : FarI ws (i + 1) ok' (qs ++ [y]) := by
 obtain ⟨h1, h2, h3, h4, h5, h6⟩ := h
 refine ⟨by rw [List.length_append, h1]; rfl, mem_snoc h2 hg, ?_, fun j hj hj2 q0 e => ?_, fun e => ?_, fun e => ?_⟩
 · rw [cw_take ws i hi, List.map_append, List.sum_append, List.map_singleton, List.sum_singleton]
   omega
 · by_cases hlt : j < qs.length
   · rw [List.getElem_append_left hlt]
     exact h4 j hj hlt q0 e
   · rw [List.length_append, List.length_singleton] at hj2
     have hji : j = i := by omega
     subst hji
     rw [List.getElem_append_right (by omega)]
     simp only [h1, Nat.sub_self, List.getElem_singleton]
     exact ha q0 e
 · obtain ⟨e1, e2⟩ := hc e
   exact mem_snoc (h5 e1) e2
 · rcases hb e with e | e
   · exact h6 e
   · exact ⟨i, hi, e⟩
theorem FarI.ok {ws : List (List UInt8)} {i : Nat} {ok : Bool} {qs : List RatD} {q : Rat} (h : FarI ws i ok qs) (hi : i < ws.length) (hl : (dg q.num.natAbs).length + (dg q.den).length ≤ min (2 * ws[i].length + 4) (6 * ws[i].length)) (hx : ∀ q0, ws[i] = tq q0 → q = q0) : FarI ws (i + 1) ok (qs ++ [canD q]) := by
 refine h.snoc hi (good_can q) ?_ (fun q0 e => by rw [hx q0 e]) (fun e => ⟨e, by rw [rq_can]⟩) (fun e => .inl e)
 show (dg q.num.natAbs).length + (dg q.den).length + 5 ≤ _
 omega
theorem FarI.no {ws : List (List UInt8)} {i : Nat} {ok : Bool} {qs : List RatD} (h : FarI ws i ok qs) (hi : i < ws.length) (hx : ∀ q0, ws[i] ≠ tq q0) : FarI ws (i + 1) false (qs ++ [((false, []), [])]) := by
 refine h.snoc hi ⟨Lim.nil, Lim.nil, Nat.zero_le _, Nat.zero_le _⟩ ?_ (fun q0 e => absurd e (hx q0)) (fun e => by cases e) (fun _ => .inr hx)
 show 0 + 0 + 5 ≤ _
 omega
theorem FarI.all {ws : List (List UInt8)} {ok : Bool} {qs : List RatD} (h : FarI ws ws.length ok qs) (ha : ws.all okQ = true) : ok = true ∧ qs = ws.map fun x => canD (qOf x) := by
 have hq : ∀ j (hj : j < ws.length), ws[j] = tq (qOf ws[j]) := fun j hj => by
  have h1 := List.all_eq_true.1 ha ws[j] (List.getElem_mem hj)
  exact okQ_val h1
 constructor
 · cases ok with
   | true => rfl
   | false =>
    obtain ⟨j, hj, e⟩ := h.bad rfl
    exact absurd (hq j hj) (e _)
 · refine List.ext_getElem (by rw [h.len, List.length_map]) fun j h1 h2 => ?_
   rw [List.getElem_map]
   exact h.at_ j (by rw [List.length_map] at h2; exact h2) h1 _ (hq j _)
theorem info_Rat3 : (Tryz.prog.info? 43).map (fun i => (i.zero, i.size, i.bytes)) = some (some (.agg #[.bool false, .slice none 0 0, .slice none 0 0]), 3, 56) := by kernel_rfl
theorem OwQ.mono {w : World} {B : Nat} {v : Value} {l : List RatD} (h : OwY w B 43 3 AtQ v l) : OwQ w v l := by
 obtain ⟨rs, h1, h2, h3, h4⟩ := h
 exact ⟨rs, h1, h2, h3, h4.mono (Nat.zero_le _)⟩
theorem pushQ {w : World} {B : Nat} {v : Value} {l : List RatD} (h : OwY w B 43 3 AtQ v l) {b : Bool} {xs ys : List Int} {A : Option Addr} {c : Nat} {D : Option Addr} {d : Nat} (k : InD w ((b, xs), ys) A c D d) (k1 : xs.length ≤ 137438953472) (k2 : ys.length ≤ 137438953472) (hl : l.length ≤ 1099511627776) (hB : B ≤ w.heap.size) :
 ∃ v' w', (Builtin.append_ #[78, 78] 78 #[v, .slice (some ⟨w.heap.size, 0, none⟩) 1 1]).run Tryz.prog (w.alloc (.cells #[.bool b, .slice A xs.length c, .slice D ys.length d] 43)) = .ok v' w' ∧ OwY w' B 43 3 AtQ v' (l ++ [((b, xs), ys)]) ∧ Below B w w' := by
 have hal : Below w.heap.size w (w.alloc (.cells #[.bool b, .slice A xs.length c, .slice D ys.length d] 43)) := (Below.refl _ w).alloc (Nat.le_refl _) _
 have ho := Own.mk (w := w) [.bool b, .slice A xs.length c, .slice D ys.length d] 43
 obtain ⟨v', w', hr, h1, h2, _⟩ := OwY.push (P := Tryz.prog) (ty := 78) (x := ((b, xs), ys)) Tryz.underlying78 info_Rat3 rfl (fun y hy => by simp [Value.cells] at hy) (h.below atQ_nst hal) atQ_nst (fun t ht => (List.not_mem_nil ht).elim) ho
  ⟨A, c, D, d, rfl, k.keep (KeepU.below hal), k1, k2⟩ rfl (fun u hu => by
   simp only [List.mem_cons, List.not_mem_nil, or_false] at hu
   rcases hu with rfl | rfl | rfl <;> rfl) (fun y hy => by simp at hy) (by omega) (by decide) (Nat.le_trans hB hal.size)
 exact ⟨v', w', hr, h1, (hal.mono hB).trans h2⟩
theorem Fr.belowB {w W W' : World} {bs : List (Nat × List Value)} {B : Nat} (h : Fr w W bs) (hb : Below B W W') (hB : w.heap.size ≤ B) (hp : ∀ p ∈ bs, p.1 < B) : Fr w W' bs := ⟨h.1.trans (hb.mono hB), fun p hm => (h.2 p hm).below hb (hp p hm)⟩
theorem OwY.setQ {W : World} {B : Nat} {v : Value} {l : List RatD} (h : OwY W B 43 3 AtQ v l) {g : Nat} {cs : List Value} (ho : Own W g cs) (hu : NoU cs) (hg : g < B) (i : Nat) (y : Value) : OwY (W.setCell ⟨g, i, none⟩ y) B 43 3 AtQ v l := by
 obtain ⟨rs, h1, h2, h3, h4⟩ := h
 have hk : KeepU W (W.setCell ⟨g, i, none⟩ y) := KeepU.of_blocks fun k hk => by
  by_cases e : k = g
  · subst e
    obtain ⟨t, ht⟩ := ho
    exact .inr ⟨_, _, _, ht, by simpa using hu⟩
  · exact .inl (Below.heap_setCell _ _ _ _ e)
 exact ⟨rs, h1, h2, fun j a b => atQ_nst _ _ _ _ (h3 j a b) hk (fun t ht => (List.not_mem_nil ht).elim), OwnL.set h4 hg y⟩
theorem str_cut (l : List UInt8) (a b : Nat) : (⟨l.toArray⟩ : ByteArray).extract a b = ⟨(cutAt l (a, b)).toArray⟩ := by
 apply ByteArray.ext
 rw [ByteArray.data_extract]
 simp [cutAt, List.drop_take]
end Go.Proofs.YtidgpkccjcddgaaGreatDoor.F
