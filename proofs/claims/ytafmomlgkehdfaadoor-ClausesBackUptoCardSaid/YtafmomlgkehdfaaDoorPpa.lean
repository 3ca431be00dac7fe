/- The walk of clauses.Parse. Condition: texts of at most 67108864 bytes. -/
import Derived.Test.YtafmomlgkehdfaaDoorPrd
set_option linter.unusedVariables false
set_option linter.unusedSimpArgs false
namespace Go.Proofs.YtafmomlgkehdfaaDoor.F
open Go.RowKit Go.Shelf Go.Proofs.YtafmomlgkehdfaaDoorW.PrintLast

theorem split_ (l : List UInt8) (w : World) (hl : l.length ≤ 67108864) (m : Int) (hm : w.cell? ⟨1, 0, none⟩ = some (.int .i64 m)) :
    Calls Tryd.prog 19 #[.string ⟨l.toArray⟩, .string ⟨#[10]⟩] w fun e w' => e = .returned (.slice (some ⟨w.heap.size, 0, none⟩) (segs l).length (segs l).length) ∧ StrR 9 w' (some ⟨w.heap.size, 0, none⟩) (segs l) ∧ Below w.heap.size w w' := by
  have h := split_at ⟨l.toArray⟩ ⟨#[10]⟩ m w (by rw [str_size]; omega) hm (by decide)
  rw [split_segs, countB_toList, ← segs_length, List.map_map] at h
  refine h.mono fun e w' ⟨he, hw⟩ => ⟨he, ?_, hw ▸ (Below.refl _ w).alloc (Nat.le_refl _) _⟩
  subst hw
  have ho : Own (w.alloc (.cells ((segs l).map (Value.string ∘ fun x => ⟨x.toArray⟩)).toArray 9 (0, 0))) w.heap.size ((segs l).map sv) := Own.mk _ _
  refine ⟨strs_row fun i hi => ⟨_, rfl, ?_⟩, fun ad e => ?_⟩
  · rw [show (⟨w.heap.size, 0, none⟩ : Addr).add i = ⟨w.heap.size, i, none⟩ from by unfold Addr.add; split <;> simp_all]
    rw [ho.cell i (by simpa using hi)]
    simp
  · cases e
    exact ⟨_, _, heap_alloc_new w _⟩
theorem StrR.belowB {t : TypeId} {w w' : World} {ad : Addr} {B : Nat} {l : List (List UInt8)} (h : StrR t w (some ad) l) (hb : Below B w w') (had : ad.block < B) : StrR t w' (some ad) l := by
  refine ⟨fun i hi => ?_, fun a e => ?_⟩
  · obtain ⟨a, cs, e, hC, hc⟩ := h.1 i hi
    cases e
    exact ⟨ad, cs, rfl, hC, fun j u hu => (World.cell?_of_block (hb.block _ (by rw [add_block]; exact had))).trans (hc j u hu)⟩
  · cases e
    obtain ⟨cur, fz, h1⟩ := h.2 ad rfl
    exact ⟨cur, fz, (hb.block _ had).trans h1⟩
theorem StrR.take {t : TypeId} {w : World} {A : Option Addr} {l : List (List UInt8)} (h : StrR t w A l) (k : Nat) : StrR t w A (l.take k) := ⟨kStr_take h.1 k, h.2⟩

theorem results_tmp4 {fn : Func} {t u v x : Tmp} (h : fn.results = #[.tmp t, .tmp u, .tmp v, .tmp x]) (tmps : Array Value) (P : Program) (w : World) :
    (results fn tmps).run P w = .ok (.tuple #[tmps.getD t undef, tmps.getD u undef, tmps.getD v undef, tmps.getD x undef]) w := by
  simp [results, h]
/-- what Parse tells -/
def ToldP (w : World) (l : List UInt8) (e : Ending) (w' : World) : Prop :=
  ∃ A c, e = .returned (.tuple #[.int .i64 (parseV l).1, .slice A (parseV l).2.1.length c, .int .i64 (parseV l).2.2.1, .int .i64 (parseV l).2.2.2]) ∧ (parseV l).2.1.length ≤ c ∧ c ≤ maxLen ∧ (Knd.int .i64).slice.Row w' A (parseV l).2.1 ∧ Below w.heap.size w w'
theorem toldP_bad {w w' : World} {l : List UInt8} {n : Int} (h : parseV l = (0, [], 180, n)) (hb : Below w.heap.size w w') : ToldP w l (.returned (.tuple #[.int .i64 0, .slice none 0 0, .int .i64 180, .int .i64 n])) w' :=
  ⟨none, 0, by rw [h]; rfl, by rw [h]; exact Nat.le_refl _, by simp [maxLen], by rw [h]; exact Knd.row_nil _ _ _, hb⟩
theorem toldP_good {w w' : World} {l : List UInt8} {a : Int} {cl : List (List Int)} {A : Option Addr} {c : Nat} (h : parseV l = (a, cl, 0, 0)) (hc : cl.length ≤ c) (hm : c ≤ maxLen) (hr : (Knd.int .i64).slice.Row w' A cl) (hb : Below w.heap.size w w') : ToldP w l (.returned (.tuple #[.int .i64 a, .slice A cl.length c, .int .i64 0, .int .i64 0])) w' :=
  ⟨A, c, by rw [h], by rw [h]; exact hc, hm, by rw [h]; exact hr, hb⟩
theorem lns_le (l : List UInt8) : ∀ x ∈ lns l, x.length ≤ l.length := by
  intro x hx
  unfold lns at hx
  rcases List.mem_append.1 hx with hx | hx
  · obtain ⟨y, _, rfl⟩ := List.mem_map.1 hx
    unfold cutAt
    rw [List.length_drop, List.length_take]
    omega
  · split at hx
    · rw [List.mem_singleton.1 hx, List.length_drop]; omega
    · cases hx

set_option maxHeartbeats 4000000 in
set_option maxRecDepth 100000 in
theorem Parse (l : List UInt8) (w : World) (hl : l.length ≤ 67108864) (m : Int) (hm : w.cell? ⟨1, 0, none⟩ = some (.int .i64 m)) :
    Calls Tryd.prog 8 #[.string ⟨l.toArray⟩] w (ToldP w l) := by
  have HSp := Lib.hid (split_ l w hl m hm)
  have hne : 1 ≤ (segs l).length := List.length_pos_iff.2 (segs_ne l)
  have hlen : (segs l).length ≤ l.length + 1 := by
    rw [segs_lns, List.length_append, List.length_map, List.length_singleton]
    have := (lnS_le l l.length).2.2
    omega
  have hlast := segs_last l
  have HL := Lib.hid (lns_le l)
  have HTo := Lib.hid (tot_lns l)
  have HN1 := Lib.hid (@lns_of_full l)
  have HN2 := Lib.hid (@lns_of_empty l)
  have HE := Lib.hid (fun (i : Nat) (t : St) => @parseV_stop l t i)
  have HF := Lib.hid (fun (t : St) => @parseV_end l t)
  clear hm
  have hz := str_size l
  generalize hlst : l.drop (lnS l l.length).2 = lst at *
  obtain ⟨k, hk⟩ : ∃ k, (segs l).length = k + 1 := ⟨(segs l).length - 1, by omega⟩
  rw [hk] at HSp
  have HLs := Lib.hid (lns_length l)
  have hkl : k ≤ l.length := by omega
  go_enter Tryd.func8, Tryd.ntmps8
  go_wp2_with fail
  refine HSp.out.mono ?_
  rintro e W1 ⟨rfl, hr, q1⟩
  have HW := Lib.hid hr
  have HB := Lib.hid q1
  clear hr q1 HSp
  obtain ⟨_, e0, x0⟩ := Knd.at_str HW.out.1 k (by omega)
  obtain rfl := Option.some.inj e0
  have hll : (segs l)[k] = lst := Option.some.inj ((List.getElem?_eq_getElem (by omega)).symm.trans (by rw [hk] at hlast; exact hlast))
  rw [hll, show (⟨w.heap.size, 0, none⟩ : Addr).add k = ⟨w.heap.size, k, none⟩ from by unfold Addr.add; split <;> simp_all] at x0
  have hq : (⟨lst.toArray⟩ : ByteArray).toList = lst := ByteArray.toList_mk lst
  generalize (⟨lst.toArray⟩ : ByteArray) = L at *
  clear e0 hll hlast hlst hlen hne
  by_cases hlz : lst = []
  · have hq2 : L.toList.isEmpty = true := by rw [hq, hlz]; rfl
    have hls := HN2.out hlz
    have HW2 := Lib.hid (show StrR 9 W1 (some ⟨w.heap.size, 0, none⟩) (lns l) by rw [hls]; exact HW.out.take _)
    have hlk : (lns l).length = k := by rw [hls, List.length_take]; omega
    clear hls HW HN1 HN2 hk hq hlz
    generalize lns l = ls at *
    have hR1 := OwnT.mk (w := W1) (cells St.init (.slice none 0 0) (.slice none 0 0)) 43
    have hal : Below W1.heap.size W1 (W1.alloc (.cells (cells St.init (.slice none 0 0) (.slice none 0 0)).toArray 43 (0, 0))) := (Below.refl _ W1).alloc (Nat.le_refl _) _
    have HR := Lib.hid hR1
    have HS := Lib.hid (StV.init (W1.alloc (.cells (cells St.init (.slice none 0 0) (.slice none 0 0)).toArray 43 (0, 0))) (B := W1.heap.size) hal.size)
    have HW3 := Lib.hid (HW2.out.keep (KeepT.below hal))
    have HB3 := Lib.hid (HB.out.trans (hal.mono HB.out.size))
    have hwR : w.heap.size < W1.heap.size := by
      obtain ⟨cur, fz, h1⟩ := HW2.out.2 _ rfl
      exact (Array.getElem?_eq_some_iff.1 h1).1
    clear hR1 hal HW2 HB
    go_wp2
    go_loopg [28] ls.length (fun gg s28 wr => ∃ (i : Nat) (t : St) (vl vn : Value), i ≤ ls.length ∧ ls.length - i ≤ gg ∧ s28 = .int .i64 i ∧ Hid (stLs St.init 0 (ls.take i) = .inl t) ∧ Hid t.Fine ∧ t.now.length ≤ tot (ls.take i) ∧ t.l.length ≤ tot (ls.take i) ∧ Hid (OwnT wr W1.heap.size 43 (cells t vl vn)) ∧ Hid (StV wr W1.heap.size vl vn t.l t.now) ∧ Hid (StrR 9 wr (some ⟨w.heap.size, 0, none⟩) ls) ∧ Hid (Below w.heap.size w wr))
    case atStart => exact ⟨0, St.init, _, _, Nat.zero_le _, by omega, rfl, rfl, St.init_fine, Nat.le_refl _, Nat.le_refl _, HR, HS, HW3, HB3⟩
    case round =>
      clear HR HS HW3 HB3 x0
      obtain ⟨i, t, vl, vn, hi, hg, rfl, HT, HFn, hnow, hll, HR, HS, HW, HB⟩ := hrel
      by_cases hlt : i < ls.length
      · have hltz : (i : Int) < (k : Int) := by omega
        obtain ⟨_, e0, x0⟩ := Knd.at_str HW.out.1 i hlt
        obtain rfl := Option.some.inj e0
        rw [show (⟨w.heap.size, 0, none⟩ : Addr).add i = ⟨w.heap.size, i, none⟩ from by unfold Addr.add; split <;> simp_all] at x0
        have hxl : ls[i].length ≤ 67108864 := Nat.le_trans (HL.out ls[i] (List.getElem_mem hlt)) hl
        have hto := Nat.le_trans (tot_le ls i) HTo.out
        have hts := tot_take hlt
        have HLn := Lib.hid (rd_line W1.heap.size W1.heap.size t vl vn ls[i] wr (Nat.le_refl _) HR.out HS.out HFn.out (by omega) (by omega) hxl)
        have HStep := Lib.hid (stLs_take hlt HT.out)
        have HStop := Lib.hid (HE.out i t hlt HT.out)
        have HFi := Lib.hid (fun (t' : St) (h : stL t ls[i] = some t') => stL_fine h HFn.out)
        clear e0 HT HFn
        generalize hx : ls[i] = x at *
        generalize stL t x = ot at *
        clear hx
        generalize (⟨x.toArray⟩ : ByteArray) = X at *
        go_wp2_with fail
        refine HLn.out.mono ?_
        rintro e W3 ⟨rfl, hb3, hn3⟩
        have HB2 := Lib.hid (HB.out.trans (hb3.mono (Nat.le_of_lt hwR)))
        have HW2 := Lib.hid (HW.out.belowB hb3 hwR)
        have HN3 := Lib.hid hn3
        clear hb3 hn3 HLn HR HS HB HW
        cases ot with
        | none =>
          have hpv := Lib.hid (HStop.out rfl)
          go_wp2
          (try simp only [Exit.inBlock, Exit.then]); refine bodyPost_ret (results_tmp4 rfl _ _ _) rfl ?_
          exact toldP_bad hpv.out HB2.out
        | some t2 =>
          obtain ⟨vl2, vn2, hR2, hS2⟩ := HN3.out t2 rfl
          obtain ⟨hF2, hnow2, hll2⟩ := HFi.out t2 rfl
          have HR2 := Lib.hid hR2
          have HS2 := Lib.hid hS2
          have HF2 := Lib.hid hF2
          have HT2 := Lib.hid HStep.out
          have hn2 : t2.now.length ≤ tot (ls.take (i + 1)) := by rw [hts]; omega
          have hl2 : t2.l.length ≤ tot (ls.take (i + 1)) := by rw [hts]; omega
          clear hR2 hS2 hF2 HN3 HFi HStep HStop
          go_wp2
          go_roundg (ls.length - (i + 1))
          case measure => omega
          case rel => exact ⟨i + 1, t2, vl2, vn2, by omega, by omega, by go_num, HT2, HF2, hn2, hl2, HR2, HS2, HW2, HB2⟩
      · have hltz : ¬ (i : Int) < (k : Int) := by omega
        have hT := HT.out
        rw [List.take_of_length_le (by omega)] at hT
        have HP := Lib.hid (HF.out t hT)
        obtain ⟨A, c, rfl, hac, hcm, hrow⟩ := HS.out.row
        have hfm := HFn.out.many
        have HRw := Lib.hid hrow
        clear hT HT HS HF HE HL HFn hrow
        have c0 := HR.out.cellN 0 rfl
        have c1 := HR.out.cellN 1 rfl
        have c2 := HR.out.cellN 2 rfl
        have c3 := HR.out.cellN 3 rfl
        have c5 := HR.out.cellN 5 rfl
        clear HR HW
        obtain ⟨hd, at', mn, cl, nw, op⟩ := t
        simp only [cells] at *
        cases hd with
        | false =>
          have hpv := Lib.hid (HP.out.trans (if_pos (Or.inl rfl)))
          clear HP
          go_wp2_with fail
          go_quiet (fail)
          go_wp2
          (try simp only [Exit.inBlock, Exit.then]); refine bodyPost_ret (results_tmp4 rfl _ _ _) rfl ?_
          exact toldP_bad (hpv.out.trans (by rw [hlk] <;> rfl)) (below_drewN HB.out _)
        | true =>
          cases op with
          | true =>
            have hpv := Lib.hid (HP.out.trans (if_pos (Or.inr (Or.inl rfl))))
            clear HP
            go_wp2_with fail
            go_quiet (fail)
            go_wp2
            (try simp only [Exit.inBlock, Exit.then]); refine bodyPost_ret (results_tmp4 rfl _ _ _) rfl ?_
            exact toldP_bad (hpv.out.trans (by rw [hlk] <;> rfl)) (below_drewN HB.out _)
          | false =>
            by_cases hfull : (cl.length : Int) < mn
            · have hpv := Lib.hid (HP.out.trans (if_pos (Or.inr (Or.inr (show (cl.length : Int) ≠ mn by omega)))))
              clear HP
              go_wp2_with fail
              go_quiet (fail)
              go_wp2
              (try simp only [Exit.inBlock, Exit.then]); refine bodyPost_ret (results_tmp4 rfl _ _ _) rfl ?_
              exact toldP_bad (hpv.out.trans (by rw [hlk] <;> rfl)) (below_drewN HB.out _)
            · have hpv := Lib.hid (HP.out.trans (if_neg (by rintro (h | h | h); cases h; cases h; exact h (by show (cl.length : Int) = mn; have h1 : (cl.length : Int) ≤ mn := hfm; omega))))
              clear HP
              go_wp2_with fail
              go_quiet (fail)
              go_wp2_with fail
              go_quiet (fail)
              go_wp2
              (try simp only [Exit.inBlock, Exit.then]); refine bodyPost_ret (results_tmp4 rfl _ _ _) rfl ?_
              exact toldP_good hpv.out hac hcm (Knd.Row.below (below_drewN (below_drewN (Below.refl _ _) _) _) HRw.out) (below_drewN (below_drewN HB.out _) _)
  · have hq2 : L.toList.isEmpty = false := by rw [hq]; simpa using hlz
    have hls := HN1.out hlz
    have HW2 := Lib.hid (show StrR 9 W1 (some ⟨w.heap.size, 0, none⟩) (lns l) by rw [hls]; exact HW.out)
    have hlk : (lns l).length = k + 1 := by rw [hls, hk]
    clear hls HW HN1 HN2 hk hq hlz
    generalize lns l = ls at *
    have hR1 := OwnT.mk (w := W1) (cells St.init (.slice none 0 0) (.slice none 0 0)) 43
    have hal : Below W1.heap.size W1 (W1.alloc (.cells (cells St.init (.slice none 0 0) (.slice none 0 0)).toArray 43 (0, 0))) := (Below.refl _ W1).alloc (Nat.le_refl _) _
    have HR := Lib.hid hR1
    have HS := Lib.hid (StV.init (W1.alloc (.cells (cells St.init (.slice none 0 0) (.slice none 0 0)).toArray 43 (0, 0))) (B := W1.heap.size) hal.size)
    have HW3 := Lib.hid (HW2.out.keep (KeepT.below hal))
    have HB3 := Lib.hid (HB.out.trans (hal.mono HB.out.size))
    have hwR : w.heap.size < W1.heap.size := by
      obtain ⟨cur, fz, h1⟩ := HW2.out.2 _ rfl
      exact (Array.getElem?_eq_some_iff.1 h1).1
    clear hR1 hal HW2 HB
    go_wp2
    go_loopg [28] ls.length (fun gg s28 wr => ∃ (i : Nat) (t : St) (vl vn : Value), i ≤ ls.length ∧ ls.length - i ≤ gg ∧ s28 = .int .i64 i ∧ Hid (stLs St.init 0 (ls.take i) = .inl t) ∧ Hid t.Fine ∧ t.now.length ≤ tot (ls.take i) ∧ t.l.length ≤ tot (ls.take i) ∧ Hid (OwnT wr W1.heap.size 43 (cells t vl vn)) ∧ Hid (StV wr W1.heap.size vl vn t.l t.now) ∧ Hid (StrR 9 wr (some ⟨w.heap.size, 0, none⟩) ls) ∧ Hid (Below w.heap.size w wr))
    case atStart => exact ⟨0, St.init, _, _, Nat.zero_le _, by omega, rfl, rfl, St.init_fine, Nat.le_refl _, Nat.le_refl _, HR, HS, HW3, HB3⟩
    case round =>
      clear HR HS HW3 HB3 x0
      obtain ⟨i, t, vl, vn, hi, hg, rfl, HT, HFn, hnow, hll, HR, HS, HW, HB⟩ := hrel
      by_cases hlt : i < ls.length
      · have hltz : (i : Int) < ((k + 1 : Nat) : Int) := by omega
        obtain ⟨_, e0, x0⟩ := Knd.at_str HW.out.1 i hlt
        obtain rfl := Option.some.inj e0
        rw [show (⟨w.heap.size, 0, none⟩ : Addr).add i = ⟨w.heap.size, i, none⟩ from by unfold Addr.add; split <;> simp_all] at x0
        have hxl : ls[i].length ≤ 67108864 := Nat.le_trans (HL.out ls[i] (List.getElem_mem hlt)) hl
        have hto := Nat.le_trans (tot_le ls i) HTo.out
        have hts := tot_take hlt
        have HLn := Lib.hid (rd_line W1.heap.size W1.heap.size t vl vn ls[i] wr (Nat.le_refl _) HR.out HS.out HFn.out (by omega) (by omega) hxl)
        have HStep := Lib.hid (stLs_take hlt HT.out)
        have HStop := Lib.hid (HE.out i t hlt HT.out)
        have HFi := Lib.hid (fun (t' : St) (h : stL t ls[i] = some t') => stL_fine h HFn.out)
        clear e0 HT HFn
        generalize hx : ls[i] = x at *
        generalize stL t x = ot at *
        clear hx
        generalize (⟨x.toArray⟩ : ByteArray) = X at *
        go_wp2_with fail
        refine HLn.out.mono ?_
        rintro e W3 ⟨rfl, hb3, hn3⟩
        have HB2 := Lib.hid (HB.out.trans (hb3.mono (Nat.le_of_lt hwR)))
        have HW2 := Lib.hid (HW.out.belowB hb3 hwR)
        have HN3 := Lib.hid hn3
        clear hb3 hn3 HLn HR HS HB HW
        cases ot with
        | none =>
          have hpv := Lib.hid (HStop.out rfl)
          go_wp2
          (try simp only [Exit.inBlock, Exit.then]); refine bodyPost_ret (results_tmp4 rfl _ _ _) rfl ?_
          exact toldP_bad hpv.out HB2.out
        | some t2 =>
          obtain ⟨vl2, vn2, hR2, hS2⟩ := HN3.out t2 rfl
          obtain ⟨hF2, hnow2, hll2⟩ := HFi.out t2 rfl
          have HR2 := Lib.hid hR2
          have HS2 := Lib.hid hS2
          have HF2 := Lib.hid hF2
          have HT2 := Lib.hid HStep.out
          have hn2 : t2.now.length ≤ tot (ls.take (i + 1)) := by rw [hts]; omega
          have hl2 : t2.l.length ≤ tot (ls.take (i + 1)) := by rw [hts]; omega
          clear hR2 hS2 hF2 HN3 HFi HStep HStop
          go_wp2
          go_roundg (ls.length - (i + 1))
          case measure => omega
          case rel => exact ⟨i + 1, t2, vl2, vn2, by omega, by omega, by go_num, HT2, HF2, hn2, hl2, HR2, HS2, HW2, HB2⟩
      · have hltz : ¬ (i : Int) < ((k + 1 : Nat) : Int) := by omega
        have hT := HT.out
        rw [List.take_of_length_le (by omega)] at hT
        have HP := Lib.hid (HF.out t hT)
        obtain ⟨A, c, rfl, hac, hcm, hrow⟩ := HS.out.row
        have hfm := HFn.out.many
        have HRw := Lib.hid hrow
        clear hT HT HS HF HE HL HFn hrow
        have c0 := HR.out.cellN 0 rfl
        have c1 := HR.out.cellN 1 rfl
        have c2 := HR.out.cellN 2 rfl
        have c3 := HR.out.cellN 3 rfl
        have c5 := HR.out.cellN 5 rfl
        clear HR HW
        obtain ⟨hd, at', mn, cl, nw, op⟩ := t
        simp only [cells] at *
        cases hd with
        | false =>
          have hpv := Lib.hid (HP.out.trans (if_pos (Or.inl rfl)))
          clear HP
          go_wp2_with fail
          go_quiet (fail)
          go_wp2
          (try simp only [Exit.inBlock, Exit.then]); refine bodyPost_ret (results_tmp4 rfl _ _ _) rfl ?_
          exact toldP_bad (hpv.out.trans (by rw [hlk] <;> rfl)) (below_drewN HB.out _)
        | true =>
          cases op with
          | true =>
            have hpv := Lib.hid (HP.out.trans (if_pos (Or.inr (Or.inl rfl))))
            clear HP
            go_wp2_with fail
            go_quiet (fail)
            go_wp2
            (try simp only [Exit.inBlock, Exit.then]); refine bodyPost_ret (results_tmp4 rfl _ _ _) rfl ?_
            exact toldP_bad (hpv.out.trans (by rw [hlk] <;> rfl)) (below_drewN HB.out _)
          | false =>
            by_cases hfull : (cl.length : Int) < mn
            · have hpv := Lib.hid (HP.out.trans (if_pos (Or.inr (Or.inr (show (cl.length : Int) ≠ mn by omega)))))
              clear HP
              go_wp2_with fail
              go_quiet (fail)
              go_wp2
              (try simp only [Exit.inBlock, Exit.then]); refine bodyPost_ret (results_tmp4 rfl _ _ _) rfl ?_
              exact toldP_bad (hpv.out.trans (by rw [hlk] <;> rfl)) (below_drewN HB.out _)
            · have hpv := Lib.hid (HP.out.trans (if_neg (by rintro (h | h | h); cases h; cases h; exact h (by show (cl.length : Int) = mn; have h1 : (cl.length : Int) ≤ mn := hfm; omega))))
              clear HP
              go_wp2_with fail
              go_quiet (fail)
              go_wp2_with fail
              go_quiet (fail)
              go_wp2
              (try simp only [Exit.inBlock, Exit.then]); refine bodyPost_ret (results_tmp4 rfl _ _ _) rfl ?_
              exact toldP_good hpv.out hac hcm (Knd.Row.below (below_drewN (below_drewN (Below.refl _ _) _) _) HRw.out) (below_drewN (below_drewN HB.out _) _)
end Go.Proofs.YtafmomlgkehdfaaDoor.F
