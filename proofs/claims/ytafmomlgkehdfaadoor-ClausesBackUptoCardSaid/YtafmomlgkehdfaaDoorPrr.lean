/- The walks of the reference's headed and line. Condition: words of at most 67108864 bytes, what was read so far bounded. -/
import Derived.Test.YtafmomlgkehdfaaDoorPpa
import Derived.Test.YtafmomlgkehdfaaDoorPrw
set_option linter.unusedVariables false
set_option linter.unusedSimpArgs false
namespace Go.Proofs.YtafmomlgkehdfaaDoor.F
open Go.RowKit Go.Shelf Go.Proofs.YtafmomlgkehdfaaDoorW.PrintLast

theorem results_cell_row2 {P : Program} {fn : Func} {p u : Tmp} {ty : TypeId} (h : fn.results = #[.cell p ty, .tmp u]) (tmps : Array Value) (w : World) (g : Nat) (t : TypeId) (cs : Array Value) (fr : Nat × Nat) (d : TypeDesc)
    (hp : tmps.getD p undef = .pointer (some ⟨g, 0, none⟩)) (hg : w.heap[g]? = some (.cells cs t fr))
    (hu : P.underlying ty = some d) (hd : (match d with | .struct _ | .array _ _ => true | _ => false) = true) (hi : (P.info? ty).map (·.size) = some cs.size) :
    (results fn tmps).run P w = .ok (.tuple #[.agg cs, tmps.getD u undef]) w := by
  have hp' : tmps[p]?.getD undef = .pointer (some ⟨g, 0, none⟩) := by simpa using hp
  simp [results, h, hp', asAddr, run_loadVar_row w g t ty cs fr d hg hu hd hi]
/-- the end of a call whose first result lies in cells -/
theorem post_own2 {P : Program} {fn : Func} {R : Ending → World → Prop} {a : Act} {w : World} {p u : Tmp} {ty : TypeId} {g : Nat} {vs : List Value} {d : TypeDesc} (ho : Own w g vs) (h : fn.results = #[.cell p ty, .tmp u]) (h0 : a.defers = [])
    (hp : a.tmps.getD p undef = .pointer (some ⟨g, 0, none⟩)) (hu : P.underlying ty = some d) (hd : (match d with | .struct _ | .array _ _ => true | _ => false) = true) (hi : (P.info? ty).map (·.size) = some vs.length)
    (hR : R (.returned (.tuple #[.agg vs.toArray, a.tmps.getD u undef])) w) : bodyPost P fn R .ret a w := by
  obtain ⟨t, ho⟩ := ho
  exact bodyPost_ret (results_cell_row2 h _ _ g t vs.toArray (0, 0) d hp ho hu hd (by simpa using hi)) h0 hR

theorem OwnT.far {w : World} {g : Nat} {t : TypeId} {cs : List Value} (h : OwnT w g t cs) {k : Nat} (hk : g ≠ k) (i : Nat) (v : Value) : OwnT (w.setCell ⟨k, i, none⟩ v) g t cs := (Below.heap_setCell w ⟨k, i, none⟩ v g hk).trans h
theorem KeepT.setNew {t : TypeId} {w W : World} {g : Nat} (h : KeepT t w W) (hg : w.heap.size ≤ g) (i : Nat) (v : Value) : KeepT t w (W.setCell ⟨g, i, none⟩ v) := by
  refine ⟨by have := h.1; simpa [World.setCell] using this, fun k cur fz e => ?_⟩
  have hk : k ≠ g := by have := (Array.getElem?_eq_some_iff.1 e).1; omega
  exact (Below.heap_setCell W ⟨g, i, none⟩ v k hk).trans (h.2 k cur fz e)
/-- what a line leaves, by value -/
def RefP (B : Nat) (w : World) (o : Option St) (e : Ending) (w' : World) : Prop :=
  ∃ st vl vn, e = .returned (.tuple #[.agg (cells st vl vn).toArray, .bool o.isSome]) ∧ Below B w w' ∧ StV w' B vl vn st.l st.now ∧ (∀ s, o = some s → s = st) ∧ ∀ u, u ≠ 3 → u ≠ 32 → KeepT u w w'

theorem refP_no {B : Nat} {w W : World} {o : Option St} {st : St} {vl vn : Value} {b : Bool} (hb : b = false) (ho : o = none) (hB : Below B w W) (hS : StV W B vl vn st.l st.now) (hK : ∀ u, u ≠ 3 → u ≠ 32 → KeepT u w W) : RefP B w o (.returned (.tuple #[.agg (cells st vl vn).toArray, .bool b])) W := by
  subst ho hb
  exact ⟨st, vl, vn, rfl, hB, hS, fun _ h => (by cases h), hK⟩
theorem refP_yes {B : Nat} {w W : World} {o : Option St} {st : St} {vl vn : Value} {b : Bool} (hb : b = true) (ho : o = some st) (hB : Below B w W) (hS : StV W B vl vn st.l st.now) (hK : ∀ u, u ≠ 3 → u ≠ 32 → KeepT u w W) : RefP B w o (.returned (.tuple #[.agg (cells st vl vn).toArray, .bool b])) W := by
  subst ho hb
  exact ⟨st, vl, vn, rfl, hB, hS, fun _ h => (by cases h; rfl), hK⟩

theorem ref_atom9 (x : Int) (hx0 : -999999999 ≤ x) (hx1 : x ≤ 999999999) (w : World) :
    Calls Tryd.prog 18 #[.int .i64 x] w fun e w' => e = .returned (.int .i64 (x.natAbs : Int)) ∧ w' = w := by
  by_cases h : x < 0
  · go_enter Tryd.func18, Tryd.ntmps18
    go_wp2
    go_ret
    exact ⟨ret_int (by omega), rfl⟩
  · go_enter Tryd.func18, Tryd.ntmps18
    go_wp2
    go_ret
    exact ⟨ret_int (by omega), rfl⟩

set_option maxHeartbeats 4000000 in
set_option maxRecDepth 100000 in
theorem ref_headed (B : Nat) (A : Option Addr) (c : Nat) (ws : List (List UInt8)) (w : World) (hB : B ≤ w.heap.size) (hW : StrR 9 w A ws) (hac : ws.length ≤ c) (hxl : ∀ x ∈ ws, x.length ≤ 67108864) :
    Calls Tryd.prog 24 #[.slice A ws.length c] w (RefP B w (headW ws)) := by
  have hal : Below w.heap.size w (w.alloc (.cells (cells St.init (.slice none 0 0) (.slice none 0 0)).toArray 46 (0, 0))) := (Below.refl _ w).alloc (Nat.le_refl _) _
  have HO := Lib.hid (OwnT.mk (w := w) (cells St.init (.slice none 0 0) (.slice none 0 0)) 46)
  have HB := Lib.hid (hal.mono hB)
  have HK := Lib.hid (show ∀ u, u ≠ 3 → u ≠ 32 → KeepT u w (w.alloc (.cells (cells St.init (.slice none 0 0) (.slice none 0 0)).toArray 46 (0, 0))) from fun u _ _ => KeepT.below hal)
  have HW := Lib.hid (hW.keep (KeepT.below hal))
  have hsz := hal.size
  clear hW hal
  by_cases h4 : ws.length = 4
  · have h4' : ((ws.length : Int) == 4) = true := by rw [beq_iff_eq]; omega
    obtain ⟨p, cc, a, b, hws⟩ : ∃ p cc a b, ws = [p, cc, a, b] := by
      match ws, h4 with
      | [p, cc, a, b], _ => exact ⟨p, cc, a, b, rfl⟩
    obtain ⟨ad, rfl, x0⟩ := Knd.at_str HW.out.1 0 (by omega)
    obtain ⟨_, e1, x1⟩ := Knd.at_str HW.out.1 1 (by omega)
    obtain rfl := Option.some.inj e1
    obtain ⟨_, e2, x2⟩ := Knd.at_str HW.out.1 2 (by omega)
    obtain rfl := Option.some.inj e2
    obtain ⟨_, e3, x3⟩ := Knd.at_str HW.out.1 3 (by omega)
    obtain rfl := Option.some.inj e3
    have g0 : ws[0] = p := by simp only [hws]; rfl
    have g1 : ws[1] = cc := by simp only [hws]; rfl
    have g2 : ws[2] = a := by simp only [hws]; rfl
    have g3 : ws[3] = b := by simp only [hws]; rfl
    have hw6 : w.alloc (.cells (cells St.init (.slice none 0 0) (.slice none 0 0)).toArray 46 (0, 0)) = w.alloc (.cells #[.bool false, .int .i64 0, .int .i64 0, .slice none 0 0, .slice none 0 0, .bool false] 46) := rfl
    rw [hw6] at HO HB HK HW x0 x1 x2 x3
    rw [g0] at x0
    replace x0 : (w.alloc (.cells #[.bool false, .int .i64 0, .int .i64 0, .slice none 0 0, .slice none 0 0, .bool false] 46)).cell? ad = some (.string ⟨p.toArray⟩) := x0
    rw [g1] at x1
    replace x1 : (w.alloc (.cells #[.bool false, .int .i64 0, .int .i64 0, .slice none 0 0, .slice none 0 0, .bool false] 46)).cell? ⟨ad.block, ad.off + 1, none⟩ = some (.string ⟨cc.toArray⟩) := x1
    rw [g2] at x2
    replace x2 : (w.alloc (.cells #[.bool false, .int .i64 0, .int .i64 0, .slice none 0 0, .slice none 0 0, .bool false] 46)).cell? ⟨ad.block, ad.off + 2, none⟩ = some (.string ⟨a.toArray⟩) := x2
    rw [g3] at x3
    replace x3 : (w.alloc (.cells #[.bool false, .int .i64 0, .int .i64 0, .slice none 0 0, .slice none 0 0, .bool false] 46)).cell? ⟨ad.block, ad.off + 3, none⟩ = some (.string ⟨b.toArray⟩) := x3
    have hsp : headW ws = if p = [112] ∧ cc = [99, 110, 102] ∧ numOk a = true ∧ numOk b = true ∧ 0 ≤ numV a ∧ 0 ≤ numV b then some ⟨true, numV a, numV b, [], [], false⟩ else none := by rw [hws]; rfl
    have HNa := Lib.hid (fun W => ref_number a W (hxl a (by rw [hws]; simp)))
    have HNb := Lib.hid (fun W => ref_number b W (hxl b (by rw [hws]; simp)))
    have hadR : ad.block ≠ w.heap.size := ty_ne HW.out.2 HO.out (by decide)
    clear e1 e2 e3 g0 g1 g2 g3 hws hxl HW hw6
    generalize headW ws = o at *
    have HSp := Lib.hid hsp
    clear hsp
    have hP : (⟨p.toArray⟩ : ByteArray).toList = p := ByteArray.toList_mk p
    have hC : (⟨cc.toArray⟩ : ByteArray).toList = cc := ByteArray.toList_mk cc
    generalize (⟨p.toArray⟩ : ByteArray) = P at *
    generalize (⟨cc.toArray⟩ : ByteArray) = C at *
    go_enter Tryd.func24, Tryd.ntmps24
    by_cases hp : p = [112]
    · have hp' : (P.toList == [112]) = true := by rw [hP]; simpa using hp
      by_cases hc : cc = [99, 110, 102]
      · have hc' : (C.toList == [99, 110, 102]) = true := by rw [hC]; simpa using hc
        clear hP hC
        go_wp2_with fail
        refine (HNa.out _).mono ?_
        rintro e W1 ⟨rfl, rfl⟩
        go_wp2_with fail
        refine (HNb.out _).mono ?_
        rintro e W1 ⟨rfl, rfl⟩
        clear HNa HNb x0 x1 x2 x3
        have hva := numV_bound a
        have hvb := numV_bound b
        replace HSp := Lib.hid (show o = if numOk a = true ∧ numOk b = true ∧ 0 ≤ numV a ∧ 0 ≤ numV b then some ⟨true, numV a, numV b, [], [], false⟩ else none from HSp.out.trans (by simp only [hp, hc, true_and]))
        generalize numV a = va at *
        generalize numOk a = oa at *
        generalize numV b = vb at *
        generalize numOk b = ob at *
        generalize hW1 : w.alloc (.cells #[.bool false, .int .i64 0, .int .i64 0, .slice none 0 0, .slice none 0 0, .bool false] 46) = W1 at *
        have f0 := HO.out.own.frozen 0
        have f1 := HO.out.own.frozen 1
        have f2 := HO.out.own.frozen 2
        have f3 := HO.out.own.frozen 3
        have f4 := HO.out.own.frozen 4
        have f5 := HO.out.own.frozen 5
        have c0 := HO.out.cellN 0 rfl
        have c1 := HO.out.cellN 1 rfl
        have c2 := HO.out.cellN 2 rfl
        have c3 := HO.out.cellN 3 rfl
        have c4 := HO.out.cellN 4 rfl
        have c5 := HO.out.cellN 5 rfl
        have hw7 : ∀ x0 x1 x2 : Value, Below B W1 ((((((W1.setCell ⟨w.heap.size, 0, none⟩ x0).setCell ⟨w.heap.size, 1, none⟩ x1).setCell ⟨w.heap.size, 2, none⟩ x2).setCell ⟨w.heap.size, 3, none⟩ (.slice none 0 0)).setCell ⟨w.heap.size, 4, none⟩ (.slice none 0 0)).setCell ⟨w.heap.size, 5, none⟩ (.bool false)) := fun x0 x1 x2 => ((((((Below.refl B W1).setCell hB _).setCell hB _).setCell hB _).setCell hB _).setCell hB _).setCell hB _
        have HB2 := Lib.hid (HB.out.trans (hw7 (.bool true) (.int .i64 va) (.int .i64 vb)))
        have HO2 := Lib.hid (show OwnT _ _ _ (cells ⟨true, va, vb, [], [], false⟩ (.slice none 0 0) (.slice none 0 0)) from (((((HO.out.set 0 (.bool true)).set 1 (.int .i64 va)).set 2 (.int .i64 vb)).set 3 (.slice none 0 0)).set 4 (.slice none 0 0)).set 5 (.bool false))
        replace HK := Lib.hid (show ∀ u, u ≠ 3 → u ≠ 32 → KeepT u w ((((((W1.setCell ⟨w.heap.size, 0, none⟩ (.bool true)).setCell ⟨w.heap.size, 1, none⟩ (.int .i64 va)).setCell ⟨w.heap.size, 2, none⟩ (.int .i64 vb)).setCell ⟨w.heap.size, 3, none⟩ (.slice none 0 0)).setCell ⟨w.heap.size, 4, none⟩ (.slice none 0 0)).setCell ⟨w.heap.size, 5, none⟩ (.bool false)) from fun u a b => ((((((HK.out u a b).setNew (Nat.le_refl _) _ _).setNew (Nat.le_refl _) _ _).setNew (Nat.le_refl _) _ _).setNew (Nat.le_refl _) _ _).setNew (Nat.le_refl _) _ _).setNew (Nat.le_refl _) _ _)
        clear hw7
        by_cases hgood : oa = true ∧ ob = true ∧ 0 ≤ va ∧ 0 ≤ vb
        · have ho := Lib.hid (HSp.out.trans (if_pos hgood))
          obtain ⟨rfl, rfl, hva0, hvb0⟩ := hgood
          go_wp2
          exact post_own2 HO2.out.own rfl rfl rfl Tryd.underlying46 rfl (by kernel_rfl) (refP_yes (vl := .slice none 0 0) (vn := .slice none 0 0) rfl ho.out HB2.out (StV.init _ (Nat.le_trans hB HB2.out.size)) (HK.out))
        · have ho := Lib.hid (HSp.out.trans (if_neg hgood))
          have HR := Lib.hid (And.intro HO2.out (fun (b : Bool) (hb : b = false) => refP_no (st := ⟨true, va, vb, [], [], false⟩) (vl := .slice none 0 0) (vn := .slice none 0 0) hb ho.out HB2.out (StV.init _ (Nat.le_trans hB HB2.out.size)) (HK.out)))
          clear HSp ho HO HB HO2 HB2 HK
          cases oa with
          | false =>
            clear hgood
            go_wp2
            exact post_own2 HR.out.1.own rfl rfl rfl Tryd.underlying46 rfl (by kernel_rfl) (HR.out.2 _ rfl)
          | true =>
            cases ob with
            | false =>
              clear hgood
              go_wp2
              exact post_own2 HR.out.1.own rfl rfl rfl Tryd.underlying46 rfl (by kernel_rfl) (HR.out.2 _ rfl)
            | true =>
              by_cases hva0 : va < 0
              · have hva1 : ¬ 0 ≤ va := by omega
                clear hgood hva hvb hva0
                go_wp2
                exact post_own2 HR.out.1.own rfl rfl rfl Tryd.underlying46 rfl (by kernel_rfl) (HR.out.2 _ rfl)
              · have hva1 : 0 ≤ va := by omega
                have hvb1 : ¬ 0 ≤ vb := fun h => hgood ⟨rfl, rfl, hva1, h⟩
                clear hgood hva hvb hva0
                go_wp2
                exact post_own2 HR.out.1.own rfl rfl rfl Tryd.underlying46 rfl (by kernel_rfl) (HR.out.2 _ (decide_eq_false (by omega)))
      · have hc' : (C.toList == [99, 110, 102]) = false := by rw [hC]; simpa using hc
        have ho := Lib.hid (HSp.out.trans (if_neg (fun h => hc h.2.1)))
        clear HSp HNa HNb hP hC hp hc
        go_wp2
        exact post_own2 HO.out.own rfl rfl rfl Tryd.underlying46 rfl (by kernel_rfl) (refP_no rfl ho.out HB.out (StV.init _ (Nat.le_trans hB HB.out.size)) HK.out)
    · have hp' : (P.toList == [112]) = false := by rw [hP]; simpa using hp
      have ho := Lib.hid (HSp.out.trans (if_neg (fun h => hp h.1)))
      clear HSp HNa HNb hP hC hp
      go_wp2
      exact post_own2 HO.out.own rfl rfl rfl Tryd.underlying46 rfl (by kernel_rfl) (refP_no rfl ho.out HB.out (StV.init _ (Nat.le_trans hB HB.out.size)) HK.out)
  · have h4' : ((ws.length : Int) == 4) = false := by rw [beq_eq_false_iff_ne]; omega
    have ho := Lib.hid (show headW ws = none by
      unfold headW
      split
      · rename_i x1 x2 x3 x4
        exact absurd rfl h4
      · rfl)
    go_enter Tryd.func24, Tryd.ntmps24
    go_wp2
    exact post_own2 HO.out.own rfl rfl rfl Tryd.underlying46 rfl (by kernel_rfl) (refP_no rfl ho.out HB.out (StV.init _ (Nat.le_trans hB HB.out.size)) HK.out)

set_option maxHeartbeats 4000000 in
set_option maxRecDepth 100000 in
theorem ref_line (B : Nat) (st : St) (vl vn : Value) (A : Option Addr) (c : Nat) (ws : List (List UInt8)) (w : World) (hB : B ≤ w.heap.size) (hS : StV w B vl vn st.l st.now) (hf : st.Fine) (hh : st.head = true) (hb1 : st.now.length ≤ 1099514576896) (hb2 : st.l.length ≤ 1099514576896) (hW : StrR 9 w A ws) (hac : ws.length ≤ c) (hwl : ws.length ≤ 67108865) (hxl : ∀ x ∈ ws, x.length ≤ 67108864) :
    Calls Tryd.prog 23 #[.agg (cells st vl vn).toArray, .slice A ws.length c] w (RefP B w (stWs st ws)) := by
  obtain ⟨⟨A0, c0, rfl, _, _⟩, A1, c1, rfl, _, _⟩ := hS.form
  have ho1 := OwnT.mk (w := w) (cells st (.slice A0 st.l.length c0) (.slice A1 st.now.length c1)) 46
  have hal1 : Below w.heap.size w (w.alloc (.cells (cells st (.slice A0 st.l.length c0) (.slice A1 st.now.length c1)).toArray 46 (0, 0))) := (Below.refl _ w).alloc (Nat.le_refl _) _
  have hsz : (w.alloc (.cells (cells st (.slice A0 st.l.length c0) (.slice A1 st.now.length c1)).toArray 46 (0, 0))).heap.size = w.heap.size + 1 := by simp
  have ho2 := OwnT.mk (w := w.alloc (.cells (cells st (.slice A0 st.l.length c0) (.slice A1 st.now.length c1)).toArray 46 (0, 0))) (cells St.init (.slice none 0 0) (.slice none 0 0)) 46
  have hal2 : Below (w.alloc (.cells (cells st (.slice A0 st.l.length c0) (.slice A1 st.now.length c1)).toArray 46 (0, 0))).heap.size (w.alloc (.cells (cells st (.slice A0 st.l.length c0) (.slice A1 st.now.length c1)).toArray 46 (0, 0))) ((w.alloc (.cells (cells st (.slice A0 st.l.length c0) (.slice A1 st.now.length c1)).toArray 46 (0, 0))).alloc (.cells (cells St.init (.slice none 0 0) (.slice none 0 0)).toArray 46 (0, 0))) := (Below.refl _ _).alloc (Nat.le_refl _) _
  rw [hsz] at ho2
  have HR := Lib.hid (ho1.keep (KeepT.below hal2))
  have HG := Lib.hid ho2
  have hal := hal1.trans (hal2.mono hal1.size)
  have HS := Lib.hid (hS.below hal)
  have HW := Lib.hid (hW.keep (KeepT.below hal))
  have HB := Lib.hid (hal.mono hB)
  have HK := Lib.hid (show ∀ u, u ≠ 3 → u ≠ 32 → KeepT u w _ from fun u _ _ => KeepT.below hal)
  have hfm := Lib.hid hf
  have HL := Lib.hid hxl
  have HSp := Lib.hid (rfl : stWs st ws = stWs st ws)
  clear hal1 hal2 hal ho1 ho2 hsz hS hW hf hxl
  have hBG : B ≤ w.heap.size + 1 := by omega
  have hBG : B ≤ w.heap.size + 1 := by omega
  have hBG : B ≤ w.heap.size + 1 := by omega
  have hBG : B ≤ w.heap.size + 1 := by omega
  go_enter Tryd.func23, Tryd.ntmps23
  go_wp2
  go_loopg [6] ws.length (fun gg s6 wr => ∃ (i : Nat) (t : St) (vl vn : Value), i ≤ ws.length ∧ ws.length - i ≤ gg ∧ s6 = .int .i64 i ∧ Hid (stWs st (ws.take i) = some t) ∧ Hid (OwnT wr w.heap.size 46 (cells t vl vn)) ∧ Hid (OwnT wr (w.heap.size + 1) 46 (cells St.init (.slice none 0 0) (.slice none 0 0))) ∧ Hid (StV wr B vl vn t.l t.now) ∧ Hid (StrR 9 wr A ws) ∧ Hid (Below B w wr) ∧ Hid (∀ u, u ≠ 3 → u ≠ 32 → KeepT u w wr))
  case atStart => exact ⟨0, st, _, _, Nat.zero_le _, by omega, rfl, rfl, HR, HG, HS, HW, HB, HK⟩
  case round =>
    clear HR HG HS HW HB HK
    obtain ⟨i, t, vl, vn, hi, hg, rfl, HT, HR, HG, HS, HW, HB, HK⟩ := hrel
    have htf := stWs_fine HT.out hfm.out hh
    have hnow : t.now.length ≤ 1099600000000 := by have h1 := htf.2.2.1; rw [List.length_take] at h1; omega
    have hll : t.l.length ≤ 1099600000000 := by have h1 := htf.2.2.2; rw [List.length_take] at h1; omega
    clear htf
    obtain ⟨⟨Al, cl, rfl, hal, hcl⟩, An, cn, rfl, han, hcn⟩ := HS.out.form
    by_cases hlt : i < ws.length
    · have hltz : (i : Int) < (ws.length : Int) := by omega
      obtain ⟨ad, rfl, x0⟩ := Knd.at_str HW.out.1 i hlt
      have hxl := HL.out ws[i] (List.getElem_mem hlt)
      have HStep := Lib.hid (stWs_take hlt HT.out)
      have HStop := Lib.hid (stWs_stop hlt HT.out)
      have hstW : stW t ws[i] = if numOk ws[i] = false ∨ t.atoms < ((numV ws[i]).natAbs : Int) then none
        else if numV ws[i] ≠ 0 then some ⟨t.head, t.atoms, t.many, t.l, t.now ++ [numV ws[i]], true⟩
        else if (t.l.length : Int) = t.many then none
        else some ⟨t.head, t.atoms, t.many, t.l ++ [t.now], [], false⟩ := rfl
      have HN := Lib.hid (fun W => ref_number ws[i] W hxl)
      have hvb := numV_bound ws[i]
      generalize stW t ws[i] = ot at *
      have HstW := Lib.hid hstW
      clear hstW hxl HT
      generalize numV ws[i] = nv at *
      generalize numOk ws[i] = nok at *
      generalize (⟨ws[i].toArray⟩ : ByteArray) = X at *
      have hBr : B ≤ wr.heap.size := Nat.le_trans hB HB.out.size
      go_wp2_with fail
      refine (HN.out _).mono ?_
      rintro e W3 ⟨rfl, rfl⟩
      clear HN x0
      have c1 := HR.out.cellN 1 rfl
      have hAx := fun W => ref_atom9 nv hvb.1 hvb.2 W
      cases nok with
      | false =>
        have hon := Lib.hid (HStop.out (HstW.out.trans (if_pos (Or.inl rfl))))
        clear HStep HStop HstW hAx
        go_wp2_with fail
        go_quiet (fail)
        obtain ⟨W4, hW4⟩ : ∃ W4, W4 = W3.drewN nq := ⟨_, rfl⟩
        rw [← hW4]
        have q1 : Below W3.heap.size W3 W4 := hW4 ▸ below_drewN (Below.refl _ _) nq
        clear hW4
        replace HB := Lib.hid (HB.out.trans (q1.mono hBr))
        replace HK := Lib.hid (fun u a b => (HK.out u a b).trans (KeepT.below q1))
        replace HR := Lib.hid (HR.out.keep (KeepT.below q1))
        replace HG := Lib.hid (HG.out.keep (KeepT.below q1))
        replace HS := Lib.hid (HS.out.below q1)
        replace HW := Lib.hid (HW.out.keep (KeepT.below q1))
        clear q1 c1
        have hG2 : OwnT ((((((W4.setCell ⟨w.heap.size + 1, 0, none⟩ (.bool t.head)).setCell ⟨w.heap.size + 1, 1, none⟩ (.int .i64 t.atoms)).setCell ⟨w.heap.size + 1, 2, none⟩ (.int .i64 t.many)).setCell ⟨w.heap.size + 1, 3, none⟩ (.slice Al t.l.length cl)).setCell ⟨w.heap.size + 1, 4, none⟩ (.slice An t.now.length cn)).setCell ⟨w.heap.size + 1, 5, none⟩ (.bool t.opn)) (w.heap.size + 1) 46 (cells t (.slice Al t.l.length cl) (.slice An t.now.length cn)) := (((((HG.out.set 0 (.bool t.head)).set 1 (.int .i64 t.atoms)).set 2 (.int .i64 t.many)).set 3 (.slice Al t.l.length cl)).set 4 (.slice An t.now.length cn)).set 5 (.bool t.opn)
        have hb6 : Below B W4 ((((((W4.setCell ⟨w.heap.size + 1, 0, none⟩ (.bool t.head)).setCell ⟨w.heap.size + 1, 1, none⟩ (.int .i64 t.atoms)).setCell ⟨w.heap.size + 1, 2, none⟩ (.int .i64 t.many)).setCell ⟨w.heap.size + 1, 3, none⟩ (.slice Al t.l.length cl)).setCell ⟨w.heap.size + 1, 4, none⟩ (.slice An t.now.length cn)).setCell ⟨w.heap.size + 1, 5, none⟩ (.bool t.opn)) := ((((((Below.refl B _).setCell hBG _).setCell hBG _).setCell hBG _).setCell hBG _).setCell hBG _).setCell hBG _
        have hk6 : ∀ u, u ≠ 46 → KeepT u W4 ((((((W4.setCell ⟨w.heap.size + 1, 0, none⟩ (.bool t.head)).setCell ⟨w.heap.size + 1, 1, none⟩ (.int .i64 t.atoms)).setCell ⟨w.heap.size + 1, 2, none⟩ (.int .i64 t.many)).setCell ⟨w.heap.size + 1, 3, none⟩ (.slice Al t.l.length cl)).setCell ⟨w.heap.size + 1, 4, none⟩ (.slice An t.now.length cn)).setCell ⟨w.heap.size + 1, 5, none⟩ (.bool t.opn)) := fun u hu => (((((KeepT.set HG.out hu _ _).trans (KeepT.set (HG.out.set 0 _) hu _ _)).trans (KeepT.set ((HG.out.set 0 _).set 1 _) hu _ _)).trans (KeepT.set (((HG.out.set 0 _).set 1 _).set 2 _) hu _ _)).trans (KeepT.set ((((HG.out.set 0 _).set 1 _).set 2 _).set 3 _) hu _ _)).trans (KeepT.set (((((HG.out.set 0 _).set 1 _).set 2 _).set 3 _).set 4 _) hu _ _)
        have HE := Lib.hid (And.intro hG2 (refP_no (vl := .slice Al t.l.length cl) (vn := .slice An t.now.length cn) rfl hon.out (HB.out.trans hb6) (HS.out.keep (hk6 _ (by decide)) (hk6 _ (by decide))) (fun u a b => ((((((HK.out u a b).setNew (Nat.le_succ _) _ _).setNew (Nat.le_succ _) _ _).setNew (Nat.le_succ _) _ _).setNew (Nat.le_succ _) _ _).setNew (Nat.le_succ _) _ _).setNew (Nat.le_succ _) _ _)))
        have r0 := HR.out.cellN 0 rfl
        have g0 := HG.out.cellN 0 rfl
        have f0 := HG.out.own.frozen 0
        have r1 := HR.out.cellN 1 rfl
        have g1 := HG.out.cellN 1 rfl
        have f1 := HG.out.own.frozen 1
        have r2 := HR.out.cellN 2 rfl
        have g2 := HG.out.cellN 2 rfl
        have f2 := HG.out.own.frozen 2
        have r3 := HR.out.cellN 3 rfl
        have g3 := HG.out.cellN 3 rfl
        have f3 := HG.out.own.frozen 3
        have r4 := HR.out.cellN 4 rfl
        have g4 := HG.out.cellN 4 rfl
        have f4 := HG.out.own.frozen 4
        have r5 := HR.out.cellN 5 rfl
        have g5 := HG.out.cellN 5 rfl
        have f5 := HG.out.own.frozen 5
        clear hG2 hb6 hk6 HR HG HB HS HW HK
        go_wp2
        exact post_own2 HE.out.1.own rfl rfl rfl Tryd.underlying46 rfl (by kernel_rfl) HE.out.2
      | true =>
        by_cases hat : t.atoms < (nv.natAbs : Int)
        · have hon := Lib.hid (HStop.out (HstW.out.trans (if_pos (Or.inr hat))))
          clear HStep HStop HstW
          go_wp2_with fail
          go_quiet (first | (go_at_call 18; refine Calls.quiet_of_same (hAx _)))
          clear hAx
          obtain ⟨W4, hW4⟩ : ∃ W4, W4 = W3.drewN nq := ⟨_, rfl⟩
          rw [← hW4]
          have q1 : Below W3.heap.size W3 W4 := hW4 ▸ below_drewN (Below.refl _ _) nq
          clear hW4
          replace HB := Lib.hid (HB.out.trans (q1.mono hBr))
          replace HK := Lib.hid (fun u a b => (HK.out u a b).trans (KeepT.below q1))
          replace HR := Lib.hid (HR.out.keep (KeepT.below q1))
          replace HG := Lib.hid (HG.out.keep (KeepT.below q1))
          replace HS := Lib.hid (HS.out.below q1)
          replace HW := Lib.hid (HW.out.keep (KeepT.below q1))
          clear q1 c1
          have hG2 : OwnT ((((((W4.setCell ⟨w.heap.size + 1, 0, none⟩ (.bool t.head)).setCell ⟨w.heap.size + 1, 1, none⟩ (.int .i64 t.atoms)).setCell ⟨w.heap.size + 1, 2, none⟩ (.int .i64 t.many)).setCell ⟨w.heap.size + 1, 3, none⟩ (.slice Al t.l.length cl)).setCell ⟨w.heap.size + 1, 4, none⟩ (.slice An t.now.length cn)).setCell ⟨w.heap.size + 1, 5, none⟩ (.bool t.opn)) (w.heap.size + 1) 46 (cells t (.slice Al t.l.length cl) (.slice An t.now.length cn)) := (((((HG.out.set 0 (.bool t.head)).set 1 (.int .i64 t.atoms)).set 2 (.int .i64 t.many)).set 3 (.slice Al t.l.length cl)).set 4 (.slice An t.now.length cn)).set 5 (.bool t.opn)
          have hb6 : Below B W4 ((((((W4.setCell ⟨w.heap.size + 1, 0, none⟩ (.bool t.head)).setCell ⟨w.heap.size + 1, 1, none⟩ (.int .i64 t.atoms)).setCell ⟨w.heap.size + 1, 2, none⟩ (.int .i64 t.many)).setCell ⟨w.heap.size + 1, 3, none⟩ (.slice Al t.l.length cl)).setCell ⟨w.heap.size + 1, 4, none⟩ (.slice An t.now.length cn)).setCell ⟨w.heap.size + 1, 5, none⟩ (.bool t.opn)) := ((((((Below.refl B _).setCell hBG _).setCell hBG _).setCell hBG _).setCell hBG _).setCell hBG _).setCell hBG _
          have hk6 : ∀ u, u ≠ 46 → KeepT u W4 ((((((W4.setCell ⟨w.heap.size + 1, 0, none⟩ (.bool t.head)).setCell ⟨w.heap.size + 1, 1, none⟩ (.int .i64 t.atoms)).setCell ⟨w.heap.size + 1, 2, none⟩ (.int .i64 t.many)).setCell ⟨w.heap.size + 1, 3, none⟩ (.slice Al t.l.length cl)).setCell ⟨w.heap.size + 1, 4, none⟩ (.slice An t.now.length cn)).setCell ⟨w.heap.size + 1, 5, none⟩ (.bool t.opn)) := fun u hu => (((((KeepT.set HG.out hu _ _).trans (KeepT.set (HG.out.set 0 _) hu _ _)).trans (KeepT.set ((HG.out.set 0 _).set 1 _) hu _ _)).trans (KeepT.set (((HG.out.set 0 _).set 1 _).set 2 _) hu _ _)).trans (KeepT.set ((((HG.out.set 0 _).set 1 _).set 2 _).set 3 _) hu _ _)).trans (KeepT.set (((((HG.out.set 0 _).set 1 _).set 2 _).set 3 _).set 4 _) hu _ _)
          have HE := Lib.hid (And.intro hG2 (refP_no (vl := .slice Al t.l.length cl) (vn := .slice An t.now.length cn) rfl hon.out (HB.out.trans hb6) (HS.out.keep (hk6 _ (by decide)) (hk6 _ (by decide))) (fun u a b => ((((((HK.out u a b).setNew (Nat.le_succ _) _ _).setNew (Nat.le_succ _) _ _).setNew (Nat.le_succ _) _ _).setNew (Nat.le_succ _) _ _).setNew (Nat.le_succ _) _ _).setNew (Nat.le_succ _) _ _)))
          have r0 := HR.out.cellN 0 rfl
          have g0 := HG.out.cellN 0 rfl
          have f0 := HG.out.own.frozen 0
          have r1 := HR.out.cellN 1 rfl
          have g1 := HG.out.cellN 1 rfl
          have f1 := HG.out.own.frozen 1
          have r2 := HR.out.cellN 2 rfl
          have g2 := HG.out.cellN 2 rfl
          have f2 := HG.out.own.frozen 2
          have r3 := HR.out.cellN 3 rfl
          have g3 := HG.out.cellN 3 rfl
          have f3 := HG.out.own.frozen 3
          have r4 := HR.out.cellN 4 rfl
          have g4 := HG.out.cellN 4 rfl
          have f4 := HG.out.own.frozen 4
          have r5 := HR.out.cellN 5 rfl
          have g5 := HG.out.cellN 5 rfl
          have f5 := HG.out.own.frozen 5
          clear hG2 hb6 hk6 HR HG HB HS HW HK
          go_wp2
          exact post_own2 HE.out.1.own rfl rfl rfl Tryd.underlying46 rfl (by kernel_rfl) HE.out.2
        · replace HstW := Lib.hid (HstW.out.trans (if_neg (by rintro (h | h); cases h; exact hat h)))
          go_wp2_with fail
          go_quiet (first | (go_at_call 18; refine Calls.quiet_of_same (hAx _)))
          clear hAx
          obtain ⟨W4, hW4⟩ : ∃ W4, W4 = W3.drewN nq := ⟨_, rfl⟩
          rw [← hW4]
          have q1 : Below W3.heap.size W3 W4 := hW4 ▸ below_drewN (Below.refl _ _) nq
          clear hW4
          replace HB := Lib.hid (HB.out.trans (q1.mono hBr))
          replace HK := Lib.hid (fun u a b => (HK.out u a b).trans (KeepT.below q1))
          replace HR := Lib.hid (HR.out.keep (KeepT.below q1))
          replace HG := Lib.hid (HG.out.keep (KeepT.below q1))
          replace HS := Lib.hid (HS.out.below q1)
          replace HW := Lib.hid (HW.out.keep (KeepT.below q1))
          clear q1 c1
          have hBr : B ≤ W4.heap.size := Nat.le_trans hB HB.out.size
          by_cases hnz : nv ≠ 0
          · have hnz' : (nv != 0) = true := by simpa using hnz
            replace HstW := Lib.hid (HstW.out.trans (if_pos hnz))
            have HT2 := Lib.hid (HStep.out.trans HstW.out)
            clear HStep HStop HstW
            have c4 := HR.out.cellN 4 rfl
            obtain ⟨v', W5, hrun, hS5, hb5, hk5⟩ := HS.out.push nv (by omega)
            obtain ⟨_, A5, c5, rfl, h5a, h5b⟩ := hS5.form
            have HP := Lib.hid hrun
            have HR5 := Lib.hid (HR.out.keep (hk5 46 (by decide)))
            have HG5 := Lib.hid (HG.out.keep (hk5 46 (by decide)))
            have c4' := HR5.out.cellN 4 rfl
            have c5' := HR5.out.cellN 5 rfl
            have f4 := HR5.out.own.frozen 4
            have f5 := HR5.out.own.frozen 5
            have HRn := Lib.hid ((HR5.out.set 4 (.slice A5 (t.now ++ [nv]).length c5)).set 5 (.bool true))
            have hkk : ∀ u, u ≠ 46 → KeepT u W5 ((W5.setCell ⟨w.heap.size, 4, none⟩ (.slice A5 (t.now ++ [nv]).length c5)).setCell ⟨w.heap.size, 5, none⟩ (.bool true)) := fun u hu => (KeepT.set HR5.out hu _ _).trans (KeepT.set (HR5.out.set 4 _) hu _ _)
            have HSn := Lib.hid (hS5.keep (hkk _ (by decide)) (hkk _ (by decide)))
            have HWn := Lib.hid ((HW.out.keep (hk5 _ (by decide))).keep (hkk _ (by decide)))
            have HGn := Lib.hid ((HG5.out.far (show w.heap.size + 1 ≠ w.heap.size by omega) 4 (.slice A5 (t.now ++ [nv]).length c5)).far (show w.heap.size + 1 ≠ w.heap.size by omega) 5 (.bool true))
            have HBn := Lib.hid ((HB.out.trans hb5).trans (show Below B W5 ((W5.setCell ⟨w.heap.size, 4, none⟩ (.slice A5 (t.now ++ [nv]).length c5)).setCell ⟨w.heap.size, 5, none⟩ (.bool true)) from ((Below.refl B W5).setCell hB _).setCell hB _))
            have HKn := Lib.hid (fun u a b => ((HK.out u a b).trans (hk5 u a)).setNew (Nat.le_refl _) 4 (.slice A5 (t.now ++ [nv]).length c5) |>.setNew (Nat.le_refl _) 5 (.bool true))
            clear hrun hS5 hb5 hk5 hkk HR5 HG5 HS HW HB HR HG HK
            generalize t.now ++ [nv] = now2 at *
            go_wp2_with (refine pushL_ rfl rfl rfl rfl HP.out ?_; clear HP)
            go_roundg (ws.length - (i + 1))
            case measure => omega
            case rel => exact ⟨i + 1, ⟨t.head, t.atoms, t.many, t.l, now2, true⟩, .slice Al t.l.length cl, .slice A5 now2.length c5, by omega, by omega, by go_num, HT2, HRn, HGn, HSn, HWn, HBn, HKn⟩
          · have hnz' : (nv != 0) = false := by simpa using hnz
            replace HstW := Lib.hid (HstW.out.trans (if_neg hnz))
            have c3 := HR.out.cellN 3 rfl
            have c2 := HR.out.cellN 2 rfl
            by_cases hfull : (t.l.length : Int) = t.many
            · have hfull' : ((t.l.length : Int) == t.many) = true := by simpa using hfull
              have hon := Lib.hid (HStop.out (HstW.out.trans (if_pos hfull)))
              clear HStep HStop HstW
              have hG2 : OwnT ((((((W4.setCell ⟨w.heap.size + 1, 0, none⟩ (.bool t.head)).setCell ⟨w.heap.size + 1, 1, none⟩ (.int .i64 t.atoms)).setCell ⟨w.heap.size + 1, 2, none⟩ (.int .i64 t.many)).setCell ⟨w.heap.size + 1, 3, none⟩ (.slice Al t.l.length cl)).setCell ⟨w.heap.size + 1, 4, none⟩ (.slice An t.now.length cn)).setCell ⟨w.heap.size + 1, 5, none⟩ (.bool t.opn)) (w.heap.size + 1) 46 (cells t (.slice Al t.l.length cl) (.slice An t.now.length cn)) := (((((HG.out.set 0 (.bool t.head)).set 1 (.int .i64 t.atoms)).set 2 (.int .i64 t.many)).set 3 (.slice Al t.l.length cl)).set 4 (.slice An t.now.length cn)).set 5 (.bool t.opn)
              have hb6 : Below B W4 ((((((W4.setCell ⟨w.heap.size + 1, 0, none⟩ (.bool t.head)).setCell ⟨w.heap.size + 1, 1, none⟩ (.int .i64 t.atoms)).setCell ⟨w.heap.size + 1, 2, none⟩ (.int .i64 t.many)).setCell ⟨w.heap.size + 1, 3, none⟩ (.slice Al t.l.length cl)).setCell ⟨w.heap.size + 1, 4, none⟩ (.slice An t.now.length cn)).setCell ⟨w.heap.size + 1, 5, none⟩ (.bool t.opn)) := ((((((Below.refl B _).setCell hBG _).setCell hBG _).setCell hBG _).setCell hBG _).setCell hBG _).setCell hBG _
              have hk6 : ∀ u, u ≠ 46 → KeepT u W4 ((((((W4.setCell ⟨w.heap.size + 1, 0, none⟩ (.bool t.head)).setCell ⟨w.heap.size + 1, 1, none⟩ (.int .i64 t.atoms)).setCell ⟨w.heap.size + 1, 2, none⟩ (.int .i64 t.many)).setCell ⟨w.heap.size + 1, 3, none⟩ (.slice Al t.l.length cl)).setCell ⟨w.heap.size + 1, 4, none⟩ (.slice An t.now.length cn)).setCell ⟨w.heap.size + 1, 5, none⟩ (.bool t.opn)) := fun u hu => (((((KeepT.set HG.out hu _ _).trans (KeepT.set (HG.out.set 0 _) hu _ _)).trans (KeepT.set ((HG.out.set 0 _).set 1 _) hu _ _)).trans (KeepT.set (((HG.out.set 0 _).set 1 _).set 2 _) hu _ _)).trans (KeepT.set ((((HG.out.set 0 _).set 1 _).set 2 _).set 3 _) hu _ _)).trans (KeepT.set (((((HG.out.set 0 _).set 1 _).set 2 _).set 3 _).set 4 _) hu _ _)
              have HE := Lib.hid (And.intro hG2 (refP_no (vl := .slice Al t.l.length cl) (vn := .slice An t.now.length cn) rfl hon.out (HB.out.trans hb6) (HS.out.keep (hk6 _ (by decide)) (hk6 _ (by decide))) (fun u a b => ((((((HK.out u a b).setNew (Nat.le_succ _) _ _).setNew (Nat.le_succ _) _ _).setNew (Nat.le_succ _) _ _).setNew (Nat.le_succ _) _ _).setNew (Nat.le_succ _) _ _).setNew (Nat.le_succ _) _ _)))
              have r0 := HR.out.cellN 0 rfl
              have g0 := HG.out.cellN 0 rfl
              have f0 := HG.out.own.frozen 0
              have r1 := HR.out.cellN 1 rfl
              have g1 := HG.out.cellN 1 rfl
              have f1 := HG.out.own.frozen 1
              have r2 := HR.out.cellN 2 rfl
              have g2 := HG.out.cellN 2 rfl
              have f2 := HG.out.own.frozen 2
              have r3 := HR.out.cellN 3 rfl
              have g3 := HG.out.cellN 3 rfl
              have f3 := HG.out.own.frozen 3
              have r4 := HR.out.cellN 4 rfl
              have g4 := HG.out.cellN 4 rfl
              have f4 := HG.out.own.frozen 4
              have r5 := HR.out.cellN 5 rfl
              have g5 := HG.out.cellN 5 rfl
              have f5 := HG.out.own.frozen 5
              clear hG2 hb6 hk6 HR HG HB HS HW HK
              go_wp2
              exact post_own2 HE.out.1.own rfl rfl rfl Tryd.underlying46 rfl (by kernel_rfl) HE.out.2
            · have hfull' : ((t.l.length : Int) == t.many) = false := by simpa using hfull
              have HT2 := Lib.hid (HStep.out.trans (HstW.out.trans (if_neg hfull)))
              clear HStep HStop HstW
              have c4 := HR.out.cellN 4 rfl
              obtain ⟨v', W5, hrun, hS5, hb5, hk5⟩ := HS.out.seal (by omega)
              obtain ⟨⟨A5, c5, rfl, h5a, h5b⟩, _⟩ := hS5.form
              have HP := Lib.hid hrun
              have HR5 := Lib.hid (HR.out.keep (hk5 46 (by decide)))
              have HG5 := Lib.hid (HG.out.keep (hk5 46 (by decide)))
              have c3' := HR5.out.cellN 3 rfl
              have c4' := HR5.out.cellN 4 rfl
              have c5' := HR5.out.cellN 5 rfl
              have f3 := HR5.out.own.frozen 3
              have f4 := HR5.out.own.frozen 4
              have f5 := HR5.out.own.frozen 5
              generalize t.l ++ [t.now] = l2 at *
              have HRn := Lib.hid (((HR5.out.set 3 (.slice A5 l2.length c5)).set 4 (.slice none 0 0)).set 5 (.bool false))
              have hkk : ∀ u, u ≠ 46 → KeepT u W5 (((W5.setCell ⟨w.heap.size, 3, none⟩ (.slice A5 l2.length c5)).setCell ⟨w.heap.size, 4, none⟩ (.slice none 0 0)).setCell ⟨w.heap.size, 5, none⟩ (.bool false)) := fun u hu => ((KeepT.set HR5.out hu _ _).trans (KeepT.set (HR5.out.set 3 _) hu _ _)).trans (KeepT.set ((HR5.out.set 3 _).set 4 _) hu _ _)
              have HSn := Lib.hid (hS5.keep (hkk _ (by decide)) (hkk _ (by decide)))
              have HWn := Lib.hid ((HW.out.keep (hk5 _ (by decide))).keep (hkk _ (by decide)))
              have HGn := Lib.hid (((HG5.out.far (show w.heap.size + 1 ≠ w.heap.size by omega) 3 (.slice A5 l2.length c5)).far (show w.heap.size + 1 ≠ w.heap.size by omega) 4 (.slice none 0 0)).far (show w.heap.size + 1 ≠ w.heap.size by omega) 5 (.bool false))
              have HBn := Lib.hid ((HB.out.trans hb5).trans (show Below B W5 (((W5.setCell ⟨w.heap.size, 3, none⟩ (.slice A5 l2.length c5)).setCell ⟨w.heap.size, 4, none⟩ (.slice none 0 0)).setCell ⟨w.heap.size, 5, none⟩ (.bool false)) from (((Below.refl B W5).setCell hB _).setCell hB _).setCell hB _))
              have HKn := Lib.hid (fun u a b => ((HK.out u a b).trans (hk5 u b)).setNew (Nat.le_refl _) 3 (.slice A5 l2.length c5) |>.setNew (Nat.le_refl _) 4 (.slice none 0 0) |>.setNew (Nat.le_refl _) 5 (.bool false))
              clear hrun hS5 hb5 hk5 hkk HR5 HG5 HS HW HB HR HG HK
              go_wp2_with (refine pushL_ rfl rfl rfl rfl HP.out ?_; clear HP)
              go_roundg (ws.length - (i + 1))
              case measure => omega
              case rel => exact ⟨i + 1, ⟨t.head, t.atoms, t.many, l2, [], false⟩, .slice A5 l2.length c5, .slice none 0 0, by omega, by omega, by go_num, HT2, HRn, HGn, HSn, HWn, HBn, HKn⟩
    · have hltz : ¬ (i : Int) < (ws.length : Int) := by omega
      have hT := HT.out
      rw [List.take_of_length_le (by omega)] at hT
      have hon := Lib.hid hT
      clear hT HT
      have hG2 : OwnT ((((((wr.setCell ⟨w.heap.size + 1, 0, none⟩ (.bool t.head)).setCell ⟨w.heap.size + 1, 1, none⟩ (.int .i64 t.atoms)).setCell ⟨w.heap.size + 1, 2, none⟩ (.int .i64 t.many)).setCell ⟨w.heap.size + 1, 3, none⟩ (.slice Al t.l.length cl)).setCell ⟨w.heap.size + 1, 4, none⟩ (.slice An t.now.length cn)).setCell ⟨w.heap.size + 1, 5, none⟩ (.bool t.opn)) (w.heap.size + 1) 46 (cells t (.slice Al t.l.length cl) (.slice An t.now.length cn)) := (((((HG.out.set 0 (.bool t.head)).set 1 (.int .i64 t.atoms)).set 2 (.int .i64 t.many)).set 3 (.slice Al t.l.length cl)).set 4 (.slice An t.now.length cn)).set 5 (.bool t.opn)
      have hb6 : Below B wr ((((((wr.setCell ⟨w.heap.size + 1, 0, none⟩ (.bool t.head)).setCell ⟨w.heap.size + 1, 1, none⟩ (.int .i64 t.atoms)).setCell ⟨w.heap.size + 1, 2, none⟩ (.int .i64 t.many)).setCell ⟨w.heap.size + 1, 3, none⟩ (.slice Al t.l.length cl)).setCell ⟨w.heap.size + 1, 4, none⟩ (.slice An t.now.length cn)).setCell ⟨w.heap.size + 1, 5, none⟩ (.bool t.opn)) := ((((((Below.refl B _).setCell hBG _).setCell hBG _).setCell hBG _).setCell hBG _).setCell hBG _).setCell hBG _
      have hk6 : ∀ u, u ≠ 46 → KeepT u wr ((((((wr.setCell ⟨w.heap.size + 1, 0, none⟩ (.bool t.head)).setCell ⟨w.heap.size + 1, 1, none⟩ (.int .i64 t.atoms)).setCell ⟨w.heap.size + 1, 2, none⟩ (.int .i64 t.many)).setCell ⟨w.heap.size + 1, 3, none⟩ (.slice Al t.l.length cl)).setCell ⟨w.heap.size + 1, 4, none⟩ (.slice An t.now.length cn)).setCell ⟨w.heap.size + 1, 5, none⟩ (.bool t.opn)) := fun u hu => (((((KeepT.set HG.out hu _ _).trans (KeepT.set (HG.out.set 0 _) hu _ _)).trans (KeepT.set ((HG.out.set 0 _).set 1 _) hu _ _)).trans (KeepT.set (((HG.out.set 0 _).set 1 _).set 2 _) hu _ _)).trans (KeepT.set ((((HG.out.set 0 _).set 1 _).set 2 _).set 3 _) hu _ _)).trans (KeepT.set (((((HG.out.set 0 _).set 1 _).set 2 _).set 3 _).set 4 _) hu _ _)
      have HE := Lib.hid (And.intro hG2 (refP_yes (vl := .slice Al t.l.length cl) (vn := .slice An t.now.length cn) rfl hon.out (HB.out.trans hb6) (HS.out.keep (hk6 _ (by decide)) (hk6 _ (by decide))) (fun u a b => ((((((HK.out u a b).setNew (Nat.le_succ _) _ _).setNew (Nat.le_succ _) _ _).setNew (Nat.le_succ _) _ _).setNew (Nat.le_succ _) _ _).setNew (Nat.le_succ _) _ _).setNew (Nat.le_succ _) _ _)))
      have r0 := HR.out.cellN 0 rfl
      have g0 := HG.out.cellN 0 rfl
      have f0 := HG.out.own.frozen 0
      have r1 := HR.out.cellN 1 rfl
      have g1 := HG.out.cellN 1 rfl
      have f1 := HG.out.own.frozen 1
      have r2 := HR.out.cellN 2 rfl
      have g2 := HG.out.cellN 2 rfl
      have f2 := HG.out.own.frozen 2
      have r3 := HR.out.cellN 3 rfl
      have g3 := HG.out.cellN 3 rfl
      have f3 := HG.out.own.frozen 3
      have r4 := HR.out.cellN 4 rfl
      have g4 := HG.out.cellN 4 rfl
      have f4 := HG.out.own.frozen 4
      have r5 := HR.out.cellN 5 rfl
      have g5 := HG.out.cellN 5 rfl
      have f5 := HG.out.own.frozen 5
      clear hG2 hb6 hk6 HR HG HB HS HW HK
      go_wp2
      exact post_own2 HE.out.1.own rfl rfl rfl Tryd.underlying46 rfl (by kernel_rfl) HE.out.2
end Go.Proofs.YtafmomlgkehdfaaDoor.F
