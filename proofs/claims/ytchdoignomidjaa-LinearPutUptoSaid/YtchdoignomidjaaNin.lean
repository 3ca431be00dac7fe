import Derived.Test.YtchdoignomidjaaAfo
import Derived.Lib.SliceRun
/- linear.without: slices.IndexFunc and DeleteFunc over a normal form of the call's own, by the closure that knows one variable. -/
set_option linter.unusedVariables false
set_option linter.unusedSimpArgs false
namespace Go.Proofs.Ytchdoignomidjaa.F
open Go.RowKit Go.Shelf Go.Proofs.YtchdoignomidjaaW.PrintLast

set_option maxRecDepth 100000 in
/-- the closure: is this the variable? -/
theorem without_fn (x : MC) (bv : Nat) (v : Int) (w : World) (hc : w.cell? ⟨bv, 0, none⟩ = some (.int .i64 v)) :
    Calls Try.prog 128 #[.agg x.cells.toArray, .pointer (some ⟨bv, 0, none⟩)] w (Decides w (decide (x.v = v))) := by
  unfold MC.cells
  obtain ⟨u, q, A, c, B, d⟩ := x
  dsimp only
  generalize dg q.num.natAbs = n1
  generalize dg q.den = n3
  generalize decide (q.num < 0) = b1
  have HF := Lib.hid ((Fr.refl w).box [.int .i64 u, .bool b1, .slice A n1.length c, .slice B n3.length d] 75)
  have h1 := cell_below HF.out.bel hc
  have hb : Hid ((u == v) = decide (u = v)) := by show _ = _; rw [Bool.eq_iff_iff]; simp
  clear hc
  go_enter Try.func128, Try.ntmps128
  go_wp2
  go_ret
  exact ⟨ret_bool hb.out, HF.out.bel⟩

/-- the place of a variable, or -1 -/
def AtVar (l : Frm) (v z : Int) : Prop := (z = -1 ∧ ∀ m ∈ l, m.1 ≠ v) ∨ ∃ (i : Nat) (h : i < l.length), z = i ∧ (l[i]).1 = v

set_option maxHeartbeats 1000000 in
set_option maxRecDepth 100000 in
theorem index_fn (A : Option Addr) (c : Nat) (l : Frm) (bv : Nat) (v : Int) (w : World) (h : FIn w A c l) (hv : w.cell? ⟨bv, 0, none⟩ = some (.int .i64 v)) (hl : l.length ≤ 1099511627776) :
    Calls Try.prog 141 #[.slice A l.length c, .func (.func 128) #[] #[.pointer (some ⟨bv, 0, none⟩)]] w fun e w' => ∃ z, e = .returned (.int .i64 z) ∧ AtVar l v z ∧ Below w.heap.size w w' := by
  have H1 := Lib.hid h
  have H2 := Lib.hid hv
  clear h hv
  go_enter Try.func141, Try.ntmps141
  go_wp2
  go_loopg [8] l.length (fun gg s8 wr => ∃ (i : Nat), i + gg = l.length ∧ s8 = .int .i64 i ∧ Hid (Below w.heap.size w wr) ∧ Hid (∀ k (h : k < l.length), k < i → (l[k]).1 ≠ v))
  case atStart => exact ⟨0, by omega, rfl, Below.refl _ _, fun k h h0 => absurd h0 (by omega)⟩
  case round =>
    obtain ⟨i, hg, rfl, HB, HN⟩ := hrel
    by_cases hlt : i < l.length
    · have hltz : (i : Int) < (l.length : Int) := by omega
      obtain ⟨ad, r, rfl, hvq, hat, h1, h2, h3, h4⟩ := H1.out.at_ i hlt
      have a1 := cell_below HB.out h1
      have a2 := cell_below HB.out h2
      have a3 := cell_below HB.out h3
      have a4 := cell_below HB.out h4
      have hrv : Hid (r.v = (l[i]).1) := by show _ = _; rw [← hvq]; rfl
      have hc := Lib.hid (fun (W : World) (hb : Below w.heap.size w W) => without_fn r bv v W (cell_below hb H2.out))
      unfold MC.cells at hc
      clear h1 h2 h3 h4 hvq hat
      go_wp2_with fail
      refine (hc.out _ HB.out).mono ?_
      rintro e W1 ⟨rfl, hb⟩
      replace HB := Lib.hid (HB.out.trans (hb.mono HB.out.size))
      clear hb hc a1 a2 a3 a4
      by_cases he : r.v = v
      · rw [decide_eq_true he]
        have hz : Hid (AtVar l v (i : Int)) := .inr ⟨i, hlt, rfl, by rw [← hrv.out]; exact he⟩
        clear he
        go_wp2
        go_ret
        exact ⟨_, rfl, hz.out, HB.out⟩
      · rw [decide_eq_false he]
        have HN2 : Hid (∀ k (h : k < l.length), k < i + 1 → (l[k]).1 ≠ v) := fun k h hk => by
          rcases Nat.lt_or_ge k i with h1 | h1
          · exact HN.out k h h1
          · obtain rfl : k = i := by omega
            rw [← hrv.out]; exact he
        clear he HN
        go_wp2
        go_roundg (l.length - (i + 1))
        case measure => omega
        case rel => exact ⟨i + 1, by omega, by go_num, HB, HN2⟩
    · have hltz : ¬ (i : Int) < (l.length : Int) := by omega
      have hz : Hid (AtVar l v (-1)) := .inl ⟨rfl, fun m hm => by
        obtain ⟨k, hk, rfl⟩ := List.getElem_of_mem hm
        exact HN.out k hk (by omega)⟩
      clear HN
      go_wp2
      go_ret
      exact ⟨_, rfl, hz.out, HB.out⟩

theorem flat_set4 (rs : List MC) (i : Nat) (hi : i < rs.length) (r : MC) :
    ((((rs.flatMap MC.cells).set (i * 4) (.int .i64 r.v)).set (i * 4 + 1) (.bool (decide (r.q.num < 0)))).set (i * 4 + 2) (.slice r.A (dg r.q.num.natAbs).length r.c)).set (i * 4 + 3) (.slice r.B (dg r.q.den).length r.d) = (rs.set i r).flatMap MC.cells := by
  induction rs generalizing i with
  | nil => simp at hi
  | cons a rs ih =>
    cases i with
    | zero => simp [List.flatMap_cons, MC.cells]
    | succ i =>
      have h := ih i (by simpa using hi)
      simp only [List.flatMap_cons, List.set_cons_succ]
      rw [← h]
      have e : ∀ (xs : List Value) (k : Nat) (u : Value), (a.cells ++ xs).set ((i + 1) * 4 + k) u = a.cells ++ xs.set (i * 4 + k) u := fun xs k u => by
        rw [List.set_append_right _ _ (by show 4 ≤ _; omega), show (i + 1) * 4 + k - a.cells.length = i * 4 + k by show _ - 4 = _; omega]
      have e0 : ∀ (xs : List Value) (u : Value), (a.cells ++ xs).set ((i + 1) * 4) u = a.cells ++ xs.set (i * 4) u := fun xs u => e xs 0 u
      rw [e0, e, e, e]
theorem OwnR.put4 {w : World} {B g cap : Nat} {rs : List MC} (h : OwnR w B g cap rs) (i : Nat) (hi : i < rs.length) (r : MC) (hr : r.At w) :
    OwnR ((((w.setCell ⟨g, i * 4, none⟩ (.int .i64 r.v)).setCell ⟨g, i * 4 + 1, none⟩ (.bool (decide (r.q.num < 0)))).setCell ⟨g, i * 4 + 2, none⟩ (.slice r.A (dg r.q.num.natAbs).length r.c)).setCell ⟨g, i * 4 + 3, none⟩ (.slice r.B (dg r.q.den).length r.d)) B g cap (rs.set i r) := by
  obtain ⟨h0, k0⟩ := h.own.setCell (i * 4) (by omega) (u := .int .i64 r.v) (fun y e => by cases e)
  obtain ⟨h1, k1⟩ := h0.setCell (i * 4 + 1) (by omega) (u := .bool (decide (r.q.num < 0))) (fun y e => by cases e)
  obtain ⟨h2, k2⟩ := h1.setCell (i * 4 + 2) (by omega) (u := .slice r.A (dg r.q.num.natAbs).length r.c) (fun y e => by cases e)
  obtain ⟨h3, k3⟩ := h2.setCell (i * 4 + 3) (by omega) (u := .slice r.B (dg r.q.den).length r.d) (fun y e => by cases e)
  have hk := ((k0.trans k1).trans k2).trans k3
  rw [flat_set4 rs i hi r] at h3
  refine ⟨by rw [List.length_set]; exact h3, fun x hx => ?_⟩
  rcases List.mem_or_eq_of_mem_set hx with hx | rfl
  · exact (h.at_ x hx).keep hk
  · exact hr.keep hk
theorem flat_take (rs : List MC) (m : Nat) : (rs.flatMap MC.cells).take (m * 4) = (rs.take m).flatMap MC.cells := by
  induction rs generalizing m with
  | nil => simp
  | cons a rs ih =>
    cases m with
    | zero => simp
    | succ m =>
      rw [List.take_succ_cons, List.flatMap_cons, List.flatMap_cons, show (m + 1) * 4 = a.cells.length + m * 4 by show _ = 4 + _; omega, List.take_length_add_append, ih]
/-- the last terms cleared, and the slice cut ahead of them -/
theorem OwnR.cut {w : World} {B g cap : Nat} {rs : List MC} (h : OwnR w B g cap rs) (m : Nat) (hm : m + 1 = rs.length) :
    OwnR ((((w.setCell ⟨g, m * 4, none⟩ (.int .i64 0)).setCell ⟨g, m * 4 + 1, none⟩ (.bool false)).setCell ⟨g, m * 4 + 2, none⟩ (.slice none 0 0)).setCell ⟨g, m * 4 + 3, none⟩ (.slice none 0 0)) B g cap (rs.take m) := by
  obtain ⟨h0, k0⟩ := h.own.setCell (m * 4) (by omega) (u := .int .i64 0) (fun y e => by cases e)
  obtain ⟨h1, k1⟩ := h0.setCell (m * 4 + 1) (by omega) (u := .bool false) (fun y e => by cases e)
  obtain ⟨h2, k2⟩ := h1.setCell (m * 4 + 2) (by omega) (u := .slice none 0 0) (fun y e => by cases e)
  obtain ⟨h3, k3⟩ := h2.setCell (m * 4 + 3) (by omega) (u := .slice none 0 0) (fun y e => by cases e)
  have hk := ((k0.trans k1).trans k2).trans k3
  obtain ⟨hB, cur, hg, hn, hc, hs, ht, hu⟩ := h3.block
  have hlen : (rs.take m).length = m := by rw [List.length_take]; omega
  refine ⟨⟨by exact flat_len (rs.take m), .inr ⟨g, cap, cur, rfl, hB, hg, by omega, hc, hs, ?_, hu⟩⟩, fun x hx => (h.at_ x (List.mem_of_mem_take hx)).keep hk⟩
  rw [hlen, ← flat_take]
  have e1 : cur.toList.take (m * 4) = (cur.toList.take (rs.length * 4)).take (m * 4) := by rw [List.take_take, Nat.min_eq_left (by omega)]
  rw [e1, ht, List.take_set_of_le (by omega), List.take_set_of_le (by omega), List.take_set_of_le (by omega), List.take_set_of_le (by omega)]
end Go.Proofs.Ytchdoignomidjaa.F
/- slices.DeleteFunc over a normal form of the call's own; linear.without. -/
set_option linter.unusedVariables false
set_option linter.unusedSimpArgs false
namespace Go.Proofs.Ytchdoignomidjaa.F
open Go.RowKit Go.Shelf Go.Proofs.YtchdoignomidjaaW.PrintLast

theorem run_clear_mono (w : World) (g o m c : Nat) (hm : m = 1) (h0 : (w.cell? ⟨g, o, none⟩).isSome = true) (h1 : (w.cell? ⟨g, o + 1, none⟩).isSome = true) (h2 : (w.cell? ⟨g, o + 2, none⟩).isSome = true) (h3 : (w.cell? ⟨g, o + 3, none⟩).isSome = true) (hf : ∀ j, w.frozen? ⟨g, j, none⟩ = false) (ty : TypeId) :
    (Builtin.clear_ #[23] ty #[.slice (some ⟨g, o, none⟩) m c]).run Try.prog w = .ok (.tuple #[]) ((((w.setCell ⟨g, o, none⟩ (.int .i64 0)).setCell ⟨g, o + 1, none⟩ (.bool false)).setCell ⟨g, o + 2, none⟩ (.slice none 0 0)).setCell ⟨g, o + 3, none⟩ (.slice none 0 0)) := by
  subst hm
  have hi : (Try.prog.info? 75).map (fun i => (i.zero, i.size, i.bytes)) = some (some (.agg #[.int .i64 0, .bool false, .slice none 0 0, .slice none 0 0]), 4, 64) := by kernel_rfl
  obtain ⟨i, hi0, hz, hs, hby⟩ := info_parts hi
  have hst := run_storeCells_cells (P := Try.prog) g o [.int .i64 0, .bool false, .slice none 0 0, .slice none 0 0] 0 w (fun j hj => by
    have : j = 0 ∨ j = 1 ∨ j = 2 ∨ j = 3 := by simp at hj; omega
    rcases this with rfl | rfl | rfl | rfl
    · exact h0
    · exact h1
    · exact h2
    · exact h3) (fun j hj => hf _) (by decide)
  simp only [Nat.add_zero] at hst
  have hzc : (Builtin.zeroCells (Value.agg #[.int .i64 0, .bool false, .slice none 0 0, .slice none 0 0]).cells 1).toList = [.int .i64 0, .bool false, .slice none 0 0, .slice none 0 0] := by kernel_rfl
  simp [Builtin.clear_, run_underlying Try.underlying23, zeroValue, typeInfo, hi0, hz, hzc, hst, World.setCells]

set_option maxRecDepth 100000 in
theorem nil_delete (bv : Nat) (v : Int) (w : World) (hv : w.cell? ⟨bv, 0, none⟩ = some (.int .i64 v)) :
    Calls Try.prog 127 #[.slice none 0 0, .func (.func 128) #[] #[.pointer (some ⟨bv, 0, none⟩)]] w fun e w' => e = .returned (.slice none 0 0) ∧ Below w.heap.size w w' := by
  have hI := Lib.hid (index_fn none 0 [] bv v w (FIn.nil _ _ _) hv (by simp))
  clear hv
  simp only [List.length_nil] at hI
  go_enter Try.func127, Try.ntmps127
  go_wp2_with fail
  refine hI.out.mono ?_
  rintro e W1 ⟨z, rfl, hz, hb⟩
  have HB := Lib.hid hb
  obtain rfl : z = -1 := by
    rcases hz with ⟨h, _⟩ | ⟨i, hi, _⟩
    · exact h
    · cases hi
  clear hz hb hI
  go_wp2
  go_ret
  exact ⟨rfl, HB.out⟩
/-- a normal form has a variable once -/
theorem nf_once {rs : List MC} (h : Nf (rs.map MC.vq)) {i j : Nat} (hi : i < rs.length) (hj : j < rs.length) (hij : i < j) : rs[i].v ≠ rs[j].v := by
  have hp := List.pairwise_iff_getElem.1 h.up i j (by simpa using hi) (by simpa using hj) hij
  simp only [List.getElem_map, MC.vq] at hp
  omega
/-- a form without a variable -/
def wout (l : Frm) (v : Int) : Frm := l.filter fun m => decide (m.1 ≠ v)
theorem wout_none {l : Frm} {v : Int} (h : ∀ m ∈ l, m.1 ≠ v) : wout l v = l := List.filter_eq_self.2 fun m hm => by simpa using h m hm
theorem wout_erase {l : Frm} {v : Int} (h : Nf l) (i : Nat) (hi : i < l.length) (hv : (l[i]).1 = v) : wout l v = l.eraseIdx i := by
  have hp := List.pairwise_iff_getElem.1 h.up
  unfold wout
  rw [List.eraseIdx_eq_take_drop_succ]
  have e1 : l = l.take i ++ l[i] :: l.drop (i + 1) := by rw [← List.drop_eq_getElem_cons hi, List.take_append_drop]
  conv => lhs; rw [e1]
  rw [List.filter_append, List.filter_cons_of_neg (by simp [hv])]
  congr 1
  · refine List.filter_eq_self.2 fun m hm => ?_
    obtain ⟨k, hk, rfl⟩ := List.getElem_of_mem hm
    rw [List.getElem_take]
    have hk' : k < i := by rw [List.length_take] at hk; omega
    have := hp k i (by omega) hi hk'
    simp; omega
  · refine List.filter_eq_self.2 fun m hm => ?_
    obtain ⟨k, hk, rfl⟩ := List.getElem_of_mem hm
    rw [List.getElem_drop]
    rw [List.length_drop] at hk
    have := hp i (i + 1 + k) hi (by omega) (by omega)
    simp; omega

/-- the terms ahead of i are the wanted ones, those from j on stand as they did -/
structure Moved (rs ts : List MC) (i0 i j : Nat) : Prop where
  len : ts.length = rs.length
  low : ∀ k, k < i → ts[k]? = (rs.eraseIdx i0)[k]?
  high : ∀ k, j ≤ k → ts[k]? = rs[k]?
theorem Moved.start {rs : List MC} {i0 : Nat} : Moved rs rs i0 i0 (i0 + 1) := ⟨rfl, fun k hk => by rw [List.getElem?_eraseIdx_of_lt hk], fun k hk => rfl⟩
theorem Moved.step {rs ts : List MC} {i0 i j : Nat} (h : Moved rs ts i0 i j) (h1 : i0 ≤ i) (h2 : j = i + 1) (hj : j < rs.length) : Moved rs (ts.set i rs[j]) i0 (i + 1) (j + 1) := by
  refine ⟨by rw [List.length_set]; exact h.len, fun k hk => ?_, fun k hk => ?_⟩
  · by_cases e : k = i
    · subst e
      rw [List.getElem?_set_self (by rw [h.len]; omega), List.getElem?_eraseIdx_of_ge h1, List.getElem?_eq_getElem (by omega)]
      subst h2; rfl
    · rw [List.getElem?_set_ne (by omega)]
      exact h.low k (by omega)
  · rw [List.getElem?_set_ne (by omega)]
    exact h.high k (by omega)
theorem Moved.last {rs ts : List MC} {i0 i : Nat} (h : Moved rs ts i0 i rs.length) (h0 : i0 < rs.length) (h2 : rs.length = i + 1) : ts.take i = rs.eraseIdx i0 := by
  refine List.ext_getElem? fun k => ?_
  by_cases hk : k < i
  · rw [List.getElem?_take_of_lt hk]; exact h.low k hk
  · rw [List.getElem?_take_eq_none (by omega), List.getElem?_eq_none]
    rw [List.length_eraseIdx_of_lt h0]; omega

set_option maxHeartbeats 2000000 in
set_option maxRecDepth 100000 in
theorem delete_fn (g cap B : Nat) (rs : List MC) (bv : Nat) (v : Int) (w : World) (hO : OwnR w B g cap rs) (hn : Nf (rs.map MC.vq)) (hv : w.cell? ⟨bv, 0, none⟩ = some (.int .i64 v)) (hbv : bv < B) (hB : B ≤ w.heap.size) (hl : rs.length ≤ 1099511627776) :
    Calls Try.prog 127 #[.slice (some ⟨g, 0, none⟩) rs.length cap, .func (.func 128) #[] #[.pointer (some ⟨bv, 0, none⟩)]] w fun e w' => ∃ ts : List MC, e = .returned (.slice (some ⟨g, 0, none⟩) ts.length cap) ∧ OwnR w' B g cap ts ∧ ts.map MC.vq = wout (rs.map MC.vq) v ∧ Below B w w' := by
  have hcap := hO.own.block.2.elim fun cur h => h.2.1
  have hF := hO.ownF.fin'
  have hI := Lib.hid (index_fn (some ⟨g, 0, none⟩) cap (rs.map MC.vq) bv v w hF hv (by rw [List.length_map]; exact hl))
  rw [List.length_map] at hI
  have HN := Lib.hid hn
  have HO := Lib.hid hO
  have HV := Lib.hid hv
  clear hF hn hO hv
  go_enter Try.func127, Try.ntmps127
  go_wp2_with fail
  refine hI.out.mono ?_
  rintro e W1 ⟨z, rfl, hz, hb⟩
  replace HO := Lib.hid (HO.out.below hb)
  have HB := Lib.hid (hb.mono hB)
  replace HV := Lib.hid (cell_below hb HV.out)
  have hB1 := hb.size
  clear hb hI
  rcases hz with ⟨rfl, hz⟩ | ⟨i0, hi0, rfl, hz⟩
  · have HE := Lib.hid (wout_none hz)
    clear hz
    go_wp2
    go_ret
    exact ⟨rs, rfl, HO.out, HE.out.symm, HB.out⟩
  · rw [List.length_map] at hi0
    have HE := Lib.hid (wout_erase HN.out i0 (by rw [List.length_map]; exact hi0) hz)
    have HD := Lib.hid (show ∀ j (h : j < rs.length), i0 < j → rs[j].v ≠ v from fun j h hj e => nf_once HN.out hi0 h hj (by
      simp only [List.getElem_map, MC.vq] at hz
      rw [hz, e]))
    have hne : ((i0 : Int) == -1) = false := beq_eq_false_iff_ne.2 (by omega)
    have HM : Hid (Moved rs rs i0 i0 (i0 + 1)) := Moved.start
    clear hz
    go_wp2
    go_loopg [5, 6, 7] rs.length (fun gg s5 s6 _ wr => ∃ (i j : Nat) (ts : List MC), s5 = .int .i64 i ∧ s6 = .int .i64 j ∧ Hid (j = i + 1) ∧ i0 ≤ i ∧ j ≤ rs.length ∧ rs.length - j ≤ gg ∧ ts.length ≤ rs.length ∧ rs.length ≤ ts.length ∧ Hid (OwnR wr B g cap ts) ∧ Hid (Moved rs ts i0 i j) ∧ Hid (wr.cell? ⟨bv, 0, none⟩ = some (.int .i64 v)) ∧ Hid (Below B w wr))
    case atStart => exact ⟨i0, i0 + 1, rs, rfl, by go_num, rfl, Nat.le_refl _, by omega, by omega, Nat.le_refl _, Nat.le_refl _, HO, HM, HV, HB⟩
    case round =>
      clear HO HM HV HB
      obtain ⟨i, j, ts, rfl, rfl, HJ, hii, hjl, hgg, t1, t2, HO, HM, HV, HB⟩ := hrel
      have hBr := HB.out.size
      have hgB := HO.out.own.block.1
      have hBB : B ≤ wr.heap.size := by omega
      by_cases hlt : j < rs.length
      · have hltz : (j : Int) < (rs.length : Int) := by omega
        obtain ⟨r, hr⟩ : ∃ r, r = rs[j] := ⟨_, rfl⟩
        have htj : ts[j]? = some r := by rw [HM.out.high j (Nat.le_refl _), List.getElem?_eq_getElem hlt, hr]
        have hjt : j < ts.length := by omega
        have hit : i < ts.length := by have := HJ.out; omega
        have htr : ts[j] = r := by rw [List.getElem?_eq_getElem hjt] at htj; exact Option.some.inj htj
        have a1 := HO.out.cell j hjt 0 (u := .int .i64 r.v) (by rw [htr]; rfl)
        have a2 := HO.out.cell j hjt 1 (u := .bool (decide (r.q.num < 0))) (by rw [htr]; rfl)
        have a3 := HO.out.cell j hjt 2 (u := .slice r.A (dg r.q.num.natAbs).length r.c) (by rw [htr]; rfl)
        have a4 := HO.out.cell j hjt 3 (u := .slice r.B (dg r.q.den).length r.d) (by rw [htr]; rfl)
        rw [Nat.add_zero] at a1
        have hne2 : r.v ≠ v := by rw [hr]; exact HD.out j hlt (by have := HJ.out; omega)
        have HR := Lib.hid (HO.out.at_ r (by rw [← htr]; exact List.getElem_mem _))
        have HM2 := Lib.hid (HM.out.step hii HJ.out hlt)
        rw [← hr] at HM2
        have hc := Lib.hid (fun (W : World) (h : W.cell? ⟨bv, 0, none⟩ = some (.int .i64 v)) => without_fn r bv v W h)
        rw [decide_eq_false hne2] at hc
        unfold MC.cells at hc
        have hal := Lib.hid ((Below.refl _ wr).alloc (Nat.le_refl _) (.cells #[.int .i64 r.v, .bool (decide (r.q.num < 0)), .slice r.A (dg r.q.num.natAbs).length r.c, .slice r.B (dg r.q.den).length r.d] 75))
        have HF := Lib.hid ((Fr.refl wr).box [.int .i64 r.v, .bool (decide (r.q.num < 0)), .slice r.A (dg r.q.num.natAbs).length r.c, .slice r.B (dg r.q.den).length r.d] 75)
        replace HV := Lib.hid (cell_below hal.out HV.out)
        clear hr htj htr hne2 HM
        go_wp2_with fail
        refine (hc.out _ HV.out).mono ?_
        rintro e W2 ⟨rfl, hb⟩
        replace HF := Lib.hid (HF.out.below hb)
        replace HV := Lib.hid (cell_below hb HV.out)
        replace HO := Lib.hid ((HO.out.below hal.out).below hb)
        replace HR := Lib.hid (HR.out.keep ((KeepU.below hal.out).trans (KeepU.below hb)))
        replace HB := Lib.hid ((HB.out.trans (hal.out.mono hBB)).trans (hb.mono (Nat.le_trans hBB hal.out.size)))
        clear a1 a2 a3 a4 hal hb hc
        have d0 := HF.out.cellN 0 rfl 0 rfl
        have d1 := HF.out.cellN 0 rfl 1 rfl
        have d2 := HF.out.cellN 0 rfl 2 rfl
        have d3 := HF.out.cellN 0 rfl 3 rfl
        have f0 := HO.out.frozen (i * 4)
        have f1 := HO.out.frozen (i * 4 + 1)
        have f2 := HO.out.frozen (i * 4 + 2)
        have f3 := HO.out.frozen (i * 4 + 3)
        obtain ⟨o, ho⟩ : ∃ o, o = ts[i] := ⟨_, rfl⟩
        have b0 := HO.out.cell i hit 0 (u := .int .i64 o.v) (by rw [← ho]; rfl)
        have b1 := HO.out.cell i hit 1 (u := .bool (decide (o.q.num < 0))) (by rw [← ho]; rfl)
        have b2 := HO.out.cell i hit 2 (u := .slice o.A (dg o.q.num.natAbs).length o.c) (by rw [← ho]; rfl)
        have b3 := HO.out.cell i hit 3 (u := .slice o.B (dg o.q.den).length o.d) (by rw [← ho]; rfl)
        rw [Nat.add_zero] at b0
        have HO2 := Lib.hid (HO.out.put4 i hit r HR.out)
        have HV2 := Lib.hid (show ((((W2.setCell ⟨g, i * 4, none⟩ (.int .i64 r.v)).setCell ⟨g, i * 4 + 1, none⟩ (.bool (decide (r.q.num < 0)))).setCell ⟨g, i * 4 + 2, none⟩ (.slice r.A (dg r.q.num.natAbs).length r.c)).setCell ⟨g, i * 4 + 3, none⟩ (.slice r.B (dg r.q.den).length r.d)).cell? ⟨bv, 0, none⟩ = some (.int .i64 v) from by
          refine (World.cell?_of_block ?_).trans HV.out
          have hgb : bv ≠ g := by omega
          show (World.setCell _ _ _).heap[bv]? = _
          rw [Below.heap_setCell _ _ _ _ hgb, Below.heap_setCell _ _ _ _ hgb, Below.heap_setCell _ _ _ _ hgb, Below.heap_setCell _ _ _ _ hgb])
        have HB2 := Lib.hid ((((HB.out.setCell (p := ⟨g, i * 4, none⟩) hgB (.int .i64 r.v)).setCell (p := ⟨g, i * 4 + 1, none⟩) hgB (.bool (decide (r.q.num < 0)))).setCell (p := ⟨g, i * 4 + 2, none⟩) hgB (.slice r.A (dg r.q.num.natAbs).length r.c)).setCell (p := ⟨g, i * 4 + 3, none⟩) hgB (.slice r.B (dg r.q.den).length r.d))
        have t1' : (ts.set i r).length ≤ rs.length := by rw [List.length_set]; exact t1
        have t2' : rs.length ≤ (ts.set i r).length := by rw [List.length_set]; exact t2
        clear ho HO HV HB HF
        go_wp2
        go_roundg (rs.length - (j + 1))
        case measure => omega
        case rel => exact ⟨i + 1, j + 1, ts.set i r, by go_num, by go_num, by have := HJ.out; show _ = _; omega, by omega, by omega, by omega, t1', t2', HO2, HM2, HV2, HB2⟩
      · have hltz : ¬ (j : Int) < (rs.length : Int) := by omega
        have hjn : rs.length = j := by omega
        have hin : i + 1 = ts.length := by have := HJ.out; omega
        have hin2 : rs.length = i + 1 := by omega
        have HL := Lib.hid (show ts.take i = rs.eraseIdx i0 from Moved.last (by rw [hjn]; exact HM.out) hi0 hin2)
        have hlen : (ts.take i).length = i := by rw [List.length_take]; omega
        have HO2 := Lib.hid (HO.out.cut i hin)
        obtain ⟨o, ho⟩ : ∃ o, o = ts[i]'(by omega) := ⟨_, rfl⟩
        have b0 := HO.out.cell i (by omega) 0 (u := .int .i64 o.v) (by rw [← ho]; rfl)
        have b1 := HO.out.cell i (by omega) 1 (u := .bool (decide (o.q.num < 0))) (by rw [← ho]; rfl)
        have b2 := HO.out.cell i (by omega) 2 (u := .slice o.A (dg o.q.num.natAbs).length o.c) (by rw [← ho]; rfl)
        have b3 := HO.out.cell i (by omega) 3 (u := .slice o.B (dg o.q.den).length o.d) (by rw [← ho]; rfl)
        rw [Nat.add_zero] at b0
        have hcl := run_clear_mono wr g (i * 4) (rs.length - i) (cap - i) (by omega) (by rw [b0]; rfl) (by rw [b1]; rfl) (by rw [b2]; rfl) (by rw [b3]; rfl) HO.out.frozen
        have HB2 := Lib.hid ((((HB.out.setCell (p := ⟨g, i * 4, none⟩) hgB (.int .i64 0)).setCell (p := ⟨g, i * 4 + 1, none⟩) hgB (.bool false)).setCell (p := ⟨g, i * 4 + 2, none⟩) hgB (.slice none 0 0)).setCell (p := ⟨g, i * 4 + 3, none⟩) hgB (.slice none 0 0))
        have HE2 := Lib.hid (show (ts.take i).map MC.vq = wout (rs.map MC.vq) v from by rw [HL.out, HE.out]; simp [List.eraseIdx_eq_take_drop_succ, List.map_take, List.map_drop])
        have hci : ¬ cap = i := by omega
        have hci2 : ¬ i = cap := by omega
        have hir : i ≤ rs.length := by omega
        have hic : i ≤ cap := by omega
        clear ho b0 b1 b2 b3 HO HV HB HM HL HE HJ hjn hin hin2
        go_wp2
        go_ret
        refine ⟨ts.take i, ?_, HO2.out, HE2.out, HB2.out⟩
        rw [hlen]
        rfl

theorem wout_nil (v : Int) : wout [] v = [] := rfl
theorem co_wout (l : Frm) (v u : Int) : co (wout l v) u = if u = v then 0 else co l u := by
  induction l with
  | nil => simp [wout, co]
  | cons m l ih =>
    unfold wout at ih ⊢
    by_cases h : m.1 = v
    · rw [List.filter_cons_of_neg (by simp [h]), ih]
      simp only [co]
      by_cases hu : u = v
      · rw [if_pos hu, if_pos hu]
      · rw [if_neg hu, if_neg hu, if_neg (by omega)]; grind
    · rw [List.filter_cons_of_pos (by simp [h])]
      simp only [co, ih]
      by_cases hu : u = v
      · rw [if_pos hu, if_pos hu, if_neg (by omega)]; grind
      · rw [if_neg hu, if_neg hu]

set_option maxHeartbeats 1000000 in
set_option maxRecDepth 100000 in
theorem linear_without (A : Option Addr) (c : Nat) (f : List (Int × RatD)) (v : Int) (w : World) (h : FRaw w A c f) :
    Calls Try.prog 94 #[.slice A f.length c, .int .i64 v] w (ToldFm w (wout (nform (fval f)) v)) := by
  have hN := Lib.hid (fun (W : World) (hb : Below w.heap.size w W) => linear_Norm f.length A c f W (Nat.le_refl _) (h.below hb))
  have hNf := Lib.hid (nform_Nf (fval f))
  have hl := nform_len (fval f)
  have hlf := h.len
  rw [fval_length] at hl
  clear h
  generalize nform (fval f) = l at *
  have HF := Lib.hid ((Fr.refl w).box [.int .i64 v] 3)
  go_enter Try.func94, Try.ntmps94
  go_wp2_with fail
  refine (hN.out _ HF.out.bel).mono ?_
  rintro e W1 ⟨vv, rfl, h1, hb⟩
  have hw := HF.out.ltN 0 rfl
  replace HF := Lib.hid (HF.out.below hb)
  have hbz := hb.size
  clear hb hN
  have hv := HF.out.cellN 0 rfl 0 rfl
  obtain ⟨rs, hrs, hown, hat⟩ := h1
  rcases hown.2 with ⟨rfl, hl0⟩ | ⟨g, cap, cur, rfl, hgB, hrest⟩
  · have : l = [] := List.eq_nil_of_length_eq_zero hl0
    subst this
    clear hown hat hrs
    have hI := Lib.hid (nil_delete w.heap.size v W1 hv)
    clear hv
    go_wp2_with fail
    refine hI.out.mono ?_
    rintro e W2 ⟨rfl, hb⟩
    replace HF := Lib.hid (HF.out.below hb)
    clear hb hI
    go_wp2
    go_ret
    exact ⟨_, rfl, OwnF.nil _ _, HF.out.bel⟩
  · have hrl : rs.length = l.length := by rw [← hrs]; simp
    have hO : OwnR W1 _ g cap rs := ⟨by rw [hrl]; exact hown, hat⟩
    have hD := Lib.hid (delete_fn g cap _ rs w.heap.size v W1 hO (by rw [hrs]; exact hNf.out) hv hw hbz (by omega))
    rw [hrl, hrs] at hD
    clear hO hown hat hrs hrest hrl hv
    go_wp2_with fail
    refine hD.out.mono ?_
    rintro e W2 ⟨ts, rfl, ho, he, hb⟩
    have HE := Lib.hid ho.ownF
    rw [he] at HE
    have HB := Lib.hid (HF.out.bel.trans (hb.mono (by omega)))
    have hlt : ts.length = (wout l v).length := by rw [← he, List.length_map]
    rw [hlt] at HE ⊢
    clear ho he hb hD hlt
    go_wp2
    go_ret
    exact ⟨_, rfl, HE.out.mono (by omega), HB.out⟩
end Go.Proofs.Ytchdoignomidjaa.F
/- linear.Subst and linear.Solve. -/
set_option linter.unusedVariables false
set_option linter.unusedSimpArgs false
namespace Go.Proofs.Ytchdoignomidjaa.F
open Go.RowKit Go.Shelf Go.Proofs.YtchdoignomidjaaW.PrintLast

theorem mf_wout (l : Frm) (v : Int) : mf (wout l v) ≤ mf l := by
  induction l with
  | nil => exact Nat.le_refl _
  | cons m l ih =>
    unfold wout at ih ⊢
    by_cases h : m.1 = v
    · rw [List.filter_cons_of_neg (by simp [h]), mf_cons]; omega
    · rw [List.filter_cons_of_pos (by simp [h]), mf_cons, mf_cons]; omega
theorem wout_length (l : Frm) (v : Int) : (wout l v).length ≤ l.length := List.length_filter_le _ _
theorem mu_neg (q : Rat) : mu (-q) = mu q := by unfold mu; rw [Rat.neg_num, Rat.neg_den, Int.natAbs_neg]

set_option maxHeartbeats 2000000 in
set_option maxRecDepth 100000 in
theorem linear_Subst (A : Option Addr) (c : Nat) (f : List (Int × RatD)) (s1 : Bool) (A1 : Option Addr) (c1 : Nat) (x1 : List Int) (B1 : Option Addr) (d1 : Nat) (y1 : List Int) (v : Int) (A2 : Option Addr) (c2 : Nat) (g : List (Int × RatD)) (s2 : Bool) (A3 : Option Addr) (c3 : Nat) (x2 : List Int) (B3 : Option Addr) (d3 : Nat) (y2 : List Int) (w : World)
    (hf : FRaw w A c f) (hg : FRaw w A2 c2 g) (h1 : In w A1 c1 x1) (m1 : x1.length ≤ 137438953471) (h2 : In w B1 d1 y1) (m2 : y1.length ≤ 137438953471) (h5 : In w A3 c3 x2) (m5 : x2.length ≤ 137438953471) (h6 : In w B3 d3 y2) (m6 : y2.length ≤ 137438953471)
    (hm : mu (co (fval f) v) ≤ 137438953471) (hs : 2 * mf (wout (nform (fval f)) v) + 5 * f.length + (2 * mf (nform (smul (co (fval f) v) (fval g))) + 5 * g.length) ≤ 137438953470) (hq : QL (co (fval f) v * rv s2 x2 y2)) :
    Calls Try.prog 54 #[.agg #[.slice A f.length c, .bool s1, .slice A1 x1.length c1, .slice B1 y1.length d1], .int .i64 v, .agg #[.slice A2 g.length c2, .bool s2, .slice A3 x2.length c3, .slice B3 y2.length d3]] w (ToldA w (nform (wout (nform (fval f)) v ++ smul (co (fval f) v) (fval g))) (rv s1 x1 y1 + co (fval f) v * rv s2 x2 y2)) := by
  have hW := Lib.hid (fun (W : World) (hb : Below w.heap.size w W) => linear_without A c f v W (hf.below hb))
  have hC := Lib.hid (fun (W : World) (hb : Below w.heap.size w W) => linear_Coef A c f v W (hf.below hb))
  have l1 := wout_length (nform (fval f)) v
  have l2 := nform_len (fval f)
  rw [fval_length] at l2
  have l3 := wtm_can (wout (nform (fval f)) v)
  have l4 := mu_len (co (fval f) v)
  have hP := Lib.hid (show ∀ (W : World) (hb : Below w.heap.size w W) (E : Option Addr) (j : Nat) (E5 : Option Addr) (e5 : Nat) (G5 : Option Addr) (k5 : Nat), FIn W E j (wout (nform (fval f)) v) → InQ W E5 e5 G5 k5 (co (fval f) v) → Calls Try.prog 79 #[.agg #[.slice E (wout (nform (fval f)) v).length j, .bool s1, .slice A1 x1.length c1, .slice B1 y1.length d1], .agg #[.bool (decide ((co (fval f) v).num < 0)), .slice E5 (dg (co (fval f) v).num.natAbs).length e5, .slice G5 (dg (co (fval f) v).den).length k5], .agg #[.slice A2 g.length c2, .bool s2, .slice A3 x2.length c3, .slice B3 y2.length d3]] W (ToldA W (nform (wout (nform (fval f)) v ++ smul (co (fval f) v) (fval g))) (rv s1 x1 y1 + co (fval f) v * rv s2 x2 y2)) from fun W hb E j E5 e5 G5 k5 q1 q2 => by
    have e := linear_plus E j _ s1 A1 c1 x1 B1 d1 y1 (decide ((co (fval f) v).num < 0)) E5 e5 _ G5 k5 _ A2 c2 g s2 A3 c3 x2 B3 d3 y2 W (q1.raw (by omega)) (hg.below hb) (h1.below hb) m1 (h2.below hb) m2 q2.num (by omega) q2.den (by omega) (h5.below hb) m5 (h6.below hb) m6 (by rw [rv_can]; omega) (by rw [rv_can]; exact hq)
    rw [List.length_map, fval_can, rv_can] at e
    exact e)
  clear hf hg h1 h2 h5 h6 hs hq l1 l2 l3 l4 hm
  generalize nform (wout (nform (fval f)) v ++ smul (co (fval f) v) (fval g)) = l at *
  generalize rv s1 x1 y1 + co (fval f) v * rv s2 x2 y2 = r at *
  generalize wout (nform (fval f)) v = n at *
  generalize co (fval f) v = q at *
  have HF := Lib.hid ((((Fr.refl w).box [.slice A f.length c, .bool s1, .slice A1 x1.length c1, .slice B1 y1.length d1] 60).box [.slice A2 g.length c2, .bool s2, .slice A3 x2.length c3, .slice B3 y2.length d3] 60).box [.slice none 0 0, .bool false, .slice none 0 0, .slice none 0 0] 60)
  have hsz : ∀ (w : World) (o : Obj), (w.alloc o).heap.size = w.heap.size + 1 := fun w o => by simp
  simp only [hsz, Nat.add_assoc, Nat.reduceAdd] at HF
  clear hsz
  go_enter Try.func54, Try.ntmps54
  go_wp2_with fail
  generalize World.alloc _ _ = W at HF ⊢
  have HF_ := Lib.hid HF.out.drew
  clear HF
  have HF := HF_
  clear HF_
  refine start_ (n := 14) (S := fun w' => w'.cell? ⟨w.heap.size, 0, none⟩ = some (.slice A f.length c) ∧ w'.cell? ⟨w.heap.size, 1, none⟩ = some (.bool s1) ∧ w'.cell? ⟨w.heap.size, 2, none⟩ = some (.slice A1 x1.length c1) ∧ w'.cell? ⟨w.heap.size, 3, none⟩ = some (.slice B1 y1.length d1) ∧ w'.cell? ⟨w.heap.size + 1, 0, none⟩ = some (.slice A2 g.length c2) ∧ w'.cell? ⟨w.heap.size + 1, 1, none⟩ = some (.bool s2) ∧ w'.cell? ⟨w.heap.size + 1, 2, none⟩ = some (.slice A3 x2.length c3) ∧ w'.cell? ⟨w.heap.size + 1, 3, none⟩ = some (.slice B3 y2.length d3)) (ds := []) #[false, false, false, false, false, false, false, false, false, false, false, false, false, false] (by kernel_rfl) rfl rfl ⟨HF.out.cellN 2 rfl 0 rfl, HF.out.cellN 2 rfl 1 rfl, HF.out.cellN 2 rfl 2 rfl, HF.out.cellN 2 rfl 3 rfl, HF.out.cellN 1 rfl 0 rfl, HF.out.cellN 1 rfl 1 rfl, HF.out.cellN 1 rfl 2 rfl, HF.out.cellN 1 rfl 3 rfl⟩ (fun hHeld => ?_)
  generalize World.drew _ = W at *
  refine pure_ (i := 0) (N := (some 7)) (v := ?_) (a' := ?_) #[true, false, false, false, false, false, false, false, false, false, false, false, false, false] rfl rfl (by kernel_rfl) (fun _ _ _ h => h) (Or.inl ⟨by rfl, ?_⟩) ?_ ?_
  rotate_left
  · intro w'
    go_simp
    with_reducible rfl
  rotate_left
  · simp only [Act.put, List.setIfInBounds_toArray, List.set_cons_zero, List.set_cons_succ]
    rfl
  refine pure_ (i := 2) (N := (some 9)) (v := ?_) (a' := ?_) #[true, false, true, false, false, false, false, false, false, false, false, false, false, false] rfl rfl (by kernel_rfl) (fun _ _ _ h => h) (Or.inl ⟨by rfl, ?_⟩) ?_ ?_
  rotate_left
  · intro w'
    go_simp
    with_reducible rfl
  rotate_left
  · simp only [Act.put, List.setIfInBounds_toArray, List.set_cons_zero, List.set_cons_succ]
    rfl
  refine pure_ (i := 4) (N := (some 11)) (v := ?_) (a' := ?_) #[true, false, true, false, true, false, false, false, false, false, false, false, false, false] rfl rfl (by kernel_rfl) (fun _ _ _ h => h) (Or.inl ⟨by rfl, ?_⟩) ?_ ?_
  rotate_left
  · intro w'
    go_simp
    with_reducible rfl
  rotate_left
  · simp only [Act.put, List.setIfInBounds_toArray, List.set_cons_zero, List.set_cons_succ]
    rfl
  refine pure_ (i := 7) (N := (some 14)) (v := ?_) (a' := ?_) #[true, false, true, false, true, false, false, true, false, false, false, false, false, false] rfl rfl (by kernel_rfl) (fun _ _ _ h => h) (Or.inl ⟨by rfl, ?_⟩) ?_ ?_
  rotate_left
  · intro w'
    go_simp
    with_reducible rfl
  rotate_left
  · simp only [Act.put, List.setIfInBounds_toArray, List.set_cons_zero, List.set_cons_succ]
    rfl
  refine pure_ (i := 9) (N := (some 16)) (v := ?_) (a' := ?_) #[true, false, true, false, true, false, false, true, false, true, false, false, false, false] rfl rfl (by kernel_rfl) (fun _ _ _ h => h) (Or.inl ⟨by rfl, ?_⟩) ?_ ?_
  rotate_left
  · intro w'
    go_simp
    with_reducible rfl
  rotate_left
  · simp only [Act.put, List.setIfInBounds_toArray, List.set_cons_zero, List.set_cons_succ]
    rfl
  refine take_ (i := 1) (N := (some 8)) (v := ?_) (a' := ?_) #[true, true, true, false, true, false, false, true, false, true, false, false, false, false] rfl rfl (by kernel_rfl) (fun _ _ _ h => h) (Or.inl ⟨by rfl, ?_⟩) hHeld ?_ ?_
  rotate_left
  · rintro w' ⟨s0, s1, s2, s3, s4, s5, s6, s7⟩
    go_simp
    with_reducible rfl
  rotate_left
  · simp only [Act.put, List.setIfInBounds_toArray, List.set_cons_zero, List.set_cons_succ]
    rfl
  refine take_ (i := 5) (N := (some 12)) (v := ?_) (a' := ?_) #[true, true, true, false, true, true, false, true, false, true, false, false, false, false] rfl rfl (by kernel_rfl) (fun _ _ _ h => h) (Or.inl ⟨by rfl, ?_⟩) hHeld ?_ ?_
  rotate_left
  · rintro w' ⟨s0, s1, s2, s3, s4, s5, s6, s7⟩
    go_simp
    with_reducible rfl
  rotate_left
  · simp only [Act.put, List.setIfInBounds_toArray, List.set_cons_zero, List.set_cons_succ]
    rfl
  refine take_ (i := 8) (N := (some 15)) (v := ?_) (a' := ?_) #[true, true, true, false, true, true, false, true, true, true, false, false, false, false] rfl rfl (by kernel_rfl) (fun _ _ _ h => h) (Or.inl ⟨by rfl, ?_⟩) hHeld ?_ ?_
  rotate_left
  · rintro w' ⟨s0, s1, s2, s3, s4, s5, s6, s7⟩
    go_simp
    with_reducible rfl
  rotate_left
  · simp only [Act.put, List.setIfInBounds_toArray, List.set_cons_zero, List.set_cons_succ]
    rfl
  refine take_ (i := 11) (N := (some 18)) (v := ?_) (a' := ?_) #[true, true, true, false, true, true, false, true, true, true, false, true, false, false] rfl rfl (by kernel_rfl) (fun _ _ _ h => h) (Or.inl ⟨by rfl, ?_⟩) hHeld ?_ ?_
  rotate_left
  · rintro w' ⟨s0, s1, s2, s3, s4, s5, s6, s7⟩
    go_simp
    with_reducible rfl
  rotate_left
  · simp only [Act.put, List.setIfInBounds_toArray, List.set_cons_zero, List.set_cons_succ]
    rfl
  refine one_ (i := 3) (N := (some 10)) #[true, true, true, true, true, true, false, true, true, true, false, true, false, false] rfl rfl (by kernel_rfl) (by decide) (fun K hK => ?_)
  refine goes_ Try.func94 (by kernel_rfl) rfl #[.slice A f.length c, .int .i64 v] (by rfl) rfl rfl (by (try simp only [List.map_toArray, List.map_cons, List.map_nil]); first | done | rfl) ?_
  refine (hW.out W HF.out.bel).mono ?_
  rintro e W1 ⟨v_, rfl, h1, h2⟩
  refine ⟨_, rfl, ?_⟩
  obtain ⟨E5, e5, rfl, h3⟩ := h1.fin
  have Q5 := Lib.hid h3
  replace HF := Lib.hid (HF.out.below h2)
  clear h1 h2 h3 hW
  refine hK.out _ _ ⟨HF.out.cellN 2 rfl 0 rfl, HF.out.cellN 2 rfl 1 rfl, HF.out.cellN 2 rfl 2 rfl, HF.out.cellN 2 rfl 3 rfl, HF.out.cellN 1 rfl 0 rfl, HF.out.cellN 1 rfl 1 rfl, HF.out.cellN 1 rfl 2 rfl, HF.out.cellN 1 rfl 3 rfl⟩ (fun hHeld => ?_)
  clear hK K
  refine norm_ (a' := ?_) ?_ ?_
  rotate_left
  · show Act.put _ (some 10) _ = _
    simp only [Act.put, List.setIfInBounds_toArray, List.set_cons_zero, List.set_cons_succ]
    rfl
  refine pure_ (i := 6) (N := (some 13)) (v := ?_) (a' := ?_) #[true, true, true, true, true, true, true, true, true, true, false, true, false, false] rfl rfl (by kernel_rfl) (fun _ _ _ h => h) (Or.inl ⟨by rfl, ?_⟩) ?_ ?_
  rotate_left
  · intro w'
    go_simp
    with_reducible rfl
  rotate_left
  · simp only [Act.put, List.setIfInBounds_toArray, List.set_cons_zero, List.set_cons_succ]
    rfl
  refine one_ (i := 10) (N := (some 17)) #[true, true, true, true, true, true, true, true, true, true, true, true, false, false] rfl rfl (by kernel_rfl) (by decide) (fun K hK => ?_)
  refine goes_ Try.func41 (by kernel_rfl) rfl #[.slice A f.length c, .int .i64 v] (by rfl) rfl rfl (by (try simp only [List.map_toArray, List.map_cons, List.map_nil]); first | done | rfl) ?_
  refine (hC.out W1 HF.out.bel).mono ?_
  rintro e W2 ⟨A7, c7, B7, d7, rfl, q1, q2, q3⟩
  refine ⟨_, rfl, ?_⟩
  replace HF := Lib.hid (HF.out.below q3)
  replace Q5 := Lib.hid (Q5.out.below q3)
  have Q7 := Lib.hid (InQ.mk q1 q2)
  clear q1 q2 q3 hC
  refine hK.out _ _ ⟨HF.out.cellN 2 rfl 0 rfl, HF.out.cellN 2 rfl 1 rfl, HF.out.cellN 2 rfl 2 rfl, HF.out.cellN 2 rfl 3 rfl, HF.out.cellN 1 rfl 0 rfl, HF.out.cellN 1 rfl 1 rfl, HF.out.cellN 1 rfl 2 rfl, HF.out.cellN 1 rfl 3 rfl⟩ (fun hHeld => ?_)
  clear hK K
  refine norm_ (a' := ?_) ?_ ?_
  rotate_left
  · show Act.put _ (some 17) _ = _
    simp only [Act.put, List.setIfInBounds_toArray, List.set_cons_zero, List.set_cons_succ]
    rfl
  refine one_ (i := 12) (N := (some 19)) #[true, true, true, true, true, true, true, true, true, true, true, true, true, false] rfl rfl (by kernel_rfl) (by decide) (fun K hK => ?_)
  refine goes_ Try.func79 (by kernel_rfl) rfl #[.agg #[.slice E5 n.length e5, .bool s1, .slice A1 x1.length c1, .slice B1 y1.length d1], .agg #[.bool (decide (q.num < 0)), .slice A7 (dg q.num.natAbs).length c7, .slice B7 (dg q.den).length d7], .agg #[.slice A2 g.length c2, .bool s2, .slice A3 x2.length c3, .slice B3 y2.length d3]] (by rfl) rfl rfl (by (try simp only [List.map_toArray, List.map_cons, List.map_nil]); first | done | rfl) ?_
  refine (hP.out W2 HF.out.bel E5 e5 A7 c7 B7 d7 Q5.out Q7.out).mono ?_
  rintro e W3 ⟨E6, e6, A8, c8, B8, d8, rfl, q1, q2, q3⟩
  refine ⟨_, rfl, ?_⟩
  have HO := Lib.hid (q1.mono (by have := HF.out.ltN 0 rfl; omega : w.heap.size + 3 ≤ _))
  replace HF := Lib.hid (HF.out.below q3)
  have Q8 := Lib.hid q2
  clear q1 q2 q3 hP Q5 Q7
  refine hK.out _ _ ⟨HF.out.cellN 2 rfl 0 rfl, HF.out.cellN 2 rfl 1 rfl, HF.out.cellN 2 rfl 2 rfl, HF.out.cellN 2 rfl 3 rfl, HF.out.cellN 1 rfl 0 rfl, HF.out.cellN 1 rfl 1 rfl, HF.out.cellN 1 rfl 2 rfl, HF.out.cellN 1 rfl 3 rfl⟩ (fun hHeld => ?_)
  clear hK K
  refine norm_ (a' := ?_) ?_ ?_
  rotate_left
  · show Act.put _ (some 19) _ = _
    simp only [Act.put, List.setIfInBounds_toArray, List.set_cons_zero, List.set_cons_succ]
    rfl
  refine one_ (i := 13) (N := none) #[true, true, true, true, true, true, true, true, true, true, true, true, true, true] rfl rfl (by kernel_rfl) (by decide) (fun K hK => ?_)
  have hf0 := HF.out.frozenN 0 rfl 0
  have hf1 := HF.out.frozenN 0 rfl 1
  have hf2 := HF.out.frozenN 0 rfl 2
  have hf3 := HF.out.frozenN 0 rfl 3
  have hd0 := HF.out.cellN 0 rfl 0 rfl
  have hd1 := HF.out.cellN 0 rfl 1 rfl
  have hd2 := HF.out.cellN 0 rfl 2 rfl
  have hd3 := HF.out.cellN 0 rfl 3 rfl
  refine skip_ (w1 := ?_) (by rfl) rfl ?_ ?_
  rotate_left
  · go_simp
    rfl
  have HKU := Lib.hid (KeepU.put4 (HF.out.ownN 0 rfl) (fun y hy => by simp at hy) (y1 := .slice E6 l.length e6) (y2 := .bool (decide (r.num < 0))) (y3 := .slice A8 (dg r.num.natAbs).length c8) (fun y hy => by simp at hy) (.slice B8 (dg r.den).length d8))
  replace Q8 := Lib.hid (Q8.out.keep HKU.out)
  replace HO := Lib.hid (HO.out.put4 (fun h => by have := (HO.out.block _ h).1; omega) _ _ _ _ HKU.out)
  replace HF := Lib.hid (HF.out.put4 0 rfl (by omega) (by simp <;> omega) (.slice E6 l.length e6) (.bool (decide (r.num < 0))) (.slice A8 (dg r.num.natAbs).length c8) (.slice B8 (dg r.den).length d8))
  clear HKU hf0 hf1 hf2 hf3 hd0 hd1 hd2 hd3
  refine hK.out _ _ ⟨HF.out.cellN 2 rfl 0 rfl, HF.out.cellN 2 rfl 1 rfl, HF.out.cellN 2 rfl 2 rfl, HF.out.cellN 2 rfl 3 rfl, HF.out.cellN 1 rfl 0 rfl, HF.out.cellN 1 rfl 1 rfl, HF.out.cellN 1 rfl 2 rfl, HF.out.cellN 1 rfl 3 rfl⟩ (fun hHeld => ?_)
  clear hK K
  refine done_ (by kernel_rfl) ?_
  generalize World.setCell _ _ _ = W2 at HF Q8 HO ⊢
  go_wp2
  exact post_own (HF.out.ownN 0 rfl) rfl rfl rfl Try.underlying60 rfl (by kernel_rfl) ⟨_, _, _, _, _, _, rfl, HO.out.mono (by omega), Q8.out, HF.out.bel⟩

/-- an affine form and OK -/
def ToldAE (w : World) (l : Frm) (q : Rat) (e : Ending) (w' : World) : Prop := ∃ (E : Option Addr) (j : Nat) (A : Option Addr) (c : Nat) (B : Option Addr) (d : Nat), e = .returned (.tuple #[.agg #[.slice E l.length j, .bool (decide (q.num < 0)), .slice A (dg q.num.natAbs).length c, .slice B (dg q.den).length d], .int .i64 0]) ∧ OwnF w' w.heap.size (.slice E l.length j) l ∧ InQ w' A c B d q ∧ Below w.heap.size w w'
/-- no affine form, and an error -/
def ToldAX (w : World) (k : Int) (e : Ending) (w' : World) : Prop := e = .returned (.tuple #[.agg #[.slice none 0 0, .bool false, .slice none 0 0, .slice none 0 0], .int .i64 k]) ∧ Below w.heap.size w w'
theorem rv_nil : rv false [] [] = 0 := by rfl

set_option maxHeartbeats 2000000 in
set_option maxRecDepth 100000 in
theorem linear_Solve_none (A : Option Addr) (c : Nat) (f : List (Int × RatD)) (s1 : Bool) (A1 : Option Addr) (c1 : Nat) (x1 : List Int) (B1 : Option Addr) (d1 : Nat) (y1 : List Int) (v : Int) (w : World)
    (hf : FRaw w A c f) (hm : mu (co (fval f) v) ≤ 137438953471) (hz : co (fval f) v = 0) :
    Calls Try.prog 56 #[.agg #[.slice A f.length c, .bool s1, .slice A1 x1.length c1, .slice B1 y1.length d1], .int .i64 v] w (ToldAX w 61) := by
  have hC := Lib.hid (fun (W : World) (hb : Below w.heap.size w W) => linear_Coef A c f v W (hf.below hb))
  have l4 := mu_len (co (fval f) v)
  have hI := Lib.hid (fun (W : World) (A5 : Option Addr) (c5 : Nat) (B5 : Option Addr) (d5 : Nat) (k : InQ W A5 c5 B5 d5 (co (fval f) v)) => ratio_Inv_zero (decide ((co (fval f) v).num < 0)) A5 c5 _ B5 d5 _ W k.num (by omega) k.den (by omega) (by rw [rv_can]; exact hz))
  clear hf l4 hm hz
  generalize co (fval f) v = q at *
  have HF := Lib.hid (((Fr.refl w).box [.slice A f.length c, .bool s1, .slice A1 x1.length c1, .slice B1 y1.length d1] 60).box [.slice none 0 0, .bool false, .slice none 0 0, .slice none 0 0] 60)
  have hsz : ∀ (w : World) (o : Obj), (w.alloc o).heap.size = w.heap.size + 1 := fun w o => by simp
  simp only [hsz, Nat.add_assoc, Nat.reduceAdd] at HF
  clear hsz
  go_enter Try.func56, Try.ntmps56
  go_wp2_with fail
  refine (hC.out _ HF.out.bel).mono ?_
  rintro e W1 ⟨A5, c5, B5, d5, rfl, q1, q2, q3⟩
  replace HF := Lib.hid (HF.out.below q3)
  have Q5 := Lib.hid (InQ.mk q1 q2)
  clear q1 q2 q3 hC
  go_wp2_with fail
  refine (hI.out _ A5 c5 B5 d5 Q5.out).mono ?_
  rintro e W2 ⟨rfl, hb⟩
  replace HF := Lib.hid (HF.out.below hb)
  clear hb hI Q5
  have hf0 := HF.out.frozenN 0 rfl 0
  have hf1 := HF.out.frozenN 0 rfl 1
  have hf2 := HF.out.frozenN 0 rfl 2
  have hf3 := HF.out.frozenN 0 rfl 3
  have hd0 := HF.out.cellN 0 rfl 0 rfl
  have hd1 := HF.out.cellN 0 rfl 1 rfl
  have hd2 := HF.out.cellN 0 rfl 2 rfl
  have hd3 := HF.out.cellN 0 rfl 3 rfl
  have hw2 := HF.out.ltN 0 rfl
  have hw3 : ¬ w.heap.size + 1 = W2.heap.size := by omega
  have hw4 : ¬ W2.heap.size = w.heap.size + 1 := by omega
  have hal := (Below.refl _ W2).alloc (Nat.le_refl _) (.cells #[.bool false, .slice none 0 0, .slice none 0 0] 31)
  have he0 := cell_below hal hd0
  have he1 := cell_below hal hd1
  have he2 := cell_below hal hd2
  have he3 := cell_below hal hd3
  clear hal
  replace HF := Lib.hid (HF.out.put4 0 rfl (by omega) (by simp <;> omega) (.slice none 0 0) (.bool false) (.slice none 0 0) (.slice none 0 0))
  replace HF := Lib.hid (HF.out.box [.bool false, .slice none 0 0, .slice none 0 0] 31)
  go_wp2
  exact post_own2 (HF.out.ownN 1 rfl) rfl rfl rfl rfl Try.underlying60 rfl (by kernel_rfl) ⟨rfl, HF.out.bel⟩

set_option maxHeartbeats 2000000 in
set_option maxRecDepth 100000 in
theorem linear_Solve_some (A : Option Addr) (c : Nat) (f : List (Int × RatD)) (s1 : Bool) (A1 : Option Addr) (c1 : Nat) (x1 : List Int) (B1 : Option Addr) (d1 : Nat) (y1 : List Int) (v : Int) (w : World)
    (hf : FRaw w A c f) (h1 : In w A1 c1 x1) (m1 : x1.length ≤ 137438953471) (h2 : In w B1 d1 y1) (m2 : y1.length ≤ 137438953471) (hm : mu (co (fval f) v) ≤ 137438953470) (hi : mu (co (fval f) v)⁻¹ ≤ 137438953470) (hz : co (fval f) v ≠ 0)
    (hs : 2 * mf (wout (nform (fval f)) v) + 2 * mf (nform (smul (-(co (fval f) v)⁻¹) (wout (nform (fval f)) v))) + 5 * f.length ≤ 137438953470) (hq : QL (-(co (fval f) v)⁻¹ * rv s1 x1 y1)) :
    Calls Try.prog 56 #[.agg #[.slice A f.length c, .bool s1, .slice A1 x1.length c1, .slice B1 y1.length d1], .int .i64 v] w (ToldAE w (nform (smul (-(co (fval f) v)⁻¹) (wout (nform (fval f)) v))) (-(co (fval f) v)⁻¹ * rv s1 x1 y1)) := by
  have hC := Lib.hid (fun (W : World) (hb : Below w.heap.size w W) => linear_Coef A c f v W (hf.below hb))
  have hW := Lib.hid (fun (W : World) (hb : Below w.heap.size w W) => linear_without A c f v W (hf.below hb))
  have l4 := mu_len (co (fval f) v)
  have l5 := mu_len (co (fval f) v)⁻¹
  have l6 := mu_len (-(co (fval f) v)⁻¹)
  rw [mu_neg] at l6
  have l1 := wout_length (nform (fval f)) v
  have l2 := nform_len (fval f)
  rw [fval_length] at l2
  have l3 := wtm_can (wout (nform (fval f)) v)
  have hI := Lib.hid (fun (W : World) (A5 : Option Addr) (c5 : Nat) (B5 : Option Addr) (d5 : Nat) (k : InQ W A5 c5 B5 d5 (co (fval f) v)) => ratio_Inv_some (decide ((co (fval f) v).num < 0)) A5 c5 _ B5 d5 _ W k.num (by omega) k.den (by omega) (by rw [rv_can]; exact hz))
  rw [rv_can] at hI
  have hN := Lib.hid (fun (W : World) (A5 : Option Addr) (c5 : Nat) (B5 : Option Addr) (d5 : Nat) (k : InQ W A5 c5 B5 d5 (co (fval f) v)⁻¹) => ratio_Neg (decide ((co (fval f) v)⁻¹.num < 0)) A5 c5 _ B5 d5 _ W k.num (by omega) k.den (by omega))
  rw [rv_can] at hN
  have hP := Lib.hid (show ∀ (W : World) (hb : Below w.heap.size w W) (E5 : Option Addr) (e5 : Nat) (G5 : Option Addr) (k5 : Nat) (E : Option Addr) (j : Nat), InQ W E5 e5 G5 k5 (-(co (fval f) v)⁻¹) → FIn W E j (wout (nform (fval f)) v) → Calls Try.prog 79 #[.agg #[.slice none 0 0, .bool false, .slice none 0 0, .slice none 0 0], .agg #[.bool (decide ((-(co (fval f) v)⁻¹).num < 0)), .slice E5 (dg (-(co (fval f) v)⁻¹).num.natAbs).length e5, .slice G5 (dg (-(co (fval f) v)⁻¹).den).length k5], .agg #[.slice E (wout (nform (fval f)) v).length j, .bool s1, .slice A1 x1.length c1, .slice B1 y1.length d1]] W (ToldA W (nform (smul (-(co (fval f) v)⁻¹) (wout (nform (fval f)) v))) (-(co (fval f) v)⁻¹ * rv s1 x1 y1)) from fun W hb E5 e5 G5 k5 E j q2 q1 => by
    have e := linear_plus none 0 [] false none 0 [] none 0 [] (decide ((-(co (fval f) v)⁻¹).num < 0)) E5 e5 _ G5 k5 _ E j _ s1 A1 c1 x1 B1 d1 y1 W ⟨Knd.row_nil _ _ _, Nat.le_refl _, (fun m hm => by cases hm), Nat.zero_le _⟩ (q1.raw (by omega)) (In.nil _ _ _) (Nat.zero_le _) (In.nil _ _ _) (Nat.zero_le _) q2.num (by omega) q2.den (by omega) (h1.below hb) m1 (h2.below hb) m2 (by rw [rv_can, fval_can, List.length_map]; simp only [List.map_nil, List.sum_nil]; omega) (by rw [rv_can]; exact hq)
    rw [List.length_map, fval_can, rv_can, rv_nil, Rat.zero_add] at e
    exact e)
  clear hf h1 h2 hs hq l1 l2 l3 l4 l5 l6 hm hi hz
  generalize nform (smul (-(co (fval f) v)⁻¹) (wout (nform (fval f)) v)) = l at *
  generalize -(co (fval f) v)⁻¹ * rv s1 x1 y1 = r at *
  generalize wout (nform (fval f)) v = n at *
  generalize -(co (fval f) v)⁻¹ = o at *
  generalize (co (fval f) v)⁻¹ = p at *
  generalize co (fval f) v = q at *
  have HF := Lib.hid (((Fr.refl w).box [.slice A f.length c, .bool s1, .slice A1 x1.length c1, .slice B1 y1.length d1] 60).box [.slice none 0 0, .bool false, .slice none 0 0, .slice none 0 0] 60)
  have hsz : ∀ (w : World) (o : Obj), (w.alloc o).heap.size = w.heap.size + 1 := fun w o => by simp
  simp only [hsz, Nat.add_assoc, Nat.reduceAdd] at HF
  clear hsz
  go_enter Try.func56, Try.ntmps56
  go_wp2_with fail
  refine (hC.out _ HF.out.bel).mono ?_
  rintro e V1 ⟨A5, c5, B5, d5, rfl, q1, q2, q3⟩
  replace HF := Lib.hid (HF.out.below q3)
  have Q5 := Lib.hid (InQ.mk q1 q2)
  clear q1 q2 q3 hC
  go_wp2_with fail
  refine (hI.out _ A5 c5 B5 d5 Q5.out).mono ?_
  rintro e V2 ⟨A6, c6, B6, d6, rfl, q1, hb⟩
  replace HF := Lib.hid (HF.out.below hb)
  have Q6 := Lib.hid q1
  clear hb hI Q5 q1
  have hw2 := HF.out.ltN 0 rfl
  replace Q6 := Lib.hid (Q6.out.below ((Below.refl _ V2).alloc (Nat.le_refl _) (.cells #[.bool (decide (p.num < 0)), .slice A6 (dg p.num.natAbs).length c6, .slice B6 (dg p.den).length d6] 31)))
  replace HF := Lib.hid (HF.out.box [.bool (decide (p.num < 0)), .slice A6 (dg p.num.natAbs).length c6, .slice B6 (dg p.den).length d6] 31)
  obtain ⟨gx, hgx⟩ : ∃ g, g = V2.heap.size := ⟨_, rfl⟩
  go_wp2_with fail
  rw [← hgx] at HF hw2 ⊢
  generalize V2.alloc _ = W at HF Q6 ⊢
  clear hgx
  replace Q6 := Lib.hid (Q6.out.below (Below.drew (Below.refl _ _)))
  have HF_ := Lib.hid HF.out.drew
  clear HF
  have HF := HF_
  clear HF_
  refine start_ (n := 13) (S := fun w' => w'.cell? ⟨gx, 0, none⟩ = some (.bool (decide (p.num < 0))) ∧ w'.cell? ⟨gx, 1, none⟩ = some (.slice A6 (dg p.num.natAbs).length c6) ∧ w'.cell? ⟨gx, 2, none⟩ = some (.slice B6 (dg p.den).length d6) ∧ w'.cell? ⟨w.heap.size, 0, none⟩ = some (.slice A f.length c) ∧ w'.cell? ⟨w.heap.size, 1, none⟩ = some (.bool s1) ∧ w'.cell? ⟨w.heap.size, 2, none⟩ = some (.slice A1 x1.length c1) ∧ w'.cell? ⟨w.heap.size, 3, none⟩ = some (.slice B1 y1.length d1)) (ds := []) #[false, false, false, false, false, false, false, false, false, false, false, false, false] (by kernel_rfl) rfl rfl ⟨HF.out.cellN 0 rfl 0 rfl, HF.out.cellN 0 rfl 1 rfl, HF.out.cellN 0 rfl 2 rfl, HF.out.cellN 2 rfl 0 rfl, HF.out.cellN 2 rfl 1 rfl, HF.out.cellN 2 rfl 2 rfl, HF.out.cellN 2 rfl 3 rfl⟩ (fun hHeld => ?_)
  generalize World.drew _ = W at *
  refine pure_ (i := 0) (N := (some 19)) (v := ?_) (a' := ?_) #[true, false, false, false, false, false, false, false, false, false, false, false, false] rfl rfl (by kernel_rfl) (fun _ _ _ h => h) (Or.inl ⟨by rfl, ?_⟩) ?_ ?_
  rotate_left
  · intro w'
    go_simp
    with_reducible rfl
  rotate_left
  · simp only [Act.put, List.setIfInBounds_toArray, List.set_cons_zero, List.set_cons_succ]
    rfl
  refine pure_ (i := 3) (N := (some 22)) (v := ?_) (a' := ?_) #[true, false, false, true, false, false, false, false, false, false, false, false, false] rfl rfl (by kernel_rfl) (fun _ _ _ h => h) (Or.inl ⟨by rfl, ?_⟩) ?_ ?_
  rotate_left
  · intro w'
    go_simp
    with_reducible rfl
  rotate_left
  · simp only [Act.put, List.setIfInBounds_toArray, List.set_cons_zero, List.set_cons_succ]
    rfl
  refine pure_ (i := 5) (N := (some 24)) (v := ?_) (a' := ?_) #[true, false, false, true, false, true, false, false, false, false, false, false, false] rfl rfl (by kernel_rfl) (fun _ _ _ h => h) (Or.inl ⟨by rfl, ?_⟩) ?_ ?_
  rotate_left
  · intro w'
    go_simp
    with_reducible rfl
  rotate_left
  · simp only [Act.put, List.setIfInBounds_toArray, List.set_cons_zero, List.set_cons_succ]
    rfl
  refine pure_ (i := 7) (N := (some 26)) (v := ?_) (a' := ?_) #[true, false, false, true, false, true, false, true, false, false, false, false, false] rfl rfl (by kernel_rfl) (fun _ _ _ h => h) (Or.inl ⟨by rfl, ?_⟩) ?_ ?_
  rotate_left
  · intro w'
    go_simp
    with_reducible rfl
  rotate_left
  · simp only [Act.put, List.setIfInBounds_toArray, List.set_cons_zero, List.set_cons_succ]
    rfl
  refine take_ (i := 1) (N := (some 20)) (v := ?_) (a' := ?_) #[true, true, false, true, false, true, false, true, false, false, false, false, false] rfl rfl (by kernel_rfl) (fun _ _ _ h => h) (Or.inl ⟨by rfl, ?_⟩) hHeld ?_ ?_
  rotate_left
  · rintro w' ⟨s0, s1, s2, s3, s4, s5, s6⟩
    go_simp
    with_reducible rfl
  rotate_left
  · simp only [Act.put, List.setIfInBounds_toArray, List.set_cons_zero, List.set_cons_succ]
    rfl
  refine take_ (i := 4) (N := (some 23)) (v := ?_) (a' := ?_) #[true, true, false, true, true, true, false, true, false, false, false, false, false] rfl rfl (by kernel_rfl) (fun _ _ _ h => h) (Or.inl ⟨by rfl, ?_⟩) hHeld ?_ ?_
  rotate_left
  · rintro w' ⟨s0, s1, s2, s3, s4, s5, s6⟩
    go_simp
    with_reducible rfl
  rotate_left
  · simp only [Act.put, List.setIfInBounds_toArray, List.set_cons_zero, List.set_cons_succ]
    rfl
  refine take_ (i := 8) (N := (some 27)) (v := ?_) (a' := ?_) #[true, true, false, true, true, true, false, true, true, false, false, false, false] rfl rfl (by kernel_rfl) (fun _ _ _ h => h) (Or.inl ⟨by rfl, ?_⟩) hHeld ?_ ?_
  rotate_left
  · rintro w' ⟨s0, s1, s2, s3, s4, s5, s6⟩
    go_simp
    with_reducible rfl
  rotate_left
  · simp only [Act.put, List.setIfInBounds_toArray, List.set_cons_zero, List.set_cons_succ]
    rfl
  refine one_ (i := 2) (N := (some 21)) #[true, true, true, true, true, true, false, true, true, false, false, false, false] rfl rfl (by kernel_rfl) (by decide) (fun K hK => ?_)
  refine goes_ Try.func95 (by kernel_rfl) rfl #[.agg #[.bool (decide (p.num < 0)), .slice A6 (dg p.num.natAbs).length c6, .slice B6 (dg p.den).length d6]] (by rfl) rfl rfl (by (try simp only [List.map_toArray, List.map_cons, List.map_nil]); first | done | rfl) ?_
  refine (hN.out W A6 c6 B6 d6 Q6.out).mono ?_
  rintro e W1 ⟨A7, c7, B7, d7, rfl, q1, q2, q3⟩
  refine ⟨_, rfl, ?_⟩
  replace HF := Lib.hid (HF.out.below q3)
  have Q7 := Lib.hid (InQ.mk q1 q2)
  clear q1 q2 q3 hN Q6
  refine hK.out _ _ ⟨HF.out.cellN 0 rfl 0 rfl, HF.out.cellN 0 rfl 1 rfl, HF.out.cellN 0 rfl 2 rfl, HF.out.cellN 2 rfl 0 rfl, HF.out.cellN 2 rfl 1 rfl, HF.out.cellN 2 rfl 2 rfl, HF.out.cellN 2 rfl 3 rfl⟩ (fun hHeld => ?_)
  clear hK K
  refine norm_ (a' := ?_) ?_ ?_
  rotate_left
  · show Act.put _ (some 21) _ = _
    simp only [Act.put, List.setIfInBounds_toArray, List.set_cons_zero, List.set_cons_succ]
    rfl
  refine one_ (i := 6) (N := (some 25)) #[true, true, true, true, true, true, true, true, true, false, false, false, false] rfl rfl (by kernel_rfl) (by decide) (fun K hK => ?_)
  refine goes_ Try.func94 (by kernel_rfl) rfl #[.slice A f.length c, .int .i64 v] (by rfl) rfl rfl (by (try simp only [List.map_toArray, List.map_cons, List.map_nil]); first | done | rfl) ?_
  refine (hW.out W1 HF.out.bel).mono ?_
  rintro e W2 ⟨v_, rfl, h1, h2⟩
  refine ⟨_, rfl, ?_⟩
  obtain ⟨E5, e5, rfl, h3⟩ := h1.fin
  have Q5 := Lib.hid h3
  replace HF := Lib.hid (HF.out.below h2)
  replace Q7 := Lib.hid (Q7.out.below h2)
  clear h1 h2 h3 hW
  refine hK.out _ _ ⟨HF.out.cellN 0 rfl 0 rfl, HF.out.cellN 0 rfl 1 rfl, HF.out.cellN 0 rfl 2 rfl, HF.out.cellN 2 rfl 0 rfl, HF.out.cellN 2 rfl 1 rfl, HF.out.cellN 2 rfl 2 rfl, HF.out.cellN 2 rfl 3 rfl⟩ (fun hHeld => ?_)
  clear hK K
  refine norm_ (a' := ?_) ?_ ?_
  rotate_left
  · show Act.put _ (some 25) _ = _
    simp only [Act.put, List.setIfInBounds_toArray, List.set_cons_zero, List.set_cons_succ]
    rfl
  refine pure_ (i := 9) (N := (some 28)) (v := ?_) (a' := ?_) #[true, true, true, true, true, true, true, true, true, true, false, false, false] rfl rfl (by kernel_rfl) (fun _ _ _ h => h) (Or.inl ⟨by rfl, ?_⟩) ?_ ?_
  rotate_left
  · intro w'
    go_simp
    with_reducible rfl
  rotate_left
  · simp only [Act.put, List.setIfInBounds_toArray, List.set_cons_zero, List.set_cons_succ]
    rfl
  refine one_ (i := 10) (N := (some 29)) #[true, true, true, true, true, true, true, true, true, true, true, false, false] rfl rfl (by kernel_rfl) (by decide) (fun K hK => ?_)
  refine goes_ Try.func79 (by kernel_rfl) rfl #[.agg #[.slice none 0 0, .bool false, .slice none 0 0, .slice none 0 0], .agg #[.bool (decide (o.num < 0)), .slice A7 (dg o.num.natAbs).length c7, .slice B7 (dg o.den).length d7], .agg #[.slice E5 n.length e5, .bool s1, .slice A1 x1.length c1, .slice B1 y1.length d1]] (by rfl) rfl rfl (by (try simp only [List.map_toArray, List.map_cons, List.map_nil]); first | done | rfl) ?_
  refine (hP.out W2 HF.out.bel A7 c7 B7 d7 E5 e5 Q7.out Q5.out).mono ?_
  rintro e W3 ⟨E6, e6, A8, c8, B8, d8, rfl, q1, q2, q3⟩
  refine ⟨_, rfl, ?_⟩
  have HO := Lib.hid (q1.mono (by have := HF.out.ltN 0 rfl; omega : w.heap.size + 2 ≤ _))
  replace HF := Lib.hid (HF.out.below q3)
  have Q8 := Lib.hid q2
  clear q1 q2 q3 hP Q5 Q7
  refine hK.out _ _ ⟨HF.out.cellN 0 rfl 0 rfl, HF.out.cellN 0 rfl 1 rfl, HF.out.cellN 0 rfl 2 rfl, HF.out.cellN 2 rfl 0 rfl, HF.out.cellN 2 rfl 1 rfl, HF.out.cellN 2 rfl 2 rfl, HF.out.cellN 2 rfl 3 rfl⟩ (fun hHeld => ?_)
  clear hK K
  refine norm_ (a' := ?_) ?_ ?_
  rotate_left
  · show Act.put _ (some 29) _ = _
    simp only [Act.put, List.setIfInBounds_toArray, List.set_cons_zero, List.set_cons_succ]
    rfl
  refine one_ (i := 11) (N := none) #[true, true, true, true, true, true, true, true, true, true, true, true, false] rfl rfl (by kernel_rfl) (by decide) (fun K hK => ?_)
  have hf0 := HF.out.frozenN 1 rfl 0
  have hf1 := HF.out.frozenN 1 rfl 1
  have hf2 := HF.out.frozenN 1 rfl 2
  have hf3 := HF.out.frozenN 1 rfl 3
  have hd0 := HF.out.cellN 1 rfl 0 rfl
  have hd1 := HF.out.cellN 1 rfl 1 rfl
  have hd2 := HF.out.cellN 1 rfl 2 rfl
  have hd3 := HF.out.cellN 1 rfl 3 rfl
  refine skip_ (w1 := ?_) (by rfl) rfl ?_ ?_
  rotate_left
  · go_simp
    rfl
  have HKU := Lib.hid (KeepU.put4 (HF.out.ownN 1 rfl) (fun y hy => by simp at hy) (y1 := .slice E6 l.length e6) (y2 := .bool (decide (r.num < 0))) (y3 := .slice A8 (dg r.num.natAbs).length c8) (fun y hy => by simp at hy) (.slice B8 (dg r.den).length d8))
  replace Q8 := Lib.hid (Q8.out.keep HKU.out)
  replace HO := Lib.hid (HO.out.put4 (fun h => by have := (HO.out.block _ h).1; omega) _ _ _ _ HKU.out)
  replace HF := Lib.hid (HF.out.put4 1 rfl (by omega) (by simp <;> omega) (.slice E6 l.length e6) (.bool (decide (r.num < 0))) (.slice A8 (dg r.num.natAbs).length c8) (.slice B8 (dg r.den).length d8))
  clear HKU hf0 hf1 hf2 hf3 hd0 hd1 hd2 hd3
  refine hK.out _ _ ⟨HF.out.cellN 0 rfl 0 rfl, HF.out.cellN 0 rfl 1 rfl, HF.out.cellN 0 rfl 2 rfl, HF.out.cellN 2 rfl 0 rfl, HF.out.cellN 2 rfl 1 rfl, HF.out.cellN 2 rfl 2 rfl, HF.out.cellN 2 rfl 3 rfl⟩ (fun hHeld => ?_)
  clear hK K
  refine pure_ (i := 12) (N := (some 5)) (v := ?_) (a' := ?_) #[true, true, true, true, true, true, true, true, true, true, true, true, true] rfl rfl (by kernel_rfl) (fun _ _ _ h => h) (Or.inl ⟨by rfl, ?_⟩) ?_ ?_
  rotate_left
  · intro w'
    go_simp
    with_reducible rfl
  rotate_left
  · simp only [Act.put, List.setIfInBounds_toArray, List.set_cons_zero, List.set_cons_succ]
    rfl
  refine done_ (by kernel_rfl) ?_
  generalize World.setCell _ _ _ = W2 at HF Q8 HO ⊢
  go_wp2
  exact post_own2 (HF.out.ownN 1 rfl) rfl rfl rfl rfl Try.underlying60 rfl (by kernel_rfl) ⟨_, _, _, _, _, _, rfl, HO.out.mono (by omega), Q8.out, HF.out.bel⟩
end Go.Proofs.Ytchdoignomidjaa.F
/- The reference's Subst and Solve. -/
set_option linter.unusedVariables false
set_option linter.unusedSimpArgs false
namespace Go.Proofs.Ytchdoignomidjaa.F
open Go.RowKit Go.Shelf Go.Proofs.YtchdoignomidjaaW.PrintLast

theorem OwnW.below {w w' : World} {B : Nat} {v : Value} {f : List (Int × RatD)} (h : OwnW w B v f) (hb : Below w.heap.size w w') : OwnW w' B v f := by
  obtain ⟨rs, h1, h2, h3⟩ := h
  exact ⟨rs, h1, h2.below hb, fun r hr => (h3 r hr).keep (KeepU.below hb)⟩
/-- one term more, as it was handed in -/
theorem pushR {w : World} {B : Nat} {t ty : TypeId} {v : Value} {f : List (Int × RatD)} {u : Int} {sb : Bool} {us es : List Int} {BB DD : Option Addr} {cc dd : Nat} (ht : Try.prog.underlying t = some (.slice 75)) (h : OwnW w B v f) (k : LiesQ w ((sb, us), es) BB cc DD dd) (nx : us.length ≤ 9223372036854775807) (ny : es.length ≤ 9223372036854775807) (hl : f.length + 1 ≤ 1099511627776) (hB : B ≤ w.heap.size) :
    ∃ v' w', (Builtin.append_ #[t, t] ty #[v, .slice (some ⟨w.heap.size, 0, none⟩) 1 1]).run Try.prog (w.alloc (.cells #[.int .i64 u, .bool sb, .slice BB us.length cc, .slice DD es.length dd] 75)) = .ok v' w' ∧ OwnW w' B v' (f ++ [(u, (sb, us), es)]) ∧ Below B w w' := by
  have hal := (Below.refl _ w).alloc (Nat.le_refl _) (.cells #[.int .i64 u, .bool sb, .slice BB us.length cc, .slice DD es.length dd] 75)
  have hown := Own.mk (w := w) [.int .i64 u, .bool sb, .slice BB us.length cc, .slice DD es.length dd] 75
  have hr : RC.At (w.alloc (.cells #[.int .i64 u, .bool sb, .slice BB us.length cc, .slice DD es.length dd] 75)) ⟨u, sb, BB, cc, us, DD, dd, es⟩ := ⟨⟨k.1, k.2.1, k.2.2.1.keep (KeepU.below hal), k.2.2.2.keep (KeepU.below hal)⟩, nx, ny⟩
  have hrow : kMono.Row (w.alloc (.cells #[.int .i64 u, .bool sb, .slice BB us.length cc, .slice DD es.length dd] 75)) (some ⟨w.heap.size, 0, none⟩) [(u, (sb, us), es)] := by
    refine row_raw (rs := [⟨u, sb, BB, cc, us, DD, dd, es⟩]) rfl (fun x hx => by rw [List.mem_singleton.1 hx]; exact hr) fun _ => ⟨_, rfl, fun j y hy => ?_⟩
    have hj := (List.getElem?_eq_some_iff.1 hy).1
    rw [rflat_len] at hj
    have hy' : (RC.mk u sb BB cc us DD dd es).cells[j]? = some y := by simpa using hy
    rw [show (⟨w.heap.size, 0, none⟩ : Addr).add j = ⟨w.heap.size, j, none⟩ from by unfold Addr.add; split <;> simp_all]
    rw [hown.cell j (by show j < 4; simpa using hj)]
    rw [← hy', List.getElem?_eq_getElem]
    rfl
  obtain ⟨v', w', h1, h2, h3⟩ := pushW (ty := ty) (c := 1) ht (h.below hal) hrow (fun m hm => by rw [List.mem_singleton.1 hm]; exact ⟨nx, ny⟩) hl (Nat.le_trans hB hal.size)
  exact ⟨v', w', h1, h2, (hal.mono hB).trans h3.below⟩

/-- the terms of other variables -/
def fr (v : Int) (f : List (Int × RatD)) : List (Int × RatD) := f.filter fun m => decide (m.1 ≠ v)
theorem fr_succ (v : Int) (f : List (Int × RatD)) (i : Nat) (h : i < f.length) : fr v (f.take (i + 1)) = fr v (f.take i) ++ if f[i].1 = v then [] else [f[i]] := by
  rw [List.take_succ_eq_append_getElem h]
  unfold fr
  rw [List.filter_append]
  congr 1
  by_cases e : f[i].1 = v
  · rw [if_pos e, List.filter_cons_of_neg (by simp [e])]; rfl
  · rw [if_neg e, List.filter_cons_of_pos (by simp [e])]; rfl
theorem fr_length (v : Int) (f : List (Int × RatD)) : (fr v f).length ≤ f.length := List.length_filter_le _ _
theorem fval_fr (v : Int) (f : List (Int × RatD)) : fval (fr v f) = wout (fval f) v := by
  induction f with
  | nil => rfl
  | cons m f ih =>
    unfold fr wout at ih ⊢
    have e : (valM m).1 = m.1 := rfl
    by_cases h : m.1 = v
    · rw [List.filter_cons_of_neg (by simp [h])]
      show _ = List.filter _ (valM m :: fval f)
      rw [List.filter_cons_of_neg (by simp [e, h])]
      exact ih
    · rw [List.filter_cons_of_pos (by simp [h])]
      show valM m :: fval _ = List.filter _ (valM m :: fval f)
      rw [List.filter_cons_of_pos (by simp [e, h]), ih]
theorem fr_sum (v : Int) (f : List (Int × RatD)) : ((fr v f).map wtm).sum ≤ (f.map wtm).sum := by
  induction f with
  | nil => exact Nat.le_refl _
  | cons m f ih =>
    unfold fr at ih ⊢
    by_cases h : m.1 = v
    · rw [List.filter_cons_of_neg (by simp [h]), List.map_cons, List.sum_cons]; omega
    · rw [List.filter_cons_of_pos (by simp [h]), List.map_cons, List.map_cons, List.sum_cons, List.sum_cons]; omega
theorem co_wout_nform (F : Frm) (v u : Int) : co (wout (nform F) v) u = co (wout F v) u := by rw [co_wout, co_wout, co_nform]
theorem sub_law (F G : Frm) (v : Int) : nform (wout F v ++ G) = nform (wout (nform F) v ++ G) := nform_congr fun u => by rw [co_append, co_append, co_wout_nform]
theorem sol_law (F : Frm) (v : Int) (o : Rat) : nform (smul o (wout F v)) = nform (smul o (wout (nform F) v)) := nform_congr fun u => by rw [co_smul, co_smul, co_wout_nform]

set_option maxHeartbeats 4000000 in
set_option maxRecDepth 100000 in
theorem r6_Subst (A : Option Addr) (c : Nat) (f : List (Int × RatD)) (s1 : Bool) (A1 : Option Addr) (c1 : Nat) (x1 : List Int) (B1 : Option Addr) (d1 : Nat) (y1 : List Int) (v : Int) (A2 : Option Addr) (c2 : Nat) (g : List (Int × RatD)) (s2 : Bool) (A3 : Option Addr) (c3 : Nat) (x2 : List Int) (B3 : Option Addr) (d3 : Nat) (y2 : List Int) (w : World)
    (hf : FRaw w A c f) (hg : FRaw w A2 c2 g) (h1 : In w A1 c1 x1) (m1 : x1.length ≤ 137438953471) (h2 : In w B1 d1 y1) (m2 : y1.length ≤ 137438953471) (h5 : In w A3 c3 x2) (m5 : x2.length ≤ 137438953471) (h6 : In w B3 d3 y2) (m6 : y2.length ≤ 137438953471)
    (hm : mu (co (fval f) v) ≤ 137438953471) (hs : (f.map wtm).sum + (2 * mf (smul (co (fval f) v) (fval g)) + 5 * g.length) ≤ 137438953470) (hq : QL (co (fval f) v * rv s2 x2 y2)) :
    Calls Try.prog 55 #[.agg #[.slice A f.length c, .bool s1, .slice A1 x1.length c1, .slice B1 y1.length d1], .int .i64 v, .agg #[.slice A2 g.length c2, .bool s2, .slice A3 x2.length c3, .slice B3 y2.length d3]] w (ToldA w (nform (wout (nform (fval f)) v ++ smul (co (fval f) v) (fval g))) (rv s1 x1 y1 + co (fval f) v * rv s2 x2 y2)) := by
  have hC := Lib.hid (fun (W : World) (hb : Below w.heap.size w W) => r6_Coef A c f v W (hf.below hb))
  have l4 := mu_len (co (fval f) v)
  have hlf := hf.len
  have hfs := hf.sum
  have n1 := hq.1
  have n2 := hq.2
  have hR := Lib.hid hf.row
  have hG := Lib.hid (show ∀ m ∈ f, Good 137438953472 m.2 from fun m hm => (hf.good m hm).mono (by have h1 : wtm m ≤ (f.map wtm).sum := le_sum hm; have h2 := wt_le m; have := hf.sum; omega))
  have hgood := Lib.hid (show ∀ m ∈ fr v f, Good (wt m.2) m.2 from fun m hm => hf.good m (List.mem_filter.1 hm).1)
  have hfsum : ((fr v f).map wtm).sum ≤ 137438953471 := Nat.le_trans (fr_sum v f) hfs
  have hfsum2 := fr_sum v f
  have gw := wtm_can (nform (smul (co (fval f) v) (fval g)))
  have gm := mf_nform (smul (co (fval f) v) (fval g))
  have gl := nform_len (smul (co (fval f) v) (fval g))
  rw [smul_length, fval_length] at gl
  have hS := Lib.hid (show ∀ (W : World) (hb : Below w.heap.size w W) (A7 : Option Addr) (c7 : Nat) (B7 : Option Addr) (d7 : Nat), InQ W A7 c7 B7 d7 (co (fval f) v) → Calls Try.prog 26 #[.agg #[.bool (decide ((co (fval f) v).num < 0)), .slice A7 (dg (co (fval f) v).num.natAbs).length c7, .slice B7 (dg (co (fval f) v).den).length d7], .slice A2 g.length c2] W (ToldFm W (nform (smul (co (fval f) v) (fval g)))) from fun W hb A7 c7 B7 d7 q => by
    have e := r6_Scale (decide ((co (fval f) v).num < 0)) A7 c7 _ B7 d7 _ A2 c2 g W q.num (by omega) q.den (by omega) (hg.below hb) (by rw [rv_can]; omega)
    rw [rv_can] at e
    exact e)
  have hA := Lib.hid (show ∀ (W : World) (E0 : Option Addr) (j0 : Nat) (E5 : Option Addr) (e5 : Nat), FRaw W E0 j0 (fr v f) → FIn W E5 e5 (nform (smul (co (fval f) v) (fval g))) → Calls Try.prog 39 #[.slice E0 (fr v f).length j0, .slice E5 (nform (smul (co (fval f) v) (fval g))).length e5] W (ToldFm W (nform (wout (nform (fval f)) v ++ smul (co (fval f) v) (fval g)))) from fun W E0 j0 E5 e5 k1 k2 => by
    have e := r6_Add E0 j0 _ E5 e5 _ W k1 (k2.raw (by omega)) (by omega)
    rw [List.length_map, fval_can, nform_app, fval_fr, sub_law] at e
    exact e)
  have hM := Lib.hid (show ∀ (W : World) (hb : Below w.heap.size w W) (A7 : Option Addr) (c7 : Nat) (B7 : Option Addr) (d7 : Nat), InQ W A7 c7 B7 d7 (co (fval f) v) → Calls Try.prog 51 #[.agg #[.bool (decide ((co (fval f) v).num < 0)), .slice A7 (dg (co (fval f) v).num.natAbs).length c7, .slice B7 (dg (co (fval f) v).den).length d7], .agg #[.bool s2, .slice A3 x2.length c3, .slice B3 y2.length d3]] W (ToldQ W (co (fval f) v * rv s2 x2 y2)) from fun W hb A7 c7 B7 d7 q => by
    have e := r3_Mul (decide ((co (fval f) v).num < 0)) A7 c7 _ B7 d7 _ s2 A3 c3 x2 B3 d3 y2 W q.num (by omega) q.den (by omega) (h5.below hb) (by omega) (h6.below hb) (by omega)
    rw [rv_can] at e
    exact e)
  have hP := Lib.hid (show ∀ (W : World) (hb : Below w.heap.size w W) (A7 : Option Addr) (c7 : Nat) (B7 : Option Addr) (d7 : Nat), InQ W A7 c7 B7 d7 (co (fval f) v * rv s2 x2 y2) → Calls Try.prog 30 #[.agg #[.bool s1, .slice A1 x1.length c1, .slice B1 y1.length d1], .agg #[.bool (decide ((co (fval f) v * rv s2 x2 y2).num < 0)), .slice A7 (dg (co (fval f) v * rv s2 x2 y2).num.natAbs).length c7, .slice B7 (dg (co (fval f) v * rv s2 x2 y2).den).length d7]] W (ToldQ W (rv s1 x1 y1 + co (fval f) v * rv s2 x2 y2)) from fun W hb A7 c7 B7 d7 q => by
    have e := r3_Add s1 A1 c1 x1 B1 d1 y1 (decide ((co (fval f) v * rv s2 x2 y2).num < 0)) A7 c7 _ B7 d7 _ W (h1.below hb) (by omega) (h2.below hb) (by omega) q.num (by omega) q.den (by omega)
    rw [rv_can] at e
    exact e)
  clear hf hg h1 h2 h5 h6 hs hq l4 hm gw gm gl n1 n2 hfs hfsum2
  generalize nform (wout (nform (fval f)) v ++ smul (co (fval f) v) (fval g)) = l at *
  generalize nform (smul (co (fval f) v) (fval g)) = n at *
  generalize rv s1 x1 y1 + co (fval f) v * rv s2 x2 y2 = r at *
  generalize co (fval f) v * rv s2 x2 y2 = p at *
  generalize co (fval f) v = q at *
  have HF := Lib.hid ((((Fr.refl w).box [.slice A f.length c, .bool s1, .slice A1 x1.length c1, .slice B1 y1.length d1] 60).box [.slice A2 g.length c2, .bool s2, .slice A3 x2.length c3, .slice B3 y2.length d3] 60).box [.slice none 0 0, .bool false, .slice none 0 0, .slice none 0 0] 60)
  have hsz : ∀ (w : World) (o : Obj), (w.alloc o).heap.size = w.heap.size + 1 := fun w o => by simp
  simp only [hsz, Nat.add_assoc, Nat.reduceAdd] at HF
  clear hsz
  go_enter Try.func55, Try.ntmps55
  go_wp2_with fail
  refine (hC.out _ HF.out.bel).mono ?_
  rintro e V1 ⟨A5, c5, B5, d5, rfl, q1, q2, q3⟩
  replace HF := Lib.hid (HF.out.below q3)
  have Q5 := Lib.hid (InQ.mk q1 q2)
  clear q1 q2 q3 hC
  have hw2 := HF.out.ltN 0 rfl
  replace Q5 := Lib.hid (Q5.out.below ((Below.refl _ V1).alloc (Nat.le_refl _) (.cells #[.bool (decide (q.num < 0)), .slice A5 (dg q.num.natAbs).length c5, .slice B5 (dg q.den).length d5] 31)))
  have HF0 := Lib.hid (HF.out.box [.bool (decide (q.num < 0)), .slice A5 (dg q.num.natAbs).length c5, .slice B5 (dg q.den).length d5] 31)
  clear HF
  go_wp2
  obtain ⟨gx, hgx⟩ : ∃ g, g = V1.heap.size := ⟨_, rfl⟩
  rw [← hgx] at HF0 hw2 ⊢
  generalize V1.alloc _ = W0 at HF0 Q5 ⊢
  clear hgx
  have hw0 := HF0.out.ltN 0 rfl
  go_loopg [8, 9] f.length (fun gg s8 s9 wr => ∃ (i : Nat) (v_ : Value), i + gg = f.length ∧ s9 = .int .i64 i ∧ v_ = s8 ∧ Hid (OwnW wr W0.heap.size v_ (fr v (f.take i))) ∧ Hid (Below W0.heap.size W0 wr))
  case atStart => exact ⟨0, _, by omega, rfl, rfl, OwnW.nil _ _, Below.refl _ _⟩
  case round =>
    obtain ⟨i, v_, hg, rfl, rfl, HO, HB⟩ := hrel
    by_cases hlt : i < f.length
    · have hltz : (i : Int) < (f.length : Int) := by omega
      have HS := Lib.hid (fr_succ v f i hlt)
      obtain ⟨ad, BB, cc, DD, dd, rfl, j1, j2, j3, j4, hq⟩ := row_mono hR.out i hlt
      have gm := hG.out f[i] (List.getElem_mem hlt)
      generalize f[i] = m at *
      obtain ⟨u, ⟨sb, us⟩, es⟩ := m
      have gn := gm.mn
      have gd := gm.md
      have HFr := Lib.hid (HF0.out.below HB.out)
      have a1 := cell_below HFr.out.bel j1
      have a2 := cell_below HFr.out.bel j2
      have a3 := cell_below HFr.out.bel j3
      have a4 := cell_below HFr.out.bel j4
      have b0 := HFr.out.cellN 3 rfl 0 rfl
      have hlq : LiesQ wr ((sb, us), es) BB cc DD dd := ⟨hq.1, hq.2.1, hq.2.2.1.below HFr.out.bel, hq.2.2.2.below HFr.out.bel⟩
      dsimp only at *
      have hfl := fr_length v (f.take i)
      rw [List.length_take] at hfl
      by_cases hv : u = v
      · rw [if_pos hv, List.append_nil] at HS
        rw [← HS.out] at HO
        have hvb : (u != v) = false := by simp [hv]
        have hvb2 : (u == v) = true := by simp [hv]
        clear HS hv HFr hlq j1 j2 j3 j4 hq gm hfl
        go_wp2
        go_roundg (f.length - (i + 1))
        case measure => omega
        case rel => exact ⟨i + 1, _, by omega, by go_num, rfl, HO, HB⟩
      · rw [if_neg hv] at HS
        obtain ⟨v', w', hrun, hO', hS'⟩ := pushR (t := 23) (ty := 23) (u := u) Try.underlying23 HO.out hlq (by omega) (by omega) (by omega) HB.out.size
        have HP := Lib.hid hrun
        have HO2 := Lib.hid hO'
        have HB2 := Lib.hid (HB.out.trans hS')
        rw [← HS.out] at HO2
        have hvb : (u != v) = true := by simp [hv]
        have hvb2 : (u == v) = false := by simp [hv]
        clear HS hv HFr hlq j1 j2 j3 j4 hq gm hfl hrun hO' hS' HO
        go_wp2_with (refine pushL_ rfl rfl rfl rfl HP.out ?_)
        go_roundg (f.length - (i + 1))
        case measure => omega
        case rel => exact ⟨i + 1, v', by omega, by go_num, rfl, HO2, HB2⟩
    · have hltz : ¬ (i : Int) < (f.length : Int) := by omega
      have HO2 := Lib.hid (show OwnW wr W0.heap.size _ (fr v f) by have := HO.out; rwa [List.take_of_length_le (by omega)] at this)
      obtain ⟨E0, j0, rfl, hrow, hcap⟩ := HO2.out.fin
      have HFR := Lib.hid (show FRaw wr E0 j0 (fr v f) from ⟨hrow, hcap, hgood.out, hfsum⟩)
      have HF := Lib.hid (HF0.out.below HB.out)
      have HBQ := Lib.hid HB.out
      have b0 := HF.out.cellN 3 rfl 0 rfl
      clear HO HO2 hrow hcap HB HF0
      have hwr := HF.out.ltN 0 rfl
      replace Q5 := Lib.hid (Q5.out.below HBQ.out)
      go_wp2_with fail
      clear b0
      replace Q5 := Lib.hid (Q5.out.below (Below.drew (Below.refl _ _)))
      replace HFR := Lib.hid (HFR.out.below (Below.drew (Below.refl _ _)))
      have HF_ := Lib.hid HF.out.drew
      clear HF
      have HF := HF_
      clear HF_
      refine start_ (n := 15) (S := fun w' => w'.cell? ⟨gx, 0, none⟩ = some (.bool (decide (q.num < 0))) ∧ w'.cell? ⟨gx, 1, none⟩ = some (.slice A5 (dg q.num.natAbs).length c5) ∧ w'.cell? ⟨gx, 2, none⟩ = some (.slice B5 (dg q.den).length d5) ∧ w'.cell? ⟨w.heap.size + 1, 0, none⟩ = some (.slice A2 g.length c2) ∧ w'.cell? ⟨w.heap.size + 1, 1, none⟩ = some (.bool s2) ∧ w'.cell? ⟨w.heap.size + 1, 2, none⟩ = some (.slice A3 x2.length c3) ∧ w'.cell? ⟨w.heap.size + 1, 3, none⟩ = some (.slice B3 y2.length d3) ∧ w'.cell? ⟨w.heap.size, 0, none⟩ = some (.slice A f.length c) ∧ w'.cell? ⟨w.heap.size, 1, none⟩ = some (.bool s1) ∧ w'.cell? ⟨w.heap.size, 2, none⟩ = some (.slice A1 x1.length c1) ∧ w'.cell? ⟨w.heap.size, 3, none⟩ = some (.slice B1 y1.length d1)) (ds := []) #[false, false, false, false, false, false, false, false, false, false, false, false, false, false, false] (by kernel_rfl) rfl rfl ⟨HF.out.cellN 0 rfl 0 rfl, HF.out.cellN 0 rfl 1 rfl, HF.out.cellN 0 rfl 2 rfl, HF.out.cellN 2 rfl 0 rfl, HF.out.cellN 2 rfl 1 rfl, HF.out.cellN 2 rfl 2 rfl, HF.out.cellN 2 rfl 3 rfl, HF.out.cellN 3 rfl 0 rfl, HF.out.cellN 3 rfl 1 rfl, HF.out.cellN 3 rfl 2 rfl, HF.out.cellN 3 rfl 3 rfl⟩ (fun hHeld => ?_)
      generalize World.drew _ = W at *
      refine pure_ (i := 0) (N := (some 37)) (v := ?_) (a' := ?_) #[true, false, false, false, false, false, false, false, false, false, false, false, false, false, false] rfl rfl (by kernel_rfl) (fun _ _ _ h => h) (Or.inl ⟨by rfl, ?_⟩) ?_ ?_
      rotate_left
      · intro w'
        go_simp
        with_reducible rfl
      rotate_left
      · simp only [Act.put, List.setIfInBounds_toArray, List.set_cons_zero, List.set_cons_succ]
        rfl
      refine pure_ (i := 2) (N := (some 39)) (v := ?_) (a' := ?_) #[true, false, true, false, false, false, false, false, false, false, false, false, false, false, false] rfl rfl (by kernel_rfl) (fun _ _ _ h => h) (Or.inl ⟨by rfl, ?_⟩) ?_ ?_
      rotate_left
      · intro w'
        go_simp
        with_reducible rfl
      rotate_left
      · simp only [Act.put, List.setIfInBounds_toArray, List.set_cons_zero, List.set_cons_succ]
        rfl
      refine pure_ (i := 6) (N := (some 43)) (v := ?_) (a' := ?_) #[true, false, true, false, false, false, true, false, false, false, false, false, false, false, false] rfl rfl (by kernel_rfl) (fun _ _ _ h => h) (Or.inl ⟨by rfl, ?_⟩) ?_ ?_
      rotate_left
      · intro w'
        go_simp
        with_reducible rfl
      rotate_left
      · simp only [Act.put, List.setIfInBounds_toArray, List.set_cons_zero, List.set_cons_succ]
        rfl
      refine pure_ (i := 9) (N := (some 46)) (v := ?_) (a' := ?_) #[true, false, true, false, false, false, true, false, false, true, false, false, false, false, false] rfl rfl (by kernel_rfl) (fun _ _ _ h => h) (Or.inl ⟨by rfl, ?_⟩) ?_ ?_
      rotate_left
      · intro w'
        go_simp
        with_reducible rfl
      rotate_left
      · simp only [Act.put, List.setIfInBounds_toArray, List.set_cons_zero, List.set_cons_succ]
        rfl
      refine take_ (i := 1) (N := (some 38)) (v := ?_) (a' := ?_) #[true, true, true, false, false, false, true, false, false, true, false, false, false, false, false] rfl rfl (by kernel_rfl) (fun _ _ _ h => h) (Or.inl ⟨by rfl, ?_⟩) hHeld ?_ ?_
      rotate_left
      · rintro w' ⟨s0, s1, s2, s3, s4, s5, s6, s7, s8, s9, s10⟩
        go_simp
        with_reducible rfl
      rotate_left
      · simp only [Act.put, List.setIfInBounds_toArray, List.set_cons_zero, List.set_cons_succ]
        rfl
      refine take_ (i := 3) (N := (some 40)) (v := ?_) (a' := ?_) #[true, true, true, true, false, false, true, false, false, true, false, false, false, false, false] rfl rfl (by kernel_rfl) (fun _ _ _ h => h) (Or.inl ⟨by rfl, ?_⟩) hHeld ?_ ?_
      rotate_left
      · rintro w' ⟨s0, s1, s2, s3, s4, s5, s6, s7, s8, s9, s10⟩
        go_simp
        with_reducible rfl
      rotate_left
      · simp only [Act.put, List.setIfInBounds_toArray, List.set_cons_zero, List.set_cons_succ]
        rfl
      refine take_ (i := 7) (N := (some 44)) (v := ?_) (a' := ?_) #[true, true, true, true, false, false, true, true, false, true, false, false, false, false, false] rfl rfl (by kernel_rfl) (fun _ _ _ h => h) (Or.inl ⟨by rfl, ?_⟩) hHeld ?_ ?_
      rotate_left
      · rintro w' ⟨s0, s1, s2, s3, s4, s5, s6, s7, s8, s9, s10⟩
        go_simp
        with_reducible rfl
      rotate_left
      · simp only [Act.put, List.setIfInBounds_toArray, List.set_cons_zero, List.set_cons_succ]
        rfl
      refine take_ (i := 8) (N := (some 45)) (v := ?_) (a' := ?_) #[true, true, true, true, false, false, true, true, true, true, false, false, false, false, false] rfl rfl (by kernel_rfl) (fun _ _ _ h => h) (Or.inl ⟨by rfl, ?_⟩) hHeld ?_ ?_
      rotate_left
      · rintro w' ⟨s0, s1, s2, s3, s4, s5, s6, s7, s8, s9, s10⟩
        go_simp
        with_reducible rfl
      rotate_left
      · simp only [Act.put, List.setIfInBounds_toArray, List.set_cons_zero, List.set_cons_succ]
        rfl
      refine take_ (i := 10) (N := (some 47)) (v := ?_) (a' := ?_) #[true, true, true, true, false, false, true, true, true, true, true, false, false, false, false] rfl rfl (by kernel_rfl) (fun _ _ _ h => h) (Or.inl ⟨by rfl, ?_⟩) hHeld ?_ ?_
      rotate_left
      · rintro w' ⟨s0, s1, s2, s3, s4, s5, s6, s7, s8, s9, s10⟩
        go_simp
        with_reducible rfl
      rotate_left
      · simp only [Act.put, List.setIfInBounds_toArray, List.set_cons_zero, List.set_cons_succ]
        rfl
      refine one_ (i := 4) (N := (some 41)) #[true, true, true, true, true, false, true, true, true, true, true, false, false, false, false] rfl rfl (by kernel_rfl) (by decide) (fun K hK => ?_)
      refine goes_ Try.func26 (by kernel_rfl) rfl #[.agg #[.bool (decide (q.num < 0)), .slice A5 (dg q.num.natAbs).length c5, .slice B5 (dg q.den).length d5], .slice A2 g.length c2] (by rfl) rfl rfl (by (try simp only [List.map_toArray, List.map_cons, List.map_nil]); first | done | rfl) ?_
      refine (hS.out W HF.out.bel A5 c5 B5 d5 Q5.out).mono ?_
      rintro e W1 ⟨v_, rfl, h1, h2⟩
      refine ⟨_, rfl, ?_⟩
      obtain ⟨E5, e5, rfl, h3⟩ := h1.fin
      have Q6 := Lib.hid h3
      replace HF := Lib.hid (HF.out.below h2)
      replace Q5 := Lib.hid (Q5.out.below h2)
      replace HFR := Lib.hid (HFR.out.below h2)
      clear h1 h2 h3 hS
      refine hK.out _ _ ⟨HF.out.cellN 0 rfl 0 rfl, HF.out.cellN 0 rfl 1 rfl, HF.out.cellN 0 rfl 2 rfl, HF.out.cellN 2 rfl 0 rfl, HF.out.cellN 2 rfl 1 rfl, HF.out.cellN 2 rfl 2 rfl, HF.out.cellN 2 rfl 3 rfl, HF.out.cellN 3 rfl 0 rfl, HF.out.cellN 3 rfl 1 rfl, HF.out.cellN 3 rfl 2 rfl, HF.out.cellN 3 rfl 3 rfl⟩ (fun hHeld => ?_)
      clear hK K
      refine norm_ (a' := ?_) ?_ ?_
      rotate_left
      · show Act.put _ (some 41) _ = _
        simp only [Act.put, List.setIfInBounds_toArray, List.set_cons_zero, List.set_cons_succ]
        rfl
      refine one_ (i := 5) (N := (some 42)) #[true, true, true, true, true, true, true, true, true, true, true, false, false, false, false] rfl rfl (by kernel_rfl) (by decide) (fun K hK => ?_)
      refine goes_ Try.func39 (by kernel_rfl) rfl #[.slice E0 (fr v f).length j0, .slice E5 n.length e5] (by rfl) rfl rfl (by (try simp only [List.map_toArray, List.map_cons, List.map_nil]); first | done | rfl) ?_
      refine (hA.out W1 E0 j0 E5 e5 HFR.out Q6.out).mono ?_
      rintro e W2 ⟨v_, rfl, h1, h2⟩
      refine ⟨_, rfl, ?_⟩
      obtain ⟨E6, e6, rfl, h3⟩ := h1.fin
      have HO := Lib.hid (h1.mono (by have := HF.out.ltN 0 rfl; omega : w.heap.size + 3 ≤ _))
      replace HF := Lib.hid (HF.out.below h2)
      replace Q5 := Lib.hid (Q5.out.below h2)
      clear h1 h2 h3 hA Q6 HFR
      refine hK.out _ _ ⟨HF.out.cellN 0 rfl 0 rfl, HF.out.cellN 0 rfl 1 rfl, HF.out.cellN 0 rfl 2 rfl, HF.out.cellN 2 rfl 0 rfl, HF.out.cellN 2 rfl 1 rfl, HF.out.cellN 2 rfl 2 rfl, HF.out.cellN 2 rfl 3 rfl, HF.out.cellN 3 rfl 0 rfl, HF.out.cellN 3 rfl 1 rfl, HF.out.cellN 3 rfl 2 rfl, HF.out.cellN 3 rfl 3 rfl⟩ (fun hHeld => ?_)
      clear hK K
      refine norm_ (a' := ?_) ?_ ?_
      rotate_left
      · show Act.put _ (some 42) _ = _
        simp only [Act.put, List.setIfInBounds_toArray, List.set_cons_zero, List.set_cons_succ]
        rfl
      refine one_ (i := 11) (N := (some 48)) #[true, true, true, true, true, true, true, true, true, true, true, true, false, false, false] rfl rfl (by kernel_rfl) (by decide) (fun K hK => ?_)
      refine goes_ Try.func51 (by kernel_rfl) rfl #[.agg #[.bool (decide (q.num < 0)), .slice A5 (dg q.num.natAbs).length c5, .slice B5 (dg q.den).length d5], .agg #[.bool s2, .slice A3 x2.length c3, .slice B3 y2.length d3]] (by rfl) rfl rfl (by (try simp only [List.map_toArray, List.map_cons, List.map_nil]); first | done | rfl) ?_
      refine (hM.out W2 HF.out.bel A5 c5 B5 d5 Q5.out).mono ?_
      rintro e W3 ⟨A7, c7, B7, d7, rfl, q1, q2, q3⟩
      refine ⟨_, rfl, ?_⟩
      replace HF := Lib.hid (HF.out.below q3)
      replace HO := Lib.hid (HO.out.below q3)
      have Q7 := Lib.hid (InQ.mk q1 q2)
      clear q1 q2 q3 hM Q5
      refine hK.out _ _ ⟨HF.out.cellN 0 rfl 0 rfl, HF.out.cellN 0 rfl 1 rfl, HF.out.cellN 0 rfl 2 rfl, HF.out.cellN 2 rfl 0 rfl, HF.out.cellN 2 rfl 1 rfl, HF.out.cellN 2 rfl 2 rfl, HF.out.cellN 2 rfl 3 rfl, HF.out.cellN 3 rfl 0 rfl, HF.out.cellN 3 rfl 1 rfl, HF.out.cellN 3 rfl 2 rfl, HF.out.cellN 3 rfl 3 rfl⟩ (fun hHeld => ?_)
      clear hK K
      refine norm_ (a' := ?_) ?_ ?_
      rotate_left
      · show Act.put _ (some 48) _ = _
        simp only [Act.put, List.setIfInBounds_toArray, List.set_cons_zero, List.set_cons_succ]
        rfl
      refine one_ (i := 12) (N := (some 49)) #[true, true, true, true, true, true, true, true, true, true, true, true, true, false, false] rfl rfl (by kernel_rfl) (by decide) (fun K hK => ?_)
      refine goes_ Try.func30 (by kernel_rfl) rfl #[.agg #[.bool s1, .slice A1 x1.length c1, .slice B1 y1.length d1], .agg #[.bool (decide (p.num < 0)), .slice A7 (dg p.num.natAbs).length c7, .slice B7 (dg p.den).length d7]] (by rfl) rfl rfl (by (try simp only [List.map_toArray, List.map_cons, List.map_nil]); first | done | rfl) ?_
      refine (hP.out W3 HF.out.bel A7 c7 B7 d7 Q7.out).mono ?_
      rintro e W4 ⟨A8, c8, B8, d8, rfl, q1, q2, q3⟩
      refine ⟨_, rfl, ?_⟩
      replace HF := Lib.hid (HF.out.below q3)
      replace HO := Lib.hid (HO.out.below q3)
      have Q8 := Lib.hid (InQ.mk q1 q2)
      clear q1 q2 q3 hP Q7
      refine hK.out _ _ ⟨HF.out.cellN 0 rfl 0 rfl, HF.out.cellN 0 rfl 1 rfl, HF.out.cellN 0 rfl 2 rfl, HF.out.cellN 2 rfl 0 rfl, HF.out.cellN 2 rfl 1 rfl, HF.out.cellN 2 rfl 2 rfl, HF.out.cellN 2 rfl 3 rfl, HF.out.cellN 3 rfl 0 rfl, HF.out.cellN 3 rfl 1 rfl, HF.out.cellN 3 rfl 2 rfl, HF.out.cellN 3 rfl 3 rfl⟩ (fun hHeld => ?_)
      clear hK K
      refine norm_ (a' := ?_) ?_ ?_
      rotate_left
      · show Act.put _ (some 49) _ = _
        simp only [Act.put, List.setIfInBounds_toArray, List.set_cons_zero, List.set_cons_succ]
        rfl
      refine pure_ (i := 13) (N := (some 50)) (v := ?_) (a' := ?_) #[true, true, true, true, true, true, true, true, true, true, true, true, true, true, false] rfl rfl (by kernel_rfl) (fun _ _ _ h => h) (Or.inl ⟨by rfl, ?_⟩) ?_ ?_
      rotate_left
      · intro w'
        go_simp
        with_reducible rfl
      rotate_left
      · simp only [Act.put, List.setIfInBounds_toArray, List.set_cons_zero, List.set_cons_succ]
        rfl
      refine one_ (i := 14) (N := none) #[true, true, true, true, true, true, true, true, true, true, true, true, true, true, true] rfl rfl (by kernel_rfl) (by decide) (fun K hK => ?_)
      have hf0 := HF.out.frozenN 1 rfl 0
      have hf1 := HF.out.frozenN 1 rfl 1
      have hf2 := HF.out.frozenN 1 rfl 2
      have hf3 := HF.out.frozenN 1 rfl 3
      have hd0 := HF.out.cellN 1 rfl 0 rfl
      have hd1 := HF.out.cellN 1 rfl 1 rfl
      have hd2 := HF.out.cellN 1 rfl 2 rfl
      have hd3 := HF.out.cellN 1 rfl 3 rfl
      refine skip_ (w1 := ?_) (by rfl) rfl ?_ ?_
      rotate_left
      · go_simp
        rfl
      have HKU := Lib.hid (KeepU.put4 (HF.out.ownN 1 rfl) (fun y hy => by simp at hy) (y1 := .slice E6 l.length e6) (y2 := .bool (decide (r.num < 0))) (y3 := .slice A8 (dg r.num.natAbs).length c8) (fun y hy => by simp at hy) (.slice B8 (dg r.den).length d8))
      replace Q8 := Lib.hid (Q8.out.keep HKU.out)
      replace HO := Lib.hid (HO.out.put4 (fun h => by have := (HO.out.block _ h).1; omega) _ _ _ _ HKU.out)
      replace HF := Lib.hid (HF.out.put4 1 rfl (by omega) (by simp <;> omega) (.slice E6 l.length e6) (.bool (decide (r.num < 0))) (.slice A8 (dg r.num.natAbs).length c8) (.slice B8 (dg r.den).length d8))
      clear HKU hf0 hf1 hf2 hf3 hd0 hd1 hd2 hd3
      refine hK.out _ _ ⟨HF.out.cellN 0 rfl 0 rfl, HF.out.cellN 0 rfl 1 rfl, HF.out.cellN 0 rfl 2 rfl, HF.out.cellN 2 rfl 0 rfl, HF.out.cellN 2 rfl 1 rfl, HF.out.cellN 2 rfl 2 rfl, HF.out.cellN 2 rfl 3 rfl, HF.out.cellN 3 rfl 0 rfl, HF.out.cellN 3 rfl 1 rfl, HF.out.cellN 3 rfl 2 rfl, HF.out.cellN 3 rfl 3 rfl⟩ (fun hHeld => ?_)
      clear hK K
      refine done_ (by kernel_rfl) ?_
      generalize World.setCell _ _ _ = W2 at HF Q8 HO ⊢
      go_wp2
      exact post_own (HF.out.ownN 1 rfl) rfl rfl rfl Try.underlying60 rfl (by kernel_rfl) ⟨_, _, _, _, _, _, rfl, HO.out.mono (by omega), Q8.out, HF.out.bel⟩

set_option maxHeartbeats 2000000 in
set_option maxRecDepth 100000 in
theorem r6_Solve_none (A : Option Addr) (c : Nat) (f : List (Int × RatD)) (s1 : Bool) (A1 : Option Addr) (c1 : Nat) (x1 : List Int) (B1 : Option Addr) (d1 : Nat) (y1 : List Int) (v : Int) (w : World)
    (hf : FRaw w A c f) (hm : mu (co (fval f) v) ≤ 137438953471) (hz : co (fval f) v = 0) :
    Calls Try.prog 57 #[.agg #[.slice A f.length c, .bool s1, .slice A1 x1.length c1, .slice B1 y1.length d1], .int .i64 v] w (ToldAX w 61) := by
  have hC := Lib.hid (fun (W : World) (hb : Below w.heap.size w W) => r6_Coef A c f v W (hf.below hb))
  have l4 := mu_len (co (fval f) v)
  have hI := Lib.hid (fun (W : World) (A5 : Option Addr) (c5 : Nat) (B5 : Option Addr) (d5 : Nat) (k : InQ W A5 c5 B5 d5 (co (fval f) v)) => (r3_Inv (decide ((co (fval f) v).num < 0)) A5 c5 _ B5 d5 _ W k.num (by omega) k.den (by omega)).mono fun e w' h => h.1 (by rw [rv_can]; exact hz))
  clear hf l4 hm hz
  generalize co (fval f) v = q at *
  have HF := Lib.hid (((Fr.refl w).box [.slice A f.length c, .bool s1, .slice A1 x1.length c1, .slice B1 y1.length d1] 60).box [.slice none 0 0, .bool false, .slice none 0 0, .slice none 0 0] 60)
  have hsz : ∀ (w : World) (o : Obj), (w.alloc o).heap.size = w.heap.size + 1 := fun w o => by simp
  simp only [hsz, Nat.add_assoc, Nat.reduceAdd] at HF
  clear hsz
  go_enter Try.func57, Try.ntmps57
  go_wp2_with fail
  refine (hC.out _ HF.out.bel).mono ?_
  rintro e W1 ⟨A5, c5, B5, d5, rfl, q1, q2, q3⟩
  replace HF := Lib.hid (HF.out.below q3)
  have Q5 := Lib.hid (InQ.mk q1 q2)
  clear q1 q2 q3 hC
  go_wp2_with fail
  refine (hI.out _ A5 c5 B5 d5 Q5.out).mono ?_
  rintro e W2 ⟨rfl, hb⟩
  replace HF := Lib.hid (HF.out.below hb)
  clear hb hI Q5
  have hf0 := HF.out.frozenN 0 rfl 0
  have hf1 := HF.out.frozenN 0 rfl 1
  have hf2 := HF.out.frozenN 0 rfl 2
  have hf3 := HF.out.frozenN 0 rfl 3
  have hd0 := HF.out.cellN 0 rfl 0 rfl
  have hd1 := HF.out.cellN 0 rfl 1 rfl
  have hd2 := HF.out.cellN 0 rfl 2 rfl
  have hd3 := HF.out.cellN 0 rfl 3 rfl
  have hw2 := HF.out.ltN 0 rfl
  have hw3 : ¬ w.heap.size + 1 = W2.heap.size := by omega
  have hw4 : ¬ W2.heap.size = w.heap.size + 1 := by omega
  have hal := (Below.refl _ W2).alloc (Nat.le_refl _) (.cells #[.bool false, .slice none 0 0, .slice none 0 0] 31)
  have he0 := cell_below hal hd0
  have he1 := cell_below hal hd1
  have he2 := cell_below hal hd2
  have he3 := cell_below hal hd3
  clear hal
  replace HF := Lib.hid (HF.out.put4 0 rfl (by omega) (by simp <;> omega) (.slice none 0 0) (.bool false) (.slice none 0 0) (.slice none 0 0))
  replace HF := Lib.hid (HF.out.box [.bool false, .slice none 0 0, .slice none 0 0] 31)
  go_wp2
  exact post_own2 (HF.out.ownN 1 rfl) rfl rfl rfl rfl Try.underlying60 rfl (by kernel_rfl) ⟨rfl, HF.out.bel⟩

set_option maxHeartbeats 4000000 in
set_option maxRecDepth 100000 in
theorem r6_Solve_some (A : Option Addr) (c : Nat) (f : List (Int × RatD)) (s1 : Bool) (A1 : Option Addr) (c1 : Nat) (x1 : List Int) (B1 : Option Addr) (d1 : Nat) (y1 : List Int) (v : Int) (w : World)
    (hf : FRaw w A c f) (h1 : In w A1 c1 x1) (m1 : x1.length ≤ 137438953471) (h2 : In w B1 d1 y1) (m2 : y1.length ≤ 137438953471) (hm : mu (co (fval f) v) ≤ 137438953470) (hi : mu (co (fval f) v)⁻¹ ≤ 137438953470) (hz : co (fval f) v ≠ 0)
    (hs : 2 * mf (smul (-(co (fval f) v)⁻¹) (wout (fval f) v)) + 5 * f.length ≤ 137438953470) :
    Calls Try.prog 57 #[.agg #[.slice A f.length c, .bool s1, .slice A1 x1.length c1, .slice B1 y1.length d1], .int .i64 v] w (ToldAE w (nform (smul (-(co (fval f) v)⁻¹) (wout (nform (fval f)) v))) (-(co (fval f) v)⁻¹ * rv s1 x1 y1)) := by
  have hC := Lib.hid (fun (W : World) (hb : Below w.heap.size w W) => r6_Coef A c f v W (hf.below hb))
  have l4 := mu_len (co (fval f) v)
  have l5 := mu_len (co (fval f) v)⁻¹
  have l6 := mu_len (-(co (fval f) v)⁻¹)
  rw [mu_neg] at l6
  have hlf := hf.len
  have hfs := hf.sum
  have hR := Lib.hid hf.row
  have hG := Lib.hid (show ∀ m ∈ f, Good 137438953472 m.2 from fun m hm => (hf.good m hm).mono (by have h1 : wtm m ≤ (f.map wtm).sum := le_sum hm; have h2 := wt_le m; have := hf.sum; omega))
  have hgood := Lib.hid (show ∀ m ∈ fr v f, Good (wt m.2) m.2 from fun m hm => hf.good m (List.mem_filter.1 hm).1)
  have hfsum : ((fr v f).map wtm).sum ≤ 137438953471 := Nat.le_trans (fr_sum v f) hfs
  have hfl0 := fr_length v f
  have hI := Lib.hid (fun (W : World) (A5 : Option Addr) (c5 : Nat) (B5 : Option Addr) (d5 : Nat) (k : InQ W A5 c5 B5 d5 (co (fval f) v)) => (r3_Inv (decide ((co (fval f) v).num < 0)) A5 c5 _ B5 d5 _ W k.num (by omega) k.den (by omega)).mono fun e w' h => h.2 (by rw [rv_can]; exact hz))
  rw [rv_can] at hI
  have hN := Lib.hid (fun (W : World) (A5 : Option Addr) (c5 : Nat) (B5 : Option Addr) (d5 : Nat) (k : InQ W A5 c5 B5 d5 (co (fval f) v)⁻¹) => r3_Neg (decide ((co (fval f) v)⁻¹.num < 0)) A5 c5 _ B5 d5 _ W k.num (by omega) k.den (by omega))
  rw [rv_can] at hN
  have hS := Lib.hid (show ∀ (W : World) (A7 : Option Addr) (c7 : Nat) (B7 : Option Addr) (d7 : Nat) (E0 : Option Addr) (j0 : Nat), InQ W A7 c7 B7 d7 (-(co (fval f) v)⁻¹) → FRaw W E0 j0 (fr v f) → Calls Try.prog 26 #[.agg #[.bool (decide ((-(co (fval f) v)⁻¹).num < 0)), .slice A7 (dg (-(co (fval f) v)⁻¹).num.natAbs).length c7, .slice B7 (dg (-(co (fval f) v)⁻¹).den).length d7], .slice E0 (fr v f).length j0] W (ToldFm W (nform (smul (-(co (fval f) v)⁻¹) (wout (nform (fval f)) v)))) from fun W A7 c7 B7 d7 E0 j0 q k => by
    have e := r6_Scale (decide ((-(co (fval f) v)⁻¹).num < 0)) A7 c7 _ B7 d7 _ E0 j0 (fr v f) W q.num (by omega) q.den (by omega) k (by rw [rv_can, fval_fr]; omega)
    rw [rv_can, fval_fr, sol_law] at e
    exact e)
  have hM := Lib.hid (show ∀ (W : World) (hb : Below w.heap.size w W) (A7 : Option Addr) (c7 : Nat) (B7 : Option Addr) (d7 : Nat), InQ W A7 c7 B7 d7 (-(co (fval f) v)⁻¹) → Calls Try.prog 51 #[.agg #[.bool (decide ((-(co (fval f) v)⁻¹).num < 0)), .slice A7 (dg (-(co (fval f) v)⁻¹).num.natAbs).length c7, .slice B7 (dg (-(co (fval f) v)⁻¹).den).length d7], .agg #[.bool s1, .slice A1 x1.length c1, .slice B1 y1.length d1]] W (ToldQ W (-(co (fval f) v)⁻¹ * rv s1 x1 y1)) from fun W hb A7 c7 B7 d7 q => by
    have e := r3_Mul (decide ((-(co (fval f) v)⁻¹).num < 0)) A7 c7 _ B7 d7 _ s1 A1 c1 x1 B1 d1 y1 W q.num (by omega) q.den (by omega) (h1.below hb) (by omega) (h2.below hb) (by omega)
    rw [rv_can] at e
    exact e)
  clear hf h1 h2 hs l4 l5 l6 hm hi hz hfs hfl0
  generalize nform (smul (-(co (fval f) v)⁻¹) (wout (nform (fval f)) v)) = l at *
  generalize -(co (fval f) v)⁻¹ * rv s1 x1 y1 = r at *
  generalize -(co (fval f) v)⁻¹ = o at *
  generalize (co (fval f) v)⁻¹ = p at *
  generalize co (fval f) v = q at *
  have HF := Lib.hid (((Fr.refl w).box [.slice A f.length c, .bool s1, .slice A1 x1.length c1, .slice B1 y1.length d1] 60).box [.slice none 0 0, .bool false, .slice none 0 0, .slice none 0 0] 60)
  have hsz : ∀ (w : World) (o : Obj), (w.alloc o).heap.size = w.heap.size + 1 := fun w o => by simp
  simp only [hsz, Nat.add_assoc, Nat.reduceAdd] at HF
  clear hsz
  go_enter Try.func57, Try.ntmps57
  go_wp2_with fail
  refine (hC.out _ HF.out.bel).mono ?_
  rintro e V1 ⟨A5, c5, B5, d5, rfl, q1, q2, q3⟩
  replace HF := Lib.hid (HF.out.below q3)
  have Q5 := Lib.hid (InQ.mk q1 q2)
  clear q1 q2 q3 hC
  go_wp2_with fail
  refine (hI.out _ A5 c5 B5 d5 Q5.out).mono ?_
  rintro e V2 ⟨A6, c6, B6, d6, rfl, q1, hb⟩
  replace HF := Lib.hid (HF.out.below hb)
  have Q6 := Lib.hid q1
  clear hb hI Q5 q1
  have hw2 := HF.out.ltN 0 rfl
  replace Q6 := Lib.hid (Q6.out.below ((Below.refl _ V2).alloc (Nat.le_refl _) (.cells #[.bool (decide (p.num < 0)), .slice A6 (dg p.num.natAbs).length c6, .slice B6 (dg p.den).length d6] 31)))
  replace HF := Lib.hid (HF.out.box [.bool (decide (p.num < 0)), .slice A6 (dg p.num.natAbs).length c6, .slice B6 (dg p.den).length d6] 31)
  go_wp2_with fail
  obtain ⟨gx, hgx⟩ : ∃ g, g = V2.heap.size := ⟨_, rfl⟩
  rw [← hgx] at HF hw2 ⊢
  generalize V2.alloc _ = W at HF Q6 ⊢
  clear hgx
  refine (hN.out _ A6 c6 B6 d6 Q6.out).mono ?_
  rintro e V3 ⟨A7, c7, B7, d7, rfl, q1, q2, q3⟩
  replace HF := Lib.hid (HF.out.below q3)
  have Q7 := Lib.hid (InQ.mk q1 q2)
  clear q1 q2 q3 hN Q6
  have hw3 := HF.out.ltN 0 rfl
  replace Q7 := Lib.hid (Q7.out.below ((Below.refl _ V3).alloc (Nat.le_refl _) (.cells #[.bool (decide (o.num < 0)), .slice A7 (dg o.num.natAbs).length c7, .slice B7 (dg o.den).length d7] 31)))
  have HF0 := Lib.hid (HF.out.box [.bool (decide (o.num < 0)), .slice A7 (dg o.num.natAbs).length c7, .slice B7 (dg o.den).length d7] 31)
  clear HF
  go_wp2
  obtain ⟨gy, hgy⟩ : ∃ g, g = V3.heap.size := ⟨_, rfl⟩
  rw [← hgy] at HF0 hw3 ⊢
  generalize V3.alloc _ = W0 at HF0 Q7 ⊢
  clear hgy
  have hw0 := HF0.out.ltN 0 rfl
  go_loopg [9, 10] f.length (fun gg s9 s10 wr => ∃ (i : Nat) (v_ : Value), i + gg = f.length ∧ s10 = .int .i64 i ∧ v_ = s9 ∧ Hid (OwnW wr W0.heap.size v_ (fr v (f.take i))) ∧ Hid (Below W0.heap.size W0 wr))
  case atStart => exact ⟨0, _, by omega, rfl, rfl, OwnW.nil _ _, Below.refl _ _⟩
  case round =>
    obtain ⟨i, v_, hg, rfl, rfl, HO, HB⟩ := hrel
    by_cases hlt : i < f.length
    · have hltz : (i : Int) < (f.length : Int) := by omega
      have HS := Lib.hid (fr_succ v f i hlt)
      obtain ⟨ad, BB, cc, DD, dd, rfl, j1, j2, j3, j4, hq⟩ := row_mono hR.out i hlt
      have gm := hG.out f[i] (List.getElem_mem hlt)
      generalize f[i] = m at *
      obtain ⟨u, ⟨sb, us⟩, es⟩ := m
      have gn := gm.mn
      have gd := gm.md
      have HFr := Lib.hid (HF0.out.below HB.out)
      have a1 := cell_below HFr.out.bel j1
      have a2 := cell_below HFr.out.bel j2
      have a3 := cell_below HFr.out.bel j3
      have a4 := cell_below HFr.out.bel j4
      have b0 := HFr.out.cellN 3 rfl 0 rfl
      have hlq : LiesQ wr ((sb, us), es) BB cc DD dd := ⟨hq.1, hq.2.1, hq.2.2.1.below HFr.out.bel, hq.2.2.2.below HFr.out.bel⟩
      dsimp only at *
      have hfl := fr_length v (f.take i)
      rw [List.length_take] at hfl
      by_cases hv : u = v
      · rw [if_pos hv, List.append_nil] at HS
        rw [← HS.out] at HO
        have hvb : (u != v) = false := by simp [hv]
        have hvb2 : (u == v) = true := by simp [hv]
        clear HS hv HFr hlq j1 j2 j3 j4 hq gm hfl
        go_wp2
        go_roundg (f.length - (i + 1))
        case measure => omega
        case rel => exact ⟨i + 1, _, by omega, by go_num, rfl, HO, HB⟩
      · rw [if_neg hv] at HS
        obtain ⟨v', w', hrun, hO', hS'⟩ := pushR (t := 23) (ty := 23) (u := u) Try.underlying23 HO.out hlq (by omega) (by omega) (by omega) HB.out.size
        have HP := Lib.hid hrun
        have HO2 := Lib.hid hO'
        have HB2 := Lib.hid (HB.out.trans hS')
        rw [← HS.out] at HO2
        have hvb : (u != v) = true := by simp [hv]
        have hvb2 : (u == v) = false := by simp [hv]
        clear HS hv HFr hlq j1 j2 j3 j4 hq gm hfl hrun hO' hS' HO
        go_wp2_with (refine pushL_ rfl rfl rfl rfl HP.out ?_)
        go_roundg (f.length - (i + 1))
        case measure => omega
        case rel => exact ⟨i + 1, v', by omega, by go_num, rfl, HO2, HB2⟩
    · have hltz : ¬ (i : Int) < (f.length : Int) := by omega
      have HO2 := Lib.hid (show OwnW wr W0.heap.size _ (fr v f) by have := HO.out; rwa [List.take_of_length_le (by omega)] at this)
      obtain ⟨E0, j0, rfl, hrow, hcap⟩ := HO2.out.fin
      have HFR := Lib.hid (show FRaw wr E0 j0 (fr v f) from ⟨hrow, hcap, hgood.out, hfsum⟩)
      have HF := Lib.hid (HF0.out.below HB.out)
      have HBQ := Lib.hid HB.out
      have b0 := HF.out.cellN 3 rfl 0 rfl
      clear HO HO2 hrow hcap HB HF0
      have hwr := HF.out.ltN 0 rfl
      replace Q7 := Lib.hid (Q7.out.below HBQ.out)
      go_wp2_with fail
      clear b0
      replace Q7 := Lib.hid (Q7.out.below (Below.drew (Below.refl _ _)))
      replace HFR := Lib.hid (HFR.out.below (Below.drew (Below.refl _ _)))
      have HF_ := Lib.hid HF.out.drew
      clear HF
      have HF := HF_
      clear HF_
      refine start_ (n := 10) (S := fun w' => w'.cell? ⟨gy, 0, none⟩ = some (.bool (decide (o.num < 0))) ∧ w'.cell? ⟨gy, 1, none⟩ = some (.slice A7 (dg o.num.natAbs).length c7) ∧ w'.cell? ⟨gy, 2, none⟩ = some (.slice B7 (dg o.den).length d7) ∧ w'.cell? ⟨w.heap.size, 0, none⟩ = some (.slice A f.length c) ∧ w'.cell? ⟨w.heap.size, 1, none⟩ = some (.bool s1) ∧ w'.cell? ⟨w.heap.size, 2, none⟩ = some (.slice A1 x1.length c1) ∧ w'.cell? ⟨w.heap.size, 3, none⟩ = some (.slice B1 y1.length d1)) (ds := []) #[false, false, false, false, false, false, false, false, false, false] (by kernel_rfl) rfl rfl ⟨HF.out.cellN 0 rfl 0 rfl, HF.out.cellN 0 rfl 1 rfl, HF.out.cellN 0 rfl 2 rfl, HF.out.cellN 3 rfl 0 rfl, HF.out.cellN 3 rfl 1 rfl, HF.out.cellN 3 rfl 2 rfl, HF.out.cellN 3 rfl 3 rfl⟩ (fun hHeld => ?_)
      generalize World.drew _ = W at *
      refine pure_ (i := 1) (N := (some 48)) (v := ?_) (a' := ?_) #[false, true, false, false, false, false, false, false, false, false] rfl rfl (by kernel_rfl) (fun _ _ _ h => h) (Or.inl ⟨by rfl, ?_⟩) ?_ ?_
      rotate_left
      · intro w'
        go_simp
        with_reducible rfl
      rotate_left
      · simp only [Act.put, List.setIfInBounds_toArray, List.set_cons_zero, List.set_cons_succ]
        rfl
      refine pure_ (i := 4) (N := (some 51)) (v := ?_) (a' := ?_) #[false, true, false, false, true, false, false, false, false, false] rfl rfl (by kernel_rfl) (fun _ _ _ h => h) (Or.inl ⟨by rfl, ?_⟩) ?_ ?_
      rotate_left
      · intro w'
        go_simp
        with_reducible rfl
      rotate_left
      · simp only [Act.put, List.setIfInBounds_toArray, List.set_cons_zero, List.set_cons_succ]
        rfl
      refine take_ (i := 0) (N := (some 47)) (v := ?_) (a' := ?_) #[true, true, false, false, true, false, false, false, false, false] rfl rfl (by kernel_rfl) (fun _ _ _ h => h) (Or.inl ⟨by rfl, ?_⟩) hHeld ?_ ?_
      rotate_left
      · rintro w' ⟨s0, s1, s2, s3, s4, s5, s6⟩
        go_simp
        with_reducible rfl
      rotate_left
      · simp only [Act.put, List.setIfInBounds_toArray, List.set_cons_zero, List.set_cons_succ]
        rfl
      refine take_ (i := 3) (N := (some 50)) (v := ?_) (a' := ?_) #[true, true, false, true, true, false, false, false, false, false] rfl rfl (by kernel_rfl) (fun _ _ _ h => h) (Or.inl ⟨by rfl, ?_⟩) hHeld ?_ ?_
      rotate_left
      · rintro w' ⟨s0, s1, s2, s3, s4, s5, s6⟩
        go_simp
        with_reducible rfl
      rotate_left
      · simp only [Act.put, List.setIfInBounds_toArray, List.set_cons_zero, List.set_cons_succ]
        rfl
      refine take_ (i := 5) (N := (some 52)) (v := ?_) (a' := ?_) #[true, true, false, true, true, true, false, false, false, false] rfl rfl (by kernel_rfl) (fun _ _ _ h => h) (Or.inl ⟨by rfl, ?_⟩) hHeld ?_ ?_
      rotate_left
      · rintro w' ⟨s0, s1, s2, s3, s4, s5, s6⟩
        go_simp
        with_reducible rfl
      rotate_left
      · simp only [Act.put, List.setIfInBounds_toArray, List.set_cons_zero, List.set_cons_succ]
        rfl
      refine one_ (i := 2) (N := (some 49)) #[true, true, true, true, true, true, false, false, false, false] rfl rfl (by kernel_rfl) (by decide) (fun K hK => ?_)
      refine goes_ Try.func26 (by kernel_rfl) rfl #[.agg #[.bool (decide (o.num < 0)), .slice A7 (dg o.num.natAbs).length c7, .slice B7 (dg o.den).length d7], .slice E0 (fr v f).length j0] (by rfl) rfl rfl (by (try simp only [List.map_toArray, List.map_cons, List.map_nil]); first | done | rfl) ?_
      refine (hS.out W A7 c7 B7 d7 E0 j0 Q7.out HFR.out).mono ?_
      rintro e W1 ⟨v_, rfl, h1, h2⟩
      refine ⟨_, rfl, ?_⟩
      obtain ⟨E6, e6, rfl, h3⟩ := h1.fin
      have HO := Lib.hid (h1.mono (by have := HF.out.ltN 0 rfl; omega : w.heap.size + 2 ≤ _))
      replace HF := Lib.hid (HF.out.below h2)
      replace Q7 := Lib.hid (Q7.out.below h2)
      clear h1 h2 h3 hS HFR
      refine hK.out _ _ ⟨HF.out.cellN 0 rfl 0 rfl, HF.out.cellN 0 rfl 1 rfl, HF.out.cellN 0 rfl 2 rfl, HF.out.cellN 3 rfl 0 rfl, HF.out.cellN 3 rfl 1 rfl, HF.out.cellN 3 rfl 2 rfl, HF.out.cellN 3 rfl 3 rfl⟩ (fun hHeld => ?_)
      clear hK K
      refine norm_ (a' := ?_) ?_ ?_
      rotate_left
      · show Act.put _ (some 49) _ = _
        simp only [Act.put, List.setIfInBounds_toArray, List.set_cons_zero, List.set_cons_succ]
        rfl
      refine one_ (i := 6) (N := (some 53)) #[true, true, true, true, true, true, true, false, false, false] rfl rfl (by kernel_rfl) (by decide) (fun K hK => ?_)
      refine goes_ Try.func51 (by kernel_rfl) rfl #[.agg #[.bool (decide (o.num < 0)), .slice A7 (dg o.num.natAbs).length c7, .slice B7 (dg o.den).length d7], .agg #[.bool s1, .slice A1 x1.length c1, .slice B1 y1.length d1]] (by rfl) rfl rfl (by (try simp only [List.map_toArray, List.map_cons, List.map_nil]); first | done | rfl) ?_
      refine (hM.out W1 HF.out.bel A7 c7 B7 d7 Q7.out).mono ?_
      rintro e W2 ⟨A8, c8, B8, d8, rfl, q1, q2, q3⟩
      refine ⟨_, rfl, ?_⟩
      replace HF := Lib.hid (HF.out.below q3)
      replace HO := Lib.hid (HO.out.below q3)
      have Q8 := Lib.hid (InQ.mk q1 q2)
      clear q1 q2 q3 hM Q7
      refine hK.out _ _ ⟨HF.out.cellN 0 rfl 0 rfl, HF.out.cellN 0 rfl 1 rfl, HF.out.cellN 0 rfl 2 rfl, HF.out.cellN 3 rfl 0 rfl, HF.out.cellN 3 rfl 1 rfl, HF.out.cellN 3 rfl 2 rfl, HF.out.cellN 3 rfl 3 rfl⟩ (fun hHeld => ?_)
      clear hK K
      refine norm_ (a' := ?_) ?_ ?_
      rotate_left
      · show Act.put _ (some 53) _ = _
        simp only [Act.put, List.setIfInBounds_toArray, List.set_cons_zero, List.set_cons_succ]
        rfl
      refine pure_ (i := 7) (N := (some 54)) (v := ?_) (a' := ?_) #[true, true, true, true, true, true, true, true, false, false] rfl rfl (by kernel_rfl) (fun _ _ _ h => h) (Or.inl ⟨by rfl, ?_⟩) ?_ ?_
      rotate_left
      · intro w'
        go_simp
        with_reducible rfl
      rotate_left
      · simp only [Act.put, List.setIfInBounds_toArray, List.set_cons_zero, List.set_cons_succ]
        rfl
      refine one_ (i := 8) (N := none) #[true, true, true, true, true, true, true, true, true, false] rfl rfl (by kernel_rfl) (by decide) (fun K hK => ?_)
      have hf0 := HF.out.frozenN 2 rfl 0
      have hf1 := HF.out.frozenN 2 rfl 1
      have hf2 := HF.out.frozenN 2 rfl 2
      have hf3 := HF.out.frozenN 2 rfl 3
      have hd0 := HF.out.cellN 2 rfl 0 rfl
      have hd1 := HF.out.cellN 2 rfl 1 rfl
      have hd2 := HF.out.cellN 2 rfl 2 rfl
      have hd3 := HF.out.cellN 2 rfl 3 rfl
      refine skip_ (w1 := ?_) (by rfl) rfl ?_ ?_
      rotate_left
      · go_simp
        rfl
      have HKU := Lib.hid (KeepU.put4 (HF.out.ownN 2 rfl) (fun y hy => by simp at hy) (y1 := .slice E6 l.length e6) (y2 := .bool (decide (r.num < 0))) (y3 := .slice A8 (dg r.num.natAbs).length c8) (fun y hy => by simp at hy) (.slice B8 (dg r.den).length d8))
      replace Q8 := Lib.hid (Q8.out.keep HKU.out)
      replace HO := Lib.hid (HO.out.put4 (fun h => by have := (HO.out.block _ h).1; omega) _ _ _ _ HKU.out)
      replace HF := Lib.hid (HF.out.put4 2 rfl (by omega) (by simp <;> omega) (.slice E6 l.length e6) (.bool (decide (r.num < 0))) (.slice A8 (dg r.num.natAbs).length c8) (.slice B8 (dg r.den).length d8))
      clear HKU hf0 hf1 hf2 hf3 hd0 hd1 hd2 hd3
      refine hK.out _ _ ⟨HF.out.cellN 0 rfl 0 rfl, HF.out.cellN 0 rfl 1 rfl, HF.out.cellN 0 rfl 2 rfl, HF.out.cellN 3 rfl 0 rfl, HF.out.cellN 3 rfl 1 rfl, HF.out.cellN 3 rfl 2 rfl, HF.out.cellN 3 rfl 3 rfl⟩ (fun hHeld => ?_)
      clear hK K
      refine pure_ (i := 9) (N := (some 5)) (v := ?_) (a' := ?_) #[true, true, true, true, true, true, true, true, true, true] rfl rfl (by kernel_rfl) (fun _ _ _ h => h) (Or.inl ⟨by rfl, ?_⟩) ?_ ?_
      rotate_left
      · intro w'
        go_simp
        with_reducible rfl
      rotate_left
      · simp only [Act.put, List.setIfInBounds_toArray, List.set_cons_zero, List.set_cons_succ]
        rfl
      refine done_ (by kernel_rfl) ?_
      generalize World.setCell _ _ _ = W2 at HF Q8 HO ⊢
      go_wp2
      exact post_own2 (HF.out.ownN 2 rfl) rfl rfl rfl rfl Try.underlying60 rfl (by kernel_rfl) ⟨_, _, _, _, _, _, rfl, HO.out.mono (by omega), Q8.out, HF.out.bel⟩
end Go.Proofs.Ytchdoignomidjaa.F
