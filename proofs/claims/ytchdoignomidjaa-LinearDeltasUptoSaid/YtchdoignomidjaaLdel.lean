/- LinearDeltas: for every form and every list of values with deltas, of bulk at most 1048576, linear.Deltas tells what the reference tells, limb by limb; the arguments read as they did. -/
import Derived.Test.YtchdoignomidjaaDvalb
import Derived.Test.YtchdoignomidjaaLval
set_option linter.unusedVariables false
set_option linter.unusedSimpArgs false
namespace Go.Proofs.Ytchdoignomidjaa.F
open Go.RowKit Go.Shelf

theorem opens_Delta : Opens Try.prog 37 kDelta (okPair okRat okRat) := opens_pair Try.underlying37 (by kernel_rfl) rfl rfl (by kernel_rfl) (by kernel_rfl) opens_Rat opens_Rat
theorem opens_Deltas : Opens Try.prog 34 kDelta.slice (okSlice (okPair okRat okRat)) := opens_slice Try.underlying34 (by kernel_rfl) opens_Delta
def wtd (x : DelD) : Nat := wt x.1 + wt x.2 + 1
theorem wtd_le (x : DelD) : wt x.1 ≤ wtd x ∧ wt x.2 ≤ wtd x := by unfold wtd; omega
theorem wt_delta {H : Type} {x : DelD} {d : DataW H} (h : okPair okRat okRat x H d) : wtd x ≤ Rows.uptoBulk d := bulk_pair (ok := okRat) (ok' := okRat) (g := wt) (g' := wt) (fun x d h => wt_rat h) (fun x d h => wt_rat h) h
theorem wt_deltas {H : Type} {f : List DelD} {d : DataW H} (h : okSlice (okPair okRat okRat) f H d) : (f.map wtd).sum + 1 ≤ Rows.uptoBulk d := bulk_slice (ok := okPair okRat okRat) (fun x d h => wt_delta h) h

set_option maxHeartbeats 1000000 in
theorem same_Delta (p q : Rat) (A1 : Option Addr) (c1 : Nat) (B1 : Option Addr) (d1 : Nat) (E1 : Option Addr) (j1 : Nat) (G1 : Option Addr) (l1 : Nat) (A2 : Option Addr) (c2 : Nat) (B2 : Option Addr) (d2 : Nat) (E2 : Option Addr) (j2 : Nat) (G2 : Option Addr) (l2 : Nat) (w : World)
    (h : InQ w A1 c1 B1 d1 p) (k : InQ w A2 c2 B2 d2 p) (h' : InQ w E1 j1 G1 l1 q) (k' : InQ w E2 j2 G2 l2 q) (hp : (dg p.num.natAbs).length ≤ 1099511627776) (kp : (dg p.den).length ≤ 1099511627776) (hq : (dg q.num.natAbs).length ≤ 1099511627776) (kq : (dg q.den).length ≤ 1099511627776) :
    Calls Try.prog 19 #[.agg #[.bool (decide (p.num < 0)), .slice A1 (dg p.num.natAbs).length c1, .slice B1 (dg p.den).length d1, .bool (decide (q.num < 0)), .slice E1 (dg q.num.natAbs).length j1, .slice G1 (dg q.den).length l1], .agg #[.bool (decide (p.num < 0)), .slice A2 (dg p.num.natAbs).length c2, .slice B2 (dg p.den).length d2, .bool (decide (q.num < 0)), .slice E2 (dg q.num.natAbs).length j2, .slice G2 (dg q.den).length l2]] w fun e w' => e = .returned (.bool true) ∧ Below w.heap.size w w' := by
  have hS := Lib.hid (fun (W : World) (hb : Below w.heap.size w W) => same_Rat p A1 c1 B1 d1 A2 c2 B2 d2 W (h.below hb) (k.below hb) hp kp)
  have hT := Lib.hid (fun (W : World) (hb : Below w.heap.size w W) => same_Rat q E1 j1 G1 l1 E2 j2 G2 l2 W (h'.below hb) (k'.below hb) hq kq)
  unfold qv at hS hT
  clear h k h' k'
  have HF := Lib.hid (((Fr.refl w).box [.bool (decide (p.num < 0)), .slice A1 (dg p.num.natAbs).length c1, .slice B1 (dg p.den).length d1, .bool (decide (q.num < 0)), .slice E1 (dg q.num.natAbs).length j1, .slice G1 (dg q.den).length l1] 37).box [.bool (decide (p.num < 0)), .slice A2 (dg p.num.natAbs).length c2, .slice B2 (dg p.den).length d2, .bool (decide (q.num < 0)), .slice E2 (dg q.num.natAbs).length j2, .slice G2 (dg q.den).length l2] 37)
  generalize decide (p.num < 0) = pb at *
  generalize dg p.num.natAbs = pn at *
  generalize dg p.den = pd at *
  generalize decide (q.num < 0) = qb at *
  generalize dg q.num.natAbs = qn at *
  generalize dg q.den = qd at *
  have hsz : (w.alloc (.cells [Value.bool pb, .slice A1 pn.length c1, .slice B1 pd.length d1, .bool qb, .slice E1 qn.length j1, .slice G1 qd.length l1].toArray 37)).heap.size = w.heap.size + 1 := by simp
  rw [hsz] at HF
  clear hsz
  go_enter Try.func19, Try.ntmps19
  go_wp2_with fail
  refine (hS.out _ HF.out.bel).mono ?_
  rintro e W1 ⟨rfl, hb⟩
  replace HF := Lib.hid (HF.out.below hb)
  clear hb
  have hc3 := HF.out.cellN 1 rfl 3 rfl
  have hc4 := HF.out.cellN 1 rfl 4 rfl
  have hc5 := HF.out.cellN 1 rfl 5 rfl
  have hd3 := HF.out.cellN 0 rfl 3 rfl
  have hd4 := HF.out.cellN 0 rfl 4 rfl
  have hd5 := HF.out.cellN 0 rfl 5 rfl
  go_wp2_with fail
  refine (hT.out _ HF.out.bel).mono ?_
  rintro e W2 ⟨rfl, hb⟩
  replace HF := Lib.hid (HF.out.below hb)
  clear hb hc3 hc4 hc5 hd3 hd4 hd5
  go_wp2
  go_ret
  exact ⟨rfl, HF.out.bel⟩

/-- the law: both values are the same -/
theorem law_Deltas (A : Option Addr) (c : Nat) (f : List (Int × RatD)) (B : Option Addr) (d : Nat) (vs : List DelD) (w : World) (h : kMono.Row w A f) (hc : f.length ≤ c) (k : kDelta.Row w B vs) (kc : vs.length ≤ d)
    (hf : ∀ m ∈ f, Good (wt m.2) m.2) (hv : ∀ x ∈ vs, Good (wt x.1) x.1 ∧ Good (wt x.2) x.2) (hb : (f.map wtm).sum + (vs.map wtd).sum ≤ 1048576) :
    Calls Try.prog 4 #[.slice A f.length c, .slice B vs.length d] w fun e w' => e = .returned (.bool true) ∧ Below w.heap.size w w' := by
  have hlf : f.length * 7 ≤ (f.map wtm).sum := len_le_sum f fun m _ => wtm7 m
  have hlv : vs.length * 11 ≤ (vs.map wtd).sum := len_le_sum vs fun x _ => by have := wt5 x.1; have := wt5 x.2; unfold wtd; omega
  have hV : ∀ x ∈ vs, wtd x ≤ (vs.map wtd).sum := fun x hx => le_sum hx
  have hpr : f.length * (vs.map wtd).sum ≤ 137000000000 := prod_le (by omega)
  have gf : ∀ m ∈ f, Good 137438953472 m.2 := fun m hm => (hf m hm).mono (by have h1 : wtm m ≤ (f.map wtm).sum := le_sum hm; have h2 := wt_le m; omega)
  have gv : ∀ x ∈ vs, Good 137438953472 x.1 ∧ Good 137438953472 x.2 := fun x hx => by
    have h1 := hV x hx
    have h2 := wtd_le x
    exact ⟨(hv x hx).1.mono (by omega), (hv x hx).2.mono (by omega)⟩
  have hv1 : ∀ x ∈ fsts vs, Good (wt x) x := fun x hx => by obtain ⟨y, hy, rfl⟩ := List.mem_map.1 hx; exact (hv y hy).1
  have hv2 : ∀ x ∈ snds vs, Good (wt x) x := fun x hx => by obtain ⟨y, hy, rfl⟩ := List.mem_map.1 hx; exact (hv y hy).2
  have hV1 : ∀ x ∈ fsts vs, wt x ≤ (vs.map wtd).sum := fun x hx => by obtain ⟨y, hy, rfl⟩ := List.mem_map.1 hx; have := hV y hy; have := wtd_le y; omega
  have hV2 : ∀ x ∈ snds vs, wt x ≤ (vs.map wtd).sum := fun x hx => by obtain ⟨y, hy, rfl⟩ := List.mem_map.1 hx; have := hV y hy; have := wtd_le y; omega
  generalize (vs.map wtd).sum = V at *
  have hp : ∀ m ∈ f, Sz 137438953472 (tm (fsts vs) m) ∧ Sz 137438953472 (tm (snds vs) m) := fun m hm => by
    have h1 : wtm m ≤ (f.map wtm).sum := le_sum hm
    exact ⟨(sz_tm (fsts vs) m _ (hf m hm) hv1 hV1).mono (by omega), (sz_tm (snds vs) m _ (hf m hm) hv2 hV2).mono (by omega)⟩
  have hs : ∀ i, i ≤ f.length → Sz 137438953472 (valQ (f.take i) (fsts vs)) ∧ Sz 137438953472 (valQ (f.take i) (snds vs)) := fun i hi => by
    have h1 : ((f.take i).map wtm).sum ≤ (f.map wtm).sum := by
      conv => rhs; rw [← List.take_append_drop i f, List.map_append, List.sum_append]
      omega
    have h2 : (f.take i).length * V ≤ f.length * V := Nat.mul_le_mul_right _ (by rw [List.length_take]; omega)
    exact ⟨(sz_val (fsts vs) (f.take i) _ (fun m hm => hf m (List.mem_of_mem_take hm)) hv1 hV1).mono (by omega), (sz_val (snds vs) (f.take i) _ (fun m hm => hf m (List.mem_of_mem_take hm)) hv2 hV2).mono (by omega)⟩
  have H1 := Lib.hid (fun (W : World) (hb : Below w.heap.size w W) => linear_Deltas A c f B d vs W 137438953472 (h.below hb) hc (k.below hb) kc gf gv hp hs (Nat.le_refl _) (by omega) (by omega))
  have H2 := Lib.hid (fun (W : World) (hb : Below w.heap.size w W) => r6_Deltas A c f B d vs W 137438953472 (h.below hb) hc (k.below hb) kc gf gv hp hs (Nat.le_refl _) (by omega) (by omega))
  have hq := (hs f.length (Nat.le_refl _))
  rw [List.take_length] at hq
  have hl := hq.1.len
  have hl2 := hq.2.len
  clear hq hs hp gf gv hV hf hv hpr hlf hlv h k hv1 hv2 hV1 hV2
  generalize valQ f (fsts vs) = p at *
  generalize valQ f (snds vs) = q at *
  have hS := Lib.hid (fun (W : World) (A1 : Option Addr) (c1 : Nat) (B1 : Option Addr) (d1 : Nat) (E1 : Option Addr) (j1 : Nat) (G1 : Option Addr) (l1 : Nat) (A2 : Option Addr) (c2 : Nat) (B2 : Option Addr) (d2 : Nat) (E2 : Option Addr) (j2 : Nat) (G2 : Option Addr) (l2 : Nat) (k1 : InQ W A1 c1 B1 d1 p) (k2 : InQ W A2 c2 B2 d2 p) (k3 : InQ W E1 j1 G1 l1 q) (k4 : InQ W E2 j2 G2 l2 q) => same_Delta p q A1 c1 B1 d1 E1 j1 G1 l1 A2 c2 B2 d2 E2 j2 G2 l2 W k1 k2 k3 k4 (by omega) (by omega) (by omega) (by omega))
  go_enter Try.func4, Try.ntmps4
  go_wp2_with fail
  refine (H1.out _ (Below.refl _ _)).mono ?_
  rintro e W1 ⟨A1, c1, B1, d1, E1, j1, G1, l1, rfl, g1, g2, g3⟩
  have HB := Lib.hid g3
  have Q1 := Lib.hid g1
  have Q2 := Lib.hid g2
  clear g1 g2 g3
  go_wp2_with fail
  refine (H2.out _ HB.out).mono ?_
  rintro e W2 ⟨A2, c2, B2, d2, E2, j2, G2, l2, rfl, g1, g2, g3⟩
  replace HB := Lib.hid (HB.out.trans (g3.mono HB.out.size))
  replace Q1 := Lib.hid (Q1.out.below g3)
  replace Q2 := Lib.hid (Q2.out.below g3)
  have Q3 := Lib.hid g1
  have Q4 := Lib.hid g2
  clear g1 g2 g3
  go_wp2_with fail
  refine (hS.out W2 A1 c1 B1 d1 E1 j1 G1 l1 A2 c2 B2 d2 E2 j2 G2 l2 Q1.out Q3.out Q2.out Q4.out).mono ?_
  rintro e W3 ⟨rfl, g3⟩
  replace HB := Lib.hid (HB.out.trans (g3.mono HB.out.size))
  clear g3
  go_wp2
  go_ret
  exact ⟨rfl, HB.out⟩
end Go.Proofs.Ytchdoignomidjaa.F
namespace Go.Proofs.Ytchdoignomidjaa.deltas
open Go.ChangeShapes Go.WideShapes Go.ChangeAt Go.RowKit
open Go.Proofs.Ytchdoignomidjaa.F

set_option maxRecDepth 100000 in
theorem contract (H : Type) (enc : TypeId × Value → H) (W : World) (base : Nat) (args : Array Value) (ds gs : List (DataW H)) (before : List MemPlace)
    (hval : ∀ (j : Nat) t v, Try.f4.params[j]? = some t → args[j]? = some v → Value.okWide Try.prog W .any base t v)
    (hW : DataW.Whole enc Try.prog Try.f4.params.toList Rows.linearDeltasSpec.vars false W args.toList ds gs before) (hk : Rows.uptoSmall H (ds ++ gs) = true) :
    Calls Try.prog 4 args W fun e W' => ∃ v, e = .returned v ∧ Rows.linearDeltasSpec.post enc Try.prog Try.f4 false true false false W args v W' := by
  have hW' := hW
  obtain ⟨p, q, hA0, hV, rfl, hfz, hnd⟩ := hW
  have hA : DataW.TrodAll enc Try.prog W 0 (fun _ => true) true Try.f4.params.toList args.toList ds p := hA0
  rw [Try.params4] at hA hval
  obtain ⟨v0, vs0, d0, ds0, p0, q0, hargs, rfl, rfl, h0, r0⟩ := trodAll_cons hA
  obtain ⟨v1, vs1, d1, ds1, p1, q1, rfl, rfl, rfl, h1, r1⟩ := trodAll_cons r0
  obtain ⟨rfl, rfl, rfl⟩ := trodAll_nil r1
  obtain rfl : args = #[v0, v1] := by cases args; simp_all
  obtain ⟨rfl, rfl⟩ := trodVars_none hV
  obtain ⟨a0, len0, cap0, rfl⟩ := okWide_slice Try.underlying23 (hval 0 23 v0 rfl rfl)
  have k0 := h0
  have lt0 : ∀ x ∈ p0, x.block < W.heap.size := by obtain ⟨m, hm⟩ := k0; exact DataW.trod_lt m _ _ _ hm
  obtain ⟨m0, g0⟩ := h0
  obtain ⟨f, hC0, ok0⟩ := opens_Form H enc W m0 _ _ g0
  obtain ⟨a1, len1, cap1, rfl⟩ := okWide_slice Try.underlying34 (hval 1 34 v1 rfl rfl)
  have k1 := h1
  have lt1 : ∀ x ∈ p1, x.block < W.heap.size := by obtain ⟨m, hm⟩ := k1; exact DataW.trod_lt m _ _ _ hm
  obtain ⟨m1, g1⟩ := h1
  obtain ⟨vs, hC1, ok1⟩ := opens_Deltas H enc W m1 _ _ g1
  have hb : Rows.uptoBulkAll (H := H) [d0, d1] ≤ 1048576 := by
    have h2 := of_decide_eq_true hk
    simpa only [List.append_nil] using h2
  simp only [Rows.uptoBulkAll] at hb
  obtain ⟨A0, c0, e0, hc0, hm0, hr0⟩ := hC0
  obtain ⟨A1, c1, e1, hc1, hm1, hr1⟩ := hC1
  simp [Value.cells] at e0 e1
  obtain ⟨rfl, rfl, rfl⟩ := e0
  obtain ⟨rfl, rfl, rfl⟩ := e1
  have w0 : (f.map wtm).sum + 1 ≤ Rows.uptoBulk d0 := wt_form ok0
  have w1 : (vs.map wtd).sum + 1 ≤ Rows.uptoBulk d1 := wt_deltas ok1
  have hlaw := law_Deltas a0 cap0 f a1 cap1 vs W hr0 hc0 hr1 hc1 (fun m hm => (ok_mem ok0 hm).elim fun d h => by obtain ⟨_, _, _, _, h⟩ := h; exact good_rat h) (fun x hx => (ok_mem ok1 hx).elim fun d h => by obtain ⟨_, _, _, h1, h2⟩ := h; exact ⟨good_rat h1, good_rat h2⟩) (by omega)
  refine hlaw.mono fun e W' ⟨he, bel⟩ => ?_
  subst he
  exact ⟨_, rfl, _, _, _, [], _, [], hW', trodAll_mk1 (shut_bool Try.underlying4 _), (trodAll_cons_mk (Below.trod prog_laid (by kernel_rfl) (of_decide_eq_true (by kernel_rfl)) k0 bel lt0) (trodAll_cons_mk (Below.trod prog_laid (by kernel_rfl) (of_decide_eq_true (by kernel_rfl)) k1 bel lt1) trodAll_mk0)), rfl, bel.frame _, fun h => by cases h⟩

set_option maxRecDepth 100000 in
theorem lifted (os : Os) (started : os.Started) (H : Type) (enc : TypeId × Value → H) (F : Stop.Interp) :
    ReturnsInHanded {} Try.checked os 4 .any ((Rows.OpenSpec.upto Rows.linearDeltasSpec).pre6 enc Try.prog Try.f4 Rows.linearDeltasUptoRow.domain false) (((Rows.OpenSpec.upto Rows.linearDeltasSpec).at F).post enc Try.prog Try.f4 false true false false) := by
  refine returnsInHanded_of_cond (C := Try.checked) (s := Rows.OpenSpec.upto Rows.linearDeltasSpec) (k := Rows.uptoSmall) rfl prog_own started (by kernel_rfl) Try.func4
    (OpenSpec.witness (enc := enc) (C := Try.checked) (s := Rows.OpenSpec.upto Rows.linearDeltasSpec) (k := Rows.uptoSmall) rfl false ⟨#[], #[.slice none 0 0, .slice none 0 0], []⟩ 8 (by kernel_rfl) (by kernel_rfl) (by kernel_rfl)
      (x := ([.nil, .nil], [], [])) (by kernel_rfl) rfl (by kernel_rfl)) ?_
  intro W base args ds gs before hval hW _ hk _
  exact contract H enc W base args ds gs before hval hW hk

theorem over : Rows.LinearDeltasUptoSaid :=
  OpenClaim.holds_of_cond 4 Try.f4 rfl rfl rfl rfl rfl rfl rfl ⟨rfl, rfl, rfl, rfl, rfl⟩ rfl rfl rfl rfl rfl (by kernel_rfl) Try.func4 (by kernel_rfl)
    (of_decide_eq_true (by kernel_rfl)) (by unfold Func.isWrapper; first | (rw [if_pos (by decide +kernel)]; kernel_rfl) | (rw [if_neg (by decide +kernel)]; exact ⟨rfl, rfl⟩))
    (fun os started H enc _ F => lifted os started H enc F)
end Go.Proofs.Ytchdoignomidjaa.deltas
namespace Go.Proofs.Ytchdoignomidjaa
theorem linearDeltas_holds : Rows.LinearDeltasUptoSaid := deltas.over
#print axioms linearDeltas_holds
end Go.Proofs.Ytchdoignomidjaa
