/- LinearValues: for every form and every list of values of bulk at most 1048576, linear.Value tells what the reference tells, limb by limb; the arguments read as they did. -/
import Derived.Test.YtchdoignomidjaaValub
import Derived.Test.YtchdoignomidjaaTyp
set_option linter.unusedVariables false
set_option linter.unusedSimpArgs false
namespace Go.Proofs.Ytchdoignomidjaa.F
open Go.RowKit Go.Shelf

theorem wt5 (x : RatD) : 5 ≤ wt x := by unfold wt; omega
theorem wt_le (m : Int × RatD) : wt m.2 ≤ wtm m := by unfold wtm; omega
theorem wtm7 (m : Int × RatD) : 7 ≤ wtm m := by have := wt5 m.2; unfold wtm; omega
/-- how long the value of a part, and that of a form, may be -/
theorem sz_tm (vs : List RatD) (m : Int × RatD) (V : Nat) (hm : Good (wt m.2) m.2) (hv : ∀ x ∈ vs, Good (wt x) x) (hV : ∀ x ∈ vs, wt x ≤ V) : Sz (wtm m + V) (tm vs m) := by
  unfold tm
  split
  · rename_i h
    have hx : vs[m.1.toNat] ∈ vs := List.getElem_mem _
    exact ((Sz.rq hm).mul ((Sz.rq (hv _ hx)).mono (hV _ hx))).mono (by unfold wtm; omega)
  · exact Sz.zero.mono (by have := wtm7 m; omega)
theorem sz_val (vs : List RatD) (f : List (Int × RatD)) (V : Nat) (hf : ∀ m ∈ f, Good (wt m.2) m.2) (hv : ∀ x ∈ vs, Good (wt x) x) (hV : ∀ x ∈ vs, wt x ≤ V) : Sz ((f.map wtm).sum + f.length * V + 1) (valQ f vs) := by
  have : ∀ i, i ≤ f.length → Sz (((f.take i).map wtm).sum + i * V + 1) (valQ (f.take i) vs) := by
    intro i
    induction i with
    | zero =>
      intro _
      rw [List.take_zero]
      simp only [List.map_nil, List.sum_nil, Nat.zero_mul, Nat.zero_add]
      exact Sz.zero
    | succ i ih =>
      intro hi
      rw [valQ_succ f vs i (by omega), List.take_succ_eq_append_getElem (by omega), List.map_append, List.sum_append]
      refine ((ih (by omega)).add (sz_tm vs f[i] V (hf _ (List.getElem_mem _)) hv hV)).mono ?_
      simp only [List.map_cons, List.map_nil, List.sum_cons, List.sum_nil, Nat.succ_mul]
      omega
  have h := this f.length (Nat.le_refl _)
  rwa [List.take_length] at h

/-- the law: both values are the same -/
theorem law_Values (A : Option Addr) (c : Nat) (f : List (Int × RatD)) (B : Option Addr) (d : Nat) (vs : List RatD) (w : World) (h : kMono.Row w A f) (hc : f.length ≤ c) (k : kRat.Row w B vs) (kc : vs.length ≤ d)
    (hf : ∀ m ∈ f, Good (wt m.2) m.2) (hv : ∀ x ∈ vs, Good (wt x) x) (hb : (f.map wtm).sum + (vs.map wt).sum ≤ 1048576) :
    Calls Try.prog 3 #[.slice A f.length c, .slice B vs.length d] w fun e w' => e = .returned (.bool true) ∧ Below w.heap.size w w' := by
  have hlf : f.length * 7 ≤ (f.map wtm).sum := len_le_sum f fun m _ => wtm7 m
  have hlv : vs.length * 5 ≤ (vs.map wt).sum := len_le_sum vs fun x _ => wt5 x
  have hV : ∀ x ∈ vs, wt x ≤ (vs.map wt).sum := fun x hx => le_sum hx
  have hpr : f.length * (vs.map wt).sum ≤ 137000000000 := prod_le (by omega)
  have gf : ∀ m ∈ f, Good 137438953472 m.2 := fun m hm => (hf m hm).mono (by have h1 : wtm m ≤ (f.map wtm).sum := le_sum hm; have h2 := wt_le m; omega)
  have gv : ∀ x ∈ vs, Good 137438953472 x := fun x hx => (hv x hx).mono (by have := hV x hx; omega)
  have hp : ∀ m ∈ f, Sz 137438953472 (tm vs m) := fun m hm => (sz_tm vs m _ (hf m hm) hv hV).mono (by have : wtm m ≤ _ := le_sum hm; omega)
  have hs : ∀ i, i ≤ f.length → Sz 137438953472 (valQ (f.take i) vs) := fun i hi => by
    refine (sz_val vs (f.take i) _ (fun m hm => hf m (List.mem_of_mem_take hm)) hv hV).mono ?_
    have h1 : ((f.take i).map wtm).sum ≤ (f.map wtm).sum := by
      conv => rhs; rw [← List.take_append_drop i f, List.map_append, List.sum_append]
      omega
    have h2 : (f.take i).length * (vs.map wt).sum ≤ f.length * (vs.map wt).sum := Nat.mul_le_mul_right _ (by rw [List.length_take]; omega)
    omega
  have H1 := Lib.hid (fun (W : World) (hb : Below w.heap.size w W) => linear_Value A c f B d vs W 137438953472 (h.below hb) hc (k.below hb) kc gf gv hp hs (Nat.le_refl _) (by omega) (by omega))
  have H2 := Lib.hid (fun (W : World) (hb : Below w.heap.size w W) => r6_Value A c f B d vs W 137438953472 (h.below hb) hc (k.below hb) kc gf gv hp hs (Nat.le_refl _) (by omega) (by omega))
  have hq := (hs f.length (Nat.le_refl _))
  rw [List.take_length] at hq
  have hl := hq.len
  clear hq hs hp gf gv hV hf hv hpr hlf hlv h k
  generalize valQ f vs = q at *
  have hS := Lib.hid (fun (W : World) (A1 : Option Addr) (c1 : Nat) (B1 : Option Addr) (d1 : Nat) (A2 : Option Addr) (c2 : Nat) (B2 : Option Addr) (d2 : Nat) (k1 : InQ W A1 c1 B1 d1 q) (k2 : InQ W A2 c2 B2 d2 q) => same_Rat q A1 c1 B1 d1 A2 c2 B2 d2 W k1 k2 (by omega) (by omega))
  go_enter Try.func3, Try.ntmps3
  go_wp2_with fail
  refine (H1.out _ (Below.refl _ _)).mono ?_
  rintro e W1 ⟨A1, c1, B1, d1, rfl, g1, g2, g3⟩
  have HB := Lib.hid g3
  have Q1 := Lib.hid (InQ.mk g1 g2)
  clear g1 g2 g3
  go_wp2_with fail
  refine (H2.out _ HB.out).mono ?_
  rintro e W2 ⟨A2, c2, B2, d2, rfl, g1, g2, g3⟩
  replace HB := Lib.hid (HB.out.trans (g3.mono HB.out.size))
  replace Q1 := Lib.hid (Q1.out.below g3)
  have Q2 := Lib.hid (InQ.mk g1 g2)
  clear g1 g2 g3
  go_wp2_with fail
  refine (hS.out W2 A1 c1 B1 d1 A2 c2 B2 d2 Q1.out Q2.out).mono ?_
  rintro e W3 ⟨rfl, g3⟩
  replace HB := Lib.hid (HB.out.trans (g3.mono HB.out.size))
  clear g3
  go_wp2
  go_ret
  exact ⟨rfl, HB.out⟩
end Go.Proofs.Ytchdoignomidjaa.F
namespace Go.Proofs.Ytchdoignomidjaa.values
open Go.ChangeShapes Go.WideShapes Go.ChangeAt Go.RowKit
open Go.Proofs.Ytchdoignomidjaa.F

set_option maxRecDepth 100000 in
theorem contract (H : Type) (enc : TypeId × Value → H) (W : World) (base : Nat) (args : Array Value) (ds gs : List (DataW H)) (before : List MemPlace)
    (hval : ∀ (j : Nat) t v, Try.f3.params[j]? = some t → args[j]? = some v → Value.okWide Try.prog W .any base t v)
    (hW : DataW.Whole enc Try.prog Try.f3.params.toList Rows.linearValuesSpec.vars false W args.toList ds gs before) (hk : Rows.uptoSmall H (ds ++ gs) = true) :
    Calls Try.prog 3 args W fun e W' => ∃ v, e = .returned v ∧ Rows.linearValuesSpec.post enc Try.prog Try.f3 false true false false W args v W' := by
  have hW' := hW
  obtain ⟨p, q, hA0, hV, rfl, hfz, hnd⟩ := hW
  have hA : DataW.TrodAll enc Try.prog W 0 (fun _ => true) true Try.f3.params.toList args.toList ds p := hA0
  rw [Try.params3] at hA hval
  obtain ⟨v0, vs0, d0, ds0, p0, q0, hargs, rfl, rfl, h0, r0⟩ := trodAll_cons hA
  obtain ⟨v1, vs1, d1, ds1, p1, q1, rfl, rfl, rfl, h1, r1⟩ := trodAll_cons r0
  obtain ⟨rfl, rfl, rfl⟩ := trodAll_nil r1
  obtain rfl : args = #[v0, v1] := by cases args; simp_all
  obtain ⟨rfl, rfl⟩ := trodVars_none hV
  obtain ⟨a0, len0, cap0, rfl⟩ := okWide_slice Try.underlying23 (hval 0 23 v0 rfl rfl)
  obtain ⟨a1, len1, cap1, rfl⟩ := okWide_slice Try.underlying24 (hval 1 24 v1 rfl rfl)
  have k0 := h0
  have k1 := h1
  have lt0 : ∀ x ∈ p0, x.block < W.heap.size := by obtain ⟨m, hm⟩ := k0; exact DataW.trod_lt m _ _ _ hm
  have lt1 : ∀ x ∈ p1, x.block < W.heap.size := by obtain ⟨m, hm⟩ := k1; exact DataW.trod_lt m _ _ _ hm
  obtain ⟨m0, g0⟩ := h0
  obtain ⟨m1, g1⟩ := h1
  obtain ⟨f, ⟨A0, c0, e0, hc0, hm0, hr0⟩, ok0⟩ := opens_Form H enc W m0 _ _ g0
  obtain ⟨vs, ⟨A1, c1, e1, hc1, hm1, hr1⟩, ok1⟩ := opens_Rats H enc W m1 _ _ g1
  simp [Value.cells] at e0 e1
  obtain ⟨rfl, rfl, rfl⟩ := e0
  obtain ⟨rfl, rfl, rfl⟩ := e1
  have hb : (f.map wtm).sum + (vs.map wt).sum ≤ 1048576 := by
    have h2 : Rows.uptoBulkAll _ ≤ 1048576 := of_decide_eq_true hk
    have h3 : (f.map wtm).sum + 1 ≤ Rows.uptoBulk d0 := wt_form ok0
    have h4 : (vs.map wt).sum + 1 ≤ Rows.uptoBulk d1 := wt_rats ok1
    simp only [List.append_nil, Rows.uptoBulkAll] at h2
    omega
  refine (law_Values a0 cap0 f a1 cap1 vs W hr0 hc0 hr1 hc1 (fun m hm => (ok_mem ok0 hm).elim fun d h => by obtain ⟨_, _, _, _, h⟩ := h; exact good_rat h) (fun x hx => (ok_mem ok1 hx).elim fun d h => good_rat h) hb).mono fun e W' ⟨he, bel⟩ => ?_
  subst he
  exact ⟨_, rfl, _, _, _, [], _, [], hW', trodAll_mk1 (shut_bool Try.underlying4 _), (trodAll_cons_mk (Below.trod prog_laid (by kernel_rfl) (of_decide_eq_true (by kernel_rfl)) k0 bel lt0) (trodAll_cons_mk (Below.trod prog_laid (by kernel_rfl) (of_decide_eq_true (by kernel_rfl)) k1 bel lt1) trodAll_mk0)), rfl, bel.frame _, fun h => by cases h⟩

set_option maxRecDepth 100000 in
theorem lifted (os : Os) (started : os.Started) (H : Type) (enc : TypeId × Value → H) (F : Stop.Interp) :
    ReturnsInHanded {} Try.checked os 3 .any ((Rows.OpenSpec.upto Rows.linearValuesSpec).pre6 enc Try.prog Try.f3 Rows.linearValuesUptoRow.domain false) (((Rows.OpenSpec.upto Rows.linearValuesSpec).at F).post enc Try.prog Try.f3 false true false false) := by
  refine returnsInHanded_of_cond (C := Try.checked) (s := Rows.OpenSpec.upto Rows.linearValuesSpec) (k := Rows.uptoSmall) rfl prog_own started (by kernel_rfl) Try.func3
    (OpenSpec.witness (enc := enc) (C := Try.checked) (s := Rows.OpenSpec.upto Rows.linearValuesSpec) (k := Rows.uptoSmall) rfl false ⟨#[], #[.slice none 0 0, .slice none 0 0], []⟩ 8 (by kernel_rfl) (by kernel_rfl) (by kernel_rfl)
      (x := ([.nil, .nil], [], [])) (by kernel_rfl) rfl (by kernel_rfl)) ?_
  intro W base args ds gs before hval hW _ hk _
  exact contract H enc W base args ds gs before hval hW hk

theorem over : Rows.LinearValuesUptoSaid :=
  OpenClaim.holds_of_cond 3 Try.f3 rfl rfl rfl rfl rfl rfl rfl ⟨rfl, rfl, rfl, rfl, rfl⟩ rfl rfl rfl rfl rfl (by kernel_rfl) Try.func3 (by kernel_rfl)
    (of_decide_eq_true (by kernel_rfl)) (by unfold Func.isWrapper; first | (rw [if_pos (by decide +kernel)]; kernel_rfl) | (rw [if_neg (by decide +kernel)]; exact ⟨rfl, rfl⟩))
    (fun os started H enc _ F => lifted os started H enc F)
end Go.Proofs.Ytchdoignomidjaa.values
namespace Go.Proofs.Ytchdoignomidjaa
theorem linearValues_holds : Rows.LinearValuesUptoSaid := values.over
#print axioms linearValues_holds
end Go.Proofs.Ytchdoignomidjaa
