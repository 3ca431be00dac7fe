/- TermsNobody: whatever call it is, a bank that is nil or that nobody made refuses it. No condition beyond the form's own. -/
import Derived.Test.YtelpmfpdddipeaaGreatDoorCards
import Derived.Test.YtelpmfpdddipeaaGreatDoorTie
import Derived.Test.YtelpmfpdddipeaaGreatDoorLaw
import Derived.WalkKit
import Derived.ProofKit
import Derived.OpenShut
import Derived.ChangeOld
import Derived.Deep.DeepHandedRow
import Derived.Deep.DeepWitnessRowRef
import Derived.Lib.LaidTab
set_option linter.unusedVariables false
set_option linter.unusedSimpArgs false
namespace Go.Proofs.YtelpmfpdddipeaaGreatDoor.nobody
open Go.ChangeShapes Go.WideShapes Go.ChangeAt Go.RowKit

theorem own : ownKnob Tryz.prog.godebug = none := by kernel_rfl
theorem laidOut : laidOutB Tryz.prog = true := by kernel_rfl
theorem one_of {P : Program} {w : World} {r : Reach} {base : Nat} {u : TypeId} {v : Value} (h : Cell.okWide P w r base u v) : v.oneCell' = true := by
  cases v with
  | agg cs => exfalso; unfold Cell.okWide Cell.ok at h; cases hu : P.underlying u with
    | none => simp [hu] at h
    | some d => cases d <;> simp [hu] at h
  | tuple cs => exfalso; unfold Cell.okWide Cell.ok at h; cases hu : P.underlying u with
    | none => simp [hu] at h
    | some d => cases d <;> simp [hu] at h
  | _ => rfl
theorem nineteen {l : List Value} (h : l.length = 19) : ∃ o0 o1 o2 o3 o4 o5 o6 o7 o8 o9 o10 o11 o12 o13 o14 o15 o16 o17 o18, l = [o0, o1, o2, o3, o4, o5, o6, o7, o8, o9, o10, o11, o12, o13, o14, o15, o16, o17, o18] := by
  match l, h with
  | [o0, o1, o2, o3, o4, o5, o6, o7, o8, o9, o10, o11, o12, o13, o14, o15, o16, o17, o18], _ => exact ⟨o0, o1, o2, o3, o4, o5, o6, o7, o8, o9, o10, o11, o12, o13, o14, o15, o16, o17, o18, rfl⟩

set_option maxRecDepth 100000 in
theorem contract (H : Type) (enc : TypeId × Value → H) (W : World) (base : Nat) (args : Array Value) (ds gs : List (DataW H)) (before : List MemPlace)
    (hval : ∀ (j : Nat) t v, Tryz.f3.params[j]? = some t → args[j]? = some v → Value.okWide Tryz.prog W .any base t v)
    (hW : DataW.Whole enc Tryz.prog Tryz.f3.params.toList Rows.termsNobodySpec.vars false W args.toList ds gs before) :
    Calls Tryz.prog 3 args W fun e W' => ∃ v, e = .returned v ∧ Rows.termsNobodySpec.post enc Tryz.prog Tryz.f3 false true false false W args v W' := by
  have hW' := hW
  obtain ⟨p, q, hA0, hV, rfl, hfz, hnd⟩ := hW
  have hA : DataW.TrodAll enc Tryz.prog W 0 (fun _ => true) true Tryz.f3.params.toList args.toList ds p := hA0
  rw [Tryz.params3] at hA hval
  obtain ⟨v0, vs0, d0, ds0, p0, q0, hargs, rfl, rfl, h0, r0⟩ := trodAll_cons hA
  obtain ⟨rfl, rfl, rfl⟩ := trodAll_nil r0
  obtain rfl : args = #[v0] := by cases args; simp_all
  obtain ⟨rfl, rfl⟩ := trodVars_none hV
  have k0 := h0
  have lt0 : ∀ x ∈ p0, x.block < W.heap.size := by obtain ⟨m, hm⟩ := k0; exact DataW.trod_lt m _ _ _ hm
  have c38 : Tryz.prog.cellsOf 38 = 19 := by kernel_rfl
  have hv0 := hval 0 38 v0 rfl rfl
  simp only [Value.okWide, Tryz.underlying38] at hv0
  obtain ⟨cs, rfl, hsz, hrow⟩ := hv0
  rw [c38] at hsz
  obtain ⟨cs⟩ := cs
  obtain ⟨o0, o1, o2, o3, o4, o5, o6, o7, o8, o9, o10, o11, o12, o13, o14, o15, o16, o17, o18, rfl⟩ := nineteen (by simpa using hsz)
  have hone : ∀ v ∈ [o0, o1, o2, o3, o4, o5, o6, o7, o8, o9, o10, o11, o12, o13, o14, o15, o16, o17, o18], v.oneCell' = true := by
    intro v hv
    obtain ⟨ts, _, _, hc⟩ := hrow
    obtain ⟨i, hi, rfl⟩ := List.getElem_of_mem hv
    obtain ⟨u, _, h1⟩ := hc i _ (List.getElem?_toArray.trans (List.getElem?_eq_getElem hi))
    exact one_of h1
  obtain ⟨m0, g0⟩ := h0
  obtain ⟨xs, n, rfl, _, hlen, hxl, hg⟩ := DataW.trod_struct Tryz.underlying38 g0
  have h5 := hg 5 _ rfl
  have c36 : Tryz.prog.cellsOf 36 = 7 := by kernel_rfl
  change DataW.trod enc Tryz.prog W 0 (fun _ => true) true n 36 ((([o0, o1, o2, o3, o4, o5, o6, o7, o8, o9, o10, o11, o12, o13, o14, o15, o16, o17, o18] : List Value).drop 11).take (Tryz.prog.cellsOf 36)) = _ at h5
  rw [c36] at h5
  have hx5 : ∃ y, xs[5]? = some y := ⟨_, List.getElem?_eq_getElem (by rw [hxl]; decide)⟩
  obtain ⟨y, hy⟩ := hx5
  rw [hy] at h5
  have hnode : wk.NodeAt W [o11, o12, o13, o14, o15, o16, o17] := wk.node_of_trod n _ _ h5
  refine (wk.law o0 o1 o2 o3 o4 o5 o6 o7 o8 o9 o10 o11 o12 o13 o14 o15 o16 o17 o18 W hnode hone).mono fun e W' ⟨he, bel⟩ => ?_
  subst he
  exact ⟨_, rfl, _, _, _, [], _, [], hW', trodAll_mk1 (shut_bool Tryz.underlying4 _), trodAll_cons_mk (Below.trod laidOut (by kernel_rfl) (of_decide_eq_true (by kernel_rfl)) k0 bel lt0) trodAll_mk0, rfl, bel.frame _, fun h => by cases h⟩

/-- the cells of a table -/
def row1 : DataW Unit → List Value
  | .agg l => l.map fun
    | .lit (.int k n) => Value.int k n
    | _ => undef
  | _ => []
def row2 : DataW Unit → List Value
  | .agg l => l.flatMap row1
  | _ => []
def put (cs : List Value) : Obj → Obj
  | .cells _ t frozen => .cells cs.toArray t frozen
  | o => o
def text : DataW Unit → List Value
  | .iface _ (.ptr (.agg [.lit (.string s)])) => [.string ⟨s.toArray⟩]
  | _ => []
noncomputable def heap0 (os : Os) : Array Obj := (World.holding Tryz.prog os ⟨#[], #[], []⟩).heap
noncomputable def laidWorld (os : Os) : World :=
  { World.holding Tryz.prog os ⟨#[], #[], []⟩ with heap := ((((((((((heap0 os).modify 0 (put (row1 Rows.laid_fulcrum_nat_values))).modify 1 (put (row1 Rows.laid_internal_strconv_uint64pow10))).modify 4 (put (row1 Rows.laid_unicode_utf8_first))).modify 5 (put (row2 Rows.laid_unicode_utf8_acceptRanges))).modify 8 (put (row1 Rows.laid_math_bits_deBruijn32tab))).modify 9 (put (row1 Rows.laid_math_bits_deBruijn64tab))).modify 6 (put [.iface 290 (.pointer (some ⟨(heap0 os).size, 0, none⟩))])).modify 7 (put [.iface 290 (.pointer (some ⟨(heap0 os).size + 1, 0, none⟩))])).push (.cells (text Rows.laid_strconv_ErrSyntax).toArray 292 (0, 0))).push (.cells (text Rows.laid_strconv_ErrRange).toArray 292 (0, 0)) }
abbrev arg0 : Value := .agg #[.int .i64 0, .int .i64 0, .int .i64 0, .string { data := #[] }, .bool false, .slice none 0 0, .slice none 0 0, .slice none 0 0, .string { data := #[] }, .int .i64 0, .slice none 0 0, .int .i64 0, .string { data := #[] }, .int .i64 0, .int .i64 0, .int .i64 0, .int .i64 0, .slice none 0 0, .int .i64 0]
theorem laid_met (os : Os) : laidMet Tryz.prog Rows.termsNobodyRow.laid ((laidWorld os).forCall (fun _ _ => 0) ⟨#[], #[arg0], []⟩).memory :=
  laidMet_of_run' 8 (by kernel_rfl) (by kernel_rfl)
theorem witness_row (os : Os) {H : Type} (enc : TypeId × Value → H) :
    (OpenSpec.ofChange Rows.termsNobodySpec).preRow enc Tryz.prog Tryz.f3 Rows.termsNobodyRow.domain false Rows.termsNobodyRow.laid ((laidWorld os).forCall (fun _ _ => 0) ⟨#[], #[arg0], []⟩).memory #[arg0] := by
  have hw : (DataW.whole enc Tryz.prog ((laidWorld os).forCall (fun _ _ => 0) ⟨#[], #[arg0], []⟩).memory Tryz.f3.params.toList Rows.termsNobodySpec.vars false #[arg0].toList 8).map (fun x => (x.1, x.2.1)) =
      some ([.agg [.lit (.int .i64 0), .agg [.lit (.int .i64 0), .lit (.int .i64 0), .lit (.string []), .agg [.agg [.lit (.bool false), .nil], .nil], .nil], .lit (.string []), .lit (.int .i64 0), .nil, .agg [.agg [.lit (.int .i64 0), .lit (.string []), .lit (.int .i64 0), .lit (.int .i64 0), .lit (.int .i64 0), .lit (.int .i64 0)], .nil], .lit (.int .i64 0)]], []) := by kernel_rfl
  obtain ⟨⟨x1, x2, x3⟩, hx, hx1⟩ := Option.map_eq_some_iff.1 hw
  simp only [Prod.mk.injEq] at hx1
  obtain ⟨rfl, rfl⟩ := hx1
  exact OpenSpec.preRow_of_cond 8 hx (by kernel_rfl) (fun k hk => by cases hk) (by kernel_rfl) (laid_met os)

set_option maxRecDepth 100000 in
theorem lifted (os : Os) (started : os.Started) (H : Type) (enc : TypeId × Value → H) (F : Stop.Interp) :
    ReturnsInHanded {} Tryz.checked os 3 .any ((OpenSpec.ofChange Rows.termsNobodySpec).preRow enc Tryz.prog Tryz.f3 Rows.termsNobodyRow.domain false Rows.termsNobodyRow.laid) (((OpenSpec.ofChange Rows.termsNobodySpec).at F).post enc Tryz.prog Tryz.f3 false true false false) := by
  refine returnsInHanded_of_row (C := Tryz.checked) (s := OpenSpec.ofChange Rows.termsNobodySpec) own started (by kernel_rfl) Tryz.func3
    (witness_row_atRef (enc := enc) (C := Tryz.checked) false (laidWorld os) #[arg0] rfl (by kernel_rfl) (by kernel_rfl) (by kernel_rfl) (witness_row os enc)) ?_
  intro W base args ds gs before hval hW _ _ _ hL _ _
  exact contract H enc W base args ds gs before hval hW

theorem said : Rows.TermsNobodySaid :=
  OpenClaim.holds_of_cond 3 Tryz.f3 rfl rfl rfl rfl rfl rfl rfl ⟨rfl, rfl, rfl, rfl, rfl⟩ rfl rfl rfl rfl rfl (by kernel_rfl) Tryz.func3 (by kernel_rfl)
    (of_decide_eq_true (by kernel_rfl)) (by unfold Func.isWrapper; first | (rw [if_pos (by decide +kernel)]; kernel_rfl) | (rw [if_neg (by decide +kernel)]; exact ⟨rfl, rfl⟩))
    (fun os started H enc _ F => by rw [OpenClaim.pre_eq_preRow]; exact lifted os started H enc F)

theorem plain (f : FuncId) (fn : Func) (hf : Tryz.pinned.checked.prog.funcNamed "fulcrum/fulcrumlaw14.TermsNobody" = some f) (hfn : Tryz.pinned.checked.prog.funcs[f]? = some fn) :
    true = Tryz.pinned.checked.prog.looks [] ∧ ∀ (j : Nat) t, fn.params[j]? = some t → Tryz.pinned.checked.prog.wantsStandIn t = false := by
  obtain rfl : f = 3 := Option.some.inj ((show Tryz.prog.funcNamed "fulcrum/fulcrumlaw14.TermsNobody" = some 3 by kernel_rfl).symm.trans hf) |>.symm
  obtain rfl : fn = Tryz.f3 := (Option.some.inj (Tryz.func3.symm.trans hfn)).symm
  refine ⟨by kernel_rfl, fun j t ht => ?_⟩
  rw [Tryz.params3] at ht
  obtain rfl : t = 38 := by simpa using Array.mem_of_getElem? ht
  exact (show Tryz.prog.wantsStandIn 38 = false by kernel_rfl)

theorem card : Rows.TermsNobodyCardSaid :=
  Claim7.holds_tied_plain_at .later [] _ _ _ _ said (fun _ h => by cases h) (by kernel_rfl) (fun _ h => by cases h) termsNobody_row_tie rfl ⟨rfl, rfl⟩ (by kernel_rfl) rfl plain (by kernel_rfl)
end Go.Proofs.YtelpmfpdddipeaaGreatDoor.nobody
namespace Go.Proofs.YtelpmfpdddipeaaGreatDoor
theorem termsNobody_holds : Rows.TermsNobodyCardSaid := nobody.card
#print axioms termsNobody_holds
end Go.Proofs.YtelpmfpdddipeaaGreatDoor
