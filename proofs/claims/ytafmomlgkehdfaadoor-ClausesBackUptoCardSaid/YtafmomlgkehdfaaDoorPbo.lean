/- ClausesBack: for every number of atoms and every clauses that hold together at most 1048576 values, Parse brings back what Dimacs wrote (or refuses it, where there are more than 999999999 atoms); where Dimacs refuses it tells no text; the arguments read as they did. The card ties the listed tables and errors of the library to the program's text. -/
import Derived.Test.YtafmomlgkehdfaaDoorPbl
import Derived.Test.YtafmomlgkehdfaaDoorCards
import Derived.Test.YtafmomlgkehdfaaDoorTie
import Derived.WalkKit
import Derived.ProofKit
import Derived.OpenShut
import Derived.ChangeOld
import Derived.Deep.DeepHandedRow
import Derived.Deep.DeepWitnessRowRef
import Derived.Lib.LaidTab
import Derived.Stop.LaidErr
set_option linter.unusedVariables false
set_option linter.unusedSimpArgs false
namespace Go.Proofs.YtafmomlgkehdfaaDoor.back
open Go.ChangeShapes Go.WideShapes Go.ChangeAt Go.RowKit
open Go.Proofs.YtafmomlgkehdfaaDoor.F

theorem bulk_one {H : Type} (d : DataW H) : 1 ≤ Rows.uptoBulk d := by
  cases d with
  | lit l => cases l <;> simp [Rows.uptoBulk]
  | nil => simp [Rows.uptoBulk]
  | ptr d => simp [Rows.uptoBulk]
  | slice elems spare => simp [Rows.uptoBulk]
  | agg parts => simp [Rows.uptoBulk]
  | iface t d => simp [Rows.uptoBulk]
  | map entries => simp [Rows.uptoBulk]
  | held h => simp [Rows.uptoBulk]
theorem bulk_list {α : Type} {H : Type} {ok : α → DataW H → Prop} {g : α → Nat} (h : ∀ x d, ok x d → g x ≤ Rows.uptoBulk d) (xs : List α) (el : List (DataW H)) (hl : el.length = xs.length) (he : ∀ i (h : i < xs.length) (h' : i < el.length), ok xs[i] el[i]) : (xs.map g).sum ≤ Rows.uptoBulkAll el := by
  induction xs generalizing el with
  | nil => simp
  | cons x xs ih =>
    cases el with
    | nil => simp at hl
    | cons d el =>
      have h0 := h x d (he 0 (by simp) (by simp))
      have h1 := ih el (by simpa using hl) (fun i hi hi' => he (i + 1) (by simp; omega) (by simp; omega))
      simp only [List.map_cons, List.sum_cons, Rows.uptoBulkAll]
      omega
theorem bulk_slice {α : Type} {H : Type} {ok : α → (H : Type) → DataW H → Prop} {g : α → Nat} (h : ∀ x d, ok x H d → g x ≤ Rows.uptoBulk d) {xs : List α} {d : DataW H} (hk : okSlice ok xs H d) : (xs.map g).sum + 1 ≤ Rows.uptoBulk d := by
  rcases hk with ⟨rfl, rfl⟩ | ⟨el, sp, rfl, hl, he⟩
  · simp [Rows.uptoBulk]
  · have := bulk_list (ok := fun x d => ok x H d) h xs el hl he
    simp only [Rows.uptoBulk]
    omega
theorem ok_mem {α : Type} {H : Type} {ok : α → (H : Type) → DataW H → Prop} {xs : List α} {d : DataW H} (h : okSlice ok xs H d) {x : α} (hx : x ∈ xs) : ∃ d, ok x H d := by
  rcases h with ⟨rfl, _⟩ | ⟨el, sp, _, hl, h⟩
  · cases hx
  · obtain ⟨i, hi, rfl⟩ := List.getElem_of_mem hx
    exact ⟨_, h i hi (by omega)⟩
theorem le_sum {α : Type} {g : α → Nat} {xs : List α} {x : α} (h : x ∈ xs) : g x ≤ (xs.map g).sum := by
  induction xs with
  | nil => cases h
  | cons y xs ih =>
    simp only [List.map_cons, List.sum_cons]
    rcases List.mem_cons.1 h with rfl | h
    · omega
    · have := ih h; omega

theorem prog_laid : laidOutB Tryd.prog = true := by kernel_rfl
theorem own : ownKnob Tryd.prog.godebug = none := by kernel_rfl
theorem gTab : Tryd.prog.globalNamed "internal/strconv.uint64pow10" = some 0 := by kernel_rfl
theorem gTabType : (Tryd.prog.globals[0]?).map (·.type) = some 104 := by kernel_rfl
theorem cellsT : Tryd.prog.cellsOf 104 = 20 := by kernel_rfl
theorem cellsE : Tryd.prog.cellsOf 68 = 1 := by kernel_rfl
theorem table {W : World} (h : laidMetH Tryd.prog Rows.clausesBackUptoRow.laid W) : Lib.TabIs Tryd.prog W "internal/strconv.uint64pow10" .u64 Lib.pow10Tab :=
  Lib.tabIs_of_head gTab gTabType Tryd.underlying104 Tryd.underlying68 cellsE cellsT (laidMet.tail (laidMet.tail (show laidMet Tryd.prog Rows.clausesBackUptoRow.laid W from h)))

theorem opens_clauses : Opens Tryd.prog 22 (Knd.int .i64).slice.slice (okSlice (okSlice (okInt .i64))) :=
  opens_slice Tryd.underlying22 (by kernel_rfl) (opens_slice Tryd.underlying32 (by kernel_rfl) (opens_int Tryd.underlying3))

set_option maxRecDepth 100000 in
theorem contract (H : Type) (enc : TypeId × Value → H) (W : World) (base : Nat) (args : Array Value) (ds gs : List (DataW H)) (before : List MemPlace)
    (hval : ∀ (j : Nat) t v, Tryd.f5.params[j]? = some t → args[j]? = some v → Value.okWide Tryd.prog W .any base t v)
    (hW : DataW.Whole enc Tryd.prog Tryd.f5.params.toList Rows.clausesBackSpec.vars false W args.toList ds gs before) (hk : Rows.uptoSmall H (ds ++ gs) = true)
    (hL : laidMetH Tryd.prog Rows.clausesBackUptoRow.laid W) (hSh : W.ShapedOpen Tryd.prog) :
    Calls Tryd.prog 5 args W fun e W' => ∃ v, e = .returned v ∧ Rows.clausesBackSpec.post enc Tryd.prog Tryd.f5 false true false false W args v W' := by
  have hW' := hW
  obtain ⟨p, q, hA0, hV, rfl, hfz, hnd⟩ := hW'
  have hA : DataW.TrodAll enc Tryd.prog W 0 (fun _ => true) true Tryd.f5.params.toList args.toList ds p := hA0
  rw [Tryd.params5] at hA hval
  obtain ⟨v0, vs0, d0, ds0, p0, q0, hargs, rfl, rfl, h0, r0⟩ := trodAll_cons hA
  obtain ⟨v1, vs1, d1, ds1, p1, q1, rfl, rfl, rfl, h1, r1⟩ := trodAll_cons r0
  obtain ⟨rfl, rfl, rfl⟩ := trodAll_nil r1
  obtain rfl : args = #[v0, v1] := by cases args; simp_all
  obtain ⟨rfl, rfl⟩ := trodVars_none hV
  obtain ⟨n0, rfl⟩ := okWide_int Tryd.underlying3 (hval 0 3 v0 rfl rfl)
  obtain ⟨a1, len1, cap1, rfl⟩ := okWide_slice Tryd.underlying22 (hval 1 22 v1 rfl rfl)
  have k0 := h0
  have lt0 : ∀ x ∈ p0, x.block < W.heap.size := by obtain ⟨m, hm⟩ := k0; exact DataW.trod_lt m _ _ _ hm
  obtain ⟨m0, g0⟩ := h0
  obtain ⟨a, hC0, ok0⟩ := opens_int (k := .i64) Tryd.underlying3 H enc W m0 _ _ g0
  have k1 := h1
  have lt1 : ∀ x ∈ p1, x.block < W.heap.size := by obtain ⟨m, hm⟩ := k1; exact DataW.trod_lt m _ _ _ hm
  obtain ⟨m1, g1⟩ := h1
  obtain ⟨l, hC1, ok1'⟩ := opens_clauses H enc W m1 _ _ g1
  have ok1 : okSlice (okSlice (okInt .i64)) l H d1 := ok1'
  have hb : Rows.uptoBulkAll (H := H) [d0, d1] ≤ 1048576 := by
    have h2 := of_decide_eq_true hk
    simpa only [List.append_nil] using h2
  simp only [Rows.uptoBulkAll] at hb
  have e0 : (Value.cells (.int .i64 n0)).toList = [.int .i64 a] := hC0
  simp [Value.cells] at e0
  subst e0
  obtain ⟨A1, c1, e1, hc1, hm1, hr1⟩ := hC1
  simp [Value.cells] at e1
  obtain ⟨rfl, rfl, rfl⟩ := e1
  have hin : ∀ {x : Int} {d : DataW H}, okInt .i64 x H d → inI x := fun {x d} h => by
    have := h.1
    simp [Lit.wf, IntKind.min, IntKind.max, IntKind.signed, IntKind.bits] at this
    exact ⟨by omega, by omega⟩
  have w1 : (l.map fun c => c.length + 1).sum + 1 ≤ Rows.uptoBulk d1 := bulk_slice (g := fun c : List Int => c.length + 1) (ok := okSlice (okInt .i64)) (fun c d h => by
    have := bulk_slice (g := fun _ => 1) (fun x d _ => bulk_one d) h
    rwa [List.map_const', List.sum_replicate_nat, Nat.mul_one] at this) ok1
  have w2 : l.length ≤ Rows.uptoBulk d1 := by
    have := bulk_slice (g := fun _ => 1) (fun x d _ => bulk_one d) ok1
    rw [List.map_const', List.sum_replicate_nat, Nat.mul_one] at this
    omega
  obtain ⟨m, hmx⟩ := maxLen_is W hSh
  have hlaw := law_Back n0 (hin ok0) l (fun c hc x hx => by
    obtain ⟨d, hd⟩ := ok_mem ok1 hc
    obtain ⟨d', hd'⟩ := ok_mem hd hx
    exact hin hd') a1 cap1 W hr1 (by omega) (fun c hc => by
    have := le_sum (g := fun c : List Int => c.length + 1) hc
    omega) (by omega) (Lib.tabBelow_of_tabIs (table hL)) m hmx
  refine hlaw.mono fun e W' ⟨he, bel⟩ => ?_
  subst he
  exact ⟨_, rfl, _, _, _, [], _, [], hW, trodAll_mk1 (shut_bool Tryd.underlying4 _), (trodAll_cons_mk (Below.trod prog_laid (by kernel_rfl) (of_decide_eq_true (by kernel_rfl)) k0 bel lt0) (trodAll_cons_mk (Below.trod prog_laid (by kernel_rfl) (of_decide_eq_true (by kernel_rfl)) k1 bel lt1) trodAll_mk0)), rfl, bel.frame _, fun h => by cases h⟩

/-- the cells of a table -/
def row1 : DataW Unit → List Value
  | .agg l => l.map fun
    | .lit (.int k n) => Value.int k n
    | _ => undef
  | _ => []
def row2 : DataW Unit → List Value
  | .agg l => l.flatMap row1
  | _ => []
def put (cs : List Value) : Obj → Obj
  | .cells _ t frozen => .cells cs.toArray t frozen
  | o => o
def text : DataW Unit → List Value
  | .iface _ (.ptr (.agg [.lit (.string s)])) => [.string ⟨s.toArray⟩]
  | _ => []
noncomputable def heap0 (os : Os) : Array Obj := (World.holding Tryd.prog os ⟨#[], #[], []⟩).heap
noncomputable def laidWorld (os : Os) : World :=
  { World.holding Tryd.prog os ⟨#[], #[], []⟩ with heap := (((((((((heap0 os).modify 0 (put (row1 Rows.laid_internal_strconv_uint64pow10))).modify 2 (put (row1 Rows.laid_unicode_utf8_first))).modify 3 (put (row2 Rows.laid_unicode_utf8_acceptRanges))).modify 6 (put (row1 Rows.laid_math_bits_deBruijn32tab))).modify 7 (put (row1 Rows.laid_math_bits_deBruijn64tab))).modify 4 (put [.iface 133 (.pointer (some ⟨(heap0 os).size, 0, none⟩))])).modify 5 (put [.iface 133 (.pointer (some ⟨(heap0 os).size + 1, 0, none⟩))])).push (.cells (text Rows.laid_strconv_ErrSyntax).toArray 135 (0, 0))).push (.cells (text Rows.laid_strconv_ErrRange).toArray 135 (0, 0)) }
theorem laid_met (os : Os) : laidMet Tryd.prog Rows.clausesBackUptoRow.laid ((laidWorld os).forCall (fun _ _ => 0) ⟨#[], #[.int .i64 0, .slice none 0 0], []⟩).memory :=
  laidMet_of_run' 8 (by kernel_rfl) (by kernel_rfl)
theorem witness_row (os : Os) {H : Type} (enc : TypeId × Value → H) :
    (Rows.OpenSpec.upto Rows.clausesBackSpec).preRow enc Tryd.prog Tryd.f5 Rows.clausesBackUptoRow.domain false Rows.clausesBackUptoRow.laid ((laidWorld os).forCall (fun _ _ => 0) ⟨#[], #[.int .i64 0, .slice none 0 0], []⟩).memory #[.int .i64 0, .slice none 0 0] := by
  have hw : (DataW.whole enc Tryd.prog ((laidWorld os).forCall (fun _ _ => 0) ⟨#[], #[.int .i64 0, .slice none 0 0], []⟩).memory Tryd.f5.params.toList Rows.clausesBackSpec.vars false #[Value.int .i64 0, .slice none 0 0].toList 8).map (fun x => (x.1, x.2.1)) =
      some ([.lit (.int .i64 0), .nil], []) := by kernel_rfl
  obtain ⟨⟨x1, x2, x3⟩, hx, hx1⟩ := Option.map_eq_some_iff.1 hw
  simp only [Prod.mk.injEq] at hx1
  obtain ⟨rfl, rfl⟩ := hx1
  exact OpenSpec.preRow_of_cond 8 hx (by kernel_rfl) (fun k hk => by cases hk; kernel_rfl) (by kernel_rfl) (laid_met os)

set_option maxRecDepth 100000 in
theorem lifted (os : Os) (started : os.Started) (H : Type) (enc : TypeId × Value → H) (F : Stop.Interp) :
    ReturnsInHanded {} Tryd.checked os 5 .any ((Rows.OpenSpec.upto Rows.clausesBackSpec).preRow enc Tryd.prog Tryd.f5 Rows.clausesBackUptoRow.domain false Rows.clausesBackUptoRow.laid) (((Rows.OpenSpec.upto Rows.clausesBackSpec).at F).post enc Tryd.prog Tryd.f5 false true false false) := by
  refine returnsInHanded_of_row (C := Tryd.checked) (s := Rows.OpenSpec.upto Rows.clausesBackSpec) own started (by kernel_rfl) Tryd.func5
    (witness_row_atRef (enc := enc) (C := Tryd.checked) false (laidWorld os) #[.int .i64 0, .slice none 0 0] rfl (by kernel_rfl) (by kernel_rfl) (by kernel_rfl) (witness_row os enc)) ?_
  intro W base args ds gs before hval hW _ hcond _ hL hSh _
  exact contract H enc W base args ds gs before hval hW (hcond _ rfl) hL hSh

theorem saidUpto : Rows.ClausesBackUptoSaid :=
  OpenClaim.holds_of_cond 5 Tryd.f5 rfl rfl rfl rfl rfl rfl rfl ⟨rfl, rfl, rfl, rfl, rfl⟩ rfl rfl rfl rfl rfl (by kernel_rfl) Tryd.func5 (by kernel_rfl)
    (of_decide_eq_true (by kernel_rfl)) (by unfold Func.isWrapper; first | (rw [if_pos (by decide +kernel)]; kernel_rfl) | (rw [if_neg (by decide +kernel)]; exact ⟨rfl, rfl⟩))
    (fun os started H enc _ F => by rw [OpenClaim.pre_eq_preRow]; exact lifted os started H enc F)

theorem plain (f : FuncId) (fn : Func) (hf : Tryd.pinned.checked.prog.funcNamed "fulcrum/fulcrumlaw18.ClausesBack" = some f) (hfn : Tryd.pinned.checked.prog.funcs[f]? = some fn) :
    true = Tryd.pinned.checked.prog.looks [] ∧ ∀ (j : Nat) t, fn.params[j]? = some t → Tryd.pinned.checked.prog.wantsStandIn t = false := by
  obtain rfl : f = 5 := Option.some.inj ((show Tryd.prog.funcNamed "fulcrum/fulcrumlaw18.ClausesBack" = some 5 by kernel_rfl).symm.trans hf) |>.symm
  obtain rfl : fn = Tryd.f5 := (Option.some.inj (Tryd.func5.symm.trans hfn)).symm
  refine ⟨by kernel_rfl, fun j t ht => ?_⟩
  rw [Tryd.params5] at ht
  have ht' := Array.mem_of_getElem? ht
  have : t = 3 ∨ t = 22 := by simpa using ht'
  rcases this with rfl | rfl
  · exact (show Tryd.prog.wantsStandIn 3 = false by kernel_rfl)
  · exact (show Tryd.prog.wantsStandIn 22 = false by kernel_rfl)

theorem card : Rows.ClausesBackUptoCardSaid :=
  Claim7.holds_tied_plain_at .later [] _ _ _ _ saidUpto (fun _ h => by cases h) (by kernel_rfl) (fun _ h => by cases h) clausesBackUpto_row_tie rfl ⟨rfl, rfl⟩ (by kernel_rfl) rfl plain (by kernel_rfl)
end Go.Proofs.YtafmomlgkehdfaaDoor.back
namespace Go.Proofs.YtafmomlgkehdfaaDoor
theorem clausesBack_holds : Rows.ClausesBackUptoCardSaid := back.card
#print axioms clausesBack_holds
end Go.Proofs.YtafmomlgkehdfaaDoor
