/- ClausesDimacs: for every number of atoms and every clauses that hold together at most 1048576 values, the text that Dimacs writes is the reference's, or both refuse; the arguments read as they did. The card ties the listed tables of the library to the program's text. -/
import Derived.Test.YtafmomlgkehdfaaDoorDrf
import Derived.Test.YtafmomlgkehdfaaDoorCards
import Derived.Test.YtafmomlgkehdfaaDoorTie
import Derived.WalkKit
import Derived.ProofKit
import Derived.OpenShut
import Derived.ChangeOld
import Derived.Deep.DeepHandedRow
import Derived.Lib.LaidTab
import Derived.Stop.LaidErr
set_option linter.unusedVariables false
set_option linter.unusedSimpArgs false
namespace Go.Proofs.YtafmomlgkehdfaaDoor.F
open Go.RowKit Go.Shelf

theorem bulk_one {H : Type} (d : DataW H) : 1 ≤ Rows.uptoBulk d := by
  cases d with
  | lit l => cases l <;> simp [Rows.uptoBulk]
  | nil => simp [Rows.uptoBulk]
  | ptr d => simp [Rows.uptoBulk]
  | slice elems spare => simp [Rows.uptoBulk]
  | agg parts => simp [Rows.uptoBulk]
  | iface t d => simp [Rows.uptoBulk]
  | map entries => simp [Rows.uptoBulk]
  | held h => simp [Rows.uptoBulk]
theorem bulk_list {α : Type} {H : Type} {ok : α → DataW H → Prop} {g : α → Nat} (h : ∀ x d, ok x d → g x ≤ Rows.uptoBulk d) (xs : List α) (el : List (DataW H)) (hl : el.length = xs.length) (he : ∀ i (h : i < xs.length) (h' : i < el.length), ok xs[i] el[i]) : (xs.map g).sum ≤ Rows.uptoBulkAll el := by
  induction xs generalizing el with
  | nil => simp
  | cons x xs ih =>
    cases el with
    | nil => simp at hl
    | cons d el =>
      have h0 := h x d (he 0 (by simp) (by simp))
      have h1 := ih el (by simpa using hl) (fun i hi hi' => he (i + 1) (by simp; omega) (by simp; omega))
      simp only [List.map_cons, List.sum_cons, Rows.uptoBulkAll]
      omega
theorem bulk_slice {α : Type} {H : Type} {ok : α → (H : Type) → DataW H → Prop} {g : α → Nat} (h : ∀ x d, ok x H d → g x ≤ Rows.uptoBulk d) {xs : List α} {d : DataW H} (hk : okSlice ok xs H d) : (xs.map g).sum + 1 ≤ Rows.uptoBulk d := by
  rcases hk with ⟨rfl, rfl⟩ | ⟨el, sp, rfl, hl, he⟩
  · simp [Rows.uptoBulk]
  · have := bulk_list (ok := fun x d => ok x H d) h xs el hl he
    simp only [Rows.uptoBulk]
    omega
theorem ok_mem {α : Type} {H : Type} {ok : α → (H : Type) → DataW H → Prop} {xs : List α} {d : DataW H} (h : okSlice ok xs H d) {x : α} (hx : x ∈ xs) : ∃ d, ok x H d := by
  rcases h with ⟨rfl, _⟩ | ⟨el, sp, _, hl, h⟩
  · cases hx
  · obtain ⟨i, hi, rfl⟩ := List.getElem_of_mem hx
    exact ⟨_, h i hi (by omega)⟩
theorem le_sum {α : Type} {g : α → Nat} {xs : List α} {x : α} (h : x ∈ xs) : g x ≤ (xs.map g).sum := by
  induction xs with
  | nil => cases h
  | cons y xs ih =>
    simp only [List.map_cons, List.sum_cons]
    rcases List.mem_cons.1 h with rfl | h
    · omega
    · have := ih h; omega

set_option maxHeartbeats 1000000 in
set_option maxRecDepth 100000 in
theorem law_Dimacs (a : Int) (ha : inI a) (l : List (List Int)) (hx : ∀ c ∈ l, ∀ x ∈ c, inI x) (C : Option Addr) (k : Nat) (w : World) (hX : (Knd.int .i64).slice.Row w C l) (hm : l.length ≤ 1048576) (hmc : ∀ c ∈ l, c.length ≤ 1048576) (hT : TabB w.heap.size w) :
    Calls Tryd.prog 3 #[.int .i64 a, .slice C l.length k] w fun e w' => e = .returned (.bool true) ∧ Below w.heap.size w w' := by
  have hD := Lib.hid (Dimacs a ha l hx C k w hX hm hmc hT)
  have hE := Lib.hid (fun (W : World) (hb : Below w.heap.size w W) => ref_Dimacs a ha l hx C k W (hX.below hb) hm hmc)
  obtain ⟨s, n, hsn⟩ : ∃ s n, dimV a l = .tuple #[.string s, .int .i64 n] := by
    unfold dimV
    split
    · exact ⟨_, _, rfl⟩
    · exact ⟨_, _, rfl⟩
  rw [hsn] at hD hE
  clear hX hT hx hmc hsn
  go_enter Tryd.func3, Tryd.ntmps3
  go_wp2_with fail
  refine hD.out.mono ?_
  rintro e W1 ⟨rfl, q1⟩
  have HB := Lib.hid q1
  clear q1 hD
  go_wp2_with fail
  refine (hE.out _ HB.out).mono ?_
  rintro e W2 ⟨rfl, q1⟩
  replace HB := Lib.hid (HB.out.trans (q1.mono HB.out.size))
  clear q1 hE
  go_wp2
  go_ret
  exact ⟨rfl, HB.out⟩
end Go.Proofs.YtafmomlgkehdfaaDoor.F
namespace Go.Proofs.YtafmomlgkehdfaaDoor.dimacs
open Go.ChangeShapes Go.WideShapes Go.ChangeAt Go.RowKit
open Go.Proofs.YtafmomlgkehdfaaDoor.F

theorem prog_laid : laidOutB Tryd.prog = true := by kernel_rfl
theorem own : ownKnob Tryd.prog.godebug = none := by kernel_rfl
theorem gTab : Tryd.prog.globalNamed "internal/strconv.uint64pow10" = some 0 := by kernel_rfl
theorem gTabType : (Tryd.prog.globals[0]?).map (·.type) = some 104 := by kernel_rfl
theorem cellsT : Tryd.prog.cellsOf 104 = 20 := by kernel_rfl
theorem cellsE : Tryd.prog.cellsOf 68 = 1 := by kernel_rfl
theorem table {W : World} (h : laidMetH Tryd.prog Rows.clausesDimacsUptoRow.laid W) : Lib.TabIs Tryd.prog W "internal/strconv.uint64pow10" .u64 Lib.pow10Tab :=
  Lib.tabIs_of_head (rest := []) gTab gTabType Tryd.underlying104 Tryd.underlying68 cellsE cellsT (laidMet.tail (laidMet.tail (show laidMet Tryd.prog Rows.clausesDimacsUptoRow.laid W from h)))

theorem opens_clauses : Opens Tryd.prog 22 (Knd.int .i64).slice.slice (okSlice (okSlice (okInt .i64))) :=
  opens_slice Tryd.underlying22 (by kernel_rfl) (opens_slice Tryd.underlying32 (by kernel_rfl) (opens_int Tryd.underlying3))

set_option maxRecDepth 100000 in
theorem contract (H : Type) (enc : TypeId × Value → H) (W : World) (base : Nat) (args : Array Value) (ds gs : List (DataW H)) (before : List MemPlace)
    (hval : ∀ (j : Nat) t v, Tryd.f3.params[j]? = some t → args[j]? = some v → Value.okWide Tryd.prog W .any base t v)
    (hW : DataW.Whole enc Tryd.prog Tryd.f3.params.toList Rows.clausesDimacsSpec.vars false W args.toList ds gs before) (hk : Rows.uptoSmall H (ds ++ gs) = true)
    (hL : laidMetH Tryd.prog Rows.clausesDimacsUptoRow.laid W) :
    Calls Tryd.prog 3 args W fun e W' => ∃ v, e = .returned v ∧ Rows.clausesDimacsSpec.post enc Tryd.prog Tryd.f3 false true false false W args v W' := by
  have hW' := hW
  obtain ⟨p, q, hA0, hV, rfl, hfz, hnd⟩ := hW'
  have hA : DataW.TrodAll enc Tryd.prog W 0 (fun _ => true) true Tryd.f3.params.toList args.toList ds p := hA0
  rw [Tryd.params3] at hA hval
  obtain ⟨v0, vs0, d0, ds0, p0, q0, hargs, rfl, rfl, h0, r0⟩ := trodAll_cons hA
  obtain ⟨v1, vs1, d1, ds1, p1, q1, rfl, rfl, rfl, h1, r1⟩ := trodAll_cons r0
  obtain ⟨rfl, rfl, rfl⟩ := trodAll_nil r1
  obtain rfl : args = #[v0, v1] := by cases args; simp_all
  obtain ⟨rfl, rfl⟩ := trodVars_none hV
  obtain ⟨n0, rfl⟩ := okWide_int Tryd.underlying3 (hval 0 3 v0 rfl rfl)
  obtain ⟨a1, len1, cap1, rfl⟩ := okWide_slice Tryd.underlying22 (hval 1 22 v1 rfl rfl)
  have k0 := h0
  have lt0 : ∀ x ∈ p0, x.block < W.heap.size := by obtain ⟨m, hm⟩ := k0; exact DataW.trod_lt m _ _ _ hm
  obtain ⟨m0, g0⟩ := h0
  obtain ⟨a, hC0, ok0⟩ := opens_int (k := .i64) Tryd.underlying3 H enc W m0 _ _ g0
  have k1 := h1
  have lt1 : ∀ x ∈ p1, x.block < W.heap.size := by obtain ⟨m, hm⟩ := k1; exact DataW.trod_lt m _ _ _ hm
  obtain ⟨m1, g1⟩ := h1
  obtain ⟨l, hC1, ok1'⟩ := opens_clauses H enc W m1 _ _ g1
  have ok1 : okSlice (okSlice (okInt .i64)) l H d1 := ok1'
  have hb : Rows.uptoBulkAll (H := H) [d0, d1] ≤ 1048576 := by
    have h2 := of_decide_eq_true hk
    simpa only [List.append_nil] using h2
  simp only [Rows.uptoBulkAll] at hb
  have e0 : (Value.cells (.int .i64 n0)).toList = [.int .i64 a] := hC0
  simp [Value.cells] at e0
  subst e0
  obtain ⟨A1, c1, e1, hc1, hm1, hr1⟩ := hC1
  simp [Value.cells] at e1
  obtain ⟨rfl, rfl, rfl⟩ := e1
  have hin : ∀ {x : Int} {d : DataW H}, okInt .i64 x H d → inI x := fun {x d} h => by
    have := h.1
    simp [Lit.wf, IntKind.min, IntKind.max, IntKind.signed, IntKind.bits] at this
    exact ⟨by omega, by omega⟩
  have w1 : (l.map fun c => c.length + 1).sum + 1 ≤ Rows.uptoBulk d1 := bulk_slice (g := fun c : List Int => c.length + 1) (ok := okSlice (okInt .i64)) (fun c d h => by
    have := bulk_slice (g := fun _ => 1) (fun x d _ => bulk_one d) h
    rwa [List.map_const', List.sum_replicate_nat, Nat.mul_one] at this) ok1
  have w2 : l.length ≤ Rows.uptoBulk d1 := by
    have := bulk_slice (g := fun _ => 1) (fun x d _ => bulk_one d) ok1
    rw [List.map_const', List.sum_replicate_nat, Nat.mul_one] at this
    omega
  have hlaw := law_Dimacs n0 (hin ok0) l (fun c hc x hx => by
    obtain ⟨d, hd⟩ := ok_mem ok1 hc
    obtain ⟨d', hd'⟩ := ok_mem hd hx
    exact hin hd') a1 cap1 W hr1 (by omega) (fun c hc => by
    have := le_sum (g := fun c : List Int => c.length + 1) hc
    omega) (Lib.tabBelow_of_tabIs (table hL))
  refine hlaw.mono fun e W' ⟨he, bel⟩ => ?_
  subst he
  exact ⟨_, rfl, _, _, _, [], _, [], hW, trodAll_mk1 (shut_bool Tryd.underlying4 _), (trodAll_cons_mk (Below.trod prog_laid (by kernel_rfl) (of_decide_eq_true (by kernel_rfl)) k0 bel lt0) (trodAll_cons_mk (Below.trod prog_laid (by kernel_rfl) (of_decide_eq_true (by kernel_rfl)) k1 bel lt1) trodAll_mk0)), rfl, bel.frame _, fun h => by cases h⟩

/-- the cells of a table -/
def row1 : DataW Unit → List Value
  | .agg l => l.map fun
    | .lit (.int k n) => Value.int k n
    | _ => undef
  | _ => []
def put (cs : List Value) : Obj → Obj
  | .cells _ t frozen => .cells cs.toArray t frozen
  | o => o
noncomputable def laidWorld (os : Os) : World :=
  { World.holding Tryd.prog os ⟨#[], #[], []⟩ with heap := ((((World.holding Tryd.prog os ⟨#[], #[], []⟩).heap.modify 6 (put (row1 Rows.laid_math_bits_deBruijn32tab))).modify 7 (put (row1 Rows.laid_math_bits_deBruijn64tab))).modify 0 (put (row1 Rows.laid_internal_strconv_uint64pow10))) }
theorem laid_met (os : Os) : laidMet Tryd.prog Rows.clausesDimacsUptoRow.laid ((laidWorld os).forCall (fun _ _ => 0) ⟨#[], #[.int .i64 0, .slice none 0 0], []⟩).memory :=
  laidMet_of_run' 8 (by kernel_rfl) (by kernel_rfl)
theorem reads (os : Os) {H : Type} (enc : TypeId × Value → H) : ∃ places, DataW.whole enc Tryd.prog ((laidWorld os).forCall (fun _ _ => 0) ⟨#[], #[.int .i64 0, .slice none 0 0], []⟩).memory Tryd.f3.params.toList Rows.clausesDimacsSpec.vars false #[Value.int .i64 0, .slice none 0 0].toList 8 = some ([.lit (.int .i64 0), .nil], [], places) :=
  ⟨[], by kernel_rfl⟩

set_option maxRecDepth 100000 in
theorem lifted (os : Os) (started : os.Started) (H : Type) (enc : TypeId × Value → H) (F : Stop.Interp) :
    ReturnsInHanded {} Tryd.checked os 3 .any ((Rows.OpenSpec.upto Rows.clausesDimacsSpec).preRow enc Tryd.prog Tryd.f3 Rows.clausesDimacsUptoRow.domain false Rows.clausesDimacsUptoRow.laid) (((Rows.OpenSpec.upto Rows.clausesDimacsSpec).at F).post enc Tryd.prog Tryd.f3 false true false false) := by
  obtain ⟨places, hx⟩ := reads os enc
  refine returnsInHanded_of_row (C := Tryd.checked) (s := Rows.OpenSpec.upto Rows.clausesDimacsSpec) own started (by kernel_rfl) Tryd.func3
    (witness_row_at (enc := enc) (C := Tryd.checked) false (laidWorld os) #[.int .i64 0, .slice none 0 0] rfl (by kernel_rfl) (by kernel_rfl) (by kernel_rfl)
      (OpenSpec.preRow_of_cond 8 hx (by kernel_rfl) (fun k hk => by cases hk; kernel_rfl) (by kernel_rfl) (laid_met os))) ?_
  intro W base args ds gs before hval hW _ hcond _ hL _ _
  exact contract H enc W base args ds gs before hval hW (hcond _ rfl) hL

theorem saidUpto : Rows.ClausesDimacsUptoSaid :=
  OpenClaim.holds_of_cond 3 Tryd.f3 rfl rfl rfl rfl rfl rfl rfl ⟨rfl, rfl, rfl, rfl, rfl⟩ rfl rfl rfl rfl rfl (by kernel_rfl) Tryd.func3 (by kernel_rfl)
    (of_decide_eq_true (by kernel_rfl)) (by unfold Func.isWrapper; first | (rw [if_pos (by decide +kernel)]; kernel_rfl) | (rw [if_neg (by decide +kernel)]; exact ⟨rfl, rfl⟩))
    (fun os started H enc _ F => by rw [OpenClaim.pre_eq_preRow]; exact lifted os started H enc F)

theorem plain (f : FuncId) (fn : Func) (hf : Tryd.pinned.checked.prog.funcNamed "fulcrum/fulcrumlaw18.ClausesDimacs" = some f) (hfn : Tryd.pinned.checked.prog.funcs[f]? = some fn) :
    true = Tryd.pinned.checked.prog.looks [] ∧ ∀ (j : Nat) t, fn.params[j]? = some t → Tryd.pinned.checked.prog.wantsStandIn t = false := by
  obtain rfl : f = 3 := Option.some.inj ((show Tryd.prog.funcNamed "fulcrum/fulcrumlaw18.ClausesDimacs" = some 3 by kernel_rfl).symm.trans hf) |>.symm
  obtain rfl : fn = Tryd.f3 := (Option.some.inj (Tryd.func3.symm.trans hfn)).symm
  refine ⟨by kernel_rfl, fun j t ht => ?_⟩
  rw [Tryd.params3] at ht
  have ht' := Array.mem_of_getElem? ht
  have : t = 3 ∨ t = 22 := by simpa using ht'
  rcases this with rfl | rfl
  · exact (show Tryd.prog.wantsStandIn 3 = false by kernel_rfl)
  · exact (show Tryd.prog.wantsStandIn 22 = false by kernel_rfl)

theorem card : Rows.ClausesDimacsUptoCardSaid :=
  Claim7.holds_tied_plain_at .later [] _ _ _ _ saidUpto (fun _ h => by cases h) (by kernel_rfl) (fun _ h => by cases h) clausesDimacsUpto_row_tie rfl ⟨rfl, rfl⟩ (by kernel_rfl) rfl plain (by kernel_rfl)
end Go.Proofs.YtafmomlgkehdfaaDoor.dimacs
namespace Go.Proofs.YtafmomlgkehdfaaDoor
theorem clausesDimacs_holds : Rows.ClausesDimacsUptoCardSaid := dimacs.card
#print axioms clausesDimacs_holds
end Go.Proofs.YtafmomlgkehdfaaDoor
