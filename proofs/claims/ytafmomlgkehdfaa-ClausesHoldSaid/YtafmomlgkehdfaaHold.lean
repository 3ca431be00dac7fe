/- ClausesHold: for every list of clauses and every list of values, clauses.Holds tells what the reference tells; the arguments read as they did. No condition beyond the form's own. -/
import Derived.Test.YtafmomlgkehdfaaRows
import Derived.Test.YtafmomlgkehdfaaWalks
import Derived.Test.YtafmomlgkehdfaaO
import Derived.ProofKit
import Derived.OpenShut
import Derived.ChangeOld
import Derived.SizedLaws
set_option linter.unusedVariables false
namespace Go.Proofs.Ytafmomlgkehdfaa.hold
open Go.ChangeShapes Go.WideShapes Go.ChangeAt Go.RowKit
open Go.Proofs.Ytafmomlgkehdfaa.F

theorem own : ownKnob Try.prog.godebug = none := by kernel_rfl
theorem laidOut : laidOutB Try.prog = true := by kernel_rfl
theorem cells3 : Try.prog.cellsOf 3 = 1 := by kernel_rfl
theorem cells4 : Try.prog.cellsOf 4 = 1 := by kernel_rfl
theorem cells30 : Try.prog.cellsOf 30 = 1 := by kernel_rfl

theorem opens22 : Opens Try.prog 22 (Knd.int .i64).slice.slice (okSlice (okSlice (okInt .i64))) :=
  opens_slice Try.underlying22 cells30 (opens_slice Try.underlying30 cells3 (opens_int Try.underlying3))
theorem opens23 : Opens Try.prog 23 Knd.bool.slice (okSlice okBool) := opens_slice Try.underlying23 cells4 (opens_bool Try.underlying4)

theorem inI_of {a : Int} (h : (Lit.int .i64 a).wf = true) : wk.inI a := by
  simpa [Lit.wf, IntKind.min, IntKind.max, IntKind.signed, IntKind.bits, wk.inI] using h

theorem ok_in {xs : List (List Int)} {H : Type} {d : DataW H} (h : okSlice (okSlice (okInt .i64)) xs H d) : ∀ c ∈ xs, ∀ x ∈ c, wk.inI x := by
  intro c hc x hx
  rcases h with ⟨rfl, _⟩ | ⟨el, sp, _, hl, h⟩
  · cases hc
  · obtain ⟨i, hi, rfl⟩ := List.getElem_of_mem hc
    rcases h i hi (by omega) with ⟨e, _⟩ | ⟨el', sp', _, hl', h'⟩
    · rw [e] at hx; cases hx
    · obtain ⟨j, hj, rfl⟩ := List.getElem_of_mem hx
      exact inI_of (h' j hj (by omega)).1

set_option maxRecDepth 100000 in
theorem lifted (os : Os) (started : os.Started) (H : Type) (enc : TypeId × Value → H) :
    ReturnsInHanded {} Try.checked os 3 .any (Rows.clausesHoldSpec.pre6 enc Try.prog Try.f3 Rows.clausesHoldRow.domain false) (Rows.clausesHoldSpec.post enc Try.prog Try.f3 false true false false) := by
  refine returnsInHanded_of_change_sized (C := Try.checked) own started (by kernel_rfl) Try.func3
    (ChangeSpec.witness6 (enc := enc) (C := Try.checked) false ⟨#[], #[.slice none 0 0, .slice none 0 0], []⟩ 8 (by kernel_rfl) (by kernel_rfl) (by kernel_rfl) (by kernel_rfl)) ?_
  intro W base args ds gs before hval0 hW hcnd hsz0 _
  have hval : ∀ (j : Nat) t v, Try.f3.params[j]? = some t → args[j]? = some v → Value.okWide Try.prog W .any base t v := hval0
  have hW' := hW
  obtain ⟨p, q, hA0, hV, rfl, hfz, hnd⟩ := hW
  have hA : DataW.TrodAll enc Try.prog W 0 (fun _ => true) true Try.f3.params.toList args.toList ds p := hA0
  rw [Try.params3] at hA hval
  obtain ⟨v0, vs0, d0, ds0, p0, q0, hargs, rfl, rfl, h0, r0⟩ := trodAll_cons hA
  obtain ⟨v1, vs1, d1, ds1, p1, q1, rfl, rfl, rfl, h1, r1⟩ := trodAll_cons r0
  obtain ⟨rfl, rfl, rfl⟩ := trodAll_nil r1
  obtain rfl : args = #[v0, v1] := by cases args; simp_all
  obtain ⟨rfl, rfl⟩ := trodVars_none hV
  obtain ⟨a0, len0, cap0, rfl⟩ := okWide_slice Try.underlying22 (hval 0 22 v0 rfl rfl)
  obtain ⟨a1, len1, cap1, rfl⟩ := okWide_slice Try.underlying23 (hval 1 23 v1 rfl rfl)
  have k0 := h0
  have k1 := h1
  have lt0 : ∀ x ∈ p0, x.block < W.heap.size := by obtain ⟨m, hm⟩ := k0; exact DataW.trod_lt m _ _ _ hm
  have lt1 : ∀ x ∈ p1, x.block < W.heap.size := by obtain ⟨m, hm⟩ := k1; exact DataW.trod_lt m _ _ _ hm
  obtain ⟨m0, g0⟩ := h0
  obtain ⟨m1, g1⟩ := h1
  obtain ⟨l, ⟨A0, c0, e0, hc0, hm0, hr0⟩, ok0⟩ := opens22 H enc W m0 _ _ g0
  obtain ⟨vs, ⟨A1, c1, e1, hc1, hm1, hr1⟩, ok1⟩ := opens23 H enc W m1 _ _ g1
  simp [Value.cells] at e0 e1
  obtain ⟨rfl, rfl, rfl⟩ := e0
  obtain ⟨rfl, rfl, rfl⟩ := e1
  clear hA0 hval0 hsz0
  refine (wk.law l (ok_in ok0) a0 cap0 a1 cap1 vs W hr1 hm1 hr0 hm0).mono fun e W' ⟨he, bel⟩ => ?_
  subst he
  exact ⟨_, rfl, _, _, _, [], _, [], hW', trodAll_mk1 (shut_bool Try.underlying4 _), (trodAll_cons_mk (Below.trod laidOut (by kernel_rfl) (of_decide_eq_true (by kernel_rfl)) k0 bel lt0) (trodAll_cons_mk (Below.trod laidOut (by kernel_rfl) (of_decide_eq_true (by kernel_rfl)) k1 bel lt1) trodAll_mk0)), rfl, bel.frame _, fun h => by cases h⟩

theorem over : Rows.clausesHoldRow.holds Try.pinned (OpenSpec.ofChange Rows.clausesHoldSpec) :=
  OpenClaim.holds_of_wide 3 Try.f3 rfl rfl rfl rfl rfl rfl rfl ⟨rfl, rfl, rfl, rfl, rfl⟩ rfl rfl rfl rfl rfl (by kernel_rfl) Try.func3 (by kernel_rfl)
    (of_decide_eq_true (by kernel_rfl)) (by unfold Func.isWrapper; first | (rw [if_pos (by decide +kernel)]; kernel_rfl) | (rw [if_neg (by decide +kernel)]; exact ⟨rfl, rfl⟩))
    (fun os started H enc _ => lifted os started H enc)
end Go.Proofs.Ytafmomlgkehdfaa.hold
namespace Go.Proofs.Ytafmomlgkehdfaa
theorem clausesHold_holds : Rows.ClausesHoldSaid := hold.over
#print axioms clausesHold_holds
end Go.Proofs.Ytafmomlgkehdfaa
