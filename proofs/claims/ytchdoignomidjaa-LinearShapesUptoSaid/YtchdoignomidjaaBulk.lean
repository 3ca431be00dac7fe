/- What the bound on the arguments' bulk gives: how long the numbers are that are handed in. -/
import Derived.Test.YtchdoignomidjaaRows
import Derived.Test.YtchdoignomidjaaValue
set_option linter.unusedVariables false
set_option linter.unusedSimpArgs false
namespace Go.Proofs.Ytchdoignomidjaa.F
open Go.RowKit Go.Shelf

theorem bulk_one {H : Type} (d : DataW H) : 1 ≤ Rows.uptoBulk d := by
  cases d with
  | lit l => cases l <;> simp [Rows.uptoBulk]
  | nil => simp [Rows.uptoBulk]
  | ptr d => simp [Rows.uptoBulk]
  | slice elems spare => simp [Rows.uptoBulk]
  | agg parts => simp [Rows.uptoBulk]
  | iface t d => simp [Rows.uptoBulk]
  | map entries => simp [Rows.uptoBulk]
  | held h => simp [Rows.uptoBulk]
theorem bulk_list {α : Type} {H : Type} {ok : α → DataW H → Prop} {g : α → Nat} (h : ∀ x d, ok x d → g x ≤ Rows.uptoBulk d) (xs : List α) (el : List (DataW H)) (hl : el.length = xs.length) (he : ∀ i (h : i < xs.length) (h' : i < el.length), ok xs[i] el[i]) : (xs.map g).sum ≤ Rows.uptoBulkAll el := by
  induction xs generalizing el with
  | nil => simp
  | cons x xs ih =>
    cases el with
    | nil => simp at hl
    | cons d el =>
      have h0 := h x d (he 0 (by simp) (by simp))
      have h1 := ih el (by simpa using hl) (fun i hi hi' => he (i + 1) (by simp; omega) (by simp; omega))
      simp only [List.map_cons, List.sum_cons, Rows.uptoBulkAll]
      omega
theorem bulk_slice {α : Type} {H : Type} {ok : α → (H : Type) → DataW H → Prop} {g : α → Nat} (h : ∀ x d, ok x H d → g x ≤ Rows.uptoBulk d) {xs : List α} {d : DataW H} (hk : okSlice ok xs H d) : (xs.map g).sum + 1 ≤ Rows.uptoBulk d := by
  rcases hk with ⟨rfl, rfl⟩ | ⟨el, sp, rfl, hl, he⟩
  · simp [Rows.uptoBulk]
  · have := bulk_list (ok := fun x d => ok x H d) h xs el hl he
    simp only [Rows.uptoBulk]
    omega
theorem bulk_pair {α β : Type} {H : Type} {ok : α → (H : Type) → DataW H → Prop} {ok' : β → (H : Type) → DataW H → Prop} {g : α → Nat} {g' : β → Nat} (h : ∀ x d, ok x H d → g x ≤ Rows.uptoBulk d) (h' : ∀ x d, ok' x H d → g' x ≤ Rows.uptoBulk d) {x : α × β} {d : DataW H} (hk : okPair ok ok' x H d) : g x.1 + g' x.2 + 1 ≤ Rows.uptoBulk d := by
  obtain ⟨p, q, rfl, h1, h2⟩ := hk
  have := h _ _ h1
  have := h' _ _ h2
  simp only [Rows.uptoBulk, Rows.uptoBulkAll]
  omega

abbrev okNat := okSlice (okInt .u32)
abbrev okRat := okPair (okPair okBool okNat) okNat
abbrev okMono := okPair (okInt .i64) okRat
abbrev okForm := okSlice okMono
/-- how much a rational weighs -/
def wt (x : RatD) : Nat := x.1.2.length + x.2.length + 5
def wtm (m : Int × RatD) : Nat := wt m.2 + 2

theorem len_nat {H : Type} {xs : List Int} {d : DataW H} (h : okNat xs H d) : xs.length + 1 ≤ Rows.uptoBulk d := by
  have := bulk_slice (g := fun _ => 1) (fun x d _ => bulk_one d) h
  rwa [List.map_const', List.sum_replicate_nat, Nat.mul_one] at this
theorem wt_rat {H : Type} {x : RatD} {d : DataW H} (h : okRat x H d) : wt x ≤ Rows.uptoBulk d := by
  obtain ⟨p, q, rfl, ⟨r, s, rfl, h1, h2⟩, h3⟩ := h
  have a := bulk_one r
  have b := len_nat h2
  have c := len_nat h3
  simp only [Rows.uptoBulk, Rows.uptoBulkAll, wt]
  omega
theorem wt_mono {H : Type} {x : Int × RatD} {d : DataW H} (h : okMono x H d) : wtm x ≤ Rows.uptoBulk d := by
  obtain ⟨p, q, rfl, h1, h2⟩ := h
  have a := bulk_one p
  have b := wt_rat h2
  simp only [Rows.uptoBulk, Rows.uptoBulkAll, wtm]
  omega
theorem wt_form {H : Type} {f : List (Int × RatD)} {d : DataW H} (h : okForm f H d) : (f.map wtm).sum + 1 ≤ Rows.uptoBulk d := bulk_slice (fun x d h => wt_mono h) h
theorem wt_rats {H : Type} {f : List RatD} {d : DataW H} (h : okSlice okRat f H d) : (f.map wt).sum + 1 ≤ Rows.uptoBulk d := bulk_slice (fun x d h => wt_rat h) h

theorem lim_nat {H : Type} {xs : List Int} {d : DataW H} (h : okNat xs H d) : Lim xs := by
  intro x hx
  rcases h with ⟨rfl, _⟩ | ⟨el, sp, _, hl, h⟩
  · cases hx
  · obtain ⟨i, hi, rfl⟩ := List.getElem_of_mem hx
    have := (h i hi (by omega)).1
    simp [Lit.wf, IntKind.min, IntKind.max, IntKind.signed, IntKind.bits] at this
    omega
theorem good_rat {H : Type} {x : RatD} {d : DataW H} (h : okRat x H d) : Good (wt x) x := by
  obtain ⟨p, q, _, ⟨r, s, _, h1, h2⟩, h3⟩ := h
  exact ⟨lim_nat h2, lim_nat h3, by unfold wt; omega, by unfold wt; omega⟩
theorem Good.mono {b c : Nat} {x : RatD} (h : Good b x) (hbc : b ≤ c) : Good c x := ⟨h.ln, h.ld, Nat.le_trans h.mn hbc, Nat.le_trans h.md hbc⟩
theorem ok_mem {α : Type} {H : Type} {ok : α → (H : Type) → DataW H → Prop} {xs : List α} {d : DataW H} (h : okSlice ok xs H d) {x : α} (hx : x ∈ xs) : ∃ d, ok x H d := by
  rcases h with ⟨rfl, _⟩ | ⟨el, sp, _, hl, h⟩
  · cases hx
  · obtain ⟨i, hi, rfl⟩ := List.getElem_of_mem hx
    exact ⟨_, h i hi (by omega)⟩
theorem le_sum {α : Type} {g : α → Nat} {xs : List α} {x : α} (h : x ∈ xs) : g x ≤ (xs.map g).sum := by
  induction xs with
  | nil => cases h
  | cons y xs ih =>
    simp only [List.map_cons, List.sum_cons]
    rcases List.mem_cons.1 h with rfl | h
    · omega
    · have := ih h; omega
theorem Sz.rq {x : RatD} (h : Good (wt x) x) : Sz (wt x) (rq x) := (Sz.rvs x.1.1 h.ln h.ld).mono (by unfold wt; omega)
end Go.Proofs.Ytchdoignomidjaa.F
