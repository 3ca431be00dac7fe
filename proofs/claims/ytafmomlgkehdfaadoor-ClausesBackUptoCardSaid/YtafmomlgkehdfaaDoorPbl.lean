/- ClausesBack's law: the walk. Condition: clauses that hold together at most 1048576 values. -/
import Derived.Test.YtafmomlgkehdfaaDoorPbk
import Derived.Test.YtafmomlgkehdfaaDoorPla
set_option linter.unusedVariables false
set_option linter.unusedSimpArgs false
namespace Go.Proofs.YtafmomlgkehdfaaDoor.F
open Go.RowKit Go.Shelf

theorem xtxt_len {x : Int} (h : inI x) : (xtxt x).length ≤ 22 := by
  have := Lib.itoa_length_le x h.1 h.2
  unfold xtxt
  rw [List.length_append, List.length_singleton]
  omega
theorem ctxt_len : ∀ (c : List Int), (∀ x ∈ c, inI x) → (ctxt c).length ≤ 22 * (c.length + 1)
  | [], _ => by unfold ctxt; simp
  | x :: c, h => by
    have ih := ctxt_len c (fun y hy => h y (by simp [hy]))
    have h1 := xtxt_len (h x (by simp))
    unfold ctxt at ih ⊢
    rw [List.flatMap_cons]
    simp only [List.length_append, List.length_cons] at ih ⊢
    omega
theorem body_len : ∀ (l : List (List Int)), (∀ c ∈ l, ∀ x ∈ c, inI x) → (l.flatMap ctxt).length ≤ 22 * (l.map fun c => c.length + 1).sum
  | [], _ => by simp
  | c :: l, h => by
    have ih := body_len l (fun d hd => h d (by simp [hd]))
    have h1 := ctxt_len c (h c (by simp))
    rw [List.flatMap_cons, List.length_append, List.map_cons, List.sum_cons]
    omega
theorem dtxt_len {a : Int} {l : List (List Int)} (ha : inI a) (hn : l.length ≤ 1048576) (h : ∀ c ∈ l, ∀ x ∈ c, inI x) (hs : (l.map fun c => c.length + 1).sum ≤ 1048576) : (dtxt a l).length ≤ 67108864 := by
  have h1 := body_len l h
  have h2 := Lib.itoa_length_le a ha.1 ha.2
  have h3 := Lib.itoa_length_le (l.length : Int) (by omega) (by omega)
  unfold dtxt htxt
  simp only [List.length_append, List.length_cons, List.length_nil]
  omega
theorem dim_one : dimV 1 [[-1]] = .tuple #[.string ⟨#[112, 32, 99, 110, 102, 32, 49, 32, 49, 10, 45, 49, 32, 48, 10]⟩, .int .i64 0] := by
  have e1 : Lib.itoa 1 = [49] := by
    have := Lib.itoa_nonneg 1
    rw [Lib.decDigits_one (by decide)] at this
    exact this
  have e2 : Lib.itoa (-1) = [45, 49] := by
    have := Lib.itoa_neg 1 (by decide)
    rw [Lib.decDigits_one (by decide)] at this
    exact this
  have e3 : dimOk 1 [[-1]] = true := by decide
  unfold dimV
  rw [e3, if_pos rfl]
  unfold dtxt htxt
  rw [show (([[-1]] : List (List Int)).length : Int) = 1 from rfl, e1]
  unfold ctxt xtxt
  simp only [List.flatMap_cons, List.flatMap_nil, e2]
  rfl
theorem one_row (w : World) : (Knd.int .i64).slice.Row ((w.alloc (.cells #[.int .i64 (-1)] 3)).alloc (.cells #[.slice (some ⟨w.heap.size, 0, none⟩) 1 1] 32)) (some ⟨w.heap.size + 1, 0, none⟩) [[-1]] := by
  have h1 : Own (w.alloc (.cells #[.int .i64 (-1)] 3)) w.heap.size [.int .i64 (-1)] := Own.mk [.int .i64 (-1)] 3
  have hsz : (w.alloc (.cells #[.int .i64 (-1)] 3)).heap.size = w.heap.size + 1 := by simp
  have h2 : Own ((w.alloc (.cells #[.int .i64 (-1)] 3)).alloc (.cells #[.slice (some ⟨w.heap.size, 0, none⟩) 1 1] 32)) (w.heap.size + 1) [.slice (some ⟨w.heap.size, 0, none⟩) 1 1] := by
    have := Own.mk (w := w.alloc (.cells #[.int .i64 (-1)] 3)) [.slice (some ⟨w.heap.size, 0, none⟩) 1 1] 32
    rwa [hsz] at this
  have h3 := h1.alloc (.cells #[.slice (some ⟨w.heap.size, 0, none⟩) 1 1] 32)
  intro i hi
  have hi0 : i = 0 := by simp at hi; exact hi
  subst hi0
  refine ⟨⟨w.heap.size + 1, 0, none⟩, [.slice (some ⟨w.heap.size, 0, none⟩) 1 1], rfl, ⟨some ⟨w.heap.size, 0, none⟩, 1, rfl, by simp, by simp, ?_⟩, fun j u hu => ?_⟩
  · intro j hj
    have hj0 : j = 0 := by simp at hj; exact hj
    subst hj0
    refine ⟨⟨w.heap.size, 0, none⟩, [.int .i64 (-1)], rfl, (show ([Value.int .i64 (-1)] : List Value) = [.int .i64 (-1)] from rfl), fun j u hu => ?_⟩
    have hj : j = 0 := by
      cases j with
      | zero => rfl
      | succ j => simp at hu
    subst hj
    simp at hu
    subst hu
    exact h3.cell 0 (by simp)
  · have hj : j = 0 := by
      cases j with
      | zero => rfl
      | succ j => simp at hu
    subst hj
    simp at hu
    subst hu
    exact h2.cell 0 (by simp)

set_option maxHeartbeats 1000000 in
set_option maxRecDepth 100000 in
theorem law_Back (a : Int) (ha : inI a) (l : List (List Int)) (hx : ∀ c ∈ l, ∀ x ∈ c, inI x) (C : Option Addr) (k : Nat) (w : World) (hX : (Knd.int .i64).slice.Row w C l) (hm : l.length ≤ 1048576) (hmc : ∀ c ∈ l, c.length ≤ 1048576) (hs : (l.map fun c => c.length + 1).sum ≤ 1048576) (hT : TabB w.heap.size w)
    (m : Int) (hmx : w.cell? ⟨1, 0, none⟩ = some (.int .i64 m)) :
    Calls Tryd.prog 5 #[.int .i64 a, .slice C l.length k] w fun e w' => e = .returned (.bool true) ∧ Below w.heap.size w w' := by
  have hD := Lib.hid (Dimacs a ha l hx C k w hX hm hmc hT)
  have HT := Lib.hid hT
  have HX := Lib.hid hX
  have HM := Lib.hid (cell_below (w := w) (a := ⟨1, 0, none⟩) (v := .int .i64 m) (w1 := w) (Below.refl _ _) hmx)
  have hlen := dtxt_len ha hm hx hs
  cases hok : dimOk a l with
  | false =>
    have e : dimV a l = .tuple #[.string ⟨#[]⟩, .int .i64 180] := by unfold dimV; rw [hok]; rfl
    rw [e] at hD
    clear e hok hlen hX hT hx hmc hs hmx HM HX
    go_enter Tryd.func5, Tryd.ntmps5
    go_wp2_with fail
    refine hD.out.mono ?_
    rintro e W1 ⟨rfl, q1⟩
    have hal : Below W1.heap.size W1 ((W1.alloc (.cells #[.int .i64 (-1)] 3)).alloc (.cells #[.slice (some ⟨W1.heap.size, 0, none⟩) 1 1] 32)) := ((Below.refl _ W1).alloc (Nat.le_refl _) _).alloc (by simp) _
    have HB := Lib.hid (q1.trans (hal.mono q1.size))
    have H2 := Lib.hid (Dimacs 1 (by constructor <;> omega) [[-1]] (by intro c hc x hx; simp at hc; subst hc; simp at hx; subst hx; constructor <;> omega) (some ⟨W1.heap.size + 1, 0, none⟩) 1 _ (one_row W1) (by simp) (by simp) (Lib.tabBelow_of_tabIs (HT.out.on HB.out).here))
    rw [dim_one] at H2
    clear hal q1 hD HT
    go_wp2_with fail
    refine H2.out.mono ?_
    rintro e W2 ⟨rfl, q1⟩
    replace HB := Lib.hid (HB.out.trans (q1.mono HB.out.size))
    clear q1 H2
    go_wp2
    go_ret
    exact ⟨rfl, HB.out⟩
  | true =>
    have e : dimV a l = .tuple #[.string ⟨(dtxt a l).toArray⟩, .int .i64 0] := by unfold dimV; rw [hok]; rfl
    rw [e] at hD
    have HP := Lib.hid (fun (W : World) (hb : Below w.heap.size w W) => Parse (dtxt a l) W hlen m (cell_below hb HM.out))
    have HN := Lib.hid (fun (h : ¬ 999999999 < a) => parse_dtxt hok (show a ≤ 999999999 by omega) (show l.length ≤ 999999999 by omega))
    have HZ := Lib.hid (@parse_dtxt_bad a l)
    clear e hok hlen hX hT hx hmc hs hmx HM HT
    generalize dtxt a l = tx at *
    go_enter Tryd.func5, Tryd.ntmps5
    go_wp2_with fail
    refine hD.out.mono ?_
    rintro e W1 ⟨rfl, q1⟩
    have HB := Lib.hid q1
    clear q1 hD
    go_wp2_with fail
    refine (HP.out _ HB.out).mono ?_
    rintro e W2 ⟨A, c, rfl, h1, h2, h3, h4⟩
    replace HB := Lib.hid (HB.out.trans (h4.mono HB.out.size))
    have HR := Lib.hid h3
    clear h1 h2 h3 h4 HP
    by_cases hbig : 999999999 < a
    · have hz := HZ.out hbig
      clear HN HZ
      generalize parseV tx = v at *
      obtain ⟨v1, v2, v3, v4⟩ := v
      simp only at *
      subst hz
      go_wp2
      go_ret
      exact ⟨rfl, HB.out⟩
    · have hz := HN.out (by omega)
      clear HN HZ
      rw [hz] at HR ⊢
      have HS := Lib.hid (sameAll_ l A C c k W2 HR.out (HX.out.below HB.out) (by omega))
      have hll : ¬ (999999999 : Int) < (l.length : Int) := by omega
      clear hz HR HX
      simp only
      go_wp2_with fail
      refine HS.out.mono ?_
      rintro e W3 ⟨rfl, h4⟩
      replace HB := Lib.hid (HB.out.trans (h4.mono HB.out.size))
      clear HS h4
      go_wp2
      go_ret
      exact ⟨rfl, HB.out⟩
end Go.Proofs.YtafmomlgkehdfaaDoor.F
