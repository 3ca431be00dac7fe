/- Atoms, steps and refutations as handed in: which types read as which kinds, how much they weigh. -/
import Derived.Test.YtidgpkccjcddgaaGreatDoorGs
set_option linter.unusedVariables false
set_option linter.unusedSimpArgs false
namespace Go.Proofs.YtidgpkccjcddgaaGreatDoor.F
open Go.ChangeShapes Go.WideShapes Go.ChangeAt Go.RowKit Go.Shelf
def okQuad {α β γ δ : Type} (o1 : α → (H : Type) → DataW H → Prop) (o2 : β → (H : Type) → DataW H → Prop) (o3 : γ → (H : Type) → DataW H → Prop) (o4 : δ → (H : Type) → DataW H → Prop) : (((α × β) × γ) × δ) → (H : Type) → DataW H → Prop := fun x H d =>
 ∃ a b c e, d = .agg [a, b, c, e] ∧ o1 x.1.1.1 H a ∧ o2 x.1.1.2 H b ∧ o3 x.1.2 H c ∧ o4 x.2 H e
theorem opens_quad {α β γ δ : Type} {P : Program} {t : TypeId} {d1 : Knd α} {d2 : Knd β} {d3 : Knd γ} {d4 : Knd δ} {o1 : α → (H : Type) → DataW H → Prop} {o2 : β → (H : Type) → DataW H → Prop} {o3 : γ → (H : Type) → DataW H → Prop} {o4 : δ → (H : Type) → DataW H → Prop} {f1 f2 f3 f4 : Field}
 (ht : P.underlying t = some (.struct #[f1, f2, f3, f4])) (hc : P.cellsOf t = d1.sz + d2.sz + d3.sz + d4.sz) (h1 : f1.offset = 0) (h2 : f2.offset = d1.sz) (h3 : f3.offset = d1.sz + d2.sz) (h4 : f4.offset = d1.sz + d2.sz + d3.sz)
 (c1 : P.cellsOf f1.type = d1.sz) (c2 : P.cellsOf f2.type = d2.sz) (c3 : P.cellsOf f3.type = d3.sz) (c4 : P.cellsOf f4.type = d4.sz)
 (k1 : Opens P f1.type d1 o1) (k2 : Opens P f2.type d2 o2) (k3 : Opens P f3.type d3 o3) (k4 : Opens P f4.type d4 o4) : Opens P t (((d1.pair d2).pair d3).pair d4) (okQuad o1 o2 o3 o4) := by
 intro H enc w fuel cs x h
 cases fuel with
 | zero => simp [DataW.trod] at h
 | succ fuel =>
  simp only [DataW.trod, ht] at h
  split at h
  · rename_i hl
    rw [hc] at hl
    simp only [List.mapM_cons, List.mapM_nil, h1, h2, h3, h4, c1, c2, c3, c4, List.drop_zero] at h
    cases ha : DataW.trod enc P w 0 (fun _ => true) true fuel f1.type (cs.take d1.sz) with
    | none => rw [ha] at h; simp at h
    | some a =>
     cases hb : DataW.trod enc P w 0 (fun _ => true) true fuel f2.type ((cs.drop d1.sz).take d2.sz) with
     | none => rw [ha, hb] at h; simp at h
     | some b =>
      cases hd : DataW.trod enc P w 0 (fun _ => true) true fuel f3.type ((cs.drop (d1.sz + d2.sz)).take d3.sz) with
      | none => rw [ha, hb, hd] at h; simp at h
      | some c =>
       cases he : DataW.trod enc P w 0 (fun _ => true) true fuel f4.type ((cs.drop (d1.sz + d2.sz + d3.sz)).take d4.sz) with
       | none => rw [ha, hb, hd, he] at h; simp at h
       | some e =>
        rw [ha, hb, hd, he] at h
        simp at h
        subst h
        obtain ⟨x1, y1, z1⟩ := k1 H enc w fuel _ _ ha
        obtain ⟨x2, y2, z2⟩ := k2 H enc w fuel _ _ hb
        obtain ⟨x3, y3, z3⟩ := k3 H enc w fuel _ _ hd
        obtain ⟨x4, y4, z4⟩ := k4 H enc w fuel _ _ he
        refine ⟨(((x1, x2), x3), x4), ⟨_, _, ?_, ⟨_, _, rfl, ⟨_, _, rfl, y1, y2⟩, y3⟩, y4⟩, _, _, _, _, rfl, z1, z2, z3, z4⟩
        rw [List.take_of_length_le (l := cs.drop (d1.sz + d2.sz + d3.sz)) (by simp; omega)]
        have e1 : cs.take d1.sz ++ (cs.drop d1.sz).take d2.sz = cs.take (d1.sz + d2.sz) := by rw [List.take_add]
        have e2 : cs.take (d1.sz + d2.sz) ++ (cs.drop (d1.sz + d2.sz)).take d3.sz = cs.take (d1.sz + d2.sz + d3.sz) := by rw [← List.take_add]
        rw [e1, e2, List.take_append_drop]
  · simp at h
abbrev StepD := ((Int × List Int) × List Int) × List RatD
abbrev RefD := List AtomD × List StepD
def kStep : Knd StepD := (((Knd.int .i64).pair (Knd.int .i64).slice).pair (Knd.int .i64).slice).pair kRat.slice
def okStr : ByteArray → (H : Type) → DataW H → Prop := fun s _ d => s.size ≤ 9223372036854775807 ∧ d = .lit (.string s.data.toList)
abbrev okAtom := okQuad okStr okForm okRat okBool
abbrev okStep := okQuad (okInt .i64) (okSlice (okInt .i64)) (okSlice (okInt .i64)) (okSlice okRat)
abbrev okRef := okPair (okSlice okAtom) (okSlice okStep)
theorem opens_Clause : Opens Tryz.prog 77 (Knd.int .i64).slice (okSlice (okInt .i64)) := opens_slice Tryz.underlying77 (by kernel_rfl) (opens_int Tryz.underlying3)
theorem opens_intl : Opens Tryz.prog 76 (Knd.int .i64).slice (okSlice (okInt .i64)) := opens_slice Tryz.underlying76 (by kernel_rfl) (opens_int Tryz.underlying3)
theorem opens_Atom : Opens Tryz.prog 84 kAtom okAtom := opens_quad Tryz.underlying84 (by kernel_rfl) rfl rfl rfl rfl (by kernel_rfl) (by kernel_rfl) (by kernel_rfl) (by kernel_rfl) (opens_string Tryz.underlying9) opens_Form opens_Rat (opens_bool Tryz.underlying4)
theorem opens_Step : Opens Tryz.prog 80 kStep okStep := opens_quad Tryz.underlying80 (by kernel_rfl) rfl rfl rfl rfl (by kernel_rfl) (by kernel_rfl) (by kernel_rfl) (by kernel_rfl) (opens_int Tryz.underlying3) opens_Clause opens_intl opens_Rats
theorem opens_Atoms : Opens Tryz.prog 22 kAtom.slice (okSlice okAtom) := opens_slice Tryz.underlying22 (by kernel_rfl) opens_Atom
theorem opens_Steps : Opens Tryz.prog 23 kStep.slice (okSlice okStep) := opens_slice Tryz.underlying23 (by kernel_rfl) opens_Step
theorem opens_Refutation : Opens Tryz.prog 25 (kAtom.slice.pair kStep.slice) okRef := opens_pair Tryz.underlying25 (by kernel_rfl) rfl rfl (by kernel_rfl) (by kernel_rfl) opens_Atoms opens_Steps
def wtn (a : AtomD) : Nat := a.1.1.1.size + wtAt a + 4
def wts (s : StepD) : Nat := s.1.1.2.length + s.1.2.length + (s.2.map wt).sum + 5
theorem wt_atom {H : Type} {a : AtomD} {d : DataW H} (h : okAtom a H d) : wtn a ≤ Rows.uptoBulk d := by
 obtain ⟨p, q, r, s, rfl, h1, h2, h3, h4⟩ := h
 obtain ⟨_, rfl⟩ := h1
 have k2 := wt_form h2
 have k3 := wt_rat h3
 have k4 := bulk_one s
 have k1 : a.1.1.1.data.toList.length = a.1.1.1.size := Array.length_toList
 simp only [Rows.uptoBulk, Rows.uptoBulkAll, wtn, wtAt, k1]
 omega
theorem len_ints {H : Type} {xs : List Int} {d : DataW H} (h : okSlice (okInt .i64) xs H d) : xs.length + 1 ≤ Rows.uptoBulk d := by
 have := bulk_slice (g := fun _ => 1) (fun x d _ => bulk_one d) h
 rwa [List.map_const', List.sum_replicate_nat, Nat.mul_one] at this
theorem wt_step {H : Type} {a : StepD} {d : DataW H} (h : okStep a H d) : wts a ≤ Rows.uptoBulk d := by
 obtain ⟨p, q, r, s, rfl, h1, h2, h3, h4⟩ := h
 have k1 := bulk_one p
 have k2 := len_ints h2
 have k3 := len_ints h3
 have k4 := wt_rats h4
 simp only [Rows.uptoBulk, Rows.uptoBulkAll, wts]
 omega
theorem wt_ref {H : Type} {a : RefD} {d : DataW H} (h : okRef a H d) : (a.1.map wtn).sum + (a.2.map wts).sum + 3 ≤ Rows.uptoBulk d := by
 obtain ⟨p, q, rfl, h1, h2⟩ := h
 have k1 : (a.1.map wtn).sum + 1 ≤ Rows.uptoBulk p := bulk_slice (fun x d h => wt_atom h) h1
 have k2 : (a.2.map wts).sum + 1 ≤ Rows.uptoBulk q := bulk_slice (fun x d h => wt_step h) h2
 simp only [Rows.uptoBulk, Rows.uptoBulkAll]
 omega
theorem int_wf {H : Type} {x : Int} {d : DataW H} (h : okInt .i64 x H d) : inr x := by
 have := h.1
 simp [Lit.wf, IntKind.min, IntKind.max, IntKind.signed, IntKind.bits] at this
 unfold inr
 omega
structure GoodA (a : AtomD) : Prop where
 good : ∀ m ∈ a.1.1.2, Good (wt m.2) m.2
 goodB : Good (wt a.1.2) a.1.2
 var : ∀ m ∈ a.1.1.2, inr m.1
 few : wtn a ≤ 2097152
 shp : Shp (nform (fval a.1.1.2))
 name : a.1.1.1.size ≤ 1048576
structure GoodS (s : StepD) : Prop where
 kind : inr s.1.1.1
 clause : ∀ x ∈ s.1.1.2, inr x
 byl : ∀ x ∈ s.1.2, inr x
 good : ∀ q ∈ s.2, Good (wt q) q
 few : wts s ≤ 8388608
theorem good_atom {H : Type} {a : AtomD} {d : DataW H} (h : okAtom a H d) (hw : wtn a ≤ 1048576) : GoodA a := by
 obtain ⟨p, q, r, s, rfl, h1, h2, h3, h4⟩ := h
 have hg : ∀ m ∈ a.1.1.2, Good (wt m.2) m.2 := fun m hm => (ok_mem h2 hm).elim fun d h => by obtain ⟨_, _, _, _, h⟩ := h; exact good_rat h
 have hw' := hw
 unfold wtn wtAt at hw'
 exact ⟨fun m hm => (ok_mem h2 hm).elim fun d h => by obtain ⟨_, _, _, _, h⟩ := h; exact good_rat h, good_rat h3, fun m hm => (ok_mem h2 hm).elim fun d h => by obtain ⟨_, _, _, h, _⟩ := h; exact int_wf h, by omega, Shp.of hg (by omega), by omega⟩
theorem good_step {H : Type} {a : StepD} {d : DataW H} (h : okStep a H d) (hw : wts a ≤ 1048576) : GoodS a := by
 obtain ⟨p, q, r, s, rfl, h1, h2, h3, h4⟩ := h
 exact ⟨int_wf h1, fun m hm => (ok_mem h2 hm).elim fun d h => int_wf h, fun m hm => (ok_mem h3 hm).elim fun d h => int_wf h, fun m hm => (ok_mem h4 hm).elim fun d h => good_rat h, by omega⟩
structure RefIn (w : World) (r : RefD) (A : Option Addr) (c : Nat) (B : Option Addr) (d : Nat) : Prop where
 rowA : kAtom.Row w A r.1
 capA : r.1.length ≤ c
 rowS : kStep.Row w B r.2
 capS : r.2.length ≤ d
 goodA : ∀ a ∈ r.1, GoodA a
 goodS : ∀ s ∈ r.2, GoodS s
 few : (r.1.map wtn).sum + (r.2.map wts).sum ≤ 8388608
theorem RefIn.below {w W : World} {r : RefD} {A : Option Addr} {c : Nat} {B : Option Addr} {d : Nat} (h : RefIn w r A c B d) (hb : Below w.heap.size w W) : RefIn W r A c B d :=
 ⟨h.rowA.below hb, h.capA, h.rowS.below hb, h.capS, h.goodA, h.goodS, h.few⟩
theorem refIn_of {H : Type} {w : World} {r : RefD} {d : DataW H} {cs : List Value} (h : (kAtom.slice.pair kStep.slice).C w r cs) (ho : okRef r H d) (hb : Rows.uptoBulk d ≤ 1048576) :
 ∃ A c B e, cs = [.slice A r.1.length c, .slice B r.2.length e] ∧ RefIn w r A c B e := by
 obtain ⟨p1, p2, rfl, ⟨A, c, rfl, a1, _, a3⟩, ⟨B, e, rfl, b1, _, b3⟩⟩ := h
 have hw := wt_ref ho
 obtain ⟨_, _, _, h1, h2⟩ := ho
 have ga : ∀ a ∈ r.1, GoodA a := fun a ha => (ok_mem h1 ha).elim fun d h => good_atom h (by have : wtn a ≤ (r.1.map wtn).sum := le_sum ha; omega)
 have gs : ∀ a ∈ r.2, GoodS a := fun a ha => (ok_mem h2 ha).elim fun d h => good_step h (by have : wts a ≤ (r.2.map wts).sum := le_sum ha; omega)
 exact ⟨A, c, B, e, rfl, a3, a1, b3, b1, ga, gs, by omega⟩
theorem kStep_cells {w : World} {x : StepD} {cs : List Value} (h : kStep.C w x cs) : ∃ A c B d D e, cs = [.int .i64 x.1.1.1, .slice A x.1.1.2.length c, .slice B x.1.2.length d, .slice D x.2.length e] ∧ x.1.1.2.length ≤ c ∧ (Knd.int .i64).Row w A x.1.1.2 ∧ x.1.2.length ≤ d ∧ (Knd.int .i64).Row w B x.1.2 ∧ x.2.length ≤ e ∧ kRat.Row w D x.2 := by
 obtain ⟨p1, p2, rfl, ⟨p3, p4, rfl, ⟨p5, p6, rfl, h1, h2⟩, h3⟩, h4⟩ := h
 have h1' : p5 = [.int .i64 x.1.1.1] := h1
 subst h1'
 obtain ⟨A, c, rfl, a1, _, a3⟩ := h2
 obtain ⟨B, d, rfl, b1, _, b3⟩ := h3
 obtain ⟨D, e, rfl, g1, _, g3⟩ := h4
 exact ⟨A, c, B, d, D, e, rfl, a1, a3, b1, b3, g1, g3⟩
theorem row_step {w : World} {A : Option Addr} {xs : List StepD} (h : kStep.Row w A xs) (i : Nat) (hi : i < xs.length) :
 ∃ ad A' c B d D e, A = some ad ∧ w.cell? (ad.add (i * 4)) = some (.int .i64 xs[i].1.1.1) ∧ w.cell? (nxt (ad.add (i * 4)) 1) = some (.slice A' xs[i].1.1.2.length c) ∧ w.cell? (nxt (ad.add (i * 4)) 2) = some (.slice B xs[i].1.2.length d) ∧ w.cell? (nxt (ad.add (i * 4)) 3) = some (.slice D xs[i].2.length e) ∧ xs[i].1.1.2.length ≤ c ∧ (Knd.int .i64).Row w A' xs[i].1.1.2 ∧ xs[i].1.2.length ≤ d ∧ (Knd.int .i64).Row w B xs[i].1.2 ∧ xs[i].2.length ≤ e ∧ kRat.Row w D xs[i].2 := by
 obtain ⟨ad, cs, e0, hC, hc⟩ := h i hi
 obtain ⟨A', c, B, d, D, e, rfl, g1, g2, g3, g4, g5, g6⟩ := kStep_cells hC
 exact ⟨ad, A', c, B, d, D, e, e0, hc 0 _ rfl, by rw [add_off _ _ _ (by omega)]; exact hc 1 _ rfl, by rw [add_off _ _ _ (by omega)]; exact hc 2 _ rfl, by rw [add_off _ _ _ (by omega)]; exact hc 3 _ rfl, g1, g2, g3, g4, g5, g6⟩
theorem atIn_row {w : World} {A : Option Addr} {xs : List AtomD} (h : kAtom.Row w A xs) (hg : ∀ a ∈ xs, GoodA a) (i : Nat) (hi : i < xs.length) :
 ∃ ad E c B d D e, A = some ad ∧ w.cell? (ad.add (i * 6)) = some (.string xs[i].1.1.1) ∧ w.cell? (nxt (ad.add (i * 6)) 1) = some (.slice E xs[i].1.1.2.length c) ∧ w.cell? (nxt (ad.add (i * 6)) 2) = some (.bool xs[i].1.2.1.1) ∧ w.cell? (nxt (ad.add (i * 6)) 3) = some (.slice B xs[i].1.2.1.2.length d) ∧ w.cell? (nxt (ad.add (i * 6)) 4) = some (.slice D xs[i].1.2.2.length e) ∧ w.cell? (nxt (ad.add (i * 6)) 5) = some (.bool xs[i].2) ∧ AtIn w xs[i] E c B d D e ∧ xs[i].1.1.1.size ≤ 1048576 := by
 obtain ⟨ad, E, c, B, d, D, e, e0, h0, h1, h2, h3, h4, h5, k1, k2, k3⟩ := row_atom h i hi
 have g := hg xs[i] (List.getElem_mem _)
 have hf := g.few
 have hn := g.name
 unfold wtn at hf
 exact ⟨ad, E, c, B, d, D, e, e0, h0, h1, h2, h3, h4, h5, ⟨k2, k1, ⟨⟨k3.2.2.1, g.goodB.ln, k3.1⟩, ⟨k3.2.2.2, g.goodB.ld, k3.2.1⟩⟩, g.good, g.goodB, g.var, by omega, g.shp⟩, hn⟩
def keyA (a : AtomD) : List UInt8 := (if a.2 then 60 else 61) :: (tf (nform (fval a.1.1.2)) ++ 32 :: (tq (rq a.1.2) ++ 32 :: a.1.1.1.data.toList))
theorem free_split {c : UInt8} : ∀ {x y r s : List UInt8}, freeC c x → freeC c y → x ++ c :: r = y ++ c :: s → x = y ∧ r = s
 | [], [], r, s, _, _, h => ⟨rfl, by simpa using h⟩
 | [], b :: y, r, s, _, hy, h => by
  simp only [List.nil_append, List.cons_append, List.cons.injEq] at h
  exact absurd h.1.symm (hy b (by simp))
 | a :: x, [], r, s, hx, _, h => by
  simp only [List.nil_append, List.cons_append, List.cons.injEq] at h
  exact absurd h.1 (hx a (by simp))
 | a :: x, b :: y, r, s, hx, hy, h => by
  simp only [List.cons_append, List.cons.injEq] at h
  obtain ⟨e1, e2⟩ := free_split (fun d hd => hx d (by simp [hd])) (fun d hd => hy d (by simp [hd])) h.2
  exact ⟨by rw [h.1, e1], e2⟩
theorem joinC_free {c d : UInt8} (hcd : d ≠ c) : ∀ l : List (List UInt8), (∀ x ∈ l, freeC c x) → freeC c (joinC d l)
 | [], _ => fun b hb => by cases hb
 | [x], h => h x (by simp)
 | x :: y :: r, h => fun b hb => by
  rw [joinC] at hb
  rcases List.mem_append.1 hb with hb | hb
  · exact h x (by simp) b hb
  · rcases List.mem_cons.1 hb with rfl | hb
    · exact hcd
    · exact joinC_free hcd (y :: r) (fun z hz => h z (by simp at hz ⊢; right; exact hz)) b hb
theorem tq_free32 (q : Rat) : freeC 32 (tq q) := fun b hb => by
 rcases tq_bytes q b hb with rfl | rfl | h
 · decide
 · decide
 · exact isDig_ne h (by decide)
theorem tt_free32 (m : Int × Rat) : freeC 32 (tt m) := fun b hb => by
 rcases tt_bytes m b hb with rfl | rfl | rfl | rfl | h
 · decide
 · decide
 · decide
 · decide
 · exact isDig_ne h (by decide)
theorem tf_free32 (l : Frm) : freeC 32 (tf l) := by
 unfold tf
 split
 · intro b hb
   rw [List.mem_singleton.1 hb]; decide
 · exact joinC_free (by decide) _ fun x hx => by
    obtain ⟨m, _, rfl⟩ := List.mem_map.1 hx
    exact tt_free32 m
theorem keyA_inj {a b : AtomD} (h : keyA a = keyA b) : a.2 = b.2 ∧ nform (fval a.1.1.2) = nform (fval b.1.1.2) ∧ rq a.1.2 = rq b.1.2 ∧ a.1.1.1.data = b.1.1.1.data := by
 unfold keyA at h
 rw [List.cons.injEq] at h
 obtain ⟨h0, h⟩ := h
 obtain ⟨h1, h⟩ := free_split (tf_free32 _) (tf_free32 _) h
 obtain ⟨h2, h3⟩ := free_split (tq_free32 _) (tq_free32 _) h
 refine ⟨?_, tf_inj h1, tq_inj h2, Array.ext' h3⟩
 clear h h1 h2 h3
 generalize a.2 = x at *
 generalize b.2 = y at *
 cases x <;> cases y <;> first | rfl | exact absurd h0 (by decide)
theorem nrm_parts {a : AtomD} (h : nrmA a = true) : canD (rq a.1.2) = a.1.2 ∧ (nform (fval a.1.1.2)).map canM = a.1.1.2 := by
 unfold nrmA canA at h
 simpa using h
theorem may_nrm {a : AtomD} (h : mayA a = true) : nrmA a = true := by
 unfold mayA at h
 rw [Bool.and_eq_true] at h
 exact h.1
theorem alike_key {a b : AtomD} (ha : mayA a = true) (hb : mayA b = true) : alike a b = decide (keyA a = keyA b) := by
 obtain ⟨a1, a2⟩ := nrm_parts (may_nrm ha)
 obtain ⟨b1, b2⟩ := nrm_parts (may_nrm hb)
 rw [Bool.eq_iff_iff]
 unfold alike
 simp only [Bool.and_eq_true, decide_eq_true_eq]
 constructor
 · rintro ⟨h1, h2, h3, h4⟩
   unfold keyA
   rw [h1, h2, h3, h4]
 · intro h
   obtain ⟨h2, h4, h3, h1⟩ := keyA_inj h
   refine ⟨h1, h2, ?_, ?_⟩
   · rw [← a1, ← b1, h3]
   · rw [← a2, ← b2, h4]
theorem sgn_eq0 {x : Int} : sgn x = 0 ↔ x = 0 := by
 unfold sgn
 constructor
 · intro h
   split at h
   · cases h
   · split at h
     · cases h
     · omega
 · rintro rfl; rfl
theorem num_zero {q : Rat} : q.num = 0 ↔ q = 0 := Rat.num_eq_zero
theorem zero_bound (b : RatD) : (canD (rq b) = b ∧ sgn (rq b).num = 0) ↔ b = canD 0 := by
 rw [sgn_eq0, num_zero]
 constructor
 · rintro ⟨h1, h2⟩; rw [← h1, h2]
 · intro h
   have : rq b = 0 := by rw [h, rq_can]
   exact ⟨by rw [this, h], this⟩
theorem nrm_nil {f : List (Int × RatD)} (h : f.length = 0) : (nform (fval f)).map canM = f := by
 have : f = [] := List.eq_nil_of_length_eq_zero h
 subst this
 rfl
theorem truth_eq (a : AtomD) : truthA a = (decide (a.1.1.1.data = #[]) && (decide (a.1.1.2.length = 0) && (decide (sgn (rq a.1.2).num = 0) && (!a.2 && nrmA a)))) := by
 rw [Bool.eq_iff_iff]
 unfold truthA nrmA canA
 simp only [Bool.and_eq_true, decide_eq_true_eq]
 constructor
 · rintro ⟨h1, h2, h3, h4⟩
   have := (zero_bound a.1.2).2 h4
   exact ⟨h1, h2, this.2, h3, this.1, nrm_nil h2⟩
 · rintro ⟨h1, h2, h3, h4, h5, h6⟩
   exact ⟨h1, h2, h4, (zero_bound a.1.2).1 ⟨h5, h3⟩⟩
theorem alike_truth {a t : AtomD} (ha : mayA a = true) (ht : truthA t = true) : alike a t = false := by
 cases h : alike a t with
 | false => rfl
 | true =>
  unfold alike at h
  simp only [Bool.and_eq_true, decide_eq_true_eq] at h
  unfold truthA at ht
  simp only [Bool.and_eq_true, decide_eq_true_eq] at ht
  unfold mayA at ha
  rw [if_pos (h.1.trans ht.1)] at ha
  simp only [Bool.and_eq_true, decide_eq_true_eq] at ha
  have h4 := h.2.2.2
  have h5 := ha.2.2
  have h6 := congrArg List.length h5
  rw [List.length_map] at h6
  have h9 := congrArg List.length h4
  have h7 := ha.2.1
  have h8 := ht.2.1
  omega
def TabN (l : List AtomD) (n : Nat) : Prop := ∀ j (h : j < l.length), 0 < j → j < n → mayA l[j] = true ∧ ∀ k (hk : k < j), alike l[j] (l[k]'(by omega)) = false
def TabK (l : List AtomD) (n : Nat) : Prop := ∀ j (h : j < l.length), 0 < j → j < n → mayA l[j] = true ∧ ∀ k (hk : k < j), 0 < k → keyA (l[k]'(by omega)) ≠ keyA l[j]
def TabOk (l : List AtomD) : Prop := l.length ≤ 262144 ∧ (∃ h : 0 < l.length, truthA l[0] = true) ∧ TabN l l.length
theorem tabK_N {l : List AtomD} {n : Nat} (h0 : ∃ h : 0 < l.length, truthA l[0] = true) : TabK l n ↔ TabN l n := by
 obtain ⟨hl, ht⟩ := h0
 constructor
 · intro h j hj h1 h2
   obtain ⟨a, b⟩ := h j hj h1 h2
   refine ⟨a, fun k hk => ?_⟩
   by_cases hk0 : k = 0
   · subst hk0
     exact alike_truth a ht
   · rw [alike_key a (h k (by omega) (by omega) (by omega)).1]
     exact decide_eq_false fun e => b k hk (by omega) e.symm
 · intro h j hj h1 h2
   obtain ⟨a, b⟩ := h j hj h1 h2
   refine ⟨a, fun k hk hk0 e => ?_⟩
   have h3 := b k hk
   rw [alike_key a (h k (by omega) (by omega) (by omega)).1] at h3
   exact of_decide_eq_false h3 e.symm
theorem tabOk_K (l : List AtomD) : TabOk l ↔ l.length ≤ 262144 ∧ (∃ h : 0 < l.length, truthA l[0] = true) ∧ TabK l l.length := by
 unfold TabOk
 constructor
 · rintro ⟨a, b, c⟩
   exact ⟨a, b, (tabK_N b).2 c⟩
 · rintro ⟨a, b, c⟩
   exact ⟨a, b, (tabK_N b).1 c⟩
theorem TabN.one (l : List AtomD) : TabN l 1 := fun j _ h1 h2 => by omega
theorem TabK.one (l : List AtomD) : TabK l 1 := fun j _ h1 h2 => by omega
theorem TabN.succ {l : List AtomD} {n : Nat} (h : TabN l n) (hn : n < l.length) (hm : mayA l[n] = true) (ha : ∀ k (hk : k < n), alike l[n] (l[k]'(by omega)) = false) : TabN l (n + 1) := fun j hj h1 h2 => by
 by_cases e : j = n
 · subst e; exact ⟨hm, ha⟩
 · exact h j hj h1 (by omega)
theorem TabK.succ {l : List AtomD} {n : Nat} (h : TabK l n) (hn : n < l.length) (hm : mayA l[n] = true) (ha : ∀ k (hk : k < n), 0 < k → keyA (l[k]'(by omega)) ≠ keyA l[n]) : TabK l (n + 1) := fun j hj h1 h2 => by
 by_cases e : j = n
 · subst e; exact ⟨hm, ha⟩
 · exact h j hj h1 (by omega)
noncomputable def chk (l : List AtomD) : Int := if @decide (TabOk l) (Classical.propDecidable _) then 0 else 170
theorem chk_ok {l : List AtomD} (h : TabOk l) : chk l = 0 := by unfold chk; rw [if_pos (by simpa using h)]
theorem chk_bad {l : List AtomD} (h : ¬ TabOk l) : chk l = 170 := by unfold chk; rw [if_neg (by simpa using h)]
def litN (many : Nat) (l : Int) : Bool := !(l == 0) && (decide (l ≤ (many : Int)) && decide (-(many : Int) ≤ l))
def byN (i : Nat) (k : Int) : Bool := decide (0 ≤ k) && decide (k < (i : Int))
def posC (c : RatD) : Bool := decide (0 ≤ sgn (rq c).num)
def mayS (s : StepD) (i many : Nat) : Bool := s.1.1.2.all (litN many) && (if s.1.1.1 = 1 then decide (s.1.2.length = 0) && decide (s.2.length = 0) else if s.1.1.1 = 2 then decide (s.2.length = 0) && s.1.2.all (byN i) else if s.1.1.1 = 3 then decide (s.1.2.length = 0) && (decide (s.2.length = s.1.1.2.length) && s.2.all posC) else false)
def mayAt (r : RefD) (i : Nat) : Bool := if h : i < r.2.length then mayS r.2[i] i r.1.length else false
theorem mayAt_eq {r : RefD} {i : Nat} (h : i < r.2.length) : mayAt r i = mayS r.2[i] i r.1.length := dif_pos h
def badN (r : RefD) : Option Nat := (List.range r.2.length).find? fun i => !mayAt r i
theorem badN_some {r : RefD} {i : Nat} (hi : i < r.2.length) (h : mayAt r i = false) (hb : ∀ j, j < i → mayAt r j = true) : badN r = some i := by
 unfold badN
 rw [List.find?_range_eq_some]
 exact ⟨by rw [h]; rfl, List.mem_range.2 hi, fun j hj => by rw [hb j hj]; rfl⟩
theorem badN_none {r : RefD} (hb : ∀ j, j < r.2.length → mayAt r j = true) : badN r = none := by
 unfold badN
 rw [List.find?_eq_none]
 intro j hj
 rw [hb j (List.mem_range.1 hj)]
 simp
noncomputable def vldN (r : RefD) : Int := if @decide (TabOk r.1) (Classical.propDecidable _) then (match badN r with | some i => (i : Int) | none => 0) else 0
noncomputable def vldE (r : RefD) : Int := if @decide (TabOk r.1) (Classical.propDecidable _) then (match badN r with | some _ => 240 | none => 0) else 170
theorem vld_tab {r : RefD} (h : ¬ TabOk r.1) : vldN r = 0 ∧ vldE r = 170 := by
 unfold vldN vldE
 rw [if_neg (by simpa using h), if_neg (by simpa using h)]
 exact ⟨rfl, rfl⟩
theorem vld_bad {r : RefD} {i : Nat} (h : TabOk r.1) (hb : badN r = some i) : vldN r = i ∧ vldE r = 240 := by
 unfold vldN vldE
 rw [if_pos (by simpa using h), if_pos (by simpa using h), hb]
 exact ⟨rfl, rfl⟩
theorem vld_ok {r : RefD} (h : TabOk r.1) (hb : badN r = none) : vldN r = 0 ∧ vldE r = 0 := by
 unfold vldN vldE
 rw [if_pos (by simpa using h), if_pos (by simpa using h), hb]
 exact ⟨rfl, rfl⟩
open Go.Proofs.YtidgpkccjcddgaaGreatDoorW.PrintLast
theorem fval_inr {f : List (Int × RatD)} (h : ∀ m ∈ f, inr m.1) : ∀ m ∈ fval f, inr m.1 := fun m hm => by
 unfold fval at hm
 obtain ⟨x, hx, rfl⟩ := List.mem_map.1 hm
 exact h x hx
theorem AtIn.mf {w : World} {a : AtomD} {A : Option Addr} {c : Nat} {B : Option Addr} {d : Nat} {D : Option Addr} {e : Nat} (h : AtIn w a A c B d D e) : F.mf (nform (fval a.1.1.2)) ≤ 2097152 := by
 have h1 := mf_nform (fval a.1.1.2)
 have h2 := mf_fval h.good
 have h3 := h.few
 unfold wtAt at h3
 omega
theorem AtIn.tx {w : World} {a : AtomD} {A : Option Addr} {c : Nat} {B : Option Addr} {d : Nat} {D : Option Addr} {e : Nat} (h : AtIn w a A c B d D e) : TxOk (nform (fval a.1.1.2)) ∧ (tf (nform (fval a.1.1.2))).length ≤ 110000000 ∧ (tq (rq a.1.2)).length ≤ 50000000 := by
 have h1 := h.mf
 have h2 := CanF.of (fval_inr h.var)
 refine ⟨TxOk.of h2.var (by omega), ?_, ?_⟩
 · have := tf_len h2.var
   omega
 · have h3 := tq_len (rq a.1.2)
   have h4 := mu_rq h.goodB
   have h5 := h.few
   unfold wtAt at h5
   omega
set_option maxHeartbeats 2000000 in
set_option maxRecDepth 100000 in
theorem at_key (a : AtomD) (A : Option Addr) (c : Nat) (B : Option Addr) (d : Nat) (D : Option Addr) (e : Nat) (w : World) (h : AtIn w a A c B d D e) (hn : a.1.1.1.size ≤ 1048576) :
 Calls Tryz.prog 225 #[.agg (atc a A c B d D e).toArray] w (fun e' w' => e' = .returned (.string ⟨(keyA a).toArray⟩) ∧ Below w.heap.size w w') := by
 have hl := h.lens
 obtain ⟨tx1, tx2, tx3⟩ := h.tx
 have hT := Lib.hid (fun (W : World) (hb : Below w.heap.size w W) => linear_Text A c a.1.1.2 W (h.raw.below hb) tx1)
 have hR := Lib.hid (fun (W : World) (hb : Below w.heap.size w W) => ratio_Text a.1.2.1.1 B d a.1.2.1.2 D e a.1.2.2 W (h.bound.num.below hb) (by omega) (h.bound.den.below hb) (by omega))
 clear h hl tx1
 unfold atc keyA
 obtain ⟨⟨⟨nm, f⟩, ⟨⟨s, xs⟩, ys⟩⟩, st⟩ := a
 have hrv : rv s xs ys = rq ((s, xs), ys) := rfl
 dsimp only at *
 rw [hrv] at hR
 clear hrv
 generalize tf (nform (fval f)) = tx at *
 generalize tq (rq ((s, xs), ys)) = ty at *
 have HF := Lib.hid ((Fr.refl w).box [.string nm, .slice A f.length c, .bool s, .slice B xs.length d, .slice D ys.length e, .bool st] 84)
 generalize f.length = n1 at *
 generalize xs.length = n2 at *
 generalize ys.length = n3 at *
 simp only [List.toArray] at *
 have HS := Lib.hid (show ∀ b : UInt8, (((((⟨#[b]⟩ : ByteArray) ++ ⟨tx.toArray⟩) ++ ⟨#[32]⟩) ++ ⟨ty.toArray⟩) ++ ⟨#[32]⟩) ++ nm = ⟨(b :: (tx ++ 32 :: (ty ++ 32 :: nm.data.toList))).toArray⟩ from fun b => by
  obtain ⟨dn⟩ := nm
  rw [show (⟨#[b]⟩ : ByteArray) = ⟨[b].toArray⟩ from rfl, show (⟨#[32]⟩ : ByteArray) = ⟨[32].toArray⟩ from rfl, show (⟨dn⟩ : ByteArray) = ⟨dn.toList.toArray⟩ from rfl, str_append, str_append, str_append, str_append, str_append]
  simp)
 cases st with
 | true =>
  go_enter Tryz.func225, Tryz.ntmps225
  go_wp2_with fail
  generalize World.alloc _ _ = W at HF ⊢
  have HF_ := Lib.hid HF.out.drew
  clear HF
  have HF := HF_
  clear HF_
  refine start_ (n := 15) (S := fun w' => w'.cell? ⟨w.heap.size, 0, none⟩ = some (.string nm) ∧ w'.cell? ⟨w.heap.size, 1, none⟩ = some (.slice A n1 c) ∧ w'.cell? ⟨w.heap.size, 2, none⟩ = some (.bool s) ∧ w'.cell? ⟨w.heap.size, 3, none⟩ = some (.slice B n2 d) ∧ w'.cell? ⟨w.heap.size, 4, none⟩ = some (.slice D n3 e) ∧ w'.cell? ⟨w.heap.size, 5, none⟩ = some (.bool true)) (ds := []) #[false, false, false, false, false, false, false, false, false, false, false, false, false, false, false] (by kernel_rfl) rfl rfl ⟨HF.out.cellN 0 rfl 0 rfl, HF.out.cellN 0 rfl 1 rfl, HF.out.cellN 0 rfl 2 rfl, HF.out.cellN 0 rfl 3 rfl, HF.out.cellN 0 rfl 4 rfl, HF.out.cellN 0 rfl 5 rfl⟩ (fun hHeld => ?_)
  generalize World.drew _ = W at *
  refine pu_ (v := ?_) (a' := ?_) 0 (some 6) rfl rfl ?_ ?_ ?_
  rotate_left; · intro w'; go_simp; with_reducible rfl
  rotate_left
  · simp only [Act.put, sa_, sb_, sc_]
    rfl
  refine pu_ (v := ?_) (a' := ?_) 1 (some 7) rfl rfl ?_ ?_ ?_
  rotate_left; · intro w'; go_simp; with_reducible rfl
  rotate_left
  · simp only [Act.put, sa_, sb_, sc_]
    rfl
  refine pu_ (v := ?_) (a' := ?_) 6 (some 12) rfl rfl ?_ ?_ ?_
  rotate_left; · intro w'; go_simp; with_reducible rfl
  rotate_left
  · simp only [Act.put, sa_, sb_, sc_]
    rfl
  refine pu_ (v := ?_) (a' := ?_) 11 (some 17) rfl rfl ?_ ?_ ?_
  rotate_left; · intro w'; go_simp; with_reducible rfl
  rotate_left
  · simp only [Act.put, sa_, sb_, sc_]
    rfl
  refine tk_ (v := ?_) (a' := ?_) 2 (some 8) rfl rfl ?_ hHeld ?_ ?_
  rotate_left
  · rintro w' ⟨s0, s1, s2, s3, s4, s5⟩; go_simp; with_reducible rfl
  rotate_left
  · simp only [Act.put, sa_, sb_, sc_]
    rfl
  refine tk_ (v := ?_) (a' := ?_) 7 (some 13) rfl rfl ?_ hHeld ?_ ?_
  rotate_left
  · rintro w' ⟨s0, s1, s2, s3, s4, s5⟩; go_simp; with_reducible rfl
  rotate_left
  · simp only [Act.put, sa_, sb_, sc_]
    rfl
  refine tk_ (v := ?_) (a' := ?_) 12 (some 18) rfl rfl ?_ hHeld ?_ ?_
  rotate_left
  · rintro w' ⟨s0, s1, s2, s3, s4, s5⟩; go_simp; with_reducible rfl
  rotate_left
  · simp only [Act.put, sa_, sb_, sc_]
    rfl
  refine on_ 3 (N := (some 9)) rfl rfl (fun K hK => ?_)
  refine goes_ Tryz.func17 (by kernel_rfl) rfl #[.slice A n1 c] (by rfl) rfl rfl (by (try simp only [List.map_toArray, List.map_cons, List.map_nil]); first | done | rfl) ?_
  refine (hT.out W HF.out.bel).mono ?_
  rintro e W1 ⟨rfl, q1⟩
  refine ⟨_, rfl, ?_⟩
  replace HF := Lib.hid (HF.out.below q1)
  clear q1 hT
  refine hK.out _ _ ⟨HF.out.cellN 0 rfl 0 rfl, HF.out.cellN 0 rfl 1 rfl, HF.out.cellN 0 rfl 2 rfl, HF.out.cellN 0 rfl 3 rfl, HF.out.cellN 0 rfl 4 rfl, HF.out.cellN 0 rfl 5 rfl⟩ (fun hHeld => ?_)
  clear hK K
  refine norm_ (a' := ?_) ?_ ?_
  rotate_left
  · show Act.put _ (some 9) _ = _
    simp only [Act.put, sa_, sb_, sc_]
    rfl
  refine pu_ (v := ?_) (a' := ?_) 4 (some 10) rfl rfl ?_ ?_ ?_
  rotate_left; · intro w'; go_simp; first | with_reducible rfl | rw [if_neg (by omega)]
  rotate_left
  · simp only [Act.put, sa_, sb_, sc_]
    rfl
  refine pu_ (v := ?_) (a' := ?_) 5 (some 11) rfl rfl ?_ ?_ ?_
  rotate_left; · intro w'; go_simp; first | with_reducible rfl | rw [if_neg (by omega)]
  rotate_left
  · simp only [Act.put, sa_, sb_, sc_]
    rfl
  refine on_ 8 (N := (some 14)) rfl rfl (fun K hK => ?_)
  refine goes_ Tryz.func60 (by kernel_rfl) rfl #[.agg #[.bool s, .slice B n2 d, .slice D n3 e]] (by rfl) rfl rfl (by (try simp only [List.map_toArray, List.map_cons, List.map_nil]); first | done | rfl) ?_
  refine (hR.out W1 HF.out.bel).mono ?_
  rintro e W2 ⟨rfl, q1⟩
  refine ⟨_, rfl, ?_⟩
  replace HF := Lib.hid (HF.out.below q1)
  clear q1 hR
  refine hK.out _ _ ⟨HF.out.cellN 0 rfl 0 rfl, HF.out.cellN 0 rfl 1 rfl, HF.out.cellN 0 rfl 2 rfl, HF.out.cellN 0 rfl 3 rfl, HF.out.cellN 0 rfl 4 rfl, HF.out.cellN 0 rfl 5 rfl⟩ (fun hHeld => ?_)
  clear hK K
  refine norm_ (a' := ?_) ?_ ?_
  rotate_left
  · show Act.put _ (some 14) _ = _
    simp only [Act.put, sa_, sb_, sc_]
    rfl
  refine pu_ (v := ?_) (a' := ?_) 9 (some 15) rfl rfl ?_ ?_ ?_
  rotate_left; · intro w'; go_simp; first | with_reducible rfl | rw [if_neg (by omega)]
  rotate_left
  · simp only [Act.put, sa_, sb_, sc_]
    rfl
  refine pu_ (v := ?_) (a' := ?_) 10 (some 16) rfl rfl ?_ ?_ ?_
  rotate_left; · intro w'; go_simp; first | with_reducible rfl | rw [if_neg (by omega)]
  rotate_left
  · simp only [Act.put, sa_, sb_, sc_]
    rfl
  refine pu_ (v := ?_) (a' := ?_) 13 (some 19) rfl rfl ?_ ?_ ?_
  rotate_left; · intro w'; go_simp; first | with_reducible rfl | rw [if_neg (by omega)]
  rotate_left
  · simp only [Act.put, sa_, sb_, sc_]
    rfl
  refine pu_ (v := ?_) (a' := ?_) 14 (some 2) rfl rfl ?_ ?_ ?_
  rotate_left; · intro w'; go_simp; with_reducible rfl
  rotate_left
  · simp only [Act.put, sa_, sb_, sc_]
    rfl
  refine done_ (by kernel_rfl) ?_
  have hS := HS.out 60
  go_wp2
  go_ret
  exact ⟨rfl, HF.out.bel⟩
 | false =>
  go_enter Tryz.func225, Tryz.ntmps225
  go_wp2_with fail
  generalize World.alloc _ _ = W at HF ⊢
  have HF_ := Lib.hid HF.out.drew
  clear HF
  have HF := HF_
  clear HF_
  refine start_ (n := 15) (S := fun w' => w'.cell? ⟨w.heap.size, 0, none⟩ = some (.string nm) ∧ w'.cell? ⟨w.heap.size, 1, none⟩ = some (.slice A n1 c) ∧ w'.cell? ⟨w.heap.size, 2, none⟩ = some (.bool s) ∧ w'.cell? ⟨w.heap.size, 3, none⟩ = some (.slice B n2 d) ∧ w'.cell? ⟨w.heap.size, 4, none⟩ = some (.slice D n3 e) ∧ w'.cell? ⟨w.heap.size, 5, none⟩ = some (.bool false)) (ds := []) #[false, false, false, false, false, false, false, false, false, false, false, false, false, false, false] (by kernel_rfl) rfl rfl ⟨HF.out.cellN 0 rfl 0 rfl, HF.out.cellN 0 rfl 1 rfl, HF.out.cellN 0 rfl 2 rfl, HF.out.cellN 0 rfl 3 rfl, HF.out.cellN 0 rfl 4 rfl, HF.out.cellN 0 rfl 5 rfl⟩ (fun hHeld => ?_)
  generalize World.drew _ = W at *
  refine pu_ (v := ?_) (a' := ?_) 0 (some 6) rfl rfl ?_ ?_ ?_
  rotate_left; · intro w'; go_simp; with_reducible rfl
  rotate_left
  · simp only [Act.put, sa_, sb_, sc_]
    rfl
  refine pu_ (v := ?_) (a' := ?_) 1 (some 7) rfl rfl ?_ ?_ ?_
  rotate_left; · intro w'; go_simp; with_reducible rfl
  rotate_left
  · simp only [Act.put, sa_, sb_, sc_]
    rfl
  refine pu_ (v := ?_) (a' := ?_) 6 (some 12) rfl rfl ?_ ?_ ?_
  rotate_left; · intro w'; go_simp; with_reducible rfl
  rotate_left
  · simp only [Act.put, sa_, sb_, sc_]
    rfl
  refine pu_ (v := ?_) (a' := ?_) 11 (some 17) rfl rfl ?_ ?_ ?_
  rotate_left; · intro w'; go_simp; with_reducible rfl
  rotate_left
  · simp only [Act.put, sa_, sb_, sc_]
    rfl
  refine tk_ (v := ?_) (a' := ?_) 2 (some 8) rfl rfl ?_ hHeld ?_ ?_
  rotate_left
  · rintro w' ⟨s0, s1, s2, s3, s4, s5⟩; go_simp; with_reducible rfl
  rotate_left
  · simp only [Act.put, sa_, sb_, sc_]
    rfl
  refine tk_ (v := ?_) (a' := ?_) 7 (some 13) rfl rfl ?_ hHeld ?_ ?_
  rotate_left
  · rintro w' ⟨s0, s1, s2, s3, s4, s5⟩; go_simp; with_reducible rfl
  rotate_left
  · simp only [Act.put, sa_, sb_, sc_]
    rfl
  refine tk_ (v := ?_) (a' := ?_) 12 (some 18) rfl rfl ?_ hHeld ?_ ?_
  rotate_left
  · rintro w' ⟨s0, s1, s2, s3, s4, s5⟩; go_simp; with_reducible rfl
  rotate_left
  · simp only [Act.put, sa_, sb_, sc_]
    rfl
  refine on_ 3 (N := (some 9)) rfl rfl (fun K hK => ?_)
  refine goes_ Tryz.func17 (by kernel_rfl) rfl #[.slice A n1 c] (by rfl) rfl rfl (by (try simp only [List.map_toArray, List.map_cons, List.map_nil]); first | done | rfl) ?_
  refine (hT.out W HF.out.bel).mono ?_
  rintro e W1 ⟨rfl, q1⟩
  refine ⟨_, rfl, ?_⟩
  replace HF := Lib.hid (HF.out.below q1)
  clear q1 hT
  refine hK.out _ _ ⟨HF.out.cellN 0 rfl 0 rfl, HF.out.cellN 0 rfl 1 rfl, HF.out.cellN 0 rfl 2 rfl, HF.out.cellN 0 rfl 3 rfl, HF.out.cellN 0 rfl 4 rfl, HF.out.cellN 0 rfl 5 rfl⟩ (fun hHeld => ?_)
  clear hK K
  refine norm_ (a' := ?_) ?_ ?_
  rotate_left
  · show Act.put _ (some 9) _ = _
    simp only [Act.put, sa_, sb_, sc_]
    rfl
  refine pu_ (v := ?_) (a' := ?_) 4 (some 10) rfl rfl ?_ ?_ ?_
  rotate_left; · intro w'; go_simp; first | with_reducible rfl | rw [if_neg (by omega)]
  rotate_left
  · simp only [Act.put, sa_, sb_, sc_]
    rfl
  refine pu_ (v := ?_) (a' := ?_) 5 (some 11) rfl rfl ?_ ?_ ?_
  rotate_left; · intro w'; go_simp; first | with_reducible rfl | rw [if_neg (by omega)]
  rotate_left
  · simp only [Act.put, sa_, sb_, sc_]
    rfl
  refine on_ 8 (N := (some 14)) rfl rfl (fun K hK => ?_)
  refine goes_ Tryz.func60 (by kernel_rfl) rfl #[.agg #[.bool s, .slice B n2 d, .slice D n3 e]] (by rfl) rfl rfl (by (try simp only [List.map_toArray, List.map_cons, List.map_nil]); first | done | rfl) ?_
  refine (hR.out W1 HF.out.bel).mono ?_
  rintro e W2 ⟨rfl, q1⟩
  refine ⟨_, rfl, ?_⟩
  replace HF := Lib.hid (HF.out.below q1)
  clear q1 hR
  refine hK.out _ _ ⟨HF.out.cellN 0 rfl 0 rfl, HF.out.cellN 0 rfl 1 rfl, HF.out.cellN 0 rfl 2 rfl, HF.out.cellN 0 rfl 3 rfl, HF.out.cellN 0 rfl 4 rfl, HF.out.cellN 0 rfl 5 rfl⟩ (fun hHeld => ?_)
  clear hK K
  refine norm_ (a' := ?_) ?_ ?_
  rotate_left
  · show Act.put _ (some 14) _ = _
    simp only [Act.put, sa_, sb_, sc_]
    rfl
  refine pu_ (v := ?_) (a' := ?_) 9 (some 15) rfl rfl ?_ ?_ ?_
  rotate_left; · intro w'; go_simp; first | with_reducible rfl | rw [if_neg (by omega)]
  rotate_left
  · simp only [Act.put, sa_, sb_, sc_]
    rfl
  refine pu_ (v := ?_) (a' := ?_) 10 (some 16) rfl rfl ?_ ?_ ?_
  rotate_left; · intro w'; go_simp; first | with_reducible rfl | rw [if_neg (by omega)]
  rotate_left
  · simp only [Act.put, sa_, sb_, sc_]
    rfl
  refine pu_ (v := ?_) (a' := ?_) 13 (some 19) rfl rfl ?_ ?_ ?_
  rotate_left; · intro w'; go_simp; first | with_reducible rfl | rw [if_neg (by omega)]
  rotate_left
  · simp only [Act.put, sa_, sb_, sc_]
    rfl
  refine pu_ (v := ?_) (a' := ?_) 14 (some 2) rfl rfl ?_ ?_ ?_
  rotate_left; · intro w'; go_simp; with_reducible rfl
  rotate_left
  · simp only [Act.put, sa_, sb_, sc_]
    rfl
  refine done_ (by kernel_rfl) ?_
  have hS := HS.out 61
  go_wp2
  go_ret
  exact ⟨rfl, HF.out.bel⟩
end Go.Proofs.YtidgpkccjcddgaaGreatDoor.F
