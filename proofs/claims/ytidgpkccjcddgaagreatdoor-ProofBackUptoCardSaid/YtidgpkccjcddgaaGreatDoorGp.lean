/- The walks of the reference's layer 3, last part: Neg, Sub, Cmp. -/
import Derived.Test.YtidgpkccjcddgaaGreatDoorGh
import Derived.Test.YtidgpkccjcddgaaGreatDoorGl
set_option linter.unusedVariables false
set_option linter.unusedSimpArgs false
namespace Go.Proofs.YtidgpkccjcddgaaGreatDoor.F
open Go.RowKit Go.Shelf Go.Proofs.YtidgpkccjcddgaaGreatDoorW.PrintLast
structure RC where
 v : Int
 s : Bool
 A : Option Addr
 c : Nat
 xs : List Int
 B : Option Addr
 d : Nat
 ys : List Int
def RC.cells (r : RC) : List Value := [.int .i64 r.v, .bool r.s, .slice r.A r.xs.length r.c, .slice r.B r.ys.length r.d]
def RC.val (r : RC) : Int × RatD := (r.v, (r.s, r.xs), r.ys)
structure RC.At (w : World) (r : RC) : Prop where
 lies : LiesQ w ((r.s, r.xs), r.ys) r.A r.c r.B r.d
 nx : r.xs.length ≤ 9223372036854775807
 ny : r.ys.length ≤ 9223372036854775807
theorem RC.At.keep {w w' : World} {r : RC} (h : r.At w) (hk : KeepU w w') : r.At w' := ⟨⟨h.lies.1, h.lies.2.1, h.lies.2.2.1.keep hk, h.lies.2.2.2.keep hk⟩, h.nx, h.ny⟩
theorem rflat_at (rs : List RC) (i j : Nat) (u : Value) (h : i < rs.length) (hu : rs[i].cells[j]? = some u) : (rs.flatMap RC.cells)[i * 4 + j]? = some u := by
 induction rs generalizing i with
 | nil => simp at h
 | cons r rs ih =>
  rw [List.flatMap_cons]
  cases i with
  | zero =>
   rw [Nat.zero_mul, Nat.zero_add, List.getElem?_append_left]
   · exact hu
   · exact (List.getElem?_eq_some_iff.1 hu).1
  | succ i =>
   rw [List.getElem?_append_right (by show 4 ≤ _; omega)]
   rw [show (i + 1) * 4 + j - r.cells.length = i * 4 + j by show _ - 4 = _; omega]
   exact ih i (by simpa using h) (by simpa using hu)
theorem kMono_rc {w : World} {r : RC} (h : r.At w) : kMono.C w r.val r.cells :=
 ⟨[_], [_, _, _], rfl, rfl, [_, _], [_], rfl, ⟨[_], [_], rfl, rfl, r.A, r.c, rfl, h.lies.1, h.nx, h.lies.2.2.1⟩, r.B, r.d, rfl, h.lies.2.1, h.ny, h.lies.2.2.2⟩
theorem row_raw {w : World} {A : Option Addr} {rs : List RC} {f : List (Int × RatD)} (hl : rs.map RC.val = f) (hr : ∀ r ∈ rs, r.At w) (hc : 0 < f.length → ∃ ad, A = some ad ∧ ∀ j u, (rs.flatMap RC.cells)[j]? = some u → w.cell? (ad.add j) = some u) : kMono.Row w A f := by
 subst hl
 intro i hi
 have hi' : i < rs.length := by simpa using hi
 obtain ⟨ad, rfl, h⟩ := hc (by simp; omega)
 refine ⟨ad, rs[i].cells, rfl, ?_, fun j u hu => h _ u (rflat_at rs i j u hi' hu)⟩
 simp only [List.getElem_map]
 exact kMono_rc (hr _ (List.getElem_mem hi'))
def OwnW (w : World) (B : Nat) (v : Value) (f : List (Int × RatD)) : Prop := ∃ rs : List RC, rs.map RC.val = f ∧ OwnL w B 57 4 v f.length (rs.flatMap RC.cells) ∧ ∀ r ∈ rs, r.At w
theorem OwnW.nil (w : World) (B : Nat) : OwnW w B (.slice none 0 0) [] := ⟨[], rfl, OwnL.nil _ _ _ _, fun r h => by cases h⟩
theorem OwnW.fin {w : World} {B : Nat} {v : Value} {f : List (Int × RatD)} (h : OwnW w B v f) : ∃ A c, v = .slice A f.length c ∧ kMono.Row w A f ∧ f.length ≤ c := by
 obtain ⟨rs, h1, h2, h3⟩ := h
 obtain ⟨A, c, rfl, hc, _, h4⟩ := h2.form
 exact ⟨A, c, rfl, row_raw h1 h3 h4, hc⟩
theorem FRaw.small {w : World} {A : Option Addr} {c : Nat} {f : List (Int × RatD)} (h : FRaw w A c f) : ∀ m ∈ f, m.2.1.2.length ≤ 9223372036854775807 ∧ m.2.2.length ≤ 9223372036854775807 := fun m hm => by
 have h1 := (h.good m hm).mn
 have h2 := (h.good m hm).md
 have h3 : wtm m ≤ (f.map wtm).sum := le_sum hm
 have h4 := wt_le m
 have h5 := h.sum
 omega
theorem FRaw.of {w : World} {A : Option Addr} {c : Nat} {f : List (Int × RatD)} (h : kMono.Row w A f) (hc : f.length ≤ c) (hf : ∀ m ∈ f, Good (wt m.2) m.2) (hb : (f.map wtm).sum ≤ 1048576) : FRaw w A c f := ⟨h, hc, hf, by omega⟩
def ToldE (w : World) (q : Rat) (e : Ending) (w' : World) : Prop := ∃ A c B d, e = .returned (.tuple #[.agg #[.bool (decide (q.num < 0)), .slice A (dg q.num.natAbs).length c, .slice B (dg q.den).length d], .int .i64 0]) ∧ InQ w' A c B d q ∧ Below w.heap.size w w'
theorem rv_div (s : Bool) {xs ys : List Int} (hy : 0 ≤ V ys) : rv s xs ys = ((iv s (V xs) : Int) : Rat) / ((V ys : Int) : Rat) := by
 unfold rv
 rw [Rat.mkRat_eq_div]
 congr 1
 rw [show ((V ys).toNat : Rat) = (((V ys).toNat : Int) : Rat) from rfl, Int.toNat_of_nonneg hy]
theorem inv_div (q : Rat) : ((q.den : Int) : Rat) / ((q.num : Int) : Rat) = q⁻¹ := by
 have h : (q.num : Rat) / (q.den : Rat) = q := by rw [← Rat.mkRat_eq_div, Rat.mkRat_self]
 have hd : ((q.den : Int) : Rat) = (q.den : Rat) := rfl
 have hne : (q.den : Rat) ≠ 0 := by
  intro e
  have e2 : ((q.den : Int) : Rat) = ((0 : Int) : Rat) := e
  have := Rat.intCast_inj.1 e2
  have := q.den_pos
  omega
 rw [hd]
 generalize (q.den : Rat) = d at *
 generalize (q.num : Rat) = n at *
 subst h
 grind
set_option maxHeartbeats 1000000 in
set_option maxRecDepth 100000 in
theorem ratio_Of_some (s : Bool) (A : Option Addr) (c : Nat) (xs : List Int) (t : Bool) (B : Option Addr) (d : Nat) (ys : List Int) (w : World) (h : In w A c xs) (hm : xs.length ≤ 549755813888) (k : In w B d ys) (km : ys.length ≤ 549755813888) (hz : iv t (V ys) ≠ 0) :
 Calls Tryz.prog 152 #[.agg #[.bool s, .slice A xs.length c], .agg #[.bool t, .slice B ys.length d]] w (ToldE w (((iv s (V xs) : Int) : Rat) / ((iv t (V ys) : Int) : Rat))) := by
 have hv := V_nonneg k.lim
 have hvp : 0 < V ys := by unfold iv at hz; split at hz <;> omega
 have hlx := dg_abs_le (iv_lt h.lim s)
 have hS := Lib.hid (fun (W : World) (hb : Below w.heap.size w W) => whole_Sign t B d ys W (k.below hb).row k.lim k.cap (by omega))
 have HF := Lib.hid ((((Fr.refl w).box [.bool s, .slice A xs.length c] 41).box [.bool t, .slice B ys.length d] 41).box [.bool false, .slice none 0 0, .slice none 0 0] 43)
 have hsz : ∀ (w : World) (o : Obj), (w.alloc o).heap.size = w.heap.size + 1 := fun w o => by simp
 simp only [hsz, Nat.add_assoc, Nat.reduceAdd] at HF
 clear hsz
 by_cases hneg : iv t (V ys) < 0
 · have hG := Lib.hid (fun (W : World) (hb : Below w.heap.size w W) => whole_Neg s A c xs W (h.below hb) (by omega))
   have e1 : iv t (V ys) = - V ys := by unfold iv at hneg ⊢; split at hneg <;> simp_all <;> omega
   have hM := Lib.hid (fun (W : World) (hb : Below w.heap.size w W) (A1 : Option Addr) (c1 : Nat) (k1 : In W A1 c1 (dg (-iv s (V xs)).natAbs)) => ratio_made (decide (-iv s (V xs) < 0)) A1 c1 _ B d ys W k1 (by rw [Int.natAbs_neg]; omega) (k.below hb) (by omega) hvp)
   have e2 : rv (decide (-iv s (V xs) < 0)) (dg (-iv s (V xs)).natAbs) ys = ((iv s (V xs) : Int) : Rat) / ((iv t (V ys) : Int) : Rat) := by
    rw [rv_div _ hv, iv_can, e1, Rat.intCast_neg, Rat.intCast_neg]
    grind
   rw [e2] at hM
   rw [show sgn (iv t (V ys)) = -1 from if_pos hneg] at hS
   generalize ((iv s (V xs) : Int) : Rat) / ((iv t (V ys) : Int) : Rat) = q at *
   generalize -iv s (V xs) = n at *
   clear h k hz hv hvp hlx hneg e1 e2
   have hS2 := hS
   go_enter Tryz.func152, Tryz.ntmps152
   go_wp2_with fail
   refine (hS.out _ HF.out.bel).mono ?_
   rintro e W1 ⟨rfl, hb⟩
   replace HF := Lib.hid (HF.out.below hb)
   clear hb hS
   have b0 := HF.out.cellN 1 rfl 0 rfl
   have b1 := HF.out.cellN 1 rfl 1 rfl
   go_wp2_with fail
   refine (hS2.out _ HF.out.bel).mono ?_
   rintro e W2 ⟨rfl, hb⟩
   replace HF := Lib.hid (HF.out.below hb)
   clear hb hS2 b0 b1
   have b0 := HF.out.cellN 2 rfl 0 rfl
   have b1 := HF.out.cellN 2 rfl 1 rfl
   go_wp2_with fail
   refine (hG.out _ HF.out.bel).mono ?_
   rintro e W3 ⟨A1, c1, rfl, q1, q2, q3⟩
   replace HF := Lib.hid (HF.out.below q3)
   have Q1 := Lib.hid (In.dg q2 q1)
   clear q1 q2 q3 hG b0 b1
   have hf0 := HF.out.frozenN 2 rfl 0
   have hf1 := HF.out.frozenN 2 rfl 1
   have hd0 := HF.out.cellN 2 rfl 0 rfl
   have hd1 := HF.out.cellN 2 rfl 1 rfl
   replace Q1 := Lib.hid (Q1.out.put2 (HF.out.ownN 2 rfl) (by simp) (a := .bool (decide (n < 0))) (by simp) (.slice A1 (dg n.natAbs).length c1))
   replace HF := Lib.hid (HF.out.put2 2 rfl (by omega) (by simp <;> omega) (.bool (decide (n < 0))) (.slice A1 (dg n.natAbs).length c1))
   have b1 := HF.out.cellN 1 rfl 1 rfl
   go_wp2_with fail
   clear hf0 hf1 hd0 hd1
   refine (hM.out _ HF.out.bel A1 c1 Q1.out).mono ?_
   rintro e W4 ⟨A2, c2, B2, d2, rfl, q1, q2, q3⟩
   replace HF := Lib.hid (HF.out.below q3)
   have Q2 := Lib.hid (InQ.mk q1 q2)
   clear q1 q2 q3 hM Q1 b1
   have hf0 := HF.out.frozenN 0 rfl 0
   have hf1 := HF.out.frozenN 0 rfl 1
   have hf2 := HF.out.frozenN 0 rfl 2
   have hd0 := HF.out.cellN 0 rfl 0 rfl
   have hd1 := HF.out.cellN 0 rfl 1 rfl
   have hd2 := HF.out.cellN 0 rfl 2 rfl
   replace Q2 := Lib.hid (Q2.out.put3 (HF.out.ownN 0 rfl) (by simp) (a := .bool (decide (q.num < 0))) (by simp) (b := .slice A2 (dg q.num.natAbs).length c2) (by simp) (.slice B2 (dg q.den).length d2))
   replace HF := Lib.hid (HF.out.put3 0 rfl (by omega) (by simp <;> omega) (.bool (decide (q.num < 0))) (.slice A2 (dg q.num.natAbs).length c2) (.slice B2 (dg q.den).length d2))
   go_wp2
   exact post_own2 (HF.out.ownN 0 rfl) rfl rfl rfl rfl Tryz.underlying43 rfl (by kernel_rfl) ⟨_, _, _, _, rfl, Q2.out, HF.out.bel⟩
 · have e1 : iv t (V ys) = V ys := by unfold iv at hneg ⊢; split at hneg <;> simp_all <;> omega
   have hM := Lib.hid (fun (W : World) (hb : Below w.heap.size w W) => ratio_made s A c xs B d ys W (h.below hb) (by omega) (k.below hb) (by omega) hvp)
   have e2 : rv s xs ys = ((iv s (V xs) : Int) : Rat) / ((iv t (V ys) : Int) : Rat) := by rw [rv_div _ hv, e1]
   rw [e2] at hM
   rw [show sgn (iv t (V ys)) = 1 from by unfold sgn; rw [if_neg hneg, if_pos (by omega)]] at hS
   generalize ((iv s (V xs) : Int) : Rat) / ((iv t (V ys) : Int) : Rat) = q at *
   clear h k hz hv hvp hlx hneg e1 e2
   have hS2 := hS
   go_enter Tryz.func152, Tryz.ntmps152
   go_wp2_with fail
   refine (hS.out _ HF.out.bel).mono ?_
   rintro e W1 ⟨rfl, hb⟩
   replace HF := Lib.hid (HF.out.below hb)
   clear hb hS
   have b0 := HF.out.cellN 1 rfl 0 rfl
   have b1 := HF.out.cellN 1 rfl 1 rfl
   go_wp2_with fail
   refine (hS2.out _ HF.out.bel).mono ?_
   rintro e W2 ⟨rfl, hb⟩
   replace HF := Lib.hid (HF.out.below hb)
   clear hb hS2 b0 b1
   have b0 := HF.out.cellN 2 rfl 0 rfl
   have b1 := HF.out.cellN 2 rfl 1 rfl
   have b2 := HF.out.cellN 1 rfl 1 rfl
   go_wp2_with fail
   refine (hM.out _ HF.out.bel).mono ?_
   rintro e W4 ⟨A2, c2, B2, d2, rfl, q1, q2, q3⟩
   replace HF := Lib.hid (HF.out.below q3)
   have Q2 := Lib.hid (InQ.mk q1 q2)
   clear q1 q2 q3 hM b0 b1 b2
   have hf0 := HF.out.frozenN 0 rfl 0
   have hf1 := HF.out.frozenN 0 rfl 1
   have hf2 := HF.out.frozenN 0 rfl 2
   have hd0 := HF.out.cellN 0 rfl 0 rfl
   have hd1 := HF.out.cellN 0 rfl 1 rfl
   have hd2 := HF.out.cellN 0 rfl 2 rfl
   replace Q2 := Lib.hid (Q2.out.put3 (HF.out.ownN 0 rfl) (by simp) (a := .bool (decide (q.num < 0))) (by simp) (b := .slice A2 (dg q.num.natAbs).length c2) (by simp) (.slice B2 (dg q.den).length d2))
   replace HF := Lib.hid (HF.out.put3 0 rfl (by omega) (by simp <;> omega) (.bool (decide (q.num < 0))) (.slice A2 (dg q.num.natAbs).length c2) (.slice B2 (dg q.den).length d2))
   go_wp2
   exact post_own2 (HF.out.ownN 0 rfl) rfl rfl rfl rfl Tryz.underlying43 rfl (by kernel_rfl) ⟨_, _, _, _, rfl, Q2.out, HF.out.bel⟩
set_option maxHeartbeats 1000000 in
set_option maxRecDepth 100000 in
theorem ratio_Inv_some (s : Bool) (A : Option Addr) (c : Nat) (xs : List Int) (B : Option Addr) (d : Nat) (ys : List Int) (w : World) (h : In w A c xs) (hm : xs.length ≤ 274877906944) (k : In w B d ys) (km : ys.length ≤ 274877906944) (hz : rv s xs ys ≠ 0) :
 Calls Tryz.prog 147 #[.agg #[.bool s, .slice A xs.length c, .slice B ys.length d]] w (ToldE w (rv s xs ys)⁻¹) := by
 have hN := Lib.hid (fun (W : World) (hb : Below w.heap.size w W) => ratio_Norm s A c xs B d ys W (h.below hb) (by omega) (k.below hb) (by omega))
 have hl := rv_len s h.lim k.lim
 have hO := Lib.hid (fun (W : World) (A1 : Option Addr) (c1 : Nat) (B1 : Option Addr) (d1 : Nat) (q : InQ W A1 c1 B1 d1 (rv s xs ys)) => ratio_Of_some false B1 d1 (dg (rv s xs ys).den) (decide ((rv s xs ys).num < 0)) A1 c1 _ W q.den (by omega) q.num (by omega) (by rw [iv_can]; exact fun e => hz (Rat.num_eq_zero.1 e)))
 rw [iv_can, show iv false (V (dg (rv s xs ys).den)) = ((rv s xs ys).den : Int) from by rw [V_dg]; rfl, inv_div] at hO
 generalize rv s xs ys = q at *
 clear h k hl hz
 generalize q⁻¹ = p at *
 have HF := Lib.hid (((Fr.refl w).box [.bool s, .slice A xs.length c, .slice B ys.length d] 43).box [.bool false, .slice none 0 0, .slice none 0 0] 43)
 have hsz : ∀ (w : World) (o : Obj), (w.alloc o).heap.size = w.heap.size + 1 := fun w o => by simp
 simp only [hsz, Nat.add_assoc, Nat.reduceAdd] at HF
 clear hsz
 go_enter Tryz.func147, Tryz.ntmps147
 go_wp2_with fail
 refine (hN.out _ HF.out.bel).mono ?_
 rintro e W1 ⟨A2, c2, B2, d2, rfl, q1, q2, q3⟩
 replace HF := Lib.hid (HF.out.below q3)
 have Q1 := Lib.hid (InQ.mk q1 q2)
 clear q1 q2 q3 hN
 have hf0 := HF.out.frozenN 1 rfl 0
 have hf1 := HF.out.frozenN 1 rfl 1
 have hf2 := HF.out.frozenN 1 rfl 2
 have hd0 := HF.out.cellN 1 rfl 0 rfl
 have hd1 := HF.out.cellN 1 rfl 1 rfl
 have hd2 := HF.out.cellN 1 rfl 2 rfl
 replace Q1 := Lib.hid (Q1.out.put3 (HF.out.ownN 1 rfl) (by simp) (a := .bool (decide (q.num < 0))) (by simp) (b := .slice A2 (dg q.num.natAbs).length c2) (by simp) (.slice B2 (dg q.den).length d2))
 replace HF := Lib.hid (HF.out.put3 1 rfl (by omega) (by simp <;> omega) (.bool (decide (q.num < 0))) (.slice A2 (dg q.num.natAbs).length c2) (.slice B2 (dg q.den).length d2))
 go_wp2_with fail
 clear hf0 hf1 hf2 hd0 hd1 hd2
 generalize World.setCell _ _ _ = W at HF Q1 ⊢
 refine (hO.out _ A2 c2 B2 d2 Q1.out).mono ?_
 rintro e W2 ⟨A3, c3, B3, d3, rfl, q1, hb⟩
 replace HF := Lib.hid (HF.out.below hb)
 have Q2 := Lib.hid q1
 clear hb hO Q1 q1
 have hf0 := HF.out.frozenN 0 rfl 0
 have hf1 := HF.out.frozenN 0 rfl 1
 have hf2 := HF.out.frozenN 0 rfl 2
 have hd0 := HF.out.cellN 0 rfl 0 rfl
 have hd1 := HF.out.cellN 0 rfl 1 rfl
 have hd2 := HF.out.cellN 0 rfl 2 rfl
 replace Q2 := Lib.hid (Q2.out.put3 (HF.out.ownN 0 rfl) (by simp) (a := .bool (decide (p.num < 0))) (by simp) (b := .slice A3 (dg p.num.natAbs).length c3) (by simp) (.slice B3 (dg p.den).length d3))
 replace HF := Lib.hid (HF.out.put3 0 rfl (by omega) (by simp <;> omega) (.bool (decide (p.num < 0))) (.slice A3 (dg p.num.natAbs).length c3) (.slice B3 (dg p.den).length d3))
 go_wp2
 exact post_own2 (HF.out.ownN 0 rfl) rfl rfl rfl rfl Tryz.underlying43 rfl (by kernel_rfl) ⟨_, _, _, _, rfl, Q2.out, HF.out.bel⟩
theorem OwnF.fin' {w : World} {B : Nat} {E : Option Addr} {n j : Nat} {l : Frm} (h : OwnF w B (.slice E n j) l) : FIn w E j l := by
 obtain ⟨A, c, e, k⟩ := h.fin
 cases e
 exact k
theorem mu_inv {q : Rat} (h : q ≠ 0) : mu q⁻¹ = mu q := by
 have hn : q.num ≠ 0 := fun e => h (Rat.num_eq_zero.1 e)
 unfold mu
 rw [Rat.num_inv, Rat.den_inv, if_neg hn, Int.natAbs_mul, Int.natAbs_sign_of_ne_zero hn, Nat.one_mul, Int.natAbs_natCast, Nat.add_comm]
end Go.Proofs.YtidgpkccjcddgaaGreatDoor.F
