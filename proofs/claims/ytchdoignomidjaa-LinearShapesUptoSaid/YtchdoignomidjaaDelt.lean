/- The walks of package delta and of the reference's layer 5: Norm, Add, Scale, Of. A delta is two rationals. -/
import Derived.Test.YtchdoignomidjaaOwl
set_option linter.unusedVariables false
set_option linter.unusedSimpArgs false
namespace Go.Proofs.Ytchdoignomidjaa.F
open Go.RowKit Go.Shelf Go.Proofs.YtchdoignomidjaaW.PrintLast

theorem KeepU.set {w : World} {g : Nat} {cs : List Value} (ho : Own w g cs) (hn : NoU cs) (i : Nat) (v : Value) : KeepU w (w.setCell ⟨g, i, none⟩ v) := by
  obtain ⟨t, ht⟩ := ho
  refine KeepU.of_blocks fun k hk => ?_
  by_cases hkg : k = g
  · subst hkg
    exact .inr ⟨_, t, (0, 0), ht, hn⟩
  · exact .inl (Below.heap_setCell w ⟨g, i, none⟩ v k hkg)
theorem NoU.set {cs : List Value} (h : NoU cs) (i : Nat) {v : Value} (hv : ∀ y, Value.int .u32 y ≠ v) : NoU (cs.set i v) := fun y hy => by
  rcases List.mem_or_eq_of_mem_set hy with h1 | h1
  · exact h y h1
  · exact hv y h1
/-- what lies in the two rationals of a delta -/
structure InD (w : World) (A : Option Addr) (c : Nat) (B : Option Addr) (d : Nat) (x : RatD) : Prop where
  num : In w A c x.1.2
  den : In w B d x.2
theorem InD.below {w W : World} {A : Option Addr} {c : Nat} {B : Option Addr} {d : Nat} {x : RatD} (h : InD w A c B d x) (hb : Below w.heap.size w W) : InD W A c B d x := ⟨h.num.below hb, h.den.below hb⟩
theorem InD.keep {w W : World} {A : Option Addr} {c : Nat} {B : Option Addr} {d : Nat} {x : RatD} (h : InD w A c B d x) (hk : KeepU w W) : InD W A c B d x := ⟨h.num.keep hk, h.den.keep hk⟩
theorem LiesQ.inD {w : World} {x : RatD} {B : Option Addr} {c : Nat} {D : Option Addr} {d b : Nat} (h : LiesQ w x B c D d) (g : Good b x) : InD w B c D d x := ⟨h.num g, h.den g⟩
/-- an answer that is a delta in canonical form -/
def ToldDl (w : World) (p q : Rat) (e : Ending) (w' : World) : Prop :=
  ∃ A c B d E j G l, e = .returned (.agg #[.bool (decide (p.num < 0)), .slice A (dg p.num.natAbs).length c, .slice B (dg p.den).length d, .bool (decide (q.num < 0)), .slice E (dg q.num.natAbs).length j, .slice G (dg q.den).length l]) ∧ InQ w' A c B d p ∧ InQ w' E j G l q ∧ Below w.heap.size w w'
theorem Fr.put6 {w W : World} {bs : List (Nat × List Value)} {g : Nat} {x1 x2 x3 x4 x5 x6 : Value} (h : Fr w W bs) (k : Nat) (hk : bs[k]? = some (g, [x1, x2, x3, x4, x5, x6])) (hg : w.heap.size ≤ g) (hn : ∀ p ∈ bs.eraseIdx k, p.1 ≠ g) (y1 y2 y3 y4 y5 y6 : Value) :
    Fr w ((((((W.setCell ⟨g, 0, none⟩ y1).setCell ⟨g, 1, none⟩ y2).setCell ⟨g, 2, none⟩ y3).setCell ⟨g, 3, none⟩ y4).setCell ⟨g, 4, none⟩ y5).setCell ⟨g, 5, none⟩ y6) (bs.set k (g, [y1, y2, y3, y4, y5, y6])) := by
  have hlt : k < bs.length := (List.getElem?_eq_some_iff.1 hk).1
  have e : ∀ (bs : List (Nat × List Value)) (p : Nat × List Value), (bs.set k p).eraseIdx k = bs.eraseIdx k := fun bs p => by rw [List.eraseIdx_set_eq]
  have h1 := h.setN k hk hg hn 0 y1
  have h2 := h1.setN k (by rw [List.getElem?_set_self hlt]) hg (by rw [e]; exact hn) 1 y2
  have h3 := h2.setN k (by rw [List.getElem?_set_self (by simpa using hlt)]) hg (by rw [e, e]; exact hn) 2 y3
  have h4 := h3.setN k (by rw [List.getElem?_set_self (by simpa using hlt)]) hg (by rw [e, e, e]; exact hn) 3 y4
  have h5 := h4.setN k (by rw [List.getElem?_set_self (by simpa using hlt)]) hg (by rw [e, e, e, e]; exact hn) 4 y5
  have h6 := h5.setN k (by rw [List.getElem?_set_self (by simpa using hlt)]) hg (by rw [e, e, e, e, e]; exact hn) 5 y6
  simp only [List.set_set] at h6
  exact h6
theorem KeepU.put6 {W : World} {g : Nat} {x1 x2 x3 x4 x5 x6 y1 y2 y3 y4 y5 : Value} (ho : Own W g [x1, x2, x3, x4, x5, x6]) (hn : NoU [x1, x2, x3, x4, x5, x6]) (hm : NoU [y1, y2, y3, y4, y5]) (y6 : Value) :
    KeepU W ((((((W.setCell ⟨g, 0, none⟩ y1).setCell ⟨g, 1, none⟩ y2).setCell ⟨g, 2, none⟩ y3).setCell ⟨g, 3, none⟩ y4).setCell ⟨g, 4, none⟩ y5).setCell ⟨g, 5, none⟩ y6) := by
  have n : ∀ v ∈ [y1, y2, y3, y4, y5], ∀ y, Value.int .u32 y ≠ v := fun v hv y e => hm y (by rw [e]; exact hv)
  have a1 := KeepU.set ho hn 0 y1
  have o1 := ho.set 0 y1
  have m1 := hn.set 0 (n y1 (by simp))
  have a2 := KeepU.set o1 m1 1 y2
  have o2 := o1.set 1 y2
  have m2 := m1.set 1 (n y2 (by simp))
  have a3 := KeepU.set o2 m2 2 y3
  have o3 := o2.set 2 y3
  have m3 := m2.set 2 (n y3 (by simp))
  have a4 := KeepU.set o3 m3 3 y4
  have o4 := o3.set 3 y4
  have m4 := m3.set 3 (n y4 (by simp))
  have a5 := KeepU.set o4 m4 4 y5
  have o5 := o4.set 4 y5
  have m5 := m4.set 4 (n y5 (by simp))
  have a6 := KeepU.set o5 m5 5 y6
  exact ((((a1.trans a2).trans a3).trans a4).trans a5).trans a6
/-- the end of a call that stores a delta into its result's cells -/
theorem end_delta {w W : World} {bs : List (Nat × List Value)} {g : Nat} {p q : Rat} {A : Option Addr} {c : Nat} {B : Option Addr} {d : Nat} {E : Option Addr} {j : Nat} {G : Option Addr} {l : Nat} {x1 x2 x3 x4 x5 x6 : Value} (h : Fr w W ((g, [x1, x2, x3, x4, x5, x6]) :: bs)) (hx : NoU [x1, x2, x3, x4, x5, x6]) (hd : ∀ p ∈ bs, p.1 ≠ g) (hg : w.heap.size ≤ g)
    (h1 : InQ W A c B d p) (h2 : InQ W E j G l q) {W' : World}
    (hW : W' = (((((W.setCell ⟨g, 0, none⟩ (.bool (decide (p.num < 0)))).setCell ⟨g, 1, none⟩ (.slice A (dg p.num.natAbs).length c)).setCell ⟨g, 2, none⟩ (.slice B (dg p.den).length d)).setCell ⟨g, 3, none⟩ (.bool (decide (q.num < 0)))).setCell ⟨g, 4, none⟩ (.slice E (dg q.num.natAbs).length j)).setCell ⟨g, 5, none⟩ (.slice G (dg q.den).length l)) :
    ToldDl w p q (.returned (.agg #[.bool (decide (p.num < 0)), .slice A (dg p.num.natAbs).length c, .slice B (dg p.den).length d, .bool (decide (q.num < 0)), .slice E (dg q.num.natAbs).length j, .slice G (dg q.den).length l])) W' ∧ Own W' g [.bool (decide (p.num < 0)), .slice A (dg p.num.natAbs).length c, .slice B (dg p.den).length d, .bool (decide (q.num < 0)), .slice E (dg q.num.natAbs).length j, .slice G (dg q.den).length l] := by
  subst hW
  have hk := KeepU.put6 (h.own (List.mem_cons_self ..)) hx (y1 := .bool (decide (p.num < 0))) (y2 := .slice A (dg p.num.natAbs).length c) (y3 := .slice B (dg p.den).length d) (y4 := .bool (decide (q.num < 0))) (y5 := .slice E (dg q.num.natAbs).length j) (fun y hy => by simp at hy) (.slice G (dg q.den).length l)
  have hf := h.put6 0 rfl hg (by simpa using hd) (.bool (decide (p.num < 0))) (.slice A (dg p.num.natAbs).length c) (.slice B (dg p.den).length d) (.bool (decide (q.num < 0))) (.slice E (dg q.num.natAbs).length j) (.slice G (dg q.den).length l)
  exact ⟨⟨A, c, B, d, E, j, G, l, rfl, ⟨h1.num.keep hk, h1.den.keep hk⟩, ⟨h2.num.keep hk, h2.den.keep hk⟩, hf.bel⟩, hf.own (List.mem_cons_self ..)⟩


set_option maxHeartbeats 1000000 in
set_option maxRecDepth 100000 in
theorem delta_Norm (s0 : Bool) (A0 : Option Addr) (c0 : Nat) (xs0 : List Int) (B0 : Option Addr) (d0 : Nat) (ys0 : List Int) (s1 : Bool) (A1 : Option Addr) (c1 : Nat) (xs1 : List Int) (B1 : Option Addr) (d1 : Nat) (ys1 : List Int) (w : World) (hn0 : In w A0 c0 xs0) (mn0 : xs0.length ≤ 549755813888) (hd0 : In w B0 d0 ys0) (md0 : ys0.length ≤ 549755813888) (hn1 : In w A1 c1 xs1) (mn1 : xs1.length ≤ 549755813888) (hd1 : In w B1 d1 ys1) (md1 : ys1.length ≤ 549755813888) :
    Calls Try.prog 66 #[.agg #[.bool s0, .slice A0 xs0.length c0, .slice B0 ys0.length d0, .bool s1, .slice A1 xs1.length c1, .slice B1 ys1.length d1]] w fun e w' => ToldDl w (rv s0 xs0 ys0) (rv s1 xs1 ys1) e w' := by
  have hC0 := Lib.hid (fun (W : World) (hb : Below w.heap.size w W) => ratio_Norm s0 A0 c0 xs0 B0 d0 ys0 W (hn0.below hb) mn0 (hd0.below hb) md0)
  have hC1 := Lib.hid (fun (W : World) (hb : Below w.heap.size w W) => ratio_Norm s1 A1 c1 xs1 B1 d1 ys1 W (hn1.below hb) mn1 (hd1.below hb) md1)
  generalize rv s0 xs0 ys0 = p at *
  generalize rv s1 xs1 ys1 = q at *
  clear hn0 hd0 mn0 md0 hn1 hd1 mn1 md1
  have HF := Lib.hid (((Fr.refl w).box [.bool s0, .slice A0 xs0.length c0, .slice B0 ys0.length d0, .bool s1, .slice A1 xs1.length c1, .slice B1 ys1.length d1] 37).box [.bool false, .slice none 0 0, .slice none 0 0, .bool false, .slice none 0 0, .slice none 0 0] 37)
  have hsz0 : (w.alloc (.cells [Value.bool s0, Value.slice A0 xs0.length c0, Value.slice B0 ys0.length d0, Value.bool s1, Value.slice A1 xs1.length c1, Value.slice B1 ys1.length d1].toArray 37)).heap.size = w.heap.size + 1 := by simp
  simp only [hsz0] at HF
  clear hsz0
  go_enter Try.func66, Try.ntmps66
  go_wp2_with fail
  generalize ((w.alloc (Obj.cells #[Value.bool s0, .slice A0 xs0.length c0, .slice B0 ys0.length d0, .bool s1, .slice A1 xs1.length c1, .slice B1 ys1.length d1] 37)).alloc (Obj.cells #[Value.bool false, .slice none 0 0, .slice none 0 0, .bool false, .slice none 0 0, .slice none 0 0] 37)) = W at *
  have HF_ := Lib.hid HF.out.drew
  clear HF
  have HF := HF_
  clear HF_
  refine start_ (n := 8) (S := fun w' => w'.cell? ⟨w.heap.size, 0, none⟩ = some (.bool s0) ∧ w'.cell? ⟨w.heap.size, 1, none⟩ = some (.slice A0 xs0.length c0) ∧ w'.cell? ⟨w.heap.size, 2, none⟩ = some (.slice B0 ys0.length d0) ∧ w'.cell? ⟨w.heap.size, 3, none⟩ = some (.bool s1) ∧ w'.cell? ⟨w.heap.size, 4, none⟩ = some (.slice A1 xs1.length c1) ∧ w'.cell? ⟨w.heap.size, 5, none⟩ = some (.slice B1 ys1.length d1)) (ds := []) #[false, false, false, false, false, false, false, false] (by kernel_rfl) rfl rfl ⟨HF.out.cellN 1 rfl 0 rfl, HF.out.cellN 1 rfl 1 rfl, HF.out.cellN 1 rfl 2 rfl, HF.out.cellN 1 rfl 3 rfl, HF.out.cellN 1 rfl 4 rfl, HF.out.cellN 1 rfl 5 rfl⟩ (fun hHeld => ?_)
  generalize World.drew _ = W at *
  refine pure_ (i := 0) (N := (some 3)) (v := ?_) (a' := ?_) #[true, false, false, false, false, false, false, false] rfl rfl (by kernel_rfl) (fun _ _ _ h => h) (Or.inl ⟨by rfl, ?_⟩) ?_ ?_
  rotate_left
  · intro w'
    go_simp
    with_reducible rfl
  rotate_left
  · simp only [Act.put, List.setIfInBounds_toArray, List.set_cons_zero, List.set_cons_succ]
    rfl
  refine pure_ (i := 3) (N := (some 6)) (v := ?_) (a' := ?_) #[true, false, false, true, false, false, false, false] rfl rfl (by kernel_rfl) (fun _ _ _ h => h) (Or.inl ⟨by rfl, ?_⟩) ?_ ?_
  rotate_left
  · intro w'
    go_simp
    with_reducible rfl
  rotate_left
  · simp only [Act.put, List.setIfInBounds_toArray, List.set_cons_zero, List.set_cons_succ]
    rfl
  refine take_ (i := 1) (N := (some 4)) (v := ?_) (a' := ?_) #[true, true, false, true, false, false, false, false] rfl rfl (by kernel_rfl) (fun _ _ _ h => h) (Or.inl ⟨by rfl, ?_⟩) hHeld ?_ ?_
  rotate_left
  · rintro w' ⟨s0, s1, s2, s3, s4, s5⟩
    go_simp
    with_reducible rfl
  rotate_left
  · simp only [Act.put, List.setIfInBounds_toArray, List.set_cons_zero, List.set_cons_succ]
    rfl
  refine take_ (i := 4) (N := (some 7)) (v := ?_) (a' := ?_) #[true, true, false, true, true, false, false, false] rfl rfl (by kernel_rfl) (fun _ _ _ h => h) (Or.inl ⟨by rfl, ?_⟩) hHeld ?_ ?_
  rotate_left
  · rintro w' ⟨s0, s1, s2, s3, s4, s5⟩
    go_simp
    with_reducible rfl
  rotate_left
  · simp only [Act.put, List.setIfInBounds_toArray, List.set_cons_zero, List.set_cons_succ]
    rfl
  refine one_ (i := 2) (N := (some 5)) #[true, true, true, true, true, false, false, false] rfl rfl (by kernel_rfl) (by decide) (fun K hK => ?_)
  refine goes_ Try.func62 (by kernel_rfl) rfl #[.agg #[.bool s0, .slice A0 xs0.length c0, .slice B0 ys0.length d0]] (by rfl) rfl rfl (by (try simp only [List.map_toArray, List.map_cons, List.map_nil]); first | done | rfl) ?_
  refine (hC0.out W HF.out.bel).mono ?_
  rintro e W1 ⟨E0, e0, G0, g0, rfl, q1, q2, q3⟩
  refine ⟨_, rfl, ?_⟩
  replace HF := Lib.hid (HF.out.below q3)
  have Q0 := Lib.hid (InQ.mk q1 q2)
  clear q1 q2 q3
  refine hK.out _ _ ⟨HF.out.cellN 1 rfl 0 rfl, HF.out.cellN 1 rfl 1 rfl, HF.out.cellN 1 rfl 2 rfl, HF.out.cellN 1 rfl 3 rfl, HF.out.cellN 1 rfl 4 rfl, HF.out.cellN 1 rfl 5 rfl⟩ (fun hHeld => ?_)
  clear hK K
  refine norm_ (a' := ?_) ?_ ?_
  rotate_left
  · show Act.put _ (some 5) _ = _
    simp only [Act.put, List.setIfInBounds_toArray, List.set_cons_zero, List.set_cons_succ]
    rfl
  refine one_ (i := 5) (N := (some 8)) #[true, true, true, true, true, true, false, false] rfl rfl (by kernel_rfl) (by decide) (fun K hK => ?_)
  refine goes_ Try.func62 (by kernel_rfl) rfl #[.agg #[.bool s1, .slice A1 xs1.length c1, .slice B1 ys1.length d1]] (by rfl) rfl rfl (by (try simp only [List.map_toArray, List.map_cons, List.map_nil]); first | done | rfl) ?_
  refine (hC1.out W1 HF.out.bel).mono ?_
  rintro e W2 ⟨E1, e1, G1, g1, rfl, q1, q2, q3⟩
  refine ⟨_, rfl, ?_⟩
  replace HF := Lib.hid (HF.out.below q3)
  replace Q0 := Lib.hid (Q0.out.below q3)
  have Q1 := Lib.hid (InQ.mk q1 q2)
  clear q1 q2 q3
  refine hK.out _ _ ⟨HF.out.cellN 1 rfl 0 rfl, HF.out.cellN 1 rfl 1 rfl, HF.out.cellN 1 rfl 2 rfl, HF.out.cellN 1 rfl 3 rfl, HF.out.cellN 1 rfl 4 rfl, HF.out.cellN 1 rfl 5 rfl⟩ (fun hHeld => ?_)
  clear hK K
  refine norm_ (a' := ?_) ?_ ?_
  rotate_left
  · show Act.put _ (some 8) _ = _
    simp only [Act.put, List.setIfInBounds_toArray, List.set_cons_zero, List.set_cons_succ]
    rfl
  refine pure_ (i := 6) (N := (some 9)) (v := ?_) (a' := ?_) #[true, true, true, true, true, true, true, false] rfl rfl (by kernel_rfl) (fun _ _ _ h => h) (Or.inl ⟨by rfl, ?_⟩) ?_ ?_
  rotate_left
  · intro w'
    go_simp
    with_reducible rfl
  rotate_left
  · simp only [Act.put, List.setIfInBounds_toArray, List.set_cons_zero, List.set_cons_succ]
    rfl
  refine one_ (i := 7) (N := none) #[true, true, true, true, true, true, true, true] rfl rfl (by kernel_rfl) (by decide) (fun K hK => ?_)
  have hf0 := HF.out.frozenN 0 rfl 0
  have hd0 := HF.out.cellN 0 rfl 0 rfl
  have hf1 := HF.out.frozenN 0 rfl 1
  have hd1 := HF.out.cellN 0 rfl 1 rfl
  have hf2 := HF.out.frozenN 0 rfl 2
  have hd2 := HF.out.cellN 0 rfl 2 rfl
  have hf3 := HF.out.frozenN 0 rfl 3
  have hd3 := HF.out.cellN 0 rfl 3 rfl
  have hf4 := HF.out.frozenN 0 rfl 4
  have hd4 := HF.out.cellN 0 rfl 4 rfl
  have hf5 := HF.out.frozenN 0 rfl 5
  have hd5 := HF.out.cellN 0 rfl 5 rfl
  refine skip_ (w1 := ?_) (by rfl) rfl ?_ ?_
  rotate_left
  · go_simp
    rfl
  have HE := Lib.hid (end_delta HF.out (fun y hy => by simp at hy) (by simp; try omega) (by omega) Q0.out Q1.out rfl)
  replace HF := Lib.hid (HF.out.put6 0 rfl (by omega) (by simp; try omega) (.bool (decide (p.num < 0))) (.slice E0 (dg p.num.natAbs).length e0) (.slice G0 (dg p.den).length g0) (.bool (decide (q.num < 0))) (.slice E1 (dg q.num.natAbs).length e1) (.slice G1 (dg q.den).length g1))
  refine hK.out _ _ ⟨HF.out.cellN 1 rfl 0 rfl, HF.out.cellN 1 rfl 1 rfl, HF.out.cellN 1 rfl 2 rfl, HF.out.cellN 1 rfl 3 rfl, HF.out.cellN 1 rfl 4 rfl, HF.out.cellN 1 rfl 5 rfl⟩ (fun hHeld => ?_)
  clear hK K
  refine done_ (by kernel_rfl) ?_
  generalize decide (p.num < 0) = b at HE ⊢
  generalize decide (q.num < 0) = b2 at HE ⊢
  go_wp2
  obtain ⟨f1, f2⟩ := HE.out
  exact post_own f2 rfl rfl rfl Try.underlying37 rfl (by kernel_rfl) f1

set_option maxHeartbeats 1000000 in
set_option maxRecDepth 100000 in
theorem delta_Add (s0 : Bool) (A0 : Option Addr) (c0 : Nat) (xs0 : List Int) (B0 : Option Addr) (d0 : Nat) (ys0 : List Int) (s1 : Bool) (A1 : Option Addr) (c1 : Nat) (xs1 : List Int) (B1 : Option Addr) (d1 : Nat) (ys1 : List Int) (s2 : Bool) (A2 : Option Addr) (c2 : Nat) (xs2 : List Int) (B2 : Option Addr) (d2 : Nat) (ys2 : List Int) (s3 : Bool) (A3 : Option Addr) (c3 : Nat) (xs3 : List Int) (B3 : Option Addr) (d3 : Nat) (ys3 : List Int) (w : World) (hn0 : In w A0 c0 xs0) (mn0 : xs0.length ≤ 137438953472) (hd0 : In w B0 d0 ys0) (md0 : ys0.length ≤ 137438953472) (hn1 : In w A1 c1 xs1) (mn1 : xs1.length ≤ 137438953472) (hd1 : In w B1 d1 ys1) (md1 : ys1.length ≤ 137438953472) (hn2 : In w A2 c2 xs2) (mn2 : xs2.length ≤ 137438953472) (hd2 : In w B2 d2 ys2) (md2 : ys2.length ≤ 137438953472) (hn3 : In w A3 c3 xs3) (mn3 : xs3.length ≤ 137438953472) (hd3 : In w B3 d3 ys3) (md3 : ys3.length ≤ 137438953472) :
    Calls Try.prog 64 #[.agg #[.bool s0, .slice A0 xs0.length c0, .slice B0 ys0.length d0, .bool s1, .slice A1 xs1.length c1, .slice B1 ys1.length d1], .agg #[.bool s2, .slice A2 xs2.length c2, .slice B2 ys2.length d2, .bool s3, .slice A3 xs3.length c3, .slice B3 ys3.length d3]] w fun e w' => ToldDl w (rv s0 xs0 ys0 + rv s2 xs2 ys2) (rv s1 xs1 ys1 + rv s3 xs3 ys3) e w' := by
  have hC0 := Lib.hid (fun (W : World) (hb : Below w.heap.size w W) => ratio_Add s0 A0 c0 xs0 B0 d0 ys0 s2 A2 c2 xs2 B2 d2 ys2 W (hn0.below hb) mn0 (hd0.below hb) md0 (hn2.below hb) mn2 (hd2.below hb) md2)
  have hC1 := Lib.hid (fun (W : World) (hb : Below w.heap.size w W) => ratio_Add s1 A1 c1 xs1 B1 d1 ys1 s3 A3 c3 xs3 B3 d3 ys3 W (hn1.below hb) mn1 (hd1.below hb) md1 (hn3.below hb) mn3 (hd3.below hb) md3)
  generalize rv s0 xs0 ys0 + rv s2 xs2 ys2 = p at *
  generalize rv s1 xs1 ys1 + rv s3 xs3 ys3 = q at *
  clear hn0 hd0 mn0 md0 hn1 hd1 mn1 md1 hn2 hd2 mn2 md2 hn3 hd3 mn3 md3
  have HF := Lib.hid ((((Fr.refl w).box [.bool s0, .slice A0 xs0.length c0, .slice B0 ys0.length d0, .bool s1, .slice A1 xs1.length c1, .slice B1 ys1.length d1] 37).box [.bool s2, .slice A2 xs2.length c2, .slice B2 ys2.length d2, .bool s3, .slice A3 xs3.length c3, .slice B3 ys3.length d3] 37).box [.bool false, .slice none 0 0, .slice none 0 0, .bool false, .slice none 0 0, .slice none 0 0] 37)
  have hsz0 : (w.alloc (.cells [Value.bool s0, Value.slice A0 xs0.length c0, Value.slice B0 ys0.length d0, Value.bool s1, Value.slice A1 xs1.length c1, Value.slice B1 ys1.length d1].toArray 37)).heap.size = w.heap.size + 1 := by simp
  have hsz1 : ((w.alloc (.cells [Value.bool s0, Value.slice A0 xs0.length c0, Value.slice B0 ys0.length d0, Value.bool s1, Value.slice A1 xs1.length c1, Value.slice B1 ys1.length d1].toArray 37)).alloc (.cells [Value.bool s2, Value.slice A2 xs2.length c2, Value.slice B2 ys2.length d2, Value.bool s3, Value.slice A3 xs3.length c3, Value.slice B3 ys3.length d3].toArray 37)).heap.size = w.heap.size + 2 := by simp
  simp only [hsz0, hsz1] at HF
  clear hsz0 hsz1
  go_enter Try.func64, Try.ntmps64
  go_wp2_with fail
  generalize (((w.alloc (Obj.cells #[Value.bool s0, .slice A0 xs0.length c0, .slice B0 ys0.length d0, .bool s1, .slice A1 xs1.length c1, .slice B1 ys1.length d1] 37)).alloc (Obj.cells #[Value.bool s2, .slice A2 xs2.length c2, .slice B2 ys2.length d2, .bool s3, .slice A3 xs3.length c3, .slice B3 ys3.length d3] 37)).alloc (Obj.cells #[Value.bool false, .slice none 0 0, .slice none 0 0, .bool false, .slice none 0 0, .slice none 0 0] 37)) = W at *
  have HF_ := Lib.hid HF.out.drew
  clear HF
  have HF := HF_
  clear HF_
  refine start_ (n := 12) (S := fun w' => w'.cell? ⟨w.heap.size, 0, none⟩ = some (.bool s0) ∧ w'.cell? ⟨w.heap.size, 1, none⟩ = some (.slice A0 xs0.length c0) ∧ w'.cell? ⟨w.heap.size, 2, none⟩ = some (.slice B0 ys0.length d0) ∧ w'.cell? ⟨w.heap.size, 3, none⟩ = some (.bool s1) ∧ w'.cell? ⟨w.heap.size, 4, none⟩ = some (.slice A1 xs1.length c1) ∧ w'.cell? ⟨w.heap.size, 5, none⟩ = some (.slice B1 ys1.length d1) ∧ w'.cell? ⟨w.heap.size + 1, 0, none⟩ = some (.bool s2) ∧ w'.cell? ⟨w.heap.size + 1, 1, none⟩ = some (.slice A2 xs2.length c2) ∧ w'.cell? ⟨w.heap.size + 1, 2, none⟩ = some (.slice B2 ys2.length d2) ∧ w'.cell? ⟨w.heap.size + 1, 3, none⟩ = some (.bool s3) ∧ w'.cell? ⟨w.heap.size + 1, 4, none⟩ = some (.slice A3 xs3.length c3) ∧ w'.cell? ⟨w.heap.size + 1, 5, none⟩ = some (.slice B3 ys3.length d3)) (ds := []) #[false, false, false, false, false, false, false, false, false, false, false, false] (by kernel_rfl) rfl rfl ⟨HF.out.cellN 2 rfl 0 rfl, HF.out.cellN 2 rfl 1 rfl, HF.out.cellN 2 rfl 2 rfl, HF.out.cellN 2 rfl 3 rfl, HF.out.cellN 2 rfl 4 rfl, HF.out.cellN 2 rfl 5 rfl, HF.out.cellN 1 rfl 0 rfl, HF.out.cellN 1 rfl 1 rfl, HF.out.cellN 1 rfl 2 rfl, HF.out.cellN 1 rfl 3 rfl, HF.out.cellN 1 rfl 4 rfl, HF.out.cellN 1 rfl 5 rfl⟩ (fun hHeld => ?_)
  generalize World.drew _ = W at *
  refine pure_ (i := 0) (N := (some 5)) (v := ?_) (a' := ?_) #[true, false, false, false, false, false, false, false, false, false, false, false] rfl rfl (by kernel_rfl) (fun _ _ _ h => h) (Or.inl ⟨by rfl, ?_⟩) ?_ ?_
  rotate_left
  · intro w'
    go_simp
    with_reducible rfl
  rotate_left
  · simp only [Act.put, List.setIfInBounds_toArray, List.set_cons_zero, List.set_cons_succ]
    rfl
  refine pure_ (i := 2) (N := (some 7)) (v := ?_) (a' := ?_) #[true, false, true, false, false, false, false, false, false, false, false, false] rfl rfl (by kernel_rfl) (fun _ _ _ h => h) (Or.inl ⟨by rfl, ?_⟩) ?_ ?_
  rotate_left
  · intro w'
    go_simp
    with_reducible rfl
  rotate_left
  · simp only [Act.put, List.setIfInBounds_toArray, List.set_cons_zero, List.set_cons_succ]
    rfl
  refine pure_ (i := 5) (N := (some 10)) (v := ?_) (a' := ?_) #[true, false, true, false, false, true, false, false, false, false, false, false] rfl rfl (by kernel_rfl) (fun _ _ _ h => h) (Or.inl ⟨by rfl, ?_⟩) ?_ ?_
  rotate_left
  · intro w'
    go_simp
    with_reducible rfl
  rotate_left
  · simp only [Act.put, List.setIfInBounds_toArray, List.set_cons_zero, List.set_cons_succ]
    rfl
  refine pure_ (i := 7) (N := (some 12)) (v := ?_) (a' := ?_) #[true, false, true, false, false, true, false, true, false, false, false, false] rfl rfl (by kernel_rfl) (fun _ _ _ h => h) (Or.inl ⟨by rfl, ?_⟩) ?_ ?_
  rotate_left
  · intro w'
    go_simp
    with_reducible rfl
  rotate_left
  · simp only [Act.put, List.setIfInBounds_toArray, List.set_cons_zero, List.set_cons_succ]
    rfl
  refine take_ (i := 1) (N := (some 6)) (v := ?_) (a' := ?_) #[true, true, true, false, false, true, false, true, false, false, false, false] rfl rfl (by kernel_rfl) (fun _ _ _ h => h) (Or.inl ⟨by rfl, ?_⟩) hHeld ?_ ?_
  rotate_left
  · rintro w' ⟨s0, s1, s2, s3, s4, s5, s6, s7, s8, s9, s10, s11⟩
    go_simp
    with_reducible rfl
  rotate_left
  · simp only [Act.put, List.setIfInBounds_toArray, List.set_cons_zero, List.set_cons_succ]
    rfl
  refine take_ (i := 3) (N := (some 8)) (v := ?_) (a' := ?_) #[true, true, true, true, false, true, false, true, false, false, false, false] rfl rfl (by kernel_rfl) (fun _ _ _ h => h) (Or.inl ⟨by rfl, ?_⟩) hHeld ?_ ?_
  rotate_left
  · rintro w' ⟨s0, s1, s2, s3, s4, s5, s6, s7, s8, s9, s10, s11⟩
    go_simp
    with_reducible rfl
  rotate_left
  · simp only [Act.put, List.setIfInBounds_toArray, List.set_cons_zero, List.set_cons_succ]
    rfl
  refine take_ (i := 6) (N := (some 11)) (v := ?_) (a' := ?_) #[true, true, true, true, false, true, true, true, false, false, false, false] rfl rfl (by kernel_rfl) (fun _ _ _ h => h) (Or.inl ⟨by rfl, ?_⟩) hHeld ?_ ?_
  rotate_left
  · rintro w' ⟨s0, s1, s2, s3, s4, s5, s6, s7, s8, s9, s10, s11⟩
    go_simp
    with_reducible rfl
  rotate_left
  · simp only [Act.put, List.setIfInBounds_toArray, List.set_cons_zero, List.set_cons_succ]
    rfl
  refine take_ (i := 8) (N := (some 13)) (v := ?_) (a' := ?_) #[true, true, true, true, false, true, true, true, true, false, false, false] rfl rfl (by kernel_rfl) (fun _ _ _ h => h) (Or.inl ⟨by rfl, ?_⟩) hHeld ?_ ?_
  rotate_left
  · rintro w' ⟨s0, s1, s2, s3, s4, s5, s6, s7, s8, s9, s10, s11⟩
    go_simp
    with_reducible rfl
  rotate_left
  · simp only [Act.put, List.setIfInBounds_toArray, List.set_cons_zero, List.set_cons_succ]
    rfl
  refine one_ (i := 4) (N := (some 9)) #[true, true, true, true, true, true, true, true, true, false, false, false] rfl rfl (by kernel_rfl) (by decide) (fun K hK => ?_)
  refine goes_ Try.func60 (by kernel_rfl) rfl #[.agg #[.bool s0, .slice A0 xs0.length c0, .slice B0 ys0.length d0], .agg #[.bool s2, .slice A2 xs2.length c2, .slice B2 ys2.length d2]] (by rfl) rfl rfl (by (try simp only [List.map_toArray, List.map_cons, List.map_nil]); first | done | rfl) ?_
  refine (hC0.out W HF.out.bel).mono ?_
  rintro e W1 ⟨E0, e0, G0, g0, rfl, q1, q2, q3⟩
  refine ⟨_, rfl, ?_⟩
  replace HF := Lib.hid (HF.out.below q3)
  have Q0 := Lib.hid (InQ.mk q1 q2)
  clear q1 q2 q3
  refine hK.out _ _ ⟨HF.out.cellN 2 rfl 0 rfl, HF.out.cellN 2 rfl 1 rfl, HF.out.cellN 2 rfl 2 rfl, HF.out.cellN 2 rfl 3 rfl, HF.out.cellN 2 rfl 4 rfl, HF.out.cellN 2 rfl 5 rfl, HF.out.cellN 1 rfl 0 rfl, HF.out.cellN 1 rfl 1 rfl, HF.out.cellN 1 rfl 2 rfl, HF.out.cellN 1 rfl 3 rfl, HF.out.cellN 1 rfl 4 rfl, HF.out.cellN 1 rfl 5 rfl⟩ (fun hHeld => ?_)
  clear hK K
  refine norm_ (a' := ?_) ?_ ?_
  rotate_left
  · show Act.put _ (some 9) _ = _
    simp only [Act.put, List.setIfInBounds_toArray, List.set_cons_zero, List.set_cons_succ]
    rfl
  refine one_ (i := 9) (N := (some 14)) #[true, true, true, true, true, true, true, true, true, true, false, false] rfl rfl (by kernel_rfl) (by decide) (fun K hK => ?_)
  refine goes_ Try.func60 (by kernel_rfl) rfl #[.agg #[.bool s1, .slice A1 xs1.length c1, .slice B1 ys1.length d1], .agg #[.bool s3, .slice A3 xs3.length c3, .slice B3 ys3.length d3]] (by rfl) rfl rfl (by (try simp only [List.map_toArray, List.map_cons, List.map_nil]); first | done | rfl) ?_
  refine (hC1.out W1 HF.out.bel).mono ?_
  rintro e W2 ⟨E1, e1, G1, g1, rfl, q1, q2, q3⟩
  refine ⟨_, rfl, ?_⟩
  replace HF := Lib.hid (HF.out.below q3)
  replace Q0 := Lib.hid (Q0.out.below q3)
  have Q1 := Lib.hid (InQ.mk q1 q2)
  clear q1 q2 q3
  refine hK.out _ _ ⟨HF.out.cellN 2 rfl 0 rfl, HF.out.cellN 2 rfl 1 rfl, HF.out.cellN 2 rfl 2 rfl, HF.out.cellN 2 rfl 3 rfl, HF.out.cellN 2 rfl 4 rfl, HF.out.cellN 2 rfl 5 rfl, HF.out.cellN 1 rfl 0 rfl, HF.out.cellN 1 rfl 1 rfl, HF.out.cellN 1 rfl 2 rfl, HF.out.cellN 1 rfl 3 rfl, HF.out.cellN 1 rfl 4 rfl, HF.out.cellN 1 rfl 5 rfl⟩ (fun hHeld => ?_)
  clear hK K
  refine norm_ (a' := ?_) ?_ ?_
  rotate_left
  · show Act.put _ (some 14) _ = _
    simp only [Act.put, List.setIfInBounds_toArray, List.set_cons_zero, List.set_cons_succ]
    rfl
  refine pure_ (i := 10) (N := (some 15)) (v := ?_) (a' := ?_) #[true, true, true, true, true, true, true, true, true, true, true, false] rfl rfl (by kernel_rfl) (fun _ _ _ h => h) (Or.inl ⟨by rfl, ?_⟩) ?_ ?_
  rotate_left
  · intro w'
    go_simp
    with_reducible rfl
  rotate_left
  · simp only [Act.put, List.setIfInBounds_toArray, List.set_cons_zero, List.set_cons_succ]
    rfl
  refine one_ (i := 11) (N := none) #[true, true, true, true, true, true, true, true, true, true, true, true] rfl rfl (by kernel_rfl) (by decide) (fun K hK => ?_)
  have hf0 := HF.out.frozenN 0 rfl 0
  have hd0 := HF.out.cellN 0 rfl 0 rfl
  have hf1 := HF.out.frozenN 0 rfl 1
  have hd1 := HF.out.cellN 0 rfl 1 rfl
  have hf2 := HF.out.frozenN 0 rfl 2
  have hd2 := HF.out.cellN 0 rfl 2 rfl
  have hf3 := HF.out.frozenN 0 rfl 3
  have hd3 := HF.out.cellN 0 rfl 3 rfl
  have hf4 := HF.out.frozenN 0 rfl 4
  have hd4 := HF.out.cellN 0 rfl 4 rfl
  have hf5 := HF.out.frozenN 0 rfl 5
  have hd5 := HF.out.cellN 0 rfl 5 rfl
  refine skip_ (w1 := ?_) (by rfl) rfl ?_ ?_
  rotate_left
  · go_simp
    rfl
  have HE := Lib.hid (end_delta HF.out (fun y hy => by simp at hy) (by simp; try omega) (by omega) Q0.out Q1.out rfl)
  replace HF := Lib.hid (HF.out.put6 0 rfl (by omega) (by simp; try omega) (.bool (decide (p.num < 0))) (.slice E0 (dg p.num.natAbs).length e0) (.slice G0 (dg p.den).length g0) (.bool (decide (q.num < 0))) (.slice E1 (dg q.num.natAbs).length e1) (.slice G1 (dg q.den).length g1))
  refine hK.out _ _ ⟨HF.out.cellN 2 rfl 0 rfl, HF.out.cellN 2 rfl 1 rfl, HF.out.cellN 2 rfl 2 rfl, HF.out.cellN 2 rfl 3 rfl, HF.out.cellN 2 rfl 4 rfl, HF.out.cellN 2 rfl 5 rfl, HF.out.cellN 1 rfl 0 rfl, HF.out.cellN 1 rfl 1 rfl, HF.out.cellN 1 rfl 2 rfl, HF.out.cellN 1 rfl 3 rfl, HF.out.cellN 1 rfl 4 rfl, HF.out.cellN 1 rfl 5 rfl⟩ (fun hHeld => ?_)
  clear hK K
  refine done_ (by kernel_rfl) ?_
  generalize decide (p.num < 0) = b at HE ⊢
  generalize decide (q.num < 0) = b2 at HE ⊢
  go_wp2
  obtain ⟨f1, f2⟩ := HE.out
  exact post_own f2 rfl rfl rfl Try.underlying37 rfl (by kernel_rfl) f1

set_option maxHeartbeats 1000000 in
set_option maxRecDepth 100000 in
theorem delta_Scale (s0 : Bool) (A0 : Option Addr) (c0 : Nat) (xs0 : List Int) (B0 : Option Addr) (d0 : Nat) (ys0 : List Int) (s1 : Bool) (A1 : Option Addr) (c1 : Nat) (xs1 : List Int) (B1 : Option Addr) (d1 : Nat) (ys1 : List Int) (s2 : Bool) (A2 : Option Addr) (c2 : Nat) (xs2 : List Int) (B2 : Option Addr) (d2 : Nat) (ys2 : List Int) (w : World) (hn0 : In w A0 c0 xs0) (mn0 : xs0.length ≤ 137438953472) (hd0 : In w B0 d0 ys0) (md0 : ys0.length ≤ 137438953472) (hn1 : In w A1 c1 xs1) (mn1 : xs1.length ≤ 137438953472) (hd1 : In w B1 d1 ys1) (md1 : ys1.length ≤ 137438953472) (hn2 : In w A2 c2 xs2) (mn2 : xs2.length ≤ 137438953472) (hd2 : In w B2 d2 ys2) (md2 : ys2.length ≤ 137438953472) :
    Calls Try.prog 65 #[.agg #[.bool s0, .slice A0 xs0.length c0, .slice B0 ys0.length d0], .agg #[.bool s1, .slice A1 xs1.length c1, .slice B1 ys1.length d1, .bool s2, .slice A2 xs2.length c2, .slice B2 ys2.length d2]] w fun e w' => ToldDl w (rv s0 xs0 ys0 * rv s1 xs1 ys1) (rv s0 xs0 ys0 * rv s2 xs2 ys2) e w' := by
  have hC0 := Lib.hid (fun (W : World) (hb : Below w.heap.size w W) => ratio_Mul s0 A0 c0 xs0 B0 d0 ys0 s1 A1 c1 xs1 B1 d1 ys1 W (hn0.below hb) mn0 (hd0.below hb) md0 (hn1.below hb) mn1 (hd1.below hb) md1)
  have hC1 := Lib.hid (fun (W : World) (hb : Below w.heap.size w W) => ratio_Mul s0 A0 c0 xs0 B0 d0 ys0 s2 A2 c2 xs2 B2 d2 ys2 W (hn0.below hb) mn0 (hd0.below hb) md0 (hn2.below hb) mn2 (hd2.below hb) md2)
  generalize rv s0 xs0 ys0 * rv s1 xs1 ys1 = p at *
  generalize rv s0 xs0 ys0 * rv s2 xs2 ys2 = q at *
  clear hn0 hd0 mn0 md0 hn1 hd1 mn1 md1 hn2 hd2 mn2 md2
  have HF := Lib.hid ((((Fr.refl w).box [.bool s0, .slice A0 xs0.length c0, .slice B0 ys0.length d0] 31).box [.bool s1, .slice A1 xs1.length c1, .slice B1 ys1.length d1, .bool s2, .slice A2 xs2.length c2, .slice B2 ys2.length d2] 37).box [.bool false, .slice none 0 0, .slice none 0 0, .bool false, .slice none 0 0, .slice none 0 0] 37)
  have hsz0 : (w.alloc (.cells [Value.bool s0, Value.slice A0 xs0.length c0, Value.slice B0 ys0.length d0].toArray 31)).heap.size = w.heap.size + 1 := by simp
  have hsz1 : ((w.alloc (.cells [Value.bool s0, Value.slice A0 xs0.length c0, Value.slice B0 ys0.length d0].toArray 31)).alloc (.cells [Value.bool s1, Value.slice A1 xs1.length c1, Value.slice B1 ys1.length d1, Value.bool s2, Value.slice A2 xs2.length c2, Value.slice B2 ys2.length d2].toArray 37)).heap.size = w.heap.size + 2 := by simp
  simp only [hsz0, hsz1] at HF
  clear hsz0 hsz1
  go_enter Try.func65, Try.ntmps65
  go_wp2_with fail
  generalize (((w.alloc (Obj.cells #[Value.bool s0, .slice A0 xs0.length c0, .slice B0 ys0.length d0] 31)).alloc (Obj.cells #[Value.bool s1, .slice A1 xs1.length c1, .slice B1 ys1.length d1, .bool s2, .slice A2 xs2.length c2, .slice B2 ys2.length d2] 37)).alloc (Obj.cells #[Value.bool false, .slice none 0 0, .slice none 0 0, .bool false, .slice none 0 0, .slice none 0 0] 37)) = W at *
  have HF_ := Lib.hid HF.out.drew
  clear HF
  have HF := HF_
  clear HF_
  refine start_ (n := 10) (S := fun w' => w'.cell? ⟨w.heap.size, 0, none⟩ = some (.bool s0) ∧ w'.cell? ⟨w.heap.size, 1, none⟩ = some (.slice A0 xs0.length c0) ∧ w'.cell? ⟨w.heap.size, 2, none⟩ = some (.slice B0 ys0.length d0) ∧ w'.cell? ⟨w.heap.size + 1, 0, none⟩ = some (.bool s1) ∧ w'.cell? ⟨w.heap.size + 1, 1, none⟩ = some (.slice A1 xs1.length c1) ∧ w'.cell? ⟨w.heap.size + 1, 2, none⟩ = some (.slice B1 ys1.length d1) ∧ w'.cell? ⟨w.heap.size + 1, 3, none⟩ = some (.bool s2) ∧ w'.cell? ⟨w.heap.size + 1, 4, none⟩ = some (.slice A2 xs2.length c2) ∧ w'.cell? ⟨w.heap.size + 1, 5, none⟩ = some (.slice B2 ys2.length d2)) (ds := []) #[false, false, false, false, false, false, false, false, false, false] (by kernel_rfl) rfl rfl ⟨HF.out.cellN 2 rfl 0 rfl, HF.out.cellN 2 rfl 1 rfl, HF.out.cellN 2 rfl 2 rfl, HF.out.cellN 1 rfl 0 rfl, HF.out.cellN 1 rfl 1 rfl, HF.out.cellN 1 rfl 2 rfl, HF.out.cellN 1 rfl 3 rfl, HF.out.cellN 1 rfl 4 rfl, HF.out.cellN 1 rfl 5 rfl⟩ (fun hHeld => ?_)
  generalize World.drew _ = W at *
  refine pure_ (i := 1) (N := (some 6)) (v := ?_) (a' := ?_) #[false, true, false, false, false, false, false, false, false, false] rfl rfl (by kernel_rfl) (fun _ _ _ h => h) (Or.inl ⟨by rfl, ?_⟩) ?_ ?_
  rotate_left
  · intro w'
    go_simp
    with_reducible rfl
  rotate_left
  · simp only [Act.put, List.setIfInBounds_toArray, List.set_cons_zero, List.set_cons_succ]
    rfl
  refine pure_ (i := 5) (N := (some 10)) (v := ?_) (a' := ?_) #[false, true, false, false, false, true, false, false, false, false] rfl rfl (by kernel_rfl) (fun _ _ _ h => h) (Or.inl ⟨by rfl, ?_⟩) ?_ ?_
  rotate_left
  · intro w'
    go_simp
    with_reducible rfl
  rotate_left
  · simp only [Act.put, List.setIfInBounds_toArray, List.set_cons_zero, List.set_cons_succ]
    rfl
  refine take_ (i := 0) (N := (some 5)) (v := ?_) (a' := ?_) #[true, true, false, false, false, true, false, false, false, false] rfl rfl (by kernel_rfl) (fun _ _ _ h => h) (Or.inl ⟨by rfl, ?_⟩) hHeld ?_ ?_
  rotate_left
  · rintro w' ⟨s0, s1, s2, s3, s4, s5, s6, s7, s8⟩
    go_simp
    with_reducible rfl
  rotate_left
  · simp only [Act.put, List.setIfInBounds_toArray, List.set_cons_zero, List.set_cons_succ]
    rfl
  refine take_ (i := 2) (N := (some 7)) (v := ?_) (a' := ?_) #[true, true, true, false, false, true, false, false, false, false] rfl rfl (by kernel_rfl) (fun _ _ _ h => h) (Or.inl ⟨by rfl, ?_⟩) hHeld ?_ ?_
  rotate_left
  · rintro w' ⟨s0, s1, s2, s3, s4, s5, s6, s7, s8⟩
    go_simp
    with_reducible rfl
  rotate_left
  · simp only [Act.put, List.setIfInBounds_toArray, List.set_cons_zero, List.set_cons_succ]
    rfl
  refine take_ (i := 4) (N := (some 9)) (v := ?_) (a' := ?_) #[true, true, true, false, true, true, false, false, false, false] rfl rfl (by kernel_rfl) (fun _ _ _ h => h) (Or.inl ⟨by rfl, ?_⟩) hHeld ?_ ?_
  rotate_left
  · rintro w' ⟨s0, s1, s2, s3, s4, s5, s6, s7, s8⟩
    go_simp
    with_reducible rfl
  rotate_left
  · simp only [Act.put, List.setIfInBounds_toArray, List.set_cons_zero, List.set_cons_succ]
    rfl
  refine take_ (i := 6) (N := (some 11)) (v := ?_) (a' := ?_) #[true, true, true, false, true, true, true, false, false, false] rfl rfl (by kernel_rfl) (fun _ _ _ h => h) (Or.inl ⟨by rfl, ?_⟩) hHeld ?_ ?_
  rotate_left
  · rintro w' ⟨s0, s1, s2, s3, s4, s5, s6, s7, s8⟩
    go_simp
    with_reducible rfl
  rotate_left
  · simp only [Act.put, List.setIfInBounds_toArray, List.set_cons_zero, List.set_cons_succ]
    rfl
  refine one_ (i := 3) (N := (some 8)) #[true, true, true, true, true, true, true, false, false, false] rfl rfl (by kernel_rfl) (by decide) (fun K hK => ?_)
  refine goes_ Try.func61 (by kernel_rfl) rfl #[.agg #[.bool s0, .slice A0 xs0.length c0, .slice B0 ys0.length d0], .agg #[.bool s1, .slice A1 xs1.length c1, .slice B1 ys1.length d1]] (by rfl) rfl rfl (by (try simp only [List.map_toArray, List.map_cons, List.map_nil]); first | done | rfl) ?_
  refine (hC0.out W HF.out.bel).mono ?_
  rintro e W1 ⟨E0, e0, G0, g0, rfl, q1, q2, q3⟩
  refine ⟨_, rfl, ?_⟩
  replace HF := Lib.hid (HF.out.below q3)
  have Q0 := Lib.hid (InQ.mk q1 q2)
  clear q1 q2 q3
  refine hK.out _ _ ⟨HF.out.cellN 2 rfl 0 rfl, HF.out.cellN 2 rfl 1 rfl, HF.out.cellN 2 rfl 2 rfl, HF.out.cellN 1 rfl 0 rfl, HF.out.cellN 1 rfl 1 rfl, HF.out.cellN 1 rfl 2 rfl, HF.out.cellN 1 rfl 3 rfl, HF.out.cellN 1 rfl 4 rfl, HF.out.cellN 1 rfl 5 rfl⟩ (fun hHeld => ?_)
  clear hK K
  refine norm_ (a' := ?_) ?_ ?_
  rotate_left
  · show Act.put _ (some 8) _ = _
    simp only [Act.put, List.setIfInBounds_toArray, List.set_cons_zero, List.set_cons_succ]
    rfl
  refine one_ (i := 7) (N := (some 12)) #[true, true, true, true, true, true, true, true, false, false] rfl rfl (by kernel_rfl) (by decide) (fun K hK => ?_)
  refine goes_ Try.func61 (by kernel_rfl) rfl #[.agg #[.bool s0, .slice A0 xs0.length c0, .slice B0 ys0.length d0], .agg #[.bool s2, .slice A2 xs2.length c2, .slice B2 ys2.length d2]] (by rfl) rfl rfl (by (try simp only [List.map_toArray, List.map_cons, List.map_nil]); first | done | rfl) ?_
  refine (hC1.out W1 HF.out.bel).mono ?_
  rintro e W2 ⟨E1, e1, G1, g1, rfl, q1, q2, q3⟩
  refine ⟨_, rfl, ?_⟩
  replace HF := Lib.hid (HF.out.below q3)
  replace Q0 := Lib.hid (Q0.out.below q3)
  have Q1 := Lib.hid (InQ.mk q1 q2)
  clear q1 q2 q3
  refine hK.out _ _ ⟨HF.out.cellN 2 rfl 0 rfl, HF.out.cellN 2 rfl 1 rfl, HF.out.cellN 2 rfl 2 rfl, HF.out.cellN 1 rfl 0 rfl, HF.out.cellN 1 rfl 1 rfl, HF.out.cellN 1 rfl 2 rfl, HF.out.cellN 1 rfl 3 rfl, HF.out.cellN 1 rfl 4 rfl, HF.out.cellN 1 rfl 5 rfl⟩ (fun hHeld => ?_)
  clear hK K
  refine norm_ (a' := ?_) ?_ ?_
  rotate_left
  · show Act.put _ (some 12) _ = _
    simp only [Act.put, List.setIfInBounds_toArray, List.set_cons_zero, List.set_cons_succ]
    rfl
  refine pure_ (i := 8) (N := (some 13)) (v := ?_) (a' := ?_) #[true, true, true, true, true, true, true, true, true, false] rfl rfl (by kernel_rfl) (fun _ _ _ h => h) (Or.inl ⟨by rfl, ?_⟩) ?_ ?_
  rotate_left
  · intro w'
    go_simp
    with_reducible rfl
  rotate_left
  · simp only [Act.put, List.setIfInBounds_toArray, List.set_cons_zero, List.set_cons_succ]
    rfl
  refine one_ (i := 9) (N := none) #[true, true, true, true, true, true, true, true, true, true] rfl rfl (by kernel_rfl) (by decide) (fun K hK => ?_)
  have hf0 := HF.out.frozenN 0 rfl 0
  have hd0 := HF.out.cellN 0 rfl 0 rfl
  have hf1 := HF.out.frozenN 0 rfl 1
  have hd1 := HF.out.cellN 0 rfl 1 rfl
  have hf2 := HF.out.frozenN 0 rfl 2
  have hd2 := HF.out.cellN 0 rfl 2 rfl
  have hf3 := HF.out.frozenN 0 rfl 3
  have hd3 := HF.out.cellN 0 rfl 3 rfl
  have hf4 := HF.out.frozenN 0 rfl 4
  have hd4 := HF.out.cellN 0 rfl 4 rfl
  have hf5 := HF.out.frozenN 0 rfl 5
  have hd5 := HF.out.cellN 0 rfl 5 rfl
  refine skip_ (w1 := ?_) (by rfl) rfl ?_ ?_
  rotate_left
  · go_simp
    rfl
  have HE := Lib.hid (end_delta HF.out (fun y hy => by simp at hy) (by simp; try omega) (by omega) Q0.out Q1.out rfl)
  replace HF := Lib.hid (HF.out.put6 0 rfl (by omega) (by simp; try omega) (.bool (decide (p.num < 0))) (.slice E0 (dg p.num.natAbs).length e0) (.slice G0 (dg p.den).length g0) (.bool (decide (q.num < 0))) (.slice E1 (dg q.num.natAbs).length e1) (.slice G1 (dg q.den).length g1))
  refine hK.out _ _ ⟨HF.out.cellN 2 rfl 0 rfl, HF.out.cellN 2 rfl 1 rfl, HF.out.cellN 2 rfl 2 rfl, HF.out.cellN 1 rfl 0 rfl, HF.out.cellN 1 rfl 1 rfl, HF.out.cellN 1 rfl 2 rfl, HF.out.cellN 1 rfl 3 rfl, HF.out.cellN 1 rfl 4 rfl, HF.out.cellN 1 rfl 5 rfl⟩ (fun hHeld => ?_)
  clear hK K
  refine done_ (by kernel_rfl) ?_
  generalize decide (p.num < 0) = b at HE ⊢
  generalize decide (q.num < 0) = b2 at HE ⊢
  go_wp2
  obtain ⟨f1, f2⟩ := HE.out
  exact post_own f2 rfl rfl rfl Try.underlying37 rfl (by kernel_rfl) f1

set_option maxHeartbeats 1000000 in
set_option maxRecDepth 100000 in
theorem r5_Norm (s0 : Bool) (A0 : Option Addr) (c0 : Nat) (xs0 : List Int) (B0 : Option Addr) (d0 : Nat) (ys0 : List Int) (s1 : Bool) (A1 : Option Addr) (c1 : Nat) (xs1 : List Int) (B1 : Option Addr) (d1 : Nat) (ys1 : List Int) (w : World) (hn0 : In w A0 c0 xs0) (mn0 : xs0.length ≤ 549755813888) (hd0 : In w B0 d0 ys0) (md0 : ys0.length ≤ 549755813888) (hn1 : In w A1 c1 xs1) (mn1 : xs1.length ≤ 549755813888) (hd1 : In w B1 d1 ys1) (md1 : ys1.length ≤ 549755813888) :
    Calls Try.prog 101 #[.agg #[.bool s0, .slice A0 xs0.length c0, .slice B0 ys0.length d0, .bool s1, .slice A1 xs1.length c1, .slice B1 ys1.length d1]] w fun e w' => ToldDl w (rv s0 xs0 ys0) (rv s1 xs1 ys1) e w' := by
  have hC0 := Lib.hid (fun (W : World) (hb : Below w.heap.size w W) => r3_Norm s0 A0 c0 xs0 B0 d0 ys0 W (hn0.below hb) mn0 (hd0.below hb) md0)
  have hC1 := Lib.hid (fun (W : World) (hb : Below w.heap.size w W) => r3_Norm s1 A1 c1 xs1 B1 d1 ys1 W (hn1.below hb) mn1 (hd1.below hb) md1)
  generalize rv s0 xs0 ys0 = p at *
  generalize rv s1 xs1 ys1 = q at *
  clear hn0 hd0 mn0 md0 hn1 hd1 mn1 md1
  have HF := Lib.hid (((Fr.refl w).box [.bool s0, .slice A0 xs0.length c0, .slice B0 ys0.length d0, .bool s1, .slice A1 xs1.length c1, .slice B1 ys1.length d1] 37).box [.bool false, .slice none 0 0, .slice none 0 0, .bool false, .slice none 0 0, .slice none 0 0] 37)
  have hsz0 : (w.alloc (.cells [Value.bool s0, Value.slice A0 xs0.length c0, Value.slice B0 ys0.length d0, Value.bool s1, Value.slice A1 xs1.length c1, Value.slice B1 ys1.length d1].toArray 37)).heap.size = w.heap.size + 1 := by simp
  simp only [hsz0] at HF
  clear hsz0
  go_enter Try.func101, Try.ntmps101
  go_wp2_with fail
  generalize ((w.alloc (Obj.cells #[Value.bool s0, .slice A0 xs0.length c0, .slice B0 ys0.length d0, .bool s1, .slice A1 xs1.length c1, .slice B1 ys1.length d1] 37)).alloc (Obj.cells #[Value.bool false, .slice none 0 0, .slice none 0 0, .bool false, .slice none 0 0, .slice none 0 0] 37)) = W at *
  have HF_ := Lib.hid HF.out.drew
  clear HF
  have HF := HF_
  clear HF_
  refine start_ (n := 8) (S := fun w' => w'.cell? ⟨w.heap.size, 0, none⟩ = some (.bool s0) ∧ w'.cell? ⟨w.heap.size, 1, none⟩ = some (.slice A0 xs0.length c0) ∧ w'.cell? ⟨w.heap.size, 2, none⟩ = some (.slice B0 ys0.length d0) ∧ w'.cell? ⟨w.heap.size, 3, none⟩ = some (.bool s1) ∧ w'.cell? ⟨w.heap.size, 4, none⟩ = some (.slice A1 xs1.length c1) ∧ w'.cell? ⟨w.heap.size, 5, none⟩ = some (.slice B1 ys1.length d1)) (ds := []) #[false, false, false, false, false, false, false, false] (by kernel_rfl) rfl rfl ⟨HF.out.cellN 1 rfl 0 rfl, HF.out.cellN 1 rfl 1 rfl, HF.out.cellN 1 rfl 2 rfl, HF.out.cellN 1 rfl 3 rfl, HF.out.cellN 1 rfl 4 rfl, HF.out.cellN 1 rfl 5 rfl⟩ (fun hHeld => ?_)
  generalize World.drew _ = W at *
  refine pure_ (i := 0) (N := (some 3)) (v := ?_) (a' := ?_) #[true, false, false, false, false, false, false, false] rfl rfl (by kernel_rfl) (fun _ _ _ h => h) (Or.inl ⟨by rfl, ?_⟩) ?_ ?_
  rotate_left
  · intro w'
    go_simp
    with_reducible rfl
  rotate_left
  · simp only [Act.put, List.setIfInBounds_toArray, List.set_cons_zero, List.set_cons_succ]
    rfl
  refine pure_ (i := 3) (N := (some 6)) (v := ?_) (a' := ?_) #[true, false, false, true, false, false, false, false] rfl rfl (by kernel_rfl) (fun _ _ _ h => h) (Or.inl ⟨by rfl, ?_⟩) ?_ ?_
  rotate_left
  · intro w'
    go_simp
    with_reducible rfl
  rotate_left
  · simp only [Act.put, List.setIfInBounds_toArray, List.set_cons_zero, List.set_cons_succ]
    rfl
  refine take_ (i := 1) (N := (some 4)) (v := ?_) (a' := ?_) #[true, true, false, true, false, false, false, false] rfl rfl (by kernel_rfl) (fun _ _ _ h => h) (Or.inl ⟨by rfl, ?_⟩) hHeld ?_ ?_
  rotate_left
  · rintro w' ⟨s0, s1, s2, s3, s4, s5⟩
    go_simp
    with_reducible rfl
  rotate_left
  · simp only [Act.put, List.setIfInBounds_toArray, List.set_cons_zero, List.set_cons_succ]
    rfl
  refine take_ (i := 4) (N := (some 7)) (v := ?_) (a' := ?_) #[true, true, false, true, true, false, false, false] rfl rfl (by kernel_rfl) (fun _ _ _ h => h) (Or.inl ⟨by rfl, ?_⟩) hHeld ?_ ?_
  rotate_left
  · rintro w' ⟨s0, s1, s2, s3, s4, s5⟩
    go_simp
    with_reducible rfl
  rotate_left
  · simp only [Act.put, List.setIfInBounds_toArray, List.set_cons_zero, List.set_cons_succ]
    rfl
  refine one_ (i := 2) (N := (some 5)) #[true, true, true, true, true, false, false, false] rfl rfl (by kernel_rfl) (by decide) (fun K hK => ?_)
  refine goes_ Try.func73 (by kernel_rfl) rfl #[.agg #[.bool s0, .slice A0 xs0.length c0, .slice B0 ys0.length d0]] (by rfl) rfl rfl (by (try simp only [List.map_toArray, List.map_cons, List.map_nil]); first | done | rfl) ?_
  refine (hC0.out W HF.out.bel).mono ?_
  rintro e W1 ⟨E0, e0, G0, g0, rfl, q1, q2, q3⟩
  refine ⟨_, rfl, ?_⟩
  replace HF := Lib.hid (HF.out.below q3)
  have Q0 := Lib.hid (InQ.mk q1 q2)
  clear q1 q2 q3
  refine hK.out _ _ ⟨HF.out.cellN 1 rfl 0 rfl, HF.out.cellN 1 rfl 1 rfl, HF.out.cellN 1 rfl 2 rfl, HF.out.cellN 1 rfl 3 rfl, HF.out.cellN 1 rfl 4 rfl, HF.out.cellN 1 rfl 5 rfl⟩ (fun hHeld => ?_)
  clear hK K
  refine norm_ (a' := ?_) ?_ ?_
  rotate_left
  · show Act.put _ (some 5) _ = _
    simp only [Act.put, List.setIfInBounds_toArray, List.set_cons_zero, List.set_cons_succ]
    rfl
  refine one_ (i := 5) (N := (some 8)) #[true, true, true, true, true, true, false, false] rfl rfl (by kernel_rfl) (by decide) (fun K hK => ?_)
  refine goes_ Try.func73 (by kernel_rfl) rfl #[.agg #[.bool s1, .slice A1 xs1.length c1, .slice B1 ys1.length d1]] (by rfl) rfl rfl (by (try simp only [List.map_toArray, List.map_cons, List.map_nil]); first | done | rfl) ?_
  refine (hC1.out W1 HF.out.bel).mono ?_
  rintro e W2 ⟨E1, e1, G1, g1, rfl, q1, q2, q3⟩
  refine ⟨_, rfl, ?_⟩
  replace HF := Lib.hid (HF.out.below q3)
  replace Q0 := Lib.hid (Q0.out.below q3)
  have Q1 := Lib.hid (InQ.mk q1 q2)
  clear q1 q2 q3
  refine hK.out _ _ ⟨HF.out.cellN 1 rfl 0 rfl, HF.out.cellN 1 rfl 1 rfl, HF.out.cellN 1 rfl 2 rfl, HF.out.cellN 1 rfl 3 rfl, HF.out.cellN 1 rfl 4 rfl, HF.out.cellN 1 rfl 5 rfl⟩ (fun hHeld => ?_)
  clear hK K
  refine norm_ (a' := ?_) ?_ ?_
  rotate_left
  · show Act.put _ (some 8) _ = _
    simp only [Act.put, List.setIfInBounds_toArray, List.set_cons_zero, List.set_cons_succ]
    rfl
  refine pure_ (i := 6) (N := (some 9)) (v := ?_) (a' := ?_) #[true, true, true, true, true, true, true, false] rfl rfl (by kernel_rfl) (fun _ _ _ h => h) (Or.inl ⟨by rfl, ?_⟩) ?_ ?_
  rotate_left
  · intro w'
    go_simp
    with_reducible rfl
  rotate_left
  · simp only [Act.put, List.setIfInBounds_toArray, List.set_cons_zero, List.set_cons_succ]
    rfl
  refine one_ (i := 7) (N := none) #[true, true, true, true, true, true, true, true] rfl rfl (by kernel_rfl) (by decide) (fun K hK => ?_)
  have hf0 := HF.out.frozenN 0 rfl 0
  have hd0 := HF.out.cellN 0 rfl 0 rfl
  have hf1 := HF.out.frozenN 0 rfl 1
  have hd1 := HF.out.cellN 0 rfl 1 rfl
  have hf2 := HF.out.frozenN 0 rfl 2
  have hd2 := HF.out.cellN 0 rfl 2 rfl
  have hf3 := HF.out.frozenN 0 rfl 3
  have hd3 := HF.out.cellN 0 rfl 3 rfl
  have hf4 := HF.out.frozenN 0 rfl 4
  have hd4 := HF.out.cellN 0 rfl 4 rfl
  have hf5 := HF.out.frozenN 0 rfl 5
  have hd5 := HF.out.cellN 0 rfl 5 rfl
  refine skip_ (w1 := ?_) (by rfl) rfl ?_ ?_
  rotate_left
  · go_simp
    rfl
  have HE := Lib.hid (end_delta HF.out (fun y hy => by simp at hy) (by simp; try omega) (by omega) Q0.out Q1.out rfl)
  replace HF := Lib.hid (HF.out.put6 0 rfl (by omega) (by simp; try omega) (.bool (decide (p.num < 0))) (.slice E0 (dg p.num.natAbs).length e0) (.slice G0 (dg p.den).length g0) (.bool (decide (q.num < 0))) (.slice E1 (dg q.num.natAbs).length e1) (.slice G1 (dg q.den).length g1))
  refine hK.out _ _ ⟨HF.out.cellN 1 rfl 0 rfl, HF.out.cellN 1 rfl 1 rfl, HF.out.cellN 1 rfl 2 rfl, HF.out.cellN 1 rfl 3 rfl, HF.out.cellN 1 rfl 4 rfl, HF.out.cellN 1 rfl 5 rfl⟩ (fun hHeld => ?_)
  clear hK K
  refine done_ (by kernel_rfl) ?_
  generalize decide (p.num < 0) = b at HE ⊢
  generalize decide (q.num < 0) = b2 at HE ⊢
  go_wp2
  obtain ⟨f1, f2⟩ := HE.out
  exact post_own f2 rfl rfl rfl Try.underlying37 rfl (by kernel_rfl) f1

set_option maxHeartbeats 1000000 in
set_option maxRecDepth 100000 in
theorem r5_Add (s0 : Bool) (A0 : Option Addr) (c0 : Nat) (xs0 : List Int) (B0 : Option Addr) (d0 : Nat) (ys0 : List Int) (s1 : Bool) (A1 : Option Addr) (c1 : Nat) (xs1 : List Int) (B1 : Option Addr) (d1 : Nat) (ys1 : List Int) (s2 : Bool) (A2 : Option Addr) (c2 : Nat) (xs2 : List Int) (B2 : Option Addr) (d2 : Nat) (ys2 : List Int) (s3 : Bool) (A3 : Option Addr) (c3 : Nat) (xs3 : List Int) (B3 : Option Addr) (d3 : Nat) (ys3 : List Int) (w : World) (hn0 : In w A0 c0 xs0) (mn0 : xs0.length ≤ 137438953472) (hd0 : In w B0 d0 ys0) (md0 : ys0.length ≤ 137438953472) (hn1 : In w A1 c1 xs1) (mn1 : xs1.length ≤ 137438953472) (hd1 : In w B1 d1 ys1) (md1 : ys1.length ≤ 137438953472) (hn2 : In w A2 c2 xs2) (mn2 : xs2.length ≤ 137438953472) (hd2 : In w B2 d2 ys2) (md2 : ys2.length ≤ 137438953472) (hn3 : In w A3 c3 xs3) (mn3 : xs3.length ≤ 137438953472) (hd3 : In w B3 d3 ys3) (md3 : ys3.length ≤ 137438953472) :
    Calls Try.prog 68 #[.agg #[.bool s0, .slice A0 xs0.length c0, .slice B0 ys0.length d0, .bool s1, .slice A1 xs1.length c1, .slice B1 ys1.length d1], .agg #[.bool s2, .slice A2 xs2.length c2, .slice B2 ys2.length d2, .bool s3, .slice A3 xs3.length c3, .slice B3 ys3.length d3]] w fun e w' => ToldDl w (rv s0 xs0 ys0 + rv s2 xs2 ys2) (rv s1 xs1 ys1 + rv s3 xs3 ys3) e w' := by
  have hC0 := Lib.hid (fun (W : World) (hb : Below w.heap.size w W) => r3_Add s0 A0 c0 xs0 B0 d0 ys0 s2 A2 c2 xs2 B2 d2 ys2 W (hn0.below hb) mn0 (hd0.below hb) md0 (hn2.below hb) mn2 (hd2.below hb) md2)
  have hC1 := Lib.hid (fun (W : World) (hb : Below w.heap.size w W) => r3_Add s1 A1 c1 xs1 B1 d1 ys1 s3 A3 c3 xs3 B3 d3 ys3 W (hn1.below hb) mn1 (hd1.below hb) md1 (hn3.below hb) mn3 (hd3.below hb) md3)
  generalize rv s0 xs0 ys0 + rv s2 xs2 ys2 = p at *
  generalize rv s1 xs1 ys1 + rv s3 xs3 ys3 = q at *
  clear hn0 hd0 mn0 md0 hn1 hd1 mn1 md1 hn2 hd2 mn2 md2 hn3 hd3 mn3 md3
  have HF := Lib.hid ((((Fr.refl w).box [.bool s0, .slice A0 xs0.length c0, .slice B0 ys0.length d0, .bool s1, .slice A1 xs1.length c1, .slice B1 ys1.length d1] 37).box [.bool s2, .slice A2 xs2.length c2, .slice B2 ys2.length d2, .bool s3, .slice A3 xs3.length c3, .slice B3 ys3.length d3] 37).box [.bool false, .slice none 0 0, .slice none 0 0, .bool false, .slice none 0 0, .slice none 0 0] 37)
  have hsz0 : (w.alloc (.cells [Value.bool s0, Value.slice A0 xs0.length c0, Value.slice B0 ys0.length d0, Value.bool s1, Value.slice A1 xs1.length c1, Value.slice B1 ys1.length d1].toArray 37)).heap.size = w.heap.size + 1 := by simp
  have hsz1 : ((w.alloc (.cells [Value.bool s0, Value.slice A0 xs0.length c0, Value.slice B0 ys0.length d0, Value.bool s1, Value.slice A1 xs1.length c1, Value.slice B1 ys1.length d1].toArray 37)).alloc (.cells [Value.bool s2, Value.slice A2 xs2.length c2, Value.slice B2 ys2.length d2, Value.bool s3, Value.slice A3 xs3.length c3, Value.slice B3 ys3.length d3].toArray 37)).heap.size = w.heap.size + 2 := by simp
  simp only [hsz0, hsz1] at HF
  clear hsz0 hsz1
  go_enter Try.func68, Try.ntmps68
  go_wp2_with fail
  generalize (((w.alloc (Obj.cells #[Value.bool s0, .slice A0 xs0.length c0, .slice B0 ys0.length d0, .bool s1, .slice A1 xs1.length c1, .slice B1 ys1.length d1] 37)).alloc (Obj.cells #[Value.bool s2, .slice A2 xs2.length c2, .slice B2 ys2.length d2, .bool s3, .slice A3 xs3.length c3, .slice B3 ys3.length d3] 37)).alloc (Obj.cells #[Value.bool false, .slice none 0 0, .slice none 0 0, .bool false, .slice none 0 0, .slice none 0 0] 37)) = W at *
  have HF_ := Lib.hid HF.out.drew
  clear HF
  have HF := HF_
  clear HF_
  refine start_ (n := 12) (S := fun w' => w'.cell? ⟨w.heap.size, 0, none⟩ = some (.bool s0) ∧ w'.cell? ⟨w.heap.size, 1, none⟩ = some (.slice A0 xs0.length c0) ∧ w'.cell? ⟨w.heap.size, 2, none⟩ = some (.slice B0 ys0.length d0) ∧ w'.cell? ⟨w.heap.size, 3, none⟩ = some (.bool s1) ∧ w'.cell? ⟨w.heap.size, 4, none⟩ = some (.slice A1 xs1.length c1) ∧ w'.cell? ⟨w.heap.size, 5, none⟩ = some (.slice B1 ys1.length d1) ∧ w'.cell? ⟨w.heap.size + 1, 0, none⟩ = some (.bool s2) ∧ w'.cell? ⟨w.heap.size + 1, 1, none⟩ = some (.slice A2 xs2.length c2) ∧ w'.cell? ⟨w.heap.size + 1, 2, none⟩ = some (.slice B2 ys2.length d2) ∧ w'.cell? ⟨w.heap.size + 1, 3, none⟩ = some (.bool s3) ∧ w'.cell? ⟨w.heap.size + 1, 4, none⟩ = some (.slice A3 xs3.length c3) ∧ w'.cell? ⟨w.heap.size + 1, 5, none⟩ = some (.slice B3 ys3.length d3)) (ds := []) #[false, false, false, false, false, false, false, false, false, false, false, false] (by kernel_rfl) rfl rfl ⟨HF.out.cellN 2 rfl 0 rfl, HF.out.cellN 2 rfl 1 rfl, HF.out.cellN 2 rfl 2 rfl, HF.out.cellN 2 rfl 3 rfl, HF.out.cellN 2 rfl 4 rfl, HF.out.cellN 2 rfl 5 rfl, HF.out.cellN 1 rfl 0 rfl, HF.out.cellN 1 rfl 1 rfl, HF.out.cellN 1 rfl 2 rfl, HF.out.cellN 1 rfl 3 rfl, HF.out.cellN 1 rfl 4 rfl, HF.out.cellN 1 rfl 5 rfl⟩ (fun hHeld => ?_)
  generalize World.drew _ = W at *
  refine pure_ (i := 0) (N := (some 5)) (v := ?_) (a' := ?_) #[true, false, false, false, false, false, false, false, false, false, false, false] rfl rfl (by kernel_rfl) (fun _ _ _ h => h) (Or.inl ⟨by rfl, ?_⟩) ?_ ?_
  rotate_left
  · intro w'
    go_simp
    with_reducible rfl
  rotate_left
  · simp only [Act.put, List.setIfInBounds_toArray, List.set_cons_zero, List.set_cons_succ]
    rfl
  refine pure_ (i := 2) (N := (some 7)) (v := ?_) (a' := ?_) #[true, false, true, false, false, false, false, false, false, false, false, false] rfl rfl (by kernel_rfl) (fun _ _ _ h => h) (Or.inl ⟨by rfl, ?_⟩) ?_ ?_
  rotate_left
  · intro w'
    go_simp
    with_reducible rfl
  rotate_left
  · simp only [Act.put, List.setIfInBounds_toArray, List.set_cons_zero, List.set_cons_succ]
    rfl
  refine pure_ (i := 5) (N := (some 10)) (v := ?_) (a' := ?_) #[true, false, true, false, false, true, false, false, false, false, false, false] rfl rfl (by kernel_rfl) (fun _ _ _ h => h) (Or.inl ⟨by rfl, ?_⟩) ?_ ?_
  rotate_left
  · intro w'
    go_simp
    with_reducible rfl
  rotate_left
  · simp only [Act.put, List.setIfInBounds_toArray, List.set_cons_zero, List.set_cons_succ]
    rfl
  refine pure_ (i := 7) (N := (some 12)) (v := ?_) (a' := ?_) #[true, false, true, false, false, true, false, true, false, false, false, false] rfl rfl (by kernel_rfl) (fun _ _ _ h => h) (Or.inl ⟨by rfl, ?_⟩) ?_ ?_
  rotate_left
  · intro w'
    go_simp
    with_reducible rfl
  rotate_left
  · simp only [Act.put, List.setIfInBounds_toArray, List.set_cons_zero, List.set_cons_succ]
    rfl
  refine take_ (i := 1) (N := (some 6)) (v := ?_) (a' := ?_) #[true, true, true, false, false, true, false, true, false, false, false, false] rfl rfl (by kernel_rfl) (fun _ _ _ h => h) (Or.inl ⟨by rfl, ?_⟩) hHeld ?_ ?_
  rotate_left
  · rintro w' ⟨s0, s1, s2, s3, s4, s5, s6, s7, s8, s9, s10, s11⟩
    go_simp
    with_reducible rfl
  rotate_left
  · simp only [Act.put, List.setIfInBounds_toArray, List.set_cons_zero, List.set_cons_succ]
    rfl
  refine take_ (i := 3) (N := (some 8)) (v := ?_) (a' := ?_) #[true, true, true, true, false, true, false, true, false, false, false, false] rfl rfl (by kernel_rfl) (fun _ _ _ h => h) (Or.inl ⟨by rfl, ?_⟩) hHeld ?_ ?_
  rotate_left
  · rintro w' ⟨s0, s1, s2, s3, s4, s5, s6, s7, s8, s9, s10, s11⟩
    go_simp
    with_reducible rfl
  rotate_left
  · simp only [Act.put, List.setIfInBounds_toArray, List.set_cons_zero, List.set_cons_succ]
    rfl
  refine take_ (i := 6) (N := (some 11)) (v := ?_) (a' := ?_) #[true, true, true, true, false, true, true, true, false, false, false, false] rfl rfl (by kernel_rfl) (fun _ _ _ h => h) (Or.inl ⟨by rfl, ?_⟩) hHeld ?_ ?_
  rotate_left
  · rintro w' ⟨s0, s1, s2, s3, s4, s5, s6, s7, s8, s9, s10, s11⟩
    go_simp
    with_reducible rfl
  rotate_left
  · simp only [Act.put, List.setIfInBounds_toArray, List.set_cons_zero, List.set_cons_succ]
    rfl
  refine take_ (i := 8) (N := (some 13)) (v := ?_) (a' := ?_) #[true, true, true, true, false, true, true, true, true, false, false, false] rfl rfl (by kernel_rfl) (fun _ _ _ h => h) (Or.inl ⟨by rfl, ?_⟩) hHeld ?_ ?_
  rotate_left
  · rintro w' ⟨s0, s1, s2, s3, s4, s5, s6, s7, s8, s9, s10, s11⟩
    go_simp
    with_reducible rfl
  rotate_left
  · simp only [Act.put, List.setIfInBounds_toArray, List.set_cons_zero, List.set_cons_succ]
    rfl
  refine one_ (i := 4) (N := (some 9)) #[true, true, true, true, true, true, true, true, true, false, false, false] rfl rfl (by kernel_rfl) (by decide) (fun K hK => ?_)
  refine goes_ Try.func30 (by kernel_rfl) rfl #[.agg #[.bool s0, .slice A0 xs0.length c0, .slice B0 ys0.length d0], .agg #[.bool s2, .slice A2 xs2.length c2, .slice B2 ys2.length d2]] (by rfl) rfl rfl (by (try simp only [List.map_toArray, List.map_cons, List.map_nil]); first | done | rfl) ?_
  refine (hC0.out W HF.out.bel).mono ?_
  rintro e W1 ⟨E0, e0, G0, g0, rfl, q1, q2, q3⟩
  refine ⟨_, rfl, ?_⟩
  replace HF := Lib.hid (HF.out.below q3)
  have Q0 := Lib.hid (InQ.mk q1 q2)
  clear q1 q2 q3
  refine hK.out _ _ ⟨HF.out.cellN 2 rfl 0 rfl, HF.out.cellN 2 rfl 1 rfl, HF.out.cellN 2 rfl 2 rfl, HF.out.cellN 2 rfl 3 rfl, HF.out.cellN 2 rfl 4 rfl, HF.out.cellN 2 rfl 5 rfl, HF.out.cellN 1 rfl 0 rfl, HF.out.cellN 1 rfl 1 rfl, HF.out.cellN 1 rfl 2 rfl, HF.out.cellN 1 rfl 3 rfl, HF.out.cellN 1 rfl 4 rfl, HF.out.cellN 1 rfl 5 rfl⟩ (fun hHeld => ?_)
  clear hK K
  refine norm_ (a' := ?_) ?_ ?_
  rotate_left
  · show Act.put _ (some 9) _ = _
    simp only [Act.put, List.setIfInBounds_toArray, List.set_cons_zero, List.set_cons_succ]
    rfl
  refine one_ (i := 9) (N := (some 14)) #[true, true, true, true, true, true, true, true, true, true, false, false] rfl rfl (by kernel_rfl) (by decide) (fun K hK => ?_)
  refine goes_ Try.func30 (by kernel_rfl) rfl #[.agg #[.bool s1, .slice A1 xs1.length c1, .slice B1 ys1.length d1], .agg #[.bool s3, .slice A3 xs3.length c3, .slice B3 ys3.length d3]] (by rfl) rfl rfl (by (try simp only [List.map_toArray, List.map_cons, List.map_nil]); first | done | rfl) ?_
  refine (hC1.out W1 HF.out.bel).mono ?_
  rintro e W2 ⟨E1, e1, G1, g1, rfl, q1, q2, q3⟩
  refine ⟨_, rfl, ?_⟩
  replace HF := Lib.hid (HF.out.below q3)
  replace Q0 := Lib.hid (Q0.out.below q3)
  have Q1 := Lib.hid (InQ.mk q1 q2)
  clear q1 q2 q3
  refine hK.out _ _ ⟨HF.out.cellN 2 rfl 0 rfl, HF.out.cellN 2 rfl 1 rfl, HF.out.cellN 2 rfl 2 rfl, HF.out.cellN 2 rfl 3 rfl, HF.out.cellN 2 rfl 4 rfl, HF.out.cellN 2 rfl 5 rfl, HF.out.cellN 1 rfl 0 rfl, HF.out.cellN 1 rfl 1 rfl, HF.out.cellN 1 rfl 2 rfl, HF.out.cellN 1 rfl 3 rfl, HF.out.cellN 1 rfl 4 rfl, HF.out.cellN 1 rfl 5 rfl⟩ (fun hHeld => ?_)
  clear hK K
  refine norm_ (a' := ?_) ?_ ?_
  rotate_left
  · show Act.put _ (some 14) _ = _
    simp only [Act.put, List.setIfInBounds_toArray, List.set_cons_zero, List.set_cons_succ]
    rfl
  refine pure_ (i := 10) (N := (some 15)) (v := ?_) (a' := ?_) #[true, true, true, true, true, true, true, true, true, true, true, false] rfl rfl (by kernel_rfl) (fun _ _ _ h => h) (Or.inl ⟨by rfl, ?_⟩) ?_ ?_
  rotate_left
  · intro w'
    go_simp
    with_reducible rfl
  rotate_left
  · simp only [Act.put, List.setIfInBounds_toArray, List.set_cons_zero, List.set_cons_succ]
    rfl
  refine one_ (i := 11) (N := none) #[true, true, true, true, true, true, true, true, true, true, true, true] rfl rfl (by kernel_rfl) (by decide) (fun K hK => ?_)
  have hf0 := HF.out.frozenN 0 rfl 0
  have hd0 := HF.out.cellN 0 rfl 0 rfl
  have hf1 := HF.out.frozenN 0 rfl 1
  have hd1 := HF.out.cellN 0 rfl 1 rfl
  have hf2 := HF.out.frozenN 0 rfl 2
  have hd2 := HF.out.cellN 0 rfl 2 rfl
  have hf3 := HF.out.frozenN 0 rfl 3
  have hd3 := HF.out.cellN 0 rfl 3 rfl
  have hf4 := HF.out.frozenN 0 rfl 4
  have hd4 := HF.out.cellN 0 rfl 4 rfl
  have hf5 := HF.out.frozenN 0 rfl 5
  have hd5 := HF.out.cellN 0 rfl 5 rfl
  refine skip_ (w1 := ?_) (by rfl) rfl ?_ ?_
  rotate_left
  · go_simp
    rfl
  have HE := Lib.hid (end_delta HF.out (fun y hy => by simp at hy) (by simp; try omega) (by omega) Q0.out Q1.out rfl)
  replace HF := Lib.hid (HF.out.put6 0 rfl (by omega) (by simp; try omega) (.bool (decide (p.num < 0))) (.slice E0 (dg p.num.natAbs).length e0) (.slice G0 (dg p.den).length g0) (.bool (decide (q.num < 0))) (.slice E1 (dg q.num.natAbs).length e1) (.slice G1 (dg q.den).length g1))
  refine hK.out _ _ ⟨HF.out.cellN 2 rfl 0 rfl, HF.out.cellN 2 rfl 1 rfl, HF.out.cellN 2 rfl 2 rfl, HF.out.cellN 2 rfl 3 rfl, HF.out.cellN 2 rfl 4 rfl, HF.out.cellN 2 rfl 5 rfl, HF.out.cellN 1 rfl 0 rfl, HF.out.cellN 1 rfl 1 rfl, HF.out.cellN 1 rfl 2 rfl, HF.out.cellN 1 rfl 3 rfl, HF.out.cellN 1 rfl 4 rfl, HF.out.cellN 1 rfl 5 rfl⟩ (fun hHeld => ?_)
  clear hK K
  refine done_ (by kernel_rfl) ?_
  generalize decide (p.num < 0) = b at HE ⊢
  generalize decide (q.num < 0) = b2 at HE ⊢
  go_wp2
  obtain ⟨f1, f2⟩ := HE.out
  exact post_own f2 rfl rfl rfl Try.underlying37 rfl (by kernel_rfl) f1

set_option maxHeartbeats 1000000 in
set_option maxRecDepth 100000 in
theorem r5_Scale (s0 : Bool) (A0 : Option Addr) (c0 : Nat) (xs0 : List Int) (B0 : Option Addr) (d0 : Nat) (ys0 : List Int) (s1 : Bool) (A1 : Option Addr) (c1 : Nat) (xs1 : List Int) (B1 : Option Addr) (d1 : Nat) (ys1 : List Int) (s2 : Bool) (A2 : Option Addr) (c2 : Nat) (xs2 : List Int) (B2 : Option Addr) (d2 : Nat) (ys2 : List Int) (w : World) (hn0 : In w A0 c0 xs0) (mn0 : xs0.length ≤ 137438953472) (hd0 : In w B0 d0 ys0) (md0 : ys0.length ≤ 137438953472) (hn1 : In w A1 c1 xs1) (mn1 : xs1.length ≤ 137438953472) (hd1 : In w B1 d1 ys1) (md1 : ys1.length ≤ 137438953472) (hn2 : In w A2 c2 xs2) (mn2 : xs2.length ≤ 137438953472) (hd2 : In w B2 d2 ys2) (md2 : ys2.length ≤ 137438953472) :
    Calls Try.prog 69 #[.agg #[.bool s0, .slice A0 xs0.length c0, .slice B0 ys0.length d0], .agg #[.bool s1, .slice A1 xs1.length c1, .slice B1 ys1.length d1, .bool s2, .slice A2 xs2.length c2, .slice B2 ys2.length d2]] w fun e w' => ToldDl w (rv s0 xs0 ys0 * rv s1 xs1 ys1) (rv s0 xs0 ys0 * rv s2 xs2 ys2) e w' := by
  have hC0 := Lib.hid (fun (W : World) (hb : Below w.heap.size w W) => r3_Mul s0 A0 c0 xs0 B0 d0 ys0 s1 A1 c1 xs1 B1 d1 ys1 W (hn0.below hb) mn0 (hd0.below hb) md0 (hn1.below hb) mn1 (hd1.below hb) md1)
  have hC1 := Lib.hid (fun (W : World) (hb : Below w.heap.size w W) => r3_Mul s0 A0 c0 xs0 B0 d0 ys0 s2 A2 c2 xs2 B2 d2 ys2 W (hn0.below hb) mn0 (hd0.below hb) md0 (hn2.below hb) mn2 (hd2.below hb) md2)
  generalize rv s0 xs0 ys0 * rv s1 xs1 ys1 = p at *
  generalize rv s0 xs0 ys0 * rv s2 xs2 ys2 = q at *
  clear hn0 hd0 mn0 md0 hn1 hd1 mn1 md1 hn2 hd2 mn2 md2
  have HF := Lib.hid ((((Fr.refl w).box [.bool s0, .slice A0 xs0.length c0, .slice B0 ys0.length d0] 31).box [.bool s1, .slice A1 xs1.length c1, .slice B1 ys1.length d1, .bool s2, .slice A2 xs2.length c2, .slice B2 ys2.length d2] 37).box [.bool false, .slice none 0 0, .slice none 0 0, .bool false, .slice none 0 0, .slice none 0 0] 37)
  have hsz0 : (w.alloc (.cells [Value.bool s0, Value.slice A0 xs0.length c0, Value.slice B0 ys0.length d0].toArray 31)).heap.size = w.heap.size + 1 := by simp
  have hsz1 : ((w.alloc (.cells [Value.bool s0, Value.slice A0 xs0.length c0, Value.slice B0 ys0.length d0].toArray 31)).alloc (.cells [Value.bool s1, Value.slice A1 xs1.length c1, Value.slice B1 ys1.length d1, Value.bool s2, Value.slice A2 xs2.length c2, Value.slice B2 ys2.length d2].toArray 37)).heap.size = w.heap.size + 2 := by simp
  simp only [hsz0, hsz1] at HF
  clear hsz0 hsz1
  go_enter Try.func69, Try.ntmps69
  go_wp2_with fail
  generalize (((w.alloc (Obj.cells #[Value.bool s0, .slice A0 xs0.length c0, .slice B0 ys0.length d0] 31)).alloc (Obj.cells #[Value.bool s1, .slice A1 xs1.length c1, .slice B1 ys1.length d1, .bool s2, .slice A2 xs2.length c2, .slice B2 ys2.length d2] 37)).alloc (Obj.cells #[Value.bool false, .slice none 0 0, .slice none 0 0, .bool false, .slice none 0 0, .slice none 0 0] 37)) = W at *
  have HF_ := Lib.hid HF.out.drew
  clear HF
  have HF := HF_
  clear HF_
  refine start_ (n := 10) (S := fun w' => w'.cell? ⟨w.heap.size, 0, none⟩ = some (.bool s0) ∧ w'.cell? ⟨w.heap.size, 1, none⟩ = some (.slice A0 xs0.length c0) ∧ w'.cell? ⟨w.heap.size, 2, none⟩ = some (.slice B0 ys0.length d0) ∧ w'.cell? ⟨w.heap.size + 1, 0, none⟩ = some (.bool s1) ∧ w'.cell? ⟨w.heap.size + 1, 1, none⟩ = some (.slice A1 xs1.length c1) ∧ w'.cell? ⟨w.heap.size + 1, 2, none⟩ = some (.slice B1 ys1.length d1) ∧ w'.cell? ⟨w.heap.size + 1, 3, none⟩ = some (.bool s2) ∧ w'.cell? ⟨w.heap.size + 1, 4, none⟩ = some (.slice A2 xs2.length c2) ∧ w'.cell? ⟨w.heap.size + 1, 5, none⟩ = some (.slice B2 ys2.length d2)) (ds := []) #[false, false, false, false, false, false, false, false, false, false] (by kernel_rfl) rfl rfl ⟨HF.out.cellN 2 rfl 0 rfl, HF.out.cellN 2 rfl 1 rfl, HF.out.cellN 2 rfl 2 rfl, HF.out.cellN 1 rfl 0 rfl, HF.out.cellN 1 rfl 1 rfl, HF.out.cellN 1 rfl 2 rfl, HF.out.cellN 1 rfl 3 rfl, HF.out.cellN 1 rfl 4 rfl, HF.out.cellN 1 rfl 5 rfl⟩ (fun hHeld => ?_)
  generalize World.drew _ = W at *
  refine pure_ (i := 1) (N := (some 6)) (v := ?_) (a' := ?_) #[false, true, false, false, false, false, false, false, false, false] rfl rfl (by kernel_rfl) (fun _ _ _ h => h) (Or.inl ⟨by rfl, ?_⟩) ?_ ?_
  rotate_left
  · intro w'
    go_simp
    with_reducible rfl
  rotate_left
  · simp only [Act.put, List.setIfInBounds_toArray, List.set_cons_zero, List.set_cons_succ]
    rfl
  refine pure_ (i := 5) (N := (some 10)) (v := ?_) (a' := ?_) #[false, true, false, false, false, true, false, false, false, false] rfl rfl (by kernel_rfl) (fun _ _ _ h => h) (Or.inl ⟨by rfl, ?_⟩) ?_ ?_
  rotate_left
  · intro w'
    go_simp
    with_reducible rfl
  rotate_left
  · simp only [Act.put, List.setIfInBounds_toArray, List.set_cons_zero, List.set_cons_succ]
    rfl
  refine take_ (i := 0) (N := (some 5)) (v := ?_) (a' := ?_) #[true, true, false, false, false, true, false, false, false, false] rfl rfl (by kernel_rfl) (fun _ _ _ h => h) (Or.inl ⟨by rfl, ?_⟩) hHeld ?_ ?_
  rotate_left
  · rintro w' ⟨s0, s1, s2, s3, s4, s5, s6, s7, s8⟩
    go_simp
    with_reducible rfl
  rotate_left
  · simp only [Act.put, List.setIfInBounds_toArray, List.set_cons_zero, List.set_cons_succ]
    rfl
  refine take_ (i := 2) (N := (some 7)) (v := ?_) (a' := ?_) #[true, true, true, false, false, true, false, false, false, false] rfl rfl (by kernel_rfl) (fun _ _ _ h => h) (Or.inl ⟨by rfl, ?_⟩) hHeld ?_ ?_
  rotate_left
  · rintro w' ⟨s0, s1, s2, s3, s4, s5, s6, s7, s8⟩
    go_simp
    with_reducible rfl
  rotate_left
  · simp only [Act.put, List.setIfInBounds_toArray, List.set_cons_zero, List.set_cons_succ]
    rfl
  refine take_ (i := 4) (N := (some 9)) (v := ?_) (a' := ?_) #[true, true, true, false, true, true, false, false, false, false] rfl rfl (by kernel_rfl) (fun _ _ _ h => h) (Or.inl ⟨by rfl, ?_⟩) hHeld ?_ ?_
  rotate_left
  · rintro w' ⟨s0, s1, s2, s3, s4, s5, s6, s7, s8⟩
    go_simp
    with_reducible rfl
  rotate_left
  · simp only [Act.put, List.setIfInBounds_toArray, List.set_cons_zero, List.set_cons_succ]
    rfl
  refine take_ (i := 6) (N := (some 11)) (v := ?_) (a' := ?_) #[true, true, true, false, true, true, true, false, false, false] rfl rfl (by kernel_rfl) (fun _ _ _ h => h) (Or.inl ⟨by rfl, ?_⟩) hHeld ?_ ?_
  rotate_left
  · rintro w' ⟨s0, s1, s2, s3, s4, s5, s6, s7, s8⟩
    go_simp
    with_reducible rfl
  rotate_left
  · simp only [Act.put, List.setIfInBounds_toArray, List.set_cons_zero, List.set_cons_succ]
    rfl
  refine one_ (i := 3) (N := (some 8)) #[true, true, true, true, true, true, true, false, false, false] rfl rfl (by kernel_rfl) (by decide) (fun K hK => ?_)
  refine goes_ Try.func51 (by kernel_rfl) rfl #[.agg #[.bool s0, .slice A0 xs0.length c0, .slice B0 ys0.length d0], .agg #[.bool s1, .slice A1 xs1.length c1, .slice B1 ys1.length d1]] (by rfl) rfl rfl (by (try simp only [List.map_toArray, List.map_cons, List.map_nil]); first | done | rfl) ?_
  refine (hC0.out W HF.out.bel).mono ?_
  rintro e W1 ⟨E0, e0, G0, g0, rfl, q1, q2, q3⟩
  refine ⟨_, rfl, ?_⟩
  replace HF := Lib.hid (HF.out.below q3)
  have Q0 := Lib.hid (InQ.mk q1 q2)
  clear q1 q2 q3
  refine hK.out _ _ ⟨HF.out.cellN 2 rfl 0 rfl, HF.out.cellN 2 rfl 1 rfl, HF.out.cellN 2 rfl 2 rfl, HF.out.cellN 1 rfl 0 rfl, HF.out.cellN 1 rfl 1 rfl, HF.out.cellN 1 rfl 2 rfl, HF.out.cellN 1 rfl 3 rfl, HF.out.cellN 1 rfl 4 rfl, HF.out.cellN 1 rfl 5 rfl⟩ (fun hHeld => ?_)
  clear hK K
  refine norm_ (a' := ?_) ?_ ?_
  rotate_left
  · show Act.put _ (some 8) _ = _
    simp only [Act.put, List.setIfInBounds_toArray, List.set_cons_zero, List.set_cons_succ]
    rfl
  refine one_ (i := 7) (N := (some 12)) #[true, true, true, true, true, true, true, true, false, false] rfl rfl (by kernel_rfl) (by decide) (fun K hK => ?_)
  refine goes_ Try.func51 (by kernel_rfl) rfl #[.agg #[.bool s0, .slice A0 xs0.length c0, .slice B0 ys0.length d0], .agg #[.bool s2, .slice A2 xs2.length c2, .slice B2 ys2.length d2]] (by rfl) rfl rfl (by (try simp only [List.map_toArray, List.map_cons, List.map_nil]); first | done | rfl) ?_
  refine (hC1.out W1 HF.out.bel).mono ?_
  rintro e W2 ⟨E1, e1, G1, g1, rfl, q1, q2, q3⟩
  refine ⟨_, rfl, ?_⟩
  replace HF := Lib.hid (HF.out.below q3)
  replace Q0 := Lib.hid (Q0.out.below q3)
  have Q1 := Lib.hid (InQ.mk q1 q2)
  clear q1 q2 q3
  refine hK.out _ _ ⟨HF.out.cellN 2 rfl 0 rfl, HF.out.cellN 2 rfl 1 rfl, HF.out.cellN 2 rfl 2 rfl, HF.out.cellN 1 rfl 0 rfl, HF.out.cellN 1 rfl 1 rfl, HF.out.cellN 1 rfl 2 rfl, HF.out.cellN 1 rfl 3 rfl, HF.out.cellN 1 rfl 4 rfl, HF.out.cellN 1 rfl 5 rfl⟩ (fun hHeld => ?_)
  clear hK K
  refine norm_ (a' := ?_) ?_ ?_
  rotate_left
  · show Act.put _ (some 12) _ = _
    simp only [Act.put, List.setIfInBounds_toArray, List.set_cons_zero, List.set_cons_succ]
    rfl
  refine pure_ (i := 8) (N := (some 13)) (v := ?_) (a' := ?_) #[true, true, true, true, true, true, true, true, true, false] rfl rfl (by kernel_rfl) (fun _ _ _ h => h) (Or.inl ⟨by rfl, ?_⟩) ?_ ?_
  rotate_left
  · intro w'
    go_simp
    with_reducible rfl
  rotate_left
  · simp only [Act.put, List.setIfInBounds_toArray, List.set_cons_zero, List.set_cons_succ]
    rfl
  refine one_ (i := 9) (N := none) #[true, true, true, true, true, true, true, true, true, true] rfl rfl (by kernel_rfl) (by decide) (fun K hK => ?_)
  have hf0 := HF.out.frozenN 0 rfl 0
  have hd0 := HF.out.cellN 0 rfl 0 rfl
  have hf1 := HF.out.frozenN 0 rfl 1
  have hd1 := HF.out.cellN 0 rfl 1 rfl
  have hf2 := HF.out.frozenN 0 rfl 2
  have hd2 := HF.out.cellN 0 rfl 2 rfl
  have hf3 := HF.out.frozenN 0 rfl 3
  have hd3 := HF.out.cellN 0 rfl 3 rfl
  have hf4 := HF.out.frozenN 0 rfl 4
  have hd4 := HF.out.cellN 0 rfl 4 rfl
  have hf5 := HF.out.frozenN 0 rfl 5
  have hd5 := HF.out.cellN 0 rfl 5 rfl
  refine skip_ (w1 := ?_) (by rfl) rfl ?_ ?_
  rotate_left
  · go_simp
    rfl
  have HE := Lib.hid (end_delta HF.out (fun y hy => by simp at hy) (by simp; try omega) (by omega) Q0.out Q1.out rfl)
  replace HF := Lib.hid (HF.out.put6 0 rfl (by omega) (by simp; try omega) (.bool (decide (p.num < 0))) (.slice E0 (dg p.num.natAbs).length e0) (.slice G0 (dg p.den).length g0) (.bool (decide (q.num < 0))) (.slice E1 (dg q.num.natAbs).length e1) (.slice G1 (dg q.den).length g1))
  refine hK.out _ _ ⟨HF.out.cellN 2 rfl 0 rfl, HF.out.cellN 2 rfl 1 rfl, HF.out.cellN 2 rfl 2 rfl, HF.out.cellN 1 rfl 0 rfl, HF.out.cellN 1 rfl 1 rfl, HF.out.cellN 1 rfl 2 rfl, HF.out.cellN 1 rfl 3 rfl, HF.out.cellN 1 rfl 4 rfl, HF.out.cellN 1 rfl 5 rfl⟩ (fun hHeld => ?_)
  clear hK K
  refine done_ (by kernel_rfl) ?_
  generalize decide (p.num < 0) = b at HE ⊢
  generalize decide (q.num < 0) = b2 at HE ⊢
  go_wp2
  obtain ⟨f1, f2⟩ := HE.out
  exact post_own f2 rfl rfl rfl Try.underlying37 rfl (by kernel_rfl) f1
end Go.Proofs.Ytchdoignomidjaa.F
