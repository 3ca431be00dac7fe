/- The walks behind TermsNobody, third part: tame, the law. -/
import Derived.Test.YtelpmfpdddipeaaGreatDoorDead
import Derived.Deep.MidRow
set_option linter.unusedVariables false
set_option linter.unusedSimpArgs false
namespace Go.Proofs.YtelpmfpdddipeaaGreatDoor.wk
open Go.RowKit

/-- block g holds just these cells, and may be written -/
def Own (w : World) (g : Nat) (cs : List Value) : Prop := ∃ t, w.heap[g]? = some (.cells cs.toArray t (0, 0))
theorem Own.lt {w : World} {g : Nat} {cs : List Value} (h : Own w g cs) : g < w.heap.size := by
  obtain ⟨t, h⟩ := h
  exact (Array.getElem?_eq_some_iff.1 h).1
theorem Own.cell {w : World} {g : Nat} {cs : List Value} (h : Own w g cs) (i : Nat) {v : Value} (hi : cs[i]? = some v) : w.cell? ⟨g, i, none⟩ = some v := by
  obtain ⟨t, h⟩ := h
  simp [World.cell?, h, hi]
theorem Own.frozen {w : World} {g : Nat} {cs : List Value} (h : Own w g cs) (i : Nat) : w.frozen? ⟨g, i, none⟩ = false := by
  obtain ⟨t, h⟩ := h
  simp [World.frozen?, h]
theorem Own.set {w : World} {g : Nat} {cs : List Value} (h : Own w g cs) (i : Nat) (v : Value) : Own (w.setCell ⟨g, i, none⟩ v) g (cs.set i v) := by
  obtain ⟨t, h⟩ := h
  refine ⟨t, ?_⟩
  simp only [World.setCell, Array.getElem?_modify, if_pos, h]
  simp
theorem Own.far {w : World} {g : Nat} {cs : List Value} (h : Own w g cs) {p : Addr} (hp : g ≠ p.block) (v : Value) : Own (w.setCell p v) g cs := by
  obtain ⟨t, h⟩ := h
  exact ⟨t, (Below.heap_setCell w p v g hp).trans h⟩
theorem Own.below {w w1 : World} {g : Nat} {cs : List Value} (h : Own w g cs) (hb : Below w.heap.size w w1) : Own w1 g cs := by
  have hl := h.lt
  obtain ⟨t, h⟩ := h
  exact ⟨t, (hb.block g hl).trans h⟩
theorem Own.alloc {w : World} {g : Nat} {cs : List Value} (h : Own w g cs) (x : Obj) : Own (w.alloc x) g cs := h.below ((Below.refl _ _).alloc (Nat.le_refl _) x)
theorem Own.mk {w : World} (cs : List Value) (t : TypeId) : Own (w.alloc (.cells cs.toArray t (0, 0))) w.heap.size cs := ⟨t, by show (w.heap.push _)[w.heap.size]? = _; simp⟩
theorem post_own {P : Program} {fn : Func} {R : Ending → World → Prop} {a : Act} {w : World} {p : Tmp} {ty : TypeId} {g : Nat} {vs : List Value} {d : TypeDesc} (ho : Own w g vs) (h : fn.results = #[.cell p ty]) (h0 : a.defers = [])
    (hp : a.tmps.getD p undef = .pointer (some ⟨g, 0, none⟩)) (hu : P.underlying ty = some d) (hd : (match d with | .struct _ | .array _ _ => true | _ => false) = true) (hi : (P.info? ty).map (·.size) = some vs.length)
    (hR : R (.returned (.agg vs.toArray)) w) : bodyPost P fn R .ret a w := by
  obtain ⟨t, ho⟩ := ho
  exact bodyPost_ret (results_cell_row h _ _ g t vs.toArray (0, 0) d hp ho hu hd (by simpa using hi)) h0 hR

/-- all but block g is as it was -/
structure Sft (g : Nat) (w w' : World) : Prop where
  os : w'.os = w.os
  tape : w'.tape = w.tape
  output : w'.output = w.output
  size : w'.heap.size = w.heap.size
  block : ∀ k, k ≠ g → w'.heap[k]? = w.heap[k]?
theorem Sft.below {g B : Nat} {w w' : World} (h : Sft g w w') (hB : B ≤ g) : Below B w w' := ⟨h.os, h.tape, h.output, by rw [h.size]; exact Nat.le_refl _, fun k hk => h.block k (by omega)⟩
theorem Sft.own {g : Nat} {w w' : World} (h : Sft g w w') {k : Nat} {cs : List Value} (ho : Own w k cs) (hk : k ≠ g) : Own w' k cs := by
  obtain ⟨t, ho⟩ := ho
  exact ⟨t, (h.block k hk).trans ho⟩
theorem sft_setCells (g : Nat) : ∀ (vs : List Value) (o : Nat) (w : World), Sft g w (w.setCells g o vs)
  | [], _, w => ⟨rfl, rfl, rfl, rfl, fun _ _ => rfl⟩
  | v :: r, o, w => by
    have h := sft_setCells g r (o + 1) (w.setCell ⟨g, o, none⟩ v)
    exact ⟨h.os, h.tape, h.output, h.size.trans (by simp [World.setCell]), fun k hk => (h.block k hk).trans (Below.heap_setCell w ⟨g, o, none⟩ v k hk)⟩
theorem own_setCells (g : Nat) : ∀ (vs : List Value) (o : Nat) (w : World) (cs : List Value), Own w g cs → o + vs.length ≤ cs.length → Own (w.setCells g o vs) g (cs.take o ++ vs ++ cs.drop (o + vs.length))
  | [], o, w, cs, h, _ => by simpa [World.setCells] using h
  | v :: r, o, w, cs, h, hl => by
    have hl' : o + 1 + r.length ≤ cs.length := by simp at hl; omega
    have h1 := own_setCells g r (o + 1) (w.setCell ⟨g, o, none⟩ v) (cs.set o v) (h.set o v) (by simpa using hl')
    have e1 : (cs.set o v).take (o + 1) = cs.take o ++ [v] := by
      rw [List.take_succ_eq_append_getElem (by simp; omega), List.getElem_set_self, List.take_set_of_le (Nat.le_refl _)]
    have e2 : (cs.set o v).drop (o + 1 + r.length) = cs.drop (o + (v :: r).length) := by
      rw [List.drop_set_of_lt (by omega)]
      simp only [List.length_cons]
      congr 1
      omega
    rw [e1, e2] at h1
    show Own ((w.setCell ⟨g, o, none⟩ v).setCells g (o + 1) r) g _
    simpa using h1
/-- a load out of a block that is known -/
theorem wpL_load {P : Program} {ops : Array Oper} {rest : List Oper} {op : Oper} {a : Act} {w : World} {Q : Exit → Act → World → Prop} (hgd : op.guard = none) (ty : TypeId) (x : Operand) (ho : op.op = .load ty x)
    (g o : Nat) (hx : a.eval x = .pointer (some ⟨g, o, none⟩)) {cs : List Value} (h1 : Own w g cs) (mid : List Value) (hm : (cs.drop o).take mid.length = mid) {d : TypeDesc}
    (hu : P.underlying ty = some d) (hd : d.isRow = true) (hi : (P.info? ty).map (·.size) = some mid.length)
    (h : wpList P ops Q rest (a.put op.dst (.agg mid.toArray)) w) : wpList P ops Q (op :: rest) a w :=
  wpList_load_mid hgd ty x ho g o hx mid d (fun j v hj => h1.cell (o + j) (by
    have hlt := (List.getElem?_eq_some_iff.1 hj).1
    rw [← hm, List.getElem?_take, if_pos hlt, List.getElem?_drop] at hj
    exact hj)) hu hd hi h
/-- a store into a block that is known -/
theorem wpL_store {P : Program} {ops : Array Oper} {rest : List Oper} {op : Oper} {a : Act} {w : World} {Q : Exit → Act → World → Prop} (hgd : op.guard = none) (ty : TypeId) (x y : Operand) (ho : op.op = .store ty x y) (hdst : op.dst = none)
    (g o : Nat) (hx : a.eval x = .pointer (some ⟨g, o, none⟩)) {cs : List Value} (h1 : Own w g cs) (new : List Value) (hy : a.eval y = .agg new.toArray) (hl : o + new.length ≤ cs.length)
    (hi : (P.info? ty).map (·.size) = some new.length) (hone : ∀ v ∈ new, v.oneCell' = true)
    (h : ∀ w', Own w' g (cs.take o ++ new ++ cs.drop (o + new.length)) → Sft g w w' → wpList P ops Q rest a w') : wpList P ops Q (op :: rest) a w := by
  refine wpList_store_mid hgd ty x y ho g o new.toArray hx hy (fun j hj => ?_) (by simpa using hi) (all_oneCell_toArray hone) ?_
  · have hj' : o + j < cs.length := by simp at hj; omega
    exact ⟨by rw [h1.cell (o + j) (List.getElem?_eq_getElem hj')]; rfl, h1.frozen _⟩
  · rw [hdst]
    exact h _ (own_setCells g new o w cs h1 hl) (sft_setCells g new o w)

/-- the call, perhaps with an empty list in the place of its S-expression -/
def Tamed (o0 o1 o2 o3 o4 o5 o6 o7 o8 o9 o10 o18 : Value) (W : World) (e : Ending) (w' : World) : Prop := (∃ n0 n1 n2 n3 n4 n5 n6 : Value, e = .returned (.agg #[o0, o1, o2, o3, o4, o5, o6, o7, o8, o9, o10, n0, n1, n2, n3, n4, n5, n6, o18]) ∧ ∀ v ∈ [n0, n1, n2, n3, n4, n5, n6], v.oneCell' = true) ∧ Below W.heap.size W w'
set_option maxHeartbeats 4000000 in
set_option maxRecDepth 100000 in
theorem tame {w : World} (o0 o1 o2 o3 o4 o5 o6 o7 o8 o9 o10 o11 o12 o13 o14 o15 o16 o17 o18 : Value) (h : NodeAt w [o11, o12, o13, o14, o15, o16, o17]) (hone : ∀ v ∈ [o0, o1, o2, o3, o4, o5, o6, o7, o8, o9, o10, o11, o12, o13, o14, o15, o16, o17, o18], v.oneCell' = true) : Calls Tryz.prog 4 #[.agg #[o0, o1, o2, o3, o4, o5, o6, o7, o8, o9, o10, o11, o12, o13, o14, o15, o16, o17, o18]] w (Tamed o0 o1 o2 o3 o4 o5 o6 o7 o8 o9 o10 o18 w) := by
  have HO := Lib.hid ((Own.mk (w := w) [o0, o1, o2, o3, o4, o5, o6, o7, o8, o9, o10, o11, o12, o13, o14, o15, o16, o17, o18] 38).alloc (.cells #[.int .i64 0, .int .i64 0, .int .i64 0, .string { data := #[] }, .bool false, .slice none 0 0, .slice none 0 0, .slice none 0 0, .string { data := #[] }, .int .i64 0, .slice none 0 0, .int .i64 0, .string { data := #[] }, .int .i64 0, .int .i64 0, .int .i64 0, .int .i64 0, .slice none 0 0, .int .i64 0] 38))
  have HR := Lib.hid (Own.mk (w := w.alloc (.cells #[o0, o1, o2, o3, o4, o5, o6, o7, o8, o9, o10, o11, o12, o13, o14, o15, o16, o17, o18] 38)) [.int .i64 0, .int .i64 0, .int .i64 0, .string { data := #[] }, .bool false, .slice none 0 0, .slice none 0 0, .slice none 0 0, .string { data := #[] }, .int .i64 0, .slice none 0 0, .int .i64 0, .string { data := #[] }, .int .i64 0, .int .i64 0, .int .i64 0, .int .i64 0, .slice none 0 0, .int .i64 0] 38)
  have hsz : (w.alloc (.cells #[o0, o1, o2, o3, o4, o5, o6, o7, o8, o9, o10, o11, o12, o13, o14, o15, o16, o17, o18] 38)).heap.size = w.heap.size + 1 := by simp
  rw [hsz] at HR
  have HW := Lib.hid (((Below.refl _ w).alloc (Nat.le_refl _) (.cells #[o0, o1, o2, o3, o4, o5, o6, o7, o8, o9, o10, o11, o12, o13, o14, o15, o16, o17, o18] 38)).alloc (by simp) (.cells #[.int .i64 0, .int .i64 0, .int .i64 0, .string { data := #[] }, .bool false, .slice none 0 0, .slice none 0 0, .slice none 0 0, .string { data := #[] }, .int .i64 0, .slice none 0 0, .int .i64 0, .string { data := #[] }, .int .i64 0, .int .i64 0, .int .i64 0, .int .i64 0, .slice none 0 0, .int .i64 0] 38))
  have HL := Lib.hid (fun (W : World) (hb : Below w.heap.size w W) => large h W hb)
  have HN := Lib.hid hone
  clear h hsz hone
  go_enter Tryz.func4, Tryz.ntmps4
  go_wp2_with (refine wpL_load rfl 36 _ rfl w.heap.size 11 rfl HO.out [o11, o12, o13, o14, o15, o16, o17] rfl Tryz.underlying36 rfl (by kernel_rfl) ?_)
  refine (HL.out _ HW.out).mono ?_
  rintro e w1 ⟨⟨b, rfl⟩, hb⟩
  replace HO := Lib.hid (HO.out.below hb)
  replace HR := Lib.hid (HR.out.below hb)
  replace HW := Lib.hid (HW.out.trans (hb.mono HW.out.size))
  clear hb HL
  cases b with
  | false =>
    go_wp2_with (first
      | (refine wpL_load rfl 38 _ rfl w.heap.size 0 rfl HO.out [o0, o1, o2, o3, o4, o5, o6, o7, o8, o9, o10, o11, o12, o13, o14, o15, o16, o17, o18] rfl Tryz.underlying38 rfl (by kernel_rfl) ?_)
      | (refine wpL_store rfl 38 _ _ rfl rfl (w.heap.size + 1) 0 rfl HR.out [o0, o1, o2, o3, o4, o5, o6, o7, o8, o9, o10, o11, o12, o13, o14, o15, o16, o17, o18] rfl (by simp) (by kernel_rfl) HN.out ?_; intro w2 h2 h3; have HE := Lib.hid (show Own w2 (w.heap.size + 1) [o0, o1, o2, o3, o4, o5, o6, o7, o8, o9, o10, o11, o12, o13, o14, o15, o16, o17, o18] from h2); have HX := Lib.hid (HW.out.trans (h3.below (by omega))); clear h2 h3))
    exact post_own HE.out rfl rfl rfl Tryz.underlying38 rfl (by kernel_rfl) ⟨⟨o11, o12, o13, o14, o15, o16, o17, rfl, fun v hv => HN.out v (by simp only [List.mem_cons, List.not_mem_nil, or_false] at hv ⊢; rcases hv with rfl | rfl | rfl | rfl | rfl | rfl | rfl <;> simp)⟩, HX.out⟩
  | true =>
    have HN2 : Hid (∀ v ∈ [o0, o1, o2, o3, o4, o5, o6, o7, o8, o9, o10, .int .i64 0, .string { data := #[] }, .int .i64 0, .int .i64 0, .int .i64 0, .int .i64 0, .slice none 0 0, o18], v.oneCell' = true) := by
      intro v hv
      simp only [List.mem_cons, List.not_mem_nil, or_false] at hv
      rcases hv with rfl | rfl | rfl | rfl | rfl | rfl | rfl | rfl | rfl | rfl | rfl | rfl | rfl | rfl | rfl | rfl | rfl | rfl | rfl
      · exact HN.out _ (by simp)
      · exact HN.out _ (by simp)
      · exact HN.out _ (by simp)
      · exact HN.out _ (by simp)
      · exact HN.out _ (by simp)
      · exact HN.out _ (by simp)
      · exact HN.out _ (by simp)
      · exact HN.out _ (by simp)
      · exact HN.out _ (by simp)
      · exact HN.out _ (by simp)
      · exact HN.out _ (by simp)
      · rfl
      · rfl
      · rfl
      · rfl
      · rfl
      · rfl
      · rfl
      · exact HN.out _ (by simp)
    go_wp2_with (first
      | (refine wpL_store rfl 36 _ _ rfl rfl w.heap.size 11 rfl HO.out [.int .i64 0, .string { data := #[] }, .int .i64 0, .int .i64 0, .int .i64 0, .int .i64 0, .slice none 0 0] rfl (by simp) (by kernel_rfl) (by simp [Value.oneCell']) ?_; intro w2 h2 h3; have HO2 := Lib.hid (show Own w2 w.heap.size [o0, o1, o2, o3, o4, o5, o6, o7, o8, o9, o10, .int .i64 0, .string { data := #[] }, .int .i64 0, .int .i64 0, .int .i64 0, .int .i64 0, .slice none 0 0, o18] from h2); have HR2 := Lib.hid (h3.own HR.out (by omega)); have HX := Lib.hid (HW.out.trans (h3.below (Nat.le_refl _))); clear h2 h3 HO HR)
      | (refine wpL_load rfl 38 _ rfl w.heap.size 0 rfl HO2.out [o0, o1, o2, o3, o4, o5, o6, o7, o8, o9, o10, .int .i64 0, .string { data := #[] }, .int .i64 0, .int .i64 0, .int .i64 0, .int .i64 0, .slice none 0 0, o18] rfl Tryz.underlying38 rfl (by kernel_rfl) ?_)
      | (refine wpL_store rfl 38 _ _ rfl rfl (w.heap.size + 1) 0 rfl HR2.out [o0, o1, o2, o3, o4, o5, o6, o7, o8, o9, o10, .int .i64 0, .string { data := #[] }, .int .i64 0, .int .i64 0, .int .i64 0, .int .i64 0, .slice none 0 0, o18] rfl (by simp) (by kernel_rfl) HN2.out ?_; intro w3 h2 h3; have HE := Lib.hid (show Own w3 (w.heap.size + 1) [o0, o1, o2, o3, o4, o5, o6, o7, o8, o9, o10, .int .i64 0, .string { data := #[] }, .int .i64 0, .int .i64 0, .int .i64 0, .int .i64 0, .slice none 0 0, o18] from h2); replace HX := Lib.hid (HX.out.trans (h3.below (by omega))); clear h2 h3))
    exact post_own HE.out rfl rfl rfl Tryz.underlying38 rfl (by kernel_rfl) ⟨⟨_, _, _, _, _, _, _, rfl, by simp [Value.oneCell']⟩, HX.out⟩
end Go.Proofs.YtelpmfpdddipeaaGreatDoor.wk
