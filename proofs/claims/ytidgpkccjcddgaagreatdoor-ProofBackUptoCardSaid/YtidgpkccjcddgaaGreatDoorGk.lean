/- Plain law: forms as lists of variables with coefficients; their normal forms. No program in sight. -/
import Derived.Test.YtidgpkccjcddgaaGreatDoorGi
import Derived.Test.YtidgpkccjcddgaaGreatDoorGj
import Derived.BigQuiet
import Derived.Deep.QuietTactic
set_option linter.unusedVariables false
set_option linter.unusedSimpArgs false
namespace Go.Proofs.YtidgpkccjcddgaaGreatDoor.F
abbrev Frm := List (Int × Rat)
def co : Frm → Int → Rat
 | [], _ => 0
 | m :: r, v => (if m.1 = v then m.2 else 0) + co r v
structure Nf (l : Frm) : Prop where
 up : l.Pairwise (fun a b => a.1 < b.1)
 nz : ∀ m ∈ l, m.2 ≠ 0
def ins (v : Int) (q : Rat) : Frm → Frm
 | [] => if q = 0 then [] else [(v, q)]
 | m :: r => if v < m.1 then (if q = 0 then m :: r else (v, q) :: m :: r) else if v = m.1 then (if q + m.2 = 0 then r else (v, q + m.2) :: r) else m :: ins v q r
def nform : Frm → Frm
 | [] => []
 | m :: r => ins m.1 m.2 (nform r)
theorem co_append (f g : Frm) (v : Int) : co (f ++ g) v = co f v + co g v := by
 induction f with
 | nil => simp [co]; exact (Rat.zero_add _).symm
 | cons m r ih => simp only [List.cons_append, co, ih]; grind
theorem co_scale (c : Rat) (f : Frm) (v : Int) : co (f.map fun m => (m.1, c * m.2)) v = c * co f v := by
 induction f with
 | nil => simp only [List.map_nil, co]; grind
 | cons m r ih => simp only [List.map_cons, co, ih]; split <;> grind
theorem Nf.nil : Nf [] := ⟨List.Pairwise.nil, fun m h => by cases h⟩
theorem Nf.tail {m : Int × Rat} {r : Frm} (h : Nf (m :: r)) : Nf r := ⟨(List.pairwise_cons.1 h.up).2, fun x hx => h.nz x (List.mem_cons_of_mem _ hx)⟩
theorem Nf.head {m : Int × Rat} {r : Frm} (h : Nf (m :: r)) : ∀ x ∈ r, m.1 < x.1 := (List.pairwise_cons.1 h.up).1
theorem Nf.one {v : Int} {q : Rat} (h : q ≠ 0) : Nf [(v, q)] := ⟨List.pairwise_singleton _ _, fun m hm => by rw [List.mem_singleton.1 hm]; exact h⟩
theorem Nf.cons {m : Int × Rat} {r : Frm} (h : Nf r) (hm : m.2 ≠ 0) (hl : ∀ x ∈ r, m.1 < x.1) : Nf (m :: r) :=
 ⟨List.pairwise_cons.2 ⟨hl, h.up⟩, fun x hx => by
  rcases List.mem_cons.1 hx with rfl | hx
  · exact hm
  · exact h.nz x hx⟩
theorem co_none {l : Frm} {v : Int} (h : ∀ x ∈ l, x.1 ≠ v) : co l v = 0 := by
 induction l with
 | nil => rfl
 | cons m r ih =>
  simp only [co]
  rw [if_neg (h m (List.mem_cons_self ..)), ih fun x hx => h x (List.mem_cons_of_mem _ hx)]
  grind
theorem co_low {l : Frm} {v : Int} (h : ∀ x ∈ l, v < x.1) : co l v = 0 := co_none fun x hx => by have := h x hx; omega
theorem co_head {m : Int × Rat} {r : Frm} (h : Nf (m :: r)) : co (m :: r) m.1 = m.2 := by
 simp only [co, if_true]; rw [co_low h.head]; grind
theorem Nf.unique {l m : Frm} (hl : Nf l) (hm : Nf m) (h : ∀ v, co l v = co m v) : l = m := by
 induction l generalizing m with
 | nil =>
  cases m with
  | nil => rfl
  | cons b m =>
   have := h b.1
   rw [co_head hm] at this
   exact absurd this.symm (hm.nz b (List.mem_cons_self ..))
 | cons a l ih =>
  cases m with
  | nil =>
   have := h a.1
   rw [co_head hl] at this
   exact absurd this (hl.nz a (List.mem_cons_self ..))
  | cons b m =>
   have ha := h a.1
   have hb := h b.1
   rw [co_head hl] at ha
   rw [co_head hm] at hb
   have na := hl.nz a (List.mem_cons_self ..)
   have nb := hm.nz b (List.mem_cons_self ..)
   have e : a.1 = b.1 := by
    rcases Int.lt_trichotomy a.1 b.1 with hlt | he | hgt
    · refine absurd ?_ na
      rw [ha]
      refine co_low fun x hx => ?_
      rcases List.mem_cons.1 hx with rfl | hx
      · exact hlt
      · have := hm.head x hx; omega
    · exact he
    · refine absurd ?_ nb
      rw [← hb]
      refine co_low fun x hx => ?_
      rcases List.mem_cons.1 hx with rfl | hx
      · exact hgt
      · have := hl.head x hx; omega
   have e2 : a.2 = b.2 := by rw [ha, e, co_head hm]
   have eab : a = b := Prod.ext e e2
   subst eab
   congr 1
   refine ih hl.tail hm.tail fun v => ?_
   have := h v
   simp only [co] at this
   grind
theorem ins_mem {v : Int} {q : Rat} {l : Frm} {x : Int × Rat} (h : x ∈ ins v q l) : x.1 = v ∨ x ∈ l := by
 induction l with
 | nil =>
  simp only [ins] at h
  split at h
  · cases h
  · rw [List.mem_singleton.1 h]; exact .inl rfl
 | cons m r ih =>
  simp only [ins] at h
  split at h
  · split at h
    · exact .inr h
    · rcases List.mem_cons.1 h with rfl | h
      · exact .inl rfl
      · exact .inr h
  · split at h
    · split at h
      · exact .inr (List.mem_cons_of_mem _ h)
      · rcases List.mem_cons.1 h with rfl | h
        · exact .inl rfl
        · exact .inr (List.mem_cons_of_mem _ h)
    · rcases List.mem_cons.1 h with rfl | h
      · exact .inr (List.mem_cons_self ..)
      · rcases ih h with h | h
        · exact .inl h
        · exact .inr (List.mem_cons_of_mem _ h)
theorem ins_Nf {v : Int} {q : Rat} {l : Frm} (h : Nf l) : Nf (ins v q l) := by
 induction l with
 | nil =>
  simp only [ins]
  split
  · exact Nf.nil
  · rename_i hq; exact Nf.one hq
 | cons m r ih =>
  simp only [ins]
  split
  · rename_i hlt
    split
    · exact h
    · rename_i hq
      refine h.cons hq fun x hx => ?_
      rcases List.mem_cons.1 hx with rfl | hx
      · exact hlt
      · have := h.head x hx; show v < x.1; omega
  · split
    · rename_i hv
      split
      · exact h.tail
      · rename_i hq
        exact h.tail.cons hq fun x hx => by have := h.head x hx; show v < x.1; omega
    · rename_i h1 h2
      refine (ih h.tail).cons (h.nz m (List.mem_cons_self ..)) fun x hx => ?_
      rcases ins_mem hx with hx | hx
      · omega
      · exact h.head x hx
theorem co_ins {v : Int} {q : Rat} {l : Frm} (u : Int) : co (ins v q l) u = (if v = u then q else 0) + co l u := by
 induction l with
 | nil =>
  simp only [ins]
  split
  · rename_i hq; subst hq; simp only [co]; split <;> grind
  · simp only [co]
 | cons m r ih =>
  simp only [ins]
  split
  · split
    · rename_i hq; subst hq; simp only [co]; split <;> grind
    · simp only [co]
  · split
    · rename_i hv
      subst hv
      split
      · rename_i hq; simp only [co]; split <;> grind
      · simp only [co]; split <;> grind
    · simp only [co, ih]; grind
theorem nform_Nf (f : Frm) : Nf (nform f) := by
 induction f with
 | nil => exact Nf.nil
 | cons m r ih => exact ins_Nf ih
theorem co_nform (f : Frm) (v : Int) : co (nform f) v = co f v := by
 induction f with
 | nil => rfl
 | cons m r ih => simp only [nform, co_ins, ih, co]
theorem nform_eq {l f : Frm} (h : Nf l) (e : ∀ v, co l v = co f v) : l = nform f := h.unique (nform_Nf f) fun v => by rw [e, co_nform]
theorem nform_self {l : Frm} (h : Nf l) : nform l = l := (nform_eq h fun _ => rfl).symm
def mg : Frm → Frm → Frm
 | [], b => b
 | x :: a, [] => x :: a
 | x :: a, y :: b => if x.1 < y.1 then x :: mg a (y :: b) else if y.1 < x.1 then y :: mg (x :: a) b else if x.2 + y.2 = 0 then mg a b else (x.1, x.2 + y.2) :: mg a b
termination_by a b => a.length + b.length
theorem mg_nil (a : Frm) : mg a [] = a := by cases a <;> simp [mg]
theorem co_mg (a b : Frm) (v : Int) : co (mg a b) v = co a v + co b v := by
 induction a, b using mg.induct with
 | case1 b => simp only [mg, co]; grind
 | case2 x a => simp only [mg, co]; grind
 | case3 x a y b h ih => rw [mg, if_pos h]; simp only [co, ih]; grind
 | case4 x a y b h1 h2 ih => rw [mg, if_neg h1, if_pos h2]; simp only [co, ih]; grind
 | case5 x a y b h1 h2 h3 ih =>
  have e : x.1 = y.1 := by omega
  rw [mg, if_neg h1, if_neg h2, if_pos h3, ih]; simp only [co, e]; split <;> grind
 | case6 x a y b h1 h2 h3 ih =>
  have e : x.1 = y.1 := by omega
  rw [mg, if_neg h1, if_neg h2, if_neg h3]; simp only [co, ih, e]; split <;> grind
theorem mg_mem {a b : Frm} {x : Int × Rat} (h : x ∈ mg a b) : (∃ y ∈ a, y.1 = x.1) ∨ ∃ y ∈ b, y.1 = x.1 := by
 induction a, b using mg.induct with
 | case1 b => rw [mg] at h; exact .inr ⟨x, h, rfl⟩
 | case2 u a => rw [mg] at h; exact .inl ⟨x, h, rfl⟩
 | case3 u a y b h0 ih =>
  rw [mg, if_pos h0] at h
  rcases List.mem_cons.1 h with rfl | h
  · exact .inl ⟨_, List.mem_cons_self .., rfl⟩
  · rcases ih h with ⟨z, hz, e⟩ | ⟨z, hz, e⟩
    · exact .inl ⟨z, List.mem_cons_of_mem _ hz, e⟩
    · exact .inr ⟨z, hz, e⟩
 | case4 u a y b h1 h2 ih =>
  rw [mg, if_neg h1, if_pos h2] at h
  rcases List.mem_cons.1 h with rfl | h
  · exact .inr ⟨_, List.mem_cons_self .., rfl⟩
  · rcases ih h with ⟨z, hz, e⟩ | ⟨z, hz, e⟩
    · exact .inl ⟨z, hz, e⟩
    · exact .inr ⟨z, List.mem_cons_of_mem _ hz, e⟩
 | case5 u a y b h1 h2 h3 ih =>
  rw [mg, if_neg h1, if_neg h2, if_pos h3] at h
  rcases ih h with ⟨z, hz, e⟩ | ⟨z, hz, e⟩
  · exact .inl ⟨z, List.mem_cons_of_mem _ hz, e⟩
  · exact .inr ⟨z, List.mem_cons_of_mem _ hz, e⟩
 | case6 u a y b h1 h2 h3 ih =>
  rw [mg, if_neg h1, if_neg h2, if_neg h3] at h
  rcases List.mem_cons.1 h with rfl | h
  · exact .inl ⟨u, List.mem_cons_self .., rfl⟩
  · rcases ih h with ⟨z, hz, e⟩ | ⟨z, hz, e⟩
    · exact .inl ⟨z, List.mem_cons_of_mem _ hz, e⟩
    · exact .inr ⟨z, List.mem_cons_of_mem _ hz, e⟩
theorem mg_Nf {a b : Frm} (ha : Nf a) (hb : Nf b) : Nf (mg a b) := by
 induction a, b using mg.induct with
 | case1 b => rw [mg]; exact hb
 | case2 u a => rw [mg]; exact ha
 | case3 u a y b h0 ih =>
  rw [mg, if_pos h0]
  refine (ih ha.tail hb).cons (ha.nz u (List.mem_cons_self ..)) fun x hx => ?_
  rcases mg_mem hx with ⟨z, hz, e⟩ | ⟨z, hz, e⟩
  · have := ha.head z hz; omega
  · rcases List.mem_cons.1 hz with rfl | hz
    · omega
    · have := hb.head z hz; omega
 | case4 u a y b h1 h2 ih =>
  rw [mg, if_neg h1, if_pos h2]
  refine (ih ha hb.tail).cons (hb.nz y (List.mem_cons_self ..)) fun x hx => ?_
  rcases mg_mem hx with ⟨z, hz, e⟩ | ⟨z, hz, e⟩
  · rcases List.mem_cons.1 hz with rfl | hz
    · omega
    · have := ha.head z hz; omega
  · have := hb.head z hz; omega
 | case5 u a y b h1 h2 h3 ih =>
  rw [mg, if_neg h1, if_neg h2, if_pos h3]; exact ih ha.tail hb.tail
 | case6 u a y b h1 h2 h3 ih =>
  rw [mg, if_neg h1, if_neg h2, if_neg h3]
  refine (ih ha.tail hb.tail).cons h3 fun x hx => ?_
  show u.1 < x.1
  rcases mg_mem hx with ⟨z, hz, e⟩ | ⟨z, hz, e⟩
  · have := ha.head z hz; omega
  · have := hb.head z hz; omega
theorem mg_nform {f g : Frm} : mg (nform f) (nform g) = nform (f ++ g) :=
 nform_eq (mg_Nf (nform_Nf f) (nform_Nf g)) fun v => by rw [co_mg, co_nform, co_nform, co_append]
open Go.RowKit Go.Shelf
def QL (q : Rat) : Prop := (dg q.num.natAbs).length ≤ 137438953472 ∧ (dg q.den).length ≤ 137438953472
theorem Sz.ql {q : Rat} (h : Sz 137438953472 q) : QL q := h.len
structure MC where
 v : Int
 q : Rat
 A : Option Addr
 c : Nat
 B : Option Addr
 d : Nat
def MC.cells (r : MC) : List Value := [.int .i64 r.v, .bool (decide (r.q.num < 0)), .slice r.A (dg r.q.num.natAbs).length r.c, .slice r.B (dg r.q.den).length r.d]
def MC.vq (r : MC) : Int × Rat := (r.v, r.q)
structure MC.At (w : World) (r : MC) : Prop where
 inq : InQ w r.A r.c r.B r.d r.q
 ql : QL r.q
def canD (q : Rat) : RatD := ((decide (q.num < 0), dg q.num.natAbs), dg q.den)
def canM (m : Int × Rat) : Int × RatD := (m.1, canD m.2)
theorem rq_can (q : Rat) : rq (canD q) = q := rv_can q
def valM (m : Int × RatD) : Int × Rat := (m.1, rq m.2)
theorem val_can (m : Int × Rat) : valM (canM m) = m := by unfold valM canM; rw [rq_can]
theorem map_val_can (l : Frm) : (l.map canM).map valM = l := by
 rw [List.map_map]
 conv => rhs; rw [← List.map_id l]
 exact List.map_congr_left fun m _ => val_can m
theorem MC.At.keep {w w' : World} {r : MC} (h : r.At w) (hk : KeepU w w') : r.At w' := ⟨h.inq.keep hk, h.ql⟩
theorem flat_at (rs : List MC) (i j : Nat) (u : Value) (h : i < rs.length) (hu : rs[i].cells[j]? = some u) : (rs.flatMap MC.cells)[i * 4 + j]? = some u := by
 induction rs generalizing i with
 | nil => simp at h
 | cons r rs ih =>
  rw [List.flatMap_cons]
  cases i with
  | zero =>
   rw [Nat.zero_mul, Nat.zero_add, List.getElem?_append_left]
   · exact hu
   · exact (List.getElem?_eq_some_iff.1 hu).1
  | succ i =>
   rw [List.getElem?_append_right (by show 4 ≤ _; omega)]
   rw [show (i + 1) * 4 + j - r.cells.length = i * 4 + j by show _ - 4 = _; omega]
   exact ih i (by simpa using h) (by simpa using hu)
theorem flat_len (rs : List MC) : (rs.flatMap MC.cells).length = rs.length * 4 := by
 induction rs with
 | nil => rfl
 | cons r rs ih => rw [List.flatMap_cons, List.length_append, ih, List.length_cons, show r.cells.length = 4 from rfl]; omega
theorem flat_get (rs : List MC) (k : Nat) (u : Value) (hu : (rs.flatMap MC.cells)[k]? = some u) : ∃ (i j : Nat) (h : i < rs.length), k = i * 4 + j ∧ rs[i].cells[j]? = some u := by
 have hk := (List.getElem?_eq_some_iff.1 hu).1
 rw [flat_len] at hk
 have hi : k / 4 < rs.length := by omega
 have hj : k % 4 < rs[k / 4].cells.length := by show _ < 4; omega
 refine ⟨k / 4, k % 4, hi, by omega, ?_⟩
 have := flat_at rs (k / 4) (k % 4) _ hi (List.getElem?_eq_getElem hj)
 rw [show k / 4 * 4 + k % 4 = k by omega, hu] at this
 rw [List.getElem?_eq_getElem hj, ← this]
theorem cells_noU (r : MC) : NoU r.cells := fun y hy => by
 simp [MC.cells] at hy
theorem flat_noU (rs : List MC) : NoU (rs.flatMap MC.cells) := fun y hy => by
 obtain ⟨r, _, h⟩ := List.mem_flatMap.1 hy
 exact cells_noU r y h
theorem flat_one (rs : List MC) : ∀ u ∈ rs.flatMap MC.cells, u.oneCell' = true := fun u hu => by
 obtain ⟨r, _, h⟩ := List.mem_flatMap.1 hu
 simp only [MC.cells, List.mem_cons, List.not_mem_nil, or_false] at h
 rcases h with rfl | rfl | rfl | rfl <;> rfl
structure FIn (w : World) (A : Option Addr) (c : Nat) (l : Frm) : Prop where
 row : kMono.Row w A (l.map canM)
 cap : l.length ≤ c
 ql : ∀ m ∈ l, QL m.2
theorem FIn.below {w w' : World} {A : Option Addr} {c : Nat} {l : Frm} (h : FIn w A c l) (hb : Below w.heap.size w w') : FIn w' A c l := ⟨h.row.below hb, h.cap, h.ql⟩
theorem FIn.nil (w : World) (A : Option Addr) (c : Nat) : FIn w A c [] := ⟨Knd.row_nil _ _ _, Nat.zero_le _, fun m h => by cases h⟩
theorem kMono_mc {w : World} {r : MC} (h : r.At w) : kMono.C w (canM r.vq) r.cells :=
 ⟨[_], [_, _, _], rfl, rfl, [_, _], [_], rfl, ⟨[_], [_], rfl, rfl, r.A, r.c, rfl, h.inq.num.cap, by have := h.ql.1; show (dg r.q.num.natAbs).length ≤ 9223372036854775807; omega, h.inq.num.row⟩, r.B, r.d, rfl, h.inq.den.cap, by have := h.ql.2; show (dg r.q.den).length ≤ 9223372036854775807; omega, h.inq.den.row⟩
theorem row_of {w : World} {A : Option Addr} {rs : List MC} {l : Frm} (hl : rs.map MC.vq = l) (hr : ∀ r ∈ rs, r.At w) (hc : 0 < l.length → ∃ ad, A = some ad ∧ ∀ j u, (rs.flatMap MC.cells)[j]? = some u → w.cell? (ad.add j) = some u) : kMono.Row w A (l.map canM) := by
 subst hl
 intro i hi
 have hi' : i < rs.length := by simpa using hi
 obtain ⟨ad, rfl, h⟩ := hc (by simp; omega)
 refine ⟨ad, rs[i].cells, rfl, ?_, fun j u hu => h _ u (flat_at rs i j u hi' hu)⟩
 simp only [List.getElem_map]
 exact kMono_mc (hr _ (List.getElem_mem hi'))
theorem FIn.flat {w : World} {A : Option Addr} {c : Nat} {l : Frm} (h : FIn w A c l) : ∃ rs : List MC, rs.map MC.vq = l ∧ (∀ r ∈ rs, r.At w) ∧ (0 < l.length → ∃ ad, A = some ad ∧ ∀ j u, (rs.flatMap MC.cells)[j]? = some u → w.cell? (ad.add j) = some u) := by
 have each : ∀ i, (hi : i < l.length) → ∃ r : MC, r.vq = l[i] ∧ r.At w ∧ ∃ ad, A = some ad ∧ ∀ j u, r.cells[j]? = some u → w.cell? (ad.add (i * 4 + j)) = some u := by
  intro i hi
  obtain ⟨ad, cs, e, hC, hc⟩ := h.row i (by simpa using hi)
  simp only [List.getElem_map] at hC
  obtain ⟨c1, c2, rfl, h1, h2⟩ := hC
  have h1' : c1 = [.int .i64 (l[i]).1] := h1
  subst h1'
  obtain ⟨B, c, D, d, rfl, hq⟩ := kRat_cells h2
  refine ⟨⟨(l[i]).1, (l[i]).2, B, c, D, d⟩, rfl, ⟨⟨⟨hq.2.2.1, Lim_dg _, hq.1⟩, ⟨hq.2.2.2, Lim_dg _, hq.2.1⟩⟩, h.ql _ (List.getElem_mem hi)⟩, ad, e, hc⟩
 have : ∃ rs : List MC, rs.length = l.length ∧ ∀ i (h : i < rs.length) (h' : i < l.length), (rs[i]).vq = l[i] ∧ (rs[i]).At w ∧ ∃ ad, A = some ad ∧ ∀ j u, (rs[i]).cells[j]? = some u → w.cell? (ad.add (i * 4 + j)) = some u := by
  refine ⟨(List.range l.length).attach.map fun i => (each i.1 (List.mem_range.1 i.2)).choose, by simp, fun i hi hi' => ?_⟩
  simp only [List.getElem_map, List.getElem_attach, List.getElem_range]
  exact (each i hi').choose_spec
 obtain ⟨rs, hl, hx⟩ := this
 refine ⟨rs, List.ext_getElem (by simpa using hl) fun i h1 h2 => ?_, fun r hr => ?_, fun h0 => ?_⟩
 · simp only [List.getElem_map]
   exact (hx i (by simpa using h1) h2).1
 · obtain ⟨i, hi, rfl⟩ := List.getElem_of_mem hr
   exact (hx i hi (by omega)).2.1
 · obtain ⟨_, _, ad, rfl, _⟩ := hx 0 (by omega) h0
   refine ⟨ad, rfl, fun k u hu => ?_⟩
   obtain ⟨i, j, hi, rfl, hj⟩ := flat_get rs k u hu
   obtain ⟨_, _, ad', e, hc⟩ := hx i hi (by omega)
   cases e
   exact hc j u hj
def OwnF (w : World) (B : Nat) (v : Value) (l : Frm) : Prop := ∃ rs : List MC, rs.map MC.vq = l ∧ OwnL w B 57 4 v l.length (rs.flatMap MC.cells) ∧ ∀ r ∈ rs, r.At w
theorem OwnF.nil (w : World) (B : Nat) : OwnF w B (.slice none 0 0) [] := ⟨[], rfl, OwnL.nil _ _ _ _, fun r h => by cases h⟩
theorem OwnF.below {w w' : World} {B : Nat} {v : Value} {l : Frm} (h : OwnF w B v l) (hb : Below w.heap.size w w') : OwnF w' B v l := by
 obtain ⟨rs, h1, h2, h3⟩ := h
 exact ⟨rs, h1, h2.below hb, fun r hr => (h3 r hr).keep (KeepU.below hb)⟩
theorem OwnF.kept {w w' : World} {B : Nat} {v : Value} {l : Frm} (h : OwnF w B v l) (hk : ∀ k, k < w.heap.size → v.ownBlock = some k → w'.heap[k]? = w.heap[k]?) (hu : KeepU w w') : OwnF w' B v l := by
 obtain ⟨rs, h1, h2, h3⟩ := h
 exact ⟨rs, h1, h2.kept hk, fun r hr => (h3 r hr).keep hu⟩
theorem OwnF.mono {w : World} {B C : Nat} {v : Value} {l : Frm} (h : OwnF w B v l) (hC : C ≤ B) : OwnF w C v l := by
 obtain ⟨rs, h1, h2, h3⟩ := h
 exact ⟨rs, h1, h2.mono hC, h3⟩
theorem OwnF.fin {w : World} {B : Nat} {v : Value} {l : Frm} (h : OwnF w B v l) : ∃ A c, v = .slice A l.length c ∧ FIn w A c l := by
 obtain ⟨rs, h1, h2, h3⟩ := h
 obtain ⟨A, c, rfl, hc, _, h4⟩ := h2.form
 refine ⟨A, c, rfl, row_of h1 h3 h4, hc, fun m hm => ?_⟩
 rw [← h1] at hm
 obtain ⟨r, hr, rfl⟩ := List.mem_map.1 hm
 exact (h3 r hr).ql
theorem OwnF.block {w : World} {B : Nat} {v : Value} {l : Frm} (h : OwnF w B v l) : ∀ k, v.ownBlock = some k → B ≤ k ∧ k < w.heap.size := by
 obtain ⟨rs, h1, h2, h3⟩ := h
 exact h2.to.lt
theorem pushF {w : World} {B : Nat} {t ty : TypeId} {v : Value} {l m : Frm} {A : Option Addr} {c : Nat} (ht : Tryz.prog.underlying t = some (.slice 57)) (h : OwnF w B v l) (k : FIn w A c m) (hl : l.length + m.length ≤ 1099511627776) (hB : B ≤ w.heap.size) :
 ∃ v' w', (Builtin.append_ #[t, t] ty #[v, .slice A m.length c]).run Tryz.prog w = .ok v' w' ∧ OwnF w' B v' (l ++ m) ∧ Soft B v w w' := by
 obtain ⟨rs, h1, h2, h3⟩ := h
 obtain ⟨ss, k1, k2, k3⟩ := k.flat
 have e1 : l.length = rs.length := by rw [← h1]; simp
 have e2 : m.length = ss.length := by rw [← k1]; simp
 obtain ⟨v', w', h4, h5, h6⟩ := push_any (ty := ty) (c := c) ht (z := .agg #[.int .i64 0, .bool false, .slice none 0 0, .slice none 0 0]) (sz := 4) (bytes := 64) (by kernel_rfl) (by rfl) h2 (by rw [flat_len, e2]) k3 (flat_one ss) (flat_noU ss) (by intro y hy; simp [Value.cells] at hy) (by simp only [maxLen]; omega) (by omega) hB
 refine ⟨v', w', h4, ⟨rs ++ ss, by rw [List.map_append, h1, k1], ?_, fun r hr => ?_⟩, h6⟩
 · rw [List.flatMap_append, List.length_append]; exact h5
 · rcases List.mem_append.1 hr with hr | hr
   · exact (h3 r hr).keep h6.keep
   · exact (k2 r hr).keep h6.keep
theorem push1 {w : World} {B : Nat} {t ty : TypeId} {v : Value} {l : Frm} {r : MC} {g : Nat} (ht : Tryz.prog.underlying t = some (.slice 57)) (h : OwnF w B v l) (k : r.At w) (hc : Own w g r.cells) (hl : l.length + 1 ≤ 1099511627776) (hB : B ≤ w.heap.size) :
 ∃ v' w', (Builtin.append_ #[t, t] ty #[v, .slice (some ⟨g, 0, none⟩) 1 1]).run Tryz.prog w = .ok v' w' ∧ OwnF w' B v' (l ++ [r.vq]) ∧ Soft B v w w' := by
 have := pushF (A := some ⟨g, 0, none⟩) (c := 1) (ty := ty) (m := [r.vq]) ht h ⟨?_, Nat.le_refl _, fun m hm => by rw [List.mem_singleton.1 hm]; exact k.ql⟩ hl hB
 · exact this
 · refine row_of (rs := [r]) rfl (fun x hx => by rw [List.mem_singleton.1 hx]; exact k) fun _ => ⟨_, rfl, fun j u hu => ?_⟩
   have hj := (List.getElem?_eq_some_iff.1 hu).1
   rw [flat_len] at hj
   have hu' : r.cells[j]? = some u := by simpa using hu
   rw [show (⟨g, 0, none⟩ : Addr).add j = ⟨g, j, none⟩ from by unfold Addr.add; split <;> simp_all]
   rw [hc.cell j (by show j < 4; simpa using hj)]
   rw [← hu', List.getElem?_eq_getElem]
open Go.Proofs.YtidgpkccjcddgaaGreatDoorW.PrintLast
set_option maxHeartbeats 1000000 in
theorem linear_byVar (x y : MC) (w : World) :
 Calls Tryz.prog 140 #[.agg x.cells.toArray, .agg y.cells.toArray] w fun e w' => e = .returned (.int .i64 (sgn (x.v - y.v))) ∧ Below w.heap.size w w' := by
 unfold MC.cells
 obtain ⟨v, q, A, c, B, d⟩ := x
 obtain ⟨v2, q2, A2, c2, B2, d2⟩ := y
 dsimp only
 generalize dg q.num.natAbs = n1
 generalize dg q2.num.natAbs = n2
 generalize dg q.den = n3
 generalize dg q2.den = n4
 generalize decide (q.num < 0) = b1
 generalize decide (q2.num < 0) = b2
 have HF := Lib.hid (((Fr.refl w).box [.int .i64 v, .bool b1, .slice A n1.length c, .slice B n3.length d] 57).box [.int .i64 v2, .bool b2, .slice A2 n2.length c2, .slice B2 n4.length d2] 57)
 by_cases h1 : v < v2
 · have hs : sgn (v - v2) = -1 := by unfold sgn; rw [if_pos (by omega)]
   rw [hs]
   go_enter Tryz.func140, Tryz.ntmps140
   go_wp2
   go_ret
   exact ⟨rfl, HF.out.bel⟩
 · by_cases h2 : v2 < v
   · have hs : sgn (v - v2) = 1 := by unfold sgn; rw [if_neg (by omega), if_pos (by omega)]
     rw [hs]
     go_enter Tryz.func140, Tryz.ntmps140
     go_wp2
     go_ret
     exact ⟨rfl, HF.out.bel⟩
   · have hs : sgn (v - v2) = 0 := by unfold sgn; rw [if_neg (by omega), if_neg (by omega)]
     rw [hs]
     go_enter Tryz.func140, Tryz.ntmps140
     go_wp2
     go_ret
     exact ⟨rfl, HF.out.bel⟩
theorem Fr.put4 {w W : World} {bs : List (Nat × List Value)} {g : Nat} {x1 x2 x3 x4 : Value} (h : Fr w W bs) (k : Nat) (hk : bs[k]? = some (g, [x1, x2, x3, x4])) (hg : w.heap.size ≤ g) (hn : ∀ p ∈ bs.eraseIdx k, p.1 ≠ g) (y1 y2 y3 y4 : Value) :
 Fr w ((((W.setCell ⟨g, 0, none⟩ y1).setCell ⟨g, 1, none⟩ y2).setCell ⟨g, 2, none⟩ y3).setCell ⟨g, 3, none⟩ y4) (bs.set k (g, [y1, y2, y3, y4])) := by
 have hlt : k < bs.length := (List.getElem?_eq_some_iff.1 hk).1
 have e : ∀ (bs : List (Nat × List Value)) (p : Nat × List Value), (bs.set k p).eraseIdx k = bs.eraseIdx k := fun bs p => by rw [List.eraseIdx_set_eq]
 have h1 := h.setN k hk hg hn 0 y1
 have h2 := h1.setN k (by rw [List.getElem?_set_self hlt]) hg (by rw [e]; exact hn) 1 y2
 have h3 := h2.setN k (by rw [List.getElem?_set_self (by simpa using hlt)]) hg (by rw [e, e]; exact hn) 2 y3
 have h4 := h3.setN k (by rw [List.getElem?_set_self (by simpa using hlt)]) hg (by rw [e, e, e]; exact hn) 3 y4
 simp only [List.set_set] at h4
 exact h4
theorem KeepU.put4 {W : World} {g : Nat} {x1 x2 x3 x4 y1 y2 y3 : Value} (ho : Own W g [x1, x2, x3, x4]) (hn : NoU [x1, x2, x3, x4]) (hm : NoU [y1, y2, y3]) (y4 : Value) :
 KeepU W ((((W.setCell ⟨g, 0, none⟩ y1).setCell ⟨g, 1, none⟩ y2).setCell ⟨g, 2, none⟩ y3).setCell ⟨g, 3, none⟩ y4) := by
 have n : ∀ v ∈ [y1, y2, y3], ∀ y, Value.int .u32 y ≠ v := fun v hv y e => hm y (by rw [e]; exact hv)
 have a1 := KeepU.set ho hn 0 y1
 have o1 := ho.set 0 y1
 have m1 := hn.set 0 (n y1 (by simp))
 have a2 := KeepU.set o1 m1 1 y2
 have o2 := o1.set 1 y2
 have m2 := m1.set 1 (n y2 (by simp))
 have a3 := KeepU.set o2 m2 2 y3
 have o3 := o2.set 2 y3
 have m3 := m2.set 2 (n y3 (by simp))
 have a4 := KeepU.set o3 m3 3 y4
 exact ((a1.trans a2).trans a3).trans a4
theorem post_own2 {P : Program} {fn : Func} {R : Ending → World → Prop} {a : Act} {w : World} {p u : Tmp} {ty : TypeId} {g : Nat} {vs : List Value} {v : Value} {d : TypeDesc} (ho : Own w g vs) (h : fn.results = #[.cell p ty, .tmp u]) (h0 : a.defers = [])
 (hp : a.tmps.getD p undef = .pointer (some ⟨g, 0, none⟩)) (hv : a.tmps.getD u undef = v) (hu : P.underlying ty = some d) (hd : (match d with | .struct _ | .array _ _ => true | _ => false) = true) (hi : (P.info? ty).map (·.size) = some vs.length)
 (hR : R (.returned (.tuple #[.agg vs.toArray, v])) w) : bodyPost P fn R .ret a w := by
 obtain ⟨t, ho⟩ := ho
 subst hv
 refine bodyPost_ret ?_ h0 hR
 have hp' : a.tmps[p]?.getD undef = .pointer (some ⟨g, 0, none⟩) := by simpa using hp
 simp [results, h, hp', asAddr, run_loadVar_row w g t ty vs.toArray (0, 0) d ho hu hd (by simpa using hi)]
theorem post_own3 {P : Program} {fn : Func} {R : Ending → World → Prop} {a : Act} {w : World} {p u : Tmp} {ty : TypeId} {g : Nat} {vs : List Value} {v : Value} {d : TypeDesc} (ho : Own w g vs) (h : fn.results = #[.tmp u, .cell p ty]) (h0 : a.defers = [])
 (hp : a.tmps.getD p undef = .pointer (some ⟨g, 0, none⟩)) (hv : a.tmps.getD u undef = v) (hu : P.underlying ty = some d) (hd : (match d with | .struct _ | .array _ _ => true | _ => false) = true) (hi : (P.info? ty).map (·.size) = some vs.length)
 (hR : R (.returned (.tuple #[v, .agg vs.toArray])) w) : bodyPost P fn R .ret a w := by
 obtain ⟨t, ho⟩ := ho
 subst hv
 refine bodyPost_ret ?_ h0 hR
 have hp' : a.tmps[p]?.getD undef = .pointer (some ⟨g, 0, none⟩) := by simpa using hp
 simp [results, h, hp', asAddr, run_loadVar_row w g t ty vs.toArray (0, 0) d ho hu hd (by simpa using hi)]
def ToldT (w : World) (x y : MC) (e : Ending) (w' : World) : Prop :=
 ∃ (A : Option Addr) (c : Nat) (B : Option Addr) (d : Nat), e = .returned (.tuple #[.agg (MC.mk x.v (x.q + y.q) A c B d).cells.toArray, .bool (decide (x.q + y.q ≠ 0))]) ∧ (MC.mk x.v (x.q + y.q) A c B d).At w' ∧ Below w.heap.size w w'
theorem sgn_zero (q : Rat) : (sgn q.num == 0) = decide (q = 0) := by
 unfold sgn
 by_cases h : q = 0
 · subst h; rfl
 · have : q.num ≠ 0 := fun h0 => h (Rat.num_eq_zero.1 h0)
   simp only [h, decide_false, beq_eq_false_iff_ne]
   split
   · decide
   · split
     · decide
     · omega
set_option maxHeartbeats 1000000 in
set_option maxRecDepth 100000 in
theorem linear_together (x y : MC) (w : World) (hx : x.At w) (hy : y.At w) (hq : QL (x.q + y.q)) :
 Calls Tryz.prog 141 #[.agg x.cells.toArray, .agg y.cells.toArray] w fun e w' => ToldT w x y e w' := by
 obtain ⟨v, p, A, c, B, d⟩ := x
 obtain ⟨v2, q, A2, c2, B2, d2⟩ := y
 have ql1 := hx.ql.1
 have ql2 := hx.ql.2
 have ql3 := hy.ql.1
 have ql4 := hy.ql.2
 dsimp only at *
 have hA := Lib.hid (fun (W : World) (hb : Below w.heap.size w W) => ratio_Add (decide (p.num < 0)) A c (dg p.num.natAbs) B d (dg p.den) (decide (q.num < 0)) A2 c2 (dg q.num.natAbs) B2 d2 (dg q.den) W (hx.inq.num.below hb) ql1 (hx.inq.den.below hb) ql2 (hy.inq.num.below hb) ql3 (hy.inq.den.below hb) ql4)
 simp only [rv_can] at hA
 unfold ToldT
 dsimp only
 obtain ⟨r, hr⟩ : ∃ r, r = p + q := ⟨_, rfl⟩
 rw [← hr] at hA hq ⊢
 have qr1 := hq.1
 have qr2 := hq.2
 have HQL := Lib.hid hq
 have hS := Lib.hid (fun (W : World) (A' : Option Addr) (c' : Nat) (B' : Option Addr) (d' : Nat) (k : InQ W A' c' B' d' r) => ratio_Sign (decide (r.num < 0)) A' c' (dg r.num.natAbs) B' d' (dg r.den) W k.num (by omega) k.den (by omega))
 rw [rv_can] at hS
 have HZ := Lib.hid (sgn_zero r)
 clear hr hq hx hy ql1 ql2 ql3 ql4
 unfold MC.cells
 dsimp only
 have HF := Lib.hid ((((Fr.refl w).box [.int .i64 v, .bool (decide (p.num < 0)), .slice A (dg p.num.natAbs).length c, .slice B (dg p.den).length d] 57).box [.int .i64 v2, .bool (decide (q.num < 0)), .slice A2 (dg q.num.natAbs).length c2, .slice B2 (dg q.den).length d2] 57).box [.int .i64 0, .bool false, .slice none 0 0, .slice none 0 0] 57)
 generalize decide (p.num < 0) = pb at *
 generalize dg p.num.natAbs = pn at *
 generalize dg p.den = pd at *
 generalize decide (q.num < 0) = qb at *
 generalize dg q.num.natAbs = qn at *
 generalize dg q.den = qd at *
 have hsz : (w.alloc (.cells [Value.int .i64 v, Value.bool pb, .slice A pn.length c, .slice B pd.length d].toArray 57)).heap.size = w.heap.size + 1 := by simp
 have hsz2 : ((w.alloc (.cells [Value.int .i64 v, Value.bool pb, .slice A pn.length c, .slice B pd.length d].toArray 57)).alloc (.cells [Value.int .i64 v2, Value.bool qb, .slice A2 qn.length c2, .slice B2 qd.length d2].toArray 57)).heap.size = w.heap.size + 2 := by simp
 simp only [hsz, hsz2] at HF
 clear hsz hsz2
 go_enter Tryz.func141, Tryz.ntmps141
 go_wp2_with fail
 refine (hA.out _ HF.out.bel).mono ?_
 rintro e W1 ⟨A3, c3, B3, d3, rfl, q1, q2, q3⟩
 replace HF := Lib.hid (HF.out.below q3)
 have Q1 := Lib.hid (InQ.mk q1 q2)
 clear q1 q2 q3
 have hgw : w.heap.size + 2 < W1.heap.size := HF.out.ltN 0 rfl
 have hal := Lib.hid ((Below.refl _ W1).alloc (Nat.le_refl _) (.cells #[.bool (decide (r.num < 0)), .slice A3 (dg r.num.natAbs).length c3, .slice B3 (dg r.den).length d3] 43))
 replace HF := Lib.hid (HF.out.box [.bool (decide (r.num < 0)), .slice A3 (dg r.num.natAbs).length c3, .slice B3 (dg r.den).length d3] 43)
 replace Q1 := Lib.hid (Q1.out.below hal.out)
 clear hal
 go_wp2_with fail
 rw [show [Value.bool (decide (r.num < 0)), .slice A3 (dg r.num.natAbs).length c3, .slice B3 (dg r.den).length d3].toArray = #[Value.bool (decide (r.num < 0)), .slice A3 (dg r.num.natAbs).length c3, .slice B3 (dg r.den).length d3] from rfl] at HF
 generalize W1.alloc (Obj.cells #[Value.bool (decide (r.num < 0)), .slice A3 (dg r.num.natAbs).length c3, .slice B3 (dg r.den).length d3] 43) = W at *
 replace Q1 := Lib.hid (Q1.out.below (Below.drew (Below.refl _ _)))
 have HF_ := Lib.hid HF.out.drew
 clear HF
 have HF := HF_
 clear HF_
 refine start_ (n := 9) (S := fun w' => w'.cell? ⟨W1.heap.size, 0, none⟩ = some (.bool (decide (r.num < 0))) ∧ w'.cell? ⟨W1.heap.size, 1, none⟩ = some (.slice A3 (dg r.num.natAbs).length c3) ∧ w'.cell? ⟨W1.heap.size, 2, none⟩ = some (.slice B3 (dg r.den).length d3) ∧ w'.cell? ⟨w.heap.size, 0, none⟩ = some (.int .i64 v) ∧ w'.cell? ⟨w.heap.size, 1, none⟩ = some (.bool pb) ∧ w'.cell? ⟨w.heap.size, 2, none⟩ = some (.slice A pn.length c) ∧ w'.cell? ⟨w.heap.size, 3, none⟩ = some (.slice B pd.length d)) (ds := []) #[false, false, false, false, false, false, false, false, false] (by kernel_rfl) rfl rfl ⟨HF.out.cellN 0 rfl 0 rfl, HF.out.cellN 0 rfl 1 rfl, HF.out.cellN 0 rfl 2 rfl, HF.out.cellN 3 rfl 0 rfl, HF.out.cellN 3 rfl 1 rfl, HF.out.cellN 3 rfl 2 rfl, HF.out.cellN 3 rfl 3 rfl⟩ (fun hHeld => ?_)
 generalize World.drew _ = W at *
 refine pu_ (v := ?_) (a' := ?_) 0 (some 12) rfl rfl ?_ ?_ ?_
 rotate_left; · intro w'; go_simp; with_reducible rfl
 rotate_left
 · simp only [Act.put, sa_, sb_, sc_]
   rfl
 refine tk_ (v := ?_) (a' := ?_) 1 (some 13) rfl rfl ?_ hHeld ?_ ?_
 rotate_left
 · rintro w' ⟨s0, s1, s2, s3, s4, s5, s6⟩; go_simp; with_reducible rfl
 rotate_left
 · simp only [Act.put, sa_, sb_, sc_]
   rfl
 refine tk_ (v := ?_) (a' := ?_) 2 (some 14) rfl rfl ?_ hHeld ?_ ?_
 rotate_left
 · rintro w' ⟨s0, s1, s2, s3, s4, s5, s6⟩; go_simp; with_reducible rfl
 rotate_left
 · simp only [Act.put, sa_, sb_, sc_]
   rfl
 refine pu_ (v := ?_) (a' := ?_) 3 (some 15) rfl rfl ?_ ?_ ?_
 rotate_left; · intro w'; go_simp; with_reducible rfl
 rotate_left
 · simp only [Act.put, sa_, sb_, sc_]
   rfl
 refine tk_ (v := ?_) (a' := ?_) 4 (some 16) rfl rfl ?_ hHeld ?_ ?_
 rotate_left
 · rintro w' ⟨s0, s1, s2, s3, s4, s5, s6⟩; go_simp; with_reducible rfl
 rotate_left
 · simp only [Act.put, sa_, sb_, sc_]
   rfl
 refine on_ 5 (N := (some 17)) rfl rfl (fun K hK => ?_)
 refine goes_ Tryz.func66 (by kernel_rfl) rfl #[.agg #[.bool (decide (r.num < 0)), .slice A3 (dg r.num.natAbs).length c3, .slice B3 (dg r.den).length d3]] (by rfl) rfl rfl (by (try simp only [List.map_toArray, List.map_cons, List.map_nil]); first | done | rfl) ?_
 refine (hS.out W A3 c3 B3 d3 Q1.out).mono ?_
 rintro e W1 ⟨rfl, q3⟩
 refine ⟨_, rfl, ?_⟩
 replace HF := Lib.hid (HF.out.below q3)
 replace Q1 := Lib.hid (Q1.out.below q3)
 clear q3
 refine hK.out _ _ ⟨HF.out.cellN 0 rfl 0 rfl, HF.out.cellN 0 rfl 1 rfl, HF.out.cellN 0 rfl 2 rfl, HF.out.cellN 3 rfl 0 rfl, HF.out.cellN 3 rfl 1 rfl, HF.out.cellN 3 rfl 2 rfl, HF.out.cellN 3 rfl 3 rfl⟩ (fun hHeld => ?_)
 clear hK K
 refine norm_ (a' := ?_) ?_ ?_
 rotate_left
 · show Act.put _ (some 17) _ = _
   simp only [Act.put, sa_, sb_, sc_]
   rfl
 refine pu_ (v := ?_) (a' := ?_) 6 (some 18) rfl rfl ?_ ?_ ?_
 rotate_left; · intro w'; go_simp; with_reducible rfl
 rotate_left
 · simp only [Act.put, sa_, sb_, sc_]
   rfl
 refine on_ 7 (N := none) rfl rfl (fun K hK => ?_)
 have hf0 := HF.out.frozenN 1 rfl 0
 have hf1 := HF.out.frozenN 1 rfl 1
 have hf2 := HF.out.frozenN 1 rfl 2
 have hf3 := HF.out.frozenN 1 rfl 3
 have hd0 := HF.out.cellN 1 rfl 0 rfl
 have hd1 := HF.out.cellN 1 rfl 1 rfl
 have hd2 := HF.out.cellN 1 rfl 2 rfl
 have hd3 := HF.out.cellN 1 rfl 3 rfl
 refine skip_ (w1 := ?_) (by rfl) rfl ?_ ?_
 rotate_left
 · go_simp
   rfl
 have HKU := Lib.hid (KeepU.put4 (HF.out.ownN 1 rfl) (fun y hy => by simp at hy) (y1 := .int .i64 v) (y2 := .bool (decide (r.num < 0))) (y3 := .slice A3 (dg r.num.natAbs).length c3) (fun y hy => by simp at hy) (.slice B3 (dg r.den).length d3))
 replace Q1 := Lib.hid (Q1.out.keep HKU.out)
 replace HF := Lib.hid (HF.out.put4 1 rfl (by omega) (by simp; omega) (.int .i64 v) (.bool (decide (r.num < 0))) (.slice A3 (dg r.num.natAbs).length c3) (.slice B3 (dg r.den).length d3))
 clear HKU hf0 hf1 hf2 hf3 hd0 hd1 hd2 hd3
 refine hK.out _ _ ⟨HF.out.cellN 0 rfl 0 rfl, HF.out.cellN 0 rfl 1 rfl, HF.out.cellN 0 rfl 2 rfl, HF.out.cellN 3 rfl 0 rfl, HF.out.cellN 3 rfl 1 rfl, HF.out.cellN 3 rfl 2 rfl, HF.out.cellN 3 rfl 3 rfl⟩ (fun hHeld => ?_)
 clear hK K
 refine pu_ (v := ?_) (a' := ?_) 8 (some 5) rfl rfl ?_ ?_ ?_
 rotate_left; · intro w'; go_simp; with_reducible rfl
 rotate_left
 · simp only [Act.put, sa_, sb_, sc_]
   rfl
 refine done_ (by kernel_rfl) ?_
 generalize World.setCell _ _ _ = W2 at HF Q1 ⊢
 have hbz := Lib.hid (show (sgn r.num != 0) = decide (r ≠ 0) by rw [bne, HZ.out]; simp)
 go_wp2
 refine post_own2 (HF.out.ownN 1 rfl) rfl rfl rfl rfl Tryz.underlying57 rfl (by kernel_rfl) ⟨A3, c3, B3, d3, ?_, ⟨Q1.out, HQL.out⟩, HF.out.bel⟩
 show Ending.returned (.tuple #[.agg #[Value.int .i64 v, .bool (decide (r.num < 0)), .slice A3 (dg r.num.natAbs).length c3, .slice B3 (dg r.den).length d3], .bool (sgn r.num != 0)]) = _
 rw [hbz.out]
theorem Knd.Row.tail_ {α : Type} {d : Knd α} {w : World} {ad : Addr} {x : α} {xs : List α} (h : d.Row w (some ad) (x :: xs)) : d.Row w (some (ad.add d.sz)) xs := by
 intro i hi
 obtain ⟨ad', cs, e, hC, hc⟩ := h (i + 1) (by simpa using hi)
 cases e
 refine ⟨ad.add d.sz, cs, rfl, by simpa using hC, fun j u hu => ?_⟩
 rw [add_add, show d.sz + (i * d.sz + j) = (i + 1) * d.sz + j by rw [Nat.add_mul]; omega]
 exact hc j u hu
theorem FIn.tail2 {w : World} {ad : Addr} {c : Nat} {m : Int × Rat} {l : Frm} (h : FIn w (some ad) c (m :: l)) : FIn w (some (nxt ad 4)) (c - 1) l := by
 have hc := h.cap
 simp only [List.length_cons] at hc
 exact ⟨Knd.Row.tail_ h.row, by omega, fun x hx => h.ql x (List.mem_cons_of_mem _ hx)⟩
theorem FIn.tail1 {w : World} {ad : Addr} {m : Int × Rat} {l : Frm} (h : FIn w (some ad) 1 (m :: l)) : FIn w (some ad) 0 l := by
 have hc := h.cap
 simp only [List.length_cons] at hc
 have : l = [] := List.eq_nil_of_length_eq_zero (by omega)
 subst this
 exact FIn.nil _ _ _
theorem FIn.first {w : World} {A : Option Addr} {c : Nat} {m : Int × Rat} {l : Frm} (h : FIn w A c (m :: l)) : ∃ ad r, A = some ad ∧ r.vq = m ∧ MC.At w r ∧ w.cell? ad = some (.int .i64 r.v) ∧ w.cell? (nxt ad 1) = some (.bool (decide (r.q.num < 0))) ∧ w.cell? (nxt ad 2) = some (.slice r.A (dg r.q.num.natAbs).length r.c) ∧ w.cell? (nxt ad 3) = some (.slice r.B (dg r.q.den).length r.d) := by
 obtain ⟨rs, h1, h2, h3⟩ := h.flat
 cases rs with
 | nil => simp at h1
 | cons r rs =>
  simp only [List.map_cons, List.cons.injEq] at h1
  obtain ⟨ad, rfl, hc⟩ := h3 (by simp)
  have e : ∀ j, 0 < j → nxt ad j = ad.add j := fun j hj => by
   have := add_off ad 0 j hj
   rw [Nat.zero_add] at this
   rw [← this]
   rfl
  refine ⟨ad, r, rfl, h1.1, h2 r (List.mem_cons_self ..), hc 0 _ rfl, ?_, ?_, ?_⟩ <;> rw [e _ (by omega)]
  · exact hc 1 _ rfl
  · exact hc 2 _ rfl
  · exact hc 3 _ rfl
theorem OwnF.put4 {W : World} {B : Nat} {v : Value} {l : Frm} {g : Nat} (h : OwnF W B v l) (hne : v.ownBlock ≠ some g) (y1 y2 y3 y4 : Value) (hk : KeepU W ((((W.setCell ⟨g, 0, none⟩ y1).setCell ⟨g, 1, none⟩ y2).setCell ⟨g, 2, none⟩ y3).setCell ⟨g, 3, none⟩ y4)) :
 OwnF ((((W.setCell ⟨g, 0, none⟩ y1).setCell ⟨g, 1, none⟩ y2).setCell ⟨g, 2, none⟩ y3).setCell ⟨g, 3, none⟩ y4) B v l := by
 refine h.kept (fun k hk0 hv => ?_) hk
 have hkg : k ≠ g := fun e => hne (by rw [← e]; exact hv)
 rw [Below.heap_setCell _ _ _ _ hkg, Below.heap_setCell _ _ _ _ hkg, Below.heap_setCell _ _ _ _ hkg, Below.heap_setCell _ _ _ _ hkg]
set_option maxHeartbeats 2000000 in
set_option maxRecDepth 100000 in
theorem linear_merge (A : Option Addr) (c : Nat) (a : Frm) (B : Option Addr) (d : Nat) (b : Frm) (w : World) (ha : FIn w A c a) (hb : FIn w B d b) (hq : ∀ x ∈ a, ∀ y ∈ b, x.1 = y.1 → QL (x.2 + y.2)) (hl : a.length + b.length ≤ 274877906944) :
 Calls Tryz.prog 139 #[.slice A a.length c, .slice B b.length d, .func (.func 140) #[] #[], .func (.func 141) #[] #[]] w fun e w' => ∃ v, e = .returned v ∧ OwnF w' w.heap.size v (mg a b) ∧ Below w.heap.size w w' := by
 have HA := Lib.hid ha
 have HB := Lib.hid hb
 have HQ := Lib.hid hq
 clear ha hb hq
 go_enter Tryz.func139, Tryz.ntmps139
 go_wp2
 go_loopg [0, 1, 9] (a.length + b.length) (fun gg s0 s1 s9 wr => ∃ (A' : Option Addr) (c' : Nat) (a' : Frm) (B' : Option Addr) (d' : Nat) (b' : Frm) (v : Value) (l : Frm), a'.length + b'.length ≤ gg ∧ s0 = .slice A' a'.length c' ∧ s1 = .slice B' b'.length d' ∧ v = s9 ∧ l.length + a'.length + b'.length ≤ a.length + b.length ∧ Hid (l ++ mg a' b' = mg a b) ∧ Hid (FIn w A' c' a') ∧ Hid (FIn w B' d' b') ∧ Hid (∀ x ∈ a', ∀ y ∈ b', x.1 = y.1 → QL (x.2 + y.2)) ∧ Hid (OwnF wr w.heap.size v l) ∧ Hid (Below w.heap.size w wr))
 case atStart => exact ⟨A, c, a, B, d, b, _, [], by omega, rfl, rfl, rfl, by simp, by show _ = _; rfl, HA, HB, HQ, OwnF.nil _ _, Below.refl _ _⟩
 case round =>
  clear HA HB HQ
  obtain ⟨A', c', a', B', d', b', v, l, hg, rfl, rfl, rfl, hlen, HM, HA, HB, HQ, HO, HW⟩ := hrel
  cases a' with
  | nil =>
   have HM2 : Hid (l ++ [] ++ b' = mg a b) := by
    show _ = _
    rw [← HM.out]
    rw [mg, List.append_nil]
   obtain ⟨v1, w1, hr1, hO1, hS1⟩ := pushF (t := 30) (ty := 30) Tryz.underlying30 HO.out (HA.out.below HW.out) (by simp at hlen ⊢; omega) HW.out.size
   obtain ⟨v2, w2, hr2, hO2, hS2⟩ := pushF (t := 30) (ty := 30) Tryz.underlying30 hO1 (HB.out.below (HW.out.trans hS1.below)) (by simp at hlen ⊢; omega) (HW.out.trans hS1.below).size
   have HP1 := Lib.hid hr1
   have HP2 := Lib.hid hr2
   have HO2 := Lib.hid hO2
   have HW2 := Lib.hid ((HW.out.trans hS1.below).trans hS2.below)
   clear hr1 hr2 hO1 hO2 hS1 hS2 HM HA HB HQ HO HW
   rw [HM2.out] at HO2
   simp only [List.length_cons, List.length_nil] at HP1 HP2 ⊢
   go_wp2_with (first | (refine pushL_ rfl rfl rfl rfl HP1.out ?_) | (refine pushL_ rfl rfl rfl rfl HP2.out ?_))
   go_ret
   exact ⟨_, rfl, HO2.out, HW2.out⟩
  | cons x a' =>
   cases b' with
   | nil =>
    have HM2 : Hid (l ++ (x :: a') ++ [] = mg a b) := by
     show _ = _
     rw [← HM.out]
     rw [mg_nil, List.append_nil]
    obtain ⟨v1, w1, hr1, hO1, hS1⟩ := pushF (t := 30) (ty := 30) Tryz.underlying30 HO.out (HA.out.below HW.out) (by simp at hlen ⊢; omega) HW.out.size
    obtain ⟨v2, w2, hr2, hO2, hS2⟩ := pushF (t := 30) (ty := 30) Tryz.underlying30 hO1 (HB.out.below (HW.out.trans hS1.below)) (by simp at hlen ⊢; omega) (HW.out.trans hS1.below).size
    have HP1 := Lib.hid hr1
    have HP2 := Lib.hid hr2
    have HO2 := Lib.hid hO2
    have HW2 := Lib.hid ((HW.out.trans hS1.below).trans hS2.below)
    clear hr1 hr2 hO1 hO2 hS1 hS2 HM HA HB HQ HO HW
    rw [HM2.out] at HO2
    simp only [List.length_cons, List.length_nil] at HP1 HP2 ⊢
    go_wp2_with (first | (refine pushL_ rfl rfl rfl rfl HP1.out ?_) | (refine pushL_ rfl rfl rfl rfl HP2.out ?_))
    go_ret
    exact ⟨_, rfl, HO2.out, HW2.out⟩
   | cons y b' =>
    simp only [List.length_cons] at hg hlen ⊢
    obtain ⟨ad, r, rfl, rfl, hr, i1, i2, i3, i4⟩ := HA.out.first
    obtain ⟨bd, s, rfl, rfl, hs, j1, j2, j3, j4⟩ := HB.out.first
    have HR := Lib.hid hr
    have HS := Lib.hid hs
    clear hr hs
    have HF := Lib.hid (show Fr w wr [] from ⟨HW.out, fun p hp => by cases hp⟩)
    go_wp2_with fail
    have hC := Lib.hid (fun (W : World) => linear_byVar r s W)
    replace HO := Lib.hid (HO.out.below (Below.drew (Below.refl _ _)))
    have HF_ := Lib.hid HF.out.drew
    clear HF
    have HF := HF_
    clear HF_
    refine start_ (n := 9) (S := fun w' => w'.cell? (ad) = some (.int .i64 r.v) ∧ w'.cell? (nxt ad 1) = some (.bool (decide (r.q.num < 0))) ∧ w'.cell? (nxt ad 2) = some (.slice r.A (dg r.q.num.natAbs).length r.c) ∧ w'.cell? (nxt ad 3) = some (.slice r.B (dg r.q.den).length r.d) ∧ w'.cell? (bd) = some (.int .i64 s.v) ∧ w'.cell? (nxt bd 1) = some (.bool (decide (s.q.num < 0))) ∧ w'.cell? (nxt bd 2) = some (.slice s.A (dg s.q.num.natAbs).length s.c) ∧ w'.cell? (nxt bd 3) = some (.slice s.B (dg s.q.den).length s.d)) (ds := []) #[false, false, false, false, false, false, false, false, false] (by kernel_rfl) rfl rfl ⟨cell_below HF.out.bel i1, cell_below HF.out.bel i2, cell_below HF.out.bel i3, cell_below HF.out.bel i4, cell_below HF.out.bel j1, cell_below HF.out.bel j2, cell_below HF.out.bel j3, cell_below HF.out.bel j4⟩ (fun hHeld => ?_)
    generalize World.drew _ = W at *
    refine pu_ (v := ?_) (a' := ?_) 0 (some 21) rfl rfl ?_ ?_ ?_
    rotate_left; · intro w'; go_simp; with_reducible rfl
    rotate_left
    · simp only [Act.put, sa_, sb_, sc_]
      rfl
    refine pu_ (v := ?_) (a' := ?_) 1 (some 22) rfl rfl ?_ ?_ ?_
    rotate_left; · intro w'; go_simp; with_reducible rfl
    rotate_left
    · simp only [Act.put, sa_, sb_, sc_]
      rfl
    refine pu_ (v := ?_) (a' := ?_) 2 (some 23) rfl rfl ?_ ?_ ?_
    rotate_left; · intro w'; go_simp; with_reducible rfl
    rotate_left
    · simp only [Act.put, sa_, sb_, sc_]
      rfl
    refine pu_ (v := ?_) (a' := ?_) 4 (some 25) rfl rfl ?_ ?_ ?_
    rotate_left; · intro w'; go_simp; with_reducible rfl
    rotate_left
    · simp only [Act.put, sa_, sb_, sc_]
      rfl
    refine pu_ (v := ?_) (a' := ?_) 5 (some 26) rfl rfl ?_ ?_ ?_
    rotate_left; · intro w'; go_simp; with_reducible rfl
    rotate_left
    · simp only [Act.put, sa_, sb_, sc_]
      rfl
    refine tk_ (v := ?_) (a' := ?_) 3 (some 24) rfl rfl ?_ hHeld ?_ ?_
    rotate_left
    · rintro w' ⟨s0, s1, s2, s3, s4, s5, s6, s7⟩; go_simp; with_reducible rfl
    rotate_left
    · simp only [Act.put, sa_, sb_, sc_]
      rfl
    refine tk_ (v := ?_) (a' := ?_) 6 (some 27) rfl rfl ?_ hHeld ?_ ?_
    rotate_left
    · rintro w' ⟨s0, s1, s2, s3, s4, s5, s6, s7⟩; go_simp; with_reducible rfl
    rotate_left
    · simp only [Act.put, sa_, sb_, sc_]
      rfl
    refine on_ 7 (N := (some 28)) rfl rfl (fun K hK => ?_)
    refine goesV_ Tryz.func140 (by kernel_rfl) rfl #[.agg r.cells.toArray, .agg s.cells.toArray] (by rfl) rfl rfl rfl (by (try simp only [List.map_toArray, List.map_cons, List.map_nil]); first | done | rfl) ?_
    refine (hC.out W).mono ?_
    rintro e W1 ⟨rfl, q3⟩
    refine ⟨_, rfl, ?_⟩
    replace HF := Lib.hid (HF.out.below q3)
    replace HO := Lib.hid (HO.out.below q3)
    clear q3
    refine hK.out _ _ ⟨cell_below HF.out.bel i1, cell_below HF.out.bel i2, cell_below HF.out.bel i3, cell_below HF.out.bel i4, cell_below HF.out.bel j1, cell_below HF.out.bel j2, cell_below HF.out.bel j3, cell_below HF.out.bel j4⟩ (fun hHeld => ?_)
    clear hK K
    refine norm_ (a' := ?_) ?_ ?_
    rotate_left
    · show Act.put _ (some 28) _ = _
      simp only [Act.put, sa_, sb_, sc_]
      rfl
    refine pu_ (v := ?_) (a' := ?_) 8 (some 10) rfl rfl ?_ ?_ ?_
    rotate_left; · intro w'; go_simp; with_reducible rfl
    rotate_left
    · simp only [Act.put, sa_, sb_, sc_]
      rfl
    refine done_ (by kernel_rfl) ?_
    have k1 := cell_below HF.out.bel i1
    have k2 := cell_below HF.out.bel i2
    have k3 := cell_below HF.out.bel i3
    have k4 := cell_below HF.out.bel i4
    have n1 := cell_below HF.out.bel j1
    have n2 := cell_below HF.out.bel j2
    have n3 := cell_below HF.out.bel j3
    have n4 := cell_below HF.out.bel j4
    clear hC
    by_cases hlt : r.v < s.v
    · clear n1 n2 n3 n4 i1 i2 i3 i4 j1 j2 j3 j4
      have hsg : sgn (r.v - s.v) = -1 := by unfold sgn; rw [if_pos (by omega)]
      rw [hsg]
      clear hsg
      have hal := Lib.hid ((Below.refl _ W1).alloc (Nat.le_refl _) (.cells r.cells.toArray 57))
      have HRa := Lib.hid ((HR.out.keep (KeepU.below HF.out.bel)).keep (KeepU.below hal.out))
      have HOa := Lib.hid (HO.out.below hal.out)
      have hown := Lib.hid (Own.mk (w := W1) r.cells 57)
      obtain ⟨v', w', hrun, hO', hS⟩ := push1 (t := 30) (ty := 30) Tryz.underlying30 HOa.out HRa.out hown.out (by omega) (Nat.le_trans HF.out.bel.size (by simp))
      have HP := Lib.hid hrun
      have HO2 := Lib.hid hO'
      have HF2 := Lib.hid ((HF.out.bel.alloc HF.out.bel.size (.cells r.cells.toArray 57)).trans hS.below)
      have HM2 : Hid ((l ++ [r.vq]) ++ mg a' (s.vq :: b') = mg a b) := by
       show _ = _
       rw [← HM.out, mg, if_pos (show r.vq.1 < s.vq.1 from hlt)]
       simp
      clear hrun hO' hS HM hal HRa HOa hown HO HF
      by_cases hc1 : c' = 1
      · subst hc1
        go_wp2_with (refine pushL_ rfl rfl rfl rfl HP.out ?_)
        all_goals
         go_roundg (a'.length + b'.length + 1)
         case measure => omega
         case rel => exact ⟨some ad, 0, a', some bd, d', s.vq :: b', v', l ++ [r.vq], by simp; omega, rfl, rfl, rfl, by simp; omega, HM2, HA.out.tail1, HB, fun x hx y hy => HQ.out x (List.mem_cons_of_mem _ hx) y hy, HO2, HF2⟩
      · go_wp2_with (refine pushL_ rfl rfl rfl rfl HP.out ?_)
        all_goals
         go_roundg (a'.length + b'.length + 1)
         case measure => omega
         case rel => exact ⟨some (nxt ad 4), c' - 1, a', some bd, d', s.vq :: b', v', l ++ [r.vq], by simp; omega, rfl, rfl, rfl, by simp; omega, HM2, HA.out.tail2, HB, fun x hx y hy => HQ.out x (List.mem_cons_of_mem _ hx) y hy, HO2, HF2⟩
    · by_cases hgt : s.v < r.v
      · clear k1 k2 k3 k4 i1 i2 i3 i4 j1 j2 j3 j4
        have hsg : sgn (r.v - s.v) = 1 := by unfold sgn; rw [if_neg (by omega), if_pos (by omega)]
        rw [hsg]
        clear hsg
        have hal := Lib.hid ((Below.refl _ W1).alloc (Nat.le_refl _) (.cells s.cells.toArray 57))
        have HRa := Lib.hid ((HS.out.keep (KeepU.below HF.out.bel)).keep (KeepU.below hal.out))
        have HOa := Lib.hid (HO.out.below hal.out)
        have hown := Lib.hid (Own.mk (w := W1) s.cells 57)
        obtain ⟨v', w', hrun, hO', hS⟩ := push1 (t := 30) (ty := 30) Tryz.underlying30 HOa.out HRa.out hown.out (by omega) (Nat.le_trans HF.out.bel.size (by simp))
        have HP := Lib.hid hrun
        have HO2 := Lib.hid hO'
        have HF2 := Lib.hid ((HF.out.bel.alloc HF.out.bel.size (.cells s.cells.toArray 57)).trans hS.below)
        have HM2 : Hid ((l ++ [s.vq]) ++ mg (r.vq :: a') b' = mg a b) := by
         show _ = _
         rw [← HM.out, mg, if_neg (show ¬ r.vq.1 < s.vq.1 from hlt), if_pos (show s.vq.1 < r.vq.1 from hgt)]
         simp
        clear hrun hO' hS HM hal HRa HOa hown HO HF
        by_cases hc1 : d' = 1
        · subst hc1
          go_wp2_with (refine pushL_ rfl rfl rfl rfl HP.out ?_)
          all_goals
           go_roundg (a'.length + b'.length + 1)
           case measure => omega
           case rel => exact ⟨some ad, c', r.vq :: a', some bd, 0, b', v', l ++ [s.vq], by simp; omega, rfl, rfl, rfl, by simp; omega, HM2, HA, HB.out.tail1, fun x hx y hy => HQ.out x hx y (List.mem_cons_of_mem _ hy), HO2, HF2⟩
        · go_wp2_with (refine pushL_ rfl rfl rfl rfl HP.out ?_)
          all_goals
           go_roundg (a'.length + b'.length + 1)
           case measure => omega
           case rel => exact ⟨some ad, c', r.vq :: a', some (nxt bd 4), d' - 1, b', v', l ++ [s.vq], by simp; omega, rfl, rfl, rfl, by simp; omega, HM2, HA, HB.out.tail2, fun x hx y hy => HQ.out x hx y (List.mem_cons_of_mem _ hy), HO2, HF2⟩
      · have heq : r.v = s.v := by omega
        have hsg : sgn (r.v - s.v) = 0 := by unfold sgn; rw [if_neg (by omega), if_neg (by omega)]
        rw [hsg]
        clear hsg k1 k2 k3 k4 n1 n2 n3 n4
        obtain ⟨q3, hq3⟩ : ∃ q3, q3 = r.q + s.q := ⟨_, rfl⟩
        have hql : QL (r.q + s.q) := HQ.out r.vq (List.mem_cons_self ..) s.vq (List.mem_cons_self ..) heq
        have hT := Lib.hid (fun (W : World) (hb : Below w.heap.size w W) => linear_together r s W (HR.out.keep (KeepU.below hb)) (HS.out.keep (KeepU.below hb)) hql)
        unfold ToldT at hT
        rw [← hq3] at hT
        dsimp only [MC.cells] at hT
        obtain ⟨bz, hbz⟩ : ∃ bz, bz = decide (q3 ≠ 0) := ⟨_, rfl⟩
        rw [← hbz] at hT
        have HZ := Lib.hid hbz
        clear hbz
        have HMq := Lib.hid (show mg (r.vq :: a') (s.vq :: b') = if q3 = 0 then mg a' b' else (r.v, q3) :: mg a' b' by
         rw [mg, if_neg (show ¬ r.vq.1 < s.vq.1 from hlt), if_neg (show ¬ s.vq.1 < r.vq.1 from hgt), hq3]
         rfl)
        clear hq3 hql heq
        have hb9 := Lib.hid HO.out.block
        go_wp2_with fail
        replace HO := Lib.hid (HO.out.below (Below.drew (Below.refl _ _)))
        have HF_ := Lib.hid HF.out.drew
        clear HF
        have HF := HF_
        clear HF_
        refine start_ (n := 14) (S := fun w' => w'.cell? (ad) = some (.int .i64 r.v) ∧ w'.cell? (nxt ad 1) = some (.bool (decide (r.q.num < 0))) ∧ w'.cell? (nxt ad 2) = some (.slice r.A (dg r.q.num.natAbs).length r.c) ∧ w'.cell? (nxt ad 3) = some (.slice r.B (dg r.q.den).length r.d) ∧ w'.cell? (bd) = some (.int .i64 s.v) ∧ w'.cell? (nxt bd 1) = some (.bool (decide (s.q.num < 0))) ∧ w'.cell? (nxt bd 2) = some (.slice s.A (dg s.q.num.natAbs).length s.c) ∧ w'.cell? (nxt bd 3) = some (.slice s.B (dg s.q.den).length s.d)) (ds := []) #[false, false, false, false, false, false, false, false, false, false, false, false, false, false] (by kernel_rfl) rfl rfl ⟨cell_below HF.out.bel i1, cell_below HF.out.bel i2, cell_below HF.out.bel i3, cell_below HF.out.bel i4, cell_below HF.out.bel j1, cell_below HF.out.bel j2, cell_below HF.out.bel j3, cell_below HF.out.bel j4⟩ (fun hHeld => ?_)
        generalize World.drew _ = W at *
        refine pure_ (i := 0) (N := (some 30)) (v := ?_) (a' := ?_) #[true, false, false, false, false, false, false, false, false, false, false, false, false, false] rfl rfl (by kernel_rfl) (fun _ _ _ h => h) (Or.inl ⟨by rfl, ?_⟩) ?_ ?_
        rotate_left; · intro w'; go_simp; with_reducible rfl
        rotate_left
        · simp only [Act.put, sa_, sb_, sc_]
          rfl
        refine pure_ (i := 1) (N := (some 31)) (v := ?_) (a' := ?_) #[true, true, false, false, false, false, false, false, false, false, false, false, false, false] rfl rfl (by kernel_rfl) (fun _ _ _ h => h) (Or.inl ⟨by rfl, ?_⟩) ?_ ?_
        rotate_left; · intro w'; go_simp; with_reducible rfl
        rotate_left
        · simp only [Act.put, sa_, sb_, sc_]
          rfl
        refine pure_ (i := 2) (N := (some 32)) (v := ?_) (a' := ?_) #[true, true, true, false, false, false, false, false, false, false, false, false, false, false] rfl rfl (by kernel_rfl) (fun _ _ _ h => h) (Or.inl ⟨by rfl, ?_⟩) ?_ ?_
        rotate_left; · intro w'; go_simp; with_reducible rfl
        rotate_left
        · simp only [Act.put, sa_, sb_, sc_]
          rfl
        refine pure_ (i := 4) (N := (some 34)) (v := ?_) (a' := ?_) #[true, true, true, false, true, false, false, false, false, false, false, false, false, false] rfl rfl (by kernel_rfl) (fun _ _ _ h => h) (Or.inl ⟨by rfl, ?_⟩) ?_ ?_
        rotate_left; · intro w'; go_simp; with_reducible rfl
        rotate_left
        · simp only [Act.put, sa_, sb_, sc_]
          rfl
        refine pure_ (i := 5) (N := (some 35)) (v := ?_) (a' := ?_) #[true, true, true, false, true, true, false, false, false, false, false, false, false, false] rfl rfl (by kernel_rfl) (fun _ _ _ h => h) (Or.inl ⟨by rfl, ?_⟩) ?_ ?_
        rotate_left; · intro w'; go_simp; with_reducible rfl
        rotate_left
        · simp only [Act.put, sa_, sb_, sc_]
          rfl
        refine take_ (i := 3) (N := (some 33)) (v := ?_) (a' := ?_) #[true, true, true, true, true, true, false, false, false, false, false, false, false, false] rfl rfl (by kernel_rfl) (fun _ _ _ h => h) (Or.inl ⟨by rfl, ?_⟩) hHeld ?_ ?_
        rotate_left
        · rintro w' ⟨s0, s1, s2, s3, s4, s5, s6, s7⟩; go_simp; with_reducible rfl
        rotate_left
        · simp only [Act.put, sa_, sb_, sc_]
          rfl
        refine take_ (i := 6) (N := (some 36)) (v := ?_) (a' := ?_) #[true, true, true, true, true, true, true, false, false, false, false, false, false, false] rfl rfl (by kernel_rfl) (fun _ _ _ h => h) (Or.inl ⟨by rfl, ?_⟩) hHeld ?_ ?_
        rotate_left
        · rintro w' ⟨s0, s1, s2, s3, s4, s5, s6, s7⟩; go_simp; with_reducible rfl
        rotate_left
        · simp only [Act.put, sa_, sb_, sc_]
          rfl
        refine join_ (σ := Nat × (Option Addr × Nat) × Option Addr × Nat) 0 #[true, true, true, true, true, true, true, true, true, true, true, true, true, true] (fun ⟨g, ⟨A3, c3⟩, B3, d3⟩ => [(37, .tuple #[.agg #[.int .i64 r.v, .bool (decide (q3.num < 0)), .slice A3 (dg q3.num.natAbs).length c3, .slice B3 (dg q3.den).length d3], .bool bz]), (29, .tuple #[.agg #[.int .i64 r.v, .bool (decide (q3.num < 0)), .slice A3 (dg q3.num.natAbs).length c3, .slice B3 (dg q3.den).length d3], .bool bz]), (38, .agg #[.int .i64 r.v, .bool (decide (q3.num < 0)), .slice A3 (dg q3.num.natAbs).length c3, .slice B3 (dg q3.den).length d3]), (39, .bool bz), (11, .pointer (some ⟨g, 0, none⟩)), (12, .bool bz)]) (fun ⟨g, ⟨A3, c3⟩, B3, d3⟩ W' => w.heap.size ≤ g ∧ Fr w W' [(g, [.int .i64 r.v, .bool (decide (q3.num < 0)), .slice A3 (dg q3.num.natAbs).length c3, .slice B3 (dg q3.den).length d3])] ∧ (MC.mk r.v q3 A3 c3 B3 d3).At W' ∧ OwnF W' w.heap.size v l) ?hc0 ?hm0
        case hm0 =>
         intro hcont
         refine two_ (i := 7) (j := 11) (Ni := (some 37)) (Nj := (some 11)) #[true, true, true, true, true, true, true, true, false, false, false, false, false, false] #[true, true, true, true, true, true, true, false, false, false, false, true, false, false] rfl rfl rfl rfl (by kernel_rfl) (by decide) (by decide) (fun K hK => ?_) (fun K hK => ?_)
         · refine goesV_ Tryz.func141 (by kernel_rfl) rfl #[.agg r.cells.toArray, .agg s.cells.toArray] (by rfl) rfl rfl rfl (by (try simp only [List.map_toArray, List.map_cons, List.map_nil]); first | done | rfl) ?_
           refine (hT.out W HF.out.bel).mono ?_
           rintro e W1 ⟨A3, c3, B3, d3, rfl, q1, q3_⟩
           refine ⟨_, rfl, ?_⟩
           replace HF := Lib.hid (HF.out.below q3_)
           replace HO := Lib.hid (HO.out.below q3_)
           have Q3 := Lib.hid q1
           clear q1 q3_
           refine hK.out _ _ ⟨cell_below HF.out.bel i1, cell_below HF.out.bel i2, cell_below HF.out.bel i3, cell_below HF.out.bel i4, cell_below HF.out.bel j1, cell_below HF.out.bel j2, cell_below HF.out.bel j3, cell_below HF.out.bel j4⟩ (fun hHeld => ?_)
           clear hK K
           refine norm_ (a' := ?_) ?_ ?_
           rotate_left
           · show Act.put _ (some 37) _ = _
             simp only [Act.put, sa_, sb_, sc_]
             rfl
           refine pure_ (i := 8) (N := (some 29)) (v := ?_) (a' := ?_) #[true, true, true, true, true, true, true, true, true, false, false, false, false, false] rfl rfl (by kernel_rfl) (fun _ _ _ h => h) (Or.inl ⟨by rfl, ?_⟩) ?_ ?_
           rotate_left; · intro w'; go_simp; with_reducible rfl
           rotate_left
           · simp only [Act.put, sa_, sb_, sc_]
             rfl
           refine pure_ (i := 9) (N := (some 38)) (v := ?_) (a' := ?_) #[true, true, true, true, true, true, true, true, true, true, false, false, false, false] rfl rfl (by kernel_rfl) (fun _ _ _ h => h) (Or.inl ⟨by rfl, ?_⟩) ?_ ?_
           rotate_left; · intro w'; go_simp; with_reducible rfl
           rotate_left
           · simp only [Act.put, sa_, sb_, sc_]
             rfl
           refine pure_ (i := 10) (N := (some 39)) (v := ?_) (a' := ?_) #[true, true, true, true, true, true, true, true, true, true, true, false, false, false] rfl rfl (by kernel_rfl) (fun _ _ _ h => h) (Or.inl ⟨by rfl, ?_⟩) ?_ ?_
           rotate_left; · intro w'; go_simp; with_reducible rfl
           rotate_left
           · simp only [Act.put, sa_, sb_, sc_]
             rfl
           refine one_ (i := 11) (N := (some 11)) #[true, true, true, true, true, true, true, true, true, true, true, true, false, false] rfl rfl (by kernel_rfl) (by decide) (fun K hK => ?_)
           refine value_ (v := ?_) (w1 := ?_) (by rfl) rfl ?_ ?_
           rotate_left
           rotate_left
           · go_simp
             first | rfl | (refine ⟨?_, ?_⟩ <;> rfl)
           have hgw : w.heap.size ≤ W1.heap.size := HF.out.size
           have hne : v.ownBlock ≠ some W1.heap.size := fun h => by have := HO.out.block _ h; omega
           replace HO := Lib.hid (HO.out.below ((Below.refl _ W1).alloc (Nat.le_refl _) (.cells #[.int .i64 0, .bool false, .slice none 0 0, .slice none 0 0] 57)))
           try replace Q3 := Lib.hid (Q3.out.keep (KeepU.below ((Below.refl _ W1).alloc (Nat.le_refl _) (.cells #[.int .i64 0, .bool false, .slice none 0 0, .slice none 0 0] 57))))
           replace HF := Lib.hid (HF.out.boxEnd [.int .i64 0, .bool false, .slice none 0 0, .slice none 0 0] 57)
           refine hK.out _ _ ⟨cell_below HF.out.bel i1, cell_below HF.out.bel i2, cell_below HF.out.bel i3, cell_below HF.out.bel i4, cell_below HF.out.bel j1, cell_below HF.out.bel j2, cell_below HF.out.bel j3, cell_below HF.out.bel j4⟩ (fun hHeld => ?_)
           clear hK K
           refine norm_ (a' := ?_) ?_ ?_
           rotate_left
           · show Act.put _ (some 11) _ = _
             simp only [Act.put, sa_, sb_, sc_]
             rfl
           obtain ⟨g, hg0⟩ : ∃ g, g = W1.heap.size := ⟨_, rfl⟩
           obtain ⟨W2, hV⟩ : ∃ X, X = W1.alloc (.cells #[.int .i64 0, .bool false, .slice none 0 0, .slice none 0 0] 57) := ⟨_, rfl⟩
           rw [← hg0] at HF hgw hne ⊢
           rw [← hV] at HF HO ⊢
           try rw [← hV] at Q3
           clear hg0 hV
           refine one_ (i := 12) (N := none) #[true, true, true, true, true, true, true, true, true, true, true, true, true, false] rfl rfl (by kernel_rfl) (by decide) (fun K hK => ?_)
           have hf0 := HF.out.frozenN 0 rfl 0
           have hf1 := HF.out.frozenN 0 rfl 1
           have hf2 := HF.out.frozenN 0 rfl 2
           have hf3 := HF.out.frozenN 0 rfl 3
           have hd0 := HF.out.cellN 0 rfl 0 rfl
           have hd1 := HF.out.cellN 0 rfl 1 rfl
           have hd2 := HF.out.cellN 0 rfl 2 rfl
           have hd3 := HF.out.cellN 0 rfl 3 rfl
           refine skip_ (w1 := ?_) (by rfl) rfl ?_ ?_
           rotate_left
           · go_simp
             rfl
           have HKU := Lib.hid (KeepU.put4 (HF.out.ownN 0 rfl) (fun y hy => by simp at hy) (y1 := .int .i64 r.v) (y2 := .bool (decide (q3.num < 0))) (y3 := .slice A3 (dg q3.num.natAbs).length c3) (fun y hy => by simp at hy) (.slice B3 (dg q3.den).length d3))
           replace Q3 := Lib.hid (Q3.out.keep HKU.out)
           replace HO := Lib.hid (HO.out.put4 hne (.int .i64 r.v) (.bool (decide (q3.num < 0))) (.slice A3 (dg q3.num.natAbs).length c3) (.slice B3 (dg q3.den).length d3) HKU.out)
           replace HF := Lib.hid (HF.out.put4 0 rfl hgw (by simp) (.int .i64 r.v) (.bool (decide (q3.num < 0))) (.slice A3 (dg q3.num.natAbs).length c3) (.slice B3 (dg q3.den).length d3))
           clear HKU hf0 hf1 hf2 hf3 hd0 hd1 hd2 hd3
           refine hK.out _ _ ⟨cell_below HF.out.bel i1, cell_below HF.out.bel i2, cell_below HF.out.bel i3, cell_below HF.out.bel i4, cell_below HF.out.bel j1, cell_below HF.out.bel j2, cell_below HF.out.bel j3, cell_below HF.out.bel j4⟩ (fun hHeld => ?_)
           clear hK K
           refine pure_ (i := 13) (N := (some 12)) (v := ?_) (a' := ?_) #[true, true, true, true, true, true, true, true, true, true, true, true, true, true] rfl rfl (by kernel_rfl) (fun _ _ _ h => h) (Or.inl ⟨by rfl, ?_⟩) ?_ ?_
           rotate_left; · intro w'; go_simp; with_reducible rfl
           rotate_left
           · simp only [Act.put, sa_, sb_, sc_]
             rfl
           exact hcont (g, (A3, c3), B3, d3) _ ⟨hgw, HF.out, Q3.out, HO.out⟩
         · refine value_ (v := ?_) (w1 := ?_) (by rfl) rfl ?_ ?_
           rotate_left
           rotate_left
           · go_simp
             first | rfl | (refine ⟨?_, ?_⟩ <;> rfl)
           have hgw : w.heap.size ≤ W.heap.size := HF.out.size
           have hne : v.ownBlock ≠ some W.heap.size := fun h => by have := HO.out.block _ h; omega
           replace HO := Lib.hid (HO.out.below ((Below.refl _ W).alloc (Nat.le_refl _) (.cells #[.int .i64 0, .bool false, .slice none 0 0, .slice none 0 0] 57)))
           try replace Q3 := Lib.hid (Q3.out.keep (KeepU.below ((Below.refl _ W).alloc (Nat.le_refl _) (.cells #[.int .i64 0, .bool false, .slice none 0 0, .slice none 0 0] 57))))
           replace HF := Lib.hid (HF.out.boxEnd [.int .i64 0, .bool false, .slice none 0 0, .slice none 0 0] 57)
           refine hK.out _ _ ⟨cell_below HF.out.bel i1, cell_below HF.out.bel i2, cell_below HF.out.bel i3, cell_below HF.out.bel i4, cell_below HF.out.bel j1, cell_below HF.out.bel j2, cell_below HF.out.bel j3, cell_below HF.out.bel j4⟩ (fun hHeld => ?_)
           clear hK K
           refine norm_ (a' := ?_) ?_ ?_
           rotate_left
           · show Act.put _ (some 11) _ = _
             simp only [Act.put, sa_, sb_, sc_]
             rfl
           obtain ⟨g, hg0⟩ : ∃ g, g = W.heap.size := ⟨_, rfl⟩
           obtain ⟨W3, hV⟩ : ∃ X, X = W.alloc (.cells #[.int .i64 0, .bool false, .slice none 0 0, .slice none 0 0] 57) := ⟨_, rfl⟩
           rw [← hg0] at HF hgw hne ⊢
           rw [← hV] at HF HO ⊢
           try rw [← hV] at Q3
           clear hg0 hV
           refine one_ (i := 7) (N := (some 37)) #[true, true, true, true, true, true, true, true, false, false, false, true, false, false] rfl rfl (by kernel_rfl) (by decide) (fun K hK => ?_)
           refine goesV_ Tryz.func141 (by kernel_rfl) rfl #[.agg r.cells.toArray, .agg s.cells.toArray] (by rfl) rfl rfl rfl (by (try simp only [List.map_toArray, List.map_cons, List.map_nil]); first | done | rfl) ?_
           refine (hT.out W3 HF.out.bel).mono ?_
           rintro e W4 ⟨A3, c3, B3, d3, rfl, q1, q3_⟩
           refine ⟨_, rfl, ?_⟩
           replace HF := Lib.hid (HF.out.below q3_)
           replace HO := Lib.hid (HO.out.below q3_)
           have Q3 := Lib.hid q1
           clear q1 q3_
           refine hK.out _ _ ⟨cell_below HF.out.bel i1, cell_below HF.out.bel i2, cell_below HF.out.bel i3, cell_below HF.out.bel i4, cell_below HF.out.bel j1, cell_below HF.out.bel j2, cell_below HF.out.bel j3, cell_below HF.out.bel j4⟩ (fun hHeld => ?_)
           clear hK K
           refine norm_ (a' := ?_) ?_ ?_
           rotate_left
           · show Act.put _ (some 37) _ = _
             simp only [Act.put, sa_, sb_, sc_]
             rfl
           refine pure_ (i := 8) (N := (some 29)) (v := ?_) (a' := ?_) #[true, true, true, true, true, true, true, true, true, false, false, true, false, false] rfl rfl (by kernel_rfl) (fun _ _ _ h => h) (Or.inl ⟨by rfl, ?_⟩) ?_ ?_
           rotate_left; · intro w'; go_simp; with_reducible rfl
           rotate_left
           · simp only [Act.put, sa_, sb_, sc_]
             rfl
           refine pure_ (i := 9) (N := (some 38)) (v := ?_) (a' := ?_) #[true, true, true, true, true, true, true, true, true, true, false, true, false, false] rfl rfl (by kernel_rfl) (fun _ _ _ h => h) (Or.inl ⟨by rfl, ?_⟩) ?_ ?_
           rotate_left; · intro w'; go_simp; with_reducible rfl
           rotate_left
           · simp only [Act.put, sa_, sb_, sc_]
             rfl
           refine pure_ (i := 10) (N := (some 39)) (v := ?_) (a' := ?_) #[true, true, true, true, true, true, true, true, true, true, true, true, false, false] rfl rfl (by kernel_rfl) (fun _ _ _ h => h) (Or.inl ⟨by rfl, ?_⟩) ?_ ?_
           rotate_left; · intro w'; go_simp; with_reducible rfl
           rotate_left
           · simp only [Act.put, sa_, sb_, sc_]
             rfl
           refine one_ (i := 12) (N := none) #[true, true, true, true, true, true, true, true, true, true, true, true, true, false] rfl rfl (by kernel_rfl) (by decide) (fun K hK => ?_)
           have hf0 := HF.out.frozenN 0 rfl 0
           have hf1 := HF.out.frozenN 0 rfl 1
           have hf2 := HF.out.frozenN 0 rfl 2
           have hf3 := HF.out.frozenN 0 rfl 3
           have hd0 := HF.out.cellN 0 rfl 0 rfl
           have hd1 := HF.out.cellN 0 rfl 1 rfl
           have hd2 := HF.out.cellN 0 rfl 2 rfl
           have hd3 := HF.out.cellN 0 rfl 3 rfl
           refine skip_ (w1 := ?_) (by rfl) rfl ?_ ?_
           rotate_left
           · go_simp
             rfl
           have HKU := Lib.hid (KeepU.put4 (HF.out.ownN 0 rfl) (fun y hy => by simp at hy) (y1 := .int .i64 r.v) (y2 := .bool (decide (q3.num < 0))) (y3 := .slice A3 (dg q3.num.natAbs).length c3) (fun y hy => by simp at hy) (.slice B3 (dg q3.den).length d3))
           replace Q3 := Lib.hid (Q3.out.keep HKU.out)
           replace HO := Lib.hid (HO.out.put4 hne (.int .i64 r.v) (.bool (decide (q3.num < 0))) (.slice A3 (dg q3.num.natAbs).length c3) (.slice B3 (dg q3.den).length d3) HKU.out)
           replace HF := Lib.hid (HF.out.put4 0 rfl hgw (by simp) (.int .i64 r.v) (.bool (decide (q3.num < 0))) (.slice A3 (dg q3.num.natAbs).length c3) (.slice B3 (dg q3.den).length d3))
           clear HKU hf0 hf1 hf2 hf3 hd0 hd1 hd2 hd3
           refine hK.out _ _ ⟨cell_below HF.out.bel i1, cell_below HF.out.bel i2, cell_below HF.out.bel i3, cell_below HF.out.bel i4, cell_below HF.out.bel j1, cell_below HF.out.bel j2, cell_below HF.out.bel j3, cell_below HF.out.bel j4⟩ (fun hHeld => ?_)
           clear hK K
           refine pure_ (i := 13) (N := (some 12)) (v := ?_) (a' := ?_) #[true, true, true, true, true, true, true, true, true, true, true, true, true, true] rfl rfl (by kernel_rfl) (fun _ _ _ h => h) (Or.inl ⟨by rfl, ?_⟩) ?_ ?_
           rotate_left; · intro w'; go_simp; with_reducible rfl
           rotate_left
           · simp only [Act.put, sa_, sb_, sc_]
             rfl
           exact hcont (g, (A3, c3), B3, d3) _ ⟨hgw, HF.out, Q3.out, HO.out⟩
        rintro ⟨g, ⟨A3, c3⟩, B3, d3⟩ W ⟨hgw, hF_, q1, q2⟩
        clear hHeld
        refine norm_ (a' := ?_) ?_ ?_
        rotate_left
        · show putAll _ _ = _
          simp only [putAll, Act.put, sa_, sb_, sc_]
          rfl
        refine done_ (by kernel_rfl) ?_
        have HF := Lib.hid hF_
        have Q3 := Lib.hid q1
        have HO := Lib.hid q2
        clear hF_ q1 q2 hT i1 i2 i3 i4 j1 j2 j3 j4 hb9
        have e0 := HF.out.cellN 0 rfl 0 rfl
        have e1 := HF.out.cellN 0 rfl 1 rfl
        have e2 := HF.out.cellN 0 rfl 2 rfl
        have e3 := HF.out.cellN 0 rfl 3 rfl
        cases bz with
        | true =>
         have hne0 : q3 ≠ 0 := by have := HZ.out; simpa using this.symm
         have HM2 : Hid ((l ++ [(r.v, q3)]) ++ mg a' b' = mg a b) := by
          show _ = _
          rw [← HM.out, HMq.out, if_neg hne0]
          simp
         clear hne0 HM HMq HZ
         generalize hW2 : W = W2 at *
         clear hW2
         have hal := Lib.hid ((Below.refl _ W2).alloc (Nat.le_refl _) (.cells #[.int .i64 r.v, .bool (decide (q3.num < 0)), .slice A3 (dg q3.num.natAbs).length c3, .slice B3 (dg q3.den).length d3] 57))
         have HOa := Lib.hid (HO.out.below hal.out)
         have hown := Lib.hid (Own.mk (w := W2) (MC.mk r.v q3 A3 c3 B3 d3).cells 57)
         obtain ⟨v', w', hrun, hO', hS⟩ := push1 (t := 30) (ty := 30) Tryz.underlying30 HOa.out (Q3.out.keep (KeepU.below hal.out)) hown.out (by omega) (Nat.le_trans HF.out.bel.size (by simp))
         have HP := Lib.hid hrun
         have HO2 := Lib.hid hO'
         have HF2 := Lib.hid ((HF.out.bel.alloc HF.out.bel.size (.cells #[.int .i64 r.v, .bool (decide (q3.num < 0)), .slice A3 (dg q3.num.natAbs).length c3, .slice B3 (dg q3.den).length d3] 57)).trans hS.below)
         clear hrun hO' hS hal HOa hown HO HF Q3
         go_wp2_with (refine pushL_ rfl rfl rfl rfl HP.out ?_)
         by_cases hc1 : c' = 1
         · subst hc1
           by_cases hd1 : d' = 1
           · subst hd1
             go_quiet (fail)
             go_wp2
             all_goals
              go_roundg (a'.length + b'.length)
              case measure => omega
              case rel => exact ⟨some ad, 0, a', some bd, 0, b', v', l ++ [(r.v, q3)], by omega, rfl, rfl, rfl, by first | omega | (simp; omega), HM2, HA.out.tail1, HB.out.tail1, fun x hx y hy => HQ.out x (List.mem_cons_of_mem _ hx) y (List.mem_cons_of_mem _ hy), HO2.out.below (below_drewN (Below.refl _ _) _), below_drewN HF2.out _⟩
           · have hd2 : 1 ≠ d' := by omega
             go_quiet (fail)
             go_wp2
             all_goals
              go_roundg (a'.length + b'.length)
              case measure => omega
              case rel => exact ⟨some ad, 0, a', some (nxt bd 4), d' - 1, b', v', l ++ [(r.v, q3)], by omega, rfl, rfl, rfl, by first | omega | (simp; omega), HM2, HA.out.tail1, HB.out.tail2, fun x hx y hy => HQ.out x (List.mem_cons_of_mem _ hx) y (List.mem_cons_of_mem _ hy), HO2.out.below (below_drewN (Below.refl _ _) _), below_drewN HF2.out _⟩
         · have hc2 : 1 ≠ c' := by omega
           by_cases hd1 : d' = 1
           · subst hd1
             go_quiet (fail)
             go_wp2
             all_goals
              go_roundg (a'.length + b'.length)
              case measure => omega
              case rel => exact ⟨some (nxt ad 4), c' - 1, a', some bd, 0, b', v', l ++ [(r.v, q3)], by omega, rfl, rfl, rfl, by first | omega | (simp; omega), HM2, HA.out.tail2, HB.out.tail1, fun x hx y hy => HQ.out x (List.mem_cons_of_mem _ hx) y (List.mem_cons_of_mem _ hy), HO2.out.below (below_drewN (Below.refl _ _) _), below_drewN HF2.out _⟩
           · have hd2 : 1 ≠ d' := by omega
             go_quiet (fail)
             go_wp2
             all_goals
              go_roundg (a'.length + b'.length)
              case measure => omega
              case rel => exact ⟨some (nxt ad 4), c' - 1, a', some (nxt bd 4), d' - 1, b', v', l ++ [(r.v, q3)], by omega, rfl, rfl, rfl, by first | omega | (simp; omega), HM2, HA.out.tail2, HB.out.tail2, fun x hx y hy => HQ.out x (List.mem_cons_of_mem _ hx) y (List.mem_cons_of_mem _ hy), HO2.out.below (below_drewN (Below.refl _ _) _), below_drewN HF2.out _⟩
        | false =>
         have hze : q3 = 0 := by have := HZ.out; simpa using this.symm
         have HM2 : Hid (l ++ mg a' b' = mg a b) := by
          show _ = _
          rw [← HM.out, HMq.out, if_pos hze]
         clear hze HM HMq HZ Q3 e0 e1 e2 e3
         generalize hW2 : W = W2 at *
         clear hW2
         have HF2 := Lib.hid HF.out.bel
         clear HF
         go_wp2_with fail
         by_cases hc1 : c' = 1
         · subst hc1
           by_cases hd1 : d' = 1
           · subst hd1
             go_quiet (fail)
             go_wp2
             all_goals
              go_roundg (a'.length + b'.length)
              case measure => omega
              case rel => exact ⟨some ad, 0, a', some bd, 0, b', v, l, by omega, rfl, rfl, rfl, by first | omega | (simp; omega), HM2, HA.out.tail1, HB.out.tail1, fun x hx y hy => HQ.out x (List.mem_cons_of_mem _ hx) y (List.mem_cons_of_mem _ hy), HO.out.below (below_drewN (Below.refl _ _) _), below_drewN HF2.out _⟩
           · have hd2 : 1 ≠ d' := by omega
             go_quiet (fail)
             go_wp2
             all_goals
              go_roundg (a'.length + b'.length)
              case measure => omega
              case rel => exact ⟨some ad, 0, a', some (nxt bd 4), d' - 1, b', v, l, by omega, rfl, rfl, rfl, by first | omega | (simp; omega), HM2, HA.out.tail1, HB.out.tail2, fun x hx y hy => HQ.out x (List.mem_cons_of_mem _ hx) y (List.mem_cons_of_mem _ hy), HO.out.below (below_drewN (Below.refl _ _) _), below_drewN HF2.out _⟩
         · have hc2 : 1 ≠ c' := by omega
           by_cases hd1 : d' = 1
           · subst hd1
             go_quiet (fail)
             go_wp2
             all_goals
              go_roundg (a'.length + b'.length)
              case measure => omega
              case rel => exact ⟨some (nxt ad 4), c' - 1, a', some bd, 0, b', v, l, by omega, rfl, rfl, rfl, by first | omega | (simp; omega), HM2, HA.out.tail2, HB.out.tail1, fun x hx y hy => HQ.out x (List.mem_cons_of_mem _ hx) y (List.mem_cons_of_mem _ hy), HO.out.below (below_drewN (Below.refl _ _) _), below_drewN HF2.out _⟩
           · have hd2 : 1 ≠ d' := by omega
             go_quiet (fail)
             go_wp2
             all_goals
              go_roundg (a'.length + b'.length)
              case measure => omega
              case rel => exact ⟨some (nxt ad 4), c' - 1, a', some (nxt bd 4), d' - 1, b', v, l, by omega, rfl, rfl, rfl, by first | omega | (simp; omega), HM2, HA.out.tail2, HB.out.tail2, fun x hx y hy => HQ.out x (List.mem_cons_of_mem _ hx) y (List.mem_cons_of_mem _ hy), HO.out.below (below_drewN (Below.refl _ _) _), below_drewN HF2.out _⟩
set_option maxHeartbeats 1000000 in
theorem linear_sum (A : Option Addr) (c : Nat) (a : Frm) (B : Option Addr) (d : Nat) (b : Frm) (w : World) (ha : FIn w A c a) (hb : FIn w B d b) (hq : ∀ x ∈ a, ∀ y ∈ b, x.1 = y.1 → QL (x.2 + y.2)) (hl : a.length + b.length ≤ 274877906944) :
 Calls Tryz.prog 68 #[.slice A a.length c, .slice B b.length d] w fun e w' => ∃ v, e = .returned v ∧ OwnF w' w.heap.size v (mg a b) ∧ Below w.heap.size w w' := by
 have hM := Lib.hid (linear_merge A c a B d b w ha hb hq hl)
 clear ha hb hq
 go_enter Tryz.func68, Tryz.ntmps68
 go_wp2_with fail
 refine hM.out.mono ?_
 rintro e W1 ⟨v, rfl, h1, h2⟩
 have HO := Lib.hid h1
 have HB := Lib.hid h2
 clear h1 h2 hM
 go_wp2
 go_ret
 exact ⟨v, rfl, HO.out, HB.out⟩
theorem co_of_mem {l : Frm} (h : Nf l) {m : Int × Rat} (hm : m ∈ l) : co l m.1 = m.2 := by
 induction l with
 | nil => cases hm
 | cons a l ih =>
  rcases List.mem_cons.1 hm with rfl | h1
  · exact co_head h
  · simp only [co]
    have := h.head m h1
    rw [if_neg (by omega), ih h.tail h1]
    grind
theorem ins_length (v : Int) (q : Rat) (l : Frm) : (ins v q l).length ≤ l.length + 1 := by
 induction l with
 | nil => simp only [ins]; split <;> simp
 | cons m r ih => simp only [ins]; split <;> (try split) <;> (try split) <;> simp <;> omega
theorem nform_length (f : Frm) : (nform f).length ≤ f.length := by
 induction f with
 | nil => exact Nat.le_refl _
 | cons m r ih => have := ins_length m.1 m.2 (nform r); simp only [nform, List.length_cons]; omega
def fval (f : List (Int × RatD)) : Frm := f.map valM
theorem sz_co (f : List (Int × RatD)) (hf : ∀ m ∈ f, Good (wt m.2) m.2) (v : Int) : Sz ((f.map wtm).sum + 1) (co (fval f) v) := by
 induction f with
 | nil => exact Sz.zero
 | cons m r ih =>
  have h1 := ih fun x hx => hf x (List.mem_cons_of_mem _ hx)
  have h2 : Sz (wtm m) (if (valM m).1 = v then (valM m).2 else 0) := by
   split
   · exact (Sz.rq (hf m (List.mem_cons_self ..))).mono (wt_le m)
   · exact Sz.zero.mono (by have := wtm7 m; omega)
  refine (h2.add h1).mono ?_
  simp only [List.map_cons, List.sum_cons]
  omega
theorem sum_append (f g : List (Int × RatD)) : ((f ++ g).map wtm).sum = (f.map wtm).sum + (g.map wtm).sum := by rw [List.map_append, List.sum_append]
theorem ql_co {f : List (Int × RatD)} (hf : ∀ m ∈ f, Good (wt m.2) m.2) (hs : (f.map wtm).sum ≤ 137438953471) (v : Int) : QL (co (fval f) v) := Sz.ql ((sz_co f hf v).mono (by omega))
theorem row_take {α : Type} {d : Knd α} {w : World} {A : Option Addr} {xs : List α} (h : d.Row w A xs) (n : Nat) : d.Row w A (xs.take n) := by
 intro i hi
 rw [List.length_take] at hi
 obtain ⟨ad, cs, e, hC, hc⟩ := h i (by omega)
 exact ⟨ad, cs, e, by rw [List.getElem_take]; exact hC, hc⟩
theorem row_drop {α : Type} {d : Knd α} {w : World} {ad : Addr} {xs : List α} (h : d.Row w (some ad) xs) (n : Nat) : d.Row w (some (ad.add (n * d.sz))) (xs.drop n) := by
 intro i hi
 rw [List.length_drop] at hi
 obtain ⟨ad', cs, e, hC, hc⟩ := h (n + i) (by omega)
 cases e
 refine ⟨_, cs, rfl, by rw [List.getElem_drop]; exact hC, fun j u hu => ?_⟩
 rw [add_add, show n * d.sz + (i * d.sz + j) = (n + i) * d.sz + j by rw [Nat.add_mul]; omega]
 exact hc j u hu
theorem OwnF.one {w : World} {B : Nat} {r : MC} (h : r.At w) (hB : B ≤ w.heap.size) : OwnF (w.alloc (.cells r.cells.toArray 57)) B (.slice (some ⟨w.heap.size, 0, none⟩) 1 1) [r.vq] := by
 refine ⟨[r], rfl, ⟨rfl, .inr ⟨w.heap.size, 1, r.cells.toArray, rfl, hB, heap_alloc_new w _, Nat.le_refl _, by simp [maxLen], rfl, rfl, cells_noU r⟩⟩, fun x hx => ?_⟩
 rw [List.mem_singleton.1 hx]
 exact h.keep (KeepU.below ((Below.refl _ _).alloc (Nat.le_refl _) _))
def ToldFm (w : World) (l : Frm) (e : Ending) (w' : World) : Prop := ∃ v, e = .returned v ∧ OwnF w' w.heap.size v l ∧ Below w.heap.size w w'
structure FRaw (w : World) (A : Option Addr) (c : Nat) (f : List (Int × RatD)) : Prop where
 row : kMono.Row w A f
 cap : f.length ≤ c
 good : ∀ m ∈ f, Good (wt m.2) m.2
 sum : (f.map wtm).sum ≤ 137438953471
theorem FRaw.below {w w' : World} {A : Option Addr} {c : Nat} {f : List (Int × RatD)} (h : FRaw w A c f) (hb : Below w.heap.size w w') : FRaw w' A c f := ⟨h.row.below hb, h.cap, h.good, h.sum⟩
theorem FRaw.len {w : World} {A : Option Addr} {c : Nat} {f : List (Int × RatD)} (h : FRaw w A c f) : f.length * 7 ≤ 137438953471 := Nat.le_trans (len_le_sum f fun m _ => wtm7 m) h.sum
set_option maxHeartbeats 2000000 in
set_option maxRecDepth 100000 in
theorem linear_Norm (k : Nat) : ∀ (A : Option Addr) (c : Nat) (f : List (Int × RatD)) (w : World), f.length ≤ k → FRaw w A c f → Calls Tryz.prog 19 #[.slice A f.length c] w (ToldFm w (nform (fval f))) := by
 induction k with
 | zero =>
  intro A c f w hk h
  have : f = [] := List.eq_nil_of_length_eq_zero (by omega)
  subst this
  clear h hk
  show Calls _ _ _ _ (ToldFm w [])
  unfold ToldFm
  simp only [List.length_nil]
  go_enter Tryz.func19, Tryz.ntmps19
  go_wp2
  go_ret
  exact ⟨_, rfl, OwnF.nil _ _, Below.refl _ _⟩
 | succ k ih =>
  intro A c f w hk h
  match f, hk, h with
  | [], hk, h => exact ih A c [] w (by simp) h
  | [m], hk, h =>
   obtain ⟨ad, BB, cc, DD, dd, rfl, i1, i2, i3, i4, hq⟩ := row_mono h.row 0 (by simp)
   rw [show ad.add (0 * 4) = ad from by rw [Nat.zero_mul]; rfl] at i1 i2 i3 i4
   simp only [List.getElem_cons_zero] at i1 i2 i3 i4 hq
   have hg := h.good m (by simp)
   have hcap := h.cap
   have hsum := h.sum
   simp only [List.map_cons, List.map_nil, List.sum_cons, List.sum_nil, Nat.add_zero, List.length_cons, List.length_nil, Nat.zero_add] at hcap hsum
   have hwm := wt_le m
   have hQ1 := Lib.hid (hq.num hg)
   have hQ2 := Lib.hid (hq.den hg)
   have gn := hg.mn
   have gd := hg.md
   have hsz := Lib.hid (Sz.rq hg)
   clear h hq hg ih hk
   obtain ⟨v, ⟨sb, us⟩, es⟩ := m
   dsimp only at *
   have hS := Lib.hid (fun (W : World) (hb : Below w.heap.size w W) => ratio_Sign sb BB cc us DD dd es W (hQ1.out.below hb) (by omega) (hQ2.out.below hb) (by omega))
   have hN := Lib.hid (fun (W : World) (hb : Below w.heap.size w W) => ratio_Norm sb BB cc us DD dd es W (hQ1.out.below hb) (by omega) (hQ2.out.below hb) (by omega))
   have hnf : nform (fval [(v, (sb, us), es)]) = if rv sb us es = 0 then [] else [(v, rv sb us es)] := rfl
   rw [hnf]
   rw [show rq ((sb, us), es) = rv sb us es from rfl] at hsz
   obtain ⟨q, hq⟩ : ∃ q, q = rv sb us es := ⟨_, rfl⟩
   rw [← hq] at hS hN hsz ⊢
   have lq := hsz.out.len
   have hQL : QL q := ⟨by omega, by omega⟩
   have HF := Lib.hid (show Fr w w [] from Fr.refl w)
   clear hq hnf hQ1 hQ2 hsz
   by_cases hz : q = 0
   · subst hz
     rw [show sgn (0 : Rat).num = 0 from rfl] at hS
     rw [if_pos rfl]
     clear hN
     go_enter Tryz.func19, Tryz.ntmps19
     go_wp2_with fail
     refine (hS.out _ (Below.refl _ _)).mono ?_
     rintro e W1 ⟨rfl, hb⟩
     have HB := Lib.hid hb
     clear hb hS
     go_wp2
     go_ret
     exact ⟨_, rfl, OwnF.nil _ _, HB.out⟩
   · have hsg : (sgn q.num == 0) = false := by rw [sgn_zero]; simpa using hz
     generalize sgn q.num = sg at *
     rw [if_neg hz]
     clear hz
     go_enter Tryz.func19, Tryz.ntmps19
     go_wp2_with fail
     refine (hS.out _ (Below.refl _ _)).mono ?_
     rintro e W ⟨rfl, hb⟩
     replace HF := Lib.hid (HF.out.below hb)
     clear hb hS
     go_wp2_with fail
     have HF_ := Lib.hid HF.out.drew
     clear HF
     have HF := HF_
     clear HF_
     refine start_ (n := 12) (S := fun w' => w'.cell? (ad) = some (.int .i64 v) ∧ w'.cell? (nxt ad 1) = some (.bool sb) ∧ w'.cell? (nxt ad 2) = some (.slice BB us.length cc) ∧ w'.cell? (nxt ad 3) = some (.slice DD es.length dd)) (ds := []) #[false, false, false, false, false, false, false, false, false, false, false, false] (by kernel_rfl) rfl rfl ⟨cell_below HF.out.bel i1, cell_below HF.out.bel i2, cell_below HF.out.bel i3, cell_below HF.out.bel i4⟩ (fun hHeld => ?_)
     generalize World.drew _ = W at *
     refine pu_ (v := ?_) (a' := ?_) 0 (some 16) rfl rfl ?_ ?_ ?_
     rotate_left; · intro w'; go_simp; with_reducible rfl
     rotate_left
     · simp only [Act.put, sa_, sb_, sc_]
       rfl
     refine pu_ (v := ?_) (a' := ?_) 1 (some 17) rfl rfl ?_ ?_ ?_
     rotate_left; · intro w'; go_simp; with_reducible rfl
     rotate_left
     · simp only [Act.put, sa_, sb_, sc_]
       rfl
     refine pu_ (v := ?_) (a' := ?_) 2 (some 18) rfl rfl ?_ ?_ ?_
     rotate_left; · intro w'; go_simp; with_reducible rfl
     rotate_left
     · simp only [Act.put, sa_, sb_, sc_]
       rfl
     refine pu_ (v := ?_) (a' := ?_) 4 (some 20) rfl rfl ?_ ?_ ?_
     rotate_left; · intro w'; go_simp; with_reducible rfl
     rotate_left
     · simp only [Act.put, sa_, sb_, sc_]
       rfl
     refine pu_ (v := ?_) (a' := ?_) 5 (some 21) rfl rfl ?_ ?_ ?_
     rotate_left; · intro w'; go_simp; with_reducible rfl
     rotate_left
     · simp only [Act.put, sa_, sb_, sc_]
       rfl
     refine pu_ (v := ?_) (a' := ?_) 6 (some 22) rfl rfl ?_ ?_ ?_
     rotate_left; · intro w'; go_simp; with_reducible rfl
     rotate_left
     · simp only [Act.put, sa_, sb_, sc_]
       rfl
     refine tk_ (v := ?_) (a' := ?_) 3 (some 19) rfl rfl ?_ hHeld ?_ ?_
     rotate_left
     · rintro w' ⟨s0, s1, s2, s3⟩; go_simp; with_reducible rfl
     rotate_left
     · simp only [Act.put, sa_, sb_, sc_]
       rfl
     refine tk_ (v := ?_) (a' := ?_) 7 (some 23) rfl rfl ?_ hHeld ?_ ?_
     rotate_left
     · rintro w' ⟨s0, s1, s2, s3⟩; go_simp; with_reducible rfl
     rotate_left
     · simp only [Act.put, sa_, sb_, sc_]
       rfl
     refine on_ 8 (N := (some 24)) rfl rfl (fun K hK => ?_)
     refine goes_ Tryz.func67 (by kernel_rfl) rfl #[.agg #[.bool sb, .slice BB us.length cc, .slice DD es.length dd]] (by rfl) rfl rfl (by (try simp only [List.map_toArray, List.map_cons, List.map_nil]); first | done | rfl) ?_
     refine (hN.out W HF.out.bel).mono ?_
     rintro e W1 ⟨A2, c2, B2, d2, rfl, q1, q2, q3⟩
     refine ⟨_, rfl, ?_⟩
     replace HF := Lib.hid (HF.out.below q3)
     have Q1 := Lib.hid (InQ.mk q1 q2)
     clear q1 q2 q3
     refine hK.out _ _ ⟨cell_below HF.out.bel i1, cell_below HF.out.bel i2, cell_below HF.out.bel i3, cell_below HF.out.bel i4⟩ (fun hHeld => ?_)
     clear hK K
     refine norm_ (a' := ?_) ?_ ?_
     rotate_left
     · show Act.put _ (some 24) _ = _
       simp only [Act.put, sa_, sb_, sc_]
       rfl
     refine pu_ (v := ?_) (a' := ?_) 9 (some 25) rfl rfl ?_ ?_ ?_
     rotate_left; · intro w'; go_simp; with_reducible rfl
     rotate_left
     · simp only [Act.put, sa_, sb_, sc_]
       rfl
     refine on_ 10 (N := (some 26)) rfl rfl (fun K hK => ?_)
     refine value_ (v := ?_) (w1 := ?_) (by rfl) rfl ?_ ?_
     rotate_left
     rotate_left
     · go_simp
       first | rfl | (refine ⟨?_, ?_⟩ <;> rfl)
     have HB := Lib.hid (HF.out.bel.alloc HF.out.bel.size (.cells (MC.mk v q A2 c2 B2 d2).cells.toArray 57))
     have HO : Hid (OwnF _ w.heap.size _ _) := OwnF.one (w := W1) (r := MC.mk v q A2 c2 B2 d2) ⟨Q1.out, hQL⟩ HF.out.bel.size
     replace HF := Lib.hid (HF.out.alloc (.cells (MC.mk v q A2 c2 B2 d2).cells.toArray 57))
     refine hK.out _ _ ⟨cell_below HF.out.bel i1, cell_below HF.out.bel i2, cell_below HF.out.bel i3, cell_below HF.out.bel i4⟩ (fun hHeld => ?_)
     clear hK K
     refine norm_ (a' := ?_) ?_ ?_
     rotate_left
     · show Act.put _ (some 26) _ = _
       simp only [Act.put, sa_, sb_, sc_]
       rfl
     refine pu_ (v := ?_) (a' := ?_) 11 (some 2) rfl rfl ?_ ?_ ?_
     rotate_left; · intro w'; go_simp; with_reducible rfl
     rotate_left
     · simp only [Act.put, sa_, sb_, sc_]
       rfl
     refine done_ (by kernel_rfl) ?_
     go_wp2
     go_ret
     exact ⟨_, rfl, HO.out, HB.out⟩
  | m :: m2 :: f, hk, h =>
   have HI := Lib.hid ih
   obtain ⟨f0, hf0⟩ : ∃ f0, f0 = m :: m2 :: f := ⟨_, rfl⟩
   rw [← hf0] at h hk ⊢
   have hl2 : 2 ≤ f0.length := by rw [hf0]; simp
   have hlen := h.len
   have H := Lib.hid h
   obtain ⟨hh, hhe⟩ : ∃ hh, hh = f0.length / 2 := ⟨_, rfl⟩
   have hz : ((f0.length : Int) / 2) = (hh : Int) := by omega
   have hb0 : ((f0.length : Int) == 0) = false := by rw [beq_eq_false_iff_ne]; omega
   have hb1 : ((f0.length : Int) == 1) = false := by rw [beq_eq_false_iff_ne]; omega
   have hlz : (f0.length : Int) ≤ 137438953471 := by omega
   have hlz0 : 0 ≤ (f0.length : Int) := by omega
   have hz' : (f0.length : Int).tdiv 2 = (hh : Int) := by rw [Int.tdiv_eq_ediv_of_nonneg (by omega)]; exact hz
   have HHE := Lib.hid hhe
   have hh1 : 1 ≤ hh := by omega
   have hh2 : hh < f0.length := by omega
   clear ih h hf0 hhe
   go_enter Tryz.func19, Tryz.ntmps19
   go_wp2_with fail
   clear hb0 hb1 hz hz'
   obtain ⟨ad, rfl⟩ : ∃ ad, A = some ad := by
    obtain ⟨ad, _, _, _, _, e, _⟩ := row_mono H.out.row 0 (by omega)
    exact ⟨ad, e⟩
   have hcap := H.out.cap
   have hcne : c ≠ hh := by omega
   have hcne2 : hh ≠ c := by omega
   have hle1 : hh ≤ c := by omega
   have hle2 : hh ≤ f0.length := by omega
   have hlt : (f0.take hh).length = hh := by rw [List.length_take]; omega
   have hld : (f0.drop hh).length = f0.length - hh := List.length_drop
   have hsp : (f0.map wtm).sum = ((f0.take hh).map wtm).sum + ((f0.drop hh).map wtm).sum := by rw [← sum_append, List.take_append_drop]
   have hsm := H.out.sum
   have hF1 := Lib.hid (fun (W : World) (hb : Below w.heap.size w W) => (⟨row_take (H.out.row.below hb) hh, by rw [hlt]; omega, fun m hm => H.out.good m (List.mem_of_mem_take hm), by omega⟩ : FRaw W (some ad) c (f0.take hh)))
   have hF2 := Lib.hid (fun (W : World) (hb : Below w.heap.size w W) => (⟨row_drop (H.out.row.below hb) hh, by rw [hld]; omega, fun m hm => H.out.good m (List.mem_of_mem_drop hm), by omega⟩ : FRaw W (some (ad.add (hh * 4))) (c - hh) (f0.drop hh)))
   have hI1 := Lib.hid (fun (W : World) (hb : Below w.heap.size w W) => HI.out (some ad) c (f0.take hh) W (by omega) (hF1.out W hb))
   have hI2 := Lib.hid (fun (W : World) (hb : Below w.heap.size w W) => HI.out (some (ad.add (hh * 4))) (c - hh) (f0.drop hh) W (by omega) (hF2.out W hb))
   rw [hlt] at hI1
   rw [hld] at hI2
   have hnl1 : (nform (fval (f0.take hh))).length ≤ hh := by have := nform_length (fval (f0.take hh)); unfold fval at *; rw [List.length_map, hlt] at this; exact this
   have hnl2 : (nform (fval (f0.drop hh))).length ≤ f0.length := by have := nform_length (fval (f0.drop hh)); unfold fval at *; rw [List.length_map, hld] at this; omega
   have hqq := Lib.hid (show ∀ x ∈ nform (fval (f0.take hh)), ∀ y ∈ nform (fval (f0.drop hh)), x.1 = y.1 → QL (x.2 + y.2) from fun x hx y hy e => by
    have h1 := co_of_mem (nform_Nf _) hx
    have h2 := co_of_mem (nform_Nf _) hy
    rw [co_nform] at h1 h2
    rw [← h1, ← h2, ← e, ← co_append]
    have h3 : fval (f0.take hh) ++ fval (f0.drop hh) = fval f0 := by unfold fval; rw [← List.map_append, List.take_append_drop]
    rw [h3]
    exact ql_co H.out.good H.out.sum _)
   have hS := Lib.hid (fun (W : World) (A1 : Option Addr) (c1 : Nat) (A2 : Option Addr) (c2 : Nat) (k1 : FIn W A1 c1 (nform (fval (f0.take hh)))) (k2 : FIn W A2 c2 (nform (fval (f0.drop hh)))) => linear_sum A1 c1 _ A2 c2 _ W k1 k2 hqq.out (by omega))
   have hmg : mg (nform (fval (f0.take hh))) (nform (fval (f0.drop hh))) = nform (fval f0) := by
    rw [mg_nform]; unfold fval; rw [← List.map_append, List.take_append_drop]
   rw [hmg] at hS
   generalize nform (fval (f0.take hh)) = n1 at *
   generalize nform (fval (f0.drop hh)) = n2 at *
   generalize nform (fval f0) = n3 at *
   have HF := Lib.hid (show Fr w w [] from Fr.refl w)
   clear hlt hld hsp hsm hF1 hF2 hqq hmg hlen HI H
   have HF_ := Lib.hid HF.out.drew
   clear HF
   have HF := HF_
   clear HF_
   refine start_ (n := 10) (S := fun w' => True) (ds := []) #[false, false, false, false, false, false, false, false, false, false] (by kernel_rfl) rfl rfl trivial (fun hHeld => ?_)
   generalize World.drew _ = W at *
   refine pu_ (v := ?_) (a' := ?_) 0 (some 30) rfl rfl ?_ ?_ ?_
   rotate_left; · intro w'; go_simp; with_reducible rfl
   rotate_left
   · simp only [Act.put, sa_, sb_, sc_]
     rfl
   refine pu_ (v := ?_) (a' := ?_) 1 (some 31) rfl rfl ?_ ?_ ?_
   rotate_left; · intro w'; go_simp; with_reducible rfl
   rotate_left
   · simp only [Act.put, sa_, sb_, sc_]
     rfl
   refine pu_ (v := ?_) (a' := ?_) 2 (some 32) rfl rfl ?_ ?_ ?_
   rotate_left; · intro w'; go_simp; with_reducible rfl
   rotate_left
   · simp only [Act.put, sa_, sb_, sc_]
     rfl
   refine pu_ (v := ?_) (a' := ?_) 4 (some 34) rfl rfl ?_ ?_ ?_
   rotate_left; · intro w'; go_simp; with_reducible rfl
   rotate_left
   · simp only [Act.put, sa_, sb_, sc_]
     rfl
   refine pu_ (v := ?_) (a' := ?_) 5 (some 35) rfl rfl ?_ ?_ ?_
   rotate_left; · intro w'; go_simp; with_reducible rfl
   rotate_left
   · simp only [Act.put, sa_, sb_, sc_]
     rfl
   refine pu_ (v := ?_) (a' := ?_) 6 (some 36) rfl rfl ?_ ?_ ?_
   rotate_left; · intro w'; go_simp; with_reducible rfl
   rotate_left
   · simp only [Act.put, sa_, sb_, sc_]
     rfl
   refine on_ 3 (N := (some 33)) rfl rfl (fun K hK => ?_)
   refine goes_ Tryz.func19 (by kernel_rfl) rfl #[.slice (some ad) hh c] (by rfl) rfl rfl (by (try simp only [List.map_toArray, List.map_cons, List.map_nil]); first | done | rfl) ?_
   refine (hI1.out W HF.out.bel).mono ?_
   rintro e W1 ⟨v1, rfl, q1, q3⟩
   refine ⟨_, rfl, ?_⟩
   replace HF := Lib.hid (HF.out.below q3)
   obtain ⟨A1, c1, rfl, q4⟩ := q1.fin
   have Q1 := Lib.hid q4
   clear q1 q3 q4
   refine hK.out _ _ trivial (fun hHeld => ?_)
   clear hK K
   refine norm_ (a' := ?_) ?_ ?_
   rotate_left
   · show Act.put _ (some 33) _ = _
     simp only [Act.put, sa_, sb_, sc_]
     rfl
   refine on_ 7 (N := (some 37)) rfl rfl (fun K hK => ?_)
   refine goes_ Tryz.func19 (by kernel_rfl) rfl #[.slice (some (ad.add (hh * 4))) (f0.length - hh) (c - hh)] (by rfl) rfl rfl (by (try simp only [List.map_toArray, List.map_cons, List.map_nil]); first | done | rfl) ?_
   refine (hI2.out W1 HF.out.bel).mono ?_
   rintro e W2 ⟨v2, rfl, q1, q3⟩
   refine ⟨_, rfl, ?_⟩
   replace HF := Lib.hid (HF.out.below q3)
   replace Q1 := Lib.hid (Q1.out.below q3)
   obtain ⟨A2, c2, rfl, q4⟩ := q1.fin
   have Q2 := Lib.hid q4
   clear q1 q3 q4
   refine hK.out _ _ trivial (fun hHeld => ?_)
   clear hK K
   refine norm_ (a' := ?_) ?_ ?_
   rotate_left
   · show Act.put _ (some 37) _ = _
     simp only [Act.put, sa_, sb_, sc_]
     rfl
   refine on_ 8 (N := (some 38)) rfl rfl (fun K hK => ?_)
   refine goes_ Tryz.func68 (by kernel_rfl) rfl #[.slice A1 n1.length c1, .slice A2 n2.length c2] (by rfl) rfl rfl (by (try simp only [List.map_toArray, List.map_cons, List.map_nil]); first | done | rfl) ?_
   refine (hS.out W2 A1 c1 A2 c2 Q1.out Q2.out).mono ?_
   rintro e W3 ⟨v3, rfl, q1, q3⟩
   refine ⟨_, rfl, ?_⟩
   have HO := Lib.hid (q1.mono HF.out.size)
   replace HF := Lib.hid (HF.out.below q3)
   clear q1 q3
   refine hK.out _ _ trivial (fun hHeld => ?_)
   clear hK K
   refine norm_ (a' := ?_) ?_ ?_
   rotate_left
   · show Act.put _ (some 38) _ = _
     simp only [Act.put, sa_, sb_, sc_]
     rfl
   refine pu_ (v := ?_) (a' := ?_) 9 (some 2) rfl rfl ?_ ?_ ?_
   rotate_left; · intro w'; go_simp; with_reducible rfl
   rotate_left
   · simp only [Act.put, sa_, sb_, sc_]
     rfl
   refine done_ (by kernel_rfl) ?_
   go_wp2
   go_ret
   exact ⟨_, rfl, HO.out, HF.out.bel⟩
def Decides (w : World) (b : Bool) (e : Ending) (w' : World) : Prop := e = .returned (.bool b) ∧ Below w.heap.size w w'
theorem FIn.at_ {w : World} {A : Option Addr} {c : Nat} {l : Frm} (h : FIn w A c l) (i : Nat) (hi : i < l.length) : ∃ ad r, A = some ad ∧ MC.vq r = l[i] ∧ MC.At w r ∧ w.cell? (ad.add (i * 4)) = some (.int .i64 r.v) ∧ w.cell? (nxt (ad.add (i * 4)) 1) = some (.bool (decide (r.q.num < 0))) ∧ w.cell? (nxt (ad.add (i * 4)) 2) = some (.slice r.A (dg r.q.num.natAbs).length r.c) ∧ w.cell? (nxt (ad.add (i * 4)) 3) = some (.slice r.B (dg r.q.den).length r.d) := by
 obtain ⟨rs, h1, h2, h3⟩ := h.flat
 have hl : rs.length = l.length := by rw [← h1]; simp
 obtain ⟨ad, rfl, hc⟩ := h3 (by omega)
 refine ⟨ad, rs[i], rfl, by simp [← h1], h2 _ (List.getElem_mem _), hc _ _ (flat_at rs i 0 _ (by omega) rfl), ?_, ?_, ?_⟩ <;> rw [add_off _ _ _ (by omega)]
 · exact hc _ _ (flat_at rs i 1 _ (by omega) rfl)
 · exact hc _ _ (flat_at rs i 2 _ (by omega) rfl)
 · exact hc _ _ (flat_at rs i 3 _ (by omega) rfl)
def smul (c : Rat) (l : Frm) : Frm := l.map fun m => (m.1, c * m.2)
theorem co_smul (c : Rat) (l : Frm) (v : Int) : co (smul c l) v = c * co l v := co_scale c l v
theorem nform_smul {c : Rat} (hc : c ≠ 0) (f : Frm) : smul c (nform f) = nform (smul c f) := by
 refine nform_eq ⟨?_, fun m hm => ?_⟩ fun v => by rw [co_smul, co_smul, co_nform]
 · unfold smul
   rw [List.pairwise_map]
   exact (nform_Nf f).up
 · obtain ⟨x, hx, rfl⟩ := List.mem_map.1 hm
   have := (nform_Nf f).nz x hx
   exact fun h => (Rat.mul_eq_zero.1 h).elim hc this
theorem nform_zero (f : Frm) : nform (smul 0 f) = [] := (nform_eq Nf.nil fun v => by rw [co_smul]; simp [co]).symm
structure OwnR (w : World) (B g cap : Nat) (rs : List MC) : Prop where
 own : OwnL w B 57 4 (.slice (some ⟨g, 0, none⟩) rs.length cap) rs.length (rs.flatMap MC.cells)
 at_ : ∀ r ∈ rs, r.At w
theorem OwnL.block {w : World} {B : Nat} {e : TypeId} {sz g cap n : Nat} {xs : List Value} (h : OwnL w B e sz (.slice (some ⟨g, 0, none⟩) n cap) n xs) : B ≤ g ∧ ∃ cur, w.heap[g]? = some (.cells cur e (0, 0)) ∧ n ≤ cap ∧ cap ≤ maxLen ∧ cur.size = cap * sz ∧ cur.toList.take (n * sz) = xs ∧ NoU cur.toList := by
 rcases h.2 with ⟨h1, _⟩ | ⟨g', cap', cur, h1, h2⟩
 · cases h1
 · cases h1
   exact ⟨h2.1, cur, h2.2⟩
theorem OwnL.setCell {w : World} {B : Nat} {e : TypeId} {sz g cap n : Nat} {xs : List Value} (h : OwnL w B e sz (.slice (some ⟨g, 0, none⟩) n cap) n xs) (j : Nat) (hj : j < n * sz) {u : Value} (hu : ∀ y, Value.int .u32 y ≠ u) :
 OwnL (w.setCell ⟨g, j, none⟩ u) B e sz (.slice (some ⟨g, 0, none⟩) n cap) n (xs.set j u) ∧ KeepU w (w.setCell ⟨g, j, none⟩ u) := by
 obtain ⟨hB, cur, hg, hn, hm, hs, ht, hc⟩ := h.block
 have ho : Own w g cur.toList := ⟨e, by simpa using hg⟩
 refine ⟨⟨by rw [List.length_set]; exact h.1, .inr ⟨g, cap, (cur.toList.set j u).toArray, rfl, hB, ?_, hn, hm, by simpa using hs, ?_, ?_⟩⟩, KeepU.set ho hc j u⟩
 · simp only [World.setCell, Array.getElem?_modify, if_pos, hg]
   simp
   apply Array.ext'
   simp
 · rw [← ht]
   simp only
   rw [List.take_set]
 · exact hc.set j hu
theorem OwnR.cell {w : World} {B g cap : Nat} {rs : List MC} (h : OwnR w B g cap rs) (i : Nat) (hi : i < rs.length) (j : Nat) {u : Value} (hu : rs[i].cells[j]? = some u) : w.cell? ⟨g, i * 4 + j, none⟩ = some u := by
 obtain ⟨hB, cur, hg, hn, hm, hs, ht, hc⟩ := h.own.block
 have h1 := flat_at rs i j u hi hu
 rw [← ht, List.getElem?_take] at h1
 split at h1
 · simp [World.cell?, hg]
   simpa using h1
 · cases h1
theorem OwnR.frozen {w : World} {B g cap : Nat} {rs : List MC} (h : OwnR w B g cap rs) (j : Nat) : w.frozen? ⟨g, j, none⟩ = false := by
 obtain ⟨hB, cur, hg, _⟩ := h.own.block
 simp [World.frozen?, hg]
theorem OwnR.below {w w' : World} {B g cap : Nat} {rs : List MC} (h : OwnR w B g cap rs) (hb : Below w.heap.size w w') : OwnR w' B g cap rs := ⟨h.own.below hb, fun r hr => (h.at_ r hr).keep (KeepU.below hb)⟩
theorem OwnR.ownF {w : World} {B g cap : Nat} {rs : List MC} (h : OwnR w B g cap rs) : OwnF w B (.slice (some ⟨g, 0, none⟩) rs.length cap) (rs.map MC.vq) := ⟨rs, rfl, by rw [List.length_map]; exact h.own, h.at_⟩
theorem flat_set (rs : List MC) (i : Nat) (hi : i < rs.length) (r : MC) (hv : r.v = rs[i].v) :
 (((rs.flatMap MC.cells).set (i * 4 + 1) (.bool (decide (r.q.num < 0)))).set (i * 4 + 2) (.slice r.A (dg r.q.num.natAbs).length r.c)).set (i * 4 + 3) (.slice r.B (dg r.q.den).length r.d) = (rs.set i r).flatMap MC.cells := by
 induction rs generalizing i with
 | nil => simp at hi
 | cons a rs ih =>
  cases i with
  | zero =>
   simp only [List.flatMap_cons, List.set_cons_zero, MC.cells]
   simp at hv
   simp [hv]
  | succ i =>
   have h := ih i (by simpa using hi) (by simpa using hv)
   simp only [List.flatMap_cons, List.set_cons_succ]
   rw [← h]
   have e : ∀ (xs : List Value) (k : Nat) (u : Value), (a.cells ++ xs).set ((i + 1) * 4 + k) u = a.cells ++ xs.set (i * 4 + k) u := fun xs k u => by
    rw [List.set_append_right _ _ (by show 4 ≤ _; omega), show (i + 1) * 4 + k - a.cells.length = i * 4 + k by show _ - 4 = _; omega]
   rw [e, e, e]
theorem OwnR.put {w : World} {B g cap : Nat} {rs : List MC} (h : OwnR w B g cap rs) (i : Nat) (hi : i < rs.length) (r : MC) (hv : r.v = rs[i].v) (hr : r.At w) :
 OwnR (((w.setCell ⟨g, i * 4 + 1, none⟩ (.bool (decide (r.q.num < 0)))).setCell ⟨g, i * 4 + 2, none⟩ (.slice r.A (dg r.q.num.natAbs).length r.c)).setCell ⟨g, i * 4 + 3, none⟩ (.slice r.B (dg r.q.den).length r.d)) B g cap (rs.set i r) ∧
 KeepU w (((w.setCell ⟨g, i * 4 + 1, none⟩ (.bool (decide (r.q.num < 0)))).setCell ⟨g, i * 4 + 2, none⟩ (.slice r.A (dg r.q.num.natAbs).length r.c)).setCell ⟨g, i * 4 + 3, none⟩ (.slice r.B (dg r.q.den).length r.d)) := by
 obtain ⟨h1, k1⟩ := h.own.setCell (i * 4 + 1) (by omega) (u := .bool (decide (r.q.num < 0))) (fun y e => by cases e)
 obtain ⟨h2, k2⟩ := h1.setCell (i * 4 + 2) (by omega) (u := .slice r.A (dg r.q.num.natAbs).length r.c) (fun y e => by cases e)
 obtain ⟨h3, k3⟩ := h2.setCell (i * 4 + 3) (by omega) (u := .slice r.B (dg r.q.den).length r.d) (fun y e => by cases e)
 have hk := (k1.trans k2).trans k3
 rw [flat_set rs i hi r hv] at h3
 refine ⟨⟨by rw [List.length_set]; exact h3, fun x hx => ?_⟩, hk⟩
 rcases List.mem_or_eq_of_mem_set hx with hx | rfl
 · exact (h.at_ x hx).keep hk
 · exact hr.keep hk
theorem Fr.far {w W : World} {bs : List (Nat × List Value)} (h : Fr w W bs) {p : Addr} (hp : w.heap.size ≤ p.block) (hn : ∀ b ∈ bs, b.1 ≠ p.block) (v : Value) : Fr w (W.setCell p v) bs :=
 ⟨h.1.setCell hp v, fun b hb => (h.2 b hb).far (hn b hb) v⟩
set_option maxHeartbeats 2000000 in
set_option maxRecDepth 100000 in
theorem linear_Scale (s : Bool) (A : Option Addr) (c : Nat) (xs : List Int) (B : Option Addr) (d : Nat) (ys : List Int) (E : Option Addr) (j : Nat) (f : List (Int × RatD)) (w : World) (hn : In w A c xs) (mn : xs.length ≤ 137438953472) (hd : In w B d ys) (md : ys.length ≤ 137438953472) (hf : FRaw w E j f)
 (hq : ∀ v, QL (rv s xs ys * co (fval f) v)) :
 Calls Tryz.prog 74 #[.agg #[.bool s, .slice A xs.length c, .slice B ys.length d], .slice E f.length j] w (ToldFm w (nform (smul (rv s xs ys) (fval f)))) := by
 have hS := Lib.hid (fun (W : World) (hb : Below w.heap.size w W) => ratio_Sign s A c xs B d ys W (hn.below hb) (by omega) (hd.below hb) (by omega))
 have hN := Lib.hid (fun (W : World) (hb : Below w.heap.size w W) => linear_Norm f.length E j f W (Nat.le_refl _) (hf.below hb))
 have hM := Lib.hid (fun (W : World) (hb : Below w.heap.size w W) (r : MC) (hr : r.At W) => ratio_Mul s A c xs B d ys (decide (r.q.num < 0)) r.A r.c (dg r.q.num.natAbs) r.B r.d (dg r.q.den) W (hn.below hb) mn (hd.below hb) md hr.inq.num hr.ql.1 hr.inq.den hr.ql.2)
 simp only [rv_can] at hM
 have hlf := hf.len
 have hql := Lib.hid (show ∀ m ∈ nform (fval f), QL (rv s xs ys * m.2) from fun m hm => by
  have := co_of_mem (nform_Nf _) hm
  rw [← this, co_nform]
  exact hq _)
 have hll : (nform (fval f)).length ≤ f.length := by have := nform_length (fval f); unfold fval at *; rwa [List.length_map] at this
 obtain ⟨q, hq0⟩ : ∃ q, q = rv s xs ys := ⟨_, rfl⟩
 rw [← hq0] at hS hM hql ⊢
 clear hq0 hq hn hd hf
 have HF := Lib.hid ((Fr.refl w).box [.bool s, .slice A xs.length c, .slice B ys.length d] 43)
 by_cases hz : q = 0
 · subst hz
   rw [nform_zero]
   rw [show sgn (0 : Rat).num = 0 from rfl] at hS
   clear hN hM hql
   go_enter Tryz.func74, Tryz.ntmps74
   go_wp2_with fail
   refine (hS.out _ HF.out.bel).mono ?_
   rintro e W1 ⟨rfl, hb⟩
   replace HF := Lib.hid (HF.out.below hb)
   clear hb hS
   go_wp2
   go_ret
   exact ⟨_, rfl, OwnF.nil _ _, HF.out.bel⟩
 · have hsg : (sgn q.num == 0) = false := by rw [sgn_zero]; simpa using hz
   generalize sgn q.num = sg at *
   rw [← nform_smul hz]
   clear hz
   generalize nform (fval f) = l at *
   go_enter Tryz.func74, Tryz.ntmps74
   go_wp2_with fail
   refine (hS.out _ HF.out.bel).mono ?_
   rintro e W1 ⟨rfl, hb⟩
   replace HF := Lib.hid (HF.out.below hb)
   have hw1 := HF.out.ltN 0 rfl
   clear hb hS
   go_wp2_with fail
   refine (hN.out _ HF.out.bel).mono ?_
   rintro e W2 ⟨v, rfl, h1, hb⟩
   replace HF := Lib.hid (HF.out.below hb)
   clear hb hN
   obtain ⟨rs, hrs, hown, hat⟩ := h1
   rcases hown.2 with ⟨rfl, hl0⟩ | ⟨g, cap, cur, rfl, hgB, hrest⟩
   · have : l = [] := List.eq_nil_of_length_eq_zero hl0
     subst this
     clear hown hat hrs hM hql hl0
     go_wp2
     go_loopg [14] 0 (fun gg s14 wr => s14 = .int .i64 0 ∧ wr = W2)
     case atStart => exact ⟨rfl, rfl⟩
     case round =>
      obtain ⟨rfl, rfl⟩ := hrel
      go_wp2
      go_ret
      exact ⟨_, rfl, OwnF.nil _ _, HF.out.bel⟩
   · have hrl : rs.length = l.length := by rw [← hrs]; simp
     have HO := Lib.hid (show OwnR W2 W1.heap.size g cap rs from ⟨by rw [hrl]; exact hown, hat⟩)
     have HRS := Lib.hid hrs
     clear hown hat hrs hrest
     go_wp2
     go_loopg [14] l.length (fun gg s14 wr => ∃ (i : Nat) (ts : List MC), i + gg = l.length ∧ s14 = .int .i64 i ∧ ts.length ≤ l.length ∧ l.length ≤ ts.length ∧ Hid (ts.map MC.vq = smul q (l.take i) ++ l.drop i) ∧ Hid (OwnR wr W1.heap.size g cap ts) ∧ Hid (Fr w wr [(w.heap.size, [.bool s, .slice A xs.length c, .slice B ys.length d])]))
     case atStart => exact ⟨0, rs, by omega, rfl, by omega, by omega, by show _ = _; rw [HRS.out]; rfl, HO, HF⟩
     case round =>
      clear HO HF HRS
      obtain ⟨i, ts, hg, rfl, ht1, ht2, HT, HO, HF⟩ := hrel
      by_cases hlt : i < l.length
      · have hltz : (i : Int) < (l.length : Int) := by omega
        have hit : i < ts.length := by omega
        have hvq : (ts[i]).vq = l[i] := by
         have h1 : (ts.map MC.vq)[i]? = some (ts[i]).vq := by rw [List.getElem?_map, List.getElem?_eq_getElem hit]; rfl
         rw [HT.out, List.getElem?_append_right (by unfold smul; simp; omega)] at h1
         have h2 : i - (smul q (l.take i)).length = 0 := by unfold smul; simp; omega
         rw [h2, List.getElem?_drop, Nat.add_zero, List.getElem?_eq_getElem hlt] at h1
         exact (Option.some.inj h1).symm
        obtain ⟨r, hr⟩ : ∃ r, r = ts[i] := ⟨_, rfl⟩
        have hrm : r ∈ ts := by rw [hr]; exact List.getElem_mem _
        have hc1 := Lib.hid (fun (W : World) (h : OwnR W W1.heap.size g cap ts) => h.cell i hit 1 (u := .bool (decide (r.q.num < 0))) (by rw [← hr]; rfl))
        have hc2 := Lib.hid (fun (W : World) (h : OwnR W W1.heap.size g cap ts) => h.cell i hit 2 (u := .slice r.A (dg r.q.num.natAbs).length r.c) (by rw [← hr]; rfl))
        have hc3 := Lib.hid (fun (W : World) (h : OwnR W W1.heap.size g cap ts) => h.cell i hit 3 (u := .slice r.B (dg r.q.den).length r.d) (by rw [← hr]; rfl))
        have hAt := Lib.hid (fun (W : World) (h : OwnR W W1.heap.size g cap ts) => h.at_ r hrm)
        obtain ⟨p, hp⟩ : ∃ p, p = q * r.q := ⟨_, rfl⟩
        have hMp := Lib.hid (fun (W : World) (hb : Below w.heap.size w W) (h : r.At W) => hM.out W hb r h)
        rw [← hp] at hMp
        have hQp : QL p := by
         have := hql.out l[i] (List.getElem_mem hlt)
         rw [← hvq, ← hr] at this
         rw [hp]; exact this
        have HT2 := Lib.hid (show ∀ r3 : MC, r3.v = r.v → r3.q = p → (ts.set i r3).map MC.vq = smul q (l.take (i + 1)) ++ l.drop (i + 1) from fun r3 h1 h2 => by
         have e1 : (smul q (l.take i)).length = i := by unfold smul; simp; omega
         have e2 : r3.vq = (l[i].1, q * l[i].2) := by unfold MC.vq; rw [h1, h2, hp, ← hvq, ← hr]; rfl
         rw [List.map_set, HT.out, List.set_append_right _ _ (by omega), e1, Nat.sub_self, List.drop_eq_getElem_cons hlt, List.set_cons_zero, List.take_succ_eq_append_getElem hlt, e2]
         unfold smul
         rw [List.map_append]
         simp)
        have hrv := Lib.hid (show r.v = ts[i].v by rw [hr])
        clear hr hp hvq HT hrm
        go_wp2_with fail
        replace HO := Lib.hid (HO.out.below (Below.drew (Below.refl _ _)))
        have HF_ := Lib.hid HF.out.drew
        clear HF
        have HF := HF_
        clear HF_
        refine start_ (n := 12) (S := fun w' => w'.cell? ⟨w.heap.size, 0, none⟩ = some (.bool s) ∧ w'.cell? ⟨w.heap.size, 1, none⟩ = some (.slice A xs.length c) ∧ w'.cell? ⟨w.heap.size, 2, none⟩ = some (.slice B ys.length d) ∧ w'.cell? (⟨g, i * 4 + 1, none⟩) = some (.bool (decide (r.q.num < 0))) ∧ w'.cell? (⟨g, i * 4 + 2, none⟩) = some (.slice r.A (dg r.q.num.natAbs).length r.c) ∧ w'.cell? (⟨g, i * 4 + 3, none⟩) = some (.slice r.B (dg r.q.den).length r.d)) (ds := [11]) #[false, false, false, false, false, false, false, false, false, false, false, false] (by kernel_rfl) rfl rfl ⟨HF.out.cellN 0 rfl 0 rfl, HF.out.cellN 0 rfl 1 rfl, HF.out.cellN 0 rfl 2 rfl, hc1.out _ HO.out, hc2.out _ HO.out, hc3.out _ HO.out⟩ (fun hHeld => ?_)
        generalize World.drew _ = W at *
        refine pu_ (v := ?_) (a' := ?_) 0 (some 17) rfl rfl ?_ ?_ ?_
        rotate_left; · intro w'; go_simp; with_reducible rfl
        rotate_left
        · simp only [Act.put, sa_, sb_, sc_]
          rfl
        refine pu_ (v := ?_) (a' := ?_) 1 (some 18) rfl rfl ?_ ?_ ?_
        rotate_left; · intro w'; go_simp; with_reducible rfl
        rotate_left
        · simp only [Act.put, sa_, sb_, sc_]
          rfl
        refine pu_ (v := ?_) (a' := ?_) 3 (some 20) rfl rfl ?_ ?_ ?_
        rotate_left; · intro w'; go_simp; with_reducible rfl
        rotate_left
        · simp only [Act.put, sa_, sb_, sc_]
          rfl
        refine pu_ (v := ?_) (a' := ?_) 4 (some 21) rfl rfl ?_ ?_ ?_
        rotate_left; · intro w'; go_simp; with_reducible rfl
        rotate_left
        · simp only [Act.put, sa_, sb_, sc_]
          rfl
        refine pu_ (v := ?_) (a' := ?_) 5 (some 22) rfl rfl ?_ ?_ ?_
        rotate_left; · intro w'; go_simp; with_reducible rfl
        rotate_left
        · simp only [Act.put, sa_, sb_, sc_]
          rfl
        refine pu_ (v := ?_) (a' := ?_) 6 (some 23) rfl rfl ?_ ?_ ?_
        rotate_left; · intro w'; go_simp; with_reducible rfl
        rotate_left
        · simp only [Act.put, sa_, sb_, sc_]
          rfl
        refine tk_ (v := ?_) (a' := ?_) 2 (some 19) rfl rfl ?_ hHeld ?_ ?_
        rotate_left
        · rintro w' ⟨s0, s1, s2, s3, s4, s5⟩; go_simp; with_reducible rfl
        rotate_left
        · simp only [Act.put, sa_, sb_, sc_]
          rfl
        refine tk_ (v := ?_) (a' := ?_) 7 (some 24) rfl rfl ?_ hHeld ?_ ?_
        rotate_left
        · rintro w' ⟨s0, s1, s2, s3, s4, s5⟩; go_simp; with_reducible rfl
        rotate_left
        · simp only [Act.put, sa_, sb_, sc_]
          rfl
        refine on_ 8 (N := (some 25)) rfl rfl (fun K hK => ?_)
        refine goes_ Tryz.func143 (by kernel_rfl) rfl #[.agg #[.bool s, .slice A xs.length c, .slice B ys.length d], .agg #[.bool (decide (r.q.num < 0)), .slice r.A (dg r.q.num.natAbs).length r.c, .slice r.B (dg r.q.den).length r.d]] (by rfl) rfl rfl (by (try simp only [List.map_toArray, List.map_cons, List.map_nil]); first | done | rfl) ?_
        refine (hMp.out W HF.out.bel (hAt.out W HO.out)).mono ?_
        rintro e W1 ⟨A3, c3, B3, d3, rfl, q1, q2, q3⟩
        refine ⟨_, rfl, ?_⟩
        replace HF := Lib.hid (HF.out.below q3)
        replace HO := Lib.hid (HO.out.below q3)
        have Q3 := Lib.hid (show MC.At W1 (MC.mk r.v p A3 c3 B3 d3) from ⟨InQ.mk q1 q2, hQp⟩)
        clear q1 q2 q3
        refine hK.out _ _ ⟨HF.out.cellN 0 rfl 0 rfl, HF.out.cellN 0 rfl 1 rfl, HF.out.cellN 0 rfl 2 rfl, hc1.out _ HO.out, hc2.out _ HO.out, hc3.out _ HO.out⟩ (fun hHeld => ?_)
        clear hK K
        refine norm_ (a' := ?_) ?_ ?_
        rotate_left
        · show Act.put _ (some 25) _ = _
          simp only [Act.put, sa_, sb_, sc_]
          rfl
        refine pu_ (v := ?_) (a' := ?_) 9 (some 26) rfl rfl ?_ ?_ ?_
        rotate_left; · intro w'; go_simp; with_reducible rfl
        rotate_left
        · simp only [Act.put, sa_, sb_, sc_]
          rfl
        refine pu_ (v := ?_) (a' := ?_) 10 (some 27) rfl rfl ?_ ?_ ?_
        rotate_left; · intro w'; go_simp; with_reducible rfl
        rotate_left
        · simp only [Act.put, sa_, sb_, sc_]
          rfl
        refine ls_ 11 (N := none) rfl rfl (fun K hK => ?_)
        have hf1 := HO.out.frozen (i * 4 + 1)
        have hf2 := HO.out.frozen (i * 4 + 2)
        have hf3 := HO.out.frozen (i * 4 + 3)
        have hd1 := hc1.out _ HO.out
        have hd2 := hc2.out _ HO.out
        have hd3 := hc3.out _ HO.out
        refine skip_ (w1 := ?_) (by rfl) rfl ?_ ?_
        rotate_left
        · go_simp
          rfl
        have hgg := HO.out.own.block.1
        have HP := Lib.hid (HO.out.put i hit (MC.mk r.v p A3 c3 B3 d3) hrv.out Q3.out).1
        replace HF := Lib.hid (((HF.out.far (p := ⟨g, i * 4 + 1, none⟩) (by show w.heap.size ≤ g; omega) (by simp; omega) (.bool (decide (p.num < 0)))).far (p := ⟨g, i * 4 + 2, none⟩) (by show w.heap.size ≤ g; omega) (by simp; omega) (.slice A3 (dg p.num.natAbs).length c3)).far (p := ⟨g, i * 4 + 3, none⟩) (by show w.heap.size ≤ g; omega) (by simp; omega) (.slice B3 (dg p.den).length d3))
        replace HO := HP
        clear HP hf1 hf2 hf3 hd1 hd2 hd3
        refine hK.out _ _ ?_
        clear hK K
        refine done_ (by kernel_rfl) ?_
        go_wp2
        go_roundg (l.length - (i + 1))
        case measure => omega
        case rel => exact ⟨i + 1, ts.set i (MC.mk r.v p A3 c3 B3 d3), by omega, by go_num, by simpa using ht1, by simpa using ht2, HT2.out _ rfl rfl, HO, HF⟩
      · have hltz : ¬ (i : Int) < (l.length : Int) := by omega
        have HT2 := Lib.hid (show ts.map MC.vq = smul q l from by rw [HT.out, List.take_of_length_le (by omega), List.drop_of_length_le (by omega), List.append_nil])
        have hgg := HO.out.own.block.1
        have HE := Lib.hid (HO.out.ownF.mono (show w.heap.size ≤ W1.heap.size by omega))
        rw [HT2.out, show ts.length = l.length by omega] at HE
        clear HT HT2 HO
        go_wp2
        go_ret
        exact ⟨_, rfl, HE.out, HF.out.bel⟩
end Go.Proofs.YtidgpkccjcddgaaGreatDoor.F
