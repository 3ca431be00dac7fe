import Derived.Test.YtchdoignomidjaaSix
/- Forms as they are handed in, appended: rows of terms whose numbers are as they are; the walks of ref06.Add and Sub, linear.Sub. -/
set_option linter.unusedVariables false
set_option linter.unusedSimpArgs false
namespace Go.Proofs.Ytchdoignomidjaa.F
open Go.RowKit Go.Shelf Go.Proofs.YtchdoignomidjaaW.PrintLast

/-- a term in cells, as it is handed in -/
structure RC where
  v : Int
  s : Bool
  A : Option Addr
  c : Nat
  xs : List Int
  B : Option Addr
  d : Nat
  ys : List Int
def RC.cells (r : RC) : List Value := [.int .i64 r.v, .bool r.s, .slice r.A r.xs.length r.c, .slice r.B r.ys.length r.d]
def RC.val (r : RC) : Int × RatD := (r.v, (r.s, r.xs), r.ys)
structure RC.At (w : World) (r : RC) : Prop where
  lies : LiesQ w ((r.s, r.xs), r.ys) r.A r.c r.B r.d
  nx : r.xs.length ≤ 9223372036854775807
  ny : r.ys.length ≤ 9223372036854775807
theorem RC.At.keep {w w' : World} {r : RC} (h : r.At w) (hk : KeepU w w') : r.At w' := ⟨⟨h.lies.1, h.lies.2.1, h.lies.2.2.1.keep hk, h.lies.2.2.2.keep hk⟩, h.nx, h.ny⟩

theorem rflat_at (rs : List RC) (i j : Nat) (u : Value) (h : i < rs.length) (hu : rs[i].cells[j]? = some u) : (rs.flatMap RC.cells)[i * 4 + j]? = some u := by
  induction rs generalizing i with
  | nil => simp at h
  | cons r rs ih =>
    rw [List.flatMap_cons]
    cases i with
    | zero =>
      rw [Nat.zero_mul, Nat.zero_add, List.getElem?_append_left]
      · exact hu
      · exact (List.getElem?_eq_some_iff.1 hu).1
    | succ i =>
      rw [List.getElem?_append_right (by show 4 ≤ _; omega)]
      rw [show (i + 1) * 4 + j - r.cells.length = i * 4 + j by show _ - 4 = _; omega]
      exact ih i (by simpa using h) (by simpa using hu)
theorem rflat_len (rs : List RC) : (rs.flatMap RC.cells).length = rs.length * 4 := by
  induction rs with
  | nil => rfl
  | cons r rs ih => rw [List.flatMap_cons, List.length_append, ih, List.length_cons, show r.cells.length = 4 from rfl]; omega
theorem rflat_get (rs : List RC) (k : Nat) (u : Value) (hu : (rs.flatMap RC.cells)[k]? = some u) : ∃ (i j : Nat) (h : i < rs.length), k = i * 4 + j ∧ rs[i].cells[j]? = some u := by
  have hk := (List.getElem?_eq_some_iff.1 hu).1
  rw [rflat_len] at hk
  have hi : k / 4 < rs.length := by omega
  have hj : k % 4 < rs[k / 4].cells.length := by show _ < 4; omega
  refine ⟨k / 4, k % 4, hi, by omega, ?_⟩
  have := rflat_at rs (k / 4) (k % 4) _ hi (List.getElem?_eq_getElem hj)
  rw [show k / 4 * 4 + k % 4 = k by omega, hu] at this
  rw [List.getElem?_eq_getElem hj, ← this]
theorem rcells_noU (r : RC) : NoU r.cells := fun y hy => by
  simp [RC.cells] at hy
theorem rflat_noU (rs : List RC) : NoU (rs.flatMap RC.cells) := fun y hy => by
  obtain ⟨r, _, h⟩ := List.mem_flatMap.1 hy
  exact rcells_noU r y h
theorem rflat_one (rs : List RC) : ∀ u ∈ rs.flatMap RC.cells, u.oneCell' = true := fun u hu => by
  obtain ⟨r, _, h⟩ := List.mem_flatMap.1 hu
  simp only [RC.cells, List.mem_cons, List.not_mem_nil, or_false] at h
  rcases h with rfl | rfl | rfl | rfl <;> rfl

theorem kMono_rc {w : World} {r : RC} (h : r.At w) : kMono.C w r.val r.cells :=
  ⟨[_], [_, _, _], rfl, rfl, [_, _], [_], rfl, ⟨[_], [_], rfl, rfl, r.A, r.c, rfl, h.lies.1, h.nx, h.lies.2.2.1⟩, r.B, r.d, rfl, h.lies.2.1, h.ny, h.lies.2.2.2⟩
theorem row_raw {w : World} {A : Option Addr} {rs : List RC} {f : List (Int × RatD)} (hl : rs.map RC.val = f) (hr : ∀ r ∈ rs, r.At w) (hc : 0 < f.length → ∃ ad, A = some ad ∧ ∀ j u, (rs.flatMap RC.cells)[j]? = some u → w.cell? (ad.add j) = some u) : kMono.Row w A f := by
  subst hl
  intro i hi
  have hi' : i < rs.length := by simpa using hi
  obtain ⟨ad, rfl, h⟩ := hc (by simp; omega)
  refine ⟨ad, rs[i].cells, rfl, ?_, fun j u hu => h _ u (rflat_at rs i j u hi' hu)⟩
  simp only [List.getElem_map]
  exact kMono_rc (hr _ (List.getElem_mem hi'))
theorem raw_flat {w : World} {A : Option Addr} {f : List (Int × RatD)} (h : kMono.Row w A f) (hg : ∀ m ∈ f, m.2.1.2.length ≤ 9223372036854775807 ∧ m.2.2.length ≤ 9223372036854775807) : ∃ rs : List RC, rs.map RC.val = f ∧ (∀ r ∈ rs, r.At w) ∧ (0 < f.length → ∃ ad, A = some ad ∧ ∀ j u, (rs.flatMap RC.cells)[j]? = some u → w.cell? (ad.add j) = some u) := by
  have each : ∀ i, (hi : i < f.length) → ∃ r : RC, r.val = f[i] ∧ r.At w ∧ ∃ ad, A = some ad ∧ ∀ j u, r.cells[j]? = some u → w.cell? (ad.add (i * 4 + j)) = some u := by
    intro i hi
    obtain ⟨ad, cs, e, hC, hc⟩ := h i hi
    obtain ⟨c1, c2, rfl, h1, h2⟩ := hC
    have h1' : c1 = [.int .i64 (f[i]).1] := h1
    subst h1'
    obtain ⟨B, c, D, d, rfl, hq⟩ := kRat_cells h2
    have hm := hg _ (List.getElem_mem hi)
    exact ⟨⟨(f[i]).1, (f[i]).2.1.1, B, c, (f[i]).2.1.2, D, d, (f[i]).2.2⟩, rfl, ⟨hq, hm.1, hm.2⟩, ad, e, hc⟩
  have : ∃ rs : List RC, rs.length = f.length ∧ ∀ i (h : i < rs.length) (h' : i < f.length), (rs[i]).val = f[i] ∧ (rs[i]).At w ∧ ∃ ad, A = some ad ∧ ∀ j u, (rs[i]).cells[j]? = some u → w.cell? (ad.add (i * 4 + j)) = some u := by
    refine ⟨(List.range f.length).attach.map fun i => (each i.1 (List.mem_range.1 i.2)).choose, by simp, fun i hi hi' => ?_⟩
    simp only [List.getElem_map, List.getElem_attach, List.getElem_range]
    exact (each i hi').choose_spec
  obtain ⟨rs, hl, hx⟩ := this
  refine ⟨rs, List.ext_getElem (by simpa using hl) fun i h1 h2 => ?_, fun r hr => ?_, fun h0 => ?_⟩
  · simp only [List.getElem_map]
    exact (hx i (by simpa using h1) h2).1
  · obtain ⟨i, hi, rfl⟩ := List.getElem_of_mem hr
    exact (hx i hi (by omega)).2.1
  · obtain ⟨_, _, ad, rfl, _⟩ := hx 0 (by omega) h0
    refine ⟨ad, rfl, fun k u hu => ?_⟩
    obtain ⟨i, j, hi, rfl, hj⟩ := rflat_get rs k u hu
    obtain ⟨_, _, ad', e, hc⟩ := hx i hi (by omega)
    cases e
    exact hc j u hj

/-- terms as they were handed in, in a row of the call's own -/
def OwnW (w : World) (B : Nat) (v : Value) (f : List (Int × RatD)) : Prop := ∃ rs : List RC, rs.map RC.val = f ∧ OwnL w B 75 4 v f.length (rs.flatMap RC.cells) ∧ ∀ r ∈ rs, r.At w
theorem OwnW.nil (w : World) (B : Nat) : OwnW w B (.slice none 0 0) [] := ⟨[], rfl, OwnL.nil _ _ _ _, fun r h => by cases h⟩
theorem OwnW.fin {w : World} {B : Nat} {v : Value} {f : List (Int × RatD)} (h : OwnW w B v f) : ∃ A c, v = .slice A f.length c ∧ kMono.Row w A f ∧ f.length ≤ c := by
  obtain ⟨rs, h1, h2, h3⟩ := h
  obtain ⟨A, c, rfl, hc, _, h4⟩ := h2.form
  exact ⟨A, c, rfl, row_raw h1 h3 h4, hc⟩
theorem pushW {w : World} {B : Nat} {t ty : TypeId} {v : Value} {f g : List (Int × RatD)} {A : Option Addr} {c : Nat} (ht : Try.prog.underlying t = some (.slice 75)) (h : OwnW w B v f) (k : kMono.Row w A g) (hg : ∀ m ∈ g, m.2.1.2.length ≤ 9223372036854775807 ∧ m.2.2.length ≤ 9223372036854775807) (hl : f.length + g.length ≤ 1099511627776) (hB : B ≤ w.heap.size) :
    ∃ v' w', (Builtin.append_ #[t, t] ty #[v, .slice A g.length c]).run Try.prog w = .ok v' w' ∧ OwnW w' B v' (f ++ g) ∧ Soft B v w w' := by
  obtain ⟨rs, h1, h2, h3⟩ := h
  obtain ⟨ss, k1, k2, k3⟩ := raw_flat k hg
  have e1 : f.length = rs.length := by rw [← h1]; simp
  have e2 : g.length = ss.length := by rw [← k1]; simp
  obtain ⟨v', w', h4, h5, h6⟩ := push_any (ty := ty) (c := c) ht (z := .agg #[.int .i64 0, .bool false, .slice none 0 0, .slice none 0 0]) (sz := 4) (bytes := 64) (by kernel_rfl) (by rfl) h2 (by rw [rflat_len, e2]) k3 (rflat_one ss) (rflat_noU ss) (by intro y hy; simp [Value.cells] at hy) (by simp only [maxLen]; omega) (by omega) hB
  refine ⟨v', w', h4, ⟨rs ++ ss, by rw [List.map_append, h1, k1], ?_, fun r hr => ?_⟩, h6⟩
  · rw [List.flatMap_append, List.length_append]; exact h5
  · rcases List.mem_append.1 hr with hr | hr
    · exact (h3 r hr).keep h6.keep
    · exact (k2 r hr).keep h6.keep
theorem fval_append (f g : List (Int × RatD)) : fval (f ++ g) = fval f ++ fval g := by unfold fval; rw [List.map_append]
theorem nform_app (f g : Frm) : nform (f ++ nform g) = nform (f ++ g) := (nform_eq (nform_Nf _) fun v => by rw [co_nform, co_append, co_append, co_nform])
theorem FRaw.small {w : World} {A : Option Addr} {c : Nat} {f : List (Int × RatD)} (h : FRaw w A c f) : ∀ m ∈ f, m.2.1.2.length ≤ 9223372036854775807 ∧ m.2.2.length ≤ 9223372036854775807 := fun m hm => by
  have h1 := (h.good m hm).mn
  have h2 := (h.good m hm).md
  have h3 : wtm m ≤ (f.map wtm).sum := le_sum hm
  have h4 := wt_le m
  have h5 := h.sum
  omega

set_option maxHeartbeats 1000000 in
set_option maxRecDepth 100000 in
theorem r6_Add (A : Option Addr) (c : Nat) (f : List (Int × RatD)) (B : Option Addr) (d : Nat) (g : List (Int × RatD)) (w : World) (hf : FRaw w A c f) (hg : FRaw w B d g) (hs : (f.map wtm).sum + (g.map wtm).sum ≤ 137438953471) :
    Calls Try.prog 39 #[.slice A f.length c, .slice B g.length d] w (ToldFm w (nform (fval f ++ fval g))) := by
  have hlf := hf.len
  have hlg := hg.len
  obtain ⟨v1, W1, hp1, ho1, hs1⟩ := pushW (t := 23) (ty := 23) (c := c) Try.underlying23 (OwnW.nil w w.heap.size) hf.row hf.small (by simp; omega) (Nat.le_refl _)
  rw [List.nil_append] at ho1
  have hw1 := hs1.below.size
  obtain ⟨v2, W2, hp2, ho2, hs2⟩ := pushW (t := 23) (ty := 23) (c := d) Try.underlying23 ho1 (hg.row.below hs1.below) hg.small (by omega) hw1
  have HB := Lib.hid (hs1.below.trans hs2.below)
  have hw2 := HB.out.size
  obtain ⟨A2, c2, rfl, hr2, hc2⟩ := ho2.fin
  have hN := Lib.hid (r6_Norm A2 c2 (f ++ g) W2 ⟨hr2, hc2, fun m hm => by
    rcases List.mem_append.1 hm with hm | hm
    · exact hf.good m hm
    · exact hg.good m hm, by rw [List.map_append, List.sum_append]; omega⟩)
  rw [fval_append] at hN
  generalize f ++ g = fg at *
  clear hf hg hs ho1 ho2 hs1 hs2 hr2
  generalize nform (fval f ++ fval g) = l at *
  go_enter Try.func39, Try.ntmps39
  have HP1 := Lib.hid hp1
  have HP2 := Lib.hid hp2
  clear hp1 hp2
  go_wp2_with (first | (refine pushL_ rfl rfl rfl rfl HP1.out ?_; clear HP1) | (refine pushL_ rfl rfl rfl rfl HP2.out ?_; clear HP2))
  refine hN.out.mono ?_
  rintro e W3 ⟨v, rfl, h1, h2⟩
  have HO := Lib.hid (h1.mono hw2)
  replace HB := Lib.hid (HB.out.trans (h2.mono hw2))
  clear h1 h2 hN
  go_wp2
  go_ret
  exact ⟨_, rfl, HO.out, HB.out⟩

/-- the form less so many times another -/
theorem smul_len2 (q : Rat) (g : List (Int × RatD)) : (nform (smul q (fval g))).length ≤ g.length := by have := nform_len (smul q (fval g)); rwa [smul_length, fval_length] at this

set_option maxHeartbeats 1000000 in
set_option maxRecDepth 100000 in
theorem r6_Sub (A : Option Addr) (c : Nat) (f : List (Int × RatD)) (B : Option Addr) (d : Nat) (g : List (Int × RatD)) (w : World) (hf : FRaw w A c f) (hg : FRaw w B d g) (hs : (f.map wtm).sum + 2 * mf (fval g) + 7 * g.length ≤ 137438953470) :
    Calls Try.prog 40 #[.slice A f.length c, .slice B g.length d] w (ToldFm w (nform (fval f ++ smul (-1) (fval g)))) := by
  have hlf := hf.len
  have hlg := hg.len
  obtain ⟨q, hq⟩ : ∃ q : Rat, q = -1 := ⟨_, rfl⟩
  have hW := Lib.hid (r3_Whole (-1) w (by omega) (by omega))
  rw [show (((-1 : Int)) : Rat) = -1 from rfl, ← hq] at hW
  have hmu : mu q ≤ 1 := by rw [hq]; exact mu_int (n := -1) (by decide)
  have hmf := mf_smul q (fval g)
  rw [fval_length] at hmf
  have hmn := mf_nform (smul q (fval g))
  have hml : g.length * mu q ≤ g.length * 1 := Nat.mul_le_mul_left _ hmu
  have hll := smul_len2 q g
  have hqn := mu_len q
  have hS := Lib.hid (fun (W : World) (hb : Below w.heap.size w W) (A1 : Option Addr) (c1 : Nat) (B1 : Option Addr) (d1 : Nat) (k1 : In W A1 c1 (dg q.num.natAbs)) (k2 : In W B1 d1 (dg q.den)) => r6_Scale (decide (q.num < 0)) A1 c1 _ B1 d1 _ B d g W k1 (by omega) k2 (by omega) (hg.below hb) (by rw [rv_can]; omega))
  simp only [rv_can] at hS
  have hA := Lib.hid (show ∀ (W : World) (A1 : Option Addr) (c1 : Nat), Below w.heap.size w W → FIn W A1 c1 (nform (smul q (fval g))) → Calls Try.prog 39 #[.slice A f.length c, .slice A1 (nform (smul q (fval g))).length c1] W (ToldFm W (nform (fval f ++ smul q (fval g)))) from fun W A1 c1 hb k => by
    have h1 := wtm_can (nform (smul q (fval g)))
    have h2 := r6_Add A c f A1 c1 _ W (hf.below hb) (k.raw (by omega)) (by omega)
    rw [fval_can, nform_app, List.length_map] at h2
    exact h2)
  rw [← hq]
  clear hf hg hs hq hmu hmf hml hmn
  generalize nform (fval f ++ smul q (fval g)) = l at *
  generalize nform (smul q (fval g)) = m at *
  go_enter Try.func40, Try.ntmps40
  go_wp2_with fail
  refine hW.out.mono ?_
  rintro e W1 ⟨A1, c1, B1, d1, rfl, q1, q2, q3⟩
  have HB := Lib.hid q3
  have Q1 := Lib.hid q1
  have Q2 := Lib.hid q2
  clear q1 q2 q3 hW
  go_wp2_with fail
  refine (hS.out W1 HB.out A1 c1 B1 d1 Q1.out Q2.out).mono ?_
  rintro e W2 ⟨v, rfl, h1, h2⟩
  obtain ⟨A2, c2, rfl, h3⟩ := h1.fin
  have Q := Lib.hid h3
  replace HB := Lib.hid (HB.out.trans (h2.mono HB.out.size))
  clear h1 h2 h3 hS Q1 Q2
  go_wp2_with fail
  refine (hA.out W2 A2 c2 HB.out Q.out).mono ?_
  rintro e W3 ⟨v, rfl, h1, h2⟩
  have HO := Lib.hid (h1.mono HB.out.size)
  replace HB := Lib.hid (HB.out.trans (h2.mono HB.out.size))
  clear h1 h2 hA
  go_wp2
  go_ret
  exact ⟨_, rfl, HO.out, HB.out⟩

set_option maxHeartbeats 1000000 in
set_option maxRecDepth 100000 in
theorem linear_Sub (A : Option Addr) (c : Nat) (f : List (Int × RatD)) (B : Option Addr) (d : Nat) (g : List (Int × RatD)) (w : World) (hf : FRaw w A c f) (hg : FRaw w B d g) (hs : (f.map wtm).sum + 2 * mf (fval g) + 7 * g.length ≤ 137438953470) :
    Calls Try.prog 28 #[.slice A f.length c, .slice B g.length d] w (ToldFm w (nform (fval f ++ smul (-1) (fval g)))) := by
  have hlf := hf.len
  have hlg := hg.len
  obtain ⟨q, hq⟩ : ∃ q : Rat, q = -1 := ⟨_, rfl⟩
  have hW := Lib.hid (ratio_Whole (-1) w (by omega) (by omega))
  rw [show (((-1 : Int)) : Rat) = -1 from rfl, ← hq] at hW
  have hmu : mu q ≤ 1 := by rw [hq]; exact mu_int (n := -1) (by decide)
  have hmf := mf_smul q (fval g)
  rw [fval_length] at hmf
  have hmn := mf_nform (smul q (fval g))
  have hml : g.length * mu q ≤ g.length * 1 := Nat.mul_le_mul_left _ hmu
  have hll := smul_len2 q g
  have hqn := mu_len q
  have hS := Lib.hid (fun (W : World) (hb : Below w.heap.size w W) (A1 : Option Addr) (c1 : Nat) (B1 : Option Addr) (d1 : Nat) (k1 : In W A1 c1 (dg q.num.natAbs)) (k2 : In W B1 d1 (dg q.den)) => linear_Scale (decide (q.num < 0)) A1 c1 _ B1 d1 _ B d g W k1 (by omega) k2 (by omega) (hg.below hb) (fun v => by
    rw [rv_can]
    have h1 := mu_mul q (co (fval g) v)
    have h2 := mu_co (fval g) v
    exact mu_ql (by omega)))
  simp only [rv_can] at hS
  have hA := Lib.hid (show ∀ (W : World) (A1 : Option Addr) (c1 : Nat), Below w.heap.size w W → FIn W A1 c1 (nform (smul q (fval g))) → Calls Try.prog 27 #[.slice A f.length c, .slice A1 (nform (smul q (fval g))).length c1] W (ToldFm W (nform (fval f ++ smul q (fval g)))) from fun W A1 c1 hb k => by
    have h1 := wtm_can (nform (smul q (fval g)))
    have h2 := linear_Add A c f A1 c1 _ W (hf.below hb) (k.raw (by omega)) (by omega)
    rw [fval_can, nform_app, List.length_map] at h2
    exact h2)
  rw [← hq]
  clear hf hg hs hq hmu hmf hml hmn
  generalize nform (fval f ++ smul q (fval g)) = l at *
  generalize nform (smul q (fval g)) = m at *
  go_enter Try.func28, Try.ntmps28
  go_wp2_with fail
  refine hW.out.mono ?_
  rintro e W1 ⟨A1, c1, B1, d1, rfl, q1, q2, q3⟩
  have HB := Lib.hid q3
  have Q1 := Lib.hid q1
  have Q2 := Lib.hid q2
  clear q1 q2 q3 hW
  go_wp2_with fail
  refine (hS.out W1 HB.out A1 c1 B1 d1 Q1.out Q2.out).mono ?_
  rintro e W2 ⟨v, rfl, h1, h2⟩
  obtain ⟨A2, c2, rfl, h3⟩ := h1.fin
  have Q := Lib.hid h3
  replace HB := Lib.hid (HB.out.trans (h2.mono HB.out.size))
  clear h1 h2 h3 hS Q1 Q2
  go_wp2_with fail
  refine (hA.out W2 A2 c2 HB.out Q.out).mono ?_
  rintro e W3 ⟨v, rfl, h1, h2⟩
  have HO := Lib.hid (h1.mono HB.out.size)
  replace HB := Lib.hid (HB.out.trans (h2.mono HB.out.size))
  clear h1 h2 hA
  go_wp2
  go_ret
  exact ⟨_, rfl, HO.out, HB.out⟩
end Go.Proofs.Ytchdoignomidjaa.F
