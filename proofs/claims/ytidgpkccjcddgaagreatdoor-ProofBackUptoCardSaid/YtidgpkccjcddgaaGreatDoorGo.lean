/- Sizes of texts of forms; plain law. No condition. -/
import Derived.Test.YtidgpkccjcddgaaGreatDoorGn
import Derived.Test.YtidgpkccjcddgaaGreatDoorGm
import Derived.Test.YtidgpkccjcddgaaGreatDoorGk
import Derived.Test.YtidgpkccjcddgaaGreatDoorGl
set_option linter.unusedVariables false
set_option linter.unusedSimpArgs false
namespace Go.Proofs.YtidgpkccjcddgaaGreatDoor.F
open Go.RowKit Go.Shelf
def inr (v : Int) : Prop := -9223372036854775808 ≤ v ∧ v ≤ 9223372036854775807
structure CanF (l : Frm) : Prop where
 nf : Nf l
 var : ∀ m ∈ l, inr m.1
theorem CanF.nil : CanF [] := ⟨Nf.nil, fun m h => by cases h⟩
theorem mem_ins' {v : Int} {q : Rat} {m : Int × Rat} : ∀ {l : Frm}, m ∈ ins v q l → m.1 = v ∨ ∃ x ∈ l, x.1 = m.1
 | [], h => by
  simp only [ins] at h
  split at h
  · cases h
  · rw [List.mem_singleton.1 h]; exact .inl rfl
 | a :: r, h => by
  simp only [ins] at h
  split at h
  · split at h
    · exact .inr ⟨m, h, rfl⟩
    · rcases List.mem_cons.1 h with rfl | h
      · exact .inl rfl
      · exact .inr ⟨m, h, rfl⟩
  · split at h
    · split at h
      · exact .inr ⟨m, List.mem_cons_of_mem _ h, rfl⟩
      · rcases List.mem_cons.1 h with rfl | h
        · exact .inl rfl
        · exact .inr ⟨m, List.mem_cons_of_mem _ h, rfl⟩
    · rcases List.mem_cons.1 h with rfl | h
      · exact .inr ⟨_, List.mem_cons_self, rfl⟩
      · rcases mem_ins' h with h | ⟨x, hx, e⟩
        · exact .inl h
        · exact .inr ⟨x, List.mem_cons_of_mem _ hx, e⟩
theorem mem_nform' {m : Int × Rat} : ∀ {f : Frm}, m ∈ nform f → ∃ x ∈ f, x.1 = m.1
 | [], h => by cases h
 | a :: r, h => by
  rcases mem_ins' (show m ∈ ins a.1 a.2 (nform r) from h) with e | ⟨x, hx, e⟩
  · exact ⟨a, List.mem_cons_self, e.symm⟩
  · obtain ⟨y, hy, e2⟩ := mem_nform' hx
    exact ⟨y, List.mem_cons_of_mem _ hy, e2.trans e⟩
theorem CanF.of {f : Frm} (h : ∀ m ∈ f, inr m.1) : CanF (nform f) := ⟨nform_Nf f, fun m hm => by
 obtain ⟨x, hx, e⟩ := mem_nform' hm
 rw [← e]; exact h x hx⟩
theorem mf_len' (l : Frm) : l.length ≤ mf l := by
 induction l with
 | nil => exact Nat.zero_le _
 | cons m r ih => rw [mf_cons, List.length_cons]; omega
theorem mf_mem' {l : Frm} {m : Int × Rat} (h : m ∈ l) : mu m.2 + 1 ≤ mf l := by
 induction l with
 | nil => cases h
 | cons a r ih =>
  rw [mf_cons]
  rcases List.mem_cons.1 h with rfl | h
  · omega
  · have := ih h; omega
theorem tq_len (q : Rat) : (tq q).length ≤ 20 * mu q + 4 := by
 obtain ⟨h1, h2⟩ := mu_len q
 have h3 := dg_texts h1
 have h4 := dg_texts h2
 have h5 := itoa_len q.num
 unfold tq
 rw [List.length_append]
 split
 · rw [List.length_nil]; omega
 · rw [List.length_cons]; omega
theorem itoa_len21 {v : Int} (h : inr v) : (Lib.itoa v).length ≤ 22 := by
 have h2 : (dg v.natAbs).length ≤ 2 := dg_length_le (by show _ < (4294967296 : Int) ^ 2; unfold inr at h; omega)
 have h3 := dg_texts h2
 have h5 := itoa_len v
 omega
theorem tt_len {m : Int × Rat} (h : inr m.1) : (tt m).length + 1 ≤ 20 * (mu m.2) + 29 := by
 have h1 := tq_len m.2
 have h2 := itoa_len21 h
 unfold tt
 rw [List.length_append, List.length_cons, List.length_cons]
 omega
theorem join_sum (c : UInt8) : ∀ l : List (List UInt8), (joinC c l).length ≤ (l.map fun x => x.length + 1).sum
 | [] => Nat.le_refl _
 | [x] => by simp [joinC]
 | x :: y :: r => by
  have ih := join_sum c (y :: r)
  rw [joinC_cons c (by simp), List.length_append, List.length_cons, List.map_cons, List.sum_cons]
  omega
theorem join_mf {l : Frm} (h : ∀ m ∈ l, inr m.1) : (joinC 43 (l.map tt)).length ≤ 48 * mf l := by
 refine Nat.le_trans (join_sum _ _) ?_
 induction l with
 | nil => exact Nat.zero_le _
 | cons m r ih =>
  have h1 := tt_len (h m List.mem_cons_self)
  have h2 := ih fun x hx => h x (List.mem_cons_of_mem _ hx)
  have h3 := mu_pos m.2
  rw [mf_cons]
  simp only [List.map_cons, List.sum_cons] at h2 ⊢
  omega
theorem TxOk.of {l : Frm} (h : ∀ m ∈ l, inr m.1) (hs : mf l ≤ 549755813) : TxOk l where
 var := fun m hm => h m hm
 num := fun m hm => by
  have h1 := mf_mem' hm
  obtain ⟨h2, h3⟩ := mu_len m.2
  exact ⟨by omega, by omega⟩
 len := by have := join_mf h; omega
 few := by have := mf_len' l; omega
theorem tf_len {l : Frm} (h : ∀ m ∈ l, inr m.1) : (tf l).length ≤ 48 * mf l + 1 := by
 unfold tf
 split
 · simp
 · have := join_mf h; omega
set_option maxHeartbeats 1000000 in
theorem sl_EqualB (A : Option Addr) (c : Nat) (B : Option Addr) (d : Nat) (xs ys : List Int) (w : World) (h : In w A c xs) (k : In w B d ys) (hm : xs.length ≤ 1099511627776) (km : ys.length ≤ 1099511627776) :
 Calls Tryz.prog 285 #[.slice A xs.length c, .slice B ys.length d] w (fun e w' => e = .returned (.bool (decide (xs = ys))) ∧ Below w.heap.size w w') := by
 have hc := h.cap
 have kc := k.cap
 have H1 := Lib.hid h.row
 have K1 := Lib.hid k.row
 clear h k
 by_cases hl : xs.length = ys.length
 · have HL := Lib.hid hl
   have hlz : ((xs.length : Int) == (ys.length : Int)) = true := by rw [beq_iff_eq]; omega
   have hle : ys.length ≤ xs.length := by omega
   have hle' : xs.length ≤ ys.length := by omega
   clear hl
   go_enter Tryz.func285, Tryz.ntmps285
   go_wp2
   go_loopg [13] xs.length (fun gg s13 wr => ∃ i : Nat, i + gg = xs.length ∧ s13 = .int .i64 i ∧ Hid (xs.take i = ys.take i) ∧ ∃ n, wr = w.drewN n)
   case atStart => exact ⟨0, by omega, rfl, by show _ = _; simp, 0, rfl⟩
   case round =>
    obtain ⟨i, hg, rfl, HT, n, rfl⟩ := hrel
    by_cases hlt : i < xs.length
    · have hltz : (i : Int) < (xs.length : Int) := by omega
      have hlty : (i : Int) < (ys.length : Int) := by omega
      have HT2 := Lib.hid (show xs[i]'hlt = ys[i]'(by omega) → xs.take (i + 1) = ys.take (i + 1) from fun e => by
       rw [List.take_succ_eq_append_getElem hlt, List.take_succ_eq_append_getElem (by omega), HT.out, e])
      have HN := Lib.hid (show xs[i]'hlt ≠ ys[i]'(by omega) → xs ≠ ys from fun e h => e (by subst h; rfl))
      obtain ⟨ad, rfl, hcell⟩ := Knd.at_int H1.out i hlt
      obtain ⟨bd, rfl, hcell2⟩ := Knd.at_int K1.out i (by omega)
      generalize xs[i] = x at *
      generalize ys[i]'(by omega) = y at *
      by_cases he : x = y
      · have HT3 := Lib.hid (HT2.out he)
        subst he
        clear HT HT2 HN hlz
        go_wp2
        go_quiet (fail)
        go_wp2
        go_roundg (xs.length - (i + 1))
        case measure => omega
        case rel => exact ⟨i + 1, by omega, by go_num, HT3, _, rfl⟩
      · have HBB := Lib.hid (show decide (xs = ys) = false from decide_eq_false (HN.out he))
        have heb : (x == y) = false := by rw [beq_eq_false_iff_ne]; exact he
        clear HT HT2 HN hlz
        go_wp2
        go_quiet (fail)
        go_wp2
        go_ret
        exact ⟨ret_bool HBB.out.symm, below_drewN (below_drewN (Below.refl _ _) _) _⟩
    · have hltz : ¬ (i : Int) < (xs.length : Int) := by omega
      have HBB := Lib.hid (show decide (xs = ys) = true from decide_eq_true (by
       have := HT.out
       rwa [List.take_of_length_le (by omega), List.take_of_length_le (by omega)] at this))
      clear HT hlz
      go_wp2
      go_ret
      exact ⟨ret_bool HBB.out.symm, below_drewN (Below.refl _ _) n⟩
 · have hb : decide (xs = ys) = false := decide_eq_false fun h => hl (by rw [h])
   rw [hb]
   have hlz : ((xs.length : Int) == (ys.length : Int)) = false := by rw [beq_eq_false_iff_ne]; omega
   clear hl hb
   go_enter Tryz.func285, Tryz.ntmps285
   go_wp2
   go_ret
   exact ⟨rfl, Below.refl _ _⟩
def rvD (x : RatD) (B : Option Addr) (c : Nat) (D : Option Addr) (d : Nat) : Value := .agg #[.bool x.1.1, .slice B x.1.2.length c, .slice D x.2.length d]
structure InD (w : World) (x : RatD) (B : Option Addr) (c : Nat) (D : Option Addr) (d : Nat) : Prop where
 num : In w B c x.1.2
 den : In w D d x.2
theorem InD.below {w W : World} {x : RatD} {B : Option Addr} {c : Nat} {D : Option Addr} {d : Nat} (h : InD w x B c D d) (hb : Below w.heap.size w W) : InD W x B c D d := ⟨h.num.below hb, h.den.below hb⟩
theorem ratD_eq (x y : RatD) : decide (x = y) = (decide (x.1.1 = y.1.1) && decide (x.1.2 = y.1.2) && decide (x.2 = y.2)) := by
 obtain ⟨⟨a, b⟩, c⟩ := x
 obtain ⟨⟨a', b'⟩, c'⟩ := y
 rw [Bool.eq_iff_iff]
 simp only [Bool.and_eq_true, decide_eq_true_eq, Prod.mk.injEq]
set_option maxHeartbeats 1000000 in
set_option maxRecDepth 100000 in
theorem at_sameRat (x y : RatD) (B : Option Addr) (c : Nat) (D : Option Addr) (d : Nat) (B' : Option Addr) (c' : Nat) (D' : Option Addr) (d' : Nat) (w : World) (h : InD w x B c D d) (k : InD w y B' c' D' d') (h1 : x.1.2.length ≤ 1099511627776) (h2 : x.2.length ≤ 1099511627776) (k1 : y.1.2.length ≤ 1099511627776) (k2 : y.2.length ≤ 1099511627776) :
 Calls Tryz.prog 265 #[rvD x B c D d, rvD y B' c' D' d'] w (Decides w (decide (x = y))) := by
 have hS := Lib.hid (fun (W : World) (hb : Below w.heap.size w W) => sl_EqualB B c B' c' x.1.2 y.1.2 W (h.num.below hb) (k.num.below hb) h1 k1)
 have hD := Lib.hid (fun (W : World) (hb : Below w.heap.size w W) => sl_EqualB D d D' d' x.2 y.2 W (h.den.below hb) (k.den.below hb) h2 k2)
 clear h k h1 h2 k1 k2
 rw [ratD_eq]
 unfold rvD
 obtain ⟨⟨s, xs⟩, ys⟩ := x
 obtain ⟨⟨t, us⟩, vs⟩ := y
 dsimp only at hS hD ⊢
 have HF := Lib.hid (((Fr.refl w).box [.bool s, .slice B xs.length c, .slice D ys.length d] 43).box [.bool t, .slice B' us.length c', .slice D' vs.length d'] 43)
 have hsz : (w.alloc (.cells [Value.bool s, .slice B xs.length c, .slice D ys.length d].toArray 43)).heap.size = w.heap.size + 1 := by simp
 rw [hsz] at HF
 clear hsz
 generalize decide (xs = us) = b1 at *
 generalize decide (ys = vs) = b2 at *
 by_cases hst : s = t
 · subst hst
   rw [show decide (s = s) = true by simp, Bool.true_and]
   generalize xs.length = n1 at *
   generalize us.length = n2 at *
   generalize ys.length = n3 at *
   generalize vs.length = n4 at *
   go_enter Tryz.func265, Tryz.ntmps265
   go_wp2_with fail
   refine (hS.out _ HF.out.bel).mono ?_
   rintro e W1 ⟨rfl, hb⟩
   replace HF := Lib.hid (HF.out.below hb)
   clear hb hS
   cases b1 with
   | true =>
    have hc0 := HF.out.cellN 1 rfl 2 rfl
    have hc1 := HF.out.cellN 0 rfl 2 rfl
    go_wp2_with fail
    refine (hD.out _ HF.out.bel).mono ?_
    rintro e W2 ⟨rfl, hb⟩
    replace HF := Lib.hid (HF.out.below hb)
    clear hb hc0 hc1
    go_wp2
    go_ret
    exact ⟨rfl, HF.out.bel⟩
   | false =>
    go_wp2
    go_ret
    exact ⟨rfl, HF.out.bel⟩
 · have hsb : (s == t) = false := by rw [beq_eq_false_iff_ne]; exact hst
   rw [decide_eq_false hst, Bool.false_and, Bool.false_and]
   clear hst hS hD
   go_enter Tryz.func265, Tryz.ntmps265
   go_wp2
   go_ret
   exact ⟨rfl, HF.out.bel⟩
open Go.Proofs.YtidgpkccjcddgaaGreatDoorW.PrintLast
theorem FRaw.good' {w : World} {A : Option Addr} {c : Nat} {f : List (Int × RatD)} (h : FRaw w A c f) (i : Nat) (hi : i < f.length) : Good 137438953471 f[i].2 :=
 (h.good _ (List.getElem_mem hi)).mono (by have h1 : wtm f[i] ≤ (f.map wtm).sum := le_sum (List.getElem_mem hi); have h2 := wt_le f[i]; have := h.sum; omega)
theorem mono_eq (v u : Int) (x y : RatD) : decide ((v, x) = (u, y)) = (decide (v = u) && decide (x = y)) := by
 rw [Bool.eq_iff_iff]
 simp only [Bool.and_eq_true, decide_eq_true_eq, Prod.mk.injEq]
theorem below_alloc2 {w W : World} {b1 b2 : _} (h : Below w.heap.size w W) : Below w.heap.size w ((W.alloc b1).alloc b2) :=
 (h.alloc h.size b1).alloc (Nat.le_trans h.size (by simp)) b2
set_option maxHeartbeats 2000000 in
set_option maxRecDepth 100000 in
theorem same_fn (v u : Int) (x y : RatD) (B1 : Option Addr) (c1 : Nat) (D1 : Option Addr) (d1 : Nat) (B2 : Option Addr) (c2 : Nat) (D2 : Option Addr) (d2 : Nat) (w : World) (h : InD w x B1 c1 D1 d1) (k : InD w y B2 c2 D2 d2) (h1 : x.1.2.length ≤ 1099511627776) (h2 : x.2.length ≤ 1099511627776) (k1 : y.1.2.length ≤ 1099511627776) (k2 : y.2.length ≤ 1099511627776) :
 Calls Tryz.prog 287 #[.agg #[.int .i64 v, .bool x.1.1, .slice B1 x.1.2.length c1, .slice D1 x.2.length d1], .agg #[.int .i64 u, .bool y.1.1, .slice B2 y.1.2.length c2, .slice D2 y.2.length d2]] w (Decides w (decide ((v, x) = (u, y)))) := by
 have hSR := Lib.hid (fun (W : World) (hb : Below w.heap.size w W) => at_sameRat x y B1 c1 D1 d1 B2 c2 D2 d2 W (h.below hb) (k.below hb) h1 h2 k1 k2)
 clear h k h1 h2 k1 k2
 rw [mono_eq]
 unfold rvD at hSR
 obtain ⟨⟨s1, us⟩, es⟩ := x
 obtain ⟨⟨s2, ws⟩, hs⟩ := y
 dsimp only at hSR ⊢
 have HF := Lib.hid (((Fr.refl w).box [.int .i64 v, .bool s1, .slice B1 us.length c1, .slice D1 es.length d1] 57).box [.int .i64 u, .bool s2, .slice B2 ws.length c2, .slice D2 hs.length d2] 57)
 have hsz : (w.alloc (.cells [Value.int .i64 v, .bool s1, .slice B1 us.length c1, .slice D1 es.length d1].toArray 57)).heap.size = w.heap.size + 1 := by simp
 rw [hsz] at HF
 clear hsz
 generalize decide ((((s1, us), es) : RatD) = ((s2, ws), hs)) = b at *
 generalize us.length = n1 at *
 generalize es.length = n2 at *
 generalize ws.length = n3 at *
 generalize hs.length = n4 at *
 by_cases hv : v = u
 · have hvb : (v == u) = true := by rw [beq_iff_eq]; exact hv
   rw [decide_eq_true hv, Bool.true_and]
   clear hv
   go_enter Tryz.func287, Tryz.ntmps287
   go_wp2_with fail
   refine (hSR.out _ HF.out.bel).mono ?_
   rintro e W1 ⟨rfl, hb⟩
   replace HF := Lib.hid (HF.out.below hb)
   clear hb hSR
   go_wp2
   go_ret
   exact ⟨rfl, HF.out.bel⟩
 · have hvb : (v == u) = false := by rw [beq_eq_false_iff_ne]; exact hv
   rw [decide_eq_false hv, Bool.false_and]
   clear hv hSR
   go_enter Tryz.func287, Tryz.ntmps287
   go_wp2
   go_ret
   exact ⟨rfl, HF.out.bel⟩
set_option maxHeartbeats 2000000 in
set_option maxRecDepth 100000 in
theorem equal_fn (A : Option Addr) (c : Nat) (B : Option Addr) (d : Nat) (f g : List (Int × RatD)) (w : World) (h : FRaw w A c f) (k : FRaw w B d g) :
 Calls Tryz.prog 286 #[.slice A f.length c, .slice B g.length d, .func (.func 287) #[] #[]] w (Decides w (decide (f = g))) := by
 have hc := h.cap
 have kc := k.cap
 have hl := h.len
 have kl := k.len
 have H := Lib.hid h
 have K := Lib.hid k
 clear h k
 by_cases hlen : f.length = g.length
 · have HL := Lib.hid hlen
   have hlz : ((f.length : Int) == (g.length : Int)) = true := by rw [beq_iff_eq]; omega
   have hlb : ((f.length : Int) != (g.length : Int)) = false := by rw [bne, hlz]; rfl
   have hle : g.length ≤ f.length := by omega
   have hle' : f.length ≤ g.length := by omega
   clear hlen
   go_enter Tryz.func286, Tryz.ntmps286
   go_wp2
   go_loopg [17] f.length (fun gg s5 wr => ∃ i : Nat, i + gg = f.length ∧ s5 = .int .i64 i ∧ Hid (f.take i = g.take i) ∧ Hid (Below w.heap.size w wr))
   case atStart => exact ⟨0, by omega, rfl, by show _ = _; simp, Below.refl _ _⟩
   case round =>
    obtain ⟨i, hg, rfl, HT, HB⟩ := hrel
    by_cases hlt : i < f.length
    · have hltz : (i : Int) < (f.length : Int) := by omega
      have hlty : (i : Int) < (g.length : Int) := by omega
      obtain ⟨ad, B1, c1, D1, d1, rfl, i1, i2, i3, i4, hq⟩ := row_mono H.out.row i hlt
      obtain ⟨bd, B2, c2, D2, d2, rfl, j1, j2, j3, j4, kq⟩ := row_mono K.out.row i (by omega)
      have gm := H.out.good' i hlt
      have km := K.out.good' i (by omega)
      have HT2 := Lib.hid (show f[i]'hlt = g[i]'(by omega) → f.take (i + 1) = g.take (i + 1) from fun e => by
       rw [List.take_succ_eq_append_getElem hlt, List.take_succ_eq_append_getElem (by omega), HT.out, e])
      have HN := Lib.hid (show f[i]'hlt ≠ g[i]'(by omega) → decide (f = g) = false from fun e => decide_eq_false fun h => e (by subst h; rfl))
      generalize f[i] = m at *
      generalize g[i]'(by omega) = m' at *
      obtain ⟨v, ⟨s1, us⟩, es⟩ := m
      obtain ⟨u, ⟨s2, ws⟩, hs⟩ := m'
      have hSR := Lib.hid (fun (W : World) (hb : Below w.heap.size w W) => same_fn v u ((s1, us), es) ((s2, ws), hs) B1 c1 D1 d1 B2 c2 D2 d2 W ⟨(hq.num gm).below hb, (hq.den gm).below hb⟩ ⟨(kq.num km).below hb, (kq.den km).below hb⟩ (by have := gm.mn; dsimp only at *; omega) (by have := gm.md; dsimp only at *; omega) (by have := km.mn; dsimp only at *; omega) (by have := km.md; dsimp only at *; omega))
      obtain ⟨b, hbq⟩ : ∃ b, b = decide (((v, (s1, us), es) : Int × RatD) = (u, (s2, ws), hs)) := ⟨_, rfl⟩
      rw [← hbq] at hSR
      have HBQ := Lib.hid hbq
      replace i1 := cell_below HB.out i1
      replace i2 := cell_below HB.out i2
      replace i3 := cell_below HB.out i3
      replace i4 := cell_below HB.out i4
      dsimp only at *
      clear hq kq gm km hbq hlz HT
      generalize us.length = n1 at *
      generalize es.length = n2 at *
      generalize ws.length = n3 at *
      generalize hs.length = n4 at *
      have hal := Lib.hid (HB.out.alloc HB.out.size (.cells #[.int .i64 v, .bool s1, .slice B1 n1 c1, .slice D1 n2 d1] 57))
      replace j1 := cell_below hal.out j1
      replace j2 := cell_below hal.out j2
      replace j3 := cell_below hal.out j3
      replace j4 := cell_below hal.out j4
      clear hal
      go_wp2_with fail
      refine (hSR.out _ (below_alloc2 HB.out)).mono ?_
      rintro e W1 ⟨rfl, hb⟩
      replace HB := Lib.hid ((below_alloc2 HB.out).trans (hb.mono (below_alloc2 HB.out).size))
      clear hb hSR i1 i2 i3 i4 j1 j2 j3 j4
      cases b with
      | true =>
       have HT3 := Lib.hid (HT2.out (by have := HBQ.out; simpa using this.symm))
       clear HT2 HN HBQ
       go_wp2
       go_roundg (f.length - (i + 1))
       case measure => omega
       case rel => exact ⟨i + 1, by omega, by go_num, HT3, HB.out⟩
      | false =>
       have HT3 := Lib.hid (HN.out (by have := HBQ.out; simpa using this.symm))
       clear HT2 HN HBQ
       go_wp2
       go_ret
       exact ⟨ret_bool HT3.out.symm, HB.out⟩
    · have hltz : ¬ (i : Int) < (f.length : Int) := by omega
      have HT3 := Lib.hid (show decide (f = g) = true from decide_eq_true (by
       have := HT.out
       rwa [List.take_of_length_le (by omega), List.take_of_length_le (by omega)] at this))
      clear HT hlz
      go_wp2
      go_ret
      exact ⟨ret_bool HT3.out.symm, HB.out⟩
 · have hb : decide (f = g) = false := decide_eq_false fun h => hlen (by rw [h])
   rw [hb]
   have hlz : ((f.length : Int) == (g.length : Int)) = false := by rw [beq_eq_false_iff_ne]; omega
   clear hlen hb
   go_enter Tryz.func286, Tryz.ntmps286
   go_wp2
   go_ret
   exact ⟨rfl, Below.refl _ _⟩
set_option maxHeartbeats 1000000 in
theorem at_sameForm (A : Option Addr) (c : Nat) (B : Option Addr) (d : Nat) (f g : List (Int × RatD)) (w : World) (h : FRaw w A c f) (k : FRaw w B d g) :
 Calls Tryz.prog 266 #[.slice A f.length c, .slice B g.length d] w (Decides w (decide (f = g))) := by
 have hE := Lib.hid (equal_fn A c B d f g w h k)
 generalize decide (f = g) = b at *
 clear h k
 go_enter Tryz.func266, Tryz.ntmps266
 go_wp2_with fail
 refine hE.out.mono ?_
 rintro e W ⟨rfl, hb⟩
 have HB := Lib.hid hb
 clear hb hE
 go_wp2
 go_ret
 exact ⟨rfl, HB.out⟩
end Go.Proofs.YtidgpkccjcddgaaGreatDoor.F
