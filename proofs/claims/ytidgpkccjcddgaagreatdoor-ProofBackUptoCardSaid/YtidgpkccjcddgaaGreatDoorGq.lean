/- Plain law: the content of a list of fractions in lowest terms. No program in sight. -/
import Derived.Test.YtidgpkccjcddgaaGreatDoorGp
set_option linter.unusedVariables false
set_option linter.unusedSimpArgs false
namespace Go.Proofs.YtidgpkccjcddgaaGreatDoor.F
def gcds (l : List Nat) : Nat := l.foldl Nat.gcd 0
def lcms (l : List Nat) : Nat := l.foldl Nat.lcm 1
theorem gcds_snoc (l : List Nat) (x : Nat) : gcds (l ++ [x]) = Nat.gcd (gcds l) x := by simp [gcds]
theorem lcms_snoc (l : List Nat) (x : Nat) : lcms (l ++ [x]) = Nat.lcm (lcms l) x := by simp [lcms]
theorem lcms_pos {l : List Nat} (h : ∀ x ∈ l, 0 < x) : 0 < lcms l := by
 have : ∀ (a : Nat), 0 < a → 0 < l.foldl Nat.lcm a := by
  induction l with
  | nil => intro a ha; exact ha
  | cons x l ih => intro a ha; exact ih (fun y hy => h y (List.mem_cons_of_mem _ hy)) _ (Nat.lcm_pos ha (h x (List.mem_cons_self ..)))
 exact this 1 (by omega)
open Go.RowKit Go.Shelf Go.Proofs.YtidgpkccjcddgaaGreatDoorW.PrintLast
theorem gcdN (A : Option Addr) (c a : Nat) (B : Option Addr) (d b : Nat) (w : World) (h : In w A c (dg a)) (hm : (dg a).length ≤ 549755813888) (k : In w B d (dg b)) (km : (dg b).length ≤ 549755813888) :
 Calls Tryz.prog 149 #[.slice A (dg a).length c, .slice B (dg b).length d] w (ToldN w (Nat.gcd a b)) := by
 have e := nat_Gcd A c _ B d _ w h.row h.lim h.cap hm k.row k.lim k.cap km
 rw [Vn, Vn, Int.toNat_natCast, Int.toNat_natCast] at e
 exact e.mono fun e w' h => h.nat
theorem mulNn (A : Option Addr) (c a : Nat) (B : Option Addr) (d b : Nat) (w : World) (h : In w A c (dg a)) (hm : (dg a).length ≤ 549755813888) (k : In w B d (dg b)) (km : (dg b).length ≤ 549755813888) :
 Calls Tryz.prog 151 #[.slice A (dg a).length c, .slice B (dg b).length d] w (ToldN w (a * b)) := by
 have e := nat_Mul A c _ B d _ w h.row h.lim h.cap hm k.row k.lim k.cap km
 rw [Vn, Vn, ← Int.natCast_mul] at e
 exact e.mono fun e w' h => h.nat
theorem divN (A : Option Addr) (c a : Nat) (B : Option Addr) (d b : Nat) (w : World) (h : In w A c (dg a)) (hm : (dg a).length ≤ 549755813888) (k : In w B d (dg b)) (km : (dg b).length ≤ 549755813888) (hb : 0 < b) :
 Calls Tryz.prog 150 #[.slice A (dg a).length c, .slice B (dg b).length d] w (ToldD w a b) := by
 have e := nat_Div A c _ B d _ w h.row h.lim h.cap hm k.row k.lim k.cap km (by rw [Vn]; omega)
 rw [Vn, Vn] at e
 refine e.mono fun e w' h => ?_
 obtain ⟨A, c, B, d, h1, h2, h3, h4, h5, h6⟩ := h
 rw [← Int.natCast_ediv, Int.toNat_natCast, modn] at h1
 rw [← Int.natCast_ediv, Int.toNat_natCast] at h2 h4
 rw [modn] at h3 h5
 exact ⟨A, c, B, d, h1, In.dg h4 h2, In.dg h5 h3, h6⟩
def nus (n : Frm) : List Nat := n.map fun m => m.2.num.natAbs
def des (n : Frm) : List Nat := n.map fun m => m.2.den
def top (n : Frm) : Nat := gcds (nus n)
def bot (n : Frm) : Nat := lcms (des n)
def pc (n : Frm) : Rat := match n with
 | [] => 1
 | m :: _ => rv (decide (sgn m.2.num < 0)) (dg (top n)) (dg (bot n))
theorem top_succ (n : Frm) (i : Nat) (h : i < n.length) : top (n.take (i + 1)) = Nat.gcd (top (n.take i)) n[i].2.num.natAbs := by
 unfold top nus
 rw [List.take_succ_eq_append_getElem h, List.map_append]
 exact gcds_snoc _ _
theorem bot_succ (n : Frm) (i : Nat) (h : i < n.length) : bot (n.take (i + 1)) = Nat.lcm (bot (n.take i)) n[i].2.den := by
 unfold bot des
 rw [List.take_succ_eq_append_getElem h, List.map_append]
 exact lcms_snoc _ _
theorem bot_pos (n : Frm) : 0 < bot n := lcms_pos fun x hx => by
 obtain ⟨m, _, rfl⟩ := List.mem_map.1 hx
 exact m.2.den_pos
theorem foldl_gcd_dvd (l : List Nat) (a : Nat) : l.foldl Nat.gcd a ∣ a := by
 induction l generalizing a with
 | nil => exact Nat.dvd_refl _
 | cons x l ih => exact Nat.dvd_trans (ih (Nat.gcd a x)) (Nat.gcd_dvd_left a x)
theorem gcds_dvd {l : List Nat} {x : Nat} (h : x ∈ l) : gcds l ∣ x := by
 unfold gcds
 generalize 0 = a
 induction l generalizing a with
 | nil => cases h
 | cons y l ih =>
  rcases List.mem_cons.1 h with rfl | h
  · exact Nat.dvd_trans (foldl_gcd_dvd l (Nat.gcd a x)) (Nat.gcd_dvd_right a x)
  · exact ih h (Nat.gcd a y)
theorem gcds_bound {l : List Nat} {k : Nat} (h : ∀ x ∈ l, 0 < x ∧ (x : Int) < Bp k) : (dg (gcds l)).length ≤ k := by
 cases l with
 | nil => show (dg 0).length ≤ k; rw [dg_zero]; exact Nat.zero_le _
 | cons x l =>
  have h1 := h x (List.mem_cons_self ..)
  have h2 : gcds (x :: l) ≤ x := Nat.le_of_dvd h1.1 (gcds_dvd (List.mem_cons_self ..))
  exact dg_length_le (by omega)
theorem num_ne {q : Rat} (h : q ≠ 0) : 0 < q.num.natAbs := by
 have : q.num ≠ 0 := fun e => h (Rat.num_eq_zero.1 e)
 omega
theorem num_bp (q : Rat) : (q.num.natAbs : Int) < Bp (mu q) ∧ (q.den : Int) < Bp (mu q) := by
 have h := sz_mu q
 unfold Sz at h
 exact ⟨by omega, by omega⟩
theorem mu_mem {n : Frm} {m : Int × Rat} (h : m ∈ n) : mu m.2 + 1 ≤ mf n := le_sum (g := fun m : Int × Rat => mu m.2 + 1) h
theorem top_len {n : Frm} (h : Nf n) : (dg (top n)).length ≤ mf n := gcds_bound fun x hx => by
 obtain ⟨m, hm, rfl⟩ := List.mem_map.1 hx
 exact ⟨num_ne (h.nz m hm), Int.lt_of_lt_of_le (num_bp m.2).1 (Bp_le (by have := mu_mem hm; omega))⟩
theorem bot_bp (n : Frm) : (bot n : Int) ≤ Bp (mf n - n.length) := by
 have key : ∀ (n : Frm) (a k : Nat), (a : Int) ≤ Bp k → (((des n).foldl Nat.lcm a : Nat) : Int) ≤ Bp (k + (mf n - n.length)) ∧ n.length ≤ mf n := by
  intro n
  induction n with
  | nil => intro a k h; exact ⟨h, Nat.le_refl _⟩
  | cons m n ih =>
   intro a k h
   have hd := (num_bp m.2).2
   have h1 : ((Nat.lcm a m.2.den : Nat) : Int) ≤ Bp (k + mu m.2) := by
    have e1 : Nat.lcm a m.2.den ≤ a * m.2.den := by unfold Nat.lcm; exact Nat.div_le_self _ _
    have e2 : (a : Int) * m.2.den ≤ Bp k * Bp (mu m.2) := Int.mul_le_mul h (by omega) (by omega) (Int.le_of_lt (Bp_pos k))
    rw [Bp_add]
    have e3 : ((Nat.lcm a m.2.den : Nat) : Int) ≤ ((a * m.2.den : Nat) : Int) := by omega
    rw [Int.natCast_mul] at e3
    omega
   obtain ⟨h2, h3⟩ := ih _ _ h1
   rw [mf_cons, List.length_cons]
   refine ⟨?_, by omega⟩
   rw [show k + (mu m.2 + 1 + mf n - (n.length + 1)) = k + mu m.2 + (mf n - n.length) by omega]
   exact h2
 have h := (key n 1 0 (by show (1 : Int) ≤ 1; omega)).1
 rw [Nat.zero_add] at h
 exact h
theorem bot_len (n : Frm) : (dg (bot n)).length + n.length ≤ mf n + 1 := by
 have h := bot_bp n
 have h2 : n.length ≤ mf n := by have := mf_len n; omega
 have h3 : (bot n : Int) < Bp (mf n - n.length + 1) := by
  have : Bp (mf n - n.length) < Bp (mf n - n.length + 1) := by
   rw [Bp_add]
   have := Bp_pos (mf n - n.length)
   show _ < _ * (4294967296 : Int) ^ 1
   omega
  omega
 have := dg_length_le h3
 omega
theorem prod_le6 {n V : Nat} (h : 6 * n + V ≤ 1048580) : n * V ≤ 45813334017 := by
 have h1 : ((6 * n + V : Nat) : Int) * ((6 * n + V : Nat) : Int) ≤ 1048580 * 1048580 := Int.mul_le_mul (by omega) (by omega) (by omega) (by omega)
 have h2 : 0 ≤ (6 * (n : Int) - V) * (6 * (n : Int) - V) := by
  rcases Int.le_total 0 (6 * (n : Int) - V) with h3 | h3
  · exact Int.mul_nonneg h3 h3
  · exact Int.mul_nonneg_of_nonpos_of_nonpos h3 h3
 have h3 : ((6 * n + V : Nat) : Int) * ((6 * n + V : Nat) : Int) = (6 * (n : Int) - V) * (6 * (n : Int) - V) + 24 * ((n : Int) * V) := by push_cast; grind
 have h4 : ((n * V : Nat) : Int) = (n : Int) * V := by push_cast; rfl
 omega
theorem q_div (q : Rat) : (q.num : Rat) / (q.den : Rat) = q := by rw [← Rat.mkRat_eq_div, Rat.mkRat_self]
theorem den_ne (q : Rat) : (q.den : Rat) ≠ 0 := by
 intro e
 have e2 : ((q.den : Int) : Rat) = ((0 : Int) : Rat) := e
 have := Rat.intCast_inj.1 e2
 have := q.den_pos
 omega
theorem mu_quot {q : Rat} {z : Int} (hz : z ≠ 0) (h : z ∣ q.num) : mu (q / (z : Rat)) ≤ mu q := by
 obtain ⟨k, hk⟩ := h
 have hz' : (z : Rat) ≠ 0 := fun e => hz (Rat.intCast_inj.1 e)
 have e : q / (z : Rat) = mkRat k q.den := by
  have h1 := q_div q
  have h2 := den_ne q
  rw [hk, Rat.intCast_mul] at h1
  rw [Rat.mkRat_eq_div]
  generalize (q.den : Rat) = d at *
  generalize (k : Rat) = k' at *
  generalize (z : Rat) = z' at *
  rw [← h1]
  grind
 rw [e]
 refine mu_le.2 ?_
 have h3 := mkRat_le k q.den q.den_nz
 have h4 := sz_mu q
 unfold Sz at h4 ⊢
 have h5 : k.natAbs ≤ q.num.natAbs := by
  rw [hk, Int.natAbs_mul]
  exact Nat.le_mul_of_pos_left _ (by omega)
 omega
theorem mu_nat (b : Nat) : mu ((b : Int) : Rat) ≤ (dg b).length + 1 := by
 refine mu_le.2 ?_
 unfold Sz
 rw [Rat.num_intCast, Rat.den_intCast, Int.natAbs_natCast]
 have h := dg_lt b
 rw [Bp_add]
 show (b : Int) + ((1 : Nat) : Int) < _ * (4294967296 : Int) ^ 1
 have := Bp_pos (dg b).length
 omega
def pz (n : Frm) : Int := match n with
 | [] => 1
 | m :: _ => iv (decide (sgn m.2.num < 0)) (top n)
theorem iv_natAbs' (s : Bool) (a : Nat) : (iv s (a : Int)).natAbs = a := by unfold iv; split <;> omega
theorem top_pos {n : Frm} (h : Nf n) (h0 : n ≠ []) : 0 < top n := by
 cases n with
 | nil => exact absurd rfl h0
 | cons m r =>
  have h1 : top (m :: r) ∣ m.2.num.natAbs := gcds_dvd (List.mem_map.2 ⟨m, List.mem_cons_self .., rfl⟩)
  exact Nat.pos_of_dvd_of_pos h1 (num_ne (h.nz m (List.mem_cons_self ..)))
theorem pz_ne {n : Frm} (h : Nf n) : pz n ≠ 0 := by
 cases n with
 | nil => show (1 : Int) ≠ 0; decide
 | cons m r =>
  have h1 := top_pos h (by simp)
  have h2 := iv_natAbs' (decide (sgn m.2.num < 0)) (top (m :: r))
  show iv (decide (sgn m.2.num < 0)) ((top (m :: r) : Nat) : Int) ≠ 0
  omega
theorem pc_eq (m : Int × Rat) (r : Frm) : pc (m :: r) = (pz (m :: r) : Rat) / ((bot (m :: r) : Int) : Rat) := by
 show rv (decide (sgn m.2.num < 0)) (dg (top (m :: r))) (dg (bot (m :: r))) = ((iv (decide (sgn m.2.num < 0)) ((top (m :: r) : Nat) : Int) : Int) : Rat) / _
 rw [rv_div _ (by rw [V_dg]; omega), V_dg, V_dg]
theorem pc_ne {n : Frm} (h : Nf n) : pc n ≠ 0 := by
 cases n with
 | nil => show (1 : Rat) ≠ 0; decide
 | cons m r =>
  rw [pc_eq]
  have h1 : (pz (m :: r) : Rat) ≠ 0 := fun e => pz_ne h (Rat.intCast_inj.1 e)
  have h2 : ((bot (m :: r) : Int) : Rat) ≠ 0 := fun e => by
   have := Rat.intCast_inj.1 (show ((bot (m :: r) : Int) : Rat) = ((0 : Int) : Rat) from e)
   have := bot_pos (m :: r)
   omega
  generalize (pz (m :: r) : Rat) = a at *
  generalize ((bot (m :: r) : Int) : Rat) = b at *
  grind
theorem pz_dvd {n : Frm} {m : Int × Rat} (h : m ∈ n) : pz n ∣ m.2.num := by
 have h1 : top n ∣ m.2.num.natAbs := gcds_dvd (List.mem_map.2 ⟨m, h, rfl⟩)
 cases n with
 | nil => cases h
 | cons x r =>
  refine Int.natAbs_dvd_natAbs.1 ?_
  show (iv (decide (sgn x.2.num < 0)) ((top (x :: r) : Nat) : Int)).natAbs ∣ _
  rw [iv_natAbs']
  exact h1
theorem mu_shape {n : Frm} (hn : Nf n) {m : Int × Rat} (h : m ∈ n) : mu ((pc n)⁻¹ * m.2) ≤ mu m.2 + ((dg (bot n)).length + 1) := by
 have hz := pz_ne hn
 have hd := pz_dvd h
 cases n with
 | nil => cases h
 | cons x r =>
  have e : (pc (x :: r))⁻¹ * m.2 = ((bot (x :: r) : Int) : Rat) * (m.2 / (pz (x :: r) : Rat)) := by
   rw [pc_eq]
   generalize (pz (x :: r) : Rat) = a
   generalize ((bot (x :: r) : Int) : Rat) = b
   grind
  rw [e]
  have h1 := mu_mul ((bot (x :: r) : Int) : Rat) (m.2 / (pz (x :: r) : Rat))
  have h2 := mu_quot hz hd
  have h3 := mu_nat (bot (x :: r))
  omega
theorem mf_times (c : Rat) (k : Nat) (l : Frm) (h : ∀ m ∈ l, mu (c * m.2) ≤ mu m.2 + k) : mf (smul c l) ≤ mf l + l.length * k := by
 induction l with
 | nil => exact Nat.zero_le _
 | cons m l ih =>
  have h1 := ih fun y hy => h y (List.mem_cons_of_mem _ hy)
  have h2 := h m (List.mem_cons_self ..)
  show mu (c * m.2) + 1 + mf (smul c l) ≤ _
  rw [mf_cons, List.length_cons, Nat.add_mul]
  omega
theorem mf_shape {n : Frm} (hn : Nf n) : mf (smul (pc n)⁻¹ n) ≤ mf n + n.length * ((dg (bot n)).length + 1) := mf_times _ _ _ fun m hm => mu_shape hn hm
theorem mu_pc {n : Frm} (hn : Nf n) : mu (pc n) ≤ mf n + (dg (bot n)).length + 1 := by
 cases n with
 | nil => show mu 1 ≤ _; have : mu (1 : Rat) ≤ 1 := mu_int (n := 1) (by decide); omega
 | cons m r =>
  have h1 := top_len hn
  exact mu_le.2 ((Sz.rvs _ (Lim_dg _) (Lim_dg _)).mono (by omega))
theorem mf5 (F : Frm) : mf (nform F) + 5 * (nform F).length ≤ mf F + 5 * F.length := by have h1 := mf_nform F; have h2 := nform_len F; omega
theorem mf5_fval {f : List (Int × RatD)} (h : ∀ m ∈ f, Good (wt m.2) m.2) : mf (fval f) + 5 * f.length ≤ (f.map wtm).sum := by
 induction f with
 | nil => exact Nat.zero_le _
 | cons m f ih =>
  have h1 := ih fun y hy => h y (List.mem_cons_of_mem _ hy)
  have hg := h m (List.mem_cons_self ..)
  have h2 : mu (rq m.2) ≤ m.2.1.2.length + m.2.2.length + 1 := mu_le.2 (Sz.rvs m.2.1.1 hg.ln hg.ld)
  show mu (rq m.2) + 1 + mf (fval f) + 5 * (f.length + 1) ≤ wtm m + (f.map wtm).sum
  have e : wtm m = m.2.1.2.length + m.2.2.length + 7 := rfl
  omega
structure Shp (n : Frm) : Prop where
 nf : Nf n
 five : mf n + 5 * n.length ≤ 2097152
 prod : n.length * ((dg (bot n)).length + 1) ≤ 45813334017
theorem Shp.shape {n : Frm} (h : Shp n) : mf (smul (pc n)⁻¹ n) ≤ 45815431169 := by have h1 := mf_shape h.nf; have h2 := h.prod; have h3 := h.five; omega
theorem Shp.of {f : List (Int × RatD)} (h : ∀ m ∈ f, Good (wt m.2) m.2) (hb : (f.map wtm).sum ≤ 1048576) : Shp (nform (fval f)) := by
 have h1 := mf5 (fval f)
 have h2 := mf5_fval h
 rw [fval_length] at h1
 exact ⟨nform_Nf _, by omega, prod_le6 (by have := bot_len (nform (fval f)); omega)⟩
structure Shq (n : Frm) : Prop where
 nf : Nf n
 size : 2 * mf n + 5 * n.length ≤ 137438953471
theorem Shp.q {n : Frm} (h : Shp n) : Shq n := ⟨h.nf, by have := h.five; omega⟩
theorem Shq.ql {n : Frm} (h : Shq n) (v : Int) : QL ((pc n)⁻¹ * co n v) := by
 by_cases hv : ∃ m ∈ n, m.1 = v
 · obtain ⟨m, hm, rfl⟩ := hv
   rw [co_of_mem h.nf hm]
   have h1 := mu_shape h.nf hm
   have h2 := bot_len n
   have h3 := mu_mem hm
   have h4 := h.size
   have h5 : 0 < n.length := List.length_pos_of_mem hm
   exact mu_ql (by omega)
 · rw [co_none fun x hx e => hv ⟨x, hx, e⟩, Rat.mul_zero]
   exact mu_ql (by rw [mu_zero]; omega)
theorem bot_take (n : Frm) (i : Nat) : (dg (bot (n.take i))).length ≤ mf n + 1 := by
 have h := bot_len (n.take i)
 have e : mf n = mf (n.take i) + mf (n.drop i) := by rw [← mf_append, List.take_append_drop]
 omega
theorem top_take {n : Frm} (hn : Nf n) (i : Nat) : (dg (top (n.take i))).length ≤ mf n := gcds_bound fun x hx => by
 obtain ⟨m, hm, rfl⟩ := List.mem_map.1 hx
 have hm := List.mem_of_mem_take hm
 exact ⟨num_ne (hn.nz m hm), Int.lt_of_lt_of_le (num_bp m.2).1 (Bp_le (by have := mu_mem hm; omega))⟩
def ToldFR (w : World) (l : Frm) (q : Rat) (e : Ending) (w' : World) : Prop := ∃ (E : Option Addr) (j : Nat) (A : Option Addr) (c : Nat) (B : Option Addr) (d : Nat), e = .returned (.tuple #[.slice E l.length j, .agg #[.bool (decide (q.num < 0)), .slice A (dg q.num.natAbs).length c, .slice B (dg q.den).length d]]) ∧ OwnF w' w.heap.size (.slice E l.length j) l ∧ InQ w' A c B d q ∧ Below w.heap.size w w'
theorem KeepU.put3 {W : World} {g : Nat} {x1 x2 x3 y1 y2 : Value} (ho : Own W g [x1, x2, x3]) (hn : NoU [x1, x2, x3]) (hm : NoU [y1, y2]) (y3 : Value) :
 KeepU W (((W.setCell ⟨g, 0, none⟩ y1).setCell ⟨g, 1, none⟩ y2).setCell ⟨g, 2, none⟩ y3) := by
 have n : ∀ v ∈ [y1, y2], ∀ y, Value.int .u32 y ≠ v := fun v hv y e => hm y (by rw [e]; exact hv)
 have a1 := KeepU.set ho hn 0 y1
 have o1 := ho.set 0 y1
 have m1 := hn.set 0 (n y1 (by simp))
 have a2 := KeepU.set o1 m1 1 y2
 have o2 := o1.set 1 y2
 have m2 := m1.set 1 (n y2 (by simp))
 have a3 := KeepU.set o2 m2 2 y3
 exact (a1.trans a2).trans a3
theorem OwnF.put3 {W : World} {B : Nat} {v : Value} {l : Frm} {g : Nat} (h : OwnF W B v l) (hne : v.ownBlock ≠ some g) (y1 y2 y3 : Value) (hk : KeepU W (((W.setCell ⟨g, 0, none⟩ y1).setCell ⟨g, 1, none⟩ y2).setCell ⟨g, 2, none⟩ y3)) :
 OwnF (((W.setCell ⟨g, 0, none⟩ y1).setCell ⟨g, 1, none⟩ y2).setCell ⟨g, 2, none⟩ y3) B v l := by
 refine h.kept (fun k hk0 hv => ?_) hk
 have hkg : k ≠ g := fun e => hne (by rw [← e]; exact hv)
 rw [Below.heap_setCell _ _ _ _ hkg, Below.heap_setCell _ _ _ _ hkg, Below.heap_setCell _ _ _ _ hkg]
theorem pc_at {n : Frm} (h : 0 < n.length) : pc n = rv (decide (sgn n[0].2.num < 0)) (dg (top n)) (dg (bot n)) := by
 cases n with
 | nil => cases h
 | cons m r => rfl
theorem lcm_parts (b d : Nat) : b * (d / Nat.gcd b d) = Nat.lcm b d := by
 unfold Nat.lcm
 rw [Nat.mul_div_assoc _ (Nat.gcd_dvd_right b d)]
theorem shape_nil : nform (smul (pc [])⁻¹ []) = [] := rfl
set_option maxHeartbeats 8000000 in
set_option maxRecDepth 100000 in
theorem linear_Prime (A : Option Addr) (c : Nat) (f : List (Int × RatD)) (w : World) (hf : FRaw w A c f) (hs : Shq (nform (fval f))) :
 Calls Tryz.prog 78 #[.slice A f.length c] w (ToldFR w (nform (smul (pc (nform (fval f)))⁻¹ (nform (fval f)))) (pc (nform (fval f)))) := by
 have hN := Lib.hid (fun (W : World) (hb : Below w.heap.size w W) => linear_Norm f.length A c f W (Nat.le_refl _) (hf.below hb))
 generalize nform (fval f) = n at *
 have HF := Lib.hid ((Fr.refl w).box [.bool false, .slice none 0 0, .slice none 0 0] 43)
 have hnl : n.length ≤ 27487790694 := by have := hs.size; omega
 clear hf
 by_cases hn0 : n = []
 · subst hn0
   rw [shape_nil, show pc [] = 1 from rfl]
   have hW := Lib.hid (fun (W : World) => ratio_Whole 1 W (by omega) (by omega))
   rw [show (((1 : Int)) : Rat) = 1 from rfl] at hW
   obtain ⟨p, hp⟩ : ∃ p, p = (1 : Rat) := ⟨_, rfl⟩
   rw [← hp] at hW ⊢
   clear hp hs hnl
   go_enter Tryz.func78, Tryz.ntmps78
   go_wp2_with fail
   refine (hN.out _ HF.out.bel).mono ?_
   rintro e W1 ⟨v_, rfl, h1, h2⟩
   obtain ⟨E, e, rfl, _⟩ := h1.fin
   replace HF := Lib.hid (HF.out.below h2)
   clear h1 h2 hN
   simp only [List.length_nil]
   go_wp2_with fail
   refine (hW.out _).mono ?_
   rintro e W2 ⟨A2, c2, B2, d2, rfl, q1, q2, q3⟩
   replace HF := Lib.hid (HF.out.below q3)
   have Q2 := Lib.hid (InQ.mk q1 q2)
   clear q1 q2 q3 hW
   have hf0 := HF.out.frozenN 0 rfl 0
   have hf1 := HF.out.frozenN 0 rfl 1
   have hf2 := HF.out.frozenN 0 rfl 2
   have hd0 := HF.out.cellN 0 rfl 0 rfl
   have hd1 := HF.out.cellN 0 rfl 1 rfl
   have hd2 := HF.out.cellN 0 rfl 2 rfl
   replace Q2 := Lib.hid (Q2.out.put3 (HF.out.ownN 0 rfl) (by simp) (a := .bool (decide (p.num < 0))) (by simp) (b := .slice A2 (dg p.num.natAbs).length c2) (by simp) (.slice B2 (dg p.den).length d2))
   replace HF := Lib.hid (HF.out.put3 0 rfl (by omega) (by simp <;> omega) (.bool (decide (p.num < 0))) (.slice A2 (dg p.num.natAbs).length c2) (.slice B2 (dg p.den).length d2))
   go_wp2
   exact post_own3 (HF.out.ownN 0 rfl) rfl rfl rfl rfl Tryz.underlying43 rfl (by kernel_rfl) ⟨none, 0, _, _, _, _, rfl, OwnF.nil _ _, Q2.out, HF.out.bel⟩
 · have hpos : 0 < n.length := List.length_pos_iff.2 hn0
   have hbt := bot_pos n
   have hOne := Lib.hid (fun (W : World) => (nat_Of 1 W (by omega) (by omega)).mono fun e w' h => Told.nat (n := 1) h)
   have tl : (dg (top n)).length ≤ 68719476735 := by have := top_len hs.nf; have := hs.size; omega
   have bl : (dg (bot n)).length ≤ 68719476736 := by have := bot_len n; have := hs.size; omega
   have hOf := Lib.hid (show ∀ (W : World) (A1 : Option Addr) (c1 : Nat) (B1 : Option Addr) (d1 : Nat), In W A1 c1 (dg (top n)) → In W B1 d1 (dg (bot n)) → Calls Tryz.prog 152 #[.agg #[.bool (decide (sgn n[0].2.num < 0)), .slice A1 (dg (top n)).length c1], .agg #[.bool false, .slice B1 (dg (bot n)).length d1]] W (ToldE W (pc n)) from fun W A1 c1 B1 d1 k1 k2 => by
    have e := ratio_Of_some (decide (sgn n[0].2.num < 0)) A1 c1 _ false B1 d1 _ W k1 (by omega) k2 (by omega) (by show iv false (V (dg (bot n))) ≠ 0; rw [V_dg]; show ((bot n : Nat) : Int) ≠ 0; omega)
    rw [show iv false (V (dg (bot n))) = V (dg (bot n)) from rfl, ← rv_div _ (by rw [V_dg]; omega), ← pc_at hpos] at e
    exact e)
   have pl := mu_pc hs.nf
   have p5 := hs.size
   have pbl := bot_len n
   have pl2 := mu_len (pc n)
   have pl3 := mu_len (pc n)⁻¹
   rw [mu_inv (pc_ne hs.nf)] at pl3
   have hIv := Lib.hid (show ∀ (W : World) (A1 : Option Addr) (c1 : Nat) (B1 : Option Addr) (d1 : Nat), InQ W A1 c1 B1 d1 (pc n) → Calls Tryz.prog 147 #[.agg #[.bool (decide ((pc n).num < 0)), .slice A1 (dg (pc n).num.natAbs).length c1, .slice B1 (dg (pc n).den).length d1]] W (ToldE W (pc n)⁻¹) from fun W A1 c1 B1 d1 k => by
    have e := ratio_Inv_some (decide ((pc n).num < 0)) A1 c1 _ B1 d1 _ W k.num (by omega) k.den (by omega) (by rw [rv_can]; exact pc_ne hs.nf)
    rw [rv_can] at e
    exact e)
   have hSc := Lib.hid (show ∀ (W : World) (A1 : Option Addr) (c1 : Nat) (B1 : Option Addr) (d1 : Nat) (E : Option Addr) (j : Nat), InQ W A1 c1 B1 d1 (pc n)⁻¹ → FIn W E j n → Calls Tryz.prog 74 #[.agg #[.bool (decide ((pc n)⁻¹.num < 0)), .slice A1 (dg (pc n)⁻¹.num.natAbs).length c1, .slice B1 (dg (pc n)⁻¹.den).length d1], .slice E n.length j] W (ToldFm W (nform (smul (pc n)⁻¹ n))) from fun W A1 c1 B1 d1 E j k1 k2 => by
    have e := linear_Scale (decide ((pc n)⁻¹.num < 0)) A1 c1 _ B1 d1 _ E j _ W k1.num (by omega) k1.den (by omega) (k2.raw (by omega)) (fun v => by
     rw [rv_can, fval_can]
     exact hs.ql v)
    rw [rv_can, fval_can, List.length_map] at e
    exact e)
   have hTT := Lib.hid (fun i => top_take hs.nf i)
   have hBT := Lib.hid (fun i => bot_take n i)
   have hBP := Lib.hid (fun i => bot_pos (n.take i))
   have hMM := Lib.hid (fun (m : Int × Rat) (h : m ∈ n) => mu_mem h)
   have hTS := Lib.hid (fun i h => top_succ n i h)
   have hBS := Lib.hid (fun i h => bot_succ n i h)
   have hmf : mf n ≤ 68719476735 := by omega
   have hll : n.length ≤ 1099511627776 := by omega
   clear hs pl p5 pbl pl2 pl3 hbt
   obtain ⟨pcn, hpc⟩ : ∃ p, p = pc n := ⟨_, rfl⟩
   rw [← hpc] at hOf hIv hSc ⊢
   generalize nform (smul pcn⁻¹ n) = sh at *
   generalize pcn⁻¹ = pci at *
   clear hpc
   go_enter Tryz.func78, Tryz.ntmps78
   go_wp2_with fail
   refine (hN.out _ HF.out.bel).mono ?_
   rintro e W1 ⟨v_, rfl, h1, h2⟩
   obtain ⟨E, j, rfl, h3⟩ := h1.fin
   have HQ := Lib.hid h3
   replace HF := Lib.hid (HF.out.below h2)
   clear h1 h2 h3 hN
   have hnz : ¬ ((n.length : Nat) : Int) = 0 := by omega
   have hnz2 : ¬ n.length = 0 := by omega
   go_wp2_with fail
   refine (hOne.out _).mono ?_
   rintro e W2 ⟨A5, c5, rfl, q1, q2⟩
   have HB := Lib.hid q2
   have Q5 := Lib.hid q1
   clear q1 q2 hOne
   go_wp2
   go_loopg [4, 5, 25] n.length (fun gg s4 s5 s25 wr => ∃ (i a b : Nat) (A4 : Option Addr) (c4 : Nat) (B5 : Option Addr) (d5 : Nat), i + gg = n.length ∧ s25 = .int .i64 i ∧ s4 = .slice A4 (dg a).length c4 ∧ s5 = .slice B5 (dg b).length d5 ∧ (dg a).length ≤ 68719476735 ∧ (dg b).length ≤ 68719476736 ∧ 0 < b ∧ Hid (In wr A4 c4 (dg a)) ∧ Hid (In wr B5 d5 (dg b)) ∧ Hid (a = top (n.take i)) ∧ Hid (b = bot (n.take i)) ∧ Hid (Below W1.heap.size W1 wr))
   case atStart => exact ⟨0, 0, 1, none, 0, A5, c5, by omega, rfl, by rw [dg_zero]; rfl, rfl, by rw [dg_zero]; exact Nat.zero_le _, by rw [dg_one]; simp, by omega, by rw [dg_zero]; exact In.nil _ _ _, Q5, rfl, rfl, HB⟩
   case round =>
    clear HB Q5
    obtain ⟨i, a, b, A4, c4, B5, d5, hg, rfl, rfl, rfl, la, lb, hb0, QA, QB, HA, HBb, HB⟩ := hrel
    by_cases hlt : i < n.length
    · have hltz : (i : Int) < (n.length : Int) := by omega
      obtain ⟨ad, r, rfl, hvq, hat, h1, h2, h3, h4⟩ := HQ.out.at_ i hlt
      have hrq : r.q = n[i].2 := by rw [← hvq]; rfl
      have hm := hMM.out n[i] (List.getElem_mem hlt)
      have ha2 := Lib.hid (show Nat.gcd a r.q.num.natAbs = top (n.take (i + 1)) by rw [hTS.out i hlt, HA.out, hrq])
      have hb2 := Lib.hid (show Nat.lcm b r.q.den = bot (n.take (i + 1)) by rw [hBS.out i hlt, HBb.out, hrq])
      have la2 := hTT.out (i + 1)
      have lb2 := hBT.out (i + 1)
      have pb2 := hBP.out (i + 1)
      rw [← ha2.out] at la2
      rw [← hb2.out] at lb2 pb2
      have lq := mu_len r.q
      rw [← hrq] at hm
      have a1 := cell_below HB.out h1
      have a2 := cell_below HB.out h2
      have a3 := cell_below HB.out h3
      have a4 := cell_below HB.out h4
      have hgp : 0 < Nat.gcd b r.q.den := Nat.gcd_pos_of_pos_left _ hb0
      have hgl : (dg (Nat.gcd b r.q.den)).length ≤ 68719476736 := Nat.le_trans (dg_length_mono (Nat.gcd_le_left _ hb0)) lb
      have hql : (dg (r.q.den / Nat.gcd b r.q.den)).length ≤ 68719476736 := by have := dg_length_mono (Nat.div_le_self r.q.den (Nat.gcd b r.q.den)); omega
      have hG1 := Lib.hid (fun (W : World) (k1 : In W A4 c4 (dg a)) (k2 : InQ W r.A r.c r.B r.d r.q) => gcdN A4 c4 a r.A r.c _ W k1 (by omega) k2.num (by omega))
      have hG2 := Lib.hid (fun (W : World) (k1 : In W B5 d5 (dg b)) (k2 : InQ W r.A r.c r.B r.d r.q) => gcdN B5 d5 b r.B r.d _ W k1 (by omega) k2.den (by omega))
      have hDv := Lib.hid (fun (W : World) (k2 : InQ W r.A r.c r.B r.d r.q) (A6 : Option Addr) (c6 : Nat) (k1 : In W A6 c6 (dg (Nat.gcd b r.q.den))) => divN r.B r.d _ A6 c6 _ W k2.den (by omega) k1 (by omega) hgp)
      have hMl := Lib.hid (fun (W : World) (k1 : In W B5 d5 (dg b)) (A6 : Option Addr) (c6 : Nat) (k2 : In W A6 c6 (dg (r.q.den / Nat.gcd b r.q.den))) => mulNn B5 d5 b A6 c6 _ W k1 (by omega) k2 (by omega))
      rw [lcm_parts] at hMl
      unfold ToldD at hDv
      have QR := Lib.hid ((hat.inq.below HB.out).below ((Below.refl _ wr).alloc (Nat.le_refl _) (.cells #[.int .i64 r.v, .bool (decide (r.q.num < 0)), .slice r.A (dg r.q.num.natAbs).length r.c, .slice r.B (dg r.q.den).length r.d] 57)))
      have hal := Lib.hid ((Below.refl _ wr).alloc (Nat.le_refl _) (.cells #[.int .i64 r.v, .bool (decide (r.q.num < 0)), .slice r.A (dg r.q.num.natAbs).length r.c, .slice r.B (dg r.q.den).length r.d] 57))
      have HX := Lib.hid ((Fr.refl wr).box [.int .i64 r.v, .bool (decide (r.q.num < 0)), .slice r.A (dg r.q.num.natAbs).length r.c, .slice r.B (dg r.q.den).length r.d] 57)
      replace QA := Lib.hid (QA.out.below hal.out)
      replace QB := Lib.hid (QB.out.below hal.out)
      clear hvq hat h1 h2 h3 h4 hrq hm lq hgp hgl hql hal HA HBb
      generalize Nat.gcd a r.q.num.natAbs = a' at *
      generalize Nat.lcm b r.q.den = b' at *
      generalize Nat.gcd b r.q.den = g at *
      generalize r.q.den / g = qq at *
      generalize r.q.den % g = rr at *
      go_wp2_with fail
      refine (hG1.out _ QA.out QR.out).mono ?_
      rintro e V1 ⟨A6, c6, rfl, q1, q2⟩
      replace HX := Lib.hid (HX.out.below q2)
      replace QB := Lib.hid (QB.out.below q2)
      replace QR := Lib.hid (QR.out.below q2)
      have Q6 := Lib.hid q1
      clear q1 q2 hG1 QA a1 a2 a3 a4
      have b3 := HX.out.cellN 0 rfl 3 rfl
      go_wp2_with fail
      refine (hG2.out _ QB.out QR.out).mono ?_
      rintro e V2 ⟨A7, c7, rfl, q1, q2⟩
      replace HX := Lib.hid (HX.out.below q2)
      replace QB := Lib.hid (QB.out.below q2)
      replace QR := Lib.hid (QR.out.below q2)
      replace Q6 := Lib.hid (Q6.out.below q2)
      have Q7 := Lib.hid q1
      clear q1 q2 hG2 b3
      have b3 := HX.out.cellN 0 rfl 3 rfl
      go_wp2_with fail
      refine (hDv.out _ QR.out A7 c7 Q7.out).mono ?_
      rintro e V3 ⟨A8, c8, B8, d8, rfl, q1, _, q2⟩
      replace HX := Lib.hid (HX.out.below q2)
      replace QB := Lib.hid (QB.out.below q2)
      replace Q6 := Lib.hid (Q6.out.below q2)
      have Q8 := Lib.hid q1
      clear q1 q2 hDv b3 QR Q7
      go_wp2_with fail
      refine (hMl.out _ QB.out A8 c8 Q8.out).mono ?_
      rintro e V4 ⟨A9, c9, rfl, q1, q2⟩
      replace HX := Lib.hid (HX.out.below q2)
      replace Q6 := Lib.hid (Q6.out.below q2)
      have Q9 := Lib.hid q1
      clear q1 q2 hMl QB Q8
      have HB2 := Lib.hid (HB.out.trans (HX.out.bel.mono HB.out.size))
      go_wp2
      go_roundg (n.length - (i + 1))
      case measure => omega
      case rel => exact ⟨i + 1, a', b', A6, c6, A9, c9, by omega, by go_num, rfl, rfl, by omega, by omega, pb2, Q6, Q9, ha2, hb2, HB2⟩
    · have hltz : ¬ (i : Int) < (n.length : Int) := by omega
      have e1 : a = top n := by rw [HA.out, List.take_of_length_le (by omega)]
      have e2 : b = bot n := by rw [HBb.out, List.take_of_length_le (by omega)]
      rw [← e1, ← e2] at hOf
      clear HA HBb e1 e2 tl bl
      replace HF := Lib.hid (HF.out.below HB.out)
      obtain ⟨ad, r, rfl, hvq, hat, i1, i2, i3, i4⟩ := HQ.out.at_ 0 hpos
      rw [show ad.add (0 * 4) = ad from by rw [Nat.zero_mul]; rfl] at i1 i2 i3 i4
      have hrq : n[0].2 = r.q := by rw [← hvq]; rfl
      rw [hrq] at hOf
      have hql := hat.ql
      have hT := Lib.hid (ratio_Sign (decide (r.q.num < 0)) r.A r.c (dg r.q.num.natAbs) r.B r.d (dg r.q.den) wr (hat.inq.below HB.out).num (by have := hql.1; omega) (hat.inq.below HB.out).den (by have := hql.2; omega))
      rw [rv_can] at hT
      have a1 := cell_below HB.out i1
      have a2 := cell_below HB.out i2
      have a3 := cell_below HB.out i3
      have a4 := cell_below HB.out i4
      have hzp : (0 : Int) < (n.length : Int) := by omega
      replace HQ := Lib.hid (HQ.out.below HB.out)
      generalize sgn r.q.num = z at *
      clear hvq hat i1 i2 i3 i4 hql hrq
      go_wp2_with fail
      refine hT.out.mono ?_
      rintro e V1 ⟨rfl, q2⟩
      replace HF := Lib.hid (HF.out.below q2)
      replace HQ := Lib.hid (HQ.out.below q2)
      replace QA := Lib.hid (QA.out.below q2)
      replace QB := Lib.hid (QB.out.below q2)
      clear q2 hT a1 a2 a3 a4 HB
      go_wp2_with fail
      refine (hOf.out _ A4 c4 B5 d5 QA.out QB.out).mono ?_
      rintro e V2 ⟨A6, c6, B6, d6, rfl, q1, q2⟩
      replace HF := Lib.hid (HF.out.below q2)
      replace HQ := Lib.hid (HQ.out.below q2)
      have Q6 := Lib.hid q1
      clear q1 q2 hOf QA QB
      have hw2 := HF.out.ltN 0 rfl
      have hal := Lib.hid ((Below.refl _ V2).alloc (Nat.le_refl _) (.cells #[.bool (decide (pcn.num < 0)), .slice A6 (dg pcn.num.natAbs).length c6, .slice B6 (dg pcn.den).length d6] 43))
      replace HQ := Lib.hid (HQ.out.below hal.out)
      replace Q6 := Lib.hid (Q6.out.below hal.out)
      replace HF := Lib.hid (HF.out.box [.bool (decide (pcn.num < 0)), .slice A6 (dg pcn.num.natAbs).length c6, .slice B6 (dg pcn.den).length d6] 43)
      clear hal
      go_wp2_with fail
      obtain ⟨gx, hgx⟩ : ∃ g, g = V2.heap.size := ⟨_, rfl⟩
      rw [← hgx] at HF hw2 ⊢
      generalize V2.alloc _ = W at HF HQ Q6 ⊢
      clear hgx
      refine (hIv.out _ A6 c6 B6 d6 Q6.out).mono ?_
      rintro e V3 ⟨A7, c7, B7, d7, rfl, q1, q2⟩
      replace HF := Lib.hid (HF.out.below q2)
      replace HQ := Lib.hid (HQ.out.below q2)
      replace Q6 := Lib.hid (Q6.out.below q2)
      have Q7 := Lib.hid q1
      clear q1 q2 hIv
      have hw3 := HF.out.ltN 0 rfl
      have hal := Lib.hid ((Below.refl _ V3).alloc (Nat.le_refl _) (.cells #[.bool (decide (pci.num < 0)), .slice A7 (dg pci.num.natAbs).length c7, .slice B7 (dg pci.den).length d7] 43))
      replace HQ := Lib.hid (HQ.out.below hal.out)
      replace Q6 := Lib.hid (Q6.out.below hal.out)
      replace Q7 := Lib.hid (Q7.out.below hal.out)
      replace HF := Lib.hid (HF.out.box [.bool (decide (pci.num < 0)), .slice A7 (dg pci.num.natAbs).length c7, .slice B7 (dg pci.den).length d7] 43)
      clear hal
      go_wp2_with fail
      obtain ⟨gy, hgy⟩ : ∃ g, g = V3.heap.size := ⟨_, rfl⟩
      rw [← hgy] at HF hw3 ⊢
      generalize V3.alloc _ = W at HF HQ Q6 Q7 ⊢
      clear hgy
      replace Q6 := Lib.hid (Q6.out.below (Below.drew (Below.refl _ _)))
      replace Q7 := Lib.hid (Q7.out.below (Below.drew (Below.refl _ _)))
      replace HQ := Lib.hid (HQ.out.below (Below.drew (Below.refl _ _)))
      have HF_ := Lib.hid HF.out.drew
      clear HF
      have HF := HF_
      clear HF_
      refine start_ (n := 6) (S := fun w' => w'.cell? ⟨gy, 0, none⟩ = some (.bool (decide (pci.num < 0))) ∧ w'.cell? ⟨gy, 1, none⟩ = some (.slice A7 (dg pci.num.natAbs).length c7) ∧ w'.cell? ⟨gy, 2, none⟩ = some (.slice B7 (dg pci.den).length d7) ∧ w'.cell? ⟨gx, 0, none⟩ = some (.bool (decide (pcn.num < 0))) ∧ w'.cell? ⟨gx, 1, none⟩ = some (.slice A6 (dg pcn.num.natAbs).length c6) ∧ w'.cell? ⟨gx, 2, none⟩ = some (.slice B6 (dg pcn.den).length d6)) (ds := []) #[false, false, false, false, false, false] (by kernel_rfl) rfl rfl ⟨HF.out.cellN 0 rfl 0 rfl, HF.out.cellN 0 rfl 1 rfl, HF.out.cellN 0 rfl 2 rfl, HF.out.cellN 1 rfl 0 rfl, HF.out.cellN 1 rfl 1 rfl, HF.out.cellN 1 rfl 2 rfl⟩ (fun hHeld => ?_)
      generalize World.drew _ = W at *
      refine pu_ (v := ?_) (a' := ?_) 1 (some 73) rfl rfl ?_ ?_ ?_
      rotate_left; · intro w'; go_simp; with_reducible rfl
      rotate_left
      · simp only [Act.put, sa_, sb_, sc_]
        rfl
      refine tk_ (v := ?_) (a' := ?_) 0 (some 72) rfl rfl ?_ hHeld ?_ ?_
      rotate_left
      · rintro w' ⟨s0, s1, s2, s3, s4, s5⟩; go_simp; with_reducible rfl
      rotate_left
      · simp only [Act.put, sa_, sb_, sc_]
        rfl
      refine tk_ (v := ?_) (a' := ?_) 3 (some 75) rfl rfl ?_ hHeld ?_ ?_
      rotate_left
      · rintro w' ⟨s0, s1, s2, s3, s4, s5⟩; go_simp; with_reducible rfl
      rotate_left
      · simp only [Act.put, sa_, sb_, sc_]
        rfl
      refine on_ 2 (N := (some 74)) rfl rfl (fun K hK => ?_)
      refine goes_ Tryz.func74 (by kernel_rfl) rfl #[.agg #[.bool (decide (pci.num < 0)), .slice A7 (dg pci.num.natAbs).length c7, .slice B7 (dg pci.den).length d7], .slice (some ad) n.length j] (by rfl) rfl rfl (by (try simp only [List.map_toArray, List.map_cons, List.map_nil]); first | done | rfl) ?_
      refine (hSc.out W A7 c7 B7 d7 (some ad) j Q7.out HQ.out).mono ?_
      rintro e W1 ⟨v_, rfl, h1, h2⟩
      refine ⟨_, rfl, ?_⟩
      obtain ⟨E6, e6, rfl, h3⟩ := h1.fin
      have HO := Lib.hid (h1.mono (by have := HF.out.ltN 0 rfl; omega : w.heap.size + 1 ≤ _))
      replace HF := Lib.hid (HF.out.below h2)
      replace Q6 := Lib.hid (Q6.out.below h2)
      clear h1 h2 h3 hSc Q7 HQ
      refine hK.out _ _ ⟨HF.out.cellN 0 rfl 0 rfl, HF.out.cellN 0 rfl 1 rfl, HF.out.cellN 0 rfl 2 rfl, HF.out.cellN 1 rfl 0 rfl, HF.out.cellN 1 rfl 1 rfl, HF.out.cellN 1 rfl 2 rfl⟩ (fun hHeld => ?_)
      clear hK K
      refine norm_ (a' := ?_) ?_ ?_
      rotate_left
      · show Act.put _ (some 74) _ = _
        simp only [Act.put, sa_, sb_, sc_]
        rfl
      refine pu_ (v := ?_) (a' := ?_) 4 (some 2) rfl rfl ?_ ?_ ?_
      rotate_left; · intro w'; go_simp; with_reducible rfl
      rotate_left
      · simp only [Act.put, sa_, sb_, sc_]
        rfl
      refine on_ 5 (N := none) rfl rfl (fun K hK => ?_)
      have hf0 := HF.out.frozenN 2 rfl 0
      have hf1 := HF.out.frozenN 2 rfl 1
      have hf2 := HF.out.frozenN 2 rfl 2
      have hd0 := HF.out.cellN 2 rfl 0 rfl
      have hd1 := HF.out.cellN 2 rfl 1 rfl
      have hd2 := HF.out.cellN 2 rfl 2 rfl
      refine skip_ (w1 := ?_) (by rfl) rfl ?_ ?_
      rotate_left
      · go_simp
        rfl
      have HKU := Lib.hid (KeepU.put3 (HF.out.ownN 2 rfl) (fun y hy => by simp at hy) (y1 := .bool (decide (pcn.num < 0))) (y2 := .slice A6 (dg pcn.num.natAbs).length c6) (fun y hy => by simp at hy) (.slice B6 (dg pcn.den).length d6))
      replace Q6 := Lib.hid (Q6.out.keep HKU.out)
      replace HO := Lib.hid (HO.out.put3 (fun h => by have := (HO.out.block _ h).1; omega) _ _ _ HKU.out)
      replace HF := Lib.hid (HF.out.put3 2 rfl (by omega) (by simp <;> omega) (.bool (decide (pcn.num < 0))) (.slice A6 (dg pcn.num.natAbs).length c6) (.slice B6 (dg pcn.den).length d6))
      clear HKU hf0 hf1 hf2 hd0 hd1 hd2
      refine hK.out _ _ ⟨HF.out.cellN 0 rfl 0 rfl, HF.out.cellN 0 rfl 1 rfl, HF.out.cellN 0 rfl 2 rfl, HF.out.cellN 1 rfl 0 rfl, HF.out.cellN 1 rfl 1 rfl, HF.out.cellN 1 rfl 2 rfl⟩ (fun hHeld => ?_)
      clear hK K
      refine done_ (by kernel_rfl) ?_
      generalize World.setCell _ _ _ = W2 at HF Q6 HO ⊢
      go_wp2
      exact post_own3 (HF.out.ownN 2 rfl) rfl rfl rfl rfl Tryz.underlying43 rfl (by kernel_rfl) ⟨E6, e6, _, _, _, _, rfl, HO.out.mono (by omega), Q6.out, HF.out.bel⟩
end Go.Proofs.YtidgpkccjcddgaaGreatDoor.F
