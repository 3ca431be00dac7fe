/- The walks of package ratio, first part: made. A rational is a sign's flag, the limbs of the numerator and those of the denominator; each answer is canonical (Lean's Rat). -/
import Derived.Test.YtchdoignomidjaaWholc
set_option linter.unusedVariables false
set_option linter.unusedSimpArgs false
namespace Go.Proofs.Ytchdoignomidjaa.F
open Go.RowKit Go.Shelf Go.Proofs.YtchdoignomidjaaW.PrintLast

/-- an answer that is a rational in canonical form -/
def ToldQ (w : World) (q : Rat) (e : Ending) (w' : World) : Prop :=
  ∃ A c B d, e = .returned (.agg #[.bool (decide (q.num < 0)), .slice A (dg q.num.natAbs).length c, .slice B (dg q.den).length d]) ∧ In w' A c (dg q.num.natAbs) ∧ In w' B d (dg q.den) ∧ Below w.heap.size w w'
/-- what a rational that is handed in is worth -/
def rv (s : Bool) (xs ys : List Int) : Rat := mkRat (iv s (V xs)) (V ys).toNat
theorem rv_can (q : Rat) : rv (decide (q.num < 0)) (dg q.num.natAbs) (dg q.den) = q := by
  unfold rv; rw [iv_can, V_dg, Int.toNat_natCast, Rat.mkRat_self]

theorem In.far {w : World} {A : Option Addr} {c : Nat} {xs : List Int} {g : Nat} {cs : List Value} (h : In w A c xs) (ho : Own w g cs) (hn : ∀ x, Value.int .u32 x ∉ cs) (i : Nat) (v : Value) : In (w.setCell ⟨g, i, none⟩ v) A c xs := ⟨h.row.far ho hn i v, h.lim, h.cap⟩

/-- the end of a call that stores a rational into its result's cells -/
theorem end_rat {w W : World} {bs : List (Nat × List Value)} {g : Nat} {q : Rat} {A : Option Addr} {c : Nat} {B : Option Addr} {d : Nat} {x : Bool} {y z : Value} (h : Fr w W ((g, [.bool x, y, z]) :: bs)) (hy : ∀ u, Value.int .u32 u ≠ y) (hz : ∀ u, Value.int .u32 u ≠ z) (hg : w.heap.size ≤ g)
    (hr : In W A c (dg q.num.natAbs)) (hd : In W B d (dg q.den)) {W' : World}
    (hW : W' = ((W.setCell ⟨g, 0, none⟩ (.bool (decide (q.num < 0)))).setCell ⟨g, 1, none⟩ (.slice A (dg q.num.natAbs).length c)).setCell ⟨g, 2, none⟩ (.slice B (dg q.den).length d)) :
    ToldQ w q (.returned (.agg #[.bool (decide (q.num < 0)), .slice A (dg q.num.natAbs).length c, .slice B (dg q.den).length d])) W' ∧ Own W' g [.bool (decide (q.num < 0)), .slice A (dg q.num.natAbs).length c, .slice B (dg q.den).length d] := by
  subst hW
  have ho := h.own (List.mem_cons_self ..)
  have n0 : ∀ u, Value.int .u32 u ∉ [.bool x, y, z] := fun u hu => by
    rcases List.mem_cons.1 hu with h1 | h1
    · cases h1
    · rcases List.mem_cons.1 h1 with h2 | h2
      · exact hy u h2
      · rcases List.mem_cons.1 h2 with h3 | h3
        · exact hz u h3
        · cases h3
  have n1 : ∀ u, Value.int .u32 u ∉ [.bool (decide (q.num < 0)), y, z] := fun u hu => by
    rcases List.mem_cons.1 hu with h1 | h1
    · cases h1
    · exact n0 u (List.mem_cons_of_mem _ h1)
  have n2 : ∀ u, Value.int .u32 u ∉ [.bool (decide (q.num < 0)), .slice A (dg q.num.natAbs).length c, z] := fun u hu => by
    rcases List.mem_cons.1 hu with h1 | h1
    · cases h1
    · rcases List.mem_cons.1 h1 with h2 | h2
      · cases h2
      · exact n0 u (List.mem_cons_of_mem _ (List.mem_cons_of_mem _ h2))
  exact ⟨⟨A, c, B, d, rfl, ((hr.far ho n0 0 _).far (ho.set 0 _) n1 1 _).far ((ho.set 0 _).set 1 _) n2 2 _, ((hd.far ho n0 0 _).far (ho.set 0 _) n1 1 _).far ((ho.set 0 _).set 1 _) n2 2 _, ((h.1.setCell hg _).setCell hg _).setCell hg _⟩, ((ho.set 0 _).set 1 _).set 2 _⟩

theorem In.put3 {w : World} {A : Option Addr} {c : Nat} {xs : List Int} {g : Nat} {x y z a b : Value} (h : In w A c xs) (ho : Own w g [x, y, z]) (n0 : ∀ u, Value.int .u32 u ∉ [x, y, z]) (n1 : ∀ u, Value.int .u32 u ∉ [a, y, z]) (n2 : ∀ u, Value.int .u32 u ∉ [a, b, z]) (v : Value) :
    In (((w.setCell ⟨g, 0, none⟩ a).setCell ⟨g, 1, none⟩ b).setCell ⟨g, 2, none⟩ v) A c xs :=
  ((h.far ho n0 0 _).far (ho.set 0 _) n1 1 _).far ((ho.set 0 _).set 1 _) n2 2 _
theorem In.put2 {w : World} {A : Option Addr} {c : Nat} {xs : List Int} {g : Nat} {x y a : Value} (h : In w A c xs) (ho : Own w g [x, y]) (n0 : ∀ u, Value.int .u32 u ∉ [x, y]) (n1 : ∀ u, Value.int .u32 u ∉ [a, y]) (v : Value) :
    In ((w.setCell ⟨g, 0, none⟩ a).setCell ⟨g, 1, none⟩ v) A c xs :=
  (h.far ho n0 0 _).far (ho.set 0 _) n1 1 _
theorem Fr.boxEnd {w W : World} {bs : List (Nat × List Value)} (h : Fr w W bs) (cs : List Value) (t : TypeId) : Fr w (W.alloc (.cells cs.toArray t (0, 0))) (bs ++ [(W.heap.size, cs)]) :=
  ⟨(h.alloc _).1, fun p hp => by
    rcases List.mem_append.1 hp with hp | hp
    · exact (h.alloc _).2 p hp
    · obtain rfl := List.mem_singleton.1 hp
      exact Own.mk _ _⟩
theorem Fr.put3 {w W : World} {bs : List (Nat × List Value)} (h : Fr w W bs) {g : Nat} {x y z : Value} (k : Nat) (hk : bs[k]? = some (g, [x, y, z])) (hg : w.heap.size ≤ g) (hn : ∀ p ∈ bs.eraseIdx k, p.1 ≠ g) (a b c : Value) :
    Fr w (((W.setCell ⟨g, 0, none⟩ a).setCell ⟨g, 1, none⟩ b).setCell ⟨g, 2, none⟩ c) (bs.set k (g, [a, b, c])) := by
  have hlt : k < bs.length := (List.getElem?_eq_some_iff.1 hk).1
  have e : ∀ (bs : List (Nat × List Value)) (p : Nat × List Value), (bs.set k p).eraseIdx k = bs.eraseIdx k := fun bs p => by rw [List.eraseIdx_set_eq]
  have h1 := h.setN k hk hg hn 0 a
  have h2 := h1.setN k (by rw [List.getElem?_set_self hlt]) hg (by rw [e]; exact hn) 1 b
  have h3 := h2.setN k (by rw [List.getElem?_set_self (by simpa using hlt)]) hg (by rw [e, e]; exact hn) 2 c
  rw [List.set_set, List.set_set] at h3
  exact h3
theorem Fr.put2 {w W : World} {bs : List (Nat × List Value)} (h : Fr w W bs) {g : Nat} {x y : Value} (k : Nat) (hk : bs[k]? = some (g, [x, y])) (hg : w.heap.size ≤ g) (hn : ∀ p ∈ bs.eraseIdx k, p.1 ≠ g) (a b : Value) :
    Fr w ((W.setCell ⟨g, 0, none⟩ a).setCell ⟨g, 1, none⟩ b) (bs.set k (g, [a, b])) := by
  have hlt : k < bs.length := (List.getElem?_eq_some_iff.1 hk).1
  have e : ∀ (bs : List (Nat × List Value)) (p : Nat × List Value), (bs.set k p).eraseIdx k = bs.eraseIdx k := fun bs p => by rw [List.eraseIdx_set_eq]
  have h1 := h.setN k hk hg hn 0 a
  have h2 := h1.setN k (by rw [List.getElem?_set_self hlt]) hg (by rw [e]; exact hn) 1 b
  rw [List.set_set] at h2
  exact h2

theorem made_q {s : Bool} {x y g : Nat} (hy : 0 < y) (hg : g = Nat.gcd x y) : (mkRat (iv s x) y).num = iv s ((x / g : Nat) : Int) ∧ (mkRat (iv s x) y).den = y / g := by
  have hgx : g ∣ x := hg ▸ Nat.gcd_dvd_left x y
  have hna : (iv s (x : Int)).natAbs = x := by unfold iv; split <;> omega
  constructor
  · rw [Rat.num_mkRat, if_neg (by omega), hna, Nat.gcd_comm, ← hg]
    unfold iv
    split
    · rw [Int.neg_ediv_of_dvd (Int.natCast_dvd_natCast.2 hgx)]; simp
    · simp
  · rw [Rat.den_mkRat, if_neg (by omega), hna, Nat.gcd_comm, ← hg]

set_option maxHeartbeats 1000000 in
set_option maxRecDepth 100000 in
theorem ratio_made (s : Bool) (A : Option Addr) (c : Nat) (xs : List Int) (B : Option Addr) (d : Nat) (ys : List Int) (w : World) (h : In w A c xs) (hm : xs.length ≤ 549755813888) (k : In w B d ys) (km : ys.length ≤ 549755813888) (hy : 0 < V ys) :
    Calls Try.prog 99 #[.agg #[.bool s, .slice A xs.length c], .slice B ys.length d] w fun e w' => ToldQ w (rv s xs ys) e w' := by
  have hx := V_nonneg h.lim
  have lx := dg_len_of_V h.lim
  have ly := dg_len_of_V k.lim
  have hGc := Lib.hid (fun (W : World) (hb : Below w.heap.size w W) => nat_Gcd A c xs B d ys W (h.below hb).row h.lim h.cap hm (k.below hb).row k.lim k.cap km)
  have hD1 := Lib.hid (fun (W : World) (hb : Below w.heap.size w W) (A' : Option Addr) (c' g : Nat) (hg : In W A' c' (dg g)) (hl : (dg g).length ≤ 549755813888) (h0 : 0 < g) => nat_Div A c xs A' c' (dg g) W (h.below hb).row h.lim h.cap hm hg.row hg.lim hg.cap hl (by rw [V_dg]; omega))
  have hD2 := Lib.hid (fun (W : World) (hb : Below w.heap.size w W) (A' : Option Addr) (c' g : Nat) (hg : In W A' c' (dg g)) (hl : (dg g).length ≤ 549755813888) (h0 : 0 < g) => nat_Div B d ys A' c' (dg g) W (k.below hb).row k.lim k.cap km hg.row hg.lim hg.cap hl (by rw [V_dg]; omega))
  have hgp : 0 < Nat.gcd (V xs).toNat (V ys).toNat := Nat.gcd_pos_of_pos_right _ (by omega)
  have hgl : Nat.gcd (V xs).toNat (V ys).toNat ≤ (V ys).toNat := Nat.gcd_le_right _ (by omega)
  obtain ⟨q, hq⟩ : ∃ q, q = rv s xs ys := ⟨_, rfl⟩
  have hnd := made_q (s := s) (x := (V xs).toNat) (y := (V ys).toNat) (by omega) rfl
  have hqe : mkRat (iv s ((V xs).toNat : Int)) (V ys).toNat = q := by rw [hq]; unfold rv; congr 2; omega
  rw [hqe] at hnd
  rw [← hq]
  have hqx : V xs = ((V xs).toNat : Int) := by omega
  have hqy : V ys = ((V ys).toNat : Int) := by omega
  unfold ToldDiv at hD1 hD2
  unfold Told at hGc
  rw [hqx] at hD1
  rw [hqy] at hD2
  simp only [V_dg, ← Int.natCast_ediv, Int.toNat_natCast] at hD1 hD2 hGc
  clear hqe hqx hqy hq hx hy h k
  generalize (V xs).toNat = X at *
  generalize (V ys).toNat = Y at *
  have hla : (dg (X / X.gcd Y)).length ≤ 549755813888 := Nat.le_trans (dg_length_mono (Nat.div_le_self _ _)) (by omega)
  have hlg : (dg (X.gcd Y)).length ≤ 549755813888 := Nat.le_trans (dg_length_mono hgl) (by omega)
  generalize X.gcd Y = g at *
  have hN := Lib.hid (fun (W : World) (A' : Option Addr) (c' : Nat) (hr : In W A' c' (dg (X / g))) => whole_Norm s A' c' (dg (X / g)) W hr.row hr.lim hr.cap (by omega))
  rw [V_dg, ← hnd.1] at hN
  have HND := Lib.hid hnd.2
  clear hnd
  have HF := Lib.hid (((Fr.refl w).box [.bool s, .slice A xs.length c] 29).box [.bool false, .slice none 0 0, .slice none 0 0] 31)
  have hsz : (w.alloc (.cells #[.bool s, .slice A xs.length c] 29)).heap.size = w.heap.size + 1 := by simp
  rw [show [Value.bool s, Value.slice A xs.length c].toArray = #[Value.bool s, Value.slice A xs.length c] from rfl, hsz] at HF
  clear hsz
  go_enter Try.func99, Try.ntmps99
  go_wp2_with fail
  refine (hGc.out _ HF.out.bel).mono ?_
  rintro e W1 ⟨A1, c1, rfl, q1, q2, q3⟩
  replace HF := Lib.hid (HF.out.below q3)
  have Q1 := Lib.hid (In.dg q2 q1)
  clear q1 q2 q3
  have hc1 := HF.out.cellN 1 rfl 1 rfl
  go_wp2_with fail
  refine (hD1.out W1 HF.out.bel A1 c1 g Q1.out hlg hgp).mono ?_
  rintro e W2 ⟨A2, c2, A3, c3, rfl, q1, q2, q3, q4, q5⟩
  replace HF := Lib.hid (HF.out.below q5)
  replace Q1 := Lib.hid (Q1.out.below q5)
  have Q2 := Lib.hid (In.dg q3 q1)
  clear q1 q2 q3 q4 q5 hc1
  go_wp2_with fail
  refine (hD2.out W2 HF.out.bel A1 c1 g Q1.out hlg hgp).mono ?_
  rintro e W3 ⟨A4, c4, A5, c5, rfl, q1, q2, q3, q4, q5⟩
  replace HF := Lib.hid (HF.out.below q5)
  replace Q2 := Lib.hid (Q2.out.below q5)
  have Q3 := Lib.hid (In.dg q3 q1)
  clear q1 q2 q3 q4 q5 Q1
  have hc0 := HF.out.cellN 1 rfl 0 rfl
  go_wp2_with fail
  refine (hN.out W3 A2 c2 Q2.out).mono ?_
  rintro e W4 ⟨A6, c6, rfl, q1, q2, q3⟩
  replace HF := Lib.hid (HF.out.below q3)
  replace Q3 := Lib.hid (Q3.out.below q3)
  replace Q2 := Lib.hid (In.dg q2 q1)
  clear q1 q2 q3 hc0
  rw [← HND.out] at Q3 ⊢
  have hf0 := HF.out.frozenN 0 rfl 0
  have hf1 := HF.out.frozenN 0 rfl 1
  have hf2 := HF.out.frozenN 0 rfl 2
  have hd0 := HF.out.cellN 0 rfl 0 rfl
  have hd1 := HF.out.cellN 0 rfl 1 rfl
  have hd2 := HF.out.cellN 0 rfl 2 rfl
  have HE := Lib.hid (end_rat HF.out (by simp) (by simp) (by omega) Q2.out Q3.out rfl)
  generalize decide (q.num < 0) = b at HE ⊢
  go_wp2
  obtain ⟨f1, f2⟩ := HE.out
  exact post_own f2 rfl rfl rfl Try.underlying31 rfl (by kernel_rfl) f1
end Go.Proofs.Ytchdoignomidjaa.F
