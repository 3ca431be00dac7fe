/- The frame of a walk: what the world has kept, and the blocks that are this call's own. -/
import Derived.Test.YtidgpkccjcddgaaGreatDoorGd
import Derived.Test.YtidgpkccjcddgaaGreatDoorGdw
import Derived.BigRegion
set_option linter.unusedVariables false
set_option linter.unusedSimpArgs false
namespace Go.Proofs.YtidgpkccjcddgaaGreatDoor.F
open Go.RowKit Go.Shelf
def Fr (w W : World) (bs : List (Nat × List Value)) : Prop := Below w.heap.size w W ∧ ∀ p, p ∈ bs → Own W p.1 p.2
theorem Fr.refl (w : World) : Fr w w [] := ⟨Below.refl _ _, fun _ h => by cases h⟩
theorem Fr.bel {w W : World} {bs : List (Nat × List Value)} (h : Fr w W bs) : Below w.heap.size w W := h.1
theorem Fr.own {w W : World} {bs : List (Nat × List Value)} (h : Fr w W bs) {g : Nat} {cs : List Value} (hm : (g, cs) ∈ bs) : Own W g cs := h.2 _ hm
theorem Fr.cellAt {w W : World} {bs : List (Nat × List Value)} (h : Fr w W bs) {g : Nat} {cs : List Value} (hm : (g, cs) ∈ bs) (i : Nat) (hi : i < cs.length) : W.cell? ⟨g, i, none⟩ = some cs[i] := (h.own hm).cell i hi
theorem Fr.ownN {w W : World} {bs : List (Nat × List Value)} (h : Fr w W bs) {g : Nat} {cs : List Value} (k : Nat) (hk : bs[k]? = some (g, cs)) : Own W g cs := h.2 _ (List.mem_of_getElem? hk)
theorem Fr.cellN {w W : World} {bs : List (Nat × List Value)} (h : Fr w W bs) {g : Nat} {cs : List Value} (k : Nat) (hk : bs[k]? = some (g, cs)) (i : Nat) {v : Value} (hi : cs[i]? = some v) : W.cell? ⟨g, i, none⟩ = some v := by
 obtain ⟨h1, h2⟩ := List.getElem?_eq_some_iff.1 hi
 rw [(h.ownN k hk).cell i h1, h2]
theorem Fr.frozenN {w W : World} {bs : List (Nat × List Value)} (h : Fr w W bs) {g : Nat} {cs : List Value} (k : Nat) (hk : bs[k]? = some (g, cs)) (i : Nat) : W.frozen? ⟨g, i, none⟩ = false := (h.ownN k hk).frozen i
theorem Fr.ltN {w W : World} {bs : List (Nat × List Value)} (h : Fr w W bs) {g : Nat} {cs : List Value} (k : Nat) (hk : bs[k]? = some (g, cs)) : g < W.heap.size := (h.ownN k hk).lt
theorem Fr.frozen {w W : World} {bs : List (Nat × List Value)} (h : Fr w W bs) {g : Nat} {cs : List Value} (hm : (g, cs) ∈ bs) (i : Nat) : W.frozen? ⟨g, i, none⟩ = false := (h.own hm).frozen i
theorem Fr.below {w W W' : World} {bs : List (Nat × List Value)} (h : Fr w W bs) (hb : Below W.heap.size W W') : Fr w W' bs :=
 ⟨h.1.trans (hb.mono h.1.size), fun p hp => (h.2 p hp).below hb (h.2 p hp).lt⟩
theorem Fr.alloc {w W : World} {bs : List (Nat × List Value)} (h : Fr w W bs) (o : Obj) : Fr w (W.alloc o) bs := h.below ((Below.refl _ _).alloc (Nat.le_refl _) o)
theorem Fr.drewN {w W : World} {bs : List (Nat × List Value)} (h : Fr w W bs) (n : Nat) : Fr w (W.drewN n) bs := h.below (below_drewN (Below.refl _ _) n)
theorem Fr.drew {w W : World} {bs : List (Nat × List Value)} (h : Fr w W bs) : Fr w W.drew bs := h.below (Below.drew (Below.refl _ _))
theorem Fr.box {w W : World} {bs : List (Nat × List Value)} (h : Fr w W bs) (cs : List Value) (t : TypeId) : Fr w (W.alloc (.cells cs.toArray t (0, 0))) ((W.heap.size, cs) :: bs) :=
 ⟨(h.alloc _).1, fun p hp => by
   rcases List.mem_cons.1 hp with rfl | hp
   · exact Own.mk _ _
   · exact (h.alloc _).2 p hp⟩
theorem Fr.set {w W : World} {bs : List (Nat × List Value)} {g : Nat} {cs : List Value} (h : Fr w W ((g, cs) :: bs)) (hg : w.heap.size ≤ g) (hn : ∀ p, p ∈ bs → p.1 ≠ g) (i : Nat) (v : Value) : Fr w (W.setCell ⟨g, i, none⟩ v) ((g, cs.set i v) :: bs) :=
 ⟨h.1.setCell hg v, fun p hp => by
  rcases List.mem_cons.1 hp with rfl | hp
  · exact (h.own (List.mem_cons_self ..)).set i v
  · exact (h.2 p (List.mem_cons_of_mem _ hp)).far (hn p hp) v⟩
theorem Fr.setN {w W : World} {bs : List (Nat × List Value)} (h : Fr w W bs) {g : Nat} {cs : List Value} (k : Nat) (hk : bs[k]? = some (g, cs)) (hg : w.heap.size ≤ g) (hn : ∀ p ∈ bs.eraseIdx k, p.1 ≠ g) (i : Nat) (v : Value) : Fr w (W.setCell ⟨g, i, none⟩ v) (bs.set k (g, cs.set i v)) :=
 ⟨h.1.setCell hg v, fun p hp => by
  obtain ⟨j, hj⟩ := List.mem_iff_getElem?.1 hp
  rw [List.getElem?_set] at hj
  split at hj
  · split at hj
    · obtain rfl := Option.some.inj hj
      exact (h.ownN k hk).set i v
    · cases hj
  · rename_i hkj
    have hm : p ∈ bs.eraseIdx k := by
     refine List.mem_iff_getElem?.2 ?_
     by_cases hlt : j < k
     · exact ⟨j, by rw [List.getElem?_eraseIdx, if_pos hlt]; exact hj⟩
     · refine ⟨j - 1, ?_⟩
       rw [List.getElem?_eraseIdx, if_neg (by omega), show j - 1 + 1 = j by omega]
       exact hj
    exact (h.2 p (List.mem_of_getElem? hj)).far (hn p hm) v⟩
theorem Fr.size {w W : World} {bs : List (Nat × List Value)} (h : Fr w W bs) : w.heap.size ≤ W.heap.size := h.1.size
theorem Fr.lt {w W : World} {bs : List (Nat × List Value)} (h : Fr w W bs) {g : Nat} {cs : List Value} (hm : (g, cs) ∈ bs) : g < W.heap.size := (h.own hm).lt
theorem end_int {w W : World} {bs : List (Nat × List Value)} {g : Nat} {n : Int} {A : Option Addr} {c : Nat} {x y : Value} (h : Fr w W ((g, [x, y]) :: bs)) (hx : ∀ z, Value.int .u32 z ≠ x) (hy : ∀ z, Value.int .u32 z ≠ y) (hg : w.heap.size ≤ g) (hc : (dg n.natAbs).length ≤ c) (hr : Rn W A (dg n.natAbs)) {W' : World}
 (hW : W' = (W.setCell ⟨g, 0, none⟩ (.bool (decide (n < 0)))).setCell ⟨g, 1, none⟩ (.slice A (dg n.natAbs).length c)) :
 ToldI w n (.returned (.agg #[.bool (decide (n < 0)), .slice A (dg n.natAbs).length c])) W' ∧ Own W' g [.bool (decide (n < 0)), .slice A (dg n.natAbs).length c] := by
 subst hW
 have ho := h.own (List.mem_cons_self ..)
 refine ⟨⟨A, c, rfl, hc, ?_, (h.1.setCell hg _).setCell hg _⟩, (ho.set 0 _).set 1 _⟩
 refine (hr.far ho ?_ 0 _).far (ho.set 0 _) ?_ 1 _
 · intro z hz
   rcases List.mem_cons.1 hz with h1 | h1
   · exact hx z h1
   · rcases List.mem_cons.1 h1 with h2 | h2
     · exact hy z h2
     · cases h2
 · intro z hz
   rcases List.mem_cons.1 hz with h1 | h1
   · cases h1
   · rcases List.mem_cons.1 h1 with h2 | h2
     · exact hy z h2
     · cases h2
structure In (w : World) (A : Option Addr) (c : Nat) (xs : List Int) : Prop where
 row : Rn w A xs
 lim : Lim xs
 cap : xs.length ≤ c
theorem In.below {w W : World} {A : Option Addr} {c : Nat} {xs : List Int} (h : In w A c xs) (hb : Below w.heap.size w W) : In W A c xs := ⟨Knd.Row.below hb h.row, h.lim, h.cap⟩
theorem In.dg {w : World} {A : Option Addr} {c n : Nat} (h : Rn w A (dg n)) (hc : (dg n).length ≤ c) : In w A c (dg n) := ⟨h, Lim_dg n, hc⟩
theorem In.nil (w : World) (A : Option Addr) (c : Nat) : In w A c [] := ⟨Rn.nil _ _, Lim.nil, Nat.zero_le _⟩
theorem iv_can (n : Int) : iv (decide (n < 0)) (V (dg n.natAbs)) = n := by
 rw [V_dg]; unfold iv; split
 · rename_i h; have := of_decide_eq_true h; omega
 · rename_i h; have : ¬ n < 0 := by simpa using h
   omega
theorem iv_natAbs {xs : List Int} (h : Lim xs) (s : Bool) : (iv s (V xs)).natAbs = (V xs).toNat := by
 have := V_nonneg h
 unfold iv; split <;> omega
theorem iv_lt {xs : List Int} (h : Lim xs) (s : Bool) : ((iv s (V xs)).natAbs : Int) < Bp xs.length := by
 rw [iv_natAbs h]
 have := V_nonneg h
 have := V_lt h
 omega
theorem dg_abs_le {n : Int} {k : Nat} (h : (n.natAbs : Int) < Bp k) : (dg n.natAbs).length ≤ k := dg_length_le h
theorem abs_mul_lt {m n : Int} {i j : Nat} (h : (m.natAbs : Int) < Bp i) (k : (n.natAbs : Int) < Bp j) : ((m * n).natAbs : Int) < Bp (i + j) := by
 rw [Int.natAbs_mul, Bp_add]
 push_cast
 have h1 : (m.natAbs : Int) * n.natAbs ≤ m.natAbs * Bp j := Int.mul_le_mul_of_nonneg_left (by omega) (by omega)
 have h2 : (m.natAbs : Int) * Bp j < Bp i * Bp j := Int.mul_lt_mul_of_pos_right h (Bp_pos j)
 omega
section
open Go.Proofs.YtidgpkccjcddgaaGreatDoorW.PrintLast
variable {P : Program} {md : Region.Mode} {ops : Array Oper} {Q : Exit → Act → World → Prop} {S : World → Prop} {ds : List Nat}
theorem sa_ {α : Type} {a : List α} {i : Nat} {x : α} : a.toArray.setIfInBounds i x = (a.set i x).toArray := List.setIfInBounds_toArray ..
theorem sb_ {α : Type} {a x : α} {l : List α} : (a :: l).set 0 x = x :: l := List.set_cons_zero
theorem sc_ {α : Type} {a x : α} {l : List α} {n : Nat} : (a :: l).set (n + 1) x = a :: l.set n x := List.set_cons_succ
theorem pu_ (i : Nat) (N : Option Tmp) {oi : Oper} {v : Value} {fuel : Nat} {l : Array Bool} {a : Act} {w : World} (hi : ops[i]? = some oi) (hN : oi.dst = N)
 (hr : ∀ w', (execOp a.eval oi).run P w' = .ok (.value v) w') {a' : Act} (ha : a.put N v = a')
 (h : wpAnyLast P md ops Q S ds fuel (l.setIfInBounds i true) a' w) (hc : anyB md ops l (l.setIfInBounds i true) i = true := by kernel_rfl) (hQ : ∀ c a w, Q (.panic c) (a.put oi.dst v) w → Q (.panic c) a w := by exact fun _ _ _ h => h) (hw : Region.wanted oi (yielded ops a.tmps) = true := by rfl) : wpAnyLast P md ops Q S ds (fuel + 1) l a w := pure_ _ hi hN hc hQ (Or.inl ⟨hw, hr⟩) ha h
theorem tk_ (i : Nat) (N : Option Tmp) {oi : Oper} {v : Value} {fuel : Nat} {l : Array Bool} {a : Act} {w : World} (hi : ops[i]? = some oi) (hN : oi.dst = N)
 (hr : ∀ w', S w' → (execOp a.eval oi).run P w' = .ok (.value v) w') (hS : S w) {a' : Act} (ha : a.put N v = a')
 (h : wpAnyLast P md ops Q S ds fuel (l.setIfInBounds i true) a' w) (hc : takeB md ops ds l (l.setIfInBounds i true) i = true := by kernel_rfl) (hQ : ∀ c a w, Q (.panic c) (a.put oi.dst v) w → Q (.panic c) a w := by exact fun _ _ _ h => h) (hw : Region.wanted oi (yielded ops a.tmps) = true := by rfl) : wpAnyLast P md ops Q S ds (fuel + 1) l a w := take_ _ hi hN hc hQ (Or.inl ⟨hw, hr⟩) hS ha h
theorem on_ (i : Nat) {N : Option Tmp} {oi : Oper} {fuel : Nat} {l : Array Bool} {a : Act} {w : World} (hi : ops[i]? = some oi) (hN : oi.dst = N)
 (h : ∀ K : Act → World → Prop, Shut (∀ a' w', S w' → (S w' → wpAnyLast P md ops Q S ds fuel (l.setIfInBounds i true) a' w') → K a' w') → if Region.wanted oi (yielded ops a.tmps) = true then Oper.wp P oi a w K Q else K (a.put N undef) w) (hc : readyB md ops l (l.setIfInBounds i true) i = true := by kernel_rfl) (hd : i ∉ ds := by decide) :
 wpAnyLast P md ops Q S ds (fuel + 1) l a w := one_ _ hi hN hc hd h
theorem ls_ (i : Nat) {N : Option Tmp} {oi : Oper} {fuel : Nat} {l : Array Bool} {a : Act} {w : World} (hi : ops[i]? = some oi) (hN : oi.dst = N)
 (h : ∀ K : Act → World → Prop, Shut (∀ a' w', wpAnyLast P md ops Q S ds fuel (l.setIfInBounds i true) a' w' → K a' w') → if Region.wanted oi (yielded ops a.tmps) = true then Oper.wp P oi a w K Q else K (a.put N undef) w) (hc : readyB md ops l (l.setIfInBounds i true) i = true := by kernel_rfl) (hd : i ∈ ds := by decide) :
 wpAnyLast P md ops Q S ds (fuel + 1) l a w := last_ _ hi hN hc hd h
end
end Go.Proofs.YtidgpkccjcddgaaGreatDoor.F
