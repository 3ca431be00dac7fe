/- Foundation: how lists are read out of memory (a slice's cells, element by element), and that such a reading outlasts whatever only adds memory. No condition. -/
import Derived.WalkKit
import Derived.KernelRfl
import Derived.Lib.Hide
import Derived.Deep.LoopGhost
import Derived.Deep.QuietTactic
import Derived.BigQuiet
import Derived.Deep.Draws
import Derived.WideLaws
import Derived.Laws.CopyOwn
import Derived.Deep.CutBlock
import Derived.Deep.DeepCutAuto
import Derived.Shelf.Abstract
import Derived.Lib.MinMax
import Derived.Test.YtafmomlgkehdfaaDoorNum
set_option linter.unusedVariables false
namespace Go.Proofs.YtafmomlgkehdfaaDoor.F
open Go.RowKit

/-- A kind: how a value of a Lean type stands in cells; it outlasts what only adds memory. -/
structure Knd (α : Type) where
  sz : Nat
  C : World → α → List Value → Prop
  len : ∀ {w : World} {x : α} {cs : List Value}, C w x cs → cs.length = sz
  below : ∀ {w w1 : World} {x : α} {cs : List Value}, Below w.heap.size w w1 → C w x cs → C w1 x cs

theorem cell_below {w w1 : World} (hb : Below w.heap.size w w1) {a : Addr} {v : Value} (hc : w.cell? a = some v) : w1.cell? a = some v :=
  (hb.cell (World.block_lt_of_cell? w a hc)).trans hc

theorem below_drewN {B : Nat} {a w : World} (h : Below B a w) (n : Nat) : Below B a (w.drewN n) := ⟨h.os, h.tape, h.output, h.size, h.block⟩

namespace Knd
/-- The row at A: element i's cells lie from A + i * sz on. -/
def Row {α : Type} (d : Knd α) (w : World) (A : Option Addr) (xs : List α) : Prop :=
  ∀ (i : Nat) (h : i < xs.length), ∃ ad cs, A = some ad ∧ d.C w xs[i] cs ∧ ∀ (j : Nat) u, cs[j]? = some u → w.cell? (ad.add (i * d.sz + j)) = some u

theorem Row.below {α : Type} {d : Knd α} {w w1 : World} {A : Option Addr} {xs : List α} (hb : Below w.heap.size w w1) (h : d.Row w A xs) : d.Row w1 A xs := by
  intro i hi
  obtain ⟨ad, cs, e, hC, hc⟩ := h i hi
  exact ⟨ad, cs, e, d.below hb hC, fun j u hu => cell_below hb (hc j u hu)⟩

def int (k : IntKind) : Knd Int := ⟨1, fun _ x cs => cs = [.int k x], fun h => by rw [h]; rfl, fun _ h => h⟩
def bool : Knd Bool := ⟨1, fun _ x cs => cs = [.bool x], fun h => by rw [h]; rfl, fun _ h => h⟩
def slice {α : Type} (d : Knd α) : Knd (List α) :=
  ⟨1, fun w xs cs => ∃ A c, cs = [.slice A xs.length c] ∧ xs.length ≤ c ∧ xs.length ≤ 9223372036854775807 ∧ d.Row w A xs,
   fun ⟨_, _, h, _⟩ => by rw [h]; rfl, fun hb ⟨A, c, h1, h2, h3, h4⟩ => ⟨A, c, h1, h2, h3, h4.below hb⟩⟩

theorem row_nil {α : Type} (d : Knd α) (w : World) (A : Option Addr) : d.Row w A ([] : List α) := fun i h => by simp at h

theorem at_int {k : IntKind} {w : World} {A : Option Addr} {xs : List Int} (h : (int k).Row w A xs) (i : Nat) (hi : i < xs.length) : ∃ ad, A = some ad ∧ w.cell? (ad.add i) = some (.int k xs[i]) := by
  obtain ⟨ad, cs, e, hC, hc⟩ := h i hi
  have hC' : cs = [.int k xs[i]] := hC
  subst hC'
  refine ⟨ad, e, ?_⟩
  have := hc 0 _ rfl
  rwa [show i * (int k).sz + 0 = i from by show i * 1 + 0 = i; omega] at this

theorem at_bool {w : World} {A : Option Addr} {xs : List Bool} (h : bool.Row w A xs) (i : Nat) (hi : i < xs.length) : ∃ ad, A = some ad ∧ w.cell? (ad.add i) = some (.bool xs[i]) := by
  obtain ⟨ad, cs, e, hC, hc⟩ := h i hi
  have hC' : cs = [.bool xs[i]] := hC
  subst hC'
  refine ⟨ad, e, ?_⟩
  have := hc 0 _ rfl
  rwa [show i * bool.sz + 0 = i from by show i * 1 + 0 = i; omega] at this

theorem at_slice {α : Type} {d : Knd α} {w : World} {A : Option Addr} {xs : List (List α)} (h : d.slice.Row w A xs) (i : Nat) (hi : i < xs.length) :
    ∃ ad B c, A = some ad ∧ w.cell? (ad.add i) = some (.slice B xs[i].length c) ∧ xs[i].length ≤ c ∧ xs[i].length ≤ 9223372036854775807 ∧ d.Row w B xs[i] := by
  obtain ⟨ad, cs, e, hC, hc⟩ := h i hi
  obtain ⟨B, c, rfl, h1, h2, h3⟩ := hC
  refine ⟨ad, B, c, e, ?_, h1, h2, h3⟩
  have := hc 0 _ rfl
  rwa [show i * d.slice.sz + 0 = i from by show i * 1 + 0 = i; omega] at this

def string : Knd ByteArray := ⟨1, fun _ x cs => cs = [.string x], fun h => by rw [h]; rfl, fun _ h => h⟩
/-- two things, one behind the other -/
def pair {α β : Type} (d : Knd α) (e : Knd β) : Knd (α × β) :=
  ⟨d.sz + e.sz, fun w x cs => ∃ c1 c2, cs = c1 ++ c2 ∧ d.C w x.1 c1 ∧ e.C w x.2 c2,
   fun ⟨c1, c2, h, h1, h2⟩ => by rw [h, List.length_append, d.len h1, e.len h2], fun hb ⟨c1, c2, h, h1, h2⟩ => ⟨c1, c2, h, d.below hb h1, e.below hb h2⟩⟩
end Knd

/-! ### numbers in memory -/
/-- the limbs xs lie from A on -/
abbrev Rn (w : World) (A : Option Addr) (xs : List Int) : Prop := (Knd.int .u32).Row w A xs

theorem Rn.take {w : World} {A : Option Addr} {xs : List Int} (h : Rn w A xs) (n : Nat) : Rn w A (xs.take n) := by
  intro i hi
  rw [List.length_take] at hi
  obtain ⟨ad, cs, e, hC, hc⟩ := h i (by omega)
  exact ⟨ad, cs, e, by rw [List.getElem_take]; exact hC, hc⟩
theorem Rn.drop {w : World} {A : Option Addr} {xs : List Int} (h : Rn w A xs) (n : Nat) : Rn w (A.map (·.add n)) (xs.drop n) := by
  intro i hi
  rw [List.length_drop] at hi
  obtain ⟨ad, cs, e, hC, hc⟩ := h (n + i) (by omega)
  refine ⟨ad.add n, cs, by rw [e]; rfl, by rw [List.getElem_drop]; exact hC, fun j u hu => ?_⟩
  have := hc j u hu
  rw [show (ad.add n).add (i * (Knd.int .u32).sz + j) = ad.add ((n + i) * (Knd.int .u32).sz + j) from by
    show (ad.add n).add (i * 1 + j) = ad.add ((n + i) * 1 + j)
    unfold Addr.add
    by_cases hn : n = 0
    · subst hn; simp
    · by_cases h0 : i * 1 + j = 0
      · rw [if_pos h0, if_neg hn, if_neg (by omega)]
        congr 1
        omega
      · rw [if_neg h0, if_neg hn, if_neg (by omega)]
        simp only
        congr 1
        omega]
  exact this
theorem Rn.nil (w : World) (A : Option Addr) : Rn w A [] := Knd.row_nil _ _ _

/-- block g holds just these cells, and may be written -/
def Own (w : World) (g : Nat) (cs : List Value) : Prop := ∃ t, w.heap[g]? = some (.cells cs.toArray t (0, 0))
abbrev OwnN (w : World) (g : Nat) (xs : List Int) : Prop := Own w g (xs.map (Value.int .u32))

theorem Own.lt {w : World} {g : Nat} {cs : List Value} (h : Own w g cs) : g < w.heap.size := by
  obtain ⟨t, h⟩ := h
  exact (Array.getElem?_eq_some_iff.1 h).1
theorem Own.cell {w : World} {g : Nat} {cs : List Value} (h : Own w g cs) (i : Nat) (hi : i < cs.length) : w.cell? ⟨g, i, none⟩ = some cs[i] := by
  obtain ⟨t, h⟩ := h
  simp [World.cell?, h, List.getElem?_eq_getElem hi]
theorem Own.frozen {w : World} {g : Nat} {cs : List Value} (h : Own w g cs) (i : Nat) : w.frozen? ⟨g, i, none⟩ = false := by
  obtain ⟨t, h⟩ := h
  simp [World.frozen?, h]
theorem Own.set {w : World} {g : Nat} {cs : List Value} (h : Own w g cs) (i : Nat) (v : Value) : Own (w.setCell ⟨g, i, none⟩ v) g (cs.set i v) := by
  obtain ⟨t, h⟩ := h
  have hlt := (Array.getElem?_eq_some_iff.1 h).1
  refine ⟨t, ?_⟩
  simp only [World.setCell, Array.getElem?_modify, if_pos, h]
  simp
theorem Own.far {w : World} {g : Nat} {cs : List Value} (h : Own w g cs) {p : Addr} (hp : g ≠ p.block) (v : Value) : Own (w.setCell p v) g cs := by
  obtain ⟨t, h⟩ := h
  exact ⟨t, (Below.heap_setCell w p v g hp).trans h⟩
theorem Own.below {w w1 : World} {g B : Nat} {cs : List Value} (h : Own w g cs) (hb : Below B w w1) (hg : g < B) : Own w1 g cs := by
  obtain ⟨t, h⟩ := h
  exact ⟨t, (hb.block g hg).trans h⟩
theorem Own.alloc {w : World} {g : Nat} {cs : List Value} (h : Own w g cs) (o : Obj) : Own (w.alloc o) g cs := by
  obtain ⟨t, h'⟩ := h
  exact ⟨t, (Below.heap_alloc w o g (Array.getElem?_eq_some_iff.1 h').1).trans h'⟩
theorem Own.drewN {w : World} {g : Nat} {cs : List Value} (h : Own w g cs) (n : Nat) : Own (w.drewN n) g cs := h
theorem Own.drew {w : World} {g : Nat} {cs : List Value} (h : Own w g cs) : Own w.drew g cs := h
theorem Own.mk {w : World} (cs : List Value) (t : TypeId) : Own (w.alloc (.cells cs.toArray t (0, 0))) w.heap.size cs := ⟨t, by show (w.heap.push _)[w.heap.size]? = _; simp⟩

theorem OwnN.cell {w : World} {g : Nat} {xs : List Int} (h : OwnN w g xs) (i : Nat) (hi : i < xs.length) : w.cell? ⟨g, i, none⟩ = some (.int .u32 xs[i]) := by
  rw [Own.cell h i (by simpa using hi)]; simp
theorem OwnN.set {w : World} {g : Nat} {xs : List Int} (h : OwnN w g xs) (i : Nat) (y : Int) : OwnN (w.setCell ⟨g, i, none⟩ (.int .u32 y)) g (xs.set i y) := by
  have := Own.set h i (.int .u32 y)
  rwa [← List.map_set] at this
theorem OwnN.row {w : World} {g : Nat} {xs : List Int} (h : OwnN w g xs) : Rn w (some ⟨g, 0, none⟩) xs := by
  intro i hi
  refine ⟨⟨g, 0, none⟩, [.int .u32 xs[i]], rfl, rfl, fun j u hu => ?_⟩
  have hj : j = 0 := by
    cases j with
    | zero => rfl
    | succ j => simp at hu
  subst hj
  simp at hu
  subst hu
  rw [show (⟨g, 0, none⟩ : Addr).add (i * (Knd.int .u32).sz + 0) = ⟨g, i, none⟩ from by
    show (⟨g, 0, none⟩ : Addr).add (i * 1 + 0) = ⟨g, i, none⟩
    unfold Addr.add
    split
    · congr 1; omega
    · simp]
  exact OwnN.cell h i hi

/-- what a make lays, elements of one cell -/
theorem own_made (w : World) (z : Value) (n : Nat) (t : TypeId) : Own (w.alloc (.cells (madeCells #[z] n) t)) w.heap.size (List.replicate n z) := by
  refine ⟨t, ?_⟩
  show (w.heap.push _)[w.heap.size]? = _
  rw [Array.getElem?_push_size, ← toList_madeCells_one]
theorem own_zeros (w : World) (n : Nat) (t : TypeId) : OwnN (w.alloc (.cells (madeCells #[.int .u32 0] n) t)) w.heap.size (List.replicate n 0) := by
  have := own_made w (.int .u32 0) n t
  rwa [← List.map_replicate] at this
theorem run_makeN {P : Program} (t e : TypeId) (i : TypeInfo) (z : Value) (ht : P.underlying t = some (.slice e)) (hi : P.info? e = some i) (hz : i.zero = some z)
    (kl kc : IntKind) (n c : Nat) (hnc : n ≤ c) (hbytes : i.bytes * c ≤ 281474976710656) (h63 : c ≤ 9223372036854775807) (w : World) :
    (Instr.makeSlice t (.int kl (n : Int)) (.int kc (c : Int))).run P w = .ok (.slice (some ⟨w.heap.size, 0, none⟩) n c) (w.alloc (.cells (madeCells z.cells (c * i.size)) e)) := by
  have hb : (i.bytes : Int) * (c : Int) ≤ 281474976710656 := by
    have h : ((i.bytes * c : Nat) : Int) ≤ 281474976710656 := by omega
    rwa [Int.natCast_mul] at h
  have hr := run_make (P := P) w t e i z ht hi hz kl kc n c (by omega) (by omega) hb (by omega)
  simp only [Int.toNat_natCast] at hr
  exact hr
/-- make of limbs, as the walk asks it -/
theorem run_makeL {P : Program} (t e : TypeId) (ht : P.underlying t = some (.slice e)) (hi : (P.info? e).map (fun i => (i.zero, i.size, i.bytes)) = some (some (.int .u32 0), 1, 4))
    (x : Int) (n : Nat) (hx : x = n) (hb : n ≤ 70368744177664) (w : World) :
    (Instr.makeSlice t (.int .i64 x) (.int .i64 x)).run P w = .ok (.slice (some ⟨w.heap.size, 0, none⟩) n n) (w.alloc (.cells (madeCells #[.int .u32 0] n) e)) := by
  subst hx
  obtain ⟨i, hi0, hz, hs, hby⟩ := info_parts hi
  have := run_makeN (P := P) t e i (.int .u32 0) ht hi0 hz .i64 .i64 n n (Nat.le_refl _) (by rw [hby]; omega) (by omega) w
  rw [hs, Nat.mul_one] at this
  exact this

/-- copy over a whole number of one's own -/
theorem wpList_copyN {P : Program} {w : World} {ops : Array Oper} {rest : List Oper} {o : Oper} {a : Act} {Q : Exit → Act → World → Prop} (hgd : o.guard = none) (d s : Operand) (dT sT : TypeId)
    (ho : o.op = .call { callee := .builtin .copy, args := #[d, s], argTypes := #[dT, sT] }) (elem : TypeId) (hu : P.underlying dT = some (.slice elem)) (hsz : (P.info? elem).map (·.size) = some 1)
    (sp : Option Addr) (n dCap sCap g : Nat) (hd : a.eval d = .slice (some ⟨g, 0, none⟩) n dCap) (hs : a.eval s = .slice sp n sCap)
    (ys cur : List Int) (hlen : ys.length = n) (hr : Rn w sp ys) (hcur : cur.length = n) (hown : OwnN w g cur) (B : Nat) (w0 : World) (hb : Below B w0 w) (hBg : B ≤ g)
    (h : ∀ w', Hid (OwnN w' g ys) → Hid (Below B w0 w') → wpList P ops Q rest (a.put o.dst (goInt n)) w') :
    wpList P ops Q (o :: rest) a w := by
  obtain ⟨t, hg⟩ := hown
  refine wpList_copy_splice hgd d s dT sT ho elem hu hsz (some ⟨g, 0, none⟩) sp n dCap n sCap hd hs g 0 (cur.map (Value.int .u32)) t hg (ys.map (Value.int .u32)) (by simp [hlen]) (fun hp => ⟨rfl, ?_⟩)
    (by simp [hlen, hcur]) (by simp [Value.oneCell']) B w0 hb hBg (fun w' h1 h2 => ?_)
  · have hp' : 0 < ys.length := by simpa using hp
    obtain ⟨ad, e, _⟩ := Knd.at_int hr 0 hp'
    refine ⟨ad, e, fun j v hj => ?_⟩
    obtain ⟨hj1, hj2⟩ := List.getElem?_eq_some_iff.1 hj
    have hj3 : j < ys.length := by simpa using hj1
    obtain ⟨ad', e', hc⟩ := Knd.at_int hr j hj3
    rw [e] at e'
    cases e'
    rw [hc, ← hj2]
    simp
  · have h1' := h1.out
    have e : splice (cur.map (Value.int .u32)) 0 (ys.map (Value.int .u32)) = ys.map (Value.int .u32) := by
      unfold splice
      rw [List.take_zero, List.nil_append, List.drop_of_length_le (by simp [hlen, hcur]), List.append_nil]
    rw [e] at h1'
    have := h w' (show Hid _ from ⟨t, h1'⟩) (show Hid _ from h2)
    simpa [hlen] using this

/-- only draws lie between -/
def Dr (w w' : World) : Prop := ∃ n, w' = w.drewN n
theorem Dr.refl (w : World) : Dr w w := ⟨0, rfl⟩
theorem Dr.step {w w' : World} (h : Dr w w') (n : Nat) : Dr w (w'.drewN n) := by
  obtain ⟨m, rfl⟩ := h
  exact ⟨m + n, World.drewN_drewN _ _ _⟩
theorem i64w {x : Int} (h0 : -9223372036854775808 ≤ x) (h1 : x ≤ 9223372036854775807) : IntKind.i64.wrap x = x := by rw [IntKind.wrap_i64]; omega
theorem u64w {x : Int} (h0 : 0 ≤ x) (h1 : x < 18446744073709551616) : IntKind.u64.wrap x = x := by rw [IntKind.wrap_u64]; omega
theorem ret_bool {a b : Bool} (h : a = b) : Ending.returned (.bool a) = .returned (.bool b) := by rw [h]
theorem ret_slice {A : Option Addr} {n m c : Nat} (h : n = m) : Ending.returned (.slice A n c) = .returned (.slice A m c) := by rw [h]
theorem ret_int {k : IntKind} {a b : Int} (h : a = b) : Ending.returned (.int k a) = .returned (.int k b) := by rw [h]

end Go.Proofs.YtafmomlgkehdfaaDoor.F
