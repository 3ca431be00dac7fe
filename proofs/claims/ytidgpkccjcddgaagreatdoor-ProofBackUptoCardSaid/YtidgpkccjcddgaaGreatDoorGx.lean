/- strings.Builder at this program (its copy check's other way is cut off): WriteString, String; strconv.Itoa. Condition: at most 2^47 bytes; the table of powers lies as laid. -/
import Derived.Test.YtidgpkccjcddgaaGreatDoorGw
import Derived.Test.YtidgpkccjcddgaaGreatDoorGv
import Derived.Lib.Builder
import Derived.Lib.AppendStr
import Derived.Lib.UnsafeStr
import Derived.Laws.Externs
set_option linter.unusedVariables false
set_option linter.unusedSimpArgs false
namespace Go.Proofs.YtidgpkccjcddgaaGreatDoor.F
open Go.RowKit Go.Shelf Go.Proofs.YtidgpkccjcddgaaGreatDoorW.PrintLast
theorem sizeBld : (Tryz.prog.info? 91).map (·.size) = some 2 := by kernel_rfl
theorem liesBld : liesAt Tryz.prog Tryz.prog.depth 91 (2 / Tryz.prog.cellsOf 91) 0 91 1 = true := by kernel_rfl
theorem infoByte : (Tryz.prog.info? 5).map (fun i => (i.zero, i.size, i.bytes)) = some (some (.int .u8 0), 1, 1) := by kernel_rfl
set_option maxHeartbeats 1000000 in
set_option maxRecDepth 100000 in
theorem bld_used (b : Nat) (w : World) (h0 : w.cell? ⟨b, 0, none⟩ = some (.pointer (some ⟨b, 0, none⟩))) :
 Calls Tryz.prog 110 #[.pointer (some ⟨b, 0, none⟩)] w fun e w' => e = .returned (.tuple #[]) ∧ w' = w := by
 obtain ⟨j, hj, _⟩ := Option.map_eq_some_iff.1 sizeBld
 go_enter Tryz.func110, Tryz.ntmps110
 go_wp2
 rw [Lib.run_neq_ptr_same w _ Tryz.underlying88 hj]
 go_wp2
 go_end0
 exact ⟨rfl, rfl⟩
set_option maxHeartbeats 1000000 in
set_option maxRecDepth 100000 in
theorem bld_fresh (b : Nat) (w : World) (h0 : w.cell? ⟨b, 0, none⟩ = some (.pointer none)) (hsh : w.shape? b = some (91, 2)) (hfz : w.frozen? ⟨b, 0, none⟩ = false) :
 Calls Tryz.prog 110 #[.pointer (some ⟨b, 0, none⟩)] w fun e w' => e = .returned (.tuple #[]) ∧ w' = w.setCell ⟨b, 0, none⟩ (.pointer (some ⟨b, 0, none⟩)) := by
 obtain ⟨j, hj, hjs⟩ := Option.map_eq_some_iff.1 sizeBld
 go_enter Tryz.func110, Tryz.ntmps110
 go_wp2
 rw [Lib.run_to_unsafe w ⟨b, 0, none⟩ Tryz.underlying88 Tryz.underlying218 hj (by rw [hjs]; decide) hsh (Nat.zero_lt_succ 1)]
 simp only [Result.andThen]
 rw [Oper.upon_value]
 go_wp2
 rw [run_callFunc_extern Tryz.func177 (by kernel_rfl) (by kernel_rfl) (by kernel_rfl) (e := Extern.AbiNoEscape.same) (by kernel_rfl)]
 rw [Lib.run_noEscape]
 simp only [Result.andThen]
 rw [Oper.upon_value]
 go_wp2
 rw [Lib.run_from_unsafe w ⟨b, 0, none⟩ Tryz.underlying218 Tryz.underlying88 hj hsh liesBld]
 simp only [Result.andThen]
 rw [Oper.upon_value]
 go_wp2
 go_end0
 exact ⟨rfl, rfl⟩
theorem bld_check (B b : Nat) (bs : List Value) (w : World) (h : Lib.IsBuilder 91 5 B b bs w) :
 Calls Tryz.prog 110 #[.pointer (some ⟨b, 0, none⟩)] w fun e w' => e = .returned (.tuple #[]) ∧ (Lib.BuilderAt 91 5 B b (.pointer (some ⟨b, 0, none⟩)) bs w' ∧ Below B w w') := by
 rcases h with h | h
 · refine (bld_fresh b w h.cell0 h.shape h.frozen0).mono ?_
   rintro e w' ⟨rfl, rfl⟩
   exact ⟨rfl, h.used _, (Below.refl B w).setCell (p := ⟨b, 0, none⟩) h.1 _⟩
 · refine (bld_used b w h.cell0).mono ?_
   rintro e w' ⟨rfl, rfl⟩
   exact ⟨rfl, h, Below.refl B _⟩
set_option maxHeartbeats 2000000 in
set_option maxRecDepth 100000 in
theorem bld_Write (B b : Nat) (l m : List UInt8) (w : World) (h : Lib.IsBuilder 91 5 B b (Lib.byteCells l) w) (hlen : l.length + m.length ≤ 140737488355328) (hBw : B ≤ w.heap.size) :
 Calls Tryz.prog 46 #[.pointer (some ⟨b, 0, none⟩), .string ⟨m.toArray⟩] w fun e w' => (∃ v, e = .returned v) ∧ (Lib.IsBuilder 91 5 B b (Lib.byteCells (l ++ m)) w' ∧ Below B w w') := by
 obtain ⟨i0, hi, hz0, hz1, hz2⟩ := info_parts infoByte
 have hsz : (⟨m.toArray⟩ : ByteArray).size = m.length := by show m.toArray.size = _; rw [List.size_toArray]
 have hC := Lib.hid (bld_check B b (Lib.byteCells l) w h)
 have hbl := Lib.byteCells_length l
 have hE := Lib.hid (show Lib.byteCells (l ++ m) = Lib.byteCells l ++ Lib.strCells ⟨m.toArray⟩ from Lib.byteCells_append l m)
 clear h
 generalize hS : (⟨m.toArray⟩ : ByteArray) = S at *
 clear hS
 go_enter Tryz.func46, Tryz.ntmps46
 go_wp2_with fail
 refine hC.out.mono ?_
 rintro e w1 ⟨rfl, h1, hb1⟩
 clear hC
 obtain ⟨hB, v, hbk, hown, hne⟩ := h1
 have c0 : w1.cell? ⟨b, 0, none⟩ = some (.pointer (some ⟨b, 0, none⟩)) := by rw [Lib.cell_of_heap hbk]; rfl
 have c1 : w1.cell? ⟨b, 1, none⟩ = some v := by rw [Lib.cell_of_heap hbk]; rfl
 go_wp2_with (at_builtin; refine Lib.wpList_append_own_string _ rfl _ _ 89 9 rfl B 5 i0 Tryz.underlying89 Tryz.underlying9 hi hz0 hz1 hz2 _ _ _ rfl hown S rfl ?c3 ?c4 ?c5 ?_)
 case c3 => unfold maxLen; omega
 case c4 => omega
 case c5 => have := hb1.size; omega
 intro v' w2 hown' hgrow _
 have hlt : b < w1.heap.size := by
  rcases Nat.lt_or_ge b w1.heap.size with h' | h'
  · exact h'
  · simp [Array.getElem?_eq_none h'] at hbk
 have hb2 : w2.heap[b]? = some (.cells #[.pointer (some ⟨b, 0, none⟩), v] 91 (0, 0)) := by
  rw [hgrow.block b hlt (fun e => hne e.symm)]
  exact hbk
 have d0 : w2.cell? ⟨b, 0, none⟩ = some (.pointer (some ⟨b, 0, none⟩)) := by rw [Lib.cell_of_heap hb2]; rfl
 have d1 : w2.cell? ⟨b, 1, none⟩ = some v := by rw [Lib.cell_of_heap hb2]; rfl
 have f1 : w2.frozen? ⟨b, 1, none⟩ = false := Lib.frozen_of_heap hb2 1
 obtain ⟨ao, n', cap, rfl⟩ : ∃ ao n' cap, v' = .slice ao n' cap := by
  rcases hown'.2 with ⟨hv, _⟩ | ⟨g, cap, cur, hv, _⟩
  · exact ⟨_, _, _, hv⟩
  · exact ⟨_, _, _, hv⟩
 have HD := Lib.hid hown'
 clear hown'
 go_wp2
 go_ret2
 refine ⟨⟨_, rfl⟩, ?_, ?_⟩
 · right
   rw [hE.out]
   exact Lib.BuilderAt.put (T := 91) (e := 5) hB hb2 (bs' := Lib.byteCells l ++ Lib.strCells S) (by rw [List.length_append, Lib.strCells_length, hbl, hsz]; exact HD.out) (by decide)
 · exact (hb1.grown hgrow (by have := hb1.size; omega) (fun k hk => (hown.lt k hk).1)).setCell (p := ⟨b, 1, none⟩) hB _
theorem bld_below {B b : Nat} {bs : List Value} {w w' : World} (h : Lib.IsBuilder 91 5 B b bs w) (hb : Below w.heap.size w w') : Lib.IsBuilder 91 5 B b bs w' := by
 have key : ∀ p, Lib.BuilderAt 91 5 B b p bs w → Lib.BuilderAt 91 5 B b p bs w' := by
  rintro p ⟨h1, v, h2, h3, h4⟩
  refine ⟨h1, v, by rw [hb.block b (Array.getElem?_eq_some_iff.1 h2).1]; exact h2, ?_, h4⟩
  refine ⟨h3.1, ?_⟩
  rcases h3.2 with h | ⟨g, cap, cur, k1, k2, k3, k4⟩
  · exact .inl h
  · exact .inr ⟨g, cap, cur, k1, k2, by rw [hb.block g (Array.getElem?_eq_some_iff.1 k3).1]; exact k3, k4⟩
 rcases h with h | h
 · exact .inl (key _ h)
 · exact .inr (key _ h)
theorem bld_new (w : World) : Lib.IsBuilder 91 5 w.heap.size w.heap.size (Lib.byteCells []) (w.alloc (.cells #[.pointer none, .slice none 0 0] 91)) := by
 left
 exact ⟨Nat.le_refl _, .slice none 0 0, (MapKept.heap_alloc w _).1, World.ownsRow_nil _ _ _ _, by simp [Value.ownBlock]⟩
def PowTab (w : World) : Prop := Lib.TabIs Tryz.prog w "internal/strconv.uint64pow10" .u64 Lib.pow10Tab
theorem below_grow (w : World) (os : Array Obj) : Below w.heap.size w (Sort.grow w os) := ⟨rfl, rfl, rfl, by unfold Sort.grow; simp, fun k hk => by unfold Sort.grow; simp only; rw [Array.getElem?_append_left hk]⟩
theorem itoa_tab (n : Int) (h : inr n) (w : World) (ht : PowTab w) : Calls Tryz.prog 111 #[.int .i64 n] w fun e w' => e = .returned (.string ⟨(Lib.itoa n).toArray⟩) ∧ Below w.heap.size w w' := by
 refine (strconv_Itoa n h.1 h.2 w ht).mono ?_
 rintro e w' ⟨rfl, k, os, rfl⟩
 have h1 := below_grow (w.drewN k) os
 have h2 : Below w.heap.size w (w.drewN k) := below_drewN (Below.refl _ w) k
 exact ⟨rfl, h2.trans (h1.mono h2.size)⟩
def hexD : List UInt8 := [48, 49, 50, 51, 52, 53, 54, 55, 56, 57, 97, 98, 99, 100, 101, 102]
def hx (n : Nat) : UInt8 := hexD.getD n 0
def hxB (b : UInt8) : List UInt8 := [hx (b.toNat / 16), hx (b.toNat % 16)]
def hexN (l : List UInt8) : List UInt8 := l.flatMap hxB
theorem hexN_len (l : List UInt8) : (hexN l).length = 2 * l.length := by
 unfold hexN
 induction l with
 | nil => rfl
 | cons b l ih => rw [List.flatMap_cons, List.length_append, ih]; simp [hxB]; omega
theorem hexN_snoc (l : List UInt8) (b : UInt8) : hexN (l ++ [b]) = hexN l ++ hxB b := by unfold hexN; simp
def numsT (l : List Int) : List UInt8 := l.flatMap fun n => 32 :: Lib.itoa n
def ratsT (l : List RatD) : List UInt8 := l.flatMap fun q => 32 :: tq (rq q)
theorem numsT_snoc (l : List Int) (n : Int) : numsT (l ++ [n]) = numsT l ++ 32 :: Lib.itoa n := by unfold numsT; simp
theorem ratsT_snoc (l : List RatD) (q : RatD) : ratsT (l ++ [q]) = ratsT l ++ 32 :: tq (rq q) := by unfold ratsT; simp
theorem numsT_cons (n : Int) (l : List Int) : numsT (n :: l) = 32 :: Lib.itoa n ++ numsT l := by unfold numsT; simp
theorem ratsT_cons (q : RatD) (l : List RatD) : ratsT (q :: l) = 32 :: tq (rq q) ++ ratsT l := by unfold ratsT; simp
theorem numsT_take (l : List Int) (i : Nat) (h : i < l.length) : numsT (l.take (i + 1)) = numsT (l.take i) ++ 32 :: Lib.itoa l[i] := by rw [List.take_succ_eq_append_getElem h, numsT_snoc]
theorem ratsT_take (l : List RatD) (i : Nat) (h : i < l.length) : ratsT (l.take (i + 1)) = ratsT (l.take i) ++ 32 :: tq (rq l[i]) := by rw [List.take_succ_eq_append_getElem h, ratsT_snoc]
theorem numsT_len {l : List Int} (h : ∀ x ∈ l, inr x) : (numsT l).length ≤ 23 * l.length := by
 induction l with
 | nil => simp [numsT]
 | cons x l ih =>
  have h1 := itoa_len21 (h x (by simp))
  have h2 := ih fun y hy => h y (by simp [hy])
  rw [numsT_cons, List.length_append, List.length_cons, List.length_cons]
  omega
theorem ratsT_len (l : List RatD) (h : ∀ q ∈ l, Good (wt q) q) : (ratsT l).length ≤ 25 * (l.map wt).sum := by
 induction l with
 | nil => simp [ratsT]
 | cons x l ih =>
  have h1 := tq_len (rq x)
  have h2 := ih fun y hy => h y (by simp [hy])
  have h3 := mu_rq (h x (by simp))
  have h4 : 5 ≤ wt x := by unfold wt; omega
  rw [ratsT_cons, List.length_append, List.length_cons]
  simp only [List.map_cons, List.sum_cons]
  omega
theorem numsT_le (l : List Int) (i : Nat) : (numsT (l.take i)).length ≤ (numsT l).length := by
 have h : numsT l = numsT (l.take i) ++ numsT (l.drop i) := by unfold numsT; rw [← List.flatMap_append, List.take_append_drop]
 rw [h, List.length_append]; omega
theorem ratsT_le (l : List RatD) (i : Nat) : (ratsT (l.take i)).length ≤ (ratsT l).length := by
 have h : ratsT l = ratsT (l.take i) ++ ratsT (l.drop i) := by unfold ratsT; rw [← List.flatMap_append, List.take_append_drop]
 rw [h, List.length_append]; omega
def headT (a s : Int) : List UInt8 := [114, 101, 102, 117, 116, 97, 116, 105, 111, 110, 32] ++ (Lib.itoa a ++ 32 :: Lib.itoa s)
def lnA (a : AtomD) : List UInt8 :=
 if a.1.1.1.data = #[] then (if a.1.1.2.length = 0 then [116, 114, 117, 101] else (if a.2 then [60, 32] else [60, 61, 32]) ++ (tf (nform (fval a.1.1.2)) ++ 32 :: tq (rq a.1.2)))
 else [98, 111, 111, 108, 32] ++ hexN a.1.1.1.data.toList
def lnP (s : StepD) : List UInt8 :=
 if s.1.1.1 = 1 then [105, 110, 112, 117, 116] ++ numsT s.1.1.2
 else if s.1.1.1 = 2 then [117, 110, 105, 116, 115] ++ (numsT s.1.1.2 ++ ([32, 98, 121] ++ numsT s.1.2))
 else [102, 97, 114, 107, 97, 115] ++ (numsT s.1.1.2 ++ ([32, 98, 121] ++ ratsT s.2))
def linesA (l : List AtomD) : List UInt8 := l.flatMap fun a => lnA a ++ [10]
def linesS (l : List StepD) : List UInt8 := l.flatMap fun s => lnP s ++ [10]
def prT (r : RefD) : List UInt8 := headT (r.1.length : Int) (r.2.length : Int) ++ ([10] ++ (linesA r.1 ++ linesS r.2))
theorem linesA_snoc (l : List AtomD) (a : AtomD) : linesA (l ++ [a]) = linesA l ++ (lnA a ++ [10]) := by unfold linesA; simp
theorem linesS_snoc (l : List StepD) (a : StepD) : linesS (l ++ [a]) = linesS l ++ (lnP a ++ [10]) := by unfold linesS; simp
theorem linesA_take (l : List AtomD) (i : Nat) (h : i < l.length) : linesA (l.take (i + 1)) = linesA (l.take i) ++ (lnA l[i] ++ [10]) := by rw [List.take_succ_eq_append_getElem h, linesA_snoc]
theorem linesS_take (l : List StepD) (i : Nat) (h : i < l.length) : linesS (l.take (i + 1)) = linesS (l.take i) ++ (lnP l[i] ++ [10]) := by rw [List.take_succ_eq_append_getElem h, linesS_snoc]
theorem linesA_le (l : List AtomD) (i : Nat) : (linesA (l.take i)).length ≤ (linesA l).length := by
 have h : linesA l = linesA (l.take i) ++ linesA (l.drop i) := by unfold linesA; rw [← List.flatMap_append, List.take_append_drop]
 rw [h, List.length_append]; omega
theorem linesS_le (l : List StepD) (i : Nat) : (linesS (l.take i)).length ≤ (linesS l).length := by
 have h : linesS l = linesS (l.take i) ++ linesS (l.drop i) := by unfold linesS; rw [← List.flatMap_append, List.take_append_drop]
 rw [h, List.length_append]; omega
theorem lnA_len {a : AtomD} (h : GoodA a) : (lnA a).length ≤ 100 * wtn a := by
 have h1 := mf_nform (fval a.1.1.2)
 have h2 := mf_fval h.good
 have h3 := tf_len (CanF.of (f := fval a.1.1.2) (fun m hm => by
  unfold fval at hm
  obtain ⟨x, hx, rfl⟩ := List.mem_map.1 hm
  exact h.var x hx)).var
 have h4 := tq_len (rq a.1.2)
 have h5 := mu_rq h.goodB
 have h6 := hexN_len a.1.1.1.data.toList
 have h7 : a.1.1.1.data.toList.length = a.1.1.1.size := Array.length_toList
 unfold lnA wtn wtAt
 split
 · split
   · simp; omega
   · split <;> simp only [List.length_append, List.length_cons, List.length_nil] <;> omega
 · simp only [List.length_append, List.length_cons, List.length_nil]; omega
theorem lnP_len {s : StepD} (h : GoodS s) : (lnP s).length ≤ 100 * wts s := by
 have h1 := numsT_len h.clause
 have h2 := numsT_len h.byl
 have h3 := ratsT_len s.2 h.good
 unfold lnP wts
 split
 · simp only [List.length_append, List.length_cons, List.length_nil]; omega
 · split <;> simp only [List.length_append, List.length_cons, List.length_nil] <;> omega
theorem linesA_len {l : List AtomD} (h : ∀ a ∈ l, GoodA a) : (linesA l).length ≤ 101 * (l.map wtn).sum := by
 induction l with
 | nil => simp [linesA]
 | cons a l ih =>
  have h1 := lnA_len (h a (by simp))
  have h2 := ih fun x hx => h x (by simp [hx])
  have h3 : 1 ≤ wtn a := by unfold wtn; omega
  have e : linesA (a :: l) = lnA a ++ [10] ++ linesA l := by unfold linesA; simp
  rw [e]
  simp only [List.length_append, List.length_cons, List.length_nil, List.map_cons, List.sum_cons]
  omega
theorem linesS_len {l : List StepD} (h : ∀ a ∈ l, GoodS a) : (linesS l).length ≤ 101 * (l.map wts).sum := by
 induction l with
 | nil => simp [linesS]
 | cons a l ih =>
  have h1 := lnP_len (h a (by simp))
  have h2 := ih fun x hx => h x (by simp [hx])
  have h3 : 1 ≤ wts a := by unfold wts; omega
  have e : linesS (a :: l) = lnP a ++ [10] ++ linesS l := by unfold linesS; simp
  rw [e]
  simp only [List.length_append, List.length_cons, List.length_nil, List.map_cons, List.sum_cons]
  omega
theorem PowTab.below {w w' : World} (h : PowTab w) (hb : Below w.heap.size w w') : PowTab w' := by
 unfold PowTab Lib.TabIs World.var? at *
 cases hg : Tryz.prog.globalNamed "internal/strconv.uint64pow10" with
 | none => rw [hg] at h; simp at h
 | some g =>
  rw [hg] at h
  simp only [Option.bind_some] at h ⊢
  have hlt : g < w.heap.size := by
   rcases Nat.lt_or_ge g w.heap.size with h' | h'
   · exact h'
   · rw [Array.getElem?_eq_none h'] at h; simp at h
  rw [hb.block g hlt]
  exact h
set_option maxHeartbeats 1000000 in
set_option maxRecDepth 100000 in
theorem pr_numbers (A : Option Addr) (c : Nat) (xs : List Int) (w : World) (h : (Knd.int .i64).Row w A xs) (hc : xs.length ≤ c) (hx : ∀ x ∈ xs, inr x) (hl : xs.length ≤ 1099511627776) (ht : PowTab w) :
 Calls Tryz.prog 112 #[.slice A xs.length c] w fun e w' => e = .returned (.string ⟨(numsT xs).toArray⟩) ∧ Below w.heap.size w w' := by
 have H1 := Lib.hid h
 have HX := Lib.hid hx
 have HT := Lib.hid ht
 have HLe := Lib.hid (fun i => Nat.le_trans (numsT_le xs i) (numsT_len hx))
 clear h hx ht
 go_enter Tryz.func112, Tryz.ntmps112
 go_wp2
 go_loopg [3, 8] xs.length (fun gg s3 s8 wr => ∃ (i : Nat) (P : List UInt8), i + gg = xs.length ∧ s8 = .int .i64 i ∧ s3 = .string ⟨P.toArray⟩ ∧ Hid (P = numsT (xs.take i)) ∧ Hid (Below w.heap.size w wr))
 case atStart => exact ⟨0, [], by omega, rfl, rfl, by show _ = _; rfl, Below.refl _ _⟩
 case round =>
  obtain ⟨i, P, hg, rfl, rfl, HP, HB⟩ := hrel
  by_cases hlt : i < xs.length
  · have hltz : (i : Int) < (xs.length : Int) := by omega
    obtain ⟨ad, rfl, hcell⟩ := Knd.at_int H1.out i hlt
    have hcell2 := cell_below HB.out hcell
    have HS := Lib.hid (numsT_take xs i hlt)
    have hI := Lib.hid (fun (W : World) (hb : Below w.heap.size w W) => itoa_tab xs[i] (HX.out _ (List.getElem_mem hlt)) W (HT.out.below hb))
    have hpl := HLe.out (i + 1)
    rw [HS.out, List.length_append, ← HP.out] at hpl
    clear hcell
    generalize xs[i] = x at *
    generalize Lib.itoa x = ty at *
    simp only [List.length_cons] at hpl
    go_wp2_with fail
    refine (hI.out _ HB.out).mono ?_
    rintro e' W2 ⟨rfl, hb⟩
    replace HB := Lib.hid (HB.out.trans (hb.mono HB.out.size))
    have HE := Lib.hid (show (⟨P.toArray⟩ : ByteArray) ++ (⟨#[32]⟩ ++ ⟨ty.toArray⟩) = ⟨(P ++ 32 :: ty).toArray⟩ from by
     rw [show (⟨#[32]⟩ : ByteArray) = ⟨[32].toArray⟩ from rfl, str_append, str_append]; rfl)
    have HN := Lib.hid (show P ++ 32 :: ty = numsT (xs.take (i + 1)) from by rw [HS.out, HP.out])
    clear hb hI hcell2 HS HP
    go_wp2
    go_roundg (xs.length - (i + 1))
    case measure => omega
    case rel => exact ⟨i + 1, _, by omega, by go_num, congrArg Value.string HE.out, HN, HB⟩
  · have hltz : ¬ (i : Int) < (xs.length : Int) := by omega
    have HN := Lib.hid (show P = numsT xs from by rw [HP.out, List.take_of_length_le (by omega)])
    clear HP
    go_wp2
    go_ret
    exact ⟨congrArg (fun l : List UInt8 => Ending.returned (Value.string ⟨l.toArray⟩)) HN.out, HB.out⟩
set_option maxHeartbeats 1000000 in
set_option maxRecDepth 100000 in
theorem pr_head (a s : Int) (ha : inr a) (hs : inr s) (w : World) (ht : PowTab w) :
 Calls Tryz.prog 47 #[.int .i64 a, .int .i64 s] w fun e w' => e = .returned (.string ⟨(headT a s).toArray⟩) ∧ Below w.heap.size w w' := by
 have h1 := Lib.hid (itoa_tab a ha w ht)
 have h2 := Lib.hid (fun (W : World) (hb : Below w.heap.size w W) => itoa_tab s hs W (ht.below hb))
 have l1 := itoa_len21 ha
 have l2 := itoa_len21 hs
 unfold headT
 clear ht
 generalize Lib.itoa a = tx at *
 generalize Lib.itoa s = ty at *
 have HS := Lib.hid (show (((⟨#[114, 101, 102, 117, 116, 97, 116, 105, 111, 110, 32]⟩ : ByteArray) ++ ⟨tx.toArray⟩) ++ ⟨#[32]⟩) ++ ⟨ty.toArray⟩ = ⟨([114, 101, 102, 117, 116, 97, 116, 105, 111, 110, 32] ++ (tx ++ 32 :: ty)).toArray⟩ from by
  rw [show (⟨#[32]⟩ : ByteArray) = ⟨[32].toArray⟩ from rfl, show (⟨#[114, 101, 102, 117, 116, 97, 116, 105, 111, 110, 32]⟩ : ByteArray) = ⟨[114, 101, 102, 117, 116, 97, 116, 105, 111, 110, 32].toArray⟩ from rfl, str_append, str_append, str_append]; simp)
 go_enter Tryz.func47, Tryz.ntmps47
 go_wp2_with fail
 refine h1.out.mono ?_
 rintro e' W1 ⟨rfl, hb⟩
 have HB := Lib.hid hb
 clear hb h1
 go_wp2_with fail
 refine (h2.out _ HB.out).mono ?_
 rintro e' W2 ⟨rfl, hb⟩
 replace HB := Lib.hid (HB.out.trans (hb.mono HB.out.size))
 clear hb h2
 have hS := HS.out
 go_wp2
 go_ret
 exact ⟨rfl, HB.out⟩
set_option maxHeartbeats 2000000 in
set_option maxRecDepth 100000 in
theorem pr_stepText (s : StepD) (A : Option Addr) (c : Nat) (B : Option Addr) (d : Nat) (D : Option Addr) (e : Nat) (w : World) (h : StIn w s A c B d D e) (ht : PowTab w) :
 Calls Tryz.prog 49 #[.agg (stc s A c B d D e).toArray] w fun e' w' => e' = .returned (.string ⟨(lnP s).toArray⟩) ∧ Below w.heap.size w w' := by
 have hl := h.lens
 have hw : (s.2.map wt).sum ≤ 8388608 := by have := h.good.few; unfold wts at this; omega
 have h1 := Lib.hid (fun (W : World) (hb : Below w.heap.size w W) => pr_numbers A c s.1.1.2 W (h.rowC.below hb) h.capC h.good.clause (by omega) (ht.below hb))
 have h2 := Lib.hid (fun (W : World) (hb : Below w.heap.size w W) => pr_numbers B d s.1.2 W (h.rowB.below hb) h.capB h.good.byl (by omega) (ht.below hb))
 have HQ := Lib.hid (fun (k : Nat) (hk : k < s.2.length) => rat_row h.rowQ h.good.good hw k hk)
 have HLe := Lib.hid (fun i => Nat.le_trans (ratsT_le s.2 i) (ratsT_len s.2 h.good.good))
 have HTk := Lib.hid (fun i (hi : i < s.2.length) => ratsT_take s.2 i hi)
 have n1 := numsT_len h.good.clause
 have n2 := numsT_len h.good.byl
 have hc3 := h.capQ
 clear h ht
 obtain ⟨r, hr⟩ : ∃ r, r = lnP s := ⟨_, rfl⟩
 rw [← hr]
 unfold lnP at hr
 unfold stc
 obtain ⟨⟨⟨k, xs⟩, ys⟩, qs⟩ := s
 dsimp only at *
 have HRr := Lib.hid hr
 clear hr
 have HF := Lib.hid ((Fr.refl w).box [.int .i64 k, .slice A xs.length c, .slice B ys.length d, .slice D qs.length e] 101)
 simp only [List.toArray] at *
 generalize xs.length = m1 at *
 generalize ys.length = m2 at *
 generalize numsT xs = tx at *
 generalize numsT ys = ty at *
 go_enter Tryz.func49, Tryz.ntmps49
 go_upto_region 1 with fail
 generalize hgt : World.alloc _ _ = W at HF ⊢
 clear hgt
 have a1 := HF.out.cellN 0 rfl 1 rfl
 go_wp2_with fail
 refine (h1.out _ HF.out.bel).mono ?_
 rintro e' W2 ⟨rfl, hb⟩
 replace HF := Lib.hid (HF.out.below hb)
 clear hb h1 a1
 have a0 := HF.out.cellN 0 rfl 0 rfl
 by_cases k1 : k = 1
 · subst k1
   have HX := Lib.hid (show (⟨#[105, 110, 112, 117, 116]⟩ : ByteArray) ++ ⟨tx.toArray⟩ = ⟨r.toArray⟩ from by
    rw [show (⟨#[105, 110, 112, 117, 116]⟩ : ByteArray) = ⟨[105, 110, 112, 117, 116].toArray⟩ from rfl, str_append, HRr.out]; rfl)
   clear HRr h2 HQ HLe HTk
   go_wp2
   go_ret
   exact ⟨congrArg (fun x => Ending.returned (Value.string x)) HX.out, HF.out.bel⟩
 have k1b : (k == 1) = false := by simpa using k1
 by_cases k2 : k = 2
 · subst k2
   have HX := Lib.hid (show (((⟨#[117, 110, 105, 116, 115]⟩ : ByteArray) ++ ⟨tx.toArray⟩) ++ ⟨#[32, 98, 121]⟩) ++ ⟨ty.toArray⟩ = ⟨r.toArray⟩ from by
    rw [show (⟨#[117, 110, 105, 116, 115]⟩ : ByteArray) = ⟨[117, 110, 105, 116, 115].toArray⟩ from rfl, show (⟨#[32, 98, 121]⟩ : ByteArray) = ⟨[32, 98, 121].toArray⟩ from rfl, str_append, str_append, str_append, HRr.out]
    simp)
   have a2 := HF.out.cellN 0 rfl 2 rfl
   clear HRr HQ HLe HTk k1
   go_wp2_with fail
   refine (h2.out _ HF.out.bel).mono ?_
   rintro e' W3 ⟨rfl, hb⟩
   replace HF := Lib.hid (HF.out.below hb)
   clear hb h2 a0 a2
   go_wp2
   go_ret
   exact ⟨congrArg (fun x => Ending.returned (Value.string x)) HX.out, HF.out.bel⟩
 have k2b : (k == 2) = false := by simpa using k2
 have HR2 := Lib.hid (show r = [102, 97, 114, 107, 97, 115] ++ (tx ++ ([32, 98, 121] ++ ratsT qs)) from by rw [HRr.out, if_neg k1, if_neg k2])
 have HS0 := Lib.hid (show ((⟨#[102, 97, 114, 107, 97, 115]⟩ : ByteArray) ++ ⟨tx.toArray⟩) ++ ⟨#[32, 98, 121]⟩ = ⟨([102, 97, 114, 107, 97, 115] ++ (tx ++ [32, 98, 121])).toArray⟩ from by
  rw [show (⟨#[102, 97, 114, 107, 97, 115]⟩ : ByteArray) = ⟨[102, 97, 114, 107, 97, 115].toArray⟩ from rfl, show (⟨#[32, 98, 121]⟩ : ByteArray) = ⟨[32, 98, 121].toArray⟩ from rfl, str_append, str_append]
  simp)
 have a3 := HF.out.cellN 0 rfl 3 rfl
 clear HRr h2 k1 k2
 go_wp2_with fail
 clear a0 a3
 go_loopg [4, 35] qs.length (fun gg s4 s35 wr => ∃ (i : Nat) (P : List UInt8), i + gg = qs.length ∧ s35 = .int .i64 i ∧ s4 = .string ⟨P.toArray⟩ ∧ Hid (P = [102, 97, 114, 107, 97, 115] ++ (tx ++ [32, 98, 121]) ++ ratsT (qs.take i)) ∧ Hid (Below w.heap.size w wr))
 case atStart => exact ⟨0, _, by omega, rfl, congrArg Value.string HS0.out, by show _ = _; simp [ratsT], HF.out.bel⟩
 case round =>
 clear HF HS0
 obtain ⟨i, P, hg, rfl, rfl, HP, HB⟩ := hrel
 by_cases hlt : i < qs.length
 · have hltz : (i : Int) < (qs.length : Int) := by omega
   obtain ⟨ad, B9, c9, D9, d9, rfl, p0, p1, p2, hq, l1, l2⟩ := HQ.out i hlt
   have x0 := cell_below HB.out p0
   have x1 := cell_below HB.out p1
   have x2 := cell_below HB.out p2
   have hR := Lib.hid (fun (W : World) (hb : Below w.heap.size w W) => ratio_Text qs[i].1.1 B9 c9 qs[i].1.2 D9 d9 qs[i].2 W (hq.num.below hb) (by omega) (hq.den.below hb) (by omega))
   rw [show rv qs[i].1.1 qs[i].1.2 qs[i].2 = rq qs[i] from rfl] at hR
   have HS := Lib.hid (HTk.out i hlt)
   have hpl := HLe.out (i + 1)
   rw [HS.out, List.length_append, List.length_cons] at hpl
   have hP := congrArg List.length HP.out
   simp only [List.length_append, List.length_cons, List.length_nil] at hP
   clear p0 p1 p2 hq
   generalize qs[i] = q at *
   generalize tq (rq q) = tt9 at *
   have HFb := Lib.hid ((show Fr w wr [] from ⟨HB.out, fun p hp => by cases hp⟩).box [.bool q.1.1, .slice B9 q.1.2.length c9, .slice D9 q.2.length d9] 43)
   simp only [List.toArray] at HFb
   go_upto_region 11 with fail
   generalize hgt : World.alloc _ _ = W3 at HFb ⊢
   clear hgt x0 x1 x2 HB
   have x0 := HFb.out.cellN 0 rfl 0 rfl
   have x1 := HFb.out.cellN 0 rfl 1 rfl
   have x2 := HFb.out.cellN 0 rfl 2 rfl
   go_wp2_with fail
   refine (hR.out _ HFb.out.bel).mono ?_
   rintro e' W4 ⟨rfl, hb⟩
   have HB := Lib.hid (HFb.out.below hb).bel
   have HE := Lib.hid (show (⟨P.toArray⟩ : ByteArray) ++ (⟨#[32]⟩ ++ ⟨tt9.toArray⟩) = ⟨(P ++ 32 :: tt9).toArray⟩ from by
    rw [show (⟨#[32]⟩ : ByteArray) = ⟨[32].toArray⟩ from rfl, str_append, str_append]; rfl)
   have HN := Lib.hid (show P ++ 32 :: tt9 = [102, 97, 114, 107, 97, 115] ++ (tx ++ [32, 98, 121]) ++ ratsT (qs.take (i + 1)) from by rw [HS.out, HP.out]; simp)
   clear hb hR x0 x1 x2 HS HP HFb
   go_wp2
   go_roundg (qs.length - (i + 1))
   case measure => omega
   case rel => exact ⟨i + 1, _, by omega, by go_num, congrArg Value.string HE.out, HN, HB⟩
 · have hltz : ¬ (i : Int) < (qs.length : Int) := by omega
   have HN := Lib.hid (show P = r from by rw [HP.out, HR2.out, List.take_of_length_le (by omega)]; simp)
   clear HP HQ HLe HTk HR2
   go_wp2
   go_ret
   exact ⟨congrArg (fun l : List UInt8 => Ending.returned (Value.string ⟨l.toArray⟩)) HN.out, HB.out⟩
end Go.Proofs.YtidgpkccjcddgaaGreatDoor.F
