/- Atoms as handed in, and atoms of a call's own. -/
import Derived.Test.YtidgpkccjcddgaaGreatDoorGo
import Derived.Test.YtidgpkccjcddgaaGreatDoorGq
set_option linter.unusedVariables false
set_option linter.unusedSimpArgs false
namespace Go.Proofs.YtidgpkccjcddgaaGreatDoor.F
open Go.ChangeShapes Go.WideShapes Go.ChangeAt Go.RowKit Go.Shelf Go.Proofs.YtidgpkccjcddgaaGreatDoorW.PrintLast
abbrev AtomD := ((ByteArray × List (Int × RatD)) × RatD) × Bool
def kAtom : Knd AtomD := ((Knd.string.pair kMono.slice).pair kRat).pair Knd.bool
theorem kAtom_cells {w : World} {x : AtomD} {cs : List Value} (h : kAtom.C w x cs) : ∃ A c B d D e, cs = [.string x.1.1.1, .slice A x.1.1.2.length c, .bool x.1.2.1.1, .slice B x.1.2.1.2.length d, .slice D x.1.2.2.length e, .bool x.2] ∧ x.1.1.2.length ≤ c ∧ kMono.Row w A x.1.1.2 ∧ LiesQ w x.1.2 B d D e := by
 obtain ⟨p1, p2, rfl, ⟨p3, p4, rfl, ⟨p5, p6, rfl, h1, h2⟩, h3⟩, h4⟩ := h
 have h1' : p5 = [.string x.1.1.1] := h1
 subst h1'
 obtain ⟨A, c, rfl, a1, _, a3⟩ := h2
 obtain ⟨B, d, D, e, rfl, b⟩ := kRat_cells h3
 have h4' : p2 = [.bool x.2] := h4
 subst h4'
 exact ⟨A, c, B, d, D, e, rfl, a1, a3, b⟩
theorem row_atom {w : World} {A : Option Addr} {xs : List AtomD} (h : kAtom.Row w A xs) (i : Nat) (hi : i < xs.length) :
 ∃ ad E c B d D e, A = some ad ∧ w.cell? (ad.add (i * 6)) = some (.string xs[i].1.1.1) ∧ w.cell? (nxt (ad.add (i * 6)) 1) = some (.slice E xs[i].1.1.2.length c) ∧ w.cell? (nxt (ad.add (i * 6)) 2) = some (.bool xs[i].1.2.1.1) ∧ w.cell? (nxt (ad.add (i * 6)) 3) = some (.slice B xs[i].1.2.1.2.length d) ∧ w.cell? (nxt (ad.add (i * 6)) 4) = some (.slice D xs[i].1.2.2.length e) ∧ w.cell? (nxt (ad.add (i * 6)) 5) = some (.bool xs[i].2) ∧ xs[i].1.1.2.length ≤ c ∧ kMono.Row w E xs[i].1.1.2 ∧ LiesQ w xs[i].1.2 B d D e := by
 obtain ⟨ad, cs, e0, hC, hc⟩ := h i hi
 obtain ⟨E, c, B, d, D, e, rfl, g1, g2, g3⟩ := kAtom_cells hC
 exact ⟨ad, E, c, B, d, D, e, e0, hc 0 _ rfl, by rw [add_off _ _ _ (by omega)]; exact hc 1 _ rfl, by rw [add_off _ _ _ (by omega)]; exact hc 2 _ rfl, by rw [add_off _ _ _ (by omega)]; exact hc 3 _ rfl, by rw [add_off _ _ _ (by omega)]; exact hc 4 _ rfl, by rw [add_off _ _ _ (by omega)]; exact hc 5 _ rfl, g1, g2, g3⟩
def wtAt (a : AtomD) : Nat := (a.1.1.2.map wtm).sum + wt a.1.2
structure AtIn (w : World) (a : AtomD) (A : Option Addr) (c : Nat) (B : Option Addr) (d : Nat) (D : Option Addr) (e : Nat) : Prop where
 form : kMono.Row w A a.1.1.2
 cap : a.1.1.2.length ≤ c
 bound : InD w a.1.2 B d D e
 good : ∀ m ∈ a.1.1.2, Good (wt m.2) m.2
 goodB : Good (wt a.1.2) a.1.2
 var : ∀ m ∈ a.1.1.2, inr m.1
 few : wtAt a ≤ 2097152
 shp : Shp (nform (fval a.1.1.2))
theorem AtIn.below {w W : World} {a : AtomD} {A : Option Addr} {c : Nat} {B : Option Addr} {d : Nat} {D : Option Addr} {e : Nat} (h : AtIn w a A c B d D e) (hb : Below w.heap.size w W) : AtIn W a A c B d D e :=
 ⟨h.form.below hb, h.cap, h.bound.below hb, h.good, h.goodB, h.var, h.few, h.shp⟩
theorem AtIn.raw {w : World} {a : AtomD} {A : Option Addr} {c : Nat} {B : Option Addr} {d : Nat} {D : Option Addr} {e : Nat} (h : AtIn w a A c B d D e) : FRaw w A c a.1.1.2 :=
 ⟨h.form, h.cap, h.good, by have := h.few; unfold wtAt at this; omega⟩
theorem AtIn.lens {w : World} {a : AtomD} {A : Option Addr} {c : Nat} {B : Option Addr} {d : Nat} {D : Option Addr} {e : Nat} (h : AtIn w a A c B d D e) : a.1.2.1.2.length ≤ 2097152 ∧ a.1.2.2.length ≤ 2097152 := by
 have h1 := h.goodB.mn
 have h2 := h.goodB.md
 have h3 := h.few
 unfold wtAt at h3
 omega
def atc (a : AtomD) (A : Option Addr) (c : Nat) (B : Option Addr) (d : Nat) (D : Option Addr) (e : Nat) : List Value := [.string a.1.1.1, .slice A a.1.1.2.length c, .bool a.1.2.1.1, .slice B a.1.2.1.2.length d, .slice D a.1.2.2.length e, .bool a.2]
def canA (a : AtomD) : AtomD := (((a.1.1.1, (nform (fval a.1.1.2)).map canM), canD (rq a.1.2)), a.2)
def ToldA (w : World) (a : AtomD) (e : Ending) (w' : World) : Prop :=
 ∃ E j A c B d, e = .returned (.agg (atc (canA a) E j A c B d).toArray) ∧ OwnF w' w.heap.size (.slice E (nform (fval a.1.1.2)).length j) (nform (fval a.1.1.2)) ∧ InQ w' A c B d (rq a.1.2) ∧ Below w.heap.size w w'
theorem Fr.putA {w W : World} {bs : List (Nat × List Value)} {g : Nat} {x1 x2 x3 x4 x5 x6 : Value} (h : Fr w W bs) (k : Nat) (hk : bs[k]? = some (g, [x1, x2, x3, x4, x5, x6])) (hg : w.heap.size ≤ g) (hn : ∀ p ∈ bs.eraseIdx k, p.1 ≠ g) (y1 y2 y3 y4 y5 y6 : Value) :
 Fr w ((((((W.setCell ⟨g, 0, none⟩ y1).setCell ⟨g, 1, none⟩ y2).setCell ⟨g, 2, none⟩ y3).setCell ⟨g, 3, none⟩ y4).setCell ⟨g, 4, none⟩ y5).setCell ⟨g, 5, none⟩ y6) (bs.set k (g, [y1, y2, y3, y4, y5, y6])) := by
 have hlt : k < bs.length := (List.getElem?_eq_some_iff.1 hk).1
 have e : ∀ (bs : List (Nat × List Value)) (p : Nat × List Value), (bs.set k p).eraseIdx k = bs.eraseIdx k := fun bs p => by rw [List.eraseIdx_set_eq]
 have h1 := h.setN k hk hg hn 0 y1
 have h2 := h1.setN k (by rw [List.getElem?_set_self hlt]) hg (by rw [e]; exact hn) 1 y2
 have h3 := h2.setN k (by rw [List.getElem?_set_self (by simpa using hlt)]) hg (by rw [e, e]; exact hn) 2 y3
 have h4 := h3.setN k (by rw [List.getElem?_set_self (by simpa using hlt)]) hg (by rw [e, e, e]; exact hn) 3 y4
 have h5 := h4.setN k (by rw [List.getElem?_set_self (by simpa using hlt)]) hg (by rw [e, e, e, e]; exact hn) 4 y5
 have h6 := h5.setN k (by rw [List.getElem?_set_self (by simpa using hlt)]) hg (by rw [e, e, e, e, e]; exact hn) 5 y6
 simp only [List.set_set] at h6
 exact h6
theorem Fr.putM {w W : World} {bs : List (Nat × List Value)} {g : Nat} {x1 x2 x3 x4 x5 x6 : Value} (h : Fr w W bs) (k : Nat) (hk : bs[k]? = some (g, [x1, x2, x3, x4, x5, x6])) (hg : w.heap.size ≤ g) (hn : ∀ p ∈ bs.eraseIdx k, p.1 ≠ g) (y3 y4 y5 : Value) :
 Fr w (((W.setCell ⟨g, 2, none⟩ y3).setCell ⟨g, 3, none⟩ y4).setCell ⟨g, 4, none⟩ y5) (bs.set k (g, [x1, x2, y3, y4, y5, x6])) := by
 have hlt : k < bs.length := (List.getElem?_eq_some_iff.1 hk).1
 have e : ∀ (bs : List (Nat × List Value)) (p : Nat × List Value), (bs.set k p).eraseIdx k = bs.eraseIdx k := fun bs p => by rw [List.eraseIdx_set_eq]
 have h3 := h.setN k hk hg hn 2 y3
 have h4 := h3.setN k (by rw [List.getElem?_set_self hlt]) hg (by rw [e]; exact hn) 3 y4
 have h5 := h4.setN k (by rw [List.getElem?_set_self (by simpa using hlt)]) hg (by rw [e, e]; exact hn) 4 y5
 simp only [List.set_set] at h5
 exact h5
theorem KeepU.putM {W : World} {g : Nat} {x1 x2 x3 x4 x5 x6 y3 y4 : Value} (ho : Own W g [x1, x2, x3, x4, x5, x6]) (hn : NoU [x1, x2, x3, x4, x5, x6]) (hm : NoU [y3, y4]) (y5 : Value) :
 KeepU W (((W.setCell ⟨g, 2, none⟩ y3).setCell ⟨g, 3, none⟩ y4).setCell ⟨g, 4, none⟩ y5) := by
 have n : ∀ v ∈ [y3, y4], ∀ y, Value.int .u32 y ≠ v := fun v hv y e => hm y (by rw [e]; exact hv)
 have a1 := KeepU.set ho hn 2 y3
 have o1 := ho.set 2 y3
 have m1 := hn.set 2 (n y3 (by simp))
 have a2 := KeepU.set o1 m1 3 y4
 have o2 := o1.set 3 y4
 have m2 := m1.set 3 (n y4 (by simp))
 have a3 := KeepU.set o2 m2 4 y5
 exact (a1.trans a2).trans a3
theorem KeepU.putA {W : World} {g : Nat} {x1 x2 x3 x4 x5 x6 y1 y2 y3 y4 y5 : Value} (ho : Own W g [x1, x2, x3, x4, x5, x6]) (hn : NoU [x1, x2, x3, x4, x5, x6]) (hm : NoU [y1, y2, y3, y4, y5]) (y6 : Value) :
 KeepU W ((((((W.setCell ⟨g, 0, none⟩ y1).setCell ⟨g, 1, none⟩ y2).setCell ⟨g, 2, none⟩ y3).setCell ⟨g, 3, none⟩ y4).setCell ⟨g, 4, none⟩ y5).setCell ⟨g, 5, none⟩ y6) := by
 have n : ∀ v ∈ [y1, y2, y3, y4, y5], ∀ y, Value.int .u32 y ≠ v := fun v hv y e => hm y (by rw [e]; exact hv)
 have a1 := KeepU.set ho hn 0 y1
 have o1 := ho.set 0 y1
 have m1 := hn.set 0 (n y1 (by simp))
 have a2 := KeepU.set o1 m1 1 y2
 have o2 := o1.set 1 y2
 have m2 := m1.set 1 (n y2 (by simp))
 have a3 := KeepU.set o2 m2 2 y3
 have o3 := o2.set 2 y3
 have m3 := m2.set 2 (n y3 (by simp))
 have a4 := KeepU.set o3 m3 3 y4
 have o4 := o3.set 3 y4
 have m4 := m3.set 3 (n y4 (by simp))
 have a5 := KeepU.set o4 m4 4 y5
 have o5 := o4.set 4 y5
 have m5 := m4.set 4 (n y5 (by simp))
 have a6 := KeepU.set o5 m5 5 y6
 exact ((((a1.trans a2).trans a3).trans a4).trans a5).trans a6
theorem OwnF.putM {W : World} {B : Nat} {v : Value} {l : Frm} {g : Nat} (h : OwnF W B v l) (hne : v.ownBlock ≠ some g) (y3 y4 y5 : Value) (hk : KeepU W (((W.setCell ⟨g, 2, none⟩ y3).setCell ⟨g, 3, none⟩ y4).setCell ⟨g, 4, none⟩ y5)) :
 OwnF (((W.setCell ⟨g, 2, none⟩ y3).setCell ⟨g, 3, none⟩ y4).setCell ⟨g, 4, none⟩ y5) B v l := by
 refine h.kept (fun k hk0 hv => ?_) hk
 have hkg : k ≠ g := fun e => hne (by rw [← e]; exact hv)
 rw [Below.heap_setCell _ _ _ _ hkg, Below.heap_setCell _ _ _ _ hkg, Below.heap_setCell _ _ _ _ hkg]
theorem OwnF.putA {W : World} {B : Nat} {v : Value} {l : Frm} {g : Nat} (h : OwnF W B v l) (hne : v.ownBlock ≠ some g) (y1 y2 y3 y4 y5 y6 : Value) (hk : KeepU W ((((((W.setCell ⟨g, 0, none⟩ y1).setCell ⟨g, 1, none⟩ y2).setCell ⟨g, 2, none⟩ y3).setCell ⟨g, 3, none⟩ y4).setCell ⟨g, 4, none⟩ y5).setCell ⟨g, 5, none⟩ y6)) :
 OwnF ((((((W.setCell ⟨g, 0, none⟩ y1).setCell ⟨g, 1, none⟩ y2).setCell ⟨g, 2, none⟩ y3).setCell ⟨g, 3, none⟩ y4).setCell ⟨g, 4, none⟩ y5).setCell ⟨g, 5, none⟩ y6) B v l := by
 refine h.kept (fun k hk0 hv => ?_) hk
 have hkg : k ≠ g := fun e => hne (by rw [← e]; exact hv)
 rw [Below.heap_setCell _ _ _ _ hkg, Below.heap_setCell _ _ _ _ hkg, Below.heap_setCell _ _ _ _ hkg, Below.heap_setCell _ _ _ _ hkg, Below.heap_setCell _ _ _ _ hkg, Below.heap_setCell _ _ _ _ hkg]
theorem OwnF.put1' {W : World} {B : Nat} {v : Value} {l : Frm} {g i : Nat} (h : OwnF W B v l) (hne : v.ownBlock ≠ some g) (y : Value) (hk : KeepU W (W.setCell ⟨g, i, none⟩ y)) : OwnF (W.setCell ⟨g, i, none⟩ y) B v l := by
 refine h.kept (fun k hk0 hv => ?_) hk
 have hkg : k ≠ g := fun e => hne (by rw [← e]; exact hv)
 rw [Below.heap_setCell _ _ _ _ hkg]
set_option maxHeartbeats 2000000 in
set_option maxRecDepth 100000 in
theorem at_own (a : AtomD) (A : Option Addr) (c : Nat) (B : Option Addr) (d : Nat) (D : Option Addr) (e : Nat) (w : World) (h : AtIn w a A c B d D e) :
 Calls Tryz.prog 264 #[.agg (atc a A c B d D e).toArray] w (ToldA w a) := by
 have hl := h.lens
 have hN := Lib.hid (fun (W : World) (hb : Below w.heap.size w W) => linear_Norm a.1.1.2.length A c a.1.1.2 W (Nat.le_refl _) (h.raw.below hb))
 have hR := Lib.hid (fun (W : World) (hb : Below w.heap.size w W) => ratio_Norm a.1.2.1.1 B d a.1.2.1.2 D e a.1.2.2 W (h.bound.num.below hb) (by omega) (h.bound.den.below hb) (by omega))
 unfold ToldA atc canA
 obtain ⟨⟨⟨nm, f⟩, ⟨⟨s, xs⟩, ys⟩⟩, st⟩ := a
 have hrv : rv s xs ys = rq ((s, xs), ys) := rfl
 dsimp only at *
 rw [hrv] at hR
 clear hrv h hl
 generalize rq ((s, xs), ys) = q at *
 generalize nform (fval f) = l at *
 simp only [List.length_map]
 have HF := Lib.hid (((Fr.refl w).box [.string nm, .slice A f.length c, .bool s, .slice B xs.length d, .slice D ys.length e, .bool st] 84).box [.string ⟨#[]⟩, .slice none 0 0, .bool false, .slice none 0 0, .slice none 0 0, .bool false] 84)
 have hsz : ∀ (w : World) (o : Obj), (w.alloc o).heap.size = w.heap.size + 1 := fun w o => by simp
 simp only [hsz, Nat.add_assoc, Nat.reduceAdd] at HF
 clear hsz
 generalize f.length = n1 at *
 generalize xs.length = n2 at *
 generalize ys.length = n3 at *
 go_enter Tryz.func264, Tryz.ntmps264
 go_wp2_with fail
 generalize World.alloc _ _ = W at HF ⊢
 have HF_ := Lib.hid HF.out.drew
 clear HF
 have HF := HF_
 clear HF_
 refine start_ (n := 10) (S := fun w' => w'.cell? ⟨w.heap.size, 0, none⟩ = some (.string nm) ∧ w'.cell? ⟨w.heap.size, 1, none⟩ = some (.slice A n1 c) ∧ w'.cell? ⟨w.heap.size, 2, none⟩ = some (.bool s) ∧ w'.cell? ⟨w.heap.size, 3, none⟩ = some (.slice B n2 d) ∧ w'.cell? ⟨w.heap.size, 4, none⟩ = some (.slice D n3 e) ∧ w'.cell? ⟨w.heap.size, 5, none⟩ = some (.bool st)) (ds := [7, 9]) #[false, false, false, false, false, false, false, false, false, false] (by kernel_rfl) rfl rfl ⟨HF.out.cellN 1 rfl 0 rfl, HF.out.cellN 1 rfl 1 rfl, HF.out.cellN 1 rfl 2 rfl, HF.out.cellN 1 rfl 3 rfl, HF.out.cellN 1 rfl 4 rfl, HF.out.cellN 1 rfl 5 rfl⟩ (fun hHeld => ?_)
 generalize World.drew _ = W at *
 refine pu_ (v := ?_) (a' := ?_) 0 (some 3) rfl rfl ?_ ?_ ?_
 rotate_left; · intro w'; go_simp; with_reducible rfl
 rotate_left
 · simp only [Act.put, sa_, sb_, sc_]
   rfl
 refine pu_ (v := ?_) (a' := ?_) 3 (some 6) rfl rfl ?_ ?_ ?_
 rotate_left; · intro w'; go_simp; with_reducible rfl
 rotate_left
 · simp only [Act.put, sa_, sb_, sc_]
   rfl
 refine tk_ (v := ?_) (a' := ?_) 1 (some 4) rfl rfl ?_ hHeld ?_ ?_
 rotate_left
 · rintro w' ⟨s0, s1, s2, s3, s4, s5⟩; go_simp; with_reducible rfl
 rotate_left
 · simp only [Act.put, sa_, sb_, sc_]
   rfl
 refine tk_ (v := ?_) (a' := ?_) 4 (some 7) rfl rfl ?_ hHeld ?_ ?_
 rotate_left
 · rintro w' ⟨s0, s1, s2, s3, s4, s5⟩; go_simp; with_reducible rfl
 rotate_left
 · simp only [Act.put, sa_, sb_, sc_]
   rfl
 refine on_ 2 (N := (some 5)) rfl rfl (fun K hK => ?_)
 refine goes_ Tryz.func19 (by kernel_rfl) rfl #[.slice A n1 c] (by rfl) rfl rfl (by (try simp only [List.map_toArray, List.map_cons, List.map_nil]); first | done | rfl) ?_
 refine (hN.out W HF.out.bel).mono ?_
 rintro e W1 ⟨v_, rfl, h1, h2⟩
 refine ⟨_, rfl, ?_⟩
 obtain ⟨E, j, rfl, h3⟩ := h1.fin
 have HO := Lib.hid (h1.mono (by have := HF.out.ltN 0 rfl; omega : w.heap.size + 2 ≤ _))
 replace HF := Lib.hid (HF.out.below h2)
 clear h1 h2 h3 hN
 refine hK.out _ _ ⟨HF.out.cellN 1 rfl 0 rfl, HF.out.cellN 1 rfl 1 rfl, HF.out.cellN 1 rfl 2 rfl, HF.out.cellN 1 rfl 3 rfl, HF.out.cellN 1 rfl 4 rfl, HF.out.cellN 1 rfl 5 rfl⟩ (fun hHeld => ?_)
 clear hK K
 refine norm_ (a' := ?_) ?_ ?_
 rotate_left
 · show Act.put _ (some 5) _ = _
   simp only [Act.put, sa_, sb_, sc_]
   rfl
 refine pu_ (v := ?_) (a' := ?_) 6 (some 9) rfl rfl ?_ ?_ ?_
 rotate_left; · intro w'; go_simp; with_reducible rfl
 rotate_left
 · simp only [Act.put, sa_, sb_, sc_]
   rfl
 refine on_ 5 (N := (some 8)) rfl rfl (fun K hK => ?_)
 refine goes_ Tryz.func67 (by kernel_rfl) rfl #[.agg #[.bool s, .slice B n2 d, .slice D n3 e]] (by rfl) rfl rfl (by (try simp only [List.map_toArray, List.map_cons, List.map_nil]); first | done | rfl) ?_
 refine (hR.out W1 HF.out.bel).mono ?_
 rintro e W2 ⟨A1, c1, B1, d1, rfl, q1, q2, q3⟩
 refine ⟨_, rfl, ?_⟩
 replace HF := Lib.hid (HF.out.below q3)
 replace HO := Lib.hid (HO.out.below q3)
 have Q := Lib.hid (InQ.mk q1 q2)
 clear q1 q2 q3 hR
 refine hK.out _ _ ⟨HF.out.cellN 1 rfl 0 rfl, HF.out.cellN 1 rfl 1 rfl, HF.out.cellN 1 rfl 2 rfl, HF.out.cellN 1 rfl 3 rfl, HF.out.cellN 1 rfl 4 rfl, HF.out.cellN 1 rfl 5 rfl⟩ (fun hHeld => ?_)
 clear hK K
 refine norm_ (a' := ?_) ?_ ?_
 rotate_left
 · show Act.put _ (some 8) _ = _
   simp only [Act.put, sa_, sb_, sc_]
   rfl
 refine ls_ 7 (N := none) rfl rfl (fun K hK => ?_)
 have hf1 := HF.out.frozenN 1 rfl 1
 have hd1 := HF.out.cellN 1 rfl 1 rfl
 refine skip_ (w1 := ?_) (by rfl) rfl ?_ ?_
 rotate_left
 · go_simp
   rfl
 have HKU := Lib.hid (KeepU.set (HF.out.ownN 1 rfl) (fun y hy => by simp at hy) 1 (.slice E l.length j))
 replace Q := Lib.hid (Q.out.keep HKU.out)
 replace HO := Lib.hid (HO.out.put1' (fun h => by have := (HO.out.block _ h).1; omega) _ HKU.out)
 replace HF := Lib.hid (HF.out.setN 1 rfl (by omega) (by simp <;> omega) 1 (.slice E l.length j))
 simp only [List.set_cons_succ, List.set_cons_zero] at HF
 clear HKU hf1 hd1
 refine hK.out _ _ ?_
 clear hK K
 refine pu_ (v := ?_) (a' := ?_) 8 (some 10) rfl rfl ?_ ?_ ?_
 rotate_left; · intro w'; go_simp; with_reducible rfl
 rotate_left
 · simp only [Act.put, sa_, sb_, sc_]
   rfl
 refine ls_ 9 (N := none) rfl rfl (fun K hK => ?_)
 have hf2 := HF.out.frozenN 1 rfl 2
 have hf3 := HF.out.frozenN 1 rfl 3
 have hf4 := HF.out.frozenN 1 rfl 4
 have hd2 := HF.out.cellN 1 rfl 2 rfl
 have hd3 := HF.out.cellN 1 rfl 3 rfl
 have hd4 := HF.out.cellN 1 rfl 4 rfl
 refine skip_ (w1 := ?_) (by rfl) rfl ?_ ?_
 rotate_left
 · go_simp
   rfl
 have HKU := Lib.hid (KeepU.putM (HF.out.ownN 1 rfl) (fun y hy => by simp at hy) (y3 := .bool (decide (q.num < 0))) (y4 := .slice A1 (dg q.num.natAbs).length c1) (fun y hy => by simp at hy) (.slice B1 (dg q.den).length d1))
 replace Q := Lib.hid (Q.out.keep HKU.out)
 replace HO := Lib.hid (HO.out.putM (fun h => by have := (HO.out.block _ h).1; omega) _ _ _ HKU.out)
 replace HF := Lib.hid (HF.out.putM 1 rfl (by omega) (by simp <;> omega) (.bool (decide (q.num < 0))) (.slice A1 (dg q.num.natAbs).length c1) (.slice B1 (dg q.den).length d1))
 clear HKU hf2 hf3 hf4 hd2 hd3 hd4
 refine hK.out _ _ ?_
 clear hK K
 refine done_ (by kernel_rfl) ?_
 generalize World.setCell _ _ _ = W2 at HF Q HO ⊢
 have a0 := HF.out.cellN 1 rfl 0 rfl
 have a1 := HF.out.cellN 1 rfl 1 rfl
 have a2 := HF.out.cellN 1 rfl 2 rfl
 have a3 := HF.out.cellN 1 rfl 3 rfl
 have a4 := HF.out.cellN 1 rfl 4 rfl
 have a5 := HF.out.cellN 1 rfl 5 rfl
 have hf0 := HF.out.frozenN 0 rfl 0
 have hf1 := HF.out.frozenN 0 rfl 1
 have hf2 := HF.out.frozenN 0 rfl 2
 have hf3 := HF.out.frozenN 0 rfl 3
 have hf4 := HF.out.frozenN 0 rfl 4
 have hf5 := HF.out.frozenN 0 rfl 5
 have hd0 := HF.out.cellN 0 rfl 0 rfl
 have hd1 := HF.out.cellN 0 rfl 1 rfl
 have hd2 := HF.out.cellN 0 rfl 2 rfl
 have hd3 := HF.out.cellN 0 rfl 3 rfl
 have hd4 := HF.out.cellN 0 rfl 4 rfl
 have hd5 := HF.out.cellN 0 rfl 5 rfl
 have HKU := Lib.hid (KeepU.putA (HF.out.ownN 0 rfl) (fun y hy => by simp at hy) (y1 := .string nm) (y2 := .slice E l.length j) (y3 := .bool (decide (q.num < 0))) (y4 := .slice A1 (dg q.num.natAbs).length c1) (y5 := .slice B1 (dg q.den).length d1) (fun y hy => by simp at hy) (.bool st))
 replace Q := Lib.hid (Q.out.keep HKU.out)
 replace HO := Lib.hid (HO.out.putA (fun h => by have := (HO.out.block _ h).1; omega) _ _ _ _ _ _ HKU.out)
 replace HF := Lib.hid (HF.out.putA 0 rfl (by omega) (by simp <;> omega) (.string nm) (.slice E l.length j) (.bool (decide (q.num < 0))) (.slice A1 (dg q.num.natAbs).length c1) (.slice B1 (dg q.den).length d1) (.bool st))
 clear HKU
 have HQB := Lib.hid (show Value.bool (decide (q.num < 0)) = .bool (canD q).1.1 from rfl)
 generalize decide (q.num < 0) = b at HF Q HO a2 HQB ⊢
 go_wp2
 exact post_own (HF.out.ownN 0 rfl) rfl rfl rfl Tryz.underlying84 rfl (by kernel_rfl) ⟨E, j, A1, c1, B1, d1, by rw [← HQB.out]; rfl, HO.out.mono (by omega), Q.out, HF.out.bel⟩
def ToldAd (w : World) (y : AtomD) (e : Ending) (w' : World) : Prop :=
 ∃ E j A c B d, e = .returned (.agg (atc y E j A c B d).toArray) ∧ FRaw w' E j y.1.1.2 ∧ InD w' y.1.2 A c B d ∧ Below w.heap.size w w'
theorem canA_lens {w : World} {a : AtomD} {A : Option Addr} {c : Nat} {B : Option Addr} {d : Nat} {D : Option Addr} {e : Nat} (h : AtIn w a A c B d D e) : (canA a).1.2.1.2.length ≤ 2097152 ∧ (canA a).1.2.2.length ≤ 2097152 := by
 have h1 := mu_len (rq a.1.2)
 have h2 := mu_rq h.goodB
 have h3 := h.few
 unfold wtAt at h3
 exact ⟨by show (dg (rq a.1.2).num.natAbs).length ≤ _; omega, by show (dg (rq a.1.2).den).length ≤ _; omega⟩
theorem at_ownN (a : AtomD) (A : Option Addr) (c : Nat) (B : Option Addr) (d : Nat) (D : Option Addr) (e : Nat) (w : World) (h : AtIn w a A c B d D e) :
 Calls Tryz.prog 264 #[.agg (atc a A c B d D e).toArray] w (ToldAd w (canA a)) := by
 have h5 := h.shp.five
 refine (at_own a A c B d D e w h).mono ?_
 rintro e' w' ⟨E, j, A1, c1, B1, d1, rfl, h1, h2, h3⟩
 exact ⟨E, j, A1, c1, B1, d1, rfl, h1.fin'.raw (by omega), ⟨h2.num, h2.den⟩, h3⟩
def nrmA (a : AtomD) : Bool := decide ((canA a).1.2 = a.1.2) && decide ((canA a).1.1.2 = a.1.1.2)
set_option maxHeartbeats 2000000 in
set_option maxRecDepth 100000 in
theorem at_normal (a : AtomD) (A : Option Addr) (c : Nat) (B : Option Addr) (d : Nat) (D : Option Addr) (e : Nat) (w : World) (h : AtIn w a A c B d D e) :
 Calls Tryz.prog 224 #[.agg (atc a A c B d D e).toArray] w (Decides w (nrmA a)) := by
 have hl := h.lens
 have yl := canA_lens h
 have hO := Lib.hid (fun (W : World) (hb : Below w.heap.size w W) => at_ownN a A c B d D e W (h.below hb))
 unfold nrmA
 have e1 : (canA a).1.1.1 = a.1.1.1 := rfl
 have e2 : (canA a).2 = a.2 := rfl
 generalize canA a = y at *
 have hS1 := Lib.hid (fun (W : World) (hb : Below w.heap.size w W) (A1 : Option Addr) (c1 : Nat) (B1 : Option Addr) (d1 : Nat) (k : InD W y.1.2 A1 c1 B1 d1) => at_sameRat y.1.2 a.1.2 A1 c1 B1 d1 B d D e W k (h.bound.below hb) (by omega) (by omega) (by omega) (by omega))
 have hS2 := Lib.hid (fun (W : World) (hb : Below w.heap.size w W) (E : Option Addr) (j : Nat) (k : FRaw W E j y.1.1.2) => at_sameForm E j A c y.1.1.2 a.1.1.2 W k (h.raw.below hb))
 clear h hl yl
 unfold ToldAd atc at hO
 unfold atc
 unfold rvD at hS1
 obtain ⟨⟨⟨nm, f⟩, ⟨⟨s, xs⟩, ys⟩⟩, st⟩ := a
 obtain ⟨⟨⟨nm', g⟩, ⟨⟨s', us⟩, vs⟩⟩, st'⟩ := y
 dsimp only at *
 subst e1 e2
 obtain ⟨b1, hb1⟩ : ∃ b, b = decide ((((s', us), vs) : RatD) = ((s, xs), ys)) := ⟨_, rfl⟩
 obtain ⟨b2, hb2⟩ : ∃ b, b = decide (g = f) := ⟨_, rfl⟩
 rw [← hb1] at hS1 ⊢
 rw [← hb2] at hS2 ⊢
 clear hb1 hb2
 have HF := Lib.hid ((Fr.refl w).box [.string nm', .slice A f.length c, .bool s, .slice B xs.length d, .slice D ys.length e, .bool st'] 84)
 generalize f.length = n1 at *
 generalize xs.length = n2 at *
 generalize ys.length = n3 at *
 go_enter Tryz.func224, Tryz.ntmps224
 go_wp2_with fail
 refine (hO.out _ HF.out.bel).mono ?_
 rintro e' W1 ⟨E, j, A1, c1, B1, d1, rfl, k1, k2, hb⟩
 replace HF := Lib.hid (HF.out.below hb)
 simp only [List.toArray] at *
 have K1 := Lib.hid k1
 have K2 := Lib.hid k2
 clear hb hO k1 k2
 have hal := Lib.hid ((Below.refl _ W1).alloc (Nat.le_refl _) (.cells #[.string nm', .slice E g.length j, .bool s', .slice A1 us.length c1, .slice B1 vs.length d1, .bool st'] 84))
 replace K1 := Lib.hid (K1.out.below hal.out)
 replace K2 := Lib.hid (K2.out.below hal.out)
 replace HF := Lib.hid (HF.out.below hal.out)
 clear hal
 have a1 := HF.out.cellN 0 rfl 1 rfl
 have a2 := HF.out.cellN 0 rfl 2 rfl
 have a3 := HF.out.cellN 0 rfl 3 rfl
 have a4 := HF.out.cellN 0 rfl 4 rfl
 go_wp2_with fail
 refine (hS1.out _ HF.out.bel _ _ _ _ K2.out).mono ?_
 rintro e' W2 ⟨rfl, hb⟩
 cases b1 with
 | false =>
  replace HF := Lib.hid (HF.out.below hb)
  clear hb hS1 hS2 a1 a2 a3 a4
  go_wp2
  go_ret
  exact ⟨rfl, HF.out.bel⟩
 | true =>
  replace HF := Lib.hid (HF.out.below hb)
  replace K1 := Lib.hid (K1.out.below hb)
  have a5 := cell_below hb a1
  clear a1 a2 a3 a4
  have a6 : W2.cell? ⟨W1.heap.size, 1, none⟩ = some (.slice E g.length j) := cell_below hb (by simp)
  clear hb hS1
  go_wp2_with fail
  refine (hS2.out _ HF.out.bel _ _ K1.out).mono ?_
  rintro e' W3 ⟨rfl, hb⟩
  replace HF := Lib.hid (HF.out.below hb)
  clear hb hS2 a5 a6
  go_wp2
  go_ret
  exact ⟨rfl, HF.out.bel⟩
def prF (f : List (Int × RatD)) : Frm := nform (smul (pc (nform (fval f)))⁻¹ (nform (fval f)))
def mayA (a : AtomD) : Bool := nrmA a && (if a.1.1.1.data = #[] then (decide (0 < (prF a.1.1.2).length) && decide ((prF a.1.1.2).map canM = a.1.1.2)) else (decide (a.1.1.2.length = 0) && decide (sgn (rq a.1.2).num = 0) && !a.2))
theorem AtIn.pr {w : World} {a : AtomD} {A : Option Addr} {c : Nat} {B : Option Addr} {d : Nat} {D : Option Addr} {e : Nat} (h : AtIn w a A c B d D e) : 2 * mf (prF a.1.1.2) + 5 * (prF a.1.1.2).length ≤ 137438953470 := by
 have h1 := h.shp.shape
 have h2 := mf_nform (smul (pc (nform (fval a.1.1.2)))⁻¹ (nform (fval a.1.1.2)))
 have h3 := nform_len (smul (pc (nform (fval a.1.1.2)))⁻¹ (nform (fval a.1.1.2)))
 rw [smul_length] at h3
 have h4 := h.shp.five
 unfold prF
 omega
set_option maxHeartbeats 2000000 in
set_option maxRecDepth 100000 in
theorem at_may (a : AtomD) (A : Option Addr) (c : Nat) (B : Option Addr) (d : Nat) (D : Option Addr) (e : Nat) (w : World) (h : AtIn w a A c B d D e) :
 Calls Tryz.prog 226 #[.agg (atc a A c B d D e).toArray] w (Decides w (mayA a)) := by
 have hl := h.lens
 have hpr := h.pr
 have hnl := h.raw.len
 have hc := h.cap
 have hN := Lib.hid (fun (W : World) (hb : Below w.heap.size w W) => at_normal a A c B d D e W (h.below hb))
 have hP := Lib.hid (fun (W : World) (hb : Below w.heap.size w W) => linear_Prime A c a.1.1.2 W (h.raw.below hb) h.shp.q)
 have hS := Lib.hid (fun (W : World) (hb : Below w.heap.size w W) (E : Option Addr) (j : Nat) (k : FIn W E j (prF a.1.1.2)) => at_sameForm E j A c _ a.1.1.2 W (k.raw (by omega)) (h.raw.below hb))
 have hG := Lib.hid (fun (W : World) (hb : Below w.heap.size w W) => ratio_Sign a.1.2.1.1 B d a.1.2.1.2 D e a.1.2.2 W (h.bound.num.below hb) (by omega) (h.bound.den.below hb) (by omega))
 unfold mayA
 rw [show nform (smul (pc (nform (fval a.1.1.2)))⁻¹ (nform (fval a.1.1.2))) = prF a.1.1.2 from rfl] at hP
 generalize nrmA a = b0 at *
 generalize prF a.1.1.2 = p at *
 generalize pc (nform (fval a.1.1.2)) = q at *
 clear h hl hpr
 unfold atc at hN ⊢
 obtain ⟨⟨⟨nm, f⟩, ⟨⟨s, xs⟩, ys⟩⟩, st⟩ := a
 have hrv : rv s xs ys = rq ((s, xs), ys) := rfl
 dsimp only at *
 rw [hrv] at hG
 clear hrv
 generalize hz : sgn (rq ((s, xs), ys)).num = z at *
 clear hz
 simp only [List.length_map] at hS
 obtain ⟨b2, hb2⟩ : ∃ b, b = decide (p.map canM = f) := ⟨_, rfl⟩
 rw [← hb2] at hS ⊢
 clear hb2
 have HF := Lib.hid ((Fr.refl w).box [.string nm, .slice A f.length c, .bool s, .slice B xs.length d, .slice D ys.length e, .bool st] 84)
 generalize f.length = n1 at *
 generalize xs.length = n2 at *
 generalize ys.length = n3 at *
 by_cases hn : nm.data = #[]
 · rw [if_pos hn]
   obtain ⟨dn⟩ := nm
   dsimp only at hn
   subst hn
   go_enter Tryz.func226, Tryz.ntmps226
   go_wp2_with fail
   refine (hN.out _ HF.out.bel).mono ?_
   rintro e' W1 ⟨rfl, hb⟩
   replace HF := Lib.hid (HF.out.below hb)
   clear hb hN
   cases b0 with
   | false =>
    go_wp2
    go_ret
    exact ⟨rfl, HF.out.bel⟩
   | true =>
    have a0 := HF.out.cellN 0 rfl 0 rfl
    have a1 := HF.out.cellN 0 rfl 1 rfl
    have a2 := HF.out.cellN 0 rfl 2 rfl
    have a3 := HF.out.cellN 0 rfl 3 rfl
    have a4 := HF.out.cellN 0 rfl 4 rfl
    have a5 := HF.out.cellN 0 rfl 5 rfl
    go_wp2_with fail
    refine (hP.out _ HF.out.bel).mono ?_
    rintro e' W2 ⟨E, j, A1, c1, B1, d1, rfl, k1, k2, hb⟩
    replace HF := Lib.hid (HF.out.below hb)
    have K1 := Lib.hid k1.fin'
    clear hb hP k1 k2 a0 a1 a2 a3 a4 a5
    generalize decide (q.num < 0) = bq
    generalize (dg q.num.natAbs).length = nq
    generalize (dg q.den).length = dq
    have hal := Lib.hid ((Below.refl _ W2).alloc (Nat.le_refl _) (.cells #[.bool bq, .slice A1 nq c1, .slice B1 dq d1] 43))
    replace K1 := Lib.hid (K1.out.below hal.out)
    replace HF := Lib.hid (HF.out.below hal.out)
    clear hal
    have a1 := HF.out.cellN 0 rfl 1 rfl
    by_cases hp : 0 < p.length
    · have hpz : (0 : Int) < (p.length : Int) := by omega
      go_wp2_with fail
      refine (hS.out _ HF.out.bel _ _ K1.out).mono ?_
      rintro e' W3 ⟨rfl, hb⟩
      replace HF := Lib.hid (HF.out.below hb)
      clear hb hS a1 K1
      go_wp2
      go_ret
      exact ⟨ret_bool (show b2 = (true && (decide (0 < p.length) && b2)) from by rw [decide_eq_true hp]; rfl), HF.out.bel⟩
    · have hpz : ¬ (0 : Int) < (p.length : Int) := by omega
      go_wp2
      go_ret
      exact ⟨ret_bool (show false = (true && (decide (0 < p.length) && b2)) from by rw [decide_eq_false hp]; rfl), HF.out.bel⟩
 · rw [if_neg hn]
   have HN := Lib.hid hn
   clear hn
   go_enter Tryz.func226, Tryz.ntmps226
   go_wp2_with fail
   refine (hN.out _ HF.out.bel).mono ?_
   rintro e' W1 ⟨rfl, hb⟩
   replace HF := Lib.hid (HF.out.below hb)
   clear hb hN
   have hn := HN.out
   have hne : nm.toList.isEmpty = false := by rw [Lib.toList_data]; simpa using HN.out
   clear HN
   cases b0 with
   | false =>
    clear hn
    go_wp2
    go_ret
    exact ⟨rfl, HF.out.bel⟩
   | true =>
    have a0 := HF.out.cellN 0 rfl 0 rfl
    have a1 := HF.out.cellN 0 rfl 1 rfl
    have a2 := HF.out.cellN 0 rfl 2 rfl
    have a3 := HF.out.cellN 0 rfl 3 rfl
    have a4 := HF.out.cellN 0 rfl 4 rfl
    have a5 := HF.out.cellN 0 rfl 5 rfl
    by_cases h0 : n1 = 0
    · subst h0
      go_wp2_with fail
      refine (hG.out _ HF.out.bel).mono ?_
      rintro e' W2 ⟨rfl, hb⟩
      replace HF := Lib.hid (HF.out.below hb)
      clear hb hG a0 a1 a2 a3 a4 a5
      have a5 := HF.out.cellN 0 rfl 5 rfl
      by_cases hz : z = 0
      · subst hz
        go_wp2
        go_ret
        exact ⟨ret_bool (show (!st) = (true && (decide ((0 : Nat) = 0) && decide ((0 : Int) = 0) && !st)) from by simp), HF.out.bel⟩
      · have hzb : (z == 0) = false := by rw [beq_eq_false_iff_ne]; exact hz
        go_wp2
        go_ret
        exact ⟨ret_bool (show false = (true && (decide ((0 : Nat) = 0) && decide (z = 0) && !st)) from by rw [decide_eq_false hz]; simp), HF.out.bel⟩
    · have h0b : ((n1 : Int) == 0) = false := by rw [beq_eq_false_iff_ne]; omega
      go_wp2
      go_ret
      exact ⟨ret_bool (show false = (true && (decide (n1 = 0) && decide (z = 0) && !st)) from by rw [decide_eq_false h0]; rfl), HF.out.bel⟩
def alike (a b : AtomD) : Bool := decide (a.1.1.1.data = b.1.1.1.data) && (decide (a.2 = b.2) && (decide (a.1.2 = b.1.2) && decide (a.1.1.2 = b.1.1.2)))
end Go.Proofs.YtidgpkccjcddgaaGreatDoor.F
