/- The first line is read: (*proof.reader).head. Condition: a line of at most 1048576 bytes; the tables lie as laid. -/
import Derived.Test.YtidgpkccjcddgaaGreatDoorHaf
import Derived.Deep.CutBlock
import Derived.Deep.DeepCutAuto
import Derived.BigQuiet
set_option linter.unusedVariables false
set_option linter.unusedSimpArgs false
namespace Go.Proofs.YtidgpkccjcddgaaGreatDoor.F
open Go.RowKit Go.Shelf Go.Proofs.YtidgpkccjcddgaaGreatDoorW.PrintLast
structure Oth (g : Nat) (w w' : World) : Prop where
 size : w.heap.size ≤ w'.heap.size
 same : ∀ k, k < w.heap.size → k ≠ g → w'.heap[k]? = w.heap[k]?
theorem Oth.of {g : Nat} {w w' : World} (h : Below w.heap.size w w') : Oth g w w' := ⟨h.size, fun k hk _ => h.block k hk⟩
theorem Oth.trans {g : Nat} {a b c : World} (h : Oth g a b) (k : Oth g b c) : Oth g a c := ⟨Nat.le_trans h.size k.size, fun i hi hn => (k.same i (Nat.lt_of_lt_of_le hi h.size) hn).trans (h.same i hi hn)⟩
theorem Oth.set {g : Nat} (w : World) (i : Nat) (v : Value) : Oth g w (w.setCell ⟨g, i, none⟩ v) := ⟨by simp [World.setCell], fun k _ hk => Below.heap_setCell w _ v k hk⟩
theorem Oth.keepT {g : Nat} {w w' : World} {t u : TypeId} {cs : List Value} (h : Oth g w w') (ho : OwnT w g u cs) (hn : t ≠ u) : KeepT t w w' := by
 refine ⟨h.size, fun k cur fz e => (h.same k (Array.getElem?_eq_some_iff.1 e).1 ?_).trans e⟩
 rintro rfl
 rw [ho] at e
 simp only [Option.some.injEq, Obj.cells.injEq] at e
 exact hn e.2.1.symm
theorem Oth.keepU {g : Nat} {w w' : World} {u : TypeId} {cs : List Value} (h : Oth g w w') (ho : OwnT w g u cs) (hn : NoU cs) : KeepU w w' := KeepU.of_blocks fun k hk => by
 by_cases e : k = g
 · subst e
   exact .inr ⟨_, _, _, ho, by simpa using hn⟩
 · exact .inl (h.same k hk e)
theorem head_no {s : List UInt8} (h : (segsC 32 s).length ≠ 3) : ∀ a b, ¬ IsHead s a b := fun a b hd => h (by rw [hd.1, segs_head]; rfl)
theorem head_at {s x y z : List UInt8} (hw : segsC 32 s = [x, y, z]) {a b : Int} (h : IsHead s a b) : okI y = true ∧ okI z = true ∧ valI y = a ∧ valI z = b := by
 have e := segs_head a b
 rw [← h.1, hw] at e
 simp only [List.cons.injEq, and_true] at e
 obtain ⟨rfl, rfl, rfl⟩ := e
 exact ⟨(okI_itoa h.2.1).1, (okI_itoa h.2.2.1).1, (okI_itoa h.2.1).2, (okI_itoa h.2.2.1).2⟩
set_option maxHeartbeats 4000000 in
set_option maxRecDepth 100000 in
theorem pr_readHead (w0 : World) (hL : Laid w0) (hP : PowTab w0) (g : Nat) (hg0 : w0.heap.size ≤ g) (x1 x2 m : Value) (b0 : Bool) (n1 n2 : Int) (s : List UInt8) (w : World) (hg : OwnT w g 145 [x1, x2, .bool b0, .int .i64 n1, .int .i64 n2, m]) (hb0 : Below w0.heap.size w0 w) (hs : s.length ≤ 1048576) :
 Calls Tryz.prog 157 #[.pointer (some ⟨g, 0, none⟩), .string ⟨s.toArray⟩] w fun e w' => Below w0.heap.size w w' ∧ Oth g w w' ∧
  ((∃ a b, e = .returned (.bool true) ∧ IsHead s a b ∧ OwnT w' g 145 [x1, x2, .bool true, .int .i64 a, .int .i64 b, m]) ∨ (e = .returned (.bool false) ∧ ∀ a b, ¬ IsHead s a b)) := by
 have HL := Lib.hid hL
 have HP := Lib.hid hP
 have HG := Lib.hid hg
 have HB0 := Lib.hid hb0
 have HSp := Lib.hid (split_l s 32 w (by omega) (hL.below hb0))
 obtain ⟨hfew, hlen⟩ := segs_few 32 s
 by_cases h3 : (segsC 32 s).length = 3
 · obtain ⟨x, y, z, hw⟩ : ∃ x y z, segsC 32 s = [x, y, z] := by
    generalize segsC 32 s = l at h3
    match l, h3 with
    | [x, y, z], _ => exact ⟨x, y, z, rfl⟩
   have HAt := Lib.hid (fun a b (h : IsHead s a b) => head_at hw h)
   rw [hw] at HSp hlen
   have hy := hlen y (by simp)
   have hz := hlen z (by simp)
   clear hL hP hg hb0 hfew hlen h3 hw
   have hSB : (⟨s.toArray⟩ : ByteArray).toList = s := ByteArray.toList_mk s
   generalize (⟨s.toArray⟩ : ByteArray) = SB at *
   go_enter Tryz.func157, Tryz.ntmps157
   go_wp2_with fail
   refine HSp.out.mono ?_
   rintro e W1 ⟨gw, rfl, hb, hc⟩
   have c1 := hc 1 (by simp)
   have c2 := hc 2 (by simp)
   simp only [List.getElem_cons_succ, List.getElem_cons_zero, List.length_cons, List.length_nil, Nat.zero_add, Nat.reduceAdd] at c1 c2 ⊢
   have HB1 := Lib.hid hb
   clear hc hb HSp
   have hA1 := Lib.hid (atoi_l y W1 (by omega) (HL.out.below (HB0.out.trans (HB1.out.mono HB0.out.size))))
   go_wp2_with fail
   refine hA1.out.mono ?_
   rintro e W2 ⟨v1, e1, rfl, hb, hd1⟩
   have c2 := cell_below hb c2
   replace HB1 := Lib.hid (HB1.out.trans (hb.mono HB1.out.size))
   clear hb hA1 c1
   have hA2 := Lib.hid (atoi_l z W2 (by omega) (HL.out.below (HB0.out.trans (HB1.out.mono HB0.out.size))))
   have HD1 := Lib.hid hd1
   clear hd1
   go_wp2_with fail
   refine hA2.out.mono ?_
   rintro e W3 ⟨v2, e2, rfl, hb, hd2⟩
   have HB3 := Lib.hid (HB1.out.trans (hb.mono HB1.out.size))
   have HG3 := Lib.hid (HG.out.keep (KeepT.below HB3.out))
   have HO3 := Lib.hid (Oth.of (g := g) HB3.out)
   have HD2 := Lib.hid hd2
   clear hb hA2 c2 hd2 HB1 HG
   have f2 := HG3.out.own.frozen 2
   have f3 := HG3.out.own.frozen 3
   have f4 := HG3.out.own.frozen 4
   have d2 := HG3.out.own.cell 2 (by simp)
   have d3 := HG3.out.own.cell 3 (by simp)
   have d4 := HG3.out.own.cell 4 (by simp)
   go_upto_region 7 with fail
   have HG5 := Lib.hid (((HG3.out.set 2 (.bool true)).set 3 (.int .i64 v1)).set 4 (.int .i64 v2))
   have HO5 := Lib.hid (((HO3.out.trans (Oth.set W3 2 (.bool true))).trans (Oth.set _ 3 (.int .i64 v1))).trans (Oth.set _ 4 (.int .i64 v2)))
   have HB5 := Lib.hid ((((HB3.out.mono HB0.out.size).setCell (p := ⟨g, 2, none⟩) hg0 (.bool true)).setCell (p := ⟨g, 3, none⟩) hg0 (.int .i64 v1)).setCell (p := ⟨g, 4, none⟩) hg0 (.int .i64 v2))
   simp only [List.set_cons_succ, List.set_cons_zero] at HG5
   clear f2 f3 f4 d2 d3 d4 HG3 HO3 HB3
   generalize World.setCell _ _ _ = W5 at HG5 HO5 HB5 ⊢
   rcases HD1.out with ⟨ha1, rfl⟩ | ⟨ha1, t1, p1, rfl⟩
   · rcases HD2.out with ⟨ha2, rfl⟩ | ⟨ha2, t2, p2, rfl⟩
     · have i1 : inr v1 := Lib.atoiAll_bounds ha1
       have i2 : inr v2 := Lib.atoiAll_bounds ha2
       have HV := Lib.hid (show ∀ a b, IsHead s a b → v1 = a ∧ v2 = b from fun a b h => by
        obtain ⟨_, _, h3, h4⟩ := HAt.out a b h
        exact ⟨by rw [← (okI_of ha1).2]; exact h3, by rw [← (okI_of ha2).2]; exact h4⟩)
       have hH := Lib.hid (pr_head v1 v2 i1 i2 W5 (HP.out.below (HB0.out.trans HB5.out)))
       have HI := Lib.hid (show inr v1 ∧ inr v2 from ⟨i1, i2⟩)
       clear ha1 ha2 i1 i2 HD1 HD2 HAt HL HP HB0
       go_wp2_with fail
       refine hH.out.mono ?_
       rintro e W6 ⟨rfl, hb⟩
       have HG6 := Lib.hid (HG5.out.keep (KeepT.below hb))
       have HO6 := Lib.hid (HO5.out.trans (Oth.of hb))
       have HB6 := Lib.hid (HB5.out.trans (hb.mono (Nat.le_trans hg0 (Nat.le_of_lt HG5.out.lt))))
       clear hb hH HG5 HO5 HB5
       by_cases heq : headT v1 v2 = s
       · have hte : (headT v1 v2 == s) = true := by rw [heq]; simp
         have HE := Lib.hid heq
         clear heq
         by_cases h1 : (1 : Int) ≤ v1
         · by_cases h2 : v1 ≤ (262144 : Int)
           · by_cases h3 : (0 : Int) ≤ v2
             · have HH := Lib.hid (show IsHead s v1 v2 from ⟨HE.out.symm, HI.out.1, HI.out.2, h1, h2, h3⟩)
               clear HV HI HE
               go_wp2
               go_ret
               exact ⟨HB6.out, HO6.out, .inl ⟨v1, v2, rfl, HH.out, HG6.out⟩⟩
             · have HX := Lib.hid (show ∀ a b, ¬ IsHead s a b from fun a b h => h3 (by rw [(HV.out a b h).2]; exact h.2.2.2.2.2))
               clear HV HI HE
               go_wp2
               go_ret
               exact ⟨HB6.out, HO6.out, .inr ⟨congrArg (fun b => Ending.returned (Value.bool b)) (decide_eq_false (by omega)), HX.out⟩⟩
           · have HX := Lib.hid (show ∀ a b, ¬ IsHead s a b from fun a b h => h2 (by rw [(HV.out a b h).1]; exact h.2.2.2.2.1))
             clear HV HI HE
             go_wp2
             go_ret
             exact ⟨HB6.out, HO6.out, .inr ⟨rfl, HX.out⟩⟩
         · have HX := Lib.hid (show ∀ a b, ¬ IsHead s a b from fun a b h => h1 (by rw [(HV.out a b h).1]; exact h.2.2.2.1))
           clear HV HI HE
           go_wp2
           go_ret
           exact ⟨HB6.out, HO6.out, .inr ⟨rfl, HX.out⟩⟩
       · have hte : (headT v1 v2 == s) = false := by simpa using heq
         have HX := Lib.hid (show ∀ a b, ¬ IsHead s a b from fun a b h => heq (by rw [(HV.out a b h).1, (HV.out a b h).2]; exact h.1.symm))
         clear HV HI heq
         go_wp2
         go_ret
         exact ⟨HB6.out, HO6.out, .inr ⟨rfl, HX.out⟩⟩
     · have HX := Lib.hid (show ∀ a b, ¬ IsHead s a b from fun a b h => by
        have h2 := (HAt.out a b h).2.1
        rw [okI_no ha2] at h2
        cases h2)
       clear ha1 ha2 HD1 HD2 HAt HL HP HB0
       go_wp2
       go_ret
       exact ⟨HB5.out, HO5.out, .inr ⟨rfl, HX.out⟩⟩
   · have HX := Lib.hid (show ∀ a b, ¬ IsHead s a b from fun a b h => by
      have h2 := (HAt.out a b h).1
      rw [okI_no ha1] at h2
      cases h2)
     clear ha1 HD1 HD2 HAt HL HP HB0
     go_wp2
     go_ret
     exact ⟨HB5.out, HO5.out, .inr ⟨rfl, HX.out⟩⟩
 · have HX := Lib.hid (head_no h3)
   have h3z : (((segsC 32 s).length : Int) != 3) = true := by rw [bne_iff_ne]; omega
   have HBw := Lib.hid HB0
   clear hL hP hg hb0 hlen h3 HG
   generalize segsC 32 s = xs at *
   generalize (⟨s.toArray⟩ : ByteArray) = SB at *
   go_enter Tryz.func157, Tryz.ntmps157
   go_wp2_with fail
   refine HSp.out.mono ?_
   rintro e W1 ⟨gw, rfl, hb, hc⟩
   have HB6 := Lib.hid (hb.mono HB0.out.size)
   have HO6 := Lib.hid (Oth.of (g := g) hb)
   clear hb hc HSp
   go_wp2
   go_ret
   exact ⟨HB6.out, HO6.out, .inr ⟨rfl, HX.out⟩⟩
def ToldRA (w : World) (s : List UInt8) (e : Ending) (w' : World) : Prop :=
 (∃ d E j A c B e0, e = .returned (.iface 98 (.agg (atc d E j A c B e0).toArray)) ∧ AtO w' d (atc d E j A c B e0) ∧ AtX w' d E j A c B e0 ∧ d.1.1.1.size ≤ 1048576 ∧ (lnA d = s → CanA d) ∧ Below w.heap.size w w' ∧ ∀ d0, IsAtom s d0 → d = d0) ∨
 (e = .returned .nilIface ∧ Below w.heap.size w w' ∧ ∀ d0, ¬ IsAtom s d0)
theorem atom_form {s : List UInt8} {d0 : AtomD} (hs : s ≠ wT) (h : IsAtom s d0) : (∃ n, segsC 32 s = [wBo, hexN n] ∧ d0 = tokB n) ∨ (∃ l q st, CanF l ∧ segsC 32 s = [sgW st, tf l, tq q] ∧ d0 = tokL l q st) := by
 have h1 := (isAtom_rd.1 h).1
 unfold rdA at h1
 rw [if_neg hs] at h1
 exact rdW_some h1
theorem sgW_ne (st : Bool) : sgW st ≠ wBo := by cases st <;> decide
theorem atom_noB {s : List UInt8} {r : List (List UInt8)} (hs : s ≠ wT) (hw : segsC 32 s = wBo :: r) (hr : ∀ n, r ≠ [hexN n]) : ∀ d0, ¬ IsAtom s d0 := fun d0 h => by
 rcases atom_form hs h with ⟨n, e, _⟩ | ⟨l, q, st, _, e, _⟩
 · rw [hw] at e
   simp only [List.cons.injEq, true_and] at e
   exact hr n e
 · rw [hw] at e
   simp only [List.cons.injEq] at e
   exact sgW_ne st e.1.symm
theorem atom_noL {s k : List UInt8} {r : List (List UInt8)} (hs : s ≠ wT) (hw : segsC 32 s = k :: r) (hk : k ≠ wBo) (hr : ∀ l q st, CanF l → k = sgW st → r ≠ [tf l, tq q]) : ∀ d0, ¬ IsAtom s d0 := fun d0 h => by
 rcases atom_form hs h with ⟨n, e, _⟩ | ⟨l, q, st, hc, e, _⟩
 · rw [hw] at e
   simp only [List.cons.injEq] at e
   exact hk e.1
 · rw [hw] at e
   simp only [List.cons.injEq] at e
   obtain ⟨e1, e2⟩ := e
   exact hr l q st hc e1 (by rw [e2])
theorem atom_B {s : List UInt8} {nm : List UInt8} (hs : s ≠ wT) (hw : segsC 32 s = [wBo, hexN nm]) : ∀ d0, IsAtom s d0 → tokB nm = d0 := fun d0 h => by
 rcases atom_form hs h with ⟨n, e, rfl⟩ | ⟨l, q, st, _, e, _⟩
 · rw [hw] at e
   simp only [List.cons.injEq, and_true, true_and] at e
   rw [hexN_inj e]
 · rw [hw] at e
   simp only [List.cons.injEq] at e
   exact absurd e.1.symm (sgW_ne st)
theorem atom_L {s : List UInt8} {l : Frm} {q : Rat} {y : List UInt8} {st : Bool} (hs : s ≠ wT) (hw : segsC 32 s = [sgW st, tf l, y]) (hy : ∀ q0, y = tq q0 → q = q0) : ∀ d0, IsAtom s d0 → tokL l q st = d0 := fun d0 h => by
 rcases atom_form hs h with ⟨n, e, rfl⟩ | ⟨l0, q0, st0, _, e, rfl⟩
 · rw [hw] at e
   simp only [List.cons.injEq] at e
   exact absurd e.1 (sgW_ne st)
 · rw [hw] at e
   simp only [List.cons.injEq, and_true] at e
   obtain ⟨e1, e2, e3⟩ := e
   have h1 : st = st0 := by cases st <;> cases st0 <;> first | rfl | exact absurd e1 (by decide)
   rw [h1, tf_inj e2, hy q0 e3]
theorem canA_B (nm : List UInt8) : CanA (tokB nm) := by
 by_cases h : nm = []
 · subst h; exact .inl rfl
 · exact .inr (.inl ⟨nm, h, rfl⟩)
theorem canA_L {s : List UInt8} {l : Frm} {q : Rat} {st : Bool} (hs : s ≠ wT) (hc : CanF l) (h : lnA (tokL l q st) = s) : CanA (tokL l q st) := by
 by_cases hl : l = []
 · subst hl
   exact absurd (h.symm.trans (show lnA (tokL [] q st) = wT from rfl)) hs
 · exact .inr (.inr ⟨l, q, st, hl, hc, rfl⟩)
def BigA (s : List UInt8) : Prop := s.length ≤ 1048576 ∨ ∃ d0, IsAtom s d0 ∧ GoodA d0
theorem told_B {w W : World} {s nm : List UInt8} {A : Option Addr} {c : Nat} {B : Option Addr} {e : Nat} {qb : Bool} {n1 n2 : Nat} (h : InQ W A c B e 0) (h0 : decide ((0 : Rat).num < 0) = qb) (h1 : (dg (0 : Rat).num.natAbs).length = n1) (h2 : (dg (0 : Rat).den).length = n2)
 (hq : BigA s) (hs : nm.length ≤ s.length) (hb : Below w.heap.size w W) (hx : ∀ d0, IsAtom s d0 → tokB nm = d0) :
 ToldRA w s (.returned (.iface 98 (.agg #[.string ⟨nm.toArray⟩, .slice none 0 0, .bool qb, .slice A n1 c, .slice B n2 e, .bool false]))) W := by
 subst h0 h1 h2
 have hl : (dg (0 : Rat).num.natAbs).length ≤ 137438953472 ∧ (dg (0 : Rat).den).length ≤ 137438953472 := by decide +kernel
 have hname : (tokB nm).1.1.1.size ≤ 1048576 := by
  rcases hq with h | ⟨d0, h1, h2⟩
  · show nm.toArray.size ≤ _
    rw [List.size_toArray]
    omega
  · rw [hx d0 h1]
    exact h2.name
 refine .inl ⟨tokB nm, none, 0, A, c, B, e, rfl, ⟨⟨nm.toArray⟩, [], 0, false, none, 0, A, c, B, e, rfl, rfl, OwnF.nil _ _, h, CanF.nil, hl⟩, ⟨FIn.raw (FIn.nil W none 0) (by decide), ⟨h.num, h.den⟩, (show (dg (0 : Rat).num.natAbs).length ≤ 8388608 ∧ (dg (0 : Rat).den).length ≤ 8388608 from by decide +kernel), ?_⟩, hname, fun _ => canA_B nm, hb, hx⟩
 exact ⟨TxOk.of (fun m hm => (List.not_mem_nil hm).elim) (Nat.zero_le _), (show (tf []).length ≤ 110000000 from by decide), by show (tq (rq (canD 0))).length ≤ _; rw [rq_can, tq_zero]; decide⟩
theorem told_L {w W : World} {s x y : List UInt8} {l : Frm} {E : Option Addr} {j : Nat} {q : Rat} {A : Option Addr} {c : Nat} {B : Option Addr} {e : Nat} {st : Bool} (hf : OwnF W 0 (.slice E l.length j) l) (hc : CanF l) (hm : mf l ≤ 6 * x.length + 6) (hxt : x = tf l) (hq : InQ W A c B e q)
 (hl : (dg q.num.natAbs).length + (dg q.den).length ≤ min (2 * y.length + 4) (6 * y.length)) (hq0 : BigA s) (hx1 : x.length ≤ s.length) (hy1 : y.length ≤ s.length) (hs67 : s.length ≤ 67108864) (hs : s ≠ wT) (hb : Below w.heap.size w W) (hx : ∀ d0, IsAtom s d0 → tokL l q st = d0) :
 ToldRA w s (.returned (.iface 98 (.agg #[.string ⟨#[]⟩, .slice E l.length j, .bool (decide (q.num < 0)), .slice A (dg q.num.natAbs).length c, .slice B (dg q.den).length e, .bool st]))) W := by
 have hln := mf_len' l
 obtain ⟨E', j', e1, hfi⟩ := hf.fin
 simp only [Value.slice.injEq, true_and] at e1
 obtain ⟨rfl, rfl⟩ := e1
 have h1 := tq_len q
 have h2 := mu_szq q
 have h3 : szq q ≤ 4194310 := by
  unfold szq
  rcases hq0 with h | ⟨d0, g1, g2⟩
  · omega
  · have e := hx d0 g1
    have hm := g2.goodB.mn
    have hd := g2.goodB.md
    have hf := g2.few
    rw [← e] at hm hd hf
    unfold wtn wtAt at hf
    have hm' : (dg q.num.natAbs).length ≤ wt (canD q) := hm
    have hd' : (dg q.den).length ≤ wt (canD q) := hd
    have hf' : 0 + (((l.map canM).map wtm).sum + wt (canD q)) + 4 ≤ 2097152 := hf
    omega
 have hlen : atc (tokL l q st) E j A c B e = [.string ⟨#[]⟩, .slice E l.length j, .bool (decide (q.num < 0)), .slice A (dg q.num.natAbs).length c, .slice B (dg q.den).length e, .bool st] := by
  unfold atc
  show [_, Value.slice E (l.map canM).length j, _, _, _, _] = _
  rw [List.length_map]
  rfl
 refine .inl ⟨tokL l q st, E, j, A, c, B, e, by rw [hlen], ⟨⟨#[]⟩, l, q, st, E, j, A, c, B, e, rfl, rfl, hf, hq, hc, by unfold szq at h3; omega, by unfold szq at h3; omega⟩, ⟨FIn.raw hfi (by omega), ⟨hq.num, hq.den⟩, ?_, ?_⟩, Nat.zero_le _, canA_L hs hc, hb, hx⟩
 · show (dg q.num.natAbs).length ≤ _ ∧ (dg q.den).length ≤ _
   unfold szq at h3
   omega
 · show TxOk (nform (fval (l.map canM))) ∧ (tf (nform (fval (l.map canM)))).length ≤ _ ∧ (tq (rq (canD q))).length ≤ _
   rw [nf_can hc, rq_can, ← hxt]
   exact ⟨TxOk.of hc.var (by omega), by omega, by omega⟩
theorem str_two (x : List UInt8) (i : Nat) (h : i + 1 < x.length) : (⟨x.toArray⟩ : ByteArray).extract i (i + 2) = ⟨#[x[i], x[i + 1]]⟩ := by
 rw [str_cut]
 unfold cutAt
 have e : (x.take (i + 2)).drop i = [x[i], x[i + 1]] := by
  rw [List.drop_take, show i + 2 - i = 2 by omega, List.drop_eq_getElem_cons (by omega : i < x.length), List.drop_eq_getElem_cons (by omega : i + 1 < x.length)]
  rfl
 rw [e]
theorem hexN_drop : ∀ (n : List UInt8) (k : Nat), (hexN n).drop (2 * k) = hexN (n.drop k)
 | [], k => by simp [hexN]
 | b :: l, 0 => by simp
 | b :: l, k + 1 => by
  rw [hexN_cons, List.drop_succ_cons, ← hexN_drop l k, show 2 * (k + 1) = (hxB b).length + 2 * k by simp [hxB]; omega, List.drop_append]
  simp
theorem hexN_at {n x : List UInt8} (hxe : x = hexN n) (k : Nat) (h : 2 * k + 1 < x.length) : ∃ b, hxB b = [x[2 * k], x[2 * k + 1]] := by
 have hl : x.length = 2 * n.length := by rw [hxe, hexN_len]
 have hk : k < n.length := by omega
 refine ⟨n[k], ?_⟩
 have e1 := hexN_drop n k
 rw [← hxe, List.drop_eq_getElem_cons (by omega : 2 * k < x.length), List.drop_eq_getElem_cons (by omega : 2 * k + 1 < x.length), List.drop_eq_getElem_cons hk, hexN_cons] at e1
 have : hxB n[k] = [hx (n[k].toNat / 16), hx (n[k].toNat % 16)] := rfl
 rw [this] at e1 ⊢
 simp only [List.cons_append, List.nil_append, List.cons.injEq] at e1
 rw [e1.1, e1.2.1]
theorem hexN_next {nm x : List UInt8} {b : UInt8} {i : Nat} (h : i + 1 < x.length) (hx : hexN nm = x.take i) (hb : hxB b = [x[i], x[i + 1]]) : hexN (nm ++ [b]) = x.take (i + 2) := by
 rw [hexN_snoc, hx, hb, show i + 2 = (i + 1) + 1 from rfl, List.take_succ_eq_append_getElem (i := i + 1) h, List.take_succ_eq_append_getElem (i := i) (by omega), List.append_assoc]
 rfl
theorem Fr.drop {w W : World} {p : Nat × List Value} {bs : List (Nat × List Value)} (h : Fr w W (p :: bs)) : Fr w W bs := ⟨h.1, fun q hq => h.2 q (List.mem_cons_of_mem _ hq)⟩
theorem segs_cons2 (c : UInt8) (s : List UInt8) : ∃ k r, segsC c s = k :: r := by
 cases h : segsC c s with
 | nil => exact absurd h (segsC_ne c s)
 | cons k r => exact ⟨k, r, rfl⟩
set_option maxHeartbeats 4000000 in
set_option maxRecDepth 100000 in
theorem pr_readAtom (s : List UInt8) (w : World) (hs : s.length ≤ 67108864) (hbig : BigA s) (hL : Laid w) :
 Calls Tryz.prog 158 #[.string ⟨s.toArray⟩] w (ToldRA w s) := by
 have HL := Lib.hid hL
 have HBg := Lib.hid hbig
 clear hbig
 have HSp := Lib.hid (split_l s 32 w (by omega) hL)
 have hSB : (⟨s.toArray⟩ : ByteArray).toList = s := ByteArray.toList_mk s
 obtain ⟨k, r, hkr⟩ := segs_cons2 32 s
 obtain ⟨hfew, hlen⟩ := segs_few 32 s
 have hWh := Lib.hid (fun (W : World) => ratio_Whole 0 W (by omega) (by omega))
 rw [show ((0 : Int) : Rat) = 0 from rfl] at hWh
 rw [hkr] at HSp hfew hlen
 have HLen := Lib.hid hlen
 have HW := Lib.hid hkr
 have hk0 : (k :: r).length = r.length + 1 := List.length_cons
 rw [hk0] at hfew
 clear hL hkr hlen
 generalize (⟨s.toArray⟩ : ByteArray) = SB at *
 go_enter Tryz.func158, Tryz.ntmps158
 go_wp2_with fail
 refine HSp.out.mono ?_
 rintro e W1 ⟨g, rfl, hb, hc⟩
 have HB := Lib.hid hb
 replace HL := Lib.hid (HL.out.below hb)
 have HC := Lib.hid hc
 rw [hk0]
 clear hc hb HSp
 go_wp2_with fail
 refine (hWh.out _).mono ?_
 rintro e W2 ⟨A1, c1, B1, d1, rfl, q1, q2, q3⟩
 have HQ := Lib.hid (show InQ W2 A1 c1 B1 d1 0 from ⟨q1, q2⟩)
 replace HL := Lib.hid (HL.out.below q3)
 replace HB := Lib.hid (HB.out.trans (q3.mono HB.out.size))
 have HC2 := Lib.hid (show ∀ i (h : i < (k :: r).length), W2.cell? ⟨g, i, none⟩ = some (.string ⟨((k :: r)[i]).toArray⟩) from fun i h => cell_below q3 (HC.out i h))
 clear q1 q2 q3 hWh HC
 obtain ⟨qb, hqb⟩ : ∃ qb, decide ((0 : Rat).num < 0) = qb := ⟨_, rfl⟩
 obtain ⟨n1, hn1⟩ : ∃ n, (dg (0 : Rat).num.natAbs).length = n := ⟨_, rfl⟩
 obtain ⟨n2, hn2⟩ : ∃ n, (dg (0 : Rat).den).length = n := ⟨_, rfl⟩
 rw [hqb, hn1, hn2]
 have HQb := Lib.hid hqb
 have HN1 := Lib.hid hn1
 have HN2 := Lib.hid hn2
 clear hqb hn1 hn2
 have HF := Lib.hid ((Fr.refl W2).box [.string ⟨#[]⟩, .slice none 0 0, .bool qb, .slice A1 n1 c1, .slice B1 n2 d1, .bool false] 84)
 simp only [List.toArray] at HF
 go_upto_region 3 with fail
 generalize hgt : World.alloc _ _ = W3 at HF ⊢
 clear hgt
 by_cases hsT : s = wT
 · have hz : (s == [116, 114, 117, 101]) = true := by rw [hsT]; rfl
   have a0 := HF.out.cellN 0 rfl 0 rfl
   have a1 := HF.out.cellN 0 rfl 1 rfl
   have a2 := HF.out.cellN 0 rfl 2 rfl
   have a3 := HF.out.cellN 0 rfl 3 rfl
   have a4 := HF.out.cellN 0 rfl 4 rfl
   have a5 := HF.out.cellN 0 rfl 5 rfl
   have HE := Lib.hid (told_B (w := w) (W := W3) (s := s) (nm := []) (A := A1) (c := c1) (B := B1) (e := d1) ⟨HQ.out.num.below HF.out.bel, HQ.out.den.below HF.out.bel⟩ HQb.out HN1.out HN2.out HBg.out (Nat.zero_le _) (HB.out.trans (HF.out.bel.mono HB.out.size)) (fun d0 hd => isAtom_one (s := s) ⟨.inl rfl, by rw [hsT]; rfl⟩ hd))
   simp only [List.toArray] at HE
   clear HW HLen HL HB HC2 HF HQ hsT hk0 hfew
   go_wp2
   go_ret
   exact HE.out
 have hz : (s == [116, 114, 117, 101]) = false := beq_eq_false_iff_ne.2 (show s ≠ [116, 114, 117, 101] from hsT)
 have hc0 := cell_below HF.out.bel (HC2.out 0 (by simp))
 simp only [List.getElem_cons_zero] at hc0
 by_cases hk : k = wBo
 · have hkz : (k == [98, 111, 111, 108]) = true := by rw [hk]; rfl
   have hk1 : (k == [60]) = false := by rw [hk]; rfl
   have hk2 : (k == [60, 61]) = false := by rw [hk]; rfl
   by_cases hr : r.length = 1
   · obtain ⟨x, rfl⟩ : ∃ x, r = [x] := by
      match r, hr with
      | [x], _ => exact ⟨x, rfl⟩
     have hc1 := HC2.out 1 (by simp)
     simp only [List.getElem_cons_succ, List.getElem_cons_zero] at hc1
     have HC1 := Lib.hid hc1
     replace hc1 := cell_below HF.out.bel hc1
     have hxl := HLen.out x (by simp)
     by_cases hpar : x.length % 2 = 0
     · have hpz : (((x.length : Int) % 2) == 0) = true := by rw [beq_iff_eq]; omega
       have HHex := Lib.hid (fun (W : World) (i : Nat) (h : i + 1 < x.length) => pr_hex x[i] x[i + 1] ⟨#[x[i], x[i + 1]]⟩ rfl rfl rfl W)
       have hXsz : (⟨x.toArray⟩ : ByteArray).size = x.length := by show x.toArray.size = _; rw [List.size_toArray]
       have HTwo := Lib.hid (fun (i : Nat) (h : i + 1 < x.length) => str_two x i h)
       generalize hXB : (⟨x.toArray⟩ : ByteArray) = XB at *
       clear hXB
       have HE := Lib.hid (fun (W : World) (nm : List UInt8) (A : Option Addr) (c : Nat) (B : Option Addr) (d : Nat) (hq : InQ W A c B d 0) (hl : nm.length ≤ s.length) (hb : Below w.heap.size w W) (hx : x = hexN nm) => told_B (w := w) (W := W) (s := s) (nm := nm) hq HQb.out HN1.out HN2.out HBg.out hl hb (atom_B hsT (by rw [HW.out, hk, hx])))
       have HNo := Lib.hid (fun (i : Nat) (m : Nat) (hm : i = 2 * m) (h : i + 1 < x.length) (hb : ∀ b : UInt8, hxB b ≠ [x[i], x[i + 1]]) => atom_noB hsT (by rw [HW.out, hk]) (fun n e => by
        subst hm
        simp only [List.cons.injEq, and_true] at e
        obtain ⟨b, hbb⟩ := hexN_at e m h
        exact hb b hbb))
       have hcv : ∀ (W : World) (b : UInt8), (convert 89 9 (.slice (some ⟨W.heap.size, 0, none⟩) 1 1)).run Tryz.prog (W.alloc (.cells #[.int .u8 (b.toNat : Int)] 5)) = .ok (.string ⟨#[b]⟩) (W.alloc (.cells #[.int .u8 (b.toNat : Int)] 5)) := fun W b => run_convert_bytes_back (P := Tryz.prog) (W.alloc (.cells #[.int .u8 (b.toNat : Int)] 5)) 89 9 5 ⟨W.heap.size, 0, none⟩ 1 [b] Tryz.underlying89 Tryz.underlying5 Tryz.underlying9 (fun j hj => by
        have hj0 : j = 0 := by simpa using hj
        subst hj0
        exact (Own.mk (w := W) [.int .u8 (b.toNat : Int)] 5).cell 0 (by simp))
       have HCv := Lib.hid hcv
       clear hcv
       have HCx := Lib.hid (show W2.cell? ⟨g, 1, none⟩ = some (.string XB) from HC1.out)
       clear HW HLen HL hsT hk hfew hk0 HC1 HC2
       go_wp2_with fail
       go_loopg [5] (x.length / 2) (fun gg s5 wr => ∃ (i : Nat) (nm : List UInt8) (NB : ByteArray), nm.length + gg = x.length / 2 ∧ Hid (i = 2 * nm.length) ∧ s5 = .int .i64 i ∧ Hid (hexN nm = x.take i) ∧ Hid (NB = ⟨nm.toArray⟩) ∧ Hid (Fr W2 wr [(W2.heap.size, [.string NB, .slice none 0 0, .bool qb, .slice A1 n1 c1, .slice B1 n2 d1, .bool false])]))
       case atStart => exact ⟨0, [], ⟨#[]⟩, by simp, (show Hid _ from rfl), rfl, (show Hid _ from rfl), (show Hid _ from rfl), HF.out⟩
       case round =>
        clear HF
        obtain ⟨i, nm, NB, hg, HI, rfl, HX, HNB, HF⟩ := hrel
        have hi := HI.out
        have hcx := cell_below HF.out.bel HCx.out
        by_cases hlt : nm.length < x.length / 2
        · have hi1 : i + 1 < x.length := by omega
          have hltz : (i : Int) < (x.length : Int) := by omega
          have hi0 : (0 : Int) ≤ (i : Int) := by omega
          have hi2 : (i : Int) + 2 ≤ (x.length : Int) := by omega
          have hi3 : (i : Int) ≤ (i : Int) + 2 := by omega
          have hcut := HTwo.out i hi1
          have hA := Lib.hid (HHex.out wr i hi1)
          have HNx := Lib.hid (fun (b : UInt8) (hb : hxB b = [x[i], x[i + 1]]) => hexN_next hi1 HX.out hb)
          have HNn := Lib.hid (HNo.out i nm.length hi hi1)
          generalize x[i] = e1 at *
          generalize x[i + 1] = e2 at *
          have hnb : NB.size ≤ 67108864 := by rw [HNB.out]; show nm.toArray.size ≤ _; rw [List.size_toArray]; omega
          clear hi
          go_wp2_with fail
          refine hA.out.mono ?_
          rintro e W5 ⟨(⟨b, hbb, rfl⟩ | ⟨hbb, v, rfl⟩), hb⟩
          · have HX2 := Lib.hid (HNx.out b hbb)
            replace HF := Lib.hid (HF.out.below hb)
            have n0 := HF.out.cellN 0 rfl 0 rfl
            have HG := Lib.hid (HF.out.box [.int .u8 (b.toNat : Int)] 5)
            simp only [List.toArray] at HG
            have f0 := HG.out.frozenN 1 rfl 0
            have d0 := HG.out.cellN 1 rfl 0 rfl
            have hcv := HCv.out W5 b
            have HF8 := Lib.hid ((HG.out.setN 1 rfl (Nat.le_refl _) (by have := HF.out.ltN 0 rfl; simp; omega) 0 (.string (NB ++ ⟨#[b]⟩))).drop)
            have HNB2 := Lib.hid (show NB ++ ⟨#[b]⟩ = (⟨(nm ++ [b]).toArray⟩ : ByteArray) from by rw [HNB.out]; exact str_append nm [b])
            have hl2 : (nm ++ [b]).length = nm.length + 1 := by rw [List.length_append]; rfl
            have HI2 := Lib.hid (show i + 2 = 2 * (nm ++ [b]).length from by rw [hl2, HI.out]; omega)
            generalize nm ++ [b] = nm2 at *
            clear hb hA hbb HNx HNn HX HF HG HNB hcut hcx
            go_wp2
            go_roundg (x.length / 2 - (nm.length + 1))
            case measure => omega
            case rel => exact ⟨i + 2, nm2, NB ++ (⟨#[b]⟩ : ByteArray), by omega, HI2, by go_num, HX2, HNB2, HF8.out⟩
          · have HX2 := Lib.hid (HNn.out hbb)
            have HB9 := Lib.hid (HB.out.trans ((HF.out.below hb).bel.mono HB.out.size))
            clear hb hA hbb HNx HNn HX HF HNB hcut hcx
            go_wp2
            go_ret
            exact .inr ⟨rfl, HB9.out, HX2.out⟩
        · have hil : i = x.length := by omega
          have hltz : ¬ (i : Int) < (x.length : Int) := by omega
          have hxe : x = hexN nm := by have := HX.out; rw [hil, List.take_length] at this; exact this.symm
          have HE2 := Lib.hid (HE.out wr nm A1 c1 B1 d1 ⟨HQ.out.num.below HF.out.bel, HQ.out.den.below HF.out.bel⟩ (by omega) (HB.out.trans (HF.out.bel.mono HB.out.size)) hxe)
          rw [← HNB.out] at HE2
          have a0 := HF.out.cellN 0 rfl 0 rfl
          have a1 := HF.out.cellN 0 rfl 1 rfl
          have a2 := HF.out.cellN 0 rfl 2 rfl
          have a3 := HF.out.cellN 0 rfl 3 rfl
          have a4 := HF.out.cellN 0 rfl 4 rfl
          have a5 := HF.out.cellN 0 rfl 5 rfl
          clear HX HF HNB hxe hil hg hi HE HQ HNo HTwo HHex
          go_wp2
          go_ret
          exact HE2.out
     · have hpz : (((x.length : Int) % 2) == 0) = false := by rw [beq_eq_false_iff_ne]; omega
       have HX := Lib.hid (atom_noB hsT (by rw [HW.out, hk]) (fun n e => by
        simp only [List.cons.injEq, and_true] at e
        rw [e, hexN_len] at hpar
        omega))
       have HB3 := Lib.hid (HB.out.trans (HF.out.bel.mono HB.out.size))
       clear HW HLen HL HB HC2 HF HQ hsT hk0 hfew hk hpar
       go_wp2
       go_ret
       exact .inr ⟨rfl, HB3.out, HX.out⟩
   · obtain ⟨n, hn⟩ : ∃ n, n = r.length + 1 := ⟨_, rfl⟩
     rw [← hn]
     have hn2 : ((n : Int) == 2) = false := by rw [beq_eq_false_iff_ne]; omega
     have hn0 : (0 : Int) < (n : Int) := by omega
     have HX := Lib.hid (atom_noB hsT (by rw [HW.out, hk]) (fun n e => hr (by rw [e]; rfl)))
     have HB3 := Lib.hid (HB.out.trans (HF.out.bel.mono HB.out.size))
     clear HW HLen HL HB HC2 HF HQ hsT hk0 hfew hk hr hn
     go_wp2
     go_ret
     exact .inr ⟨rfl, HB3.out, HX.out⟩
 · have hkz : (k == [98, 111, 111, 108]) = false := beq_eq_false_iff_ne.2 (show k ≠ [98, 111, 111, 108] from hk)
   by_cases hst : ∃ st, k = sgW st
   · obtain ⟨st, rfl⟩ := hst
     by_cases hr : r.length = 2
     · obtain ⟨x, y, rfl⟩ : ∃ x y, r = [x, y] := by
        match r, hr with
        | [x, y], _ => exact ⟨x, y, rfl⟩
       have hc1 := HC2.out 1 (by simp)
       have hc2 := HC2.out 2 (by simp)
       simp only [List.getElem_cons_succ, List.getElem_cons_zero] at hc1 hc2
       have HC1 := Lib.hid hc1
       have HC2' := Lib.hid hc2
       have HC0 := Lib.hid (show W2.cell? ⟨g, 0, none⟩ = some (.string ⟨(sgW st).toArray⟩) from HC2.out 0 (by simp))
       replace hc1 := cell_below HF.out.bel hc1
       clear hc2
       have hxl := HLen.out x (by simp)
       have hyl := HLen.out y (by simp)
       have HPf := Lib.hid (linear_ParseO x W3 (by omega) (HL.out.below HF.out.bel))
       have HPq := Lib.hid (fun (W : World) (k : Laid W) => ratio_Parse y W (by omega) k)
       have HNf := Lib.hid (fun (h : ∀ l, CanF l → x ≠ tf l) => atom_noL hsT HW.out hk (fun l q st' hc _ e => by
        simp only [List.cons.injEq, and_true] at e
        exact h l hc e.1))
       have HNq := Lib.hid (fun (h : ∀ q, y ≠ tq q) => atom_noL hsT HW.out hk (fun l q st' hc _ e => by
        simp only [List.cons.injEq, and_true] at e
        exact h q e.2))
       have HYes := Lib.hid (fun (W : World) (l : Frm) (E : Option Addr) (j : Nat) (q : Rat) (A : Option Addr) (c : Nat) (B : Option Addr) (e : Nat) (hf : OwnF W 0 (.slice E l.length j) l) (hc : CanF l) (hm : mf l ≤ 6 * x.length + 6) (hxt : x = tf l) (hq : InQ W A c B e q)
        (hl : (dg q.num.natAbs).length + (dg q.den).length ≤ min (2 * y.length + 4) (6 * y.length)) (hb : Below w.heap.size w W) (hy : ∀ q0, y = tq q0 → q = q0) =>
        told_L (w := w) (W := W) (s := s) (st := st) hf hc hm hxt hq hl HBg.out (by omega) (by omega) hs hsT hb (atom_L hsT (by rw [HW.out, hxt]) hy))
       replace HB := Lib.hid (HB.out.trans (HF.out.bel.mono HB.out.size))
       have HB2 := Lib.hid HF.out.bel
       clear HW HLen HC2 HQ HQb HN1 HN2 hsT hk hfew hk0 hr
       obtain ⟨kk, hkk⟩ : ∃ kk, kk = sgW st := ⟨_, rfl⟩
       have hk12 : ((kk == [60]) = true ∧ st = true) ∨ ((kk == [60]) = false ∧ (kk == [60, 61]) = true ∧ st = false) := by
        rw [hkk]
        cases st with
        | true => exact .inl ⟨rfl, rfl⟩
        | false => exact .inr ⟨rfl, rfl, rfl⟩
       rw [← hkk] at hc0 hkz HC0
       clear hkk
       rcases hk12 with ⟨hk1, rfl⟩ | ⟨hk1, hk2, rfl⟩
       · go_wp2_with fail
         refine HPf.out.mono ?_
         rintro e W4 (⟨l, E, j, rfl, hf, hcf, hxt, hm, hb⟩ | ⟨rfl, hb, hx⟩)
         · have HB4 := Lib.hid (HB2.out.trans (hb.mono HB2.out.size))
           replace HB := Lib.hid (HB.out.trans (hb.mono HB.out.size))
           have HPq4 := Lib.hid (HPq.out W4 (HL.out.below HB4.out))
           have c2 := cell_below HB4.out HC2'.out
           have HFo := Lib.hid hf
           have HX1 := Lib.hid (show CanF l ∧ x = tf l from ⟨hcf, hxt⟩)
           have HMf := Lib.hid hm
           clear hf hcf hxt hm hb HPf HPq HNf HL hc0 hc1
           go_wp2_with fail
           refine HPq4.out.mono ?_
           rintro e W5 (⟨q, A5, c5, B5, d5, rfl, hq, hlen, hb, hy⟩ | ⟨rfl, hb, hy⟩)
           · have HEf := Lib.hid (fun (W : World) (hb2 : Below W5.heap.size W5 W) => HYes.out W l E j q A5 c5 B5 d5 ((HFo.out.below hb).below hb2) HX1.out.1 HMf.out HX1.out.2 ⟨hq.num.below hb2, hq.den.below hb2⟩ hlen ((HB.out.trans (hb.mono HB.out.size)).trans (hb2.mono (Nat.le_trans HB.out.size hb.size))) hy)
             have c0 := cell_below hb (cell_below HB4.out HC0.out)
             have HG := Lib.hid ((Fr.refl W5).box [.bool (decide (q.num < 0)), .slice A5 (dg q.num.natAbs).length c5, .slice B5 (dg q.den).length d5] 43)
             have HG0 := Lib.hid (cell_below HG.out.bel c0)
             clear hq hlen hb hy HPq4 HYes HX1 HMf HFo HNq HB HB2 HB4 HC0 HC1 HC2' c0 c2
             simp only [List.toArray] at HG HG0
             generalize decide (q.num < 0) = qb2 at *
             generalize (dg q.num.natAbs).length = m1 at *
             generalize (dg q.den).length = m2 at *
             go_upto_region 17 with fail
             generalize hgt : World.alloc _ _ = W6 at HG HG0 ⊢
             clear hgt
             have r0 := HG.out.cellN 0 rfl 0 rfl
             have r1 := HG.out.cellN 0 rfl 1 rfl
             have r2 := HG.out.cellN 0 rfl 2 rfl
             have c0 := HG0.out
             go_wp2_with fail
             go_quiet (fail)
             have HE := Lib.hid (HEf.out _ (HG.out.bel.trans ((below_drewN (Below.refl W6.heap.size W6) nq).mono HG.out.bel.size)))
             clear HG HG0 HEf
             go_wp2
             go_ret
             exact HE.out
           · have HX := Lib.hid (HNq.out hy)
             have HB5 := Lib.hid (HB.out.trans (hb.mono HB.out.size))
             have HB6 := Lib.hid (HB5.out.alloc HB5.out.size (.cells #[.bool false, .slice none 0 0, .slice none 0 0] 43))
             clear hb hy HPq4 HYes HX1 HMf HFo HNq HB HB2 HB4 HC0 HC1 HC2' c2 HB5
             go_wp2
             go_ret
             exact .inr ⟨rfl, HB6.out, HX.out⟩
         · have HB4 := Lib.hid (HB2.out.trans (hb.mono HB2.out.size))
           replace HB := Lib.hid (HB.out.trans (hb.mono HB.out.size))
           have HPq4 := Lib.hid (HPq.out W4 (HL.out.below HB4.out))
           have c2 := cell_below HB4.out HC2'.out
           have HX := Lib.hid (HNf.out hx)
           clear hb hx HPf HPq HNf HL hc0 hc1 HYes HNq HC0 HC1 HC2' HB2 HB4
           go_wp2_with fail
           refine HPq4.out.mono ?_
           rintro e W5 (⟨q, A5, c5, B5, d5, rfl, hq, hlen, hb, hy⟩ | ⟨rfl, hb, hy⟩)
           · have HB5 := Lib.hid (HB.out.trans (hb.mono HB.out.size))
             have HB6 := Lib.hid (fun o => HB5.out.alloc HB5.out.size o)
             clear hq hlen hb hy HPq4 HB c2 HB5
             generalize decide (q.num < 0) = qb2 at *
             generalize (dg q.num.natAbs).length = m1 at *
             generalize (dg q.den).length = m2 at *
             go_wp2
             go_ret
             exact .inr ⟨rfl, HB6.out _, HX.out⟩
           · have HB5 := Lib.hid (HB.out.trans (hb.mono HB.out.size))
             have HB6 := Lib.hid (fun o => HB5.out.alloc HB5.out.size o)
             clear hb hy HPq4 HB c2 HB5
             go_wp2
             go_ret
             exact .inr ⟨rfl, HB6.out _, HX.out⟩
       · go_wp2_with fail
         refine HPf.out.mono ?_
         rintro e W4 (⟨l, E, j, rfl, hf, hcf, hxt, hm, hb⟩ | ⟨rfl, hb, hx⟩)
         · have HB4 := Lib.hid (HB2.out.trans (hb.mono HB2.out.size))
           replace HB := Lib.hid (HB.out.trans (hb.mono HB.out.size))
           have HPq4 := Lib.hid (HPq.out W4 (HL.out.below HB4.out))
           have c2 := cell_below HB4.out HC2'.out
           have HFo := Lib.hid hf
           have HX1 := Lib.hid (show CanF l ∧ x = tf l from ⟨hcf, hxt⟩)
           have HMf := Lib.hid hm
           clear hf hcf hxt hm hb HPf HPq HNf HL hc0 hc1
           go_wp2_with fail
           refine HPq4.out.mono ?_
           rintro e W5 (⟨q, A5, c5, B5, d5, rfl, hq, hlen, hb, hy⟩ | ⟨rfl, hb, hy⟩)
           · have HEf := Lib.hid (fun (W : World) (hb2 : Below W5.heap.size W5 W) => HYes.out W l E j q A5 c5 B5 d5 ((HFo.out.below hb).below hb2) HX1.out.1 HMf.out HX1.out.2 ⟨hq.num.below hb2, hq.den.below hb2⟩ hlen ((HB.out.trans (hb.mono HB.out.size)).trans (hb2.mono (Nat.le_trans HB.out.size hb.size))) hy)
             have c0 := cell_below hb (cell_below HB4.out HC0.out)
             have HG := Lib.hid ((Fr.refl W5).box [.bool (decide (q.num < 0)), .slice A5 (dg q.num.natAbs).length c5, .slice B5 (dg q.den).length d5] 43)
             have HG0 := Lib.hid (cell_below HG.out.bel c0)
             clear hq hlen hb hy HPq4 HYes HX1 HMf HFo HNq HB HB2 HB4 HC0 HC1 HC2' c0 c2
             simp only [List.toArray] at HG HG0
             generalize decide (q.num < 0) = qb2 at *
             generalize (dg q.num.natAbs).length = m1 at *
             generalize (dg q.den).length = m2 at *
             go_upto_region 17 with fail
             generalize hgt : World.alloc _ _ = W6 at HG HG0 ⊢
             clear hgt
             have r0 := HG.out.cellN 0 rfl 0 rfl
             have r1 := HG.out.cellN 0 rfl 1 rfl
             have r2 := HG.out.cellN 0 rfl 2 rfl
             have c0 := HG0.out
             go_wp2_with fail
             go_quiet (fail)
             have HE := Lib.hid (HEf.out _ (HG.out.bel.trans ((below_drewN (Below.refl W6.heap.size W6) nq).mono HG.out.bel.size)))
             clear HG HG0 HEf
             go_wp2
             go_ret
             exact HE.out
           · have HX := Lib.hid (HNq.out hy)
             have HB5 := Lib.hid (HB.out.trans (hb.mono HB.out.size))
             have HB6 := Lib.hid (HB5.out.alloc HB5.out.size (.cells #[.bool false, .slice none 0 0, .slice none 0 0] 43))
             clear hb hy HPq4 HYes HX1 HMf HFo HNq HB HB2 HB4 HC0 HC1 HC2' c2 HB5
             go_wp2
             go_ret
             exact .inr ⟨rfl, HB6.out, HX.out⟩
         · have HB4 := Lib.hid (HB2.out.trans (hb.mono HB2.out.size))
           replace HB := Lib.hid (HB.out.trans (hb.mono HB.out.size))
           have HPq4 := Lib.hid (HPq.out W4 (HL.out.below HB4.out))
           have c2 := cell_below HB4.out HC2'.out
           have HX := Lib.hid (HNf.out hx)
           clear hb hx HPf HPq HNf HL hc0 hc1 HYes HNq HC0 HC1 HC2' HB2 HB4
           go_wp2_with fail
           refine HPq4.out.mono ?_
           rintro e W5 (⟨q, A5, c5, B5, d5, rfl, hq, hlen, hb, hy⟩ | ⟨rfl, hb, hy⟩)
           · have HB5 := Lib.hid (HB.out.trans (hb.mono HB.out.size))
             have HB6 := Lib.hid (fun o => HB5.out.alloc HB5.out.size o)
             clear hq hlen hb hy HPq4 HB c2 HB5
             generalize decide (q.num < 0) = qb2 at *
             generalize (dg q.num.natAbs).length = m1 at *
             generalize (dg q.den).length = m2 at *
             go_wp2
             go_ret
             exact .inr ⟨rfl, HB6.out _, HX.out⟩
           · have HB5 := Lib.hid (HB.out.trans (hb.mono HB.out.size))
             have HB6 := Lib.hid (fun o => HB5.out.alloc HB5.out.size o)
             clear hb hy HPq4 HB c2 HB5
             go_wp2
             go_ret
             exact .inr ⟨rfl, HB6.out _, HX.out⟩
     · obtain ⟨n, hn⟩ : ∃ n, n = r.length + 1 := ⟨_, rfl⟩
       rw [← hn]
       have hn3 : ((n : Int) == 3) = false := by rw [beq_eq_false_iff_ne]; omega
       have hn0 : (0 : Int) < (n : Int) := by omega
       have HX := Lib.hid (atom_noL hsT HW.out hk (fun l q st _ e e2 => hr (by rw [e2]; rfl)))
       have HB3 := Lib.hid (HB.out.trans (HF.out.bel.mono HB.out.size))
       clear HW HLen HL HB HC2 HF HQ hsT hk0 hfew hk hn hr
       cases st with
       | true =>
        have hk1 : (sgW true == [60]) = true := rfl
        generalize sgW true = k at *
        go_wp2
        go_ret
        exact .inr ⟨rfl, HB3.out, HX.out⟩
       | false =>
        have hk1 : (sgW false == [60]) = false := rfl
        have hk2 : (sgW false == [60, 61]) = true := rfl
        generalize sgW false = k at *
        go_wp2
        go_ret
        exact .inr ⟨rfl, HB3.out, HX.out⟩
   · have hk1 : (k == [60]) = false := beq_eq_false_iff_ne.2 (fun e => hst ⟨true, e⟩)
     have hk2 : (k == [60, 61]) = false := beq_eq_false_iff_ne.2 (fun e => hst ⟨false, e⟩)
     obtain ⟨n, hn⟩ : ∃ n, n = r.length + 1 := ⟨_, rfl⟩
     rw [← hn]
     have hn0 : (0 : Int) < (n : Int) := by omega
     have HX := Lib.hid (atom_noL hsT HW.out hk (fun l q st _ e => absurd ⟨st, e⟩ hst))
     have HB3 := Lib.hid (HB.out.trans (HF.out.bel.mono HB.out.size))
     clear HW HLen HL HB HC2 HF HQ hsT hk0 hfew hk hst hn
     go_wp2
     go_ret
     exact .inr ⟨rfl, HB3.out, HX.out⟩
end Go.Proofs.YtidgpkccjcddgaaGreatDoor.F
