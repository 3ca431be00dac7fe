import Derived.Test.YtchdoignomidjaaVrs
/- The walks of Cmp: the reference's and linear's. -/
set_option linter.unusedVariables false
set_option linter.unusedSimpArgs false
namespace Go.Proofs.Ytchdoignomidjaa.F
open Go.RowKit Go.Shelf Go.Proofs.YtchdoignomidjaaW.PrintLast

/-- the sign of a form's first number -/
def fsg (l : Frm) : Int := match l with | [] => 0 | m :: _ => sgn m.2.num
def ToldZ (w : World) (z : Int) (e : Ending) (w' : World) : Prop := e = .returned (.int .i64 z) ∧ Below w.heap.size w w'

set_option maxHeartbeats 1000000 in
set_option maxRecDepth 100000 in
theorem linear_Cmp (A : Option Addr) (c : Nat) (f : List (Int × RatD)) (B : Option Addr) (d : Nat) (g : List (Int × RatD)) (w : World) (hf : FRaw w A c f) (hg : FRaw w B d g) (hs : (f.map wtm).sum + 2 * mf (fval g) + 7 * g.length ≤ 137438953470) :
    Calls Try.prog 33 #[.slice A f.length c, .slice B g.length d] w (ToldZ w (fsg (nform (fval f ++ smul (-1) (fval g))))) := by
  have hS := Lib.hid (linear_Sub A c f B d g w hf hg hs)
  clear hf hg hs
  generalize nform (fval f ++ smul (-1) (fval g)) = l at *
  go_enter Try.func33, Try.ntmps33
  go_wp2_with fail
  refine hS.out.mono ?_
  rintro e W1 ⟨v, rfl, h1, h2⟩
  obtain ⟨A1, c1, rfl, h3⟩ := h1.fin
  have Q := Lib.hid h3
  have HB := Lib.hid h2
  clear h1 h2 h3 hS
  cases l with
  | nil =>
    simp only [List.length_nil]
    go_wp2
    go_ret
    exact ⟨rfl, HB.out⟩
  | cons m r =>
    obtain ⟨ad, x, rfl, hvq, hat, i1, i2, i3, i4⟩ := Q.out.at_ 0 (by simp)
    rw [show ad.add (0 * 4) = ad from by rw [Nat.zero_mul]; rfl] at i1 i2 i3 i4
    rw [List.getElem_cons_zero] at hvq
    subst hvq
    have hql := hat.ql
    have hT := Lib.hid (ratio_Sign (decide (x.q.num < 0)) x.A x.c (dg x.q.num.natAbs) x.B x.d (dg x.q.den) W1 hat.inq.num (by have := hql.1; omega) hat.inq.den (by have := hql.2; omega))
    rw [rv_can] at hT
    have hz : Hid (fsg (x.vq :: r) = sgn x.q.num) := rfl
    generalize sgn x.q.num = z at *
    have h0 : ¬ ((List.length (x.vq :: r) : Nat) : Int) = 0 := by simp only [List.length_cons]; omega
    have h1 : (0 : Int) < ((List.length (x.vq :: r) : Nat) : Int) := by simp only [List.length_cons]; omega
    have h1' : 0 < List.length (x.vq :: r) := by simp
    generalize hn : List.length (x.vq :: r) = n at *
    clear hn
    clear hat hql
    go_wp2_with fail
    refine hT.out.mono ?_
    rintro e W2 ⟨rfl, h2⟩
    replace HB := Lib.hid (HB.out.trans (h2.mono HB.out.size))
    clear h2 hT
    go_wp2
    go_ret
    exact ⟨ret_int hz.out.symm, HB.out⟩

set_option maxHeartbeats 1000000 in
set_option maxRecDepth 100000 in
theorem r6_Cmp (A : Option Addr) (c : Nat) (f : List (Int × RatD)) (B : Option Addr) (d : Nat) (g : List (Int × RatD)) (w : World) (hf : FRaw w A c f) (hg : FRaw w B d g) (hs : (f.map wtm).sum + 2 * mf (fval g) + 7 * g.length ≤ 137438953470) :
    Calls Try.prog 46 #[.slice A f.length c, .slice B g.length d] w (ToldZ w (fsg (nform (fval f ++ smul (-1) (fval g))))) := by
  have hS := Lib.hid (r6_Sub A c f B d g w hf hg hs)
  clear hf hg hs
  generalize nform (fval f ++ smul (-1) (fval g)) = l at *
  go_enter Try.func46, Try.ntmps46
  go_wp2_with fail
  refine hS.out.mono ?_
  rintro e W1 ⟨v, rfl, h1, h2⟩
  obtain ⟨A1, c1, rfl, h3⟩ := h1.fin
  have Q := Lib.hid h3
  have HB := Lib.hid h2
  clear h1 h2 h3 hS
  cases l with
  | nil =>
    simp only [List.length_nil]
    go_wp2
    go_ret
    exact ⟨rfl, HB.out⟩
  | cons m r =>
    obtain ⟨ad, x, rfl, hvq, hat, i1, i2, i3, i4⟩ := Q.out.at_ 0 (by simp)
    rw [show ad.add (0 * 4) = ad from by rw [Nat.zero_mul]; rfl] at i1 i2 i3 i4
    rw [List.getElem_cons_zero] at hvq
    subst hvq
    have hql := hat.ql
    have hT := Lib.hid (r3_Sign (decide (x.q.num < 0)) x.A x.c (dg x.q.num.natAbs) x.B x.d (dg x.q.den) W1 hat.inq.num (by have := hql.1; omega) hat.inq.den (by have := hql.2; omega))
    rw [rv_can] at hT
    have hz : Hid (fsg (x.vq :: r) = sgn x.q.num) := rfl
    generalize sgn x.q.num = z at *
    have h0 : ¬ ((List.length (x.vq :: r) : Nat) : Int) = 0 := by simp only [List.length_cons]; omega
    have h1 : (0 : Int) < ((List.length (x.vq :: r) : Nat) : Int) := by simp only [List.length_cons]; omega
    have h1' : 0 < List.length (x.vq :: r) := by simp
    generalize hn : List.length (x.vq :: r) = n at *
    clear hn
    clear hat hql
    go_wp2_with fail
    refine hT.out.mono ?_
    rintro e W2 ⟨rfl, h2⟩
    replace HB := Lib.hid (HB.out.trans (h2.mono HB.out.size))
    clear h2 hT
    go_wp2
    go_ret
    exact ⟨ret_int hz.out.symm, HB.out⟩
end Go.Proofs.Ytchdoignomidjaa.F
