/- Plain law of ProofBack: what is read of a valid refutation's text is the refutation, its coefficients normal. No condition. -/
import Derived.Test.YtidgpkccjcddgaaGreatDoorHaj
set_option linter.unusedVariables false
set_option linter.unusedSimpArgs false
namespace Go.Proofs.YtidgpkccjcddgaaGreatDoor.F
open Go.RowKit Go.Shelf
theorem truth_tok {a : AtomD} (h : truthA a = true) : a = tokT := by
 unfold truthA at h
 simp only [Bool.and_eq_true, decide_eq_true_eq] at h
 obtain ⟨⟨⟨⟨nm⟩, f⟩, b⟩, st⟩ := a
 obtain ⟨h1, h2, h3, h4⟩ := h
 dsimp only at h1 h2 h3 h4
 have hf : f = [] := List.eq_nil_of_length_eq_zero h2
 have hst : st = false := by simpa using h3
 subst h1 hf hst h4
 rfl
theorem may_can {a : AtomD} (hg : ∀ m ∈ a.1.1.2, inr m.1) (h : mayA a = true) : CanA a := by
 obtain ⟨p1, p2⟩ := nrm_parts (may_nrm h)
 have hc : CanF (nform (fval a.1.1.2)) := CanF.of (fval_inr hg)
 unfold mayA at h
 rw [Bool.and_eq_true] at h
 have h := h.2
 obtain ⟨⟨⟨⟨nm⟩, f⟩, b⟩, st⟩ := a
 dsimp only at p1 p2 hc h
 by_cases hn : nm = #[]
 · subst hn
   rw [if_pos rfl] at h
   simp only [Bool.and_eq_true, decide_eq_true_eq] at h
   refine .inr (.inr ⟨nform (fval f), rq b, st, fun e => ?_, hc, ?_⟩)
   · rw [e] at p2
     have h2 := congrArg List.length h.2
     have h3 := h.1
     rw [List.length_map, ← p2] at h2
     simp only [List.map_nil, List.length_nil] at h2
     rw [← p2] at h3
     simp only [List.map_nil] at h3
     omega
   · show (((_, f), b), st) = (((_, (nform (fval f)).map canM), canD (rq b)), st)
     rw [p1, p2]
 · rw [if_neg hn] at h
   simp only [Bool.and_eq_true, decide_eq_true_eq] at h
   obtain ⟨⟨h1, h2⟩, h3⟩ := h
   have hf : f = [] := List.eq_nil_of_length_eq_zero h1
   have hst : st = false := by simpa using h3
   have hb : b = canD 0 := (zero_bound b).1 ⟨p1, h2⟩
   subst hf hst hb
   refine .inr (.inl ⟨nm.toList, fun e => hn (Array.ext' (by simpa using e)), ?_⟩)
   unfold tokB
   simp
def canSt (d : StepD) : StepD := (d.1, d.2.map fun q => canD (rq q))
theorem canSt_line (d : StepD) : lnP (canSt d) = lnP d := by
 have e : ratsT (d.2.map fun q => canD (rq q)) = ratsT d.2 := by
  unfold ratsT
  rw [List.flatMap_map]
  congr 1
  funext q
  rw [rq_can]
 unfold lnP canSt
 dsimp only
 rw [e]
theorem canSt_may {d : StepD} {i many : Nat} : mayS (canSt d) i many = mayS d i many := by
 have e : ∀ l : List RatD, (l.map fun q => canD (rq q)).all posC = l.all posC := fun l => by
  rw [List.all_map]
  congr 1
  funext q
  show posC (canD (rq q)) = posC q
  unfold posC
  rw [rq_can]
 unfold mayS canSt
 dsimp only
 rw [e, List.length_map]
theorem canSt_can {d : StepD} {i many : Nat} (hg : GoodS d) (h : mayS d i many = true) : CanS (canSt d) := by
 refine ⟨?_, hg.clause, hg.byl, fun q hq => ?_⟩
 · unfold mayS at h
   rw [Bool.and_eq_true] at h
   have h := h.2
   show d.1.1.1 = 1 ∧ d.1.2 = [] ∧ d.2.map _ = [] ∨ d.1.1.1 = 2 ∧ d.2.map _ = [] ∨ d.1.1.1 = 3 ∧ d.1.2 = []
   by_cases h1 : d.1.1.1 = 1
   · rw [if_pos h1] at h
     simp only [Bool.and_eq_true, decide_eq_true_eq] at h
     exact .inl ⟨h1, List.eq_nil_of_length_eq_zero h.1, by rw [List.eq_nil_of_length_eq_zero h.2]; rfl⟩
   · rw [if_neg h1] at h
     by_cases h2 : d.1.1.1 = 2
     · rw [if_pos h2] at h
       simp only [Bool.and_eq_true, decide_eq_true_eq] at h
       exact .inr (.inl ⟨h2, by rw [List.eq_nil_of_length_eq_zero h.1]; rfl⟩)
     · rw [if_neg h2] at h
       by_cases h3 : d.1.1.1 = 3
       · rw [if_pos h3] at h
         simp only [Bool.and_eq_true, decide_eq_true_eq] at h
         exact .inr (.inr ⟨h3, List.eq_nil_of_length_eq_zero h.1⟩)
       · rw [if_neg h3] at h
         cases h
 · obtain ⟨x, _, rfl⟩ := List.mem_map.1 hq
   rw [rq_can]
theorem wt_rq {x : RatD} (h : Good (wt x) x) : wt (canD (rq x)) ≤ wt x + 1 := by
 obtain ⟨⟨s, xs⟩, ys⟩ := x
 have h1 := rv_len s h.ln h.ld
 have e : rv s xs ys = rq ((s, xs), ys) := rfl
 rw [e] at h1
 show (dg (rq ((s, xs), ys)).num.natAbs).length + (dg (rq ((s, xs), ys)).den).length + 5 ≤ xs.length + ys.length + 5 + 1
 dsimp only at h1
 omega
theorem wt_map : ∀ {l : List RatD}, (∀ q ∈ l, Good (wt q) q) → ((l.map fun q => canD (rq q)).map wt).sum ≤ (l.map wt).sum + l.length
 | [], _ => Nat.le_refl _
 | x :: l, h => by
  have h1 := wt_rq (h x (by simp))
  have h2 := wt_map fun y hy => h y (List.mem_cons_of_mem x hy)
  simp only [List.map_cons, List.sum_cons, List.length_cons]
  omega
theorem canSt_good {d : StepD} (h : GoodS d) (hw : wts d ≤ 4194304) : GoodS (canSt d) := by
 refine ⟨h.kind, h.clause, h.byl, fun q hq => ?_, ?_⟩
 · obtain ⟨x, _, rfl⟩ := List.mem_map.1 hq
   exact good_can _
 · have h1 := wt_map h.good
   have h2 := wt_len d.2
   unfold wts at hw ⊢
   show d.1.1.2.length + d.1.2.length + ((d.2.map fun q => canD (rq q)).map wt).sum + 5 ≤ _
   omega
theorem tq_free10 (q : Rat) : freeC 10 (tq q) := fun b hb => by
 rcases tq_bytes q b hb with rfl | rfl | h
 · decide
 · decide
 · exact isDig_ne h (by decide)
theorem tt_free10 (m : Int × Rat) : freeC 10 (tt m) := fun b hb => by
 rcases tt_bytes m b hb with rfl | rfl | rfl | rfl | h
 · decide
 · decide
 · decide
 · decide
 · exact isDig_ne h (by decide)
theorem tf_free10 (l : Frm) : freeC 10 (tf l) := by
 unfold tf
 split
 · intro b hb
   rw [List.mem_singleton.1 hb]; decide
 · exact joinC_free (by decide) _ fun x hx => by
    obtain ⟨m, _, rfl⟩ := List.mem_map.1 hx
    exact tt_free10 m
theorem itoa_free10 (v : Int) : freeC 10 (Lib.itoa v) := fun b hb => by
 rcases itoa_bytes v b hb with rfl | h
 · decide
 · exact isDig_ne h (by decide)
theorem hx_free10 : ∀ a : Fin 16, hx a.val ≠ 10 := by decide
theorem hexN_free10 (l : List UInt8) : freeC 10 (hexN l) := fun b hb => by
 unfold hexN at hb
 obtain ⟨a, _, ha⟩ := List.mem_flatMap.1 hb
 have hlt := a.toNat_lt
 unfold hxB at ha
 simp only [List.mem_cons, List.not_mem_nil, or_false] at ha
 rcases ha with rfl | rfl
 · exact hx_free10 ⟨_, by omega⟩
 · exact hx_free10 ⟨_, by omega⟩
theorem freeC_append {c : UInt8} {a b : List UInt8} (h : freeC c a) (k : freeC c b) : freeC c (a ++ b) := fun x hx => by
 rcases List.mem_append.1 hx with hx | hx
 · exact h x hx
 · exact k x hx
theorem freeC_cons {c x : UInt8} {b : List UInt8} (h : x ≠ c) (k : freeC c b) : freeC c (x :: b) := fun y hy => by
 rcases List.mem_cons.1 hy with rfl | hy
 · exact h
 · exact k y hy
theorem freeC_nil (c : UInt8) : freeC c [] := fun x hx => (List.not_mem_nil hx).elim
theorem numsT_free10 (l : List Int) : freeC 10 (numsT l) := by
 induction l with
 | nil => exact freeC_nil _
 | cons x l ih => rw [numsT_cons]; exact freeC_append (freeC_cons (by decide) (itoa_free10 x)) ih
theorem ratsT_free10 (l : List RatD) : freeC 10 (ratsT l) := by
 induction l with
 | nil => exact freeC_nil _
 | cons x l ih => rw [ratsT_cons]; exact freeC_append (freeC_cons (by decide) (tq_free10 _)) ih
theorem lnA_free10 (a : AtomD) : freeC 10 (lnA a) := by
 unfold lnA
 split
 · split
   · unfold freeC; decide
   · refine freeC_append ?_ (freeC_append (tf_free10 _) (freeC_cons (by decide) (tq_free10 _)))
     split
     · unfold freeC; decide
     · unfold freeC; decide
 · exact freeC_append (by unfold freeC; decide) (hexN_free10 _)
theorem lnP_free10 (d : StepD) : freeC 10 (lnP d) := by
 unfold lnP
 split
 · exact freeC_append (by unfold freeC; decide) (numsT_free10 _)
 · split
   · exact freeC_append (by unfold freeC; decide) (freeC_append (numsT_free10 _) (freeC_append (by unfold freeC; decide) (numsT_free10 _)))
   · exact freeC_append (by unfold freeC; decide) (freeC_append (numsT_free10 _) (freeC_append (by unfold freeC; decide) (ratsT_free10 _)))
theorem headT_free10 (a b : Int) : freeC 10 (headT a b) := by
 unfold headT
 exact freeC_append (by unfold freeC; decide) (freeC_append (itoa_free10 a) (freeC_cons (by decide) (itoa_free10 b)))
def lnR (r : RefD) : List (List UInt8) := headT (r.1.length : Int) (r.2.length : Int) :: (r.1.map lnA ++ r.2.map lnP)
theorem lnR_len (r : RefD) : (lnR r).length = 1 + r.1.length + r.2.length := by
 unfold lnR
 simp only [List.length_cons, List.length_append, List.length_map]
 omega
theorem segs_prT (r : RefD) : segsC 10 (prT r) = lnR r ++ [[]] := by
 have e : prT r = joinC 10 (lnR r ++ [[]]) := by
  unfold lnR
  rw [List.cons_append, join_ends]
  unfold prT linesA linesS
  simp [List.flatMap_map]
 rw [e]
 refine segsC_join 10 _ (by simp) fun x hx => ?_
 rcases List.mem_append.1 hx with hx | hx
 · unfold lnR at hx
   rcases List.mem_cons.1 hx with rfl | hx
   · exact headT_free10 _ _
   · rcases List.mem_append.1 hx with hx | hx
     · obtain ⟨a, _, rfl⟩ := List.mem_map.1 hx
       exact lnA_free10 a
     · obtain ⟨a, _, rfl⟩ := List.mem_map.1 hx
       exact lnP_free10 a
 · rw [List.mem_singleton.1 hx]
   exact freeC_nil _
theorem run_all {T : Nat → Ps} {ls : List (List UInt8)} (h : ∀ i (hi : i < ls.length), NextOk (T i) ls[i] (T (i + 1))) : ∀ i, i ≤ ls.length → runP (T 0) 0 (ls.take i) = .inl (T i)
 | 0, _ => by rw [List.take_zero]; rfl
 | i + 1, hi => runP_next (by omega) (run_all h i (by omega)) (nxt_some (h i (by omega)))
structure Vld (r : RefD) : Prop where
 tab : TabOk r.1
 may : ∀ j, j < r.2.length → mayAt r j = true
 goodA : ∀ a ∈ r.1, GoodA a
 goodS : ∀ a ∈ r.2, GoodS a
 few : (r.1.map wtn).sum + (r.2.map wts).sum ≤ 1048576
theorem Vld.can {r : RefD} (h : Vld r) : ∀ a ∈ r.1, CanA a := fun a ha => by
 obtain ⟨i, hi, rfl⟩ := List.getElem_of_mem ha
 obtain ⟨_, ⟨h1, h2⟩, h3⟩ := h.tab
 by_cases h0 : i = 0
 · subst h0
   rw [truth_tok h2]
   exact .inl rfl
 · exact may_can (h.goodA _ ha).var (h3 i hi (by omega) hi).1
theorem Vld.apart {r : RefD} (h : Vld r) {i k : Nat} (hi : i < r.1.length) (hk : k < i) : lnA (r.1[k]'(by omega)) ≠ lnA r.1[i] := fun e => by
 have e2 : r.1[k]'(by omega) = r.1[i] := isAtom_one (s := lnA r.1[i]) ⟨h.can _ (List.getElem_mem (by omega)), e⟩ ⟨h.can _ (List.getElem_mem hi), rfl⟩
 obtain ⟨_, ⟨h1, h2⟩, h3⟩ := (tabOk_K r.1).1 h.tab
 obtain ⟨m1, m2⟩ := h3 i hi (by omega) hi
 by_cases h0 : k = 0
 · subst h0
   rw [truth_tok h2] at e2
   rw [← e2, mayA_T] at m1
   cases m1
 · exact m2 k hk (by omega) (by rw [e2])
def stA (r : RefD) : Nat → Ps
 | 0 => Ps.init
 | i + 1 => ⟨true, (r.1.length : Int), (r.2.length : Int), r.1.take i, (r.2.map canSt).take (i - r.1.length)⟩
theorem lnR_zero (r : RefD) (h : 0 < (lnR r).length) : (lnR r)[0] = headT (r.1.length : Int) (r.2.length : Int) := rfl
theorem lnR_atom {r : RefD} {i : Nat} (hi : i < r.1.length) (h : i + 1 < (lnR r).length) : (lnR r)[i + 1] = lnA r.1[i] := by
 have e : (lnR r)[i + 1]? = some (lnA r.1[i]) := by
  unfold lnR
  rw [List.getElem?_cons_succ, List.getElem?_append_left (by rw [List.length_map]; exact hi), List.getElem?_map, List.getElem?_eq_getElem hi]
  rfl
 exact (List.getElem?_eq_some_iff.1 e).2
theorem lnR_step {r : RefD} {i : Nat} (hi : ¬ i < r.1.length) (h : i + 1 < (lnR r).length) (h2 : i - r.1.length < r.2.length) : (lnR r)[i + 1] = lnP r.2[i - r.1.length] := by
 have e : (lnR r)[i + 1]? = some (lnP r.2[i - r.1.length]) := by
  unfold lnR
  rw [List.getElem?_cons_succ, List.getElem?_append_right (by rw [List.length_map]; omega), List.length_map, List.getElem?_map, List.getElem?_eq_getElem h2]
  rfl
 exact (List.getElem?_eq_some_iff.1 e).2
theorem Vld.few1 {r : RefD} (h : Vld r) : r.1.length ≤ 262144 ∧ r.2.length ≤ 1048576 := by
 have hs : ∀ l : List StepD, l.length ≤ (l.map wts).sum := fun l => by
  induction l with
  | nil => exact Nat.le_refl _
  | cons x l ih =>
   rw [List.map_cons, List.sum_cons, List.length_cons]
   have : 5 ≤ wts x := by unfold wts; omega
   omega
 have := hs r.2
 have hf := h.few
 exact ⟨h.tab.1, by omega⟩
theorem Vld.wts_le {r : RefD} (h : Vld r) {d : StepD} (hd : d ∈ r.2) : wts d ≤ 4194304 := by
 have h1 : wts d ≤ (r.2.map wts).sum := le_sum hd
 have := h.few
 omega
theorem Vld.isStep {r : RefD} (h : Vld r) {j : Nat} (hj : j < r.2.length) : IsStep (lnP r.2[j]) (canSt r.2[j]) ∧ GoodS (canSt r.2[j]) := by
 have hm := h.may j hj
 rw [mayAt_eq hj] at hm
 have hg := h.goodS _ (List.getElem_mem hj)
 exact ⟨⟨canSt_can hg hm, canSt_line _⟩, canSt_good hg (h.wts_le (List.getElem_mem hj))⟩
theorem Vld.next {r : RefD} (h : Vld r) (i : Nat) (hi : i < (lnR r).length) : NextOk (stA r i) (lnR r)[i] (stA r (i + 1)) := by
 have hl := lnR_len r
 obtain ⟨f1, f2⟩ := h.few1
 obtain ⟨_, ⟨t1, t2⟩, t3⟩ := h.tab
 cases i with
 | zero =>
  unfold NextOk
  rw [if_pos (show (stA r 0).beg = false from rfl)]
  exact ⟨_, _, ⟨rfl, by unfold inr; omega, by unfold inr; omega, by omega, by omega, by omega⟩, by simp [stA]⟩
 | succ i =>
  unfold NextOk
  rw [if_neg (show ¬ (stA r (i + 1)).beg = false from fun e => by cases e)]
  by_cases hlt : i < r.1.length
  · have e1 : (stA r (i + 1)).al.length = i := by show (r.1.take i).length = i; rw [List.length_take]; omega
    rw [if_pos (by rw [e1]; show (i : Int) < (r.1.length : Int); omega), lnR_atom hlt hi]
    refine ⟨r.1[i], ⟨h.can _ (List.getElem_mem hlt), rfl⟩, ?_, ?_, ?_⟩
    · rw [e1]
      by_cases h0 : i = 0
      · subst h0
        rw [if_pos rfl]; exact t2
      · rw [if_neg h0]
        exact (t3 i hlt (by omega) hlt).1
    · intro hm
      obtain ⟨x, hx, e⟩ := List.mem_map.1 hm
      obtain ⟨k, hk, rfl⟩ := List.getElem_of_mem (show x ∈ r.1.take i from hx)
      rw [List.length_take] at hk
      rw [List.getElem_take] at e
      exact h.apart hlt (by omega) e
    · show stA r (i + 1 + 1) = ⟨true, (r.1.length : Int), (r.2.length : Int), r.1.take i ++ [r.1[i]], (r.2.map canSt).take (i - r.1.length)⟩
      rw [← List.take_succ_eq_append_getElem hlt]
      show Ps.mk _ _ _ _ _ = _
      rw [show i + 1 - r.1.length = i - r.1.length by omega]
  · have e1 : (stA r (i + 1)).al.length = r.1.length := by show (r.1.take i).length = _; rw [List.length_take]; omega
    have hj : i - r.1.length < r.2.length := by omega
    have e2 : (stA r (i + 1)).sl.length = i - r.1.length := by show ((r.2.map canSt).take (i - r.1.length)).length = _; rw [List.length_take, List.length_map]; omega
    rw [if_neg (by rw [e1]; show ¬ (r.1.length : Int) < (r.1.length : Int); omega), if_pos (by rw [e2]; show ((i - r.1.length : Nat) : Int) < (r.2.length : Int); omega), lnR_step hlt hi hj]
    refine ⟨canSt r.2[i - r.1.length], (h.isStep hj).1, ?_, ?_⟩
    · rw [e2]
      have hm := h.may _ hj
      rw [mayAt_eq hj] at hm
      rw [canSt_may]
      exact hm
    · show stA r (i + 1 + 1) = ⟨true, (r.1.length : Int), (r.2.length : Int), r.1.take i, (r.2.map canSt).take (i - r.1.length) ++ [canSt r.2[i - r.1.length]]⟩
      have e3 : (r.2.map canSt).take (i - r.1.length) ++ [canSt r.2[i - r.1.length]] = (r.2.map canSt).take (i - r.1.length + 1) := by
       rw [List.take_succ_eq_append_getElem (by rw [List.length_map]; exact hj), List.getElem_map]
      rw [e3]
      show Ps.mk _ _ _ _ _ = _
      rw [show i + 1 - r.1.length = i - r.1.length + 1 by omega, List.take_of_length_le (by omega : r.1.length ≤ i + 1), List.take_of_length_le (by omega : r.1.length ≤ i)]
theorem Vld.run {r : RefD} (h : Vld r) (i : Nat) (hi : i ≤ (lnR r).length) : runP Ps.init 0 ((lnR r).take i) = .inl (stA r i) := run_all (T := stA r) h.next i hi
theorem lnR_drop (r : RefD) : (segsC 10 (prT r)).dropLast = lnR r := by rw [segs_prT]; simp
theorem Vld.parse {r : RefD} (h : Vld r) : parseV (prT r) = .inl (r.1, r.2.map canSt) := by
 have hr := h.run _ (Nat.le_refl _)
 rw [List.take_length] at hr
 have hd := lnR_drop r
 have hl := lnR_len r
 have e : stA r (lnR r).length = ⟨true, (r.1.length : Int), (r.2.length : Int), r.1, r.2.map canSt⟩ := by
  rw [hl, show 1 + r.1.length + r.2.length = (r.1.length + r.2.length) + 1 by omega]
  show Ps.mk _ _ _ _ _ = _
  rw [List.take_of_length_le (by omega : r.1.length ≤ r.1.length + r.2.length), List.take_of_length_le (by rw [List.length_map]; omega)]
 rw [e] at hr
 have hg : (segsC 10 (prT r)).getLast (segsC_ne 10 _) = [] := by
  simp only [segs_prT]
  simp
 rw [parseV_end (t := ⟨true, (r.1.length : Int), (r.2.length : Int), r.1, r.2.map canSt⟩) (by rw [hd]; exact hr)]
 rw [if_neg]
 rintro (h1 | h1 | h1 | h1)
 · exact h1 hg
 · cases h1
 · exact absurd h1 (Int.lt_irrefl _)
 · simp only [List.length_map] at h1
   exact absurd h1 (Int.lt_irrefl _)
theorem lnA_len52 {a : AtomD} (h : GoodA a) : (lnA a).length + 1 ≤ 52 * wtn a := by
 have h1 := mf_nform (fval a.1.1.2)
 have h2 := mf_fval h.good
 have h3 := tf_len (CanF.of (fval_inr h.var)).var
 have h4 := tq_len (rq a.1.2)
 have h5 := mu_rq h.goodB
 have h6 := hexN_len a.1.1.1.data.toList
 have h7 : a.1.1.1.data.toList.length = a.1.1.1.size := Array.length_toList
 unfold lnA wtn wtAt
 split
 · split
   · simp; omega
   · split <;> simp only [List.length_append, List.length_cons, List.length_nil] <;> omega
 · simp only [List.length_append, List.length_cons, List.length_nil]; omega
theorem lnP_len30 {s : StepD} (h : GoodS s) : (lnP s).length + 1 ≤ 52 * wts s := by
 have h1 := numsT_len h.clause
 have h2 := numsT_len h.byl
 have h3 := ratsT_len s.2 h.good
 unfold lnP wts
 split
 · simp only [List.length_append, List.length_cons, List.length_nil]; omega
 · split <;> simp only [List.length_append, List.length_cons, List.length_nil] <;> omega
theorem linesA_len52 {l : List AtomD} (h : ∀ a ∈ l, GoodA a) : (linesA l).length ≤ 52 * (l.map wtn).sum := by
 induction l with
 | nil => simp [linesA]
 | cons a l ih =>
  have h1 := lnA_len52 (h a (by simp))
  have h2 := ih fun x hx => h x (by simp [hx])
  have e : linesA (a :: l) = lnA a ++ [10] ++ linesA l := by unfold linesA; simp
  rw [e, List.length_append, List.length_append, List.length_singleton, List.map_cons, List.sum_cons]
  omega
theorem linesS_len52 {l : List StepD} (h : ∀ a ∈ l, GoodS a) : (linesS l).length ≤ 52 * (l.map wts).sum := by
 induction l with
 | nil => simp [linesS]
 | cons a l ih =>
  have h1 := lnP_len30 (h a (by simp))
  have h2 := ih fun x hx => h x (by simp [hx])
  have e : linesS (a :: l) = lnP a ++ [10] ++ linesS l := by unfold linesS; simp
  rw [e, List.length_append, List.length_append, List.length_singleton, List.map_cons, List.sum_cons]
  omega
theorem Vld.len {r : RefD} (h : Vld r) : (prT r).length ≤ 67108864 := by
 have h1 := linesA_len52 h.goodA
 have h2 := linesS_len52 h.goodS
 have h3 := h.few
 obtain ⟨f1, f2⟩ := h.few1
 have h4 := headT_len (r.1.length : Int) (r.2.length : Int) (by unfold inr; omega) (by unfold inr; omega)
 unfold prT
 simp only [List.length_append, List.length_cons, List.length_nil]
 omega
theorem Vld.lns {r : RefD} (h : Vld r) : LnsOk (prT r) := by
 intro i hi t ht
 have hll := lnR_len r
 obtain ⟨f1, f2⟩ := h.few1
 have hlen : (segsC 10 (prT r)).dropLast[i].length ≤ 67108864 := by
  have := (segs_few 10 (prT r)).2 _ ((List.dropLast_sublist _).subset (List.getElem_mem hi))
  have := h.len
  omega
 simp only [lnR_drop] at hi ht hlen ⊢
 have hr := h.run i (Nat.le_of_lt hi)
 rw [hr] at ht
 cases ht
 refine ⟨hlen, fun hb => ?_, fun hb ha => ?_, fun hb ha => ?_⟩
 · cases i with
   | zero =>
    rw [lnR_zero]
    have := headT_len (r.1.length : Int) (r.2.length : Int) (by unfold inr; omega) (by unfold inr; omega)
    omega
   | succ i => cases hb
 · cases i with
   | zero => cases hb
   | succ i =>
    have hlt : i < r.1.length := by
     have h1 : ((r.1.take i).length : Int) < (r.1.length : Int) := ha
     rw [List.length_take] at h1
     omega
    rw [lnR_atom hlt hi]
    exact .inr ⟨r.1[i], ⟨h.can _ (List.getElem_mem hlt), rfl⟩, h.goodA _ (List.getElem_mem hlt)⟩
 · cases i with
   | zero => cases hb
   | succ i =>
    have hlt : ¬ i < r.1.length := by
     have h1 : ¬ ((r.1.take i).length : Int) < (r.1.length : Int) := ha
     rw [List.length_take] at h1
     omega
    have hj : i - r.1.length < r.2.length := by omega
    rw [lnR_step hlt hi hj]
    exact .inr ⟨_, (h.isStep hj).1, (h.isStep hj).2⟩
end Go.Proofs.YtidgpkccjcddgaaGreatDoor.F
