/- How much forms weigh: a measure of rationals and of forms that sums and products keep. Plain law, and what it says of forms in memory. -/
import Derived.Test.YtidgpkccjcddgaaGreatDoorGk
import Derived.Test.YtidgpkccjcddgaaGreatDoorGi
set_option linter.unusedVariables false
set_option linter.unusedSimpArgs false
namespace Go.Proofs.YtidgpkccjcddgaaGreatDoor.F
open Go.RowKit Go.Shelf
/-- how many limbs |num| + den has -/
def mu (q : Rat) : Nat := (dg (q.num.natAbs + q.den)).length
theorem mu_le {q : Rat} {b : Nat} : mu q ≤ b ↔ Sz b q := by
  unfold mu Sz
  constructor
  · intro h
    have h1 := Int.lt_of_lt_of_le (dg_lt (q.num.natAbs + q.den)) (Bp_le h)
    omega
  · intro h
    exact dg_length_le (by omega)
theorem sz_mu (q : Rat) : Sz (mu q) q := mu_le.1 (Nat.le_refl _)
theorem mu_pos (q : Rat) : 1 ≤ mu q := by
  have h : dg (q.num.natAbs + q.den) ≠ [] := by
    rw [Ne, dg_eq_nil]
    have := q.den_pos
    omega
  exact List.length_pos_iff.2 h
theorem mu_add (p q : Rat) : mu (p + q) ≤ mu p + mu q := mu_le.2 ((sz_mu p).add (sz_mu q))
theorem mu_mul (p q : Rat) : mu (p * q) ≤ mu p + mu q := mu_le.2 ((sz_mu p).mul (sz_mu q))
theorem mu_zero : mu 0 = 1 := Nat.le_antisymm (mu_le.2 Sz.zero) (mu_pos 0)
theorem mu_rq {x : RatD} (h : Good (wt x) x) : mu (rq x) ≤ wt x := mu_le.2 (Sz.rq h)
theorem mu_int {n : Int} (h : n.natAbs ≤ 4294967294) : mu (n : Rat) ≤ 1 := mu_le.2 (by unfold Sz; show ((n : Rat).num.natAbs : Int) + ((n : Rat).den : Int) < Bp 1; rw [Rat.num_intCast, Rat.den_intCast]; show _ < (4294967296 : Int); omega)
theorem mu_ql {q : Rat} (h : mu q ≤ 137438953472) : QL q := Sz.ql (mu_le.1 h)
theorem mu_len (q : Rat) : (dg q.num.natAbs).length ≤ mu q ∧ (dg q.den).length ≤ mu q := (sz_mu q).len
/-- a form's measure -/
def mf (l : Frm) : Nat := (l.map fun m => mu m.2 + 1).sum
theorem mf_cons (m : Int × Rat) (l : Frm) : mf (m :: l) = mu m.2 + 1 + mf l := rfl
theorem mf_append (l m : Frm) : mf (l ++ m) = mf l + mf m := by unfold mf; rw [List.map_append, List.sum_append]
theorem mf_ins (v : Int) (q : Rat) (l : Frm) : mf (ins v q l) ≤ mu q + 1 + mf l := by
  induction l with
  | nil => simp only [ins]; split <;> simp [mf]
  | cons m r ih =>
    simp only [ins]
    split
    · split <;> simp only [mf_cons] <;> omega
    · split
      · split
        · simp only [mf_cons]; omega
        · have := mu_add q m.2; simp only [mf_cons]; omega
      · simp only [mf_cons]; omega
theorem mf_nform (l : Frm) : mf (nform l) ≤ mf l := by
  induction l with
  | nil => exact Nat.le_refl _
  | cons m r ih => have := mf_ins m.1 m.2 (nform r); simp only [nform, mf_cons]; omega
theorem mf_len (l : Frm) : l.length * 2 ≤ mf l := len_le_sum (g := fun m : Int × Rat => mu m.2 + 1) l fun m _ => by have := mu_pos m.2; omega
theorem mu_co (l : Frm) (v : Int) : mu (co l v) ≤ mf l + 1 := by
  induction l with
  | nil => show mu 0 ≤ _; rw [mu_zero]; omega
  | cons m r ih =>
    simp only [co, mf_cons]
    have := mu_add (if m.1 = v then m.2 else 0) (co r v)
    split at this <;> rename_i h
    · rw [if_pos h]; omega
    · rw [if_neg h]; rw [mu_zero] at this; have := mu_pos m.2; omega
theorem smul_length (c : Rat) (l : Frm) : (smul c l).length = l.length := by unfold smul; simp
theorem nform_len (l : Frm) : (nform l).length ≤ l.length := nform_length l
theorem fval_length (f : List (Int × RatD)) : (fval f).length = f.length := by unfold fval; simp
theorem mf_fval {f : List (Int × RatD)} (h : ∀ m ∈ f, Good (wt m.2) m.2) : mf (fval f) ≤ (f.map wtm).sum := by
  induction f with
  | nil => exact Nat.le_refl _
  | cons m r ih =>
    have h1 := ih fun x hx => h x (List.mem_cons_of_mem _ hx)
    have h2 := mu_rq (h m (List.mem_cons_self ..))
    show mu (rq m.2) + 1 + mf (fval r) ≤ wtm m + (r.map wtm).sum
    unfold wtm at *
    omega
theorem ql_of_mf {l : Frm} (h : mf l ≤ 137438953471) (v : Int) : QL (co l v) := mu_ql (by have := mu_co l v; omega)
theorem ql_mem {l : Frm} (h : mf l ≤ 137438953471) {m : Int × Rat} (hm : m ∈ l) : QL m.2 := mu_ql (by
  have : mu m.2 + 1 ≤ mf l := le_sum (g := fun m : Int × Rat => mu m.2 + 1) hm
  omega)
/-- what a canonical rational weighs in memory -/
theorem wt_can (q : Rat) : wt (canD q) ≤ 2 * mu q + 5 := by
  have := mu_len q
  show (dg q.num.natAbs).length + (dg q.den).length + 5 ≤ _
  omega
theorem good_can (q : Rat) : Good (wt (canD q)) (canD q) := ⟨Lim_dg _, Lim_dg _, by unfold wt canD; simp; omega, by unfold wt canD; simp; omega⟩
theorem wtm_can (l : Frm) : ((l.map canM).map wtm).sum ≤ 2 * mf l + 5 * l.length := by
  induction l with
  | nil => exact Nat.le_refl _
  | cons m r ih =>
    simp only [List.map_cons, List.sum_cons, mf_cons, List.length_cons]
    have h1 := wt_can m.2
    have h2 : wtm (canM m) = wt (canD m.2) + 2 := rfl
    omega
theorem fval_can (l : Frm) : fval (l.map canM) = l := map_val_can l
/-- a canonical form as a form that is handed in -/
theorem FIn.raw {w : World} {A : Option Addr} {c : Nat} {l : Frm} (h : FIn w A c l) (hs : 2 * mf l + 5 * l.length ≤ 137438953471) : FRaw w A c (l.map canM) :=
  ⟨h.row, by rw [List.length_map]; exact h.cap, fun m hm => by obtain ⟨x, _, rfl⟩ := List.mem_map.1 hm; exact good_can _, Nat.le_trans (wtm_can l) hs⟩
end Go.Proofs.YtidgpkccjcddgaaGreatDoor.F
/- The walks of the reference's layer 6: Coef, sorted, all, Norm. -/
namespace Go.Proofs.YtidgpkccjcddgaaGreatDoor.F
open Go.RowKit Go.Shelf Go.Proofs.YtidgpkccjcddgaaGreatDoorW.PrintLast
set_option maxHeartbeats 1000000 in
set_option maxRecDepth 100000 in
theorem r6_Coef (A : Option Addr) (c : Nat) (f : List (Int × RatD)) (u : Int) (w : World) (h : FRaw w A c f) :
    Calls Tryz.prog 123 #[.slice A f.length c, .int .i64 u] w fun e w' => ToldQ w (co (fval f) u) e w' := by
  have hl := h.len
  have hc := h.cap
  have H1 := Lib.hid h.row
  have HF1 := Lib.hid (fun m (hm : m ∈ f) => (h.good m hm).mono (show wt m.2 ≤ 137438953471 by have h1 : wtm m ≤ (f.map wtm).sum := le_sum hm; have h2 := wt_le m; have := h.sum; omega))
  have HS1 := Lib.hid (show ∀ i, i ≤ f.length → QL (co (fval (f.take i)) u) from fun i hi => ql_of_mf (by
    have h1 := mf_fval (f := f.take i) fun m hm => h.good m (List.mem_of_mem_take hm)
    have h2 : (f.map wtm).sum = ((f.take i).map wtm).sum + ((f.drop i).map wtm).sum := by rw [← sum_append, List.take_append_drop]
    have := h.sum
    omega) u)
  have hZ := Lib.hid (fun (W : World) => r6_zero W)
  obtain ⟨q0, hq0⟩ : ∃ q : Rat, q = 0 := ⟨_, rfl⟩
  rw [← hq0] at hZ
  have hzl : QL q0 := by rw [hq0]; exact Sz.ql (Sz.zero.mono (by omega))
  have HZ := Lib.hid (show q0 = co (fval (f.take 0)) u from hq0)
  have HF := Lib.hid ((Fr.refl w).box [.bool false, .slice none 0 0, .slice none 0 0] 43)
  clear h hq0
  go_enter Tryz.func123, Tryz.ntmps123
  go_wp2_with fail
  refine (hZ.out _).mono ?_
  rintro e W1 ⟨A0, c0, B0, d0, rfl, g1, g2, g3⟩
  replace HF := Lib.hid (HF.out.below g3)
  have hgw : w.heap.size < W1.heap.size := HF.out.ltN 0 rfl
  replace HF := Lib.hid (HF.out.box [.bool (decide (q0.num < 0)), .slice A0 (dg q0.num.natAbs).length c0, .slice B0 (dg q0.den).length d0] 43)
  have Q0 := Lib.hid (InQ.mk g1 g2)
  have hal := Lib.hid ((Below.refl _ W1).alloc (Nat.le_refl _) (.cells #[.bool (decide (q0.num < 0)), .slice A0 (dg q0.num.natAbs).length c0, .slice B0 (dg q0.den).length d0] 43))
  replace Q0 := Lib.hid (Q0.out.below hal.out)
  clear g1 g2 g3 hZ hal
  go_wp2
  go_loopg [6] f.length (fun gg s6 wr => ∃ (i : Nat) (q : Rat) (A1 : Option Addr) (c1 : Nat) (B1 : Option Addr) (d1 : Nat), i + gg = f.length ∧ s6 = .int .i64 i ∧ Hid (Fr w wr [(W1.heap.size, [.bool (decide (q.num < 0)), .slice A1 (dg q.num.natAbs).length c1, .slice B1 (dg q.den).length d1]), (w.heap.size, [.bool false, .slice none 0 0, .slice none 0 0])]) ∧ Hid (InQ wr A1 c1 B1 d1 q) ∧ QL q ∧ Hid (q = co (fval (f.take i)) u))
  case atStart => exact ⟨0, q0, A0, c0, B0, d0, by omega, rfl, HF, Q0, hzl, HZ⟩
  case round =>
    clear HF Q0 HZ hzl
    obtain ⟨i, q1, A1, c1, B1, d1, hg, rfl, HF, HX, lx, HE⟩ := hrel
    by_cases hlt : i < f.length
    · have hltz : (i : Int) < (f.length : Int) := by omega
      obtain ⟨ad, BB, cc, DD, dd, rfl, j1, j2, j3, j4, hq⟩ := row_mono H1.out i hlt
      have gm := HF1.out f[i] (List.getElem_mem hlt)
      have HE2 := Lib.hid (show co (fval (f.take (i + 1))) u = co (fval (f.take i)) u + (if f[i].1 = u then rq f[i].2 else 0) from by
        rw [List.take_succ_eq_append_getElem hlt]
        unfold fval
        rw [List.map_append, co_append]
        simp only [List.map_cons, List.map_nil, co, valM]
        grind)
      have sq := HS1.out (i + 1) (by omega)
      generalize f[i] = m at *
      obtain ⟨v, ⟨sb, us⟩, es⟩ := m
      have gn := gm.mn
      have gd := gm.md
      have hj := cell_below HF.out.bel j1
      have HQ1 := Lib.hid (hq.num gm)
      have HQ2 := Lib.hid (hq.den gm)
      clear hq gm
      dsimp only at *
      have lx1 := lx.1
      have lx2 := lx.2
      by_cases hv : v = u
      · subst hv
        have HSm : q1 + rv sb us es = co (fval (f.take (i + 1))) v := by rw [HE2.out, if_pos rfl, ← HE.out]; rfl
        have hAdd := Lib.hid (fun (W : World) (hb : Below w.heap.size w W) (k1 : InQ W A1 c1 B1 d1 q1) => r3_Add (decide (q1.num < 0)) A1 c1 (dg q1.num.natAbs) B1 d1 (dg q1.den) sb BB cc us DD dd es W k1.num (by omega) k1.den (by omega) (HQ1.out.below hb) (by omega) (HQ2.out.below hb) (by omega))
        rw [rv_can, HSm] at hAdd
        obtain ⟨q, hq0⟩ : ∃ q, q = co (fval (f.take (i + 1))) v := ⟨_, rfl⟩
        rw [← hq0] at hAdd sq
        have HQV := Lib.hid hq0
        clear hq0 HSm HE HE2 HQ1 HQ2
        go_wp2_with fail
        replace HX := Lib.hid (HX.out.below (Below.drew (Below.refl _ _)))
        have HF_ := Lib.hid HF.out.drew
        clear HF
        have HF := HF_
        clear HF_
        refine start_ (n := 8) (S := fun w' => w'.cell? ⟨W1.heap.size, 0, none⟩ = some (.bool (decide (q1.num < 0))) ∧ w'.cell? ⟨W1.heap.size, 1, none⟩ = some (.slice A1 (dg q1.num.natAbs).length c1) ∧ w'.cell? ⟨W1.heap.size, 2, none⟩ = some (.slice B1 (dg q1.den).length d1) ∧ w'.cell? (nxt (ad.add (i * 4)) 1) = some (.bool sb) ∧ w'.cell? (nxt (ad.add (i * 4)) 2) = some (.slice BB us.length cc) ∧ w'.cell? (nxt (ad.add (i * 4)) 3) = some (.slice DD es.length dd)) (ds := [7]) #[false, false, false, false, false, false, false, false] (by kernel_rfl) rfl rfl ⟨HF.out.cellN 0 rfl 0 rfl, HF.out.cellN 0 rfl 1 rfl, HF.out.cellN 0 rfl 2 rfl, cell_below HF.out.bel j2, cell_below HF.out.bel j3, cell_below HF.out.bel j4⟩ (fun hHeld => ?_)
        generalize World.drew _ = W at *
        refine pu_ (v := ?_) (a' := ?_) 1 (some 22) rfl rfl ?_ ?_ ?_
        rotate_left; · intro w'; go_simp; with_reducible rfl
        rotate_left; · simp only [Act.put, s1, s2, s3]; rfl
        refine pu_ (v := ?_) (a' := ?_) 2 (some 23) rfl rfl ?_ ?_ ?_
        rotate_left; · intro w'; go_simp; with_reducible rfl
        rotate_left; · simp only [Act.put, s1, s2, s3]; rfl
        refine pu_ (v := ?_) (a' := ?_) 3 (some 24) rfl rfl ?_ ?_ ?_
        rotate_left; · intro w'; go_simp; with_reducible rfl
        rotate_left; · simp only [Act.put, s1, s2, s3]; rfl
        refine pu_ (v := ?_) (a' := ?_) 4 (some 25) rfl rfl ?_ ?_ ?_
        rotate_left; · intro w'; go_simp; with_reducible rfl
        rotate_left; · simp only [Act.put, s1, s2, s3]; rfl
        refine tk_ (v := ?_) (a' := ?_) 0 (some 21) rfl rfl ?_ hHeld ?_ ?_
        rotate_left
        · rintro w' ⟨s0, s1, s2, s3, s4, s5⟩; go_simp; with_reducible rfl
        rotate_left; · simp only [Act.put, s1, s2, s3]; rfl
        refine tk_ (v := ?_) (a' := ?_) 5 (some 26) rfl rfl ?_ hHeld ?_ ?_
        rotate_left
        · rintro w' ⟨s0, s1, s2, s3, s4, s5⟩; go_simp; with_reducible rfl
        rotate_left; · simp only [Act.put, s1, s2, s3]; rfl
        refine on_ 6 (N := (some 27)) rfl rfl (fun K hK => ?_)
        refine goes_ Tryz.func196 (by kernel_rfl) rfl #[.agg #[.bool (decide (q1.num < 0)), .slice A1 (dg q1.num.natAbs).length c1, .slice B1 (dg q1.den).length d1], .agg #[.bool sb, .slice BB us.length cc, .slice DD es.length dd]] (by rfl) rfl rfl (by (try simp only [List.map_toArray, List.map_cons, List.map_nil]); first | done | rfl) ?_
        refine (hAdd.out W HF.out.bel HX.out).mono ?_
        rintro e W1 ⟨A3, c3, B3, d3, rfl, g1, g2, g3⟩
        refine ⟨_, rfl, ?_⟩
        replace HF := Lib.hid (HF.out.below g3)
        have Q1 := Lib.hid (InQ.mk g1 g2)
        clear g1 g2 g3 HX
        refine hK.out _ _ ⟨HF.out.cellN 0 rfl 0 rfl, HF.out.cellN 0 rfl 1 rfl, HF.out.cellN 0 rfl 2 rfl, cell_below HF.out.bel j2, cell_below HF.out.bel j3, cell_below HF.out.bel j4⟩ (fun hHeld => ?_)
        clear hK K
        refine norm_ (a' := ?_) ?_ ?_
        rotate_left
        · show Act.put _ (some 27) _ = _
          simp only [Act.put, s1, s2, s3]; rfl
        refine ls_ 7 (N := none) rfl rfl (fun K hK => ?_)
        have hf0 := HF.out.frozenN 0 rfl 0
        have hf1 := HF.out.frozenN 0 rfl 1
        have hf2 := HF.out.frozenN 0 rfl 2
        have hd0 := HF.out.cellN 0 rfl 0 rfl
        have hd1 := HF.out.cellN 0 rfl 1 rfl
        have hd2 := HF.out.cellN 0 rfl 2 rfl
        refine skip_ (w1 := ?_) (by rfl) rfl ?_ ?_
        rotate_left
        · go_simp
          rfl
        replace Q1 := Lib.hid (Q1.out.put3 (HF.out.ownN 0 rfl) (by simp) (a := .bool (decide (q.num < 0))) (by simp) (b := .slice A3 (dg q.num.natAbs).length c3) (by simp) (.slice B3 (dg q.den).length d3))
        replace HF := Lib.hid (HF.out.put3 0 rfl (by omega) (by simp; omega) (.bool (decide (q.num < 0))) (.slice A3 (dg q.num.natAbs).length c3) (.slice B3 (dg q.den).length d3))
        refine hK.out _ _ ?_
        clear hK K
        refine done_ (by kernel_rfl) ?_
        go_wp2
        go_roundg (f.length - (i + 1))
        case measure => omega
        case rel => exact ⟨i + 1, q, A3, c3, B3, d3, by omega, by go_num, HF.out, Q1.out, sq, HQV⟩
      · have HE3 : Hid (q1 = co (fval (f.take (i + 1))) u) := by
          show _ = _
          rw [HE2.out, if_neg hv, ← HE.out]; exact (Rat.add_zero _).symm
        have hvb : (v == u) = false := by rw [beq_eq_false_iff_ne]; exact hv
        clear HE HE2 hv
        go_wp2
        go_roundg (f.length - (i + 1))
        case measure => omega
        case rel => exact ⟨i + 1, q1, A1, c1, B1, d1, by omega, by go_num, HF, HX, lx, HE3⟩
    · have hltz : ¬ (i : Int) < (f.length : Int) := by omega
      have HE3 : Hid (q1 = co (fval f) u) := by
        show _ = _
        rw [HE.out, List.take_of_length_le (by omega)]
      clear HE
      have hc0 := HF.out.cellN 0 rfl 0 rfl
      have hc1 := HF.out.cellN 0 rfl 1 rfl
      have hc2 := HF.out.cellN 0 rfl 2 rfl
      have hf0 := HF.out.frozenN 1 rfl 0
      have hf1 := HF.out.frozenN 1 rfl 1
      have hf2 := HF.out.frozenN 1 rfl 2
      have hd0 := HF.out.cellN 1 rfl 0 rfl
      have hd1 := HF.out.cellN 1 rfl 1 rfl
      have hd2 := HF.out.cellN 1 rfl 2 rfl
      have HE := Lib.hid (end_rat HF.out.tail (by simp) (by simp) (by omega) HX.out.num HX.out.den rfl)
      generalize decide (q1.num < 0) = b at HE hc0 ⊢
      go_wp2
      obtain ⟨f1, f2⟩ := HE.out
      refine post_own f2 rfl rfl rfl Tryz.underlying43 rfl (by kernel_rfl) ?_
      rw [← HE3.out]
      exact f1
end Go.Proofs.YtidgpkccjcddgaaGreatDoor.F
/- The walks of the reference's layer 6, second part: sorted, all. -/
namespace Go.Proofs.YtidgpkccjcddgaaGreatDoor.F
open Go.RowKit Go.Shelf Go.Proofs.YtidgpkccjcddgaaGreatDoorW.PrintLast
/-- a number put among numbers that rise -/
def insI (x : Int) : List Int → List Int
  | [] => [x]
  | y :: r => if y < x then y :: insI x r else if y = x then y :: r else x :: y :: r
def srt (l : List Int) : List Int := l.foldl (fun acc x => insI x acc) []
theorem srt_succ (l : List Int) (i : Nat) (h : i < l.length) : srt (l.take (i + 1)) = insI l[i] (srt (l.take i)) := by
  unfold srt
  rw [List.take_succ_eq_append_getElem h, List.foldl_append]
  rfl
theorem insI_length (x : Int) (l : List Int) : (insI x l).length ≤ l.length + 1 := by
  induction l with
  | nil => exact Nat.le_refl _
  | cons y r ih => simp only [insI]; split <;> (try split) <;> simp <;> omega
theorem srt_length (l : List Int) : (srt l).length ≤ l.length := by
  have : ∀ i, i ≤ l.length → (srt (l.take i)).length ≤ i := by
    intro i
    induction i with
    | zero => intro _; simp [srt]
    | succ i ih => intro h; rw [srt_succ l i (by omega)]; have := insI_length l[i] (srt (l.take i)); have := ih (by omega); omega
  have h := this l.length (Nat.le_refl _)
  rwa [List.take_length] at h
theorem insI_at {x : Int} {xs : List Int} {k : Nat} (hk : k ≤ xs.length) (h1 : ∀ j (h : j < xs.length), j < k → xs[j] < x) (h2 : ∀ h : k < xs.length, x < xs[k]) : insI x xs = xs.take k ++ x :: xs.drop k := by
  induction xs generalizing k with
  | nil => simp [insI]
  | cons y r ih =>
    cases k with
    | zero =>
      have := h2 (by simp)
      simp only [List.getElem_cons_zero] at this
      simp only [insI, if_neg (show ¬ y < x by omega), if_neg (show ¬ y = x by omega)]
      rfl
    | succ k =>
      have := h1 0 (by simp) (by omega)
      simp only [List.getElem_cons_zero] at this
      simp only [insI, if_pos this]
      rw [ih (k := k) (by simpa using hk) (fun j h hj => h1 (j + 1) (by simpa using h) (by omega)) (fun h => h2 (by simpa using h))]
      rfl
theorem insI_in {x : Int} {xs : List Int} {k : Nat} (hk : k < xs.length) (h1 : ∀ j (h : j < xs.length), j < k → xs[j] < x) (h2 : xs[k] = x) : insI x xs = xs := by
  induction xs generalizing k with
  | nil => simp at hk
  | cons y r ih =>
    cases k with
    | zero =>
      simp only [List.getElem_cons_zero] at h2
      simp only [insI, if_neg (show ¬ y < x by omega), if_pos h2]
    | succ k =>
      have := h1 0 (by simp) (by omega)
      simp only [List.getElem_cons_zero] at this
      simp only [insI, if_pos this]
      rw [ih (k := k) (by simpa using hk) (fun j h hj => h1 (j + 1) (by simpa using h) (by omega)) (by simpa using h2)]
/-- a list of ints of the call's own -/
def OwnI (w : World) (B : Nat) (v : Value) (xs : List Int) : Prop := OwnL w B 3 1 v xs.length (xs.map (Value.int .i64))
theorem OwnI.nil (w : World) (B : Nat) : OwnI w B (.slice none 0 0) [] := OwnL.nil _ _ _ _
theorem OwnI.below {w w' : World} {B : Nat} {v : Value} {xs : List Int} (h : OwnI w B v xs) (hb : Below w.heap.size w w') : OwnI w' B v xs := OwnL.below h hb
theorem OwnI.mono {w : World} {B C : Nat} {v : Value} {xs : List Int} (h : OwnI w B v xs) (hC : C ≤ B) : OwnI w C v xs := OwnL.mono h hC
theorem row_i64 {w : World} {A : Option Addr} {xs : List Int} (hc : 0 < xs.length → ∃ ad, A = some ad ∧ ∀ j u, (xs.map (Value.int .i64))[j]? = some u → w.cell? (ad.add j) = some u) : (Knd.int .i64).Row w A xs := by
  intro i hi
  obtain ⟨ad, rfl, h⟩ := hc (by omega)
  refine ⟨ad, [.int .i64 xs[i]], rfl, rfl, fun j u hu => ?_⟩
  have hj : j = 0 := by
    cases j with
    | zero => rfl
    | succ j => simp at hu
  subst hj
  simp at hu
  subst hu
  have := h i (.int .i64 xs[i]) (by simp [List.getElem?_eq_getElem hi])
  rwa [show i * (Knd.int .i64).sz + 0 = i from by show i * 1 + 0 = i; omega]
theorem OwnI.row {w : World} {B : Nat} {v : Value} {xs : List Int} (h : OwnI w B v xs) : ∃ A c, v = .slice A xs.length c ∧ xs.length ≤ c ∧ (Knd.int .i64).Row w A xs := by
  obtain ⟨A, c, rfl, hc, _, h1⟩ := OwnL.form h
  exact ⟨A, c, rfl, hc, row_i64 h1⟩
theorem OwnI.blk {w : World} {B : Nat} {v : Value} {xs : List Int} (h : OwnI w B v xs) (h0 : 0 < xs.length) : ∃ g cap, v = .slice (some ⟨g, 0, none⟩) xs.length cap ∧ B ≤ g := by
  rcases h.2 with ⟨_, h1⟩ | ⟨g, cap, cur, rfl, h2, _⟩
  · omega
  · exact ⟨g, cap, rfl, h2⟩
theorem OwnI.set {w : World} {B g n cap : Nat} {xs : List Int} (h : OwnI w B (.slice (some ⟨g, 0, none⟩) n cap) xs) (hn : n = xs.length) (j : Nat) (hj : j < n) (y : Int) : OwnI (w.setCell ⟨g, j, none⟩ (.int .i64 y)) B (.slice (some ⟨g, 0, none⟩) n cap) (xs.set j y) := by
  subst hn
  have := (OwnL.setCell h j (by omega) (u := .int .i64 y) (fun z e => by cases e)).1
  unfold OwnI
  rw [List.length_set, List.map_set]
  exact this
theorem OwnI.cell {w : World} {B g n cap : Nat} {xs : List Int} (h : OwnI w B (.slice (some ⟨g, 0, none⟩) n cap) xs) (hn : n = xs.length) (j : Nat) (hj : j < xs.length) : w.cell? ⟨g, j, none⟩ = some (.int .i64 xs[j]) ∧ w.frozen? ⟨g, j, none⟩ = false := by
  subst hn
  obtain ⟨hB, cur, hg, hn, hm, hs, ht, hc⟩ := OwnL.block h
  refine ⟨?_, by simp [World.frozen?, hg]⟩
  have h1 : (xs.map (Value.int .i64))[j]? = some (.int .i64 xs[j]) := by simp [List.getElem?_eq_getElem hj]
  rw [← ht, List.getElem?_take] at h1
  split at h1
  · simp [World.cell?, hg]
    simpa using h1
  · cases h1
theorem pushI {w : World} {B : Nat} {t ty : TypeId} {v : Value} {xs : List Int} {y : Int} {g : Nat} (ht : Tryz.prog.underlying t = some (.slice 3)) (h : OwnI w B v xs) (hc : Own w g [.int .i64 y]) (hl : xs.length + 1 ≤ 1099511627776) (hB : B ≤ w.heap.size) :
    ∃ v' w', (Builtin.append_ #[t, t] ty #[v, .slice (some ⟨g, 0, none⟩) 1 1]).run Tryz.prog w = .ok v' w' ∧ OwnI w' B v' (xs ++ [y]) ∧ Below B w w' := by
  obtain ⟨v', w', h4, h5, h6⟩ := push_run (ty := ty) (c := 1) (ad := ⟨g, 0, none⟩) (m := 1) (news := [.int .i64 y]) ht (z := .int .i64 0) (sz := 1) (bytes := 8) (by kernel_rfl) rfl h rfl (fun j u hu => by
    cases j with
    | zero => simp at hu; subst hu; exact hc.cell 0 (by simp)
    | succ j => simp at hu) (by simp [Value.oneCell']) (fun z hz => by simp at hz) (fun z hz => by simp [Value.cells] at hz) (by simp only [maxLen]; omega) (by omega) hB
  refine ⟨v', w', h4, ?_, h6.below⟩
  unfold OwnI
  rw [List.map_append, List.length_append]
  exact h5
set_option maxHeartbeats 4000000 in
set_option maxRecDepth 100000 in
theorem r6_sorted (A : Option Addr) (c : Nat) (l : List Int) (w : World) (h : (Knd.int .i64).Row w A l) (hc : l.length ≤ c) (hl : l.length ≤ 274877906944) :
    Calls Tryz.prog 194 #[.slice A l.length c] w fun e w' => ∃ v, e = .returned v ∧ OwnI w' w.heap.size v (srt l) ∧ Below w.heap.size w w' := by
  have H := Lib.hid h
  clear h
  go_enter Tryz.func194, Tryz.ntmps194
  go_wp2
  go_loopg [3, 4] l.length (fun gg s3 s4 wr => ∃ (i : Nat) (v : Value) (xs : List Int), i + gg = l.length ∧ s4 = .int .i64 i ∧ v = s3 ∧ xs.length ≤ i ∧ Hid (xs = srt (l.take i)) ∧ Hid (OwnI wr w.heap.size v xs) ∧ Hid (Below w.heap.size w wr))
  case atStart => exact ⟨0, _, [], by omega, rfl, rfl, by simp, by show _ = _; rfl, OwnI.nil _ _, Below.refl _ _⟩
  case round =>
    obtain ⟨i, v, xs, hg, rfl, rfl, hxl, HX, HO, HB⟩ := hrel
    by_cases hlt : i < l.length
    · have hltz : (i : Int) < (l.length : Int) := by omega
      have HS := Lib.hid (srt_succ l i hlt)
      obtain ⟨ad, rfl, hcell⟩ := Knd.at_int H.out i hlt
      generalize l[i] = x at *
      have HXS := Lib.hid (show srt (l.take (i + 1)) = insI x xs by rw [HS.out, HX.out])
      obtain ⟨A1, c1, rfl, hc1, hrow⟩ := HO.out.row
      have HR := Lib.hid hrow
      clear hrow HS HX
      go_wp2
      go_loopg [5] xs.length (fun gg s5 wq => ∃ k : Nat, k + gg = xs.length ∧ s5 = .int .i64 k ∧ Hid (∀ j (h : j < xs.length), j < k → xs[j] < x) ∧ Hid (OwnI wq w.heap.size (.slice A1 xs.length c1) xs) ∧ Hid (Below w.heap.size w wq))
      case atStart => exact ⟨0, by omega, rfl, fun j h hj => by omega, HO, HB⟩
      case round =>
        clear HO HB HR
        obtain ⟨k, hg2, rfl, HK, HO, HB⟩ := hrel
        have hx := cell_below HB.out hcell
        obtain ⟨_, _, e_, _, hrow⟩ := HO.out.row
        cases e_
        have HR := Lib.hid hrow
        clear hrow
        by_cases hk : k < xs.length
        · have hkz : (k : Int) < (xs.length : Int) := by omega
          obtain ⟨bd, rfl, hcell2⟩ := Knd.at_int HR.out k hk
          by_cases hlt2 : xs[k] < x
          · have HK2 := Lib.hid (show ∀ j (h : j < xs.length), j < k + 1 → xs[j] < x from fun j h hj => by
              rcases Nat.lt_or_eq_of_le (Nat.le_of_lt_succ hj) with h1 | h1
              · exact HK.out j h h1
              · subst h1; exact hlt2)
            generalize xs[k] = y at *
            clear HK HR
            go_wp2
            go_quiet (fail)
            go_wp2
            go_roundg (xs.length - (k + 1))
            case measure => omega
            case rel => exact ⟨k + 1, by omega, by go_num, HK2, HO.out.below (below_drewN (Below.refl _ _) _), below_drewN HB.out _⟩
          · by_cases heq : xs[k] = x
            · have HI := Lib.hid (insI_in hk HK.out heq)
              have hyx : (xs[k] == x) = true := by rw [beq_iff_eq]; exact heq
              generalize xs[k] = y at *
              clear HK HR heq
              go_wp2
              go_quiet (fail)
              go_wp2
              go_quiet (fail)
              go_wp2
              go_roundg (l.length - (i + 1))
              case measure => omega
              case rel => exact ⟨i + 1, _, xs, by omega, by go_num, rfl, by omega, by show _ = _; rw [HXS.out, HI.out], HO.out.below (below_drewN (Below.refl _ _) _), below_drewN HB.out _⟩
            · have HI := Lib.hid (insI_at (x := x) (Nat.le_of_lt hk) HK.out fun h => by omega)
              have hyx : (xs[k] == x) = false := by rw [beq_eq_false_iff_ne]; exact heq
              generalize xs[k] = y at *
              clear HK HR heq
              go_wp2
              go_quiet (fail)
              go_wp2
              go_quiet (fail)
              generalize hW2 : World.drewN _ _ = W2
              have HO2 := Lib.hid (show OwnI W2 w.heap.size _ xs by rw [← hW2]; exact (HO.out.below (below_drewN (Below.refl _ _) _)).below (below_drewN (Below.refl _ _) _))
              have HB2 := Lib.hid (show Below w.heap.size w W2 by rw [← hW2]; exact below_drewN (below_drewN HB.out _) _)
              clear hW2 HO HB
              have hal := Lib.hid ((Below.refl _ W2).alloc (Nat.le_refl _) (.cells #[.int .i64 0] 3))
              obtain ⟨v', w', hrun, hO', hS⟩ := pushI (t := 76) (ty := 76) (y := 0) Tryz.underlying76 (HO2.out.below hal.out) (Own.mk (w := W2) [.int .i64 0] 3) (by omega) (Nat.le_trans HB2.out.size (by simp))
              have HP := Lib.hid hrun
              have HB3 := Lib.hid ((HB2.out.alloc HB2.out.size (.cells #[.int .i64 0] 3)).trans hS)
              obtain ⟨g, cap, rfl, hgB⟩ := hO'.blk (by simp)
              have HO3 := Lib.hid hO'
              have hz0 : (xs ++ [0]).length = xs.length + 1 := by simp
              rw [hz0] at HO3 HP
              clear hrun hO' hS hal HO2 HB2 hz0
              go_wp2_with (refine pushL_ rfl rfl rfl rfl HP.out ?_)
              go_loopg [6] xs.length (fun gg s6 wq => ∃ (m : Nat) (z : Int), k ≤ m ∧ m ≤ xs.length ∧ m ≤ gg + k ∧ s6 = .int .i64 m ∧ Hid (OwnI wq w.heap.size (.slice (some ⟨g, 0, none⟩) (xs.length + 1) cap) (xs.take m ++ z :: xs.drop m)) ∧ Hid (Below w.heap.size w wq))
              case atStart => exact ⟨xs.length, 0, by omega, by omega, by omega, by go_num, by show OwnI _ _ _ _; rw [List.take_length, List.drop_length]; exact HO3.out, HB3⟩
              case round =>
                clear HO3 HB3 HP
                obtain ⟨m, z, hm1, hm2, hm3, rfl, HO3, HB3⟩ := hrel
                have hlz : (xs.take m ++ z :: xs.drop m).length = xs.length + 1 := by simp; omega
                by_cases hmk : k < m
                · obtain ⟨m', rfl⟩ : ∃ m', m = m' + 1 := ⟨m - 1, by omega⟩
                  have hmz : ((k : Nat) : Int) < ((m' + 1 : Nat) : Int) := by omega
                  have hc1 := (HO3.out.cell hlz.symm m' (by omega)).1
                  have hc2 := (HO3.out.cell hlz.symm (m' + 1) (by omega)).1
                  have hf2 := (HO3.out.cell hlz.symm (m' + 1) (by omega)).2
                  have hst := Lib.hid (HO3.out.set hlz.symm (m' + 1) (by omega) (xs[m']'(by omega)))
                  have hget : (xs.take (m' + 1) ++ z :: xs.drop (m' + 1))[m']'(by omega) = xs[m']'(by omega) := by
                    rw [List.getElem_append_left (by simp; omega), List.getElem_take]
                  have hset : (xs.take (m' + 1) ++ z :: xs.drop (m' + 1)).set (m' + 1) (xs[m']'(by omega)) = xs.take m' ++ (xs[m']'(by omega)) :: xs.drop m' := by
                    have e1 : (xs.take (m' + 1)).length = m' + 1 := by simp; omega
                    rw [List.set_append_right _ _ (by omega), e1, Nat.sub_self, List.set_cons_zero, List.take_succ_eq_append_getElem (by omega), List.drop_eq_getElem_cons (show m' < xs.length by omega), List.append_assoc]
                    rfl
                  rw [hget] at hc1
                  rw [hset] at hst
                  have HB4 := Lib.hid (HB3.out.setCell (p := ⟨g, m' + 1, none⟩) hgB (.int .i64 (xs[m']'(by omega))))
                  clear hget hset HO3
                  generalize xs[m']'(by omega) = y at *
                  generalize (xs.take (m' + 1) ++ z :: xs.drop (m' + 1))[m' + 1]'(by omega) = y2 at *
                  clear hlz
                  go_wp2
                  go_roundg (m' - k)
                  case measure => omega
                  case rel => exact ⟨m', y, by omega, by omega, by omega, by go_num, hst, HB4⟩
                · obtain rfl : k = m := by omega
                  have hmz : ¬ ((k : Nat) : Int) < ((k : Nat) : Int) := by omega
                  have hc2 := (HO3.out.cell hlz.symm k (by omega)).1
                  have hf2 := (HO3.out.cell hlz.symm k (by omega)).2
                  have hx2 := cell_below HB3.out hcell
                  have hst := Lib.hid (HO3.out.set hlz.symm k (by omega) x)
                  have hset : (xs.take k ++ z :: xs.drop k).set k x = insI x xs := by
                    have e1 : (xs.take k).length = k := by simp; try omega
                    rw [HI.out, List.set_append_right _ _ (by omega), e1, Nat.sub_self, List.set_cons_zero]
                  rw [hset] at hst
                  have HB4 := Lib.hid (HB3.out.setCell (p := ⟨g, k, none⟩) hgB (.int .i64 x))
                  have hil := insI_length x xs
                  generalize (xs.take k ++ z :: xs.drop k)[k]'(by omega) = y2 at *
                  clear hset HO3 hlz
                  go_wp2
                  go_roundg (l.length - (i + 1))
                  case measure => omega
                  case rel => exact ⟨i + 1, _, insI x xs, by omega, by go_num, rfl, by omega, by show _ = _; rw [HXS.out], hst, HB4⟩
        · have hk2 : k = xs.length := by omega
          subst hk2
          have HI := Lib.hid (insI_at (x := x) (Nat.le_refl _) HK.out fun h => by omega)
          clear HK HR
          go_wp2
          go_quiet (fail)
          go_wp2
          go_quiet (fail)
          generalize hW2 : World.drewN _ _ = W2
          have HO2 := Lib.hid (show OwnI W2 w.heap.size _ xs by rw [← hW2]; exact (HO.out.below (below_drewN (Below.refl _ _) _)).below (below_drewN (Below.refl _ _) _))
          have HB2 := Lib.hid (show Below w.heap.size w W2 by rw [← hW2]; exact below_drewN (below_drewN HB.out _) _)
          clear hW2 HO HB
          have hal := Lib.hid ((Below.refl _ W2).alloc (Nat.le_refl _) (.cells #[.int .i64 0] 3))
          obtain ⟨v', w', hrun, hO', hS⟩ := pushI (t := 76) (ty := 76) (y := 0) Tryz.underlying76 (HO2.out.below hal.out) (Own.mk (w := W2) [.int .i64 0] 3) (by omega) (Nat.le_trans HB2.out.size (by simp))
          have HP := Lib.hid hrun
          have HB3 := Lib.hid ((HB2.out.alloc HB2.out.size (.cells #[.int .i64 0] 3)).trans hS)
          obtain ⟨g, cap, rfl, hgB⟩ := hO'.blk (by simp)
          have HO3 := Lib.hid hO'
          have hz0 : (xs ++ [0]).length = xs.length + 1 := by simp
          rw [hz0] at HO3 HP
          clear hrun hO' hS hal HO2 HB2 hz0
          go_wp2_with (refine pushL_ rfl rfl rfl rfl HP.out ?_)
          go_loopg [6] xs.length (fun gg s6 wq => ∃ (m : Nat) (z : Int), xs.length ≤ m ∧ m ≤ xs.length ∧ m ≤ gg + xs.length ∧ s6 = .int .i64 m ∧ Hid (OwnI wq w.heap.size (.slice (some ⟨g, 0, none⟩) (xs.length + 1) cap) (xs.take m ++ z :: xs.drop m)) ∧ Hid (Below w.heap.size w wq))
          case atStart => exact ⟨xs.length, 0, by omega, by omega, by omega, by go_num, by show OwnI _ _ _ _; rw [List.take_length, List.drop_length]; exact HO3.out, HB3⟩
          case round =>
            clear HO3 HB3 HP
            obtain ⟨m, z, hm1, hm2, hm3, rfl, HO3, HB3⟩ := hrel
            have hlz : (xs.take m ++ z :: xs.drop m).length = xs.length + 1 := by simp; omega
            by_cases hmk : xs.length < m
            · exact absurd hmk (by omega)
            · have hme : m = xs.length := by omega
              subst hme
              have hmz : ¬ ((xs.length : Nat) : Int) < ((xs.length : Nat) : Int) := by omega
              have hc2 := (HO3.out.cell hlz.symm xs.length (by omega)).1
              have hf2 := (HO3.out.cell hlz.symm xs.length (by omega)).2
              have hx2 := cell_below HB3.out hcell
              have hst := Lib.hid (HO3.out.set hlz.symm xs.length (by omega) x)
              have hset : (xs.take xs.length ++ z :: xs.drop xs.length).set xs.length x = insI x xs := by
                have e1 : (xs.take xs.length).length = xs.length := by simp; try omega
                rw [HI.out, List.set_append_right _ _ (by omega), e1, Nat.sub_self, List.set_cons_zero]
              rw [hset] at hst
              have HB4 := Lib.hid (HB3.out.setCell (p := ⟨g, xs.length, none⟩) hgB (.int .i64 x))
              have hil := insI_length x xs
              generalize (xs.take xs.length ++ z :: xs.drop xs.length)[xs.length]'(by omega) = y2 at *
              clear hset HO3 hlz
              go_wp2
              go_roundg (l.length - (i + 1))
              case measure => omega
              case rel => exact ⟨i + 1, _, insI x xs, by omega, by go_num, rfl, by omega, by show _ = _; rw [HXS.out], hst, HB4⟩
    · have hltz : ¬ (i : Int) < (l.length : Int) := by omega
      have HXS := Lib.hid (show xs = srt l by rw [HX.out, List.take_of_length_le (by omega)])
      clear HX
      go_wp2
      go_ret
      exact ⟨_, rfl, by rw [← HXS.out]; exact HO.out, HB.out⟩
/-- a slice's elements appended one by one onto a list of ints: the variables of a form -/
def vars (f : List (Int × RatD)) : List Int := f.map (·.1)
set_option maxHeartbeats 2000000 in
set_option maxRecDepth 100000 in
theorem r6_all (A : Option Addr) (c : Nat) (f : List (Int × RatD)) (w : World) (h : kMono.Row w A f) (hc : f.length ≤ c) (hl : f.length ≤ 137438953472) :
    Calls Tryz.prog 122 #[.slice A f.length c, .slice none 0 0] w fun e w' => ∃ v, e = .returned v ∧ OwnI w' w.heap.size v (srt (vars f)) ∧ Below w.heap.size w w' := by
  have H := Lib.hid h
  clear h
  go_enter Tryz.func122, Tryz.ntmps122
  go_wp2
  go_loopg [5, 6] f.length (fun gg s5 s6 wr => ∃ (i : Nat) (v : Value), i + gg = f.length ∧ s6 = .int .i64 i ∧ v = s5 ∧ Hid (OwnI wr w.heap.size v (vars (f.take i))) ∧ Hid (Below w.heap.size w wr))
  case atStart => exact ⟨0, _, by omega, rfl, rfl, OwnI.nil _ _, Below.refl _ _⟩
  case round =>
    obtain ⟨i, v, hg, rfl, rfl, HO, HB⟩ := hrel
    by_cases hlt : i < f.length
    · have hltz : (i : Int) < (f.length : Int) := by omega
      have HS := Lib.hid (show vars (f.take (i + 1)) = vars (f.take i) ++ [f[i].1] by unfold vars; rw [List.take_succ_eq_append_getElem hlt, List.map_append]; rfl)
      obtain ⟨ad, _, _, _, _, rfl, i1, _⟩ := row_mono H.out i hlt
      have hx := cell_below HB.out i1
      have hvl : (vars (f.take i)).length = i := by unfold vars; simp; omega
      generalize f[i] = m at *
      have hal := Lib.hid ((Below.refl _ wr).alloc (Nat.le_refl _) (.cells #[.int .i64 m.1] 3))
      obtain ⟨v', w', hrun, hO', hS⟩ := pushI (t := 76) (ty := 76) (y := m.1) Tryz.underlying76 (HO.out.below hal.out) (Own.mk (w := wr) [.int .i64 m.1] 3) (by omega) (Nat.le_trans HB.out.size (by simp))
      have HP := Lib.hid hrun
      have HO2 := Lib.hid hO'
      have HB2 := Lib.hid ((HB.out.alloc HB.out.size (.cells #[.int .i64 m.1] 3)).trans hS)
      rw [← HS.out] at HO2
      clear hrun hO' hS hal HS i1 hvl HO
      go_wp2_with (refine pushL_ rfl rfl rfl rfl HP.out ?_)
      go_roundg (f.length - (i + 1))
      case measure => omega
      case rel => exact ⟨i + 1, v', by omega, by go_num, rfl, HO2, HB2⟩
    · have hltz : ¬ (i : Int) < (f.length : Int) := by omega
      have HO2 := Lib.hid (show OwnI wr w.heap.size _ (vars f) by have := HO.out; rwa [List.take_of_length_le (by omega)] at this)
      obtain ⟨A1, c1, rfl, hc1, hrow⟩ := HO2.out.row
      have hvl : (vars f).length = f.length := by unfold vars; simp
      have HS := Lib.hid (r6_sorted A1 c1 (vars f) wr hrow hc1 (by omega))
      clear hrow HO HO2 hvl
      go_wp2
      go_loopg [5, 7] 0 (fun gg s5 s7 wq => s7 = .int .i64 0 ∧ s5 = .slice A1 (vars f).length c1 ∧ wq = wr)
      case atStart => exact ⟨rfl, rfl, rfl⟩
      case round =>
        obtain ⟨rfl, rfl, rfl⟩ := hrel
        go_wp2_with fail
        refine HS.out.mono ?_
        rintro e W1 ⟨v, rfl, h1, h2⟩
        have HO3 := Lib.hid (h1.mono HB.out.size)
        have HB3 := Lib.hid (HB.out.trans (h2.mono HB.out.size))
        clear h1 h2 HS
        go_wp2
        go_ret
        exact ⟨_, rfl, HO3.out, HB3.out⟩
end Go.Proofs.YtidgpkccjcddgaaGreatDoor.F
/- The walks of the reference's layer 6, third part: Norm. -/
namespace Go.Proofs.YtidgpkccjcddgaaGreatDoor.F
open Go.RowKit Go.Shelf Go.Proofs.YtidgpkccjcddgaaGreatDoorW.PrintLast
theorem insI_mem {x y : Int} {l : List Int} : y ∈ insI x l ↔ y = x ∨ y ∈ l := by
  induction l with
  | nil => simp [insI]
  | cons a r ih =>
    simp only [insI]
    split
    · simp only [List.mem_cons, ih]
      constructor
      · rintro (h | h | h) <;> simp [h]
      · rintro (h | h | h) <;> simp [h]
    · split
      · rename_i h1 h2
        subst h2
        simp only [List.mem_cons]
        constructor
        · rintro (h | h) <;> simp [h]
        · rintro (h | h | h) <;> simp [h]
      · simp only [List.mem_cons]
theorem insI_up {x : Int} {l : List Int} (h : l.Pairwise (· < ·)) : (insI x l).Pairwise (· < ·) := by
  induction l with
  | nil => simp [insI]
  | cons a r ih =>
    have h1 := List.pairwise_cons.1 h
    simp only [insI]
    split
    · rename_i hlt
      refine List.pairwise_cons.2 ⟨fun y hy => ?_, ih h1.2⟩
      rcases insI_mem.1 hy with rfl | hy
      · exact hlt
      · exact h1.1 y hy
    · split
      · exact h
      · refine List.pairwise_cons.2 ⟨fun y hy => ?_, h⟩
        rcases List.mem_cons.1 hy with rfl | hy
        · omega
        · have := h1.1 y hy; omega
theorem srt_up (l : List Int) : (srt l).Pairwise (· < ·) := by
  have : ∀ (l acc : List Int), acc.Pairwise (· < ·) → (l.foldl (fun acc x => insI x acc) acc).Pairwise (· < ·) := by
    intro l
    induction l with
    | nil => intro acc h; exact h
    | cons x l ih => intro acc h; exact ih _ (insI_up h)
  exact this l [] List.Pairwise.nil
theorem mem_srt {x : Int} {l : List Int} : x ∈ srt l ↔ x ∈ l := by
  have : ∀ (l acc : List Int), x ∈ l.foldl (fun acc x => insI x acc) acc ↔ x ∈ l ∨ x ∈ acc := by
    intro l
    induction l with
    | nil => intro acc; simp
    | cons y l ih =>
      intro acc
      rw [List.foldl_cons, ih, insI_mem, List.mem_cons]
      constructor
      · rintro (h | h | h) <;> simp [h]
      · rintro ((h | h) | h) <;> simp [h]
  unfold srt
  rw [this]
  simp
/-- the variables' coefficients, where they are not 0 -/
def nmf (F : Frm) (l : List Int) : Frm := l.filterMap fun v => if co F v = 0 then none else some (v, co F v)
theorem nmf_mem {F : Frm} {l : List Int} {m : Int × Rat} (h : m ∈ nmf F l) : m.1 ∈ l ∧ m.2 = co F m.1 ∧ m.2 ≠ 0 := by
  obtain ⟨v, hv, e⟩ := List.mem_filterMap.1 h
  split at e
  · cases e
  · rename_i h0
    cases e
    exact ⟨hv, rfl, h0⟩
theorem co_nmf (F : Frm) {l : List Int} (h : l.Pairwise (· < ·)) (v : Int) : co (nmf F l) v = if v ∈ l then co F v else 0 := by
  induction l with
  | nil => simp [nmf, co]
  | cons a r ih =>
    have h1 := List.pairwise_cons.1 h
    have ih := ih h1.2
    have e : nmf F (a :: r) = (if co F a = 0 then [] else [(a, co F a)]) ++ nmf F r := by
      unfold nmf
      rw [List.filterMap_cons]
      split <;> rename_i h2 <;> split at h2 <;> simp_all
    rw [e, co_append, ih]
    by_cases hva : v = a
    · subst hva
      have hn : v ∉ r := fun hm => by have := h1.1 v hm; omega
      rw [if_neg hn, if_pos (List.mem_cons_self ..)]
      split
      · rename_i h0; rw [h0]; simp [co]; exact Rat.add_zero _
      · simp only [co, if_true]; grind
    · have hm : v ∈ a :: r ↔ v ∈ r := by simp [hva]
      have h3 : co (if co F a = 0 then [] else [(a, co F a)]) v = 0 := by
        split
        · rfl
        · simp only [co, if_neg (show ¬ a = v from fun e => hva e.symm)]; grind
      rw [h3]
      by_cases hr : v ∈ r
      · rw [if_pos hr, if_pos (hm.2 hr)]; exact Rat.zero_add _
      · rw [if_neg hr, if_neg (fun h => hr (hm.1 h))]; exact Rat.zero_add _
theorem nmf_nform (F : Frm) {l : List Int} (h : l.Pairwise (· < ·)) (hm : ∀ m ∈ F, m.1 ∈ l) : nmf F l = nform F := by
  refine nform_eq ⟨?_, fun m hm => (nmf_mem hm).2.2⟩ fun v => ?_
  · unfold nmf
    refine List.Pairwise.filterMap _ (fun a a' hlt b hb b' hb' => ?_) h
    split at hb
    · cases hb
    · split at hb'
      · cases hb'
      · cases hb; cases hb'; exact hlt
  · rw [co_nmf F h]
    split
    · rfl
    · rename_i hv
      exact (co_none fun x hx e => hv (by rw [← e]; exact hm x hx)).symm
theorem nmf_succ (F : Frm) (l : List Int) (i : Nat) (h : i < l.length) : nmf F (l.take (i + 1)) = nmf F (l.take i) ++ if co F l[i] = 0 then [] else [(l[i], co F l[i])] := by
  unfold nmf
  rw [List.take_succ_eq_append_getElem h, List.filterMap_append]
  congr 1
  simp only [List.filterMap_cons, List.filterMap_nil]
  split <;> rename_i h2 <;> split at h2 <;> simp_all
theorem nmf_length (F : Frm) (l : List Int) : (nmf F l).length ≤ l.length := by unfold nmf; exact List.length_filterMap_le _ _
set_option maxHeartbeats 2000000 in
set_option maxRecDepth 100000 in
theorem r6_Norm (A : Option Addr) (c : Nat) (f : List (Int × RatD)) (w : World) (h : FRaw w A c f) : Calls Tryz.prog 59 #[.slice A f.length c] w (ToldFm w (nform (fval f))) := by
  have hlen := h.len
  have hAll := Lib.hid (r6_all A c f w h.row h.cap (by omega))
  have hCo := Lib.hid (fun (u : Int) (W : World) (hb : Below w.heap.size w W) => r6_Coef A c f u W (h.below hb))
  have hQ := Lib.hid (fun (u : Int) => ql_co h.good h.sum u)
  have hvl : (srt (vars f)).length ≤ f.length := by have := srt_length (vars f); unfold vars at *; rwa [List.length_map] at this
  have HN := Lib.hid (nmf_nform (fval f) (srt_up (vars f)) fun m hm => mem_srt.2 (by
    obtain ⟨x, hx, rfl⟩ := List.mem_map.1 hm
    exact List.mem_map.2 ⟨x, hx, rfl⟩))
  clear h
  generalize srt (vars f) = L at *
  unfold ToldFm
  rw [← HN.out]
  clear HN
  generalize fval f = F at *
  go_enter Tryz.func59, Tryz.ntmps59
  go_wp2_with fail
  refine hAll.out.mono ?_
  rintro e W1 ⟨v, rfl, h1, h2⟩
  obtain ⟨A1, c1, rfl, hc1, hrow⟩ := h1.row
  have HL := Lib.hid hrow
  have HB1 := Lib.hid h2
  have hw1 := HB1.out.size
  clear h1 h2 hrow hAll
  go_wp2
  go_loopg [3, 5] L.length (fun gg s3 s5 wr => ∃ (i : Nat) (v : Value), i + gg = L.length ∧ s5 = .int .i64 i ∧ v = s3 ∧ Hid (OwnF wr W1.heap.size v (nmf F (L.take i))) ∧ Hid (Below W1.heap.size W1 wr))
  case atStart => exact ⟨0, _, by omega, rfl, rfl, OwnF.nil _ _, Below.refl _ _⟩
  case round =>
    obtain ⟨i, v, hg, rfl, rfl, HO, HB⟩ := hrel
    by_cases hlt : i < L.length
    · have hltz : (i : Int) < (L.length : Int) := by omega
      have HS := Lib.hid (nmf_succ F L i hlt)
      have hnl := nmf_length F (L.take i)
      rw [List.length_take] at hnl
      obtain ⟨ad, rfl, hcell⟩ := Knd.at_int HL.out i hlt
      generalize L[i] = u at *
      have hx := cell_below HB.out hcell
      have hC := Lib.hid (hCo.out u wr (HB1.out.trans (HB.out.mono hw1)))
      have hql := hQ.out u
      obtain ⟨q, hq0⟩ : ∃ q, q = co F u := ⟨_, rfl⟩
      rw [← hq0] at hC hql HS
      clear hq0
      go_wp2_with fail
      refine hC.out.mono ?_
      rintro e W2 ⟨A2, c2, B2, d2, rfl, q1, q2, q3⟩
      have Q := Lib.hid (InQ.mk q1 q2)
      replace HO := Lib.hid (HO.out.below q3)
      replace HB := Lib.hid (HB.out.trans (q3.mono HB.out.size))
      clear q1 q2 q3 hC hx
      have hal := Lib.hid ((Below.refl _ W2).alloc (Nat.le_refl _) (.cells #[.bool (decide (q.num < 0)), .slice A2 (dg q.num.natAbs).length c2, .slice B2 (dg q.den).length d2] 43))
      have hS := Lib.hid (r3_Sign (decide (q.num < 0)) A2 c2 (dg q.num.natAbs) B2 d2 (dg q.den) (W2.alloc (.cells #[.bool (decide (q.num < 0)), .slice A2 (dg q.num.natAbs).length c2, .slice B2 (dg q.den).length d2] 43)) (Q.out.num.below hal.out) (by have := hql.1; omega) (Q.out.den.below hal.out) (by have := hql.2; omega))
      rw [rv_can] at hS
      have HF := Lib.hid ((Fr.refl W2).box [.bool (decide (q.num < 0)), .slice A2 (dg q.num.natAbs).length c2, .slice B2 (dg q.den).length d2] 43)
      go_wp2_with fail
      refine hS.out.mono ?_
      rintro e W3 ⟨rfl, q3⟩
      replace HF := Lib.hid (HF.out.below q3)
      clear q3 hS hal
      by_cases hz : q = 0
      · subst hz
        rw [if_pos rfl, List.append_nil] at HS
        have HO2 := Lib.hid (HO.out.below HF.out.bel)
        have HB2 := Lib.hid (HB.out.trans (HF.out.bel.mono HB.out.size))
        rw [← HS.out] at HO2
        rw [show sgn (0 : Rat).num = 0 from rfl]
        clear HS HO HB HF Q
        go_wp2
        go_roundg (L.length - (i + 1))
        case measure => omega
        case rel => exact ⟨i + 1, _, by omega, by go_num, rfl, HO2, HB2⟩
      · rw [if_neg hz] at HS
        have hsg : (sgn q.num == 0) = false := by rw [sgn_zero]; simpa using hz
        have hsg2 : (sgn q.num != 0) = true := by rw [bne, hsg]; rfl
        generalize sgn q.num = sg at *
        clear hz
        have hw3 := HF.out.bel.size
        have hw2 := HB.out.size
        replace HO := Lib.hid (HO.out.below HF.out.bel)
        replace Q := Lib.hid (Q.out.below HF.out.bel)
        go_wp2_with fail
        replace HO := Lib.hid (HO.out.below (Below.drew (Below.refl _ _)))
        replace Q := Lib.hid (Q.out.below (Below.drew (Below.refl _ _)))
        have HF_ := Lib.hid HF.out.drew
        clear HF
        have HF := HF_
        clear HF_
        refine start_ (n := 10) (S := fun w' => w'.cell? ⟨W2.heap.size, 0, none⟩ = some (.bool (decide (q.num < 0))) ∧ w'.cell? ⟨W2.heap.size, 1, none⟩ = some (.slice A2 (dg q.num.natAbs).length c2) ∧ w'.cell? ⟨W2.heap.size, 2, none⟩ = some (.slice B2 (dg q.den).length d2) ∧ w'.cell? (ad.add i) = some (.int .i64 u)) (ds := [8]) #[false, false, false, false, false, false, false, false, false, false] (by kernel_rfl) rfl rfl ⟨HF.out.cellN 0 rfl 0 rfl, HF.out.cellN 0 rfl 1 rfl, HF.out.cellN 0 rfl 2 rfl, cell_below (HB.out.trans (HF.out.bel.mono hw2)) hcell⟩ (fun hHeld => ?_)
        generalize World.drew _ = W at *
        refine pu_ (v := ?_) (a' := ?_) 0 (some 24) rfl rfl ?_ ?_ ?_
        rotate_left; · intro w'; go_simp; with_reducible rfl
        rotate_left; · simp only [Act.put, s1, s2, s3]; rfl
        refine pu_ (v := ?_) (a' := ?_) 1 (some 25) rfl rfl ?_ ?_ ?_
        rotate_left; · intro w'; go_simp; with_reducible rfl
        rotate_left; · simp only [Act.put, s1, s2, s3]; rfl
        refine pu_ (v := ?_) (a' := ?_) 2 (some 26) rfl rfl ?_ ?_ ?_
        rotate_left; · intro w'; go_simp; with_reducible rfl
        rotate_left; · simp only [Act.put, s1, s2, s3]; rfl
        refine pu_ (v := ?_) (a' := ?_) 3 (some 27) rfl rfl ?_ ?_ ?_
        rotate_left; · intro w'; go_simp; with_reducible rfl
        rotate_left; · simp only [Act.put, s1, s2, s3]; rfl
        refine tk_ (v := ?_) (a' := ?_) 4 (some 28) rfl rfl ?_ hHeld ?_ ?_
        rotate_left
        · rintro w' ⟨s0, s1, s2, s3⟩; go_simp; with_reducible rfl
        rotate_left; · simp only [Act.put, s1, s2, s3]; rfl
        refine tk_ (v := ?_) (a' := ?_) 5 (some 29) rfl rfl ?_ hHeld ?_ ?_
        rotate_left
        · rintro w' ⟨s0, s1, s2, s3⟩; go_simp; with_reducible rfl
        rotate_left; · simp only [Act.put, s1, s2, s3]; rfl
        refine pu_ (v := ?_) (a' := ?_) 6 (some 30) rfl rfl ?_ ?_ ?_
        rotate_left; · intro w'; go_simp; with_reducible rfl
        rotate_left; · simp only [Act.put, s1, s2, s3]; rfl
        refine on_ 7 (N := (some 31)) rfl rfl (fun K hK => ?_)
        refine value_ (v := ?_) (w1 := ?_) (by rfl) rfl ?_ ?_
        rotate_left
        rotate_left
        · go_simp
          first | rfl | (refine ⟨?_, ?_⟩ <;> rfl)
        have hown := Lib.hid (Own.mk (w := W) (MC.mk u q A2 c2 B2 d2).cells 57)
        have hbe := Lib.hid ((Below.refl _ W).alloc (Nat.le_refl _) (.cells (MC.mk u q A2 c2 B2 d2).cells.toArray 57))
        have hgg := HF.out.bel.size
        replace HO := Lib.hid (HO.out.below hbe.out)
        replace Q := Lib.hid (Q.out.below hbe.out)
        replace HF := Lib.hid (HF.out.below hbe.out)
        have hsz := hbe.out.size
        refine hK.out _ _ ⟨HF.out.cellN 0 rfl 0 rfl, HF.out.cellN 0 rfl 1 rfl, HF.out.cellN 0 rfl 2 rfl, cell_below (HB.out.trans (HF.out.bel.mono hw2)) hcell⟩ (fun hHeld => ?_)
        clear hK K
        refine norm_ (a' := ?_) ?_ ?_
        rotate_left
        · show Act.put _ (some 31) _ = _
          simp only [Act.put, s1, s2, s3]; rfl
        obtain ⟨g, hg0⟩ : ∃ g, g = W.heap.size := ⟨_, rfl⟩
        obtain ⟨W1, hV⟩ : ∃ X, X = W.alloc (.cells (MC.mk u q A2 c2 B2 d2).cells.toArray 57) := ⟨_, rfl⟩
        rw [← hV] at HF HO Q hown hsz
        rw [← hg0] at hown hgg hsz
        rw [show W.alloc (.cells #[.int .i64 u, .bool (decide (q.num < 0)), .slice A2 (dg q.num.natAbs).length c2, .slice B2 (dg q.den).length d2] 57) = W1 from hV.symm, ← hg0]
        clear hg0 hV hbe
        refine ls_ 8 (N := (some 32)) rfl rfl (fun K hK => ?_)
        obtain ⟨v_, W2, hpush, hO', hS'⟩ := push1 (t := 31) (ty := 31) (r := MC.mk u q A2 c2 B2 d2) Tryz.underlying31 HO.out ⟨Q.out, hql⟩ hown.out (by omega) (by omega)
        refine push_ (by rfl) rfl rfl rfl rfl hpush ?_
        clear hpush
        have HB2 := Lib.hid ((HB.out.trans (HF.out.bel.mono hw2)).trans hS'.below)
        have HO2 := Lib.hid (show OwnF _ _ _ _ from hO')
        rw [show (MC.mk u q A2 c2 B2 d2).vq = (u, q) from rfl, ← HS.out] at HO2
        clear hO' hS' HO HB HF Q
        refine hK.out _ _ ?_
        clear hK K
        refine norm_ (a' := ?_) ?_ ?_
        rotate_left
        · show Act.put _ (some 32) _ = _
          simp only [Act.put, s1, s2, s3]; rfl
        refine pu_ (v := ?_) (a' := ?_) 9 (some 3) rfl rfl ?_ ?_ ?_
        rotate_left; · intro w'; go_simp; with_reducible rfl
        rotate_left; · simp only [Act.put, s1, s2, s3]; rfl
        refine done_ (by kernel_rfl) ?_
        go_wp2
        go_roundg (L.length - (i + 1))
        case measure => omega
        case rel => exact ⟨i + 1, _, by omega, by go_num, rfl, HO2, HB2⟩
    · have hltz : ¬ (i : Int) < (L.length : Int) := by omega
      have HO2 := Lib.hid (HO.out.mono hw1)
      rw [List.take_of_length_le (by omega)] at HO2
      have HB2 := Lib.hid (HB1.out.trans (HB.out.mono hw1))
      clear HO HB
      go_wp2
      go_ret
      exact ⟨_, rfl, HO2.out, HB2.out⟩
end Go.Proofs.YtidgpkccjcddgaaGreatDoor.F
/- The walks of the reference's layer 6, fourth part: Scale; and the law LinearScales. -/
namespace Go.Proofs.YtidgpkccjcddgaaGreatDoor.F
open Go.RowKit Go.Shelf Go.Proofs.YtidgpkccjcddgaaGreatDoorW.PrintLast
theorem smul_succ (q : Rat) (f : List (Int × RatD)) (i : Nat) (h : i < f.length) : smul q (fval (f.take (i + 1))) = smul q (fval (f.take i)) ++ [((f[i]).1, q * rq (f[i]).2)] := by
  rw [List.take_succ_eq_append_getElem h]
  unfold smul fval
  rw [List.map_append, List.map_append]
  rfl
set_option maxHeartbeats 2000000 in
set_option maxRecDepth 100000 in
theorem r6_Scale (s : Bool) (A : Option Addr) (c : Nat) (xs : List Int) (B : Option Addr) (d : Nat) (ys : List Int) (E : Option Addr) (j : Nat) (f : List (Int × RatD)) (w : World) (hn : In w A c xs) (mn : xs.length ≤ 137438953472) (hd : In w B d ys) (md : ys.length ≤ 137438953472) (hf : FRaw w E j f)
    (hq : 2 * mf (smul (rv s xs ys) (fval f)) + 5 * f.length ≤ 137438953471) :
    Calls Tryz.prog 263 #[.agg #[.bool s, .slice A xs.length c, .slice B ys.length d], .slice E f.length j] w (ToldFm w (nform (smul (rv s xs ys) (fval f)))) := by
  have hlf := hf.len
  obtain ⟨W0, hW⟩ : ∃ X, X = w.alloc (.cells #[.bool s, .slice A xs.length c, .slice B ys.length d] 43) := ⟨_, rfl⟩
  have HF0 := Lib.hid ((Fr.refl w).box [.bool s, .slice A xs.length c, .slice B ys.length d] 43)
  have hs0 := HF0.out.ltN 0 rfl
  have hb1 := HF0.out.cellN 0 rfl 0 rfl
  have hb2 := HF0.out.cellN 0 rfl 1 rfl
  have hb3 := HF0.out.cellN 0 rfl 2 rfl
  have HB0 := Lib.hid HF0.out.bel
  have HW := Lib.hid hW
  change w.heap.size < (w.alloc (.cells #[.bool s, .slice A xs.length c, .slice B ys.length d] 43)).heap.size at hs0
  change (w.alloc (.cells #[.bool s, .slice A xs.length c, .slice B ys.length d] 43)).cell? _ = _ at hb1 hb2 hb3
  change Hid (Below _ w (w.alloc (.cells #[.bool s, .slice A xs.length c, .slice B ys.length d] 43))) at HB0
  rw [← hW] at hs0 hb1 hb2 hb3 HB0
  have hN := Lib.hid (show ∀ (W : World) (v : Value), OwnF W W0.heap.size v (smul (rv s xs ys) (fval f)) → ∃ (A1 : Option Addr) (c1 : Nat), v = .slice A1 f.length c1 ∧ Calls Tryz.prog 59 #[.slice A1 f.length c1] W (ToldFm W (nform (smul (rv s xs ys) (fval f)))) from fun W v h => by
    obtain ⟨A1, c1, rfl, h1⟩ := h.fin
    have hl : (smul (rv s xs ys) (fval f)).length = f.length := by rw [smul_length, fval_length]
    have h2 := r6_Norm A1 c1 _ W (h1.raw (by rw [hl]; exact hq))
    rw [fval_can, List.length_map, hl] at h2
    exact ⟨A1, c1, by rw [hl], h2⟩)
  have hM := Lib.hid (fun (W : World) (hb : Below W0.heap.size W0 W) (t : Bool) (F : Option Addr) (e : Nat) (us : List Int) (G : Option Addr) (l : Nat) (vs : List Int) => r3_Mul s A c xs B d ys t F e us G l vs W ((hn.below HB0.out).below hb) mn ((hd.below HB0.out).below hb) md)
  have hR := Lib.hid (hf.row.below HB0.out)
  have hG := Lib.hid (show ∀ m ∈ f, Good 137438953472 m.2 from fun m hm => (hf.good m hm).mono (by have h1 : wtm m ≤ (f.map wtm).sum := le_sum hm; have h2 := wt_le m; have := hf.sum; omega))
  have hQ := Lib.hid (show ∀ m ∈ f, QL (rv s xs ys * rq m.2) from fun m hm => ql_mem (l := smul (rv s xs ys) (fval f)) (by omega) (m := (m.1, rv s xs ys * rq m.2)) (List.mem_map.2 ⟨valM m, List.mem_map.2 ⟨m, hm, rfl⟩, rfl⟩))
  obtain ⟨q, hq0⟩ : ∃ q, q = rv s xs ys := ⟨_, rfl⟩
  rw [← hq0] at hN hM hQ ⊢
  clear hq0 hq hn hd hf hW HF0
  go_enter Tryz.func263, Tryz.ntmps263
  go_wp2
  go_loopg [5, 6] f.length (fun gg s5 s6 wr => ∃ (i : Nat) (v : Value), i + gg = f.length ∧ s6 = .int .i64 i ∧ v = s5 ∧ Hid (OwnF wr W0.heap.size v (smul q (fval (f.take i)))) ∧ Hid (Below W0.heap.size W0 wr))
  case atStart => exact ⟨0, _, by omega, rfl, rfl, OwnF.nil _ _, by have := HW.out; subst this; exact Below.refl _ _⟩
  case round =>
    obtain ⟨i, v, hg, rfl, rfl, HO, HB⟩ := hrel
    by_cases hlt : i < f.length
    · have hltz : (i : Int) < (f.length : Int) := by omega
      have HS := Lib.hid (smul_succ q f i hlt)
      obtain ⟨ad, BB, cc, DD, dd, rfl, j1, j2, j3, j4, hq⟩ := row_mono hR.out i hlt
      have gm := hG.out f[i] (List.getElem_mem hlt)
      have hQp := hQ.out f[i] (List.getElem_mem hlt)
      generalize f[i] = m at *
      obtain ⟨u, ⟨sb, us⟩, es⟩ := m
      have gn := gm.mn
      have gd := gm.md
      have HQ1 := Lib.hid (hq.num gm)
      have HQ2 := Lib.hid (hq.den gm)
      have hMp := Lib.hid (fun (W : World) (hb : Below W0.heap.size W0 W) => hM.out W hb sb BB cc us DD dd es (HQ1.out.below hb) (by omega) (HQ2.out.below hb) (by omega))
      rw [show rv sb us es = rq ((sb, us), es) from rfl] at hMp
      dsimp only at hQp HS
      obtain ⟨p, hp⟩ : ∃ p, p = q * rq ((sb, us), es) := ⟨_, rfl⟩
      rw [← hp] at hMp hQp HS
      clear hp hq gm gn gd HQ1 HQ2
      have hnl : (smul q (fval (f.take i))).length = i := by rw [smul_length, fval_length, List.length_take]; omega
      have HF : Hid (Fr W0 wr []) := ⟨HB.out, fun b hb => by cases hb⟩
      clear HB
      go_wp2_with fail
      replace HO := Lib.hid (HO.out.below (Below.drew (Below.refl _ _)))
      have HF_ := Lib.hid HF.out.drew
      clear HF
      have HF := HF_
      clear HF_
      refine start_ (n := 17) (S := fun w' => w'.cell? (⟨w.heap.size, 0, none⟩) = some (.bool s) ∧ w'.cell? (⟨w.heap.size, 1, none⟩) = some (.slice A xs.length c) ∧ w'.cell? (⟨w.heap.size, 2, none⟩) = some (.slice B ys.length d) ∧ w'.cell? (ad.add (i * 4)) = some (.int .i64 u) ∧ w'.cell? (nxt (ad.add (i * 4)) 1) = some (.bool sb) ∧ w'.cell? (nxt (ad.add (i * 4)) 2) = some (.slice BB us.length cc) ∧ w'.cell? (nxt (ad.add (i * 4)) 3) = some (.slice DD es.length dd)) (ds := [15]) #[false, false, false, false, false, false, false, false, false, false, false, false, false, false, false, false, false] (by kernel_rfl) rfl rfl ⟨cell_below HF.out.bel hb1, cell_below HF.out.bel hb2, cell_below HF.out.bel hb3, cell_below HF.out.bel j1, cell_below HF.out.bel j2, cell_below HF.out.bel j3, cell_below HF.out.bel j4⟩ (fun hHeld => ?_)
      generalize World.drew _ = W at *
      refine pu_ (v := ?_) (a' := ?_) 0 (some 13) rfl rfl ?_ ?_ ?_
      rotate_left; · intro w'; go_simp; with_reducible rfl
      rotate_left; · simp only [Act.put, s1, s2, s3]; rfl
      refine pu_ (v := ?_) (a' := ?_) 1 (some 14) rfl rfl ?_ ?_ ?_
      rotate_left; · intro w'; go_simp; with_reducible rfl
      rotate_left; · simp only [Act.put, s1, s2, s3]; rfl
      refine pu_ (v := ?_) (a' := ?_) 2 (some 15) rfl rfl ?_ ?_ ?_
      rotate_left; · intro w'; go_simp; with_reducible rfl
      rotate_left; · simp only [Act.put, s1, s2, s3]; rfl
      refine pu_ (v := ?_) (a' := ?_) 3 (some 16) rfl rfl ?_ ?_ ?_
      rotate_left; · intro w'; go_simp; with_reducible rfl
      rotate_left; · simp only [Act.put, s1, s2, s3]; rfl
      refine pu_ (v := ?_) (a' := ?_) 4 (some 17) rfl rfl ?_ ?_ ?_
      rotate_left; · intro w'; go_simp; with_reducible rfl
      rotate_left; · simp only [Act.put, s1, s2, s3]; rfl
      refine pu_ (v := ?_) (a' := ?_) 7 (some 20) rfl rfl ?_ ?_ ?_
      rotate_left; · intro w'; go_simp; with_reducible rfl
      rotate_left; · simp only [Act.put, s1, s2, s3]; rfl
      refine pu_ (v := ?_) (a' := ?_) 8 (some 21) rfl rfl ?_ ?_ ?_
      rotate_left; · intro w'; go_simp; with_reducible rfl
      rotate_left; · simp only [Act.put, s1, s2, s3]; rfl
      refine pu_ (v := ?_) (a' := ?_) 9 (some 22) rfl rfl ?_ ?_ ?_
      rotate_left; · intro w'; go_simp; with_reducible rfl
      rotate_left; · simp only [Act.put, s1, s2, s3]; rfl
      refine pu_ (v := ?_) (a' := ?_) 10 (some 23) rfl rfl ?_ ?_ ?_
      rotate_left; · intro w'; go_simp; with_reducible rfl
      rotate_left; · simp only [Act.put, s1, s2, s3]; rfl
      refine tk_ (v := ?_) (a' := ?_) 5 (some 18) rfl rfl ?_ hHeld ?_ ?_
      rotate_left
      · rintro w' ⟨s0, s1, s2, s3, s4, s5, s6⟩; go_simp; with_reducible rfl
      rotate_left; · simp only [Act.put, s1, s2, s3]; rfl
      refine tk_ (v := ?_) (a' := ?_) 6 (some 19) rfl rfl ?_ hHeld ?_ ?_
      rotate_left
      · rintro w' ⟨s0, s1, s2, s3, s4, s5, s6⟩; go_simp; with_reducible rfl
      rotate_left; · simp only [Act.put, s1, s2, s3]; rfl
      refine tk_ (v := ?_) (a' := ?_) 11 (some 24) rfl rfl ?_ hHeld ?_ ?_
      rotate_left
      · rintro w' ⟨s0, s1, s2, s3, s4, s5, s6⟩; go_simp; with_reducible rfl
      rotate_left; · simp only [Act.put, s1, s2, s3]; rfl
      refine on_ 12 (N := (some 25)) rfl rfl (fun K hK => ?_)
      refine goes_ Tryz.func261 (by kernel_rfl) rfl #[.agg #[.bool s, .slice A xs.length c, .slice B ys.length d], .agg #[.bool sb, .slice BB us.length cc, .slice DD es.length dd]] (by rfl) rfl rfl (by (try simp only [List.map_toArray, List.map_cons, List.map_nil]); first | done | rfl) ?_
      refine (hMp.out W HF.out.bel).mono ?_
      rintro e W1 ⟨A2, c2, B2, d2, rfl, q1, q2, q3⟩
      refine ⟨_, rfl, ?_⟩
      replace HF := Lib.hid (HF.out.below q3)
      replace HO := Lib.hid (HO.out.below q3)
      have Q := Lib.hid (InQ.mk q1 q2)
      clear q1 q2 q3
      refine hK.out _ _ ⟨cell_below HF.out.bel hb1, cell_below HF.out.bel hb2, cell_below HF.out.bel hb3, cell_below HF.out.bel j1, cell_below HF.out.bel j2, cell_below HF.out.bel j3, cell_below HF.out.bel j4⟩ (fun hHeld => ?_)
      clear hK K
      refine norm_ (a' := ?_) ?_ ?_
      rotate_left
      · show Act.put _ (some 25) _ = _
        simp only [Act.put, s1, s2, s3]; rfl
      refine pu_ (v := ?_) (a' := ?_) 13 (some 26) rfl rfl ?_ ?_ ?_
      rotate_left; · intro w'; go_simp; with_reducible rfl
      rotate_left; · simp only [Act.put, s1, s2, s3]; rfl
      refine on_ 14 (N := (some 27)) rfl rfl (fun K hK => ?_)
      refine value_ (v := ?_) (w1 := ?_) (by rfl) rfl ?_ ?_
      rotate_left
      rotate_left
      · go_simp
        first | rfl | (refine ⟨?_, ?_⟩ <;> rfl)
      have hown := Lib.hid (Own.mk (w := W1) (MC.mk u p A2 c2 B2 d2).cells 57)
      have hbe := Lib.hid ((Below.refl _ W1).alloc (Nat.le_refl _) (.cells (MC.mk u p A2 c2 B2 d2).cells.toArray 57))
      have hgg := HF.out.bel.size
      replace HO := Lib.hid (HO.out.below hbe.out)
      replace Q := Lib.hid (Q.out.below hbe.out)
      replace HF := Lib.hid (HF.out.below hbe.out)
      have hsz := hbe.out.size
      refine hK.out _ _ ⟨cell_below HF.out.bel hb1, cell_below HF.out.bel hb2, cell_below HF.out.bel hb3, cell_below HF.out.bel j1, cell_below HF.out.bel j2, cell_below HF.out.bel j3, cell_below HF.out.bel j4⟩ (fun hHeld => ?_)
      clear hK K
      refine norm_ (a' := ?_) ?_ ?_
      rotate_left
      · show Act.put _ (some 27) _ = _
        simp only [Act.put, s1, s2, s3]; rfl
      obtain ⟨g, hg0⟩ : ∃ g, g = W1.heap.size := ⟨_, rfl⟩
      obtain ⟨W2, hV⟩ : ∃ X, X = W1.alloc (.cells (MC.mk u p A2 c2 B2 d2).cells.toArray 57) := ⟨_, rfl⟩
      rw [← hV] at HF HO Q hown hsz
      rw [← hg0] at hown hgg hsz
      rw [show W1.alloc (.cells #[.int .i64 u, .bool (decide (p.num < 0)), .slice A2 (dg p.num.natAbs).length c2, .slice B2 (dg p.den).length d2] 57) = W2 from hV.symm, ← hg0]
      clear hg0 hV hbe
      refine ls_ 15 (N := (some 28)) rfl rfl (fun K hK => ?_)
      obtain ⟨v_, W3, hpush, hO', hS'⟩ := push1 (t := 31) (ty := 31) (r := MC.mk u p A2 c2 B2 d2) Tryz.underlying31 HO.out ⟨Q.out, hQp⟩ hown.out (by omega) (by omega)
      refine push_ (by rfl) rfl rfl rfl rfl hpush ?_
      clear hpush
      have HB2 := Lib.hid (HF.out.bel.trans hS'.below)
      have HO2 := Lib.hid (show OwnF _ _ _ _ from hO')
      rw [show (MC.mk u p A2 c2 B2 d2).vq = (u, p) from rfl, ← HS.out] at HO2
      clear hO' hS' HO HF Q
      refine hK.out _ _ ?_
      clear hK K
      refine norm_ (a' := ?_) ?_ ?_
      rotate_left
      · show Act.put _ (some 28) _ = _
        simp only [Act.put, s1, s2, s3]; rfl
      refine pu_ (v := ?_) (a' := ?_) 16 (some 5) rfl rfl ?_ ?_ ?_
      rotate_left; · intro w'; go_simp; with_reducible rfl
      rotate_left; · simp only [Act.put, s1, s2, s3]; rfl
      refine done_ (by kernel_rfl) ?_
      go_wp2
      go_roundg (f.length - (i + 1))
      case measure => omega
      case rel => exact ⟨i + 1, _, by omega, by go_num, rfl, HO2, HB2⟩
    · have hltz : ¬ (i : Int) < (f.length : Int) := by omega
      rw [List.take_of_length_le (by omega)] at HO
      obtain ⟨A1, c1, rfl, hC⟩ := hN.out wr v HO.out
      have HC := Lib.hid hC
      clear hC HO
      go_wp2_with fail
      refine HC.out.mono ?_
      rintro e W3 ⟨v, rfl, h1, h2⟩
      have HO := Lib.hid (h1.mono (show w.heap.size ≤ wr.heap.size by have := HB.out.size; omega))
      replace HB := Lib.hid (HB.out.trans (h2.mono HB.out.size))
      have HB9 := Lib.hid (HB0.out.trans (HB.out.mono (by omega)))
      clear h1 h2 HC
      go_wp2
      go_ret
      exact ⟨_, rfl, HO.out, HB9.out⟩
end Go.Proofs.YtidgpkccjcddgaaGreatDoor.F
