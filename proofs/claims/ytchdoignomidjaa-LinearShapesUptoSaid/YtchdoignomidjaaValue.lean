/- The walk of linear.Value: a form's value is the sum of its terms that have values. -/
import Derived.Test.YtchdoignomidjaaMeas
import Derived.Test.YtchdoignomidjaaOpen
set_option linter.unusedVariables false
set_option linter.unusedSimpArgs false
namespace Go.Proofs.Ytchdoignomidjaa.F
open Go.RowKit Go.Shelf Go.Proofs.YtchdoignomidjaaW.PrintLast

/-- a rational that lies in memory: what it is worth; its limbs are limbs, and not too many -/
def rq (x : RatD) : Rat := rv x.1.1 x.1.2 x.2
structure Good (b : Nat) (x : RatD) : Prop where
  ln : Lim x.1.2
  ld : Lim x.2
  mn : x.1.2.length ≤ b
  md : x.2.length ≤ b
theorem LiesQ.num {w : World} {x : RatD} {B : Option Addr} {c : Nat} {D : Option Addr} {d b : Nat} (h : LiesQ w x B c D d) (g : Good b x) : In w B c x.1.2 := ⟨h.2.2.1, g.ln, h.1⟩
theorem LiesQ.den {w : World} {x : RatD} {B : Option Addr} {c : Nat} {D : Option Addr} {d b : Nat} (h : LiesQ w x B c D d) (g : Good b x) : In w D d x.2 := ⟨h.2.2.2, g.ld, h.2.1⟩
/-- the value of a part -/
def tm (vs : List RatD) (m : Int × RatD) : Rat := if h : 0 ≤ m.1 ∧ m.1 < vs.length then rq m.2 * rq (vs[m.1.toNat]'(by omega)) else 0
def valQ (f : List (Int × RatD)) (vs : List RatD) : Rat := f.foldl (fun s m => s + tm vs m) 0
theorem valQ_succ (f : List (Int × RatD)) (vs : List RatD) (i : Nat) (hi : i < f.length) : valQ (f.take (i + 1)) vs = valQ (f.take i) vs + tm vs f[i] := by
  unfold valQ
  rw [List.take_succ_eq_append_getElem hi, List.foldl_append]; rfl
/-- the cells of an element, as a load asks for them -/
abbrev nxt (a : Addr) (j : Nat) : Addr := ⟨a.block, a.off + j, none⟩
theorem add_off (a : Addr) (k j : Nat) (hj : 0 < j) : nxt (a.add k) j = a.add (k + j) := by
  rw [← add_add]
  show _ = if j = 0 then _ else _
  rw [if_neg (by omega)]
theorem row_rat {w : World} {A : Option Addr} {xs : List RatD} (h : kRat.Row w A xs) (i : Nat) (hi : i < xs.length) :
    ∃ ad B c D d, A = some ad ∧ w.cell? (ad.add (i * 3)) = some (.bool xs[i].1.1) ∧ w.cell? (nxt (ad.add (i * 3)) 1) = some (.slice B xs[i].1.2.length c) ∧ w.cell? (nxt (ad.add (i * 3)) 2) = some (.slice D xs[i].2.length d) ∧ LiesQ w xs[i] B c D d := by
  obtain ⟨ad, B, c, D, d, e, h1, h2, h3, hq⟩ := at_rat h i hi
  exact ⟨ad, B, c, D, d, e, h1, by rw [add_off _ _ _ (by omega)]; exact h2, by rw [add_off _ _ _ (by omega)]; exact h3, hq⟩
theorem row_mono {w : World} {A : Option Addr} {xs : List (Int × RatD)} (h : kMono.Row w A xs) (i : Nat) (hi : i < xs.length) :
    ∃ ad B c D d, A = some ad ∧ w.cell? (ad.add (i * 4)) = some (.int .i64 xs[i].1) ∧ w.cell? (nxt (ad.add (i * 4)) 1) = some (.bool xs[i].2.1.1) ∧ w.cell? (nxt (ad.add (i * 4)) 2) = some (.slice B xs[i].2.1.2.length c) ∧ w.cell? (nxt (ad.add (i * 4)) 3) = some (.slice D xs[i].2.2.length d) ∧ LiesQ w xs[i].2 B c D d := by
  obtain ⟨ad, B, c, D, d, e, h1, h2, h3, h4, hq⟩ := at_mono h i hi
  exact ⟨ad, B, c, D, d, e, h1, by rw [add_off _ _ _ (by omega)]; exact h2, by rw [add_off _ _ _ (by omega)]; exact h3, by rw [add_off _ _ _ (by omega)]; exact h4, hq⟩
theorem Fr.tail {w W : World} {b : Nat × List Value} {bs : List (Nat × List Value)} (h : Fr w W (b :: bs)) : Fr w W bs := ⟨h.1, fun p hp => h.2 p (List.mem_cons_of_mem _ hp)⟩

set_option maxHeartbeats 1000000 in
set_option maxRecDepth 100000 in
theorem linear_Value (A : Option Addr) (c : Nat) (f : List (Int × RatD)) (B : Option Addr) (d : Nat) (vs : List RatD) (w : World) (M : Nat) (h : kMono.Row w A f) (hc : f.length ≤ c) (k : kRat.Row w B vs) (kc : vs.length ≤ d)
    (hf : ∀ m ∈ f, Good M m.2) (hv : ∀ x ∈ vs, Good M x) (hp : ∀ m ∈ f, Sz M (tm vs m)) (hs : ∀ i, i ≤ f.length → Sz M (valQ (f.take i) vs)) (hM : M ≤ 137438953472) (hl : f.length ≤ 1099511627776) (kl : vs.length ≤ 1099511627776) :
    Calls Try.prog 17 #[.slice A f.length c, .slice B vs.length d] w fun e w' => ToldQ w (valQ f vs) e w' := by
  have H1 := Lib.hid h
  have K1 := Lib.hid k
  have HF1 := Lib.hid hf
  have HV1 := Lib.hid hv
  have HP1 := Lib.hid hp
  have HS1 := Lib.hid hs
  have HF := Lib.hid (((Fr.refl w).box [.bool false, .slice none 0 0, .slice none 0 0] 31).box [.bool false, .slice none 0 0, .slice none 0 0] 31)
  have hsz : (w.alloc (.cells #[.bool false, .slice none 0 0, .slice none 0 0] 31)).heap.size = w.heap.size + 1 := by simp
  rw [show [Value.bool false, Value.slice none 0 0, Value.slice none 0 0].toArray = #[Value.bool false, Value.slice none 0 0, Value.slice none 0 0] from rfl, hsz] at HF
  clear hsz h k hf hv hp hs
  go_enter Try.func17, Try.ntmps17
  go_wp2
  go_loopg [11] f.length (fun gg s11 wr => ∃ (i : Nat) (s : Bool) (A1 : Option Addr) (c1 : Nat) (xs : List Int) (B1 : Option Addr) (d1 : Nat) (ys : List Int), i + gg = f.length ∧ s11 = .int .i64 i ∧ Hid (Fr w wr [(w.heap.size + 1, [.bool s, .slice A1 xs.length c1, .slice B1 ys.length d1]), (w.heap.size, [.bool false, .slice none 0 0, .slice none 0 0])]) ∧ Hid (In wr A1 c1 xs) ∧ Hid (In wr B1 d1 ys) ∧ xs.length ≤ M ∧ ys.length ≤ M ∧ Hid (rv s xs ys = valQ (f.take i) vs))
  case atStart => exact ⟨0, false, none, 0, [], none, 0, [], by omega, rfl, HF, In.nil _ _ _, In.nil _ _ _, Nat.zero_le _, Nat.zero_le _, by show _ = _; rfl⟩
  case round =>
    clear HF
    obtain ⟨i, s, A1, c1, xs, B1, d1, ys, hg, rfl, HF, HX, HY, lx, ly, HE⟩ := hrel
    by_cases hlt : i < f.length
    · have hltz : (i : Int) < (f.length : Int) := by omega
      obtain ⟨ad, BB, cc, DD, dd, rfl, h1, h2, h3, h4, hq⟩ := row_mono H1.out i hlt
      have gm := HF1.out f[i] (List.getElem_mem hlt)
      have pm := Lib.hid (HP1.out f[i] (List.getElem_mem hlt))
      have HE2 := Lib.hid (valQ_succ f vs i hlt)
      generalize f[i] = m at *
      obtain ⟨v, ⟨sb, us⟩, es⟩ := m
      have gn := gm.mn
      have gd := gm.md
      have q1 := cell_below HF.out.bel h1
      have q2 := cell_below HF.out.bel h2
      have q3 := cell_below HF.out.bel h3
      have q4 := cell_below HF.out.bel h4
      have HQ1 := Lib.hid (hq.num gm)
      have HQ2 := Lib.hid (hq.den gm)
      clear h1 h2 h3 h4 hq gm
      by_cases hin : 0 ≤ v ∧ v < (vs.length : Int)
      · obtain ⟨k, rfl⟩ : ∃ k : Nat, v = k := ⟨v.toNat, by omega⟩
        have hk : k < vs.length := by omega
        have hkz := hin.2
        have hk0 := hin.1
        have e0 : Hid (tm vs ((k : Int), (sb, us), es) = rq ((sb, us), es) * rq vs[k]) := by
          show _ = _
          unfold tm
          rw [dif_pos hin]
          congr 1
        rw [e0.out] at HE2 pm
        clear e0 hin
        obtain ⟨bd, VB, vc, WB, wc, rfl, h1, h2, h3, hq⟩ := row_rat K1.out k hk
        have gv := HV1.out vs[k] (List.getElem_mem hk)
        generalize vs[k] = x at *
        obtain ⟨⟨xb, xn⟩, xd⟩ := x
        have hR1 := Lib.hid (hq.num gv)
        have hR2 := Lib.hid (hq.den gv)
        have gvn := gv.mn
        have gvd := gv.md
        clear hq gv
        have HF2 := HF
        replace HF := Lib.hid (HF.out.box [.int .i64 (k : Int), .bool sb, .slice BB us.length cc, .slice DD es.length dd] 75)
        have hgw : w.heap.size + 1 < wr.heap.size := HF2.out.ltN 0 rfl
        have hal := Lib.hid ((Below.refl _ wr).alloc (Nat.le_refl _) (.cells #[.int .i64 (k : Int), .bool sb, .slice BB us.length cc, .slice DD es.length dd] 75))
        replace HX := Lib.hid (HX.out.below hal.out)
        replace HY := Lib.hid (HY.out.below hal.out)
        go_wp2_with fail
        clear hal HF2
        rw [show [Value.int .i64 (k : Int), .bool sb, .slice BB us.length cc, .slice DD es.length dd].toArray = #[Value.int .i64 (k : Int), .bool sb, .slice BB us.length cc, .slice DD es.length dd] from rfl] at HF
        generalize wr.alloc (Obj.cells #[Value.int .i64 (k : Int), .bool sb, .slice BB us.length cc, .slice DD es.length dd] 75) = W at *
        have hMul := Lib.hid (fun (W : World) (hb : Below w.heap.size w W) => ratio_Mul sb BB cc us DD dd es xb VB vc xn WB wc xd W (HQ1.out.below hb) (by omega) (HQ2.out.below hb) (by omega) (hR1.out.below hb) (by omega) (hR2.out.below hb) (by omega))
        rw [show rv sb us es = rq ((sb, us), es) from rfl, show rv xb xn xd = rq ((xb, xn), xd) from rfl] at hMul
        generalize rq ((sb, us), es) * rq ((xb, xn), xd) = p at *
        have lp := pm.out.len
        have hAdd := Lib.hid (fun (W : World) (k1 : In W A1 c1 xs) (k2 : In W B1 d1 ys) (E : Option Addr) (j : Nat) (G : Option Addr) (l : Nat) (k3 : InQ W E j G l p) => ratio_Add s A1 c1 xs B1 d1 ys (decide (p.num < 0)) E j (dg p.num.natAbs) G l (dg p.den) W k1 (by omega) k2 (by omega) k3.num (by omega) k3.den (by omega))
        rw [HE.out, rv_can, ← HE2.out] at hAdd
        have sq := Lib.hid (HS1.out (i + 1) (by omega))
        obtain ⟨q, hq0⟩ : ∃ q, q = valQ (f.take (i + 1)) vs := ⟨_, rfl⟩
        rw [← hq0] at hAdd sq
        have HQV := Lib.hid hq0
        clear hq0
        have lq := sq.out.len
        clear HE HE2 pm HQ1 HQ2 hR1 hR2 sq
        have HC := HF
        replace HX := Lib.hid (HX.out.below (Below.drew (Below.refl _ _)))
        replace HY := Lib.hid (HY.out.below (Below.drew (Below.refl _ _)))
        have HF_ := Lib.hid HF.out.drew
        clear HF
        have HF := HF_
        clear HF_
        refine start_ (n := 11) (S := fun w' => w'.cell? ⟨w.heap.size + 1, 0, none⟩ = some (.bool s) ∧ w'.cell? ⟨w.heap.size + 1, 1, none⟩ = some (.slice A1 xs.length c1) ∧ w'.cell? ⟨w.heap.size + 1, 2, none⟩ = some (.slice B1 ys.length d1) ∧ w'.cell? ⟨wr.heap.size, 0, none⟩ = some (.int .i64 (k : Int)) ∧ w'.cell? ⟨wr.heap.size, 1, none⟩ = some (.bool sb) ∧ w'.cell? ⟨wr.heap.size, 2, none⟩ = some (.slice BB us.length cc) ∧ w'.cell? ⟨wr.heap.size, 3, none⟩ = some (.slice DD es.length dd) ∧ w'.cell? (bd.add (k * 3)) = some (.bool xb) ∧ w'.cell? (nxt (bd.add (k * 3)) 1) = some (.slice VB xn.length vc) ∧ w'.cell? (nxt (bd.add (k * 3)) 2) = some (.slice WB xd.length wc)) (ds := [10]) #[false, false, false, false, false, false, false, false, false, false, false] (by kernel_rfl) rfl rfl ⟨HF.out.cellN 1 rfl 0 rfl, HF.out.cellN 1 rfl 1 rfl, HF.out.cellN 1 rfl 2 rfl, HF.out.cellN 0 rfl 0 rfl, HF.out.cellN 0 rfl 1 rfl, HF.out.cellN 0 rfl 2 rfl, HF.out.cellN 0 rfl 3 rfl, cell_below HF.out.bel h1, cell_below HF.out.bel h2, cell_below HF.out.bel h3⟩ (fun hHeld => ?_)
        generalize World.drew _ = W at *
        refine pure_ (i := 1) (N := (some 26)) (v := ?_) (a' := ?_) #[false, true, false, false, false, false, false, false, false, false, false] rfl rfl (by kernel_rfl) (fun _ _ _ h => h) (Or.inl ⟨by rfl, ?_⟩) ?_ ?_
        rotate_left
        · intro w'
          go_simp
          with_reducible rfl
        rotate_left
        · simp only [Act.put, List.setIfInBounds_toArray, List.set_cons_zero, List.set_cons_succ]
          rfl
        refine pure_ (i := 3) (N := (some 28)) (v := ?_) (a' := ?_) #[false, true, false, true, false, false, false, false, false, false, false] rfl rfl (by kernel_rfl) (fun _ _ _ h => h) (Or.inl ⟨by rfl, ?_⟩) ?_ ?_
        rotate_left
        · intro w'
          go_simp
          with_reducible rfl
        rotate_left
        · simp only [Act.put, List.setIfInBounds_toArray, List.set_cons_zero, List.set_cons_succ]
          rfl
        refine pure_ (i := 4) (N := (some 29)) (v := ?_) (a' := ?_) #[false, true, false, true, true, false, false, false, false, false, false] rfl rfl (by kernel_rfl) (fun _ _ _ h => h) (Or.inl ⟨by rfl, ?_⟩) ?_ ?_
        rotate_left
        · intro w'
          go_simp
          with_reducible rfl
        rotate_left
        · simp only [Act.put, List.setIfInBounds_toArray, List.set_cons_zero, List.set_cons_succ]
          rfl
        refine take_ (i := 0) (N := (some 25)) (v := ?_) (a' := ?_) #[true, true, false, true, true, false, false, false, false, false, false] rfl rfl (by kernel_rfl) (fun _ _ _ h => h) (Or.inl ⟨by rfl, ?_⟩) hHeld ?_ ?_
        rotate_left
        · rintro w' ⟨s0, s1, s2, s3, s4, s5, s6, s7, s8, s9⟩
          go_simp
          with_reducible rfl
        rotate_left
        · simp only [Act.put, List.setIfInBounds_toArray, List.set_cons_zero, List.set_cons_succ]
          rfl
        refine take_ (i := 2) (N := (some 27)) (v := ?_) (a' := ?_) #[true, true, true, true, true, false, false, false, false, false, false] rfl rfl (by kernel_rfl) (fun _ _ _ h => h) (Or.inl ⟨by rfl, ?_⟩) hHeld ?_ ?_
        rotate_left
        · rintro w' ⟨s0, s1, s2, s3, s4, s5, s6, s7, s8, s9⟩
          go_simp
          with_reducible rfl
        rotate_left
        · simp only [Act.put, List.setIfInBounds_toArray, List.set_cons_zero, List.set_cons_succ]
          rfl
        refine take_ (i := 5) (N := (some 30)) (v := ?_) (a' := ?_) #[true, true, true, true, true, true, false, false, false, false, false] rfl rfl (by kernel_rfl) (fun _ _ _ h => h) (Or.inl ⟨by rfl, ?_⟩) hHeld ?_ ?_
        rotate_left
        · rintro w' ⟨s0, s1, s2, s3, s4, s5, s6, s7, s8, s9⟩
          go_simp
          with_reducible rfl
        rotate_left
        · simp only [Act.put, List.setIfInBounds_toArray, List.set_cons_zero, List.set_cons_succ]
          rfl
        refine pure_ (i := 6) (N := (some 31)) (v := ?_) (a' := ?_) #[true, true, true, true, true, true, true, false, false, false, false] rfl rfl (by kernel_rfl) (fun _ _ _ h => h) (Or.inl ⟨by rfl, ?_⟩) ?_ ?_
        rotate_left
        · intro w'
          go_simp
          with_reducible rfl
        rotate_left
        · simp only [Act.put, List.setIfInBounds_toArray, List.set_cons_zero, List.set_cons_succ]
          rfl
        refine take_ (i := 7) (N := (some 32)) (v := ?_) (a' := ?_) #[true, true, true, true, true, true, true, true, false, false, false] rfl rfl (by kernel_rfl) (fun _ _ _ h => h) (Or.inl ⟨by rfl, ?_⟩) hHeld ?_ ?_
        rotate_left
        · rintro w' ⟨s0, s1, s2, s3, s4, s5, s6, s7, s8, s9⟩
          go_simp
          with_reducible rfl
        rotate_left
        · simp only [Act.put, List.setIfInBounds_toArray, List.set_cons_zero, List.set_cons_succ]
          rfl
        refine one_ (i := 8) (N := (some 33)) #[true, true, true, true, true, true, true, true, true, false, false] rfl rfl (by kernel_rfl) (by decide) (fun K hK => ?_)
        refine goes_ Try.func61 (by kernel_rfl) rfl #[.agg #[.bool sb, .slice BB us.length cc, .slice DD es.length dd], .agg #[.bool xb, .slice VB xn.length vc, .slice WB xd.length wc]] (by rfl) rfl rfl (by (try simp only [List.map_toArray, List.map_cons, List.map_nil]); first | done | rfl) ?_
        refine (hMul.out W HF.out.bel).mono ?_
        rintro e W1 ⟨A2, c2, B2, d2, rfl, q1, q2, q3⟩
        refine ⟨_, rfl, ?_⟩
        replace HF := Lib.hid (HF.out.below q3)
        replace HX := Lib.hid (HX.out.below q3)
        replace HY := Lib.hid (HY.out.below q3)
        have Q1 := Lib.hid (InQ.mk q1 q2)
        clear q1 q2 q3
        refine hK.out _ _ ⟨HF.out.cellN 1 rfl 0 rfl, HF.out.cellN 1 rfl 1 rfl, HF.out.cellN 1 rfl 2 rfl, HF.out.cellN 0 rfl 0 rfl, HF.out.cellN 0 rfl 1 rfl, HF.out.cellN 0 rfl 2 rfl, HF.out.cellN 0 rfl 3 rfl, cell_below HF.out.bel h1, cell_below HF.out.bel h2, cell_below HF.out.bel h3⟩ (fun hHeld => ?_)
        clear hK K
        refine norm_ (a' := ?_) ?_ ?_
        rotate_left
        · show Act.put _ (some 33) _ = _
          simp only [Act.put, List.setIfInBounds_toArray, List.set_cons_zero, List.set_cons_succ]
          rfl
        refine one_ (i := 9) (N := (some 34)) #[true, true, true, true, true, true, true, true, true, true, false] rfl rfl (by kernel_rfl) (by decide) (fun K hK => ?_)
        refine goes_ Try.func60 (by kernel_rfl) rfl #[.agg #[.bool s, .slice A1 xs.length c1, .slice B1 ys.length d1], .agg #[.bool (decide (p.num < 0)), .slice A2 (dg p.num.natAbs).length c2, .slice B2 (dg p.den).length d2]] (by rfl) rfl rfl (by (try simp only [List.map_toArray, List.map_cons, List.map_nil]); first | done | rfl) ?_
        refine (hAdd.out W1 HX.out HY.out A2 c2 B2 d2 Q1.out).mono ?_
        rintro e W2 ⟨A3, c3, B3, d3, rfl, q1, q2, q3⟩
        refine ⟨_, rfl, ?_⟩
        replace HF := Lib.hid (HF.out.below q3)
        replace Q1 := Lib.hid (InQ.mk q1 q2)
        clear q1 q2 q3 HX HY
        refine hK.out _ _ ⟨HF.out.cellN 1 rfl 0 rfl, HF.out.cellN 1 rfl 1 rfl, HF.out.cellN 1 rfl 2 rfl, HF.out.cellN 0 rfl 0 rfl, HF.out.cellN 0 rfl 1 rfl, HF.out.cellN 0 rfl 2 rfl, HF.out.cellN 0 rfl 3 rfl, cell_below HF.out.bel h1, cell_below HF.out.bel h2, cell_below HF.out.bel h3⟩ (fun hHeld => ?_)
        clear hK K
        refine norm_ (a' := ?_) ?_ ?_
        rotate_left
        · show Act.put _ (some 34) _ = _
          simp only [Act.put, List.setIfInBounds_toArray, List.set_cons_zero, List.set_cons_succ]
          rfl
        refine last_ (i := 10) (N := none) #[true, true, true, true, true, true, true, true, true, true, true] rfl rfl (by kernel_rfl) (by decide) (fun K hK => ?_)
        have hf0 := HF.out.frozenN 1 rfl 0
        have hf1 := HF.out.frozenN 1 rfl 1
        have hf2 := HF.out.frozenN 1 rfl 2
        have hd0 := HF.out.cellN 1 rfl 0 rfl
        have hd1 := HF.out.cellN 1 rfl 1 rfl
        have hd2 := HF.out.cellN 1 rfl 2 rfl
        refine skip_ (w1 := ?_) (by rfl) rfl ?_ ?_
        rotate_left
        · go_simp
          rfl
        replace Q1 := Lib.hid (Q1.out.put3 (HF.out.ownN 1 rfl) (by simp) (a := .bool (decide (q.num < 0))) (by simp) (b := .slice A3 (dg q.num.natAbs).length c3) (by simp) (.slice B3 (dg q.den).length d3))
        replace HF := Lib.hid (HF.out.put3 1 rfl (by omega) (by simp; omega) (.bool (decide (q.num < 0))) (.slice A3 (dg q.num.natAbs).length c3) (.slice B3 (dg q.den).length d3))
        refine hK.out _ _ ?_
        clear hK K
        refine done_ (by kernel_rfl) ?_
        go_wp2
        go_roundg (f.length - (i + 1))
        case measure => omega
        case rel => exact ⟨i + 1, decide (q.num < 0), A3, c3, dg q.num.natAbs, B3, d3, dg q.den, by omega, by go_num, HF.out.tail, Q1.out.num, Q1.out.den, by omega, by omega, (rv_can q).trans HQV.out⟩
      · have e0 : Hid (tm vs (v, (sb, us), es) = 0) := by
          show _ = _
          unfold tm
          rw [dif_neg hin]
        have HE3 : Hid (rv s xs ys = valQ (f.take (i + 1)) vs) := by
          show _ = _
          rw [HE2.out, e0.out, HE.out]; exact (Rat.add_zero _).symm
        clear e0 HE HE2 pm
        replace HF := Lib.hid (HF.out.box [.int .i64 v, .bool sb, .slice BB us.length cc, .slice DD es.length dd] 75)
        have hal := Lib.hid ((Below.refl _ wr).alloc (Nat.le_refl _) (.cells #[.int .i64 v, .bool sb, .slice BB us.length cc, .slice DD es.length dd] 75))
        by_cases h0 : 0 ≤ v
        · have h1 : ¬ v < (vs.length : Int) := fun h => hin ⟨h0, h⟩
          go_wp2
          go_roundg (f.length - (i + 1))
          case measure => omega
          case rel => exact ⟨i + 1, s, A1, c1, xs, B1, d1, ys, by omega, by go_num, HF.out.tail, HX.out.below hal.out, HY.out.below hal.out, lx, ly, HE3⟩
        · go_wp2
          go_roundg (f.length - (i + 1))
          case measure => omega
          case rel => exact ⟨i + 1, s, A1, c1, xs, B1, d1, ys, by omega, by go_num, HF.out.tail, HX.out.below hal.out, HY.out.below hal.out, lx, ly, HE3⟩
    · have hltz : ¬ (i : Int) < (f.length : Int) := by omega
      have HE3 : Hid (rv s xs ys = valQ f vs) := by
        show _ = _
        rw [HE.out, List.take_of_length_le (by omega)]
      clear HE
      have hN := Lib.hid (fun (W : World) (hb : Below wr.heap.size wr W) => ratio_Norm s A1 c1 xs B1 d1 ys W (HX.out.below hb) (by omega) (HY.out.below hb) (by omega))
      rw [HE3.out] at hN
      obtain ⟨q, hq0⟩ : ∃ q, q = valQ f vs := ⟨_, rfl⟩
      rw [← hq0] at hN
      have HQV := Lib.hid hq0
      clear hq0
      have hc0 := HF.out.cellN 0 rfl 0 rfl
      have hc1 := HF.out.cellN 0 rfl 1 rfl
      have hc2 := HF.out.cellN 0 rfl 2 rfl
      go_wp2_with fail
      refine (hN.out _ (Below.refl _ _)).mono ?_
      rintro e W1 ⟨A2, c2, B2, d2, rfl, q1, q2, q3⟩
      replace HF := Lib.hid (HF.out.below q3)
      have Q1 := Lib.hid q1
      have Q2 := Lib.hid q2
      clear q1 q2 q3 hc0 hc1 hc2 hN HX HY
      have hf0 := HF.out.frozenN 1 rfl 0
      have hf1 := HF.out.frozenN 1 rfl 1
      have hf2 := HF.out.frozenN 1 rfl 2
      have hd0 := HF.out.cellN 1 rfl 0 rfl
      have hd1 := HF.out.cellN 1 rfl 1 rfl
      have hd2 := HF.out.cellN 1 rfl 2 rfl
      have HE := Lib.hid (end_rat HF.out.tail (by simp) (by simp) (by omega) Q1.out Q2.out rfl)
      generalize decide (q.num < 0) = b at HE ⊢
      go_wp2
      obtain ⟨f1, f2⟩ := HE.out
      refine post_own f2 rfl rfl rfl Try.underlying31 rfl (by kernel_rfl) ?_
      rw [← HQV.out]
      exact f1
end Go.Proofs.Ytchdoignomidjaa.F
