/- The walk of linear.Deltas: a form's value where the variables' values have deltas, part by part. -/
import Derived.Test.YtchdoignomidjaaDelt
set_option linter.unusedVariables false
set_option linter.unusedSimpArgs false
namespace Go.Proofs.Ytchdoignomidjaa.F
open Go.RowKit Go.Shelf Go.Proofs.YtchdoignomidjaaW.PrintLast

abbrev DelD := RatD × RatD
def kDelta : Knd DelD := kRat.pair kRat
theorem row_delta {w : World} {A : Option Addr} {xs : List DelD} (h : kDelta.Row w A xs) (i : Nat) (hi : i < xs.length) :
    ∃ ad B c D d E j G l, A = some ad ∧ w.cell? (ad.add (i * 6)) = some (.bool xs[i].1.1.1) ∧ w.cell? (nxt (ad.add (i * 6)) 1) = some (.slice B xs[i].1.1.2.length c) ∧ w.cell? (nxt (ad.add (i * 6)) 2) = some (.slice D xs[i].1.2.length d) ∧ w.cell? (nxt (ad.add (i * 6)) 3) = some (.bool xs[i].2.1.1) ∧ w.cell? (nxt (ad.add (i * 6)) 4) = some (.slice E xs[i].2.1.2.length j) ∧ w.cell? (nxt (ad.add (i * 6)) 5) = some (.slice G xs[i].2.2.length l) ∧ LiesQ w xs[i].1 B c D d ∧ LiesQ w xs[i].2 E j G l := by
  obtain ⟨ad, cs, e, hC, hc⟩ := h i hi
  obtain ⟨c1, c2, rfl, h1, h2⟩ := hC
  obtain ⟨B, c, D, d, rfl, hq⟩ := kRat_cells h1
  obtain ⟨E, j, G, l, rfl, hr⟩ := kRat_cells h2
  refine ⟨ad, B, c, D, d, E, j, G, l, e, hc 0 _ rfl, ?_, ?_, ?_, ?_, ?_, hq, hr⟩ <;> rw [add_off _ _ _ (by omega)]
  · exact hc 1 _ rfl
  · exact hc 2 _ rfl
  · exact hc 3 _ rfl
  · exact hc 4 _ rfl
  · exact hc 5 _ rfl
def fsts (vs : List DelD) : List RatD := vs.map Prod.fst
def snds (vs : List DelD) : List RatD := vs.map Prod.snd
theorem tm_in {vs : List DelD} {k : Nat} (hk : k < vs.length) (x : RatD) : tm (fsts vs) ((k : Int), x) = rq x * rq vs[k].1 ∧ tm (snds vs) ((k : Int), x) = rq x * rq vs[k].2 := by
  unfold tm fsts snds
  rw [dif_pos (by simp; omega), dif_pos (by simp; omega)]
  simp
theorem tm_out {vs : List DelD} {v : Int} (hv : ¬ (0 ≤ v ∧ v < vs.length)) (x : RatD) : tm (fsts vs) (v, x) = 0 ∧ tm (snds vs) (v, x) = 0 := by
  unfold tm fsts snds
  rw [dif_neg (by simpa using hv), dif_neg (by simpa using hv)]
  exact ⟨rfl, rfl⟩

set_option maxHeartbeats 2000000 in
set_option maxRecDepth 100000 in
theorem linear_Deltas (A : Option Addr) (c : Nat) (f : List (Int × RatD)) (B : Option Addr) (d : Nat) (vs : List DelD) (w : World) (M : Nat) (h : kMono.Row w A f) (hc : f.length ≤ c) (k : kDelta.Row w B vs) (kc : vs.length ≤ d)
    (hf : ∀ m ∈ f, Good M m.2) (hv : ∀ x ∈ vs, Good M x.1 ∧ Good M x.2) (hp : ∀ m ∈ f, Sz M (tm (fsts vs) m) ∧ Sz M (tm (snds vs) m)) (hs : ∀ i, i ≤ f.length → Sz M (valQ (f.take i) (fsts vs)) ∧ Sz M (valQ (f.take i) (snds vs))) (hM : M ≤ 137438953472) (hl : f.length ≤ 1099511627776) (kl : vs.length ≤ 1099511627776) :
    Calls Try.prog 20 #[.slice A f.length c, .slice B vs.length d] w fun e w' => ToldDl w (valQ f (fsts vs)) (valQ f (snds vs)) e w' := by
  have H1 := Lib.hid h
  have K1 := Lib.hid k
  have HF1 := Lib.hid hf
  have HV1 := Lib.hid hv
  have HP1 := Lib.hid hp
  have HS1 := Lib.hid hs
  have HF := Lib.hid (((Fr.refl w).box [.bool false, .slice none 0 0, .slice none 0 0, .bool false, .slice none 0 0, .slice none 0 0] 37).box [.bool false, .slice none 0 0, .slice none 0 0, .bool false, .slice none 0 0, .slice none 0 0] 37)
  have hsz : (w.alloc (.cells [Value.bool false, .slice none 0 0, .slice none 0 0, .bool false, .slice none 0 0, .slice none 0 0].toArray 37)).heap.size = w.heap.size + 1 := by simp
  rw [hsz] at HF
  clear hsz h k hf hv hp hs
  go_enter Try.func20, Try.ntmps20
  go_wp2
  go_loopg [11] f.length (fun gg s11 wr => ∃ (i : Nat) (s : Bool) (A1 : Option Addr) (c1 : Nat) (xs : List Int) (B1 : Option Addr) (d1 : Nat) (ys : List Int) (t : Bool) (E1 : Option Addr) (j1 : Nat) (us : List Int) (G1 : Option Addr) (l1 : Nat) (zs : List Int), i + gg = f.length ∧ s11 = .int .i64 i ∧ Hid (Fr w wr [(w.heap.size + 1, [.bool s, .slice A1 xs.length c1, .slice B1 ys.length d1, .bool t, .slice E1 us.length j1, .slice G1 zs.length l1]), (w.heap.size, [.bool false, .slice none 0 0, .slice none 0 0, .bool false, .slice none 0 0, .slice none 0 0])]) ∧ Hid (InD wr A1 c1 B1 d1 ((s, xs), ys)) ∧ Hid (InD wr E1 j1 G1 l1 ((t, us), zs)) ∧ xs.length ≤ M ∧ ys.length ≤ M ∧ us.length ≤ M ∧ zs.length ≤ M ∧ Hid (rv s xs ys = valQ (f.take i) (fsts vs)) ∧ Hid (rv t us zs = valQ (f.take i) (snds vs)))
  case atStart => exact ⟨0, false, none, 0, [], none, 0, [], false, none, 0, [], none, 0, [], by omega, rfl, HF, ⟨In.nil _ _ _, In.nil _ _ _⟩, ⟨In.nil _ _ _, In.nil _ _ _⟩, Nat.zero_le _, Nat.zero_le _, Nat.zero_le _, Nat.zero_le _, by show _ = _; rfl, by show _ = _; rfl⟩
  case round =>
    clear HF
    obtain ⟨i, s, A1, c1, xs, B1, d1, ys, t, E1, j1, us, G1, l1, zs, hg, rfl, HF, HX, HY, lx, ly, lu, lz, HE, HG⟩ := hrel
    by_cases hlt : i < f.length
    · have hltz : (i : Int) < (f.length : Int) := by omega
      obtain ⟨ad, BB, cc, DD, dd, rfl, h1, h2, h3, h4, hq⟩ := row_mono H1.out i hlt
      have gm := HF1.out f[i] (List.getElem_mem hlt)
      have pm := HP1.out f[i] (List.getElem_mem hlt)
      have pm1 := Lib.hid pm.1
      have pm2 := Lib.hid pm.2
      clear pm
      have HE2 := Lib.hid (valQ_succ f (fsts vs) i hlt)
      have HG2 := Lib.hid (valQ_succ f (snds vs) i hlt)
      generalize f[i] = m at *
      obtain ⟨v, ⟨sb, ms⟩, es⟩ := m
      have gn := gm.mn
      have gd := gm.md
      have q1 := cell_below HF.out.bel h1
      have q2 := cell_below HF.out.bel h2
      have q3 := cell_below HF.out.bel h3
      have q4 := cell_below HF.out.bel h4
      have HQ := Lib.hid (hq.inD gm)
      clear h1 h2 h3 h4 hq gm
      by_cases hin : 0 ≤ v ∧ v < (vs.length : Int)
      · obtain ⟨k, rfl⟩ : ∃ k : Nat, v = k := ⟨v.toNat, by omega⟩
        have hk : k < vs.length := by omega
        have hkz := hin.2
        have hk0 := hin.1
        have e0 := Lib.hid (tm_in hk ((sb, ms), es))
        rw [e0.out.1] at HE2 pm1
        rw [e0.out.2] at HG2 pm2
        clear e0 hin
        obtain ⟨bd, VB, vc, WB, wc, XB, xc, YB, yc, rfl, h1, h2, h3, h4, h5, h6, hq, hr⟩ := row_delta K1.out k hk
        have gv := HV1.out vs[k] (List.getElem_mem hk)
        generalize vs[k] = x at *
        obtain ⟨⟨⟨xb, xn⟩, xd⟩, ⟨⟨yb, yn⟩, yd⟩⟩ := x
        have hR1 := Lib.hid (hq.inD gv.1)
        have hR2 := Lib.hid (hr.inD gv.2)
        have gvn := gv.1.mn
        have gvd := gv.1.md
        have gwn := gv.2.mn
        have gwd := gv.2.md
        clear hq hr gv
        have HF2 := HF
        replace HF := Lib.hid (HF.out.box [.int .i64 (k : Int), .bool sb, .slice BB ms.length cc, .slice DD es.length dd] 75)
        have hgw : w.heap.size + 1 < wr.heap.size := HF2.out.ltN 0 rfl
        have hal := Lib.hid ((Below.refl _ wr).alloc (Nat.le_refl _) (.cells #[.int .i64 (k : Int), .bool sb, .slice BB ms.length cc, .slice DD es.length dd] 75))
        replace HX := Lib.hid (HX.out.below hal.out)
        replace HY := Lib.hid (HY.out.below hal.out)
        go_wp2_with fail
        clear hal HF2
        rw [show [Value.int .i64 (k : Int), .bool sb, .slice BB ms.length cc, .slice DD es.length dd].toArray = #[Value.int .i64 (k : Int), .bool sb, .slice BB ms.length cc, .slice DD es.length dd] from rfl] at HF
        generalize wr.alloc (Obj.cells #[Value.int .i64 (k : Int), .bool sb, .slice BB ms.length cc, .slice DD es.length dd] 75) = W at *
        have hMul := Lib.hid (fun (W : World) (hb : Below w.heap.size w W) => delta_Scale sb BB cc ms DD dd es xb VB vc xn WB wc xd yb XB xc yn YB yc yd W (HQ.out.num.below hb) (by show ms.length ≤ _; omega) (HQ.out.den.below hb) (by show es.length ≤ _; omega) (hR1.out.num.below hb) (by show xn.length ≤ _; omega) (hR1.out.den.below hb) (by show xd.length ≤ _; omega) (hR2.out.num.below hb) (by show yn.length ≤ _; omega) (hR2.out.den.below hb) (by show yd.length ≤ _; omega))
        rw [show rv sb ms es = rq ((sb, ms), es) from rfl, show rv xb xn xd = rq ((xb, xn), xd) from rfl, show rv yb yn yd = rq ((yb, yn), yd) from rfl] at hMul
        generalize rq ((sb, ms), es) * rq ((xb, xn), xd) = p at *
        generalize rq ((sb, ms), es) * rq ((yb, yn), yd) = r at *
        have lp := pm1.out.len
        have lr := pm2.out.len
        have hAdd := Lib.hid (fun (W : World) (k1 : InD W A1 c1 B1 d1 ((s, xs), ys)) (k2 : InD W E1 j1 G1 l1 ((t, us), zs)) (E : Option Addr) (j : Nat) (G : Option Addr) (l : Nat) (k3 : InQ W E j G l p) (E' : Option Addr) (j' : Nat) (G' : Option Addr) (l' : Nat) (k4 : InQ W E' j' G' l' r) => delta_Add s A1 c1 xs B1 d1 ys t E1 j1 us G1 l1 zs (decide (p.num < 0)) E j (dg p.num.natAbs) G l (dg p.den) (decide (r.num < 0)) E' j' (dg r.num.natAbs) G' l' (dg r.den) W k1.num (by omega) k1.den (by omega) k2.num (by omega) k2.den (by omega) k3.num (by omega) k3.den (by omega) k4.num (by omega) k4.den (by omega))
        rw [HE.out, HG.out, rv_can, rv_can, ← HE2.out, ← HG2.out] at hAdd
        have sq := HS1.out (i + 1) (by omega)
        have sq1 := Lib.hid sq.1
        have sq2 := Lib.hid sq.2
        clear sq
        obtain ⟨q, hq0⟩ : ∃ q, q = valQ (f.take (i + 1)) (fsts vs) := ⟨_, rfl⟩
        rw [← hq0] at hAdd sq1
        have HQV := Lib.hid hq0
        clear hq0
        obtain ⟨o, hq0⟩ : ∃ q, q = valQ (f.take (i + 1)) (snds vs) := ⟨_, rfl⟩
        rw [← hq0] at hAdd sq2
        have HOV := Lib.hid hq0
        clear hq0
        have lq := sq1.out.len
        have lo := sq2.out.len
        clear HE HE2 HG HG2 pm1 pm2 HQ hR1 hR2 sq1 sq2
        replace HX := Lib.hid (HX.out.below (Below.drew (Below.refl _ _)))
        replace HY := Lib.hid (HY.out.below (Below.drew (Below.refl _ _)))
        have HF_ := Lib.hid HF.out.drew
        clear HF
        have HF := HF_
        clear HF_
        refine start_ (n := 11) (S := fun w' => w'.cell? ⟨w.heap.size + 1, 0, none⟩ = some (.bool s) ∧ w'.cell? ⟨w.heap.size + 1, 1, none⟩ = some (.slice A1 xs.length c1) ∧ w'.cell? ⟨w.heap.size + 1, 2, none⟩ = some (.slice B1 ys.length d1) ∧ w'.cell? ⟨w.heap.size + 1, 3, none⟩ = some (.bool t) ∧ w'.cell? ⟨w.heap.size + 1, 4, none⟩ = some (.slice E1 us.length j1) ∧ w'.cell? ⟨w.heap.size + 1, 5, none⟩ = some (.slice G1 zs.length l1) ∧ w'.cell? ⟨wr.heap.size, 0, none⟩ = some (.int .i64 (k : Int)) ∧ w'.cell? ⟨wr.heap.size, 1, none⟩ = some (.bool sb) ∧ w'.cell? ⟨wr.heap.size, 2, none⟩ = some (.slice BB ms.length cc) ∧ w'.cell? ⟨wr.heap.size, 3, none⟩ = some (.slice DD es.length dd) ∧ w'.cell? (bd.add (k * 6)) = some (.bool xb) ∧ w'.cell? (nxt (bd.add (k * 6)) 1) = some (.slice VB xn.length vc) ∧ w'.cell? (nxt (bd.add (k * 6)) 2) = some (.slice WB xd.length wc) ∧ w'.cell? (nxt (bd.add (k * 6)) 3) = some (.bool yb) ∧ w'.cell? (nxt (bd.add (k * 6)) 4) = some (.slice XB yn.length xc) ∧ w'.cell? (nxt (bd.add (k * 6)) 5) = some (.slice YB yd.length yc)) (ds := [10]) #[false, false, false, false, false, false, false, false, false, false, false] (by kernel_rfl) rfl rfl ⟨HF.out.cellN 1 rfl 0 rfl, HF.out.cellN 1 rfl 1 rfl, HF.out.cellN 1 rfl 2 rfl, HF.out.cellN 1 rfl 3 rfl, HF.out.cellN 1 rfl 4 rfl, HF.out.cellN 1 rfl 5 rfl, HF.out.cellN 0 rfl 0 rfl, HF.out.cellN 0 rfl 1 rfl, HF.out.cellN 0 rfl 2 rfl, HF.out.cellN 0 rfl 3 rfl, cell_below HF.out.bel h1, cell_below HF.out.bel h2, cell_below HF.out.bel h3, cell_below HF.out.bel h4, cell_below HF.out.bel h5, cell_below HF.out.bel h6⟩ (fun hHeld => ?_)
        generalize World.drew _ = W at *
        refine pure_ (i := 1) (N := (some 26)) (v := ?_) (a' := ?_) #[false, true, false, false, false, false, false, false, false, false, false] rfl rfl (by kernel_rfl) (fun _ _ _ h => h) (Or.inl ⟨by rfl, ?_⟩) ?_ ?_
        rotate_left
        · intro w'
          go_simp
          with_reducible rfl
        rotate_left
        · simp only [Act.put, List.setIfInBounds_toArray, List.set_cons_zero, List.set_cons_succ]
          rfl
        refine pure_ (i := 3) (N := (some 28)) (v := ?_) (a' := ?_) #[false, true, false, true, false, false, false, false, false, false, false] rfl rfl (by kernel_rfl) (fun _ _ _ h => h) (Or.inl ⟨by rfl, ?_⟩) ?_ ?_
        rotate_left
        · intro w'
          go_simp
          with_reducible rfl
        rotate_left
        · simp only [Act.put, List.setIfInBounds_toArray, List.set_cons_zero, List.set_cons_succ]
          rfl
        refine pure_ (i := 4) (N := (some 29)) (v := ?_) (a' := ?_) #[false, true, false, true, true, false, false, false, false, false, false] rfl rfl (by kernel_rfl) (fun _ _ _ h => h) (Or.inl ⟨by rfl, ?_⟩) ?_ ?_
        rotate_left
        · intro w'
          go_simp
          with_reducible rfl
        rotate_left
        · simp only [Act.put, List.setIfInBounds_toArray, List.set_cons_zero, List.set_cons_succ]
          rfl
        refine take_ (i := 0) (N := (some 25)) (v := ?_) (a' := ?_) #[true, true, false, true, true, false, false, false, false, false, false] rfl rfl (by kernel_rfl) (fun _ _ _ h => h) (Or.inl ⟨by rfl, ?_⟩) hHeld ?_ ?_
        rotate_left
        · rintro w' ⟨s0, s1, s2, s3, s4, s5, s6, s7, s8, s9, s10, s11, s12, s13, s14, s15⟩
          go_simp
          with_reducible rfl
        rotate_left
        · simp only [Act.put, List.setIfInBounds_toArray, List.set_cons_zero, List.set_cons_succ]
          rfl
        refine take_ (i := 2) (N := (some 27)) (v := ?_) (a' := ?_) #[true, true, true, true, true, false, false, false, false, false, false] rfl rfl (by kernel_rfl) (fun _ _ _ h => h) (Or.inl ⟨by rfl, ?_⟩) hHeld ?_ ?_
        rotate_left
        · rintro w' ⟨s0, s1, s2, s3, s4, s5, s6, s7, s8, s9, s10, s11, s12, s13, s14, s15⟩
          go_simp
          with_reducible rfl
        rotate_left
        · simp only [Act.put, List.setIfInBounds_toArray, List.set_cons_zero, List.set_cons_succ]
          rfl
        refine take_ (i := 5) (N := (some 30)) (v := ?_) (a' := ?_) #[true, true, true, true, true, true, false, false, false, false, false] rfl rfl (by kernel_rfl) (fun _ _ _ h => h) (Or.inl ⟨by rfl, ?_⟩) hHeld ?_ ?_
        rotate_left
        · rintro w' ⟨s0, s1, s2, s3, s4, s5, s6, s7, s8, s9, s10, s11, s12, s13, s14, s15⟩
          go_simp
          with_reducible rfl
        rotate_left
        · simp only [Act.put, List.setIfInBounds_toArray, List.set_cons_zero, List.set_cons_succ]
          rfl
        refine pure_ (i := 6) (N := (some 31)) (v := ?_) (a' := ?_) #[true, true, true, true, true, true, true, false, false, false, false] rfl rfl (by kernel_rfl) (fun _ _ _ h => h) (Or.inl ⟨by rfl, ?_⟩) ?_ ?_
        rotate_left
        · intro w'
          go_simp
          with_reducible rfl
        rotate_left
        · simp only [Act.put, List.setIfInBounds_toArray, List.set_cons_zero, List.set_cons_succ]
          rfl
        refine take_ (i := 7) (N := (some 32)) (v := ?_) (a' := ?_) #[true, true, true, true, true, true, true, true, false, false, false] rfl rfl (by kernel_rfl) (fun _ _ _ h => h) (Or.inl ⟨by rfl, ?_⟩) hHeld ?_ ?_
        rotate_left
        · rintro w' ⟨s0, s1, s2, s3, s4, s5, s6, s7, s8, s9, s10, s11, s12, s13, s14, s15⟩
          go_simp
          with_reducible rfl
        rotate_left
        · simp only [Act.put, List.setIfInBounds_toArray, List.set_cons_zero, List.set_cons_succ]
          rfl
        refine one_ (i := 8) (N := (some 33)) #[true, true, true, true, true, true, true, true, true, false, false] rfl rfl (by kernel_rfl) (by decide) (fun K hK => ?_)
        refine goes_ Try.func65 (by kernel_rfl) rfl #[.agg #[.bool sb, .slice BB ms.length cc, .slice DD es.length dd], .agg #[.bool xb, .slice VB xn.length vc, .slice WB xd.length wc, .bool yb, .slice XB yn.length xc, .slice YB yd.length yc]] (by rfl) rfl rfl (by (try simp only [List.map_toArray, List.map_cons, List.map_nil]); first | done | rfl) ?_
        refine (hMul.out W HF.out.bel).mono ?_
        rintro e W1 ⟨A2, c2, B2, d2, E2, j2, G2, l2, rfl, q1, q2, q3⟩
        refine ⟨_, rfl, ?_⟩
        replace HF := Lib.hid (HF.out.below q3)
        replace HX := Lib.hid (HX.out.below q3)
        replace HY := Lib.hid (HY.out.below q3)
        have Q1 := Lib.hid q1
        have Q2 := Lib.hid q2
        clear q1 q2 q3
        refine hK.out _ _ ⟨HF.out.cellN 1 rfl 0 rfl, HF.out.cellN 1 rfl 1 rfl, HF.out.cellN 1 rfl 2 rfl, HF.out.cellN 1 rfl 3 rfl, HF.out.cellN 1 rfl 4 rfl, HF.out.cellN 1 rfl 5 rfl, HF.out.cellN 0 rfl 0 rfl, HF.out.cellN 0 rfl 1 rfl, HF.out.cellN 0 rfl 2 rfl, HF.out.cellN 0 rfl 3 rfl, cell_below HF.out.bel h1, cell_below HF.out.bel h2, cell_below HF.out.bel h3, cell_below HF.out.bel h4, cell_below HF.out.bel h5, cell_below HF.out.bel h6⟩ (fun hHeld => ?_)
        clear hK K
        refine norm_ (a' := ?_) ?_ ?_
        rotate_left
        · show Act.put _ (some 33) _ = _
          simp only [Act.put, List.setIfInBounds_toArray, List.set_cons_zero, List.set_cons_succ]
          rfl
        refine one_ (i := 9) (N := (some 34)) #[true, true, true, true, true, true, true, true, true, true, false] rfl rfl (by kernel_rfl) (by decide) (fun K hK => ?_)
        refine goes_ Try.func64 (by kernel_rfl) rfl #[.agg #[.bool s, .slice A1 xs.length c1, .slice B1 ys.length d1, .bool t, .slice E1 us.length j1, .slice G1 zs.length l1], .agg #[.bool (decide (p.num < 0)), .slice A2 (dg p.num.natAbs).length c2, .slice B2 (dg p.den).length d2, .bool (decide (r.num < 0)), .slice E2 (dg r.num.natAbs).length j2, .slice G2 (dg r.den).length l2]] (by rfl) rfl rfl (by (try simp only [List.map_toArray, List.map_cons, List.map_nil]); first | done | rfl) ?_
        refine (hAdd.out W1 HX.out HY.out A2 c2 B2 d2 Q1.out E2 j2 G2 l2 Q2.out).mono ?_
        rintro e W2 ⟨A3, c3, B3, d3, E3, j3, G3, l3, rfl, q1, q2, q3⟩
        refine ⟨_, rfl, ?_⟩
        replace HF := Lib.hid (HF.out.below q3)
        replace Q1 := Lib.hid q1
        replace Q2 := Lib.hid q2
        clear q1 q2 q3 HX HY
        refine hK.out _ _ ⟨HF.out.cellN 1 rfl 0 rfl, HF.out.cellN 1 rfl 1 rfl, HF.out.cellN 1 rfl 2 rfl, HF.out.cellN 1 rfl 3 rfl, HF.out.cellN 1 rfl 4 rfl, HF.out.cellN 1 rfl 5 rfl, HF.out.cellN 0 rfl 0 rfl, HF.out.cellN 0 rfl 1 rfl, HF.out.cellN 0 rfl 2 rfl, HF.out.cellN 0 rfl 3 rfl, cell_below HF.out.bel h1, cell_below HF.out.bel h2, cell_below HF.out.bel h3, cell_below HF.out.bel h4, cell_below HF.out.bel h5, cell_below HF.out.bel h6⟩ (fun hHeld => ?_)
        clear hK K
        refine norm_ (a' := ?_) ?_ ?_
        rotate_left
        · show Act.put _ (some 34) _ = _
          simp only [Act.put, List.setIfInBounds_toArray, List.set_cons_zero, List.set_cons_succ]
          rfl
        refine last_ (i := 10) (N := none) #[true, true, true, true, true, true, true, true, true, true, true] rfl rfl (by kernel_rfl) (by decide) (fun K hK => ?_)
        have hf0 := HF.out.frozenN 1 rfl 0
        have hf1 := HF.out.frozenN 1 rfl 1
        have hf2 := HF.out.frozenN 1 rfl 2
        have hf3 := HF.out.frozenN 1 rfl 3
        have hf4 := HF.out.frozenN 1 rfl 4
        have hf5 := HF.out.frozenN 1 rfl 5
        have hd0 := HF.out.cellN 1 rfl 0 rfl
        have hd1 := HF.out.cellN 1 rfl 1 rfl
        have hd2 := HF.out.cellN 1 rfl 2 rfl
        have hd3 := HF.out.cellN 1 rfl 3 rfl
        have hd4 := HF.out.cellN 1 rfl 4 rfl
        have hd5 := HF.out.cellN 1 rfl 5 rfl
        refine skip_ (w1 := ?_) (by rfl) rfl ?_ ?_
        rotate_left
        · go_simp
          rfl
        have HKU := Lib.hid (KeepU.put6 (HF.out.ownN 1 rfl) (fun y hy => by simp at hy) (y1 := .bool (decide (q.num < 0))) (y2 := .slice A3 (dg q.num.natAbs).length c3) (y3 := .slice B3 (dg q.den).length d3) (y4 := .bool (decide (o.num < 0))) (y5 := .slice E3 (dg o.num.natAbs).length j3) (fun y hy => by simp at hy) (.slice G3 (dg o.den).length l3))
        replace Q1 := Lib.hid (Q1.out.keep HKU.out)
        replace Q2 := Lib.hid (Q2.out.keep HKU.out)
        replace HF := Lib.hid (HF.out.put6 1 rfl (by omega) (by simp; omega) (.bool (decide (q.num < 0))) (.slice A3 (dg q.num.natAbs).length c3) (.slice B3 (dg q.den).length d3) (.bool (decide (o.num < 0))) (.slice E3 (dg o.num.natAbs).length j3) (.slice G3 (dg o.den).length l3))
        refine hK.out _ _ ?_
        clear hK K
        refine done_ (by kernel_rfl) ?_
        go_wp2
        go_roundg (f.length - (i + 1))
        case measure => omega
        case rel => exact ⟨i + 1, decide (q.num < 0), A3, c3, dg q.num.natAbs, B3, d3, dg q.den, decide (o.num < 0), E3, j3, dg o.num.natAbs, G3, l3, dg o.den, by omega, by go_num, HF.out.tail, ⟨Q1.out.num, Q1.out.den⟩, ⟨Q2.out.num, Q2.out.den⟩, by omega, by omega, by omega, by omega, (rv_can q).trans HQV.out, (rv_can o).trans HOV.out⟩
      · have e0 := tm_out hin ((sb, ms), es)
        have HE3 : Hid (rv s xs ys = valQ (f.take (i + 1)) (fsts vs)) := by
          show _ = _
          rw [HE2.out, e0.1, HE.out]; exact (Rat.add_zero _).symm
        have HG3 : Hid (rv t us zs = valQ (f.take (i + 1)) (snds vs)) := by
          show _ = _
          rw [HG2.out, e0.2, HG.out]; exact (Rat.add_zero _).symm
        clear e0 HE HE2 HG HG2 pm1 pm2
        replace HF := Lib.hid (HF.out.box [.int .i64 v, .bool sb, .slice BB ms.length cc, .slice DD es.length dd] 75)
        have hal := Lib.hid ((Below.refl _ wr).alloc (Nat.le_refl _) (.cells #[.int .i64 v, .bool sb, .slice BB ms.length cc, .slice DD es.length dd] 75))
        by_cases h0 : 0 ≤ v
        · have h1 : ¬ v < (vs.length : Int) := fun h => hin ⟨h0, h⟩
          go_wp2
          go_roundg (f.length - (i + 1))
          case measure => omega
          case rel => exact ⟨i + 1, s, A1, c1, xs, B1, d1, ys, t, E1, j1, us, G1, l1, zs, by omega, by go_num, HF.out.tail, HX.out.below hal.out, HY.out.below hal.out, lx, ly, lu, lz, HE3, HG3⟩
        · go_wp2
          go_roundg (f.length - (i + 1))
          case measure => omega
          case rel => exact ⟨i + 1, s, A1, c1, xs, B1, d1, ys, t, E1, j1, us, G1, l1, zs, by omega, by go_num, HF.out.tail, HX.out.below hal.out, HY.out.below hal.out, lx, ly, lu, lz, HE3, HG3⟩
    · have hltz : ¬ (i : Int) < (f.length : Int) := by omega
      have HE3 : Hid (rv s xs ys = valQ f (fsts vs)) := by
        show _ = _
        rw [HE.out, List.take_of_length_le (by omega)]
      have HG3 : Hid (rv t us zs = valQ f (snds vs)) := by
        show _ = _
        rw [HG.out, List.take_of_length_le (by omega)]
      clear HE HG
      have hN := Lib.hid (fun (W : World) (hb : Below wr.heap.size wr W) => delta_Norm s A1 c1 xs B1 d1 ys t E1 j1 us G1 l1 zs W (HX.out.num.below hb) (by show xs.length ≤ _; omega) (HX.out.den.below hb) (by show ys.length ≤ _; omega) (HY.out.num.below hb) (by show us.length ≤ _; omega) (HY.out.den.below hb) (by show zs.length ≤ _; omega))
      rw [HE3.out, HG3.out] at hN
      obtain ⟨q, hq0⟩ : ∃ q, q = valQ f (fsts vs) := ⟨_, rfl⟩
      rw [← hq0] at hN
      have HQV := Lib.hid hq0
      clear hq0
      obtain ⟨o, hq0⟩ : ∃ q, q = valQ f (snds vs) := ⟨_, rfl⟩
      rw [← hq0] at hN
      have HOV := Lib.hid hq0
      clear hq0
      have hc0 := HF.out.cellN 0 rfl 0 rfl
      have hc1 := HF.out.cellN 0 rfl 1 rfl
      have hc2 := HF.out.cellN 0 rfl 2 rfl
      have hc3 := HF.out.cellN 0 rfl 3 rfl
      have hc4 := HF.out.cellN 0 rfl 4 rfl
      have hc5 := HF.out.cellN 0 rfl 5 rfl
      go_wp2_with fail
      refine (hN.out _ (Below.refl _ _)).mono ?_
      rintro e W1 ⟨A2, c2, B2, d2, E2, j2, G2, l2, rfl, q1, q2, q3⟩
      replace HF := Lib.hid (HF.out.below q3)
      have Q1 := Lib.hid q1
      have Q2 := Lib.hid q2
      clear q1 q2 q3 hc0 hc1 hc2 hc3 hc4 hc5 hN HX HY
      have hf0 := HF.out.frozenN 1 rfl 0
      have hf1 := HF.out.frozenN 1 rfl 1
      have hf2 := HF.out.frozenN 1 rfl 2
      have hf3 := HF.out.frozenN 1 rfl 3
      have hf4 := HF.out.frozenN 1 rfl 4
      have hf5 := HF.out.frozenN 1 rfl 5
      have hd0 := HF.out.cellN 1 rfl 0 rfl
      have hd1 := HF.out.cellN 1 rfl 1 rfl
      have hd2 := HF.out.cellN 1 rfl 2 rfl
      have hd3 := HF.out.cellN 1 rfl 3 rfl
      have hd4 := HF.out.cellN 1 rfl 4 rfl
      have hd5 := HF.out.cellN 1 rfl 5 rfl
      have HE := Lib.hid (end_delta HF.out.tail (fun y hy => by simp at hy) (by simp) (by omega) Q1.out Q2.out rfl)
      generalize decide (q.num < 0) = b at HE ⊢
      generalize decide (o.num < 0) = b2 at HE ⊢
      go_wp2
      obtain ⟨f1, f2⟩ := HE.out
      refine post_own f2 rfl rfl rfl Try.underlying37 rfl (by kernel_rfl) ?_
      rw [← HQV.out, ← HOV.out]
      exact f1
end Go.Proofs.Ytchdoignomidjaa.F
