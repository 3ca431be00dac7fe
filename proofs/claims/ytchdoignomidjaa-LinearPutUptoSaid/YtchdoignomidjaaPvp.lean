import Derived.Test.YtchdoignomidjaaPud
/- Copies in memory: fulcrummem.Nat, Int, Rat. -/
set_option linter.unusedVariables false
set_option linter.unusedSimpArgs false
namespace Go.Proofs.Ytchdoignomidjaa.F
open Go.RowKit Go.Shelf Go.Proofs.YtchdoignomidjaaW.PrintLast

def OwnU (w : World) (B : Nat) (v : Value) (xs : List Int) : Prop := w.ownsRow B 96 1 v xs.length (xs.map (Value.int .u32))
theorem OwnU.nil (w : World) (B : Nat) : OwnU w B (.slice none 0 0) [] := World.ownsRow_nil _ _ _ _
theorem pushU {w : World} {B : Nat} {t ty : TypeId} {v : Value} {xs : List Int} {y : Int} {g : Nat} (ht : Try.prog.underlying t = some (.slice 96)) (h : OwnU w B v xs) (hc : Own w g [.int .u32 y]) (hl : xs.length + 1 ≤ 1099511627776) (hB : B ≤ w.heap.size) :
    ∃ v' w', (Builtin.append_ #[t, t] ty #[v, .slice (some ⟨g, 0, none⟩) 1 1]).run Try.prog w = .ok v' w' ∧ OwnU w' B v' (xs ++ [y]) ∧ Below B w w' := by
  have hi : (Try.prog.info? 96).map (fun i => (i.zero, i.size, i.bytes)) = some (some (.int .u32 0), 1, 4) := by kernel_rfl
  obtain ⟨i, hi0, hz, hs, hby⟩ := info_parts hi
  obtain ⟨v', w', h1, h2, h3, _⟩ := run_append_own (P := Try.prog) w B t ty 96 i (.int .u32 0) 1 4 ht hi0 hz hs hby (by rfl) (by omega) v _ _ h ⟨g, 0, none⟩ 1 1 [.int .u32 y] (by simp) (fun j u hu => by
    have hj := (List.getElem?_eq_some_iff.1 hu).1
    have hj0 : j = 0 := by simpa using hj
    subst hj0
    obtain rfl := Option.some.inj hu
    exact hc.cell 0 (by simp)) (fun u hu => by rw [List.mem_singleton.1 hu]; rfl) (by simp only [maxLen]; omega) (by omega) hB
  refine ⟨v', w', h1, ?_, ?_⟩
  · unfold OwnU
    rw [List.length_append, List.map_append]
    exact h2
  · exact ⟨h3.os, h3.tape, h3.output, h3.size, fun k hk => h3.block k (by omega) fun e => by have := (World.ownsRow.lt h k e.symm).1; omega⟩
theorem OwnU.row {w : World} {B : Nat} {v : Value} {xs : List Int} (h : OwnU w B v xs) : ∃ A c, v = .slice A xs.length c ∧ xs.length ≤ c ∧ Rn w A xs := by
  rcases h.2 with ⟨rfl, h0⟩ | ⟨g, cap, cur, rfl, h2, h3, h4, h5, h6, h7⟩
  · have : xs = [] := List.eq_nil_of_length_eq_zero h0
    subst this
    exact ⟨none, 0, rfl, Nat.le_refl _, Rn.nil _ _⟩
  · refine ⟨_, cap, rfl, h4, fun i hi => ⟨⟨g, 0, none⟩, [.int .u32 xs[i]], rfl, rfl, fun j u hu => ?_⟩⟩
    have hj : j = 0 := by
      have := (List.getElem?_eq_some_iff.1 hu).1
      simpa using this
    subst hj
    obtain rfl := Option.some.inj hu
    have := World.ownsRow.cells h (g := g) rfl i (.int .u32 xs[i]) (by rw [List.getElem?_map, List.getElem?_eq_getElem hi]; rfl)
    rw [show i * (Knd.int IntKind.u32).sz + 0 = i by show i * 1 + 0 = i; omega]
    exact this
theorem OwnU.below {w w' : World} {B : Nat} {v : Value} {xs : List Int} (h : OwnU w B v xs) (hb : Below w.heap.size w w') : OwnU w' B v xs := by
  refine ⟨h.1, ?_⟩
  rcases h.2 with h | ⟨g, cap, cur, h1, h2, h3, h4⟩
  · exact .inl h
  · exact .inr ⟨g, cap, cur, h1, h2, by rw [hb.block g (Array.getElem?_eq_some_iff.1 h3).1]; exact h3, h4⟩

set_option maxHeartbeats 1000000 in
set_option maxRecDepth 100000 in
theorem mem_Nat (A : Option Addr) (c : Nat) (xs : List Int) (w : World) (h : In w A c xs) (hl : xs.length ≤ 549755813888) :
    Calls Try.prog 93 #[.slice A xs.length c] w fun e w' => ∃ A' c', e = .returned (.slice A' xs.length c') ∧ In w' A' c' xs ∧ Below w.heap.size w w' := by
  have H := Lib.hid h.row
  have HL := Lib.hid h.lim
  have hc := h.cap
  clear h
  go_enter Try.func93, Try.ntmps93
  go_wp2
  go_loopg [3, 4] xs.length (fun gg s3 s4 wr => ∃ (i : Nat) (v : Value), i + gg = xs.length ∧ s4 = .int .i64 i ∧ v = s3 ∧ Hid (OwnU wr w.heap.size v (xs.take i)) ∧ Hid (Below w.heap.size w wr))
  case atStart => exact ⟨0, _, by omega, rfl, rfl, OwnU.nil _ _, Below.refl _ _⟩
  case round =>
    obtain ⟨i, v, hg, rfl, rfl, HO, HB⟩ := hrel
    by_cases hlt : i < xs.length
    · have hltz : (i : Int) < (xs.length : Int) := by omega
      obtain ⟨ad, rfl, hcell⟩ := Knd.at_int H.out i hlt
      have hx := cell_below HB.out hcell
      have HS := Lib.hid (show xs.take (i + 1) = xs.take i ++ [xs[i]] from List.take_succ_eq_append_getElem hlt)
      have hvl : (xs.take i).length = i := by rw [List.length_take]; omega
      generalize xs[i] = y at *
      have hal := Lib.hid ((Below.refl _ wr).alloc (Nat.le_refl _) (.cells #[.int .u32 y] 96))
      obtain ⟨v', w', hrun, hO', hS⟩ := pushU (t := 27) (ty := 27) (y := y) Try.underlying27 (HO.out.below hal.out) (Own.mk (w := wr) [.int .u32 y] 96) (by omega) (Nat.le_trans HB.out.size (by simp))
      have HP := Lib.hid hrun
      have HO2 := Lib.hid hO'
      have HB2 := Lib.hid ((HB.out.alloc HB.out.size (.cells #[.int .u32 y] 96)).trans hS)
      rw [← HS.out] at HO2
      clear hrun hO' hS hal HS hcell hvl HO
      go_wp2_with (refine pushL_ rfl rfl rfl rfl HP.out ?_)
      go_roundg (xs.length - (i + 1))
      case measure => omega
      case rel => exact ⟨i + 1, v', by omega, by go_num, rfl, HO2, HB2⟩
    · have hltz : ¬ (i : Int) < (xs.length : Int) := by omega
      have HO2 := Lib.hid (show OwnU wr w.heap.size _ xs by have := HO.out; rwa [List.take_of_length_le (by omega)] at this)
      obtain ⟨A1, c1, rfl, hc1, hrow⟩ := HO2.out.row
      have HR := Lib.hid (show In wr A1 c1 xs from ⟨hrow, HL.out, hc1⟩)
      clear hrow HO HO2
      go_wp2
      go_ret
      exact ⟨_, _, rfl, HR.out, HB.out⟩

set_option maxHeartbeats 1000000 in
set_option maxRecDepth 100000 in
theorem mem_Int (s : Bool) (A : Option Addr) (c : Nat) (xs : List Int) (w : World) (h : In w A c xs) (hl : xs.length ≤ 549755813888) :
    Calls Try.prog 92 #[.agg #[.bool s, .slice A xs.length c]] w fun e w' => ∃ A' c', e = .returned (.agg #[.bool s, .slice A' xs.length c']) ∧ In w' A' c' xs ∧ Below w.heap.size w w' := by
  have hN := Lib.hid (fun (W : World) (hb : Below w.heap.size w W) => mem_Nat A c xs W (h.below hb) hl)
  clear h
  have HF := Lib.hid (((Fr.refl w).box [.bool s, .slice A xs.length c] 29).box [.bool false, .slice none 0 0] 29)
  have hsz : ∀ (w : World) (o : Obj), (w.alloc o).heap.size = w.heap.size + 1 := fun w o => by simp
  simp only [hsz, Nat.add_assoc, Nat.reduceAdd] at HF
  clear hsz
  go_enter Try.func92, Try.ntmps92
  go_wp2_with fail
  generalize World.alloc _ _ = W at HF ⊢
  have HF_ := Lib.hid HF.out.drew
  clear HF
  have HF := HF_
  clear HF_
  refine start_ (n := 7) (S := fun w' => w'.cell? ⟨w.heap.size, 0, none⟩ = some (.bool s) ∧ w'.cell? ⟨w.heap.size, 1, none⟩ = some (.slice A xs.length c)) (ds := []) #[false, false, false, false, false, false, false] (by kernel_rfl) rfl rfl ⟨HF.out.cellN 1 rfl 0 rfl, HF.out.cellN 1 rfl 1 rfl⟩ (fun hHeld => ?_)
  generalize World.drew _ = W at *
  refine pure_ (i := 0) (N := (some 3)) (v := ?_) (a' := ?_) #[true, false, false, false, false, false, false] rfl rfl (by kernel_rfl) (fun _ _ _ h => h) (Or.inl ⟨by rfl, ?_⟩) ?_ ?_
  rotate_left
  · intro w'
    go_simp
    with_reducible rfl
  rotate_left
  · simp only [Act.put, List.setIfInBounds_toArray, List.set_cons_zero, List.set_cons_succ]
    rfl
  refine pure_ (i := 2) (N := (some 5)) (v := ?_) (a' := ?_) #[true, false, true, false, false, false, false] rfl rfl (by kernel_rfl) (fun _ _ _ h => h) (Or.inl ⟨by rfl, ?_⟩) ?_ ?_
  rotate_left
  · intro w'
    go_simp
    with_reducible rfl
  rotate_left
  · simp only [Act.put, List.setIfInBounds_toArray, List.set_cons_zero, List.set_cons_succ]
    rfl
  refine take_ (i := 1) (N := (some 4)) (v := ?_) (a' := ?_) #[true, true, true, false, false, false, false] rfl rfl (by kernel_rfl) (fun _ _ _ h => h) (Or.inl ⟨by rfl, ?_⟩) hHeld ?_ ?_
  rotate_left
  · rintro w' ⟨s0, s1⟩
    go_simp
    with_reducible rfl
  rotate_left
  · simp only [Act.put, List.setIfInBounds_toArray, List.set_cons_zero, List.set_cons_succ]
    rfl
  refine take_ (i := 3) (N := (some 6)) (v := ?_) (a' := ?_) #[true, true, true, true, false, false, false] rfl rfl (by kernel_rfl) (fun _ _ _ h => h) (Or.inl ⟨by rfl, ?_⟩) hHeld ?_ ?_
  rotate_left
  · rintro w' ⟨s0, s1⟩
    go_simp
    with_reducible rfl
  rotate_left
  · simp only [Act.put, List.setIfInBounds_toArray, List.set_cons_zero, List.set_cons_succ]
    rfl
  refine one_ (i := 4) (N := (some 7)) #[true, true, true, true, true, false, false] rfl rfl (by kernel_rfl) (by decide) (fun K hK => ?_)
  refine goes_ Try.func93 (by kernel_rfl) rfl #[.slice A xs.length c] (by rfl) rfl rfl (by (try simp only [List.map_toArray, List.map_cons, List.map_nil]); first | done | rfl) ?_
  refine (hN.out W HF.out.bel).mono ?_
  rintro e W1 ⟨A1, c1, rfl, q1, q2⟩
  refine ⟨_, rfl, ?_⟩
  replace HF := Lib.hid (HF.out.below q2)
  have Q1 := Lib.hid q1
  clear q1 q2 hN
  refine hK.out _ _ ⟨HF.out.cellN 1 rfl 0 rfl, HF.out.cellN 1 rfl 1 rfl⟩ (fun hHeld => ?_)
  clear hK K
  refine norm_ (a' := ?_) ?_ ?_
  rotate_left
  · show Act.put _ (some 7) _ = _
    simp only [Act.put, List.setIfInBounds_toArray, List.set_cons_zero, List.set_cons_succ]
    rfl
  refine pure_ (i := 5) (N := (some 8)) (v := ?_) (a' := ?_) #[true, true, true, true, true, true, false] rfl rfl (by kernel_rfl) (fun _ _ _ h => h) (Or.inl ⟨by rfl, ?_⟩) ?_ ?_
  rotate_left
  · intro w'
    go_simp
    with_reducible rfl
  rotate_left
  · simp only [Act.put, List.setIfInBounds_toArray, List.set_cons_zero, List.set_cons_succ]
    rfl
  refine one_ (i := 6) (N := none) #[true, true, true, true, true, true, true] rfl rfl (by kernel_rfl) (by decide) (fun K hK => ?_)
  have hf0 := HF.out.frozenN 0 rfl 0
  have hf1 := HF.out.frozenN 0 rfl 1
  have hd0 := HF.out.cellN 0 rfl 0 rfl
  have hd1 := HF.out.cellN 0 rfl 1 rfl
  refine skip_ (w1 := ?_) (by rfl) rfl ?_ ?_
  rotate_left
  · go_simp
    rfl
  replace Q1 := Lib.hid (Q1.out.put2 (HF.out.ownN 0 rfl) (by simp) (a := .bool s) (by simp) (.slice A1 xs.length c1))
  replace HF := Lib.hid (HF.out.put2 0 rfl (by omega) (by simp <;> omega) (.bool s) (.slice A1 xs.length c1))
  clear hf0 hf1 hd0 hd1
  refine hK.out _ _ ⟨HF.out.cellN 1 rfl 0 rfl, HF.out.cellN 1 rfl 1 rfl⟩ (fun hHeld => ?_)
  clear hK K
  refine done_ (by kernel_rfl) ?_
  generalize World.setCell _ _ _ = W2 at HF Q1 ⊢
  go_wp2
  exact post_own (HF.out.ownN 0 rfl) rfl rfl rfl Try.underlying29 rfl (by kernel_rfl) ⟨_, _, rfl, Q1.out, HF.out.bel⟩

set_option maxHeartbeats 1000000 in
set_option maxRecDepth 100000 in
theorem mem_Rat (s : Bool) (A : Option Addr) (c : Nat) (xs : List Int) (B : Option Addr) (d : Nat) (ys : List Int) (w : World) (h : In w A c xs) (hl : xs.length ≤ 549755813888) (k : In w B d ys) (kl : ys.length ≤ 549755813888) :
    Calls Try.prog 53 #[.agg #[.bool s, .slice A xs.length c, .slice B ys.length d]] w fun e w' => ∃ A' c' B' d', e = .returned (.agg #[.bool s, .slice A' xs.length c', .slice B' ys.length d']) ∧ In w' A' c' xs ∧ In w' B' d' ys ∧ Below w.heap.size w w' := by
  have hI := Lib.hid (fun (W : World) (hb : Below w.heap.size w W) => mem_Int s A c xs W (h.below hb) hl)
  have hN := Lib.hid (fun (W : World) (hb : Below w.heap.size w W) => mem_Nat B d ys W (k.below hb) kl)
  clear h k
  have HF := Lib.hid (((Fr.refl w).box [.bool s, .slice A xs.length c, .slice B ys.length d] 31).box [.bool false, .slice none 0 0, .slice none 0 0] 31)
  have hsz : ∀ (w : World) (o : Obj), (w.alloc o).heap.size = w.heap.size + 1 := fun w o => by simp
  simp only [hsz, Nat.add_assoc, Nat.reduceAdd] at HF
  clear hsz
  go_enter Try.func53, Try.ntmps53
  go_wp2_with fail
  generalize World.alloc _ _ = W at HF ⊢
  have HF_ := Lib.hid HF.out.drew
  clear HF
  have HF := HF_
  clear HF_
  refine start_ (n := 8) (S := fun w' => w'.cell? ⟨w.heap.size, 0, none⟩ = some (.bool s) ∧ w'.cell? ⟨w.heap.size, 1, none⟩ = some (.slice A xs.length c) ∧ w'.cell? ⟨w.heap.size, 2, none⟩ = some (.slice B ys.length d)) (ds := []) #[false, false, false, false, false, false, false, false] (by kernel_rfl) rfl rfl ⟨HF.out.cellN 1 rfl 0 rfl, HF.out.cellN 1 rfl 1 rfl, HF.out.cellN 1 rfl 2 rfl⟩ (fun hHeld => ?_)
  generalize World.drew _ = W at *
  refine pure_ (i := 0) (N := (some 3)) (v := ?_) (a' := ?_) #[true, false, false, false, false, false, false, false] rfl rfl (by kernel_rfl) (fun _ _ _ h => h) (Or.inl ⟨by rfl, ?_⟩) ?_ ?_
  rotate_left
  · intro w'
    go_simp
    with_reducible rfl
  rotate_left
  · simp only [Act.put, List.setIfInBounds_toArray, List.set_cons_zero, List.set_cons_succ]
    rfl
  refine pure_ (i := 3) (N := (some 6)) (v := ?_) (a' := ?_) #[true, false, false, true, false, false, false, false] rfl rfl (by kernel_rfl) (fun _ _ _ h => h) (Or.inl ⟨by rfl, ?_⟩) ?_ ?_
  rotate_left
  · intro w'
    go_simp
    with_reducible rfl
  rotate_left
  · simp only [Act.put, List.setIfInBounds_toArray, List.set_cons_zero, List.set_cons_succ]
    rfl
  refine take_ (i := 1) (N := (some 4)) (v := ?_) (a' := ?_) #[true, true, false, true, false, false, false, false] rfl rfl (by kernel_rfl) (fun _ _ _ h => h) (Or.inl ⟨by rfl, ?_⟩) hHeld ?_ ?_
  rotate_left
  · rintro w' ⟨s0, s1, s2⟩
    go_simp
    with_reducible rfl
  rotate_left
  · simp only [Act.put, List.setIfInBounds_toArray, List.set_cons_zero, List.set_cons_succ]
    rfl
  refine take_ (i := 4) (N := (some 7)) (v := ?_) (a' := ?_) #[true, true, false, true, true, false, false, false] rfl rfl (by kernel_rfl) (fun _ _ _ h => h) (Or.inl ⟨by rfl, ?_⟩) hHeld ?_ ?_
  rotate_left
  · rintro w' ⟨s0, s1, s2⟩
    go_simp
    with_reducible rfl
  rotate_left
  · simp only [Act.put, List.setIfInBounds_toArray, List.set_cons_zero, List.set_cons_succ]
    rfl
  refine one_ (i := 2) (N := (some 5)) #[true, true, true, true, true, false, false, false] rfl rfl (by kernel_rfl) (by decide) (fun K hK => ?_)
  refine goes_ Try.func92 (by kernel_rfl) rfl #[.agg #[.bool s, .slice A xs.length c]] (by rfl) rfl rfl (by (try simp only [List.map_toArray, List.map_cons, List.map_nil]); first | done | rfl) ?_
  refine (hI.out W HF.out.bel).mono ?_
  rintro e W1 ⟨A1, c1, rfl, q1, q2⟩
  refine ⟨_, rfl, ?_⟩
  replace HF := Lib.hid (HF.out.below q2)
  have Q1 := Lib.hid q1
  clear q1 q2 hI
  refine hK.out _ _ ⟨HF.out.cellN 1 rfl 0 rfl, HF.out.cellN 1 rfl 1 rfl, HF.out.cellN 1 rfl 2 rfl⟩ (fun hHeld => ?_)
  clear hK K
  refine norm_ (a' := ?_) ?_ ?_
  rotate_left
  · show Act.put _ (some 5) _ = _
    simp only [Act.put, List.setIfInBounds_toArray, List.set_cons_zero, List.set_cons_succ]
    rfl
  refine one_ (i := 5) (N := (some 8)) #[true, true, true, true, true, true, false, false] rfl rfl (by kernel_rfl) (by decide) (fun K hK => ?_)
  refine goes_ Try.func93 (by kernel_rfl) rfl #[.slice B ys.length d] (by rfl) rfl rfl (by (try simp only [List.map_toArray, List.map_cons, List.map_nil]); first | done | rfl) ?_
  refine (hN.out W1 HF.out.bel).mono ?_
  rintro e W2 ⟨A2, c2, rfl, q1, q2⟩
  refine ⟨_, rfl, ?_⟩
  replace HF := Lib.hid (HF.out.below q2)
  replace Q1 := Lib.hid (Q1.out.below q2)
  have Q2 := Lib.hid q1
  clear q1 q2 hN
  refine hK.out _ _ ⟨HF.out.cellN 1 rfl 0 rfl, HF.out.cellN 1 rfl 1 rfl, HF.out.cellN 1 rfl 2 rfl⟩ (fun hHeld => ?_)
  clear hK K
  refine norm_ (a' := ?_) ?_ ?_
  rotate_left
  · show Act.put _ (some 8) _ = _
    simp only [Act.put, List.setIfInBounds_toArray, List.set_cons_zero, List.set_cons_succ]
    rfl
  refine pure_ (i := 6) (N := (some 9)) (v := ?_) (a' := ?_) #[true, true, true, true, true, true, true, false] rfl rfl (by kernel_rfl) (fun _ _ _ h => h) (Or.inl ⟨by rfl, ?_⟩) ?_ ?_
  rotate_left
  · intro w'
    go_simp
    with_reducible rfl
  rotate_left
  · simp only [Act.put, List.setIfInBounds_toArray, List.set_cons_zero, List.set_cons_succ]
    rfl
  refine one_ (i := 7) (N := none) #[true, true, true, true, true, true, true, true] rfl rfl (by kernel_rfl) (by decide) (fun K hK => ?_)
  have hf0 := HF.out.frozenN 0 rfl 0
  have hf1 := HF.out.frozenN 0 rfl 1
  have hf2 := HF.out.frozenN 0 rfl 2
  have hd0 := HF.out.cellN 0 rfl 0 rfl
  have hd1 := HF.out.cellN 0 rfl 1 rfl
  have hd2 := HF.out.cellN 0 rfl 2 rfl
  refine skip_ (w1 := ?_) (by rfl) rfl ?_ ?_
  rotate_left
  · go_simp
    rfl
  replace Q1 := Lib.hid (Q1.out.put3 (HF.out.ownN 0 rfl) (by simp) (a := .bool s) (by simp) (b := .slice A1 xs.length c1) (by simp) (.slice A2 ys.length c2))
  replace Q2 := Lib.hid (Q2.out.put3 (HF.out.ownN 0 rfl) (by simp) (a := .bool s) (by simp) (b := .slice A1 xs.length c1) (by simp) (.slice A2 ys.length c2))
  replace HF := Lib.hid (HF.out.put3 0 rfl (by omega) (by simp <;> omega) (.bool s) (.slice A1 xs.length c1) (.slice A2 ys.length c2))
  clear hf0 hf1 hf2 hd0 hd1 hd2
  refine hK.out _ _ ⟨HF.out.cellN 1 rfl 0 rfl, HF.out.cellN 1 rfl 1 rfl, HF.out.cellN 1 rfl 2 rfl⟩ (fun hHeld => ?_)
  clear hK K
  refine done_ (by kernel_rfl) ?_
  generalize World.setCell _ _ _ = W2 at HF Q1 Q2 ⊢
  go_wp2
  exact post_own (HF.out.ownN 0 rfl) rfl rfl rfl Try.underlying31 rfl (by kernel_rfl) ⟨_, _, _, _, rfl, Q1.out, Q2.out, HF.out.bel⟩
end Go.Proofs.Ytchdoignomidjaa.F
/- Plain law of LinearPut: values of forms, where one variable's value is another; rows of rationals of the call's own. -/
set_option linter.unusedVariables false
set_option linter.unusedSimpArgs false
namespace Go.Proofs.Ytchdoignomidjaa.F
open Go.RowKit Go.Shelf Go.Proofs.YtchdoignomidjaaW.PrintLast

/-- a form's value where variables' values are given by g -/
def vF : Frm → (Int → Rat) → Rat
  | [], _ => 0
  | m :: l, g => m.2 * g m.1 + vF l g
def va (vs : List RatD) (u : Int) : Rat := if h : 0 ≤ u ∧ u < vs.length then rq (vs[u.toNat]'(by omega)) else 0
theorem tm_va (vs : List RatD) (m : Int × RatD) : tm vs m = rq m.2 * va vs m.1 := by
  unfold tm va
  split
  · rfl
  · rw [Rat.mul_zero]
theorem valQ_vF (f : List (Int × RatD)) (vs : List RatD) : valQ f vs = vF (fval f) (va vs) := by
  have key : ∀ (f : List (Int × RatD)) (s : Rat), f.foldl (fun s m => s + tm vs m) s = s + vF (fval f) (va vs) := by
    intro f
    induction f with
    | nil => intro s; exact (Rat.add_zero s).symm
    | cons m f ih =>
      intro s
      rw [List.foldl_cons, ih, tm_va]
      show _ = s + (rq m.2 * va vs m.1 + vF (fval f) (va vs))
      rw [Rat.add_assoc]
  unfold valQ
  rw [key, Rat.zero_add]
theorem vF_append (f h : Frm) (g : Int → Rat) : vF (f ++ h) g = vF f g + vF h g := by
  induction f with
  | nil => exact (Rat.zero_add _).symm
  | cons m f ih => show m.2 * g m.1 + vF (f ++ h) g = (m.2 * g m.1 + vF f g) + vF h g; rw [ih, Rat.add_assoc]
theorem vF_smul (c : Rat) (f : Frm) (g : Int → Rat) : vF (smul c f) g = c * vF f g := by
  induction f with
  | nil => exact (Rat.mul_zero c).symm
  | cons m f ih =>
    show c * m.2 * g m.1 + vF (smul c f) g = c * (m.2 * g m.1 + vF f g)
    rw [ih]; grind
theorem vF_ins (v : Int) (q : Rat) (l : Frm) (g : Int → Rat) : vF (ins v q l) g = q * g v + vF l g := by
  induction l with
  | nil =>
    by_cases h : q = 0
    · rw [show ins v q [] = [] from if_pos h, h]; show (0 : Rat) = 0 * g v + 0; grind
    · rw [show ins v q [] = [(v, q)] from if_neg h]; rfl
  | cons m l ih =>
    have e : ins v q (m :: l) = if v < m.1 then (if q = 0 then m :: l else (v, q) :: m :: l) else if v = m.1 then (if q + m.2 = 0 then l else (v, q + m.2) :: l) else m :: ins v q l := rfl
    have em : vF (m :: l) g = m.2 * g m.1 + vF l g := rfl
    rw [e, em]
    by_cases h1 : v < m.1
    · rw [if_pos h1]
      by_cases h2 : q = 0
      · rw [if_pos h2, h2, em]; grind
      · rw [if_neg h2]; rfl
    · rw [if_neg h1]
      by_cases h2 : v = m.1
      · rw [if_pos h2]
        by_cases h3 : q + m.2 = 0
        · rw [if_pos h3, ← h2]
          have : q = -m.2 := by grind
          rw [this]; grind
        · rw [if_neg h3]
          show (q + m.2) * g v + vF l g = _
          rw [← h2]; grind
      · rw [if_neg h2]
        show m.2 * g m.1 + vF (ins v q l) g = _
        rw [ih]; grind
theorem vF_nform (f : Frm) (g : Int → Rat) : vF (nform f) g = vF f g := by
  induction f with
  | nil => rfl
  | cons m f ih =>
    show vF (ins m.1 m.2 (nform f)) g = m.2 * g m.1 + vF f g
    rw [vF_ins, ih]
theorem vF_wout (l : Frm) (v : Int) (g : Int → Rat) : vF (wout l v) g = vF l g - co l v * g v := by
  induction l with
  | nil => show (0 : Rat) = 0 - 0 * g v; grind
  | cons m l ih =>
    have em : vF (m :: l) g = m.2 * g m.1 + vF l g := rfl
    have ec : co (m :: l) v = (if m.1 = v then m.2 else 0) + co l v := rfl
    rw [em, ec]
    unfold wout at ih ⊢
    by_cases h : m.1 = v
    · rw [List.filter_cons_of_neg (by simp [h]), ih, if_pos h, h]; grind
    · rw [List.filter_cons_of_pos (by simp [h]), if_neg h]
      show m.2 * g m.1 + vF _ g = _
      rw [ih]; grind
/-- one variable's value another -/
def put (g : Int → Rat) (v : Int) (t : Rat) : Int → Rat := fun u => if u = v then t else g u
theorem vF_put (l : Frm) (g : Int → Rat) (v : Int) (t : Rat) : vF l (put g v t) = vF l g + co l v * (t - g v) := by
  induction l with
  | nil => show (0 : Rat) = 0 + 0 * (t - g v); grind
  | cons m l ih =>
    show m.2 * put g v t m.1 + vF l (put g v t) = m.2 * g m.1 + vF l g + ((if m.1 = v then m.2 else 0) + co l v) * (t - g v)
    rw [ih]
    unfold put
    by_cases h : m.1 = v
    · rw [if_pos h, if_pos h, h]; grind
    · rw [if_neg h, if_neg h]; grind
/-- the value behind a putting in is that with the value put in -/
theorem put_law (F G : Frm) (v : Int) (p r : Rat) (g : Int → Rat) :
    vF (nform (wout (nform F) v ++ smul (co F v) G)) g + (p + co F v * r) = vF F (put g v (vF G g + r)) + p := by
  rw [vF_nform, vF_append, vF_wout, vF_smul, vF_nform, co_nform, vF_put]
  grind
theorem va_set (vs : List RatD) (i : Nat) (hi : i < vs.length) (t : Rat) : va (vs.set i (canD t)) = put (va vs) (i : Int) t := by
  funext u
  unfold va put
  by_cases h : u = i
  · subst h
    rw [dif_pos ⟨by omega, by rw [List.length_set]; omega⟩, if_pos rfl]
    have e : (vs.set i (canD t))[(i : Int).toNat]'(by rw [List.length_set]; omega) = canD t := by
      rw [List.getElem_set]
      rw [if_pos (by omega)]
    rw [e, rq_can]
  · rw [if_neg h]
    dsimp only
    by_cases hu : 0 ≤ u ∧ u < vs.length
    · rw [dif_pos ⟨hu.1, by rw [List.length_set]; exact hu.2⟩, dif_pos hu, List.getElem_set_ne (by omega)]
    · rw [dif_neg (fun e => hu ⟨e.1, by have := e.2; rw [List.length_set] at this; exact this⟩), dif_neg hu]
theorem va_mu {vs : List RatD} (h : ∀ x ∈ vs, Good (wt x) x) (u : Int) : mu (va vs u) ≤ (vs.map wt).sum + 1 := by
  unfold va
  split
  · have hm : vs[u.toNat]'(by omega) ∈ vs := List.getElem_mem _
    have h1 := mu_rq (h _ hm)
    have h2 : wt (vs[u.toNat]'(by omega)) ≤ (vs.map wt).sum := le_sum hm
    omega
  · rw [mu_zero]; omega
theorem vF_mu (l : Frm) (g : Int → Rat) (b : Nat) (h : ∀ u, mu (g u) ≤ b) : mu (vF l g) ≤ mf l + l.length * b + 1 := by
  induction l with
  | nil => show mu 0 ≤ _; rw [mu_zero]; omega
  | cons m l ih =>
    have h1 := mu_add (m.2 * g m.1) (vF l g)
    have h2 := mu_mul m.2 (g m.1)
    have h3 := h m.1
    show mu (m.2 * g m.1 + vF l g) ≤ _
    rw [mf_cons, List.length_cons, Nat.succ_mul]
    omega

/-- rationals in a block of the call's own -/
structure QC where
  s : Bool
  A : Option Addr
  c : Nat
  xs : List Int
  B : Option Addr
  d : Nat
  ys : List Int
def QC.cells (r : QC) : List Value := [.bool r.s, .slice r.A r.xs.length r.c, .slice r.B r.ys.length r.d]
def QC.val (r : QC) : RatD := ((r.s, r.xs), r.ys)
structure QC.At (w : World) (r : QC) : Prop where
  lies : LiesQ w ((r.s, r.xs), r.ys) r.A r.c r.B r.d
  nx : r.xs.length ≤ 9223372036854775807
  ny : r.ys.length ≤ 9223372036854775807
theorem QC.At.keep {w w' : World} {r : QC} (h : r.At w) (hk : KeepU w w') : r.At w' := ⟨⟨h.lies.1, h.lies.2.1, h.lies.2.2.1.keep hk, h.lies.2.2.2.keep hk⟩, h.nx, h.ny⟩
theorem qflat_len (rs : List QC) : (rs.flatMap QC.cells).length = rs.length * 3 := by
  induction rs with
  | nil => rfl
  | cons r rs ih => rw [List.flatMap_cons, List.length_append, ih, List.length_cons]; show 3 + _ = _; omega
theorem qflat_at (rs : List QC) (i j : Nat) (u : Value) (h : i < rs.length) (hu : rs[i].cells[j]? = some u) : (rs.flatMap QC.cells)[i * 3 + j]? = some u := by
  induction rs generalizing i with
  | nil => simp at h
  | cons r rs ih =>
    rw [List.flatMap_cons]
    cases i with
    | zero =>
      rw [Nat.zero_mul, Nat.zero_add, List.getElem?_append_left]
      · exact hu
      · exact (List.getElem?_eq_some_iff.1 hu).1
    | succ i =>
      rw [List.getElem?_append_right (by show 3 ≤ _; omega)]
      rw [show (i + 1) * 3 + j - r.cells.length = i * 3 + j by show _ - 3 = _; omega]
      exact ih i (by simpa using h) (by simpa using hu)
theorem qcells_noU (r : QC) : NoU r.cells := fun y hy => by simp [QC.cells] at hy
theorem qflat_noU (rs : List QC) : NoU (rs.flatMap QC.cells) := fun y hy => by
  obtain ⟨r, _, h⟩ := List.mem_flatMap.1 hy
  exact qcells_noU r y h
theorem qflat_one (rs : List QC) : ∀ u ∈ rs.flatMap QC.cells, u.oneCell' = true := fun u hu => by
  obtain ⟨r, _, h⟩ := List.mem_flatMap.1 hu
  simp only [QC.cells, List.mem_cons, List.not_mem_nil, or_false] at h
  rcases h with rfl | rfl | rfl <;> rfl
def OwnV (w : World) (B : Nat) (v : Value) (rs : List QC) : Prop := OwnL w B 31 3 v rs.length (rs.flatMap QC.cells) ∧ ∀ r ∈ rs, r.At w
theorem OwnV.nil (w : World) (B : Nat) : OwnV w B (.slice none 0 0) [] := ⟨OwnL.nil _ _ _ _, fun r h => by cases h⟩
theorem OwnV.below {w w' : World} {B : Nat} {v : Value} {rs : List QC} (h : OwnV w B v rs) (hb : Below w.heap.size w w') : OwnV w' B v rs := ⟨h.1.below hb, fun r hr => (h.2 r hr).keep (KeepU.below hb)⟩
theorem OwnV.row {w : World} {B : Nat} {v : Value} {rs : List QC} (h : OwnV w B v rs) : ∃ A c, v = .slice A rs.length c ∧ rs.length ≤ c ∧ kRat.Row w A (rs.map QC.val) := by
  obtain ⟨A, c, e, h1, _, h2⟩ := h.1.form
  refine ⟨A, c, e, h1, fun i hi => ?_⟩
  rw [List.length_map] at hi
  obtain ⟨ad, e2, hc⟩ := h2 (by omega)
  refine ⟨ad, rs[i].cells, e2, ?_, fun j u hu => hc _ u (qflat_at rs i j u hi hu)⟩
  rw [List.getElem_map]
  have hat := h.2 rs[i] (List.getElem_mem _)
  have hr := hat.lies
  exact ⟨[.bool rs[i].s, .slice rs[i].A rs[i].xs.length rs[i].c], [.slice rs[i].B rs[i].ys.length rs[i].d], rfl, ⟨[.bool rs[i].s], [.slice rs[i].A rs[i].xs.length rs[i].c], rfl, rfl, ⟨rs[i].A, rs[i].c, rfl, hr.1, hat.nx, hr.2.2.1⟩⟩, ⟨rs[i].B, rs[i].d, rfl, hr.2.1, hat.ny, hr.2.2.2⟩⟩
theorem pushQ {w : World} {B : Nat} {t ty : TypeId} {v : Value} {rs : List QC} {r : QC} {g : Nat} (ht : Try.prog.underlying t = some (.slice 31)) (h : OwnV w B v rs) (hr : r.At w) (hc : Own w g r.cells) (hl : rs.length + 1 ≤ 1099511627776) (hB : B ≤ w.heap.size) :
    ∃ v' w', (Builtin.append_ #[t, t] ty #[v, .slice (some ⟨g, 0, none⟩) 1 1]).run Try.prog w = .ok v' w' ∧ OwnV w' B v' (rs ++ [r]) ∧ Soft B v w w' := by
  obtain ⟨v', w', h4, h5, h6⟩ := push_any (ty := ty) (A := some ⟨g, 0, none⟩) (m := 1) (c := 1) ht (z := .agg #[.bool false, .slice none 0 0, .slice none 0 0]) (sz := 3) (bytes := 56) (by kernel_rfl) (by rfl) h.1 (news := r.cells) (by rfl) (fun _ => ⟨_, rfl, fun j u hu => by
    have hj := (List.getElem?_eq_some_iff.1 hu).1
    rw [show (⟨g, 0, none⟩ : Addr).add j = ⟨g, j, none⟩ from by unfold Addr.add; split <;> simp_all]
    rw [hc.cell j hj, ← hu, List.getElem?_eq_getElem]⟩) (fun u hu => qflat_one [r] u (by simpa using hu)) (qcells_noU r) (by intro y hy; simp [Value.cells] at hy) (by simp only [maxLen]; omega) (by omega) hB
  refine ⟨v', w', h4, ⟨?_, fun x hx => ?_⟩, h6⟩
  · rw [List.length_append, List.flatMap_append]
    have e : [r].flatMap QC.cells = r.cells := by simp
    rw [e]
    exact h5
  · rcases List.mem_append.1 hx with hx | hx
    · exact (h.2 x hx).keep h6.keep
    · rw [List.mem_singleton.1 hx]; exact hr.keep h6.keep
theorem qflat_set (rs : List QC) (i : Nat) (hi : i < rs.length) (r : QC) :
    (((rs.flatMap QC.cells).set (i * 3) (.bool r.s)).set (i * 3 + 1) (.slice r.A r.xs.length r.c)).set (i * 3 + 2) (.slice r.B r.ys.length r.d) = (rs.set i r).flatMap QC.cells := by
  induction rs generalizing i with
  | nil => simp at hi
  | cons a rs ih =>
    cases i with
    | zero => simp [List.flatMap_cons, QC.cells]
    | succ i =>
      have h := ih i (by simpa using hi)
      simp only [List.flatMap_cons, List.set_cons_succ]
      rw [← h]
      have e : ∀ (xs : List Value) (k : Nat) (u : Value), (a.cells ++ xs).set ((i + 1) * 3 + k) u = a.cells ++ xs.set (i * 3 + k) u := fun xs k u => by
        rw [List.set_append_right _ _ (by show 3 ≤ _; omega), show (i + 1) * 3 + k - a.cells.length = i * 3 + k by show _ - 3 = _; omega]
      have e0 : ∀ (xs : List Value) (u : Value), (a.cells ++ xs).set ((i + 1) * 3) u = a.cells ++ xs.set (i * 3) u := fun xs u => e xs 0 u
      rw [e0, e, e]
theorem OwnV.put {w : World} {B g n cap : Nat} {rs : List QC} (h : OwnV w B (.slice (some ⟨g, 0, none⟩) n cap) rs) (hn : n = rs.length) (i : Nat) (hi : i < rs.length) (r : QC) (hr : r.At w) :
    OwnV (((w.setCell ⟨g, i * 3, none⟩ (.bool r.s)).setCell ⟨g, i * 3 + 1, none⟩ (.slice r.A r.xs.length r.c)).setCell ⟨g, i * 3 + 2, none⟩ (.slice r.B r.ys.length r.d)) B (.slice (some ⟨g, 0, none⟩) n cap) (rs.set i r) := by
  subst hn
  obtain ⟨h0, k0⟩ := h.1.setCell (i * 3) (by omega) (u := .bool r.s) (fun y e => by cases e)
  obtain ⟨h1, k1⟩ := h0.setCell (i * 3 + 1) (by omega) (u := .slice r.A r.xs.length r.c) (fun y e => by cases e)
  obtain ⟨h2, k2⟩ := h1.setCell (i * 3 + 2) (by omega) (u := .slice r.B r.ys.length r.d) (fun y e => by cases e)
  have hk := (k0.trans k1).trans k2
  rw [qflat_set rs i hi r] at h2
  refine ⟨by rw [List.length_set]; exact h2, fun x hx => ?_⟩
  rcases List.mem_or_eq_of_mem_set hx with hx | rfl
  · exact (h.2 x hx).keep hk
  · exact hr.keep hk
theorem OwnV.cell {w : World} {B g n cap : Nat} {rs : List QC} (h : OwnV w B (.slice (some ⟨g, 0, none⟩) n cap) rs) (hn : n = rs.length) (i : Nat) (hi : i < rs.length) (j : Nat) {u : Value} (hu : rs[i].cells[j]? = some u) : w.cell? ⟨g, i * 3 + j, none⟩ = some u := by
  subst hn
  obtain ⟨hB, cur, hg, hn, hm, hs, ht, hc⟩ := h.1.block
  have h1 := qflat_at rs i j u hi hu
  rw [← ht, List.getElem?_take] at h1
  split at h1
  · simp [World.cell?, hg]
    simpa using h1
  · cases h1
theorem OwnV.frozen {w : World} {B g n cap : Nat} {rs : List QC} (h : OwnV w B (.slice (some ⟨g, 0, none⟩) n cap) rs) (hn : n = rs.length) (j : Nat) : w.frozen? ⟨g, j, none⟩ = false := by
  subst hn
  obtain ⟨hB, cur, hg, _⟩ := h.1.block
  simp [World.frozen?, hg]
theorem OwnV.blk {w : World} {B : Nat} {v : Value} {rs : List QC} (h : OwnV w B v rs) (h0 : 0 < rs.length) : ∃ g cap, v = .slice (some ⟨g, 0, none⟩) rs.length cap ∧ B ≤ g := by
  rcases h.1.2 with ⟨_, e⟩ | ⟨g, cap, cur, rfl, hb, _⟩
  · omega
  · exact ⟨g, cap, rfl, hb⟩
end Go.Proofs.Ytchdoignomidjaa.F
/- A struct of four fields that is handed in; what LinearPut takes. -/
set_option linter.unusedVariables false
set_option linter.unusedSimpArgs false
namespace Go.Proofs.Ytchdoignomidjaa.F
open Go.ChangeShapes Go.WideShapes Go.ChangeAt Go.RowKit Go.Shelf

def okFour {α β γ δ : Type} (o1 : α → (H : Type) → DataW H → Prop) (o2 : β → (H : Type) → DataW H → Prop) (o3 : γ → (H : Type) → DataW H → Prop) (o4 : δ → (H : Type) → DataW H → Prop) : (((α × β) × γ) × δ) → (H : Type) → DataW H → Prop := fun x H d =>
  ∃ a b c e, d = .agg [a, b, c, e] ∧ o1 x.1.1.1 H a ∧ o2 x.1.1.2 H b ∧ o3 x.1.2 H c ∧ o4 x.2 H e
theorem opens_four {α β γ δ : Type} {P : Program} {t : TypeId} {d1 : Knd α} {d2 : Knd β} {d3 : Knd γ} {d4 : Knd δ} {o1 : α → (H : Type) → DataW H → Prop} {o2 : β → (H : Type) → DataW H → Prop} {o3 : γ → (H : Type) → DataW H → Prop} {o4 : δ → (H : Type) → DataW H → Prop} {f1 f2 f3 f4 : Field}
    (ht : P.underlying t = some (.struct #[f1, f2, f3, f4])) (hc : P.cellsOf t = d1.sz + d2.sz + d3.sz + d4.sz) (h1 : f1.offset = 0) (h2 : f2.offset = d1.sz) (h3 : f3.offset = d1.sz + d2.sz) (h4 : f4.offset = d1.sz + d2.sz + d3.sz)
    (c1 : P.cellsOf f1.type = d1.sz) (c2 : P.cellsOf f2.type = d2.sz) (c3 : P.cellsOf f3.type = d3.sz) (c4 : P.cellsOf f4.type = d4.sz)
    (k1 : Opens P f1.type d1 o1) (k2 : Opens P f2.type d2 o2) (k3 : Opens P f3.type d3 o3) (k4 : Opens P f4.type d4 o4) : Opens P t (((d1.pair d2).pair d3).pair d4) (okFour o1 o2 o3 o4) := by
  intro H enc w fuel cs x h
  cases fuel with
  | zero => simp [DataW.trod] at h
  | succ fuel =>
    simp only [DataW.trod, ht] at h
    split at h
    · rename_i hl
      rw [hc] at hl
      simp only [List.mapM_cons, List.mapM_nil, h1, h2, h3, h4, c1, c2, c3, c4, List.drop_zero] at h
      cases ha : DataW.trod enc P w 0 (fun _ => true) true fuel f1.type (cs.take d1.sz) with
      | none => rw [ha] at h; simp at h
      | some a =>
        cases hb : DataW.trod enc P w 0 (fun _ => true) true fuel f2.type ((cs.drop d1.sz).take d2.sz) with
        | none => rw [ha, hb] at h; simp at h
        | some b =>
          cases hd : DataW.trod enc P w 0 (fun _ => true) true fuel f3.type ((cs.drop (d1.sz + d2.sz)).take d3.sz) with
          | none => rw [ha, hb, hd] at h; simp at h
          | some c =>
            cases he : DataW.trod enc P w 0 (fun _ => true) true fuel f4.type ((cs.drop (d1.sz + d2.sz + d3.sz)).take d4.sz) with
            | none => rw [ha, hb, hd, he] at h; simp at h
            | some e =>
              rw [ha, hb, hd, he] at h
              simp at h
              subst h
              obtain ⟨x1, y1, z1⟩ := k1 H enc w fuel _ _ ha
              obtain ⟨x2, y2, z2⟩ := k2 H enc w fuel _ _ hb
              obtain ⟨x3, y3, z3⟩ := k3 H enc w fuel _ _ hd
              obtain ⟨x4, y4, z4⟩ := k4 H enc w fuel _ _ he
              refine ⟨(((x1, x2), x3), x4), ⟨_, _, ?_, ⟨_, _, rfl, ⟨_, _, rfl, y1, y2⟩, y3⟩, y4⟩, _, _, _, _, rfl, z1, z2, z3, z4⟩
              rw [List.take_of_length_le (l := cs.drop (d1.sz + d2.sz + d3.sz)) (by simp; omega)]
              have e1 : cs.take d1.sz ++ (cs.drop d1.sz).take d2.sz = cs.take (d1.sz + d2.sz) := by rw [List.take_add]
              have e2 : cs.take (d1.sz + d2.sz) ++ (cs.drop (d1.sz + d2.sz)).take d3.sz = cs.take (d1.sz + d2.sz + d3.sz) := by rw [← List.take_add]
              rw [e1, e2, List.take_append_drop]
    · simp at h

abbrev PutD := ((AffD × Int) × AffD) × List RatD
def kPut : Knd PutD := ((kAff.pair (Knd.int .i64)).pair kAff).pair kRat.slice
abbrev okPut := okFour okAff (okInt .i64) okAff (okSlice okRat)
theorem opens_Putting : Opens Try.prog 77 kPut okPut := opens_four Try.underlying77 (by kernel_rfl) rfl rfl rfl rfl (by kernel_rfl) (by kernel_rfl) (by kernel_rfl) (by kernel_rfl) opens_Affine (opens_int Try.underlying3) opens_Affine opens_Rats
theorem wt_put {H : Type} {x : PutD} {d : DataW H} (h : okPut x H d) : wtA x.1.1.1 + wtA x.1.2 + (x.2.map wt).sum + 2 ≤ Rows.uptoBulk d := by
  obtain ⟨a, b, c, e, rfl, h1, h2, h3, h4⟩ := h
  have k1 := wt_aff h1
  have k2 := bulk_one b
  have k3 := wt_aff h3
  have k4 := wt_rats h4
  simp only [Rows.uptoBulk, Rows.uptoBulkAll]
  omega
theorem kPut_cells {w : World} {x : PutD} {cs : List Value} (h : kPut.C w x cs) : ∃ A c B d D e A2 c2 B2 d2 D2 e2 E j, cs = [.slice A x.1.1.1.1.length c, .bool x.1.1.1.2.1.1, .slice B x.1.1.1.2.1.2.length d, .slice D x.1.1.1.2.2.length e, .int .i64 x.1.1.2, .slice A2 x.1.2.1.length c2, .bool x.1.2.2.1.1, .slice B2 x.1.2.2.1.2.length d2, .slice D2 x.1.2.2.2.length e2, .slice E x.2.length j]
    ∧ x.1.1.1.1.length ≤ c ∧ kMono.Row w A x.1.1.1.1 ∧ LiesQ w x.1.1.1.2 B d D e ∧ x.1.2.1.length ≤ c2 ∧ kMono.Row w A2 x.1.2.1 ∧ LiesQ w x.1.2.2 B2 d2 D2 e2 ∧ x.2.length ≤ j ∧ kRat.Row w E x.2 := by
  obtain ⟨p1, p2, rfl, ⟨p3, p4, rfl, ⟨p5, p6, rfl, h1, h2⟩, h3⟩, h4⟩ := h
  obtain ⟨A, c, B, d, D, e, rfl, a1, a2, a3⟩ := kAff_cells h1
  have h2' : p6 = [.int .i64 x.1.1.2] := h2
  subst h2'
  obtain ⟨A2, c2, B2, d2, D2, e2, rfl, b1, b2, b3⟩ := kAff_cells h3
  obtain ⟨E, j, rfl, g1, _, g3⟩ := h4
  exact ⟨A, c, B, d, D, e, A2, c2, B2, d2, D2, e2, E, j, rfl, a1, a2, a3, b1, b2, b3, g1, g3⟩
end Go.Proofs.Ytchdoignomidjaa.F
