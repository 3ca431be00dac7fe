/- The walks behind TermsNobody: what counts a tree of lists ends; each call of a bank that is nil, or that nobody made, refuses. -/
import Derived.Test.YtelpmfpdddipeaaGreatDoorChecked
import Derived.WalkKit
import Derived.KernelRfl
import Derived.Lib.Hide
import Derived.Deep.LoopGhost
import Derived.Deep.Draws
import Derived.ChangeArms
import Derived.DataReads
set_option linter.unusedVariables false
set_option linter.unusedSimpArgs false
namespace Go.Proofs.YtelpmfpdddipeaaGreatDoor.wk
open Go.RowKit

theorem cell_below {w w1 : World} (hb : Below w.heap.size w w1) {a : Addr} {v : Value} (hc : w.cell? a = some v) : w1.cell? a = some v :=
  (hb.cell (World.block_lt_of_cell? w a hc)).trans hc
theorem add_add (a : Addr) (m j : Nat) : (a.add m).add j = a.add (m + j) := by
  unfold Addr.add
  by_cases hm : m = 0
  · subst hm; simp
  · by_cases hj : j = 0
    · subst hj; simp
    · simp [hm, hj, Nat.add_assoc]
abbrev nxt (a : Addr) (j : Nat) : Addr := ⟨a.block, a.off + j, none⟩
theorem add_off (a : Addr) (k j : Nat) (hj : 0 < j) : nxt (a.add k) j = a.add (k + j) := by
  rw [← add_add]
  show _ = if j = 0 then _ else _
  rw [if_neg (by omega)]

/-- a node as it lies: six cells of its token, then the row of its kids, each a node -/
inductive NodeAt (w : World) : List Value → Prop
  | mk (t0 t1 t2 t3 t4 t5 : Value) (A : Option Addr) (n cap : Nat) (f : Nat → List Value) (hc : n ≤ cap) (hm : cap ≤ maxLen)
      (hf : ∀ i, i < n → ∃ ad, A = some ad ∧ (f i).length = 7 ∧ ∀ j u, (f i)[j]? = some u → w.cell? (ad.add (i * 7 + j)) = some u) (r : ∀ i, i < n → NodeAt w (f i)) :
      NodeAt w [t0, t1, t2, t3, t4, t5, .slice A n cap]
theorem NodeAt.lasts {w w' : World} {cs : List Value} (h : NodeAt w cs) (hb : Below w.heap.size w w') : NodeAt w' cs := by
  induction h with
  | mk t0 t1 t2 t3 t4 t5 A n cap f hc hm hf r ih =>
    refine NodeAt.mk t0 t1 t2 t3 t4 t5 A n cap f hc hm (fun i hi => ?_) ih
    obtain ⟨ad, e, hl, hx⟩ := hf i hi
    exact ⟨ad, e, hl, fun j u hu => cell_below hb (hx j u hu)⟩
theorem seven {α : Type} {l : List α} (h : l.length = 7) : ∃ a b c d e f g, l = [a, b, c, d, e, f, g] := by
  match l, h with
  | [a, b, c, d, e, f, g], _ => exact ⟨a, b, c, d, e, f, g, rfl⟩

theorem node_of_trod {H : Type} {enc : TypeId × Value → H} {w : World} {spare : Nat → Bool} {held : Bool} : ∀ (fuel : Nat) (cs : List Value) (x : DataW H × List MemPlace), DataW.trod enc Tryz.prog w 0 spare held fuel 36 cs = some x → NodeAt w cs := by
  intro fuel
  induction fuel using Nat.strongRecOn with
  | _ fuel ih =>
    intro cs x h
    obtain ⟨xs, n, rfl, _, hlen, hxl, hg⟩ := DataW.trod_struct Tryz.underlying36 h
    have c36 : Tryz.prog.cellsOf 36 = 7 := by kernel_rfl
    have c34 : Tryz.prog.cellsOf 34 = 1 := by kernel_rfl
    rw [c36] at hlen
    obtain ⟨t0, t1, t2, t3, t4, t5, t6, rfl⟩ := seven hlen
    have h1 := hg 1 _ rfl
    change DataW.trod enc Tryz.prog w 0 spare held n 34 ((([t0, t1, t2, t3, t4, t5, t6] : List Value).drop 6).take (Tryz.prog.cellsOf 34)) = _ at h1
    rw [c34] at h1
    have hx1 : ∃ y, xs[1]? = some y := ⟨_, List.getElem?_eq_getElem (by rw [hxl]; decide)⟩
    obtain ⟨y, hy⟩ := hx1
    rw [hy] at h1
    have h2 : DataW.trod enc Tryz.prog w 0 spare held n 34 [t6] = some y := h1
    rcases DataW.trod_slice Tryz.underlying34 h2 with ⟨h3, _⟩ | ⟨a, len, cap, elems, rest, m, rfl, h3, _, _, hl, hm, _, hel, _, _⟩
    · simp at h3
      subst h3
      exact NodeAt.mk _ _ _ _ _ _ none 0 0 (fun _ => []) (Nat.le_refl _) (by simp [maxLen]) (fun i hi => by omega) (fun i hi => by omega)
    · simp at h3
      subst h3
      have each : ∀ i, i < len → ∃ cs', w.cells? 0 (a.add (i * 7)) 7 = some cs' ∧ ∃ z, DataW.trod enc Tryz.prog w 0 spare held m 36 cs' = some z := by
        intro i hi
        have h4 := hel i hi
        rw [c36] at h4
        have hz : ∃ z, elems[i]? = some z := ⟨_, List.getElem?_eq_getElem (by omega)⟩
        obtain ⟨z, hz⟩ := hz
        rw [hz] at h4
        cases hc : w.cells? 0 (a.add (i * 7)) 7 with
        | none => rw [hc] at h4; simp at h4
        | some cs' => rw [hc] at h4; exact ⟨cs', rfl, z, by simpa using h4⟩
      refine NodeAt.mk _ _ _ _ _ _ (some a) len cap (fun i => (w.cells? 0 (a.add (i * 7)) 7).getD []) hl hm (fun i hi => ⟨a, rfl, ?_⟩) (fun i hi => ?_)
      · obtain ⟨cs', hc, _⟩ := each i hi
        obtain ⟨_, h5, h6⟩ := World.cells?_some hc
        simp only [hc, Option.getD_some]
        refine ⟨h5, fun j u hu => ?_⟩
        have hj := (List.getElem?_eq_some_iff.1 hu).1
        rw [← add_add, h6 j (by omega), hu]
      · obtain ⟨cs', hc, z, hz⟩ := each i hi
        simp only [hc, Option.getD_some]
        exact ih m (by omega) cs' z hz


def Counts (had : Int) (W : World) (e : Ending) (w' : World) : Prop := (∃ n : Int, had < n ∧ n ≤ 1048577 ∧ e = .returned (.int .i64 n)) ∧ Below W.heap.size W w'
set_option maxHeartbeats 1000000 in
theorem counted {w : World} {cs : List Value} (h : NodeAt w cs) : ∀ (had : Int) (W : World), 0 ≤ had → had ≤ 1048576 → Below w.heap.size w W → Calls Tryz.prog 41 #[.agg cs.toArray, .int .i64 had] W (Counts had W) := by
  induction h with
  | mk t0 t1 t2 t3 t4 t5 A n cap f hc hm hf r ih =>
    intro had W h0 h1 hB
    unfold maxLen at hm
    have HI := Lib.hid ih
    have HFc := Lib.hid hf
    have HB := Lib.hid (hB.alloc hB.size (.cells #[t0, t1, t2, t3, t4, t5, .slice A n cap] 36))
    have HW := Lib.hid ((Below.refl _ W).alloc (Nat.le_refl _) (.cells #[t0, t1, t2, t3, t4, t5, .slice A n cap] 36))
    have HC := Lib.hid (show (W.alloc (.cells #[t0, t1, t2, t3, t4, t5, .slice A n cap] 36)).cell? ⟨W.heap.size, 6, none⟩ = some (.slice A n cap) by simp [go_sem])
    clear ih hf r hB
    go_enter Tryz.func41, Tryz.ntmps41
    go_wp2
    go_loopg [1, 5] n (fun gg s1 s5 wr => ∃ (k : Nat) (c : Int), k + gg = n ∧ s5 = .int .i64 k ∧ s1 = .int .i64 c ∧ had < c ∧ c ≤ 1048577 ∧ Hid (Below w.heap.size w wr) ∧ Hid (Below W.heap.size W wr) ∧ Hid (wr.cell? ⟨W.heap.size, 6, none⟩ = some (.slice A n cap)))
    case atStart => exact ⟨0, had + 1, by omega, rfl, rfl, by omega, by omega, HB, HW, HC⟩
    case round =>
      clear HB HW HC
      obtain ⟨k, c, hg, rfl, rfl, hc1, hc2, HB, HW, HC⟩ := hrel
      have hce := HC.out
      by_cases hlt : k < n
      · have hltz : (k : Int) < (n : Int) := by omega
        by_cases hle : c ≤ 1048576
        · obtain ⟨ad, rfl, hl7, hcells⟩ := HFc.out k hlt
          have hrec := Lib.hid (HI.out k hlt c wr (by omega) hle HB.out)
          obtain ⟨c0, c1, c2, c3, c4, c5, c6, hfk⟩ := seven hl7
          rw [hfk] at hcells hrec
          have e0 := cell_below HB.out (hcells 0 _ rfl)
          have e1 := cell_below HB.out (hcells 1 _ rfl)
          have e2 := cell_below HB.out (hcells 2 _ rfl)
          have e3 := cell_below HB.out (hcells 3 _ rfl)
          have e4 := cell_below HB.out (hcells 4 _ rfl)
          have e5 := cell_below HB.out (hcells 5 _ rfl)
          have e6 := cell_below HB.out (hcells 6 _ rfl)
          rw [← add_off _ _ _ (by omega)] at e1 e2 e3 e4 e5 e6
          rw [Nat.add_zero] at e0
          clear hcells hfk hl7
          go_wp2_with fail
          refine hrec.out.mono ?_
          rintro e w1 ⟨⟨m, hm1, hm2, rfl⟩, hb⟩
          have HB2 := Lib.hid (HB.out.trans (hb.mono HB.out.size))
          have HW2 := Lib.hid (HW.out.trans (hb.mono HW.out.size))
          have HC2 := Lib.hid (cell_below hb HC.out)
          clear hb hrec e0 e1 e2 e3 e4 e5 e6 hce
          go_wp2
          go_roundg (n - (k + 1))
          case measure => omega
          case rel => exact ⟨k + 1, m, by omega, by go_num, rfl, by omega, by omega, HB2, HW2, HC2⟩
        · go_wp2
          go_ret
          exact ⟨⟨c, hc1, hc2, rfl⟩, HW.out⟩
      · have hltz : ¬ (k : Int) < (n : Int) := by omega
        go_wp2
        go_ret
        exact ⟨⟨c, hc1, hc2, rfl⟩, HW.out⟩

def Tells (W : World) (e : Ending) (w' : World) : Prop := (∃ b : Bool, e = .returned (.bool b)) ∧ Below W.heap.size W w'
set_option maxHeartbeats 1000000 in
theorem deeper {w : World} {cs : List Value} (h : NodeAt w cs) : ∀ (left : Int) (W : World), -1 ≤ left → left ≤ 65536 → Below w.heap.size w W → Calls Tryz.prog 42 #[.agg cs.toArray, .int .i64 left] W (Tells W) := by
  induction h with
  | mk t0 t1 t2 t3 t4 t5 A n cap f hc hm hf r ih =>
    intro left W h0 h1 hB
    unfold maxLen at hm
    have HI := Lib.hid ih
    have HFc := Lib.hid hf
    have HB := Lib.hid (hB.alloc hB.size (.cells #[t0, t1, t2, t3, t4, t5, .slice A n cap] 36))
    have HW := Lib.hid ((Below.refl _ W).alloc (Nat.le_refl _) (.cells #[t0, t1, t2, t3, t4, t5, .slice A n cap] 36))
    have HC := Lib.hid (show (W.alloc (.cells #[t0, t1, t2, t3, t4, t5, .slice A n cap] 36)).cell? ⟨W.heap.size, 6, none⟩ = some (.slice A n cap) by simp [go_sem])
    clear ih hf r hB
    by_cases hl : left < 0
    · go_enter Tryz.func42, Tryz.ntmps42
      go_wp2
      go_ret
      exact ⟨⟨true, rfl⟩, HW.out⟩
    · go_enter Tryz.func42, Tryz.ntmps42
      go_wp2
      go_loopg [5] n (fun gg s5 wr => ∃ (k : Nat), k + gg = n ∧ s5 = .int .i64 k ∧ Hid (Below w.heap.size w wr) ∧ Hid (Below W.heap.size W wr) ∧ Hid (wr.cell? ⟨W.heap.size, 6, none⟩ = some (.slice A n cap)))
      case atStart => exact ⟨0, by omega, rfl, HB, HW, HC⟩
      case round =>
        clear HB HW HC
        obtain ⟨k, hg, rfl, HB, HW, HC⟩ := hrel
        have hce := HC.out
        by_cases hlt : k < n
        · have hltz : (k : Int) < (n : Int) := by omega
          obtain ⟨ad, rfl, hl7, hcells⟩ := HFc.out k hlt
          have hrec := Lib.hid (HI.out k hlt (left - 1) wr (by omega) (by omega) HB.out)
          obtain ⟨c0, c1, c2, c3, c4, c5, c6, hfk⟩ := seven hl7
          rw [hfk] at hcells hrec
          have e0 := cell_below HB.out (hcells 0 _ rfl)
          have e1 := cell_below HB.out (hcells 1 _ rfl)
          have e2 := cell_below HB.out (hcells 2 _ rfl)
          have e3 := cell_below HB.out (hcells 3 _ rfl)
          have e4 := cell_below HB.out (hcells 4 _ rfl)
          have e5 := cell_below HB.out (hcells 5 _ rfl)
          have e6 := cell_below HB.out (hcells 6 _ rfl)
          rw [← add_off _ _ _ (by omega)] at e1 e2 e3 e4 e5 e6
          rw [Nat.add_zero] at e0
          clear hcells hfk hl7
          go_wp2_with fail
          refine hrec.out.mono ?_
          rintro e w1 ⟨⟨b, rfl⟩, hb⟩
          have HB2 := Lib.hid (HB.out.trans (hb.mono HB.out.size))
          have HW2 := Lib.hid (HW.out.trans (hb.mono HW.out.size))
          have HC2 := Lib.hid (cell_below hb HC.out)
          clear hb hrec e0 e1 e2 e3 e4 e5 e6 hce
          cases b with
          | true =>
            go_wp2
            go_ret
            exact ⟨⟨true, rfl⟩, HW2.out⟩
          | false =>
            go_wp2
            go_roundg (n - (k + 1))
            case measure => omega
            case rel => exact ⟨k + 1, by omega, by go_num, HB2, HW2, HC2⟩
        · have hltz : ¬ (k : Int) < (n : Int) := by omega
          go_wp2
          go_ret
          exact ⟨⟨false, rfl⟩, HW.out⟩

theorem large {w : World} {t0 t1 t2 t3 t4 t5 t6 : Value} (h : NodeAt w [t0, t1, t2, t3, t4, t5, t6]) (W : World) (hB : Below w.heap.size w W) : Calls Tryz.prog 16 #[.agg #[t0, t1, t2, t3, t4, t5, t6]] W (Tells W) := by
  have HB := Lib.hid (hB.alloc hB.size (.cells #[t0, t1, t2, t3, t4, t5, t6] 36))
  have HW := Lib.hid ((Below.refl _ W).alloc (Nat.le_refl _) (.cells #[t0, t1, t2, t3, t4, t5, t6] 36))
  have H1 := Lib.hid (counted h 0 (W.alloc (.cells #[t0, t1, t2, t3, t4, t5, t6] 36)) (by omega) (by omega) HB.out)
  have H2 := Lib.hid (fun (V : World) (hb : Below w.heap.size w V) => deeper h 65536 V (by omega) (by omega) hb)
  have HC := Lib.hid (show ∀ j, j < 7 → (W.alloc (.cells #[t0, t1, t2, t3, t4, t5, t6] 36)).cell? ⟨W.heap.size, j, none⟩ = #[t0, t1, t2, t3, t4, t5, t6][j]? by intro j hj; simp [go_sem])
  clear hB h
  go_enter Tryz.func16, Tryz.ntmps16
  go_wp2_with fail
  refine H1.out.mono ?_
  rintro e w1 ⟨⟨m, hm1, hm2, rfl⟩, hb⟩
  replace HB := Lib.hid (HB.out.trans (hb.mono HB.out.size))
  replace HW := Lib.hid (HW.out.trans (hb.mono HW.out.size))
  by_cases hm : 1048576 < m
  · clear hb HC
    go_wp2
    go_ret
    exact ⟨⟨true, rfl⟩, HW.out⟩
  · have e0 := cell_below hb (HC.out 0 (by omega))
    have e1 := cell_below hb (HC.out 1 (by omega))
    have e2 := cell_below hb (HC.out 2 (by omega))
    have e3 := cell_below hb (HC.out 3 (by omega))
    have e4 := cell_below hb (HC.out 4 (by omega))
    have e5 := cell_below hb (HC.out 5 (by omega))
    have e6 := cell_below hb (HC.out 6 (by omega))
    clear hb HC
    go_wp2_with fail
    refine (H2.out _ HB.out).mono ?_
    rintro e w2 ⟨⟨b, rfl⟩, hb⟩
    replace HW := Lib.hid (HW.out.trans (hb.mono HW.out.size))
    clear hb e0 e1 e2 e3 e4 e5 e6
    go_wp2
    go_ret
    exact ⟨⟨_, rfl⟩, HW.out⟩
end Go.Proofs.YtelpmfpdddipeaaGreatDoor.wk
