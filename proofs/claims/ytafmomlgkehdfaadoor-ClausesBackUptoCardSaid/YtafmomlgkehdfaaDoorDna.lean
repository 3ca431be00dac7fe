/- Numbers of the reference's layers 1 and 2 in memory: what a call tells of them; Norm, Of, made, Sign. -/
import Derived.Test.YtafmomlgkehdfaaDoorProg
import Derived.Test.YtafmomlgkehdfaaDoorBase
set_option linter.unusedVariables false
set_option linter.unusedSimpArgs false
namespace Go.Proofs.YtafmomlgkehdfaaDoor.F
open Go.RowKit Go.Shelf

theorem info96 : (Tryd.prog.info? 85).map (fun i => (i.zero, i.size, i.bytes)) = some (some (.int .u32 0), 1, 4) := by kernel_rfl

/-- what a function that tells a number tells: in memory of w or newer, its normal form -/
def Told (w : World) (n : Int) (e : Ending) (w' : World) : Prop :=
  ∃ A c, e = .returned (.slice A (dg n.toNat).length c) ∧ (dg n.toNat).length ≤ c ∧ Rn w' A (dg n.toNat) ∧ Below w.heap.size w w'

theorem Rn.two {w : World} {g : Nat} {x y : Int} (h : w.cell? ⟨g, 0, none⟩ = some (.int .u32 x)) (h' : w.cell? ⟨g, 1, none⟩ = some (.int .u32 y)) : Rn w (some ⟨g, 0, none⟩) [x, y] := by
  intro i hi
  have hi : i < 2 := by simpa using hi
  rcases i with _ | _ | i
  · refine ⟨⟨g, 0, none⟩, [.int .u32 x], rfl, rfl, fun j u hu => ?_⟩
    cases j with
    | zero => simp at hu; subst hu; exact h
    | succ j => simp at hu
  · refine ⟨⟨g, 0, none⟩, [.int .u32 y], rfl, rfl, fun j u hu => ?_⟩
    cases j with
    | zero => simp at hu; subst hu; exact h'
    | succ j => simp at hu
  · omega

theorem V_two (n : Int) : V [n % 4294967296, n / 4294967296] = n := by
  simp only [V]; omega

/-- a row of limbs stands elsewhere than in a block without limbs -/
theorem Rn.far {w : World} {A : Option Addr} {xs : List Int} {g : Nat} {cs : List Value} (h : Rn w A xs) (ho : Own w g cs) (hn : ∀ x, Value.int .u32 x ∉ cs) (i : Nat) (v : Value) : Rn (w.setCell ⟨g, i, none⟩ v) A xs := by
  intro k hk
  obtain ⟨ad, vs, e, hC, hc⟩ := h k hk
  refine ⟨ad, vs, e, hC, fun j u hu => ?_⟩
  have h1 := hc j u hu
  have hvs : vs = [.int .u32 xs[k]] := hC
  have hu' : u = .int .u32 xs[k] := by
    rw [hvs] at hu
    cases j with
    | zero => simpa using hu.symm
    | succ j => simp at hu
  subst hu'
  have hb : (ad.add (k * 1 + j)).block ≠ g := by
    intro hbe
    obtain ⟨t, ht⟩ := ho
    rw [show (Knd.int IntKind.u32).sz = 1 from rfl] at h1
    simp only [World.cell?, hbe, ht] at h1
    have hm := List.mem_of_getElem? (by simpa using (by simpa using h1 : _ ∧ _).2 : cs[(ad.add (k * 1 + j)).off]? = some (Value.int .u32 xs[k]))
    exact hn _ hm
  rw [World.cell?_of_block (Below.heap_setCell w _ v _ hb)]
  exact h1

/-- the end of a call whose only result lies in cells -/
theorem post_own {P : Program} {fn : Func} {R : Ending → World → Prop} {a : Act} {w : World} {p : Tmp} {ty : TypeId} {g : Nat} {vs : List Value} {d : TypeDesc} (ho : Own w g vs) (h : fn.results = #[.cell p ty]) (h0 : a.defers = [])
    (hp : a.tmps.getD p undef = .pointer (some ⟨g, 0, none⟩)) (hu : P.underlying ty = some d) (hd : (match d with | .struct _ | .array _ _ => true | _ => false) = true) (hi : (P.info? ty).map (·.size) = some vs.length)
    (hR : R (.returned (.agg vs.toArray)) w) : bodyPost P fn R .ret a w := by
  obtain ⟨t, ho⟩ := ho
  exact bodyPost_ret (results_cell_row h _ _ g t vs.toArray (0, 0) d hp ho hu hd (by simpa using hi)) h0 hR

/-- an int's value -/
def iv (s : Bool) (x : Int) : Int := if s then -x else x

/-- an answer that is an int in canonical form -/
def ToldI (w : World) (n : Int) (e : Ending) (w' : World) : Prop :=
  ∃ A c, e = .returned (.agg #[.bool (decide (n < 0)), .slice A (dg n.natAbs).length c]) ∧ (dg n.natAbs).length ≤ c ∧ Rn w' A (dg n.natAbs) ∧ Below w.heap.size w w'

/-- what stood in w stands in W, and the blocks of bs are as told -/
def Fr (w W : World) (bs : List (Nat × List Value)) : Prop := Below w.heap.size w W ∧ ∀ p, p ∈ bs → Own W p.1 p.2
theorem Fr.refl (w : World) : Fr w w [] := ⟨Below.refl _ _, fun _ h => by cases h⟩
theorem Fr.bel {w W : World} {bs : List (Nat × List Value)} (h : Fr w W bs) : Below w.heap.size w W := h.1
theorem Fr.own {w W : World} {bs : List (Nat × List Value)} (h : Fr w W bs) {g : Nat} {cs : List Value} (hm : (g, cs) ∈ bs) : Own W g cs := h.2 _ hm
theorem Fr.cellAt {w W : World} {bs : List (Nat × List Value)} (h : Fr w W bs) {g : Nat} {cs : List Value} (hm : (g, cs) ∈ bs) (i : Nat) (hi : i < cs.length) : W.cell? ⟨g, i, none⟩ = some cs[i] := (h.own hm).cell i hi
theorem Fr.ownN {w W : World} {bs : List (Nat × List Value)} (h : Fr w W bs) {g : Nat} {cs : List Value} (k : Nat) (hk : bs[k]? = some (g, cs)) : Own W g cs := h.2 _ (List.mem_of_getElem? hk)
theorem Fr.cellN {w W : World} {bs : List (Nat × List Value)} (h : Fr w W bs) {g : Nat} {cs : List Value} (k : Nat) (hk : bs[k]? = some (g, cs)) (i : Nat) {v : Value} (hi : cs[i]? = some v) : W.cell? ⟨g, i, none⟩ = some v := by
  obtain ⟨h1, h2⟩ := List.getElem?_eq_some_iff.1 hi
  rw [(h.ownN k hk).cell i h1, h2]
theorem Fr.frozenN {w W : World} {bs : List (Nat × List Value)} (h : Fr w W bs) {g : Nat} {cs : List Value} (k : Nat) (hk : bs[k]? = some (g, cs)) (i : Nat) : W.frozen? ⟨g, i, none⟩ = false := (h.ownN k hk).frozen i
theorem Fr.ltN {w W : World} {bs : List (Nat × List Value)} (h : Fr w W bs) {g : Nat} {cs : List Value} (k : Nat) (hk : bs[k]? = some (g, cs)) : g < W.heap.size := (h.ownN k hk).lt
theorem Fr.frozen {w W : World} {bs : List (Nat × List Value)} (h : Fr w W bs) {g : Nat} {cs : List Value} (hm : (g, cs) ∈ bs) (i : Nat) : W.frozen? ⟨g, i, none⟩ = false := (h.own hm).frozen i
theorem Fr.below {w W W' : World} {bs : List (Nat × List Value)} (h : Fr w W bs) (hb : Below W.heap.size W W') : Fr w W' bs :=
  ⟨h.1.trans (hb.mono h.1.size), fun p hp => (h.2 p hp).below hb (h.2 p hp).lt⟩
theorem Fr.alloc {w W : World} {bs : List (Nat × List Value)} (h : Fr w W bs) (o : Obj) : Fr w (W.alloc o) bs := h.below ((Below.refl _ _).alloc (Nat.le_refl _) o)
theorem Fr.drewN {w W : World} {bs : List (Nat × List Value)} (h : Fr w W bs) (n : Nat) : Fr w (W.drewN n) bs := h.below (below_drewN (Below.refl _ _) n)
theorem Fr.drew {w W : World} {bs : List (Nat × List Value)} (h : Fr w W bs) : Fr w W.drew bs := h.below (Below.drew (Below.refl _ _))
theorem Fr.box {w W : World} {bs : List (Nat × List Value)} (h : Fr w W bs) (cs : List Value) (t : TypeId) : Fr w (W.alloc (.cells cs.toArray t (0, 0))) ((W.heap.size, cs) :: bs) :=
  ⟨(h.alloc _).1, fun p hp => by
    rcases List.mem_cons.1 hp with rfl | hp
    · exact Own.mk _ _
    · exact (h.alloc _).2 p hp⟩
theorem Fr.set {w W : World} {bs : List (Nat × List Value)} {g : Nat} {cs : List Value} (h : Fr w W ((g, cs) :: bs)) (hg : w.heap.size ≤ g) (hn : ∀ p, p ∈ bs → p.1 ≠ g) (i : Nat) (v : Value) : Fr w (W.setCell ⟨g, i, none⟩ v) ((g, cs.set i v) :: bs) :=
  ⟨h.1.setCell hg v, fun p hp => by
    rcases List.mem_cons.1 hp with rfl | hp
    · exact (h.own (List.mem_cons_self ..)).set i v
    · exact (h.2 p (List.mem_cons_of_mem _ hp)).far (hn p hp) v⟩
theorem Fr.setN {w W : World} {bs : List (Nat × List Value)} (h : Fr w W bs) {g : Nat} {cs : List Value} (k : Nat) (hk : bs[k]? = some (g, cs)) (hg : w.heap.size ≤ g) (hn : ∀ p ∈ bs.eraseIdx k, p.1 ≠ g) (i : Nat) (v : Value) : Fr w (W.setCell ⟨g, i, none⟩ v) (bs.set k (g, cs.set i v)) :=
  ⟨h.1.setCell hg v, fun p hp => by
    obtain ⟨j, hj⟩ := List.mem_iff_getElem?.1 hp
    rw [List.getElem?_set] at hj
    split at hj
    · split at hj
      · obtain rfl := Option.some.inj hj
        exact (h.ownN k hk).set i v
      · cases hj
    · rename_i hkj
      have hm : p ∈ bs.eraseIdx k := by
        refine List.mem_iff_getElem?.2 ?_
        by_cases hlt : j < k
        · exact ⟨j, by rw [List.getElem?_eraseIdx, if_pos hlt]; exact hj⟩
        · refine ⟨j - 1, ?_⟩
          rw [List.getElem?_eraseIdx, if_neg (by omega), show j - 1 + 1 = j by omega]
          exact hj
      exact (h.2 p (List.mem_of_getElem? hj)).far (hn p hm) v⟩
theorem Fr.size {w W : World} {bs : List (Nat × List Value)} (h : Fr w W bs) : w.heap.size ≤ W.heap.size := h.1.size
theorem Fr.lt {w W : World} {bs : List (Nat × List Value)} (h : Fr w W bs) {g : Nat} {cs : List Value} (hm : (g, cs) ∈ bs) : g < W.heap.size := (h.own hm).lt

/-- an answer that is an int, as a value -/
def IsI (W : World) (n : Int) (v : Value) : Prop := ∃ A c, v = .agg #[.bool (decide (n < 0)), .slice A (dg n.natAbs).length c] ∧ (dg n.natAbs).length ≤ c ∧ Rn W A (dg n.natAbs)

/-- the end of a call that stores an int into its result's cells -/
theorem end_int {w W : World} {bs : List (Nat × List Value)} {g : Nat} {n : Int} {A : Option Addr} {c : Nat} {x y : Value} (h : Fr w W ((g, [x, y]) :: bs)) (hx : ∀ z, Value.int .u32 z ≠ x) (hy : ∀ z, Value.int .u32 z ≠ y) (hg : w.heap.size ≤ g) (hc : (dg n.natAbs).length ≤ c) (hr : Rn W A (dg n.natAbs)) {W' : World}
    (hW : W' = (W.setCell ⟨g, 0, none⟩ (.bool (decide (n < 0)))).setCell ⟨g, 1, none⟩ (.slice A (dg n.natAbs).length c)) :
    ToldI w n (.returned (.agg #[.bool (decide (n < 0)), .slice A (dg n.natAbs).length c])) W' ∧ Own W' g [.bool (decide (n < 0)), .slice A (dg n.natAbs).length c] := by
  subst hW
  have ho := h.own (List.mem_cons_self ..)
  refine ⟨⟨A, c, rfl, hc, ?_, (h.1.setCell hg _).setCell hg _⟩, (ho.set 0 _).set 1 _⟩
  refine (hr.far ho ?_ 0 _).far (ho.set 0 _) ?_ 1 _
  · intro z hz
    rcases List.mem_cons.1 hz with h1 | h1
    · exact hx z h1
    · rcases List.mem_cons.1 h1 with h2 | h2
      · exact hy z h2
      · cases h2
  · intro z hz
    rcases List.mem_cons.1 hz with h1 | h1
    · cases h1
    · rcases List.mem_cons.1 h1 with h2 | h2
      · exact hy z h2
      · cases h2

/-- a number that is handed in: limbs in a row -/
structure In (w : World) (A : Option Addr) (c : Nat) (xs : List Int) : Prop where
  row : Rn w A xs
  lim : Lim xs
  cap : xs.length ≤ c
theorem In.below {w W : World} {A : Option Addr} {c : Nat} {xs : List Int} (h : In w A c xs) (hb : Below w.heap.size w W) : In W A c xs := ⟨Knd.Row.below hb h.row, h.lim, h.cap⟩
theorem In.dg {w : World} {A : Option Addr} {c n : Nat} (h : Rn w A (dg n)) (hc : (dg n).length ≤ c) : In w A c (dg n) := ⟨h, Lim_dg n, hc⟩
theorem In.nil (w : World) (A : Option Addr) (c : Nat) : In w A c [] := ⟨Rn.nil _ _, Lim.nil, Nat.zero_le _⟩
theorem iv_can (n : Int) : iv (decide (n < 0)) (V (dg n.natAbs)) = n := by
  rw [V_dg]; unfold iv; split
  · rename_i h; have := of_decide_eq_true h; omega
  · rename_i h; have : ¬ n < 0 := by simpa using h
    omega
theorem iv_natAbs {xs : List Int} (h : Lim xs) (s : Bool) : (iv s (V xs)).natAbs = (V xs).toNat := by
  have := V_nonneg h
  unfold iv; split <;> omega
theorem iv_lt {xs : List Int} (h : Lim xs) (s : Bool) : ((iv s (V xs)).natAbs : Int) < Bp xs.length := by
  rw [iv_natAbs h]
  have := V_nonneg h
  have := V_lt h
  omega
theorem dg_abs_le {n : Int} {k : Nat} (h : (n.natAbs : Int) < Bp k) : (dg n.natAbs).length ≤ k := dg_length_le h
theorem abs_mul_lt {m n : Int} {i j : Nat} (h : (m.natAbs : Int) < Bp i) (k : (n.natAbs : Int) < Bp j) : ((m * n).natAbs : Int) < Bp (i + j) := by
  rw [Int.natAbs_mul, Bp_add]
  push_cast
  have h1 : (m.natAbs : Int) * n.natAbs ≤ m.natAbs * Bp j := Int.mul_le_mul_of_nonneg_left (by omega) (by omega)
  have h2 : (m.natAbs : Int) * Bp j < Bp i * Bp j := Int.mul_lt_mul_of_pos_right h (Bp_pos j)
  omega

/-- a number in new memory, and where -/
def ToldF (w : World) (n : Int) (e : Ending) (w' : World) : Prop :=
  ∃ A c, e = .returned (.slice A (dg n.toNat).length c) ∧ (dg n.toNat).length ≤ c ∧ Rn w' A (dg n.toNat) ∧ Below w.heap.size w w' ∧ ∀ ad, A = some ad → w.heap.size ≤ ad.block

theorem ToldF.told {w : World} {n : Int} {e : Ending} {w' : World} (h : ToldF w n e w') : Told w n e w' := by
  obtain ⟨A, c, h1, h2, h3, h4, _⟩ := h
  exact ⟨A, c, h1, h2, h3, h4⟩

set_option maxHeartbeats 2000000 in
theorem r1_NormF (A : Option Addr) (c : Nat) (xs : List Int) (w : World) (h : In w A c xs) (hm : xs.length ≤ 2199023255552) :
    Calls Tryd.prog 39 #[.slice A xs.length c] w fun e w' => ToldF w (V xs) e w' := by
  have hc := h.cap
  have HX := Lib.hid h.row
  have HL := Lib.hid h.lim
  clear h
  unfold ToldF
  go_enter Tryd.func39, Tryd.ntmps39
  go_wp2
  go_loopg [3] xs.length (fun gg s3 wr => ∃ k : Nat, k ≤ xs.length ∧ k ≤ gg ∧ s3 = .int .i64 k ∧ Hid (Below w.heap.size w wr) ∧ Hid (∀ i (hi : i < xs.length), k ≤ i → xs[i] = 0))
  case atStart => exact ⟨xs.length, by omega, by omega, rfl, Below.refl _ w, fun i hi hk => by omega⟩
  case round =>
    obtain ⟨k, hk, hg, rfl, BW, A1⟩ := hrel
    by_cases h0 : 0 < k
    · obtain ⟨j, rfl⟩ : ∃ j, k = j + 1 := ⟨k - 1, by omega⟩
      obtain ⟨ad, rfl, hcell⟩ := Knd.at_int HX.out j (by omega)
      have hcell' := cell_below BW.out hcell
      clear hcell
      by_cases hz : xs[j] = 0
      · have HZ := Lib.hid hz
        rw [hz] at hcell'
        clear hz
        go_wp2
        go_roundg j
        case measure => omega
        case rel =>
          refine ⟨j, by omega, by omega, by go_num, by first | exact BW | exact below_drewN BW _, (show Hid _ from fun i hi hj => ?_)⟩
          by_cases e : i = j
          · subst e; exact HZ.out
          · exact A1.out i hi (by omega)
      · have HT := Lib.hid (take_dg HL.out hk A1.out (fun _ => hz)).symm
        have HU := Lib.hid (HX.out.take (j + 1))
        have hln : (dg (V xs).toNat).length = j + 1 := by rw [HT.out, List.length_take]; omega
        have hul : (xs.take (j + 1)).length = j + 1 := by rw [List.length_take]; omega
        have hz' : (xs[j] == 0) = false := by simpa using hz
        clear hz HX A1
        generalize xs[j] = y at hcell' hz'
        generalize xs.take (j + 1) = us at *
        have hln' := Lib.hid (hln.trans hul.symm)
        have u1 : us.length ≤ j + 1 := by omega
        have u2 : j + 1 ≤ us.length := by omega
        clear hln hul
        have hmk := fun W => run_makeL (P := Tryd.prog) 54 85 Tryd.underlying54 info96 ((j : Int) + 1) us.length (by omega) (by omega) W
        go_wp2
        clear hmk
        obtain ⟨w0, rfl⟩ : ∃ w0, w0 = wr := ⟨wr, rfl⟩
        go_loopg [5] us.length (fun gg s5 w2 => ∃ (i : Nat) (cs : List Int), i ≤ us.length ∧ us.length - i ≤ gg ∧ s5 = .int .i64 i ∧ cs.length ≤ us.length ∧ us.length ≤ cs.length ∧ Hid (OwnN w2 w0.heap.size cs) ∧ Hid (Below w.heap.size w w2) ∧ Hid (∀ m (h1 : m < cs.length) (h2 : m < us.length), m < i → cs[m] = us[m]))
        case atStart => exact ⟨0, List.replicate us.length 0, Nat.zero_le _, by omega, rfl, by simp, by simp, own_zeros _ _ _, BW.out.alloc BW.out.size _, fun m h1 h2 hm => by omega⟩
        case round =>
          obtain ⟨i, cs, hi, hg2, rfl, hl1, hl2, HO, HB, HE⟩ := hrel
          by_cases hlt : i < us.length
          · have hltz : (i : Int) < ((j : Int) + 1) := by omega
            obtain ⟨ad2, hae, hcell⟩ := Knd.at_int HU.out i hlt
            obtain rfl := Option.some.inj hae
            have hce := cell_below HB.out hcell
            have c3 := OwnN.cell HO.out i (by omega)
            have c4 := Own.frozen HO.out i
            have HS : Hid (∀ m (h1 : m < (cs.set i us[i]).length) (h2 : m < us.length), m < i + 1 → (cs.set i us[i])[m] = us[m]) := fun m h1 h2 hm => by
              by_cases e : m = i
              · subst e; simp
              · rw [List.getElem_set_ne (by omega)]; exact HE.out m (by simpa using h1) h2 (by omega)
            clear HE hcell
            generalize us[i] = x at *
            generalize cs[i] = z at c3
            go_wp2
            go_roundg (us.length - (i + 1))
            case measure => omega
            case rel => exact ⟨i + 1, cs.set i x, by omega, by omega, by go_num, by simpa using hl1, by simpa using hl2, HO.out.set _ _, HB.out.setCell BW.out.size _, HS⟩
          · have hltz : ¬ (i : Int) < ((j : Int) + 1) := by omega
            have heq : Hid (cs = us) := by
              show _ = _
              exact List.ext_getElem (by omega) fun m h1 h2 => HE.out m h1 h2 (by omega)
            go_wp2
            go_ret
            rw [heq.out] at HO
            rw [hln'.out, HT.out]
            exact ⟨some ⟨w0.heap.size, 0, none⟩, us.length, rfl, Nat.le_refl _, OwnN.row HO.out, HB.out, fun ad9 h9 => by obtain rfl := Option.some.inj h9; exact BW.out.size⟩
    · obtain rfl : k = 0 := by omega
      have HT := Lib.hid (take_dg HL.out hk A1.out (fun h => absurd h (Nat.lt_irrefl 0))).symm
      have HU := Lib.hid (HX.out.take 0)
      have hln : (dg (V xs).toNat).length = 0 := by rw [HT.out]; rfl
      have hul : (xs.take 0).length = 0 := rfl
      clear HX A1
      generalize xs.take 0 = us at *
      have hln' := Lib.hid (hln.trans hul.symm)
      have u1 : us.length ≤ 0 := by omega
      clear hln hul
      have hmk := fun W => run_makeL (P := Tryd.prog) 54 85 Tryd.underlying54 info96 (0 : Int) us.length (by omega) (by omega) W
      go_wp2
      clear hmk
      obtain ⟨w0, rfl⟩ : ∃ w0, w0 = wr := ⟨wr, rfl⟩
      go_loopg [5] us.length (fun gg s5 w2 => ∃ (i : Nat) (cs : List Int), i ≤ us.length ∧ us.length - i ≤ gg ∧ s5 = .int .i64 i ∧ cs.length ≤ us.length ∧ us.length ≤ cs.length ∧ Hid (OwnN w2 w0.heap.size cs) ∧ Hid (Below w.heap.size w w2) ∧ Hid (∀ m (h1 : m < cs.length) (h2 : m < us.length), m < i → cs[m] = us[m]))
      case atStart => exact ⟨0, List.replicate us.length 0, Nat.zero_le _, by omega, rfl, by simp, by simp, own_zeros _ _ _, BW.out.alloc BW.out.size _, fun m h1 h2 hm => by omega⟩
      case round =>
        obtain ⟨i, cs, hi, hg2, rfl, hl1, hl2, HO, HB, HE⟩ := hrel
        by_cases hlt : i < us.length
        · exact absurd hlt (by omega)
        · have hltz : ¬ (i : Int) < (0 : Int) := by omega
          have heq : Hid (cs = us) := by
            show _ = _
            exact List.ext_getElem (by omega) fun m h1 h2 => HE.out m h1 h2 (by omega)
          go_wp2
          go_ret
          rw [heq.out] at HO
          rw [hln'.out, HT.out]
          exact ⟨some ⟨w0.heap.size, 0, none⟩, us.length, rfl, Nat.le_refl _, OwnN.row HO.out, HB.out, fun ad9 h9 => by obtain rfl := Option.some.inj h9; exact BW.out.size⟩

theorem r1_Norm (A : Option Addr) (c : Nat) (xs : List Int) (w : World) (h : In w A c xs) (hm : xs.length ≤ 2199023255552) :
    Calls Tryd.prog 39 #[.slice A xs.length c] w fun e w' => Told w (V xs) e w' := (r1_NormF A c xs w h hm).mono fun _ _ hh => hh.told

set_option maxHeartbeats 1000000 in
theorem r1_Of (n : Int) (w : World) (h0 : 0 ≤ n) (h1 : n < 18446744073709551616) :
    Calls Tryd.prog 42 #[.int .u64 n] w fun e w' => Told w n e w' := by
  have HO := Lib.hid (r1_Norm (some ⟨w.heap.size, 0, none⟩) 2 [n % 4294967296, n / 4294967296] (w.alloc (.cells #[.int .u32 (n % 4294967296), .int .u32 (n / 4294967296)] 85))
    ⟨Rn.two (by simp [go_sem]) (by simp [go_sem]), Lim.cons (by omega) (by omega) (Lim.cons (by omega) (by omega) Lim.nil), Nat.le_refl _⟩ (by simp))
  rw [V_two] at HO
  go_enter Tryd.func42, Tryd.ntmps42
  go_wp2_with fail
  refine HO.out.mono ?_
  clear HO
  rintro e w6 ⟨A6, c6, rfl, g4, g5, g6⟩
  have HB := Lib.hid ((((Below.refl _ w).alloc (Nat.le_refl _) _).trans (g6.mono (by simp)) : Below w.heap.size w w6))
  have G5 := Lib.hid g5
  clear g5 g6
  go_wp2
  go_ret
  exact ⟨A6, c6, rfl, g4, G5.out, HB.out⟩

/-- an answer that is a number, as a fact of the new world -/
def ToldN (w : World) (n : Nat) (e : Ending) (w' : World) : Prop := ∃ A c, e = .returned (.slice A (dg n).length c) ∧ In w' A c (dg n) ∧ Below w.heap.size w w'

theorem Told.nat {w : World} {n : Nat} {e : Ending} {w' : World} (h : Told w (n : Int) e w') : ToldN w n e w' := by
  obtain ⟨A, c, h1, h2, h3, h4⟩ := h
  rw [Int.toNat_natCast] at h1 h2 h3
  exact ⟨A, c, h1, In.dg h3 h2, h4⟩

theorem r1_NormN (A : Option Addr) (c : Nat) (xs : List Int) (w : World) (h : In w A c xs) (hm : xs.length ≤ 2199023255552) :
    Calls Tryd.prog 39 #[.slice A xs.length c] w fun e w' => ToldN w (V xs).toNat e w' := by
  refine (r1_Norm A c xs w h hm).mono fun e w' hh => ?_
  have := V_nonneg h.lim
  exact Told.nat (by rw [show (((V xs).toNat : Nat) : Int) = V xs by omega]; exact hh)

set_option maxHeartbeats 1000000 in
set_option maxRecDepth 100000 in
theorem r2_made (s : Bool) (A : Option Addr) (c : Nat) (xs : List Int) (w : World) (h : In w A c xs) (hm : xs.length ≤ 2199023255552) (n : Int) (hn : n = iv s (V xs)) :
    Calls Tryd.prog 41 #[.bool s, .slice A xs.length c] w fun e w' => ToldI w n e w' := by
  have HF := Lib.hid ((Fr.refl w).box [.bool false, .slice none 0 0] 56)
  have hN := Lib.hid (r1_NormN A c xs _ (h.below HF.out.bel) hm)
  have hv := V_nonneg h.lim
  have habs : (V xs).toNat = n.natAbs := by rw [hn, iv_natAbs h.lim]
  have hb : decide (n < 0) = (s && decide (0 < (dg n.natAbs).length)) := by
    have h0 : 0 < (dg n.natAbs).length ↔ V xs ≠ 0 := by
      have h1 : (dg n.natAbs).length = 0 ↔ V xs = 0 := by rw [List.length_eq_zero_iff, dg_eq_nil]; omega
      omega
    rw [hn] at *
    cases s with
    | true =>
      simp only [iv, if_true, Bool.true_and] at *
      exact decide_eq_decide.2 (by omega)
    | false =>
      simp only [iv, Bool.false_eq_true, if_false, Bool.false_and] at *
      exact decide_eq_false (by omega)
  rw [habs] at hN
  clear h hn hv habs
  have HBB := Lib.hid hb
  clear hb
  go_enter Tryd.func41, Tryd.ntmps41
  go_wp2_with fail
  refine hN.out.mono ?_
  rintro e W1 ⟨A1, c1, rfl, q1, q2⟩
  replace HF := Lib.hid (HF.out.below q2)
  have Q1 := Lib.hid q1
  clear q1 q2 hN
  have hf0 := HF.out.frozenN 0 rfl 0
  have hf1 := HF.out.frozenN 0 rfl 1
  have hd0 := HF.out.cellN 0 rfl 0 rfl
  have hd1 := HF.out.cellN 0 rfl 1 rfl
  have HE := Lib.hid (end_int HF.out (by simp) (by simp) (by omega) Q1.out.cap Q1.out.row rfl)
  rw [HBB.out] at HE
  clear HBB
  cases s with
  | false =>
    rw [Bool.false_and] at HE
    go_wp2
    obtain ⟨f1, f2⟩ := HE.out
    exact post_own f2 rfl rfl rfl Tryd.underlying56 rfl (by kernel_rfl) f1
  | true =>
    rw [Bool.true_and] at HE
    by_cases hu : 0 < (dg n.natAbs).length
    · rw [decide_eq_true hu] at HE
      go_wp2
      obtain ⟨f1, f2⟩ := HE.out
      exact post_own f2 rfl rfl rfl Tryd.underlying56 rfl (by kernel_rfl) f1
    · rw [decide_eq_false hu] at HE
      go_wp2
      obtain ⟨f1, f2⟩ := HE.out
      exact post_own f2 rfl rfl rfl Tryd.underlying56 rfl (by kernel_rfl) f1

set_option maxHeartbeats 1000000 in
set_option maxRecDepth 100000 in
theorem r2_Norm (s : Bool) (A : Option Addr) (c : Nat) (xs : List Int) (w : World) (h : In w A c xs) (hm : xs.length ≤ 2199023255552) :
    Calls Tryd.prog 57 #[.agg #[.bool s, .slice A xs.length c]] w fun e w' => ToldI w (iv s (V xs)) e w' := by
  have hM := Lib.hid (fun (W : World) (hb : Below w.heap.size w W) => r2_made s A c xs W (h.below hb) hm _ rfl)
  clear h
  generalize iv s (V xs) = n at *
  have HF := Lib.hid (((Fr.refl w).box [.bool s, .slice A xs.length c] 56).box [.bool false, .slice none 0 0] 56)
  have hsz : (w.alloc (.cells #[.bool s, .slice A xs.length c] 56)).heap.size = w.heap.size + 1 := by simp
  rw [show [Value.bool s, Value.slice A xs.length c].toArray = #[Value.bool s, Value.slice A xs.length c] from rfl, hsz] at HF
  clear hsz
  go_enter Tryd.func57, Tryd.ntmps57
  go_wp2_with fail
  refine (hM.out _ HF.out.bel).mono ?_
  rintro e W1 ⟨A1, c1, rfl, q1, q2, q3⟩
  replace HF := Lib.hid (HF.out.below q3)
  have Q2 := Lib.hid q2
  clear q2 q3 hM
  have hf0 := HF.out.frozenN 0 rfl 0
  have hf1 := HF.out.frozenN 0 rfl 1
  have hd0 := HF.out.cellN 0 rfl 0 rfl
  have hd1 := HF.out.cellN 0 rfl 1 rfl
  have HE := Lib.hid (end_int HF.out (by simp) (by simp) (by omega) q1 Q2.out rfl)
  generalize decide (n < 0) = b at HE ⊢
  go_wp2
  obtain ⟨f1, f2⟩ := HE.out
  exact post_own f2 rfl rfl rfl Tryd.underlying56 rfl (by kernel_rfl) f1

set_option maxHeartbeats 1000000 in
set_option maxRecDepth 100000 in
theorem r2_Of (n : Int) (w : World) (h0 : -9223372036854775808 ≤ n) (h1 : n ≤ 9223372036854775807) :
    Calls Tryd.prog 31 #[.int .i64 n] w fun e w' => ToldI w n e w' := by
  have HF := Lib.hid ((Fr.refl w).box [.bool false, .slice none 0 0] 56)
  have hO := Lib.hid (fun (W : World) => (r1_Of (n.natAbs : Int) W (by omega) (by omega)).mono fun e w' hh => Told.nat hh)
  have hlen : (dg n.natAbs).length ≤ 2199023255552 := by
    have h2 : (dg n.natAbs).length ≤ 2 := dg_length_le (by show _ < (4294967296 : Int) ^ 2; omega)
    omega
  have hN := Lib.hid (fun (W : World) (A' : Option Addr) (c' : Nat) (hr : In W A' c' (dg n.natAbs)) => r2_made (decide (n < 0)) A' c' (dg n.natAbs) W hr hlen n (iv_can n).symm)
  clear hlen
  by_cases hn : n < 0
  · have e1 : IntKind.u64.wrap n = n + 18446744073709551616 := by rw [IntKind.wrap_u64]; omega
    have e2 : IntKind.u64.wrap (0 - (n + 18446744073709551616)) = (n.natAbs : Int) := by rw [IntKind.wrap_u64]; omega
    have e3 : IntKind.u64.wrap (-(n + 18446744073709551616)) = (n.natAbs : Int) := by rw [IntKind.wrap_u64]; omega
    rw [decide_eq_true hn] at hN
    go_enter Tryd.func31, Tryd.ntmps31
    go_wp2_with fail
    refine (hO.out _).mono ?_
    rintro e W1 ⟨A1, c1, rfl, q1, q2⟩
    replace HF := Lib.hid (HF.out.below q2)
    have Q1 := Lib.hid q1
    clear q1 q2 e1 e2 e3
    go_wp2_with fail
    refine (hN.out W1 A1 c1 Q1.out).mono ?_
    rintro e W2 ⟨A2, c2, rfl, r1, r2, r3⟩
    replace HF := Lib.hid (HF.out.below r3)
    have Q2 := Lib.hid r2
    clear r2 r3
    have hf0 := HF.out.frozenN 0 rfl 0
    have hf1 := HF.out.frozenN 0 rfl 1
    have hd0 := HF.out.cellN 0 rfl 0 rfl
    have hd1 := HF.out.cellN 0 rfl 1 rfl
    have HE := Lib.hid (end_int HF.out (by simp) (by simp) (by omega) r1 Q2.out rfl)
    generalize decide (n < 0) = b at HE ⊢
    go_wp2
    obtain ⟨f1, f2⟩ := HE.out
    exact post_own f2 rfl rfl rfl Tryd.underlying56 rfl (by kernel_rfl) f1
  · have e1 : IntKind.u64.wrap n = (n.natAbs : Int) := by rw [IntKind.wrap_u64]; omega
    rw [decide_eq_false hn] at hN
    go_enter Tryd.func31, Tryd.ntmps31
    go_wp2_with fail
    refine (hO.out _).mono ?_
    rintro e W1 ⟨A1, c1, rfl, q1, q2⟩
    replace HF := Lib.hid (HF.out.below q2)
    have Q1 := Lib.hid q1
    clear q1 q2 e1
    go_wp2_with fail
    refine (hN.out W1 A1 c1 Q1.out).mono ?_
    rintro e W2 ⟨A2, c2, rfl, r1, r2, r3⟩
    replace HF := Lib.hid (HF.out.below r3)
    have Q2 := Lib.hid r2
    clear r2 r3
    have hf0 := HF.out.frozenN 0 rfl 0
    have hf1 := HF.out.frozenN 0 rfl 1
    have hd0 := HF.out.cellN 0 rfl 0 rfl
    have hd1 := HF.out.cellN 0 rfl 1 rfl
    have HE := Lib.hid (end_int HF.out (by simp) (by simp) (by omega) r1 Q2.out rfl)
    generalize decide (n < 0) = b at HE ⊢
    go_wp2
    obtain ⟨f1, f2⟩ := HE.out
    exact post_own f2 rfl rfl rfl Tryd.underlying56 rfl (by kernel_rfl) f1

/-- the sign of a difference -/
def sgn (a : Int) : Int := if a < 0 then -1 else if 0 < a then 1 else 0

set_option maxHeartbeats 1000000 in
set_option maxRecDepth 100000 in
theorem r2_Sign (s : Bool) (A : Option Addr) (c : Nat) (xs : List Int) (w : World) (h : In w A c xs) (hm : xs.length ≤ 2199023255552) :
    Calls Tryd.prog 40 #[.agg #[.bool s, .slice A xs.length c]] w fun e w' => e = .returned (.int .i64 (sgn (iv s (V xs)))) ∧ Below w.heap.size w w' := by
  have hN := Lib.hid (fun (W : World) (hb : Below w.heap.size w W) => r2_Norm s A c xs W (h.below hb) hm)
  clear h
  generalize iv s (V xs) = n at *
  have HF := Lib.hid ((Fr.refl w).box [.bool s, .slice A xs.length c] 56)
  rw [show [Value.bool s, Value.slice A xs.length c].toArray = #[Value.bool s, Value.slice A xs.length c] from rfl] at HF
  have hl0 : (dg n.natAbs).length = 0 ↔ n = 0 := by rw [List.length_eq_zero_iff, dg_eq_nil]; omega
  obtain ⟨r, hr⟩ : ∃ r, r = sgn n := ⟨_, rfl⟩
  rw [← hr]
  have HRR := Lib.hid hr
  clear hr
  go_enter Tryd.func40, Tryd.ntmps40
  go_wp2_with fail
  refine (hN.out _ HF.out.bel).mono ?_
  rintro e W1 ⟨A1, c1, rfl, q1, q2, q3⟩
  replace HF := Lib.hid (HF.out.below q3)
  clear q1 q2 q3 hN
  have HB := Lib.hid HF.out.bel
  by_cases hn : n < 0
  · obtain rfl : r = -1 := by rw [HRR.out]; unfold sgn; rw [if_pos hn]
    clear HRR
    generalize hb : decide (n < 0) = b
    obtain rfl : b = true := by rw [← hb]; exact decide_eq_true hn
    clear hb hl0 hn
    go_wp2
    go_ret
    exact ⟨rfl, HB.out.alloc HB.out.size _⟩
  · generalize hb : decide (n < 0) = b
    obtain rfl : b = false := by rw [← hb]; exact decide_eq_false hn
    clear hb
    by_cases h0 : n = 0
    · have hz : ¬ 0 < (dg n.natAbs).length := by omega
      obtain rfl : r = 0 := by rw [HRR.out]; unfold sgn; rw [if_neg hn, if_neg (by omega)]
      clear HRR
      generalize (dg n.natAbs).length = L at *
      clear hl0 hn h0
      go_wp2
      go_ret
      exact ⟨rfl, HB.out.alloc HB.out.size _⟩
    · have hz : 0 < (dg n.natAbs).length := by omega
      obtain rfl : r = 1 := by rw [HRR.out]; unfold sgn; rw [if_neg hn, if_pos (by omega)]
      clear HRR
      generalize (dg n.natAbs).length = L at *
      clear hl0 hn h0
      go_wp2
      go_ret
      exact ⟨rfl, HB.out.alloc HB.out.size _⟩

end Go.Proofs.YtafmomlgkehdfaaDoor.F
