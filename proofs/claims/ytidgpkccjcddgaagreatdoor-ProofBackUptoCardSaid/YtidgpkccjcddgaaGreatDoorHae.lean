/- Blocks told apart by their type; own lists of structs that own lists: atoms, steps. No condition. -/
import Derived.Test.YtidgpkccjcddgaaGreatDoorHad
import Derived.Test.YtidgpkccjcddgaaGreatDoorGo
import Derived.Deep.Cut
import Derived.Shelf.Vars
import Derived.Stop.LaidErr
import Derived.LaidLaws
set_option linter.unusedVariables false
set_option linter.unusedSimpArgs false
namespace Go.Proofs.YtidgpkccjcddgaaGreatDoor.F
open Go.ChangeShapes Go.WideShapes Go.ChangeAt Go.RowKit Go.Shelf
def OwnT (w : World) (g : Nat) (t : TypeId) (cs : List Value) : Prop := w.heap[g]? = some (.cells cs.toArray t (0, 0))
theorem OwnT.own {w : World} {g : Nat} {t : TypeId} {cs : List Value} (h : OwnT w g t cs) : Own w g cs := ⟨t, h⟩
theorem OwnT.mk {w : World} (cs : List Value) (t : TypeId) : OwnT (w.alloc (.cells cs.toArray t (0, 0))) w.heap.size t cs := by show (w.heap.push _)[w.heap.size]? = _; simp
theorem OwnT.set {w : World} {g : Nat} {t : TypeId} {cs : List Value} (h : OwnT w g t cs) (i : Nat) (v : Value) : OwnT (w.setCell ⟨g, i, none⟩ v) g t (cs.set i v) := by
 have hlt := (Array.getElem?_eq_some_iff.1 h).1
 unfold OwnT at *
 simp only [World.setCell, Array.getElem?_modify, if_pos, h]
 simp
theorem OwnT.lt {w : World} {g : Nat} {t : TypeId} {cs : List Value} (h : OwnT w g t cs) : g < w.heap.size := (Array.getElem?_eq_some_iff.1 h).1
def KeepT (t : TypeId) (w w' : World) : Prop := w.heap.size ≤ w'.heap.size ∧ ∀ (k : Nat) cur fz, w.heap[k]? = some (.cells cur t fz) → w'.heap[k]? = some (.cells cur t fz)
theorem KeepT.refl (t : TypeId) (w : World) : KeepT t w w := ⟨Nat.le_refl _, fun _ _ _ h => h⟩
theorem KeepT.trans {t : TypeId} {a b c : World} (h : KeepT t a b) (k : KeepT t b c) : KeepT t a c := ⟨Nat.le_trans h.1 k.1, fun i cur fz e => k.2 i cur fz (h.2 i cur fz e)⟩
theorem KeepT.below {t : TypeId} {w w' : World} (h : Below w.heap.size w w') : KeepT t w w' := ⟨h.size, fun k _ _ e => (h.block k (Array.getElem?_eq_some_iff.1 e).1).trans e⟩
theorem KeepT.set {t u : TypeId} {w : World} {g : Nat} {cs : List Value} (h : OwnT w g u cs) (hn : t ≠ u) (i : Nat) (v : Value) : KeepT t w (w.setCell ⟨g, i, none⟩ v) := by
 refine ⟨by simp [World.setCell], fun k cur fz e => ?_⟩
 have hk : k ≠ g := by
  rintro rfl
  rw [h] at e
  simp only [Option.some.injEq, Obj.cells.injEq] at e
  exact hn e.2.1.symm
 exact (Below.heap_setCell w _ v k hk).trans e
theorem KeepT.soft {t u : TypeId} {w w' : World} {B n sz : Nat} {v : Value} {xs : List Value} (h : Soft B v w w') (ho : OwnL w B u sz v n xs) (hn : t ≠ u) : KeepT t w w' := by
 refine ⟨h.below.size, fun k cur fz e => ?_⟩
 have hk := (Array.getElem?_eq_some_iff.1 e).1
 refine (h.other k hk fun hv => ?_).trans e
 rcases ho.2 with ⟨rfl, _⟩ | ⟨g, cap, cur', rfl, h2, h3, _⟩
 · cases hv
 · simp only [Value.ownBlock, Option.some.injEq] at hv
   subst hv
   rw [h3] at e
   simp only [Option.some.injEq, Obj.cells.injEq] at e
   exact hn e.2.1.symm
theorem OwnT.keep {w w' : World} {g : Nat} {t : TypeId} {cs : List Value} (h : OwnT w g t cs) (k : KeepT t w w') : OwnT w' g t cs := k.2 _ _ _ h
theorem OwnL.keepT {w w' : World} {B n sz : Nat} {e : TypeId} {v : Value} {xs : List Value} (h : OwnL w B e sz v n xs) (k : KeepT e w w') : OwnL w' B e sz v n xs := by
 refine ⟨h.1, ?_⟩
 rcases h.2 with h | ⟨g, cap, cur, h1, h2, h3, h4⟩
 · exact .inl h
 · exact .inr ⟨g, cap, cur, h1, h2, k.2 _ _ _ h3, h4⟩
theorem OwnF.keepT {w w' : World} {B : Nat} {v : Value} {l : Frm} (h : OwnF w B v l) (hu : KeepU w w') (k : KeepT 57 w w') : OwnF w' B v l := by
 obtain ⟨rs, h1, h2, h3⟩ := h
 exact ⟨rs, h1, h2.keepT k, fun r hr => (h3 r hr).keep hu⟩
theorem flat_sz {sz : Nat} : ∀ (rs : List (List Value)), (∀ r ∈ rs, r.length = sz) → rs.flatten.length = rs.length * sz ∧ ∀ i j u (hi : i < rs.length), rs[i][j]? = some u → rs.flatten[i * sz + j]? = some u
 | [], _ => ⟨by simp, fun i j u hi => by simp at hi⟩
 | r :: rs, h => by
  obtain ⟨h1, h2⟩ := flat_sz rs fun x hx => h x (by simp [hx])
  have hr := h r (by simp)
  refine ⟨by rw [List.flatten_cons, List.length_append, h1, hr, List.length_cons, Nat.succ_mul]; omega, fun i j u hi hu => ?_⟩
  rw [List.flatten_cons]
  cases i with
  | zero =>
   rw [Nat.zero_mul, Nat.zero_add]
   have hj : j < r.length := (List.getElem?_eq_some_iff.1 hu).1
   rw [List.getElem?_append_left hj]
   exact hu
  | succ i =>
   have e : (i + 1) * sz + j = r.length + (i * sz + j) := by rw [Nat.succ_mul, hr]; omega
   rw [e, List.getElem?_append_right (by omega), show r.length + (i * sz + j) - r.length = i * sz + j by omega]
   exact h2 i j u (by simpa using hi) hu
def Nst {α : Type} (ts : List TypeId) (At : World → α → List Value → Prop) : Prop := ∀ w w' x cs, At w x cs → KeepU w w' → (∀ t ∈ ts, KeepT t w w') → At w' x cs
def OwY {α : Type} (w : World) (B : Nat) (e : TypeId) (sz : Nat) (At : World → α → List Value → Prop) (v : Value) (xs : List α) : Prop :=
 ∃ rs : List (List Value), rs.length = xs.length ∧ (∀ r ∈ rs, r.length = sz) ∧ (∀ i (h : i < xs.length) (h' : i < rs.length), At w xs[i] rs[i]) ∧ OwnL w B e sz v xs.length rs.flatten
theorem OwY.nil {α : Type} (w : World) (B : Nat) (e : TypeId) (sz : Nat) (At : World → α → List Value → Prop) : OwY w B e sz At (.slice none 0 0) [] :=
 ⟨[], rfl, fun r h => (List.not_mem_nil h).elim, fun i h => absurd h (Nat.not_lt_zero _), OwnL.nil _ _ _ _⟩
theorem OwY.keep {α : Type} {w w' : World} {B : Nat} {e : TypeId} {sz : Nat} {At : World → α → List Value → Prop} {v : Value} {xs : List α} {ts : List TypeId} (h : OwY w B e sz At v xs) (hn : Nst ts At) (hu : KeepU w w') (hk : ∀ t ∈ ts, KeepT t w w') (he : KeepT e w w') : OwY w' B e sz At v xs := by
 obtain ⟨rs, h1, h2, h3, h4⟩ := h
 exact ⟨rs, h1, h2, fun i a b => hn _ _ _ _ (h3 i a b) hu hk, h4.keepT he⟩
theorem OwY.below {α : Type} {w w' : World} {B : Nat} {e : TypeId} {sz : Nat} {At : World → α → List Value → Prop} {v : Value} {xs : List α} {ts : List TypeId} (h : OwY w B e sz At v xs) (hn : Nst ts At) (hb : Below w.heap.size w w') : OwY w' B e sz At v xs :=
 h.keep hn (KeepU.below hb) (fun _ _ => KeepT.below hb) (KeepT.below hb)
theorem OwY.form {α : Type} {w : World} {B : Nat} {e : TypeId} {sz : Nat} {At : World → α → List Value → Prop} {v : Value} {xs : List α} (h : OwY w B e sz At v xs) : ∃ A c, v = .slice A xs.length c ∧ xs.length ≤ c := by
 obtain ⟨rs, h1, h2, h3, h4⟩ := h
 obtain ⟨A, c, rfl, h5, _⟩ := h4.form
 exact ⟨A, c, rfl, h5⟩
theorem OwY.row {α : Type} {w : World} {B : Nat} {e : TypeId} {sz : Nat} {At : World → α → List Value → Prop} {v : Value} {xs : List α} {d : Knd α} (h : OwY w B e sz At v xs) (hd : d.sz = sz) (hC : ∀ x cs, x ∈ xs → At w x cs → d.C w x cs) : ∃ A c, v = .slice A xs.length c ∧ xs.length ≤ c ∧ d.Row w A xs := by
 obtain ⟨rs, h1, h2, h3, h4⟩ := h
 obtain ⟨A, c, rfl, h5, _, h6⟩ := h4.form
 obtain ⟨f1, f2⟩ := flat_sz rs h2
 refine ⟨A, c, rfl, h5, fun i hi => ?_⟩
 obtain ⟨ad, rfl, h7⟩ := h6 (by omega)
 refine ⟨ad, rs[i]'(by omega), rfl, hC _ _ (List.getElem_mem hi) (h3 i hi (by omega)), fun j u hu => h7 _ u ?_⟩
 rw [hd]
 exact f2 i j u (by omega) hu
theorem OwY.push {α : Type} {P : Program} {w : World} {B : Nat} {t ty e : TypeId} {z : Value} {sz bytes : Nat} {At : World → α → List Value → Prop} {v : Value} {xs : List α} {ts : List TypeId} {g : Nat} {x : α} {cs : List Value} (ht : P.underlying t = some (.slice e)) (hi : (P.info? e).map (fun i => (i.zero, i.size, i.bytes)) = some (some z, sz, bytes))
 (hzs : z.cells.size = sz) (hzu : NoU z.cells.toList) (h : OwY w B e sz At v xs) (hn : Nst ts At) (hne : ∀ t ∈ ts, t ≠ e) (hg : Own w g cs) (hx : At w x cs) (hcs : cs.length = sz) (h1 : ∀ u ∈ cs, u.oneCell' = true) (hu : NoU cs)
 (hl : xs.length + 1 ≤ 2199023255552) (hbt : bytes ≤ 64) (hB : B ≤ w.heap.size) :
 ∃ v' w', (Builtin.append_ #[t, t] ty #[v, .slice (some ⟨g, 0, none⟩) 1 1]).run P w = .ok v' w' ∧ OwY w' B e sz At v' (xs ++ [x]) ∧ Below B w w' ∧ KeepU w w' ∧ ∀ t, t ≠ e → KeepT t w w' := by
 obtain ⟨rs, k1, k2, k3, k4⟩ := h
 obtain ⟨v', w', hr, ho, hs⟩ := push_any (P := P) (ty := ty) (c := 1) (m := 1) (news := cs) (A := some ⟨g, 0, none⟩) ht hi hzs k4 (by rw [hcs, Nat.one_mul]) (fun _ => ⟨_, rfl, fun j u hj => by
  rw [show (⟨g, 0, none⟩ : Addr).add j = ⟨g, j, none⟩ from by unfold Addr.add; split <;> simp_all]
  have hjl := (List.getElem?_eq_some_iff.1 hj).1
  rw [hg.cell j hjl, ← hj, List.getElem?_eq_getElem hjl]⟩) h1 hu hzu (by simp only [maxLen]; omega) (Nat.le_trans (Nat.mul_le_mul hl hbt) (by decide)) hB
 have hkt : ∀ t, t ≠ e → KeepT t w w' := fun t ht => KeepT.soft hs k4 ht
 refine ⟨v', w', hr, ⟨rs ++ [cs], by simp [k1], fun r hr => ?_, fun i a b => ?_, ?_⟩, hs.below, hs.keep, hkt⟩
 · rcases List.mem_append.1 hr with hr | hr
   · exact k2 r hr
   · rw [List.mem_singleton.1 hr]; exact hcs
 · rw [List.length_append, List.length_singleton] at a b
   by_cases hi : i < xs.length
   · rw [List.getElem_append_left hi, List.getElem_append_left (by omega)]
     exact hn _ _ _ _ (k3 i hi (by omega)) hs.keep fun t ht => hkt t (hne t ht)
   · have : i = xs.length := by omega
     subst this
     rw [List.getElem_append_right (Nat.le_refl _), List.getElem_append_right (by omega)]
     simp only [Nat.sub_self, k1, List.getElem_singleton]
     exact hn _ _ _ _ hx hs.keep fun t ht => hkt t (hne t ht)
 · rw [List.flatten_append, List.length_append, List.length_singleton]
   simpa using ho
theorem kRat_of {w : World} {x : RatD} {A : Option Addr} {c : Nat} {B : Option Addr} {d : Nat} (h : InD w x A c B d) (h1 : x.1.2.length ≤ 137438953472) (h2 : x.2.length ≤ 137438953472) : kRat.C w x [.bool x.1.1, .slice A x.1.2.length c, .slice B x.2.length d] :=
 ⟨[_, _], [_], rfl, ⟨[_], [_], rfl, rfl, A, c, rfl, h.num.cap, by omega, h.num.row⟩, B, d, rfl, h.den.cap, by omega, h.den.row⟩
theorem InD.keep {w w' : World} {x : RatD} {A : Option Addr} {c : Nat} {B : Option Addr} {d : Nat} (h : InD w x A c B d) (hk : KeepU w w') : InD w' x A c B d := ⟨h.num.keep hk, h.den.keep hk⟩
def AtQ (w : World) (x : RatD) (cs : List Value) : Prop := ∃ A c B d, cs = [.bool x.1.1, .slice A x.1.2.length c, .slice B x.2.length d] ∧ InD w x A c B d ∧ x.1.2.length ≤ 137438953472 ∧ x.2.length ≤ 137438953472
theorem atQ_nst : Nst [] AtQ := fun w w' x cs h hu _ => by
 obtain ⟨A, c, B, d, h1, h2, h3, h4⟩ := h
 exact ⟨A, c, B, d, h1, h2.keep hu, h3, h4⟩
theorem AtQ.knd {w : World} {x : RatD} {cs : List Value} (h : AtQ w x cs) : kRat.C w x cs := by
 obtain ⟨A, c, B, d, rfl, h2, h3, h4⟩ := h
 exact kRat_of h2 h3 h4
def ic (c : List Int) : List Value := c.map (Value.int .i64)
def OwZ (w : World) (v : Value) (l : List Int) : Prop := OwnL w 0 3 1 v l.length (ic l)
theorem OwZ.keep {w w' : World} {v : Value} {l : List Int} (h : OwZ w v l) (k : KeepT 3 w w') : OwZ w' v l := OwnL.keepT h k
theorem OwZ.row {w : World} {v : Value} {l : List Int} (h : OwZ w v l) : ∃ A c, v = .slice A l.length c ∧ l.length ≤ c ∧ c ≤ maxLen ∧ (Knd.int .i64).Row w A l := by
 obtain ⟨A, c, rfl, h1, h2, h3⟩ := OwnL.form h
 refine ⟨A, c, rfl, h1, h2, fun i hi => ?_⟩
 obtain ⟨ad, rfl, h4⟩ := h3 (by omega)
 refine ⟨ad, [.int .i64 l[i]], rfl, rfl, fun j u hu => ?_⟩
 have hj : j = 0 := by
  cases j with
  | zero => rfl
  | succ j => simp at hu
 subst hj
 simp at hu
 subst hu
 rw [show i * (Knd.int .i64).sz + 0 = i from by show i * 1 + 0 = i; omega]
 exact h4 i _ (by simp [ic, hi])
abbrev OwQ (w : World) (v : Value) (l : List RatD) : Prop := OwY w 0 43 3 AtQ v l
theorem OwQ.row {w : World} {v : Value} {l : List RatD} (h : OwQ w v l) : ∃ A c, v = .slice A l.length c ∧ l.length ≤ c ∧ kRat.Row w A l := OwY.row h rfl fun x cs _ h => AtQ.knd h
def AtO (w : World) (d : AtomD) (cs : List Value) : Prop := ∃ nm l q st E j A c B e, d = tokA nm l q st ∧ cs = atc d E j A c B e ∧ OwnF w 0 (.slice E l.length j) l ∧ InQ w A c B e q ∧ CanF l ∧ QL q
theorem atO_nst : Nst [57] AtO := fun w w' d cs h hu hk => by
 obtain ⟨nm, l, q, st, E, j, A, c, B, e, rfl, h2, h3, h4, h5⟩ := h
 exact ⟨nm, l, q, st, E, j, A, c, B, e, rfl, h2, h3.keepT hu (hk _ (by simp)), h4.keep hu, h5⟩
theorem OwnF.cap {w : World} {B : Nat} {A : Option Addr} {n c : Nat} {l : Frm} (h : OwnF w B (.slice A n c) l) : c ≤ maxLen := by
 obtain ⟨rs, h1, h2, h3⟩ := h
 obtain ⟨A', c', e, _, h4, _⟩ := h2.form
 simp only [Value.slice.injEq] at e
 rw [e.2.2]
 exact h4
theorem AtO.knd {w : World} {d : AtomD} {cs : List Value} (h : AtO w d cs) : kAtom.C w d cs := by
 obtain ⟨nm, l, q, st, E, j, A, c, B, e, rfl, rfl, h3, h4, h5, h6⟩ := h
 have hcap := h3.cap
 obtain ⟨E', j', e1, hf⟩ := h3.fin
 simp only [Value.slice.injEq, true_and] at e1
 obtain ⟨rfl, rfl⟩ := e1
 have hq : kRat.C w (canD q) [.bool (decide (q.num < 0)), .slice A (dg q.num.natAbs).length c, .slice B (dg q.den).length e] := kRat_of ⟨h4.num, h4.den⟩ h6.1 h6.2
 have hl : (l.map canM).length ≤ 9223372036854775807 := by have := hf.cap; rw [List.length_map]; simp only [maxLen] at hcap; omega
 exact ⟨[_, _, _, _, _], [_], rfl, ⟨[_, _], [_, _, _], rfl, ⟨[_], [_], rfl, rfl, E, j, rfl, by rw [List.length_map]; exact hf.cap, hl, hf.row⟩, hq⟩, rfl⟩
theorem AtO.len {w : World} {d : AtomD} {cs : List Value} (h : AtO w d cs) : cs.length = 6 := by
 obtain ⟨nm, l, q, st, E, j, A, c, B, e, rfl, rfl, _⟩ := h
 rfl
theorem AtO.one {w : World} {d : AtomD} {cs : List Value} (h : AtO w d cs) : (∀ u ∈ cs, u.oneCell' = true) ∧ NoU cs := by
 obtain ⟨nm, l, q, st, E, j, A, c, B, e, rfl, rfl, _⟩ := h
 unfold atc
 constructor
 · intro u hu
   simp only [List.mem_cons, List.not_mem_nil, or_false] at hu
   rcases hu with rfl | rfl | rfl | rfl | rfl | rfl <;> rfl
 · intro y hy
   simp at hy
abbrev OwA (w : World) (B : Nat) (v : Value) (l : List AtomD) : Prop := OwY w B 84 6 AtO v l
def StO (w : World) (d : StepD) (cs : List Value) : Prop := ∃ v1 v2 v3, cs = [.int .i64 d.1.1.1, v1, v2, v3] ∧ OwZ w v1 d.1.1.2 ∧ OwZ w v2 d.1.2 ∧ OwQ w v3 d.2 ∧ d.2.length ≤ 9223372036854775807
theorem stO_nst : Nst [3, 43] StO := fun w w' d cs h hu hk => by
 obtain ⟨v1, v2, v3, h1, h2, h3, h4, h5⟩ := h
 have k1 := hk 3 (by simp)
 have k2 := hk 43 (by simp)
 exact ⟨v1, v2, v3, h1, h2.keep k1, h3.keep k1, OwY.keep h4 atQ_nst hu (fun t ht => (List.not_mem_nil ht).elim) k2, h5⟩
theorem StO.knd {w : World} {d : StepD} {cs : List Value} (h : StO w d cs) : kStep.C w d cs := by
 obtain ⟨v1, v2, v3, rfl, h2, h3, h4, h5⟩ := h
 obtain ⟨A, a, rfl, a1, a2, a3⟩ := h2.row
 obtain ⟨B, b, rfl, b1, b2, b3⟩ := h3.row
 obtain ⟨D, e, rfl, c1, c3⟩ := OwQ.row h4
 simp only [maxLen] at a2 b2
 exact ⟨[_, _, _], [_], rfl, ⟨[_, _], [_], rfl, ⟨[_], [_], rfl, rfl, A, a, rfl, a1, by omega, a3⟩, B, b, rfl, b1, by omega, b3⟩, D, e, rfl, c1, h5, c3⟩
theorem StO.cells {w : World} {d : StepD} {cs : List Value} (h : StO w d cs) : ∃ A a B b D e, cs = [.int .i64 d.1.1.1, .slice A d.1.1.2.length a, .slice B d.1.2.length b, .slice D d.2.length e] := by
 obtain ⟨v1, v2, v3, rfl, h2, h3, h4, h5⟩ := h
 obtain ⟨A, a, rfl, _⟩ := h2.row
 obtain ⟨B, b, rfl, _⟩ := h3.row
 obtain ⟨D, e, rfl, _⟩ := OwQ.row h4
 exact ⟨A, a, B, b, D, e, rfl⟩
theorem StO.one {w : World} {d : StepD} {cs : List Value} (h : StO w d cs) : cs.length = 4 ∧ (∀ u ∈ cs, u.oneCell' = true) ∧ NoU cs := by
 obtain ⟨A, a, B, b, D, e, rfl⟩ := h.cells
 refine ⟨rfl, ?_, ?_⟩
 · intro u hu
   simp only [List.mem_cons, List.not_mem_nil, or_false] at hu
   rcases hu with rfl | rfl | rfl | rfl <;> rfl
 · intro y hy
   simp at hy
abbrev OwS (w : World) (B : Nat) (v : Value) (l : List StepD) : Prop := OwY w B 80 4 StO v l
theorem mu_szq (q : Rat) : mu q ≤ szq q + 1 := by
 refine mu_le.2 ?_
 unfold Sz szq
 have h1 := dg_lt q.num.natAbs
 have h2 := dg_lt q.den
 have h3 : Bp (dg q.num.natAbs).length ≤ Bp ((dg q.num.natAbs).length + (dg q.den).length) := Bp_le (by omega)
 have h4 : Bp (dg q.den).length ≤ Bp ((dg q.num.natAbs).length + (dg q.den).length) := Bp_le (by omega)
 have h5 : Bp ((dg q.num.natAbs).length + (dg q.den).length + 1) = 4294967296 * Bp ((dg q.num.natAbs).length + (dg q.den).length) := Bp_succ _
 omega
def cost (xs : List (List UInt8)) : Nat := (xs.map fun x => 2 * x.length + 6).sum
theorem cost_take (xs : List (List UInt8)) (i : Nat) (h : i < xs.length) : cost (xs.take (i + 1)) = cost (xs.take i) + (2 * xs[i].length + 6) := by
 unfold cost
 rw [List.take_succ_eq_append_getElem h, List.map_append, List.sum_append]
 simp
theorem cost_glue (b : UInt8) {l : List (List UInt8)} (h : l ≠ []) : cost (glueC b l) = cost l + 2 := by
 cases l with
 | nil => exact absurd rfl h
 | cons x xs => unfold cost glueC; simp only [List.map_cons, List.sum_cons, List.length_cons]; omega
theorem cost_segs (c : UInt8) : ∀ s : List UInt8, cost (segsC c s) ≤ 6 * s.length + 6
 | [] => Nat.le_refl _
 | b :: r => by
  have ih := cost_segs c r
  rw [segsC, List.length_cons]
  split
  · have e : cost ([] :: segsC c r) = 6 + cost (segsC c r) := by unfold cost; simp
    omega
  · rw [cost_glue b (segsC_ne c r)]; omega
theorem glue_len (b : UInt8) {l : List (List UInt8)} (h : l ≠ []) : (glueC b l).length = l.length := by
 cases l with
 | nil => exact absurd rfl h
 | cons x xs => rfl
theorem segs_few (c : UInt8) : ∀ s : List UInt8, (segsC c s).length ≤ s.length + 1 ∧ ∀ x ∈ segsC c s, x.length ≤ s.length
 | [] => by simp [segsC]
 | b :: r => by
  obtain ⟨h1, h2⟩ := segs_few c r
  rw [segsC]
  split
  · refine ⟨by simpa using h1, fun x hx => ?_⟩
    rcases List.mem_cons.1 hx with rfl | hx
    · simp
    · have := h2 x hx; rw [List.length_cons]; omega
  · refine ⟨by rw [glue_len b (segsC_ne c r), List.length_cons]; omega, fun x hx => ?_⟩
    cases h : segsC c r with
    | nil => exact absurd h (segsC_ne c r)
    | cons y ys =>
     rw [h] at hx h2
     simp only [glueC] at hx
     rcases List.mem_cons.1 hx with rfl | hx
     · have := h2 y List.mem_cons_self; simp only [List.length_cons]; omega
     · have := h2 x (List.mem_cons_of_mem _ hx); rw [List.length_cons]; omega
open Go.Proofs.YtidgpkccjcddgaaGreatDoorW.PrintLast
theorem split_l (l : List UInt8) (c : UInt8) (w : World) (hl : l.length ≤ 4000000000) (hL : Laid w) :
 Calls Tryz.prog 55 #[.string ⟨l.toArray⟩, .string ⟨#[c]⟩] w fun e w' => ∃ g, e = .returned (.slice (some ⟨g, 0, none⟩) (segsC c l).length (segsC c l).length) ∧ Below w.heap.size w w' ∧ ∀ i (h : i < (segsC c l).length), w'.cell? ⟨g, i, none⟩ = some (.string ⟨((segsC c l)[i]).toArray⟩) := by
 obtain ⟨m, hm⟩ := hL.mx
 refine (strings_Split ⟨l.toArray⟩ ⟨#[c]⟩ m w (by show l.toArray.size < _; rw [List.size_toArray]; omega) hm (by show 1 ≤ (#[c] : Array UInt8).size; exact Nat.le_refl _)).mono ?_
 rintro e w' ⟨rfl, rfl⟩
 have e1 : Lib.countB ⟨l.toArray⟩ ⟨#[c]⟩ + 1 = (segsC c l).length := (segsC_length c l).symm
 rw [e1]
 refine ⟨_, rfl, (Below.refl _ w).alloc (Nat.le_refl _) _, fun i h => ?_⟩
 have ho := Own.mk (w := w) ((Lib.splitB ⟨#[c]⟩ 0 (Lib.countB ⟨l.toArray⟩ ⟨#[c]⟩) ⟨l.toArray⟩).map Value.string) 9
 rw [split_segsC] at ho ⊢
 have := ho.cell i (by simpa using h)
 rw [this]
 simp
def ToldPO (w : World) (s : List UInt8) (e : Ending) (w' : World) : Prop :=
 (∃ (l : Frm) (A : Option Addr) (c : Nat), e = .returned (.tuple #[.slice A l.length c, .int .i64 0]) ∧ OwnF w' 0 (.slice A l.length c) l ∧ CanF l ∧ s = tf l ∧ mf l ≤ 6 * s.length + 6 ∧ Below w.heap.size w w') ∨
 (e = .returned (.tuple #[.slice none 0 0, .int .i64 60]) ∧ Below w.heap.size w w' ∧ ∀ l, CanF l → s ≠ tf l)
theorem pushA {w : World} {B : Nat} {v : Value} {l : Frm} {r : MC} (h : OwnF w B v l) (k : r.At w) (hl : l.length + 1 ≤ 1099511627776) (hB : B ≤ w.heap.size) :
 ∃ v' w', (Builtin.append_ #[31, 31] 31 #[v, .slice (some ⟨w.heap.size, 0, none⟩) 1 1]).run Tryz.prog (w.alloc (.cells r.cells.toArray 57)) = .ok v' w' ∧ OwnF w' B v' (l ++ [r.vq]) ∧ Below B w w' := by
 have hal : Below w.heap.size w (w.alloc (.cells r.cells.toArray 57)) := (Below.refl _ w).alloc (Nat.le_refl _) _
 obtain ⟨v', w', h1, h2, h3⟩ := push1 (t := 31) (ty := 31) Tryz.underlying31 (h.below hal) (k.keep (KeepU.below hal)) (Own.mk (w := w) r.cells 57) hl (Nat.le_trans hB hal.size)
 exact ⟨v', w', h1, h2, (hal.mono hB).trans h3.below⟩
theorem normC (A : Option Addr) (c : Nat) (l : Frm) (w : World) (h : FIn w A c l) (hm : mf l ≤ 549755813) : Calls Tryz.prog 19 #[.slice A l.length c] w (ToldFm w (nform l)) := by
 have h1 := linear_Norm l.length A c (l.map canM) w (by simp) (h.raw (by have := mf_len' l; omega))
 rwa [List.length_map, fval_can] at h1
theorem textC (A : Option Addr) (c : Nat) (l : Frm) (w : World) (h : FIn w A c l) (hv : CanF l) (hm : mf l ≤ 549755813) : Calls Tryz.prog 17 #[.slice A l.length c] w fun e w' => e = .returned (.string ⟨(tf l).toArray⟩) ∧ Below w.heap.size w w' := by
 have h2 := linear_Text A c (l.map canM) w (h.raw (by have := mf_len' l; omega)) (by rw [fval_can, nform_self hv.nf]; exact TxOk.of hv.var hm)
 rwa [List.length_map, fval_can, nform_self hv.nf] at h2
set_option maxHeartbeats 1000000 in
set_option maxRecDepth 100000 in
theorem linear_ParseO (s : List UInt8) (w : World) (hs : s.length ≤ 67108864) (hL : Laid w) :
 Calls Tryz.prog 14 #[.string ⟨s.toArray⟩] w (ToldPO w s) := by
 have HL := Lib.hid hL
 have HSp := Lib.hid (split_l s 43 w (by omega) hL)
 have hSB : (⟨s.toArray⟩ : ByteArray).toList = s := ByteArray.toList_mk s
 clear hL
 generalize (⟨s.toArray⟩ : ByteArray) = SB at *
 by_cases h0 : s = [48]
 · have hz : (s == [48]) = true := by rw [h0]; rfl
   have HXX := Lib.hid (show ∀ l0, CanF l0 → s = tf l0 → ([] : Frm) = l0 from fun l0 _ h => by
    rw [h0] at h
    by_cases hl : l0 = []
    · exact hl.symm
    · exact absurd h.symm (tf_zero hl))
   have HN := Lib.hid (fun (W : World) (k : FIn W none 0 []) => normC none 0 [] W k (by decide))
   have HCn := Lib.hid (show CanF (nform []) from CanF.nil)
   have HI := Lib.hid (FIn.nil w none 0)
   have HB := Lib.hid (Below.refl w.heap.size w)
   have hmf : mf [] ≤ 6 * s.length + 6 := Nat.zero_le _
   clear h0 HSp HL
   go_enter Tryz.func14, Tryz.ntmps14
   go_wp2_with fail
   refine (HN.out _ HI.out).mono ?_
   rintro e W3 ⟨v3, rfl, h1, hb⟩
   obtain ⟨E3, j3, rfl, k3⟩ := h1.fin
   have HI3 := Lib.hid k3
   have HO3 := Lib.hid (h1.mono (Nat.zero_le _))
   replace HB := Lib.hid (HB.out.trans (hb.mono HB.out.size))
   clear h1 k3 hb HN HI
   have HT := Lib.hid (textC E3 j3 (nform []) W3 HI3.out HCn.out (Nat.le_trans (mf_nform []) (by omega)))
   have HMn := Lib.hid (show mf (nform []) ≤ 6 * s.length + 6 from Nat.le_trans (mf_nform []) hmf)
   generalize hnl : nform [] = nl at *
   have HNL := Lib.hid hnl
   clear hnl
   go_wp2_with fail
   refine HT.out.mono ?_
   rintro e W4 ⟨rfl, q1⟩
   replace HI3 := Lib.hid (HI3.out.below q1)
   replace HO3 := Lib.hid (HO3.out.below q1)
   replace HB := Lib.hid (HB.out.trans (q1.mono HB.out.size))
   clear q1 HT
   by_cases heq : tf nl = s
   · have hte : (tf nl == s) = true := by rw [heq]; simp
     have HR := Lib.hid heq.symm
     clear heq
     go_wp2
     go_ret2
     exact .inl ⟨nl, _, _, rfl, HO3.out, HCn.out, HR.out, HMn.out, HB.out⟩
   · have hte : (tf nl == s) = false := by simpa using heq
     have HR := Lib.hid (show ∀ l0, CanF l0 → s ≠ tf l0 from fun l0 hc h => heq (by
      have h5 := HXX.out l0 hc h
      rw [← HNL.out, h5, nform_self hc.nf]
      exact h.symm))
     clear heq HNL
     go_wp2
     go_ret2
     exact .inr ⟨rfl, HB.out, HR.out⟩
 · have hz : (s == [48]) = false := by simpa using h0
   have hn0 : ∀ l0, s = tf l0 → l0 ≠ [] := fun l0 h e => h0 (by rw [h, e]; rfl)
   have hseg : ∀ l0, s = tf l0 → segsC 43 s = l0.map tt := fun l0 h => by
    rw [h]; exact tf_segs (hn0 l0 h)
   have hcost := cost_segs 43 s
   obtain ⟨hfew, hlen⟩ := segs_few 43 s
   generalize segsC 43 s = xs at *
   have HSeg := Lib.hid hseg
   have HLen := Lib.hid hlen
   clear hn0 hseg hlen h0
   go_enter Tryz.func14, Tryz.ntmps14
   go_wp2_with fail
   refine HSp.out.mono ?_
   rintro e W1 ⟨g, rfl, hb, hc⟩
   have HC := Lib.hid hc
   have HB1 := Lib.hid hb
   replace HL := Lib.hid (HL.out.below hb)
   clear hc hb HSp
   go_wp2_with fail
   go_loopg [4, 14] xs.length (fun gg s4 s14 wr => ∃ (i : Nat) (v : Value) (l : Frm), i + gg = xs.length ∧ s14 = .int .i64 i ∧ s4 = v ∧ l.length = i ∧ mf l ≤ cost (xs.take i) ∧ Hid (OwnF wr W1.heap.size v l) ∧ Hid (∀ m ∈ l, inr m.1) ∧ Hid (∀ l0, CanF l0 → s = tf l0 → l = l0.take i) ∧ Hid (Below W1.heap.size W1 wr))
   case atStart => exact ⟨0, _, [], by omega, rfl, rfl, rfl, Nat.zero_le _, OwnF.nil _ _, (show Hid _ from fun m hm => by cases hm), (show Hid _ from fun l0 _ _ => by rw [List.take_zero]), Below.refl _ _⟩
   case round =>
    obtain ⟨i, v, l, hg, rfl, rfl, hli, hmf, HO, HV, HX, HB⟩ := hrel
    by_cases hlt : i < xs.length
    · have hltz : (i : Int) < (xs.length : Int) := by omega
      have hcell := cell_below HB.out (HC.out i hlt)
      have hct := cost_take xs i hlt
      have hxl := HLen.out xs[i] (List.getElem_mem hlt)
      have HXi := Lib.hid (show ∀ l0, s = tf l0 → ∃ h : i < l0.length, xs[i] = tt l0[i] from fun l0 h => by
       have h1 := HSeg.out l0 h
       have h2 : i < l0.length := by rw [h1] at hlt; simpa using hlt
       refine ⟨h2, ?_⟩
       simp only [h1, List.getElem_map])
      have HPt := Lib.hid (linear_part xs[i] wr (by omega) (HL.out.below HB.out))
      generalize xs[i] = x at *
      go_wp2_with fail
      refine HPt.out.mono ?_
      rintro e W2 (⟨r, rfl, hat, hiv, hsz, hb, hm⟩ | ⟨v1, b1, A1, n1, c1, B1, m1, d1, rfl, hb, hm⟩)
      · have hmu := mu_szq r.q
        have HA := Lib.hid hat
        have HM := Lib.hid hm
        have HIv := Lib.hid hiv
        replace HO := Lib.hid (HO.out.below hb)
        replace HB := Lib.hid (HB.out.trans (hb.mono HB.out.size))
        clear hat hm hiv hb HPt hcell
        have hal : Below W2.heap.size W2 (W2.alloc (.cells r.cells.toArray 57)) := (Below.refl _ W2).alloc (Nat.le_refl _) _
        have ho := Own.mk (w := W2) r.cells 57
        replace HO := Lib.hid (HO.out.below hal)
        replace HA := Lib.hid (HA.out.keep (KeepU.below hal))
        replace HB := Lib.hid (HB.out.trans (hal.mono HB.out.size))
        have c0 := ho.cell 0 (by show 0 < 4; omega)
        have c1 := ho.cell 1 (by show 1 < 4; omega)
        have c2 := ho.cell 2 (by show 2 < 4; omega)
        have c3 := ho.cell 3 (by show 3 < 4; omega)
        obtain ⟨v', W5, hr, hO', hb'⟩ := pushA HO.out HA.out (by omega) (HB.out.size)
        have HP := Lib.hid hr
        have HO2 := Lib.hid hO'
        have HB2 := Lib.hid (HB.out.trans hb')
        have HV2 := Lib.hid (show ∀ m ∈ l ++ [r.vq], inr m.1 from fun m hm => by
         rcases List.mem_append.1 hm with hm | hm
         · exact HV.out m hm
         · rw [List.mem_singleton.1 hm]; exact HIv.out)
        have HX2 := Lib.hid (show ∀ l0, CanF l0 → s = tf l0 → l ++ [r.vq] = l0.take (i + 1) from fun l0 hc h => by
         obtain ⟨h1, h2⟩ := HXi.out l0 h
         rw [List.take_succ_eq_append_getElem h1, ← HX.out l0 hc h, HM.out l0[i] (hc.var _ (List.getElem_mem h1)) h2])
        have hmf2 : mf (l ++ [r.vq]) ≤ cost (xs.take (i + 1)) := by
         rw [mf_append, hct]
         have : mf [r.vq] = mu r.q + 1 := by simp [mf, MC.vq]
         omega
        have hl2 : (l ++ [r.vq]).length = i + 1 := by rw [List.length_append, hli]; rfl
        generalize l ++ [r.vq] = l2 at *
        clear hr hO' hb' HO HV HX HM HXi HIv hsz hmu hct ho hal HA
        obtain ⟨rv0, rq0, rA, rc, rB, rd⟩ := r
        simp only [MC.cells] at HP c0 c1 c2 c3 ⊢
        simp only [List.getElem_cons_zero, List.getElem_cons_succ] at c0 c1 c2 c3
        go_upto_region 9 with (fail)
        generalize W2.alloc _ = W6 at HP c0 c1 c2 c3 ⊢
        go_wp2_with (refine pushL_ rfl rfl rfl rfl HP.out ?_; clear HP)
        go_roundg (xs.length - (i + 1))
        case measure => omega
        case rel => exact ⟨i + 1, v', l2, by omega, by go_num, rfl, hl2, hmf2, HO2, HV2, HX2, HB2⟩
      · have HR := Lib.hid (show ∀ l0, CanF l0 → s ≠ tf l0 from fun l0 hc h => by
         obtain ⟨h1, h2⟩ := HXi.out l0 h
         exact hm l0[i] (hc.var _ (List.getElem_mem h1)) h2)
        have HB9 := Lib.hid (HB1.out.trans ((HB.out.trans (hb.mono HB.out.size)).mono HB1.out.size))
        have hal : Below W2.heap.size W2 (W2.alloc (.cells #[.int .i64 v1, .bool b1, .slice A1 n1 c1, .slice B1 m1 d1] 57)) := (Below.refl _ W2).alloc (Nat.le_refl _) _
        have HB8 := Lib.hid (HB9.out.trans (hal.mono HB9.out.size))
        clear hm hb HPt HXi HX HV HO HB hal HB9
        go_wp2
        go_ret2
        exact .inr ⟨rfl, HB8.out, HR.out⟩
    · have hltz : ¬ (i : Int) < (xs.length : Int) := by omega
      have hil : i = xs.length := by omega
      have HXX := Lib.hid (show ∀ l0, CanF l0 → s = tf l0 → l = l0 from fun l0 hc h => by
       rw [HX.out l0 hc h]
       refine List.take_of_length_le ?_
       have h1 := HSeg.out l0 h
       rw [hil, h1, List.length_map]
       exact Nat.le_refl _)
      have hmf0 : mf l ≤ 6 * s.length + 6 := by rw [hil, List.take_of_length_le (Nat.le_refl _)] at hmf; omega
      obtain ⟨A, c, rfl, k1⟩ := HO.out.fin
      have HI := Lib.hid k1
      have HCn := Lib.hid (CanF.of HV.out)
      have HN := Lib.hid (fun (W : World) (k : FIn W A c l) => normC A c l W k (by omega))
      replace HB := Lib.hid (HB1.out.trans (HB.out.mono HB1.out.size))
      clear HX HV HO k1 HSeg HLen HL HC hmf
      have hmf := hmf0
      clear hmf0
      subst hli
      clear hil hg
      go_wp2_with fail
      refine (HN.out _ HI.out).mono ?_
      rintro e W3 ⟨v3, rfl, h1, hb⟩
      obtain ⟨E3, j3, rfl, k3⟩ := h1.fin
      have HI3 := Lib.hid k3
      have HO3 := Lib.hid (h1.mono (Nat.zero_le _))
      replace HB := Lib.hid (HB.out.trans (hb.mono HB.out.size))
      clear h1 k3 hb HN HI
      have HT := Lib.hid (textC E3 j3 (nform l) W3 HI3.out HCn.out (Nat.le_trans (mf_nform l) (by omega)))
      have HMn := Lib.hid (show mf (nform l) ≤ 6 * s.length + 6 from Nat.le_trans (mf_nform l) hmf)
      generalize hnl : nform l = nl at *
      have HNL := Lib.hid hnl
      clear hnl
      go_wp2_with fail
      refine HT.out.mono ?_
      rintro e W4 ⟨rfl, q1⟩
      replace HI3 := Lib.hid (HI3.out.below q1)
      replace HO3 := Lib.hid (HO3.out.below q1)
      replace HB := Lib.hid (HB.out.trans (q1.mono HB.out.size))
      clear q1 HT
      by_cases heq : tf nl = s
      · have hte : (tf nl == s) = true := by rw [heq]; simp
        have HR := Lib.hid heq.symm
        clear heq
        go_wp2
        go_ret2
        exact .inl ⟨nl, _, _, rfl, HO3.out, HCn.out, HR.out, HMn.out, HB.out⟩
      · have hte : (tf nl == s) = false := by simpa using heq
        have HR := Lib.hid (show ∀ l0, CanF l0 → s ≠ tf l0 from fun l0 hc h => heq (by
         have h5 := HXX.out l0 hc h
         rw [← HNL.out, h5, nform_self hc.nf]
         exact h.symm))
        clear heq HNL
        go_wp2
        go_ret2
        exact .inr ⟨rfl, HB.out, HR.out⟩
theorem maxLen_is (w : World) (h : w.ShapedOpen Tryz.prog) : ∃ m, w.cell? ⟨1, 0, none⟩ = some (.int .i64 m) :=
 Go.Proofs.cell_of_shapedOpen_int (zero := #[.int .i64 0]) (t := 3) h (of_decide_eq_true (by kernel_rfl)) (by kernel_rfl) rfl (by kernel_rfl) (by kernel_rfl) Tryz.underlying3
theorem err_star : "*" ++ "errors.errorString" = "*errors.errorString" := by decide
theorem err_row (u : TypeId) (h : Tryz.prog.typeName? 3 u = some "*errors.errorString") : u = 308 :=
 typeName_ptr_named (nm := "errors.errorString") (by rw [err_star]; kernel_rfl) (by kernel_rfl) (by decide) u (by rw [err_star]; exact h)
theorem err_cell {n : String} {text : List UInt8} {r : List (String × DataW Unit)} {W : World} {g : Nat} (h : laidMet Tryz.prog ((n, .iface "*errors.errorString" (.ptr (.agg [.lit (.string text)]))) :: r) W)
 (hg : Tryz.prog.globalNamed n = some g) (ht : (Tryz.prog.globals[g]?).map (·.type) = some 93) : ∃ ev, W.cell? ⟨g, 0, none⟩ = some ev ∧ (ev = .nilIface ∨ ∃ te pe, ev = .iface te pe) := by
 obtain ⟨a, s, hv, _⟩ := laid_sentinel h hg ht Tryz.underlying93 err_row Tryz.underlying308 Tryz.underlying310 rfl rfl Tryz.underlying9 (by kernel_rfl) (by kernel_rfl)
 exact ⟨_, by have := World.var?_cell hg hv 0; rw [this]; rfl, .inr ⟨_, _, rfl⟩⟩
end Go.Proofs.YtidgpkccjcddgaaGreatDoor.F
