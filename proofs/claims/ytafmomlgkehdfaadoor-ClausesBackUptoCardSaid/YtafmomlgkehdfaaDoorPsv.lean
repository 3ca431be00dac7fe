/- What Parse reads a text into: the plain law (a state, a word, a line), and how the state stands in memory. No condition. -/
import Derived.Test.YtafmomlgkehdfaaDoorPnu
set_option linter.unusedVariables false
set_option linter.unusedSimpArgs false
namespace Go.Proofs.YtafmomlgkehdfaaDoor.F
open Go.RowKit Go.Shelf

/-! ### the plain law -/
structure St where
  head : Bool
  atoms : Int
  many : Int
  l : List (List Int)
  now : List Int
  opn : Bool
def St.init : St := ⟨false, 0, 0, [], [], false⟩
/-- one word of a line of numbers -/
def stW (st : St) (x : List UInt8) : Option St :=
  if numOk x = false ∨ st.atoms < ((numV x).natAbs : Int) then none
  else if numV x ≠ 0 then some ⟨st.head, st.atoms, st.many, st.l, st.now ++ [numV x], true⟩
  else if (st.l.length : Int) = st.many then none
  else some ⟨st.head, st.atoms, st.many, st.l ++ [st.now], [], false⟩
def stWs : St → List (List UInt8) → Option St
  | st, [] => some st
  | st, x :: r => match stW st x with
    | none => none
    | some s => stWs s r
def headW : List (List UInt8) → Option St
  | [p, c, a, b] => if p = [112] ∧ c = [99, 110, 102] ∧ numOk a = true ∧ numOk b = true ∧ 0 ≤ numV a ∧ 0 ≤ numV b then some ⟨true, numV a, numV b, [], [], false⟩ else none
  | _ => none
def isC (s : List UInt8) : Bool := Lib.hasPrefix s [99]
def stL (st : St) (s : List UInt8) : Option St :=
  if isC s = true ∨ (wds s).length = 0 then some st else if st.head then stWs st (wds s) else headW (wds s)
/-- the lines from place i on -/
def stLs : St → Nat → List (List UInt8) → St ⊕ Nat
  | st, _, [] => .inl st
  | st, i, s :: r => match stL st s with
    | none => .inr (i + 1)
    | some t => stLs t (i + 1) r
/-- the answer: atoms, clauses, error, line -/
def parseV (l : List UInt8) : Int × List (List Int) × Int × Int :=
  match stLs St.init 0 (lns l) with
  | .inr i => (0, [], 180, i)
  | .inl st => if st.head = false ∨ st.opn = true ∨ (st.l.length : Int) ≠ st.many then (0, [], 180, (lns l).length) else (st.atoms, st.l, 0, 0)

theorem stW_len {st t : St} {x : List UInt8} (h : stW st x = some t) : t.now.length ≤ st.now.length + 1 ∧ t.l.length ≤ st.l.length + 1 := by
  unfold stW at h
  split at h
  · cases h
  · split at h
    · cases h; simp
    · split at h
      · cases h
      · cases h; simp
/-- what is true of each state that is read -/
structure St.Fine (st : St) : Prop where
  many : (st.l.length : Int) ≤ st.many
  none : st.head = false → st.l = [] ∧ st.now = [] ∧ st.opn = false
theorem St.init_fine : St.init.Fine := ⟨by simp [St.init], fun _ => ⟨rfl, rfl, rfl⟩⟩
theorem stW_fine {st t : St} {x : List UInt8} (h : stW st x = some t) (hf : st.Fine) (hh : st.head = true) : t.Fine ∧ t.head = true := by
  have h1 := hf.many
  unfold stW at h
  split at h
  · cases h
  · split at h
    · cases h
      exact ⟨⟨h1, fun e => by simp [hh] at e⟩, hh⟩
    · split at h
      · cases h
      · cases h
        refine ⟨⟨?_, fun e => by simp [hh] at e⟩, hh⟩
        simp only [List.length_append, List.length_singleton]
        omega
theorem stWs_fine : ∀ {ws : List (List UInt8)} {st t : St}, stWs st ws = some t → st.Fine → st.head = true → t.Fine ∧ t.head = true ∧ t.now.length ≤ st.now.length + ws.length ∧ t.l.length ≤ st.l.length + ws.length
  | [], st, t, h, hf, hh => by
    rw [stWs] at h
    cases h
    exact ⟨hf, hh, by simp, by simp⟩
  | x :: r, st, t, h, hf, hh => by
    rw [stWs] at h
    cases hw : stW st x with
    | none => rw [hw] at h; cases h
    | some s =>
      rw [hw] at h
      obtain ⟨f1, f2⟩ := stW_fine hw hf hh
      obtain ⟨a, b, c, d⟩ := stWs_fine h f1 f2
      obtain ⟨e1, e2⟩ := stW_len hw
      exact ⟨a, b, by rw [List.length_cons]; omega, by rw [List.length_cons]; omega⟩
theorem headW_fine {ws : List (List UInt8)} {t : St} (h : headW ws = some t) : t.Fine ∧ t.now = [] ∧ t.l = [] := by
  unfold headW at h
  split at h
  · split at h
    · rename_i hc
      cases h
      exact ⟨⟨by simpa using hc.2.2.2.2.2, fun e => by cases e⟩, rfl, rfl⟩
    · cases h
  · cases h
theorem stL_fine {st t : St} {s : List UInt8} (h : stL st s = some t) (hf : st.Fine) : t.Fine ∧ t.now.length ≤ st.now.length + (s.length + 1) ∧ t.l.length ≤ st.l.length + (s.length + 1) := by
  have hw : (wds s).length ≤ s.length + 1 := wdsQ_length blank s
  unfold stL at h
  split at h
  · cases h; exact ⟨hf, by omega, by omega⟩
  · split at h
    · rename_i hh
      obtain ⟨a, b, c, d⟩ := stWs_fine h hf hh
      exact ⟨a, by omega, by omega⟩
    · obtain ⟨a, b, c⟩ := headW_fine h
      rw [b, c]
      exact ⟨a, by simp, by simp⟩
theorem stWs_append : ∀ (a b : List (List UInt8)) (st : St), stWs st (a ++ b) = (stWs st a).bind fun t => stWs t b
  | [], b, st => rfl
  | x :: r, b, st => by
    rw [List.cons_append, stWs, stWs]
    cases stW st x with
    | none => rfl
    | some s => exact stWs_append r b s
/-- a word more -/
theorem stWs_take {ws : List (List UInt8)} {st t : St} {i : Nat} (hi : i < ws.length) (h : stWs st (ws.take i) = some t) : stWs st (ws.take (i + 1)) = stW t ws[i] := by
  rw [List.take_succ_eq_append_getElem hi, stWs_append, h]
  show stWs t [ws[i]] = _
  rw [stWs]
  cases stW t ws[i] <;> rfl
theorem stWs_stop {ws : List (List UInt8)} {st t : St} {i : Nat} (hi : i < ws.length) (h : stWs st (ws.take i) = some t) (hn : stW t ws[i] = none) : stWs st ws = none := by
  have e : ws = ws.take (i + 1) ++ ws.drop (i + 1) := (List.take_append_drop _ _).symm
  rw [e, stWs_append, stWs_take hi h, hn]
  rfl
theorem stLs_step : ∀ (a b : List (List UInt8)) (st t : St) (k : Nat), stLs st k a = .inl t → stLs st k (a ++ b) = stLs t (k + a.length) b
  | [], b, st, t, k, h => by rw [stLs] at h; cases h; rfl
  | x :: r, b, st, t, k, h => by
    rw [List.cons_append, stLs]
    rw [stLs] at h
    cases hx : stL st x with
    | none => rw [hx] at h; cases h
    | some s =>
      rw [hx] at h
      simp only at h ⊢
      rw [stLs_step r b s t (k + 1) h]
      congr 1
      rw [List.length_cons]; omega
theorem stLs_take {ls : List (List UInt8)} {st t : St} {i : Nat} (hi : i < ls.length) (h : stLs st 0 (ls.take i) = .inl t) : stLs st 0 (ls.take (i + 1)) = match stL t ls[i] with
    | none => .inr (i + 1)
    | some s => .inl s := by
  rw [List.take_succ_eq_append_getElem hi, stLs_step _ _ _ _ _ h, List.length_take, Nat.min_eq_left (by omega), Nat.zero_add, stLs]
  cases stL t ls[i] <;> rfl
theorem stLs_stop {ls : List (List UInt8)} {st t : St} {i : Nat} (hi : i < ls.length) (h : stLs st 0 (ls.take i) = .inl t) (hn : stL t ls[i] = none) : stLs st 0 ls = .inr (i + 1) := by
  have e : ls = ls.take i ++ (ls[i] :: ls.drop (i + 1)) := by rw [List.getElem_cons_drop, List.take_append_drop]
  have : stLs st 0 ls = stLs st 0 (ls.take i ++ (ls[i] :: ls.drop (i + 1))) := by rw [← e]
  rw [this, stLs_step _ _ _ _ _ h, List.length_take, Nat.min_eq_left (by omega), Nat.zero_add, stLs, hn]
theorem parseV_stop {l : List UInt8} {t : St} {i : Nat} (hi : i < (lns l).length) (h : stLs St.init 0 ((lns l).take i) = .inl t) (hn : stL t (lns l)[i] = none) : parseV l = (0, [], 180, ((i : Int) + 1)) := by
  unfold parseV
  rw [stLs_stop hi h hn]
  rfl
theorem parseV_end {l : List UInt8} {st : St} (h : stLs St.init 0 (lns l) = .inl st) : parseV l = if st.head = false ∨ st.opn = true ∨ (st.l.length : Int) ≠ st.many then (0, [], 180, ((lns l).length : Int)) else (st.atoms, st.l, 0, 0) := by
  unfold parseV
  rw [h]

/-- letters and line ends of some lines -/
def tot (ls : List (List UInt8)) : Nat := (ls.map fun x => x.length + 1).sum
theorem tot_take {ls : List (List UInt8)} {i : Nat} (hi : i < ls.length) : tot (ls.take (i + 1)) = tot (ls.take i) + (ls[i].length + 1) := by
  unfold tot
  rw [List.take_succ_eq_append_getElem hi, List.map_append, List.sum_append]
  simp
theorem tot_append (a b : List (List UInt8)) : tot (a ++ b) = tot a + tot b := by unfold tot; rw [List.map_append, List.sum_append]
theorem tot_le (ls : List (List UInt8)) (i : Nat) : tot (ls.take i) ≤ tot ls := by
  have h := tot_append (ls.take i) (ls.drop i)
  rw [List.take_append_drop] at h
  omega
theorem tot_spans (l : List UInt8) : ∀ k, k ≤ l.length → tot ((lnS l k).1.map (cutAt l)) = (lnS l k).2
  | 0, _ => rfl
  | k + 1, h => by
    have ih := tot_spans l k (by omega)
    obtain ⟨_, h2, _⟩ := lnS_le l k
    rw [lnS]
    split
    · rw [List.map_append, tot_append, ih]
      show (lnS l k).2 + tot [cutAt l ((lnS l k).2, k)] = k + 1
      unfold tot cutAt
      simp only [List.map_cons, List.map_nil, List.sum_cons, List.sum_nil, List.length_drop, List.length_take]
      omega
    · exact ih
theorem tot_lns (l : List UInt8) : tot (lns l) ≤ l.length + 1 := by
  obtain ⟨_, h2, _⟩ := lnS_le l l.length
  unfold lns
  rw [tot_append, tot_spans l l.length (Nat.le_refl _)]
  split
  · unfold tot
    simp only [List.map_cons, List.map_nil, List.sum_cons, List.sum_nil, List.length_drop]
    omega
  · simp only [tot, List.map_nil, List.sum_nil]; omega

/-! ### blocks of one type -/
/-- block g holds just these cells, of this type -/
def OwnT (w : World) (g : Nat) (t : TypeId) (cs : List Value) : Prop := w.heap[g]? = some (.cells cs.toArray t (0, 0))
theorem OwnT.own {w : World} {g : Nat} {t : TypeId} {cs : List Value} (h : OwnT w g t cs) : Own w g cs := ⟨t, h⟩
theorem OwnT.mk {w : World} (cs : List Value) (t : TypeId) : OwnT (w.alloc (.cells cs.toArray t (0, 0))) w.heap.size t cs := by show (w.heap.push _)[w.heap.size]? = _; simp
theorem OwnT.set {w : World} {g : Nat} {t : TypeId} {cs : List Value} (h : OwnT w g t cs) (i : Nat) (v : Value) : OwnT (w.setCell ⟨g, i, none⟩ v) g t (cs.set i v) := by
  have hlt := (Array.getElem?_eq_some_iff.1 h).1
  unfold OwnT at *
  simp only [World.setCell, Array.getElem?_modify, if_pos, h]
  simp
/-- all blocks of this type stand as they stood; the heap has not shrunk -/
def KeepT (t : TypeId) (w w' : World) : Prop := w.heap.size ≤ w'.heap.size ∧ ∀ (k : Nat) cur fz, w.heap[k]? = some (.cells cur t fz) → w'.heap[k]? = some (.cells cur t fz)
theorem KeepT.refl (t : TypeId) (w : World) : KeepT t w w := ⟨Nat.le_refl _, fun _ _ _ h => h⟩
theorem KeepT.trans {t : TypeId} {a b c : World} (h : KeepT t a b) (k : KeepT t b c) : KeepT t a c := ⟨Nat.le_trans h.1 k.1, fun i cur fz e => k.2 i cur fz (h.2 i cur fz e)⟩
theorem KeepT.below {t : TypeId} {w w' : World} (h : Below w.heap.size w w') : KeepT t w w' := ⟨h.size, fun k _ _ e => (h.block k (Array.getElem?_eq_some_iff.1 e).1).trans e⟩
theorem KeepT.set {t u : TypeId} {w : World} {g : Nat} {cs : List Value} (h : OwnT w g u cs) (hn : t ≠ u) (i : Nat) (v : Value) : KeepT t w (w.setCell ⟨g, i, none⟩ v) := by
  refine ⟨by simp [World.setCell], fun k cur fz e => ?_⟩
  have hk : k ≠ g := by
    rintro rfl
    rw [h] at e
    simp only [Option.some.injEq, Obj.cells.injEq] at e
    exact hn e.2.1.symm
  exact (Below.heap_setCell w _ v k hk).trans e
theorem KeepT.soft {t u : TypeId} {w w' : World} {B n : Nat} {v : Value} {xs : List Value} (h : Soft B v w w') (ho : OwnL w B u 1 v n xs) (hn : t ≠ u) : KeepT t w w' := by
  refine ⟨h.below.size, fun k cur fz e => ?_⟩
  have hk := (Array.getElem?_eq_some_iff.1 e).1
  refine (h.other k hk fun hv => ?_).trans e
  rcases ho.2 with ⟨rfl, _⟩ | ⟨g, cap, cur', rfl, h2, h3, _⟩
  · cases hv
  · simp only [Value.ownBlock, Option.some.injEq] at hv
    subst hv
    rw [h3] at e
    simp only [Option.some.injEq, Obj.cells.injEq] at e
    exact hn e.2.1.symm
theorem OwnT.keep {w w' : World} {g : Nat} {t : TypeId} {cs : List Value} (h : OwnT w g t cs) (k : KeepT t w w') : OwnT w' g t cs := k.2 _ _ _ h
theorem OwnL.keepT {w w' : World} {B n sz : Nat} {e : TypeId} {v : Value} {xs : List Value} (h : OwnL w B e sz v n xs) (k : KeepT e w w') : OwnL w' B e sz v n xs := by
  refine ⟨h.1, ?_⟩
  rcases h.2 with h | ⟨g, cap, cur, h1, h2, h3, h4⟩
  · exact .inl h
  · exact .inr ⟨g, cap, cur, h1, h2, k.2 _ _ _ h3, h4⟩
theorem TyB.keep {w w' : World} {A : Option Addr} {t : TypeId} (h : TyB w A t) (k : KeepT t w w') : TyB w' A t := fun ad e => by
  obtain ⟨cur, fz, h1⟩ := h ad e
  exact ⟨cur, fz, k.2 _ _ _ h1⟩
theorem add_block (a : Addr) (n : Nat) : (a.add n).block = a.block := by unfold Addr.add; split <;> rfl
theorem Knd.Row.keepT {α : Type} {d : Knd α} {w w' : World} {A : Option Addr} {t : TypeId} {xs : List α} (h : d.Row w A xs) (hT : TyB w A t) (k : KeepT t w w') (hd : ∀ x cs, d.C w x cs → d.C w' x cs) : d.Row w' A xs := by
  intro i hi
  obtain ⟨ad, cs, e, hC, hc⟩ := h i hi
  refine ⟨ad, cs, e, hd _ _ hC, fun j u hu => ?_⟩
  obtain ⟨cur, fz, h1⟩ := hT ad e
  rw [World.cell?_of_block (show w'.heap[(ad.add (i * d.sz + j)).block]? = w.heap[(ad.add (i * d.sz + j)).block]? by rw [add_block, h1, k.2 _ _ _ h1])]
  exact hc j u hu
theorem StrR.keep {t : TypeId} {w w' : World} {A : Option Addr} {l : List (List UInt8)} (h : StrR t w A l) (k : KeepT t w w') : StrR t w' A l := ⟨h.1.keepT h.2 k fun _ _ h => h, h.2.keep k⟩

/-! ### the state in memory -/
/-- a clause that has ended: its row stands below M, in a block of ints -/
def Clo (w : World) (M : Nat) (v : Value) (c : List Int) : Prop := ∃ A k, v = .slice A c.length k ∧ c.length ≤ k ∧ k ≤ maxLen ∧ (Knd.int .i64).Row w A c ∧ TyB w A 3 ∧ ∀ ad, A = some ad → ad.block < M
theorem Clo.keep {w w' : World} {M : Nat} {v : Value} {c : List Int} (h : Clo w M v c) (k : KeepT 3 w w') : Clo w' M v c := by
  obtain ⟨A, n, h1, h2, h3, h4, h5, h6⟩ := h
  exact ⟨A, n, h1, h2, h3, h4.keepT h5 k fun _ _ h => h, h5.keep k, h6⟩
theorem Clo.below {w w' : World} {M : Nat} {v : Value} {c : List Int} (h : Clo w M v c) (hb : Below M w w') : Clo w' M v c := by
  obtain ⟨A, n, h1, h2, h3, h4, h5, h6⟩ := h
  refine ⟨A, n, h1, h2, h3, ?_, ?_, h6⟩
  · intro i hi
    obtain ⟨ad, cs, e, hC, hc⟩ := h4 i hi
    exact ⟨ad, cs, e, hC, fun j u hu => (World.cell?_of_block (hb.block _ (by rw [add_block]; exact h6 ad e))).trans (hc j u hu)⟩
  · intro ad e
    obtain ⟨cur, fz, h7⟩ := h5 ad e
    exact ⟨cur, fz, (hb.block _ (h6 ad e)).trans h7⟩
theorem Clo.mono {w : World} {M N : Nat} {v : Value} {c : List Int} (h : Clo w M v c) (hn : M ≤ N) : Clo w N v c := by
  obtain ⟨A, n, h1, h2, h3, h4, h5, h6⟩ := h
  exact ⟨A, n, h1, h2, h3, h4, h5, fun ad e => Nat.lt_of_lt_of_le (h6 ad e) hn⟩
def ic (c : List Int) : List Value := c.map (Value.int .i64)
theorem Clo.of {w : World} {M : Nat} {v : Value} {c : List Int} (h : OwnL w M 3 1 v c.length (ic c)) : Clo w w.heap.size v c := by
  obtain ⟨A, k, rfl, h1, h2, h3⟩ := h.form
  refine ⟨A, k, rfl, h1, h2, ?_, h.typ, fun ad e => ?_⟩
  · intro i hi
    obtain ⟨ad, rfl, h4⟩ := h3 (by omega)
    refine ⟨ad, [.int .i64 c[i]], rfl, rfl, fun j u hu => ?_⟩
    have hj : j = 0 := by
      cases j with
      | zero => rfl
      | succ j => simp at hu
    subst hj
    simp at hu
    subst hu
    rw [show i * (Knd.int .i64).sz + 0 = i from by show i * 1 + 0 = i; omega]
    exact h4 i _ (by simp [ic, hi])
  · obtain ⟨cur, fz, h7⟩ := h.typ ad e
    exact (Array.getElem?_eq_some_iff.1 h7).1
/-- the clauses and the open one -/
def StV (w : World) (B : Nat) (vl vn : Value) (l : List (List Int)) (now : List Int) : Prop :=
  ∃ M vs, B ≤ M ∧ M ≤ w.heap.size ∧ OwnL w M 3 1 vn now.length (ic now) ∧ OwnL w B 32 1 vl l.length vs ∧ (∀ i (h : i < vs.length) (h' : i < l.length), Clo w M vs[i] l[i])
theorem StV.init (w : World) {B : Nat} (hB : B ≤ w.heap.size) : StV w B (.slice none 0 0) (.slice none 0 0) [] [] :=
  ⟨B, [], Nat.le_refl _, hB, OwnL.nil _ _ _ _, OwnL.nil _ _ _ _, fun i h => by simp at h⟩
theorem StV.keep {w w' : World} {B : Nat} {vl vn : Value} {l : List (List Int)} {now : List Int} (h : StV w B vl vn l now) (k1 : KeepT 3 w w') (k2 : KeepT 32 w w') : StV w' B vl vn l now := by
  obtain ⟨M, vs, h1, h2, h3, h4, h5⟩ := h
  exact ⟨M, vs, h1, Nat.le_trans h2 k1.1, h3.keepT k1, h4.keepT k2, fun i a b => (h5 i a b).keep k1⟩
theorem StV.below {w w' : World} {B : Nat} {vl vn : Value} {l : List (List Int)} {now : List Int} (h : StV w B vl vn l now) (hb : Below w.heap.size w w') : StV w' B vl vn l now := h.keep (KeepT.below hb) (KeepT.below hb)
theorem StV.form {w : World} {B : Nat} {vl vn : Value} {l : List (List Int)} {now : List Int} (h : StV w B vl vn l now) : (∃ A c, vl = .slice A l.length c ∧ l.length ≤ c ∧ c ≤ maxLen) ∧ ∃ A c, vn = .slice A now.length c ∧ now.length ≤ c ∧ c ≤ maxLen := by
  obtain ⟨M, vs, h1, h2, h3, h4, h5⟩ := h
  obtain ⟨A, c, e, a, b, _⟩ := h4.form
  obtain ⟨A', c', e', a', b', _⟩ := h3.form
  exact ⟨⟨A, c, e, a, b⟩, A', c', e', a', b'⟩
/-- the clauses, as a row of rows -/
theorem StV.row {w : World} {B : Nat} {vl vn : Value} {l : List (List Int)} {now : List Int} (h : StV w B vl vn l now) : ∃ A c, vl = .slice A l.length c ∧ l.length ≤ c ∧ c ≤ maxLen ∧ (Knd.int .i64).slice.Row w A l := by
  obtain ⟨M, vs, h1, h2, h3, h4, h5⟩ := h
  obtain ⟨A, c, e, a, b, hr⟩ := h4.form
  have hvl : vs.length = l.length := by have := h4.1; omega
  refine ⟨A, c, e, a, b, fun i hi => ?_⟩
  obtain ⟨ad, rfl, hc⟩ := hr (by omega)
  obtain ⟨A', k, e', h6, h7, h8, _⟩ := h5 i (by omega) hi
  refine ⟨ad, [vs[i]'(by omega)], rfl, ⟨A', k, by rw [e'], h6, by simp only [maxLen] at h7; omega, h8⟩, fun j u hu => ?_⟩
  have hj : j = 0 := by
    cases j with
    | zero => rfl
    | succ j => simp at hu
  subst hj
  simp at hu
  subst hu
  rw [show i * (Knd.int .i64).slice.sz + 0 = i from by show i * 1 + 0 = i; omega]
  exact hc i _ (List.getElem?_eq_getElem _)

theorem info_int : (Tryd.prog.info? 3).map (fun i => (i.zero, i.size, i.bytes)) = some (some (.int .i64 0), 1, 8) := by kernel_rfl
theorem info_cl : (Tryd.prog.info? 32).map (fun i => (i.zero, i.size, i.bytes)) = some (some (.slice none 0 0), 1, 24) := by kernel_rfl

/-- a number more in the open clause -/
theorem StV.push {w : World} {B : Nat} {vl vn : Value} {l : List (List Int)} {now : List Int} (h : StV w B vl vn l now) (x : Int) (hl : now.length ≤ 2199023255552) :
    ∃ v' w', (Builtin.append_ #[32, 32] 32 #[vn, .slice (some ⟨w.heap.size, 0, none⟩) 1 1]).run Tryd.prog (w.alloc (.cells #[.int .i64 x] 3)) = .ok v' w' ∧ StV w' B vl v' l (now ++ [x]) ∧ Below B w w' ∧ ∀ t, t ≠ 3 → KeepT t w w' := by
  obtain ⟨M, vs, h1, h2, h3, h4, h5⟩ := h
  obtain ⟨v', w', hr, ho, hs⟩ := push_one (P := Tryd.prog) (ty := 32) (x := .int .i64 x) Tryd.underlying32 info_int rfl h3 rfl (fun y hy => by simp at hy) (fun y hy => by simp [Value.cells] at hy) (by simp only [maxLen]; omega) (by omega) h2
  have hk : ∀ t, t ≠ 3 → KeepT t w w' := fun t ht => KeepT.soft hs h3 ht
  refine ⟨v', w', hr, ⟨M, vs, h1, Nat.le_trans h2 hs.below.size, ?_, h4.keepT (hk _ (by decide)), fun i a b => (h5 i a b).below hs.below⟩, hs.below.mono h1, hk⟩
  have : ic now ++ [.int .i64 x] = ic (now ++ [x]) := by simp [ic]
  rw [this] at ho
  rw [List.length_append]
  exact ho
/-- the open clause ends -/
theorem StV.seal {w : World} {B : Nat} {vl vn : Value} {l : List (List Int)} {now : List Int} (h : StV w B vl vn l now) (hl : l.length ≤ 2199023255552) :
    ∃ v' w', (Builtin.append_ #[22, 22] 22 #[vl, .slice (some ⟨w.heap.size, 0, none⟩) 1 1]).run Tryd.prog (w.alloc (.cells #[vn] 32)) = .ok v' w' ∧ StV w' B v' (.slice none 0 0) (l ++ [now]) [] ∧ Below B w w' ∧ ∀ t, t ≠ 32 → KeepT t w w' := by
  obtain ⟨M, vs, h1, h2, h3, h4, h5⟩ := h
  obtain ⟨A', c', e', _⟩ := h3.form
  obtain ⟨v', w', hr, ho, hs⟩ := push_one (P := Tryd.prog) (ty := 22) (x := vn) Tryd.underlying22 info_cl rfl h4 (by rw [e']; rfl) (fun y hy => by rw [e'] at hy; simp at hy) (fun y hy => by simp [Value.cells] at hy) (by simp only [maxLen]; omega) (by omega) (Nat.le_trans h1 h2)
  have hk : ∀ t, t ≠ 32 → KeepT t w w' := fun t ht => KeepT.soft hs h4 ht
  have hki := hk 3 (by decide)
  have hvl : vs.length = l.length := by have := h4.1; omega
  have hcl : Clo w' w'.heap.size vn now := Clo.of (h3.keepT hki)
  refine ⟨v', w', hr, ⟨w'.heap.size, vs ++ [vn], Nat.le_trans (Nat.le_trans h1 h2) hs.below.size, Nat.le_refl _, OwnL.nil _ _ _ _, by rw [List.length_append]; exact ho, fun i a b => ?_⟩, hs.below, hk⟩
  by_cases hi : i < vs.length
  · rw [List.getElem_append_left hi, List.getElem_append_left (by omega)]
    exact ((h5 i hi (by omega)).keep hki).mono (Nat.le_trans h2 hki.1)
  · have hi2 : i = vs.length := by rw [List.length_append, List.length_singleton] at a; omega
    subst hi2
    have e1 : (vs ++ [vn])[vs.length]'a = vn := by simp
    have e2 : (l ++ [now])[vs.length]'b = now := by simp [hvl]
    rw [e1, e2]
    exact hcl

abbrev cells (st : St) (vl vn : Value) : List Value := [.bool st.head, .int .i64 st.atoms, .int .i64 st.many, vl, vn, .bool st.opn]
theorem OwnT.cellN {w : World} {g : Nat} {t : TypeId} {cs : List Value} (h : OwnT w g t cs) (i : Nat) {v : Value} (hi : cs[i]? = some v) : w.cell? ⟨g, i, none⟩ = some v := by
  obtain ⟨hl, he⟩ := List.getElem?_eq_some_iff.1 hi
  rw [h.own.cell i hl, he]
/-- all that a line's loop holds -/
structure LpAt (ty : TypeId) (B R : Nat) (w : World) (t : St) (vl vn : Value) (A : Option Addr) (ws : List (List UInt8)) (W : World) : Prop where
  own : OwnT W R ty (cells t vl vn)
  st : StV W B vl vn t.l t.now
  ws : StrR 9 W A ws
  bel : Below B w W
theorem LpAt.below {ty : TypeId} {B R : Nat} {w : World} {t : St} {vl vn : Value} {A : Option Addr} {ws : List (List UInt8)} {W W' : World} (h : LpAt ty B R w t vl vn A ws W) (hB : B ≤ w.heap.size) (hb : Below W.heap.size W W') : LpAt ty B R w t vl vn A ws W' :=
  ⟨h.own.keep (KeepT.below hb), h.st.below hb, h.ws.keep (KeepT.below hb), h.bel.trans (hb.mono (Nat.le_trans hB h.bel.size))⟩
theorem LpAt.drew {ty : TypeId} {B R : Nat} {w : World} {t : St} {vl vn : Value} {A : Option Addr} {ws : List (List UInt8)} {W : World} (h : LpAt ty B R w t vl vn A ws W) : LpAt ty B R w t vl vn A ws W.drew :=
  ⟨h.own.keep (KeepT.below (Below.drew (Below.refl _ _))), h.st.below (Below.drew (Below.refl _ _)), h.ws.keep (KeepT.below (Below.drew (Below.refl _ _))), Below.drew h.bel⟩
theorem LpAt.cellN {ty : TypeId} {B R : Nat} {w : World} {t : St} {vl vn : Value} {A : Option Addr} {ws : List (List UInt8)} {W : World} (h : LpAt ty B R w t vl vn A ws W) (k : Nat) (hk : k = 0) (i : Nat) {v : Value} (hi : (cells t vl vn)[i]? = some v) : W.cell? ⟨R, i, none⟩ = some v := h.own.cellN i hi
end Go.Proofs.YtafmomlgkehdfaaDoor.F
