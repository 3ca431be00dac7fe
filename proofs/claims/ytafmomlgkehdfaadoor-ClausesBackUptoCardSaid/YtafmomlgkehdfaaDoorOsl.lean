/- Slices of the call's own that grow by append (elements of any number of cells). -/
import Derived.Test.YtafmomlgkehdfaaDoorByt
import Derived.BigRegion
set_option linter.unusedVariables false
set_option linter.unusedSimpArgs false
namespace Go.Proofs.YtafmomlgkehdfaaDoor.F
open Go.RowKit Go.Shelf

/-- the slice v, of n elements of sz cells, is nil, or lies in a block of its own (not below B) that holds no limb -/
def OwnL (w : World) (B : Nat) (e : TypeId) (sz : Nat) (v : Value) (n : Nat) (xs : List Value) : Prop :=
  xs.length = n * sz ∧ ((v = .slice none 0 0 ∧ n = 0) ∨ ∃ g cap cur, v = .slice (some ⟨g, 0, none⟩) n cap ∧ B ≤ g ∧ w.heap[g]? = some (.cells cur e (0, 0)) ∧ n ≤ cap ∧ cap ≤ maxLen ∧ cur.size = cap * sz ∧ cur.toList.take (n * sz) = xs ∧ NoU cur.toList)
theorem OwnL.nil (w : World) (B : Nat) (e : TypeId) (sz : Nat) : OwnL w B e sz (.slice none 0 0) 0 [] := ⟨by simp, .inl ⟨rfl, rfl⟩⟩
theorem OwnL.to {w : World} {B : Nat} {e : TypeId} {sz : Nat} {v : Value} {n : Nat} {xs : List Value} (h : OwnL w B e sz v n xs) : w.ownsRow B e sz v n xs := by
  refine ⟨h.1, ?_⟩
  rcases h.2 with h | ⟨g, cap, cur, h1, h2, h3, h4, h5, h6, h7, h8⟩
  · exact .inl h
  · exact .inr ⟨g, cap, cur, h1, h2, h3, h4, h5, h6, h7⟩
theorem OwnL.noU {w : World} {B : Nat} {e : TypeId} {sz : Nat} {v : Value} {n : Nat} {xs : List Value} (h : OwnL w B e sz v n xs) : NoU xs := by
  rcases h.2 with ⟨_, rfl⟩ | ⟨g, cap, cur, h1, h2, h3, h4, h5, h6, h7, h8⟩
  · have : xs = [] := List.eq_nil_of_length_eq_zero (by simpa using h.1)
    subst this
    intro y hy
    cases hy
  · intro y hy
    rw [← h7] at hy
    exact h8 y (List.mem_of_mem_take hy)
theorem OwnL.mono {w : World} {B C : Nat} {e : TypeId} {sz : Nat} {v : Value} {n : Nat} {xs : List Value} (h : OwnL w B e sz v n xs) (hC : C ≤ B) : OwnL w C e sz v n xs := by
  refine ⟨h.1, ?_⟩
  rcases h.2 with h | ⟨g, cap, cur, h1, h2, h3⟩
  · exact .inl h
  · exact .inr ⟨g, cap, cur, h1, by omega, h3⟩
/-- it stands over all that keeps its block -/
theorem OwnL.kept {w w' : World} {B : Nat} {e : TypeId} {sz : Nat} {v : Value} {n : Nat} {xs : List Value} (h : OwnL w B e sz v n xs) (hk : ∀ k, k < w.heap.size → v.ownBlock = some k → w'.heap[k]? = w.heap[k]?) : OwnL w' B e sz v n xs := by
  refine ⟨h.1, ?_⟩
  rcases h.2 with h | ⟨g, cap, cur, rfl, h2, h3, h4⟩
  · exact .inl h
  · exact .inr ⟨g, cap, cur, rfl, h2, by rw [hk g (Array.getElem?_eq_some_iff.1 h3).1 rfl]; exact h3, h4⟩
theorem OwnL.below {w w' : World} {B : Nat} {e : TypeId} {sz : Nat} {v : Value} {n : Nat} {xs : List Value} (h : OwnL w B e sz v n xs) (hb : Below w.heap.size w w') : OwnL w' B e sz v n xs := h.kept fun k hk _ => hb.block k hk
theorem OwnL.form {w : World} {B : Nat} {e : TypeId} {sz : Nat} {v : Value} {n : Nat} {xs : List Value} (h : OwnL w B e sz v n xs) : ∃ A c, v = .slice A n c ∧ n ≤ c ∧ c ≤ maxLen ∧ (0 < n → ∃ ad, A = some ad ∧ ∀ j u, xs[j]? = some u → w.cell? (ad.add j) = some u) := by
  rcases h.2 with ⟨rfl, rfl⟩ | ⟨g, cap, cur, rfl, h2, h3, h4, h5, h6⟩
  · exact ⟨none, 0, rfl, Nat.le_refl _, by simp [maxLen], fun h => absurd h (by omega)⟩
  · exact ⟨_, cap, rfl, h4, h5, fun hn => ⟨_, rfl, h.to.cells (g := g) rfl⟩⟩

/-- what a push leaves: what lies below B, each limb, each other block -/
structure Soft (B : Nat) (v : Value) (w w' : World) : Prop where
  below : Below B w w'
  keep : KeepU w w'
  other : ∀ k, k < w.heap.size → v.ownBlock ≠ some k → w'.heap[k]? = w.heap[k]?

theorem own_grown {w : World} {B : Nat} {e : TypeId} {z : Value} {sz n m cap : Nat} {xs news : List Value} (hzs : z.cells.size = sz) (h1 : xs.length = n * sz) (h2 : news.length = m * sz) (hx : NoU xs) (hn : NoU news) (hz : NoU z.cells.toList) (hc : n + m ≤ cap) (hm : cap ≤ maxLen) (hB : B ≤ w.heap.size) (v : Value) :
    OwnL (w.drew.alloc (.cells (xs.toArray ++ news.toArray ++ Builtin.zeroCells z.cells (cap - (n + m))) e)) B e sz (.slice (some ⟨w.heap.size, 0, none⟩) (n + m) cap) (n + m) (xs ++ news) ∧
      Soft B v w (w.drew.alloc (.cells (xs.toArray ++ news.toArray ++ Builtin.zeroCells z.cells (cap - (n + m))) e)) := by
  have hl : (xs ++ news).length = (n + m) * sz := by rw [List.length_append, h1, h2, Nat.add_mul]
  have hb : Below w.heap.size w (w.drew.alloc (.cells (xs.toArray ++ news.toArray ++ Builtin.zeroCells z.cells (cap - (n + m))) e)) := (Below.refl _ _).drew.alloc (Nat.le_refl _) _
  refine ⟨⟨hl, .inr ⟨w.heap.size, cap, _, rfl, hB, heap_alloc_new w.drew _, hc, hm, ?_, ?_, ?_⟩⟩, ⟨hb.mono hB, KeepU.below hb, fun k hk _ => hb.block k hk⟩⟩
  · simp only [Array.size_append, List.size_toArray, size_zeroCells, hzs, h1, h2, ← Nat.add_mul]
    congr 1
    omega
  · simp only [Array.toList_append]
    rw [← hl]
    exact List.take_left
  · simp only [Array.toList_append]
    exact (hx.append hn).append fun y hy => hz y (mem_zeroCells hy)

theorem push_run {P : Program} {w : World} {B : Nat} {t ty e : TypeId} {z : Value} {sz bytes n m c : Nat} {v : Value} {xs news : List Value} {ad : Addr} (ht : P.underlying t = some (.slice e)) (hi : (P.info? e).map (fun i => (i.zero, i.size, i.bytes)) = some (some z, sz, bytes))
    (hzs : z.cells.size = sz) (hown : OwnL w B e sz v n xs) (hl : news.length = m * sz) (hnews : ∀ j u, news[j]? = some u → w.cell? (ad.add j) = some u) (h1 : ∀ u ∈ news, u.oneCell' = true) (hn : NoU news) (hzu : NoU z.cells.toList)
    (h63 : n + m ≤ maxLen) (hbytes : (n + m) * bytes ≤ 140737488355328) (hB : B ≤ w.heap.size) :
    ∃ v' w', (Builtin.append_ #[t, t] ty #[v, .slice (some ad) m c]).run P w = .ok v' w' ∧ OwnL w' B e sz v' (n + m) (xs ++ news) ∧ Soft B v w w' := by
  obtain ⟨i, hi0, hz, hs, hby⟩ := info_parts hi
  subst hs
  subst hby
  have hsmall : n + m ≤ 9223372036854775807 := by simp only [maxLen] at h63; omega
  have hxu := hown.noU
  rcases hown.2 with ⟨rfl, rfl⟩ | ⟨g, cap, cur, rfl, hbg, hg, hnc, hcm, hcs, htake, hcu⟩
  · have hx : xs = [] := List.eq_nil_of_length_eq_zero (by simpa using hown.1)
    subst hx
    by_cases hm : m = 0
    · subst hm
      have hn0 : news = [] := List.eq_nil_of_length_eq_zero (by simpa using hl)
      subst hn0
      refine ⟨.slice none 0 0, w, ?_, OwnL.nil _ _ _ _, ⟨Below.refl _ _, KeepU.refl _, fun _ _ _ => rfl⟩⟩
      simp [Builtin.append_, run_underlying ht, sizeOf, typeInfo, hi0, Builtin.lenOf, Builtin.firstCells, loadCells, loadCellsFrom]
    · have hr := run_append_nil (P := P) w t ty e i z ht hi0 hz ad m c news hl hnews (by omega) (by omega) (by have hb := hbytes; simp only [Nat.zero_add] at hb; omega)
      have hgr := own_grown (w := w) (B := B) (e := e) (z := z) (n := 0) (m := m) (cap := grownCap w m 0 e) (xs := []) hzs (by simp) hl (fun y hy => by cases hy) hn hzu (by rw [Nat.zero_add]; exact grownCap_ge _ _ _ _) (grownCap_le_maxLen _ _ _ _ (by omega)) hB (.slice none 0 0)
      simp only [Nat.zero_add, List.nil_append, Array.empty_append] at hgr ⊢
      exact ⟨_, _, hr, hgr.1, hgr.2⟩
  · by_cases hroom : n + m ≤ cap
    · have hfit : n * i.size + news.length ≤ cur.size := by rw [hl, hcs, ← Nat.add_mul]; exact Nat.mul_le_mul_right _ hroom
      have hr := run_append_room (P := P) w t ty e i ht hi0 g n cap cur hg ad m c news hl hnews h1 hroom hfit
      have hlen : (xs ++ news).length = (n + m) * i.size := by rw [List.length_append, hown.1, hl, Nat.add_mul]
      have hoth : ∀ k, k ≠ g → (w.setRow g (cur.toList.take (n * i.size) ++ news ++ cur.toList.drop (n * i.size + news.length)).toArray).heap[k]? = w.heap[k]? := fun k hk => setRow_other w g k _ hk
      refine ⟨_, _, hr, ⟨hlen, .inr ⟨g, cap, _, rfl, hbg, setRow_heap w g cur _ e _ hg, hroom, hcm, ?_, ?_, ?_⟩⟩, ⟨⟨rfl, rfl, rfl, by simp [World.setRow], fun k hk => hoth k (by omega)⟩, KeepU.of_blocks fun k hk => ?_, fun k hk hne => hoth k fun he => hne (by rw [he]; rfl)⟩⟩
      · simp only [List.size_toArray, List.length_append, List.length_take, List.length_drop, Array.length_toList]
        omega
      · rw [htake, ← hlen]
        exact List.take_left
      · refine (NoU.append ?_ hn).append ?_
        · exact fun y hy => hcu y (List.mem_of_mem_take hy)
        · exact fun y hy => hcu y (List.mem_of_mem_drop hy)
      · by_cases hkg : k = g
        · subst hkg
          exact .inr ⟨cur, e, (0, 0), hg, hcu⟩
        · exact .inl (hoth k hkg)
    · have holds : ∀ j u, xs[j]? = some u → w.cell? ((⟨g, 0, none⟩ : Addr).add j) = some u := hown.to.cells (g := g) rfl
      have hr := run_append_grow (P := P) w t ty e i z ht hi0 hz ⟨g, 0, none⟩ n cap xs hown.1 holds ad m c news hl hnews (by omega) (by omega) (growslice_fits (by omega) hbytes)
      have hgr := own_grown (w := w) (B := B) (e := e) (z := z) (n := n) (m := m) (cap := grownCap w (n + m) cap e) hzs hown.1 hl hxu hn hzu (grownCap_ge _ _ _ _) (grownCap_le_maxLen _ _ _ _ h63) hB (.slice (some ⟨g, 0, none⟩) n cap)
      exact ⟨_, _, hr, hgr.1, hgr.2⟩
/-- the same from a source that may be nil -/
theorem push_any {P : Program} {w : World} {B : Nat} {t ty e : TypeId} {z : Value} {sz bytes n m c : Nat} {v : Value} {xs news : List Value} {A : Option Addr} (ht : P.underlying t = some (.slice e)) (hi : (P.info? e).map (fun i => (i.zero, i.size, i.bytes)) = some (some z, sz, bytes))
    (hzs : z.cells.size = sz) (hown : OwnL w B e sz v n xs) (hl : news.length = m * sz) (hnews : 0 < m → ∃ ad, A = some ad ∧ ∀ j u, news[j]? = some u → w.cell? (ad.add j) = some u) (h1 : ∀ u ∈ news, u.oneCell' = true) (hn : NoU news) (hzu : NoU z.cells.toList)
    (h63 : n + m ≤ maxLen) (hbytes : (n + m) * bytes ≤ 140737488355328) (hB : B ≤ w.heap.size) :
    ∃ v' w', (Builtin.append_ #[t, t] ty #[v, .slice A m c]).run P w = .ok v' w' ∧ OwnL w' B e sz v' (n + m) (xs ++ news) ∧ Soft B v w w' := by
  rcases Nat.eq_zero_or_pos m with rfl | hm
  · have hn0 : news = [] := List.eq_nil_of_length_eq_zero (by simpa using hl)
    subst hn0
    cases A with
    | some ad => exact push_run ht hi hzs hown hl (fun j u hu => by simp at hu) h1 hn hzu h63 hbytes hB
    | none =>
      obtain ⟨i, hi0, hz, hs, hby⟩ := info_parts hi
      refine ⟨v, w, ?_, by simpa using hown, ⟨Below.refl _ _, KeepU.refl _, fun _ _ _ => rfl⟩⟩
      rcases hown.2 with ⟨rfl, rfl⟩ | ⟨g, cap, cur, rfl, _, _, hnc, _⟩
      · simp [Builtin.append_, run_underlying ht, sizeOf, typeInfo, hi0, Builtin.lenOf, Builtin.firstCells]
      · simp [Builtin.append_, run_underlying ht, sizeOf, typeInfo, hi0, Builtin.lenOf, Builtin.firstCells, hnc, storeCells]
  · obtain ⟨ad, rfl, hc⟩ := hnews hm
    exact push_run ht hi hzs hown hl hc h1 hn hzu h63 hbytes hB

/-- an append in a region that draws its order -/
theorem push_ {P : Program} {ops : Array Oper} {Q : Exit → Act → World → Prop} {oi : Oper} {N : Option Tmp} {a : Act} {w w' : World} {v' : Value} {K : Act → World → Prop} {s x : Operand} {t : TypeId} {v vx : Value} (hw : Region.wanted oi (yielded ops a.tmps) = true) (hN : oi.dst = N)
    (ho : oi.op = .call { callee := .builtin .append, args := #[s, x], argTypes := #[t, t] }) (hs : a.eval s = v) (hx : a.eval x = vx) (hr : (Builtin.append_ #[t, t] oi.type #[v, vx]).run P w = .ok v' w') (h : K (a.put N v') w') :
    if Region.wanted oi (yielded ops a.tmps) = true then Oper.wp P oi a w K Q else K (a.put N undef) w := by
  rw [if_pos hw]
  subst hN
  unfold Oper.wp execOp
  simp only [ho, resolve, invoke, builtin, Sem.run_bind, Sem.run_pure, Result.andThen_ok, List.map_toArray, List.map_cons, List.map_nil, hs, hx, hr]
  exact h
/-- an append in a plain region -/
theorem pushL_ {P : Program} {ops : Array Oper} {rest : List Oper} {Q : Exit → Act → World → Prop} {oi : Oper} {a : Act} {w w' : World} {v' : Value} {s x : Operand} {t : TypeId} {v vx : Value} (hg : oi.guard = none)
    (ho : oi.op = .call { callee := .builtin .append, args := #[s, x], argTypes := #[t, t] }) (hs : a.eval s = v) (hx : a.eval x = vx) (hr : (Builtin.append_ #[t, t] oi.type #[v, vx]).run P w = .ok v' w') (h : wpList P ops Q rest (a.put oi.dst v') w') :
    wpList P ops Q (oi :: rest) a w := by
  refine wpList_plain hg fun K hK => ?_
  unfold Oper.wp execOp
  simp only [ho, resolve, invoke, builtin, Sem.run_bind, Sem.run_pure, Result.andThen_ok, List.map_toArray, List.map_cons, List.map_nil, hs, hx, hr]
  exact hK _ _ h
theorem Soft.trans_alloc {B : Nat} {v : Value} {w w' : World} {o : Obj} (hB : B ≤ w.heap.size) (h : Soft B v (w.alloc o) w') : Soft B v w w' := by
  have hal : Below w.heap.size w (w.alloc o) := (Below.refl _ w).alloc (Nat.le_refl _) o
  refine ⟨(hal.mono hB).trans h.below, (KeepU.below hal).trans h.keep, fun k hk hne => ?_⟩
  exact (h.other k (Nat.lt_of_lt_of_le hk hal.size) hne).trans (hal.block k hk)
/-- one element of one cell, behind the others: 'append(v, x)' as the walk meets it -/
theorem push_one {P : Program} {w : World} {B : Nat} {t ty e : TypeId} {z x : Value} {bytes n : Nat} {v : Value} {xs : List Value} (ht : P.underlying t = some (.slice e)) (hi : (P.info? e).map (fun i => (i.zero, i.size, i.bytes)) = some (some z, 1, bytes))
    (hzs : z.cells.size = 1) (hown : OwnL w B e 1 v n xs) (h1 : x.oneCell' = true) (hx : NoU [x]) (hzu : NoU z.cells.toList) (h63 : n + 1 ≤ maxLen) (hbytes : (n + 1) * bytes ≤ 140737488355328) (hB : B ≤ w.heap.size) :
    ∃ v' w', (Builtin.append_ #[t, t] ty #[v, .slice (some ⟨w.heap.size, 0, none⟩) 1 1]).run P (w.alloc (.cells #[x] e)) = .ok v' w' ∧ OwnL w' B e 1 v' (n + 1) (xs ++ [x]) ∧ Soft B v w w' := by
  have hal : Below w.heap.size w (w.alloc (.cells #[x] e)) := (Below.refl _ w).alloc (Nat.le_refl _) _
  have hob : Own (w.alloc (.cells #[x] e)) w.heap.size [x] := Own.mk [x] e
  obtain ⟨v', w', hr, ho, hs⟩ := push_run (P := P) (ty := ty) (n := n) (m := 1) (c := 1) (news := [x]) (ad := ⟨w.heap.size, 0, none⟩) ht hi hzs (hown.below hal) (by simp) (fun j u hu => by
    have hj : j = 0 := by
      cases j with
      | zero => rfl
      | succ j => simp at hu
    subst hj
    simp at hu
    subst hu
    rw [show (⟨w.heap.size, 0, none⟩ : Addr).add 0 = ⟨w.heap.size, 0, none⟩ from rfl]
    exact hob.cell 0 (by simp)) (by simpa using h1) hx hzu h63 hbytes (Nat.le_trans hB hal.size)
  exact ⟨v', w', hr, ho, hs.trans_alloc hB⟩

/-- strings, as bytes -/
def kStr : Knd (List UInt8) := ⟨1, fun _ x cs => cs = [.string ⟨x.toArray⟩], fun h => by rw [h]; rfl, fun _ h => h⟩
def sv (x : List UInt8) : Value := .string ⟨x.toArray⟩
theorem Knd.at_str {w : World} {A : Option Addr} {xs : List (List UInt8)} (h : kStr.Row w A xs) (i : Nat) (hi : i < xs.length) : ∃ ad, A = some ad ∧ w.cell? (ad.add i) = some (.string ⟨xs[i].toArray⟩) := by
  obtain ⟨ad, cs, e, hC, hc⟩ := h i hi
  have hC' : cs = [.string ⟨xs[i].toArray⟩] := hC
  subst hC'
  refine ⟨ad, e, ?_⟩
  have := hc 0 _ rfl
  rwa [show i * kStr.sz + 0 = i from by show i * 1 + 0 = i; omega] at this
theorem strs_row {w : World} {A : Option Addr} {xs : List (List UInt8)} (h : ∀ i (hi : i < xs.length), ∃ ad, A = some ad ∧ w.cell? (ad.add i) = some (sv xs[i])) : kStr.Row w A xs := by
  intro i hi
  obtain ⟨ad, e, hc⟩ := h i hi
  refine ⟨ad, [sv xs[i]], e, rfl, fun j u hu => ?_⟩
  have hj : j = 0 := by
    cases j with
    | zero => rfl
    | succ j => simp at hu
  subst hj
  simp at hu
  subst hu
  rw [show i * kStr.sz + 0 = i from by show i * 1 + 0 = i; omega]
  exact hc
/-- the block behind an address holds cells of one type -/
def TyB (w : World) (A : Option Addr) (t : TypeId) : Prop := ∀ ad, A = some ad → ∃ cur fz, w.heap[ad.block]? = some (.cells cur t fz)
theorem OwnL.typ {w : World} {B : Nat} {e : TypeId} {sz : Nat} {A : Option Addr} {m c n : Nat} {xs : List Value} (h : OwnL w B e sz (.slice A m c) n xs) : TyB w A e := by
  rcases h.2 with ⟨h1, _⟩ | ⟨g, cap, cur, h1, h2, h3, _⟩
  · intro ad e; simp only [Value.slice.injEq] at h1; rw [h1.1] at e; cases e
  · intro ad e; simp only [Value.slice.injEq] at h1; rw [h1.1] at e; cases e; exact ⟨_, _, h3⟩
/-- strings that stand in a block of strings -/
def StrR (t : TypeId) (w : World) (A : Option Addr) (l : List (List UInt8)) : Prop := kStr.Row w A l ∧ TyB w A t
theorem OwnL.strs {w : World} {B : Nat} {e : TypeId} {v : Value} {n : Nat} {xs : List (List UInt8)} (h : OwnL w B e 1 v n (xs.map sv)) : ∃ A c, v = .slice A xs.length c ∧ n = xs.length ∧ xs.length ≤ c ∧ c ≤ maxLen ∧ StrR e w A xs := by
  have hn : n = xs.length := by have := h.1; rw [List.length_map, Nat.mul_one] at this; exact this.symm
  subst hn
  obtain ⟨A, c, rfl, h1, h2, h3⟩ := h.form
  refine ⟨A, c, rfl, rfl, h1, h2, strs_row fun i hi => ?_, h.typ⟩
  obtain ⟨ad, rfl, h4⟩ := h3 (by omega)
  exact ⟨ad, rfl, h4 i _ (by simp [hi])⟩
theorem strs_of_owns {w : World} {B : Nat} {e : TypeId} {A : Nat} {n : Nat} {c : Nat} {xs : List (List UInt8)} (h : w.ownsRow B e 1 (.slice (some ⟨A, 0, none⟩) n c) n (xs.map sv)) : StrR e w (some ⟨A, 0, none⟩) xs :=
  ⟨strs_row fun i hi => ⟨_, rfl, h.cells (g := A) rfl i _ (by simp [hi])⟩, fun ad ea => by
    cases ea
    rcases h.2 with ⟨h1, _⟩ | ⟨g, cap, cur, h1, h2, h3, _⟩
    · simp at h1
    · simp only [Value.slice.injEq, Option.some.injEq, Addr.mk.injEq] at h1
      rw [← h1.1.1] at h3
      exact ⟨_, _, h3⟩⟩
theorem noU_str (x : List UInt8) : NoU [sv x] := fun y hy => by simp [sv] at hy
theorem kStr_take {w : World} {A : Option Addr} {xs : List (List UInt8)} (h : kStr.Row w A xs) (k : Nat) : kStr.Row w A (xs.take k) := by
  intro i hi
  rw [List.length_take] at hi
  obtain ⟨ad, cs, e, hC, hc⟩ := h i (by omega)
  exact ⟨ad, cs, e, by rw [List.getElem_take]; exact hC, hc⟩
end Go.Proofs.YtafmomlgkehdfaaDoor.F
