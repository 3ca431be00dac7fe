/- Slices of bytes that a call makes and appends to; strings. -/
import Derived.Test.YtidgpkccjcddgaaGreatDoorGi
import Derived.Laws.AppendOwn
import Derived.Lib.AppendStr
import Derived.Lib.FrozenHead
import Derived.Lib.ConvBytes
import Derived.Laws.IdiomStrings
import Derived.Lib.ItoaMem
set_option linter.unusedVariables false
set_option linter.unusedSimpArgs false
namespace Go.Proofs.YtidgpkccjcddgaaGreatDoor.F
open Go.RowKit Go.Shelf
def bc (l : List UInt8) : List Value := l.map fun b => Value.int .u8 b.toNat
theorem bc_length (l : List UInt8) : (bc l).length = l.length := by simp [bc]
theorem bc_append (l m : List UInt8) : bc (l ++ m) = bc l ++ bc m := by simp [bc]
theorem bc_one (l : List UInt8) : ∀ u ∈ bc l, u.oneCell' = true := by
 intro u hu
 simp only [bc, List.mem_map] at hu
 obtain ⟨b, _, rfl⟩ := hu
 rfl
theorem bc_noU (l : List UInt8) : NoU (bc l) := by
 intro y hy
 simp only [bc, List.mem_map] at hy
 obtain ⟨b, _, h⟩ := hy
 cases h
def Free (n : Nat) (fz : Nat × Nat) : Prop := ∀ k, k < n → ¬ (fz.1 ≤ k ∧ k < fz.2)
theorem store_free (P : Program) (g o : Nat) (t : TypeId) (fz : Nat × Nat) : ∀ (vs : List Value) (i : Nat) (cur : Array Value) (w : World), w.heap[g]? = some (.cells cur t fz) → Free cur.size fz → o + i + vs.length ≤ cur.size → (∀ v ∈ vs, v.oneCell' = true) →
 (storeCells ⟨g, o, none⟩ vs i).run P w = .ok () (w.setRow g (cur.toList.take (o + i) ++ vs ++ cur.toList.drop (o + i + vs.length)).toArray)
 | [], i, cur, w, hg, _, _, _ => by
  simp only [storeCells, List.append_nil, List.length_nil, Nat.add_zero, List.take_append_drop, Array.toArray_toList]
  rw [setRow_self w g cur t fz hg]
  rfl
 | v :: rest, i, cur, w, hg, hfz, hl, h1 => by
  have hi : o + i < cur.size := by simp at hl; omega
  have hadd : (⟨g, o, none⟩ : Addr).add i = ⟨g, o + i, none⟩ := by unfold Addr.add; split <;> simp_all
  have hcell : w.cell? ⟨g, o + i, none⟩ = some cur[o + i] := by simp [World.cell?, hg, hi]
  have hfro : w.frozen? ⟨g, o + i, none⟩ = false := by
   have hf := hfz _ hi
   obtain ⟨lo, hi'⟩ := fz
   simp only [World.frozen?, hg, Bool.and_eq_false_iff, decide_eq_false_iff_not]
   simp only at hf
   omega
  have hst : (store ((⟨g, o, none⟩ : Addr).add i) v).run P w = .ok () (w.setRow g (cur.setIfInBounds (o + i) v)) := by
   rw [hadd, run_store P w _ v _ (h1 v (by simp)), hcell]
   simp [hfro, setCell_eq_setRow w g (o + i) cur t fz v hg]
  have ih := store_free P g o t fz rest (i + 1) (cur.setIfInBounds (o + i) v) (w.setRow g (cur.setIfInBounds (o + i) v)) (setRow_heap w g cur _ t _ hg) (by simpa using hfz) (by simp at hl ⊢; omega) (fun x hx => h1 x (by simp [hx]))
  simp only [storeCells, Sem.run_bind, hst, Result.andThen_ok, ih, setRow_setRow]
  congr 3
  have e := list_seg_step cur.toList (o + i) v rest (by simp at hl ⊢; omega)
  simpa [Array.toList_setIfInBounds, Nat.add_assoc] using e
def OwnB (w : World) (B : Nat) (e : TypeId) (v : Value) (l : List UInt8) : Prop :=
 (v = .slice none 0 0 ∧ l = []) ∨ ∃ g cap cur fz, v = .slice (some ⟨g, 0, none⟩) l.length cap ∧ B ≤ g ∧ w.heap[g]? = some (.cells cur e fz) ∧ Free cur.size fz ∧ l.length ≤ cap ∧ cap ≤ maxLen ∧ cur.size = cap ∧ cur.toList.take l.length = bc l ∧ NoU cur.toList
theorem OwnB.nil (w : World) (B : Nat) (e : TypeId) : OwnB w B e (.slice none 0 0) [] := .inl ⟨rfl, rfl⟩
theorem OwnB.mono {w : World} {B C : Nat} {e : TypeId} {v : Value} {l : List UInt8} (h : OwnB w B e v l) (hC : C ≤ B) : OwnB w C e v l := by
 rcases h with h | ⟨g, cap, cur, fz, h1, h2, h3⟩
 · exact .inl h
 · exact .inr ⟨g, cap, cur, fz, h1, by omega, h3⟩
theorem OwnB.below {w w' : World} {B : Nat} {e : TypeId} {v : Value} {l : List UInt8} (h : OwnB w B e v l) (hb : Below w.heap.size w w') : OwnB w' B e v l := by
 rcases h with h | ⟨g, cap, cur, fz, h1, h2, h3, h4⟩
 · exact .inl h
 · exact .inr ⟨g, cap, cur, fz, h1, h2, (hb.block g (Array.getElem?_eq_some_iff.1 h3).1).trans h3, h4⟩
theorem OwnB.form {w : World} {B : Nat} {e : TypeId} {v : Value} {l : List UInt8} (h : OwnB w B e v l) : ∃ A c, v = .slice A l.length c ∧ l.length ≤ c ∧ (∀ j (hj : j < l.length), ∃ ad, A = some ad ∧ w.cell? (ad.add j) = some (.int .u8 (l[j].toNat : Int))) ∧ (∀ ad, A = some ad → B ≤ ad.block) := by
 rcases h with ⟨rfl, rfl⟩ | ⟨g, cap, cur, fz, rfl, h2, h3, h4, h5, h6, h7, h8, h9⟩
 · exact ⟨none, 0, rfl, Nat.le_refl _, fun j hj => by simp at hj, fun _ h => by cases h⟩
 · refine ⟨_, cap, rfl, h5, fun j hj => ⟨_, rfl, ?_⟩, fun ad h => by obtain rfl := Option.some.inj h; exact h2⟩
   have hadd : (⟨g, 0, none⟩ : Addr).add j = ⟨g, j, none⟩ := by unfold Addr.add; split <;> simp_all
   rw [hadd, cell_of_row w g j cur e fz h3]
   have e1 : (cur.toList.take l.length)[j]? = (bc l)[j]? := by rw [h8]
   rw [List.getElem?_take, if_pos hj] at e1
   have e2 : (bc l)[j]? = some (.int .u8 (l[j].toNat : Int)) := by simp [bc, hj]
   rw [e2] at e1
   simpa using e1
theorem OwnB.str {P : Program} {w : World} {B : Nat} {src dst e : TypeId} {v : Value} {l : List UInt8} (h : OwnB w B e v l) (hs : P.underlying src = some (.slice e)) (he : P.underlying e = some (.int .u8)) (hd : P.underlying dst = some .string) :
 (convert src dst v).run P w = .ok (.string ⟨l.toArray⟩) w := by
 obtain ⟨A, c, rfl, hc, hr, _⟩ := h.form
 by_cases h0 : l = []
 · subst h0
   cases A with
   | none => rw [run_convert_bytes_string w src dst e none _ c hs he hd]; rfl
   | some ad => exact run_convert_bytes_back w src dst e ad c [] hs he hd (fun j hj => by simp at hj)
 · obtain ⟨ad, rfl, _⟩ := hr 0 (List.length_pos_iff.2 h0)
   exact run_convert_bytes_back w src dst e ad c l hs he hd (fun j hj => by obtain ⟨ad', h1, h2⟩ := hr j hj; obtain rfl := Option.some.inj h1; exact h2)
structure SoftB (B : Nat) (v : Value) (w w' : World) : Prop where
 below : Below B w w'
 keep : KeepU w w'
 other : ∀ k, k < w.heap.size → v.ownBlock ≠ some k → w'.heap[k]? = w.heap[k]?
structure Src (P : Program) (w : World) (u : TypeId) (x : Value) (m : List UInt8) : Prop where
 typ : (∃ e, P.underlying u = some (.slice e)) ∨ P.underlying u = some .string
 len : (Builtin.lenOf x).run P w = .ok m.length w
 now : (Builtin.firstCells 1 m.length x).run P w = .ok (bc m).toArray w
 drew : (Builtin.firstCells 1 m.length x).run P w.drew = .ok (bc m).toArray w.drew
theorem Src.str {P : Program} {w : World} {u : TypeId} {s : ByteArray} (hu : P.underlying u = some .string) : Src P w u (.string s) s.data.toList := by
 have e : s.data.toList.length = s.size := by simp only [Array.length_toList]; rfl
 refine ⟨.inr hu, ?_, ?_, ?_⟩
 · rw [e]; rfl
 · rw [e]; exact Lib.run_firstCells_string w 1 s
 · rw [e]; exact Lib.run_firstCells_string w.drew 1 s
theorem Src.row {P : Program} {w : World} {u e : TypeId} {ad : Addr} {c n : Nat} {m : List UInt8} (hn : m.length = n) (hu : P.underlying u = some (.slice e)) (h : ∀ j u, (bc m)[j]? = some u → w.cell? (ad.add j) = some u) : Src P w u (.slice (some ad) n c) m := by
 subst hn
 have hl : (bc m).length = m.length * 1 := by rw [bc_length, Nat.mul_one]
 exact ⟨.inl ⟨e, hu⟩, rfl, run_firstCells_some (P := P) w 1 m.length ad m.length c (bc m) hl h, run_firstCells_some (P := P) w.drew 1 m.length ad m.length c (bc m) hl (fun j u hj => h j u hj)⟩
theorem own_grownB {w : World} {B cap : Nat} {e : TypeId} {l m : List UInt8} (hc : l.length + m.length ≤ cap) (hm : cap ≤ maxLen) (hB : B ≤ w.heap.size) (v : Value) :
 OwnB (w.drew.alloc (.cells ((bc l).toArray ++ (bc m).toArray ++ Builtin.zeroCells (Value.int .u8 0).cells (cap - (l.length + m.length))) e)) B e (.slice (some ⟨w.heap.size, 0, none⟩) (l.length + m.length) cap) (l ++ m) ∧
  SoftB B v w (w.drew.alloc (.cells ((bc l).toArray ++ (bc m).toArray ++ Builtin.zeroCells (Value.int .u8 0).cells (cap - (l.length + m.length))) e)) := by
 have hb : Below w.heap.size w (w.drew.alloc (.cells ((bc l).toArray ++ (bc m).toArray ++ Builtin.zeroCells (Value.int .u8 0).cells (cap - (l.length + m.length))) e)) := (Below.refl _ _).drew.alloc (Nat.le_refl _) _
 have hz1 : (Value.int IntKind.u8 0).cells.size = 1 := rfl
 have hll : (l ++ m).length = l.length + m.length := List.length_append
 refine ⟨.inr ⟨w.heap.size, cap, _, (0, 0), by rw [hll], hB, heap_alloc_new w.drew _, fun k hk h => by simp at h, by omega, hm, ?_, ?_, ?_⟩, ⟨hb.mono hB, KeepU.below hb, fun k hk _ => hb.block k hk⟩⟩
 · simp only [Array.size_append, List.size_toArray, size_zeroCells, hz1, bc_length]
   omega
 · simp only [Array.toList_append]
   rw [bc_append, show (l ++ m).length = (bc l ++ bc m).length by rw [List.length_append, List.length_append, bc_length, bc_length]]
   exact List.take_left
 · simp only [Array.toList_append]
   exact ((bc_noU l).append (bc_noU m)).append fun y hy => by
    have := mem_zeroCells hy
    simp [Value.cells] at this
theorem pushB {P : Program} {w : World} {B : Nat} {t u ty e : TypeId} {v x : Value} {l m : List UInt8} (ht : P.underlying t = some (.slice e)) (hi : (P.info? e).map (fun i => (i.zero, i.size, i.bytes)) = some (some (.int .u8 0), 1, 1))
 (hown : OwnB w B e v l) (hx : Src P w u x m) (hlim : l.length + m.length ≤ 140737488355328) (hB : B ≤ w.heap.size) :
 ∃ v' w', (Builtin.append_ #[t, u] ty #[v, x]).run P w = .ok v' w' ∧ OwnB w' B e v' (l ++ m) ∧ SoftB B v w w' := by
 obtain ⟨i, hi0, hz, hs, hby⟩ := info_parts hi
 have hmx : maxLen = 9223372036854775807 := rfl
 have hzu : (Builtin.append_ #[t, u] ty #[v, x]).run P w = (Builtin.append_ #[t, u] ty #[v, x]).run P w := rfl
 obtain ⟨A, n, c, rfl, hn, hnc, hcm⟩ : ∃ A n c, v = .slice A n c ∧ n = l.length ∧ l.length ≤ c ∧ c ≤ maxLen := by
  rcases hown with ⟨rfl, rfl⟩ | ⟨g, cap, cur, fz, rfl, h2, h3, h4, h5, h6, h7, h8, h9⟩
  · exact ⟨_, _, _, rfl, rfl, Nat.le_refl _, by simp [maxLen]⟩
  · exact ⟨_, _, _, rfl, rfl, h5, h6⟩
 subst hn
 have hk : (∃ e', P.underlying u = some (.slice e')) ∨ P.underlying u = some .string := hx.typ
 by_cases hroom : l.length + m.length ≤ c
 · rcases hown with ⟨hv, rfl⟩ | ⟨g, cap, cur, fz, hv, h2, h3, h4, h5, h6, h7, h8, h9⟩
   · simp only [Value.slice.injEq] at hv
     obtain ⟨rfl, -, rfl⟩ := hv
     have hm0 : m = [] := List.eq_nil_of_length_eq_zero (by simpa using hroom)
     subst hm0
     refine ⟨.slice none 0 0, w, ?_, OwnB.nil _ _ _, ⟨Below.refl _ _, KeepU.refl _, fun _ _ _ => rfl⟩⟩
     have hl := hx.len
     have hf := hx.now
     simp only [List.length_nil] at hl hf
     rcases hk with ⟨e', hu⟩ | hu
     · simp [Builtin.append_, run_underlying ht, run_underlying hu, sizeOf, typeInfo, hi0, hs, hl, hf, Result.andThen]
     · simp [Builtin.append_, run_underlying ht, run_underlying hu, sizeOf, typeInfo, hi0, hs, hl, hf, Result.andThen]
   · simp only [Value.slice.injEq] at hv
     obtain ⟨rfl, -, rfl⟩ := hv
     have hst := store_free P g l.length e fz (bc m) 0 cur w h3 h4 (by rw [bc_length]; omega) (bc_one m)
     simp only [Nat.add_zero, bc_length] at hst
     have hoth : ∀ k, k ≠ g → (w.setRow g (cur.toList.take l.length ++ bc m ++ cur.toList.drop (l.length + m.length)).toArray).heap[k]? = w.heap[k]? := fun k hk => setRow_other w g k _ hk
     refine ⟨.slice (some ⟨g, 0, none⟩) (l.length + m.length) c, w.setRow g (cur.toList.take l.length ++ bc m ++ cur.toList.drop (l.length + m.length)).toArray, ?_, .inr ⟨g, c, _, fz, by rw [List.length_append], h2, setRow_heap w g cur _ e _ h3, ?_, by rw [List.length_append]; exact hroom, h6, ?_, ?_, ?_⟩, ⟨⟨rfl, rfl, rfl, by simp [World.setRow], fun k hk => hoth k (by omega)⟩, KeepU.of_blocks fun k hk => ?_, fun k hk hne => hoth k fun he => hne (by rw [he]; rfl)⟩⟩
     · have hl := hx.len
       have hf := hx.now
       rcases hk with ⟨e', hu⟩ | hu
       · simp [Builtin.append_, run_underlying ht, run_underlying hu, sizeOf, typeInfo, hi0, hs, hl, hf, hroom, Addr.add_lit, hst, Result.andThen]
       · simp [Builtin.append_, run_underlying ht, run_underlying hu, sizeOf, typeInfo, hi0, hs, hl, hf, hroom, Addr.add_lit, hst, Result.andThen]
     · have es : (cur.toList.take l.length ++ bc m ++ cur.toList.drop (l.length + m.length)).toArray.size = cur.size := by
        simp only [List.size_toArray, List.length_append, List.length_take, List.length_drop, Array.length_toList, bc_length]
        omega
       rw [es]; exact h4
     · simp only [List.size_toArray, List.length_append, List.length_take, List.length_drop, Array.length_toList, bc_length]
       omega
     · show (cur.toList.take l.length ++ bc m ++ cur.toList.drop (l.length + m.length)).take (l ++ m).length = bc (l ++ m)
       rw [h8, bc_append, show (l ++ m).length = (bc l ++ bc m).length by rw [List.length_append, List.length_append, bc_length, bc_length]]
       exact List.take_left
     · show NoU (cur.toList.take l.length ++ bc m ++ cur.toList.drop (l.length + m.length))
       refine (NoU.append ?_ (bc_noU m)).append ?_
       · exact fun y hy => h9 y (List.mem_of_mem_take hy)
       · exact fun y hy => h9 y (List.mem_of_mem_drop hy)
     · by_cases hkg : k = g
       · subst hkg
         exact .inr ⟨cur, e, fz, h3, h9⟩
       · exact .inl (hoth k hkg)
 · have hold : (Builtin.firstCells 1 l.length (.slice A l.length c)).run P w.drew = .ok (bc l).toArray w.drew := by
    rcases hown with ⟨hv, rfl⟩ | ⟨g, cap, cur, fz, hv, h2, h3, h4, h5, h6, h7, h8, h9⟩
    · simp only [Value.slice.injEq] at hv
      obtain ⟨rfl, -, rfl⟩ := hv
      simp [Builtin.firstCells, bc]
    · simp only [Value.slice.injEq] at hv
      obtain ⟨rfl, -, rfl⟩ := hv
      exact run_firstCells_some (P := P) w.drew 1 l.length ⟨g, 0, none⟩ l.length c (bc l) (by rw [bc_length, Nat.mul_one]) (fun j u hj => by
       have hadd : (⟨g, 0, none⟩ : Addr).add j = ⟨g, j, none⟩ := by unfold Addr.add; split <;> simp_all
       show w.cell? _ = _
       rw [hadd, cell_of_row w g j cur e fz h3]
       rw [← h8, List.getElem?_take] at hj
       split at hj
       · simpa using hj
       · cases hj)
   have hgr := own_grownB (w := w) (B := B) (cap := grownCap w (l.length + m.length) c e) (e := e) (l := l) (m := m) (grownCap_ge _ _ _ _) (grownCap_le_maxLen _ _ _ _ (by rw [hmx]; omega)) hB (.slice A l.length c)
   refine ⟨_, _, ?_, hgr.1, hgr.2⟩
   have h63' : ¬ (9223372036854775807 < ((l.length : Int) + (m.length : Int))) := by omega
   have hfit : Builtin.nextslicecap (l.length + m.length) c * i.bytes ≤ 281474976710656 := by rw [hby]; exact growslice_fits (by omega) (by omega)
   have h48' : ¬ (281474976710656 < Builtin.nextslicecap (l.length + m.length) c * i.bytes) := by omega
   have hl := hx.len
   have hf := hx.drew
   rcases hk with ⟨e', hu⟩ | hu
   · simp [Builtin.append_, run_underlying ht, run_underlying hu, sizeOf, typeInfo, zeroValue, hi0, hz, hs, hl, hroom, h63', h48', Question.forced, hf, hold, newRow, grownCap, Result.andThen]
     congr 2
     apply Array.ext'
     simp [List.append_assoc]
   · simp [Builtin.append_, run_underlying ht, run_underlying hu, sizeOf, typeInfo, zeroValue, hi0, hz, hs, hl, hroom, h63', h48', Question.forced, hf, hold, newRow, grownCap, Result.andThen]
     congr 2
     apply Array.ext'
     simp [List.append_assoc]
theorem run_makeB {P : Program} (t e : TypeId) (ht : P.underlying t = some (.slice e)) (hi : (P.info? e).map (fun i => (i.zero, i.size, i.bytes)) = some (some (.int .u8 0), 1, 1))
 (x : Int) (n : Nat) (hx : x = n) (hb : n ≤ 70368744177664) (w : World) :
 (Instr.makeSlice t (.int .i64 x) (.int .i64 x)).run P w = .ok (.slice (some ⟨w.heap.size, 0, none⟩) n n) (w.alloc (.cells (madeCells #[.int .u8 0] n) e)) := by
 subst hx
 obtain ⟨i, hi0, hz, hs, hby⟩ := info_parts hi
 have := run_makeN (P := P) t e i (.int .u8 0) ht hi0 hz .i64 .i64 n n (Nat.le_refl _) (by rw [hby]; omega) (by omega) w
 rw [hs, Nat.mul_one] at this
 exact this
theorem bc_set (l : List UInt8) (i : Nat) (x : UInt8) : (bc l).set i (.int .u8 x.toNat) = bc (l.set i x) := by simp [bc, List.map_set]
theorem bc_zeros (n : Nat) : bc (List.replicate n 0) = List.replicate n (.int .u8 0) := by simp [bc]
theorem own_zerosB (w : World) (n : Nat) (t : TypeId) : Own (w.alloc (.cells (madeCells #[.int .u8 0] n) t)) w.heap.size (bc (List.replicate n 0)) := by
 rw [bc_zeros]
 exact own_made w (.int .u8 0) n t
theorem ownB_cell {w : World} {g : Nat} {l : List UInt8} (h : Own w g (bc l)) (i : Nat) (hi : i < l.length) : w.cell? ⟨g, i, none⟩ = some (.int .u8 l[i].toNat) := by
 have := h.cell i (by rw [bc_length]; exact hi)
 rw [this]
 simp [bc]
theorem ownB_set {w : World} {g : Nat} {l : List UInt8} (h : Own w g (bc l)) (i : Nat) (x : UInt8) : Own (w.setCell ⟨g, i, none⟩ (.int .u8 x.toNat)) g (bc (l.set i x)) := by
 rw [← bc_set]
 exact h.set i _
theorem ownB_str {P : Program} {w : World} {g c : Nat} {src dst e : TypeId} {l : List UInt8} (h : Own w g (bc l)) (hs : P.underlying src = some (.slice e)) (he : P.underlying e = some (.int .u8)) (hd : P.underlying dst = some .string) :
 (convert src dst (.slice (some ⟨g, 0, none⟩) l.length c)).run P w = .ok (.string ⟨l.toArray⟩) w :=
 run_convert_bytes_back w src dst e ⟨g, 0, none⟩ c l hs he hd fun j hj => by
  have hadd : (⟨g, 0, none⟩ : Addr).add j = ⟨g, j, none⟩ := by unfold Addr.add; split <;> simp_all
  rw [hadd]
  exact ownB_cell h j hj
theorem Src.lit {P : Program} {w : World} {u : TypeId} {l : List UInt8} (hu : P.underlying u = some .string) : Src P w u (.string ⟨l.toArray⟩) l := by
 have h := Src.str (w := w) (s := ⟨l.toArray⟩) hu
 simpa using h
theorem pushBL_ {P : Program} {ops : Array Oper} {rest : List Oper} {Q : Exit → Act → World → Prop} {oi : Oper} {a : Act} {w w' : World} {v' : Value} {s x : Operand} {t u : TypeId} {v vx : Value} (hg : oi.guard = none)
 (ho : oi.op = .call { callee := .builtin .append, args := #[s, x], argTypes := #[t, u] }) (hs : a.eval s = v) (hx : a.eval x = vx) (hr : (Builtin.append_ #[t, u] oi.type #[v, vx]).run P w = .ok v' w') (h : wpList P ops Q rest (a.put oi.dst v') w') :
 wpList P ops Q (oi :: rest) a w := by
 refine wpList_plain hg fun K hK => ?_
 unfold Oper.wp execOp
 simp only [ho, resolve, invoke, builtin, Sem.run_bind, Sem.run_pure, Result.andThen_ok, List.map_toArray, List.map_cons, List.map_nil, hs, hx, hr]
 exact hK _ _ h
theorem NoU.set {cs : List Value} (h : NoU cs) (i : Nat) {v : Value} (hv : ∀ y, Value.int .u32 y ≠ v) : NoU (cs.set i v) := fun y hy => by
 rcases List.mem_or_eq_of_mem_set hy with h1 | h1
 · exact h y h1
 · exact hv y h1
theorem KeepU.set {w : World} {g : Nat} {cs : List Value} (ho : Own w g cs) (hn : NoU cs) (i : Nat) (v : Value) : KeepU w (w.setCell ⟨g, i, none⟩ v) := by
 obtain ⟨t, ht⟩ := ho
 refine KeepU.of_blocks fun k hk => ?_
 by_cases hkg : k = g
 · subst hkg
   exact .inr ⟨_, t, (0, 0), ht, hn⟩
 · exact .inl (Below.heap_setCell w ⟨g, i, none⟩ v k hkg)
theorem wt5 (x : RatD) : 5 ≤ wt x := by unfold wt; omega
theorem wt_le (m : Int × RatD) : wt m.2 ≤ wtm m := by unfold wtm; omega
theorem wtm7 (m : Int × RatD) : 7 ≤ wtm m := by have := wt5 m.2; unfold wtm; omega
end Go.Proofs.YtidgpkccjcddgaaGreatDoor.F
