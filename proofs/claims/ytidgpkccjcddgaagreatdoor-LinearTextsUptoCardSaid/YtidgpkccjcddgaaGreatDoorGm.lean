/- Words, lines and decimal numbers of a text, as plain functions of its bytes; the library's ways (FieldsFunc, Split, Trim, Atoi) come to these. No condition. -/
import Derived.Lib.FieldsP
import Derived.Lib.MapLaws
import Derived.Lib.SplitLaws
import Derived.Lib.SlTrimSet
import Derived.Lib.Strings
import Derived.Lib.Atoi
import Derived.Lib.ItoaMem
import Derived.Lib.IndexMore
import Derived.Lib.IndexLaws
import Derived.Lib.AtoiAllCases
import Derived.Lib.TrimByte
set_option linter.unusedVariables false
set_option linter.unusedSimpArgs false
namespace Go.Proofs.YtidgpkccjcddgaaGreatDoor.F

/-! ### words -/
/-- one byte more: behind it the spans that have ended, and where one is open -/
def stepS (x : List (Nat × Nat) × Option Nat) (pos : Nat) (b : Bool) : List (Nat × Nat) × Option Nat :=
  match b, x.2 with
  | true, some a => (x.1 ++ [(a, pos)], none)
  | true, none => (x.1, none)
  | false, some a => (x.1, some a)
  | false, none => (x.1, some pos)
/-- the spans behind the first k bytes -/
def spS (q : UInt8 → Bool) (l : List UInt8) : Nat → List (Nat × Nat) × Option Nat
  | 0 => ([], none)
  | k + 1 => stepS (spS q l k) k (q (l.getD k 0))
def spansB (q : UInt8 → Bool) (l : List UInt8) : List (Nat × Nat) := (stepS (spS q l l.length) l.length true).1
def cutAt (l : List UInt8) (x : Nat × Nat) : List UInt8 := (l.take x.2).drop x.1
/-- what stands between the bytes of which q holds -/
def wdsQ (q : UInt8 → Bool) (l : List UInt8) : List (List UInt8) := (spansB q l).map (cutAt l)
def blank (b : UInt8) : Bool := b == 32 || b == 9 || b == 13
def blankR (r : Nat) : Bool := r == 32 || r == 9 || r == 13
abbrev wds (l : List UInt8) : List (List UInt8) := wdsQ blank l

theorem spS_skip (q : UInt8 → Bool) (l : List UInt8) (pos : Nat) : ∀ n, (∀ j, j < n + 1 → q (l.getD (pos + j) 0) = false) → spS q l (pos + (n + 1)) = ((spS q l pos).1, some ((spS q l pos).2.getD pos))
  | 0, h => by
    have h0 := h 0 (by omega)
    rw [show pos + (0 + 1) = pos + 1 by omega, spS, show l.getD pos 0 = l.getD (pos + 0) 0 by rw [Nat.add_zero], h0]
    unfold stepS
    cases (spS q l pos).2 <;> rfl
  | n + 1, h => by
    have ih := spS_skip q l pos n (fun j hj => h j (by omega))
    have h0 := h (n + 1) (by omega)
    rw [show pos + (n + 1 + 1) = (pos + (n + 1)) + 1 by omega, spS, ih, h0]
    rfl

theorem dec_bytes (s : ByteArray) (pos : Nat) (h : pos < s.size) :
    ((s.get! pos).toNat < 128 ∧ Utf8.decode s pos = ((s.get! pos).toNat, 1)) ∨
    (128 ≤ (Utf8.decode s pos).1 ∧ 1 ≤ (Utf8.decode s pos).2 ∧ pos + (Utf8.decode s pos).2 ≤ s.size ∧ ∀ j, j < (Utf8.decode s pos).2 → 128 ≤ (s.get! (pos + j)).toNat) := by
  rw [Lib.decode_at]
  generalize hn : s.size - pos = n
  by_cases h0 : (s.get! pos).toNat < 128
  · left
    refine ⟨h0, ?_⟩
    unfold Lib.decodeN
    rw [if_pos h0]
  · right
    rcases Lib.decodeN_shape n (s.get! pos).toNat (s.get! (pos + 1)).toNat (s.get! (pos + 2)).toNat (s.get! (pos + 3)).toNat with ⟨a, _⟩ | ⟨a, b, c, d, e⟩ | ⟨a, b, c, d, e, f, g⟩ | ⟨a, b, c, d, e, f, g, i⟩ | e
    · omega
    · rw [e]
      refine ⟨d, by simp only; omega, by simp only; omega, fun j hj => ?_⟩
      simp only at hj
      match j, hj with
      | 0, _ => simpa using h0
      | 1, _ => omega
    · rw [g]
      refine ⟨by simp only; omega, by simp only; omega, by simp only; omega, fun j hj => ?_⟩
      simp only at hj
      match j, hj with
      | 0, _ => simpa using h0
      | 1, _ => omega
      | 2, _ => omega
    · rw [i]
      refine ⟨by simp only; omega, by simp only; omega, by simp only; omega, fun j hj => ?_⟩
      simp only at hj
      match j, hj with
      | 0, _ => simpa using h0
      | 1, _ => omega
      | 2, _ => omega
      | 3, _ => omega
    · rw [e]
      refine ⟨by decide, by decide, by simp only; omega, fun j hj => ?_⟩
      simp only at hj
      match j, hj with
      | 0, _ => simpa using h0

theorem get_getD (s : ByteArray) (i : Nat) : s.data.toList.getD i 0 = s.get! i := by
  obtain ⟨⟨l⟩⟩ := s
  show l.getD i 0 = (⟨l⟩ : Array UInt8)[i]!
  rw [List.getD_eq_getElem?_getD]
  by_cases h : i < l.length
  · simp [h]
  · have h' : l.length ≤ i := by omega
    simp [h']
    rfl

theorem spans_walk {p : Nat → Bool} {q : UInt8 → Bool} (hq : ∀ b, q b = p b.toNat) (hp : ∀ r, 128 ≤ r → p r = false) (s : ByteArray) : ∀ (f pos : Nat) (st : Option Nat) (acc : List (Nat × Nat)), s.size ≤ pos + f → pos ≤ s.size → (acc, st) = spS q s.data.toList pos →
    Lib.spansFromP p s f pos st acc = spS q s.data.toList s.size
  | 0, pos, st, acc, h1, h2, h3 => by
    have : pos = s.size := by omega
    subst this
    exact h3
  | f + 1, pos, st, acc, h1, h2, h3 => by
    by_cases hlt : pos < s.size
    · have hsk : (p (Utf8.decode s pos).1 = true ∧ (Utf8.decode s pos).2 = 1 ∧ q (s.data.toList.getD pos 0) = true) ∨ (p (Utf8.decode s pos).1 = false ∧ ∃ n, (Utf8.decode s pos).2 = n + 1 ∧ pos + (n + 1) ≤ s.size ∧ spS q s.data.toList (pos + (n + 1)) = ((spS q s.data.toList pos).1, some ((spS q s.data.toList pos).2.getD pos))) := by
        rcases dec_bytes s pos hlt with ⟨a, e⟩ | ⟨a, b, c, d⟩
        · rw [e]
          simp only
          cases hpb : p (s.get! pos).toNat with
          | true => exact .inl ⟨by simp, by simp, by rw [get_getD, hq, hpb]⟩
          | false =>
            refine .inr ⟨by simp, 0, by simp, by omega, spS_skip q _ pos 0 fun j hj => ?_⟩
            have : j = 0 := by omega
            subst this
            rw [Nat.add_zero, get_getD, hq, hpb]
        · refine .inr ⟨hp _ a, (Utf8.decode s pos).2 - 1, by omega, by omega, spS_skip q _ pos _ fun j hj => ?_⟩
          rw [get_getD, hq]
          exact hp _ (d j (by omega))
      unfold Lib.spansFromP
      rw [if_pos hlt]
      rcases hsk with ⟨e1, e2, e3⟩ | ⟨e1, n, e2, e3, e4⟩
      · rw [if_pos e1, e2]
        have hs : spS q s.data.toList (pos + 1) = stepS (acc, st) pos true := by rw [spS, ← h3, e3]
        cases st with
        | some a => exact spans_walk hq hp s f _ _ _ (by omega) (by omega) hs.symm
        | none => exact spans_walk hq hp s f _ _ _ (by omega) (by omega) hs.symm
      · rw [e1, if_neg (by decide), e2]
        rw [← h3] at e4
        cases st with
        | some a => exact spans_walk hq hp s f _ _ _ (by omega) (by omega) e4.symm
        | none => exact spans_walk hq hp s f _ _ _ (by omega) (by omega) e4.symm
    · have : pos = s.size := by omega
      subst this
      rw [Lib.spansFromP_end p s _ _ _ _ hlt]
      exact h3

theorem fields_eq {p : Nat → Bool} {q : UInt8 → Bool} (hq : ∀ b, q b = p b.toNat) (hp : ∀ r, 128 ≤ r → p r = false) (l : List UInt8) :
    Lib.goFieldsP p ⟨l.toArray⟩ = (wdsQ q l).map fun x => ⟨x.toArray⟩ := by
  have hs : (⟨l.toArray⟩ : ByteArray).size = l.length := by show l.toArray.size = _; simp
  have h := spans_walk hq hp ⟨l.toArray⟩ (⟨l.toArray⟩ : ByteArray).size 0 none [] (by omega) (by omega) rfl
  rw [hs] at h
  have hl : (⟨l.toArray⟩ : ByteArray).data.toList = l := rfl
  rw [hl] at h
  unfold Lib.goFieldsP Lib.spansOfP wdsQ spansB
  rw [hs, h, List.map_map]
  have hc : Lib.closeSpans ⟨l.toArray⟩ (spS q l l.length) = (stepS (spS q l l.length) l.length true).1 := by
    unfold Lib.closeSpans stepS
    rw [hs]
    cases (spS q l l.length).2 <;> rfl
  rw [hc]
  apply List.map_congr_left
  intro x _
  apply ByteArray.ext
  show (ByteArray.extract ⟨l.toArray⟩ x.1 x.2).data = _
  rw [ByteArray.data_extract]
  simp [cutAt, List.drop_take]

theorem blank_R (b : UInt8) : blank b = blankR b.toNat := by
  have h : ∀ n : Nat, n < 256 → ∀ b : UInt8, (b == UInt8.ofNat n) = (b.toNat == n) := fun n hn b => by
    rw [Bool.eq_iff_iff, beq_iff_eq, beq_iff_eq]
    constructor
    · rintro rfl
      simp
      omega
    · intro h
      rw [← h]
      simp
  unfold blank blankR
  rw [show (32 : UInt8) = UInt8.ofNat 32 from rfl, show (9 : UInt8) = UInt8.ofNat 9 from rfl, show (13 : UInt8) = UInt8.ofNat 13 from rfl, h 32 (by omega), h 9 (by omega), h 13 (by omega)]
theorem blankR_high (r : Nat) (h : 128 ≤ r) : blankR r = false := by
  unfold blankR
  have a : (r == 32) = false := by simp; omega
  have b : (r == 9) = false := by simp; omega
  have c : (r == 13) = false := by simp; omega
  rw [a, b, c]; rfl
theorem fields_wds (l : List UInt8) : Lib.goFieldsP blankR ⟨l.toArray⟩ = (wds l).map fun x => ⟨x.toArray⟩ := fields_eq blank_R blankR_high l

theorem spS_le (q : UInt8 → Bool) (l : List UInt8) : ∀ k, (∀ x ∈ (spS q l k).1, x.1 ≤ x.2 ∧ x.2 ≤ k) ∧ (∀ a, (spS q l k).2 = some a → a < k) ∧ (spS q l k).1.length ≤ k
  | 0 => ⟨fun x hx => by simp [spS] at hx, fun a ha => by simp [spS] at ha, by simp [spS]⟩
  | k + 1 => by
    obtain ⟨h1, h2, h3⟩ := spS_le q l k
    rw [spS]
    generalize spS q l k = x at *
    obtain ⟨acc, st⟩ := x
    unfold stepS
    cases q (l.getD k 0) <;> cases st
    · exact ⟨fun x hx => by have := h1 x hx; omega, fun a ha => by simp at ha; omega, by simpa using Nat.le_succ_of_le h3⟩
    · rename_i b
      exact ⟨fun x hx => by have := h1 x hx; omega, fun a ha => by have := h2 b rfl; simp at ha; omega, by simpa using Nat.le_succ_of_le h3⟩
    · exact ⟨fun x hx => by have := h1 x hx; omega, fun a ha => by simp at ha, by simpa using Nat.le_succ_of_le h3⟩
    · rename_i b
      have hb := h2 b rfl
      refine ⟨fun x hx => ?_, fun a ha => by simp at ha, by simpa using h3⟩
      rcases List.mem_append.1 hx with hx | hx
      · have := h1 x hx; omega
      · simp at hx; subst hx; simp only; omega
theorem wdsQ_length (q : UInt8 → Bool) (l : List UInt8) : (wdsQ q l).length ≤ l.length + 1 := by
  obtain ⟨_, h2, h3⟩ := spS_le q l l.length
  unfold wdsQ spansB stepS
  rw [List.length_map]
  cases (spS q l l.length).2
  · simp only; omega
  · simp only [List.length_append, List.length_singleton]; omega

/-! ### lines -/
def glue (b : UInt8) : List (List UInt8) → List (List UInt8)
  | [] => [[b]]
  | x :: xs => (b :: x) :: xs
theorem glue_ne (b : UInt8) (l : List (List UInt8)) : glue b l ≠ [] := by cases l <;> simp [glue]
theorem glue_last (a b : UInt8) : ∀ (l : List (List UInt8)) (h : l ≠ []), glue a (l.dropLast ++ [l.getLast h ++ [b]]) = (glue a l).dropLast ++ [(glue a l).getLast (glue_ne a l) ++ [b]]
  | [], h => absurd rfl h
  | [x], _ => by simp [glue]
  | x :: y :: xs, _ => by simp [glue]
def segs : List UInt8 → List (List UInt8)
  | [] => [[]]
  | b :: r => if b == 10 then [] :: segs r else glue b (segs r)
theorem segs_ne (l : List UInt8) : segs l ≠ [] := by
  cases l with
  | nil => simp [segs]
  | cons b r =>
    rw [segs]
    split
    · simp
    · exact glue_ne _ _
theorem splitK_segs : ∀ l : List UInt8, Lib.splitK [10] 0 (Lib.count l [10]) l = segs l
  | [] => by rw [Lib.count_miss (by simp [Lib.index])]; rfl
  | b :: r => by
    have ih := splitK_segs r
    by_cases hb : b = 10
    · subst hb
      have hix : Lib.index (10 :: r) [10] = 0 := by rw [Lib.index]; simp [List.isPrefixOf]
      rw [Lib.count_cons_eq, Nat.add_comm, Lib.splitK, hix, if_neg (by decide), segs, if_pos (by decide), ← ih]
      rfl
    · have hp : ([10] : List UInt8).isPrefixOf (b :: r) = false := by simp [List.isPrefixOf, Ne.symm hb]
      have hix : Lib.index (b :: r) [10] = if Lib.index r [10] == -1 then -1 else Lib.index r [10] + 1 := by rw [Lib.index, hp]; simp
      rw [Lib.count_cons_ne b 10 r hb, segs, if_neg (by simpa using hb)]
      by_cases hm : Lib.index r [10] = -1
      · rw [Lib.count_miss hm] at ih ⊢
        rw [← ih]
        rfl
      · have hge := Lib.index_ge r [10]
        obtain ⟨j, hj⟩ : ∃ j : Nat, Lib.index r [10] = j := ⟨(Lib.index r [10]).toNat, by omega⟩
        have hix' : Lib.index (b :: r) [10] = ((j + 1 : Nat) : Int) := by rw [hix, if_neg (fun e => hm (beq_iff_eq.1 e)), hj]; omega
        rw [Lib.count_hit (by simp) hj, Nat.add_comm] at ih ⊢
        rw [Lib.splitK, hj, if_neg (by have h0 : ¬ (j : Int) = -1 := (by omega); rwa [beq_iff_eq])] at ih
        rw [Lib.splitK, hix', if_neg (by have h0 : ¬ ((j + 1 : Nat) : Int) = -1 := (by omega); rwa [beq_iff_eq]), ← ih]
        simp [glue]
theorem countB_toList (l : List UInt8) : Lib.countB ⟨l.toArray⟩ ⟨#[10]⟩ = Lib.count l [10] := rfl
theorem split_segs (l : List UInt8) : Lib.splitB ⟨#[10]⟩ 0 (Lib.countB ⟨l.toArray⟩ ⟨#[10]⟩) ⟨l.toArray⟩ = (segs l).map fun x => ⟨x.toArray⟩ := by
  have h := Lib.splitB_data ⟨#[10]⟩ 0 (Lib.countB ⟨l.toArray⟩ ⟨#[10]⟩) ⟨l.toArray⟩
  rw [countB_toList] at h ⊢
  have h' : (Lib.splitB ⟨#[10]⟩ 0 (Lib.count l [10]) ⟨l.toArray⟩).map (·.data.toList) = segs l := h.trans (splitK_segs l)
  rw [← h', List.map_map]
  conv => lhs; rw [← List.map_id (Lib.splitB ⟨#[10]⟩ 0 (Lib.count l [10]) ⟨l.toArray⟩)]
  apply List.map_congr_left
  intro x _
  obtain ⟨⟨l⟩⟩ := x
  rfl
theorem segs_length (l : List UInt8) : (segs l).length = Lib.count l [10] + 1 := by
  have := congrArg List.length (splitK_segs l)
  have h2 := Lib.splitB_all ⟨#[10]⟩ (by decide) 0 (Lib.countB ⟨l.toArray⟩ ⟨#[10]⟩) ⟨l.toArray⟩ rfl
  rw [split_segs, List.length_map, countB_toList] at h2
  exact h2

/-- the lines that have ended behind the first k bytes, and where the next one begins -/
def lnS (l : List UInt8) : Nat → List (Nat × Nat) × Nat
  | 0 => ([], 0)
  | k + 1 => if l.getD k 0 == 10 then ((lnS l k).1 ++ [((lnS l k).2, k)], k + 1) else lnS l k
theorem lnS_le (l : List UInt8) : ∀ k, (∀ x ∈ (lnS l k).1, x.1 ≤ x.2 ∧ x.2 ≤ k) ∧ (lnS l k).2 ≤ k ∧ (lnS l k).1.length ≤ k
  | 0 => ⟨fun x hx => by simp [lnS] at hx, by simp [lnS], by simp [lnS]⟩
  | k + 1 => by
    obtain ⟨h1, h2, h3⟩ := lnS_le l k
    rw [lnS]
    split
    · refine ⟨fun x hx => ?_, by simp, by simpa using h3⟩
      rcases List.mem_append.1 hx with hx | hx
      · have := h1 x hx; omega
      · simp at hx; subst hx; simp only; omega
    · exact ⟨fun x hx => by have := h1 x hx; omega, by omega, by omega⟩
theorem segs_snoc : ∀ (l : List UInt8) (b : UInt8), segs (l ++ [b]) = if b == 10 then segs l ++ [[]] else (segs l).dropLast ++ [((segs l).getLast (segs_ne l)) ++ [b]]
  | [], b => by
    by_cases hb : b = 10
    · subst hb; rfl
    · simp [segs, hb, glue]
  | a :: r, b => by
    have ih := segs_snoc r b
    rw [List.cons_append]
    by_cases ha : a = 10
    · subst ha
      have e : ∀ m, segs (10 :: m) = [] :: segs m := fun m => by rw [segs, if_pos (by simp)]
      simp only [e, ih]
      by_cases hb : b = 10
      · simp [hb]
      · have hn := segs_ne r
        simp only [hb, beq_iff_eq, if_false]
        rw [List.dropLast_cons_of_ne_nil hn, List.getLast_cons hn]
        simp
    · have e : ∀ m, segs (a :: m) = glue a (segs m) := fun m => by rw [segs, if_neg (by simpa using ha)]
      simp only [e, ih]
      by_cases hb : b = 10
      · simp only [hb, beq_self_eq_true, if_true]
        cases h : segs r with
        | nil => exact absurd h (segs_ne r)
        | cons x xs => simp [glue]
      · simp only [hb, beq_iff_eq, if_false]
        exact glue_last a b _ (segs_ne r)
theorem segs_take (l : List UInt8) : ∀ k, k ≤ l.length → segs (l.take k) = (lnS l k).1.map (cutAt l) ++ [(l.take k).drop (lnS l k).2]
  | 0, _ => by simp [lnS, segs]
  | k + 1, h => by
    have ih := segs_take l k (by omega)
    obtain ⟨_, h2, _⟩ := lnS_le l k
    have hk : k < l.length := by omega
    have hg : l.getD k 0 = l[k] := by simp [hk]
    rw [List.take_succ_eq_append_getElem hk, segs_snoc, lnS, hg]
    by_cases hb : l[k] = 10
    · simp only [hb, beq_self_eq_true, if_true]
      rw [ih]
      simp [cutAt]
      omega
    · have hb' : ¬ ((l[k] == 10) = true) := by simpa using hb
      rw [if_neg hb', if_neg hb']
      have e : ∀ (x : List (List UInt8)) (hx : x ≠ []), x = (lnS l k).1.map (cutAt l) ++ [(l.take k).drop (lnS l k).2] → x.dropLast ++ [x.getLast hx ++ [l[k]]] = (lnS l k).1.map (cutAt l) ++ [(l.take k ++ [l[k]]).drop (lnS l k).2] := by
        intro x hx he
        subst he
        rw [List.dropLast_concat, List.getLast_concat, List.drop_append_of_le_length (by rw [List.length_take]; omega)]
      exact e _ _ ih
/-- the lines of a text -/
def lns (l : List UInt8) : List (List UInt8) := (lnS l l.length).1.map (cutAt l) ++ if (lnS l l.length).2 < l.length then [l.drop (lnS l l.length).2] else []
theorem segs_lns (l : List UInt8) : segs l = (lnS l l.length).1.map (cutAt l) ++ [l.drop (lnS l l.length).2] := by
  have := segs_take l l.length (Nat.le_refl _)
  rwa [List.take_length] at this
theorem lns_length (l : List UInt8) : (lns l).length ≤ l.length + 1 := by
  obtain ⟨_, _, h3⟩ := lnS_le l l.length
  unfold lns
  rw [List.length_append, List.length_map]
  split <;> simp <;> omega
theorem segs_last (l : List UInt8) : (segs l)[(segs l).length - 1]? = some (l.drop (lnS l l.length).2) := by
  rw [segs_lns]
  simp
theorem lns_of_full {l : List UInt8} (h : l.drop (lnS l l.length).2 ≠ []) : lns l = segs l := by
  have h1 : (lnS l l.length).2 < l.length := by
    rcases Nat.lt_or_ge (lnS l l.length).2 l.length with h1 | h1
    · exact h1
    · exact absurd (List.drop_of_length_le h1) h
  rw [segs_lns]
  unfold lns
  rw [if_pos h1]
theorem lns_of_empty {l : List UInt8} (h : l.drop (lnS l l.length).2 = []) : lns l = (segs l).take ((segs l).length - 1) := by
  have h1 : ¬ (lnS l l.length).2 < l.length := by
    intro h1
    have := congrArg List.length h
    rw [List.length_drop] at this
    simp at this
    omega
  rw [segs_lns]
  unfold lns
  rw [if_neg h1]
  simp

/-! ### numbers -/
def isDig (b : UInt8) : Bool := decide (48 ≤ b.toNat ∧ b.toNat ≤ 57)
theorem isDig_iff {b : UInt8} : isDig b = true ↔ 48 ≤ b.toNat ∧ b.toNat ≤ 57 := decide_eq_true_iff
def dstep (acc : Nat) (b : UInt8) : Nat := acc * 10 + (b.toNat - 48)
def decV (acc : Nat) (l : List UInt8) : Nat := l.foldl dstep acc
theorem decV_nil (acc : Nat) : decV acc [] = acc := rfl
theorem decV_cons (acc : Nat) (b : UInt8) (r : List UInt8) : decV acc (b :: r) = decV (dstep acc b) r := by unfold decV; rw [List.foldl_cons]
theorem decV_snoc (b : UInt8) (l : List UInt8) (acc : Nat) : decV acc (l ++ [b]) = dstep (decV acc l) b := by
  unfold decV
  rw [List.foldl_append]
  rfl
theorem decV_lt : ∀ (l : List UInt8) (acc : Nat), (∀ b ∈ l, isDig b = true) → decV acc l < (acc + 1) * 10 ^ l.length
  | [], acc, _ => by rw [decV_nil]; simp
  | a :: r, acc, h => by
    have ha := isDig_iff.1 (h a (by simp))
    have ih := decV_lt r (dstep acc a) (fun b hb => h b (by simp [hb]))
    rw [decV_cons, List.length_cons, Nat.pow_succ]
    refine Nat.lt_of_lt_of_le ih ?_
    rw [Nat.mul_comm (10 ^ r.length) 10, ← Nat.mul_assoc]
    exact Nat.mul_le_mul_right _ (by unfold dstep; omega)
theorem decFrom_dig : ∀ (l : List UInt8) (acc : Nat), (∀ b ∈ l, isDig b = true) → Lib.decFrom acc l = some (decV acc l)
  | [], acc, _ => rfl
  | a :: r, acc, h => by
    have ha := isDig_iff.1 (h a (by simp))
    rw [Lib.decFrom, Lib.digitVal, if_pos ha, decV_cons]
    exact decFrom_dig r _ (fun b hb => h b (by simp [hb]))
/-- a number of at most nine digits, perhaps behind a minus -/
def unsig (l : List UInt8) : List UInt8 := Lib.trimPrefix l [45]
def neg1 (l : List UInt8) : Bool := Lib.hasPrefix l [45]
def numOk (l : List UInt8) : Bool := decide (1 ≤ (unsig l).length) && decide ((unsig l).length ≤ 9) && (unsig l).all isDig
def numV (l : List UInt8) : Int := if numOk l then (if neg1 l then -(decV 0 (unsig l) : Int) else (decV 0 (unsig l) : Int)) else 0
theorem numV_bad {l : List UInt8} (h : numOk l = false) : numV l = 0 := by unfold numV; rw [h]; rfl
theorem neg1_cons (b : UInt8) (r : List UInt8) : neg1 (b :: r) = (b == 45) := by
  unfold neg1 Lib.hasPrefix
  rw [List.isPrefixOf, List.isPrefixOf, Bool.and_true]
  rw [Bool.eq_iff_iff, beq_iff_eq, beq_iff_eq]
  exact eq_comm
theorem numOk_dig {l : List UInt8} (h : numOk l = true) : 1 ≤ (unsig l).length ∧ (unsig l).length ≤ 9 ∧ ∀ b ∈ unsig l, isDig b = true := by
  unfold numOk at h
  rw [Bool.and_eq_true, Bool.and_eq_true] at h
  obtain ⟨⟨h1, h2⟩, h3⟩ := h
  exact ⟨of_decide_eq_true h1, of_decide_eq_true h2, List.all_eq_true.1 h3⟩
theorem numV_bound (l : List UInt8) : -999999999 ≤ numV l ∧ numV l ≤ 999999999 := by
  cases h : numOk l with
  | false => rw [numV_bad h]; omega
  | true =>
    obtain ⟨h1, h2, h3⟩ := numOk_dig h
    have hlt := decV_lt (unsig l) 0 h3
    have hp : 10 ^ (unsig l).length ≤ 10 ^ 9 := Nat.pow_le_pow_right (by decide) h2
    unfold numV
    rw [h]
    simp only [if_true]
    split <;> omega
theorem atoi_num {l : List UInt8} (h : numOk l = true) : Lib.atoi l = some (numV l) ∧ l.length ≤ 10 := by
  obtain ⟨h1, h2, h3⟩ := numOk_dig h
  have hv : numV l = if neg1 l then -(decV 0 (unsig l) : Int) else (decV 0 (unsig l) : Int) := by unfold numV; rw [h]; rfl
  rw [hv]
  cases l with
  | nil => simp [unsig, Lib.trimPrefix, Lib.hasPrefix] at h1
  | cons b r =>
    have hn := neg1_cons b r
    by_cases hb : b = 45
    · subst hb
      have hu : unsig (45 :: r) = r := by unfold unsig Lib.trimPrefix; rw [show Lib.hasPrefix (45 :: r) [45] = true from hn.trans (by decide)]; rfl
      rw [hu] at h1 h2 h3
      have hr : r.isEmpty = false := by cases r with
        | nil => simp at h1
        | cons _ _ => rfl
      rw [hn, hu, Lib.atoi, if_pos (by decide), Lib.decNat, hr]
      simp only [Bool.false_eq_true, if_false, decFrom_dig r 0 h3]
      exact ⟨rfl, by simp; omega⟩
    · have hb' : (b == 45) = false := by simpa using hb
      have hu : unsig (b :: r) = b :: r := by unfold unsig Lib.trimPrefix; rw [show Lib.hasPrefix (b :: r) [45] = false from hn.trans hb']; rfl
      rw [hu] at h1 h2 h3
      have hd := isDig_iff.1 (h3 b (by simp))
      have hb2 : ¬ (b == 43) = true := by
        intro h43
        have := beq_iff_eq.1 h43
        subst this
        exact absurd hd.1 (by decide)
      rw [hn, hu, hb', Lib.atoi, if_neg (by rw [hb']; decide), if_neg hb2, Lib.decNat]
      simp only [List.isEmpty_cons, Bool.false_eq_true, if_false, decFrom_dig (b :: r) 0 h3]
      exact ⟨rfl, by omega⟩
/-- Trim of the ten digits leaves nothing just where all are -/
def tenB : List UInt8 := [48, 49, 50, 51, 52, 53, 54, 55, 56, 57]
theorem tenB_contains (b : UInt8) : tenB.contains b = isDig b := by
  have h : ∀ n : Fin 256, tenB.contains (UInt8.ofNat n.val) = isDig (UInt8.ofNat n.val) := by decide +kernel
  have := h ⟨b.toNat, b.toNat_lt⟩
  simpa using this
theorem dropWhile_nil {q : UInt8 → Bool} : ∀ l : List UInt8, l.dropWhile q = [] ↔ l.all q = true
  | [] => by simp
  | b :: r => by
    cases hb : q b with
    | true => simp [List.dropWhile, hb, dropWhile_nil r]
    | false => simp [List.dropWhile, hb]
theorem trim_tenB (l : List UInt8) : Lib.trimS l tenB = [] ↔ l.all isDig = true := by
  have e : (fun b => tenB.contains b) = isDig := funext tenB_contains
  unfold Lib.trimS Lib.trimLeftS Lib.trimRightS
  rw [e, dropWhile_nil, List.all_reverse]
  constructor
  · intro h
    by_cases h0 : l.reverse.dropWhile isDig = []
    · have := (dropWhile_nil _).1 h0
      rwa [List.all_reverse] at this
    · exfalso
      have hx : (l.reverse.dropWhile isDig).head h0 ∈ l.reverse.dropWhile isDig := List.head_mem h0
      have h1 := List.all_eq_true.1 h _ hx
      have h2 : isDig ((l.reverse.dropWhile isDig).head h0) = false := List.head_dropWhile_not isDig h0
      rw [h1] at h2
      cases h2
  · intro h
    have h1 : l.reverse.dropWhile isDig = [] := (dropWhile_nil _).2 (by rwa [List.all_reverse])
    rw [h1]
    rfl
end Go.Proofs.YtidgpkccjcddgaaGreatDoor.F
/- Decimal numerals: what Lib.itoa writes is read again. No condition. -/
set_option linter.unusedVariables false
set_option linter.unusedSimpArgs false
namespace Go.Proofs.YtidgpkccjcddgaaGreatDoor.F

/-! ### numerals -/
theorem decDigits_facts : ∀ n : Nat, (∀ b ∈ Lib.decDigits n, isDig b = true) ∧ decV 0 (Lib.decDigits n) = n ∧ 1 ≤ (Lib.decDigits n).length := by
  intro n
  induction n using Nat.strongRecOn with
  | ind n ih =>
    have hd : ∀ k, k < 10 → isDig (UInt8.ofNat (48 + k)) = true ∧ (UInt8.ofNat (48 + k)).toNat = 48 + k := by
      intro k hk
      have : (UInt8.ofNat (48 + k)).toNat = 48 + k := by simp; omega
      exact ⟨isDig_iff.2 (by omega), this⟩
    by_cases h : n < 10
    · rw [Lib.decDigits_one h]
      obtain ⟨a, b⟩ := hd n h
      refine ⟨fun c hc => by rw [List.mem_singleton.1 hc]; exact a, ?_, by simp⟩
      rw [decV_cons, decV_nil, dstep, b]
      omega
    · obtain ⟨h1, h2, h3⟩ := ih (n / 10) (by omega)
      obtain ⟨a, b⟩ := hd (n % 10) (by omega)
      have e : Lib.decDigits n = Lib.decDigits (n / 10) ++ [UInt8.ofNat (48 + n % 10)] := by rw [Lib.decDigits, dif_neg h]
      rw [e]
      refine ⟨fun c hc => ?_, ?_, by simp⟩
      · rcases List.mem_append.1 hc with hc | hc
        · exact h1 c hc
        · rw [List.mem_singleton.1 hc]; exact a
      · rw [decV_snoc, h2, dstep, b]
        omega
theorem decDigits_len : ∀ (k n : Nat), (n < 10 ^ (k + 1) → (Lib.decDigits n).length ≤ k + 1) ∧ (10 ^ (k + 1) ≤ n → k + 1 < (Lib.decDigits n).length)
  | 0, n => by
    constructor
    · intro h
      rw [Lib.decDigits_one (by simpa using h)]
      simp
    · intro h
      have h' : ¬ n < 10 := by simp at h; omega
      rw [show Lib.decDigits n = Lib.decDigits (n / 10) ++ [UInt8.ofNat (48 + n % 10)] by rw [Lib.decDigits, dif_neg h']]
      have := (decDigits_facts (n / 10)).2.2
      simp
      omega
  | k + 1, n => by
    obtain ⟨i1, i2⟩ := decDigits_len k (n / 10)
    have hp : 10 ^ (k + 1 + 1) = 10 ^ (k + 1) * 10 := Nat.pow_succ ..
    constructor
    · intro h
      by_cases h' : n < 10
      · rw [Lib.decDigits_one h']; simp
      · rw [show Lib.decDigits n = Lib.decDigits (n / 10) ++ [UInt8.ofNat (48 + n % 10)] by rw [Lib.decDigits, dif_neg h']]
        have := i1 (by omega)
        simp
        omega
    · intro h
      have hpos : 1 ≤ 10 ^ (k + 1) := Nat.one_le_pow _ _ (by decide)
      have h' : ¬ n < 10 := by omega
      rw [show Lib.decDigits n = Lib.decDigits (n / 10) ++ [UInt8.ofNat (48 + n % 10)] by rw [Lib.decDigits, dif_neg h']]
      have := i2 (by omega)
      simp
      omega
theorem dig_ne45 {b : UInt8} (h : isDig b = true) : b ≠ 45 := by
  rintro rfl
  exact absurd (isDig_iff.1 h).1 (by decide)
theorem itoa_unsig (x : Int) : unsig (Lib.itoa x) = Lib.decDigits x.natAbs ∧ neg1 (Lib.itoa x) = decide (x < 0) := by
  obtain ⟨h1, _, h3⟩ := decDigits_facts x.natAbs
  by_cases hx : x < 0
  · have e : Lib.itoa x = 45 :: Lib.decDigits x.natAbs := by
      have := Lib.itoa_neg x.natAbs (by omega)
      rwa [show -(x.natAbs : Int) = x by omega] at this
    rw [e, neg1_cons, decide_eq_true hx]
    refine ⟨?_, by decide⟩
    unfold unsig Lib.trimPrefix
    rw [show Lib.hasPrefix (45 :: Lib.decDigits x.natAbs) [45] = true from (neg1_cons 45 _).trans (by decide)]
    rfl
  · have e : Lib.itoa x = Lib.decDigits x.natAbs := by
      have := Lib.itoa_nonneg x.natAbs
      rwa [show (x.natAbs : Int) = x by omega] at this
    rw [e, decide_eq_false hx]
    generalize Lib.decDigits x.natAbs = d at *
    cases d with
    | nil => simp at h3
    | cons b r =>
      have hb : (b == 45) = false := by simpa using dig_ne45 (h1 b (by simp))
      refine ⟨?_, (neg1_cons b r).trans hb⟩
      unfold unsig Lib.trimPrefix
      rw [show Lib.hasPrefix (b :: r) [45] = false from (neg1_cons b r).trans hb]
      rfl
theorem itoa_ok {x : Int} (h : x.natAbs ≤ 999999999) : numOk (Lib.itoa x) = true ∧ numV (Lib.itoa x) = x := by
  obtain ⟨h1, h2, h3⟩ := decDigits_facts x.natAbs
  obtain ⟨e1, e2⟩ := itoa_unsig x
  have hl := (decDigits_len 8 x.natAbs).1 (by omega)
  have hok : numOk (Lib.itoa x) = true := by
    unfold numOk
    rw [e1, decide_eq_true h3, decide_eq_true (by omega), List.all_eq_true.2 h1]
    rfl
  refine ⟨hok, ?_⟩
  unfold numV
  rw [hok, e1, e2, h2]
  by_cases hx : x < 0
  · rw [decide_eq_true hx]; simp; omega
  · rw [decide_eq_false hx]; simp; omega
theorem itoa_bad {x : Int} (h : 999999999 < x) : numOk (Lib.itoa x) = false := by
  obtain ⟨e1, _⟩ := itoa_unsig x
  have hl := (decDigits_len 8 x.natAbs).2 (by omega)
  unfold numOk
  rw [e1, decide_eq_false (p := (Lib.decDigits x.natAbs).length ≤ 9) (by omega)]
  simp
theorem itoa_bytes (x : Int) : ∀ b ∈ Lib.itoa x, b = 45 ∨ isDig b = true := by
  obtain ⟨h1, _, _⟩ := decDigits_facts x.natAbs
  intro b hb
  unfold Lib.itoa at hb
  by_cases hx : x < 0
  · have e : Lib.itoa x = 45 :: Lib.decDigits x.natAbs := by
      have := Lib.itoa_neg x.natAbs (by omega)
      rwa [show -(x.natAbs : Int) = x by omega] at this
    have hb' : b ∈ Lib.itoa x := hb
    rw [e] at hb'
    rcases List.mem_cons.1 hb' with h | h
    · exact .inl h
    · exact .inr (h1 b h)
  · have e : Lib.itoa x = Lib.decDigits x.natAbs := by
      have := Lib.itoa_nonneg x.natAbs
      rwa [show (x.natAbs : Int) = x by omega] at this
    have hb' : b ∈ Lib.itoa x := hb
    rw [e] at hb'
    exact .inr (h1 b hb')
theorem itoa_ne (x : Int) : Lib.itoa x ≠ [] := by
  intro e
  obtain ⟨e1, _⟩ := itoa_unsig x
  have h3 := (decDigits_facts x.natAbs).2.2
  rw [e, show unsig [] = [] from rfl] at e1
  rw [← e1] at h3
  simp at h3

end Go.Proofs.YtidgpkccjcddgaaGreatDoor.F
/- Texts of rationals and of forms, as plain functions; a text cut at a byte. No condition. -/
set_option linter.unusedVariables false
set_option linter.unusedSimpArgs false
namespace Go.Proofs.YtidgpkccjcddgaaGreatDoor.F

def tq (q : Rat) : List UInt8 := Lib.itoa q.num ++ if q.den = 1 then [] else 47 :: Lib.decDigits q.den
def tt (m : Int × Rat) : List UInt8 := tq m.2 ++ 42 :: 120 :: Lib.itoa m.1
def joinC (c : UInt8) : List (List UInt8) → List UInt8
  | [] => []
  | [x] => x
  | x :: y :: r => x ++ c :: joinC c (y :: r)
theorem joinC_cons (c : UInt8) {x : List UInt8} {l : List (List UInt8)} (h : l ≠ []) : joinC c (x :: l) = x ++ c :: joinC c l := by
  cases l with
  | nil => exact absurd rfl h
  | cons y r => rfl
theorem joinC_snoc (c : UInt8) (x : List UInt8) : ∀ l : List (List UInt8), joinC c (l ++ [x]) = if l = [] then x else joinC c l ++ c :: x
  | [] => rfl
  | [y] => by simp [joinC]
  | y :: z :: r => by
    have ih := joinC_snoc c x (z :: r)
    rw [if_neg (by simp)] at ih ⊢
    show joinC c (y :: (z :: r ++ [x])) = _
    rw [joinC_cons c (show z :: r ++ [x] ≠ [] by simp), ih, joinC_cons c (show z :: r ≠ [] by simp), List.append_assoc, List.cons_append]
def tf (l : List (Int × Rat)) : List UInt8 := if l = [] then [48] else joinC 43 (l.map tt)
theorem tt_ne (m : Int × Rat) : tt m ≠ [] := by
  unfold tt tq
  simp
theorem joinC_ne {c : UInt8} : ∀ {l : List (List UInt8)}, l ≠ [] → (∀ x ∈ l, x ≠ []) → joinC c l ≠ []
  | [], h, _ => absurd rfl h
  | [x], _, h => h x (by simp)
  | x :: y :: r, _, h => by
    rw [joinC_cons c (by simp)]
    simp

/-! ### a text cut at a byte -/
def glueC (b : UInt8) : List (List UInt8) → List (List UInt8)
  | [] => [[b]]
  | x :: xs => (b :: x) :: xs
theorem glueC_ne (b : UInt8) (l : List (List UInt8)) : glueC b l ≠ [] := by cases l <;> simp [glueC]
theorem glueC_last (a b : UInt8) : ∀ (l : List (List UInt8)) (h : l ≠ []), glueC a (l.dropLast ++ [l.getLast h ++ [b]]) = (glueC a l).dropLast ++ [(glueC a l).getLast (glueC_ne a l) ++ [b]]
  | [], h => absurd rfl h
  | [x], _ => by simp [glueC]
  | x :: y :: xs, _ => by simp [glueC]
def segsC (c : UInt8) : List UInt8 → List (List UInt8)
  | [] => [[]]
  | b :: r => if b == c then [] :: segsC c r else glueC b (segsC c r)
theorem segsC_ne (c : UInt8) (l : List UInt8) : segsC c l ≠ [] := by
  cases l with
  | nil => simp [segsC]
  | cons b r =>
    rw [segsC]
    split
    · simp
    · exact glueC_ne _ _
theorem splitK_segsC (c : UInt8) : ∀ l : List UInt8, Lib.splitK [c] 0 (Lib.count l [c]) l = segsC c l
  | [] => by rw [Lib.count_miss (by simp [Lib.index])]; rfl
  | b :: r => by
    have ih := splitK_segsC c r
    by_cases hb : b = c
    · subst hb
      have hix : Lib.index (b :: r) [b] = 0 := by rw [Lib.index]; simp [List.isPrefixOf]
      rw [Lib.count_cons_eq, Nat.add_comm, Lib.splitK, hix, if_neg (by decide), segsC, if_pos (by simp), ← ih]
      rfl
    · have hp : ([c] : List UInt8).isPrefixOf (b :: r) = false := by simp [List.isPrefixOf, Ne.symm hb]
      have hix : Lib.index (b :: r) [c] = if Lib.index r [c] == -1 then -1 else Lib.index r [c] + 1 := by rw [Lib.index, hp]; simp
      rw [Lib.count_cons_ne b c r hb, segsC, if_neg (by simpa using hb)]
      by_cases hm : Lib.index r [c] = -1
      · rw [Lib.count_miss hm] at ih ⊢
        rw [← ih]
        rfl
      · have hge := Lib.index_ge r [c]
        obtain ⟨j, hj⟩ : ∃ j : Nat, Lib.index r [c] = j := ⟨(Lib.index r [c]).toNat, by omega⟩
        have hix' : Lib.index (b :: r) [c] = ((j + 1 : Nat) : Int) := by rw [hix, if_neg (fun e => hm (beq_iff_eq.1 e)), hj]; omega
        rw [Lib.count_hit (by simp) hj, Nat.add_comm] at ih ⊢
        rw [Lib.splitK, hj, if_neg (by have h0 : ¬ (j : Int) = -1 := (by omega); rwa [beq_iff_eq])] at ih
        rw [Lib.splitK, hix', if_neg (by have h0 : ¬ ((j + 1 : Nat) : Int) = -1 := (by omega); rwa [beq_iff_eq]), ← ih]
        simp [glueC]
theorem split_segsC (c : UInt8) (l : List UInt8) : Lib.splitB ⟨#[c]⟩ 0 (Lib.countB ⟨l.toArray⟩ ⟨#[c]⟩) ⟨l.toArray⟩ = (segsC c l).map fun x => ⟨x.toArray⟩ := by
  have h := Lib.splitB_data ⟨#[c]⟩ 0 (Lib.countB ⟨l.toArray⟩ ⟨#[c]⟩) ⟨l.toArray⟩
  have hc : Lib.countB ⟨l.toArray⟩ ⟨#[c]⟩ = Lib.count l [c] := rfl
  rw [hc] at h ⊢
  have h' : (Lib.splitB ⟨#[c]⟩ 0 (Lib.count l [c]) ⟨l.toArray⟩).map (·.data.toList) = segsC c l := h.trans (splitK_segsC c l)
  rw [← h', List.map_map]
  conv => lhs; rw [← List.map_id (Lib.splitB ⟨#[c]⟩ 0 (Lib.count l [c]) ⟨l.toArray⟩)]
  apply List.map_congr_left
  intro x _
  obtain ⟨⟨l⟩⟩ := x
  rfl
theorem segsC_length (c : UInt8) (l : List UInt8) : (segsC c l).length = Lib.count l [c] + 1 := by
  have h2 := Lib.splitB_all ⟨#[c]⟩ (by show 1 ≤ (#[c] : Array UInt8).size; simp) 0 (Lib.countB ⟨l.toArray⟩ ⟨#[c]⟩) ⟨l.toArray⟩ rfl
  rw [split_segsC, List.length_map, show Lib.countB ⟨l.toArray⟩ ⟨#[c]⟩ = Lib.count l [c] from rfl] at h2
  exact h2
/-- the pieces that have ended behind the first k bytes, and where the next one begins -/
def lnC (c : UInt8) (l : List UInt8) : Nat → List (Nat × Nat) × Nat
  | 0 => ([], 0)
  | k + 1 => if l.getD k 0 == c then ((lnC c l k).1 ++ [((lnC c l k).2, k)], k + 1) else lnC c l k
theorem lnC_le (c : UInt8) (l : List UInt8) : ∀ k, (∀ x ∈ (lnC c l k).1, x.1 ≤ x.2 ∧ x.2 ≤ k) ∧ (lnC c l k).2 ≤ k ∧ (lnC c l k).1.length ≤ k
  | 0 => ⟨fun x hx => by simp [lnC] at hx, by simp [lnC], by simp [lnC]⟩
  | k + 1 => by
    obtain ⟨h1, h2, h3⟩ := lnC_le c l k
    rw [lnC]
    split
    · refine ⟨fun x hx => ?_, by simp, by simpa using h3⟩
      rcases List.mem_append.1 hx with hx | hx
      · have := h1 x hx; omega
      · simp at hx; subst hx; simp only; omega
    · exact ⟨fun x hx => by have := h1 x hx; omega, by omega, by omega⟩
theorem segsC_snoc (c : UInt8) : ∀ (l : List UInt8) (b : UInt8), segsC c (l ++ [b]) = if b == c then segsC c l ++ [[]] else (segsC c l).dropLast ++ [((segsC c l).getLast (segsC_ne c l)) ++ [b]]
  | [], b => by
    by_cases hb : b = c
    · subst hb; simp [segsC]
    · simp [segsC, hb, glueC]
  | a :: r, b => by
    have ih := segsC_snoc c r b
    rw [List.cons_append]
    by_cases ha : a = c
    · subst ha
      have e : ∀ m, segsC a (a :: m) = [] :: segsC a m := fun m => by rw [segsC, if_pos (by simp)]
      simp only [e, ih]
      by_cases hb : b = a
      · simp [hb]
      · have hn := segsC_ne a r
        simp only [hb, beq_iff_eq, if_false]
        rw [List.dropLast_cons_of_ne_nil hn, List.getLast_cons hn]
        simp
    · have e : ∀ m, segsC c (a :: m) = glueC a (segsC c m) := fun m => by rw [segsC, if_neg (by simpa using ha)]
      simp only [e, ih]
      by_cases hb : b = c
      · simp only [hb, beq_self_eq_true, if_true]
        cases h : segsC c r with
        | nil => exact absurd h (segsC_ne c r)
        | cons x xs => simp [glueC]
      · simp only [hb, beq_iff_eq, if_false]
        exact glueC_last a b _ (segsC_ne c r)
theorem segsC_take (c : UInt8) (l : List UInt8) : ∀ k, k ≤ l.length → segsC c (l.take k) = (lnC c l k).1.map (cutAt l) ++ [(l.take k).drop (lnC c l k).2]
  | 0, _ => by simp [lnC, segsC]
  | k + 1, h => by
    have ih := segsC_take c l k (by omega)
    obtain ⟨_, h2, _⟩ := lnC_le c l k
    have hk : k < l.length := by omega
    have hg : l.getD k 0 = l[k] := by simp [hk]
    rw [List.take_succ_eq_append_getElem hk, segsC_snoc, lnC, hg]
    by_cases hb : l[k] = c
    · simp only [hb, beq_self_eq_true, if_true]
      rw [ih]
      simp [cutAt]
      omega
    · have hb' : ¬ ((l[k] == c) = true) := by simpa using hb
      rw [if_neg hb', if_neg hb']
      have e : ∀ (x : List (List UInt8)) (hx : x ≠ []), x = (lnC c l k).1.map (cutAt l) ++ [(l.take k).drop (lnC c l k).2] → x.dropLast ++ [x.getLast hx ++ [l[k]]] = (lnC c l k).1.map (cutAt l) ++ [(l.take k ++ [l[k]]).drop (lnC c l k).2] := by
        intro x hx he
        subst he
        rw [List.dropLast_concat, List.getLast_concat, List.drop_append_of_le_length (by rw [List.length_take]; omega)]
      exact e _ _ ih
theorem segsC_ln (c : UInt8) (l : List UInt8) : segsC c l = (lnC c l l.length).1.map (cutAt l) ++ [l.drop (lnC c l l.length).2] := by
  have := segsC_take c l l.length (Nat.le_refl _)
  rwa [List.take_length] at this
/-- what has no such byte -/
def freeC (c : UInt8) (x : List UInt8) : Prop := ∀ b ∈ x, b ≠ c
theorem segsC_free (c : UInt8) : ∀ x : List UInt8, freeC c x → segsC c x = [x]
  | [], _ => rfl
  | b :: x, h => by
    rw [segsC, if_neg (by simpa using h b (by simp)), segsC_free c x (fun d hd => h d (by simp [hd]))]
    rfl
theorem segsC_part (c : UInt8) : ∀ (x r : List UInt8), freeC c x → segsC c (x ++ c :: r) = x :: segsC c r
  | [], r, _ => by rw [List.nil_append, segsC, if_pos (by simp)]
  | b :: x, r, h => by
    have hb : ¬ ((b == c) = true) := by simpa using h b (by simp)
    rw [List.cons_append, segsC, if_neg hb, segsC_part c x r (fun d hd => h d (by simp [hd]))]
    rfl
theorem segsC_join (c : UInt8) : ∀ l : List (List UInt8), l ≠ [] → (∀ x ∈ l, freeC c x) → segsC c (joinC c l) = l
  | [], h, _ => absurd rfl h
  | [x], _, h => segsC_free c x (h x (by simp))
  | x :: y :: r, _, h => by
    rw [joinC_cons c (by simp), segsC_part c x _ (h x (by simp)), segsC_join c (y :: r) (by simp) (fun z hz => h z (by simp [hz]))]
/-- the bytes of a rational's text: digits, a minus, a slash -/
theorem tq_bytes (q : Rat) : ∀ b ∈ tq q, b = 45 ∨ b = 47 ∨ isDig b = true := by
  intro b hb
  unfold tq at hb
  rcases List.mem_append.1 hb with hb | hb
  · rcases itoa_bytes q.num b hb with h | h
    · exact .inl h
    · exact .inr (.inr h)
  · split at hb
    · cases hb
    · rcases List.mem_cons.1 hb with hb | hb
      · exact .inr (.inl hb)
      · exact .inr (.inr ((decDigits_facts q.den).1 b hb))
theorem tt_bytes (m : Int × Rat) : ∀ b ∈ tt m, b = 45 ∨ b = 47 ∨ b = 42 ∨ b = 120 ∨ isDig b = true := by
  intro b hb
  unfold tt at hb
  rcases List.mem_append.1 hb with hb | hb
  · rcases tq_bytes m.2 b hb with h | h | h
    · exact .inl h
    · exact .inr (.inl h)
    · exact .inr (.inr (.inr (.inr h)))
  · rcases List.mem_cons.1 hb with hb | hb
    · exact .inr (.inr (.inl hb))
    · rcases List.mem_cons.1 hb with hb | hb
      · exact .inr (.inr (.inr (.inl hb)))
      · rcases itoa_bytes m.1 b hb with h | h
        · exact .inl h
        · exact .inr (.inr (.inr (.inr h)))
theorem isDig_ne {b c : UInt8} (h : isDig b = true) (hc : isDig c = false) : b ≠ c := by
  rintro rfl
  rw [h] at hc
  cases hc
theorem tt_free (m : Int × Rat) : freeC 43 (tt m) := by
  intro b hb
  rcases tt_bytes m b hb with rfl | rfl | rfl | rfl | h
  · decide
  · decide
  · decide
  · decide
  · exact isDig_ne h (by decide)
theorem tf_segs {l : List (Int × Rat)} (h : l ≠ []) : segsC 43 (tf l) = l.map tt := by
  unfold tf
  rw [if_neg h]
  refine segsC_join 43 _ (by simpa using h) fun x hx => ?_
  obtain ⟨m, _, rfl⟩ := List.mem_map.1 hx
  exact tt_free m
theorem tf_zero {l : List (Int × Rat)} (h : l ≠ []) : tf l ≠ [48] := by
  intro e
  have hs := tf_segs h
  rw [e, segsC_free 43 [48] (by unfold freeC; decide)] at hs
  cases l with
  | nil => exact h rfl
  | cons m r =>
    have hm : tt m = [48] := by simp at hs; exact hs.1.symm
    have hx : (42 : UInt8) ∈ tt m := by unfold tt; simp
    rw [hm] at hx
    revert hx
    decide
end Go.Proofs.YtidgpkccjcddgaaGreatDoor.F
/- Canonical texts of rationals and of terms are read exactly, and no two of them are alike; plain law. No condition. -/
set_option linter.unusedVariables false
set_option linter.unusedSimpArgs false
namespace Go.Proofs.YtidgpkccjcddgaaGreatDoor.F

theorem dec_head : ∀ n : Nat, 0 < n → (Lib.decDigits n).getD 0 0 ≠ 48 := by
  intro n
  induction n using Nat.strongRecOn with
  | ind n ih =>
    intro hn
    by_cases h : n < 10
    · rw [Lib.decDigits_one h]
      show UInt8.ofNat (48 + n) ≠ 48
      intro e
      have h2 : (UInt8.ofNat (48 + n)).toNat = 48 := by rw [e]; rfl
      rw [UInt8.toNat_ofNat'] at h2
      omega
    · have e : Lib.decDigits n = Lib.decDigits (n / 10) ++ [UInt8.ofNat (48 + n % 10)] := by rw [Lib.decDigits, dif_neg h]
      have h1 := ih (n / 10) (by omega) (by omega)
      have h3 := (decDigits_facts (n / 10)).2.2
      rw [e]
      generalize Lib.decDigits (n / 10) = l at *
      cases l with
      | nil => simp at h3
      | cons b r => simpa using h1
theorem dec_zero : Lib.decDigits 0 = [48] := Lib.decDigits_one (by decide)
/-- what stands behind the sign -/
def tr (q : Rat) : List UInt8 := Lib.decDigits q.num.natAbs ++ if q.den = 1 then [] else 47 :: Lib.decDigits q.den
theorem itoa_eq (x : Int) : Lib.itoa x = (if x < 0 then [45] else []) ++ Lib.decDigits x.natAbs := by
  unfold Lib.itoa
  by_cases h : x < 0
  · rw [if_pos h, if_pos h]; rfl
  · rw [if_neg h, if_neg h, show x.toNat = x.natAbs by omega]; rfl
theorem tq_eq (q : Rat) : tq q = (if q.num < 0 then [45] else []) ++ tr q := by
  unfold tq tr
  rw [itoa_eq, List.append_assoc]
theorem tr_bytes (q : Rat) : ∀ b ∈ tr q, b = 47 ∨ isDig b = true := by
  intro b hb
  unfold tr at hb
  rcases List.mem_append.1 hb with hb | hb
  · exact .inr ((decDigits_facts _).1 b hb)
  · split at hb
    · cases hb
    · rcases List.mem_cons.1 hb with hb | hb
      · exact .inl hb
      · exact .inr ((decDigits_facts _).1 b hb)
theorem prefix_one (c : UInt8) (l : List UInt8) : Lib.hasPrefix l [c] = (l.head? == some c) := by
  unfold Lib.hasPrefix
  cases l with
  | nil => rfl
  | cons b r =>
    simp only [List.isPrefixOf, List.head?_cons, Bool.and_true]
    by_cases h : b = c
    · subst h; simp
    · rw [show (c == b) = false by simpa using fun e => h e.symm, show (some b == some c) = false by simpa using h]
theorem dec_not (n : Nat) (r : List UInt8) (c : UInt8) (hc : isDig c = false) : Lib.hasPrefix (Lib.decDigits n ++ r) [c] = false := by
  rw [prefix_one]
  obtain ⟨h1, _, h3⟩ := decDigits_facts n
  generalize Lib.decDigits n = l at *
  cases l with
  | nil => simp at h3
  | cons b t =>
    have hb : b ≠ c := isDig_ne (h1 b (by simp)) hc
    simpa using hb
theorem sign_pre (s : Bool) (n : Nat) (r : List UInt8) : Lib.hasPrefix ((if s = true then [45] else []) ++ (Lib.decDigits n ++ r)) [45] = s ∧ Lib.trimPrefix ((if s = true then [45] else []) ++ (Lib.decDigits n ++ r)) [45] = Lib.decDigits n ++ r := by
  cases s with
  | false =>
    have h := dec_not n r 45 (by decide)
    refine ⟨h, ?_⟩
    unfold Lib.trimPrefix
    rw [show Lib.hasPrefix ((if false = true then [45] else []) ++ (Lib.decDigits n ++ r)) [45] = false from h]
    rfl
  | true =>
    have h : Lib.hasPrefix (45 :: (Lib.decDigits n ++ r)) [45] = true := by rw [prefix_one]; rfl
    refine ⟨h, ?_⟩
    unfold Lib.trimPrefix
    rw [show Lib.hasPrefix ((if true = true then [45] else []) ++ (Lib.decDigits n ++ r)) [45] = true from h]
    rfl
theorem tq_sign (q : Rat) : Lib.hasPrefix (tq q) [45] = decide (q.num < 0) ∧ Lib.trimPrefix (tq q) [45] = tr q := by
  have h := sign_pre (decide (q.num < 0)) q.num.natAbs (if q.den = 1 then [] else 47 :: Lib.decDigits q.den)
  have e : tq q = (if decide (q.num < 0) = true then [45] else []) ++ (Lib.decDigits q.num.natAbs ++ if q.den = 1 then [] else 47 :: Lib.decDigits q.den) := by
    rw [tq_eq]
    by_cases hq : q.num < 0
    · rw [if_pos hq, if_pos (decide_eq_true hq)]; rfl
    · rw [if_neg hq, if_neg (by simpa using hq)]; rfl
  rw [e]
  exact h
theorem noOcc_free {c : UInt8} {p x r : List UInt8} (h : freeC c x) : Lib.NoOcc (x ++ r) (c :: p) x.length := by
  intro j hj
  unfold Lib.occAt
  have e : (x ++ r).drop j = x[j] :: ((x ++ r).drop (j + 1)) := by
    rw [List.drop_eq_getElem_cons (by simp; omega)]
    rw [List.getElem_append_left hj]
  rw [e]
  have hb : (c == x[j]) = false := by
    rw [beq_eq_false_iff_ne]
    exact fun e => h x[j] (List.getElem_mem hj) e.symm
  simp only [List.isPrefixOf, hb, Bool.false_and]
theorem cut_free {c : UInt8} {p x : List UInt8} (h : freeC c x) : Lib.cut x (c :: p) = (x, [], false) := by
  have h1 := noOcc_free (p := p) (r := []) h
  rw [List.append_nil] at h1
  have hi := Lib.index_past (s := x) (sub := c :: p) (i := x.length) (by simp) h1 (by simp)
  unfold Lib.cut
  rw [hi, if_neg (by decide)]
theorem cut_at {c : UInt8} {p x r : List UInt8} (h : freeC c x) : Lib.cut (x ++ (c :: p) ++ r) (c :: p) = (x, r, true) := by
  have h1 := noOcc_free (p := p) (r := (c :: p) ++ r) h
  rw [← List.append_assoc] at h1
  have hi := Lib.index_hit (s := x ++ (c :: p) ++ r) (sub := c :: p) (i := x.length) h1 (by simp) (by
    unfold Lib.occAt
    rw [List.append_assoc, List.drop_left]
    exact List.isPrefixOf_iff_prefix.2 (List.prefix_append _ _))
  unfold Lib.cut
  rw [hi, if_pos (by omega)]
  have e1 : (x ++ (c :: p) ++ r).take ((x.length : Int)).toNat = x := by
    rw [Int.toNat_natCast, List.append_assoc, List.take_left]
  have e2 : (x ++ (c :: p) ++ r).drop (((x.length : Int)).toNat + (c :: p).length) = r := by
    rw [Int.toNat_natCast, ← List.length_append, List.drop_left]
  rw [e1, e2]
theorem dec_free (c : UInt8) (hc : isDig c = false) (n : Nat) : freeC c (Lib.decDigits n) := fun b hb => isDig_ne ((decDigits_facts n).1 b hb) hc
theorem cut_tr_one {q : Rat} (h : q.den = 1) : Lib.cut (tr q) [47] = (tr q, [], false) ∧ tr q = Lib.decDigits q.num.natAbs := by
  have e : tr q = Lib.decDigits q.num.natAbs := by unfold tr; rw [if_pos h, List.append_nil]
  exact ⟨by rw [e]; exact cut_free (dec_free 47 (by decide) _), e⟩
theorem cut_tr_dot {q : Rat} (h : q.den = 1) : Lib.cut (tr q) [46] = (tr q, [], false) := by
  rw [(cut_tr_one h).2]; exact cut_free (dec_free 46 (by decide) _)
theorem cut_tr {q : Rat} (h : q.den ≠ 1) : Lib.cut (tr q) [47] = (Lib.decDigits q.num.natAbs, Lib.decDigits q.den, true) := by
  have e : tr q = Lib.decDigits q.num.natAbs ++ [47] ++ Lib.decDigits q.den := by unfold tr; rw [if_neg h]; simp
  rw [e]
  exact cut_at (p := []) (dec_free 47 (by decide) _)
theorem tq_free42 (q : Rat) : freeC 42 (tq q) := by
  intro b hb
  rcases tq_bytes q b hb with rfl | rfl | h
  · decide
  · decide
  · exact isDig_ne h (by decide)
theorem cut_tt (m : Int × Rat) : Lib.cut (tt m) [42, 120] = (tq m.2, Lib.itoa m.1, true) := by
  have e : tt m = tq m.2 ++ [42, 120] ++ Lib.itoa m.1 := by unfold tt; simp
  rw [e]
  exact cut_at (p := [120]) (tq_free42 _)
theorem dec_inj {m n : Nat} (h : Lib.decDigits m = Lib.decDigits n) : m = n := by
  rw [← (decDigits_facts m).2.1, ← (decDigits_facts n).2.1, h]
theorem itoa_inj {x y : Int} (h : Lib.itoa x = Lib.itoa y) : x = y := by
  obtain ⟨h1, h2⟩ := itoa_unsig x
  obtain ⟨h3, h4⟩ := itoa_unsig y
  rw [h, h3] at h1
  rw [h, h4] at h2
  have := dec_inj h1
  by_cases hx : x < 0 <;> by_cases hy : y < 0 <;> simp [hx, hy] at h2 <;> omega
theorem tq_inj {p q : Rat} (h : tq p = tq q) : p = q := by
  obtain ⟨a1, a2⟩ := tq_sign p
  obtain ⟨b1, b2⟩ := tq_sign q
  rw [h, b1] at a1
  rw [h, b2] at a2
  have hs : (q.num < 0) = (p.num < 0) := by simpa using a1
  by_cases hp : p.den = 1
  · by_cases hq : q.den = 1
    · rw [(cut_tr_one hp).2, (cut_tr_one hq).2] at a2
      have := dec_inj a2
      have hn : p.num = q.num := by
        by_cases h0 : p.num < 0
        · have h1 : q.num < 0 := by rw [hs]; exact h0
          omega
        · have h1 : ¬ q.num < 0 := by rw [hs]; exact h0
          omega
      exact Rat.ext hn (by rw [hp, hq])
    · have c1 := (cut_tr_one hp).1
      rw [← a2, cut_tr hq] at c1
      simp at c1
  · by_cases hq : q.den = 1
    · have c1 := (cut_tr_one hq).1
      rw [a2, cut_tr hp] at c1
      simp at c1
    · have c1 := cut_tr hp
      rw [← a2, cut_tr hq] at c1
      simp only [Prod.mk.injEq, and_true] at c1
      have e1 := dec_inj c1.1
      have e2 := dec_inj c1.2
      have hn : p.num = q.num := by
        by_cases h0 : p.num < 0
        · have h1 : q.num < 0 := by rw [hs]; exact h0
          omega
        · have h1 : ¬ q.num < 0 := by rw [hs]; exact h0
          omega
      exact Rat.ext hn e2.symm
theorem tt_inj {m n : Int × Rat} (h : tt m = tt n) : m = n := by
  have c1 := cut_tt m
  rw [h, cut_tt n] at c1
  simp only [Prod.mk.injEq, and_true] at c1
  exact Prod.ext (itoa_inj c1.2).symm (tq_inj c1.1).symm
theorem map_inj {α β : Type} {f : α → β} (hf : ∀ {a b}, f a = f b → a = b) : ∀ {l m : List α}, l.map f = m.map f → l = m
  | [], [], _ => rfl
  | [], _ :: _, h => by simp at h
  | _ :: _, [], h => by simp at h
  | a :: l, b :: m, h => by
    simp only [List.map_cons, List.cons.injEq] at h
    rw [hf h.1, map_inj hf h.2]
theorem tf_inj {l m : List (Int × Rat)} (h : tf l = tf m) : l = m := by
  by_cases hl : l = []
  · subst hl
    by_cases hm : m = []
    · exact hm.symm
    · exact absurd h.symm (tf_zero hm)
  · by_cases hm : m = []
    · subst hm
      exact absurd h (tf_zero hl)
    · have h1 := tf_segs hl
      rw [h, tf_segs hm] at h1
      exact (map_inj tt_inj h1).symm

/-! ### Atoi -/
theorem decV_ge : ∀ (l : List UInt8) (acc : Nat), acc ≤ decV acc l
  | [], acc => Nat.le_refl _
  | b :: r, acc => by
    rw [decV_cons]
    have := decV_ge r (dstep acc b)
    unfold dstep at this ⊢
    omega
theorem uint_ok : ∀ (l : List UInt8) (acc : Nat), (∀ b ∈ l, isDig b = true) → decV acc l < 18446744073709551616 → Lib.parseUint10 acc l = .ok (decV acc l)
  | [], acc, _, _ => rfl
  | b :: r, acc, h, hv => by
    have hb := isDig_iff.1 (h b (by simp))
    rw [decV_cons] at hv ⊢
    have h1 := decV_ge r (dstep acc b)
    have h2 : dstep acc b = acc * 10 + (b.toNat - 48) := rfl
    rw [Lib.parseUint10, if_pos hb, if_neg (by omega), if_neg (by omega), ← h2]
    exact uint_ok r _ (fun x hx => h x (by simp [hx])) hv
theorem mag_dec (n : Nat) (h : n < 18446744073709551616) : Lib.parseMag (Lib.decDigits n) = .ok n := by
  obtain ⟨h1, h2, h3⟩ := decDigits_facts n
  unfold Lib.parseMag
  rw [if_neg (fun e => by rw [e] at h3; simp at h3), uint_ok _ 0 h1 (by rw [h2]; exact h), h2]
theorem atoi_itoa {x : Int} (h0 : -9223372036854775808 ≤ x) (h1 : x ≤ 9223372036854775807) : Lib.atoiAll (Lib.itoa x) = .ok x := by
  rw [itoa_eq]
  by_cases h : x < 0
  · rw [if_pos h, List.singleton_append, Lib.atoiAll_minus, mag_dec _ (by omega)]
    show (if 9223372036854775808 < x.natAbs then Lib.NumEnd.range else .ok (-(x.natAbs : Int))) = _
    rw [if_neg (by omega)]
    congr 1
    omega
  · rw [if_neg h, List.nil_append]
    obtain ⟨f1, _, f3⟩ := decDigits_facts x.natAbs
    have hm := mag_dec x.natAbs (by omega)
    generalize Lib.decDigits x.natAbs = l at *
    cases l with
    | nil => simp at f3
    | cons b r =>
      have hb := isDig_iff.1 (f1 b (by simp))
      rw [Lib.atoiAll_plain b r (by omega) (by omega), hm]
      show (if 9223372036854775808 ≤ x.natAbs then Lib.NumEnd.range else .ok (x.natAbs : Int)) = _
      rw [if_neg (by omega)]
      congr 1
      omega
end Go.Proofs.YtidgpkccjcddgaaGreatDoor.F
