/- Words, lines and decimal numbers of a text, as plain functions of its bytes; the library's ways (FieldsFunc, Split, Trim, Atoi) come to these. No condition. -/
import Derived.Lib.FieldsP
import Derived.Lib.MapLaws
import Derived.Lib.SplitLaws
import Derived.Lib.SlTrimSet
import Derived.Lib.Strings
import Derived.Lib.Atoi
set_option linter.unusedVariables false
set_option linter.unusedSimpArgs false
namespace Go.Proofs.YtafmomlgkehdfaaDoor.F

/-! ### words -/
/-- one byte more: behind it the spans that have ended, and where one is open -/
def stepS (x : List (Nat × Nat) × Option Nat) (pos : Nat) (b : Bool) : List (Nat × Nat) × Option Nat :=
  match b, x.2 with
  | true, some a => (x.1 ++ [(a, pos)], none)
  | true, none => (x.1, none)
  | false, some a => (x.1, some a)
  | false, none => (x.1, some pos)
/-- the spans behind the first k bytes -/
def spS (q : UInt8 → Bool) (l : List UInt8) : Nat → List (Nat × Nat) × Option Nat
  | 0 => ([], none)
  | k + 1 => stepS (spS q l k) k (q (l.getD k 0))
def spansB (q : UInt8 → Bool) (l : List UInt8) : List (Nat × Nat) := (stepS (spS q l l.length) l.length true).1
def cutAt (l : List UInt8) (x : Nat × Nat) : List UInt8 := (l.take x.2).drop x.1
/-- what stands between the bytes of which q holds -/
def wdsQ (q : UInt8 → Bool) (l : List UInt8) : List (List UInt8) := (spansB q l).map (cutAt l)
def blank (b : UInt8) : Bool := b == 32 || b == 9 || b == 13
def blankR (r : Nat) : Bool := r == 32 || r == 9 || r == 13
abbrev wds (l : List UInt8) : List (List UInt8) := wdsQ blank l

theorem spS_skip (q : UInt8 → Bool) (l : List UInt8) (pos : Nat) : ∀ n, (∀ j, j < n + 1 → q (l.getD (pos + j) 0) = false) → spS q l (pos + (n + 1)) = ((spS q l pos).1, some ((spS q l pos).2.getD pos))
  | 0, h => by
    have h0 := h 0 (by omega)
    rw [show pos + (0 + 1) = pos + 1 by omega, spS, show l.getD pos 0 = l.getD (pos + 0) 0 by rw [Nat.add_zero], h0]
    unfold stepS
    cases (spS q l pos).2 <;> rfl
  | n + 1, h => by
    have ih := spS_skip q l pos n (fun j hj => h j (by omega))
    have h0 := h (n + 1) (by omega)
    rw [show pos + (n + 1 + 1) = (pos + (n + 1)) + 1 by omega, spS, ih, h0]
    rfl

theorem dec_bytes (s : ByteArray) (pos : Nat) (h : pos < s.size) :
    ((s.get! pos).toNat < 128 ∧ Utf8.decode s pos = ((s.get! pos).toNat, 1)) ∨
    (128 ≤ (Utf8.decode s pos).1 ∧ 1 ≤ (Utf8.decode s pos).2 ∧ pos + (Utf8.decode s pos).2 ≤ s.size ∧ ∀ j, j < (Utf8.decode s pos).2 → 128 ≤ (s.get! (pos + j)).toNat) := by
  rw [Lib.decode_at]
  generalize hn : s.size - pos = n
  by_cases h0 : (s.get! pos).toNat < 128
  · left
    refine ⟨h0, ?_⟩
    unfold Lib.decodeN
    rw [if_pos h0]
  · right
    rcases Lib.decodeN_shape n (s.get! pos).toNat (s.get! (pos + 1)).toNat (s.get! (pos + 2)).toNat (s.get! (pos + 3)).toNat with ⟨a, _⟩ | ⟨a, b, c, d, e⟩ | ⟨a, b, c, d, e, f, g⟩ | ⟨a, b, c, d, e, f, g, i⟩ | e
    · omega
    · rw [e]
      refine ⟨d, by simp only; omega, by simp only; omega, fun j hj => ?_⟩
      simp only at hj
      match j, hj with
      | 0, _ => simpa using h0
      | 1, _ => omega
    · rw [g]
      refine ⟨by simp only; omega, by simp only; omega, by simp only; omega, fun j hj => ?_⟩
      simp only at hj
      match j, hj with
      | 0, _ => simpa using h0
      | 1, _ => omega
      | 2, _ => omega
    · rw [i]
      refine ⟨by simp only; omega, by simp only; omega, by simp only; omega, fun j hj => ?_⟩
      simp only at hj
      match j, hj with
      | 0, _ => simpa using h0
      | 1, _ => omega
      | 2, _ => omega
      | 3, _ => omega
    · rw [e]
      refine ⟨by decide, by decide, by simp only; omega, fun j hj => ?_⟩
      simp only at hj
      match j, hj with
      | 0, _ => simpa using h0

theorem get_getD (s : ByteArray) (i : Nat) : s.data.toList.getD i 0 = s.get! i := by
  obtain ⟨⟨l⟩⟩ := s
  show l.getD i 0 = (⟨l⟩ : Array UInt8)[i]!
  rw [List.getD_eq_getElem?_getD]
  by_cases h : i < l.length
  · simp [h]
  · have h' : l.length ≤ i := by omega
    simp [h']
    rfl

theorem spans_walk {p : Nat → Bool} {q : UInt8 → Bool} (hq : ∀ b, q b = p b.toNat) (hp : ∀ r, 128 ≤ r → p r = false) (s : ByteArray) : ∀ (f pos : Nat) (st : Option Nat) (acc : List (Nat × Nat)), s.size ≤ pos + f → pos ≤ s.size → (acc, st) = spS q s.data.toList pos →
    Lib.spansFromP p s f pos st acc = spS q s.data.toList s.size
  | 0, pos, st, acc, h1, h2, h3 => by
    have : pos = s.size := by omega
    subst this
    exact h3
  | f + 1, pos, st, acc, h1, h2, h3 => by
    by_cases hlt : pos < s.size
    · have hsk : (p (Utf8.decode s pos).1 = true ∧ (Utf8.decode s pos).2 = 1 ∧ q (s.data.toList.getD pos 0) = true) ∨ (p (Utf8.decode s pos).1 = false ∧ ∃ n, (Utf8.decode s pos).2 = n + 1 ∧ pos + (n + 1) ≤ s.size ∧ spS q s.data.toList (pos + (n + 1)) = ((spS q s.data.toList pos).1, some ((spS q s.data.toList pos).2.getD pos))) := by
        rcases dec_bytes s pos hlt with ⟨a, e⟩ | ⟨a, b, c, d⟩
        · rw [e]
          simp only
          cases hpb : p (s.get! pos).toNat with
          | true => exact .inl ⟨by simp, by simp, by rw [get_getD, hq, hpb]⟩
          | false =>
            refine .inr ⟨by simp, 0, by simp, by omega, spS_skip q _ pos 0 fun j hj => ?_⟩
            have : j = 0 := by omega
            subst this
            rw [Nat.add_zero, get_getD, hq, hpb]
        · refine .inr ⟨hp _ a, (Utf8.decode s pos).2 - 1, by omega, by omega, spS_skip q _ pos _ fun j hj => ?_⟩
          rw [get_getD, hq]
          exact hp _ (d j (by omega))
      unfold Lib.spansFromP
      rw [if_pos hlt]
      rcases hsk with ⟨e1, e2, e3⟩ | ⟨e1, n, e2, e3, e4⟩
      · rw [if_pos e1, e2]
        have hs : spS q s.data.toList (pos + 1) = stepS (acc, st) pos true := by rw [spS, ← h3, e3]
        cases st with
        | some a => exact spans_walk hq hp s f _ _ _ (by omega) (by omega) hs.symm
        | none => exact spans_walk hq hp s f _ _ _ (by omega) (by omega) hs.symm
      · rw [e1, if_neg (by decide), e2]
        rw [← h3] at e4
        cases st with
        | some a => exact spans_walk hq hp s f _ _ _ (by omega) (by omega) e4.symm
        | none => exact spans_walk hq hp s f _ _ _ (by omega) (by omega) e4.symm
    · have : pos = s.size := by omega
      subst this
      rw [Lib.spansFromP_end p s _ _ _ _ hlt]
      exact h3

theorem fields_eq {p : Nat → Bool} {q : UInt8 → Bool} (hq : ∀ b, q b = p b.toNat) (hp : ∀ r, 128 ≤ r → p r = false) (l : List UInt8) :
    Lib.goFieldsP p ⟨l.toArray⟩ = (wdsQ q l).map fun x => ⟨x.toArray⟩ := by
  have hs : (⟨l.toArray⟩ : ByteArray).size = l.length := by show l.toArray.size = _; simp
  have h := spans_walk hq hp ⟨l.toArray⟩ (⟨l.toArray⟩ : ByteArray).size 0 none [] (by omega) (by omega) rfl
  rw [hs] at h
  have hl : (⟨l.toArray⟩ : ByteArray).data.toList = l := rfl
  rw [hl] at h
  unfold Lib.goFieldsP Lib.spansOfP wdsQ spansB
  rw [hs, h, List.map_map]
  have hc : Lib.closeSpans ⟨l.toArray⟩ (spS q l l.length) = (stepS (spS q l l.length) l.length true).1 := by
    unfold Lib.closeSpans stepS
    rw [hs]
    cases (spS q l l.length).2 <;> rfl
  rw [hc]
  apply List.map_congr_left
  intro x _
  apply ByteArray.ext
  show (ByteArray.extract ⟨l.toArray⟩ x.1 x.2).data = _
  rw [ByteArray.data_extract]
  simp [cutAt, List.drop_take]

theorem blank_R (b : UInt8) : blank b = blankR b.toNat := by
  have h : ∀ n : Nat, n < 256 → ∀ b : UInt8, (b == UInt8.ofNat n) = (b.toNat == n) := fun n hn b => by
    rw [Bool.eq_iff_iff, beq_iff_eq, beq_iff_eq]
    constructor
    · rintro rfl
      simp
      omega
    · intro h
      rw [← h]
      simp
  unfold blank blankR
  rw [show (32 : UInt8) = UInt8.ofNat 32 from rfl, show (9 : UInt8) = UInt8.ofNat 9 from rfl, show (13 : UInt8) = UInt8.ofNat 13 from rfl, h 32 (by omega), h 9 (by omega), h 13 (by omega)]
theorem blankR_high (r : Nat) (h : 128 ≤ r) : blankR r = false := by
  unfold blankR
  have a : (r == 32) = false := by simp; omega
  have b : (r == 9) = false := by simp; omega
  have c : (r == 13) = false := by simp; omega
  rw [a, b, c]; rfl
theorem fields_wds (l : List UInt8) : Lib.goFieldsP blankR ⟨l.toArray⟩ = (wds l).map fun x => ⟨x.toArray⟩ := fields_eq blank_R blankR_high l

theorem spS_le (q : UInt8 → Bool) (l : List UInt8) : ∀ k, (∀ x ∈ (spS q l k).1, x.1 ≤ x.2 ∧ x.2 ≤ k) ∧ (∀ a, (spS q l k).2 = some a → a < k) ∧ (spS q l k).1.length ≤ k
  | 0 => ⟨fun x hx => by simp [spS] at hx, fun a ha => by simp [spS] at ha, by simp [spS]⟩
  | k + 1 => by
    obtain ⟨h1, h2, h3⟩ := spS_le q l k
    rw [spS]
    generalize spS q l k = x at *
    obtain ⟨acc, st⟩ := x
    unfold stepS
    cases q (l.getD k 0) <;> cases st
    · exact ⟨fun x hx => by have := h1 x hx; omega, fun a ha => by simp at ha; omega, by simpa using Nat.le_succ_of_le h3⟩
    · rename_i b
      exact ⟨fun x hx => by have := h1 x hx; omega, fun a ha => by have := h2 b rfl; simp at ha; omega, by simpa using Nat.le_succ_of_le h3⟩
    · exact ⟨fun x hx => by have := h1 x hx; omega, fun a ha => by simp at ha, by simpa using Nat.le_succ_of_le h3⟩
    · rename_i b
      have hb := h2 b rfl
      refine ⟨fun x hx => ?_, fun a ha => by simp at ha, by simpa using h3⟩
      rcases List.mem_append.1 hx with hx | hx
      · have := h1 x hx; omega
      · simp at hx; subst hx; simp only; omega
theorem wdsQ_length (q : UInt8 → Bool) (l : List UInt8) : (wdsQ q l).length ≤ l.length + 1 := by
  obtain ⟨_, h2, h3⟩ := spS_le q l l.length
  unfold wdsQ spansB stepS
  rw [List.length_map]
  cases (spS q l l.length).2
  · simp only; omega
  · simp only [List.length_append, List.length_singleton]; omega

/-! ### lines -/
def glue (b : UInt8) : List (List UInt8) → List (List UInt8)
  | [] => [[b]]
  | x :: xs => (b :: x) :: xs
theorem glue_ne (b : UInt8) (l : List (List UInt8)) : glue b l ≠ [] := by cases l <;> simp [glue]
theorem glue_last (a b : UInt8) : ∀ (l : List (List UInt8)) (h : l ≠ []), glue a (l.dropLast ++ [l.getLast h ++ [b]]) = (glue a l).dropLast ++ [(glue a l).getLast (glue_ne a l) ++ [b]]
  | [], h => absurd rfl h
  | [x], _ => by simp [glue]
  | x :: y :: xs, _ => by simp [glue]
def segs : List UInt8 → List (List UInt8)
  | [] => [[]]
  | b :: r => if b == 10 then [] :: segs r else glue b (segs r)
theorem segs_ne (l : List UInt8) : segs l ≠ [] := by
  cases l with
  | nil => simp [segs]
  | cons b r =>
    rw [segs]
    split
    · simp
    · exact glue_ne _ _
theorem splitK_segs : ∀ l : List UInt8, Lib.splitK [10] 0 (Lib.count l [10]) l = segs l
  | [] => by rw [Lib.count_miss (by simp [Lib.index])]; rfl
  | b :: r => by
    have ih := splitK_segs r
    by_cases hb : b = 10
    · subst hb
      have hix : Lib.index (10 :: r) [10] = 0 := by rw [Lib.index]; simp [List.isPrefixOf]
      rw [Lib.count_cons_eq, Nat.add_comm, Lib.splitK, hix, if_neg (by decide), segs, if_pos (by decide), ← ih]
      rfl
    · have hp : ([10] : List UInt8).isPrefixOf (b :: r) = false := by simp [List.isPrefixOf, Ne.symm hb]
      have hix : Lib.index (b :: r) [10] = if Lib.index r [10] == -1 then -1 else Lib.index r [10] + 1 := by rw [Lib.index, hp]; simp
      rw [Lib.count_cons_ne b 10 r hb, segs, if_neg (by simpa using hb)]
      by_cases hm : Lib.index r [10] = -1
      · rw [Lib.count_miss hm] at ih ⊢
        rw [← ih]
        rfl
      · have hge := Lib.index_ge r [10]
        obtain ⟨j, hj⟩ : ∃ j : Nat, Lib.index r [10] = j := ⟨(Lib.index r [10]).toNat, by omega⟩
        have hix' : Lib.index (b :: r) [10] = ((j + 1 : Nat) : Int) := by rw [hix, if_neg (fun e => hm (beq_iff_eq.1 e)), hj]; omega
        rw [Lib.count_hit (by simp) hj, Nat.add_comm] at ih ⊢
        rw [Lib.splitK, hj, if_neg (by have h0 : ¬ (j : Int) = -1 := (by omega); rwa [beq_iff_eq])] at ih
        rw [Lib.splitK, hix', if_neg (by have h0 : ¬ ((j + 1 : Nat) : Int) = -1 := (by omega); rwa [beq_iff_eq]), ← ih]
        simp [glue]
theorem countB_toList (l : List UInt8) : Lib.countB ⟨l.toArray⟩ ⟨#[10]⟩ = Lib.count l [10] := rfl
theorem split_segs (l : List UInt8) : Lib.splitB ⟨#[10]⟩ 0 (Lib.countB ⟨l.toArray⟩ ⟨#[10]⟩) ⟨l.toArray⟩ = (segs l).map fun x => ⟨x.toArray⟩ := by
  have h := Lib.splitB_data ⟨#[10]⟩ 0 (Lib.countB ⟨l.toArray⟩ ⟨#[10]⟩) ⟨l.toArray⟩
  rw [countB_toList] at h ⊢
  have h' : (Lib.splitB ⟨#[10]⟩ 0 (Lib.count l [10]) ⟨l.toArray⟩).map (·.data.toList) = segs l := h.trans (splitK_segs l)
  rw [← h', List.map_map]
  conv => lhs; rw [← List.map_id (Lib.splitB ⟨#[10]⟩ 0 (Lib.count l [10]) ⟨l.toArray⟩)]
  apply List.map_congr_left
  intro x _
  obtain ⟨⟨l⟩⟩ := x
  rfl
theorem segs_length (l : List UInt8) : (segs l).length = Lib.count l [10] + 1 := by
  have := congrArg List.length (splitK_segs l)
  have h2 := Lib.splitB_all ⟨#[10]⟩ (by decide) 0 (Lib.countB ⟨l.toArray⟩ ⟨#[10]⟩) ⟨l.toArray⟩ rfl
  rw [split_segs, List.length_map, countB_toList] at h2
  exact h2

/-- the lines that have ended behind the first k bytes, and where the next one begins -/
def lnS (l : List UInt8) : Nat → List (Nat × Nat) × Nat
  | 0 => ([], 0)
  | k + 1 => if l.getD k 0 == 10 then ((lnS l k).1 ++ [((lnS l k).2, k)], k + 1) else lnS l k
theorem lnS_le (l : List UInt8) : ∀ k, (∀ x ∈ (lnS l k).1, x.1 ≤ x.2 ∧ x.2 ≤ k) ∧ (lnS l k).2 ≤ k ∧ (lnS l k).1.length ≤ k
  | 0 => ⟨fun x hx => by simp [lnS] at hx, by simp [lnS], by simp [lnS]⟩
  | k + 1 => by
    obtain ⟨h1, h2, h3⟩ := lnS_le l k
    rw [lnS]
    split
    · refine ⟨fun x hx => ?_, by simp, by simpa using h3⟩
      rcases List.mem_append.1 hx with hx | hx
      · have := h1 x hx; omega
      · simp at hx; subst hx; simp only; omega
    · exact ⟨fun x hx => by have := h1 x hx; omega, by omega, by omega⟩
theorem segs_snoc : ∀ (l : List UInt8) (b : UInt8), segs (l ++ [b]) = if b == 10 then segs l ++ [[]] else (segs l).dropLast ++ [((segs l).getLast (segs_ne l)) ++ [b]]
  | [], b => by
    by_cases hb : b = 10
    · subst hb; rfl
    · simp [segs, hb, glue]
  | a :: r, b => by
    have ih := segs_snoc r b
    rw [List.cons_append]
    by_cases ha : a = 10
    · subst ha
      have e : ∀ m, segs (10 :: m) = [] :: segs m := fun m => by rw [segs, if_pos (by simp)]
      simp only [e, ih]
      by_cases hb : b = 10
      · simp [hb]
      · have hn := segs_ne r
        simp only [hb, beq_iff_eq, if_false]
        rw [List.dropLast_cons_of_ne_nil hn, List.getLast_cons hn]
        simp
    · have e : ∀ m, segs (a :: m) = glue a (segs m) := fun m => by rw [segs, if_neg (by simpa using ha)]
      simp only [e, ih]
      by_cases hb : b = 10
      · simp only [hb, beq_self_eq_true, if_true]
        cases h : segs r with
        | nil => exact absurd h (segs_ne r)
        | cons x xs => simp [glue]
      · simp only [hb, beq_iff_eq, if_false]
        exact glue_last a b _ (segs_ne r)
theorem segs_take (l : List UInt8) : ∀ k, k ≤ l.length → segs (l.take k) = (lnS l k).1.map (cutAt l) ++ [(l.take k).drop (lnS l k).2]
  | 0, _ => by simp [lnS, segs]
  | k + 1, h => by
    have ih := segs_take l k (by omega)
    obtain ⟨_, h2, _⟩ := lnS_le l k
    have hk : k < l.length := by omega
    have hg : l.getD k 0 = l[k] := by simp [hk]
    rw [List.take_succ_eq_append_getElem hk, segs_snoc, lnS, hg]
    by_cases hb : l[k] = 10
    · simp only [hb, beq_self_eq_true, if_true]
      rw [ih]
      simp [cutAt]
      omega
    · have hb' : ¬ ((l[k] == 10) = true) := by simpa using hb
      rw [if_neg hb', if_neg hb']
      have e : ∀ (x : List (List UInt8)) (hx : x ≠ []), x = (lnS l k).1.map (cutAt l) ++ [(l.take k).drop (lnS l k).2] → x.dropLast ++ [x.getLast hx ++ [l[k]]] = (lnS l k).1.map (cutAt l) ++ [(l.take k ++ [l[k]]).drop (lnS l k).2] := by
        intro x hx he
        subst he
        rw [List.dropLast_concat, List.getLast_concat, List.drop_append_of_le_length (by rw [List.length_take]; omega)]
      exact e _ _ ih
/-- the lines of a text -/
def lns (l : List UInt8) : List (List UInt8) := (lnS l l.length).1.map (cutAt l) ++ if (lnS l l.length).2 < l.length then [l.drop (lnS l l.length).2] else []
theorem segs_lns (l : List UInt8) : segs l = (lnS l l.length).1.map (cutAt l) ++ [l.drop (lnS l l.length).2] := by
  have := segs_take l l.length (Nat.le_refl _)
  rwa [List.take_length] at this
theorem lns_length (l : List UInt8) : (lns l).length ≤ l.length + 1 := by
  obtain ⟨_, _, h3⟩ := lnS_le l l.length
  unfold lns
  rw [List.length_append, List.length_map]
  split <;> simp <;> omega
theorem segs_last (l : List UInt8) : (segs l)[(segs l).length - 1]? = some (l.drop (lnS l l.length).2) := by
  rw [segs_lns]
  simp
theorem lns_of_full {l : List UInt8} (h : l.drop (lnS l l.length).2 ≠ []) : lns l = segs l := by
  have h1 : (lnS l l.length).2 < l.length := by
    rcases Nat.lt_or_ge (lnS l l.length).2 l.length with h1 | h1
    · exact h1
    · exact absurd (List.drop_of_length_le h1) h
  rw [segs_lns]
  unfold lns
  rw [if_pos h1]
theorem lns_of_empty {l : List UInt8} (h : l.drop (lnS l l.length).2 = []) : lns l = (segs l).take ((segs l).length - 1) := by
  have h1 : ¬ (lnS l l.length).2 < l.length := by
    intro h1
    have := congrArg List.length h
    rw [List.length_drop] at this
    simp at this
    omega
  rw [segs_lns]
  unfold lns
  rw [if_neg h1]
  simp

/-! ### numbers -/
def isDig (b : UInt8) : Bool := decide (48 ≤ b.toNat ∧ b.toNat ≤ 57)
theorem isDig_iff {b : UInt8} : isDig b = true ↔ 48 ≤ b.toNat ∧ b.toNat ≤ 57 := decide_eq_true_iff
def dstep (acc : Nat) (b : UInt8) : Nat := acc * 10 + (b.toNat - 48)
def decV (acc : Nat) (l : List UInt8) : Nat := l.foldl dstep acc
theorem decV_nil (acc : Nat) : decV acc [] = acc := rfl
theorem decV_cons (acc : Nat) (b : UInt8) (r : List UInt8) : decV acc (b :: r) = decV (dstep acc b) r := by unfold decV; rw [List.foldl_cons]
theorem decV_snoc (b : UInt8) (l : List UInt8) (acc : Nat) : decV acc (l ++ [b]) = dstep (decV acc l) b := by
  unfold decV
  rw [List.foldl_append]
  rfl
theorem decV_lt : ∀ (l : List UInt8) (acc : Nat), (∀ b ∈ l, isDig b = true) → decV acc l < (acc + 1) * 10 ^ l.length
  | [], acc, _ => by rw [decV_nil]; simp
  | a :: r, acc, h => by
    have ha := isDig_iff.1 (h a (by simp))
    have ih := decV_lt r (dstep acc a) (fun b hb => h b (by simp [hb]))
    rw [decV_cons, List.length_cons, Nat.pow_succ]
    refine Nat.lt_of_lt_of_le ih ?_
    rw [Nat.mul_comm (10 ^ r.length) 10, ← Nat.mul_assoc]
    exact Nat.mul_le_mul_right _ (by unfold dstep; omega)
theorem decFrom_dig : ∀ (l : List UInt8) (acc : Nat), (∀ b ∈ l, isDig b = true) → Lib.decFrom acc l = some (decV acc l)
  | [], acc, _ => rfl
  | a :: r, acc, h => by
    have ha := isDig_iff.1 (h a (by simp))
    rw [Lib.decFrom, Lib.digitVal, if_pos ha, decV_cons]
    exact decFrom_dig r _ (fun b hb => h b (by simp [hb]))
/-- a number of at most nine digits, perhaps behind a minus -/
def unsig (l : List UInt8) : List UInt8 := Lib.trimPrefix l [45]
def neg1 (l : List UInt8) : Bool := Lib.hasPrefix l [45]
def numOk (l : List UInt8) : Bool := decide (1 ≤ (unsig l).length) && decide ((unsig l).length ≤ 9) && (unsig l).all isDig
def numV (l : List UInt8) : Int := if numOk l then (if neg1 l then -(decV 0 (unsig l) : Int) else (decV 0 (unsig l) : Int)) else 0
theorem numV_bad {l : List UInt8} (h : numOk l = false) : numV l = 0 := by unfold numV; rw [h]; rfl
theorem neg1_cons (b : UInt8) (r : List UInt8) : neg1 (b :: r) = (b == 45) := by
  unfold neg1 Lib.hasPrefix
  rw [List.isPrefixOf, List.isPrefixOf, Bool.and_true]
  rw [Bool.eq_iff_iff, beq_iff_eq, beq_iff_eq]
  exact eq_comm
theorem numOk_dig {l : List UInt8} (h : numOk l = true) : 1 ≤ (unsig l).length ∧ (unsig l).length ≤ 9 ∧ ∀ b ∈ unsig l, isDig b = true := by
  unfold numOk at h
  rw [Bool.and_eq_true, Bool.and_eq_true] at h
  obtain ⟨⟨h1, h2⟩, h3⟩ := h
  exact ⟨of_decide_eq_true h1, of_decide_eq_true h2, List.all_eq_true.1 h3⟩
theorem numV_bound (l : List UInt8) : -999999999 ≤ numV l ∧ numV l ≤ 999999999 := by
  cases h : numOk l with
  | false => rw [numV_bad h]; omega
  | true =>
    obtain ⟨h1, h2, h3⟩ := numOk_dig h
    have hlt := decV_lt (unsig l) 0 h3
    have hp : 10 ^ (unsig l).length ≤ 10 ^ 9 := Nat.pow_le_pow_right (by decide) h2
    unfold numV
    rw [h]
    simp only [if_true]
    split <;> omega
theorem atoi_num {l : List UInt8} (h : numOk l = true) : Lib.atoi l = some (numV l) ∧ l.length ≤ 10 := by
  obtain ⟨h1, h2, h3⟩ := numOk_dig h
  have hv : numV l = if neg1 l then -(decV 0 (unsig l) : Int) else (decV 0 (unsig l) : Int) := by unfold numV; rw [h]; rfl
  rw [hv]
  cases l with
  | nil => simp [unsig, Lib.trimPrefix, Lib.hasPrefix] at h1
  | cons b r =>
    have hn := neg1_cons b r
    by_cases hb : b = 45
    · subst hb
      have hu : unsig (45 :: r) = r := by unfold unsig Lib.trimPrefix; rw [show Lib.hasPrefix (45 :: r) [45] = true from hn.trans (by decide)]; rfl
      rw [hu] at h1 h2 h3
      have hr : r.isEmpty = false := by cases r with
        | nil => simp at h1
        | cons _ _ => rfl
      rw [hn, hu, Lib.atoi, if_pos (by decide), Lib.decNat, hr]
      simp only [Bool.false_eq_true, if_false, decFrom_dig r 0 h3]
      exact ⟨rfl, by simp; omega⟩
    · have hb' : (b == 45) = false := by simpa using hb
      have hu : unsig (b :: r) = b :: r := by unfold unsig Lib.trimPrefix; rw [show Lib.hasPrefix (b :: r) [45] = false from hn.trans hb']; rfl
      rw [hu] at h1 h2 h3
      have hd := isDig_iff.1 (h3 b (by simp))
      have hb2 : ¬ (b == 43) = true := by
        intro h43
        have := beq_iff_eq.1 h43
        subst this
        exact absurd hd.1 (by decide)
      rw [hn, hu, hb', Lib.atoi, if_neg (by rw [hb']; decide), if_neg hb2, Lib.decNat]
      simp only [List.isEmpty_cons, Bool.false_eq_true, if_false, decFrom_dig (b :: r) 0 h3]
      exact ⟨rfl, by omega⟩
/-- Trim of the ten digits leaves nothing just where all are -/
def tenB : List UInt8 := [48, 49, 50, 51, 52, 53, 54, 55, 56, 57]
theorem tenB_contains (b : UInt8) : tenB.contains b = isDig b := by
  have h : ∀ n : Fin 256, tenB.contains (UInt8.ofNat n.val) = isDig (UInt8.ofNat n.val) := by decide +kernel
  have := h ⟨b.toNat, b.toNat_lt⟩
  simpa using this
theorem dropWhile_nil {q : UInt8 → Bool} : ∀ l : List UInt8, l.dropWhile q = [] ↔ l.all q = true
  | [] => by simp
  | b :: r => by
    cases hb : q b with
    | true => simp [List.dropWhile, hb, dropWhile_nil r]
    | false => simp [List.dropWhile, hb]
theorem trim_tenB (l : List UInt8) : Lib.trimS l tenB = [] ↔ l.all isDig = true := by
  have e : (fun b => tenB.contains b) = isDig := funext tenB_contains
  unfold Lib.trimS Lib.trimLeftS Lib.trimRightS
  rw [e, dropWhile_nil, List.all_reverse]
  constructor
  · intro h
    by_cases h0 : l.reverse.dropWhile isDig = []
    · have := (dropWhile_nil _).1 h0
      rwa [List.all_reverse] at this
    · exfalso
      have hx : (l.reverse.dropWhile isDig).head h0 ∈ l.reverse.dropWhile isDig := List.head_mem h0
      have h1 := List.all_eq_true.1 h _ hx
      have h2 : isDig ((l.reverse.dropWhile isDig).head h0) = false := List.head_dropWhile_not isDig h0
      rw [h1] at h2
      cases h2
  · intro h
    have h1 : l.reverse.dropWhile isDig = [] := (dropWhile_nil _).2 (by rwa [List.all_reverse])
    rw [h1]
    rfl
end Go.Proofs.YtafmomlgkehdfaaDoor.F
