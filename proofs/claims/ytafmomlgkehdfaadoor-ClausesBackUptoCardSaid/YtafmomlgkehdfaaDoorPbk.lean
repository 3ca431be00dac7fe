/- The plain law of ClausesBack: what Dimacs writes, Parse reads. Condition: at most 999999999 atoms and clauses. -/
import Derived.Test.YtafmomlgkehdfaaDoorPsv
import Derived.Test.YtafmomlgkehdfaaDoorDdm
import Derived.Lib.ItoaMem
set_option linter.unusedVariables false
set_option linter.unusedSimpArgs false
namespace Go.Proofs.YtafmomlgkehdfaaDoor.F
open Go.RowKit Go.Shelf

/-! ### words -/
def wdsF (q : UInt8 → Bool) : List UInt8 → List UInt8 → List (List UInt8)
  | cur, [] => if cur = [] then [] else [cur]
  | cur, b :: r => if q b = true then (if cur = [] then wdsF q [] r else cur :: wdsF q [] r) else wdsF q (cur ++ [b]) r
def curOf (l : List UInt8) (k : Nat) : Option Nat → List UInt8
  | none => []
  | some a => cutAt l (a, k)
theorem curOf_ne {l : List UInt8} {k a : Nat} (h : a < k) (hk : k ≤ l.length) : cutAt l (a, k) ≠ [] := by
  intro e
  have := congrArg List.length e
  unfold cutAt at this
  rw [List.length_drop, List.length_take] at this
  simp at this
  omega
theorem cut_grow {l : List UInt8} {k a : Nat} (h : a ≤ k) (hk : k < l.length) : cutAt l (a, k) ++ [l[k]] = cutAt l (a, k + 1) := by
  unfold cutAt
  simp only
  rw [List.take_succ_eq_append_getElem hk, List.drop_append_of_le_length (by rw [List.length_take]; omega)]
theorem wds_walk (q : UInt8 → Bool) (l : List UInt8) : ∀ k, k ≤ l.length → (spS q l k).1.map (cutAt l) ++ wdsF q (curOf l k (spS q l k).2) (l.drop k) = wdsF q [] l
  | 0, _ => by simp [spS, curOf]
  | k + 1, h => by
    have ih := wds_walk q l k (by omega)
    have hk : k < l.length := by omega
    obtain ⟨_, h2, _⟩ := spS_le q l k
    have hg : l.getD k 0 = l[k] := by simp [hk]
    have hd : l.drop k = l[k] :: l.drop (k + 1) := List.drop_eq_getElem_cons hk
    rw [hd] at ih
    rw [← ih, spS, hg]
    generalize spS q l k = x at *
    obtain ⟨acc, st⟩ := x
    rw [wdsF]
    cases hq : q l[k] with
    | true =>
      cases st with
      | none => simp [stepS, curOf]
      | some a =>
        have hne := curOf_ne (h2 a rfl) (Nat.le_of_lt hk)
        simp [stepS, curOf, hne]
    | false =>
      cases st with
      | none =>
        have e : cutAt l (k, k + 1) = [l[k]] := by
          have := cut_grow (l := l) (Nat.le_refl k) hk
          rw [← this]
          unfold cutAt
          rw [List.drop_of_length_le (by rw [List.length_take]; omega)]
          rfl
        simp [stepS, curOf, e]
      | some a =>
        have e := cut_grow (l := l) (Nat.le_of_lt (h2 a rfl)) hk
        simp [stepS, curOf, e]
theorem wds_F (q : UInt8 → Bool) (l : List UInt8) : wdsQ q l = wdsF q [] l := by
  have h := wds_walk q l l.length (Nat.le_refl _)
  obtain ⟨_, h2, _⟩ := spS_le q l l.length
  rw [List.drop_length, wdsF] at h
  rw [← h]
  unfold wdsQ spansB
  generalize spS q l l.length = x at *
  obtain ⟨acc, st⟩ := x
  cases st with
  | none => simp [stepS, curOf]
  | some a =>
    have hne := curOf_ne (h2 a rfl) (Nat.le_refl _)
    simp [stepS, curOf, hne]
/-- a byte that is part of a word -/
def wordy (x : List UInt8) : Prop := ∀ b ∈ x, blank b = false
theorem wdsF_word : ∀ (x cur r : List UInt8), wordy x → wdsF blank cur (x ++ r) = wdsF blank (cur ++ x) r
  | [], cur, r, _ => by simp
  | b :: x, cur, r, h => by
    rw [List.cons_append, wdsF, h b (by simp), if_neg (by decide), wdsF_word x (cur ++ [b]) r (fun c hc => h c (by simp [hc]))]
    simp
theorem wds_cons {x r : List UInt8} (h : wordy x) (hx : x ≠ []) : wds (x ++ 32 :: r) = x :: wds r := by
  unfold wds
  rw [wds_F, wds_F, wdsF_word x [] _ h, List.nil_append, wdsF, if_pos (by decide), if_neg hx]
theorem wds_one {x : List UInt8} (h : wordy x) (hx : x ≠ []) : wds x = [x] := by
  unfold wds
  have := wdsF_word x [] [] h
  rw [List.append_nil, List.nil_append] at this
  rw [wds_F, this, wdsF, if_neg hx]

/-! ### lines -/
def liny (x : List UInt8) : Prop := ∀ b ∈ x, b ≠ 10
theorem segs_line : ∀ (x r : List UInt8), liny x → segs (x ++ 10 :: r) = x :: segs r
  | [], r, _ => by rw [List.nil_append, segs, if_pos (by decide)]
  | b :: x, r, h => by
    have hb : ¬ ((b == 10) = true) := by simpa using h b (by simp)
    rw [List.cons_append, segs, if_neg hb, segs_line x r (fun c hc => h c (by simp [hc]))]
    rfl
theorem segs_all : ∀ (ls : List (List UInt8)), (∀ x ∈ ls, liny x) → segs (ls.flatMap fun x => x ++ [10]) = ls ++ [[]]
  | [], _ => rfl
  | x :: ls, h => by
    rw [List.flatMap_cons, List.append_assoc, List.singleton_append, segs_line x _ (h x (by simp)), segs_all ls (fun y hy => h y (by simp [hy]))]
    rfl
theorem lns_all {ls : List (List UInt8)} (h : ∀ x ∈ ls, liny x) : lns (ls.flatMap fun x => x ++ [10]) = ls := by
  have hs := segs_all ls h
  have hl := segs_last (ls.flatMap fun x => x ++ [10])
  rw [hs] at hl
  have e : (ls.flatMap fun x => x ++ [10]).drop (lnS (ls.flatMap fun x => x ++ [10]) (ls.flatMap fun x => x ++ [10]).length).2 = [] := by
    rw [show (ls ++ [([] : List UInt8)]).length - 1 = ls.length by simp] at hl
    simpa using hl.symm
  rw [lns_of_empty e, hs]
  simp

/-! ### numerals -/
theorem decDigits_facts : ∀ n : Nat, (∀ b ∈ Lib.decDigits n, isDig b = true) ∧ decV 0 (Lib.decDigits n) = n ∧ 1 ≤ (Lib.decDigits n).length := by
  intro n
  induction n using Nat.strongRecOn with
  | ind n ih =>
    have hd : ∀ k, k < 10 → isDig (UInt8.ofNat (48 + k)) = true ∧ (UInt8.ofNat (48 + k)).toNat = 48 + k := by
      intro k hk
      have : (UInt8.ofNat (48 + k)).toNat = 48 + k := by simp; omega
      exact ⟨isDig_iff.2 (by omega), this⟩
    by_cases h : n < 10
    · rw [Lib.decDigits_one h]
      obtain ⟨a, b⟩ := hd n h
      refine ⟨fun c hc => by rw [List.mem_singleton.1 hc]; exact a, ?_, by simp⟩
      rw [decV_cons, decV_nil, dstep, b]
      omega
    · obtain ⟨h1, h2, h3⟩ := ih (n / 10) (by omega)
      obtain ⟨a, b⟩ := hd (n % 10) (by omega)
      have e : Lib.decDigits n = Lib.decDigits (n / 10) ++ [UInt8.ofNat (48 + n % 10)] := by rw [Lib.decDigits, dif_neg h]
      rw [e]
      refine ⟨fun c hc => ?_, ?_, by simp⟩
      · rcases List.mem_append.1 hc with hc | hc
        · exact h1 c hc
        · rw [List.mem_singleton.1 hc]; exact a
      · rw [decV_snoc, h2, dstep, b]
        omega
theorem decDigits_len : ∀ (k n : Nat), (n < 10 ^ (k + 1) → (Lib.decDigits n).length ≤ k + 1) ∧ (10 ^ (k + 1) ≤ n → k + 1 < (Lib.decDigits n).length)
  | 0, n => by
    constructor
    · intro h
      rw [Lib.decDigits_one (by simpa using h)]
      simp
    · intro h
      have h' : ¬ n < 10 := by simp at h; omega
      rw [show Lib.decDigits n = Lib.decDigits (n / 10) ++ [UInt8.ofNat (48 + n % 10)] by rw [Lib.decDigits, dif_neg h']]
      have := (decDigits_facts (n / 10)).2.2
      simp
      omega
  | k + 1, n => by
    obtain ⟨i1, i2⟩ := decDigits_len k (n / 10)
    have hp : 10 ^ (k + 1 + 1) = 10 ^ (k + 1) * 10 := Nat.pow_succ ..
    constructor
    · intro h
      by_cases h' : n < 10
      · rw [Lib.decDigits_one h']; simp
      · rw [show Lib.decDigits n = Lib.decDigits (n / 10) ++ [UInt8.ofNat (48 + n % 10)] by rw [Lib.decDigits, dif_neg h']]
        have := i1 (by omega)
        simp
        omega
    · intro h
      have hpos : 1 ≤ 10 ^ (k + 1) := Nat.one_le_pow _ _ (by decide)
      have h' : ¬ n < 10 := by omega
      rw [show Lib.decDigits n = Lib.decDigits (n / 10) ++ [UInt8.ofNat (48 + n % 10)] by rw [Lib.decDigits, dif_neg h']]
      have := i2 (by omega)
      simp
      omega
theorem dig_ne45 {b : UInt8} (h : isDig b = true) : b ≠ 45 := by
  rintro rfl
  exact absurd (isDig_iff.1 h).1 (by decide)
theorem itoa_unsig (x : Int) : unsig (Lib.itoa x) = Lib.decDigits x.natAbs ∧ neg1 (Lib.itoa x) = decide (x < 0) := by
  obtain ⟨h1, _, h3⟩ := decDigits_facts x.natAbs
  by_cases hx : x < 0
  · have e : Lib.itoa x = 45 :: Lib.decDigits x.natAbs := by
      have := Lib.itoa_neg x.natAbs (by omega)
      rwa [show -(x.natAbs : Int) = x by omega] at this
    rw [e, neg1_cons, decide_eq_true hx]
    refine ⟨?_, by decide⟩
    unfold unsig Lib.trimPrefix
    rw [show Lib.hasPrefix (45 :: Lib.decDigits x.natAbs) [45] = true from (neg1_cons 45 _).trans (by decide)]
    rfl
  · have e : Lib.itoa x = Lib.decDigits x.natAbs := by
      have := Lib.itoa_nonneg x.natAbs
      rwa [show (x.natAbs : Int) = x by omega] at this
    rw [e, decide_eq_false hx]
    generalize Lib.decDigits x.natAbs = d at *
    cases d with
    | nil => simp at h3
    | cons b r =>
      have hb : (b == 45) = false := by simpa using dig_ne45 (h1 b (by simp))
      refine ⟨?_, (neg1_cons b r).trans hb⟩
      unfold unsig Lib.trimPrefix
      rw [show Lib.hasPrefix (b :: r) [45] = false from (neg1_cons b r).trans hb]
      rfl
theorem itoa_ok {x : Int} (h : x.natAbs ≤ 999999999) : numOk (Lib.itoa x) = true ∧ numV (Lib.itoa x) = x := by
  obtain ⟨h1, h2, h3⟩ := decDigits_facts x.natAbs
  obtain ⟨e1, e2⟩ := itoa_unsig x
  have hl := (decDigits_len 8 x.natAbs).1 (by omega)
  have hok : numOk (Lib.itoa x) = true := by
    unfold numOk
    rw [e1, decide_eq_true h3, decide_eq_true (by omega), List.all_eq_true.2 h1]
    rfl
  refine ⟨hok, ?_⟩
  unfold numV
  rw [hok, e1, e2, h2]
  by_cases hx : x < 0
  · rw [decide_eq_true hx]; simp; omega
  · rw [decide_eq_false hx]; simp; omega
theorem itoa_bad {x : Int} (h : 999999999 < x) : numOk (Lib.itoa x) = false := by
  obtain ⟨e1, _⟩ := itoa_unsig x
  have hl := (decDigits_len 8 x.natAbs).2 (by omega)
  unfold numOk
  rw [e1, decide_eq_false (p := (Lib.decDigits x.natAbs).length ≤ 9) (by omega)]
  simp
theorem itoa_bytes (x : Int) : ∀ b ∈ Lib.itoa x, b = 45 ∨ isDig b = true := by
  obtain ⟨h1, _, _⟩ := decDigits_facts x.natAbs
  intro b hb
  unfold Lib.itoa at hb
  by_cases hx : x < 0
  · have e : Lib.itoa x = 45 :: Lib.decDigits x.natAbs := by
      have := Lib.itoa_neg x.natAbs (by omega)
      rwa [show -(x.natAbs : Int) = x by omega] at this
    have hb' : b ∈ Lib.itoa x := hb
    rw [e] at hb'
    rcases List.mem_cons.1 hb' with h | h
    · exact .inl h
    · exact .inr (h1 b h)
  · have e : Lib.itoa x = Lib.decDigits x.natAbs := by
      have := Lib.itoa_nonneg x.natAbs
      rwa [show (x.natAbs : Int) = x by omega] at this
    have hb' : b ∈ Lib.itoa x := hb
    rw [e] at hb'
    exact .inr (h1 b hb')
theorem itoa_ne (x : Int) : Lib.itoa x ≠ [] := by
  intro e
  obtain ⟨e1, _⟩ := itoa_unsig x
  have h3 := (decDigits_facts x.natAbs).2.2
  rw [e, show unsig [] = [] from rfl] at e1
  rw [← e1] at h3
  simp at h3

theorem blank_dig {b : UInt8} (h : b = 45 ∨ isDig b = true) : blank b = false ∧ b ≠ 10 ∧ (b == 99) = false := by
  rcases h with rfl | h
  · decide
  · have h1 := isDig_iff.1 h
    refine ⟨?_, ?_, ?_⟩
    · rw [blank_R]
      unfold blankR
      simp only [Bool.or_eq_false_iff, beq_eq_false_iff_ne, ne_eq]
      omega
    · rintro rfl
      exact absurd h1.1 (by decide)
    · rw [beq_eq_false_iff_ne]
      rintro rfl
      exact absurd h1.2 (by decide)
theorem itoa_wordy (x : Int) : wordy (Lib.itoa x) := fun b hb => (blank_dig (itoa_bytes x b hb)).1
theorem itoa_liny (x : Int) : liny (Lib.itoa x) := fun b hb => (blank_dig (itoa_bytes x b hb)).2.1
theorem isC_first (b : UInt8) (r : List UInt8) : isC (b :: r) = (b == 99) := by
  unfold isC Lib.hasPrefix
  rw [List.isPrefixOf, List.isPrefixOf, Bool.and_true]
  rw [Bool.eq_iff_iff, beq_iff_eq, beq_iff_eq]
  exact eq_comm

/-! ### the text of clauses, line by line -/
def hline (a n : Int) : List UInt8 := [112] ++ 32 :: ([99, 110, 102] ++ 32 :: (Lib.itoa a ++ 32 :: Lib.itoa n))
def cline (c : List Int) : List UInt8 := c.flatMap xtxt ++ [48]
theorem dtxt_lines (a : Int) (l : List (List Int)) : dtxt a l = (hline a l.length :: l.map cline).flatMap fun x => x ++ [10] := by
  unfold dtxt htxt
  rw [List.flatMap_cons, List.flatMap_map]
  congr 1
  · unfold hline
    simp
  · apply congrArg List.flatten
    apply List.map_congr_left
    intro c _
    unfold ctxt cline
    simp
theorem liny_append {x y : List UInt8} (h : liny x) (k : liny y) : liny (x ++ y) := fun b hb => by
  rcases List.mem_append.1 hb with hb | hb
  · exact h b hb
  · exact k b hb
theorem liny_cons {b : UInt8} {y : List UInt8} (h : b ≠ 10) (k : liny y) : liny (b :: y) := fun c hc => by
  rcases List.mem_cons.1 hc with hc | hc
  · rw [hc]; exact h
  · exact k c hc
theorem hline_liny (a n : Int) : liny (hline a n) := by
  unfold hline
  exact liny_append (by unfold liny; decide) (liny_cons (by decide) (liny_append (by unfold liny; decide) (liny_cons (by decide) (liny_append (itoa_liny a) (liny_cons (by decide) (itoa_liny n))))))
theorem cline_liny : ∀ c : List Int, liny (cline c)
  | [] => by unfold cline liny; decide
  | x :: c => by
    have ih := cline_liny c
    unfold cline at ih ⊢
    rw [List.flatMap_cons, List.append_assoc]
    unfold xtxt at ih ⊢
    rw [List.append_assoc]
    exact liny_append (itoa_liny x) (liny_cons (by decide) ih)
theorem dtxt_lns (a : Int) (l : List (List Int)) : lns (dtxt a l) = hline a l.length :: l.map cline := by
  rw [dtxt_lines]
  refine lns_all fun x hx => ?_
  rcases List.mem_cons.1 hx with rfl | hx
  · exact hline_liny _ _
  · obtain ⟨c, _, rfl⟩ := List.mem_map.1 hx
    exact cline_liny c
theorem hline_wds (a n : Int) : wds (hline a n) = [[112], [99, 110, 102], Lib.itoa a, Lib.itoa n] := by
  unfold hline
  rw [wds_cons (by unfold wordy; decide) (by decide), wds_cons (by unfold wordy; decide) (by decide), wds_cons (itoa_wordy a) (itoa_ne a), wds_one (itoa_wordy n) (itoa_ne n)]
theorem cline_wds : ∀ c : List Int, wds (cline c) = c.map Lib.itoa ++ [[48]]
  | [] => by
    unfold cline
    exact wds_one (by unfold wordy; decide) (by decide)
  | x :: c => by
    have ih := cline_wds c
    have e : cline (x :: c) = Lib.itoa x ++ 32 :: cline c := by
      unfold cline xtxt
      rw [List.flatMap_cons]
      simp
    rw [e, wds_cons (itoa_wordy x) (itoa_ne x), ih]
    rfl
theorem cline_isC : ∀ c : List Int, isC (cline c) = false
  | [] => by decide
  | x :: c => by
    have e : cline (x :: c) = Lib.itoa x ++ 32 :: cline c := by
      unfold cline xtxt
      rw [List.flatMap_cons]
      simp
    rw [e]
    have hb := itoa_bytes x
    have hn := itoa_ne x
    generalize Lib.itoa x = d at *
    cases d with
    | nil => exact absurd rfl hn
    | cons b r =>
      rw [List.cons_append, isC_first]
      exact (blank_dig (hb b (by simp))).2.2
theorem hline_isC (a n : Int) : isC (hline a n) = false := by
  unfold hline
  rw [List.singleton_append, isC_first]
  decide

/-! ### what is read -/
theorem stW_lit {st : St} {x : Int} (hx : x ≠ 0) (h1 : (x.natAbs : Int) ≤ st.atoms) (h2 : st.atoms ≤ 999999999) : stW st (Lib.itoa x) = some ⟨st.head, st.atoms, st.many, st.l, st.now ++ [x], true⟩ := by
  obtain ⟨e1, e2⟩ := itoa_ok (x := x) (by omega)
  unfold stW
  rw [e1, e2, if_neg (by rintro (h | h); cases h; omega), if_pos hx]
theorem stW_end {st : St} (h0 : 0 ≤ st.atoms) (h : (st.l.length : Int) ≠ st.many) : stW st [48] = some ⟨st.head, st.atoms, st.many, st.l ++ [st.now], [], false⟩ := by
  have e1 : numOk [48] = true := by decide
  have e2 : numV [48] = 0 := by decide
  unfold stW
  rw [e1, e2, if_neg (by rintro (h | h); cases h; simp at h; omega), if_neg (by simp), if_neg h]
theorem stWs_clause : ∀ (c : List Int) (st : St), (∀ x ∈ c, x ≠ 0 ∧ (x.natAbs : Int) ≤ st.atoms) → 0 ≤ st.atoms → st.atoms ≤ 999999999 → (st.l.length : Int) ≠ st.many →
    stWs st (c.map Lib.itoa ++ [[48]]) = some ⟨st.head, st.atoms, st.many, st.l ++ [st.now ++ c], [], false⟩
  | [], st, _, h0, _, hm => by
    rw [List.map_nil, List.nil_append, stWs, stW_end h0 hm, List.append_nil]
    rfl
  | x :: c, st, h, h0, h9, hm => by
    obtain ⟨a, b⟩ := h x (by simp)
    rw [List.map_cons, List.cons_append, stWs, stW_lit a b h9]
    simp only
    have ih := stWs_clause c ⟨st.head, st.atoms, st.many, st.l, st.now ++ [x], true⟩ (fun y hy => h y (by simp [hy])) h0 h9 hm
    rw [ih]
    simp
theorem stL_clause {c : List Int} {st : St} (hh : st.head = true) (h : ∀ x ∈ c, x ≠ 0 ∧ (x.natAbs : Int) ≤ st.atoms) (h0 : 0 ≤ st.atoms) (h9 : st.atoms ≤ 999999999) (hm : (st.l.length : Int) ≠ st.many) :
    stL st (cline c) = some ⟨st.head, st.atoms, st.many, st.l ++ [st.now ++ c], [], false⟩ := by
  unfold stL
  rw [cline_isC, cline_wds, if_neg (by rintro (h | h); cases h; simp at h), hh, if_pos rfl, stWs_clause c st h h0 h9 hm, hh]
theorem stL_head {a n : Int} (h0 : 0 ≤ a) (h9 : a ≤ 999999999) (k0 : 0 ≤ n) (k9 : n ≤ 999999999) : stL St.init (hline a n) = some ⟨true, a, n, [], [], false⟩ := by
  obtain ⟨e1, e2⟩ := itoa_ok (x := a) (by omega)
  obtain ⟨e3, e4⟩ := itoa_ok (x := n) (by omega)
  unfold stL
  rw [hline_isC, hline_wds, if_neg (by rintro (h | h); cases h; simp at h), if_neg (by decide)]
  unfold headW
  simp only [e1, e2, e3, e4]
  rw [if_pos ⟨trivial, trivial, trivial, trivial, h0, k0⟩]
theorem stL_headBad {a n : Int} (h9 : 999999999 < a) : stL St.init (hline a n) = none := by
  have e := itoa_bad h9
  unfold stL
  rw [hline_isC, hline_wds, if_neg (by rintro (h | h); cases h; simp at h), if_neg (by decide)]
  unfold headW
  simp only [e]
  rw [if_neg (by simp)]
theorem stLs_clauses {a n : Int} (h0 : 0 ≤ a) (h9 : a ≤ 999999999) : ∀ (l done : List (List Int)) (k : Nat), (∀ c ∈ l, ∀ x ∈ c, x ≠ 0 ∧ (x.natAbs : Int) ≤ a) → ((done.length + l.length : Nat) : Int) = n →
    stLs ⟨true, a, n, done, [], false⟩ k (l.map cline) = .inl ⟨true, a, n, done ++ l, [], false⟩
  | [], done, k, _, _ => by rw [List.map_nil, stLs, List.append_nil]
  | c :: l, done, k, h, hn => by
    have hne : ((done.length : Nat) : Int) ≠ n := by rw [← hn, List.length_cons]; omega
    rw [List.map_cons, stLs, stL_clause rfl (h c (by simp)) h0 h9 hne]
    simp only
    rw [List.nil_append, stLs_clauses h0 h9 l (done ++ [c]) (k + 1) (fun d hd => h d (by simp [hd])) (by rw [← hn]; simp; omega)]
    simp
theorem dim_lits {a : Int} {l : List (List Int)} (h : dimOk a l = true) : 0 ≤ a ∧ ∀ c ∈ l, ∀ x ∈ c, x ≠ 0 ∧ (x.natAbs : Int) ≤ a := by
  unfold dimOk at h
  rw [Bool.and_eq_true] at h
  refine ⟨of_decide_eq_true h.1, fun c hc x hx => ?_⟩
  have h1 := List.all_eq_true.1 h.2 c hc
  unfold clOk at h1
  rw [Bool.and_eq_true] at h1
  have h2 := List.all_eq_true.1 h1.1 x hx
  have h3 : (c.any fun x => decide (a < (x.natAbs : Int))) = false := by simpa using h1.2
  have h4 := (List.any_eq_false.1 h3) x hx
  refine ⟨?_, ?_⟩
  · have := (lit_true h2).1
    simpa using this
  · have : ¬ a < (x.natAbs : Int) := by simpa using h4
    omega
/-- what Dimacs wrote is read again -/
theorem parse_dtxt {a : Int} {l : List (List Int)} (h : dimOk a l = true) (h9 : a ≤ 999999999) (k9 : l.length ≤ 999999999) : parseV (dtxt a l) = (a, l, 0, 0) := by
  obtain ⟨h0, hc⟩ := dim_lits h
  have hs : stLs St.init 0 (lns (dtxt a l)) = .inl ⟨true, a, l.length, l, [], false⟩ := by
    rw [dtxt_lns, stLs, stL_head h0 h9 (by omega) (by omega)]
    simp only
    rw [stLs_clauses h0 h9 l [] 1 hc (by simp)]
    simp
  rw [parseV_end hs, if_neg (by rintro (h | h | h); cases h; cases h; exact h rfl)]
theorem parse_dtxt_bad {a : Int} {l : List (List Int)} (h9 : 999999999 < a) : (parseV (dtxt a l)).2.2.1 = 180 := by
  have hs : stLs St.init 0 (lns (dtxt a l)) = .inr 1 := by
    rw [dtxt_lns, stLs, stL_headBad h9]
  unfold parseV
  rw [hs]
end Go.Proofs.YtafmomlgkehdfaaDoor.F
