/- Words, lines and decimal numbers of a text, as plain functions of its bytes; the library's ways (FieldsFunc, Split, Trim, Atoi) come to these. No condition. -/
import Derived.Lib.FieldsP
import Derived.Lib.MapLaws
import Derived.Lib.SplitLaws
import Derived.Lib.SlTrimSet
import Derived.Lib.Strings
import Derived.Lib.Atoi
import Derived.Lib.ItoaMem
import Derived.Lib.IndexMore
import Derived.Lib.IndexLaws
import Derived.Lib.AtoiAllCases
import Derived.Lib.TrimByte
set_option linter.unusedVariables false
set_option linter.unusedSimpArgs false
namespace Go.Proofs.YtidgpkccjcddgaaGreatDoor.F
def cutAt (l : List UInt8) (x : Nat × Nat) : List UInt8 := (l.take x.2).drop x.1
def blank (b : UInt8) : Bool := b == 32 || b == 9 || b == 13
def lnS (l : List UInt8) : Nat → List (Nat × Nat) × Nat
 | 0 => ([], 0)
 | k + 1 => if l.getD k 0 == 10 then ((lnS l k).1 ++ [((lnS l k).2, k)], k + 1) else lnS l k
def lns (l : List UInt8) : List (List UInt8) := (lnS l l.length).1.map (cutAt l) ++ if (lnS l l.length).2 < l.length then [l.drop (lnS l l.length).2] else []
def isDig (b : UInt8) : Bool := decide (48 ≤ b.toNat ∧ b.toNat ≤ 57)
theorem isDig_iff {b : UInt8} : isDig b = true ↔ 48 ≤ b.toNat ∧ b.toNat ≤ 57 := decide_eq_true_iff
def dstep (acc : Nat) (b : UInt8) : Nat := acc * 10 + (b.toNat - 48)
def decV (acc : Nat) (l : List UInt8) : Nat := l.foldl dstep acc
theorem decV_nil (acc : Nat) : decV acc [] = acc := rfl
theorem decV_cons (acc : Nat) (b : UInt8) (r : List UInt8) : decV acc (b :: r) = decV (dstep acc b) r := by unfold decV; rw [List.foldl_cons]
theorem decV_snoc (b : UInt8) (l : List UInt8) (acc : Nat) : decV acc (l ++ [b]) = dstep (decV acc l) b := by
 unfold decV
 rw [List.foldl_append]
 rfl
theorem decV_lt : ∀ (l : List UInt8) (acc : Nat), (∀ b ∈ l, isDig b = true) → decV acc l < (acc + 1) * 10 ^ l.length
 | [], acc, _ => by rw [decV_nil]; simp
 | a :: r, acc, h => by
  have ha := isDig_iff.1 (h a (by simp))
  have ih := decV_lt r (dstep acc a) (fun b hb => h b (by simp [hb]))
  rw [decV_cons, List.length_cons, Nat.pow_succ]
  refine Nat.lt_of_lt_of_le ih ?_
  rw [Nat.mul_comm (10 ^ r.length) 10, ← Nat.mul_assoc]
  exact Nat.mul_le_mul_right _ (by unfold dstep; omega)
def unsig (l : List UInt8) : List UInt8 := Lib.trimPrefix l [45]
def neg1 (l : List UInt8) : Bool := Lib.hasPrefix l [45]
theorem neg1_cons (b : UInt8) (r : List UInt8) : neg1 (b :: r) = (b == 45) := by
 unfold neg1 Lib.hasPrefix
 rw [List.isPrefixOf, List.isPrefixOf, Bool.and_true]
 rw [Bool.eq_iff_iff, beq_iff_eq, beq_iff_eq]
 exact eq_comm
theorem decDigits_facts : ∀ n : Nat, (∀ b ∈ Lib.decDigits n, isDig b = true) ∧ decV 0 (Lib.decDigits n) = n ∧ 1 ≤ (Lib.decDigits n).length := by
 intro n
 induction n using Nat.strongRecOn with
 | ind n ih =>
  have hd : ∀ k, k < 10 → isDig (UInt8.ofNat (48 + k)) = true ∧ (UInt8.ofNat (48 + k)).toNat = 48 + k := by
   intro k hk
   have : (UInt8.ofNat (48 + k)).toNat = 48 + k := by simp; omega
   exact ⟨isDig_iff.2 (by omega), this⟩
  by_cases h : n < 10
  · rw [Lib.decDigits_one h]
    obtain ⟨a, b⟩ := hd n h
    refine ⟨fun c hc => by rw [List.mem_singleton.1 hc]; exact a, ?_, by simp⟩
    rw [decV_cons, decV_nil, dstep, b]
    omega
  · obtain ⟨h1, h2, h3⟩ := ih (n / 10) (by omega)
    obtain ⟨a, b⟩ := hd (n % 10) (by omega)
    have e : Lib.decDigits n = Lib.decDigits (n / 10) ++ [UInt8.ofNat (48 + n % 10)] := by rw [Lib.decDigits, dif_neg h]
    rw [e]
    refine ⟨fun c hc => ?_, ?_, by simp⟩
    · rcases List.mem_append.1 hc with hc | hc
      · exact h1 c hc
      · rw [List.mem_singleton.1 hc]; exact a
    · rw [decV_snoc, h2, dstep, b]
      omega
theorem decDigits_len : ∀ (k n : Nat), (n < 10 ^ (k + 1) → (Lib.decDigits n).length ≤ k + 1) ∧ (10 ^ (k + 1) ≤ n → k + 1 < (Lib.decDigits n).length)
 | 0, n => by
  constructor
  · intro h
    rw [Lib.decDigits_one (by simpa using h)]
    simp
  · intro h
    have h' : ¬ n < 10 := by simp at h; omega
    rw [show Lib.decDigits n = Lib.decDigits (n / 10) ++ [UInt8.ofNat (48 + n % 10)] by rw [Lib.decDigits, dif_neg h']]
    have := (decDigits_facts (n / 10)).2.2
    simp
    omega
 | k + 1, n => by
  obtain ⟨i1, i2⟩ := decDigits_len k (n / 10)
  have hp : 10 ^ (k + 1 + 1) = 10 ^ (k + 1) * 10 := Nat.pow_succ ..
  constructor
  · intro h
    by_cases h' : n < 10
    · rw [Lib.decDigits_one h']; simp
    · rw [show Lib.decDigits n = Lib.decDigits (n / 10) ++ [UInt8.ofNat (48 + n % 10)] by rw [Lib.decDigits, dif_neg h']]
      have := i1 (by omega)
      simp
      omega
  · intro h
    have hpos : 1 ≤ 10 ^ (k + 1) := Nat.one_le_pow _ _ (by decide)
    have h' : ¬ n < 10 := by omega
    rw [show Lib.decDigits n = Lib.decDigits (n / 10) ++ [UInt8.ofNat (48 + n % 10)] by rw [Lib.decDigits, dif_neg h']]
    have := i2 (by omega)
    simp
    omega
theorem dig_ne45 {b : UInt8} (h : isDig b = true) : b ≠ 45 := by
 rintro rfl
 exact absurd (isDig_iff.1 h).1 (by decide)
theorem itoa_unsig (x : Int) : unsig (Lib.itoa x) = Lib.decDigits x.natAbs ∧ neg1 (Lib.itoa x) = decide (x < 0) := by
 obtain ⟨h1, _, h3⟩ := decDigits_facts x.natAbs
 by_cases hx : x < 0
 · have e : Lib.itoa x = 45 :: Lib.decDigits x.natAbs := by
    have := Lib.itoa_neg x.natAbs (by omega)
    rwa [show -(x.natAbs : Int) = x by omega] at this
   rw [e, neg1_cons, decide_eq_true hx]
   refine ⟨?_, by decide⟩
   unfold unsig Lib.trimPrefix
   rw [show Lib.hasPrefix (45 :: Lib.decDigits x.natAbs) [45] = true from (neg1_cons 45 _).trans (by decide)]
   rfl
 · have e : Lib.itoa x = Lib.decDigits x.natAbs := by
    have := Lib.itoa_nonneg x.natAbs
    rwa [show (x.natAbs : Int) = x by omega] at this
   rw [e, decide_eq_false hx]
   generalize Lib.decDigits x.natAbs = d at *
   cases d with
   | nil => simp at h3
   | cons b r =>
    have hb : (b == 45) = false := by simpa using dig_ne45 (h1 b (by simp))
    refine ⟨?_, (neg1_cons b r).trans hb⟩
    unfold unsig Lib.trimPrefix
    rw [show Lib.hasPrefix (b :: r) [45] = false from (neg1_cons b r).trans hb]
    rfl
theorem itoa_bytes (x : Int) : ∀ b ∈ Lib.itoa x, b = 45 ∨ isDig b = true := by
 obtain ⟨h1, _, _⟩ := decDigits_facts x.natAbs
 intro b hb
 unfold Lib.itoa at hb
 by_cases hx : x < 0
 · have e : Lib.itoa x = 45 :: Lib.decDigits x.natAbs := by
    have := Lib.itoa_neg x.natAbs (by omega)
    rwa [show -(x.natAbs : Int) = x by omega] at this
   have hb' : b ∈ Lib.itoa x := hb
   rw [e] at hb'
   rcases List.mem_cons.1 hb' with h | h
   · exact .inl h
   · exact .inr (h1 b h)
 · have e : Lib.itoa x = Lib.decDigits x.natAbs := by
    have := Lib.itoa_nonneg x.natAbs
    rwa [show (x.natAbs : Int) = x by omega] at this
   have hb' : b ∈ Lib.itoa x := hb
   rw [e] at hb'
   exact .inr (h1 b hb')
def tq (q : Rat) : List UInt8 := Lib.itoa q.num ++ if q.den = 1 then [] else 47 :: Lib.decDigits q.den
def tt (m : Int × Rat) : List UInt8 := tq m.2 ++ 42 :: 120 :: Lib.itoa m.1
def joinC (c : UInt8) : List (List UInt8) → List UInt8
 | [] => []
 | [x] => x
 | x :: y :: r => x ++ c :: joinC c (y :: r)
theorem joinC_cons (c : UInt8) {x : List UInt8} {l : List (List UInt8)} (h : l ≠ []) : joinC c (x :: l) = x ++ c :: joinC c l := by
 cases l with
 | nil => exact absurd rfl h
 | cons y r => rfl
theorem joinC_snoc (c : UInt8) (x : List UInt8) : ∀ l : List (List UInt8), joinC c (l ++ [x]) = if l = [] then x else joinC c l ++ c :: x
 | [] => rfl
 | [y] => by simp [joinC]
 | y :: z :: r => by
  have ih := joinC_snoc c x (z :: r)
  rw [if_neg (by simp)] at ih ⊢
  show joinC c (y :: (z :: r ++ [x])) = _
  rw [joinC_cons c (show z :: r ++ [x] ≠ [] by simp), ih, joinC_cons c (show z :: r ≠ [] by simp), List.append_assoc, List.cons_append]
def tf (l : List (Int × Rat)) : List UInt8 := if l = [] then [48] else joinC 43 (l.map tt)
theorem tt_ne (m : Int × Rat) : tt m ≠ [] := by
 unfold tt tq
 simp
theorem joinC_ne {c : UInt8} : ∀ {l : List (List UInt8)}, l ≠ [] → (∀ x ∈ l, x ≠ []) → joinC c l ≠ []
 | [], h, _ => absurd rfl h
 | [x], _, h => h x (by simp)
 | x :: y :: r, _, h => by
  rw [joinC_cons c (by simp)]
  simp
def glueC (b : UInt8) : List (List UInt8) → List (List UInt8)
 | [] => [[b]]
 | x :: xs => (b :: x) :: xs
theorem glueC_ne (b : UInt8) (l : List (List UInt8)) : glueC b l ≠ [] := by cases l <;> simp [glueC]
def segsC (c : UInt8) : List UInt8 → List (List UInt8)
 | [] => [[]]
 | b :: r => if b == c then [] :: segsC c r else glueC b (segsC c r)
theorem segsC_ne (c : UInt8) (l : List UInt8) : segsC c l ≠ [] := by
 cases l with
 | nil => simp [segsC]
 | cons b r =>
  rw [segsC]
  split
  · simp
  · exact glueC_ne _ _
theorem splitK_segsC (c : UInt8) : ∀ l : List UInt8, Lib.splitK [c] 0 (Lib.count l [c]) l = segsC c l
 | [] => by rw [Lib.count_miss (by simp [Lib.index])]; rfl
 | b :: r => by
  have ih := splitK_segsC c r
  by_cases hb : b = c
  · subst hb
    have hix : Lib.index (b :: r) [b] = 0 := by rw [Lib.index]; simp [List.isPrefixOf]
    rw [Lib.count_cons_eq, Nat.add_comm, Lib.splitK, hix, if_neg (by decide), segsC, if_pos (by simp), ← ih]
    rfl
  · have hp : ([c] : List UInt8).isPrefixOf (b :: r) = false := by simp [List.isPrefixOf, Ne.symm hb]
    have hix : Lib.index (b :: r) [c] = if Lib.index r [c] == -1 then -1 else Lib.index r [c] + 1 := by rw [Lib.index, hp]; simp
    rw [Lib.count_cons_ne b c r hb, segsC, if_neg (by simpa using hb)]
    by_cases hm : Lib.index r [c] = -1
    · rw [Lib.count_miss hm] at ih ⊢
      rw [← ih]
      rfl
    · have hge := Lib.index_ge r [c]
      obtain ⟨j, hj⟩ : ∃ j : Nat, Lib.index r [c] = j := ⟨(Lib.index r [c]).toNat, by omega⟩
      have hix' : Lib.index (b :: r) [c] = ((j + 1 : Nat) : Int) := by rw [hix, if_neg (fun e => hm (beq_iff_eq.1 e)), hj]; omega
      rw [Lib.count_hit (by simp) hj, Nat.add_comm] at ih ⊢
      rw [Lib.splitK, hj, if_neg (by have h0 : ¬ (j : Int) = -1 := (by omega); rwa [beq_iff_eq])] at ih
      rw [Lib.splitK, hix', if_neg (by have h0 : ¬ ((j + 1 : Nat) : Int) = -1 := (by omega); rwa [beq_iff_eq]), ← ih]
      simp [glueC]
theorem split_segsC (c : UInt8) (l : List UInt8) : Lib.splitB ⟨#[c]⟩ 0 (Lib.countB ⟨l.toArray⟩ ⟨#[c]⟩) ⟨l.toArray⟩ = (segsC c l).map fun x => ⟨x.toArray⟩ := by
 have h := Lib.splitB_data ⟨#[c]⟩ 0 (Lib.countB ⟨l.toArray⟩ ⟨#[c]⟩) ⟨l.toArray⟩
 have hc : Lib.countB ⟨l.toArray⟩ ⟨#[c]⟩ = Lib.count l [c] := rfl
 rw [hc] at h ⊢
 have h' : (Lib.splitB ⟨#[c]⟩ 0 (Lib.count l [c]) ⟨l.toArray⟩).map (·.data.toList) = segsC c l := h.trans (splitK_segsC c l)
 rw [← h', List.map_map]
 conv => lhs; rw [← List.map_id (Lib.splitB ⟨#[c]⟩ 0 (Lib.count l [c]) ⟨l.toArray⟩)]
 apply List.map_congr_left
 intro x _
 obtain ⟨⟨l⟩⟩ := x
 rfl
theorem segsC_length (c : UInt8) (l : List UInt8) : (segsC c l).length = Lib.count l [c] + 1 := by
 have h2 := Lib.splitB_all ⟨#[c]⟩ (by show 1 ≤ (#[c] : Array UInt8).size; simp) 0 (Lib.countB ⟨l.toArray⟩ ⟨#[c]⟩) ⟨l.toArray⟩ rfl
 rw [split_segsC, List.length_map, show Lib.countB ⟨l.toArray⟩ ⟨#[c]⟩ = Lib.count l [c] from rfl] at h2
 exact h2
def freeC (c : UInt8) (x : List UInt8) : Prop := ∀ b ∈ x, b ≠ c
theorem segsC_free (c : UInt8) : ∀ x : List UInt8, freeC c x → segsC c x = [x]
 | [], _ => rfl
 | b :: x, h => by
  rw [segsC, if_neg (by simpa using h b (by simp)), segsC_free c x (fun d hd => h d (by simp [hd]))]
  rfl
theorem segsC_part (c : UInt8) : ∀ (x r : List UInt8), freeC c x → segsC c (x ++ c :: r) = x :: segsC c r
 | [], r, _ => by rw [List.nil_append, segsC, if_pos (by simp)]
 | b :: x, r, h => by
  have hb : ¬ ((b == c) = true) := by simpa using h b (by simp)
  rw [List.cons_append, segsC, if_neg hb, segsC_part c x r (fun d hd => h d (by simp [hd]))]
  rfl
theorem segsC_join (c : UInt8) : ∀ l : List (List UInt8), l ≠ [] → (∀ x ∈ l, freeC c x) → segsC c (joinC c l) = l
 | [], h, _ => absurd rfl h
 | [x], _, h => segsC_free c x (h x (by simp))
 | x :: y :: r, _, h => by
  rw [joinC_cons c (by simp), segsC_part c x _ (h x (by simp)), segsC_join c (y :: r) (by simp) (fun z hz => h z (by simp [hz]))]
theorem tq_bytes (q : Rat) : ∀ b ∈ tq q, b = 45 ∨ b = 47 ∨ isDig b = true := by
 intro b hb
 unfold tq at hb
 rcases List.mem_append.1 hb with hb | hb
 · rcases itoa_bytes q.num b hb with h | h
   · exact .inl h
   · exact .inr (.inr h)
 · split at hb
   · cases hb
   · rcases List.mem_cons.1 hb with hb | hb
     · exact .inr (.inl hb)
     · exact .inr (.inr ((decDigits_facts q.den).1 b hb))
theorem tt_bytes (m : Int × Rat) : ∀ b ∈ tt m, b = 45 ∨ b = 47 ∨ b = 42 ∨ b = 120 ∨ isDig b = true := by
 intro b hb
 unfold tt at hb
 rcases List.mem_append.1 hb with hb | hb
 · rcases tq_bytes m.2 b hb with h | h | h
   · exact .inl h
   · exact .inr (.inl h)
   · exact .inr (.inr (.inr (.inr h)))
 · rcases List.mem_cons.1 hb with hb | hb
   · exact .inr (.inr (.inl hb))
   · rcases List.mem_cons.1 hb with hb | hb
     · exact .inr (.inr (.inr (.inl hb)))
     · rcases itoa_bytes m.1 b hb with h | h
       · exact .inl h
       · exact .inr (.inr (.inr (.inr h)))
theorem isDig_ne {b c : UInt8} (h : isDig b = true) (hc : isDig c = false) : b ≠ c := by
 rintro rfl
 rw [h] at hc
 cases hc
theorem tt_free (m : Int × Rat) : freeC 43 (tt m) := by
 intro b hb
 rcases tt_bytes m b hb with rfl | rfl | rfl | rfl | h
 · decide
 · decide
 · decide
 · decide
 · exact isDig_ne h (by decide)
theorem tf_segs {l : List (Int × Rat)} (h : l ≠ []) : segsC 43 (tf l) = l.map tt := by
 unfold tf
 rw [if_neg h]
 refine segsC_join 43 _ (by simpa using h) fun x hx => ?_
 obtain ⟨m, _, rfl⟩ := List.mem_map.1 hx
 exact tt_free m
theorem tf_zero {l : List (Int × Rat)} (h : l ≠ []) : tf l ≠ [48] := by
 intro e
 have hs := tf_segs h
 rw [e, segsC_free 43 [48] (by unfold freeC; decide)] at hs
 cases l with
 | nil => exact h rfl
 | cons m r =>
  have hm : tt m = [48] := by simp at hs; exact hs.1.symm
  have hx : (42 : UInt8) ∈ tt m := by unfold tt; simp
  rw [hm] at hx
  revert hx
  decide
theorem dec_head : ∀ n : Nat, 0 < n → (Lib.decDigits n).getD 0 0 ≠ 48 := by
 intro n
 induction n using Nat.strongRecOn with
 | ind n ih =>
  intro hn
  by_cases h : n < 10
  · rw [Lib.decDigits_one h]
    show UInt8.ofNat (48 + n) ≠ 48
    intro e
    have h2 : (UInt8.ofNat (48 + n)).toNat = 48 := by rw [e]; rfl
    rw [UInt8.toNat_ofNat'] at h2
    omega
  · have e : Lib.decDigits n = Lib.decDigits (n / 10) ++ [UInt8.ofNat (48 + n % 10)] := by rw [Lib.decDigits, dif_neg h]
    have h1 := ih (n / 10) (by omega) (by omega)
    have h3 := (decDigits_facts (n / 10)).2.2
    rw [e]
    generalize Lib.decDigits (n / 10) = l at *
    cases l with
    | nil => simp at h3
    | cons b r => simpa using h1
theorem dec_zero : Lib.decDigits 0 = [48] := Lib.decDigits_one (by decide)
def tr (q : Rat) : List UInt8 := Lib.decDigits q.num.natAbs ++ if q.den = 1 then [] else 47 :: Lib.decDigits q.den
theorem itoa_eq (x : Int) : Lib.itoa x = (if x < 0 then [45] else []) ++ Lib.decDigits x.natAbs := by
 unfold Lib.itoa
 by_cases h : x < 0
 · rw [if_pos h, if_pos h]; rfl
 · rw [if_neg h, if_neg h, show x.toNat = x.natAbs by omega]; rfl
theorem tq_eq (q : Rat) : tq q = (if q.num < 0 then [45] else []) ++ tr q := by
 unfold tq tr
 rw [itoa_eq, List.append_assoc]
theorem prefix_one (c : UInt8) (l : List UInt8) : Lib.hasPrefix l [c] = (l.head? == some c) := by
 unfold Lib.hasPrefix
 cases l with
 | nil => rfl
 | cons b r =>
  simp only [List.isPrefixOf, List.head?_cons, Bool.and_true]
  by_cases h : b = c
  · subst h; simp
  · rw [show (c == b) = false by simpa using fun e => h e.symm, show (some b == some c) = false by simpa using h]
theorem dec_not (n : Nat) (r : List UInt8) (c : UInt8) (hc : isDig c = false) : Lib.hasPrefix (Lib.decDigits n ++ r) [c] = false := by
 rw [prefix_one]
 obtain ⟨h1, _, h3⟩ := decDigits_facts n
 generalize Lib.decDigits n = l at *
 cases l with
 | nil => simp at h3
 | cons b t =>
  have hb : b ≠ c := isDig_ne (h1 b (by simp)) hc
  simpa using hb
theorem sign_pre (s : Bool) (n : Nat) (r : List UInt8) : Lib.hasPrefix ((if s = true then [45] else []) ++ (Lib.decDigits n ++ r)) [45] = s ∧ Lib.trimPrefix ((if s = true then [45] else []) ++ (Lib.decDigits n ++ r)) [45] = Lib.decDigits n ++ r := by
 cases s with
 | false =>
  have h := dec_not n r 45 (by decide)
  refine ⟨h, ?_⟩
  unfold Lib.trimPrefix
  rw [show Lib.hasPrefix ((if false = true then [45] else []) ++ (Lib.decDigits n ++ r)) [45] = false from h]
  rfl
 | true =>
  have h : Lib.hasPrefix (45 :: (Lib.decDigits n ++ r)) [45] = true := by rw [prefix_one]; rfl
  refine ⟨h, ?_⟩
  unfold Lib.trimPrefix
  rw [show Lib.hasPrefix ((if true = true then [45] else []) ++ (Lib.decDigits n ++ r)) [45] = true from h]
  rfl
theorem tq_sign (q : Rat) : Lib.hasPrefix (tq q) [45] = decide (q.num < 0) ∧ Lib.trimPrefix (tq q) [45] = tr q := by
 have h := sign_pre (decide (q.num < 0)) q.num.natAbs (if q.den = 1 then [] else 47 :: Lib.decDigits q.den)
 have e : tq q = (if decide (q.num < 0) = true then [45] else []) ++ (Lib.decDigits q.num.natAbs ++ if q.den = 1 then [] else 47 :: Lib.decDigits q.den) := by
  rw [tq_eq]
  by_cases hq : q.num < 0
  · rw [if_pos hq, if_pos (decide_eq_true hq)]; rfl
  · rw [if_neg hq, if_neg (by simpa using hq)]; rfl
 rw [e]
 exact h
theorem noOcc_free {c : UInt8} {p x r : List UInt8} (h : freeC c x) : Lib.NoOcc (x ++ r) (c :: p) x.length := by
 intro j hj
 unfold Lib.occAt
 have e : (x ++ r).drop j = x[j] :: ((x ++ r).drop (j + 1)) := by
  rw [List.drop_eq_getElem_cons (by simp; omega)]
  rw [List.getElem_append_left hj]
 rw [e]
 have hb : (c == x[j]) = false := by
  rw [beq_eq_false_iff_ne]
  exact fun e => h x[j] (List.getElem_mem hj) e.symm
 simp only [List.isPrefixOf, hb, Bool.false_and]
theorem cut_free {c : UInt8} {p x : List UInt8} (h : freeC c x) : Lib.cut x (c :: p) = (x, [], false) := by
 have h1 := noOcc_free (p := p) (r := []) h
 rw [List.append_nil] at h1
 have hi := Lib.index_past (s := x) (sub := c :: p) (i := x.length) (by simp) h1 (by simp)
 unfold Lib.cut
 rw [hi, if_neg (by decide)]
theorem cut_at {c : UInt8} {p x r : List UInt8} (h : freeC c x) : Lib.cut (x ++ (c :: p) ++ r) (c :: p) = (x, r, true) := by
 have h1 := noOcc_free (p := p) (r := (c :: p) ++ r) h
 rw [← List.append_assoc] at h1
 have hi := Lib.index_hit (s := x ++ (c :: p) ++ r) (sub := c :: p) (i := x.length) h1 (by simp) (by
  unfold Lib.occAt
  rw [List.append_assoc, List.drop_left]
  exact List.isPrefixOf_iff_prefix.2 (List.prefix_append _ _))
 unfold Lib.cut
 rw [hi, if_pos (by omega)]
 have e1 : (x ++ (c :: p) ++ r).take ((x.length : Int)).toNat = x := by
  rw [Int.toNat_natCast, List.append_assoc, List.take_left]
 have e2 : (x ++ (c :: p) ++ r).drop (((x.length : Int)).toNat + (c :: p).length) = r := by
  rw [Int.toNat_natCast, ← List.length_append, List.drop_left]
 rw [e1, e2]
theorem dec_free (c : UInt8) (hc : isDig c = false) (n : Nat) : freeC c (Lib.decDigits n) := fun b hb => isDig_ne ((decDigits_facts n).1 b hb) hc
theorem cut_tr_one {q : Rat} (h : q.den = 1) : Lib.cut (tr q) [47] = (tr q, [], false) ∧ tr q = Lib.decDigits q.num.natAbs := by
 have e : tr q = Lib.decDigits q.num.natAbs := by unfold tr; rw [if_pos h, List.append_nil]
 exact ⟨by rw [e]; exact cut_free (dec_free 47 (by decide) _), e⟩
theorem cut_tr_dot {q : Rat} (h : q.den = 1) : Lib.cut (tr q) [46] = (tr q, [], false) := by
 rw [(cut_tr_one h).2]; exact cut_free (dec_free 46 (by decide) _)
theorem cut_tr {q : Rat} (h : q.den ≠ 1) : Lib.cut (tr q) [47] = (Lib.decDigits q.num.natAbs, Lib.decDigits q.den, true) := by
 have e : tr q = Lib.decDigits q.num.natAbs ++ [47] ++ Lib.decDigits q.den := by unfold tr; rw [if_neg h]; simp
 rw [e]
 exact cut_at (p := []) (dec_free 47 (by decide) _)
theorem tq_free42 (q : Rat) : freeC 42 (tq q) := by
 intro b hb
 rcases tq_bytes q b hb with rfl | rfl | h
 · decide
 · decide
 · exact isDig_ne h (by decide)
theorem cut_tt (m : Int × Rat) : Lib.cut (tt m) [42, 120] = (tq m.2, Lib.itoa m.1, true) := by
 have e : tt m = tq m.2 ++ [42, 120] ++ Lib.itoa m.1 := by unfold tt; simp
 rw [e]
 exact cut_at (p := [120]) (tq_free42 _)
theorem dec_inj {m n : Nat} (h : Lib.decDigits m = Lib.decDigits n) : m = n := by
 rw [← (decDigits_facts m).2.1, ← (decDigits_facts n).2.1, h]
theorem itoa_inj {x y : Int} (h : Lib.itoa x = Lib.itoa y) : x = y := by
 obtain ⟨h1, h2⟩ := itoa_unsig x
 obtain ⟨h3, h4⟩ := itoa_unsig y
 rw [h, h3] at h1
 rw [h, h4] at h2
 have := dec_inj h1
 by_cases hx : x < 0 <;> by_cases hy : y < 0 <;> simp [hx, hy] at h2 <;> omega
theorem tq_inj {p q : Rat} (h : tq p = tq q) : p = q := by
 obtain ⟨a1, a2⟩ := tq_sign p
 obtain ⟨b1, b2⟩ := tq_sign q
 rw [h, b1] at a1
 rw [h, b2] at a2
 have hs : (q.num < 0) = (p.num < 0) := by simpa using a1
 by_cases hp : p.den = 1
 · by_cases hq : q.den = 1
   · rw [(cut_tr_one hp).2, (cut_tr_one hq).2] at a2
     have := dec_inj a2
     have hn : p.num = q.num := by
      by_cases h0 : p.num < 0
      · have h1 : q.num < 0 := by rw [hs]; exact h0
        omega
      · have h1 : ¬ q.num < 0 := by rw [hs]; exact h0
        omega
     exact Rat.ext hn (by rw [hp, hq])
   · have c1 := (cut_tr_one hp).1
     rw [← a2, cut_tr hq] at c1
     simp at c1
 · by_cases hq : q.den = 1
   · have c1 := (cut_tr_one hq).1
     rw [a2, cut_tr hp] at c1
     simp at c1
   · have c1 := cut_tr hp
     rw [← a2, cut_tr hq] at c1
     simp only [Prod.mk.injEq, and_true] at c1
     have e1 := dec_inj c1.1
     have e2 := dec_inj c1.2
     have hn : p.num = q.num := by
      by_cases h0 : p.num < 0
      · have h1 : q.num < 0 := by rw [hs]; exact h0
        omega
      · have h1 : ¬ q.num < 0 := by rw [hs]; exact h0
        omega
     exact Rat.ext hn e2.symm
theorem tt_inj {m n : Int × Rat} (h : tt m = tt n) : m = n := by
 have c1 := cut_tt m
 rw [h, cut_tt n] at c1
 simp only [Prod.mk.injEq, and_true] at c1
 exact Prod.ext (itoa_inj c1.2).symm (tq_inj c1.1).symm
theorem map_inj {α β : Type} {f : α → β} (hf : ∀ {a b}, f a = f b → a = b) : ∀ {l m : List α}, l.map f = m.map f → l = m
 | [], [], _ => rfl
 | [], _ :: _, h => by simp at h
 | _ :: _, [], h => by simp at h
 | a :: l, b :: m, h => by
  simp only [List.map_cons, List.cons.injEq] at h
  rw [hf h.1, map_inj hf h.2]
theorem tf_inj {l m : List (Int × Rat)} (h : tf l = tf m) : l = m := by
 by_cases hl : l = []
 · subst hl
   by_cases hm : m = []
   · exact hm.symm
   · exact absurd h.symm (tf_zero hm)
 · by_cases hm : m = []
   · subst hm
     exact absurd h (tf_zero hl)
   · have h1 := tf_segs hl
     rw [h, tf_segs hm] at h1
     exact (map_inj tt_inj h1).symm
theorem decV_ge : ∀ (l : List UInt8) (acc : Nat), acc ≤ decV acc l
 | [], acc => Nat.le_refl _
 | b :: r, acc => by
  rw [decV_cons]
  have := decV_ge r (dstep acc b)
  unfold dstep at this ⊢
  omega
theorem uint_ok : ∀ (l : List UInt8) (acc : Nat), (∀ b ∈ l, isDig b = true) → decV acc l < 18446744073709551616 → Lib.parseUint10 acc l = .ok (decV acc l)
 | [], acc, _, _ => rfl
 | b :: r, acc, h, hv => by
  have hb := isDig_iff.1 (h b (by simp))
  rw [decV_cons] at hv ⊢
  have h1 := decV_ge r (dstep acc b)
  have h2 : dstep acc b = acc * 10 + (b.toNat - 48) := rfl
  rw [Lib.parseUint10, if_pos hb, if_neg (by omega), if_neg (by omega), ← h2]
  exact uint_ok r _ (fun x hx => h x (by simp [hx])) hv
theorem mag_dec (n : Nat) (h : n < 18446744073709551616) : Lib.parseMag (Lib.decDigits n) = .ok n := by
 obtain ⟨h1, h2, h3⟩ := decDigits_facts n
 unfold Lib.parseMag
 rw [if_neg (fun e => by rw [e] at h3; simp at h3), uint_ok _ 0 h1 (by rw [h2]; exact h), h2]
theorem atoi_itoa {x : Int} (h0 : -9223372036854775808 ≤ x) (h1 : x ≤ 9223372036854775807) : Lib.atoiAll (Lib.itoa x) = .ok x := by
 rw [itoa_eq]
 by_cases h : x < 0
 · rw [if_pos h, List.singleton_append, Lib.atoiAll_minus, mag_dec _ (by omega)]
   show (if 9223372036854775808 < x.natAbs then Lib.NumEnd.range else .ok (-(x.natAbs : Int))) = _
   rw [if_neg (by omega)]
   congr 1
   omega
 · rw [if_neg h, List.nil_append]
   obtain ⟨f1, _, f3⟩ := decDigits_facts x.natAbs
   have hm := mag_dec x.natAbs (by omega)
   generalize Lib.decDigits x.natAbs = l at *
   cases l with
   | nil => simp at f3
   | cons b r =>
    have hb := isDig_iff.1 (f1 b (by simp))
    rw [Lib.atoiAll_plain b r (by omega) (by omega), hm]
    show (if 9223372036854775808 ≤ x.natAbs then Lib.NumEnd.range else .ok (x.natAbs : Int)) = _
    rw [if_neg (by omega)]
    congr 1
    omega
end Go.Proofs.YtidgpkccjcddgaaGreatDoor.F
