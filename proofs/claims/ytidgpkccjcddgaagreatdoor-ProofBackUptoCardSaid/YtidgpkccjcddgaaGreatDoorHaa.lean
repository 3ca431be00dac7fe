/- The law ProofPrints. Condition: refutations of weight at most 1048576; the table of powers lies as laid. -/
import Derived.Test.YtidgpkccjcddgaaGreatDoorGz
set_option linter.unusedVariables false
set_option linter.unusedSimpArgs false
namespace Go.Proofs.YtidgpkccjcddgaaGreatDoor.F
open Go.RowKit Go.Shelf Go.Proofs.YtidgpkccjcddgaaGreatDoorW.PrintLast
theorem pow_two9 : ∀ k : Nat, 1 ≤ k → 2 * 10 ^ (9 * k) ≤ 4294967296 ^ k
 | 0, h => by omega
 | 1, _ => by decide
 | k + 2, _ => by
  have ih := pow_two9 (k + 1) (by omega)
  rw [show 9 * (k + 2) = 9 * (k + 1) + 9 by omega, Nat.pow_add, Nat.pow_succ 4294967296]
  have h1 : 2 * (10 ^ (9 * (k + 1)) * 10 ^ 9) = (2 * 10 ^ (9 * (k + 1))) * 10 ^ 9 := by rw [Nat.mul_assoc]
  rw [h1]
  exact Nat.mul_le_mul ih (by decide)
theorem Bp_nat : ∀ k : Nat, Bp k = ((4294967296 ^ k : Nat) : Int)
 | 0 => rfl
 | k + 1 => by
  rw [Bp_succ, Bp_nat k, Nat.pow_succ]
  generalize 4294967296 ^ k = P
  omega
theorem pow_ge (k : Nat) (h : 1 ≤ k) : 4294967296 ≤ 4294967296 ^ k := by
 have := Nat.pow_le_pow_right (show 0 < 4294967296 by decide) h
 rwa [Nat.pow_one] at this
theorem dd_low {n k : Nat} (hk : 1 ≤ k) (h : 4294967296 ^ k ≤ 2 * n) : 9 * k + 1 ≤ (Lib.decDigits n).length := by
 have h1 := pow_two9 k hk
 have h2 := (decDigits_len (9 * k - 1) n).2 (by rw [show 9 * k - 1 + 1 = 9 * k by omega]; omega)
 omega
theorem dg_dd (n : Nat) : 9 * (dg n).length ≤ (Lib.decDigits n).length + 8 := by
 have h1 := (decDigits_facts n).2.2
 rcases Nat.lt_or_ge 1 (dg n).length with h | h
 · obtain ⟨k, hk⟩ : ∃ k, (dg n).length = k + 1 := ⟨(dg n).length - 1, by omega⟩
   have hk1 : 1 ≤ k := by omega
   have hn : 4294967296 ^ k ≤ n := by
    rcases Nat.lt_or_ge n (4294967296 ^ k) with hlt | hge
    · have : (dg n).length ≤ k := dg_length_le (by rw [Bp_nat]; exact Int.ofNat_lt.2 hlt)
      omega
    · exact hge
   have := dd_low hk1 (n := n) (by omega)
   omega
 · omega
theorem itoa_low (x : Int) : (Lib.decDigits x.natAbs).length ≤ (Lib.itoa x).length := by
 by_cases hx : x < 0
 · have e : Lib.itoa x = 45 :: Lib.decDigits x.natAbs := by
    have := Lib.itoa_neg x.natAbs (by omega)
    rwa [show -(x.natAbs : Int) = x by omega] at this
   rw [e, List.length_cons]; omega
 · have e : Lib.itoa x = Lib.decDigits x.natAbs := by
    unfold Lib.itoa
    rw [if_neg hx, show x.toNat = x.natAbs by omega]
   rw [e]; omega
theorem tq_pos (q : Rat) : 1 ≤ (tq q).length := by
 have h1 := itoa_low q.num
 have h2 := (decDigits_facts q.num.natAbs).2.2
 unfold tq
 rw [List.length_append]
 omega
theorem mu_tq (q : Rat) : 9 * mu q ≤ (tq q).length + 8 := by
 have h0 := tq_pos q
 rcases Nat.lt_or_ge 1 (mu q) with h | h
 · obtain ⟨k, hk⟩ : ∃ k, mu q = k + 1 := ⟨mu q - 1, by omega⟩
   have hk1 : 1 ≤ k := by omega
   have hns : ¬ Sz k q := fun hs => by have := mu_le.2 hs; omega
   unfold Sz at hns
   rw [Bp_nat] at hns
   have hD : ∀ n, 4294967296 ^ k ≤ 2 * n → 9 * k + 1 ≤ (Lib.decDigits n).length := fun n h => dd_low hk1 h
   have hpow := pow_ge k hk1
   generalize 4294967296 ^ k = P at *
   have hge : P ≤ q.num.natAbs + q.den := by omega
   have hi := itoa_low q.num
   unfold tq
   rw [List.length_append]
   by_cases hd : q.den = 1
   · have := hD q.num.natAbs (by omega)
     omega
   · rw [if_neg hd, List.length_cons]
     rcases Nat.lt_or_ge (2 * q.num.natAbs) P with h2 | h2
     · have := hD q.den (by omega)
       omega
     · have := hD q.num.natAbs h2
       omega
 · omega
theorem wt_tq (q : Rat) : 9 * wt (canD q) ≤ (tq q).length + 62 := by
 have h1 := dg_dd q.num.natAbs
 have h2 := dg_dd q.den
 have h3 := itoa_low q.num
 have h4 := (decDigits_facts q.den).2.2
 show 9 * ((dg q.num.natAbs).length + (dg q.den).length + 5) ≤ _
 unfold tq
 rw [List.length_append]
 by_cases hd : q.den = 1
 · have : (dg q.den).length ≤ 1 := by rw [hd]; exact dg_length_le (by decide)
   omega
 · rw [if_neg hd, List.length_cons]
   omega
def jn (l : Frm) : Nat := (l.map fun m => (tt m).length + 1).sum
theorem jn_cons (m : Int × Rat) (l : Frm) : jn (m :: l) = (tt m).length + 1 + jn l := by unfold jn; rw [List.map_cons, List.sum_cons]
theorem jn_join : ∀ l : Frm, l ≠ [] → jn l = (joinC 43 (l.map tt)).length + 1
 | [], h => absurd rfl h
 | [m], _ => by simp [jn, joinC]
 | m :: y :: r, _ => by
  have ih := jn_join (y :: r) (by simp)
  rw [jn_cons, ih, List.map_cons (l := y :: r), joinC_cons 43 (l := (y :: r).map tt) (by rw [List.map_cons]; exact List.cons_ne_nil _ _), List.length_append, List.length_cons]
  omega
theorem jn_tf (l : Frm) : jn l ≤ (tf l).length + 1 := by
 by_cases h : l = []
 · subst h; simp [jn]
 · have := jn_join l h
   unfold tf
   rw [if_neg h]
   omega
theorem tt_low (m : Int × Rat) : (tq m.2).length + 3 ≤ (tt m).length := by
 have h1 := itoa_low m.1
 have h2 := (decDigits_facts m.1.natAbs).2.2
 unfold tt
 rw [List.length_append, List.length_cons, List.length_cons]
 omega
theorem jn_len (l : Frm) : 5 * l.length ≤ jn l := by
 induction l with
 | nil => exact Nat.zero_le _
 | cons m l ih =>
  have h1 := tt_low m
  have h2 := tq_pos m.2
  rw [jn_cons, List.length_cons]
  omega
theorem mf_jn (l : Frm) : 9 * mf l ≤ jn l + 13 * l.length := by
 induction l with
 | nil => exact Nat.zero_le _
 | cons m l ih =>
  have h1 := tt_low m
  have h2 := mu_tq m.2
  rw [jn_cons, List.length_cons, mf_cons]
  omega
theorem wtm_jn (l : Frm) : 9 * ((l.map canM).map wtm).sum ≤ jn l + 76 * l.length := by
 induction l with
 | nil => exact Nat.zero_le _
 | cons m l ih =>
  have h1 := tt_low m
  have h2 := wt_tq m.2
  rw [jn_cons, List.length_cons]
  simp only [List.map_cons, List.sum_cons]
  have e : wtm (canM m) = wt (canD m.2) + 2 := rfl
  omega
theorem shp_text {l : Frm} (hn : Nf l) (h : (tf l).length ≤ 1048576) : Shp l := by
 have h1 := jn_tf l
 have h2 := jn_len l
 have h3 := mf_jn l
 have h4 := bot_len l
 refine ⟨hn, by omega, ?_⟩
 refine Nat.le_trans (Nat.mul_le_mul (show l.length ≤ 209715 by omega) (show (dg (bot l)).length + 1 ≤ 209717 by omega)) (by decide)
theorem shp_can {l : Frm} (hn : Nf l) (h : (tf l).length ≤ 1048576) : Shp (nform (fval (l.map canM))) := by
 rw [fval_can, nform_self hn]
 exact shp_text hn h
abbrev tokA (nm : ByteArray) (l : Frm) (q : Rat) (st : Bool) : AtomD := (((nm, l.map canM), canD q), st)
theorem wtAt_text (nm : ByteArray) (l : Frm) (q : Rat) (st : Bool) : 9 * wtAt (tokA nm l q st) ≤ 17 * (tf l).length + (tq q).length + 79 := by
 have h1 := jn_tf l
 have h2 := jn_len l
 have h3 := wtm_jn l
 have h4 := wt_tq q
 show 9 * (((l.map canM).map wtm).sum + wt (canD q)) ≤ _
 omega
theorem good_text {nm : ByteArray} {l : Frm} {q : Rat} {st : Bool} (hc : CanF l) (h1 : (tf l).length ≤ 1048576) (h2 : (tq q).length ≤ 1048576 - (tf l).length) (hn : nm.size ≤ 1048576) (hs : nm.size = 0 ∨ (tf l).length + (tq q).length ≤ 2) : GoodA (tokA nm l q st) where
 good := fun m hm => by
  obtain ⟨x, _, rfl⟩ := List.mem_map.1 hm
  exact good_can x.2
 goodB := good_can q
 var := fun m hm => by
  obtain ⟨x, hx, rfl⟩ := List.mem_map.1 hm
  exact hc.var x hx
 few := by
  have h3 := wtAt_text nm l q st
  unfold wtn
  show nm.size + _ + 4 ≤ _
  omega
 shp := shp_can hc.nf h1
 name := hn
end Go.Proofs.YtidgpkccjcddgaaGreatDoor.F
