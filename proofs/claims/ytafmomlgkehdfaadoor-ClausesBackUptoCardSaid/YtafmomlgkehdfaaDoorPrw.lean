/- The reference's words and lines of a text. Condition: texts of at most 67108864 bytes. -/
import Derived.Test.YtafmomlgkehdfaaDoorPnu
set_option linter.unusedVariables false
set_option linter.unusedSimpArgs false
namespace Go.Proofs.YtafmomlgkehdfaaDoor.F
open Go.RowKit Go.Shelf

theorem info_str : (Tryd.prog.info? 9).map (fun i => (i.zero, i.size, i.bytes)) = some (some (.string ⟨#[]⟩), 1, 16) := by kernel_rfl
/-- 'append(l, s)' of strings -/
theorem push_str {w : World} {B n : Nat} {v : Value} {xs : List (List UInt8)} {x : List UInt8} (hown : OwnL w B 9 1 v n (xs.map sv)) (hn : n ≤ 67108865) (hB : B ≤ w.heap.size) :
    ∃ v' w', (Builtin.append_ #[39, 39] 39 #[v, .slice (some ⟨w.heap.size, 0, none⟩) 1 1]).run Tryd.prog (w.alloc (.cells #[.string ⟨x.toArray⟩] 9)) = .ok v' w' ∧ OwnL w' B 9 1 v' (n + 1) ((xs ++ [x]).map sv) ∧ Soft B v w w' := by
  have h := push_one (ty := 39) (x := sv x) Tryd.underlying39 info_str rfl hown rfl (noU_str x) (fun y hy => by simp [Value.cells] at hy) (by simp only [maxLen]; omega) (by omega) hB
  rwa [List.map_append, List.map_singleton]

/-- the spans behind the first k bytes, where the text's end is a blank -/
def spX (l : List UInt8) : Nat → List (Nat × Nat) × Option Nat
  | 0 => ([], none)
  | k + 1 => stepS (spX l k) k (if k < l.length then blank (l.getD k 0) else true)
theorem spX_eq (l : List UInt8) : ∀ k, k ≤ l.length → spX l k = spS blank l k
  | 0, _ => rfl
  | k + 1, h => by rw [spX, spS, spX_eq l k (by omega), if_pos (by omega)]
theorem spX_end (l : List UInt8) : (spX l (l.length + 1)).1.map (cutAt l) = wds l := by
  rw [spX, spX_eq l l.length (Nat.le_refl _), if_neg (by omega)]
  rfl
def fromI : Option Nat → Int
  | none => -1
  | some a => a
theorem spX_le (l : List UInt8) (k : Nat) (h : k ≤ l.length) : (∀ a, (spX l k).2 = some a → a < k) ∧ (spX l k).1.length ≤ k := by
  obtain ⟨_, h2, h3⟩ := spS_le blank l k
  rw [spX_eq l k h]
  exact ⟨h2, h3⟩
theorem str_cut (l : List UInt8) (a b : Nat) : (⟨l.toArray⟩ : ByteArray).extract a b = ⟨(cutAt l (a, b)).toArray⟩ := by
  apply ByteArray.ext
  rw [ByteArray.data_extract]
  simp [cutAt, List.drop_take]
theorem blank_true {b : UInt8} (h : blank b = true) : ((b.toNat : Int) == 32) = true ∨ (((b.toNat : Int) == 32) = false ∧ ((b.toNat : Int) == 9) = true) ∨ (((b.toNat : Int) == 32) = false ∧ ((b.toNat : Int) == 9) = false ∧ ((b.toNat : Int) == 13) = true) := by
  rw [blank_R] at h
  unfold blankR at h
  simp only [Bool.or_eq_true, beq_iff_eq, beq_eq_false_iff_ne, ne_eq] at h ⊢
  omega
theorem blank_false {b : UInt8} (h : blank b = false) : ((b.toNat : Int) == 32) = false ∧ ((b.toNat : Int) == 9) = false ∧ ((b.toNat : Int) == 13) = false := by
  rw [blank_R] at h
  unfold blankR at h
  simp only [Bool.or_eq_false_iff, beq_eq_false_iff_ne, ne_eq] at h ⊢
  omega

set_option maxHeartbeats 2000000 in
set_option maxRecDepth 100000 in
theorem ref_words (l : List UInt8) (w : World) (hl : l.length ≤ 67108864) :
    Calls Tryd.prog 22 #[.string ⟨l.toArray⟩] w (ToldS w (wds l)) := by
  have hz := str_size l
  have HG := Lib.hid (str_get l)
  have HC := Lib.hid (str_cut l)
  have HE := Lib.hid (spX_end l)
  have HL := Lib.hid (spX_le l)
  have HX := Lib.hid (show ∀ k, spX l (k + 1) = stepS (spX l k) k (if k < l.length then blank (l.getD k 0) else true) from fun k => rfl)
  generalize hS : (⟨l.toArray⟩ : ByteArray) = s at *
  clear hS
  go_enter Tryd.func22, Tryd.ntmps22
  go_wp2
  go_loopg [3, 4, 5] (l.length + 1) (fun gg s3 s4 s5 wr => ∃ (i : Nat) (v : Value) (n : Nat) (acc : List (Nat × Nat)) (st : Option Nat), i ≤ l.length + 1 ∧ l.length + 1 - i ≤ gg ∧ s3 = v ∧ s4 = .int .i64 (fromI st) ∧ s5 = .int .i64 i ∧ Hid (OwnL wr w.heap.size 9 1 v n ((acc.map (cutAt l)).map sv)) ∧ Hid ((acc, st) = spX l i) ∧ Hid (Below w.heap.size w wr))
  case atStart => exact ⟨0, _, 0, [], none, Nat.zero_le _, by omega, rfl, rfl, rfl, OwnL.nil _ _ _ _, rfl, Below.refl _ _⟩
  case round =>
    obtain ⟨i, v, n, acc, st, hi, hg, rfl, rfl, rfl, HO, HS, HB⟩ := hrel
    by_cases hlt : i ≤ l.length
    · have hltz : (i : Int) ≤ (l.length : Int) := by omega
      have hle := HL.out i hlt
      have hst := HX.out i
      rw [← HS.out] at hst
      by_cases heq : i = l.length
      · subst heq
        rw [if_neg (by omega)] at hst
        have hget : True := trivial
        cases st with
        | none =>
          have HS2 := Lib.hid (show (acc, none) = spX l (l.length + 1) from (hst).symm)
          clear HS hst hget
          simp only [fromI]
          go_wp2
          go_roundg (l.length + 1 - (l.length + 1))
          case measure => omega
          case rel => exact ⟨l.length + 1, _, n, acc, none, by omega, by omega, rfl, rfl, by go_num, HO, HS2, HB⟩
        | some a =>
          have hai : a < l.length := hle.1 a (by rw [← HS.out])
          have hnl : n ≤ 67108865 := by
            have h1 := HO.out.1
            have h2 := hle.2
            rw [← HS.out] at h2
            simp at h1 h2
            omega
          have HS2 := Lib.hid (show (acc ++ [(a, l.length)], none) = spX l (l.length + 1) from (hst).symm)
          have hcut := HC.out a l.length
          obtain ⟨v2, W2, hrun, hO2, hS2⟩ := push_str (x := cutAt l (a, l.length)) HO.out hnl HB.out.size
          have HP := Lib.hid hrun
          have HO2 := Lib.hid (show OwnL W2 w.heap.size 9 1 v2 (n + 1) (((acc ++ [(a, l.length)]).map (cutAt l)).map sv) by rw [List.map_append (l₁ := acc), List.map_singleton]; exact hO2)
          have HB2 := Lib.hid (HB.out.trans hS2.below)
          clear HS hst hget hrun hO2 hS2 HO
          generalize cutAt l (a, l.length) = cut at *
          have ha0 : (0 : Int) ≤ (a : Int) := by omega
          simp only [fromI]
          go_wp2_with (refine pushL_ rfl rfl rfl rfl HP.out ?_; clear HP)
          go_roundg (l.length + 1 - (l.length + 1))
          case measure => omega
          case rel => exact ⟨l.length + 1, v2, n + 1, acc ++ [(a, l.length)], none, by omega, by omega, rfl, rfl, by go_num, HO2, HS2, HB2⟩
      · have heqz : ((i : Int) == (l.length : Int)) = false := by rw [beq_eq_false_iff_ne]; omega
        have hi2 : i < s.size := by omega
        have hget := HG.out i hi2
        rw [if_pos (by omega), ← hget] at hst
        generalize hx : s[i]'hi2 = x at *
        cases hb : blank x with
        | true =>
          rw [hb] at hst
          rcases blank_true hb with h1 | ⟨h1, h2⟩ | ⟨h1, h2, h3⟩
          · cases st with
            | none =>
              have HS2 := Lib.hid (show (acc, none) = spX l (i + 1) from (hst).symm)
              clear HS hst hget
              simp only [fromI]
              go_wp2
              go_roundg (l.length + 1 - (i + 1))
              case measure => omega
              case rel => exact ⟨i + 1, _, n, acc, none, by omega, by omega, rfl, rfl, by go_num, HO, HS2, HB⟩
            | some a =>
              have hai : a < i := hle.1 a (by rw [← HS.out])
              have hnl : n ≤ 67108865 := by
                have h1 := HO.out.1
                have h2 := hle.2
                rw [← HS.out] at h2
                simp at h1 h2
                omega
              have HS2 := Lib.hid (show (acc ++ [(a, i)], none) = spX l (i + 1) from (hst).symm)
              have hcut := HC.out a i
              obtain ⟨v2, W2, hrun, hO2, hS2⟩ := push_str (x := cutAt l (a, i)) HO.out hnl HB.out.size
              have HP := Lib.hid hrun
              have HO2 := Lib.hid (show OwnL W2 w.heap.size 9 1 v2 (n + 1) (((acc ++ [(a, i)]).map (cutAt l)).map sv) by rw [List.map_append (l₁ := acc), List.map_singleton]; exact hO2)
              have HB2 := Lib.hid (HB.out.trans hS2.below)
              clear HS hst hget hrun hO2 hS2 HO
              generalize cutAt l (a, i) = cut at *
              have ha0 : (0 : Int) ≤ (a : Int) := by omega
              simp only [fromI]
              go_wp2_with (refine pushL_ rfl rfl rfl rfl HP.out ?_; clear HP)
              go_roundg (l.length + 1 - (i + 1))
              case measure => omega
              case rel => exact ⟨i + 1, v2, n + 1, acc ++ [(a, i)], none, by omega, by omega, rfl, rfl, by go_num, HO2, HS2, HB2⟩
          · cases st with
            | none =>
              have HS2 := Lib.hid (show (acc, none) = spX l (i + 1) from (hst).symm)
              clear HS hst hget
              simp only [fromI]
              go_wp2
              go_roundg (l.length + 1 - (i + 1))
              case measure => omega
              case rel => exact ⟨i + 1, _, n, acc, none, by omega, by omega, rfl, rfl, by go_num, HO, HS2, HB⟩
            | some a =>
              have hai : a < i := hle.1 a (by rw [← HS.out])
              have hnl : n ≤ 67108865 := by
                have h1 := HO.out.1
                have h2 := hle.2
                rw [← HS.out] at h2
                simp at h1 h2
                omega
              have HS2 := Lib.hid (show (acc ++ [(a, i)], none) = spX l (i + 1) from (hst).symm)
              have hcut := HC.out a i
              obtain ⟨v2, W2, hrun, hO2, hS2⟩ := push_str (x := cutAt l (a, i)) HO.out hnl HB.out.size
              have HP := Lib.hid hrun
              have HO2 := Lib.hid (show OwnL W2 w.heap.size 9 1 v2 (n + 1) (((acc ++ [(a, i)]).map (cutAt l)).map sv) by rw [List.map_append (l₁ := acc), List.map_singleton]; exact hO2)
              have HB2 := Lib.hid (HB.out.trans hS2.below)
              clear HS hst hget hrun hO2 hS2 HO
              generalize cutAt l (a, i) = cut at *
              have ha0 : (0 : Int) ≤ (a : Int) := by omega
              simp only [fromI]
              go_wp2_with (refine pushL_ rfl rfl rfl rfl HP.out ?_; clear HP)
              go_roundg (l.length + 1 - (i + 1))
              case measure => omega
              case rel => exact ⟨i + 1, v2, n + 1, acc ++ [(a, i)], none, by omega, by omega, rfl, rfl, by go_num, HO2, HS2, HB2⟩
          · cases st with
            | none =>
              have HS2 := Lib.hid (show (acc, none) = spX l (i + 1) from (hst).symm)
              clear HS hst hget
              simp only [fromI]
              go_wp2
              go_roundg (l.length + 1 - (i + 1))
              case measure => omega
              case rel => exact ⟨i + 1, _, n, acc, none, by omega, by omega, rfl, rfl, by go_num, HO, HS2, HB⟩
            | some a =>
              have hai : a < i := hle.1 a (by rw [← HS.out])
              have hnl : n ≤ 67108865 := by
                have h1 := HO.out.1
                have h2 := hle.2
                rw [← HS.out] at h2
                simp at h1 h2
                omega
              have HS2 := Lib.hid (show (acc ++ [(a, i)], none) = spX l (i + 1) from (hst).symm)
              have hcut := HC.out a i
              obtain ⟨v2, W2, hrun, hO2, hS2⟩ := push_str (x := cutAt l (a, i)) HO.out hnl HB.out.size
              have HP := Lib.hid hrun
              have HO2 := Lib.hid (show OwnL W2 w.heap.size 9 1 v2 (n + 1) (((acc ++ [(a, i)]).map (cutAt l)).map sv) by rw [List.map_append (l₁ := acc), List.map_singleton]; exact hO2)
              have HB2 := Lib.hid (HB.out.trans hS2.below)
              clear HS hst hget hrun hO2 hS2 HO
              generalize cutAt l (a, i) = cut at *
              have ha0 : (0 : Int) ≤ (a : Int) := by omega
              simp only [fromI]
              go_wp2_with (refine pushL_ rfl rfl rfl rfl HP.out ?_; clear HP)
              go_roundg (l.length + 1 - (i + 1))
              case measure => omega
              case rel => exact ⟨i + 1, v2, n + 1, acc ++ [(a, i)], none, by omega, by omega, rfl, rfl, by go_num, HO2, HS2, HB2⟩
        | false =>
          rw [hb] at hst
          obtain ⟨h1, h2, h3⟩ := blank_false hb
          cases st with
          | none =>
            have HS2 := Lib.hid (show (acc, some i) = spX l (i + 1) from (hst).symm)
            clear HS hst hget
            simp only [fromI]
            go_wp2
            go_roundg (l.length + 1 - (i + 1))
            case measure => omega
            case rel => exact ⟨i + 1, _, n, acc, some i, by omega, by omega, rfl, rfl, by go_num, HO, HS2, HB⟩
          | some a =>
            have hai : a < i := hle.1 a (by rw [← HS.out])
            have HS2 := Lib.hid (show (acc, some a) = spX l (i + 1) from (hst).symm)
            have ha0 : (0 : Int) ≤ (a : Int) := by omega
            clear HS hst hget
            simp only [fromI]
            go_wp2
            go_roundg (l.length + 1 - (i + 1))
            case measure => omega
            case rel => exact ⟨i + 1, _, n, acc, some a, by omega, by omega, rfl, rfl, by go_num, HO, HS2, HB⟩
    · have hltz : ¬ (i : Int) ≤ (l.length : Int) := by omega
      have hil : i = l.length + 1 := by omega
      subst hil
      have hS := HS.out
      have hE := HE.out
      rw [← hS] at hE
      have hO := HO.out
      simp only at hE
      rw [hE] at hO
      obtain ⟨A1, c1, rfl, rfl, h1, h2, h3⟩ := hO.strs
      have HR := Lib.hid h3
      clear hS hE hO h3 HO HS
      go_wp2
      go_ret
      exact ⟨_, _, rfl, h1, HR.out, HB.out⟩

theorem lns_end (l : List UInt8) : lns l = (lnS l l.length).1.map (cutAt l) ++ if (lnS l l.length).2 < l.length then [cutAt l ((lnS l l.length).2, l.length)] else [] := by
  unfold lns cutAt
  simp only [List.take_length]

set_option maxHeartbeats 2000000 in
set_option maxRecDepth 100000 in
theorem ref_lines (l : List UInt8) (w : World) (hl : l.length ≤ 67108864) :
    Calls Tryd.prog 21 #[.string ⟨l.toArray⟩] w (ToldS w (lns l)) := by
  have hz := str_size l
  have HG := Lib.hid (str_get l)
  have HC := Lib.hid (str_cut l)
  have HE := Lib.hid (lns_end l)
  have HL := Lib.hid (lnS_le l)
  have HX := Lib.hid (show ∀ k, lnS l (k + 1) = if l.getD k 0 == 10 then ((lnS l k).1 ++ [((lnS l k).2, k)], k + 1) else lnS l k from fun k => rfl)
  generalize hS : (⟨l.toArray⟩ : ByteArray) = s at *
  clear hS
  go_enter Tryd.func21, Tryd.ntmps21
  go_wp2
  go_loopg [3, 4, 5] l.length (fun gg s3 s4 s5 wr => ∃ (i : Nat) (v : Value) (n from' : Nat) (acc : List (Nat × Nat)), i ≤ l.length ∧ l.length - i ≤ gg ∧ s3 = v ∧ s4 = .int .i64 from' ∧ s5 = .int .i64 i ∧ Hid (OwnL wr w.heap.size 9 1 v n ((acc.map (cutAt l)).map sv)) ∧ Hid ((acc, from') = lnS l i) ∧ Hid (Below w.heap.size w wr))
  case atStart => exact ⟨0, _, 0, 0, [], Nat.zero_le _, by omega, rfl, rfl, rfl, OwnL.nil _ _ _ _, rfl, Below.refl _ _⟩
  case round =>
    obtain ⟨i, v, n, a, acc, hi, hg, rfl, rfl, rfl, HO, HS, HB⟩ := hrel
    have hle := HL.out i
    have hnl : n ≤ 67108864 := by
      have h1 := HO.out.1
      have h2 := hle.2.2
      rw [← HS.out] at h2
      simp at h1 h2
      omega
    have hai : a ≤ i := by
      have h2 := hle.2.1
      rw [← HS.out] at h2
      exact h2
    clear hle
    by_cases hlt : i < l.length
    · have hltz : (i : Int) < (l.length : Int) := by omega
      have hi2 : i < s.size := by omega
      have hget := HG.out i hi2
      have hst := HX.out i
      rw [← HS.out, ← hget] at hst
      clear hget HS
      generalize hx : s[i]'hi2 = x at *
      cases hb : x == 10 with
      | false =>
        have h1 : ((x.toNat : Int) == 10) = false := by
          rw [beq_eq_false_iff_ne] at hb ⊢
          intro h
          exact hb (UInt8.toNat_inj.1 (show x.toNat = (10 : UInt8).toNat from Int.ofNat.inj h))
        rw [hb] at hst
        have HS2 := Lib.hid (show (acc, a) = lnS l (i + 1) from hst.symm)
        clear hst hb
        go_wp2
        go_roundg (l.length - (i + 1))
        case measure => omega
        case rel => exact ⟨i + 1, _, n, a, acc, by omega, by omega, rfl, rfl, by go_num, HO, HS2, HB⟩
      | true =>
        have h1 : ((x.toNat : Int) == 10) = true := by
          have := beq_iff_eq.1 hb
          subst this
          rfl
        rw [hb] at hst
        have HS2 := Lib.hid (show (acc ++ [(a, i)], i + 1) = lnS l (i + 1) from hst.symm)
        have hcut := HC.out a i
        obtain ⟨v2, W2, hrun, hO2, hS2⟩ := push_str (x := cutAt l (a, i)) HO.out (by omega) HB.out.size
        have HP := Lib.hid hrun
        have HO2 := Lib.hid (show OwnL W2 w.heap.size 9 1 v2 (n + 1) (((acc ++ [(a, i)]).map (cutAt l)).map sv) by rw [List.map_append (l₁ := acc), List.map_singleton]; exact hO2)
        have HB2 := Lib.hid (HB.out.trans hS2.below)
        clear hst hb hrun hO2 hS2 HO
        generalize cutAt l (a, i) = cut at *
        go_wp2_with (refine pushL_ rfl rfl rfl rfl HP.out ?_; clear HP)
        go_roundg (l.length - (i + 1))
        case measure => omega
        case rel => exact ⟨i + 1, v2, n + 1, i + 1, acc ++ [(a, i)], by omega, by omega, rfl, by go_num, by go_num, HO2, HS2, HB2⟩
    · have hltz : ¬ (i : Int) < (l.length : Int) := by omega
      have hil : i = l.length := by omega
      subst hil
      have hS := HS.out
      have hE := HE.out
      rw [← hS] at hE
      simp only at hE
      by_cases haz : a < l.length
      · have haz' : (a : Int) < (l.length : Int) := by omega
        rw [if_pos haz] at hE
        have hcut := HC.out a l.length
        obtain ⟨v2, W2, hrun, hO2, hS2⟩ := push_str (x := cutAt l (a, l.length)) HO.out (by omega) HB.out.size
        have HP := Lib.hid hrun
        rw [← hE] at hO2
        obtain ⟨A1, c1, rfl, h0, h1, h2, h3⟩ := hO2.strs
        have HR := Lib.hid h3
        have HB2 := Lib.hid (HB.out.trans hS2.below)
        clear hE hO2 h3 HO HS hS hrun hS2
        generalize cutAt l (a, l.length) = cut at *
        go_wp2_with (refine pushL_ rfl rfl rfl rfl HP.out ?_; clear HP)
        go_ret
        exact ⟨_, _, rfl, h1, HR.out, HB2.out⟩
      · have haz' : ¬ (a : Int) < (l.length : Int) := by omega
        rw [if_neg haz, List.append_nil] at hE
        have hO := HO.out
        rw [← hE] at hO
        obtain ⟨A1, c1, rfl, rfl, h1, h2, h3⟩ := hO.strs
        have HR := Lib.hid h3
        clear hS hE hO h3 HO HS
        go_wp2
        go_ret
        exact ⟨_, _, rfl, h1, HR.out, HB.out⟩
end Go.Proofs.YtafmomlgkehdfaaDoor.F
