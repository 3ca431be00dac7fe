/- The walks of the words and numbers of a line: package clauses' and the reference's. Condition: texts of at most 67108864 bytes. -/
import Derived.Test.YtafmomlgkehdfaaDoorDcl
import Derived.Test.YtafmomlgkehdfaaDoorOsl
import Derived.Test.YtafmomlgkehdfaaDoorPwd
import Derived.Test.YtafmomlgkehdfaaDoorShg
set_option linter.unusedVariables false
set_option linter.unusedSimpArgs false
namespace Go.Proofs.YtafmomlgkehdfaaDoor.F
open Go.RowKit Go.Shelf

theorem words1 (r : Nat) (w : World) : Calls Tryd.prog 47 #[.int .i32 r] w fun e w' => e = .returned (.bool (blankR r)) ∧ ∃ q, w' = w.drewN q := by
  unfold blankR
  by_cases a : r = 32
  · subst a
    go_enter Tryd.func47, Tryd.ntmps47
    go_wp2
    go_ret
    exact ⟨rfl, 0, rfl⟩
  · have a' : (r == 32) = false := by simpa using a
    have a2 : ((r : Int) == 32) = false := by simp; omega
    by_cases b : r = 9
    · subst b
      go_enter Tryd.func47, Tryd.ntmps47
      go_wp2
      go_ret
      exact ⟨rfl, 0, rfl⟩
    · have b' : (r == 9) = false := by simpa using b
      have b2 : ((r : Int) == 9) = false := by simp; omega
      rw [a', b']
      by_cases c : r = 13
      · subst c
        clear a' b'
        go_enter Tryd.func47, Tryd.ntmps47
        go_wp2
        go_ret
        exact ⟨rfl, 0, rfl⟩
      · have c' : (r == 13) = false := by simpa using c
        have c2 : ((r : Int) == 13) = false := by simp; omega
        rw [c']
        clear a' b' c'
        go_enter Tryd.func47, Tryd.ntmps47
        go_wp2
        go_ret
        exact ⟨rfl, 0, rfl⟩

theorem words_pred (w : World) : PredAtRunes Tryd.prog 47 #[] blankR w := fun W x _ _ => words1 x W

/-- strings in a slice of their own -/
def ToldS (w : World) (l : List (List UInt8)) (e : Ending) (w' : World) : Prop := ∃ A c, e = .returned (.slice A l.length c) ∧ l.length ≤ c ∧ StrR 9 w' A l ∧ Below w.heap.size w w'

theorem words (l : List UInt8) (w : World) (hl : l.length ≤ 67108864) : Calls Tryd.prog 33 #[.string ⟨l.toArray⟩] w (ToldS w (wds l)) := by
  have hs : (⟨l.toArray⟩ : ByteArray).size = l.length := by show l.toArray.size = _; simp
  have h := strings_FieldsFunc_runes 47 #[] (enters_of Tryd.func47 (by kernel_rfl) rfl) blankR ⟨l.toArray⟩ w (by omega) (words_pred w)
  rw [fields_wds, List.length_map, List.map_map] at h
  have H := Lib.hid h
  clear h hs
  go_enter Tryd.func33, Tryd.ntmps33
  go_wp2_with fail
  refine H.out.mono ?_
  rintro e w' ⟨A, rfl, h1, h2, h3⟩
  have HR := Lib.hid (show StrR 9 w' (some ⟨A, 0, none⟩) (wds l) from strs_of_owns h2)
  have HB := Lib.hid h3
  clear h1 h2 h3 H
  go_wp2
  go_ret
  exact ⟨_, _, rfl, Nat.le_refl _, HR.out, HB.out⟩

theorem str_size (l : List UInt8) : (⟨l.toArray⟩ : ByteArray).size = l.length := by show l.toArray.size = _; simp
theorem str_get (l : List UInt8) (i : Nat) (h : i < (⟨l.toArray⟩ : ByteArray).size) : (⟨l.toArray⟩ : ByteArray)[i] = l.getD i 0 := by
  rw [str_size] at h
  have e : l.getD i 0 = l[i] := by simp [h]
  rw [e]
  show l.toArray[i] = l[i]
  simp
theorem unsig_nil : unsig [] = [] := rfl
theorem unsig_neg {b : UInt8} {r : List UInt8} (h : b = 45) : unsig (b :: r) = r := by
  subst h
  unfold unsig Lib.trimPrefix
  rw [show Lib.hasPrefix (45 :: r) [45] = true from (neg1_cons 45 r).trans (by decide)]
  rfl
theorem unsig_pos {b : UInt8} {r : List UInt8} (h : b ≠ 45) : unsig (b :: r) = b :: r := by
  unfold unsig Lib.trimPrefix
  rw [show Lib.hasPrefix (b :: r) [45] = false from (neg1_cons b r).trans (by simpa using h)]
  rfl
theorem numOk_short {l : List UInt8} (h : (unsig l).length < 1 ∨ 9 < (unsig l).length) : numOk l = false := by
  unfold numOk
  rcases h with h | h
  · rw [decide_eq_false (by omega)]; rfl
  · rw [decide_eq_false (p := (unsig l).length ≤ 9) (by omega)]; simp
theorem numOk_bad {l : List UInt8} {i : Nat} (hi : i < (unsig l).length) (h : isDig (unsig l)[i] = false) : numOk l = false := by
  have : (unsig l).all isDig = false := by
    rw [List.all_eq_false]
    exact ⟨_, List.getElem_mem hi, by rw [h]; decide⟩
  unfold numOk
  rw [this, Bool.and_false]
theorem numOk_good {l : List UInt8} (h1 : 1 ≤ (unsig l).length) (h2 : (unsig l).length ≤ 9) (h : ∀ b ∈ unsig l, isDig b = true) : numOk l = true := by
  unfold numOk
  rw [decide_eq_true h1, decide_eq_true h2, List.all_eq_true.2 h]; rfl
theorem dig_range {b : UInt8} (h : isDig b = false) : b.toNat < 48 ∨ 57 < b.toNat := by
  have : ¬ (48 ≤ b.toNat ∧ b.toNat ≤ 57) := fun e => by rw [isDig_iff.2 e] at h; cases h
  omega

set_option maxHeartbeats 1000000 in
theorem ref_number (l : List UInt8) (w : World) (hl : l.length ≤ 67108864) :
    Calls Tryd.prog 36 #[.string ⟨l.toArray⟩] w fun e w' => e = .returned (.tuple #[.int .i64 (numV l), .bool (numOk l)]) ∧ w' = w := by
  cases l with
  | nil =>
    go_enter Tryd.func36, Tryd.ntmps36
    go_wp2
    go_ret2
    exact ⟨rfl, rfl⟩
  | cons b r =>
    have hs := str_size (b :: r)
    by_cases hb : b = 45
    · have hp : 0 < (⟨(b :: r).toArray⟩ : ByteArray).size := by rw [hs]; simp
      have h0 := str_get (b :: r) 0 hp
      have hu := unsig_neg (r := r) hb
      have hn : neg1 (b :: r) = true := by rw [neg1_cons, hb]; rfl
      have hx : (((⟨(b :: r).toArray⟩ : ByteArray)[0]'hp).toNat : Int) = 45 := by rw [h0, hb]; rfl
      have hcut : (⟨(b :: r).toArray⟩ : ByteArray).extract 1 (r.length + 1) = ⟨r.toArray⟩ := by
        apply ByteArray.ext
        rw [ByteArray.data_extract]
        simp
      have hr : (⟨(b :: r).toArray⟩ : ByteArray).size = r.length + 1 := by rw [hs]; simp
      have hnv : numOk (b :: r) = true → numV (b :: r) = -(decV 0 r : Int) := fun h => by unfold numV; rw [h, hn, hu]; rfl
      have hgood : 1 ≤ r.length → r.length ≤ 9 → (∀ c ∈ r, isDig c = true) → numOk (b :: r) = true := fun h1 h2 h3 => numOk_good (by rw [hu]; exact h1) (by rw [hu]; exact h2) (by rw [hu]; exact h3)
      have hbad : ∀ i (hi : i < r.length), isDig r[i] = false → numOk (b :: r) = false := fun i hi h => by
        have : isDig ((unsig (b :: r))[i]'(by rw [hu]; exact hi)) = false := by simpa only [hu] using h
        exact numOk_bad _ this
      have hshort : r.length < 1 ∨ 9 < r.length → numOk (b :: r) = false := fun h => numOk_short (by rw [hu]; exact h)
      have hlr : r.length ≤ 67108864 := by simp at hl ⊢; omega
      have HG := Lib.hid (str_get r)
      have HV := Lib.hid (@numV_bad (b :: r))
      have HA := Lib.hid hnv
      have HB := Lib.hid hgood
      have HC := Lib.hid hbad
      have HD := Lib.hid hshort
      have hz : (⟨(r).toArray⟩ : ByteArray).size = r.length := str_size r
      clear hnv hgood hbad hshort h0 hn hu hb hl hs
      generalize numV (b :: r) = nv at *
      generalize numOk (b :: r) = ok at *
      generalize hS : (⟨(b :: r).toArray⟩ : ByteArray) = s at *
      generalize (⟨r.toArray⟩ : ByteArray) = s2 at *
      generalize r = d at *
      clear hS
      go_enter Tryd.func36, Tryd.ntmps36
      by_cases hsh : d.length < 1 ∨ 9 < d.length
      · have hok := HD.out hsh
        subst hok
        have hnv := HV.out rfl
        subst hnv
        rcases hsh with hsh | hsh
        · have hz1 : (d.length : Int) < 1 := by omega
          go_wp2
          go_ret2
          exact ⟨rfl, rfl⟩
        · have hz1 : ¬ (d.length : Int) < 1 := by omega
          have hz2 : (9 : Int) < (d.length : Int) := by omega
          go_wp2
          go_ret2
          exact ⟨rfl, rfl⟩
      · have hz1 : ¬ (d.length : Int) < 1 := by omega
        have hz2 : ¬ (9 : Int) < (d.length : Int) := by omega
        have hd1 : 1 ≤ d.length := by omega
        have hd9 : d.length ≤ 9 := by omega
        clear hsh
        go_wp2
        go_loopg [5, 6] d.length (fun gg s5 s6 wr => ∃ (i n : Nat), i ≤ d.length ∧ d.length - i ≤ gg ∧ s5 = .int .i64 n ∧ s6 = .int .i64 i ∧ wr = w ∧ Hid (∀ c ∈ d.take i, isDig c = true) ∧ Hid (n = decV 0 (d.take i)))
        case atStart => exact ⟨0, 0, Nat.zero_le _, by omega, rfl, rfl, rfl, (show Hid _ from fun c hc => by simp at hc), (show Hid _ from by rw [List.take_zero]; rfl)⟩
        case round =>
          obtain ⟨i, n, hi, hg, rfl, rfl, rfl, HI, HN⟩ := hrel
          by_cases hlt : i < d.length
          · have hltz : (i : Int) < (d.length : Int) := by omega
            have hi2 : i < s2.size := by omega
            have hget : s2[i]'hi2 = d[i] := (HG.out i hi2).trans (by simp [hlt])
            have hbd : isDig d[i] = false → ok = false := HC.out i hlt
            have hnl : n < 10 ^ 8 * 10 := by
              have h1 := decV_lt (d.take i) 0 HI.out
              rw [← HN.out] at h1
              have h2 : 10 ^ (d.take i).length ≤ 10 ^ 9 := Nat.pow_le_pow_right (by decide) (by rw [List.length_take]; omega)
              omega
            have HI2 := Lib.hid (show isDig d[i] = true → ∀ c ∈ d.take (i + 1), isDig c = true from fun h c hc => by
              rw [List.take_succ_eq_append_getElem hlt] at hc
              rcases List.mem_append.1 hc with hc | hc
              · exact HI.out c hc
              · rw [List.mem_singleton.1 hc]; exact h)
            have HN2 := Lib.hid (show dstep n d[i] = decV 0 (d.take (i + 1)) by rw [List.take_succ_eq_append_getElem hlt, decV_snoc, ← HN.out])
            rw [← hget] at hbd HI2 HN2
            clear hget HI HN
            generalize hx : s2[i]'hi2 = x at *
            cases hd : isDig x with
            | false =>
              have hok := hbd hd
              subst hok
              have hnv := HV.out rfl
              subst hnv
              rcases dig_range hd with h | h
              · have h1 : (x.toNat : Int) < 48 := by omega
                go_wp2
                go_ret2
                exact ⟨rfl, rfl⟩
              · have h1 : ¬ (x.toNat : Int) < 48 := by omega
                have h2 : (57 : Int) < (x.toNat : Int) := by omega
                go_wp2
                go_ret2
                exact ⟨rfl, rfl⟩
            | true =>
              have hdg := isDig_iff.1 hd
              have h1 : ¬ (x.toNat : Int) < 48 := by omega
              have h2 : ¬ (57 : Int) < (x.toNat : Int) := by omega
              have HI3 := Lib.hid (HI2.out hd)
              clear hbd HI2
              go_wp2
              go_roundg (d.length - (i + 1))
              case measure => omega
              case rel => exact ⟨i + 1, dstep n x, by omega, by omega, by unfold dstep; go_num, by go_num, rfl, HI3, HN2⟩
          · have hltz : ¬ (i : Int) < (d.length : Int) := by omega
            have hok := HB.out hd1 hd9 (fun c hc => HI.out c (by rw [List.take_of_length_le (by omega)]; exact hc))
            subst hok
            have hnv := HA.out rfl
            have hn := HN.out
            rw [List.take_of_length_le (by omega)] at hn
            rw [← hn] at hnv
            have hnl : n < 10 ^ 8 * 10 := by
              have h1 := decV_lt d 0 (fun c hc => HI.out c (by rw [List.take_of_length_le (by omega)]; exact hc))
              rw [← hn] at h1
              have h2 : 10 ^ d.length ≤ 10 ^ 9 := Nat.pow_le_pow_right (by decide) (by omega)
              omega
            subst hnv
            clear hn
            go_wp2
            go_ret2
            exact ⟨rfl, rfl⟩
    · have hp : 0 < (⟨(b :: r).toArray⟩ : ByteArray).size := by rw [hs]; simp
      have h0 := str_get (b :: r) 0 hp
      have hu := unsig_pos (r := r) hb
      have hn : neg1 (b :: r) = false := by rw [neg1_cons]; simpa using hb
      have hx : ¬ (((⟨(b :: r).toArray⟩ : ByteArray)[0]'hp).toNat : Int) = 45 := by
        rw [h0]
        intro h
        apply hb
        rw [show (b :: r).getD 0 0 = b from rfl] at h
        exact UInt8.toNat_inj.1 (show b.toNat = (45 : UInt8).toNat from Int.ofNat.inj h)
      have hnv : numOk (b :: r) = true → numV (b :: r) = (decV 0 (b :: r) : Int) := fun h => by unfold numV; rw [h, hn, hu]; rfl
      have hgood : 1 ≤ (b :: r).length → (b :: r).length ≤ 9 → (∀ c ∈ (b :: r), isDig c = true) → numOk (b :: r) = true := fun h1 h2 h3 => numOk_good (by rw [hu]; exact h1) (by rw [hu]; exact h2) (by rw [hu]; exact h3)
      have hbad : ∀ i (hi : i < (b :: r).length), isDig (b :: r)[i] = false → numOk (b :: r) = false := fun i hi h => by
        have : isDig ((unsig (b :: r))[i]'(by rw [hu]; exact hi)) = false := by simpa only [hu] using h
        exact numOk_bad _ this
      have hshort : (b :: r).length < 1 ∨ 9 < (b :: r).length → numOk (b :: r) = false := fun h => numOk_short (by rw [hu]; exact h)
      have hlr : (b :: r).length ≤ 67108864 := by simp at hl ⊢; omega
      have HG := Lib.hid (str_get (b :: r))
      have HV := Lib.hid (@numV_bad (b :: r))
      have HA := Lib.hid hnv
      have HB := Lib.hid hgood
      have HC := Lib.hid hbad
      have HD := Lib.hid hshort
      have hz : (⟨((b :: r)).toArray⟩ : ByteArray).size = (b :: r).length := str_size (b :: r)
      clear hnv hgood hbad hshort h0 hn hu hb hl hs
      generalize numV (b :: r) = nv at *
      generalize numOk (b :: r) = ok at *
      generalize hS : (⟨(b :: r).toArray⟩ : ByteArray) = s at *
      generalize b :: r = d at *
      clear hS
      obtain ⟨s2, hs2⟩ : ∃ s2, s = s2 := ⟨_, rfl⟩
      subst hs2
      go_enter Tryd.func36, Tryd.ntmps36
      by_cases hsh : d.length < 1 ∨ 9 < d.length
      · have hok := HD.out hsh
        subst hok
        have hnv := HV.out rfl
        subst hnv
        rcases hsh with hsh | hsh
        · exfalso; omega
        · have hz1 : ¬ (d.length : Int) < 1 := by omega
          have hz2 : (9 : Int) < (d.length : Int) := by omega
          go_wp2
          go_ret2
          exact ⟨rfl, rfl⟩
      · have hz1 : ¬ (d.length : Int) < 1 := by omega
        have hz2 : ¬ (9 : Int) < (d.length : Int) := by omega
        have hd1 : 1 ≤ d.length := by omega
        have hd9 : d.length ≤ 9 := by omega
        clear hsh
        go_wp2
        go_loopg [5, 6] d.length (fun gg s5 s6 wr => ∃ (i n : Nat), i ≤ d.length ∧ d.length - i ≤ gg ∧ s5 = .int .i64 n ∧ s6 = .int .i64 i ∧ wr = w ∧ Hid (∀ c ∈ d.take i, isDig c = true) ∧ Hid (n = decV 0 (d.take i)))
        case atStart => exact ⟨0, 0, Nat.zero_le _, by omega, rfl, rfl, rfl, (show Hid _ from fun c hc => by simp at hc), (show Hid _ from by rw [List.take_zero]; rfl)⟩
        case round =>
          obtain ⟨i, n, hi, hg, rfl, rfl, rfl, HI, HN⟩ := hrel
          by_cases hlt : i < d.length
          · have hltz : (i : Int) < (d.length : Int) := by omega
            have hi2 : i < s.size := by omega
            have hget : s[i]'hi2 = d[i] := (HG.out i hi2).trans (by simp [hlt])
            have hbd : isDig d[i] = false → ok = false := HC.out i hlt
            have hnl : n < 10 ^ 8 * 10 := by
              have h1 := decV_lt (d.take i) 0 HI.out
              rw [← HN.out] at h1
              have h2 : 10 ^ (d.take i).length ≤ 10 ^ 9 := Nat.pow_le_pow_right (by decide) (by rw [List.length_take]; omega)
              omega
            have HI2 := Lib.hid (show isDig d[i] = true → ∀ c ∈ d.take (i + 1), isDig c = true from fun h c hc => by
              rw [List.take_succ_eq_append_getElem hlt] at hc
              rcases List.mem_append.1 hc with hc | hc
              · exact HI.out c hc
              · rw [List.mem_singleton.1 hc]; exact h)
            have HN2 := Lib.hid (show dstep n d[i] = decV 0 (d.take (i + 1)) by rw [List.take_succ_eq_append_getElem hlt, decV_snoc, ← HN.out])
            rw [← hget] at hbd HI2 HN2
            clear hget HI HN
            generalize hx : s[i]'hi2 = x at *
            cases hd : isDig x with
            | false =>
              have hok := hbd hd
              subst hok
              have hnv := HV.out rfl
              subst hnv
              rcases dig_range hd with h | h
              · have h1 : (x.toNat : Int) < 48 := by omega
                go_wp2
                go_ret2
                exact ⟨rfl, rfl⟩
              · have h1 : ¬ (x.toNat : Int) < 48 := by omega
                have h2 : (57 : Int) < (x.toNat : Int) := by omega
                go_wp2
                go_ret2
                exact ⟨rfl, rfl⟩
            | true =>
              have hdg := isDig_iff.1 hd
              have h1 : ¬ (x.toNat : Int) < 48 := by omega
              have h2 : ¬ (57 : Int) < (x.toNat : Int) := by omega
              have HI3 := Lib.hid (HI2.out hd)
              clear hbd HI2
              go_wp2
              go_roundg (d.length - (i + 1))
              case measure => omega
              case rel => exact ⟨i + 1, dstep n x, by omega, by omega, by unfold dstep; go_num, by go_num, rfl, HI3, HN2⟩
          · have hltz : ¬ (i : Int) < (d.length : Int) := by omega
            have hok := HB.out hd1 hd9 (fun c hc => HI.out c (by rw [List.take_of_length_le (by omega)]; exact hc))
            subst hok
            have hnv := HA.out rfl
            have hn := HN.out
            rw [List.take_of_length_le (by omega)] at hn
            rw [← hn] at hnv
            have hnl : n < 10 ^ 8 * 10 := by
              have h1 := decV_lt d 0 (fun c hc => HI.out c (by rw [List.take_of_length_le (by omega)]; exact hc))
              rw [← hn] at h1
              have h2 : 10 ^ d.length ≤ 10 ^ 9 := Nat.pow_le_pow_right (by decide) (by omega)
              omega
            subst hnv
            clear hn
            go_wp2
            go_ret2
            exact ⟨rfl, rfl⟩

/-- clauses.number: TrimPrefix, Trim, Atoi -/
theorem trimPrefix_ (l : List UInt8) (w : World) : Calls Tryd.prog 49 #[.string ⟨l.toArray⟩, .string ⟨#[45]⟩] w fun e w' => e = .returned (.string ⟨(unsig l).toArray⟩) ∧ w' = w := strings_TrimPrefix ⟨l.toArray⟩ ⟨#[45]⟩ w
theorem trim_ (l : List UInt8) (w : World) (hl : l.length ≤ 67108864) : Calls Tryd.prog 50 #[.string ⟨l.toArray⟩, .string ⟨#[48, 49, 50, 51, 52, 53, 54, 55, 56, 57]⟩] w fun e w' => e = .returned (.string ⟨(Lib.trimS l tenB).toArray⟩) ∧ Below w.heap.size w w' :=
  strings_Trim_laid ⟨l.toArray⟩ ⟨#[48, 49, 50, 51, 52, 53, 54, 55, 56, 57]⟩ w (by rw [str_size]; omega) (by decide) (ascii_of_all (by decide))
theorem unsig_le (l : List UInt8) : (unsig l).length ≤ l.length := by
  unfold unsig Lib.trimPrefix
  split
  · rw [List.length_drop]; omega
  · exact Nat.le_refl _
theorem below_bytes (w : World) (e : TypeId) (t : ByteArray) : Below w.heap.size w (Lib.bytesWorld w e t) := ⟨rfl, rfl, rfl, by rw [Lib.bytesWorld_size]; omega, fun k hk => Lib.bytesWorld_at_old w e _ k hk⟩
theorem atoi_ (l : List UInt8) (w : World) (h : numOk l = true) : Calls Tryd.prog 51 #[.string ⟨l.toArray⟩] w fun e w' => e = .returned (.tuple #[.int .i64 (numV l), .nilIface]) ∧ Below w.heap.size w w' := by
  obtain ⟨h1, h2⟩ := atoi_num h
  exact (strconv_Atoi ⟨l.toArray⟩ (numV l) (by rw [str_size]; omega) h1 w).mono fun e w' ⟨he, t, hw⟩ => ⟨he, hw ▸ below_bytes w _ t⟩

set_option maxHeartbeats 1000000 in
set_option maxRecDepth 100000 in
theorem number (l : List UInt8) (w : World) (hl : l.length ≤ 67108864) :
    Calls Tryd.prog 35 #[.string ⟨l.toArray⟩] w fun e w' => e = .returned (.tuple #[.int .i64 (numV l), .bool (numOk l)]) ∧ Below w.heap.size w w' := by
  have HP := Lib.hid (trimPrefix_ l w)
  have hz := str_size (unsig l)
  have hle := unsig_le l
  have HT := Lib.hid (fun W => trim_ (unsig l) W (by omega))
  by_cases hsh : (unsig l).length < 1 ∨ 9 < (unsig l).length
  · have hok := numOk_short hsh
    rw [numV_bad hok, hok]
    clear hok HT
    generalize unsig l = d at *
    generalize hS : (⟨d.toArray⟩ : ByteArray) = s at *
    clear hS
    go_enter Tryd.func35, Tryd.ntmps35
    go_wp2_with fail
    refine HP.out.mono ?_
    rintro e W1 ⟨rfl, rfl⟩
    clear HP
    rcases hsh with hsh | hsh
    · have hz1 : (d.length : Int) < 1 := by omega
      go_wp2
      go_ret2
      exact ⟨rfl, Below.refl _ _⟩
    · have hz1 : ¬ (d.length : Int) < 1 := by omega
      have hz2 : (9 : Int) < (d.length : Int) := by omega
      go_wp2
      go_ret2
      exact ⟨rfl, Below.refl _ _⟩
  · have hz1 : ¬ ((unsig l).length : Int) < 1 := by omega
    have hz2 : ¬ (9 : Int) < ((unsig l).length : Int) := by omega
    cases hd : (unsig l).all isDig with
    | false =>
      have hok : numOk l = false := by unfold numOk; rw [hd, Bool.and_false]
      have htr : Lib.trimS (unsig l) tenB ≠ [] := fun h => by rw [trim_tenB, hd] at h; cases h
      have hq : (⟨(Lib.trimS (unsig l) tenB).toArray⟩ : ByteArray).toList.isEmpty = false := by
        rw [ByteArray.toList_mk]
        simpa using htr
      rw [numV_bad hok, hok]
      clear hok htr hd hsh
      generalize Lib.trimS (unsig l) tenB = tr at *
      generalize unsig l = d at *
      generalize hS : (⟨d.toArray⟩ : ByteArray) = s at *
      generalize hS2 : (⟨tr.toArray⟩ : ByteArray) = s2 at *
      clear hS hS2
      go_enter Tryd.func35, Tryd.ntmps35
      go_wp2_with fail
      refine HP.out.mono ?_
      rintro e W1 ⟨rfl, rfl⟩
      clear HP
      go_wp2_with fail
      refine (HT.out _).mono ?_
      rintro e W2 ⟨rfl, q1⟩
      have HB := Lib.hid q1
      clear q1 HT
      go_wp2
      go_ret2
      exact ⟨rfl, HB.out⟩
    | true =>
      have hok : numOk l = true := numOk_good (by omega) (by omega) (List.all_eq_true.1 hd)
      have htr : Lib.trimS (unsig l) tenB = [] := (trim_tenB _).2 hd
      rw [htr] at HT
      have HA := Lib.hid (fun W => atoi_ l W hok)
      rw [hok]
      clear hok htr hd hsh
      generalize numV l = nv at *
      generalize unsig l = d at *
      generalize hS : (⟨d.toArray⟩ : ByteArray) = s at *
      clear hS
      go_enter Tryd.func35, Tryd.ntmps35
      go_wp2_with fail
      refine HP.out.mono ?_
      rintro e W1 ⟨rfl, rfl⟩
      clear HP
      go_wp2_with fail
      refine (HT.out _).mono ?_
      rintro e W2 ⟨rfl, q1⟩
      have HB := Lib.hid q1
      clear q1 HT
      go_wp2_with fail
      refine (HA.out _).mono ?_
      rintro e W3 ⟨rfl, q1⟩
      replace HB := Lib.hid (HB.out.trans (q1.mono HB.out.size))
      clear q1 HA
      go_wp2
      go_ret2
      exact ⟨rfl, HB.out⟩
end Go.Proofs.YtafmomlgkehdfaaDoor.F
