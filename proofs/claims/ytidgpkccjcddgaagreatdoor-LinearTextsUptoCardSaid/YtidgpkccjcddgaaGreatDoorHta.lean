/- Whole numbers are read: the reference's Parse and Small of layers 1 and 2. Condition: a text of at most 4000000000 bytes. -/
import Derived.Test.YtidgpkccjcddgaaGreatDoorGp
set_option linter.unusedVariables false
set_option linter.unusedSimpArgs false
namespace Go.Proofs.YtidgpkccjcddgaaGreatDoor.F
open Go.RowKit Go.Shelf Go.Proofs.YtidgpkccjcddgaaGreatDoorW.PrintLast

theorem str_size (l : List UInt8) : (⟨l.toArray⟩ : ByteArray).size = l.length := by show l.toArray.size = _; simp
theorem str_get (l : List UInt8) (i : Nat) (h : i < (⟨l.toArray⟩ : ByteArray).size) : (⟨l.toArray⟩ : ByteArray)[i] = l.getD i 0 := by
  rw [str_size] at h
  have e : l.getD i 0 = l[i] := by simp [h]
  rw [e]
  show l.toArray[i] = l[i]
  simp
theorem str_cut (l : List UInt8) (a b : Nat) : (⟨l.toArray⟩ : ByteArray).extract a b = ⟨(cutAt l (a, b)).toArray⟩ := by
  apply ByteArray.ext
  rw [ByteArray.data_extract]
  simp [cutAt, List.drop_take]
theorem str_from (l : List UInt8) (a : Nat) : (⟨l.toArray⟩ : ByteArray).extract a l.length = ⟨(l.drop a).toArray⟩ := by
  rw [str_cut]; unfold cutAt; rw [List.take_of_length_le (Nat.le_refl _)]
theorem str_to (l : List UInt8) (b : Nat) : (⟨l.toArray⟩ : ByteArray).extract 0 b = ⟨(l.take b).toArray⟩ := by
  rw [str_cut]; unfold cutAt; rw [List.drop_zero]
theorem dig_range {b : UInt8} (h : isDig b = false) : b.toNat < 48 ∨ 57 < b.toNat := by
  have : ¬ (48 ≤ b.toNat ∧ b.toNat ≤ 57) := fun e => by rw [isDig_iff.2 e] at h; cases h
  omega
/-- what a reader of whole numbers answers -/
def ToldPI (w : World) (s : List UInt8) (e : Ending) (w' : World) : Prop :=
  (∃ (n : Int) (A : Option Addr) (c : Nat), e = .returned (.tuple #[.agg #[.bool (decide (n < 0)), .slice A (dg n.natAbs).length c], .int .i64 0]) ∧ In w' A c (dg n.natAbs) ∧ (dg n.natAbs).length ≤ s.length + 1 ∧ Below w.heap.size w w' ∧ ∀ m, s = Lib.itoa m → n = m) ∨
  (e = .returned (.tuple #[.agg #[.bool false, .slice none 0 0], .int .i64 15]) ∧ Below w.heap.size w w' ∧ ∀ m, s ≠ Lib.itoa m)
theorem end_intI {w W : World} {bs : List (Nat × List Value)} {g : Nat} {n : Int} {A : Option Addr} {c : Nat} {x y : Value} (h : Fr w W ((g, [x, y]) :: bs)) (hx : ∀ z, Value.int .u32 z ≠ x) (hy : ∀ z, Value.int .u32 z ≠ y) (hg : w.heap.size ≤ g) (hr : In W A c (dg n.natAbs)) {W' : World}
    (hW : W' = (W.setCell ⟨g, 0, none⟩ (.bool (decide (n < 0)))).setCell ⟨g, 1, none⟩ (.slice A (dg n.natAbs).length c)) :
    In W' A c (dg n.natAbs) ∧ Below w.heap.size w W' ∧ Own W' g [.bool (decide (n < 0)), .slice A (dg n.natAbs).length c] := by
  obtain ⟨⟨A', c', he, i1, i2, i3⟩, ho⟩ := end_int h hx hy hg hr.cap hr.row hW
  simp only [Ending.returned.injEq, Value.agg.injEq, Array.mk.injEq, List.cons.injEq, Value.slice.injEq, and_true, true_and] at he
  obtain ⟨rfl, rfl⟩ := he
  exact ⟨In.dg i2 i1, i3, ho⟩
theorem end_noI {w W : World} {bs : List (Nat × List Value)} {g : Nat} {x y : Value} (h : Fr w W ((g, [x, y]) :: bs)) (hg : w.heap.size ≤ g) {W' : World}
    (hW : W' = (W.setCell ⟨g, 0, none⟩ (.bool false)).setCell ⟨g, 1, none⟩ (.slice none 0 0)) : Below w.heap.size w W' ∧ Own W' g [.bool false, .slice none 0 0] := by
  subst hW
  have ho := h.own (List.mem_cons_self ..)
  exact ⟨(h.1.setCell hg _).setCell hg _, (ho.set 0 _).set 1 _⟩
theorem itoa_cons {b : UInt8} {r : List UInt8} {m : Int} (h : b :: r = Lib.itoa m) : (b = 45 ∧ m < 0 ∧ r = Lib.decDigits m.natAbs) ∨ (b ≠ 45 ∧ ¬ m < 0 ∧ b :: r = Lib.decDigits m.natAbs) := by
  rw [itoa_eq] at h
  by_cases hm : m < 0
  · rw [if_pos hm, List.singleton_append, List.cons.injEq] at h
    exact .inl ⟨h.1, hm, h.2⟩
  · rw [if_neg hm, List.nil_append] at h
    refine .inr ⟨fun e => ?_, hm, h⟩
    have := (decDigits_facts m.natAbs).1 b (by rw [← h]; simp)
    exact absurd e (isDig_ne this (by decide))

theorem nOk_dig' {l : List UInt8} (h : nOk l = true) : ∀ b ∈ l, isDig b = true := by
  unfold nOk at h
  simp only [Bool.and_eq_true] at h
  exact List.all_eq_true.1 h.2
set_option maxHeartbeats 8000000 in
set_option maxRecDepth 100000 in
theorem r2_Parse (s : List UInt8) (w : World) (hs : s.length ≤ 4000000000) :
    Calls Tryz.prog 120 #[.string ⟨s.toArray⟩] w (ToldPI w s) := by
  have HF := Lib.hid ((Fr.refl w).box [.bool false, .slice none 0 0] 41)
  by_cases hn0 : s = []
  · subst hn0
    have HX := Lib.hid (show ∀ m, ([] : List UInt8) ≠ Lib.itoa m from fun m h => itoa_ne m h.symm)
    have hf0 := HF.out.frozenN 0 rfl 0
    have hf1 := HF.out.frozenN 0 rfl 1
    have hd0 := HF.out.cellN 0 rfl 0 rfl
    have hd1 := HF.out.cellN 0 rfl 1 rfl
    have HE := Lib.hid (end_noI HF.out (Nat.le_refl _) rfl)
    have HF0 := HF
    clear hs HF
    go_enter Tryz.func120, Tryz.ntmps120
    go_wp2
    first | exact post_ownU HE.out.2 rfl rfl rfl Tryz.underlying41 rfl (by kernel_rfl) (.inr ⟨rfl, HE.out.1, HX.out⟩) | exact post_ownU (HF0.out.ownN 0 rfl) rfl rfl rfl Tryz.underlying41 rfl (by kernel_rfl) (.inr ⟨rfl, HF0.out.bel, HX.out⟩)
  have hp0 : 0 < s.length := List.length_pos_iff.2 hn0
  have hg00 : s.getD 0 0 = s[0] := by simp [hp0]
  by_cases hb : s[0] = 45
  · obtain ⟨r, rfl⟩ : ∃ r, s = 45 :: r := by
      cases s with
      | nil => exact absurd rfl hn0
      | cons b r => exact ⟨r, by rw [show b = 45 from hb]⟩
    have hsz := str_size (45 :: r)
    have hp : 0 < (⟨(45 :: r).toArray⟩ : ByteArray).size := by rw [hsz]; simp
    have h0 := str_get (45 :: r) 0 hp
    have hlen : (45 :: r).length = r.length + 1 := rfl
    rw [hlen] at hs hsz
    have hx : (((⟨(45 :: r).toArray⟩ : ByteArray)[0]'hp).toNat : Int) = 45 := by rw [h0]; rfl
    have hcut : (⟨(45 :: r).toArray⟩ : ByteArray).extract 1 (r.length + 1) = ⟨r.toArray⟩ := str_from (45 :: r) 1
    have HU := Lib.hid (show ∀ m, 45 :: r = Lib.itoa m → r = Lib.decDigits m.natAbs ∧ true = decide (m < 0) ∧ (m.natAbs = 0 → r.length + 1 ≤ 1) from fun m h => by
      rcases itoa_cons h with ⟨_, h1, h2⟩ | ⟨h1, _⟩
      · exact ⟨h2, (decide_eq_true h1).symm, fun e => by omega⟩
      · exact absurd rfl h1)
    have HG := Lib.hid (str_get r)
    have hz : (⟨r.toArray⟩ : ByteArray).size = r.length := str_size r
    clear h0 hb hlen hg00 hp0 hn0
    generalize hS : (⟨(45 :: r).toArray⟩ : ByteArray) = SB at *
    generalize hDB : (⟨r.toArray⟩ : ByteArray) = DB at *
    clear hS
    go_enter Tryz.func120, Tryz.ntmps120
    by_cases hdn : r = []
    · have hdz : ((r.length : Int) == 0) = true := by rw [hdn]; rfl
      have HX := Lib.hid (show ∀ m, (45 :: r) ≠ Lib.itoa m from fun m h => by have h1 := (HU.out m h).1; have h2 := (decDigits_facts m.natAbs).2.2; rw [← h1, hdn] at h2; simp at h2)
      have hf0 := HF.out.frozenN 0 rfl 0
      have hf1 := HF.out.frozenN 0 rfl 1
      have hd0 := HF.out.cellN 0 rfl 0 rfl
      have hd1 := HF.out.cellN 0 rfl 1 rfl
      have HE := Lib.hid (end_noI HF.out (Nat.le_refl _) rfl)
      have HF0 := HF
      clear HU hdn HG HF
      go_wp2
      first | exact post_ownU HE.out.2 rfl rfl rfl Tryz.underlying41 rfl (by kernel_rfl) (.inr ⟨rfl, HE.out.1, HX.out⟩) | exact post_ownU (HF0.out.ownN 0 rfl) rfl rfl rfl Tryz.underlying41 rfl (by kernel_rfl) (.inr ⟨rfl, HF0.out.bel, HX.out⟩)
    have hdp : 0 < r.length := List.length_pos_iff.2 hdn
    have hdz : ((r.length : Int) == 0) = false := by rw [beq_eq_false_iff_ne]; omega
    have hdi : 0 < DB.size := by omega
    have hdx := HG.out 0 hdi
    have hg0 : r.getD 0 0 = r[0] := by simp [hdp]
    rw [hg0] at hdx
    by_cases hz : r[0] = 48 ∧ 1 < r.length + 1
    · have hz1 : (1 : Int) < ((r.length : Int) + 1) := by omega
      have hz2 : ((DB[0]'hdi).toNat : Int) = 48 := by rw [hdx, hz.1]; rfl
      have HX := Lib.hid (show ∀ m, (45 :: r) ≠ Lib.itoa m from fun m h => by
          obtain ⟨h1, _, h3⟩ := HU.out m h
          by_cases hm : m.natAbs = 0
          · exact absurd hz.2 (by have := h3 hm; omega)
          · have h4 := dec_head m.natAbs (by omega)
            rw [← h1, hg0] at h4
            exact h4 hz.1)
      have hf0 := HF.out.frozenN 0 rfl 0
      have hf1 := HF.out.frozenN 0 rfl 1
      have hd0 := HF.out.cellN 0 rfl 0 rfl
      have hd1 := HF.out.cellN 0 rfl 1 rfl
      have HE := Lib.hid (end_noI HF.out (Nat.le_refl _) rfl)
      have HF0 := HF
      clear HU hdn HG hdx hg0 hz HF
      go_wp2
      first | exact post_ownU HE.out.2 rfl rfl rfl Tryz.underlying41 rfl (by kernel_rfl) (.inr ⟨rfl, HE.out.1, HX.out⟩) | exact post_ownU (HF0.out.ownN 0 rfl) rfl rfl rfl Tryz.underlying41 rfl (by kernel_rfl) (.inr ⟨rfl, HF0.out.bel, HX.out⟩)
    have hzz : ((DB[0]'hdi).toNat : Int) ≠ 48 ∨ ¬ (1 : Int) < ((r.length : Int) + 1) := by
      by_cases h1 : r[0] = 48
      · exact .inr (fun h => hz ⟨h1, by omega⟩)
      · refine .inl (fun h => h1 ?_)
        rw [hdx] at h
        exact UInt8.toNat_inj.1 (show r[0].toNat = 48 by omega)
    have HN0 := Lib.hid (show (∀ b ∈ r, isDig b = true) → nOk r = true from fun h => by
      rw [nOk_of hdn (by rw [hg0]; rintro ⟨a, b⟩; exact hz ⟨b, by omega⟩), List.all_eq_true.2 h])
    clear hz hdx hg0 hdn
    have HP := Lib.hid (fun (W : World) => r1_Parse r W (by omega))
    generalize hx0 : ((DB[0]'hdi).toNat : Int) = x0 at *
    have hzc : (x0 == 48) = false ∨ ((x0 == 48) = true ∧ ¬ (1 : Int) < ((r.length : Int) + 1)) := by
      by_cases h : x0 = 48
      · rcases hzz with h1 | h1
        · exact absurd h h1
        · exact .inr ⟨by simpa using h, h1⟩
      · exact .inl (by simpa using h)
    clear hzz
    rcases hzc with hzc | ⟨hzc, hzl⟩
    · go_wp2_with fail
      clear hzc hx0
      go_loopg [6] r.length (fun gg s6 wr => ∃ i : Nat, i + gg = r.length ∧ s6 = .int .i64 i ∧ wr = w.alloc (.cells #[.bool false, .slice none 0 0] 41) ∧ Hid (∀ b ∈ r.take i, isDig b = true))
      case atStart => exact ⟨0, by omega, rfl, rfl, (show Hid _ from fun b hb => by simp at hb)⟩
      case round =>
        obtain ⟨i, hg, rfl, rfl, HI⟩ := hrel
        by_cases hlt : i < r.length
        · have hltz : (i : Int) < (r.length : Int) := by omega
          have hi2 : i < DB.size := by omega
          have hx := HG.out i hi2
          have hgi : r.getD i 0 = r[i] := by simp [hlt]
          rw [hgi] at hx
          have HM := Lib.hid (List.getElem_mem hlt)
          have HT := Lib.hid (List.take_succ_eq_append_getElem hlt)
          clear hgi
          generalize r[i] = y at *
          by_cases hb : isDig y = true
          · have hb1 := (isDig_iff.1 hb).1
            have hb2 := (isDig_iff.1 hb).2
            have HI2 := Lib.hid (show ∀ c ∈ r.take (i + 1), isDig c = true from fun c hc => by
              rw [HT.out] at hc
              rcases List.mem_append.1 hc with hc | hc
              · exact HI.out c hc
              · rw [List.mem_singleton.1 hc]; exact hb)
            have hbz1 : ¬ (y.toNat : Int) < 48 := by omega
            have hbz2 : ¬ (57 : Int) < (y.toNat : Int) := by omega
            clear HM HT HI hb
            go_wp2
            go_roundg (r.length - (i + 1))
            case measure => omega
            case rel => exact ⟨i + 1, by omega, by go_num, rfl, HI2⟩
          · have hbf : isDig y = false := by simpa using hb
            have hbr := dig_range hbf
            have HX := Lib.hid (show ∀ m, (45 :: r) ≠ Lib.itoa m from fun m h => by
              have h1 := (HU.out m h).1
              have h2 := (decDigits_facts m.natAbs).1 y (by rw [← h1]; exact HM.out)
              exact hb h2)
            have hf0 := HF.out.frozenN 0 rfl 0
            have hf1 := HF.out.frozenN 0 rfl 1
            have hd0 := HF.out.cellN 0 rfl 0 rfl
            have hd1 := HF.out.cellN 0 rfl 1 rfl
            have HE := Lib.hid (end_noI HF.out (Nat.le_refl _) rfl)
            have HF0 := HF
            clear HM HT HI hb hbf HU HN0 HP HF
            rcases hbr with hbr | hbr
            · have hbz1 : (y.toNat : Int) < 48 := by omega
              go_wp2
              first | exact post_ownU HE.out.2 rfl rfl rfl Tryz.underlying41 rfl (by kernel_rfl) (.inr ⟨rfl, HE.out.1, HX.out⟩) | exact post_ownU (HF0.out.ownN 0 rfl) rfl rfl rfl Tryz.underlying41 rfl (by kernel_rfl) (.inr ⟨rfl, HF0.out.bel, HX.out⟩)
            · have hbz1 : ¬ (y.toNat : Int) < 48 := by omega
              have hbz2 : (57 : Int) < (y.toNat : Int) := by omega
              go_wp2
              first | exact post_ownU HE.out.2 rfl rfl rfl Tryz.underlying41 rfl (by kernel_rfl) (.inr ⟨rfl, HE.out.1, HX.out⟩) | exact post_ownU (HF0.out.ownN 0 rfl) rfl rfl rfl Tryz.underlying41 rfl (by kernel_rfl) (.inr ⟨rfl, HF0.out.bel, HX.out⟩)
        · have hltz : ¬ (i : Int) < (r.length : Int) := by omega
          have hok := HN0.out (fun b hb => HI.out b (by rw [List.take_of_length_le (by omega)]; exact hb))
          have HOK := Lib.hid hok
          clear HI HN0 hok
          go_wp2_with fail
          rw [← hDB]
          refine (HP.out _).mono ?_
          rintro e W1 (⟨nd, A1, c1, rfl, q1, q2⟩ | ⟨nd, rfl, q2⟩)
          · have hln : (dg (decV 0 r)).length ≤ r.length := dg_decV (nOk_dig' nd)
            have HM := Lib.hid (r2_made true A1 c1 (dg (decV 0 r)) W1 q1 (by omega) (iv true (V (dg (decV 0 r)))) rfl)
            have hna := iv_natAbs (Lim_dg (decV 0 r)) true
            rw [V_dg, Int.toNat_natCast] at hna
            have HQ := Lib.hid (show ∀ m, (45 :: r) = Lib.itoa m → iv true (V (dg (decV 0 r))) = m from fun m h => by
              obtain ⟨h1, h2, _⟩ := HU.out m h
              rw [h1, (decDigits_facts _).2.1, h2, iv_can])
            replace HF := Lib.hid (HF.out.below q2)
            rw [V_dg] at HM HQ
            generalize iv true ((decV 0 r : Nat) : Int) = n at *
            rw [← hna] at hln
            clear q1 q2 HP HU HOK hna
            generalize (dg (decV 0 r)).length = ln at *
            go_wp2_with fail
            refine HM.out.mono ?_
            rintro e W2 ⟨A2, c2, rfl, q1, q2, q3⟩
            replace HF := Lib.hid (HF.out.below q3)
            have hf0 := HF.out.frozenN 0 rfl 0
            have hf1 := HF.out.frozenN 0 rfl 1
            have hd0 := HF.out.cellN 0 rfl 0 rfl
            have hd1 := HF.out.cellN 0 rfl 1 rfl
            have HE := Lib.hid (end_intI HF.out (by simp) (by simp) (Nat.le_refl _) (In.dg q2 q1) rfl)
            have HS := Lib.hid (show (dg n.natAbs).length ≤ (45 :: r).length + 1 by (try simp only [List.length_cons]); omega)
            clear HF q1 q2 q3 HM
            generalize hnb : decide (n < 0) = nb at *
            generalize hnn : (dg n.natAbs).length = nn at *
            go_wp2
            subst hnb hnn
            exact post_ownU HE.out.2.2 rfl rfl rfl Tryz.underlying41 rfl (by kernel_rfl) (.inl ⟨n, _, _, rfl, HE.out.1, HS.out, HE.out.2.1, HQ.out⟩)
          · exact absurd HOK.out (by rw [nd]; decide)
    · exact absurd hdp (by omega)
  · have hsz := str_size s
    have hp : 0 < (⟨s.toArray⟩ : ByteArray).size := by rw [hsz]; exact hp0
    have h0 := str_get s 0 hp
    have hx : ((((⟨s.toArray⟩ : ByteArray)[0]'hp).toNat : Int) == 45) = false := by
      rw [h0, hg00, beq_eq_false_iff_ne]
      intro e
      exact hb (UInt8.toNat_inj.1 (show s[0].toNat = 45 by omega))
    have hcut : (⟨s.toArray⟩ : ByteArray).extract 0 s.length = ⟨s.toArray⟩ := str_from s 0
    have HU := Lib.hid (show ∀ m, s = Lib.itoa m → s = Lib.decDigits m.natAbs ∧ false = decide (m < 0) ∧ (m.natAbs = 0 → s.length ≤ 1) from fun m h => by
      cases s with
      | nil => exact absurd rfl hn0
      | cons b r =>
        rcases itoa_cons h with ⟨h1, _⟩ | ⟨_, h1, h2⟩
        · exact absurd h1 hb
        · exact ⟨h2, (decide_eq_false h1).symm, fun e => by rw [h2, e, dec_zero]; exact Nat.le_refl _⟩)
    clear h0 hb hg00 hp0 hn0
    have HG := Lib.hid (str_get s)
    generalize hDB : (⟨s.toArray⟩ : ByteArray) = DB at *
    go_enter Tryz.func120, Tryz.ntmps120
    by_cases hdn : s = []
    · have hdz : ((s.length : Int) == 0) = true := by rw [hdn]; rfl
      have HX := Lib.hid (show ∀ m, s ≠ Lib.itoa m from fun m h => by have h1 := (HU.out m h).1; have h2 := (decDigits_facts m.natAbs).2.2; rw [← h1, hdn] at h2; simp at h2)
      have hf0 := HF.out.frozenN 0 rfl 0
      have hf1 := HF.out.frozenN 0 rfl 1
      have hd0 := HF.out.cellN 0 rfl 0 rfl
      have hd1 := HF.out.cellN 0 rfl 1 rfl
      have HE := Lib.hid (end_noI HF.out (Nat.le_refl _) rfl)
      have HF0 := HF
      clear HU hdn HG HF
      go_wp2
      first | exact post_ownU HE.out.2 rfl rfl rfl Tryz.underlying41 rfl (by kernel_rfl) (.inr ⟨rfl, HE.out.1, HX.out⟩) | exact post_ownU (HF0.out.ownN 0 rfl) rfl rfl rfl Tryz.underlying41 rfl (by kernel_rfl) (.inr ⟨rfl, HF0.out.bel, HX.out⟩)
    have hdp : 0 < s.length := List.length_pos_iff.2 hdn
    have hdz : ((s.length : Int) == 0) = false := by rw [beq_eq_false_iff_ne]; omega
    have hdi : 0 < DB.size := by omega
    have hdx := HG.out 0 hdi
    have hg0 : s.getD 0 0 = s[0] := by simp [hdp]
    rw [hg0] at hdx
    by_cases hz : s[0] = 48 ∧ 1 < s.length
    · have hz1 : (1 : Int) < (s.length : Int) := by omega
      have hz2 : ((DB[0]'hdi).toNat : Int) = 48 := by rw [hdx, hz.1]; rfl
      have HX := Lib.hid (show ∀ m, s ≠ Lib.itoa m from fun m h => by
          obtain ⟨h1, _, h3⟩ := HU.out m h
          by_cases hm : m.natAbs = 0
          · exact absurd hz.2 (by have := h3 hm; omega)
          · have h4 := dec_head m.natAbs (by omega)
            rw [← h1, hg0] at h4
            exact h4 hz.1)
      have hf0 := HF.out.frozenN 0 rfl 0
      have hf1 := HF.out.frozenN 0 rfl 1
      have hd0 := HF.out.cellN 0 rfl 0 rfl
      have hd1 := HF.out.cellN 0 rfl 1 rfl
      have HE := Lib.hid (end_noI HF.out (Nat.le_refl _) rfl)
      have HF0 := HF
      clear HU hdn HG hdx hg0 hz HF
      go_wp2
      first | exact post_ownU HE.out.2 rfl rfl rfl Tryz.underlying41 rfl (by kernel_rfl) (.inr ⟨rfl, HE.out.1, HX.out⟩) | exact post_ownU (HF0.out.ownN 0 rfl) rfl rfl rfl Tryz.underlying41 rfl (by kernel_rfl) (.inr ⟨rfl, HF0.out.bel, HX.out⟩)
    have hzz : ((DB[0]'hdi).toNat : Int) ≠ 48 ∨ ¬ (1 : Int) < (s.length : Int) := by
      by_cases h1 : s[0] = 48
      · exact .inr (fun h => hz ⟨h1, by omega⟩)
      · refine .inl (fun h => h1 ?_)
        rw [hdx] at h
        exact UInt8.toNat_inj.1 (show s[0].toNat = 48 by omega)
    have HN0 := Lib.hid (show (∀ b ∈ s, isDig b = true) → nOk s = true from fun h => by
      rw [nOk_of hdn (by rw [hg0]; rintro ⟨a, b⟩; exact hz ⟨b, by omega⟩), List.all_eq_true.2 h])
    clear hz hdx hg0 hdn
    have HP := Lib.hid (fun (W : World) => r1_Parse s W (by omega))
    generalize hx0 : ((DB[0]'hdi).toNat : Int) = x0 at *
    have hzc : (x0 == 48) = false ∨ ((x0 == 48) = true ∧ ¬ (1 : Int) < (s.length : Int)) := by
      by_cases h : x0 = 48
      · rcases hzz with h1 | h1
        · exact absurd h h1
        · exact .inr ⟨by simpa using h, h1⟩
      · exact .inl (by simpa using h)
    clear hzz
    rcases hzc with hzc | ⟨hzc, hzl⟩
    · go_wp2_with fail
      clear hzc hx0
      go_loopg [6] s.length (fun gg s6 wr => ∃ i : Nat, i + gg = s.length ∧ s6 = .int .i64 i ∧ wr = w.alloc (.cells #[.bool false, .slice none 0 0] 41) ∧ Hid (∀ b ∈ s.take i, isDig b = true))
      case atStart => exact ⟨0, by omega, rfl, rfl, (show Hid _ from fun b hb => by simp at hb)⟩
      case round =>
        obtain ⟨i, hg, rfl, rfl, HI⟩ := hrel
        by_cases hlt : i < s.length
        · have hltz : (i : Int) < (s.length : Int) := by omega
          have hi2 : i < DB.size := by omega
          have hx := HG.out i hi2
          have hgi : s.getD i 0 = s[i] := by simp [hlt]
          rw [hgi] at hx
          have HM := Lib.hid (List.getElem_mem hlt)
          have HT := Lib.hid (List.take_succ_eq_append_getElem hlt)
          clear hgi
          generalize s[i] = y at *
          by_cases hb : isDig y = true
          · have hb1 := (isDig_iff.1 hb).1
            have hb2 := (isDig_iff.1 hb).2
            have HI2 := Lib.hid (show ∀ c ∈ s.take (i + 1), isDig c = true from fun c hc => by
              rw [HT.out] at hc
              rcases List.mem_append.1 hc with hc | hc
              · exact HI.out c hc
              · rw [List.mem_singleton.1 hc]; exact hb)
            have hbz1 : ¬ (y.toNat : Int) < 48 := by omega
            have hbz2 : ¬ (57 : Int) < (y.toNat : Int) := by omega
            clear HM HT HI hb
            go_wp2
            go_roundg (s.length - (i + 1))
            case measure => omega
            case rel => exact ⟨i + 1, by omega, by go_num, rfl, HI2⟩
          · have hbf : isDig y = false := by simpa using hb
            have hbr := dig_range hbf
            have HX := Lib.hid (show ∀ m, s ≠ Lib.itoa m from fun m h => by
              have h1 := (HU.out m h).1
              have h2 := (decDigits_facts m.natAbs).1 y (by rw [← h1]; exact HM.out)
              exact hb h2)
            have hf0 := HF.out.frozenN 0 rfl 0
            have hf1 := HF.out.frozenN 0 rfl 1
            have hd0 := HF.out.cellN 0 rfl 0 rfl
            have hd1 := HF.out.cellN 0 rfl 1 rfl
            have HE := Lib.hid (end_noI HF.out (Nat.le_refl _) rfl)
            have HF0 := HF
            clear HM HT HI hb hbf HU HN0 HP HF
            rcases hbr with hbr | hbr
            · have hbz1 : (y.toNat : Int) < 48 := by omega
              go_wp2
              first | exact post_ownU HE.out.2 rfl rfl rfl Tryz.underlying41 rfl (by kernel_rfl) (.inr ⟨rfl, HE.out.1, HX.out⟩) | exact post_ownU (HF0.out.ownN 0 rfl) rfl rfl rfl Tryz.underlying41 rfl (by kernel_rfl) (.inr ⟨rfl, HF0.out.bel, HX.out⟩)
            · have hbz1 : ¬ (y.toNat : Int) < 48 := by omega
              have hbz2 : (57 : Int) < (y.toNat : Int) := by omega
              go_wp2
              first | exact post_ownU HE.out.2 rfl rfl rfl Tryz.underlying41 rfl (by kernel_rfl) (.inr ⟨rfl, HE.out.1, HX.out⟩) | exact post_ownU (HF0.out.ownN 0 rfl) rfl rfl rfl Tryz.underlying41 rfl (by kernel_rfl) (.inr ⟨rfl, HF0.out.bel, HX.out⟩)
        · have hltz : ¬ (i : Int) < (s.length : Int) := by omega
          have hok := HN0.out (fun b hb => HI.out b (by rw [List.take_of_length_le (by omega)]; exact hb))
          have HOK := Lib.hid hok
          clear HI HN0 hok
          go_wp2_with fail
          rw [← hDB]
          refine (HP.out _).mono ?_
          rintro e W1 (⟨nd, A1, c1, rfl, q1, q2⟩ | ⟨nd, rfl, q2⟩)
          · have hln : (dg (decV 0 s)).length ≤ s.length := dg_decV (nOk_dig' nd)
            have HM := Lib.hid (r2_made false A1 c1 (dg (decV 0 s)) W1 q1 (by omega) (iv false (V (dg (decV 0 s)))) rfl)
            have hna := iv_natAbs (Lim_dg (decV 0 s)) false
            rw [V_dg, Int.toNat_natCast] at hna
            have HQ := Lib.hid (show ∀ m, s = Lib.itoa m → iv false (V (dg (decV 0 s))) = m from fun m h => by
              obtain ⟨h1, h2, _⟩ := HU.out m h
              rw [h1, (decDigits_facts _).2.1, h2, iv_can])
            replace HF := Lib.hid (HF.out.below q2)
            rw [V_dg] at HM HQ
            generalize iv false ((decV 0 s : Nat) : Int) = n at *
            rw [← hna] at hln
            clear q1 q2 HP HU HOK hna
            generalize (dg (decV 0 s)).length = ln at *
            go_wp2_with fail
            refine HM.out.mono ?_
            rintro e W2 ⟨A2, c2, rfl, q1, q2, q3⟩
            replace HF := Lib.hid (HF.out.below q3)
            have hf0 := HF.out.frozenN 0 rfl 0
            have hf1 := HF.out.frozenN 0 rfl 1
            have hd0 := HF.out.cellN 0 rfl 0 rfl
            have hd1 := HF.out.cellN 0 rfl 1 rfl
            have HE := Lib.hid (end_intI HF.out (by simp) (by simp) (Nat.le_refl _) (In.dg q2 q1) rfl)
            have HS := Lib.hid (show (dg n.natAbs).length ≤ s.length + 1 by (try simp only [List.length_cons]); omega)
            clear HF q1 q2 q3 HM
            generalize hnb : decide (n < 0) = nb at *
            generalize hnn : (dg n.natAbs).length = nn at *
            go_wp2
            subst hnb hnn
            exact post_ownU HE.out.2.2 rfl rfl rfl Tryz.underlying41 rfl (by kernel_rfl) (.inl ⟨n, _, _, rfl, HE.out.1, HS.out, HE.out.2.1, HQ.out⟩)
          · exact absurd HOK.out (by rw [nd]; decide)
    · go_wp2_with fail
      clear hzc hx0
      go_loopg [6] s.length (fun gg s6 wr => ∃ i : Nat, i + gg = s.length ∧ s6 = .int .i64 i ∧ wr = w.alloc (.cells #[.bool false, .slice none 0 0] 41) ∧ Hid (∀ b ∈ s.take i, isDig b = true))
      case atStart => exact ⟨0, by omega, rfl, rfl, (show Hid _ from fun b hb => by simp at hb)⟩
      case round =>
        obtain ⟨i, hg, rfl, rfl, HI⟩ := hrel
        by_cases hlt : i < s.length
        · have hltz : (i : Int) < (s.length : Int) := by omega
          have hi2 : i < DB.size := by omega
          have hx := HG.out i hi2
          have hgi : s.getD i 0 = s[i] := by simp [hlt]
          rw [hgi] at hx
          have HM := Lib.hid (List.getElem_mem hlt)
          have HT := Lib.hid (List.take_succ_eq_append_getElem hlt)
          clear hgi
          generalize s[i] = y at *
          by_cases hb : isDig y = true
          · have hb1 := (isDig_iff.1 hb).1
            have hb2 := (isDig_iff.1 hb).2
            have HI2 := Lib.hid (show ∀ c ∈ s.take (i + 1), isDig c = true from fun c hc => by
              rw [HT.out] at hc
              rcases List.mem_append.1 hc with hc | hc
              · exact HI.out c hc
              · rw [List.mem_singleton.1 hc]; exact hb)
            have hbz1 : ¬ (y.toNat : Int) < 48 := by omega
            have hbz2 : ¬ (57 : Int) < (y.toNat : Int) := by omega
            clear HM HT HI hb
            go_wp2
            go_roundg (s.length - (i + 1))
            case measure => omega
            case rel => exact ⟨i + 1, by omega, by go_num, rfl, HI2⟩
          · have hbf : isDig y = false := by simpa using hb
            have hbr := dig_range hbf
            have HX := Lib.hid (show ∀ m, s ≠ Lib.itoa m from fun m h => by
              have h1 := (HU.out m h).1
              have h2 := (decDigits_facts m.natAbs).1 y (by rw [← h1]; exact HM.out)
              exact hb h2)
            have hf0 := HF.out.frozenN 0 rfl 0
            have hf1 := HF.out.frozenN 0 rfl 1
            have hd0 := HF.out.cellN 0 rfl 0 rfl
            have hd1 := HF.out.cellN 0 rfl 1 rfl
            have HE := Lib.hid (end_noI HF.out (Nat.le_refl _) rfl)
            have HF0 := HF
            clear HM HT HI hb hbf HU HN0 HP HF
            rcases hbr with hbr | hbr
            · have hbz1 : (y.toNat : Int) < 48 := by omega
              go_wp2
              first | exact post_ownU HE.out.2 rfl rfl rfl Tryz.underlying41 rfl (by kernel_rfl) (.inr ⟨rfl, HE.out.1, HX.out⟩) | exact post_ownU (HF0.out.ownN 0 rfl) rfl rfl rfl Tryz.underlying41 rfl (by kernel_rfl) (.inr ⟨rfl, HF0.out.bel, HX.out⟩)
            · have hbz1 : ¬ (y.toNat : Int) < 48 := by omega
              have hbz2 : (57 : Int) < (y.toNat : Int) := by omega
              go_wp2
              first | exact post_ownU HE.out.2 rfl rfl rfl Tryz.underlying41 rfl (by kernel_rfl) (.inr ⟨rfl, HE.out.1, HX.out⟩) | exact post_ownU (HF0.out.ownN 0 rfl) rfl rfl rfl Tryz.underlying41 rfl (by kernel_rfl) (.inr ⟨rfl, HF0.out.bel, HX.out⟩)
        · have hltz : ¬ (i : Int) < (s.length : Int) := by omega
          have hok := HN0.out (fun b hb => HI.out b (by rw [List.take_of_length_le (by omega)]; exact hb))
          have HOK := Lib.hid hok
          clear HI HN0 hok
          go_wp2_with fail
          rw [← hDB]
          refine (HP.out _).mono ?_
          rintro e W1 (⟨nd, A1, c1, rfl, q1, q2⟩ | ⟨nd, rfl, q2⟩)
          · have hln : (dg (decV 0 s)).length ≤ s.length := dg_decV (nOk_dig' nd)
            have HM := Lib.hid (r2_made false A1 c1 (dg (decV 0 s)) W1 q1 (by omega) (iv false (V (dg (decV 0 s)))) rfl)
            have hna := iv_natAbs (Lim_dg (decV 0 s)) false
            rw [V_dg, Int.toNat_natCast] at hna
            have HQ := Lib.hid (show ∀ m, s = Lib.itoa m → iv false (V (dg (decV 0 s))) = m from fun m h => by
              obtain ⟨h1, h2, _⟩ := HU.out m h
              rw [h1, (decDigits_facts _).2.1, h2, iv_can])
            replace HF := Lib.hid (HF.out.below q2)
            rw [V_dg] at HM HQ
            generalize iv false ((decV 0 s : Nat) : Int) = n at *
            rw [← hna] at hln
            clear q1 q2 HP HU HOK hna
            generalize (dg (decV 0 s)).length = ln at *
            go_wp2_with fail
            refine HM.out.mono ?_
            rintro e W2 ⟨A2, c2, rfl, q1, q2, q3⟩
            replace HF := Lib.hid (HF.out.below q3)
            have hf0 := HF.out.frozenN 0 rfl 0
            have hf1 := HF.out.frozenN 0 rfl 1
            have hd0 := HF.out.cellN 0 rfl 0 rfl
            have hd1 := HF.out.cellN 0 rfl 1 rfl
            have HE := Lib.hid (end_intI HF.out (by simp) (by simp) (Nat.le_refl _) (In.dg q2 q1) rfl)
            have HS := Lib.hid (show (dg n.natAbs).length ≤ s.length + 1 by (try simp only [List.length_cons]); omega)
            clear HF q1 q2 q3 HM
            generalize hnb : decide (n < 0) = nb at *
            generalize hnn : (dg n.natAbs).length = nn at *
            go_wp2
            subst hnb hnn
            exact post_ownU HE.out.2.2 rfl rfl rfl Tryz.underlying41 rfl (by kernel_rfl) (.inl ⟨n, _, _, rfl, HE.out.1, HS.out, HE.out.2.1, HQ.out⟩)
          · exact absurd HOK.out (by rw [nd]; decide)

theorem or_shift32 {r x : Int} (h0 : 0 ≤ r) (h1 : r < 4294967296) (x0 : 0 ≤ x) (x1 : x < 4294967296) : bits BinOp.or IntKind.u64 (r * 4294967296) x = r * 4294967296 + x := by
  rw [u64_or _ _ (by omega) (by omega) (by omega) (by omega), nat_join 32 _ _ (by omega) (by omega)]
  omega
end Go.Proofs.YtidgpkccjcddgaaGreatDoor.F
/- Small numbers: the reference's Small of layers 1 and 2. No condition but a bound on the limbs. -/
set_option linter.unusedVariables false
set_option linter.unusedSimpArgs false
namespace Go.Proofs.YtidgpkccjcddgaaGreatDoor.F
open Go.RowKit Go.Shelf Go.Proofs.YtidgpkccjcddgaaGreatDoorW.PrintLast

theorem dg_small {n : Nat} : (dg n).length ≤ 2 ↔ n < 18446744073709551616 := by
  constructor
  · intro h
    have h1 := dg_lt n
    have h2 : Bp (dg n).length ≤ Bp 2 := Bp_le h
    have h3 : Bp 2 = 18446744073709551616 := by decide
    omega
  · intro h
    refine dg_length_le ?_
    show (n : Int) < 4294967296 ^ 2
    omega
set_option maxHeartbeats 2000000 in
set_option maxRecDepth 100000 in
theorem r1_Small (A : Option Addr) (c n : Nat) (w : World) (h : In w A c (dg n)) (hm : (dg n).length ≤ 1099511627776) (v : Int) (o : Bool) (hvo : (n < 18446744073709551616 ∧ v = (n : Int) ∧ o = true) ∨ (¬ n < 18446744073709551616 ∧ v = 0 ∧ o = false)) :
    Calls Tryz.prog 193 #[.slice A (dg n).length c] w fun e w' => e = .returned (.tuple #[.int .u64 v, .bool o]) ∧ Below w.heap.size w w' := by
  have hN := Lib.hid (r1_NormN A c (dg n) w h (by omega))
  rw [V_dg, Int.toNat_natCast] at hN
  clear h
  go_enter Tryz.func193, Tryz.ntmps193
  go_wp2_with fail
  refine hN.out.mono ?_
  rintro e W1 ⟨A1, c1, rfl, q1, q2⟩
  have HI := Lib.hid q1
  have HB := Lib.hid q2
  clear hN q1 q2
  rcases hvo with ⟨hs, hv0, ho0⟩ | ⟨hs, hv0, ho0⟩
  · have hl := dg_small.2 hs
    subst hv0 ho0
    clear hs
    have hz : ¬ (2 : Int) < ((dg n).length : Int) := by omega
    have hv : V (dg n) = (n : Int) := V_dg n
    have HV := Lib.hid hv
    have HLm := Lib.hid (Lim_dg n)
    clear hv hm
    generalize hd : dg n = xs at *
    clear hd
    go_wp2_with fail
    go_loopg [4, 5] (xs.length + 1) (fun gg s4 s5 wr => ∃ (k : Nat) (x : Int), k + 1 ≤ gg ∧ k ≤ xs.length ∧ s4 = .int .u64 x ∧ s5 = .int .i64 ((k : Int) - 1) ∧ 0 ≤ x ∧ (k = 2 → x = 0) ∧ (1 ≤ k → x < 4294967296) ∧ Hid (x = V (xs.drop k)) ∧ wr = W1)
    case atStart => exact ⟨xs.length, 0, by omega, Nat.le_refl _, rfl, by go_num, by omega, fun _ => rfl, fun _ => by omega, (show _ = _ by rw [List.drop_length]; rfl), rfl⟩
    case round =>
      obtain ⟨k, x, hg, hk, rfl, rfl, hx0, hx2, hx1, HX, rfl⟩ := hrel
      by_cases hk0 : 0 < k
      · obtain ⟨j, rfl⟩ : ∃ j, k = j + 1 := ⟨k - 1, by omega⟩
        have hj : j < xs.length := by omega
        obtain ⟨ad, rfl, hc⟩ := Knd.at_int HI.out.row j hj
        have hb := HLm.out.get j hj
        have HV2 := Lib.hid (V_drop hj)
        have hxb := hx1 (by omega)
        have e1 : ((j + 1 : Nat) : Int) - 1 = (j : Int) := by omega
        generalize xs[j] = y at *
        have hor := or_shift32 hx0 hxb hb.1 hb.2
        have e2 : IntKind.u64.wrap (x * 4294967296) = x * 4294967296 := u64w (by omega) (by omega)
        obtain ⟨z, hz2⟩ : ∃ z, z = x * 4294967296 + y := ⟨_, rfl⟩
        rw [← hz2] at hor
        have HZ := Lib.hid (show z = V (xs.drop j) by rw [HV2.out, ← HX.out, hz2]; omega)
        have hz3 : 0 ≤ z := by omega
        have hz4 : 1 ≤ j → z < 4294967296 := fun h => by
          have := hx2 (by omega)
          omega
        have hz5 : j = 2 → z = 0 := fun h => by omega
        rw [e1]
        clear hx2 hx1 HX HV2
        go_wp2
        go_roundg (j + 1)
        case measure => omega
        case rel => exact ⟨j, z, by omega, by omega, by rw [hz2], by go_num, hz3, hz5, hz4, HZ, rfl⟩
      · obtain rfl : k = 0 := by omega
        have HZ := Lib.hid (show x = (n : Int) by rw [HX.out, List.drop_zero, HV.out])
        have e1 : ((0 : Nat) : Int) - 1 = -1 := rfl
        rw [e1]
        clear HX hx2 hx1
        obtain rfl : x = (n : Int) := HZ.out
        go_wp2
        go_ret2
        exact ⟨rfl, HB.out⟩
  · have hl : ¬ (dg n).length ≤ 2 := fun h => hs (dg_small.1 h)
    subst hv0 ho0
    clear hs
    have hz : (2 : Int) < ((dg n).length : Int) := by omega
    go_wp2
    go_ret2
    exact ⟨rfl, HB.out⟩

def inrI (v : Int) : Prop := -9223372036854775808 ≤ v ∧ v ≤ 9223372036854775807
/-- what Small tells of a whole number -/
def ToldSm (w : World) (n : Int) (e : Ending) (w' : World) : Prop := ∃ v o, e = .returned (.tuple #[.int .i64 v, .bool o]) ∧ inrI v ∧ ((inrI n ∧ v = n ∧ o = true) ∨ (¬ inrI n ∧ o = false)) ∧ Below w.heap.size w w'
set_option maxHeartbeats 1000000 in
set_option maxRecDepth 100000 in
theorem r2_Small (n : Int) (A : Option Addr) (c : Nat) (w : World) (h : In w A c (dg n.natAbs)) (hm : (dg n.natAbs).length ≤ 1099511627776) :
    Calls Tryz.prog 121 #[.agg #[.bool (decide (n < 0)), .slice A (dg n.natAbs).length c]] w (ToldSm w n) := by
  obtain ⟨nb, hnb⟩ : ∃ nb, nb = decide (n < 0) := ⟨_, rfl⟩
  rw [← hnb]
  obtain ⟨x, hx⟩ : ∃ x, x = n.natAbs := ⟨_, rfl⟩
  rw [← hx] at h hm ⊢
  have HNB := Lib.hid hnb
  have HXN := Lib.hid hx
  clear hnb hx
  have HF := Lib.hid ((Fr.refl w).box [.bool nb, .slice A (dg x).length c] 41)
  have hS := fun v o k => Lib.hid (r1_Small A c x _ (h.below HF.out.bel) hm v o k)
  have b0 := HF.out.cellN 0 rfl 0 rfl
  clear h
  by_cases hs : x < 18446744073709551616
  · have hS1 := hS (x : Int) true (.inl ⟨hs, rfl, rfl⟩)
    clear hS
    have hxz : (x : Int) < 18446744073709551616 := by omega
    generalize hlx : (dg x).length = lx at *
    go_enter Tryz.func121, Tryz.ntmps121
    go_wp2_with fail
    refine hS1.out.mono ?_
    rintro e W1 ⟨rfl, q1⟩
    replace HF := Lib.hid (HF.out.below q1)
    have b0 := HF.out.cellN 0 rfl 0 rfl
    have HB := Lib.hid HF.out.bel
    clear hS1 q1
    have hnb := HNB.out
    have hx := HXN.out
    by_cases hn : n < 0
    · rw [decide_eq_true hn] at hnb
      subst hnb
      by_cases hm2 : x = 9223372036854775808
      · have e1 : ((x : Int) == 9223372036854775808) = true := by rw [beq_iff_eq]; omega
        have HR := Lib.hid (show inrI n ∧ (-9223372036854775808 : Int) = n from ⟨⟨by omega, by omega⟩, by omega⟩)
        clear hs hx hm2 hn
        go_wp2
        go_ret2
        exact ⟨_, _, rfl, ⟨by omega, by omega⟩, .inl ⟨HR.out.1, HR.out.2, rfl⟩, HB.out⟩
      · have e1 : ((x : Int) == 9223372036854775808) = false := by rw [beq_eq_false_iff_ne]; omega
        by_cases hbig : 9223372036854775808 ≤ x
        · have e2 : (9223372036854775808 : Int) ≤ (x : Int) := by omega
          have HR := Lib.hid (show ¬ inrI n from fun h => by unfold inrI at h; omega)
          clear hs hx hm2 hn hbig
          go_wp2
          go_ret2
          exact ⟨_, _, rfl, ⟨by omega, by omega⟩, .inr ⟨HR.out, rfl⟩, HB.out⟩
        · have e2 : ¬ (9223372036854775808 : Int) ≤ (x : Int) := by omega
          have HR := Lib.hid (show inrI n ∧ -(x : Int) = n ∧ inrI (-(x : Int)) from ⟨⟨by omega, by omega⟩, by omega, by omega, by omega⟩)
          have e3 : (0 : Int) ≤ (x : Int) := by omega
          have e4 : (x : Int) < 9223372036854775808 := by omega
          clear hs hx hm2 hn hbig
          generalize (x : Int) = z at *
          go_wp2
          go_ret2
          exact ⟨_, _, rfl, HR.out.2.2, .inl ⟨HR.out.1, HR.out.2.1, rfl⟩, HB.out⟩
    · rw [decide_eq_false hn] at hnb
      subst hnb
      by_cases hbig : 9223372036854775808 ≤ x
      · have e2 : (9223372036854775808 : Int) ≤ (x : Int) := by omega
        have HR := Lib.hid (show ¬ inrI n from fun h => by unfold inrI at h; omega)
        clear hs hx hn hbig
        go_wp2
        go_ret2
        exact ⟨_, _, rfl, ⟨by omega, by omega⟩, .inr ⟨HR.out, rfl⟩, HB.out⟩
      · have e2 : ¬ (9223372036854775808 : Int) ≤ (x : Int) := by omega
        have HR := Lib.hid (show inrI n ∧ (x : Int) = n ∧ inrI (x : Int) from ⟨⟨by omega, by omega⟩, by omega, by omega, by omega⟩)
        have e3 : (0 : Int) ≤ (x : Int) := by omega
        have e4 : (x : Int) < 9223372036854775808 := by omega
        clear hs hx hn hbig
        generalize (x : Int) = z at *
        go_wp2
        go_ret2
        exact ⟨_, _, rfl, HR.out.2.2, .inl ⟨HR.out.1, HR.out.2.1, rfl⟩, HB.out⟩
  · have hS1 := hS 0 false (.inr ⟨hs, rfl, rfl⟩)
    have HR := Lib.hid (show ¬ inrI n from fun h => by have hx := HXN.out; unfold inrI at h; omega)
    clear hS hs
    generalize hlx : (dg x).length = lx at *
    go_enter Tryz.func121, Tryz.ntmps121
    go_wp2_with fail
    refine hS1.out.mono ?_
    rintro e W1 ⟨rfl, q1⟩
    replace HF := Lib.hid (HF.out.below q1)
    have HB := Lib.hid HF.out.bel
    clear hS1 q1
    go_wp2
    go_ret2
    exact ⟨_, _, rfl, ⟨by omega, by omega⟩, .inr ⟨HR.out, rfl⟩, HB.out⟩
end Go.Proofs.YtidgpkccjcddgaaGreatDoor.F
