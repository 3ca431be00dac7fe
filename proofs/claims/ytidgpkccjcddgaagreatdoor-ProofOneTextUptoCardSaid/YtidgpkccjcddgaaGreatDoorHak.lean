/- The law ProofOneText. Condition: texts of at most 1048576 bytes; the tables lie as laid. -/
import Derived.Test.YtidgpkccjcddgaaGreatDoorHaj
set_option linter.unusedVariables false
set_option linter.unusedSimpArgs false
namespace Go.Proofs.YtidgpkccjcddgaaGreatDoor.F
open Go.RowKit Go.Shelf Go.Proofs.YtidgpkccjcddgaaGreatDoorW.PrintLast
/-- what Parse tells may be handed on -/
theorem refIn_parse {w : World} {s : List UInt8} {r : RefD} {A : Option Addr} {a : Nat} {B : Option Addr} {b : Nat} (hp : parseV s = .inl r) (hs : s.length ≤ 1048576) (ha : OwA w 0 (.slice A r.1.length a) r.1) (hb : OwS w 0 (.slice B r.2.length b) r.2) : RefIn w r A a B b := by
  obtain ⟨g1, g2, g3⟩ := parse_good hp hs
  obtain ⟨A', a', e1, l1, r1⟩ := OwY.row (d := kAtom) ha rfl fun x cs _ h => AtO.knd h
  obtain ⟨B', b', e2, l2, r2⟩ := OwY.row (d := kStep) hb rfl fun x cs _ h => StO.knd h
  simp only [Value.slice.injEq, true_and] at e1 e2
  obtain ⟨rfl, rfl⟩ := e1
  obtain ⟨rfl, rfl⟩ := e2
  exact ⟨r1, l1, r2, l2, g1, g2, g3⟩
set_option maxHeartbeats 2000000 in
set_option maxRecDepth 100000 in
theorem law_awakeP (w : World) (hL : Laid w) (hP : PowTab w) : Calls Tryz.prog 39 #[] w (Decides w true) := by
  have hA : Calls Tryz.prog 36 #[.string ⟨#[114, 101, 102, 117, 116, 97, 116, 105, 111, 110, 32, 49, 32, 48, 10, 116, 114, 117, 101, 10]⟩] w (ToldPp w [114, 101, 102, 117, 116, 97, 116, 105, 111, 110, 32, 49, 32, 48, 10, 116, 114, 117, 101, 10]) := proof_Parse _ w (by decide) hL hP
  have HA := Lib.hid hA
  clear hA hL hP
  go_enter Tryz.func39, Tryz.ntmps39
  go_wp2_with fail
  refine HA.out.mono ?_
  rintro e W1 (⟨r, A, a, B, b, hp, rfl, ha, hb, hbel⟩ | ⟨k, hp, _⟩)
  · rw [parse_awake] at hp
    cases hp
    have HF := Lib.hid ((show Fr w W1 [] from ⟨hbel, fun p hp => by cases hp⟩).box [.slice A 1 a, .slice B 0 b] 25)
    clear HA ha hb hbel
    simp only [List.toArray, List.length_cons, List.length_nil, Nat.zero_add] at HF ⊢
    go_upto_region 2 with fail
    generalize hgt : World.alloc _ _ = W at HF ⊢
    clear hgt
    have a0 := HF.out.cellN 0 rfl 0 rfl
    have a1 := HF.out.cellN 0 rfl 1 rfl
    go_wp2
    go_ret
    exact ⟨rfl, HF.out.bel⟩
  · rw [parse_awake] at hp
    cases hp
set_option maxHeartbeats 2000000 in
set_option maxRecDepth 100000 in
theorem law_POneText (s : List UInt8) (w : World) (hs : s.length ≤ 1048576) (hL : Laid w) (hP : PowTab w) :
    Calls Tryz.prog 9 #[.string ⟨s.toArray⟩] w (Decides w true) := by
  have HA := Lib.hid (proof_Parse s w hs hL hP)
  have HW := Lib.hid (fun (W : World) (hb : Below w.heap.size w W) => law_awakeP W (hL.below hb) (hP.below hb))
  have HPt := Lib.hid (fun (r : RefD) (A : Option Addr) (a : Nat) (B : Option Addr) (b : Nat) (W : World) (hb : Below w.heap.size w W) (h : RefIn W r A a B b) => pr_Print r A a B b W h (hP.below hb))
  have HTx := Lib.hid (fun (r : RefD) (h : parseV s = .inl r) => show prS r = s ∧ vldE r = 0 from by
    have h1 := parse_vld h
    refine ⟨?_, h1⟩
    unfold prS
    rw [if_pos h1, parse_text h])
  have hSB : (⟨s.toArray⟩ : ByteArray).toList = s := ByteArray.toList_mk s
  clear hL hP
  go_enter Tryz.func9, Tryz.ntmps9
  go_wp2_with fail
  refine HA.out.mono ?_
  rintro e W1 (⟨r, A, a, B, b, hp, rfl, ha, hb, hbel⟩ | ⟨k, hp, hk1, rfl, hbel⟩)
  · obtain ⟨e1, e2⟩ := HTx.out r hp
    have HI := Lib.hid (refIn_parse hp hs ha hb)
    have HF := Lib.hid ((show Fr w W1 [] from ⟨hbel, fun p hp => by cases hp⟩).box [.slice A r.1.length a, .slice B r.2.length b] 25)
    have hal := (Below.refl W1.heap.size W1).alloc (Nat.le_refl _) (.cells #[.slice A r.1.length a, .slice B r.2.length b] 25)
    have HI2 := Lib.hid (HI.out.below hal)
    clear HA ha hb hbel HI hp hal HTx HW
    simp only [List.toArray] at HF
    go_upto_region 2 with fail
    generalize hgt : World.alloc _ _ = W at HF HI2 ⊢
    clear hgt
    have HP1 := HPt.out r A a B b W HF.out.bel HI2.out
    rw [e1, e2] at HP1
    have HP := Lib.hid HP1
    clear HP1 HPt HI2 e1 e2
    generalize r.1.length = n1 at *
    generalize r.2.length = n2 at *
    generalize (⟨s.toArray⟩ : ByteArray) = SB at *
    have a0 := HF.out.cellN 0 rfl 0 rfl
    have a1 := HF.out.cellN 0 rfl 1 rfl
    go_wp2_with fail
    refine HP.out.mono ?_
    rintro e' W2 ⟨rfl, hb⟩
    replace HF := Lib.hid (HF.out.below hb)
    clear hb HP a0 a1
    go_wp2
    go_ret
    exact ⟨rfl, HF.out.bel⟩
  · have HF := Lib.hid ((show Fr w W1 [] from ⟨hbel, fun p hp => by cases hp⟩).box [.slice none 0 0, .slice none 0 0] 25)
    have hkz : (1 : Int) ≤ (k : Int) := by omega
    clear HA hbel hp HTx HPt
    simp only [List.toArray] at HF
    generalize (⟨s.toArray⟩ : ByteArray) = SB at *
    go_upto_region 2 with fail
    generalize hgt : World.alloc _ _ = W at HF ⊢
    clear hgt
    have HA := Lib.hid (HW.out W HF.out.bel)
    have a0 := HF.out.cellN 0 rfl 0 rfl
    have a1 := HF.out.cellN 0 rfl 1 rfl
    clear HW
    go_wp2_with fail
    refine HA.out.mono ?_
    rintro e' W2 ⟨rfl, hb⟩
    replace HF := Lib.hid (HF.out.below hb)
    clear hb HA a0 a1
    go_wp2
    go_ret
    exact ⟨rfl, HF.out.bel⟩
end Go.Proofs.YtidgpkccjcddgaaGreatDoor.F
