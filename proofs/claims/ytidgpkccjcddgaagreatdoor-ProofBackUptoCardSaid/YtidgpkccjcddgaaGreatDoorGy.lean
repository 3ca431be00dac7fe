/- The reference's line of a step. Condition: steps of weight at most 1048576. -/
import Derived.Test.YtidgpkccjcddgaaGreatDoorGx
import Derived.Deep.DeepCutAuto
set_option linter.unusedVariables false
set_option linter.unusedSimpArgs false
namespace Go.Proofs.YtidgpkccjcddgaaGreatDoor.F
open Go.RowKit Go.Shelf Go.Proofs.YtidgpkccjcddgaaGreatDoorW.PrintLast
theorem hx_at : ∀ k : Nat, k < 16 → ∀ h, (⟨#[48, 49, 50, 51, 52, 53, 54, 55, 56, 57, 97, 98, 99, 100, 101, 102]⟩ : ByteArray)[k]'h = hx k := by
 intro k hk h
 have : ∀ k : Fin 16, (#[48, 49, 50, 51, 52, 53, 54, 55, 56, 57, 97, 98, 99, 100, 101, 102] : Array UInt8)[k.val]'(k.isLt) = hx k.val := by decide
 exact this ⟨k, hk⟩
theorem and15 : ∀ n : Nat, n < 256 → bits BinOp.and IntKind.u8 (n : Int) 15 = ((n % 16 : Nat) : Int) := by decide +kernel
theorem hex_facts (b : UInt8) : ∃ k1 k2 : Nat, k1 < 16 ∧ k2 < 16 ∧ (b.toNat : Int) / 16 = (k1 : Int) ∧ bits BinOp.and IntKind.u8 (b.toNat : Int) 15 = (k2 : Int) ∧ hxB b = [hx k1, hx k2] := by
 have := b.toNat_lt
 exact ⟨b.toNat / 16, b.toNat % 16, by omega, by omega, by omega, and15 _ this, rfl⟩
theorem enc_hx (k : Nat) (hk : k < 16) : Utf8.encode ((hx k).toNat : Int) = ⟨#[hx k]⟩ := by
 have : ∀ k : Fin 16, Utf8.encode ((hx k.val).toNat : Int) = ⟨#[hx k.val]⟩ := by decide
 exact this ⟨k, hk⟩
structure AtX (w : World) (a : AtomD) (A : Option Addr) (c : Nat) (B : Option Addr) (d : Nat) (D : Option Addr) (e : Nat) : Prop where
 raw : FRaw w A c a.1.1.2
 bound : InD w a.1.2 B d D e
 lens : a.1.2.1.2.length ≤ 8388608 ∧ a.1.2.2.length ≤ 8388608
 tx : TxOk (nform (fval a.1.1.2)) ∧ (tf (nform (fval a.1.1.2))).length ≤ 110000000 ∧ (tq (rq a.1.2)).length ≤ 110000000
theorem AtX.below {w W : World} {a : AtomD} {A : Option Addr} {c : Nat} {B : Option Addr} {d : Nat} {D : Option Addr} {e : Nat} (h : AtX w a A c B d D e) (hb : Below w.heap.size w W) : AtX W a A c B d D e := ⟨h.raw.below hb, h.bound.below hb, h.lens, h.tx⟩
theorem AtIn.x {w : World} {a : AtomD} {A : Option Addr} {c : Nat} {B : Option Addr} {d : Nat} {D : Option Addr} {e : Nat} (h : AtIn w a A c B d D e) : AtX w a A c B d D e :=
 ⟨h.raw, h.bound, by have := h.lens; omega, h.tx.1, h.tx.2.1, by have := h.tx.2.2; omega⟩
set_option maxHeartbeats 2000000 in
set_option maxRecDepth 100000 in
theorem pr_atomText (a : AtomD) (A : Option Addr) (c : Nat) (B : Option Addr) (d : Nat) (D : Option Addr) (e : Nat) (w : World) (h : AtX w a A c B d D e) (hn : a.1.1.1.size ≤ 1048576) :
 Calls Tryz.prog 48 #[.agg (atc a A c B d D e).toArray] w fun e' w' => e' = .returned (.string ⟨(lnA a).toArray⟩) ∧ Below w.heap.size w w' := by
 have hl := h.lens
 obtain ⟨tx1, tx2, tx3⟩ := h.tx
 have hT := Lib.hid (fun (W : World) (hb : Below w.heap.size w W) => linear_Text A c a.1.1.2 W (h.raw.below hb) tx1)
 have hR := Lib.hid (fun (W : World) (hb : Below w.heap.size w W) => ratio_Text a.1.2.1.1 B d a.1.2.1.2 D e a.1.2.2 W (h.bound.num.below hb) (by omega) (h.bound.den.below hb) (by omega))
 clear h hl tx1
 obtain ⟨r, hr⟩ : ∃ r, r = lnA a := ⟨_, rfl⟩
 rw [← hr]
 unfold lnA at hr
 unfold atc
 obtain ⟨⟨⟨nm, f⟩, ⟨⟨s, xs⟩, ys⟩⟩, st⟩ := a
 have hrv : rv s xs ys = rq ((s, xs), ys) := rfl
 dsimp only at *
 rw [hrv] at hR
 clear hrv
 generalize tf (nform (fval f)) = tx at *
 generalize tq (rq ((s, xs), ys)) = ty at *
 have HRr := Lib.hid hr
 clear hr
 have HF := Lib.hid ((Fr.refl w).box [.string nm, .slice A f.length c, .bool s, .slice B xs.length d, .slice D ys.length e, .bool st] 98)
 generalize f.length = n1 at *
 generalize xs.length = n2 at *
 generalize ys.length = n3 at *
 simp only [List.toArray] at *
 by_cases hn0 : nm.data = #[]
 · rw [if_pos hn0] at HRr
   obtain ⟨dn⟩ := nm
   dsimp only at hn0
   subst hn0
   by_cases h0 : n1 = 0
   · subst h0
     have HX := Lib.hid (show (⟨#[116, 114, 117, 101]⟩ : ByteArray) = ⟨r.toArray⟩ from by rw [HRr.out]; rfl)
     clear HRr hT hR
     go_enter Tryz.func48, Tryz.ntmps48
     go_wp2
     go_ret
     exact ⟨congrArg (fun x => Ending.returned (Value.string x)) HX.out, HF.out.bel⟩
   · have h0b : ((n1 : Int) == 0) = false := by rw [beq_eq_false_iff_ne]; omega
     rw [if_neg h0] at HRr
     cases st with
     | true =>
      have HX := Lib.hid (show (((⟨#[60, 32]⟩ : ByteArray) ++ ⟨tx.toArray⟩) ++ ⟨#[32]⟩) ++ ⟨ty.toArray⟩ = ⟨r.toArray⟩ from by
       rw [HRr.out, show (⟨#[60, 32]⟩ : ByteArray) = ⟨[60, 32].toArray⟩ from rfl, show (⟨#[32]⟩ : ByteArray) = ⟨[32].toArray⟩ from rfl, str_append, str_append, str_append]
       simp)
      clear HRr
      go_enter Tryz.func48, Tryz.ntmps48
      go_upto_region 12 with fail
      generalize World.alloc _ _ = W at HF ⊢
      have HF_ := Lib.hid HF.out.drew
      clear HF
      have HF := HF_
      clear HF_
      refine start_ (n := 12) (S := fun w' => w'.cell? ⟨w.heap.size, 0, none⟩ = some (.string ⟨#[]⟩) ∧ w'.cell? ⟨w.heap.size, 1, none⟩ = some (.slice A n1 c) ∧ w'.cell? ⟨w.heap.size, 2, none⟩ = some (.bool s) ∧ w'.cell? ⟨w.heap.size, 3, none⟩ = some (.slice B n2 d) ∧ w'.cell? ⟨w.heap.size, 4, none⟩ = some (.slice D n3 e) ∧ w'.cell? ⟨w.heap.size, 5, none⟩ = some (.bool true)) (ds := []) #[false, false, false, false, false, false, false, false, false, false, false, false] (by kernel_rfl) rfl rfl ⟨HF.out.cellN 0 rfl 0 rfl, HF.out.cellN 0 rfl 1 rfl, HF.out.cellN 0 rfl 2 rfl, HF.out.cellN 0 rfl 3 rfl, HF.out.cellN 0 rfl 4 rfl, HF.out.cellN 0 rfl 5 rfl⟩ (fun hHeld => ?_)
      generalize World.drew _ = W at *
      refine pu_ (v := ?_) (a' := ?_) 0 (some 48) rfl rfl ?_ ?_ ?_
      rotate_left; · intro w'; go_simp; with_reducible rfl
      rotate_left
      · simp only [Act.put, sa_, sb_, sc_]
        rfl
      refine pu_ (v := ?_) (a' := ?_) 1 (some 49) rfl rfl ?_ ?_ ?_
      rotate_left; · intro w'; go_simp; with_reducible rfl
      rotate_left
      · simp only [Act.put, sa_, sb_, sc_]
        rfl
      refine pu_ (v := ?_) (a' := ?_) 6 (some 54) rfl rfl ?_ ?_ ?_
      rotate_left; · intro w'; go_simp; with_reducible rfl
      rotate_left
      · simp only [Act.put, sa_, sb_, sc_]
        rfl
      refine pu_ (v := ?_) (a' := ?_) 7 (some 55) rfl rfl ?_ ?_ ?_
      rotate_left; · intro w'; go_simp; with_reducible rfl
      rotate_left
      · simp only [Act.put, sa_, sb_, sc_]
        rfl
      refine tk_ (v := ?_) (a' := ?_) 2 (some 50) rfl rfl ?_ hHeld ?_ ?_
      rotate_left
      · rintro w' ⟨s0, s1, s2, s3, s4, s5⟩; go_simp; with_reducible rfl
      rotate_left
      · simp only [Act.put, sa_, sb_, sc_]
        rfl
      refine tk_ (v := ?_) (a' := ?_) 8 (some 56) rfl rfl ?_ hHeld ?_ ?_
      rotate_left
      · rintro w' ⟨s0, s1, s2, s3, s4, s5⟩; go_simp; with_reducible rfl
      rotate_left
      · simp only [Act.put, sa_, sb_, sc_]
        rfl
      refine on_ 3 (N := (some 51)) rfl rfl (fun K hK => ?_)
      refine goes_ Tryz.func17 (by kernel_rfl) rfl #[.slice A n1 c] (by rfl) rfl rfl (by (try simp only [List.map_toArray, List.map_cons, List.map_nil]); first | done | rfl) ?_
      refine (hT.out W HF.out.bel).mono ?_
      rintro e W1 ⟨rfl, q1⟩
      refine ⟨_, rfl, ?_⟩
      replace HF := Lib.hid (HF.out.below q1)
      clear q1 hT
      refine hK.out _ _ ⟨HF.out.cellN 0 rfl 0 rfl, HF.out.cellN 0 rfl 1 rfl, HF.out.cellN 0 rfl 2 rfl, HF.out.cellN 0 rfl 3 rfl, HF.out.cellN 0 rfl 4 rfl, HF.out.cellN 0 rfl 5 rfl⟩ (fun hHeld => ?_)
      clear hK K
      refine norm_ (a' := ?_) ?_ ?_
      rotate_left
      · show Act.put _ (some 51) _ = _
        simp only [Act.put, sa_, sb_, sc_]
        rfl
      refine pu_ (v := ?_) (a' := ?_) 4 (some 52) rfl rfl ?_ ?_ ?_
      rotate_left; · intro w'; go_simp; first | with_reducible rfl | rw [if_neg (by omega)]
      rotate_left
      · simp only [Act.put, sa_, sb_, sc_]
        rfl
      refine pu_ (v := ?_) (a' := ?_) 5 (some 53) rfl rfl ?_ ?_ ?_
      rotate_left; · intro w'; go_simp; first | with_reducible rfl | rw [if_neg (by omega)]
      rotate_left
      · simp only [Act.put, sa_, sb_, sc_]
        rfl
      refine on_ 9 (N := (some 57)) rfl rfl (fun K hK => ?_)
      refine goes_ Tryz.func60 (by kernel_rfl) rfl #[.agg #[.bool s, .slice B n2 d, .slice D n3 e]] (by rfl) rfl rfl (by (try simp only [List.map_toArray, List.map_cons, List.map_nil]); first | done | rfl) ?_
      refine (hR.out W1 HF.out.bel).mono ?_
      rintro e W2 ⟨rfl, q1⟩
      refine ⟨_, rfl, ?_⟩
      replace HF := Lib.hid (HF.out.below q1)
      clear q1 hR
      refine hK.out _ _ ⟨HF.out.cellN 0 rfl 0 rfl, HF.out.cellN 0 rfl 1 rfl, HF.out.cellN 0 rfl 2 rfl, HF.out.cellN 0 rfl 3 rfl, HF.out.cellN 0 rfl 4 rfl, HF.out.cellN 0 rfl 5 rfl⟩ (fun hHeld => ?_)
      clear hK K
      refine norm_ (a' := ?_) ?_ ?_
      rotate_left
      · show Act.put _ (some 57) _ = _
        simp only [Act.put, sa_, sb_, sc_]
        rfl
      refine pu_ (v := ?_) (a' := ?_) 10 (some 58) rfl rfl ?_ ?_ ?_
      rotate_left; · intro w'; go_simp; first | with_reducible rfl | rw [if_neg (by omega)]
      rotate_left
      · simp only [Act.put, sa_, sb_, sc_]
        rfl
      refine pu_ (v := ?_) (a' := ?_) 11 (some 2) rfl rfl ?_ ?_ ?_
      rotate_left; · intro w'; go_simp; with_reducible rfl
      rotate_left
      · simp only [Act.put, sa_, sb_, sc_]
        rfl
      refine done_ (by kernel_rfl) ?_
      go_wp2
      go_ret
      exact ⟨congrArg (fun x => Ending.returned (Value.string x)) HX.out, HF.out.bel⟩
     | false =>
      have HX := Lib.hid (show (((⟨#[60, 61, 32]⟩ : ByteArray) ++ ⟨tx.toArray⟩) ++ ⟨#[32]⟩) ++ ⟨ty.toArray⟩ = ⟨r.toArray⟩ from by
       rw [HRr.out, show (⟨#[60, 61, 32]⟩ : ByteArray) = ⟨[60, 61, 32].toArray⟩ from rfl, show (⟨#[32]⟩ : ByteArray) = ⟨[32].toArray⟩ from rfl, str_append, str_append, str_append]
       simp)
      clear HRr
      go_enter Tryz.func48, Tryz.ntmps48
      go_upto_region 13 with fail
      generalize World.alloc _ _ = W at HF ⊢
      have HF_ := Lib.hid HF.out.drew
      clear HF
      have HF := HF_
      clear HF_
      refine start_ (n := 12) (S := fun w' => w'.cell? ⟨w.heap.size, 0, none⟩ = some (.string ⟨#[]⟩) ∧ w'.cell? ⟨w.heap.size, 1, none⟩ = some (.slice A n1 c) ∧ w'.cell? ⟨w.heap.size, 2, none⟩ = some (.bool s) ∧ w'.cell? ⟨w.heap.size, 3, none⟩ = some (.slice B n2 d) ∧ w'.cell? ⟨w.heap.size, 4, none⟩ = some (.slice D n3 e) ∧ w'.cell? ⟨w.heap.size, 5, none⟩ = some (.bool false)) (ds := []) #[false, false, false, false, false, false, false, false, false, false, false, false] (by kernel_rfl) rfl rfl ⟨HF.out.cellN 0 rfl 0 rfl, HF.out.cellN 0 rfl 1 rfl, HF.out.cellN 0 rfl 2 rfl, HF.out.cellN 0 rfl 3 rfl, HF.out.cellN 0 rfl 4 rfl, HF.out.cellN 0 rfl 5 rfl⟩ (fun hHeld => ?_)
      generalize World.drew _ = W at *
      refine pu_ (v := ?_) (a' := ?_) 0 (some 59) rfl rfl ?_ ?_ ?_
      rotate_left; · intro w'; go_simp; with_reducible rfl
      rotate_left
      · simp only [Act.put, sa_, sb_, sc_]
        rfl
      refine pu_ (v := ?_) (a' := ?_) 1 (some 60) rfl rfl ?_ ?_ ?_
      rotate_left; · intro w'; go_simp; with_reducible rfl
      rotate_left
      · simp only [Act.put, sa_, sb_, sc_]
        rfl
      refine pu_ (v := ?_) (a' := ?_) 6 (some 65) rfl rfl ?_ ?_ ?_
      rotate_left; · intro w'; go_simp; with_reducible rfl
      rotate_left
      · simp only [Act.put, sa_, sb_, sc_]
        rfl
      refine pu_ (v := ?_) (a' := ?_) 7 (some 66) rfl rfl ?_ ?_ ?_
      rotate_left; · intro w'; go_simp; with_reducible rfl
      rotate_left
      · simp only [Act.put, sa_, sb_, sc_]
        rfl
      refine tk_ (v := ?_) (a' := ?_) 2 (some 61) rfl rfl ?_ hHeld ?_ ?_
      rotate_left
      · rintro w' ⟨s0, s1, s2, s3, s4, s5⟩; go_simp; with_reducible rfl
      rotate_left
      · simp only [Act.put, sa_, sb_, sc_]
        rfl
      refine tk_ (v := ?_) (a' := ?_) 8 (some 67) rfl rfl ?_ hHeld ?_ ?_
      rotate_left
      · rintro w' ⟨s0, s1, s2, s3, s4, s5⟩; go_simp; with_reducible rfl
      rotate_left
      · simp only [Act.put, sa_, sb_, sc_]
        rfl
      refine on_ 3 (N := (some 62)) rfl rfl (fun K hK => ?_)
      refine goes_ Tryz.func17 (by kernel_rfl) rfl #[.slice A n1 c] (by rfl) rfl rfl (by (try simp only [List.map_toArray, List.map_cons, List.map_nil]); first | done | rfl) ?_
      refine (hT.out W HF.out.bel).mono ?_
      rintro e W1 ⟨rfl, q1⟩
      refine ⟨_, rfl, ?_⟩
      replace HF := Lib.hid (HF.out.below q1)
      clear q1 hT
      refine hK.out _ _ ⟨HF.out.cellN 0 rfl 0 rfl, HF.out.cellN 0 rfl 1 rfl, HF.out.cellN 0 rfl 2 rfl, HF.out.cellN 0 rfl 3 rfl, HF.out.cellN 0 rfl 4 rfl, HF.out.cellN 0 rfl 5 rfl⟩ (fun hHeld => ?_)
      clear hK K
      refine norm_ (a' := ?_) ?_ ?_
      rotate_left
      · show Act.put _ (some 62) _ = _
        simp only [Act.put, sa_, sb_, sc_]
        rfl
      refine pu_ (v := ?_) (a' := ?_) 4 (some 63) rfl rfl ?_ ?_ ?_
      rotate_left; · intro w'; go_simp; first | with_reducible rfl | rw [if_neg (by omega)]
      rotate_left
      · simp only [Act.put, sa_, sb_, sc_]
        rfl
      refine pu_ (v := ?_) (a' := ?_) 5 (some 64) rfl rfl ?_ ?_ ?_
      rotate_left; · intro w'; go_simp; first | with_reducible rfl | rw [if_neg (by omega)]
      rotate_left
      · simp only [Act.put, sa_, sb_, sc_]
        rfl
      refine on_ 9 (N := (some 68)) rfl rfl (fun K hK => ?_)
      refine goes_ Tryz.func60 (by kernel_rfl) rfl #[.agg #[.bool s, .slice B n2 d, .slice D n3 e]] (by rfl) rfl rfl (by (try simp only [List.map_toArray, List.map_cons, List.map_nil]); first | done | rfl) ?_
      refine (hR.out W1 HF.out.bel).mono ?_
      rintro e W2 ⟨rfl, q1⟩
      refine ⟨_, rfl, ?_⟩
      replace HF := Lib.hid (HF.out.below q1)
      clear q1 hR
      refine hK.out _ _ ⟨HF.out.cellN 0 rfl 0 rfl, HF.out.cellN 0 rfl 1 rfl, HF.out.cellN 0 rfl 2 rfl, HF.out.cellN 0 rfl 3 rfl, HF.out.cellN 0 rfl 4 rfl, HF.out.cellN 0 rfl 5 rfl⟩ (fun hHeld => ?_)
      clear hK K
      refine norm_ (a' := ?_) ?_ ?_
      rotate_left
      · show Act.put _ (some 68) _ = _
        simp only [Act.put, sa_, sb_, sc_]
        rfl
      refine pu_ (v := ?_) (a' := ?_) 10 (some 69) rfl rfl ?_ ?_ ?_
      rotate_left; · intro w'; go_simp; first | with_reducible rfl | rw [if_neg (by omega)]
      rotate_left
      · simp only [Act.put, sa_, sb_, sc_]
        rfl
      refine pu_ (v := ?_) (a' := ?_) 11 (some 2) rfl rfl ?_ ?_ ?_
      rotate_left; · intro w'; go_simp; with_reducible rfl
      rotate_left
      · simp only [Act.put, sa_, sb_, sc_]
        rfl
      refine done_ (by kernel_rfl) ?_
      go_wp2
      go_ret
      exact ⟨congrArg (fun x => Ending.returned (Value.string x)) HX.out, HF.out.bel⟩
 · rw [if_neg hn0] at HRr
   have hne : nm.toList.isEmpty = false := by rw [Lib.toList_data]; simpa using hn0
   have hsz : nm.data.toList.length = nm.size := Array.length_toList
   have HG := Lib.hid (fun (i : Nat) (h : i < nm.size) => show nm[i] = nm.data.toList[i]'(by omega) from rfl)
   have HLn := Lib.hid (fun (i : Nat) => show (hexN (nm.data.toList.take i)).length ≤ 2 * nm.size from by rw [hexN_len, List.length_take]; omega)
   clear hn0 hT hR
   go_enter Tryz.func48, Tryz.ntmps48
   go_upto_region 3 with fail
   generalize World.alloc _ _ = W at HF ⊢
   have a0 := HF.out.cellN 0 rfl 0 rfl
   clear hne
   go_wp2_with fail
   clear a0
   go_loopg [3, 14] nm.size (fun gg s3 s14 wr => ∃ (i : Nat) (P : List UInt8), i + gg = nm.size ∧ s14 = .int .i64 i ∧ s3 = .string ⟨P.toArray⟩ ∧ Hid (P = [98, 111, 111, 108, 32] ++ hexN (nm.data.toList.take i)) ∧ Hid (Fr w wr [(w.heap.size, [.string nm, .slice A n1 c, .bool s, .slice B n2 d, .slice D n3 e, .bool st])]))
   case atStart => exact ⟨0, _, by omega, rfl, rfl, by show _ = _; rfl, HF.out⟩
   case round =>
   clear HF
   obtain ⟨i, P, hg, rfl, rfl, HP, HF⟩ := hrel
   by_cases hlt : i < nm.size
   · have hltz : (i : Int) < (nm.size : Int) := by omega
     have hb := HG.out i hlt
     have hln := HLn.out i
     have HS := Lib.hid (show hexN (nm.data.toList.take (i + 1)) = hexN (nm.data.toList.take i) ++ hxB (nm.data.toList[i]'(by omega)) from by rw [List.take_succ_eq_append_getElem (by omega), hexN_snoc])
     generalize hB0 : nm.data.toList[i]'(by omega) = b at *
     clear hB0
     obtain ⟨k1, k2, hk1, hk2, hd1, hd2, hx0⟩ := hex_facts b
     rw [hx0] at HS
     have hk1z : (k1 : Int) < 16 := by omega
     have hk2z : (k2 : Int) < 16 := by omega
     have e1 := hx_at k1 hk1 hk1
     have e2 := hx_at k2 hk2 hk2
     have u1 := enc_hx k1 hk1
     have u2 := enc_hx k2 hk2
     clear hx0
     generalize hx k1 = y1 at *
     generalize hx k2 = y2 at *
     have hPl := congrArg List.length HP.out
     simp only [List.length_append, List.length_cons, List.length_nil] at hPl
     go_wp2_with fail
     generalize wr = W at HF ⊢
     have HF_ := Lib.hid HF.out.drew
     clear HF
     have HF := HF_
     clear HF_
     refine start_ (n := 20) (S := fun w' => w'.cell? ⟨w.heap.size, 0, none⟩ = some (.string nm) ∧ w'.cell? ⟨w.heap.size, 1, none⟩ = some (.slice A n1 c) ∧ w'.cell? ⟨w.heap.size, 2, none⟩ = some (.bool s) ∧ w'.cell? ⟨w.heap.size, 3, none⟩ = some (.slice B n2 d) ∧ w'.cell? ⟨w.heap.size, 4, none⟩ = some (.slice D n3 e) ∧ w'.cell? ⟨w.heap.size, 5, none⟩ = some (.bool st)) (ds := []) #[false, false, false, false, false, false, false, false, false, false, false, false, false, false, false, false, false, false, false, false] (by kernel_rfl) rfl rfl ⟨HF.out.cellN 0 rfl 0 rfl, HF.out.cellN 0 rfl 1 rfl, HF.out.cellN 0 rfl 2 rfl, HF.out.cellN 0 rfl 3 rfl, HF.out.cellN 0 rfl 4 rfl, HF.out.cellN 0 rfl 5 rfl⟩ (fun hHeld => ?_)
     generalize World.drew _ = W at *
     refine pu_ (v := ?_) (a' := ?_) 0 (some 17) rfl rfl ?_ ?_ ?_
     rotate_left; · intro w'; go_simp; with_reducible rfl
     rotate_left
     · simp only [Act.put, sa_, sb_, sc_]
       rfl
     refine pu_ (v := ?_) (a' := ?_) 1 (some 18) rfl rfl ?_ ?_ ?_
     rotate_left; · intro w'; go_simp; with_reducible rfl
     rotate_left
     · simp only [Act.put, sa_, sb_, sc_]
       rfl
     refine pu_ (v := ?_) (a' := ?_) 2 (some 19) rfl rfl ?_ ?_ ?_
     rotate_left; · intro w'; go_simp; with_reducible rfl
     rotate_left
     · simp only [Act.put, sa_, sb_, sc_]
       rfl
     refine pu_ (v := ?_) (a' := ?_) 4 (some 21) rfl rfl ?_ ?_ ?_
     rotate_left; · intro w'; go_simp; with_reducible rfl
     rotate_left
     · simp only [Act.put, sa_, sb_, sc_]
       rfl
     refine pu_ (v := ?_) (a' := ?_) 9 (some 26) rfl rfl ?_ ?_ ?_
     rotate_left; · intro w'; go_simp; with_reducible rfl
     rotate_left
     · simp only [Act.put, sa_, sb_, sc_]
       rfl
     refine pu_ (v := ?_) (a' := ?_) 10 (some 27) rfl rfl ?_ ?_ ?_
     rotate_left; · intro w'; go_simp; with_reducible rfl
     rotate_left
     · simp only [Act.put, sa_, sb_, sc_]
       rfl
     refine pu_ (v := ?_) (a' := ?_) 12 (some 29) rfl rfl ?_ ?_ ?_
     rotate_left; · intro w'; go_simp; with_reducible rfl
     rotate_left
     · simp only [Act.put, sa_, sb_, sc_]
       rfl
     refine tk_ (v := ?_) (a' := ?_) 3 (some 20) rfl rfl ?_ hHeld ?_ ?_
     rotate_left
     · rintro w' ⟨s0, s1, s2, s3, s4, s5⟩; go_simp; with_reducible rfl
     rotate_left
     · simp only [Act.put, sa_, sb_, sc_]
       rfl
     refine pu_ (v := ?_) (a' := ?_) 5 (some 22) rfl rfl ?_ ?_ ?_
     rotate_left; · intro w'; go_simp; with_reducible rfl
     rotate_left
     · simp only [Act.put, sa_, sb_, sc_]
       rfl
     refine pu_ (v := ?_) (a' := ?_) 6 (some 23) rfl rfl ?_ ?_ ?_
     rotate_left; · intro w'; go_simp; with_reducible rfl
     rotate_left
     · simp only [Act.put, sa_, sb_, sc_]
       rfl
     refine pu_ (v := ?_) (a' := ?_) 7 (some 24) rfl rfl ?_ ?_ ?_
     rotate_left; · intro w'; go_simp; with_reducible rfl
     rotate_left
     · simp only [Act.put, sa_, sb_, sc_]
       rfl
     refine pu_ (v := ?_) (a' := ?_) 8 (some 25) rfl rfl ?_ ?_ ?_
     rotate_left; · intro w'; go_simp; with_reducible rfl
     rotate_left
     · simp only [Act.put, sa_, sb_, sc_]
       rfl
     refine tk_ (v := ?_) (a' := ?_) 11 (some 28) rfl rfl ?_ hHeld ?_ ?_
     rotate_left
     · rintro w' ⟨s0, s1, s2, s3, s4, s5⟩; go_simp; with_reducible rfl
     rotate_left
     · simp only [Act.put, sa_, sb_, sc_]
       rfl
     refine pu_ (v := ?_) (a' := ?_) 13 (some 30) rfl rfl ?_ ?_ ?_
     rotate_left; · intro w'; go_simp; with_reducible rfl
     rotate_left
     · simp only [Act.put, sa_, sb_, sc_]
       rfl
     refine pu_ (v := ?_) (a' := ?_) 14 (some 31) rfl rfl ?_ ?_ ?_
     rotate_left; · intro w'; go_simp; with_reducible rfl
     rotate_left
     · simp only [Act.put, sa_, sb_, sc_]
       rfl
     refine pu_ (v := ?_) (a' := ?_) 15 (some 32) rfl rfl ?_ ?_ ?_
     rotate_left; · intro w'; go_simp; with_reducible rfl
     rotate_left
     · simp only [Act.put, sa_, sb_, sc_]
       rfl
     refine pu_ (v := ?_) (a' := ?_) 16 (some 33) rfl rfl ?_ ?_ ?_
     rotate_left; · intro w'; go_simp; with_reducible rfl
     rotate_left
     · simp only [Act.put, sa_, sb_, sc_]
       rfl
     refine pu_ (v := ?_) (a' := ?_) 17 (some 34) rfl rfl ?_ ?_ ?_
     rotate_left; · intro w'; go_simp; first | with_reducible rfl | rw [if_neg (by omega)]
     rotate_left
     · simp only [Act.put, sa_, sb_, sc_]
       rfl
     refine pu_ (v := ?_) (a' := ?_) 18 (some 35) rfl rfl ?_ ?_ ?_
     rotate_left; · intro w'; go_simp; first | with_reducible rfl | rw [if_neg (by omega)]
     rotate_left
     · simp only [Act.put, sa_, sb_, sc_]
       rfl
     refine pu_ (v := ?_) (a' := ?_) 19 (some 3) rfl rfl ?_ ?_ ?_
     rotate_left; · intro w'; go_simp; with_reducible rfl
     rotate_left
     · simp only [Act.put, sa_, sb_, sc_]
       rfl
     refine done_ (by kernel_rfl) ?_
     have HE := Lib.hid (show (⟨P.toArray⟩ : ByteArray) ++ ((⟨#[y1]⟩ : ByteArray) ++ ⟨#[y2]⟩) = ⟨(P ++ [y1, y2]).toArray⟩ from by
      rw [show (⟨#[y1]⟩ : ByteArray) = ⟨[y1].toArray⟩ from rfl, show (⟨#[y2]⟩ : ByteArray) = ⟨[y2].toArray⟩ from rfl, str_append, str_append]; rfl)
     have HN := Lib.hid (show P ++ [y1, y2] = [98, 111, 111, 108, 32] ++ hexN (nm.data.toList.take (i + 1)) from by rw [HS.out, HP.out]; simp)
     clear HS HP hb hd1 hd2 e1 e2 u1 u2
     go_wp2
     go_roundg (nm.size - (i + 1))
     case measure => omega
     case rel => exact ⟨i + 1, _, by omega, by go_num, congrArg Value.string HE.out, HN, HF⟩
   · have hltz : ¬ (i : Int) < (nm.size : Int) := by omega
     have HN := Lib.hid (show P = r from by rw [HP.out, HRr.out, List.take_of_length_le (by omega)])
     clear HP HG HLn HRr
     go_wp2
     go_ret
     exact ⟨congrArg (fun l : List UInt8 => Ending.returned (Value.string ⟨l.toArray⟩)) HN.out, HF.out.bel⟩
end Go.Proofs.YtidgpkccjcddgaaGreatDoor.F
