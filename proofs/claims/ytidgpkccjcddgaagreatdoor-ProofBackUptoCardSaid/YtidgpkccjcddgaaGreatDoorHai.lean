/- The reader's state in memory: the lists read, the lines seen; atoms.New. No condition. -/
import Derived.Test.YtidgpkccjcddgaaGreatDoorHah
import Derived.Test.YtidgpkccjcddgaaGreatDoorHag
import Derived.Test.YtidgpkccjcddgaaGreatDoorHaf
import Derived.Maps.OwnSet
import Derived.BigQuiet
import Derived.Deep.CutBlock
import Derived.Deep.DeepCutAuto
set_option linter.unusedVariables false
set_option linter.unusedSimpArgs false
namespace Go.Proofs.YtidgpkccjcddgaaGreatDoor.F
open Go.ChangeShapes Go.WideShapes Go.ChangeAt Go.RowKit Go.Shelf Go.Maps Go.Proofs.YtidgpkccjcddgaaGreatDoorW.PrintLast
def SeenM (l : List AtomD) (D : DataW Unit) : Prop := Maps.IsMap D ∧ (∀ a ∈ l, Maps.has D (.string (lnA a)) = true) ∧ ∀ k, Maps.has D (.string k) = true → k ∈ l.map lnA ∧ ∀ z, D.atKey (.string k) z = .lit (.int .i64 1)
theorem SeenM.nil : SeenM [] (.map []) := ⟨Maps.isMap_empty, fun a h => (List.not_mem_nil h).elim, fun k h => by simp [Maps.has] at h⟩
theorem SeenM.put {l : List AtomD} {D : DataW Unit} {d : AtomD} (h : SeenM l D) : SeenM (l ++ [d]) (D.put (.string (lnA d)) (.lit (.int .i64 1))) := by
 obtain ⟨h1, h2, h3⟩ := h
 have hk : WideAt.IsKeyLit (.string (lnA d)) := trivial
 refine ⟨h1.put _ _, fun a ha => ?_, fun k hk2 => ?_⟩
 · by_cases e : lnA a = lnA d
   · rw [e]; exact Maps.has_put_same h1 hk _
   · rw [Maps.has_put_other (by simpa using e)]
     rcases List.mem_append.1 ha with ha | ha
     · exact h2 a ha
     · rw [List.mem_singleton.1 ha] at e; exact absurd rfl e
 · by_cases e : k = lnA d
   · subst e
     exact ⟨by simp, fun z => Maps.atKey_put_same h1 hk _ z⟩
   · rw [Maps.has_put_other (by simpa using e)] at hk2
     obtain ⟨a, b⟩ := h3 k hk2
     exact ⟨by rw [List.map_append]; exact List.mem_append_left _ a, fun z => by rw [Maps.atKey_put_other (by simpa using e)]; exact b z⟩
theorem OwY.mono {α : Type} {w : World} {B C : Nat} {e : TypeId} {sz : Nat} {At : World → α → List Value → Prop} {v : Value} {xs : List α} (h : OwY w B e sz At v xs) (hC : C ≤ B) : OwY w C e sz At v xs := by
 obtain ⟨rs, h1, h2, h3, h4⟩ := h
 exact ⟨rs, h1, h2, h3, h4.mono hC⟩
theorem OwY.one {α : Type} {W : World} {B g : Nat} {e : TypeId} {sz : Nat} {At : World → α → List Value → Prop} {x : α} {cs : List Value} (h : OwnT W g e cs) (hx : At W x cs) (hl : cs.length = sz) (hu : NoU cs) (hB : B ≤ g) : OwY W B e sz At (.slice (some ⟨g, 0, none⟩) 1 1) [x] := by
 refine ⟨[cs], rfl, fun r hr => by rw [List.mem_singleton.1 hr]; exact hl, fun i a b => ?_, ?_⟩
 · have : i = 0 := by simp at a; omega
   subst this
   exact hx
 · refine ⟨by simp [hl], .inr ⟨g, 1, cs.toArray, rfl, hB, h, Nat.le_refl _, by unfold maxLen; omega, by simp [hl], ?_, by simpa using hu⟩⟩
   simp [← hl]
theorem OwY.pushM {α : Type} {P : Program} {w : World} {B : Nat} {t ty e : TypeId} {z : Value} {sz bytes : Nat} {At : World → α → List Value → Prop} {v : Value} {xs : List α} {ts : List TypeId} {g : Nat} {x : α} {cs : List Value} (ht : P.underlying t = some (.slice e)) (hi : (P.info? e).map (fun i => (i.zero, i.size, i.bytes)) = some (some z, sz, bytes))
 (hzs : z.cells.size = sz) (hzu : NoU z.cells.toList) (h : OwY w B e sz At v xs) (hn : Nst ts At) (hne : ∀ t ∈ ts, t ≠ e) (hg : Own w g cs) (hx : At w x cs) (hcs : cs.length = sz) (h1 : ∀ u ∈ cs, u.oneCell' = true) (hu : NoU cs)
 (hl : xs.length + 1 ≤ 1099511627776) (hbt : bytes ≤ 128) (hB : B ≤ w.heap.size) :
 ∃ v' w', (Builtin.append_ #[t, t] ty #[v, .slice (some ⟨g, 0, none⟩) 1 1]).run P w = .ok v' w' ∧ OwY w' B e sz At v' (xs ++ [x]) ∧ Below B w w' ∧ KeepU w w' ∧ (∀ t, t ≠ e → KeepT t w w') ∧
  ∀ (k : TypeId) (R : Value → Option (DataW Unit × List MemPlace)) (b n : Nat) (D : DataW Unit), w.ownsMap P k R b n D → w'.ownsMap P k R b n D := by
 obtain ⟨rs, k1, k2, k3, k4⟩ := h
 obtain ⟨v', w', hr, ho, hs⟩ := push_any (P := P) (ty := ty) (c := 1) (m := 1) (news := cs) (A := some ⟨g, 0, none⟩) ht hi hzs k4 (by rw [hcs, Nat.one_mul]) (fun _ => ⟨_, rfl, fun j u hj => by
  rw [show (⟨g, 0, none⟩ : Addr).add j = ⟨g, j, none⟩ from by unfold Addr.add; split <;> simp_all]
  have hjl := (List.getElem?_eq_some_iff.1 hj).1
  rw [hg.cell j hjl, ← hj, List.getElem?_eq_getElem hjl]⟩) h1 hu hzu (by simp only [maxLen]; omega) (Nat.le_trans (Nat.mul_le_mul hl hbt) (by decide)) hB
 have hkt : ∀ t, t ≠ e → KeepT t w w' := fun t ht => KeepT.soft hs k4 ht
 refine ⟨v', w', hr, ⟨rs ++ [cs], by simp [k1], fun r hr => ?_, fun i a b => ?_, ?_⟩, hs.below, hs.keep, hkt, fun k R b n D hm => ?_⟩
 · rcases List.mem_append.1 hr with hr | hr
   · exact k2 r hr
   · rw [List.mem_singleton.1 hr]; exact hcs
 · rw [List.length_append, List.length_singleton] at a b
   by_cases hi : i < xs.length
   · rw [List.getElem_append_left hi, List.getElem_append_left (by omega)]
     exact hn _ _ _ _ (k3 i hi (by omega)) hs.keep fun t ht => hkt t (hne t ht)
   · have : i = xs.length := by omega
     subst this
     rw [List.getElem_append_right (Nat.le_refl _), List.getElem_append_right (by omega)]
     simp only [Nat.sub_self, k1, List.getElem_singleton]
     exact hn _ _ _ _ hx hs.keep fun t ht => hkt t (hne t ht)
 · rw [List.flatten_append, List.length_append, List.length_singleton]
   simpa using ho
 · have hlt := hm.lt
   obtain ⟨es, clock, hb, F, hs2, hD⟩ := hm
   refine ⟨es, clock, (hs.other b hlt fun hv => ?_).trans hb, F, hs2, hD⟩
   rcases k4.2 with ⟨rfl, _⟩ | ⟨g', cap, cur', rfl, h2, h3, _⟩
   · cases hv
   · simp only [Value.ownBlock, Option.some.injEq] at hv
     subst hv
     rw [h3] at hb
     cases hb
theorem KeepT.grown {t : TypeId} {w w' : World} {P : Program} {k : TypeId} {R : Value → Option (DataW Unit × List MemPlace)} {b n : Nat} {D : DataW Unit} (hg : w.grownBy w' (some b)) (hm : w.ownsMap P k R b n D) : KeepT t w w' := by
 refine ⟨hg.size, fun i cur fz e => (hg.block i (Array.getElem?_eq_some_iff.1 e).1 fun he => ?_).trans e⟩
 cases he
 obtain ⟨es, clock, hb, _⟩ := hm
 rw [e] at hb
 cases hb
theorem KeepU.grown {w w' : World} {P : Program} {k : TypeId} {R : Value → Option (DataW Unit × List MemPlace)} {b n : Nat} {D : DataW Unit} (hg : w.grownBy w' (some b)) (hm : w.ownsMap P k R b n D) : KeepU w w' := by
 intro p y hy
 have hlt := World.block_lt_of_cell? w p hy
 by_cases e : p.block = b
 · obtain ⟨es, clock, hb, _⟩ := hm
   simp only [World.cell?, e, hb] at hy
   cases hy
 · exact (World.cell?_of_block (hg.block p.block hlt fun he => e (Option.some.inj he))).trans hy
structure RdG (w0 W : World) (g bm : Nat) (t : Ps) (va vs : Value) (n : Nat) (D : DataW Unit) : Prop where
 blk : OwnT W g 145 [va, vs, .bool t.beg, .int .i64 t.na, .int .i64 t.ns, .map (some bm)]
 atoms : OwA W w0.heap.size va t.al
 steps : OwS W w0.heap.size vs t.sl
 bel : Below w0.heap.size w0 W
 map : W.ownsMap Tryz.prog 9 (plainElem Tryz.prog 3) bm n D
def RdIn (w0 W : World) (g bm : Nat) (t : Ps) : Prop := ∃ va vs n D, RdG w0 W g bm t va vs n D ∧ n ≤ t.al.length ∧ SeenM t.al D
theorem OwnT.below {w w' : World} {g : Nat} {t : TypeId} {cs : List Value} (h : OwnT w g t cs) (hb : Below w.heap.size w w') : OwnT w' g t cs := h.keep (KeepT.below hb)
theorem AtO.below {w w' : World} {d : AtomD} {cs : List Value} (h : AtO w d cs) (hb : Below w.heap.size w w') : AtO w' d cs := atO_nst _ _ _ _ h (KeepU.below hb) fun _ _ => KeepT.below hb
theorem StO.below {w w' : World} {d : StepD} {cs : List Value} (h : StO w d cs) (hb : Below w.heap.size w w') : StO w' d cs := stO_nst _ _ _ _ h (KeepU.below hb) fun _ _ => KeepT.below hb
theorem RdG.below {w0 W W' : World} {g bm n : Nat} {t : Ps} {va vs : Value} {D : DataW Unit} (h : RdG w0 W g bm t va vs n D) (hb : Below W.heap.size W W') : RdG w0 W' g bm t va vs n D :=
 ⟨h.blk.below hb, h.atoms.below atO_nst hb, h.steps.below stO_nst hb, h.bel.trans (hb.mono h.bel.size), h.map.kept (row := none) (below_grown hb) (by simp)⟩
theorem RdG.forms {w0 W : World} {g bm n : Nat} {t : Ps} {va vs : Value} {D : DataW Unit} (h : RdG w0 W g bm t va vs n D) : ∃ A a B b, va = .slice A t.al.length a ∧ vs = .slice B t.sl.length b := by
 obtain ⟨A, a, e1, _⟩ := h.atoms.form
 obtain ⟨B, b, e2, _⟩ := h.steps.form
 exact ⟨A, a, B, b, e1, e2⟩
theorem RdG.oth {w0 W W' : World} {g bm n : Nat} {t : Ps} {va vs : Value} {D : DataW Unit} (h : RdG w0 W g bm t va vs n D) (ho : Oth g W W') (hb : Below w0.heap.size w0 W') {u : Ps} (hal : u.al = t.al) (hsl : u.sl = t.sl)
 (hk : OwnT W' g 145 [va, vs, .bool u.beg, .int .i64 u.na, .int .i64 u.ns, .map (some bm)]) : RdG w0 W' g bm u va vs n D := by
 obtain ⟨A, a, B, b, e1, e2⟩ := h.forms
 have hu : KeepU W W' := ho.keepU h.blk (by rw [e1, e2]; intro y hy; simp at hy)
 have kt : ∀ ty, ty ≠ 145 → KeepT ty W W' := fun ty hn => ho.keepT h.blk hn
 refine ⟨hk, ?_, ?_, hb, ?_⟩
 · rw [hal]
   exact h.atoms.keep atO_nst hu (fun ty ht => kt ty (by rw [List.mem_singleton.1 ht]; decide)) (kt _ (by decide))
 · rw [hsl]
   exact h.steps.keep stO_nst hu (fun ty ht => kt ty (by simp only [List.mem_cons, List.not_mem_nil, or_false] at ht; rcases ht with rfl | rfl <;> decide)) (kt _ (by decide))
 · have hlt := h.map.lt
   obtain ⟨es, clock, hb1, F, hs2, hD⟩ := h.map
   refine ⟨es, clock, (ho.same bm hlt fun e => ?_).trans hb1, F, hs2, hD⟩
   subst e
   have := h.blk
   unfold OwnT at this
   rw [hb1] at this
   cases this
theorem reader_set {w0 W : World} {g bm n : Nat} {va vs : Value} {b : Bool} {x y : Int} {al : List AtomD} {sl : List StepD} {va' vs' : Value} {D : DataW Unit} (hk : OwnT W g 145 [va, vs, .bool b, .int .i64 x, .int .i64 y, .map (some bm)])
 (hu : NoU [va, vs, .bool b, .int .i64 x, .int .i64 y, .map (some bm)]) (ha : OwA W w0.heap.size va' al) (hs : OwS W w0.heap.size vs' sl) (hb : Below w0.heap.size w0 W) (hm : W.ownsMap Tryz.prog 9 (plainElem Tryz.prog 3) bm n D) (hg : w0.heap.size ≤ g) (i : Nat) (v : Value)
 (he : ([va, vs, .bool b, .int .i64 x, .int .i64 y, .map (some bm)] : List Value).set i v = [va', vs', .bool b, .int .i64 x, .int .i64 y, .map (some bm)]) :
 RdG w0 (W.setCell ⟨g, i, none⟩ v) g bm ⟨b, x, y, al, sl⟩ va' vs' n D := by
 have ho : Oth g W (W.setCell ⟨g, i, none⟩ v) := Oth.set W i v
 have hu' : KeepU W (W.setCell ⟨g, i, none⟩ v) := ho.keepU hk hu
 have kt : ∀ ty, ty ≠ 145 → KeepT ty W (W.setCell ⟨g, i, none⟩ v) := fun ty hn => ho.keepT hk hn
 have hk2 := hk.set i v
 rw [he] at hk2
 refine ⟨hk2, ?_, ?_, hb.setCell hg v, hm.setCell (fun e => ?_) v⟩
 · exact ha.keep atO_nst hu' (fun ty ht => kt ty (by rw [List.mem_singleton.1 ht]; decide)) (kt _ (by decide))
 · exact hs.keep stO_nst hu' (fun ty ht => kt ty (by simp only [List.mem_cons, List.not_mem_nil, or_false] at ht; rcases ht with rfl | rfl <;> decide)) (kt _ (by decide))
 · obtain ⟨es, clock, hb1, _⟩ := hm
   have e' : bm = g := e
   subst e'
   unfold OwnT at hk
   rw [hb1] at hk
   cases hk
theorem RdG.mapped {w0 W W' : World} {g bm n m : Nat} {t : Ps} {va vs : Value} {D E : DataW Unit} (h : RdG w0 W g bm t va vs n D) (hg : W.grownBy W' (some bm)) (hbm : w0.heap.size ≤ bm) (hm : W'.ownsMap Tryz.prog 9 (plainElem Tryz.prog 3) bm m E) : RdG w0 W' g bm t va vs m E :=
 ⟨h.blk.keep (KeepT.grown hg h.map), h.atoms.keep atO_nst (KeepU.grown hg h.map) (fun _ _ => KeepT.grown hg h.map) (KeepT.grown hg h.map), h.steps.keep stO_nst (KeepU.grown hg h.map) (fun _ _ => KeepT.grown hg h.map) (KeepT.grown hg h.map), h.bel.grown hg h.bel.size (fun k hk => by cases hk; exact hbm), hm⟩
set_option maxHeartbeats 1000000 in
set_option maxRecDepth 100000 in
theorem at_New (w : World) : Calls Tryz.prog 160 #[] w fun e w' => ∃ g, e = .returned (.slice (some ⟨g, 0, none⟩) 1 1) ∧ OwA w' w.heap.size (.slice (some ⟨g, 0, none⟩) 1 1) [tokT] ∧ Below w.heap.size w w' := by
 have hWh := Lib.hid (fun (W : World) => ratio_Whole 0 W (by omega) (by omega))
 rw [show ((0 : Int) : Rat) = 0 from rfl] at hWh
 go_enter Tryz.func160, Tryz.ntmps160
 go_wp2_with fail
 refine (hWh.out _).mono ?_
 rintro e W2 ⟨A1, c1, B1, d1, rfl, q1, q2, q3⟩
 have HE := Lib.hid (show OwA (W2.alloc (.cells #[.string ⟨#[]⟩, .slice none 0 0, .bool (decide ((0 : Rat).num < 0)), .slice A1 (dg (0 : Rat).num.natAbs).length c1, .slice B1 (dg (0 : Rat).den).length d1, .bool false] 84)) w.heap.size (.slice (some ⟨W2.heap.size, 0, none⟩) 1 1) [tokT] from by
  have hal : Below W2.heap.size W2 (W2.alloc (.cells #[.string ⟨#[]⟩, .slice none 0 0, .bool (decide ((0 : Rat).num < 0)), .slice A1 (dg (0 : Rat).num.natAbs).length c1, .slice B1 (dg (0 : Rat).den).length d1, .bool false] 84)) := (Below.refl _ W2).alloc (Nat.le_refl _) _
  refine OwY.one (cs := [.string ⟨#[]⟩, .slice none 0 0, .bool (decide ((0 : Rat).num < 0)), .slice A1 (dg (0 : Rat).num.natAbs).length c1, .slice B1 (dg (0 : Rat).den).length d1, .bool false]) (OwnT.mk _ _) ?_ rfl (fun y hy => by simp at hy) q3.size
  exact ⟨⟨#[]⟩, [], 0, false, none, 0, A1, c1, B1, d1, rfl, rfl, OwnF.nil _ _, ⟨q1.below hal, q2.below hal⟩, CanF.nil, (show (dg (0 : Rat).num.natAbs).length ≤ 137438953472 ∧ (dg (0 : Rat).den).length ≤ 137438953472 from by decide +kernel)⟩)
 have HB := Lib.hid (show Below w.heap.size w (W2.alloc (.cells #[.string ⟨#[]⟩, .slice none 0 0, .bool (decide ((0 : Rat).num < 0)), .slice A1 (dg (0 : Rat).num.natAbs).length c1, .slice B1 (dg (0 : Rat).den).length d1, .bool false] 84)) from q3.trans (((Below.refl _ W2).alloc (Nat.le_refl _) _).mono q3.size))
 generalize decide ((0 : Rat).num < 0) = qb at *
 generalize (dg (0 : Rat).num.natAbs).length = n1 at *
 generalize (dg (0 : Rat).den).length = n2 at *
 clear q1 q2 q3 hWh
 go_wp2
 go_ret
 exact ⟨_, rfl, HE.out, HB.out⟩
theorem chk_sole (d : AtomD) : chk [d] = 0 ↔ truthA d = true := by
 constructor
 · intro h
   by_cases ht : TabOk [d]
   · obtain ⟨_, ⟨_, h2⟩, _⟩ := ht
     exact h2
   · rw [chk_bad ht] at h; cases h
 · intro h
   exact chk_ok ((tabOk_K [d]).2 ⟨by simp, ⟨by simp, h⟩, TabK.one _⟩)
theorem chk_pair (d : AtomD) : chk [tokT, d] = 0 ↔ mayA d = true := by
 constructor
 · intro h
   by_cases ht : TabOk [tokT, d]
   · exact (((tabOk_K _).1 ht).2.2 1 (by simp) (by omega) (by simp)).1
   · rw [chk_bad ht] at h; cases h
 · intro h
   refine chk_ok ((tabOk_K [tokT, d]).2 ⟨by simp, ⟨by simp, truth_T⟩, fun j hj h1 h2 => ?_⟩)
   have : j = 1 := by simp at hj; omega
   subst this
   exact ⟨h, fun k hk hk0 => by omega⟩
theorem chk_val (l : List AtomD) : chk l = 0 ∨ chk l = 170 := by
 by_cases h : TabOk l
 · exact .inl (chk_ok h)
 · exact .inr (chk_bad h)
def ToldTk (w0 : World) (g bm : Nat) (t : Ps) (s : List UInt8) (e : Ending) (w' : World) : Prop :=
 (∃ u, e = .returned (.bool true) ∧ NextOk t s u ∧ RdIn w0 w' g bm u) ∨ (e = .returned (.bool false) ∧ (∀ u, ¬ NextOk t s u) ∧ Below w0.heap.size w0 w')
set_option maxHeartbeats 4000000 in
set_option maxRecDepth 100000 in
theorem take_head (w0 : World) (hL : Laid w0) (hP : PowTab w0) (g bm : Nat) (hg0 : w0.heap.size ≤ g) (t : Ps) (hf : Fine t) (ht : t.beg = false) (s : List UInt8) (hs : s.length ≤ 1048576) (w : World) (va vs : Value) (n : Nat) (D : DataW Unit) (hr : RdG w0 w g bm t va vs n D) (hn : n ≤ t.al.length) (hD : SeenM t.al D) :
 Calls Tryz.prog 93 #[.pointer (some ⟨g, 0, none⟩), .string ⟨s.toArray⟩] w (ToldTk w0 g bm t s) := by
 obtain rfl := hf.none ht
 clear hf ht
 have hH := Lib.hid (pr_readHead w0 hL hP g hg0 va vs (.map (some bm)) false 0 0 s w hr.blk hr.bel hs)
 have a2 := hr.blk.own.cell 2 (by simp)
 simp only [List.getElem_cons_succ, List.getElem_cons_zero] at a2
 have HR := Lib.hid hr
 have HD := Lib.hid hD
 have HN := Lib.hid hn
 clear hr hL hP hD hn
 generalize (⟨s.toArray⟩ : ByteArray) = SB at *
 have a2' : w.cell? ⟨g, 2, none⟩ = some (.bool false) := a2
 clear a2
 go_enter Tryz.func93, Tryz.ntmps93
 go_wp2_with fail
 refine hH.out.mono ?_
 rintro e W1 ⟨hb1, ho, (⟨a, b, rfl, hd, hk⟩ | ⟨rfl, hd⟩)⟩
 · have HE := Lib.hid (show ToldTk w0 g bm Ps.init s (.returned (.bool true)) W1 from .inl ⟨⟨true, a, b, [], []⟩, rfl, by unfold NextOk; rw [if_pos (show Ps.init.beg = false from rfl)]; exact ⟨a, b, hd, rfl⟩, va, vs, n, D, HR.out.oth ho (HR.out.bel.trans hb1) rfl rfl hk, HN.out, HD.out⟩)
   clear hH HR hk ho hb1
   go_wp2
   go_ret
   exact HE.out
 · have HE := Lib.hid (show ToldTk w0 g bm Ps.init s (.returned (.bool false)) W1 from .inr ⟨rfl, fun u hu => by
    unfold NextOk at hu
    rw [if_pos (show Ps.init.beg = false from rfl)] at hu
    obtain ⟨a, b, h, _⟩ := hu
    exact hd a b h, HR.out.bel.trans hb1⟩)
   clear hH HR ho hb1
   go_wp2
   go_ret
   exact HE.out
set_option maxHeartbeats 4000000 in
set_option maxRecDepth 100000 in
theorem take_none (w0 : World) (g bm : Nat) (t : Ps) (ht : t.beg = true) (h1 : ¬ (t.al.length : Int) < t.na) (h2 : ¬ (t.sl.length : Int) < t.ns) (s : List UInt8) (w : World) (va vs : Value) (n : Nat) (D : DataW Unit) (hr : RdG w0 w g bm t va vs n D) :
 Calls Tryz.prog 93 #[.pointer (some ⟨g, 0, none⟩), .string ⟨s.toArray⟩] w (ToldTk w0 g bm t s) := by
 obtain ⟨A, a, B, b, rfl, rfl⟩ := hr.forms
 have hX : ∀ u, ¬ NextOk t s u := fun u hu => by
  unfold NextOk at hu
  rw [if_neg (by rw [ht]; decide), if_neg h1, if_neg h2] at hu
  exact hu
 have HE := Lib.hid (fun (W' : World) (hb : Below w.heap.size w W') => show ToldTk w0 g bm t s (.returned (.bool false)) W' from .inr ⟨rfl, hX, hr.bel.trans (hb.mono hr.bel.size)⟩)
 have a0 := hr.blk.own.cell 0 (by simp)
 have a1 := hr.blk.own.cell 1 (by simp)
 have a2 := hr.blk.own.cell 2 (by simp)
 have a3 := hr.blk.own.cell 3 (by simp)
 have a4 := hr.blk.own.cell 4 (by simp)
 simp only [List.getElem_cons_succ, List.getElem_cons_zero] at a0 a1 a2 a3 a4
 rw [ht] at a2
 clear hr hX ht
 generalize (⟨s.toArray⟩ : ByteArray) = SB at *
 generalize t.al.length = la at *
 generalize t.sl.length = ls at *
 generalize t.na = na at *
 generalize t.ns = ns at *
 go_enter Tryz.func93, Tryz.ntmps93
 go_wp2_with fail
 go_quiet (fail)
 have HQ1 := Lib.hid (below_drewN (Below.refl w.heap.size w) nq)
 generalize hW : w.drewN nq = W1 at HQ1 ⊢
 clear hW
 have a0 := cell_below HQ1.out a0
 have a1 := cell_below HQ1.out a1
 have a2 := cell_below HQ1.out a2
 have a3 := cell_below HQ1.out a3
 have a4 := cell_below HQ1.out a4
 go_wp2_with fail
 go_quiet (fail)
 have HQ2 := Lib.hid (HQ1.out.trans ((below_drewN (Below.refl W1.heap.size W1) nq).mono HQ1.out.size))
 generalize hW : W1.drewN nq = W2 at HQ2 ⊢
 clear hW
 go_wp2
 go_ret
 exact HE.out _ HQ2.out
theorem info_Atom6 : (Tryz.prog.info? 84).map (fun i => (i.zero, i.size, i.bytes)) = some (some (.agg #[.string ⟨#[]⟩, .slice none 0 0, .bool false, .slice none 0 0, .slice none 0 0, .bool false]), 6, 104) := by kernel_rfl
theorem as98_98 (v : Value) (w : World) : (Instr.typeAssert (.iface 98 v) 203 98 true).run Tryz.prog w = .ok (.tuple #[v, .bool true]) w := by kernel_rfl
theorem meth98 (v : Value) (w : World) : (method 427 98 v "fulcrum/proof.text").run Tryz.prog w = .ok (48, v) w := by kernel_rfl
def OkA (t : Ps) (d : AtomD) : Prop := if t.al.length = 0 then truthA d = true else mayA d = true
theorem next_atom {t : Ps} {s : List UInt8} (hb : t.beg = true) (h1 : (t.al.length : Int) < t.na) {d : AtomD} (hd : IsAtom s d) (ho : OkA t d) (hn : s ∉ t.al.map lnA) : NextOk t s ⟨t.beg, t.na, t.ns, t.al ++ [d], t.sl⟩ := by
 unfold NextOk
 rw [if_neg (by rw [hb]; decide), if_pos h1]
 exact ⟨d, hd, ho, by rw [hd.2]; exact hn, rfl⟩
theorem next_atom_inv {t : Ps} {s : List UInt8} (hb : t.beg = true) (h1 : (t.al.length : Int) < t.na) {u : Ps} (h : NextOk t s u) : ∃ d, IsAtom s d ∧ OkA t d ∧ s ∉ t.al.map lnA := by
 unfold NextOk at h
 rw [if_neg (by rw [hb]; decide), if_pos h1] at h
 obtain ⟨d, hd, ho, hn, _⟩ := h
 exact ⟨d, hd, ho, by rw [← hd.2]; exact hn⟩
set_option maxHeartbeats 8000000 in
set_option maxRecDepth 100000 in
theorem take_atom (w0 : World) (hL : Laid w0) (g bm : Nat) (hg0 : w0.heap.size ≤ g) (hbm : w0.heap.size ≤ bm) (t : Ps) (hf : Fine t) (ht : t.beg = true) (h1 : (t.al.length : Int) < t.na) (s : List UInt8) (hs : s.length ≤ 67108864) (hbig : BigA s) (w : World) (va vs : Value) (n : Nat) (D : DataW Unit) (hr : RdG w0 w g bm t va vs n D) (hn : n ≤ t.al.length) (hD : SeenM t.al D) :
 Calls Tryz.prog 93 #[.pointer (some ⟨g, 0, none⟩), .string ⟨s.toArray⟩] w (ToldTk w0 g bm t s) := by
 obtain ⟨A, a, B, b, rfl, rfl⟩ := hr.forms
 have hmany := hf.many ht
 have HX := Lib.hid (fun (W' : World) (hb : Below w0.heap.size w0 W') (hx : ∀ d, IsAtom s d → OkA t d → s ∈ t.al.map lnA) => show ToldTk w0 g bm t s (.returned (.bool false)) W' from .inr ⟨rfl, fun u hu => by
  obtain ⟨d, hd, ho, hn⟩ := next_atom_inv ht h1 hu
  exact hn (hx d hd ho), hb⟩)
 have HYes := Lib.hid (fun d (hd : IsAtom s d) (ho : OkA t d) (hn : s ∉ t.al.map lnA) => next_atom ht h1 hd ho hn)
 have hR := Lib.hid (fun (W : World) (k : Laid W) => pr_readAtom s W hs hbig k)
 have hkey : keyOf Tryz.prog 9 (.string ⟨s.toArray⟩) = some (.string s) := WideMaps.keyOf_string_mk Tryz.underlying9 (by show s.toArray.size ≤ _; unfold maxLen; rw [List.size_toArray]; omega)
 have hSB : (⟨s.toArray⟩ : ByteArray).toList = s := ByteArray.toList_mk s
 have HR := Lib.hid hr
 have HD := Lib.hid hD
 have HL := Lib.hid hL
 have HBg := Lib.hid hbig
 clear hbig
 obtain ⟨beg, na, ns, al, sl⟩ := t
 dsimp only at *
 subst ht
 have hla : al.length ≤ 262144 := by omega
 have a0 := hr.blk.own.cell 0 (by simp)
 have a2 := hr.blk.own.cell 2 (by simp)
 have a3 := hr.blk.own.cell 3 (by simp)
 simp only [List.getElem_cons_succ, List.getElem_cons_zero] at a0 a2 a3
 clear hr hD hL hmany hf
 generalize (⟨s.toArray⟩ : ByteArray) = SB at *
 have HKey := Lib.hid hkey
 clear hkey
 go_enter Tryz.func93, Tryz.ntmps93
 go_wp2_with fail
 go_quiet (fail)
 have HQ1 := Lib.hid (below_drewN (Below.refl w.heap.size w) nq)
 generalize hW : w.drewN nq = W1 at HQ1 ⊢
 clear hW
 replace HR := Lib.hid (HR.out.below HQ1.out)
 clear HQ1 a0 a2 a3
 go_wp2_with fail
 refine (hR.out W1 (HL.out.below HR.out.bel)).mono ?_
 rintro e W2 (⟨d, E, j, A2, c2, B2, e2, rfl, hat, hax, hnm, hcan, hb, hone⟩ | ⟨rfl, hb, hno⟩)
 · replace HR := Lib.hid (HR.out.below hb)
   have HT := Lib.hid (pr_atomText d E j A2 c2 B2 e2 W2 hax hnm)
   have HAt := Lib.hid hat
   have HCan := Lib.hid (show (lnA d = s → IsAtom s d) ∧ ∀ d', IsAtom s d' → d = d' from ⟨fun e => ⟨hcan e, e⟩, hone⟩)
   unfold atc at HT HAt ⊢
   simp only [List.toArray] at HT ⊢
   clear hax hb hat hnm hcan hone hR HL
   obtain ⟨ln, hln⟩ : ∃ ln, ln = lnA d := ⟨_, rfl⟩
   rw [← hln] at HT HCan
   have HLn := Lib.hid hln
   have hLB : (⟨ln.toArray⟩ : ByteArray).toList = ln := ByteArray.toList_mk ln
   clear hln
   generalize (⟨ln.toArray⟩ : ByteArray) = LB at *
   generalize d.1.1.1 = nm at *
   generalize d.1.1.2.length = n0 at *
   generalize d.1.2.1.1 = qb at *
   generalize d.1.2.1.2.length = n1 at *
   generalize d.1.2.2.length = n2 at *
   generalize d.2 = st at *
   have hm98 := meth98
   have ha98 := as98_98
   go_wp2_with fail
   refine HT.out.mono ?_
   rintro e W3 ⟨rfl, hb⟩
   replace HR := Lib.hid (HR.out.below hb)
   replace HAt := Lib.hid (HAt.out.below hb)
   clear hb HT
   by_cases heq : ln = s
   · have hte : (ln == s) = true := by rw [heq]; simp
     have hIs := HCan.out.1 heq
     have HOnly := Lib.hid (fun d' (hd' : IsAtom s d') => HCan.out.2 d' hd')
     have HIs := Lib.hid hIs
     have hlnA : lnA d = s := hIs.2
     have HLA := Lib.hid hlnA
     have HR0 := Lib.hid HR.out.bel.size
     have HB6 := Lib.hid (OwnT.mk (w := W3) [.string nm, .slice E n0 j, .bool qb, .slice A2 n1 c2, .slice B2 n2 e2, .bool st] 98)
     have hal := (Below.refl W3.heap.size W3).alloc (Nat.le_refl _) (.cells #[.string nm, .slice E n0 j, .bool qb, .slice A2 n1 c2, .slice B2 n2 e2, .bool st] 98)
     replace HR := Lib.hid (HR.out.below hal)
     replace HAt := Lib.hid (HAt.out.below hal)
     have hg6 : w0.heap.size ≤ W3.heap.size := HR0.out
     clear heq hIs hlnA HCan HLn hal
     simp only [List.toArray] at HB6 HR HAt
     go_upto_region 13 with fail
     generalize hgt : World.alloc _ _ = W at HB6 HR HAt ⊢
     clear hgt
     generalize W3.heap.size = g6 at *
     have hone6 := HAt.out.one
     have HF := Lib.hid (show Fr w0 W [(g, [.slice A al.length a, .slice B sl.length b, .bool true, .int .i64 na, .int .i64 ns, .map (some bm)]), (g6, [.string nm, .slice E n0 j, .bool qb, .slice A2 n1 c2, .slice B2 n2 e2, .bool st])] from ⟨HR.out.bel, fun p hp => by
      simp only [List.mem_cons, List.not_mem_nil, or_false] at hp
      rcases hp with rfl | rfl
      · exact HR.out.blk.own
      · exact HB6.out.own⟩)
     obtain ⟨al2, hal2⟩ : ∃ x, x = al ++ [d] := ⟨_, rfl⟩
     have HAl := Lib.hid hal2
     have HAll := Lib.hid (show al2.length = al.length + 1 from by rw [hal2, List.length_append]; rfl)
     clear hal2 HR0
     replace HR := Lib.hid (HR.out.below (Below.drew (Below.refl _ _)))
     replace HB6 := Lib.hid (HB6.out.below (Below.drew (Below.refl _ _)))
     replace HAt := Lib.hid (HAt.out.below (Below.drew (Below.refl _ _)))
     have HF_ := Lib.hid HF.out.drew
     clear HF
     have HF := HF_
     clear HF_
     refine start_ (n := 14) (S := fun w' => w'.cell? ⟨g, 0, none⟩ = some (.slice A al.length a) ∧ w'.cell? ⟨g, 1, none⟩ = some (.slice B sl.length b) ∧ w'.cell? ⟨g, 2, none⟩ = some (.bool true) ∧ w'.cell? ⟨g, 3, none⟩ = some (.int .i64 na) ∧ w'.cell? ⟨g, 4, none⟩ = some (.int .i64 ns) ∧ w'.cell? ⟨g, 5, none⟩ = some (.map (some bm)) ∧ w'.cell? ⟨g6, 0, none⟩ = some (.string nm) ∧ w'.cell? ⟨g6, 1, none⟩ = some (.slice E n0 j) ∧ w'.cell? ⟨g6, 2, none⟩ = some (.bool qb) ∧ w'.cell? ⟨g6, 3, none⟩ = some (.slice A2 n1 c2) ∧ w'.cell? ⟨g6, 4, none⟩ = some (.slice B2 n2 e2) ∧ w'.cell? ⟨g6, 5, none⟩ = some (.bool st)) (ds := [9, 13]) #[false, false, false, false, false, false, false, false, false, false, false, false, false, false] (by kernel_rfl) rfl rfl ⟨HF.out.cellN 0 rfl 0 rfl, HF.out.cellN 0 rfl 1 rfl, HF.out.cellN 0 rfl 2 rfl, HF.out.cellN 0 rfl 3 rfl, HF.out.cellN 0 rfl 4 rfl, HF.out.cellN 0 rfl 5 rfl, HF.out.cellN 1 rfl 0 rfl, HF.out.cellN 1 rfl 1 rfl, HF.out.cellN 1 rfl 2 rfl, HF.out.cellN 1 rfl 3 rfl, HF.out.cellN 1 rfl 4 rfl, HF.out.cellN 1 rfl 5 rfl⟩ (fun hHeld => ?_)
     generalize World.drew _ = W at *
     refine pu_ (v := ?_) (a' := ?_) 0 (some 55) rfl rfl ?_ ?_ ?_
     rotate_left; · intro w'; go_simp; with_reducible rfl
     rotate_left
     · simp only [Act.put, sa_, sb_, sc_]
       rfl
     refine pu_ (v := ?_) (a' := ?_) 1 (some 56) rfl rfl ?_ ?_ ?_
     rotate_left; · intro w'; go_simp; with_reducible rfl
     rotate_left
     · simp only [Act.put, sa_, sb_, sc_]
       rfl
     refine pu_ (v := ?_) (a' := ?_) 2 (some 57) rfl rfl ?_ ?_ ?_
     rotate_left; · intro w'; go_simp; with_reducible rfl
     rotate_left
     · simp only [Act.put, sa_, sb_, sc_]
       rfl
     refine pu_ (v := ?_) (a' := ?_) 3 (some 58) rfl rfl ?_ ?_ ?_
     rotate_left; · intro w'; go_simp; with_reducible rfl
     rotate_left
     · simp only [Act.put, sa_, sb_, sc_]
       rfl
     refine pu_ (v := ?_) (a' := ?_) 4 (some 59) rfl rfl ?_ ?_ ?_
     rotate_left; · intro w'; go_simp; with_reducible rfl
     rotate_left
     · simp only [Act.put, sa_, sb_, sc_]
       rfl
     refine pu_ (v := ?_) (a' := ?_) 6 (some 61) rfl rfl ?_ ?_ ?_
     rotate_left; · intro w'; go_simp; with_reducible rfl
     rotate_left
     · simp only [Act.put, sa_, sb_, sc_]
       rfl
     refine tk_ (v := ?_) (a' := ?_) 5 (some 60) rfl rfl ?_ hHeld ?_ ?_
     rotate_left
     · rintro w' ⟨s0, s1, s2, s3, s4, s5, s6, s7, s8, s9, s10, s11⟩; go_simp; with_reducible rfl
     rotate_left
     · simp only [Act.put, sa_, sb_, sc_]
       rfl
     refine tk_ (v := ?_) (a' := ?_) 7 (some 62) rfl rfl ?_ hHeld ?_ ?_
     rotate_left
     · rintro w' ⟨s0, s1, s2, s3, s4, s5, s6, s7, s8, s9, s10, s11⟩; go_simp; with_reducible rfl
     rotate_left
     · simp only [Act.put, sa_, sb_, sc_]
       rfl
     refine on_ 8 (N := (some 63)) rfl rfl (fun K hK => ?_)
     refine value_ (v := ?_) (w1 := ?_) (by rfl) rfl ?_ ?_
     rotate_left
     rotate_left
     · go_simp
       first | rfl | (refine ⟨?_, ?_⟩ <;> rfl)
     have hal := (Below.refl (W).heap.size W).alloc (Nat.le_refl _) (.cells #[.string nm, .slice E n0 j, .bool qb, .slice A2 n1 c2, .slice B2 n2 e2, .bool st] 84)
     have HS := Lib.hid (OwnT.mk (w := W) [.string nm, .slice E n0 j, .bool qb, .slice A2 n1 c2, .slice B2 n2 e2, .bool st] 84)
     replace HF := Lib.hid (HF.out.below hal)
     replace HR := Lib.hid (HR.out.below hal)
     replace HB6 := Lib.hid (HB6.out.below hal)
     replace HAt := Lib.hid (HAt.out.below hal)
     clear hal
     refine hK.out _ _ ⟨HF.out.cellN 0 rfl 0 rfl, HF.out.cellN 0 rfl 1 rfl, HF.out.cellN 0 rfl 2 rfl, HF.out.cellN 0 rfl 3 rfl, HF.out.cellN 0 rfl 4 rfl, HF.out.cellN 0 rfl 5 rfl, HF.out.cellN 1 rfl 0 rfl, HF.out.cellN 1 rfl 1 rfl, HF.out.cellN 1 rfl 2 rfl, HF.out.cellN 1 rfl 3 rfl, HF.out.cellN 1 rfl 4 rfl, HF.out.cellN 1 rfl 5 rfl⟩ (fun hHeld => ?_)
     clear hK K
     refine norm_ (a' := ?_) ?_ ?_
     rotate_left
     · show Act.put _ (some 63) _ = _
       simp only [Act.put, sa_, sb_, sc_]
       rfl
     refine ls_ 9 (N := (some 64)) rfl rfl (fun K hK => ?_)
     obtain ⟨v_, W1, hpush, hO', hb', hku, hkt, hmp⟩ := OwY.pushM (P := Tryz.prog) (ty := 22) (x := d) Tryz.underlying22 info_Atom6 rfl (fun y hy => by simp [Value.cells] at hy) HR.out.atoms atO_nst (fun ty ht => by rw [List.mem_singleton.1 ht]; decide) HS.out.own HAt.out rfl hone6.1 hone6.2 (show al.length + 1 ≤ 1099511627776 by omega) (by decide) HR.out.bel.size
     refine push_ (by rfl) rfl rfl rfl rfl hpush ?_
     clear hpush
     rw [show (Ps.mk true na ns al sl).al ++ [d] = al2 from HAl.out.symm] at hO'
     obtain ⟨A5, c5, rfl, h5⟩ := hO'.form
     have HK1 := Lib.hid (show OwnT _ g 145 [.slice A al.length a, .slice B sl.length b, .bool true, .int .i64 na, .int .i64 ns, .map (some bm)] from HR.out.blk.keep (hkt _ (by decide)))
     have HS1 := Lib.hid (show OwS _ w0.heap.size (.slice B sl.length b) sl from HR.out.steps.keep stO_nst hku (fun ty ht => hkt ty (by simp only [List.mem_cons, List.not_mem_nil, or_false] at ht; rcases ht with rfl | rfl <;> decide)) (hkt _ (by decide)))
     have HM1 := Lib.hid (hmp _ _ _ _ _ HR.out.map)
     have HB1 := Lib.hid (HR.out.bel.trans hb')
     have HB61 := Lib.hid (HB6.out.keep (hkt 98 (by decide)))
     have HAt1 := Lib.hid (atO_nst _ _ _ _ HAt.out hku fun ty ht => hkt ty (by rw [List.mem_singleton.1 ht]; decide))
     have HO1 := Lib.hid hO'
     clear hO' hb' hku hkt hmp HR HF HB6 HAt HS h5
     refine hK.out _ _ ?_
     clear hK K
     refine norm_ (a' := ?_) ?_ ?_
     rotate_left
     · show Act.put _ (some 64) _ = _
       simp only [Act.put, sa_, sb_, sc_]
       rfl
     refine pu_ (v := ?_) (a' := ?_) 10 (some 65) rfl rfl ?_ ?_ ?_
     rotate_left; · intro w'; go_simp; with_reducible rfl
     rotate_left
     · simp only [Act.put, sa_, sb_, sc_]
       rfl
     refine pu_ (v := ?_) (a' := ?_) 11 (some 66) rfl rfl ?_ ?_ ?_
     rotate_left; · intro w'; go_simp; with_reducible rfl
     rotate_left
     · simp only [Act.put, sa_, sb_, sc_]
       rfl
     refine pu_ (v := ?_) (a' := ?_) 12 (some 67) rfl rfl ?_ ?_ ?_
     rotate_left; · intro w'; go_simp; with_reducible rfl
     rotate_left
     · simp only [Act.put, sa_, sb_, sc_]
       rfl
     refine ls_ 13 (N := none) rfl rfl (fun K hK => ?_)
     have hf := HK1.out.own.frozen 0
     have hd := HK1.out.own.cell 0 (by simp)
     refine skip_ (w1 := ?_) (by rfl) rfl ?_ ?_
     rotate_left
     · go_simp
       rfl
     refine hK.out _ _ ?_
     clear hK K
     refine done_ (by kernel_rfl) ?_
     have HR2 := Lib.hid (reader_set HK1.out (fun y hy => by simp at hy) HO1.out HS1.out HB1.out HM1.out hg0 0 (.slice A5 al2.length c5) rfl)
     have HB62 := Lib.hid (HB61.out.keep (KeepT.set HK1.out (by decide) 0 (.slice A5 al2.length c5)))
     have HAt2 := Lib.hid (atO_nst _ _ _ _ HAt1.out ((Oth.set (g := g) W1 0 (.slice A5 al2.length c5)).keepU HK1.out (fun y hy => by simp at hy)) fun ty ht => KeepT.set HK1.out (by rw [List.mem_singleton.1 ht]; decide) 0 _)
     clear HK1 HO1 HS1 HB1 HM1 HB61 HAt1 hf hd hHeld
     generalize World.setCell _ _ _ = W5 at HR2 HB62 HAt2 ⊢
     obtain ⟨c0, hc0, hc0b⟩ : ∃ c0 : Int, (∀ c, D.atKey (.string s) (.lit (.int .i64 0)) = .lit (.int .i64 c) → c = c0) ∧ ((c0 = 0 ∧ s ∉ al.map lnA) ∨ (c0 = 1 ∧ s ∈ al.map lnA)) := by
      obtain ⟨m1, m2, m3⟩ := HD.out
      by_cases hin : Maps.has D (.string s) = true
      · obtain ⟨h1, h2⟩ := m3 s hin
        exact ⟨1, fun c hc => by rw [h2] at hc; simpa using hc.symm, .inr ⟨rfl, h1⟩⟩
      · have hin' : Maps.has D (.string s) = false := by simpa using hin
        refine ⟨0, fun c hc => by rw [Maps.atKey_of_not_has hin'] at hc; simpa using hc.symm, .inl ⟨rfl, fun hm => ?_⟩⟩
        obtain ⟨x, hx, e⟩ := List.mem_map.1 hm
        have := m2 x hx
        rw [e, hin'] at this
        cases this
     have hwf : (Lit.int .i64 (c0 + 1)).wf = true := by rcases hc0b with ⟨rfl, _⟩ | ⟨rfl, _⟩ <;> decide
     have HC0b := Lib.hid hc0b
     have hown := HR2.out.map
     obtain ⟨c, hrun, hat, _⟩ := hown.lookup_int strKey Tryz.underlying143 Tryz.underlying3 (zeroI _) HKey.out
     obtain rfl : c = c0 := hc0 c hat
     have hcb0 : (0 : Int) ≤ c := by omega
     have hcb1 : c ≤ (1 : Int) := by omega
     have x5 := HR2.out.blk.own.cell 5 (by simp)
     simp only [List.getElem_cons_succ, List.getElem_cons_zero] at x5
     have hnm : n < maxLen := by unfold maxLen; omega
     clear hc0 hc0b hat
     go_upto_region 15 with (at_mapUpdate; refine wpList_mapUpdate_own _ rfl _ _ _ 143 rfl 9 3 strKey Tryz.underlying143 _ bm n D rfl hown hnm _ _ _ rfl rfl HKey.out _ [] (plainElem_int Tryz.underlying3 hwf) ?_; intro w1 hown1 hgrow1; clear hrun)
     have HR3 := Lib.hid (HR2.out.mapped hgrow1 hbm hown1)
     have HB63 := Lib.hid (HB62.out.keep (KeepT.grown hgrow1 HR2.out.map))
     have HAt3 := Lib.hid (atO_nst _ _ _ _ HAt2.out (KeepU.grown hgrow1 HR2.out.map) fun _ _ => KeepT.grown hgrow1 HR2.out.map)
     clear hgrow1 hown1 hown x5 HR2 HB62 HAt2
     have f0 := HB63.out.own.cell 0 (by simp)
     have f1 := HB63.out.own.cell 1 (by simp)
     have f2 := HB63.out.own.cell 2 (by simp)
     have f3 := HB63.out.own.cell 3 (by simp)
     have f4 := HB63.out.own.cell 4 (by simp)
     have f5 := HB63.out.own.cell 5 (by simp)
     simp only [List.getElem_cons_succ, List.getElem_cons_zero] at f0 f1 f2 f3 f4 f5
     have hal := (Below.refl w1.heap.size w1).alloc (Nat.le_refl _) (.cells #[.string nm, .slice E n0 j, .bool qb, .slice A2 n1 c2, .slice B2 n2 e2, .bool st] 84)
     have HS := Lib.hid (OwY.one (sz := 6) (B := w0.heap.size) (OwnT.mk (w := w1) [.string nm, .slice E n0 j, .bool qb, .slice A2 n1 c2, .slice B2 n2 e2, .bool st] 84) (HAt3.out.below hal) rfl hone6.2 HR3.out.bel.size)
     have HR4 := Lib.hid (HR3.out.below hal)
     have HB64 := Lib.hid (HB63.out.below hal)
     have HAt4 := Lib.hid (HAt3.out.below hal)
     simp only [List.toArray] at HS
     clear hal HR3 HB63 HAt3
     go_upto_region 16 with fail
     generalize hgt : World.alloc w1 _ = W6 at HS HR4 HB64 HAt4 ⊢
     clear hgt f0 f1 f2 f3 f4 f5
     generalize w1.heap.size = gb at *
     obtain ⟨L, hLa, hLb⟩ : ∃ L : List AtomD, (al.length = 0 → L = [d]) ∧ (al.length ≠ 0 → L = [tokT, d]) := ⟨if al.length = 0 then [d] else [tokT, d], fun h => if_pos h, fun h => if_neg h⟩
     have HLa := Lib.hid hLa
     have HLb := Lib.hid hLb
     have HLi := Lib.hid (show chk L = 0 ↔ OkA ⟨true, na, ns, al, sl⟩ d from by
      unfold OkA
      by_cases h0 : al.length = 0
      · rw [hLa h0, if_pos (show (Ps.mk true na ns al sl).al.length = 0 from h0)]; exact chk_sole d
      · rw [hLb h0, if_neg (show ¬ (Ps.mk true na ns al sl).al.length = 0 from h0)]; exact chk_pair d)
     have HLg := Lib.hid (show (∀ x ∈ L, GoodA x) ∧ L.length ≤ 2 from by
      have gd : GoodA d := by
       rcases HBg.out with h | ⟨d0, g1, g2⟩
       · exact goodA_line HIs.out.1 (by rw [HLA.out]; exact h)
       · rw [HOnly.out d0 g1]; exact g2
      by_cases h0 : al.length = 0
      · rw [hLa h0]
        exact ⟨fun x hx => by rw [List.mem_singleton.1 hx]; exact gd, by simp⟩
      · rw [hLb h0]
        refine ⟨fun x hx => ?_, by simp⟩
        simp only [List.mem_cons, List.not_mem_nil, or_false] at hx
        rcases hx with rfl | rfl
        · exact goodA_line (.inl rfl) (by decide)
        · exact gd)
     clear hLa hLb
     have x0 := HR4.out.blk.own.cell 0 (by simp)
     simp only [List.getElem_cons_zero] at x0
     go_upto_if 84 with (fail)
     go_cut [7] (fun s7 wx => ∃ A7 c7, s7 = .slice A7 L.length c7 ∧ Hid (OwA wx w0.heap.size (.slice A7 L.length c7) L) ∧ Hid (RdG w0 wx g bm ⟨true, na, ns, al2, sl⟩ (.slice A5 al2.length c5) (.slice B sl.length b) (n + 1) (D.put (.string s) (.lit (.int .i64 (c + 1))))))
     case first =>
      clear HX HYes HD HKey HOnly HIs HLA HLi HLg HC0b
      by_cases h0 : al.length = 0
      · have hl1 : ¬ (1 : Int) < (al2.length : Int) := by have := HAll.out; omega
        have HL1 := Lib.hid (HLa.out h0)
        clear h0 HLa HLb
        go_wp2
        go_meet
        case rel => exact ⟨some ⟨gb, 0, none⟩, 1, by rw [HL1.out]; rfl, by rw [HL1.out]; exact HS.out, HR4.out⟩
      · have hl1 : (1 : Int) < (al2.length : Int) := by have := HAll.out; omega
        have HL1 := Lib.hid (HLb.out h0)
        have HF := Lib.hid (show Fr W6 W6 [(g6, [.string nm, .slice E n0 j, .bool qb, .slice A2 n1 c2, .slice B2 n2 e2, .bool st])] from ⟨Below.refl _ _, fun p hp => by
         rw [List.mem_singleton.1 hp]
         exact HB64.out.own⟩)
        clear h0 HLa HLb HS HB64
        go_wp2_with fail
        replace HAt4 := Lib.hid (HAt4.out.below (Below.drew (Below.refl _ _)))
        have HF_ := Lib.hid HF.out.drew
        clear HF
        have HF := HF_
        clear HF_
        refine start_ (n := 6) (S := fun w' => w'.cell? ⟨g6, 0, none⟩ = some (.string nm) ∧ w'.cell? ⟨g6, 1, none⟩ = some (.slice E n0 j) ∧ w'.cell? ⟨g6, 2, none⟩ = some (.bool qb) ∧ w'.cell? ⟨g6, 3, none⟩ = some (.slice A2 n1 c2) ∧ w'.cell? ⟨g6, 4, none⟩ = some (.slice B2 n2 e2) ∧ w'.cell? ⟨g6, 5, none⟩ = some (.bool st)) (ds := [4]) #[false, false, false, false, false, false] (by kernel_rfl) rfl rfl ⟨HF.out.cellN 0 rfl 0 rfl, HF.out.cellN 0 rfl 1 rfl, HF.out.cellN 0 rfl 2 rfl, HF.out.cellN 0 rfl 3 rfl, HF.out.cellN 0 rfl 4 rfl, HF.out.cellN 0 rfl 5 rfl⟩ (fun hHeld => ?_)
        generalize World.drew _ = W at *
        refine pu_ (v := ?_) (a' := ?_) 1 (some 86) rfl rfl ?_ ?_ ?_
        rotate_left; · intro w'; go_simp; with_reducible rfl
        rotate_left
        · simp only [Act.put, sa_, sb_, sc_]
          rfl
        refine tk_ (v := ?_) (a' := ?_) 2 (some 87) rfl rfl ?_ hHeld ?_ ?_
        rotate_left
        · rintro w' ⟨s0, s1, s2, s3, s4, s5⟩; go_simp; with_reducible rfl
        rotate_left
        · simp only [Act.put, sa_, sb_, sc_]
          rfl
        refine two_ (i := 0) (j := 3) (Ni := (some 85)) (Nj := (some 88)) #[true, true, true, false, false, false] #[false, true, true, true, false, false] rfl rfl rfl rfl (by kernel_rfl) (by decide) (by decide) (fun K hK => ?_) (fun K hK => ?_)
        · refine goes_ Tryz.func160 (by kernel_rfl) rfl #[] (by rfl) rfl rfl (by (try simp only [List.map_toArray, List.map_cons, List.map_nil]); first | done | rfl) ?_
          refine (at_New W).mono ?_
          rintro e W1 ⟨gN, rfl, hN, hbN⟩
          refine ⟨_, rfl, ?_⟩
          have HN := Lib.hid (OwY.mono hN HF.out.bel.size)
          replace HF := Lib.hid (HF.out.below hbN)
          replace HAt4 := Lib.hid (HAt4.out.below hbN)
          try replace HS2 := Lib.hid (HS2.out.below hbN)
          clear hN hbN
          refine hK.out _ _ ⟨HF.out.cellN 0 rfl 0 rfl, HF.out.cellN 0 rfl 1 rfl, HF.out.cellN 0 rfl 2 rfl, HF.out.cellN 0 rfl 3 rfl, HF.out.cellN 0 rfl 4 rfl, HF.out.cellN 0 rfl 5 rfl⟩ (fun hHeld => ?_)
          clear hK K
          refine norm_ (a' := ?_) ?_ ?_
          rotate_left
          · show Act.put _ (some 85) _ = _
            simp only [Act.put, sa_, sb_, sc_]
            rfl
          refine on_ 3 (N := (some 88)) rfl rfl (fun K hK => ?_)
          refine value_ (v := ?_) (w1 := ?_) (by rfl) rfl ?_ ?_
          rotate_left
          rotate_left
          · go_simp
            first | rfl | (refine ⟨?_, ?_⟩ <;> rfl)
          have hal := (Below.refl (W1).heap.size W1).alloc (Nat.le_refl _) (.cells #[.string nm, .slice E n0 j, .bool qb, .slice A2 n1 c2, .slice B2 n2 e2, .bool st] 84)
          have HS2 := Lib.hid (show OwnT ((W1).alloc (.cells #[.string nm, .slice E n0 j, .bool qb, .slice A2 n1 c2, .slice B2 n2 e2, .bool st] 84)) (W1).heap.size 84 [.string nm, .slice E n0 j, .bool qb, .slice A2 n1 c2, .slice B2 n2 e2, .bool st] from OwnT.mk _ _)
          replace HF := Lib.hid (HF.out.below hal)
          replace HAt4 := Lib.hid (HAt4.out.below hal)
          try replace HN := Lib.hid (OwY.below HN.out atO_nst hal)
          refine hK.out _ _ ⟨HF.out.cellN 0 rfl 0 rfl, HF.out.cellN 0 rfl 1 rfl, HF.out.cellN 0 rfl 2 rfl, HF.out.cellN 0 rfl 3 rfl, HF.out.cellN 0 rfl 4 rfl, HF.out.cellN 0 rfl 5 rfl⟩ (fun hHeld => ?_)
          clear hK K
          refine norm_ (a' := ?_) ?_ ?_
          rotate_left
          · show Act.put _ (some 88) _ = _
            simp only [Act.put, sa_, sb_, sc_]
            rfl
          obtain ⟨gS, hgS⟩ : ∃ g, g = (W1).heap.size := ⟨_, rfl⟩
          obtain ⟨W2, hV⟩ : ∃ X, X = (W1).alloc (.cells #[.string nm, .slice E n0 j, .bool qb, .slice A2 n1 c2, .slice B2 n2 e2, .bool st] 84) := ⟨_, rfl⟩
          rw [← hV] at HF HAt4 HS2
          try rw [← hV] at HN
          rw [← hgS] at HS2
          rw [show (W1).alloc (.cells #[.string nm, .slice E n0 j, .bool qb, .slice A2 n1 c2, .slice B2 n2 e2, .bool st] 84) = W2 from hV.symm, ← hgS]
          clear hgS hV hal
          refine ls_ 4 (N := (some 89)) rfl rfl (fun K hK => ?_)
          obtain ⟨v_, W3, hpush, hO', hb', _, _, _⟩ := OwY.pushM (P := Tryz.prog) (ty := 22) (x := d) Tryz.underlying22 info_Atom6 rfl (fun y hy => by simp [Value.cells] at hy) HN.out atO_nst (fun ty ht => by rw [List.mem_singleton.1 ht]; decide) HS2.out.own HAt4.out rfl hone6.1 hone6.2 (by decide) (by decide) HF.out.bel.size
          refine push_ (by rfl) rfl rfl rfl rfl hpush ?_
          clear hpush
          have HO7 := Lib.hid (show OwA _ _ _ [tokT, d] from OwY.mono hO' HR4.out.bel.size)
          obtain ⟨A7, c7, rfl, _⟩ := hO'.form
          have HR7 := Lib.hid (HR4.out.below (HF.out.bel.trans hb'))
          clear hO' hb' HF HAt4 HN HS2
          refine hK.out _ _ ?_
          clear hK K
          refine norm_ (a' := ?_) ?_ ?_
          rotate_left
          · show Act.put _ (some 89) _ = _
            simp only [Act.put, sa_, sb_, sc_]
            rfl
          refine pu_ (v := ?_) (a' := ?_) 5 (some 7) rfl rfl ?_ ?_ ?_
          rotate_left; · intro w'; go_simp; with_reducible rfl
          rotate_left
          · simp only [Act.put, sa_, sb_, sc_]
            rfl
          refine done_ (by kernel_rfl) ?_
          clear HR4
          go_wp2
          go_meet
          case rel => exact ⟨A7, c7, by rw [HL1.out]; rfl, by rw [HL1.out]; exact HO7.out, HR7.out⟩
        · refine value_ (v := ?_) (w1 := ?_) (by rfl) rfl ?_ ?_
          rotate_left
          rotate_left
          · go_simp
            first | rfl | (refine ⟨?_, ?_⟩ <;> rfl)
          have hal := (Below.refl (W).heap.size W).alloc (Nat.le_refl _) (.cells #[.string nm, .slice E n0 j, .bool qb, .slice A2 n1 c2, .slice B2 n2 e2, .bool st] 84)
          have HS2 := Lib.hid (show OwnT ((W).alloc (.cells #[.string nm, .slice E n0 j, .bool qb, .slice A2 n1 c2, .slice B2 n2 e2, .bool st] 84)) (W).heap.size 84 [.string nm, .slice E n0 j, .bool qb, .slice A2 n1 c2, .slice B2 n2 e2, .bool st] from OwnT.mk _ _)
          replace HF := Lib.hid (HF.out.below hal)
          replace HAt4 := Lib.hid (HAt4.out.below hal)
          try replace HN := Lib.hid (OwY.below HN.out atO_nst hal)
          refine hK.out _ _ ⟨HF.out.cellN 0 rfl 0 rfl, HF.out.cellN 0 rfl 1 rfl, HF.out.cellN 0 rfl 2 rfl, HF.out.cellN 0 rfl 3 rfl, HF.out.cellN 0 rfl 4 rfl, HF.out.cellN 0 rfl 5 rfl⟩ (fun hHeld => ?_)
          clear hK K
          refine norm_ (a' := ?_) ?_ ?_
          rotate_left
          · show Act.put _ (some 88) _ = _
            simp only [Act.put, sa_, sb_, sc_]
            rfl
          obtain ⟨gS, hgS⟩ : ∃ g, g = (W).heap.size := ⟨_, rfl⟩
          obtain ⟨W4, hV⟩ : ∃ X, X = (W).alloc (.cells #[.string nm, .slice E n0 j, .bool qb, .slice A2 n1 c2, .slice B2 n2 e2, .bool st] 84) := ⟨_, rfl⟩
          rw [← hV] at HF HAt4 HS2
          try rw [← hV] at HN
          rw [← hgS] at HS2
          rw [show (W).alloc (.cells #[.string nm, .slice E n0 j, .bool qb, .slice A2 n1 c2, .slice B2 n2 e2, .bool st] 84) = W4 from hV.symm, ← hgS]
          clear hgS hV hal
          refine on_ 0 (N := (some 85)) rfl rfl (fun K hK => ?_)
          refine goes_ Tryz.func160 (by kernel_rfl) rfl #[] (by rfl) rfl rfl (by (try simp only [List.map_toArray, List.map_cons, List.map_nil]); first | done | rfl) ?_
          refine (at_New W4).mono ?_
          rintro e W5 ⟨gN, rfl, hN, hbN⟩
          refine ⟨_, rfl, ?_⟩
          have HN := Lib.hid (OwY.mono hN HF.out.bel.size)
          replace HF := Lib.hid (HF.out.below hbN)
          replace HAt4 := Lib.hid (HAt4.out.below hbN)
          try replace HS2 := Lib.hid (HS2.out.below hbN)
          clear hN hbN
          refine hK.out _ _ ⟨HF.out.cellN 0 rfl 0 rfl, HF.out.cellN 0 rfl 1 rfl, HF.out.cellN 0 rfl 2 rfl, HF.out.cellN 0 rfl 3 rfl, HF.out.cellN 0 rfl 4 rfl, HF.out.cellN 0 rfl 5 rfl⟩ (fun hHeld => ?_)
          clear hK K
          refine norm_ (a' := ?_) ?_ ?_
          rotate_left
          · show Act.put _ (some 85) _ = _
            simp only [Act.put, sa_, sb_, sc_]
            rfl
          refine ls_ 4 (N := (some 89)) rfl rfl (fun K hK => ?_)
          obtain ⟨v_, W6, hpush, hO', hb', _, _, _⟩ := OwY.pushM (P := Tryz.prog) (ty := 22) (x := d) Tryz.underlying22 info_Atom6 rfl (fun y hy => by simp [Value.cells] at hy) HN.out atO_nst (fun ty ht => by rw [List.mem_singleton.1 ht]; decide) HS2.out.own HAt4.out rfl hone6.1 hone6.2 (by decide) (by decide) HF.out.bel.size
          refine push_ (by rfl) rfl rfl rfl rfl hpush ?_
          clear hpush
          have HO7 := Lib.hid (show OwA _ _ _ [tokT, d] from OwY.mono hO' HR4.out.bel.size)
          obtain ⟨A7, c7, rfl, _⟩ := hO'.form
          have HR7 := Lib.hid (HR4.out.below (HF.out.bel.trans hb'))
          clear hO' hb' HF HAt4 HN HS2
          refine hK.out _ _ ?_
          clear hK K
          refine norm_ (a' := ?_) ?_ ?_
          rotate_left
          · show Act.put _ (some 89) _ = _
            simp only [Act.put, sa_, sb_, sc_]
            rfl
          refine pu_ (v := ?_) (a' := ?_) 5 (some 7) rfl rfl ?_ ?_ ?_
          rotate_left; · intro w'; go_simp; with_reducible rfl
          rotate_left
          · simp only [Act.put, sa_, sb_, sc_]
            rfl
          refine done_ (by kernel_rfl) ?_
          clear HR4
          go_wp2
          go_meet
          case rel => exact ⟨A7, c7, by rw [HL1.out]; rfl, by rw [HL1.out]; exact HO7.out, HR7.out⟩
     case rest =>
     obtain ⟨A7, c7, rfl, HO7, HR7⟩ := hcut
     clear HS HR4 HB64 HAt4 HLa HLb x0
     have hown := HR7.out.map
     obtain ⟨c', hrun, hat, _⟩ := hown.lookup_int strKey Tryz.underlying143 Tryz.underlying3 (zeroI _) HKey.out
     rw [Maps.atKey_put_same HD.out.1 (show WideAt.IsKeyLit (.string s) from trivial)] at hat
     obtain rfl : c + 1 = c' := by simpa using hat
     have x5 := HR7.out.blk.own.cell 5 (by simp)
     simp only [List.getElem_cons_succ, List.getElem_cons_zero] at x5
     clear hat hown
     rcases HC0b.out with ⟨rfl, hnin⟩ | ⟨rfl, hin⟩
     · obtain ⟨A8, c8, e8, l8, r8⟩ := OwY.row (d := kAtom) HO7.out rfl fun x cs _ h => AtO.knd h
       simp only [Value.slice.injEq, true_and] at e8
       obtain ⟨rfl, rfl⟩ := e8
       have HChk := Lib.hid (at_Check A7 c7 L wc r8 l8 HLg.out.1 (by have := HLg.out.2; omega))
       have HIn := Lib.hid (fun (W : World) (hb : Below wc.heap.size wc W) => show RdIn w0 W g bm ⟨true, na, ns, al2, sl⟩ from ⟨_, _, _, _, HR7.out.below hb, by show n + 1 ≤ al2.length; have := HAll.out; omega, by
        have h := HD.out.put (d := d)
        rw [HLA.out] at h
        show SeenM al2 _
        rw [HAl.out]
        exact h⟩)
       have HEy := Lib.hid (fun (W : World) (hb : Below wc.heap.size wc W) (h : chk L = 0) => show ToldTk w0 g bm ⟨true, na, ns, al, sl⟩ s (.returned (.bool true)) W from .inl ⟨⟨true, na, ns, al2, sl⟩, rfl, by
        have h2 := HYes.out d HIs.out (HLi.out.1 h) hnin
        rw [HAl.out]
        exact h2, HIn.out W hb⟩)
       have HEn := Lib.hid (fun (W : World) (hb : Below wc.heap.size wc W) (h : chk L ≠ 0) => HX.out W (HR7.out.bel.trans (hb.mono HR7.out.bel.size)) (fun d' hd' ho => absurd (HLi.out.2 (by rw [HOnly.out d' hd']; exact ho)) h))
       have HV := Lib.hid (chk_val L)
       clear l8 r8 HO7 HR7 HX HYes HIn HLi HLg HIs HLA HD HOnly hnin HC0b HKey HAl HAll
       generalize chk L = r at *
       generalize L.length = ll at *
       go_wp2_with fail
       refine HChk.out.mono ?_
       rintro e' W9 ⟨rfl, hb⟩
       rcases HV.out with rfl | rfl
       · have HE := Lib.hid (HEy.out W9 hb rfl)
         clear hb HEy HEn HV HChk
         go_wp2
         go_ret
         exact HE.out
       · have HE := Lib.hid (HEn.out W9 hb (by decide))
         clear hb HEy HEn HV HChk
         go_wp2
         go_ret
         exact HE.out
     · have HE := Lib.hid (HX.out wc HR7.out.bel (fun _ _ _ => hin))
       clear hin HX HYes HD HKey HOnly HIs HLA HLi HLg HC0b HR7 HO7
       go_wp2
       go_ret
       exact HE.out
   · have hte : (ln == s) = false := by simpa using heq
     have HE := Lib.hid (HX.out W3 HR.out.bel (fun d' hd' _ => absurd (HLn.out.trans (by rw [HCan.out.2 d' hd']; exact hd'.2)) heq))
     clear heq HR HX HYes HD HCan HLn HAt
     go_wp2
     go_ret
     exact HE.out
 · have HE := Lib.hid (HX.out W2 (HR.out.bel.trans (hb.mono HR.out.bel.size)) (fun d hd _ => absurd hd (hno d)))
   clear hb hno HR HX HYes hR HD HL
   go_wp2
   go_ret
   exact HE.out
end Go.Proofs.YtidgpkccjcddgaaGreatDoor.F
