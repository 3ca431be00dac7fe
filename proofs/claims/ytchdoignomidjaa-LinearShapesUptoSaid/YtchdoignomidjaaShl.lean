import Derived.Test.YtchdoignomidjaaTen
/- Plain law of LinearShapes: what a form's shape is, whatever it is multiplied by. -/
set_option linter.unusedVariables false
set_option linter.unusedSimpArgs false
namespace Go.Proofs.Ytchdoignomidjaa.F
open Go.RowKit Go.Shelf

/-- t times coprime whole numbers -/
def Con (n : Frm) (t : Rat) : Prop := ∃ al : List Int, n.map (fun m => m.2) = al.map (fun (a : Int) => t * (a : Rat)) ∧ gcds (al.map Int.natAbs) = 1
theorem con_scale {n : Frm} {t : Rat} (c : Rat) (h : Con n t) : Con (smul c n) (c * t) := by
  obtain ⟨al, h1, h2⟩ := h
  refine ⟨al, ?_, h2⟩
  unfold smul
  rw [List.map_map]
  have e : (fun m : Int × Rat => m.2) ∘ (fun m : Int × Rat => (m.1, c * m.2)) = (fun q : Rat => c * q) ∘ (fun m : Int × Rat => m.2) := rfl
  rw [e, ← List.map_map, h1, List.map_map]
  refine List.map_congr_left fun a _ => ?_
  show c * (t * (a : Rat)) = c * t * (a : Rat)
  rw [Rat.mul_assoc]
theorem con_uniq {n : Frm} {t s : Rat} (h : Con n t) (k : Con n s) (ht : t ≠ 0) (hs : s ≠ 0) : s = t ∨ s = -t := by
  obtain ⟨al, h1, h2⟩ := h
  obtain ⟨bs, k1, k2⟩ := k
  have hlen : al.length = bs.length := by
    have e1 : n.length = al.length := by have := congrArg List.length h1; simpa using this
    have e2 : n.length = bs.length := by have := congrArg List.length k1; simpa using this
    omega
  obtain ⟨r, hr⟩ : ∃ r, r = s / t := ⟨_, rfl⟩
  have hsr : s = r * t := by rw [hr]; grind
  have hrd := q_div r
  have hdn := den_ne r
  have key : (al.map Int.natAbs).map (· * r.den) = (bs.map Int.natAbs).map (· * r.num.natAbs) := by
    rw [List.map_map, List.map_map]
    refine List.ext_getElem (by simp [hlen]) fun i p q => ?_
    simp only [List.getElem_map, Function.comp]
    simp only [List.length_map] at p q
    have e1 : (al.map (fun (a : Int) => t * (a : Rat)))[i]'(by simpa using p) = (bs.map (fun (a : Int) => s * (a : Rat)))[i]'(by simpa using q) := by
      simp only [← h1, ← k1]
    simp only [List.getElem_map] at e1
    have e2 : (al[i] : Rat) = r * (bs[i] : Rat) := by
      rw [hsr] at e1
      have e3 : t * ((al[i] : Rat) - r * (bs[i] : Rat)) = 0 := by grind
      rcases Rat.mul_eq_zero.1 e3 with e4 | e4
      · exact absurd e4 ht
      · grind
    have e5 : (((r.den : Int) * al[i] : Int) : Rat) = ((r.num * bs[i] : Int) : Rat) := by
      rw [Rat.intCast_mul, Rat.intCast_mul, e2]
      rw [show ((r.den : Int) : Rat) = (r.den : Rat) from rfl]
      generalize (r.den : Rat) = d at *
      generalize (r.num : Rat) = m at *
      generalize (bs[i] : Rat) = b at *
      rw [← hrd]
      grind
    have e6 := congrArg Int.natAbs (Rat.intCast_inj.1 e5)
    rw [Int.natAbs_mul, Int.natAbs_mul, Int.natAbs_natCast] at e6
    rw [Nat.mul_comm, e6, Nat.mul_comm]
  have e7 := congrArg gcds key
  rw [gcds_mul, gcds_mul, h2, k2, Nat.one_mul, Nat.one_mul] at e7
  have hco := r.reduced
  rw [← e7] at hco
  have hd1 : r.den = 1 := (Nat.coprime_self _).1 hco
  rw [hd1] at e7
  have hq : r = ((r.num : Int) : Rat) := by
    conv => lhs; rw [← hrd]
    rw [hd1]
    show (r.num : Rat) / ((1 : Nat) : Rat) = _
    rw [show ((1 : Nat) : Rat) = 1 from rfl]
    grind
  rcases Int.natAbs_eq r.num with e | e
  · left
    rw [← e7] at e
    rw [hsr, hq, e]
    show ((1 : Int) : Rat) * t = t
    rw [show ((1 : Int) : Rat) = 1 from rfl, Rat.one_mul]
  · right
    rw [← e7] at e
    rw [hsr, hq, e]
    show ((-1 : Int) : Rat) * t = -t
    rw [show ((-1 : Int) : Rat) = -1 from rfl, Rat.neg_mul, Rat.one_mul]
theorem con_pc {n : Frm} (hn : Nf n) (h0 : n ≠ []) : Con n (pc n) := by
  have htp := top_pos hn h0
  have hbp := bot_pos n
  have hz := pz_ne hn
  have hza : (pz n).natAbs = top n := by
    cases n with
    | nil => exact absurd rfl h0
    | cons m r => exact iv_natAbs' _ _
  refine ⟨n.map fun m => m.2.num / pz n * ((bot n / m.2.den : Nat) : Int), ?_, ?_⟩
  · rw [List.map_map]
    refine List.map_congr_left fun m hm => ?_
    show m.2 = pc n * ((m.2.num / pz n * ((bot n / m.2.den : Nat) : Int) : Int) : Rat)
    have hd := pz_dvd hm
    obtain ⟨k, hk⟩ := hd
    obtain ⟨a, ha⟩ := den_dvd hm
    have e1 : m.2.num / pz n = k := by rw [hk]; exact Int.mul_ediv_cancel_left _ hz
    have e2 : bot n / m.2.den = a := by rw [ha]; exact Nat.mul_div_cancel_left _ m.2.den_pos
    have e3 : pc n = (pz n : Rat) / ((bot n : Int) : Rat) := by
      cases n with
      | nil => cases hm
      | cons x r => exact pc_eq x r
    have hq := q_div m.2
    have hdn := den_ne m.2
    have hbn : ((bot n : Int) : Rat) ≠ 0 := fun e => by
      have := Rat.intCast_inj.1 (show ((bot n : Int) : Rat) = ((0 : Int) : Rat) from e)
      omega
    rw [e1, e2, e3, Rat.intCast_mul]
    have hb2 : ((bot n : Int) : Rat) = (m.2.den : Rat) * ((a : Int) : Rat) := by
      rw [ha, Int.natCast_mul, Rat.intCast_mul]
      rfl
    have hn2 : (m.2.num : Rat) = (pz n : Rat) * (k : Rat) := by rw [← Rat.intCast_mul, ← hk]
    rw [hb2] at hbn ⊢
    conv => lhs; rw [← hq, hn2]
    generalize (m.2.den : Rat) = d at *
    generalize ((a : Int) : Rat) = a' at *
    generalize (pz n : Rat) = z at *
    generalize (k : Rat) = k' at *
    grind
  · have h1 := nus2_top n
    have e : nus2 (bot n) n = ((n.map fun m => m.2.num / pz n * ((bot n / m.2.den : Nat) : Int)).map Int.natAbs).map (· * top n) := by
      unfold nus2
      rw [List.map_map, List.map_map]
      refine List.map_congr_left fun m hm => ?_
      simp only [Function.comp]
      have hd := pz_dvd hm
      rw [Int.natAbs_mul, Int.natAbs_natCast, Nat.mul_right_comm, ← hza, ← Int.natAbs_mul, Int.ediv_mul_cancel hd]
    rw [e, gcds_mul] at h1
    have h2 : gcds ((n.map fun m => m.2.num / pz n * ((bot n / m.2.den : Nat) : Int)).map Int.natAbs) * top n = 1 * top n := by rw [h1, Nat.one_mul]
    exact Nat.eq_of_mul_eq_mul_right htp h2
theorem rat_tri (a : Rat) : a < 0 ∨ a = 0 ∨ 0 < a := by
  by_cases h : a < 0
  · exact .inl h
  · rcases Rat.le_iff_lt_or_eq.1 (Rat.not_lt.1 h) with k | k
    · exact .inr (.inr k)
    · exact .inr (.inl k.symm)
theorem pc_pos {m : Int × Rat} {r : Frm} (hn : Nf (m :: r)) : 0 < pc (m :: r) * m.2 := by
  have htp := top_pos hn (by simp)
  have hbp := bot_pos (m :: r)
  have hm0 : m.2 ≠ 0 := hn.nz m (List.mem_cons_self ..)
  rw [pc_eq]
  have hb : (0 : Rat) < ((bot (m :: r) : Int) : Rat) := Rat.intCast_pos.2 (by omega)
  have ht : (0 : Rat) < ((top (m :: r) : Int) : Rat) := Rat.intCast_pos.2 (by omega)
  have hs : decide (sgn m.2.num < 0) = decide (m.2 < 0) := by
    refine decide_eq_decide.2 ?_
    have h1 := sgn_le m.2
    have h2 : sgn m.2.num = 0 ↔ m.2 = 0 := by have := sgn_zero m.2; rw [Bool.eq_iff_iff] at this; simpa using this
    constructor
    · intro e
      have h3 := h1.1 (by omega)
      rcases Rat.le_iff_lt_or_eq.1 h3 with h4 | h4
      · exact h4
      · exact absurd h4 hm0
    · intro e
      have h3 := h1.2 (Rat.le_of_lt e)
      have h4 : sgn m.2.num ≠ 0 := fun e0 => hm0 (h2.1 e0)
      omega
  have hbi : (0 : Rat) < ((bot (m :: r) : Int) : Rat)⁻¹ := Rat.inv_pos.2 hb
  unfold pz
  dsimp only
  rw [hs, Rat.div_def]
  by_cases hneg : m.2 < 0
  · rw [decide_eq_true hneg, show iv true ((top (m :: r) : Nat) : Int) = -((top (m :: r) : Nat) : Int) from rfl, Rat.intCast_neg]
    have h1 : 0 < -m.2 := by grind
    have h2 := Rat.mul_pos (Rat.mul_pos ht hbi) h1
    generalize ((top (m :: r) : Int) : Rat) = a at *
    generalize ((bot (m :: r) : Int) : Rat)⁻¹ = b at *
    have : -a * b * m.2 = a * b * -m.2 := by grind
    rw [this]
    exact h2
  · rw [decide_eq_false hneg, show iv false ((top (m :: r) : Nat) : Int) = ((top (m :: r) : Nat) : Int) from rfl]
    have h1 : 0 < m.2 := by
      rcases rat_tri m.2 with h | h | h
      · exact absurd h hneg
      · exact absurd h hm0
      · exact h
    exact Rat.mul_pos (Rat.mul_pos ht hbi) h1
theorem smul_Nf {c : Rat} (hc : c ≠ 0) {n : Frm} (hn : Nf n) : Nf (smul c n) := by
  rw [← nform_self hn, nform_smul hc]; exact nform_Nf _
theorem pc_smul {n : Frm} (hn : Nf n) (h0 : n ≠ []) {c : Rat} (hc : c ≠ 0) : pc (smul c n) = c * pc n := by
  have h1 := con_scale c (con_pc hn h0)
  have hcn := smul_Nf hc hn
  have h2 := con_pc hcn (by cases n with | nil => exact absurd rfl h0 | cons m r => intro e; cases e)
  have h3 : c * pc n ≠ 0 := fun e => (Rat.mul_eq_zero.1 e).elim hc (pc_ne hn)
  rcases con_uniq h1 h2 h3 (pc_ne hcn) with e | e
  · exact e
  · exfalso
    cases n with
    | nil => exact absurd rfl h0
    | cons m r =>
      have p1 := pc_pos hn
      have p2 : 0 < pc (smul c (m :: r)) * (c * m.2) := pc_pos (m := (m.1, c * m.2)) (r := smul c r) hcn
      rw [e] at p2
      have p3 : 0 < c * c := by
        rcases rat_tri c with h | h | h
        · have h5 : 0 < -c := by grind
          have := Rat.mul_pos h5 h5
          have h6 : -c * -c = c * c := by grind
          rwa [h6] at this
        · exact absurd h hc
        · exact Rat.mul_pos h h
      have p4 := Rat.mul_pos p3 p1
      have p5 : -(c * pc (m :: r)) * (c * m.2) = -(c * c * (pc (m :: r) * m.2)) := by grind
      rw [p5] at p2
      grind

/-- a normal form's shape -/
def sF (n : Frm) : Frm := nform (smul (pc n)⁻¹ n)
theorem sF_smul {n : Frm} (hn : Nf n) {c : Rat} (hc : c ≠ 0) : sF (smul c n) = sF n := by
  by_cases h0 : n = []
  · subst h0; rfl
  · unfold sF
    rw [pc_smul hn h0 hc]
    refine nform_congr fun v => ?_
    rw [co_smul, co_smul, co_smul]
    have := pc_ne hn
    generalize pc n = p at *
    grind
theorem sF_back {n : Frm} (hn : Nf n) : nform (smul (pc n) (sF n)) = n := by
  unfold sF
  have := pc_ne hn
  conv => rhs; rw [← nform_self hn]
  refine nform_congr fun v => ?_
  rw [co_smul, co_nform, co_smul]
  generalize pc n = p at *
  grind
theorem sF_nil {n : Frm} (hn : Nf n) (h : sF n = []) : n = [] := by
  have := sF_back hn
  rw [h] at this
  exact this.symm
theorem shapes_same {n m : Frm} (hn : Nf n) (hm : Nf m) (h : sF n = sF m) : nform (smul (pc m * (pc n)⁻¹) n) = m := by
  have h1 := sF_back hm
  rw [← h] at h1
  refine Eq.trans ?_ h1
  unfold sF
  refine nform_congr fun v => ?_
  rw [co_smul, co_smul, co_nform, co_smul]
  grind
theorem shapes_other {F m : Frm} (hm : Nf m) {k : Rat} (hk : k ≠ 0) (h : sF (nform F) ≠ sF m) : nform (smul k F) ≠ m := by
  intro e
  apply h
  rw [← e, ← nform_smul hk, sF_smul (nform_Nf F) hk]
theorem shapes_scale (F : Frm) {c : Rat} (hc : c ≠ 0) : nform (smul c F) = smul c (nform F) := (nform_smul hc F).symm
end Go.Proofs.Ytchdoignomidjaa.F
