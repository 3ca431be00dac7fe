/- Plain law: the content of a list of fractions in lowest terms. No program in sight. -/
set_option linter.unusedVariables false
set_option linter.unusedSimpArgs false
namespace Go.Proofs.Ytchdoignomidjaa.F

def gcds (l : List Nat) : Nat := l.foldl Nat.gcd 0
def lcms (l : List Nat) : Nat := l.foldl Nat.lcm 1
theorem gcds_snoc (l : List Nat) (x : Nat) : gcds (l ++ [x]) = Nat.gcd (gcds l) x := by simp [gcds]
theorem lcms_snoc (l : List Nat) (x : Nat) : lcms (l ++ [x]) = Nat.lcm (lcms l) x := by simp [lcms]
theorem foldl_gcd_mul (l : List Nat) (a t : Nat) : (l.map (· * t)).foldl Nat.gcd (a * t) = l.foldl Nat.gcd a * t := by
  induction l generalizing a with
  | nil => rfl
  | cons x l ih => simp only [List.map_cons, List.foldl_cons, Nat.gcd_mul_right, ih]
theorem gcds_mul (l : List Nat) (t : Nat) : gcds (l.map (· * t)) = gcds l * t := by
  have := foldl_gcd_mul l 0 t
  rwa [Nat.zero_mul] at this
theorem lcms_pos {l : List Nat} (h : ∀ x ∈ l, 0 < x) : 0 < lcms l := by
  have : ∀ (a : Nat), 0 < a → 0 < l.foldl Nat.lcm a := by
    induction l with
    | nil => intro a ha; exact ha
    | cons x l ih => intro a ha; exact ih (fun y hy => h y (List.mem_cons_of_mem _ hy)) _ (Nat.lcm_pos ha (h x (List.mem_cons_self ..)))
  exact this 1 (by omega)
theorem dvd_foldl_lcm (l : List Nat) (a : Nat) : a ∣ l.foldl Nat.lcm a ∧ ∀ x ∈ l, x ∣ l.foldl Nat.lcm a := by
  induction l generalizing a with
  | nil => exact ⟨Nat.dvd_refl _, fun x hx => by cases hx⟩
  | cons y l ih =>
    have h := ih (Nat.lcm a y)
    refine ⟨Nat.dvd_trans (Nat.dvd_lcm_left a y) h.1, fun x hx => ?_⟩
    rcases List.mem_cons.1 hx with rfl | hx
    · exact Nat.dvd_trans (Nat.dvd_lcm_right a _) h.1
    · exact h.2 x hx
theorem dvd_lcms {l : List Nat} {x : Nat} (h : x ∈ l) : x ∣ lcms l := (dvd_foldl_lcm l 1).2 x h

/-- one fraction more -/
theorem content_step {G L n d : Nat} (hL : 0 < L) (hd : 0 < d) (h1 : Nat.Coprime G L) (h2 : Nat.Coprime n d) :
    Nat.gcd (G * (Nat.lcm L d / L)) (n * (Nat.lcm L d / d)) = Nat.gcd G n ∧ Nat.Coprime (Nat.gcd G n) (Nat.lcm L d) := by
  have he : 0 < Nat.gcd L d := Nat.gcd_pos_of_pos_left _ hL
  have e1 : Nat.lcm L d / L = d / Nat.gcd L d := by
    unfold Nat.lcm
    rw [Nat.mul_div_assoc _ (Nat.gcd_dvd_right L d), Nat.mul_div_cancel_left _ hL]
  have e2 : Nat.lcm L d / d = L / Nat.gcd L d := by
    unfold Nat.lcm
    rw [Nat.mul_comm, Nat.mul_div_assoc _ (Nat.gcd_dvd_left L d), Nat.mul_div_cancel_left _ hd]
  have hc : Nat.Coprime (L / Nat.gcd L d) (d / Nat.gcd L d) := Nat.coprime_div_gcd_div_gcd he
  have hdd : d / Nat.gcd L d ∣ d := Nat.div_dvd_of_dvd (Nat.gcd_dvd_right L d)
  have hLd : L / Nat.gcd L d ∣ L := Nat.div_dvd_of_dvd (Nat.gcd_dvd_left L d)
  have c1 : Nat.Coprime (d / Nat.gcd L d) (n * (L / Nat.gcd L d)) := Nat.Coprime.mul_right (Nat.Coprime.coprime_dvd_left hdd h2.symm) hc.symm
  have c2 : Nat.Coprime G (L / Nat.gcd L d) := Nat.Coprime.coprime_dvd_right hLd h1
  constructor
  · rw [e1, e2, Nat.Coprime.gcd_mul_right_cancel G c1, Nat.Coprime.gcd_mul_right_cancel_right n c2.symm]
  · have k1 : Nat.Coprime (Nat.gcd G n) L := Nat.Coprime.coprime_dvd_left (Nat.gcd_dvd_left G n) h1
    have k2 : Nat.Coprime (Nat.gcd G n) d := Nat.Coprime.coprime_dvd_left (Nat.gcd_dvd_right G n) h2
    exact Nat.Coprime.coprime_dvd_right (Nat.lcm_dvd_mul L d) (Nat.Coprime.mul_right k1 k2)
theorem content_all (l : List (Nat × Nat)) (h : ∀ x ∈ l, 0 < x.2 ∧ Nat.Coprime x.1 x.2) :
    gcds (l.map fun x => x.1 * (lcms (l.map (·.2)) / x.2)) = gcds (l.map (·.1)) ∧ Nat.Coprime (gcds (l.map (·.1))) (lcms (l.map (·.2))) := by
  suffices H : ∀ k, k ≤ l.length → gcds ((l.take k).map fun x => x.1 * (lcms ((l.take k).map (·.2)) / x.2)) = gcds ((l.take k).map (·.1)) ∧ Nat.Coprime (gcds ((l.take k).map (·.1))) (lcms ((l.take k).map (·.2))) by
    have := H l.length (Nat.le_refl _)
    rwa [List.take_length] at this
  intro k
  induction k with
  | zero => intro _; exact ⟨rfl, by show Nat.Coprime 0 1; decide⟩
  | succ k ih =>
    intro hk
    obtain ⟨i1, i2⟩ := ih (by omega)
    rw [List.take_succ_eq_append_getElem (show k < l.length by omega)]
    simp only [List.map_append, List.map_cons, List.map_nil, gcds_snoc, lcms_snoc]
    have hx := h l[k] (List.getElem_mem _)
    have hpos : 0 < lcms ((l.take k).map (·.2)) := lcms_pos fun x hx => by
      obtain ⟨y, hy, rfl⟩ := List.mem_map.1 hx
      exact (h y (List.mem_of_mem_take hy)).1
    have hs := content_step hpos hx.1 i2 hx.2
    refine ⟨?_, hs.2⟩
    rw [← hs.1, ← i1, ← gcds_mul]
    congr 2
    rw [List.map_map]
    refine List.map_congr_left fun x hx => ?_
    simp only [Function.comp]
    have hd : x.2 ∣ lcms ((l.take k).map (·.2)) := dvd_lcms (List.mem_map.2 ⟨x, hx, rfl⟩)
    have hd2 : lcms ((l.take k).map (·.2)) ∣ Nat.lcm (lcms ((l.take k).map (·.2))) l[k].2 := Nat.dvd_lcm_left _ _
    have hxp := (h x (List.mem_of_mem_take hx)).1
    generalize lcms ((l.take k).map (·.2)) = L at *
    generalize Nat.lcm L l[k].2 = N at *
    obtain ⟨a, rfl⟩ := hd
    obtain ⟨b, rfl⟩ := hd2
    have ha : 0 < a := Nat.pos_of_mul_pos_left hpos
    rw [Nat.mul_div_cancel_left _ hxp, Nat.mul_div_cancel_left _ hpos, Nat.mul_assoc x.2, Nat.mul_div_cancel_left _ hxp, Nat.mul_assoc]
end Go.Proofs.Ytchdoignomidjaa.F
