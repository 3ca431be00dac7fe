/- Foundation: what is handed in and reads as data stands in memory as a list. No condition. -/
import Derived.Test.YtafmomlgkehdfaaDoorBase
import GoSem.ClaimChange
import Derived.ChangeShapes
set_option linter.unusedVariables false
namespace Go.Proofs.YtafmomlgkehdfaaDoor.F
open Go.RowKit

/-- whatever reads as data of type t stands in cells as d says, and is tied to the datum by ok -/
def Opens {α : Type} (P : Program) (t : TypeId) (d : Knd α) (ok : α → (H : Type) → DataW H → Prop) : Prop :=
  ∀ (H : Type) (enc : TypeId × Value → H) (w : World) (fuel : Nat) (cs : List Value) (x : DataW H × List MemPlace),
    DataW.trod enc P w 0 (fun _ => true) true fuel t cs = some x → ∃ a, d.C w a cs ∧ ok a H x.1

def okInt (k : IntKind) : Int → (H : Type) → DataW H → Prop := fun a _ d => (Lit.int k a).wf = true ∧ d = .lit (.int k a)
def okBool : Bool → (H : Type) → DataW H → Prop := fun a _ d => d = .lit (.bool a)
def okSlice {α : Type} (ok : α → (H : Type) → DataW H → Prop) : List α → (H : Type) → DataW H → Prop := fun xs H d =>
  (xs = [] ∧ d = .nil) ∨ ∃ elems spare, d = .slice elems spare ∧ elems.length = xs.length ∧ ∀ i (h : i < xs.length) (h' : i < elems.length), ok xs[i] H elems[i]

theorem opens_int {P : Program} {t : TypeId} {k : IntKind} (ht : P.underlying t = some (.int k)) : Opens P t (Knd.int k) (okInt k) := by
  intro H enc w fuel cs x h
  cases fuel with
  | zero => simp [DataW.trod] at h
  | succ fuel =>
    unfold DataW.trod at h
    rw [ht] at h
    split at h <;> try (first | (simp at h; done) | (rename_i h1; cases h1; done) | (rename_i h1 _; cases h1; done))
    rename_i k0 k' n h1
    simp at h1
    subst h1
    split at h
    · rename_i hw
      cases h
      exact ⟨n, by show _ = _; rw [hw.1], hw.2, rfl⟩
    · simp at h

theorem opens_bool {P : Program} {t : TypeId} (ht : P.underlying t = some .bool) : Opens P t Knd.bool okBool := by
  intro H enc w fuel cs x h
  cases fuel with
  | zero => simp [DataW.trod] at h
  | succ fuel =>
    unfold DataW.trod at h
    rw [ht] at h
    split at h <;> try (first | (simp at h; done) | (rename_i h1; cases h1; done) | (rename_i h1 _; cases h1; done))
    cases h
    exact ⟨_, rfl, rfl⟩

theorem mapM_some {α β : Type} {f : α → Option β} : ∀ {l : List α} {r : List β}, l.mapM f = some r → r.length = l.length ∧ ∀ i (h : i < l.length) (h' : i < r.length), f l[i] = some r[i]
  | [], r, h => by
    simp at h
    subst h
    exact ⟨rfl, fun i h => by simp at h⟩
  | a :: l, r, h => by
    rw [List.mapM_cons] at h
    cases hf : f a with
    | none => simp [hf] at h
    | some b =>
      cases hr : l.mapM f with
      | none => simp [hf, hr] at h
      | some r0 =>
        simp [hf, hr] at h
        subst h
        obtain ⟨h1, h2⟩ := mapM_some hr
        refine ⟨by simp [h1], fun i hi hi' => ?_⟩
        cases i with
        | zero => simpa using hf
        | succ i => simpa using h2 i (by simpa using hi) (by simpa using hi')

theorem add_add (a : Addr) (m j : Nat) : (a.add m).add j = a.add (m + j) := by
  unfold Addr.add
  by_cases hm : m = 0
  · subst hm; simp
  · by_cases hj : j = 0
    · subst hj; simp
    · simp [hm, hj, Nat.add_assoc]

theorem cells?_some {w : World} {base : Nat} {a : Addr} {n : Nat} {cs : List Value} (h : w.cells? base a n = some cs) : cs.length = n ∧ ∀ (j : Nat) u, cs[j]? = some u → w.cell? (a.add j) = some u := by
  unfold World.cells? at h
  split at h
  · obtain ⟨h1, h2⟩ := mapM_some h
    simp at h1
    refine ⟨h1, fun j u hu => ?_⟩
    obtain ⟨hj, e⟩ := List.getElem?_eq_some_iff.1 hu
    have := h2 j (by simpa [h1] using hj) hj
    rw [e] at this
    simpa using this
  · simp at h

theorem opens_slice {α : Type} {P : Program} {t e : TypeId} {d : Knd α} {ok : α → (H : Type) → DataW H → Prop} (ht : P.underlying t = some (.slice e)) (ce : P.cellsOf e = d.sz) (he : Opens P e d ok) :
    Opens P t d.slice (okSlice ok) := by
  intro H enc w fuel cs x h
  cases fuel with
  | zero => simp [DataW.trod] at h
  | succ fuel =>
    unfold DataW.trod at h
    rw [ht] at h
    split at h <;> try (first | (simp at h; done) | (rename_i h1; cases h1; done) | (rename_i h1 _; cases h1; done))
    · cases h
      exact ⟨[], ⟨none, 0, rfl, Nat.le_refl _, by simp, Knd.row_nil _ _ _⟩, .inl ⟨rfl, rfl⟩⟩
    · rename_i e0 a len cap h1
      simp only [Option.some.injEq, TypeDesc.slice.injEq] at h1
      subst h1
      dsimp only at h
      split at h
      · rename_i hb
        rw [ce] at h
        cases hm : (List.range len).mapM (fun i => (w.cells? 0 (a.add (i * d.sz)) d.sz).bind (DataW.trod enc P w 0 (fun _ => true) true fuel e)) with
        | none => rw [hm] at h; simp at h
        | some elems =>
          rw [hm] at h
          simp only [Option.bind_some, if_true] at h
          cases hr : (List.range (cap - len)).mapM (fun j => (w.cells? 0 (a.add ((len + j) * d.sz)) d.sz).bind (DataW.trod enc P w 0 (fun _ => true) true fuel e)) with
          | none => rw [hr] at h; simp at h
          | some rest =>
            rw [hr] at h
            simp only [Option.map_some, Option.some.injEq] at h
            subst h
            obtain ⟨h1, h2⟩ := mapM_some hm
            simp at h1
            have each : ∀ i, i < len → ∃ y : α, ∃ cs, d.C w y cs ∧ (∀ (j : Nat) u, cs[j]? = some u → w.cell? (a.add (i * d.sz + j)) = some u) ∧ ∀ h' : i < elems.length, ok y H (elems[i]).1 := by
              intro i hi
              have hq := h2 i (by simpa using hi) (by rw [h1]; exact hi)
              simp only [List.getElem_range] at hq
              cases hc : w.cells? 0 (a.add (i * d.sz)) d.sz with
              | none => rw [hc] at hq; simp at hq
              | some cs =>
                rw [hc] at hq
                simp only [Option.bind_some] at hq
                obtain ⟨y, hy, hok⟩ := he H enc w fuel cs _ hq
                exact ⟨y, cs, hy, fun j u hu => by rw [← add_add]; exact (cells?_some hc).2 j u hu, fun _ => hok⟩
            have : ∃ xs : List α, xs.length = len ∧ ∀ i (hi : i < xs.length), ∃ cs, d.C w xs[i] cs ∧ (∀ (j : Nat) u, cs[j]? = some u → w.cell? (a.add (i * d.sz + j)) = some u) ∧ ∀ h' : i < elems.length, ok xs[i] H (elems[i]).1 := by
              refine ⟨(List.range len).attach.map fun i => (each i.1 (List.mem_range.1 i.2)).choose, by simp, fun i hi => ?_⟩
              simp only [List.getElem_map, List.getElem_attach, List.getElem_range]
              exact (each i (by simpa using hi)).choose_spec
            obtain ⟨xs, hl, hx⟩ := this
            refine ⟨xs, ⟨some a, cap, by rw [hl], by rw [hl]; exact hb.2.1, by rw [hl]; exact Nat.le_trans hb.2.1 hb.2.2, fun i hi => ?_⟩, .inr ⟨_, _, rfl, by simp [h1, hl], fun i hi hi' => ?_⟩⟩
            · obtain ⟨cs, h3, h4, _⟩ := hx i hi
              exact ⟨a, cs, rfl, h3, h4⟩
            · obtain ⟨cs, _, _, h5⟩ := hx i hi
              simpa using h5 (by simpa using hi')
      · simp at h

theorem opens_string {P : Program} {t : TypeId} (ht : P.underlying t = some .string) : Opens P t Knd.string (fun s _ d => s.size ≤ 9223372036854775807 ∧ d = .lit (.string s.data.toList)) := by
  intro H enc w fuel cs x h
  cases fuel with
  | zero => simp [DataW.trod] at h
  | succ fuel =>
    unfold DataW.trod at h
    rw [ht] at h
    split at h <;> try (first | (simp at h; done) | (rename_i h1; cases h1; done) | (rename_i h1 _; cases h1; done))
    split at h
    · rename_i hs
      cases h
      exact ⟨_, rfl, hs, rfl⟩
    · simp at h

def okPair {α β : Type} (ok : α → (H : Type) → DataW H → Prop) (ok' : β → (H : Type) → DataW H → Prop) : α × β → (H : Type) → DataW H → Prop := fun x H d =>
  ∃ p q, d = .agg [p, q] ∧ ok x.1 H p ∧ ok' x.2 H q

/-- a struct of two fields -/
theorem opens_pair {α β : Type} {P : Program} {t : TypeId} {d : Knd α} {e : Knd β} {ok : α → (H : Type) → DataW H → Prop} {ok' : β → (H : Type) → DataW H → Prop} {f g : Field}
    (ht : P.underlying t = some (.struct #[f, g])) (hc : P.cellsOf t = d.sz + e.sz) (h0 : f.offset = 0) (h1 : g.offset = d.sz) (cf : P.cellsOf f.type = d.sz) (cg : P.cellsOf g.type = e.sz)
    (hf : Opens P f.type d ok) (hg : Opens P g.type e ok') : Opens P t (d.pair e) (okPair ok ok') := by
  intro H enc w fuel cs x h
  cases fuel with
  | zero => simp [DataW.trod] at h
  | succ fuel =>
    simp only [DataW.trod, ht] at h
    split at h
    · rename_i hl
      rw [hc] at hl
      simp only [List.mapM_cons, List.mapM_nil, h0, h1, cf, cg, List.drop_zero] at h
      cases ha : DataW.trod enc P w 0 (fun _ => true) true fuel f.type (cs.take d.sz) with
      | none => rw [ha] at h; simp at h
      | some a =>
        cases hb : DataW.trod enc P w 0 (fun _ => true) true fuel g.type ((cs.drop d.sz).take e.sz) with
        | none => rw [ha, hb] at h; simp at h
        | some b =>
          rw [ha, hb] at h
          simp at h
          subst h
          obtain ⟨x, hx, okx⟩ := hf H enc w fuel _ _ ha
          obtain ⟨y, hy, oky⟩ := hg H enc w fuel _ _ hb
          refine ⟨(x, y), ⟨_, _, ?_, hx, hy⟩, _, _, rfl, okx, oky⟩
          rw [List.take_of_length_le (l := cs.drop d.sz) (by simp; omega), List.take_append_drop]
    · simp at h
end Go.Proofs.YtafmomlgkehdfaaDoor.F
