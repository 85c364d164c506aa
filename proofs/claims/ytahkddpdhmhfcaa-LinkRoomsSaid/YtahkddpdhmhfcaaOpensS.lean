/- Pairs of strings and strings that come in, read. No statement is proved here. -/
import Derived.Test.YtahkddpdhmhfcaaOpens
import Derived.Test.YtahkddpdhmhfcaaFieldP
import Derived.Lib.SmallJoins
namespace Go.Wk
open Go Go.RowKit Go.ChangeShapes Go.WideShapes Go.ChangeAt Go.Deep

section
variable {H : Type} {enc : TypeId × Value → H} {P : Program} {w : World} {t f : TypeId} {v : Value} {d : DataW H} {ps : List MemPlace}
theorem pairT_spec (h : pairT P t f = true) : ∃ a b : Field, P.underlying t = some (.struct #[a, b]) ∧ a.type = f ∧ a.offset = 0 ∧ b.type = f ∧ b.offset = 1 := by
  unfold pairT at h
  split at h
  · rename_i fs hu
    simp only [Bool.and_eq_true] at h
    have h1 := eq_of_beq h.1.1.1.1
    obtain ⟨fl⟩ := fs
    simp only at h1
    match fl, h1 with
    | [], h1 => simp at h1
    | [_], h1 => simp at h1
    | _ :: _ :: _ :: _, h1 => simp at h1
    | [a, b], h1 =>
      simp only [List.map_cons, List.map_nil, List.cons.injEq, Prod.mk.injEq, and_true] at h1
      exact ⟨a, b, hu, h1.1.1, h1.1.2, h1.2.1, h1.2.2⟩
  · cases h
/-- A pair of strings. -/
theorem open_pairS {spare : Nat → Bool} {base : Nat} {held : Bool} {r : Reach} {b0 : Nat} (hp : pairT P t f = true) (hf : P.underlying f = some .string) (hc : P.cellsOf f = 1) (hC : P.cellsOf t = 2) (hv : Value.okWide P w r b0 t v)
    (h : DataW.Trod enc P w base spare held t v d ps) : ∃ p : PairB, v = pairv p := by
  obtain ⟨a, b, hs, ha, ha0, hb, hb1⟩ := pairT_spec hp
  have h1c : oneCellFields P #[a, b] = true := by
    have e : oneCellFields P #[a, b] = ((a.offset == 0 && P.cellsOf a.type == 1) && ((b.offset == 1 && P.cellsOf b.type == 1) && true)) := rfl
    rw [e, ha, hb, ha0, hb1, hc]; rfl
  obtain ⟨v0, v1, y0, y1, n, rfl, _, _, h0, h1⟩ := Go.Joins.open_agg2 hs h1c hC hv h
  rw [ha] at h0
  rw [hb] at h1
  obtain ⟨s0, e0, _, _⟩ := DataW.trod_string hf h0
  obtain ⟨s1, e1, _, _⟩ := DataW.trod_string hf h1
  simp at e0 e1
  subst e0; subst e1
  exact ⟨(s0.data.toList, s1.data.toList), rfl⟩
/-- []int and its like. -/
theorem open_intl {spare : Nat → Bool} {base : Nat} {held : Bool} {r : Reach} {b0 : Nat} {e : TypeId} {k : IntKind} (ht : P.underlying t = some (.slice e)) (he : P.underlying e = some (.int k)) (hc : P.cellsOf e = 1) (hv : Value.okWide P w r b0 t v)
    (h : DataW.Trod enc P w base spare held t v d ps) : ∃ l : List Int, Sl w v (l.map (Value.int k)) ∧ ∀ z ∈ l, (Lit.int k z).wf = true := by
  obtain ⟨a0, len0, cap0, rfl⟩ := okWide_slice ht hv
  obtain ⟨fuel, hf⟩ := h
  rcases open_ints ht he hc hf with ⟨h0, _⟩ | ⟨a, len, cap, zs, h0, _, hl, hm, hz, _, hcell, hwz⟩
  · simp [Value.cells] at h0
    obtain ⟨rfl, rfl, rfl⟩ := h0
    exact ⟨[], Sl.nil w, by simp⟩
  · simp [Value.cells] at h0
    obtain ⟨rfl, rfl, rfl⟩ := h0
    have hlen : len0 ≤ zs.length := by rw [hz]; split <;> omega
    refine ⟨zs.take len0, ⟨some a, cap0, by simp [Nat.min_eq_left hlen], by simp; omega, hm, by simp, fun p hp j u hj => ?_⟩, fun z hz => hwz z (List.mem_of_mem_take hz)⟩
    cases hp
    have hj' := (List.getElem?_eq_some_iff.1 hj).1
    simp only [List.length_map, List.length_take] at hj'
    have hj1 : j < len0 := by omega
    have hj2 : j < zs.length := by omega
    rw [hcell j hj2]
    rw [List.getElem?_map, List.getElem?_take] at hj
    rw [if_pos hj1] at hj
    simp [hj2] at hj
    simp [List.getD, hj2, hj]
end
end Go.Wk
