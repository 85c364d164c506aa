/- Lists of pairs that come in, read. No statement is proved here. -/
import Derived.Test.YtahkddpdhmhfcaaOpensS
import Derived.Test.YtahkddpdhmhfcaaCompR
namespace Go.Wk
open Go Go.RowKit Go.ChangeShapes Go.WideShapes Go.ChangeAt Go.Deep
section
variable {H : Type} {enc : TypeId × Value → H} {P : Program} {w : World} {t e f : TypeId} {v : Value} {d : DataW H} {ps : List MemPlace} {spare : Nat → Bool} {base : Nat} {held : Bool}
theorem mapM_get {α : Type} (g : Nat → Option α) : ∀ (n o : Nat) (cs : List α), (List.range' o n).mapM g = some cs → cs.length = n ∧ ∀ i u, cs[i]? = some u → g (o + i) = some u
  | 0, o, cs, h => by simp at h; subst h; simp
  | n + 1, o, cs, h => by
    rw [List.range'_succ, List.mapM_cons] at h
    simp only [Option.bind_eq_bind, Option.pure_def, Option.bind_eq_some_iff] at h
    obtain ⟨x, hx, r, hr, hcs⟩ := h
    simp at hcs
    subst hcs
    obtain ⟨h1, h2⟩ := mapM_get g n (o + 1) r hr
    refine ⟨by simp [h1], fun i u hu => ?_⟩
    cases i with
    | zero => simp at hu; subst hu; exact hx
    | succ i => have := h2 i u (by simpa using hu); rw [show o + (i + 1) = o + 1 + i by omega]; exact this
theorem cells_get {a : Addr} {n : Nat} {cs : List Value} (h : w.cells? base a n = some cs) : cs.length = n ∧ ∀ i u, cs[i]? = some u → w.cell? (a.add i) = some u := by
  unfold World.cells? at h
  split at h
  · rw [List.range_eq_range'] at h
    obtain ⟨h1, h2⟩ := mapM_get _ n 0 cs h
    exact ⟨h1, fun i u hu => by have := h2 i u hu; rwa [Nat.zero_add] at this⟩
  · cases h
theorem pair_of_trod {fuel : Nat} {cs : List Value} {x : DataW H × List MemPlace} (hp : pairT P t f = true) (hf : P.underlying f = some .string) (hc : P.cellsOf f = 1) (hl : cs.length = 2)
    (h : DataW.trod enc P w base spare held fuel t cs = some x) : ∃ p : Pr, cs = Pr.cells p ∧ p.name.length ≤ 9223372036854775807 := by
  obtain ⟨a, b, hs, ha, ha0, hb, hb1⟩ := pairT_spec hp
  obtain ⟨y0, y1, n, _, _, h0, h1⟩ := trod_struct2 hs h
  rw [ha, ha0, hc] at h0
  rw [hb, hb1, hc] at h1
  obtain ⟨s0, e0, _, g0⟩ := DataW.trod_string hf h0
  obtain ⟨s1, e1, _, g1⟩ := DataW.trod_string hf h1
  match cs, hl with
  | [c0, c1], _ =>
    simp at e0 e1
    subst e0; subst e1
    exact ⟨⟨s0.data.toList, s1.data.toList⟩, rfl, by simpa [maxLen] using g0⟩
/-- []Pair. -/
theorem open_prs {b0 : Nat} (ht : P.underlying t = some (.slice e)) (hp : pairT P e f = true) (hf : P.underlying f = some .string) (hc : P.cellsOf f = 1) (hC : P.cellsOf e = 2) (hv : Value.okWide P w .any b0 t v)
    (h : DataW.Trod enc P w base spare held t v d ps) : ∃ l : List Pr, Ls tPr w (fun _ => True) v l ∧ ∀ q ∈ l, q.name.length ≤ 9223372036854775807 := by
  obtain ⟨a0, len0, cap0, rfl⟩ := okWide_slice ht hv
  obtain ⟨fuel, hf'⟩ := h
  simp only [Value.cells] at hf'
  rcases open_slice ht hf' with ⟨hcs, _⟩ | ⟨a, len, cap, m, n, D, Pl, hcs, _, hl, hm, hmm, _, hel⟩
  · simp at hcs
    obtain ⟨rfl, rfl, rfl⟩ := hcs
    exact ⟨[], Ls.nil _ _ _, by simp⟩
  · simp at hcs
    obtain ⟨rfl, rfl, rfl⟩ := hcs
    have hlm : len0 ≤ m := by rw [hmm]; split <;> omega
    have key : ∀ i, i < len0 → ∃ p : Pr, (∀ j u, (Pr.cells p)[j]? = some u → w.cell? (a.add (i * 2 + j)) = some u) ∧ p.name.length ≤ 9223372036854775807 := by
      intro i hi
      obtain ⟨cs', h1, h2⟩ := hel i (by omega)
      rw [hC] at h1
      obtain ⟨h3, h4⟩ := cells_get h1
      obtain ⟨p, rfl, hpl⟩ := pair_of_trod hp hf hc h3 h2
      exact ⟨p, fun j u hj => by have := h4 j u hj; rwa [Addr.add_add] at this, hpl⟩
    obtain ⟨l, hll, hp'⟩ := exists_list _ len0 key
    refine ⟨l, ⟨some a, _, l.flatMap Pr.cells, by rw [hll], by omega, hm, by simp, fun _ _ _ => trivial, ?_, els_pr l⟩, fun q hq => ?_⟩
    · intro q hq j u hj
      cases hq
      have hjl := (List.getElem?_eq_some_iff.1 hj).1
      rw [flat_len] at hjl
      have hi : l[j / 2]? = some (l[j / 2]'(by omega)) := List.getElem?_eq_getElem (by omega)
      have hu : (Pr.cells (l[j / 2]'(by omega)))[j % 2]? = some ((Pr.cells (l[j / 2]'(by omega)))[j % 2]'(by have : (Pr.cells (l[j / 2]'(by omega))).length = 2 := rfl; omega)) := List.getElem?_eq_getElem _
      have hg := flat_get hi hu
      rw [show j / 2 * 2 + j % 2 = j by omega, hj] at hg
      have hc' := (hp' _ _ hi).1 _ _ hu
      rw [show j / 2 * 2 + j % 2 = j by omega] at hc'
      rw [hc', hg]
    · obtain ⟨i, hi⟩ := List.mem_iff_getElem?.1 hq
      exact (hp' i q hi).2
theorem ints_ls {l : List Int} (h : Sl w v (l.map (Value.int .i64))) (hw : ∀ z ∈ l, (Lit.int .i64 z).wf = true) : Ls tInt w (fun _ => True) v l :=
  Ls.of_sl h (fun x hx => by
    have := hw x hx
    simp [Lit.wf, IntKind.min, IntKind.max, IntKind.signed, IntKind.bits] at this
    show -9223372036854775808 ≤ x ∧ x < 9223372036854775808
    omega) (fun _ _ _ => trivial)
end
theorem int_bd {z : Int} (h : (Lit.int .i64 z).wf = true) : -9223372036854775808 ≤ z ∧ z < 9223372036854775808 := by
  simp [Lit.wf, IntKind.min, IntKind.max, IntKind.signed, IntKind.bits] at h
  omega
end Go.Wk
