/- The package's list and the document's are one. No statement is proved here. -/
import Derived.Test.YtimakajeggeebaaSortR
namespace Go.Wk
open Go
abbrev plt (p q : Pr) : Prop := Op.bytesLess (whole p.pb) (whole q.pb) = true
theorem plt_irr (p : Pr) : ¬ plt p p := by unfold plt; rw [bl_irr]; simp
theorem plt_trans {p q r : Pr} (h : plt p q) (k : plt q r) : plt p r := bl_trans h k
theorem plt_tri {p q : Pr} (hp : right p.pb = true) (hq : right q.pb = true) (h : ¬ plt p q) (k : ¬ plt q p) : p = q :=
  pb_inj.1 (whole_inj hp hq (bl_tri (by simpa [plt] using h) (by simpa [plt] using k)))
abbrev Asc (l : List Pr) : Prop := l.Pairwise plt
/-- Two rising lists of the same pairs are one. -/
theorem asc_ext : ∀ {l m : List Pr}, Asc l → Asc m → (∀ p, p ∈ l ↔ p ∈ m) → l = m
  | [], [], _, _, _ => rfl
  | [], b :: m, _, _, h => by have := (h b).2 (by simp); simp at this
  | a :: l, [], _, _, h => by have := (h a).1 (by simp); simp at this
  | a :: l, b :: m, hl, hm, h => by
    obtain ⟨hl1, hl2⟩ := List.pairwise_cons.1 hl
    obtain ⟨hm1, hm2⟩ := List.pairwise_cons.1 hm
    have e : a = b := by
      rcases List.mem_cons.1 ((h a).1 (by simp)) with e | h1
      · exact e
      · rcases List.mem_cons.1 ((h b).2 (by simp)) with e | h2
        · exact e.symm
        · exact absurd (plt_trans (hl1 b h2) (hm1 a h1)) (plt_irr a)
    subst e
    congr 1
    refine asc_ext hl2 hm2 fun p => ⟨fun hp => ?_, fun hp => ?_⟩
    · rcases List.mem_cons.1 ((h p).1 (by simp [hp])) with rfl | h1
      · exact absurd (hl1 p hp) (plt_irr p)
      · exact h1
    · rcases List.mem_cons.1 ((h p).2 (by simp [hp])) with rfl | h1
      · exact absurd (hm1 p hp) (plt_irr p)
      · exact h1
/-! the document's insertion -/
def ins' (p : Pr) : List Pr → List Pr
  | [] => [p]
  | q :: r => if Op.bytesLess (payload q) (payload p) = true then q :: ins' p r else if q.pb = p.pb then q :: r else p :: q :: r
theorem rank_succ (t : List UInt8) (o : List Pr) (k : Nat) : rankF t o (k + 1) = rankF t o k + 1 := by
  induction o generalizing k with
  | nil => rfl
  | cons q r ih => unfold rankF; split <;> simp [ih]
theorem rank_le (t : List UInt8) (o : List Pr) : rankF t o 0 ≤ o.length := by
  induction o with
  | nil => simp [rankF]
  | cons q r ih => unfold rankF; split <;> simp [rank_succ, ih]
theorem shift_len : ∀ (n j : Nat) (o : List Pr), (shiftF n j o).length = o.length
  | 0, _, _ => rfl
  | n + 1, j, o => by unfold shiftF; rw [shift_len n]; simp
theorem shift_get : ∀ (n j : Nat) (o : List Pr), n ≤ j → j < o.length → ∀ i, i < o.length → (shiftF n j o)[i]? = if j - n < i ∧ i ≤ j then o[i - 1]? else o[i]?
  | 0, j, o, _, _, i, _ => by simp [shiftF]; intro h1 h2; omega
  | n + 1, j, o, hn, hj, i, hi => by
    unfold shiftF
    have hd : o.getD (j - 1) { name := [], value := [] } = o[j - 1] := by simp [List.getD, show j - 1 < o.length by omega]
    rw [shift_get n (j - 1) _ (by omega) (by simp; omega) i (by simpa using hi), hd]
    by_cases h1 : j - 1 - n < i ∧ i ≤ j - 1
    · rw [if_pos h1, if_pos (by omega), List.getElem?_set_ne (by omega)]
    · rw [if_neg h1]
      by_cases h2 : i = j
      · subst h2
        rw [if_pos (by omega), List.getElem?_set_self hj, List.getElem?_eq_getElem (show i - 1 < o.length by omega)]
      · rw [if_neg (by omega), List.getElem?_set_ne (by omega)]
theorem shift_set (o : List Pr) (k : Nat) (p d : Pr) (hk : k ≤ o.length) : (shiftF (o.length - k) o.length (o ++ [d])).set k p = o.take k ++ p :: o.drop k := by
  apply List.ext_getElem?
  intro i
  have hl : (shiftF (o.length - k) o.length (o ++ [d])).length = o.length + 1 := by rw [shift_len]; simp
  by_cases hi : i < o.length + 1
  · by_cases h1 : i = k
    · subst h1
      rw [List.getElem?_set_self (by omega), List.getElem?_append_right (by simp; omega)]
      simp [Nat.min_eq_left hk]
    · rw [List.getElem?_set_ne (Ne.symm h1), shift_get _ _ _ (by omega) (by simp) i (by simp; omega)]
      by_cases h2 : o.length - (o.length - k) < i ∧ i ≤ o.length
      · rw [if_pos h2, List.getElem?_append_left (by omega), List.getElem?_append_right (by simp; omega)]
        simp only [List.length_take, Nat.min_eq_left hk]
        obtain ⟨m, rfl⟩ : ∃ m, i = k + 1 + m := ⟨i - (k + 1), by omega⟩
        rw [show k + 1 + m - k = m + 1 by omega, List.getElem?_cons_succ, List.getElem?_drop]
        congr 1; omega
      · rw [if_neg h2, List.getElem?_append_left (by omega), List.getElem?_append_left (by simp; omega), List.getElem?_take, if_pos (by omega)]
  · rw [List.getElem?_eq_none (by simp [hl]; omega), List.getElem?_eq_none (by simp; omega)]
theorem ins_eq (p : Pr) (o : List Pr) : insF p o = ins' p o := by
  have key : ∀ o : List Pr, (rankF (payload p) o 0 < o.length ∧ (o.getD (rankF (payload p) o 0) { name := [], value := [] }).pb = p.pb → ins' p o = o) ∧
      (¬ (rankF (payload p) o 0 < o.length ∧ (o.getD (rankF (payload p) o 0) { name := [], value := [] }).pb = p.pb) → ins' p o = o.take (rankF (payload p) o 0) ++ p :: o.drop (rankF (payload p) o 0)) := by
    intro o
    induction o with
    | nil => simp [rankF, ins']
    | cons q r ih =>
      unfold rankF ins'
      by_cases h1 : Op.bytesLess (payload q) (payload p) = true
      · rw [if_pos h1, if_pos h1, rank_succ]
        simp only [List.length_cons, Nat.add_lt_add_iff_right, List.getD_cons_succ, List.take_succ_cons, List.drop_succ_cons, List.cons_append, List.cons.injEq, true_and]
        exact ih
      · rw [if_neg h1, if_neg h1]
        simp only [List.length_cons, Nat.zero_lt_succ, true_and, List.getD_cons_zero, List.take_zero, List.drop_zero, List.nil_append]
        exact ⟨fun h => if_pos h, fun h => if_neg h⟩
  unfold insF
  simp only
  split
  · rename_i h; exact ((key o).1 h).symm
  · rename_i h; rw [shift_set _ _ _ _ (rank_le _ _)]; exact ((key o).2 h).symm
theorem mem_ins {p q : Pr} {o : List Pr} : q ∈ ins' p o ↔ q = p ∨ q ∈ o := by
  induction o with
  | nil => simp [ins']
  | cons x r ih =>
    unfold ins'
    split
    · simp [ih]; constructor
      · rintro (h | h | h) <;> simp [h]
      · rintro (h | h | h) <;> simp [h]
    · split
      · rename_i h; rw [pb_inj] at h; subst h; simp
      · simp
theorem asc_ins {p : Pr} {o : List Pr} (hp : right p.pb = true) (ho : ∀ q ∈ o, right q.pb = true) (h : Asc o) : Asc (ins' p o) := by
  induction o with
  | nil => simp [ins']
  | cons x r ih =>
    obtain ⟨h1, h2⟩ := List.pairwise_cons.1 h
    unfold ins'
    split
    · rename_i hx
      refine List.pairwise_cons.2 ⟨fun q hq => ?_, ih (fun q hq => ho q (by simp [hq])) h2⟩
      rcases mem_ins.1 hq with rfl | hq
      · exact hx
      · exact h1 q hq
    · rename_i hx
      split
      · exact h
      · rename_i hne
        have hpx : plt p x := by
          cases hb : Op.bytesLess (whole p.pb) (whole x.pb) with
          | true => exact hb
          | false => exact absurd (pb_inj.2 (plt_tri (ho x (by simp)) hp hx (by simp [plt, hb]))) hne
        refine List.pairwise_cons.2 ⟨fun q hq => ?_, h⟩
        rcases List.mem_cons.1 hq with rfl | hq
        · exact hpx
        · exact plt_trans hpx (h1 q hq)
/-! the package's sort -/
theorem leP_trans (a b c : Pr) (h : leP a b = true) (k : leP b c = true) : leP a c = true := by
  unfold leP at *
  simp only [Bool.not_eq_true'] at *
  cases h3 : Op.bytesLess (whole c.pb) (whole a.pb) with
  | false => rfl
  | true =>
    cases h4 : Op.bytesLess (whole a.pb) (whole b.pb) with
    | true => have := bl_trans h3 h4; rw [k] at this; cases this
    | false => have e := bl_tri h4 h; rw [e, k] at h3; cases h3
theorem leP_total (a b : Pr) : (leP a b || leP b a) = true := by
  unfold leP
  cases h : Op.bytesLess (whole b.pb) (whole a.pb) with
  | false => rfl
  | true => rw [bl_asym h]; rfl
theorem sort_le (l : List Pr) : (sortF l).Pairwise fun a b => leP a b = true := List.pairwise_mergeSort leP_trans leP_total l
theorem mem_sort {p : Pr} {l : List Pr} : p ∈ sortF l ↔ p ∈ l := List.mem_mergeSort
theorem mem_dd {p : Pr} : ∀ {l : List Pr} {x : Pr}, x ∈ ddF p l ∨ x = p ↔ x ∈ l ∨ x = p
  | [], x => by simp [ddF]
  | q :: r, x => by
    unfold ddF
    have ih := mem_dd (p := q) (l := r) (x := x)
    split
    · rename_i h; rw [pb_inj] at h; subst h
      rw [ih]; simp; constructor
      · rintro (h | h) <;> simp [h]
      · rintro ((h | h) | h) <;> simp [h]
    · simp only [List.mem_cons]
      constructor
      · rintro ((h | h) | h)
        · simp [h]
        · rcases ih.1 (.inl h) with h | h <;> simp [h]
        · simp [h]
      · rintro ((h | h) | h)
        · simp [h]
        · rcases ih.2 (.inl h) with h | h <;> simp [h]
        · simp [h]
theorem mem_compact {x : Pr} : ∀ {l : List Pr}, x ∈ compactF l ↔ x ∈ l
  | [] => by simp [compactF]
  | p :: r => by
    have := mem_dd (p := p) (l := r) (x := x)
    simp only [compactF, List.mem_cons]
    constructor
    · rintro (h | h)
      · simp [h]
      · rcases this.1 (.inl h) with h | h <;> simp [h]
    · rintro (h | h)
      · simp [h]
      · rcases this.2 (.inl h) with h | h <;> simp [h]
theorem dd_asc : ∀ {l : List Pr} {p : Pr}, right p.pb = true → (∀ q ∈ l, right q.pb = true) → (p :: l).Pairwise (fun a b => leP a b = true) → Asc (p :: ddF p l)
  | [], p, _, _, _ => by simp [ddF]
  | q :: r, p, hp, hr, h => by
    obtain ⟨h1, h2⟩ := List.pairwise_cons.1 h
    have hq := hr q (by simp)
    have ih := dd_asc hq (fun x hx => hr x (by simp [hx])) h2
    unfold ddF
    split
    · rename_i e; rw [pb_inj] at e; subst e; exact ih
    · rename_i e
      have hpq : plt p q := by
        have h3 := h1 q (by simp)
        unfold leP at h3
        cases hb : Op.bytesLess (whole p.pb) (whole q.pb) with
        | true => exact hb
        | false => exact absurd (pb_inj.2 (plt_tri hq hp (by simpa [plt] using h3) (by simp [plt, hb]))) e
      refine List.pairwise_cons.2 ⟨fun x hx => ?_, ih⟩
      rcases List.mem_cons.1 hx with rfl | hx
      · exact hpq
      · exact plt_trans hpq ((List.pairwise_cons.1 ih).1 x hx)
theorem pack_asc {l : List Pr} (h : ∀ q ∈ l, right q.pb = true) : Asc (packF l) := by
  unfold packF
  have hs := sort_le l
  have hr : ∀ q ∈ sortF l, right q.pb = true := fun q hq => h q (mem_sort.1 hq)
  cases hl : sortF l with
  | nil => simp [compactF]
  | cons p r => rw [hl] at hs hr; exact dd_asc (hr p (by simp)) (fun q hq => hr q (by simp [hq])) hs
theorem mem_pack {x : Pr} {l : List Pr} : x ∈ packF l ↔ x ∈ l := mem_compact.trans mem_sort
/-! both are one -/
theorem goL_right : ∀ (l o : List Pr), (∀ q ∈ l, right q.pb = true) → (∀ q ∈ o, right q.pb = true) → Asc o →
    ∃ m, goL l o = (if 16 < m.length then ([], 21) else (m, 0)) ∧ Asc m ∧ ∀ x, x ∈ m ↔ x ∈ l ∨ x ∈ o
  | [], o, _, _, ha => ⟨o, rfl, ha, by simp⟩
  | p :: r, o, hl, ho, ha => by
    have hp := hl p (by simp)
    have e : goL (p :: r) o = goL r (ins' p o) := by
      show (if (joinF p).2 ≠ 0 then ([], (joinF p).2) else goL r (insF p o)) = _
      rw [if_neg (by simp [joinF_right.2 hp]), ins_eq]
    obtain ⟨m, h1, h2, h3⟩ := goL_right r (ins' p o) (fun q hq => hl q (by simp [hq])) (fun q hq => by rcases mem_ins.1 hq with rfl | hq; exact hp; exact ho q hq) (asc_ins hp ho ha)
    refine ⟨m, by rw [e, h1], h2, fun x => ?_⟩
    rw [h3, mem_ins]
    simp; constructor
    · rintro (h | h | h) <;> simp [h]
    · rintro ((h | h) | h) <;> simp [h]
theorem chk_right : ∀ (l : List Pr) (r : List Pr × Nat), (∀ q ∈ l, right q.pb = true) → chkL l r = r
  | [], _, _ => rfl
  | p :: t, r, h => by
    show (if (joinF p).2 ≠ 0 then ([], (joinF p).2) else chkL t r) = r
    rw [if_neg (by simp [joinF_right.2 (h p (by simp))]), chk_right t r fun q hq => h q (by simp [hq])]
theorem chk_wrong : ∀ (l o : List Pr) (r : List Pr × Nat), (¬ ∀ q ∈ l, right q.pb = true) → chkL l r = goL l o
  | [], _, _, h => absurd (by simp) h
  | p :: t, o, r, h => by
    show (if (joinF p).2 ≠ 0 then ([], (joinF p).2) else chkL t r) = (if (joinF p).2 ≠ 0 then ([], (joinF p).2) else goL t (insF p o))
    split
    · rfl
    · rename_i h1
      have hp : right p.pb = true := joinF_right.1 (by simpa using h1)
      exact chk_wrong t _ r fun hh => h fun q hq => by rcases List.mem_cons.1 hq with rfl | hq; exact hp; exact hh q hq
theorem plist_right {l : List Pr} (h0 : l.length ≠ 0) (h : ∀ q ∈ l, right q.pb = true) : plistF l = packE l := by
  unfold plistF; rw [if_neg h0, chk_right l _ h]
theorem plist_eq (l : List Pr) : plistF l = listF l := by
  unfold plistF listF
  split
  · rfl
  · by_cases h : ∀ q ∈ l, right q.pb = true
    · obtain ⟨m, h1, h2, h3⟩ := goL_right l [] h (by simp) (by simp)
      have e : m = packF l := asc_ext h2 (pack_asc h) fun x => by rw [h3, mem_pack]; simp
      rw [chk_right l _ h, h1, e]; rfl
    · exact chk_wrong l [] _ h
theorem samePairs_self (a : List Pr) : samePairsF a a = true := by unfold samePairsF; rw [if_pos rfl, eqL_self]
theorem sameTexts_self (a : List (List UInt8)) : sameTextsF a a = true := by unfold sameTextsF; rw [if_pos rfl, eqT_self]
end Go.Wk
