/- Pairs out of choices may all be; a list's list is itself. No statement is proved here. -/
import Derived.Test.YtimakajeggeebaaPackP
namespace Go.Wk
open Go
theorem right_tabF : ∀ a, a < 6 → ∀ b, b < 10 → right (namesF.getD a [], valuesF.getD b []) = true := by decide
theorem pair_right (s : Sq) : right s.pair.1.pb = true := by
  have h1 := s.num_le 6
  have h2 := (s.num 6).2.num_le 10
  exact right_tabF (s.num 6).1 (by omega) ((s.num 6).2.num 10).1 (by omega)
theorem pairsL_right (n : Nat) : ∀ (s : Sq) (o : List Pr), (∀ q ∈ o, right q.pb = true) → ∀ q ∈ (pairsL n s o).1, right q.pb = true := by
  induction n with
  | zero => exact fun s o h => h
  | succ n ih =>
    intro s o h
    refine ih s.pair.2 (o ++ [s.pair.1]) (fun q hq => ?_)
    rcases List.mem_append.1 hq with hq | hq
    · exact h q hq
    · rw [List.mem_singleton.1 hq]; exact pair_right s
theorem pairs_all {s : Sq} {m : Nat} {p : List Pr} {s' : Sq} (h : s.pairs m = (p, s')) (hm : 1 ≤ m) : 1 ≤ p.length ∧ p.length ≤ m ∧ ∀ q ∈ p, right q.pb = true := by
  have h2 := s.num_le m
  have e : s.pairs m = pairsL ((s.num m).1 + 1) (s.num m).2 [] := rfl
  rw [e] at h
  have hl := (pairsL_bd ((s.num m).1 + 1) (s.num m).2 [] (by simp)).2
  have hr := pairsL_right ((s.num m).1 + 1) (s.num m).2 [] (by simp)
  rw [h] at hl hr
  simp only [List.length_nil, Nat.zero_add] at hl
  exact ⟨by omega, by omega, hr⟩
def backF (p : List Pr) : Nat → List Pr → List Pr
  | 0, o => o
  | k + 1, o => backF p k (o ++ [p.getD k { name := [], value := [] }, p.getD 0 { name := [], value := [] }])
theorem back_end {p o : List Pr} {i : Int} (h : ¬ 0 ≤ i) : backF p (i + 1).toNat o = o := by rw [show (i + 1).toNat = 0 by omega]; rfl
theorem back_step {p o : List Pr} {i : Int} {x y : Pr} (h : 0 ≤ i) (hx : p[i.toNat]? = some x) (hy : p[0]? = some y) : backF p (i + 1).toNat o = backF p (i - 1 + 1).toNat (o ++ [x, y]) := by
  rw [show (i + 1).toNat = i.toNat + 1 by omega, show (i - 1 + 1).toNat = i.toNat by omega]
  show backF p i.toNat (o ++ [p.getD i.toNat _, p.getD 0 _]) = _
  rw [pr_getD hx, pr_getD hy]
theorem back_len (p : List Pr) : ∀ (k : Nat) (o : List Pr), (backF p k o).length = o.length + 2 * k
  | 0, o => by simp [backF]
  | k + 1, o => by unfold backF; rw [back_len p k]; simp; omega
theorem mem_back (p : List Pr) (h0 : 0 < p.length) : ∀ (k : Nat) (o : List Pr), k ≤ p.length → ∀ q, q ∈ backF p k o ↔ q ∈ o ∨ q ∈ p.take k ∨ (0 < k ∧ q = p.getD 0 { name := [], value := [] })
  | 0, o, _, q => by simp [backF]
  | k + 1, o, hk, q => by
    unfold backF
    rw [mem_back p h0 k _ (by omega)]
    have e1 : p[k]? = some (p[k]'(by omega)) := List.getElem?_eq_getElem (by omega)
    rw [List.take_add_one, e1, pr_getD e1]
    simp only [List.mem_append, List.mem_cons, List.not_mem_nil, or_false, Option.toList_some, List.mem_singleton, Nat.zero_lt_succ, true_and]
    constructor
    · rintro ((h | h | h) | h | ⟨_, h⟩) <;> simp [h]
    · rintro (h | (h | h) | h) <;> simp [h]
theorem mem_back_all {p : List Pr} (h0 : 0 < p.length) (q : Pr) : q ∈ backF p p.length [] ↔ q ∈ p := by
  rw [mem_back p h0 p.length [] (Nat.le_refl _)]
  simp only [List.not_mem_nil, List.take_length, false_or]
  constructor
  · rintro (h | ⟨_, h⟩)
    · exact h
    · rw [h]; have e : p[0]? = some p[0] := List.getElem?_eq_getElem h0; rw [pr_getD e]; exact List.getElem_mem h0
  · exact .inl
theorem pack_len (l : List Pr) : (packF l).length ≤ l.length := by
  have := compact_len (sortF l); unfold packF; have h2 : (sortF l).length = l.length := by simp [sortF]
  omega
theorem packE_small {l : List Pr} (h : (packF l).length ≤ 16) : packE l = (packF l, 0) := by unfold packE; rw [if_neg (by omega)]
theorem normal_eq {p back x y z : List Pr} {e f g : Nat} (hp : 1 ≤ p.length ∧ p.length ≤ 16 ∧ ∀ q ∈ p, right q.pb = true) (hb : backF p p.length [] = back) (hx : plistF p = (x, e)) (hy : plistF back = (y, f)) (hz : plistF x = (z, g)) :
    e = 0 ∧ f = 0 ∧ g = 0 ∧ y = x ∧ z = x ∧ Asc x ∧ ∀ q, q ∈ x ↔ q ∈ p := by
  obtain ⟨h1, h2, h3⟩ := hp
  have hl := pack_len p
  rw [plist_right (by omega) h3, packE_small (by omega)] at hx
  obtain ⟨rfl, rfl⟩ := Prod.mk.inj hx
  have hm : ∀ q, q ∈ packF p ↔ q ∈ p := fun q => mem_pack
  have hxr : ∀ q ∈ packF p, right q.pb = true := fun q hq => h3 q ((hm q).1 hq)
  have hmb : ∀ q, q ∈ back ↔ q ∈ p := fun q => by rw [← hb]; exact mem_back_all (by omega) q
  have hbr : ∀ q ∈ back, right q.pb = true := fun q hq => h3 q ((hmb q).1 hq)
  have eb : packF back = packF p := asc_ext (pack_asc hbr) (pack_asc h3) fun q => by rw [mem_pack, mem_pack]; exact hmb q
  have ex : packF (packF p) = packF p := asc_ext (pack_asc hxr) (pack_asc h3) fun q => mem_pack
  have lb : back.length ≠ 0 := by rw [← hb, back_len]; simp; omega
  rw [plist_right lb hbr, packE_small (by rw [eb]; omega), eb] at hy
  obtain ⟨rfl, rfl⟩ := Prod.mk.inj hy
  have lx : (packF p).length ≠ 0 := by
    intro h
    have hp0 : p[0]'(by omega) ∈ packF p := (hm _).2 (List.getElem_mem _)
    rw [List.eq_nil_of_length_eq_zero h] at hp0; simp at hp0
  rw [plist_right lx hxr, packE_small (by rw [ex]; omega), ex] at hz
  obtain ⟨rfl, rfl⟩ := Prod.mk.inj hz
  exact ⟨rfl, rfl, rfl, rfl, rfl, pack_asc h3, hm⟩
theorem plist_len {l x : List Pr} {e : Nat} (h : plistF l = (x, e)) : x.length ≤ l.length ∨ x.length = 0 := by
  have key : ∀ (m : List Pr) (r : List Pr × Nat), (chkL m r).1 = [] ∨ chkL m r = r := by
    intro m r
    induction m with
    | nil => exact .inr rfl
    | cons p t ih =>
      show (if (joinF p).2 ≠ 0 then ([], (joinF p).2) else chkL t r).1 = [] ∨ (if (joinF p).2 ≠ 0 then ([], (joinF p).2) else chkL t r) = r
      split
      · exact .inl rfl
      · exact ih
  have hl := pack_len l
  unfold plistF at h
  split at h
  · obtain ⟨rfl, _⟩ := Prod.mk.inj h; exact .inr rfl
  · rcases key l (packE l) with h1 | h1
    · rw [h] at h1; simp only at h1; subst h1; exact .inr rfl
    · rw [h1] at h
      unfold packE at h
      split at h
      · obtain ⟨rfl, _⟩ := Prod.mk.inj h; exact .inr rfl
      · obtain ⟨rfl, _⟩ := Prod.mk.inj h; exact .inl hl
theorem asc_get {x : List Pr} (h : Asc x) {i : Nat} {a b : Pr} (hi : 1 ≤ i) (ha : x[i - 1]? = some a) (hb : x[i]? = some b) : Op.bytesLess (whole a.pb) (whole b.pb) = true := by
  obtain ⟨h1, e1⟩ := List.getElem?_eq_some_iff.1 ha
  obtain ⟨h2, e2⟩ := List.getElem?_eq_some_iff.1 hb
  have := List.pairwise_iff_getElem.1 h (i - 1) i h1 h2 (by omega)
  rwa [e1, e2] at this
theorem right_bd {p : Pr} (h : right p.pb = true) : p.name.length + p.value.length ≤ 1000 := by
  have h2 := right_len h
  have h3 : p.name.length ≤ 64 := h2.1
  have h4 : p.value.length ≤ 256 := h2.2
  omega
theorem same_of {x p : List Pr} (h : ∀ q, q ∈ x ↔ q ∈ p) : (allIn p x && allIn x p) = true := by
  rw [allIn_iff.2 fun q hq => (h q).1 hq, allIn_iff.2 fun q hq => (h q).2 hq]; rfl
end Go.Wk
