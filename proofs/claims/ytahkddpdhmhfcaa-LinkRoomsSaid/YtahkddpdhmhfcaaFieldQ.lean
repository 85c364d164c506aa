/- Plain laws of the order of pairs. -/
import Derived.Test.YtahkddpdhmhfcaaFieldP
namespace Go.Wk
open Go Go.Op

theorem bl_irr : ∀ a : List UInt8, bytesLess a a = false
  | [] => rfl
  | x :: a => by simp [bytesLess, bl_irr a]
theorem bl_trans : ∀ {a b c : List UInt8}, bytesLess a b = true → bytesLess b c = true → bytesLess a c = true
  | _, [], _, h, _ => by unfold bytesLess at h; cases h
  | _, _ :: _, [], _, h => by unfold bytesLess at h; cases h
  | [], _ :: _, _ :: _, _, _ => rfl
  | x :: a, y :: b, z :: c, h1, h2 => by
    simp only [bytesLess, Bool.or_eq_true, decide_eq_true_eq, Bool.and_eq_true, beq_iff_eq] at *
    rcases h1 with h1 | ⟨rfl, h1⟩ <;> rcases h2 with h2 | ⟨rfl, h2⟩
    · exact .inl (UInt8.lt_trans h1 h2)
    · exact .inl h1
    · exact .inl h2
    · exact .inr ⟨rfl, bl_trans h1 h2⟩
theorem bl_asym {a b : List UInt8} (h : bytesLess a b = true) : bytesLess b a = false := by
  cases h2 : bytesLess b a with
  | false => rfl
  | true => have := bl_trans h h2; rw [bl_irr] at this; cases this
theorem bl_tri : ∀ {a b : List UInt8}, bytesLess a b = false → bytesLess b a = false → a = b
  | [], [], _, _ => rfl
  | [], _ :: _, h, _ => by unfold bytesLess at h; cases h
  | _ :: _, [], _, h => by unfold bytesLess at h; cases h
  | x :: a, y :: b, h1, h2 => by
    simp only [bytesLess, Bool.or_eq_false_iff, decide_eq_false_iff_not, Bool.and_eq_false_iff, beq_eq_false_iff_ne] at *
    have hxy : x = y := by
      have h3 := h1.1; have h4 := h2.1
      exact UInt8.le_antisymm (UInt8.not_lt.1 h4) (UInt8.not_lt.1 h3)
    subst hxy
    have h3 := h1.2.resolve_left (by simp)
    have h4 := h2.2.resolve_left (by simp)
    rw [bl_tri h3 h4]
theorem whole_inj {p q : PairB} (hp : right p = true) (hq : right q = true) (h : whole p = whole q) : p = q := by
  have h1 := (split_whole ((joinC_right p).2 hp)).2
  have h2 := (split_whole ((joinC_right q).2 hq)).2
  rw [← h1, h, h2]
theorem tri_T {p q : PairB} (h : bytesLess (whole p) (whole q) = true) : (true == !decide (p = q)) = true := by
  have : p ≠ q := by rintro rfl; rw [bl_irr] at h; cases h
  simp [this]
theorem tri_F {p q : PairB} (hp : right p = true) (hq : right q = true) (h : bytesLess (whole p) (whole q) = false) : (bytesLess (whole q) (whole p) == !decide (p = q)) = true := by
  cases h2 : bytesLess (whole q) (whole p) with
  | true =>
    have : p ≠ q := by rintro rfl; rw [h] at h2; cases h2
    simp [this]
  | false =>
    have := whole_inj hp hq (bl_tri h h2)
    simp [this]
theorem right_len {p : PairB} (h : right p = true) : p.1.length ≤ 64 ∧ p.2.length ≤ 256 := by
  simp only [right, Bool.and_eq_true, decide_eq_true_eq] at h
  exact ⟨(name_len h.1).2, h.2⟩
theorem tab_at {L : List (List UInt8)} {r : Nat} (h : r < L.length) : (L.map str)[((r : Nat) : Int).toNat]? = some (str (L.getD r [])) := by simp [List.getD, h]
end Go.Wk
