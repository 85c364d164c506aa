/- What the functions on numbers in bytes compute. No statement is proved here. -/
import Derived.Test.YtahkddpdhmhfcaaMore
namespace Go.Wk
open Go Go.RowKit
def sizeOk (n : Int) : Bool := decide (n = 1 ∨ n = 2 ∨ n = 4 ∨ n = 8)
/-- The number that bytes are, the lowest first. -/
def leN : List UInt8 → Nat
  | [] => 0
  | b :: r => b.toNat + 256 * leN r
def getF (l : List UInt8) (a n : Int) : Nat × Bool :=
  if sizeOk n = true ∧ 0 ≤ a ∧ a + n ≤ l.length then (leN ((l.drop a.toNat).take n.toNat), true) else (0, false)
theorem leN_lt (l : List UInt8) : leN l < 256 ^ l.length := by
  induction l with
  | nil => simp [leN]
  | cons b r ih =>
    simp only [leN, List.length_cons, Nat.pow_succ]
    have := UInt8.toNat_lt b
    omega
theorem leN_lt_of {l : List UInt8} {k : Nat} (h : l.length ≤ k) : leN l < 256 ^ k := Nat.lt_of_lt_of_le (leN_lt l) (Nat.pow_le_pow_right (by omega) h)
theorem leN_step {l : List UInt8} {i k : Nat} {x : UInt8} (h : l[i]? = some x) : leN ((l.drop i).take (k + 1)) = x.toNat + 256 * leN ((l.drop (i + 1)).take k) := by
  rw [drop_get h]; rfl
theorem getF_no {l : List UInt8} {a n : Int} (h : ¬ (sizeOk n = true ∧ 0 ≤ a ∧ a + n ≤ l.length)) : getF l a n = (0, false) := if_neg h
theorem sizeOk_iff {n : Int} : sizeOk n = true ↔ (n = 1 ∨ n = 2 ∨ n = 4 ∨ n = 8) := by simp [sizeOk]
theorem sizeOk_le {n : Int} (h : sizeOk n = true) : 1 ≤ n ∧ n ≤ 8 := by rw [sizeOk_iff] at h; omega
end Go.Wk
