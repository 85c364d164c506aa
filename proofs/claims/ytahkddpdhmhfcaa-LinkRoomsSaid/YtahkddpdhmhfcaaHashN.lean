/- The hashes as natural numbers. No statement is proved here. -/
import Derived.Test.YtahkddpdhmhfcaaHashP
import Derived.Test.YtahkddpdhmhfcaaRefP
namespace Go.Wk
open Go Go.RowKit
theorem bits_bd64 (op : BinOp) (a b : Int) : 0 ≤ bits op .u64 a b ∧ bits op .u64 a b < 18446744073709551616 := by
  unfold bits
  cases op <;> simp only [wrap_u64_mod] <;> omega
theorem pack_bd (t : T3) : 0 ≤ pack t ∧ pack t < 18446744073709551616 := bits_bd64 _ _ _
theorem lkF_bd : ∀ (k : Nat) (t : T3) (l : List UInt8), 0 ≤ lkF k t l ∧ lkF k t l < 18446744073709551616
  | 0, t, l => by unfold lkF; split <;> exact pack_bd _
  | k + 1, t, l => by
    unfold lkF
    split
    · exact lkF_bd k _ _
    · split <;> exact pack_bd _
theorem lookup_bd (l : List UInt8) : 0 ≤ lookup l ∧ lookup l < 18446744073709551616 := lkF_bd _ _ _
theorem sip_bd (key l : List UInt8) : 0 ≤ sip key l ∧ sip key l < 18446744073709551616 := by
  unfold sip sipEnd S4.all xor64
  exact bits_bd64 _ _ _
def lookN (l : List UInt8) : Nat := (lookup l).toNat
def hashN (k : Bool) (key l : List UInt8) : Nat := if k then (sip key l).toNat else lookN l
theorem hashN_eq (k : Bool) (key l : List UInt8) : ((hashN k key l : Nat) : Int) = if k then sip key l else lookup l := by
  unfold hashN lookN
  have h1 := lookup_bd l
  have h2 := sip_bd key l
  cases k <;> simp <;> omega
theorem hashN_lt (k : Bool) (key l : List UInt8) : hashN k key l < 18446744073709551616 := by
  have h1 := lookup_bd l
  have h2 := sip_bd key l
  have h3 := hashN_eq k key l
  cases k <;> simp at h3 <;> omega
theorem lookN_eq (l : List UInt8) : ((lookN l : Nat) : Int) = lookup l := by have h1 := lookup_bd l; unfold lookN; omega
theorem lookN_lt (l : List UInt8) : lookN l < 18446744073709551616 := by have h1 := lookup_bd l; unfold lookN; omega
def xorF (v : Nat) : List (List UInt8) → Nat
  | [] => v
  | b :: r => xorF (v ^^^ lookN b) r
theorem xor_step {v : Nat} {l : List (List UInt8)} {i : Nat} {x : List UInt8} (h : l[i]? = some x) : xorF v (l.drop i) = xorF (v ^^^ lookN x) (l.drop (i + 1)) := by rw [drop_get h]; rfl
theorem xor_end {v : Nat} {l : List (List UInt8)} {i : Nat} (h : ¬ i < l.length) : xorF v (l.drop i) = v := by rw [drop_end (by omega)]; rfl
theorem xor64_lt {a b : Nat} (ha : a < 18446744073709551616) (hb : b < 18446744073709551616) : a ^^^ b < 18446744073709551616 := Nat.xor_lt_two_pow (n := 64) ha hb
def payload (p : Pr) : List UInt8 := p.name ++ [61] ++ p.value
theorem payload_len (p : Pr) : (payload p).length = p.name.length + 1 + p.value.length := by simp [payload]; omega
end Go.Wk
