/- What the reference's makers of bytes compute. No statement is proved here. -/
import Derived.Test.YtahkddpdhmhfcaaLeP
import Derived.Test.YtahkddpdhmhfcaaTypes
namespace Go.Wk
open Go Go.RowKit
def low : Nat → Nat → List UInt8
  | _, 0 => []
  | v, n + 1 => UInt8.ofNat (v % 256) :: low (v / 256) n
theorem low_len (v n : Nat) : (low v n).length = n := by
  induction n generalizing v with
  | zero => rfl
  | succ n ih => simp [low, ih]
def nums : List Nat → List UInt8
  | [] => []
  | v :: r => low v 8 ++ nums r
theorem nums_len (l : List Nat) : (nums l).length = 8 * l.length := by
  induction l with
  | nil => rfl
  | cons v r ih => simp [nums, low_len, ih]; omega
theorem low_step (v : Nat) {n i : Nat} (h : i < n) : low v (n - i) = UInt8.ofNat (v % 256) :: low (v / 256) (n - (i + 1)) := by
  rw [show n - i = (n - (i + 1)) + 1 by omega]; rfl
theorem low_end (v : Nat) {n i : Nat} (h : ¬ i < n) : low v (n - i) = [] := by
  rw [show n - i = 0 by omega]; rfl
theorem nums_step {l : List Nat} {i x : Nat} (h : l[i]? = some x) : nums (l.drop i) = low x 8 ++ nums (l.drop (i + 1)) := by rw [drop_get h]; rfl
theorem nums_end {l : List Nat} {i : Nat} (h : ¬ i < l.length) : nums (l.drop i) = [] := by rw [drop_end (by omega)]; rfl
/-- Zeros to the next multiple of eight. -/
def pad8 (l : List UInt8) : List UInt8 := l ++ List.replicate ((8 - l.length % 8) % 8) 0
theorem pad8_step {l : List UInt8} (h : l.length % 8 ≠ 0) : pad8 l = pad8 (l ++ [0]) := by
  unfold pad8
  rw [List.append_assoc, List.length_append]
  congr 1
  rw [show (8 - l.length % 8) % 8 = (8 - (l.length + [(0 : UInt8)].length) % 8) % 8 + 1 by simp; omega, List.replicate_succ]
  rfl
theorem pad8_end {l : List UInt8} (h : l.length % 8 = 0) : pad8 l = l := by simp [pad8, h]
theorem pad8_len (l : List UInt8) : (pad8 l).length = (l.length + 7) / 8 * 8 := by simp [pad8]; omega
/-- An object's bytes. -/
def putF (kind : Nat) (body : List UInt8) : List UInt8 :=
  if kind < 1 ∨ 7 < kind then [] else pad8 ([UInt8.ofNat kind, 0, 0, 0, 0, 0, 0, 0] ++ nums [16 + body.length] ++ body)
def putDataF (d : Dat) : List UInt8 := putF 1 (nums [d.hash, d.nextHash, d.nextField, d.entry, d.array, d.count] ++ d.payload)
def putFieldF (d : Fld) : List UInt8 := putF 2 (nums [d.hash, d.nextHash, d.dat] ++ d.payload)
def putArrayF (a : Arr) : List UInt8 := putF 6 (nums [a.next] ++ nums a.items)
def slotsF : List Slt → List UInt8
  | [] => []
  | s :: r => nums [s.first, s.tail] ++ slotsF r
def putTableF (kind : Nat) (l : List Slt) : List UInt8 := if kind ≠ 4 ∧ kind ≠ 5 then [] else putF kind (slotsF l)
def itemsF : List Itm → List UInt8
  | [] => []
  | s :: r => nums [s.pos, s.hash] ++ itemsF r
def putEntryF (e : Ent) : List UInt8 := putF 3 (nums [e.seq, e.real, e.mono] ++ e.boot ++ nums [e.xor] ++ itemsF e.items)
def headF (h : RHead) (depth : Nat) : List UInt8 :=
  [76, 80, 75, 83, 72, 72, 82, 72] ++ low h.compat 4 ++ low h.incompat 4 ++ [UInt8.ofNat h.state, 0, 0, 0, 0, 0, 0, 0] ++ h.file ++ h.machine ++ h.boot ++ h.seq ++ nums h.n ++ nums [depth] ++ low h.tailArray 4 ++ low h.tailItems 4 ++ nums [h.tailEntry]
theorem putF_len {k : Nat} {b : List UInt8} (h : 1 ≤ k ∧ k ≤ 7) : (putF k b).length = (16 + b.length + 7) / 8 * 8 := by
  unfold putF
  rw [if_neg (by omega), pad8_len]
  simp [nums_len]
  omega
theorem slots_step {l : List Slt} {i : Nat} {x : Slt} (h : l[i]? = some x) : slotsF (l.drop i) = nums [x.first, x.tail] ++ slotsF (l.drop (i + 1)) := by rw [drop_get h]; rfl
theorem slots_end {l : List Slt} {i : Nat} (h : ¬ i < l.length) : slotsF (l.drop i) = [] := by rw [drop_end (by omega)]; rfl
theorem slots_len (l : List Slt) : (slotsF l).length = 16 * l.length := by
  induction l with
  | nil => rfl
  | cons v r ih => simp [slotsF, nums_len, ih]; omega
theorem items_step {l : List Itm} {i : Nat} {x : Itm} (h : l[i]? = some x) : itemsF (l.drop i) = nums [x.pos, x.hash] ++ itemsF (l.drop (i + 1)) := by rw [drop_get h]; rfl
theorem items_end {l : List Itm} {i : Nat} (h : ¬ i < l.length) : itemsF (l.drop i) = [] := by rw [drop_end (by omega)]; rfl
theorem items_len (l : List Itm) : (itemsF l).length = 16 * l.length := by
  induction l with
  | nil => rfl
  | cons v r ih => simp [itemsF, nums_len, ih]; omega
theorem putDataF_len (d : Dat) : (putDataF d).length = (16 + (48 + d.payload.length) + 7) / 8 * 8 := by unfold putDataF; rw [putF_len (by omega)]; simp [nums_len]
theorem putFieldF_len (d : Fld) : (putFieldF d).length = (16 + (24 + d.payload.length) + 7) / 8 * 8 := by unfold putFieldF; rw [putF_len (by omega)]; simp [nums_len]
theorem putArrayF_len (a : Arr) : (putArrayF a).length = (16 + (8 + 8 * a.items.length) + 7) / 8 * 8 := by unfold putArrayF; rw [putF_len (by omega)]; simp [nums_len]
theorem putEntryF_len (e : Ent) (h : e.boot.length = 16) : (putEntryF e).length = (16 + (48 + 16 * e.items.length) + 7) / 8 * 8 := by unfold putEntryF; rw [putF_len (by omega)]; simp [nums_len, items_len, h]; omega
theorem putTableF_len (kind : Nat) (l : List Slt) (h : kind = 4 ∨ kind = 5) : (putTableF kind l).length = (16 + 16 * l.length + 7) / 8 * 8 := by unfold putTableF; rw [if_neg (by omega), putF_len (by omega), slots_len]
theorem putTableF_lenA (kind : Nat) (l : List Slt) : (putTableF kind l).length ≤ 24 + 16 * l.length ∧ (kind = 4 ∨ kind = 5 → (putTableF kind l).length = (16 + 16 * l.length + 7) / 8 * 8) := by
  refine ⟨?_, fun h => putTableF_len kind l h⟩
  by_cases h : kind = 4 ∨ kind = 5
  · rw [putTableF_len kind l h]; omega
  · unfold putTableF; rw [if_pos (by omega)]; simp
end Go.Wk
