/- Plain functions and laws of numbers in bytes and of the two hashes. No program is in sight. -/
import Derived.Test.YtahkddpdhmhfcaaSteps
namespace Go.Wk
open Go Go.RowKit

/-- The number whose lowest byte stands first. -/
def leNum : List UInt8 → Int
  | [] => 0
  | b :: r => (b.toNat : Int) + 256 * leNum r
theorem leNum_nonneg (l : List UInt8) : 0 ≤ leNum l := by
  induction l with
  | nil => simp [leNum]
  | cons b r ih => simp only [leNum]; omega
theorem leNum_lt (l : List UInt8) : leNum l < 256 ^ l.length := by
  induction l with
  | nil => simp [leNum]
  | cons b r ih =>
    simp only [leNum, List.length_cons, Int.pow_succ]
    have := b.toNat_lt
    omega
theorem leNum_lt_of {l : List UInt8} {k : Nat} (h : l.length ≤ k) : leNum l < 256 ^ k := by
  refine Int.lt_of_lt_of_le (leNum_lt l) ?_
  have h1 : 256 ^ l.length ≤ 256 ^ k := Nat.pow_le_pow_right (by omega) h
  have h2 := Int.ofNat_le.2 h1
  rw [Int.natCast_pow, Int.natCast_pow] at h2
  exact h2

def szB (n : Int) : Bool := decide (n = 1 ∨ n = 2 ∨ n = 4 ∨ n = 8)

theorem shl8_or (v : Int) (c : UInt8) (h0 : 0 ≤ v) (h1 : v < 72057594037927936) :
    bits .or .u64 (shlv .u64 v 8) (IntKind.u64.wrap (c.toNat : Int)) = (c.toNat : Int) + 256 * v := by
  obtain ⟨m, rfl⟩ := Int.eq_ofNat_of_zero_le h0
  have hc := c.toNat_lt
  have e1 : shlv .u64 (m : Int) 8 = ((m * 256 : Nat) : Int) := by
    unfold shlv
    have : min (8 : Int).toNat IntKind.u64.bits = 8 := by decide
    rw [this, wrap_u64 (by omega) (by omega)]
    omega
  have e2 : IntKind.u64.wrap (c.toNat : Int) = (c.toNat : Int) := wrap_u64 (by omega) (by omega)
  rw [e1, e2]
  unfold bits
  simp only [BitVec.ofInt_natCast]
  have hb : IntKind.u64.bits = 64 := rfl
  have h3 : (BitVec.ofNat IntKind.u64.bits (m * 256) ||| BitVec.ofNat IntKind.u64.bits c.toNat).toNat = c.toNat + 256 * m := by
    rw [BitVec.toNat_or, BitVec.toNat_ofNat, BitVec.toNat_ofNat, hb, Nat.mod_eq_of_lt (by omega), Nat.mod_eq_of_lt (by omega)]
    have := Nat.two_pow_add_eq_or_of_lt (i := 8) (show c.toNat < 2 ^ 8 by omega) m
    rw [show m * 256 = 2 ^ 8 * m by omega, ← this]
    omega
  rw [h3, wrap_u64 (by omega) (by omega)]
  omega

theorem leNum_step (l : List UInt8) (at' i k : Nat) (h : at' + i < l.length) : leNum (((l.drop (at' + i)).take (k + 1))) = ((l.getD (at' + i) 0).toNat : Int) + 256 * leNum ((l.drop (at' + (i + 1))).take k) := by
  have : l.drop (at' + i) = l.getD (at' + i) 0 :: l.drop (at' + (i + 1)) := by
    rw [List.drop_eq_getElem_cons h]
    simp [List.getD, h, Nat.add_assoc]
  rw [this]
  rfl
theorem get_round {l : List UInt8} (a n : Int) (k : Nat) (hn : n = 1 ∨ n = 2 ∨ n = 4 ∨ n = 8) (ha : 0 ≤ a) (hl : a + n ≤ l.length) (hk : (k : Int) < n) :
    bits .or .u64 (shlv .u64 (leNum ((l.drop (a.toNat + (n.toNat - k))).take k)) 8) (IntKind.u64.wrap ((l.getD (a + (n - 1 - k)).toNat 0).toNat : Int)) =
      leNum ((l.drop (a.toNat + (n.toNat - (k + 1)))).take (k + 1)) := by
  have h1 := leNum_nonneg ((l.drop (a.toNat + (n.toNat - k))).take k)
  have h2 : leNum ((l.drop (a.toNat + (n.toNat - k))).take k) < 256 ^ 7 := leNum_lt_of (by simp; omega)
  rw [shl8_or _ _ h1 (by simpa using h2), leNum_step l a.toNat (n.toNat - (k + 1)) k (by omega)]
  rw [show (a + (n - 1 - k)).toNat = a.toNat + (n.toNat - (k + 1)) by omega, show n.toNat - (k + 1) + 1 = n.toNat - k by omega]

/-! turning -/
def rot32 (x k : Int) : Int := bits .or .u32 (shlv .u32 x k) (shrv .u32 x (32 - k))
def rot64 (x k : Int) : Int := bits .or .u64 (shlv .u64 x k) (shrv .u64 x (64 - k))
theorem bits_and_mask (k : Int) (m : Nat) (h0 : 0 ≤ k) (h1 : k < 2 ^ m) (hm : m ≤ 63) : bits .and .u64 (IntKind.u64.wrap k) ((2 ^ m - 1 : Nat) : Int) = k := by
  obtain ⟨x, rfl⟩ := Int.eq_ofNat_of_zero_le h0
  have hx : x < 2 ^ m := by
    have : ((x : Nat) : Int) < ((2 ^ m : Nat) : Int) := by rw [Int.natCast_pow]; exact h1
    exact Int.ofNat_lt.1 this
  have hle : 2 ^ m ≤ 2 ^ 63 := Nat.pow_le_pow_right (by omega) hm
  have hx64 : (x : Int) < 18446744073709551616 := by
    have : x < 2 ^ 63 := by omega
    omega
  rw [wrap_u64 (by omega) hx64]
  unfold bits
  simp only [BitVec.ofInt_natCast]
  have hb : IntKind.u64.bits = 64 := rfl
  rw [BitVec.toNat_and, BitVec.toNat_ofNat, BitVec.toNat_ofNat, hb, Nat.mod_eq_of_lt (show x < 2 ^ 64 by omega), Nat.mod_eq_of_lt (show 2 ^ m - 1 < 2 ^ 64 by omega), Nat.and_two_pow_sub_one_eq_mod, Nat.mod_eq_of_lt hx]
  exact wrap_u64 (by omega) hx64
theorem and31 {k : Int} (h0 : 0 ≤ k) (h1 : k < 32) : bits .and .u64 (IntKind.u64.wrap k) 31 = k := bits_and_mask k 5 h0 (by simpa using h1) (by omega)
theorem and63 {k : Int} (h0 : 0 ≤ k) (h1 : k < 64) : bits .and .u64 (IntKind.u64.wrap k) 63 = k := bits_and_mask k 6 h0 (by simpa using h1) (by omega)

/-! lookup3 -/
structure T3 where
  x : Int
  y : Int
  z : Int
def T3.cells (t : T3) : List Value := [.int .u32 t.x, .int .u32 t.y, .int .u32 t.z]
def le4 (l : List UInt8) (i : Nat) : Int := leNum [l.getD i 0, l.getD (i + 1) 0, l.getD (i + 2) 0, l.getD (i + 3) 0]
def w32 (x : Int) : Int := IntKind.u32.wrap x
def add12 (t : T3) (l : List UInt8) : T3 := ⟨w32 (t.x + w32 (le4 l 0)), w32 (t.y + w32 (le4 l 4)), w32 (t.z + w32 (le4 l 8))⟩
def xor32 (a b : Int) : Int := bits .xor .u32 a b
def mix1 (t : T3) (a b c : Int) : T3 :=
  let x := xor32 (w32 (t.x - t.z)) (rot32 t.z a)
  let z := w32 (t.z + t.y)
  let y := xor32 (w32 (t.y - x)) (rot32 x b)
  let x := w32 (x + z)
  let z := xor32 (w32 (z - y)) (rot32 y c)
  ⟨x, w32 (y + x), z⟩
def mix (t : T3) : T3 := mix1 (mix1 t 4 6 8) 16 19 4
def last (t : T3) : T3 :=
  let z := w32 (xor32 t.z t.y - rot32 t.y 14)
  let x := w32 (xor32 t.x z - rot32 z 11)
  let y := w32 (xor32 t.y x - rot32 x 25)
  let z := w32 (xor32 z y - rot32 y 16)
  let x := w32 (xor32 x z - rot32 z 4)
  let y := w32 (xor32 y x - rot32 x 14)
  let z := w32 (xor32 z y - rot32 y 24)
  ⟨x, y, z⟩
def pack (t : T3) : Int := bits .or .u64 (shlv .u64 (IntKind.u64.wrap t.z) 32) (IntKind.u64.wrap t.y)
def lkF : Nat → T3 → List UInt8 → Int
  | 0, t, l => if l = [] then pack t else pack (last (add12 t l))
  | k + 1, t, l => if 12 < l.length then lkF k (mix (add12 t l)) (l.drop 12) else if l = [] then pack t else pack (last (add12 t l))
theorem lkF_fuel : ∀ (k j : Nat) (t : T3) (l : List UInt8), l.length ≤ k → l.length ≤ j → lkF k t l = lkF j t l := by
  intro k
  induction k with
  | zero =>
    intro j t l h1 h2
    have hl : l = [] := List.eq_nil_of_length_eq_zero (by omega)
    subst hl
    cases j <;> simp [lkF]
  | succ k ih =>
    intro j t l h1 h2
    cases j with
    | zero =>
      have hl : l = [] := List.eq_nil_of_length_eq_zero (by omega)
      subst hl
      simp [lkF]
    | succ j =>
      simp only [lkF]
      split
      · exact ih j _ _ (by simp; omega) (by simp; omega)
      · rfl
def lk (t : T3) (l : List UInt8) : Int := lkF l.length t l
theorem lk_step (t : T3) (l : List UInt8) (h : 12 < l.length) : lk t l = lk (mix (add12 t l)) (l.drop 12) := by
  unfold lk
  obtain ⟨k, hk⟩ : ∃ k, l.length = k + 1 := ⟨l.length - 1, by omega⟩
  rw [hk]
  simp only [lkF, if_pos h]
  exact lkF_fuel _ _ _ _ (by simp; omega) (by simp)
theorem lk_nil (t : T3) : lk t [] = pack t := by simp [lk, lkF]
theorem lk_last (t : T3) (l : List UInt8) (h : l ≠ []) (h2 : l.length ≤ 12) : lk t l = pack (last (add12 t l)) := by
  unfold lk
  obtain ⟨k, hk⟩ : ∃ k, l.length = k + 1 := ⟨l.length - 1, by have := List.length_pos_iff.2 h; omega⟩
  rw [hk]
  simp only [lkF, if_neg (show ¬ 12 < l.length by omega), if_neg h]
def lkInit (l : List UInt8) : T3 := ⟨w32 (3735928559 + w32 l.length), w32 (3735928559 + w32 l.length), w32 (3735928559 + w32 l.length)⟩
def lookup (l : List UInt8) : Int := lk (lkInit l) l
theorem le4_take (l : List UInt8) (i : Nat) (h : i + 4 ≤ l.length) : leNum ((l.drop i).take 4) = le4 l i := by
  unfold le4
  congr 1
  apply List.ext_getElem
  · simp; omega
  · intro j h1 h2
    simp at h2
    have : j = 0 ∨ j = 1 ∨ j = 2 ∨ j = 3 := by omega
    rcases this with rfl | rfl | rfl | rfl <;> simp [List.getD] <;> rw [List.getElem?_eq_getElem (by omega)] <;> rfl

theorem shl8_or32 (v : Int) (c : UInt8) (h0 : 0 ≤ v) (h1 : v < 16777216) :
    bits .or .u32 (shlv .u32 v 8) (IntKind.u32.wrap (c.toNat : Int)) = (c.toNat : Int) + 256 * v := by
  obtain ⟨m, rfl⟩ := Int.eq_ofNat_of_zero_le h0
  have hc := c.toNat_lt
  have e1 : shlv .u32 (m : Int) 8 = ((m * 256 : Nat) : Int) := by
    unfold shlv
    have : min (8 : Int).toNat IntKind.u32.bits = 8 := by decide
    rw [this, wrap_u32 (by omega) (by omega)]
    omega
  have e2 : IntKind.u32.wrap (c.toNat : Int) = (c.toNat : Int) := wrap_u32 (by omega) (by omega)
  rw [e1, e2]
  unfold bits
  simp only [BitVec.ofInt_natCast]
  have hb : IntKind.u32.bits = 32 := rfl
  have h3 : (BitVec.ofNat IntKind.u32.bits (m * 256) ||| BitVec.ofNat IntKind.u32.bits c.toNat).toNat = c.toNat + 256 * m := by
    rw [BitVec.toNat_or, BitVec.toNat_ofNat, BitVec.toNat_ofNat, hb, Nat.mod_eq_of_lt (by omega), Nat.mod_eq_of_lt (by omega)]
    have := Nat.two_pow_add_eq_or_of_lt (i := 8) (show c.toNat < 2 ^ 8 by omega) m
    rw [show m * 256 = 2 ^ 8 * m by omega, ← this]
    omega
  rw [h3, wrap_u32 (by omega) (by omega)]
  omega
theorem shl8_32 (v : Int) (h0 : 0 ≤ v) (h1 : v < 16777216) : shlv .u32 v 8 = 256 * v := by
  unfold shlv
  have : min (8 : Int).toNat IntKind.u32.bits = 8 := by decide
  rw [this, wrap_u32 (by omega) (by omega)]
  omega
/-- The highest k of the four bytes at i. -/
def le4To (l : List UInt8) (i k : Nat) : Int := leNum ([l.getD i 0, l.getD (i + 1) 0, l.getD (i + 2) 0, l.getD (i + 3) 0].drop (4 - k))
theorem le4To_step (l : List UInt8) (i k : Nat) (hk : k < 4) : le4To l i (k + 1) = ((l.getD (i + (3 - k)) 0).toNat : Int) + 256 * le4To l i k := by
  have : k = 0 ∨ k = 1 ∨ k = 2 ∨ k = 3 := by omega
  rcases this with rfl | rfl | rfl | rfl <;> rfl
theorem le4To_bd (l : List UInt8) (i k : Nat) (hk : k < 4) : 0 ≤ le4To l i k ∧ le4To l i k < 16777216 := by
  refine ⟨leNum_nonneg _, ?_⟩
  have := leNum_lt_of (l := [l.getD i 0, l.getD (i + 1) 0, l.getD (i + 2) 0, l.getD (i + 3) 0].drop (4 - k)) (k := 3) (by simp; omega)
  exact this
theorem le4_bd (l : List UInt8) (i : Nat) : 0 ≤ le4 l i ∧ le4 l i < 4294967296 :=
  ⟨leNum_nonneg _, leNum_lt_of (k := 4) (by simp)⟩
theorem w32_le4 (l : List UInt8) (i : Nat) : w32 (le4 l i) = le4 l i := wrap_u32 (le4_bd l i).1 (le4_bd l i).2
theorem getD_out (l : List UInt8) (i : Nat) (h : l.length ≤ i) : l.getD i 0 = 0 := by simp [List.getD, List.getElem?_eq_none h]
theorem le4_congr {l l' : List UInt8} {i j : Nat} (h : ∀ k, k < 4 → l.getD (i + k) 0 = l'.getD (j + k) 0) : le4 l i = le4 l' j := by
  unfold le4
  have h0 := h 0 (by omega); have h1 := h 1 (by omega); have h2 := h 2 (by omega); have h3 := h 3 (by omega)
  simp only [Nat.add_zero] at h0
  rw [h0, h1, h2, h3]
/-- l with zeros up to m bytes. -/
def padTo (m : Nat) (l : List UInt8) : List UInt8 := l ++ List.replicate (m - l.length) 0
theorem padTo_getD (m : Nat) (l : List UInt8) (i : Nat) : (padTo m l).getD i 0 = l.getD i 0 := by
  unfold padTo
  by_cases h : i < l.length
  · simp [List.getD, List.getElem?_append_left h]
  · rw [getD_out l i (by omega)]
    simp only [List.getD]
    rw [List.getElem?_append_right (by omega), List.getElem?_replicate]
    split <;> rfl
theorem padTo_len (m : Nat) (l : List UInt8) (h : l.length ≤ m) : (padTo m l).length = m := by simp [padTo]; omega
theorem le4_pad (m : Nat) (l : List UInt8) (i : Nat) : le4 (padTo m l) i = le4 l i := le4_congr fun k _ => padTo_getD m l (i + k)
theorem add12_pad (t : T3) (m : Nat) (l : List UInt8) : add12 t (padTo m l) = add12 t l := by simp only [add12, le4_pad]
theorem le4_drop (l : List UInt8) (d i : Nat) : le4 (l.drop d) i = le4 l (d + i) := le4_congr fun k _ => by simp [List.getD, Nat.add_assoc]
theorem le4_takeB (l : List UInt8) (m i : Nat) (h : i + 4 ≤ m) : le4 (l.take m) i = le4 l i := le4_congr fun k hk => by simp only [List.getD]; rw [List.getElem?_take, if_pos (by omega)]
theorem add12_take (t : T3) (l : List UInt8) (m : Nat) (h : 12 ≤ m) : add12 t (l.take m) = add12 t l := by
  simp only [add12]
  rw [le4_takeB l m 0 (by omega), le4_takeB l m 4 (by omega), le4_takeB l m 8 (by omega)]
theorem splice_pad {m : Nat} {l : List UInt8} (h : l.length ≤ m) : splice ((List.replicate m 0).map b8) 0 ((l.map b8).take m) = (padTo m l).map b8 := by
  have e : (l.map b8).take m = l.map b8 := List.take_of_length_le (by simpa using h)
  rw [e]
  simp [splice, padTo]
theorem word_in (l : List UInt8) (a : Int) (k : Nat) (ha : 0 ≤ a) (hk : k < 4) (_h : a + (3 - k) < l.length) :
    bits .or .u32 (shlv .u32 (le4To l a.toNat k) 8) (IntKind.u32.wrap ((l.getD (a + (3 - k)).toNat 0).toNat : Int)) = le4To l a.toNat (k + 1) := by
  obtain ⟨h0, h1⟩ := le4To_bd l a.toNat k hk
  rw [shl8_or32 _ _ h0 h1, le4To_step l _ _ hk, show (a + (3 - k)).toNat = a.toNat + (3 - k) by omega]
theorem word_out (l : List UInt8) (a : Int) (k : Nat) (ha : 0 ≤ a) (hk : k < 4) (h : l.length ≤ a + (3 - k)) : shlv .u32 (le4To l a.toNat k) 8 = le4To l a.toNat (k + 1) := by
  obtain ⟨h0, h1⟩ := le4To_bd l a.toNat k hk
  rw [shl8_32 _ h0 h1, le4To_step l _ _ hk, getD_out l _ (by omega)]
  simp
theorem ref_add12 (t : T3) (l : List UInt8) (k : Nat) : (⟨w32 (t.x + le4 l (k : Int).toNat), w32 (t.y + le4 l (k + 4 : Int).toNat), w32 (t.z + le4 l (k + 8 : Int).toNat)⟩ : T3) = add12 t (l.drop k) := by
  simp only [add12, w32_le4, le4_drop]
  rw [show (k : Int).toNat = k + 0 by omega, show (k + 4 : Int).toNat = k + 4 by omega, show (k + 8 : Int).toNat = k + 8 by omega]

/-! SipHash -/
structure S4 where
  p : Int
  q : Int
  r : Int
  s : Int
def S4.cells (v : S4) (n : Int) (rest : Value) : List Value := [.int .u64 v.p, .int .u64 v.q, .int .u64 v.r, .int .u64 v.s, .int .i64 n, rest]
def S4.arr (v : S4) : List Value := [.int .u64 v.p, .int .u64 v.q, .int .u64 v.r, .int .u64 v.s]
theorem S4.arr_len (v : S4) : v.arr.length = 4 := rfl
theorem S4.arr_one (v : S4) : ∀ u ∈ v.arr, u.oneCell' = true := by intro u hu; simp [S4.arr] at hu; rcases hu with rfl | rfl | rfl | rfl <;> rfl
def w64 (x : Int) : Int := IntKind.u64.wrap x
def xor64 (a b : Int) : Int := bits .xor .u64 a b
def sipRound (v : S4) : S4 :=
  let p := w64 (v.p + v.q)
  let q := xor64 (rot64 v.q 13) p
  let p := rot64 p 32
  let r := w64 (v.r + v.s)
  let s := xor64 (rot64 v.s 16) r
  let p := w64 (p + s)
  let s := xor64 (rot64 s 21) p
  let r := w64 (r + q)
  let q := xor64 (rot64 q 17) r
  ⟨p, q, rot64 r 32, s⟩
def sipRounds : Nat → S4 → S4
  | 0, v => v
  | k + 1, v => sipRound (sipRounds k v)
def S4.xp (v : S4) (m : Int) : S4 := ⟨xor64 v.p m, v.q, v.r, v.s⟩
def S4.xr (v : S4) (m : Int) : S4 := ⟨v.p, v.q, xor64 v.r m, v.s⟩
def S4.xs (v : S4) (m : Int) : S4 := ⟨v.p, v.q, v.r, xor64 v.s m⟩
def S4.all (v : S4) : Int := xor64 (xor64 (xor64 v.p v.q) v.r) v.s
def sipWord (v : S4) (m : Int) : S4 := (sipRounds 2 (v.xs m)).xp m
theorem set_xp (v : S4) (m n : Int) (rest : Value) : (v.cells n rest).set 0 (.int .u64 (xor64 v.p m)) = (v.xp m).cells n rest := rfl
theorem set_xr (v : S4) (m n : Int) (rest : Value) : (v.cells n rest).set 2 (.int .u64 (xor64 v.r m)) = (v.xr m).cells n rest := rfl
theorem set_xs (v : S4) (m n : Int) (rest : Value) : (v.cells n rest).set 3 (.int .u64 (xor64 v.s m)) = (v.xs m).cells n rest := rfl
theorem arr_xp (v : S4) (m : Int) : v.arr.set 0 (.int .u64 (xor64 v.p m)) = (v.xp m).arr := rfl
theorem arr_xr (v : S4) (m : Int) : v.arr.set 2 (.int .u64 (xor64 v.r m)) = (v.xr m).arr := rfl
theorem arr_xs (v : S4) (m : Int) : v.arr.set 3 (.int .u64 (xor64 v.s m)) = (v.xs m).arr := rfl
def sipInit (key : List UInt8) : S4 :=
  ⟨xor64 (leNum ((key.drop 0).take 8)) 8317987319222330741, xor64 (leNum ((key.drop 8).take 8)) 7237128888997146477,
   xor64 (leNum ((key.drop 0).take 8)) 7816392313619706465, xor64 (leNum ((key.drop 8).take 8)) 8387220255154660723⟩
/-- All whole words of l taken; what is left. -/
def absF : Nat → S4 → List UInt8 → S4 × List UInt8
  | 0, v, l => (v, l)
  | k + 1, v, l => if 8 ≤ l.length then absF k (sipWord v (leNum (l.take 8))) (l.drop 8) else (v, l)
theorem absF_fuel : ∀ (k j : Nat) (v : S4) (l : List UInt8), l.length ≤ k → l.length ≤ j → absF k v l = absF j v l := by
  intro k
  induction k with
  | zero =>
    intro j v l h1 h2
    have hl : l = [] := List.eq_nil_of_length_eq_zero (by omega)
    subst hl
    cases j <;> simp [absF]
  | succ k ih =>
    intro j v l h1 h2
    cases j with
    | zero =>
      have hl : l = [] := List.eq_nil_of_length_eq_zero (by omega)
      subst hl
      simp [absF]
    | succ j =>
      simp only [absF]
      split
      · exact ih j _ _ (by simp; omega) (by simp; omega)
      · rfl
def sipAbs (v : S4) (l : List UInt8) : S4 × List UInt8 := absF l.length v l
theorem sipAbs_step (v : S4) (l : List UInt8) (h : 8 ≤ l.length) : sipAbs v l = sipAbs (sipWord v (leNum (l.take 8))) (l.drop 8) := by
  unfold sipAbs
  obtain ⟨k, hk⟩ : ∃ k, l.length = k + 1 := ⟨l.length - 1, by omega⟩
  rw [hk]
  simp only [absF, if_pos h]
  exact absF_fuel _ _ _ _ (by simp; omega) (by simp)
theorem sipAbs_done (v : S4) (l : List UInt8) (h : l.length < 8) : sipAbs v l = (v, l) := by
  unfold sipAbs
  cases hk : l.length with
  | zero => rfl
  | succ k => simp only [absF]; rw [if_neg (by omega)]
theorem sipAbs_len : ∀ (k : Nat) (v : S4) (l : List UInt8), l.length ≤ k → (sipAbs v l).2.length < 8 := by
  intro k
  induction k with
  | zero =>
    intro v l h
    rw [sipAbs_done v l (by omega)]
    simp; omega
  | succ k ih =>
    intro v l h
    by_cases h8 : 8 ≤ l.length
    · rw [sipAbs_step v l h8]; exact ih _ _ (by simp; omega)
    · rw [sipAbs_done v l (by omega)]; simp; omega
/-- What came first may be taken first. -/
theorem sipAbs_append : ∀ (k : Nat) (v : S4) (l m : List UInt8), l.length ≤ k → sipAbs v (l ++ m) = sipAbs (sipAbs v l).1 ((sipAbs v l).2 ++ m) := by
  intro k
  induction k with
  | zero =>
    intro v l m h
    rw [sipAbs_done v l (by omega)]
  | succ k ih =>
    intro v l m h
    by_cases h8 : 8 ≤ l.length
    · rw [sipAbs_step v l h8, sipAbs_step v (l ++ m) (by simp; omega), List.take_append_of_le_length h8, List.drop_append_of_le_length h8]
      exact ih _ _ _ (by simp; omega)
    · rw [sipAbs_done v l (by omega)]
/-- The end: what is left, zeros, the lowest byte of the number of all. -/
def sipTail (r : List UInt8) (n : Int) : List UInt8 := (padTo 8 r).set 7 (UInt8.ofNat n.toNat)
def sipEnd (v : S4) (r : List UInt8) (n : Int) : Int :=
  (sipRounds 4 ((sipWord v (leNum (((sipTail r n).drop 0).take 8))).xr 255)).all
def sip (key l : List UInt8) : Int := sipEnd (sipAbs (sipInit key) l).1 (sipAbs (sipInit key) l).2 l.length
theorem b8_wrap (n : Int) (h : 0 ≤ n) : Value.int .u8 (IntKind.u8.wrap n) = b8 (UInt8.ofNat n.toNat) := by
  unfold b8
  rw [wrap_u8_mod]
  congr 1
  simp
  omega
theorem min8 (a b : Nat) (h : a < 8) : (if (b : Int) < 8 - (a : Int) then (b : Int) else 8 - (a : Int)) = ((min (8 - a) b : Nat) : Int) := by split <;> omega
theorem min_nat (a b : Nat) : (if (b : Int) < (a : Int) then (b : Int) else (a : Int)) = ((min a b : Nat) : Int) := by split <;> omega
theorem sipTail_cells (r : List UInt8) (n : Int) (hn : 0 ≤ n) : ((padTo 8 r).map b8).set 7 (.int .u8 (IntKind.u8.wrap n)) = (sipTail r n).map b8 := by
  rw [b8_wrap n hn, sipTail, List.map_set]
theorem sipTail_len (r : List UInt8) (n : Int) (h : r.length ≤ 8) : (sipTail r n).length = 8 := by rw [sipTail, List.length_set, padTo_len 8 r h]
theorem add_fill (v : S4) (rl l : List UInt8) (_h : rl.length < 8) (h8 : rl.length + min (8 - rl.length) l.length = 8) :
    sipAbs v (rl ++ l) = sipAbs (sipWord v (leNum (((rl ++ l.take (min (8 - rl.length) l.length)).drop 0).take 8))) ([] ++ l.drop (min (8 - rl.length) l.length)) := by
  generalize hk : min (8 - rl.length) l.length = k at *
  have e : rl ++ l = (rl ++ l.take k) ++ l.drop k := by simp
  have hlen : (rl ++ l.take k).length = 8 := by simp; omega
  rw [sipAbs_step v (rl ++ l) (by simp; omega), e, List.take_append_of_le_length (by omega), List.drop_append_of_le_length (by omega), List.take_of_length_le (by omega), List.drop_of_length_le (by omega)]
  simp only [List.drop_zero]
  rw [List.take_of_length_le (show (rl ++ l.take k).length ≤ 8 by omega)]
theorem add_some (v : S4) (rl l : List UInt8) (k : Nat) : sipAbs v (rl ++ l) = sipAbs v ((rl ++ l.take k) ++ l.drop k) := by simp

/-! the document's own reckoning of words of eight bytes -/
def le8 (l : List UInt8) (i : Nat) : Int := le4 l i + 4294967296 * le4 l (i + 4)
theorem le8_bd (l : List UInt8) (i : Nat) : 0 ≤ le8 l i ∧ le8 l i < 18446744073709551616 := by
  obtain ⟨h1, h2⟩ := le4_bd l i
  obtain ⟨h3, h4⟩ := le4_bd l (i + 4)
  unfold le8
  omega
theorem or_high (a b k : Nat) (hk : k < 64) (ha : a < 2 ^ k) (hb : b * 2 ^ k < 2 ^ 64) :
    bits .or .u64 (a : Int) ((b * 2 ^ k : Nat) : Int) = ((a + b * 2 ^ k : Nat) : Int) := by
  have h64 : 2 ^ k ≤ 2 ^ 64 := Nat.pow_le_pow_right (by omega) (by omega)
  unfold bits
  simp only [BitVec.ofInt_natCast]
  have hb' : IntKind.u64.bits = 64 := rfl
  rw [BitVec.toNat_or, BitVec.toNat_ofNat, BitVec.toNat_ofNat, hb', Nat.mod_eq_of_lt (by omega), Nat.mod_eq_of_lt hb]
  have := Nat.two_pow_add_eq_or_of_lt (i := k) ha b
  rw [Nat.or_comm, show b * 2 ^ k = 2 ^ k * b from Nat.mul_comm _ _, ← this]
  have hlt : a + 2 ^ k * b < 2 ^ 64 := by
    obtain ⟨c, hc⟩ : ∃ c, 2 ^ 64 = 2 ^ k * c := ⟨2 ^ (64 - k), by rw [← Nat.pow_add]; congr 1; omega⟩
    have h5 : b < c := by
      rw [hc, Nat.mul_comm] at hb
      exact Nat.lt_of_mul_lt_mul_left hb
    calc a + 2 ^ k * b < 2 ^ k + 2 ^ k * b := by omega
      _ = 2 ^ k * (b + 1) := by rw [Nat.mul_add]; omega
      _ ≤ 2 ^ k * c := Nat.mul_le_mul_left _ h5
      _ = 2 ^ 64 := hc.symm
  rw [Nat.add_comm (2 ^ k * b) a]
  exact wrap_u64 (by omega) (by have := Int.ofNat_lt.2 hlt; simpa using this)
theorem shlv_u64 (a : Nat) (k : Nat) (hk : k ≤ 64) (h : a * 2 ^ k < 2 ^ 64) : shlv .u64 (a : Int) (k : Int) = ((a * 2 ^ k : Nat) : Int) := by
  unfold shlv
  have : min (k : Int).toNat IntKind.u64.bits = k := by
    have : IntKind.u64.bits = 64 := rfl
    rw [this]; omega
  rw [this]
  have e : (a : Int) * 2 ^ k = ((a * 2 ^ k : Nat) : Int) := by rw [Int.natCast_mul, Int.natCast_pow]; rfl
  rw [e]
  exact wrap_u64 (by omega) (by have := Int.ofNat_lt.2 h; simpa using this)
theorem eight_eq (l : List UInt8) (a : Int) (ha : 0 ≤ a) :
    bits .or .u64 (IntKind.u64.wrap (le4 l a.toNat)) (shlv .u64 (IntKind.u64.wrap (le4 l (a + 4).toNat)) 32) = le8 l a.toNat := by
  obtain ⟨h1, h2⟩ := le4_bd l a.toNat
  obtain ⟨h3, h4⟩ := le4_bd l (a + 4).toNat
  rw [wrap_u64 h1 (by omega), wrap_u64 h3 (by omega)]
  obtain ⟨x, hx⟩ := Int.eq_ofNat_of_zero_le h1
  obtain ⟨y, hy⟩ := Int.eq_ofNat_of_zero_le h3
  unfold le8
  rw [show a.toNat + 4 = (a + 4).toNat by omega, hx, hy]
  rw [hx] at h2; rw [hy] at h4
  have e := shlv_u64 y 32 (by omega) (by omega)
  rw [show ((32 : Nat) : Int) = 32 from rfl] at e
  rw [e, or_high x y 32 (by omega) (by omega) (by omega)]
  omega
theorem le8_list (l : List UInt8) (i : Nat) : le8 l i = leNum [l.getD i 0, l.getD (i + 1) 0, l.getD (i + 2) 0, l.getD (i + 3) 0, l.getD (i + 4) 0, l.getD (i + 5) 0, l.getD (i + 6) 0, l.getD (i + 7) 0] := by
  simp only [le8, le4, leNum, Nat.add_assoc, Nat.reduceAdd]
  omega
theorem take8_list (l : List UInt8) (i : Nat) (h : i + 8 ≤ l.length) : (l.drop i).take 8 = [l.getD i 0, l.getD (i + 1) 0, l.getD (i + 2) 0, l.getD (i + 3) 0, l.getD (i + 4) 0, l.getD (i + 5) 0, l.getD (i + 6) 0, l.getD (i + 7) 0] := by
  apply List.ext_getElem
  · simp; omega
  · intro j h1 h2
    simp at h2
    have : j = 0 ∨ j = 1 ∨ j = 2 ∨ j = 3 ∨ j = 4 ∨ j = 5 ∨ j = 6 ∨ j = 7 := by omega
    rcases this with rfl | rfl | rfl | rfl | rfl | rfl | rfl | rfl <;> simp [List.getD] <;> rw [List.getElem?_eq_getElem (by omega)] <;> rfl
theorem le8_take (l : List UInt8) (i : Nat) (h : i + 8 ≤ l.length) : leNum ((l.drop i).take 8) = le8 l (i : Int).toNat := by
  rw [take8_list l i h, show (i : Int).toNat = i from rfl, le8_list]
theorem sipInit_arr (key : List UInt8) (h : key.length = 16) : (sipInit key).arr =
    [.int .u64 (bits .xor .u64 (le8 key (0 : Int).toNat) 8317987319222330741), .int .u64 (bits .xor .u64 (le8 key (8 : Int).toNat) 7237128888997146477),
     .int .u64 (bits .xor .u64 (le8 key (0 : Int).toNat) 7816392313619706465), .int .u64 (bits .xor .u64 (le8 key (8 : Int).toNat) 8387220255154660723)] := by
  have h0 := le8_take key 0 (by omega)
  have h8 := le8_take key 8 (by omega)
  rw [show ((0 : Nat) : Int) = 0 from rfl] at h0
  rw [show ((8 : Nat) : Int) = 8 from rfl] at h8
  simp only [sipInit, S4.arr, h0, h8, xor64]
theorem sipTail_num (r : List UInt8) (n : Nat) (h : r.length < 8) : leNum (((sipTail r n).drop 0).take 8) = bits .or .u64 (le8 r 0) (shlv .u64 (IntKind.u64.wrap ((n : Int).tmod 256)) 56) := by
  have hl := sipTail_len r n (by omega)
  have h0 := le8_take (sipTail r n) 0 (by omega)
  rw [h0, show ((0 : Nat) : Int).toNat = 0 from rfl]
  have hg : ∀ i, i < 7 → (sipTail r n).getD i 0 = r.getD i 0 := by
    intro i hi
    rw [← padTo_getD 8 r i]
    simp only [sipTail, List.getD]
    rw [List.getElem?_set_ne (by omega)]
  have h7 : (sipTail r n).getD 7 0 = UInt8.ofNat n := by
    simp only [sipTail, List.getD]
    rw [List.getElem?_set_self (by rw [padTo_len 8 r (by omega)]; omega)]
    simp
  have hr7 : r.getD 7 0 = 0 := getD_out r 7 (by omega)
  have e1 : le8 (sipTail r n) 0 = le8 r 0 + 72057594037927936 * ((n % 256 : Nat) : Int) := by
    rw [le8_list, le8_list]
    simp only [leNum, Nat.zero_add]
    rw [hg 0 (by omega), hg 1 (by omega), hg 2 (by omega), hg 3 (by omega), hg 4 (by omega), hg 5 (by omega), hg 6 (by omega), h7, hr7]
    have : ((UInt8.ofNat n).toNat : Int) = ((n % 256 : Nat) : Int) := by simp
    have hz : ((0 : UInt8).toNat : Int) = 0 := rfl
    rw [this, hz]
    omega
  have hlow : 0 ≤ le8 r 0 ∧ le8 r 0 < 72057594037927936 := by
    refine ⟨(le8_bd r 0).1, ?_⟩
    rw [le8_list]
    simp only [leNum, Nat.zero_add, hr7]
    have a0 := (r.getD 0 0).toNat_lt; have a1 := (r.getD 1 0).toNat_lt; have a2 := (r.getD 2 0).toNat_lt; have a3 := (r.getD 3 0).toNat_lt
    have a4 := (r.getD 4 0).toNat_lt; have a5 := (r.getD 5 0).toNat_lt; have a6 := (r.getD 6 0).toNat_lt
    have hz : ((0 : UInt8).toNat : Int) = 0 := rfl
    simp only [hz]
    omega
  obtain ⟨x, hx⟩ := Int.eq_ofNat_of_zero_le hlow.1
  have hm : (n : Int).tmod 256 = ((n % 256 : Nat) : Int) := by rw [Int.tmod_eq_emod_of_nonneg (by omega)]; omega
  rw [e1, hm, hx, wrap_u64 (by omega) (by omega)]
  rw [hx] at hlow
  have e := shlv_u64 (n % 256) 56 (by omega) (by omega)
  rw [show ((56 : Nat) : Int) = 56 from rfl] at e
  rw [e, or_high x (n % 256) 56 (by omega) (by omega) (by omega)]
  omega
theorem le8_drop (l : List UInt8) (d i : Nat) : le8 (l.drop d) i = le8 l (d + i) := by simp only [le8, le4_drop, Nat.add_assoc]
theorem rsip_end (l : List UInt8) (v : S4) (k : Nat) (hk : k ≤ l.length) (h8 : l.length < k + 8) :
    bits .xor .u64 (bits .xor .u64 (bits .xor .u64 (sipRounds 4 (((sipRounds 2 (v.xs (bits .or .u64 (le8 l (k : Int).toNat) (shlv .u64 (IntKind.u64.wrap ((l.length : Int).tmod 256)) 56)))).xp (bits .or .u64 (le8 l (k : Int).toNat) (shlv .u64 (IntKind.u64.wrap ((l.length : Int).tmod 256)) 56))).xr 255)).p
        (sipRounds 4 (((sipRounds 2 (v.xs (bits .or .u64 (le8 l (k : Int).toNat) (shlv .u64 (IntKind.u64.wrap ((l.length : Int).tmod 256)) 56)))).xp (bits .or .u64 (le8 l (k : Int).toNat) (shlv .u64 (IntKind.u64.wrap ((l.length : Int).tmod 256)) 56))).xr 255)).q)
        (sipRounds 4 (((sipRounds 2 (v.xs (bits .or .u64 (le8 l (k : Int).toNat) (shlv .u64 (IntKind.u64.wrap ((l.length : Int).tmod 256)) 56)))).xp (bits .or .u64 (le8 l (k : Int).toNat) (shlv .u64 (IntKind.u64.wrap ((l.length : Int).tmod 256)) 56))).xr 255)).r)
        (sipRounds 4 (((sipRounds 2 (v.xs (bits .or .u64 (le8 l (k : Int).toNat) (shlv .u64 (IntKind.u64.wrap ((l.length : Int).tmod 256)) 56)))).xp (bits .or .u64 (le8 l (k : Int).toNat) (shlv .u64 (IntKind.u64.wrap ((l.length : Int).tmod 256)) 56))).xr 255)).s = sipEnd v (l.drop k) l.length := by
  have e : le8 l (k : Int).toNat = le8 (l.drop k) 0 := by rw [le8_drop]; rfl
  rw [e, ← sipTail_num (l.drop k) l.length (by simp; omega)]
  unfold sipEnd sipWord
  generalize leNum (((sipTail (l.drop k) (l.length : Int)).drop 0).take 8) = m
  generalize sipRounds 4 (((sipRounds 2 (v.xs m)).xp m).xr 255) = u
  rfl

/-! the chapter's examples -/
def ups (k : Nat) : List UInt8 := (List.range k).map UInt8.ofNat
theorem ups_len (k : Nat) : (ups k).length = k := by simp [ups]
theorem ups_succ (k : Nat) : ups (k + 1) = ups k ++ [UInt8.ofNat k] := by simp [ups, List.range_succ]
def keyTo (k : Nat) : List UInt8 := ups k ++ List.replicate (16 - k) 0
theorem keyTo_len (k : Nat) (h : k ≤ 16) : (keyTo k).length = 16 := by simp [keyTo, ups_len]; omega
theorem keyTo_set (k : Nat) (h : k < 16) : (keyTo k).set k (UInt8.ofNat k) = keyTo (k + 1) := by
  obtain ⟨j, hj⟩ : ∃ j, 16 - k = j + 1 := ⟨15 - k, by omega⟩
  simp only [keyTo, hj, List.replicate_succ, ups_succ, show 16 - (k + 1) = j by omega]
  rw [List.set_append_right _ _ (by rw [ups_len]; omega), ups_len, Nat.sub_self]
  simp
theorem keyTo_cells (k : Nat) (h : k < 16) : ((keyTo k).map b8).set (0 + (k : Int).toNat) (b8 (UInt8.ofNat (k : Int).toNat)) = (keyTo (k + 1)).map b8 := by
  rw [← keyTo_set k h, List.map_set]
  simp
theorem first_lookup : lookup [] = 16045690984833335023 := by decide +kernel
theorem first_sip : sip (keyTo 16) (ups 15) = 11613035633349379557 := by decide +kernel

/-- A number below b out of any. -/
def numberN (a b : Int) : Nat := ((a.tmod b + b).tmod b).toNat
theorem number_bd (a b : Int) (h : 0 < b) : 0 ≤ (a.tmod b + b).tmod b ∧ (a.tmod b + b).tmod b < b ∧ -b < a.tmod b ∧ a.tmod b < b := by
  have h1 : -b < a.tmod b := by
    have := Int.lt_tmod_of_pos a h
    omega
  have h2 : a.tmod b < b := Int.tmod_lt_of_pos a h
  exact ⟨Int.tmod_nonneg b (by omega), Int.tmod_lt_of_pos _ h, h1, h2⟩
theorem numberN_eq (a b : Int) (h : 0 < b) : (a.tmod b + b).tmod b = ((numberN a b : Nat) : Int) := by
  have := number_bd a b h
  unfold numberN
  omega
theorem numberN_lt (a b : Int) (h : 0 < b) : ((numberN a b : Nat) : Int) < b := by rw [← numberN_eq a b h]; exact (number_bd a b h).2.1
end Go.Wk
