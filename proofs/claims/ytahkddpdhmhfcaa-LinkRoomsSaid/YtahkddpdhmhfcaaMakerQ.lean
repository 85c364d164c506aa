/- What the reference's maker of journals computes, further. No statement is proved here. -/
import Derived.Test.YtahkddpdhmhfcaaMakerP
namespace Go.Wk
open Go Go.RowKit
theorem roomF_le (k : Int) : roomF k ≤ 256 := by unfold roomF; split; omega; split <;> omega
def roomsL : List Nat → Nat → Nat → Nat → Nat × Nat
  | [], _, a, r => (a, r)
  | _ :: l, k, _, r => roomsL l (k + 1) r (r + roomF (k : Int))
def lastN (l : List Nat) : Nat := l.getD (l.length - 1) 0
def Mk.link (m : Mk) (arrays : List Nat) (n src item : Nat) : List Nat × Nat × Mk :=
  match roomsL arrays 0 0 0 with
  | (ahead, room) =>
    if n = room then
      match m.object (putArrayF { next := 0, items := List.replicate (roomF (arrays.length : Int)) 0 }) with
      | (p, m1) =>
        let m2 := m1.setN 18 ((m1.num 18 + 1) % 18446744073709551616)
        (arrays ++ [p], n - room + 1, (if arrays.length = 0 then m2.put src p else m2.put (lastN arrays + 16) p).put (lastN (arrays ++ [p]) + 24 + 8 * (n - room)) item)
    else (arrays, n - ahead + 1, m.put (lastN arrays + 24 + 8 * (n - ahead)) item)
theorem rooms_step {l : List Nat} {i k a r : Nat} (h : i < l.length) : roomsL (l.drop i) k a r = roomsL (l.drop (i + 1)) (k + 1) r (r + roomF (k : Int)) := by
  obtain ⟨x, hx⟩ := getE h
  rw [drop_get hx]; rfl
theorem rooms_end {l : List Nat} {i k a r : Nat} (h : ¬ i < l.length) : roomsL (l.drop i) k a r = (a, r) := by rw [drop_end (by omega)]; rfl
theorem rooms_le (l : List Nat) (k a r : Nat) (h : a ≤ r) : (roomsL l k a r).1 ≤ (roomsL l k a r).2 ∧ (roomsL l k a r).2 ≤ r + 256 * l.length := by
  induction l generalizing k a r with
  | nil => simp [roomsL]; exact h
  | cons x l ih =>
    have := roomF_le (k : Int)
    have h2 := ih (k + 1) r (r + roomF (k : Int)) (by omega)
    simp only [roomsL, List.length_cons]
    omega
theorem roomF_ge {k : Int} (h : 0 ≤ k) : 4 ≤ roomF k := by
  unfold roomF
  rw [if_neg (by omega)]
  split
  · omega
  · have : 1 ≤ 2 ^ k.toNat := Nat.one_le_two_pow
    omega
theorem roomF_ge4 (k : Int) : k < 0 ∨ 4 ≤ roomF k := by by_cases h : 0 ≤ k; exact .inr (roomF_ge h); exact .inl (by omega)
theorem lastN_eq {l : List Nat} {x : Nat} (h : l[l.length - 1]? = some x) : lastN l = x := by simp [lastN, List.getD, h]
theorem lastN_app {α} {l : List α} {p x : α} (h : (l ++ [p])[(l ++ [p]).length - 1]? = some x) : x = p := by simpa using h.symm
theorem rooms_last (l : List Nat) (k a r : Nat) (h : l ≠ []) : (roomsL l k a r).2 = (roomsL l k a r).1 + roomF ((k + l.length - 1 : Nat) : Int) := by
  induction l generalizing k a r with
  | nil => exact absurd rfl h
  | cons x l ih =>
    by_cases hl : l = []
    · subst hl; simp [roomsL]
    · simp only [roomsL, List.length_cons]
      rw [ih (k + 1) r (r + roomF (k : Int)) hl, show k + 1 + l.length - 1 = k + (l.length + 1) - 1 by omega]
theorem rooms_nil' {l : List Nat} {n : Nat} (h2 : (roomsL l 0 0 0).1 ≤ n) (h3 : n ≤ (roomsL l 0 0 0).2) (h : n ≠ (roomsL l 0 0 0).2) : 1 ≤ l.length ∧ n < (roomsL l 0 0 0).1 + roomF ((l.length - 1 : Nat) : Int) := by
  cases l with
  | nil => simp [roomsL] at h3 h; omega
  | cons x l =>
    have := rooms_last (x :: l) 0 0 0 (by simp)
    simp only [Nat.zero_add] at this
    refine ⟨by simp, ?_⟩
    omega
/-- A chain of arrays that n items stand in: the places lie within, the last one has room, or all are full. -/
def chainFit (len : Nat) (arrays : List Nat) (n : Nat) : Prop :=
  (∀ (k a : Nat), arrays[k]? = some a → a + 24 + 8 * roomF (k : Int) ≤ len) ∧ (roomsL arrays 0 0 0).1 ≤ n ∧ n ≤ (roomsL arrays 0 0 0).2
/-- The whole of a new maker. -/
def newMk (c : Cfg) (tail : Nat) : Mk :=
  let b1 := List.replicate 272 0 ++ putTableF 4 (List.replicate c.dataSlots { first := 0, tail := 0 })
  let b2 := b1 ++ putTableF 5 (List.replicate c.fieldSlots { first := 0, tail := 0 })
  { c := c, depth := 0, b := b2, datas := [], fields := [], main := [],
    h := { compat := 2, incompat := if c.keyed then 4 else 0, state := 1, file := c.file, machine := c.machine, boot := List.replicate 16 0, seq := c.seq, tailArray := 0, tailItems := 0, tailEntry := 0,
           n := (((((((((List.replicate 20 0).set 0 272).set 2 288).set 3 (16 * c.dataSlots)).set 4 (b1.length + 16)).set 5 (16 * c.fieldSlots)).set 6 b1.length).set 7 2).set 9 tail) } }
def Mk.tail (m : Mk) : Nat × Mk := (m.num 9, m)
def Mk.copy (m : Mk) : Mk × Mk := (m, m)
theorem take_all {α} {l : List α} {i : Nat} (h : ¬ i < l.length) : l.take i = l := List.take_of_length_le (by omega)
theorem apart_nb {v : Value} {b : Nat} (h : ∀ x, vblock v = some x → x ≠ b) : b ∉ (vblock v).toList := by
  cases hv : vblock v with
  | none => simp
  | some c => simp; exact fun e => h c hv e.symm
theorem apart_nb2 {v : Value} {b : Nat} (h : ∀ x, vblock v = some x → x ≠ b) : ∀ x, vblock v = some x → x ∉ [b] := fun x hx hh => h x hx (by simpa using hh)
/-- The file's bytes. -/
def imageM (m : Mk) (st : Nat) : List UInt8 := headF { m.h with state := st, n := m.h.n.set 1 (m.b.length - 272) } m.depth ++ m.b.drop 272
theorem headF_len (h : RHead) (depth : Nat) (ok : RHead.ok h) : (headF h depth).length = 272 := by
  obtain ⟨_, _, _, h1, h2, h3, h4, h5, _⟩ := ok
  simp [headF, low_len, nums_len, h1, h2, h3, h4, h5.1]
end Go.Wk
