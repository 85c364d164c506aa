/- What the maker of choices computes. No statement is proved here. -/
import Derived.Test.YtahkddpdhmhfcaaFldR
namespace Go.Wk
open Go Go.RowKit
section
variable {P : Program} {n : Nat} {A : Fr n} {D : List Deferred} {l : List (Nat × Value)} {w : World} {d : Option Tmp} {ty : TypeId} {ps : String} {af : Array Edge} {g : Option (Nat × Bool)}
theorem r_remZ {x y : Operand} {t u : TypeId} {k : IntKind} {a b : Int} (hx : ev n l x = some (.int k a)) (hy : ev n l y = some (.int k b)) (h : b ≠ 0) :
    RunV P ⟨d, .binOp .rem t x y u, ty, ps, af, g⟩ (over A D l).eval w (.int k (a.tmod b)) := r_rem hx hy h
end
def numF (k : Int) (n : Nat) : Nat := if n < 1 then 0 else ((k.tmod n + n).tmod n).toNat
theorem numF_lt (k : Int) (n : Nat) : n < 1 ∨ numF k n < n := by
  unfold numF
  by_cases h : n < 1
  · exact .inl h
  · rw [if_neg h]
    have h1 := Int.tmod_lt_of_pos (k.tmod n + n) (show (0 : Int) < n by omega)
    right; omega
theorem num_ge {k : Int} {n : Nat} (h : ¬ n < 1) : 0 ≤ k.tmod n + n ∧ k.tmod n + n < 2 * n := by
  have h1 := Int.tmod_lt_of_pos k (show (0 : Int) < n by omega)
  have h2 := Int.lt_tmod_of_pos k (show (0 : Int) < n by omega)
  omega
def Sq.num (s : Sq) (n : Nat) : Nat × Sq := if s.l.length ≤ s.pos then (0, s) else (numF (s.l.getD s.pos 0) n, { s with pos := s.pos + 1 })
def Sq.more (s : Sq) : Bool × Sq := (decide (s.pos < s.l.length), s)
def namesF : List (List UInt8) := [[65], [66], [77, 69, 83, 83, 65, 71, 69], [95, 80, 73, 68], [88, 95, 49], [80, 82, 73, 79, 82, 73, 84, 89]]
def valuesF : List (List UInt8) := [[], [48], [49], [50, 50], [97, 61, 98], [111, 110, 101, 10, 116, 119, 111], [0, 255], [116, 97, 98, 9, 104, 101, 114, 101], [108, 111, 110, 103, 32, 108, 111, 110, 103, 32, 108, 111, 110, 103, 32, 108, 111, 110, 103, 32, 108, 111, 110, 103, 32, 108, 111, 110, 103, 32, 108, 111, 110, 103], [126, 127, 128]]
theorem namesF_len : namesF.length = 6 := rfl
theorem valuesF_len : valuesF.length = 10 := rfl
def idF (k : Int) : List UInt8 := ((List.replicate 16 0).set 0 94).set 15 (UInt8.ofNat (numF k 5))
def Sq.pair (s : Sq) : Pr × Sq :=
  match s.num 6 with
  | (a, s1) =>
    match s1.num 10 with
    | (b, s2) => ({ name := namesF.getD a [], value := valuesF.getD b [] }, s2)
theorem Sq.num_le (s : Sq) (n : Nat) : (s.num n).1 ≤ n - 1 := by
  unfold Sq.num
  split
  · simp
  · simp only
    rcases numF_lt (s.l.getD s.pos 0) n with h | h
    · simp [numF, h]
    · omega
def pairsL : Nat → Sq → List Pr → List Pr × Sq
  | 0, s, o => (o, s)
  | n + 1, s, o => match s.pair with
    | (p, s1) => pairsL n s1 (o ++ [p])
def Sq.pairs (s : Sq) (most : Nat) : List Pr × Sq :=
  match s.num most with
  | (n, s1) => pairsL (n + 1) s1 []
theorem pairs_end {n : Nat} {s : Sq} {o : List Pr} (h : ¬ 0 < n) : pairsL n s o = (o, s) := by rw [show n = 0 by omega]; rfl
theorem pairs_step {n : Nat} {s : Sq} {o : List Pr} (h : 0 < n) : pairsL n s o = pairsL (n - 1) s.pair.2 (o ++ [s.pair.1]) := by
  obtain ⟨k, rfl⟩ : ∃ k, n = k + 1 := ⟨n - 1, by omega⟩
  rfl
theorem names_bd (a : Nat) : (namesF.getD a []).length ≤ 64 := by
  match a with
  | 0 | 1 | 2 | 3 | 4 | 5 => decide
  | n + 6 => simp [namesF]
theorem values_bd (a : Nat) : (valuesF.getD a []).length ≤ 256 := by
  match a with
  | 0 | 1 | 2 | 3 | 4 | 5 | 6 | 7 | 8 | 9 => decide
  | n + 10 => simp [valuesF]
theorem pair_bd (s : Sq) : s.pair.1.name.length ≤ 64 ∧ s.pair.1.value.length ≤ 256 := ⟨names_bd _, values_bd _⟩
theorem pairsL_bd (n : Nat) : ∀ (s : Sq) (o : List Pr), (∀ q ∈ o, q.name.length ≤ 64 ∧ q.value.length ≤ 256) → (∀ q ∈ (pairsL n s o).1, q.name.length ≤ 64 ∧ q.value.length ≤ 256) ∧ (pairsL n s o).1.length = o.length + n := by
  induction n with
  | zero => exact fun s o h => ⟨h, rfl⟩
  | succ n ih =>
    intro s o h
    have := ih s.pair.2 (o ++ [s.pair.1]) (fun q hq => by
      rcases List.mem_append.1 hq with hq | hq
      · exact h q hq
      · rw [List.mem_singleton.1 hq]; exact pair_bd s)
    refine ⟨this.1, ?_⟩
    have h2 := this.2
    rw [List.length_append, List.length_singleton] at h2
    rw [show pairsL (n + 1) s o = pairsL n s.pair.2 (o ++ [s.pair.1]) from rfl, h2]; omega
theorem pairs_bd (s : Sq) (most : Nat) : (∀ q ∈ (s.pairs most).1, q.name.length ≤ 1000000 ∧ q.value.length ≤ 1000000) ∧ (s.pairs most).1.length ≤ most + 1 := by
  have h := pairsL_bd ((s.num most).1 + 1) (s.num most).2 [] (by simp)
  have h2 := s.num_le most
  have e : s.pairs most = pairsL ((s.num most).1 + 1) (s.num most).2 [] := rfl
  rw [e]
  refine ⟨fun q hq => ⟨by have := (h.1 q hq).1; omega, by have := (h.1 q hq).2; omega⟩, ?_⟩
  rw [h.2]; simp; omega
def Sq.config (s : Sq) : Cfg × Sq :=
  match s.num 5 with
  | (a, s1) => match s1.num 5 with
    | (b, s2) => match s2.num 5 with
      | (c, s3) => match s3.num 7 with
        | (d, s4) => match s4.num 4 with
          | (e, s5) => match s5.num 2 with
            | (f, s6) => ({ file := idF a, machine := idF b, seq := idF c, dataSlots := d + 1, fieldSlots := e + 1, most := 32768, keyed := decide (f = 1) }, s6)
def Sq.record (s : Sq) (seq : Nat) : Rec × Sq :=
  match s.pairs 4 with
  | (ps, s1) => match s1.num 40 with
    | (a, s2) => match s2.num 9 with
      | (b, s3) => match s3.num 3 with
        | (c, s4) => ({ seq := seq, real := a, mono := b, boot := idF c, fields := (listF ps).1 }, s4)
end Go.Wk
