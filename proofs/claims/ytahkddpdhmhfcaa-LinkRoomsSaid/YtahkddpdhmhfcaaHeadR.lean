/- A journal's head, read. No statement is proved here. -/
import Derived.Test.YtahkddpdhmhfcaaLeP
import Derived.Test.YtahkddpdhmhfcaaSeqP
import Derived.Test.YtahkddpdhmhfcaaCompR
namespace Go.Wk
open Go Go.RowKit
theorem shl_or {v : Nat} {x : UInt8} (h : v < 72057594037927936) : v * 2 ^ 8 % 18446744073709551616 ||| x.toNat = x.toNat + 256 * v := by
  have hx := UInt8.toNat_lt x
  rw [Nat.mod_eq_of_lt (by omega), Nat.mul_comm, ← Nat.two_pow_add_eq_or_of_lt (by simpa using hx)]
  omega
theorem getF_lt (l : List UInt8) (a n : Int) : (getF l a n).1 < 256 ^ n.toNat := by
  unfold getF
  split
  · exact leN_lt_of (by simp; omega)
  · exact Nat.pos_of_ne_zero (by simp)
theorem getF_at {l : List UInt8} {a k : Nat} (hk : k = 4 ∨ k = 8) (h : a + k ≤ l.length) : getF l a k = (leN ((l.drop a).take k), true) := by
  unfold getF
  rw [if_pos ⟨by rw [sizeOk_iff]; omega, by omega, by omega⟩]; simp
def at4 (l : List UInt8) (a : Nat) : Nat := leN ((l.drop a).take 4)
def at8 (l : List UInt8) (a : Nat) : Nat := leN ((l.drop a).take 8)
theorem at4_lt (l : List UInt8) (a : Nat) : at4 l a < 4294967296 := leN_lt_of (k := 4) (by simp; omega)
theorem at8_lt (l : List UInt8) (a : Nat) : at8 l a < 18446744073709551616 := leN_lt_of (k := 8) (by simp; omega)
section
variable {P : Program} {ops : Array Oper} {Q : Exit → Act → World → Prop} {rest : List Oper}
variable {n : Nat} {A : Fr n} {D : List Deferred} {l : List (Nat × Value)} {w : World}
variable {d : Tmp} {op : Op} {ty : TypeId} {ps : String} {af : Array Edge} {g : Option (Nat × Bool)}
/-- A call of a function value that is bound to some values. -/
theorem st_callV {f : FuncId} {c : Operand} {xs : List Operand} {ts : Array TypeId} {vs cs : List Value} {R : Ending → World → Prop} (hc : ev n l c = some (.func (.func f) #[] cs.toArray)) (hf : isFn P f = true) (ha : evs n l xs = some vs) (hr : Calls P f (vs ++ cs).toArray w R)
    (k : ∀ e w', R e w' → ∃ v, e = .returned v ∧ wpList P ops Q rest (over A D ((d, v) :: l)) w') :
    wpList P ops Q (⟨some d, .call { callee := .value c, args := xs.toArray, argTypes := ts }, ty, ps, af, none⟩ :: rest) (over A D l) w := by
  refine wl_plain rfl ?_
  unfold Oper.wp
  have he := evs_eval (A := A) (D := D) ha
  have h0 : (execOp (over A D l).eval ⟨some d, .call { callee := .value c, args := xs.toArray, argTypes := ts }, ty, ps, af, none⟩).run P w = .ok (.enter f (vs ++ cs).toArray) w := by
    simp only [execOp, resolve, ev_eval hc, Deferred.ofValue, List.map_toArray, he]
    simp [invoke, run_callFunc hf]
  rw [h0]
  refine hr.mono fun e w' hR => ?_
  obtain ⟨v, rfl, hk⟩ := k e w' hR
  exact hk
theorem r_makeFunc {f : FuncId} {x : Operand} {v : Value} {d' : Option Tmp} (hx : ev n l x = some v) :
    RunV P ⟨d', .makeFunc (.func f) #[] #[x], ty, ps, af, g⟩ (over A D l).eval w (.func (.func f) #[] #[v]) := by
  simp [RunV, execOp, ev_eval hx, Instr.makeFunc]
end

/-! ### The head's bytes -/
def z16 : List UInt8 := List.replicate 16 0
/-- The head while it is read: k names, j numbers of eight bytes. -/
def headUp (b : List UInt8) (c i k j : Nat) : PHead :=
  { compat := c, incompat := i, state := (b.getD 16 0).toNat, file := if 0 < k then (b.drop 24).take 16 else z16, machine := if 1 < k then (b.drop 40).take 16 else z16, boot := if 2 < k then (b.drop 56).take 16 else z16, seq := if 3 < k then (b.drop 72).take 16 else z16,
    n := (List.range 21).map fun q => if q < j then at8 b (88 + 8 * q) else 0, tailArray := 0, tailItems := 0, tailEntry := 0 }
def parseF (b : List UInt8) : PHead := { headUp b (at4 b 8) (at4 b 12) 4 21 with tailArray := at4 b 256, tailItems := at4 b 260, tailEntry := at8 b 264 }
theorem take16 {b : List UInt8} {o : Nat} (h : o + 16 ≤ b.length) : ((b.drop o).take 16).length = 16 := by simp; omega
theorem idc_splice {x : List UInt8} (h : x.length = 16) (a c : List Value) (z : List UInt8) : splice (a ++ (idc z ++ c)) a.length (x.map b8) = a ++ (idc x ++ c) := by
  unfold splice
  have hz : (idc z).length = 16 := rfl
  have hl : (x.map b8).length = 16 := by simp [h]
  rw [List.take_left, hl, ← List.append_assoc a, List.drop_left' (by simp [hz]), ← idc_map h, List.append_assoc]
theorem ids_step {b : List UInt8} {c i k : Nat} (hk : k < 4) (hl : 272 ≤ b.length) : splice (PHead.cells (headUp b c i k 0)) (3 + k * 16) (((b.drop (24 + 16 * k)).take 16).map b8) = PHead.cells (headUp b c i (k + 1) 0) := by
  have hx : ((b.drop (24 + 16 * k)).take 16).length = 16 := take16 (by omega)
  rcases (show k = 0 ∨ k = 1 ∨ k = 2 ∨ k = 3 by omega) with rfl | rfl | rfl | rfl
  · exact idc_splice hx [.int .u32 ((c : Nat) : Int), .int .u32 ((i : Nat) : Int), .int .i64 (((b.getD 16 0).toNat : Nat) : Int)] _ z16
  · exact idc_splice hx ([.int .u32 ((c : Nat) : Int), .int .u32 ((i : Nat) : Int), .int .i64 (((b.getD 16 0).toNat : Nat) : Int)] ++ idc ((b.drop 24).take 16)) _ z16
  · exact idc_splice hx ([.int .u32 ((c : Nat) : Int), .int .u32 ((i : Nat) : Int), .int .i64 (((b.getD 16 0).toNat : Nat) : Int)] ++ idc ((b.drop 24).take 16) ++ idc ((b.drop 40).take 16)) _ z16
  · exact idc_splice hx ([.int .u32 ((c : Nat) : Int), .int .u32 ((i : Nat) : Int), .int .i64 (((b.getD 16 0).toNat : Nat) : Int)] ++ idc ((b.drop 24).take 16) ++ idc ((b.drop 40).take 16) ++ idc ((b.drop 56).take 16)) _ z16
theorem head_set {h : PHead} {j v : Nat} (hn : h.n.length = 21) (hj : j < 21) : (PHead.cells h).set (67 + j) (.int .u64 ((v : Nat) : Int)) = PHead.cells { h with n := h.n.set j v } := by
  have e : ∀ (m : List Nat) (t : PHead), t.n = m → PHead.cells t = ([(.int .u32 ((t.compat : Nat) : Int))] ++ ([(.int .u32 ((t.incompat : Nat) : Int))] ++ ([(.int .i64 ((t.state : Nat) : Int))] ++ ((idc t.file) ++ ((idc t.machine) ++ ((idc t.boot) ++ (idc t.seq))))))) ++ (nums21 m ++ ([(.int .u32 ((t.tailArray : Nat) : Int))] ++ ([(.int .u32 ((t.tailItems : Nat) : Int))] ++ [(.int .u64 ((t.tailEntry : Nat) : Int))]))) := by
    intro m t ht; subst ht; simp only [PHead.cells, List.append_assoc]
  rw [e h.n h rfl, e (h.n.set j v) { h with n := h.n.set j v } rfl, nums21_set hn hj]
  have hl : ([(.int .u32 ((h.compat : Nat) : Int))] ++ ([(.int .u32 ((h.incompat : Nat) : Int))] ++ ([(.int .i64 ((h.state : Nat) : Int))] ++ ((idc h.file) ++ ((idc h.machine) ++ ((idc h.boot) ++ (idc h.seq)))))) : List Value).length = 67 := rfl
  have h21 : (nums21 h.n).length = 21 := rfl
  rw [List.set_append_right _ _ (by omega), hl, Nat.add_sub_cancel_left, List.set_append_left _ _ (by omega)]
theorem n_step {b : List UInt8} {j : Nat} (hj : j < 21) : ((List.range 21).map fun q => if q < j then at8 b (88 + 8 * q) else 0).set j (at8 b (88 + 8 * j)) = (List.range 21).map fun q => if q < j + 1 then at8 b (88 + 8 * q) else 0 := by
  apply List.ext_getElem
  · simp
  · intro q h1 h2
    simp at h1
    by_cases h : q = j
    · subst h; simp
    · rw [List.getElem_set_ne (Ne.symm h)]
      simp only [List.getElem_map, List.getElem_range]
      by_cases h3 : q < j
      · rw [if_pos h3, if_pos (by omega)]
      · rw [if_neg h3, if_neg (by omega)]
theorem long_step {b : List UInt8} {c i j : Nat} (hj : j < 21) : (PHead.cells (headUp b c i 4 j)).set (67 + j) (.int .u64 ((at8 b (88 + 8 * j) : Nat) : Int)) = PHead.cells (headUp b c i 4 (j + 1)) := by
  rw [head_set (by simp [headUp]) hj]
  unfold headUp
  simp only [n_step hj]
theorem parse_ok {b : List UInt8} (h : 272 ≤ b.length) : PHead.ok (parseF b) := by
  refine ⟨at4_lt _ _, at4_lt _ _, ?_, take16 (by omega), take16 (by omega), take16 (by omega), take16 (by omega), ⟨by simp [parseF, headUp], ?_⟩, at4_lt _ _, at4_lt _ _, at8_lt _ _⟩
  · have := UInt8.toNat_lt (b.getD 16 0); show (b.getD 16 0).toNat < _; omega
  · intro y hy
    simp only [parseF, headUp, List.mem_map, List.mem_range] at hy
    obtain ⟨q, hq, rfl⟩ := hy
    rw [if_pos hq]; exact at8_lt _ _
def ptrs (b o sz : Nat) (n : Nat) : List Value := (List.range n).map fun k => .pointer (some ⟨b, o + k * sz, none⟩)
theorem ptrs_get {b o sz n k : Nat} (h : k < n) : (ptrs b o sz n)[k]? = some (.pointer (some ⟨b, o + k * sz, none⟩)) := by
  simp [ptrs, h]
end Go.Wk
