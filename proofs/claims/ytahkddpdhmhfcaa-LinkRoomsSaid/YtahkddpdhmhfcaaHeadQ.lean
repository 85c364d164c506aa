/- What a journal's head says, and what is amiss with it; a view of a journal. No statement is proved here. -/
import Derived.Test.YtahkddpdhmhfcaaHeadR
namespace Go.Wk
open Go Go.RowKit
/-- a &^ b of numbers of 32 bits. -/
def andNot (a b : Nat) : Nat := (BitVec.ofNat 32 a &&& ~~~(BitVec.ofNat 32 b)).toNat
section
variable {P : Program} {n : Nat} {A : Fr n} {D : List Deferred} {l : List (Nat × Value)} {w : World} {d : Option Tmp} {ty : TypeId} {ps : String} {af : Array Edge} {g : Option (Nat × Bool)}
theorem r_andNotN {x y : Operand} {t u : TypeId} {a b : Nat} (L : Nat) (hL : lim .u32 = L) (hk : IntKind.u32.signed = false) (hx : ev n l x = some (.int .u32 (a : Int))) (hy : ev n l y = some (.int .u32 (b : Int))) (h : a < L ∧ b < L) :
    RunV P ⟨d, .binOp .andNot t x y u, ty, ps, af, g⟩ (over A D l).eval w (.int .u32 ((andNot a b : Nat) : Int)) := (r_andNot hx hy).castI (by
  unfold bits andNot
  simp only [BitVec.ofInt_natCast]
  exact wrapN .u32 _ (show (BitVec.ofNat 32 a &&& ~~~(BitVec.ofNat 32 b)).toNat < 4294967296 from (BitVec.ofNat 32 a &&& ~~~(BitVec.ofNat 32 b)).isLt))
end
theorem andNot_lt (a b : Nat) : andNot a b < 4294967296 := (BitVec.ofNat 32 a &&& ~~~(BitVec.ofNat 32 b)).isLt
def hz0 : PHead := { compat := 0, incompat := 0, state := 0, file := idZ, machine := idZ, boot := idZ, seq := idZ, n := List.replicate 21 0, tailArray := 0, tailItems := 0, tailEntry := 0 }
def signF : List UInt8 := [76, 80, 75, 83, 72, 72, 82, 72]
def prefF (b p : List UInt8) : Bool := if p.length ≤ b.length then decide (b.take p.length = p) else false
def endF (h : PHead) : Nat × Bool := if (h.n.getD 0 0 + h.n.getD 1 0) % 18446744073709551616 < h.n.getD 0 0 then (0, false) else ((h.n.getD 0 0 + h.n.getD 1 0) % 18446744073709551616, true)
def tableF (h : PHead) (at_ size end_ : Nat) : Nat :=
  if at_ % 8 ≠ 0 then 3
  else if size = 0 ∨ size % 16 ≠ 0 then 5
  else if at_ < h.n.getD 0 0 ∨ at_ - h.n.getD 0 0 < 16 ∨ end_ < at_ ∨ end_ - at_ < size then 2 else 0
def amissF (h : PHead) (len : Nat) : Nat :=
  if andNot h.incompat 4 ≠ 0 then 7
  else if 2 < h.state then 8
  else if h.n.getD 0 0 < 272 ∨ h.n.getD 0 0 % 8 ≠ 0 ∨ h.n.getD 1 0 % 8 ≠ 0 then 5
  else if (endF h).2 = false ∨ len < (endF h).1 then 2
  else if tableF h (h.n.getD 2 0) (h.n.getD 3 0) (endF h).1 ≠ 0 then tableF h (h.n.getD 2 0) (h.n.getD 3 0) (endF h).1
  else tableF h (h.n.getD 4 0) (h.n.getD 5 0) (endF h).1
def readF (b : List UInt8) : PHead × Nat :=
  if b.length < 272 then (hz0, 22)
  else if prefF b signF = false then (hz0, 6)
  else if amissF (parseF b) b.length ≠ 0 then (hz0, amissF (parseF b) b.length) else (parseF b, 0)
theorem amiss_at {h : PHead} {len r : Nat} {s : Bool} (he : endF h = (r, s)) : amissF h len = (if andNot h.incompat 4 ≠ 0 then 7 else if 2 < h.state then 8 else if h.n.getD 0 0 < 272 ∨ h.n.getD 0 0 % 8 ≠ 0 ∨ h.n.getD 1 0 % 8 ≠ 0 then 5
    else if s = false ∨ len < r then 2 else if tableF h (h.n.getD 2 0) (h.n.getD 3 0) r ≠ 0 then tableF h (h.n.getD 2 0) (h.n.getD 3 0) r else tableF h (h.n.getD 4 0) (h.n.getD 5 0) r) := by
  unfold amissF; rw [he]
theorem readF_no {b : List UInt8} {h : PHead} {p : Bool} {c : Nat} (h1 : ¬ b.length < 272) (h2 : prefF b [76, 80, 75, 83, 72, 72, 82, 72] = p) (h3 : ¬ p = false) (h4 : parseF b = h) (h5 : amissF h b.length = c) (h6 : c ≠ 0) : readF b = (hz0, c) := by
  subst h4; subst h5
  unfold readF; rw [if_neg h1, if_neg (by rw [show signF = [76, 80, 75, 83, 72, 72, 82, 72] from rfl, h2]; exact h3), if_pos h6]
theorem readF_ok {b : List UInt8} {h : PHead} {p : Bool} (h1 : ¬ b.length < 272) (h2 : prefF b [76, 80, 75, 83, 72, 72, 82, 72] = p) (h3 : ¬ p = false) (h4 : parseF b = h) (h5 : amissF h b.length = 0) : readF b = (h, 0) := by
  subst h4
  unfold readF; rw [if_neg h1, if_neg (by rw [show signF = [76, 80, 75, 83, 72, 72, 82, 72] from rfl, h2]; exact h3), if_neg (by omega)]
theorem readF_short {b : List UInt8} (h : b.length < 272) : readF b = (hz0, 22) := by unfold readF; rw [if_pos h]
theorem readF_sign {b : List UInt8} (h1 : ¬ b.length < 272) (h2 : prefF b [76, 80, 75, 83, 72, 72, 82, 72] = false) : readF b = (hz0, 6) := by unfold readF; rw [if_neg h1, if_pos (show prefF b signF = false from h2)]
/-! ### A pointer that may be nil -/
def Po {α : Type} (T : Dt α) (ty : TypeId) (w : World) (Q : Nat → Prop) (v : Value) : Option α → Prop
  | none => v = .pointer none
  | some x => Pt T ty w Q v x
section
variable {α : Type} {T : Dt α} {ty : TypeId} {w w' : World} {Q Q' : Nat → Prop} {v : Value} {o : Option α}
theorem Po.md {S : List Nat} (h : Po T ty w Q v o) (m : Md S w w') (hs : ∀ b ∈ S, ¬ Q b) : Po T ty w' Q v o := by
  cases o with
  | none => exact h
  | some x => exact Pt.md h m hs
theorem Po.md0 (h : Po T ty w Q v o) (m : Md [] w w') : Po T ty w' Q v o := h.md m (by simp)
theorem Po.sub (h : Po T ty w Q v o) (s : ∀ b, Q b → b < w.heap.size → Q' b) : Po T ty w Q' v o := by
  cases o with
  | none => exact h
  | some x => exact Pt.sub h s
theorem Po.oneCell (h : Po T ty w Q v o) : v.oneCell' = true := by
  cases o with
  | none => subst h; rfl
  | some x => obtain ⟨b, c, rfl, _⟩ := h; rfl
variable {P : Program} {n : Nat} {A : Fr n} {D : List Deferred} {l : List (Nat × Value)} {d : Option Tmp} {ty2 : TypeId} {ps : String} {af : Array Edge} {g : Option (Nat × Bool)}
theorem Po.ptr (h : Po T ty w Q v o) : ∃ p, v = .pointer p ∧ p.isNone = o.isNone := by
  cases o with
  | none => exact ⟨none, h, rfl⟩
  | some x => obtain ⟨b, c, rfl, _⟩ := h; exact ⟨_, rfl, rfl⟩
theorem r_eqlPO {x : Operand} {t u e : TypeId} (h : Po T ty w Q v o) (hx : ev n l x = some v) (hT : P.underlying t = some (.pointer e)) :
    RunV P ⟨d, .binOp .eql t x (.const (.pointer none)) u, ty2, ps, af, g⟩ (over A D l).eval w (.bool o.isNone) := by
  obtain ⟨p, rfl, hp0⟩ := h.ptr
  have hp : P.underlying t = some (.pointer (P.pointee t)) := by rw [hT]; simp [Program.pointee, hT]
  have h := run_eql_pointer_nil (P := P) w t p hp
  have hc : (over A D l).eval (.const (.pointer none)) = .pointer none := rfl
  have hg : (eqGuard .eql t x (.const (.pointer none)) (.pointer p) (.pointer none)).run P w = .ok () w := by unfold eqGuard; simp
  simp [RunV, execOp, ev_eval hx, hc, hg, h, ← hp0]
theorem r_neqPO {x : Operand} {t u e : TypeId} (h : Po T ty w Q v o) (hx : ev n l x = some v) (hT : P.underlying t = some (.pointer e)) :
    RunV P ⟨d, .binOp .neq t x (.const (.pointer none)) u, ty2, ps, af, g⟩ (over A D l).eval w (.bool o.isSome) := by
  obtain ⟨p, rfl, hp0⟩ := h.ptr
  have hp : P.underlying t = some (.pointer (P.pointee t)) := by rw [hT]; simp [Program.pointee, hT]
  have h := run_neq_pointer_nil (P := P) w t p hp
  have hc : (over A D l).eval (.const (.pointer none)) = .pointer none := rfl
  have hg : (eqGuard .neq t x (.const (.pointer none)) (.pointer p) (.pointer none)).run P w = .ok () w := by unfold eqGuard; simp
  have e : o.isSome = p.isSome := by cases o <;> cases p <;> simp_all
  simp [RunV, execOp, ev_eval hx, hc, hg, h, e]
end

/-! ### A view -/
def openF (b : List UInt8) : Option PView × Nat := if (readF b).2 ≠ 0 then (none, (readF b).2) else (some { b := b.take (endF (readF b).1).1, h := (readF b).1 }, 0)
theorem read_fine {b : List UInt8} {h : PHead} (hr : readF b = (h, 0)) : 272 ≤ b.length ∧ parseF b = h ∧ amissF h b.length = 0 := by
  unfold readF at hr
  split at hr
  · have := congrArg Prod.snd hr; simp at this
  · rename_i h1
    split at hr
    · have := congrArg Prod.snd hr; simp at this
    · split at hr
      · rename_i h2; have := congrArg Prod.snd hr; exact absurd this h2
      · rename_i h2
        have e := congrArg Prod.fst hr
        simp only at e
        subst e
        exact ⟨by omega, rfl, by omega⟩
theorem read_end {b : List UInt8} {h : PHead} {e : Nat} {s : Bool} (hr : readF b = (h, 0)) (he : endF h = (e, s)) : e ≤ b.length ∧ s = true := by
  obtain ⟨_, _, h3⟩ := read_fine hr
  rw [amiss_at he] at h3
  split at h3
  · omega
  · split at h3
    · omega
    · split at h3
      · omega
      · split at h3
        · omega
        · rename_i h4; rw [not_or] at h4
          exact ⟨by omega, by simpa using h4.1⟩
theorem open_some {b : List UInt8} {x : Option PView} (h : openF b = (x, 0)) : ∃ y, x = some y ∧ PHead.ok y.h ∧ y.b.length ≤ b.length := by
  unfold openF at h
  split at h
  · rename_i h1; exact absurd (congrArg Prod.snd h) h1
  · rename_i h1
    have hr : readF b = ((readF b).1, 0) := by rw [← Classical.not_not.1 h1]
    obtain ⟨h2, h3, _⟩ := read_fine hr
    exact ⟨_, (congrArg Prod.fst h).symm, by rw [← h3]; exact parse_ok h2, by simp; omega⟩
theorem open_none {b : List UInt8} {x : Option PView} {c : Nat} (h : openF b = (x, c)) (hc : c ≠ 0) : x = none := by
  unfold openF at h
  split at h
  · exact (congrArg Prod.fst h).symm
  · exact absurd (congrArg Prod.snd h).symm hc
end Go.Wk
