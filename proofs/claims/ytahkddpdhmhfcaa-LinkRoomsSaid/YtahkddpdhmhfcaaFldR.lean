/- What the reference's fields compute, over the structs. No statement is proved here. -/
import Derived.Test.YtahkddpdhmhfcaaFieldP
import Derived.Test.YtahkddpdhmhfcaaMakerQ
namespace Go.Wk
open Go Go.RowKit
def Pr.pb (p : Pr) : PairB := (p.name, p.value)
section
variable {P : Program} {n : Nat} {A : Fr n} {D : List Deferred} {l : List (Nat × Value)} {w : World} {d : Option Tmp} {ty : TypeId} {ps : String} {af : Array Edge} {g : Option (Nat × Bool)}
theorem r_eqlPr {x y : Operand} {t f u : TypeId} {p q : Pr} (hp : pairT P t f = true) (hf : P.underlying f = some .string) (hx : ev n l x = some (.agg (Pr.cells p).toArray)) (hy : ev n l y = some (.agg (Pr.cells q).toArray)) :
    RunV P ⟨d, .binOp .eql t x y u, ty, ps, af, g⟩ (over A D l).eval w (.bool (decide (p.pb = q.pb))) := r_eqlP (p := p.pb) (q := q.pb) hp hf hx hy
end
def joinF (p : Pr) : List UInt8 × Nat := if isName p.name = false then ([], 1) else if 256 < p.value.length then ([], 21) else (payload p, 0)
theorem joinF_bd {p : Pr} (h : (joinF p).2 = 0) : p.name.length ≤ 1000000 ∧ p.value.length ≤ 1000000 := by
  unfold joinF at h
  split at h
  · cases h
  · rename_i h1
    split at h
    · cases h
    · have := (name_len (s := p.name) (by simpa using h1)).2; omega
theorem joinF_right {p : Pr} : (joinF p).2 = 0 ↔ right p.pb = true := by
  unfold joinF right Pr.pb
  by_cases h1 : isName p.name = false
  · simp [h1]
  · rw [if_neg h1]
    have h2 : isName p.name = true := by simpa using h1
    rw [h2]
    by_cases h3 : 256 < p.value.length
    · simp [h3]
    · simp [h3]; omega
def rankF (t : List UInt8) : List Pr → Nat → Nat
  | [], k => k
  | q :: r, k => if Op.bytesLess (payload q) t = true then rankF t r (k + 1) else k
theorem rank_step {t : List UInt8} {o : List Pr} {k : Nat} {q : Pr} (h : o[k]? = some q) : rankF t (o.drop k) k = if Op.bytesLess (payload q) t = true then rankF t (o.drop (k + 1)) (k + 1) else k := by
  rw [drop_get h]; rfl
theorem rank_end {t : List UInt8} {o : List Pr} {k : Nat} (h : ¬ k < o.length) : rankF t (o.drop k) k = k := by rw [drop_end (by omega)]; rfl
theorem pr_getD {l : List Pr} {i : Nat} {x : Pr} (h : l[i]? = some x) : l.getD i { name := [], value := [] } = x := by simp [List.getD, h]
def shiftF : Nat → Nat → List Pr → List Pr
  | 0, _, o => o
  | n + 1, j, o => shiftF n (j - 1) (o.set j (o.getD (j - 1) { name := [], value := [] }))
theorem shift_step {j k : Nat} {o : List Pr} (h : k < j) : shiftF (j - k) j o = shiftF (j - 1 - k) (j - 1) (o.set j (o.getD (j - 1) { name := [], value := [] })) := by
  rw [show j - k = (j - 1 - k) + 1 by omega]; rfl
theorem shift_end {j k : Nat} {o : List Pr} (h : ¬ k < j) : shiftF (j - k) j o = o := by rw [show j - k = 0 by omega]; rfl
/-- A pair into the sorted list: not a second time. -/
def insF (p : Pr) (o : List Pr) : List Pr :=
  let k := rankF (payload p) o 0
  if k < o.length ∧ (o.getD k { name := [], value := [] }).pb = p.pb then o else (shiftF (o.length - k) o.length (o ++ [{ name := [], value := [] }])).set k p
def goL : List Pr → List Pr → List Pr × Nat
  | [], o => if 16 < o.length then ([], 21) else (o, 0)
  | p :: r, o => if (joinF p).2 ≠ 0 then ([], (joinF p).2) else goL r (insF p o)
def listF (l : List Pr) : List Pr × Nat := if l.length = 0 then ([], 16) else goL l []
theorem goL_end {l o : List Pr} {i : Nat} (h : ¬ i < l.length) : goL (l.drop i) o = if 16 < o.length then ([], 21) else (o, 0) := by rw [drop_end (by omega)]; rfl
theorem goL_step {l o : List Pr} {i : Nat} {p : Pr} (h : l[i]? = some p) : goL (l.drop i) o = if (joinF p).2 ≠ 0 then ([], (joinF p).2) else goL (l.drop (i + 1)) (insF p o) := by
  rw [drop_get h]; rfl
end Go.Wk
