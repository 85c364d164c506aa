/- What the lists of fields come to: those of a name, whether two have the same; the package's list. No statement is proved here. -/
import Derived.Test.YtahkddpdhmhfcaaSeqP
import Derived.Test.YtahkddpdhmhfcaaFieldQ
namespace Go.Wk
open Go Go.RowKit
section
variable {P : Program} {n : Nat} {A : Fr n} {D : List Deferred} {l : List (Nat × Value)} {w : World} {d : Option Tmp} {ty : TypeId} {ps : String} {af : Array Edge} {g : Option (Nat × Bool)}
theorem r_neqPr {x y : Operand} {t f u : TypeId} {p q : Pr} (hp : pairT P t f = true) (hf : P.underlying f = some .string) (hx : ev n l x = some (.agg (Pr.cells p).toArray)) (hy : ev n l y = some (.agg (Pr.cells q).toArray)) :
    RunV P ⟨d, .binOp .neq t x y u, ty, ps, af, g⟩ (over A D l).eval w (.bool (!decide (p.pb = q.pb))) := r_neqP (p := p.pb) (q := q.pb) hp hf hx hy
end
def eqL : List Pr → List Pr → Bool
  | [], _ => true
  | p :: r, q :: s => if p.pb = q.pb then eqL r s else false
  | _ :: _, [] => false
def samePairsF (a b : List Pr) : Bool := if a.length = b.length then eqL a b else false
theorem eqL_end {a b : List Pr} {i : Nat} (h : ¬ i < a.length) : eqL (a.drop i) b = true := by rw [drop_end (by omega)]; rfl
theorem eqL_step {a b : List Pr} {i : Nat} {p q : Pr} (h : a[i]? = some p) (k : b[i]? = some q) : eqL (a.drop i) (b.drop i) = if p.pb = q.pb then eqL (a.drop (i + 1)) (b.drop (i + 1)) else false := by
  rw [drop_get h, drop_get k]; rfl
theorem eqL_self (a : List Pr) : eqL a a = true := by
  induction a with
  | nil => rfl
  | cons p r ih => simp [eqL, ih]
def eqT : List (List UInt8) → List (List UInt8) → Bool
  | [], _ => true
  | p :: r, q :: s => if p = q then eqT r s else false
  | _ :: _, [] => false
def sameTextsF (a b : List (List UInt8)) : Bool := if a.length = b.length then eqT a b else false
theorem eqT_end {a b : List (List UInt8)} {i : Nat} (h : ¬ i < a.length) : eqT (a.drop i) b = true := by rw [drop_end (by omega)]; rfl
theorem eqT_step {a b : List (List UInt8)} {i : Nat} {p q : List UInt8} (h : a[i]? = some p) (k : b[i]? = some q) : eqT (a.drop i) (b.drop i) = if p = q then eqT (a.drop (i + 1)) (b.drop (i + 1)) else false := by
  rw [drop_get h, drop_get k]; rfl
theorem eqT_self (a : List (List UInt8)) : eqT a a = true := by
  induction a with
  | nil => rfl
  | cons p r ih => simp [eqT, ih]
def ofName (nm : List UInt8) : List Pr → List (List UInt8)
  | [] => []
  | p :: r => if p.name = nm then p.value :: ofName nm r else ofName nm r
theorem ofName_end {nm : List UInt8} {l : List Pr} {i : Nat} (h : ¬ i < l.length) : ofName nm (l.drop i) = [] := by rw [drop_end (by omega)]; rfl
theorem ofName_step {nm : List UInt8} {l : List Pr} {i : Nat} {p : Pr} (h : l[i]? = some p) : ofName nm (l.drop i) = if p.name = nm then p.value :: ofName nm (l.drop (i + 1)) else ofName nm (l.drop (i + 1)) := by rw [drop_get h]; rfl
def idxL (p : Pr) : List Pr → Nat → Int
  | [], _ => -1
  | q :: r, i => if p.pb = q.pb then (i : Int) else idxL p r (i + 1)
theorem idxL_end {p : Pr} {l : List Pr} {i j : Nat} (h : ¬ i < l.length) : idxL p (l.drop i) j = -1 := by rw [drop_end (by omega)]; rfl
theorem idxL_step {p q : Pr} {l : List Pr} {i : Nat} (h : l[i]? = some q) : idxL p (l.drop i) i = if p.pb = q.pb then (i : Int) else idxL p (l.drop (i + 1)) (i + 1) := by rw [drop_get h]; rfl
def hasP (p : Pr) : List Pr → Bool
  | [] => false
  | q :: r => if p.pb = q.pb then true else hasP p r
theorem idxL_has (p : Pr) (l : List Pr) (i : Nat) : decide (0 ≤ idxL p l i) = hasP p l := by
  induction l generalizing i with
  | nil => rfl
  | cons q r ih =>
    unfold idxL hasP
    split
    · simp
    · exact ih _
theorem hasP_end {p : Pr} {l : List Pr} {i : Nat} (h : ¬ i < l.length) : hasP p (l.drop i) = false := by rw [drop_end (by omega)]; rfl
theorem hasP_step {p q : Pr} {l : List Pr} {i : Nat} (h : l[i]? = some q) : hasP p (l.drop i) = if p.pb = q.pb then true else hasP p (l.drop (i + 1)) := by rw [drop_get h]; rfl
theorem any_step {a b : List Pr} {i j : Nat} {p q : Pr} (h : a[i]? = some p) (k : b[j]? = some q) : hasP (a.getD i { name := [], value := [] }) (b.drop j) = (decide (p.pb = q.pb) || hasP (a.getD i { name := [], value := [] }) (b.drop (j + 1))) := by
  rw [pr_getD h, hasP_step k]; by_cases e : p.pb = q.pb <;> simp [e]
def allIn (b : List Pr) : List Pr → Bool
  | [] => true
  | p :: r => if hasP p b = true then allIn b r else false
theorem allIn_end {b l : List Pr} {i : Nat} (h : ¬ i < l.length) : allIn b (l.drop i) = true := by rw [drop_end (by omega)]; rfl
theorem allIn_step {b l : List Pr} {i : Nat} {p : Pr} (h : l[i]? = some p) : allIn b (l.drop i) = if hasP p b = true then allIn b (l.drop (i + 1)) else false := by rw [drop_get h]; rfl
theorem allIn_stepD {b l : List Pr} {i : Nat} (h : i < l.length) : allIn b (l.drop i) = if hasP (l.getD i { name := [], value := [] }) b = true then allIn b (l.drop (i + 1)) else false := by
  have e : l[i]? = some (l[i]'h) := List.getElem?_eq_getElem h
  rw [allIn_step e, pr_getD e]
theorem pb_inj {p q : Pr} : p.pb = q.pb ↔ p = q := by
  cases p; cases q; simp [Pr.pb]
theorem hasP_iff {p : Pr} {l : List Pr} : hasP p l = true ↔ p ∈ l := by
  induction l with
  | nil => simp [hasP]
  | cons q r ih =>
    unfold hasP
    split
    · rename_i h; rw [pb_inj] at h; simp [h]
    · rename_i h; rw [pb_inj] at h; simp [h, ih]
theorem allIn_iff {b l : List Pr} : allIn b l = true ↔ ∀ p ∈ l, p ∈ b := by
  induction l with
  | nil => simp [allIn]
  | cons p r ih =>
    unfold allIn
    split
    · rename_i h; rw [hasP_iff] at h; simp [h, ih]
    · rename_i h; rw [hasP_iff] at h; simp [h]
end Go.Wk
