/- Part 1 of what the walk of a law stands on: Base, Ops, Steps, Draws, Strings, Rep, Nums, Puts, Loops, GuardR, FieldP, HashP, Opens, Tails, More, LeP, Types, RefP, HashN, MakerP, MakerQ, FldR, SeqP, FieldQ, FldS, CompR, SectP, ZeroP, AppS, SortS, SLaid, SimP, VSf, VSf2, VSf3, VSf4, VSf5. No statement is proved here. -/
import Derived.WalkKit
import Derived.WalkSpells
import Derived.WalkLawsBesides
import Derived.Deep.Quiet
import Derived.StillTail
import Derived.KernelRfl
import Derived.Deep.LoopGhost
import Derived.Laws.IdiomStrings
import Derived.Laws.StructEq
import Derived.Laws.Externs
import Derived.Lib.BytesEntry
import Derived.Recover
import Derived.Lib.IndexLaws
import Derived.ProofKit
import Derived.OpenShut
import Derived.ShutString
import Derived.Deep.Slices
import Derived.Sort.Grow
import Derived.Lib.SliceRun
import Derived.Lib.AppendZerosOnto
import Derived.Lib.AppendStr
import Derived.Shelf.SortM.Plain
import Derived.Shelf.SortM.SortNone
import Derived.LaidEqlPtr
import Derived.Lib.SmallJoins
import Derived.SizedLaws
import Derived.Test.YtogcacggojjijaaGreatRows
namespace Go.Wk
open Go Go.RowKit

theorem bnt {b : Bool} (h : (!b) = true) : b = false := by cases b <;> simp_all
theorem bnf {b : Bool} (h : (!b) = false) : b = true := by cases b <;> simp_all

/-! ### Frames -/

def look : List (Nat × Value) → Nat → Option Value
  | [], _ => none
  | (k, v) :: r, t => cond (Nat.beq k t) (some v) (look r t)

structure Fr (n : Nat) where
  tmps : Array Value
  size : tmps.size = n

def over {n : Nat} (A : Fr n) (D : List Deferred) : List (Nat × Value) → Act
  | [] => ⟨A.tmps, D⟩
  | (k, v) :: r => (over A D r).put (some k) v

def ev (n : Nat) (l : List (Nat × Value)) : Operand → Option Value
  | .tmp t => cond (Nat.ble n t) none (look l t)
  | .const v => some v
  | .global g => some (.pointer (some ⟨g, 0, none⟩))
  | .func f => some (.func (.func f) #[] #[])

section
variable {n : Nat} {A : Fr n} {D : List Deferred} {l : List (Nat × Value)}

theorem over_size : (over A D l).tmps.size = n := by
  induction l with
  | nil => exact A.size
  | cons p r ih => simp [over, Act.put, ih]

theorem over_defers : (over A D l).defers = D := by
  induction l with
  | nil => rfl
  | cons p r ih => simp [over, Act.put, ih]

theorem over_look {t : Nat} {v : Value} (ht : t < n) (h : look l t = some v) : (over A D l).tmps.getD t undef = v := by
  induction l with
  | nil => simp [look] at h
  | cons p r ih =>
    obtain ⟨k, u⟩ := p
    simp only [look] at h
    have hs : (over A D r).tmps.size = n := over_size
    by_cases hk : k = t
    · subst hk
      simp at h
      subst h
      simp [over, Act.put, Array.getD, hs, ht]
    · have : Nat.beq k t = false := Bool.eq_false_iff.2 fun hh => hk (Nat.eq_of_beq_eq_true hh)
      simp only [this, cond_false] at h
      have hi := ih h
      rw [← hi]
      show ((over A D r).tmps.setIfInBounds k u).getD t undef = _
      simp [hk]

theorem ev_eval {x : Operand} {v : Value} (h : ev n l x = some v) : (over A D l).eval x = v := by
  cases x with
  | tmp t =>
    simp only [ev] at h
    cases ht : Nat.ble n t with
    | true => simp [ht] at h
    | false =>
      simp only [ht, cond_false] at h
      have : t < n := Nat.lt_of_not_le fun hh => by rw [Nat.ble_eq_true_of_le hh] at ht; cases ht
      exact over_look this h
  | const u => simp only [ev, Option.some.injEq] at h; exact h
  | global g => simp only [ev, Option.some.injEq] at h; exact h
  | func f => simp only [ev, Option.some.injEq] at h; exact h

def evs (n : Nat) (l : List (Nat × Value)) : List Operand → Option (List Value)
  | [] => some []
  | x :: r => match ev n l x, evs n l r with
    | some v, some vs => some (v :: vs)
    | _, _ => none

theorem evs_eval {xs : List Operand} {vs : List Value} (h : evs n l xs = some vs) : xs.map (over A D l).eval = vs := by
  induction xs generalizing vs with
  | nil => simpa [evs] using h
  | cons x r ih =>
    simp only [evs] at h
    split at h
    · rename_i v us h1 h2
      simp at h; subst h
      simp [ev_eval h1, ih h2]
    · cases h

/-- 'l1' lists slots whose values are those of 'l'. -/
def Fits (n : Nat) (l : List (Nat × Value)) : List (Nat × Value) → Prop
  | [] => True
  | (t, v) :: r => ev n l (.tmp t) = some v ∧ Fits n l r

theorem put_self (a : Act) (t : Nat) (v : Value) (h : a.tmps.getD t undef = v) : a.put (some t) v = a := by
  cases a with
  | mk tm ds =>
    simp only [Act.put]
    congr 1
    apply Array.ext
    · simp
    · intro i h1 h2
      rw [Array.getElem_setIfInBounds]
      split
      · rename_i e; subst e; subst h; simp at h1; simp [Array.getD, h1]
      · rfl

theorem act_eta (a : Act) (h : a.defers = D) : (⟨a.tmps, D⟩ : Act) = a := by cases a; subst h; rfl

theorem over_fits {l1 : List (Nat × Value)} (h : Fits n l l1) : over (⟨(over A D l).tmps, over_size⟩ : Fr n) D l1 = over A D l := by
  induction l1 with
  | nil => exact act_eta _ over_defers
  | cons p r ih =>
    obtain ⟨t, v⟩ := p
    simp only [Fits] at h
    simp only [over]
    rw [ih h.2]
    exact put_self _ _ _ (by have := ev_eval (A := A) (D := D) h.1; simpa [Act.eval] using this)

end

/-! ### Worlds -/

/-- w' is w but for the old blocks of S, and new ones. -/
structure Md (S : List Nat) (w w' : World) : Prop where
  os : w'.os = w.os
  tape : w'.tape = w.tape
  output : w'.output = w.output
  size : w.heap.size ≤ w'.heap.size
  block : ∀ k, k < w.heap.size → k ∉ S → w'.heap[k]? = w.heap[k]?

theorem Md.refl (S : List Nat) (w : World) : Md S w w := ⟨rfl, rfl, rfl, Nat.le_refl _, fun _ _ _ => rfl⟩
theorem Md.trans {S : List Nat} {a b c : World} (h : Md S a b) (k : Md S b c) : Md S a c :=
  ⟨k.os.trans h.os, k.tape.trans h.tape, k.output.trans h.output, Nat.le_trans h.size k.size, fun i hi hs => (k.block i (Nat.lt_of_lt_of_le hi h.size) hs).trans (h.block i hi hs)⟩
theorem Md.mono {S T : List Nat} {a b : World} (h : Md S a b) (hs : ∀ k, k ∈ S → k < a.heap.size → k ∈ T) : Md T a b :=
  ⟨h.os, h.tape, h.output, h.size, fun i hi ht => h.block i hi fun hm => ht (hs i hm hi)⟩
/-- A step that writes blocks T, each of S or new since 'a'. -/
theorem Md.step {S T : List Nat} {a b c : World} (h : Md S a b) (k : Md T b c) (hT : ∀ i, i ∈ T → i ∈ S ∨ a.heap.size ≤ i) : Md S a c :=
  ⟨k.os.trans h.os, k.tape.trans h.tape, k.output.trans h.output, Nat.le_trans h.size k.size, fun i hi hs =>
    (k.block i (Nat.lt_of_lt_of_le hi h.size) fun hm => (hT i hm).elim hs fun h' => by omega).trans (h.block i hi hs)⟩
theorem Md.step0 {S : List Nat} {a b c : World} (h : Md S a b) (k : Md [] b c) : Md S a c := h.step k (by simp)
theorem Md.step1 {S : List Nat} {a b c : World} {i : Nat} (h : Md S a b) (k : Md [i] b c) (hi : a.heap.size ≤ i) : Md S a c :=
  h.step k (by intro j hj; simp at hj; subst hj; exact .inr hi)
theorem Md.step1' {S : List Nat} {a b c : World} {i : Nat} (h : Md S a b) (k : Md [i] b c) (hi : i ∈ S) : Md S a c :=
  h.step k (by intro j hj; simp at hj; subst hj; exact .inl hi)
theorem Md.below {w w' : World} (h : Md [] w w') : Below w.heap.size w w' := ⟨h.os, h.tape, h.output, h.size, fun k hk => h.block k hk (by simp)⟩
theorem Md.drew (w : World) : Md [] w { w with drawn := w.drawn + 1 } := ⟨rfl, rfl, rfl, Nat.le_refl _, fun _ _ _ => rfl⟩
theorem Md.alloc (w : World) (o : Obj) : Md [] w (w.alloc o) := ⟨rfl, rfl, rfl, by simp, fun _ hk _ => heap_alloc_old w o hk⟩
theorem Md.setCell (w : World) (a : Addr) (u : Value) : Md [a.block] w (w.setCell a u) :=
  ⟨rfl, rfl, rfl, by simp [World.setCell], fun k _ hs => Below.heap_setCell w a u k (by simpa using hs)⟩
theorem Md.grown {w w' : World} {r : Option Nat} (h : w.grownBy w' r) : Md r.toList w w' :=
  ⟨h.os, h.tape, h.output, h.size, fun k hk hs => h.block k hk (by rintro rfl; simp at hs)⟩

theorem Md.cell {S : List Nat} {w w' : World} {p : Addr} {u : Value} (h : Md S w w') (hc : w.cell? p = some u) (hs : p.block ∉ S) : w'.cell? p = some u :=
  (World.cell?_of_block (h.block p.block (World.block_lt_of_cell? w p hc) hs)).trans hc

/-! ### Blocks -/

/-- Block b holds just these cells. -/
def Blk (w : World) (b : Nat) (cs : List Value) (ty : TypeId) : Prop := w.heap[b]? = some (.cells cs.toArray ty (0, 0))

section
variable {w w' : World} {b : Nat} {cs : List Value} {ty : TypeId}
theorem Blk.lt (h : Blk w b cs ty) : b < w.heap.size := (Array.getElem?_eq_some_iff.1 h).1
theorem Blk.md {S : List Nat} (h : Blk w b cs ty) (m : Md S w w') (hs : b ∉ S) : Blk w' b cs ty := (m.block b h.lt hs).trans h
theorem Blk.md0 (h : Blk w b cs ty) (m : Md [] w w') : Blk w' b cs ty := h.md m (by simp)
theorem Blk.cell (h : Blk w b cs ty) (j : Nat) : w.cell? ⟨b, j, none⟩ = cs[j]? := by
  unfold Blk at h
  simp [World.cell?, h]
theorem Blk.frozen (h : Blk w b cs ty) (j : Nat) : w.frozen? ⟨b, j, none⟩ = false := by
  unfold Blk at h
  simp [World.frozen?, h]
theorem Blk.set (h : Blk w b cs ty) (j : Nat) (u : Value) : Blk (w.setCell ⟨b, j, none⟩ u) b (cs.set j u) ty := by
  have hl := h.lt
  unfold Blk at h ⊢
  simp only [World.setCell, Array.getElem?_modify, h]
  simp
theorem Blk.new (w : World) (cs : List Value) (ty : TypeId) : Blk (w.alloc (.cells cs.toArray ty)) w.heap.size cs ty := heap_alloc_new w _
end

/-! ### Slices of one-cell elements -/

def Sl (w : World) (v : Value) (l : List Value) : Prop :=
  ∃ a cap, v = .slice a l.length cap ∧ l.length ≤ cap ∧ cap ≤ maxLen ∧ (a = none → cap = 0) ∧ ∀ p, a = some p → ∀ j u, l[j]? = some u → w.cell? (p.add j) = some u

def b8 (x : UInt8) : Value := .int .u8 (x.toNat : Int)
def By (w : World) (v : Value) (l : List UInt8) : Prop := Sl w v (l.map b8)

/-- The pointer to element i. -/
def elemp : Value → Nat → Value
  | .slice (some p) _ _, i => .pointer (some (p.add i))
  | _, _ => undef
theorem Addr.add_block (p : Addr) (j : Nat) : (p.add j).block = p.block := by unfold Addr.add; split <;> rfl
theorem Addr.add_add (p : Addr) (i j : Nat) : (p.add i).add j = p.add (i + j) := by
  unfold Addr.add
  by_cases hi : i = 0 <;> by_cases hj : j = 0 <;> simp [hi, hj]
  omega
theorem Addr.add_mk (b o j : Nat) : (⟨b, o, none⟩ : Addr).add j = ⟨b, o + j, none⟩ := by unfold Addr.add; split <;> simp_all

section
variable {w w' : World} {v : Value} {l : List Value}
def vblock : Value → Option Nat
  | .slice (some p) _ _ => some p.block
  | _ => none
/-- v is a slice of m elements. -/
def Shp (v : Value) (m : Nat) : Prop := ∃ a cap, v = .slice a m cap ∧ m ≤ cap ∧ cap ≤ maxLen ∧ (a = none → cap = 0)
end
/-! ### Types -/

def isOne (P : Program) (t : TypeId) : Bool :=
  match P.underlying t with
  | some (.struct _) | some (.array _ _) | none => false
  | some _ => Nat.beq (P.cellsOf t) 1
/-- struct or array of n cells -/
def isAggN (P : Program) (t : TypeId) (n : Nat) : Bool :=
  match P.underlying t with
  | some (.struct _) | some (.array _ _) => match P.info? t with
    | some i => Nat.beq i.size n
    | none => false
  | _ => false
def fieldOff (P : Program) (s : TypeId) (f : Nat) : Option Nat :=
  match P.underlying s with
  | some (.struct fs) => match fs[f]? with
    | some fd => match P.info? fd.type with
      | some i => if i.size = 0 then none else some fd.offset
      | none => none
    | none => none
  | _ => none
def zcells (P : Program) (t : TypeId) : Option (List Value) :=
  match P.info? t with
  | some i => match i.zero with
    | some z => some z.cells.toList
    | none => none
  | none => none
def elemIs (P : Program) (e : TypeId) (n : Nat) : Bool :=
  match P.info? e with
  | some i => Nat.beq i.size n
  | none => false

theorem isOne_spec {P : Program} {t : TypeId} (h : isOne P t = true) : ∃ d i, P.underlying t = some d ∧ P.info? t = some i ∧ i.size = 1 ∧ (d matches .struct _ | .array _ _) = false := by
  unfold isOne at h
  split at h
  · cases h
  · cases h
  · cases h
  · rename_i d h1 h2 hd
    refine ⟨d, ?_⟩
    cases hi : P.info? t with
    | none => simp [Program.cellsOf, hi] at h
    | some i =>
      refine ⟨i, hd, rfl, by simpa [Program.cellsOf, hi] using h, ?_⟩
      cases d <;> simp_all
theorem isAggN_spec {P : Program} {t : TypeId} {n : Nat} (h : isAggN P t n = true) : ∃ d i, P.underlying t = some d ∧ P.info? t = some i ∧ i.size = n ∧ (d matches .struct _ | .array _ _) = true := by
  unfold isAggN at h
  split at h
  · rename_i d hd
    split at h
    · rename_i i hi; exact ⟨_, i, hd, hi, by simpa using h, rfl⟩
    · cases h
  · rename_i d hd
    split at h
    · rename_i i hi; exact ⟨_, i, hd, hi, by simpa using h, rfl⟩
    · cases h
  · cases h
theorem run_isAgg_one {P : Program} {t : TypeId} (h : isOne P t = true) (w : World) : (isAgg t).run P w = .ok false w := by
  obtain ⟨d, i, h1, h2, h3, h4⟩ := isOne_spec h
  simp only [isAgg, Sem.run_bind, run_underlying h1, Result.andThen_ok]
  cases d <;> simp_all
theorem run_isAgg_agg {P : Program} {t : TypeId} {n : Nat} (h : isAggN P t n = true) (w : World) : (isAgg t).run P w = .ok true w := by
  obtain ⟨d, i, h1, h2, h3, h4⟩ := isAggN_spec h
  simp only [isAgg, Sem.run_bind, run_underlying h1, Result.andThen_ok]
  cases d <;> simp_all
theorem run_sizeOf {P : Program} {t : TypeId} {i : TypeInfo} (h : P.info? t = some i) (w : World) : (sizeOf t).run P w = .ok i.size w := by
  simp [sizeOf, typeInfo, h]
end Go.Wk
namespace Go.Wk
open Go Go.RowKit

def RunV (P : Program) (o : Oper) (e : Operand → Value) (w : World) (v : Value) : Prop := (execOp e o).run P w = .ok (.value v) w

section
variable {P : Program} {n : Nat} {A : Fr n} {D : List Deferred} {l : List (Nat × Value)} {w : World}
variable {d : Option Tmp} {ty : TypeId} {ps : String} {af : Array Edge} {g : Option (Nat × Bool)}

theorem r_move {x : Operand} {v : Value} (h : ev n l x = some v) : RunV P ⟨d, .move x, ty, ps, af, g⟩ (over A D l).eval w v := by
  simp [RunV, execOp, ev_eval h]
theorem r_assign {x : Operand} {v : Value} (h : ev n l x = some v) : RunV P ⟨d, .assign x, ty, ps, af, g⟩ (over A D l).eval w v := by
  simp [RunV, execOp, ev_eval h]
theorem r_pick_t {c x y : Operand} {b : Bool} {v : Value} (hc : ev n l c = some (.bool b)) (hb : b = true) (h : ev n l x = some v) :
    RunV P ⟨d, .pick c x y, ty, ps, af, g⟩ (over A D l).eval w v := by
  subst hb; simp [RunV, execOp, ev_eval h, ev_eval hc, asBool]
theorem r_pick_f {c x y : Operand} {b : Bool} {v : Value} (hc : ev n l c = some (.bool b)) (hb : b = false) (h : ev n l y = some v) :
    RunV P ⟨d, .pick c x y, ty, ps, af, g⟩ (over A D l).eval w v := by
  subst hb; simp [RunV, execOp, ev_eval h, ev_eval hc, asBool]
theorem r_extract {x : Operand} {i : Nat} {vs : Array Value} {v : Value} (h : ev n l x = some (.tuple vs)) (hv : vs[i]? = some v) :
    RunV P ⟨d, .extract x i, ty, ps, af, g⟩ (over A D l).eval w v := by
  simp [RunV, execOp, ev_eval h, Instr.extract, hv]
theorem r_not {x : Operand} {t : TypeId} {b : Bool} (h : ev n l x = some (.bool b)) :
    RunV P ⟨d, .unOp .not t x, ty, ps, af, g⟩ (over A D l).eval w (.bool !b) := by
  simp [RunV, execOp, ev_eval h, Op.unary]
theorem r_nil {x : Operand} {p : Addr} (h : ev n l x = some (.pointer (some p))) :
    RunV P ⟨d, .nilCheck x, ty, ps, af, g⟩ (over A D l).eval w (.pointer (some p)) := by
  simp [RunV, execOp, ev_eval h]

/-! integers -/
theorem r_int {op : BinOp} {x y : Operand} {t u : TypeId} {k j : IntKind} {a b : Int} {r : Value} (hx : ev n l x = some (.int k a)) (hy : ev n l y = some (.int j b))
    (hr : (binOp op t (.int k a) (.int j b)).run P w = .ok r w) : RunV P ⟨d, .binOp op t x y u, ty, ps, af, g⟩ (over A D l).eval w r := by
  have he : (eqGuard op t x y (.int k a) (.int j b)).run P w = .ok () w := by unfold eqGuard; cases op <;> simp
  simp [RunV, execOp, ev_eval hx, ev_eval hy, he, hr]
theorem r_add {x y : Operand} {t u : TypeId} {k : IntKind} {a b : Int} (hx : ev n l x = some (.int k a)) (hy : ev n l y = some (.int k b)) :
    RunV P ⟨d, .binOp .add t x y u, ty, ps, af, g⟩ (over A D l).eval w (.int k (k.wrap (a + b))) := r_int hx hy (by simp [binOp, Op.intArith])
theorem r_sub {x y : Operand} {t u : TypeId} {k : IntKind} {a b : Int} (hx : ev n l x = some (.int k a)) (hy : ev n l y = some (.int k b)) :
    RunV P ⟨d, .binOp .sub t x y u, ty, ps, af, g⟩ (over A D l).eval w (.int k (k.wrap (a - b))) := r_int hx hy (by simp [binOp, Op.intArith])
theorem r_mul {x y : Operand} {t u : TypeId} {k : IntKind} {a b : Int} (hx : ev n l x = some (.int k a)) (hy : ev n l y = some (.int k b)) :
    RunV P ⟨d, .binOp .mul t x y u, ty, ps, af, g⟩ (over A D l).eval w (.int k (k.wrap (a * b))) := r_int hx hy (by simp [binOp, Op.intArith])
theorem r_quo {x y : Operand} {t u : TypeId} {k : IntKind} {a b : Int} (hx : ev n l x = some (.int k a)) (hy : ev n l y = some (.int k b)) (h0 : b ≠ 0) :
    RunV P ⟨d, .binOp .quo t x y u, ty, ps, af, g⟩ (over A D l).eval w (.int k (k.wrap (a.tdiv b))) := r_int hx hy (by simp [binOp, Op.intDiv, h0])
theorem r_rem {x y : Operand} {t u : TypeId} {k : IntKind} {a b : Int} (hx : ev n l x = some (.int k a)) (hy : ev n l y = some (.int k b)) (h0 : b ≠ 0) :
    RunV P ⟨d, .binOp .rem t x y u, ty, ps, af, g⟩ (over A D l).eval w (.int k (a.tmod b)) := r_int hx hy (by simp [binOp, Op.intDiv, h0])
theorem r_eq {x y : Operand} {t u : TypeId} {k : IntKind} {a b : Int} (hx : ev n l x = some (.int k a)) (hy : ev n l y = some (.int k b)) :
    RunV P ⟨d, .binOp .eql t x y u, ty, ps, af, g⟩ (over A D l).eval w (.bool (decide (a = b))) := r_int hx hy (by simp [binOp, Op.intCmp]; rw [Bool.eq_iff_iff]; simp)
theorem r_ne {x y : Operand} {t u : TypeId} {k : IntKind} {a b : Int} (hx : ev n l x = some (.int k a)) (hy : ev n l y = some (.int k b)) :
    RunV P ⟨d, .binOp .neq t x y u, ty, ps, af, g⟩ (over A D l).eval w (.bool (decide (a ≠ b))) := r_int hx hy (by simp [binOp, Op.intCmp]; rw [Bool.eq_iff_iff]; simp)
theorem r_lt {x y : Operand} {t u : TypeId} {k : IntKind} {a b : Int} (hx : ev n l x = some (.int k a)) (hy : ev n l y = some (.int k b)) :
    RunV P ⟨d, .binOp .lss t x y u, ty, ps, af, g⟩ (over A D l).eval w (.bool (decide (a < b))) := r_int hx hy (by simp [binOp, Op.intCmp])
theorem r_le {x y : Operand} {t u : TypeId} {k : IntKind} {a b : Int} (hx : ev n l x = some (.int k a)) (hy : ev n l y = some (.int k b)) :
    RunV P ⟨d, .binOp .leq t x y u, ty, ps, af, g⟩ (over A D l).eval w (.bool (decide (a ≤ b))) := r_int hx hy (by simp [binOp, Op.intCmp])
theorem r_gt {x y : Operand} {t u : TypeId} {k : IntKind} {a b : Int} (hx : ev n l x = some (.int k a)) (hy : ev n l y = some (.int k b)) :
    RunV P ⟨d, .binOp .gtr t x y u, ty, ps, af, g⟩ (over A D l).eval w (.bool (decide (b < a))) := r_int hx hy (by simp [binOp, Op.intCmp])
theorem r_ge {x y : Operand} {t u : TypeId} {k : IntKind} {a b : Int} (hx : ev n l x = some (.int k a)) (hy : ev n l y = some (.int k b)) :
    RunV P ⟨d, .binOp .geq t x y u, ty, ps, af, g⟩ (over A D l).eval w (.bool (decide (b ≤ a))) := r_int hx hy (by simp [binOp, Op.intCmp])

theorem wrap_i64 {x : Int} (h0 : -9223372036854775808 ≤ x) (h1 : x ≤ 9223372036854775807) : IntKind.i64.wrap x = x := by
  simp [IntKind.wrap, IntKind.bits, IntKind.signed]; omega
/-- int's sum, in range. -/
theorem r_addI {x y : Operand} {t u : TypeId} {a b : Int} (hx : ev n l x = some (.int .i64 a)) (hy : ev n l y = some (.int .i64 b)) (h : -9223372036854775808 ≤ a + b ∧ a + b ≤ 9223372036854775807) :
    RunV P ⟨d, .binOp .add t x y u, ty, ps, af, g⟩ (over A D l).eval w (.int .i64 (a + b)) := by have := r_add (P := P) (A := A) (D := D) (w := w) (d := d) (t := t) (u := u) (ty := ty) (ps := ps) (af := af) (g := g) hx hy; rwa [wrap_i64 h.1 h.2] at this
theorem r_subI {x y : Operand} {t u : TypeId} {a b : Int} (hx : ev n l x = some (.int .i64 a)) (hy : ev n l y = some (.int .i64 b)) (h : -9223372036854775808 ≤ a - b ∧ a - b ≤ 9223372036854775807) :
    RunV P ⟨d, .binOp .sub t x y u, ty, ps, af, g⟩ (over A D l).eval w (.int .i64 (a - b)) := by have := r_sub (P := P) (A := A) (D := D) (w := w) (d := d) (t := t) (u := u) (ty := ty) (ps := ps) (af := af) (g := g) hx hy; rwa [wrap_i64 h.1 h.2] at this
theorem r_min {x y : Operand} {ts : Array TypeId} {k j : IntKind} {a b : Int} (hx : ev n l x = some (.int k a)) (hy : ev n l y = some (.int j b)) :
    RunV P ⟨d, .call { callee := .builtin .min, args := #[x, y], argTypes := ts }, ty, ps, af, g⟩ (over A D l).eval w (.int k (if b < a then b else a)) := by
  simp [RunV, execOp, ev_eval hx, ev_eval hy, resolve, invoke, builtin, Builtin.min_, Builtin.min2]

/-! slices -/
theorem r_len {x : Operand} {v : Value} {m : Nat} {t e : TypeId} (hx : ev n l x = some v) (hT : P.underlying t = some (.slice e)) (hS : Shp v m) :
    RunV P ⟨d, .call { callee := .builtin .len, args := #[x], argTypes := #[t] }, ty, ps, af, g⟩ (over A D l).eval w (.int .i64 m) := by
  obtain ⟨a, cap, rfl, _⟩ := hS
  simp [RunV, execOp, ev_eval hx, resolve, invoke, builtin, Builtin.len_, run_underlying hT, goInt]
theorem r_indexZ {x y : Operand} {v : Value} {m : Nat} {t e : TypeId} {k : IntKind} {i : Int} (sz : Nat) (hx : ev n l x = some v) (hy : ev n l y = some (.int k i)) (hT : P.underlying t = some (.slice e)) (hE : elemIs P e sz = true)
    (hS : Shp v m) (hi : 0 ≤ i ∧ i < m) : RunV P ⟨d, .indexAddr t x y, ty, ps, af, g⟩ (over A D l).eval w (elemp v (i.toNat * sz)) := by
  obtain ⟨a, cap, rfl, h1, h2, h3⟩ := hS
  unfold elemIs at hE
  split at hE
  · rename_i inf hinf
    have hsz : inf.size = sz := by simpa using hE
    cases a with
    | none => have := h3 rfl; omega
    | some p => simp [RunV, execOp, ev_eval hx, ev_eval hy, Instr.indexAt, asIntOf, run_underlying hT, run_sizeOf hinf, hi.1, hi.2, hsz, elemp]
  · cases hE
/-! loads -/
theorem r_load {x : Operand} {t : TypeId} {p : Addr} {u : Value} (hx : ev n l x = some (.pointer (some p))) (hT : isOne P t = true) (hc : w.cell? p = some u) :
    RunV P ⟨d, .load t x, ty, ps, af, g⟩ (over A D l).eval w u := by
  simp [RunV, execOp, ev_eval hx, Instr.loadAt, Instr.sureAddr, loadVar, run_isAgg_one hT, hc]
theorem r_loadBlk {x : Operand} {t ty' : TypeId} {b j : Nat} {cs : List Value} {u : Value} (hx : ev n l x = some (.pointer (some ⟨b, j, none⟩))) (hT : isOne P t = true) (hB : Blk w b cs ty') (hj : cs[j]? = some u) :
    RunV P ⟨d, .load t x, ty, ps, af, g⟩ (over A D l).eval w u := r_load hx hT (by rw [hB.cell]; exact hj)
theorem r_loadAgg {x : Operand} {t : TypeId} {p : Addr} {m : Nat} {cs : List Value} (hx : ev n l x = some (.pointer (some p))) (hT : isAggN P t m = true) (hm : cs.length = m) (hc : ∀ j u, cs[j]? = some u → w.cell? (p.add j) = some u) :
    RunV P ⟨d, .load t x, ty, ps, af, g⟩ (over A D l).eval w (.agg cs.toArray) := by
  obtain ⟨dd, inf, h1, h2, h3, h4⟩ := isAggN_spec hT
  have hl := run_loadCells_list (P := P) (w := w) p cs hc
  simp [RunV, execOp, ev_eval hx, Instr.loadAt, Instr.sureAddr, loadVar, run_isAgg_agg hT, run_sizeOf h2, h3, ← hm, hl]
theorem r_field {x : Operand} {s : TypeId} {f b o off : Nat} (hx : ev n l x = some (.pointer (some ⟨b, o, none⟩))) (hf : fieldOff P s f = some off) :
    RunV P ⟨d, .fieldAddr s x f, ty, ps, af, g⟩ (over A D l).eval w (.pointer (some ⟨b, o + off, none⟩)) := by
  unfold fieldOff at hf
  split at hf
  · rename_i fs hfs
    split at hf
    · rename_i fd hfd
      split at hf
      · rename_i inf hinf
        split at hf
        · cases hf
        · rename_i hz
          simp only [Option.some.injEq] at hf
          subst hf
          simp [RunV, execOp, ev_eval hx, Instr.fieldAt, Instr.sureAddr, run_underlying hfs, hfd, fieldPlace, run_sizeOf hinf, hz, Addr.add_mk]
      · cases hf
    · cases hf
  · cases hf
theorem RunV.castI {o : Oper} {e : Operand → Value} {k : IntKind} {a b : Int} (h : RunV P o e w (.int k a)) (he : a = b) : RunV P o e w (.int k b) := he ▸ h
theorem RunV.castB {o : Oper} {e : Operand → Value} {a b : Bool} (h : RunV P o e w (.bool a)) (he : a = b) : RunV P o e w (.bool b) := he ▸ h
end
end Go.Wk
namespace Go.Wk
open Go Go.RowKit

section
variable {P : Program} {n : Nat} {A : Fr n} {D : List Deferred} {l : List (Nat × Value)} {w : World} {ops : Array Oper} {rest : List Oper} {Q : Exit → Act → World → Prop}
variable {d : Tmp} {op : Op} {ty : TypeId} {ps : String} {af : Array Edge}

theorem wl_plain {o : Oper} {a : Act} (hg : o.guard = none) (h : o.wp P a w (wpList P ops Q rest) Q) : wpList P ops Q (o :: rest) a w := by
  unfold wpList; rw [if_pos (by simp [Region.wanted, hg])]; exact .inl h

theorem wp_of_run {o : Oper} {a : Act} {v : Value} {K : Act → World → Prop} (hr : RunV P o a.eval w v) (h : K (a.put o.dst v) w) : o.wp P a w K Q := by
  unfold Oper.wp; unfold RunV at hr; rw [hr]; exact h

/-- An operation that yields a value and leaves the world. -/
theorem st (v : Value) (hr : RunV P ⟨some d, op, ty, ps, af, none⟩ (over A D l).eval w v) (k : wpList P ops Q rest (over A D ((d, v) :: l)) w) :
    wpList P ops Q (⟨some d, op, ty, ps, af, none⟩ :: rest) (over A D l) w := wl_plain rfl (wp_of_run hr k)

/-! guards -/
theorem yielded_of {j t : Nat} {o : Oper} {b : Bool} (ho : ops[j]? = some o) (ht : o.dst = some t) (h : ev n l (.tmp t) = some (.bool b)) : yielded ops (over A D l).tmps j = some b := by
  have h' := ev_eval (A := A) (D := D) h
  have hs : (over A D l).tmps.size = n := over_size
  have hn : t < n := by
    simp only [ev] at h
    cases hb : Nat.ble n t with
    | true => simp [hb] at h
    | false => exact Nat.lt_of_not_le fun hh => by rw [Nat.ble_eq_true_of_le hh] at hb; cases hb
  simp only [Act.eval, Array.getD, hs, hn, dite_true] at h'
  have h2 : (over A D l).tmps[t]? = some (.bool b) := by
    rw [Array.getElem?_eq_getElem (by omega)]; exact congrArg some h'
  simp [yielded, ho, ht, h2]
/-- A guarded operation that runs. -/
theorem st_g {j t : Nat} {o : Oper} {b want : Bool} (v : Value) (ho : ops[j]? = some o) (ht : o.dst = some t) (hy : ev n l (.tmp t) = some (.bool b)) (hb : b = want)
    (hr : RunV P ⟨some d, op, ty, ps, af, some (j, want)⟩ (over A D l).eval w v) (k : wpList P ops Q rest (over A D ((d, v) :: l)) w) :
    wpList P ops Q (⟨some d, op, ty, ps, af, some (j, want)⟩ :: rest) (over A D l) w := by
  unfold wpList; rw [if_pos (by simp [Region.wanted, yielded_of ho ht hy, hb])]; exact .inl (wp_of_run hr k)
/-- A guarded operation that is passed over. -/
theorem st_skip {j t : Nat} {o : Oper} {b want : Bool} (ho : ops[j]? = some o) (ht : o.dst = some t) (hy : ev n l (.tmp t) = some (.bool b)) (hb : b = !want)
    (k : wpList P ops Q rest (over A D ((d, undef) :: l)) w) :
    wpList P ops Q (⟨some d, op, ty, ps, af, some (j, want)⟩ :: rest) (over A D l) w := by
  unfold wpList; rw [if_neg (by subst hb; simp [Region.wanted, yielded_of ho ht hy])]; exact k
/-- A bool slot, parted. -/
theorem part_n {t : Nat} {b : Bool} (_ : ev n l (.tmp t) = some (.bool b)) (h1 : b = true → wpList P ops Q rest (over A D l) w) (h0 : b = false → wpList P ops Q rest (over A D l) w) : wpList P ops Q rest (over A D l) w := by cases b <;> simp_all
/-! code -/
theorem st_nil {a : Act} (h : Q .normal a w) : wpList P ops Q [] a w := h
theorem c_region {id : Nat} {lo : List Oper} {a : Act} (h : wpList P lo.toArray Q lo a w) : (Code.region id lo.toArray false).wp P Q a w := wp_region_lit h
theorem c_seq {x y : Code} {a : Act} (h : x.wp P (Exit.then (fun a w => y.wp P Q a w) Q) a w) : (Code.seq x y).wp P Q a w := wp_seq h
theorem c_then {K : Act → World → Prop} {a : Act} (h : K a w) : Exit.then K Q .normal a w := h
theorem c_skip {a : Act} (h : Q .normal a w) : Code.skip.wp P Q a w := wp_skip h
theorem c_ret {a : Act} (h : Q .ret a w) : Code.ret.wp P Q a w := wp_ret h
theorem c_exit {id : Nat} {a : Act} (h : Q (.exit id) a w) : (Code.exit id).wp P Q a w := wp_exit h
theorem c_block {id : Nat} {c : Code} {a : Act} (h : c.wp P (Exit.inBlock id Q) a w) : (Code.block id c).wp P Q a w := wp_block h
theorem x_then {K : Act → World → Prop} {id : Nat} {a : Act} (h : Q (.exit id) a w) : Exit.then K Q (.exit id) a w := h
theorem x_hit {id : Nat} {a : Act} (h : Q .normal a w) : Exit.inBlock id Q (.exit id) a w := by simpa [Exit.inBlock] using h
theorem n_block {id : Nat} {a : Act} (h : Q .normal a w) : Exit.inBlock id Q .normal a w := h
theorem r_then {K : Act → World → Prop} {a : Act} (h : Q .ret a w) : Exit.then K Q .ret a w := h
theorem r_block {id : Nat} {a : Act} (h : Q .ret a w) : Exit.inBlock id Q .ret a w := h
theorem c_if {c : Operand} {x y : Code} {b : Bool} (hc : ev n l c = some (.bool b)) (h1 : b = true → x.wp P Q (over A D l) w) (h0 : b = false → y.wp P Q (over A D l) w) :
    (Code.cond c x y).wp P Q (over A D l) w := wp_cond_split (ev_eval hc) h1 h0
theorem c_if_t {c : Operand} {x y : Code} {b : Bool} (hc : ev n l c = some (.bool b)) (hb : b = true) (h : x.wp P Q (over A D l) w) : (Code.cond c x y).wp P Q (over A D l) w :=
  c_if hc (fun _ => h) (fun h0 => by rw [hb] at h0; cases h0)
theorem c_if_f {c : Operand} {x y : Code} {b : Bool} (hc : ev n l c = some (.bool b)) (hb : b = false) (h : y.wp P Q (over A D l) w) : (Code.cond c x y).wp P Q (over A D l) w :=
  c_if hc (fun h0 => by rw [hb] at h0; cases h0) (fun _ => h)

/-- A loop: 'inv x' are the live slots at its head, 'W x' what holds of the world, 'mu x' falls. -/
def LoopNext {X : Type} (n : Nat) (D : List Deferred) (inv : X → List (Nat × Value)) (W : X → World → Prop) (mu : X → Nat) (x : X) (a : Act) (w : World) : Prop :=
  ∃ (x' : X) (B : Fr n), a = over B D (inv x') ∧ W x' w ∧ mu x' < mu x
theorem c_loop {X : Type} {c : Code} (inv : X → List (Nat × Value)) (W : X → World → Prop) (mu : X → Nat) (x0 : X) (h0 : Fits n l (inv x0)) (hw : W x0 w)
    (round : ∀ (x : X) (B : Fr n) (w' : World), W x w' → c.wp P (Exit.then (LoopNext n D inv W mu x) Q) (over B D (inv x)) w') :
    (Code.loop c).wp P Q (over A D l) w := by
  refine wp_loop_ghost (fun m a w' => ∃ (x : X) (B : Fr n), a = over B D (inv x) ∧ W x w' ∧ mu x = m) (mu x0) ⟨x0, _, (over_fits (A := A) (D := D) h0).symm, hw, rfl⟩ ?_
  rintro m a w' ⟨x, B, rfl, hW, rfl⟩
  refine wp_mono (round x B w' hW) ?_
  intro e a2 w2 h
  cases e with
  | normal => obtain ⟨x', B', h1, h2, h3⟩ := h; exact ⟨mu x', h3, x', B', h1, h2, rfl⟩
  | _ => exact h
/-! calls -/
def isFn (P : Program) (f : FuncId) : Bool :=
  match P.funcs[f]? with
  | some fn => !(fn.name == "runtime.NumGoroutine") && fn.body.isSome
  | none => false
theorem run_callFunc {f : FuncId} (hf : isFn P f = true) (args : Array Value) : (callFunc f args).run P w = .ok (.enter f args) w := by
  unfold isFn at hf
  split at hf
  · rename_i fn hfn
    simp only [Bool.and_eq_true, Bool.not_eq_true'] at hf
    have h1 : ¬ fn.name = "runtime.NumGoroutine" := by have := hf.1; simpa using this
    have h2 : ¬ fn.body = none := by intro hb; rw [hb] at hf; simp at hf
    simp [callFunc, hfn, h1, h2]
  · cases hf
theorem exec_call {f : FuncId} {xs : List Operand} {ts : Array TypeId} {vs : List Value} {d' : Option Tmp} {g : Option (Nat × Bool)} (hf : isFn P f = true) (ha : evs n l xs = some vs) :
    (execOp (over A D l).eval ⟨d', .call { callee := .value (.func f), args := xs.toArray, argTypes := ts }, ty, ps, af, g⟩).run P w = .ok (.enter f vs.toArray) w := by
  have he := evs_eval (A := A) (D := D) ha
  simp only [execOp, resolve, Act.eval, Deferred.ofValue, List.map_toArray, he]
  simp [invoke, run_callFunc hf]
theorem st_call {f : FuncId} {xs : List Operand} {ts : Array TypeId} {vs : List Value} {R : Ending → World → Prop} (hf : isFn P f = true) (ha : evs n l xs = some vs) (hc : Calls P f vs.toArray w R)
    (k : ∀ e w', R e w' → ∃ v, e = .returned v ∧ wpList P ops Q rest (over A D ((d, v) :: l)) w') :
    wpList P ops Q (⟨some d, .call { callee := .value (.func f), args := xs.toArray, argTypes := ts }, ty, ps, af, none⟩ :: rest) (over A D l) w := by
  refine wl_plain rfl ?_
  unfold Oper.wp
  rw [exec_call hf ha]
  refine hc.mono fun e w' hR => ?_
  obtain ⟨v, rfl, hk⟩ := k e w' hR
  exact hk
theorem st_call_g {f : FuncId} {xs : List Operand} {ts : Array TypeId} {vs : List Value} {R : Ending → World → Prop} {j t : Nat} {o : Oper} {b want : Bool} (ho : ops[j]? = some o) (ht : o.dst = some t) (hy : ev n l (.tmp t) = some (.bool b)) (hb : b = want)
    (hf : isFn P f = true) (ha : evs n l xs = some vs) (hc : Calls P f vs.toArray w R)
    (k : ∀ e w', R e w' → ∃ v, e = .returned v ∧ wpList P ops Q rest (over A D ((d, v) :: l)) w') :
    wpList P ops Q (⟨some d, .call { callee := .value (.func f), args := xs.toArray, argTypes := ts }, ty, ps, af, some (j, want)⟩ :: rest) (over A D l) w := by
  unfold wpList; rw [if_pos (by simp [Region.wanted, yielded_of ho ht hy, hb])]
  refine .inl ?_
  unfold Oper.wp
  rw [exec_call hf ha]
  refine hc.mono fun e w' hR => ?_
  obtain ⟨v, rfl, hk⟩ := k e w' hR
  exact hk

/-! a function's door -/
def argsAt : Nat → List Value → List (Nat × Value)
  | _, [] => []
  | i, v :: r => (i, v) :: argsAt (i + 1) r
theorem over_same {B : Fr n} {l1 : List (Nat × Value)} (h : ∀ p ∈ l1, B.tmps.getD p.1 undef = p.2) : over B D l1 = ⟨B.tmps, D⟩ := by
  induction l1 with
  | nil => rfl
  | cons p r ih =>
    simp only [over]
    rw [ih fun q hq => h q (by simp [hq])]
    exact put_self _ _ _ (h p (by simp))
theorem mem_argsAt {vs : List Value} {i : Nat} {p : Nat × Value} (h : p ∈ argsAt i vs) : ∃ j, p.1 = i + j ∧ vs[j]? = some p.2 := by
  induction vs generalizing i with
  | nil => simp [argsAt] at h
  | cons v r ih =>
    simp only [argsAt, List.mem_cons] at h
    rcases h with rfl | h
    · exact ⟨0, rfl, rfl⟩
    · obtain ⟨j, h1, h2⟩ := ih h
      exact ⟨j + 1, by omega, by simpa using h2⟩
theorem enter {f : FuncId} {fn : Func} {c : Code} {vs : List Value} {R : Ending → World → Prop} (hf : P.funcs[f]? = some fn) (hb : fn.body = some c) (hn : fn.ntmps = n) (hle : Nat.ble vs.length n = true)
    (h : ∀ B : Fr n, c.wp P (bodyPost P fn R) (over B [] (argsAt 0 vs)) w) : Calls P f vs.toArray w R := by
  refine calls_of_wp hf hb ?_
  have hle' : vs.length ≤ n := Nat.le_of_ble_eq_true hle
  have hsz : (vs.toArray ++ Array.replicate (fn.ntmps - vs.toArray.size) undef).size = n := by simp [hn]; omega
  have := h ⟨_, hsz⟩
  rwa [over_same] at this
  intro p hp
  obtain ⟨j, h1, h2⟩ := mem_argsAt hp
  have hj := (List.getElem?_eq_some_iff.1 h2)
  obtain ⟨hj1, hj2⟩ := hj
  simp only [h1, Nat.zero_add, Array.getD]
  rw [dif_pos (by simp; omega)]
  show (vs.toArray ++ _)[j]'_ = _
  rw [Array.getElem_append_left (by simpa using hj1)]
  simpa using hj2

def isEnd : Exit → Prop
  | .ret | .normal => True
  | _ => False
theorem bp {fn : Func} {R : Ending → World → Prop} {e : Exit} {v : Value} {a : Act} (he : isEnd e) (hd : a.defers = []) (hr : (results fn a.tmps).run P w = .ok v w) (h : R (.returned v) w) : bodyPost P fn R e a w := by
  cases e <;> simp only [isEnd] at he <;> exact ⟨hd, v, hr, h⟩
theorem getD_of {t : Nat} {v : Value} (h : ev n l (.tmp t) = some v) : (over A D l).tmps.getD t undef = v := ev_eval (A := A) (D := D) h
theorem ret1 {fn : Func} {R : Ending → World → Prop} {e : Exit} {t : Nat} {v : Value} (he : isEnd e) (hr : fn.results = #[.tmp t]) (hv : ev n l (.tmp t) = some v) (h : R (.returned v) w) : bodyPost P fn R e (over A [] l) w :=
  bp he over_defers (results_tmp hr _ _ _) (by rw [getD_of hv]; exact h)
theorem run_loadVar_blk {t ty' : TypeId} {b : Nat} {cs : List Value} (hT : isAggN P t cs.length = true) (hB : Blk w b cs ty') : (loadVar t ⟨b, 0, none⟩).run P w = .ok (.agg cs.toArray) w := by
  obtain ⟨dd, inf, h1, h2, h3, h4⟩ := isAggN_spec hT
  have hl := run_loadCells_list (P := P) (w := w) ⟨b, 0, none⟩ cs fun j u hj => by rw [Addr.add_mk, Nat.zero_add, hB.cell]; exact hj
  simp [loadVar, run_isAgg_agg hT, run_sizeOf h2, h3, hl]
/-! memory -/
theorem st_store {x y : Operand} {t ty' : TypeId} {b j : Nat} {cs : List Value} {u : Value} (hx : ev n l x = some (.pointer (some ⟨b, j, none⟩))) (hy : ev n l y = some u) (hT : isOne P t = true) (hu : u.oneCell' = true)
    (hB : Blk w b cs ty') (hj : j < cs.length) (k : ∀ w', Md [b] w w' → Blk w' b (cs.set j u) ty' → wpList P ops Q rest (over A D l) w') :
    wpList P ops Q (⟨none, .store t x y, ty, ps, af, none⟩ :: rest) (over A D l) w := by
  refine wl_plain rfl ?_
  obtain ⟨dd, inf, h1, h2, h3, h4⟩ := isOne_spec hT
  have hc : u.cells = #[u] := by cases u <;> simp_all [Value.cells, Value.oneCell']
  have hcell : w.cell? ⟨b, j, none⟩ = some cs[j] := by rw [hB.cell]; simp [hj]
  have hrun : (execOp (over A D l).eval ⟨none, .store t x y, ty, ps, af, none⟩).run P w = .ok .skip (w.setCell ⟨b, j, none⟩ u) := by
    simp [execOp, ev_eval hx, ev_eval hy, Instr.storeAt, Instr.sureAddr, storeVar, run_sizeOf h2, h3, hc, storeCells, Addr.add, run_store P w _ u _ hu, hcell, hB.frozen]
  unfold Oper.wp
  rw [hrun]
  exact k _ (Md.setCell w ⟨b, j, none⟩ u) (hB.set j u)
/-- Cells us in the place of those from j on. -/
def splice (cs : List Value) (j : Nat) (us : List Value) : List Value := cs.take j ++ us ++ cs.drop (j + us.length)
theorem Blk.setRow {b : Nat} {cs us : List Value} {ty' : TypeId} (hB : Blk w b cs ty') : Blk (w.setRow b us.toArray) b us ty' := setRow_heap w b _ _ ty' _ hB
theorem Md.setRow (w : World) (b : Nat) (us : Array Value) : Md [b] w (w.setRow b us) := ⟨rfl, rfl, rfl, by simp, fun k _ hs => setRow_other w b k us (by simpa using hs)⟩
theorem st_storeAgg {x y : Operand} {t ty' : TypeId} {b j : Nat} {cs us : List Value} (hx : ev n l x = some (.pointer (some ⟨b, j, none⟩))) (hy : ev n l y = some (.agg us.toArray)) (hT : isAggN P t us.length = true)
    (hu : ∀ u ∈ us, u.oneCell' = true) (hB : Blk w b cs ty') (hj : j + us.length ≤ cs.length) (k : ∀ w', Md [b] w w' → Blk w' b (splice cs j us) ty' → wpList P ops Q rest (over A D l) w') :
    wpList P ops Q (⟨none, .store t x y, ty, ps, af, none⟩ :: rest) (over A D l) w := by
  refine wl_plain rfl ?_
  obtain ⟨dd, inf, h1, h2, h3, h4⟩ := isAggN_spec hT
  have hst := run_storeCells_at P b j ty' us 0 cs.toArray w hB (by simpa using hj) hu
  have hrun : (execOp (over A D l).eval ⟨none, .store t x y, ty, ps, af, none⟩).run P w = .ok .skip (w.setRow b (splice cs j us).toArray) := by
    simp [execOp, ev_eval hx, ev_eval hy, Instr.storeAt, Instr.sureAddr, storeVar, run_sizeOf h2, h3, Value.cells, hst, splice]
  unfold Oper.wp
  rw [hrun]
  exact k _ (Md.setRow w b _) hB.setRow
theorem st_alloc {t : TypeId} {cs : List Value} (hz : zcells P t = some cs)
    (k : ∀ b w', w.heap.size ≤ b → b < w'.heap.size → Md [] w w' → Blk w' b cs t → wpList P ops Q rest (over A D ((d, .pointer (some ⟨b, 0, none⟩)) :: l)) w') :
    wpList P ops Q (⟨some d, .alloc t, ty, ps, af, none⟩ :: rest) (over A D l) w := by
  refine wl_plain rfl ?_
  unfold zcells at hz
  split at hz
  · rename_i i hi
    split at hz
    · rename_i z hzz
      simp only [Option.some.injEq] at hz
      have hrun : (execOp (over A D l).eval ⟨some d, .alloc t, ty, ps, af, none⟩).run P w = .ok (.value (.pointer (some ⟨w.heap.size, 0, none⟩))) (w.alloc (.cells cs.toArray t)) := by
        subst hz
        simp [execOp, Instr.alloc, zeroValue, typeInfo, hi, hzz, newVar, newRow]
      unfold Oper.wp
      rw [hrun]
      exact k _ _ (Nat.le_refl _) (by simp) (Md.alloc w _) (Blk.new w cs t)
    · cases hz
  · cases hz
theorem st_box {t : TypeId} {x : Operand} {v : Value} {cs : List Value} (hx : ev n l x = some v) (hv : v.cells = cs.toArray)
    (k : ∀ b w', w.heap.size ≤ b → b < w'.heap.size → Md [] w w' → Blk w' b cs t → wpList P ops Q rest (over A D ((d, .pointer (some ⟨b, 0, none⟩)) :: l)) w') :
    wpList P ops Q (⟨some d, .box t x, ty, ps, af, none⟩ :: rest) (over A D l) w := by
  refine wl_plain rfl ?_
  have hrun : (execOp (over A D l).eval ⟨some d, .box t x, ty, ps, af, none⟩).run P w = .ok (.value (.pointer (some ⟨w.heap.size, 0, none⟩))) (w.alloc (.cells cs.toArray t)) := by
    simp [execOp, Instr.box, newVar, newRow, ev_eval hx, hv]
  unfold Oper.wp
  rw [hrun]
  exact k _ _ (Nat.le_refl _) (by simp) (Md.alloc w _) (Blk.new w cs t)

theorem cells_one {v : Value} (h : v.oneCell' = true) : v.cells = #[v] := by cases v <;> simp_all [Value.cells, Value.oneCell']
/-! build, of one-cell parts -/
def bplace (P : Program) (t : TypeId) : Option (List (Nat × Nat)) :=
  match P.underlying t with
  | some (.array m e) => match P.info? e with
    | some ie => some ((List.range m).map fun i => (i * ie.size, ie.size))
    | none => none
  | some (.struct fields) => fields.toList.mapM (fun f => (P.info? f.type).map fun i => (f.offset, i.size))
  | _ => none
/-! regions that draw their order: only reads and calls that change nothing of 'w' -/
variable {C : World → Prop} {QQ : Act → Prop}
theorem q_plain {o : Oper} {a : Act} (hg : o.guard = none) (h : o.quiet P a C (wpQuiet P ops C QQ rest)) : wpQuiet P ops C QQ (o :: rest) a := by
  unfold wpQuiet; rw [if_pos (by simp [Region.wanted, hg])]; exact h
theorem quiet_of_run {o : Oper} {a : Act} {K : Act → Prop} (v : Value) (hr : ∀ w', C w' → RunV P o a.eval w' v) (h : K (a.put o.dst v)) : o.quiet P a C K :=
  ⟨v, fun w' hw => by have := hr w' hw; unfold RunV at this; unfold Oper.quietAt; rw [this]; exact ⟨rfl, rfl⟩, h⟩
theorem q (v : Value) (hr : ∀ w', C w' → RunV P ⟨some d, op, ty, ps, af, none⟩ (over A D l).eval w' v) (k : wpQuiet P ops C QQ rest (over A D ((d, v) :: l))) :
    wpQuiet P ops C QQ (⟨some d, op, ty, ps, af, none⟩ :: rest) (over A D l) := q_plain rfl (quiet_of_run v hr k)
/-! regions that draw their order: reads, then a tail in one order -/
variable {QS : Act → Prop}
theorem s_plain {o : Oper} {a : Act} (hg : o.guard = none) (h : o.still P a w (wpStill P ops w QS rest)) : wpStill P ops w QS (o :: rest) a := by
  unfold wpStill; rw [if_pos (by simp [Region.wanted, hg])]; exact h
theorem s (v : Value) (hr : RunV P ⟨some d, op, ty, ps, af, none⟩ (over A D l).eval w v) (k : wpStill P ops w QS rest (over A D ((d, v) :: l))) :
    wpStill P ops w QS (⟨some d, op, ty, ps, af, none⟩ :: rest) (over A D l) := s_plain rfl (by unfold RunV at hr; unfold Oper.still; rw [hr]; exact ⟨rfl, k⟩)
/-! copy and append -/
def elT (P : Program) (e : TypeId) (sz by' : Nat) : Bool :=
  match P.info? e with
  | some i => match i.zero with
    | some z => Nat.beq i.size sz && Nat.beq i.bytes by' && Nat.beq z.cells.size sz
    | none => false
  | none => false
theorem elT_spec {e : TypeId} {sz by' : Nat} (h : elT P e sz by' = true) : ∃ i z, P.info? e = some i ∧ i.zero = some z ∧ i.size = sz ∧ i.bytes = by' ∧ z.cells.size = sz := by
  unfold elT at h
  split at h
  · rename_i i hi
    split at h
    · rename_i z hz
      simp only [Bool.and_eq_true] at h
      exact ⟨i, z, hi, hz, Nat.eq_of_beq_eq_true h.1.1, Nat.eq_of_beq_eq_true h.1.2, Nat.eq_of_beq_eq_true h.2⟩
    · cases h
  · cases h
/-- v is nil and xs empty, or v begins a row of elements of type e, of sz cells each, n in all, of the run's own. -/
def Own (w : World) (e : TypeId) (sz : Nat) (v : Value) (n : Nat) (xs : List Value) : Prop := w.ownsRow 0 e sz v n xs
theorem Own.nil (w : World) (e : TypeId) (sz : Nat) : Own w e sz (.slice none 0 0) 0 [] := World.ownsRow_nil w 0 e sz
theorem Own.md {S : List Nat} {w' : World} {e : TypeId} {sz m : Nat} {v : Value} {xs : List Value} (h : Own w e sz v m xs) (hm : Md S w w') (hs : ∀ b, vblock v = some b → b ∉ S) : Own w' e sz v m xs := by
  refine ⟨h.1, ?_⟩
  rcases h.2 with hn | ⟨g, cap, cur, rfl, hb, hgg, rest⟩
  · exact .inl hn
  · refine .inr ⟨g, cap, cur, rfl, hb, ?_, rest⟩
    rw [hm.block g (Array.getElem?_eq_some_iff.1 hgg).1 (hs g rfl)]
    exact hgg
theorem Own.lt {e : TypeId} {sz m : Nat} {v : Value} {xs : List Value} (h : Own w e sz v m xs) : ∀ b, vblock v = some b → b < w.heap.size := fun b hb => (World.ownsRow.lt h b (by cases v <;> simp_all [vblock, Value.ownBlock]; rename_i a _ _; cases a <;> simp_all)).2
/-- An own row's block is none of another element type. -/
theorem Own.ne {e ty' : TypeId} {sz m b : Nat} {v : Value} {xs cs : List Value} (h : Own w e sz v m xs) (hB : Blk w b cs ty') (hne : Nat.beq e ty' = false) : ∀ b', vblock v = some b' → b' ≠ b := by
  rintro b' hb rfl
  rcases h.2 with ⟨rfl, _⟩ | ⟨g, cap, cur, rfl, _, hg, _⟩
  · simp [vblock] at hb
  · simp [vblock] at hb
    subst hb
    unfold Blk at hB
    rw [hg] at hB
    simp at hB
    rw [hB.2] at hne
    simp at hne
theorem run_append_ex {t ty' e : TypeId} {sz by' : Nat} (ht : P.underlying t = some (.slice e)) (hE : elT P e sz by' = true) (hsz : 0 < sz) {v : Value} {m : Nat} {xs : List Value} (hO : Own w e sz v m xs)
    {a : Option Addr} {k c : Nat} {news : List Value} (hl : news.length = k * sz) (ha : a = none → k = 0 ∧ c = 0) (hnews : ∀ p, a = some p → ∀ j u, news[j]? = some u → w.cell? (p.add j) = some u) (h1 : ∀ u ∈ news, u.oneCell' = true)
    (h63 : m + k ≤ maxLen) (hbytes : (m + k) * by' ≤ 140737488355328) :
    ∃ v' w', (Builtin.append_ #[t, t] ty' #[v, .slice a k c]).run P w = .ok v' w' ∧ Own w' e sz v' (m + k) (xs ++ news) ∧ Md (vblock v).toList w w' ∧ (v' = .slice none 0 0 ↔ v = .slice none 0 0 ∧ k = 0) ∧
      (∀ b, vblock v' = some b → vblock v = some b ∨ w.heap.size ≤ b) := by
  obtain ⟨i, z, hi, hz, hs, hb, hzs⟩ := elT_spec hE
  have hob : v.ownBlock = vblock v := by
    rcases hO.2 with ⟨rfl, _⟩ | ⟨g, cap, cur, rfl, _⟩ <;> rfl
  cases a with
  | none =>
    obtain ⟨rfl, rfl⟩ := ha rfl
    have : news = [] := List.eq_nil_of_length_eq_zero (by simpa using hl)
    subst this
    exact ⟨v, w, run_append_owned_none w 0 t ty' e i sz ht hi v m xs hO, by simpa using hO, Md.refl _ _, by simp, fun b hb => .inl hb⟩
  | some p =>
    obtain ⟨v', w', hr, h2, h3, h4⟩ := run_append_own (P := P) w 0 t ty' e i z sz by' ht hi hz hs hb hzs hsz v m xs hO p k c news hl (hnews p rfl) h1 h63 hbytes (Nat.zero_le _)
    refine ⟨v', w', hr, h2, by rw [← hob]; exact Md.grown h3, h4, ?_⟩
    intro b hb'
    subst hs; subst hb
    rcases hO.2 with ⟨rfl, rfl⟩ | ⟨g, cap, cur, rfl, hbg, hg, hnc, hcm, hcs, htake⟩
    · by_cases hk : k = 0
      · have := h4.2 ⟨rfl, hk⟩
        rw [this] at hb'; simp [vblock] at hb'
      · have hx : xs = [] := List.eq_nil_of_length_eq_zero (by simpa using hO.1)
        simp only [maxLen] at h63
        have h5 := run_append_nil (P := P) w t ty' e i z ht hi hz p k c news hl (hnews p rfl) (by omega) (by omega) (by have hb := hbytes; simp only [Nat.zero_add] at hb; omega)
        rw [hr] at h5
        simp only [Result.ok.injEq] at h5
        rw [h5.1] at hb'; simp [vblock] at hb'
        exact .inr (by omega)
    · by_cases hroom : m + k ≤ cap
      · have hfit : m * i.size + news.length ≤ cur.size := by rw [hl, hcs, ← Nat.add_mul]; exact Nat.mul_le_mul_right _ hroom
        have h5 := run_append_room (P := P) w t ty' e i ht hi g m cap cur hg p k c news hl (hnews p rfl) h1 hroom hfit
        rw [hr] at h5
        simp only [Result.ok.injEq] at h5
        rw [h5.1] at hb'; simp [vblock] at hb'
        exact .inl (by simp [vblock, hb'])
      · have holds : ∀ j u, xs[j]? = some u → w.cell? ((⟨g, 0, none⟩ : Addr).add j) = some u := World.ownsRow.cells hO (g := g) rfl
        simp only [maxLen] at h63
        have h5 := run_append_grow (P := P) w t ty' e i z ht hi hz ⟨g, 0, none⟩ m cap xs hO.1 holds p k c news hl (hnews p rfl) (by omega) (by omega) (growslice_fits (by omega) hbytes)
        rw [hr] at h5
        simp only [Result.ok.injEq] at h5
        rw [h5.1] at hb'; simp [vblock] at hb'
        exact .inr (by omega)
/-- copy(x, y), one-cell elements, x in a block. -/
theorem st_copy {x y : Operand} {t t' e ty' : TypeId} {g o dLen dCap : Nat} {u : Value} {cs ys : List Value} (ht : P.underlying t = some (.slice e)) (hE : elemIs P e 1 = true) (hx : ev n l x = some (.slice (some ⟨g, o, none⟩) dLen dCap)) (hy : ev n l y = some u)
    (hB : Blk w g cs ty') (hS : Sl w u ys) (h1 : ∀ u ∈ ys, u.oneCell' = true) (hfit : o + min ys.length dLen ≤ cs.length)
    (k : ∀ w', Md [g] w w' → Blk w' g (splice cs o (ys.take dLen)) ty' → wpList P ops Q rest (over A D ((d, .int .i64 (min ys.length dLen : Nat)) :: l)) w') :
    wpList P ops Q (⟨some d, .call { callee := .builtin .copy, args := #[x, y], argTypes := #[t, t'] }, ty, ps, af, none⟩ :: rest) (over A D l) w := by
  refine wl_plain rfl ?_
  obtain ⟨a, cap, rfl, h3, h4, h5, h6⟩ := hS
  unfold elemIs at hE
  split at hE
  case h_2 => cases hE
  rename_i inf hinf
  have hsz : inf.size = 1 := by simpa using hE
  have hlen : (ys.take dLen).length = min ys.length dLen := by simp [Nat.min_comm]
  have hrun : (execOp (over A D l).eval ⟨some d, .call { callee := .builtin .copy, args := #[x, y], argTypes := #[t, t'] }, ty, ps, af, none⟩).run P w =
      .ok (.value (.int .i64 (min ys.length dLen : Nat))) (w.setRow g (splice cs o (ys.take dLen)).toArray) := by
    cases a with
    | none =>
      have hc := h5 rfl
      have hy0 : ys = [] := List.eq_nil_of_length_eq_zero (by omega)
      subst hy0
      have hsp : splice cs o [] = cs := by simp [splice]
      simp only [List.take_nil, hsp]
      have : w.setRow g cs.toArray = w := setRow_self w g _ ty' _ hB
      rw [this]
      simp [execOp, resolve, invoke, builtin, ev_eval hx, ev_eval hy, Builtin.copy_, run_underlying ht, Builtin.lenOf, Builtin.firstCells, run_sizeOf hinf, storeCells, goInt]
    | some p =>
      have hr := run_copy_row (P := P) w t t' ty e g o dLen dCap p ys.length cap cs.toArray ty' (ys.take dLen) ht (by simp [hinf, hsz]) hB hlen
        (fun j u hj => h6 p rfl j u (by rw [List.getElem?_take] at hj; split at hj; exact hj; cases hj)) (by rw [hlen]; simpa using hfit) (fun u hu => h1 u (List.mem_of_mem_take hu))
      simp [execOp, resolve, invoke, builtin, ev_eval hx, ev_eval hy, hr, splice, goInt, Nat.min_comm]
  unfold Oper.wp
  rw [hrun]
  exact k _ (Md.setRow w g _) hB.setRow
theorem fitI {x : Operand} {k : IntKind} {a b : Int} (h : ev n l x = some (.int k a)) (e : a = b) : ev n l x = some (.int k b) := by rw [h, e]
theorem fitB {x : Operand} {a b : Bool} (h : ev n l x = some (.bool a)) (e : a = b) : ev n l x = some (.bool b) := by rw [h, e]
theorem Md.stepO {w1 w' : World} {S : List Nat} {v : Value} (M : Md S w1 w) (hm : Md (vblock v).toList w w') (hv : ∀ b, vblock v = some b → b ∈ S ∨ w1.heap.size ≤ b) : Md S w1 w' :=
  M.step hm fun i hi => by
    cases h : vblock v with
    | none => rw [h] at hi; simp at hi
    | some b => rw [h] at hi; simp at hi; subst hi; exact hv i h
/-! slices made here -/
theorem r_eqlPN {x : Operand} {t u e : TypeId} {p : Addr} {g : Option (Nat × Bool)} (hx : ev n l x = some (.pointer (some p))) (hT : P.underlying t = some (.pointer e)) :
    RunV P ⟨some d, .binOp .eql t x (.const (.pointer none)) u, ty, ps, af, g⟩ (over A D l).eval w (.bool false) := by
  have hp : P.underlying t = some (.pointer (P.pointee t)) := by
    rw [hT]; simp [Program.pointee, hT]
  have h := run_eql_pointer_nil (P := P) w t (some p) hp
  have hc : (over A D l).eval (.const (.pointer none)) = .pointer none := rfl
  have hg : (eqGuard .eql t x (.const (.pointer none)) (.pointer (some p)) (.pointer none)).run P w = .ok () w := by unfold eqGuard; simp
  simp [RunV, execOp, ev_eval hx, hc, hg, h]
end
end Go.Wk
namespace Go.Wk
open Go Go.RowKit

section
variable {P : Program} {ops : Array Oper} {md : Region.Mode} {C : World → Prop} {Q : Exit → Act → World → Prop}

def QF : Exit → Act → World → Prop := fun _ _ _ => False

def opC (P : Program) (ops : Array Oper) (C : World → Prop) (i : Nat) (K : Act → World → Prop) (a : Act) (w : World) : Prop :=
  match ops[i]? with
  | none => K a w
  | some o => if Region.wanted o (yielded ops a.tmps) then o.wp P a w (fun a' w' => C w' ∧ K a' w') QF else K (a.put o.dst undef) w

def wpAnyC (P : Program) (md : Region.Mode) (ops : Array Oper) (C : World → Prop) (Q : Act → World → Prop) : Nat → Array Bool → Act → World → Prop
  | 0, listed, a, w => Region.ready md ops listed = [] ∧ Q a w
  | f + 1, listed, a, w => (Region.ready md ops listed = [] → Q a w) ∧ ∀ i ∈ Region.ready md ops listed, opC P ops C i (wpAnyC P md ops C Q f (listed.setIfInBounds i true)) a w

theorem wp_out {o : Oper} {a : Act} {w : World} {K K' : Act → World → Prop} (h : ∀ a w, K a w → K' a w) (hh : o.wp P a w K QF) : o.wp P a w K' Q := by
  unfold Oper.wp at *
  generalize (execOp a.eval o).run P w = r at *
  cases r with
  | ok x w' =>
    cases x <;> simp only [Oper.upon] at hh ⊢
    case value v => exact h _ _ hh
    case skip => exact h _ _ hh
    case defer d => exact h _ _ hh
    case enter f args =>
      refine hh.mono fun e w'' hx => ?_
      cases e with
      | returned v => exact h _ _ hx
      | panicked c => exact hx.elim
      | outgrown => obtain ⟨_, _, hx⟩ := hx; exact hx.elim
    case row r args => exact hh.mono fun v w'' hx => h _ _ hx
  | halt x w' =>
    cases x <;> simp only [Oper.upon] at hh ⊢
    exact hh.elim

theorem wp_mono_K {o : Oper} {a : Act} {w : World} {K K' : Act → World → Prop} (h : ∀ a w, K a w → K' a w) (hh : o.wp P a w K QF) : o.wp P a w K' QF := wp_out (Q := QF) h hh

theorem wpAny_of_C {QN : Act → World → Prop} (hQ : ∀ a w, QN a w → Q .normal a w) : ∀ (f : Nat) (listed : Array Bool) (a : Act) (w : World), wpAnyC P md ops C QN f listed a w → wpAny P md ops Q f listed a w
  | 0, _, _, _, h => ⟨h.1, hQ _ _ h.2⟩
  | f + 1, listed, a, w, h => ⟨fun h0 => hQ _ _ (h.1 h0), fun i hi => by
      have h1 := h.2 i hi
      unfold opC at h1
      unfold wpOp
      split
      · rename_i ho; rw [ho] at h1; exact wpAny_of_C hQ f _ a w h1
      · rename_i o ho
        rw [ho] at h1
        simp only at h1
        split
        · rename_i hw; rw [if_pos hw] at h1; exact .inl (wp_out (fun a' w' hx => wpAny_of_C hQ f _ a' w' hx.2) h1)
        · rename_i hw; rw [if_neg hw] at h1; exact wpAny_of_C hQ f _ _ w h1⟩

/-- A quiet operation: one value in every world of C, the world left as it is; or it is passed over. -/
def Qv (P : Program) (ops : Array Oper) (C : World → Prop) (o : Oper) (v : Value) (a : Act) : Prop :=
  (Region.wanted o (yielded ops a.tmps) = true ∧ ∀ w, C w → (execOp a.eval o).run P w = .ok (.value v) w) ∨ (Region.wanted o (yielded ops a.tmps) = false ∧ v = undef)

theorem Qv.opC {i : Nat} {o : Oper} {v : Value} {a : Act} {w : World} {K : Act → World → Prop} (hi : ops[i]? = some o) (hC : C w) (hy : Qv P ops C o v a) (h : K (a.put o.dst v) w) : Wk.opC P ops C i K a w := by
  unfold Wk.opC
  simp only [hi]
  rcases hy with ⟨hw, hv⟩ | ⟨hw, rfl⟩
  · rw [if_pos hw]; unfold Oper.wp; rw [hv w hC]; exact ⟨hC, h⟩
  · rw [if_neg (by rw [hw]; simp)]; exact h

theorem Qv.keep {oi : Oper} {v : Value} {a : Act} {d : Option Tmp} {u : Value} (hs : ∀ cs b, oi.op ≠ .select cs b) (h : ∀ d', d = some d' → d' ∉ oi.looksAt ops) (hy : Qv P ops C oi v a) : Qv P ops C oi v (a.put d u) := by
  unfold Qv at *
  rw [execOp_put oi hs a d u h, wanted_put oi a d u h]
  exact hy

theorem opC_put {j : Nat} {oi oj : Oper} {v : Value} {a : Act} {w : World} {K K' : Act → World → Prop} (hj : ops[j]? = some oj) (hap : oi.apart ops oj = true) (hsj : ∀ cs b, oj.op ≠ .select cs b)
    (hK : ∀ (b : Act) u w', b.tmps = a.tmps → C w' → K ((b.put oj.dst u).put oi.dst v) w' → K' (b.put oj.dst u) w') (hw : C w)
    (h : opC P ops C j K (a.put oi.dst v) w) : opC P ops C j K' a w := by
  obtain ⟨h1, h2, h3⟩ := Oper.apart_spec hap
  unfold opC at *
  simp only [hj] at *
  rw [wanted_put oj a oi.dst v h1] at h
  split
  · rename_i hwt
    rw [if_pos hwt] at h
    unfold Oper.wp at *
    rw [execOp_put oj hsj a oi.dst v h1] at h
    generalize hr : (execOp a.eval oj).run P w = r at *
    cases r with
    | ok x w' =>
      cases x <;> simp only [Oper.upon] at h ⊢
      case value u => exact ⟨h.1, hK a u w' rfl h.1 (by rw [← Act.put_comm a v u h2]; exact h.2)⟩
      case skip => exact ⟨h.1, hK a undef w' rfl h.1 (by rw [← Act.put_comm a v undef h2]; exact h.2)⟩
      case defer d =>
        have e : ({ a.put oi.dst v with defers := d :: (a.put oi.dst v).defers } : Act) = ({ a with defers := d :: a.defers } : Act).put oi.dst v := by cases oi.dst <;> rfl
        refine ⟨h.1, hK { a with defers := d :: a.defers } undef w' rfl h.1 ?_⟩
        rw [← Act.put_comm _ v undef h2, ← e]
        exact h.2
      case enter f args =>
        refine h.mono fun e w'' hx => ?_
        cases e with
        | returned u => exact ⟨hx.1, hK a u w'' rfl hx.1 (by rw [← Act.put_comm a v u h2]; exact hx.2)⟩
        | panicked c => exact hx
        | outgrown => exact hx
      case row r args => exact h.mono fun u w'' hx => ⟨hx.1, hK a u w'' rfl hx.1 (by rw [← Act.put_comm a v u h2]; exact hx.2)⟩
    | halt x w' =>
      cases x <;> simp only [Oper.upon] at h ⊢
      exact h
  · rename_i hwt
    rw [if_neg hwt] at h
    exact hK a undef w rfl hw (by rw [← Act.put_comm a v undef h2]; exact h)

theorem Qv.same {oi : Oper} {v : Value} {a b : Act} (ht : b.tmps = a.tmps) (hy : Qv P ops C oi v a) : Qv P ops C oi v b := by
  have he : b.eval = a.eval := by funext x; cases x <;> simp [Act.eval, ht]
  unfold Qv at *
  rw [he, ht]
  exact hy

/-- A quiet operation that may come up now may be taken first. -/
theorem wpAnyC_first {QN : Act → World → Prop} {i : Nat} {oi : Oper} {v : Value} (hi : ops[i]? = some oi) (hsel : ∀ (j : Nat) (o : Oper) cs b, ops[j]? = some o → o.op ≠ .select cs b) :
    ∀ (f : Nat) (listed : Array Bool) (a : Act) (w : World),
      (∀ j oj, ops[j]? = some oj → j ≠ i → listed.getD j true = false → (∀ e ∈ oj.after, Region.binds md e = true → e.on ≠ i) → oi.apart ops oj = true) →
      i ∈ Region.ready md ops listed → C w → Qv P ops C oi v a →
      wpAnyC P md ops C QN f (listed.setIfInBounds i true) (a.put oi.dst v) w → wpAnyC P md ops C QN (f + 1) listed a w := by
  intro f
  induction f with
  | zero =>
    intro listed a w _ hr hC hy H
    refine ⟨fun h => (by rw [h] at hr; cases hr), fun j hj => ?_⟩
    by_cases hji : j = i
    · subst hji; exact hy.opC hi hC H
    · have := ready_mono hj hji
      rw [H.1] at this
      cases this
  | succ f ih =>
    intro listed a w hfree hr hC hy H
    refine ⟨fun h => (by rw [h] at hr; cases hr), fun j hj => ?_⟩
    by_cases hji : j = i
    · subst hji; exact hy.opC hi hC H
    · have h1 := H.2 j (ready_mono hj hji)
      obtain ⟨hjun, oj, hoj, hall⟩ := mem_ready.1 hj
      have hnot : ∀ e ∈ oj.after, Region.binds md e = true → e.on ≠ i := fun e he hb heq => by
        have h2 := hall e he hb
        have h0 := (mem_ready.1 hr).1
        rw [heq] at h2
        rcases Nat.lt_or_ge i listed.size with h' | h'
        · simp [h'] at h0 h2; rw [h0] at h2; cases h2
        · simp [Array.getElem?_eq_none h'] at h2
      have hap := hfree j oj hoj hji hjun hnot
      obtain ⟨_, _, h3⟩ := Oper.apart_spec hap
      have hfree' : ∀ k ok, ops[k]? = some ok → k ≠ i → (listed.setIfInBounds j true).getD k true = false →
          (∀ e ∈ ok.after, Region.binds md e = true → e.on ≠ i) → oi.apart ops ok = true := fun k ok hk hki hun hno => by
        refine hfree k ok hk hki ?_ hno
        by_cases hjk : j = k
        · subst hjk; exact hjun
        · rw [getD_set_ne true hjk] at hun; exact hun
      refine opC_put hoj hap (fun cs b => hsel j oj cs b hoj) (fun b u w' hb hC' h4 => ?_) hC h1
      refine ih (listed.setIfInBounds j true) _ w' hfree' (ready_mono hr (Ne.symm hji)) hC' ((hy.same hb).keep (fun cs b => hsel i oi cs b hi) h3) ?_
      rw [Array.setIfInBounds_comm _ _ hji]
      exact h4

/-! the walk in a chosen order: (true, o): quiet; (false, o): in its turn -/
def ordOps (l : List Oper) : List (Nat × Bool) → List (Bool × Oper)
  | [] => []
  | (i, q) :: r => match l[i]? with
    | some o => (q, o) :: ordOps l r
    | none => ordOps l r
/-- C: the worlds that a quiet operation may meet; behind an operation in its turn it may be taken narrower. -/
def wpMix (P : Program) (ops : Array Oper) (C : World → Prop) (QN : Act → World → Prop) : List (Bool × Oper) → Act → World → Prop
  | [], a, w => QN a w
  | (true, o) :: r, a, w => if Region.wanted o (yielded ops a.tmps) then ∃ v, (∀ w', C w' → (execOp a.eval o).run P w' = .ok (.value v) w') ∧ wpMix P ops C QN r (a.put o.dst v) w else wpMix P ops C QN r (a.put o.dst undef) w
  | (false, o) :: r, a, w => if Region.wanted o (yielded ops a.tmps) then o.wp P a w (fun a' w' => C w' ∧ ∃ C' : World → Prop, C' w' ∧ (∀ x, C' x → C x) ∧ wpMix P ops C' QN r a' w') QF else wpMix P ops C QN r (a.put o.dst undef) w
variable {n : Nat} {A : Fr n} {D : List Deferred} {l : List (Nat × Value)} {w : World} {QN : Act → World → Prop} {rest : List (Bool × Oper)}
variable {d : Tmp} {op : Op} {ty : TypeId} {ps : String} {af : Array Edge}
theorem m (v : Value) (hr : ∀ w', C w' → RunV P ⟨some d, op, ty, ps, af, none⟩ (over A D l).eval w' v) (k : wpMix P ops C QN rest (over A D ((d, v) :: l)) w) :
    wpMix P ops C QN ((true, ⟨some d, op, ty, ps, af, none⟩) :: rest) (over A D l) w := by
  unfold wpMix; rw [if_pos (by simp [Region.wanted])]; exact ⟨v, hr, k⟩
theorem m_g {j t : Nat} {o : Oper} {b want : Bool} (v : Value) (ho : ops[j]? = some o) (ht : o.dst = some t) (hy : ev n l (.tmp t) = some (.bool b)) (hb : b = want)
    (hr : ∀ w', C w' → RunV P ⟨some d, op, ty, ps, af, some (j, want)⟩ (over A D l).eval w' v) (k : wpMix P ops C QN rest (over A D ((d, v) :: l)) w) :
    wpMix P ops C QN ((true, ⟨some d, op, ty, ps, af, some (j, want)⟩) :: rest) (over A D l) w := by
  unfold wpMix; rw [if_pos (by simp [Region.wanted, yielded_of ho ht hy, hb])]; exact ⟨v, hr, k⟩
theorem m_skip {q : Bool} {j t : Nat} {o : Oper} {b want : Bool} (ho : ops[j]? = some o) (ht : o.dst = some t) (hy : ev n l (.tmp t) = some (.bool b)) (hb : b = !want)
    (k : wpMix P ops C QN rest (over A D ((d, undef) :: l)) w) :
    wpMix P ops C QN ((q, ⟨some d, op, ty, ps, af, some (j, want)⟩) :: rest) (over A D l) w := by
  cases q <;> unfold wpMix <;> rw [if_neg (by subst hb; simp [Region.wanted, yielded_of ho ht hy])] <;> exact k
theorem part_m {t : Nat} {b : Bool} {ol : List (Bool × Oper)} (_ : ev n l (.tmp t) = some (.bool b)) (h1 : b = true → wpMix P ops C QN ol (over A D l) w) (h0 : b = false → wpMix P ops C QN ol (over A D l) w) : wpMix P ops C QN ol (over A D l) w := by cases b <;> simp_all
theorem m_nil {a : Act} (h : QN a w) : wpMix P ops C QN [] a w := h
/-- An operation in its turn: by its step over a list of it alone. -/
theorem m_c {o : Oper} {a : Act} (h : wpList P ops (fun e a' w' => e = .normal ∧ C w' ∧ ∃ C' : World → Prop, C' w' ∧ (∀ x, C' x → C x) ∧ wpMix P ops C' QN rest a' w') [o] a w) (hw : Region.wanted o (yielded ops a.tmps) = true) : wpMix P ops C QN ((false, o) :: rest) a w := by
  unfold wpMix; rw [if_pos hw]
  unfold wpList at h
  rw [if_pos hw] at h
  rcases h with h | h
  · unfold Oper.wp at *
    generalize (execOp a.eval o).run P w = r at *
    cases r with
    | ok x w' =>
      cases x <;> simp only [Oper.upon] at h ⊢
      case value v => exact (show _ ∧ _ from h).2
      case skip => exact (show _ ∧ _ from h).2
      case defer d => exact (show _ ∧ _ from h).2
      case enter f args =>
        refine h.mono fun e w'' hx => ?_
        cases e with
        | returned v => exact (show _ ∧ _ from hx).2
        | panicked c => exact absurd hx.1 (by simp)
        | outgrown => obtain ⟨_, _, hx⟩ := hx; exact absurd hx.1 (by simp)
      case row r args => exact h.mono fun v w'' hx => (show _ ∧ _ from hx).2
    | halt x w' =>
      cases x <;> simp only [Oper.upon] at h ⊢
      exact absurd h.1 (by simp)
  · obtain ⟨_, _, _, hx⟩ := h; exact absurd hx.1 (by simp)
theorem keepC {Q1 Q2 : Exit → Act → World → Prop} (hq : ∀ e a w, Q1 e a w → Q2 e a w) {a : Act} {o : Oper} (h : wpList P ops Q1 [o] a w) : wpList P ops Q2 [o] a w := by
  unfold wpList at *
  split
  · rename_i hw
    rw [if_pos hw] at h
    rcases h with h | h
    · refine .inl ?_
      unfold Oper.wp at *
      generalize (execOp a.eval o).run P w = r at *
      cases r with
      | ok x w' =>
        cases x <;> simp only [Oper.upon] at h ⊢
        case value v => exact hq _ _ _ h
        case skip => exact hq _ _ _ h
        case defer d => exact hq _ _ _ h
        case enter f args =>
          refine h.mono fun e w'' hx => ?_
          cases e with
          | returned v => exact hq _ _ _ hx
          | panicked c => exact hq _ _ _ hx
          | outgrown => obtain ⟨x1, x2, hx⟩ := hx; exact ⟨x1, x2, hq _ _ _ hx⟩
        case row r args => exact h.mono fun v w'' hx => hq _ _ _ hx
      | halt x w' =>
        cases x <;> simp only [Oper.upon] at h ⊢
        exact hq _ _ _ h
    · obtain ⟨x1, x2, x3, hx⟩ := h; exact .inr ⟨x1, x2, x3, hq _ _ _ hx⟩
  · rename_i hw
    rw [if_neg hw] at h
    exact hq _ _ _ h
theorem m_e {o : Oper} {a : Act} (h : wpList P ops (fun e a' w' => e = .normal ∧ C w' ∧ wpMix P ops C QN rest a' w') [o] a w) (hw : Region.wanted o (yielded ops a.tmps) = true) : wpMix P ops C QN ((false, o) :: rest) a w :=
  m_c (keepC (fun _ _ _ hx => ⟨hx.1, hx.2.1, C, hx.2.1, fun _ h => h, hx.2.2⟩) h) hw
end
end Go.Wk
namespace Go.Wk
open Go Go.RowKit

/-- A string by its bytes. -/
def str (s : List UInt8) : Value := .string ⟨s.toArray⟩

section
variable {P : Program} {n : Nat} {A : Fr n} {D : List Deferred} {l : List (Nat × Value)} {w : World}
variable {d : Option Tmp} {ty : TypeId} {ps : String} {af : Array Edge} {g : Option (Nat × Bool)}

theorem r_lenS {x : Operand} {s : List UInt8} {t : TypeId} (hx : ev n l x = some (str s)) (hT : P.underlying t = some .string) :
    RunV P ⟨d, .call { callee := .builtin .len, args := #[x], argTypes := #[t] }, ty, ps, af, g⟩ (over A D l).eval w (.int .i64 s.length) := by
  have hs : (⟨s.toArray⟩ : ByteArray).size = s.length := by simp [ByteArray.size]
  simp [RunV, execOp, ev_eval hx, resolve, invoke, builtin, Builtin.len_, run_underlying hT, goInt, str, hs]
theorem r_idxS {x y : Operand} {s : List UInt8} {t : TypeId} {k : IntKind} {i : Int} (hx : ev n l x = some (str s)) (hy : ev n l y = some (.int k i)) (hT : P.underlying t = some .string) (hi : 0 ≤ i ∧ i < s.length) :
    RunV P ⟨d, .index t x y, ty, ps, af, g⟩ (over A D l).eval w (b8 (s.getD i.toNat 0)) := by
  have h := run_index_string (P := P) w t ⟨s.toArray⟩ k i hT
  have hs : (⟨s.toArray⟩ : ByteArray).size = s.length := by simp [ByteArray.size]
  rw [dif_pos (by rw [hs]; exact hi)] at h
  have hv : ((⟨s.toArray⟩ : ByteArray)[i.toNat]'(by rw [hs]; omega)) = s.getD i.toNat 0 := by
    show s.toArray[i.toNat]'_ = _
    have : i.toNat < s.length := by omega
    simp [List.getD, this]
  rw [hv] at h
  simp [RunV, execOp, ev_eval hx, ev_eval hy, str, b8, h]
theorem r_idxSN {x y : Operand} {s : List UInt8} {t : TypeId} {k : IntKind} {i : Nat} (hx : ev n l x = some (str s)) (hy : ev n l y = some (.int k (i : Int))) (hT : P.underlying t = some .string) (hi : i < s.length) :
    RunV P ⟨d, .index t x y, ty, ps, af, g⟩ (over A D l).eval w (b8 (s.getD i 0)) := by
  have := r_idxS (P := P) (A := A) (D := D) (w := w) (d := d) (ty := ty) (ps := ps) (af := af) (g := g) hx hy hT (by omega)
  simpa using this
theorem r_strop {op : BinOp} {x y : Operand} {t u : TypeId} {a b : List UInt8} {r : Value} (hx : ev n l x = some (str a)) (hy : ev n l y = some (str b)) (hop : ∀ v, (eqGuard op t x y (str a) v).run P w = .ok () w)
    (hr : (binOp op t (str a) (str b)).run P w = .ok r w) : RunV P ⟨d, .binOp op t x y u, ty, ps, af, g⟩ (over A D l).eval w r := by
  simp [RunV, execOp, ev_eval hx, ev_eval hy, hop, hr]
theorem str_guard (op : BinOp) (t : TypeId) (x y : Operand) (a : List UInt8) (v : Value) : (eqGuard op t x y (str a) v).run P w = .ok () w := by unfold eqGuard str; cases op <;> simp
theorem str_beq (a b : List UInt8) : ((⟨a.toArray⟩ : ByteArray).toList == (⟨b.toArray⟩ : ByteArray).toList) = decide (a = b) := by
  rw [ByteArray.toList_eq, ByteArray.toList_eq]
  rw [Bool.eq_iff_iff]; simp
theorem r_eqlS {x y : Operand} {t u : TypeId} {a b : List UInt8} (hx : ev n l x = some (str a)) (hy : ev n l y = some (str b)) :
    RunV P ⟨d, .binOp .eql t x y u, ty, ps, af, g⟩ (over A D l).eval w (.bool (decide (a = b))) :=
  r_strop hx hy (str_guard _ _ _ _ _) (by simp only [binOp, str, Op.stringOp, str_beq, Sem.run_pure])
theorem r_neqS {x y : Operand} {t u : TypeId} {a b : List UInt8} (hx : ev n l x = some (str a)) (hy : ev n l y = some (str b)) :
    RunV P ⟨d, .binOp .neq t x y u, ty, ps, af, g⟩ (over A D l).eval w (.bool (!decide (a = b))) :=
  r_strop hx hy (str_guard _ _ _ _ _) (by simp only [binOp, str, Op.stringOp, str_beq, Sem.run_pure])
theorem r_gtrS {x y : Operand} {t u : TypeId} {a b : List UInt8} (hx : ev n l x = some (str a)) (hy : ev n l y = some (str b)) :
    RunV P ⟨d, .binOp .gtr t x y u, ty, ps, af, g⟩ (over A D l).eval w (.bool (!(Op.bytesLess a b || decide (a = b)))) :=
  r_strop hx hy (str_guard _ _ _ _ _) (by simp only [binOp, str, Op.stringOp, Sem.run_pure]; rw [str_beq]; simp only [ByteArray.toList_eq])
/-- string(b) -/
theorem r_convBS {x : Operand} {v : Value} {s : List UInt8} {src dst e : TypeId} (hs : P.underlying src = some (.slice e)) (he : P.underlying e = some (.int .u8)) (hd : P.underlying dst = some .string) (hx : ev n l x = some v) (hB : By w v s) :
    RunV P ⟨d, .convert src dst x, ty, ps, af, g⟩ (over A D l).eval w (str s) := by
  obtain ⟨a, cap, rfl, h1, h2, h3, h4⟩ := hB
  have hr : (convert src dst (.slice a (s.map b8).length cap)).run P w = .ok (str s) w := by
    cases a with
    | none =>
      have hc := h3 rfl
      have hl : (s.map b8).length = 0 := by omega
      have hs0 : s = [] := by simpa using hl
      subst hs0
      have := run_convert_bytes_string (P := P) w src dst e none 0 cap hs he hd
      simp only [List.map_nil, List.length_nil]
      rw [this]
      first | rfl | simp [Conv.bytesToString, str]
    | some p =>
      have := run_convert_bytes_back (P := P) w src dst e p cap s hs he hd (fun j hj => h4 p rfl j _ (by simp [b8, hj]))
      simpa [str] using this
  simp only [List.length_map] at hr hx
  simp [RunV, execOp, ev_eval hx, hr]
/-! pairs of strings -/
end
end Go.Wk
namespace Go.Wk
open Go Go.RowKit

def OneC (cs : List Value) : Prop := ∀ u ∈ cs, u.oneCell' = true
/-- How data of a type stand in so many cells; what is behind these lies in blocks that are let. -/
structure Dt (α : Type) where
  n : Nat
  pos : 0 < n
  rep : World → (Nat → Prop) → List Value → α → Prop
  len : ∀ {w Q cs x}, rep w Q cs x → cs.length = n
  one : ∀ {w Q cs x}, rep w Q cs x → OneC cs
  md : ∀ {S w w' Q cs x}, rep w Q cs x → Md S w w' → (∀ b ∈ S, ¬ Q b) → rep w' Q cs x
  sub : ∀ {w Q Q' cs x}, rep w Q cs x → (∀ b, Q b → b < w.heap.size → Q' b) → rep w Q' cs x

/-- Plain data of one cell. -/
def tOne {α : Type} (f : α → Value) (h1 : ∀ x, (f x).oneCell' = true) (ok : α → Prop) : Dt α where
  n := 1
  pos := Nat.zero_lt_one
  rep _ _ cs x := cs = [f x] ∧ ok x
  len := by rintro _ _ _ _ ⟨rfl, _⟩; rfl
  one := by rintro _ _ _ _ ⟨rfl, _⟩ u hu; simp at hu; subst hu; exact h1 _
  md := fun h _ _ => h
  sub := fun h _ => h
def tNat : Dt Nat := tOne (fun x => .int .i64 (x : Int)) (fun _ => rfl) (fun x => x < 9223372036854775808)
def tInt : Dt Int := tOne (fun x => .int .i64 x) (fun _ => rfl) (fun x => -9223372036854775808 ≤ x ∧ x < 9223372036854775808)
def tB8 : Dt UInt8 := tOne b8 (fun _ => rfl) (fun _ => True)
def tBool : Dt Bool := tOne (fun x => .bool x) (fun _ => rfl) (fun _ => True)
def tStr : Dt (List UInt8) := tOne str (fun _ => rfl) (fun _ => True)

def tProd {α β : Type} (A : Dt α) (B : Dt β) : Dt (α × β) where
  n := A.n + B.n
  pos := Nat.lt_of_lt_of_le A.pos (Nat.le_add_right _ _)
  rep w Q cs p := ∃ c1 c2, cs = c1 ++ c2 ∧ A.rep w Q c1 p.1 ∧ B.rep w Q c2 p.2
  len := by rintro _ _ _ _ ⟨c1, c2, rfl, h1, h2⟩; simp [A.len h1, B.len h2]
  one := by
    rintro _ _ _ _ ⟨c1, c2, rfl, h1, h2⟩ u hu
    rcases List.mem_append.1 hu with h | h
    · exact A.one h1 u h
    · exact B.one h2 u h
  md := fun ⟨c1, c2, h, h1, h2⟩ m hs => ⟨c1, c2, h, A.md h1 m hs, B.md h2 m hs⟩
  sub := fun ⟨c1, c2, h, h1, h2⟩ s => ⟨c1, c2, h, A.sub h1 s, B.sub h2 s⟩
def tPull {α β : Type} (f : β → α) (A : Dt α) : Dt β where
  n := A.n
  pos := A.pos
  rep w Q cs x := A.rep w Q cs (f x)
  len := A.len
  one := A.one
  md := A.md
  sub := A.sub

section
variable {α : Type} {T : Dt α} {w w' : World} {Q Q' : Nat → Prop}

/-- Elements, one behind the other. -/
def Els (T : Dt α) (w : World) (Q : Nat → Prop) : List Value → List α → Prop
  | cs, [] => cs = []
  | cs, x :: xs => ∃ c r, cs = c ++ r ∧ T.rep w Q c x ∧ Els T w Q r xs
theorem Els.len {cs : List Value} {xs : List α} (h : Els T w Q cs xs) : cs.length = xs.length * T.n := by
  induction xs generalizing cs with
  | nil => simp only [Els] at h; subst h; simp
  | cons x xs ih =>
    obtain ⟨c, r, rfl, h1, h2⟩ := h
    simp [T.len h1, ih h2, Nat.succ_mul, Nat.add_comm]
theorem Els.one {cs : List Value} {xs : List α} (h : Els T w Q cs xs) : OneC cs := by
  induction xs generalizing cs with
  | nil => simp only [Els] at h; subst h; intro u hu; simp at hu
  | cons x xs ih =>
    obtain ⟨c, r, rfl, h1, h2⟩ := h
    intro u hu
    rcases List.mem_append.1 hu with h | h
    · exact T.one h1 u h
    · exact ih h2 u h
theorem Els.md {S : List Nat} {cs : List Value} {xs : List α} (h : Els T w Q cs xs) (m : Md S w w') (hs : ∀ b ∈ S, ¬ Q b) : Els T w' Q cs xs := by
  induction xs generalizing cs with
  | nil => exact h
  | cons x xs ih => obtain ⟨c, r, e, h1, h2⟩ := h; exact ⟨c, r, e, T.md h1 m hs, ih h2⟩
theorem Els.sub {cs : List Value} {xs : List α} (h : Els T w Q cs xs) (s : ∀ b, Q b → b < w.heap.size → Q' b) : Els T w Q' cs xs := by
  induction xs generalizing cs with
  | nil => exact h
  | cons x xs ih => obtain ⟨c, r, e, h1, h2⟩ := h; exact ⟨c, r, e, T.sub h1 s, ih h2⟩
theorem Els.append {cs ds : List Value} {xs ys : List α} (h : Els T w Q cs xs) (k : Els T w Q ds ys) : Els T w Q (cs ++ ds) (xs ++ ys) := by
  induction xs generalizing cs with
  | nil => simp only [Els] at h; subst h; exact k
  | cons x xs ih => obtain ⟨c, r, rfl, h1, h2⟩ := h; exact ⟨c, r ++ ds, by simp, h1, ih h2⟩
theorem Els.get {cs : List Value} {xs : List α} {i : Nat} {x : α} (h : Els T w Q cs xs) (hi : xs[i]? = some x) : ∃ c, T.rep w Q c x ∧ ∀ j u, c[j]? = some u → cs[i * T.n + j]? = some u := by
  induction xs generalizing cs i with
  | nil => simp at hi
  | cons y xs ih =>
    obtain ⟨c, r, rfl, h1, h2⟩ := h
    cases i with
    | zero =>
      simp at hi; subst hi
      refine ⟨c, h1, fun j u hj => ?_⟩
      have := (List.getElem?_eq_some_iff.1 hj).1
      rw [Nat.zero_mul, Nat.zero_add, List.getElem?_append_left this]; exact hj
    | succ i =>
      obtain ⟨d, hd, hc⟩ := ih h2 (by simpa using hi)
      refine ⟨d, hd, fun j u hj => ?_⟩
      have hl := T.len h1
      rw [Nat.succ_mul, List.getElem?_append_right (by omega)]
      rw [show i * T.n + T.n + j - c.length = i * T.n + j by omega]
      exact hc j u hj
theorem Els.split {cs : List Value} {xs ys : List α} (h : Els T w Q cs (xs ++ ys)) : Els T w Q (cs.take (xs.length * T.n)) xs ∧ Els T w Q (cs.drop (xs.length * T.n)) ys := by
  induction xs generalizing cs with
  | nil => simp [Els]; exact h
  | cons x xs ih =>
    obtain ⟨c, r, rfl, h1, h2⟩ := h
    obtain ⟨h3, h4⟩ := ih h2
    have hl := T.len h1
    have e : (x :: xs).length * T.n = c.length + xs.length * T.n := by simp [Nat.succ_mul, hl, Nat.add_comm]
    rw [e]
    refine ⟨⟨c, r.take (xs.length * T.n), ?_, h1, h3⟩, ?_⟩
    · rw [List.take_append, List.take_of_length_le (Nat.le_add_right _ _), Nat.add_sub_cancel_left]
    · rw [List.drop_append, List.drop_of_length_le (Nat.le_add_right _ _), Nat.add_sub_cancel_left]; exact h4
theorem Els.set {cs : List Value} {xs : List α} {i : Nat} {c : List Value} {x : α} (h : Els T w Q cs xs) (hx : T.rep w Q c x) (hi : i < xs.length) :
    Els T w Q (cs.take (i * T.n) ++ c ++ cs.drop (i * T.n + T.n)) (xs.set i x) := by
  have e : xs = xs.take i ++ xs.drop i := (List.take_append_drop i xs).symm
  have hl : (xs.take i).length = i := by simp; omega
  rw [e] at h
  obtain ⟨h1, h2⟩ := h.split
  rw [hl] at h1 h2
  obtain ⟨y, ys, hy⟩ : ∃ y ys, xs.drop i = y :: ys := by
    cases hd : xs.drop i with
    | nil => have := congrArg List.length hd; simp at this; omega
    | cons y ys => exact ⟨y, ys, rfl⟩
  rw [hy] at h2
  obtain ⟨d, r, hd, h3, h4⟩ := h2
  have hr : cs.drop (i * T.n + T.n) = r := by
    rw [← List.drop_drop, hd]
    simp [T.len h3]
  have e2 : xs.set i x = xs.take i ++ (x :: ys) := by
    rw [List.set_eq_take_append_cons_drop, if_pos hi]
    congr 2
    have : xs.drop (i + 1) = (xs.drop i).drop 1 := by simp [Nat.add_comm]
    rw [this, hy]; rfl
  rw [e2, hr, List.append_assoc]
  exact h1.append ⟨c, r, rfl, hx, h4⟩

/-- A slice of data. -/
def Ls (T : Dt α) (w : World) (Q : Nat → Prop) (v : Value) (xs : List α) : Prop :=
  ∃ a cap cs, v = .slice a xs.length cap ∧ xs.length ≤ cap ∧ cap ≤ maxLen ∧ (a = none → cap = 0) ∧ (∀ p, a = some p → xs ≠ [] → Q p.block) ∧ (∀ p, a = some p → ∀ j u, cs[j]? = some u → w.cell? (p.add j) = some u) ∧ Els T w Q cs xs
theorem Ls.nil (T : Dt α) (w : World) (Q : Nat → Prop) : Ls T w Q (.slice none 0 0) [] := ⟨none, 0, [], rfl, Nat.le_refl _, by simp [maxLen], fun _ => rfl, by simp, by simp, rfl⟩
theorem Ls.md {S : List Nat} {v : Value} {xs : List α} (h : Ls T w Q v xs) (m : Md S w w') (hs : ∀ b ∈ S, ¬ Q b) : Ls T w' Q v xs := by
  obtain ⟨a, cap, cs, h0, h1, h2, h3, h4, h5, h6⟩ := h
  refine ⟨a, cap, cs, h0, h1, h2, h3, h4, fun p hp j u hj => m.cell (h5 p hp j u hj) ?_, h6.md m hs⟩
  rw [Addr.add_block]
  intro hm
  refine hs _ hm (h4 p hp ?_)
  rintro rfl
  simp only [Els] at h6
  subst h6
  simp at hj
theorem Ls.md0 {v : Value} {xs : List α} (h : Ls T w Q v xs) (m : Md [] w w') : Ls T w' Q v xs := h.md m (by simp)
theorem Ls.sub {v : Value} {xs : List α} (h : Ls T w Q v xs) (s : ∀ b, Q b → b < w.heap.size → Q' b) : Ls T w Q' v xs := by
  obtain ⟨a, cap, cs, h0, h1, h2, h3, h4, h5, h6⟩ := h
  refine ⟨a, cap, cs, h0, h1, h2, h3, fun p hp hx => s _ (h4 p hp hx) ?_, h5, h6.sub s⟩
  cases xs with
  | nil => exact absurd rfl hx
  | cons x xs =>
    obtain ⟨c, r, rfl, h7, h8⟩ := h6
    cases c with
    | nil => have := T.len h7; have := T.pos; simp at *; omega
    | cons u c => have := World.block_lt_of_cell? w _ (h5 p hp 0 u rfl); rwa [Addr.add_block] at this
theorem Ls.shp {v : Value} {xs : List α} (h : Ls T w Q v xs) : Shp v xs.length := by obtain ⟨a, cap, cs, h0, h1, h2, h3, _⟩ := h; exact ⟨a, cap, h0, h1, h2, h3⟩
theorem Ls.len_le {v : Value} {xs : List α} (h : Ls T w Q v xs) : xs.length ≤ maxLen := by obtain ⟨a, cap, cs, h0, h1, h2, _⟩ := h; omega
theorem Ls.len63 {v : Value} {xs : List α} (h : Ls T w Q v xs) : xs.length ≤ 9223372036854775807 := by have := h.len_le; simp only [maxLen] at this; omega
theorem Ls.oneCell {v : Value} {xs : List α} (h : Ls T w Q v xs) : v.oneCell' = true := by obtain ⟨a, cap, cs, rfl, _⟩ := h; rfl
theorem Ls.by {v : Value} {xs : List UInt8} (h : Ls tB8 w Q v xs) : By w v xs := by
  obtain ⟨a, cap, cs, h0, h1, h2, h3, h4, h5, h6⟩ := h
  have e : cs = xs.map b8 := by
    clear h0 h1 h4 h5
    induction xs generalizing cs with
    | nil => exact h6
    | cons x xs ih => obtain ⟨c, r, rfl, ⟨rfl, _⟩, h8⟩ := h6; rw [ih _ h8]; rfl
  subst e
  exact ⟨a, cap, by simpa using h0, by simpa using h1, h2, h3, h5⟩
theorem els_one {β : Type} {f : β → Value} {h1 : ∀ x, (f x).oneCell' = true} {ok : β → Prop} {xs : List β} (h : ∀ x ∈ xs, ok x) : Els (tOne f h1 ok) w Q (xs.map f) xs := by
  induction xs with
  | nil => rfl
  | cons x xs ih => exact ⟨[f x], xs.map f, rfl, ⟨rfl, h x (by simp)⟩, ih fun y hy => h y (by simp [hy])⟩
theorem els_one_eq {β : Type} {f : β → Value} {h1 : ∀ x, (f x).oneCell' = true} {ok : β → Prop} {cs : List Value} {xs : List β} (h : Els (tOne f h1 ok) w Q cs xs) : cs = xs.map f ∧ ∀ x ∈ xs, ok x := by
  induction xs generalizing cs with
  | nil => exact ⟨h, by simp⟩
  | cons x xs ih =>
    obtain ⟨c, r, rfl, ⟨rfl, ho⟩, h8⟩ := h
    obtain ⟨rfl, h9⟩ := ih h8
    exact ⟨rfl, by simpa using ⟨ho, h9⟩⟩
theorem Ls.sl {β : Type} {f : β → Value} {h1 : ∀ x, (f x).oneCell' = true} {ok : β → Prop} {v : Value} {xs : List β} (h : Ls (tOne f h1 ok) w Q v xs) : Sl w v (xs.map f) ∧ ∀ x ∈ xs, ok x := by
  obtain ⟨a, cap, cs, rfl, h2, h3, h4, h5, h6, h7⟩ := h
  obtain ⟨rfl, h8⟩ := els_one_eq h7
  exact ⟨⟨a, cap, by simp, by simpa using h2, h3, h4, h6⟩, h8⟩
/-- A slice as one cell. -/
def tSl (T : Dt α) : Dt (List α) where
  n := 1
  pos := Nat.zero_lt_one
  rep w Q cs xs := ∃ v, cs = [v] ∧ Ls T w Q v xs
  len := by rintro _ _ _ _ ⟨v, rfl, _⟩; rfl
  one := by rintro _ _ _ _ ⟨v, rfl, h⟩ u hu; simp at hu; subst hu; exact h.oneCell
  md := fun ⟨v, e, h⟩ m hs => ⟨v, e, h.md m hs⟩
  sub := fun ⟨v, e, h⟩ s => ⟨v, e, h.sub s⟩
/-- 'v[lo:hi]', elements of sz cells. -/
def subz (sz : Nat) : Value → Nat → Nat → Value
  | .slice a _ cap, lo, hi => .slice (if cap = lo then a else a.map (·.add (lo * sz))) (hi - lo) (cap - lo)
  | _, _, _ => undef
theorem Ls.part {v : Value} {xs : List α} (h : Ls T w Q v xs) (lo hi : Nat) (h1 : lo ≤ hi) (h2 : hi ≤ xs.length) : Ls T w Q (subz T.n v lo hi) ((xs.take hi).drop lo) := by
  obtain ⟨a, cap, cs, rfl, h3, h4, h5, h6, h7, h8⟩ := h
  have hl : ((xs.take hi).drop lo).length = hi - lo := by simp; omega
  have e1 : xs = (xs.take hi).take lo ++ (((xs.take hi).drop lo) ++ xs.drop hi) := by rw [← List.append_assoc, List.take_append_drop, List.take_append_drop]
  rw [e1] at h8
  have h9 := h8.split.2
  have hl2 : ((xs.take hi).take lo).length = lo := by simp; omega
  rw [hl2] at h9
  have h10 := h9.split.1
  rw [hl] at h10
  refine ⟨if cap = lo then a else a.map (·.add (lo * T.n)), cap - lo, _, ?_, ?_, by omega, ?_, ?_, ?_, h10⟩
  · simp only [subz, hl]
  · rw [hl]; omega
  · intro h
    split at h
    · omega
    · cases a with
      | none => have := h5 rfl; omega
      | some p => simp at h
  · intro p hp hx
    have hne : cap ≠ lo := by intro hc; apply hx; apply List.eq_nil_of_length_eq_zero; omega
    rw [if_neg hne] at hp
    cases a with
    | none => simp at hp
    | some q =>
      simp at hp
      subst hp
      rw [Addr.add_block]
      exact h6 q rfl (by rintro rfl; simp at hx)
  · intro p hp j u hu
    have hj := (List.getElem?_eq_some_iff.1 hu).1
    simp only [List.length_take, List.length_drop] at hj
    have hne : cap ≠ lo := by
      intro hc
      have : hi - lo = 0 := by omega
      rw [this] at hj; simp at hj
    rw [if_neg hne] at hp
    cases a with
    | none => simp at hp
    | some q =>
      simp at hp
      subst hp
      rw [Addr.add_add]
      refine h7 q rfl _ u ?_
      rw [List.getElem?_take, if_pos (by omega), List.getElem?_drop] at hu
      exact hu

/-- Cells of an element: from k on behind v's first one. -/
def At (w : World) (v : Value) (k : Nat) (c : List Value) : Prop := ∃ p l cp, v = .slice (some p) l cp ∧ ∀ j u, c[j]? = some u → w.cell? (p.add (k + j)) = some u
theorem Ls.get {v : Value} {xs : List α} {i : Nat} {x : α} (h : Ls T w Q v xs) (hi : xs[i]? = some x) : ∃ c, T.rep w Q c x ∧ At w v (i * T.n) c := by
  obtain ⟨a, cap, cs, rfl, h1, h2, h3, h4, h5, h6⟩ := h
  obtain ⟨c, hc, hj⟩ := h6.get hi
  cases a with
  | none =>
    have := h3 rfl
    have := (List.getElem?_eq_some_iff.1 hi).1
    omega
  | some p => exact ⟨c, hc, p, _, cap, rfl, fun j u hu => h5 p rfl _ u (hj j u hu)⟩
theorem At.md0 {v : Value} {k : Nat} {c : List Value} (h : At w v k c) (m : Md [] w w') : At w' v k c := by
  obtain ⟨p, l, cp, h0, h1⟩ := h
  exact ⟨p, l, cp, h0, fun j u hj => m.cell (h1 j u hj) (by simp)⟩

/-- A row of the run's own, of elements; no datum that is let looks into it. -/
def Ow (T : Dt α) (e : TypeId) (lo : Nat → Prop) (w : World) (Q : Nat → Prop) (v : Value) (xs : List α) : Prop :=
  (∃ cs, Own w e T.n v xs.length cs ∧ Els T w Q cs xs) ∧ ∀ b, vblock v = some b → lo b ∧ ¬ Q b
theorem Ow.nil (T : Dt α) (e : TypeId) (lo : Nat → Prop) (w : World) (Q : Nat → Prop) : Ow T e lo w Q (.slice none 0 0) [] := ⟨⟨[], Own.nil w e _, rfl⟩, by simp [vblock]⟩
theorem Ow.md {e : TypeId} {lo : Nat → Prop} {S : List Nat} {v : Value} {xs : List α} (h : Ow T e lo w Q v xs) (m : Md S w w') (hv : ∀ b, vblock v = some b → b ∉ S) (hs : ∀ b ∈ S, ¬ Q b) : Ow T e lo w' Q v xs := by
  obtain ⟨⟨cs, h1, h2⟩, h3⟩ := h
  exact ⟨⟨cs, h1.md m hv, h2.md m hs⟩, h3⟩
theorem Ow.md0 {e : TypeId} {lo : Nat → Prop} {v : Value} {xs : List α} (h : Ow T e lo w Q v xs) (m : Md [] w w') : Ow T e lo w' Q v xs := h.md m (by simp) (by simp)
theorem Ow.lt {e : TypeId} {lo : Nat → Prop} {v : Value} {xs : List α} (h : Ow T e lo w Q v xs) : ∀ b, vblock v = some b → b < w.heap.size := by obtain ⟨⟨cs, h1, h2⟩, h3⟩ := h; exact h1.lt
theorem Ow.sub {e : TypeId} {lo : Nat → Prop} {v : Value} {xs : List α} (h : Ow T e lo w Q v xs) (s : ∀ b, Q b → b < w.heap.size → Q' b) (t : ∀ b, Q' b → Q b) : Ow T e lo w Q' v xs := by
  obtain ⟨⟨cs, h1, h2⟩, h3⟩ := h
  exact ⟨⟨cs, h1, h2.sub s⟩, fun b hb => ⟨(h3 b hb).1, fun hq => (h3 b hb).2 (t b hq)⟩⟩
theorem own_cells {e : TypeId} {sz m : Nat} {v : Value} {cs : List Value} (h : Own w e sz v m cs) : ∃ a cap, v = .slice a m cap ∧ m ≤ cap ∧ cap ≤ maxLen ∧ (a = none → cap = 0) ∧ ∀ p, a = some p → ∀ j u, cs[j]? = some u → w.cell? (p.add j) = some u := by
  rcases h.2 with ⟨rfl, rfl⟩ | ⟨g, cap, cur, rfl, hb, hg, hn, hc, hs, ht⟩
  · exact ⟨none, 0, rfl, Nat.le_refl _, by simp [maxLen], fun _ => rfl, by simp⟩
  · exact ⟨some ⟨g, 0, none⟩, cap, rfl, hn, hc, by simp, fun p hp j u hu => by cases hp; exact World.ownsRow.cells h (g := g) rfl j u hu⟩
/-- An own row, as data: it lies among what is let then. -/
theorem Ow.ls {e : TypeId} {lo : Nat → Prop} {v : Value} {xs : List α} (h : Ow T e lo w Q v xs) (t : ∀ b, Q b → Q' b) (u : ∀ b, lo b → Q' b) : Ls T w Q' v xs := by
  obtain ⟨⟨cs, h1, h2⟩, h3⟩ := h
  obtain ⟨a, cap, rfl, h4, h5, h6, h7⟩ := own_cells h1
  exact ⟨a, cap, cs, rfl, h4, h5, h6, fun p hp _ => u _ (h3 _ (by subst hp; rfl)).1, h7, h2.sub fun b hb _ => t b hb⟩
theorem Ow.get {e : TypeId} {lo : Nat → Prop} {v : Value} {xs : List α} {i : Nat} {x : α} (h : Ow T e lo w Q v xs) (hi : xs[i]? = some x) : ∃ c, T.rep w Q c x ∧ At w v (i * T.n) c := by
  obtain ⟨⟨cs, h1, h2⟩, _⟩ := h
  obtain ⟨a, cap, rfl, h4, h5, h6, h7⟩ := own_cells h1
  obtain ⟨c, hc, hj⟩ := h2.get hi
  cases a with
  | none =>
    have := h6 rfl
    have := (List.getElem?_eq_some_iff.1 hi).1
    omega
  | some p => exact ⟨c, hc, p, _, cap, rfl, fun j u hu => h7 p rfl _ u (hj j u hu)⟩
/-- An own row, to be read at once. -/
theorem Ow.read {e : TypeId} {lo : Nat → Prop} {v : Value} {xs : List α} (h : Ow T e lo w Q v xs) : Ls T w (fun b => Q b ∨ lo b) v xs := h.ls (fun _ => .inl) (fun _ => .inr)
theorem Ow.shp {e : TypeId} {lo : Nat → Prop} {v : Value} {xs : List α} (h : Ow T e lo w Q v xs) : Shp v xs.length := h.read.shp
theorem Ow.oneCell {e : TypeId} {lo : Nat → Prop} {v : Value} {xs : List α} (h : Ow T e lo w Q v xs) : v.oneCell' = true := h.read.oneCell
end

/-- What is made from now on is let. -/
def Up (w : World) (Q : Nat → Prop) : Prop := ∀ b, w.heap.size ≤ b → Q b
theorem Up.md {S : List Nat} {w w' : World} {Q : Nat → Prop} (u : Up w Q) (m : Md S w w') : Up w' Q := fun b hb => u b (Nat.le_trans m.size hb)
/-- A new block of the run's own: it is let no more. -/
theorem exQ {Q : Nat → Prop} {w w' : World} {b : Nat} (u : Up w Q) (h1 : w.heap.size ≤ b) (h2 : b < w'.heap.size) (m : Md [] w w') :
    ∃ Q' : Nat → Prop, (∀ x, Q x → x < w.heap.size → Q' x) ∧ (∀ x, Q' x → Q x) ∧ ¬ Q' b ∧ Up w' Q' :=
  ⟨fun x => Q x ∧ x ≠ b, fun x hx hl => ⟨hx, by omega⟩, fun x hx => hx.1, fun h => h.2 rfl, fun x hx => ⟨u x (Nat.le_trans m.size hx), by omega⟩⟩
end Go.Wk
namespace Go.Wk
open Go Go.RowKit

def lim : IntKind → Nat
  | .u8 => 256 | .u16 => 65536 | .u32 => 4294967296 | .u64 => 18446744073709551616
  | .i8 => 128 | .i16 => 32768 | .i32 => 2147483648 | .i64 => 9223372036854775808
theorem wrapN (k : IntKind) (x : Nat) (h : x < lim k) : k.wrap (x : Int) = x := by
  cases k <;> simp [IntKind.wrap, IntKind.bits, IntKind.signed, lim] at * <;> omega
theorem RunV.to {P : Program} {w : World} {o : Oper} {e : Operand → Value} {a b : Value} (h : RunV P o e w a) (he : a = b) : RunV P o e w b := he ▸ h

section
variable {P : Program} {n : Nat} {A : Fr n} {D : List Deferred} {l : List (Nat × Value)} {w : World}
variable {d : Option Tmp} {ty : TypeId} {ps : String} {af : Array Edge} {g : Option (Nat × Bool)}
variable {x y : Operand} {t u : TypeId} {k j : IntKind} {a b : Nat}

theorem r_addN (L : Nat) (hL : lim k = L) (hx : ev n l x = some (.int k (a : Int))) (hy : ev n l y = some (.int k (b : Int))) (h : a + b < L) :
    RunV P ⟨d, .binOp .add t x y u, ty, ps, af, g⟩ (over A D l).eval w (.int k ((a + b : Nat) : Int)) :=
  (r_add hx hy).castI (by rw [← wrapN k (a + b) (hL ▸ h)]; rfl)
theorem r_mulN (L : Nat) (hL : lim k = L) (hx : ev n l x = some (.int k (a : Int))) (hy : ev n l y = some (.int k (b : Int))) (h : a * b < L) :
    RunV P ⟨d, .binOp .mul t x y u, ty, ps, af, g⟩ (over A D l).eval w (.int k ((a * b : Nat) : Int)) :=
  (r_mul hx hy).castI (by rw [← wrapN k (a * b) (hL ▸ h), Int.natCast_mul])
theorem r_eqN (hx : ev n l x = some (.int k (a : Int))) (hy : ev n l y = some (.int k (b : Int))) : RunV P ⟨d, .binOp .eql t x y u, ty, ps, af, g⟩ (over A D l).eval w (.bool (decide (a = b))) :=
  (r_eq hx hy).castB (decide_eq_decide.2 (by omega))
theorem r_neN (hx : ev n l x = some (.int k (a : Int))) (hy : ev n l y = some (.int k (b : Int))) : RunV P ⟨d, .binOp .neq t x y u, ty, ps, af, g⟩ (over A D l).eval w (.bool (decide (a ≠ b))) :=
  (r_ne hx hy).castB (decide_eq_decide.2 (by omega))
theorem r_ltN (hx : ev n l x = some (.int k (a : Int))) (hy : ev n l y = some (.int k (b : Int))) : RunV P ⟨d, .binOp .lss t x y u, ty, ps, af, g⟩ (over A D l).eval w (.bool (decide (a < b))) :=
  (r_lt hx hy).castB (decide_eq_decide.2 (by omega))
theorem r_leN (hx : ev n l x = some (.int k (a : Int))) (hy : ev n l y = some (.int k (b : Int))) : RunV P ⟨d, .binOp .leq t x y u, ty, ps, af, g⟩ (over A D l).eval w (.bool (decide (a ≤ b))) :=
  (r_le hx hy).castB (decide_eq_decide.2 (by omega))
theorem r_gtN (hx : ev n l x = some (.int k (a : Int))) (hy : ev n l y = some (.int k (b : Int))) : RunV P ⟨d, .binOp .gtr t x y u, ty, ps, af, g⟩ (over A D l).eval w (.bool (decide (b < a))) :=
  (r_gt hx hy).castB (decide_eq_decide.2 (by omega))
theorem r_geN (hx : ev n l x = some (.int k (a : Int))) (hy : ev n l y = some (.int k (b : Int))) : RunV P ⟨d, .binOp .geq t x y u, ty, ps, af, g⟩ (over A D l).eval w (.bool (decide (b ≤ a))) :=
  (r_ge hx hy).castB (decide_eq_decide.2 (by omega))
theorem r_minN (hx : ev n l x = some (.int k (a : Int))) (hy : ev n l y = some (.int j (b : Int))) {ts : Array TypeId} :
    RunV P ⟨d, .call { callee := .builtin .min, args := #[x, y], argTypes := ts }, ty, ps, af, g⟩ (over A D l).eval w (.int k ((min a b : Nat) : Int)) :=
  (r_min hx hy).castI (by split <;> omega)
theorem r_maxZ {a b : Int} (hx : ev n l x = some (.int k a)) (hy : ev n l y = some (.int j b)) {ts : Array TypeId} :
    RunV P ⟨d, .call { callee := .builtin .max, args := #[x, y], argTypes := ts }, ty, ps, af, g⟩ (over A D l).eval w (.int k (if a < b then b else a)) := by
  simp [RunV, execOp, ev_eval hx, ev_eval hy, resolve, invoke, builtin, Builtin.max_, Builtin.max2]
theorem r_maxN (hx : ev n l x = some (.int k (a : Int))) (hy : ev n l y = some (.int j (b : Int))) {ts : Array TypeId} :
    RunV P ⟨d, .call { callee := .builtin .max, args := #[x, y], argTypes := ts }, ty, ps, af, g⟩ (over A D l).eval w (.int k ((max a b : Nat) : Int)) :=
  (r_maxZ hx hy).castI (by split <;> omega)
/-! data -/
variable {α : Type} {T : Dt α} {Q : Nat → Prop} {v : Value} {xs : List α}
theorem r_indexN {e : TypeId} {m i : Nat} (sz : Nat) (hx : ev n l x = some v) (hy : ev n l y = some (.int k (i : Int))) (hT : P.underlying t = some (.slice e)) (hE : elemIs P e sz = true) (hS : Shp v m) (hi : i < m) :
    RunV P ⟨d, .indexAddr t x y, ty, ps, af, g⟩ (over A D l).eval w (elemp v (i * sz)) := by
  have := r_indexZ (P := P) (A := A) (D := D) (w := w) (d := d) (ty := ty) (ps := ps) (af := af) (g := g) sz hx hy hT hE hS (by omega)
  simpa using this
theorem elemp_at {kk : Nat} {c : List Value} (h : At w v kk c) : ∃ p : Addr, (∀ m, elemp v m = .pointer (some (p.add m))) ∧ ∀ j u, c[j]? = some u → w.cell? (p.add (kk + j)) = some u := by
  obtain ⟨p, l, cp, rfl, h1⟩ := h
  exact ⟨p, fun _ => rfl, h1⟩
theorem r_fieldE {s : TypeId} {f m off kk : Nat} {c : List Value} (hx : ev n l x = some (elemp v m)) (hA : At w v kk c) (hf : fieldOff P s f = some off) :
    RunV P ⟨d, .fieldAddr s x f, ty, ps, af, g⟩ (over A D l).eval w (elemp v (m + off)) := by
  obtain ⟨p, hp, _⟩ := elemp_at hA
  rw [hp] at hx ⊢
  unfold fieldOff at hf
  split at hf
  · rename_i fs hfs
    split at hf
    · rename_i fd hfd
      split at hf
      · rename_i inf hinf
        split at hf
        · cases hf
        · rename_i hz
          simp only [Option.some.injEq] at hf
          subst hf
          simp [RunV, execOp, ev_eval hx, Instr.fieldAt, Instr.sureAddr, run_underlying hfs, hfd, fieldPlace, run_sizeOf hinf, hz, Addr.add_add]
      · cases hf
    · cases hf
  · cases hf
theorem r_loadE {m kk : Nat} {c : List Value} {r : Value} (j : Nat) (hx : ev n l x = some (elemp v m)) (hm : m = kk + j) (hT : isOne P t = true) (hA : At w v kk c) (hj : c[j]? = some r) :
    RunV P ⟨d, .load t x, ty, ps, af, g⟩ (over A D l).eval w r := by
  obtain ⟨p, hp, h1⟩ := elemp_at hA
  rw [hp] at hx
  exact r_load hx hT (by rw [hm]; exact h1 j r hj)
theorem r_loadEA {m kk : Nat} {c : List Value} (cs : List Value) (o : Nat) (hx : ev n l x = some (elemp v m)) (hm : m = kk + o) (hT : isAggN P t cs.length = true) (hA : At w v kk c) (hc : (c.drop o).take cs.length = cs) :
    RunV P ⟨d, .load t x, ty, ps, af, g⟩ (over A D l).eval w (.agg cs.toArray) := by
  obtain ⟨p, hp, h1⟩ := elemp_at hA
  rw [hp] at hx
  refine r_loadAgg hx hT rfl fun j r hj => ?_
  have hl := (List.getElem?_eq_some_iff.1 hj).1
  rw [Addr.add_add, hm, Nat.add_assoc]
  refine h1 _ r ?_
  rw [← hc, List.getElem?_take, if_pos hl, List.getElem?_drop] at hj
  exact hj
/-- A part of a block, read. -/
theorem r_loadPart {ty' : TypeId} {b' o : Nat} {c : List Value} (cs : List Value) (hx : ev n l x = some (.pointer (some ⟨b', o, none⟩))) (hT : isAggN P t cs.length = true) (hB : Blk w b' c ty') (hc : (c.drop o).take cs.length = cs) :
    RunV P ⟨d, .load t x, ty, ps, af, g⟩ (over A D l).eval w (.agg cs.toArray) := by
  refine r_loadAgg hx hT rfl fun j r hj => ?_
  have hl := (List.getElem?_eq_some_iff.1 hj).1
  rw [Addr.add_mk, hB.cell]
  rw [← hc, List.getElem?_take, if_pos hl, List.getElem?_drop] at hj
  exact hj
theorem r_sliceZ {lo hi : Option Operand} {m e : Nat} (sz L H : Nat) (hT : P.underlying t = some (.slice e)) (hE : elemIs P e sz = true) (hx : ev n l x = some v)
    (hS : Shp v m) (h1 : L ≤ H) (h2 : H ≤ m)
    (hlo : match lo with | none => L = 0 | some y => ∃ k, ev n l y = some (.int k (L : Int))) (hhi : match hi with | none => H = m | some y => ∃ k, ev n l y = some (.int k (H : Int))) :
    RunV P ⟨d, .slice t x lo hi none, ty, ps, af, g⟩ (over A D l).eval w (subz sz v L H) := by
  obtain ⟨a, cap, rfl, h3, h4, h5⟩ := hS
  unfold elemIs at hE
  split at hE
  · rename_i inf hinf
    have hsz : inf.size = sz := by simpa using hE
    have hc : H ≤ cap := by omega
    cases lo with
    | none =>
      simp only at hlo; subst hlo
      cases hi with
      | none =>
        simp only at hhi; subst hhi
        simp [RunV, execOp, ev_eval hx, Instr.sliceAt, Instr.slice, Instr.sliceBounds, run_underlying hT, run_sizeOf hinf, subz, hsz]
      | some y =>
        simp only at hhi; obtain ⟨k, hk⟩ := hhi
        simp [RunV, execOp, ev_eval hx, ev_eval hk, Instr.sliceAt, Instr.slice, Instr.sliceBounds, Instr.sliceBound, asIntOf, run_underlying hT, run_sizeOf hinf, subz, hsz, hc]
    | some z =>
      simp only at hlo; obtain ⟨j, hj⟩ := hlo
      cases hi with
      | none =>
        simp only at hhi; subst hhi
        simp [RunV, execOp, ev_eval hx, ev_eval hj, Instr.sliceAt, Instr.slice, Instr.sliceBounds, Instr.sliceBound, asIntOf, run_underlying hT, run_sizeOf hinf, subz, hsz, h1]
      | some y =>
        simp only at hhi; obtain ⟨k, hk⟩ := hhi
        simp [RunV, execOp, ev_eval hx, ev_eval hj, ev_eval hk, Instr.sliceAt, Instr.slice, Instr.sliceBounds, Instr.sliceBound, asIntOf, run_underlying hT, run_sizeOf hinf, subz, hsz, h1, hc]
  · cases hE
end
end Go.Wk
namespace Go.Wk
open Go Go.RowKit

theorem fold_splice : ∀ (us : List Value) (k o : Nat) (cs : List Value), o + k + us.length ≤ cs.length →
    (us.zipIdx k).foldl (fun (cs : Array Value) (x : Value × Nat) => cs.setIfInBounds (o + x.2) x.1) cs.toArray = (splice cs (o + k) us).toArray
  | [], k, o, cs, _ => by simp [splice]
  | u :: us, k, o, cs, h => by
    simp only [List.length_cons] at h
    rw [List.zipIdx_cons, List.foldl_cons]
    simp only [List.setIfInBounds_toArray]
    rw [fold_splice us (k + 1) o (cs.set (o + k) u) (by simp; omega)]
    congr 1
    unfold splice
    have h1 : (cs.set (o + k) u).take (o + (k + 1)) = cs.take (o + k) ++ [u] := by
      rw [show o + (k + 1) = (o + k) + 1 by omega, List.take_add_one]
      simp [show o + k < cs.length by omega, List.take_set_of_le]
    have h2 : (cs.set (o + k) u).drop (o + (k + 1) + us.length) = cs.drop (o + k + (us.length + 1)) := by
      rw [List.drop_set_of_lt (by omega)]
      congr 1; omega
    rw [h1, h2]
    simp
theorem fold_cells {v : Value} {us : List Value} (hv : v.cells = us.toArray) (o : Nat) (cs : List Value) (h : o + us.length ≤ cs.length) :
    v.cells.zipIdx.foldl (fun (cs : Array Value) (x : Value × Nat) => cs.setIfInBounds (o + x.2) x.1) cs.toArray = (splice cs o us).toArray := by
  have := fold_splice us 0 o cs (by omega)
  rw [hv]
  simpa [← Array.foldl_toList] using this

def CellsAre : List Value → List (List Value) → Prop
  | [], [] => True
  | v :: vs, u :: us => v.cells = u.toArray ∧ CellsAre vs us
  | _, _ => False
def splices (cs : List Value) : List (Nat × Nat × Nat) → List (List Value) → List Value
  | (_, o, _) :: ps, u :: us => splices (splice cs o u) ps us
  | _, _ => cs
def szOk : List (Nat × Nat × Nat) → List (List Value) → Prop
  | [], [] => True
  | (_, _, s) :: ps, u :: us => u.length = s ∧ szOk ps us
  | _, _ => False
theorem splice_len {cs us : List Value} {o : Nat} (h : o + us.length ≤ cs.length) : (splice cs o us).length = cs.length := by simp [splice]; omega
theorem fill_gen {place : Nat → Option (Nat × Nat)} : ∀ (ps : List (Nat × Nat × Nat)) (vs : List Value) (us : List (List Value)) (cs : List Value), CellsAre vs us → szOk ps us → (∀ p ∈ ps, place p.1 = some (p.2.1, p.2.2) ∧ p.2.1 + p.2.2 ≤ cs.length) →
    Instr.fill place cs.toArray ((ps.map (·.1)).zip vs) = some (splices cs ps us).toArray
  | [], [], [], cs, _, _, _ => by simp [Instr.fill, splices]
  | [], [], _ :: _, _, h, _, _ => by simp [CellsAre] at h
  | [], _ :: _, [], _, h, _, _ => by simp [CellsAre] at h
  | [], _ :: _, _ :: _, _, _, h, _ => by simp [szOk] at h
  | _ :: _, _, [], _, _, h, _ => by simp [szOk] at h
  | _ :: _, [], _ :: _, _, h, _, _ => by simp [CellsAre] at h
  | (i, o, s) :: ps, v :: vs, u :: us, cs, ⟨h1, h2⟩, ⟨h3, h4⟩, hp => by
    obtain ⟨h5, h6⟩ := hp (i, o, s) (by simp)
    simp only at h5 h6
    have hs : v.cells.size = s := by rw [h1]; simpa using h3
    have hl : o + u.length ≤ cs.length := by omega
    have ih := fill_gen (place := place) ps vs us (splice cs o u) h2 h4 (fun p hp' => by rw [splice_len hl]; exact hp p (by simp [hp']))
    simp only [List.map_cons, List.zip_cons_cons, Instr.fill, h5]
    rw [if_neg (by simp [hs]; omega), fold_cells h1 o cs hl]
    simpa [splices] using ih
def plOk (pl : List (Nat × Nat)) (m : Nat) : List (Nat × Nat × Nat) → Bool
  | [] => true
  | (i, o, s) :: r => (match pl[i]? with
    | some (o', s') => Nat.beq o' o && Nat.beq s' s && Nat.ble (o + s) m
    | none => false) && plOk pl m r
theorem plOk_spec {pl : List (Nat × Nat)} {m : Nat} : ∀ {ps : List (Nat × Nat × Nat)}, plOk pl m ps = true → ∀ p ∈ ps, pl[p.1]? = some (p.2.1, p.2.2) ∧ p.2.1 + p.2.2 ≤ m
  | [], _, p, hp => by cases hp
  | (i, o, s) :: r, h, p, hp => by
    simp only [plOk, Bool.and_eq_true] at h
    rcases List.mem_cons.1 hp with rfl | hp'
    · cases hq : pl[i]? with
      | none => rw [hq] at h; simp at h
      | some q =>
        obtain ⟨o', s'⟩ := q
        rw [hq] at h
        simp only [Bool.and_eq_true] at h
        obtain ⟨⟨⟨h1, h2⟩, h3⟩, _⟩ := h
        have e1 := Nat.eq_of_beq_eq_true h1
        have e2 := Nat.eq_of_beq_eq_true h2
        subst e1; subst e2
        exact ⟨rfl, Nat.le_of_ble_eq_true h3⟩
    · exact plOk_spec h.2 p hp'

section
variable {P : Program} {ops : Array Oper} {Q : Exit → Act → World → Prop} {rest : List Oper}
variable {n : Nat} {A : Fr n} {D : List Deferred} {l : List (Nat × Value)} {w : World}
variable {d : Tmp} {op : Op} {ty : TypeId} {ps : String} {af : Array Edge} {g : Option (Nat × Bool)}

theorem built_gen {t : TypeId} {zs vs : List Value} {us : List (List Value)} {pl : List (Nat × Nat)} {ps : List (Nat × Nat × Nat)} (hz : zcells P t = some zs) (hpl : bplace P t = some pl) (hc : CellsAre vs us) (hs : szOk ps us) (hps : plOk pl zs.length ps = true) :
    P.built t ((ps.map (·.1)).zip vs) = some (splices zs ps us).toArray := by
  have hp := plOk_spec hps
  unfold zcells at hz
  cases hi : P.info? t with
  | none => simp [hi] at hz
  | some it =>
    cases hzz : it.zero with
    | none => simp [hi, hzz] at hz
    | some z =>
      simp only [hi, hzz, Option.some.injEq] at hz
      have hzc : z.cells = zs.toArray := by rw [← hz]
      unfold bplace at hpl
      unfold Program.built
      cases hu : P.underlying t with
      | none => simp [hu] at hpl
      | some d =>
        cases d <;> try (simp [hu] at hpl; done)
        case array m e =>
          cases hie : P.info? e with
          | none => simp [hu, hie] at hpl
          | some ie =>
            simp only [hu, hie, Option.some.injEq] at hpl
            simp only [hi, hzz, hie, hzc]
            refine fill_gen ps vs us zs hc hs (fun p hp' => ?_)
            obtain ⟨h2, h3⟩ := hp p hp'
            rw [← hpl, List.getElem?_map] at h2
            have hr : (List.range m)[p.1]? = some p.1 := by
              cases hq : (List.range m)[p.1]? with
              | none => rw [hq] at h2; simp at h2
              | some q => have := List.getElem?_eq_some_iff.1 hq; obtain ⟨ha, hb⟩ := this; simp at hb; rw [← hb]
            rw [hr] at h2
            simp only [Option.map_some, Option.some.injEq, Prod.mk.injEq] at h2
            exact ⟨by rw [h2.1, h2.2], h3⟩
        case struct fields =>
          simp only [hu] at hpl
          simp only [hi, hzz, hpl, hzc]
          refine fill_gen ps vs us zs hc hs (fun p hp' => ?_)
          obtain ⟨h2, h3⟩ := hp p hp'
          exact ⟨by simpa using h2, h3⟩
/-- A struct or an array, of parts of any number of cells. -/
theorem r_buildG {t : TypeId} {parts : List (Nat × Operand)} {zs vs cs : List Value} {us : List (List Value)} {pl : List (Nat × Nat)} (ps : List (Nat × Nat × Nat)) {d' : Option Tmp} {ps' : String} (hz : zcells P t = some zs) (hpl : bplace P t = some pl) (hpp : parts.map (·.1) = ps.map (·.1)) (hev : evs n l (parts.map (·.2)) = some vs)
    (hc : CellsAre vs us) (hs : szOk ps us) (hps : plOk pl zs.length ps = true) (hcs : splices zs ps us = cs) :
    RunV P ⟨d', .build t parts.toArray, ty, ps', af, g⟩ (over A D l).eval w (.agg cs.toArray) := by
  have he := evs_eval (A := A) (D := D) hev
  have hzip : parts.map (fun p => (p.1, (over A D l).eval p.2)) = (ps.map (·.1)).zip vs := by
    rw [← hpp, ← he, List.map_map, List.zip_map']
    rfl
  have hb := built_gen hz hpl hc hs hps
  rw [← hzip] at hb
  have hr := run_build (P := P) w t (parts.map (fun p => (p.1, (over A D l).eval p.2))).toArray _ (by simpa using hb)
  subst hcs
  simp only [RunV, execOp, List.map_toArray]
  show Sem.run P (do pure (Next.value (← Instr.build t (parts.map fun x => (x.1, (over A D l).eval x.2)).toArray))) w = _
  simp [hr]

def rowAt (sz : Nat) : Nat → Nat → List (Nat × Nat × Nat)
  | _, 0 => []
  | i, k + 1 => (i, i * sz, sz) :: rowAt sz (i + 1) k
def AllLen (sz : Nat) : List (List Value) → Prop
  | [] => True
  | u :: us => u.length = sz ∧ AllLen sz us
theorem rowAt_sz {sz : Nat} : ∀ (us : List (List Value)) (i : Nat), AllLen sz us → szOk (rowAt sz i us.length) us
  | [], _, _ => trivial
  | _ :: us, i, h => ⟨h.1, rowAt_sz us (i + 1) h.2⟩
theorem mem_rowAt {sz : Nat} {p : Nat × Nat × Nat} : ∀ {i k : Nat}, p ∈ rowAt sz i k → p.2.1 = p.1 * sz ∧ p.2.2 = sz ∧ p.1 < i + k
  | _, 0, h => by cases h
  | i, k + 1, h => by
    rcases List.mem_cons.1 h with rfl | h
    · exact ⟨rfl, rfl, by simp⟩
    · have := mem_rowAt h; omega
theorem splices_row {sz : Nat} : ∀ (us : List (List Value)) (i : Nat) (pre cs : List Value), AllLen sz us → pre.length = i * sz → cs.length = us.length * sz → splices (pre ++ cs) (rowAt sz i us.length) us = pre ++ us.flatten
  | [], i, pre, cs, _, _, h => by
    have : cs = [] := List.eq_nil_of_length_eq_zero (by simpa using h)
    subst this; simp [rowAt, splices]
  | u :: us, i, pre, cs, h, hp, hc => by
    simp only [List.length_cons, rowAt, splices]
    have hc' : cs.length = sz + us.length * sz := by simpa [Nat.succ_mul, Nat.add_comm] using hc
    have e : splice (pre ++ cs) (i * sz) u = (pre ++ u) ++ cs.drop sz := by
      simp only [splice, ← hp, h.1]
      rw [List.take_left, List.drop_append, List.drop_of_length_le (Nat.le_add_right _ _), Nat.add_sub_cancel_left]
      simp
    rw [e, splices_row us (i + 1) (pre ++ u) (cs.drop sz) h.2 (by simp [hp, h.1, Nat.succ_mul]) (by simp; omega)]
    simp
/-- []T{x, y, ..}, all given. -/
theorem st_buildSliceG {t e : TypeId} {m sz by' : Nat} {parts : List (Nat × Operand)} {vs : List Value} (us : List (List Value)) (ht : P.underlying t = some (.slice e)) (hE : elT P e sz by' = true) (hsz : 0 < sz) (hm : m * sz ≤ 16777216) (hpp : parts.map (·.1) = (rowAt sz 0 m).map (·.1)) (hev : evs n l (parts.map (·.2)) = some vs)
    (hc : CellsAre vs us) (hl : AllLen sz us) (hlen : us.length = m) (h0 : m ≠ 0)
    (k : ∀ b w', w.heap.size ≤ b → b < w'.heap.size → Md [] w w' → Blk w' b us.flatten e → wpList P ops Q rest (over A D ((d, .slice (some ⟨b, 0, none⟩) m m) :: l)) w') :
    wpList P ops Q (⟨some d, .buildSlice t m parts.toArray, ty, ps, af, none⟩ :: rest) (over A D l) w := by
  refine wl_plain rfl ?_
  obtain ⟨i, z, hi, hz, hs, hb, hzs⟩ := elT_spec hE
  have he := evs_eval (A := A) (D := D) hev
  have hzip : parts.map (fun p => (p.1, (over A D l).eval p.2)) = ((rowAt sz 0 m).map (·.1)).zip vs := by
    rw [← hpp, ← he, List.map_map, List.zip_map']
    rfl
  have hfill : ∀ cs : List Value, cs.length = m * sz → Instr.fill (fun i => some (i * sz, sz)) cs.toArray (((rowAt sz 0 m).map (·.1)).zip vs) = some us.flatten.toArray := by
    intro cs hcs
    have := fill_gen (place := fun i => some (i * sz, sz)) (rowAt sz 0 m) vs us cs hc (by rw [← hlen]; exact rowAt_sz us 0 hl) (fun p hp => by
      have h := mem_rowAt hp
      refine ⟨by rw [h.1, h.2.1], ?_⟩
      rw [h.1, h.2.1, hcs, ← Nat.succ_mul]
      exact Nat.mul_le_mul_right _ (by omega))
    have h2 := splices_row us 0 [] cs hl (by simp) (by rw [hcs, hlen])
    simp only [List.nil_append] at h2
    rw [hlen] at h2
    rw [this, h2]
  have hne : ¬ (m * sz = 0) := Nat.mul_ne_zero h0 (by omega)
  have hrun : (execOp (over A D l).eval ⟨some d, .buildSlice t m parts.toArray, ty, ps, af, none⟩).run P w = .ok (.value (.slice (some ⟨w.heap.size, 0, none⟩) m m)) (w.alloc (.cells us.flatten.toArray e)) := by
    show Sem.run P (do pure (Next.value (← Instr.buildSlice t m ((parts.toArray).map fun x => (x.1, (over A D l).eval x.2))))) w = _
    rw [List.map_toArray, hzip]
    have hl2 : ((List.range (m * sz)).map fun x => (z.cells)[x % z.cells.size]!).length = m * sz := by simp
    have := hfill _ hl2
    simp only [Instr.buildSlice, Sem.run_bind, run_underlying ht, Result.andThen_ok, run_sizeOf hi, hs]
    have e2 : Array.map (fun x => z.cells[x % z.cells.size]!) (Array.range (m * sz)) = ((List.range (m * sz)).map fun x => (z.cells)[x % z.cells.size]!).toArray := by
      apply Array.ext'
      simp
    simp only [show ¬ (m * sz > 2 ^ 24) from by omega, if_neg hne, if_false]
    simp [zeroValue, typeInfo, hi, hz, newRow]
    rw [e2, this]
    simp
  unfold Oper.wp
  rw [hrun]
  exact k _ _ (Nat.le_refl _) (by simp) (Md.alloc w _) (Blk.new w us.flatten e)
/-! rows of the run's own -/
theorem Own.blk {e : TypeId} {sz m : Nat} {v : Value} {cs : List Value} (h : Own w e sz v m cs) (h0 : 0 < m) : ∃ b cap cur, v = .slice (some ⟨b, 0, none⟩) m cap ∧ Blk w b cur e ∧ m ≤ cap ∧ cap ≤ maxLen ∧ cur.length = cap * sz ∧ cur.take (m * sz) = cs := by
  rcases h.2 with ⟨rfl, rfl⟩ | ⟨g, cap, cur, rfl, hb, hg, hn, hc, hs, ht⟩
  · omega
  · exact ⟨g, cap, cur.toList, rfl, hg, hn, hc, by simpa using hs, ht⟩
theorem Own.of_blk {e : TypeId} {sz m b cap : Nat} {cur : List Value} (hB : Blk w b cur e) (h1 : m ≤ cap) (h2 : cap ≤ maxLen) (h3 : cur.length = cap * sz) : Own w e sz (.slice (some ⟨b, 0, none⟩) m cap) m (cur.take (m * sz)) := by
  refine ⟨by rw [List.length_take, h3]; exact Nat.min_eq_left (Nat.mul_le_mul_right _ h1), .inr ⟨b, cap, cur.toArray, rfl, Nat.zero_le _, hB, h1, h2, by simpa using h3, by simp⟩⟩
variable {α : Type} {T : Dt α} {R R' : Nat → Prop}
/-- What can be read of a row: its block may be one that is written. -/
def Lz (T : Dt α) (w : World) (Q : Nat → Prop) (v : Value) (xs : List α) : Prop :=
  ∃ a cap cs, v = .slice a xs.length cap ∧ xs.length ≤ cap ∧ cap ≤ maxLen ∧ (a = none → cap = 0) ∧ (∀ p, a = some p → ∀ j u, cs[j]? = some u → w.cell? (p.add j) = some u) ∧ Els T w Q cs xs
theorem Ls.lz {v : Value} {xs : List α} (h : Ls T w R v xs) : Lz T w R v xs := by
  obtain ⟨a, cap, cs, h0, h1, h2, h3, h4, h5, h6⟩ := h
  exact ⟨a, cap, cs, h0, h1, h2, h3, h5, h6⟩
/-- append(x, y...): x the run's own. -/
theorem st_apZ {x y : Operand} {t e : TypeId} {sz by' : Nat} {lo : Nat → Prop} {v u : Value} {xs ys : List α} (hn : T.n = sz) (ht : P.underlying t = some (.slice e)) (hE : elT P e sz by' = true) (hx : ev n l x = some v) (hy : ev n l y = some u)
    (hO : Ow T e lo w R v xs) (hY : Lz T w R u ys) (uR : Up w R) (hlo : ∀ b, w.heap.size ≤ b → lo b) (h63 : xs.length + ys.length ≤ 9223372036854775807) (hbytes : (xs.length + ys.length) * by' ≤ 140737488355328)
    (k : ∀ v' w' R'', (∀ b, R b → b < w.heap.size → R'' b) → (∀ b, R'' b → R b) → Up w' R'' → Ow T e lo w' R'' v' (xs ++ ys) → Md (vblock v).toList w w' → (∀ b ∈ (vblock v).toList, ¬ R'' b) → (∀ b, vblock v = some b → b < w.heap.size) →
      (∀ b, vblock v' = some b → vblock v = some b ∨ w.heap.size ≤ b) → wpList P ops Q rest (over A D ((d, v') :: l)) w') :
    wpList P ops Q (⟨some d, .call { callee := .builtin .append, args := #[x, y], argTypes := #[t, t] }, ty, ps, af, none⟩ :: rest) (over A D l) w := by
  subst hn
  refine wl_plain rfl ?_
  obtain ⟨a, cap, cy, rfl, h3, h4, h5, h7, h8⟩ := hY
  have hO' := hO
  obtain ⟨⟨cx, h9, h10⟩, h11⟩ := hO'
  obtain ⟨v', w', hr, g1, g2, g3, g4⟩ := run_append_ex (P := P) (w := w) (ty' := ty) ht hE T.pos h9 (a := a) (k := ys.length) (c := cap) (news := cy) h8.len (fun h => ⟨by have := h5 h; omega, h5 h⟩) h7 h8.one (by simpa [maxLen] using h63) hbytes
  have hrun : (execOp (over A D l).eval ⟨some d, .call { callee := .builtin .append, args := #[x, y], argTypes := #[t, t] }, ty, ps, af, none⟩).run P w = .ok (.value v') w' := by
    simp [execOp, resolve, invoke, builtin, ev_eval hx, ev_eval hy, hr]
  unfold Oper.wp
  rw [hrun]
  have hs : ∀ b, R b → b < w.heap.size → (R b ∧ vblock v' ≠ some b) := fun b hb hl => ⟨hb, fun hv => by
    rcases g4 b hv with h | h
    · exact (h11 b h).2 hb
    · omega⟩
  have hn : ∀ b ∈ (vblock v).toList, ¬ (R b ∧ vblock v' ≠ some b) := fun b hb hh => by
    cases hv : vblock v with
    | none => rw [hv] at hb; simp at hb
    | some c => rw [hv] at hb; simp at hb; subst hb; exact (h11 _ hv).2 hh.1
  have g1' : Own w' e T.n v' (xs ++ ys).length (cx ++ cy) := by simpa using g1
  refine k v' w' (fun b => R b ∧ vblock v' ≠ some b) hs (fun b hb => hb.1) (fun b hb => ⟨uR b (Nat.le_trans g2.size hb), fun hv => by have := g1'.lt b hv; omega⟩) ⟨⟨cx ++ cy, g1', ?_⟩, fun b hb => ⟨?_, fun hh => hh.2 hb⟩⟩ g2 hn h9.lt g4
  · exact ((h10.sub hs).md g2 hn).append ((h8.sub hs).md g2 hn)
  · rcases g4 b hb with h | h
    · exact (h11 b h).1
    · exact hlo b h
theorem st_ap {x y : Operand} {t e : TypeId} {sz by' : Nat} {lo : Nat → Prop} {v u : Value} {xs ys : List α} (hn : T.n = sz) (ht : P.underlying t = some (.slice e)) (hE : elT P e sz by' = true) (hx : ev n l x = some v) (hy : ev n l y = some u)
    (hO : Ow T e lo w R v xs) (hY : Ls T w R' u ys) (hR : ∀ b, R' b → b < w.heap.size → R b) (uR : Up w R) (hlo : ∀ b, w.heap.size ≤ b → lo b) (h63 : xs.length + ys.length ≤ 9223372036854775807) (hbytes : (xs.length + ys.length) * by' ≤ 140737488355328)
    (k : ∀ v' w' R'', (∀ b, R b → b < w.heap.size → R'' b) → (∀ b, R'' b → R b) → Up w' R'' → Ow T e lo w' R'' v' (xs ++ ys) → Md (vblock v).toList w w' → (∀ b ∈ (vblock v).toList, ¬ R'' b) → (∀ b, vblock v = some b → b < w.heap.size) →
      (∀ b, vblock v' = some b → vblock v = some b ∨ w.heap.size ≤ b) → wpList P ops Q rest (over A D ((d, v') :: l)) w') :
    wpList P ops Q (⟨some d, .call { callee := .builtin .append, args := #[x, y], argTypes := #[t, t] }, ty, ps, af, none⟩ :: rest) (over A D l) w :=
  st_apZ hn ht hE hx hy hO (hY.sub hR).lz uR hlo h63 hbytes k
theorem Ow.into {e : TypeId} {lo : Nat → Prop} {i : Nat} {v : Value} {xs : List α} {c : List Value} {z : α} (hO : Ow T e lo w R v xs) (hz : T.rep w R c z) (hi : i < xs.length) :
    ∃ b cap cur, v = .slice (some ⟨b, 0, none⟩) xs.length cap ∧ Blk w b cur e ∧ i * T.n + c.length ≤ cur.length ∧ ¬ R b ∧ ∀ w', Md [b] w w' → Blk w' b (splice cur (i * T.n) c) e → Ow T e lo w' R v (xs.set i z) := by
  obtain ⟨⟨cx, h9, h10⟩, h11⟩ := hO
  obtain ⟨b, cap, cur, rfl, hB, h1, h2, h3, h4⟩ := h9.blk (by omega)
  have hcl := T.len hz
  have hfit : i * T.n + T.n ≤ xs.length * T.n := by rw [← Nat.succ_mul]; exact Nat.mul_le_mul_right _ hi
  have hfit2 : xs.length * T.n ≤ cur.length := by rw [h3]; exact Nat.mul_le_mul_right _ h1
  have hS : ∀ b' ∈ [b], ¬ R b' := fun b' hb => by simp at hb; subst hb; exact (h11 _ rfl).2
  refine ⟨b, cap, cur, rfl, hB, by omega, (h11 _ rfl).2, fun w' hm hb => ⟨⟨(splice cur (i * T.n) c).take (xs.length * T.n), by simpa using Own.of_blk (m := xs.length) hb h1 h2 (by rw [splice_len (by omega), h3]), ?_⟩, h11⟩⟩
  have e1 : (splice cur (i * T.n) c).take (xs.length * T.n) = cx.take (i * T.n) ++ c ++ cx.drop (i * T.n + T.n) := by
    unfold splice
    rw [hcl, ← h4, List.take_append, List.take_of_length_le (by simp; omega), List.take_take, Nat.min_eq_left (by omega), List.drop_take]
    congr 2
    simp
    omega
  rw [e1]
  exact (h10.md hm hS).set (T.md hz hm hS) hi
theorem set_splice (cs : List Value) (j : Nat) (u : Value) (h : j < cs.length) : cs.set j u = splice cs j [u] := by
  rw [List.set_eq_take_append_cons_drop, if_pos h]; simp [splice]
/-- x[i] = y, elements of one cell, x the run's own. -/
theorem st_storeOw {x y : Operand} {t e : TypeId} {lo : Nat → Prop} {i k : Nat} {v u : Value} {xs : List α} {z : α} (hk : k = i * T.n) (hx : ev n l x = some (elemp v k)) (hy : ev n l y = some u) (hT : isOne P t = true)
    (hO : Ow T e lo w R v xs) (hz : T.rep w R [u] z) (hi : i < xs.length)
    (kk : ∀ w', Md (vblock v).toList w w' → (∀ b ∈ (vblock v).toList, ¬ R b) → Ow T e lo w' R v (xs.set i z) → wpList P ops Q rest (over A D l) w') :
    wpList P ops Q (⟨none, .store t x y, ty, ps, af, none⟩ :: rest) (over A D l) w := by
  subst hk
  obtain ⟨b, cap, cur, rfl, hB, h1, h2, h3⟩ := hO.into hz hi
  simp only [List.length_singleton] at h1
  refine st_store (b := b) (j := i * T.n) (by rw [hx]; simp [elemp, Addr.add_mk]) hy hT (T.one hz u (by simp)) hB (by omega) fun w' hm hb => ?_
  rw [set_splice _ _ _ (by omega)] at hb
  exact kk w' (by simpa [vblock] using hm) (fun b' hb' => by simp [vblock] at hb'; subst hb'; exact h2) (h3 w' hm hb)
/-- x[i] = y, elements of more cells, x the run's own. -/
theorem st_storeOwA {x y : Operand} {t e : TypeId} {lo : Nat → Prop} {i k : Nat} {v : Value} {xs : List α} {c : List Value} {z : α} (hk : k = i * T.n) (hx : ev n l x = some (elemp v k)) (hy : ev n l y = some (.agg c.toArray)) (hT : isAggN P t c.length = true)
    (hO : Ow T e lo w R v xs) (hz : T.rep w R c z) (hi : i < xs.length)
    (kk : ∀ w', Md (vblock v).toList w w' → (∀ b ∈ (vblock v).toList, ¬ R b) → Ow T e lo w' R v (xs.set i z) → wpList P ops Q rest (over A D l) w') :
    wpList P ops Q (⟨none, .store t x y, ty, ps, af, none⟩ :: rest) (over A D l) w := by
  subst hk
  obtain ⟨b, cap, cur, rfl, hB, h1, h2, h3⟩ := hO.into hz hi
  refine st_storeAgg (b := b) (j := i * T.n) (by rw [hx]; simp [elemp, Addr.add_mk]) hy hT (T.one hz) hB h1 fun w' hm hb => ?_
  exact kk w' (by simpa [vblock] using hm) (fun b' hb' => by simp [vblock] at hb'; subst hb'; exact h2) (h3 w' hm hb)
theorem Ls.of_blk {e : TypeId} {b m : Nat} {cs : List Value} {xs : List α} (hB : Blk w b cs e) (hE : Els T w R cs xs) (hm : xs.length = m) (h2 : m ≤ maxLen) (hR : R b) : Ls T w R (.slice (some ⟨b, 0, none⟩) m m) xs := by
  subst hm
  exact ⟨_, _, cs, rfl, Nat.le_refl _, h2, by simp, fun p hp _ => by cases hp; exact hR, fun p hp j u hj => by cases hp; rw [Addr.add_mk, Nat.zero_add, hB.cell]; exact hj, hE⟩
/-- A built slice goes on as the run's own. -/
theorem Ow.of_blk {e : TypeId} {lo : Nat → Prop} {b m : Nat} {cs : List Value} {xs : List α} (hB : Blk w b cs e) (hE : Els T w R cs xs) (hm : xs.length = m) (h2 : m ≤ maxLen) (hlo : lo b) (hR : ¬ R b) : Ow T e lo w R (.slice (some ⟨b, 0, none⟩) m m) xs := by
  subst hm
  have hl := hE.len
  have := Own.of_blk (sz := T.n) (m := xs.length) hB (Nat.le_refl _) h2 hl
  rw [← hl, List.take_length] at this
  exact ⟨⟨cs, this, hE⟩, fun b' hb => by simp [vblock] at hb; subst hb; exact ⟨hlo, hR⟩⟩
/-- []T{} -/
theorem st_build0 {t e : TypeId} {sz by' : Nat} (ht : P.underlying t = some (.slice e)) (hE : elT P e sz by' = true)
    (k : ∀ b w', w.heap.size ≤ b → b < w'.heap.size → Md [] w w' → Blk w' b [] e → wpList P ops Q rest (over A D ((d, .slice (some ⟨b, 0, none⟩) 0 0) :: l)) w') :
    wpList P ops Q (⟨some d, .buildSlice t 0 #[], ty, ps, af, none⟩ :: rest) (over A D l) w := by
  refine wl_plain rfl ?_
  obtain ⟨i, z, hi, hz, hs, hb, hzs⟩ := elT_spec hE
  have hrun : (execOp (over A D l).eval ⟨some d, .buildSlice t 0 #[], ty, ps, af, none⟩).run P w = .ok (.value (.slice (some ⟨w.heap.size, 0, none⟩) 0 0)) (w.alloc (.cells ([] : List Value).toArray e)) := by
    show Sem.run P (do pure (Next.value (← Instr.buildSlice t 0 ((#[] : Array (Nat × Operand)).map fun x => (x.1, (over A D l).eval x.2))))) w = _
    have e0 : (Array.map (fun x => (default : Value)) (Array.range 0)) = #[] := by simp [Array.range]
    simp [Instr.buildSlice, run_underlying ht, run_sizeOf hi, Instr.fill, newRow, e0]
  unfold Oper.wp
  rw [hrun]
  exact k _ _ (Nat.le_refl _) (by simp) (Md.alloc w _) (Blk.new w [] e)
end
end Go.Wk
namespace Go.Wk
open Go Go.RowKit
section
variable {P : Program} {Q : Exit → Act → World → Prop} {n : Nat} {A : Fr n} {D : List Deferred} {l : List (Nat × Value)} {w : World}

def Next1 {X0 : Type} (n : Nat) (D : List Deferred) (inv : X0 → List (Nat × Value)) (W : X0 → World → Prop) (mu : X0 → Nat) (m : Nat) (a : Act) (w : World) : Prop :=
  ∃ y0 : X0, ∃ B : Fr n, a = over B D (inv y0) ∧ W y0 w ∧ mu y0 < m
theorem loop1 {X0 : Type} {c : Code} (inv : X0 → List (Nat × Value)) (W : X0 → World → Prop) (mu : X0 → Nat) (x0 : X0) (h0 : Fits n l (inv x0)) (hw : W x0 w)
    (round : ∀ (x0 : X0) (B : Fr n) (w' : World), W x0 w' → c.wp P (Exit.then (Next1 n D inv W mu (mu x0)) Q) (over B D (inv x0)) w') :
    (Code.loop c).wp P Q (over A D l) w := by
  refine c_loop (X := X0) (fun p => inv p) (fun p w => W p w) (fun p => mu p) x0 h0 hw (fun p B w' h => wp_mono (round p B w' h) ?_)
  intro e a2 w2 h
  cases e with
  | normal => obtain ⟨y0, B', h1, h2, h3⟩ := h; exact ⟨y0, B', h1, h2, h3⟩
  | _ => exact h
theorem next1 {X0 : Type} {inv : X0 → List (Nat × Value)} {W : X0 → World → Prop} {mu : X0 → Nat} {m : Nat} (x0 : X0) (hm : mu x0 < m) (hf : Fits n l (inv x0)) (hw : W x0 w) :
    Next1 n D inv W mu m (over A D l) w := ⟨x0, _, (over_fits (A := A) (D := D) hf).symm, hw, hm⟩

def Next2 {X0 X1 : Type} (n : Nat) (D : List Deferred) (inv : X0 → X1 → List (Nat × Value)) (W : X0 → X1 → World → Prop) (mu : X0 → X1 → Nat) (m : Nat) (a : Act) (w : World) : Prop :=
  ∃ y0 : X0, ∃ y1 : X1, ∃ B : Fr n, a = over B D (inv y0 y1) ∧ W y0 y1 w ∧ mu y0 y1 < m
theorem loop2 {X0 X1 : Type} {c : Code} (inv : X0 → X1 → List (Nat × Value)) (W : X0 → X1 → World → Prop) (mu : X0 → X1 → Nat) (x0 : X0) (x1 : X1) (h0 : Fits n l (inv x0 x1)) (hw : W x0 x1 w)
    (round : ∀ (x0 : X0) (x1 : X1) (B : Fr n) (w' : World), W x0 x1 w' → c.wp P (Exit.then (Next2 n D inv W mu (mu x0 x1)) Q) (over B D (inv x0 x1)) w') :
    (Code.loop c).wp P Q (over A D l) w := by
  refine c_loop (X := X0 × X1) (fun p => inv p.1 p.2) (fun p w => W p.1 p.2 w) (fun p => mu p.1 p.2) (x0, x1) h0 hw (fun p B w' h => wp_mono (round (p.1) (p.2) B w' h) ?_)
  intro e a2 w2 h
  cases e with
  | normal => obtain ⟨y0, y1, B', h1, h2, h3⟩ := h; exact ⟨(y0, y1), B', h1, h2, h3⟩
  | _ => exact h
theorem next2 {X0 X1 : Type} {inv : X0 → X1 → List (Nat × Value)} {W : X0 → X1 → World → Prop} {mu : X0 → X1 → Nat} {m : Nat} (x0 : X0) (x1 : X1) (hm : mu x0 x1 < m) (hf : Fits n l (inv x0 x1)) (hw : W x0 x1 w) :
    Next2 n D inv W mu m (over A D l) w := ⟨x0, x1, _, (over_fits (A := A) (D := D) hf).symm, hw, hm⟩

def Next3 {X0 X1 X2 : Type} (n : Nat) (D : List Deferred) (inv : X0 → X1 → X2 → List (Nat × Value)) (W : X0 → X1 → X2 → World → Prop) (mu : X0 → X1 → X2 → Nat) (m : Nat) (a : Act) (w : World) : Prop :=
  ∃ y0 : X0, ∃ y1 : X1, ∃ y2 : X2, ∃ B : Fr n, a = over B D (inv y0 y1 y2) ∧ W y0 y1 y2 w ∧ mu y0 y1 y2 < m
theorem loop3 {X0 X1 X2 : Type} {c : Code} (inv : X0 → X1 → X2 → List (Nat × Value)) (W : X0 → X1 → X2 → World → Prop) (mu : X0 → X1 → X2 → Nat) (x0 : X0) (x1 : X1) (x2 : X2) (h0 : Fits n l (inv x0 x1 x2)) (hw : W x0 x1 x2 w)
    (round : ∀ (x0 : X0) (x1 : X1) (x2 : X2) (B : Fr n) (w' : World), W x0 x1 x2 w' → c.wp P (Exit.then (Next3 n D inv W mu (mu x0 x1 x2)) Q) (over B D (inv x0 x1 x2)) w') :
    (Code.loop c).wp P Q (over A D l) w := by
  refine c_loop (X := X0 × X1 × X2) (fun p => inv p.1 p.2.1 p.2.2) (fun p w => W p.1 p.2.1 p.2.2 w) (fun p => mu p.1 p.2.1 p.2.2) (x0, x1, x2) h0 hw (fun p B w' h => wp_mono (round (p.1) (p.2.1) (p.2.2) B w' h) ?_)
  intro e a2 w2 h
  cases e with
  | normal => obtain ⟨y0, y1, y2, B', h1, h2, h3⟩ := h; exact ⟨(y0, y1, y2), B', h1, h2, h3⟩
  | _ => exact h
theorem next3 {X0 X1 X2 : Type} {inv : X0 → X1 → X2 → List (Nat × Value)} {W : X0 → X1 → X2 → World → Prop} {mu : X0 → X1 → X2 → Nat} {m : Nat} (x0 : X0) (x1 : X1) (x2 : X2) (hm : mu x0 x1 x2 < m) (hf : Fits n l (inv x0 x1 x2)) (hw : W x0 x1 x2 w) :
    Next3 n D inv W mu m (over A D l) w := ⟨x0, x1, x2, _, (over_fits (A := A) (D := D) hf).symm, hw, hm⟩

def Next4 {X0 X1 X2 X3 : Type} (n : Nat) (D : List Deferred) (inv : X0 → X1 → X2 → X3 → List (Nat × Value)) (W : X0 → X1 → X2 → X3 → World → Prop) (mu : X0 → X1 → X2 → X3 → Nat) (m : Nat) (a : Act) (w : World) : Prop :=
  ∃ y0 : X0, ∃ y1 : X1, ∃ y2 : X2, ∃ y3 : X3, ∃ B : Fr n, a = over B D (inv y0 y1 y2 y3) ∧ W y0 y1 y2 y3 w ∧ mu y0 y1 y2 y3 < m
theorem loop4 {X0 X1 X2 X3 : Type} {c : Code} (inv : X0 → X1 → X2 → X3 → List (Nat × Value)) (W : X0 → X1 → X2 → X3 → World → Prop) (mu : X0 → X1 → X2 → X3 → Nat) (x0 : X0) (x1 : X1) (x2 : X2) (x3 : X3) (h0 : Fits n l (inv x0 x1 x2 x3)) (hw : W x0 x1 x2 x3 w)
    (round : ∀ (x0 : X0) (x1 : X1) (x2 : X2) (x3 : X3) (B : Fr n) (w' : World), W x0 x1 x2 x3 w' → c.wp P (Exit.then (Next4 n D inv W mu (mu x0 x1 x2 x3)) Q) (over B D (inv x0 x1 x2 x3)) w') :
    (Code.loop c).wp P Q (over A D l) w := by
  refine c_loop (X := X0 × X1 × X2 × X3) (fun p => inv p.1 p.2.1 p.2.2.1 p.2.2.2) (fun p w => W p.1 p.2.1 p.2.2.1 p.2.2.2 w) (fun p => mu p.1 p.2.1 p.2.2.1 p.2.2.2) (x0, x1, x2, x3) h0 hw (fun p B w' h => wp_mono (round (p.1) (p.2.1) (p.2.2.1) (p.2.2.2) B w' h) ?_)
  intro e a2 w2 h
  cases e with
  | normal => obtain ⟨y0, y1, y2, y3, B', h1, h2, h3⟩ := h; exact ⟨(y0, y1, y2, y3), B', h1, h2, h3⟩
  | _ => exact h
theorem next4 {X0 X1 X2 X3 : Type} {inv : X0 → X1 → X2 → X3 → List (Nat × Value)} {W : X0 → X1 → X2 → X3 → World → Prop} {mu : X0 → X1 → X2 → X3 → Nat} {m : Nat} (x0 : X0) (x1 : X1) (x2 : X2) (x3 : X3) (hm : mu x0 x1 x2 x3 < m) (hf : Fits n l (inv x0 x1 x2 x3)) (hw : W x0 x1 x2 x3 w) :
    Next4 n D inv W mu m (over A D l) w := ⟨x0, x1, x2, x3, _, (over_fits (A := A) (D := D) hf).symm, hw, hm⟩

def Next5 {X0 X1 X2 X3 X4 : Type} (n : Nat) (D : List Deferred) (inv : X0 → X1 → X2 → X3 → X4 → List (Nat × Value)) (W : X0 → X1 → X2 → X3 → X4 → World → Prop) (mu : X0 → X1 → X2 → X3 → X4 → Nat) (m : Nat) (a : Act) (w : World) : Prop :=
  ∃ y0 : X0, ∃ y1 : X1, ∃ y2 : X2, ∃ y3 : X3, ∃ y4 : X4, ∃ B : Fr n, a = over B D (inv y0 y1 y2 y3 y4) ∧ W y0 y1 y2 y3 y4 w ∧ mu y0 y1 y2 y3 y4 < m
theorem loop5 {X0 X1 X2 X3 X4 : Type} {c : Code} (inv : X0 → X1 → X2 → X3 → X4 → List (Nat × Value)) (W : X0 → X1 → X2 → X3 → X4 → World → Prop) (mu : X0 → X1 → X2 → X3 → X4 → Nat) (x0 : X0) (x1 : X1) (x2 : X2) (x3 : X3) (x4 : X4) (h0 : Fits n l (inv x0 x1 x2 x3 x4)) (hw : W x0 x1 x2 x3 x4 w)
    (round : ∀ (x0 : X0) (x1 : X1) (x2 : X2) (x3 : X3) (x4 : X4) (B : Fr n) (w' : World), W x0 x1 x2 x3 x4 w' → c.wp P (Exit.then (Next5 n D inv W mu (mu x0 x1 x2 x3 x4)) Q) (over B D (inv x0 x1 x2 x3 x4)) w') :
    (Code.loop c).wp P Q (over A D l) w := by
  refine c_loop (X := X0 × X1 × X2 × X3 × X4) (fun p => inv p.1 p.2.1 p.2.2.1 p.2.2.2.1 p.2.2.2.2) (fun p w => W p.1 p.2.1 p.2.2.1 p.2.2.2.1 p.2.2.2.2 w) (fun p => mu p.1 p.2.1 p.2.2.1 p.2.2.2.1 p.2.2.2.2) (x0, x1, x2, x3, x4) h0 hw (fun p B w' h => wp_mono (round (p.1) (p.2.1) (p.2.2.1) (p.2.2.2.1) (p.2.2.2.2) B w' h) ?_)
  intro e a2 w2 h
  cases e with
  | normal => obtain ⟨y0, y1, y2, y3, y4, B', h1, h2, h3⟩ := h; exact ⟨(y0, y1, y2, y3, y4), B', h1, h2, h3⟩
  | _ => exact h
theorem next5 {X0 X1 X2 X3 X4 : Type} {inv : X0 → X1 → X2 → X3 → X4 → List (Nat × Value)} {W : X0 → X1 → X2 → X3 → X4 → World → Prop} {mu : X0 → X1 → X2 → X3 → X4 → Nat} {m : Nat} (x0 : X0) (x1 : X1) (x2 : X2) (x3 : X3) (x4 : X4) (hm : mu x0 x1 x2 x3 x4 < m) (hf : Fits n l (inv x0 x1 x2 x3 x4)) (hw : W x0 x1 x2 x3 x4 w) :
    Next5 n D inv W mu m (over A D l) w := ⟨x0, x1, x2, x3, x4, _, (over_fits (A := A) (D := D) hf).symm, hw, hm⟩

def Next7 {X0 X1 X2 X3 X4 X5 X6 : Type} (n : Nat) (D : List Deferred) (inv : X0 → X1 → X2 → X3 → X4 → X5 → X6 → List (Nat × Value)) (W : X0 → X1 → X2 → X3 → X4 → X5 → X6 → World → Prop) (mu : X0 → X1 → X2 → X3 → X4 → X5 → X6 → Nat) (m : Nat) (a : Act) (w : World) : Prop :=
  ∃ y0 : X0, ∃ y1 : X1, ∃ y2 : X2, ∃ y3 : X3, ∃ y4 : X4, ∃ y5 : X5, ∃ y6 : X6, ∃ B : Fr n, a = over B D (inv y0 y1 y2 y3 y4 y5 y6) ∧ W y0 y1 y2 y3 y4 y5 y6 w ∧ mu y0 y1 y2 y3 y4 y5 y6 < m
theorem loop7 {X0 X1 X2 X3 X4 X5 X6 : Type} {c : Code} (inv : X0 → X1 → X2 → X3 → X4 → X5 → X6 → List (Nat × Value)) (W : X0 → X1 → X2 → X3 → X4 → X5 → X6 → World → Prop) (mu : X0 → X1 → X2 → X3 → X4 → X5 → X6 → Nat) (x0 : X0) (x1 : X1) (x2 : X2) (x3 : X3) (x4 : X4) (x5 : X5) (x6 : X6) (h0 : Fits n l (inv x0 x1 x2 x3 x4 x5 x6)) (hw : W x0 x1 x2 x3 x4 x5 x6 w)
    (round : ∀ (x0 : X0) (x1 : X1) (x2 : X2) (x3 : X3) (x4 : X4) (x5 : X5) (x6 : X6) (B : Fr n) (w' : World), W x0 x1 x2 x3 x4 x5 x6 w' → c.wp P (Exit.then (Next7 n D inv W mu (mu x0 x1 x2 x3 x4 x5 x6)) Q) (over B D (inv x0 x1 x2 x3 x4 x5 x6)) w') :
    (Code.loop c).wp P Q (over A D l) w := by
  refine c_loop (X := X0 × X1 × X2 × X3 × X4 × X5 × X6) (fun p => inv p.1 p.2.1 p.2.2.1 p.2.2.2.1 p.2.2.2.2.1 p.2.2.2.2.2.1 p.2.2.2.2.2.2) (fun p w => W p.1 p.2.1 p.2.2.1 p.2.2.2.1 p.2.2.2.2.1 p.2.2.2.2.2.1 p.2.2.2.2.2.2 w) (fun p => mu p.1 p.2.1 p.2.2.1 p.2.2.2.1 p.2.2.2.2.1 p.2.2.2.2.2.1 p.2.2.2.2.2.2) (x0, x1, x2, x3, x4, x5, x6) h0 hw (fun p B w' h => wp_mono (round (p.1) (p.2.1) (p.2.2.1) (p.2.2.2.1) (p.2.2.2.2.1) (p.2.2.2.2.2.1) (p.2.2.2.2.2.2) B w' h) ?_)
  intro e a2 w2 h
  cases e with
  | normal => obtain ⟨y0, y1, y2, y3, y4, y5, y6, B', h1, h2, h3⟩ := h; exact ⟨(y0, y1, y2, y3, y4, y5, y6), B', h1, h2, h3⟩
  | _ => exact h
theorem next7 {X0 X1 X2 X3 X4 X5 X6 : Type} {inv : X0 → X1 → X2 → X3 → X4 → X5 → X6 → List (Nat × Value)} {W : X0 → X1 → X2 → X3 → X4 → X5 → X6 → World → Prop} {mu : X0 → X1 → X2 → X3 → X4 → X5 → X6 → Nat} {m : Nat} (x0 : X0) (x1 : X1) (x2 : X2) (x3 : X3) (x4 : X4) (x5 : X5) (x6 : X6) (hm : mu x0 x1 x2 x3 x4 x5 x6 < m) (hf : Fits n l (inv x0 x1 x2 x3 x4 x5 x6)) (hw : W x0 x1 x2 x3 x4 x5 x6 w) :
    Next7 n D inv W mu m (over A D l) w := ⟨x0, x1, x2, x3, x4, x5, x6, _, (over_fits (A := A) (D := D) hf).symm, hw, hm⟩

def Next8 {X0 X1 X2 X3 X4 X5 X6 X7 : Type} (n : Nat) (D : List Deferred) (inv : X0 → X1 → X2 → X3 → X4 → X5 → X6 → X7 → List (Nat × Value)) (W : X0 → X1 → X2 → X3 → X4 → X5 → X6 → X7 → World → Prop) (mu : X0 → X1 → X2 → X3 → X4 → X5 → X6 → X7 → Nat) (m : Nat) (a : Act) (w : World) : Prop :=
  ∃ y0 : X0, ∃ y1 : X1, ∃ y2 : X2, ∃ y3 : X3, ∃ y4 : X4, ∃ y5 : X5, ∃ y6 : X6, ∃ y7 : X7, ∃ B : Fr n, a = over B D (inv y0 y1 y2 y3 y4 y5 y6 y7) ∧ W y0 y1 y2 y3 y4 y5 y6 y7 w ∧ mu y0 y1 y2 y3 y4 y5 y6 y7 < m
theorem loop8 {X0 X1 X2 X3 X4 X5 X6 X7 : Type} {c : Code} (inv : X0 → X1 → X2 → X3 → X4 → X5 → X6 → X7 → List (Nat × Value)) (W : X0 → X1 → X2 → X3 → X4 → X5 → X6 → X7 → World → Prop) (mu : X0 → X1 → X2 → X3 → X4 → X5 → X6 → X7 → Nat) (x0 : X0) (x1 : X1) (x2 : X2) (x3 : X3) (x4 : X4) (x5 : X5) (x6 : X6) (x7 : X7) (h0 : Fits n l (inv x0 x1 x2 x3 x4 x5 x6 x7)) (hw : W x0 x1 x2 x3 x4 x5 x6 x7 w)
    (round : ∀ (x0 : X0) (x1 : X1) (x2 : X2) (x3 : X3) (x4 : X4) (x5 : X5) (x6 : X6) (x7 : X7) (B : Fr n) (w' : World), W x0 x1 x2 x3 x4 x5 x6 x7 w' → c.wp P (Exit.then (Next8 n D inv W mu (mu x0 x1 x2 x3 x4 x5 x6 x7)) Q) (over B D (inv x0 x1 x2 x3 x4 x5 x6 x7)) w') :
    (Code.loop c).wp P Q (over A D l) w := by
  refine c_loop (X := X0 × X1 × X2 × X3 × X4 × X5 × X6 × X7) (fun p => inv p.1 p.2.1 p.2.2.1 p.2.2.2.1 p.2.2.2.2.1 p.2.2.2.2.2.1 p.2.2.2.2.2.2.1 p.2.2.2.2.2.2.2) (fun p w => W p.1 p.2.1 p.2.2.1 p.2.2.2.1 p.2.2.2.2.1 p.2.2.2.2.2.1 p.2.2.2.2.2.2.1 p.2.2.2.2.2.2.2 w) (fun p => mu p.1 p.2.1 p.2.2.1 p.2.2.2.1 p.2.2.2.2.1 p.2.2.2.2.2.1 p.2.2.2.2.2.2.1 p.2.2.2.2.2.2.2) (x0, x1, x2, x3, x4, x5, x6, x7) h0 hw (fun p B w' h => wp_mono (round (p.1) (p.2.1) (p.2.2.1) (p.2.2.2.1) (p.2.2.2.2.1) (p.2.2.2.2.2.1) (p.2.2.2.2.2.2.1) (p.2.2.2.2.2.2.2) B w' h) ?_)
  intro e a2 w2 h
  cases e with
  | normal => obtain ⟨y0, y1, y2, y3, y4, y5, y6, y7, B', h1, h2, h3⟩ := h; exact ⟨(y0, y1, y2, y3, y4, y5, y6, y7), B', h1, h2, h3⟩
  | _ => exact h
theorem next8 {X0 X1 X2 X3 X4 X5 X6 X7 : Type} {inv : X0 → X1 → X2 → X3 → X4 → X5 → X6 → X7 → List (Nat × Value)} {W : X0 → X1 → X2 → X3 → X4 → X5 → X6 → X7 → World → Prop} {mu : X0 → X1 → X2 → X3 → X4 → X5 → X6 → X7 → Nat} {m : Nat} (x0 : X0) (x1 : X1) (x2 : X2) (x3 : X3) (x4 : X4) (x5 : X5) (x6 : X6) (x7 : X7) (hm : mu x0 x1 x2 x3 x4 x5 x6 x7 < m) (hf : Fits n l (inv x0 x1 x2 x3 x4 x5 x6 x7)) (hw : W x0 x1 x2 x3 x4 x5 x6 x7 w) :
    Next8 n D inv W mu m (over A D l) w := ⟨x0, x1, x2, x3, x4, x5, x6, x7, _, (over_fits (A := A) (D := D) hf).symm, hw, hm⟩

/-! returns -/
def ResIs (P : Program) (w : World) (n : Nat) (l : List (Nat × Value)) : List ResultVar → List Value → Prop
  | [], [] => True
  | .tmp t :: r, v :: vs => ev n l (.tmp t) = some v ∧ ResIs P w n l r vs
  | .cell t ty :: r, v :: vs => (∃ p, ev n l (.tmp t) = some (.pointer (some p)) ∧ (loadVar ty p).run P w = .ok v w) ∧ ResIs P w n l r vs
  | _, _ => False
theorem results_run {fn : Func} {rs : List ResultVar} {vs : List Value} (hr : fn.results = rs.toArray) (h : ResIs P w n l rs vs) :
    (results fn (over A D l).tmps).run P w = .ok (if h : vs.length = 1 then vs[0] else .tuple vs.toArray) w := by
  have key : ∀ (rs : List ResultVar) (vs : List Value), ResIs P w n l rs vs → (rs.mapM (fun x : ResultVar => (match x with
      | .tmp t => pure ((over A D l).tmps.getD t undef)
      | .cell a t => do loadVar t (← asAddr ((over A D l).tmps.getD a undef)) : Sem Value))).run P w = .ok vs w := by
    intro rs
    induction rs with
    | nil => intro vs h; cases vs with
      | nil => simp
      | cons v vs => simp [ResIs] at h
    | cons r rs ih =>
      intro vs h
      cases vs with
      | nil => cases r <;> simp [ResIs] at h
      | cons v vs =>
        cases r with
        | tmp t =>
          obtain ⟨h1, h2⟩ := h
          have h3 := getD_of (A := A) (D := D) h1
          simp only [List.mapM_cons, Sem.run_bind, Sem.run_pure, Result.andThen_ok, ih vs h2, h3]
        | cell t ty =>
          obtain ⟨⟨p, h1, h4⟩, h2⟩ := h
          have h3 := getD_of (A := A) (D := D) h1
          have h5 : (asAddr (.pointer (some p))).run P w = .ok p w := by simp [asAddr]
          simp only [List.mapM_cons, Sem.run_bind, Sem.run_pure, Result.andThen_ok, ih vs h2, h3, h5, h4]
  have := key rs vs h
  unfold results
  rw [hr]
  simp only [List.mapM_toArray, Sem.run_bind, Sem.run_map]
  rw [show (fun x : ResultVar => (match x with
      | .tmp t => pure ((over A D l).tmps.getD t undef)
      | .cell a t => do loadVar t (← asAddr ((over A D l).tmps.getD a undef)) : Sem Value)) = _ from rfl] at this
  refine Eq.trans (congrArg (fun r : Result (List Value) => (r.andThen fun a w' => Result.ok a.toArray w').andThen fun a w' => Sem.run P (pure (if h : a.size = 1 then a[0] else Value.tuple a)) w') this) ?_
  simp
theorem retL {fn : Func} {R : Ending → World → Prop} {e : Exit} {rs : List ResultVar} {vs : List Value} (he : isEnd e) (hr : fn.results = rs.toArray) (h : ResIs P w n l rs vs) (hl : Nat.beq vs.length 1 = false) (hR : R (.returned (.tuple vs.toArray)) w) : bodyPost P fn R e (over A [] l) w :=
  bp he over_defers (results_run (A := A) (D := []) hr h) (by rw [dif_neg (by intro hh; rw [hh] at hl; cases hl)]; exact hR)
theorem ret1L {fn : Func} {R : Ending → World → Prop} {e : Exit} {rs : List ResultVar} {v : Value} (he : isEnd e) (hr : fn.results = rs.toArray) (h : ResIs P w n l rs [v]) (hR : R (.returned v) w) : bodyPost P fn R e (over A [] l) w :=
  bp he over_defers (results_run (A := A) (D := []) hr h) hR
theorem load_agg {t ty' : TypeId} {b : Nat} {cs : List Value} (hT : isAggN P t cs.length = true) (hB : Blk w b cs ty') : (loadVar t ⟨b, 0, none⟩).run P w = .ok (.agg cs.toArray) w := run_loadVar_blk hT hB
end
end Go.Wk
namespace Go.Wk
open Go Go.RowKit
section
variable {P : Program} {ops : Array Oper} {Q : Exit → Act → World → Prop} {rest : List Oper}
variable {n : Nat} {A : Fr n} {D : List Deferred} {l : List (Nat × Value)} {w : World}
variable {d : Tmp} {op : Op} {ty : TypeId} {ps : String} {af : Array Edge} {g : Option (Nat × Bool)}
theorem r_makeFuncs {f : FuncId} {xs : List Operand} {vs : List Value} {d' : Option Tmp} (hx : evs n l xs = some vs) :
    RunV P ⟨d', .makeFunc (.func f) #[] xs.toArray, ty, ps, af, g⟩ (over A D l).eval w (.func (.func f) #[] vs.toArray) := by
  have he := evs_eval (A := A) (D := D) hx
  simp [RunV, execOp, Instr.makeFunc, he]
end
section
variable {P : Program} {ops : Array Oper} {QS : Exit → Act → List Go.Frame → World → Prop} {cs : List Go.Frame} {rest : List Nat}
variable {n : Nat} {A : Fr n} {D : List Deferred} {l : List (Nat × Value)} {w : World}
end
section
variable {P : Program} {n : Nat} {A : Fr n} {l : List (Nat × Value)} {w : World}
end
section
variable {P : Program} {n : Nat} {A : Fr n} {D : List Deferred} {l : List (Nat × Value)} {w : World} {d : Option Tmp} {ty : TypeId} {ps : String} {af : Array Edge} {g : Option (Nat × Bool)}
end
end Go.Wk
namespace Go.Wk
open Go Go.RowKit

def digit (c : UInt8) : Bool := decide (48 ≤ c.toNat ∧ c.toNat ≤ 57)
def nameC (c : UInt8) : Bool := decide ((65 ≤ c.toNat ∧ c.toNat ≤ 90) ∨ (48 ≤ c.toNat ∧ c.toNat ≤ 57) ∨ c.toNat = 95)
def isName (s : List UInt8) : Bool := decide (1 ≤ s.length) && decide (s.length ≤ 64) && !digit (s.getD 0 0) && s.all nameC
theorem name_len {s : List UInt8} (h : isName s = true) : 1 ≤ s.length ∧ s.length ≤ 64 := by
  simp only [isName, Bool.and_eq_true, decide_eq_true_eq] at h; exact ⟨h.1.1.1, h.1.1.2⟩
abbrev PairB := List UInt8 × List UInt8
def right (p : PairB) : Bool := isName p.1 && decide (p.2.length ≤ 256)
/-! the entry IndexByte -/
section
variable {P : Program} {n : Nat} {A : Fr n} {D : List Deferred} {l : List (Nat × Value)} {w : World}
variable {d : Option Tmp} {ty : TypeId} {ps : String} {af : Array Edge} {g : Option (Nat × Bool)}
end
end Go.Wk
namespace Go.Wk
open Go Go.RowKit

/-! turning -/
/-! lookup3 -/
/-! SipHash -/
/-! the document's own reckoning of words of eight bytes -/
/-! the chapter's examples -/
end Go.Wk
namespace Go.Wk
open Go Go.RowKit Go.ChangeShapes Go.WideShapes Go.ChangeAt Go.Deep

section
variable {H : Type} {enc : TypeId × Value → H} {P : Program} {w : World} {t e : TypeId} {v : Value} {d : DataW H} {ps : List MemPlace}

theorem exists_list {α : Type} (p : Nat → α → Prop) : ∀ n, (∀ i, i < n → ∃ a, p i a) → ∃ l : List α, l.length = n ∧ ∀ i a, l[i]? = some a → p i a
  | 0, _ => ⟨[], rfl, by simp⟩
  | n + 1, h => by
    obtain ⟨l, hl, hp⟩ := exists_list p n (fun i hi => h i (by omega))
    obtain ⟨a, ha⟩ := h n (by omega)
    refine ⟨l ++ [a], by simp [hl], fun i b hb => ?_⟩
    by_cases hi : i < n
    · rw [List.getElem?_append_left (by omega)] at hb; exact hp i b hb
    · have h1 := (List.getElem?_eq_some_iff.1 hb).1
      simp at h1
      have : i = n := by omega
      subst this
      rw [List.getElem?_append_right (by omega), hl, Nat.sub_self] at hb
      simp at hb
      subst hb
      exact ha
/-- Each of these values is bytes. -/
def Rows (w : World) (v : Value) (vs : List Value) (ls : List (List UInt8)) : Prop := Sl w v vs ∧ vs.length = ls.length ∧ ∀ (i : Nat) (u : Value) (l : List UInt8), vs[i]? = some u → ls[i]? = some l → By w u l
end
end Go.Wk
namespace Go.Wk
open Go Go.RowKit

section
variable {P : Program} {ops : Array Oper} {md : Region.Mode} {C : World → Prop} {Q : Exit → Act → World → Prop} {E : Array Bool → Act → World → Prop}

def wpAnyT (P : Program) (md : Region.Mode) (ops : Array Oper) (C : World → Prop) (E : Array Bool → Act → World → Prop) : Nat → Array Bool → Act → World → Prop
  | 0, listed, a, w => E listed a w
  | f + 1, listed, a, w => Region.ready md ops listed ≠ [] ∧ ∀ i ∈ Region.ready md ops listed, opC P ops C i (wpAnyT P md ops C E f (listed.setIfInBounds i true)) a w

theorem wpAny_of_T {t : Nat} (hE : ∀ listed a w, E listed a w → wpAny P md ops Q t listed a w) : ∀ (f : Nat) (listed : Array Bool) (a : Act) (w : World), wpAnyT P md ops C E f listed a w → wpAny P md ops Q (f + t) listed a w
  | 0, listed, a, w, h => by rw [Nat.zero_add]; exact hE _ _ _ h
  | f + 1, listed, a, w, h => by
    rw [show f + 1 + t = (f + t) + 1 by omega]
    refine ⟨fun h0 => absurd h0 h.1, fun i hi => ?_⟩
    have h1 := h.2 i hi
    unfold opC at h1
    unfold wpOp
    split
    · rename_i ho; rw [ho] at h1; exact wpAny_of_T hE f _ a w h1
    · rename_i o ho
      rw [ho] at h1
      simp only at h1
      split
      · rename_i hw; rw [if_pos hw] at h1; exact .inl (wp_out (fun a' w' hx => wpAny_of_T hE f _ a' w' hx.2) h1)
      · rename_i hw; rw [if_neg hw] at h1; exact wpAny_of_T hE f _ _ w h1

def Closed (md : Region.Mode) (ops : Array Oper) (listed : Array Bool) : Prop := ∀ k ok, ops[k]? = some ok → listed.getD k false = true → ∀ e ∈ ok.after, Region.binds md e = true → listed.getD e.on false = true
theorem Closed.set {listed : Array Bool} {i : Nat} (h : Closed md ops listed) (hi : i ∈ Region.ready md ops listed) : Closed md ops (listed.setIfInBounds i true) := by
  intro k ok hk hl e he hb
  have key : listed.getD e.on false = true → (listed.setIfInBounds i true).getD e.on false = true := fun h1 => by
    by_cases hei : e.on = i
    · rw [hei] at h1 ⊢
      rcases Nat.lt_or_ge i listed.size with h' | h'
      · simp [h']
      · simp [Array.getElem?_eq_none h'] at h1
    · rw [getD_set_ne false (Ne.symm hei)]; exact h1
  by_cases hki : k = i
  · subst hki
    obtain ⟨_, o, ho, hall⟩ := mem_ready.1 hi
    rw [hk] at ho
    cases ho
    exact key (hall e he hb)
  · rw [getD_set_ne false (Ne.symm hki)] at hl
    exact key (h k ok hk hl e he hb)
def reachB (md : Region.Mode) (ops : Array Oper) (i : Nat) : Nat → Nat → Bool
  | 0, _ => false
  | f + 1, j => match ops[j]? with
    | some o => o.after.any fun e => Region.binds md e && (Nat.beq e.on i || reachB md ops i f e.on)
    | none => false
theorem reach_spec {i : Nat} {listed : Array Bool} (hC : Closed md ops listed) : ∀ (f j : Nat) (oj : Oper), ops[j]? = some oj → reachB md ops i f j = true → (∀ e ∈ oj.after, Region.binds md e = true → listed.getD e.on false = true) → listed.getD i false = true
  | 0, j, oj, _, h, _ => by simp [reachB] at h
  | f + 1, j, oj, hj, h, hall => by
    simp only [reachB, hj, Array.any_eq_true, Bool.and_eq_true, Bool.or_eq_true] at h
    obtain ⟨k, hk, hb, h2⟩ := h
    have hm : oj.after[k] ∈ oj.after := Array.getElem_mem hk
    have h3 := hall _ hm hb
    rcases h2 with h2 | h2
    · rw [← Nat.eq_of_beq_eq_true h2]; exact h3
    · cases ho : ops[oj.after[k].on]? with
      | none => cases f <;> simp [reachB, ho] at h2
      | some ok => exact reach_spec hC f _ ok ho h2 (hC _ ok ho h3)
/-- Each operation of the end comes behind i. -/
def Behind (md : Region.Mode) (ops : Array Oper) (tl : List Nat) (i : Nat) : Prop := ∀ j ∈ tl, reachB md ops i ops.size j = true
theorem wpAnyT_first {tl : List Nat} {i : Nat} {oi : Oper} {v : Value} (hi : ops[i]? = some oi) (hsel : ∀ (j : Nat) (o : Oper) cs b, ops[j]? = some o → o.op ≠ .select cs b)
    (hT : Behind md ops tl i) (hE : ∀ listed a w, E listed a w → ∀ j ∈ Region.ready md ops listed, j ∈ tl) :
    ∀ (f : Nat) (listed : Array Bool) (a : Act) (w : World),
      (∀ j oj, ops[j]? = some oj → j ≠ i → listed.getD j true = false → (∀ e ∈ oj.after, Region.binds md e = true → e.on ≠ i) → oi.apart ops oj = true) →
      Closed md ops listed → i ∈ Region.ready md ops listed → C w → Qv P ops C oi v a →
      wpAnyT P md ops C E f (listed.setIfInBounds i true) (a.put oi.dst v) w → wpAnyT P md ops C E (f + 1) listed a w := by
  intro f
  induction f with
  | zero =>
    intro listed a w _ hcl hr hC hy H
    refine ⟨fun h => (by rw [h] at hr; cases hr), fun j hj => ?_⟩
    by_cases hji : j = i
    · subst hji; exact hy.opC hi hC H
    · have h1 := hE _ _ _ H j (ready_mono hj hji)
      obtain ⟨_, oj, hoj, hall⟩ := mem_ready.1 hj
      have h2 := reach_spec hcl _ j oj hoj (hT j h1) hall
      have h0 := (mem_ready.1 hr).1
      exfalso
      rcases Nat.lt_or_ge i listed.size with h' | h'
      · simp [h'] at h0 h2; rw [h0] at h2; cases h2
      · simp [Array.getElem?_eq_none h'] at h2
  | succ f ih =>
    intro listed a w hfree hcl hr hC hy H
    refine ⟨fun h => (by rw [h] at hr; cases hr), fun j hj => ?_⟩
    by_cases hji : j = i
    · subst hji; exact hy.opC hi hC H
    · have h1 := H.2 j (ready_mono hj hji)
      obtain ⟨hjun, oj, hoj, hall⟩ := mem_ready.1 hj
      have hnot : ∀ e ∈ oj.after, Region.binds md e = true → e.on ≠ i := fun e he hb heq => by
        have h2 := hall e he hb
        have h0 := (mem_ready.1 hr).1
        rw [heq] at h2
        rcases Nat.lt_or_ge i listed.size with h' | h'
        · simp [h'] at h0 h2; rw [h0] at h2; cases h2
        · simp [Array.getElem?_eq_none h'] at h2
      have hap := hfree j oj hoj hji hjun hnot
      obtain ⟨_, _, h3⟩ := Oper.apart_spec hap
      have hfree' : ∀ k ok, ops[k]? = some ok → k ≠ i → (listed.setIfInBounds j true).getD k true = false →
          (∀ e ∈ ok.after, Region.binds md e = true → e.on ≠ i) → oi.apart ops ok = true := fun k ok hk hki hun hno => by
        refine hfree k ok hk hki ?_ hno
        by_cases hjk : j = k
        · subst hjk; exact hjun
        · rw [getD_set_ne true hjk] at hun; exact hun
      refine opC_put hoj hap (fun cs b => hsel j oj cs b hoj) (fun b u w' hb hC' h4 => ?_) hC h1
      refine ih (listed.setIfInBounds j true) _ w' hfree' (hcl.set hj) (ready_mono hr (Ne.symm hji)) hC' ((hy.same hb).keep (fun cs b => hsel i oi cs b hi) h3) ?_
      rw [Array.setIfInBounds_comm _ _ hji]
      exact h4
theorem wpAnyT_mono {C' : World → Prop} (hC : ∀ x, C' x → C x) : ∀ (f : Nat) (listed : Array Bool) (a : Act) (w : World), wpAnyT P md ops C' E f listed a w → wpAnyT P md ops C E f listed a w
  | 0, _, _, _, h => h
  | f + 1, listed, a, w, h => ⟨h.1, fun i hi => by
      have h1 := h.2 i hi
      unfold opC at *
      split
      · rename_i ho; rw [ho] at h1; exact wpAnyT_mono hC f _ a w h1
      · rename_i o ho
        rw [ho] at h1
        simp only at h1
        split
        · rename_i hw; rw [if_pos hw] at h1; exact wp_mono_K (fun a' w' hx => ⟨hC _ hx.1, wpAnyT_mono hC f _ a' w' hx.2⟩) h1
        · rename_i hw; rw [if_neg hw] at h1; exact wpAnyT_mono hC f _ _ w h1⟩
def behindB (md : Region.Mode) (ops : Array Oper) (tl : List Nat) (i : Nat) : Bool := tl.all fun j => reachB md ops i ops.size j
theorem behindB_spec {tl : List Nat} {i : Nat} (h : behindB md ops tl i = true) : Behind md ops tl i := fun j hj => List.all_eq_true.1 h j hj
def chainB (md : Region.Mode) (ops : Array Oper) : List Nat → Array Bool → Bool
  | [], listed => (Region.ready md ops listed).isEmpty
  | j :: r, listed => (ops[j]?).isSome && decide (Region.ready md ops listed = [j]) && chainB md ops r (listed.setIfInBounds j true)
def tailOps (l : List Oper) : List Nat → List Oper
  | [] => []
  | j :: r => match l[j]? with
    | some o => o :: tailOps l r
    | none => tailOps l r
theorem chain_any : ∀ (tl : List Nat) (listed : Array Bool) (a : Act) (w : World), chainB md ops tl listed = true → wpList P ops Q (tailOps ops.toList tl) a w → wpAny P md ops Q tl.length listed a w
  | [], listed, a, w, hB, h => ⟨by simpa [chainB] using hB, h⟩
  | j :: r, listed, a, w, hB, h => by
    simp only [chainB, Bool.and_eq_true, decide_eq_true_eq] at hB
    obtain ⟨⟨h0, h1⟩, h2⟩ := hB
    obtain ⟨o, ho⟩ := Option.isSome_iff_exists.1 h0
    have hol : ops.toList[j]? = some o := by simpa using ho
    simp only [tailOps, hol] at h
    refine ⟨fun h3 => (by rw [h1] at h3; cases h3), fun i hi => ?_⟩
    rw [h1] at hi
    have hji : i = j := by simpa using hi
    subst hji
    unfold wpOp
    unfold wpList at h
    simp only [ho]
    split at h
    · rename_i hw
      rw [if_pos hw]
      exact h.imp (fun hh => Oper.wp_mono (fun a' w' hx => chain_any r _ a' w' h2 hx) hh) id
    · rename_i hw
      rw [if_neg hw]
      exact chain_any r _ _ w h2 h
def mixBT (md : Region.Mode) (ops : Array Oper) (tl : List Nat) : List (Nat × Bool) → Array Bool → Bool
  | [], listed => chainB md ops tl listed
  | (i, q) :: r, listed => (ops[i]?).isSome && (if q then (Region.ready md ops listed).contains i && Region.free md ops listed i && behindB md ops tl i else decide (Region.ready md ops listed = [i])) && mixBT md ops tl r (listed.setIfInBounds i true)
theorem chain_in {tl : List Nat} {listed : Array Bool} (h : chainB md ops tl listed = true) : ∀ j ∈ Region.ready md ops listed, j ∈ tl := by
  intro j hj
  cases tl with
  | nil => simp only [chainB, List.isEmpty_iff] at h; rw [h] at hj; cases hj
  | cons k r =>
    simp only [chainB, Bool.and_eq_true, decide_eq_true_eq] at h
    rw [h.1.2] at hj
    simp at hj
    simp [hj]
theorem wpAnyT_of_mix {tl : List Nat} (hs : Region.noSelect ops = true) : ∀ {C : World → Prop} (ord : List (Nat × Bool)) (listed : Array Bool) (a : Act) (w : World), Closed md ops listed → C w → mixBT md ops tl ord listed = true →
    wpMix P ops C (fun a w => wpList P ops Q (tailOps ops.toList tl) a w) (ordOps ops.toList ord) a w →
    wpAnyT P md ops C (fun listed a w => chainB md ops tl listed = true ∧ wpList P ops Q (tailOps ops.toList tl) a w) ord.length listed a w
  | _, [], listed, a, w, _, _, hB, h => ⟨hB, h⟩
  | _, (i, q) :: r, listed, a, w, hcl, hC, hB, h => by
    simp only [mixBT, Bool.and_eq_true] at hB
    obtain ⟨⟨h0, h1⟩, h2⟩ := hB
    obtain ⟨o, ho⟩ := Option.isSome_iff_exists.1 h0
    have hol : ops.toList[i]? = some o := by simpa using ho
    simp only [ordOps, hol] at h
    cases q with
    | true =>
      simp only [if_true, Bool.and_eq_true] at h1
      simp only [wpMix] at h
      have hr : i ∈ Region.ready md ops listed := by simpa using h1.1.1
      have hT := behindB_spec h1.2
      split at h
      · rename_i hw
        obtain ⟨v, hv, hk⟩ := h
        exact wpAnyT_first ho (Region.noSelect_spec hs) hT (fun _ _ _ hx => chain_in hx.1) r.length listed a w (Region.free_spec ho h1.1.2) hcl hr hC (.inl ⟨hw, hv⟩) (wpAnyT_of_mix hs r _ _ _ (hcl.set hr) hC h2 hk)
      · rename_i hw
        exact wpAnyT_first ho (Region.noSelect_spec hs) hT (fun _ _ _ hx => chain_in hx.1) r.length listed a w (Region.free_spec ho h1.1.2) hcl hr hC (.inr ⟨by simpa using hw, rfl⟩) (wpAnyT_of_mix hs r _ _ _ (hcl.set hr) hC h2 h)
    | false =>
      simp only [Bool.false_eq_true, if_false, decide_eq_true_eq] at h1
      simp only [wpMix] at h
      refine ⟨fun h3 => (by rw [h1] at h3; cases h3), fun j hj => ?_⟩
      rw [h1] at hj
      have hji : j = i := by simpa using hj
      subst hji
      have hcl' := hcl.set (i := j) (by rw [h1]; simp)
      unfold opC
      simp only [ho]
      split at h
      · rename_i hw
        rw [if_pos hw]
        exact wp_mono_K (fun a' w' hx => ⟨hx.1, by obtain ⟨C', h5, h6, h7⟩ := hx.2; exact wpAnyT_mono h6 _ _ _ _ (wpAnyT_of_mix hs r _ _ _ hcl' h5 h2 h7)⟩) h
      · rename_i hw
        rw [if_neg hw]
        exact wpAnyT_of_mix hs r _ _ _ hcl' hC h2 h
def mixOkT (md : Region.Mode) (ops : Array Oper) (ord : List (Nat × Bool)) (tl : List Nat) : Bool := Region.noSelect ops && decide (ord.length + tl.length = ops.size) && mixBT md ops tl ord (Array.replicate ops.size false)
/-- A region that draws: 'ord' in any order that its edges let, then 'tl' in its one order. -/
theorem c_mixT {id : Nat} {lo : List Oper} {a : Act} {w : World} (ord : List (Nat × Bool)) (tl : List Nat) (C : World → Prop) (hm : P.follows .mixedOrders = true) (hB : mixOkT .any lo.toArray ord tl = true)
    (h : ∀ w', Md [] w w' → C w' ∧ wpMix P lo.toArray C (fun a w => wpList P lo.toArray Q (tailOps lo tl) a w) (ordOps lo ord) a w') : (Code.region id lo.toArray true).wp P Q a w := by
  simp only [mixOkT, Bool.and_eq_true, decide_eq_true_eq] at hB
  obtain ⟨⟨h1, h2⟩, h3⟩ := hB
  obtain ⟨hC, hk⟩ := h _ (Md.drew w)
  refine wp_region_any hm ?_
  have := wpAnyT_of_mix (md := .any) (C := C) (Q := Q) (tl := tl) h1 ord _ a _ (fun k ok hk hl => by simp [Array.getD_eq_getD_getElem?, Array.getElem?_replicate] at hl; split at hl <;> simp at hl) hC h3 (by simpa using hk)
  have fin := wpAny_of_T (Q := Q) (t := tl.length) (E := fun listed a w => chainB .any lo.toArray tl listed = true ∧ wpList P lo.toArray Q (tailOps lo.toArray.toList tl) a w) (fun listed a w hx => chain_any tl listed a w hx.1 hx.2) _ _ _ _ this
  rwa [h2] at fin
end
end Go.Wk
namespace Go.Wk
open Go Go.RowKit

theorem getE {α : Type} {l : List α} {i : Nat} (h : i < l.length) : ∃ x, l[i]? = some x := ⟨l[i], by simp [h]⟩
theorem one_cells {cs : List Value} (h : cs.all (fun u => u.oneCell') = true) : ∀ u ∈ cs, u.oneCell' = true := by simpa using h
theorem drop_get {α : Type} {l : List α} {i : Nat} {x : α} (h : l[i]? = some x) : l.drop i = x :: l.drop (i + 1) := by
  obtain ⟨h1, h2⟩ := List.getElem?_eq_some_iff.1 h
  rw [List.drop_eq_getElem_cons h1, h2]
theorem drop_end {α : Type} {l : List α} {i : Nat} (h : l.length ≤ i) : l.drop i = [] := List.drop_eq_nil_of_le h
/-- One of S, or new since w. -/
def Fsh (S : List Nat) (w : World) (b : Nat) : Prop := b ∈ S ∨ w.heap.size ≤ b
theorem Fsh.new {S S' : List Nat} {w w' : World} (M : Md S w w') : ∀ b, w'.heap.size ≤ b → Fsh S' w b := fun _ hb => .inr (Nat.le_trans M.size hb)
theorem Fsh.up {w : World} {Q : Nat → Prop} (u : Up w Q) : ∀ b, Fsh [] w b → Q b := fun b hb => hb.elim (fun h => by simp at h) (u b)
theorem Fsh.wid {S : List Nat} {w : World} {b : Nat} (h : Fsh [] w b) : Fsh S w b := h.elim (fun h => by simp at h) .inr
theorem Fsh.lift {S S' : List Nat} {w w' : World} (M : Md S w w') : ∀ b, Fsh [] w' b → Fsh S' w b := fun _ hb => hb.elim (fun h => by simp at h) (fun h => .inr (Nat.le_trans M.size h))
theorem nin_cons {x b : Nat} {l : List Nat} (h : x ≠ b) (k : x ∉ l) : x ∉ b :: l := by simp [h, k]
theorem nin_app {x : Nat} {l m : List Nat} (h : x ∉ l) (k : x ∉ m) : x ∉ l ++ m := by simp [h, k]
theorem all_cons {P : Nat → Prop} {b : Nat} {l : List Nat} (h : P b) (k : ∀ i ∈ l, P i) : ∀ i ∈ b :: l, P i := by
  intro i hi
  rcases List.mem_cons.1 hi with hi | hi
  · rw [hi]; exact h
  · exact k i hi
theorem all_app {P : Nat → Prop} {l m : List Nat} (h : ∀ i ∈ l, P i) (k : ∀ i ∈ m, P i) : ∀ i ∈ l ++ m, P i := by intro i hi; exact (List.mem_append.1 hi).elim (h i) (k i)
theorem all_nil {P : Nat → Prop} : ∀ i ∈ ([] : List Nat), P i := by simp
theorem all_row {P : Nat → Prop} {v : Value} (h : ∀ b, vblock v = some b → P b) : ∀ i ∈ (vblock v).toList, P i := by
  intro i hi
  cases hv : vblock v with
  | none => rw [hv] at hi; simp at hi
  | some b => rw [hv] at hi; simp at hi; subst hi; exact h _ hv
/-- Q' lets what Q let and was there, and no more than Q. -/
def NewQ (w w' : World) (Q Q' : Nat → Prop) : Prop := (∀ b, Q b → b < w.heap.size → Q' b) ∧ (∀ b, Q' b → Q b) ∧ Up w' Q'
section
variable {α β : Type} {T : Dt α} {U : Dt β} {w w' : World} {Q Q' : Nat → Prop} {v : Value} {xs : List α}
theorem Ls.head {hi : Nat} (h : Ls T w Q v xs) (h2 : hi ≤ xs.length) : Ls T w Q (subz T.n v 0 hi) (xs.take hi) := by simpa using h.part 0 hi (Nat.zero_le _) h2
theorem Ls.tail {lo : Nat} (h : Ls T w Q v xs) (h1 : lo ≤ xs.length) : Ls T w Q (subz T.n v lo xs.length) (xs.drop lo) := by simpa using h.part lo xs.length h1 (Nat.le_refl _)
theorem Ow.reP {e : Nat} {lo lo' : Nat → Prop} (h : Ow T e lo w Q v xs) (hl : ∀ b, vblock v = some b → lo' b) : Ow T e lo' w Q v xs := ⟨h.1, fun b hb => ⟨hl b hb, (h.2 b hb).2⟩⟩
theorem Ow.lower {e : Nat} {lo lo' : Nat → Prop} (h : Ow T e lo w Q v xs) (hl : ∀ b, lo b → lo' b) : Ow T e lo' w Q v xs := ⟨h.1, fun b hb => ⟨hl b (h.2 b hb).1, (h.2 b hb).2⟩⟩
theorem Ow.freeze {e : Nat} {lo : Nat → Prop} (h : Ow T e lo w Q v xs) : ∃ Q' : Nat → Prop, (∀ b, Q b → Q' b) ∧ (∀ b, Q' b → Q b ∨ vblock v = some b) ∧ Ls T w Q' v xs :=
  ⟨fun b => Q b ∨ vblock v = some b, fun _ => .inl, fun _ => id, (h.reP (lo' := fun b => vblock v = some b) fun _ hb => hb).ls (fun _ => .inl) (fun _ => .inr)⟩
theorem Ow.subF {e : Nat} {lo : Nat → Prop} {v' : Value} (h : Ow T e lo w Q v xs) (s : ∀ b, Q b → Q' b) (t : ∀ b, Q' b → Q b ∨ vblock v' = some b) (dj : ∀ b, vblock v = some b → b ∉ (vblock v').toList) : Ow T e lo w Q' v xs := by
  obtain ⟨⟨cs, h1, h2⟩, h3⟩ := h
  exact ⟨⟨cs, h1, h2.sub fun b hb _ => s b hb⟩, fun b hb => ⟨(h3 b hb).1, fun hq => (t b hq).elim (h3 b hb).2 fun hv => dj b hb (by rw [hv]; simp)⟩⟩
theorem nfz {b : Nat} {v : Value} (h : b ∉ (vblock v).toList) (k : vblock v = some b) : False := h (by rw [k]; simp)
theorem Ls.offS {S : List Nat} {i : Nat} {x : α} (h : Ls T w Q v xs) (hi : xs[i]? = some x) (hs : ∀ b ∈ S, ¬ Q b) : ∀ b, vblock v = some b → b ∉ S := by
  obtain ⟨a, cap, cs, rfl, h1, h2, h3, h4, h5, h6⟩ := h
  intro b hb hm
  cases a with
  | none => simp [vblock] at hb
  | some p =>
    simp [vblock] at hb
    subst hb
    exact hs _ hm (h4 p rfl (by rintro rfl; simp at hi))
theorem At.md {S : List Nat} {k : Nat} {c : List Value} (h : At w v k c) (m : Md S w w') (hs : ∀ b, vblock v = some b → b ∉ S) : At w' v k c := by
  obtain ⟨p, l, cp, rfl, h1⟩ := h
  exact ⟨p, l, cp, rfl, fun j u hj => m.cell (h1 j u hj) (by rw [Addr.add_block]; exact hs _ rfl)⟩
theorem Ow.blk_ne {e ty b : Nat} {lo : Nat → Prop} {cs : List Value} (h : Ow T e lo w Q v xs) (hB : Blk w b cs ty) (hne : Nat.beq e ty = false) : ∀ b', vblock v = some b' → b' ≠ b := by
  obtain ⟨⟨cx, h1, h2⟩, h3⟩ := h
  exact h1.ne hB hne
theorem apart_bo {e ty b : Nat} {lo : Nat → Prop} {cs : List Value} (hB : Blk w b cs ty) (h : Ow T e lo w Q v xs) (hne : Nat.beq e ty = false) : ∀ b', vblock v = some b' → b' ∉ [b] :=
  fun b' hb => by simpa using h.blk_ne hB hne b' hb
theorem apart_ow {e ty b : Nat} {lo : Nat → Prop} {cs : List Value} (h : Ow T e lo w Q v xs) (hB : Blk w b cs ty) (hne : Nat.beq e ty = false) : b ∉ (vblock v).toList := by
  intro hb
  cases hv : vblock v with
  | none => rw [hv] at hb; simp at hb
  | some c => rw [hv] at hb; simp at hb; exact h.blk_ne hB hne c hv hb.symm
theorem Own.ne_own {e e' sz sz' m m' : Nat} {v v' : Value} {cs cs' : List Value} (h : Own w e sz v m cs) (k : Own w e' sz' v' m' cs') (hne : Nat.beq e e' = false) : ∀ b, vblock v = some b → vblock v' ≠ some b := by
  intro b hb hb'
  rcases h.2 with ⟨rfl, _⟩ | ⟨g, cap, cur, rfl, _, hg, _⟩
  · simp [vblock] at hb
  rcases k.2 with ⟨rfl, _⟩ | ⟨g', cap', cur', rfl, _, hg', _⟩
  · simp [vblock] at hb'
  simp [vblock] at hb hb'
  subst hb; subst hb'
  rw [hg] at hg'
  simp at hg'
  rw [hg'.2] at hne
  simp at hne
theorem apart_dj {v v' : Value} (h : ∀ x, vblock v = some x → vblock v' ≠ some x) : ∀ b, vblock v' = some b → b ∉ (vblock v).toList := by
  intro b hb hm
  cases hv : vblock v with
  | none => rw [hv] at hm; simp at hm
  | some c => rw [hv] at hm; simp at hm; subst hm; exact h _ hv hb
theorem dj_sym {v v' : Value} (h : ∀ x, vblock v = some x → vblock v' ≠ some x) : ∀ x, vblock v' = some x → vblock v ≠ some x := fun x hx hh => h x hh hx
theorem apart_oo {e e' : Nat} {lo lo' : Nat → Prop} {v' : Value} {ys : List β} (h : Ow T e lo w Q v xs) (k : Ow U e' lo' w Q' v' ys) (hne : Nat.beq e e' = false) : ∀ b, vblock v' = some b → b ∉ (vblock v).toList := by
  intro b hb hm
  obtain ⟨⟨cx, h1, h2⟩, h3⟩ := h
  obtain ⟨⟨cy, k1, k2⟩, k3⟩ := k
  cases hv : vblock v with
  | none => rw [hv] at hm; simp at hm
  | some c => rw [hv] at hm; simp at hm; subst hm; exact h1.ne_own k1 hne _ hv hb
end
section
variable {P : Program} {Q : Exit → Act → World → Prop} {n : Nat} {A : Fr n} {D : List Deferred} {l : List (Nat × Value)} {w : World}
end
end Go.Wk
namespace Go.Wk
open Go Go.RowKit
end Go.Wk
namespace Go.Wk
open Go Go.RowKit
theorem ones_app {a b : List Value} (h : a.all (fun u => u.oneCell') = true) (h2 : b.all (fun u => u.oneCell') = true) : (a ++ b).all (fun u => u.oneCell') = true := by rw [List.all_append, h, h2]; rfl
theorem ones_1 {v : Value} (h : v.oneCell' = true) : [v].all (fun u => u.oneCell') = true := by simp [h]
structure Pr where
  name : List UInt8
  value : List UInt8
structure Frame where
  kind : Nat
  flags : Nat
  size : Nat
structure RHead where
  compat : Nat
  incompat : Nat
  state : Nat
  file : List UInt8
  machine : List UInt8
  boot : List UInt8
  seq : List UInt8
  n : List Nat
  tailArray : Nat
  tailItems : Nat
  tailEntry : Nat
structure Cfg where
  file : List UInt8
  machine : List UInt8
  seq : List UInt8
  dataSlots : Nat
  fieldSlots : Nat
  most : Nat
  keyed : Bool
structure Known where
  text : List UInt8
  pos : Nat
  slot : Nat
  count : Nat
  arrays : List Nat
structure Mk where
  c : Cfg
  h : RHead
  depth : Nat
  b : List UInt8
  datas : List Known
  fields : List Known
  main : List Nat
end Go.Wk
namespace Go.Wk
open Go Go.RowKit
end Go.Wk
namespace Go.Wk
open Go Go.RowKit
end Go.Wk
namespace Go.Wk
open Go Go.RowKit
section
variable {m y : Mk} {v1 v2 v3 v4 : Value} {w : World} {b t i v j : Nat}
end
section
variable {P : Program}
end
end Go.Wk
namespace Go.Wk
open Go Go.RowKit
theorem apart_nb {v : Value} {b : Nat} (h : ∀ x, vblock v = some x → x ≠ b) : b ∉ (vblock v).toList := by
  cases hv : vblock v with
  | none => simp
  | some c => simp; exact fun e => h c hv e.symm
theorem apart_nb2 {v : Value} {b : Nat} (h : ∀ x, vblock v = some x → x ≠ b) : ∀ x, vblock v = some x → x ∉ [b] := fun x hx hh => h x hx (by simpa using hh)
end Go.Wk
namespace Go.Wk
open Go Go.RowKit
section
variable {P : Program} {n : Nat} {A : Fr n} {D : List Deferred} {l : List (Nat × Value)} {w : World} {d : Option Tmp} {ty : TypeId} {ps : String} {af : Array Edge} {g : Option (Nat × Bool)}
end
end Go.Wk
namespace Go.Wk
open Go Go.RowKit
section
variable {P : Program} {n : Nat} {A : Fr n} {D : List Deferred} {l : List (Nat × Value)} {w : World} {d : Option Tmp} {ty : TypeId} {ps : String} {af : Array Edge} {g : Option (Nat × Bool)}
theorem r_remZ {x y : Operand} {t u : TypeId} {k : IntKind} {a b : Int} (hx : ev n l x = some (.int k a)) (hy : ev n l y = some (.int k b)) (h : b ≠ 0) :
    RunV P ⟨d, .binOp .rem t x y u, ty, ps, af, g⟩ (over A D l).eval w (.int k (a.tmod b)) := r_rem hx hy h
end
def numF (k : Int) (n : Nat) : Nat := if n < 1 then 0 else ((k.tmod n + n).tmod n).toNat
theorem numF_lt (k : Int) (n : Nat) : n < 1 ∨ numF k n < n := by
  unfold numF
  by_cases h : n < 1
  · exact .inl h
  · rw [if_neg h]
    have h1 := Int.tmod_lt_of_pos (k.tmod n + n) (show (0 : Int) < n by omega)
    right; omega
theorem num_ge {k : Int} {n : Nat} (h : ¬ n < 1) : 0 ≤ k.tmod n + n ∧ k.tmod n + n < 2 * n := by
  have h1 := Int.tmod_lt_of_pos k (show (0 : Int) < n by omega)
  have h2 := Int.lt_tmod_of_pos k (show (0 : Int) < n by omega)
  omega
end Go.Wk
namespace Go.Wk
open Go Go.Op

end Go.Wk
namespace Go.Wk
open Go Go.RowKit
section
variable {P : Program} {n : Nat} {A : Fr n} {D : List Deferred} {l : List (Nat × Value)} {w : World} {d : Option Tmp} {ty : TypeId} {ps : String} {af : Array Edge} {g : Option (Nat × Bool)}
end
def eqT : List (List UInt8) → List (List UInt8) → Bool
  | [], _ => true
  | p :: r, q :: s => if p = q then eqT r s else false
  | _ :: _, [] => false
def sameTextsF (a b : List (List UInt8)) : Bool := if a.length = b.length then eqT a b else false
theorem eqT_end {a b : List (List UInt8)} {i : Nat} (h : ¬ i < a.length) : eqT (a.drop i) b = true := by rw [drop_end (by omega)]; rfl
theorem eqT_step {a b : List (List UInt8)} {i : Nat} {p q : List UInt8} (h : a[i]? = some p) (k : b[i]? = some q) : eqT (a.drop i) (b.drop i) = if p = q then eqT (a.drop (i + 1)) (b.drop (i + 1)) else false := by
  rw [drop_get h, drop_get k]; rfl
theorem eqT_self (a : List (List UInt8)) : eqT a a = true := by
  induction a with
  | nil => rfl
  | cons p r ih => simp [eqT, ih]
end Go.Wk
namespace Go.Wk
open Go Go.RowKit

/-! ### Worlds that draw and grow -/
section
variable {P : Program} {ops : Array Oper} {Q : Exit → Act → World → Prop} {rest : List Oper}
variable {n : Nat} {A : Fr n} {D : List Deferred} {l : List (Nat × Value)} {w : World}
variable {d : Tmp} {op : Op} {ty : TypeId} {ps : String} {af : Array Edge} {g : Option (Nat × Bool)}
/-! ### A row that is cleared -/
theorem st_clear {x : Operand} {t e : TypeId} {b o m c : Nat} {cs zs : List Value} (ht : P.underlying t = some (.slice e)) (hz : zcells P e = some zs) (h1 : ∀ u ∈ zs, u.oneCell' = true) (hx : ev n l x = some (.slice (some ⟨b, o, none⟩) m c)) (h0 : 0 < m)
    (hB : Blk w b cs e) (hj : o + m * zs.length ≤ cs.length) (k : ∀ w' us, Md [b] w w' → us.length = m * zs.length → Blk w' b (splice cs o us) e → wpList P ops Q rest (over A D l) w') :
    wpList P ops Q (⟨none, .call { callee := .builtin .clear, args := #[x], argTypes := #[t] }, ty, ps, af, none⟩ :: rest) (over A D l) w := by
  refine wl_plain rfl ?_
  unfold zcells at hz
  split at hz
  · rename_i i hi
    split at hz
    · rename_i z hzz
      simp only [Option.some.injEq] at hz
      subst hz
      have hzl : (Builtin.zeroCells z.cells m).toList.length = m * z.cells.toList.length := by simp [Builtin.zeroCells]
      have h1' : ∀ u ∈ (Builtin.zeroCells z.cells m).toList, u.oneCell' = true := by
        intro u hu
        simp only [Builtin.zeroCells, Array.toList_map, List.mem_map] at hu
        obtain ⟨j, hj', rfl⟩ := hu
        have hj2 : j < m * z.cells.size := by simpa using hj'
        have hp : 0 < z.cells.size := by
          rcases Nat.eq_zero_or_pos z.cells.size with h | h
          · rw [h] at hj2; omega
          · exact h
        have hlt := Nat.mod_lt j hp
        rw [getElem!_pos z.cells (j % z.cells.size) hlt]
        exact h1 _ (by simp)
      have hst := run_storeCells_at P b o e (Builtin.zeroCells z.cells m).toList 0 cs.toArray w hB (by simp only [hzl]; simpa using hj) h1'
      obtain ⟨m', rfl⟩ : ∃ m', m = m' + 1 := ⟨m - 1, by omega⟩
      have hrun : (execOp (over A D l).eval ⟨none, .call { callee := .builtin .clear, args := #[x], argTypes := #[t] }, ty, ps, af, none⟩).run P w = .ok (.value (.tuple #[])) (w.setRow b (splice cs o (Builtin.zeroCells z.cells (m' + 1)).toList).toArray) := by
        simp [execOp, resolve, invoke, builtin, ev_eval hx, Builtin.clear_, run_underlying ht, zeroValue, typeInfo, hi, hzz, splice] at hst ⊢
        simp [hst]
      unfold Oper.wp
      rw [hrun]
      exact k _ _ (Md.setRow w b _) hzl hB.setRow
    · cases hz
  · cases hz
end

section
variable {P : Program} {n : Nat} {A : Fr n} {D : List Deferred} {l : List (Nat × Value)} {w : World} {d : Option Tmp} {ty : TypeId} {ps : String} {af : Array Edge} {g : Option (Nat × Bool)}
theorem r_eqlSN {x : Operand} {t u e : TypeId} {a : Option Addr} {m c : Nat} (hx : ev n l x = some (.slice a m c)) (hT : P.underlying t = some (.slice e)) :
    RunV P ⟨d, .binOp .eql t x (.const (.slice none 0 0)) u, ty, ps, af, g⟩ (over A D l).eval w (.bool a.isNone) := by
  have h := Go.Lib.run_eql_slice_nil (P := P) w t e a m c 0 0 hT
  have hc : (over A D l).eval (.const (.slice none 0 0)) = .slice none 0 0 := rfl
  have hg : (eqGuard .eql t x (.const (.slice none 0 0)) (.slice a m c) (.slice none 0 0)).run P w = .ok () w := by unfold eqGuard; simp
  simp [RunV, execOp, ev_eval hx, hc, hg, h]
end

/-! ### A row of pairs in a block -/
section
variable {w w' : World} {b cap : Nat} {xs : List Pr}
end

/-! ### What is twice is once -/
end Go.Wk
namespace Go.Wk
open Go Go.RowKit
section
variable {P : Program} {n : Nat} {A : Fr n} {D : List Deferred} {l : List (Nat × Value)} {w : World} {ops : Array Oper} {rest : List Oper} {Q : Exit → Act → World → Prop} {d : Tmp} {ty : TypeId} {ps : String} {af : Array Edge} {R R' : Nat → Prop}
theorem r_quoZ {d : Option Tmp} {g : Option (Nat × Bool)} {x y : Operand} {t u : TypeId} {a b : Int} (hx : ev n l x = some (.int .i64 a)) (hy : ev n l y = some (.int .i64 b)) (h : b ≠ 0 ∧ -9223372036854775808 ≤ a.tdiv b ∧ a.tdiv b ≤ 9223372036854775807) :
    RunV P ⟨d, .binOp .quo t x y u, ty, ps, af, g⟩ (over A D l).eval w (.int .i64 (a.tdiv b)) := (r_quo hx hy h.1).castI (wrap_i64 h.2.1 h.2.2)
theorem st_copyOw {x y : Operand} {t t' e : TypeId} {lo : Nat → Prop} {i : Nat} {v u : Value} {xs ys : List UInt8} (ht : P.underlying t = some (.slice e)) (hE : elemIs P e 1 = true) (hx : ev n l x = some (subz 1 v i xs.length)) (hy : ev n l y = some u)
    (hO : Ow tB8 e lo w R v xs) (hS : Ls tB8 w R' u ys) (h0 : 0 < ys.length) (hfit : i + ys.length ≤ xs.length)
    (k : ∀ w', Md (vblock v).toList w w' → (∀ b ∈ (vblock v).toList, ¬ R b) → Ow tB8 e lo w' R v (xs.take i ++ ys ++ xs.drop (i + ys.length)) → wpList P ops Q rest (over A D ((d, .int .i64 ((ys.length : Nat) : Int)) :: l)) w') :
    wpList P ops Q (⟨some d, .call { callee := .builtin .copy, args := #[x, y], argTypes := #[t, t'] }, ty, ps, af, none⟩ :: rest) (over A D l) w := by
  obtain ⟨⟨cx, h9, h10⟩, h11⟩ := hO
  obtain ⟨b, cap, cur, rfl, hB, h1, h2, h3, h4⟩ := h9.blk (by omega)
  obtain ⟨rfl, _⟩ := els_one_eq h10
  obtain ⟨hsl, _⟩ := hS.sl
  have hn : tB8.n = 1 := rfl
  rw [hn] at h3 h4
  refine st_copy (g := b) (o := i) (dLen := xs.length - i) (dCap := cap - i) ht hE (by rw [hx]; simp [subz, show ¬ cap = i by omega, Addr.add_mk]) hy hB hsl (fun u hu => by obtain ⟨z, _, rfl⟩ := List.mem_map.1 hu; rfl) (by rw [List.length_map]; omega) fun w' hm hb => ?_
  rw [List.length_map, Nat.min_eq_left (by omega)]
  have hb2 := Own.of_blk (sz := 1) (m := xs.length) hb h1 h2 (by rw [splice_len (by simp; omega), h3])
  have e1 : (splice cur i ((ys.map b8).take (xs.length - i))).take (xs.length * 1) = (xs.take i ++ ys ++ xs.drop (i + ys.length)).map b8 := by
    rw [Nat.mul_one] at h4 ⊢
    have e2 : (ys.map b8).take (xs.length - i) = ys.map b8 := List.take_of_length_le (by rw [List.length_map]; omega)
    have l1 : (cur.take i ++ ys.map b8).length = i + ys.length := by rw [List.length_append, List.length_take, List.length_map]; omega
    rw [e2]
    unfold splice
    rw [List.map_append, List.map_append, List.map_take, List.map_drop, ← h4, List.take_append, List.take_of_length_le (by omega : (cur.take i ++ ys.map b8).length ≤ xs.length), l1, List.take_take, Nat.min_eq_left (by omega : i ≤ xs.length), List.drop_take, List.length_map]
  rw [e1] at hb2
  have hl : (xs.take i ++ ys ++ xs.drop (i + ys.length)).length = xs.length := by simp; omega
  refine k w' (by simpa [vblock] using hm) (fun b' hb' => by simp [vblock] at hb'; subst hb'; exact (h11 _ rfl).2) ⟨⟨_, by rw [hl]; exact hb2, els_one (fun _ _ => trivial)⟩, h11⟩
end
theorem td512 {x : Nat} (h : 0 < x) : ((x : Int) - 1).tdiv 512 = (((x - 1) / 512 : Nat) : Int) := by rw [show (x : Int) - 1 = ((x - 1 : Nat) : Int) by omega]; rfl
/-- Bytes with others at a place. -/
def writeF (b : List UInt8) (p : Nat) (x : List UInt8) : List UInt8 :=
  (b ++ List.replicate (p + x.length - b.length) 0).take p ++ x ++ (b ++ List.replicate (p + x.length - b.length) 0).drop (p + x.length)
theorem write_in {b x : List UInt8} {p : Nat} (h : p + x.length ≤ b.length) : writeF b p x = b.take p ++ x ++ b.drop (p + x.length) := by
  unfold writeF; rw [show p + x.length - b.length = 0 by omega]; simp
theorem write_more {b x : List UInt8} {p n : Nat} (h : n = p + x.length - b.length) : writeF b p x = (b ++ List.replicate n 0).take p ++ x ++ (b ++ List.replicate n 0).drop (p + x.length) := by
  subst h; rfl
/-- What stands in a sector. -/
def secF (b : List UInt8) (i : Nat) : List UInt8 := (b.take (min (min (i * 512) b.length + 512) b.length)).drop (min (i * 512) b.length)
def secN (b s : List UInt8) : Nat := (max b.length s.length + 511) / 512
def dirF (b s : List UInt8) (n : Nat) : List Nat := (List.range n).filter fun i => !decide (secF b i = secF s i)
def lostF (d : List Nat) (keep : List Bool) (n : Nat) : List Nat := ((List.range n).filter fun i => !(keep.getD i false)).map fun i => d.getD i 0
def outF (b s : List UInt8) (lost : List Nat) : Nat → List UInt8
  | 0 => []
  | n + 1 => if (if n ∈ lost then secF s n else secF b n).length = 0 then outF b s lost n else outF b s lost n ++ List.replicate (n * 512 - (outF b s lost n).length) 0 ++ (if n ∈ lost then secF s n else secF b n)
def crashB (b s : List UInt8) (keep : List Bool) : List UInt8 := outF b s (lostF (dirF b s (secN b s)) keep (dirF b s (secN b s)).length) (secN b s)
theorem dirF_len (b s : List UInt8) (n : Nat) : (dirF b s n).length ≤ n := by unfold dirF; have := List.length_filter_le (fun i => !decide (secF b i = secF s i)) (List.range n); simpa using this
theorem keep_out {keep : List Bool} {i : Nat} (h : keep.length ≤ i) : keep.getD i false = false := by rw [List.getD_eq_getElem?_getD, List.getElem?_eq_none h]; rfl
theorem keep_in {keep : List Bool} {i : Nat} {b : Bool} (h : keep[i]? = some b) : keep.getD i false = b := by rw [List.getD_eq_getElem?_getD, h]; rfl
theorem lostF_yes {d : List Nat} {keep : List Bool} {n x : Nat} (h : d[n]? = some x) (hk : keep.getD n false = false) : lostF d keep n ++ [x] = lostF d keep (n + 1) := by
  unfold lostF
  rw [List.range_succ, List.filter_append, List.map_append]
  simp only [List.getD_eq_getElem?_getD] at hk
  simp [hk, h]
theorem lostF_no {d : List Nat} {keep : List Bool} {n x : Nat} (h : d[n]? = some x) (hk : keep.getD n false = true) : lostF d keep n = lostF d keep (n + 1) := by
  unfold lostF
  rw [List.range_succ, List.filter_append, List.map_append]
  simp only [List.getD_eq_getElem?_getD] at hk
  simp [hk]
/-- The first place of a number, or -1. -/
def idxR (v : Nat) : List Nat → Nat → Int
  | [], _ => -1
  | x :: r, i => if v = x then ((i : Nat) : Int) else idxR v r (i + 1)
theorem idxR_end {v i : Nat} {l : List Nat} (h : ¬ i < l.length) : idxR v (l.drop i) i = -1 := by rw [List.drop_of_length_le (by omega)]; rfl
theorem idxR_get {i x : Nat} {l : List Nat} (h : l[i]? = some x) : l.drop i = x :: l.drop (i + 1) := by
  obtain ⟨h1, h2⟩ := List.getElem?_eq_some_iff.1 h
  rw [← h2]; exact List.drop_eq_getElem_cons h1
theorem idxR_yes {v i x : Nat} {l : List Nat} (h : l[i]? = some x) (hv : v = x) : idxR v (l.drop i) i = ((i : Nat) : Int) := by rw [idxR_get h, idxR, if_pos hv]
theorem idxR_no {v i x : Nat} {l : List Nat} (h : l[i]? = some x) (hv : v ≠ x) : idxR v (l.drop i) i = idxR v (l.drop (i + 1)) (i + 1) := by rw [idxR_get h, idxR, if_neg hv]
theorem idxR_has (v : Nat) : ∀ (l : List Nat) (i : Nat), v ∈ l ↔ 0 ≤ idxR v l i
  | [], i => by simp [idxR]
  | x :: r, i => by
    rw [idxR]
    by_cases h : v = x
    · subst h; simp
    · rw [if_neg h, List.mem_cons]
      simp [h, idxR_has v r (i + 1)]
theorem secF_len (b : List UInt8) (i : Nat) : (secF b i).length ≤ 512 := by unfold secF; rw [List.length_drop, List.length_take]; omega
theorem outF_len (b s : List UInt8) (lost : List Nat) : ∀ n, (outF b s lost n).length ≤ n * 512
  | 0 => by simp [outF]
  | n + 1 => by
    have h := outF_len b s lost n
    have h1 := secF_len b n
    have h2 := secF_len s n
    have h3 : (if n ∈ lost then secF s n else secF b n).length ≤ 512 := by
      by_cases hm : n ∈ lost
      · rw [if_pos hm]; exact h2
      · rw [if_neg hm]; exact h1
    rw [outF]
    generalize (if n ∈ lost then secF s n else secF b n) = p at h3 ⊢
    by_cases hp : p.length = 0
    · rw [if_pos hp, Nat.succ_mul]; exact Nat.le_trans h (Nat.le_add_right _ _)
    · rw [if_neg hp, List.length_append, List.length_append, List.length_replicate, Nat.succ_mul, Nat.add_sub_of_le h]; exact Nat.add_le_add_left h3 _
theorem secF_pos {b : List UInt8} {i : Nat} (h : 0 < (secF b i).length) : i * 512 + (secF b i).length ≤ b.length := by
  unfold secF at h ⊢
  rw [List.length_drop, List.length_take] at h ⊢
  omega
theorem outF_max (b s : List UInt8) (lost : List Nat) : ∀ n, (outF b s lost n).length ≤ max b.length s.length
  | 0 => by simp [outF]
  | n + 1 => by
    have h := outF_max b s lost n
    have h0 := outF_len b s lost n
    rw [outF]
    by_cases hm : n ∈ lost
    · rw [if_pos hm]
      by_cases hp : (secF s n).length = 0
      · rw [if_pos hp]; exact h
      · rw [if_neg hp, List.length_append, List.length_append, List.length_replicate, Nat.add_sub_of_le h0]
        exact Nat.le_trans (secF_pos (by omega)) (Nat.le_max_right _ _)
    · rw [if_neg hm]
      by_cases hp : (secF b n).length = 0
      · rw [if_pos hp]; exact h
      · rw [if_neg hp, List.length_append, List.length_append, List.length_replicate, Nat.add_sub_of_le h0]
        exact Nat.le_trans (secF_pos (by omega)) (Nat.le_max_left _ _)
theorem crash_len (b s : List UInt8) (keep : List Bool) : (crashB b s keep).length ≤ max b.length s.length := outF_max _ _ _ _
end Go.Wk
namespace Go.Wk
open Go Go.RowKit
section
variable {P : Program}
theorem zeros_b8 (k : Nat) : (Builtin.zeroCells (Value.int .u8 0).cells k).toList = (List.replicate k (0 : UInt8)).map b8 := by
  apply List.ext_getElem?
  intro j
  simp only [Builtin.zeroCells, Array.toList_map, Array.toList_range, List.getElem?_map, Value.cells]
  by_cases h : j < k
  · simp [h, List.getElem?_range, List.getElem?_replicate, b8, Nat.mod_one]
  · simp [h, List.getElem?_replicate, List.getElem?_eq_none]
theorem run_zeros_room {t tn ty e : TypeId} {i : TypeInfo} {kq kn : IntKind} {w : World} {g m cap k : Nat} {cur : Array Value} (ht : P.underlying t = some (.slice e)) (htn : P.underlying tn = some (.int kn)) (hi : P.info? e = some i) (hz : i.zero = some (.int .u8 0)) (hsz : i.size = 1) (hby : i.bytes = 1)
    (hg : w.heap[g]? = some (.cells cur e (0, 0))) (hk : 0 < k) (hroom : m + k ≤ cap) (hc : cap ≤ cur.size) (h63 : m + k ≤ 1000000000) :
    (Builtin.append_ #[t, tn] ty #[.slice (some ⟨g, 0, none⟩) m cap, .int kq k]).run P w = .ok (.slice (some ⟨g, 0, none⟩) (m + k) cap) (w.setRow g (splice cur.toList m ((List.replicate k (0 : UInt8)).map b8)).toArray) := by
  have hst := run_storeCells_at (P := P) g m e ((List.replicate k (0 : UInt8)).map b8) 0 cur w hg (by simp; omega) (fun u hu => by obtain ⟨z, _, rfl⟩ := List.mem_map.1 hu; rfl)
  simp only [Nat.add_zero] at hst
  have hw : IntKind.i64.wrap (k : Int) = k := by rw [IntKind.wrap_i64]; omega
  have hneg : ¬ ((k : Int) < 0) := by omega
  have hk0 : ¬ k = 0 := by omega
  have h48 : ¬ (281474976710656 < (k : Int)) := by omega
  have hzz : (Builtin.zeroCells (Value.int .u8 0).cells k).toList = (List.replicate k (0 : UInt8)).map b8 := zeros_b8 k
  rw [List.map_replicate] at hst hzz ⊢
  rw [List.length_replicate] at hst
  simp [Builtin.append_, run_underlying ht, run_underlying htn, sizeOf, typeInfo, zeroValue, hi, hz, hsz, hby, asInt, asIntOf, hw, hroom, hneg, hk0, h48, hzz, Addr.add_lit, hst, splice]
theorem run_zeros_0 {t tn ty e : TypeId} {i : TypeInfo} {kq kn : IntKind} {w : World} {a : Option Addr} {m cap : Nat} (ht : P.underlying t = some (.slice e)) (htn : P.underlying tn = some (.int kn)) (hi : P.info? e = some i) (hm : m ≤ cap) :
    (Builtin.append_ #[t, tn] ty #[.slice a m cap, .int kq (0 : Nat)]).run P w = .ok (.slice a m cap) w := by
  have hw : IntKind.i64.wrap ((0 : Nat) : Int) = 0 := by rw [IntKind.wrap_i64]; omega
  cases a <;> simp [Builtin.append_, run_underlying ht, run_underlying htn, sizeOf, typeInfo, zeroValue, hi, asInt, asIntOf, hw, hm, storeCells, IntKind.wrap_i64]
variable {n : Nat} {A : Fr n} {D : List Deferred} {l : List (Nat × Value)} {w : World} {ops : Array Oper} {rest : List Oper} {Q : Exit → Act → World → Prop} {d : Tmp} {ty : TypeId} {ps : String} {af : Array Edge} {R : Nat → Prop}
theorem run_zeros_ex {t tn ty' e : TypeId} {kq kn : IntKind} (ht : P.underlying t = some (.slice e)) (htn : P.underlying tn = some (.int kn)) (hE : elT P e 1 1 = true) (hz8 : (P.info? e).bind (·.zero) = some (.int .u8 0)) {v : Value} {m k : Nat} {xs : List Value} (hO : Own w e 1 v m xs) (h63 : m + k ≤ 1000000000) :
    ∃ v' w', (Builtin.append_ #[t, tn] ty' #[v, .int kq k]).run P w = .ok v' w' ∧ Own w' e 1 v' (m + k) (xs ++ (List.replicate k (0 : UInt8)).map b8) ∧ Md (vblock v).toList w w' ∧ (∀ b, vblock v' = some b → vblock v = some b ∨ w.heap.size ≤ b) := by
  obtain ⟨i, z, hi, hz, hs, hb, hzs⟩ := elT_spec hE
  have hzz : z = .int .u8 0 := by rw [hi] at hz8; simp [hz] at hz8; exact hz8
  subst hzz
  rcases Nat.eq_zero_or_pos k with rfl | hk
  · rcases hO.2 with ⟨rfl, rfl⟩ | ⟨g, cap, cur, rfl, hbg, hg, hnc, hcm, hcs, htake⟩
    · exact ⟨_, w, run_zeros_0 ht htn hi (Nat.le_refl _), by simpa using hO, Md.refl _ _, fun b hb => .inl hb⟩
    · exact ⟨_, w, run_zeros_0 ht htn hi hnc, by simpa using hO, Md.refl _ _, fun b hb => .inl hb⟩
  · rcases hO.2 with ⟨rfl, rfl⟩ | ⟨g, cap, cur, rfl, hbg, hg, hnc, hcm, hcs, htake⟩
    · have hr := Lib.run_append_nil_zeros (P := P) w t tn ty' e i (.int .u8 0) kq kn ht htn hi hz k hk (by omega) (by omega) (by rw [hb]; omega)
      have hge := grownCap_ge w k 0 e
      have hcm := grownCap_le_maxLen w k 0 e (by simp only [maxLen]; omega)
      refine ⟨_, _, hr, ?_, ⟨rfl, rfl, rfl, by simp, fun k hk _ => heap_alloc_old w.drew _ hk⟩, fun b hb => .inr (by simp [vblock] at hb; omega)⟩
      have hB := heap_alloc_new w.drew (.cells (Builtin.zeroCells (Value.int .u8 0).cells k ++ Builtin.zeroCells (Value.int .u8 0).cells (grownCap w k 0 e - k)) e)
      have ho := Own.of_blk (sz := 1) (m := k) (b := w.heap.size) (cap := grownCap w k 0 e) (cur := (Builtin.zeroCells (Value.int .u8 0).cells k ++ Builtin.zeroCells (Value.int .u8 0).cells (grownCap w k 0 e - k)).toList) (e := e) (by unfold Blk; rw [Array.toArray_toList]; exact hB) hge hcm (by simp only [Array.length_toList, Array.size_append, size_zeroCells, hzs]; omega)
      have e1 : ((Builtin.zeroCells (Value.int .u8 0).cells k ++ Builtin.zeroCells (Value.int .u8 0).cells (grownCap w k 0 e - k)).toList).take (k * 1) = (List.replicate k (0 : UInt8)).map b8 := by
        rw [Array.toList_append, List.take_append, ← zeros_b8, List.take_of_length_le (by simp only [Array.length_toList, size_zeroCells, hzs]; omega)]
        have : k * 1 - (Builtin.zeroCells (Value.int .u8 0).cells k).toList.length = 0 := by simp only [Array.length_toList, size_zeroCells, hzs]; omega
        rw [this]; simp
      rw [e1] at ho
      have hx : xs = [] := List.eq_nil_of_length_eq_zero (by simpa using hO.1)
      subst hx
      rw [Nat.zero_add, List.nil_append]
      exact ho
    · have hB : Blk w g cur.toList e := by unfold Blk; rw [Array.toArray_toList]; exact hg
      by_cases hroom : m + k ≤ cap
      · have hr := run_zeros_room (P := P) (ty := ty') (kq := kq) ht htn hi hz hs hb hg hk hroom (by omega) h63
        refine ⟨_, _, hr, ?_, by simpa [vblock] using Md.setRow w g _, fun b hb => .inl (by simpa [vblock] using hb)⟩
        have ho := Own.of_blk (sz := 1) (m := m + k) (hB.setRow (us := splice cur.toList m ((List.replicate k (0 : UInt8)).map b8))) hroom hcm (by rw [splice_len (by simp; omega), Array.length_toList]; exact hcs)
        have e1 : (splice cur.toList m ((List.replicate k (0 : UInt8)).map b8)).take ((m + k) * 1) = xs ++ (List.replicate k (0 : UInt8)).map b8 := by
          have l1 : (cur.toList.take m ++ (List.replicate k (0 : UInt8)).map b8).length = m + k := by rw [List.length_append, List.length_take, List.length_map, List.length_replicate, Array.length_toList]; omega
          unfold splice
          rw [Nat.mul_one, List.take_append, List.take_of_length_le (by omega), l1, Nat.sub_self, List.take_zero, List.append_nil]
          congr 1
          simpa using htake
        rw [e1] at ho
        exact ho
      · have hr := Lib.run_append_grow_zeros (P := P) w t tn ty' e i (.int .u8 0) kq kn ht htn hi hz (some ⟨g, 0, none⟩) m cap xs (by rw [hs]; exact run_firstCells_some (w := w.drew) 1 m _ m cap xs hO.1 (World.ownsRow.cells hO (g := g) rfl)) k hk (by omega) (by omega) (by omega) (by rw [hb]; omega) (growslice_fits (by omega) (by rw [hb]; omega))
        have hge := grownCap_ge w (m + k) cap e
        have hcm2 := grownCap_le_maxLen w (m + k) cap e (by simp only [maxLen]; omega)
        have hxl : xs.length = m := by simpa using hO.1
        refine ⟨_, _, hr, ?_, ⟨rfl, rfl, rfl, by simp, fun k hk _ => heap_alloc_old w.drew _ hk⟩, fun b hb => .inr (by simp [vblock] at hb; omega)⟩
        have hB2 := heap_alloc_new w.drew (.cells (xs.toArray ++ Builtin.zeroCells (Value.int .u8 0).cells k ++ Builtin.zeroCells (Value.int .u8 0).cells (grownCap w (m + k) cap e - (m + k))) e)
        have ho := Own.of_blk (sz := 1) (m := m + k) (b := w.heap.size) (cap := grownCap w (m + k) cap e) (cur := (xs.toArray ++ Builtin.zeroCells (Value.int .u8 0).cells k ++ Builtin.zeroCells (Value.int .u8 0).cells (grownCap w (m + k) cap e - (m + k))).toList) (e := e) (by unfold Blk; rw [Array.toArray_toList]; exact hB2) hge hcm2 (by simp only [Array.length_toList, Array.size_append, List.size_toArray, size_zeroCells, hzs]; omega)
        have e1 : ((xs.toArray ++ Builtin.zeroCells (Value.int .u8 0).cells k ++ Builtin.zeroCells (Value.int .u8 0).cells (grownCap w (m + k) cap e - (m + k))).toList).take ((m + k) * 1) = xs ++ (List.replicate k (0 : UInt8)).map b8 := by
          have l1 : (xs ++ (List.replicate k (0 : UInt8)).map b8).length = m + k := by rw [List.length_append, List.length_map, List.length_replicate, hxl]
          rw [Array.toList_append, Array.toList_append, zeros_b8, Nat.mul_one, List.take_append, show xs.toArray.toList = xs from rfl, List.take_of_length_le (by rw [l1]; exact Nat.le_refl _), l1, Nat.sub_self, List.take_zero, List.append_nil]
        rw [e1] at ho
        exact ho
/-- append(x, make([]byte, k)...), x the run's own. -/
theorem st_apK {x y : Operand} {t tn e : TypeId} {kq kn : IntKind} {lo : Nat → Prop} {v : Value} {xs : List UInt8} {k : Nat} (ht : P.underlying t = some (.slice e)) (htn : P.underlying tn = some (.int kn)) (hE : elT P e 1 1 = true) (hz8 : (P.info? e).bind (·.zero) = some (.int .u8 0)) (hx : ev n l x = some v) (hy : ev n l y = some (.int kq ((k : Nat) : Int)))
    (hO : Ow tB8 e lo w R v xs) (uR : Up w R) (hlo : ∀ b, w.heap.size ≤ b → lo b) (h63 : xs.length + k ≤ 1000000000)
    (kk : ∀ v' w' R'', (∀ b, R b → b < w.heap.size → R'' b) → (∀ b, R'' b → R b) → Up w' R'' → Ow tB8 e lo w' R'' v' (xs ++ List.replicate k (0 : UInt8)) → Md (vblock v).toList w w' → (∀ b ∈ (vblock v).toList, ¬ R'' b) → (∀ b, vblock v = some b → b < w.heap.size) →
      (∀ b, vblock v' = some b → vblock v = some b ∨ w.heap.size ≤ b) → wpList P ops Q rest (over A D ((d, v') :: l)) w') :
    wpList P ops Q (⟨some d, .call { callee := .builtin .append, args := #[x, y], argTypes := #[t, tn] }, ty, ps, af, none⟩ :: rest) (over A D l) w := by
  refine wl_plain rfl ?_
  have hO' := hO
  obtain ⟨⟨cx, h9, h10⟩, h11⟩ := hO'
  obtain ⟨rfl, _⟩ := els_one_eq h10
  obtain ⟨v', w', hr, g1, g2, g4⟩ := run_zeros_ex (P := P) (w := w) (ty' := ty) (kq := kq) (k := k) ht htn hE hz8 h9 h63
  have hrun : (execOp (over A D l).eval ⟨some d, .call { callee := .builtin .append, args := #[x, y], argTypes := #[t, tn] }, ty, ps, af, none⟩).run P w = .ok (.value v') w' := by
    simp [execOp, resolve, invoke, builtin, ev_eval hx, ev_eval hy, hr]
  unfold Oper.wp
  rw [hrun]
  have hs : ∀ b, R b → b < w.heap.size → (R b ∧ vblock v' ≠ some b) := fun b hb hl => ⟨hb, fun hv => by
    rcases g4 b hv with h | h
    · exact (h11 b h).2 hb
    · omega⟩
  have hn : ∀ b ∈ (vblock v).toList, ¬ (R b ∧ vblock v' ≠ some b) := fun b hb hh => by
    cases hv : vblock v with
    | none => rw [hv] at hb; simp at hb
    | some c => rw [hv] at hb; simp at hb; subst hb; exact (h11 _ hv).2 hh.1
  have g1' : Own w' e 1 v' (xs ++ List.replicate k (0 : UInt8)).length ((xs ++ List.replicate k (0 : UInt8)).map b8) := by rw [List.map_append, List.length_append, List.length_replicate]; exact g1
  refine kk v' w' (fun b => R b ∧ vblock v' ≠ some b) hs (fun b hb => hb.1) (fun b hb => ⟨uR b (Nat.le_trans g2.size hb), fun hv => by have := g1'.lt b hv; omega⟩) ⟨⟨_, g1', els_one (fun _ _ => trivial)⟩, fun b hb => ⟨?_, fun hh => hh.2 hb⟩⟩ g2 hn h9.lt g4
  rcases g4 b hb with h | h
  · exact (h11 b h).1
  · exact hlo b h
end
end Go.Wk
namespace Go.Wk
open Go Go.RowKit
section
variable {P : Program}
theorem cells_str (s : List UInt8) : Lib.strCells ⟨s.toArray⟩ = s.map b8 := by unfold Lib.strCells; rfl
theorem run_appendS_ex {w : World} {t u ty' e : TypeId} (ht : P.underlying t = some (.slice e)) (hu : P.underlying u = some .string) (hE : elT P e 1 1 = true) (hz8 : (P.info? e).bind (·.zero) = some (.int .u8 0)) {v : Value} {m : Nat} {xs : List Value} (hO : Own w e 1 v m xs) (s : List UInt8) (h63 : m + s.length ≤ 1000000000) :
    ∃ v' w', (Builtin.append_ #[t, u] ty' #[v, str s]).run P w = .ok v' w' ∧ Own w' e 1 v' (m + s.length) (xs ++ s.map b8) ∧ Md (vblock v).toList w w' ∧ (∀ b, vblock v' = some b → vblock v = some b ∨ w.heap.size ≤ b) := by
  obtain ⟨i, z, hi, hz, hs, hb, hzs⟩ := elT_spec hE
  have hzz : z = .int .u8 0 := by rw [hi] at hz8; simp [hz] at hz8; exact hz8
  subst hzz
  have hsz : (ByteArray.mk s.toArray).size = s.length := by show s.toArray.size = _; simp
  have hob : v.ownBlock = vblock v := by
    rcases hO.2 with ⟨rfl, _⟩ | ⟨g, cap, cur, rfl, _⟩ <;> rfl
  obtain ⟨v', w', hr, h2, h3, h4⟩ := Lib.run_append_own_string (P := P) w 0 t u ty' e i ht hu hi hz hs hb v m xs hO ⟨s.toArray⟩ (by rw [hsz]; simp only [maxLen]; omega) (by rw [hsz]; omega) (Nat.zero_le _)
  rw [hsz] at h2 h4
  rw [cells_str] at h2
  refine ⟨v', w', hr, h2, by rw [← hob]; exact Md.grown h3, ?_⟩
  intro b hb'
  rcases hO.2 with ⟨rfl, rfl⟩ | ⟨g, cap, cur, rfl, hbg, hg, hnc, hcm, hcs, htake⟩
  · obtain ⟨v2, w2, hr2, g2, _⟩ := Lib.run_append_own_string (P := P) w w.heap.size t u ty' e i ht hu hi hz hs hb (.slice none 0 0) 0 [] (World.ownsRow_nil w _ e 1) ⟨s.toArray⟩ (by rw [hsz]; simp only [maxLen]; omega) (by rw [hsz]; omega) (Nat.le_refl _)
    rw [hr] at hr2
    cases hr2
    rcases g2.2 with ⟨rfl, _⟩ | ⟨g, cap, cur, rfl, hbg, _⟩
    · simp [vblock] at hb'
    · simp [vblock] at hb'; subst hb'; exact .inr hbg
  · by_cases hroom : m + s.length ≤ cap
    · have hr2 := Lib.run_append_room_string (P := P) w t u ty' e i ht hu hi hs g m cap cur hg ⟨s.toArray⟩ (by rw [hsz]; exact hroom) (by rw [hsz, hcs]; omega)
      replace hr2 := hr.symm.trans hr2
      simp only [Result.ok.injEq] at hr2
      rw [hr2.1] at hb'; simp [vblock] at hb'
      exact .inl (by simp [vblock, hb'])
    · have holds : ∀ j u, xs[j]? = some u → w.cell? ((⟨g, 0, none⟩ : Addr).add j) = some u := World.ownsRow.cells hO (g := g) rfl
      have hr2 := Lib.run_append_grow_string (P := P) w t u ty' e i (.int .u8 0) ht hu hi hz ⟨g, 0, none⟩ m cap xs (by rw [hs]; exact hO.1) holds ⟨s.toArray⟩ (by rw [hsz]; omega) (by rw [hsz]; omega) (by rw [hb]; exact growslice_fits (by rw [hsz]; omega) (by rw [hsz]; omega))
      replace hr2 := hr.symm.trans hr2
      simp only [Result.ok.injEq] at hr2
      rw [hr2.1] at hb'; simp [vblock] at hb'
      exact .inr (by omega)
variable {n : Nat} {A : Fr n} {D : List Deferred} {l : List (Nat × Value)} {w : World} {ops : Array Oper} {rest : List Oper} {Q : Exit → Act → World → Prop} {d : Tmp} {ty : TypeId} {ps : String} {af : Array Edge} {R : Nat → Prop}
theorem st_apS {x y : Operand} {t u e : TypeId} {lo : Nat → Prop} {v : Value} {xs s : List UInt8} (ht : P.underlying t = some (.slice e)) (hu : P.underlying u = some .string) (hE : elT P e 1 1 = true) (hz8 : (P.info? e).bind (·.zero) = some (.int .u8 0)) (hx : ev n l x = some v) (hy : ev n l y = some (str s))
    (hO : Ow tB8 e lo w R v xs) (uR : Up w R) (hlo : ∀ b, w.heap.size ≤ b → lo b) (h63 : xs.length + s.length ≤ 1000000000)
    (kk : ∀ v' w' R'', (∀ b, R b → b < w.heap.size → R'' b) → (∀ b, R'' b → R b) → Up w' R'' → Ow tB8 e lo w' R'' v' (xs ++ s) → Md (vblock v).toList w w' → (∀ b ∈ (vblock v).toList, ¬ R'' b) → (∀ b, vblock v = some b → b < w.heap.size) →
      (∀ b, vblock v' = some b → vblock v = some b ∨ w.heap.size ≤ b) → wpList P ops Q rest (over A D ((d, v') :: l)) w') :
    wpList P ops Q (⟨some d, .call { callee := .builtin .append, args := #[x, y], argTypes := #[t, u] }, ty, ps, af, none⟩ :: rest) (over A D l) w := by
  refine wl_plain rfl ?_
  have hO' := hO
  obtain ⟨⟨cx, h9, h10⟩, h11⟩ := hO'
  obtain ⟨rfl, _⟩ := els_one_eq h10
  obtain ⟨v', w', hr, g1, g2, g4⟩ := run_appendS_ex (P := P) (w := w) (ty' := ty) ht hu hE hz8 h9 s h63
  have hrun : (execOp (over A D l).eval ⟨some d, .call { callee := .builtin .append, args := #[x, y], argTypes := #[t, u] }, ty, ps, af, none⟩).run P w = .ok (.value v') w' := by
    simp [execOp, resolve, invoke, builtin, ev_eval hx, ev_eval hy, hr]
  unfold Oper.wp
  rw [hrun]
  have hs : ∀ b, R b → b < w.heap.size → (R b ∧ vblock v' ≠ some b) := fun b hb hl => ⟨hb, fun hv => by
    rcases g4 b hv with h | h
    · exact (h11 b h).2 hb
    · omega⟩
  have hn : ∀ b ∈ (vblock v).toList, ¬ (R b ∧ vblock v' ≠ some b) := fun b hb hh => by
    cases hv : vblock v with
    | none => rw [hv] at hb; simp at hb
    | some c => rw [hv] at hb; simp at hb; subst hb; exact (h11 _ hv).2 hh.1
  have g1' : Own w' e 1 v' (xs ++ s).length ((xs ++ s).map b8) := by rw [List.map_append, List.length_append]; exact g1
  refine kk v' w' (fun b => R b ∧ vblock v' ≠ some b) hs (fun b hb => hb.1) (fun b hb => ⟨uR b (Nat.le_trans g2.size hb), fun hv => by have := g1'.lt b hv; omega⟩) ⟨⟨_, g1', els_one (fun _ _ => trivial)⟩, fun b hb => ⟨?_, fun hh => hh.2 hb⟩⟩ g2 hn h9.lt g4
  rcases g4 b hb with h | h
  · exact (h11 b h).1
  · exact hlo b h
end
end Go.Wk
namespace Go.Wk
open Go Go.RowKit Go.Sort
def sortL (l : List (List UInt8)) : List (List UInt8) := l.mergeSort fun x y => decide (x ≤ y)
theorem sortL_len (l : List (List UInt8)) : (sortL l).length = l.length := by unfold sortL; simp
theorem row_sorted {w : World} {b m n : Nat} {e : TypeId} {cur : List Value} {xs ys : List (List UInt8)} {os : Array Obj} (hB : Blk w b cur e) (hm : m ≤ cur.length) (hx : cur.take m = xs.map str) (hl : xs.length = m) (hy : ys.length = m) :
    Md [b] w (grow (putRow Go.Proofs.encStr (Sort.ahead w n) b 0 ys.toArray) os) ∧ Blk (grow (putRow Go.Proofs.encStr (Sort.ahead w n) b 0 ys.toArray) os) b (ys.map str ++ cur.drop m) e := by
  have hb := hB.lt
  refine ⟨⟨rfl, rfl, rfl, ?_, ?_⟩, ?_⟩
  · simp [grow, putRow, mapBlock, Sort.ahead]
  · intro k hk hs
    simp only [List.mem_singleton] at hs
    unfold grow putRow mapBlock
    simp only [Sort.ahead]
    rw [Array.getElem?_append_left (by simpa using hk), Array.getElem?_modify, if_neg (fun h => hs h.symm)]
  · have h0 : w.heap[b]? = some (.cells cur.toArray e (0, 0)) := hB
    have h1 : (grow (putRow Go.Proofs.encStr (Sort.ahead w n) b 0 ys.toArray) os).heap[b]? = some (.cells (putCells Go.Proofs.encStr 0 ys.toArray cur.toArray) e (0, 0)) := by
      unfold grow putRow mapBlock
      simp only [Sort.ahead]
      rw [Array.getElem?_append_left (by simpa using hb), Array.getElem?_modify, if_pos rfl, h0]
      rfl
    unfold Blk
    rw [h1]
    congr 2
    apply Array.ext'
    apply List.ext_getElem?
    intro t
    unfold putCells
    rw [Array.getElem?_toList, Array.getElem?_mapIdx, List.getElem?_toArray]
    simp only [List.size_toArray, Nat.zero_le, true_and, Nat.zero_add, Nat.sub_zero]
    by_cases ht : t < m
    · have hc : t < cur.length := by omega
      have hty : t < ys.length := by omega
      rw [List.getElem?_eq_getElem hc, Option.map_some, if_pos (by omega), List.getElem?_append_left (by simpa using hty), List.getElem?_map, List.getElem?_eq_getElem hty, Option.map_some]
      rw [getElem!_pos _ t (by simpa using hty)]
      rfl
    · rw [List.getElem?_append_right (by simp; omega), List.getElem?_drop, List.length_map, hy, show m + (t - m) = t by omega]
      cases cur[t]? with
      | none => rfl
      | some u => rw [Option.map_some, if_neg (by omega)]
theorem sortS {P : Program} {ρ : Shelf.Ren} (L : Go.Proofs.SlLaysM.n6 P ρ) {w : World} {Q lo : Nat → Prop} {e : TypeId} {v : Value} {xs : List (List UInt8)} (h : Ow tStr e lo w Q v xs) (hl : xs.length ≤ 1000000) :
    Calls P (ρ.f 6) #[v] w fun en w' => en = .returned (.tuple #[]) ∧ Md (vblock v).toList w w' ∧ Ow tStr e lo w' Q v (sortL xs) := by
  obtain ⟨⟨cs, h1, h2⟩, h3⟩ := h
  obtain ⟨rfl, _⟩ := els_one_eq h2
  rcases Nat.eq_zero_or_pos xs.length with h0 | h0
  · have hn : xs = [] := List.eq_nil_of_length_eq_zero h0
    subst hn
    obtain ⟨a, cap, rfl, _⟩ := own_cells h1
    refine (Go.Proofs.AnyM.slices_Sort_string_none L a cap w).mono ?_
    rintro en w' ⟨rfl, rfl⟩
    exact ⟨rfl, (Md.refl [] _).mono (by simp), by rw [show sortL [] = [] from by simp [sortL]]; exact ⟨⟨_, h1, h2⟩, h3⟩⟩
  · obtain ⟨b, cap, cur, rfl, hB, g1, g2, g3, g4⟩ := h1.blk h0
    have hn : tStr.n = 1 := rfl
    rw [hn, Nat.mul_one] at g3 g4
    refine (Go.Proofs.AnyM.slices_Sort_string L b 0 cap xs w ?_ hB.lt (by omega)).mono ?_
    · intro j hj
      have hj' : j < xs.length := by simpa using hj
      rw [Nat.zero_add, hB.cell, hB.frozen]
      refine ⟨?_, rfl⟩
      have h5 : (cur.take xs.length)[j]? = cur[j]? := by rw [List.getElem?_take, if_pos hj']
      rw [← h5, g4, List.getElem?_map, List.getElem?_eq_getElem hj', Option.map_some, getElem!_pos _ j (by simpa using hj')]
      rfl
    · rintro en w' ⟨rfl, n, os, rfl⟩
      obtain ⟨hm, hB2⟩ := row_sorted (n := n) (os := os) (ys := sortL xs) hB (by omega) g4 rfl (sortL_len xs)
      refine ⟨rfl, hm, ⟨⟨(sortL xs).map str, ?_, els_one fun _ _ => trivial⟩, h3⟩⟩
      have h6 := Own.of_blk (sz := 1) (m := xs.length) (cap := cap) hB2 g1 g2 (by rw [List.length_append, List.length_map, List.length_drop, sortL_len]; omega)
      rw [Nat.mul_one, List.take_append_of_le_length (by rw [List.length_map, sortL_len]; omega), List.take_of_length_le (by rw [List.length_map, sortL_len]; omega)] at h6
      rw [sortL_len]
      exact h6
end Go.Wk
namespace Go.Proofs.YtogcacggojjijaaGreat
open Go Go.Shelf
def sortStr_ren : Go.Shelf.Ren := ⟨fun | 6 => 73 | 8 => 84 | 9 => 83 | 19 => 96 | 20 => 97 | 21 => 87 | 22 => 88 | 23 => 89 | 24 => 90 | 25 => 91 | 26 => 92 | 27 => 93 | 28 => 94 | 29 => 95 | 36 => 98 | 31 => 99 | 32 => 100 | 37 => 101 | 38 => 102 | 39 => 103 | 41 => 104 | n => n, fun | 27 => 51 | 29 => 9 | 3 => 3 | 32 => 105 | 26 => 51 | 0 => 0 | 44 => 118 | 46 => 120 | 4 => 4 | 36 => 110 | 35 => 109 | 41 => 115 | 5 => 5 | 9 => 9 | 53 => 121 | 57 => 125 | 63 => 127 | 64 => 47 | n => n, fun | n => n⟩
theorem sortStr : Go.Proofs.SlLaysM.n6 Tryz.prog sortStr_ren := {
  mixed := by kernel_rfl
  f6 := ⟨Tryz.f73.name, by decide, Tryz.func73.trans (congrArg some (by kernel_rfl))⟩
  f8 := Tryz.func84.trans (congrArg some (by kernel_rfl))
  f9 := ⟨Tryz.f83.name, by decide, Tryz.func83.trans (congrArg some (by kernel_rfl))⟩
  f19 := Tryz.func96.trans (congrArg some (by kernel_rfl))
  f20 := Tryz.func97.trans (congrArg some (by kernel_rfl))
  f21 := ⟨Tryz.f87.name, by decide, Tryz.func87.trans (congrArg some (by kernel_rfl))⟩
  f22 := ⟨Tryz.f88.name, by decide, Tryz.func88.trans (congrArg some (by kernel_rfl))⟩
  f23 := ⟨Tryz.f89.name, by decide, Tryz.func89.trans (congrArg some (by kernel_rfl))⟩
  f24 := ⟨Tryz.f90.name, by decide, Tryz.func90.trans (congrArg some (by kernel_rfl))⟩
  f25 := ⟨Tryz.f91.name, by decide, Tryz.func91.trans (congrArg some (by kernel_rfl))⟩
  f26 := ⟨Tryz.f92.name, by decide, Tryz.func92.trans (congrArg some (by kernel_rfl))⟩
  f27 := ⟨Tryz.f93.name, by decide, Tryz.func93.trans (congrArg some (by kernel_rfl))⟩
  f28 := ⟨Tryz.f94.name, by decide, Tryz.func94.trans (congrArg some (by kernel_rfl))⟩
  f29 := ⟨Tryz.f95.name, by decide, Tryz.func95.trans (congrArg some (by kernel_rfl))⟩
  f31 := Tryz.func99.trans (congrArg some (by kernel_rfl))
  f32 := Tryz.func100.trans (congrArg some (by kernel_rfl))
  f36 := ⟨Tryz.f98.name, by decide, Tryz.func98.trans (congrArg some (by kernel_rfl))⟩
  f37 := ⟨Tryz.f101.name, by decide, Tryz.func101.trans (congrArg some (by kernel_rfl))⟩
  f38 := ⟨Tryz.f102.name, by decide, Tryz.func102.trans (congrArg some (by kernel_rfl))⟩
  f39 := ⟨Tryz.f103.name, by decide, Tryz.func103.trans (congrArg some (by kernel_rfl))⟩
  f41 := ⟨Tryz.f104.name, by decide, Tryz.func104.trans (congrArg some (by kernel_rfl))⟩
  t0 := Tryz.underlying0
  a0 := Tryz.isAgg0
  z0 := Tryz.sizeOf0
  v0 := Tryz.zeroValue0
  t3 := Tryz.underlying3
  a3 := Tryz.isAgg3
  z3 := Tryz.sizeOf3
  v3 := Tryz.zeroValue3
  t4 := Tryz.underlying4
  a4 := Tryz.isAgg4
  z4 := Tryz.sizeOf4
  v4 := Tryz.zeroValue4
  t5 := Tryz.underlying5
  a5 := Tryz.isAgg5
  z5 := Tryz.sizeOf5
  v5 := Tryz.zeroValue5
  t9 := Tryz.underlying9
  a9 := Tryz.isAgg9
  z9 := Tryz.sizeOf9
  v9 := Tryz.zeroValue9
  t26 := Tryz.underlying51
  a26 := Tryz.isAgg51
  z26 := Tryz.sizeOf51
  v26 := Tryz.zeroValue51
  t27 := Tryz.underlying51
  a27 := Tryz.isAgg51
  z27 := Tryz.sizeOf51
  v27 := Tryz.zeroValue51
  t29 := Tryz.underlying9
  a29 := Tryz.isAgg9
  z29 := Tryz.sizeOf9
  v29 := Tryz.zeroValue9
  t32 := Tryz.underlying105
  a32 := Tryz.isAgg105
  z32 := Tryz.sizeOf105
  v32 := Tryz.zeroValue105
  t35 := Tryz.underlying109
  a35 := Tryz.isAgg109
  z35 := Tryz.sizeOf109
  v35 := Tryz.zeroValue109
  t36 := Tryz.underlying110
  a36 := Tryz.isAgg110
  z36 := Tryz.sizeOf110
  v36 := Tryz.zeroValue110
  t41 := Tryz.underlying115
  a41 := Tryz.isAgg115
  z41 := Tryz.sizeOf115
  v41 := Tryz.zeroValue115
  t44 := Tryz.underlying118
  a44 := Tryz.isAgg118
  z44 := Tryz.sizeOf118
  v44 := Tryz.zeroValue118
  t46 := Tryz.underlying120
  a46 := Tryz.isAgg120
  z46 := Tryz.sizeOf120
  v46 := Tryz.zeroValue120
  t53 := Tryz.underlying121
  a53 := Tryz.isAgg121
  z53 := Tryz.sizeOf121
  v53 := Tryz.zeroValue121
  t57 := Tryz.underlying125
  a57 := Tryz.isAgg125
  z57 := Tryz.sizeOf125
  v57 := Tryz.zeroValue125
  t63 := Tryz.underlying127
  a63 := Tryz.isAgg127
  z63 := Tryz.sizeOf127
  v63 := Tryz.zeroValue127
  t64 := Tryz.underlying47
  a64 := Tryz.isAgg47
  z64 := Tryz.sizeOf47
  v64 := Tryz.zeroValue47 }
end Go.Proofs.YtogcacggojjijaaGreat
namespace Go.Wk
open Go Go.RowKit
def okC (c : UInt8) : Bool := decide (33 ≤ c.toNat) && decide (c.toNat ≤ 126)
/-- May it be a file's name? -/
def fnameF (s : List UInt8) : Bool := decide (1 ≤ s.length) && decide (s.length ≤ 96) && s.all okC
theorem all_end {s : List UInt8} {i : Nat} (h : ¬ i < s.length) : (s.drop i).all okC = true := by rw [List.drop_of_length_le (by omega)]; rfl
theorem all_get {s : List UInt8} {i : Nat} (h : i < s.length) : (s.drop i).all okC = (okC (s.getD i 0) && (s.drop (i + 1)).all okC) := by
  rw [List.drop_eq_getElem_cons h, List.all_cons]
  simp [List.getD_eq_getElem?_getD, List.getElem?_eq_getElem h]
theorem okC_no {c : UInt8} (h : c.toNat < 33 ∨ 126 < c.toNat) : okC c = false := by unfold okC; rcases h with h | h <;> simp <;> omega
theorem okC_yes {c : UInt8} (h : ¬ c.toNat < 33) (h2 : ¬ 126 < c.toNat) : okC c = true := by unfold okC; simp; omega
def nptr : Option Nat → Value
  | some b => .pointer (some ⟨b, 0, none⟩)
  | none => .pointer none
def tNp : Dt Nat := tOne (fun b => .pointer (some ⟨b, 0, none⟩)) (fun _ => rfl) (fun _ => True)
theorem nptr_one (x : Option Nat) : (nptr x).oneCell' = true := by cases x <;> rfl
theorem ones_np (x : Option Nat) : ([nptr x].all fun u => u.oneCell') = true := by simp [nptr_one]
def tNpo : Dt (Option Nat) := tOne nptr nptr_one (fun _ => True)
theorem nptr_ptr (o : Option Nat) : ∃ p, nptr o = .pointer p ∧ p.isNone = o.isNone := by cases o <;> exact ⟨_, rfl, rfl⟩
section
variable {P : Program} {n : Nat} {A : Fr n} {D : List Deferred} {l : List (Nat × Value)} {w : World} {d : Option Tmp} {ty : TypeId} {ps : String} {af : Array Edge} {g : Option (Nat × Bool)}
theorem r_eqlNp {x : Operand} {t u e : TypeId} {o : Option Nat} (hx : ev n l x = some (nptr o)) (hT : P.underlying t = some (.pointer e)) :
    RunV P ⟨d, .binOp .eql t x (.const (.pointer none)) u, ty, ps, af, g⟩ (over A D l).eval w (.bool o.isNone) := by
  obtain ⟨p, h0, hp0⟩ := nptr_ptr o
  rw [h0] at hx
  have hp : P.underlying t = some (.pointer (P.pointee t)) := by rw [hT]; simp [Program.pointee, hT]
  have h := run_eql_pointer_nil (P := P) w t p hp
  have hc : (over A D l).eval (.const (.pointer none)) = .pointer none := rfl
  have hg : (eqGuard .eql t x (.const (.pointer none)) (.pointer p) (.pointer none)).run P w = .ok () w := by unfold eqGuard; simp
  simp [RunV, execOp, ev_eval hx, hc, hg, h, ← hp0]
theorem r_neqNp {x : Operand} {t u e : TypeId} {o : Option Nat} (hx : ev n l x = some (nptr o)) (hT : P.underlying t = some (.pointer e)) :
    RunV P ⟨d, .binOp .neq t x (.const (.pointer none)) u, ty, ps, af, g⟩ (over A D l).eval w (.bool o.isSome) := by
  obtain ⟨p, h0, hp0⟩ := nptr_ptr o
  rw [h0] at hx
  have hp : P.underlying t = some (.pointer (P.pointee t)) := by rw [hT]; simp [Program.pointee, hT]
  have h := run_neq_pointer_nil (P := P) w t p hp
  have hc : (over A D l).eval (.const (.pointer none)) = .pointer none := rfl
  have hg : (eqGuard .neq t x (.const (.pointer none)) (.pointer p) (.pointer none)).run P w = .ok () w := by unfold eqGuard; simp
  have e : o.isSome = p.isSome := by cases o <;> cases p <;> simp_all
  simp [RunV, execOp, ev_eval hx, hc, hg, h, e]
end
/-- What each call with names tells first. -/
def mayF (off : Bool) (l : List (List UInt8)) : Nat := if off = true then 18 else if l.all fnameF = true then 0 else 1
theorem mayF_off {off : Bool} {l : List (List UInt8)} (h : off = true) : mayF off l = 18 := by unfold mayF; rw [if_pos h]
theorem mayF_of {off b : Bool} {l : List (List UInt8)} (h : ¬ off = true) (hb : l.all fnameF = b) : mayF off l = if b = true then 0 else 1 := by unfold mayF; rw [if_neg h, hb]
theorem alln_end {l : List (List UInt8)} {i : Nat} (h : ¬ i < l.length) : (l.drop i).all fnameF = true := by rw [List.drop_of_length_le (by omega)]; rfl
theorem alln_get {l : List (List UInt8)} {i : Nat} {s : List UInt8} (h : l[i]? = some s) : (l.drop i).all fnameF = (fnameF s && (l.drop (i + 1)).all fnameF) := by
  obtain ⟨h1, h2⟩ := List.getElem?_eq_some_iff.1 h
  rw [List.drop_eq_getElem_cons h1, h2, List.all_cons]
theorem alln_yes {l : List (List UInt8)} {i : Nat} {s : List UInt8} (h : l[i]? = some s) (hs : fnameF s = true) : (l.drop i).all fnameF = (l.drop (i + 1)).all fnameF := by rw [alln_get h, hs, Bool.true_and]
theorem alln_no {l : List (List UInt8)} {i : Nat} {s : List UInt8} (h : l[i]? = some s) (hs : fnameF s = false) : (l.drop i).all fnameF = false := by rw [alln_get h, hs, Bool.false_and]
end Go.Wk
namespace Go.Wk
open Go Go.RowKit
section
variable {P : Program} {n : Nat} {A : Fr n} {D : List Deferred} {l : List (Nat × Value)} {w : World} {ops : Array Oper} {rest : List Oper} {Q : Exit → Act → World → Prop}
variable {d : Tmp} {op : Op} {ty : TypeId} {ps : String} {af : Array Edge}
theorem mv {x : Operand} {v : Value} (h : ev n l x = some v) (k : wpList P ops Q rest (over A D ((d, v) :: l)) w) : wpList P ops Q (⟨some d, .move x, ty, ps, af, none⟩ :: rest) (over A D l) w := st v (r_move h) k
theorem asg {x : Operand} {v : Value} (h : ev n l x = some v) (k : wpList P ops Q rest (over A D ((d, v) :: l)) w) : wpList P ops Q (⟨some d, .assign x, ty, ps, af, none⟩ :: rest) (over A D l) w := st v (r_assign h) k
theorem nt {K : Act → World → Prop} {a : Act} (h : K a w) : wpList P ops (Exit.then K Q) [] a w := st_nil (c_then h)
theorem mz {C : World → Prop} {QN : Act → World → Prop} {rest : List (Bool × Oper)} {v : Value} (hr : ∀ w', C w' → RunV P ⟨some d, op, ty, ps, af, none⟩ (over A D l).eval w' v) (k : wpMix P ops C QN rest (over A D ((d, v) :: l)) w) : wpMix P ops C QN ((true, ⟨some d, op, ty, ps, af, none⟩) :: rest) (over A D l) w := Go.Wk.m v hr k
theorem ns {id : Nat} {lo : List Oper} {y : Code} {a : Act} (h : wpList P lo.toArray (Exit.then (fun a w => y.wp P Q a w) Q) lo a w) : (Code.seq (.region id lo.toArray false) y).wp P Q a w := c_seq (c_region h)
end
end Go.Wk
namespace Go.Proofs.YtogcacggojjijaaGreat
open Go Go.Wk Go.RowKit
set_option linter.unusedVariables false
set_option linter.unusedSimpArgs false
attribute [local irreducible] wpList wpQuiet wpStill wpMix Code.wp Calls bodyPost
theorem off96_0 : fieldOff Tryz.prog 96 0 = some 0 := by kernel_rfl
theorem one31 : isOne Tryz.prog 31 = true := by kernel_rfl
theorem pl96 : bplace Tryz.prog 96 = some [(0, 1), (1, 1)] := by kernel_rfl
theorem u31 : Tryz.prog.underlying 31 = some (.slice 5) := by kernel_rfl
theorem z96 : zcells Tryz.prog 96 = some [.slice none 0 0, .slice none 0 0] := by kernel_rfl

structure SFl where
  b : List UInt8
  safe : List UInt8
def SFl.cells (x : SFl) (v0 : Value) (v1 : Value) : List Value :=
  [v0] ++ ([v1])
theorem sNew_any {w : World} {Q : Nat → Prop} (uQ : Up w Q)  :
    Calls Tryz.prog 43 #[] w fun en w' => ∃ o0 : Nat, ∃ u0_0 : Value, ∃ u0_1 : Value, ∃ r0 : SFl, ∃ Q' : Nat → Prop, en = .returned (.pointer (some ⟨o0, 0, none⟩)) ∧ Md [] w w' ∧ NewQ w w' Q Q' ∧ Blk w' o0 (SFl.cells r0 u0_0 u0_1) 96 ∧ ¬ Q' o0 ∧ w.heap.size ≤ o0 ∧ Ls tB8 w' Q' u0_0 r0.b ∧ Ls tB8 w' Q' u0_1 r0.safe ∧ ({ b := [], safe := [] } : SFl) = r0 := by
  have M := Md.refl [] w; have uQ0 := uQ; have tQ : ∀ b, Q b → Q b := fun _ h => h; have sQ0 : ∀ b, Q b → b < w.heap.size → Q b := fun _ h _ => h; refine enter (n := 3) Tryz.func43 rfl rfl rfl ?_; intro B; refine ns ?_; refine asg rfl ?_; refine nt ?_; refine ns ?_; refine st _ (r_buildG (us := []) (cs := (SFl.cells (({ b := [], safe := [] } : SFl)) (.slice none 0 0) (.slice none 0 0))) [] z96 pl96 rfl rfl trivial trivial rfl rfl) ?_; refine st_box (cs := (SFl.cells (({ b := [], safe := [] } : SFl)) (.slice none 0 0) (.slice none 0 0))) rfl rfl ?_; intro ba2 w1 ga2 la2 hm ha2; obtain ⟨Q2, sQ, sT, n_ha2, uQ2⟩ := exQ uQ ga2 la2 hm; replace tQ := fun b hb => tQ b (sT b hb); replace sQ0 := fun b hb hl => sQ b (sQ0 b hb hl) (Nat.lt_of_lt_of_le hl M.size); replace ga2 := Nat.le_trans M.size ga2; replace uQ := uQ.md hm; replace M := M.step0 hm; clear uQ; have uQ := uQ2; clear uQ2 sQ sT; have p_ha2 : Fsh [] w ba2 := .inr ga2; refine asg rfl ?_; refine nt ?_; refine c_ret ?_; exact ret1L (v := (.pointer (some ⟨ba2, 0, none⟩))) trivial rfl ⟨rfl, trivial⟩ ⟨ba2, _, _, (({ b := [], safe := [] } : SFl)), Q2, rfl, M, ⟨sQ0, tQ, uQ⟩, ha2, n_ha2, ga2, (by first | exact Ls.nil _ _ _ | (simp only []; exact Ls.nil _ _ _)), (by first | exact Ls.nil _ _ _ | (simp only []; exact Ls.nil _ _ _)), rfl⟩
theorem sLen_any {w : World} {Q : Nat → Prop} (uQ : Up w Q) {b0 : Nat} {v0_0 : Value} {v0_1 : Value} (f : SFl) (h0 : Blk w b0 (SFl.cells f v0_0 v0_1) 96) (n0 : ¬ Q b0) (a0_0 : Ls tB8 w Q v0_0 f.b) (a0_1 : Ls tB8 w Q v0_1 f.safe) :
    Calls Tryz.prog 51 #[.pointer (some ⟨b0, 0, none⟩)] w fun en w' => ∃ r0 : Nat, en = .returned (.int .i64 ((r0 : Nat) : Int)) ∧ Md [] w w' ∧ r0 < 9223372036854775808 ∧ f.b.length = r0 := by
  have n_h0 := n0; have M := Md.refl [] w; have uQ0 := uQ; have tQ : ∀ b, Q b → Q b := fun _ h => h; have sQ0 : ∀ b, Q b → b < w.heap.size → Q b := fun _ h _ => h; refine enter (n := 8) Tryz.func51 rfl rfl rfl ?_; intro B; refine ns ?_; refine asg rfl ?_; refine nt ?_; refine ns ?_; refine mv rfl ?_; refine st _ (r_nil rfl) ?_; refine st _ (r_field rfl off96_0) ?_; refine st _ ((r_loadBlk rfl one31 h0 rfl).to (b := v0_0) rfl) ?_; have L0 := a0_0.len63; refine st _ (r_len rfl u31 a0_0.shp) ?_; refine asg rfl ?_; refine nt ?_; refine c_ret ?_; exact ret1L (v := (.int .i64 ((f.b.length : Nat) : Int))) trivial rfl ⟨rfl, trivial⟩ ⟨f.b.length, rfl, M, (by first | assumption | omega | simp_all), rfl⟩
end Go.Proofs.YtogcacggojjijaaGreat
namespace Go.Proofs.YtogcacggojjijaaGreat
open Go Go.Wk Go.RowKit
set_option linter.unusedVariables false
set_option linter.unusedSimpArgs false
attribute [local irreducible] wpList wpQuiet wpStill wpMix Code.wp Calls bodyPost
theorem el5 : elemIs Tryz.prog 5 1 = true := by kernel_rfl
theorem elT5 : elT Tryz.prog 5 1 1 = true := by kernel_rfl
theorem fn74 : isFn Tryz.prog 74 = true := by kernel_rfl
theorem mixed : Tryz.prog.follows .mixedOrders = true := by kernel_rfl
theorem off96_1 : fieldOff Tryz.prog 96 1 = some 1 := by kernel_rfl

theorem bClone_any {w : World} {Q : Nat → Prop} (uQ : Up w Q) {v0 : Value} {l : List UInt8} (h0 : Ls tB8 w Q v0 l) (p0 : l.length ≤ 140737488355328) :
    Calls Tryz.prog 74 #[v0] w fun en w' => ∃ u0 : Value, ∃ r0 : List UInt8, ∃ Q' : Nat → Prop, en = .returned (u0) ∧ Md [] w w' ∧ NewQ w w' Q Q' ∧ Ow tB8 5 (Fsh [] w) w' Q' u0 r0 ∧ l = r0 := by
  obtain ⟨a, cap, hv, hcp, hz⟩ : ∃ a cap, v0 = .slice a l.length cap ∧ l.length ≤ cap ∧ (a = none → l = []) := by
    obtain ⟨a, cap, cs, e, h1, h2, h3, _⟩ := h0; exact ⟨a, cap, e, h1, fun h => List.eq_nil_of_length_eq_zero (by have := h3 h; omega)⟩
  refine enter (n := 8) Tryz.func74 rfl rfl rfl ?_; intro B; refine ns ?_; refine asg rfl ?_; refine nt ?_; refine c_seq ?_; refine ns ?_; refine mv rfl ?_; refine st (.bool a.isNone) (by exact r_eqlSN (a := a) (m := l.length) (c := cap) (by rw [← hv]; rfl) u31) ?_; refine nt ?_; refine c_if rfl (fun h4 => ?_) (fun h4 => ?_)
  · have hn : l = [] := hz (Option.isNone_iff_eq_none.1 h4)
    refine ns ?_; refine asg rfl ?_; refine nt ?_; refine c_ret ?_; refine r_then ?_; exact ret1 trivial rfl rfl ⟨_, [], Q, rfl, Md.refl [] w, ⟨fun x h _ => h, fun x h => h, uQ⟩, Ow.nil _ _ _ _ _, hn⟩
  · refine c_skip ?_
    refine c_then ?_; refine ns ?_; refine st_build0 u31 elT5 ?_; intro b w1 gb lb hm hB; obtain ⟨Q1, s1, t1, n1, u1⟩ := exQ uQ gb lb hm; have hO : Ow tB8 5 (Fsh [] w) w1 Q1 (.slice (some ⟨b, 0, none⟩) 0 0) [] := Ow.of_blk (m := 0) hB rfl rfl (by simp [maxLen]) (.inr gb) n1; replace h0 := (h0.sub s1).md0 hm; refine mv rfl ?_; refine st_apZ (sz := 1) rfl u31 elT5 rfl rfl hO h0.lz u1 (Fsh.new hm) (by simp; omega) (by simp; omega) ?_; intro v2 w2 Q2 sQ tQ u2 hO2 hm2 hS _ hv2; refine asg rfl ?_; refine nt ?_; refine c_ret ?_; exact ret1 trivial rfl rfl ⟨_, _, Q2, rfl, hm.step1 hm2 gb, ⟨fun x hx hl => sQ x (s1 x hx hl) (Nat.lt_of_lt_of_le hl hm.size), fun x hx => t1 x (tQ x hx), u2⟩, hO2, by simp⟩
theorem bClone_any_ls {w : World} {Q : Nat → Prop} (uQ : Up w Q) {v0 : Value} {l : List UInt8} (h0 : Ls tB8 w Q v0 l) (p0 : l.length ≤ 140737488355328) :
    Calls Tryz.prog 74 #[v0] w fun en w' => ∃ u0 : Value, ∃ r0 : List UInt8, en = .returned (u0) ∧ Md [] w w' ∧ Ls tB8 w' Q u0 r0 ∧ l = r0 :=
  (bClone_any uQ h0 p0).mono fun en w' ⟨u0, r0, Q2, he, hm, kq, k0, hF⟩ => ⟨u0, r0, he, hm, k0.ls kq.2.1 (Fsh.up uQ), hF⟩
theorem sAll_any {w : World} {Q : Nat → Prop} (uQ : Up w Q) {b0 : Nat} {v0_0 : Value} {v0_1 : Value} (f : SFl) (h0 : Blk w b0 (SFl.cells f v0_0 v0_1) 96) (n0 : ¬ Q b0) (a0_0 : Ls tB8 w Q v0_0 f.b) (a0_1 : Ls tB8 w Q v0_1 f.safe) (p0 : f.b.length ≤ 100000000) :
    Calls Tryz.prog 70 #[.pointer (some ⟨b0, 0, none⟩)] w fun en w' => ∃ u0 : Value, ∃ r0 : List UInt8, en = .returned (u0) ∧ Md [] w w' ∧ Ls tB8 w' Q u0 r0 ∧ f.b = r0 := by
  have n_h0 := n0; have M := Md.refl [] w; have uQ0 := uQ; have tQ : ∀ b, Q b → Q b := fun _ h => h; have sQ0 : ∀ b, Q b → b < w.heap.size → Q b := fun _ h _ => h; refine enter (n := 8) Tryz.func70 rfl rfl rfl ?_; intro B; refine ns ?_; refine asg rfl ?_; refine nt ?_; refine ns ?_; refine mv rfl ?_; refine st _ (r_nil rfl) ?_; refine st _ (r_field rfl off96_0) ?_; refine st _ ((r_loadBlk rfl one31 h0 rfl).to (b := v0_0) rfl) ?_; refine st_call fn74 rfl (bClone_any_ls uQ a0_0 (by first | omega | (simp <;> omega) | (simp at * <;> omega))) ?_; rintro en w1 ⟨v1_0, x1_0, rfl, hm, h1_0, hF1⟩; refine ⟨_, rfl, ?_⟩; replace a0_0 := a0_0.md0 hm; replace a0_1 := a0_1.md0 hm; replace h0 := h0.md0 hm; replace uQ := uQ.md hm; replace M := M.step0 hm; refine asg rfl ?_; refine nt ?_; refine c_ret ?_; exact ret1L (v := v1_0) trivial rfl ⟨rfl, trivial⟩ ⟨_, x1_0, rfl, M, (h1_0.sub (fun b hb _ => tQ b hb)), hF1⟩
theorem sSync_any {w : World} {Q : Nat → Prop} (uQ : Up w Q) {b0 : Nat} {v0_0 : Value} {v0_1 : Value} (f : SFl) (h0 : Blk w b0 (SFl.cells f v0_0 v0_1) 96) (n0 : ¬ Q b0) (a0_0 : Ls tB8 w Q v0_0 f.b) (a0_1 : Ls tB8 w Q v0_1 f.safe) (p0 : f.b.length ≤ 100000000) :
    Calls Tryz.prog 56 #[.pointer (some ⟨b0, 0, none⟩)] w fun en w' => ∃ m0 : SFl, ∃ u50_0 : Value, ∃ u50_1 : Value, en = .returned (.tuple #[]) ∧ Md [b0] w w' ∧ Blk w' b0 (SFl.cells m0 u50_0 u50_1) 96 ∧ ¬ Q b0 ∧ Ls tB8 w' Q u50_0 m0.b ∧ Ls tB8 w' Q u50_1 m0.safe ∧ ({ b := f.b, safe := f.b } : SFl) = m0 := by
  have n_h0 := n0; have p_h0 : Fsh [b0] w b0 := .inl (by simp); have M := Md.refl [b0] w; have uQ0 := uQ; have tQ : ∀ b, Q b → Q b := fun _ h => h; have sQ0 : ∀ b, Q b → b < w.heap.size → Q b := fun _ h _ => h; refine enter (n := 10) Tryz.func56 rfl rfl rfl ?_; intro B; refine c_region ?_; refine mv rfl ?_; refine mv rfl ?_; refine st _ (r_nil rfl) ?_; refine st _ (r_field rfl off96_0) ?_; refine st _ ((r_loadBlk rfl one31 h0 rfl).to (b := v0_0) rfl) ?_; refine st_call fn74 rfl (bClone_any_ls uQ a0_0 (by first | omega | (simp <;> omega) | (simp at * <;> omega))) ?_; rintro en w1 ⟨v1_0, x1_0, rfl, hm, h1_0, hF1⟩; refine ⟨_, rfl, ?_⟩; replace a0_0 := a0_0.md0 hm; replace a0_1 := a0_1.md0 hm; replace h0 := h0.md0 hm; replace uQ := uQ.md hm; replace M := M.step0 hm; refine st _ (r_nil rfl) ?_; refine st _ (r_field rfl off96_1) ?_; refine st_store rfl rfl one31 h1_0.oneCell h0 (Nat.le_of_ble_eq_true rfl) ?_; have h00 := h0; clear h0; intro w2 hm h0; have hS : ∀ b ∈ [b0], ¬ Q b := (by intro b hb; simp at hb; subst hb; exact n_h0); replace a0_0 := a0_0.md hm hS; replace a0_1 := a0_1.md hm hS; replace h1_0 := h1_0.md hm hS; replace uQ := uQ.md hm; replace M := M.step hm (all_cons p_h0 all_nil); clear h00 hS; obtain ⟨s3, es3⟩ : ∃ y, y = ({ f with safe := x1_0 } : SFl) := ⟨_, rfl⟩; replace h0 : Blk _ _ (SFl.cells ({ f with safe := x1_0 }) v0_0 v1_0) _ := h0; rw [← es3] at h0; rw [show f.b = s3.b by rw [es3]] at a0_0; rw [show x1_0 = s3.safe by rw [es3]] at h1_0; refine st_nil ?_; exact retL (vs := []) trivial rfl trivial rfl ⟨s3, _, _, rfl, M, h0, n0, (a0_0.sub (fun b hb _ => tQ b hb)), (h1_0.sub (fun b hb _ => tQ b hb)), (by rw [es3, ← hF1])⟩
theorem sSector_any {w : World} {Q : Nat → Prop} (uQ : Up w Q) {v0 : Value} {b : List UInt8} (h0 : Ls tB8 w Q v0 b) (i : Nat) (a1 : i < 9223372036854775808) (p0 : b.length ≤ 1000000) (p1 : i ≤ 1000000) :
    Calls Tryz.prog 80 #[v0, (.int .i64 ((i : Nat) : Int))] w fun en w' => ∃ u0 : Value, ∃ r0 : List UInt8, en = .returned (u0) ∧ Md [] w w' ∧ Ls tB8 w' Q u0 r0 ∧ secF b i = r0 := by
  have L0 := h0.len63; have M := Md.refl [] w; have uQ0 := uQ; have tQ : ∀ b, Q b → Q b := fun _ h => h; have sQ0 : ∀ b, Q b → b < w.heap.size → Q b := fun _ h _ => h; refine enter (n := 19) Tryz.func80 rfl rfl rfl ?_; intro B; refine ns ?_; refine asg rfl ?_; refine nt ?_; refine ns ?_; refine mv rfl ?_; refine st _ (r_mulN (a := i) (b := 512) 9223372036854775808 rfl rfl rfl (by omega)) ?_; refine mv rfl ?_; refine st _ (r_len rfl u31 h0.shp) ?_; refine st _ (r_minN (a := i * 512) (b := b.length) rfl rfl) ?_; refine asg rfl ?_; refine nt ?_; refine ns ?_; refine mv rfl ?_; refine mv rfl ?_; refine mv rfl ?_; refine st _ (r_addN (a := (min (i * 512) b.length)) (b := 512) 9223372036854775808 rfl rfl rfl (by omega)) ?_; refine mv rfl ?_; refine st _ (r_len rfl u31 h0.shp) ?_; refine st _ (r_minN (a := (min (i * 512) b.length) + 512) (b := b.length) rfl rfl) ?_; refine st _ (r_sliceZ 1 (min (i * 512) b.length) (min ((min (i * 512) b.length) + 512) b.length) u31 el5 rfl h0.shp (by omega) (by omega) ⟨_, rfl⟩ ⟨_, rfl⟩) ?_; have hs1 := h0.part (min (i * 512) b.length) (min ((min (i * 512) b.length) + 512) b.length) (by omega) (by omega); refine asg rfl ?_; refine nt ?_; refine c_ret ?_; exact ret1L (v := (subz 1 v0 (min (i * 512) b.length) (min ((min (i * 512) b.length) + 512) b.length))) trivial rfl ⟨rfl, trivial⟩ ⟨_, ((b.take (min ((min (i * 512) b.length) + 512) b.length)).drop (min (i * 512) b.length)), rfl, M, (hs1.sub (fun b hb _ => tQ b hb)), (by unfold secF; congr 1 <;> (try congr 1) <;> omega)⟩
theorem sSectors_any {w : World} {Q : Nat → Prop} (uQ : Up w Q) {b0 : Nat} {v0_0 : Value} {v0_1 : Value} (f : SFl) (h0 : Blk w b0 (SFl.cells f v0_0 v0_1) 96) (n0 : ¬ Q b0) (a0_0 : Ls tB8 w Q v0_0 f.b) (a0_1 : Ls tB8 w Q v0_1 f.safe) (p0 : f.b.length ≤ 1000000) (p1 : f.safe.length ≤ 1000000) :
    Calls Tryz.prog 78 #[.pointer (some ⟨b0, 0, none⟩)] w fun en w' => ∃ r0 : Nat, en = .returned (.int .i64 ((r0 : Nat) : Int)) ∧ Md [] w w' ∧ r0 < 9223372036854775808 ∧ secN f.b f.safe = r0 := by
  have n_h0 := n0; have M := Md.refl [] w; have uQ0 := uQ; have tQ : ∀ b, Q b → Q b := fun _ h => h; have sQ0 : ∀ b, Q b → b < w.heap.size → Q b := fun _ h _ => h; refine enter (n := 17) Tryz.func78 rfl rfl rfl ?_; intro B; refine ns ?_; refine asg rfl ?_; refine nt ?_; refine c_seq ?_; have a0_0_q := a0_0; have a0_1_q := a0_1; have h0_q := h0; refine c_mixT [(0, true), (1, true), (2, true), (3, true), (4, true), (5, true), (6, true), (7, true), (8, true), (9, true)] [10, 11, 12, 13, 14] (fun w' => Md [] w w') mixed (by kernel_rfl) ?_; intro w1 hd0; refine ⟨hd0.mono (by simp), ?_⟩; have MC := hd0.mono (T := []) (by simp); refine Go.Wk.m _ (fun w' hc => r_move rfl) ?_; refine Go.Wk.m _ (fun w' hc => r_nil rfl) ?_; refine Go.Wk.m _ (fun w' hc => r_field rfl off96_0) ?_; refine Go.Wk.m _ (fun w' hc => (r_loadBlk rfl one31 (h0_q.md0 hc) rfl).to (b := v0_0) rfl) ?_; refine Go.Wk.m _ (fun w' hc => r_len rfl u31 a0_0.shp) ?_; refine Go.Wk.m _ (fun w' hc => r_move rfl) ?_; refine Go.Wk.m _ (fun w' hc => r_nil rfl) ?_; refine Go.Wk.m _ (fun w' hc => r_field rfl off96_1) ?_; refine Go.Wk.m _ (fun w' hc => (r_loadBlk rfl one31 (h0_q.md0 hc) rfl).to (b := v0_1) rfl) ?_; refine Go.Wk.m _ (fun w' hc => r_len rfl u31 a0_1.shp) ?_; refine m_nil ?_; replace a0_0 := a0_0.md0 hd0; replace a0_1 := a0_1.md0 hd0; replace h0 := h0.md0 hd0; replace uQ := uQ.md hd0; replace M := M.step0 hd0; clear a0_1_q h0_q a0_0_q; clear MC; refine st _ (r_maxN (a := f.b.length) (b := f.safe.length) rfl rfl) ?_; refine st _ (r_addN (a := (max f.b.length f.safe.length)) (b := 512) 9223372036854775808 rfl rfl rfl (by omega)) ?_; refine st _ (r_subI (a := (((max f.b.length f.safe.length) + 512 : Nat) : Int)) (b := 1) rfl rfl (by omega)) ?_; have td := td512 (x := max f.b.length f.safe.length + 512) (by omega); refine st _ (r_quoZ (a := (((max f.b.length f.safe.length) + 512 : Nat) : Int) - 1) (b := 512) rfl rfl (by omega)) ?_; refine st _ (((show RunV _ _ _ _ (.int .i64 (((((max f.b.length f.safe.length) + 512 : Nat) : Int) - 1).tdiv 512)) from r_assign rfl).castI (Int.toNat_of_nonneg (by omega)).symm)) ?_; refine nt ?_; refine c_ret ?_; exact ret1L (v := (.int .i64 (((((((max f.b.length f.safe.length) + 512 : Nat) : Int) - 1).tdiv 512).toNat : Nat) : Int))) trivial rfl ⟨rfl, trivial⟩ ⟨(((((max f.b.length f.safe.length) + 512 : Nat) : Int) - 1).tdiv 512).toNat, rfl, M, (by first | assumption | omega | simp_all), (by unfold secN; rw [td]; show _ = (max f.b.length f.safe.length + 512 - 1) / 512; rfl)⟩
end Go.Proofs.YtogcacggojjijaaGreat
namespace Go.Proofs.YtogcacggojjijaaGreat
open Go Go.Wk Go.RowKit
set_option linter.unusedVariables false
set_option linter.unusedSimpArgs false
attribute [local irreducible] wpList wpQuiet wpStill wpMix Code.wp Calls bodyPost
theorem u5 : Tryz.prog.underlying 5 = some (.int .u8) := by kernel_rfl
theorem u9 : Tryz.prog.underlying 9 = some (.string) := by kernel_rfl

theorem sCopy_any {w : World} {Q : Nat → Prop} (uQ : Up w Q) {b0 : Nat} {v0_0 : Value} {v0_1 : Value} (f : SFl) (h0 : Blk w b0 (SFl.cells f v0_0 v0_1) 96) (n0 : ¬ Q b0) (a0_0 : Ls tB8 w Q v0_0 f.b) (a0_1 : Ls tB8 w Q v0_1 f.safe) (p0 : f.b.length ≤ 1000000) (p1 : f.safe.length ≤ 1000000) :
    Calls Tryz.prog 49 #[.pointer (some ⟨b0, 0, none⟩)] w fun en w' => ∃ o0 : Nat, ∃ u0_0 : Value, ∃ u0_1 : Value, ∃ r0 : SFl, ∃ Q' : Nat → Prop, en = .returned (.pointer (some ⟨o0, 0, none⟩)) ∧ Md [] w w' ∧ NewQ w w' Q Q' ∧ Blk w' o0 (SFl.cells r0 u0_0 u0_1) 96 ∧ ¬ Q' o0 ∧ w.heap.size ≤ o0 ∧ Ow tB8 5 (Fsh [] w) w' Q' u0_0 r0.b ∧ Ls tB8 w' Q' u0_1 r0.safe ∧ ({ b := f.b, safe := f.safe } : SFl) = r0 := by
  have n_h0 := n0; have M := Md.refl [] w; have uQ0 := uQ; have tQ : ∀ b, Q b → Q b := fun _ h => h; have sQ0 : ∀ b, Q b → b < w.heap.size → Q b := fun _ h _ => h; refine enter (n := 15) Tryz.func49 rfl rfl rfl ?_; intro B; refine ns ?_; refine asg rfl ?_; refine nt ?_; refine c_seq ?_; have a0_0_q := a0_0; have a0_1_q := a0_1; have h0_q := h0; refine c_mixT [(0, true), (1, true), (2, true), (3, true), (5, true), (6, true), (7, true), (8, true), (4, false)] [9, 10, 11, 12] (fun w' => Md [] w w') mixed (by kernel_rfl) ?_; intro w1 hd0; refine ⟨hd0.mono (by simp), ?_⟩; have MC := hd0.mono (T := []) (by simp); refine Go.Wk.m _ (fun w' hc => r_move rfl) ?_; refine Go.Wk.m _ (fun w' hc => r_nil rfl) ?_; refine Go.Wk.m _ (fun w' hc => r_field rfl off96_0) ?_; refine Go.Wk.m _ (fun w' hc => (r_loadBlk rfl one31 (h0_q.md0 hc) rfl).to (b := v0_0) rfl) ?_; refine Go.Wk.m _ (fun w' hc => r_move rfl) ?_; refine Go.Wk.m _ (fun w' hc => r_nil rfl) ?_; refine Go.Wk.m _ (fun w' hc => r_field rfl off96_1) ?_; refine Go.Wk.m _ (fun w' hc => (r_loadBlk rfl one31 (h0_q.md0 hc) rfl).to (b := v0_1) rfl) ?_; replace a0_0 := a0_0.md0 hd0; replace a0_1 := a0_1.md0 hd0; replace h0 := h0.md0 hd0; replace uQ := uQ.md hd0; replace M := M.step0 hd0; refine m_e ?_ rfl; refine st_call fn74 rfl (bClone_any uQ a0_0 (by first | omega | (simp <;> omega) | (simp at * <;> omega))) ?_; rintro en w2 ⟨v2_0, x2_0, Q3, rfl, hm, ⟨sQ, sT, uQ2⟩, h2_0, hF2⟩; refine ⟨_, rfl, ?_⟩; have c_h2_0 : ∀ b, vblock v2_0 = some b → b ∈ [] ∨ _ := fun b hb => Or.inr (Nat.le_trans MC.size ((h2_0.2 b hb).1.elim (fun h => by simp at h) id)); replace a0_0 := a0_0.sub sQ; replace a0_1 := a0_1.sub sQ; replace n_h0 := fun hh => n_h0 (sT _ hh); replace tQ := fun b hb => tQ b (sT b hb); replace sQ0 := fun b hb hl => sQ b (sQ0 b hb hl) (Nat.lt_of_lt_of_le hl M.size); replace h2_0 := h2_0.lower (Fsh.lift (S' := []) M); replace a0_0 := a0_0.md0 hm; replace a0_1 := a0_1.md0 hm; replace h0 := h0.md0 hm; replace uQ := uQ.md hm; replace M := M.step0 hm; replace MC := MC.step0 hm; clear uQ; have uQ := uQ2; clear uQ2 sQ sT; refine st_nil ⟨rfl, MC, ?_⟩; refine m_nil ?_; clear a0_1_q h0_q a0_0_q; clear MC; refine st_call fn74 rfl (bClone_any_ls uQ a0_1 (by first | omega | (simp <;> omega) | (simp at * <;> omega))) ?_; rintro en w4 ⟨v4_0, x4_0, rfl, hm, h4_0, hF4⟩; refine ⟨_, rfl, ?_⟩; replace a0_0 := a0_0.md0 hm; replace a0_1 := a0_1.md0 hm; replace h0 := h0.md0 hm; replace h2_0 := h2_0.md0 hm
  replace uQ := uQ.md hm; replace M := M.step0 hm; refine st _ (r_buildG (us := [[v2_0], [v4_0]]) (cs := (SFl.cells (({ b := x2_0, safe := x4_0 } : SFl)) v2_0 v4_0)) [(0, 0, 1), (1, 1, 1)] z96 pl96 rfl rfl ⟨(cells_one h2_0.oneCell), (cells_one h4_0.oneCell), trivial⟩ ⟨rfl, rfl, trivial⟩ rfl rfl) ?_; refine st_box (cs := (SFl.cells (({ b := x2_0, safe := x4_0 } : SFl)) v2_0 v4_0)) rfl rfl ?_; intro ba14 w5 ga14 la14 hm ha14; have eh0a14 : b0 ≠ ba14 := (by have := h0.lt; omega); obtain ⟨Q6, sQ, sT, n_ha14, uQ2⟩ := exQ uQ ga14 la14 hm; replace a0_0 := a0_0.sub sQ; replace a0_1 := a0_1.sub sQ; replace n_h0 := fun hh => n_h0 (sT _ hh); replace h2_0 := h2_0.sub sQ sT; replace h4_0 := h4_0.sub sQ; replace tQ := fun b hb => tQ b (sT b hb); replace sQ0 := fun b hb hl => sQ b (sQ0 b hb hl) (Nat.lt_of_lt_of_le hl M.size); replace ga14 := Nat.le_trans M.size ga14; replace a0_0 := a0_0.md0 hm; replace a0_1 := a0_1.md0 hm; replace h0 := h0.md0 hm; replace h2_0 := h2_0.md0 hm; replace h4_0 := h4_0.md0 hm; replace uQ := uQ.md hm; replace M := M.step0 hm; clear uQ; have uQ := uQ2; clear uQ2 sQ sT; have p_ha14 : Fsh [] w ba14 := .inr ga14; refine asg rfl ?_; refine nt ?_; refine c_ret ?_; exact ret1L (v := (.pointer (some ⟨ba14, 0, none⟩))) trivial rfl ⟨rfl, trivial⟩ ⟨ba14, _, _, (({ b := x2_0, safe := x4_0 } : SFl)), Q6, rfl, M, ⟨sQ0, tQ, uQ⟩, ha14, n_ha14, ga14, h2_0, h4_0, (by rw [← hF2, ← hF4])⟩
theorem hEqual_any {w : World} {Q : Nat → Prop} (uQ : Up w Q) {v0 : Value} {a : List UInt8} (h0 : Ls tB8 w Q v0 a) {v1 : Value} {b : List UInt8} (h1 : Ls tB8 w Q v1 b) :
    Calls Tryz.prog 79 #[v0, v1] w fun en w' => ∃ r0 : Bool, en = .returned (.bool r0) ∧ Md [] w w' ∧ decide (a = b) = r0 := by
  have L0 := h0.len63; have L1 := h1.len63; have M := Md.refl [] w; have uQ0 := uQ; have tQ : ∀ b, Q b → Q b := fun _ h => h; have sQ0 : ∀ b, Q b → b < w.heap.size → Q b := fun _ h _ => h; refine enter (n := 10) Tryz.func79 rfl rfl rfl ?_; intro B; refine ns ?_; refine asg rfl ?_; refine nt ?_; refine ns ?_; refine mv rfl ?_; refine st _ (r_convBS (s := a) u31 u5 u9 rfl h0.by) ?_; refine mv rfl ?_; refine st _ (r_convBS (s := b) u31 u5 u9 rfl h1.by) ?_; refine st _ (r_eqlS (a := a) (b := b) rfl rfl) ?_; refine asg rfl ?_; refine nt ?_; refine c_ret ?_; exact ret1L (v := (.bool ((decide (a = b))))) trivial rfl ⟨rfl, trivial⟩ ⟨(decide (a = b)), rfl, M, (by simp (disch := first | omega | assumption | (simp; done) | fail) only [if_pos, if_neg, Option.getD_some, Option.some.injEq, reduceIte, Bool.false_eq_true, Bool.true_eq_false, decide_true, decide_false, not_true_eq_false, not_false_eq_true])⟩
end Go.Proofs.YtogcacggojjijaaGreat
namespace Go.Proofs.YtogcacggojjijaaGreat
open Go Go.Wk Go.RowKit
set_option linter.unusedVariables false
set_option linter.unusedSimpArgs false
attribute [local irreducible] wpList wpQuiet wpStill wpMix Code.wp Calls bodyPost
theorem elT3 : elT Tryz.prog 3 1 8 = true := by kernel_rfl
theorem fn78 : isFn Tryz.prog 78 = true := by kernel_rfl
theorem fn79 : isFn Tryz.prog 79 = true := by kernel_rfl
theorem fn80 : isFn Tryz.prog 80 = true := by kernel_rfl
theorem u87 : Tryz.prog.underlying 87 = some (.slice 3) := by kernel_rfl

theorem sDirty_any {w : World} {Q : Nat → Prop} (uQ : Up w Q) {b0 : Nat} {v0_0 : Value} {v0_1 : Value} (f : SFl) (h0 : Blk w b0 (SFl.cells f v0_0 v0_1) 96) (n0 : ¬ Q b0) (a0_0 : Ls tB8 w Q v0_0 f.b) (a0_1 : Ls tB8 w Q v0_1 f.safe) (p0 : f.b.length ≤ 1000000) (p1 : f.safe.length ≤ 1000000) :
    Calls Tryz.prog 64 #[.pointer (some ⟨b0, 0, none⟩)] w fun en w' => ∃ u0 : Value, ∃ r0 : List Nat, ∃ Q' : Nat → Prop, en = .returned (u0) ∧ Md [] w w' ∧ NewQ w w' Q Q' ∧ Ow tNat 3 (Fsh [] w) w' Q' u0 r0 ∧ dirF f.b f.safe (secN f.b f.safe) = r0 := by
  have n_h0 := n0; have M := Md.refl [] w; have uQ0 := uQ; have tQ : ∀ b, Q b → Q b := fun _ h => h; have sQ0 : ∀ b, Q b → b < w.heap.size → Q b := fun _ h _ => h; refine enter (n := 30) Tryz.func64 rfl rfl rfl ?_; intro B; refine ns ?_; refine asg rfl ?_; refine nt ?_; refine ns ?_; refine asg rfl ?_; refine nt ?_; refine c_seq ?_; refine ns ?_; refine mv rfl ?_; refine st_call fn78 rfl (sSectors_any uQ f h0 n_h0 a0_0 a0_1 (by first | omega | (simp <;> omega) | (simp at * <;> omega)) (by first | omega | (simp <;> omega) | (simp at * <;> omega))) ?_; rintro en w1 ⟨x1_0, rfl, hm, q1_0, hF1⟩; refine ⟨_, rfl, ?_⟩; replace a0_0 := a0_0.md0 hm; replace a0_1 := a0_1.md0 hm; replace h0 := h0.md0 hm; replace uQ := uQ.md hm; replace M := M.step0 hm; refine mv rfl ?_; refine nt ?_; refine c_block ?_; refine loop3 (fun (vo : Value) (o : List Nat) (i : Nat) => [(3, vo), (7, (.int .i64 ((i : Nat) : Int))), (0, (.pointer (some ⟨b0, 0, none⟩))), (6, (.int .i64 ((x1_0 : Nat) : Int)))]) (fun (vo : Value) (o : List Nat) (i : Nat) w' => ∃ Q' : Nat → Prop, (∀ b, Q' b → Q b) ∧ (∀ b, Q b → b < w.heap.size → Q' b) ∧ Up w' Q' ∧ Md [] w w' ∧ Ow tNat 3 (Fsh [] w) w' Q' vo o ∧ Blk w' b0 (SFl.cells f v0_0 v0_1) 96 ∧ Ls tB8 w' Q' v0_0 f.b ∧ Ls tB8 w' Q' v0_1 f.safe ∧ ¬ Q' b0 ∧ o = dirF f.b f.safe i ∧ o.length ≤ i ∧ i ≤ secN f.b f.safe) (fun (vo : Value) (o : List Nat) (i : Nat) => secN f.b f.safe - i) (x0 := (.slice none 0 0)) (x1 := ([] : List Nat)) (x2 := 0) ?_ ?_ ?_
  · exact ⟨rfl, rfl, rfl, rfl, trivial⟩
  · exact ⟨Q, tQ, sQ0, uQ, M, (Ow.nil _ _ _ _ _), h0, a0_0, a0_1, n_h0, rfl, (by simp), (by omega)⟩
  · clear M uQ tQ sQ0 n_h0 a0_0 a0_1 h0
    rintro vo o i B w2 ⟨Q3, tQ, sQ0, uQ, M, f_o, h0, a0_0, a0_1, n_h0, i0_0, i0_1, i0_2⟩; refine ns ?_; have sn : secN f.b f.safe ≤ 2000 := (by unfold secN; omega); refine st _ (r_ltN (a := i) (b := x1_0) rfl rfl) ?_; refine nt ?_; refine c_seq ?_; refine c_if rfl (fun h8 => ?_) (fun h8 => ?_)
    · (first | (have h8n := of_decide_eq_true h8) | (have h8n := of_decide_eq_false (bnt h8)) | (have h8n := bnt h8) | (have h8n := h8)); refine c_skip ?_; refine c_then ?_; refine c_seq ?_; refine c_block ?_; refine ns ?_; refine mv rfl ?_; refine asg rfl ?_; refine nt ?_; refine c_seq ?_; have f_o_q := f_o; have h0_q := h0; have a0_0_q := a0_0; have a0_1_q := a0_1; refine c_mixT [(0, true), (1, true), (2, true), (3, true), (4, true), (6, true), (7, true), (8, true), (9, true), (10, true), (5, false)] [11, 12, 13] (fun w' => Md [] w2 w') mixed (by kernel_rfl) ?_; intro w4 hd0; refine ⟨hd0.mono (by simp), ?_⟩; have MC := hd0.mono (T := []) (by simp); refine Go.Wk.m _ (fun w' hc => r_move rfl) ?_; refine Go.Wk.m _ (fun w' hc => r_nil rfl) ?_; refine Go.Wk.m _ (fun w' hc => r_field rfl off96_0) ?_; refine Go.Wk.m _ (fun w' hc => (r_loadBlk rfl one31 (h0_q.md0 hc) rfl).to (b := v0_0) rfl) ?_; refine Go.Wk.m _ (fun w' hc => r_move rfl) ?_; refine Go.Wk.m _ (fun w' hc => r_move rfl) ?_; refine Go.Wk.m _ (fun w' hc => r_nil rfl) ?_; refine Go.Wk.m _ (fun w' hc => r_field rfl off96_1) ?_; refine Go.Wk.m _ (fun w' hc => (r_loadBlk rfl one31 (h0_q.md0 hc) rfl).to (b := v0_1) rfl) ?_; refine Go.Wk.m _ (fun w' hc => r_move rfl) ?_; replace f_o := f_o.md0 hd0; replace h0 := h0.md0 hd0; replace a0_0 := a0_0.md0 hd0; replace a0_1 := a0_1.md0 hd0; replace uQ := uQ.md hd0; replace M := M.step0 hd0; refine m_e ?_ rfl; refine st_call fn80 rfl (sSector_any uQ a0_0 i (by first | omega | (simp <;> omega)) (by first | omega | (simp <;> omega) | (simp at * <;> omega)) (by first | omega | (simp <;> omega) | (simp at * <;> omega))) ?_; rintro en w5 ⟨v5_0, x5_0, rfl, hm, h5_0, hF5⟩; refine ⟨_, rfl, ?_⟩; replace f_o := f_o.md0 hm; replace h0 := h0.md0 hm; replace a0_0 := a0_0.md0 hm; replace a0_1 := a0_1.md0 hm; replace uQ := uQ.md hm; replace M := M.step0 hm; replace MC := MC.step0 hm; refine st_nil ⟨rfl, MC, ?_⟩; refine m_nil ?_; clear h0_q a0_0_q a0_1_q f_o_q; clear MC; refine st_call fn80 rfl (sSector_any uQ a0_1 i (by first | omega | (simp <;> omega)) (by first | omega | (simp <;> omega) | (simp at * <;> omega)) (by first | omega | (simp <;> omega) | (simp at * <;> omega))) ?_; rintro en w6 ⟨v6_0, x6_0, rfl, hm, h6_0, hF6⟩; refine ⟨_, rfl, ?_⟩; replace f_o := f_o.md0 hm; replace h0 := h0.md0 hm; replace a0_0 := a0_0.md0 hm; replace a0_1 := a0_1.md0 hm; replace h5_0 := h5_0.md0 hm; replace uQ := uQ.md hm; replace M := M.step0 hm
      refine st_call fn79 rfl (hEqual_any uQ h5_0 h6_0) ?_; rintro en w7 ⟨x7_0, rfl, hm, hF7⟩; refine ⟨_, rfl, ?_⟩; replace f_o := f_o.md0 hm; replace h0 := h0.md0 hm; replace a0_0 := a0_0.md0 hm; replace a0_1 := a0_1.md0 hm; replace h5_0 := h5_0.md0 hm; replace h6_0 := h6_0.md0 hm; replace uQ := uQ.md hm; replace M := M.step0 hm; refine st _ (r_not rfl) ?_; refine nt ?_; refine c_if rfl (fun h23 => ?_) (fun h23 => ?_)
      · (first | (have h23n := of_decide_eq_true h23) | (have h23n := of_decide_eq_false (bnt h23)) | (have h23n := bnt h23) | (have h23n := h23)); refine c_region ?_; refine mv rfl ?_; refine mv rfl ?_; refine st_buildSliceG [[(.int .i64 ((i : Nat) : Int))]] u87 elT3 (by decide) (by decide) rfl rfl ⟨rfl, trivial⟩ ⟨rfl, trivial⟩ rfl (by decide) ?_; intro ba26 w8 ga26 la26 hm ha26; have ya26 := uQ _ ga26; replace f_o := f_o.md0 hm; replace h0 := h0.md0 hm; replace a0_0 := a0_0.md0 hm; replace a0_1 := a0_1.md0 hm; replace h5_0 := h5_0.md0 hm; replace h6_0 := h6_0.md0 hm; replace uQ := uQ.md hm; replace M := M.step0 hm; replace ha26 := Ls.of_blk (m := 1) (R := Q3) (T := tNat) (xs := [i]) ha26 ⟨_, _, rfl, ⟨rfl, (by omega)⟩, rfl⟩ rfl (by decide) ya26; refine st_ap (sz := 1) (by rfl) u87 elT3 rfl rfl f_o ha26 (fun _ h _ => h) uQ (Fsh.new M) (by first | omega | (simp <;> omega) | (simp at * <;> omega)) (by first | omega | (simp <;> omega) | (simp at * <;> omega)) ?_; intro v10 w11 Q12 sQ sT uQ2 hO9 hm hS _ hv2; have f_o0 := f_o; clear f_o; replace n_h0 := fun hh => n_h0 (sT _ hh); replace a0_0 := a0_0.sub sQ; replace a0_1 := a0_1.sub sQ; replace h5_0 := h5_0.sub sQ; replace h6_0 := h6_0.sub sQ; replace ha26 := ha26.sub sQ; replace tQ := fun b hb => tQ b (sT b hb); replace sQ0 := fun b hb hl => sQ b (sQ0 b hb hl) (Nat.lt_of_lt_of_le hl M.size); replace h0 := h0.md hm (apart_ow f_o0 h0 (by decide)); replace a0_0 := a0_0.md hm hS; replace a0_1 := a0_1.md hm hS; replace h5_0 := h5_0.md hm hS; replace h6_0 := h6_0.md hm hS; replace ha26 := ha26.md hm hS; replace uQ := uQ.md hm; replace M := M.stepO hm (fun b hb => (f_o0.2 b hb).1); clear uQ; have uQ := uQ2; clear uQ2 sQ sT hS hv2; refine asg rfl ?_; refine st_nil ?_; refine n_block ?_; refine c_then ?_; refine c_region ?_; refine st _ (r_addN (a := i) (b := 1) 9223372036854775808 rfl rfl rfl (by omega)) ?_; refine mv rfl ?_; refine nt ?_; refine next3 (x0 := v10) (x1 := (o ++ ([i]))) (x2 := (i + 1)) (by omega) ⟨rfl, (fitI rfl (by omega)), rfl, rfl, trivial⟩ ⟨Q12, tQ, sQ0, uQ, M, hO9, h0, a0_0, a0_1, n_h0, (by rw [dirF, List.range_succ, List.filter_append, i0_0]; unfold dirF; simp; simp_all), (by simp; omega), (by omega)⟩
      · (first | (have h23n := of_decide_eq_false h23) | (have h23n := of_decide_eq_true (bnf h23)) | (have h23n := bnf h23) | (have h23n := h23)); refine c_skip ?_; refine n_block ?_; refine c_then ?_; refine c_region ?_; refine st _ (r_addN (a := i) (b := 1) 9223372036854775808 rfl rfl rfl (by omega)) ?_; refine mv rfl ?_; refine nt ?_; refine next3 (x0 := vo) (x1 := o) (x2 := (i + 1)) (by omega) ⟨rfl, (fitI rfl (by omega)), rfl, rfl, trivial⟩ ⟨Q3, tQ, sQ0, uQ, M, f_o, h0, a0_0, a0_1, n_h0, (by rw [dirF, List.range_succ, List.filter_append, i0_0]; unfold dirF; simp; simp_all), (by omega), (by omega)⟩
    · (first | (have h8n := of_decide_eq_false h8) | (have h8n := of_decide_eq_true (bnf h8)) | (have h8n := bnf h8) | (have h8n := h8)); refine c_exit ?_; refine x_then ?_; refine x_then ?_; refine x_hit ?_; refine c_then ?_; refine ns ?_; refine mv rfl ?_; refine asg rfl ?_; refine nt ?_; refine c_ret ?_; exact ret1L (v := vo) trivial rfl ⟨rfl, trivial⟩ ⟨_, o, Q3, rfl, M, ⟨sQ0, tQ, uQ⟩, f_o, (by rw [i0_0, show i = secN f.b f.safe by omega])⟩
theorem sDirty_any_ls {w : World} {Q : Nat → Prop} (uQ : Up w Q) {b0 : Nat} {v0_0 : Value} {v0_1 : Value} (f : SFl) (h0 : Blk w b0 (SFl.cells f v0_0 v0_1) 96) (n0 : ¬ Q b0) (a0_0 : Ls tB8 w Q v0_0 f.b) (a0_1 : Ls tB8 w Q v0_1 f.safe) (p0 : f.b.length ≤ 1000000) (p1 : f.safe.length ≤ 1000000) :
    Calls Tryz.prog 64 #[.pointer (some ⟨b0, 0, none⟩)] w fun en w' => ∃ u0 : Value, ∃ r0 : List Nat, en = .returned (u0) ∧ Md [] w w' ∧ Ls tNat w' Q u0 r0 ∧ dirF f.b f.safe (secN f.b f.safe) = r0 :=
  (sDirty_any uQ f h0 n0 a0_0 a0_1 p0 p1).mono fun en w' ⟨u0, r0, Q2, he, hm, kq, k0, hF⟩ => ⟨u0, r0, he, hm, k0.ls kq.2.1 (Fsh.up uQ), hF⟩
end Go.Proofs.YtogcacggojjijaaGreat
namespace Go.Proofs.YtogcacggojjijaaGreat
open Go Go.Wk Go.RowKit
set_option linter.unusedVariables false
set_option linter.unusedSimpArgs false
attribute [local irreducible] wpList wpQuiet wpStill wpMix Code.wp Calls bodyPost
theorem el3 : elemIs Tryz.prog 3 1 = true := by kernel_rfl
theorem fn86 : isFn Tryz.prog 86 = true := by kernel_rfl
theorem one3 : isOne Tryz.prog 3 = true := by kernel_rfl

theorem iIndex_any {w : World} {Q : Nat → Prop} (uQ : Up w Q) {v0 : Value} {l : List Nat} (h0 : Ls tNat w Q v0 l) (v : Nat) (a1 : v < 9223372036854775808) :
    Calls Tryz.prog 86 #[v0, (.int .i64 ((v : Nat) : Int))] w fun en w' => ∃ r0 : Int, en = .returned (.int .i64 (r0 : Int)) ∧ Md [] w w' ∧ (-9223372036854775808 ≤ r0 ∧ r0 < 9223372036854775808) ∧ idxR v l 0 = r0 := by
  have L0 := h0.len63; have M := Md.refl [] w; have uQ0 := uQ; have tQ : ∀ b, Q b → Q b := fun _ h => h; have sQ0 : ∀ b, Q b → b < w.heap.size → Q b := fun _ h _ => h; refine enter (n := 19) Tryz.func86 rfl rfl rfl ?_; intro B; refine ns ?_; refine asg rfl ?_; refine nt ?_; refine c_seq ?_; refine ns ?_; refine mv rfl ?_; refine st _ (r_len rfl u87 h0.shp) ?_; refine mv rfl ?_; refine nt ?_; refine c_block ?_; obtain ⟨r0, hr00⟩ : ∃ r, idxR v l 0 = r := ⟨_, rfl⟩; have hr0o := hr00
  try simp only [List.nil_append] at hr00
  refine loop1 (fun (i : Nat) => [(8, (.int .i64 ((i : Nat) : Int))), (0, v0), (1, (.int .i64 ((v : Nat) : Int))), (7, (.int .i64 ((l.length : Nat) : Int)))]) (fun (i : Nat) w' => ∃ Q' : Nat → Prop, (∀ b, Q' b → Q b) ∧ (∀ b, Q b → b < w.heap.size → Q' b) ∧ Up w' Q' ∧ Md [] w w' ∧ Ls tNat w' Q' v0 l ∧ i ≤ l.length ∧ idxR v (l.drop i) i = r0) (fun (i : Nat) => l.length - i) (x0 := 0) ?_ ?_ ?_
  · exact ⟨rfl, rfl, rfl, rfl, trivial⟩
  · exact ⟨Q, tQ, sQ0, uQ, M, h0, (by omega), (by have hh := hr00; first | exact hh | exact hr0o | (simp only [List.nil_append] at hh; exact hh))⟩
  · clear M uQ tQ sQ0 h0
    rintro i B w1 ⟨Q2, tQ, sQ0, uQ, M, h0, i0_0, hr0⟩; refine ns ?_; refine st _ (r_ltN (a := i) (b := l.length) rfl rfl) ?_; refine nt ?_; refine c_seq ?_; refine c_if rfl (fun h9 => ?_) (fun h9 => ?_)
    · (first | (have h9n := of_decide_eq_true h9) | (have h9n := of_decide_eq_false (bnt h9)) | (have h9n := bnt h9) | (have h9n := h9)); refine c_skip ?_; refine c_then ?_; refine c_seq ?_; refine c_block ?_; refine ns ?_; refine mv rfl ?_; refine asg rfl ?_; refine nt ?_; refine ns ?_; refine mv rfl ?_; refine mv rfl ?_; refine mv rfl ?_; refine st _ (r_indexN (i := i) 1 rfl rfl u87 el3 h0.shp (by omega)) ?_; obtain ⟨x3, hx3⟩ := getE (l := l) (i := i) (by first | omega | (simp <;> omega)); obtain ⟨c4, hr3, ha3⟩ := h0.get hx3; obtain ⟨rfl, hr3b⟩ := hr3; replace ha3 : At _ v0 (i * 1) [(.int .i64 ((x3 : Nat) : Int))] := ha3; refine st _ ((r_loadE (kk := i * 1) 0 rfl rfl one3 ha3 rfl).to (b := (.int .i64 ((x3 : Nat) : Int))) rfl) ?_; refine st _ (r_eqN (a := v) (b := x3) rfl rfl) ?_; refine st_nil ?_; clear ha3; refine c_then ?_; refine c_if rfl (fun h16 => ?_) (fun h16 => ?_)
      · (first | (have h16n := of_decide_eq_true h16) | (have h16n := of_decide_eq_false (bnt h16)) | (have h16n := bnt h16) | (have h16n := h16)); refine ns ?_; refine mv rfl ?_; refine asg rfl ?_; refine nt ?_; refine c_ret ?_; refine r_block ?_; refine r_then ?_; refine r_then ?_; refine r_block ?_; refine r_then ?_; exact ret1L (v := (.int .i64 (((i : Nat) : Int) : Int))) trivial rfl ⟨rfl, trivial⟩ ⟨((i : Nat) : Int), rfl, M, (by first | assumption | omega | simp_all), (by have e := hr0o.trans (hr0.symm.trans (idxR_yes hx3 (by omega))); exact e)⟩
      · (first | (have h16n := of_decide_eq_false h16) | (have h16n := of_decide_eq_true (bnf h16)) | (have h16n := bnf h16) | (have h16n := h16)); refine c_skip ?_; refine n_block ?_; refine c_then ?_; refine c_region ?_; refine st _ (r_addN (a := i) (b := 1) 9223372036854775808 rfl rfl rfl (by omega)) ?_; refine mv rfl ?_; refine nt ?_; refine next1 (x0 := (i + 1)) (by omega) ⟨(fitI rfl (by omega)), rfl, rfl, rfl, trivial⟩ ⟨Q2, tQ, sQ0, uQ, M, h0, (by omega), (by have hh := hr0; rw [idxR_no hx3 (by omega)] at hh; exact hh)⟩
    · (first | (have h9n := of_decide_eq_false h9) | (have h9n := of_decide_eq_true (bnf h9)) | (have h9n := bnf h9) | (have h9n := h9)); refine c_exit ?_; refine x_then ?_; refine x_then ?_; refine x_hit ?_; refine c_then ?_; refine ns ?_; refine asg rfl ?_; refine nt ?_; refine c_ret ?_; exact ret1L (v := (.int .i64 ((-1) : Int))) trivial rfl ⟨rfl, trivial⟩ ⟨(-1), rfl, M, (by first | assumption | omega | simp_all), (by have e := hr0o.trans (hr0.symm.trans (idxR_end (by omega))); exact e)⟩
theorem iHas_any {w : World} {Q : Nat → Prop} (uQ : Up w Q) {v0 : Value} {l : List Nat} (h0 : Ls tNat w Q v0 l) (v : Nat) (a1 : v < 9223372036854775808) :
    Calls Tryz.prog 81 #[v0, (.int .i64 ((v : Nat) : Int))] w fun en w' => ∃ r0 : Bool, en = .returned (.bool r0) ∧ Md [] w w' ∧ decide (v ∈ l) = r0 := by
  have L0 := h0.len63; have M := Md.refl [] w; have uQ0 := uQ; have tQ : ∀ b, Q b → Q b := fun _ h => h; have sQ0 : ∀ b, Q b → b < w.heap.size → Q b := fun _ h _ => h; refine enter (n := 9) Tryz.func81 rfl rfl rfl ?_; intro B; refine ns ?_; refine asg rfl ?_; refine nt ?_; refine ns ?_; refine mv rfl ?_; refine mv rfl ?_; refine st_call fn86 rfl (iIndex_any uQ h0 v (by first | omega | (simp <;> omega))) ?_; rintro en w1 ⟨x1_0, rfl, hm, q1_0, hF1⟩; refine ⟨_, rfl, ?_⟩; replace h0 := h0.md0 hm; replace uQ := uQ.md hm; replace M := M.step0 hm; refine st _ (r_ge (a := x1_0) (b := 0) rfl rfl) ?_; refine asg rfl ?_; refine nt ?_; refine c_ret ?_; exact ret1L (v := (.bool ((decide (0 ≤ x1_0))))) trivial rfl ⟨rfl, trivial⟩ ⟨(decide (0 ≤ x1_0)), rfl, M, (by rw [← hF1]; exact decide_eq_decide.2 (idxR_has v l 0))⟩
end Go.Proofs.YtogcacggojjijaaGreat
