/- Part 1 of what the walk of a law stands on: Base, Ops, Steps, Draws, Strings, Rep, Nums, Puts, Loops, GuardR, FieldP, HashP, Opens, Tails, More, LeP, Types, RefP, HashN, MakerP, MakerQ, FldR, SeqP, Loops2, MakerR, MakerS, Anys, InsP, FieldQ, FldS, CompR, HeadR, HeadQ, ViewP, AtP, AtQ, MatP, MatL, MatH, MatW, MatX. No statement is proved here. -/
import Derived.WalkKit
import Derived.WalkSpells
import Derived.WalkLawsBesides
import Derived.Deep.Quiet
import Derived.StillTail
import Derived.KernelRfl
import Derived.Deep.LoopGhost
import Derived.Laws.IdiomStrings
import Derived.Laws.StructEq
import Derived.Laws.Externs
import Derived.Lib.BytesEntry
import Derived.Recover
import Derived.Lib.IndexLaws
import Derived.ProofKit
import Derived.OpenShut
import Derived.ShutString
import Derived.Deep.Slices
import Derived.Lib.Overlaps
import Derived.Lib.AppendZerosOnto
import Derived.Sort.Grow
import Derived.Lib.SliceRun
import Derived.Lib.Bytealg
import Derived.Lib.SmallJoins
namespace Go.Wk
open Go Go.RowKit

theorem bnt {b : Bool} (h : (!b) = true) : b = false := by cases b <;> simp_all
theorem bnf {b : Bool} (h : (!b) = false) : b = true := by cases b <;> simp_all

/-! ### Frames -/

def look : List (Nat × Value) → Nat → Option Value
  | [], _ => none
  | (k, v) :: r, t => cond (Nat.beq k t) (some v) (look r t)

structure Fr (n : Nat) where
  tmps : Array Value
  size : tmps.size = n

def over {n : Nat} (A : Fr n) (D : List Deferred) : List (Nat × Value) → Act
  | [] => ⟨A.tmps, D⟩
  | (k, v) :: r => (over A D r).put (some k) v

def ev (n : Nat) (l : List (Nat × Value)) : Operand → Option Value
  | .tmp t => cond (Nat.ble n t) none (look l t)
  | .const v => some v
  | .global g => some (.pointer (some ⟨g, 0, none⟩))
  | .func f => some (.func (.func f) #[] #[])

section
variable {n : Nat} {A : Fr n} {D : List Deferred} {l : List (Nat × Value)}

theorem over_size : (over A D l).tmps.size = n := by
  induction l with
  | nil => exact A.size
  | cons p r ih => simp [over, Act.put, ih]

theorem over_defers : (over A D l).defers = D := by
  induction l with
  | nil => rfl
  | cons p r ih => simp [over, Act.put, ih]

theorem over_look {t : Nat} {v : Value} (ht : t < n) (h : look l t = some v) : (over A D l).tmps.getD t undef = v := by
  induction l with
  | nil => simp [look] at h
  | cons p r ih =>
    obtain ⟨k, u⟩ := p
    simp only [look] at h
    have hs : (over A D r).tmps.size = n := over_size
    by_cases hk : k = t
    · subst hk
      simp at h
      subst h
      simp [over, Act.put, Array.getD, hs, ht]
    · have : Nat.beq k t = false := Bool.eq_false_iff.2 fun hh => hk (Nat.eq_of_beq_eq_true hh)
      simp only [this, cond_false] at h
      have hi := ih h
      rw [← hi]
      show ((over A D r).tmps.setIfInBounds k u).getD t undef = _
      simp [hk]

theorem ev_eval {x : Operand} {v : Value} (h : ev n l x = some v) : (over A D l).eval x = v := by
  cases x with
  | tmp t =>
    simp only [ev] at h
    cases ht : Nat.ble n t with
    | true => simp [ht] at h
    | false =>
      simp only [ht, cond_false] at h
      have : t < n := Nat.lt_of_not_le fun hh => by rw [Nat.ble_eq_true_of_le hh] at ht; cases ht
      exact over_look this h
  | const u => simp only [ev, Option.some.injEq] at h; exact h
  | global g => simp only [ev, Option.some.injEq] at h; exact h
  | func f => simp only [ev, Option.some.injEq] at h; exact h

def evs (n : Nat) (l : List (Nat × Value)) : List Operand → Option (List Value)
  | [] => some []
  | x :: r => match ev n l x, evs n l r with
    | some v, some vs => some (v :: vs)
    | _, _ => none

theorem evs_eval {xs : List Operand} {vs : List Value} (h : evs n l xs = some vs) : xs.map (over A D l).eval = vs := by
  induction xs generalizing vs with
  | nil => simpa [evs] using h
  | cons x r ih =>
    simp only [evs] at h
    split at h
    · rename_i v us h1 h2
      simp at h; subst h
      simp [ev_eval h1, ih h2]
    · cases h

/-- 'l1' lists slots whose values are those of 'l'. -/
def Fits (n : Nat) (l : List (Nat × Value)) : List (Nat × Value) → Prop
  | [] => True
  | (t, v) :: r => ev n l (.tmp t) = some v ∧ Fits n l r

theorem put_self (a : Act) (t : Nat) (v : Value) (h : a.tmps.getD t undef = v) : a.put (some t) v = a := by
  cases a with
  | mk tm ds =>
    simp only [Act.put]
    congr 1
    apply Array.ext
    · simp
    · intro i h1 h2
      rw [Array.getElem_setIfInBounds]
      split
      · rename_i e; subst e; subst h; simp at h1; simp [Array.getD, h1]
      · rfl

theorem act_eta (a : Act) (h : a.defers = D) : (⟨a.tmps, D⟩ : Act) = a := by cases a; subst h; rfl

theorem over_fits {l1 : List (Nat × Value)} (h : Fits n l l1) : over (⟨(over A D l).tmps, over_size⟩ : Fr n) D l1 = over A D l := by
  induction l1 with
  | nil => exact act_eta _ over_defers
  | cons p r ih =>
    obtain ⟨t, v⟩ := p
    simp only [Fits] at h
    simp only [over]
    rw [ih h.2]
    exact put_self _ _ _ (by have := ev_eval (A := A) (D := D) h.1; simpa [Act.eval] using this)

end

/-! ### Worlds -/

/-- w' is w but for the old blocks of S, and new ones. -/
structure Md (S : List Nat) (w w' : World) : Prop where
  os : w'.os = w.os
  tape : w'.tape = w.tape
  output : w'.output = w.output
  size : w.heap.size ≤ w'.heap.size
  block : ∀ k, k < w.heap.size → k ∉ S → w'.heap[k]? = w.heap[k]?

theorem Md.refl (S : List Nat) (w : World) : Md S w w := ⟨rfl, rfl, rfl, Nat.le_refl _, fun _ _ _ => rfl⟩
theorem Md.trans {S : List Nat} {a b c : World} (h : Md S a b) (k : Md S b c) : Md S a c :=
  ⟨k.os.trans h.os, k.tape.trans h.tape, k.output.trans h.output, Nat.le_trans h.size k.size, fun i hi hs => (k.block i (Nat.lt_of_lt_of_le hi h.size) hs).trans (h.block i hi hs)⟩
theorem Md.mono {S T : List Nat} {a b : World} (h : Md S a b) (hs : ∀ k, k ∈ S → k < a.heap.size → k ∈ T) : Md T a b :=
  ⟨h.os, h.tape, h.output, h.size, fun i hi ht => h.block i hi fun hm => ht (hs i hm hi)⟩
/-- A step that writes blocks T, each of S or new since 'a'. -/
theorem Md.step {S T : List Nat} {a b c : World} (h : Md S a b) (k : Md T b c) (hT : ∀ i, i ∈ T → i ∈ S ∨ a.heap.size ≤ i) : Md S a c :=
  ⟨k.os.trans h.os, k.tape.trans h.tape, k.output.trans h.output, Nat.le_trans h.size k.size, fun i hi hs =>
    (k.block i (Nat.lt_of_lt_of_le hi h.size) fun hm => (hT i hm).elim hs fun h' => by omega).trans (h.block i hi hs)⟩
theorem Md.step0 {S : List Nat} {a b c : World} (h : Md S a b) (k : Md [] b c) : Md S a c := h.step k (by simp)
theorem Md.step1 {S : List Nat} {a b c : World} {i : Nat} (h : Md S a b) (k : Md [i] b c) (hi : a.heap.size ≤ i) : Md S a c :=
  h.step k (by intro j hj; simp at hj; subst hj; exact .inr hi)
theorem Md.step1' {S : List Nat} {a b c : World} {i : Nat} (h : Md S a b) (k : Md [i] b c) (hi : i ∈ S) : Md S a c :=
  h.step k (by intro j hj; simp at hj; subst hj; exact .inl hi)
theorem Md.below {w w' : World} (h : Md [] w w') : Below w.heap.size w w' := ⟨h.os, h.tape, h.output, h.size, fun k hk => h.block k hk (by simp)⟩
theorem Md.drew (w : World) : Md [] w { w with drawn := w.drawn + 1 } := ⟨rfl, rfl, rfl, Nat.le_refl _, fun _ _ _ => rfl⟩
theorem Md.alloc (w : World) (o : Obj) : Md [] w (w.alloc o) := ⟨rfl, rfl, rfl, by simp, fun _ hk _ => heap_alloc_old w o hk⟩
theorem Md.setCell (w : World) (a : Addr) (u : Value) : Md [a.block] w (w.setCell a u) :=
  ⟨rfl, rfl, rfl, by simp [World.setCell], fun k _ hs => Below.heap_setCell w a u k (by simpa using hs)⟩
theorem Md.grown {w w' : World} {r : Option Nat} (h : w.grownBy w' r) : Md r.toList w w' :=
  ⟨h.os, h.tape, h.output, h.size, fun k hk hs => h.block k hk (by rintro rfl; simp at hs)⟩

theorem Md.cell {S : List Nat} {w w' : World} {p : Addr} {u : Value} (h : Md S w w') (hc : w.cell? p = some u) (hs : p.block ∉ S) : w'.cell? p = some u :=
  (World.cell?_of_block (h.block p.block (World.block_lt_of_cell? w p hc) hs)).trans hc

/-! ### Blocks -/

/-- Block b holds just these cells. -/
def Blk (w : World) (b : Nat) (cs : List Value) (ty : TypeId) : Prop := w.heap[b]? = some (.cells cs.toArray ty (0, 0))

section
variable {w w' : World} {b : Nat} {cs : List Value} {ty : TypeId}
theorem Blk.lt (h : Blk w b cs ty) : b < w.heap.size := (Array.getElem?_eq_some_iff.1 h).1
theorem Blk.md {S : List Nat} (h : Blk w b cs ty) (m : Md S w w') (hs : b ∉ S) : Blk w' b cs ty := (m.block b h.lt hs).trans h
theorem Blk.md0 (h : Blk w b cs ty) (m : Md [] w w') : Blk w' b cs ty := h.md m (by simp)
theorem Blk.cell (h : Blk w b cs ty) (j : Nat) : w.cell? ⟨b, j, none⟩ = cs[j]? := by
  unfold Blk at h
  simp [World.cell?, h]
theorem Blk.frozen (h : Blk w b cs ty) (j : Nat) : w.frozen? ⟨b, j, none⟩ = false := by
  unfold Blk at h
  simp [World.frozen?, h]
theorem Blk.set (h : Blk w b cs ty) (j : Nat) (u : Value) : Blk (w.setCell ⟨b, j, none⟩ u) b (cs.set j u) ty := by
  have hl := h.lt
  unfold Blk at h ⊢
  simp only [World.setCell, Array.getElem?_modify, h]
  simp
theorem Blk.new (w : World) (cs : List Value) (ty : TypeId) : Blk (w.alloc (.cells cs.toArray ty)) w.heap.size cs ty := heap_alloc_new w _
end

/-! ### Slices of one-cell elements -/

def Sl (w : World) (v : Value) (l : List Value) : Prop :=
  ∃ a cap, v = .slice a l.length cap ∧ l.length ≤ cap ∧ cap ≤ maxLen ∧ (a = none → cap = 0) ∧ ∀ p, a = some p → ∀ j u, l[j]? = some u → w.cell? (p.add j) = some u

def b8 (x : UInt8) : Value := .int .u8 (x.toNat : Int)
def By (w : World) (v : Value) (l : List UInt8) : Prop := Sl w v (l.map b8)

/-- The pointer to element i. -/
def elemp : Value → Nat → Value
  | .slice (some p) _ _, i => .pointer (some (p.add i))
  | _, _ => undef
/-- 'v[lo:hi]'. -/
def subv : Value → Nat → Nat → Value
  | .slice a _ cap, lo, hi => .slice (if cap = lo then a else a.map (·.add lo)) (hi - lo) (cap - lo)
  | _, _, _ => undef

theorem Addr.add_block (p : Addr) (j : Nat) : (p.add j).block = p.block := by unfold Addr.add; split <;> rfl
theorem Addr.add_add (p : Addr) (i j : Nat) : (p.add i).add j = p.add (i + j) := by
  unfold Addr.add
  by_cases hi : i = 0 <;> by_cases hj : j = 0 <;> simp [hi, hj]
  omega
theorem Addr.add_mk (b o j : Nat) : (⟨b, o, none⟩ : Addr).add j = ⟨b, o + j, none⟩ := by unfold Addr.add; split <;> simp_all

section
variable {w w' : World} {v : Value} {l : List Value}
theorem Sl.nil (w : World) : Sl w (.slice none 0 0) [] := ⟨none, 0, rfl, Nat.le_refl _, by simp [maxLen], fun _ => rfl, by simp⟩
theorem Sl.len_le (h : Sl w v l) : l.length ≤ maxLen := by obtain ⟨a, cap, _, h1, h2, _⟩ := h; omega
/-- Kept where every old cell but those of S is. -/
theorem Sl.md0 (h : Sl w v l) (m : Md [] w w') : Sl w' v l := by
  obtain ⟨a, cap, h0, h1, h2, h3, h4⟩ := h
  exact ⟨a, cap, h0, h1, h2, h3, fun p hp j u hu => m.cell (h4 p hp j u hu) (by simp)⟩
def vblock : Value → Option Nat
  | .slice (some p) _ _ => some p.block
  | _ => none
/-- v is a slice of m elements. -/
def Shp (v : Value) (m : Nat) : Prop := ∃ a cap, v = .slice a m cap ∧ m ≤ cap ∧ cap ≤ maxLen ∧ (a = none → cap = 0)
theorem Sl.shp (h : Sl w v l) : Shp v l.length := by obtain ⟨a, cap, h1, h2, h3, h4, _⟩ := h; exact ⟨a, cap, h1, h2, h3, h4⟩
theorem Sl.of_blk {b : Nat} {cs : List Value} {ty : TypeId} (h : Blk w b cs ty) (hm : cs.length ≤ maxLen) : Sl w (.slice (some ⟨b, 0, none⟩) cs.length cs.length) cs :=
  ⟨_, _, rfl, Nat.le_refl _, hm, by simp, fun p hp j u hu => by cases hp; rw [Addr.add_mk, Nat.zero_add, h.cell]; exact hu⟩
theorem Sl.sub (h : Sl w v l) (lo hi : Nat) (h1 : lo ≤ hi) (h2 : hi ≤ l.length) : Sl w (subv v lo hi) ((l.take hi).drop lo) := by
  obtain ⟨a, cap, rfl, h3, h4, h5, h6⟩ := h
  refine ⟨if cap = lo then a else a.map (·.add lo), cap - lo, ?_, ?_, by omega, ?_, ?_⟩
  · simp only [subv]; congr 1; simp; omega
  · simp; omega
  · intro h
    split at h
    · omega
    · cases a with
      | none => have := h5 rfl; omega
      | some p => simp at h
  · intro p hp j u hu
    have hj : j < hi - lo := by
      have := (List.getElem?_eq_some_iff.1 hu).1
      simp at this
      omega
    have hne : cap ≠ lo := by omega
    rw [if_neg hne] at hp
    cases a with
    | none => simp at hp
    | some q =>
      simp at hp
      subst hp
      rw [Addr.add_add]
      refine h6 q rfl (lo + j) u ?_
      rw [List.getElem?_drop, List.getElem?_take] at hu
      rw [if_pos (by omega)] at hu
      exact hu
end
theorem By.sub {w : World} {v : Value} {l : List UInt8} (h : By w v l) (lo hi : Nat) (h1 : lo ≤ hi) (h2 : hi ≤ l.length) : By w (subv v lo hi) ((l.take hi).drop lo) := by
  have := Sl.sub h lo hi h1 (by simpa using h2)
  unfold By
  rwa [List.map_drop, List.map_take]
theorem By.shp {w : World} {v : Value} {l : List UInt8} (h : By w v l) : Shp v l.length := by have := Sl.shp h; simpa using this
theorem By.md0 {w w' : World} {v : Value} {l : List UInt8} (h : By w v l) (m : Md [] w w') : By w' v l := Sl.md0 h m
theorem By.of_blk {w : World} {b : Nat} {l : List UInt8} {ty : TypeId} {m : Nat} (h : Blk w b (l.map b8) ty) (hl : l.length = m) (hm : m ≤ maxLen) : By w (.slice (some ⟨b, 0, none⟩) m m) l := by
  have := Sl.of_blk h (by simpa [hl] using hm)
  simpa [By, hl] using this
theorem By.len_le {w : World} {v : Value} {l : List UInt8} (h : By w v l) : l.length ≤ maxLen := by have := Sl.len_le h; simpa using this
theorem getD_b8 (l : List UInt8) (i : Nat) (h : i < l.length) : (l.map b8)[i]? = some (b8 (l.getD i 0)) := by
  simp [List.getD, h]

theorem By.head {w : World} {v : Value} {l : List UInt8} (h : By w v l) (k : Nat) (hk : k ≤ l.length) : By w (subv v 0 k) (l.take k) := by simpa using h.sub 0 k (Nat.zero_le _) hk
theorem By.tail {w : World} {v : Value} {l : List UInt8} (h : By w v l) (k : Nat) (hk : k ≤ l.length) : By w (subv v k l.length) (l.drop k) := by simpa using h.sub k l.length hk (Nat.le_refl _)
/-! ### Types -/

def isOne (P : Program) (t : TypeId) : Bool :=
  match P.underlying t with
  | some (.struct _) | some (.array _ _) | none => false
  | some _ => Nat.beq (P.cellsOf t) 1
/-- struct or array of n cells -/
def isAggN (P : Program) (t : TypeId) (n : Nat) : Bool :=
  match P.underlying t with
  | some (.struct _) | some (.array _ _) => match P.info? t with
    | some i => Nat.beq i.size n
    | none => false
  | _ => false
def fieldOff (P : Program) (s : TypeId) (f : Nat) : Option Nat :=
  match P.underlying s with
  | some (.struct fs) => match fs[f]? with
    | some fd => match P.info? fd.type with
      | some i => if i.size = 0 then none else some fd.offset
      | none => none
    | none => none
  | _ => none
def zcells (P : Program) (t : TypeId) : Option (List Value) :=
  match P.info? t with
  | some i => match i.zero with
    | some z => some z.cells.toList
    | none => none
  | none => none
def elemIs (P : Program) (e : TypeId) (n : Nat) : Bool :=
  match P.info? e with
  | some i => Nat.beq i.size n
  | none => false

theorem isOne_spec {P : Program} {t : TypeId} (h : isOne P t = true) : ∃ d i, P.underlying t = some d ∧ P.info? t = some i ∧ i.size = 1 ∧ (d matches .struct _ | .array _ _) = false := by
  unfold isOne at h
  split at h
  · cases h
  · cases h
  · cases h
  · rename_i d h1 h2 hd
    refine ⟨d, ?_⟩
    cases hi : P.info? t with
    | none => simp [Program.cellsOf, hi] at h
    | some i =>
      refine ⟨i, hd, rfl, by simpa [Program.cellsOf, hi] using h, ?_⟩
      cases d <;> simp_all
theorem isAggN_spec {P : Program} {t : TypeId} {n : Nat} (h : isAggN P t n = true) : ∃ d i, P.underlying t = some d ∧ P.info? t = some i ∧ i.size = n ∧ (d matches .struct _ | .array _ _) = true := by
  unfold isAggN at h
  split at h
  · rename_i d hd
    split at h
    · rename_i i hi; exact ⟨_, i, hd, hi, by simpa using h, rfl⟩
    · cases h
  · rename_i d hd
    split at h
    · rename_i i hi; exact ⟨_, i, hd, hi, by simpa using h, rfl⟩
    · cases h
  · cases h
theorem run_isAgg_one {P : Program} {t : TypeId} (h : isOne P t = true) (w : World) : (isAgg t).run P w = .ok false w := by
  obtain ⟨d, i, h1, h2, h3, h4⟩ := isOne_spec h
  simp only [isAgg, Sem.run_bind, run_underlying h1, Result.andThen_ok]
  cases d <;> simp_all
theorem run_isAgg_agg {P : Program} {t : TypeId} {n : Nat} (h : isAggN P t n = true) (w : World) : (isAgg t).run P w = .ok true w := by
  obtain ⟨d, i, h1, h2, h3, h4⟩ := isAggN_spec h
  simp only [isAgg, Sem.run_bind, run_underlying h1, Result.andThen_ok]
  cases d <;> simp_all
theorem run_sizeOf {P : Program} {t : TypeId} {i : TypeInfo} (h : P.info? t = some i) (w : World) : (sizeOf t).run P w = .ok i.size w := by
  simp [sizeOf, typeInfo, h]
end Go.Wk
namespace Go.Wk
open Go Go.RowKit

def RunV (P : Program) (o : Oper) (e : Operand → Value) (w : World) (v : Value) : Prop := (execOp e o).run P w = .ok (.value v) w

section
variable {P : Program} {n : Nat} {A : Fr n} {D : List Deferred} {l : List (Nat × Value)} {w : World}
variable {d : Option Tmp} {ty : TypeId} {ps : String} {af : Array Edge} {g : Option (Nat × Bool)}

theorem r_move {x : Operand} {v : Value} (h : ev n l x = some v) : RunV P ⟨d, .move x, ty, ps, af, g⟩ (over A D l).eval w v := by
  simp [RunV, execOp, ev_eval h]
theorem r_assign {x : Operand} {v : Value} (h : ev n l x = some v) : RunV P ⟨d, .assign x, ty, ps, af, g⟩ (over A D l).eval w v := by
  simp [RunV, execOp, ev_eval h]
theorem r_pick_t {c x y : Operand} {b : Bool} {v : Value} (hc : ev n l c = some (.bool b)) (hb : b = true) (h : ev n l x = some v) :
    RunV P ⟨d, .pick c x y, ty, ps, af, g⟩ (over A D l).eval w v := by
  subst hb; simp [RunV, execOp, ev_eval h, ev_eval hc, asBool]
theorem r_pick_f {c x y : Operand} {b : Bool} {v : Value} (hc : ev n l c = some (.bool b)) (hb : b = false) (h : ev n l y = some v) :
    RunV P ⟨d, .pick c x y, ty, ps, af, g⟩ (over A D l).eval w v := by
  subst hb; simp [RunV, execOp, ev_eval h, ev_eval hc, asBool]
theorem r_extract {x : Operand} {i : Nat} {vs : Array Value} {v : Value} (h : ev n l x = some (.tuple vs)) (hv : vs[i]? = some v) :
    RunV P ⟨d, .extract x i, ty, ps, af, g⟩ (over A D l).eval w v := by
  simp [RunV, execOp, ev_eval h, Instr.extract, hv]
theorem r_not {x : Operand} {t : TypeId} {b : Bool} (h : ev n l x = some (.bool b)) :
    RunV P ⟨d, .unOp .not t x, ty, ps, af, g⟩ (over A D l).eval w (.bool !b) := by
  simp [RunV, execOp, ev_eval h, Op.unary]
theorem r_nil {x : Operand} {p : Addr} (h : ev n l x = some (.pointer (some p))) :
    RunV P ⟨d, .nilCheck x, ty, ps, af, g⟩ (over A D l).eval w (.pointer (some p)) := by
  simp [RunV, execOp, ev_eval h]

/-! integers -/
theorem r_int {op : BinOp} {x y : Operand} {t u : TypeId} {k j : IntKind} {a b : Int} {r : Value} (hx : ev n l x = some (.int k a)) (hy : ev n l y = some (.int j b))
    (hr : (binOp op t (.int k a) (.int j b)).run P w = .ok r w) : RunV P ⟨d, .binOp op t x y u, ty, ps, af, g⟩ (over A D l).eval w r := by
  have he : (eqGuard op t x y (.int k a) (.int j b)).run P w = .ok () w := by unfold eqGuard; cases op <;> simp
  simp [RunV, execOp, ev_eval hx, ev_eval hy, he, hr]
theorem r_add {x y : Operand} {t u : TypeId} {k : IntKind} {a b : Int} (hx : ev n l x = some (.int k a)) (hy : ev n l y = some (.int k b)) :
    RunV P ⟨d, .binOp .add t x y u, ty, ps, af, g⟩ (over A D l).eval w (.int k (k.wrap (a + b))) := r_int hx hy (by simp [binOp, Op.intArith])
theorem r_sub {x y : Operand} {t u : TypeId} {k : IntKind} {a b : Int} (hx : ev n l x = some (.int k a)) (hy : ev n l y = some (.int k b)) :
    RunV P ⟨d, .binOp .sub t x y u, ty, ps, af, g⟩ (over A D l).eval w (.int k (k.wrap (a - b))) := r_int hx hy (by simp [binOp, Op.intArith])
theorem r_rem {x y : Operand} {t u : TypeId} {k : IntKind} {a b : Int} (hx : ev n l x = some (.int k a)) (hy : ev n l y = some (.int k b)) (h0 : b ≠ 0) :
    RunV P ⟨d, .binOp .rem t x y u, ty, ps, af, g⟩ (over A D l).eval w (.int k (a.tmod b)) := r_int hx hy (by simp [binOp, Op.intDiv, h0])
def shrv (k : IntKind) (a b : Int) : Int := a / 2 ^ min b.toNat k.bits
theorem r_shr {x y : Operand} {t u : TypeId} {k j : IntKind} {a b : Int} (hx : ev n l x = some (.int k a)) (hy : ev n l y = some (.int j b)) (h0 : 0 ≤ b) :
    RunV P ⟨d, .binOp .shr t x y u, ty, ps, af, g⟩ (over A D l).eval w (.int k (shrv k a b)) := r_int hx hy (by simp only [binOp]; rw [shift_shr_any k j a b h0]; rfl)
theorem r_eq {x y : Operand} {t u : TypeId} {k : IntKind} {a b : Int} (hx : ev n l x = some (.int k a)) (hy : ev n l y = some (.int k b)) :
    RunV P ⟨d, .binOp .eql t x y u, ty, ps, af, g⟩ (over A D l).eval w (.bool (decide (a = b))) := r_int hx hy (by simp [binOp, Op.intCmp]; rw [Bool.eq_iff_iff]; simp)
theorem r_ne {x y : Operand} {t u : TypeId} {k : IntKind} {a b : Int} (hx : ev n l x = some (.int k a)) (hy : ev n l y = some (.int k b)) :
    RunV P ⟨d, .binOp .neq t x y u, ty, ps, af, g⟩ (over A D l).eval w (.bool (decide (a ≠ b))) := r_int hx hy (by simp [binOp, Op.intCmp]; rw [Bool.eq_iff_iff]; simp)
theorem r_lt {x y : Operand} {t u : TypeId} {k : IntKind} {a b : Int} (hx : ev n l x = some (.int k a)) (hy : ev n l y = some (.int k b)) :
    RunV P ⟨d, .binOp .lss t x y u, ty, ps, af, g⟩ (over A D l).eval w (.bool (decide (a < b))) := r_int hx hy (by simp [binOp, Op.intCmp])
theorem r_le {x y : Operand} {t u : TypeId} {k : IntKind} {a b : Int} (hx : ev n l x = some (.int k a)) (hy : ev n l y = some (.int k b)) :
    RunV P ⟨d, .binOp .leq t x y u, ty, ps, af, g⟩ (over A D l).eval w (.bool (decide (a ≤ b))) := r_int hx hy (by simp [binOp, Op.intCmp])
theorem r_gt {x y : Operand} {t u : TypeId} {k : IntKind} {a b : Int} (hx : ev n l x = some (.int k a)) (hy : ev n l y = some (.int k b)) :
    RunV P ⟨d, .binOp .gtr t x y u, ty, ps, af, g⟩ (over A D l).eval w (.bool (decide (b < a))) := r_int hx hy (by simp [binOp, Op.intCmp])
theorem r_ge {x y : Operand} {t u : TypeId} {k : IntKind} {a b : Int} (hx : ev n l x = some (.int k a)) (hy : ev n l y = some (.int k b)) :
    RunV P ⟨d, .binOp .geq t x y u, ty, ps, af, g⟩ (over A D l).eval w (.bool (decide (b ≤ a))) := r_int hx hy (by simp [binOp, Op.intCmp])

theorem wrap_i64 {x : Int} (h0 : -9223372036854775808 ≤ x) (h1 : x ≤ 9223372036854775807) : IntKind.i64.wrap x = x := by
  simp [IntKind.wrap, IntKind.bits, IntKind.signed]; omega
/-- int's sum, in range. -/
theorem r_addI {x y : Operand} {t u : TypeId} {a b : Int} (hx : ev n l x = some (.int .i64 a)) (hy : ev n l y = some (.int .i64 b)) (h : -9223372036854775808 ≤ a + b ∧ a + b ≤ 9223372036854775807) :
    RunV P ⟨d, .binOp .add t x y u, ty, ps, af, g⟩ (over A D l).eval w (.int .i64 (a + b)) := by have := r_add (P := P) (A := A) (D := D) (w := w) (d := d) (t := t) (u := u) (ty := ty) (ps := ps) (af := af) (g := g) hx hy; rwa [wrap_i64 h.1 h.2] at this
theorem r_conv {x : Operand} {s t : TypeId} {k j : IntKind} {a : Int} (hs : (P.underlying s).isSome = true) (ht : P.underlying t = some (.int k)) (hx : ev n l x = some (.int j a)) :
    RunV P ⟨d, .convert s t x, ty, ps, af, g⟩ (over A D l).eval w (.int k (k.wrap a)) := by
  obtain ⟨ds, hds⟩ := Option.isSome_iff_exists.1 hs
  simp [RunV, execOp, ev_eval hx, convert, run_underlying hds, run_underlying ht, Conv.intToInt]
/-! slices -/
theorem r_len {x : Operand} {v : Value} {m : Nat} {t e : TypeId} (hx : ev n l x = some v) (hT : P.underlying t = some (.slice e)) (hS : Shp v m) :
    RunV P ⟨d, .call { callee := .builtin .len, args := #[x], argTypes := #[t] }, ty, ps, af, g⟩ (over A D l).eval w (.int .i64 m) := by
  obtain ⟨a, cap, rfl, _⟩ := hS
  simp [RunV, execOp, ev_eval hx, resolve, invoke, builtin, Builtin.len_, run_underlying hT, goInt]
theorem r_indexZ {x y : Operand} {v : Value} {m : Nat} {t e : TypeId} {k : IntKind} {i : Int} (sz : Nat) (hx : ev n l x = some v) (hy : ev n l y = some (.int k i)) (hT : P.underlying t = some (.slice e)) (hE : elemIs P e sz = true)
    (hS : Shp v m) (hi : 0 ≤ i ∧ i < m) : RunV P ⟨d, .indexAddr t x y, ty, ps, af, g⟩ (over A D l).eval w (elemp v (i.toNat * sz)) := by
  obtain ⟨a, cap, rfl, h1, h2, h3⟩ := hS
  unfold elemIs at hE
  split at hE
  · rename_i inf hinf
    have hsz : inf.size = sz := by simpa using hE
    cases a with
    | none => have := h3 rfl; omega
    | some p => simp [RunV, execOp, ev_eval hx, ev_eval hy, Instr.indexAt, asIntOf, run_underlying hT, run_sizeOf hinf, hi.1, hi.2, hsz, elemp]
  · cases hE
theorem r_index {x y : Operand} {v : Value} {m : Nat} {t e : TypeId} {k : IntKind} {i : Int} (hx : ev n l x = some v) (hy : ev n l y = some (.int k i)) (hT : P.underlying t = some (.slice e)) (hE : elemIs P e 1 = true)
    (hS : Shp v m) (hi : 0 ≤ i ∧ i < m) : RunV P ⟨d, .indexAddr t x y, ty, ps, af, g⟩ (over A D l).eval w (elemp v i.toNat) := by
  have := r_indexZ (P := P) (A := A) (D := D) (w := w) (d := d) (ty := ty) (ps := ps) (af := af) (g := g) 1 hx hy hT hE hS hi
  simpa using this
theorem r_slice {x : Operand} {lo hi : Option Operand} {v : Value} {m : Nat} {t e : TypeId} (L H : Nat) (hT : P.underlying t = some (.slice e)) (hE : elemIs P e 1 = true) (hx : ev n l x = some v)
    (hS : Shp v m) (h1 : L ≤ H) (h2 : H ≤ m)
    (hlo : match lo with | none => L = 0 | some y => ∃ k, ev n l y = some (.int k L)) (hhi : match hi with | none => H = m | some y => ∃ k, ev n l y = some (.int k H)) :
    RunV P ⟨d, .slice t x lo hi none, ty, ps, af, g⟩ (over A D l).eval w (subv v L H) := by
  obtain ⟨a, cap, rfl, h3, h4, h5⟩ := hS
  unfold elemIs at hE
  split at hE
  · rename_i inf hinf
    have hsz : inf.size = 1 := by simpa using hE
    have hc : H ≤ cap := by omega
    cases lo with
    | none =>
      simp only at hlo; subst hlo
      cases hi with
      | none =>
        simp only at hhi; subst hhi
        simp [RunV, execOp, ev_eval hx, Instr.sliceAt, Instr.slice, Instr.sliceBounds, run_underlying hT, run_sizeOf hinf, subv, hsz]
      | some y =>
        simp only at hhi; obtain ⟨k, hk⟩ := hhi
        simp [RunV, execOp, ev_eval hx, ev_eval hk, Instr.sliceAt, Instr.slice, Instr.sliceBounds, Instr.sliceBound, asIntOf, run_underlying hT, run_sizeOf hinf, subv, hsz, hc]
    | some z =>
      simp only at hlo; obtain ⟨j, hj⟩ := hlo
      cases hi with
      | none =>
        simp only at hhi; subst hhi
        simp [RunV, execOp, ev_eval hx, ev_eval hj, Instr.sliceAt, Instr.slice, Instr.sliceBounds, Instr.sliceBound, asIntOf, run_underlying hT, run_sizeOf hinf, subv, hsz, h1]
      | some y =>
        simp only at hhi; obtain ⟨k, hk⟩ := hhi
        simp [RunV, execOp, ev_eval hx, ev_eval hj, ev_eval hk, Instr.sliceAt, Instr.slice, Instr.sliceBounds, Instr.sliceBound, asIntOf, run_underlying hT, run_sizeOf hinf, subv, hsz, h1, hc]
  · cases hE
/-! loads -/
theorem r_load {x : Operand} {t : TypeId} {p : Addr} {u : Value} (hx : ev n l x = some (.pointer (some p))) (hT : isOne P t = true) (hc : w.cell? p = some u) :
    RunV P ⟨d, .load t x, ty, ps, af, g⟩ (over A D l).eval w u := by
  simp [RunV, execOp, ev_eval hx, Instr.loadAt, Instr.sureAddr, loadVar, run_isAgg_one hT, hc]
theorem r_loadBlk {x : Operand} {t ty' : TypeId} {b j : Nat} {cs : List Value} {u : Value} (hx : ev n l x = some (.pointer (some ⟨b, j, none⟩))) (hT : isOne P t = true) (hB : Blk w b cs ty') (hj : cs[j]? = some u) :
    RunV P ⟨d, .load t x, ty, ps, af, g⟩ (over A D l).eval w u := r_load hx hT (by rw [hB.cell]; exact hj)
theorem r_loadEl {x : Operand} {t : TypeId} {i : Nat} {v u : Value} {l' : List Value} (hx : ev n l x = some (elemp v i)) (hT : isOne P t = true) (hS : Sl w v l') (hj : l'[i]? = some u) :
    RunV P ⟨d, .load t x, ty, ps, af, g⟩ (over A D l).eval w u := by
  obtain ⟨a, cap, rfl, h1, h2, h3, h4⟩ := hS
  have hi := (List.getElem?_eq_some_iff.1 hj).1
  cases a with
  | none => have := h3 rfl; omega
  | some p => exact r_load (p := p.add i) hx hT (h4 p rfl i u hj)
theorem r_loadB {x : Operand} {t : TypeId} {i : Nat} {v : Value} {l' : List UInt8} (hx : ev n l x = some (elemp v i)) (hT : isOne P t = true) (hS : By w v l') (hj : i < l'.length) :
    RunV P ⟨d, .load t x, ty, ps, af, g⟩ (over A D l).eval w (b8 (l'.getD i 0)) := r_loadEl hx hT hS (getD_b8 l' i hj)
theorem r_loadAgg {x : Operand} {t : TypeId} {p : Addr} {m : Nat} {cs : List Value} (hx : ev n l x = some (.pointer (some p))) (hT : isAggN P t m = true) (hm : cs.length = m) (hc : ∀ j u, cs[j]? = some u → w.cell? (p.add j) = some u) :
    RunV P ⟨d, .load t x, ty, ps, af, g⟩ (over A D l).eval w (.agg cs.toArray) := by
  obtain ⟨dd, inf, h1, h2, h3, h4⟩ := isAggN_spec hT
  have hl := run_loadCells_list (P := P) (w := w) p cs hc
  simp [RunV, execOp, ev_eval hx, Instr.loadAt, Instr.sureAddr, loadVar, run_isAgg_agg hT, run_sizeOf h2, h3, ← hm, hl]
/-- A whole block, read. -/
theorem r_loadAll {x : Operand} {t ty' : TypeId} {b : Nat} {cs : List Value} (hx : ev n l x = some (.pointer (some ⟨b, 0, none⟩))) (hT : isAggN P t cs.length = true) (hB : Blk w b cs ty') :
    RunV P ⟨d, .load t x, ty, ps, af, g⟩ (over A D l).eval w (.agg cs.toArray) :=
  r_loadAgg hx hT rfl fun j u hj => by rw [Addr.add_mk, Nat.zero_add, hB.cell]; exact hj
theorem r_field {x : Operand} {s : TypeId} {f b o off : Nat} (hx : ev n l x = some (.pointer (some ⟨b, o, none⟩))) (hf : fieldOff P s f = some off) :
    RunV P ⟨d, .fieldAddr s x f, ty, ps, af, g⟩ (over A D l).eval w (.pointer (some ⟨b, o + off, none⟩)) := by
  unfold fieldOff at hf
  split at hf
  · rename_i fs hfs
    split at hf
    · rename_i fd hfd
      split at hf
      · rename_i inf hinf
        split at hf
        · cases hf
        · rename_i hz
          simp only [Option.some.injEq] at hf
          subst hf
          simp [RunV, execOp, ev_eval hx, Instr.fieldAt, Instr.sureAddr, run_underlying hfs, hfd, fieldPlace, run_sizeOf hinf, hz, Addr.add_mk]
      · cases hf
    · cases hf
  · cases hf
theorem RunV.castI {o : Oper} {e : Operand → Value} {k : IntKind} {a b : Int} (h : RunV P o e w (.int k a)) (he : a = b) : RunV P o e w (.int k b) := he ▸ h
theorem RunV.castB {o : Oper} {e : Operand → Value} {a b : Bool} (h : RunV P o e w (.bool a)) (he : a = b) : RunV P o e w (.bool b) := he ▸ h
end
end Go.Wk
namespace Go.Wk
open Go Go.RowKit

section
variable {P : Program} {n : Nat} {A : Fr n} {D : List Deferred} {l : List (Nat × Value)} {w : World} {ops : Array Oper} {rest : List Oper} {Q : Exit → Act → World → Prop}
variable {d : Tmp} {op : Op} {ty : TypeId} {ps : String} {af : Array Edge}

theorem wl_plain {o : Oper} {a : Act} (hg : o.guard = none) (h : o.wp P a w (wpList P ops Q rest) Q) : wpList P ops Q (o :: rest) a w := by
  unfold wpList; rw [if_pos (by simp [Region.wanted, hg])]; exact .inl h

theorem wp_of_run {o : Oper} {a : Act} {v : Value} {K : Act → World → Prop} (hr : RunV P o a.eval w v) (h : K (a.put o.dst v) w) : o.wp P a w K Q := by
  unfold Oper.wp; unfold RunV at hr; rw [hr]; exact h

/-- An operation that yields a value and leaves the world. -/
theorem st (v : Value) (hr : RunV P ⟨some d, op, ty, ps, af, none⟩ (over A D l).eval w v) (k : wpList P ops Q rest (over A D ((d, v) :: l)) w) :
    wpList P ops Q (⟨some d, op, ty, ps, af, none⟩ :: rest) (over A D l) w := wl_plain rfl (wp_of_run hr k)

/-! guards -/
theorem yielded_of {j t : Nat} {o : Oper} {b : Bool} (ho : ops[j]? = some o) (ht : o.dst = some t) (h : ev n l (.tmp t) = some (.bool b)) : yielded ops (over A D l).tmps j = some b := by
  have h' := ev_eval (A := A) (D := D) h
  have hs : (over A D l).tmps.size = n := over_size
  have hn : t < n := by
    simp only [ev] at h
    cases hb : Nat.ble n t with
    | true => simp [hb] at h
    | false => exact Nat.lt_of_not_le fun hh => by rw [Nat.ble_eq_true_of_le hh] at hb; cases hb
  simp only [Act.eval, Array.getD, hs, hn, dite_true] at h'
  have h2 : (over A D l).tmps[t]? = some (.bool b) := by
    rw [Array.getElem?_eq_getElem (by omega)]; exact congrArg some h'
  simp [yielded, ho, ht, h2]
/-- A guarded operation that runs. -/
theorem st_g {j t : Nat} {o : Oper} {b want : Bool} (v : Value) (ho : ops[j]? = some o) (ht : o.dst = some t) (hy : ev n l (.tmp t) = some (.bool b)) (hb : b = want)
    (hr : RunV P ⟨some d, op, ty, ps, af, some (j, want)⟩ (over A D l).eval w v) (k : wpList P ops Q rest (over A D ((d, v) :: l)) w) :
    wpList P ops Q (⟨some d, op, ty, ps, af, some (j, want)⟩ :: rest) (over A D l) w := by
  unfold wpList; rw [if_pos (by simp [Region.wanted, yielded_of ho ht hy, hb])]; exact .inl (wp_of_run hr k)
/-- A guarded operation that is passed over. -/
theorem st_skip {j t : Nat} {o : Oper} {b want : Bool} (ho : ops[j]? = some o) (ht : o.dst = some t) (hy : ev n l (.tmp t) = some (.bool b)) (hb : b = !want)
    (k : wpList P ops Q rest (over A D ((d, undef) :: l)) w) :
    wpList P ops Q (⟨some d, op, ty, ps, af, some (j, want)⟩ :: rest) (over A D l) w := by
  unfold wpList; rw [if_neg (by subst hb; simp [Region.wanted, yielded_of ho ht hy])]; exact k
/-- A bool slot, parted. -/
theorem part_n {t : Nat} {b : Bool} (_ : ev n l (.tmp t) = some (.bool b)) (h1 : b = true → wpList P ops Q rest (over A D l) w) (h0 : b = false → wpList P ops Q rest (over A D l) w) : wpList P ops Q rest (over A D l) w := by cases b <;> simp_all
/-! code -/
theorem st_nil {a : Act} (h : Q .normal a w) : wpList P ops Q [] a w := h
theorem c_region {id : Nat} {lo : List Oper} {a : Act} (h : wpList P lo.toArray Q lo a w) : (Code.region id lo.toArray false).wp P Q a w := wp_region_lit h
theorem c_seq {x y : Code} {a : Act} (h : x.wp P (Exit.then (fun a w => y.wp P Q a w) Q) a w) : (Code.seq x y).wp P Q a w := wp_seq h
theorem c_then {K : Act → World → Prop} {a : Act} (h : K a w) : Exit.then K Q .normal a w := h
theorem c_skip {a : Act} (h : Q .normal a w) : Code.skip.wp P Q a w := wp_skip h
theorem c_ret {a : Act} (h : Q .ret a w) : Code.ret.wp P Q a w := wp_ret h
theorem c_exit {id : Nat} {a : Act} (h : Q (.exit id) a w) : (Code.exit id).wp P Q a w := wp_exit h
theorem c_block {id : Nat} {c : Code} {a : Act} (h : c.wp P (Exit.inBlock id Q) a w) : (Code.block id c).wp P Q a w := wp_block h
theorem x_then {K : Act → World → Prop} {id : Nat} {a : Act} (h : Q (.exit id) a w) : Exit.then K Q (.exit id) a w := h
theorem x_hit {id : Nat} {a : Act} (h : Q .normal a w) : Exit.inBlock id Q (.exit id) a w := by simpa [Exit.inBlock] using h
theorem n_block {id : Nat} {a : Act} (h : Q .normal a w) : Exit.inBlock id Q .normal a w := h
theorem r_then {K : Act → World → Prop} {a : Act} (h : Q .ret a w) : Exit.then K Q .ret a w := h
theorem r_block {id : Nat} {a : Act} (h : Q .ret a w) : Exit.inBlock id Q .ret a w := h
theorem c_if {c : Operand} {x y : Code} {b : Bool} (hc : ev n l c = some (.bool b)) (h1 : b = true → x.wp P Q (over A D l) w) (h0 : b = false → y.wp P Q (over A D l) w) :
    (Code.cond c x y).wp P Q (over A D l) w := wp_cond_split (ev_eval hc) h1 h0
theorem c_if_t {c : Operand} {x y : Code} {b : Bool} (hc : ev n l c = some (.bool b)) (hb : b = true) (h : x.wp P Q (over A D l) w) : (Code.cond c x y).wp P Q (over A D l) w :=
  c_if hc (fun _ => h) (fun h0 => by rw [hb] at h0; cases h0)
theorem c_if_f {c : Operand} {x y : Code} {b : Bool} (hc : ev n l c = some (.bool b)) (hb : b = false) (h : y.wp P Q (over A D l) w) : (Code.cond c x y).wp P Q (over A D l) w :=
  c_if hc (fun h0 => by rw [hb] at h0; cases h0) (fun _ => h)

/-- A loop: 'inv x' are the live slots at its head, 'W x' what holds of the world, 'mu x' falls. -/
def LoopNext {X : Type} (n : Nat) (D : List Deferred) (inv : X → List (Nat × Value)) (W : X → World → Prop) (mu : X → Nat) (x : X) (a : Act) (w : World) : Prop :=
  ∃ (x' : X) (B : Fr n), a = over B D (inv x') ∧ W x' w ∧ mu x' < mu x
theorem c_loop {X : Type} {c : Code} (inv : X → List (Nat × Value)) (W : X → World → Prop) (mu : X → Nat) (x0 : X) (h0 : Fits n l (inv x0)) (hw : W x0 w)
    (round : ∀ (x : X) (B : Fr n) (w' : World), W x w' → c.wp P (Exit.then (LoopNext n D inv W mu x) Q) (over B D (inv x)) w') :
    (Code.loop c).wp P Q (over A D l) w := by
  refine wp_loop_ghost (fun m a w' => ∃ (x : X) (B : Fr n), a = over B D (inv x) ∧ W x w' ∧ mu x = m) (mu x0) ⟨x0, _, (over_fits (A := A) (D := D) h0).symm, hw, rfl⟩ ?_
  rintro m a w' ⟨x, B, rfl, hW, rfl⟩
  refine wp_mono (round x B w' hW) ?_
  intro e a2 w2 h
  cases e with
  | normal => obtain ⟨x', B', h1, h2, h3⟩ := h; exact ⟨mu x', h3, x', B', h1, h2, rfl⟩
  | _ => exact h
theorem next {X : Type} {inv : X → List (Nat × Value)} {W : X → World → Prop} {mu : X → Nat} {x : X} (x' : X) (hm : mu x' < mu x) (hf : Fits n l (inv x')) (hw : W x' w) :
    LoopNext n D inv W mu x (over A D l) w := ⟨x', _, (over_fits (A := A) (D := D) hf).symm, hw, hm⟩
/-! calls -/
def isFn (P : Program) (f : FuncId) : Bool :=
  match P.funcs[f]? with
  | some fn => !(fn.name == "runtime.NumGoroutine") && fn.body.isSome
  | none => false
theorem run_callFunc {f : FuncId} (hf : isFn P f = true) (args : Array Value) : (callFunc f args).run P w = .ok (.enter f args) w := by
  unfold isFn at hf
  split at hf
  · rename_i fn hfn
    simp only [Bool.and_eq_true, Bool.not_eq_true'] at hf
    have h1 : ¬ fn.name = "runtime.NumGoroutine" := by have := hf.1; simpa using this
    have h2 : ¬ fn.body = none := by intro hb; rw [hb] at hf; simp at hf
    simp [callFunc, hfn, h1, h2]
  · cases hf
theorem exec_call {f : FuncId} {xs : List Operand} {ts : Array TypeId} {vs : List Value} {d' : Option Tmp} {g : Option (Nat × Bool)} (hf : isFn P f = true) (ha : evs n l xs = some vs) :
    (execOp (over A D l).eval ⟨d', .call { callee := .value (.func f), args := xs.toArray, argTypes := ts }, ty, ps, af, g⟩).run P w = .ok (.enter f vs.toArray) w := by
  have he := evs_eval (A := A) (D := D) ha
  simp only [execOp, resolve, Act.eval, Deferred.ofValue, List.map_toArray, he]
  simp [invoke, run_callFunc hf]
theorem st_call {f : FuncId} {xs : List Operand} {ts : Array TypeId} {vs : List Value} {R : Ending → World → Prop} (hf : isFn P f = true) (ha : evs n l xs = some vs) (hc : Calls P f vs.toArray w R)
    (k : ∀ e w', R e w' → ∃ v, e = .returned v ∧ wpList P ops Q rest (over A D ((d, v) :: l)) w') :
    wpList P ops Q (⟨some d, .call { callee := .value (.func f), args := xs.toArray, argTypes := ts }, ty, ps, af, none⟩ :: rest) (over A D l) w := by
  refine wl_plain rfl ?_
  unfold Oper.wp
  rw [exec_call hf ha]
  refine hc.mono fun e w' hR => ?_
  obtain ⟨v, rfl, hk⟩ := k e w' hR
  exact hk
theorem st_call_g {f : FuncId} {xs : List Operand} {ts : Array TypeId} {vs : List Value} {R : Ending → World → Prop} {j t : Nat} {o : Oper} {b want : Bool} (ho : ops[j]? = some o) (ht : o.dst = some t) (hy : ev n l (.tmp t) = some (.bool b)) (hb : b = want)
    (hf : isFn P f = true) (ha : evs n l xs = some vs) (hc : Calls P f vs.toArray w R)
    (k : ∀ e w', R e w' → ∃ v, e = .returned v ∧ wpList P ops Q rest (over A D ((d, v) :: l)) w') :
    wpList P ops Q (⟨some d, .call { callee := .value (.func f), args := xs.toArray, argTypes := ts }, ty, ps, af, some (j, want)⟩ :: rest) (over A D l) w := by
  unfold wpList; rw [if_pos (by simp [Region.wanted, yielded_of ho ht hy, hb])]
  refine .inl ?_
  unfold Oper.wp
  rw [exec_call hf ha]
  refine hc.mono fun e w' hR => ?_
  obtain ⟨v, rfl, hk⟩ := k e w' hR
  exact hk

/-! a function's door -/
def argsAt : Nat → List Value → List (Nat × Value)
  | _, [] => []
  | i, v :: r => (i, v) :: argsAt (i + 1) r
theorem over_same {B : Fr n} {l1 : List (Nat × Value)} (h : ∀ p ∈ l1, B.tmps.getD p.1 undef = p.2) : over B D l1 = ⟨B.tmps, D⟩ := by
  induction l1 with
  | nil => rfl
  | cons p r ih =>
    simp only [over]
    rw [ih fun q hq => h q (by simp [hq])]
    exact put_self _ _ _ (h p (by simp))
theorem mem_argsAt {vs : List Value} {i : Nat} {p : Nat × Value} (h : p ∈ argsAt i vs) : ∃ j, p.1 = i + j ∧ vs[j]? = some p.2 := by
  induction vs generalizing i with
  | nil => simp [argsAt] at h
  | cons v r ih =>
    simp only [argsAt, List.mem_cons] at h
    rcases h with rfl | h
    · exact ⟨0, rfl, rfl⟩
    · obtain ⟨j, h1, h2⟩ := ih h
      exact ⟨j + 1, by omega, by simpa using h2⟩
theorem enter {f : FuncId} {fn : Func} {c : Code} {vs : List Value} {R : Ending → World → Prop} (hf : P.funcs[f]? = some fn) (hb : fn.body = some c) (hn : fn.ntmps = n) (hle : Nat.ble vs.length n = true)
    (h : ∀ B : Fr n, c.wp P (bodyPost P fn R) (over B [] (argsAt 0 vs)) w) : Calls P f vs.toArray w R := by
  refine calls_of_wp hf hb ?_
  have hle' : vs.length ≤ n := Nat.le_of_ble_eq_true hle
  have hsz : (vs.toArray ++ Array.replicate (fn.ntmps - vs.toArray.size) undef).size = n := by simp [hn]; omega
  have := h ⟨_, hsz⟩
  rwa [over_same] at this
  intro p hp
  obtain ⟨j, h1, h2⟩ := mem_argsAt hp
  have hj := (List.getElem?_eq_some_iff.1 h2)
  obtain ⟨hj1, hj2⟩ := hj
  simp only [h1, Nat.zero_add, Array.getD]
  rw [dif_pos (by simp; omega)]
  show (vs.toArray ++ _)[j]'_ = _
  rw [Array.getElem_append_left (by simpa using hj1)]
  simpa using hj2

def isEnd : Exit → Prop
  | .ret | .normal => True
  | _ => False
theorem bp {fn : Func} {R : Ending → World → Prop} {e : Exit} {v : Value} {a : Act} (he : isEnd e) (hd : a.defers = []) (hr : (results fn a.tmps).run P w = .ok v w) (h : R (.returned v) w) : bodyPost P fn R e a w := by
  cases e <;> simp only [isEnd] at he <;> exact ⟨hd, v, hr, h⟩
theorem getD_of {t : Nat} {v : Value} (h : ev n l (.tmp t) = some v) : (over A D l).tmps.getD t undef = v := ev_eval (A := A) (D := D) h
theorem getD_of' {t : Nat} {v : Value} (h : ev n l (.tmp t) = some v) : (over A D l).tmps[t]?.getD undef = v := by simpa using getD_of (A := A) (D := D) h
theorem ret1 {fn : Func} {R : Ending → World → Prop} {e : Exit} {t : Nat} {v : Value} (he : isEnd e) (hr : fn.results = #[.tmp t]) (hv : ev n l (.tmp t) = some v) (h : R (.returned v) w) : bodyPost P fn R e (over A [] l) w :=
  bp he over_defers (results_tmp hr _ _ _) (by rw [getD_of hv]; exact h)
theorem ret3 {fn : Func} {R : Ending → World → Prop} {e : Exit} {t u x : Nat} {v v' v'' : Value} (he : isEnd e) (hr : fn.results = #[.tmp t, .tmp u, .tmp x]) (hv : ev n l (.tmp t) = some v) (hv' : ev n l (.tmp u) = some v') (hv'' : ev n l (.tmp x) = some v'')
    (h : R (.returned (.tuple #[v, v', v''])) w) : bodyPost P fn R e (over A [] l) w :=
  bp he over_defers (results_tmp3 hr _ _ _) (by rw [getD_of hv, getD_of hv', getD_of hv'']; exact h)
theorem run_loadVar_blk {t ty' : TypeId} {b : Nat} {cs : List Value} (hT : isAggN P t cs.length = true) (hB : Blk w b cs ty') : (loadVar t ⟨b, 0, none⟩).run P w = .ok (.agg cs.toArray) w := by
  obtain ⟨dd, inf, h1, h2, h3, h4⟩ := isAggN_spec hT
  have hl := run_loadCells_list (P := P) (w := w) ⟨b, 0, none⟩ cs fun j u hj => by rw [Addr.add_mk, Nat.zero_add, hB.cell]; exact hj
  simp [loadVar, run_isAgg_agg hT, run_sizeOf h2, h3, hl]
theorem retc1 {fn : Func} {R : Ending → World → Prop} {e : Exit} {t u : Nat} {tt ty' : TypeId} {b : Nat} {cs : List Value} {v : Value} (he : isEnd e) (hr : fn.results = #[.cell t tt, .tmp u]) (hv : ev n l (.tmp t) = some (.pointer (some ⟨b, 0, none⟩)))
    (hT : isAggN P tt cs.length = true) (hB : Blk w b cs ty') (hv' : ev n l (.tmp u) = some v) (h : R (.returned (.tuple #[.agg cs.toArray, v])) w) : bodyPost P fn R e (over A [] l) w :=
  bp he over_defers (by simp [results, hr, getD_of' hv, getD_of' hv', asAddr, run_loadVar_blk hT hB]) h

/-! memory -/
theorem st_store {x y : Operand} {t ty' : TypeId} {b j : Nat} {cs : List Value} {u : Value} (hx : ev n l x = some (.pointer (some ⟨b, j, none⟩))) (hy : ev n l y = some u) (hT : isOne P t = true) (hu : u.oneCell' = true)
    (hB : Blk w b cs ty') (hj : j < cs.length) (k : ∀ w', Md [b] w w' → Blk w' b (cs.set j u) ty' → wpList P ops Q rest (over A D l) w') :
    wpList P ops Q (⟨none, .store t x y, ty, ps, af, none⟩ :: rest) (over A D l) w := by
  refine wl_plain rfl ?_
  obtain ⟨dd, inf, h1, h2, h3, h4⟩ := isOne_spec hT
  have hc : u.cells = #[u] := by cases u <;> simp_all [Value.cells, Value.oneCell']
  have hcell : w.cell? ⟨b, j, none⟩ = some cs[j] := by rw [hB.cell]; simp [hj]
  have hrun : (execOp (over A D l).eval ⟨none, .store t x y, ty, ps, af, none⟩).run P w = .ok .skip (w.setCell ⟨b, j, none⟩ u) := by
    simp [execOp, ev_eval hx, ev_eval hy, Instr.storeAt, Instr.sureAddr, storeVar, run_sizeOf h2, h3, hc, storeCells, Addr.add, run_store P w _ u _ hu, hcell, hB.frozen]
  unfold Oper.wp
  rw [hrun]
  exact k _ (Md.setCell w ⟨b, j, none⟩ u) (hB.set j u)
/-- Cells us in the place of those from j on. -/
def splice (cs : List Value) (j : Nat) (us : List Value) : List Value := cs.take j ++ us ++ cs.drop (j + us.length)
theorem Blk.setRow {b : Nat} {cs us : List Value} {ty' : TypeId} (hB : Blk w b cs ty') : Blk (w.setRow b us.toArray) b us ty' := setRow_heap w b _ _ ty' _ hB
theorem Md.setRow (w : World) (b : Nat) (us : Array Value) : Md [b] w (w.setRow b us) := ⟨rfl, rfl, rfl, by simp, fun k _ hs => setRow_other w b k us (by simpa using hs)⟩
theorem st_storeAgg {x y : Operand} {t ty' : TypeId} {b j : Nat} {cs us : List Value} (hx : ev n l x = some (.pointer (some ⟨b, j, none⟩))) (hy : ev n l y = some (.agg us.toArray)) (hT : isAggN P t us.length = true)
    (hu : ∀ u ∈ us, u.oneCell' = true) (hB : Blk w b cs ty') (hj : j + us.length ≤ cs.length) (k : ∀ w', Md [b] w w' → Blk w' b (splice cs j us) ty' → wpList P ops Q rest (over A D l) w') :
    wpList P ops Q (⟨none, .store t x y, ty, ps, af, none⟩ :: rest) (over A D l) w := by
  refine wl_plain rfl ?_
  obtain ⟨dd, inf, h1, h2, h3, h4⟩ := isAggN_spec hT
  have hst := run_storeCells_at P b j ty' us 0 cs.toArray w hB (by simpa using hj) hu
  have hrun : (execOp (over A D l).eval ⟨none, .store t x y, ty, ps, af, none⟩).run P w = .ok .skip (w.setRow b (splice cs j us).toArray) := by
    simp [execOp, ev_eval hx, ev_eval hy, Instr.storeAt, Instr.sureAddr, storeVar, run_sizeOf h2, h3, Value.cells, hst, splice]
  unfold Oper.wp
  rw [hrun]
  exact k _ (Md.setRow w b _) hB.setRow
/-- A whole block, written. -/
theorem st_storeAll {x y : Operand} {t ty' : TypeId} {b : Nat} {cs us : List Value} (hx : ev n l x = some (.pointer (some ⟨b, 0, none⟩))) (hy : ev n l y = some (.agg us.toArray)) (hT : isAggN P t us.length = true)
    (hu : ∀ u ∈ us, u.oneCell' = true) (hB : Blk w b cs ty') (hj : us.length = cs.length) (k : ∀ w', Md [b] w w' → Blk w' b us ty' → wpList P ops Q rest (over A D l) w') :
    wpList P ops Q (⟨none, .store t x y, ty, ps, af, none⟩ :: rest) (over A D l) w :=
  st_storeAgg hx hy hT hu hB (by omega) fun w' hm hb => k w' hm (by have : splice cs 0 us = us := by simp [splice, hj]
                                                                    rwa [this] at hb)
theorem st_alloc {t : TypeId} {cs : List Value} (hz : zcells P t = some cs)
    (k : ∀ b w', w.heap.size ≤ b → b < w'.heap.size → Md [] w w' → Blk w' b cs t → wpList P ops Q rest (over A D ((d, .pointer (some ⟨b, 0, none⟩)) :: l)) w') :
    wpList P ops Q (⟨some d, .alloc t, ty, ps, af, none⟩ :: rest) (over A D l) w := by
  refine wl_plain rfl ?_
  unfold zcells at hz
  split at hz
  · rename_i i hi
    split at hz
    · rename_i z hzz
      simp only [Option.some.injEq] at hz
      have hrun : (execOp (over A D l).eval ⟨some d, .alloc t, ty, ps, af, none⟩).run P w = .ok (.value (.pointer (some ⟨w.heap.size, 0, none⟩))) (w.alloc (.cells cs.toArray t)) := by
        subst hz
        simp [execOp, Instr.alloc, zeroValue, typeInfo, hi, hzz, newVar, newRow]
      unfold Oper.wp
      rw [hrun]
      exact k _ _ (Nat.le_refl _) (by simp) (Md.alloc w _) (Blk.new w cs t)
    · cases hz
  · cases hz
theorem st_box {t : TypeId} {x : Operand} {v : Value} {cs : List Value} (hx : ev n l x = some v) (hv : v.cells = cs.toArray)
    (k : ∀ b w', w.heap.size ≤ b → b < w'.heap.size → Md [] w w' → Blk w' b cs t → wpList P ops Q rest (over A D ((d, .pointer (some ⟨b, 0, none⟩)) :: l)) w') :
    wpList P ops Q (⟨some d, .box t x, ty, ps, af, none⟩ :: rest) (over A D l) w := by
  refine wl_plain rfl ?_
  have hrun : (execOp (over A D l).eval ⟨some d, .box t x, ty, ps, af, none⟩).run P w = .ok (.value (.pointer (some ⟨w.heap.size, 0, none⟩))) (w.alloc (.cells cs.toArray t)) := by
    simp [execOp, Instr.box, newVar, newRow, ev_eval hx, hv]
  unfold Oper.wp
  rw [hrun]
  exact k _ _ (Nat.le_refl _) (by simp) (Md.alloc w _) (Blk.new w cs t)

theorem cells_one {v : Value} (h : v.oneCell' = true) : v.cells = #[v] := by cases v <;> simp_all [Value.cells, Value.oneCell']
/-! build, of one-cell parts -/
def setsAt (cs : List Value) : List (Nat × Value) → List Value
  | [] => cs
  | (i, v) :: r => setsAt (cs.set i v) r
def OneAll : List Value → Prop
  | [] => True
  | v :: r => v.oneCell' = true ∧ OneAll r
/-- A struct or an array of one-cell parts. -/
def zipAt : List (Nat × Nat) → List Value → List (Nat × Value)
  | (_, o) :: r, v :: vs => (o, v) :: zipAt r vs
  | _, _ => []
theorem fill_one {place : Nat → Option (Nat × Nat)} : ∀ (ps : List (Nat × Nat)) (vs : List Value) (cs : List Value), ps.length = vs.length → (∀ p ∈ ps, place p.1 = some (p.2, 1) ∧ p.2 < cs.length) → OneAll vs →
    Instr.fill place cs.toArray ((ps.map (·.1)).zip vs) = some (setsAt cs (zipAt ps vs)).toArray
  | [], [], cs, _, _, _ => by simp [Instr.fill, zipAt, setsAt]
  | (i, o) :: ps, v :: vs, cs, hl, hp, h1 => by
    have hv := cells_one h1.1
    obtain ⟨h2, h3⟩ := hp (i, o) (by simp)
    have ih := fill_one (place := place) ps vs (cs.set o v) (by simpa using hl) (fun p hp' => by have := hp p (by simp [hp']); simpa using this) h1.2
    simp only at h2 h3
    have hb : ¬ (cs.length < o + 1) := by omega
    simp only [List.map_cons, List.zip_cons_cons, Instr.fill, h2, hv]
    simp [zipAt, setsAt, ih, hb]
  | [], _ :: _, _, hl, _, _ => by simp at hl
  | _ :: _, [], _, hl, _, _ => by simp at hl
def bplace (P : Program) (t : TypeId) : Option (List (Nat × Nat)) :=
  match P.underlying t with
  | some (.array m e) => match P.info? e with
    | some ie => some ((List.range m).map fun i => (i * ie.size, ie.size))
    | none => none
  | some (.struct fields) => fields.toList.mapM (fun f => (P.info? f.type).map fun i => (f.offset, i.size))
  | _ => none
def psOk (pl : List (Nat × Nat)) (m : Nat) : List (Nat × Nat) → Bool
  | [] => true
  | (i, o) :: r => (match pl[i]? with
    | some (o', s) => Nat.beq o' o && Nat.beq s 1 && Nat.ble (o + 1) m
    | none => false) && psOk pl m r
theorem psOk_spec {pl : List (Nat × Nat)} {m : Nat} : ∀ {ps : List (Nat × Nat)}, psOk pl m ps = true → ∀ p ∈ ps, pl[p.1]? = some (p.2, 1) ∧ p.2 < m
  | [], _, p, hp => by cases hp
  | (i, o) :: r, h, p, hp => by
    simp only [psOk, Bool.and_eq_true] at h
    rcases List.mem_cons.1 hp with rfl | hp'
    · cases hq : pl[i]? with
      | none => rw [hq] at h; simp at h
      | some q =>
        obtain ⟨o', s⟩ := q
        rw [hq] at h
        simp only [Bool.and_eq_true] at h
        obtain ⟨⟨⟨h1, h2⟩, h3⟩, _⟩ := h
        have e1 := Nat.eq_of_beq_eq_true h1
        have e2 := Nat.eq_of_beq_eq_true h2
        subst e1; subst e2
        exact ⟨rfl, Nat.le_of_ble_eq_true h3⟩
    · exact psOk_spec h.2 p hp'
theorem built_one {t : TypeId} {zs vs : List Value} {pl ps : List (Nat × Nat)} (hz : zcells P t = some zs) (hpl : bplace P t = some pl) (hl : ps.length = vs.length) (hps : psOk pl zs.length ps = true) (h1 : OneAll vs) :
    P.built t ((ps.map (·.1)).zip vs) = some (setsAt zs (zipAt ps vs)).toArray := by
  have hp := psOk_spec hps
  unfold zcells at hz
  cases hi : P.info? t with
  | none => simp [hi] at hz
  | some it =>
    cases hzz : it.zero with
    | none => simp [hi, hzz] at hz
    | some z =>
      simp only [hi, hzz, Option.some.injEq] at hz
      have hzc : z.cells = zs.toArray := by rw [← hz]
      unfold bplace at hpl
      unfold Program.built
      cases hu : P.underlying t with
      | none => simp [hu] at hpl
      | some d =>
        cases d <;> try (simp [hu] at hpl; done)
        case array m e =>
          cases hie : P.info? e with
          | none => simp [hu, hie] at hpl
          | some ie =>
            simp only [hu, hie, Option.some.injEq] at hpl
            simp only [hi, hzz, hie, hzc]
            refine fill_one ps vs zs hl (fun p hp' => ?_) h1
            obtain ⟨h2, h3⟩ := hp p hp'
            rw [← hpl, List.getElem?_map] at h2
            have hr : (List.range m)[p.1]? = some p.1 := by
              cases hq : (List.range m)[p.1]? with
              | none => rw [hq] at h2; simp at h2
              | some q => have := List.getElem?_eq_some_iff.1 hq; obtain ⟨ha, hb⟩ := this; simp at hb; rw [← hb]
            rw [hr] at h2
            simp only [Option.map_some, Option.some.injEq, Prod.mk.injEq] at h2
            exact ⟨by rw [h2.1, h2.2], h3⟩
        case struct fields =>
          simp only [hu] at hpl
          simp only [hi, hzz, hpl, hzc]
          refine fill_one ps vs zs hl (fun p hp' => ?_) h1
          obtain ⟨h2, h3⟩ := hp p hp'
          exact ⟨by simpa using h2, h3⟩
theorem r_build {t : TypeId} {parts : List (Nat × Operand)} {zs vs cs : List Value} {pl ps : List (Nat × Nat)} {d' : Option Tmp} {ps' : String} {g : Option (Nat × Bool)} (hz : zcells P t = some zs) (hpl : bplace P t = some pl) (hpp : parts.map (·.1) = ps.map (·.1)) (hev : evs n l (parts.map (·.2)) = some vs)
    (h1 : OneAll vs) (hl : ps.length = vs.length) (hps : psOk pl zs.length ps = true) (hcs : setsAt zs (zipAt ps vs) = cs) :
    RunV P ⟨d', .build t parts.toArray, ty, ps', af, g⟩ (over A D l).eval w (.agg cs.toArray) := by
  have he := evs_eval (A := A) (D := D) hev
  have hzip : parts.map (fun p => (p.1, (over A D l).eval p.2)) = (ps.map (·.1)).zip vs := by
    rw [← hpp, ← he, List.map_map, List.zip_map']
    rfl
  have hb := built_one hz hpl hl hps h1
  rw [← hzip] at hb
  have hr := run_build (P := P) w t (parts.map (fun p => (p.1, (over A D l).eval p.2))).toArray _ (by simpa using hb)
  subst hcs
  simp only [RunV, execOp, List.map_toArray]
  show Sem.run P (do pure (Next.value (← Instr.build t (parts.map fun x => (x.1, (over A D l).eval x.2)).toArray))) w = _
  simp [hr]


/-! regions that draw their order: only reads and calls that change nothing of 'w' -/
variable {C : World → Prop} {QQ : Act → Prop}
theorem q_plain {o : Oper} {a : Act} (hg : o.guard = none) (h : o.quiet P a C (wpQuiet P ops C QQ rest)) : wpQuiet P ops C QQ (o :: rest) a := by
  unfold wpQuiet; rw [if_pos (by simp [Region.wanted, hg])]; exact h
theorem quiet_of_run {o : Oper} {a : Act} {K : Act → Prop} (v : Value) (hr : ∀ w', C w' → RunV P o a.eval w' v) (h : K (a.put o.dst v)) : o.quiet P a C K :=
  ⟨v, fun w' hw => by have := hr w' hw; unfold RunV at this; unfold Oper.quietAt; rw [this]; exact ⟨rfl, rfl⟩, h⟩
theorem q (v : Value) (hr : ∀ w', C w' → RunV P ⟨some d, op, ty, ps, af, none⟩ (over A D l).eval w' v) (k : wpQuiet P ops C QQ rest (over A D ((d, v) :: l))) :
    wpQuiet P ops C QQ (⟨some d, op, ty, ps, af, none⟩ :: rest) (over A D l) := q_plain rfl (quiet_of_run v hr k)
/-! regions that draw their order: reads, then a tail in one order -/
variable {QS : Act → Prop}
theorem s_plain {o : Oper} {a : Act} (hg : o.guard = none) (h : o.still P a w (wpStill P ops w QS rest)) : wpStill P ops w QS (o :: rest) a := by
  unfold wpStill; rw [if_pos (by simp [Region.wanted, hg])]; exact h
theorem s (v : Value) (hr : RunV P ⟨some d, op, ty, ps, af, none⟩ (over A D l).eval w v) (k : wpStill P ops w QS rest (over A D ((d, v) :: l))) :
    wpStill P ops w QS (⟨some d, op, ty, ps, af, none⟩ :: rest) (over A D l) := s_plain rfl (by unfold RunV at hr; unfold Oper.still; rw [hr]; exact ⟨rfl, k⟩)
/-! copy and append -/
def elT (P : Program) (e : TypeId) (sz by' : Nat) : Bool :=
  match P.info? e with
  | some i => match i.zero with
    | some z => Nat.beq i.size sz && Nat.beq i.bytes by' && Nat.beq z.cells.size sz
    | none => false
  | none => false
theorem elT_spec {e : TypeId} {sz by' : Nat} (h : elT P e sz by' = true) : ∃ i z, P.info? e = some i ∧ i.zero = some z ∧ i.size = sz ∧ i.bytes = by' ∧ z.cells.size = sz := by
  unfold elT at h
  split at h
  · rename_i i hi
    split at h
    · rename_i z hz
      simp only [Bool.and_eq_true] at h
      exact ⟨i, z, hi, hz, Nat.eq_of_beq_eq_true h.1.1, Nat.eq_of_beq_eq_true h.1.2, Nat.eq_of_beq_eq_true h.2⟩
    · cases h
  · cases h
/-- v is nil and xs empty, or v begins a row of elements of type e, of sz cells each, n in all, of the run's own. -/
def Own (w : World) (e : TypeId) (sz : Nat) (v : Value) (n : Nat) (xs : List Value) : Prop := w.ownsRow 0 e sz v n xs
theorem Own.nil (w : World) (e : TypeId) (sz : Nat) : Own w e sz (.slice none 0 0) 0 [] := World.ownsRow_nil w 0 e sz
theorem Own.md {S : List Nat} {w' : World} {e : TypeId} {sz m : Nat} {v : Value} {xs : List Value} (h : Own w e sz v m xs) (hm : Md S w w') (hs : ∀ b, vblock v = some b → b ∉ S) : Own w' e sz v m xs := by
  refine ⟨h.1, ?_⟩
  rcases h.2 with hn | ⟨g, cap, cur, rfl, hb, hgg, rest⟩
  · exact .inl hn
  · refine .inr ⟨g, cap, cur, rfl, hb, ?_, rest⟩
    rw [hm.block g (Array.getElem?_eq_some_iff.1 hgg).1 (hs g rfl)]
    exact hgg
theorem Own.md0 {w' : World} {e : TypeId} {sz m : Nat} {v : Value} {xs : List Value} (h : Own w e sz v m xs) (hm : Md [] w w') : Own w' e sz v m xs := h.md hm (by simp)
theorem Own.lt {e : TypeId} {sz m : Nat} {v : Value} {xs : List Value} (h : Own w e sz v m xs) : ∀ b, vblock v = some b → b < w.heap.size := fun b hb => (World.ownsRow.lt h b (by cases v <;> simp_all [vblock, Value.ownBlock]; rename_i a _ _; cases a <;> simp_all)).2
/-- An own row's block is none of another element type. -/
theorem Own.ne {e ty' : TypeId} {sz m b : Nat} {v : Value} {xs cs : List Value} (h : Own w e sz v m xs) (hB : Blk w b cs ty') (hne : Nat.beq e ty' = false) : ∀ b', vblock v = some b' → b' ≠ b := by
  rintro b' hb rfl
  rcases h.2 with ⟨rfl, _⟩ | ⟨g, cap, cur, rfl, _, hg, _⟩
  · simp [vblock] at hb
  · simp [vblock] at hb
    subst hb
    unfold Blk at hB
    rw [hg] at hB
    simp at hB
    rw [hB.2] at hne
    simp at hne
theorem run_append_ex {t ty' e : TypeId} {sz by' : Nat} (ht : P.underlying t = some (.slice e)) (hE : elT P e sz by' = true) (hsz : 0 < sz) {v : Value} {m : Nat} {xs : List Value} (hO : Own w e sz v m xs)
    {a : Option Addr} {k c : Nat} {news : List Value} (hl : news.length = k * sz) (ha : a = none → k = 0 ∧ c = 0) (hnews : ∀ p, a = some p → ∀ j u, news[j]? = some u → w.cell? (p.add j) = some u) (h1 : ∀ u ∈ news, u.oneCell' = true)
    (h63 : m + k ≤ maxLen) (hbytes : (m + k) * by' ≤ 140737488355328) :
    ∃ v' w', (Builtin.append_ #[t, t] ty' #[v, .slice a k c]).run P w = .ok v' w' ∧ Own w' e sz v' (m + k) (xs ++ news) ∧ Md (vblock v).toList w w' ∧ (v' = .slice none 0 0 ↔ v = .slice none 0 0 ∧ k = 0) ∧
      (∀ b, vblock v' = some b → vblock v = some b ∨ w.heap.size ≤ b) := by
  obtain ⟨i, z, hi, hz, hs, hb, hzs⟩ := elT_spec hE
  have hob : v.ownBlock = vblock v := by
    rcases hO.2 with ⟨rfl, _⟩ | ⟨g, cap, cur, rfl, _⟩ <;> rfl
  cases a with
  | none =>
    obtain ⟨rfl, rfl⟩ := ha rfl
    have : news = [] := List.eq_nil_of_length_eq_zero (by simpa using hl)
    subst this
    exact ⟨v, w, run_append_owned_none w 0 t ty' e i sz ht hi v m xs hO, by simpa using hO, Md.refl _ _, by simp, fun b hb => .inl hb⟩
  | some p =>
    obtain ⟨v', w', hr, h2, h3, h4⟩ := run_append_own (P := P) w 0 t ty' e i z sz by' ht hi hz hs hb hzs hsz v m xs hO p k c news hl (hnews p rfl) h1 h63 hbytes (Nat.zero_le _)
    refine ⟨v', w', hr, h2, by rw [← hob]; exact Md.grown h3, h4, ?_⟩
    intro b hb'
    subst hs; subst hb
    rcases hO.2 with ⟨rfl, rfl⟩ | ⟨g, cap, cur, rfl, hbg, hg, hnc, hcm, hcs, htake⟩
    · by_cases hk : k = 0
      · have := h4.2 ⟨rfl, hk⟩
        rw [this] at hb'; simp [vblock] at hb'
      · have hx : xs = [] := List.eq_nil_of_length_eq_zero (by simpa using hO.1)
        simp only [maxLen] at h63
        have h5 := run_append_nil (P := P) w t ty' e i z ht hi hz p k c news hl (hnews p rfl) (by omega) (by omega) (by have hb := hbytes; simp only [Nat.zero_add] at hb; omega)
        rw [hr] at h5
        simp only [Result.ok.injEq] at h5
        rw [h5.1] at hb'; simp [vblock] at hb'
        exact .inr (by omega)
    · by_cases hroom : m + k ≤ cap
      · have hfit : m * i.size + news.length ≤ cur.size := by rw [hl, hcs, ← Nat.add_mul]; exact Nat.mul_le_mul_right _ hroom
        have h5 := run_append_room (P := P) w t ty' e i ht hi g m cap cur hg p k c news hl (hnews p rfl) h1 hroom hfit
        rw [hr] at h5
        simp only [Result.ok.injEq] at h5
        rw [h5.1] at hb'; simp [vblock] at hb'
        exact .inl (by simp [vblock, hb'])
      · have holds : ∀ j u, xs[j]? = some u → w.cell? ((⟨g, 0, none⟩ : Addr).add j) = some u := World.ownsRow.cells hO (g := g) rfl
        simp only [maxLen] at h63
        have h5 := run_append_grow (P := P) w t ty' e i z ht hi hz ⟨g, 0, none⟩ m cap xs hO.1 holds p k c news hl (hnews p rfl) (by omega) (by omega) (growslice_fits (by omega) hbytes)
        rw [hr] at h5
        simp only [Result.ok.injEq] at h5
        rw [h5.1] at hb'; simp [vblock] at hb'
        exact .inr (by omega)
theorem fitI {x : Operand} {k : IntKind} {a b : Int} (h : ev n l x = some (.int k a)) (e : a = b) : ev n l x = some (.int k b) := by rw [h, e]
theorem fitV {x : Operand} {a b : Value} (h : ev n l x = some a) (e : a = b) : ev n l x = some b := by rw [h, e]
theorem retB {a b : Bool} (e : a = b) : Ending.returned (.bool a) = .returned (.bool b) := by rw [e]
theorem By.len63 {v : Value} {l' : List UInt8} (h : By w v l') : l'.length ≤ 9223372036854775807 := by have := h.len_le; simp only [maxLen] at this; omega
theorem Blk.mdO {w' : World} {e ty' : TypeId} {sz m b : Nat} {v : Value} {xs cs : List Value} (hB : Blk w b cs ty') (h : Own w e sz v m xs) (hne : Nat.beq e ty' = false) (hm : Md (vblock v).toList w w') : Blk w' b cs ty' :=
  hB.md hm fun hb => by
    cases hv : vblock v with
    | none => rw [hv] at hb; simp at hb
    | some b' => rw [hv] at hb; simp at hb; exact h.ne hB hne b' hv hb.symm
theorem Md.stepO {w1 w' : World} {S : List Nat} {v : Value} (M : Md S w1 w) (hm : Md (vblock v).toList w w') (hv : ∀ b, vblock v = some b → b ∈ S ∨ w1.heap.size ≤ b) : Md S w1 w' :=
  M.step hm fun i hi => by
    cases h : vblock v with
    | none => rw [h] at hi; simp at hi
    | some b => rw [h] at hi; simp at hi; subst hi; exact hv i h
/-! slices made here -/
theorem fill_all {place : Nat → Option (Nat × Nat)} {ps : List (Nat × Nat)} {vs cs : List Value} (hl : ps.length = vs.length) (hp : ∀ p ∈ ps, place p.1 = some (p.2, 1) ∧ p.2 < cs.length) (h1 : OneAll vs) :
    Instr.fill place cs.toArray ((ps.map (·.1)).zip vs) = some (setsAt cs (zipAt ps vs)).toArray := fill_one ps vs cs hl hp h1
def idAt : Nat → Nat → List (Nat × Nat)
  | _, 0 => []
  | i, k + 1 => (i, i) :: idAt (i + 1) k
theorem idAt_len (i k : Nat) : (idAt i k).length = k := by induction k generalizing i with | zero => rfl | succ k ih => simp [idAt, ih]
theorem mem_idAt {p : Nat × Nat} : ∀ {i k : Nat}, p ∈ idAt i k → p.1 = p.2 ∧ p.2 < i + k
  | _, 0, h => by cases h
  | i, k + 1, h => by
    rcases List.mem_cons.1 h with rfl | h
    · exact ⟨rfl, by simp⟩
    · have := mem_idAt h; omega
theorem sets_id : ∀ (vs : List Value) (pre cs : List Value), cs.length = vs.length → setsAt (pre ++ cs) (zipAt (idAt pre.length vs.length) vs) = pre ++ vs
  | [], pre, cs, h => by
    have : cs = [] := List.eq_nil_of_length_eq_zero (by simpa using h)
    subst this; rfl
  | v :: vs, pre, c :: cs, h => by
    simp only [List.length_cons, idAt, zipAt, setsAt]
    have e : (pre ++ c :: cs).set pre.length v = (pre ++ [v]) ++ cs := by simp
    rw [e]
    have := sets_id vs (pre ++ [v]) cs (by simpa using h)
    simp only [List.length_append, List.length_cons, List.length_nil, Nat.zero_add] at this
    rw [this]
    simp
  | _ :: _, _, [], h => by simp at h
/-- []T{x, y, ..}, one-cell elements, all given. -/
theorem st_buildSlice {t e : TypeId} {m by' : Nat} {parts : List (Nat × Operand)} {vs : List Value} (ht : P.underlying t = some (.slice e)) (hE : elT P e 1 by' = true) (hm : m ≤ 16777216) (hpp : parts.map (·.1) = (idAt 0 m).map (·.1)) (hev : evs n l (parts.map (·.2)) = some vs)
    (hlen : vs.length = m) (h1 : OneAll vs) (h0 : m ≠ 0)
    (k : ∀ b w', w.heap.size ≤ b → b < w'.heap.size → Md [] w w' → Blk w' b vs e → wpList P ops Q rest (over A D ((d, .slice (some ⟨b, 0, none⟩) m m) :: l)) w') :
    wpList P ops Q (⟨some d, .buildSlice t m parts.toArray, ty, ps, af, none⟩ :: rest) (over A D l) w := by
  refine wl_plain rfl ?_
  obtain ⟨i, z, hi, hz, hs, hb, hzs⟩ := elT_spec hE
  have he := evs_eval (A := A) (D := D) hev
  have hzip : parts.map (fun p => (p.1, (over A D l).eval p.2)) = ((idAt 0 m).map (·.1)).zip vs := by
    rw [← hpp, ← he, List.map_map, List.zip_map']
    rfl
  have hfill : ∀ cs : List Value, cs.length = m → Instr.fill (fun i => some (i * 1, 1)) cs.toArray (((idAt 0 m).map (·.1)).zip vs) = some vs.toArray := by
    intro cs hcs
    have := fill_all (place := fun i => some (i * 1, 1)) (ps := idAt 0 m) (vs := vs) (cs := cs) (by rw [idAt_len, hlen]) (fun p hp => by have := mem_idAt hp; simp only [Nat.mul_one]; exact ⟨by rw [this.1], by omega⟩) h1
    have h2 := sets_id vs [] cs (by omega)
    simp only [List.nil_append, List.length_nil] at h2
    rw [hlen] at h2
    rw [this, h2]
  have hrun : (execOp (over A D l).eval ⟨some d, .buildSlice t m parts.toArray, ty, ps, af, none⟩).run P w = .ok (.value (.slice (some ⟨w.heap.size, 0, none⟩) m m)) (w.alloc (.cells vs.toArray e)) := by
    have hz1 : ∃ zv, z.cells = #[zv] := by
      cases hzc : z.cells with
      | mk q => rw [hzc] at hzs; simp at hzs; match q, hzs with | [zv], _ => exact ⟨zv, rfl⟩
    obtain ⟨zv, hzv⟩ := hz1
    have hcells : (if m = 0 then (#[] : Array Value) else #[zv]).size ≤ 1 := by split <;> simp
    have hm2 : ¬ (16777216 < m) := by omega
    show Sem.run P (do pure (Next.value (← Instr.buildSlice t m ((parts.toArray).map fun x => (x.1, (over A D l).eval x.2))))) w = _
    rw [List.map_toArray, hzip]
    have hl2 : ((List.range m).map fun x => (#[zv] : Array Value)[x % 1]!).length = m := by simp
    have := hfill _ hl2
    simp only [Nat.mul_one] at this
    simp only [Instr.buildSlice, Sem.run_bind, run_underlying ht, Result.andThen_ok, run_sizeOf hi, hs, Nat.mul_one]
    simp [show ¬ (16777216 < m) by omega, h0, zeroValue, typeInfo, hi, hz, hzv, newRow]
    have e2 : Array.map (fun x => ([zv] : List Value)[x % 1]?.getD default) (Array.range m) = ((List.range m).map fun x => (#[zv] : Array Value)[x % 1]!).toArray := by
      apply Array.ext'
      simp
    rw [e2, this]
    simp
  unfold Oper.wp
  rw [hrun]
  exact k _ _ (Nat.le_refl _) (by simp) (Md.alloc w _) (Blk.new w vs e)
end
end Go.Wk
namespace Go.Wk
open Go Go.RowKit

section
variable {P : Program} {ops : Array Oper} {md : Region.Mode} {C : World → Prop} {Q : Exit → Act → World → Prop}

def QF : Exit → Act → World → Prop := fun _ _ _ => False

def opC (P : Program) (ops : Array Oper) (C : World → Prop) (i : Nat) (K : Act → World → Prop) (a : Act) (w : World) : Prop :=
  match ops[i]? with
  | none => K a w
  | some o => if Region.wanted o (yielded ops a.tmps) then o.wp P a w (fun a' w' => C w' ∧ K a' w') QF else K (a.put o.dst undef) w

def wpAnyC (P : Program) (md : Region.Mode) (ops : Array Oper) (C : World → Prop) (Q : Act → World → Prop) : Nat → Array Bool → Act → World → Prop
  | 0, listed, a, w => Region.ready md ops listed = [] ∧ Q a w
  | f + 1, listed, a, w => (Region.ready md ops listed = [] → Q a w) ∧ ∀ i ∈ Region.ready md ops listed, opC P ops C i (wpAnyC P md ops C Q f (listed.setIfInBounds i true)) a w

theorem wp_out {o : Oper} {a : Act} {w : World} {K K' : Act → World → Prop} (h : ∀ a w, K a w → K' a w) (hh : o.wp P a w K QF) : o.wp P a w K' Q := by
  unfold Oper.wp at *
  generalize (execOp a.eval o).run P w = r at *
  cases r with
  | ok x w' =>
    cases x <;> simp only [Oper.upon] at hh ⊢
    case value v => exact h _ _ hh
    case skip => exact h _ _ hh
    case defer d => exact h _ _ hh
    case enter f args =>
      refine hh.mono fun e w'' hx => ?_
      cases e with
      | returned v => exact h _ _ hx
      | panicked c => exact hx.elim
      | outgrown => obtain ⟨_, _, hx⟩ := hx; exact hx.elim
    case row r args => exact hh.mono fun v w'' hx => h _ _ hx
  | halt x w' =>
    cases x <;> simp only [Oper.upon] at hh ⊢
    exact hh.elim

theorem wp_mono_K {o : Oper} {a : Act} {w : World} {K K' : Act → World → Prop} (h : ∀ a w, K a w → K' a w) (hh : o.wp P a w K QF) : o.wp P a w K' QF := wp_out (Q := QF) h hh

theorem wpAny_of_C {QN : Act → World → Prop} (hQ : ∀ a w, QN a w → Q .normal a w) : ∀ (f : Nat) (listed : Array Bool) (a : Act) (w : World), wpAnyC P md ops C QN f listed a w → wpAny P md ops Q f listed a w
  | 0, _, _, _, h => ⟨h.1, hQ _ _ h.2⟩
  | f + 1, listed, a, w, h => ⟨fun h0 => hQ _ _ (h.1 h0), fun i hi => by
      have h1 := h.2 i hi
      unfold opC at h1
      unfold wpOp
      split
      · rename_i ho; rw [ho] at h1; exact wpAny_of_C hQ f _ a w h1
      · rename_i o ho
        rw [ho] at h1
        simp only at h1
        split
        · rename_i hw; rw [if_pos hw] at h1; exact .inl (wp_out (fun a' w' hx => wpAny_of_C hQ f _ a' w' hx.2) h1)
        · rename_i hw; rw [if_neg hw] at h1; exact wpAny_of_C hQ f _ _ w h1⟩

/-- A quiet operation: one value in every world of C, the world left as it is; or it is passed over. -/
def Qv (P : Program) (ops : Array Oper) (C : World → Prop) (o : Oper) (v : Value) (a : Act) : Prop :=
  (Region.wanted o (yielded ops a.tmps) = true ∧ ∀ w, C w → (execOp a.eval o).run P w = .ok (.value v) w) ∨ (Region.wanted o (yielded ops a.tmps) = false ∧ v = undef)

theorem Qv.opC {i : Nat} {o : Oper} {v : Value} {a : Act} {w : World} {K : Act → World → Prop} (hi : ops[i]? = some o) (hC : C w) (hy : Qv P ops C o v a) (h : K (a.put o.dst v) w) : Wk.opC P ops C i K a w := by
  unfold Wk.opC
  simp only [hi]
  rcases hy with ⟨hw, hv⟩ | ⟨hw, rfl⟩
  · rw [if_pos hw]; unfold Oper.wp; rw [hv w hC]; exact ⟨hC, h⟩
  · rw [if_neg (by rw [hw]; simp)]; exact h

theorem Qv.keep {oi : Oper} {v : Value} {a : Act} {d : Option Tmp} {u : Value} (hs : ∀ cs b, oi.op ≠ .select cs b) (h : ∀ d', d = some d' → d' ∉ oi.looksAt ops) (hy : Qv P ops C oi v a) : Qv P ops C oi v (a.put d u) := by
  unfold Qv at *
  rw [execOp_put oi hs a d u h, wanted_put oi a d u h]
  exact hy

theorem opC_put {j : Nat} {oi oj : Oper} {v : Value} {a : Act} {w : World} {K K' : Act → World → Prop} (hj : ops[j]? = some oj) (hap : oi.apart ops oj = true) (hsj : ∀ cs b, oj.op ≠ .select cs b)
    (hK : ∀ (b : Act) u w', b.tmps = a.tmps → C w' → K ((b.put oj.dst u).put oi.dst v) w' → K' (b.put oj.dst u) w') (hw : C w)
    (h : opC P ops C j K (a.put oi.dst v) w) : opC P ops C j K' a w := by
  obtain ⟨h1, h2, h3⟩ := Oper.apart_spec hap
  unfold opC at *
  simp only [hj] at *
  rw [wanted_put oj a oi.dst v h1] at h
  split
  · rename_i hwt
    rw [if_pos hwt] at h
    unfold Oper.wp at *
    rw [execOp_put oj hsj a oi.dst v h1] at h
    generalize hr : (execOp a.eval oj).run P w = r at *
    cases r with
    | ok x w' =>
      cases x <;> simp only [Oper.upon] at h ⊢
      case value u => exact ⟨h.1, hK a u w' rfl h.1 (by rw [← Act.put_comm a v u h2]; exact h.2)⟩
      case skip => exact ⟨h.1, hK a undef w' rfl h.1 (by rw [← Act.put_comm a v undef h2]; exact h.2)⟩
      case defer d =>
        have e : ({ a.put oi.dst v with defers := d :: (a.put oi.dst v).defers } : Act) = ({ a with defers := d :: a.defers } : Act).put oi.dst v := by cases oi.dst <;> rfl
        refine ⟨h.1, hK { a with defers := d :: a.defers } undef w' rfl h.1 ?_⟩
        rw [← Act.put_comm _ v undef h2, ← e]
        exact h.2
      case enter f args =>
        refine h.mono fun e w'' hx => ?_
        cases e with
        | returned u => exact ⟨hx.1, hK a u w'' rfl hx.1 (by rw [← Act.put_comm a v u h2]; exact hx.2)⟩
        | panicked c => exact hx
        | outgrown => exact hx
      case row r args => exact h.mono fun u w'' hx => ⟨hx.1, hK a u w'' rfl hx.1 (by rw [← Act.put_comm a v u h2]; exact hx.2)⟩
    | halt x w' =>
      cases x <;> simp only [Oper.upon] at h ⊢
      exact h
  · rename_i hwt
    rw [if_neg hwt] at h
    exact hK a undef w rfl hw (by rw [← Act.put_comm a v undef h2]; exact h)

theorem Qv.same {oi : Oper} {v : Value} {a b : Act} (ht : b.tmps = a.tmps) (hy : Qv P ops C oi v a) : Qv P ops C oi v b := by
  have he : b.eval = a.eval := by funext x; cases x <;> simp [Act.eval, ht]
  unfold Qv at *
  rw [he, ht]
  exact hy

/-- A quiet operation that may come up now may be taken first. -/
theorem wpAnyC_first {QN : Act → World → Prop} {i : Nat} {oi : Oper} {v : Value} (hi : ops[i]? = some oi) (hsel : ∀ (j : Nat) (o : Oper) cs b, ops[j]? = some o → o.op ≠ .select cs b) :
    ∀ (f : Nat) (listed : Array Bool) (a : Act) (w : World),
      (∀ j oj, ops[j]? = some oj → j ≠ i → listed.getD j true = false → (∀ e ∈ oj.after, Region.binds md e = true → e.on ≠ i) → oi.apart ops oj = true) →
      i ∈ Region.ready md ops listed → C w → Qv P ops C oi v a →
      wpAnyC P md ops C QN f (listed.setIfInBounds i true) (a.put oi.dst v) w → wpAnyC P md ops C QN (f + 1) listed a w := by
  intro f
  induction f with
  | zero =>
    intro listed a w _ hr hC hy H
    refine ⟨fun h => (by rw [h] at hr; cases hr), fun j hj => ?_⟩
    by_cases hji : j = i
    · subst hji; exact hy.opC hi hC H
    · have := ready_mono hj hji
      rw [H.1] at this
      cases this
  | succ f ih =>
    intro listed a w hfree hr hC hy H
    refine ⟨fun h => (by rw [h] at hr; cases hr), fun j hj => ?_⟩
    by_cases hji : j = i
    · subst hji; exact hy.opC hi hC H
    · have h1 := H.2 j (ready_mono hj hji)
      obtain ⟨hjun, oj, hoj, hall⟩ := mem_ready.1 hj
      have hnot : ∀ e ∈ oj.after, Region.binds md e = true → e.on ≠ i := fun e he hb heq => by
        have h2 := hall e he hb
        have h0 := (mem_ready.1 hr).1
        rw [heq] at h2
        rcases Nat.lt_or_ge i listed.size with h' | h'
        · simp [h'] at h0 h2; rw [h0] at h2; cases h2
        · simp [Array.getElem?_eq_none h'] at h2
      have hap := hfree j oj hoj hji hjun hnot
      obtain ⟨_, _, h3⟩ := Oper.apart_spec hap
      have hfree' : ∀ k ok, ops[k]? = some ok → k ≠ i → (listed.setIfInBounds j true).getD k true = false →
          (∀ e ∈ ok.after, Region.binds md e = true → e.on ≠ i) → oi.apart ops ok = true := fun k ok hk hki hun hno => by
        refine hfree k ok hk hki ?_ hno
        by_cases hjk : j = k
        · subst hjk; exact hjun
        · rw [getD_set_ne true hjk] at hun; exact hun
      refine opC_put hoj hap (fun cs b => hsel j oj cs b hoj) (fun b u w' hb hC' h4 => ?_) hC h1
      refine ih (listed.setIfInBounds j true) _ w' hfree' (ready_mono hr (Ne.symm hji)) hC' ((hy.same hb).keep (fun cs b => hsel i oi cs b hi) h3) ?_
      rw [Array.setIfInBounds_comm _ _ hji]
      exact h4

/-! the walk in a chosen order: (true, o): quiet; (false, o): in its turn -/
def ordOps (l : List Oper) : List (Nat × Bool) → List (Bool × Oper)
  | [] => []
  | (i, q) :: r => match l[i]? with
    | some o => (q, o) :: ordOps l r
    | none => ordOps l r
/-- C: the worlds that a quiet operation may meet; behind an operation in its turn it may be taken narrower. -/
def wpMix (P : Program) (ops : Array Oper) (C : World → Prop) (QN : Act → World → Prop) : List (Bool × Oper) → Act → World → Prop
  | [], a, w => QN a w
  | (true, o) :: r, a, w => if Region.wanted o (yielded ops a.tmps) then ∃ v, (∀ w', C w' → (execOp a.eval o).run P w' = .ok (.value v) w') ∧ wpMix P ops C QN r (a.put o.dst v) w else wpMix P ops C QN r (a.put o.dst undef) w
  | (false, o) :: r, a, w => if Region.wanted o (yielded ops a.tmps) then o.wp P a w (fun a' w' => C w' ∧ ∃ C' : World → Prop, C' w' ∧ (∀ x, C' x → C x) ∧ wpMix P ops C' QN r a' w') QF else wpMix P ops C QN r (a.put o.dst undef) w
theorem wpAnyC_mono {C' : World → Prop} {QN : Act → World → Prop} (hC : ∀ x, C' x → C x) : ∀ (f : Nat) (listed : Array Bool) (a : Act) (w : World), wpAnyC P md ops C' QN f listed a w → wpAnyC P md ops C QN f listed a w
  | 0, _, _, _, h => h
  | f + 1, listed, a, w, h => ⟨h.1, fun i hi => by
      have h1 := h.2 i hi
      unfold opC at *
      split
      · rename_i ho; rw [ho] at h1; exact wpAnyC_mono hC f _ a w h1
      · rename_i o ho
        rw [ho] at h1
        simp only at h1
        split
        · rename_i hw; rw [if_pos hw] at h1; exact wp_mono_K (fun a' w' hx => ⟨hC _ hx.1, wpAnyC_mono hC f _ a' w' hx.2⟩) h1
        · rename_i hw; rw [if_neg hw] at h1; exact wpAnyC_mono hC f _ _ w h1⟩
def mixB (md : Region.Mode) (ops : Array Oper) : List (Nat × Bool) → Array Bool → Bool
  | [], listed => (Region.ready md ops listed).isEmpty
  | (i, q) :: r, listed => (ops[i]?).isSome && (if q then (Region.ready md ops listed).contains i && Region.free md ops listed i else decide (Region.ready md ops listed = [i])) && mixB md ops r (listed.setIfInBounds i true)

theorem wpAnyC_of_mix {QN : Act → World → Prop} (hs : Region.noSelect ops = true) : ∀ {C : World → Prop} (ord : List (Nat × Bool)) (listed : Array Bool) (a : Act) (w : World), C w → mixB md ops ord listed = true →
    wpMix P ops C QN (ordOps ops.toList ord) a w → wpAnyC P md ops C QN ord.length listed a w
  | _, [], listed, a, w, _, hB, h => ⟨by simpa [mixB] using hB, h⟩
  | _, (i, q) :: r, listed, a, w, hC, hB, h => by
    simp only [mixB, Bool.and_eq_true] at hB
    obtain ⟨⟨h0, h1⟩, h2⟩ := hB
    obtain ⟨o, ho⟩ := Option.isSome_iff_exists.1 h0
    have hol : ops.toList[i]? = some o := by simpa using ho
    simp only [ordOps, hol] at h
    cases q with
    | true =>
      simp only [if_true, Bool.and_eq_true] at h1
      simp only [wpMix] at h
      have hr : i ∈ Region.ready md ops listed := by simpa using h1.1
      split at h
      · rename_i hw
        obtain ⟨v, hv, hk⟩ := h
        exact wpAnyC_first ho (Region.noSelect_spec hs) r.length listed a w (Region.free_spec ho h1.2) hr hC (.inl ⟨hw, hv⟩) (wpAnyC_of_mix hs r _ _ _ hC h2 hk)
      · rename_i hw
        exact wpAnyC_first ho (Region.noSelect_spec hs) r.length listed a w (Region.free_spec ho h1.2) hr hC (.inr ⟨by simpa using hw, rfl⟩) (wpAnyC_of_mix hs r _ _ _ hC h2 h)
    | false =>
      simp only [Bool.false_eq_true, if_false, decide_eq_true_eq] at h1
      simp only [wpMix] at h
      refine ⟨fun h3 => (by rw [h1] at h3; cases h3), fun j hj => ?_⟩
      rw [h1] at hj
      have hji : j = i := by simpa using hj
      subst hji
      unfold opC
      simp only [ho]
      split at h
      · rename_i hw
        rw [if_pos hw]
        exact wp_mono_K (fun a' w' hx => ⟨hx.1, by obtain ⟨C', h5, h6, h7⟩ := hx.2; exact wpAnyC_mono h6 _ _ _ _ (wpAnyC_of_mix hs r _ _ _ h5 h2 h7)⟩) h
      · rename_i hw
        rw [if_neg hw]
        exact wpAnyC_of_mix hs r _ _ _ hC h2 h

def mixOk (md : Region.Mode) (ops : Array Oper) (ord : List (Nat × Bool)) : Bool := Region.noSelect ops && decide (ord.length = ops.size) && mixB md ops ord (Array.replicate ops.size false)
theorem c_mix {id : Nat} {lo : List Oper} {a : Act} {w : World} (ord : List (Nat × Bool)) (C : World → Prop) (hm : P.follows .mixedOrders = true) (hB : mixOk .any lo.toArray ord = true)
    (h : ∀ w', Md [] w w' → C w' ∧ wpMix P lo.toArray C (fun a w => Q .normal a w) (ordOps lo ord) a w') : (Code.region id lo.toArray true).wp P Q a w := by
  simp only [mixOk, Bool.and_eq_true, decide_eq_true_eq] at hB
  obtain ⟨⟨h1, h2⟩, h3⟩ := hB
  obtain ⟨hC, hk⟩ := h _ (Md.drew w)
  refine wp_region_any hm (wpAny_of_C (C := C) (QN := fun a w => Q .normal a w) (fun _ _ hx => hx) _ _ _ _ ?_)
  have := wpAnyC_of_mix (md := .any) (C := C) (QN := fun a w => Q .normal a w) h1 ord _ a _ hC h3 hk
  rwa [h2] at this

variable {n : Nat} {A : Fr n} {D : List Deferred} {l : List (Nat × Value)} {w : World} {QN : Act → World → Prop} {rest : List (Bool × Oper)}
variable {d : Tmp} {op : Op} {ty : TypeId} {ps : String} {af : Array Edge}
theorem m (v : Value) (hr : ∀ w', C w' → RunV P ⟨some d, op, ty, ps, af, none⟩ (over A D l).eval w' v) (k : wpMix P ops C QN rest (over A D ((d, v) :: l)) w) :
    wpMix P ops C QN ((true, ⟨some d, op, ty, ps, af, none⟩) :: rest) (over A D l) w := by
  unfold wpMix; rw [if_pos (by simp [Region.wanted])]; exact ⟨v, hr, k⟩
theorem m_nil {a : Act} (h : QN a w) : wpMix P ops C QN [] a w := h
/-- An operation in its turn: by its step over a list of it alone. -/
theorem m_c {o : Oper} {a : Act} (h : wpList P ops (fun e a' w' => e = .normal ∧ C w' ∧ ∃ C' : World → Prop, C' w' ∧ (∀ x, C' x → C x) ∧ wpMix P ops C' QN rest a' w') [o] a w) (hw : Region.wanted o (yielded ops a.tmps) = true) : wpMix P ops C QN ((false, o) :: rest) a w := by
  unfold wpMix; rw [if_pos hw]
  unfold wpList at h
  rw [if_pos hw] at h
  rcases h with h | h
  · unfold Oper.wp at *
    generalize (execOp a.eval o).run P w = r at *
    cases r with
    | ok x w' =>
      cases x <;> simp only [Oper.upon] at h ⊢
      case value v => exact (show _ ∧ _ from h).2
      case skip => exact (show _ ∧ _ from h).2
      case defer d => exact (show _ ∧ _ from h).2
      case enter f args =>
        refine h.mono fun e w'' hx => ?_
        cases e with
        | returned v => exact (show _ ∧ _ from hx).2
        | panicked c => exact absurd hx.1 (by simp)
        | outgrown => obtain ⟨_, _, hx⟩ := hx; exact absurd hx.1 (by simp)
      case row r args => exact h.mono fun v w'' hx => (show _ ∧ _ from hx).2
    | halt x w' =>
      cases x <;> simp only [Oper.upon] at h ⊢
      exact absurd h.1 (by simp)
  · obtain ⟨_, _, _, hx⟩ := h; exact absurd hx.1 (by simp)
theorem keepC {Q1 Q2 : Exit → Act → World → Prop} (hq : ∀ e a w, Q1 e a w → Q2 e a w) {a : Act} {o : Oper} (h : wpList P ops Q1 [o] a w) : wpList P ops Q2 [o] a w := by
  unfold wpList at *
  split
  · rename_i hw
    rw [if_pos hw] at h
    rcases h with h | h
    · refine .inl ?_
      unfold Oper.wp at *
      generalize (execOp a.eval o).run P w = r at *
      cases r with
      | ok x w' =>
        cases x <;> simp only [Oper.upon] at h ⊢
        case value v => exact hq _ _ _ h
        case skip => exact hq _ _ _ h
        case defer d => exact hq _ _ _ h
        case enter f args =>
          refine h.mono fun e w'' hx => ?_
          cases e with
          | returned v => exact hq _ _ _ hx
          | panicked c => exact hq _ _ _ hx
          | outgrown => obtain ⟨x1, x2, hx⟩ := hx; exact ⟨x1, x2, hq _ _ _ hx⟩
        case row r args => exact h.mono fun v w'' hx => hq _ _ _ hx
      | halt x w' =>
        cases x <;> simp only [Oper.upon] at h ⊢
        exact hq _ _ _ h
    · obtain ⟨x1, x2, x3, hx⟩ := h; exact .inr ⟨x1, x2, x3, hq _ _ _ hx⟩
  · rename_i hw
    rw [if_neg hw] at h
    exact hq _ _ _ h
theorem m_e {o : Oper} {a : Act} (h : wpList P ops (fun e a' w' => e = .normal ∧ C w' ∧ wpMix P ops C QN rest a' w') [o] a w) (hw : Region.wanted o (yielded ops a.tmps) = true) : wpMix P ops C QN ((false, o) :: rest) a w :=
  m_c (keepC (fun _ _ _ hx => ⟨hx.1, hx.2.1, C, hx.2.1, fun _ h => h, hx.2.2⟩) h) hw
end
end Go.Wk
namespace Go.Wk
open Go Go.RowKit

/-- A string by its bytes. -/
def str (s : List UInt8) : Value := .string ⟨s.toArray⟩

section
variable {P : Program} {n : Nat} {A : Fr n} {D : List Deferred} {l : List (Nat × Value)} {w : World}
variable {d : Option Tmp} {ty : TypeId} {ps : String} {af : Array Edge} {g : Option (Nat × Bool)}

theorem r_lenS {x : Operand} {s : List UInt8} {t : TypeId} (hx : ev n l x = some (str s)) (hT : P.underlying t = some .string) :
    RunV P ⟨d, .call { callee := .builtin .len, args := #[x], argTypes := #[t] }, ty, ps, af, g⟩ (over A D l).eval w (.int .i64 s.length) := by
  have hs : (⟨s.toArray⟩ : ByteArray).size = s.length := by simp [ByteArray.size]
  simp [RunV, execOp, ev_eval hx, resolve, invoke, builtin, Builtin.len_, run_underlying hT, goInt, str, hs]
theorem r_idxS {x y : Operand} {s : List UInt8} {t : TypeId} {k : IntKind} {i : Int} (hx : ev n l x = some (str s)) (hy : ev n l y = some (.int k i)) (hT : P.underlying t = some .string) (hi : 0 ≤ i ∧ i < s.length) :
    RunV P ⟨d, .index t x y, ty, ps, af, g⟩ (over A D l).eval w (b8 (s.getD i.toNat 0)) := by
  have h := run_index_string (P := P) w t ⟨s.toArray⟩ k i hT
  have hs : (⟨s.toArray⟩ : ByteArray).size = s.length := by simp [ByteArray.size]
  rw [dif_pos (by rw [hs]; exact hi)] at h
  have hv : ((⟨s.toArray⟩ : ByteArray)[i.toNat]'(by rw [hs]; omega)) = s.getD i.toNat 0 := by
    show s.toArray[i.toNat]'_ = _
    have : i.toNat < s.length := by omega
    simp [List.getD, this]
  rw [hv] at h
  simp [RunV, execOp, ev_eval hx, ev_eval hy, str, b8, h]
theorem r_idxSN {x y : Operand} {s : List UInt8} {t : TypeId} {k : IntKind} {i : Nat} (hx : ev n l x = some (str s)) (hy : ev n l y = some (.int k (i : Int))) (hT : P.underlying t = some .string) (hi : i < s.length) :
    RunV P ⟨d, .index t x y, ty, ps, af, g⟩ (over A D l).eval w (b8 (s.getD i 0)) := by
  have := r_idxS (P := P) (A := A) (D := D) (w := w) (d := d) (ty := ty) (ps := ps) (af := af) (g := g) hx hy hT (by omega)
  simpa using this
theorem r_strop {op : BinOp} {x y : Operand} {t u : TypeId} {a b : List UInt8} {r : Value} (hx : ev n l x = some (str a)) (hy : ev n l y = some (str b)) (hop : ∀ v, (eqGuard op t x y (str a) v).run P w = .ok () w)
    (hr : (binOp op t (str a) (str b)).run P w = .ok r w) : RunV P ⟨d, .binOp op t x y u, ty, ps, af, g⟩ (over A D l).eval w r := by
  simp [RunV, execOp, ev_eval hx, ev_eval hy, hop, hr]
theorem str_guard (op : BinOp) (t : TypeId) (x y : Operand) (a : List UInt8) (v : Value) : (eqGuard op t x y (str a) v).run P w = .ok () w := by unfold eqGuard str; cases op <;> simp
theorem str_beq (a b : List UInt8) : ((⟨a.toArray⟩ : ByteArray).toList == (⟨b.toArray⟩ : ByteArray).toList) = decide (a = b) := by
  rw [ByteArray.toList_eq, ByteArray.toList_eq]
  rw [Bool.eq_iff_iff]; simp
theorem r_addS {x y : Operand} {t u : TypeId} {a b : List UInt8} (hx : ev n l x = some (str a)) (hy : ev n l y = some (str b)) (hl : a.length + b.length ≤ 9223372036854775807) :
    RunV P ⟨d, .binOp .add t x y u, ty, ps, af, g⟩ (over A D l).eval w (str (a ++ b)) := by
  refine r_strop hx hy (str_guard _ _ _ _ _) ?_
  have h := run_string_add_sum (P := P) (w := w) ⟨a.toArray⟩ ⟨b.toArray⟩ (by simpa [ByteArray.size] using hl)
  simp only [binOp, str]
  rw [h]
  congr 2
theorem r_eqlS {x y : Operand} {t u : TypeId} {a b : List UInt8} (hx : ev n l x = some (str a)) (hy : ev n l y = some (str b)) :
    RunV P ⟨d, .binOp .eql t x y u, ty, ps, af, g⟩ (over A D l).eval w (.bool (decide (a = b))) :=
  r_strop hx hy (str_guard _ _ _ _ _) (by simp only [binOp, str, Op.stringOp, str_beq, Sem.run_pure])
theorem r_neqS {x y : Operand} {t u : TypeId} {a b : List UInt8} (hx : ev n l x = some (str a)) (hy : ev n l y = some (str b)) :
    RunV P ⟨d, .binOp .neq t x y u, ty, ps, af, g⟩ (over A D l).eval w (.bool (!decide (a = b))) :=
  r_strop hx hy (str_guard _ _ _ _ _) (by simp only [binOp, str, Op.stringOp, str_beq, Sem.run_pure])
theorem r_lssS {x y : Operand} {t u : TypeId} {a b : List UInt8} (hx : ev n l x = some (str a)) (hy : ev n l y = some (str b)) :
    RunV P ⟨d, .binOp .lss t x y u, ty, ps, af, g⟩ (over A D l).eval w (.bool (Op.bytesLess a b)) :=
  r_strop hx hy (str_guard _ _ _ _ _) (by simp only [binOp, str, Op.stringOp, Sem.run_pure, ByteArray.toList_eq])
/-- string(b) -/
theorem r_convBS {x : Operand} {v : Value} {s : List UInt8} {src dst e : TypeId} (hs : P.underlying src = some (.slice e)) (he : P.underlying e = some (.int .u8)) (hd : P.underlying dst = some .string) (hx : ev n l x = some v) (hB : By w v s) :
    RunV P ⟨d, .convert src dst x, ty, ps, af, g⟩ (over A D l).eval w (str s) := by
  obtain ⟨a, cap, rfl, h1, h2, h3, h4⟩ := hB
  have hr : (convert src dst (.slice a (s.map b8).length cap)).run P w = .ok (str s) w := by
    cases a with
    | none =>
      have hc := h3 rfl
      have hl : (s.map b8).length = 0 := by omega
      have hs0 : s = [] := by simpa using hl
      subst hs0
      have := run_convert_bytes_string (P := P) w src dst e none 0 cap hs he hd
      simp only [List.map_nil, List.length_nil]
      rw [this]
      first | rfl | simp [Conv.bytesToString, str]
    | some p =>
      have := run_convert_bytes_back (P := P) w src dst e p cap s hs he hd (fun j hj => h4 p rfl j _ (by simp [b8, hj]))
      simpa [str] using this
  simp only [List.length_map] at hr hx
  simp [RunV, execOp, ev_eval hx, hr]
/-- []byte(s) -/
theorem st_convSB {ops : Array Oper} {Q : Exit → Act → World → Prop} {rest : List Oper} {d : Tmp} {x : Operand} {s : List UInt8} {src dst e : TypeId} (hs : P.underlying src = some .string) (hd : P.underlying dst = some (.slice e)) (he : P.underlying e = some (.int .u8))
    (hx : ev n l x = some (str s)) (hl : s.length ≤ maxLen)
    (k : ∀ v w', Md [] w w' → By w' v s → (∀ b, vblock v = some b → w.heap.size ≤ b ∧ b < w'.heap.size) → wpList P ops Q rest (over A D ((d, v) :: l)) w') :
    wpList P ops Q (⟨some d, .convert src dst x, ty, ps, af, none⟩ :: rest) (over A D l) w := by
  refine wl_plain rfl ?_
  have hr := run_bytes_of_string (P := P) w src dst e ⟨s.toArray⟩ hs hd he
  have hsz : (⟨s.toArray⟩ : ByteArray).size = s.length := by simp [ByteArray.size]
  have hrun : (execOp (over A D l).eval ⟨some d, .convert src dst x, ty, ps, af, none⟩).run P w = .ok (.value (.slice (some ⟨w.heap.size, 0, none⟩) s.length (grownCap w s.length 0 e)))
      (w.drew.alloc (.cells (bytesRow ⟨s.toArray⟩ (grownCap w s.length 0 e)) e ((bytesRow ⟨s.toArray⟩ (grownCap w s.length 0 e)).size, (bytesRow ⟨s.toArray⟩ (grownCap w s.length 0 e)).size + 1))) := by
    rw [hsz] at hr
    simp [execOp, ev_eval hx, str, hr]
  unfold Oper.wp
  rw [hrun]
  refine k _ _ ⟨rfl, rfl, rfl, by simp, fun _ hk _ => heap_alloc_old _ _ hk⟩ ?_ ?_
  · refine ⟨_, _, by simp; exact ⟨rfl, rfl⟩, ?_, ?_, by simp, ?_⟩
    · simpa using grownCap_ge w s.length 0 e
    · exact grownCap_le_maxLen w _ _ _ hl
    · intro p hp j u hj
      simp at hp; subst hp
      have hjl : j < s.length := by have := (List.getElem?_eq_some_iff.1 hj).1; simpa using this
      have hc := World.cell?_alloc_mark w.drew (bytesRow ⟨s.toArray⟩ (grownCap w s.length 0 e)) e ((bytesRow ⟨s.toArray⟩ (grownCap w s.length 0 e)).size, (bytesRow ⟨s.toArray⟩ (grownCap w s.length 0 e)).size + 1) j
      have ha : (⟨w.heap.size, 0, none⟩ : Addr).add j = ⟨w.heap.size, j, none⟩ := by unfold Addr.add; split <;> simp_all
      rw [ha]
      refine hc.trans ?_
      simp [hjl, b8] at hj
      simp [bytesRow, Array.getElem?_append, hjl, hj]
  · intro b hb
    simp [vblock] at hb
    subst hb
    simp

/-! pairs of strings -/
def pairv (p : List UInt8 × List UInt8) : Value := .agg #[str p.1, str p.2]
/-- A guarded operation whose guard was itself passed over. -/
theorem st_skipU {ops : Array Oper} {Q : Exit → Act → World → Prop} {rest : List Oper} {op : Op} {d : Tmp} {j t : Nat} {o : Oper} {want : Bool} (ho : ops[j]? = some o) (ht : o.dst = some t) (hy : ev n l (.tmp t) = some undef)
    (k : wpList P ops Q rest (over A D ((d, undef) :: l)) w) :
    wpList P ops Q (⟨some d, op, ty, ps, af, some (j, want)⟩ :: rest) (over A D l) w := by
  have h' := ev_eval (A := A) (D := D) hy
  have hy2 : yielded ops (over A D l).tmps j = none := by
    simp only [Act.eval] at h'
    unfold yielded
    simp [ho, ht]
    rw [Array.getD_eq_getD_getElem?] at h'
    cases hq : (over A D l).tmps[t]? with
    | none => rfl
    | some v => rw [hq] at h'; simp at h'; rw [h']; rfl
  unfold wpList; rw [if_neg (by simp [Region.wanted, hy2])]; exact k
end
end Go.Wk
namespace Go.Wk
open Go Go.RowKit

def OneC (cs : List Value) : Prop := ∀ u ∈ cs, u.oneCell' = true
/-- How data of a type stand in so many cells; what is behind these lies in blocks that are let. -/
structure Dt (α : Type) where
  n : Nat
  pos : 0 < n
  rep : World → (Nat → Prop) → List Value → α → Prop
  len : ∀ {w Q cs x}, rep w Q cs x → cs.length = n
  one : ∀ {w Q cs x}, rep w Q cs x → OneC cs
  md : ∀ {S w w' Q cs x}, rep w Q cs x → Md S w w' → (∀ b ∈ S, ¬ Q b) → rep w' Q cs x
  sub : ∀ {w Q Q' cs x}, rep w Q cs x → (∀ b, Q b → b < w.heap.size → Q' b) → rep w Q' cs x

/-- Plain data of one cell. -/
def tOne {α : Type} (f : α → Value) (h1 : ∀ x, (f x).oneCell' = true) (ok : α → Prop) : Dt α where
  n := 1
  pos := Nat.zero_lt_one
  rep _ _ cs x := cs = [f x] ∧ ok x
  len := by rintro _ _ _ _ ⟨rfl, _⟩; rfl
  one := by rintro _ _ _ _ ⟨rfl, _⟩ u hu; simp at hu; subst hu; exact h1 _
  md := fun h _ _ => h
  sub := fun h _ => h
def tInt : Dt Int := tOne (fun x => .int .i64 x) (fun _ => rfl) (fun x => -9223372036854775808 ≤ x ∧ x < 9223372036854775808)
def tB8 : Dt UInt8 := tOne b8 (fun _ => rfl) (fun _ => True)
def tStr : Dt (List UInt8) := tOne str (fun _ => rfl) (fun _ => True)

def tProd {α β : Type} (A : Dt α) (B : Dt β) : Dt (α × β) where
  n := A.n + B.n
  pos := Nat.lt_of_lt_of_le A.pos (Nat.le_add_right _ _)
  rep w Q cs p := ∃ c1 c2, cs = c1 ++ c2 ∧ A.rep w Q c1 p.1 ∧ B.rep w Q c2 p.2
  len := by rintro _ _ _ _ ⟨c1, c2, rfl, h1, h2⟩; simp [A.len h1, B.len h2]
  one := by
    rintro _ _ _ _ ⟨c1, c2, rfl, h1, h2⟩ u hu
    rcases List.mem_append.1 hu with h | h
    · exact A.one h1 u h
    · exact B.one h2 u h
  md := fun ⟨c1, c2, h, h1, h2⟩ m hs => ⟨c1, c2, h, A.md h1 m hs, B.md h2 m hs⟩
  sub := fun ⟨c1, c2, h, h1, h2⟩ s => ⟨c1, c2, h, A.sub h1 s, B.sub h2 s⟩
def tPull {α β : Type} (f : β → α) (A : Dt α) : Dt β where
  n := A.n
  pos := A.pos
  rep w Q cs x := A.rep w Q cs (f x)
  len := A.len
  one := A.one
  md := A.md
  sub := A.sub

section
variable {α : Type} {T : Dt α} {w w' : World} {Q Q' : Nat → Prop}

/-- Elements, one behind the other. -/
def Els (T : Dt α) (w : World) (Q : Nat → Prop) : List Value → List α → Prop
  | cs, [] => cs = []
  | cs, x :: xs => ∃ c r, cs = c ++ r ∧ T.rep w Q c x ∧ Els T w Q r xs
theorem Els.len {cs : List Value} {xs : List α} (h : Els T w Q cs xs) : cs.length = xs.length * T.n := by
  induction xs generalizing cs with
  | nil => simp only [Els] at h; subst h; simp
  | cons x xs ih =>
    obtain ⟨c, r, rfl, h1, h2⟩ := h
    simp [T.len h1, ih h2, Nat.succ_mul, Nat.add_comm]
theorem Els.one {cs : List Value} {xs : List α} (h : Els T w Q cs xs) : OneC cs := by
  induction xs generalizing cs with
  | nil => simp only [Els] at h; subst h; intro u hu; simp at hu
  | cons x xs ih =>
    obtain ⟨c, r, rfl, h1, h2⟩ := h
    intro u hu
    rcases List.mem_append.1 hu with h | h
    · exact T.one h1 u h
    · exact ih h2 u h
theorem Els.md {S : List Nat} {cs : List Value} {xs : List α} (h : Els T w Q cs xs) (m : Md S w w') (hs : ∀ b ∈ S, ¬ Q b) : Els T w' Q cs xs := by
  induction xs generalizing cs with
  | nil => exact h
  | cons x xs ih => obtain ⟨c, r, e, h1, h2⟩ := h; exact ⟨c, r, e, T.md h1 m hs, ih h2⟩
theorem Els.sub {cs : List Value} {xs : List α} (h : Els T w Q cs xs) (s : ∀ b, Q b → b < w.heap.size → Q' b) : Els T w Q' cs xs := by
  induction xs generalizing cs with
  | nil => exact h
  | cons x xs ih => obtain ⟨c, r, e, h1, h2⟩ := h; exact ⟨c, r, e, T.sub h1 s, ih h2⟩
theorem Els.append {cs ds : List Value} {xs ys : List α} (h : Els T w Q cs xs) (k : Els T w Q ds ys) : Els T w Q (cs ++ ds) (xs ++ ys) := by
  induction xs generalizing cs with
  | nil => simp only [Els] at h; subst h; exact k
  | cons x xs ih => obtain ⟨c, r, rfl, h1, h2⟩ := h; exact ⟨c, r ++ ds, by simp, h1, ih h2⟩
theorem Els.get {cs : List Value} {xs : List α} {i : Nat} {x : α} (h : Els T w Q cs xs) (hi : xs[i]? = some x) : ∃ c, T.rep w Q c x ∧ ∀ j u, c[j]? = some u → cs[i * T.n + j]? = some u := by
  induction xs generalizing cs i with
  | nil => simp at hi
  | cons y xs ih =>
    obtain ⟨c, r, rfl, h1, h2⟩ := h
    cases i with
    | zero =>
      simp at hi; subst hi
      refine ⟨c, h1, fun j u hj => ?_⟩
      have := (List.getElem?_eq_some_iff.1 hj).1
      rw [Nat.zero_mul, Nat.zero_add, List.getElem?_append_left this]; exact hj
    | succ i =>
      obtain ⟨d, hd, hc⟩ := ih h2 (by simpa using hi)
      refine ⟨d, hd, fun j u hj => ?_⟩
      have hl := T.len h1
      rw [Nat.succ_mul, List.getElem?_append_right (by omega)]
      rw [show i * T.n + T.n + j - c.length = i * T.n + j by omega]
      exact hc j u hj
theorem Els.split {cs : List Value} {xs ys : List α} (h : Els T w Q cs (xs ++ ys)) : Els T w Q (cs.take (xs.length * T.n)) xs ∧ Els T w Q (cs.drop (xs.length * T.n)) ys := by
  induction xs generalizing cs with
  | nil => simp [Els]; exact h
  | cons x xs ih =>
    obtain ⟨c, r, rfl, h1, h2⟩ := h
    obtain ⟨h3, h4⟩ := ih h2
    have hl := T.len h1
    have e : (x :: xs).length * T.n = c.length + xs.length * T.n := by simp [Nat.succ_mul, hl, Nat.add_comm]
    rw [e]
    refine ⟨⟨c, r.take (xs.length * T.n), ?_, h1, h3⟩, ?_⟩
    · rw [List.take_append, List.take_of_length_le (Nat.le_add_right _ _), Nat.add_sub_cancel_left]
    · rw [List.drop_append, List.drop_of_length_le (Nat.le_add_right _ _), Nat.add_sub_cancel_left]; exact h4
/-- A slice of data. -/
def Ls (T : Dt α) (w : World) (Q : Nat → Prop) (v : Value) (xs : List α) : Prop :=
  ∃ a cap cs, v = .slice a xs.length cap ∧ xs.length ≤ cap ∧ cap ≤ maxLen ∧ (a = none → cap = 0) ∧ (∀ p, a = some p → xs ≠ [] → Q p.block) ∧ (∀ p, a = some p → ∀ j u, cs[j]? = some u → w.cell? (p.add j) = some u) ∧ Els T w Q cs xs
theorem Ls.nil (T : Dt α) (w : World) (Q : Nat → Prop) : Ls T w Q (.slice none 0 0) [] := ⟨none, 0, [], rfl, Nat.le_refl _, by simp [maxLen], fun _ => rfl, by simp, by simp, rfl⟩
theorem Ls.md {S : List Nat} {v : Value} {xs : List α} (h : Ls T w Q v xs) (m : Md S w w') (hs : ∀ b ∈ S, ¬ Q b) : Ls T w' Q v xs := by
  obtain ⟨a, cap, cs, h0, h1, h2, h3, h4, h5, h6⟩ := h
  refine ⟨a, cap, cs, h0, h1, h2, h3, h4, fun p hp j u hj => m.cell (h5 p hp j u hj) ?_, h6.md m hs⟩
  rw [Addr.add_block]
  intro hm
  refine hs _ hm (h4 p hp ?_)
  rintro rfl
  simp only [Els] at h6
  subst h6
  simp at hj
theorem Ls.md0 {v : Value} {xs : List α} (h : Ls T w Q v xs) (m : Md [] w w') : Ls T w' Q v xs := h.md m (by simp)
theorem Ls.sub {v : Value} {xs : List α} (h : Ls T w Q v xs) (s : ∀ b, Q b → b < w.heap.size → Q' b) : Ls T w Q' v xs := by
  obtain ⟨a, cap, cs, h0, h1, h2, h3, h4, h5, h6⟩ := h
  refine ⟨a, cap, cs, h0, h1, h2, h3, fun p hp hx => s _ (h4 p hp hx) ?_, h5, h6.sub s⟩
  cases xs with
  | nil => exact absurd rfl hx
  | cons x xs =>
    obtain ⟨c, r, rfl, h7, h8⟩ := h6
    cases c with
    | nil => have := T.len h7; have := T.pos; simp at *; omega
    | cons u c => have := World.block_lt_of_cell? w _ (h5 p hp 0 u rfl); rwa [Addr.add_block] at this
theorem Ls.shp {v : Value} {xs : List α} (h : Ls T w Q v xs) : Shp v xs.length := by obtain ⟨a, cap, cs, h0, h1, h2, h3, _⟩ := h; exact ⟨a, cap, h0, h1, h2, h3⟩
theorem Ls.len_le {v : Value} {xs : List α} (h : Ls T w Q v xs) : xs.length ≤ maxLen := by obtain ⟨a, cap, cs, h0, h1, h2, _⟩ := h; omega
theorem Ls.len63 {v : Value} {xs : List α} (h : Ls T w Q v xs) : xs.length ≤ 9223372036854775807 := by have := h.len_le; simp only [maxLen] at this; omega
theorem Ls.oneCell {v : Value} {xs : List α} (h : Ls T w Q v xs) : v.oneCell' = true := by obtain ⟨a, cap, cs, rfl, _⟩ := h; rfl
theorem Ls.by {v : Value} {xs : List UInt8} (h : Ls tB8 w Q v xs) : By w v xs := by
  obtain ⟨a, cap, cs, h0, h1, h2, h3, h4, h5, h6⟩ := h
  have e : cs = xs.map b8 := by
    clear h0 h1 h4 h5
    induction xs generalizing cs with
    | nil => exact h6
    | cons x xs ih => obtain ⟨c, r, rfl, ⟨rfl, _⟩, h8⟩ := h6; rw [ih _ h8]; rfl
  subst e
  exact ⟨a, cap, by simpa using h0, by simpa using h1, h2, h3, h5⟩
theorem els_one {β : Type} {f : β → Value} {h1 : ∀ x, (f x).oneCell' = true} {ok : β → Prop} {xs : List β} (h : ∀ x ∈ xs, ok x) : Els (tOne f h1 ok) w Q (xs.map f) xs := by
  induction xs with
  | nil => rfl
  | cons x xs ih => exact ⟨[f x], xs.map f, rfl, ⟨rfl, h x (by simp)⟩, ih fun y hy => h y (by simp [hy])⟩
theorem els_one_eq {β : Type} {f : β → Value} {h1 : ∀ x, (f x).oneCell' = true} {ok : β → Prop} {cs : List Value} {xs : List β} (h : Els (tOne f h1 ok) w Q cs xs) : cs = xs.map f ∧ ∀ x ∈ xs, ok x := by
  induction xs generalizing cs with
  | nil => exact ⟨h, by simp⟩
  | cons x xs ih =>
    obtain ⟨c, r, rfl, ⟨rfl, ho⟩, h8⟩ := h
    obtain ⟨rfl, h9⟩ := ih h8
    exact ⟨rfl, by simpa using ⟨ho, h9⟩⟩
theorem Ls.of_sl {β : Type} {f : β → Value} {h1 : ∀ x, (f x).oneCell' = true} {ok : β → Prop} {v : Value} {xs : List β} (h : Sl w v (xs.map f)) (ho : ∀ x ∈ xs, ok x) (hQ : ∀ b, vblock v = some b → xs ≠ [] → Q b) : Ls (tOne f h1 ok) w Q v xs := by
  obtain ⟨a, cap, rfl, h2, h3, h4, h5⟩ := h
  exact ⟨a, cap, xs.map f, by simp, by simpa using h2, h3, h4, fun p hp hx => hQ _ (by subst hp; rfl) hx, h5, els_one ho⟩
theorem Ls.of_by {v : Value} {xs : List UInt8} (h : By w v xs) (hQ : ∀ b, vblock v = some b → xs ≠ [] → Q b) : Ls tB8 w Q v xs := Ls.of_sl h (fun _ _ => trivial) hQ

/-- A slice as one cell. -/
def tSl (T : Dt α) : Dt (List α) where
  n := 1
  pos := Nat.zero_lt_one
  rep w Q cs xs := ∃ v, cs = [v] ∧ Ls T w Q v xs
  len := by rintro _ _ _ _ ⟨v, rfl, _⟩; rfl
  one := by rintro _ _ _ _ ⟨v, rfl, h⟩ u hu; simp at hu; subst hu; exact h.oneCell
  md := fun ⟨v, e, h⟩ m hs => ⟨v, e, h.md m hs⟩
  sub := fun ⟨v, e, h⟩ s => ⟨v, e, h.sub s⟩
/-- A pointer to data that stay. -/
def Pt (T : Dt α) (ty : TypeId) (w : World) (Q : Nat → Prop) (v : Value) (x : α) : Prop := ∃ b c, v = .pointer (some ⟨b, 0, none⟩) ∧ Q b ∧ Blk w b c ty ∧ T.rep w Q c x
theorem Pt.md {ty : TypeId} {S : List Nat} {v : Value} {x : α} (h : Pt T ty w Q v x) (m : Md S w w') (hs : ∀ b ∈ S, ¬ Q b) : Pt T ty w' Q v x := by
  obtain ⟨b, c, h0, h1, h2, h3⟩ := h
  exact ⟨b, c, h0, h1, h2.md m fun hb => hs b hb h1, T.md h3 m hs⟩
theorem Pt.md0 {ty : TypeId} {v : Value} {x : α} (h : Pt T ty w Q v x) (m : Md [] w w') : Pt T ty w' Q v x := h.md m (by simp)
/-- 'v[lo:hi]', elements of sz cells. -/
def subz (sz : Nat) : Value → Nat → Nat → Value
  | .slice a _ cap, lo, hi => .slice (if cap = lo then a else a.map (·.add (lo * sz))) (hi - lo) (cap - lo)
  | _, _, _ => undef
theorem Ls.part {v : Value} {xs : List α} (h : Ls T w Q v xs) (lo hi : Nat) (h1 : lo ≤ hi) (h2 : hi ≤ xs.length) : Ls T w Q (subz T.n v lo hi) ((xs.take hi).drop lo) := by
  obtain ⟨a, cap, cs, rfl, h3, h4, h5, h6, h7, h8⟩ := h
  have hl : ((xs.take hi).drop lo).length = hi - lo := by simp; omega
  have e1 : xs = (xs.take hi).take lo ++ (((xs.take hi).drop lo) ++ xs.drop hi) := by rw [← List.append_assoc, List.take_append_drop, List.take_append_drop]
  rw [e1] at h8
  have h9 := h8.split.2
  have hl2 : ((xs.take hi).take lo).length = lo := by simp; omega
  rw [hl2] at h9
  have h10 := h9.split.1
  rw [hl] at h10
  refine ⟨if cap = lo then a else a.map (·.add (lo * T.n)), cap - lo, _, ?_, ?_, by omega, ?_, ?_, ?_, h10⟩
  · simp only [subz, hl]
  · rw [hl]; omega
  · intro h
    split at h
    · omega
    · cases a with
      | none => have := h5 rfl; omega
      | some p => simp at h
  · intro p hp hx
    have hne : cap ≠ lo := by intro hc; apply hx; apply List.eq_nil_of_length_eq_zero; omega
    rw [if_neg hne] at hp
    cases a with
    | none => simp at hp
    | some q =>
      simp at hp
      subst hp
      rw [Addr.add_block]
      exact h6 q rfl (by rintro rfl; simp at hx)
  · intro p hp j u hu
    have hj := (List.getElem?_eq_some_iff.1 hu).1
    simp only [List.length_take, List.length_drop] at hj
    have hne : cap ≠ lo := by
      intro hc
      have : hi - lo = 0 := by omega
      rw [this] at hj; simp at hj
    rw [if_neg hne] at hp
    cases a with
    | none => simp at hp
    | some q =>
      simp at hp
      subst hp
      rw [Addr.add_add]
      refine h7 q rfl _ u ?_
      rw [List.getElem?_take, if_pos (by omega), List.getElem?_drop] at hu
      exact hu

/-- Cells of an element: from k on behind v's first one. -/
def At (w : World) (v : Value) (k : Nat) (c : List Value) : Prop := ∃ p l cp, v = .slice (some p) l cp ∧ ∀ j u, c[j]? = some u → w.cell? (p.add (k + j)) = some u
theorem Ls.get {v : Value} {xs : List α} {i : Nat} {x : α} (h : Ls T w Q v xs) (hi : xs[i]? = some x) : ∃ c, T.rep w Q c x ∧ At w v (i * T.n) c := by
  obtain ⟨a, cap, cs, rfl, h1, h2, h3, h4, h5, h6⟩ := h
  obtain ⟨c, hc, hj⟩ := h6.get hi
  cases a with
  | none =>
    have := h3 rfl
    have := (List.getElem?_eq_some_iff.1 hi).1
    omega
  | some p => exact ⟨c, hc, p, _, cap, rfl, fun j u hu => h5 p rfl _ u (hj j u hu)⟩
theorem At.md0 {v : Value} {k : Nat} {c : List Value} (h : At w v k c) (m : Md [] w w') : At w' v k c := by
  obtain ⟨p, l, cp, h0, h1⟩ := h
  exact ⟨p, l, cp, h0, fun j u hj => m.cell (h1 j u hj) (by simp)⟩

/-- A row of the run's own, of elements; no datum that is let looks into it. -/
def Ow (T : Dt α) (e : TypeId) (lo : Nat → Prop) (w : World) (Q : Nat → Prop) (v : Value) (xs : List α) : Prop :=
  (∃ cs, Own w e T.n v xs.length cs ∧ Els T w Q cs xs) ∧ ∀ b, vblock v = some b → lo b ∧ ¬ Q b
theorem Ow.nil (T : Dt α) (e : TypeId) (lo : Nat → Prop) (w : World) (Q : Nat → Prop) : Ow T e lo w Q (.slice none 0 0) [] := ⟨⟨[], Own.nil w e _, rfl⟩, by simp [vblock]⟩
theorem Ow.md {e : TypeId} {lo : Nat → Prop} {S : List Nat} {v : Value} {xs : List α} (h : Ow T e lo w Q v xs) (m : Md S w w') (hv : ∀ b, vblock v = some b → b ∉ S) (hs : ∀ b ∈ S, ¬ Q b) : Ow T e lo w' Q v xs := by
  obtain ⟨⟨cs, h1, h2⟩, h3⟩ := h
  exact ⟨⟨cs, h1.md m hv, h2.md m hs⟩, h3⟩
theorem Ow.md0 {e : TypeId} {lo : Nat → Prop} {v : Value} {xs : List α} (h : Ow T e lo w Q v xs) (m : Md [] w w') : Ow T e lo w' Q v xs := h.md m (by simp) (by simp)
theorem Ow.sub {e : TypeId} {lo : Nat → Prop} {v : Value} {xs : List α} (h : Ow T e lo w Q v xs) (s : ∀ b, Q b → b < w.heap.size → Q' b) (t : ∀ b, Q' b → Q b) : Ow T e lo w Q' v xs := by
  obtain ⟨⟨cs, h1, h2⟩, h3⟩ := h
  exact ⟨⟨cs, h1, h2.sub s⟩, fun b hb => ⟨(h3 b hb).1, fun hq => (h3 b hb).2 (t b hq)⟩⟩
theorem own_cells {e : TypeId} {sz m : Nat} {v : Value} {cs : List Value} (h : Own w e sz v m cs) : ∃ a cap, v = .slice a m cap ∧ m ≤ cap ∧ cap ≤ maxLen ∧ (a = none → cap = 0) ∧ ∀ p, a = some p → ∀ j u, cs[j]? = some u → w.cell? (p.add j) = some u := by
  rcases h.2 with ⟨rfl, rfl⟩ | ⟨g, cap, cur, rfl, hb, hg, hn, hc, hs, ht⟩
  · exact ⟨none, 0, rfl, Nat.le_refl _, by simp [maxLen], fun _ => rfl, by simp⟩
  · exact ⟨some ⟨g, 0, none⟩, cap, rfl, hn, hc, by simp, fun p hp j u hu => by cases hp; exact World.ownsRow.cells h (g := g) rfl j u hu⟩
/-- An own row, as data: it lies among what is let then. -/
theorem Ow.ls {e : TypeId} {lo : Nat → Prop} {v : Value} {xs : List α} (h : Ow T e lo w Q v xs) (t : ∀ b, Q b → Q' b) (u : ∀ b, lo b → Q' b) : Ls T w Q' v xs := by
  obtain ⟨⟨cs, h1, h2⟩, h3⟩ := h
  obtain ⟨a, cap, rfl, h4, h5, h6, h7⟩ := own_cells h1
  exact ⟨a, cap, cs, rfl, h4, h5, h6, fun p hp _ => u _ (h3 _ (by subst hp; rfl)).1, h7, h2.sub fun b hb _ => t b hb⟩
theorem Ow.get {e : TypeId} {lo : Nat → Prop} {v : Value} {xs : List α} {i : Nat} {x : α} (h : Ow T e lo w Q v xs) (hi : xs[i]? = some x) : ∃ c, T.rep w Q c x ∧ At w v (i * T.n) c := by
  obtain ⟨⟨cs, h1, h2⟩, _⟩ := h
  obtain ⟨a, cap, rfl, h4, h5, h6, h7⟩ := own_cells h1
  obtain ⟨c, hc, hj⟩ := h2.get hi
  cases a with
  | none =>
    have := h6 rfl
    have := (List.getElem?_eq_some_iff.1 hi).1
    omega
  | some p => exact ⟨c, hc, p, _, cap, rfl, fun j u hu => h7 p rfl _ u (hj j u hu)⟩
/-- An own row, to be read at once. -/
theorem Ow.read {e : TypeId} {lo : Nat → Prop} {v : Value} {xs : List α} (h : Ow T e lo w Q v xs) : Ls T w (fun b => Q b ∨ lo b) v xs := h.ls (fun _ => .inl) (fun _ => .inr)
theorem Ow.shp {e : TypeId} {lo : Nat → Prop} {v : Value} {xs : List α} (h : Ow T e lo w Q v xs) : Shp v xs.length := h.read.shp
theorem Ow.oneCell {e : TypeId} {lo : Nat → Prop} {v : Value} {xs : List α} (h : Ow T e lo w Q v xs) : v.oneCell' = true := h.read.oneCell
end

/-- What is made from now on is let. -/
def Up (w : World) (Q : Nat → Prop) : Prop := ∀ b, w.heap.size ≤ b → Q b
theorem Up.md {S : List Nat} {w w' : World} {Q : Nat → Prop} (u : Up w Q) (m : Md S w w') : Up w' Q := fun b hb => u b (Nat.le_trans m.size hb)
/-- A new block of the run's own: it is let no more. -/
theorem exQ {Q : Nat → Prop} {w w' : World} {b : Nat} (u : Up w Q) (h1 : w.heap.size ≤ b) (h2 : b < w'.heap.size) (m : Md [] w w') :
    ∃ Q' : Nat → Prop, (∀ x, Q x → x < w.heap.size → Q' x) ∧ (∀ x, Q' x → Q x) ∧ ¬ Q' b ∧ Up w' Q' :=
  ⟨fun x => Q x ∧ x ≠ b, fun x hx hl => ⟨hx, by omega⟩, fun x hx => hx.1, fun h => h.2 rfl, fun x hx => ⟨u x (Nat.le_trans m.size hx), by omega⟩⟩
end Go.Wk
namespace Go.Wk
open Go Go.RowKit

def lim : IntKind → Nat
  | .u8 => 256 | .u16 => 65536 | .u32 => 4294967296 | .u64 => 18446744073709551616
  | .i8 => 128 | .i16 => 32768 | .i32 => 2147483648 | .i64 => 9223372036854775808
theorem wrapN (k : IntKind) (x : Nat) (h : x < lim k) : k.wrap (x : Int) = x := by
  cases k <;> simp [IntKind.wrap, IntKind.bits, IntKind.signed, lim] at * <;> omega
theorem RunV.to {P : Program} {w : World} {o : Oper} {e : Operand → Value} {a b : Value} (h : RunV P o e w a) (he : a = b) : RunV P o e w b := he ▸ h

section
variable {P : Program} {n : Nat} {A : Fr n} {D : List Deferred} {l : List (Nat × Value)} {w : World}
variable {d : Option Tmp} {ty : TypeId} {ps : String} {af : Array Edge} {g : Option (Nat × Bool)}
variable {x y : Operand} {t u : TypeId} {k j : IntKind} {a b : Nat}

theorem r_addN (L : Nat) (hL : lim k = L) (hx : ev n l x = some (.int k (a : Int))) (hy : ev n l y = some (.int k (b : Int))) (h : a + b < L) :
    RunV P ⟨d, .binOp .add t x y u, ty, ps, af, g⟩ (over A D l).eval w (.int k ((a + b : Nat) : Int)) :=
  (r_add hx hy).castI (by rw [← wrapN k (a + b) (hL ▸ h)]; rfl)
theorem r_subN (L : Nat) (hL : lim k = L) (hx : ev n l x = some (.int k (a : Int))) (hy : ev n l y = some (.int k (b : Int))) (h : b ≤ a ∧ a < L) :
    RunV P ⟨d, .binOp .sub t x y u, ty, ps, af, g⟩ (over A D l).eval w (.int k ((a - b : Nat) : Int)) :=
  (r_sub hx hy).castI (by rw [← wrapN k (a - b) (by omega)]; congr 1; omega)
theorem r_eqN (hx : ev n l x = some (.int k (a : Int))) (hy : ev n l y = some (.int k (b : Int))) : RunV P ⟨d, .binOp .eql t x y u, ty, ps, af, g⟩ (over A D l).eval w (.bool (decide (a = b))) :=
  (r_eq hx hy).castB (decide_eq_decide.2 (by omega))
theorem r_neN (hx : ev n l x = some (.int k (a : Int))) (hy : ev n l y = some (.int k (b : Int))) : RunV P ⟨d, .binOp .neq t x y u, ty, ps, af, g⟩ (over A D l).eval w (.bool (decide (a ≠ b))) :=
  (r_ne hx hy).castB (decide_eq_decide.2 (by omega))
theorem r_ltN (hx : ev n l x = some (.int k (a : Int))) (hy : ev n l y = some (.int k (b : Int))) : RunV P ⟨d, .binOp .lss t x y u, ty, ps, af, g⟩ (over A D l).eval w (.bool (decide (a < b))) :=
  (r_lt hx hy).castB (decide_eq_decide.2 (by omega))
theorem r_gtN (hx : ev n l x = some (.int k (a : Int))) (hy : ev n l y = some (.int k (b : Int))) : RunV P ⟨d, .binOp .gtr t x y u, ty, ps, af, g⟩ (over A D l).eval w (.bool (decide (b < a))) :=
  (r_gt hx hy).castB (decide_eq_decide.2 (by omega))
theorem r_geN (hx : ev n l x = some (.int k (a : Int))) (hy : ev n l y = some (.int k (b : Int))) : RunV P ⟨d, .binOp .geq t x y u, ty, ps, af, g⟩ (over A D l).eval w (.bool (decide (b ≤ a))) :=
  (r_ge hx hy).castB (decide_eq_decide.2 (by omega))
theorem r_convN {s : TypeId} (L : Nat) (hL : lim k = L) (hs : (P.underlying s).isSome = true) (ht : P.underlying t = some (.int k)) (hx : ev n l x = some (.int j (a : Int))) (h : a < L) :
    RunV P ⟨d, .convert s t x, ty, ps, af, g⟩ (over A D l).eval w (.int k (a : Int)) := (r_conv hs ht hx).castI (wrapN k a (hL ▸ h))
theorem r_shrN (s : Nat) (hS : k.bits = s) (hx : ev n l x = some (.int k (a : Int))) (hy : ev n l y = some (.int j (b : Int))) (h : b ≤ s) :
    RunV P ⟨d, .binOp .shr t x y u, ty, ps, af, g⟩ (over A D l).eval w (.int k ((a / 2 ^ b : Nat) : Int)) :=
  (r_shr hx hy (by omega)).castI (by
    unfold shrv
    rw [hS, Int.toNat_natCast, Nat.min_eq_left h]
    simp)

/-! data -/
variable {α : Type} {T : Dt α} {Q : Nat → Prop} {v : Value} {xs : List α}
theorem r_indexN {e : TypeId} {m i : Nat} (sz : Nat) (hx : ev n l x = some v) (hy : ev n l y = some (.int k (i : Int))) (hT : P.underlying t = some (.slice e)) (hE : elemIs P e sz = true) (hS : Shp v m) (hi : i < m) :
    RunV P ⟨d, .indexAddr t x y, ty, ps, af, g⟩ (over A D l).eval w (elemp v (i * sz)) := by
  have := r_indexZ (P := P) (A := A) (D := D) (w := w) (d := d) (ty := ty) (ps := ps) (af := af) (g := g) sz hx hy hT hE hS (by omega)
  simpa using this
theorem elemp_at {kk : Nat} {c : List Value} (h : At w v kk c) : ∃ p : Addr, (∀ m, elemp v m = .pointer (some (p.add m))) ∧ ∀ j u, c[j]? = some u → w.cell? (p.add (kk + j)) = some u := by
  obtain ⟨p, l, cp, rfl, h1⟩ := h
  exact ⟨p, fun _ => rfl, h1⟩
theorem r_fieldE {s : TypeId} {f m off kk : Nat} {c : List Value} (hx : ev n l x = some (elemp v m)) (hA : At w v kk c) (hf : fieldOff P s f = some off) :
    RunV P ⟨d, .fieldAddr s x f, ty, ps, af, g⟩ (over A D l).eval w (elemp v (m + off)) := by
  obtain ⟨p, hp, _⟩ := elemp_at hA
  rw [hp] at hx ⊢
  unfold fieldOff at hf
  split at hf
  · rename_i fs hfs
    split at hf
    · rename_i fd hfd
      split at hf
      · rename_i inf hinf
        split at hf
        · cases hf
        · rename_i hz
          simp only [Option.some.injEq] at hf
          subst hf
          simp [RunV, execOp, ev_eval hx, Instr.fieldAt, Instr.sureAddr, run_underlying hfs, hfd, fieldPlace, run_sizeOf hinf, hz, Addr.add_add]
      · cases hf
    · cases hf
  · cases hf
theorem r_loadE {m kk : Nat} {c : List Value} {r : Value} (j : Nat) (hx : ev n l x = some (elemp v m)) (hm : m = kk + j) (hT : isOne P t = true) (hA : At w v kk c) (hj : c[j]? = some r) :
    RunV P ⟨d, .load t x, ty, ps, af, g⟩ (over A D l).eval w r := by
  obtain ⟨p, hp, h1⟩ := elemp_at hA
  rw [hp] at hx
  exact r_load hx hT (by rw [hm]; exact h1 j r hj)
theorem r_loadEA {m kk : Nat} {c : List Value} (cs : List Value) (o : Nat) (hx : ev n l x = some (elemp v m)) (hm : m = kk + o) (hT : isAggN P t cs.length = true) (hA : At w v kk c) (hc : (c.drop o).take cs.length = cs) :
    RunV P ⟨d, .load t x, ty, ps, af, g⟩ (over A D l).eval w (.agg cs.toArray) := by
  obtain ⟨p, hp, h1⟩ := elemp_at hA
  rw [hp] at hx
  refine r_loadAgg hx hT rfl fun j r hj => ?_
  have hl := (List.getElem?_eq_some_iff.1 hj).1
  rw [Addr.add_add, hm, Nat.add_assoc]
  refine h1 _ r ?_
  rw [← hc, List.getElem?_take, if_pos hl, List.getElem?_drop] at hj
  exact hj
/-- A part of a block, read. -/
theorem r_loadPart {ty' : TypeId} {b' o : Nat} {c : List Value} (cs : List Value) (hx : ev n l x = some (.pointer (some ⟨b', o, none⟩))) (hT : isAggN P t cs.length = true) (hB : Blk w b' c ty') (hc : (c.drop o).take cs.length = cs) :
    RunV P ⟨d, .load t x, ty, ps, af, g⟩ (over A D l).eval w (.agg cs.toArray) := by
  refine r_loadAgg hx hT rfl fun j r hj => ?_
  have hl := (List.getElem?_eq_some_iff.1 hj).1
  rw [Addr.add_mk, hB.cell]
  rw [← hc, List.getElem?_take, if_pos hl, List.getElem?_drop] at hj
  exact hj
theorem r_sliceZ {lo hi : Option Operand} {m e : Nat} (sz L H : Nat) (hT : P.underlying t = some (.slice e)) (hE : elemIs P e sz = true) (hx : ev n l x = some v)
    (hS : Shp v m) (h1 : L ≤ H) (h2 : H ≤ m)
    (hlo : match lo with | none => L = 0 | some y => ∃ k, ev n l y = some (.int k (L : Int))) (hhi : match hi with | none => H = m | some y => ∃ k, ev n l y = some (.int k (H : Int))) :
    RunV P ⟨d, .slice t x lo hi none, ty, ps, af, g⟩ (over A D l).eval w (subz sz v L H) := by
  obtain ⟨a, cap, rfl, h3, h4, h5⟩ := hS
  unfold elemIs at hE
  split at hE
  · rename_i inf hinf
    have hsz : inf.size = sz := by simpa using hE
    have hc : H ≤ cap := by omega
    cases lo with
    | none =>
      simp only at hlo; subst hlo
      cases hi with
      | none =>
        simp only at hhi; subst hhi
        simp [RunV, execOp, ev_eval hx, Instr.sliceAt, Instr.slice, Instr.sliceBounds, run_underlying hT, run_sizeOf hinf, subz, hsz]
      | some y =>
        simp only at hhi; obtain ⟨k, hk⟩ := hhi
        simp [RunV, execOp, ev_eval hx, ev_eval hk, Instr.sliceAt, Instr.slice, Instr.sliceBounds, Instr.sliceBound, asIntOf, run_underlying hT, run_sizeOf hinf, subz, hsz, hc]
    | some z =>
      simp only at hlo; obtain ⟨j, hj⟩ := hlo
      cases hi with
      | none =>
        simp only at hhi; subst hhi
        simp [RunV, execOp, ev_eval hx, ev_eval hj, Instr.sliceAt, Instr.slice, Instr.sliceBounds, Instr.sliceBound, asIntOf, run_underlying hT, run_sizeOf hinf, subz, hsz, h1]
      | some y =>
        simp only at hhi; obtain ⟨k, hk⟩ := hhi
        simp [RunV, execOp, ev_eval hx, ev_eval hj, ev_eval hk, Instr.sliceAt, Instr.slice, Instr.sliceBounds, Instr.sliceBound, asIntOf, run_underlying hT, run_sizeOf hinf, subz, hsz, h1, hc]
  · cases hE
end
end Go.Wk
namespace Go.Wk
open Go Go.RowKit

theorem fold_splice : ∀ (us : List Value) (k o : Nat) (cs : List Value), o + k + us.length ≤ cs.length →
    (us.zipIdx k).foldl (fun (cs : Array Value) (x : Value × Nat) => cs.setIfInBounds (o + x.2) x.1) cs.toArray = (splice cs (o + k) us).toArray
  | [], k, o, cs, _ => by simp [splice]
  | u :: us, k, o, cs, h => by
    simp only [List.length_cons] at h
    rw [List.zipIdx_cons, List.foldl_cons]
    simp only [List.setIfInBounds_toArray]
    rw [fold_splice us (k + 1) o (cs.set (o + k) u) (by simp; omega)]
    congr 1
    unfold splice
    have h1 : (cs.set (o + k) u).take (o + (k + 1)) = cs.take (o + k) ++ [u] := by
      rw [show o + (k + 1) = (o + k) + 1 by omega, List.take_add_one]
      simp [show o + k < cs.length by omega, List.take_set_of_le]
    have h2 : (cs.set (o + k) u).drop (o + (k + 1) + us.length) = cs.drop (o + k + (us.length + 1)) := by
      rw [List.drop_set_of_lt (by omega)]
      congr 1; omega
    rw [h1, h2]
    simp
theorem fold_cells {v : Value} {us : List Value} (hv : v.cells = us.toArray) (o : Nat) (cs : List Value) (h : o + us.length ≤ cs.length) :
    v.cells.zipIdx.foldl (fun (cs : Array Value) (x : Value × Nat) => cs.setIfInBounds (o + x.2) x.1) cs.toArray = (splice cs o us).toArray := by
  have := fold_splice us 0 o cs (by omega)
  rw [hv]
  simpa [← Array.foldl_toList] using this

def CellsAre : List Value → List (List Value) → Prop
  | [], [] => True
  | v :: vs, u :: us => v.cells = u.toArray ∧ CellsAre vs us
  | _, _ => False
def splices (cs : List Value) : List (Nat × Nat × Nat) → List (List Value) → List Value
  | (_, o, _) :: ps, u :: us => splices (splice cs o u) ps us
  | _, _ => cs
def szOk : List (Nat × Nat × Nat) → List (List Value) → Prop
  | [], [] => True
  | (_, _, s) :: ps, u :: us => u.length = s ∧ szOk ps us
  | _, _ => False
theorem splice_len {cs us : List Value} {o : Nat} (h : o + us.length ≤ cs.length) : (splice cs o us).length = cs.length := by simp [splice]; omega
theorem fill_gen {place : Nat → Option (Nat × Nat)} : ∀ (ps : List (Nat × Nat × Nat)) (vs : List Value) (us : List (List Value)) (cs : List Value), CellsAre vs us → szOk ps us → (∀ p ∈ ps, place p.1 = some (p.2.1, p.2.2) ∧ p.2.1 + p.2.2 ≤ cs.length) →
    Instr.fill place cs.toArray ((ps.map (·.1)).zip vs) = some (splices cs ps us).toArray
  | [], [], [], cs, _, _, _ => by simp [Instr.fill, splices]
  | [], [], _ :: _, _, h, _, _ => by simp [CellsAre] at h
  | [], _ :: _, [], _, h, _, _ => by simp [CellsAre] at h
  | [], _ :: _, _ :: _, _, _, h, _ => by simp [szOk] at h
  | _ :: _, _, [], _, _, h, _ => by simp [szOk] at h
  | _ :: _, [], _ :: _, _, h, _, _ => by simp [CellsAre] at h
  | (i, o, s) :: ps, v :: vs, u :: us, cs, ⟨h1, h2⟩, ⟨h3, h4⟩, hp => by
    obtain ⟨h5, h6⟩ := hp (i, o, s) (by simp)
    simp only at h5 h6
    have hs : v.cells.size = s := by rw [h1]; simpa using h3
    have hl : o + u.length ≤ cs.length := by omega
    have ih := fill_gen (place := place) ps vs us (splice cs o u) h2 h4 (fun p hp' => by rw [splice_len hl]; exact hp p (by simp [hp']))
    simp only [List.map_cons, List.zip_cons_cons, Instr.fill, h5]
    rw [if_neg (by simp [hs]; omega), fold_cells h1 o cs hl]
    simpa [splices] using ih
def plOk (pl : List (Nat × Nat)) (m : Nat) : List (Nat × Nat × Nat) → Bool
  | [] => true
  | (i, o, s) :: r => (match pl[i]? with
    | some (o', s') => Nat.beq o' o && Nat.beq s' s && Nat.ble (o + s) m
    | none => false) && plOk pl m r
theorem plOk_spec {pl : List (Nat × Nat)} {m : Nat} : ∀ {ps : List (Nat × Nat × Nat)}, plOk pl m ps = true → ∀ p ∈ ps, pl[p.1]? = some (p.2.1, p.2.2) ∧ p.2.1 + p.2.2 ≤ m
  | [], _, p, hp => by cases hp
  | (i, o, s) :: r, h, p, hp => by
    simp only [plOk, Bool.and_eq_true] at h
    rcases List.mem_cons.1 hp with rfl | hp'
    · cases hq : pl[i]? with
      | none => rw [hq] at h; simp at h
      | some q =>
        obtain ⟨o', s'⟩ := q
        rw [hq] at h
        simp only [Bool.and_eq_true] at h
        obtain ⟨⟨⟨h1, h2⟩, h3⟩, _⟩ := h
        have e1 := Nat.eq_of_beq_eq_true h1
        have e2 := Nat.eq_of_beq_eq_true h2
        subst e1; subst e2
        exact ⟨rfl, Nat.le_of_ble_eq_true h3⟩
    · exact plOk_spec h.2 p hp'

section
variable {P : Program} {ops : Array Oper} {Q : Exit → Act → World → Prop} {rest : List Oper}
variable {n : Nat} {A : Fr n} {D : List Deferred} {l : List (Nat × Value)} {w : World}
variable {d : Tmp} {op : Op} {ty : TypeId} {ps : String} {af : Array Edge} {g : Option (Nat × Bool)}

theorem built_gen {t : TypeId} {zs vs : List Value} {us : List (List Value)} {pl : List (Nat × Nat)} {ps : List (Nat × Nat × Nat)} (hz : zcells P t = some zs) (hpl : bplace P t = some pl) (hc : CellsAre vs us) (hs : szOk ps us) (hps : plOk pl zs.length ps = true) :
    P.built t ((ps.map (·.1)).zip vs) = some (splices zs ps us).toArray := by
  have hp := plOk_spec hps
  unfold zcells at hz
  cases hi : P.info? t with
  | none => simp [hi] at hz
  | some it =>
    cases hzz : it.zero with
    | none => simp [hi, hzz] at hz
    | some z =>
      simp only [hi, hzz, Option.some.injEq] at hz
      have hzc : z.cells = zs.toArray := by rw [← hz]
      unfold bplace at hpl
      unfold Program.built
      cases hu : P.underlying t with
      | none => simp [hu] at hpl
      | some d =>
        cases d <;> try (simp [hu] at hpl; done)
        case array m e =>
          cases hie : P.info? e with
          | none => simp [hu, hie] at hpl
          | some ie =>
            simp only [hu, hie, Option.some.injEq] at hpl
            simp only [hi, hzz, hie, hzc]
            refine fill_gen ps vs us zs hc hs (fun p hp' => ?_)
            obtain ⟨h2, h3⟩ := hp p hp'
            rw [← hpl, List.getElem?_map] at h2
            have hr : (List.range m)[p.1]? = some p.1 := by
              cases hq : (List.range m)[p.1]? with
              | none => rw [hq] at h2; simp at h2
              | some q => have := List.getElem?_eq_some_iff.1 hq; obtain ⟨ha, hb⟩ := this; simp at hb; rw [← hb]
            rw [hr] at h2
            simp only [Option.map_some, Option.some.injEq, Prod.mk.injEq] at h2
            exact ⟨by rw [h2.1, h2.2], h3⟩
        case struct fields =>
          simp only [hu] at hpl
          simp only [hi, hzz, hpl, hzc]
          refine fill_gen ps vs us zs hc hs (fun p hp' => ?_)
          obtain ⟨h2, h3⟩ := hp p hp'
          exact ⟨by simpa using h2, h3⟩
/-- A struct or an array, of parts of any number of cells. -/
theorem r_buildG {t : TypeId} {parts : List (Nat × Operand)} {zs vs cs : List Value} {us : List (List Value)} {pl : List (Nat × Nat)} (ps : List (Nat × Nat × Nat)) {d' : Option Tmp} {ps' : String} (hz : zcells P t = some zs) (hpl : bplace P t = some pl) (hpp : parts.map (·.1) = ps.map (·.1)) (hev : evs n l (parts.map (·.2)) = some vs)
    (hc : CellsAre vs us) (hs : szOk ps us) (hps : plOk pl zs.length ps = true) (hcs : splices zs ps us = cs) :
    RunV P ⟨d', .build t parts.toArray, ty, ps', af, g⟩ (over A D l).eval w (.agg cs.toArray) := by
  have he := evs_eval (A := A) (D := D) hev
  have hzip : parts.map (fun p => (p.1, (over A D l).eval p.2)) = (ps.map (·.1)).zip vs := by
    rw [← hpp, ← he, List.map_map, List.zip_map']
    rfl
  have hb := built_gen hz hpl hc hs hps
  rw [← hzip] at hb
  have hr := run_build (P := P) w t (parts.map (fun p => (p.1, (over A D l).eval p.2))).toArray _ (by simpa using hb)
  subst hcs
  simp only [RunV, execOp, List.map_toArray]
  show Sem.run P (do pure (Next.value (← Instr.build t (parts.map fun x => (x.1, (over A D l).eval x.2)).toArray))) w = _
  simp [hr]

def rowAt (sz : Nat) : Nat → Nat → List (Nat × Nat × Nat)
  | _, 0 => []
  | i, k + 1 => (i, i * sz, sz) :: rowAt sz (i + 1) k
def AllLen (sz : Nat) : List (List Value) → Prop
  | [] => True
  | u :: us => u.length = sz ∧ AllLen sz us
theorem rowAt_sz {sz : Nat} : ∀ (us : List (List Value)) (i : Nat), AllLen sz us → szOk (rowAt sz i us.length) us
  | [], _, _ => trivial
  | _ :: us, i, h => ⟨h.1, rowAt_sz us (i + 1) h.2⟩
theorem mem_rowAt {sz : Nat} {p : Nat × Nat × Nat} : ∀ {i k : Nat}, p ∈ rowAt sz i k → p.2.1 = p.1 * sz ∧ p.2.2 = sz ∧ p.1 < i + k
  | _, 0, h => by cases h
  | i, k + 1, h => by
    rcases List.mem_cons.1 h with rfl | h
    · exact ⟨rfl, rfl, by simp⟩
    · have := mem_rowAt h; omega
theorem splices_row {sz : Nat} : ∀ (us : List (List Value)) (i : Nat) (pre cs : List Value), AllLen sz us → pre.length = i * sz → cs.length = us.length * sz → splices (pre ++ cs) (rowAt sz i us.length) us = pre ++ us.flatten
  | [], i, pre, cs, _, _, h => by
    have : cs = [] := List.eq_nil_of_length_eq_zero (by simpa using h)
    subst this; simp [rowAt, splices]
  | u :: us, i, pre, cs, h, hp, hc => by
    simp only [List.length_cons, rowAt, splices]
    have hc' : cs.length = sz + us.length * sz := by simpa [Nat.succ_mul, Nat.add_comm] using hc
    have e : splice (pre ++ cs) (i * sz) u = (pre ++ u) ++ cs.drop sz := by
      simp only [splice, ← hp, h.1]
      rw [List.take_left, List.drop_append, List.drop_of_length_le (Nat.le_add_right _ _), Nat.add_sub_cancel_left]
      simp
    rw [e, splices_row us (i + 1) (pre ++ u) (cs.drop sz) h.2 (by simp [hp, h.1, Nat.succ_mul]) (by simp; omega)]
    simp
/-- []T{x, y, ..}, all given. -/
theorem st_buildSliceG {t e : TypeId} {m sz by' : Nat} {parts : List (Nat × Operand)} {vs : List Value} (us : List (List Value)) (ht : P.underlying t = some (.slice e)) (hE : elT P e sz by' = true) (hsz : 0 < sz) (hm : m * sz ≤ 16777216) (hpp : parts.map (·.1) = (rowAt sz 0 m).map (·.1)) (hev : evs n l (parts.map (·.2)) = some vs)
    (hc : CellsAre vs us) (hl : AllLen sz us) (hlen : us.length = m) (h0 : m ≠ 0)
    (k : ∀ b w', w.heap.size ≤ b → b < w'.heap.size → Md [] w w' → Blk w' b us.flatten e → wpList P ops Q rest (over A D ((d, .slice (some ⟨b, 0, none⟩) m m) :: l)) w') :
    wpList P ops Q (⟨some d, .buildSlice t m parts.toArray, ty, ps, af, none⟩ :: rest) (over A D l) w := by
  refine wl_plain rfl ?_
  obtain ⟨i, z, hi, hz, hs, hb, hzs⟩ := elT_spec hE
  have he := evs_eval (A := A) (D := D) hev
  have hzip : parts.map (fun p => (p.1, (over A D l).eval p.2)) = ((rowAt sz 0 m).map (·.1)).zip vs := by
    rw [← hpp, ← he, List.map_map, List.zip_map']
    rfl
  have hfill : ∀ cs : List Value, cs.length = m * sz → Instr.fill (fun i => some (i * sz, sz)) cs.toArray (((rowAt sz 0 m).map (·.1)).zip vs) = some us.flatten.toArray := by
    intro cs hcs
    have := fill_gen (place := fun i => some (i * sz, sz)) (rowAt sz 0 m) vs us cs hc (by rw [← hlen]; exact rowAt_sz us 0 hl) (fun p hp => by
      have h := mem_rowAt hp
      refine ⟨by rw [h.1, h.2.1], ?_⟩
      rw [h.1, h.2.1, hcs, ← Nat.succ_mul]
      exact Nat.mul_le_mul_right _ (by omega))
    have h2 := splices_row us 0 [] cs hl (by simp) (by rw [hcs, hlen])
    simp only [List.nil_append] at h2
    rw [hlen] at h2
    rw [this, h2]
  have hne : ¬ (m * sz = 0) := Nat.mul_ne_zero h0 (by omega)
  have hrun : (execOp (over A D l).eval ⟨some d, .buildSlice t m parts.toArray, ty, ps, af, none⟩).run P w = .ok (.value (.slice (some ⟨w.heap.size, 0, none⟩) m m)) (w.alloc (.cells us.flatten.toArray e)) := by
    show Sem.run P (do pure (Next.value (← Instr.buildSlice t m ((parts.toArray).map fun x => (x.1, (over A D l).eval x.2))))) w = _
    rw [List.map_toArray, hzip]
    have hl2 : ((List.range (m * sz)).map fun x => (z.cells)[x % z.cells.size]!).length = m * sz := by simp
    have := hfill _ hl2
    simp only [Instr.buildSlice, Sem.run_bind, run_underlying ht, Result.andThen_ok, run_sizeOf hi, hs]
    have e2 : Array.map (fun x => z.cells[x % z.cells.size]!) (Array.range (m * sz)) = ((List.range (m * sz)).map fun x => (z.cells)[x % z.cells.size]!).toArray := by
      apply Array.ext'
      simp
    simp only [show ¬ (m * sz > 2 ^ 24) from by omega, if_neg hne, if_false]
    simp [zeroValue, typeInfo, hi, hz, newRow]
    rw [e2, this]
    simp
  unfold Oper.wp
  rw [hrun]
  exact k _ _ (Nat.le_refl _) (by simp) (Md.alloc w _) (Blk.new w us.flatten e)
/-! rows of the run's own -/
theorem Own.blk {e : TypeId} {sz m : Nat} {v : Value} {cs : List Value} (h : Own w e sz v m cs) (h0 : 0 < m) : ∃ b cap cur, v = .slice (some ⟨b, 0, none⟩) m cap ∧ Blk w b cur e ∧ m ≤ cap ∧ cap ≤ maxLen ∧ cur.length = cap * sz ∧ cur.take (m * sz) = cs := by
  rcases h.2 with ⟨rfl, rfl⟩ | ⟨g, cap, cur, rfl, hb, hg, hn, hc, hs, ht⟩
  · omega
  · exact ⟨g, cap, cur.toList, rfl, hg, hn, hc, by simpa using hs, ht⟩
theorem Own.of_blk {e : TypeId} {sz m b cap : Nat} {cur : List Value} (hB : Blk w b cur e) (h1 : m ≤ cap) (h2 : cap ≤ maxLen) (h3 : cur.length = cap * sz) : Own w e sz (.slice (some ⟨b, 0, none⟩) m cap) m (cur.take (m * sz)) := by
  refine ⟨by rw [List.length_take, h3]; exact Nat.min_eq_left (Nat.mul_le_mul_right _ h1), .inr ⟨b, cap, cur.toArray, rfl, Nat.zero_le _, hB, h1, h2, by simpa using h3, by simp⟩⟩
variable {α : Type} {T : Dt α} {R R' : Nat → Prop}
/-- What can be read of a row: its block may be one that is written. -/
def Lz (T : Dt α) (w : World) (Q : Nat → Prop) (v : Value) (xs : List α) : Prop :=
  ∃ a cap cs, v = .slice a xs.length cap ∧ xs.length ≤ cap ∧ cap ≤ maxLen ∧ (a = none → cap = 0) ∧ (∀ p, a = some p → ∀ j u, cs[j]? = some u → w.cell? (p.add j) = some u) ∧ Els T w Q cs xs
theorem Ls.lz {v : Value} {xs : List α} (h : Ls T w R v xs) : Lz T w R v xs := by
  obtain ⟨a, cap, cs, h0, h1, h2, h3, h4, h5, h6⟩ := h
  exact ⟨a, cap, cs, h0, h1, h2, h3, h5, h6⟩
/-- append(x, y...): x the run's own. -/
theorem st_apZ {x y : Operand} {t e : TypeId} {sz by' : Nat} {lo : Nat → Prop} {v u : Value} {xs ys : List α} (hn : T.n = sz) (ht : P.underlying t = some (.slice e)) (hE : elT P e sz by' = true) (hx : ev n l x = some v) (hy : ev n l y = some u)
    (hO : Ow T e lo w R v xs) (hY : Lz T w R u ys) (uR : Up w R) (hlo : ∀ b, w.heap.size ≤ b → lo b) (h63 : xs.length + ys.length ≤ 9223372036854775807) (hbytes : (xs.length + ys.length) * by' ≤ 140737488355328)
    (k : ∀ v' w' R'', (∀ b, R b → b < w.heap.size → R'' b) → (∀ b, R'' b → R b) → Up w' R'' → Ow T e lo w' R'' v' (xs ++ ys) → Md (vblock v).toList w w' → (∀ b ∈ (vblock v).toList, ¬ R'' b) → (∀ b, vblock v = some b → b < w.heap.size) →
      (∀ b, vblock v' = some b → vblock v = some b ∨ w.heap.size ≤ b) → wpList P ops Q rest (over A D ((d, v') :: l)) w') :
    wpList P ops Q (⟨some d, .call { callee := .builtin .append, args := #[x, y], argTypes := #[t, t] }, ty, ps, af, none⟩ :: rest) (over A D l) w := by
  subst hn
  refine wl_plain rfl ?_
  obtain ⟨a, cap, cy, rfl, h3, h4, h5, h7, h8⟩ := hY
  have hO' := hO
  obtain ⟨⟨cx, h9, h10⟩, h11⟩ := hO'
  obtain ⟨v', w', hr, g1, g2, g3, g4⟩ := run_append_ex (P := P) (w := w) (ty' := ty) ht hE T.pos h9 (a := a) (k := ys.length) (c := cap) (news := cy) h8.len (fun h => ⟨by have := h5 h; omega, h5 h⟩) h7 h8.one (by simpa [maxLen] using h63) hbytes
  have hrun : (execOp (over A D l).eval ⟨some d, .call { callee := .builtin .append, args := #[x, y], argTypes := #[t, t] }, ty, ps, af, none⟩).run P w = .ok (.value v') w' := by
    simp [execOp, resolve, invoke, builtin, ev_eval hx, ev_eval hy, hr]
  unfold Oper.wp
  rw [hrun]
  have hs : ∀ b, R b → b < w.heap.size → (R b ∧ vblock v' ≠ some b) := fun b hb hl => ⟨hb, fun hv => by
    rcases g4 b hv with h | h
    · exact (h11 b h).2 hb
    · omega⟩
  have hn : ∀ b ∈ (vblock v).toList, ¬ (R b ∧ vblock v' ≠ some b) := fun b hb hh => by
    cases hv : vblock v with
    | none => rw [hv] at hb; simp at hb
    | some c => rw [hv] at hb; simp at hb; subst hb; exact (h11 _ hv).2 hh.1
  have g1' : Own w' e T.n v' (xs ++ ys).length (cx ++ cy) := by simpa using g1
  refine k v' w' (fun b => R b ∧ vblock v' ≠ some b) hs (fun b hb => hb.1) (fun b hb => ⟨uR b (Nat.le_trans g2.size hb), fun hv => by have := g1'.lt b hv; omega⟩) ⟨⟨cx ++ cy, g1', ?_⟩, fun b hb => ⟨?_, fun hh => hh.2 hb⟩⟩ g2 hn h9.lt g4
  · exact ((h10.sub hs).md g2 hn).append ((h8.sub hs).md g2 hn)
  · rcases g4 b hb with h | h
    · exact (h11 b h).1
    · exact hlo b h
theorem st_ap {x y : Operand} {t e : TypeId} {sz by' : Nat} {lo : Nat → Prop} {v u : Value} {xs ys : List α} (hn : T.n = sz) (ht : P.underlying t = some (.slice e)) (hE : elT P e sz by' = true) (hx : ev n l x = some v) (hy : ev n l y = some u)
    (hO : Ow T e lo w R v xs) (hY : Ls T w R' u ys) (hR : ∀ b, R' b → b < w.heap.size → R b) (uR : Up w R) (hlo : ∀ b, w.heap.size ≤ b → lo b) (h63 : xs.length + ys.length ≤ 9223372036854775807) (hbytes : (xs.length + ys.length) * by' ≤ 140737488355328)
    (k : ∀ v' w' R'', (∀ b, R b → b < w.heap.size → R'' b) → (∀ b, R'' b → R b) → Up w' R'' → Ow T e lo w' R'' v' (xs ++ ys) → Md (vblock v).toList w w' → (∀ b ∈ (vblock v).toList, ¬ R'' b) → (∀ b, vblock v = some b → b < w.heap.size) →
      (∀ b, vblock v' = some b → vblock v = some b ∨ w.heap.size ≤ b) → wpList P ops Q rest (over A D ((d, v') :: l)) w') :
    wpList P ops Q (⟨some d, .call { callee := .builtin .append, args := #[x, y], argTypes := #[t, t] }, ty, ps, af, none⟩ :: rest) (over A D l) w :=
  st_apZ hn ht hE hx hy hO (hY.sub hR).lz uR hlo h63 hbytes k
theorem Ls.of_blk {e : TypeId} {b m : Nat} {cs : List Value} {xs : List α} (hB : Blk w b cs e) (hE : Els T w R cs xs) (hm : xs.length = m) (h2 : m ≤ maxLen) (hR : R b) : Ls T w R (.slice (some ⟨b, 0, none⟩) m m) xs := by
  subst hm
  exact ⟨_, _, cs, rfl, Nat.le_refl _, h2, by simp, fun p hp _ => by cases hp; exact hR, fun p hp j u hj => by cases hp; rw [Addr.add_mk, Nat.zero_add, hB.cell]; exact hj, hE⟩
/-- A built slice goes on as the run's own. -/
theorem Ow.of_blk {e : TypeId} {lo : Nat → Prop} {b m : Nat} {cs : List Value} {xs : List α} (hB : Blk w b cs e) (hE : Els T w R cs xs) (hm : xs.length = m) (h2 : m ≤ maxLen) (hlo : lo b) (hR : ¬ R b) : Ow T e lo w R (.slice (some ⟨b, 0, none⟩) m m) xs := by
  subst hm
  have hl := hE.len
  have := Own.of_blk (sz := T.n) (m := xs.length) hB (Nat.le_refl _) h2 hl
  rw [← hl, List.take_length] at this
  exact ⟨⟨cs, this, hE⟩, fun b' hb => by simp [vblock] at hb; subst hb; exact ⟨hlo, hR⟩⟩
/-- []T{} -/
theorem st_build0 {t e : TypeId} {sz by' : Nat} (ht : P.underlying t = some (.slice e)) (hE : elT P e sz by' = true)
    (k : ∀ b w', w.heap.size ≤ b → b < w'.heap.size → Md [] w w' → Blk w' b [] e → wpList P ops Q rest (over A D ((d, .slice (some ⟨b, 0, none⟩) 0 0) :: l)) w') :
    wpList P ops Q (⟨some d, .buildSlice t 0 #[], ty, ps, af, none⟩ :: rest) (over A D l) w := by
  refine wl_plain rfl ?_
  obtain ⟨i, z, hi, hz, hs, hb, hzs⟩ := elT_spec hE
  have hrun : (execOp (over A D l).eval ⟨some d, .buildSlice t 0 #[], ty, ps, af, none⟩).run P w = .ok (.value (.slice (some ⟨w.heap.size, 0, none⟩) 0 0)) (w.alloc (.cells ([] : List Value).toArray e)) := by
    show Sem.run P (do pure (Next.value (← Instr.buildSlice t 0 ((#[] : Array (Nat × Operand)).map fun x => (x.1, (over A D l).eval x.2))))) w = _
    have e0 : (Array.map (fun x => (default : Value)) (Array.range 0)) = #[] := by simp [Array.range]
    simp [Instr.buildSlice, run_underlying ht, run_sizeOf hi, Instr.fill, newRow, e0]
  unfold Oper.wp
  rw [hrun]
  exact k _ _ (Nat.le_refl _) (by simp) (Md.alloc w _) (Blk.new w [] e)
end
end Go.Wk
namespace Go.Wk
open Go Go.RowKit
section
variable {P : Program} {Q : Exit → Act → World → Prop} {n : Nat} {A : Fr n} {D : List Deferred} {l : List (Nat × Value)} {w : World}

def Next1 {X0 : Type} (n : Nat) (D : List Deferred) (inv : X0 → List (Nat × Value)) (W : X0 → World → Prop) (mu : X0 → Nat) (m : Nat) (a : Act) (w : World) : Prop :=
  ∃ y0 : X0, ∃ B : Fr n, a = over B D (inv y0) ∧ W y0 w ∧ mu y0 < m
theorem loop1 {X0 : Type} {c : Code} (inv : X0 → List (Nat × Value)) (W : X0 → World → Prop) (mu : X0 → Nat) (x0 : X0) (h0 : Fits n l (inv x0)) (hw : W x0 w)
    (round : ∀ (x0 : X0) (B : Fr n) (w' : World), W x0 w' → c.wp P (Exit.then (Next1 n D inv W mu (mu x0)) Q) (over B D (inv x0)) w') :
    (Code.loop c).wp P Q (over A D l) w := by
  refine c_loop (X := X0) (fun p => inv p) (fun p w => W p w) (fun p => mu p) x0 h0 hw (fun p B w' h => wp_mono (round p B w' h) ?_)
  intro e a2 w2 h
  cases e with
  | normal => obtain ⟨y0, B', h1, h2, h3⟩ := h; exact ⟨y0, B', h1, h2, h3⟩
  | _ => exact h
theorem next1 {X0 : Type} {inv : X0 → List (Nat × Value)} {W : X0 → World → Prop} {mu : X0 → Nat} {m : Nat} (x0 : X0) (hm : mu x0 < m) (hf : Fits n l (inv x0)) (hw : W x0 w) :
    Next1 n D inv W mu m (over A D l) w := ⟨x0, _, (over_fits (A := A) (D := D) hf).symm, hw, hm⟩

def Next2 {X0 X1 : Type} (n : Nat) (D : List Deferred) (inv : X0 → X1 → List (Nat × Value)) (W : X0 → X1 → World → Prop) (mu : X0 → X1 → Nat) (m : Nat) (a : Act) (w : World) : Prop :=
  ∃ y0 : X0, ∃ y1 : X1, ∃ B : Fr n, a = over B D (inv y0 y1) ∧ W y0 y1 w ∧ mu y0 y1 < m
theorem loop2 {X0 X1 : Type} {c : Code} (inv : X0 → X1 → List (Nat × Value)) (W : X0 → X1 → World → Prop) (mu : X0 → X1 → Nat) (x0 : X0) (x1 : X1) (h0 : Fits n l (inv x0 x1)) (hw : W x0 x1 w)
    (round : ∀ (x0 : X0) (x1 : X1) (B : Fr n) (w' : World), W x0 x1 w' → c.wp P (Exit.then (Next2 n D inv W mu (mu x0 x1)) Q) (over B D (inv x0 x1)) w') :
    (Code.loop c).wp P Q (over A D l) w := by
  refine c_loop (X := X0 × X1) (fun p => inv p.1 p.2) (fun p w => W p.1 p.2 w) (fun p => mu p.1 p.2) (x0, x1) h0 hw (fun p B w' h => wp_mono (round (p.1) (p.2) B w' h) ?_)
  intro e a2 w2 h
  cases e with
  | normal => obtain ⟨y0, y1, B', h1, h2, h3⟩ := h; exact ⟨(y0, y1), B', h1, h2, h3⟩
  | _ => exact h
theorem next2 {X0 X1 : Type} {inv : X0 → X1 → List (Nat × Value)} {W : X0 → X1 → World → Prop} {mu : X0 → X1 → Nat} {m : Nat} (x0 : X0) (x1 : X1) (hm : mu x0 x1 < m) (hf : Fits n l (inv x0 x1)) (hw : W x0 x1 w) :
    Next2 n D inv W mu m (over A D l) w := ⟨x0, x1, _, (over_fits (A := A) (D := D) hf).symm, hw, hm⟩

def Next4 {X0 X1 X2 X3 : Type} (n : Nat) (D : List Deferred) (inv : X0 → X1 → X2 → X3 → List (Nat × Value)) (W : X0 → X1 → X2 → X3 → World → Prop) (mu : X0 → X1 → X2 → X3 → Nat) (m : Nat) (a : Act) (w : World) : Prop :=
  ∃ y0 : X0, ∃ y1 : X1, ∃ y2 : X2, ∃ y3 : X3, ∃ B : Fr n, a = over B D (inv y0 y1 y2 y3) ∧ W y0 y1 y2 y3 w ∧ mu y0 y1 y2 y3 < m
theorem loop4 {X0 X1 X2 X3 : Type} {c : Code} (inv : X0 → X1 → X2 → X3 → List (Nat × Value)) (W : X0 → X1 → X2 → X3 → World → Prop) (mu : X0 → X1 → X2 → X3 → Nat) (x0 : X0) (x1 : X1) (x2 : X2) (x3 : X3) (h0 : Fits n l (inv x0 x1 x2 x3)) (hw : W x0 x1 x2 x3 w)
    (round : ∀ (x0 : X0) (x1 : X1) (x2 : X2) (x3 : X3) (B : Fr n) (w' : World), W x0 x1 x2 x3 w' → c.wp P (Exit.then (Next4 n D inv W mu (mu x0 x1 x2 x3)) Q) (over B D (inv x0 x1 x2 x3)) w') :
    (Code.loop c).wp P Q (over A D l) w := by
  refine c_loop (X := X0 × X1 × X2 × X3) (fun p => inv p.1 p.2.1 p.2.2.1 p.2.2.2) (fun p w => W p.1 p.2.1 p.2.2.1 p.2.2.2 w) (fun p => mu p.1 p.2.1 p.2.2.1 p.2.2.2) (x0, x1, x2, x3) h0 hw (fun p B w' h => wp_mono (round (p.1) (p.2.1) (p.2.2.1) (p.2.2.2) B w' h) ?_)
  intro e a2 w2 h
  cases e with
  | normal => obtain ⟨y0, y1, y2, y3, B', h1, h2, h3⟩ := h; exact ⟨(y0, y1, y2, y3), B', h1, h2, h3⟩
  | _ => exact h
theorem next4 {X0 X1 X2 X3 : Type} {inv : X0 → X1 → X2 → X3 → List (Nat × Value)} {W : X0 → X1 → X2 → X3 → World → Prop} {mu : X0 → X1 → X2 → X3 → Nat} {m : Nat} (x0 : X0) (x1 : X1) (x2 : X2) (x3 : X3) (hm : mu x0 x1 x2 x3 < m) (hf : Fits n l (inv x0 x1 x2 x3)) (hw : W x0 x1 x2 x3 w) :
    Next4 n D inv W mu m (over A D l) w := ⟨x0, x1, x2, x3, _, (over_fits (A := A) (D := D) hf).symm, hw, hm⟩

def Next5 {X0 X1 X2 X3 X4 : Type} (n : Nat) (D : List Deferred) (inv : X0 → X1 → X2 → X3 → X4 → List (Nat × Value)) (W : X0 → X1 → X2 → X3 → X4 → World → Prop) (mu : X0 → X1 → X2 → X3 → X4 → Nat) (m : Nat) (a : Act) (w : World) : Prop :=
  ∃ y0 : X0, ∃ y1 : X1, ∃ y2 : X2, ∃ y3 : X3, ∃ y4 : X4, ∃ B : Fr n, a = over B D (inv y0 y1 y2 y3 y4) ∧ W y0 y1 y2 y3 y4 w ∧ mu y0 y1 y2 y3 y4 < m
theorem loop5 {X0 X1 X2 X3 X4 : Type} {c : Code} (inv : X0 → X1 → X2 → X3 → X4 → List (Nat × Value)) (W : X0 → X1 → X2 → X3 → X4 → World → Prop) (mu : X0 → X1 → X2 → X3 → X4 → Nat) (x0 : X0) (x1 : X1) (x2 : X2) (x3 : X3) (x4 : X4) (h0 : Fits n l (inv x0 x1 x2 x3 x4)) (hw : W x0 x1 x2 x3 x4 w)
    (round : ∀ (x0 : X0) (x1 : X1) (x2 : X2) (x3 : X3) (x4 : X4) (B : Fr n) (w' : World), W x0 x1 x2 x3 x4 w' → c.wp P (Exit.then (Next5 n D inv W mu (mu x0 x1 x2 x3 x4)) Q) (over B D (inv x0 x1 x2 x3 x4)) w') :
    (Code.loop c).wp P Q (over A D l) w := by
  refine c_loop (X := X0 × X1 × X2 × X3 × X4) (fun p => inv p.1 p.2.1 p.2.2.1 p.2.2.2.1 p.2.2.2.2) (fun p w => W p.1 p.2.1 p.2.2.1 p.2.2.2.1 p.2.2.2.2 w) (fun p => mu p.1 p.2.1 p.2.2.1 p.2.2.2.1 p.2.2.2.2) (x0, x1, x2, x3, x4) h0 hw (fun p B w' h => wp_mono (round (p.1) (p.2.1) (p.2.2.1) (p.2.2.2.1) (p.2.2.2.2) B w' h) ?_)
  intro e a2 w2 h
  cases e with
  | normal => obtain ⟨y0, y1, y2, y3, y4, B', h1, h2, h3⟩ := h; exact ⟨(y0, y1, y2, y3, y4), B', h1, h2, h3⟩
  | _ => exact h
theorem next5 {X0 X1 X2 X3 X4 : Type} {inv : X0 → X1 → X2 → X3 → X4 → List (Nat × Value)} {W : X0 → X1 → X2 → X3 → X4 → World → Prop} {mu : X0 → X1 → X2 → X3 → X4 → Nat} {m : Nat} (x0 : X0) (x1 : X1) (x2 : X2) (x3 : X3) (x4 : X4) (hm : mu x0 x1 x2 x3 x4 < m) (hf : Fits n l (inv x0 x1 x2 x3 x4)) (hw : W x0 x1 x2 x3 x4 w) :
    Next5 n D inv W mu m (over A D l) w := ⟨x0, x1, x2, x3, x4, _, (over_fits (A := A) (D := D) hf).symm, hw, hm⟩

def Next6 {X0 X1 X2 X3 X4 X5 : Type} (n : Nat) (D : List Deferred) (inv : X0 → X1 → X2 → X3 → X4 → X5 → List (Nat × Value)) (W : X0 → X1 → X2 → X3 → X4 → X5 → World → Prop) (mu : X0 → X1 → X2 → X3 → X4 → X5 → Nat) (m : Nat) (a : Act) (w : World) : Prop :=
  ∃ y0 : X0, ∃ y1 : X1, ∃ y2 : X2, ∃ y3 : X3, ∃ y4 : X4, ∃ y5 : X5, ∃ B : Fr n, a = over B D (inv y0 y1 y2 y3 y4 y5) ∧ W y0 y1 y2 y3 y4 y5 w ∧ mu y0 y1 y2 y3 y4 y5 < m
theorem loop6 {X0 X1 X2 X3 X4 X5 : Type} {c : Code} (inv : X0 → X1 → X2 → X3 → X4 → X5 → List (Nat × Value)) (W : X0 → X1 → X2 → X3 → X4 → X5 → World → Prop) (mu : X0 → X1 → X2 → X3 → X4 → X5 → Nat) (x0 : X0) (x1 : X1) (x2 : X2) (x3 : X3) (x4 : X4) (x5 : X5) (h0 : Fits n l (inv x0 x1 x2 x3 x4 x5)) (hw : W x0 x1 x2 x3 x4 x5 w)
    (round : ∀ (x0 : X0) (x1 : X1) (x2 : X2) (x3 : X3) (x4 : X4) (x5 : X5) (B : Fr n) (w' : World), W x0 x1 x2 x3 x4 x5 w' → c.wp P (Exit.then (Next6 n D inv W mu (mu x0 x1 x2 x3 x4 x5)) Q) (over B D (inv x0 x1 x2 x3 x4 x5)) w') :
    (Code.loop c).wp P Q (over A D l) w := by
  refine c_loop (X := X0 × X1 × X2 × X3 × X4 × X5) (fun p => inv p.1 p.2.1 p.2.2.1 p.2.2.2.1 p.2.2.2.2.1 p.2.2.2.2.2) (fun p w => W p.1 p.2.1 p.2.2.1 p.2.2.2.1 p.2.2.2.2.1 p.2.2.2.2.2 w) (fun p => mu p.1 p.2.1 p.2.2.1 p.2.2.2.1 p.2.2.2.2.1 p.2.2.2.2.2) (x0, x1, x2, x3, x4, x5) h0 hw (fun p B w' h => wp_mono (round (p.1) (p.2.1) (p.2.2.1) (p.2.2.2.1) (p.2.2.2.2.1) (p.2.2.2.2.2) B w' h) ?_)
  intro e a2 w2 h
  cases e with
  | normal => obtain ⟨y0, y1, y2, y3, y4, y5, B', h1, h2, h3⟩ := h; exact ⟨(y0, y1, y2, y3, y4, y5), B', h1, h2, h3⟩
  | _ => exact h
theorem next6 {X0 X1 X2 X3 X4 X5 : Type} {inv : X0 → X1 → X2 → X3 → X4 → X5 → List (Nat × Value)} {W : X0 → X1 → X2 → X3 → X4 → X5 → World → Prop} {mu : X0 → X1 → X2 → X3 → X4 → X5 → Nat} {m : Nat} (x0 : X0) (x1 : X1) (x2 : X2) (x3 : X3) (x4 : X4) (x5 : X5) (hm : mu x0 x1 x2 x3 x4 x5 < m) (hf : Fits n l (inv x0 x1 x2 x3 x4 x5)) (hw : W x0 x1 x2 x3 x4 x5 w) :
    Next6 n D inv W mu m (over A D l) w := ⟨x0, x1, x2, x3, x4, x5, _, (over_fits (A := A) (D := D) hf).symm, hw, hm⟩

/-! returns -/
def ResIs (P : Program) (w : World) (n : Nat) (l : List (Nat × Value)) : List ResultVar → List Value → Prop
  | [], [] => True
  | .tmp t :: r, v :: vs => ev n l (.tmp t) = some v ∧ ResIs P w n l r vs
  | .cell t ty :: r, v :: vs => (∃ p, ev n l (.tmp t) = some (.pointer (some p)) ∧ (loadVar ty p).run P w = .ok v w) ∧ ResIs P w n l r vs
  | _, _ => False
theorem results_run {fn : Func} {rs : List ResultVar} {vs : List Value} (hr : fn.results = rs.toArray) (h : ResIs P w n l rs vs) :
    (results fn (over A D l).tmps).run P w = .ok (if h : vs.length = 1 then vs[0] else .tuple vs.toArray) w := by
  have key : ∀ (rs : List ResultVar) (vs : List Value), ResIs P w n l rs vs → (rs.mapM (fun x : ResultVar => (match x with
      | .tmp t => pure ((over A D l).tmps.getD t undef)
      | .cell a t => do loadVar t (← asAddr ((over A D l).tmps.getD a undef)) : Sem Value))).run P w = .ok vs w := by
    intro rs
    induction rs with
    | nil => intro vs h; cases vs with
      | nil => simp
      | cons v vs => simp [ResIs] at h
    | cons r rs ih =>
      intro vs h
      cases vs with
      | nil => cases r <;> simp [ResIs] at h
      | cons v vs =>
        cases r with
        | tmp t =>
          obtain ⟨h1, h2⟩ := h
          have h3 := getD_of (A := A) (D := D) h1
          simp only [List.mapM_cons, Sem.run_bind, Sem.run_pure, Result.andThen_ok, ih vs h2, h3]
        | cell t ty =>
          obtain ⟨⟨p, h1, h4⟩, h2⟩ := h
          have h3 := getD_of (A := A) (D := D) h1
          have h5 : (asAddr (.pointer (some p))).run P w = .ok p w := by simp [asAddr]
          simp only [List.mapM_cons, Sem.run_bind, Sem.run_pure, Result.andThen_ok, ih vs h2, h3, h5, h4]
  have := key rs vs h
  unfold results
  rw [hr]
  simp only [List.mapM_toArray, Sem.run_bind, Sem.run_map]
  rw [show (fun x : ResultVar => (match x with
      | .tmp t => pure ((over A D l).tmps.getD t undef)
      | .cell a t => do loadVar t (← asAddr ((over A D l).tmps.getD a undef)) : Sem Value)) = _ from rfl] at this
  refine Eq.trans (congrArg (fun r : Result (List Value) => (r.andThen fun a w' => Result.ok a.toArray w').andThen fun a w' => Sem.run P (pure (if h : a.size = 1 then a[0] else Value.tuple a)) w') this) ?_
  simp
theorem retL {fn : Func} {R : Ending → World → Prop} {e : Exit} {rs : List ResultVar} {vs : List Value} (he : isEnd e) (hr : fn.results = rs.toArray) (h : ResIs P w n l rs vs) (hl : Nat.beq vs.length 1 = false) (hR : R (.returned (.tuple vs.toArray)) w) : bodyPost P fn R e (over A [] l) w :=
  bp he over_defers (results_run (A := A) (D := []) hr h) (by rw [dif_neg (by intro hh; rw [hh] at hl; cases hl)]; exact hR)
theorem ret1L {fn : Func} {R : Ending → World → Prop} {e : Exit} {rs : List ResultVar} {v : Value} (he : isEnd e) (hr : fn.results = rs.toArray) (h : ResIs P w n l rs [v]) (hR : R (.returned v) w) : bodyPost P fn R e (over A [] l) w :=
  bp he over_defers (results_run (A := A) (D := []) hr h) hR
theorem load_agg {t ty' : TypeId} {b : Nat} {cs : List Value} (hT : isAggN P t cs.length = true) (hB : Blk w b cs ty') : (loadVar t ⟨b, 0, none⟩).run P w = .ok (.agg cs.toArray) w := run_loadVar_blk hT hB
end
end Go.Wk
namespace Go.Wk
open Go Go.RowKit
section
variable {P : Program} {ops : Array Oper} {Q : Exit → Act → World → Prop} {rest : List Oper}
variable {n : Nat} {A : Fr n} {D : List Deferred} {l : List (Nat × Value)} {w : World}
variable {d : Tmp} {op : Op} {ty : TypeId} {ps : String} {af : Array Edge} {g : Option (Nat × Bool)}
theorem door {vs : List Value} {m : Nat} (hn : m = n) (hle : Nat.ble vs.length n = true) :
    ∃ B : Fr n, over B [] (argsAt 0 vs) = { tmps := vs.toArray ++ Array.replicate (m - vs.toArray.size) undef, defers := [] } := by
  have hle' : vs.length ≤ n := Nat.le_of_ble_eq_true hle
  have hsz : (vs.toArray ++ Array.replicate (m - vs.toArray.size) undef).size = n := by simp [hn]; omega
  refine ⟨⟨_, hsz⟩, over_same ?_⟩
  intro p hp
  obtain ⟨j, h1, h2⟩ := mem_argsAt hp
  obtain ⟨hj1, hj2⟩ := List.getElem?_eq_some_iff.1 h2
  simp only [h1, Nat.zero_add, Array.getD]
  rw [dif_pos (by simp; omega)]
  show (vs.toArray ++ _)[j]'_ = _
  rw [Array.getElem_append_left (by simpa using hj1)]
  simpa using hj2
end
section
variable {P : Program} {ops : Array Oper} {QS : Exit → Act → List Go.Frame → World → Prop} {cs : List Go.Frame} {rest : List Nat}
variable {n : Nat} {A : Fr n} {D : List Deferred} {l : List (Nat × Value)} {w : World}
end
section
variable {P : Program} {n : Nat} {A : Fr n} {l : List (Nat × Value)} {w : World}
end
section
variable {P : Program} {n : Nat} {A : Fr n} {D : List Deferred} {l : List (Nat × Value)} {w : World} {d : Option Tmp} {ty : TypeId} {ps : String} {af : Array Edge} {g : Option (Nat × Bool)}
end
end Go.Wk
namespace Go.Wk
open Go Go.RowKit

def digit (c : UInt8) : Bool := decide (48 ≤ c.toNat ∧ c.toNat ≤ 57)
def nameC (c : UInt8) : Bool := decide ((65 ≤ c.toNat ∧ c.toNat ≤ 90) ∨ (48 ≤ c.toNat ∧ c.toNat ≤ 57) ∨ c.toNat = 95)
def isName (s : List UInt8) : Bool := decide (1 ≤ s.length) && decide (s.length ≤ 64) && !digit (s.getD 0 0) && s.all nameC
theorem all_getD {f : UInt8 → Bool} {s : List UInt8} (h : ∀ j, j < s.length → f (s.getD j 0) = true) : s.all f = true := by
  rw [List.all_eq_true]
  intro x hx
  obtain ⟨j, hj, rfl⟩ := List.mem_iff_getElem.1 hx
  have := h j hj
  simpa [List.getD, hj] using this
theorem getD_all {f : UInt8 → Bool} {s : List UInt8} (h : s.all f = true) {j : Nat} (hj : j < s.length) : f (s.getD j 0) = true := by
  rw [List.all_eq_true] at h
  have := h (s[j]'hj) (List.getElem_mem hj)
  simpa [List.getD, hj] using this
theorem name_ok {s : List UInt8} (h1 : 1 ≤ s.length) (h2 : s.length ≤ 64) (h3 : digit (s.getD 0 0) = false) (h4 : ∀ j, j < s.length → nameC (s.getD j 0) = true) : isName s = true := by
  unfold isName; rw [decide_eq_true h1, decide_eq_true h2, h3, all_getD h4]; rfl
theorem name_len {s : List UInt8} (h : isName s = true) : 1 ≤ s.length ∧ s.length ≤ 64 := by
  simp only [isName, Bool.and_eq_true, decide_eq_true_eq] at h; exact ⟨h.1.1.1, h.1.1.2⟩
theorem name_all {s : List UInt8} (h : isName s = true) {c : UInt8} (hc : c ∈ s) : nameC c = true := by
  simp only [isName, Bool.and_eq_true] at h
  exact List.all_eq_true.1 h.2 c hc
theorem name_dig {s : List UInt8} (h : isName s = true) : ¬ (48 ≤ (s.getD 0 0).toNat ∧ (s.getD 0 0).toNat ≤ 57) := by
  simp only [isName, Bool.and_eq_true, Bool.not_eq_true'] at h
  have := h.1.2
  unfold digit at this
  exact of_decide_eq_false this
theorem name_at {s : List UInt8} (h : isName s = true) (j : Nat) (hj : j < s.length) : (65 ≤ (s.getD j 0).toNat ∧ (s.getD j 0).toNat ≤ 90) ∨ (48 ≤ (s.getD j 0).toNat ∧ (s.getD j 0).toNat ≤ 57) ∨ (s.getD j 0).toNat = 95 := by
  simp only [isName, Bool.and_eq_true] at h
  exact of_decide_eq_true (getD_all h.2 hj)
abbrev PairB := List UInt8 × List UInt8
def whole (p : PairB) : List UInt8 := p.1 ++ [61] ++ p.2
def right (p : PairB) : Bool := isName p.1 && decide (p.2.length ≤ 256)
def joinC (p : PairB) : Int := if isName p.1 = false then 1 else if 256 < p.2.length then 21 else 0
def splitC (s : List UInt8) : Int :=
  if Lib.indexByte s 61 < 0 then 20 else if isName (s.take (Lib.indexByte s 61).toNat) = false then 20 else if 256 < (s.drop ((Lib.indexByte s 61).toNat + 1)).length then 21 else 0
def splitP (s : List UInt8) : PairB := if splitC s = 0 then (s.take (Lib.indexByte s 61).toNat, s.drop ((Lib.indexByte s 61).toNat + 1)) else ([], [])
theorem joinC_right (p : PairB) : (joinC p = 0) ↔ right p = true := by
  unfold joinC right
  cases isName p.1 <;> simp
theorem indexByte_lt {s : List UInt8} {c : UInt8} (h : 0 ≤ Lib.indexByte s c) : (Lib.indexByte s c).toNat < s.length ∧ s[(Lib.indexByte s c).toNat]? = some c := by
  obtain ⟨o, ho⟩ := Int.eq_ofNat_of_zero_le h
  have := (Lib.indexByte_some ho).1
  rw [ho]
  exact ⟨(List.getElem?_eq_some_iff.1 this).1, this⟩
theorem indexByte_at {a b : List UInt8} {c : UInt8} (h : c ∉ a) : Lib.indexByte (a ++ c :: b) c = a.length := by
  induction a with
  | nil => simp [Lib.indexByte]
  | cons x r ih =>
    have h1 : x ≠ c := fun hh => h (by simp [hh])
    have h2 : c ∉ r := fun hh => h (by simp [hh])
    have hx : (x == c) = false := by simp [h1]
    simp only [List.cons_append, Lib.indexByte, hx, ih h2]
    have : ((r.length : Int) == -1) = false := by rw [beq_eq_false_iff_ne]; omega
    simp [this]
theorem split_whole {p : PairB} (h : joinC p = 0) : splitC (whole p) = 0 ∧ splitP (whole p) = p := by
  obtain ⟨a, b⟩ := p
  have hr := (joinC_right _).1 h
  simp only [right, Bool.and_eq_true, decide_eq_true_eq] at hr
  have hn : (61 : UInt8) ∉ a := fun hm => by
    have := name_all hr.1 hm
    revert this; decide
  have hi : Lib.indexByte (whole (a, b)) 61 = a.length := by
    unfold whole; simp only [List.append_assoc, List.singleton_append]; exact indexByte_at hn
  have h1 : (whole (a, b)).take a.length = a := by simp [whole]
  have h2 : (whole (a, b)).drop (a.length + 1) = b := by
    unfold whole
    rw [List.drop_append_of_le_length (by simp)]
    simp
  have hc : splitC (whole (a, b)) = 0 := by
    unfold splitC
    rw [hi, if_neg (by omega), Int.toNat_natCast, h1, h2, if_neg (by simp [hr.1]), if_neg (by omega)]
  refine ⟨hc, ?_⟩
  unfold splitP
  rw [if_pos hc, hi, Int.toNat_natCast, h1, h2]
theorem split_bad {s : List UInt8} (h : splitC s ≠ 0) : splitP s = ([], []) := by unfold splitP; rw [if_neg h]

def cmpS (a b : List UInt8) : Int := if Op.bytesLess a b = true then -1 else if (!(Op.bytesLess a b || decide (a = b))) = true then 1 else 0
theorem cmpS_neg (a b : List UInt8) : decide (cmpS a b < 0) = Op.bytesLess a b := by
  unfold cmpS
  cases h : Op.bytesLess a b with
  | true => simp
  | false =>
    simp only [Bool.false_eq_true, if_false]
    split <;> rfl
/-! the entry IndexByte -/
section
variable {P : Program} {n : Nat} {A : Fr n} {D : List Deferred} {l : List (Nat × Value)} {w : World}
variable {d : Option Tmp} {ty : TypeId} {ps : String} {af : Array Edge} {g : Option (Nat × Bool)}
theorem r_callX {f : FuncId} {xs : List Operand} {ts : Array TypeId} {vs : List Value} {v : Value} (ha : evs n l xs = some vs) (hr : (callFunc f vs.toArray).run P w = .ok (.value v) w) :
    RunV P ⟨d, .call { callee := .value (.func f), args := xs.toArray, argTypes := ts }, ty, ps, af, g⟩ (over A D l).eval w v := by
  have he := evs_eval (A := A) (D := D) ha
  simp only [RunV, execOp, resolve, Act.eval, Deferred.ofValue, List.map_toArray, he]
  simp [invoke, hr]
theorem run_ixb {v : Value} {s : List UInt8} (hB : By w v s) (c : UInt8) : (Extern.BytealgIndexByte.indexByte #[v, b8 c]).run P w = .ok (.int .i64 (Lib.indexByte s c)) w := by
  obtain ⟨a, cap, rfl, h1, h2, h3, h4⟩ := hB
  have hbo : Lib.bytesOf (s.map fun x => (x.toNat : Int)) = s := by
    simp [Lib.bytesOf, Function.comp_def]
  cases s with
  | nil =>
    cases a with
    | none =>
      change Sem.run P (do
        let b ← Extern.Bytes.bytesOf (.slice none 0 cap)
        let c ← Extern.Bytes.asByte (b8 c)
        match (List.range b.size).find? fun i => b[i]! == c with
        | some i => pure (goInt i)
        | none => pure (goInt (-1))) w = _
      simp [Extern.Bytes.bytesOf, Extern.Bytes.asByte, b8, Lib.indexByte, goInt]
    | some p =>
      change Sem.run P (do
        let b ← Extern.Bytes.bytesOf (.slice (some p) 0 cap)
        let c ← Extern.Bytes.asByte (b8 c)
        match (List.range b.size).find? fun i => b[i]! == c with
        | some i => pure (goInt i)
        | none => pure (goInt (-1))) w = _
      simp [Extern.Bytes.bytesOf, Extern.Bytes.asByte, b8, Lib.indexByte, Extern.Bytes.loadBytes, goInt]
  | cons x r =>
    cases a with
    | none => have := h3 rfl; simp at h1; omega
    | some p =>
      have h0 := h4 p rfl 0 (b8 x) rfl
      obtain ⟨pb, po, psp⟩ := p
      have hsp : psp = none := by
        cases psp with
        | none => rfl
        | some q =>
          unfold World.cell? at h0
          simp only [Addr.add] at h0
          split at h0 <;> first | (simp at h0; done) | (split at h0 <;> simp_all)
      subst hsp
      have := Lib.run_indexByteSlice (P := P) w pb po (x :: r).length cap ((x :: r).map fun x => (x.toNat : Int)) (by simp) (fun i hi => by
        have := h4 _ rfl i (b8 ((x :: r).getD i 0)) (by simpa using getD_b8 (x :: r) i hi)
        have ha : (⟨pb, po, none⟩ : Addr).add i = ⟨pb, po + i, none⟩ := by unfold Addr.add; split <;> simp_all
        rw [ha] at this
        rw [this, b8]
        rw [List.getD_eq_getElem?_getD, List.getD_eq_getElem?_getD, List.getElem?_map, List.getElem?_eq_getElem hi]; rfl) c.toNat
      rw [hbo] at this
      simpa [b8] using this
end
end Go.Wk
namespace Go.Wk
open Go Go.RowKit

/-! turning -/
/-! lookup3 -/
def w32 (x : Int) : Int := IntKind.u32.wrap x
/-! SipHash -/
/-! the document's own reckoning of words of eight bytes -/
/-! the chapter's examples -/
end Go.Wk
namespace Go.Wk
open Go Go.RowKit Go.ChangeShapes Go.WideShapes Go.ChangeAt Go.Deep

section
variable {H : Type} {enc : TypeId × Value → H} {P : Program} {w : World} {t e : TypeId} {v : Value} {d : DataW H} {ps : List MemPlace}

/-- Each of these values is bytes. -/
def Rows (w : World) (v : Value) (vs : List Value) (ls : List (List UInt8)) : Prop := Sl w v vs ∧ vs.length = ls.length ∧ ∀ (i : Nat) (u : Value) (l : List UInt8), vs[i]? = some u → ls[i]? = some l → By w u l
end
end Go.Wk
namespace Go.Wk
open Go Go.RowKit

section
variable {P : Program} {ops : Array Oper} {md : Region.Mode} {C : World → Prop} {Q : Exit → Act → World → Prop} {E : Array Bool → Act → World → Prop}

def wpAnyT (P : Program) (md : Region.Mode) (ops : Array Oper) (C : World → Prop) (E : Array Bool → Act → World → Prop) : Nat → Array Bool → Act → World → Prop
  | 0, listed, a, w => E listed a w
  | f + 1, listed, a, w => Region.ready md ops listed ≠ [] ∧ ∀ i ∈ Region.ready md ops listed, opC P ops C i (wpAnyT P md ops C E f (listed.setIfInBounds i true)) a w

theorem wpAny_of_T {t : Nat} (hE : ∀ listed a w, E listed a w → wpAny P md ops Q t listed a w) : ∀ (f : Nat) (listed : Array Bool) (a : Act) (w : World), wpAnyT P md ops C E f listed a w → wpAny P md ops Q (f + t) listed a w
  | 0, listed, a, w, h => by rw [Nat.zero_add]; exact hE _ _ _ h
  | f + 1, listed, a, w, h => by
    rw [show f + 1 + t = (f + t) + 1 by omega]
    refine ⟨fun h0 => absurd h0 h.1, fun i hi => ?_⟩
    have h1 := h.2 i hi
    unfold opC at h1
    unfold wpOp
    split
    · rename_i ho; rw [ho] at h1; exact wpAny_of_T hE f _ a w h1
    · rename_i o ho
      rw [ho] at h1
      simp only at h1
      split
      · rename_i hw; rw [if_pos hw] at h1; exact .inl (wp_out (fun a' w' hx => wpAny_of_T hE f _ a' w' hx.2) h1)
      · rename_i hw; rw [if_neg hw] at h1; exact wpAny_of_T hE f _ _ w h1

def Closed (md : Region.Mode) (ops : Array Oper) (listed : Array Bool) : Prop := ∀ k ok, ops[k]? = some ok → listed.getD k false = true → ∀ e ∈ ok.after, Region.binds md e = true → listed.getD e.on false = true
theorem Closed.set {listed : Array Bool} {i : Nat} (h : Closed md ops listed) (hi : i ∈ Region.ready md ops listed) : Closed md ops (listed.setIfInBounds i true) := by
  intro k ok hk hl e he hb
  have key : listed.getD e.on false = true → (listed.setIfInBounds i true).getD e.on false = true := fun h1 => by
    by_cases hei : e.on = i
    · rw [hei] at h1 ⊢
      rcases Nat.lt_or_ge i listed.size with h' | h'
      · simp [h']
      · simp [Array.getElem?_eq_none h'] at h1
    · rw [getD_set_ne false (Ne.symm hei)]; exact h1
  by_cases hki : k = i
  · subst hki
    obtain ⟨_, o, ho, hall⟩ := mem_ready.1 hi
    rw [hk] at ho
    cases ho
    exact key (hall e he hb)
  · rw [getD_set_ne false (Ne.symm hki)] at hl
    exact key (h k ok hk hl e he hb)
def reachB (md : Region.Mode) (ops : Array Oper) (i : Nat) : Nat → Nat → Bool
  | 0, _ => false
  | f + 1, j => match ops[j]? with
    | some o => o.after.any fun e => Region.binds md e && (Nat.beq e.on i || reachB md ops i f e.on)
    | none => false
theorem reach_spec {i : Nat} {listed : Array Bool} (hC : Closed md ops listed) : ∀ (f j : Nat) (oj : Oper), ops[j]? = some oj → reachB md ops i f j = true → (∀ e ∈ oj.after, Region.binds md e = true → listed.getD e.on false = true) → listed.getD i false = true
  | 0, j, oj, _, h, _ => by simp [reachB] at h
  | f + 1, j, oj, hj, h, hall => by
    simp only [reachB, hj, Array.any_eq_true, Bool.and_eq_true, Bool.or_eq_true] at h
    obtain ⟨k, hk, hb, h2⟩ := h
    have hm : oj.after[k] ∈ oj.after := Array.getElem_mem hk
    have h3 := hall _ hm hb
    rcases h2 with h2 | h2
    · rw [← Nat.eq_of_beq_eq_true h2]; exact h3
    · cases ho : ops[oj.after[k].on]? with
      | none => cases f <;> simp [reachB, ho] at h2
      | some ok => exact reach_spec hC f _ ok ho h2 (hC _ ok ho h3)
/-- Each operation of the end comes behind i. -/
def Behind (md : Region.Mode) (ops : Array Oper) (tl : List Nat) (i : Nat) : Prop := ∀ j ∈ tl, reachB md ops i ops.size j = true
theorem wpAnyT_first {tl : List Nat} {i : Nat} {oi : Oper} {v : Value} (hi : ops[i]? = some oi) (hsel : ∀ (j : Nat) (o : Oper) cs b, ops[j]? = some o → o.op ≠ .select cs b)
    (hT : Behind md ops tl i) (hE : ∀ listed a w, E listed a w → ∀ j ∈ Region.ready md ops listed, j ∈ tl) :
    ∀ (f : Nat) (listed : Array Bool) (a : Act) (w : World),
      (∀ j oj, ops[j]? = some oj → j ≠ i → listed.getD j true = false → (∀ e ∈ oj.after, Region.binds md e = true → e.on ≠ i) → oi.apart ops oj = true) →
      Closed md ops listed → i ∈ Region.ready md ops listed → C w → Qv P ops C oi v a →
      wpAnyT P md ops C E f (listed.setIfInBounds i true) (a.put oi.dst v) w → wpAnyT P md ops C E (f + 1) listed a w := by
  intro f
  induction f with
  | zero =>
    intro listed a w _ hcl hr hC hy H
    refine ⟨fun h => (by rw [h] at hr; cases hr), fun j hj => ?_⟩
    by_cases hji : j = i
    · subst hji; exact hy.opC hi hC H
    · have h1 := hE _ _ _ H j (ready_mono hj hji)
      obtain ⟨_, oj, hoj, hall⟩ := mem_ready.1 hj
      have h2 := reach_spec hcl _ j oj hoj (hT j h1) hall
      have h0 := (mem_ready.1 hr).1
      exfalso
      rcases Nat.lt_or_ge i listed.size with h' | h'
      · simp [h'] at h0 h2; rw [h0] at h2; cases h2
      · simp [Array.getElem?_eq_none h'] at h2
  | succ f ih =>
    intro listed a w hfree hcl hr hC hy H
    refine ⟨fun h => (by rw [h] at hr; cases hr), fun j hj => ?_⟩
    by_cases hji : j = i
    · subst hji; exact hy.opC hi hC H
    · have h1 := H.2 j (ready_mono hj hji)
      obtain ⟨hjun, oj, hoj, hall⟩ := mem_ready.1 hj
      have hnot : ∀ e ∈ oj.after, Region.binds md e = true → e.on ≠ i := fun e he hb heq => by
        have h2 := hall e he hb
        have h0 := (mem_ready.1 hr).1
        rw [heq] at h2
        rcases Nat.lt_or_ge i listed.size with h' | h'
        · simp [h'] at h0 h2; rw [h0] at h2; cases h2
        · simp [Array.getElem?_eq_none h'] at h2
      have hap := hfree j oj hoj hji hjun hnot
      obtain ⟨_, _, h3⟩ := Oper.apart_spec hap
      have hfree' : ∀ k ok, ops[k]? = some ok → k ≠ i → (listed.setIfInBounds j true).getD k true = false →
          (∀ e ∈ ok.after, Region.binds md e = true → e.on ≠ i) → oi.apart ops ok = true := fun k ok hk hki hun hno => by
        refine hfree k ok hk hki ?_ hno
        by_cases hjk : j = k
        · subst hjk; exact hjun
        · rw [getD_set_ne true hjk] at hun; exact hun
      refine opC_put hoj hap (fun cs b => hsel j oj cs b hoj) (fun b u w' hb hC' h4 => ?_) hC h1
      refine ih (listed.setIfInBounds j true) _ w' hfree' (hcl.set hj) (ready_mono hr (Ne.symm hji)) hC' ((hy.same hb).keep (fun cs b => hsel i oi cs b hi) h3) ?_
      rw [Array.setIfInBounds_comm _ _ hji]
      exact h4
theorem wpAnyT_mono {C' : World → Prop} (hC : ∀ x, C' x → C x) : ∀ (f : Nat) (listed : Array Bool) (a : Act) (w : World), wpAnyT P md ops C' E f listed a w → wpAnyT P md ops C E f listed a w
  | 0, _, _, _, h => h
  | f + 1, listed, a, w, h => ⟨h.1, fun i hi => by
      have h1 := h.2 i hi
      unfold opC at *
      split
      · rename_i ho; rw [ho] at h1; exact wpAnyT_mono hC f _ a w h1
      · rename_i o ho
        rw [ho] at h1
        simp only at h1
        split
        · rename_i hw; rw [if_pos hw] at h1; exact wp_mono_K (fun a' w' hx => ⟨hC _ hx.1, wpAnyT_mono hC f _ a' w' hx.2⟩) h1
        · rename_i hw; rw [if_neg hw] at h1; exact wpAnyT_mono hC f _ _ w h1⟩
def behindB (md : Region.Mode) (ops : Array Oper) (tl : List Nat) (i : Nat) : Bool := tl.all fun j => reachB md ops i ops.size j
theorem behindB_spec {tl : List Nat} {i : Nat} (h : behindB md ops tl i = true) : Behind md ops tl i := fun j hj => List.all_eq_true.1 h j hj
def chainB (md : Region.Mode) (ops : Array Oper) : List Nat → Array Bool → Bool
  | [], listed => (Region.ready md ops listed).isEmpty
  | j :: r, listed => (ops[j]?).isSome && decide (Region.ready md ops listed = [j]) && chainB md ops r (listed.setIfInBounds j true)
def tailOps (l : List Oper) : List Nat → List Oper
  | [] => []
  | j :: r => match l[j]? with
    | some o => o :: tailOps l r
    | none => tailOps l r
theorem chain_any : ∀ (tl : List Nat) (listed : Array Bool) (a : Act) (w : World), chainB md ops tl listed = true → wpList P ops Q (tailOps ops.toList tl) a w → wpAny P md ops Q tl.length listed a w
  | [], listed, a, w, hB, h => ⟨by simpa [chainB] using hB, h⟩
  | j :: r, listed, a, w, hB, h => by
    simp only [chainB, Bool.and_eq_true, decide_eq_true_eq] at hB
    obtain ⟨⟨h0, h1⟩, h2⟩ := hB
    obtain ⟨o, ho⟩ := Option.isSome_iff_exists.1 h0
    have hol : ops.toList[j]? = some o := by simpa using ho
    simp only [tailOps, hol] at h
    refine ⟨fun h3 => (by rw [h1] at h3; cases h3), fun i hi => ?_⟩
    rw [h1] at hi
    have hji : i = j := by simpa using hi
    subst hji
    unfold wpOp
    unfold wpList at h
    simp only [ho]
    split at h
    · rename_i hw
      rw [if_pos hw]
      exact h.imp (fun hh => Oper.wp_mono (fun a' w' hx => chain_any r _ a' w' h2 hx) hh) id
    · rename_i hw
      rw [if_neg hw]
      exact chain_any r _ _ w h2 h
def mixBT (md : Region.Mode) (ops : Array Oper) (tl : List Nat) : List (Nat × Bool) → Array Bool → Bool
  | [], listed => chainB md ops tl listed
  | (i, q) :: r, listed => (ops[i]?).isSome && (if q then (Region.ready md ops listed).contains i && Region.free md ops listed i && behindB md ops tl i else decide (Region.ready md ops listed = [i])) && mixBT md ops tl r (listed.setIfInBounds i true)
theorem chain_in {tl : List Nat} {listed : Array Bool} (h : chainB md ops tl listed = true) : ∀ j ∈ Region.ready md ops listed, j ∈ tl := by
  intro j hj
  cases tl with
  | nil => simp only [chainB, List.isEmpty_iff] at h; rw [h] at hj; cases hj
  | cons k r =>
    simp only [chainB, Bool.and_eq_true, decide_eq_true_eq] at h
    rw [h.1.2] at hj
    simp at hj
    simp [hj]
theorem wpAnyT_of_mix {tl : List Nat} (hs : Region.noSelect ops = true) : ∀ {C : World → Prop} (ord : List (Nat × Bool)) (listed : Array Bool) (a : Act) (w : World), Closed md ops listed → C w → mixBT md ops tl ord listed = true →
    wpMix P ops C (fun a w => wpList P ops Q (tailOps ops.toList tl) a w) (ordOps ops.toList ord) a w →
    wpAnyT P md ops C (fun listed a w => chainB md ops tl listed = true ∧ wpList P ops Q (tailOps ops.toList tl) a w) ord.length listed a w
  | _, [], listed, a, w, _, _, hB, h => ⟨hB, h⟩
  | _, (i, q) :: r, listed, a, w, hcl, hC, hB, h => by
    simp only [mixBT, Bool.and_eq_true] at hB
    obtain ⟨⟨h0, h1⟩, h2⟩ := hB
    obtain ⟨o, ho⟩ := Option.isSome_iff_exists.1 h0
    have hol : ops.toList[i]? = some o := by simpa using ho
    simp only [ordOps, hol] at h
    cases q with
    | true =>
      simp only [if_true, Bool.and_eq_true] at h1
      simp only [wpMix] at h
      have hr : i ∈ Region.ready md ops listed := by simpa using h1.1.1
      have hT := behindB_spec h1.2
      split at h
      · rename_i hw
        obtain ⟨v, hv, hk⟩ := h
        exact wpAnyT_first ho (Region.noSelect_spec hs) hT (fun _ _ _ hx => chain_in hx.1) r.length listed a w (Region.free_spec ho h1.1.2) hcl hr hC (.inl ⟨hw, hv⟩) (wpAnyT_of_mix hs r _ _ _ (hcl.set hr) hC h2 hk)
      · rename_i hw
        exact wpAnyT_first ho (Region.noSelect_spec hs) hT (fun _ _ _ hx => chain_in hx.1) r.length listed a w (Region.free_spec ho h1.1.2) hcl hr hC (.inr ⟨by simpa using hw, rfl⟩) (wpAnyT_of_mix hs r _ _ _ (hcl.set hr) hC h2 h)
    | false =>
      simp only [Bool.false_eq_true, if_false, decide_eq_true_eq] at h1
      simp only [wpMix] at h
      refine ⟨fun h3 => (by rw [h1] at h3; cases h3), fun j hj => ?_⟩
      rw [h1] at hj
      have hji : j = i := by simpa using hj
      subst hji
      have hcl' := hcl.set (i := j) (by rw [h1]; simp)
      unfold opC
      simp only [ho]
      split at h
      · rename_i hw
        rw [if_pos hw]
        exact wp_mono_K (fun a' w' hx => ⟨hx.1, by obtain ⟨C', h5, h6, h7⟩ := hx.2; exact wpAnyT_mono h6 _ _ _ _ (wpAnyT_of_mix hs r _ _ _ hcl' h5 h2 h7)⟩) h
      · rename_i hw
        rw [if_neg hw]
        exact wpAnyT_of_mix hs r _ _ _ hcl' hC h2 h
def mixOkT (md : Region.Mode) (ops : Array Oper) (ord : List (Nat × Bool)) (tl : List Nat) : Bool := Region.noSelect ops && decide (ord.length + tl.length = ops.size) && mixBT md ops tl ord (Array.replicate ops.size false)
/-- A region that draws: 'ord' in any order that its edges let, then 'tl' in its one order. -/
theorem c_mixT {id : Nat} {lo : List Oper} {a : Act} {w : World} (ord : List (Nat × Bool)) (tl : List Nat) (C : World → Prop) (hm : P.follows .mixedOrders = true) (hB : mixOkT .any lo.toArray ord tl = true)
    (h : ∀ w', Md [] w w' → C w' ∧ wpMix P lo.toArray C (fun a w => wpList P lo.toArray Q (tailOps lo tl) a w) (ordOps lo ord) a w') : (Code.region id lo.toArray true).wp P Q a w := by
  simp only [mixOkT, Bool.and_eq_true, decide_eq_true_eq] at hB
  obtain ⟨⟨h1, h2⟩, h3⟩ := hB
  obtain ⟨hC, hk⟩ := h _ (Md.drew w)
  refine wp_region_any hm ?_
  have := wpAnyT_of_mix (md := .any) (C := C) (Q := Q) (tl := tl) h1 ord _ a _ (fun k ok hk hl => by simp [Array.getD_eq_getD_getElem?, Array.getElem?_replicate] at hl; split at hl <;> simp at hl) hC h3 (by simpa using hk)
  have fin := wpAny_of_T (Q := Q) (t := tl.length) (E := fun listed a w => chainB .any lo.toArray tl listed = true ∧ wpList P lo.toArray Q (tailOps lo.toArray.toList tl) a w) (fun listed a w hx => chain_any tl listed a w hx.1 hx.2) _ _ _ _ this
  rwa [h2] at fin
end
end Go.Wk
namespace Go.Wk
open Go Go.RowKit

theorem getE {α : Type} {l : List α} {i : Nat} (h : i < l.length) : ∃ x, l[i]? = some x := ⟨l[i], by simp [h]⟩
theorem one_cells {cs : List Value} (h : cs.all (fun u => u.oneCell') = true) : ∀ u ∈ cs, u.oneCell' = true := by simpa using h
theorem drop_get {α : Type} {l : List α} {i : Nat} {x : α} (h : l[i]? = some x) : l.drop i = x :: l.drop (i + 1) := by
  obtain ⟨h1, h2⟩ := List.getElem?_eq_some_iff.1 h
  rw [List.drop_eq_getElem_cons h1, h2]
theorem drop_end {α : Type} {l : List α} {i : Nat} (h : l.length ≤ i) : l.drop i = [] := List.drop_eq_nil_of_le h
/-- One of S, or new since w. -/
def Fsh (S : List Nat) (w : World) (b : Nat) : Prop := b ∈ S ∨ w.heap.size ≤ b
theorem Fsh.new {S S' : List Nat} {w w' : World} (M : Md S w w') : ∀ b, w'.heap.size ≤ b → Fsh S' w b := fun _ hb => .inr (Nat.le_trans M.size hb)
theorem Fsh.up {w : World} {Q : Nat → Prop} (u : Up w Q) : ∀ b, Fsh [] w b → Q b := fun b hb => hb.elim (fun h => by simp at h) (u b)
theorem Fsh.wid {S : List Nat} {w : World} {b : Nat} (h : Fsh [] w b) : Fsh S w b := h.elim (fun h => by simp at h) .inr
theorem nin_cons {x b : Nat} {l : List Nat} (h : x ≠ b) (k : x ∉ l) : x ∉ b :: l := by simp [h, k]
theorem all_cons {P : Nat → Prop} {b : Nat} {l : List Nat} (h : P b) (k : ∀ i ∈ l, P i) : ∀ i ∈ b :: l, P i := by
  intro i hi
  rcases List.mem_cons.1 hi with hi | hi
  · rw [hi]; exact h
  · exact k i hi
theorem all_nil {P : Nat → Prop} : ∀ i ∈ ([] : List Nat), P i := by simp
/-- Q' lets what Q let and was there, and no more than Q. -/
def NewQ (w w' : World) (Q Q' : Nat → Prop) : Prop := (∀ b, Q b → b < w.heap.size → Q' b) ∧ (∀ b, Q' b → Q b) ∧ Up w' Q'
section
variable {α β : Type} {T : Dt α} {U : Dt β} {w w' : World} {Q Q' : Nat → Prop} {v : Value} {xs : List α}
theorem Ls.head {hi : Nat} (h : Ls T w Q v xs) (h2 : hi ≤ xs.length) : Ls T w Q (subz T.n v 0 hi) (xs.take hi) := by simpa using h.part 0 hi (Nat.zero_le _) h2
theorem Ow.reP {e : Nat} {lo lo' : Nat → Prop} (h : Ow T e lo w Q v xs) (hl : ∀ b, vblock v = some b → lo' b) : Ow T e lo' w Q v xs := ⟨h.1, fun b hb => ⟨hl b hb, (h.2 b hb).2⟩⟩
theorem Ow.freeze {e : Nat} {lo : Nat → Prop} (h : Ow T e lo w Q v xs) : ∃ Q' : Nat → Prop, (∀ b, Q b → Q' b) ∧ (∀ b, Q' b → Q b ∨ vblock v = some b) ∧ Ls T w Q' v xs :=
  ⟨fun b => Q b ∨ vblock v = some b, fun _ => .inl, fun _ => id, (h.reP (lo' := fun b => vblock v = some b) fun _ hb => hb).ls (fun _ => .inl) (fun _ => .inr)⟩
theorem nfz {b : Nat} {v : Value} (h : b ∉ (vblock v).toList) (k : vblock v = some b) : False := h (by rw [k]; simp)
theorem Ls.offS {S : List Nat} {i : Nat} {x : α} (h : Ls T w Q v xs) (hi : xs[i]? = some x) (hs : ∀ b ∈ S, ¬ Q b) : ∀ b, vblock v = some b → b ∉ S := by
  obtain ⟨a, cap, cs, rfl, h1, h2, h3, h4, h5, h6⟩ := h
  intro b hb hm
  cases a with
  | none => simp [vblock] at hb
  | some p =>
    simp [vblock] at hb
    subst hb
    exact hs _ hm (h4 p rfl (by rintro rfl; simp at hi))
theorem At.md {S : List Nat} {k : Nat} {c : List Value} (h : At w v k c) (m : Md S w w') (hs : ∀ b, vblock v = some b → b ∉ S) : At w' v k c := by
  obtain ⟨p, l, cp, rfl, h1⟩ := h
  exact ⟨p, l, cp, rfl, fun j u hj => m.cell (h1 j u hj) (by rw [Addr.add_block]; exact hs _ rfl)⟩
theorem Ow.blk_ne {e ty b : Nat} {lo : Nat → Prop} {cs : List Value} (h : Ow T e lo w Q v xs) (hB : Blk w b cs ty) (hne : Nat.beq e ty = false) : ∀ b', vblock v = some b' → b' ≠ b := by
  obtain ⟨⟨cx, h1, h2⟩, h3⟩ := h
  exact h1.ne hB hne
theorem apart_bo {e ty b : Nat} {lo : Nat → Prop} {cs : List Value} (hB : Blk w b cs ty) (h : Ow T e lo w Q v xs) (hne : Nat.beq e ty = false) : ∀ b', vblock v = some b' → b' ∉ [b] :=
  fun b' hb => by simpa using h.blk_ne hB hne b' hb
theorem apart_ow {e ty b : Nat} {lo : Nat → Prop} {cs : List Value} (h : Ow T e lo w Q v xs) (hB : Blk w b cs ty) (hne : Nat.beq e ty = false) : b ∉ (vblock v).toList := by
  intro hb
  cases hv : vblock v with
  | none => rw [hv] at hb; simp at hb
  | some c => rw [hv] at hb; simp at hb; exact h.blk_ne hB hne c hv hb.symm
end
section
variable {P : Program} {Q : Exit → Act → World → Prop} {n : Nat} {A : Fr n} {D : List Deferred} {l : List (Nat × Value)} {w : World}
end
end Go.Wk
namespace Go.Wk
open Go Go.RowKit
end Go.Wk
namespace Go.Wk
open Go Go.RowKit
theorem ones_app {a b : List Value} (h : a.all (fun u => u.oneCell') = true) (h2 : b.all (fun u => u.oneCell') = true) : (a ++ b).all (fun u => u.oneCell') = true := by rw [List.all_append, h, h2]; rfl
theorem ones_1 {v : Value} (h : v.oneCell' = true) : [v].all (fun u => u.oneCell') = true := by simp [h]
structure Pr where
  name : List UInt8
  value : List UInt8
def Pr.cells (x : Pr) : List Value :=
  [(str x.name)] ++ ([(str x.value)])
def tPr : Dt Pr := tPull (fun x => (x.name, x.value)) (tProd tStr tStr)
theorem tPr_un {w : World} {Q : Nat → Prop} {cs : List Value} {x : Pr} (h : tPr.rep w Q cs x) : ∃ (_ : True), cs = x.cells := by
  obtain ⟨_, _, rfl, ⟨rfl, _⟩, ⟨rfl, _⟩⟩ := h
  exact ⟨trivial, rfl⟩
theorem tPr_mk {w : World} {Q : Nat → Prop} {x : Pr} : tPr.rep w Q (x.cells) x :=
  ⟨_, _, rfl, ⟨rfl, trivial⟩, ⟨rfl, trivial⟩⟩
theorem Pr.one {x : Pr} : (x.cells).all (fun u => u.oneCell') = true := (ones_app rfl rfl)
structure Frame where
  kind : Nat
  flags : Nat
  size : Nat
structure Sq where
  l : List Int
  pos : Nat
def Sq.cells (x : Sq) (v0 : Value) : List Value :=
  [v0] ++ ([(.int .i64 ((x.pos : Nat) : Int))])
def Sq.ok (x : Sq) : Prop := x.pos < 9223372036854775808
end Go.Wk
namespace Go.Wk
open Go Go.RowKit
end Go.Wk
namespace Go.Wk
open Go Go.RowKit
def payload (p : Pr) : List UInt8 := p.name ++ [61] ++ p.value
theorem payload_len (p : Pr) : (payload p).length = p.name.length + 1 + p.value.length := by simp [payload]; omega
end Go.Wk
namespace Go.Wk
open Go Go.RowKit
end Go.Wk
namespace Go.Wk
open Go Go.RowKit
end Go.Wk
namespace Go.Wk
open Go Go.RowKit
def Pr.pb (p : Pr) : PairB := (p.name, p.value)
section
variable {P : Program} {n : Nat} {A : Fr n} {D : List Deferred} {l : List (Nat × Value)} {w : World} {d : Option Tmp} {ty : TypeId} {ps : String} {af : Array Edge} {g : Option (Nat × Bool)}
end
end Go.Wk
namespace Go.Wk
open Go Go.RowKit
section
variable {P : Program} {n : Nat} {A : Fr n} {D : List Deferred} {l : List (Nat × Value)} {w : World} {d : Option Tmp} {ty : TypeId} {ps : String} {af : Array Edge} {g : Option (Nat × Bool)}
theorem r_remZ {x y : Operand} {t u : TypeId} {k : IntKind} {a b : Int} (hx : ev n l x = some (.int k a)) (hy : ev n l y = some (.int k b)) (h : b ≠ 0) :
    RunV P ⟨d, .binOp .rem t x y u, ty, ps, af, g⟩ (over A D l).eval w (.int k (a.tmod b)) := r_rem hx hy h
end
def numF (k : Int) (n : Nat) : Nat := if n < 1 then 0 else ((k.tmod n + n).tmod n).toNat
theorem numF_lt (k : Int) (n : Nat) : n < 1 ∨ numF k n < n := by
  unfold numF
  by_cases h : n < 1
  · exact .inl h
  · rw [if_neg h]
    have h1 := Int.tmod_lt_of_pos (k.tmod n + n) (show (0 : Int) < n by omega)
    right; omega
theorem num_ge {k : Int} {n : Nat} (h : ¬ n < 1) : 0 ≤ k.tmod n + n ∧ k.tmod n + n < 2 * n := by
  have h1 := Int.tmod_lt_of_pos k (show (0 : Int) < n by omega)
  have h2 := Int.lt_tmod_of_pos k (show (0 : Int) < n by omega)
  omega
def Sq.num (s : Sq) (n : Nat) : Nat × Sq := if s.l.length ≤ s.pos then (0, s) else (numF (s.l.getD s.pos 0) n, { s with pos := s.pos + 1 })
def Sq.more (s : Sq) : Bool × Sq := (decide (s.pos < s.l.length), s)
def namesF : List (List UInt8) := [[65], [66], [77, 69, 83, 83, 65, 71, 69], [95, 80, 73, 68], [88, 95, 49], [80, 82, 73, 79, 82, 73, 84, 89]]
def valuesF : List (List UInt8) := [[], [48], [49], [50, 50], [97, 61, 98], [111, 110, 101, 10, 116, 119, 111], [0, 255], [116, 97, 98, 9, 104, 101, 114, 101], [108, 111, 110, 103, 32, 108, 111, 110, 103, 32, 108, 111, 110, 103, 32, 108, 111, 110, 103, 32, 108, 111, 110, 103, 32, 108, 111, 110, 103, 32, 108, 111, 110, 103], [126, 127, 128]]
theorem namesF_len : namesF.length = 6 := rfl
theorem valuesF_len : valuesF.length = 10 := rfl
def Sq.pair (s : Sq) : Pr × Sq :=
  match s.num 6 with
  | (a, s1) =>
    match s1.num 10 with
    | (b, s2) => ({ name := namesF.getD a [], value := valuesF.getD b [] }, s2)
theorem Sq.num_le (s : Sq) (n : Nat) : (s.num n).1 ≤ n - 1 := by
  unfold Sq.num
  split
  · simp
  · simp only
    rcases numF_lt (s.l.getD s.pos 0) n with h | h
    · simp [numF, h]
    · omega
def pairsL : Nat → Sq → List Pr → List Pr × Sq
  | 0, s, o => (o, s)
  | n + 1, s, o => match s.pair with
    | (p, s1) => pairsL n s1 (o ++ [p])
def Sq.pairs (s : Sq) (most : Nat) : List Pr × Sq :=
  match s.num most with
  | (n, s1) => pairsL (n + 1) s1 []
theorem pairs_end {n : Nat} {s : Sq} {o : List Pr} (h : ¬ 0 < n) : pairsL n s o = (o, s) := by rw [show n = 0 by omega]; rfl
theorem pairs_step {n : Nat} {s : Sq} {o : List Pr} (h : 0 < n) : pairsL n s o = pairsL (n - 1) s.pair.2 (o ++ [s.pair.1]) := by
  obtain ⟨k, rfl⟩ : ∃ k, n = k + 1 := ⟨n - 1, by omega⟩
  rfl
theorem names_bd (a : Nat) : (namesF.getD a []).length ≤ 64 := by
  match a with
  | 0 | 1 | 2 | 3 | 4 | 5 => decide
  | n + 6 => simp [namesF]
theorem values_bd (a : Nat) : (valuesF.getD a []).length ≤ 256 := by
  match a with
  | 0 | 1 | 2 | 3 | 4 | 5 | 6 | 7 | 8 | 9 => decide
  | n + 10 => simp [valuesF]
theorem pair_bd (s : Sq) : s.pair.1.name.length ≤ 64 ∧ s.pair.1.value.length ≤ 256 := ⟨names_bd _, values_bd _⟩
theorem pairsL_bd (n : Nat) : ∀ (s : Sq) (o : List Pr), (∀ q ∈ o, q.name.length ≤ 64 ∧ q.value.length ≤ 256) → (∀ q ∈ (pairsL n s o).1, q.name.length ≤ 64 ∧ q.value.length ≤ 256) ∧ (pairsL n s o).1.length = o.length + n := by
  induction n with
  | zero => exact fun s o h => ⟨h, rfl⟩
  | succ n ih =>
    intro s o h
    have := ih s.pair.2 (o ++ [s.pair.1]) (fun q hq => by
      rcases List.mem_append.1 hq with hq | hq
      · exact h q hq
      · rw [List.mem_singleton.1 hq]; exact pair_bd s)
    refine ⟨this.1, ?_⟩
    have h2 := this.2
    rw [List.length_append, List.length_singleton] at h2
    rw [show pairsL (n + 1) s o = pairsL n s.pair.2 (o ++ [s.pair.1]) from rfl, h2]; omega
theorem pairs_bd (s : Sq) (most : Nat) : (∀ q ∈ (s.pairs most).1, q.name.length ≤ 1000000 ∧ q.value.length ≤ 1000000) ∧ (s.pairs most).1.length ≤ most + 1 := by
  have h := pairsL_bd ((s.num most).1 + 1) (s.num most).2 [] (by simp)
  have h2 := s.num_le most
  have e : s.pairs most = pairsL ((s.num most).1 + 1) (s.num most).2 [] := rfl
  rw [e]
  refine ⟨fun q hq => ⟨by have := (h.1 q hq).1; omega, by have := (h.1 q hq).2; omega⟩, ?_⟩
  rw [h.2]; simp; omega
end Go.Wk
namespace Go.Wk
open Go Go.RowKit
section
variable {P : Program} {Q : Exit → Act → World → Prop} {n : Nat} {A : Fr n} {D : List Deferred} {l : List (Nat × Value)} {w : World}

end
end Go.Wk
namespace Go.Wk
open Go Go.RowKit
end Go.Wk
namespace Go.Wk
open Go Go.RowKit
/-! chains -/
/-! what holds of a maker, and while a record is put behind the others -/
/-! the list of fields -/
/-! the data of a record -/
end Go.Wk
namespace Go.Wk
open Go Go.RowKit
section
variable {P : Program} {ops : Array Oper} {md : Region.Mode} {C : World → Prop} {Q : Exit → Act → World → Prop} {QN : Act → World → Prop}
variable {n : Nat} {A : Fr n} {D : List Deferred} {l : List (Nat × Value)} {w : World} {f : Nat} {listed : Array Bool}
theorem c_anyR {R : Act → World → Prop} {id : Nat} {lo : List Oper} {a : Act} (C : World → Prop) (hm : P.follows .mixedOrders = true) (hk : ∀ a' w', R a' w' → Q .normal a' w')
    (h : ∀ w', Md [] w w' → wpAnyC P .any lo.toArray C R lo.length (Array.replicate lo.length false) a w') : (Code.region id lo.toArray true).wp P Q a w := by
  refine wp_region_any hm (wpAny_of_C (C := C) (QN := R) hk _ _ _ _ ?_)
  have := h _ (Md.drew w)
  simpa using this
theorem any_0 {a : Act} (hr : (Region.ready md ops listed).isEmpty = true) (h : QN a w) : wpAnyC P md ops C QN 0 listed a w := ⟨by simpa using hr, h⟩
theorem any_q {i d : Nat} {op : Op} {ty : TypeId} {ps : String} {af : Array Edge} (v : Value) (hi : ops[i]? = some ⟨some d, op, ty, ps, af, none⟩) (hs : Region.noSelect ops = true) (hB : ((Region.ready md ops listed).contains i && Region.free md ops listed i) = true) (hC : C w)
    (hv : ∀ w', C w' → RunV P ⟨some d, op, ty, ps, af, none⟩ (over A D l).eval w' v) (k : wpAnyC P md ops C QN f (listed.setIfInBounds i true) (over A D ((d, v) :: l)) w) : wpAnyC P md ops C QN (f + 1) listed (over A D l) w := by
  simp only [Bool.and_eq_true] at hB
  exact wpAnyC_first hi (Region.noSelect_spec hs) f listed _ w (Region.free_spec hi hB.2) (by simpa using hB.1) hC (.inl ⟨by simp [Region.wanted], fun w' hc => hv w' hc⟩) k
theorem opC_of {i : Nat} {o : Oper} {a : Act} {K : Act → World → Prop} (hi : ops[i]? = some o) (hg : o.guard = none) (h : wpList P ops (fun e a' w' => e = .normal ∧ C w' ∧ K a' w') [o] a w) : opC P ops C i K a w := by
  have hw : Region.wanted o (yielded ops a.tmps) = true := by unfold Region.wanted; rw [hg]
  unfold opC
  simp only [hi]
  rw [if_pos hw]
  unfold wpList at h
  rw [if_pos hw] at h
  rcases h with h | h
  · unfold Oper.wp at *
    generalize (execOp a.eval o).run P w = r at *
    cases r with
    | ok x w' =>
      cases x <;> simp only [Oper.upon] at h ⊢
      case value v => exact (show _ ∧ _ from h).2
      case skip => exact (show _ ∧ _ from h).2
      case defer d => exact (show _ ∧ _ from h).2
      case enter f args =>
        refine h.mono fun e w'' hx => ?_
        cases e with
        | returned v => exact (show _ ∧ _ from hx).2
        | panicked c => exact absurd hx.1 (by simp)
        | outgrown => obtain ⟨_, _, hx⟩ := hx; exact absurd hx.1 (by simp)
      case row r args => exact h.mono fun v w'' hx => (show _ ∧ _ from hx).2
    | halt x w' =>
      cases x <;> simp only [Oper.upon] at h ⊢
      exact absurd h.1 (by simp)
  · obtain ⟨_, _, _, hx⟩ := h; exact absurd hx.1 (by simp)
theorem any_1 {i : Nat} {o : Oper} {a : Act} (hr : decide (Region.ready md ops listed = [i]) = true) (hi : ops[i]? = some o) (hg : o.guard = none)
    (h : wpList P ops (fun e a' w' => e = .normal ∧ C w' ∧ wpAnyC P md ops C QN f (listed.setIfInBounds i true) a' w') [o] a w) : wpAnyC P md ops C QN (f + 1) listed a w := by
  have hr := of_decide_eq_true hr
  refine ⟨fun h3 => (by rw [hr] at h3; cases h3), fun k hk => ?_⟩
  rw [hr] at hk
  have : k = i := by simpa using hk
  subst this
  exact opC_of hi hg h
theorem any_2 {i j : Nat} {o o' : Oper} {a : Act} (hr : decide (Region.ready md ops listed = [i, j]) = true) (hi : ops[i]? = some o) (hg : o.guard = none) (hj : ops[j]? = some o') (hg' : o'.guard = none)
    (h : wpList P ops (fun e a' w' => e = .normal ∧ C w' ∧ wpAnyC P md ops C QN f (listed.setIfInBounds i true) a' w') [o] a w)
    (h' : wpList P ops (fun e a' w' => e = .normal ∧ C w' ∧ wpAnyC P md ops C QN f (listed.setIfInBounds j true) a' w') [o'] a w) : wpAnyC P md ops C QN (f + 1) listed a w := by
  have hr := of_decide_eq_true hr
  refine ⟨fun h3 => (by rw [hr] at h3; cases h3), fun k hk => ?_⟩
  rw [hr] at hk
  have : k = i ∨ k = j := by simpa using hk
  rcases this with rfl | rfl
  · exact opC_of hi hg h
  · exact opC_of hj hg' h'
end
/-! a row that is made anew in a region of left-open order -/
theorem els_any {β : Type} {f : β → Value} {h1 : ∀ x, (f x).oneCell' = true} {ok : β → Prop} {w w' : World} {R R' : Nat → Prop} : ∀ {xs : List β} {cs : List Value}, Els (tOne f h1 ok) w R cs xs → Els (tOne f h1 ok) w' R' cs xs
  | [], _, h => h
  | _ :: _, _, ⟨c, r, h0, h1, h2⟩ => ⟨c, r, h0, h1, els_any h2⟩
theorem lz_any {β : Type} {f : β → Value} {h1 : ∀ x, (f x).oneCell' = true} {ok : β → Prop} {w w' : World} {R R' : Nat → Prop} {v : Value} {xs : List β} (h : Lz (tOne f h1 ok) w R v xs) (m : Md [] w w') : Lz (tOne f h1 ok) w' R' v xs := by
  obtain ⟨a, cap, cs, h0, h1, h2, h3, h4, h5⟩ := h
  exact ⟨a, cap, cs, h0, h1, h2, h3, fun p hp j u hj => m.cell (h4 p hp j u hj) (by simp), els_any h5⟩
theorem lz_one {β : Type} {f : β → Value} {h1 : ∀ x, (f x).oneCell' = true} {ok : β → Prop} {w : World} {R : Nat → Prop} {b e : Nat} {x : β} (h : Blk w b [f x] e) (hx : ok x) : Lz (tOne f h1 ok) w R (.slice (some ⟨b, 0, none⟩) 1 1) [x] := by
  have h2 : Ls (tOne f h1 ok) w (fun _ => True) (.slice (some ⟨b, 0, none⟩) 1 1) [x] := Ls.of_blk (cs := [f x]) h ⟨[f x], [], rfl, ⟨rfl, hx⟩, rfl⟩ rfl (by decide) trivial
  exact lz_any h2.lz (Md.refl _ _)
/-- A row of the run's own that is newer than a world. -/
structure New1 {α : Type} (T : Dt α) (w0 : World) (Q0 : Nat → Prop) (e : TypeId) (w : World) (R : Nat → Prop) (v : Value) (xs : List α) : Prop where
  md : Md [] w0 w
  s : ∀ b, Q0 b → b < w0.heap.size → R b
  t : ∀ b, R b → Q0 b
  up : Up w R
  ow : Ow T e (Fsh [] w0) w R v xs
section
variable {α : Type} {T : Dt α} {P : Program} {ops : Array Oper} {Q : Exit → Act → World → Prop} {n : Nat} {A : Fr n} {D : List Deferred} {l : List (Nat × Value)} {w : World} {rest : List Oper}
theorem New1.mk0 {w0 w1 w : World} {Q0 : Nat → Prop} {e b : Nat} (uQ : Up w0 Q0) (h1 : Md [] w0 w1) (h2 : w1.heap.size ≤ b) (h3 : b < w.heap.size) (hm : Md [] w1 w) (hB : Blk w b [] e) :
    ∃ R, New1 T w0 Q0 e w R (.slice (some ⟨b, 0, none⟩) 0 0) [] := by
  obtain ⟨R, s, t, nb, u⟩ := exQ (uQ.md h1) h2 h3 hm
  exact ⟨R, h1.step0 hm, fun b hb hl => s b hb (Nat.lt_of_lt_of_le hl h1.size), t, u, Ow.of_blk hB rfl rfl (by decide) (.inr (Nat.le_trans h1.size h2)) nb⟩
theorem New1.md0 {w0 w w' : World} {Q0 R : Nat → Prop} {e : TypeId} {v : Value} {xs : List α} (h : New1 T w0 Q0 e w R v xs) (m : Md [] w w') : New1 T w0 Q0 e w' R v xs :=
  ⟨h.md.step0 m, h.s, h.t, h.up.md m, h.ow.md0 m⟩
theorem st_apF {d : Nat} {x y : Operand} {ty : TypeId} {ps : String} {af : Array Edge} {t e : TypeId} {sz by' : Nat} {v u : Value} {xs ys : List α} {w0 : World} {Q0 R : Nat → Prop} (hn : T.n = sz) (ht : P.underlying t = some (.slice e)) (hE : elT P e sz by' = true) (hx : ev n l x = some v) (hy : ev n l y = some u)
    (F : New1 T w0 Q0 e w R v xs) (hY : Lz T w R u ys) (h63 : xs.length + ys.length ≤ 100000) (hb : by' ≤ 1000)
    (k : ∀ v' w' R', New1 T w0 Q0 e w' R' v' (xs ++ ys) → Md (vblock v).toList w w' → wpList P ops Q rest (over A D ((d, v') :: l)) w') :
    wpList P ops Q (⟨some d, .call { callee := .builtin .append, args := #[x, y], argTypes := #[t, t] }, ty, ps, af, none⟩ :: rest) (over A D l) w := by
  refine st_apZ hn ht hE hx hy F.ow hY F.up (fun b hb => .inr (Nat.le_trans F.md.size hb)) (by omega) ?_ ?_
  · exact Nat.le_trans (Nat.mul_le_mul h63 hb) (by decide)
  · intro v' w' R' h1 h2 h3 h4 h5 h6 h7 h8
    refine k v' w' R' ⟨F.md.stepO h5 fun b hb => (F.ow.2 b hb).1, fun b hb hl => h1 b (F.s b hb hl) (Nat.lt_of_lt_of_le hl F.md.size), fun b hb => F.t b (h2 b hb), h3, h4⟩ h5
end
/-! slots of a frame -/
/-! Append's own steps -/
end Go.Wk
namespace Go.Wk
open Go Go.RowKit
section
variable {P : Program} {ops : Array Oper} {Q : Exit → Act → World → Prop} {rest : List Oper}
variable {n : Nat} {A : Fr n} {D : List Deferred} {l : List (Nat × Value)} {w : World}
variable {d : Tmp} {ty : TypeId} {ps : String} {af : Array Edge} {g : Option (Nat × Bool)}
/-- copy(x, y), elements of so many cells, x in a block. -/
theorem st_copyN {x y : Operand} {t t' e ty' : TypeId} {b o sz dLen dCap sLen sCap : Nat} {p : Addr} {cs ys : List Value} (ht : P.underlying t = some (.slice e)) (hE : elemIs P e sz = true) (hx : ev n l x = some (.slice (some ⟨b, o, none⟩) dLen dCap)) (hy : ev n l y = some (.slice (some p) sLen sCap))
    (hB : Blk w b cs ty') (hl : ys.length = min sLen dLen * sz) (hS : ∀ j u, ys[j]? = some u → w.cell? (p.add j) = some u) (h1 : OneC ys) (hfit : o + ys.length ≤ cs.length)
    (k : ∀ w', Md [b] w w' → Blk w' b (splice cs o ys) ty' → wpList P ops Q rest (over A D ((d, .int .i64 (min sLen dLen : Nat)) :: l)) w') :
    wpList P ops Q (⟨some d, .call { callee := .builtin .copy, args := #[x, y], argTypes := #[t, t'] }, ty, ps, af, none⟩ :: rest) (over A D l) w := by
  refine wl_plain rfl ?_
  unfold elemIs at hE
  split at hE
  case h_2 => cases hE
  rename_i inf hinf
  have hsz : inf.size = sz := by simpa using hE
  have hld := run_firstCells_some (w := w) (P := P) sz (min sLen dLen) p sLen sCap ys hl hS
  have hst := run_storeCells_at P b o ty' ys 0 cs.toArray w hB (by simpa using hfit) h1
  have hrun : (execOp (over A D l).eval ⟨some d, .call { callee := .builtin .copy, args := #[x, y], argTypes := #[t, t'] }, ty, ps, af, none⟩).run P w =
      .ok (.value (.int .i64 (min sLen dLen : Nat))) (w.setRow b (splice cs o ys).toArray) := by
    simp only [Nat.add_zero] at hst
    simp [execOp, resolve, invoke, builtin, ev_eval hx, ev_eval hy, Builtin.copy_, run_underlying ht, Builtin.lenOf, run_sizeOf hinf, hsz, hld, hst, goInt, splice]
  unfold Oper.wp
  rw [hrun]
  exact k _ (Md.setRow w b _) hB.setRow
theorem r_cap {x : Operand} {a : Option Addr} {m cp : Nat} {t e : TypeId} (hx : ev n l x = some (.slice a m cp)) (hT : P.underlying t = some (.slice e)) :
    RunV P ⟨some d, .call { callee := .builtin .cap, args := #[x], argTypes := #[t] }, ty, ps, af, g⟩ (over A D l).eval w (.int .i64 (cp : Int)) := by
  simp [RunV, execOp, ev_eval hx, resolve, invoke, builtin, Builtin.cap_, run_underlying hT, goInt]
/-- 's[:h]' up to the capacity. -/
theorem r_sliceC {x hi : Operand} {a : Option Addr} {m cp h e : Nat} {t : TypeId} {kd : IntKind} (sz : Nat) (hT : P.underlying t = some (.slice e)) (hE : elemIs P e sz = true) (hx : ev n l x = some (.slice a m cp)) (hh : ev n l hi = some (.int kd (h : Int))) (hc : h ≤ cp) (h0 : cp ≠ 0) :
    RunV P ⟨some d, .slice t x none (some hi) none, ty, ps, af, g⟩ (over A D l).eval w (.slice (a.map (·.add 0)) h cp) := by
  unfold elemIs at hE
  split at hE
  · rename_i inf hinf
    have hsz : inf.size = sz := by simpa using hE
    simp [RunV, execOp, ev_eval hx, ev_eval hh, Instr.sliceAt, Instr.slice, Instr.sliceBounds, Instr.sliceBound, asIntOf, run_underlying hT, run_sizeOf hinf, hc, hsz, h0]
  · cases hE
/-- append(x, y...) of cells, x the run's own. -/
theorem st_apO {x y : Operand} {t e : TypeId} {sz by' m k c : Nat} {v : Value} {p : Addr} {xs ys : List Value} (ht : P.underlying t = some (.slice e)) (hE : elT P e sz by' = true) (hsz : 0 < sz) (hx : ev n l x = some v) (hy : ev n l y = some (.slice (some p) k c))
    (hO : Own w e sz v m xs) (hl : ys.length = k * sz) (hS : ∀ j u, ys[j]? = some u → w.cell? (p.add j) = some u) (h1 : OneC ys) (h63 : m + k ≤ maxLen) (hbytes : (m + k) * by' ≤ 140737488355328)
    (kk : ∀ v' w', Own w' e sz v' (m + k) (xs ++ ys) → Md (vblock v).toList w w' → (∀ b, vblock v' = some b → vblock v = some b ∨ w.heap.size ≤ b) → wpList P ops Q rest (over A D ((d, v') :: l)) w') :
    wpList P ops Q (⟨some d, .call { callee := .builtin .append, args := #[x, y], argTypes := #[t, t] }, ty, ps, af, none⟩ :: rest) (over A D l) w := by
  refine wl_plain rfl ?_
  obtain ⟨v', w', hr, h7, h8, h9, h10⟩ := run_append_ex (P := P) (w := w) (ty' := ty) ht hE hsz hO (a := some p) (k := k) (c := c) (news := ys) hl (fun h => by cases h) (fun q hq => by cases hq; exact hS) h1 h63 hbytes
  have hrun : (execOp (over A D l).eval ⟨some d, .call { callee := .builtin .append, args := #[x, y], argTypes := #[t, t] }, ty, ps, af, none⟩).run P w = .ok (.value v') w' := by
    simp [execOp, resolve, invoke, builtin, ev_eval hx, ev_eval hy, hr]
  unfold Oper.wp
  rw [hrun]
  exact kk v' w' h7 h8 h10
/-- append(x, make(.., k)...): x has no room: the row is new. -/
theorem st_apZeros {x y : Operand} {t tn e : TypeId} {sz by' m c k : Nat} {kn kq : IntKind} {p : Addr} {xs : List Value} (ht : P.underlying t = some (.slice e)) (htn : P.underlying tn = some (.int kn)) (hE : elT P e sz by' = true) (hsz : 0 < sz) (hx : ev n l x = some (.slice (some p) m c)) (hy : ev n l y = some (.int kq (k : Int)))
    (hl : xs.length = m * sz) (hS : ∀ j u, xs[j]? = some u → w.cell? (p.add j) = some u) (hk : 0 < k) (hg : c < m + k) (h63 : m + k ≤ 1000000000) (hb : by' ≤ 64)
    (kk : ∀ b cp cur w', w.heap.size ≤ b → b < w'.heap.size → Md [] w w' → Blk w' b cur e → cur.length = cp * sz → cur.take (m * sz) = xs → m + k ≤ cp → cp ≤ maxLen → wpList P ops Q rest (over A D ((d, .slice (some ⟨b, 0, none⟩) (m + k) cp) :: l)) w') :
    wpList P ops Q (⟨some d, .call { callee := .builtin .append, args := #[x, y], argTypes := #[t, tn] }, ty, ps, af, none⟩ :: rest) (over A D l) w := by
  refine wl_plain rfl ?_
  obtain ⟨i, z, hi, hz, hs, hbb, hzs⟩ := elT_spec hE
  have hfit : (m + k) * i.bytes ≤ 140737488355328 := by rw [hbb]; exact Nat.le_trans (Nat.mul_le_mul h63 hb) (by decide)
  have hk48 : k * i.bytes ≤ 281474976710656 := by
    have : k * i.bytes ≤ (m + k) * i.bytes := Nat.mul_le_mul_right _ (by omega)
    omega
  have hr := Lib.run_append_grow_zeros (P := P) w t tn ty e i z kq kn ht htn hi hz (some p) m c xs (by rw [hs]; exact run_firstCells_some (w := w.drew) sz m p m c xs hl hS) k hk (by omega) hg (by omega) hk48 (growslice_fits hg hfit)
  have hrun : (execOp (over A D l).eval ⟨some d, .call { callee := .builtin .append, args := #[x, y], argTypes := #[t, tn] }, ty, ps, af, none⟩).run P w = .ok (.value (.slice (some ⟨w.heap.size, 0, none⟩) (m + k) (grownCap w (m + k) c e)))
        (w.drew.alloc (.cells (xs.toArray ++ Builtin.zeroCells z.cells k ++ Builtin.zeroCells z.cells (grownCap w (m + k) c e - (m + k))) e)) := by
    simp [execOp, resolve, invoke, builtin, ev_eval hx, ev_eval hy, hr]
  unfold Oper.wp
  rw [hrun]
  have hge := grownCap_ge w (m + k) c e
  have hcm := grownCap_le_maxLen w (m + k) c e (by simp only [maxLen]; omega)
  have hlen : ((xs.toArray ++ Builtin.zeroCells z.cells k ++ Builtin.zeroCells z.cells (grownCap w (m + k) c e - (m + k))).toList).length = grownCap w (m + k) c e * sz := by
    simp only [Array.length_toList, Array.size_append, List.size_toArray, size_zeroCells, hzs, hl, ← Nat.add_mul]
    congr 1
    omega
  refine kk w.heap.size _ (xs.toArray ++ Builtin.zeroCells z.cells k ++ Builtin.zeroCells z.cells (grownCap w (m + k) c e - (m + k))).toList _ (Nat.le_refl _) (by simp) ⟨rfl, rfl, rfl, by simp, fun k hk _ => heap_alloc_old w.drew _ hk⟩ ?_ hlen ?_ hge hcm
  · have := heap_alloc_new w.drew (.cells (xs.toArray ++ Builtin.zeroCells z.cells k ++ Builtin.zeroCells z.cells (grownCap w (m + k) c e - (m + k))) e)
    unfold Blk
    rw [Array.toArray_toList]
    exact this
  · rw [← hl]; simp
end
section
variable {P : Program} {ops : Array Oper} {Q : Exit → Act → World → Prop} {rest : List Oper}
variable {n : Nat} {A : Fr n} {D : List Deferred} {l : List (Nat × Value)} {w : World}
variable {d : Tmp} {ty : TypeId} {ps : String} {af : Array Edge}
/-- An operation that is asked for: as one that none asks of. -/
theorem st_ung {d' : Option Tmp} {op : Op} {j t : Nat} {o : Oper} {b want : Bool} (ho : ops[j]? = some o) (ht : o.dst = some t) (hy : ev n l (.tmp t) = some (.bool b)) (hb : b = want)
    (h : wpList P ops Q (⟨d', op, ty, ps, af, none⟩ :: rest) (over A D l) w) : wpList P ops Q (⟨d', op, ty, ps, af, some (j, want)⟩ :: rest) (over A D l) w := by
  unfold wpList at h ⊢
  rw [if_pos (by simp [Region.wanted])] at h
  rw [if_pos (by simp [Region.wanted, yielded_of ho ht hy, hb])]
  exact h
theorem st_callV_g {f : FuncId} {c : Operand} {xs : List Operand} {ts : Array TypeId} {vs cs : List Value} {R : Ending → World → Prop} {j t : Nat} {o : Oper} {b want : Bool} (ho : ops[j]? = some o) (ht : o.dst = some t) (hy : ev n l (.tmp t) = some (.bool b)) (hb : b = want)
    (hc : ev n l c = some (.func (.func f) #[] cs.toArray)) (hf : isFn P f = true) (ha : evs n l xs = some vs) (hr : Calls P f (vs ++ cs).toArray w R)
    (k : ∀ e w', R e w' → ∃ v, e = .returned v ∧ wpList P ops Q rest (over A D ((d, v) :: l)) w') :
    wpList P ops Q (⟨some d, .call { callee := .value c, args := xs.toArray, argTypes := ts }, ty, ps, af, some (j, want)⟩ :: rest) (over A D l) w := by
  unfold wpList; rw [if_pos (by simp [Region.wanted, yielded_of ho ht hy, hb])]
  refine .inl ?_
  unfold Oper.wp
  have he := evs_eval (A := A) (D := D) ha
  have h0 : (execOp (over A D l).eval ⟨some d, .call { callee := .value c, args := xs.toArray, argTypes := ts }, ty, ps, af, some (j, want)⟩).run P w = .ok (.enter f (vs ++ cs).toArray) w := by
    simp only [execOp, resolve, ev_eval hc, Deferred.ofValue, List.map_toArray, he]
    simp [invoke, run_callFunc hf]
  rw [h0]
  refine hr.mono fun e w' hR => ?_
  obtain ⟨v, rfl, hk⟩ := k e w' hR
  exact hk
end
section
variable {P : Program} {n : Nat} {A : Fr n} {D : List Deferred} {l : List (Nat × Value)} {w : World} {d : Option Tmp} {ty : TypeId} {ps : String} {af : Array Edge} {g : Option (Nat × Bool)}
end
theorem any_3 {P : Program} {ops : Array Oper} {md : Region.Mode} {C : World → Prop} {QN : Act → World → Prop} {w : World} {f : Nat} {listed : Array Bool} {i j k : Nat} {o o' o'' : Oper} {a : Act} (hr : decide (Region.ready md ops listed = [i, j, k]) = true) (hi : ops[i]? = some o) (hg : o.guard = none) (hj : ops[j]? = some o') (hg' : o'.guard = none) (hk : ops[k]? = some o'') (hg'' : o''.guard = none)
    (h : wpList P ops (fun e a' w' => e = .normal ∧ C w' ∧ wpAnyC P md ops C QN f (listed.setIfInBounds i true) a' w') [o] a w)
    (h' : wpList P ops (fun e a' w' => e = .normal ∧ C w' ∧ wpAnyC P md ops C QN f (listed.setIfInBounds j true) a' w') [o'] a w)
    (h'' : wpList P ops (fun e a' w' => e = .normal ∧ C w' ∧ wpAnyC P md ops C QN f (listed.setIfInBounds k true) a' w') [o''] a w) : wpAnyC P md ops C QN (f + 1) listed a w := by
  have hr := of_decide_eq_true hr
  refine ⟨fun h3 => (by rw [hr] at h3; cases h3), fun q hq => ?_⟩
  rw [hr] at hq
  have : q = i ∨ q = j ∨ q = k := by simpa using hq
  rcases this with rfl | rfl | rfl
  · exact opC_of hi hg h
  · exact opC_of hj hg' h'
  · exact opC_of hk hg'' h''
theorem blk_shape {w : World} {b e : Nat} {cs : List Value} (h : Blk w b cs e) : w.shape? b = some (e, cs.length) := by
  unfold Blk at h; unfold World.shape?; rw [h]; simp
theorem blk_plain {w : World} {b e o : Nat} {cs : List Value} (h : Blk w b cs e) : w.frozen? ⟨b, o, none⟩ = false := by
  unfold Blk at h; unfold World.frozen?; simp only; rw [h]; simp
theorem ins_shift {cur xs cs : List Value} {a s m : Nat} (ha : a ≤ m) (hx : cur.take m = xs) (hc : cs.length = s) (hm : m + s ≤ cur.length) :
    (splice (splice cur (a + s) (xs.drop a)) a cs).take (m + s) = xs.take a ++ cs ++ xs.drop a := by
  have hxl : xs.length = m := by rw [← hx, List.length_take]; omega
  have e0 : (cur.take (a + s)).take a = xs.take a := by rw [List.take_take, Nat.min_eq_left (by omega), ← hx, List.take_take, Nat.min_eq_left ha]
  have l1 : (cur.take (a + s)).length = a + s := by rw [List.length_take]; omega
  have e2 : splice cur (a + s) (xs.drop a) = cur.take (a + s) ++ (xs.drop a ++ cur.drop (a + s + (xs.drop a).length)) := by unfold splice; rw [List.append_assoc]
  have e3 : (splice cur (a + s) (xs.drop a)).take a = xs.take a := by rw [e2, List.take_append_of_le_length (by omega), e0]
  have e4 : (splice cur (a + s) (xs.drop a)).drop (a + s) = xs.drop a ++ cur.drop (a + s + (xs.drop a).length) := by rw [e2, List.drop_append_of_le_length (by omega), List.drop_of_length_le (by omega), List.nil_append]
  generalize splice cur (a + s) (xs.drop a) = z at *
  unfold splice
  have l2 : (xs.take a ++ cs ++ xs.drop a).length = m + s := by simp only [List.length_append, List.length_take, List.length_drop, hc, hxl]; omega
  rw [hc, e3, e4, ← List.append_assoc, List.take_append_of_le_length (by omega), List.take_of_length_le (by omega)]
theorem ins_new {cur xs cs : List Value} {a s m : Nat} (ha : a ≤ m) (hxl : xs.length = m) (hx : cur.take a = xs.take a) (hc : cs.length = s) (hm : m + s ≤ cur.length) :
    (splice (splice cur a cs) (a + s) (xs.drop a)).take (m + s) = xs.take a ++ cs ++ xs.drop a := by
  have l0 : (cur.take a).length = a := by rw [List.length_take]; omega
  have l1 : (cur.take a ++ cs).length = a + s := by rw [List.length_append]; omega
  have e1 : (splice cur a cs).take (a + s) = xs.take a ++ cs := by
    unfold splice
    rw [List.take_append_of_le_length (by omega), List.take_of_length_le (by omega), hx]
  unfold splice at e1 ⊢
  rw [e1, List.take_append_of_le_length (by simp only [List.length_append, List.length_take, List.length_drop, hc, hxl]; omega), List.take_of_length_le (by simp only [List.length_append, List.length_take, List.length_drop, hc, hxl]; omega)]
theorem own_one {w : World} {e sz m : Nat} {v : Value} {xs : List Value} (h : Own w e sz v m xs) : xs.length = m * sz := h.1
end Go.Wk
namespace Go.Wk
open Go Go.Op

theorem bl_irr : ∀ a : List UInt8, bytesLess a a = false
  | [] => rfl
  | x :: a => by simp [bytesLess, bl_irr a]
theorem bl_trans : ∀ {a b c : List UInt8}, bytesLess a b = true → bytesLess b c = true → bytesLess a c = true
  | _, [], _, h, _ => by unfold bytesLess at h; cases h
  | _, _ :: _, [], _, h => by unfold bytesLess at h; cases h
  | [], _ :: _, _ :: _, _, _ => rfl
  | x :: a, y :: b, z :: c, h1, h2 => by
    simp only [bytesLess, Bool.or_eq_true, decide_eq_true_eq, Bool.and_eq_true, beq_iff_eq] at *
    rcases h1 with h1 | ⟨rfl, h1⟩ <;> rcases h2 with h2 | ⟨rfl, h2⟩
    · exact .inl (UInt8.lt_trans h1 h2)
    · exact .inl h1
    · exact .inl h2
    · exact .inr ⟨rfl, bl_trans h1 h2⟩
theorem bl_tri : ∀ {a b : List UInt8}, bytesLess a b = false → bytesLess b a = false → a = b
  | [], [], _, _ => rfl
  | [], _ :: _, h, _ => by unfold bytesLess at h; cases h
  | _ :: _, [], _, h => by unfold bytesLess at h; cases h
  | x :: a, y :: b, h1, h2 => by
    simp only [bytesLess, Bool.or_eq_false_iff, decide_eq_false_iff_not, Bool.and_eq_false_iff, beq_eq_false_iff_ne] at *
    have hxy : x = y := by
      have h3 := h1.1; have h4 := h2.1
      exact UInt8.le_antisymm (UInt8.not_lt.1 h4) (UInt8.not_lt.1 h3)
    subst hxy
    have h3 := h1.2.resolve_left (by simp)
    have h4 := h2.2.resolve_left (by simp)
    rw [bl_tri h3 h4]
end Go.Wk
namespace Go.Wk
open Go Go.RowKit
section
variable {P : Program} {n : Nat} {A : Fr n} {D : List Deferred} {l : List (Nat × Value)} {w : World} {d : Option Tmp} {ty : TypeId} {ps : String} {af : Array Edge} {g : Option (Nat × Bool)}
end
end Go.Wk
namespace Go.Wk
open Go Go.RowKit

/-! ### Worlds that draw and grow -/
section
variable {P : Program} {ops : Array Oper} {Q : Exit → Act → World → Prop} {rest : List Oper}
variable {n : Nat} {A : Fr n} {D : List Deferred} {l : List (Nat × Value)} {w : World}
variable {d : Tmp} {op : Op} {ty : TypeId} {ps : String} {af : Array Edge} {g : Option (Nat × Bool)}
/-! ### A row that is cleared -/
end

section
variable {P : Program} {n : Nat} {A : Fr n} {D : List Deferred} {l : List (Nat × Value)} {w : World} {d : Option Tmp} {ty : TypeId} {ps : String} {af : Array Edge} {g : Option (Nat × Bool)}
end

/-! ### A row of pairs in a block -/
section
variable {w w' : World} {b cap : Nat} {xs : List Pr}
end

/-! ### What is twice is once -/
end Go.Wk
namespace Go.Wk
open Go Go.RowKit
section
variable {P : Program} {ops : Array Oper} {Q : Exit → Act → World → Prop} {rest : List Oper}
variable {n : Nat} {A : Fr n} {D : List Deferred} {l : List (Nat × Value)} {w : World}
variable {d : Tmp} {op : Op} {ty : TypeId} {ps : String} {af : Array Edge} {g : Option (Nat × Bool)}
/-- A call of a function value that is bound to some values. -/
theorem st_callV {f : FuncId} {c : Operand} {xs : List Operand} {ts : Array TypeId} {vs cs : List Value} {R : Ending → World → Prop} (hc : ev n l c = some (.func (.func f) #[] cs.toArray)) (hf : isFn P f = true) (ha : evs n l xs = some vs) (hr : Calls P f (vs ++ cs).toArray w R)
    (k : ∀ e w', R e w' → ∃ v, e = .returned v ∧ wpList P ops Q rest (over A D ((d, v) :: l)) w') :
    wpList P ops Q (⟨some d, .call { callee := .value c, args := xs.toArray, argTypes := ts }, ty, ps, af, none⟩ :: rest) (over A D l) w := by
  refine wl_plain rfl ?_
  unfold Oper.wp
  have he := evs_eval (A := A) (D := D) ha
  have h0 : (execOp (over A D l).eval ⟨some d, .call { callee := .value c, args := xs.toArray, argTypes := ts }, ty, ps, af, none⟩).run P w = .ok (.enter f (vs ++ cs).toArray) w := by
    simp only [execOp, resolve, ev_eval hc, Deferred.ofValue, List.map_toArray, he]
    simp [invoke, run_callFunc hf]
  rw [h0]
  refine hr.mono fun e w' hR => ?_
  obtain ⟨v, rfl, hk⟩ := k e w' hR
  exact hk
theorem r_makeFunc {f : FuncId} {x : Operand} {v : Value} {d' : Option Tmp} (hx : ev n l x = some v) :
    RunV P ⟨d', .makeFunc (.func f) #[] #[x], ty, ps, af, g⟩ (over A D l).eval w (.func (.func f) #[] #[v]) := by
  simp [RunV, execOp, ev_eval hx, Instr.makeFunc]
end

/-! ### The head's bytes -/
end Go.Wk
namespace Go.Wk
open Go Go.RowKit
section
variable {P : Program} {n : Nat} {A : Fr n} {D : List Deferred} {l : List (Nat × Value)} {w : World} {d : Option Tmp} {ty : TypeId} {ps : String} {af : Array Edge} {g : Option (Nat × Bool)}
end
/-! ### A pointer that may be nil -/
section
variable {α : Type} {T : Dt α} {ty : TypeId} {w w' : World} {Q Q' : Nat → Prop} {v : Value} {o : Option α}
variable {P : Program} {n : Nat} {A : Fr n} {D : List Deferred} {l : List (Nat × Value)} {d : Option Tmp} {ty2 : TypeId} {ps : String} {af : Array Edge} {g : Option (Nat × Bool)}
end

/-! ### A view -/
end Go.Wk
namespace Go.Wk
open Go Go.RowKit
section
variable {P : Program} {n : Nat} {A : Fr n} {D : List Deferred} {l : List (Nat × Value)} {w : World} {ops : Array Oper} {rest : List Oper} {Q : Exit → Act → World → Prop}
variable {d : Tmp} {op : Op} {ty : TypeId} {ps : String} {af : Array Edge}
theorem mv {x : Operand} {v : Value} (h : ev n l x = some v) (k : wpList P ops Q rest (over A D ((d, v) :: l)) w) : wpList P ops Q (⟨some d, .move x, ty, ps, af, none⟩ :: rest) (over A D l) w := st v (r_move h) k
theorem asg {x : Operand} {v : Value} (h : ev n l x = some v) (k : wpList P ops Q rest (over A D ((d, v) :: l)) w) : wpList P ops Q (⟨some d, .assign x, ty, ps, af, none⟩ :: rest) (over A D l) w := st v (r_assign h) k
theorem nt {K : Act → World → Prop} {a : Act} (h : K a w) : wpList P ops (Exit.then K Q) [] a w := st_nil (c_then h)
theorem mz {C : World → Prop} {QN : Act → World → Prop} {rest : List (Bool × Oper)} {v : Value} (hr : ∀ w', C w' → RunV P ⟨some d, op, ty, ps, af, none⟩ (over A D l).eval w' v) (k : wpMix P ops C QN rest (over A D ((d, v) :: l)) w) : wpMix P ops C QN ((true, ⟨some d, op, ty, ps, af, none⟩) :: rest) (over A D l) w := Go.Wk.m v hr k
theorem ns {id : Nat} {lo : List Oper} {y : Code} {a : Act} (h : wpList P lo.toArray (Exit.then (fun a w => y.wp P Q a w) Q) lo a w) : (Code.seq (.region id lo.toArray false) y).wp P Q a w := c_seq (c_region h)
end
end Go.Wk
namespace Go.Wk
open Go Go.RowKit
end Go.Wk
namespace Go.Wk
open Go Go.RowKit
end Go.Wk
namespace Go.Wk
open Go Go.RowKit
def splitF (l : List UInt8) : Pr × Nat := ({ name := (splitP l).1, value := (splitP l).2 }, (splitC l).toNat)
theorem splitC_lt (l : List UInt8) : 0 ≤ splitC l ∧ splitC l < 100 := by
  unfold splitC
  repeat' split
  all_goals omega
theorem splitC_nat (l : List UInt8) : splitC l = (((splitC l).toNat : Nat) : Int) := (Int.toNat_of_nonneg (splitC_lt l).1).symm
theorem splitF_lt (l : List UInt8) : (splitC l).toNat < 9223372036854775808 := by have := splitC_lt l; omega
end Go.Wk
namespace Go.Wk
open Go Go.RowKit
structure Alt where
  name : List UInt8
  values : List (List UInt8)
def Alt.cells (x : Alt) (v0 : Value) : List Value :=
  [(str x.name)] ++ ([v0])
def tAlt : Dt Alt := tPull (fun x => (x.name, x.values)) (tProd tStr (tSl tStr))
theorem tAlt_un {w : World} {Q : Nat → Prop} {cs : List Value} {x : Alt} (h : tAlt.rep w Q cs x) : ∃ v0, cs = x.cells v0 ∧ Ls tStr w Q v0 x.values := by
  obtain ⟨_, _, rfl, ⟨rfl, _⟩, ⟨v0, rfl, q1⟩⟩ := h
  exact ⟨v0, rfl, q1⟩
theorem tAlt_mk {w : World} {Q : Nat → Prop} {x : Alt} {v0 : Value} (c0 : Ls tStr w Q v0 x.values) : tAlt.rep w Q (x.cells v0) x :=
  ⟨_, _, rfl, ⟨rfl, trivial⟩, ⟨_, rfl, c0⟩⟩
structure Mat where
  rows : List (List Alt)
def Mat.cells (x : Mat) (v0 : Value) : List Value :=
  [v0]
theorem Mat.one {x : Mat} {v0 : Value} (h0 : v0.oneCell' = true) : (x.cells v0).all (fun u => u.oneCell') = true := (ones_1 h0)

/-! ### Places in what rises -/
def posL {α : Type} (p : α → Bool) : List α → Nat
  | [] => 0
  | x :: r => if p x = true then posL p r + 1 else 0
section
variable {α : Type} {p : α → Bool} {l : List α} {i : Nat} {x : α}
theorem pos_le (p : α → Bool) (l : List α) : posL p l ≤ l.length := by
  induction l with
  | nil => simp [posL]
  | cons x r ih => unfold posL; split <;> simp <;> omega
theorem pos_no (h : l[i]? = some x) (hp : p x = false) : posL p l ≤ i := by
  induction l generalizing i with
  | nil => simp at h
  | cons y r ih =>
    unfold posL
    cases i with
    | zero => simp at h; subst h; simp [hp]
    | succ i => have := ih (by simpa using h); split <;> omega
theorem pos_at (h : l[posL p l]? = some x) : p x = false := by
  induction l with
  | nil => simp at h
  | cons y r ih =>
    unfold posL at h
    split at h
    · exact ih (by simpa using h)
    · rename_i hp; simp at h; subst h; simpa using hp
theorem pos_lt (h : l[i]? = some x) (hi : i < posL p l) : p x = true := by
  induction l generalizing i with
  | nil => simp at h
  | cons y r ih =>
    unfold posL at hi
    split at hi
    · rename_i hp
      cases i with
      | zero => simp at h; subst h; exact hp
      | succ i => exact ih (by simpa using h) (by omega)
    · omega
theorem pos_yes (hs : l.Pairwise fun a b => p b = true → p a = true) (h : l[i]? = some x) (hp : p x = true) : i < posL p l := by
  induction l generalizing i with
  | nil => simp at h
  | cons y r ih =>
    rw [List.pairwise_cons] at hs
    unfold posL
    cases i with
    | zero => simp at h; subst h; simp [hp]
    | succ i =>
      have hx : x ∈ r := List.mem_of_getElem? (by simpa using h : r[i]? = some x)
      rw [if_pos (hs.1 x hx hp)]
      have := ih hs.2 (by simpa using h)
      omega
end
def rT (l : List (List UInt8)) : Prop := l.Pairwise fun a b => Op.bytesLess a b = true
def rA (l : List Alt) : Prop := l.Pairwise fun a b => Op.bytesLess a.name b.name = true
def posT (l : List (List UInt8)) (s : List UInt8) : Nat := posL (fun x => Op.bytesLess x s) l
def posA (l : List Alt) (s : List UInt8) : Nat := posL (fun a => Op.bytesLess a.name s) l
def hitT (l : List (List UInt8)) (s : List UInt8) : Bool := match l[posT l s]? with | some x => decide (x = s) | none => false
def hitA (l : List Alt) (s : List UInt8) : Bool := match l[posA l s]? with | some a => decide (a.name = s) | none => false
theorem rT_pos {l : List (List UInt8)} {s : List UInt8} (h : rT l) : l.Pairwise fun a b => (fun x => Op.bytesLess x s) b = true → (fun x => Op.bytesLess x s) a = true :=
  List.Pairwise.imp (fun h1 h2 => bl_trans h1 h2) h
theorem rA_pos {l : List Alt} {s : List UInt8} (h : rA l) : l.Pairwise fun a b => (fun x : Alt => Op.bytesLess x.name s) b = true → (fun x : Alt => Op.bytesLess x.name s) a = true :=
  List.Pairwise.imp (fun h1 h2 => bl_trans h1 h2) h
theorem posT_le (l : List (List UInt8)) (s : List UInt8) : posT l s ≤ l.length := pos_le _ l
theorem posA_le (l : List Alt) (s : List UInt8) : posA l s ≤ l.length := pos_le _ l
theorem posT_yes {l : List (List UInt8)} {s x : List UInt8} {i : Nat} (h : rT l) (hx : l[i]? = some x) (hp : Op.bytesLess x s = true) : i < posT l s := pos_yes (rT_pos h) hx hp
theorem posA_yes {l : List Alt} {s : List UInt8} {x : Alt} {i : Nat} (h : rA l) (hx : l[i]? = some x) (hp : Op.bytesLess x.name s = true) : i < posA l s := pos_yes (p := fun a : Alt => Op.bytesLess a.name s) (rA_pos h) hx hp
theorem posT_no {l : List (List UInt8)} {s x : List UInt8} {i : Nat} (hx : l[i]? = some x) (hp : Op.bytesLess x s = false) : posT l s ≤ i := pos_no hx hp
theorem posA_no {l : List Alt} {s : List UInt8} {x : Alt} {i : Nat} (hx : l[i]? = some x) (hp : Op.bytesLess x.name s = false) : posA l s ≤ i := pos_no (p := fun a : Alt => Op.bytesLess a.name s) hx hp
theorem hitT_at {l : List (List UInt8)} {s x : List UInt8} (h : l[posT l s]? = some x) : hitT l s = decide (x = s) := by unfold hitT; rw [h]
theorem hitT_end {l : List (List UInt8)} {s : List UInt8} (h : ¬ posT l s < l.length) : hitT l s = false := by unfold hitT; rw [List.getElem?_eq_none (by omega)]
theorem hitA_at {l : List Alt} {s : List UInt8} {x : Alt} (h : l[posA l s]? = some x) : hitA l s = decide (x.name = s) := by unfold hitA; rw [h]
theorem hitA_end {l : List Alt} {s : List UInt8} (h : ¬ posA l s < l.length) : hitA l s = false := by unfold hitA; rw [List.getElem?_eq_none (by omega)]
def putT (l : List (List UInt8)) (s : List UInt8) : List (List UInt8) := if hitT l s = true then l else l.take (posT l s) ++ s :: l.drop (posT l s)
def preA (l : List Alt) (s : List UInt8) : List Alt := if hitA l s = true then l else l.take (posA l s) ++ { name := s, values := [] } :: l.drop (posA l s)
def atA (l : List Alt) (i : Nat) : Alt := l.getD i { name := [], values := [] }
def putA (l : List Alt) (p : Pr) : List Alt := (preA l p.name).set (posA l p.name) { name := (atA (preA l p.name) (posA l p.name)).name, values := putT (atA (preA l p.name) (posA l p.name)).values p.value }
theorem hitA_lt {l : List Alt} {s : List UInt8} (h : hitA l s = true) : posA l s < l.length := by
  rcases Nat.lt_or_ge (posA l s) l.length with h1 | h1
  · exact h1
  · rw [hitA_end (by omega)] at h; cases h
theorem preA_lt (l : List Alt) (s : List UInt8) : posA l s < (preA l s).length := by
  have := posA_le l s
  unfold preA
  split
  · rename_i h; exact hitA_lt h
  · simp; omega
theorem preA_len (l : List Alt) (s : List UInt8) : (preA l s).length ≤ l.length + 1 := by
  have := posA_le l s
  unfold preA
  split <;> simp <;> omega
theorem preA_mem {l : List Alt} {s : List UInt8} {x : Alt} (h : x ∈ preA l s) : x ∈ l ∨ x.values = [] := by
  unfold preA at h
  split at h
  · exact .inl h
  · rcases List.mem_append.1 h with h | h
    · exact .inl (List.mem_of_mem_take h)
    · rcases List.mem_cons.1 h with rfl | h
      · exact .inr rfl
      · exact .inl (List.mem_of_mem_drop h)
theorem putA_eq {l : List Alt} {p : Pr} {x : Alt} (h : (preA l p.name)[posA l p.name]? = some x) : putA l p = (preA l p.name).set (posA l p.name) { name := x.name, values := putT x.values p.value } := by
  unfold putA atA
  rw [List.getD_eq_getElem?_getD, h]
  rfl
theorem putA_hit {l : List Alt} {p : Pr} {x : Alt} (h : (preA l p.name)[posA l p.name]? = some x) (hh : hitT x.values p.value = true) : putA l p = preA l p.name := by
  rw [putA_eq h]
  have e : putT x.values p.value = x.values := by unfold putT; rw [if_pos hh]
  rw [e]
  obtain ⟨hi, rfl⟩ := List.getElem?_eq_some_iff.1 h
  exact List.set_getElem_self hi
/-! comparing strings, by the entry -/
theorem cmp_bytes : ∀ a b : List UInt8, Lib.compareBytes a b = cmpS a b
  | [], [] => by simp [Lib.compareBytes, cmpS, Op.bytesLess]
  | [], _ :: _ => by simp [Lib.compareBytes, cmpS, Op.bytesLess]
  | _ :: _, [] => by simp [Lib.compareBytes, cmpS, Op.bytesLess]
  | a :: as, b :: bs => by
    unfold Lib.compareBytes
    rw [cmp_bytes as bs]
    by_cases h1 : a < b
    · simp [h1, cmpS, Op.bytesLess]
    · by_cases h2 : b < a
      · have h3 : ¬ a = b := fun h => by subst h; exact h1 h2
        simp [h1, h2, cmpS, Op.bytesLess, h3]
      · have h3 : a = b := UInt8.le_antisymm (UInt8.not_lt.1 h2) (UInt8.not_lt.1 h1)
        subst h3
        simp [h1, cmpS, Op.bytesLess]
theorem cmpS_zero (a b : List UInt8) : cmpS a b = 0 ↔ a = b := by
  unfold cmpS
  cases h : Op.bytesLess a b with
  | true => simp; rintro rfl; rw [bl_irr] at h; cases h
  | false =>
    by_cases e : a = b
    · simp [e]
    · simp [e]
theorem cmpS_bd (a b : List UInt8) : -9223372036854775808 ≤ cmpS a b ∧ cmpS a b < 9223372036854775808 := by
  unfold cmpS
  repeat' split
  all_goals omega
/-! ### A row of the run's own, with rows of its own in it -/
def altC : List Alt → List Value → List Value
  | x :: xs, u :: us => str x.name :: u :: altC xs us
  | _, _ => []
structure MRow (eA eS : Nat) (lo : Nat → Prop) (w : World) (Q : Nat → Prop) (v : Value) (xs : List Alt) (us : List Value) : Prop where
  len : us.length = xs.length
  own : Own w eA 2 v xs.length (altC xs us)
  top : ∀ b, vblock v = some b → lo b ∧ ¬ Q b
  sub : ∀ (i : Nat) (x : Alt) (u : Value), xs[i]? = some x → us[i]? = some u → Own w eS 1 u x.values.length (x.values.map str) ∧ ∀ b, vblock u = some b → lo b ∧ ¬ Q b
  dis : ∀ (i j : Nat) (u u' : Value) (b : Nat), i ≠ j → us[i]? = some u → us[j]? = some u' → vblock u = some b → vblock u' ≠ some b
theorem altC_len : ∀ {xs : List Alt} {us : List Value}, us.length = xs.length → (altC xs us).length = xs.length * 2
  | [], [], _ => rfl
  | x :: xs, u :: us, h => by simp only [altC, List.length_cons]; rw [altC_len (by simpa using h)]; omega
  | [], _ :: _, h => by simp at h
  | _ :: _, [], h => by simp at h
theorem altC_app : ∀ {xs ys : List Alt} {us vs : List Value}, us.length = xs.length → altC (xs ++ ys) (us ++ vs) = altC xs us ++ altC ys vs
  | [], ys, [], vs, _ => rfl
  | x :: xs, ys, u :: us, vs, h => by simp only [List.cons_append, altC]; rw [altC_app (by simpa using h)]
  | [], _, _ :: _, _, h => by simp at h
  | _ :: _, _, [], _, h => by simp at h
theorem altC_cut {xs : List Alt} {us : List Value} (i : Nat) (h : us.length = xs.length) (hi : i ≤ xs.length) : (altC xs us).take (i * 2) = altC (xs.take i) (us.take i) ∧ (altC xs us).drop (i * 2) = altC (xs.drop i) (us.drop i) := by
  have hl : (altC (xs.take i) (us.take i)).length = i * 2 := by rw [altC_len (by simp; omega)]; simp; omega
  have e : altC xs us = altC (xs.take i) (us.take i) ++ altC (xs.drop i) (us.drop i) := by rw [← altC_app (by simp; omega), List.take_append_drop, List.take_append_drop]
  rw [e]
  exact ⟨by rw [List.take_append_of_le_length (by omega), List.take_of_length_le (by omega)], by rw [List.drop_append_of_le_length (by omega), List.drop_of_length_le (by omega), List.nil_append]⟩
theorem altC_get : ∀ {xs : List Alt} {us : List Value} {i : Nat} {x : Alt} {u : Value}, xs[i]? = some x → us[i]? = some u → (altC xs us)[i * 2]? = some (str x.name) ∧ (altC xs us)[i * 2 + 1]? = some u
  | [], _, i, _, _, h, _ => by simp at h
  | _ :: _, [], i, _, _, _, h => by simp at h
  | y :: xs, z :: us, 0, x, u, h, k => by simp at h k; subst h; subst k; exact ⟨rfl, rfl⟩
  | y :: xs, z :: us, i + 1, x, u, h, k => by
    obtain ⟨h1, h2⟩ := altC_get (xs := xs) (us := us) (i := i) (by simpa using h) (by simpa using k)
    rw [show (i + 1) * 2 = i * 2 + 1 + 1 by omega]
    exact ⟨by simpa [altC] using h1, by simpa [altC] using h2⟩
theorem altC_set : ∀ {xs : List Alt} {us : List Value} {i : Nat} {x : Alt} {vals : List (List UInt8)} (u : Value), us.length = xs.length → xs[i]? = some x → (altC xs us).set (i * 2 + 1) u = altC (xs.set i { name := x.name, values := vals }) (us.set i u)
  | [], _, i, _, _, _, _, h => by simp at h
  | _ :: _, [], i, _, _, _, h, _ => by simp at h
  | y :: xs, z :: us, 0, x, vals, u, _, h => by simp at h; subst h; rfl
  | y :: xs, z :: us, i + 1, x, vals, u, hl, h => by
    have := altC_set (xs := xs) (us := us) (i := i) (vals := vals) u (by simpa using hl) (by simpa using h)
    rw [show (i + 1) * 2 + 1 = (i * 2 + 1) + 1 + 1 by omega]
    simp only [altC, List.set_cons_succ]
    rw [this]
theorem altC_one {w : World} {eS : Nat} {xs : List Alt} {us : List Value} (hl : us.length = xs.length) (h : ∀ (i : Nat) (x : Alt) (u : Value), xs[i]? = some x → us[i]? = some u → u.oneCell' = true) : OneC (altC xs us) := by
  induction xs generalizing us with
  | nil => cases us with
    | nil => intro u hu; simp [altC] at hu
    | cons => simp at hl
  | cons x xs ih =>
    cases us with
    | nil => simp at hl
    | cons u us =>
      intro y hy
      simp only [altC, List.mem_cons] at hy
      rcases hy with rfl | rfl | hy
      · rfl
      · exact h 0 x y rfl rfl
      · exact ih (by simpa using hl) (fun i x u hx hu => h (i + 1) x u (by simpa using hx) (by simpa using hu)) y hy
section
variable {eA eS : Nat} {lo : Nat → Prop} {w w' : World} {Q Q' : Nat → Prop} {v : Value} {xs : List Alt} {us : List Value}
theorem MRow.nil (eA eS : Nat) (lo : Nat → Prop) (w : World) (Q : Nat → Prop) : MRow eA eS lo w Q (.slice none 0 0) [] [] :=
  ⟨rfl, Own.nil w eA 2, by simp [vblock], by simp, by simp⟩
theorem own_oneC {e sz m : Nat} {u : Value} {cs : List Value} (h : Own w e sz u m cs) : u.oneCell' = true := by
  obtain ⟨a, cap, rfl, _⟩ := own_cells h; rfl
theorem MRow.one (h : MRow eA eS lo w Q v xs us) : OneC (altC xs us) := altC_one (w := w) (eS := eS) h.len fun i x u hx hu => own_oneC (h.sub i x u hx hu).1
theorem str_ls {e : Nat} {u : Value} {vals : List (List UInt8)} (h : Own w e 1 u vals.length (vals.map str)) (hQ : ∀ b, vblock u = some b → Q b) : Ls tStr w Q u vals := by
  obtain ⟨a, cap, rfl, h1, h2, h3, h4⟩ := own_cells h
  exact Ls.of_sl ⟨a, cap, by simp, by simpa using h1, h2, h3, h4⟩ (fun _ _ => trivial) fun b hb _ => hQ b hb
theorem alt_els {R : Nat → Prop} : ∀ {xs : List Alt} {us : List Value}, us.length = xs.length → (∀ (i : Nat) (x : Alt) (u : Value), xs[i]? = some x → us[i]? = some u → Ls tStr w R u x.values) → Els tAlt w R (altC xs us) xs
  | [], [], _, _ => rfl
  | x :: xs, u :: us, hl, h => ⟨Alt.cells x u, altC xs us, rfl, tAlt_mk (h 0 x u rfl rfl), alt_els (by simpa using hl) fun i y z hy hz => h (i + 1) y z (by simpa using hy) (by simpa using hz)⟩
  | [], _ :: _, hl, _ => by simp at hl
  | _ :: _, [], hl, _ => by simp at hl
/-- It can be read, and stays so where its blocks are let. -/
theorem MRow.ls {R : Nat → Prop} (h : MRow eA eS lo w Q v xs us) (h0 : ∀ b, vblock v = some b → R b) (h1 : ∀ (i : Nat) (u : Value) (b : Nat), us[i]? = some u → vblock u = some b → R b) : Ls tAlt w R v xs := by
  obtain ⟨a, cap, rfl, g1, g2, g3, g4⟩ := own_cells h.own
  refine ⟨a, cap, altC xs us, rfl, g1, g2, g3, fun p hp _ => h0 _ (by subst hp; rfl), g4, alt_els h.len fun i x u hx hu => str_ls (h.sub i x u hx hu).1 fun b hb => h1 i u b hu hb⟩
theorem MRow.read (h : MRow eA eS lo w Q v xs us) : Ls tAlt w (fun b => Q b ∨ lo b) v xs := by
  refine h.ls (fun b hb => .inr (h.top b hb).1) fun i u b hu hb => ?_
  have hi := (List.getElem?_eq_some_iff.1 hu).1
  exact .inr ((h.sub i (xs[i]'(by rw [← h.len]; exact hi)) u (List.getElem?_eq_getElem _) hu).2 b hb).1
theorem MRow.subQ (h : MRow eA eS lo w Q v xs us) (t : ∀ b, Q' b → Q b) : MRow eA eS lo w Q' v xs us :=
  ⟨h.len, h.own, fun b hb => ⟨(h.top b hb).1, fun hq => (h.top b hb).2 (t b hq)⟩, fun i x u hx hu => ⟨(h.sub i x u hx hu).1, fun b hb => ⟨((h.sub i x u hx hu).2 b hb).1, fun hq => ((h.sub i x u hx hu).2 b hb).2 (t b hq)⟩⟩, h.dis⟩
theorem MRow.md {S : List Nat} (h : MRow eA eS lo w Q v xs us) (m : Md S w w') (h0 : ∀ b, vblock v = some b → b ∉ S) (h1 : ∀ (i : Nat) (u : Value) (b : Nat), us[i]? = some u → vblock u = some b → b ∉ S) : MRow eA eS lo w' Q v xs us :=
  ⟨h.len, h.own.md m h0, h.top, fun i x u hx hu => ⟨(h.sub i x u hx hu).1.md m fun b hb => h1 i u b hu hb, (h.sub i x u hx hu).2⟩, h.dis⟩
theorem MRow.md0 (h : MRow eA eS lo w Q v xs us) (m : Md [] w w') : MRow eA eS lo w' Q v xs us := h.md m (by simp) (by simp)
theorem MRow.lt (h : MRow eA eS lo w Q v xs us) : ∀ (i : Nat) (u : Value) (b : Nat), us[i]? = some u → vblock u = some b → b < w.heap.size := fun i u b hu hb => by
  have hi := (List.getElem?_eq_some_iff.1 hu).1
  exact (h.sub i (xs[i]'(by rw [← h.len]; exact hi)) u (List.getElem?_eq_getElem _) hu).1.lt b hb
theorem MRow.sub' (h : MRow eA eS lo w Q v xs us) {i : Nat} {u : Value} (hu : us[i]? = some u) : ∃ x, xs[i]? = some x ∧ Own w eS 1 u x.values.length (x.values.map str) ∧ ∀ b, vblock u = some b → lo b ∧ ¬ Q b := by
  have hi := (List.getElem?_eq_some_iff.1 hu).1
  have hi' : i < xs.length := by rw [← h.len]; exact hi
  exact ⟨xs[i], List.getElem?_eq_getElem hi', h.sub i _ u (List.getElem?_eq_getElem hi') hu⟩
/-- An own row's block is of its element type. -/
theorem own_typed {e sz m : Nat} {u : Value} {cs : List Value} (h : Own w e sz u m cs) : ∀ b, vblock u = some b → ∃ c, Blk w b c e := by
  intro b hb
  rcases h.2 with ⟨rfl, _⟩ | ⟨g, cap, cur, rfl, _, hg, _⟩
  · simp [vblock] at hb
  · simp [vblock] at hb; subst hb; exact ⟨cur.toList, hg⟩
theorem blk_type {b e e' : Nat} {c c' : List Value} (h : Blk w b c e) (k : Blk w b c' e') : e = e' := by
  unfold Blk at h k; rw [h] at k; simp at k; exact k.2
/-- What an own row's new state is, an element's cell put. -/
theorem Own.put {e sz m j : Nat} {u : Value} {cs : List Value} (h : Own w e sz v m cs) (hj : j < m * sz) :
    ∃ b cap cur, v = .slice (some ⟨b, 0, none⟩) m cap ∧ Blk w b cur e ∧ j < cur.length ∧ ∀ w', Blk w' b (cur.set j u) e → Own w' e sz v m (cs.set j u) := by
  have hm : 0 < m := by 
    rcases Nat.eq_zero_or_pos m with h0 | h0
    · subst h0; simp at hj
    · exact h0
  obtain ⟨b, cap, cur, rfl, hB, h1, h2, h3, h4⟩ := h.blk hm
  have h5 : m * sz ≤ cap * sz := Nat.mul_le_mul_right _ h1
  refine ⟨b, cap, cur, rfl, hB, by omega, fun w' hB' => ?_⟩
  have := Own.of_blk (sz := sz) (m := m) hB' h1 h2 (by simpa using h3)
  rw [List.take_set, h4] at this
  exact this
/-- What is let behind a call: what was let ahead of it, and what is made from now on. -/
def cutQ (w w' : World) (Q : Nat → Prop) : Nat → Prop := fun b => Q b ∧ (b < w.heap.size ∨ w'.heap.size ≤ b)
theorem cutQ_new {S : List Nat} (u : Up w Q) (m : Md S w w') : NewQ w w' Q (cutQ w w' Q) :=
  ⟨fun _ hb hl => ⟨hb, .inl hl⟩, fun _ hb => hb.1, fun b hb => ⟨u b (Nat.le_trans m.size hb), .inr hb⟩⟩
theorem MRow.at_ {i : Nat} {x : Alt} {u : Value} (h : MRow eA eS lo w Q v xs us) (hx : xs[i]? = some x) (hu : us[i]? = some u) : At w v (i * 2) (Alt.cells x u) := by
  obtain ⟨a, cap, rfl, h1, h2, h3, h4⟩ := own_cells h.own
  have hi := (List.getElem?_eq_some_iff.1 hx).1
  obtain ⟨g1, g2⟩ := altC_get hx hu
  cases a with
  | none => have := h3 rfl; omega
  | some p =>
    refine ⟨p, _, cap, rfl, fun j y hj => ?_⟩
    match j, hj with
    | 0, hj => simp [Alt.cells] at hj; subst hj; exact h4 p rfl _ _ g1
    | 1, hj => simp [Alt.cells] at hj; subst hj; exact h4 p rfl _ _ g2
    | n + 2, hj => simp [Alt.cells] at hj
theorem MRow.shp (h : MRow eA eS lo w Q v xs us) : Shp v xs.length := by obtain ⟨a, cap, h0, h1, h2, h3, h4⟩ := own_cells h.own; exact ⟨a, cap, h0, h1, h2, h3⟩
theorem MRow.apart {i : Nat} {u : Value} (h : MRow eA eS lo w Q v xs us) (hne : eA ≠ eS) (hu : us[i]? = some u) : ∀ b, vblock v = some b → b ∉ (vblock u).toList := by
  intro b hb hm
  have hm' : vblock u = some b := by simpa using hm
  obtain ⟨x, _, h1, _⟩ := h.sub' hu
  obtain ⟨c, hc⟩ := own_typed h.own b hb
  obtain ⟨c', hc'⟩ := own_typed h1 b hm'
  exact hne (blk_type hc hc')
/-- An empty Alt put in. -/
theorem MRow.ins {i : Nat} {v' : Value} {x : Alt} (h : MRow eA eS lo w Q v xs us) (hi : i ≤ xs.length) (hx : x.values = []) {S : List Nat} (m : Md S w w') (hS : ∀ b ∈ S, vblock v = some b) (hne : eA ≠ eS)
    (ho : Own w' eA 2 v' (xs.length + 1) ((altC xs us).take (i * 2) ++ [str x.name, .slice none 0 0] ++ (altC xs us).drop (i * 2))) (ht : ∀ b, vblock v' = some b → lo b ∧ ¬ Q' b) (hQ : ∀ b, Q' b → Q b) :
    MRow eA eS lo w' Q' v' (xs.take i ++ x :: xs.drop i) (us.take i ++ .slice none 0 0 :: us.drop i) := by
  have hl := h.len
  have hlt : (us.take i).length = (xs.take i).length := by simp; omega
  have get : ∀ {α : Type} {l : List α} {y z : α} {j : Nat}, i ≤ l.length → (l.take i ++ y :: l.drop i)[j]? = some z → (j < i ∧ l[j]? = some z) ∨ (j = i ∧ z = y) ∨ (i < j ∧ l[j - 1]? = some z) := by
    intro α l y z j hil hz
    rcases Nat.lt_trichotomy j i with h1 | h1 | h1
    · left
      rw [List.getElem?_append_left (by simp; omega), List.getElem?_take, if_pos h1] at hz
      exact ⟨h1, hz⟩
    · right; left
      subst h1
      rw [List.getElem?_append_right (by simp; omega)] at hz
      have : j - (l.take j).length = 0 := by simp; omega
      rw [this] at hz
      simp at hz
      exact ⟨rfl, hz.symm⟩
    · right; right
      rw [List.getElem?_append_right (by simp; omega)] at hz
      have : j - (l.take i).length = (j - 1 - i) + 1 := by simp; omega
      rw [this] at hz
      simp only [List.getElem?_cons_succ, List.getElem?_drop] at hz
      rw [show i + (j - 1 - i) = j - 1 by omega] at hz
      exact ⟨h1, hz⟩
  refine ⟨by simp; omega, ?_, ht, ?_, ?_⟩
  · have e1 : (xs.take i ++ x :: xs.drop i).length = xs.length + 1 := by simp; omega
    obtain ⟨g1, g2⟩ := altC_cut (xs := xs) (us := us) i hl hi
    rw [e1, altC_app hlt]
    rw [g1, g2, List.append_assoc] at ho
    exact ho
  · intro j y u hy hu
    have fin : ∀ k : Nat, xs[k]? = some y → us[k]? = some u → Own w' eS 1 u y.values.length (y.values.map str) ∧ ∀ b, vblock u = some b → lo b ∧ ¬ Q' b := by
      intro k h1 h2
      obtain ⟨h3, h4⟩ := h.sub k y u h1 h2
      refine ⟨h3.md m fun b hb hs => ?_, fun b hb => ⟨(h4 b hb).1, fun hq => (h4 b hb).2 (hQ b hq)⟩⟩
      obtain ⟨c, hc⟩ := own_typed h3 b hb
      obtain ⟨c', hc'⟩ := own_typed h.own b (hS b hs)
      exact hne (blk_type hc' hc)
    rcases get hi hy with ⟨h1, h2⟩ | ⟨h1, h2⟩ | ⟨h1, h2⟩
    · rcases get (by omega) hu with ⟨k1, k2⟩ | ⟨k1, k2⟩ | ⟨k1, k2⟩
      · exact fin j h2 k2
      · omega
      · omega
    · rcases get (by omega) hu with ⟨k1, k2⟩ | ⟨k1, k2⟩ | ⟨k1, k2⟩
      · omega
      · subst h2; subst k2; rw [hx]; exact ⟨Own.nil _ _ _, by simp [vblock]⟩
      · omega
    · rcases get (by omega) hu with ⟨k1, k2⟩ | ⟨k1, k2⟩ | ⟨k1, k2⟩
      · omega
      · omega
      · exact fin (j - 1) h2 k2
  · intro j k u u' b hjk hu hu' hb hb'
    rcases get (by omega) hu with ⟨h1, h2⟩ | ⟨h1, h2⟩ | ⟨h1, h2⟩
    · rcases get (by omega) hu' with ⟨k1, k2⟩ | ⟨k1, k2⟩ | ⟨k1, k2⟩
      · exact h.dis j k u u' b hjk h2 k2 hb hb'
      · subst k2; simp [vblock] at hb'
      · exact h.dis j (k - 1) u u' b (by omega) h2 k2 hb hb'
    · subst h2; simp [vblock] at hb
    · rcases get (by omega) hu' with ⟨k1, k2⟩ | ⟨k1, k2⟩ | ⟨k1, k2⟩
      · exact h.dis (j - 1) k u u' b (by omega) h2 k2 hb hb'
      · subst k2; simp [vblock] at hb'
      · exact h.dis (j - 1) (k - 1) u u' b (by omega) h2 k2 hb hb'
/-- An Alt's values put anew: their row, then the cell that has it. -/
theorem MRow.upd {i : Nat} {x : Alt} {u u' : Value} {vals : List (List UInt8)} {w1 w2 : World} (h : MRow eA eS lo w Q v xs us) (hx : xs[i]? = some x) (hu : us[i]? = some u) (m : Md (vblock u).toList w w1) (ho : Own w1 eS 1 u' vals.length (vals.map str))
    (hn : ∀ b, vblock u' = some b → vblock u = some b ∨ w.heap.size ≤ b) (hlo : ∀ b, w.heap.size ≤ b → lo b) (hne : eA ≠ eS) (hQ : ∀ b, Q' b → Q b ∧ (b < w.heap.size ∨ w1.heap.size ≤ b)) (m2 : Md (vblock v).toList w1 w2)
    (ho2 : Own w2 eA 2 v xs.length ((altC xs us).set (i * 2 + 1) u')) : MRow eA eS lo w2 Q' v (xs.set i { name := x.name, values := vals }) (us.set i u') := by
  have hl := h.len
  have hsu := (h.sub i x u hx hu)
  have hu'lt : ∀ b, vblock u' = some b → b < w1.heap.size := ho.lt
  have nv : ∀ {z : Value} {m : Nat} {cs : List Value} {w' : World} {b : Nat}, Own w' eS 1 z m cs → Md [] w' w' → vblock z = some b → (∃ c, Blk w' b c eA) → False := by
    intro z m cs w' b hz _ hb ⟨c, hc⟩
    obtain ⟨c', hc'⟩ := own_typed hz b hb
    exact hne (blk_type hc hc')
  have vA : ∀ b, vblock v = some b → ∃ c, Blk w1 b c eA := by
    intro b hb
    obtain ⟨c, hc⟩ := own_typed h.own b hb
    refine ⟨c, hc.md m fun hm => ?_⟩
    have hm' : vblock u = some b := by simpa using hm
    exact nv hsu.1 (Md.refl _ _) hm' ⟨c, hc⟩
  refine ⟨by simpa using hl, ?_, fun b hb => ⟨(h.top b hb).1, fun hq => (h.top b hb).2 (hQ b hq).1⟩, ?_, ?_⟩
  · rw [altC_set u' hl hx] at ho2
    simpa using ho2
  · intro j y z hy hz
    rcases Nat.decEq j i with h1 | h1
    · rw [List.getElem?_set_ne (Ne.symm h1)] at hy hz
      obtain ⟨h3, h4⟩ := h.sub j y z hy hz
      have h5 : Own w1 eS 1 z y.values.length (y.values.map str) := h3.md m fun b hb hm => h.dis j i z u b h1 hz hu hb (by simpa using hm)
      refine ⟨h5.md m2 fun b hb hm => nv h5 (Md.refl _ _) hb (vA b (by simpa using hm)), fun b hb => ⟨(h4 b hb).1, fun hq => (h4 b hb).2 (hQ b hq).1⟩⟩
    · subst h1
      have hil : j < xs.length := (List.getElem?_eq_some_iff.1 hx).1
      rw [List.getElem?_set_self hil] at hy
      rw [List.getElem?_set_self (by omega)] at hz
      cases hy; cases hz
      refine ⟨ho.md m2 fun b hb hm => nv ho (Md.refl _ _) hb (vA b (by simpa using hm)), fun b hb => ?_⟩
      rcases hn b hb with h2 | h2
      · exact ⟨(hsu.2 b h2).1, fun hq => (hsu.2 b h2).2 (hQ b hq).1⟩
      · exact ⟨hlo b h2, fun hq => by have := (hQ b hq).2; have := hu'lt b hb; omega⟩
  · intro j k z z' b hjk hz hz' hb hb'
    have old : ∀ {q : Nat} {y : Value}, q ≠ i → us[q]? = some y → vblock y = some b → vblock u' = some b → False := by
      intro q y hq hy hyb hub
      rcases hn b hub with h2 | h2
      · exact h.dis q i y u b hq hy hu hyb h2
      · have := h.lt q y b hy hyb; omega
    rcases Nat.decEq j i with h1 | h1
    · rw [List.getElem?_set_ne (Ne.symm h1)] at hz
      rcases Nat.decEq k i with h2 | h2
      · rw [List.getElem?_set_ne (Ne.symm h2)] at hz'
        exact h.dis j k z z' b hjk hz hz' hb hb'
      · subst h2
        rw [List.getElem?_set_self (by have := (List.getElem?_eq_some_iff.1 hu).1; omega)] at hz'
        cases hz'
        exact old h1 hz hb hb'
    · subst h1
      rw [List.getElem?_set_self (by have := (List.getElem?_eq_some_iff.1 hu).1; omega)] at hz
      cases hz
      rw [List.getElem?_set_ne hjk] at hz'
      exact old (Ne.symm hjk) hz' hb' hb
end
end Go.Wk
namespace Go.Wk
open Go Go.RowKit
theorem pw_ins {α : Type} {R : α → α → Prop} {l : List α} {i : Nat} {x : α} (h : l.Pairwise R) (h1 : ∀ y ∈ l.take i, R y x) (h2 : ∀ y ∈ l.drop i, R x y) : (l.take i ++ x :: l.drop i).Pairwise R := by
  have e := List.take_append_drop i l
  rw [← e, List.pairwise_append] at h
  rw [List.pairwise_append, List.pairwise_cons]
  refine ⟨h.1, ⟨h2, h.2.1⟩, fun a ha b hb => ?_⟩
  rcases List.mem_cons.1 hb with rfl | hb
  · exact h1 a ha
  · exact h.2.2 a ha b hb
theorem take_less {α : Type} {p : α → Bool} {l : List α} : ∀ y ∈ l.take (posL p l), p y = true := by
  intro y hy
  obtain ⟨j, hj⟩ := List.mem_iff_getElem?.1 hy
  rw [List.getElem?_take] at hj
  split at hj
  · exact pos_lt hj (by assumption)
  · cases hj
theorem drop_more {α : Type} {f : α → List UInt8} {l : List α} {s : List UInt8} (h : l.Pairwise fun a b => Op.bytesLess (f a) (f b) = true) (hh : ∀ x, l[posL (fun y => Op.bytesLess (f y) s) l]? = some x → f x ≠ s) :
    ∀ y ∈ l.drop (posL (fun y => Op.bytesLess (f y) s) l), Op.bytesLess s (f y) = true := by
  intro y hy
  have h0 : ∀ x, l[posL (fun y => Op.bytesLess (f y) s) l]? = some x → Op.bytesLess s (f x) = true := by
    intro x hx
    have h1 := pos_at hx
    cases h2 : Op.bytesLess s (f x) with
    | true => rfl
    | false => exact absurd (bl_tri h1 h2) (hh x hx)
  generalize posL (fun y => Op.bytesLess (f y) s) l = i at *
  obtain ⟨j, hj⟩ := List.mem_iff_getElem?.1 hy
  rw [List.getElem?_drop] at hj
  cases j with
  | zero => exact h0 y hj
  | succ j =>
    have hil : i < l.length := by have := (List.getElem?_eq_some_iff.1 hj).1; omega
    have hx : l[i]? = some l[i] := List.getElem?_eq_getElem hil
    have h2 := List.pairwise_iff_getElem.1 h i (i + (j + 1)) hil (List.getElem?_eq_some_iff.1 hj).1 (by omega)
    rw [(List.getElem?_eq_some_iff.1 hj).2] at h2
    exact bl_trans (h0 _ hx) h2
theorem hitT_no {l : List (List UInt8)} {s : List UInt8} (h : hitT l s = false) : ∀ x, l[posT l s]? = some x → x ≠ s := by
  intro x hx e
  rw [hitT_at hx] at h
  simp [e] at h
theorem hitA_no {l : List Alt} {s : List UInt8} (h : hitA l s = false) : ∀ x, l[posA l s]? = some x → x.name ≠ s := by
  intro x hx e
  rw [hitA_at hx] at h
  simp [e] at h
theorem putT_rises {l : List (List UInt8)} {s : List UInt8} (h : rT l) : rT (putT l s) := by
  unfold putT
  split
  · exact h
  · rename_i hh
    exact pw_ins h take_less (drop_more (f := id) h (hitT_no (by simpa using hh)))
theorem putT_len (l : List (List UInt8)) (s : List UInt8) : (putT l s).length ≤ l.length + 1 := by
  have := posT_le l s
  unfold putT
  split
  · omega
  · simp; omega
theorem preA_rises {l : List Alt} {s : List UInt8} (h : rA l) : rA (preA l s) := by
  unfold preA
  split
  · exact h
  · rename_i hh
    exact pw_ins (x := { name := s, values := [] }) h take_less (drop_more (f := Alt.name) h (hitA_no (by simpa using hh)))
theorem preA_at (l : List Alt) (s : List UInt8) : ∃ x, (preA l s)[posA l s]? = some x ∧ x.name = s := by
  have hp := posA_le l s
  unfold preA
  split
  · rename_i h
    have hl := hitA_lt h
    refine ⟨l[posA l s], List.getElem?_eq_getElem hl, ?_⟩
    rw [hitA_at (List.getElem?_eq_getElem hl)] at h
    exact of_decide_eq_true h
  · refine ⟨{ name := s, values := [] }, ?_, rfl⟩
    rw [List.getElem?_append_right (by simp; omega)]
    have : posA l s - (l.take (posA l s)).length = 0 := by simp; omega
    rw [this]; rfl
theorem pw_set {α : Type} {f : α → List UInt8} {l : List α} {i : Nat} {x y : α} (h : l.Pairwise fun a b => Op.bytesLess (f a) (f b) = true) (hx : l[i]? = some x) (e : f y = f x) : (l.set i y).Pairwise fun a b => Op.bytesLess (f a) (f b) = true := by
  have hm : (l.set i y).map f = l.map f := by
    rw [List.map_set, e]
    apply List.ext_getElem?
    intro j
    rcases Nat.decEq j i with h1 | h1
    · rw [List.getElem?_set_ne (Ne.symm h1)]
    · subst h1
      rw [List.getElem?_set_self (by simpa using (List.getElem?_eq_some_iff.1 hx).1), List.getElem?_map, hx]; rfl
  have h2 : (l.map f).Pairwise fun a b => Op.bytesLess a b = true := List.pairwise_map.2 h
  rw [← hm] at h2
  exact List.pairwise_map.1 h2
theorem putA_rises {l : List Alt} {p : Pr} (h : rA l) : rA (putA l p) := by
  obtain ⟨x, hx, _⟩ := preA_at l p.name
  rw [putA_eq hx]
  exact pw_set (f := Alt.name) (preA_rises h) hx rfl
theorem putA_len (l : List Alt) (p : Pr) : (putA l p).length ≤ l.length + 1 := by
  unfold putA; rw [List.length_set]; exact preA_len l p.name
theorem putA_mem {l : List Alt} {p : Pr} {k : Nat} (h : ∀ a ∈ l, rT a.values ∧ a.values.length ≤ k) : ∀ a ∈ putA l p, rT a.values ∧ a.values.length ≤ k + 1 := by
  obtain ⟨x, hx, _⟩ := preA_at l p.name
  have hq : ∀ a ∈ preA l p.name, rT a.values ∧ a.values.length ≤ k := fun a ha => by
    rcases preA_mem ha with hh | hh
    · exact h a hh
    · rw [hh]; exact ⟨List.Pairwise.nil, Nat.zero_le _⟩
  rw [putA_eq hx]
  intro a ha
  rcases List.mem_or_eq_of_mem_set ha with hh | rfl
  · exact ⟨(hq a hh).1, by have := (hq a hh).2; omega⟩
  · have h2 := hq x (List.mem_of_getElem? hx)
    exact ⟨putT_rises h2.1, by have := putT_len x.values p.value; have := h2.2; simp only; omega⟩
/-! compiling -/
def comGo : List (List UInt8) → List (List Alt) → List Alt → Mat × Nat
  | [], rows, row => ({ rows := if 0 < row.length then rows ++ [row] else rows }, 0)
  | s :: r, rows, row =>
    if s = [43] then (if r.length = 0 ∨ row.length = 0 then ({ rows := [] }, 20) else comGo r (rows ++ [row]) [])
    else if (splitF s).2 ≠ 0 then ({ rows := [] }, (splitF s).2) else comGo r rows (putA row (splitF s).1)
def comF (l : List (List UInt8)) : Mat × Nat := if 32 < l.length then ({ rows := [] }, 21) else comGo l [] []
section
variable {l : List (List UInt8)} {k : Nat} {s : List UInt8} {rows : List (List Alt)} {row : List Alt}
theorem com_end (h : ¬ k < l.length) : comGo (l.drop k) rows row = ({ rows := if 0 < row.length then rows ++ [row] else rows }, 0) := by rw [drop_end (by omega)]; rfl
theorem com_step (h : l[k]? = some s) : comGo (l.drop k) rows row = if s = [43] then (if (l.drop (k + 1)).length = 0 ∨ row.length = 0 then ({ rows := [] }, 20) else comGo (l.drop (k + 1)) (rows ++ [row]) [])
    else if (splitF s).2 ≠ 0 then ({ rows := [] }, (splitF s).2) else comGo (l.drop (k + 1)) rows (putA row (splitF s).1) := by rw [drop_get h]; rfl
theorem com_bad (h : l[k]? = some s) (e : s = [43]) (hb : k = l.length - 1 ∨ row.length = 0) : comGo (l.drop k) rows row = ({ rows := [] }, 20) := by
  have hi := (List.getElem?_eq_some_iff.1 h).1
  have hc : (l.drop (k + 1)).length = 0 ∨ row.length = 0 := by
    rcases hb with hb | hb
    · left; rw [List.length_drop]; omega
    · exact .inr hb
  rw [com_step h, if_pos e, if_pos hc]
theorem com_plus (h : l[k]? = some s) (e : s = [43]) (h1 : ¬ k = l.length - 1) (h2 : ¬ row.length = 0) : comGo (l.drop k) rows row = comGo (l.drop (k + 1)) (rows ++ [row]) [] := by
  have hi := (List.getElem?_eq_some_iff.1 h).1
  have hc : ¬ ((l.drop (k + 1)).length = 0 ∨ row.length = 0) := by rw [List.length_drop]; omega
  rw [com_step h, if_pos e, if_neg hc]
theorem com_err {p : Pr} {c : Nat} (h : l[k]? = some s) (e : ¬ s = [43]) (hs : splitF s = (p, c)) (hc : c ≠ 0) : comGo (l.drop k) rows row = ({ rows := [] }, c) := by
  rw [com_step h, if_neg e, hs, if_pos hc]
theorem com_word {p : Pr} (h : l[k]? = some s) (e : ¬ s = [43]) (hs : splitF s = (p, 0)) : comGo (l.drop k) rows row = comGo (l.drop (k + 1)) rows (putA row p) := by
  rw [com_step h, if_neg e, hs, if_neg (by simp)]
end
/-- What the run of Compile keeps. -/
structure CompI (eR eA eS : Nat) (w w' : World) (Q : Nat → Prop) (br : Nat) (vr : Value) (rows : List (List Alt)) (v : Value) (row : List Alt) (us : List Value) (Q2 : Nat → Prop) : Prop where
  md : Md [] w w'
  s : ∀ b, Q b → b < w.heap.size → Q2 b
  t : ∀ b, Q2 b → Q b
  up : Up w' Q2
  nb : ¬ Q2 br
  ow : Ow (tSl tAlt) eR (fun b => w.heap.size ≤ b) w' Q2 vr rows
  mr : MRow eA eS (fun b => w.heap.size ≤ b) w' Q2 v row us
section
variable {eR eA eS br : Nat} {w w1 w2 : World} {Q Q2 : Nat → Prop} {vr v : Value} {rows : List (List Alt)} {row : List Alt} {us : List Value}
theorem CompI.md0 (h : CompI eR eA eS w w1 Q br vr rows v row us Q2) (m : Md [] w1 w2) : CompI eR eA eS w w2 Q br vr rows v row us Q2 :=
  ⟨h.md.step0 m, h.s, h.t, h.up.md m, h.nb, h.ow.md0 m, h.mr.md0 m⟩
/-- The row goes on as data. -/
theorem CompI.freeze (h : CompI eR eA eS w w1 Q br vr rows v row us Q2) (h1 : eR ≠ eA) (h2 : eR ≠ eS) {eB : Nat} {cb : List Value} (hB : Blk w1 br cb eB) (h3 : eB ≠ eA) (h4 : eB ≠ eS) :
    ∃ Q3, (∀ b, Q b → b < w.heap.size → Q3 b) ∧ (∀ b, Q3 b → Q b ∨ w.heap.size ≤ b) ∧ Up w1 Q3 ∧ ¬ Q3 br ∧ Ow (tSl tAlt) eR (fun b => w.heap.size ≤ b) w1 Q3 vr rows ∧ Ls tAlt w1 Q3 v row := by
  have typed : ∀ b, (vblock v = some b ∨ ∃ (i : Nat) (u : Value), us[i]? = some u ∧ vblock u = some b) → (∃ c, Blk w1 b c eA ∨ Blk w1 b c eS) ∧ w.heap.size ≤ b := by
    rintro b (hb | ⟨i, u, hu, hb⟩)
    · obtain ⟨c, hc⟩ := own_typed h.mr.own b hb
      exact ⟨⟨c, .inl hc⟩, (h.mr.top b hb).1⟩
    · obtain ⟨x, _, g1, g2⟩ := h.mr.sub' hu
      obtain ⟨c, hc⟩ := own_typed g1 b hb
      exact ⟨⟨c, .inr hc⟩, (g2 b hb).1⟩
  refine ⟨fun b => Q2 b ∨ vblock v = some b ∨ ∃ (i : Nat) (u : Value), us[i]? = some u ∧ vblock u = some b, fun b hb hl => .inl (h.s b hb hl), fun b hb => ?_, fun b hb => .inl (h.up b hb), ?_, ?_, ?_⟩
  · exact hb.imp (h.t b) fun hh => (typed b hh).2
  · rintro (hb | hb)
    · exact h.nb hb
    · obtain ⟨⟨c, hc | hc⟩, _⟩ := typed br hb
      · exact h3 (blk_type hB hc)
      · exact h4 (blk_type hB hc)
  · obtain ⟨⟨cs, g1, g2⟩, g3⟩ := h.ow
    refine ⟨⟨cs, g1, g2.sub fun b hb _ => .inl hb⟩, fun b hb => ⟨(g3 b hb).1, ?_⟩⟩
    rintro (hq | hq)
    · exact (g3 b hb).2 hq
    · obtain ⟨c', hc'⟩ := own_typed g1 b hb
      obtain ⟨⟨c, hc | hc⟩, _⟩ := typed b hq
      · exact h1 (blk_type hc' hc)
      · exact h2 (blk_type hc' hc)
  · exact h.mr.ls (fun b hb => .inr (.inl hb)) fun i u b hu hb => .inr (.inr ⟨i, u, hu, hb⟩)
/-- Behind a call that changes the row. -/
theorem CompI.put {S : List Nat} {v' : Value} {row' : List Alt} {us' : List Value} (h : CompI eR eA eS w w1 Q br vr rows v row us Q2) (h1 : eR ≠ eA) (h2 : eR ≠ eS) (m : Md S w1 w2) (hS : ∀ b ∈ S, w.heap.size ≤ b ∧ ¬ Q2 b ∧ ∃ c, Blk w1 b c eA ∨ Blk w1 b c eS)
    (hr : MRow eA eS (fun b => w.heap.size ≤ b) w2 (cutQ w1 w2 Q2) v' row' us') : CompI eR eA eS w w2 Q br vr rows v' row' us' (cutQ w1 w2 Q2) := by
  have hn := cutQ_new h.up m
  have hle : ∀ b, Q b → b < w.heap.size → cutQ w1 w2 Q2 b := fun b hb hl => by
    refine ⟨h.s b hb hl, ?_⟩
    rcases Nat.lt_or_ge b w1.heap.size with hh | hh
    · exact .inl hh
    · have := h.md.size; omega
  refine ⟨h.md.step m fun i hi => .inr (hS i hi).1, hle, fun b hb => h.t b hb.1, hn.2.2, fun hb => h.nb hb.1, ?_, hr⟩
  have hv : ∀ b, vblock vr = some b → b ∉ S := fun b hb hs => by
    obtain ⟨_, _, c, hc⟩ := hS b hs
    obtain ⟨⟨cs, g1, _⟩, _⟩ := h.ow
    obtain ⟨c', hc'⟩ := own_typed g1 b hb
    rcases hc with hc | hc
    · exact h1 (blk_type hc' hc)
    · exact h2 (blk_type hc' hc)
  obtain ⟨⟨cs, g1, g2⟩, g3⟩ := h.ow.md m hv (fun b hb => (hS b hb).2.1)
  obtain ⟨⟨cs0, k1, k2⟩, k3⟩ := h.ow
  refine ⟨⟨cs0, k1.md m hv, ?_⟩, fun b hb => ⟨(k3 b hb).1, fun hq => (k3 b hb).2 hq.1⟩⟩
  exact (k2.sub fun b hb hl => ⟨hb, .inl hl⟩).md m fun b hb hq => (hS b hb).2.1 hq.1
end
end Go.Wk
namespace Go.Wk
open Go Go.RowKit
def idxS (s : List UInt8) : List (List UInt8) → Nat → Int
  | [], _ => -1
  | x :: r, i => if s = x then (i : Int) else idxS s r (i + 1)
theorem idxS_end {s : List UInt8} {l : List (List UInt8)} {i j : Nat} (h : ¬ i < l.length) : idxS s (l.drop i) j = -1 := by rw [drop_end (by omega)]; rfl
theorem idxS_step {s x : List UInt8} {l : List (List UInt8)} {i : Nat} (h : l[i]? = some x) : idxS s (l.drop i) i = if s = x then (i : Int) else idxS s (l.drop (i + 1)) (i + 1) := by rw [drop_get h]; rfl
def hasS (s : List UInt8) : List (List UInt8) → Bool
  | [] => false
  | x :: r => if s = x then true else hasS s r
theorem idxS_has (s : List UInt8) (l : List (List UInt8)) (i : Nat) : decide (0 ≤ idxS s l i) = hasS s l := by
  induction l generalizing i with
  | nil => rfl
  | cons x r ih =>
    unfold idxS hasS
    split
    · simp
    · exact ih _
theorem hasS_iff {s : List UInt8} {l : List (List UInt8)} : hasS s l = true ↔ s ∈ l := by
  induction l with
  | nil => simp [hasS]
  | cons x r ih => unfold hasS; split <;> rename_i h <;> simp [h, ih]
/-- Has the row of pairs one that an Alt asks for? -/
def hasV (a : Alt) : List Pr → Bool
  | [] => false
  | p :: r => if p.name = a.name ∧ hasS p.value a.values = true then true else hasV a r
theorem hasV_end {a : Alt} {l : List Pr} {i : Nat} (h : ¬ i < l.length) : hasV a (l.drop i) = false := by rw [drop_end (by omega)]; rfl
theorem hasV_step {a : Alt} {l : List Pr} {i : Nat} {p : Pr} (h : l[i]? = some p) : hasV a (l.drop i) = if p.name = a.name ∧ hasS p.value a.values = true then true else hasV a (l.drop (i + 1)) := by rw [drop_get h]; rfl
def idxN (l : List Pr) : List Alt → Nat → Int
  | [], _ => -1
  | a :: r, i => if hasV a l = true then idxN l r (i + 1) else (i : Int)
theorem idxN_end {l : List Pr} {xs : List Alt} {i j : Nat} (h : ¬ i < xs.length) : idxN l (xs.drop i) j = -1 := by rw [drop_end (by omega)]; rfl
theorem idxN_step {l : List Pr} {a : Alt} {xs : List Alt} {i : Nat} (h : xs[i]? = some a) : idxN l (xs.drop i) i = if hasV a l = true then idxN l (xs.drop (i + 1)) (i + 1) else (i : Int) := by rw [drop_get h]; rfl
def allV (l : List Pr) : List Alt → Bool
  | [] => true
  | a :: r => if hasV a l = true then allV l r else false
theorem idxN_all (l : List Pr) (xs : List Alt) (i : Nat) : decide (0 ≤ idxN l xs i) = !allV l xs := by
  induction xs generalizing i with
  | nil => rfl
  | cons a r ih =>
    unfold idxN allV
    split
    · exact ih _
    · simp
def holdsGo (z : Bool) (l : List Pr) : List (List Alt) → Bool
  | [] => z
  | r :: rest => if allV l r = true then true else holdsGo z l rest
theorem holds_end {z : Bool} {l : List Pr} {rows : List (List Alt)} {i : Nat} (h : ¬ i < rows.length) : holdsGo z l (rows.drop i) = z := by rw [drop_end (by omega)]; rfl
theorem holds_step {z : Bool} {l : List Pr} {rows : List (List Alt)} {i : Nat} {r : List Alt} (h : rows[i]? = some r) : holdsGo z l (rows.drop i) = if allV l r = true then true else holdsGo z l (rows.drop (i + 1)) := by rw [drop_get h]; rfl
def holdsF (m : Mat) (l : List Pr) : Bool := holdsGo (decide (m.rows.length = 0)) l m.rows
end Go.Wk
namespace Go.Wk
open Go Go.RowKit
def lastW (o : List (List UInt8)) : List UInt8 := o.getD (o.length - 1) []
def wordsGo : Nat → Sq → List (List UInt8) → List (List UInt8)
  | 0, _, o => o
  | n + 1, s, o =>
    if s.pos < s.l.length then
      if (s.num 4).1 = 0 ∧ 0 < o.length ∧ lastW o ≠ [43] then wordsGo n (s.num 4).2 (o ++ [[43]])
      else wordsGo n (s.num 4).2.pair.2 (o ++ [payload (s.num 4).2.pair.1])
    else o
def cutW (o : List (List UInt8)) : List (List UInt8) := if 0 < o.length ∧ lastW o = [43] then o.take (o.length - 1) else o
def wordsF (l : List Int) (most : Nat) : List (List UInt8) := cutW (wordsGo most { l := l, pos := 0 } [])
theorem lastW_at {o : List (List UInt8)} {x : List UInt8} (h : o[o.length - 1]? = some x) : lastW o = x := by unfold lastW; rw [List.getD_eq_getElem?_getD, h]; rfl
theorem words_end {most : Nat} {s : Sq} {o : List (List UInt8)} (h : ¬ o.length < most) : wordsGo (most - o.length) s o = o := by rw [show most - o.length = 0 by omega]; rfl
theorem words_stop {n : Nat} {s m : Sq} {o : List (List UInt8)} {b : Bool} (h : s.more = (b, m)) (hb : b = false) : wordsGo n s o = o := by
  have h1 : decide (s.pos < s.l.length) = false := by have := congrArg Prod.fst h; rw [hb] at this; exact this
  cases n with
  | zero => rfl
  | succ n => unfold wordsGo; rw [if_neg (of_decide_eq_false h1)]
theorem more_same {s m : Sq} {b : Bool} (h : s.more = (b, m)) : m = s := (congrArg Prod.snd h).symm
theorem words_plus {most k : Nat} {s m s1 : Sq} {o : List (List UInt8)} {b : Bool} (h : s.more = (b, m)) (hb : b = true) (hn : m.num 4 = (k, s1)) (hk : k = 0) (hl : o.length < most) (h0 : 0 < o.length) (hp : lastW o ≠ [43]) :
    wordsGo (most - o.length) s o = wordsGo (most - (o ++ [[43]]).length) s1 (o ++ [[43]]) := by
  have h1 : s.pos < s.l.length := of_decide_eq_true (by have := congrArg Prod.fst h; rw [hb] at this; exact this)
  rw [more_same h] at hn
  rw [show most - o.length = (most - (o ++ [[43]]).length) + 1 by simp; omega]
  conv => lhs; unfold wordsGo
  rw [if_pos h1, hn, if_pos ⟨hk, h0, hp⟩]
theorem words_word {most k : Nat} {s m s1 s2 : Sq} {p : Pr} {o : List (List UInt8)} {b : Bool} (h : s.more = (b, m)) (hb : b = true) (hn : m.num 4 = (k, s1)) (hq : s1.pair = (p, s2)) (hl : o.length < most) (hc : ¬ (k = 0 ∧ 0 < o.length ∧ lastW o ≠ [43])) :
    wordsGo (most - o.length) s o = wordsGo (most - (o ++ [payload p]).length) s2 (o ++ [payload p]) := by
  have h1 : s.pos < s.l.length := of_decide_eq_true (by have := congrArg Prod.fst h; rw [hb] at this; exact this)
  rw [more_same h] at hn
  rw [show most - o.length = (most - (o ++ [payload p]).length) + 1 by simp; omega]
  conv => lhs; unfold wordsGo
  rw [if_pos h1, hn, if_neg hc, hq]
def firstM : Mat := { rows := [[{ name := [65], values := [[49], [50]] }, { name := [66], values := [[51]] }]] }
theorem com_first : comF [[65, 61, 49], [65, 61, 50], [66, 61, 51]] = (firstM, 0) := by rfl
theorem holds_first : holdsF firstM [{ name := [66], value := [51] }, { name := [65], value := [50] }] = true := by rfl
theorem holds_none : holdsF { rows := [] } [] = true := by rfl
end Go.Wk
namespace Go.Wk
open Go Go.RowKit
def goodP (p : Pr) : Prop := right p.pb = true ∧ p.name ∈ namesF ∧ p.value.length ≤ 100
theorem pair_good (s : Sq) : goodP s.pair.1 := by
  unfold Sq.pair
  have h1 := s.num_le 6
  have h2 := (s.num 6).2.num_le 10
  have key : ∀ a, a < 6 → ∀ b, b < 10 → right (namesF.getD a [], valuesF.getD b []) = true ∧ namesF.getD a [] ∈ namesF ∧ (valuesF.getD b []).length ≤ 100 := by decide
  exact key _ (by omega) _ (by omega)
theorem pay_split {p : Pr} (h : right p.pb = true) : splitF (payload p) = (p, 0) := by
  have hw : payload p = whole p.pb := rfl
  obtain ⟨h1, h2⟩ := split_whole ((joinC_right p.pb).2 h)
  unfold splitF
  rw [hw, h1, h2]
  cases p
  rfl
theorem pay_ne (p : Pr) : payload p ≠ [43] := by
  intro h
  unfold payload at h
  cases hn : p.name with
  | nil => rw [hn] at h; simp at h
  | cons x r => rw [hn] at h; simp at h
theorem pay_bd {p : Pr} (h : right p.pb = true) : p.name.length ≤ 64 ∧ p.value.length ≤ 256 := by
  have h1 := (joinC_right p.pb).2 h
  unfold joinC at h1
  split at h1
  · cases h1
  · rename_i h2
    split at h1
    · cases h1
    · rename_i h3
      exact ⟨(name_len (s := p.pb.1) (by simpa using h2)).2, by simpa [Pr.pb] using h3⟩
/-- Words that go on, from one that may be a plus or not, to one behind which one may be. -/
def wr : Bool → List (List UInt8) → Bool → Prop
  | b, [], c => b = c
  | b, s :: r, c => (s = [43] ∧ b = true ∧ wr false r c) ∨ ((∃ p, goodP p ∧ s = payload p) ∧ wr true r c)
theorem wr_app {b c d : Bool} {o r : List (List UInt8)} (h : wr b o c) (k : wr c r d) : wr b (o ++ r) d := by
  induction o generalizing b with
  | nil => simp only [wr] at h; subst h; exact k
  | cons s o ih =>
    rcases h with ⟨h1, h2, h3⟩ | ⟨h1, h3⟩
    · exact .inl ⟨h1, h2, ih h3⟩
    · exact .inr ⟨h1, ih h3⟩
theorem wr_cut {b c : Bool} {o : List (List UInt8)} (h : wr b (o ++ [[43]]) c) : wr b o true := by
  induction o generalizing b with
  | nil =>
    rcases h with ⟨_, h2, _⟩ | ⟨⟨p, _, h2⟩, _⟩
    · exact h2
    · exact absurd h2.symm (pay_ne p)
  | cons s o ih =>
    rcases h with ⟨h1, h2, h3⟩ | ⟨h1, h3⟩
    · exact .inl ⟨h1, h2, ih h3⟩
    · exact .inr ⟨h1, ih h3⟩
theorem lastW_app (o : List (List UInt8)) (s : List UInt8) : lastW (o ++ [s]) = s := by
  unfold lastW; simp [List.getD]
theorem wr_go : ∀ (n : Nat) (s : Sq) (o : List (List UInt8)) (c : Bool), wr false o c → (0 < o.length → lastW o ≠ [43] → c = true) → (c = false → 0 < o.length → lastW o = [43]) →
    ∃ c', wr false (wordsGo n s o) c' ∧ (c' = false → 0 < (wordsGo n s o).length → lastW (wordsGo n s o) = [43]) ∧ (wordsGo n s o).length ≤ o.length + n
  | 0, s, o, c, h, h1, h2 => ⟨c, h, h2, Nat.le_refl _⟩
  | n + 1, s, o, c, h, h1, h2 => by
    unfold wordsGo
    split
    · split
      · rename_i hp
        have hc := h1 hp.2.1 hp.2.2
        subst hc
        obtain ⟨c', g1, g2, g3⟩ := wr_go n (s.num 4).2 (o ++ [[43]]) false (wr_app h (.inl ⟨rfl, rfl, rfl⟩)) (fun _ hh => absurd (lastW_app o [43]) hh) (fun _ _ => lastW_app o [43])
        exact ⟨c', g1, g2, by simp at g3; omega⟩
      · obtain ⟨c', g1, g2, g3⟩ := wr_go n (s.num 4).2.pair.2 (o ++ [payload (s.num 4).2.pair.1]) true (wr_app h (.inr ⟨⟨_, pair_good _, rfl⟩, rfl⟩)) (fun _ _ => rfl) (fun hh => by cases hh)
        exact ⟨c', g1, g2, by simp at g3; omega⟩
    · exact ⟨c, h, h2, by omega⟩
/-- Words of a row of numbers: none, or they may end there. -/
theorem words_wr (l : List Int) (n : Nat) : (wordsF l n = [] ∨ wr false (wordsF l n) true) ∧ (wordsF l n).length ≤ n := by
  unfold wordsF
  obtain ⟨c, h1, h2, h3⟩ := wr_go n { l := l, pos := 0 } [] false rfl (by simp) (by simp)
  generalize wordsGo n { l := l, pos := 0 } [] = o at *
  unfold cutW
  split
  · rename_i hc
    obtain ⟨hc1, hc2⟩ := hc
    have e : o = o.take (o.length - 1) ++ [[43]] := by
      have hl : o[o.length - 1]? = some [43] := by
        have hi : o.length - 1 < o.length := by omega
        rw [List.getElem?_eq_getElem hi]
        unfold lastW at hc2
        rw [List.getD_eq_getElem?_getD, List.getElem?_eq_getElem hi] at hc2
        exact congrArg some hc2
      have := List.take_add_one (l := o) (i := o.length - 1)
      rw [hl, show o.length - 1 + 1 = o.length by omega, List.take_length] at this
      exact this
    refine ⟨.inr ?_, by simp at h3 ⊢; omega⟩
    rw [e] at h1
    exact wr_cut h1
  · rename_i hc
    refine ⟨?_, by simpa using h3⟩
    rcases Nat.eq_zero_or_pos o.length with h0 | h0
    · exact .inl (List.eq_nil_of_length_eq_zero h0)
    · right
      cases c with
      | true => exact h1
      | false => exact absurd ⟨h0, h2 rfl h0⟩ hc
theorem wr_len {b c : Bool} {o : List (List UInt8)} (h : wr b o c) : ∀ s ∈ o, s.length ≤ 1000 := by
  induction o generalizing b with
  | nil => simp
  | cons x o ih =>
    intro s hs
    rcases h with ⟨h1, _, h3⟩ | ⟨⟨p, h1, h2⟩, h3⟩
    · rcases List.mem_cons.1 hs with rfl | hs
      · subst h1; simp
      · exact ih h3 s hs
    · rcases List.mem_cons.1 hs with rfl | hs
      · subst h2; have := pay_bd h1.1; unfold payload; simp; omega
      · exact ih h3 s hs
theorem words_len (l : List Int) (n : Nat) : ∀ s ∈ wordsF l n, s.length ≤ 1000 := by
  rcases (words_wr l n).1 with h | h
  · rw [h]; simp
  · exact wr_len h
theorem preA_ne (l : List Alt) (s : List UInt8) : preA l s ≠ [] := by
  intro h; have := preA_lt l s; rw [h] at this; simp at this
theorem putA_ne (l : List Alt) (p : Pr) : putA l p ≠ [] := by
  unfold putA; intro h; have := congrArg List.length h; simp at this; exact preA_ne _ _ this
theorem com_wr : ∀ (ws : List (List UInt8)) (b : Bool) (rows : List (List Alt)) (row : List Alt), wr b ws true → (b = true → row ≠ []) → ∃ m, comGo ws rows row = (m, 0) ∧ m.rows ≠ []
  | [], b, rows, row, h, hr => by
    simp only [wr] at h
    have h0 : 0 < row.length := List.length_pos_iff.2 (hr h)
    exact ⟨_, rfl, by simp [h0]⟩
  | s :: r, b, rows, row, h, hr => by
    unfold comGo
    rcases h with ⟨h1, h2, h3⟩ | ⟨⟨p, h1, h2⟩, h3⟩
    · rw [if_pos h1]
      have hn : ¬ (r.length = 0 ∨ row.length = 0) := by
        rintro (h0 | h0)
        · rw [List.eq_nil_of_length_eq_zero h0] at h3; simp [wr] at h3
        · exact hr h2 (List.eq_nil_of_length_eq_zero h0)
      rw [if_neg hn]
      exact com_wr r false _ _ h3 (by simp)
    · subst h2
      rw [if_neg (pay_ne p), pay_split h1.1, if_neg (by simp)]
      exact com_wr r true _ _ h3 fun _ => putA_ne _ _
theorem com_words {o : List (List UInt8)} {m : Mat} {c : Nat} (h : comF o = (m, c)) (hw : o = [] ∨ wr false o true) (hl : o.length ≤ 32) : c = 0 ∧ (o = [] → m = { rows := [] }) ∧ (o ≠ [] → m.rows ≠ []) := by
  unfold comF at h
  rw [if_neg (by omega)] at h
  rcases hw with rfl | hw
  · cases h; exact ⟨rfl, fun _ => rfl, fun hh => absurd rfl hh⟩
  · obtain ⟨m', h1, h2⟩ := com_wr o false [] [] hw (by simp)
    rw [h1] at h
    cases h
    exact ⟨rfl, fun hh => by subst hh; simp [wr] at hw, fun _ => h2⟩
theorem holds_nil (l : List Pr) : holdsF { rows := [] } l = true := rfl
/-! Alts that hold -/
theorem hasV_iff {a : Alt} {l : List Pr} : hasV a l = true ↔ ∃ p ∈ l, p.name = a.name ∧ p.value ∈ a.values := by
  induction l with
  | nil => simp [hasV]
  | cons p r ih =>
    unfold hasV
    split
    · rename_i h; rw [hasS_iff] at h; simp [h]
    · rename_i h; rw [hasS_iff] at h; simp [h, ih]
def anyV (l : List Pr) : List (List Alt) → Bool
  | [] => false
  | r :: rest => allV l r || anyV l rest
theorem holdsGo_any (l : List Pr) (rows : List (List Alt)) : holdsGo false l rows = anyV l rows := by
  induction rows with
  | nil => rfl
  | cons r rest ih => unfold holdsGo anyV; rw [ih]; cases allV l r <;> rfl
theorem holds_any {m : Mat} (l : List Pr) (h : m.rows ≠ []) : holdsF m l = anyV l m.rows := by
  unfold holdsF
  have : m.rows.length ≠ 0 := fun hh => h (List.eq_nil_of_length_eq_zero hh)
  rw [decide_eq_false this]
  exact holdsGo_any l m.rows
end Go.Wk
