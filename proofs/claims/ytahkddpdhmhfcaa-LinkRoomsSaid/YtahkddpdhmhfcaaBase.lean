/- Small laws of a walker over the model's operations. No statement is proved here. -/
import Derived.WalkKit
import Derived.WalkSpells
import Derived.WalkLawsBesides
import Derived.Deep.Quiet
import Derived.StillTail
import Derived.KernelRfl
namespace Go.Wk
open Go Go.RowKit

theorem bnt {b : Bool} (h : (!b) = true) : b = false := by cases b <;> simp_all
theorem bnf {b : Bool} (h : (!b) = false) : b = true := by cases b <;> simp_all

/-! ### Frames -/

def look : List (Nat × Value) → Nat → Option Value
  | [], _ => none
  | (k, v) :: r, t => cond (Nat.beq k t) (some v) (look r t)

structure Fr (n : Nat) where
  tmps : Array Value
  size : tmps.size = n

def over {n : Nat} (A : Fr n) (D : List Deferred) : List (Nat × Value) → Act
  | [] => ⟨A.tmps, D⟩
  | (k, v) :: r => (over A D r).put (some k) v

def ev (n : Nat) (l : List (Nat × Value)) : Operand → Option Value
  | .tmp t => cond (Nat.ble n t) none (look l t)
  | .const v => some v
  | .global g => some (.pointer (some ⟨g, 0, none⟩))
  | .func f => some (.func (.func f) #[] #[])

section
variable {n : Nat} {A : Fr n} {D : List Deferred} {l : List (Nat × Value)}

theorem over_size : (over A D l).tmps.size = n := by
  induction l with
  | nil => exact A.size
  | cons p r ih => simp [over, Act.put, ih]

theorem over_defers : (over A D l).defers = D := by
  induction l with
  | nil => rfl
  | cons p r ih => simp [over, Act.put, ih]

theorem over_look {t : Nat} {v : Value} (ht : t < n) (h : look l t = some v) : (over A D l).tmps.getD t undef = v := by
  induction l with
  | nil => simp [look] at h
  | cons p r ih =>
    obtain ⟨k, u⟩ := p
    simp only [look] at h
    have hs : (over A D r).tmps.size = n := over_size
    by_cases hk : k = t
    · subst hk
      simp at h
      subst h
      simp [over, Act.put, Array.getD, hs, ht]
    · have : Nat.beq k t = false := Bool.eq_false_iff.2 fun hh => hk (Nat.eq_of_beq_eq_true hh)
      simp only [this, cond_false] at h
      have hi := ih h
      rw [← hi]
      show ((over A D r).tmps.setIfInBounds k u).getD t undef = _
      simp [hk]

theorem ev_eval {x : Operand} {v : Value} (h : ev n l x = some v) : (over A D l).eval x = v := by
  cases x with
  | tmp t =>
    simp only [ev] at h
    cases ht : Nat.ble n t with
    | true => simp [ht] at h
    | false =>
      simp only [ht, cond_false] at h
      have : t < n := Nat.lt_of_not_le fun hh => by rw [Nat.ble_eq_true_of_le hh] at ht; cases ht
      exact over_look this h
  | const u => simp only [ev, Option.some.injEq] at h; exact h
  | global g => simp only [ev, Option.some.injEq] at h; exact h
  | func f => simp only [ev, Option.some.injEq] at h; exact h

def evs (n : Nat) (l : List (Nat × Value)) : List Operand → Option (List Value)
  | [] => some []
  | x :: r => match ev n l x, evs n l r with
    | some v, some vs => some (v :: vs)
    | _, _ => none

theorem evs_eval {xs : List Operand} {vs : List Value} (h : evs n l xs = some vs) : xs.map (over A D l).eval = vs := by
  induction xs generalizing vs with
  | nil => simpa [evs] using h
  | cons x r ih =>
    simp only [evs] at h
    split at h
    · rename_i v us h1 h2
      simp at h; subst h
      simp [ev_eval h1, ih h2]
    · cases h

/-- 'l1' lists slots whose values are those of 'l'. -/
def Fits (n : Nat) (l : List (Nat × Value)) : List (Nat × Value) → Prop
  | [] => True
  | (t, v) :: r => ev n l (.tmp t) = some v ∧ Fits n l r

theorem put_self (a : Act) (t : Nat) (v : Value) (h : a.tmps.getD t undef = v) : a.put (some t) v = a := by
  cases a with
  | mk tm ds =>
    simp only [Act.put]
    congr 1
    apply Array.ext
    · simp
    · intro i h1 h2
      rw [Array.getElem_setIfInBounds]
      split
      · rename_i e; subst e; subst h; simp at h1; simp [Array.getD, h1]
      · rfl

theorem act_eta (a : Act) (h : a.defers = D) : (⟨a.tmps, D⟩ : Act) = a := by cases a; subst h; rfl

theorem over_fits {l1 : List (Nat × Value)} (h : Fits n l l1) : over (⟨(over A D l).tmps, over_size⟩ : Fr n) D l1 = over A D l := by
  induction l1 with
  | nil => exact act_eta _ over_defers
  | cons p r ih =>
    obtain ⟨t, v⟩ := p
    simp only [Fits] at h
    simp only [over]
    rw [ih h.2]
    exact put_self _ _ _ (by have := ev_eval (A := A) (D := D) h.1; simpa [Act.eval] using this)

/-- Forget all slots but those of 'l1'. -/
theorem forget {G : Act → Prop} (l1 : List (Nat × Value)) (h : Fits n l l1) (k : ∀ B : Fr n, G (over B D l1)) : G (over A D l) := by
  rw [← over_fits (A := A) (D := D) h]; exact k _
end

/-! ### Worlds -/

/-- w' is w but for the old blocks of S, and new ones. -/
structure Md (S : List Nat) (w w' : World) : Prop where
  os : w'.os = w.os
  tape : w'.tape = w.tape
  output : w'.output = w.output
  size : w.heap.size ≤ w'.heap.size
  block : ∀ k, k < w.heap.size → k ∉ S → w'.heap[k]? = w.heap[k]?

theorem Md.refl (S : List Nat) (w : World) : Md S w w := ⟨rfl, rfl, rfl, Nat.le_refl _, fun _ _ _ => rfl⟩
theorem Md.trans {S : List Nat} {a b c : World} (h : Md S a b) (k : Md S b c) : Md S a c :=
  ⟨k.os.trans h.os, k.tape.trans h.tape, k.output.trans h.output, Nat.le_trans h.size k.size, fun i hi hs => (k.block i (Nat.lt_of_lt_of_le hi h.size) hs).trans (h.block i hi hs)⟩
theorem Md.mono {S T : List Nat} {a b : World} (h : Md S a b) (hs : ∀ k, k ∈ S → k < a.heap.size → k ∈ T) : Md T a b :=
  ⟨h.os, h.tape, h.output, h.size, fun i hi ht => h.block i hi fun hm => ht (hs i hm hi)⟩
/-- A step that writes blocks T, each of S or new since 'a'. -/
theorem Md.step {S T : List Nat} {a b c : World} (h : Md S a b) (k : Md T b c) (hT : ∀ i, i ∈ T → i ∈ S ∨ a.heap.size ≤ i) : Md S a c :=
  ⟨k.os.trans h.os, k.tape.trans h.tape, k.output.trans h.output, Nat.le_trans h.size k.size, fun i hi hs =>
    (k.block i (Nat.lt_of_lt_of_le hi h.size) fun hm => (hT i hm).elim hs fun h' => by omega).trans (h.block i hi hs)⟩
theorem Md.step0 {S : List Nat} {a b c : World} (h : Md S a b) (k : Md [] b c) : Md S a c := h.step k (by simp)
theorem Md.step1 {S : List Nat} {a b c : World} {i : Nat} (h : Md S a b) (k : Md [i] b c) (hi : a.heap.size ≤ i) : Md S a c :=
  h.step k (by intro j hj; simp at hj; subst hj; exact .inr hi)
theorem Md.step1' {S : List Nat} {a b c : World} {i : Nat} (h : Md S a b) (k : Md [i] b c) (hi : i ∈ S) : Md S a c :=
  h.step k (by intro j hj; simp at hj; subst hj; exact .inl hi)
theorem Md.below {w w' : World} (h : Md [] w w') : Below w.heap.size w w' := ⟨h.os, h.tape, h.output, h.size, fun k hk => h.block k hk (by simp)⟩
theorem Md.of_below {w w' : World} (h : Below w.heap.size w w') : Md [] w w' := ⟨h.os, h.tape, h.output, h.size, fun k hk _ => h.block k hk⟩
theorem Md.drew (w : World) : Md [] w { w with drawn := w.drawn + 1 } := ⟨rfl, rfl, rfl, Nat.le_refl _, fun _ _ _ => rfl⟩
theorem Md.drewN {S : List Nat} {a w : World} (h : Md S a w) (n : Nat) : Md S a (w.drewN n) := ⟨h.os, h.tape, h.output, h.size, h.block⟩
theorem Md.alloc (w : World) (o : Obj) : Md [] w (w.alloc o) := ⟨rfl, rfl, rfl, by simp, fun _ hk _ => heap_alloc_old w o hk⟩
theorem Md.setCell (w : World) (a : Addr) (u : Value) : Md [a.block] w (w.setCell a u) :=
  ⟨rfl, rfl, rfl, by simp [World.setCell], fun k _ hs => Below.heap_setCell w a u k (by simpa using hs)⟩
theorem Md.grown {w w' : World} {r : Option Nat} (h : w.grownBy w' r) : Md r.toList w w' :=
  ⟨h.os, h.tape, h.output, h.size, fun k hk hs => h.block k hk (by rintro rfl; simp at hs)⟩

theorem Md.cell {S : List Nat} {w w' : World} {p : Addr} {u : Value} (h : Md S w w') (hc : w.cell? p = some u) (hs : p.block ∉ S) : w'.cell? p = some u :=
  (World.cell?_of_block (h.block p.block (World.block_lt_of_cell? w p hc) hs)).trans hc

/-! ### Blocks -/

/-- Block b holds just these cells. -/
def Blk (w : World) (b : Nat) (cs : List Value) (ty : TypeId) : Prop := w.heap[b]? = some (.cells cs.toArray ty (0, 0))

section
variable {w w' : World} {b : Nat} {cs : List Value} {ty : TypeId}
theorem Blk.lt (h : Blk w b cs ty) : b < w.heap.size := (Array.getElem?_eq_some_iff.1 h).1
theorem Blk.md {S : List Nat} (h : Blk w b cs ty) (m : Md S w w') (hs : b ∉ S) : Blk w' b cs ty := (m.block b h.lt hs).trans h
theorem Blk.md0 (h : Blk w b cs ty) (m : Md [] w w') : Blk w' b cs ty := h.md m (by simp)
theorem Blk.md1 {i : Nat} (h : Blk w b cs ty) (m : Md [i] w w') (hi : b ≠ i) : Blk w' b cs ty := h.md m (by simpa using hi)
theorem Blk.cell (h : Blk w b cs ty) (j : Nat) : w.cell? ⟨b, j, none⟩ = cs[j]? := by
  unfold Blk at h
  simp [World.cell?, h]
theorem Blk.frozen (h : Blk w b cs ty) (j : Nat) : w.frozen? ⟨b, j, none⟩ = false := by
  unfold Blk at h
  simp [World.frozen?, h]
theorem Blk.set (h : Blk w b cs ty) (j : Nat) (u : Value) : Blk (w.setCell ⟨b, j, none⟩ u) b (cs.set j u) ty := by
  have hl := h.lt
  unfold Blk at h ⊢
  simp only [World.setCell, Array.getElem?_modify, h]
  simp
theorem Blk.new (w : World) (cs : List Value) (ty : TypeId) : Blk (w.alloc (.cells cs.toArray ty)) w.heap.size cs ty := heap_alloc_new w _
end

/-! ### Slices of one-cell elements -/

def Sl (w : World) (v : Value) (l : List Value) : Prop :=
  ∃ a cap, v = .slice a l.length cap ∧ l.length ≤ cap ∧ cap ≤ maxLen ∧ (a = none → cap = 0) ∧ ∀ p, a = some p → ∀ j u, l[j]? = some u → w.cell? (p.add j) = some u

def b8 (x : UInt8) : Value := .int .u8 (x.toNat : Int)
def By (w : World) (v : Value) (l : List UInt8) : Prop := Sl w v (l.map b8)

/-- The pointer to element i. -/
def elemp : Value → Nat → Value
  | .slice (some p) _ _, i => .pointer (some (p.add i))
  | _, _ => undef
/-- 'v[lo:hi]'. -/
def subv : Value → Nat → Nat → Value
  | .slice a _ cap, lo, hi => .slice (if cap = lo then a else a.map (·.add lo)) (hi - lo) (cap - lo)
  | _, _, _ => undef

theorem Addr.add_block (p : Addr) (j : Nat) : (p.add j).block = p.block := by unfold Addr.add; split <;> rfl
theorem Addr.add_add (p : Addr) (i j : Nat) : (p.add i).add j = p.add (i + j) := by
  unfold Addr.add
  by_cases hi : i = 0 <;> by_cases hj : j = 0 <;> simp [hi, hj]
  omega
theorem Addr.add_mk (b o j : Nat) : (⟨b, o, none⟩ : Addr).add j = ⟨b, o + j, none⟩ := by unfold Addr.add; split <;> simp_all

section
variable {w w' : World} {v : Value} {l : List Value}
theorem Sl.nil (w : World) : Sl w (.slice none 0 0) [] := ⟨none, 0, rfl, Nat.le_refl _, by simp [maxLen], fun _ => rfl, by simp⟩
theorem Sl.len_le (h : Sl w v l) : l.length ≤ maxLen := by obtain ⟨a, cap, _, h1, h2, _⟩ := h; omega
/-- Kept where every old cell but those of S is. -/
theorem Sl.md0 (h : Sl w v l) (m : Md [] w w') : Sl w' v l := by
  obtain ⟨a, cap, h0, h1, h2, h3, h4⟩ := h
  exact ⟨a, cap, h0, h1, h2, h3, fun p hp j u hu => m.cell (h4 p hp j u hu) (by simp)⟩
def vblock : Value → Option Nat
  | .slice (some p) _ _ => some p.block
  | _ => none
/-- v is a slice of m elements. -/
def Shp (v : Value) (m : Nat) : Prop := ∃ a cap, v = .slice a m cap ∧ m ≤ cap ∧ cap ≤ maxLen ∧ (a = none → cap = 0)
theorem Sl.shp (h : Sl w v l) : Shp v l.length := by obtain ⟨a, cap, h1, h2, h3, h4, _⟩ := h; exact ⟨a, cap, h1, h2, h3, h4⟩
/-- The slice's cells, if it has any, lie in none of the blocks of S. -/
def Apart {α : Type} (v : Value) (l : List α) (S : List Nat) : Prop := ∀ b, vblock v = some b → l ≠ [] → b ∉ S
theorem Apart.nil {α : Type} (v : Value) (l : List α) : Apart v l [] := fun _ _ _ => by simp
theorem Sl.lt {b : Nat} (h : Sl w v l) (hb : vblock v = some b) (hl : l ≠ []) : b < w.heap.size := by
  obtain ⟨a, cap, h0, h1, h2, h3, h4⟩ := h
  cases l with
  | nil => exact absurd rfl hl
  | cons u r =>
    subst h0
    cases a with
    | none => simp [vblock] at hb
    | some p =>
      have := World.block_lt_of_cell? w _ (h4 p rfl 0 u rfl)
      rw [Addr.add_block] at this
      simp [vblock] at hb
      omega
theorem Apart.of_old {S : List Nat} (h : Sl w v l) (hS : ∀ i ∈ S, w.heap.size ≤ i) : Apart v l S := fun b hb hl hm => by
  have := h.lt hb hl
  have := hS b hm
  omega
theorem vblock_sub {lo hi b : Nat} (h : vblock (subv v lo hi) = some b) : vblock v = some b := by
  cases v with
  | slice a len cap =>
    cases a with
    | none => simp only [subv] at h; split at h <;> simp [vblock] at h
    | some p =>
      simp only [subv] at h
      split at h
      · exact h
      · simp only [Option.map_some, vblock, Addr.add_block] at h; exact h
  | _ => simp [subv, undef, vblock] at h
theorem Apart.sub {α : Type} {l : List α} {S : List Nat} (h : Apart v l S) (lo hi : Nat) : Apart (subv v lo hi) ((l.take hi).drop lo) S := fun b hb hl => h b (vblock_sub hb) (by rintro rfl; simp at hl)
theorem Sl.md {S : List Nat} (h : Sl w v l) (m : Md S w w') (hs : Apart v l S) : Sl w' v l := by
  obtain ⟨a, cap, h0, h1, h2, h3, h4⟩ := h
  refine ⟨a, cap, h0, h1, h2, h3, fun p hp j u hu => m.cell (h4 p hp j u hu) ?_⟩
  subst h0; subst hp
  rw [Addr.add_block]
  exact hs _ rfl (by rintro rfl; simp at hu)
theorem Sl.of_blk {b : Nat} {cs : List Value} {ty : TypeId} (h : Blk w b cs ty) (hm : cs.length ≤ maxLen) : Sl w (.slice (some ⟨b, 0, none⟩) cs.length cs.length) cs :=
  ⟨_, _, rfl, Nat.le_refl _, hm, by simp, fun p hp j u hu => by cases hp; rw [Addr.add_mk, Nat.zero_add, h.cell]; exact hu⟩
theorem Sl.of_own {base : Nat} {e : TypeId} (h : w.ownsRow base e 1 v l.length l) : Sl w v l := by
  rcases h.2 with ⟨rfl, h0⟩ | ⟨g, cap, cur, rfl, hb, hg, hn, hc, hs, ht⟩
  · have : l = [] := List.eq_nil_of_length_eq_zero h0
    subst this
    exact Sl.nil w
  · exact ⟨_, cap, rfl, hn, hc, by simp, fun p hp j u hu => by cases hp; exact h.cells (g := g) rfl j u hu⟩
theorem Sl.sub (h : Sl w v l) (lo hi : Nat) (h1 : lo ≤ hi) (h2 : hi ≤ l.length) : Sl w (subv v lo hi) ((l.take hi).drop lo) := by
  obtain ⟨a, cap, rfl, h3, h4, h5, h6⟩ := h
  refine ⟨if cap = lo then a else a.map (·.add lo), cap - lo, ?_, ?_, by omega, ?_, ?_⟩
  · simp only [subv]; congr 1; simp; omega
  · simp; omega
  · intro h
    split at h
    · omega
    · cases a with
      | none => have := h5 rfl; omega
      | some p => simp at h
  · intro p hp j u hu
    have hj : j < hi - lo := by
      have := (List.getElem?_eq_some_iff.1 hu).1
      simp at this
      omega
    have hne : cap ≠ lo := by omega
    rw [if_neg hne] at hp
    cases a with
    | none => simp at hp
    | some q =>
      simp at hp
      subst hp
      rw [Addr.add_add]
      refine h6 q rfl (lo + j) u ?_
      rw [List.getElem?_drop, List.getElem?_take] at hu
      rw [if_pos (by omega)] at hu
      exact hu
end
theorem By.sub {w : World} {v : Value} {l : List UInt8} (h : By w v l) (lo hi : Nat) (h1 : lo ≤ hi) (h2 : hi ≤ l.length) : By w (subv v lo hi) ((l.take hi).drop lo) := by
  have := Sl.sub h lo hi h1 (by simpa using h2)
  unfold By
  rwa [List.map_drop, List.map_take]
theorem By.shp {w : World} {v : Value} {l : List UInt8} (h : By w v l) : Shp v l.length := by have := Sl.shp h; simpa using this
theorem By.md0 {w w' : World} {v : Value} {l : List UInt8} (h : By w v l) (m : Md [] w w') : By w' v l := Sl.md0 h m
theorem By.md {S : List Nat} {w w' : World} {v : Value} {l : List UInt8} (h : By w v l) (m : Md S w w') (hs : Apart v l S) : By w' v l := Sl.md h m (fun b hb hl => hs b hb (by rintro rfl; simp at hl))
theorem Apart.of_oldB {w : World} {v : Value} {l : List UInt8} {S : List Nat} (h : By w v l) (hS : ∀ i ∈ S, w.heap.size ≤ i) : Apart v l S := fun b hb hl => Apart.of_old h hS b hb (by simpa using hl)
theorem By.of_blk {w : World} {b : Nat} {l : List UInt8} {ty : TypeId} {m : Nat} (h : Blk w b (l.map b8) ty) (hl : l.length = m) (hm : m ≤ maxLen) : By w (.slice (some ⟨b, 0, none⟩) m m) l := by
  have := Sl.of_blk h (by simpa [hl] using hm)
  simpa [By, hl] using this
theorem By.len_le {w : World} {v : Value} {l : List UInt8} (h : By w v l) : l.length ≤ maxLen := by have := Sl.len_le h; simpa using this
theorem getD_b8 (l : List UInt8) (i : Nat) (h : i < l.length) : (l.map b8)[i]? = some (b8 (l.getD i 0)) := by
  simp [List.getD, h]

theorem By.head {w : World} {v : Value} {l : List UInt8} (h : By w v l) (k : Nat) (hk : k ≤ l.length) : By w (subv v 0 k) (l.take k) := by simpa using h.sub 0 k (Nat.zero_le _) hk
theorem By.tail {w : World} {v : Value} {l : List UInt8} (h : By w v l) (k : Nat) (hk : k ≤ l.length) : By w (subv v k l.length) (l.drop k) := by simpa using h.sub k l.length hk (Nat.le_refl _)
theorem Apart.head {α : Type} {v : Value} {l : List α} {S : List Nat} (h : Apart v l S) (k : Nat) : Apart (subv v 0 k) (l.take k) S := by simpa using h.sub 0 k
theorem Apart.tail {α : Type} {v : Value} {l : List α} {S : List Nat} (h : Apart v l S) (k : Nat) : Apart (subv v k l.length) (l.drop k) S := by simpa using h.sub k l.length

/-! ### Types -/

def isOne (P : Program) (t : TypeId) : Bool :=
  match P.underlying t with
  | some (.struct _) | some (.array _ _) | none => false
  | some _ => Nat.beq (P.cellsOf t) 1
/-- struct or array of n cells -/
def isAggN (P : Program) (t : TypeId) (n : Nat) : Bool :=
  match P.underlying t with
  | some (.struct _) | some (.array _ _) => match P.info? t with
    | some i => Nat.beq i.size n
    | none => false
  | _ => false
def fieldOff (P : Program) (s : TypeId) (f : Nat) : Option Nat :=
  match P.underlying s with
  | some (.struct fs) => match fs[f]? with
    | some fd => match P.info? fd.type with
      | some i => if i.size = 0 then none else some fd.offset
      | none => none
    | none => none
  | _ => none
def zcells (P : Program) (t : TypeId) : Option (List Value) :=
  match P.info? t with
  | some i => match i.zero with
    | some z => some z.cells.toList
    | none => none
  | none => none
def elemIs (P : Program) (e : TypeId) (n : Nat) : Bool :=
  match P.info? e with
  | some i => Nat.beq i.size n
  | none => false

theorem isOne_spec {P : Program} {t : TypeId} (h : isOne P t = true) : ∃ d i, P.underlying t = some d ∧ P.info? t = some i ∧ i.size = 1 ∧ (d matches .struct _ | .array _ _) = false := by
  unfold isOne at h
  split at h
  · cases h
  · cases h
  · cases h
  · rename_i d h1 h2 hd
    refine ⟨d, ?_⟩
    cases hi : P.info? t with
    | none => simp [Program.cellsOf, hi] at h
    | some i =>
      refine ⟨i, hd, rfl, by simpa [Program.cellsOf, hi] using h, ?_⟩
      cases d <;> simp_all
theorem isAggN_spec {P : Program} {t : TypeId} {n : Nat} (h : isAggN P t n = true) : ∃ d i, P.underlying t = some d ∧ P.info? t = some i ∧ i.size = n ∧ (d matches .struct _ | .array _ _) = true := by
  unfold isAggN at h
  split at h
  · rename_i d hd
    split at h
    · rename_i i hi; exact ⟨_, i, hd, hi, by simpa using h, rfl⟩
    · cases h
  · rename_i d hd
    split at h
    · rename_i i hi; exact ⟨_, i, hd, hi, by simpa using h, rfl⟩
    · cases h
  · cases h
theorem run_isAgg_one {P : Program} {t : TypeId} (h : isOne P t = true) (w : World) : (isAgg t).run P w = .ok false w := by
  obtain ⟨d, i, h1, h2, h3, h4⟩ := isOne_spec h
  simp only [isAgg, Sem.run_bind, run_underlying h1, Result.andThen_ok]
  cases d <;> simp_all
theorem run_isAgg_agg {P : Program} {t : TypeId} {n : Nat} (h : isAggN P t n = true) (w : World) : (isAgg t).run P w = .ok true w := by
  obtain ⟨d, i, h1, h2, h3, h4⟩ := isAggN_spec h
  simp only [isAgg, Sem.run_bind, run_underlying h1, Result.andThen_ok]
  cases d <;> simp_all
theorem run_sizeOf {P : Program} {t : TypeId} {i : TypeInfo} (h : P.info? t = some i) (w : World) : (sizeOf t).run P w = .ok i.size w := by
  simp [sizeOf, typeInfo, h]
end Go.Wk
