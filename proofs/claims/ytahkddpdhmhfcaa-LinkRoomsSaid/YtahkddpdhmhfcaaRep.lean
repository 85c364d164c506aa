/- Data that stand behind values, and the blocks that they may lie in; slices of data; rows of the run's own. No statement is proved here. -/
import Derived.Test.YtahkddpdhmhfcaaStrings
namespace Go.Wk
open Go Go.RowKit

def OneC (cs : List Value) : Prop := ∀ u ∈ cs, u.oneCell' = true
theorem OneC.all {cs : List Value} (h : OneC cs) : OneAll cs := by
  induction cs with
  | nil => trivial
  | cons u r ih => exact ⟨h u (by simp), ih fun x hx => h x (by simp [hx])⟩

/-- How data of a type stand in so many cells; what is behind these lies in blocks that are let. -/
structure Dt (α : Type) where
  n : Nat
  pos : 0 < n
  rep : World → (Nat → Prop) → List Value → α → Prop
  len : ∀ {w Q cs x}, rep w Q cs x → cs.length = n
  one : ∀ {w Q cs x}, rep w Q cs x → OneC cs
  md : ∀ {S w w' Q cs x}, rep w Q cs x → Md S w w' → (∀ b ∈ S, ¬ Q b) → rep w' Q cs x
  sub : ∀ {w Q Q' cs x}, rep w Q cs x → (∀ b, Q b → b < w.heap.size → Q' b) → rep w Q' cs x

/-- Plain data of one cell. -/
def tOne {α : Type} (f : α → Value) (h1 : ∀ x, (f x).oneCell' = true) (ok : α → Prop) : Dt α where
  n := 1
  pos := Nat.zero_lt_one
  rep _ _ cs x := cs = [f x] ∧ ok x
  len := by rintro _ _ _ _ ⟨rfl, _⟩; rfl
  one := by rintro _ _ _ _ ⟨rfl, _⟩ u hu; simp at hu; subst hu; exact h1 _
  md := fun h _ _ => h
  sub := fun h _ => h
def tU64 : Dt Nat := tOne (fun x => .int .u64 (x : Int)) (fun _ => rfl) (fun x => x < 18446744073709551616)
def tU32 : Dt Nat := tOne (fun x => .int .u32 (x : Int)) (fun _ => rfl) (fun x => x < 4294967296)
def tNat : Dt Nat := tOne (fun x => .int .i64 (x : Int)) (fun _ => rfl) (fun x => x < 9223372036854775808)
def tInt : Dt Int := tOne (fun x => .int .i64 x) (fun _ => rfl) (fun x => -9223372036854775808 ≤ x ∧ x < 9223372036854775808)
def tB8 : Dt UInt8 := tOne b8 (fun _ => rfl) (fun _ => True)
def tBool : Dt Bool := tOne (fun x => .bool x) (fun _ => rfl) (fun _ => True)
def tStr : Dt (List UInt8) := tOne str (fun _ => rfl) (fun _ => True)

/-- Sixteen bytes. -/
def idc (l : List UInt8) : List Value := [b8 (l.getD 0 0), b8 (l.getD 1 0), b8 (l.getD 2 0), b8 (l.getD 3 0), b8 (l.getD 4 0), b8 (l.getD 5 0), b8 (l.getD 6 0), b8 (l.getD 7 0), b8 (l.getD 8 0), b8 (l.getD 9 0), b8 (l.getD 10 0), b8 (l.getD 11 0), b8 (l.getD 12 0), b8 (l.getD 13 0), b8 (l.getD 14 0), b8 (l.getD 15 0)]
theorem idc_map {l : List UInt8} (h : l.length = 16) : idc l = l.map b8 := by
  apply List.ext_getElem
  · simp [idc, h]
  · intro i h1 h2
    simp [idc] at h1
    simp only [List.getElem_map]
    have hi : i < l.length := by omega
    rcases Nat.lt_or_ge i 8 with h3 | h3
    · rcases Nat.lt_or_ge i 4 with h4 | h4
      · rcases (show i = 0 ∨ i = 1 ∨ i = 2 ∨ i = 3 by omega) with rfl | rfl | rfl | rfl <;> simp [idc, List.getD, hi]
      · rcases (show i = 4 ∨ i = 5 ∨ i = 6 ∨ i = 7 by omega) with rfl | rfl | rfl | rfl <;> simp [idc, List.getD, hi]
    · rcases Nat.lt_or_ge i 12 with h4 | h4
      · rcases (show i = 8 ∨ i = 9 ∨ i = 10 ∨ i = 11 by omega) with rfl | rfl | rfl | rfl <;> simp [idc, List.getD, hi]
      · rcases (show i = 12 ∨ i = 13 ∨ i = 14 ∨ i = 15 by omega) with rfl | rfl | rfl | rfl <;> simp [idc, List.getD, hi]
def tId : Dt (List UInt8) where
  n := 16
  pos := by decide
  rep _ _ cs x := cs = idc x ∧ x.length = 16
  len := by rintro _ _ _ _ ⟨rfl, _⟩; rfl
  one := by rintro _ _ _ _ ⟨rfl, h⟩; rw [idc_map h]; exact one_b8 _
  md := fun h _ _ => h
  sub := fun h _ => h
def tProd {α β : Type} (A : Dt α) (B : Dt β) : Dt (α × β) where
  n := A.n + B.n
  pos := Nat.lt_of_lt_of_le A.pos (Nat.le_add_right _ _)
  rep w Q cs p := ∃ c1 c2, cs = c1 ++ c2 ∧ A.rep w Q c1 p.1 ∧ B.rep w Q c2 p.2
  len := by rintro _ _ _ _ ⟨c1, c2, rfl, h1, h2⟩; simp [A.len h1, B.len h2]
  one := by
    rintro _ _ _ _ ⟨c1, c2, rfl, h1, h2⟩ u hu
    rcases List.mem_append.1 hu with h | h
    · exact A.one h1 u h
    · exact B.one h2 u h
  md := fun ⟨c1, c2, h, h1, h2⟩ m hs => ⟨c1, c2, h, A.md h1 m hs, B.md h2 m hs⟩
  sub := fun ⟨c1, c2, h, h1, h2⟩ s => ⟨c1, c2, h, A.sub h1 s, B.sub h2 s⟩
def tPull {α β : Type} (f : β → α) (A : Dt α) : Dt β where
  n := A.n
  pos := A.pos
  rep w Q cs x := A.rep w Q cs (f x)
  len := A.len
  one := A.one
  md := A.md
  sub := A.sub

section
variable {α : Type} {T : Dt α} {w w' : World} {Q Q' : Nat → Prop}

/-- Elements, one behind the other. -/
def Els (T : Dt α) (w : World) (Q : Nat → Prop) : List Value → List α → Prop
  | cs, [] => cs = []
  | cs, x :: xs => ∃ c r, cs = c ++ r ∧ T.rep w Q c x ∧ Els T w Q r xs
theorem Els.len {cs : List Value} {xs : List α} (h : Els T w Q cs xs) : cs.length = xs.length * T.n := by
  induction xs generalizing cs with
  | nil => simp only [Els] at h; subst h; simp
  | cons x xs ih =>
    obtain ⟨c, r, rfl, h1, h2⟩ := h
    simp [T.len h1, ih h2, Nat.succ_mul, Nat.add_comm]
theorem Els.one {cs : List Value} {xs : List α} (h : Els T w Q cs xs) : OneC cs := by
  induction xs generalizing cs with
  | nil => simp only [Els] at h; subst h; intro u hu; simp at hu
  | cons x xs ih =>
    obtain ⟨c, r, rfl, h1, h2⟩ := h
    intro u hu
    rcases List.mem_append.1 hu with h | h
    · exact T.one h1 u h
    · exact ih h2 u h
theorem Els.md {S : List Nat} {cs : List Value} {xs : List α} (h : Els T w Q cs xs) (m : Md S w w') (hs : ∀ b ∈ S, ¬ Q b) : Els T w' Q cs xs := by
  induction xs generalizing cs with
  | nil => exact h
  | cons x xs ih => obtain ⟨c, r, e, h1, h2⟩ := h; exact ⟨c, r, e, T.md h1 m hs, ih h2⟩
theorem Els.sub {cs : List Value} {xs : List α} (h : Els T w Q cs xs) (s : ∀ b, Q b → b < w.heap.size → Q' b) : Els T w Q' cs xs := by
  induction xs generalizing cs with
  | nil => exact h
  | cons x xs ih => obtain ⟨c, r, e, h1, h2⟩ := h; exact ⟨c, r, e, T.sub h1 s, ih h2⟩
theorem Els.append {cs ds : List Value} {xs ys : List α} (h : Els T w Q cs xs) (k : Els T w Q ds ys) : Els T w Q (cs ++ ds) (xs ++ ys) := by
  induction xs generalizing cs with
  | nil => simp only [Els] at h; subst h; exact k
  | cons x xs ih => obtain ⟨c, r, rfl, h1, h2⟩ := h; exact ⟨c, r ++ ds, by simp, h1, ih h2⟩
theorem Els.single {cs : List Value} {x : α} (h : T.rep w Q cs x) : Els T w Q cs [x] := ⟨cs, [], by simp, h, rfl⟩
theorem Els.get {cs : List Value} {xs : List α} {i : Nat} {x : α} (h : Els T w Q cs xs) (hi : xs[i]? = some x) : ∃ c, T.rep w Q c x ∧ ∀ j u, c[j]? = some u → cs[i * T.n + j]? = some u := by
  induction xs generalizing cs i with
  | nil => simp at hi
  | cons y xs ih =>
    obtain ⟨c, r, rfl, h1, h2⟩ := h
    cases i with
    | zero =>
      simp at hi; subst hi
      refine ⟨c, h1, fun j u hj => ?_⟩
      have := (List.getElem?_eq_some_iff.1 hj).1
      rw [Nat.zero_mul, Nat.zero_add, List.getElem?_append_left this]; exact hj
    | succ i =>
      obtain ⟨d, hd, hc⟩ := ih h2 (by simpa using hi)
      refine ⟨d, hd, fun j u hj => ?_⟩
      have hl := T.len h1
      rw [Nat.succ_mul, List.getElem?_append_right (by omega)]
      rw [show i * T.n + T.n + j - c.length = i * T.n + j by omega]
      exact hc j u hj
theorem Els.split {cs : List Value} {xs ys : List α} (h : Els T w Q cs (xs ++ ys)) : Els T w Q (cs.take (xs.length * T.n)) xs ∧ Els T w Q (cs.drop (xs.length * T.n)) ys := by
  induction xs generalizing cs with
  | nil => simp [Els]; exact h
  | cons x xs ih =>
    obtain ⟨c, r, rfl, h1, h2⟩ := h
    obtain ⟨h3, h4⟩ := ih h2
    have hl := T.len h1
    have e : (x :: xs).length * T.n = c.length + xs.length * T.n := by simp [Nat.succ_mul, hl, Nat.add_comm]
    rw [e]
    refine ⟨⟨c, r.take (xs.length * T.n), ?_, h1, h3⟩, ?_⟩
    · rw [List.take_append, List.take_of_length_le (Nat.le_add_right _ _), Nat.add_sub_cancel_left]
    · rw [List.drop_append, List.drop_of_length_le (Nat.le_add_right _ _), Nat.add_sub_cancel_left]; exact h4
theorem Els.set {cs : List Value} {xs : List α} {i : Nat} {c : List Value} {x : α} (h : Els T w Q cs xs) (hx : T.rep w Q c x) (hi : i < xs.length) :
    Els T w Q (cs.take (i * T.n) ++ c ++ cs.drop (i * T.n + T.n)) (xs.set i x) := by
  have e : xs = xs.take i ++ xs.drop i := (List.take_append_drop i xs).symm
  have hl : (xs.take i).length = i := by simp; omega
  rw [e] at h
  obtain ⟨h1, h2⟩ := h.split
  rw [hl] at h1 h2
  obtain ⟨y, ys, hy⟩ : ∃ y ys, xs.drop i = y :: ys := by
    cases hd : xs.drop i with
    | nil => have := congrArg List.length hd; simp at this; omega
    | cons y ys => exact ⟨y, ys, rfl⟩
  rw [hy] at h2
  obtain ⟨d, r, hd, h3, h4⟩ := h2
  have hr : cs.drop (i * T.n + T.n) = r := by
    rw [← List.drop_drop, hd]
    simp [T.len h3]
  have e2 : xs.set i x = xs.take i ++ (x :: ys) := by
    rw [List.set_eq_take_append_cons_drop, if_pos hi]
    congr 2
    have : xs.drop (i + 1) = (xs.drop i).drop 1 := by simp [Nat.add_comm]
    rw [this, hy]; rfl
  rw [e2, hr, List.append_assoc]
  exact h1.append ⟨c, r, rfl, hx, h4⟩

/-- A slice of data. -/
def Ls (T : Dt α) (w : World) (Q : Nat → Prop) (v : Value) (xs : List α) : Prop :=
  ∃ a cap cs, v = .slice a xs.length cap ∧ xs.length ≤ cap ∧ cap ≤ maxLen ∧ (a = none → cap = 0) ∧ (∀ p, a = some p → xs ≠ [] → Q p.block) ∧ (∀ p, a = some p → ∀ j u, cs[j]? = some u → w.cell? (p.add j) = some u) ∧ Els T w Q cs xs
theorem Ls.nil (T : Dt α) (w : World) (Q : Nat → Prop) : Ls T w Q (.slice none 0 0) [] := ⟨none, 0, [], rfl, Nat.le_refl _, by simp [maxLen], fun _ => rfl, by simp, by simp, rfl⟩
theorem Ls.md {S : List Nat} {v : Value} {xs : List α} (h : Ls T w Q v xs) (m : Md S w w') (hs : ∀ b ∈ S, ¬ Q b) : Ls T w' Q v xs := by
  obtain ⟨a, cap, cs, h0, h1, h2, h3, h4, h5, h6⟩ := h
  refine ⟨a, cap, cs, h0, h1, h2, h3, h4, fun p hp j u hj => m.cell (h5 p hp j u hj) ?_, h6.md m hs⟩
  rw [Addr.add_block]
  intro hm
  refine hs _ hm (h4 p hp ?_)
  rintro rfl
  simp only [Els] at h6
  subst h6
  simp at hj
theorem Ls.md0 {v : Value} {xs : List α} (h : Ls T w Q v xs) (m : Md [] w w') : Ls T w' Q v xs := h.md m (by simp)
theorem Ls.sub {v : Value} {xs : List α} (h : Ls T w Q v xs) (s : ∀ b, Q b → b < w.heap.size → Q' b) : Ls T w Q' v xs := by
  obtain ⟨a, cap, cs, h0, h1, h2, h3, h4, h5, h6⟩ := h
  refine ⟨a, cap, cs, h0, h1, h2, h3, fun p hp hx => s _ (h4 p hp hx) ?_, h5, h6.sub s⟩
  cases xs with
  | nil => exact absurd rfl hx
  | cons x xs =>
    obtain ⟨c, r, rfl, h7, h8⟩ := h6
    cases c with
    | nil => have := T.len h7; have := T.pos; simp at *; omega
    | cons u c => have := World.block_lt_of_cell? w _ (h5 p hp 0 u rfl); rwa [Addr.add_block] at this
theorem Ls.shp {v : Value} {xs : List α} (h : Ls T w Q v xs) : Shp v xs.length := by obtain ⟨a, cap, cs, h0, h1, h2, h3, _⟩ := h; exact ⟨a, cap, h0, h1, h2, h3⟩
theorem Ls.len_le {v : Value} {xs : List α} (h : Ls T w Q v xs) : xs.length ≤ maxLen := by obtain ⟨a, cap, cs, h0, h1, h2, _⟩ := h; omega
theorem Ls.len63 {v : Value} {xs : List α} (h : Ls T w Q v xs) : xs.length ≤ 9223372036854775807 := by have := h.len_le; simp only [maxLen] at this; omega
theorem Ls.oneCell {v : Value} {xs : List α} (h : Ls T w Q v xs) : v.oneCell' = true := by obtain ⟨a, cap, cs, rfl, _⟩ := h; rfl
theorem Ls.by {v : Value} {xs : List UInt8} (h : Ls tB8 w Q v xs) : By w v xs := by
  obtain ⟨a, cap, cs, h0, h1, h2, h3, h4, h5, h6⟩ := h
  have e : cs = xs.map b8 := by
    clear h0 h1 h4 h5
    induction xs generalizing cs with
    | nil => exact h6
    | cons x xs ih => obtain ⟨c, r, rfl, ⟨rfl, _⟩, h8⟩ := h6; rw [ih _ h8]; rfl
  subst e
  exact ⟨a, cap, by simpa using h0, by simpa using h1, h2, h3, h5⟩
theorem els_one {β : Type} {f : β → Value} {h1 : ∀ x, (f x).oneCell' = true} {ok : β → Prop} {xs : List β} (h : ∀ x ∈ xs, ok x) : Els (tOne f h1 ok) w Q (xs.map f) xs := by
  induction xs with
  | nil => rfl
  | cons x xs ih => exact ⟨[f x], xs.map f, rfl, ⟨rfl, h x (by simp)⟩, ih fun y hy => h y (by simp [hy])⟩
theorem els_one_eq {β : Type} {f : β → Value} {h1 : ∀ x, (f x).oneCell' = true} {ok : β → Prop} {cs : List Value} {xs : List β} (h : Els (tOne f h1 ok) w Q cs xs) : cs = xs.map f ∧ ∀ x ∈ xs, ok x := by
  induction xs generalizing cs with
  | nil => exact ⟨h, by simp⟩
  | cons x xs ih =>
    obtain ⟨c, r, rfl, ⟨rfl, ho⟩, h8⟩ := h
    obtain ⟨rfl, h9⟩ := ih h8
    exact ⟨rfl, by simpa using ⟨ho, h9⟩⟩
theorem Ls.of_sl {β : Type} {f : β → Value} {h1 : ∀ x, (f x).oneCell' = true} {ok : β → Prop} {v : Value} {xs : List β} (h : Sl w v (xs.map f)) (ho : ∀ x ∈ xs, ok x) (hQ : ∀ b, vblock v = some b → xs ≠ [] → Q b) : Ls (tOne f h1 ok) w Q v xs := by
  obtain ⟨a, cap, rfl, h2, h3, h4, h5⟩ := h
  exact ⟨a, cap, xs.map f, by simp, by simpa using h2, h3, h4, fun p hp hx => hQ _ (by subst hp; rfl) hx, h5, els_one ho⟩
theorem Ls.sl {β : Type} {f : β → Value} {h1 : ∀ x, (f x).oneCell' = true} {ok : β → Prop} {v : Value} {xs : List β} (h : Ls (tOne f h1 ok) w Q v xs) : Sl w v (xs.map f) ∧ ∀ x ∈ xs, ok x := by
  obtain ⟨a, cap, cs, rfl, h2, h3, h4, h5, h6, h7⟩ := h
  obtain ⟨rfl, h8⟩ := els_one_eq h7
  exact ⟨⟨a, cap, by simp, by simpa using h2, h3, h4, h6⟩, h8⟩
theorem Ls.of_by {v : Value} {xs : List UInt8} (h : By w v xs) (hQ : ∀ b, vblock v = some b → xs ≠ [] → Q b) : Ls tB8 w Q v xs := Ls.of_sl h (fun _ _ => trivial) hQ

/-- A slice as one cell. -/
def tSl (T : Dt α) : Dt (List α) where
  n := 1
  pos := Nat.zero_lt_one
  rep w Q cs xs := ∃ v, cs = [v] ∧ Ls T w Q v xs
  len := by rintro _ _ _ _ ⟨v, rfl, _⟩; rfl
  one := by rintro _ _ _ _ ⟨v, rfl, h⟩ u hu; simp at hu; subst hu; exact h.oneCell
  md := fun ⟨v, e, h⟩ m hs => ⟨v, e, h.md m hs⟩
  sub := fun ⟨v, e, h⟩ s => ⟨v, e, h.sub s⟩
/-- A pointer to data that stay. -/
def Pt (T : Dt α) (ty : TypeId) (w : World) (Q : Nat → Prop) (v : Value) (x : α) : Prop := ∃ b c, v = .pointer (some ⟨b, 0, none⟩) ∧ Q b ∧ Blk w b c ty ∧ T.rep w Q c x
theorem Pt.md {ty : TypeId} {S : List Nat} {v : Value} {x : α} (h : Pt T ty w Q v x) (m : Md S w w') (hs : ∀ b ∈ S, ¬ Q b) : Pt T ty w' Q v x := by
  obtain ⟨b, c, h0, h1, h2, h3⟩ := h
  exact ⟨b, c, h0, h1, h2.md m fun hb => hs b hb h1, T.md h3 m hs⟩
theorem Pt.md0 {ty : TypeId} {v : Value} {x : α} (h : Pt T ty w Q v x) (m : Md [] w w') : Pt T ty w' Q v x := h.md m (by simp)
theorem Pt.sub {ty : TypeId} {v : Value} {x : α} (h : Pt T ty w Q v x) (s : ∀ b, Q b → b < w.heap.size → Q' b) : Pt T ty w Q' v x := by
  obtain ⟨b, c, h0, h1, h2, h3⟩ := h
  exact ⟨b, c, h0, s b h1 h2.lt, h2, T.sub h3 s⟩
def tPt (T : Dt α) (ty : TypeId) : Dt α where
  n := 1
  pos := Nat.zero_lt_one
  rep w Q cs x := ∃ v, cs = [v] ∧ Pt T ty w Q v x
  len := by rintro _ _ _ _ ⟨v, rfl, _⟩; rfl
  one := by rintro _ _ _ _ ⟨v, rfl, b, c, rfl, _⟩ u hu; simp at hu; subst hu; rfl
  md := fun ⟨v, e, h⟩ m hs => ⟨v, e, h.md m hs⟩
  sub := fun ⟨v, e, h⟩ s => ⟨v, e, h.sub s⟩

/-- 'v[lo:hi]', elements of sz cells. -/
def subz (sz : Nat) : Value → Nat → Nat → Value
  | .slice a _ cap, lo, hi => .slice (if cap = lo then a else a.map (·.add (lo * sz))) (hi - lo) (cap - lo)
  | _, _, _ => undef
theorem Ls.part {v : Value} {xs : List α} (h : Ls T w Q v xs) (lo hi : Nat) (h1 : lo ≤ hi) (h2 : hi ≤ xs.length) : Ls T w Q (subz T.n v lo hi) ((xs.take hi).drop lo) := by
  obtain ⟨a, cap, cs, rfl, h3, h4, h5, h6, h7, h8⟩ := h
  have hl : ((xs.take hi).drop lo).length = hi - lo := by simp; omega
  have e1 : xs = (xs.take hi).take lo ++ (((xs.take hi).drop lo) ++ xs.drop hi) := by rw [← List.append_assoc, List.take_append_drop, List.take_append_drop]
  rw [e1] at h8
  have h9 := h8.split.2
  have hl2 : ((xs.take hi).take lo).length = lo := by simp; omega
  rw [hl2] at h9
  have h10 := h9.split.1
  rw [hl] at h10
  refine ⟨if cap = lo then a else a.map (·.add (lo * T.n)), cap - lo, _, ?_, ?_, by omega, ?_, ?_, ?_, h10⟩
  · simp only [subz, hl]
  · rw [hl]; omega
  · intro h
    split at h
    · omega
    · cases a with
      | none => have := h5 rfl; omega
      | some p => simp at h
  · intro p hp hx
    have hne : cap ≠ lo := by intro hc; apply hx; apply List.eq_nil_of_length_eq_zero; omega
    rw [if_neg hne] at hp
    cases a with
    | none => simp at hp
    | some q =>
      simp at hp
      subst hp
      rw [Addr.add_block]
      exact h6 q rfl (by rintro rfl; simp at hx)
  · intro p hp j u hu
    have hj := (List.getElem?_eq_some_iff.1 hu).1
    simp only [List.length_take, List.length_drop] at hj
    have hne : cap ≠ lo := by
      intro hc
      have : hi - lo = 0 := by omega
      rw [this] at hj; simp at hj
    rw [if_neg hne] at hp
    cases a with
    | none => simp at hp
    | some q =>
      simp at hp
      subst hp
      rw [Addr.add_add]
      refine h7 q rfl _ u ?_
      rw [List.getElem?_take, if_pos (by omega), List.getElem?_drop] at hu
      exact hu

/-- Cells of an element: from k on behind v's first one. -/
def At (w : World) (v : Value) (k : Nat) (c : List Value) : Prop := ∃ p l cp, v = .slice (some p) l cp ∧ ∀ j u, c[j]? = some u → w.cell? (p.add (k + j)) = some u
theorem Ls.get {v : Value} {xs : List α} {i : Nat} {x : α} (h : Ls T w Q v xs) (hi : xs[i]? = some x) : ∃ c, T.rep w Q c x ∧ At w v (i * T.n) c := by
  obtain ⟨a, cap, cs, rfl, h1, h2, h3, h4, h5, h6⟩ := h
  obtain ⟨c, hc, hj⟩ := h6.get hi
  cases a with
  | none =>
    have := h3 rfl
    have := (List.getElem?_eq_some_iff.1 hi).1
    omega
  | some p => exact ⟨c, hc, p, _, cap, rfl, fun j u hu => h5 p rfl _ u (hj j u hu)⟩
theorem At.md0 {v : Value} {k : Nat} {c : List Value} (h : At w v k c) (m : Md [] w w') : At w' v k c := by
  obtain ⟨p, l, cp, h0, h1⟩ := h
  exact ⟨p, l, cp, h0, fun j u hj => m.cell (h1 j u hj) (by simp)⟩

/-- A row of the run's own, of elements; no datum that is let looks into it. -/
def Ow (T : Dt α) (e : TypeId) (lo : Nat → Prop) (w : World) (Q : Nat → Prop) (v : Value) (xs : List α) : Prop :=
  (∃ cs, Own w e T.n v xs.length cs ∧ Els T w Q cs xs) ∧ ∀ b, vblock v = some b → lo b ∧ ¬ Q b
theorem Ow.nil (T : Dt α) (e : TypeId) (lo : Nat → Prop) (w : World) (Q : Nat → Prop) : Ow T e lo w Q (.slice none 0 0) [] := ⟨⟨[], Own.nil w e _, rfl⟩, by simp [vblock]⟩
theorem Ow.md {e : TypeId} {lo : Nat → Prop} {S : List Nat} {v : Value} {xs : List α} (h : Ow T e lo w Q v xs) (m : Md S w w') (hv : ∀ b, vblock v = some b → b ∉ S) (hs : ∀ b ∈ S, ¬ Q b) : Ow T e lo w' Q v xs := by
  obtain ⟨⟨cs, h1, h2⟩, h3⟩ := h
  exact ⟨⟨cs, h1.md m hv, h2.md m hs⟩, h3⟩
theorem Ow.md0 {e : TypeId} {lo : Nat → Prop} {v : Value} {xs : List α} (h : Ow T e lo w Q v xs) (m : Md [] w w') : Ow T e lo w' Q v xs := h.md m (by simp) (by simp)
theorem Ow.lt {e : TypeId} {lo : Nat → Prop} {v : Value} {xs : List α} (h : Ow T e lo w Q v xs) : ∀ b, vblock v = some b → b < w.heap.size := by obtain ⟨⟨cs, h1, h2⟩, h3⟩ := h; exact h1.lt
theorem Ow.sub {e : TypeId} {lo : Nat → Prop} {v : Value} {xs : List α} (h : Ow T e lo w Q v xs) (s : ∀ b, Q b → b < w.heap.size → Q' b) (t : ∀ b, Q' b → Q b) : Ow T e lo w Q' v xs := by
  obtain ⟨⟨cs, h1, h2⟩, h3⟩ := h
  exact ⟨⟨cs, h1, h2.sub s⟩, fun b hb => ⟨(h3 b hb).1, fun hq => (h3 b hb).2 (t b hq)⟩⟩
theorem own_cells {e : TypeId} {sz m : Nat} {v : Value} {cs : List Value} (h : Own w e sz v m cs) : ∃ a cap, v = .slice a m cap ∧ m ≤ cap ∧ cap ≤ maxLen ∧ (a = none → cap = 0) ∧ ∀ p, a = some p → ∀ j u, cs[j]? = some u → w.cell? (p.add j) = some u := by
  rcases h.2 with ⟨rfl, rfl⟩ | ⟨g, cap, cur, rfl, hb, hg, hn, hc, hs, ht⟩
  · exact ⟨none, 0, rfl, Nat.le_refl _, by simp [maxLen], fun _ => rfl, by simp⟩
  · exact ⟨some ⟨g, 0, none⟩, cap, rfl, hn, hc, by simp, fun p hp j u hu => by cases hp; exact World.ownsRow.cells h (g := g) rfl j u hu⟩
/-- An own row, as data: it lies among what is let then. -/
theorem Ow.ls {e : TypeId} {lo : Nat → Prop} {v : Value} {xs : List α} (h : Ow T e lo w Q v xs) (t : ∀ b, Q b → Q' b) (u : ∀ b, lo b → Q' b) : Ls T w Q' v xs := by
  obtain ⟨⟨cs, h1, h2⟩, h3⟩ := h
  obtain ⟨a, cap, rfl, h4, h5, h6, h7⟩ := own_cells h1
  exact ⟨a, cap, cs, rfl, h4, h5, h6, fun p hp _ => u _ (h3 _ (by subst hp; rfl)).1, h7, h2.sub fun b hb _ => t b hb⟩
theorem Ow.get {e : TypeId} {lo : Nat → Prop} {v : Value} {xs : List α} {i : Nat} {x : α} (h : Ow T e lo w Q v xs) (hi : xs[i]? = some x) : ∃ c, T.rep w Q c x ∧ At w v (i * T.n) c := by
  obtain ⟨⟨cs, h1, h2⟩, _⟩ := h
  obtain ⟨a, cap, rfl, h4, h5, h6, h7⟩ := own_cells h1
  obtain ⟨c, hc, hj⟩ := h2.get hi
  cases a with
  | none =>
    have := h6 rfl
    have := (List.getElem?_eq_some_iff.1 hi).1
    omega
  | some p => exact ⟨c, hc, p, _, cap, rfl, fun j u hu => h7 p rfl _ u (hj j u hu)⟩
/-- An own row, to be read at once. -/
theorem Ow.read {e : TypeId} {lo : Nat → Prop} {v : Value} {xs : List α} (h : Ow T e lo w Q v xs) : Ls T w (fun b => Q b ∨ lo b) v xs := h.ls (fun _ => .inl) (fun _ => .inr)
theorem Ow.shp {e : TypeId} {lo : Nat → Prop} {v : Value} {xs : List α} (h : Ow T e lo w Q v xs) : Shp v xs.length := h.read.shp
theorem Ow.oneCell {e : TypeId} {lo : Nat → Prop} {v : Value} {xs : List α} (h : Ow T e lo w Q v xs) : v.oneCell' = true := h.read.oneCell
theorem Ow.len_le {e : TypeId} {lo : Nat → Prop} {v : Value} {xs : List α} (h : Ow T e lo w Q v xs) : xs.length ≤ maxLen := h.read.len_le
end

/-- What is made from now on is let. -/
def Up (w : World) (Q : Nat → Prop) : Prop := ∀ b, w.heap.size ≤ b → Q b
theorem Up.md {S : List Nat} {w w' : World} {Q : Nat → Prop} (u : Up w Q) (m : Md S w w') : Up w' Q := fun b hb => u b (Nat.le_trans m.size hb)
theorem Up.not {w : World} {Q : Nat → Prop} {b : Nat} (u : Up w Q) (h : ¬ Q b) : b < w.heap.size := Nat.lt_of_not_le fun hb => h (u b hb)
/-- A new block of the run's own: it is let no more. -/
theorem exQ {Q : Nat → Prop} {w w' : World} {b : Nat} (u : Up w Q) (h1 : w.heap.size ≤ b) (h2 : b < w'.heap.size) (m : Md [] w w') :
    ∃ Q' : Nat → Prop, (∀ x, Q x → x < w.heap.size → Q' x) ∧ (∀ x, Q' x → Q x) ∧ ¬ Q' b ∧ Up w' Q' :=
  ⟨fun x => Q x ∧ x ≠ b, fun x hx hl => ⟨hx, by omega⟩, fun x hx => hx.1, fun h => h.2 rfl, fun x hx => ⟨u x (Nat.le_trans m.size hx), by omega⟩⟩
end Go.Wk
