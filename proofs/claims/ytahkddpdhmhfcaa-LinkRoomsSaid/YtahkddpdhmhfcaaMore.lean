/- Small laws that a walk over data leans on. No statement is proved here. -/
import Derived.Test.YtahkddpdhmhfcaaLoops
import Derived.Test.YtahkddpdhmhfcaaOpens
import Derived.Test.YtahkddpdhmhfcaaTails
namespace Go.Wk
open Go Go.RowKit

theorem getE {α : Type} {l : List α} {i : Nat} (h : i < l.length) : ∃ x, l[i]? = some x := ⟨l[i], by simp [h]⟩
theorem b8_of (n : Nat) : (Value.int .u8 ((n % 256 : Nat) : Int)) = b8 (UInt8.ofNat n) := by simp [b8, UInt8.toNat_ofNat']
theorem shp_nil : Shp (.slice none 0 0) 0 := ⟨none, 0, rfl, Nat.le_refl _, by simp [maxLen], fun _ => rfl⟩
theorem one_idc (l : List UInt8) : ∀ u ∈ idc l, u.oneCell' = true := by
  intro u hu
  simp only [idc, List.mem_cons, List.not_mem_nil, or_false] at hu
  rcases hu with h | h | h | h | h | h | h | h | h | h | h | h | h | h | h | h <;> (subst h; rfl)
theorem one_cells {cs : List Value} (h : cs.all (fun u => u.oneCell') = true) : ∀ u ∈ cs, u.oneCell' = true := by simpa using h
def idZ : List UInt8 := List.replicate 16 0
theorem drop_get {α : Type} {l : List α} {i : Nat} {x : α} (h : l[i]? = some x) : l.drop i = x :: l.drop (i + 1) := by
  obtain ⟨h1, h2⟩ := List.getElem?_eq_some_iff.1 h
  rw [List.drop_eq_getElem_cons h1, h2]
theorem drop_end {α : Type} {l : List α} {i : Nat} (h : l.length ≤ i) : l.drop i = [] := List.drop_eq_nil_of_le h
theorem take_get {α : Type} {l : List α} {i : Nat} {x : α} (h : l[i]? = some x) : l.take (i + 1) = l.take i ++ [x] := by rw [List.take_add_one, h]; rfl

/-- One of S, or new since w. -/
def Fsh (S : List Nat) (w : World) (b : Nat) : Prop := b ∈ S ∨ w.heap.size ≤ b
theorem Fsh.new {S S' : List Nat} {w w' : World} (M : Md S w w') : ∀ b, w'.heap.size ≤ b → Fsh S' w b := fun _ hb => .inr (Nat.le_trans M.size hb)
theorem Fsh.up {w : World} {Q : Nat → Prop} (u : Up w Q) : ∀ b, Fsh [] w b → Q b := fun b hb => hb.elim (fun h => by simp at h) (u b)
theorem Fsh.wid {S : List Nat} {w : World} {b : Nat} (h : Fsh [] w b) : Fsh S w b := h.elim (fun h => by simp at h) .inr
theorem Fsh.lift {S S' : List Nat} {w w' : World} (M : Md S w w') : ∀ b, Fsh [] w' b → Fsh S' w b := fun _ hb => hb.elim (fun h => by simp at h) (fun h => .inr (Nat.le_trans M.size h))
theorem nin_cons {x b : Nat} {l : List Nat} (h : x ≠ b) (k : x ∉ l) : x ∉ b :: l := by simp [h, k]
theorem nin_app {x : Nat} {l m : List Nat} (h : x ∉ l) (k : x ∉ m) : x ∉ l ++ m := by simp [h, k]
theorem all_cons {P : Nat → Prop} {b : Nat} {l : List Nat} (h : P b) (k : ∀ i ∈ l, P i) : ∀ i ∈ b :: l, P i := by
  intro i hi
  rcases List.mem_cons.1 hi with hi | hi
  · rw [hi]; exact h
  · exact k i hi
theorem all_app {P : Nat → Prop} {l m : List Nat} (h : ∀ i ∈ l, P i) (k : ∀ i ∈ m, P i) : ∀ i ∈ l ++ m, P i := by intro i hi; exact (List.mem_append.1 hi).elim (h i) (k i)
theorem all_nil {P : Nat → Prop} : ∀ i ∈ ([] : List Nat), P i := by simp
theorem all_row {P : Nat → Prop} {v : Value} (h : ∀ b, vblock v = some b → P b) : ∀ i ∈ (vblock v).toList, P i := by
  intro i hi
  cases hv : vblock v with
  | none => rw [hv] at hi; simp at hi
  | some b => rw [hv] at hi; simp at hi; subst hi; exact h _ hv
/-- Q' lets what Q let and was there, and no more than Q. -/
def NewQ (w w' : World) (Q Q' : Nat → Prop) : Prop := (∀ b, Q b → b < w.heap.size → Q' b) ∧ (∀ b, Q' b → Q b) ∧ Up w' Q'
section
variable {α β : Type} {T : Dt α} {U : Dt β} {w w' : World} {Q Q' : Nat → Prop} {v : Value} {xs : List α}
theorem Ls.all (h : Ls T w Q v xs) : Ls T w Q (subz T.n v 0 xs.length) xs := by simpa using h.part 0 xs.length (Nat.zero_le _) (Nat.le_refl _)
theorem Ls.head {hi : Nat} (h : Ls T w Q v xs) (h2 : hi ≤ xs.length) : Ls T w Q (subz T.n v 0 hi) (xs.take hi) := by simpa using h.part 0 hi (Nat.zero_le _) h2
theorem Ls.tail {lo : Nat} (h : Ls T w Q v xs) (h1 : lo ≤ xs.length) : Ls T w Q (subz T.n v lo xs.length) (xs.drop lo) := by simpa using h.part lo xs.length h1 (Nat.le_refl _)
theorem Ow.reP {e : Nat} {lo lo' : Nat → Prop} (h : Ow T e lo w Q v xs) (hl : ∀ b, vblock v = some b → lo' b) : Ow T e lo' w Q v xs := ⟨h.1, fun b hb => ⟨hl b hb, (h.2 b hb).2⟩⟩
theorem Ow.lower {e : Nat} {lo lo' : Nat → Prop} (h : Ow T e lo w Q v xs) (hl : ∀ b, lo b → lo' b) : Ow T e lo' w Q v xs := ⟨h.1, fun b hb => ⟨hl b (h.2 b hb).1, (h.2 b hb).2⟩⟩
theorem Ow.freeze {e : Nat} {lo : Nat → Prop} (h : Ow T e lo w Q v xs) : ∃ Q' : Nat → Prop, (∀ b, Q b → Q' b) ∧ (∀ b, Q' b → Q b ∨ vblock v = some b) ∧ Ls T w Q' v xs :=
  ⟨fun b => Q b ∨ vblock v = some b, fun _ => .inl, fun _ => id, (h.reP (lo' := fun b => vblock v = some b) fun _ hb => hb).ls (fun _ => .inl) (fun _ => .inr)⟩
theorem Ow.subF {e : Nat} {lo : Nat → Prop} {v' : Value} (h : Ow T e lo w Q v xs) (s : ∀ b, Q b → Q' b) (t : ∀ b, Q' b → Q b ∨ vblock v' = some b) (dj : ∀ b, vblock v = some b → b ∉ (vblock v').toList) : Ow T e lo w Q' v xs := by
  obtain ⟨⟨cs, h1, h2⟩, h3⟩ := h
  exact ⟨⟨cs, h1, h2.sub fun b hb _ => s b hb⟩, fun b hb => ⟨(h3 b hb).1, fun hq => (t b hq).elim (h3 b hb).2 fun hv => dj b hb (by rw [hv]; simp)⟩⟩
theorem lit_freeze {b m : Nat} {s : List UInt8} (h : By w (.slice (some ⟨b, 0, none⟩) m m) s) : ∃ Q' : Nat → Prop, (∀ x, Q x → Q' x) ∧ (∀ x, Q' x → Q x ∨ x = b) ∧ Ls tB8 w Q' (.slice (some ⟨b, 0, none⟩) m m) s :=
  ⟨fun x => Q x ∨ x = b, fun _ => .inl, fun _ => id, Ls.of_by h fun x hx _ => .inr (by simp [vblock] at hx; exact hx.symm)⟩
theorem Ow.back {e : Nat} {lo : Nat → Prop} (h : Ow T e lo w Q v xs) (t : ∀ b, Q b → Q' b) (n : ∀ b, vblock v = some b → ¬ Q' b) : Ow T e lo w Q' v xs := by
  obtain ⟨⟨cs, h1, h2⟩, h3⟩ := h
  exact ⟨⟨cs, h1, h2.sub fun b hb _ => t b hb⟩, fun b hb => ⟨(h3 b hb).1, n b hb⟩⟩
theorem nfz {b : Nat} {v : Value} (h : b ∉ (vblock v).toList) (k : vblock v = some b) : False := h (by rw [k]; simp)
theorem Ls.offS {S : List Nat} {i : Nat} {x : α} (h : Ls T w Q v xs) (hi : xs[i]? = some x) (hs : ∀ b ∈ S, ¬ Q b) : ∀ b, vblock v = some b → b ∉ S := by
  obtain ⟨a, cap, cs, rfl, h1, h2, h3, h4, h5, h6⟩ := h
  intro b hb hm
  cases a with
  | none => simp [vblock] at hb
  | some p =>
    simp [vblock] at hb
    subst hb
    exact hs _ hm (h4 p rfl (by rintro rfl; simp at hi))
theorem At.md {S : List Nat} {k : Nat} {c : List Value} (h : At w v k c) (m : Md S w w') (hs : ∀ b, vblock v = some b → b ∉ S) : At w' v k c := by
  obtain ⟨p, l, cp, rfl, h1⟩ := h
  exact ⟨p, l, cp, rfl, fun j u hj => m.cell (h1 j u hj) (by rw [Addr.add_block]; exact hs _ rfl)⟩
theorem Ow.blk_ne {e ty b : Nat} {lo : Nat → Prop} {cs : List Value} (h : Ow T e lo w Q v xs) (hB : Blk w b cs ty) (hne : Nat.beq e ty = false) : ∀ b', vblock v = some b' → b' ≠ b := by
  obtain ⟨⟨cx, h1, h2⟩, h3⟩ := h
  exact h1.ne hB hne
theorem apart_bo {e ty b : Nat} {lo : Nat → Prop} {cs : List Value} (hB : Blk w b cs ty) (h : Ow T e lo w Q v xs) (hne : Nat.beq e ty = false) : ∀ b', vblock v = some b' → b' ∉ [b] :=
  fun b' hb => by simpa using h.blk_ne hB hne b' hb
theorem apart_ow {e ty b : Nat} {lo : Nat → Prop} {cs : List Value} (h : Ow T e lo w Q v xs) (hB : Blk w b cs ty) (hne : Nat.beq e ty = false) : b ∉ (vblock v).toList := by
  intro hb
  cases hv : vblock v with
  | none => rw [hv] at hb; simp at hb
  | some c => rw [hv] at hb; simp at hb; exact h.blk_ne hB hne c hv hb.symm
theorem Own.ne_own {e e' sz sz' m m' : Nat} {v v' : Value} {cs cs' : List Value} (h : Own w e sz v m cs) (k : Own w e' sz' v' m' cs') (hne : Nat.beq e e' = false) : ∀ b, vblock v = some b → vblock v' ≠ some b := by
  intro b hb hb'
  rcases h.2 with ⟨rfl, _⟩ | ⟨g, cap, cur, rfl, _, hg, _⟩
  · simp [vblock] at hb
  rcases k.2 with ⟨rfl, _⟩ | ⟨g', cap', cur', rfl, _, hg', _⟩
  · simp [vblock] at hb'
  simp [vblock] at hb hb'
  subst hb; subst hb'
  rw [hg] at hg'
  simp at hg'
  rw [hg'.2] at hne
  simp at hne
theorem apart_dj {v v' : Value} (h : ∀ x, vblock v = some x → vblock v' ≠ some x) : ∀ b, vblock v' = some b → b ∉ (vblock v).toList := by
  intro b hb hm
  cases hv : vblock v with
  | none => rw [hv] at hm; simp at hm
  | some c => rw [hv] at hm; simp at hm; subst hm; exact h _ hv hb
theorem dj_sym {v v' : Value} (h : ∀ x, vblock v = some x → vblock v' ≠ some x) : ∀ x, vblock v' = some x → vblock v ≠ some x := fun x hx hh => h x hh hx
theorem apart_oo {e e' : Nat} {lo lo' : Nat → Prop} {v' : Value} {ys : List β} (h : Ow T e lo w Q v xs) (k : Ow U e' lo' w Q' v' ys) (hne : Nat.beq e e' = false) : ∀ b, vblock v' = some b → b ∉ (vblock v).toList := by
  intro b hb hm
  obtain ⟨⟨cx, h1, h2⟩, h3⟩ := h
  obtain ⟨⟨cy, k1, k2⟩, k3⟩ := k
  cases hv : vblock v with
  | none => rw [hv] at hm; simp at hm
  | some c => rw [hv] at hm; simp at hm; subst hm; exact h1.ne_own k1 hne _ hv hb
def vptr : Value → Nat
  | .pointer (some p) => p.block
  | _ => 0
theorem Pt.ptr {ty : TypeId} {x : α} (h : Pt T ty w Q v x) : v = .pointer (some ⟨(vptr v), 0, none⟩) := by
  obtain ⟨b, c, rfl, _⟩ := h; rfl
end
section
variable {P : Program} {Q : Exit → Act → World → Prop} {n : Nat} {A : Fr n} {D : List Deferred} {l : List (Nat × Value)} {w : World}
def Joins (n : Nat) (D : List Deferred) (l1 : Bool → List (Nat × Value)) (R : Bool → World → Prop) (a : Act) (w : World) : Prop := ∃ (b : Bool) (B : Fr n), a = over B D (l1 b) ∧ R b w
/-- A region whose ways come together again. -/
theorem c_join {id : Nat} {lo : List Oper} (l1 : Bool → List (Nat × Value)) (R : Bool → World → Prop)
    (h : wpList P lo.toArray (fun e a w' => e = .normal ∧ Joins n D l1 R a w') lo (over A D l) w)
    (k : ∀ (b : Bool) (B : Fr n) (w' : World), R b w' → Q .normal (over B D (l1 b)) w') : (Code.region id lo.toArray false).wp P Q (over A D l) w := by
  refine wp_mono (c_region (Q := fun e a w' => e = .normal ∧ Joins n D l1 R a w') h) ?_
  rintro e a w' ⟨rfl, b, B, rfl, hR⟩
  exact k b B w' hR
theorem jn {l1 : Bool → List (Nat × Value)} {R : Bool → World → Prop} (b : Bool) (hf : Fits n l (l1 b)) (hR : R b w) : Joins n D l1 R (over A D l) w :=
  ⟨b, _, (over_fits (A := A) (D := D) hf).symm, hR⟩
theorem c_boolcase {G : Prop} (b : Bool) (h1 : b = true → G) (h0 : b = false → G) : G := by cases b <;> simp_all
end
theorem Md.stepO' {S : List Nat} {w1 w w' : World} {v : Value} (M : Md S w1 w) (hm : Md (vblock v).toList w w') (hv : ∀ b, vblock v = some b → b ∈ S ∨ w1.heap.size ≤ b) : Md S w1 w' := M.stepO hm hv
end Go.Wk
