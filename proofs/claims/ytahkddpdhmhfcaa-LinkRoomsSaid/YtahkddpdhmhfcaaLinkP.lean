/- Entries by their arrays. No statement is proved here. -/
import Derived.Test.YtahkddpdhmhfcaaImgP
namespace Go.Wk
open Go Go.RowKit
/-- A field of one cell of a struct's value. -/
def fieldOne (P : Program) (s : TypeId) (f : Nat) : Option Nat :=
  match P.underlying s with
  | some (.struct fs) => match fs[f]? with
    | some x => cond (isOne P x.type) (some x.offset) none
    | none => none
  | _ => none
section
variable {P : Program} {n : Nat} {A : Fr n} {D : List Deferred} {l : List (Nat × Value)} {w : World} {d : Option Tmp} {ty : TypeId} {ps : String} {af : Array Edge} {g : Option (Nat × Bool)}
theorem r_fieldV {x : Operand} {s : TypeId} {f off : Nat} {cs : List Value} {u : Value} (hf : fieldOne P s f = some off) (hx : ev n l x = some (.agg cs.toArray)) (hc : cs[off]? = some u) :
    RunV P ⟨d, .field s x f, ty, ps, af, g⟩ (over A D l).eval w u := by
  unfold fieldOne at hf
  split at hf
  · rename_i fs hu
    split at hf
    · rename_i y hy
      cases h1 : isOne P y.type with
      | false => rw [h1] at hf; cases hf
      | true =>
        rw [h1] at hf
        simp only [cond_true, Option.some.injEq] at hf
        subst hf
        simp [RunV, execOp, ev_eval hx, Instr.field, run_underlying hu, hy, part, run_isAgg_one h1, asAgg, hc]
    · cases hf
  · cases hf
end
structure Lst where
  out : List Nat
  cur : Nat
  ahead : Nat
def Lst.cells (x : Lst) (v0 : Value) : List Value :=
  [v0] ++ ([(.int .u64 ((x.cur : Nat) : Int))] ++ ([(.int .u64 ((x.ahead : Nat) : Int))]))
def tLst : Dt Lst := tPull (fun x => (x.out, x.cur, x.ahead)) (tProd (tSl tU64) (tProd tU64 tU64))
def Lst.ok (x : Lst) : Prop := x.cur < 18446744073709551616 ∧ x.ahead < 18446744073709551616
theorem tLst_un {w : World} {Q : Nat → Prop} {cs : List Value} {x : Lst} (h : tLst.rep w Q cs x) : ∃ v0, cs = x.cells v0 ∧ Lst.ok x ∧ Ls tU64 w Q v0 x.out := by
  obtain ⟨_, _, rfl, ⟨v0, rfl, q0⟩, ⟨_, _, rfl, ⟨rfl, q1⟩, ⟨rfl, q2⟩⟩⟩ := h
  exact ⟨v0, rfl, ⟨q1, q2⟩, q0⟩
theorem tLst_mk {w : World} {Q : Nat → Prop} {x : Lst} {v0 : Value} (c0 : Lst.ok x) (c1 : Ls tU64 w Q v0 x.out) : tLst.rep w Q (x.cells v0) x :=
  ⟨_, _, rfl, ⟨_, rfl, c1⟩, ⟨_, _, rfl, ⟨rfl, c0.1⟩, ⟨rfl, c0.2⟩⟩⟩
theorem Lst.one {x : Lst} {v0 : Value} (h0 : v0.oneCell' = true) : (x.cells v0).all (fun u => u.oneCell') = true := (ones_app (ones_1 h0) (ones_app rfl rfl))
def roomP (k : Int) : Nat := if k < 0 then 0 else if 6 ≤ k then 256 else 4 * 2 ^ k.toNat
theorem open_empty : (openF (imageOf [] 0)).2 = 0 ∧ ((openF (imageOf [] 0)).1.map fun y => y.h.n.getD 8 0) = some 0 := by decide +kernel
theorem open_emptyE {x : Option PView} {c : Nat} (h : openF (imageOf [] 0) = (x, c)) : c = 0 ∧ ∃ y, x = some y ∧ y.h.n.getD 8 0 = 0 := by
  have h1 := open_empty
  rw [h] at h1
  obtain ⟨h2, h3⟩ := h1
  cases x with
  | none => simp at h3
  | some y => exact ⟨h2, y, rfl, by simpa using h3⟩
theorem room_vals {k : Int} (h : 0 ≤ k) : (k = 0 ∧ roomP k = 4) ∨ (k = 1 ∧ roomP k = 8) ∨ (k = 2 ∧ roomP k = 16) ∨ (k = 3 ∧ roomP k = 32) ∨ (k = 4 ∧ roomP k = 64) ∨ (k = 5 ∧ roomP k = 128) ∨ (6 ≤ k ∧ roomP k = 256) := by
  rcases (show k = 0 ∨ k = 1 ∨ k = 2 ∨ k = 3 ∨ k = 4 ∨ k = 5 ∨ 6 ≤ k by omega) with rfl | rfl | rfl | rfl | rfl | rfl | h6
  · exact .inl ⟨rfl, rfl⟩
  · exact .inr (.inl ⟨rfl, rfl⟩)
  · exact .inr (.inr (.inl ⟨rfl, rfl⟩))
  · exact .inr (.inr (.inr (.inl ⟨rfl, rfl⟩)))
  · exact .inr (.inr (.inr (.inr (.inl ⟨rfl, rfl⟩))))
  · exact .inr (.inr (.inr (.inr (.inr (.inl ⟨rfl, rfl⟩)))))
  · refine .inr (.inr (.inr (.inr (.inr (.inr ⟨h6, ?_⟩)))))
    unfold roomP; rw [if_neg (by omega), if_pos h6]
theorem room_neg {k : Int} (h : k < 0) : roomP k = 0 := by unfold roomP; rw [if_pos h]
theorem half_bd {k : Int} (h : 0 ≤ k) : 0 ≤ k.tdiv 2 ∧ k.tdiv 2 * 2 ≤ k := by rw [Int.tdiv_eq_ediv_of_nonneg h]; omega
theorem img_len : (imageOf [] 0).length ≤ 1000 := by decide +kernel
section
variable {P : Program} {n : Nat} {A : Fr n} {D : List Deferred} {l : List (Nat × Value)} {w : World} {d : Option Tmp} {ty : TypeId} {ps : String} {af : Array Edge} {g : Option (Nat × Bool)}
theorem r_quoZ {x y : Operand} {t u : TypeId} {a b : Int} (hx : ev n l x = some (.int .i64 a)) (hy : ev n l y = some (.int .i64 b)) (h : b ≠ 0 ∧ -9223372036854775808 ≤ a.tdiv b ∧ a.tdiv b ≤ 9223372036854775807) :
    RunV P ⟨d, .binOp .quo t x y u, ty, ps, af, g⟩ (over A D l).eval w (.int .i64 (a.tdiv b)) := (r_quo hx hy h.1).castI (wrap_i64 h.2.1 h.2.2)
end
end Go.Wk
