/- The run of single operations and the walker's steps. No statement is proved here. -/
import Derived.Test.YtahkddpdhmhfcaaBase
namespace Go.Wk
open Go Go.RowKit

def RunV (P : Program) (o : Oper) (e : Operand → Value) (w : World) (v : Value) : Prop := (execOp e o).run P w = .ok (.value v) w

section
variable {P : Program} {n : Nat} {A : Fr n} {D : List Deferred} {l : List (Nat × Value)} {w : World}
variable {d : Option Tmp} {ty : TypeId} {ps : String} {af : Array Edge} {g : Option (Nat × Bool)}

theorem r_move {x : Operand} {v : Value} (h : ev n l x = some v) : RunV P ⟨d, .move x, ty, ps, af, g⟩ (over A D l).eval w v := by
  simp [RunV, execOp, ev_eval h]
theorem r_assign {x : Operand} {v : Value} (h : ev n l x = some v) : RunV P ⟨d, .assign x, ty, ps, af, g⟩ (over A D l).eval w v := by
  simp [RunV, execOp, ev_eval h]
theorem r_pick_t {c x y : Operand} {b : Bool} {v : Value} (hc : ev n l c = some (.bool b)) (hb : b = true) (h : ev n l x = some v) :
    RunV P ⟨d, .pick c x y, ty, ps, af, g⟩ (over A D l).eval w v := by
  subst hb; simp [RunV, execOp, ev_eval h, ev_eval hc, asBool]
theorem r_pick_f {c x y : Operand} {b : Bool} {v : Value} (hc : ev n l c = some (.bool b)) (hb : b = false) (h : ev n l y = some v) :
    RunV P ⟨d, .pick c x y, ty, ps, af, g⟩ (over A D l).eval w v := by
  subst hb; simp [RunV, execOp, ev_eval h, ev_eval hc, asBool]
theorem r_extract {x : Operand} {i : Nat} {vs : Array Value} {v : Value} (h : ev n l x = some (.tuple vs)) (hv : vs[i]? = some v) :
    RunV P ⟨d, .extract x i, ty, ps, af, g⟩ (over A D l).eval w v := by
  simp [RunV, execOp, ev_eval h, Instr.extract, hv]
theorem r_not {x : Operand} {t : TypeId} {b : Bool} (h : ev n l x = some (.bool b)) :
    RunV P ⟨d, .unOp .not t x, ty, ps, af, g⟩ (over A D l).eval w (.bool !b) := by
  simp [RunV, execOp, ev_eval h, Op.unary]
theorem r_nil {x : Operand} {p : Addr} (h : ev n l x = some (.pointer (some p))) :
    RunV P ⟨d, .nilCheck x, ty, ps, af, g⟩ (over A D l).eval w (.pointer (some p)) := by
  simp [RunV, execOp, ev_eval h]

/-! integers -/
theorem r_int {op : BinOp} {x y : Operand} {t u : TypeId} {k j : IntKind} {a b : Int} {r : Value} (hx : ev n l x = some (.int k a)) (hy : ev n l y = some (.int j b))
    (hr : (binOp op t (.int k a) (.int j b)).run P w = .ok r w) : RunV P ⟨d, .binOp op t x y u, ty, ps, af, g⟩ (over A D l).eval w r := by
  have he : (eqGuard op t x y (.int k a) (.int j b)).run P w = .ok () w := by unfold eqGuard; cases op <;> simp
  simp [RunV, execOp, ev_eval hx, ev_eval hy, he, hr]
theorem r_add {x y : Operand} {t u : TypeId} {k : IntKind} {a b : Int} (hx : ev n l x = some (.int k a)) (hy : ev n l y = some (.int k b)) :
    RunV P ⟨d, .binOp .add t x y u, ty, ps, af, g⟩ (over A D l).eval w (.int k (k.wrap (a + b))) := r_int hx hy (by simp [binOp, Op.intArith])
theorem r_sub {x y : Operand} {t u : TypeId} {k : IntKind} {a b : Int} (hx : ev n l x = some (.int k a)) (hy : ev n l y = some (.int k b)) :
    RunV P ⟨d, .binOp .sub t x y u, ty, ps, af, g⟩ (over A D l).eval w (.int k (k.wrap (a - b))) := r_int hx hy (by simp [binOp, Op.intArith])
theorem r_mul {x y : Operand} {t u : TypeId} {k : IntKind} {a b : Int} (hx : ev n l x = some (.int k a)) (hy : ev n l y = some (.int k b)) :
    RunV P ⟨d, .binOp .mul t x y u, ty, ps, af, g⟩ (over A D l).eval w (.int k (k.wrap (a * b))) := r_int hx hy (by simp [binOp, Op.intArith])
theorem r_quo {x y : Operand} {t u : TypeId} {k : IntKind} {a b : Int} (hx : ev n l x = some (.int k a)) (hy : ev n l y = some (.int k b)) (h0 : b ≠ 0) :
    RunV P ⟨d, .binOp .quo t x y u, ty, ps, af, g⟩ (over A D l).eval w (.int k (k.wrap (a.tdiv b))) := r_int hx hy (by simp [binOp, Op.intDiv, h0])
theorem r_rem {x y : Operand} {t u : TypeId} {k : IntKind} {a b : Int} (hx : ev n l x = some (.int k a)) (hy : ev n l y = some (.int k b)) (h0 : b ≠ 0) :
    RunV P ⟨d, .binOp .rem t x y u, ty, ps, af, g⟩ (over A D l).eval w (.int k (a.tmod b)) := r_int hx hy (by simp [binOp, Op.intDiv, h0])
theorem r_and {x y : Operand} {t u : TypeId} {k : IntKind} {a b : Int} (hx : ev n l x = some (.int k a)) (hy : ev n l y = some (.int k b)) :
    RunV P ⟨d, .binOp .and t x y u, ty, ps, af, g⟩ (over A D l).eval w (.int k (bits .and k a b)) := r_int hx hy (by simp [binOp]; rfl)
theorem r_or {x y : Operand} {t u : TypeId} {k : IntKind} {a b : Int} (hx : ev n l x = some (.int k a)) (hy : ev n l y = some (.int k b)) :
    RunV P ⟨d, .binOp .or t x y u, ty, ps, af, g⟩ (over A D l).eval w (.int k (bits .or k a b)) := r_int hx hy (by simp [binOp]; rfl)
theorem r_xor {x y : Operand} {t u : TypeId} {k : IntKind} {a b : Int} (hx : ev n l x = some (.int k a)) (hy : ev n l y = some (.int k b)) :
    RunV P ⟨d, .binOp .xor t x y u, ty, ps, af, g⟩ (over A D l).eval w (.int k (bits .xor k a b)) := r_int hx hy (by simp [binOp]; rfl)
theorem r_andNot {x y : Operand} {t u : TypeId} {k : IntKind} {a b : Int} (hx : ev n l x = some (.int k a)) (hy : ev n l y = some (.int k b)) :
    RunV P ⟨d, .binOp .andNot t x y u, ty, ps, af, g⟩ (over A D l).eval w (.int k (bits .andNot k a b)) := r_int hx hy (by simp [binOp]; rfl)
def shlv (k : IntKind) (a b : Int) : Int := k.wrap (a * 2 ^ min b.toNat k.bits)
def shrv (k : IntKind) (a b : Int) : Int := a / 2 ^ min b.toNat k.bits
theorem r_shl {x y : Operand} {t u : TypeId} {k j : IntKind} {a b : Int} (hx : ev n l x = some (.int k a)) (hy : ev n l y = some (.int j b)) (h0 : 0 ≤ b) :
    RunV P ⟨d, .binOp .shl t x y u, ty, ps, af, g⟩ (over A D l).eval w (.int k (shlv k a b)) := r_int hx hy (by simp only [binOp]; rw [shift_shl_any k j a b h0]; rfl)
theorem r_shr {x y : Operand} {t u : TypeId} {k j : IntKind} {a b : Int} (hx : ev n l x = some (.int k a)) (hy : ev n l y = some (.int j b)) (h0 : 0 ≤ b) :
    RunV P ⟨d, .binOp .shr t x y u, ty, ps, af, g⟩ (over A D l).eval w (.int k (shrv k a b)) := r_int hx hy (by simp only [binOp]; rw [shift_shr_any k j a b h0]; rfl)
theorem r_eq {x y : Operand} {t u : TypeId} {k : IntKind} {a b : Int} (hx : ev n l x = some (.int k a)) (hy : ev n l y = some (.int k b)) :
    RunV P ⟨d, .binOp .eql t x y u, ty, ps, af, g⟩ (over A D l).eval w (.bool (decide (a = b))) := r_int hx hy (by simp [binOp, Op.intCmp]; rw [Bool.eq_iff_iff]; simp)
theorem r_ne {x y : Operand} {t u : TypeId} {k : IntKind} {a b : Int} (hx : ev n l x = some (.int k a)) (hy : ev n l y = some (.int k b)) :
    RunV P ⟨d, .binOp .neq t x y u, ty, ps, af, g⟩ (over A D l).eval w (.bool (decide (a ≠ b))) := r_int hx hy (by simp [binOp, Op.intCmp]; rw [Bool.eq_iff_iff]; simp)
theorem r_lt {x y : Operand} {t u : TypeId} {k : IntKind} {a b : Int} (hx : ev n l x = some (.int k a)) (hy : ev n l y = some (.int k b)) :
    RunV P ⟨d, .binOp .lss t x y u, ty, ps, af, g⟩ (over A D l).eval w (.bool (decide (a < b))) := r_int hx hy (by simp [binOp, Op.intCmp])
theorem r_le {x y : Operand} {t u : TypeId} {k : IntKind} {a b : Int} (hx : ev n l x = some (.int k a)) (hy : ev n l y = some (.int k b)) :
    RunV P ⟨d, .binOp .leq t x y u, ty, ps, af, g⟩ (over A D l).eval w (.bool (decide (a ≤ b))) := r_int hx hy (by simp [binOp, Op.intCmp])
theorem r_gt {x y : Operand} {t u : TypeId} {k : IntKind} {a b : Int} (hx : ev n l x = some (.int k a)) (hy : ev n l y = some (.int k b)) :
    RunV P ⟨d, .binOp .gtr t x y u, ty, ps, af, g⟩ (over A D l).eval w (.bool (decide (b < a))) := r_int hx hy (by simp [binOp, Op.intCmp])
theorem r_ge {x y : Operand} {t u : TypeId} {k : IntKind} {a b : Int} (hx : ev n l x = some (.int k a)) (hy : ev n l y = some (.int k b)) :
    RunV P ⟨d, .binOp .geq t x y u, ty, ps, af, g⟩ (over A D l).eval w (.bool (decide (b ≤ a))) := r_int hx hy (by simp [binOp, Op.intCmp])

theorem wrap_i64 {x : Int} (h0 : -9223372036854775808 ≤ x) (h1 : x ≤ 9223372036854775807) : IntKind.i64.wrap x = x := by
  simp [IntKind.wrap, IntKind.bits, IntKind.signed]; omega
theorem wrap_u64 {x : Int} (h0 : 0 ≤ x) (h1 : x < 18446744073709551616) : IntKind.u64.wrap x = x := by
  simp [IntKind.wrap, IntKind.bits, IntKind.signed]; omega
theorem wrap_u32 {x : Int} (h0 : 0 ≤ x) (h1 : x < 4294967296) : IntKind.u32.wrap x = x := by
  simp [IntKind.wrap, IntKind.bits, IntKind.signed]; omega
theorem wrap_u8 {x : Int} (h0 : 0 ≤ x) (h1 : x < 256) : IntKind.u8.wrap x = x := by
  simp [IntKind.wrap, IntKind.bits, IntKind.signed]; omega
theorem wrap_u64_mod (x : Int) : IntKind.u64.wrap x = x % 18446744073709551616 := by simp [IntKind.wrap, IntKind.bits, IntKind.signed]
theorem wrap_u32_mod (x : Int) : IntKind.u32.wrap x = x % 4294967296 := by simp [IntKind.wrap, IntKind.bits, IntKind.signed]
theorem wrap_u8_mod (x : Int) : IntKind.u8.wrap x = x % 256 := by simp [IntKind.wrap, IntKind.bits, IntKind.signed]

/-- int's sum, in range. -/
theorem r_addI {x y : Operand} {t u : TypeId} {a b : Int} (hx : ev n l x = some (.int .i64 a)) (hy : ev n l y = some (.int .i64 b)) (h : -9223372036854775808 ≤ a + b ∧ a + b ≤ 9223372036854775807) :
    RunV P ⟨d, .binOp .add t x y u, ty, ps, af, g⟩ (over A D l).eval w (.int .i64 (a + b)) := by have := r_add (P := P) (A := A) (D := D) (w := w) (d := d) (t := t) (u := u) (ty := ty) (ps := ps) (af := af) (g := g) hx hy; rwa [wrap_i64 h.1 h.2] at this
theorem r_subI {x y : Operand} {t u : TypeId} {a b : Int} (hx : ev n l x = some (.int .i64 a)) (hy : ev n l y = some (.int .i64 b)) (h : -9223372036854775808 ≤ a - b ∧ a - b ≤ 9223372036854775807) :
    RunV P ⟨d, .binOp .sub t x y u, ty, ps, af, g⟩ (over A D l).eval w (.int .i64 (a - b)) := by have := r_sub (P := P) (A := A) (D := D) (w := w) (d := d) (t := t) (u := u) (ty := ty) (ps := ps) (af := af) (g := g) hx hy; rwa [wrap_i64 h.1 h.2] at this
theorem r_mulI {x y : Operand} {t u : TypeId} {a b : Int} (hx : ev n l x = some (.int .i64 a)) (hy : ev n l y = some (.int .i64 b)) (h : -9223372036854775808 ≤ a * b ∧ a * b ≤ 9223372036854775807) :
    RunV P ⟨d, .binOp .mul t x y u, ty, ps, af, g⟩ (over A D l).eval w (.int .i64 (a * b)) := by have := r_mul (P := P) (A := A) (D := D) (w := w) (d := d) (t := t) (u := u) (ty := ty) (ps := ps) (af := af) (g := g) hx hy; rwa [wrap_i64 h.1 h.2] at this
theorem r_conv {x : Operand} {s t : TypeId} {k j : IntKind} {a : Int} (hs : (P.underlying s).isSome = true) (ht : P.underlying t = some (.int k)) (hx : ev n l x = some (.int j a)) :
    RunV P ⟨d, .convert s t x, ty, ps, af, g⟩ (over A D l).eval w (.int k (k.wrap a)) := by
  obtain ⟨ds, hds⟩ := Option.isSome_iff_exists.1 hs
  simp [RunV, execOp, ev_eval hx, convert, run_underlying hds, run_underlying ht, Conv.intToInt]
theorem r_min {x y : Operand} {ts : Array TypeId} {k j : IntKind} {a b : Int} (hx : ev n l x = some (.int k a)) (hy : ev n l y = some (.int j b)) :
    RunV P ⟨d, .call { callee := .builtin .min, args := #[x, y], argTypes := ts }, ty, ps, af, g⟩ (over A D l).eval w (.int k (if b < a then b else a)) := by
  simp [RunV, execOp, ev_eval hx, ev_eval hy, resolve, invoke, builtin, Builtin.min_, Builtin.min2]

/-! slices -/
theorem r_len {x : Operand} {v : Value} {m : Nat} {t e : TypeId} (hx : ev n l x = some v) (hT : P.underlying t = some (.slice e)) (hS : Shp v m) :
    RunV P ⟨d, .call { callee := .builtin .len, args := #[x], argTypes := #[t] }, ty, ps, af, g⟩ (over A D l).eval w (.int .i64 m) := by
  obtain ⟨a, cap, rfl, _⟩ := hS
  simp [RunV, execOp, ev_eval hx, resolve, invoke, builtin, Builtin.len_, run_underlying hT, goInt]
theorem r_indexZ {x y : Operand} {v : Value} {m : Nat} {t e : TypeId} {k : IntKind} {i : Int} (sz : Nat) (hx : ev n l x = some v) (hy : ev n l y = some (.int k i)) (hT : P.underlying t = some (.slice e)) (hE : elemIs P e sz = true)
    (hS : Shp v m) (hi : 0 ≤ i ∧ i < m) : RunV P ⟨d, .indexAddr t x y, ty, ps, af, g⟩ (over A D l).eval w (elemp v (i.toNat * sz)) := by
  obtain ⟨a, cap, rfl, h1, h2, h3⟩ := hS
  unfold elemIs at hE
  split at hE
  · rename_i inf hinf
    have hsz : inf.size = sz := by simpa using hE
    cases a with
    | none => have := h3 rfl; omega
    | some p => simp [RunV, execOp, ev_eval hx, ev_eval hy, Instr.indexAt, asIntOf, run_underlying hT, run_sizeOf hinf, hi.1, hi.2, hsz, elemp]
  · cases hE
theorem r_index {x y : Operand} {v : Value} {m : Nat} {t e : TypeId} {k : IntKind} {i : Int} (hx : ev n l x = some v) (hy : ev n l y = some (.int k i)) (hT : P.underlying t = some (.slice e)) (hE : elemIs P e 1 = true)
    (hS : Shp v m) (hi : 0 ≤ i ∧ i < m) : RunV P ⟨d, .indexAddr t x y, ty, ps, af, g⟩ (over A D l).eval w (elemp v i.toNat) := by
  have := r_indexZ (P := P) (A := A) (D := D) (w := w) (d := d) (ty := ty) (ps := ps) (af := af) (g := g) 1 hx hy hT hE hS hi
  simpa using this
theorem r_slice {x : Operand} {lo hi : Option Operand} {v : Value} {m : Nat} {t e : TypeId} (L H : Nat) (hT : P.underlying t = some (.slice e)) (hE : elemIs P e 1 = true) (hx : ev n l x = some v)
    (hS : Shp v m) (h1 : L ≤ H) (h2 : H ≤ m)
    (hlo : match lo with | none => L = 0 | some y => ∃ k, ev n l y = some (.int k L)) (hhi : match hi with | none => H = m | some y => ∃ k, ev n l y = some (.int k H)) :
    RunV P ⟨d, .slice t x lo hi none, ty, ps, af, g⟩ (over A D l).eval w (subv v L H) := by
  obtain ⟨a, cap, rfl, h3, h4, h5⟩ := hS
  unfold elemIs at hE
  split at hE
  · rename_i inf hinf
    have hsz : inf.size = 1 := by simpa using hE
    have hc : H ≤ cap := by omega
    cases lo with
    | none =>
      simp only at hlo; subst hlo
      cases hi with
      | none =>
        simp only at hhi; subst hhi
        simp [RunV, execOp, ev_eval hx, Instr.sliceAt, Instr.slice, Instr.sliceBounds, run_underlying hT, run_sizeOf hinf, subv, hsz]
      | some y =>
        simp only at hhi; obtain ⟨k, hk⟩ := hhi
        simp [RunV, execOp, ev_eval hx, ev_eval hk, Instr.sliceAt, Instr.slice, Instr.sliceBounds, Instr.sliceBound, asIntOf, run_underlying hT, run_sizeOf hinf, subv, hsz, hc]
    | some z =>
      simp only at hlo; obtain ⟨j, hj⟩ := hlo
      cases hi with
      | none =>
        simp only at hhi; subst hhi
        simp [RunV, execOp, ev_eval hx, ev_eval hj, Instr.sliceAt, Instr.slice, Instr.sliceBounds, Instr.sliceBound, asIntOf, run_underlying hT, run_sizeOf hinf, subv, hsz, h1]
      | some y =>
        simp only at hhi; obtain ⟨k, hk⟩ := hhi
        simp [RunV, execOp, ev_eval hx, ev_eval hj, ev_eval hk, Instr.sliceAt, Instr.slice, Instr.sliceBounds, Instr.sliceBound, asIntOf, run_underlying hT, run_sizeOf hinf, subv, hsz, h1, hc]
  · cases hE
/-- The slice of a whole array. -/
theorem r_sliceArr {x : Operand} {p : Addr} {t e : TypeId} {m : Nat} (hT : P.underlying t = some (.array m e)) (hE : elemIs P e 1 = true) (hx : ev n l x = some (.pointer (some p))) (_hm : m ≠ 0) :
    RunV P ⟨d, .slice t x none none none, ty, ps, af, g⟩ (over A D l).eval w (.slice (some p) m m) := by
  unfold elemIs at hE
  split at hE
  · rename_i inf hinf
    simp [RunV, execOp, ev_eval hx, Instr.sliceAt, Instr.sureAddr, Instr.sliceBounds, run_underlying hT, run_sizeOf hinf, Addr.add]
  · cases hE

/-! loads -/
theorem r_load {x : Operand} {t : TypeId} {p : Addr} {u : Value} (hx : ev n l x = some (.pointer (some p))) (hT : isOne P t = true) (hc : w.cell? p = some u) :
    RunV P ⟨d, .load t x, ty, ps, af, g⟩ (over A D l).eval w u := by
  simp [RunV, execOp, ev_eval hx, Instr.loadAt, Instr.sureAddr, loadVar, run_isAgg_one hT, hc]
theorem r_loadBlk {x : Operand} {t ty' : TypeId} {b j : Nat} {cs : List Value} {u : Value} (hx : ev n l x = some (.pointer (some ⟨b, j, none⟩))) (hT : isOne P t = true) (hB : Blk w b cs ty') (hj : cs[j]? = some u) :
    RunV P ⟨d, .load t x, ty, ps, af, g⟩ (over A D l).eval w u := r_load hx hT (by rw [hB.cell]; exact hj)
theorem r_loadEl {x : Operand} {t : TypeId} {i : Nat} {v u : Value} {l' : List Value} (hx : ev n l x = some (elemp v i)) (hT : isOne P t = true) (hS : Sl w v l') (hj : l'[i]? = some u) :
    RunV P ⟨d, .load t x, ty, ps, af, g⟩ (over A D l).eval w u := by
  obtain ⟨a, cap, rfl, h1, h2, h3, h4⟩ := hS
  have hi := (List.getElem?_eq_some_iff.1 hj).1
  cases a with
  | none => have := h3 rfl; omega
  | some p => exact r_load (p := p.add i) hx hT (h4 p rfl i u hj)
theorem r_loadB {x : Operand} {t : TypeId} {i : Nat} {v : Value} {l' : List UInt8} (hx : ev n l x = some (elemp v i)) (hT : isOne P t = true) (hS : By w v l') (hj : i < l'.length) :
    RunV P ⟨d, .load t x, ty, ps, af, g⟩ (over A D l).eval w (b8 (l'.getD i 0)) := r_loadEl hx hT hS (getD_b8 l' i hj)
theorem r_loadAgg {x : Operand} {t : TypeId} {p : Addr} {m : Nat} {cs : List Value} (hx : ev n l x = some (.pointer (some p))) (hT : isAggN P t m = true) (hm : cs.length = m) (hc : ∀ j u, cs[j]? = some u → w.cell? (p.add j) = some u) :
    RunV P ⟨d, .load t x, ty, ps, af, g⟩ (over A D l).eval w (.agg cs.toArray) := by
  obtain ⟨dd, inf, h1, h2, h3, h4⟩ := isAggN_spec hT
  have hl := run_loadCells_list (P := P) (w := w) p cs hc
  simp [RunV, execOp, ev_eval hx, Instr.loadAt, Instr.sureAddr, loadVar, run_isAgg_agg hT, run_sizeOf h2, h3, ← hm, hl]
/-- A whole block, read. -/
theorem r_loadAll {x : Operand} {t ty' : TypeId} {b : Nat} {cs : List Value} (hx : ev n l x = some (.pointer (some ⟨b, 0, none⟩))) (hT : isAggN P t cs.length = true) (hB : Blk w b cs ty') :
    RunV P ⟨d, .load t x, ty, ps, af, g⟩ (over A D l).eval w (.agg cs.toArray) :=
  r_loadAgg hx hT rfl fun j u hj => by rw [Addr.add_mk, Nat.zero_add, hB.cell]; exact hj
theorem r_field {x : Operand} {s : TypeId} {f b o off : Nat} (hx : ev n l x = some (.pointer (some ⟨b, o, none⟩))) (hf : fieldOff P s f = some off) :
    RunV P ⟨d, .fieldAddr s x f, ty, ps, af, g⟩ (over A D l).eval w (.pointer (some ⟨b, o + off, none⟩)) := by
  unfold fieldOff at hf
  split at hf
  · rename_i fs hfs
    split at hf
    · rename_i fd hfd
      split at hf
      · rename_i inf hinf
        split at hf
        · cases hf
        · rename_i hz
          simp only [Option.some.injEq] at hf
          subst hf
          simp [RunV, execOp, ev_eval hx, Instr.fieldAt, Instr.sureAddr, run_underlying hfs, hfd, fieldPlace, run_sizeOf hinf, hz, Addr.add_mk]
      · cases hf
    · cases hf
  · cases hf
theorem By.of_own {e : TypeId} {v : Value} {l' : List UInt8} (h : w.ownsRow 0 e 1 v l'.length (l'.map b8)) : By w v l' := Sl.of_own (e := e) (base := 0) (by simpa using h)
theorem r_indexArr {x y : Operand} {t e : TypeId} {m b o : Nat} {k : IntKind} {i : Int} (hx : ev n l x = some (.pointer (some ⟨b, o, none⟩))) (hy : ev n l y = some (.int k i)) (hT : P.underlying t = some (.array m e)) (hE : elemIs P e 1 = true)
    (hi : 0 ≤ i ∧ i < m) : RunV P ⟨d, .indexAddr t x y, ty, ps, af, g⟩ (over A D l).eval w (.pointer (some ⟨b, o + i.toNat, none⟩)) := by
  unfold elemIs at hE
  split at hE
  · rename_i inf hinf
    have hsz : inf.size = 1 := by simpa using hE
    simp [RunV, execOp, ev_eval hx, ev_eval hy, Instr.indexAt, Instr.sureAddr, asIntOf, run_underlying hT, run_sizeOf hinf, hi.1, hi.2, hsz, Addr.add_mk]
  · cases hE
theorem RunV.castI {o : Oper} {e : Operand → Value} {k : IntKind} {a b : Int} (h : RunV P o e w (.int k a)) (he : a = b) : RunV P o e w (.int k b) := he ▸ h
theorem RunV.castB {o : Oper} {e : Operand → Value} {a b : Bool} (h : RunV P o e w (.bool a)) (he : a = b) : RunV P o e w (.bool b) := he ▸ h
theorem RunV.cast {o : Oper} {e : Operand → Value} {a b : Value} (h : RunV P o e w a) (he : a = b) : RunV P o e w b := he ▸ h
end
end Go.Wk
