/- Numbers that are not below 0, as natural numbers: the run of operations on them; loads, slices and fields of data; appends. No statement is proved here. -/
import Derived.Test.YtahkddpdhmhfcaaRep
namespace Go.Wk
open Go Go.RowKit

def lim : IntKind → Nat
  | .u8 => 256 | .u16 => 65536 | .u32 => 4294967296 | .u64 => 18446744073709551616
  | .i8 => 128 | .i16 => 32768 | .i32 => 2147483648 | .i64 => 9223372036854775808
theorem wrapN (k : IntKind) (x : Nat) (h : x < lim k) : k.wrap (x : Int) = x := by
  cases k <;> simp [IntKind.wrap, IntKind.bits, IntKind.signed, lim] at * <;> omega
theorem wrapW (k : IntKind) (x : Int) (h : k.signed = false) : k.wrap x = ((x % (lim k : Int)).toNat : Nat) := by
  cases k <;> simp [IntKind.wrap, IntKind.bits, IntKind.signed, lim] at * <;> omega
theorem RunV.to {P : Program} {w : World} {o : Oper} {e : Operand → Value} {a b : Value} (h : RunV P o e w a) (he : a = b) : RunV P o e w b := he ▸ h

section
variable {P : Program} {n : Nat} {A : Fr n} {D : List Deferred} {l : List (Nat × Value)} {w : World}
variable {d : Option Tmp} {ty : TypeId} {ps : String} {af : Array Edge} {g : Option (Nat × Bool)}
variable {x y : Operand} {t u : TypeId} {k j : IntKind} {a b : Nat}

theorem r_addN (L : Nat) (hL : lim k = L) (hx : ev n l x = some (.int k (a : Int))) (hy : ev n l y = some (.int k (b : Int))) (h : a + b < L) :
    RunV P ⟨d, .binOp .add t x y u, ty, ps, af, g⟩ (over A D l).eval w (.int k ((a + b : Nat) : Int)) :=
  (r_add hx hy).castI (by rw [← wrapN k (a + b) (hL ▸ h)]; rfl)
theorem r_subN (L : Nat) (hL : lim k = L) (hx : ev n l x = some (.int k (a : Int))) (hy : ev n l y = some (.int k (b : Int))) (h : b ≤ a ∧ a < L) :
    RunV P ⟨d, .binOp .sub t x y u, ty, ps, af, g⟩ (over A D l).eval w (.int k ((a - b : Nat) : Int)) :=
  (r_sub hx hy).castI (by rw [← wrapN k (a - b) (by omega)]; congr 1; omega)
theorem r_mulN (L : Nat) (hL : lim k = L) (hx : ev n l x = some (.int k (a : Int))) (hy : ev n l y = some (.int k (b : Int))) (h : a * b < L) :
    RunV P ⟨d, .binOp .mul t x y u, ty, ps, af, g⟩ (over A D l).eval w (.int k ((a * b : Nat) : Int)) :=
  (r_mul hx hy).castI (by rw [← wrapN k (a * b) (hL ▸ h), Int.natCast_mul])
theorem r_addW (L : Nat) (hL : lim k = L) (hs : k.signed = false) (hx : ev n l x = some (.int k (a : Int))) (hy : ev n l y = some (.int k (b : Int))) :
    RunV P ⟨d, .binOp .add t x y u, ty, ps, af, g⟩ (over A D l).eval w (.int k (((a + b) % L : Nat) : Int)) :=
  (r_add hx hy).castI (by rw [wrapW k _ hs, hL, show (a : Int) + b = ((a + b : Nat) : Int) from rfl, ← Int.natCast_emod, Int.toNat_natCast])
theorem r_subW (L : Nat) (hL : lim k = L) (hs : k.signed = false) (hx : ev n l x = some (.int k (a : Int))) (hy : ev n l y = some (.int k (b : Int))) (h : b ≤ L) :
    RunV P ⟨d, .binOp .sub t x y u, ty, ps, af, g⟩ (over A D l).eval w (.int k (((a + (L - b)) % L : Nat) : Int)) :=
  (r_sub hx hy).castI (by
    rw [wrapW k _ hs, hL]
    have : ((a : Int) - b) % (L : Int) = ((a + (L - b) : Nat) : Int) % (L : Int) := by
      rw [show ((a + (L - b) : Nat) : Int) = (a : Int) - b + L by omega]; simp
    rw [this, ← Int.natCast_emod, Int.toNat_natCast])
theorem r_mulW (L : Nat) (hL : lim k = L) (hs : k.signed = false) (hx : ev n l x = some (.int k (a : Int))) (hy : ev n l y = some (.int k (b : Int))) :
    RunV P ⟨d, .binOp .mul t x y u, ty, ps, af, g⟩ (over A D l).eval w (.int k ((a * b % L : Nat) : Int)) :=
  (r_mul hx hy).castI (by rw [wrapW k _ hs, hL, ← Int.natCast_mul, ← Int.natCast_emod, Int.toNat_natCast])
theorem r_quoN (L : Nat) (hL : lim k = L) (hx : ev n l x = some (.int k (a : Int))) (hy : ev n l y = some (.int k (b : Int))) (h : b ≠ 0 ∧ a < L) :
    RunV P ⟨d, .binOp .quo t x y u, ty, ps, af, g⟩ (over A D l).eval w (.int k ((a / b : Nat) : Int)) :=
  (r_quo hx hy (by omega)).castI (by
    rw [show Int.tdiv (a : Int) b = ((a / b : Nat) : Int) from rfl]
    exact wrapN k _ (hL ▸ Nat.lt_of_le_of_lt (Nat.div_le_self _ _) h.2))
theorem r_remN (hx : ev n l x = some (.int k (a : Int))) (hy : ev n l y = some (.int k (b : Int))) (h : b ≠ 0) :
    RunV P ⟨d, .binOp .rem t x y u, ty, ps, af, g⟩ (over A D l).eval w (.int k ((a % b : Nat) : Int)) :=
  (r_rem hx hy (by omega)).castI rfl
theorem r_eqN (hx : ev n l x = some (.int k (a : Int))) (hy : ev n l y = some (.int k (b : Int))) : RunV P ⟨d, .binOp .eql t x y u, ty, ps, af, g⟩ (over A D l).eval w (.bool (decide (a = b))) :=
  (r_eq hx hy).castB (decide_eq_decide.2 (by omega))
theorem r_neN (hx : ev n l x = some (.int k (a : Int))) (hy : ev n l y = some (.int k (b : Int))) : RunV P ⟨d, .binOp .neq t x y u, ty, ps, af, g⟩ (over A D l).eval w (.bool (decide (a ≠ b))) :=
  (r_ne hx hy).castB (decide_eq_decide.2 (by omega))
theorem r_ltN (hx : ev n l x = some (.int k (a : Int))) (hy : ev n l y = some (.int k (b : Int))) : RunV P ⟨d, .binOp .lss t x y u, ty, ps, af, g⟩ (over A D l).eval w (.bool (decide (a < b))) :=
  (r_lt hx hy).castB (decide_eq_decide.2 (by omega))
theorem r_leN (hx : ev n l x = some (.int k (a : Int))) (hy : ev n l y = some (.int k (b : Int))) : RunV P ⟨d, .binOp .leq t x y u, ty, ps, af, g⟩ (over A D l).eval w (.bool (decide (a ≤ b))) :=
  (r_le hx hy).castB (decide_eq_decide.2 (by omega))
theorem r_gtN (hx : ev n l x = some (.int k (a : Int))) (hy : ev n l y = some (.int k (b : Int))) : RunV P ⟨d, .binOp .gtr t x y u, ty, ps, af, g⟩ (over A D l).eval w (.bool (decide (b < a))) :=
  (r_gt hx hy).castB (decide_eq_decide.2 (by omega))
theorem r_geN (hx : ev n l x = some (.int k (a : Int))) (hy : ev n l y = some (.int k (b : Int))) : RunV P ⟨d, .binOp .geq t x y u, ty, ps, af, g⟩ (over A D l).eval w (.bool (decide (b ≤ a))) :=
  (r_ge hx hy).castB (decide_eq_decide.2 (by omega))
theorem r_convN {s : TypeId} (L : Nat) (hL : lim k = L) (hs : (P.underlying s).isSome = true) (ht : P.underlying t = some (.int k)) (hx : ev n l x = some (.int j (a : Int))) (h : a < L) :
    RunV P ⟨d, .convert s t x, ty, ps, af, g⟩ (over A D l).eval w (.int k (a : Int)) := (r_conv hs ht hx).castI (wrapN k a (hL ▸ h))
theorem r_convW {s : TypeId} (L : Nat) (hL : lim k = L) (hk : k.signed = false) (hs : (P.underlying s).isSome = true) (ht : P.underlying t = some (.int k)) (hx : ev n l x = some (.int j (a : Int))) :
    RunV P ⟨d, .convert s t x, ty, ps, af, g⟩ (over A D l).eval w (.int k ((a % L : Nat) : Int)) := (r_conv hs ht hx).castI (by rw [wrapW k _ hk, hL, ← Int.natCast_emod, Int.toNat_natCast])
theorem r_minN (hx : ev n l x = some (.int k (a : Int))) (hy : ev n l y = some (.int j (b : Int))) {ts : Array TypeId} :
    RunV P ⟨d, .call { callee := .builtin .min, args := #[x, y], argTypes := ts }, ty, ps, af, g⟩ (over A D l).eval w (.int k ((min a b : Nat) : Int)) :=
  (r_min hx hy).castI (by split <;> omega)
theorem r_maxZ {a b : Int} (hx : ev n l x = some (.int k a)) (hy : ev n l y = some (.int j b)) {ts : Array TypeId} :
    RunV P ⟨d, .call { callee := .builtin .max, args := #[x, y], argTypes := ts }, ty, ps, af, g⟩ (over A D l).eval w (.int k (if a < b then b else a)) := by
  simp [RunV, execOp, ev_eval hx, ev_eval hy, resolve, invoke, builtin, Builtin.max_, Builtin.max2]
theorem r_maxN (hx : ev n l x = some (.int k (a : Int))) (hy : ev n l y = some (.int j (b : Int))) {ts : Array TypeId} :
    RunV P ⟨d, .call { callee := .builtin .max, args := #[x, y], argTypes := ts }, ty, ps, af, g⟩ (over A D l).eval w (.int k ((max a b : Nat) : Int)) :=
  (r_maxZ hx hy).castI (by split <;> omega)
theorem r_shlW (L : Nat) (hL : lim k = L) (hs : k.signed = false) (s : Nat) (hS : k.bits = s) (hx : ev n l x = some (.int k (a : Int))) (hy : ev n l y = some (.int j (b : Int))) (h : b ≤ s) :
    RunV P ⟨d, .binOp .shl t x y u, ty, ps, af, g⟩ (over A D l).eval w (.int k ((a * 2 ^ b % L : Nat) : Int)) :=
  (r_shl hx hy (by omega)).castI (by
    unfold shlv
    rw [wrapW k _ hs, hL, hS, Int.toNat_natCast, Nat.min_eq_left h]
    rw [show (a : Int) * 2 ^ b = ((a * 2 ^ b : Nat) : Int) by simp, ← Int.natCast_emod, Int.toNat_natCast])
theorem r_shrN (s : Nat) (hS : k.bits = s) (hx : ev n l x = some (.int k (a : Int))) (hy : ev n l y = some (.int j (b : Int))) (h : b ≤ s) :
    RunV P ⟨d, .binOp .shr t x y u, ty, ps, af, g⟩ (over A D l).eval w (.int k ((a / 2 ^ b : Nat) : Int)) :=
  (r_shr hx hy (by omega)).castI (by
    unfold shrv
    rw [hS, Int.toNat_natCast, Nat.min_eq_left h]
    simp)

theorem bitsN (op : BinOp) (f : Nat → Nat → Nat) (hk : k.signed = false) (hf : bits op k (a : Int) (b : Int) = k.wrap ((f a b : Nat) : Int)) (L : Nat) (hL : lim k = L) (h : f a b < L) : bits op k (a : Int) (b : Int) = ((f a b : Nat) : Int) := by rw [hf]; exact wrapN k _ (hL ▸ h)
theorem lim_bits (hk : k.signed = false) : lim k = 2 ^ k.bits := by cases k <;> simp [IntKind.signed] at hk <;> rfl
theorem bits_xor (hk : k.signed = false) (ha : a < lim k) (hb : b < lim k) : bits .xor k (a : Int) (b : Int) = ((a ^^^ b : Nat) : Int) := by
  have hl := lim_bits hk
  have h1 : a ^^^ b < lim k := by rw [hl]; exact Nat.xor_lt_two_pow (hl ▸ ha) (hl ▸ hb)
  unfold bits
  simp only [BitVec.ofInt_natCast, BitVec.toNat_xor, BitVec.toNat_ofNat, ← hl, Nat.mod_eq_of_lt ha, Nat.mod_eq_of_lt hb]
  exact wrapN k _ h1
theorem bits_or (hk : k.signed = false) (ha : a < lim k) (hb : b < lim k) : bits .or k (a : Int) (b : Int) = ((a ||| b : Nat) : Int) := by
  have hl := lim_bits hk
  have h1 : a ||| b < lim k := by rw [hl]; exact Nat.or_lt_two_pow (hl ▸ ha) (hl ▸ hb)
  unfold bits
  simp only [BitVec.ofInt_natCast, BitVec.toNat_or, BitVec.toNat_ofNat, ← hl, Nat.mod_eq_of_lt ha, Nat.mod_eq_of_lt hb]
  exact wrapN k _ h1
theorem bits_and (hk : k.signed = false) (ha : a < lim k) (hb : b < lim k) : bits .and k (a : Int) (b : Int) = ((a &&& b : Nat) : Int) := by
  have hl := lim_bits hk
  have h1 : a &&& b < lim k := Nat.lt_of_le_of_lt Nat.and_le_left ha
  unfold bits
  simp only [BitVec.ofInt_natCast, BitVec.toNat_and, BitVec.toNat_ofNat, ← hl, Nat.mod_eq_of_lt ha, Nat.mod_eq_of_lt hb]
  exact wrapN k _ h1
theorem r_xorN (L : Nat) (hL : lim k = L) (hk : k.signed = false) (hx : ev n l x = some (.int k (a : Int))) (hy : ev n l y = some (.int k (b : Int))) (h : a < L ∧ b < L) :
    RunV P ⟨d, .binOp .xor t x y u, ty, ps, af, g⟩ (over A D l).eval w (.int k ((a ^^^ b : Nat) : Int)) := (r_xor hx hy).castI (bits_xor hk (hL ▸ h.1) (hL ▸ h.2))
theorem r_orN (L : Nat) (hL : lim k = L) (hk : k.signed = false) (hx : ev n l x = some (.int k (a : Int))) (hy : ev n l y = some (.int k (b : Int))) (h : a < L ∧ b < L) :
    RunV P ⟨d, .binOp .or t x y u, ty, ps, af, g⟩ (over A D l).eval w (.int k ((a ||| b : Nat) : Int)) := (r_or hx hy).castI (bits_or hk (hL ▸ h.1) (hL ▸ h.2))
theorem r_andN (L : Nat) (hL : lim k = L) (hk : k.signed = false) (hx : ev n l x = some (.int k (a : Int))) (hy : ev n l y = some (.int k (b : Int))) (h : a < L ∧ b < L) :
    RunV P ⟨d, .binOp .and t x y u, ty, ps, af, g⟩ (over A D l).eval w (.int k ((a &&& b : Nat) : Int)) := (r_and hx hy).castI (bits_and hk (hL ▸ h.1) (hL ▸ h.2))

theorem r_shlN (L : Nat) (hL : lim k = L) (s : Nat) (hS : k.bits = s) (hx : ev n l x = some (.int k (a : Int))) (hy : ev n l y = some (.int j (b : Int))) (h : b ≤ s ∧ a * 2 ^ b < L) :
    RunV P ⟨d, .binOp .shl t x y u, ty, ps, af, g⟩ (over A D l).eval w (.int k ((a * 2 ^ b : Nat) : Int)) :=
  (r_shl hx hy (by omega)).castI (by
    unfold shlv
    rw [hS, Int.toNat_natCast, Nat.min_eq_left h.1, show (a : Int) * 2 ^ b = ((a * 2 ^ b : Nat) : Int) by simp]
    exact wrapN k _ (hL ▸ h.2))
theorem r_convZN {s : TypeId} {z : Int} (L : Nat) (hL : lim k = L) (hs : (P.underlying s).isSome = true) (ht : P.underlying t = some (.int k)) (hx : ev n l x = some (.int j z)) (h : 0 ≤ z ∧ z < L) :
    RunV P ⟨d, .convert s t x, ty, ps, af, g⟩ (over A D l).eval w (.int k ((z.toNat : Nat) : Int)) :=
  (r_conv hs ht hx).castI (by rw [show z = ((z.toNat : Nat) : Int) by omega]; exact wrapN k _ (by omega))
theorem r_convI {s : TypeId} {z : Int} (hs : (P.underlying s).isSome = true) (ht : P.underlying t = some (.int .i64)) (hx : ev n l x = some (.int j z)) (h : -9223372036854775808 ≤ z ∧ z ≤ 9223372036854775807) :
    RunV P ⟨d, .convert s t x, ty, ps, af, g⟩ (over A D l).eval w (.int .i64 z) := (r_conv hs ht hx).castI (wrap_i64 h.1 h.2)
theorem r_convZ {s : TypeId} {z : Int} (L : Nat) (hL : lim k = L) (hk : k.signed = false) (hs : (P.underlying s).isSome = true) (ht : P.underlying t = some (.int k)) (hx : ev n l x = some (.int j z)) :
    RunV P ⟨d, .convert s t x, ty, ps, af, g⟩ (over A D l).eval w (.int k (((z % (L : Int)).toNat : Nat) : Int)) := (r_conv hs ht hx).castI (by rw [wrapW k _ hk, hL])

/-! data -/
variable {α : Type} {T : Dt α} {Q : Nat → Prop} {v : Value} {xs : List α}
theorem r_indexN {e : TypeId} {m i : Nat} (sz : Nat) (hx : ev n l x = some v) (hy : ev n l y = some (.int k (i : Int))) (hT : P.underlying t = some (.slice e)) (hE : elemIs P e sz = true) (hS : Shp v m) (hi : i < m) :
    RunV P ⟨d, .indexAddr t x y, ty, ps, af, g⟩ (over A D l).eval w (elemp v (i * sz)) := by
  have := r_indexZ (P := P) (A := A) (D := D) (w := w) (d := d) (ty := ty) (ps := ps) (af := af) (g := g) sz hx hy hT hE hS (by omega)
  simpa using this
theorem r_indexArrN {e : TypeId} {m b' o i : Nat} (sz : Nat) (hx : ev n l x = some (.pointer (some ⟨b', o, none⟩))) (hy : ev n l y = some (.int k (i : Int))) (hT : P.underlying t = some (.array m e)) (hE : elemIs P e sz = true) (hi : i < m) :
    RunV P ⟨d, .indexAddr t x y, ty, ps, af, g⟩ (over A D l).eval w (.pointer (some ⟨b', o + i * sz, none⟩)) := by
  unfold elemIs at hE
  split at hE
  · rename_i inf hinf
    have hsz : inf.size = sz := by simpa using hE
    simp [RunV, execOp, ev_eval hx, ev_eval hy, Instr.indexAt, Instr.sureAddr, asIntOf, run_underlying hT, run_sizeOf hinf, hi, hsz, Addr.add_mk]
  · cases hE
theorem elemp_at {kk : Nat} {c : List Value} (h : At w v kk c) : ∃ p : Addr, (∀ m, elemp v m = .pointer (some (p.add m))) ∧ ∀ j u, c[j]? = some u → w.cell? (p.add (kk + j)) = some u := by
  obtain ⟨p, l, cp, rfl, h1⟩ := h
  exact ⟨p, fun _ => rfl, h1⟩
theorem r_fieldE {s : TypeId} {f m off kk : Nat} {c : List Value} (hx : ev n l x = some (elemp v m)) (hA : At w v kk c) (hf : fieldOff P s f = some off) :
    RunV P ⟨d, .fieldAddr s x f, ty, ps, af, g⟩ (over A D l).eval w (elemp v (m + off)) := by
  obtain ⟨p, hp, _⟩ := elemp_at hA
  rw [hp] at hx ⊢
  unfold fieldOff at hf
  split at hf
  · rename_i fs hfs
    split at hf
    · rename_i fd hfd
      split at hf
      · rename_i inf hinf
        split at hf
        · cases hf
        · rename_i hz
          simp only [Option.some.injEq] at hf
          subst hf
          simp [RunV, execOp, ev_eval hx, Instr.fieldAt, Instr.sureAddr, run_underlying hfs, hfd, fieldPlace, run_sizeOf hinf, hz, Addr.add_add]
      · cases hf
    · cases hf
  · cases hf
theorem r_loadE {m kk : Nat} {c : List Value} {r : Value} (j : Nat) (hx : ev n l x = some (elemp v m)) (hm : m = kk + j) (hT : isOne P t = true) (hA : At w v kk c) (hj : c[j]? = some r) :
    RunV P ⟨d, .load t x, ty, ps, af, g⟩ (over A D l).eval w r := by
  obtain ⟨p, hp, h1⟩ := elemp_at hA
  rw [hp] at hx
  exact r_load hx hT (by rw [hm]; exact h1 j r hj)
theorem r_loadEA {m kk : Nat} {c : List Value} (cs : List Value) (o : Nat) (hx : ev n l x = some (elemp v m)) (hm : m = kk + o) (hT : isAggN P t cs.length = true) (hA : At w v kk c) (hc : (c.drop o).take cs.length = cs) :
    RunV P ⟨d, .load t x, ty, ps, af, g⟩ (over A D l).eval w (.agg cs.toArray) := by
  obtain ⟨p, hp, h1⟩ := elemp_at hA
  rw [hp] at hx
  refine r_loadAgg hx hT rfl fun j r hj => ?_
  have hl := (List.getElem?_eq_some_iff.1 hj).1
  rw [Addr.add_add, hm, Nat.add_assoc]
  refine h1 _ r ?_
  rw [← hc, List.getElem?_take, if_pos hl, List.getElem?_drop] at hj
  exact hj
/-- A part of a block, read. -/
theorem r_loadPart {ty' : TypeId} {b' o : Nat} {c : List Value} (cs : List Value) (hx : ev n l x = some (.pointer (some ⟨b', o, none⟩))) (hT : isAggN P t cs.length = true) (hB : Blk w b' c ty') (hc : (c.drop o).take cs.length = cs) :
    RunV P ⟨d, .load t x, ty, ps, af, g⟩ (over A D l).eval w (.agg cs.toArray) := by
  refine r_loadAgg hx hT rfl fun j r hj => ?_
  have hl := (List.getElem?_eq_some_iff.1 hj).1
  rw [Addr.add_mk, hB.cell]
  rw [← hc, List.getElem?_take, if_pos hl, List.getElem?_drop] at hj
  exact hj
theorem r_sliceZ {lo hi : Option Operand} {m e : Nat} (sz L H : Nat) (hT : P.underlying t = some (.slice e)) (hE : elemIs P e sz = true) (hx : ev n l x = some v)
    (hS : Shp v m) (h1 : L ≤ H) (h2 : H ≤ m)
    (hlo : match lo with | none => L = 0 | some y => ∃ k, ev n l y = some (.int k (L : Int))) (hhi : match hi with | none => H = m | some y => ∃ k, ev n l y = some (.int k (H : Int))) :
    RunV P ⟨d, .slice t x lo hi none, ty, ps, af, g⟩ (over A D l).eval w (subz sz v L H) := by
  obtain ⟨a, cap, rfl, h3, h4, h5⟩ := hS
  unfold elemIs at hE
  split at hE
  · rename_i inf hinf
    have hsz : inf.size = sz := by simpa using hE
    have hc : H ≤ cap := by omega
    cases lo with
    | none =>
      simp only at hlo; subst hlo
      cases hi with
      | none =>
        simp only at hhi; subst hhi
        simp [RunV, execOp, ev_eval hx, Instr.sliceAt, Instr.slice, Instr.sliceBounds, run_underlying hT, run_sizeOf hinf, subz, hsz]
      | some y =>
        simp only at hhi; obtain ⟨k, hk⟩ := hhi
        simp [RunV, execOp, ev_eval hx, ev_eval hk, Instr.sliceAt, Instr.slice, Instr.sliceBounds, Instr.sliceBound, asIntOf, run_underlying hT, run_sizeOf hinf, subz, hsz, hc]
    | some z =>
      simp only at hlo; obtain ⟨j, hj⟩ := hlo
      cases hi with
      | none =>
        simp only at hhi; subst hhi
        simp [RunV, execOp, ev_eval hx, ev_eval hj, Instr.sliceAt, Instr.slice, Instr.sliceBounds, Instr.sliceBound, asIntOf, run_underlying hT, run_sizeOf hinf, subz, hsz, h1]
      | some y =>
        simp only at hhi; obtain ⟨k, hk⟩ := hhi
        simp [RunV, execOp, ev_eval hx, ev_eval hj, ev_eval hk, Instr.sliceAt, Instr.slice, Instr.sliceBounds, Instr.sliceBound, asIntOf, run_underlying hT, run_sizeOf hinf, subz, hsz, h1, hc]
  · cases hE
end
end Go.Wk
