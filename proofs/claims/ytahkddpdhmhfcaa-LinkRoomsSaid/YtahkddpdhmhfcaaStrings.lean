/- Strings: single operations, conversions, pairs of strings. No statement is proved here. -/
import Derived.Test.YtahkddpdhmhfcaaDraws
import Derived.Laws.IdiomStrings
import Derived.Laws.StructEq
import Derived.Laws.Externs
import Derived.Lib.BytesEntry
namespace Go.Wk
open Go Go.RowKit

/-- A string by its bytes. -/
def str (s : List UInt8) : Value := .string ⟨s.toArray⟩

section
variable {P : Program} {n : Nat} {A : Fr n} {D : List Deferred} {l : List (Nat × Value)} {w : World}
variable {d : Option Tmp} {ty : TypeId} {ps : String} {af : Array Edge} {g : Option (Nat × Bool)}

theorem r_lenS {x : Operand} {s : List UInt8} {t : TypeId} (hx : ev n l x = some (str s)) (hT : P.underlying t = some .string) :
    RunV P ⟨d, .call { callee := .builtin .len, args := #[x], argTypes := #[t] }, ty, ps, af, g⟩ (over A D l).eval w (.int .i64 s.length) := by
  have hs : (⟨s.toArray⟩ : ByteArray).size = s.length := by simp [ByteArray.size]
  simp [RunV, execOp, ev_eval hx, resolve, invoke, builtin, Builtin.len_, run_underlying hT, goInt, str, hs]
theorem r_idxS {x y : Operand} {s : List UInt8} {t : TypeId} {k : IntKind} {i : Int} (hx : ev n l x = some (str s)) (hy : ev n l y = some (.int k i)) (hT : P.underlying t = some .string) (hi : 0 ≤ i ∧ i < s.length) :
    RunV P ⟨d, .index t x y, ty, ps, af, g⟩ (over A D l).eval w (b8 (s.getD i.toNat 0)) := by
  have h := run_index_string (P := P) w t ⟨s.toArray⟩ k i hT
  have hs : (⟨s.toArray⟩ : ByteArray).size = s.length := by simp [ByteArray.size]
  rw [dif_pos (by rw [hs]; exact hi)] at h
  have hv : ((⟨s.toArray⟩ : ByteArray)[i.toNat]'(by rw [hs]; omega)) = s.getD i.toNat 0 := by
    show s.toArray[i.toNat]'_ = _
    have : i.toNat < s.length := by omega
    simp [List.getD, this]
  rw [hv] at h
  simp [RunV, execOp, ev_eval hx, ev_eval hy, str, b8, h]
theorem r_idxSN {x y : Operand} {s : List UInt8} {t : TypeId} {k : IntKind} {i : Nat} (hx : ev n l x = some (str s)) (hy : ev n l y = some (.int k (i : Int))) (hT : P.underlying t = some .string) (hi : i < s.length) :
    RunV P ⟨d, .index t x y, ty, ps, af, g⟩ (over A D l).eval w (b8 (s.getD i 0)) := by
  have := r_idxS (P := P) (A := A) (D := D) (w := w) (d := d) (ty := ty) (ps := ps) (af := af) (g := g) hx hy hT (by omega)
  simpa using this
theorem r_strop {op : BinOp} {x y : Operand} {t u : TypeId} {a b : List UInt8} {r : Value} (hx : ev n l x = some (str a)) (hy : ev n l y = some (str b)) (hop : ∀ v, (eqGuard op t x y (str a) v).run P w = .ok () w)
    (hr : (binOp op t (str a) (str b)).run P w = .ok r w) : RunV P ⟨d, .binOp op t x y u, ty, ps, af, g⟩ (over A D l).eval w r := by
  simp [RunV, execOp, ev_eval hx, ev_eval hy, hop, hr]
theorem str_guard (op : BinOp) (t : TypeId) (x y : Operand) (a : List UInt8) (v : Value) : (eqGuard op t x y (str a) v).run P w = .ok () w := by unfold eqGuard str; cases op <;> simp
theorem str_beq (a b : List UInt8) : ((⟨a.toArray⟩ : ByteArray).toList == (⟨b.toArray⟩ : ByteArray).toList) = decide (a = b) := by
  rw [ByteArray.toList_eq, ByteArray.toList_eq]
  rw [Bool.eq_iff_iff]; simp
theorem r_addS {x y : Operand} {t u : TypeId} {a b : List UInt8} (hx : ev n l x = some (str a)) (hy : ev n l y = some (str b)) (hl : a.length + b.length ≤ 9223372036854775807) :
    RunV P ⟨d, .binOp .add t x y u, ty, ps, af, g⟩ (over A D l).eval w (str (a ++ b)) := by
  refine r_strop hx hy (str_guard _ _ _ _ _) ?_
  have h := run_string_add_sum (P := P) (w := w) ⟨a.toArray⟩ ⟨b.toArray⟩ (by simpa [ByteArray.size] using hl)
  simp only [binOp, str]
  rw [h]
  congr 2
theorem r_eqlS {x y : Operand} {t u : TypeId} {a b : List UInt8} (hx : ev n l x = some (str a)) (hy : ev n l y = some (str b)) :
    RunV P ⟨d, .binOp .eql t x y u, ty, ps, af, g⟩ (over A D l).eval w (.bool (decide (a = b))) :=
  r_strop hx hy (str_guard _ _ _ _ _) (by simp only [binOp, str, Op.stringOp, str_beq, Sem.run_pure])
theorem r_neqS {x y : Operand} {t u : TypeId} {a b : List UInt8} (hx : ev n l x = some (str a)) (hy : ev n l y = some (str b)) :
    RunV P ⟨d, .binOp .neq t x y u, ty, ps, af, g⟩ (over A D l).eval w (.bool (!decide (a = b))) :=
  r_strop hx hy (str_guard _ _ _ _ _) (by simp only [binOp, str, Op.stringOp, str_beq, Sem.run_pure])
theorem r_lssS {x y : Operand} {t u : TypeId} {a b : List UInt8} (hx : ev n l x = some (str a)) (hy : ev n l y = some (str b)) :
    RunV P ⟨d, .binOp .lss t x y u, ty, ps, af, g⟩ (over A D l).eval w (.bool (Op.bytesLess a b)) :=
  r_strop hx hy (str_guard _ _ _ _ _) (by simp only [binOp, str, Op.stringOp, Sem.run_pure, ByteArray.toList_eq])
theorem r_gtrS {x y : Operand} {t u : TypeId} {a b : List UInt8} (hx : ev n l x = some (str a)) (hy : ev n l y = some (str b)) :
    RunV P ⟨d, .binOp .gtr t x y u, ty, ps, af, g⟩ (over A D l).eval w (.bool (!(Op.bytesLess a b || decide (a = b)))) :=
  r_strop hx hy (str_guard _ _ _ _ _) (by simp only [binOp, str, Op.stringOp, Sem.run_pure]; rw [str_beq]; simp only [ByteArray.toList_eq])
theorem r_neBool {x y : Operand} {t u : TypeId} {a b : Bool} (hT : P.underlying t = some .bool) (hx : ev n l x = some (.bool a)) (hy : ev n l y = some (.bool b)) :
    RunV P ⟨d, .binOp .neq t x y u, ty, ps, af, g⟩ (over A D l).eval w (.bool (a != b)) := by
  have h2 : (binOp .neq t (.bool a) (.bool b)).run P w = .ok (.bool (a != b)) w := by
    have h3 := run_equalIn_bool' w 9999 t a b hT
    have h4 : (Op.equal t (.bool a) (.bool b)).run P w = .ok (a == b) w := h3
    simp only [binOp, Sem.run_bind, h4, Result.andThen_ok, Sem.run_pure]
    rfl
  have h1 : (eqGuard .neq t x y (.bool a) (.bool b)).run P w = .ok () w := by simp [eqGuard]
  simp [RunV, execOp, ev_eval hx, ev_eval hy, h1, h2]
theorem r_eqBool {x y : Operand} {t u : TypeId} {a b : Bool} (hT : P.underlying t = some .bool) (hx : ev n l x = some (.bool a)) (hy : ev n l y = some (.bool b)) :
    RunV P ⟨d, .binOp .eql t x y u, ty, ps, af, g⟩ (over A D l).eval w (.bool (a == b)) := by
  have h2 : (binOp .eql t (.bool a) (.bool b)).run P w = .ok (.bool (a == b)) w := by
    have h3 := run_equalIn_bool' w 9999 t a b hT
    have h4 : (Op.equal t (.bool a) (.bool b)).run P w = .ok (a == b) w := h3
    simp only [binOp, Sem.run_bind, h4, Result.andThen_ok, Sem.run_pure]
  have h1 : (eqGuard .eql t x y (.bool a) (.bool b)).run P w = .ok () w := by simp [eqGuard]
  simp [RunV, execOp, ev_eval hx, ev_eval hy, h1, h2]
/-- string(b) -/
theorem r_convBS {x : Operand} {v : Value} {s : List UInt8} {src dst e : TypeId} (hs : P.underlying src = some (.slice e)) (he : P.underlying e = some (.int .u8)) (hd : P.underlying dst = some .string) (hx : ev n l x = some v) (hB : By w v s) :
    RunV P ⟨d, .convert src dst x, ty, ps, af, g⟩ (over A D l).eval w (str s) := by
  obtain ⟨a, cap, rfl, h1, h2, h3, h4⟩ := hB
  have hr : (convert src dst (.slice a (s.map b8).length cap)).run P w = .ok (str s) w := by
    cases a with
    | none =>
      have hc := h3 rfl
      have hl : (s.map b8).length = 0 := by omega
      have hs0 : s = [] := by simpa using hl
      subst hs0
      have := run_convert_bytes_string (P := P) w src dst e none 0 cap hs he hd
      simp only [List.map_nil, List.length_nil]
      rw [this]
      first | rfl | simp [Conv.bytesToString, str]
    | some p =>
      have := run_convert_bytes_back (P := P) w src dst e p cap s hs he hd (fun j hj => h4 p rfl j _ (by simp [b8, hj]))
      simpa [str] using this
  simp only [List.length_map] at hr hx
  simp [RunV, execOp, ev_eval hx, hr]
theorem freeze_cell (w : World) (a : Addr) (k : Nat) (p : Addr) : (w.freeze a k).cell? p = w.cell? p := by
  unfold World.freeze
  split
  · rfl
  · unfold World.cell?
    simp only [Array.getElem?_modify]
    by_cases h : a.block = p.block
    · rw [if_pos h]
      cases w.heap[p.block]? with
      | none => rfl
      | some o => cases o <;> rfl
    · rw [if_neg h]
theorem Md.freeze (w : World) (a : Addr) (k : Nat) : Md [a.block] w (w.freeze a k) := by
  unfold World.freeze
  split
  · exact ⟨rfl, rfl, rfl, Nat.le_refl _, fun _ _ _ => rfl⟩
  · refine ⟨rfl, rfl, rfl, by simp, fun j _ hs => ?_⟩
    simp only [Array.getElem?_modify]
    rw [if_neg (by rintro rfl; simp at hs)]
/-- The conversion of a constant's row to its own type. -/
theorem st_mark {ops : Array Oper} {Q : Exit → Act → World → Prop} {rest : List Oper} {d : Tmp} {x : Operand} {s : List UInt8} {t e : TypeId} {b m c : Nat} {ty' : TypeId} (ht : P.underlying t = some (.slice e)) (he : P.underlying e = some (.int .u8))
    (hx : ev n l x = some (.slice (some ⟨b, 0, none⟩) m c)) (hB : Blk w b (s.map b8) ty') (hY : By w (.slice (some ⟨b, 0, none⟩) m c) s)
    (k : ∀ w', Md [b] w w' → By w' (.slice (some ⟨b, 0, none⟩) m c) s → wpList P ops Q rest (over A D ((d, .slice (some ⟨b, 0, none⟩) m c) :: l)) w') :
    wpList P ops Q (⟨some d, .convert t t x, ty, ps, af, none⟩ :: rest) (over A D l) w := by
  refine wl_plain rfl ?_
  have hsh : w.shape? b = some (ty', (s.map b8).toArray.size) := by
    unfold Blk at hB
    simp [World.shape?, hB]
  have hrun : (execOp (over A D l).eval ⟨some d, .convert t t x, ty, ps, af, none⟩).run P w = .ok (.value (.slice (some ⟨b, 0, none⟩) m c)) (w.freeze ⟨b, (s.map b8).toArray.size, none⟩ 1) := by
    simp [execOp, ev_eval hx, convert, run_underlying ht, run_underlying he, markStringish, hsh]
  unfold Oper.wp
  rw [hrun]
  refine k _ (Md.freeze w ⟨b, _, none⟩ _) ?_
  obtain ⟨a, cap, h0, h1, h2, h3, h4⟩ := hY
  exact ⟨a, cap, h0, h1, h2, h3, fun p hp j u hj => by rw [freeze_cell]; exact h4 p hp j u hj⟩
/-- []byte(s) -/
theorem st_convSB {ops : Array Oper} {Q : Exit → Act → World → Prop} {rest : List Oper} {d : Tmp} {x : Operand} {s : List UInt8} {src dst e : TypeId} (hs : P.underlying src = some .string) (hd : P.underlying dst = some (.slice e)) (he : P.underlying e = some (.int .u8))
    (hx : ev n l x = some (str s)) (hl : s.length ≤ maxLen)
    (k : ∀ v w', Md [] w w' → By w' v s → (∀ b, vblock v = some b → w.heap.size ≤ b ∧ b < w'.heap.size) → wpList P ops Q rest (over A D ((d, v) :: l)) w') :
    wpList P ops Q (⟨some d, .convert src dst x, ty, ps, af, none⟩ :: rest) (over A D l) w := by
  refine wl_plain rfl ?_
  have hr := run_bytes_of_string (P := P) w src dst e ⟨s.toArray⟩ hs hd he
  have hsz : (⟨s.toArray⟩ : ByteArray).size = s.length := by simp [ByteArray.size]
  have hrun : (execOp (over A D l).eval ⟨some d, .convert src dst x, ty, ps, af, none⟩).run P w = .ok (.value (.slice (some ⟨w.heap.size, 0, none⟩) s.length (grownCap w s.length 0 e)))
      (w.drew.alloc (.cells (bytesRow ⟨s.toArray⟩ (grownCap w s.length 0 e)) e ((bytesRow ⟨s.toArray⟩ (grownCap w s.length 0 e)).size, (bytesRow ⟨s.toArray⟩ (grownCap w s.length 0 e)).size + 1))) := by
    rw [hsz] at hr
    simp [execOp, ev_eval hx, str, hr]
  unfold Oper.wp
  rw [hrun]
  refine k _ _ ⟨rfl, rfl, rfl, by simp, fun _ hk _ => heap_alloc_old _ _ hk⟩ ?_ ?_
  · refine ⟨_, _, by simp; exact ⟨rfl, rfl⟩, ?_, ?_, by simp, ?_⟩
    · simpa using grownCap_ge w s.length 0 e
    · exact grownCap_le_maxLen w _ _ _ hl
    · intro p hp j u hj
      simp at hp; subst hp
      have hjl : j < s.length := by have := (List.getElem?_eq_some_iff.1 hj).1; simpa using this
      have hc := World.cell?_alloc_mark w.drew (bytesRow ⟨s.toArray⟩ (grownCap w s.length 0 e)) e ((bytesRow ⟨s.toArray⟩ (grownCap w s.length 0 e)).size, (bytesRow ⟨s.toArray⟩ (grownCap w s.length 0 e)).size + 1) j
      have ha : (⟨w.heap.size, 0, none⟩ : Addr).add j = ⟨w.heap.size, j, none⟩ := by unfold Addr.add; split <;> simp_all
      rw [ha]
      refine hc.trans ?_
      simp [hjl, b8] at hj
      simp [bytesRow, Array.getElem?_append, hjl, hj]
  · intro b hb
    simp [vblock] at hb
    subst hb
    simp

/-! pairs of strings -/
def pairT (P : Program) (t f : TypeId) : Bool :=
  match P.underlying t with
  | some (.struct fs) => (fs.toList.map fun x => (x.type, x.offset)) == [(f, 0), (f, 1)] && fs.toList.all (fun x => x.name != "_") && isOne P f && !P.stoodInHeld t && !P.eqGuardType P.depth t
  | _ => false
def pairv (p : List UInt8 × List UInt8) : Value := .agg #[str p.1, str p.2]
theorem run_eq_pair {t f : TypeId} (hp : pairT P t f = true) (hf : P.underlying f = some .string) (p q : List UInt8 × List UInt8) (w : World) (k : Nat) : (Op.equalIn (k + 2) t (pairv p) (pairv q)).run P w = .ok (decide (p = q)) w := by
  unfold pairT at hp
  split at hp
  · rename_i fs hu
    simp only [Bool.and_eq_true, Bool.not_eq_true'] at hp
    obtain ⟨⟨⟨⟨h1, h2⟩, h3⟩, h4⟩, h5⟩ := hp
    have hfs : P.fieldsOf t = fs := by simp [Program.fieldsOf, hu]
    have hu' : P.underlying t = some (.struct (P.fieldsOf t)) := by rw [hfs]; exact hu
    have h := run_equalIn_struct (P := P) w (k + 1) t #[str p.1, str p.2] #[str q.1, str q.2] hu' h4
    unfold pairv
    rw [h, hfs]
    obtain ⟨fl⟩ := fs
    simp only at h1 h2 ⊢
    have h1' := eq_of_beq h1
    match fl, h1', h2 with
    | [], h1', _ => simp at h1'
    | [_], h1', _ => simp at h1'
    | _ :: _ :: _ :: _, h1', _ => simp at h1'
    | [a, b], h1', h2 =>
      simp only [List.map_cons, List.map_nil, List.cons.injEq, Prod.mk.injEq, and_true] at h1'
      obtain ⟨⟨ha, ha0⟩, hb, hb1⟩ := h1'
      simp only [List.all_cons, List.all_nil, Bool.and_true, Bool.and_eq_true, bne_iff_ne] at h2
      have e1 := run_isAgg_one h3
      have e2 : ∀ (a b : List UInt8) (w : World), (Op.equalIn (k + 1) f (str a) (str b)).run P w = .ok (decide (a = b)) w := fun a b w => by
        unfold str
        rw [run_equalIn_string w k f _ _ hf, str_beq]
      have p0 : ∀ (u v : Value) (w : World), (part f #[u, v] 0).run P w = .ok u w := fun u v w => by simp [part, e1]
      have p1 : ∀ (u v : Value) (w : World), (part f #[u, v] 1).run P w = .ok v w := fun u v w => by simp [part, e1]
      simp only [Op.eqFields, ne_eq, h2.1, h2.2, not_false_eq_true, if_true, ha, ha0, hb, hb1, Sem.run_bind, p0, p1, Result.andThen_ok, e2]
      have q0' := p0; have q1' := p1
      obtain ⟨p1, p2⟩ := p
      obtain ⟨q1, q2⟩ := q
      by_cases h6 : p1 = q1 <;> by_cases h7 : p2 = q2 <;> simp [h6, h7, Sem.run_ite, q0', q1', e2]
  · cases hp
theorem pair_guard {t f : TypeId} (hp : pairT P t f = true) (op : BinOp) (x y : Operand) (p q : List UInt8 × List UInt8) : (eqGuard op t x y (pairv p) (pairv q)).run P w = .ok () w := by
  unfold pairT at hp
  split at hp
  · simp only [Bool.and_eq_true, Bool.not_eq_true'] at hp
    exact run_eqGuard_agg w op t x y _ _ hp.2
  · cases hp
theorem r_eqlP {x y : Operand} {t f u : TypeId} {p q : List UInt8 × List UInt8} (hp : pairT P t f = true) (hf : P.underlying f = some .string) (hx : ev n l x = some (pairv p)) (hy : ev n l y = some (pairv q)) :
    RunV P ⟨d, .binOp .eql t x y u, ty, ps, af, g⟩ (over A D l).eval w (.bool (decide (p = q))) := by
  have h1 := pair_guard (w := w) hp .eql x y p q
  have h2 : (binOp .eql t (pairv p) (pairv q)).run P w = .ok (.bool (decide (p = q))) w := by
    rw [pairv, pairv, run_eql_struct, ← pairv, ← pairv, run_eq_pair hp hf p q w 9998]; rfl
  simp [RunV, execOp, ev_eval hx, ev_eval hy, h1, h2]
theorem r_neqP {x y : Operand} {t f u : TypeId} {p q : List UInt8 × List UInt8} (hp : pairT P t f = true) (hf : P.underlying f = some .string) (hx : ev n l x = some (pairv p)) (hy : ev n l y = some (pairv q)) :
    RunV P ⟨d, .binOp .neq t x y u, ty, ps, af, g⟩ (over A D l).eval w (.bool (!decide (p = q))) := by
  have h1 := pair_guard (w := w) hp .neq x y p q
  have h2 : (binOp .neq t (pairv p) (pairv q)).run P w = .ok (.bool (!decide (p = q))) w := by
    rw [pairv, pairv, run_neq_struct, ← pairv, ← pairv, run_eq_pair hp hf p q w 9998]; rfl
  simp [RunV, execOp, ev_eval hx, ev_eval hy, h1, h2]
/-- A guarded operation whose guard was itself passed over. -/
theorem st_skipU {ops : Array Oper} {Q : Exit → Act → World → Prop} {rest : List Oper} {op : Op} {d : Tmp} {j t : Nat} {o : Oper} {want : Bool} (ho : ops[j]? = some o) (ht : o.dst = some t) (hy : ev n l (.tmp t) = some undef)
    (k : wpList P ops Q rest (over A D ((d, undef) :: l)) w) :
    wpList P ops Q (⟨some d, op, ty, ps, af, some (j, want)⟩ :: rest) (over A D l) w := by
  have h' := ev_eval (A := A) (D := D) hy
  have hy2 : yielded ops (over A D l).tmps j = none := by
    simp only [Act.eval] at h'
    unfold yielded
    simp [ho, ht]
    rw [Array.getD_eq_getD_getElem?] at h'
    cases hq : (over A D l).tmps[t]? with
    | none => rfl
    | some v => rw [hq] at h'; simp at h'; rw [h']; rfl
  unfold wpList; rw [if_neg (by simp [Region.wanted, hy2])]; exact k
end
end Go.Wk
