/- The walker's steps over code. No statement is proved here. -/
import Derived.Test.YtahkddpdhmhfcaaOps
import Derived.Deep.LoopGhost
namespace Go.Wk
open Go Go.RowKit

section
variable {P : Program} {n : Nat} {A : Fr n} {D : List Deferred} {l : List (Nat × Value)} {w : World} {ops : Array Oper} {rest : List Oper} {Q : Exit → Act → World → Prop}
variable {d : Tmp} {op : Op} {ty : TypeId} {ps : String} {af : Array Edge}

theorem wl_plain {o : Oper} {a : Act} (hg : o.guard = none) (h : o.wp P a w (wpList P ops Q rest) Q) : wpList P ops Q (o :: rest) a w := by
  unfold wpList; rw [if_pos (by simp [Region.wanted, hg])]; exact .inl h

theorem wp_of_run {o : Oper} {a : Act} {v : Value} {K : Act → World → Prop} (hr : RunV P o a.eval w v) (h : K (a.put o.dst v) w) : o.wp P a w K Q := by
  unfold Oper.wp; unfold RunV at hr; rw [hr]; exact h

/-- An operation that yields a value and leaves the world. -/
theorem st (v : Value) (hr : RunV P ⟨some d, op, ty, ps, af, none⟩ (over A D l).eval w v) (k : wpList P ops Q rest (over A D ((d, v) :: l)) w) :
    wpList P ops Q (⟨some d, op, ty, ps, af, none⟩ :: rest) (over A D l) w := wl_plain rfl (wp_of_run hr k)

/-! guards -/
theorem yielded_of {j t : Nat} {o : Oper} {b : Bool} (ho : ops[j]? = some o) (ht : o.dst = some t) (h : ev n l (.tmp t) = some (.bool b)) : yielded ops (over A D l).tmps j = some b := by
  have h' := ev_eval (A := A) (D := D) h
  have hs : (over A D l).tmps.size = n := over_size
  have hn : t < n := by
    simp only [ev] at h
    cases hb : Nat.ble n t with
    | true => simp [hb] at h
    | false => exact Nat.lt_of_not_le fun hh => by rw [Nat.ble_eq_true_of_le hh] at hb; cases hb
  simp only [Act.eval, Array.getD, hs, hn, dite_true] at h'
  have h2 : (over A D l).tmps[t]? = some (.bool b) := by
    rw [Array.getElem?_eq_getElem (by omega)]; exact congrArg some h'
  simp [yielded, ho, ht, h2]
/-- A guarded operation that runs. -/
theorem st_g {j t : Nat} {o : Oper} {b want : Bool} (v : Value) (ho : ops[j]? = some o) (ht : o.dst = some t) (hy : ev n l (.tmp t) = some (.bool b)) (hb : b = want)
    (hr : RunV P ⟨some d, op, ty, ps, af, some (j, want)⟩ (over A D l).eval w v) (k : wpList P ops Q rest (over A D ((d, v) :: l)) w) :
    wpList P ops Q (⟨some d, op, ty, ps, af, some (j, want)⟩ :: rest) (over A D l) w := by
  unfold wpList; rw [if_pos (by simp [Region.wanted, yielded_of ho ht hy, hb])]; exact .inl (wp_of_run hr k)
/-- A guarded operation that is passed over. -/
theorem st_skip {j t : Nat} {o : Oper} {b want : Bool} (ho : ops[j]? = some o) (ht : o.dst = some t) (hy : ev n l (.tmp t) = some (.bool b)) (hb : b = !want)
    (k : wpList P ops Q rest (over A D ((d, undef) :: l)) w) :
    wpList P ops Q (⟨some d, op, ty, ps, af, some (j, want)⟩ :: rest) (over A D l) w := by
  unfold wpList; rw [if_neg (by subst hb; simp [Region.wanted, yielded_of ho ht hy])]; exact k
/-- A bool slot, parted. -/
theorem part_n {t : Nat} {b : Bool} (_ : ev n l (.tmp t) = some (.bool b)) (h1 : b = true → wpList P ops Q rest (over A D l) w) (h0 : b = false → wpList P ops Q rest (over A D l) w) : wpList P ops Q rest (over A D l) w := by cases b <;> simp_all
theorem part_q {C : World → Prop} {QQ : Act → Prop} {t : Nat} {b : Bool} (_ : ev n l (.tmp t) = some (.bool b)) (h1 : b = true → wpQuiet P ops C QQ rest (over A D l)) (h0 : b = false → wpQuiet P ops C QQ rest (over A D l)) : wpQuiet P ops C QQ rest (over A D l) := by cases b <;> simp_all
theorem part_s {QS : Act → Prop} {t : Nat} {b : Bool} (_ : ev n l (.tmp t) = some (.bool b)) (h1 : b = true → wpStill P ops w QS rest (over A D l)) (h0 : b = false → wpStill P ops w QS rest (over A D l)) : wpStill P ops w QS rest (over A D l) := by cases b <;> simp_all

/-! code -/
theorem st_nil {a : Act} (h : Q .normal a w) : wpList P ops Q [] a w := h
theorem c_region {id : Nat} {lo : List Oper} {a : Act} (h : wpList P lo.toArray Q lo a w) : (Code.region id lo.toArray false).wp P Q a w := wp_region_lit h
theorem c_seq {x y : Code} {a : Act} (h : x.wp P (Exit.then (fun a w => y.wp P Q a w) Q) a w) : (Code.seq x y).wp P Q a w := wp_seq h
theorem c_then {K : Act → World → Prop} {a : Act} (h : K a w) : Exit.then K Q .normal a w := h
theorem c_skip {a : Act} (h : Q .normal a w) : Code.skip.wp P Q a w := wp_skip h
theorem c_ret {a : Act} (h : Q .ret a w) : Code.ret.wp P Q a w := wp_ret h
theorem c_exit {id : Nat} {a : Act} (h : Q (.exit id) a w) : (Code.exit id).wp P Q a w := wp_exit h
theorem c_block {id : Nat} {c : Code} {a : Act} (h : c.wp P (Exit.inBlock id Q) a w) : (Code.block id c).wp P Q a w := wp_block h
theorem x_then {K : Act → World → Prop} {id : Nat} {a : Act} (h : Q (.exit id) a w) : Exit.then K Q (.exit id) a w := h
theorem x_hit {id : Nat} {a : Act} (h : Q .normal a w) : Exit.inBlock id Q (.exit id) a w := by simpa [Exit.inBlock] using h
theorem x_miss {id id' : Nat} {a : Act} (hne : Nat.beq id' id = false) (h : Q (.exit id') a w) : Exit.inBlock id Q (.exit id') a w := by
  have : id' ≠ id := fun h => by subst h; simp at hne
  simpa [Exit.inBlock, this] using h
theorem n_block {id : Nat} {a : Act} (h : Q .normal a w) : Exit.inBlock id Q .normal a w := h
theorem r_then {K : Act → World → Prop} {a : Act} (h : Q .ret a w) : Exit.then K Q .ret a w := h
theorem r_block {id : Nat} {a : Act} (h : Q .ret a w) : Exit.inBlock id Q .ret a w := h
theorem c_if {c : Operand} {x y : Code} {b : Bool} (hc : ev n l c = some (.bool b)) (h1 : b = true → x.wp P Q (over A D l) w) (h0 : b = false → y.wp P Q (over A D l) w) :
    (Code.cond c x y).wp P Q (over A D l) w := wp_cond_split (ev_eval hc) h1 h0
theorem c_if_t {c : Operand} {x y : Code} {b : Bool} (hc : ev n l c = some (.bool b)) (hb : b = true) (h : x.wp P Q (over A D l) w) : (Code.cond c x y).wp P Q (over A D l) w :=
  c_if hc (fun _ => h) (fun h0 => by rw [hb] at h0; cases h0)
theorem c_if_f {c : Operand} {x y : Code} {b : Bool} (hc : ev n l c = some (.bool b)) (hb : b = false) (h : y.wp P Q (over A D l) w) : (Code.cond c x y).wp P Q (over A D l) w :=
  c_if hc (fun h0 => by rw [hb] at h0; cases h0) (fun _ => h)

/-- Forget slots ahead of code. -/
theorem c_forget {c : Code} (l1 : List (Nat × Value)) (h : Fits n l l1) (k : ∀ B : Fr n, c.wp P Q (over B D l1) w) : c.wp P Q (over A D l) w := forget (G := fun a => c.wp P Q a w) l1 h k

/-- A loop: 'inv x' are the live slots at its head, 'W x' what holds of the world, 'mu x' falls. -/
def LoopNext {X : Type} (n : Nat) (D : List Deferred) (inv : X → List (Nat × Value)) (W : X → World → Prop) (mu : X → Nat) (x : X) (a : Act) (w : World) : Prop :=
  ∃ (x' : X) (B : Fr n), a = over B D (inv x') ∧ W x' w ∧ mu x' < mu x
theorem c_loop {X : Type} {c : Code} (inv : X → List (Nat × Value)) (W : X → World → Prop) (mu : X → Nat) (x0 : X) (h0 : Fits n l (inv x0)) (hw : W x0 w)
    (round : ∀ (x : X) (B : Fr n) (w' : World), W x w' → c.wp P (Exit.then (LoopNext n D inv W mu x) Q) (over B D (inv x)) w') :
    (Code.loop c).wp P Q (over A D l) w := by
  refine wp_loop_ghost (fun m a w' => ∃ (x : X) (B : Fr n), a = over B D (inv x) ∧ W x w' ∧ mu x = m) (mu x0) ⟨x0, _, (over_fits (A := A) (D := D) h0).symm, hw, rfl⟩ ?_
  rintro m a w' ⟨x, B, rfl, hW, rfl⟩
  refine wp_mono (round x B w' hW) ?_
  intro e a2 w2 h
  cases e with
  | normal => obtain ⟨x', B', h1, h2, h3⟩ := h; exact ⟨mu x', h3, x', B', h1, h2, rfl⟩
  | _ => exact h
theorem next {X : Type} {inv : X → List (Nat × Value)} {W : X → World → Prop} {mu : X → Nat} {x : X} (x' : X) (hm : mu x' < mu x) (hf : Fits n l (inv x')) (hw : W x' w) :
    LoopNext n D inv W mu x (over A D l) w := ⟨x', _, (over_fits (A := A) (D := D) hf).symm, hw, hm⟩
/-! calls -/
def isFn (P : Program) (f : FuncId) : Bool :=
  match P.funcs[f]? with
  | some fn => !(fn.name == "runtime.NumGoroutine") && fn.body.isSome
  | none => false
theorem run_callFunc {f : FuncId} (hf : isFn P f = true) (args : Array Value) : (callFunc f args).run P w = .ok (.enter f args) w := by
  unfold isFn at hf
  split at hf
  · rename_i fn hfn
    simp only [Bool.and_eq_true, Bool.not_eq_true'] at hf
    have h1 : ¬ fn.name = "runtime.NumGoroutine" := by have := hf.1; simpa using this
    have h2 : ¬ fn.body = none := by intro hb; rw [hb] at hf; simp at hf
    simp [callFunc, hfn, h1, h2]
  · cases hf
theorem exec_call {f : FuncId} {xs : List Operand} {ts : Array TypeId} {vs : List Value} {d' : Option Tmp} {g : Option (Nat × Bool)} (hf : isFn P f = true) (ha : evs n l xs = some vs) :
    (execOp (over A D l).eval ⟨d', .call { callee := .value (.func f), args := xs.toArray, argTypes := ts }, ty, ps, af, g⟩).run P w = .ok (.enter f vs.toArray) w := by
  have he := evs_eval (A := A) (D := D) ha
  simp only [execOp, resolve, Act.eval, Deferred.ofValue, List.map_toArray, he]
  simp [invoke, run_callFunc hf]
theorem st_call {f : FuncId} {xs : List Operand} {ts : Array TypeId} {vs : List Value} {R : Ending → World → Prop} (hf : isFn P f = true) (ha : evs n l xs = some vs) (hc : Calls P f vs.toArray w R)
    (k : ∀ e w', R e w' → ∃ v, e = .returned v ∧ wpList P ops Q rest (over A D ((d, v) :: l)) w') :
    wpList P ops Q (⟨some d, .call { callee := .value (.func f), args := xs.toArray, argTypes := ts }, ty, ps, af, none⟩ :: rest) (over A D l) w := by
  refine wl_plain rfl ?_
  unfold Oper.wp
  rw [exec_call hf ha]
  refine hc.mono fun e w' hR => ?_
  obtain ⟨v, rfl, hk⟩ := k e w' hR
  exact hk
theorem st_call_g {f : FuncId} {xs : List Operand} {ts : Array TypeId} {vs : List Value} {R : Ending → World → Prop} {j t : Nat} {o : Oper} {b want : Bool} (ho : ops[j]? = some o) (ht : o.dst = some t) (hy : ev n l (.tmp t) = some (.bool b)) (hb : b = want)
    (hf : isFn P f = true) (ha : evs n l xs = some vs) (hc : Calls P f vs.toArray w R)
    (k : ∀ e w', R e w' → ∃ v, e = .returned v ∧ wpList P ops Q rest (over A D ((d, v) :: l)) w') :
    wpList P ops Q (⟨some d, .call { callee := .value (.func f), args := xs.toArray, argTypes := ts }, ty, ps, af, some (j, want)⟩ :: rest) (over A D l) w := by
  unfold wpList; rw [if_pos (by simp [Region.wanted, yielded_of ho ht hy, hb])]
  refine .inl ?_
  unfold Oper.wp
  rw [exec_call hf ha]
  refine hc.mono fun e w' hR => ?_
  obtain ⟨v, rfl, hk⟩ := k e w' hR
  exact hk

/-! a function's door -/
def argsAt : Nat → List Value → List (Nat × Value)
  | _, [] => []
  | i, v :: r => (i, v) :: argsAt (i + 1) r
theorem over_same {B : Fr n} {l1 : List (Nat × Value)} (h : ∀ p ∈ l1, B.tmps.getD p.1 undef = p.2) : over B D l1 = ⟨B.tmps, D⟩ := by
  induction l1 with
  | nil => rfl
  | cons p r ih =>
    simp only [over]
    rw [ih fun q hq => h q (by simp [hq])]
    exact put_self _ _ _ (h p (by simp))
theorem mem_argsAt {vs : List Value} {i : Nat} {p : Nat × Value} (h : p ∈ argsAt i vs) : ∃ j, p.1 = i + j ∧ vs[j]? = some p.2 := by
  induction vs generalizing i with
  | nil => simp [argsAt] at h
  | cons v r ih =>
    simp only [argsAt, List.mem_cons] at h
    rcases h with rfl | h
    · exact ⟨0, rfl, rfl⟩
    · obtain ⟨j, h1, h2⟩ := ih h
      exact ⟨j + 1, by omega, by simpa using h2⟩
theorem enter {f : FuncId} {fn : Func} {c : Code} {vs : List Value} {R : Ending → World → Prop} (hf : P.funcs[f]? = some fn) (hb : fn.body = some c) (hn : fn.ntmps = n) (hle : Nat.ble vs.length n = true)
    (h : ∀ B : Fr n, c.wp P (bodyPost P fn R) (over B [] (argsAt 0 vs)) w) : Calls P f vs.toArray w R := by
  refine calls_of_wp hf hb ?_
  have hle' : vs.length ≤ n := Nat.le_of_ble_eq_true hle
  have hsz : (vs.toArray ++ Array.replicate (fn.ntmps - vs.toArray.size) undef).size = n := by simp [hn]; omega
  have := h ⟨_, hsz⟩
  rwa [over_same] at this
  intro p hp
  obtain ⟨j, h1, h2⟩ := mem_argsAt hp
  have hj := (List.getElem?_eq_some_iff.1 h2)
  obtain ⟨hj1, hj2⟩ := hj
  simp only [h1, Nat.zero_add, Array.getD]
  rw [dif_pos (by simp; omega)]
  show (vs.toArray ++ _)[j]'_ = _
  rw [Array.getElem_append_left (by simpa using hj1)]
  simpa using hj2

def isEnd : Exit → Prop
  | .ret | .normal => True
  | _ => False
theorem bp {fn : Func} {R : Ending → World → Prop} {e : Exit} {v : Value} {a : Act} (he : isEnd e) (hd : a.defers = []) (hr : (results fn a.tmps).run P w = .ok v w) (h : R (.returned v) w) : bodyPost P fn R e a w := by
  cases e <;> simp only [isEnd] at he <;> exact ⟨hd, v, hr, h⟩
theorem getD_of {t : Nat} {v : Value} (h : ev n l (.tmp t) = some v) : (over A D l).tmps.getD t undef = v := ev_eval (A := A) (D := D) h
theorem getD_of' {t : Nat} {v : Value} (h : ev n l (.tmp t) = some v) : (over A D l).tmps[t]?.getD undef = v := by simpa using getD_of (A := A) (D := D) h
theorem ret0 {fn : Func} {R : Ending → World → Prop} {e : Exit} (he : isEnd e) (hr : fn.results = #[]) (h : R (.returned (.tuple #[])) w) : bodyPost P fn R e (over A [] l) w :=
  bp he over_defers (results_none hr _ _ _) h
theorem ret1 {fn : Func} {R : Ending → World → Prop} {e : Exit} {t : Nat} {v : Value} (he : isEnd e) (hr : fn.results = #[.tmp t]) (hv : ev n l (.tmp t) = some v) (h : R (.returned v) w) : bodyPost P fn R e (over A [] l) w :=
  bp he over_defers (results_tmp hr _ _ _) (by rw [getD_of hv]; exact h)
theorem ret2 {fn : Func} {R : Ending → World → Prop} {e : Exit} {t u : Nat} {v v' : Value} (he : isEnd e) (hr : fn.results = #[.tmp t, .tmp u]) (hv : ev n l (.tmp t) = some v) (hv' : ev n l (.tmp u) = some v')
    (h : R (.returned (.tuple #[v, v'])) w) : bodyPost P fn R e (over A [] l) w :=
  bp he over_defers (results_tmp2 hr _ _ _) (by rw [getD_of hv, getD_of hv']; exact h)
theorem ret3 {fn : Func} {R : Ending → World → Prop} {e : Exit} {t u x : Nat} {v v' v'' : Value} (he : isEnd e) (hr : fn.results = #[.tmp t, .tmp u, .tmp x]) (hv : ev n l (.tmp t) = some v) (hv' : ev n l (.tmp u) = some v') (hv'' : ev n l (.tmp x) = some v'')
    (h : R (.returned (.tuple #[v, v', v''])) w) : bodyPost P fn R e (over A [] l) w :=
  bp he over_defers (results_tmp3 hr _ _ _) (by rw [getD_of hv, getD_of hv', getD_of hv'']; exact h)
theorem run_loadVar_blk {t ty' : TypeId} {b : Nat} {cs : List Value} (hT : isAggN P t cs.length = true) (hB : Blk w b cs ty') : (loadVar t ⟨b, 0, none⟩).run P w = .ok (.agg cs.toArray) w := by
  obtain ⟨dd, inf, h1, h2, h3, h4⟩ := isAggN_spec hT
  have hl := run_loadCells_list (P := P) (w := w) ⟨b, 0, none⟩ cs fun j u hj => by rw [Addr.add_mk, Nat.zero_add, hB.cell]; exact hj
  simp [loadVar, run_isAgg_agg hT, run_sizeOf h2, h3, hl]
/-- One result, a struct or an array in its block. -/
theorem retc {fn : Func} {R : Ending → World → Prop} {e : Exit} {t : Nat} {tt ty' : TypeId} {b : Nat} {cs : List Value} (he : isEnd e) (hr : fn.results = #[.cell t tt]) (hv : ev n l (.tmp t) = some (.pointer (some ⟨b, 0, none⟩)))
    (hT : isAggN P tt cs.length = true) (hB : Blk w b cs ty') (h : R (.returned (.agg cs.toArray)) w) : bodyPost P fn R e (over A [] l) w :=
  bp he over_defers (by simp [results, hr, getD_of' hv, asAddr, run_loadVar_blk hT hB]) h
theorem retc1 {fn : Func} {R : Ending → World → Prop} {e : Exit} {t u : Nat} {tt ty' : TypeId} {b : Nat} {cs : List Value} {v : Value} (he : isEnd e) (hr : fn.results = #[.cell t tt, .tmp u]) (hv : ev n l (.tmp t) = some (.pointer (some ⟨b, 0, none⟩)))
    (hT : isAggN P tt cs.length = true) (hB : Blk w b cs ty') (hv' : ev n l (.tmp u) = some v) (h : R (.returned (.tuple #[.agg cs.toArray, v])) w) : bodyPost P fn R e (over A [] l) w :=
  bp he over_defers (by simp [results, hr, getD_of' hv, getD_of' hv', asAddr, run_loadVar_blk hT hB]) h

/-! memory -/
theorem st_store {x y : Operand} {t ty' : TypeId} {b j : Nat} {cs : List Value} {u : Value} (hx : ev n l x = some (.pointer (some ⟨b, j, none⟩))) (hy : ev n l y = some u) (hT : isOne P t = true) (hu : u.oneCell' = true)
    (hB : Blk w b cs ty') (hj : j < cs.length) (k : ∀ w', Md [b] w w' → Blk w' b (cs.set j u) ty' → wpList P ops Q rest (over A D l) w') :
    wpList P ops Q (⟨none, .store t x y, ty, ps, af, none⟩ :: rest) (over A D l) w := by
  refine wl_plain rfl ?_
  obtain ⟨dd, inf, h1, h2, h3, h4⟩ := isOne_spec hT
  have hc : u.cells = #[u] := by cases u <;> simp_all [Value.cells, Value.oneCell']
  have hcell : w.cell? ⟨b, j, none⟩ = some cs[j] := by rw [hB.cell]; simp [hj]
  have hrun : (execOp (over A D l).eval ⟨none, .store t x y, ty, ps, af, none⟩).run P w = .ok .skip (w.setCell ⟨b, j, none⟩ u) := by
    simp [execOp, ev_eval hx, ev_eval hy, Instr.storeAt, Instr.sureAddr, storeVar, run_sizeOf h2, h3, hc, storeCells, Addr.add, run_store P w _ u _ hu, hcell, hB.frozen]
  unfold Oper.wp
  rw [hrun]
  exact k _ (Md.setCell w ⟨b, j, none⟩ u) (hB.set j u)
/-- Cells us in the place of those from j on. -/
def splice (cs : List Value) (j : Nat) (us : List Value) : List Value := cs.take j ++ us ++ cs.drop (j + us.length)
theorem Blk.setRow {b : Nat} {cs us : List Value} {ty' : TypeId} (hB : Blk w b cs ty') : Blk (w.setRow b us.toArray) b us ty' := setRow_heap w b _ _ ty' _ hB
theorem Md.setRow (w : World) (b : Nat) (us : Array Value) : Md [b] w (w.setRow b us) := ⟨rfl, rfl, rfl, by simp, fun k _ hs => setRow_other w b k us (by simpa using hs)⟩
theorem st_storeAgg {x y : Operand} {t ty' : TypeId} {b j : Nat} {cs us : List Value} (hx : ev n l x = some (.pointer (some ⟨b, j, none⟩))) (hy : ev n l y = some (.agg us.toArray)) (hT : isAggN P t us.length = true)
    (hu : ∀ u ∈ us, u.oneCell' = true) (hB : Blk w b cs ty') (hj : j + us.length ≤ cs.length) (k : ∀ w', Md [b] w w' → Blk w' b (splice cs j us) ty' → wpList P ops Q rest (over A D l) w') :
    wpList P ops Q (⟨none, .store t x y, ty, ps, af, none⟩ :: rest) (over A D l) w := by
  refine wl_plain rfl ?_
  obtain ⟨dd, inf, h1, h2, h3, h4⟩ := isAggN_spec hT
  have hst := run_storeCells_at P b j ty' us 0 cs.toArray w hB (by simpa using hj) hu
  have hrun : (execOp (over A D l).eval ⟨none, .store t x y, ty, ps, af, none⟩).run P w = .ok .skip (w.setRow b (splice cs j us).toArray) := by
    simp [execOp, ev_eval hx, ev_eval hy, Instr.storeAt, Instr.sureAddr, storeVar, run_sizeOf h2, h3, Value.cells, hst, splice]
  unfold Oper.wp
  rw [hrun]
  exact k _ (Md.setRow w b _) hB.setRow
/-- A whole block, written. -/
theorem st_storeAll {x y : Operand} {t ty' : TypeId} {b : Nat} {cs us : List Value} (hx : ev n l x = some (.pointer (some ⟨b, 0, none⟩))) (hy : ev n l y = some (.agg us.toArray)) (hT : isAggN P t us.length = true)
    (hu : ∀ u ∈ us, u.oneCell' = true) (hB : Blk w b cs ty') (hj : us.length = cs.length) (k : ∀ w', Md [b] w w' → Blk w' b us ty' → wpList P ops Q rest (over A D l) w') :
    wpList P ops Q (⟨none, .store t x y, ty, ps, af, none⟩ :: rest) (over A D l) w :=
  st_storeAgg hx hy hT hu hB (by omega) fun w' hm hb => k w' hm (by have : splice cs 0 us = us := by simp [splice, hj]
                                                                    rwa [this] at hb)
theorem st_alloc {t : TypeId} {cs : List Value} (hz : zcells P t = some cs)
    (k : ∀ b w', w.heap.size ≤ b → b < w'.heap.size → Md [] w w' → Blk w' b cs t → wpList P ops Q rest (over A D ((d, .pointer (some ⟨b, 0, none⟩)) :: l)) w') :
    wpList P ops Q (⟨some d, .alloc t, ty, ps, af, none⟩ :: rest) (over A D l) w := by
  refine wl_plain rfl ?_
  unfold zcells at hz
  split at hz
  · rename_i i hi
    split at hz
    · rename_i z hzz
      simp only [Option.some.injEq] at hz
      have hrun : (execOp (over A D l).eval ⟨some d, .alloc t, ty, ps, af, none⟩).run P w = .ok (.value (.pointer (some ⟨w.heap.size, 0, none⟩))) (w.alloc (.cells cs.toArray t)) := by
        subst hz
        simp [execOp, Instr.alloc, zeroValue, typeInfo, hi, hzz, newVar, newRow]
      unfold Oper.wp
      rw [hrun]
      exact k _ _ (Nat.le_refl _) (by simp) (Md.alloc w _) (Blk.new w cs t)
    · cases hz
  · cases hz
theorem st_box {t : TypeId} {x : Operand} {v : Value} {cs : List Value} (hx : ev n l x = some v) (hv : v.cells = cs.toArray)
    (k : ∀ b w', w.heap.size ≤ b → b < w'.heap.size → Md [] w w' → Blk w' b cs t → wpList P ops Q rest (over A D ((d, .pointer (some ⟨b, 0, none⟩)) :: l)) w') :
    wpList P ops Q (⟨some d, .box t x, ty, ps, af, none⟩ :: rest) (over A D l) w := by
  refine wl_plain rfl ?_
  have hrun : (execOp (over A D l).eval ⟨some d, .box t x, ty, ps, af, none⟩).run P w = .ok (.value (.pointer (some ⟨w.heap.size, 0, none⟩))) (w.alloc (.cells cs.toArray t)) := by
    simp [execOp, Instr.box, newVar, newRow, ev_eval hx, hv]
  unfold Oper.wp
  rw [hrun]
  exact k _ _ (Nat.le_refl _) (by simp) (Md.alloc w _) (Blk.new w cs t)

theorem cells_one {v : Value} (h : v.oneCell' = true) : v.cells = #[v] := by cases v <;> simp_all [Value.cells, Value.oneCell']
theorem Sl.oneCell {v : Value} {l' : List Value} (h : Sl w v l') : v.oneCell' = true := by obtain ⟨a, c, rfl, _⟩ := h; rfl

/-! build, of one-cell parts -/
def setsAt (cs : List Value) : List (Nat × Value) → List Value
  | [] => cs
  | (i, v) :: r => setsAt (cs.set i v) r
def offsIs (P : Program) (t : TypeId) : List (Nat × Nat) → Bool
  | [] => true
  | (i, o) :: r => (match P.underlying t with
    | some (.struct fs) => match fs[i]? with
      | some f => match P.info? f.type with
        | some inf => Nat.beq inf.size 1 && Nat.beq f.offset o
        | none => false
      | none => false
    | some (.array _ e) => match P.info? e with
      | some inf => Nat.beq inf.size 1 && Nat.beq i o
      | none => false
    | _ => false) && offsIs P t r

def OneAll : List Value → Prop
  | [] => True
  | v :: r => v.oneCell' = true ∧ OneAll r
/-- A struct or an array of one-cell parts. -/
def zipAt : List (Nat × Nat) → List Value → List (Nat × Value)
  | (_, o) :: r, v :: vs => (o, v) :: zipAt r vs
  | _, _ => []
theorem fill_one {place : Nat → Option (Nat × Nat)} : ∀ (ps : List (Nat × Nat)) (vs : List Value) (cs : List Value), ps.length = vs.length → (∀ p ∈ ps, place p.1 = some (p.2, 1) ∧ p.2 < cs.length) → OneAll vs →
    Instr.fill place cs.toArray ((ps.map (·.1)).zip vs) = some (setsAt cs (zipAt ps vs)).toArray
  | [], [], cs, _, _, _ => by simp [Instr.fill, zipAt, setsAt]
  | (i, o) :: ps, v :: vs, cs, hl, hp, h1 => by
    have hv := cells_one h1.1
    obtain ⟨h2, h3⟩ := hp (i, o) (by simp)
    have ih := fill_one (place := place) ps vs (cs.set o v) (by simpa using hl) (fun p hp' => by have := hp p (by simp [hp']); simpa using this) h1.2
    simp only at h2 h3
    have hb : ¬ (cs.length < o + 1) := by omega
    simp only [List.map_cons, List.zip_cons_cons, Instr.fill, h2, hv]
    simp [zipAt, setsAt, ih, hb]
  | [], _ :: _, _, hl, _, _ => by simp at hl
  | _ :: _, [], _, hl, _, _ => by simp at hl
def bplace (P : Program) (t : TypeId) : Option (List (Nat × Nat)) :=
  match P.underlying t with
  | some (.array m e) => match P.info? e with
    | some ie => some ((List.range m).map fun i => (i * ie.size, ie.size))
    | none => none
  | some (.struct fields) => fields.toList.mapM (fun f => (P.info? f.type).map fun i => (f.offset, i.size))
  | _ => none
def psOk (pl : List (Nat × Nat)) (m : Nat) : List (Nat × Nat) → Bool
  | [] => true
  | (i, o) :: r => (match pl[i]? with
    | some (o', s) => Nat.beq o' o && Nat.beq s 1 && Nat.ble (o + 1) m
    | none => false) && psOk pl m r
theorem psOk_spec {pl : List (Nat × Nat)} {m : Nat} : ∀ {ps : List (Nat × Nat)}, psOk pl m ps = true → ∀ p ∈ ps, pl[p.1]? = some (p.2, 1) ∧ p.2 < m
  | [], _, p, hp => by cases hp
  | (i, o) :: r, h, p, hp => by
    simp only [psOk, Bool.and_eq_true] at h
    rcases List.mem_cons.1 hp with rfl | hp'
    · cases hq : pl[i]? with
      | none => rw [hq] at h; simp at h
      | some q =>
        obtain ⟨o', s⟩ := q
        rw [hq] at h
        simp only [Bool.and_eq_true] at h
        obtain ⟨⟨⟨h1, h2⟩, h3⟩, _⟩ := h
        have e1 := Nat.eq_of_beq_eq_true h1
        have e2 := Nat.eq_of_beq_eq_true h2
        subst e1; subst e2
        exact ⟨rfl, Nat.le_of_ble_eq_true h3⟩
    · exact psOk_spec h.2 p hp'
theorem built_one {t : TypeId} {zs vs : List Value} {pl ps : List (Nat × Nat)} (hz : zcells P t = some zs) (hpl : bplace P t = some pl) (hl : ps.length = vs.length) (hps : psOk pl zs.length ps = true) (h1 : OneAll vs) :
    P.built t ((ps.map (·.1)).zip vs) = some (setsAt zs (zipAt ps vs)).toArray := by
  have hp := psOk_spec hps
  unfold zcells at hz
  cases hi : P.info? t with
  | none => simp [hi] at hz
  | some it =>
    cases hzz : it.zero with
    | none => simp [hi, hzz] at hz
    | some z =>
      simp only [hi, hzz, Option.some.injEq] at hz
      have hzc : z.cells = zs.toArray := by rw [← hz]
      unfold bplace at hpl
      unfold Program.built
      cases hu : P.underlying t with
      | none => simp [hu] at hpl
      | some d =>
        cases d <;> try (simp [hu] at hpl; done)
        case array m e =>
          cases hie : P.info? e with
          | none => simp [hu, hie] at hpl
          | some ie =>
            simp only [hu, hie, Option.some.injEq] at hpl
            simp only [hi, hzz, hie, hzc]
            refine fill_one ps vs zs hl (fun p hp' => ?_) h1
            obtain ⟨h2, h3⟩ := hp p hp'
            rw [← hpl, List.getElem?_map] at h2
            have hr : (List.range m)[p.1]? = some p.1 := by
              cases hq : (List.range m)[p.1]? with
              | none => rw [hq] at h2; simp at h2
              | some q => have := List.getElem?_eq_some_iff.1 hq; obtain ⟨ha, hb⟩ := this; simp at hb; rw [← hb]
            rw [hr] at h2
            simp only [Option.map_some, Option.some.injEq, Prod.mk.injEq] at h2
            exact ⟨by rw [h2.1, h2.2], h3⟩
        case struct fields =>
          simp only [hu] at hpl
          simp only [hi, hzz, hpl, hzc]
          refine fill_one ps vs zs hl (fun p hp' => ?_) h1
          obtain ⟨h2, h3⟩ := hp p hp'
          exact ⟨by simpa using h2, h3⟩
theorem r_build {t : TypeId} {parts : List (Nat × Operand)} {zs vs cs : List Value} {pl ps : List (Nat × Nat)} {d' : Option Tmp} {ps' : String} {g : Option (Nat × Bool)} (hz : zcells P t = some zs) (hpl : bplace P t = some pl) (hpp : parts.map (·.1) = ps.map (·.1)) (hev : evs n l (parts.map (·.2)) = some vs)
    (h1 : OneAll vs) (hl : ps.length = vs.length) (hps : psOk pl zs.length ps = true) (hcs : setsAt zs (zipAt ps vs) = cs) :
    RunV P ⟨d', .build t parts.toArray, ty, ps', af, g⟩ (over A D l).eval w (.agg cs.toArray) := by
  have he := evs_eval (A := A) (D := D) hev
  have hzip : parts.map (fun p => (p.1, (over A D l).eval p.2)) = (ps.map (·.1)).zip vs := by
    rw [← hpp, ← he, List.map_map, List.zip_map']
    rfl
  have hb := built_one hz hpl hl hps h1
  rw [← hzip] at hb
  have hr := run_build (P := P) w t (parts.map (fun p => (p.1, (over A D l).eval p.2))).toArray _ (by simpa using hb)
  subst hcs
  simp only [RunV, execOp, List.map_toArray]
  show Sem.run P (do pure (Next.value (← Instr.build t (parts.map fun x => (x.1, (over A D l).eval x.2)).toArray))) w = _
  simp [hr]


/-! regions that draw their order: only reads and calls that change nothing of 'w' -/
variable {C : World → Prop} {QQ : Act → Prop}
theorem c_quiet {id : Nat} {lo : List Oper} {a : Act} (C : World → Prop) (hm : P.follows .mixedOrders = true) (hB : Region.lexB .any lo.toArray = true) (hC : C { w with drawn := w.drawn + 1 })
    (h : wpQuiet P lo.toArray C (fun a' => ∀ w', C w' → Q .normal a' w') lo a) : (Code.region id lo.toArray true).wp P Q a w :=
  wp_region_quiet hm hB hC (by simpa using h)
theorem q_plain {o : Oper} {a : Act} (hg : o.guard = none) (h : o.quiet P a C (wpQuiet P ops C QQ rest)) : wpQuiet P ops C QQ (o :: rest) a := by
  unfold wpQuiet; rw [if_pos (by simp [Region.wanted, hg])]; exact h
theorem quiet_of_run {o : Oper} {a : Act} {K : Act → Prop} (v : Value) (hr : ∀ w', C w' → RunV P o a.eval w' v) (h : K (a.put o.dst v)) : o.quiet P a C K :=
  ⟨v, fun w' hw => by have := hr w' hw; unfold RunV at this; unfold Oper.quietAt; rw [this]; exact ⟨rfl, rfl⟩, h⟩
theorem q (v : Value) (hr : ∀ w', C w' → RunV P ⟨some d, op, ty, ps, af, none⟩ (over A D l).eval w' v) (k : wpQuiet P ops C QQ rest (over A D ((d, v) :: l))) :
    wpQuiet P ops C QQ (⟨some d, op, ty, ps, af, none⟩ :: rest) (over A D l) := q_plain rfl (quiet_of_run v hr k)
theorem q_g {j t : Nat} {o : Oper} {b want : Bool} (v : Value) (ho : ops[j]? = some o) (ht : o.dst = some t) (hy : ev n l (.tmp t) = some (.bool b)) (hb : b = want)
    (hr : ∀ w', C w' → RunV P ⟨some d, op, ty, ps, af, some (j, want)⟩ (over A D l).eval w' v) (k : wpQuiet P ops C QQ rest (over A D ((d, v) :: l))) :
    wpQuiet P ops C QQ (⟨some d, op, ty, ps, af, some (j, want)⟩ :: rest) (over A D l) := by
  unfold wpQuiet; rw [if_pos (by simp [Region.wanted, yielded_of ho ht hy, hb])]; exact quiet_of_run v hr k
theorem q_skip {j t : Nat} {o : Oper} {b want : Bool} (ho : ops[j]? = some o) (ht : o.dst = some t) (hy : ev n l (.tmp t) = some (.bool b)) (hb : b = !want)
    (k : wpQuiet P ops C QQ rest (over A D ((d, undef) :: l))) :
    wpQuiet P ops C QQ (⟨some d, op, ty, ps, af, some (j, want)⟩ :: rest) (over A D l) := by
  unfold wpQuiet; rw [if_neg (by subst hb; simp [Region.wanted, yielded_of ho ht hy])]; exact k
theorem q_call {f : FuncId} {xs : List Operand} {ts : Array TypeId} {vs : List Value} (v : Value) (hf : isFn P f = true) (ha : evs n l xs = some vs) (hc : ∀ w', C w' → Calls P f vs.toArray w' (fun e w'' => e = .returned v ∧ C w''))
    (k : wpQuiet P ops C QQ rest (over A D ((d, v) :: l))) :
    wpQuiet P ops C QQ (⟨some d, .call { callee := .value (.func f), args := xs.toArray, argTypes := ts }, ty, ps, af, none⟩ :: rest) (over A D l) :=
  q_plain rfl ⟨v, fun w' hw => by unfold Oper.quietAt; rw [exec_call hf ha]; exact ⟨rfl, hc w' hw⟩, k⟩
theorem q_call_g {f : FuncId} {xs : List Operand} {ts : Array TypeId} {vs : List Value} {j t : Nat} {o : Oper} {b want : Bool} (v : Value) (ho : ops[j]? = some o) (ht : o.dst = some t) (hy : ev n l (.tmp t) = some (.bool b)) (hb : b = want)
    (hf : isFn P f = true) (ha : evs n l xs = some vs) (hc : ∀ w', C w' → Calls P f vs.toArray w' (fun e w'' => e = .returned v ∧ C w''))
    (k : wpQuiet P ops C QQ rest (over A D ((d, v) :: l))) :
    wpQuiet P ops C QQ (⟨some d, .call { callee := .value (.func f), args := xs.toArray, argTypes := ts }, ty, ps, af, some (j, want)⟩ :: rest) (over A D l) := by
  unfold wpQuiet; rw [if_pos (by simp [Region.wanted, yielded_of ho ht hy, hb])]
  exact ⟨v, fun w' hw => by unfold Oper.quietAt; rw [exec_call hf ha]; exact ⟨rfl, hc w' hw⟩, k⟩
theorem q_nil {a : Act} (h : QQ a) : wpQuiet P ops C QQ [] a := h

/-! regions that draw their order: reads, then a tail in one order -/
theorem c_tail {id : Nat} {lo : List Oper} {a : Act} (m : Nat) (hm : P.follows .mixedOrders = true) (hB : Region.lexTailB .any lo.toArray m = true)
    (h : ∀ w', Md [] w w' → wpStill P lo.toArray w' (fun a' => wpList P lo.toArray Q (lo.drop m) a' w') (lo.take m) a) : (Code.region id lo.toArray true).wp P Q a w :=
  wp_region_still_tail m hm hB (h _ (Md.drew w))
variable {QS : Act → Prop}
theorem s_plain {o : Oper} {a : Act} (hg : o.guard = none) (h : o.still P a w (wpStill P ops w QS rest)) : wpStill P ops w QS (o :: rest) a := by
  unfold wpStill; rw [if_pos (by simp [Region.wanted, hg])]; exact h
theorem s (v : Value) (hr : RunV P ⟨some d, op, ty, ps, af, none⟩ (over A D l).eval w v) (k : wpStill P ops w QS rest (over A D ((d, v) :: l))) :
    wpStill P ops w QS (⟨some d, op, ty, ps, af, none⟩ :: rest) (over A D l) := s_plain rfl (by unfold RunV at hr; unfold Oper.still; rw [hr]; exact ⟨rfl, k⟩)
theorem s_skip {j t : Nat} {o : Oper} {b want : Bool} (ho : ops[j]? = some o) (ht : o.dst = some t) (hy : ev n l (.tmp t) = some (.bool b)) (hb : b = !want)
    (k : wpStill P ops w QS rest (over A D ((d, undef) :: l))) :
    wpStill P ops w QS (⟨some d, op, ty, ps, af, some (j, want)⟩ :: rest) (over A D l) := by
  unfold wpStill; rw [if_neg (by subst hb; simp [Region.wanted, yielded_of ho ht hy])]; exact k
theorem s_g {j t : Nat} {o : Oper} {b want : Bool} (v : Value) (ho : ops[j]? = some o) (ht : o.dst = some t) (hy : ev n l (.tmp t) = some (.bool b)) (hb : b = want)
    (hr : RunV P ⟨some d, op, ty, ps, af, some (j, want)⟩ (over A D l).eval w v) (k : wpStill P ops w QS rest (over A D ((d, v) :: l))) :
    wpStill P ops w QS (⟨some d, op, ty, ps, af, some (j, want)⟩ :: rest) (over A D l) := by
  unfold wpStill; rw [if_pos (by simp [Region.wanted, yielded_of ho ht hy, hb])]; unfold RunV at hr; unfold Oper.still; rw [hr]; exact ⟨rfl, k⟩
theorem s_nil {a : Act} (h : QS a) : wpStill P ops w QS [] a := h

/-! copy and append -/
def elT (P : Program) (e : TypeId) (sz by' : Nat) : Bool :=
  match P.info? e with
  | some i => match i.zero with
    | some z => Nat.beq i.size sz && Nat.beq i.bytes by' && Nat.beq z.cells.size sz
    | none => false
  | none => false
theorem elT_spec {e : TypeId} {sz by' : Nat} (h : elT P e sz by' = true) : ∃ i z, P.info? e = some i ∧ i.zero = some z ∧ i.size = sz ∧ i.bytes = by' ∧ z.cells.size = sz := by
  unfold elT at h
  split at h
  · rename_i i hi
    split at h
    · rename_i z hz
      simp only [Bool.and_eq_true] at h
      exact ⟨i, z, hi, hz, Nat.eq_of_beq_eq_true h.1.1, Nat.eq_of_beq_eq_true h.1.2, Nat.eq_of_beq_eq_true h.2⟩
    · cases h
  · cases h
/-- v is nil and xs empty, or v begins a row of elements of type e, of sz cells each, n in all, of the run's own. -/
def Own (w : World) (e : TypeId) (sz : Nat) (v : Value) (n : Nat) (xs : List Value) : Prop := w.ownsRow 0 e sz v n xs
theorem Own.nil (w : World) (e : TypeId) (sz : Nat) : Own w e sz (.slice none 0 0) 0 [] := World.ownsRow_nil w 0 e sz
theorem Own.md {S : List Nat} {w' : World} {e : TypeId} {sz m : Nat} {v : Value} {xs : List Value} (h : Own w e sz v m xs) (hm : Md S w w') (hs : ∀ b, vblock v = some b → b ∉ S) : Own w' e sz v m xs := by
  refine ⟨h.1, ?_⟩
  rcases h.2 with hn | ⟨g, cap, cur, rfl, hb, hgg, rest⟩
  · exact .inl hn
  · refine .inr ⟨g, cap, cur, rfl, hb, ?_, rest⟩
    rw [hm.block g (Array.getElem?_eq_some_iff.1 hgg).1 (hs g rfl)]
    exact hgg
theorem Own.md0 {w' : World} {e : TypeId} {sz m : Nat} {v : Value} {xs : List Value} (h : Own w e sz v m xs) (hm : Md [] w w') : Own w' e sz v m xs := h.md hm (by simp)
theorem Own.lt {e : TypeId} {sz m : Nat} {v : Value} {xs : List Value} (h : Own w e sz v m xs) : ∀ b, vblock v = some b → b < w.heap.size := fun b hb => (World.ownsRow.lt h b (by cases v <;> simp_all [vblock, Value.ownBlock]; rename_i a _ _; cases a <;> simp_all)).2
/-- An own row's block is none of another element type. -/
theorem Own.ne {e ty' : TypeId} {sz m b : Nat} {v : Value} {xs cs : List Value} (h : Own w e sz v m xs) (hB : Blk w b cs ty') (hne : Nat.beq e ty' = false) : ∀ b', vblock v = some b' → b' ≠ b := by
  rintro b' hb rfl
  rcases h.2 with ⟨rfl, _⟩ | ⟨g, cap, cur, rfl, _, hg, _⟩
  · simp [vblock] at hb
  · simp [vblock] at hb
    subst hb
    unfold Blk at hB
    rw [hg] at hB
    simp at hB
    rw [hB.2] at hne
    simp at hne
theorem run_append_ex {t ty' e : TypeId} {sz by' : Nat} (ht : P.underlying t = some (.slice e)) (hE : elT P e sz by' = true) (hsz : 0 < sz) {v : Value} {m : Nat} {xs : List Value} (hO : Own w e sz v m xs)
    {a : Option Addr} {k c : Nat} {news : List Value} (hl : news.length = k * sz) (ha : a = none → k = 0 ∧ c = 0) (hnews : ∀ p, a = some p → ∀ j u, news[j]? = some u → w.cell? (p.add j) = some u) (h1 : ∀ u ∈ news, u.oneCell' = true)
    (h63 : m + k ≤ maxLen) (hbytes : (m + k) * by' ≤ 140737488355328) :
    ∃ v' w', (Builtin.append_ #[t, t] ty' #[v, .slice a k c]).run P w = .ok v' w' ∧ Own w' e sz v' (m + k) (xs ++ news) ∧ Md (vblock v).toList w w' ∧ (v' = .slice none 0 0 ↔ v = .slice none 0 0 ∧ k = 0) ∧
      (∀ b, vblock v' = some b → vblock v = some b ∨ w.heap.size ≤ b) := by
  obtain ⟨i, z, hi, hz, hs, hb, hzs⟩ := elT_spec hE
  have hob : v.ownBlock = vblock v := by
    rcases hO.2 with ⟨rfl, _⟩ | ⟨g, cap, cur, rfl, _⟩ <;> rfl
  cases a with
  | none =>
    obtain ⟨rfl, rfl⟩ := ha rfl
    have : news = [] := List.eq_nil_of_length_eq_zero (by simpa using hl)
    subst this
    exact ⟨v, w, run_append_owned_none w 0 t ty' e i sz ht hi v m xs hO, by simpa using hO, Md.refl _ _, by simp, fun b hb => .inl hb⟩
  | some p =>
    obtain ⟨v', w', hr, h2, h3, h4⟩ := run_append_own (P := P) w 0 t ty' e i z sz by' ht hi hz hs hb hzs hsz v m xs hO p k c news hl (hnews p rfl) h1 h63 hbytes (Nat.zero_le _)
    refine ⟨v', w', hr, h2, by rw [← hob]; exact Md.grown h3, h4, ?_⟩
    intro b hb'
    subst hs; subst hb
    rcases hO.2 with ⟨rfl, rfl⟩ | ⟨g, cap, cur, rfl, hbg, hg, hnc, hcm, hcs, htake⟩
    · by_cases hk : k = 0
      · have := h4.2 ⟨rfl, hk⟩
        rw [this] at hb'; simp [vblock] at hb'
      · have hx : xs = [] := List.eq_nil_of_length_eq_zero (by simpa using hO.1)
        simp only [maxLen] at h63
        have h5 := run_append_nil (P := P) w t ty' e i z ht hi hz p k c news hl (hnews p rfl) (by omega) (by omega) (by have hb := hbytes; simp only [Nat.zero_add] at hb; omega)
        rw [hr] at h5
        simp only [Result.ok.injEq] at h5
        rw [h5.1] at hb'; simp [vblock] at hb'
        exact .inr (by omega)
    · by_cases hroom : m + k ≤ cap
      · have hfit : m * i.size + news.length ≤ cur.size := by rw [hl, hcs, ← Nat.add_mul]; exact Nat.mul_le_mul_right _ hroom
        have h5 := run_append_room (P := P) w t ty' e i ht hi g m cap cur hg p k c news hl (hnews p rfl) h1 hroom hfit
        rw [hr] at h5
        simp only [Result.ok.injEq] at h5
        rw [h5.1] at hb'; simp [vblock] at hb'
        exact .inl (by simp [vblock, hb'])
      · have holds : ∀ j u, xs[j]? = some u → w.cell? ((⟨g, 0, none⟩ : Addr).add j) = some u := World.ownsRow.cells hO (g := g) rfl
        simp only [maxLen] at h63
        have h5 := run_append_grow (P := P) w t ty' e i z ht hi hz ⟨g, 0, none⟩ m cap xs hO.1 holds p k c news hl (hnews p rfl) (by omega) (by omega) (growslice_fits (by omega) hbytes)
        rw [hr] at h5
        simp only [Result.ok.injEq] at h5
        rw [h5.1] at hb'; simp [vblock] at hb'
        exact .inr (by omega)
/-- append(x, y...), one-cell elements, x the run's own. -/
theorem st_append {x y : Operand} {t e : TypeId} {by' : Nat} {v u : Value} {xs ys : List Value} (ht : P.underlying t = some (.slice e)) (hE : elT P e 1 by' = true) (hx : ev n l x = some v) (hy : ev n l y = some u)
    (hO : Own w e 1 v xs.length xs) (hS : Sl w u ys) (h1 : ∀ u ∈ ys, u.oneCell' = true) (h63 : xs.length + ys.length ≤ maxLen) (hbytes : (xs.length + ys.length) * by' ≤ 140737488355328)
    (k : ∀ v' w', Own w' e 1 v' (xs ++ ys).length (xs ++ ys) → Md (vblock v).toList w w' → (v' = .slice none 0 0 ↔ v = .slice none 0 0 ∧ ys.length = 0) → (∀ b, vblock v' = some b → vblock v = some b ∨ w.heap.size ≤ b) →
      wpList P ops Q rest (over A D ((d, v') :: l)) w') :
    wpList P ops Q (⟨some d, .call { callee := .builtin .append, args := #[x, y], argTypes := #[t, t] }, ty, ps, af, none⟩ :: rest) (over A D l) w := by
  refine wl_plain rfl ?_
  obtain ⟨a, cap, rfl, h3, h4, h5, h6⟩ := hS
  obtain ⟨v', w', hr, h7, h8, h9, h10⟩ := run_append_ex (P := P) (w := w) (ty' := ty) ht hE (by omega) hO (a := a) (k := ys.length) (c := cap) (news := ys) (by simp) (fun h => ⟨by have := h5 h; omega, h5 h⟩) h6 h1 h63 hbytes
  have hrun : (execOp (over A D l).eval ⟨some d, .call { callee := .builtin .append, args := #[x, y], argTypes := #[t, t] }, ty, ps, af, none⟩).run P w = .ok (.value v') w' := by
    simp [execOp, resolve, invoke, builtin, ev_eval hx, ev_eval hy, hr]
  unfold Oper.wp
  rw [hrun]
  exact k v' w' (by simpa using h7) h8 h9 h10
/-- copy(x, y), one-cell elements, x in a block. -/
theorem st_copy {x y : Operand} {t t' e ty' : TypeId} {g o dLen dCap : Nat} {u : Value} {cs ys : List Value} (ht : P.underlying t = some (.slice e)) (hE : elemIs P e 1 = true) (hx : ev n l x = some (.slice (some ⟨g, o, none⟩) dLen dCap)) (hy : ev n l y = some u)
    (hB : Blk w g cs ty') (hS : Sl w u ys) (h1 : ∀ u ∈ ys, u.oneCell' = true) (hfit : o + min ys.length dLen ≤ cs.length)
    (k : ∀ w', Md [g] w w' → Blk w' g (splice cs o (ys.take dLen)) ty' → wpList P ops Q rest (over A D ((d, .int .i64 (min ys.length dLen : Nat)) :: l)) w') :
    wpList P ops Q (⟨some d, .call { callee := .builtin .copy, args := #[x, y], argTypes := #[t, t'] }, ty, ps, af, none⟩ :: rest) (over A D l) w := by
  refine wl_plain rfl ?_
  obtain ⟨a, cap, rfl, h3, h4, h5, h6⟩ := hS
  unfold elemIs at hE
  split at hE
  case h_2 => cases hE
  rename_i inf hinf
  have hsz : inf.size = 1 := by simpa using hE
  have hlen : (ys.take dLen).length = min ys.length dLen := by simp [Nat.min_comm]
  have hrun : (execOp (over A D l).eval ⟨some d, .call { callee := .builtin .copy, args := #[x, y], argTypes := #[t, t'] }, ty, ps, af, none⟩).run P w =
      .ok (.value (.int .i64 (min ys.length dLen : Nat))) (w.setRow g (splice cs o (ys.take dLen)).toArray) := by
    cases a with
    | none =>
      have hc := h5 rfl
      have hy0 : ys = [] := List.eq_nil_of_length_eq_zero (by omega)
      subst hy0
      have hsp : splice cs o [] = cs := by simp [splice]
      simp only [List.take_nil, hsp]
      have : w.setRow g cs.toArray = w := setRow_self w g _ ty' _ hB
      rw [this]
      simp [execOp, resolve, invoke, builtin, ev_eval hx, ev_eval hy, Builtin.copy_, run_underlying ht, Builtin.lenOf, Builtin.firstCells, run_sizeOf hinf, storeCells, goInt]
    | some p =>
      have hr := run_copy_row (P := P) w t t' ty e g o dLen dCap p ys.length cap cs.toArray ty' (ys.take dLen) ht (by simp [hinf, hsz]) hB hlen
        (fun j u hj => h6 p rfl j u (by rw [List.getElem?_take] at hj; split at hj; exact hj; cases hj)) (by rw [hlen]; simpa using hfit) (fun u hu => h1 u (List.mem_of_mem_take hu))
      simp [execOp, resolve, invoke, builtin, ev_eval hx, ev_eval hy, hr, splice, goInt, Nat.min_comm]
  unfold Oper.wp
  rw [hrun]
  exact k _ (Md.setRow w g _) hB.setRow
theorem fitI {x : Operand} {k : IntKind} {a b : Int} (h : ev n l x = some (.int k a)) (e : a = b) : ev n l x = some (.int k b) := by rw [h, e]
theorem fitB {x : Operand} {a b : Bool} (h : ev n l x = some (.bool a)) (e : a = b) : ev n l x = some (.bool b) := by rw [h, e]
theorem fitV {x : Operand} {a b : Value} (h : ev n l x = some a) (e : a = b) : ev n l x = some b := by rw [h, e]
theorem retI {k : IntKind} {a b : Int} (e : a = b) : Ending.returned (.int k a) = .returned (.int k b) := by rw [e]
theorem retB {a b : Bool} (e : a = b) : Ending.returned (.bool a) = .returned (.bool b) := by rw [e]
theorem retV {a b : Value} (e : a = b) : Ending.returned a = .returned b := by rw [e]
theorem By.len63 {v : Value} {l' : List UInt8} (h : By w v l') : l'.length ≤ 9223372036854775807 := by have := h.len_le; simp only [maxLen] at this; omega
theorem Sl.len63 {v : Value} {l' : List Value} (h : Sl w v l') : l'.length ≤ 9223372036854775807 := by have := h.len_le; simp only [maxLen] at this; omega
theorem Own.md1 {w' : World} {e ty' : TypeId} {sz m b : Nat} {v : Value} {xs cs : List Value} (h : Own w e sz v m xs) (hB : Blk w b cs ty') (hne : Nat.beq e ty' = false) (hm : Md [b] w w') : Own w' e sz v m xs :=
  h.md hm fun b' hb' => by simpa using h.ne hB hne b' hb'
theorem Blk.mdO {w' : World} {e ty' : TypeId} {sz m b : Nat} {v : Value} {xs cs : List Value} (hB : Blk w b cs ty') (h : Own w e sz v m xs) (hne : Nat.beq e ty' = false) (hm : Md (vblock v).toList w w') : Blk w' b cs ty' :=
  hB.md hm fun hb => by
    cases hv : vblock v with
    | none => rw [hv] at hb; simp at hb
    | some b' => rw [hv] at hb; simp at hb; exact h.ne hB hne b' hv hb.symm
theorem Md.stepO {w1 w' : World} {S : List Nat} {v : Value} (M : Md S w1 w) (hm : Md (vblock v).toList w w') (hv : ∀ b, vblock v = some b → b ∈ S ∨ w1.heap.size ≤ b) : Md S w1 w' :=
  M.step hm fun i hi => by
    cases h : vblock v with
    | none => rw [h] at hi; simp at hi
    | some b => rw [h] at hi; simp at hi; subst hi; exact hv i h
theorem one_b8 (l' : List UInt8) : ∀ u ∈ l'.map b8, u.oneCell' = true := by intro u hu; obtain ⟨x, _, rfl⟩ := List.mem_map.1 hu; rfl
theorem apart1 {α : Type} {b c : Nat} {o : Nat} {len cap : Nat} {l' : List α} (h : b ≠ c) : Apart (.slice (some ⟨b, o, none⟩) len cap) l' [c] := by intro b' hb _; simp [vblock] at hb; subst hb; simpa using h
theorem apartOld {v : Value} {l' : List UInt8} {b : Nat} (h : By w v l') (hb : w.heap.size ≤ b) : Apart v l' [b] := Apart.of_oldB h (by intro i hi; simp at hi; subst hi; exact hb)
/-- append(x, y...) over bytes, x the run's own. -/
theorem st_appendB {x y : Operand} {t e : TypeId} {v u : Value} {xs ys : List UInt8} (ht : P.underlying t = some (.slice e)) (hE : elT P e 1 1 = true) (hx : ev n l x = some v) (hy : ev n l y = some u)
    (hO : Own w e 1 v xs.length (xs.map b8)) (hS : By w u ys) (hbytes : xs.length + ys.length ≤ 140737488355328)
    (k : ∀ v' w', Own w' e 1 v' (xs ++ ys).length ((xs ++ ys).map b8) → Md (vblock v).toList w w' → (v' = .slice none 0 0 ↔ v = .slice none 0 0 ∧ ys.length = 0) → (∀ b, vblock v' = some b → vblock v = some b ∨ w.heap.size ≤ b) →
      wpList P ops Q rest (over A D ((d, v') :: l)) w') :
    wpList P ops Q (⟨some d, .call { callee := .builtin .append, args := #[x, y], argTypes := #[t, t] }, ty, ps, af, none⟩ :: rest) (over A D l) w :=
  st_append (xs := xs.map b8) (ys := ys.map b8) ht hE hx hy (by simpa using hO) hS (one_b8 _) (by simp [maxLen]; omega) (by simp; omega) fun v' w' h1 h2 h3 h4 => k v' w' (by simpa using h1) h2 (by simpa using h3) h4
theorem Own.cut0 {e : TypeId} {m : Nat} {v : Value} {xs : List Value} (h : Own w e 1 v m xs) : Own w e 1 (subv v 0 0) 0 [] := by
  rcases h.2 with ⟨rfl, rfl⟩ | ⟨g, cap, cur, rfl, hb, hg, hn, hc, hs, ht⟩
  · exact Own.nil w e 1
  · refine ⟨by simp, .inr ⟨g, cap, cur, ?_, hb, hg, Nat.zero_le _, hc, hs, by simp⟩⟩
    simp [subv, Addr.add]
theorem vblock_cut0 {v : Value} {b : Nat} (h : vblock (subv v 0 0) = some b) : vblock v = some b := vblock_sub h
/-! slices made here -/
theorem fill_all {place : Nat → Option (Nat × Nat)} {ps : List (Nat × Nat)} {vs cs : List Value} (hl : ps.length = vs.length) (hp : ∀ p ∈ ps, place p.1 = some (p.2, 1) ∧ p.2 < cs.length) (h1 : OneAll vs) :
    Instr.fill place cs.toArray ((ps.map (·.1)).zip vs) = some (setsAt cs (zipAt ps vs)).toArray := fill_one ps vs cs hl hp h1
def idAt : Nat → Nat → List (Nat × Nat)
  | _, 0 => []
  | i, k + 1 => (i, i) :: idAt (i + 1) k
theorem idAt_len (i k : Nat) : (idAt i k).length = k := by induction k generalizing i with | zero => rfl | succ k ih => simp [idAt, ih]
theorem mem_idAt {p : Nat × Nat} : ∀ {i k : Nat}, p ∈ idAt i k → p.1 = p.2 ∧ p.2 < i + k
  | _, 0, h => by cases h
  | i, k + 1, h => by
    rcases List.mem_cons.1 h with rfl | h
    · exact ⟨rfl, by simp⟩
    · have := mem_idAt h; omega
theorem sets_id : ∀ (vs : List Value) (pre cs : List Value), cs.length = vs.length → setsAt (pre ++ cs) (zipAt (idAt pre.length vs.length) vs) = pre ++ vs
  | [], pre, cs, h => by
    have : cs = [] := List.eq_nil_of_length_eq_zero (by simpa using h)
    subst this; rfl
  | v :: vs, pre, c :: cs, h => by
    simp only [List.length_cons, idAt, zipAt, setsAt]
    have e : (pre ++ c :: cs).set pre.length v = (pre ++ [v]) ++ cs := by simp
    rw [e]
    have := sets_id vs (pre ++ [v]) cs (by simpa using h)
    simp only [List.length_append, List.length_cons, List.length_nil, Nat.zero_add] at this
    rw [this]
    simp
  | _ :: _, _, [], h => by simp at h
/-- []T{x, y, ..}, one-cell elements, all given. -/
theorem st_buildSlice {t e : TypeId} {m by' : Nat} {parts : List (Nat × Operand)} {vs : List Value} (ht : P.underlying t = some (.slice e)) (hE : elT P e 1 by' = true) (hm : m ≤ 16777216) (hpp : parts.map (·.1) = (idAt 0 m).map (·.1)) (hev : evs n l (parts.map (·.2)) = some vs)
    (hlen : vs.length = m) (h1 : OneAll vs) (h0 : m ≠ 0)
    (k : ∀ b w', w.heap.size ≤ b → b < w'.heap.size → Md [] w w' → Blk w' b vs e → wpList P ops Q rest (over A D ((d, .slice (some ⟨b, 0, none⟩) m m) :: l)) w') :
    wpList P ops Q (⟨some d, .buildSlice t m parts.toArray, ty, ps, af, none⟩ :: rest) (over A D l) w := by
  refine wl_plain rfl ?_
  obtain ⟨i, z, hi, hz, hs, hb, hzs⟩ := elT_spec hE
  have he := evs_eval (A := A) (D := D) hev
  have hzip : parts.map (fun p => (p.1, (over A D l).eval p.2)) = ((idAt 0 m).map (·.1)).zip vs := by
    rw [← hpp, ← he, List.map_map, List.zip_map']
    rfl
  have hfill : ∀ cs : List Value, cs.length = m → Instr.fill (fun i => some (i * 1, 1)) cs.toArray (((idAt 0 m).map (·.1)).zip vs) = some vs.toArray := by
    intro cs hcs
    have := fill_all (place := fun i => some (i * 1, 1)) (ps := idAt 0 m) (vs := vs) (cs := cs) (by rw [idAt_len, hlen]) (fun p hp => by have := mem_idAt hp; simp only [Nat.mul_one]; exact ⟨by rw [this.1], by omega⟩) h1
    have h2 := sets_id vs [] cs (by omega)
    simp only [List.nil_append, List.length_nil] at h2
    rw [hlen] at h2
    rw [this, h2]
  have hrun : (execOp (over A D l).eval ⟨some d, .buildSlice t m parts.toArray, ty, ps, af, none⟩).run P w = .ok (.value (.slice (some ⟨w.heap.size, 0, none⟩) m m)) (w.alloc (.cells vs.toArray e)) := by
    have hz1 : ∃ zv, z.cells = #[zv] := by
      cases hzc : z.cells with
      | mk q => rw [hzc] at hzs; simp at hzs; match q, hzs with | [zv], _ => exact ⟨zv, rfl⟩
    obtain ⟨zv, hzv⟩ := hz1
    have hcells : (if m = 0 then (#[] : Array Value) else #[zv]).size ≤ 1 := by split <;> simp
    have hm2 : ¬ (16777216 < m) := by omega
    show Sem.run P (do pure (Next.value (← Instr.buildSlice t m ((parts.toArray).map fun x => (x.1, (over A D l).eval x.2))))) w = _
    rw [List.map_toArray, hzip]
    have hl2 : ((List.range m).map fun x => (#[zv] : Array Value)[x % 1]!).length = m := by simp
    have := hfill _ hl2
    simp only [Nat.mul_one] at this
    simp only [Instr.buildSlice, Sem.run_bind, run_underlying ht, Result.andThen_ok, run_sizeOf hi, hs, Nat.mul_one]
    simp [show ¬ (16777216 < m) by omega, h0, zeroValue, typeInfo, hi, hz, hzv, newRow]
    have e2 : Array.map (fun x => ([zv] : List Value)[x % 1]?.getD default) (Array.range m) = ((List.range m).map fun x => (#[zv] : Array Value)[x % 1]!).toArray := by
      apply Array.ext'
      simp
    rw [e2, this]
    simp
  unfold Oper.wp
  rw [hrun]
  exact k _ _ (Nat.le_refl _) (by simp) (Md.alloc w _) (Blk.new w vs e)
theorem made_zeros (k : Nat) : (madeCells (Value.int .u8 0).cells (k * 1)).toList = (List.replicate k (0 : UInt8)).map b8 := by
  apply List.ext_getElem
  · simp [madeCells]
  · intro j h1 h2
    simp [madeCells, Value.cells, b8]
    rw [show j % 1 = 0 from Nat.mod_one j]
    rfl
/-- make([]byte, m) -/
theorem st_makeB {x : Operand} {t e : TypeId} {kd : IntKind} {m : Nat} (ht : P.underlying t = some (.slice e)) (hE : elT P e 1 1 = true) (hz : zcells P e = some [.int .u8 0]) (hx : ev n l x = some (.int kd (m : Int))) (hm : m ≤ 140737488355328)
    (k : ∀ b w', w.heap.size ≤ b → b < w'.heap.size → Md [] w w' → Own w' e 1 (.slice (some ⟨b, 0, none⟩) m m) (List.replicate m (0 : UInt8)).length ((List.replicate m (0 : UInt8)).map b8) →
      wpList P ops Q rest (over A D ((d, .slice (some ⟨b, 0, none⟩) m m) :: l)) w') :
    wpList P ops Q (⟨some d, .makeSlice t x x, ty, ps, af, none⟩ :: rest) (over A D l) w := by
  refine wl_plain rfl ?_
  obtain ⟨i, z, hi, hzz, hs, hb, hzs⟩ := elT_spec hE
  have hzv : z.cells = (Value.int .u8 0).cells := by
    unfold zcells at hz
    simp only [hi, hzz, Option.some.injEq] at hz
    apply Array.ext'
    rw [hz]; rfl
  obtain ⟨w', hr, ho, hg⟩ := run_make_full (P := P) w 0 t e i z 1 ht hi hzz hs kd kd m (by rw [hb]; omega) (by simp [maxLen]; omega) (Nat.zero_le _)
  have hrun : (execOp (over A D l).eval ⟨some d, .makeSlice t x x, ty, ps, af, none⟩).run P w = .ok (.value (.slice (some ⟨w.heap.size, 0, none⟩) m m)) w' := by
    simp [execOp, ev_eval hx, hr]
  unfold Oper.wp
  rw [hrun]
  have hown : Own w' e 1 (.slice (some ⟨w.heap.size, 0, none⟩) m m) (List.replicate m (0 : UInt8)).length ((List.replicate m (0 : UInt8)).map b8) := by
    rw [hzv, made_zeros] at ho
    simpa [Own] using ho
  refine k _ _ (Nat.le_refl _) ?_ ⟨hg.os, hg.tape, hg.output, hg.size, fun k hk _ => hg.block k hk (by simp)⟩ hown
  exact Own.lt hown _ rfl
theorem r_eqlPN {x : Operand} {t u e : TypeId} {p : Addr} {g : Option (Nat × Bool)} (hx : ev n l x = some (.pointer (some p))) (hT : P.underlying t = some (.pointer e)) :
    RunV P ⟨some d, .binOp .eql t x (.const (.pointer none)) u, ty, ps, af, g⟩ (over A D l).eval w (.bool false) := by
  have hp : P.underlying t = some (.pointer (P.pointee t)) := by
    rw [hT]; simp [Program.pointee, hT]
  have h := run_eql_pointer_nil (P := P) w t (some p) hp
  have hc : (over A D l).eval (.const (.pointer none)) = .pointer none := rfl
  have hg : (eqGuard .eql t x (.const (.pointer none)) (.pointer (some p)) (.pointer none)).run P w = .ok () w := by unfold eqGuard; simp
  simp [RunV, execOp, ev_eval hx, hc, hg, h]
end
end Go.Wk
