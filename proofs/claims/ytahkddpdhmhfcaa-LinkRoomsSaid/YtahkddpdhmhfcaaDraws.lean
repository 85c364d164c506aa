/- Regions that draw their order: quiet operations at any time, the others in one forced order. No statement is proved here. -/
import Derived.Test.YtahkddpdhmhfcaaSteps
namespace Go.Wk
open Go Go.RowKit

section
variable {P : Program} {ops : Array Oper} {md : Region.Mode} {C : World → Prop} {Q : Exit → Act → World → Prop}

def QF : Exit → Act → World → Prop := fun _ _ _ => False

def opC (P : Program) (ops : Array Oper) (C : World → Prop) (i : Nat) (K : Act → World → Prop) (a : Act) (w : World) : Prop :=
  match ops[i]? with
  | none => K a w
  | some o => if Region.wanted o (yielded ops a.tmps) then o.wp P a w (fun a' w' => C w' ∧ K a' w') QF else K (a.put o.dst undef) w

def wpAnyC (P : Program) (md : Region.Mode) (ops : Array Oper) (C : World → Prop) (Q : Act → World → Prop) : Nat → Array Bool → Act → World → Prop
  | 0, listed, a, w => Region.ready md ops listed = [] ∧ Q a w
  | f + 1, listed, a, w => (Region.ready md ops listed = [] → Q a w) ∧ ∀ i ∈ Region.ready md ops listed, opC P ops C i (wpAnyC P md ops C Q f (listed.setIfInBounds i true)) a w

theorem wp_out {o : Oper} {a : Act} {w : World} {K K' : Act → World → Prop} (h : ∀ a w, K a w → K' a w) (hh : o.wp P a w K QF) : o.wp P a w K' Q := by
  unfold Oper.wp at *
  generalize (execOp a.eval o).run P w = r at *
  cases r with
  | ok x w' =>
    cases x <;> simp only [Oper.upon] at hh ⊢
    case value v => exact h _ _ hh
    case skip => exact h _ _ hh
    case defer d => exact h _ _ hh
    case enter f args =>
      refine hh.mono fun e w'' hx => ?_
      cases e with
      | returned v => exact h _ _ hx
      | panicked c => exact hx.elim
      | outgrown => obtain ⟨_, _, hx⟩ := hx; exact hx.elim
    case row r args => exact hh.mono fun v w'' hx => h _ _ hx
  | halt x w' =>
    cases x <;> simp only [Oper.upon] at hh ⊢
    exact hh.elim

theorem wp_mono_K {o : Oper} {a : Act} {w : World} {K K' : Act → World → Prop} (h : ∀ a w, K a w → K' a w) (hh : o.wp P a w K QF) : o.wp P a w K' QF := wp_out (Q := QF) h hh

theorem wpAny_of_C {QN : Act → World → Prop} (hQ : ∀ a w, QN a w → Q .normal a w) : ∀ (f : Nat) (listed : Array Bool) (a : Act) (w : World), wpAnyC P md ops C QN f listed a w → wpAny P md ops Q f listed a w
  | 0, _, _, _, h => ⟨h.1, hQ _ _ h.2⟩
  | f + 1, listed, a, w, h => ⟨fun h0 => hQ _ _ (h.1 h0), fun i hi => by
      have h1 := h.2 i hi
      unfold opC at h1
      unfold wpOp
      split
      · rename_i ho; rw [ho] at h1; exact wpAny_of_C hQ f _ a w h1
      · rename_i o ho
        rw [ho] at h1
        simp only at h1
        split
        · rename_i hw; rw [if_pos hw] at h1; exact .inl (wp_out (fun a' w' hx => wpAny_of_C hQ f _ a' w' hx.2) h1)
        · rename_i hw; rw [if_neg hw] at h1; exact wpAny_of_C hQ f _ _ w h1⟩

/-- A quiet operation: one value in every world of C, the world left as it is; or it is passed over. -/
def Qv (P : Program) (ops : Array Oper) (C : World → Prop) (o : Oper) (v : Value) (a : Act) : Prop :=
  (Region.wanted o (yielded ops a.tmps) = true ∧ ∀ w, C w → (execOp a.eval o).run P w = .ok (.value v) w) ∨ (Region.wanted o (yielded ops a.tmps) = false ∧ v = undef)

theorem Qv.opC {i : Nat} {o : Oper} {v : Value} {a : Act} {w : World} {K : Act → World → Prop} (hi : ops[i]? = some o) (hC : C w) (hy : Qv P ops C o v a) (h : K (a.put o.dst v) w) : Wk.opC P ops C i K a w := by
  unfold Wk.opC
  simp only [hi]
  rcases hy with ⟨hw, hv⟩ | ⟨hw, rfl⟩
  · rw [if_pos hw]; unfold Oper.wp; rw [hv w hC]; exact ⟨hC, h⟩
  · rw [if_neg (by rw [hw]; simp)]; exact h

theorem Qv.keep {oi : Oper} {v : Value} {a : Act} {d : Option Tmp} {u : Value} (hs : ∀ cs b, oi.op ≠ .select cs b) (h : ∀ d', d = some d' → d' ∉ oi.looksAt ops) (hy : Qv P ops C oi v a) : Qv P ops C oi v (a.put d u) := by
  unfold Qv at *
  rw [execOp_put oi hs a d u h, wanted_put oi a d u h]
  exact hy

theorem opC_put {j : Nat} {oi oj : Oper} {v : Value} {a : Act} {w : World} {K K' : Act → World → Prop} (hj : ops[j]? = some oj) (hap : oi.apart ops oj = true) (hsj : ∀ cs b, oj.op ≠ .select cs b)
    (hK : ∀ (b : Act) u w', b.tmps = a.tmps → C w' → K ((b.put oj.dst u).put oi.dst v) w' → K' (b.put oj.dst u) w') (hw : C w)
    (h : opC P ops C j K (a.put oi.dst v) w) : opC P ops C j K' a w := by
  obtain ⟨h1, h2, h3⟩ := Oper.apart_spec hap
  unfold opC at *
  simp only [hj] at *
  rw [wanted_put oj a oi.dst v h1] at h
  split
  · rename_i hwt
    rw [if_pos hwt] at h
    unfold Oper.wp at *
    rw [execOp_put oj hsj a oi.dst v h1] at h
    generalize hr : (execOp a.eval oj).run P w = r at *
    cases r with
    | ok x w' =>
      cases x <;> simp only [Oper.upon] at h ⊢
      case value u => exact ⟨h.1, hK a u w' rfl h.1 (by rw [← Act.put_comm a v u h2]; exact h.2)⟩
      case skip => exact ⟨h.1, hK a undef w' rfl h.1 (by rw [← Act.put_comm a v undef h2]; exact h.2)⟩
      case defer d =>
        have e : ({ a.put oi.dst v with defers := d :: (a.put oi.dst v).defers } : Act) = ({ a with defers := d :: a.defers } : Act).put oi.dst v := by cases oi.dst <;> rfl
        refine ⟨h.1, hK { a with defers := d :: a.defers } undef w' rfl h.1 ?_⟩
        rw [← Act.put_comm _ v undef h2, ← e]
        exact h.2
      case enter f args =>
        refine h.mono fun e w'' hx => ?_
        cases e with
        | returned u => exact ⟨hx.1, hK a u w'' rfl hx.1 (by rw [← Act.put_comm a v u h2]; exact hx.2)⟩
        | panicked c => exact hx
        | outgrown => exact hx
      case row r args => exact h.mono fun u w'' hx => ⟨hx.1, hK a u w'' rfl hx.1 (by rw [← Act.put_comm a v u h2]; exact hx.2)⟩
    | halt x w' =>
      cases x <;> simp only [Oper.upon] at h ⊢
      exact h
  · rename_i hwt
    rw [if_neg hwt] at h
    exact hK a undef w rfl hw (by rw [← Act.put_comm a v undef h2]; exact h)

theorem Qv.same {oi : Oper} {v : Value} {a b : Act} (ht : b.tmps = a.tmps) (hy : Qv P ops C oi v a) : Qv P ops C oi v b := by
  have he : b.eval = a.eval := by funext x; cases x <;> simp [Act.eval, ht]
  unfold Qv at *
  rw [he, ht]
  exact hy

/-- A quiet operation that may come up now may be taken first. -/
theorem wpAnyC_first {QN : Act → World → Prop} {i : Nat} {oi : Oper} {v : Value} (hi : ops[i]? = some oi) (hsel : ∀ (j : Nat) (o : Oper) cs b, ops[j]? = some o → o.op ≠ .select cs b) :
    ∀ (f : Nat) (listed : Array Bool) (a : Act) (w : World),
      (∀ j oj, ops[j]? = some oj → j ≠ i → listed.getD j true = false → (∀ e ∈ oj.after, Region.binds md e = true → e.on ≠ i) → oi.apart ops oj = true) →
      i ∈ Region.ready md ops listed → C w → Qv P ops C oi v a →
      wpAnyC P md ops C QN f (listed.setIfInBounds i true) (a.put oi.dst v) w → wpAnyC P md ops C QN (f + 1) listed a w := by
  intro f
  induction f with
  | zero =>
    intro listed a w _ hr hC hy H
    refine ⟨fun h => (by rw [h] at hr; cases hr), fun j hj => ?_⟩
    by_cases hji : j = i
    · subst hji; exact hy.opC hi hC H
    · have := ready_mono hj hji
      rw [H.1] at this
      cases this
  | succ f ih =>
    intro listed a w hfree hr hC hy H
    refine ⟨fun h => (by rw [h] at hr; cases hr), fun j hj => ?_⟩
    by_cases hji : j = i
    · subst hji; exact hy.opC hi hC H
    · have h1 := H.2 j (ready_mono hj hji)
      obtain ⟨hjun, oj, hoj, hall⟩ := mem_ready.1 hj
      have hnot : ∀ e ∈ oj.after, Region.binds md e = true → e.on ≠ i := fun e he hb heq => by
        have h2 := hall e he hb
        have h0 := (mem_ready.1 hr).1
        rw [heq] at h2
        rcases Nat.lt_or_ge i listed.size with h' | h'
        · simp [h'] at h0 h2; rw [h0] at h2; cases h2
        · simp [Array.getElem?_eq_none h'] at h2
      have hap := hfree j oj hoj hji hjun hnot
      obtain ⟨_, _, h3⟩ := Oper.apart_spec hap
      have hfree' : ∀ k ok, ops[k]? = some ok → k ≠ i → (listed.setIfInBounds j true).getD k true = false →
          (∀ e ∈ ok.after, Region.binds md e = true → e.on ≠ i) → oi.apart ops ok = true := fun k ok hk hki hun hno => by
        refine hfree k ok hk hki ?_ hno
        by_cases hjk : j = k
        · subst hjk; exact hjun
        · rw [getD_set_ne true hjk] at hun; exact hun
      refine opC_put hoj hap (fun cs b => hsel j oj cs b hoj) (fun b u w' hb hC' h4 => ?_) hC h1
      refine ih (listed.setIfInBounds j true) _ w' hfree' (ready_mono hr (Ne.symm hji)) hC' ((hy.same hb).keep (fun cs b => hsel i oi cs b hi) h3) ?_
      rw [Array.setIfInBounds_comm _ _ hji]
      exact h4

/-! the walk in a chosen order: (true, o): quiet; (false, o): in its turn -/
def ordOps (l : List Oper) : List (Nat × Bool) → List (Bool × Oper)
  | [] => []
  | (i, q) :: r => match l[i]? with
    | some o => (q, o) :: ordOps l r
    | none => ordOps l r
/-- C: the worlds that a quiet operation may meet; behind an operation in its turn it may be taken narrower. -/
def wpMix (P : Program) (ops : Array Oper) (C : World → Prop) (QN : Act → World → Prop) : List (Bool × Oper) → Act → World → Prop
  | [], a, w => QN a w
  | (true, o) :: r, a, w => if Region.wanted o (yielded ops a.tmps) then ∃ v, (∀ w', C w' → (execOp a.eval o).run P w' = .ok (.value v) w') ∧ wpMix P ops C QN r (a.put o.dst v) w else wpMix P ops C QN r (a.put o.dst undef) w
  | (false, o) :: r, a, w => if Region.wanted o (yielded ops a.tmps) then o.wp P a w (fun a' w' => C w' ∧ ∃ C' : World → Prop, C' w' ∧ (∀ x, C' x → C x) ∧ wpMix P ops C' QN r a' w') QF else wpMix P ops C QN r (a.put o.dst undef) w
theorem wpAnyC_mono {C' : World → Prop} {QN : Act → World → Prop} (hC : ∀ x, C' x → C x) : ∀ (f : Nat) (listed : Array Bool) (a : Act) (w : World), wpAnyC P md ops C' QN f listed a w → wpAnyC P md ops C QN f listed a w
  | 0, _, _, _, h => h
  | f + 1, listed, a, w, h => ⟨h.1, fun i hi => by
      have h1 := h.2 i hi
      unfold opC at *
      split
      · rename_i ho; rw [ho] at h1; exact wpAnyC_mono hC f _ a w h1
      · rename_i o ho
        rw [ho] at h1
        simp only at h1
        split
        · rename_i hw; rw [if_pos hw] at h1; exact wp_mono_K (fun a' w' hx => ⟨hC _ hx.1, wpAnyC_mono hC f _ a' w' hx.2⟩) h1
        · rename_i hw; rw [if_neg hw] at h1; exact wpAnyC_mono hC f _ _ w h1⟩
def mixB (md : Region.Mode) (ops : Array Oper) : List (Nat × Bool) → Array Bool → Bool
  | [], listed => (Region.ready md ops listed).isEmpty
  | (i, q) :: r, listed => (ops[i]?).isSome && (if q then (Region.ready md ops listed).contains i && Region.free md ops listed i else decide (Region.ready md ops listed = [i])) && mixB md ops r (listed.setIfInBounds i true)

theorem wpAnyC_of_mix {QN : Act → World → Prop} (hs : Region.noSelect ops = true) : ∀ {C : World → Prop} (ord : List (Nat × Bool)) (listed : Array Bool) (a : Act) (w : World), C w → mixB md ops ord listed = true →
    wpMix P ops C QN (ordOps ops.toList ord) a w → wpAnyC P md ops C QN ord.length listed a w
  | _, [], listed, a, w, _, hB, h => ⟨by simpa [mixB] using hB, h⟩
  | _, (i, q) :: r, listed, a, w, hC, hB, h => by
    simp only [mixB, Bool.and_eq_true] at hB
    obtain ⟨⟨h0, h1⟩, h2⟩ := hB
    obtain ⟨o, ho⟩ := Option.isSome_iff_exists.1 h0
    have hol : ops.toList[i]? = some o := by simpa using ho
    simp only [ordOps, hol] at h
    cases q with
    | true =>
      simp only [if_true, Bool.and_eq_true] at h1
      simp only [wpMix] at h
      have hr : i ∈ Region.ready md ops listed := by simpa using h1.1
      split at h
      · rename_i hw
        obtain ⟨v, hv, hk⟩ := h
        exact wpAnyC_first ho (Region.noSelect_spec hs) r.length listed a w (Region.free_spec ho h1.2) hr hC (.inl ⟨hw, hv⟩) (wpAnyC_of_mix hs r _ _ _ hC h2 hk)
      · rename_i hw
        exact wpAnyC_first ho (Region.noSelect_spec hs) r.length listed a w (Region.free_spec ho h1.2) hr hC (.inr ⟨by simpa using hw, rfl⟩) (wpAnyC_of_mix hs r _ _ _ hC h2 h)
    | false =>
      simp only [Bool.false_eq_true, if_false, decide_eq_true_eq] at h1
      simp only [wpMix] at h
      refine ⟨fun h3 => (by rw [h1] at h3; cases h3), fun j hj => ?_⟩
      rw [h1] at hj
      have hji : j = i := by simpa using hj
      subst hji
      unfold opC
      simp only [ho]
      split at h
      · rename_i hw
        rw [if_pos hw]
        exact wp_mono_K (fun a' w' hx => ⟨hx.1, by obtain ⟨C', h5, h6, h7⟩ := hx.2; exact wpAnyC_mono h6 _ _ _ _ (wpAnyC_of_mix hs r _ _ _ h5 h2 h7)⟩) h
      · rename_i hw
        rw [if_neg hw]
        exact wpAnyC_of_mix hs r _ _ _ hC h2 h

def mixOk (md : Region.Mode) (ops : Array Oper) (ord : List (Nat × Bool)) : Bool := Region.noSelect ops && decide (ord.length = ops.size) && mixB md ops ord (Array.replicate ops.size false)
theorem c_mix {id : Nat} {lo : List Oper} {a : Act} {w : World} (ord : List (Nat × Bool)) (C : World → Prop) (hm : P.follows .mixedOrders = true) (hB : mixOk .any lo.toArray ord = true)
    (h : ∀ w', Md [] w w' → C w' ∧ wpMix P lo.toArray C (fun a w => Q .normal a w) (ordOps lo ord) a w') : (Code.region id lo.toArray true).wp P Q a w := by
  simp only [mixOk, Bool.and_eq_true, decide_eq_true_eq] at hB
  obtain ⟨⟨h1, h2⟩, h3⟩ := hB
  obtain ⟨hC, hk⟩ := h _ (Md.drew w)
  refine wp_region_any hm (wpAny_of_C (C := C) (QN := fun a w => Q .normal a w) (fun _ _ hx => hx) _ _ _ _ ?_)
  have := wpAnyC_of_mix (md := .any) (C := C) (QN := fun a w => Q .normal a w) h1 ord _ a _ hC h3 hk
  rwa [h2] at this

variable {n : Nat} {A : Fr n} {D : List Deferred} {l : List (Nat × Value)} {w : World} {QN : Act → World → Prop} {rest : List (Bool × Oper)}
variable {d : Tmp} {op : Op} {ty : TypeId} {ps : String} {af : Array Edge}
theorem m (v : Value) (hr : ∀ w', C w' → RunV P ⟨some d, op, ty, ps, af, none⟩ (over A D l).eval w' v) (k : wpMix P ops C QN rest (over A D ((d, v) :: l)) w) :
    wpMix P ops C QN ((true, ⟨some d, op, ty, ps, af, none⟩) :: rest) (over A D l) w := by
  unfold wpMix; rw [if_pos (by simp [Region.wanted])]; exact ⟨v, hr, k⟩
theorem m_g {j t : Nat} {o : Oper} {b want : Bool} (v : Value) (ho : ops[j]? = some o) (ht : o.dst = some t) (hy : ev n l (.tmp t) = some (.bool b)) (hb : b = want)
    (hr : ∀ w', C w' → RunV P ⟨some d, op, ty, ps, af, some (j, want)⟩ (over A D l).eval w' v) (k : wpMix P ops C QN rest (over A D ((d, v) :: l)) w) :
    wpMix P ops C QN ((true, ⟨some d, op, ty, ps, af, some (j, want)⟩) :: rest) (over A D l) w := by
  unfold wpMix; rw [if_pos (by simp [Region.wanted, yielded_of ho ht hy, hb])]; exact ⟨v, hr, k⟩
theorem m_skip {q : Bool} {j t : Nat} {o : Oper} {b want : Bool} (ho : ops[j]? = some o) (ht : o.dst = some t) (hy : ev n l (.tmp t) = some (.bool b)) (hb : b = !want)
    (k : wpMix P ops C QN rest (over A D ((d, undef) :: l)) w) :
    wpMix P ops C QN ((q, ⟨some d, op, ty, ps, af, some (j, want)⟩) :: rest) (over A D l) w := by
  cases q <;> unfold wpMix <;> rw [if_neg (by subst hb; simp [Region.wanted, yielded_of ho ht hy])] <;> exact k
theorem part_m {t : Nat} {b : Bool} {ol : List (Bool × Oper)} (_ : ev n l (.tmp t) = some (.bool b)) (h1 : b = true → wpMix P ops C QN ol (over A D l) w) (h0 : b = false → wpMix P ops C QN ol (over A D l) w) : wpMix P ops C QN ol (over A D l) w := by cases b <;> simp_all
theorem m_nil {a : Act} (h : QN a w) : wpMix P ops C QN [] a w := h
/-- An operation in its turn: by its step over a list of it alone. -/
theorem m_c {o : Oper} {a : Act} (h : wpList P ops (fun e a' w' => e = .normal ∧ C w' ∧ ∃ C' : World → Prop, C' w' ∧ (∀ x, C' x → C x) ∧ wpMix P ops C' QN rest a' w') [o] a w) (hw : Region.wanted o (yielded ops a.tmps) = true) : wpMix P ops C QN ((false, o) :: rest) a w := by
  unfold wpMix; rw [if_pos hw]
  unfold wpList at h
  rw [if_pos hw] at h
  rcases h with h | h
  · unfold Oper.wp at *
    generalize (execOp a.eval o).run P w = r at *
    cases r with
    | ok x w' =>
      cases x <;> simp only [Oper.upon] at h ⊢
      case value v => exact (show _ ∧ _ from h).2
      case skip => exact (show _ ∧ _ from h).2
      case defer d => exact (show _ ∧ _ from h).2
      case enter f args =>
        refine h.mono fun e w'' hx => ?_
        cases e with
        | returned v => exact (show _ ∧ _ from hx).2
        | panicked c => exact absurd hx.1 (by simp)
        | outgrown => obtain ⟨_, _, hx⟩ := hx; exact absurd hx.1 (by simp)
      case row r args => exact h.mono fun v w'' hx => (show _ ∧ _ from hx).2
    | halt x w' =>
      cases x <;> simp only [Oper.upon] at h ⊢
      exact absurd h.1 (by simp)
  · obtain ⟨_, _, _, hx⟩ := h; exact absurd hx.1 (by simp)
theorem keepC {Q1 Q2 : Exit → Act → World → Prop} (hq : ∀ e a w, Q1 e a w → Q2 e a w) {a : Act} {o : Oper} (h : wpList P ops Q1 [o] a w) : wpList P ops Q2 [o] a w := by
  unfold wpList at *
  split
  · rename_i hw
    rw [if_pos hw] at h
    rcases h with h | h
    · refine .inl ?_
      unfold Oper.wp at *
      generalize (execOp a.eval o).run P w = r at *
      cases r with
      | ok x w' =>
        cases x <;> simp only [Oper.upon] at h ⊢
        case value v => exact hq _ _ _ h
        case skip => exact hq _ _ _ h
        case defer d => exact hq _ _ _ h
        case enter f args =>
          refine h.mono fun e w'' hx => ?_
          cases e with
          | returned v => exact hq _ _ _ hx
          | panicked c => exact hq _ _ _ hx
          | outgrown => obtain ⟨x1, x2, hx⟩ := hx; exact ⟨x1, x2, hq _ _ _ hx⟩
        case row r args => exact h.mono fun v w'' hx => hq _ _ _ hx
      | halt x w' =>
        cases x <;> simp only [Oper.upon] at h ⊢
        exact hq _ _ _ h
    · obtain ⟨x1, x2, x3, hx⟩ := h; exact .inr ⟨x1, x2, x3, hq _ _ _ hx⟩
  · rename_i hw
    rw [if_neg hw] at h
    exact hq _ _ _ h
theorem m_e {o : Oper} {a : Act} (h : wpList P ops (fun e a' w' => e = .normal ∧ C w' ∧ wpMix P ops C QN rest a' w') [o] a w) (hw : Region.wanted o (yielded ops a.tmps) = true) : wpMix P ops C QN ((false, o) :: rest) a w :=
  m_c (keepC (fun _ _ _ hx => ⟨hx.1, hx.2.1, C, hx.2.1, fun _ h => h, hx.2.2⟩) h) hw
theorem m_c_g {j t : Nat} {o o' : Oper} {b want : Bool} (ho : ops[j]? = some o') (ht : o'.dst = some t) (hy : ev n l (.tmp t) = some (.bool b)) (hb : b = want) (hg : o.guard = some (j, want))
    (h : wpList P ops (fun e a' w' => e = .normal ∧ C w' ∧ ∃ C' : World → Prop, C' w' ∧ (∀ x, C' x → C x) ∧ wpMix P ops C' QN rest a' w') [o] (over A D l) w) : wpMix P ops C QN ((false, o) :: rest) (over A D l) w :=
  m_c h (by simp [Region.wanted, hg, yielded_of ho ht hy, hb])
theorem m_e_g {j t : Nat} {o o' : Oper} {b want : Bool} (ho : ops[j]? = some o') (ht : o'.dst = some t) (hy : ev n l (.tmp t) = some (.bool b)) (hb : b = want) (hg : o.guard = some (j, want))
    (h : wpList P ops (fun e a' w' => e = .normal ∧ C w' ∧ wpMix P ops C QN rest a' w') [o] (over A D l) w) : wpMix P ops C QN ((false, o) :: rest) (over A D l) w :=
  m_e h (by simp [Region.wanted, hg, yielded_of ho ht hy, hb])
theorem wanted_none {dd : Option Tmp} {Y : Nat → Option Bool} : Region.wanted ⟨dd, op, ty, ps, af, none⟩ Y = true := rfl
end
end Go.Wk
