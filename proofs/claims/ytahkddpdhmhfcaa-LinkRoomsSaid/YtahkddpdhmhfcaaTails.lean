/- Regions that draw their order, with an end that comes behind all else. No statement is proved here. -/
import Derived.Test.YtahkddpdhmhfcaaDraws
namespace Go.Wk
open Go Go.RowKit

section
variable {P : Program} {ops : Array Oper} {md : Region.Mode} {C : World → Prop} {Q : Exit → Act → World → Prop} {E : Array Bool → Act → World → Prop}

def wpAnyT (P : Program) (md : Region.Mode) (ops : Array Oper) (C : World → Prop) (E : Array Bool → Act → World → Prop) : Nat → Array Bool → Act → World → Prop
  | 0, listed, a, w => E listed a w
  | f + 1, listed, a, w => Region.ready md ops listed ≠ [] ∧ ∀ i ∈ Region.ready md ops listed, opC P ops C i (wpAnyT P md ops C E f (listed.setIfInBounds i true)) a w

theorem wpAny_of_T {t : Nat} (hE : ∀ listed a w, E listed a w → wpAny P md ops Q t listed a w) : ∀ (f : Nat) (listed : Array Bool) (a : Act) (w : World), wpAnyT P md ops C E f listed a w → wpAny P md ops Q (f + t) listed a w
  | 0, listed, a, w, h => by rw [Nat.zero_add]; exact hE _ _ _ h
  | f + 1, listed, a, w, h => by
    rw [show f + 1 + t = (f + t) + 1 by omega]
    refine ⟨fun h0 => absurd h0 h.1, fun i hi => ?_⟩
    have h1 := h.2 i hi
    unfold opC at h1
    unfold wpOp
    split
    · rename_i ho; rw [ho] at h1; exact wpAny_of_T hE f _ a w h1
    · rename_i o ho
      rw [ho] at h1
      simp only at h1
      split
      · rename_i hw; rw [if_pos hw] at h1; exact .inl (wp_out (fun a' w' hx => wpAny_of_T hE f _ a' w' hx.2) h1)
      · rename_i hw; rw [if_neg hw] at h1; exact wpAny_of_T hE f _ _ w h1

def Closed (md : Region.Mode) (ops : Array Oper) (listed : Array Bool) : Prop := ∀ k ok, ops[k]? = some ok → listed.getD k false = true → ∀ e ∈ ok.after, Region.binds md e = true → listed.getD e.on false = true
theorem Closed.set {listed : Array Bool} {i : Nat} (h : Closed md ops listed) (hi : i ∈ Region.ready md ops listed) : Closed md ops (listed.setIfInBounds i true) := by
  intro k ok hk hl e he hb
  have key : listed.getD e.on false = true → (listed.setIfInBounds i true).getD e.on false = true := fun h1 => by
    by_cases hei : e.on = i
    · rw [hei] at h1 ⊢
      rcases Nat.lt_or_ge i listed.size with h' | h'
      · simp [h']
      · simp [Array.getElem?_eq_none h'] at h1
    · rw [getD_set_ne false (Ne.symm hei)]; exact h1
  by_cases hki : k = i
  · subst hki
    obtain ⟨_, o, ho, hall⟩ := mem_ready.1 hi
    rw [hk] at ho
    cases ho
    exact key (hall e he hb)
  · rw [getD_set_ne false (Ne.symm hki)] at hl
    exact key (h k ok hk hl e he hb)
def reachB (md : Region.Mode) (ops : Array Oper) (i : Nat) : Nat → Nat → Bool
  | 0, _ => false
  | f + 1, j => match ops[j]? with
    | some o => o.after.any fun e => Region.binds md e && (Nat.beq e.on i || reachB md ops i f e.on)
    | none => false
theorem reach_spec {i : Nat} {listed : Array Bool} (hC : Closed md ops listed) : ∀ (f j : Nat) (oj : Oper), ops[j]? = some oj → reachB md ops i f j = true → (∀ e ∈ oj.after, Region.binds md e = true → listed.getD e.on false = true) → listed.getD i false = true
  | 0, j, oj, _, h, _ => by simp [reachB] at h
  | f + 1, j, oj, hj, h, hall => by
    simp only [reachB, hj, Array.any_eq_true, Bool.and_eq_true, Bool.or_eq_true] at h
    obtain ⟨k, hk, hb, h2⟩ := h
    have hm : oj.after[k] ∈ oj.after := Array.getElem_mem hk
    have h3 := hall _ hm hb
    rcases h2 with h2 | h2
    · rw [← Nat.eq_of_beq_eq_true h2]; exact h3
    · cases ho : ops[oj.after[k].on]? with
      | none => cases f <;> simp [reachB, ho] at h2
      | some ok => exact reach_spec hC f _ ok ho h2 (hC _ ok ho h3)
/-- Each operation of the end comes behind i. -/
def Behind (md : Region.Mode) (ops : Array Oper) (tl : List Nat) (i : Nat) : Prop := ∀ j ∈ tl, reachB md ops i ops.size j = true
theorem wpAnyT_first {tl : List Nat} {i : Nat} {oi : Oper} {v : Value} (hi : ops[i]? = some oi) (hsel : ∀ (j : Nat) (o : Oper) cs b, ops[j]? = some o → o.op ≠ .select cs b)
    (hT : Behind md ops tl i) (hE : ∀ listed a w, E listed a w → ∀ j ∈ Region.ready md ops listed, j ∈ tl) :
    ∀ (f : Nat) (listed : Array Bool) (a : Act) (w : World),
      (∀ j oj, ops[j]? = some oj → j ≠ i → listed.getD j true = false → (∀ e ∈ oj.after, Region.binds md e = true → e.on ≠ i) → oi.apart ops oj = true) →
      Closed md ops listed → i ∈ Region.ready md ops listed → C w → Qv P ops C oi v a →
      wpAnyT P md ops C E f (listed.setIfInBounds i true) (a.put oi.dst v) w → wpAnyT P md ops C E (f + 1) listed a w := by
  intro f
  induction f with
  | zero =>
    intro listed a w _ hcl hr hC hy H
    refine ⟨fun h => (by rw [h] at hr; cases hr), fun j hj => ?_⟩
    by_cases hji : j = i
    · subst hji; exact hy.opC hi hC H
    · have h1 := hE _ _ _ H j (ready_mono hj hji)
      obtain ⟨_, oj, hoj, hall⟩ := mem_ready.1 hj
      have h2 := reach_spec hcl _ j oj hoj (hT j h1) hall
      have h0 := (mem_ready.1 hr).1
      exfalso
      rcases Nat.lt_or_ge i listed.size with h' | h'
      · simp [h'] at h0 h2; rw [h0] at h2; cases h2
      · simp [Array.getElem?_eq_none h'] at h2
  | succ f ih =>
    intro listed a w hfree hcl hr hC hy H
    refine ⟨fun h => (by rw [h] at hr; cases hr), fun j hj => ?_⟩
    by_cases hji : j = i
    · subst hji; exact hy.opC hi hC H
    · have h1 := H.2 j (ready_mono hj hji)
      obtain ⟨hjun, oj, hoj, hall⟩ := mem_ready.1 hj
      have hnot : ∀ e ∈ oj.after, Region.binds md e = true → e.on ≠ i := fun e he hb heq => by
        have h2 := hall e he hb
        have h0 := (mem_ready.1 hr).1
        rw [heq] at h2
        rcases Nat.lt_or_ge i listed.size with h' | h'
        · simp [h'] at h0 h2; rw [h0] at h2; cases h2
        · simp [Array.getElem?_eq_none h'] at h2
      have hap := hfree j oj hoj hji hjun hnot
      obtain ⟨_, _, h3⟩ := Oper.apart_spec hap
      have hfree' : ∀ k ok, ops[k]? = some ok → k ≠ i → (listed.setIfInBounds j true).getD k true = false →
          (∀ e ∈ ok.after, Region.binds md e = true → e.on ≠ i) → oi.apart ops ok = true := fun k ok hk hki hun hno => by
        refine hfree k ok hk hki ?_ hno
        by_cases hjk : j = k
        · subst hjk; exact hjun
        · rw [getD_set_ne true hjk] at hun; exact hun
      refine opC_put hoj hap (fun cs b => hsel j oj cs b hoj) (fun b u w' hb hC' h4 => ?_) hC h1
      refine ih (listed.setIfInBounds j true) _ w' hfree' (hcl.set hj) (ready_mono hr (Ne.symm hji)) hC' ((hy.same hb).keep (fun cs b => hsel i oi cs b hi) h3) ?_
      rw [Array.setIfInBounds_comm _ _ hji]
      exact h4
theorem wpAnyT_mono {C' : World → Prop} (hC : ∀ x, C' x → C x) : ∀ (f : Nat) (listed : Array Bool) (a : Act) (w : World), wpAnyT P md ops C' E f listed a w → wpAnyT P md ops C E f listed a w
  | 0, _, _, _, h => h
  | f + 1, listed, a, w, h => ⟨h.1, fun i hi => by
      have h1 := h.2 i hi
      unfold opC at *
      split
      · rename_i ho; rw [ho] at h1; exact wpAnyT_mono hC f _ a w h1
      · rename_i o ho
        rw [ho] at h1
        simp only at h1
        split
        · rename_i hw; rw [if_pos hw] at h1; exact wp_mono_K (fun a' w' hx => ⟨hC _ hx.1, wpAnyT_mono hC f _ a' w' hx.2⟩) h1
        · rename_i hw; rw [if_neg hw] at h1; exact wpAnyT_mono hC f _ _ w h1⟩
def behindB (md : Region.Mode) (ops : Array Oper) (tl : List Nat) (i : Nat) : Bool := tl.all fun j => reachB md ops i ops.size j
theorem behindB_spec {tl : List Nat} {i : Nat} (h : behindB md ops tl i = true) : Behind md ops tl i := fun j hj => List.all_eq_true.1 h j hj
def chainB (md : Region.Mode) (ops : Array Oper) : List Nat → Array Bool → Bool
  | [], listed => (Region.ready md ops listed).isEmpty
  | j :: r, listed => (ops[j]?).isSome && decide (Region.ready md ops listed = [j]) && chainB md ops r (listed.setIfInBounds j true)
def tailOps (l : List Oper) : List Nat → List Oper
  | [] => []
  | j :: r => match l[j]? with
    | some o => o :: tailOps l r
    | none => tailOps l r
theorem chain_any : ∀ (tl : List Nat) (listed : Array Bool) (a : Act) (w : World), chainB md ops tl listed = true → wpList P ops Q (tailOps ops.toList tl) a w → wpAny P md ops Q tl.length listed a w
  | [], listed, a, w, hB, h => ⟨by simpa [chainB] using hB, h⟩
  | j :: r, listed, a, w, hB, h => by
    simp only [chainB, Bool.and_eq_true, decide_eq_true_eq] at hB
    obtain ⟨⟨h0, h1⟩, h2⟩ := hB
    obtain ⟨o, ho⟩ := Option.isSome_iff_exists.1 h0
    have hol : ops.toList[j]? = some o := by simpa using ho
    simp only [tailOps, hol] at h
    refine ⟨fun h3 => (by rw [h1] at h3; cases h3), fun i hi => ?_⟩
    rw [h1] at hi
    have hji : i = j := by simpa using hi
    subst hji
    unfold wpOp
    unfold wpList at h
    simp only [ho]
    split at h
    · rename_i hw
      rw [if_pos hw]
      exact h.imp (fun hh => Oper.wp_mono (fun a' w' hx => chain_any r _ a' w' h2 hx) hh) id
    · rename_i hw
      rw [if_neg hw]
      exact chain_any r _ _ w h2 h
def mixBT (md : Region.Mode) (ops : Array Oper) (tl : List Nat) : List (Nat × Bool) → Array Bool → Bool
  | [], listed => chainB md ops tl listed
  | (i, q) :: r, listed => (ops[i]?).isSome && (if q then (Region.ready md ops listed).contains i && Region.free md ops listed i && behindB md ops tl i else decide (Region.ready md ops listed = [i])) && mixBT md ops tl r (listed.setIfInBounds i true)
theorem chain_in {tl : List Nat} {listed : Array Bool} (h : chainB md ops tl listed = true) : ∀ j ∈ Region.ready md ops listed, j ∈ tl := by
  intro j hj
  cases tl with
  | nil => simp only [chainB, List.isEmpty_iff] at h; rw [h] at hj; cases hj
  | cons k r =>
    simp only [chainB, Bool.and_eq_true, decide_eq_true_eq] at h
    rw [h.1.2] at hj
    simp at hj
    simp [hj]
theorem wpAnyT_of_mix {tl : List Nat} (hs : Region.noSelect ops = true) : ∀ {C : World → Prop} (ord : List (Nat × Bool)) (listed : Array Bool) (a : Act) (w : World), Closed md ops listed → C w → mixBT md ops tl ord listed = true →
    wpMix P ops C (fun a w => wpList P ops Q (tailOps ops.toList tl) a w) (ordOps ops.toList ord) a w →
    wpAnyT P md ops C (fun listed a w => chainB md ops tl listed = true ∧ wpList P ops Q (tailOps ops.toList tl) a w) ord.length listed a w
  | _, [], listed, a, w, _, _, hB, h => ⟨hB, h⟩
  | _, (i, q) :: r, listed, a, w, hcl, hC, hB, h => by
    simp only [mixBT, Bool.and_eq_true] at hB
    obtain ⟨⟨h0, h1⟩, h2⟩ := hB
    obtain ⟨o, ho⟩ := Option.isSome_iff_exists.1 h0
    have hol : ops.toList[i]? = some o := by simpa using ho
    simp only [ordOps, hol] at h
    cases q with
    | true =>
      simp only [if_true, Bool.and_eq_true] at h1
      simp only [wpMix] at h
      have hr : i ∈ Region.ready md ops listed := by simpa using h1.1.1
      have hT := behindB_spec h1.2
      split at h
      · rename_i hw
        obtain ⟨v, hv, hk⟩ := h
        exact wpAnyT_first ho (Region.noSelect_spec hs) hT (fun _ _ _ hx => chain_in hx.1) r.length listed a w (Region.free_spec ho h1.1.2) hcl hr hC (.inl ⟨hw, hv⟩) (wpAnyT_of_mix hs r _ _ _ (hcl.set hr) hC h2 hk)
      · rename_i hw
        exact wpAnyT_first ho (Region.noSelect_spec hs) hT (fun _ _ _ hx => chain_in hx.1) r.length listed a w (Region.free_spec ho h1.1.2) hcl hr hC (.inr ⟨by simpa using hw, rfl⟩) (wpAnyT_of_mix hs r _ _ _ (hcl.set hr) hC h2 h)
    | false =>
      simp only [Bool.false_eq_true, if_false, decide_eq_true_eq] at h1
      simp only [wpMix] at h
      refine ⟨fun h3 => (by rw [h1] at h3; cases h3), fun j hj => ?_⟩
      rw [h1] at hj
      have hji : j = i := by simpa using hj
      subst hji
      have hcl' := hcl.set (i := j) (by rw [h1]; simp)
      unfold opC
      simp only [ho]
      split at h
      · rename_i hw
        rw [if_pos hw]
        exact wp_mono_K (fun a' w' hx => ⟨hx.1, by obtain ⟨C', h5, h6, h7⟩ := hx.2; exact wpAnyT_mono h6 _ _ _ _ (wpAnyT_of_mix hs r _ _ _ hcl' h5 h2 h7)⟩) h
      · rename_i hw
        rw [if_neg hw]
        exact wpAnyT_of_mix hs r _ _ _ hcl' hC h2 h
def mixOkT (md : Region.Mode) (ops : Array Oper) (ord : List (Nat × Bool)) (tl : List Nat) : Bool := Region.noSelect ops && decide (ord.length + tl.length = ops.size) && mixBT md ops tl ord (Array.replicate ops.size false)
/-- A region that draws: 'ord' in any order that its edges let, then 'tl' in its one order. -/
theorem c_mixT {id : Nat} {lo : List Oper} {a : Act} {w : World} (ord : List (Nat × Bool)) (tl : List Nat) (C : World → Prop) (hm : P.follows .mixedOrders = true) (hB : mixOkT .any lo.toArray ord tl = true)
    (h : ∀ w', Md [] w w' → C w' ∧ wpMix P lo.toArray C (fun a w => wpList P lo.toArray Q (tailOps lo tl) a w) (ordOps lo ord) a w') : (Code.region id lo.toArray true).wp P Q a w := by
  simp only [mixOkT, Bool.and_eq_true, decide_eq_true_eq] at hB
  obtain ⟨⟨h1, h2⟩, h3⟩ := hB
  obtain ⟨hC, hk⟩ := h _ (Md.drew w)
  refine wp_region_any hm ?_
  have := wpAnyT_of_mix (md := .any) (C := C) (Q := Q) (tl := tl) h1 ord _ a _ (fun k ok hk hl => by simp [Array.getD_eq_getD_getElem?, Array.getElem?_replicate] at hl; split at hl <;> simp at hl) hC h3 (by simpa using hk)
  have fin := wpAny_of_T (Q := Q) (t := tl.length) (E := fun listed a w => chainB .any lo.toArray tl listed = true ∧ wpList P lo.toArray Q (tailOps lo.toArray.toList tl) a w) (fun listed a w hx => chain_any tl listed a w hx.1 hx.2) _ _ _ _ this
  rwa [h2] at fin
end
end Go.Wk
