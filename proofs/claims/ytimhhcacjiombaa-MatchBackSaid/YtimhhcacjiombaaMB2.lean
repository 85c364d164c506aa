/- Part 2 of what the walk of a law stands on: MatR, MatT, MatB, MatK, VSeqM, VPl, VWords, VIns, VCmp, VBs, VAdd, WSplit, VSplit, VCom, VHold. No statement is proved here. -/
import Derived.Test.YtimhhcacjiombaaMB1
import Derived.Test.YtimhhcacjiombaaRows
namespace Go.Wk
open Go Go.RowKit
section
variable {P : Program} {n : Nat} {A : Fr n} {D : List Deferred} {l : List (Nat × Value)} {w : World} {d : Option Tmp} {ty : TypeId} {ps : String} {af : Array Edge} {g : Option (Nat × Bool)}
theorem r_geqS {x y : Operand} {t u : TypeId} {a b : List UInt8} (hx : ev n l x = some (str a)) (hy : ev n l y = some (str b)) :
    RunV P ⟨d, .binOp .geq t x y u, ty, ps, af, g⟩ (over A D l).eval w (.bool (!Op.bytesLess a b)) :=
  r_strop hx hy (str_guard _ _ _ _ _) (by simp only [binOp, str, Op.stringOp, Sem.run_pure, ByteArray.toList_eq])
end
theorem m_skipU {P : Program} {ops : Array Oper} {C : World → Prop} {QN : Act → World → Prop} {rest : List (Bool × Oper)} {n : Nat} {A : Fr n} {D : List Deferred} {l : List (Nat × Value)} {w : World} {d : Tmp} {ty : TypeId} {ps : String} {af : Array Edge} {q : Bool} {op : Op} {j t : Nat} {o : Oper} {want : Bool} (ho : ops[j]? = some o) (ht : o.dst = some t) (hy : ev n l (.tmp t) = some undef)
    (k : wpMix P ops C QN rest (over A D ((d, undef) :: l)) w) :
    wpMix P ops C QN ((q, ⟨some d, op, ty, ps, af, some (j, want)⟩) :: rest) (over A D l) w := by
  have h' := ev_eval (A := A) (D := D) hy
  have hy2 : yielded ops (over A D l).tmps j = none := by
    simp only [Act.eval] at h'
    unfold yielded
    simp [ho, ht]
    rw [Array.getD_eq_getD_getElem?] at h'
    cases hq : (over A D l).tmps[t]? with
    | none => rfl
    | some v => rw [hq] at h'; simp at h'; rw [h']; rfl
  cases q <;> unfold wpMix <;> rw [if_neg (by simp [Region.wanted, hy2])] <;> exact k
def valsGo (vs : List (List UInt8)) : List (List UInt8) → Nat → Bool
  | [], _ => true
  | v :: r, i => if 256 < v.length then false else if 0 < i ∧ Op.bytesLess (vs.getD (i - 1) []) v = false then false else valsGo vs r (i + 1)
theorem vals_end {vs l : List (List UInt8)} {i j : Nat} (h : ¬ i < l.length) : valsGo vs (l.drop i) j = true := by rw [drop_end (by omega)]; rfl
theorem vals_step {vs l : List (List UInt8)} {v : List UInt8} {i j : Nat} (h : l[i]? = some v) : valsGo vs (l.drop i) j = if 256 < v.length then false else if 0 < j ∧ Op.bytesLess (vs.getD (j - 1) []) v = false then false else valsGo vs (l.drop (i + 1)) (j + 1) := by rw [drop_get h]; rfl
theorem txt_getD {l : List (List UInt8)} {i : Nat} {x : List UInt8} (h : l[i]? = some x) : l.getD i [] = x := by rw [List.getD_eq_getElem?_getD, h]; rfl
def alt0 : Alt := { name := [], values := [] }
theorem alt_getD {l : List Alt} {i : Nat} {x : Alt} (h : l[i]? = some x) : l.getD i alt0 = x := by rw [List.getD_eq_getElem?_getD, h]; rfl
def altF (a : Alt) (ahead : List Alt) : Bool :=
  if isName a.name = false ∨ a.values.length = 0 ∨ (0 < ahead.length ∧ Op.bytesLess (ahead.getD (ahead.length - 1) alt0).name a.name = false) then false else valsGo a.values a.values 0
def rAlts (row : List Alt) : List Alt → Nat → Nat → Option Nat
  | [], _, n => some n
  | a :: r, i, n => if 32 < n + a.values.length ∨ altF a (row.take i) = false then none else rAlts row r (i + 1) (n + a.values.length)
theorem rAlts_end {row l : List Alt} {i j n : Nat} (h : ¬ i < l.length) : rAlts row (l.drop i) j n = some n := by rw [drop_end (by omega)]; rfl
theorem rAlts_step {row l : List Alt} {a : Alt} {i j n : Nat} (h : l[i]? = some a) : rAlts row (l.drop i) j n = if 32 < n + a.values.length ∨ altF a (row.take j) = false then none else rAlts row (l.drop (i + 1)) (j + 1) (n + a.values.length) := by rw [drop_get h]; rfl
def rRows : List (List Alt) → Nat → Bool
  | [], _ => true
  | r :: rest, n => if r.length = 0 ∨ 32 < n then false else match rAlts r r 0 n with | none => false | some n' => rRows rest n'
theorem rRows_end {l : List (List Alt)} {i n : Nat} (h : ¬ i < l.length) : rRows (l.drop i) n = true := by rw [drop_end (by omega)]; rfl
theorem rRows_step {l : List (List Alt)} {r : List Alt} {i n : Nat} (h : l[i]? = some r) : rRows (l.drop i) n = if r.length = 0 ∨ 32 < n then false else match rAlts r r 0 n with | none => false | some n' => rRows (l.drop (i + 1)) n' := by rw [drop_get h]; rfl
def rightF (m : Mat) : Bool := rRows m.rows (m.rows.length - 1)
/-! its words -/
def wVals (nm : List UInt8) : List (List UInt8) → List (List UInt8)
  | [] => []
  | v :: r => (nm ++ [61] ++ v) :: wVals nm r
def wAlts : List Alt → List (List UInt8)
  | [] => []
  | a :: r => wVals a.name a.values ++ wAlts r
def wRows : List (List Alt) → Nat → List (List UInt8)
  | [], _ => []
  | r :: rest, i => (if 0 < i then [[43]] else []) ++ (wAlts r ++ wRows rest (i + 1))
def wordsM (m : Mat) : List (List UInt8) := if rightF m = true then wRows m.rows 0 else []
theorem wVals_end {nm : List UInt8} {l : List (List UInt8)} {i : Nat} (h : ¬ i < l.length) : wVals nm (l.drop i) = [] := by rw [drop_end (by omega)]; rfl
theorem wVals_step {nm v : List UInt8} {l : List (List UInt8)} {i : Nat} (h : l[i]? = some v) : wVals nm (l.drop i) = (nm ++ [61] ++ v) :: wVals nm (l.drop (i + 1)) := by rw [drop_get h]; rfl
theorem wAlts_end {l : List Alt} {i : Nat} (h : ¬ i < l.length) : wAlts (l.drop i) = [] := by rw [drop_end (by omega)]; rfl
theorem wAlts_step {a : Alt} {l : List Alt} {i : Nat} (h : l[i]? = some a) : wAlts (l.drop i) = wVals a.name a.values ++ wAlts (l.drop (i + 1)) := by rw [drop_get h]; rfl
theorem wRows_end {l : List (List Alt)} {i j : Nat} (h : ¬ i < l.length) : wRows (l.drop i) j = [] := by rw [drop_end (by omega)]; rfl
theorem wRows_step {r : List Alt} {l : List (List Alt)} {i j : Nat} (h : l[i]? = some r) : wRows (l.drop i) j = (if 0 < j then [[43]] else []) ++ (wAlts r ++ wRows (l.drop (i + 1)) (j + 1)) := by rw [drop_get h]; rfl
/-! are two the same -/
def eqAlt (a b : Alt) : Bool := decide (a.name = b.name) && sameTextsF a.values b.values
def eqAs : List Alt → List Alt → Bool
  | [], _ => true
  | a :: r, b :: s => if eqAlt a b = true then eqAs r s else false
  | _ :: _, [] => false
theorem eqAs_end {a b : List Alt} {i : Nat} (h : ¬ i < a.length) : eqAs (a.drop i) b = true := by rw [drop_end (by omega)]; rfl
theorem eqAs_step {a b : List Alt} {i : Nat} {p q : Alt} (h : a[i]? = some p) (k : b[i]? = some q) : eqAs (a.drop i) (b.drop i) = if eqAlt p q = true then eqAs (a.drop (i + 1)) (b.drop (i + 1)) else false := by
  rw [drop_get h, drop_get k]; rfl
def eqRow (a b : List Alt) : Bool := if a.length = b.length then eqAs a b else false
def eqRs : List (List Alt) → List (List Alt) → Bool
  | [], _ => true
  | a :: r, b :: s => if eqRow a b = true then eqRs r s else false
  | _ :: _, [] => false
theorem eqRs_end {a b : List (List Alt)} {i : Nat} (h : ¬ i < a.length) : eqRs (a.drop i) b = true := by rw [drop_end (by omega)]; rfl
theorem eqRs_step {a b : List (List Alt)} {i : Nat} {p q : List Alt} (h : a[i]? = some p) (k : b[i]? = some q) : eqRs (a.drop i) (b.drop i) = if eqRow p q = true then eqRs (a.drop (i + 1)) (b.drop (i + 1)) else false := by
  rw [drop_get h, drop_get k]; rfl
def eqRows (a b : List (List Alt)) : Bool := if a.length = b.length then eqRs a b else false
def sameM (a b : Mat) : Bool := eqRows a.rows b.rows
end Go.Wk
namespace Go.Wk
open Go Go.RowKit
def cntA : List Alt → Nat
  | [] => 0
  | a :: r => a.values.length + cntA r
def cntR : List (List Alt) → Nat
  | [] => 0
  | r :: rest => cntA r + cntR rest
theorem wVals_len (nm : List UInt8) (l : List (List UInt8)) : (wVals nm l).length = l.length := by
  induction l with
  | nil => rfl
  | cons v r ih => simp [wVals, ih]
theorem wAlts_len (l : List Alt) : (wAlts l).length = cntA l := by
  induction l with
  | nil => rfl
  | cons a r ih => simp [wAlts, cntA, ih, wVals_len]
theorem wRows_len : ∀ (l : List (List Alt)) (j : Nat), (wRows l j).length = (if 0 < j then l.length else l.length - 1) + cntR l
  | [], j => by simp [wRows, cntR]
  | r :: rest, j => by
    simp only [wRows, List.length_append, wAlts_len, wRows_len rest (j + 1), cntR, List.length_cons]
    by_cases h : 0 < j
    · simp [h]; omega
    · simp [h]; omega
theorem rAlts_ok {row : List Alt} : ∀ {l : List Alt} {i n n' : Nat}, rAlts row l i n = some n' → n' = n + cntA l ∧ (∀ a ∈ l, ∃ t, altF a t = true) ∧ (l ≠ [] → n' ≤ 32)
  | [], i, n, n', h => by cases h; simp [cntA]
  | a :: r, i, n, n', h => by
    unfold rAlts at h
    split at h
    · cases h
    · rename_i hc
      obtain ⟨h1, h2, h3⟩ := rAlts_ok h
      have ha : altF a (row.take i) = true := by cases hb : altF a (row.take i) <;> simp_all
      refine ⟨by rw [h1]; simp [cntA]; omega, fun b hb => ?_, fun _ => ?_⟩
      · rcases List.mem_cons.1 hb with rfl | hb
        · exact ⟨_, ha⟩
        · exact h2 b hb
      · cases r with
        | nil => simp only [cntA] at h1; omega
        | cons b r => exact h3 (by simp)
theorem rRows_ok : ∀ {l : List (List Alt)} {n : Nat}, rRows l n = true → (∀ r ∈ l, ∀ a ∈ r, ∃ t, altF a t = true) ∧ (l ≠ [] → n + cntR l ≤ 32)
  | [], n, _ => by simp
  | r :: rest, n, h => by
    unfold rRows at h
    split at h
    · cases h
    · rename_i hc
      cases hq : rAlts r r 0 n with
      | none => rw [hq] at h; cases h
      | some n' =>
        rw [hq] at h
        obtain ⟨h1, h2, h3⟩ := rAlts_ok hq
        obtain ⟨g1, g2⟩ := rRows_ok (l := rest) h
        have h4 := h3 (by rintro rfl; simp at hc)
        refine ⟨fun q hqm a ha => ?_, fun _ => ?_⟩
        · rcases List.mem_cons.1 hqm with rfl | hqm
          · exact h2 a ha
          · exact g1 q hqm a ha
        · cases rest with
          | nil => simp [cntR]; omega
          | cons b rest => have := g2 (by simp); simp only [cntR] at this ⊢; omega
theorem rightM_len {m : Mat} (h : rightF m = true) : (wRows m.rows 0).length ≤ 32 := by
  rw [wRows_len]
  unfold rightF at h
  have := (rRows_ok h).2
  cases hm : m.rows with
  | nil => simp [cntR]
  | cons r rest => have h2 := this (by rw [hm]; simp); rw [hm] at h2; simpa using h2
theorem valsGo_bd {vs : List (List UInt8)} : ∀ {l : List (List UInt8)} {i : Nat}, valsGo vs l i = true → ∀ v ∈ l, v.length ≤ 256
  | [], _, _ => by simp
  | v :: r, i, h => by
    unfold valsGo at h
    split at h
    · cases h
    · split at h
      · cases h
      · rename_i h1 _
        intro x hx
        rcases List.mem_cons.1 hx with rfl | hx
        · omega
        · exact valsGo_bd h x hx
theorem altF_bd {a : Alt} {t : List Alt} (h : altF a t = true) : a.name.length ≤ 64 ∧ ∀ v ∈ a.values, v.length ≤ 256 := by
  unfold altF at h
  split at h
  · cases h
  · rename_i hc
    refine ⟨?_, valsGo_bd h⟩
    have : isName a.name = true := by cases hb : isName a.name <;> simp_all
    exact (name_len this).2
theorem right_bd {m : Mat} (h : rightF m = true) {r : List Alt} {a : Alt} (hr : r ∈ m.rows) (ha : a ∈ r) : a.name.length ≤ 64 ∧ ∀ v ∈ a.values, v.length ≤ 256 := by
  obtain ⟨t, ht⟩ := (rRows_ok h).1 r hr a ha
  exact altF_bd ht
theorem app_leL {α : Type} {a b c : List α} (h : a ++ b = c) : a.length ≤ c.length := by rw [← h]; simp
end Go.Wk
namespace Go.Wk
open Go Go.RowKit
def inRow (l : List Alt) (n v : List UInt8) : Prop := ∃ a ∈ l, a.name = n ∧ v ∈ a.values
theorem putT_iff {l : List (List UInt8)} {s v : List UInt8} : v ∈ putT l s ↔ v ∈ l ∨ v = s := by
  constructor
  · intro h
    unfold putT at h
    split at h
    · exact .inl h
    · rcases List.mem_append.1 h with h | h
      · exact .inl (List.mem_of_mem_take h)
      · rcases List.mem_cons.1 h with h | h
        · exact .inr h
        · exact .inl (List.mem_of_mem_drop h)
  · rintro (h | rfl)
    · exact mem_putT h
    · unfold putT
      split
      · rename_i h
        have hl : posT l v < l.length := by
          rcases Nat.lt_or_ge (posT l v) l.length with h1 | h1
          · exact h1
          · rw [hitT_end (by omega)] at h; cases h
        rw [hitT_at (List.getElem?_eq_getElem hl)] at h
        rw [← of_decide_eq_true h]
        exact List.getElem_mem hl
      · exact List.mem_append_right _ (List.mem_cons_self)
theorem inRow_pre {l : List Alt} {s n v : List UInt8} : inRow (preA l s) n v ↔ inRow l n v := by
  constructor
  · rintro ⟨a, ha, h1, h2⟩
    rcases preA_mem ha with h | h
    · exact ⟨a, h, h1, h2⟩
    · rw [h] at h2; cases h2
  · rintro ⟨a, ha, h1, h2⟩; exact ⟨a, preA_sub ha, h1, h2⟩
theorem inRow_put {l : List Alt} {p : Pr} {n v : List UInt8} : inRow (putA l p) n v ↔ inRow l n v ∨ (n = p.name ∧ v = p.value) := by
  obtain ⟨x, hx, hxn⟩ := preA_at l p.name
  rw [← inRow_pre (l := l) (s := p.name)]
  constructor
  · rintro ⟨a, ha, h1, h2⟩
    rw [putA_eq hx] at ha
    rcases List.mem_or_eq_of_mem_set ha with h | rfl
    · exact .inl ⟨a, h, h1, h2⟩
    · rcases putT_iff.1 h2 with h | h
      · exact .inl ⟨x, List.mem_of_getElem? hx, h1, h⟩
      · exact .inr ⟨h1.symm.trans hxn, h⟩
  · have hy : ({ name := x.name, values := putT x.values p.value } : Alt) ∈ putA l p := by rw [putA_eq hx]; exact List.mem_set (List.getElem?_eq_some_iff.1 hx).1 _
    rintro (⟨a, ha, h1, h2⟩ | ⟨h1, h2⟩)
    · by_cases he : a = x
      · subst he; exact ⟨_, hy, h1, putT_iff.2 (.inl h2)⟩
      · exact ⟨a, by rw [putA_eq hx]; exact set_mem hx ha he, h1, h2⟩
    · exact ⟨_, hy, hxn.trans h1.symm, putT_iff.2 (.inr h2)⟩
/-- Two rows that rise, of the same members, are one. -/
theorem rise_ext {α : Type} {f : α → List UInt8} : ∀ {l m : List α}, (l.Pairwise fun a b => Op.bytesLess (f a) (f b) = true) → (m.Pairwise fun a b => Op.bytesLess (f a) (f b) = true) → (∀ x, x ∈ l ↔ x ∈ m) → l = m
  | [], [], _, _, _ => rfl
  | [], y :: m, _, _, h => by have := (h y).2 (by simp); cases this
  | x :: l, [], _, _, h => by have := (h x).1 (by simp); cases this
  | x :: l, y :: m, hl, hm, h => by
    rw [List.pairwise_cons] at hl hm
    have e : x = y := by
      rcases List.mem_cons.1 ((h x).1 (by simp)) with h1 | h1
      · exact h1
      · rcases List.mem_cons.1 ((h y).2 (by simp)) with h2 | h2
        · exact h2.symm
        · have := bl_asym (hm.1 x h1); rw [hl.1 y h2] at this; cases this
    subst e
    congr 1
    refine rise_ext hl.2 hm.2 fun z => ⟨fun hz => ?_, fun hz => ?_⟩
    · rcases List.mem_cons.1 ((h z).1 (by simp [hz])) with h1 | h1
      · subst h1; have := hl.1 z hz; rw [bl_irr] at this; cases this
      · exact h1
    · rcases List.mem_cons.1 ((h z).2 (by simp [hz])) with h1 | h1
      · subst h1; have := hm.1 z hz; rw [bl_irr] at this; cases this
      · exact h1
/-- What a row of words has. -/
def gRow (row : List Alt) : Prop := rA row ∧ ∀ a ∈ row, a.values ≠ [] ∧ rT a.values ∧ ∀ v ∈ a.values, goodP { name := a.name, value := v }
theorem putT_ne (l : List (List UInt8)) (s : List UInt8) : putT l s ≠ [] := by
  intro h; have : s ∈ putT l s := putT_iff.2 (.inr rfl); rw [h] at this; cases this
theorem gRow_put {row : List Alt} {p : Pr} (h : gRow row) (hp : goodP p) : gRow (putA row p) := by
  refine ⟨putA_rises h.1, fun a ha => ?_⟩
  obtain ⟨x, hx, hxn⟩ := preA_at row p.name
  have hpre : ∀ y ∈ preA row p.name, rT y.values ∧ ∀ v ∈ y.values, goodP { name := y.name, value := v } := by
    intro y hy
    rcases preA_mem hy with h1 | h1
    · exact (h.2 y h1).2
    · rw [h1]; exact ⟨List.Pairwise.nil, by simp⟩
  have hold : ∀ y ∈ preA row p.name, y ≠ x → y ∈ row := by
    intro y hy hne
    unfold preA at hy hx
    split at hy
    · exact hy
    · rename_i hc
      rw [if_neg hc] at hx
      rcases List.mem_append.1 hy with h1 | h1
      · exact List.mem_of_mem_take h1
      · rcases List.mem_cons.1 h1 with h1 | h1
        · exfalso
          have hp' := posA_le row p.name
          rw [List.getElem?_append_right (by simp; omega)] at hx
          have e0 : posA row p.name - (row.take (posA row p.name)).length = 0 := by simp; omega
          rw [e0] at hx
          simp at hx
          exact hne (h1.trans hx)
        · exact List.mem_of_mem_drop h1
  rw [putA_eq hx] at ha
  by_cases he : a = { name := x.name, values := putT x.values p.value }
  · subst he
    have h1 := hpre x (List.mem_of_getElem? hx)
    refine ⟨putT_ne _ _, putT_rises h1.1, fun v hv => ?_⟩
    rcases putT_iff.1 hv with h2 | h2
    · exact h1.2 v h2
    · subst h2
      have : ({ name := x.name, value := p.value } : Pr) = p := by rw [hxn]
      rw [this]; exact hp
  · rcases List.mem_or_eq_of_mem_set ha with h1 | h1
    · have hax : a ≠ x := by
        rintro rfl
        -- a is at the place that was put: another place would have the same name twice
        obtain ⟨j, hj⟩ := List.mem_iff_getElem?.1 ha
        rcases Nat.decEq j (posA row p.name) with h2 | h2
        · rw [List.getElem?_set_ne (Ne.symm h2)] at hj
          have hr := preA_rises (s := p.name) h.1
          obtain ⟨hj1, hj2⟩ := List.getElem?_eq_some_iff.1 hj
          obtain ⟨hk1, hk2⟩ := List.getElem?_eq_some_iff.1 hx
          rcases Nat.lt_or_gt_of_ne h2 with h3 | h3
          · have := List.pairwise_iff_getElem.1 hr j _ hj1 hk1 h3; rw [hj2, hk2, bl_irr] at this; cases this
          · have := List.pairwise_iff_getElem.1 hr _ j hk1 hj1 h3; rw [hj2, hk2, bl_irr] at this; cases this
        · subst h2
          rw [List.getElem?_set_self (List.getElem?_eq_some_iff.1 hx).1] at hj
          exact he (Option.some.inj hj).symm
      exact h.2 a (hold a h1 hax)
    · exact absurd h1 he
theorem row_ext {r s : List Alt} (hr : gRow r) (hs : gRow s) (h : ∀ n v, inRow r n v ↔ inRow s n v) : r = s := by
  have half : ∀ {r s : List Alt}, gRow r → gRow s → (∀ n v, inRow r n v ↔ inRow s n v) → ∀ a ∈ r, a ∈ s := by
    intro r s hr hs h a ha
    obtain ⟨h1, h2, _⟩ := hr.2 a ha
    obtain ⟨v0, hv0⟩ : ∃ v, v ∈ a.values := List.exists_mem_of_ne_nil _ h1
    obtain ⟨b, hb, hbn, _⟩ := (h a.name v0).1 ⟨a, ha, rfl, hv0⟩
    have hv : a.values = b.values := by
      refine rise_ext (f := id) h2 (hs.2 b hb).2.1 fun v => ⟨fun hv => ?_, fun hv => ?_⟩
      · obtain ⟨c, hc, hcn, hcv⟩ := (h a.name v).1 ⟨a, ha, rfl, hv⟩
        rw [rA_name hs.1 hb hc (hbn.trans hcn.symm)]; exact hcv
      · obtain ⟨c, hc, hcn, hcv⟩ := (h a.name v).2 ⟨b, hb, hbn, hv⟩
        rw [rA_name hr.1 ha hc hcn.symm]; exact hcv
    have : a = b := by cases a; cases b; simp only at hbn hv; rw [hv, ← hbn]
    rw [this]; exact hb
  exact rise_ext (f := Alt.name) hr.1 hs.1 fun x => ⟨half hr hs h x, half hs hr (fun n v => (h n v).symm) x⟩
/-! words of one row -/
def rowW (ws : List (List UInt8)) : Prop := ∀ s ∈ ws, ∃ p, goodP p ∧ s = payload p
def rowF (ws : List (List UInt8)) (row : List Alt) : List Alt := ws.foldl (fun r s => putA r (splitF s).1) row
theorem row_wr {ws : List (List UInt8)} {b : Bool} (h : rowW ws) (hn : ws ≠ [] ∨ b = true) : wr b ws true := by
  induction ws generalizing b with
  | nil => rcases hn with h | h; exact absurd rfl h; exact h
  | cons s r ih => exact .inr ⟨h s (by simp), ih (fun x hx => h x (by simp [hx])) (.inr rfl)⟩
theorem row_st {ws : List (List UInt8)} {rows : List (List Alt)} {row : List Alt} (h : rowW ws) : comSt ws rows row = (rows, rowF ws row) := by
  induction ws generalizing row with
  | nil => rfl
  | cons s r ih =>
    obtain ⟨p, hp, e⟩ := h s (by simp)
    rw [comSt_cons, if_neg (by rw [e]; exact pay_ne p), ih (fun x hx => h x (by simp [hx]))]
    rfl
theorem rowF_ok {ws : List (List UInt8)} {row : List Alt} (h : rowW ws) (hr : gRow row) : gRow (rowF ws row) ∧ ∀ n v, inRow (rowF ws row) n v ↔ inRow row n v ∨ payload { name := n, value := v } ∈ ws ∧ goodP { name := n, value := v } := by
  induction ws generalizing row with
  | nil => exact ⟨hr, by simp [rowF]⟩
  | cons s r ih =>
    obtain ⟨p, hp, e⟩ := h s (by simp)
    have hs : (splitF s).1 = p := by rw [e, pay_split hp.1]
    obtain ⟨h1, h2⟩ := ih (fun x hx => h x (by simp [hx])) (gRow_put hr hp)
    have e2 : rowF (s :: r) row = rowF r (putA row p) := by unfold rowF; rw [List.foldl_cons, hs]
    rw [e2]
    refine ⟨h1, fun n v => ?_⟩
    rw [h2, inRow_put]
    constructor
    · rintro ((h3 | ⟨rfl, rfl⟩) | ⟨h3, h4⟩)
      · exact .inl h3
      · exact .inr ⟨by rw [e]; simp, hp⟩
      · exact .inr ⟨by simp [h3], h4⟩
    · rintro (h3 | ⟨h3, h4⟩)
      · exact .inl (.inl h3)
      · rcases List.mem_cons.1 h3 with h5 | h5
        · left; right
          have h6 := (pay_split h4.1).symm.trans ((congrArg splitF (h5.trans e)).trans (pay_split hp.1))
          have h7 := congrArg Prod.fst h6
          simp only at h7
          rw [← h7]; exact ⟨rfl, rfl⟩
        · exact .inr ⟨h5, h4⟩
theorem gRow_nil : gRow [] := ⟨List.Pairwise.nil, by simp⟩
theorem inRow_nil (n v : List UInt8) : ¬ inRow [] n v := by rintro ⟨a, h, _⟩; cases h
/-- The order and doubling of words of a row is nothing. -/
theorem rowF_same {ws us : List (List UInt8)} (h : rowW ws) (k : rowW us) (e : ∀ s, s ∈ ws ↔ s ∈ us) : rowF ws [] = rowF us [] := by
  obtain ⟨h1, h2⟩ := rowF_ok h gRow_nil
  obtain ⟨k1, k2⟩ := rowF_ok k gRow_nil
  refine row_ext h1 k1 fun n v => ?_
  rw [h2, k2, e]
theorem wVals_mem {nm s : List UInt8} {l : List (List UInt8)} : s ∈ wVals nm l ↔ ∃ v ∈ l, s = payload { name := nm, value := v } := by
  induction l with
  | nil => simp [wVals]
  | cons v r ih =>
    have hp : nm ++ [61] ++ v = payload { name := nm, value := v } := by simp [payload]
    simp only [wVals, List.mem_cons, ih, hp]
    constructor
    · rintro (h | ⟨x, hx, h⟩)
      · exact ⟨v, .inl rfl, h⟩
      · exact ⟨x, .inr hx, h⟩
    · rintro ⟨x, rfl | hx, h⟩
      · exact .inl h
      · exact .inr ⟨x, hx, h⟩
theorem wAlts_mem {s : List UInt8} {l : List Alt} : s ∈ wAlts l ↔ ∃ a ∈ l, ∃ v ∈ a.values, s = payload { name := a.name, value := v } := by
  induction l with
  | nil => simp [wAlts]
  | cons a r ih => simp [wAlts, wVals_mem, ih]
/-- A row's own words make it. -/
theorem wAlts_row {row : List Alt} (h : gRow row) : rowW (wAlts row) ∧ rowF (wAlts row) [] = row ∧ (row ≠ [] → wAlts row ≠ []) := by
  have hw : rowW (wAlts row) := by
    intro s hs
    obtain ⟨a, ha, v, hv, e⟩ := wAlts_mem.1 hs
    exact ⟨_, (h.2 a ha).2.2 v hv, e⟩
  obtain ⟨h1, h2⟩ := rowF_ok hw gRow_nil
  refine ⟨hw, row_ext h1 h fun n v => ?_, fun hne => ?_⟩
  · rw [h2]
    constructor
    · rintro (h3 | ⟨h3, h4⟩)
      · exact absurd h3 (inRow_nil n v)
      · obtain ⟨a, ha, x, hx, e⟩ := wAlts_mem.1 h3
        have h5 := (pay_split h4.1).symm.trans ((congrArg splitF e).trans (pay_split ((h.2 a ha).2.2 x hx).1))
        have h6 := congrArg Prod.fst h5
        simp only [Pr.mk.injEq] at h6
        exact ⟨a, ha, h6.1.symm, by rw [h6.2]; exact hx⟩
    · rintro ⟨a, ha, rfl, hv⟩
      exact .inr ⟨wAlts_mem.2 ⟨a, ha, v, hv, rfl⟩, (h.2 a ha).2.2 v hv⟩
  · intro he
    obtain ⟨a, ha⟩ := List.exists_mem_of_ne_nil _ hne
    obtain ⟨v, hv⟩ := List.exists_mem_of_ne_nil _ (h.2 a ha).1
    have : payload { name := a.name, value := v } ∈ wAlts row := wAlts_mem.2 ⟨a, ha, v, hv, rfl⟩
    rw [he] at this; cases this
/-! what compiles: its rows -/
theorem comSt_g {b c : Bool} {o : List (List UInt8)} {rows : List (List Alt)} {row : List Alt} (h : wr b o c) (hb : b = true → row ≠ []) (hr : gRow row) (hs : ∀ r ∈ rows, gRow r ∧ r ≠ []) :
    gRow (comSt o rows row).2 ∧ ∀ r ∈ (comSt o rows row).1, gRow r ∧ r ≠ [] := by
  induction o generalizing b rows row with
  | nil => exact ⟨hr, hs⟩
  | cons s o ih =>
    rw [comSt_cons s o]
    rcases h with ⟨h1, h2, h3⟩ | ⟨⟨p, h1, h2⟩, h3⟩
    · rw [if_pos h1]
      exact ih h3 (by simp) gRow_nil fun r hrm => by
        rcases List.mem_append.1 hrm with h4 | h4
        · exact hs r h4
        · simp at h4; subst h4; exact ⟨hr, hb h2⟩
    · subst h2
      rw [if_neg (pay_ne p), pay_split h1.1]
      exact ih h3 (fun _ => putA_ne _ _) (gRow_put hr h1) hs
theorem wRows_st : ∀ (l : List (List Alt)) (j : Nat) (rows : List (List Alt)) (row : List Alt), (∀ r ∈ l, gRow r ∧ r ≠ []) → l ≠ [] → (0 < j → row ≠ []) → (j = 0 → row = []) →
    wr (decide (0 < j)) (wRows l j) true ∧ (comSt (wRows l j) rows row).1 ++ [(comSt (wRows l j) rows row).2] = (if 0 < j then rows ++ [row] else rows) ++ l
  | [], _, _, _, _, h, _, _ => absurd rfl h
  | r :: rest, j, rows, row, hg, _, hj, hj0 => by
    obtain ⟨g1, g2⟩ := hg r (by simp)
    obtain ⟨k1, k2, k3⟩ := wAlts_row g1
    have k3 := k3 g2
    have main : ∀ (rows : List (List Alt)), wr false (wAlts r ++ wRows rest (j + 1)) true ∧ (comSt (wAlts r ++ wRows rest (j + 1)) rows []).1 ++ [(comSt (wAlts r ++ wRows rest (j + 1)) rows []).2] = rows ++ r :: rest := by
      intro rows
      by_cases he : rest = []
      · subst he
        simp only [wRows, List.append_nil]
        rw [row_st k1, k2]
        exact ⟨row_wr k1 (.inl k3), rfl⟩
      · obtain ⟨i1, i2⟩ := wRows_st rest (j + 1) rows r (fun q hq => hg q (by simp [hq])) he (fun _ => g2) (by omega)
        rw [comSt_app, row_st k1, k2]
        refine ⟨wr_app (row_wr k1 (.inl k3)) (by simpa using i1), ?_⟩
        rw [i2]; simp
    simp only [wRows]
    by_cases h0 : 0 < j
    · simp only [h0, if_true, decide_true]
      obtain ⟨m1, m2⟩ := main (rows ++ [row])
      refine ⟨.inl ⟨rfl, rfl, m1⟩, ?_⟩
      rw [List.singleton_append, comSt_cons, if_pos rfl]
      exact m2
    · simp only [h0, if_false, List.nil_append, decide_false]
      obtain ⟨m1, m2⟩ := main rows
      have : row = [] := hj0 (by omega)
      subst this
      exact ⟨m1, m2⟩
theorem cntA_ins (l : List Alt) (i : Nat) (x : Alt) : cntA (l.take i ++ x :: l.drop i) = cntA l + x.values.length := by
  have app : ∀ a b : List Alt, cntA (a ++ b) = cntA a + cntA b := by
    intro a b
    induction a with
    | nil => simp [cntA]
    | cons y a ih => simp [cntA, ih]; omega
  have := app (l.take i) (l.drop i)
  rw [List.take_append_drop] at this
  rw [app]; simp only [cntA]; omega
theorem cntA_set : ∀ {l : List Alt} {i : Nat} {x y : Alt}, l[i]? = some x → cntA (l.set i y) + x.values.length = cntA l + y.values.length
  | [], _, _, _, h => by simp at h
  | a :: l, 0, x, y, h => by simp at h; subst h; simp [cntA]; omega
  | a :: l, i + 1, x, y, h => by have := cntA_set (l := l) (i := i) (y := y) (by simpa using h); simp [cntA]; omega
theorem cntA_put (l : List Alt) (p : Pr) : cntA (putA l p) ≤ cntA l + 1 := by
  obtain ⟨x, hx, _⟩ := preA_at l p.name
  rw [putA_eq hx]
  have h1 := cntA_set (y := { name := x.name, values := putT x.values p.value }) hx
  have h2 := putT_len x.values p.value
  have h3 : cntA (preA l p.name) = cntA l := by
    unfold preA
    split
    · rfl
    · rw [cntA_ins]; rfl
  simp only at h1
  omega
theorem comSt_cnt {b c : Bool} {o : List (List UInt8)} {rows : List (List Alt)} {row : List Alt} (h : wr b o c) : (comSt o rows row).1.length + cntR (comSt o rows row).1 + cntA (comSt o rows row).2 ≤ rows.length + cntR rows + cntA row + o.length := by
  have app : ∀ (a : List (List Alt)) (r : List Alt), cntR (a ++ [r]) = cntR a + cntA r := by
    intro a r
    induction a with
    | nil => simp [cntR]
    | cons y a ih => simp [cntR, ih]; omega
  induction o generalizing b rows row with
  | nil => simp [comSt]
  | cons s o ih =>
    rw [comSt_cons s o]
    rcases h with ⟨h1, h2, h3⟩ | ⟨⟨p, h1, h2⟩, h3⟩
    · rw [if_pos h1]
      have := ih (rows := rows ++ [row]) (row := []) h3
      rw [app] at this
      simp only [List.length_append, List.length_cons, List.length_nil] at this ⊢
      have h0 : cntA [] = 0 := rfl
      omega
    · subst h2
      rw [if_neg (pay_ne p), pay_split h1.1]
      have := ih (rows := rows) (row := putA row p) h3
      have h4 := cntA_put row p
      simp only [List.length_cons]
      omega
/-! right -/
theorem vals_right {vs : List (List UInt8)} (h : rT vs) (hb : ∀ v ∈ vs, v.length ≤ 256) : ∀ (l : List (List UInt8)) (i : Nat), vs.drop i = l → valsGo vs l i = true
  | [], _, _ => rfl
  | v :: r, i, e => by
    have hi : vs[i]? = some v := by
      have := congrArg (fun z : List (List UInt8) => z[0]?) e
      simpa using this
    unfold valsGo
    have h1 := hb v (List.mem_of_getElem? hi)
    rw [if_neg (by omega), if_neg]
    · refine vals_right h hb r (i + 1) ?_
      rw [← List.drop_drop, e]; rfl
    · rintro ⟨h0, h2⟩
      obtain ⟨hi1, hi2⟩ := List.getElem?_eq_some_iff.1 hi
      have h3 := List.pairwise_iff_getElem.1 h (i - 1) i (by omega) hi1 (by omega)
      rw [txt_getD (List.getElem?_eq_getElem (by omega)), ← hi2, h3] at h2
      cases h2
theorem alt_right {row : List Alt} (h : gRow row) {i : Nat} {a : Alt} (hi : row[i]? = some a) : altF a (row.take i) = true := by
  obtain ⟨h1, h2, h3⟩ := h.2 a (List.mem_of_getElem? hi)
  obtain ⟨v, hv⟩ := List.exists_mem_of_ne_nil _ h1
  have hg := (h3 v hv).1
  have hn : isName a.name = true := by
    rw [← joinC_right] at hg
    unfold joinC at hg
    split at hg
    · cases hg
    · rename_i hh; simpa [Pr.pb] using hh
  unfold altF
  rw [if_neg]
  · exact vals_right h2 (fun v hv => (pay_bd (h3 v hv).1).2) _ 0 (by simp)
  · rintro (h4 | h4 | ⟨h4, h5⟩)
    · rw [hn] at h4; cases h4
    · exact h1 (List.eq_nil_of_length_eq_zero h4)
    · obtain ⟨hi1, hi2⟩ := List.getElem?_eq_some_iff.1 hi
      have hl : (row.take i).length = i := by simp; omega
      rw [hl] at h4 h5
      have h6 := List.pairwise_iff_getElem.1 h.1 (i - 1) i (by omega) hi1 (by omega)
      have h7 : (row.take i)[i - 1]? = some (row[i - 1]'(by omega)) := by rw [List.getElem?_take, if_pos (by omega)]; exact List.getElem?_eq_getElem _
      rw [alt_getD h7, ← hi2, h6] at h5
      cases h5
theorem rAlts_right {row : List Alt} (h : gRow row) : ∀ (l : List Alt) (i n : Nat), row.drop i = l → n + cntA l ≤ 32 → rAlts row l i n = some (n + cntA l)
  | [], i, n, _, _ => rfl
  | a :: r, i, n, e, hn => by
    have hi : row[i]? = some a := by
      have := congrArg (fun z : List Alt => z[0]?) e
      simpa using this
    unfold rAlts
    simp only [cntA] at hn ⊢
    rw [if_neg (by rw [alt_right h hi]; simp; omega), rAlts_right h r (i + 1) _ (by rw [← List.drop_drop, e]; rfl) (by omega)]
    congr 1; omega
theorem rRows_right : ∀ (l : List (List Alt)) (n : Nat), (∀ r ∈ l, gRow r ∧ r ≠ []) → n + cntR l ≤ 32 → rRows l n = true
  | [], _, _, _ => rfl
  | r :: rest, n, h, hn => by
    obtain ⟨h1, h2⟩ := h r (by simp)
    unfold rRows
    simp only [cntR] at hn
    rw [if_neg (by have := List.length_pos_iff.2 h2; omega), rAlts_right h1 r 0 n rfl (by omega)]
    exact rRows_right rest _ (fun q hq => h q (by simp [hq])) (by omega)
theorem cntR_app (a : List (List Alt)) (r : List Alt) : cntR (a ++ [r]) = cntR a + cntA r := by
  induction a with
  | nil => simp [cntR]
  | cons y a ih => simp [cntR, ih]; omega
section
variable {o : List (List UInt8)} {m x : Mat} {c c' : Nat}
/-- What is compiled: its rows, that it is right, that its words compile to it. -/
theorem com_good (h : comF o = (m, c)) (hw : wr false o true) (hl : o.length ≤ 32) : (∀ r ∈ m.rows, gRow r ∧ r ≠ []) ∧ m.rows ≠ [] ∧ rightF m = true ∧ comF (wordsM m) = (m, 0) := by
  have e := ways_m h hw hl
  obtain ⟨_, ha2⟩ := com_all (rows := []) (row := []) hw (by simp)
  obtain ⟨g1, g2⟩ := comSt_g (rows := []) (row := []) hw (by simp) gRow_nil (by simp)
  have hc := comSt_cnt (rows := []) (row := []) hw
  simp only [List.length_nil, cntR, cntA] at hc
  have hg : ∀ r ∈ m.rows, gRow r ∧ r ≠ [] := by
    rw [e]
    intro r hr
    rcases List.mem_append.1 hr with h4 | h4
    · exact g2 r h4
    · simp at h4; subst h4; exact ⟨g1, ha2⟩
  have hcnt : m.rows.length - 1 + cntR m.rows ≤ 32 := by rw [e, cntR_app]; simp; omega
  have hr : rightF m = true := rRows_right m.rows _ hg hcnt
  have hne : m.rows ≠ [] := by rw [e]; simp
  refine ⟨hg, hne, hr, ?_⟩
  have hwd : wordsM m = wRows m.rows 0 := by unfold wordsM; rw [if_pos hr]
  obtain ⟨w1, w2⟩ := wRows_st m.rows 0 [] [] hg hne (by omega) (fun _ => rfl)
  simp only [Nat.lt_irrefl, if_false, decide_false, List.nil_append] at w1 w2
  have hlen := rightM_len hr
  rw [hwd]
  unfold comF
  rw [if_neg (by omega), (com_all (rows := []) (row := []) w1 (by simp)).1, w2]
/-- Words that come to the same rows compile to the same. -/
theorem com_like {b : List (List UInt8)} (h : comF o = (m, c)) (hw : wr false o true) (hl : o.length ≤ 32) (hb : wr false b true) (hbl : b.length ≤ 32) (e : comSt b [] [] = comSt o [] []) : comF b = (m, 0) := by
  have e1 := ways_m h hw hl
  unfold comF
  rw [if_neg (by omega), (com_all (rows := []) (row := []) hb (by simp)).1, e, ← e1]
end
end Go.Wk
namespace Go.Wk
open Go Go.RowKit
def backGo (d : Bool) : List (List UInt8) → List (List UInt8) → List (List UInt8) → List (List UInt8)
  | [], back, row => back ++ row
  | s :: r, back, row => if s = [43] then backGo d r (back ++ row ++ [[43]]) [] else backGo d r back (if d = true then [s] ++ ([s] ++ row) else [s] ++ row)
theorem back_cons (d : Bool) (s : List UInt8) (r back row : List (List UInt8)) : backGo d (s :: r) back row = if s = [43] then backGo d r (back ++ row ++ [[43]]) [] else backGo d r back (if d = true then [s] ++ ([s] ++ row) else [s] ++ row) := rfl
section
variable {d : Bool} {l back row : List (List UInt8)} {i : Nat} {s : List UInt8}
theorem back_end (h : ¬ i < l.length) : backGo d (l.drop i) back row = back ++ row := by rw [drop_end (by omega)]; rfl
theorem back_plus (h : l[i]? = some s) (e : s = [43]) : backGo d (l.drop i) back row = backGo d (l.drop (i + 1)) (back ++ row ++ [[43]]) [] := by
  rw [drop_get h, back_cons, if_pos e]
theorem back_two (h : l[i]? = some s) (e : ¬ s = [43]) (hd : d = true) : backGo d (l.drop i) back row = backGo d (l.drop (i + 1)) back ([s] ++ ([s] ++ row)) := by
  rw [drop_get h, back_cons, if_neg e, if_pos hd]
theorem back_one (h : l[i]? = some s) (e : ¬ s = [43]) (hd : d = false) : backGo d (l.drop i) back row = backGo d (l.drop (i + 1)) back ([s] ++ row) := by
  rw [drop_get h, back_cons, if_neg e, hd]; rfl
end
theorem rowF_app (a b : List (List UInt8)) (row : List Alt) : rowF (a ++ b) row = rowF b (rowF a row) := by unfold rowF; rw [List.foldl_append]
theorem back_ok (d : Bool) : ∀ (ws : List (List UInt8)) (b : Bool) (back row : List (List UInt8)) (rows : List (List Alt)) (rw' : List Alt), wr b ws true → wr false back false → rowW row → (b = true → row ≠ []) → (b = false → row = []) →
    comSt back [] [] = (rows, []) → rowF row [] = rw' →
    wr false (backGo d ws back row) true ∧ comSt (backGo d ws back row) [] [] = comSt ws rows rw' ∧ (backGo d ws back row).length ≤ back.length + row.length + (if d = true then 2 else 1) * ws.length
  | [], b, back, row, rows, rw', hw, hb, hr, h1, h0, hs, hf => by
    simp only [wr] at hw
    unfold backGo
    refine ⟨wr_app hb (row_wr hr (.inl (h1 hw))), ?_, by simp⟩
    rw [comSt_app, hs, row_st hr, hf]
    rfl
  | s :: r, b, back, row, rows, rw', hw, hb, hr, h1, h0, hs, hf => by
    rw [comSt_cons]
    rcases hw with ⟨e1, e2, e3⟩ | ⟨⟨p, e1, e2⟩, e3⟩
    · have hgo : backGo d (s :: r) back row = backGo d r (back ++ row ++ [[43]]) [] := by rw [back_cons, if_pos e1]
      rw [hgo, if_pos e1]
      have hb2 : wr false (back ++ row ++ [[43]]) false := wr_app (wr_app hb (row_wr hr (.inl (h1 e2)))) (.inl ⟨rfl, rfl, rfl⟩)
      obtain ⟨g1, g2, g3⟩ := back_ok d r false (back ++ row ++ [[43]]) [] (rows ++ [rw']) [] e3 hb2 (by intro x hx; cases hx) (by simp) (by simp)
        (by rw [List.append_assoc, comSt_app, hs, comSt_app, row_st hr, hf]; rfl) rfl
      refine ⟨g1, g2, ?_⟩
      simp only [List.length_append, List.length_cons, List.length_nil] at g3 ⊢
      split at g3 <;> simp_all <;> omega
    · have hne : ¬ s = [43] := by rw [e2]; exact pay_ne p
      rw [if_neg hne]
      have hs1 : (splitF s).1 = p := by rw [e2, pay_split e1.1]
      rw [hs1]
      have key : ∀ row2, (∀ x, x ∈ row2 ↔ x ∈ row ++ [s]) → row2 ≠ [] → backGo d (s :: r) back row = backGo d r back row2 → row2.length = row.length + (if d = true then 2 else 1) → wr false (backGo d (s :: r) back row) true ∧ comSt (backGo d (s :: r) back row) [] [] = comSt r rows (putA rw' p) ∧ (backGo d (s :: r) back row).length ≤ back.length + row.length + (if d = true then 2 else 1) * (s :: r).length := by
        intro row2 hm hn hgo hlen
        have hra : rowW (row ++ [s]) := by
          intro x hx
          rcases List.mem_append.1 hx with hx | hx
          · exact hr x hx
          · simp at hx; subst hx; exact ⟨p, e1, e2⟩
        have hr2 : rowW row2 := fun x hx => hra x ((hm x).1 hx)
        have hf2 : rowF row2 [] = putA rw' p := by
          rw [rowF_same hr2 hra hm, rowF_app, hf]
          unfold rowF
          simp [hs1]
        obtain ⟨g1, g2, g3⟩ := back_ok d r true back row2 rows (putA rw' p) e3 hb hr2 (fun _ => hn) (by simp) hs hf2
        rw [hgo]
        refine ⟨g1, g2, ?_⟩
        rw [hlen] at g3
        simp only [List.length_cons]
        split at g3 <;> simp_all <;> omega
      cases d with
      | true =>
        refine key ([s] ++ ([s] ++ row)) (by intro x; simp [or_comm]) (by simp) ?_ (by simp)
        rw [back_cons, if_neg hne]; rfl
      | false =>
        refine key ([s] ++ row) (by intro x; simp [or_comm]) (by simp) ?_ (by simp)
        rw [back_cons, if_neg hne]; rfl
/-- What the law asks of the words put the other way round. -/
theorem back_com {d : Bool} {o b : List (List UInt8)} {m x : Mat} {c c' : Nat} (h : comF o = (m, c)) (hw : o = [] ∨ wr false o true) (hl : o.length ≤ 20) (hd : d = true → o.length ≤ 14) (hb : backGo d o [] [] = b) (hx : comF b = (x, c')) : c' = 0 ∧ x = m := by
  rcases hw with rfl | hw
  · have : b = [] := by rw [← hb]; rfl
    subst this
    rw [h] at hx
    cases h; cases hx
    exact ⟨rfl, rfl⟩
  · obtain ⟨g1, g2, g3⟩ := back_ok d o false [] [] [] [] hw rfl (by intro x hx; cases hx) (by simp) (by simp) rfl rfl
    rw [hb] at g1 g2 g3
    have hbl : b.length ≤ 32 := by
      simp only [List.length_nil] at g3
      cases d with
      | true => have := hd rfl; simp at g3; omega
      | false => simp at g3; omega
    have := com_like h hw (by omega) g1 hbl g2
    rw [hx] at this
    cases this
    exact ⟨rfl, rfl⟩
theorem words_com {o : List (List UInt8)} {m x : Mat} {c c' : Nat} (h : comF o = (m, c)) (hw : o = [] ∨ wr false o true) (hl : o.length ≤ 20) (hx : comF (wordsM m) = (x, c')) : c' = 0 ∧ x = m := by
  rcases hw with rfl | hw
  · cases h; cases hx; exact ⟨rfl, rfl⟩
  · have := (com_good h hw (by omega)).2.2.2
    rw [hx] at this
    cases this
    exact ⟨rfl, rfl⟩
theorem com_right {o : List (List UInt8)} {m : Mat} {c : Nat} (h : comF o = (m, c)) (hw : o = [] ∨ wr false o true) (hl : o.length ≤ 20) : rightF m = true ∧ (∀ r ∈ m.rows, ∀ a ∈ r, a.values.length ≤ 1000000) := by
  rcases hw with rfl | hw
  · cases h; exact ⟨rfl, by intro r hr; cases hr⟩
  · obtain ⟨_, _, h3, _⟩ := com_good h hw (by omega)
    refine ⟨h3, fun r hr a ha => ?_⟩
    have hc := (rRows_ok h3).2 (by rintro e; rw [e] at hr; cases hr)
    have sub : ∀ {l : List Alt}, a ∈ l → a.values.length ≤ cntA l := by
      intro l hl
      induction l with
      | nil => cases hl
      | cons y l ih => rcases List.mem_cons.1 hl with rfl | hl; simp [cntA]; have := ih hl; simp only [cntA]; omega
    have subR : ∀ {l : List (List Alt)}, r ∈ l → cntA r ≤ cntR l := by
      intro l hl
      induction l with
      | nil => cases hl
      | cons y l ih => rcases List.mem_cons.1 hl with rfl | hl; simp [cntR]; have := ih hl; simp only [cntR]; omega
    have := sub ha; have := subR hr
    omega
theorem wRows_mem {s : List UInt8} : ∀ {l : List (List Alt)} {j : Nat}, s ∈ wRows l j → s = [43] ∨ ∃ r ∈ l, ∃ a ∈ r, ∃ v ∈ a.values, s = payload { name := a.name, value := v }
  | [], _, h => by cases h
  | r :: rest, j, h => by
    simp only [wRows, List.mem_append] at h
    rcases h with h | h | h
    · split at h
      · simp at h; exact .inl h
      · cases h
    · obtain ⟨a, ha, v, hv, e⟩ := wAlts_mem.1 h
      exact .inr ⟨r, by simp, a, ha, v, hv, e⟩
    · exact (wRows_mem h).imp id fun ⟨q, hq, hh⟩ => ⟨q, by simp [hq], hh⟩
theorem wordsM_bd {m : Mat} : ∀ s ∈ wordsM m, s.length ≤ 1000 := by
  intro s hs
  unfold wordsM at hs
  split at hs
  · rename_i hr
    rcases wRows_mem hs with h | ⟨r, h1, a, h2, v, h3, e⟩
    · subst h; simp
    · obtain ⟨b1, b2⟩ := right_bd hr h1 h2
      have := b2 v h3
      rw [e]; simp [payload]; omega
  · cases hs
theorem mem_bd {a b : List (List UInt8)} (h : ∀ s ∈ a, s.length ≤ 1000) (k : ∀ s ∈ b, s.length ≤ 1000) : ∀ s ∈ a ++ b, s.length ≤ 1000 := by
  intro s hs
  rcases List.mem_append.1 hs with hs | hs
  · exact h s hs
  · exact k s hs
theorem one_bd {s : List UInt8} (h : s.length ≤ 1000) : ∀ x ∈ [s], x.length ≤ 1000 := by intro x hx; simp at hx; subst hx; exact h
theorem eqAs_self (l : List Alt) : eqAs l l = true := by
  induction l with
  | nil => rfl
  | cons a r ih => unfold eqAs; rw [ih]; simp [eqAlt, sameTextsF, eqT_self]
theorem eqRs_self (l : List (List Alt)) : eqRs l l = true := by
  induction l with
  | nil => rfl
  | cons a r ih => unfold eqRs; rw [ih]; simp [eqRow, eqAs_self]
theorem sameM_self (m : Mat) : sameM m m = true := by unfold sameM eqRows; simp [eqRs_self]
end Go.Wk
namespace Go.Proofs.Ytimhhcacjiombaa
open Go Go.Wk Go.RowKit
set_option linter.unusedVariables false
set_option linter.unusedSimpArgs false
attribute [local irreducible] wpList wpQuiet wpStill wpMix Code.wp Calls bodyPost
theorem agg33 : isAggN Try.prog 33 2 = true := by kernel_rfl
theorem el3 : elemIs Try.prog 3 1 = true := by kernel_rfl
theorem el9 : elemIs Try.prog 9 1 = true := by kernel_rfl
theorem elT33 : elT Try.prog 33 2 32 = true := by kernel_rfl
theorem elT9 : elT Try.prog 9 1 16 = true := by kernel_rfl
theorem fn11 : isFn Try.prog 11 = true := by kernel_rfl
theorem fn26 : isFn Try.prog 26 = true := by kernel_rfl
theorem fn27 : isFn Try.prog 27 = true := by kernel_rfl
theorem fn28 : isFn Try.prog 28 = true := by kernel_rfl
theorem fn44 : isFn Try.prog 44 = true := by kernel_rfl
theorem mixed : Try.prog.follows .mixedOrders = true := by kernel_rfl
theorem off28_0 : fieldOff Try.prog 28 0 = some 0 := by kernel_rfl
theorem off28_1 : fieldOff Try.prog 28 1 = some 1 := by kernel_rfl
theorem one22 : isOne Try.prog 22 = true := by kernel_rfl
theorem one3 : isOne Try.prog 3 = true := by kernel_rfl
theorem one9 : isOne Try.prog 9 = true := by kernel_rfl
theorem pl33 : bplace Try.prog 33 = some [(0, 1), (1, 1)] := by kernel_rfl
theorem u22 : Try.prog.underlying 22 = some (.slice 3) := by kernel_rfl
theorem u24 : Try.prog.underlying 24 = some (.slice 9) := by kernel_rfl
theorem u29 : Try.prog.underlying 29 = some (.slice 33) := by kernel_rfl
theorem z33 : zcells Try.prog 33 = some [.string ByteArray.empty, .string ByteArray.empty] := by kernel_rfl

theorem kNumber_any {w : World} {Q : Nat → Prop} (uQ : Up w Q) (k : Int) (a0 : (-9223372036854775808 ≤ k ∧ k < 9223372036854775808)) (n : Nat) (a1 : n < 9223372036854775808) (p0 : n ≤ 1000000) :
    Calls Try.prog 44 #[(.int .i64 (k : Int)), (.int .i64 ((n : Nat) : Int))] w fun en w' => ∃ r0 : Nat, en = .returned (.int .i64 ((r0 : Nat) : Int)) ∧ Md [] w w' ∧ r0 < 9223372036854775808 ∧ numF k n = r0 := by
  have M := Md.refl [] w; have uQ0 := uQ; have tQ : ∀ b, Q b → Q b := fun _ h => h; have sQ0 : ∀ b, Q b → b < w.heap.size → Q b := fun _ h _ => h; refine enter (n := 14) Try.func44 rfl rfl rfl ?_; intro B; refine ns ?_; refine asg rfl ?_; refine nt ?_; refine c_seq ?_; refine ns ?_; refine mv rfl ?_; refine st _ (r_ltN (a := n) (b := 1) rfl rfl) ?_; refine nt ?_; refine c_if rfl (fun h6 => ?_) (fun h6 => ?_)
  · (first | (have h6n := of_decide_eq_true h6) | (have h6n := of_decide_eq_false (bnt h6)) | (have h6n := bnt h6) | (have h6n := h6)); refine ns ?_; refine asg rfl ?_; refine nt ?_; refine c_ret ?_; refine r_then ?_; exact ret1L (v := (.int .i64 ((0 : Nat) : Int))) trivial rfl ⟨rfl, trivial⟩ ⟨0, rfl, M, (by first | assumption | omega | simp_all), (by rw [numF] <;> simp (disch := first | omega | assumption | (simp; done) | fail) only [if_pos, if_neg, Option.getD_some, Option.some.injEq, reduceIte, Bool.false_eq_true, Bool.true_eq_false, decide_true, decide_false, not_true_eq_false, not_false_eq_true, h6n])⟩
  · (first | (have h6n := of_decide_eq_false h6) | (have h6n := of_decide_eq_true (bnf h6)) | (have h6n := bnf h6) | (have h6n := h6)); refine c_skip ?_; refine c_then ?_; refine ns ?_; refine mv rfl ?_; refine mv rfl ?_; refine st _ (r_remZ (a := k) (b := ((n : Nat) : Int)) rfl rfl (by omega)) ?_; refine mv rfl ?_; have hg := num_ge (k := k) h6n; refine st _ (r_addI (a := k.tmod (((n : Nat) : Int))) (b := ((n : Nat) : Int)) rfl rfl (by omega)) ?_; refine mv rfl ?_; refine st _ (((r_remZ (a := k.tmod (((n : Nat) : Int)) + ((n : Nat) : Int)) (b := ((n : Nat) : Int)) rfl rfl (by omega)).castI (Int.toNat_of_nonneg (Int.tmod_nonneg _ (by omega))).symm)) ?_; have hq := Int.tmod_lt_of_pos (k.tmod (n : Int) + (n : Int)) (show (0 : Int) < n by omega); refine asg rfl ?_; refine nt ?_; refine c_ret ?_; exact ret1L (v := (.int .i64 ((((k.tmod (((n : Nat) : Int)) + ((n : Nat) : Int)).tmod (((n : Nat) : Int))).toNat : Nat) : Int))) trivial rfl ⟨rfl, trivial⟩ ⟨((k.tmod (((n : Nat) : Int)) + ((n : Nat) : Int)).tmod (((n : Nat) : Int))).toNat, rfl, M, (by first | assumption | omega | simp_all), (by rw [numF] <;> simp (disch := first | omega | assumption | (simp; done) | fail) only [if_pos, if_neg, Option.getD_some, Option.some.injEq, reduceIte, Bool.false_eq_true, Bool.true_eq_false, decide_true, decide_false, not_true_eq_false, not_false_eq_true, h6n])⟩
theorem kMore_any {w : World} {Q : Nat → Prop} (uQ : Up w Q) {b0 : Nat} {v0_0 : Value} (s : Sq) (h0 : Blk w b0 (Sq.cells s v0_0) 28) (n0 : ¬ Q b0) (a0_0 : Sq.ok s) (a0_1 : Ls tInt w Q v0_0 s.l) :
    Calls Try.prog 25 #[.pointer (some ⟨b0, 0, none⟩)] w fun en w' => ∃ r0 : Bool, ∃ m0 : Sq, ∃ u50_0 : Value, en = .returned (.bool r0) ∧ Md [b0] w w' ∧ Blk w' b0 (Sq.cells m0 u50_0) 28 ∧ ¬ Q b0 ∧ Sq.ok m0 ∧ Ls tInt w' Q u50_0 m0.l ∧ s.more = (r0, m0) := by
  have n_h0 := n0; have p_h0 : Fsh [b0] w b0 := .inl (by simp); have M := Md.refl [b0] w; have uQ0 := uQ; have tQ : ∀ b, Q b → Q b := fun _ h => h; have sQ0 : ∀ b, Q b → b < w.heap.size → Q b := fun _ h _ => h; refine enter (n := 13) Try.func25 rfl rfl rfl ?_; intro B; refine ns ?_; refine asg rfl ?_; refine nt ?_; refine c_seq ?_; have a0_1_q := a0_1; have h0_q := h0; refine c_mixT [(0, true), (1, true), (2, true), (3, true), (4, true), (5, true), (6, true), (7, true), (8, true)] [9, 10] (fun w' => Md [] w w') mixed (by kernel_rfl) ?_; intro w1 hd0; refine ⟨hd0.mono (by simp), ?_⟩; have MC := hd0.mono (T := []) (by simp); refine Go.Wk.m _ (fun w' hc => r_move rfl) ?_; refine Go.Wk.m _ (fun w' hc => r_nil rfl) ?_; refine Go.Wk.m _ (fun w' hc => r_field rfl off28_1) ?_; refine Go.Wk.m _ (fun w' hc => (r_loadBlk rfl one3 (h0_q.md0 hc) rfl).to (b := (.int .i64 ((s.pos : Nat) : Int))) rfl) ?_; have q2 : s.pos < 9223372036854775808 := a0_0; refine Go.Wk.m _ (fun w' hc => r_move rfl) ?_; refine Go.Wk.m _ (fun w' hc => r_nil rfl) ?_; refine Go.Wk.m _ (fun w' hc => r_field rfl off28_0) ?_; refine Go.Wk.m _ (fun w' hc => (r_loadBlk rfl one22 (h0_q.md0 hc) rfl).to (b := v0_0) rfl) ?_; refine Go.Wk.m _ (fun w' hc => r_len rfl u22 a0_1.shp) ?_; refine m_nil ?_; replace a0_1 := a0_1.md0 hd0; replace h0 := h0.md0 hd0; replace uQ := uQ.md hd0; replace M := M.step0 hd0; clear a0_1_q h0_q; clear MC; refine st _ (r_ltN (a := s.pos) (b := s.l.length) rfl rfl) ?_; refine asg rfl ?_; refine nt ?_; refine c_ret ?_; exact ret1L (v := (.bool ((decide (s.pos < s.l.length))))) trivial rfl ⟨rfl, trivial⟩ ⟨(decide (s.pos < s.l.length)), s, _, rfl, M, h0, n0, a0_0, (a0_1.sub (fun b hb _ => tQ b hb)), (by rw [Sq.more] <;> simp (disch := first | omega | assumption | (simp; done) | fail) only [if_pos, if_neg, Option.getD_some, Option.some.injEq, reduceIte, Bool.false_eq_true, Bool.true_eq_false, decide_true, decide_false, not_true_eq_false, not_false_eq_true])⟩
theorem kN_any {w : World} {Q : Nat → Prop} (uQ : Up w Q) {b0 : Nat} {v0_0 : Value} (s : Sq) (h0 : Blk w b0 (Sq.cells s v0_0) 28) (n0 : ¬ Q b0) (a0_0 : Sq.ok s) (a0_1 : Ls tInt w Q v0_0 s.l) (n : Nat) (a1 : n < 9223372036854775808) (p0 : n ≤ 1000000) :
    Calls Try.prog 26 #[.pointer (some ⟨b0, 0, none⟩), (.int .i64 ((n : Nat) : Int))] w fun en w' => ∃ r0 : Nat, ∃ m0 : Sq, ∃ u50_0 : Value, en = .returned (.int .i64 ((r0 : Nat) : Int)) ∧ Md [b0] w w' ∧ r0 < 9223372036854775808 ∧ Blk w' b0 (Sq.cells m0 u50_0) 28 ∧ ¬ Q b0 ∧ Sq.ok m0 ∧ Ls tInt w' Q u50_0 m0.l ∧ s.num n = (r0, m0) := by
  have L0 := a0_1.len63; have n_h0 := n0; have p_h0 : Fsh [b0] w b0 := .inl (by simp); have M := Md.refl [b0] w; have uQ0 := uQ; have tQ : ∀ b, Q b → Q b := fun _ h => h; have sQ0 : ∀ b, Q b → b < w.heap.size → Q b := fun _ h _ => h; refine enter (n := 35) Try.func26 rfl rfl rfl ?_; intro B; refine ns ?_; refine asg rfl ?_; refine nt ?_; refine c_seq ?_; refine c_seq ?_; have a0_1_q := a0_1; have h0_q := h0; refine c_mixT [(0, true), (1, true), (2, true), (3, true), (4, true), (5, true), (6, true), (7, true), (8, true)] [9] (fun w' => Md [] w w') mixed (by kernel_rfl) ?_; intro w1 hd0; refine ⟨hd0.mono (by simp), ?_⟩; have MC := hd0.mono (T := []) (by simp); refine Go.Wk.m _ (fun w' hc => r_move rfl) ?_; refine Go.Wk.m _ (fun w' hc => r_nil rfl) ?_; refine Go.Wk.m _ (fun w' hc => r_field rfl off28_1) ?_; refine Go.Wk.m _ (fun w' hc => (r_loadBlk rfl one3 (h0_q.md0 hc) rfl).to (b := (.int .i64 ((s.pos : Nat) : Int))) rfl) ?_; have q2 : s.pos < 9223372036854775808 := a0_0; refine Go.Wk.m _ (fun w' hc => r_move rfl) ?_; refine Go.Wk.m _ (fun w' hc => r_nil rfl) ?_; refine Go.Wk.m _ (fun w' hc => r_field rfl off28_0) ?_; refine Go.Wk.m _ (fun w' hc => (r_loadBlk rfl one22 (h0_q.md0 hc) rfl).to (b := v0_0) rfl) ?_; refine Go.Wk.m _ (fun w' hc => r_len rfl u22 a0_1.shp) ?_; refine m_nil ?_; replace a0_1 := a0_1.md0 hd0; replace h0 := h0.md0 hd0; replace uQ := uQ.md hd0; replace M := M.step0 hd0; clear a0_1_q h0_q; clear MC; refine st _ (r_geN (a := s.pos) (b := s.l.length) rfl rfl) ?_; refine nt ?_; refine c_if rfl (fun h14 => ?_) (fun h14 => ?_)
  · (first | (have h14n := of_decide_eq_true h14) | (have h14n := of_decide_eq_false (bnt h14)) | (have h14n := bnt h14) | (have h14n := h14)); refine ns ?_; refine asg rfl ?_; refine nt ?_; refine c_ret ?_; refine r_then ?_; exact ret1L (v := (.int .i64 ((0 : Nat) : Int))) trivial rfl ⟨rfl, trivial⟩ ⟨0, s, _, rfl, M, (by first | assumption | omega | simp_all), h0, n0, a0_0, (a0_1.sub (fun b hb _ => tQ b hb)), (by rw [Sq.num] <;> simp (disch := first | omega | assumption | (simp; done) | fail) only [if_pos, if_neg, Option.getD_some, Option.some.injEq, reduceIte, Bool.false_eq_true, Bool.true_eq_false, decide_true, decide_false, not_true_eq_false, not_false_eq_true, h14n])⟩
  · (first | (have h14n := of_decide_eq_false h14) | (have h14n := of_decide_eq_true (bnf h14)) | (have h14n := bnf h14) | (have h14n := h14)); refine c_skip ?_; refine c_then ?_; refine ns ?_; refine mv rfl ?_; refine st _ (r_nil rfl) ?_; refine st _ (r_field rfl off28_1) ?_; refine st _ ((r_loadBlk rfl one3 h0 rfl).to (b := (.int .i64 ((s.pos : Nat) : Int))) rfl) ?_; refine st _ (r_addN (a := s.pos) (b := 1) 9223372036854775808 rfl rfl rfl (by omega)) ?_; refine st _ (r_nil rfl) ?_; refine st _ (r_field rfl off28_1) ?_; refine st_store rfl rfl one3 rfl h0 (Nat.le_of_ble_eq_true rfl) ?_; have h00 := h0; clear h0; intro w3 hm h0; have hS : ∀ b ∈ [b0], ¬ Q b := (by intro b hb; simp at hb; subst hb; exact n_h0); replace a0_1 := a0_1.md hm hS; replace uQ := uQ.md hm; replace M := M.step hm (all_cons p_h0 all_nil); clear h00 hS; obtain ⟨s4, es4⟩ : ∃ y, y = ({ s with pos := s.pos + 1 } : Sq) := ⟨_, rfl⟩; replace h0 : Blk _ _ (Sq.cells ({ s with pos := s.pos + 1 }) v0_0) _ := h0; rw [← es4] at h0; have oks4 : Sq.ok s4 := (by rw [es4]; exact (by unfold Sq.ok; first | exact (by first | omega | assumption | (simp <;> omega) | simp_all) | (simp only; omega))); rw [show s.l = s4.l by rw [es4]] at a0_1; refine nt ?_; refine c_seq ?_; have a0_1_q := a0_1; have h0_q := h0; refine c_mixT [(0, true), (1, true), (2, true), (3, true), (4, true), (5, true), (6, true), (7, true), (8, true), (9, true), (10, true), (11, true)] [12, 13] (fun w' => Md [] w3 w') mixed (by kernel_rfl) ?_; intro w5 hd0; refine ⟨hd0.mono (by simp), ?_⟩; have MC := hd0.mono (T := []) (by simp); have z1 : s4.pos = s.pos + 1 := (by rw [es4]); have z2 : s4.l = s.l := (by rw [es4]); have z3 : s4.l.length = s.l.length := (by rw [es4]); refine Go.Wk.m _ (fun w' hc => r_move rfl) ?_; refine Go.Wk.m _ (fun w' hc => r_nil rfl) ?_; refine Go.Wk.m _ (fun w' hc => r_field rfl off28_0) ?_; refine Go.Wk.m _ (fun w' hc => (r_loadBlk rfl one22 (h0_q.md0 hc) rfl).to (b := v0_0) rfl) ?_; refine Go.Wk.m _ (fun w' hc => r_move rfl) ?_; refine Go.Wk.m _ (fun w' hc => r_nil rfl) ?_; refine Go.Wk.m _ (fun w' hc => r_field rfl off28_1) ?_; refine Go.Wk.m _ (fun w' hc => (r_loadBlk rfl one3 (h0_q.md0 hc) rfl).to (b := (.int .i64 ((s4.pos : Nat) : Int))) rfl) ?_; have q6 : s4.pos < 9223372036854775808 := oks4; refine Go.Wk.m _ (fun w' hc => r_subN (a := s4.pos) (b := 1) 9223372036854775808 rfl rfl rfl (by omega)) ?_; refine Go.Wk.m _ (fun w' hc => r_indexN (i := s4.pos - 1) 1 rfl rfl u22 el3 a0_1.shp (by omega)) ?_
    obtain ⟨x7, hx7⟩ := getE (l := s4.l) (i := s4.pos - 1) (by first | omega | (simp <;> omega)); obtain ⟨c8, hr7, ha7⟩ := a0_1_q.get hx7; obtain ⟨rfl, hr7b⟩ := hr7; replace ha7 : At _ v0_0 ((s4.pos - 1) * 1) [(.int .i64 (x7 : Int))] := ha7; refine Go.Wk.m _ (fun w' hc => (r_loadE (kk := (s4.pos - 1) * 1) 0 rfl rfl one3 (ha7.md0 hc) rfl).to (b := (.int .i64 (x7 : Int))) rfl) ?_; refine Go.Wk.m _ (fun w' hc => r_move rfl) ?_; refine m_nil ?_; replace a0_1 := a0_1.md0 hd0; replace h0 := h0.md0 hd0; replace uQ := uQ.md hd0; replace M := M.step0 hd0; clear a0_1_q h0_q; clear MC
    have gx : s.l.getD s.pos 0 = x7 := by
      have hh := hx7; rw [z2, z1, Nat.add_sub_cancel] at hh; simp [List.getD, hh]
    refine st_call fn44 rfl (kNumber_any uQ (x7) (by omega) n (by first | omega | (simp <;> omega)) (by first | omega | (simp <;> omega) | (simp at * <;> omega))) ?_; rintro en w9 ⟨x9_0, rfl, hm, q9_0, hF9⟩; refine ⟨_, rfl, ?_⟩; replace a0_1 := a0_1.md0 hm; replace h0 := h0.md0 hm; replace uQ := uQ.md hm; replace M := M.step0 hm; have a9_0 := numF_lt x7 n; rw [hF9] at a9_0; try simp only [List.length_cons, List.length_nil, List.length_append, List.length_replicate, Nat.zero_add, Nat.reduceAdd, Nat.reduceMul] at a9_0
    refine asg rfl ?_; refine st_nil ?_; clear ha7; refine c_then ?_; refine c_ret ?_; exact ret1L (v := (.int .i64 ((x9_0 : Nat) : Int))) trivial rfl ⟨rfl, trivial⟩ ⟨x9_0, s4, _, rfl, M, (by first | assumption | omega | simp_all), h0, n0, oks4, (a0_1.sub (fun b hb _ => tQ b hb)), (by (try simp only [es4] at hF9); rw [Sq.num] <;> simp (disch := first | omega | assumption | (simp; done) | fail) only [if_pos, if_neg, Option.getD_some, Option.some.injEq, reduceIte, Bool.false_eq_true, Bool.true_eq_false, decide_true, decide_false, not_true_eq_false, not_false_eq_true, h14n, es4, hx7, gx, hF9])⟩
theorem kNames_any {w : World} {Q : Nat → Prop} (uQ : Up w Q)  :
    Calls Try.prog 27 #[] w fun en w' => ∃ u0 : Value, ∃ r0 : List (List UInt8), en = .returned (u0) ∧ Md [] w w' ∧ Ls tStr w' Q u0 r0 ∧ namesF = r0 := by
  have M := Md.refl [] w; have uQ0 := uQ; have tQ : ∀ b, Q b → Q b := fun _ h => h; have sQ0 : ∀ b, Q b → b < w.heap.size → Q b := fun _ h _ => h; refine enter (n := 2) Try.func27 rfl rfl rfl ?_; intro B; refine ns ?_; refine asg rfl ?_; refine nt ?_; refine ns ?_; refine st_buildSliceG [[(str (([65] : List UInt8)))], [(str (([66] : List UInt8)))], [(str (([77, 69, 83, 83, 65, 71, 69] : List UInt8)))], [(str (([95, 80, 73, 68] : List UInt8)))], [(str (([88, 95, 49] : List UInt8)))], [(str (([80, 82, 73, 79, 82, 73, 84, 89] : List UInt8)))]] u24 elT9 (by decide) (by decide) rfl rfl ⟨rfl, rfl, rfl, rfl, rfl, rfl, trivial⟩ ⟨rfl, rfl, rfl, rfl, rfl, rfl, trivial⟩ rfl (by decide) ?_; intro ba1 w1 ga1 la1 hm ha1; have ya1 := uQ _ ga1; replace uQ := uQ.md hm; replace M := M.step0 hm; replace ha1 := Ls.of_blk (m := 6) (R := Q) (T := tStr) (xs := [([65] : List UInt8), ([66] : List UInt8), ([77, 69, 83, 83, 65, 71, 69] : List UInt8), ([95, 80, 73, 68] : List UInt8), ([88, 95, 49] : List UInt8), ([80, 82, 73, 79, 82, 73, 84, 89] : List UInt8)]) ha1 ⟨_, _, rfl, ⟨rfl, trivial⟩, ⟨_, _, rfl, ⟨rfl, trivial⟩, ⟨_, _, rfl, ⟨rfl, trivial⟩, ⟨_, _, rfl, ⟨rfl, trivial⟩, ⟨_, _, rfl, ⟨rfl, trivial⟩, ⟨_, _, rfl, ⟨rfl, trivial⟩, rfl⟩⟩⟩⟩⟩⟩ rfl (by decide) ya1; refine asg rfl ?_; refine nt ?_; refine c_ret ?_; exact ret1L (v := (.slice (some ⟨ba1, 0, none⟩) 6 6)) trivial rfl ⟨rfl, trivial⟩ ⟨_, ([([65] : List UInt8), ([66] : List UInt8), ([77, 69, 83, 83, 65, 71, 69] : List UInt8), ([95, 80, 73, 68] : List UInt8), ([88, 95, 49] : List UInt8), ([80, 82, 73, 79, 82, 73, 84, 89] : List UInt8)]), rfl, M, (ha1.sub (fun b hb _ => tQ b hb)), (by rw [namesF] <;> simp (disch := first | omega | assumption | (simp; done) | fail) only [if_pos, if_neg, Option.getD_some, Option.some.injEq, reduceIte, Bool.false_eq_true, Bool.true_eq_false, decide_true, decide_false, not_true_eq_false, not_false_eq_true])⟩
theorem kValues_any {w : World} {Q : Nat → Prop} (uQ : Up w Q)  :
    Calls Try.prog 28 #[] w fun en w' => ∃ u0 : Value, ∃ r0 : List (List UInt8), en = .returned (u0) ∧ Md [] w w' ∧ Ls tStr w' Q u0 r0 ∧ valuesF = r0 := by
  have M := Md.refl [] w; have uQ0 := uQ; have tQ : ∀ b, Q b → Q b := fun _ h => h; have sQ0 : ∀ b, Q b → b < w.heap.size → Q b := fun _ h _ => h; refine enter (n := 2) Try.func28 rfl rfl rfl ?_; intro B; refine ns ?_; refine asg rfl ?_; refine nt ?_; refine ns ?_; refine st_buildSliceG [[(str (([] : List UInt8)))], [(str (([48] : List UInt8)))], [(str (([49] : List UInt8)))], [(str (([50, 50] : List UInt8)))], [(str (([97, 61, 98] : List UInt8)))], [(str (([111, 110, 101, 10, 116, 119, 111] : List UInt8)))], [(str (([0, 255] : List UInt8)))], [(str (([116, 97, 98, 9, 104, 101, 114, 101] : List UInt8)))], [(str (([108, 111, 110, 103, 32, 108, 111, 110, 103, 32, 108, 111, 110, 103, 32, 108, 111, 110, 103, 32, 108, 111, 110, 103, 32, 108, 111, 110, 103, 32, 108, 111, 110, 103] : List UInt8)))], [(str (([126, 127, 128] : List UInt8)))]] u24 elT9 (by decide) (by decide) rfl rfl ⟨rfl, rfl, rfl, rfl, rfl, rfl, rfl, rfl, rfl, rfl, trivial⟩ ⟨rfl, rfl, rfl, rfl, rfl, rfl, rfl, rfl, rfl, rfl, trivial⟩ rfl (by decide) ?_; intro ba1 w1 ga1 la1 hm ha1; have ya1 := uQ _ ga1; replace uQ := uQ.md hm; replace M := M.step0 hm; replace ha1 := Ls.of_blk (m := 10) (R := Q) (T := tStr) (xs := [([] : List UInt8), ([48] : List UInt8), ([49] : List UInt8), ([50, 50] : List UInt8), ([97, 61, 98] : List UInt8), ([111, 110, 101, 10, 116, 119, 111] : List UInt8), ([0, 255] : List UInt8), ([116, 97, 98, 9, 104, 101, 114, 101] : List UInt8), ([108, 111, 110, 103, 32, 108, 111, 110, 103, 32, 108, 111, 110, 103, 32, 108, 111, 110, 103, 32, 108, 111, 110, 103, 32, 108, 111, 110, 103, 32, 108, 111, 110, 103] : List UInt8), ([126, 127, 128] : List UInt8)]) ha1 ⟨_, _, rfl, ⟨rfl, trivial⟩, ⟨_, _, rfl, ⟨rfl, trivial⟩, ⟨_, _, rfl, ⟨rfl, trivial⟩, ⟨_, _, rfl, ⟨rfl, trivial⟩, ⟨_, _, rfl, ⟨rfl, trivial⟩, ⟨_, _, rfl, ⟨rfl, trivial⟩, ⟨_, _, rfl, ⟨rfl, trivial⟩, ⟨_, _, rfl, ⟨rfl, trivial⟩, ⟨_, _, rfl, ⟨rfl, trivial⟩, ⟨_, _, rfl, ⟨rfl, trivial⟩, rfl⟩⟩⟩⟩⟩⟩⟩⟩⟩⟩ rfl (by decide) ya1; refine asg rfl ?_; refine nt ?_; refine c_ret ?_; exact ret1L (v := (.slice (some ⟨ba1, 0, none⟩) 10 10)) trivial rfl ⟨rfl, trivial⟩ ⟨_, ([([] : List UInt8), ([48] : List UInt8), ([49] : List UInt8), ([50, 50] : List UInt8), ([97, 61, 98] : List UInt8), ([111, 110, 101, 10, 116, 119, 111] : List UInt8), ([0, 255] : List UInt8), ([116, 97, 98, 9, 104, 101, 114, 101] : List UInt8), ([108, 111, 110, 103, 32, 108, 111, 110, 103, 32, 108, 111, 110, 103, 32, 108, 111, 110, 103, 32, 108, 111, 110, 103, 32, 108, 111, 110, 103, 32, 108, 111, 110, 103] : List UInt8), ([126, 127, 128] : List UInt8)]), rfl, M, (ha1.sub (fun b hb _ => tQ b hb)), (by rw [valuesF] <;> simp (disch := first | omega | assumption | (simp; done) | fail) only [if_pos, if_neg, Option.getD_some, Option.some.injEq, reduceIte, Bool.false_eq_true, Bool.true_eq_false, decide_true, decide_false, not_true_eq_false, not_false_eq_true])⟩
theorem kPair_any {w : World} {Q : Nat → Prop} (uQ : Up w Q) {b0 : Nat} {v0_0 : Value} (s : Sq) (h0 : Blk w b0 (Sq.cells s v0_0) 28) (n0 : ¬ Q b0) (a0_0 : Sq.ok s) (a0_1 : Ls tInt w Q v0_0 s.l) :
    Calls Try.prog 11 #[.pointer (some ⟨b0, 0, none⟩)] w fun en w' => ∃ r0 : Pr, ∃ m0 : Sq, ∃ u50_0 : Value, en = .returned (.agg (Pr.cells r0).toArray) ∧ Md [b0] w w' ∧ Blk w' b0 (Sq.cells m0 u50_0) 28 ∧ ¬ Q b0 ∧ Sq.ok m0 ∧ Ls tInt w' Q u50_0 m0.l ∧ s.pair = (r0, m0) := by
  have n_h0 := n0; have p_h0 : Fsh [b0] w b0 := .inl (by simp); have M := Md.refl [b0] w; have uQ0 := uQ; have tQ : ∀ b, Q b → Q b := fun _ h => h; have sQ0 : ∀ b, Q b → b < w.heap.size → Q b := fun _ h _ => h; refine enter (n := 14) Try.func11 rfl rfl rfl ?_; intro B; refine ns ?_; refine st_alloc z33 ?_; intro ba2 w1 ga2 la2 hm ha2; have eh0a2 : b0 ≠ ba2 := (by have := h0.lt; omega); obtain ⟨Q2, sQ, sT, n_ha2, uQ2⟩ := exQ uQ ga2 la2 hm; replace a0_1 := a0_1.sub sQ; replace n_h0 := fun hh => n_h0 (sT _ hh); replace tQ := fun b hb => tQ b (sT b hb); replace sQ0 := fun b hb hl => sQ b (sQ0 b hb hl) (Nat.lt_of_lt_of_le hl M.size); replace ga2 := Nat.le_trans M.size ga2; replace a0_1 := a0_1.md0 hm; replace h0 := h0.md0 hm; replace uQ := uQ.md hm; replace M := M.step0 hm; clear uQ; have uQ := uQ2; clear uQ2 sQ sT; have p_ha2 : Fsh [] w ba2 := .inr ga2; replace ha2 : Blk _ _ (Pr.cells (({ name := [], value := [] } : Pr))) _ := ha2; refine nt ?_; refine c_seq ?_; have a0_1_q := a0_1; have h0_q := h0; have ha2_q := ha2; have hSB : ∀ b ∈ [b0], ¬ Q2 b := all_cons n_h0 all_nil; refine c_mixT [(1, true), (6, true), (0, false), (2, false), (3, true), (4, true), (5, false), (7, false), (8, true), (9, true)] [10, 11] (fun w' => Md [b0] w1 w') mixed (by kernel_rfl) ?_; intro w3 hd0; refine ⟨hd0.mono (by simp), ?_⟩; have MC := hd0.mono (T := [b0]) (by simp); refine Go.Wk.m _ (fun w' hc => r_move rfl) ?_; refine Go.Wk.m _ (fun w' hc => r_move rfl) ?_; replace a0_1 := a0_1.md0 hd0; replace h0 := h0.md0 hd0; replace ha2 := ha2.md0 hd0; replace uQ := uQ.md hd0; replace M := M.step0 hd0; refine m_c ?_ rfl; refine st_call fn27 rfl (kNames_any uQ ) ?_; rintro en w4 ⟨v4_0, x4_0, rfl, hm, h4_0, hF4⟩; refine ⟨_, rfl, ?_⟩; replace a0_1 := a0_1.md0 hm; replace h0 := h0.md0 hm; replace ha2 := ha2.md0 hm; replace uQ := uQ.md hm; replace M := M.step0 hm; replace MC := MC.step0 hm; have a4_0 := namesF_len ; rw [hF4] at a4_0; try simp only [List.length_cons, List.length_nil, List.length_append, List.length_replicate, Nat.zero_add, Nat.reduceAdd, Nat.reduceMul] at a4_0
  refine st_nil ⟨rfl, MC, fun w' => Md [b0] w4 w', Md.refl _ _, fun x hx => MC.trans hx, ?_⟩; clear a0_1_q ha2_q h0_q; have a0_1_q := a0_1; have h0_q := h0; have ha2_q := ha2; have h4_0_q := h4_0; clear MC; have MC := Md.refl [b0] w4; refine m_c ?_ rfl; refine st_call fn26 rfl (kN_any uQ s h0 n_h0 a0_0 a0_1 6 (by first | omega | (simp <;> omega)) (by first | omega | (simp <;> omega) | (simp at * <;> omega))) ?_; rintro en w5 ⟨x5_0, m5_0, mv5_0_0, rfl, hm, q5_0, mh5_0, mn5_0, mq5_0_0, mf5_0_1, hF5⟩; refine ⟨_, rfl, ?_⟩; have hP : ∀ i ∈ [b0], Fsh [b0] w i := (all_cons p_h0 all_nil); have hS : ∀ i ∈ [b0], ¬ Q2 i := (all_cons n_h0 all_nil); have np_ha2 : ba2 ∉ [b0] := (nin_cons (by omega) (by simp)); replace a0_1 := a0_1.md hm hS; replace ha2 := ha2.md hm np_ha2; clear np_ha2; replace h4_0 := h4_0.md hm hS; replace M := M.step hm hP; replace MC := MC.step hm (fun i hi => Or.inl (by simpa using hi)); replace uQ := uQ.md hm; clear hP hS h0 n_h0; have h0 := mh5_0; have n_h0 := mn5_0; clear mh5_0 mn5_0; have a5_0 := Sq.num_le s 6; rw [hF5] at a5_0; try simp only [List.length_cons, List.length_nil, List.length_append, List.length_replicate, Nat.zero_add, Nat.reduceAdd, Nat.reduceMul] at a5_0
  refine st_nil ⟨rfl, MC, fun w' => Md [b0] w5 w', Md.refl _ _, fun x hx => MC.trans hx, ?_⟩; clear h4_0_q a0_1_q ha2_q h0_q; have a0_1_q := a0_1; have h0_q := h0; have ha2_q := ha2; have h4_0_q := h4_0; have mf5_0_1_q := mf5_0_1; clear MC; have MC := Md.refl [b0] w5; refine Go.Wk.m _ (fun w' hc => r_indexN (i := x5_0) 1 rfl rfl u24 el9 h4_0.shp (by omega)) ?_; obtain ⟨x6, hx6⟩ := getE (l := x4_0) (i := x5_0) (by first | omega | (simp <;> omega)); obtain ⟨c7, hr6, ha6⟩ := h4_0_q.get hx6; obtain ⟨rfl, _⟩ := hr6; replace ha6 : At _ v4_0 (x5_0 * 1) [(str x6)] := ha6; refine Go.Wk.m _ (fun w' hc => (r_loadE (kk := x5_0 * 1) 0 rfl rfl one9 (ha6.md hc (h4_0_q.offS hx6 hSB)) rfl).to (b := (str x6)) rfl) ?_; refine m_c ?_ rfl; refine st_call fn28 rfl (kValues_any uQ ) ?_; rintro en w8 ⟨v8_0, x8_0, rfl, hm, h8_0, hF8⟩; refine ⟨_, rfl, ?_⟩; replace a0_1 := a0_1.md0 hm; replace h0 := h0.md0 hm; replace ha2 := ha2.md0 hm; replace h4_0 := h4_0.md0 hm; replace mf5_0_1 := mf5_0_1.md0 hm; replace uQ := uQ.md hm; replace M := M.step0 hm; replace MC := MC.step0 hm; have a8_0 := valuesF_len ; rw [hF8] at a8_0; try simp only [List.length_cons, List.length_nil, List.length_append, List.length_replicate, Nat.zero_add, Nat.reduceAdd, Nat.reduceMul] at a8_0
  refine st_nil ⟨rfl, MC, fun w' => Md [b0] w8 w', Md.refl _ _, fun x hx => MC.trans hx, ?_⟩; clear h4_0_q mf5_0_1_q a0_1_q h0_q ha2_q; have a0_1_q := a0_1; have h0_q := h0; have ha2_q := ha2; have h4_0_q := h4_0; have mf5_0_1_q := mf5_0_1; have ha6_q := ha6; have h8_0_q := h8_0; clear MC; have MC := Md.refl [b0] w8; refine m_c ?_ rfl; refine st_call fn26 rfl (kN_any uQ m5_0 h0 n_h0 mq5_0_0 mf5_0_1 10 (by first | omega | (simp <;> omega)) (by first | omega | (simp <;> omega) | (simp at * <;> omega))) ?_; rintro en w9 ⟨x9_0, m9_0, mv9_0_0, rfl, hm, q9_0, mh9_0, mn9_0, mq9_0_0, mf9_0_1, hF9⟩; refine ⟨_, rfl, ?_⟩; have hP : ∀ i ∈ [b0], Fsh [b0] w i := (all_cons p_h0 all_nil); have hS : ∀ i ∈ [b0], ¬ Q2 i := (all_cons n_h0 all_nil); have np_ha2 : ba2 ∉ [b0] := (nin_cons (by omega) (by simp)); replace a0_1 := a0_1.md hm hS; replace ha2 := ha2.md hm np_ha2; clear np_ha2; replace h4_0 := h4_0.md hm hS; replace mf5_0_1 := mf5_0_1.md hm hS; replace h8_0 := h8_0.md hm hS; replace M := M.step hm hP; replace MC := MC.step hm (fun i hi => Or.inl (by simpa using hi)); replace uQ := uQ.md hm; clear hP hS h0 n_h0; have h0 := mh9_0; have n_h0 := mn9_0; clear mh9_0 mn9_0; have a9_0 := Sq.num_le m5_0 10; rw [hF9] at a9_0; try simp only [List.length_cons, List.length_nil, List.length_append, List.length_replicate, Nat.zero_add, Nat.reduceAdd, Nat.reduceMul] at a9_0
  refine st_nil ⟨rfl, MC, fun w' => Md [b0] w9 w', Md.refl _ _, fun x hx => MC.trans hx, ?_⟩; clear h4_0_q mf5_0_1_q a0_1_q h0_q h8_0_q ha6_q ha2_q; have a0_1_q := a0_1; have h0_q := h0; have ha2_q := ha2; have h4_0_q := h4_0; have mf5_0_1_q := mf5_0_1; have ha6_q := ha6; have h8_0_q := h8_0; have mf9_0_1_q := mf9_0_1; clear MC; have MC := Md.refl [b0] w9; refine Go.Wk.m _ (fun w' hc => r_indexN (i := x9_0) 1 rfl rfl u24 el9 h8_0.shp (by omega)) ?_; obtain ⟨x10, hx10⟩ := getE (l := x8_0) (i := x9_0) (by first | omega | (simp <;> omega)); obtain ⟨c11, hr10, ha10⟩ := h8_0_q.get hx10; obtain ⟨rfl, _⟩ := hr10; replace ha10 : At _ v8_0 (x9_0 * 1) [(str x10)] := ha10; refine Go.Wk.m _ (fun w' hc => (r_loadE (kk := x9_0 * 1) 0 rfl rfl one9 (ha10.md hc (h8_0_q.offS hx10 hSB)) rfl).to (b := (str x10)) rfl) ?_; refine m_nil ?_; clear h4_0_q mf5_0_1_q a0_1_q h0_q mf9_0_1_q h8_0_q ha6_q ha2_q; clear MC; refine st _ (r_buildG (us := [[(str x6)], [(str x10)]]) (cs := (Pr.cells (({ name := x6, value := x10 } : Pr)))) [(0, 0, 1), (1, 1, 1)] z33 pl33 rfl rfl ⟨rfl, rfl, trivial⟩ ⟨rfl, rfl, trivial⟩ rfl rfl) ?_; refine st_storeAgg (us := (Pr.cells (({ name := x6, value := x10 } : Pr)))) rfl rfl (by exact agg33) (by first | exact fun u hu => one_cells (Pr.one ) u hu | exact fun u hu => one_cells rfl u hu) ha2 (Nat.le_of_ble_eq_true rfl) ?_; have ha20 := ha2; clear ha2; intro w12 hm ha2; have hS : ∀ b ∈ [ba2], ¬ Q2 b := (by intro b hb; simp at hb; subst hb; exact n_ha2); replace a0_1 := a0_1.md hm hS; replace h0 := h0.md hm (by intro hb; simp at hb; omega); replace h4_0 := h4_0.md hm hS; replace mf5_0_1 := mf5_0_1.md hm hS; replace h8_0 := h8_0.md hm hS; replace mf9_0_1 := mf9_0_1.md hm hS; replace uQ := uQ.md hm; replace M := M.step hm (all_cons (Fsh.wid p_ha2) all_nil); clear ha20 hS; replace ha2 : Blk _ _ (Pr.cells (({ name := x6, value := x10 } : Pr))) _ := ha2; refine st_nil ?_; clear ha6; clear ha10; refine c_then ?_; refine c_ret ?_; exact ret1L (v := (.agg (Pr.cells (({ name := x6, value := x10 } : Pr))).toArray)) trivial rfl ⟨⟨_, rfl, load_agg (cs := (Pr.cells (({ name := x6, value := x10 } : Pr)))) (by exact agg33) ha2⟩, trivial⟩ ⟨(({ name := x6, value := x10 } : Pr)), m9_0, _, rfl, M, h0, n0, mq9_0_0, (mf9_0_1.sub (fun b hb _ => tQ b hb)), (by rw [Sq.pair] <;> simp (disch := first | omega | assumption | (simp; done) | fail) only [List.getD_eq_getElem?_getD, if_pos, if_neg, Option.getD_some, Option.some.injEq, reduceIte, Bool.false_eq_true, Bool.true_eq_false, decide_true, decide_false, not_true_eq_false, not_false_eq_true, hF4, hF5, hx6, hF8, hF9, hx10])⟩
end Go.Proofs.Ytimhhcacjiombaa
namespace Go.Proofs.Ytimhhcacjiombaa
open Go Go.Wk Go.RowKit
set_option linter.unusedVariables false
set_option linter.unusedSimpArgs false
attribute [local irreducible] wpList wpQuiet wpStill wpMix Code.wp Calls bodyPost
theorem off33_0 : fieldOff Try.prog 33 0 = some 0 := by kernel_rfl
theorem off33_1 : fieldOff Try.prog 33 1 = some 1 := by kernel_rfl

theorem payload_any {w : World} {Q : Nat → Prop} (uQ : Up w Q) (p : Pr) (p0 : p.name.length + p.value.length ≤ 4611686018427387904) :
    Calls Try.prog 10 #[.agg (Pr.cells p).toArray] w fun en w' => ∃ r0 : List UInt8, en = .returned (str r0) ∧ Md [] w w' ∧ payload p = r0 := by
  have M := Md.refl [] w; have uQ0 := uQ; have tQ : ∀ b, Q b → Q b := fun _ h => h; have sQ0 : ∀ b, Q b → b < w.heap.size → Q b := fun _ h _ => h; refine enter (n := 9) Try.func10 rfl rfl rfl ?_; intro B; refine ns ?_; refine st_box (cs := (Pr.cells p)) rfl rfl ?_; intro ba1 w1 ga1 la1 hm ha1; have n_ha1 := uQ _ ga1; replace ga1 := Nat.le_trans M.size ga1; replace uQ := uQ.md hm; replace M := M.step0 hm; have p_ha1 : Fsh [] w ba1 := .inr ga1; refine asg rfl ?_; refine nt ?_; refine ns ?_; refine st _ (r_field rfl off33_0) ?_; refine st _ ((r_loadBlk rfl one9 ha1 rfl).to (b := (str p.name)) rfl) ?_; refine st _ (r_addS (a := p.name) (b := (([61] : List UInt8))) rfl rfl (by first | omega | (simp <;> omega))) ?_; refine st _ (r_field rfl off33_1) ?_; refine st _ ((r_loadBlk rfl one9 ha1 rfl).to (b := (str p.value)) rfl) ?_; refine st _ (r_addS (a := (p.name ++ (([61] : List UInt8)))) (b := p.value) rfl rfl (by first | omega | (simp <;> omega))) ?_; refine asg rfl ?_; refine nt ?_; refine c_ret ?_; exact ret1L (v := (str ((p.name ++ (([61] : List UInt8))) ++ p.value))) trivial rfl ⟨rfl, trivial⟩ ⟨(p.name ++ (([61] : List UInt8))) ++ p.value, rfl, M, (by rw [payload] <;> simp (disch := first | omega | assumption | (simp; done) | fail) only [if_pos, if_neg, Option.getD_some, Option.some.injEq, reduceIte, Bool.false_eq_true, Bool.true_eq_false, decide_true, decide_false, not_true_eq_false, not_false_eq_true])⟩
end Go.Proofs.Ytimhhcacjiombaa
namespace Go.Proofs.Ytimhhcacjiombaa
open Go Go.Wk Go.RowKit
set_option linter.unusedVariables false
set_option linter.unusedSimpArgs false
attribute [local irreducible] wpList wpQuiet wpStill wpMix Code.wp Calls bodyPost
theorem fn10 : isFn Try.prog 10 = true := by kernel_rfl
theorem fn25 : isFn Try.prog 25 = true := by kernel_rfl
theorem pl28 : bplace Try.prog 28 = some [(0, 1), (1, 1)] := by kernel_rfl
theorem z28 : zcells Try.prog 28 = some [.slice none 0 0, .int .i64 0] := by kernel_rfl

theorem kWords_any {w : World} {Q : Nat → Prop} (uQ : Up w Q) {v0 : Value} {l : List Int} (h0 : Ls tInt w Q v0 l) (most : Nat) (a1 : most < 9223372036854775808) (p0 : most ≤ 1000) :
    Calls Try.prog 8 #[v0, (.int .i64 ((most : Nat) : Int))] w fun en w' => ∃ u0 : Value, ∃ r0 : List (List UInt8), en = .returned (u0) ∧ Md [] w w' ∧ Ls tStr w' Q u0 r0 ∧ wordsF l most = r0 := by
  have L0 := h0.len63; have M := Md.refl [] w; have uQ0 := uQ; have tQ : ∀ b, Q b → Q b := fun _ h => h; have sQ0 : ∀ b, Q b → b < w.heap.size → Q b := fun _ h _ => h; refine enter (n := 64) Try.func8 rfl rfl rfl ?_; intro B; refine ns ?_; refine asg rfl ?_; refine nt ?_; refine ns ?_; refine mv rfl ?_; refine st _ (r_buildG (us := [[v0]]) (cs := (Sq.cells (({ l := l, pos := 0 } : Sq)) v0)) [(0, 0, 1)] z28 pl28 rfl rfl ⟨(cells_one h0.oneCell), trivial⟩ ⟨rfl, trivial⟩ rfl rfl) ?_; refine st_box (cs := (Sq.cells (({ l := l, pos := 0 } : Sq)) v0)) rfl rfl ?_; intro ba10 w1 ga10 la10 hm ha10; obtain ⟨Q2, sQ, sT, n_ha10, uQ2⟩ := exQ uQ ga10 la10 hm; replace h0 := h0.sub sQ; replace tQ := fun b hb => tQ b (sT b hb); replace sQ0 := fun b hb hl => sQ b (sQ0 b hb hl) (Nat.lt_of_lt_of_le hl M.size); replace ga10 := Nat.le_trans M.size ga10; replace h0 := h0.md0 hm; replace uQ := uQ.md hm; replace M := M.step0 hm; clear uQ; have uQ := uQ2; clear uQ2 sQ sT; have p_ha10 : Fsh [] w ba10 := .inr ga10; refine asg rfl ?_; refine nt ?_; refine ns ?_; refine asg rfl ?_; refine nt ?_; refine c_seq ?_; refine c_block ?_; obtain ⟨r0, hr00⟩ : ∃ r, wordsGo most { l := l, pos := 0 } [] = r := ⟨_, rfl⟩; have hr0o := hr00
  try simp only [List.nil_append] at hr00
  refine loop4 (fun (x : Sq) (ux_l : Value) (vo : Value) (o : List (List UInt8)) => [(6, vo), (1, (.int .i64 ((most : Nat) : Int))), (4, (.slice none 0 0)), (5, (.pointer (some ⟨ba10, 0, none⟩)))]) (fun (x : Sq) (ux_l : Value) (vo : Value) (o : List (List UInt8)) w' => ∃ Q' : Nat → Prop, (∀ b, Q' b → Q b) ∧ (∀ b, Q b → b < w.heap.size → Q' b) ∧ Up w' Q' ∧ Md [] w w' ∧ Blk w' ba10 (Sq.cells x ux_l) 28 ∧ Ls tInt w' Q' ux_l x.l ∧ Sq.ok x ∧ Ow tStr 9 (Fsh [] w) w' Q' vo o ∧ ¬ Q' ba10 ∧ o.length ≤ most ∧ wordsGo (most - o.length) x o = r0) (fun (x : Sq) (ux_l : Value) (vo : Value) (o : List (List UInt8)) => most - o.length) (x0 := (({ l := l, pos := 0 } : Sq))) (x1 := v0) (x2 := (.slice none 0 0)) (x3 := ([] : List (List UInt8))) ?_ ?_ ?_
  · exact ⟨rfl, rfl, rfl, rfl, trivial⟩
  · exact ⟨Q2, tQ, sQ0, uQ, M, ha10, h0, (by first | assumption | exact (show (({ l := l, pos := 0 } : Sq)).pos < 9223372036854775808 from (by first | omega | (simp <;> omega) | simp_all))), (Ow.nil _ _ _ _ _), n_ha10, (by simp), (by have hh := hr00; first | exact hh | exact hr0o | (simp only [List.nil_append] at hh; exact hh))⟩
  · clear M uQ tQ sQ0 n_ha10 h0 ha10
    rintro x ux_l vo o B w3 ⟨Q4, tQ, sQ0, uQ, M, ha10, f_x_l, kx_0, f_o, n_ha10, i0_0, hr0⟩; refine c_seq ?_; refine ns ?_; refine mv rfl ?_; refine st_call fn25 rfl (kMore_any uQ x ha10 n_ha10 kx_0 f_x_l) ?_; rintro en w5 ⟨x5_0, m5_0, mv5_0_0, rfl, hm, mh5_0, mn5_0, mq5_0_0, mf5_0_1, hF5⟩; refine ⟨_, rfl, ?_⟩; have hP : ∀ i ∈ [ba10], Fsh [] w i := (all_cons p_ha10 all_nil); have hS : ∀ i ∈ [ba10], ¬ Q4 i := (all_cons n_ha10 all_nil); have np_f_o : ∀ b, vblock vo = some b → b ∉ [ba10] := fun b hb => (nin_cons (f_o.blk_ne ha10 (by decide) b hb) (by simp)); replace f_x_l := f_x_l.md hm hS; replace f_o := f_o.md hm np_f_o hS; clear np_f_o; replace M := M.step hm hP; replace uQ := uQ.md hm; clear hP hS ha10 n_ha10; have ha10 := mh5_0; have n_ha10 := mn5_0; clear mh5_0 mn5_0; refine mv rfl ?_; refine part_n (t := 13) rfl (fun h13 => ?_) (fun h13 => ?_)
    · (first | (have h13n := of_decide_eq_true h13) | (have h13n := of_decide_eq_false (bnt h13)) | (have h13n := bnt h13) | (have h13n := h13)); refine st_g _ rfl rfl rfl h13 (r_move rfl) ?_; refine st_g _ rfl rfl rfl h13 (r_len rfl u24 f_o.shp) ?_; refine st_g _ rfl rfl rfl h13 (r_move rfl) ?_; refine st_g _ rfl rfl rfl h13 (r_ltN (a := o.length) (b := most) rfl rfl) ?_; refine st _ (r_pick_t rfl h13 rfl) ?_; refine nt ?_; refine c_if rfl (fun h18 => ?_) (fun h18 => ?_)
      · (first | (have h18n := of_decide_eq_true h18) | (have h18n := of_decide_eq_false (bnt h18)) | (have h18n := bnt h18) | (have h18n := h18)); refine c_skip ?_; refine c_then ?_; refine c_block ?_; refine c_seq ?_; refine ns ?_; refine mv rfl ?_; refine st_call fn26 rfl (kN_any uQ m5_0 ha10 n_ha10 mq5_0_0 mf5_0_1 4 (by first | omega | (simp <;> omega)) (by first | omega | (simp <;> omega) | (simp at * <;> omega))) ?_; rintro en w6 ⟨x6_0, m6_0, mv6_0_0, rfl, hm, q6_0, mh6_0, mn6_0, mq6_0_0, mf6_0_1, hF6⟩; refine ⟨_, rfl, ?_⟩; have hP : ∀ i ∈ [ba10], Fsh [] w i := (all_cons p_ha10 all_nil); have hS : ∀ i ∈ [ba10], ¬ Q4 i := (all_cons n_ha10 all_nil); have np_f_o : ∀ b, vblock vo = some b → b ∉ [ba10] := fun b hb => (nin_cons (f_o.blk_ne ha10 (by decide) b hb) (by simp)); replace f_x_l := f_x_l.md hm hS; replace f_o := f_o.md hm np_f_o hS; clear np_f_o; replace mf5_0_1 := mf5_0_1.md hm hS; replace M := M.step hm hP; replace uQ := uQ.md hm; clear hP hS ha10 n_ha10; have ha10 := mh6_0; have n_ha10 := mn6_0; clear mh6_0 mn6_0; have a6_0 := Sq.num_le m5_0 4; rw [hF6] at a6_0; try simp only [List.length_cons, List.length_nil, List.length_append, List.length_replicate, Nat.zero_add, Nat.reduceAdd, Nat.reduceMul] at a6_0
        refine st _ (r_eqN (a := x6_0) (b := 0) rfl rfl) ?_; refine mv rfl ?_; refine part_n (t := 22) rfl (fun h22 => ?_) (fun h22 => ?_)
        · (first | (have h22n := of_decide_eq_true h22) | (have h22n := of_decide_eq_false (bnt h22)) | (have h22n := bnt h22) | (have h22n := h22)); refine st_g _ rfl rfl rfl h22 (r_move rfl) ?_; refine st_g _ rfl rfl rfl h22 (r_len rfl u24 f_o.shp) ?_; refine st_g _ rfl rfl rfl h22 (r_gtN (a := o.length) (b := 0) rfl rfl) ?_; refine st _ (r_pick_t rfl h22 rfl) ?_; refine mv rfl ?_; refine part_n (t := 27) rfl (fun h27 => ?_) (fun h27 => ?_)
          · (first | (have h27n := of_decide_eq_true h27) | (have h27n := of_decide_eq_false (bnt h27)) | (have h27n := bnt h27) | (have h27n := h27)); refine st_g _ rfl rfl rfl h27 (r_move rfl) ?_; refine st_g _ rfl rfl rfl h27 (r_move rfl) ?_; refine st_g _ rfl rfl rfl h27 (r_len rfl u24 f_o.shp) ?_; refine st_g _ rfl rfl rfl h27 (r_subN (a := o.length) (b := 1) 9223372036854775808 rfl rfl rfl (by omega)) ?_; refine st_g _ rfl rfl rfl h27 (r_indexN (i := o.length - 1) 1 rfl rfl u24 el9 f_o.shp (by omega)) ?_; obtain ⟨x7, hx7⟩ := getE (l := o) (i := o.length - 1) (by first | omega | (simp <;> omega)); obtain ⟨c8, hr7, ha7⟩ := f_o.get hx7; obtain ⟨rfl, _⟩ := hr7; replace ha7 : At _ vo ((o.length - 1) * 1) [(str x7)] := ha7; refine st_g _ rfl rfl rfl h27 ((r_loadE (kk := (o.length - 1) * 1) 0 rfl rfl one9 ha7 rfl).to (b := (str x7)) rfl) ?_; refine st_g _ rfl rfl rfl h27 (r_neqS (a := x7) (b := (([43] : List UInt8))) rfl rfl) ?_; refine st _ (r_pick_t rfl h27 rfl) ?_; refine st_nil ?_; clear ha7; refine c_then ?_; refine c_if rfl (fun h35 => ?_) (fun h35 => ?_)
            · (first | (have h35n := of_decide_eq_true h35) | (have h35n := of_decide_eq_false (bnt h35)) | (have h35n := bnt h35) | (have h35n := h35)); refine ns ?_; refine mv rfl ?_; refine st_buildSliceG [[(str (([43] : List UInt8)))]] u24 elT9 (by decide) (by decide) rfl rfl ⟨rfl, trivial⟩ ⟨rfl, trivial⟩ rfl (by decide) ?_; intro ba37 w9 ga37 la37 hm ha37; have ya37 := uQ _ ga37; replace f_x_l := f_x_l.md0 hm; replace ha10 := ha10.md0 hm; replace f_o := f_o.md0 hm; replace mf5_0_1 := mf5_0_1.md0 hm; replace mf6_0_1 := mf6_0_1.md0 hm; replace uQ := uQ.md hm; replace M := M.step0 hm; replace ha37 := Ls.of_blk (m := 1) (R := Q4) (T := tStr) (xs := [([43] : List UInt8)]) ha37 ⟨_, _, rfl, ⟨rfl, trivial⟩, rfl⟩ rfl (by decide) ya37; refine st_ap (sz := 1) (by rfl) u24 elT9 rfl rfl f_o ha37 (fun _ h _ => h) uQ (Fsh.new M) (by first | omega | (simp <;> omega) | (simp at * <;> omega)) (by first | omega | (simp <;> omega) | (simp at * <;> omega)) ?_; intro v11 w12 Q13 sQ sT uQ2 hO10 hm hS _ hv2; have f_o0 := f_o; clear f_o; replace f_x_l := f_x_l.sub sQ; replace n_ha10 := fun hh => n_ha10 (sT _ hh); replace mf5_0_1 := mf5_0_1.sub sQ; replace mf6_0_1 := mf6_0_1.sub sQ; replace ha37 := ha37.sub sQ; replace tQ := fun b hb => tQ b (sT b hb); replace sQ0 := fun b hb hl => sQ b (sQ0 b hb hl) (Nat.lt_of_lt_of_le hl M.size); replace f_x_l := f_x_l.md hm hS; replace ha10 := ha10.md hm (apart_ow f_o0 ha10 (by decide)); replace mf5_0_1 := mf5_0_1.md hm hS; replace mf6_0_1 := mf6_0_1.md hm hS; replace ha37 := ha37.md hm hS; replace uQ := uQ.md hm; replace M := M.stepO hm (fun b hb => (f_o0.2 b hb).1); clear uQ; have uQ := uQ2; clear uQ2 sQ sT hS hv2; refine asg rfl ?_; refine nt ?_; refine c_exit ?_; refine x_then ?_; refine x_hit ?_; refine c_then ?_; refine next4 (x0 := m6_0) (x1 := mv6_0_0) (x2 := v11) (x3 := (o ++ ([([43] : List UInt8)]))) (by simp; omega) ⟨rfl, rfl, rfl, rfl, trivial⟩ ⟨Q13, tQ, sQ0, uQ, M, ha10, mf6_0_1, mq6_0_0, hO10, n_ha10, (by simp; omega), (by rw [words_plus hF5 h13 hF6 h22n (by omega) (by omega) (by rw [lastW_at hx7]; exact h35n)] at hr0; exact hr0)⟩
            · (first | (have h35n := of_decide_eq_false h35) | (have h35n := of_decide_eq_true (bnf h35)) | (have h35n := bnf h35) | (have h35n := h35)); refine c_skip ?_; refine c_then ?_; refine ns ?_; refine mv rfl ?_; refine st_call fn11 rfl (kPair_any uQ m6_0 ha10 n_ha10 mq6_0_0 mf6_0_1) ?_; rintro en w14 ⟨x14_0, m14_0, mv14_0_0, rfl, hm, mh14_0, mn14_0, mq14_0_0, mf14_0_1, hF14⟩; refine ⟨_, rfl, ?_⟩; have hP : ∀ i ∈ [ba10], Fsh [] w i := (all_cons p_ha10 all_nil); have hS : ∀ i ∈ [ba10], ¬ Q4 i := (all_cons n_ha10 all_nil); have np_f_o : ∀ b, vblock vo = some b → b ∉ [ba10] := fun b hb => (nin_cons (f_o.blk_ne ha10 (by decide) b hb) (by simp)); replace f_x_l := f_x_l.md hm hS; replace f_o := f_o.md hm np_f_o hS; clear np_f_o; replace mf5_0_1 := mf5_0_1.md hm hS; replace mf6_0_1 := mf6_0_1.md hm hS; replace M := M.step hm hP; replace uQ := uQ.md hm; clear hP hS ha10 n_ha10; have ha10 := mh14_0; have n_ha10 := mn14_0; clear mh14_0 mn14_0; have hpb := pair_bd m6_0; rw [hF14] at hpb; simp only at hpb; refine st_alloc z33 ?_; intro ba7 w15 ga7 la7 hm ha7; have eha10a7 : ba10 ≠ ba7 := (by have := ha10.lt; omega); obtain ⟨Q16, sQ, sT, n_ha7, uQ2⟩ := exQ uQ ga7 la7 hm; replace f_x_l := f_x_l.sub sQ; replace n_ha10 := fun hh => n_ha10 (sT _ hh); replace f_o := f_o.sub sQ sT; replace mf5_0_1 := mf5_0_1.sub sQ; replace mf6_0_1 := mf6_0_1.sub sQ; replace mf14_0_1 := mf14_0_1.sub sQ; replace tQ := fun b hb => tQ b (sT b hb); replace sQ0 := fun b hb hl => sQ b (sQ0 b hb hl) (Nat.lt_of_lt_of_le hl M.size); replace ga7 := Nat.le_trans M.size ga7; replace f_x_l := f_x_l.md0 hm; replace ha10 := ha10.md0 hm; replace f_o := f_o.md0 hm; replace mf5_0_1 := mf5_0_1.md0 hm; replace mf6_0_1 := mf6_0_1.md0 hm; replace mf14_0_1 := mf14_0_1.md0 hm; replace uQ := uQ.md hm; replace M := M.step0 hm; clear uQ; have uQ := uQ2; clear uQ2 sQ sT; have p_ha7 : Fsh [] w ba7 := .inr ga7; replace ha7 : Blk _ _ (Pr.cells (({ name := [], value := [] } : Pr))) _ := ha7; refine st_storeAgg (us := (Pr.cells x14_0)) rfl rfl (by exact agg33) (by first | exact fun u hu => one_cells (Pr.one ) u hu | exact fun u hu => one_cells rfl u hu) ha7 (Nat.le_of_ble_eq_true rfl) ?_; have ha70 := ha7; clear ha7; intro w17 hm ha7; have hS : ∀ b ∈ [ba7], ¬ Q16 b := (by intro b hb; simp at hb; subst hb; exact n_ha7); replace f_x_l := f_x_l.md hm hS; replace ha10 := ha10.md hm (by intro hb; simp at hb; omega); replace f_o := f_o.md hm (apart_bo ha70 f_o (by decide)) hS; replace mf5_0_1 := mf5_0_1.md hm hS
              replace mf6_0_1 := mf6_0_1.md hm hS; replace mf14_0_1 := mf14_0_1.md hm hS; replace uQ := uQ.md hm; replace M := M.step hm (all_cons p_ha7 all_nil); clear ha70 hS; replace ha7 : Blk _ _ (Pr.cells x14_0) _ := ha7; refine nt ?_; refine c_region ?_; refine mv rfl ?_; refine st _ (r_loadPart (Pr.cells x14_0) rfl (by exact agg33) ha7 rfl) ?_; refine st_call fn10 rfl (payload_any uQ x14_0 (by first | omega | (simp <;> omega) | (simp at * <;> omega))) ?_; rintro en w18 ⟨x18_0, rfl, hm, hF18⟩; refine ⟨_, rfl, ?_⟩; replace f_x_l := f_x_l.md0 hm; replace ha10 := ha10.md0 hm; replace f_o := f_o.md0 hm; replace mf5_0_1 := mf5_0_1.md0 hm; replace mf6_0_1 := mf6_0_1.md0 hm; replace mf14_0_1 := mf14_0_1.md0 hm; replace ha7 := ha7.md0 hm; replace uQ := uQ.md hm; replace M := M.step0 hm; have a18_0 := payload_len x14_0; rw [hF18] at a18_0; try simp only [List.length_cons, List.length_nil, List.length_append, List.length_replicate, Nat.zero_add, Nat.reduceAdd, Nat.reduceMul] at a18_0
              refine st_buildSliceG [[(str x18_0)]] u24 elT9 (by decide) (by decide) rfl rfl ⟨rfl, trivial⟩ ⟨rfl, trivial⟩ rfl (by decide) ?_; intro ba44 w19 ga44 la44 hm ha44; have ya44 := uQ _ ga44; replace f_x_l := f_x_l.md0 hm; replace ha10 := ha10.md0 hm; replace f_o := f_o.md0 hm; replace mf5_0_1 := mf5_0_1.md0 hm; replace mf6_0_1 := mf6_0_1.md0 hm; replace mf14_0_1 := mf14_0_1.md0 hm; replace ha7 := ha7.md0 hm; replace uQ := uQ.md hm; replace M := M.step0 hm; replace ha44 := Ls.of_blk (m := 1) (R := Q16) (T := tStr) (xs := [x18_0]) ha44 ⟨_, _, rfl, ⟨rfl, trivial⟩, rfl⟩ rfl (by decide) ya44; refine st_ap (sz := 1) (by rfl) u24 elT9 rfl rfl f_o ha44 (fun _ h _ => h) uQ (Fsh.new M) (by first | omega | (simp <;> omega) | (simp at * <;> omega)) (by first | omega | (simp <;> omega) | (simp at * <;> omega)) ?_; intro v21 w22 Q23 sQ sT uQ2 hO20 hm hS _ hv2; have f_o0 := f_o; clear f_o; replace f_x_l := f_x_l.sub sQ; replace n_ha10 := fun hh => n_ha10 (sT _ hh); replace mf5_0_1 := mf5_0_1.sub sQ; replace mf6_0_1 := mf6_0_1.sub sQ; replace mf14_0_1 := mf14_0_1.sub sQ; replace n_ha7 := fun hh => n_ha7 (sT _ hh); replace ha44 := ha44.sub sQ; replace tQ := fun b hb => tQ b (sT b hb); replace sQ0 := fun b hb hl => sQ b (sQ0 b hb hl) (Nat.lt_of_lt_of_le hl M.size); replace f_x_l := f_x_l.md hm hS; replace ha10 := ha10.md hm (apart_ow f_o0 ha10 (by decide)); replace mf5_0_1 := mf5_0_1.md hm hS; replace mf6_0_1 := mf6_0_1.md hm hS; replace mf14_0_1 := mf14_0_1.md hm hS; replace ha7 := ha7.md hm (apart_ow f_o0 ha7 (by decide)); replace ha44 := ha44.md hm hS; replace uQ := uQ.md hm; replace M := M.stepO hm (fun b hb => (f_o0.2 b hb).1); clear uQ; have uQ := uQ2; clear uQ2 sQ sT hS hv2; refine asg rfl ?_; refine st_nil ?_; refine n_block ?_; refine c_then ?_; refine next4 (x0 := m14_0) (x1 := mv14_0_0) (x2 := v21) (x3 := (o ++ ([x18_0]))) (by simp; omega) ⟨rfl, rfl, rfl, rfl, trivial⟩ ⟨Q23, tQ, sQ0, uQ, M, ha10, mf14_0_1, mq14_0_0, hO20, n_ha10, (by simp; omega), (by rw [words_word hF5 h13 hF6 hF14 (by omega) (by rintro ⟨h1, h2, h3⟩; rw [lastW_at hx7] at h3; simp_all), hF18] at hr0; exact hr0)⟩
          · (first | (have h27n := of_decide_eq_false h27) | (have h27n := of_decide_eq_true (bnf h27)) | (have h27n := bnf h27) | (have h27n := h27)); refine st_skip rfl rfl rfl h27 ?_; refine st_skip rfl rfl rfl h27 ?_; refine st_skip rfl rfl rfl h27 ?_; refine st_skip rfl rfl rfl h27 ?_; refine st_skip rfl rfl rfl h27 ?_; refine st_skip rfl rfl rfl h27 ?_; refine st_skip rfl rfl rfl h27 ?_; refine st _ (r_pick_f rfl h27 rfl) ?_; refine nt ?_; refine c_if_f rfl rfl ?_; refine c_skip ?_; refine c_then ?_; refine ns ?_; refine mv rfl ?_; refine st_call fn11 rfl (kPair_any uQ m6_0 ha10 n_ha10 mq6_0_0 mf6_0_1) ?_; rintro en w24 ⟨x24_0, m24_0, mv24_0_0, rfl, hm, mh24_0, mn24_0, mq24_0_0, mf24_0_1, hF24⟩; refine ⟨_, rfl, ?_⟩; have hP : ∀ i ∈ [ba10], Fsh [] w i := (all_cons p_ha10 all_nil); have hS : ∀ i ∈ [ba10], ¬ Q4 i := (all_cons n_ha10 all_nil); have np_f_o : ∀ b, vblock vo = some b → b ∉ [ba10] := fun b hb => (nin_cons (f_o.blk_ne ha10 (by decide) b hb) (by simp)); replace f_x_l := f_x_l.md hm hS; replace f_o := f_o.md hm np_f_o hS; clear np_f_o; replace mf5_0_1 := mf5_0_1.md hm hS; replace mf6_0_1 := mf6_0_1.md hm hS; replace M := M.step hm hP; replace uQ := uQ.md hm; clear hP hS ha10 n_ha10; have ha10 := mh24_0; have n_ha10 := mn24_0; clear mh24_0 mn24_0; have hpb := pair_bd m6_0; rw [hF24] at hpb; simp only at hpb; refine st_alloc z33 ?_; intro ba7 w25 ga7 la7 hm ha7; have eha10a7 : ba10 ≠ ba7 := (by have := ha10.lt; omega); obtain ⟨Q26, sQ, sT, n_ha7, uQ2⟩ := exQ uQ ga7 la7 hm; replace f_x_l := f_x_l.sub sQ; replace n_ha10 := fun hh => n_ha10 (sT _ hh); replace f_o := f_o.sub sQ sT; replace mf5_0_1 := mf5_0_1.sub sQ; replace mf6_0_1 := mf6_0_1.sub sQ; replace mf24_0_1 := mf24_0_1.sub sQ; replace tQ := fun b hb => tQ b (sT b hb); replace sQ0 := fun b hb hl => sQ b (sQ0 b hb hl) (Nat.lt_of_lt_of_le hl M.size); replace ga7 := Nat.le_trans M.size ga7; replace f_x_l := f_x_l.md0 hm; replace ha10 := ha10.md0 hm; replace f_o := f_o.md0 hm; replace mf5_0_1 := mf5_0_1.md0 hm; replace mf6_0_1 := mf6_0_1.md0 hm; replace mf24_0_1 := mf24_0_1.md0 hm; replace uQ := uQ.md hm; replace M := M.step0 hm; clear uQ; have uQ := uQ2; clear uQ2 sQ sT; have p_ha7 : Fsh [] w ba7 := .inr ga7; replace ha7 : Blk _ _ (Pr.cells (({ name := [], value := [] } : Pr))) _ := ha7; refine st_storeAgg (us := (Pr.cells x24_0)) rfl rfl (by exact agg33) (by first | exact fun u hu => one_cells (Pr.one ) u hu | exact fun u hu => one_cells rfl u hu) ha7 (Nat.le_of_ble_eq_true rfl) ?_
            have ha70 := ha7; clear ha7; intro w27 hm ha7; have hS : ∀ b ∈ [ba7], ¬ Q26 b := (by intro b hb; simp at hb; subst hb; exact n_ha7); replace f_x_l := f_x_l.md hm hS; replace ha10 := ha10.md hm (by intro hb; simp at hb; omega); replace f_o := f_o.md hm (apart_bo ha70 f_o (by decide)) hS; replace mf5_0_1 := mf5_0_1.md hm hS; replace mf6_0_1 := mf6_0_1.md hm hS; replace mf24_0_1 := mf24_0_1.md hm hS; replace uQ := uQ.md hm; replace M := M.step hm (all_cons p_ha7 all_nil); clear ha70 hS; replace ha7 : Blk _ _ (Pr.cells x24_0) _ := ha7; refine nt ?_; refine c_region ?_; refine mv rfl ?_; refine st _ (r_loadPart (Pr.cells x24_0) rfl (by exact agg33) ha7 rfl) ?_; refine st_call fn10 rfl (payload_any uQ x24_0 (by first | omega | (simp <;> omega) | (simp at * <;> omega))) ?_; rintro en w28 ⟨x28_0, rfl, hm, hF28⟩; refine ⟨_, rfl, ?_⟩; replace f_x_l := f_x_l.md0 hm; replace ha10 := ha10.md0 hm; replace f_o := f_o.md0 hm; replace mf5_0_1 := mf5_0_1.md0 hm; replace mf6_0_1 := mf6_0_1.md0 hm; replace mf24_0_1 := mf24_0_1.md0 hm; replace ha7 := ha7.md0 hm; replace uQ := uQ.md hm; replace M := M.step0 hm; have a28_0 := payload_len x24_0; rw [hF28] at a28_0; try simp only [List.length_cons, List.length_nil, List.length_append, List.length_replicate, Nat.zero_add, Nat.reduceAdd, Nat.reduceMul] at a28_0
            refine st_buildSliceG [[(str x28_0)]] u24 elT9 (by decide) (by decide) rfl rfl ⟨rfl, trivial⟩ ⟨rfl, trivial⟩ rfl (by decide) ?_; intro ba44 w29 ga44 la44 hm ha44; have ya44 := uQ _ ga44; replace f_x_l := f_x_l.md0 hm; replace ha10 := ha10.md0 hm; replace f_o := f_o.md0 hm; replace mf5_0_1 := mf5_0_1.md0 hm; replace mf6_0_1 := mf6_0_1.md0 hm; replace mf24_0_1 := mf24_0_1.md0 hm; replace ha7 := ha7.md0 hm; replace uQ := uQ.md hm; replace M := M.step0 hm; replace ha44 := Ls.of_blk (m := 1) (R := Q26) (T := tStr) (xs := [x28_0]) ha44 ⟨_, _, rfl, ⟨rfl, trivial⟩, rfl⟩ rfl (by decide) ya44; refine st_ap (sz := 1) (by rfl) u24 elT9 rfl rfl f_o ha44 (fun _ h _ => h) uQ (Fsh.new M) (by first | omega | (simp <;> omega) | (simp at * <;> omega)) (by first | omega | (simp <;> omega) | (simp at * <;> omega)) ?_; intro v31 w32 Q33 sQ sT uQ2 hO30 hm hS _ hv2; have f_o0 := f_o; clear f_o; replace f_x_l := f_x_l.sub sQ; replace n_ha10 := fun hh => n_ha10 (sT _ hh); replace mf5_0_1 := mf5_0_1.sub sQ; replace mf6_0_1 := mf6_0_1.sub sQ; replace mf24_0_1 := mf24_0_1.sub sQ; replace n_ha7 := fun hh => n_ha7 (sT _ hh); replace ha44 := ha44.sub sQ; replace tQ := fun b hb => tQ b (sT b hb); replace sQ0 := fun b hb hl => sQ b (sQ0 b hb hl) (Nat.lt_of_lt_of_le hl M.size); replace f_x_l := f_x_l.md hm hS; replace ha10 := ha10.md hm (apart_ow f_o0 ha10 (by decide)); replace mf5_0_1 := mf5_0_1.md hm hS; replace mf6_0_1 := mf6_0_1.md hm hS; replace mf24_0_1 := mf24_0_1.md hm hS; replace ha7 := ha7.md hm (apart_ow f_o0 ha7 (by decide)); replace ha44 := ha44.md hm hS; replace uQ := uQ.md hm; replace M := M.stepO hm (fun b hb => (f_o0.2 b hb).1); clear uQ; have uQ := uQ2; clear uQ2 sQ sT hS hv2; refine asg rfl ?_; refine st_nil ?_; refine n_block ?_; refine c_then ?_; refine next4 (x0 := m24_0) (x1 := mv24_0_0) (x2 := v31) (x3 := (o ++ ([x28_0]))) (by simp; omega) ⟨rfl, rfl, rfl, rfl, trivial⟩ ⟨Q33, tQ, sQ0, uQ, M, ha10, mf24_0_1, mq24_0_0, hO30, n_ha10, (by simp; omega), (by rw [words_word hF5 h13 hF6 hF24 (by omega) (by rintro ⟨h1, h2, h3⟩; omega), hF28] at hr0; exact hr0)⟩
        · (first | (have h22n := of_decide_eq_false h22) | (have h22n := of_decide_eq_true (bnf h22)) | (have h22n := bnf h22) | (have h22n := h22)); refine st_skip rfl rfl rfl h22 ?_; refine st_skip rfl rfl rfl h22 ?_; refine st_skip rfl rfl rfl h22 ?_; refine st _ (r_pick_f rfl h22 rfl) ?_; refine mv rfl ?_; refine st_skip rfl rfl rfl rfl ?_; refine st_skip rfl rfl rfl rfl ?_; refine st_skip rfl rfl rfl rfl ?_; refine st_skip rfl rfl rfl rfl ?_; refine st_skip rfl rfl rfl rfl ?_; refine st_skip rfl rfl rfl rfl ?_; refine st_skip rfl rfl rfl rfl ?_; refine st _ (r_pick_f rfl rfl rfl) ?_; refine nt ?_; refine c_if_f rfl rfl ?_; refine c_skip ?_; refine c_then ?_; refine ns ?_; refine mv rfl ?_; refine st_call fn11 rfl (kPair_any uQ m6_0 ha10 n_ha10 mq6_0_0 mf6_0_1) ?_; rintro en w34 ⟨x34_0, m34_0, mv34_0_0, rfl, hm, mh34_0, mn34_0, mq34_0_0, mf34_0_1, hF34⟩; refine ⟨_, rfl, ?_⟩; have hP : ∀ i ∈ [ba10], Fsh [] w i := (all_cons p_ha10 all_nil); have hS : ∀ i ∈ [ba10], ¬ Q4 i := (all_cons n_ha10 all_nil); have np_f_o : ∀ b, vblock vo = some b → b ∉ [ba10] := fun b hb => (nin_cons (f_o.blk_ne ha10 (by decide) b hb) (by simp)); replace f_x_l := f_x_l.md hm hS; replace f_o := f_o.md hm np_f_o hS; clear np_f_o; replace mf5_0_1 := mf5_0_1.md hm hS; replace mf6_0_1 := mf6_0_1.md hm hS; replace M := M.step hm hP; replace uQ := uQ.md hm; clear hP hS ha10 n_ha10; have ha10 := mh34_0; have n_ha10 := mn34_0; clear mh34_0 mn34_0; have hpb := pair_bd m6_0; rw [hF34] at hpb; simp only at hpb; refine st_alloc z33 ?_; intro ba7 w35 ga7 la7 hm ha7; have eha10a7 : ba10 ≠ ba7 := (by have := ha10.lt; omega); obtain ⟨Q36, sQ, sT, n_ha7, uQ2⟩ := exQ uQ ga7 la7 hm; replace f_x_l := f_x_l.sub sQ; replace n_ha10 := fun hh => n_ha10 (sT _ hh); replace f_o := f_o.sub sQ sT; replace mf5_0_1 := mf5_0_1.sub sQ; replace mf6_0_1 := mf6_0_1.sub sQ; replace mf34_0_1 := mf34_0_1.sub sQ; replace tQ := fun b hb => tQ b (sT b hb); replace sQ0 := fun b hb hl => sQ b (sQ0 b hb hl) (Nat.lt_of_lt_of_le hl M.size); replace ga7 := Nat.le_trans M.size ga7; replace f_x_l := f_x_l.md0 hm; replace ha10 := ha10.md0 hm; replace f_o := f_o.md0 hm; replace mf5_0_1 := mf5_0_1.md0 hm; replace mf6_0_1 := mf6_0_1.md0 hm; replace mf34_0_1 := mf34_0_1.md0 hm; replace uQ := uQ.md hm; replace M := M.step0 hm; clear uQ; have uQ := uQ2; clear uQ2 sQ sT; have p_ha7 : Fsh [] w ba7 := .inr ga7; replace ha7 : Blk _ _ (Pr.cells (({ name := [], value := [] } : Pr))) _ := ha7
          refine st_storeAgg (us := (Pr.cells x34_0)) rfl rfl (by exact agg33) (by first | exact fun u hu => one_cells (Pr.one ) u hu | exact fun u hu => one_cells rfl u hu) ha7 (Nat.le_of_ble_eq_true rfl) ?_; have ha70 := ha7; clear ha7; intro w37 hm ha7; have hS : ∀ b ∈ [ba7], ¬ Q36 b := (by intro b hb; simp at hb; subst hb; exact n_ha7); replace f_x_l := f_x_l.md hm hS; replace ha10 := ha10.md hm (by intro hb; simp at hb; omega); replace f_o := f_o.md hm (apart_bo ha70 f_o (by decide)) hS; replace mf5_0_1 := mf5_0_1.md hm hS; replace mf6_0_1 := mf6_0_1.md hm hS; replace mf34_0_1 := mf34_0_1.md hm hS; replace uQ := uQ.md hm; replace M := M.step hm (all_cons p_ha7 all_nil); clear ha70 hS; replace ha7 : Blk _ _ (Pr.cells x34_0) _ := ha7; refine nt ?_; refine c_region ?_; refine mv rfl ?_; refine st _ (r_loadPart (Pr.cells x34_0) rfl (by exact agg33) ha7 rfl) ?_; refine st_call fn10 rfl (payload_any uQ x34_0 (by first | omega | (simp <;> omega) | (simp at * <;> omega))) ?_; rintro en w38 ⟨x38_0, rfl, hm, hF38⟩; refine ⟨_, rfl, ?_⟩; replace f_x_l := f_x_l.md0 hm; replace ha10 := ha10.md0 hm; replace f_o := f_o.md0 hm; replace mf5_0_1 := mf5_0_1.md0 hm; replace mf6_0_1 := mf6_0_1.md0 hm; replace mf34_0_1 := mf34_0_1.md0 hm; replace ha7 := ha7.md0 hm; replace uQ := uQ.md hm; replace M := M.step0 hm; have a38_0 := payload_len x34_0; rw [hF38] at a38_0; try simp only [List.length_cons, List.length_nil, List.length_append, List.length_replicate, Nat.zero_add, Nat.reduceAdd, Nat.reduceMul] at a38_0
          refine st_buildSliceG [[(str x38_0)]] u24 elT9 (by decide) (by decide) rfl rfl ⟨rfl, trivial⟩ ⟨rfl, trivial⟩ rfl (by decide) ?_; intro ba44 w39 ga44 la44 hm ha44; have ya44 := uQ _ ga44; replace f_x_l := f_x_l.md0 hm; replace ha10 := ha10.md0 hm; replace f_o := f_o.md0 hm; replace mf5_0_1 := mf5_0_1.md0 hm; replace mf6_0_1 := mf6_0_1.md0 hm; replace mf34_0_1 := mf34_0_1.md0 hm; replace ha7 := ha7.md0 hm; replace uQ := uQ.md hm; replace M := M.step0 hm; replace ha44 := Ls.of_blk (m := 1) (R := Q36) (T := tStr) (xs := [x38_0]) ha44 ⟨_, _, rfl, ⟨rfl, trivial⟩, rfl⟩ rfl (by decide) ya44; refine st_ap (sz := 1) (by rfl) u24 elT9 rfl rfl f_o ha44 (fun _ h _ => h) uQ (Fsh.new M) (by first | omega | (simp <;> omega) | (simp at * <;> omega)) (by first | omega | (simp <;> omega) | (simp at * <;> omega)) ?_; intro v41 w42 Q43 sQ sT uQ2 hO40 hm hS _ hv2; have f_o0 := f_o; clear f_o; replace f_x_l := f_x_l.sub sQ; replace n_ha10 := fun hh => n_ha10 (sT _ hh); replace mf5_0_1 := mf5_0_1.sub sQ; replace mf6_0_1 := mf6_0_1.sub sQ; replace mf34_0_1 := mf34_0_1.sub sQ; replace n_ha7 := fun hh => n_ha7 (sT _ hh); replace ha44 := ha44.sub sQ; replace tQ := fun b hb => tQ b (sT b hb); replace sQ0 := fun b hb hl => sQ b (sQ0 b hb hl) (Nat.lt_of_lt_of_le hl M.size); replace f_x_l := f_x_l.md hm hS; replace ha10 := ha10.md hm (apart_ow f_o0 ha10 (by decide)); replace mf5_0_1 := mf5_0_1.md hm hS; replace mf6_0_1 := mf6_0_1.md hm hS; replace mf34_0_1 := mf34_0_1.md hm hS; replace ha7 := ha7.md hm (apart_ow f_o0 ha7 (by decide)); replace ha44 := ha44.md hm hS; replace uQ := uQ.md hm; replace M := M.stepO hm (fun b hb => (f_o0.2 b hb).1); clear uQ; have uQ := uQ2; clear uQ2 sQ sT hS hv2; refine asg rfl ?_; refine st_nil ?_; refine n_block ?_; refine c_then ?_; refine next4 (x0 := m34_0) (x1 := mv34_0_0) (x2 := v41) (x3 := (o ++ ([x38_0]))) (by simp; omega) ⟨rfl, rfl, rfl, rfl, trivial⟩ ⟨Q43, tQ, sQ0, uQ, M, ha10, mf34_0_1, mq34_0_0, hO40, n_ha10, (by simp; omega), (by rw [words_word hF5 h13 hF6 hF34 (by omega) (by rintro ⟨h1, h2, h3⟩; exact h22n h1), hF38] at hr0; exact hr0)⟩
      · (first | (have h18n := of_decide_eq_false h18) | (have h18n := of_decide_eq_true (bnf h18)) | (have h18n := bnf h18) | (have h18n := h18)); refine c_exit ?_; refine x_then ?_; refine x_then ?_; refine x_hit ?_; refine c_then ?_; refine c_seq ?_; refine ns ?_; refine mv rfl ?_; refine st _ (r_len rfl u24 f_o.shp) ?_; refine st _ (r_gtN (a := o.length) (b := 0) rfl rfl) ?_; refine mv rfl ?_; refine part_n (t := 49) rfl (fun h49 => ?_) (fun h49 => ?_)
        · (first | (have h49n := of_decide_eq_true h49) | (have h49n := of_decide_eq_false (bnt h49)) | (have h49n := bnt h49) | (have h49n := h49)); refine st_g _ rfl rfl rfl h49 (r_move rfl) ?_; refine st_g _ rfl rfl rfl h49 (r_move rfl) ?_; refine st_g _ rfl rfl rfl h49 (r_len rfl u24 f_o.shp) ?_; refine st_g _ rfl rfl rfl h49 (r_subN (a := o.length) (b := 1) 9223372036854775808 rfl rfl rfl (by omega)) ?_; refine st_g _ rfl rfl rfl h49 (r_indexN (i := o.length - 1) 1 rfl rfl u24 el9 f_o.shp (by omega)) ?_; obtain ⟨x44, hx44⟩ := getE (l := o) (i := o.length - 1) (by first | omega | (simp <;> omega)); obtain ⟨c45, hr44, ha44⟩ := f_o.get hx44; obtain ⟨rfl, _⟩ := hr44; replace ha44 : At _ vo ((o.length - 1) * 1) [(str x44)] := ha44; refine st_g _ rfl rfl rfl h49 ((r_loadE (kk := (o.length - 1) * 1) 0 rfl rfl one9 ha44 rfl).to (b := (str x44)) rfl) ?_; refine st_g _ rfl rfl rfl h49 (r_eqlS (a := x44) (b := (([43] : List UInt8))) rfl rfl) ?_; refine st _ (r_pick_t rfl h49 rfl) ?_; refine st_nil ?_; clear ha44; refine c_then ?_; refine c_if rfl (fun h57 => ?_) (fun h57 => ?_)
          · (first | (have h57n := of_decide_eq_true h57) | (have h57n := of_decide_eq_false (bnt h57)) | (have h57n := bnt h57) | (have h57n := h57)); refine c_region ?_; refine mv rfl ?_; refine mv rfl ?_; refine st _ (r_len rfl u24 f_o.shp) ?_; refine st _ (r_subN (a := o.length) (b := 1) 9223372036854775808 rfl rfl rfl (by omega)) ?_; refine st _ (r_sliceZ 1 0 (o.length - 1) u24 el9 rfl f_o.shp (by omega) (by omega) rfl ⟨_, rfl⟩) ?_; have hs46 := f_o.read.head (hi := o.length - 1) (by omega); refine asg rfl ?_; refine nt ?_; refine ns ?_; refine mv rfl ?_; refine asg rfl ?_; refine nt ?_; refine c_ret ?_; exact ret1L (v := (subz 1 vo 0 (o.length - 1))) trivial rfl ⟨rfl, trivial⟩ ⟨_, (o.take (o.length - 1)), rfl, M, (hs46.sub (fun b hb _ => hb.elim (tQ b) (Fsh.up uQ0 b))), (by unfold wordsF cutW; rw [(hr0o.trans (hr0.symm.trans (words_end h18n))), if_pos ⟨by omega, by rw [lastW_at hx44]; exact h57n⟩])⟩
          · (first | (have h57n := of_decide_eq_false h57) | (have h57n := of_decide_eq_true (bnf h57)) | (have h57n := bnf h57) | (have h57n := h57)); refine c_skip ?_; refine c_then ?_; refine ns ?_; refine mv rfl ?_; refine asg rfl ?_; refine nt ?_; refine c_ret ?_; exact ret1L (v := vo) trivial rfl ⟨rfl, trivial⟩ ⟨_, o, rfl, M, (f_o.ls (fun b hb => tQ b hb) (Fsh.up uQ0)), (by unfold wordsF cutW; rw [(hr0o.trans (hr0.symm.trans (words_end h18n))), if_neg (by rintro ⟨h1, h2⟩; rw [lastW_at hx44] at h2; exact h57n h2)])⟩
        · (first | (have h49n := of_decide_eq_false h49) | (have h49n := of_decide_eq_true (bnf h49)) | (have h49n := bnf h49) | (have h49n := h49)); refine st_skip rfl rfl rfl h49 ?_; refine st_skip rfl rfl rfl h49 ?_; refine st_skip rfl rfl rfl h49 ?_; refine st_skip rfl rfl rfl h49 ?_; refine st_skip rfl rfl rfl h49 ?_; refine st_skip rfl rfl rfl h49 ?_; refine st_skip rfl rfl rfl h49 ?_; refine st _ (r_pick_f rfl h49 rfl) ?_; refine nt ?_; refine c_if_f rfl rfl ?_; refine c_skip ?_; refine c_then ?_; refine ns ?_; refine mv rfl ?_; refine asg rfl ?_; refine nt ?_; refine c_ret ?_; exact ret1L (v := vo) trivial rfl ⟨rfl, trivial⟩ ⟨_, o, rfl, M, (f_o.ls (fun b hb => tQ b hb) (Fsh.up uQ0)), (by unfold wordsF cutW; rw [(hr0o.trans (hr0.symm.trans (words_end h18n))), if_neg (by rintro ⟨h1, h2⟩; omega)])⟩
    · (first | (have h13n := of_decide_eq_false h13) | (have h13n := of_decide_eq_true (bnf h13)) | (have h13n := bnf h13) | (have h13n := h13)); refine st_skip rfl rfl rfl h13 ?_; refine st_skip rfl rfl rfl h13 ?_; refine st_skip rfl rfl rfl h13 ?_; refine st_skip rfl rfl rfl h13 ?_; refine st _ (r_pick_f rfl h13 rfl) ?_; refine nt ?_; refine c_if_f rfl rfl ?_; refine c_exit ?_; refine x_then ?_; refine x_then ?_; refine x_hit ?_; refine c_then ?_; refine c_seq ?_; refine ns ?_; refine mv rfl ?_; refine st _ (r_len rfl u24 f_o.shp) ?_; refine st _ (r_gtN (a := o.length) (b := 0) rfl rfl) ?_; refine mv rfl ?_; refine part_n (t := 49) rfl (fun h49 => ?_) (fun h49 => ?_)
      · (first | (have h49n := of_decide_eq_true h49) | (have h49n := of_decide_eq_false (bnt h49)) | (have h49n := bnt h49) | (have h49n := h49)); refine st_g _ rfl rfl rfl h49 (r_move rfl) ?_; refine st_g _ rfl rfl rfl h49 (r_move rfl) ?_; refine st_g _ rfl rfl rfl h49 (r_len rfl u24 f_o.shp) ?_; refine st_g _ rfl rfl rfl h49 (r_subN (a := o.length) (b := 1) 9223372036854775808 rfl rfl rfl (by omega)) ?_; refine st_g _ rfl rfl rfl h49 (r_indexN (i := o.length - 1) 1 rfl rfl u24 el9 f_o.shp (by omega)) ?_; obtain ⟨x47, hx47⟩ := getE (l := o) (i := o.length - 1) (by first | omega | (simp <;> omega)); obtain ⟨c48, hr47, ha47⟩ := f_o.get hx47; obtain ⟨rfl, _⟩ := hr47; replace ha47 : At _ vo ((o.length - 1) * 1) [(str x47)] := ha47; refine st_g _ rfl rfl rfl h49 ((r_loadE (kk := (o.length - 1) * 1) 0 rfl rfl one9 ha47 rfl).to (b := (str x47)) rfl) ?_; refine st_g _ rfl rfl rfl h49 (r_eqlS (a := x47) (b := (([43] : List UInt8))) rfl rfl) ?_; refine st _ (r_pick_t rfl h49 rfl) ?_; refine st_nil ?_; clear ha47; refine c_then ?_; refine c_if rfl (fun h57 => ?_) (fun h57 => ?_)
        · (first | (have h57n := of_decide_eq_true h57) | (have h57n := of_decide_eq_false (bnt h57)) | (have h57n := bnt h57) | (have h57n := h57)); refine c_region ?_; refine mv rfl ?_; refine mv rfl ?_; refine st _ (r_len rfl u24 f_o.shp) ?_; refine st _ (r_subN (a := o.length) (b := 1) 9223372036854775808 rfl rfl rfl (by omega)) ?_; refine st _ (r_sliceZ 1 0 (o.length - 1) u24 el9 rfl f_o.shp (by omega) (by omega) rfl ⟨_, rfl⟩) ?_; have hs49 := f_o.read.head (hi := o.length - 1) (by omega); refine asg rfl ?_; refine nt ?_; refine ns ?_; refine mv rfl ?_; refine asg rfl ?_; refine nt ?_; refine c_ret ?_; exact ret1L (v := (subz 1 vo 0 (o.length - 1))) trivial rfl ⟨rfl, trivial⟩ ⟨_, (o.take (o.length - 1)), rfl, M, (hs49.sub (fun b hb _ => hb.elim (tQ b) (Fsh.up uQ0 b))), (by unfold wordsF cutW; rw [(hr0o.trans (hr0.symm.trans (words_stop hF5 h13))), if_pos ⟨by omega, by rw [lastW_at hx47]; exact h57n⟩])⟩
        · (first | (have h57n := of_decide_eq_false h57) | (have h57n := of_decide_eq_true (bnf h57)) | (have h57n := bnf h57) | (have h57n := h57)); refine c_skip ?_; refine c_then ?_; refine ns ?_; refine mv rfl ?_; refine asg rfl ?_; refine nt ?_; refine c_ret ?_; exact ret1L (v := vo) trivial rfl ⟨rfl, trivial⟩ ⟨_, o, rfl, M, (f_o.ls (fun b hb => tQ b hb) (Fsh.up uQ0)), (by unfold wordsF cutW; rw [(hr0o.trans (hr0.symm.trans (words_stop hF5 h13))), if_neg (by rintro ⟨h1, h2⟩; rw [lastW_at hx47] at h2; exact h57n h2)])⟩
      · (first | (have h49n := of_decide_eq_false h49) | (have h49n := of_decide_eq_true (bnf h49)) | (have h49n := bnf h49) | (have h49n := h49)); refine st_skip rfl rfl rfl h49 ?_; refine st_skip rfl rfl rfl h49 ?_; refine st_skip rfl rfl rfl h49 ?_; refine st_skip rfl rfl rfl h49 ?_; refine st_skip rfl rfl rfl h49 ?_; refine st_skip rfl rfl rfl h49 ?_; refine st_skip rfl rfl rfl h49 ?_; refine st _ (r_pick_f rfl h49 rfl) ?_; refine nt ?_; refine c_if_f rfl rfl ?_; refine c_skip ?_; refine c_then ?_; refine ns ?_; refine mv rfl ?_; refine asg rfl ?_; refine nt ?_; refine c_ret ?_; exact ret1L (v := vo) trivial rfl ⟨rfl, trivial⟩ ⟨_, o, rfl, M, (f_o.ls (fun b hb => tQ b hb) (Fsh.up uQ0)), (by unfold wordsF cutW; rw [(hr0o.trans (hr0.symm.trans (words_stop hF5 h13))), if_neg (by rintro ⟨h1, h2⟩; omega)])⟩
end Go.Proofs.Ytimhhcacjiombaa
namespace Go.Proofs.Ytimhhcacjiombaa
open Go Go.Wk Go.RowKit
set_option linter.unusedVariables false
set_option linter.unusedSimpArgs false
attribute [local irreducible] wpList wpQuiet wpStill wpMix Code.wp Calls bodyPost
theorem el44 : elemIs Try.prog 44 2 = true := by kernel_rfl
theorem elT44 : elT Try.prog 44 2 40 = true := by kernel_rfl
theorem u3 : Try.prog.underlying 3 = some (.int .i64) := by kernel_rfl
theorem u42 : Try.prog.underlying 42 = some (.slice 44) := by kernel_rfl

theorem ovS {w : World} {vb b e e' : Nat} {cs ds : List Value} {m vc o lb cb : Nat} (hA : Blk w vb cs e) (hB : Blk w b ds e') (h0 : 0 < ds.length) (hne : vb ≠ b) : (callFunc 62 #[.slice (some ⟨vb, 0, none⟩) m vc, .slice (some ⟨b, o, none⟩) lb cb]).run Try.prog w = .ok (.value (.bool false)) w := by
  rw [run_callFunc_extern (fn := Try.f62) (by kernel_rfl) (by kernel_rfl) (by kernel_rfl) (by kernel_rfl) (e := Extern.SlicesOverlaps.overlaps #[24, 24] #[4]) (by kernel_rfl), Lib.run_overlaps_apart w 24 4 9 u24 1 Try.sizeOf9 ⟨vb, 0, none⟩ ⟨b, o, none⟩ m vc lb cb hne _ _ _ _ (blk_shape hA) (blk_shape hB) (by omega) (blk_plain hA) (blk_plain hA)]
  rfl
theorem insS_any {w : World} {v : Value} {xs cs : List Value} {m i bu ub : Nat} (h : Own w 9 1 v m xs) (hi : i ≤ m) (hm : m ≤ 1000000) (h1x : OneC xs) (hU : Blk w bu cs ub) (hcl : cs.length = 1) (h1c : OneC cs) (hne : ∀ b, vblock v = some b → b ≠ bu) :
    Calls Try.prog 52 #[v, .int .i64 ((i : Nat) : Int), .slice (some ⟨bu, 0, none⟩) 1 1] w fun en w' => ∃ v', en = .returned v' ∧ Md (vblock v).toList w w' ∧ Own w' 9 1 v' (m + 1) (xs.take (i * 1) ++ cs ++ xs.drop (i * 1)) ∧ ∀ b, vblock v' = some b → vblock v = some b ∨ w.heap.size ≤ b := by
  have hxl := own_one h; have hSv : Shp v m := (by obtain ⟨a, cap, h0, h1, h2, h3, h4⟩ := own_cells h; exact ⟨a, cap, h0, h1, h2, h3⟩); have hSu : Shp (.slice (some ⟨bu, 0, none⟩) 1 1) 1 := ⟨_, _, rfl, Nat.le_refl _, by decide, by simp⟩; have hUc : ∀ j u, cs[j]? = some u → w.cell? ((⟨bu, 0, none⟩ : Addr).add j) = some u := fun j u hj => by rw [Addr.add_mk, Nat.zero_add, hU.cell]; exact hj
  refine enter (n := 95) Try.func52 rfl rfl rfl ?_; intro B; refine ns ?_; refine asg rfl ?_; refine nt ?_; refine ns ?_; refine mv rfl ?_; refine mv rfl ?_; refine st _ (r_sliceZ 1 i m u24 el9 rfl hSv hi (Nat.le_refl _) ⟨_, rfl⟩ rfl) ?_; refine nt ?_; refine ns ?_; refine mv rfl ?_; refine st _ (r_len rfl u24 hSu) ?_; refine asg rfl ?_; refine nt ?_; refine c_seq ?_; refine ns ?_; refine mv rfl ?_; refine st _ (r_eqN (a := 1) (b := 0) rfl rfl) ?_; refine nt ?_; refine c_if_f rfl rfl (c_skip ?_); refine c_then ?_; refine ns ?_; refine mv rfl ?_; refine st _ (r_len rfl u24 hSv) ?_; refine asg rfl ?_; refine nt ?_; refine c_seq ?_; refine ns ?_; refine mv rfl ?_; refine mv rfl ?_; refine st _ (r_eqN (a := i) (b := m) rfl rfl) ?_; refine nt ?_; refine c_if rfl (fun h22 => ?_) (fun h22 => ?_)
  · have e22 := of_decide_eq_true h22
    subst e22; refine ns ?_; refine mv rfl ?_; refine mv rfl ?_; refine st_apO (k := 1) u24 elT9 (by decide) rfl rfl h (by simpa using hcl) hUc h1c (by simp only [maxLen]; omega) (by omega) ?_; intro v' w' hO hm' hn'; refine asg rfl ?_; refine nt ?_; refine c_ret ?_
    repeat (first | refine r_then ?_ | refine r_block ?_)
    refine ret1 trivial rfl rfl ⟨_, rfl, hm', ?_, hn'⟩; rw [List.take_of_length_le (by omega), List.drop_of_length_le (by omega), List.append_nil]; exact hO
  · have e22 := of_decide_eq_false h22
    have hlt : i < m := (by omega); refine c_skip ?_; refine c_then ?_; obtain ⟨bv, cap, cur, rfl, hB, hmc, hcm, hcul, htk⟩ := h.blk (by omega); have hneb := hne bv rfl; have hcm2 := hcm; simp only [maxLen] at hcm2
    have hXc : ∀ j u, xs[j]? = some u → w.cell? ((⟨bv, 0, none⟩ : Addr).add j) = some u := fun j u hj => by
      rw [Addr.add_mk, Nat.zero_add, hB.cell]; rw [← htk, List.getElem?_take] at hj
      split at hj
      · exact hj
      · cases hj
    have hDc : ∀ j u, (xs.drop (i * 1))[j]? = some u → w.cell? ((⟨bv, i * 1, none⟩ : Addr).add j) = some u := fun j u hj => by
      rw [List.getElem?_drop] at hj; have := hXc _ u hj; rw [Addr.add_mk] at this ⊢
      rwa [show i * 1 + j = 0 + (i * 1 + j) by omega]
    have hDl : (xs.drop (i * 1)).length = (m - i) * 1 := (by rw [List.length_drop, hxl]; omega); have h1d : OneC (xs.drop (i * 1)) := fun u hu => h1x u (List.mem_of_mem_drop hu); refine c_seq ?_; refine ns ?_; refine mv rfl ?_; refine mv rfl ?_; refine st _ (r_addN (a := m) (b := 1) 9223372036854775808 rfl rfl rfl (by omega)) ?_; refine mv rfl ?_; refine st _ (r_cap rfl u24) ?_; refine st _ (r_gtN (a := m + 1) (b := cap) rfl rfl) ?_; refine nt ?_; refine c_if rfl (fun h31 => ?_) (fun h31 => ?_)
    · have e31 := of_decide_eq_true h31
      have hci : ¬ cap = i := (by omega); have hc0 : ¬ cap = 0 := (by omega); refine ns ?_; refine mv rfl ?_; refine mv rfl ?_; refine st _ (RunV.to (b := .slice (some ⟨bv, 0, none⟩) i cap) (r_sliceZ 1 0 i u24 el9 rfl hSv (by omega) hi rfl ⟨_, rfl⟩) (by simp [subz, hc0, Addr.add_mk])) ?_; refine mv rfl ?_; refine mv rfl ?_; refine st _ (r_addN (a := m) (b := 1) 9223372036854775808 rfl rfl rfl (by omega)) ?_; refine mv rfl ?_; refine st _ (r_subN (a := m + 1) (b := i) 9223372036854775808 rfl rfl rfl (by omega)) ?_; refine st_apZeros (xs := xs.take (i * 1)) (k := m + 1 - i) u24 u3 elT9 (by decide) rfl rfl (by rw [List.length_take, hxl]; omega) (fun j u hj => hXc j u (by rw [List.getElem?_take] at hj; split at hj; exact hj; cases hj)) (by omega) (by omega) (by omega) (by decide) ?_; intro b2 G cu2 w1 g2 l2 hm1 hB2 hl2 ht2 hG1 hG2; have hG3 := hG2; simp only [maxLen] at hG3; rw [show i + (m + 1 - i) = m + 1 by omega] at hG1; have hnb : b2 ≠ bv := (by have := hB.lt; omega); refine asg rfl ?_; refine nt ?_; rw [show i + (m + 1 - i) = m + 1 by omega]; refine ns ?_; refine mv rfl ?_; refine mv rfl ?_; refine st _ (RunV.to (b := .slice (some ⟨b2, i * 1, none⟩) (m + 1 - i) (G - i)) (r_sliceZ 1 i (m + 1) u24 el9 rfl (show Shp (.slice (some ⟨b2, 0, none⟩) (m + 1) G) (m + 1) from ⟨_, _, rfl, hG1, hG2, by simp⟩) (by omega) (Nat.le_refl _) ⟨_, rfl⟩ rfl) (by simp [subz, show ¬ G = i by omega, Addr.add_mk])) ?_; refine mv rfl ?_; refine st_copyN (ys := cs) u24 el9 rfl rfl hB2 (by rw [hcl, Nat.min_eq_left (by omega)]) (fun j u hj => hm1.cell (hUc j u hj) (by simp)) h1c (by omega) ?_; intro w2 hm2 hB3; refine nt ?_; refine c_seq ?_; refine c_mixT [(0, true), (1, true), (2, true), (3, true), (4, true), (5, true), (6, true), (7, true)] [8] (fun w' => Md [] w2 w') mixed (by kernel_rfl) ?_; intro w3 hd0; refine ⟨hd0, ?_⟩; refine Go.Wk.m _ (fun w' hc => r_move rfl) ?_; refine Go.Wk.m _ (fun w' hc => r_move rfl) ?_; refine Go.Wk.m _ (fun w' hc => r_move rfl) ?_; refine Go.Wk.m _ (fun w' hc => r_addN (a := i) (b := 1) 9223372036854775808 rfl rfl rfl (by omega)) ?_; refine Go.Wk.m _ (fun w' hc => RunV.to (b := .slice (some ⟨b2, (i + 1) * 1, none⟩) (m + 1 - (i + 1)) (G - (i + 1))) (r_sliceZ 1 (i + 1) (m + 1) u24 el9 rfl (show Shp (.slice (some ⟨b2, 0, none⟩) (m + 1) G) (m + 1) from ⟨_, _, rfl, hG1, hG2, by simp⟩) (by omega) (Nat.le_refl _) ⟨_, rfl⟩ rfl) (by simp [subz, show ¬ G = i + 1 by omega, Addr.add_mk])) ?_
      refine Go.Wk.m _ (fun w' hc => r_move rfl) ?_; refine Go.Wk.m _ (fun w' hc => r_move rfl) ?_; refine Go.Wk.m _ (fun w' hc => RunV.to (b := .slice (some ⟨bv, i * 1, none⟩) (m - i) (cap - i)) (r_sliceZ 1 i m u24 el9 rfl hSv hi (Nat.le_refl _) ⟨_, rfl⟩ rfl) (by simp [subz, hci, Addr.add_mk])) ?_; refine m_nil ?_; refine st_copyN (ys := xs.drop (i * 1)) u24 el9 rfl rfl (hB3.md0 hd0) (by rw [hDl]; congr 1; omega) (fun j u hj => hd0.cell (hm2.cell (hm1.cell (hDc j u hj) (by simp)) (by rw [Addr.add_block]; simpa using Ne.symm hnb)) (by simp)) h1d (by rw [splice_len (by omega), hDl]; omega) ?_; intro w4 hm4 hB4; refine nt ?_; refine ns ?_; refine mv rfl ?_; refine asg rfl ?_; refine nt ?_; refine c_ret ?_
      repeat (first | refine r_then ?_ | refine r_block ?_)
      have M : Md [] w w4 := ((hm1.step1 hm2 g2).step0 hd0).step1 hm4 g2; have hlf : (splice (splice cu2 (i * 1) cs) ((i + 1) * 1) (xs.drop (i * 1))).length = G * 1 := (by rw [splice_len (by rw [splice_len (by omega), hDl]; omega), splice_len (by omega), hl2]); have hO := Own.of_blk (sz := 1) (m := m + 1) hB4 hG1 hG2 hlf; rw [show (m + 1) * 1 = m * 1 + 1 by omega, show (i + 1) * 1 = i * 1 + 1 by omega, ins_new (s := 1) (by omega) hxl ht2 hcl (by omega)] at hO; refine ret1 trivial rfl rfl ⟨_, rfl, M.mono (by simp), hO, fun b hb => .inr ?_⟩; simp [vblock] at hb; omega
    · have e31 := of_decide_eq_false h31
      have hci : ¬ cap = i := (by omega); have hci1 : ¬ cap = i + 1 := (by omega); have hc0 : cap ≠ 0 := (by omega); refine c_skip ?_; refine c_then ?_; refine ns ?_; refine mv rfl ?_; refine mv rfl ?_; refine mv rfl ?_; refine st _ (r_addN (a := m) (b := 1) 9223372036854775808 rfl rfl rfl (by omega)) ?_; refine st _ (RunV.to (b := .slice (some ⟨bv, 0, none⟩) (m + 1) cap) (r_sliceC (h := m + 1) 1 u24 el9 rfl rfl (by omega) hc0) (by simp [Addr.add_mk])) ?_; refine asg rfl ?_; refine nt ?_; have hS1 : Shp (.slice (some ⟨bv, 0, none⟩) (m + 1) cap) (m + 1) := ⟨_, _, rfl, by omega, hcm, by simp⟩; refine c_seq ?_; refine ns ?_; refine mv rfl ?_; refine mv rfl ?_; refine mv rfl ?_; refine mv rfl ?_; refine st _ (r_addN (a := i) (b := 1) 9223372036854775808 rfl rfl rfl (by omega)) ?_; refine st _ (RunV.to (b := .slice (some ⟨bv, (i + 1) * 1, none⟩) (m + 1 - (i + 1)) (cap - (i + 1))) (r_sliceZ 1 (i + 1) (m + 1) u24 el9 rfl hS1 (by omega) (Nat.le_refl _) ⟨_, rfl⟩ rfl) (by simp [subz, hci1, Addr.add_mk])) ?_; refine st _ (r_callX rfl (ovS hU hB (by omega) (Ne.symm hneb))) ?_; refine st _ (r_not rfl) ?_; refine nt ?_; refine c_if_t rfl rfl ?_; refine c_seq ?_; refine c_mixT [(0, true), (1, true), (2, true), (3, true), (4, true), (5, true), (6, true), (7, true)] [8] (fun w' => Md [] w w') mixed (by kernel_rfl) ?_; intro w1 hd0; refine ⟨hd0, ?_⟩; refine Go.Wk.m _ (fun w' hc => r_move rfl) ?_; refine Go.Wk.m _ (fun w' hc => r_move rfl) ?_; refine Go.Wk.m _ (fun w' hc => r_move rfl) ?_; refine Go.Wk.m _ (fun w' hc => r_addN (a := i) (b := 1) 9223372036854775808 rfl rfl rfl (by omega)) ?_; refine Go.Wk.m _ (fun w' hc => RunV.to (b := .slice (some ⟨bv, (i + 1) * 1, none⟩) (m + 1 - (i + 1)) (cap - (i + 1))) (r_sliceZ 1 (i + 1) (m + 1) u24 el9 rfl hS1 (by omega) (Nat.le_refl _) ⟨_, rfl⟩ rfl) (by simp [subz, hci1, Addr.add_mk])) ?_; refine Go.Wk.m _ (fun w' hc => r_move rfl) ?_; refine Go.Wk.m _ (fun w' hc => r_move rfl) ?_; refine Go.Wk.m _ (fun w' hc => RunV.to (b := .slice (some ⟨bv, i * 1, none⟩) (m + 1 - i) (cap - i)) (r_sliceZ 1 i (m + 1) u24 el9 rfl hS1 (by omega) (Nat.le_refl _) ⟨_, rfl⟩ rfl) (by simp [subz, hci, Addr.add_mk])) ?_; refine m_nil ?_; refine st_copyN (ys := xs.drop (i * 1)) u24 el9 rfl rfl (hB.md0 hd0) (by rw [hDl]; congr 1; omega) (fun j u hj => hd0.cell (hDc j u hj) (by simp)) h1d (by rw [hDl]; omega) ?_
      intro w2 hm2 hB3; refine nt ?_; refine ns ?_; refine mv rfl ?_; refine mv rfl ?_; refine st _ (RunV.to (b := .slice (some ⟨bv, i * 1, none⟩) (m + 1 - i) (cap - i)) (r_sliceZ 1 i (m + 1) u24 el9 rfl hS1 (by omega) (Nat.le_refl _) ⟨_, rfl⟩ rfl) (by simp [subz, hci, Addr.add_mk])) ?_; refine mv rfl ?_; refine st_copyN (ys := cs) u24 el9 rfl rfl hB3 (by rw [hcl, Nat.min_eq_left (by omega)]) (fun j u hj => hm2.cell (hd0.cell (hUc j u hj) (by simp)) (by rw [Addr.add_block]; simpa using Ne.symm hneb)) h1c (by rw [splice_len (by rw [hDl]; omega)]; omega) ?_; intro w3 hm3 hB4; refine nt ?_; refine ns ?_; refine mv rfl ?_; refine asg rfl ?_; refine nt ?_; refine c_ret ?_
      repeat (first | refine r_then ?_ | refine r_block ?_)
      have M : Md [bv] w w3 := ((Md.refl [bv] w).step0 hd0 |>.step1' hm2 (by simp)).step1' hm3 (by simp); have hlf : (splice (splice cur ((i + 1) * 1) (xs.drop (i * 1))) (i * 1) cs).length = cap * 1 := (by rw [splice_len (by rw [splice_len (by rw [hDl]; omega)]; omega), splice_len (by rw [hDl]; omega), hcul]); have hO := Own.of_blk (sz := 1) (m := m + 1) hB4 (by omega) hcm hlf; rw [show (m + 1) * 1 = m * 1 + 1 by omega, show (i + 1) * 1 = i * 1 + 1 by omega, ins_shift (s := 1) (by omega) htk hcl (by omega)] at hO; exact ret1 trivial rfl rfl ⟨_, rfl, M, hO, fun b hb => .inl hb⟩
theorem ovA {w : World} {vb b e e' : Nat} {cs ds : List Value} {m vc o lb cb : Nat} (hA : Blk w vb cs e) (hB : Blk w b ds e') (h0 : 0 < ds.length) (hne : vb ≠ b) : (callFunc 58 #[.slice (some ⟨vb, 0, none⟩) m vc, .slice (some ⟨b, o, none⟩) lb cb]).run Try.prog w = .ok (.value (.bool false)) w := by
  rw [run_callFunc_extern (fn := Try.f58) (by kernel_rfl) (by kernel_rfl) (by kernel_rfl) (by kernel_rfl) (e := Extern.SlicesOverlaps.overlaps #[42, 42] #[4]) (by kernel_rfl), Lib.run_overlaps_apart w 42 4 44 u42 2 Try.sizeOf44 ⟨vb, 0, none⟩ ⟨b, o, none⟩ m vc lb cb hne _ _ _ _ (blk_shape hA) (blk_shape hB) (by omega) (blk_plain hA) (blk_plain hA)]
  rfl
theorem insA_any {w : World} {v : Value} {xs cs : List Value} {m i bu ub : Nat} (h : Own w 44 2 v m xs) (hi : i ≤ m) (hm : m ≤ 1000000) (h1x : OneC xs) (hU : Blk w bu cs ub) (hcl : cs.length = 2) (h1c : OneC cs) (hne : ∀ b, vblock v = some b → b ≠ bu) :
    Calls Try.prog 50 #[v, .int .i64 ((i : Nat) : Int), .slice (some ⟨bu, 0, none⟩) 1 1] w fun en w' => ∃ v', en = .returned v' ∧ Md (vblock v).toList w w' ∧ Own w' 44 2 v' (m + 1) (xs.take (i * 2) ++ cs ++ xs.drop (i * 2)) ∧ ∀ b, vblock v' = some b → vblock v = some b ∨ w.heap.size ≤ b := by
  have hxl := own_one h; have hSv : Shp v m := (by obtain ⟨a, cap, h0, h1, h2, h3, h4⟩ := own_cells h; exact ⟨a, cap, h0, h1, h2, h3⟩); have hSu : Shp (.slice (some ⟨bu, 0, none⟩) 1 1) 1 := ⟨_, _, rfl, Nat.le_refl _, by decide, by simp⟩; have hUc : ∀ j u, cs[j]? = some u → w.cell? ((⟨bu, 0, none⟩ : Addr).add j) = some u := fun j u hj => by rw [Addr.add_mk, Nat.zero_add, hU.cell]; exact hj
  refine enter (n := 95) Try.func50 rfl rfl rfl ?_; intro B; refine ns ?_; refine asg rfl ?_; refine nt ?_; refine ns ?_; refine mv rfl ?_; refine mv rfl ?_; refine st _ (r_sliceZ 2 i m u42 el44 rfl hSv hi (Nat.le_refl _) ⟨_, rfl⟩ rfl) ?_; refine nt ?_; refine ns ?_; refine mv rfl ?_; refine st _ (r_len rfl u42 hSu) ?_; refine asg rfl ?_; refine nt ?_; refine c_seq ?_; refine ns ?_; refine mv rfl ?_; refine st _ (r_eqN (a := 1) (b := 0) rfl rfl) ?_; refine nt ?_; refine c_if_f rfl rfl (c_skip ?_); refine c_then ?_; refine ns ?_; refine mv rfl ?_; refine st _ (r_len rfl u42 hSv) ?_; refine asg rfl ?_; refine nt ?_; refine c_seq ?_; refine ns ?_; refine mv rfl ?_; refine mv rfl ?_; refine st _ (r_eqN (a := i) (b := m) rfl rfl) ?_; refine nt ?_; refine c_if rfl (fun h22 => ?_) (fun h22 => ?_)
  · have e22 := of_decide_eq_true h22
    subst e22; refine ns ?_; refine mv rfl ?_; refine mv rfl ?_; refine st_apO (k := 1) u42 elT44 (by decide) rfl rfl h (by simpa using hcl) hUc h1c (by simp only [maxLen]; omega) (by omega) ?_; intro v' w' hO hm' hn'; refine asg rfl ?_; refine nt ?_; refine c_ret ?_
    repeat (first | refine r_then ?_ | refine r_block ?_)
    refine ret1 trivial rfl rfl ⟨_, rfl, hm', ?_, hn'⟩; rw [List.take_of_length_le (by omega), List.drop_of_length_le (by omega), List.append_nil]; exact hO
  · have e22 := of_decide_eq_false h22
    have hlt : i < m := (by omega); refine c_skip ?_; refine c_then ?_; obtain ⟨bv, cap, cur, rfl, hB, hmc, hcm, hcul, htk⟩ := h.blk (by omega); have hneb := hne bv rfl; have hcm2 := hcm; simp only [maxLen] at hcm2
    have hXc : ∀ j u, xs[j]? = some u → w.cell? ((⟨bv, 0, none⟩ : Addr).add j) = some u := fun j u hj => by
      rw [Addr.add_mk, Nat.zero_add, hB.cell]; rw [← htk, List.getElem?_take] at hj
      split at hj
      · exact hj
      · cases hj
    have hDc : ∀ j u, (xs.drop (i * 2))[j]? = some u → w.cell? ((⟨bv, i * 2, none⟩ : Addr).add j) = some u := fun j u hj => by
      rw [List.getElem?_drop] at hj; have := hXc _ u hj; rw [Addr.add_mk] at this ⊢
      rwa [show i * 2 + j = 0 + (i * 2 + j) by omega]
    have hDl : (xs.drop (i * 2)).length = (m - i) * 2 := (by rw [List.length_drop, hxl]; omega); have h1d : OneC (xs.drop (i * 2)) := fun u hu => h1x u (List.mem_of_mem_drop hu); refine c_seq ?_; refine ns ?_; refine mv rfl ?_; refine mv rfl ?_; refine st _ (r_addN (a := m) (b := 1) 9223372036854775808 rfl rfl rfl (by omega)) ?_; refine mv rfl ?_; refine st _ (r_cap rfl u42) ?_; refine st _ (r_gtN (a := m + 1) (b := cap) rfl rfl) ?_; refine nt ?_; refine c_if rfl (fun h31 => ?_) (fun h31 => ?_)
    · have e31 := of_decide_eq_true h31
      have hci : ¬ cap = i := (by omega); have hc0 : ¬ cap = 0 := (by omega); refine ns ?_; refine mv rfl ?_; refine mv rfl ?_; refine st _ (RunV.to (b := .slice (some ⟨bv, 0, none⟩) i cap) (r_sliceZ 2 0 i u42 el44 rfl hSv (by omega) hi rfl ⟨_, rfl⟩) (by simp [subz, hc0, Addr.add_mk])) ?_; refine mv rfl ?_; refine mv rfl ?_; refine st _ (r_addN (a := m) (b := 1) 9223372036854775808 rfl rfl rfl (by omega)) ?_; refine mv rfl ?_; refine st _ (r_subN (a := m + 1) (b := i) 9223372036854775808 rfl rfl rfl (by omega)) ?_; refine st_apZeros (xs := xs.take (i * 2)) (k := m + 1 - i) u42 u3 elT44 (by decide) rfl rfl (by rw [List.length_take, hxl]; omega) (fun j u hj => hXc j u (by rw [List.getElem?_take] at hj; split at hj; exact hj; cases hj)) (by omega) (by omega) (by omega) (by decide) ?_; intro b2 G cu2 w1 g2 l2 hm1 hB2 hl2 ht2 hG1 hG2; have hG3 := hG2; simp only [maxLen] at hG3; rw [show i + (m + 1 - i) = m + 1 by omega] at hG1; have hnb : b2 ≠ bv := (by have := hB.lt; omega); refine asg rfl ?_; refine nt ?_; rw [show i + (m + 1 - i) = m + 1 by omega]; refine ns ?_; refine mv rfl ?_; refine mv rfl ?_; refine st _ (RunV.to (b := .slice (some ⟨b2, i * 2, none⟩) (m + 1 - i) (G - i)) (r_sliceZ 2 i (m + 1) u42 el44 rfl (show Shp (.slice (some ⟨b2, 0, none⟩) (m + 1) G) (m + 1) from ⟨_, _, rfl, hG1, hG2, by simp⟩) (by omega) (Nat.le_refl _) ⟨_, rfl⟩ rfl) (by simp [subz, show ¬ G = i by omega, Addr.add_mk])) ?_; refine mv rfl ?_; refine st_copyN (ys := cs) u42 el44 rfl rfl hB2 (by rw [hcl, Nat.min_eq_left (by omega)]) (fun j u hj => hm1.cell (hUc j u hj) (by simp)) h1c (by omega) ?_; intro w2 hm2 hB3; refine nt ?_; refine c_seq ?_; refine c_mixT [(0, true), (1, true), (2, true), (3, true), (4, true), (5, true), (6, true), (7, true)] [8] (fun w' => Md [] w2 w') mixed (by kernel_rfl) ?_; intro w3 hd0; refine ⟨hd0, ?_⟩; refine Go.Wk.m _ (fun w' hc => r_move rfl) ?_; refine Go.Wk.m _ (fun w' hc => r_move rfl) ?_; refine Go.Wk.m _ (fun w' hc => r_move rfl) ?_; refine Go.Wk.m _ (fun w' hc => r_addN (a := i) (b := 1) 9223372036854775808 rfl rfl rfl (by omega)) ?_; refine Go.Wk.m _ (fun w' hc => RunV.to (b := .slice (some ⟨b2, (i + 1) * 2, none⟩) (m + 1 - (i + 1)) (G - (i + 1))) (r_sliceZ 2 (i + 1) (m + 1) u42 el44 rfl (show Shp (.slice (some ⟨b2, 0, none⟩) (m + 1) G) (m + 1) from ⟨_, _, rfl, hG1, hG2, by simp⟩) (by omega) (Nat.le_refl _) ⟨_, rfl⟩ rfl) (by simp [subz, show ¬ G = i + 1 by omega, Addr.add_mk])) ?_
      refine Go.Wk.m _ (fun w' hc => r_move rfl) ?_; refine Go.Wk.m _ (fun w' hc => r_move rfl) ?_; refine Go.Wk.m _ (fun w' hc => RunV.to (b := .slice (some ⟨bv, i * 2, none⟩) (m - i) (cap - i)) (r_sliceZ 2 i m u42 el44 rfl hSv hi (Nat.le_refl _) ⟨_, rfl⟩ rfl) (by simp [subz, hci, Addr.add_mk])) ?_; refine m_nil ?_; refine st_copyN (ys := xs.drop (i * 2)) u42 el44 rfl rfl (hB3.md0 hd0) (by rw [hDl]; congr 1; omega) (fun j u hj => hd0.cell (hm2.cell (hm1.cell (hDc j u hj) (by simp)) (by rw [Addr.add_block]; simpa using Ne.symm hnb)) (by simp)) h1d (by rw [splice_len (by omega), hDl]; omega) ?_; intro w4 hm4 hB4; refine nt ?_; refine ns ?_; refine mv rfl ?_; refine asg rfl ?_; refine nt ?_; refine c_ret ?_
      repeat (first | refine r_then ?_ | refine r_block ?_)
      have M : Md [] w w4 := ((hm1.step1 hm2 g2).step0 hd0).step1 hm4 g2; have hlf : (splice (splice cu2 (i * 2) cs) ((i + 1) * 2) (xs.drop (i * 2))).length = G * 2 := (by rw [splice_len (by rw [splice_len (by omega), hDl]; omega), splice_len (by omega), hl2]); have hO := Own.of_blk (sz := 2) (m := m + 1) hB4 hG1 hG2 hlf; rw [show (m + 1) * 2 = m * 2 + 2 by omega, show (i + 1) * 2 = i * 2 + 2 by omega, ins_new (s := 2) (by omega) hxl ht2 hcl (by omega)] at hO; refine ret1 trivial rfl rfl ⟨_, rfl, M.mono (by simp), hO, fun b hb => .inr ?_⟩; simp [vblock] at hb; omega
    · have e31 := of_decide_eq_false h31
      have hci : ¬ cap = i := (by omega); have hci1 : ¬ cap = i + 1 := (by omega); have hc0 : cap ≠ 0 := (by omega); refine c_skip ?_; refine c_then ?_; refine ns ?_; refine mv rfl ?_; refine mv rfl ?_; refine mv rfl ?_; refine st _ (r_addN (a := m) (b := 1) 9223372036854775808 rfl rfl rfl (by omega)) ?_; refine st _ (RunV.to (b := .slice (some ⟨bv, 0, none⟩) (m + 1) cap) (r_sliceC (h := m + 1) 2 u42 el44 rfl rfl (by omega) hc0) (by simp [Addr.add_mk])) ?_; refine asg rfl ?_; refine nt ?_; have hS1 : Shp (.slice (some ⟨bv, 0, none⟩) (m + 1) cap) (m + 1) := ⟨_, _, rfl, by omega, hcm, by simp⟩; refine c_seq ?_; refine ns ?_; refine mv rfl ?_; refine mv rfl ?_; refine mv rfl ?_; refine mv rfl ?_; refine st _ (r_addN (a := i) (b := 1) 9223372036854775808 rfl rfl rfl (by omega)) ?_; refine st _ (RunV.to (b := .slice (some ⟨bv, (i + 1) * 2, none⟩) (m + 1 - (i + 1)) (cap - (i + 1))) (r_sliceZ 2 (i + 1) (m + 1) u42 el44 rfl hS1 (by omega) (Nat.le_refl _) ⟨_, rfl⟩ rfl) (by simp [subz, hci1, Addr.add_mk])) ?_; refine st _ (r_callX rfl (ovA hU hB (by omega) (Ne.symm hneb))) ?_; refine st _ (r_not rfl) ?_; refine nt ?_; refine c_if_t rfl rfl ?_; refine c_seq ?_; refine c_mixT [(0, true), (1, true), (2, true), (3, true), (4, true), (5, true), (6, true), (7, true)] [8] (fun w' => Md [] w w') mixed (by kernel_rfl) ?_; intro w1 hd0; refine ⟨hd0, ?_⟩; refine Go.Wk.m _ (fun w' hc => r_move rfl) ?_; refine Go.Wk.m _ (fun w' hc => r_move rfl) ?_; refine Go.Wk.m _ (fun w' hc => r_move rfl) ?_; refine Go.Wk.m _ (fun w' hc => r_addN (a := i) (b := 1) 9223372036854775808 rfl rfl rfl (by omega)) ?_; refine Go.Wk.m _ (fun w' hc => RunV.to (b := .slice (some ⟨bv, (i + 1) * 2, none⟩) (m + 1 - (i + 1)) (cap - (i + 1))) (r_sliceZ 2 (i + 1) (m + 1) u42 el44 rfl hS1 (by omega) (Nat.le_refl _) ⟨_, rfl⟩ rfl) (by simp [subz, hci1, Addr.add_mk])) ?_; refine Go.Wk.m _ (fun w' hc => r_move rfl) ?_; refine Go.Wk.m _ (fun w' hc => r_move rfl) ?_; refine Go.Wk.m _ (fun w' hc => RunV.to (b := .slice (some ⟨bv, i * 2, none⟩) (m + 1 - i) (cap - i)) (r_sliceZ 2 i (m + 1) u42 el44 rfl hS1 (by omega) (Nat.le_refl _) ⟨_, rfl⟩ rfl) (by simp [subz, hci, Addr.add_mk])) ?_; refine m_nil ?_; refine st_copyN (ys := xs.drop (i * 2)) u42 el44 rfl rfl (hB.md0 hd0) (by rw [hDl]; congr 1; omega) (fun j u hj => hd0.cell (hDc j u hj) (by simp)) h1d (by rw [hDl]; omega) ?_
      intro w2 hm2 hB3; refine nt ?_; refine ns ?_; refine mv rfl ?_; refine mv rfl ?_; refine st _ (RunV.to (b := .slice (some ⟨bv, i * 2, none⟩) (m + 1 - i) (cap - i)) (r_sliceZ 2 i (m + 1) u42 el44 rfl hS1 (by omega) (Nat.le_refl _) ⟨_, rfl⟩ rfl) (by simp [subz, hci, Addr.add_mk])) ?_; refine mv rfl ?_; refine st_copyN (ys := cs) u42 el44 rfl rfl hB3 (by rw [hcl, Nat.min_eq_left (by omega)]) (fun j u hj => hm2.cell (hd0.cell (hUc j u hj) (by simp)) (by rw [Addr.add_block]; simpa using Ne.symm hneb)) h1c (by rw [splice_len (by rw [hDl]; omega)]; omega) ?_; intro w3 hm3 hB4; refine nt ?_; refine ns ?_; refine mv rfl ?_; refine asg rfl ?_; refine nt ?_; refine c_ret ?_
      repeat (first | refine r_then ?_ | refine r_block ?_)
      have M : Md [bv] w w3 := ((Md.refl [bv] w).step0 hd0 |>.step1' hm2 (by simp)).step1' hm3 (by simp); have hlf : (splice (splice cur ((i + 1) * 2) (xs.drop (i * 2))) (i * 2) cs).length = cap * 2 := (by rw [splice_len (by rw [splice_len (by rw [hDl]; omega)]; omega), splice_len (by rw [hDl]; omega), hcul]); have hO := Own.of_blk (sz := 2) (m := m + 1) hB4 (by omega) hcm hlf; rw [show (m + 1) * 2 = m * 2 + 2 by omega, show (i + 1) * 2 = i * 2 + 2 by omega, ins_shift (s := 2) (by omega) htk hcl (by omega)] at hO; exact ret1 trivial rfl rfl ⟨_, rfl, M, hO, fun b hb => .inl hb⟩
end Go.Proofs.Ytimhhcacjiombaa
namespace Go.Proofs.Ytimhhcacjiombaa
open Go Go.Wk Go.RowKit
set_option linter.unusedVariables false
set_option linter.unusedSimpArgs false
attribute [local irreducible] wpList wpQuiet wpStill wpMix Code.wp Calls bodyPost
theorem fn49 : isFn Try.prog 49 = true := by kernel_rfl
theorem fn57 : isFn Try.prog 57 = true := by kernel_rfl
theorem fn72 : isFn Try.prog 72 = true := by kernel_rfl
theorem off44_0 : fieldOff Try.prog 44 0 = some 0 := by kernel_rfl

theorem cmpstr_run {w : World} (a b : List UInt8) : (callFunc 70 #[str a, str b]).run Try.prog w = .ok (.value (.int .i64 (cmpS a b))) w := by
  rw [run_callFunc_extern (fn := Try.f70) (by kernel_rfl) (by kernel_rfl) (by kernel_rfl) (by kernel_rfl) (e := Extern.BytealgCompare.compare) (by kernel_rfl)]; unfold str; rw [Lib.run_compareString]; simp only [cmp_bytes]
  rfl
theorem kCmpB_any {w : World} {Q : Nat → Prop} (uQ : Up w Q) (a : List UInt8) (b : List UInt8) :
    Calls Try.prog 57 #[(str a), (str b)] w fun en w' => ∃ r0 : Int, en = .returned (.int .i64 (r0 : Int)) ∧ Md [] w w' ∧ (-9223372036854775808 ≤ r0 ∧ r0 < 9223372036854775808) ∧ cmpS a b = r0 := by
  have bd := cmpS_bd a b; have M := Md.refl [] w; have uQ0 := uQ; have tQ : ∀ b, Q b → Q b := fun _ h => h; have sQ0 : ∀ b, Q b → b < w.heap.size → Q b := fun _ h _ => h; refine enter (n := 8) Try.func57 rfl rfl rfl ?_; intro B; refine ns ?_; refine asg rfl ?_; refine nt ?_; refine ns ?_; refine mv rfl ?_; refine mv rfl ?_; refine st _ (r_callX rfl (cmpstr_run _ _)) ?_; refine asg rfl ?_; refine nt ?_; refine c_ret ?_; exact ret1L (v := (.int .i64 (cmpS a b : Int))) trivial rfl ⟨rfl, trivial⟩ ⟨cmpS a b, rfl, M, (by first | assumption | omega | simp_all), rfl⟩
theorem kCmp_any {w : World} {Q : Nat → Prop} (uQ : Up w Q) (a : List UInt8) (b : List UInt8) :
    Calls Try.prog 49 #[(str a), (str b)] w fun en w' => ∃ r0 : Int, en = .returned (.int .i64 (r0 : Int)) ∧ Md [] w w' ∧ (-9223372036854775808 ≤ r0 ∧ r0 < 9223372036854775808) ∧ cmpS a b = r0 := by
  have M := Md.refl [] w; have uQ0 := uQ; have tQ : ∀ b, Q b → Q b := fun _ h => h; have sQ0 : ∀ b, Q b → b < w.heap.size → Q b := fun _ h _ => h; refine enter (n := 8) Try.func49 rfl rfl rfl ?_; intro B; refine ns ?_; refine asg rfl ?_; refine nt ?_; refine ns ?_; refine mv rfl ?_; refine mv rfl ?_; refine st_call fn57 rfl (kCmpB_any uQ a b) ?_; rintro en w1 ⟨x1_0, rfl, hm, q1_0, hF1⟩; refine ⟨_, rfl, ?_⟩; replace uQ := uQ.md hm; replace M := M.step0 hm; refine asg rfl ?_; refine nt ?_; refine c_ret ?_; exact ret1L (v := (.int .i64 (x1_0 : Int))) trivial rfl ⟨rfl, trivial⟩ ⟨x1_0, rfl, M, (by first | assumption | omega | simp_all), hF1⟩
theorem kAdd1_any {w : World} {Q : Nat → Prop} (uQ : Up w Q) {v0_0 : Value} (a : Alt) (a0_0 : Ls tStr w Q v0_0 a.values) (s : List UInt8) :
    Calls Try.prog 48 #[.agg (Alt.cells a v0_0).toArray, (str s)] w fun en w' => ∃ r0 : Int, en = .returned (.int .i64 (r0 : Int)) ∧ Md [] w w' ∧ (-9223372036854775808 ≤ r0 ∧ r0 < 9223372036854775808) ∧ cmpS a.name s = r0 := by
  have M := Md.refl [] w; have uQ0 := uQ; have tQ : ∀ b, Q b → Q b := fun _ h => h; have sQ0 : ∀ b, Q b → b < w.heap.size → Q b := fun _ h _ => h; refine enter (n := 9) Try.func48 rfl rfl rfl ?_; intro B; refine ns ?_; refine st_box (cs := (Alt.cells a v0_0)) rfl rfl ?_; intro ba2 w1 ga2 la2 hm ha2; have n_ha2 := uQ _ ga2; replace ga2 := Nat.le_trans M.size ga2; replace a0_0 := a0_0.md0 hm; replace uQ := uQ.md hm; replace M := M.step0 hm; have p_ha2 : Fsh [] w ba2 := .inr ga2; refine asg rfl ?_; refine nt ?_; refine ns ?_; refine st _ (r_field rfl off44_0) ?_; refine st _ ((r_loadBlk rfl one9 ha2 rfl).to (b := (str a.name)) rfl) ?_; refine mv rfl ?_; refine st_call fn49 rfl (kCmp_any uQ a.name s) ?_; rintro en w2 ⟨x2_0, rfl, hm, q2_0, hF2⟩; refine ⟨_, rfl, ?_⟩; replace a0_0 := a0_0.md0 hm; replace ha2 := ha2.md0 hm; replace uQ := uQ.md hm; replace M := M.step0 hm; refine asg rfl ?_; refine nt ?_; refine c_ret ?_; exact ret1L (v := (.int .i64 (x2_0 : Int))) trivial rfl ⟨rfl, trivial⟩ ⟨x2_0, rfl, M, (by first | assumption | omega | simp_all), hF2⟩
theorem kNaN_any {w : World} {Q : Nat → Prop} (uQ : Up w Q) (a : List UInt8) :
    Calls Try.prog 72 #[(str a)] w fun en w' => ∃ r0 : Bool, en = .returned (.bool r0) ∧ Md [] w w' ∧ false = r0 := by
  have M := Md.refl [] w; have uQ0 := uQ; have tQ : ∀ b, Q b → Q b := fun _ h => h; have sQ0 : ∀ b, Q b → b < w.heap.size → Q b := fun _ h _ => h; refine enter (n := 6) Try.func72 rfl rfl rfl ?_; intro B; refine ns ?_; refine asg rfl ?_; refine nt ?_; refine ns ?_; refine mv rfl ?_; refine mv rfl ?_; refine st _ (r_neqS (a := a) (b := a) rfl rfl) ?_; refine asg rfl ?_; refine nt ?_; refine c_ret ?_; exact ret1L (v := (.bool ((!decide (a = a))))) trivial rfl ⟨rfl, trivial⟩ ⟨(!decide (a = a)), rfl, M, (by simp_all)⟩
theorem kNaNs_any {w : World} {Q : Nat → Prop} (uQ : Up w Q) (a : List UInt8) :
    Calls Try.prog 61 #[(str a)] w fun en w' => ∃ r0 : Bool, en = .returned (.bool r0) ∧ Md [] w w' ∧ false = r0 := by
  have M := Md.refl [] w; have uQ0 := uQ; have tQ : ∀ b, Q b → Q b := fun _ h => h; have sQ0 : ∀ b, Q b → b < w.heap.size → Q b := fun _ h _ => h; refine enter (n := 6) Try.func61 rfl rfl rfl ?_; intro B; refine ns ?_; refine asg rfl ?_; refine nt ?_; refine ns ?_; refine mv rfl ?_; refine mv rfl ?_; refine st _ (r_neqS (a := a) (b := a) rfl rfl) ?_; refine asg rfl ?_; refine nt ?_; refine c_ret ?_; exact ret1L (v := (.bool ((!decide (a = a))))) trivial rfl ⟨rfl, trivial⟩ ⟨(!decide (a = a)), rfl, M, (by simp_all)⟩
theorem kLess_any {w : World} {Q : Nat → Prop} (uQ : Up w Q) (a : List UInt8) (b : List UInt8) :
    Calls Try.prog 60 #[(str a), (str b)] w fun en w' => ∃ r0 : Bool, en = .returned (.bool r0) ∧ Md [] w w' ∧ Op.bytesLess a b = r0 := by
  have M := Md.refl [] w; have uQ0 := uQ; have tQ : ∀ b, Q b → Q b := fun _ h => h; have sQ0 : ∀ b, Q b → b < w.heap.size → Q b := fun _ h _ => h; refine enter (n := 17) Try.func60 rfl rfl rfl ?_; intro B; refine ns ?_; refine asg rfl ?_; refine nt ?_; refine ns ?_; refine mv rfl ?_; refine st_call fn72 rfl (kNaN_any uQ a) ?_; rintro en w1 ⟨x1_0, rfl, hm, hF1⟩; refine ⟨_, rfl, ?_⟩; replace uQ := uQ.md hm; replace M := M.step0 hm; refine mv rfl ?_; refine part_n (t := 7) rfl (fun h7 => ?_) (fun h7 => ?_)
  · (first | (have h7n := of_decide_eq_true h7) | (have h7n := of_decide_eq_false (bnt h7)) | (have h7n := bnt h7) | (have h7n := h7)); refine st_g _ rfl rfl rfl h7 (r_move rfl) ?_; refine st_call_g rfl rfl rfl h7 fn72 rfl (kNaN_any uQ b) ?_; rintro en w2 ⟨x2_0, rfl, hm, hF2⟩; refine ⟨_, rfl, ?_⟩; replace uQ := uQ.md hm; replace M := M.step0 hm; refine st_g _ rfl rfl rfl h7 (r_not rfl) ?_; refine st _ (r_pick_t rfl h7 rfl) ?_; refine mv rfl ?_; refine part_n (t := 12) rfl (fun h12 => ?_) (fun h12 => ?_)
    · (first | (have h12n := of_decide_eq_true h12) | (have h12n := of_decide_eq_false (bnt h12)) | (have h12n := bnt h12) | (have h12n := h12)); refine st_skip rfl rfl rfl h12 ?_; refine st_skip rfl rfl rfl h12 ?_; refine st_skip rfl rfl rfl h12 ?_; refine st _ (r_pick_t rfl h12 rfl) ?_; refine asg rfl ?_; refine nt ?_; refine c_ret ?_; exact ret1L (v := (.bool true)) trivial rfl ⟨rfl, trivial⟩ ⟨true, rfl, M, (by rw [h7n] at hF1; cases hF1)⟩
    · (first | (have h12n := of_decide_eq_false h12) | (have h12n := of_decide_eq_true (bnf h12)) | (have h12n := bnf h12) | (have h12n := h12)); refine st_g _ rfl rfl rfl h12 (r_move rfl) ?_; refine st_g _ rfl rfl rfl h12 (r_move rfl) ?_; refine st_g _ rfl rfl rfl h12 (r_lssS (a := a) (b := b) rfl rfl) ?_; refine st _ (r_pick_f rfl h12 rfl) ?_; refine asg rfl ?_; refine nt ?_; refine c_ret ?_; exact ret1L (v := (.bool ((Op.bytesLess a b)))) trivial rfl ⟨rfl, trivial⟩ ⟨(Op.bytesLess a b), rfl, M, rfl⟩
  · (first | (have h7n := of_decide_eq_false h7) | (have h7n := of_decide_eq_true (bnf h7)) | (have h7n := bnf h7) | (have h7n := h7)); refine st_skip rfl rfl rfl h7 ?_; refine st_skip rfl rfl rfl h7 ?_; refine st_skip rfl rfl rfl h7 ?_; refine st _ (r_pick_f rfl h7 rfl) ?_; refine mv rfl ?_; refine st_g _ rfl rfl rfl rfl (r_move rfl) ?_; refine st_g _ rfl rfl rfl rfl (r_move rfl) ?_; refine st_g _ rfl rfl rfl rfl (r_lssS (a := a) (b := b) rfl rfl) ?_; refine st _ (r_pick_f rfl rfl rfl) ?_; refine asg rfl ?_; refine nt ?_; refine c_ret ?_; exact ret1L (v := (.bool ((Op.bytesLess a b)))) trivial rfl ⟨rfl, trivial⟩ ⟨(Op.bytesLess a b), rfl, M, rfl⟩
end Go.Proofs.Ytimhhcacjiombaa
namespace Go.Proofs.Ytimhhcacjiombaa
open Go Go.Wk Go.RowKit
set_option linter.unusedVariables false
set_option linter.unusedSimpArgs false
attribute [local irreducible] wpList wpQuiet wpStill wpMix Code.wp Calls bodyPost
theorem agg44 : isAggN Try.prog 44 2 = true := by kernel_rfl
theorem fn48 : isFn Try.prog 48 = true := by kernel_rfl
theorem fn60 : isFn Try.prog 60 = true := by kernel_rfl
theorem fn61 : isFn Try.prog 61 = true := by kernel_rfl
theorem u82 : Try.prog.underlying 82 = some (.int .u64) := by kernel_rfl

theorem kBsA_any {w : World} {Q : Nat → Prop} (uQ : Up w Q) {v0 : Value} {xs : List Alt} (h0 : Ls tAlt w Q v0 xs) (s : List UInt8) (p0 : rA xs) (p1 : xs.length ≤ 1000000) :
    Calls Try.prog 47 #[v0, (str s), .func (.func 48) #[] #[]] w fun en w' => ∃ r0 : Nat, ∃ r1 : Bool, en = .returned (.tuple #[(.int .i64 ((r0 : Nat) : Int)), (.bool r1)]) ∧ Md [] w w' ∧ r0 < 9223372036854775808 ∧ (posA xs s, hitA xs s) = (r0, r1) := by
  have L0 := h0.len63; have M := Md.refl [] w; have uQ0 := uQ; have tQ : ∀ b, Q b → Q b := fun _ h => h; have sQ0 : ∀ b, Q b → b < w.heap.size → Q b := fun _ h _ => h; refine enter (n := 49) Try.func47 rfl rfl rfl ?_; intro B; refine ns ?_; refine asg rfl ?_; refine asg rfl ?_; refine nt ?_; refine ns ?_; refine mv rfl ?_; refine st _ (r_len rfl u42 h0.shp) ?_; refine asg rfl ?_; refine nt ?_; refine ns ?_; refine mv rfl ?_; refine asg rfl ?_; refine asg rfl ?_; refine nt ?_; refine c_seq ?_; refine c_block ?_; refine loop2 (fun (i : Nat) (j : Nat) => [(9, (.int .i64 ((i : Nat) : Int))), (10, (.int .i64 ((j : Nat) : Int))), (0, v0), (1, (str s)), (2, (.func (.func 48) #[] #[])), (6, (.int .i64 ((0 : Nat) : Int))), (7, (.bool false)), (8, (.int .i64 ((xs.length : Nat) : Int)))]) (fun (i : Nat) (j : Nat) w' => ∃ Q' : Nat → Prop, (∀ b, Q' b → Q b) ∧ (∀ b, Q b → b < w.heap.size → Q' b) ∧ Up w' Q' ∧ Md [] w w' ∧ Ls tAlt w' Q' v0 xs ∧ (i ≤ posA xs s ∧ posA xs s ≤ j ∧ j ≤ xs.length)) (fun (i : Nat) (j : Nat) => j - i) (x0 := 0) (x1 := xs.length) ?_ ?_ ?_
  · exact ⟨rfl, rfl, rfl, rfl, rfl, rfl, rfl, rfl, trivial⟩
  · exact ⟨Q, tQ, sQ0, uQ, M, h0, ⟨Nat.zero_le _, posA_le xs s, Nat.le_refl _⟩⟩
  · clear M uQ tQ sQ0 h0
    rintro i j B w1 ⟨Q2, tQ, sQ0, uQ, M, h0, i0_0⟩; refine c_seq ?_; refine ns ?_; refine mv rfl ?_; refine mv rfl ?_; refine st _ (r_ltN (a := i) (b := j) rfl rfl) ?_; refine nt ?_; refine c_if rfl (fun h17 => ?_) (fun h17 => ?_)
    · (first | (have h17n := of_decide_eq_true h17) | (have h17n := of_decide_eq_false (bnt h17)) | (have h17n := bnt h17) | (have h17n := h17)); refine c_skip ?_; refine c_then ?_; refine c_block ?_; refine ns ?_; refine mv rfl ?_; refine mv rfl ?_; refine st _ (r_addN (a := i) (b := j) 9223372036854775808 rfl rfl rfl (by omega)) ?_; refine st _ (r_convN (a := i + j) 18446744073709551616 rfl (by rw [u3]; rfl) u82 rfl (by first | omega | (have := u8lt; omega))) ?_; refine st _ (r_shrN (a := (i + j)) (b := 1) 64 rfl rfl rfl (by omega)) ?_; refine st _ (r_convN (a := (i + j) / 2 ^ 1) 9223372036854775808 rfl (by rw [u82]; rfl) u3 rfl (by first | omega | (have := u8lt; omega))) ?_; refine asg rfl ?_; refine nt ?_; refine ns ?_; refine mv rfl ?_; refine mv rfl ?_; refine mv rfl ?_; refine st _ (r_indexN (i := (i + j) / 2 ^ 1) 2 rfl rfl u42 el44 h0.shp (by omega)) ?_; obtain ⟨x3, hx3⟩ := getE (l := xs) (i := (i + j) / 2 ^ 1) (by first | omega | (simp <;> omega)); obtain ⟨c4, hr3, ha3⟩ := h0.get hx3; obtain ⟨v5, rfl, hd6⟩ := tAlt_un hr3; replace ha3 : At _ v0 (((i + j) / 2 ^ 1) * 2) (Alt.cells x3 v5) := ha3; refine st _ (r_loadEA (kk := ((i + j) / 2 ^ 1) * 2) (Alt.cells x3 v5) 0 rfl rfl (by exact agg44) ha3 rfl) ?_; refine mv rfl ?_; refine st_callV (cs := []) rfl fn48 rfl (kAdd1_any uQ x3 hd6 s) ?_; rintro en w7 ⟨x7_0, rfl, hm, q7_0, hF7⟩; refine ⟨_, rfl, ?_⟩; replace h0 := h0.md0 hm; replace hd6 := hd6.md0 hm; replace ha3 := ha3.md0 hm; replace uQ := uQ.md hm; replace M := M.step0 hm; refine st _ (r_lt (a := x7_0) (b := 0) rfl rfl) ?_; refine st_nil ?_; clear ha3; refine c_then ?_; refine c_if rfl (fun h31 => ?_) (fun h31 => ?_)
      · (first | (have h31n := of_decide_eq_true h31) | (have h31n := of_decide_eq_false (bnt h31)) | (have h31n := bnt h31) | (have h31n := h31)); have gp := posA_yes p0 hx3 (by rw [← cmpS_neg, hF7]; exact decide_eq_true h31n); refine c_region ?_; refine mv rfl ?_; refine st _ (r_addN (a := ((i + j) / 2 ^ 1)) (b := 1) 9223372036854775808 rfl rfl rfl (by omega)) ?_; refine asg rfl ?_; refine st_nil ?_; refine n_block ?_; refine c_then ?_; refine next2 (x0 := (((i + j) / 2 ^ 1) + 1)) (x1 := j) (by omega) ⟨(fitI rfl (by omega)), (fitI rfl (by omega)), rfl, rfl, rfl, rfl, rfl, rfl, trivial⟩ ⟨Q2, tQ, sQ0, uQ, M, h0, (by omega)⟩
      · (first | (have h31n := of_decide_eq_false h31) | (have h31n := of_decide_eq_true (bnf h31)) | (have h31n := bnf h31) | (have h31n := h31)); have gp := posA_no (s := s) hx3 (by rw [← cmpS_neg, hF7]; exact decide_eq_false h31n); refine c_region ?_; refine mv rfl ?_; refine asg rfl ?_; refine st_nil ?_; refine n_block ?_; refine c_then ?_; refine next2 (x0 := i) (x1 := ((i + j) / 2 ^ 1)) (by omega) ⟨(fitI rfl (by omega)), (fitI rfl (by omega)), rfl, rfl, rfl, rfl, rfl, rfl, trivial⟩ ⟨Q2, tQ, sQ0, uQ, M, h0, (by omega)⟩
    · (first | (have h17n := of_decide_eq_false h17) | (have h17n := of_decide_eq_true (bnf h17)) | (have h17n := bnf h17) | (have h17n := h17)); refine c_exit ?_; refine x_then ?_; refine x_then ?_; refine x_hit ?_; refine c_then ?_; refine ns ?_; refine mv rfl ?_; refine mv rfl ?_; refine mv rfl ?_; refine st _ (r_ltN (a := i) (b := xs.length) rfl rfl) ?_; refine mv rfl ?_; refine part_n (t := 39) rfl (fun h39 => ?_) (fun h39 => ?_)
      · (first | (have h39n := of_decide_eq_true h39) | (have h39n := of_decide_eq_false (bnt h39)) | (have h39n := bnt h39) | (have h39n := h39)); refine st_g _ rfl rfl rfl h39 (r_move rfl) ?_; refine st_g _ rfl rfl rfl h39 (r_move rfl) ?_; refine st_g _ rfl rfl rfl h39 (r_move rfl) ?_; refine st_g _ rfl rfl rfl h39 (r_indexN (i := i) 2 rfl rfl u42 el44 h0.shp (by omega)) ?_; obtain ⟨x8, hx8⟩ := getE (l := xs) (i := i) (by first | omega | (simp <;> omega)); obtain ⟨c9, hr8, ha8⟩ := h0.get hx8; obtain ⟨v10, rfl, hd11⟩ := tAlt_un hr8; replace ha8 : At _ v0 (i * 2) (Alt.cells x8 v10) := ha8; refine st_g _ rfl rfl rfl h39 (r_loadEA (kk := i * 2) (Alt.cells x8 v10) 0 rfl rfl (by exact agg44) ha8 rfl) ?_; refine st_g _ rfl rfl rfl h39 (r_move rfl) ?_; refine st_callV_g rfl rfl rfl h39 (cs := []) rfl fn48 rfl (kAdd1_any uQ x8 hd11 s) ?_; rintro en w12 ⟨x12_0, rfl, hm, q12_0, hF12⟩; refine ⟨_, rfl, ?_⟩; replace h0 := h0.md0 hm; replace hd11 := hd11.md0 hm; replace ha8 := ha8.md0 hm; replace uQ := uQ.md hm; replace M := M.step0 hm; refine st_g _ rfl rfl rfl h39 (r_eq (a := x12_0) (b := 0) rfl rfl) ?_; refine st _ (r_pick_t rfl h39 rfl) ?_; refine asg rfl ?_; refine asg rfl ?_; refine st_nil ?_; clear ha8; refine c_then ?_; refine c_ret ?_; exact retL (vs := [(.int .i64 ((i : Nat) : Int)), (.bool ((decide (x12_0 = 0))))]) trivial rfl ⟨rfl, rfl, trivial⟩ rfl ⟨i, (decide (x12_0 = 0)), rfl, M, (by first | assumption | omega | simp_all), (by have e : posA xs s = i := (by omega); have hh := hx8; rw [← e] at hh; rw [hitA_at hh, e, ← hF12]; simp [cmpS_zero])⟩
      · (first | (have h39n := of_decide_eq_false h39) | (have h39n := of_decide_eq_true (bnf h39)) | (have h39n := bnf h39) | (have h39n := h39)); refine st_skip rfl rfl rfl h39 ?_; refine st_skip rfl rfl rfl h39 ?_; refine st_skip rfl rfl rfl h39 ?_; refine st_skip rfl rfl rfl h39 ?_; refine st_skip rfl rfl rfl h39 ?_; refine st_skip rfl rfl rfl h39 ?_; refine st_skip rfl rfl rfl h39 ?_; refine st_skip rfl rfl rfl h39 ?_; refine st _ (r_pick_f rfl h39 rfl) ?_; refine asg rfl ?_; refine asg rfl ?_; refine nt ?_; refine c_ret ?_; exact retL (vs := [(.int .i64 ((i : Nat) : Int)), (.bool false)]) trivial rfl ⟨rfl, rfl, trivial⟩ rfl ⟨i, false, rfl, M, (by first | assumption | omega | simp_all), (by have e : posA xs s = i := (by omega); rw [hitA_end (by omega), e])⟩
theorem kBsT_any {w : World} {Q : Nat → Prop} (uQ : Up w Q) {v0 : Value} {xs : List (List UInt8)} (h0 : Ls tStr w Q v0 xs) (s : List UInt8) (p0 : rT xs) (p1 : xs.length ≤ 1000000) :
    Calls Try.prog 51 #[v0, (str s)] w fun en w' => ∃ r0 : Nat, ∃ r1 : Bool, en = .returned (.tuple #[(.int .i64 ((r0 : Nat) : Int)), (.bool r1)]) ∧ Md [] w w' ∧ r0 < 9223372036854775808 ∧ (posT xs s, hitT xs s) = (r0, r1) := by
  have L0 := h0.len63; have M := Md.refl [] w; have uQ0 := uQ; have tQ : ∀ b, Q b → Q b := fun _ h => h; have sQ0 : ∀ b, Q b → b < w.heap.size → Q b := fun _ h _ => h; refine enter (n := 54) Try.func51 rfl rfl rfl ?_; intro B; refine ns ?_; refine asg rfl ?_; refine asg rfl ?_; refine nt ?_; refine ns ?_; refine mv rfl ?_; refine st _ (r_len rfl u24 h0.shp) ?_; refine asg rfl ?_; refine nt ?_; refine ns ?_; refine mv rfl ?_; refine asg rfl ?_; refine asg rfl ?_; refine nt ?_; refine c_seq ?_; refine c_block ?_; refine loop2 (fun (i : Nat) (j : Nat) => [(7, (.int .i64 ((i : Nat) : Int))), (8, (.int .i64 ((j : Nat) : Int))), (0, v0), (1, (str s)), (4, (.int .i64 ((0 : Nat) : Int))), (5, (.bool false)), (6, (.int .i64 ((xs.length : Nat) : Int)))]) (fun (i : Nat) (j : Nat) w' => ∃ Q' : Nat → Prop, (∀ b, Q' b → Q b) ∧ (∀ b, Q b → b < w.heap.size → Q' b) ∧ Up w' Q' ∧ Md [] w w' ∧ Ls tStr w' Q' v0 xs ∧ (i ≤ posT xs s ∧ posT xs s ≤ j ∧ j ≤ xs.length)) (fun (i : Nat) (j : Nat) => j - i) (x0 := 0) (x1 := xs.length) ?_ ?_ ?_
  · exact ⟨rfl, rfl, rfl, rfl, rfl, rfl, rfl, trivial⟩
  · exact ⟨Q, tQ, sQ0, uQ, M, h0, ⟨Nat.zero_le _, posT_le xs s, Nat.le_refl _⟩⟩
  · clear M uQ tQ sQ0 h0
    rintro i j B w1 ⟨Q2, tQ, sQ0, uQ, M, h0, i0_0⟩; refine c_seq ?_; refine ns ?_; refine mv rfl ?_; refine mv rfl ?_; refine st _ (r_ltN (a := i) (b := j) rfl rfl) ?_; refine nt ?_; refine c_if rfl (fun h15 => ?_) (fun h15 => ?_)
    · (first | (have h15n := of_decide_eq_true h15) | (have h15n := of_decide_eq_false (bnt h15)) | (have h15n := bnt h15) | (have h15n := h15)); refine c_skip ?_; refine c_then ?_; refine c_block ?_; refine ns ?_; refine mv rfl ?_; refine mv rfl ?_; refine st _ (r_addN (a := i) (b := j) 9223372036854775808 rfl rfl rfl (by omega)) ?_; refine st _ (r_convN (a := i + j) 18446744073709551616 rfl (by rw [u3]; rfl) u82 rfl (by first | omega | (have := u8lt; omega))) ?_; refine st _ (r_shrN (a := (i + j)) (b := 1) 64 rfl rfl rfl (by omega)) ?_; refine st _ (r_convN (a := (i + j) / 2 ^ 1) 9223372036854775808 rfl (by rw [u82]; rfl) u3 rfl (by first | omega | (have := u8lt; omega))) ?_; refine asg rfl ?_; refine nt ?_; refine ns ?_; refine mv rfl ?_; refine mv rfl ?_; refine st _ (r_indexN (i := (i + j) / 2 ^ 1) 1 rfl rfl u24 el9 h0.shp (by omega)) ?_; obtain ⟨x3, hx3⟩ := getE (l := xs) (i := (i + j) / 2 ^ 1) (by first | omega | (simp <;> omega)); obtain ⟨c4, hr3, ha3⟩ := h0.get hx3; obtain ⟨rfl, _⟩ := hr3; replace ha3 : At _ v0 (((i + j) / 2 ^ 1) * 1) [(str x3)] := ha3; refine st _ ((r_loadE (kk := ((i + j) / 2 ^ 1) * 1) 0 rfl rfl one9 ha3 rfl).to (b := (str x3)) rfl) ?_; refine mv rfl ?_; refine st_call fn60 rfl (kLess_any uQ x3 s) ?_; rintro en w5 ⟨x5_0, rfl, hm, hF5⟩; refine ⟨_, rfl, ?_⟩; replace h0 := h0.md0 hm; replace ha3 := ha3.md0 hm; replace uQ := uQ.md hm; replace M := M.step0 hm; refine st_nil ?_; clear ha3; refine c_then ?_; refine c_if rfl (fun h27 => ?_) (fun h27 => ?_)
      · (first | (have h27n := of_decide_eq_true h27) | (have h27n := of_decide_eq_false (bnt h27)) | (have h27n := bnt h27) | (have h27n := h27)); have gp := posT_yes p0 hx3 (by rw [hF5]; exact h27n); refine c_region ?_; refine mv rfl ?_; refine st _ (r_addN (a := ((i + j) / 2 ^ 1)) (b := 1) 9223372036854775808 rfl rfl rfl (by omega)) ?_; refine asg rfl ?_; refine st_nil ?_; refine n_block ?_; refine c_then ?_; refine next2 (x0 := (((i + j) / 2 ^ 1) + 1)) (x1 := j) (by omega) ⟨(fitI rfl (by omega)), (fitI rfl (by omega)), rfl, rfl, rfl, rfl, rfl, trivial⟩ ⟨Q2, tQ, sQ0, uQ, M, h0, (by omega)⟩
      · (first | (have h27n := of_decide_eq_false h27) | (have h27n := of_decide_eq_true (bnf h27)) | (have h27n := bnf h27) | (have h27n := h27)); have gp := posT_no hx3 (by rw [hF5]; exact h27n); refine c_region ?_; refine mv rfl ?_; refine asg rfl ?_; refine st_nil ?_; refine n_block ?_; refine c_then ?_; refine next2 (x0 := i) (x1 := ((i + j) / 2 ^ 1)) (by omega) ⟨(fitI rfl (by omega)), (fitI rfl (by omega)), rfl, rfl, rfl, rfl, rfl, trivial⟩ ⟨Q2, tQ, sQ0, uQ, M, h0, (by omega)⟩
    · (first | (have h15n := of_decide_eq_false h15) | (have h15n := of_decide_eq_true (bnf h15)) | (have h15n := bnf h15) | (have h15n := h15)); refine c_exit ?_; refine x_then ?_; refine x_then ?_; refine x_hit ?_; refine c_then ?_; refine ns ?_; refine mv rfl ?_; refine mv rfl ?_; refine mv rfl ?_; refine st _ (r_ltN (a := i) (b := xs.length) rfl rfl) ?_; refine mv rfl ?_; refine part_n (t := 35) rfl (fun h35 => ?_) (fun h35 => ?_)
      · (first | (have h35n := of_decide_eq_true h35) | (have h35n := of_decide_eq_false (bnt h35)) | (have h35n := bnt h35) | (have h35n := h35)); refine st_g _ rfl rfl rfl h35 (r_move rfl) ?_; refine st_g _ rfl rfl rfl h35 (r_move rfl) ?_; refine st_g _ rfl rfl rfl h35 (r_indexN (i := i) 1 rfl rfl u24 el9 h0.shp (by omega)) ?_; obtain ⟨x6, hx6⟩ := getE (l := xs) (i := i) (by first | omega | (simp <;> omega)); obtain ⟨c7, hr6, ha6⟩ := h0.get hx6; obtain ⟨rfl, _⟩ := hr6; replace ha6 : At _ v0 (i * 1) [(str x6)] := ha6; refine st_g _ rfl rfl rfl h35 ((r_loadE (kk := i * 1) 0 rfl rfl one9 ha6 rfl).to (b := (str x6)) rfl) ?_; refine st_g _ rfl rfl rfl h35 (r_move rfl) ?_; refine st_g _ rfl rfl rfl h35 (r_eqlS (a := x6) (b := s) rfl rfl) ?_; refine st_g _ rfl rfl rfl h35 (r_move rfl) ?_; refine part_n (t := 42) rfl (fun h42 => ?_) (fun h42 => ?_)
        · (first | (have h42n := of_decide_eq_true h42) | (have h42n := of_decide_eq_false (bnt h42)) | (have h42n := bnt h42) | (have h42n := h42)); refine st_skip rfl rfl rfl h42 ?_; refine st_skip rfl rfl rfl h42 ?_; refine st_skip rfl rfl rfl h42 ?_; refine st_skip rfl rfl rfl h42 ?_; refine st_skip rfl rfl rfl h42 ?_; refine st_skip rfl rfl rfl h42 ?_; refine st_skipU rfl rfl rfl ?_; refine st_skipU rfl rfl rfl ?_; refine st_skip rfl rfl rfl h42 ?_; refine st_g _ rfl rfl rfl h35 (r_pick_t rfl h42 rfl) ?_; refine st _ (r_pick_t rfl h35 rfl) ?_; refine asg rfl ?_; refine asg rfl ?_; refine st_nil ?_; clear ha6; refine c_then ?_; refine c_ret ?_; exact retL (vs := [(.int .i64 ((i : Nat) : Int)), (.bool true)]) trivial rfl ⟨rfl, rfl, trivial⟩ rfl ⟨i, true, rfl, M, (by first | assumption | omega | simp_all), (by have e : posT xs s = i := (by omega); have hh := hx6; rw [← e] at hh; rw [hitT_at hh, e]; simp [h42n])⟩
        · (first | (have h42n := of_decide_eq_false h42) | (have h42n := of_decide_eq_true (bnf h42)) | (have h42n := bnf h42) | (have h42n := h42)); refine st_g _ rfl rfl rfl h42 (r_move rfl) ?_; refine st_g _ rfl rfl rfl h42 (r_move rfl) ?_; refine st_g _ rfl rfl rfl h42 (r_indexN (i := i) 1 rfl rfl u24 el9 h0.shp (by omega)) ?_; obtain ⟨c9, hr10, ha10⟩ := h0.get hx6; obtain ⟨rfl, _⟩ := hr10; replace ha10 : At _ v0 (i * 1) [(str x6)] := ha10; refine st_g _ rfl rfl rfl h42 ((r_loadE (kk := i * 1) 0 rfl rfl one9 ha10 rfl).to (b := (str x6)) rfl) ?_; refine st_call_g rfl rfl rfl h42 fn61 rfl (kNaNs_any uQ x6) ?_; rintro en w11 ⟨x11_0, rfl, hm, hF11⟩; refine ⟨_, rfl, ?_⟩; replace h0 := h0.md0 hm; replace ha6 := ha6.md0 hm; replace ha10 := ha10.md0 hm; replace uQ := uQ.md hm; replace M := M.step0 hm; refine st_g _ rfl rfl rfl h42 (r_move rfl) ?_; refine part_n (t := 48) rfl (fun h48 => ?_) (fun h48 => ?_)
          · (first | (have h48n := of_decide_eq_true h48) | (have h48n := of_decide_eq_false (bnt h48)) | (have h48n := bnt h48) | (have h48n := h48)); refine st_g _ rfl rfl rfl h48 (r_move rfl) ?_; refine st_call_g rfl rfl rfl h48 fn61 rfl (kNaNs_any uQ s) ?_; rintro en w12 ⟨x12_0, rfl, hm, hF12⟩; refine ⟨_, rfl, ?_⟩; replace h0 := h0.md0 hm; replace ha6 := ha6.md0 hm; replace ha10 := ha10.md0 hm; replace uQ := uQ.md hm; replace M := M.step0 hm; refine st_g _ rfl rfl rfl h42 (r_pick_t rfl h48 rfl) ?_; refine st_g _ rfl rfl rfl h35 (r_pick_f rfl h42 rfl) ?_; refine st _ (r_pick_t rfl h35 rfl) ?_; refine asg rfl ?_; refine asg rfl ?_; refine st_nil ?_; clear ha6; clear ha10; refine c_then ?_; refine c_ret ?_; exact retL (vs := [(.int .i64 ((i : Nat) : Int)), (.bool x12_0)]) trivial rfl ⟨rfl, rfl, trivial⟩ rfl ⟨i, x12_0, rfl, M, (by first | assumption | omega | simp_all), (by have e : posT xs s = i := (by omega); have hh := hx6; rw [← e] at hh; rw [hitT_at hh, e]; simp [h42n, ← hF12])⟩
          · (first | (have h48n := of_decide_eq_false h48) | (have h48n := of_decide_eq_true (bnf h48)) | (have h48n := bnf h48) | (have h48n := h48)); refine st_skip rfl rfl rfl h48 ?_; refine st_skip rfl rfl rfl h48 ?_; refine st_g _ rfl rfl rfl h42 (r_pick_f rfl h48 rfl) ?_; refine st_g _ rfl rfl rfl h35 (r_pick_f rfl h42 rfl) ?_; refine st _ (r_pick_t rfl h35 rfl) ?_; refine asg rfl ?_; refine asg rfl ?_; refine st_nil ?_; clear ha6; clear ha10; refine c_then ?_; refine c_ret ?_; exact retL (vs := [(.int .i64 ((i : Nat) : Int)), (.bool false)]) trivial rfl ⟨rfl, rfl, trivial⟩ rfl ⟨i, false, rfl, M, (by first | assumption | omega | simp_all), (by have e : posT xs s = i := (by omega); have hh := hx6; rw [← e] at hh; rw [hitT_at hh, e]; simp [h42n])⟩
      · (first | (have h35n := of_decide_eq_false h35) | (have h35n := of_decide_eq_true (bnf h35)) | (have h35n := bnf h35) | (have h35n := h35)); refine st_skip rfl rfl rfl h35 ?_; refine st_skip rfl rfl rfl h35 ?_; refine st_skip rfl rfl rfl h35 ?_; refine st_skip rfl rfl rfl h35 ?_; refine st_skip rfl rfl rfl h35 ?_; refine st_skip rfl rfl rfl h35 ?_; refine st_skip rfl rfl rfl h35 ?_; refine st_skipU rfl rfl rfl ?_; refine st_skipU rfl rfl rfl ?_; refine st_skipU rfl rfl rfl ?_; refine st_skipU rfl rfl rfl ?_; refine st_skipU rfl rfl rfl ?_; refine st_skipU rfl rfl rfl ?_; refine st_skipU rfl rfl rfl ?_; refine st_skipU rfl rfl rfl ?_; refine st_skipU rfl rfl rfl ?_; refine st_skip rfl rfl rfl h35 ?_; refine st _ (r_pick_f rfl h35 rfl) ?_; refine asg rfl ?_; refine asg rfl ?_; refine nt ?_; refine c_ret ?_; exact retL (vs := [(.int .i64 ((i : Nat) : Int)), (.bool false)]) trivial rfl ⟨rfl, rfl, trivial⟩ rfl ⟨i, false, rfl, M, (by first | assumption | omega | simp_all), (by have e : posT xs s = i := (by omega); rw [hitT_end (by omega), e])⟩
end Go.Proofs.Ytimhhcacjiombaa
namespace Go.Proofs.Ytimhhcacjiombaa
open Go Go.Wk Go.RowKit
set_option linter.unusedVariables false
set_option linter.unusedSimpArgs false
attribute [local irreducible] wpList wpQuiet wpStill wpMix Code.wp Calls bodyPost
theorem fn47 : isFn Try.prog 47 = true := by kernel_rfl
theorem fn50 : isFn Try.prog 50 = true := by kernel_rfl
theorem fn51 : isFn Try.prog 51 = true := by kernel_rfl
theorem fn52 : isFn Try.prog 52 = true := by kernel_rfl
theorem off44_1 : fieldOff Try.prog 44 1 = some 1 := by kernel_rfl
theorem one24 : isOne Try.prog 24 = true := by kernel_rfl
theorem pl44 : bplace Try.prog 44 = some [(0, 1), (1, 1)] := by kernel_rfl
theorem z44 : zcells Try.prog 44 = some [.string ByteArray.empty, .slice none 0 0] := by kernel_rfl

theorem add_any {w : World} {Q lo : Nat → Prop} (uQ : Up w Q) (hlo : ∀ b, w.heap.size ≤ b → lo b) {v : Value} {xs : List Alt} {us : List Value} (h : MRow 44 9 lo w Q v xs us) (hA : rA xs) (hT : ∀ a ∈ xs, rT a.values ∧ a.values.length ≤ 100000) (hm : xs.length ≤ 100000) (p : Pr) :
    Calls Try.prog 30 #[v, .agg (Pr.cells p).toArray] w fun en w' => ∃ v' us', en = .returned v' ∧ MRow 44 9 lo w' (cutQ w w' Q) v' (putA xs p) us' ∧ ∃ S, Md S w w' ∧ ∀ b ∈ S, lo b ∧ ¬ Q b ∧ ∃ c, Blk w b c 44 ∨ Blk w b c 9 := by
  refine enter (n := 52) Try.func30 rfl rfl rfl ?_; intro B; refine ns ?_; refine st_box (cs := Pr.cells p) rfl rfl ?_; intro bp w1 gp lp hm1 hBp; refine asg rfl ?_; refine nt ?_; refine ns ?_; refine mv rfl ?_; refine st _ (r_field rfl off33_0) ?_; refine st _ (r_loadBlk rfl one9 hBp rfl) ?_; have h1 := h.md0 hm1; refine st_call fn47 rfl (kBsA_any (Q := fun b => Q b ∨ lo b) (fun b hb => Or.inl (uQ b (Nat.le_trans hm1.size hb))) h1.read p.name hA (by omega)) ?_; rintro en w2 ⟨i, is, rfl, hm2, hi, hF⟩; refine ⟨_, rfl, ?_⟩; refine mv rfl ?_; refine st _ (r_extract rfl rfl) ?_; refine st _ (r_extract rfl rfl) ?_; refine asg rfl ?_; refine asg rfl ?_; refine nt ?_; obtain ⟨hF1, hF2⟩ := Prod.mk.inj hF; have hM2 : Md [] w w2 := hm1.step0 hm2; have h2 := h1.md0 hm2; have hBp2 := hBp.md0 hm2; have hil : i ≤ xs.length := hF1 ▸ posA_le xs p.name; refine c_seq (wp_mono (Q := fun e a' w' => e = .normal ∧ ∃ (A' : Fr 52) (v1 : Value) (us1 : List Value) (S : List Nat), a' = over A' [] [(0, v1), (3, .pointer (some ⟨bp, 0, none⟩)), (5, .int .i64 ((i : Nat) : Int))] ∧ Md S w w' ∧ (∀ b ∈ S, vblock v = some b) ∧ MRow 44 9 lo w' (cutQ w w' Q) v1 (preA xs p.name) us1 ∧ Blk w' bp (Pr.cells p) 33 ∧ (∀ b, vblock v1 = some b → vblock v = some b ∨ w.heap.size ≤ b) ∧ ∀ u ∈ us1, ∀ b, vblock u = some b → u ∈ us) ?_ ?_)
  · refine c_seq ?_
    refine c_region ?_; refine mv rfl ?_; refine st _ (r_not rfl) ?_; refine nt ?_; refine c_if rfl (fun h16 => ?_) (fun h16 => ?_)
    · have e16 : is = false := by simpa using h16
      refine c_region ?_; refine mv rfl ?_; refine mv rfl ?_; refine st _ (r_field rfl off33_0) ?_; refine st _ (r_loadBlk rfl one9 hBp2 rfl) ?_; refine st _ (r_buildG (us := [[str p.name]]) (cs := [str p.name, .slice none 0 0]) [(0, 0, 1)] z44 pl44 rfl rfl ⟨rfl, trivial⟩ ⟨rfl, trivial⟩ rfl rfl) ?_; refine st_buildSliceG [[str p.name, .slice none 0 0]] u42 elT44 (by decide) (by decide) rfl rfl ⟨rfl, trivial⟩ ⟨rfl, trivial⟩ rfl (by decide) ?_; intro bu w3 gu lu hm3 hBu; have h3 := h2.md0 hm3; refine st_call fn50 rfl (insA_any (i := i) h3.own hil (by omega) h3.one hBu rfl (by intro u hu; simp at hu; rcases hu with rfl | rfl <;> rfl) (fun b hb => by have := h2.own.lt b hb; omega)) ?_; rintro en w4 ⟨v1, rfl, hm4, hO4, hn4⟩; refine ⟨_, rfl, ?_⟩; refine asg rfl ?_; refine st_nil ?_; have hM3 : Md [] w w3 := hM2.step0 hm3; have M : Md (vblock v).toList w w4 := Md.trans (hM3.mono (by simp)) hm4; have e : preA xs p.name = xs.take i ++ { name := p.name, values := [] } :: xs.drop i := (by unfold preA; rw [if_neg (by rw [hF2, e16]; simp), hF1]); have hv1 : ∀ b, vblock v1 = some b → vblock v = some b ∨ w.heap.size ≤ b := fun b hb => (hn4 b hb).imp id fun hh => Nat.le_trans hM3.size hh; refine ⟨rfl, _, v1, us.take i ++ .slice none 0 0 :: us.drop i, (vblock v).toList, (over_fits (l1 := [(0, v1), (3, .pointer (some ⟨bp, 0, none⟩)), (5, .int .i64 ((i : Nat) : Int))]) ⟨rfl, rfl, rfl, trivial⟩).symm, M, by simp, ?_, hBp2.md0 hm3 |>.md hm4 (fun hb => ?_), hv1, fun u hu b hb => ?_⟩
      · rw [e]
        refine h3.ins (x := { name := p.name, values := [] }) hil rfl hm4 (by simp) (by decide) hO4 (fun b hb => ?_) (fun b hb => hb.1); rcases hv1 b hb with hh | hh
        · exact ⟨(h.top b hh).1, fun hq => (h.top b hh).2 hq.1⟩
        · exact ⟨hlo b hh, fun hq => by have h8 := hO4.lt b hb; have h9 := hq.2; omega⟩
      · have hb' : vblock v = some bp := by simpa using hb
        have := h.own.lt bp hb'; omega
      · rcases List.mem_append.1 hu with hu | hu
        · exact List.mem_of_mem_take hu
        · rcases List.mem_cons.1 hu with rfl | hu
          · simp [vblock] at hb
          · exact List.mem_of_mem_drop hu
    · have e16 : is = true := by simpa using h16
      refine c_skip ?_; have e : preA xs p.name = xs := (by unfold preA; rw [if_pos (by rw [hF2, e16])]); exact ⟨rfl, _, v, us, [], (over_fits (l1 := [(0, v), (3, .pointer (some ⟨bp, 0, none⟩)), (5, .int .i64 ((i : Nat) : Int))]) ⟨rfl, rfl, rfl, trivial⟩).symm, hM2, by simp, by rw [e]; exact h2.subQ (fun b hb => hb.1), hBp2, fun b hb => .inl hb, fun u hu b hb => hu⟩
  · clear hBp hBp2 h1 h2 hM2 hm1 hm2
    rintro _ _ w5 ⟨rfl, A', v1, us1, S1, rfl, M1, hS1, hR, hBp, hn1, hsub⟩; refine c_then ?_; have hi1 : i < (preA xs p.name).length := hF1 ▸ preA_lt xs p.name; obtain ⟨x, hx⟩ := getE (l := preA xs p.name) (i := i) hi1; obtain ⟨u, hu⟩ := getE (l := us1) (i := i) (by rw [hR.len]; exact hi1); obtain ⟨hOu, hQu⟩ := hR.sub i x u hx hu; have hAt := hR.at_ hx hu; have hSv := hR.shp
    have hxT : rT x.values ∧ x.values.length ≤ 100000 := by
      rcases preA_mem (List.mem_of_getElem? hx) with hh | hh
      · exact hT x hh
      · rw [hh]; exact ⟨List.Pairwise.nil, by simp⟩
    have hap := hR.apart (by decide) hu; refine c_seq ?_; refine c_mixT [(0, true), (1, true), (2, true), (3, true), (4, true), (5, true), (6, true), (7, false), (8, true), (9, true), (10, true), (11, true)] [12] (fun w' => Md [] w5 w') mixed (by kernel_rfl) ?_; intro w6 hd0; refine ⟨hd0, ?_⟩; refine Go.Wk.m _ (fun w' hc => r_move rfl) ?_; refine Go.Wk.m _ (fun w' hc => r_move rfl) ?_; refine Go.Wk.m _ (fun w' hc => r_indexN (i := i) 2 rfl rfl u42 el44 hSv hi1) ?_; refine Go.Wk.m _ (fun w' hc => r_fieldE rfl (hAt.md0 hc) off44_1) ?_; refine Go.Wk.m _ (fun w' hc => r_loadE (kk := i * 2) 1 rfl rfl one24 (hAt.md0 hc) rfl) ?_; refine Go.Wk.m _ (fun w' hc => r_field rfl off33_1) ?_; refine Go.Wk.m _ (fun w' hc => r_loadBlk rfl one9 (hBp.md0 hc) rfl) ?_; refine m_e ?_ rfl; refine st_call fn51 rfl (kBsT_any (Q := fun _ => True) (fun _ _ => trivial) (str_ls (hOu.md0 hd0) (fun _ _ => trivial)) p.value hxT.1 (by omega)) ?_; rintro en w7 ⟨k, ik, rfl, hm7, hk, hG⟩; refine ⟨_, rfl, ?_⟩; have hd7 : Md [] w5 w7 := hd0.step0 hm7; refine st_nil ⟨rfl, hd7, ?_⟩; refine Go.Wk.m _ (fun w' hc => r_move rfl) ?_; refine Go.Wk.m _ (fun w' hc => r_extract rfl rfl) ?_; refine Go.Wk.m _ (fun w' hc => r_extract rfl rfl) ?_; refine Go.Wk.m _ (fun w' hc => r_assign rfl) ?_; refine m_nil ?_; refine asg rfl ?_; refine nt ?_; obtain ⟨hG1, hG2⟩ := Prod.mk.inj hG; have hkl : k ≤ x.values.length := hG1 ▸ posT_le x.values p.value; replace hR := hR.md0 hd7; replace hOu := hOu.md0 hd7; replace hAt := hAt.md0 hd7; replace hBp := hBp.md0 hd7; have M7 : Md S1 w w7 := M1.step0 hd7; have hx' : (preA xs p.name)[posA xs p.name]? = some x := hF1 ▸ hx; have hcut : ∀ {w' : World}, w5.heap.size ≤ w'.heap.size → ∀ b, cutQ w w' Q b → cutQ w w5 Q b := fun hs b hb => ⟨hb.1, hb.2.imp id fun hh => by omega⟩; refine c_seq ?_; refine ns ?_; refine mv rfl ?_; refine st _ (r_not rfl) ?_; refine nt ?_; refine c_if rfl (fun h36 => ?_) (fun h36 => ?_)
    · have e36 : ik = false := by simpa using h36
      refine c_mixT [(0, true), (1, true), (2, true), (3, true), (4, true), (5, true), (6, true), (7, true), (8, true), (9, true), (10, false), (11, false)] [12, 13, 14] (fun w' => Md (vblock u).toList w7 w') mixed (by kernel_rfl) ?_; intro w8 hd8; refine ⟨hd8.mono (by simp), ?_⟩; refine Go.Wk.m _ (fun w' hc => r_move rfl) ?_; refine Go.Wk.m _ (fun w' hc => r_move rfl) ?_; refine Go.Wk.m _ (fun w' hc => r_move rfl) ?_; refine Go.Wk.m _ (fun w' hc => r_move rfl) ?_; refine Go.Wk.m _ (fun w' hc => r_indexN (i := i) 2 rfl rfl u42 el44 hSv hi1) ?_; refine Go.Wk.m _ (fun w' hc => r_fieldE rfl (hAt.md hc hap) off44_1) ?_; refine Go.Wk.m _ (fun w' hc => r_loadE (kk := i * 2) 1 rfl rfl one24 (hAt.md hc hap) rfl) ?_; refine Go.Wk.m _ (fun w' hc => r_move rfl) ?_; refine Go.Wk.m _ (fun w' hc => r_field rfl off33_1) ?_; refine Go.Wk.m _ (fun w' hc => r_loadBlk rfl one9 (hBp.mdO hOu (by decide) hc) rfl) ?_; refine m_e ?_ rfl; refine st_buildSlice (vs := [str p.value]) u24 elT9 (by decide) rfl rfl rfl ⟨rfl, trivial⟩ (by decide) ?_; intro bs w9 gs ls hm9 hBs; have hd9 : Md [] w7 w9 := hd8.step0 hm9; refine st_nil ⟨rfl, hd9.mono (by simp), ?_⟩; refine m_e ?_ rfl; refine st_call fn52 rfl (insS_any (i := k) (m := x.values.length) (hOu.md0 hd9) hkl (by omega) (by intro y hy; obtain ⟨z, _, rfl⟩ := List.mem_map.1 hy; rfl) hBs rfl (by intro y hy; simp at hy; subst hy; rfl) (fun b hb => by have := (hOu.md0 hd8).lt b hb; omega)) ?_; rintro en w10 ⟨u', rfl, hm10, hO10, hn10⟩; refine ⟨_, rfl, ?_⟩; have hd10 : Md (vblock u).toList w7 w10 := Md.trans (hd9.mono (by simp)) hm10; refine st_nil ⟨rfl, hd10, ?_⟩; refine m_nil ?_; have hp : putT x.values p.value = x.values.take k ++ p.value :: x.values.drop k := (by unfold putT; rw [if_neg (by rw [hG2, e36]; simp), hG1])
      have hO10' : Own w10 9 1 u' (putT x.values p.value).length ((putT x.values p.value).map str) := by
        have e1 : (putT x.values p.value).length = x.values.length + 1 := (by rw [hp]; simp; omega); rw [e1, hp]; simpa [List.map_take, List.map_drop] using hO10
      obtain ⟨bv, cap, cur, rfl, hBv, hj, hput⟩ := (hR.own.md hd10 hap).put (j := i * 2 + 1) (u := u') (by omega); refine st _ (r_indexN (i := i) 2 rfl rfl u42 el44 hSv hi1) ?_; refine st _ (r_fieldE rfl (hAt.md hd10 hap) off44_1) ?_; refine st_store (b := bv) (j := i * 2 + 1) (fitV rfl (by simp [elemp, Addr.add_mk])) rfl one24 (own_oneC hO10) hBv hj ?_; intro w11 hm11 hB11; refine nt ?_; refine ns ?_; refine mv rfl ?_; refine asg rfl ?_; refine nt ?_; refine c_ret ?_
      repeat (first | refine r_then ?_ | refine r_block ?_)
      refine ret1 trivial rfl rfl ⟨_, us1.set i u', rfl, ?_, (S1 ++ ((vblock u).toList ++ [bv])).filter (fun k => decide (k < w.heap.size)), ?_, fun b hb => ?_⟩
      · have hup := hR.upd (Q' := cutQ w w11 Q) hx hu hd10 hO10' (fun b hb => (hn10 b hb).imp id fun hh => Nat.le_trans hd9.size hh) (fun b hb => hlo b (Nat.le_trans M7.size hb)) (by decide) (fun b hb => ⟨hcut (Nat.le_trans hd7.size (Nat.le_trans hd10.size hm11.size)) b hb, ?_⟩) (by simpa [vblock] using hm11) (hput w11 hB11)
        · rw [putA_eq hx', hF1]; exact hup
        · have h8 := hb.2; have h9 := M7.size; have h10 := hd10.size; have h11 := hm11.size; omega
      · have hM : Md (S1 ++ ((vblock u).toList ++ [bv])) w w11 := Md.trans (Md.trans (M7.mono (fun b hb _ => List.mem_append_left _ hb)) (hd10.mono (fun b hb _ => List.mem_append_right _ (List.mem_append_left _ hb)))) (hm11.mono (fun b hb _ => List.mem_append_right _ (List.mem_append_right _ hb)))
        exact hM.mono fun b hb hl => List.mem_filter.2 ⟨hb, decide_eq_true hl⟩
      · obtain ⟨hb, hl⟩ := List.mem_filter.1 hb
        have hl := of_decide_eq_true hl
        have top : vblock v = some b → lo b ∧ ¬ Q b ∧ ∃ c, Blk w b c 44 ∨ Blk w b c 9 := fun hh => by
          obtain ⟨c, hc⟩ := own_typed h.own b hh; exact ⟨(h.top b hh).1, (h.top b hh).2, c, .inl hc⟩
        rcases List.mem_append.1 hb with hb | hb
        · exact top (hS1 b hb)
        · rcases List.mem_append.1 hb with hb | hb
          · have hb' : vblock u = some b := by simpa using hb
            obtain ⟨j, hj⟩ := List.mem_iff_getElem?.1 (hsub u (List.mem_of_getElem? hu) b hb'); obtain ⟨y, _, hy1, hy2⟩ := h.sub' hj; obtain ⟨c, hc⟩ := own_typed hy1 b hb'; exact ⟨(hy2 b hb').1, (hy2 b hb').2, c, .inr hc⟩
          · simp only [List.mem_singleton] at hb
            subst hb; rcases hn1 b rfl with hh | hh
            · exact top hh
            · omega
    · have e36 : ik = true := by simpa using h36
      refine c_skip ?_; refine c_then ?_; refine ns ?_; refine mv rfl ?_; refine asg rfl ?_; refine nt ?_; refine c_ret ?_
      repeat (first | refine r_then ?_ | refine r_block ?_)
      refine ret1 trivial rfl rfl ⟨v1, us1, rfl, ?_, S1, M7, fun b hb => ?_⟩
      · rw [putA_hit hx' (hG2.trans e36)]
        exact hR.subQ (hcut hd7.size)
      · obtain ⟨h8, h9⟩ := h.top b (hS1 b hb)
        obtain ⟨c, hc⟩ := own_typed h.own b (hS1 b hb); exact ⟨h8, h9, c, .inl hc⟩
end Go.Proofs.Ytimhhcacjiombaa
namespace Go.Proofs.Ytimhhcacjiombaa
open Go Go.Wk Go.RowKit
attribute [local irreducible] wpList wpQuiet wpStill wpMix Code.wp Calls bodyPost
theorem el5 : elemIs Try.prog 5 1 = true := by kernel_rfl
theorem elT5 : elT Try.prog 5 1 1 = true := by kernel_rfl
theorem fn45 : isFn Try.prog 45 = true := by kernel_rfl
theorem fn46 : isFn Try.prog 46 = true := by kernel_rfl
theorem fn56 : isFn Try.prog 56 = true := by kernel_rfl
theorem fn65 : isFn Try.prog 65 = true := by kernel_rfl
theorem one5 : isOne Try.prog 5 = true := by kernel_rfl
theorem u5 : Try.prog.underlying 5 = some (.int .u8) := by kernel_rfl
theorem u57 : Try.prog.underlying 57 = some (.slice 5) := by kernel_rfl
theorem u9 : Try.prog.underlying 9 = some (.string) := by kernel_rfl

theorem ixb_run {w : World} {v : Value} {s : List UInt8} (hB : By w v s) (c : UInt8) : (callFunc 74 #[v, b8 c]).run Try.prog w = .ok (.value (.int .i64 (Lib.indexByte s c))) w := by
  rw [run_callFunc_extern (fn := Try.f74) (by kernel_rfl) (by kernel_rfl) (by kernel_rfl) (by kernel_rfl) (e := Extern.BytealgIndexByte.indexByte) (by kernel_rfl), run_ixb hB c]; rfl

theorem ixb_any (v : Value) (l : List UInt8) (c : UInt8) (w : World) (hB : By w v l) :
    Calls Try.prog 65 #[v, b8 c] w fun e w' => e = .returned (.int .i64 (Lib.indexByte l c)) ∧ w = w' := by
  have M := Md.refl [] w; refine enter (n := 8) Try.func65 rfl rfl rfl ?_; intro B; refine ns ?_; refine asg rfl ?_; refine nt ?_; refine ns ?_; refine mv rfl ?_; refine mv rfl ?_; refine st _ (r_callX rfl (ixb_run hB c)) ?_; refine asg rfl ?_; refine nt ?_; refine c_ret ?_; exact ret1 trivial rfl rfl ⟨rfl, rfl⟩
theorem index1_any (v u : Value) (l : List UInt8) (c : UInt8) (w : World) (hB : By w v l) (hU : By w u [c]) :
    Calls Try.prog 56 #[v, u] w fun e w' => e = .returned (.int .i64 (Lib.indexByte l c)) ∧ w = w' := by
  have hc : [c].length = 1 := rfl; have M := Md.refl [] w; refine enter (n := 200) Try.func56 rfl rfl rfl ?_; intro B; refine ns ?_; refine asg rfl ?_; refine nt ?_; refine ns ?_; refine mv rfl ?_; refine st _ (r_len rfl u57 hU.shp) ?_; refine asg rfl ?_; refine nt ?_; refine c_seq ?_; refine c_block ?_; refine ns ?_; refine mv rfl ?_; refine st _ (r_eq rfl rfl) ?_; refine asg rfl ?_; refine nt ?_; refine c_if rfl (fun h22 => ?_) (fun h22 => ?_)
  · (first | (have h22n := of_decide_eq_true h22) | (have h22n := of_decide_eq_false (bnt h22)) | (have h22n := bnt h22) | (have h22n := h22)); exfalso; omega
  · (first | (have h22n := of_decide_eq_false h22) | (have h22n := of_decide_eq_true (bnf h22)) | (have h22n := bnf h22) | (have h22n := h22)); refine ns ?_; refine mv rfl ?_; refine st _ (r_eq rfl rfl) ?_; refine asg rfl ?_; refine nt ?_; refine c_if rfl (fun h25 => ?_) (fun h25 => ?_)
    · (first | (have h25n := of_decide_eq_true h25) | (have h25n := of_decide_eq_false (bnt h25)) | (have h25n := bnt h25) | (have h25n := h25)); refine ns ?_; refine mv rfl ?_; refine mv rfl ?_; refine st _ (r_index rfl rfl u57 el5 hU.shp (by omega)) ?_; refine st _ (r_loadB rfl one5 hU (by omega)) ?_; refine st_call fn65 rfl (ixb_any v l c _ hB) ?_; rintro e _ ⟨rfl, rfl⟩; refine ⟨_, rfl, ?_⟩; refine asg rfl ?_; refine nt ?_; refine c_ret ?_; refine r_block ?_; refine r_then ?_; exact ret1 trivial rfl rfl ⟨rfl, rfl⟩
    · (first | (have h25n := of_decide_eq_false h25) | (have h25n := of_decide_eq_true (bnf h25)) | (have h25n := bnf h25) | (have h25n := h25)); exfalso; omega
theorem cut_any (v u : Value) (l : List UInt8) (c : UInt8) (w : World) (hB : By w v l) (hU : By w u [c]) :
    Calls Try.prog 45 #[v, u] w fun e w' => ∃ x y b, e = .returned (.tuple #[x, y, .bool b]) ∧ Md [] w w' ∧ (b = true → 0 ≤ Lib.indexByte l c ∧ By w' x (l.take (Lib.indexByte l c).toNat) ∧ By w' y (l.drop ((Lib.indexByte l c).toNat + 1))) ∧ (b = false → Lib.indexByte l c < 0) := by
  have hc : [c].length = 1 := rfl; have hlen := hB.len63; have M := Md.refl [] w; refine enter (n := 23) Try.func45 rfl rfl rfl ?_; intro B; refine ns ?_; refine asg rfl ?_; refine asg rfl ?_; refine asg rfl ?_; refine nt ?_; refine c_seq ?_; refine ns ?_; refine mv rfl ?_; refine mv rfl ?_; refine st_call fn56 rfl (index1_any v u l c _ hB hU) ?_; rintro e _ ⟨rfl, rfl⟩; refine ⟨_, rfl, ?_⟩; obtain ⟨q, hq⟩ : ∃ q, q = Lib.indexByte l c := ⟨_, rfl⟩; rw [← hq]; refine asg rfl ?_; refine nt ?_; refine ns ?_; refine mv rfl ?_; refine st _ (r_ge rfl rfl) ?_; refine nt ?_; refine c_if rfl (fun h12 => ?_) (fun h12 => ?_)
  · (first | (have h12n := of_decide_eq_true h12) | (have h12n := of_decide_eq_false (bnt h12)) | (have h12n := bnt h12) | (have h12n := h12)); obtain ⟨i, rfl⟩ := Int.eq_ofNat_of_zero_le h12n; have hil := (indexByte_lt (s := l) (c := c) (by omega)).1; rw [← hq, Int.toNat_natCast] at hil; refine c_seq ?_; have M_q := M; refine c_mix [(0, true), (1, true), (2, true), (3, true), (4, true), (5, true), (6, true), (7, true), (8, true), (9, true), (10, true), (11, true)] (fun w' => Md [] w w') mixed (by kernel_rfl) ?_; intro w1 hm; have MC := hm; replace M := M.step0 hm; refine ⟨MC, ?_⟩; refine m _ (fun w' hc => r_move rfl) ?_; refine m _ (fun w' hc => r_move rfl) ?_; refine m _ (fun w' hc => r_slice 0 i u57 el5 rfl hB.shp (by omega) (by omega) rfl ⟨_, rfl⟩) ?_; refine m _ (fun w' hc => r_move rfl) ?_; refine m _ (fun w' hc => r_move rfl) ?_; refine m _ (fun w' hc => r_move rfl) ?_; refine m _ (fun w' hc => r_len rfl u57 hU.shp) ?_; refine m _ (fun w' hc => (r_addI rfl rfl (by omega)).castI (show _ = ((i + 1 : Nat) : Int) from by simp)) ?_; refine m _ (fun w' hc => r_slice (i + 1) l.length u57 el5 rfl hB.shp (by omega) (by omega) ⟨_, rfl⟩ rfl) ?_; refine m _ (fun w' hc => r_assign rfl) ?_; refine m _ (fun w' hc => r_assign rfl) ?_; refine m _ (fun w' hc => r_assign rfl) ?_; refine m_nil ?_; refine c_then ?_; refine c_ret ?_; refine r_then ?_; exact ret3 trivial rfl rfl rfl rfl ⟨_, _, true, rfl, M, fun _ => ⟨by omega, by rw [Int.toNat_natCast]; exact (hB.head i (by omega)).md0 M, by rw [Int.toNat_natCast]; exact (hB.tail (i + 1) (by omega)).md0 M⟩, fun h => by cases h⟩
  · (first | (have h12n := of_decide_eq_false h12) | (have h12n := of_decide_eq_true (bnf h12)) | (have h12n := bnf h12) | (have h12n := h12)); refine c_skip ?_; refine c_then ?_; refine ns ?_; refine mv rfl ?_; refine asg rfl ?_; refine asg rfl ?_; refine asg rfl ?_; refine nt ?_; refine c_ret ?_; exact ret3 trivial rfl rfl rfl rfl ⟨_, _, false, rfl, M, fun h => (by cases h), fun _ => by omega⟩
theorem name_any (s : List UInt8) (w : World) : Calls Try.prog 46 #[str s] w fun e w' => e = .returned (.bool (isName s)) ∧ w = w' := by
  have M := Md.refl [] w; refine enter (n := 51) Try.func46 rfl rfl rfl ?_; intro B; refine ns ?_; refine asg rfl ?_; refine nt ?_; refine c_seq ?_; refine ns ?_; refine mv rfl ?_; refine st _ (r_lenS rfl u9) ?_; refine st _ (r_lt rfl rfl) ?_; refine mv rfl ?_; refine part_n (t := 8) rfl (fun h8 => ?_) (fun h8 => ?_)
  · (first | (have h8n := of_decide_eq_true h8) | (have h8n := of_decide_eq_false (bnt h8)) | (have h8n := bnt h8) | (have h8n := h8)); refine st_skip rfl rfl rfl h8 ?_; refine st_skip rfl rfl rfl h8 ?_; refine st_skip rfl rfl rfl h8 ?_; refine st _ (r_pick_t rfl h8 rfl) ?_; refine mv rfl ?_; refine st_skip rfl rfl rfl rfl ?_; refine st_skip rfl rfl rfl rfl ?_; refine st_skip rfl rfl rfl rfl ?_; refine st_skip rfl rfl rfl rfl ?_; refine st_skipU rfl rfl rfl ?_; refine st_skipU rfl rfl rfl ?_; refine st_skipU rfl rfl rfl ?_; refine st_skip rfl rfl rfl rfl ?_; refine st _ (r_pick_t rfl rfl rfl) ?_; refine nt ?_; refine c_if_t rfl rfl ?_; refine ns ?_; refine asg rfl ?_; refine nt ?_; refine c_ret ?_; refine r_then ?_; exact ret1 trivial rfl rfl ⟨retB (by cases hh : isName s with | false => rfl | true => (exfalso; have hl := name_len hh; have hd := name_dig hh; omega)), rfl⟩
  · (first | (have h8n := of_decide_eq_false h8) | (have h8n := of_decide_eq_true (bnf h8)) | (have h8n := bnf h8) | (have h8n := h8)); refine st_g _ rfl rfl rfl h8 (r_move rfl) ?_; refine st_g _ rfl rfl rfl h8 (r_lenS rfl u9) ?_; refine st_g _ rfl rfl rfl h8 (r_gt rfl rfl) ?_; refine st _ (r_pick_f rfl h8 rfl) ?_; refine mv rfl ?_; refine part_n (t := 13) rfl (fun h13 => ?_) (fun h13 => ?_)
    · (first | (have h13n := of_decide_eq_true h13) | (have h13n := of_decide_eq_false (bnt h13)) | (have h13n := bnt h13) | (have h13n := h13)); refine st_skip rfl rfl rfl h13 ?_; refine st_skip rfl rfl rfl h13 ?_; refine st_skip rfl rfl rfl h13 ?_; refine st_skip rfl rfl rfl h13 ?_; refine st_skipU rfl rfl rfl ?_; refine st_skipU rfl rfl rfl ?_; refine st_skipU rfl rfl rfl ?_; refine st_skip rfl rfl rfl h13 ?_; refine st _ (r_pick_t rfl h13 rfl) ?_; refine nt ?_; refine c_if_t rfl rfl ?_; refine ns ?_; refine asg rfl ?_; refine nt ?_; refine c_ret ?_; refine r_then ?_; exact ret1 trivial rfl rfl ⟨retB (by cases hh : isName s with | false => rfl | true => (exfalso; have hl := name_len hh; have hd := name_dig hh; omega)), rfl⟩
    · (first | (have h13n := of_decide_eq_false h13) | (have h13n := of_decide_eq_true (bnf h13)) | (have h13n := bnf h13) | (have h13n := h13)); refine st_g _ rfl rfl rfl h13 (r_move rfl) ?_; refine st_g (b8 (s.getD 0 0)) rfl rfl rfl h13 (r_idxSN (s := s) (i := 0) rfl rfl u9 (by omega)) ?_; refine st_g _ rfl rfl rfl h13 (r_ge rfl rfl) ?_; refine st_g _ rfl rfl rfl h13 (r_move rfl) ?_; refine part_n (t := 17) rfl (fun h17 => ?_) (fun h17 => ?_)
      · (first | (have h17n := of_decide_eq_true h17) | (have h17n := of_decide_eq_false (bnt h17)) | (have h17n := bnt h17) | (have h17n := h17)); refine st_g _ rfl rfl rfl h17 (r_move rfl) ?_; refine st_g (b8 (s.getD 0 0)) rfl rfl rfl h17 (r_idxSN (s := s) (i := 0) rfl rfl u9 (by omega)) ?_; refine st_g _ rfl rfl rfl h17 (r_le rfl rfl) ?_; refine st_g _ rfl rfl rfl h13 (r_pick_t rfl h17 rfl) ?_; refine st _ (r_pick_f rfl h13 rfl) ?_; refine nt ?_; refine c_if rfl (fun h22 => ?_) (fun h22 => ?_)
        · (first | (have h22n := of_decide_eq_true h22) | (have h22n := of_decide_eq_false (bnt h22)) | (have h22n := bnt h22) | (have h22n := h22)); refine ns ?_; refine asg rfl ?_; refine nt ?_; refine c_ret ?_; refine r_then ?_; exact ret1 trivial rfl rfl ⟨retB (by cases hh : isName s with | false => rfl | true => (exfalso; have hl := name_len hh; have hd := name_dig hh; omega)), rfl⟩
        · (first | (have h22n := of_decide_eq_false h22) | (have h22n := of_decide_eq_true (bnf h22)) | (have h22n := bnf h22) | (have h22n := h22)); refine c_skip ?_; refine c_then ?_; refine c_seq ?_; refine ns ?_; refine mv rfl ?_; refine st _ (r_lenS rfl u9) ?_; refine mv rfl ?_; refine nt ?_; refine c_block ?_; refine c_loop (X := Nat) (fun i => [(0, str s), (24, .int .i64 s.length), (25, .int .i64 i)]) (fun i w' => w = w' ∧ i ≤ s.length ∧ 1 ≤ s.length ∧ s.length ≤ 64 ∧ digit (s.getD 0 0) = false ∧ ∀ j, j < i → nameC (s.getD j 0) = true) (fun i => s.length - i) 0 ?_ ?_ ?_
          · exact ⟨rfl, rfl, rfl, trivial⟩
          · exact ⟨rfl, by omega, by omega, by omega, by unfold digit; exact decide_eq_false (by omega), fun j hj => by omega⟩
          · clear M
            rintro i B w1 ⟨rfl, hi, h1, h2, h3, h4⟩; have M := Md.refl [] w; refine ns ?_; refine st _ (r_lt rfl rfl) ?_; refine nt ?_; refine c_seq ?_; refine c_if rfl (fun h26 => ?_) (fun h26 => ?_)
            · (first | (have h26n := of_decide_eq_true h26) | (have h26n := of_decide_eq_false (bnt h26)) | (have h26n := bnt h26) | (have h26n := h26)); refine c_skip ?_; refine c_then ?_; refine c_seq ?_; refine c_block ?_; refine ns ?_; refine mv rfl ?_; refine asg rfl ?_; refine nt ?_; refine ns ?_; refine mv rfl ?_; refine mv rfl ?_; refine st _ (r_idxSN rfl rfl u9 (by omega)) ?_; refine asg rfl ?_; refine nt ?_; refine ns ?_; refine mv rfl ?_; refine st _ (r_ge rfl rfl) ?_; refine mv rfl ?_; refine part_n (t := 33) rfl (fun h33 => ?_) (fun h33 => ?_)
              · (first | (have h33n := of_decide_eq_true h33) | (have h33n := of_decide_eq_false (bnt h33)) | (have h33n := bnt h33) | (have h33n := h33)); refine st_g _ rfl rfl rfl h33 (r_move rfl) ?_; refine st_g _ rfl rfl rfl h33 (r_le rfl rfl) ?_; refine st _ (r_pick_t rfl h33 rfl) ?_; refine mv rfl ?_; refine part_n (t := 37) rfl (fun h37 => ?_) (fun h37 => ?_)
                · (first | (have h37n := of_decide_eq_true h37) | (have h37n := of_decide_eq_false (bnt h37)) | (have h37n := bnt h37) | (have h37n := h37)); refine st_skip rfl rfl rfl h37 ?_; refine st_skip rfl rfl rfl h37 ?_; refine st_skip rfl rfl rfl h37 ?_; refine st_skipU rfl rfl rfl ?_; refine st_skipU rfl rfl rfl ?_; refine st_skip rfl rfl rfl h37 ?_; refine st _ (r_pick_t rfl h37 rfl) ?_; refine mv rfl ?_; refine st_skip rfl rfl rfl rfl ?_; refine st_skip rfl rfl rfl rfl ?_; refine st _ (r_pick_t rfl rfl rfl) ?_; refine st _ (r_not rfl) ?_; refine nt ?_; refine c_if_f rfl rfl ?_; refine c_skip ?_; refine n_block ?_; refine c_then ?_; refine c_region ?_; refine st _ (r_addI rfl rfl (by omega)) ?_; refine mv rfl ?_; refine nt ?_; refine next (i + 1) (by omega) ⟨rfl, rfl, fitI rfl (by simp), trivial⟩ ?_
                  exact ⟨rfl, by omega, h1, h2, h3, fun j hj => by
                    rcases Nat.lt_or_eq_of_le (Nat.le_of_lt_succ hj) with h | h
                    · exact h4 j h
                    · subst h; unfold nameC; exact decide_eq_true (by omega)⟩
                · (first | (have h37n := of_decide_eq_false h37) | (have h37n := of_decide_eq_true (bnf h37)) | (have h37n := bnf h37) | (have h37n := h37)); refine st_g _ rfl rfl rfl h37 (r_move rfl) ?_; refine st_g _ rfl rfl rfl h37 (r_ge rfl rfl) ?_; refine st_g _ rfl rfl rfl h37 (r_move rfl) ?_; refine part_n (t := 40) rfl (fun h40 => ?_) (fun h40 => ?_)
                  · (first | (have h40n := of_decide_eq_true h40) | (have h40n := of_decide_eq_false (bnt h40)) | (have h40n := bnt h40) | (have h40n := h40)); refine st_g _ rfl rfl rfl h40 (r_move rfl) ?_; refine st_g _ rfl rfl rfl h40 (r_le rfl rfl) ?_; refine st_g _ rfl rfl rfl h37 (r_pick_t rfl h40 rfl) ?_; refine st _ (r_pick_f rfl h37 rfl) ?_; refine mv rfl ?_; refine part_n (t := 45) rfl (fun h45 => ?_) (fun h45 => ?_)
                    · (first | (have h45n := of_decide_eq_true h45) | (have h45n := of_decide_eq_false (bnt h45)) | (have h45n := bnt h45) | (have h45n := h45)); refine st_skip rfl rfl rfl h45 ?_; refine st_skip rfl rfl rfl h45 ?_; refine st _ (r_pick_t rfl h45 rfl) ?_; refine st _ (r_not rfl) ?_; refine nt ?_; refine c_if_f rfl rfl ?_; refine c_skip ?_; refine n_block ?_; refine c_then ?_; refine c_region ?_; refine st _ (r_addI rfl rfl (by omega)) ?_; refine mv rfl ?_; refine nt ?_; refine next (i + 1) (by omega) ⟨rfl, rfl, fitI rfl (by simp), trivial⟩ ?_
                      exact ⟨rfl, by omega, h1, h2, h3, fun j hj => by
                        rcases Nat.lt_or_eq_of_le (Nat.le_of_lt_succ hj) with h | h
                        · exact h4 j h
                        · subst h; unfold nameC; exact decide_eq_true (by omega)⟩
                    · (first | (have h45n := of_decide_eq_false h45) | (have h45n := of_decide_eq_true (bnf h45)) | (have h45n := bnf h45) | (have h45n := h45)); refine st_g _ rfl rfl rfl h45 (r_move rfl) ?_; refine st_g _ rfl rfl rfl h45 (r_eq rfl rfl) ?_; refine st _ (r_pick_f rfl h45 rfl) ?_; refine st _ (r_not rfl) ?_; refine nt ?_; refine c_if rfl (fun h49 => ?_) (fun h49 => ?_)
                      · (first | (have h49n := of_decide_eq_true h49) | (have h49n := of_decide_eq_false (bnt h49)) | (have h49n := bnt h49) | (have h49n := h49)); refine ns ?_; refine asg rfl ?_; refine nt ?_; refine c_ret ?_; refine r_block ?_; refine r_then ?_; refine r_then ?_; refine r_block ?_; refine r_then ?_; exact ret1 trivial rfl rfl ⟨retB (by cases hh : isName s with | false => rfl | true => (exfalso; have hl := name_len hh; have hd := name_dig hh; have ha := name_at hh i (by omega); omega)), rfl⟩
                      · (first | (have h49n := of_decide_eq_false h49) | (have h49n := of_decide_eq_true (bnf h49)) | (have h49n := bnf h49) | (have h49n := h49)); refine c_skip ?_; refine n_block ?_; refine c_then ?_; refine c_region ?_; refine st _ (r_addI rfl rfl (by omega)) ?_; refine mv rfl ?_; refine nt ?_; refine next (i + 1) (by omega) ⟨rfl, rfl, fitI rfl (by simp), trivial⟩ ?_
                        exact ⟨rfl, by omega, h1, h2, h3, fun j hj => by
                          rcases Nat.lt_or_eq_of_le (Nat.le_of_lt_succ hj) with h | h
                          · exact h4 j h
                          · subst h; unfold nameC; exact decide_eq_true (by omega)⟩
                  · (first | (have h40n := of_decide_eq_false h40) | (have h40n := of_decide_eq_true (bnf h40)) | (have h40n := bnf h40) | (have h40n := h40)); refine st_skip rfl rfl rfl h40 ?_; refine st_skip rfl rfl rfl h40 ?_; refine st_g _ rfl rfl rfl h37 (r_pick_f rfl h40 rfl) ?_; refine st _ (r_pick_f rfl h37 rfl) ?_; refine mv rfl ?_; refine st_g _ rfl rfl rfl rfl (r_move rfl) ?_; refine st_g _ rfl rfl rfl rfl (r_eq rfl rfl) ?_; refine st _ (r_pick_f rfl rfl rfl) ?_; refine st _ (r_not rfl) ?_; refine nt ?_; refine c_if rfl (fun h49 => ?_) (fun h49 => ?_)
                    · (first | (have h49n := of_decide_eq_true h49) | (have h49n := of_decide_eq_false (bnt h49)) | (have h49n := bnt h49) | (have h49n := h49)); refine ns ?_; refine asg rfl ?_; refine nt ?_; refine c_ret ?_; refine r_block ?_; refine r_then ?_; refine r_then ?_; refine r_block ?_; refine r_then ?_; exact ret1 trivial rfl rfl ⟨retB (by cases hh : isName s with | false => rfl | true => (exfalso; have hl := name_len hh; have hd := name_dig hh; have ha := name_at hh i (by omega); omega)), rfl⟩
                    · (first | (have h49n := of_decide_eq_false h49) | (have h49n := of_decide_eq_true (bnf h49)) | (have h49n := bnf h49) | (have h49n := h49)); refine c_skip ?_; refine n_block ?_; refine c_then ?_; refine c_region ?_; refine st _ (r_addI rfl rfl (by omega)) ?_; refine mv rfl ?_; refine nt ?_; refine next (i + 1) (by omega) ⟨rfl, rfl, fitI rfl (by simp), trivial⟩ ?_
                      exact ⟨rfl, by omega, h1, h2, h3, fun j hj => by
                        rcases Nat.lt_or_eq_of_le (Nat.le_of_lt_succ hj) with h | h
                        · exact h4 j h
                        · subst h; unfold nameC; exact decide_eq_true (by omega)⟩
              · (first | (have h33n := of_decide_eq_false h33) | (have h33n := of_decide_eq_true (bnf h33)) | (have h33n := bnf h33) | (have h33n := h33)); refine st_skip rfl rfl rfl h33 ?_; refine st_skip rfl rfl rfl h33 ?_; refine st _ (r_pick_f rfl h33 rfl) ?_; refine mv rfl ?_; refine st_g _ rfl rfl rfl rfl (r_move rfl) ?_; refine st_g _ rfl rfl rfl rfl (r_ge rfl rfl) ?_; refine st_g _ rfl rfl rfl rfl (r_move rfl) ?_; refine part_n (t := 40) rfl (fun h40 => ?_) (fun h40 => ?_)
                · (first | (have h40n := of_decide_eq_true h40) | (have h40n := of_decide_eq_false (bnt h40)) | (have h40n := bnt h40) | (have h40n := h40)); refine st_g _ rfl rfl rfl h40 (r_move rfl) ?_; refine st_g _ rfl rfl rfl h40 (r_le rfl rfl) ?_; refine st_g _ rfl rfl rfl rfl (r_pick_t rfl h40 rfl) ?_; refine st _ (r_pick_f rfl rfl rfl) ?_; refine mv rfl ?_; refine part_n (t := 45) rfl (fun h45 => ?_) (fun h45 => ?_)
                  · (first | (have h45n := of_decide_eq_true h45) | (have h45n := of_decide_eq_false (bnt h45)) | (have h45n := bnt h45) | (have h45n := h45)); refine st_skip rfl rfl rfl h45 ?_; refine st_skip rfl rfl rfl h45 ?_; refine st _ (r_pick_t rfl h45 rfl) ?_; refine st _ (r_not rfl) ?_; refine nt ?_; refine c_if_f rfl rfl ?_; refine c_skip ?_; refine n_block ?_; refine c_then ?_; refine c_region ?_; refine st _ (r_addI rfl rfl (by omega)) ?_; refine mv rfl ?_; refine nt ?_; refine next (i + 1) (by omega) ⟨rfl, rfl, fitI rfl (by simp), trivial⟩ ?_
                    exact ⟨rfl, by omega, h1, h2, h3, fun j hj => by
                      rcases Nat.lt_or_eq_of_le (Nat.le_of_lt_succ hj) with h | h
                      · exact h4 j h
                      · subst h; unfold nameC; exact decide_eq_true (by omega)⟩
                  · (first | (have h45n := of_decide_eq_false h45) | (have h45n := of_decide_eq_true (bnf h45)) | (have h45n := bnf h45) | (have h45n := h45)); refine st_g _ rfl rfl rfl h45 (r_move rfl) ?_; refine st_g _ rfl rfl rfl h45 (r_eq rfl rfl) ?_; refine st _ (r_pick_f rfl h45 rfl) ?_; refine st _ (r_not rfl) ?_; refine nt ?_; refine c_if rfl (fun h49 => ?_) (fun h49 => ?_)
                    · (first | (have h49n := of_decide_eq_true h49) | (have h49n := of_decide_eq_false (bnt h49)) | (have h49n := bnt h49) | (have h49n := h49)); refine ns ?_; refine asg rfl ?_; refine nt ?_; refine c_ret ?_; refine r_block ?_; refine r_then ?_; refine r_then ?_; refine r_block ?_; refine r_then ?_; exact ret1 trivial rfl rfl ⟨retB (by cases hh : isName s with | false => rfl | true => (exfalso; have hl := name_len hh; have hd := name_dig hh; have ha := name_at hh i (by omega); omega)), rfl⟩
                    · (first | (have h49n := of_decide_eq_false h49) | (have h49n := of_decide_eq_true (bnf h49)) | (have h49n := bnf h49) | (have h49n := h49)); refine c_skip ?_; refine n_block ?_; refine c_then ?_; refine c_region ?_; refine st _ (r_addI rfl rfl (by omega)) ?_; refine mv rfl ?_; refine nt ?_; refine next (i + 1) (by omega) ⟨rfl, rfl, fitI rfl (by simp), trivial⟩ ?_
                      exact ⟨rfl, by omega, h1, h2, h3, fun j hj => by
                        rcases Nat.lt_or_eq_of_le (Nat.le_of_lt_succ hj) with h | h
                        · exact h4 j h
                        · subst h; unfold nameC; exact decide_eq_true (by omega)⟩
                · (first | (have h40n := of_decide_eq_false h40) | (have h40n := of_decide_eq_true (bnf h40)) | (have h40n := bnf h40) | (have h40n := h40)); refine st_skip rfl rfl rfl h40 ?_; refine st_skip rfl rfl rfl h40 ?_; refine st_g _ rfl rfl rfl rfl (r_pick_f rfl h40 rfl) ?_; refine st _ (r_pick_f rfl rfl rfl) ?_; refine mv rfl ?_; refine st_g _ rfl rfl rfl rfl (r_move rfl) ?_; refine st_g _ rfl rfl rfl rfl (r_eq rfl rfl) ?_; refine st _ (r_pick_f rfl rfl rfl) ?_; refine st _ (r_not rfl) ?_; refine nt ?_; refine c_if rfl (fun h49 => ?_) (fun h49 => ?_)
                  · (first | (have h49n := of_decide_eq_true h49) | (have h49n := of_decide_eq_false (bnt h49)) | (have h49n := bnt h49) | (have h49n := h49)); refine ns ?_; refine asg rfl ?_; refine nt ?_; refine c_ret ?_; refine r_block ?_; refine r_then ?_; refine r_then ?_; refine r_block ?_; refine r_then ?_; exact ret1 trivial rfl rfl ⟨retB (by cases hh : isName s with | false => rfl | true => (exfalso; have hl := name_len hh; have hd := name_dig hh; have ha := name_at hh i (by omega); omega)), rfl⟩
                  · (first | (have h49n := of_decide_eq_false h49) | (have h49n := of_decide_eq_true (bnf h49)) | (have h49n := bnf h49) | (have h49n := h49)); refine c_skip ?_; refine n_block ?_; refine c_then ?_; refine c_region ?_; refine st _ (r_addI rfl rfl (by omega)) ?_; refine mv rfl ?_; refine nt ?_; refine next (i + 1) (by omega) ⟨rfl, rfl, fitI rfl (by simp), trivial⟩ ?_
                    exact ⟨rfl, by omega, h1, h2, h3, fun j hj => by
                      rcases Nat.lt_or_eq_of_le (Nat.le_of_lt_succ hj) with h | h
                      · exact h4 j h
                      · subst h; unfold nameC; exact decide_eq_true (by omega)⟩
            · (first | (have h26n := of_decide_eq_false h26) | (have h26n := of_decide_eq_true (bnf h26)) | (have h26n := bnf h26) | (have h26n := h26)); refine c_exit ?_; refine x_then ?_; refine x_then ?_; refine x_hit ?_; refine c_then ?_; refine ns ?_; refine asg rfl ?_; refine nt ?_; refine c_ret ?_; exact ret1 trivial rfl rfl ⟨retB (name_ok h1 h2 h3 (fun j hj => h4 j (by omega))).symm, rfl⟩
      · (first | (have h17n := of_decide_eq_false h17) | (have h17n := of_decide_eq_true (bnf h17)) | (have h17n := bnf h17) | (have h17n := h17)); refine st_skip rfl rfl rfl h17 ?_; refine st_skip rfl rfl rfl h17 ?_; refine st_skip rfl rfl rfl h17 ?_; refine st_g _ rfl rfl rfl h13 (r_pick_f rfl h17 rfl) ?_; refine st _ (r_pick_f rfl h13 rfl) ?_; refine nt ?_; refine c_if_f rfl rfl ?_; refine c_skip ?_; refine c_then ?_; refine c_seq ?_; refine ns ?_; refine mv rfl ?_; refine st _ (r_lenS rfl u9) ?_; refine mv rfl ?_; refine nt ?_; refine c_block ?_; refine c_loop (X := Nat) (fun i => [(0, str s), (24, .int .i64 s.length), (25, .int .i64 i)]) (fun i w' => w = w' ∧ i ≤ s.length ∧ 1 ≤ s.length ∧ s.length ≤ 64 ∧ digit (s.getD 0 0) = false ∧ ∀ j, j < i → nameC (s.getD j 0) = true) (fun i => s.length - i) 0 ?_ ?_ ?_
        · exact ⟨rfl, rfl, rfl, trivial⟩
        · exact ⟨rfl, by omega, by omega, by omega, by unfold digit; exact decide_eq_false (by omega), fun j hj => by omega⟩
        · clear M
          rintro i B w2 ⟨rfl, hi, h1, h2, h3, h4⟩; have M := Md.refl [] w; refine ns ?_; refine st _ (r_lt rfl rfl) ?_; refine nt ?_; refine c_seq ?_; refine c_if rfl (fun h26 => ?_) (fun h26 => ?_)
          · (first | (have h26n := of_decide_eq_true h26) | (have h26n := of_decide_eq_false (bnt h26)) | (have h26n := bnt h26) | (have h26n := h26)); refine c_skip ?_; refine c_then ?_; refine c_seq ?_; refine c_block ?_; refine ns ?_; refine mv rfl ?_; refine asg rfl ?_; refine nt ?_; refine ns ?_; refine mv rfl ?_; refine mv rfl ?_; refine st _ (r_idxSN rfl rfl u9 (by omega)) ?_; refine asg rfl ?_; refine nt ?_; refine ns ?_; refine mv rfl ?_; refine st _ (r_ge rfl rfl) ?_; refine mv rfl ?_; refine part_n (t := 33) rfl (fun h33 => ?_) (fun h33 => ?_)
            · (first | (have h33n := of_decide_eq_true h33) | (have h33n := of_decide_eq_false (bnt h33)) | (have h33n := bnt h33) | (have h33n := h33)); refine st_g _ rfl rfl rfl h33 (r_move rfl) ?_; refine st_g _ rfl rfl rfl h33 (r_le rfl rfl) ?_; refine st _ (r_pick_t rfl h33 rfl) ?_; refine mv rfl ?_; refine part_n (t := 37) rfl (fun h37 => ?_) (fun h37 => ?_)
              · (first | (have h37n := of_decide_eq_true h37) | (have h37n := of_decide_eq_false (bnt h37)) | (have h37n := bnt h37) | (have h37n := h37)); refine st_skip rfl rfl rfl h37 ?_; refine st_skip rfl rfl rfl h37 ?_; refine st_skip rfl rfl rfl h37 ?_; refine st_skipU rfl rfl rfl ?_; refine st_skipU rfl rfl rfl ?_; refine st_skip rfl rfl rfl h37 ?_; refine st _ (r_pick_t rfl h37 rfl) ?_; refine mv rfl ?_; refine st_skip rfl rfl rfl rfl ?_; refine st_skip rfl rfl rfl rfl ?_; refine st _ (r_pick_t rfl rfl rfl) ?_; refine st _ (r_not rfl) ?_; refine nt ?_; refine c_if_f rfl rfl ?_; refine c_skip ?_; refine n_block ?_; refine c_then ?_; refine c_region ?_; refine st _ (r_addI rfl rfl (by omega)) ?_; refine mv rfl ?_; refine nt ?_; refine next (i + 1) (by omega) ⟨rfl, rfl, fitI rfl (by simp), trivial⟩ ?_
                exact ⟨rfl, by omega, h1, h2, h3, fun j hj => by
                  rcases Nat.lt_or_eq_of_le (Nat.le_of_lt_succ hj) with h | h
                  · exact h4 j h
                  · subst h; unfold nameC; exact decide_eq_true (by omega)⟩
              · (first | (have h37n := of_decide_eq_false h37) | (have h37n := of_decide_eq_true (bnf h37)) | (have h37n := bnf h37) | (have h37n := h37)); refine st_g _ rfl rfl rfl h37 (r_move rfl) ?_; refine st_g _ rfl rfl rfl h37 (r_ge rfl rfl) ?_; refine st_g _ rfl rfl rfl h37 (r_move rfl) ?_; refine part_n (t := 40) rfl (fun h40 => ?_) (fun h40 => ?_)
                · (first | (have h40n := of_decide_eq_true h40) | (have h40n := of_decide_eq_false (bnt h40)) | (have h40n := bnt h40) | (have h40n := h40)); refine st_g _ rfl rfl rfl h40 (r_move rfl) ?_; refine st_g _ rfl rfl rfl h40 (r_le rfl rfl) ?_; refine st_g _ rfl rfl rfl h37 (r_pick_t rfl h40 rfl) ?_; refine st _ (r_pick_f rfl h37 rfl) ?_; refine mv rfl ?_; refine part_n (t := 45) rfl (fun h45 => ?_) (fun h45 => ?_)
                  · (first | (have h45n := of_decide_eq_true h45) | (have h45n := of_decide_eq_false (bnt h45)) | (have h45n := bnt h45) | (have h45n := h45)); refine st_skip rfl rfl rfl h45 ?_; refine st_skip rfl rfl rfl h45 ?_; refine st _ (r_pick_t rfl h45 rfl) ?_; refine st _ (r_not rfl) ?_; refine nt ?_; refine c_if_f rfl rfl ?_; refine c_skip ?_; refine n_block ?_; refine c_then ?_; refine c_region ?_; refine st _ (r_addI rfl rfl (by omega)) ?_; refine mv rfl ?_; refine nt ?_; refine next (i + 1) (by omega) ⟨rfl, rfl, fitI rfl (by simp), trivial⟩ ?_
                    exact ⟨rfl, by omega, h1, h2, h3, fun j hj => by
                      rcases Nat.lt_or_eq_of_le (Nat.le_of_lt_succ hj) with h | h
                      · exact h4 j h
                      · subst h; unfold nameC; exact decide_eq_true (by omega)⟩
                  · (first | (have h45n := of_decide_eq_false h45) | (have h45n := of_decide_eq_true (bnf h45)) | (have h45n := bnf h45) | (have h45n := h45)); refine st_g _ rfl rfl rfl h45 (r_move rfl) ?_; refine st_g _ rfl rfl rfl h45 (r_eq rfl rfl) ?_; refine st _ (r_pick_f rfl h45 rfl) ?_; refine st _ (r_not rfl) ?_; refine nt ?_; refine c_if rfl (fun h49 => ?_) (fun h49 => ?_)
                    · (first | (have h49n := of_decide_eq_true h49) | (have h49n := of_decide_eq_false (bnt h49)) | (have h49n := bnt h49) | (have h49n := h49)); refine ns ?_; refine asg rfl ?_; refine nt ?_; refine c_ret ?_; refine r_block ?_; refine r_then ?_; refine r_then ?_; refine r_block ?_; refine r_then ?_; exact ret1 trivial rfl rfl ⟨retB (by cases hh : isName s with | false => rfl | true => (exfalso; have hl := name_len hh; have hd := name_dig hh; have ha := name_at hh i (by omega); omega)), rfl⟩
                    · (first | (have h49n := of_decide_eq_false h49) | (have h49n := of_decide_eq_true (bnf h49)) | (have h49n := bnf h49) | (have h49n := h49)); refine c_skip ?_; refine n_block ?_; refine c_then ?_; refine c_region ?_; refine st _ (r_addI rfl rfl (by omega)) ?_; refine mv rfl ?_; refine nt ?_; refine next (i + 1) (by omega) ⟨rfl, rfl, fitI rfl (by simp), trivial⟩ ?_
                      exact ⟨rfl, by omega, h1, h2, h3, fun j hj => by
                        rcases Nat.lt_or_eq_of_le (Nat.le_of_lt_succ hj) with h | h
                        · exact h4 j h
                        · subst h; unfold nameC; exact decide_eq_true (by omega)⟩
                · (first | (have h40n := of_decide_eq_false h40) | (have h40n := of_decide_eq_true (bnf h40)) | (have h40n := bnf h40) | (have h40n := h40)); refine st_skip rfl rfl rfl h40 ?_; refine st_skip rfl rfl rfl h40 ?_; refine st_g _ rfl rfl rfl h37 (r_pick_f rfl h40 rfl) ?_; refine st _ (r_pick_f rfl h37 rfl) ?_; refine mv rfl ?_; refine st_g _ rfl rfl rfl rfl (r_move rfl) ?_; refine st_g _ rfl rfl rfl rfl (r_eq rfl rfl) ?_; refine st _ (r_pick_f rfl rfl rfl) ?_; refine st _ (r_not rfl) ?_; refine nt ?_; refine c_if rfl (fun h49 => ?_) (fun h49 => ?_)
                  · (first | (have h49n := of_decide_eq_true h49) | (have h49n := of_decide_eq_false (bnt h49)) | (have h49n := bnt h49) | (have h49n := h49)); refine ns ?_; refine asg rfl ?_; refine nt ?_; refine c_ret ?_; refine r_block ?_; refine r_then ?_; refine r_then ?_; refine r_block ?_; refine r_then ?_; exact ret1 trivial rfl rfl ⟨retB (by cases hh : isName s with | false => rfl | true => (exfalso; have hl := name_len hh; have hd := name_dig hh; have ha := name_at hh i (by omega); omega)), rfl⟩
                  · (first | (have h49n := of_decide_eq_false h49) | (have h49n := of_decide_eq_true (bnf h49)) | (have h49n := bnf h49) | (have h49n := h49)); refine c_skip ?_; refine n_block ?_; refine c_then ?_; refine c_region ?_; refine st _ (r_addI rfl rfl (by omega)) ?_; refine mv rfl ?_; refine nt ?_; refine next (i + 1) (by omega) ⟨rfl, rfl, fitI rfl (by simp), trivial⟩ ?_
                    exact ⟨rfl, by omega, h1, h2, h3, fun j hj => by
                      rcases Nat.lt_or_eq_of_le (Nat.le_of_lt_succ hj) with h | h
                      · exact h4 j h
                      · subst h; unfold nameC; exact decide_eq_true (by omega)⟩
            · (first | (have h33n := of_decide_eq_false h33) | (have h33n := of_decide_eq_true (bnf h33)) | (have h33n := bnf h33) | (have h33n := h33)); refine st_skip rfl rfl rfl h33 ?_; refine st_skip rfl rfl rfl h33 ?_; refine st _ (r_pick_f rfl h33 rfl) ?_; refine mv rfl ?_; refine st_g _ rfl rfl rfl rfl (r_move rfl) ?_; refine st_g _ rfl rfl rfl rfl (r_ge rfl rfl) ?_; refine st_g _ rfl rfl rfl rfl (r_move rfl) ?_; refine part_n (t := 40) rfl (fun h40 => ?_) (fun h40 => ?_)
              · (first | (have h40n := of_decide_eq_true h40) | (have h40n := of_decide_eq_false (bnt h40)) | (have h40n := bnt h40) | (have h40n := h40)); refine st_g _ rfl rfl rfl h40 (r_move rfl) ?_; refine st_g _ rfl rfl rfl h40 (r_le rfl rfl) ?_; refine st_g _ rfl rfl rfl rfl (r_pick_t rfl h40 rfl) ?_; refine st _ (r_pick_f rfl rfl rfl) ?_; refine mv rfl ?_; refine part_n (t := 45) rfl (fun h45 => ?_) (fun h45 => ?_)
                · (first | (have h45n := of_decide_eq_true h45) | (have h45n := of_decide_eq_false (bnt h45)) | (have h45n := bnt h45) | (have h45n := h45)); refine st_skip rfl rfl rfl h45 ?_; refine st_skip rfl rfl rfl h45 ?_; refine st _ (r_pick_t rfl h45 rfl) ?_; refine st _ (r_not rfl) ?_; refine nt ?_; refine c_if_f rfl rfl ?_; refine c_skip ?_; refine n_block ?_; refine c_then ?_; refine c_region ?_; refine st _ (r_addI rfl rfl (by omega)) ?_; refine mv rfl ?_; refine nt ?_; refine next (i + 1) (by omega) ⟨rfl, rfl, fitI rfl (by simp), trivial⟩ ?_
                  exact ⟨rfl, by omega, h1, h2, h3, fun j hj => by
                    rcases Nat.lt_or_eq_of_le (Nat.le_of_lt_succ hj) with h | h
                    · exact h4 j h
                    · subst h; unfold nameC; exact decide_eq_true (by omega)⟩
                · (first | (have h45n := of_decide_eq_false h45) | (have h45n := of_decide_eq_true (bnf h45)) | (have h45n := bnf h45) | (have h45n := h45)); refine st_g _ rfl rfl rfl h45 (r_move rfl) ?_; refine st_g _ rfl rfl rfl h45 (r_eq rfl rfl) ?_; refine st _ (r_pick_f rfl h45 rfl) ?_; refine st _ (r_not rfl) ?_; refine nt ?_; refine c_if rfl (fun h49 => ?_) (fun h49 => ?_)
                  · (first | (have h49n := of_decide_eq_true h49) | (have h49n := of_decide_eq_false (bnt h49)) | (have h49n := bnt h49) | (have h49n := h49)); refine ns ?_; refine asg rfl ?_; refine nt ?_; refine c_ret ?_; refine r_block ?_; refine r_then ?_; refine r_then ?_; refine r_block ?_; refine r_then ?_; exact ret1 trivial rfl rfl ⟨retB (by cases hh : isName s with | false => rfl | true => (exfalso; have hl := name_len hh; have hd := name_dig hh; have ha := name_at hh i (by omega); omega)), rfl⟩
                  · (first | (have h49n := of_decide_eq_false h49) | (have h49n := of_decide_eq_true (bnf h49)) | (have h49n := bnf h49) | (have h49n := h49)); refine c_skip ?_; refine n_block ?_; refine c_then ?_; refine c_region ?_; refine st _ (r_addI rfl rfl (by omega)) ?_; refine mv rfl ?_; refine nt ?_; refine next (i + 1) (by omega) ⟨rfl, rfl, fitI rfl (by simp), trivial⟩ ?_
                    exact ⟨rfl, by omega, h1, h2, h3, fun j hj => by
                      rcases Nat.lt_or_eq_of_le (Nat.le_of_lt_succ hj) with h | h
                      · exact h4 j h
                      · subst h; unfold nameC; exact decide_eq_true (by omega)⟩
              · (first | (have h40n := of_decide_eq_false h40) | (have h40n := of_decide_eq_true (bnf h40)) | (have h40n := bnf h40) | (have h40n := h40)); refine st_skip rfl rfl rfl h40 ?_; refine st_skip rfl rfl rfl h40 ?_; refine st_g _ rfl rfl rfl rfl (r_pick_f rfl h40 rfl) ?_; refine st _ (r_pick_f rfl rfl rfl) ?_; refine mv rfl ?_; refine st_g _ rfl rfl rfl rfl (r_move rfl) ?_; refine st_g _ rfl rfl rfl rfl (r_eq rfl rfl) ?_; refine st _ (r_pick_f rfl rfl rfl) ?_; refine st _ (r_not rfl) ?_; refine nt ?_; refine c_if rfl (fun h49 => ?_) (fun h49 => ?_)
                · (first | (have h49n := of_decide_eq_true h49) | (have h49n := of_decide_eq_false (bnt h49)) | (have h49n := bnt h49) | (have h49n := h49)); refine ns ?_; refine asg rfl ?_; refine nt ?_; refine c_ret ?_; refine r_block ?_; refine r_then ?_; refine r_then ?_; refine r_block ?_; refine r_then ?_; exact ret1 trivial rfl rfl ⟨retB (by cases hh : isName s with | false => rfl | true => (exfalso; have hl := name_len hh; have hd := name_dig hh; have ha := name_at hh i (by omega); omega)), rfl⟩
                · (first | (have h49n := of_decide_eq_false h49) | (have h49n := of_decide_eq_true (bnf h49)) | (have h49n := bnf h49) | (have h49n := h49)); refine c_skip ?_; refine n_block ?_; refine c_then ?_; refine c_region ?_; refine st _ (r_addI rfl rfl (by omega)) ?_; refine mv rfl ?_; refine nt ?_; refine next (i + 1) (by omega) ⟨rfl, rfl, fitI rfl (by simp), trivial⟩ ?_
                  exact ⟨rfl, by omega, h1, h2, h3, fun j hj => by
                    rcases Nat.lt_or_eq_of_le (Nat.le_of_lt_succ hj) with h | h
                    · exact h4 j h
                    · subst h; unfold nameC; exact decide_eq_true (by omega)⟩
          · (first | (have h26n := of_decide_eq_false h26) | (have h26n := of_decide_eq_true (bnf h26)) | (have h26n := bnf h26) | (have h26n := h26)); refine c_exit ?_; refine x_then ?_; refine x_then ?_; refine x_hit ?_; refine c_then ?_; refine ns ?_; refine asg rfl ?_; refine nt ?_; refine c_ret ?_; exact ret1 trivial rfl rfl ⟨retB (name_ok h1 h2 h3 (fun j hj => h4 j (by omega))).symm, rfl⟩
theorem split_any (v : Value) (l : List UInt8) (w : World) (hB : By w v l) :
    Calls Try.prog 29 #[v] w fun e w' => e = .returned (.tuple #[pairv (splitP l), .int .i64 (splitC l)]) ∧ Md [] w w' := by
  have M := Md.refl [] w; refine enter (n := 34) Try.func29 rfl rfl rfl ?_; intro B; refine ns ?_; refine st_alloc z33 ?_; intro bR w1 gR lR hm hR; replace gR := Nat.le_trans M.size gR; replace M := M.step0 hm; refine asg rfl ?_; refine nt ?_; refine ns ?_; refine mv rfl ?_; refine st_buildSlice u57 elT5 (by decide) rfl rfl rfl ⟨rfl, trivial⟩ (by decide) ?_; intro bE w2 gE lE hm hE; have nhRE : bR ≠ bE := (by have := hR.lt; omega); replace gE := Nat.le_trans M.size gE; replace hR := hR.md0 hm; replace M := M.step0 hm; refine st_call fn45 rfl (cut_any v _ l 61 _ (hB.md0 M) (By.of_blk (show Blk _ _ (([61] : List UInt8).map b8) _ from hE) rfl (by decide))) ?_; rintro e w50 ⟨x, y, b, rfl, hm, hT, hF⟩; refine ⟨_, rfl, ?_⟩; clear hE; replace hR := hR.md0 hm; replace M := M.step0 hm; refine mv rfl ?_; refine st _ (r_extract rfl rfl) ?_; refine st _ (r_extract rfl rfl) ?_; refine st _ (r_extract rfl rfl) ?_; refine asg rfl ?_; refine asg rfl ?_; refine asg rfl ?_; refine nt ?_; refine c_seq ?_; refine c_block ?_; refine ns ?_; refine mv rfl ?_; refine st _ (r_not rfl) ?_; refine mv rfl ?_; refine part_n (t := 17) rfl (fun h17 => ?_) (fun h17 => ?_)
  · (first | (have h17n := of_decide_eq_true h17) | (have h17n := of_decide_eq_false (bnt h17)) | (have h17n := bnt h17) | (have h17n := h17)); refine st_skip rfl rfl rfl h17 ?_; refine st_skip rfl rfl rfl h17 ?_; refine st_skip rfl rfl rfl h17 ?_; refine st_skip rfl rfl rfl h17 ?_; refine st _ (r_pick_t rfl h17 rfl) ?_; refine asg rfl ?_; refine nt ?_; refine c_if_t rfl rfl ?_; refine ns ?_; refine st (.agg [_, _].toArray) (r_build (ps := []) z33 pl33 rfl rfl trivial rfl rfl rfl) ?_; refine st_storeAll rfl rfl (by exact agg33) (by simp [Value.oneCell']) hR (by first | rfl | simp) ?_; have hR0 := hR; clear hR; intro w3 hm hR; replace M := M.step1 hm gR; refine asg rfl ?_; refine nt ?_; refine c_ret ?_; refine r_block ?_; refine r_then ?_; have hc : splitC l = 20 := (by unfold splitC; rw [if_pos (hF h17n)]); have hp := split_bad (s := l) (by rw [hc]; decide); exact retc1 trivial rfl rfl (by exact agg33) hR rfl ⟨by rw [hc, hp]; rfl, M⟩
  · (first | (have h17n := of_decide_eq_false h17) | (have h17n := of_decide_eq_true (bnf h17)) | (have h17n := bnf h17) | (have h17n := h17)); obtain ⟨hi0, hX, hY⟩ := hT h17n; refine st_g _ rfl rfl rfl h17 (r_move rfl) ?_; refine st_g _ rfl rfl rfl h17 (r_convBS u57 u5 u9 rfl hX) ?_; refine st_call_g rfl rfl rfl h17 fn46 rfl (name_any (l.take (Lib.indexByte l 61).toNat) _) ?_; rintro e _ ⟨rfl, rfl⟩; refine ⟨_, rfl, ?_⟩; refine st_g _ rfl rfl rfl h17 (r_not rfl) ?_; refine st _ (r_pick_f rfl h17 rfl) ?_; refine asg rfl ?_; refine nt ?_; refine c_if rfl (fun h14 => ?_) (fun h14 => ?_)
    · (first | (have h14n := of_decide_eq_true h14) | (have h14n := of_decide_eq_false (bnt h14)) | (have h14n := bnt h14) | (have h14n := h14)); refine ns ?_; refine st (.agg [_, _].toArray) (r_build (ps := []) z33 pl33 rfl rfl trivial rfl rfl rfl) ?_; refine st_storeAll rfl rfl (by exact agg33) (by simp [Value.oneCell']) hR (by first | rfl | simp) ?_; have hR0 := hR; clear hR; intro w4 hm hR; clear hX; clear hY; replace M := M.step1 hm gR; refine asg rfl ?_; refine nt ?_; refine c_ret ?_; refine r_block ?_; refine r_then ?_; have hc : splitC l = 20 := (by unfold splitC; rw [if_neg (by omega), if_pos h14n]); have hp := split_bad (s := l) (by rw [hc]; decide); exact retc1 trivial rfl rfl (by exact agg33) hR rfl ⟨by rw [hc, hp]; rfl, M⟩
    · (first | (have h14n := of_decide_eq_false h14) | (have h14n := of_decide_eq_true (bnf h14)) | (have h14n := bnf h14) | (have h14n := h14)); refine ns ?_; refine mv rfl ?_; refine st _ (r_len rfl u57 hY.shp) ?_; refine st _ (r_gt rfl rfl) ?_; refine asg rfl ?_; refine nt ?_; refine c_if rfl (fun h24 => ?_) (fun h24 => ?_)
      · (first | (have h24n := of_decide_eq_true h24) | (have h24n := of_decide_eq_false (bnt h24)) | (have h24n := bnt h24) | (have h24n := h24)); refine ns ?_; refine st (.agg [_, _].toArray) (r_build (ps := []) z33 pl33 rfl rfl trivial rfl rfl rfl) ?_; refine st_storeAll rfl rfl (by exact agg33) (by simp [Value.oneCell']) hR (by first | rfl | simp) ?_; have hR0 := hR; clear hR; intro w5 hm hR; clear hX; clear hY; replace M := M.step1 hm gR; refine asg rfl ?_; refine nt ?_; refine c_ret ?_; refine r_block ?_; refine r_then ?_; have hc : splitC l = 21 := (by unfold splitC; rw [if_neg (by omega), if_neg (by simp [h14n]), if_pos (by omega)]); have hp := split_bad (s := l) (by rw [hc]; decide); exact retc1 trivial rfl rfl (by exact agg33) hR rfl ⟨by rw [hc, hp]; rfl, M⟩
      · (first | (have h24n := of_decide_eq_false h24) | (have h24n := of_decide_eq_true (bnf h24)) | (have h24n := bnf h24) | (have h24n := h24)); refine c_skip ?_; refine n_block ?_; refine c_then ?_; refine ns ?_; refine mv rfl ?_; refine st _ (r_convBS u57 u5 u9 rfl hX) ?_; refine mv rfl ?_; refine st _ (r_convBS u57 u5 u9 rfl hY) ?_; refine st (.agg [_, _].toArray) (r_build (ps := [(0, 0), (1, 1)]) z33 pl33 rfl rfl ⟨rfl, rfl, trivial⟩ rfl rfl rfl) ?_; refine st_storeAll rfl rfl (by exact agg33) (by simp [Value.oneCell', str]) hR (by first | rfl | simp) ?_; have hR0 := hR; clear hR; intro w6 hm hR; clear hX; clear hY; replace M := M.step1 hm gR; refine asg rfl ?_; refine nt ?_; refine c_ret ?_; have hc : splitC l = 0 := (by unfold splitC; rw [if_neg (by omega), if_neg (by simp [h14n]), if_neg (by omega)]); have hp : splitP l = (l.take (Lib.indexByte l 61).toNat, l.drop ((Lib.indexByte l 61).toNat + 1)) := (by unfold splitP; rw [if_pos hc]); exact retc1 trivial rfl rfl (by exact agg33) hR rfl ⟨by rw [hc, hp]; rfl, M⟩
end Go.Proofs.Ytimhhcacjiombaa
namespace Go.Proofs.Ytimhhcacjiombaa
open Go Go.Wk Go.RowKit
set_option linter.unusedVariables false
set_option linter.unusedSimpArgs false
attribute [local irreducible] wpList wpQuiet wpStill wpMix Code.wp Calls bodyPost

theorem kSplit_any {w : World} {Q : Nat → Prop} (uQ : Up w Q) {v0 : Value} {l : List UInt8} (h0 : Ls tB8 w Q v0 l) :
    Calls Try.prog 29 #[v0] w fun en w' => ∃ r0 : Pr, ∃ r1 : Nat, en = .returned (.tuple #[.agg (Pr.cells r0).toArray, (.int .i64 ((r1 : Nat) : Int))]) ∧ Md [] w w' ∧ r1 < 9223372036854775808 ∧ splitF l = (r0, r1) := by
  refine (split_any _ l w h0.by).mono fun en w' ⟨he, hm⟩ => ⟨(splitF l).1, (splitF l).2, ?_, hm, splitF_lt l, rfl⟩; rw [he, splitC_nat l]
  rfl
end Go.Proofs.Ytimhhcacjiombaa
namespace Go.Proofs.Ytimhhcacjiombaa
open Go Go.Wk Go.RowKit
set_option linter.unusedVariables false
set_option linter.unusedSimpArgs false
attribute [local irreducible] wpList wpQuiet wpStill wpMix Code.wp Calls bodyPost
theorem agg37 : isAggN Try.prog 37 1 = true := by kernel_rfl
theorem elT42 : elT Try.prog 42 1 24 = true := by kernel_rfl
theorem fn29 : isFn Try.prog 29 = true := by kernel_rfl
theorem fn30 : isFn Try.prog 30 = true := by kernel_rfl
theorem pl37 : bplace Try.prog 37 = some [(0, 1)] := by kernel_rfl
theorem u35 : Try.prog.underlying 35 = some (.slice 42) := by kernel_rfl
theorem z37 : zcells Try.prog 37 = some [.slice none 0 0] := by kernel_rfl

theorem kCompile_any {w : World} {Q : Nat → Prop} (uQ : Up w Q) {v0 : Value} {l : List (List UInt8)} (h0 : Ls tStr w Q v0 l) (p0 : ∀ s ∈ l, s.length ≤ 1000000) :
    Calls Try.prog 12 #[v0] w fun en w' => ∃ u0_0 : Value, ∃ r0 : Mat, ∃ r1 : Nat, en = .returned (.tuple #[.agg (Mat.cells r0 u0_0).toArray, (.int .i64 ((r1 : Nat) : Int))]) ∧ Md [] w w' ∧ Ls (tSl tAlt) w' Q u0_0 r0.rows ∧ r1 < 9223372036854775808 ∧ comF l = (r0, r1) := by
  have L0 := h0.len63; refine enter (n := 61) Try.func12 rfl rfl rfl ?_; intro B; refine ns ?_; refine st_alloc z37 ?_; intro br w1 gr lr hm1 hBr; refine asg rfl ?_; refine nt ?_; have M : Md [] w w1 := hm1; refine c_seq ?_; refine ns ?_; refine mv rfl ?_; refine st _ (r_len rfl u24 h0.shp) ?_; refine st _ (r_gtN (a := l.length) (b := 32) rfl rfl) ?_; refine nt ?_; refine c_if rfl (fun h12 => ?_) (fun h12 => ?_)
  · have e12 := of_decide_eq_true h12
    refine ns ?_; refine st _ (r_buildG (us := []) (cs := [.slice none 0 0]) [] z37 pl37 rfl rfl trivial trivial rfl rfl) ?_; refine st_storeAgg (b := br) (j := 0) (us := [.slice none 0 0]) rfl rfl (by exact agg37) (by intro u hu; simp at hu; subst hu; rfl) hBr (by decide) ?_; intro wz hmz hBz; refine asg rfl ?_; refine nt ?_; refine c_ret ?_
    repeat (first | refine r_then ?_ | refine r_block ?_)
    exact retL (vs := [.agg (Mat.cells { rows := [] } (.slice none 0 0)).toArray, .int .i64 ((21 : Nat) : Int)]) trivial rfl ⟨⟨_, rfl, load_agg (cs := [.slice none 0 0]) (by exact agg37) hBz⟩, rfl, trivial⟩ rfl ⟨.slice none 0 0, { rows := [] }, 21, rfl, M.step1 hmz gr, Ls.nil _ _ _, by first | omega | decide, (by unfold comF; rw [if_pos e12])⟩
  · have e12 := of_decide_eq_false h12
    refine c_skip ?_; refine c_then ?_; refine ns ?_; refine asg rfl ?_; refine nt ?_; refine ns ?_; refine asg rfl ?_; refine nt ?_; refine c_seq ?_; refine ns ?_; refine mv rfl ?_; refine st _ (r_len rfl u24 h0.shp) ?_; refine mv rfl ?_; refine nt ?_; refine c_block ?_; obtain ⟨Q1, sQ1, tQ1, nb1, uQ1⟩ := exQ uQ gr lr hm1; refine loop6 (fun (vr : Value) (rows : List (List Alt)) (v : Value) (row : List Alt) (us : List Value) (k : Nat) => [(16, (.int .i64 ((k : Nat) : Int))), (4, vr), (5, v), (0, v0), (2, .pointer (some ⟨br, 0, none⟩)), (14, v0), (15, .int .i64 ((l.length : Nat) : Int))]) (fun vr rows v row us k w' => k ≤ l.length ∧ Blk w' br [.slice none 0 0] 37 ∧ (rA row ∧ (∀ a ∈ row, rT a.values ∧ a.values.length ≤ k) ∧ row.length ≤ k ∧ rows.length ≤ k) ∧ comGo (l.drop k) rows row = comGo l [] [] ∧ ∃ Q2, CompI 42 44 9 w w' Q br vr rows v row us Q2) (fun _ _ _ _ _ k => l.length - k) (x0 := .slice none 0 0) (x1 := []) (x2 := .slice none 0 0) (x3 := []) (x4 := []) (x5 := 0) ?_ ?_ ?_
    · exact ⟨rfl, rfl, rfl, rfl, rfl, rfl, rfl, trivial⟩
    · exact ⟨Nat.zero_le _, hBr, ⟨List.Pairwise.nil, by simp, by simp, by simp⟩, rfl, Q1, hm1, sQ1, tQ1, uQ1, nb1, Ow.nil _ _ _ _ _, MRow.nil _ _ _ _ _⟩
    · clear hBr nb1 sQ1 tQ1 uQ1 M hm1 lr
      rintro vr rows v row us k B w2 ⟨hk, hBr, ⟨hA, hT, hn1, hn2⟩, hF, Q2, I⟩; refine ns ?_; refine st _ (r_ltN (a := k) (b := l.length) rfl rfl) ?_; refine nt ?_; refine c_seq ?_; refine c_if rfl (fun h17 => ?_) (fun h17 => ?_)
      · have e17 := of_decide_eq_true h17
        refine c_skip ?_; refine c_then ?_; refine c_seq ?_; refine c_block ?_; obtain ⟨s, hs⟩ := getE (l := l) (i := k) e17; have hsl := p0 s (List.mem_of_getElem? hs); have hl2 := h0.md0 I.md; obtain ⟨c0, hr0, ha0⟩ := hl2.get hs; obtain ⟨rfl, _⟩ := hr0; replace ha0 : At _ v0 (k * 1) [str s] := ha0; refine ns ?_; refine mv rfl ?_; refine st _ (r_indexN (i := k) 1 rfl rfl u24 el9 hl2.shp e17) ?_; refine st _ ((r_loadE (kk := k * 1) 0 rfl rfl one9 ha0 rfl).to (b := str s) rfl) ?_; refine asg rfl ?_; refine asg rfl ?_; refine nt ?_; refine c_seq ?_; refine ns ?_; refine mv rfl ?_; refine st _ (r_eqlS (a := s) (b := [43]) rfl rfl) ?_; refine nt ?_; refine c_if rfl (fun h22 => ?_) (fun h22 => ?_)
        · have e22 := of_decide_eq_true h22
          refine c_seq ?_; refine ns ?_; refine mv rfl ?_; refine mv rfl ?_; refine st _ (r_len rfl u24 hl2.shp) ?_; refine st _ (r_subN (a := l.length) (b := 1) 9223372036854775808 rfl rfl rfl (by omega)) ?_; refine st _ (r_eqN (a := k) (b := l.length - 1) rfl rfl) ?_; refine mv rfl ?_; refine part_n (t := 28) rfl (fun h28 => ?_) (fun h28 => ?_)
          · have e28 := of_decide_eq_true h28
            refine st_skip rfl rfl rfl h28 ?_; refine st_skip rfl rfl rfl h28 ?_; refine st_skip rfl rfl rfl h28 ?_; refine st _ (r_pick_t rfl h28 rfl) ?_; refine nt ?_; refine c_if_t rfl rfl ?_; refine ns ?_; refine st _ (r_buildG (us := []) (cs := [.slice none 0 0]) [] z37 pl37 rfl rfl trivial trivial rfl rfl) ?_; refine st_storeAgg (b := br) (j := 0) (us := [.slice none 0 0]) rfl rfl (by exact agg37) (by intro u hu; simp at hu; subst hu; rfl) hBr (by decide) ?_; intro wz hmz hBz; refine asg rfl ?_; refine nt ?_; refine c_ret ?_
            repeat (first | refine r_then ?_ | refine r_block ?_)
            exact retL (vs := [.agg (Mat.cells { rows := [] } (.slice none 0 0)).toArray, .int .i64 ((20 : Nat) : Int)]) trivial rfl ⟨⟨_, rfl, load_agg (cs := [.slice none 0 0]) (by exact agg37) hBz⟩, rfl, trivial⟩ rfl ⟨.slice none 0 0, { rows := [] }, 20, rfl, I.md.step1 hmz gr, Ls.nil _ _ _, by first | omega | decide, (by unfold comF; rw [if_neg e12, ← hF]; exact com_bad hs e22 (.inl e28))⟩
          · have e28 := of_decide_eq_false h28
            refine st_g _ rfl rfl rfl h28 (r_move rfl) ?_; refine st_g _ rfl rfl rfl h28 (r_len rfl u42 I.mr.shp) ?_; refine st_g _ rfl rfl rfl h28 (r_eqN (a := row.length) (b := 0) rfl rfl) ?_; refine st _ (r_pick_f rfl h28 rfl) ?_; refine nt ?_; refine c_if rfl (fun h32 => ?_) (fun h32 => ?_)
            · have e32 := of_decide_eq_true h32
              refine ns ?_; refine st _ (r_buildG (us := []) (cs := [.slice none 0 0]) [] z37 pl37 rfl rfl trivial trivial rfl rfl) ?_; refine st_storeAgg (b := br) (j := 0) (us := [.slice none 0 0]) rfl rfl (by exact agg37) (by intro u hu; simp at hu; subst hu; rfl) hBr (by decide) ?_; intro wz hmz hBz; refine asg rfl ?_; refine nt ?_; refine c_ret ?_
              repeat (first | refine r_then ?_ | refine r_block ?_)
              exact retL (vs := [.agg (Mat.cells { rows := [] } (.slice none 0 0)).toArray, .int .i64 ((20 : Nat) : Int)]) trivial rfl ⟨⟨_, rfl, load_agg (cs := [.slice none 0 0]) (by exact agg37) hBz⟩, rfl, trivial⟩ rfl ⟨.slice none 0 0, { rows := [] }, 20, rfl, I.md.step1 hmz gr, Ls.nil _ _ _, by first | omega | decide, (by unfold comF; rw [if_neg e12, ← hF]; exact com_bad hs e22 (.inr e32))⟩
            · have e32 := of_decide_eq_false h32
              refine c_skip ?_; refine c_then ?_; obtain ⟨Q3, sQ3, tQ3, uQ3, nb3, hO3, hL3⟩ := I.freeze (by decide) (by decide) hBr (by decide) (by decide); refine ns ?_; refine mv rfl ?_; refine mv rfl ?_; refine st_buildSlice (vs := [v]) u35 elT42 (by decide) rfl rfl rfl ⟨hL3.oneCell, trivial⟩ (by decide) ?_; intro bs w3 gs ls hm3 hBs; refine st_apZ (T := tSl tAlt) (ys := [row]) rfl u35 elT42 rfl rfl (hO3.md0 hm3) ⟨some ⟨bs, 0, none⟩, 1, [v], rfl, Nat.le_refl _, by decide, by simp, fun p hp j u hu => (by cases hp; rw [Addr.add_mk, Nat.zero_add, hBs.cell]; exact hu), [v], [], rfl, ⟨v, rfl, hL3.md0 hm3⟩, rfl⟩ (uQ3.md hm3) (fun b hb => Nat.le_trans (Nat.le_trans I.md.size hm3.size) hb) (by simp only [List.length_singleton]; omega) (by simp only [List.length_singleton]; omega) ?_; intro v' w4 Q4 sQ4 tQ4 uQ4 hO4 hm4 hn4 hl4 hv4; refine asg rfl ?_; refine asg rfl ?_; refine nt ?_; refine c_exit ?_; refine x_then ?_; refine x_hit ?_; refine c_then ?_; refine c_region ?_; refine st _ (r_addN (a := k) (b := 1) 9223372036854775808 rfl rfl rfl (by omega)) ?_; refine mv rfl ?_; refine nt ?_; have M3 := I.md.step0 hm3; have gvr : ∀ b, vblock vr = some b → w.heap.size ≤ b := fun b hb => (I.ow.2 b hb).1; have M4 : Md [] w w4 := M3.step hm4 (fun i hi => .inr (gvr i (by simpa using hi))); refine next6 (x0 := v') (x1 := rows ++ [row]) (x2 := .slice none 0 0) (x3 := []) (x4 := []) (x5 := k + 1) (by omega) ⟨fitI rfl (by omega), rfl, rfl, rfl, rfl, rfl, rfl, trivial⟩ ⟨by omega, ?_, ⟨List.Pairwise.nil, by simp, by simp, by simp; omega⟩, (com_plus hs e22 e28 e32).symm.trans hF, Q4, M4, fun b hb hl => sQ4 b (sQ3 b hb hl) (Nat.lt_of_lt_of_le hl M3.size), fun b hb => (tQ3 b (tQ4 b hb)).elim id (uQ b), uQ4, fun hb => nb3 (tQ4 _ hb), hO4, MRow.nil _ _ _ _ _⟩; refine (hBr.md0 hm3).md hm4 fun hb => ?_; obtain ⟨c, hc⟩ := own_typed (hO3.md0 hm3).1.choose_spec.1 br (by simpa using hb); exact absurd (blk_type (hBr.md0 hm3) hc) (by decide)
        · have e22 := of_decide_eq_false h22
          refine c_skip ?_; refine c_then ?_; refine ns ?_; refine mv rfl ?_; refine st_convSB (s := s) u9 u57 u5 rfl (by simp only [maxLen]; omega) ?_; intro vb w3 hm3 hBy hnb; refine st_call fn29 rfl (kSplit_any (Q := fun _ => True) (fun _ _ => trivial) (Ls.of_by hBy fun _ _ _ => trivial)) ?_; rintro en w4 ⟨pr, c, rfl, hm4, hc, hS⟩; refine ⟨_, rfl, ?_⟩; refine mv rfl ?_; refine st _ (r_extract rfl rfl) ?_; refine st _ (r_extract rfl rfl) ?_; refine st_alloc z33 ?_; intro bp w5 gp lp hm5 hBp; refine st_storeAgg (b := bp) (j := 0) (us := Pr.cells pr) rfl rfl (by exact agg33) (fun u hu => one_cells rfl u hu) hBp (Nat.le_refl 2) ?_; intro w6 hm6 hBp6; refine asg rfl ?_; refine nt ?_; have hm36 : Md [] w2 w6 := ((hm3.step0 hm4).step0 hm5).step1 hm6 (by have := (hm3.step0 hm4).size; omega); replace I := I.md0 hm36; replace hBr := hBr.md0 hm36; refine c_seq ?_; refine ns ?_; refine mv rfl ?_; refine st _ (r_neN (a := c) (b := 0) rfl rfl) ?_; refine nt ?_; refine c_if rfl (fun h45 => ?_) (fun h45 => ?_)
          · have e45 := of_decide_eq_true h45
            refine ns ?_; refine st _ (r_buildG (us := []) (cs := [.slice none 0 0]) [] z37 pl37 rfl rfl trivial trivial rfl rfl) ?_; refine mv rfl ?_; refine st_storeAgg (b := br) (j := 0) (us := [.slice none 0 0]) rfl rfl (by exact agg37) (by intro u hu; simp at hu; subst hu; rfl) hBr (by decide) ?_; intro wz hmz hBz; refine asg rfl ?_; refine nt ?_; refine c_ret ?_
            repeat (first | refine r_then ?_ | refine r_block ?_)
            exact retL (vs := [.agg (Mat.cells { rows := [] } (.slice none 0 0)).toArray, .int .i64 ((c : Nat) : Int)]) trivial rfl ⟨⟨_, rfl, load_agg (cs := [.slice none 0 0]) (by exact agg37) hBz⟩, rfl, trivial⟩ rfl ⟨.slice none 0 0, { rows := [] }, c, rfl, I.md.step1 hmz gr, Ls.nil _ _ _, by first | omega | decide, (by unfold comF; rw [if_neg e12, ← hF]; exact com_err hs e22 hS e45)⟩
          · have e45 : c = 0 := by simpa using h45
            subst e45; refine c_skip ?_; refine c_then ?_; refine c_region ?_; refine mv rfl ?_; refine st _ (r_loadAll (cs := Pr.cells pr) rfl (by exact agg33) hBp6) ?_; refine st_call fn30 rfl (add_any I.up (fun b hb => Nat.le_trans I.md.size hb) I.mr hA (fun a ha => ⟨(hT a ha).1, by have := (hT a ha).2; omega⟩) (by omega) pr) ?_; rintro en w7 ⟨v', us', rfl, hR7, S7, hm7, hS7⟩; refine ⟨_, rfl, ?_⟩; refine asg rfl ?_; refine st_nil ?_; refine n_block ?_; refine c_then ?_; refine c_region ?_; refine st _ (r_addN (a := k) (b := 1) 9223372036854775808 rfl rfl rfl (by omega)) ?_; refine mv rfl ?_; refine nt ?_; refine next6 (x0 := vr) (x1 := rows) (x2 := v') (x3 := putA row pr) (x4 := us') (x5 := k + 1) (by omega) ⟨fitI rfl (by omega), rfl, rfl, rfl, rfl, rfl, rfl, trivial⟩ ⟨by omega, ?_, ⟨putA_rises hA, putA_mem hT, by have := putA_len row pr; omega, by omega⟩, (com_word hs e22 hS).symm.trans hF, _, I.put (by decide) (by decide) hm7 (fun b hb => hS7 b hb) hR7⟩; refine hBr.md hm7 fun hb => ?_; obtain ⟨_, _, c, hc | hc⟩ := hS7 br hb
            · exact absurd (blk_type hBr hc) (by decide)
            · exact absurd (blk_type hBr hc) (by decide)
      · have e17 := of_decide_eq_false h17
        refine c_exit ?_; refine x_then ?_; refine x_then ?_; refine x_hit ?_; refine c_then ?_; rw [com_end e17] at hF; refine c_seq ?_; refine ns ?_; refine mv rfl ?_; refine st _ (r_len rfl u42 I.mr.shp) ?_; refine st _ (r_gtN (a := row.length) (b := 0) rfl rfl) ?_; refine nt ?_; refine c_if rfl (fun h54 => ?_) (fun h54 => ?_)
        · have e54 := of_decide_eq_true h54
          obtain ⟨Q3, sQ3, tQ3, uQ3, nb3, hO3, hL3⟩ := I.freeze (by decide) (by decide) hBr (by decide) (by decide); refine c_region ?_; refine mv rfl ?_; refine mv rfl ?_; refine st_buildSlice (vs := [v]) u35 elT42 (by decide) rfl rfl rfl ⟨hL3.oneCell, trivial⟩ (by decide) ?_; intro bs w3 gs ls hm3 hBs; refine st_apZ (T := tSl tAlt) (ys := [row]) rfl u35 elT42 rfl rfl (hO3.md0 hm3) ⟨some ⟨bs, 0, none⟩, 1, [v], rfl, Nat.le_refl _, by decide, by simp, fun p hp j u hu => (by cases hp; rw [Addr.add_mk, Nat.zero_add, hBs.cell]; exact hu), [v], [], rfl, ⟨v, rfl, hL3.md0 hm3⟩, rfl⟩ (uQ3.md hm3) (fun b hb => Nat.le_trans (Nat.le_trans I.md.size hm3.size) hb) (by simp only [List.length_singleton]; omega) (by simp only [List.length_singleton]; omega) ?_; intro v' w4 Q4 sQ4 tQ4 uQ4 hO4 hm4 hn4 hl4 hv4; refine asg rfl ?_; refine nt ?_; have M3 := I.md.step0 hm3; have gvr : ∀ b, vblock vr = some b → w.heap.size ≤ b := fun b hb => (I.ow.2 b hb).1; have M4 : Md [] w w4 := M3.step hm4 (fun i hi => .inr (gvr i (by simpa using hi)))
          replace hBr := (hBr.md0 hm3).md hm4 (fun hb => by
            obtain ⟨c, hc⟩ := own_typed (hO3.md0 hm3).1.choose_spec.1 br (by simpa using hb); exact absurd (blk_type (hBr.md0 hm3) hc) (by decide))
          have hne : ∀ b, vblock v' = some b → b ∉ [br] := fun b hb hm => by
            simp only [List.mem_singleton] at hm; subst hm; obtain ⟨c, hc⟩ := own_typed hO4.1.choose_spec.1 b hb; exact absurd (blk_type hBr hc) (by decide)
          refine ns ?_; refine mv rfl ?_; refine st _ (r_buildG (us := [[v']]) (cs := [v']) [(0, 0, 1)] z37 pl37 rfl rfl ⟨cells_one hO4.oneCell, trivial⟩ ⟨rfl, trivial⟩ rfl rfl) ?_; refine st_storeAgg (b := br) (j := 0) (us := [v']) rfl rfl (by exact agg37) (by intro u hu; simp at hu; subst hu; exact hO4.oneCell) hBr (Nat.le_refl 1) ?_; intro wz hmz hBz; refine asg rfl ?_; refine nt ?_; refine c_ret ?_
          repeat (first | refine r_then ?_ | refine r_block ?_)
          exact retL (vs := [.agg (Mat.cells { rows := rows ++ [row] } v').toArray, .int .i64 ((0 : Nat) : Int)]) trivial rfl ⟨⟨_, rfl, load_agg (cs := [v']) (by exact agg37) hBz⟩, rfl, trivial⟩ rfl ⟨v', { rows := rows ++ [row] }, 0, rfl, M4.step1 hmz gr, ((hO4.md hmz hne (by intro b hb; simp only [List.mem_singleton] at hb; subst hb; exact fun hq => nb3 (tQ4 _ hq))).ls (fun b hb => (tQ3 b (tQ4 b hb)).elim id (uQ b)) (fun b hb => uQ b hb)), by decide, (by unfold comF; rw [if_neg e12, ← hF, if_pos e54])⟩
        · have e54 := of_decide_eq_false h54
          refine c_skip ?_; refine c_then ?_
          have hne : ∀ b, vblock vr = some b → b ∉ [br] := fun b hb hm => by
            simp only [List.mem_singleton] at hm; subst hm; obtain ⟨c, hc⟩ := own_typed I.ow.1.choose_spec.1 b hb; exact absurd (blk_type hBr hc) (by decide)
          refine ns ?_; refine mv rfl ?_; refine st _ (r_buildG (us := [[vr]]) (cs := [vr]) [(0, 0, 1)] z37 pl37 rfl rfl ⟨cells_one I.ow.oneCell, trivial⟩ ⟨rfl, trivial⟩ rfl rfl) ?_; refine st_storeAgg (b := br) (j := 0) (us := [vr]) rfl rfl (by exact agg37) (by intro u hu; simp at hu; subst hu; exact I.ow.oneCell) hBr (Nat.le_refl 1) ?_; intro wz hmz hBz; refine asg rfl ?_; refine nt ?_; refine c_ret ?_
          repeat (first | refine r_then ?_ | refine r_block ?_)
          exact retL (vs := [.agg (Mat.cells { rows := rows } vr).toArray, .int .i64 ((0 : Nat) : Int)]) trivial rfl ⟨⟨_, rfl, load_agg (cs := [vr]) (by exact agg37) hBz⟩, rfl, trivial⟩ rfl ⟨vr, { rows := rows }, 0, rfl, I.md.step1 hmz gr, ((I.ow.md hmz hne (by intro b hb; simp only [List.mem_singleton] at hb; subst hb; exact I.nb)).ls I.t (fun b hb => uQ b hb)), by decide, (by unfold comF; rw [if_neg e12, ← hF, if_neg e54])⟩

end Go.Proofs.Ytimhhcacjiombaa
namespace Go.Proofs.Ytimhhcacjiombaa
open Go Go.Wk Go.RowKit
set_option linter.unusedVariables false
set_option linter.unusedSimpArgs false
attribute [local irreducible] wpList wpQuiet wpStill wpMix Code.wp Calls bodyPost
theorem el33 : elemIs Try.prog 33 2 = true := by kernel_rfl
theorem el42 : elemIs Try.prog 42 1 = true := by kernel_rfl
theorem fn31 : isFn Try.prog 31 = true := by kernel_rfl
theorem fn32 : isFn Try.prog 32 = true := by kernel_rfl
theorem fn33 : isFn Try.prog 33 = true := by kernel_rfl
theorem fn53 : isFn Try.prog 53 = true := by kernel_rfl
theorem fn54 : isFn Try.prog 54 = true := by kernel_rfl
theorem fn64 : isFn Try.prog 64 = true := by kernel_rfl
theorem off37_0 : fieldOff Try.prog 37 0 = some 0 := by kernel_rfl
theorem one29 : isOne Try.prog 29 = true := by kernel_rfl
theorem one35 : isOne Try.prog 35 = true := by kernel_rfl
theorem one42 : isOne Try.prog 42 = true := by kernel_rfl

theorem kIdxS_any {w : World} {Q : Nat → Prop} (uQ : Up w Q) {v0 : Value} {l : List (List UInt8)} (h0 : Ls tStr w Q v0 l) (s : List UInt8) :
    Calls Try.prog 64 #[v0, (str s)] w fun en w' => ∃ r0 : Int, en = .returned (.int .i64 (r0 : Int)) ∧ Md [] w w' ∧ (-9223372036854775808 ≤ r0 ∧ r0 < 9223372036854775808) ∧ idxS s l 0 = r0 := by
  have L0 := h0.len63; have M := Md.refl [] w; have uQ0 := uQ; have tQ : ∀ b, Q b → Q b := fun _ h => h; have sQ0 : ∀ b, Q b → b < w.heap.size → Q b := fun _ h _ => h; refine enter (n := 19) Try.func64 rfl rfl rfl ?_; intro B; refine ns ?_; refine asg rfl ?_; refine nt ?_; refine c_seq ?_; refine ns ?_; refine mv rfl ?_; refine st _ (r_len rfl u24 h0.shp) ?_; refine mv rfl ?_; refine nt ?_; refine c_block ?_; obtain ⟨r0, hr00⟩ : ∃ r, idxS s l 0 = r := ⟨_, rfl⟩; have hr0o := hr00
  try simp only [List.nil_append] at hr00
  refine loop1 (fun (i : Nat) => [(8, (.int .i64 ((i : Nat) : Int))), (0, v0), (1, (str s)), (7, (.int .i64 ((l.length : Nat) : Int)))]) (fun (i : Nat) w' => ∃ Q' : Nat → Prop, (∀ b, Q' b → Q b) ∧ (∀ b, Q b → b < w.heap.size → Q' b) ∧ Up w' Q' ∧ Md [] w w' ∧ Ls tStr w' Q' v0 l ∧ idxS s (l.drop i) i = r0) (fun (i : Nat) => l.length - i) (x0 := 0) ?_ ?_ ?_
  · exact ⟨rfl, rfl, rfl, rfl, trivial⟩
  · exact ⟨Q, tQ, sQ0, uQ, M, h0, (by have hh := hr00; first | exact hh | exact hr0o | (simp only [List.nil_append] at hh; exact hh))⟩
  · clear M uQ tQ sQ0 h0
    rintro i B w1 ⟨Q2, tQ, sQ0, uQ, M, h0, hr0⟩; refine ns ?_; refine st _ (r_ltN (a := i) (b := l.length) rfl rfl) ?_; refine nt ?_; refine c_seq ?_; refine c_if rfl (fun h9 => ?_) (fun h9 => ?_)
    · (first | (have h9n := of_decide_eq_true h9) | (have h9n := of_decide_eq_false (bnt h9)) | (have h9n := bnt h9) | (have h9n := h9)); refine c_skip ?_; refine c_then ?_; refine c_seq ?_; refine c_block ?_; refine ns ?_; refine mv rfl ?_; refine asg rfl ?_; refine nt ?_; refine ns ?_; refine mv rfl ?_; refine mv rfl ?_; refine mv rfl ?_; refine st _ (r_indexN (i := i) 1 rfl rfl u24 el9 h0.shp (by omega)) ?_; obtain ⟨x3, hx3⟩ := getE (l := l) (i := i) (by first | omega | (simp <;> omega)); obtain ⟨c4, hr3, ha3⟩ := h0.get hx3; obtain ⟨rfl, _⟩ := hr3; replace ha3 : At _ v0 (i * 1) [(str x3)] := ha3; refine st _ ((r_loadE (kk := i * 1) 0 rfl rfl one9 ha3 rfl).to (b := (str x3)) rfl) ?_; refine st _ (r_eqlS (a := s) (b := x3) rfl rfl) ?_; refine st_nil ?_; clear ha3; refine c_then ?_; refine c_if rfl (fun h16 => ?_) (fun h16 => ?_)
      · (first | (have h16n := of_decide_eq_true h16) | (have h16n := of_decide_eq_false (bnt h16)) | (have h16n := bnt h16) | (have h16n := h16)); refine ns ?_; refine mv rfl ?_; refine asg rfl ?_; refine nt ?_; refine c_ret ?_; refine r_block ?_; refine r_then ?_; refine r_then ?_; refine r_block ?_; refine r_then ?_; exact ret1L (v := (.int .i64 (((i : Nat) : Int) : Int))) trivial rfl ⟨rfl, trivial⟩ ⟨((i : Nat) : Int), rfl, M, (by first | assumption | omega | simp_all), (by (try (simp (disch := first | omega | assumption | (simp; done) | fail) only [idxS_end, idxS_step hx3, if_pos, if_neg, Option.getD_some, Option.some.injEq, reduceIte, Bool.false_eq_true, Bool.true_eq_false, decide_true, decide_false, not_true_eq_false, not_false_eq_true, h9n, hx3, h16n] at hr0)); simp (disch := first | omega | assumption | (simp; done) | fail) only [if_pos, if_neg, Option.getD_some, Option.some.injEq, reduceIte, Bool.false_eq_true, Bool.true_eq_false, decide_true, decide_false, not_true_eq_false, not_false_eq_true, hr00, h9n, hx3, ← hr0])⟩
      · (first | (have h16n := of_decide_eq_false h16) | (have h16n := of_decide_eq_true (bnf h16)) | (have h16n := bnf h16) | (have h16n := h16)); refine c_skip ?_; refine n_block ?_; refine c_then ?_; refine c_region ?_; refine st _ (r_addN (a := i) (b := 1) 9223372036854775808 rfl rfl rfl (by omega)) ?_; refine mv rfl ?_; refine nt ?_; refine next1 (x0 := (i + 1)) (by omega) ⟨(fitI rfl (by omega)), rfl, rfl, rfl, trivial⟩ ⟨Q2, tQ, sQ0, uQ, M, h0, (by have hh := hr0; simp (disch := first | omega | assumption | (simp; done) | fail) only [idxS_end, idxS_step hx3, if_pos, if_neg, Option.getD_some, Option.some.injEq, reduceIte, Bool.false_eq_true, Bool.true_eq_false, decide_true, decide_false, not_true_eq_false, not_false_eq_true, h9n, hx3, h16n] at hh; first | exact hh | (simp only [List.append_assoc, List.cons_append, List.nil_append, List.singleton_append] at hh ⊢; exact hh))⟩
    · (first | (have h9n := of_decide_eq_false h9) | (have h9n := of_decide_eq_true (bnf h9)) | (have h9n := bnf h9) | (have h9n := h9)); refine c_exit ?_; refine x_then ?_; refine x_then ?_; refine x_hit ?_; refine c_then ?_; refine ns ?_; refine asg rfl ?_; refine nt ?_; refine c_ret ?_; exact ret1L (v := (.int .i64 ((-1) : Int))) trivial rfl ⟨rfl, trivial⟩ ⟨(-1), rfl, M, (by first | assumption | omega | simp_all), (by (try (simp (disch := first | omega | assumption | (simp; done) | fail) only [idxS_end, if_pos, if_neg, Option.getD_some, Option.some.injEq, reduceIte, Bool.false_eq_true, Bool.true_eq_false, decide_true, decide_false, not_true_eq_false, not_false_eq_true, h9n] at hr0)); simp (disch := first | omega | assumption | (simp; done) | fail) only [if_pos, if_neg, Option.getD_some, Option.some.injEq, reduceIte, Bool.false_eq_true, Bool.true_eq_false, decide_true, decide_false, not_true_eq_false, not_false_eq_true, hr00, h9n, ← hr0])⟩
theorem kHasS_any {w : World} {Q : Nat → Prop} (uQ : Up w Q) {v0 : Value} {l : List (List UInt8)} (h0 : Ls tStr w Q v0 l) (s : List UInt8) :
    Calls Try.prog 54 #[v0, (str s)] w fun en w' => ∃ r0 : Bool, en = .returned (.bool r0) ∧ Md [] w w' ∧ hasS s l = r0 := by
  have L0 := h0.len63; have M := Md.refl [] w; have uQ0 := uQ; have tQ : ∀ b, Q b → Q b := fun _ h => h; have sQ0 : ∀ b, Q b → b < w.heap.size → Q b := fun _ h _ => h; refine enter (n := 9) Try.func54 rfl rfl rfl ?_; intro B; refine ns ?_; refine asg rfl ?_; refine nt ?_; refine ns ?_; refine mv rfl ?_; refine mv rfl ?_; refine st_call fn64 rfl (kIdxS_any uQ h0 s) ?_; rintro en w1 ⟨x1_0, rfl, hm, q1_0, hF1⟩; refine ⟨_, rfl, ?_⟩; replace h0 := h0.md0 hm; replace uQ := uQ.md hm; replace M := M.step0 hm; refine st _ (r_ge (a := x1_0) (b := 0) rfl rfl) ?_; refine asg rfl ?_; refine nt ?_; refine c_ret ?_; exact ret1L (v := (.bool ((decide (0 ≤ x1_0))))) trivial rfl ⟨rfl, trivial⟩ ⟨(decide (0 ≤ x1_0)), rfl, M, (by rw [← idxS_has s l 0, hF1])⟩
theorem kHasV_any {w : World} {Q : Nat → Prop} (uQ : Up w Q) {v0_0 : Value} (a : Alt) (a0_0 : Ls tStr w Q v0_0 a.values) {v1 : Value} {l : List Pr} (h1 : Ls tPr w Q v1 l) :
    Calls Try.prog 33 #[.agg (Alt.cells a v0_0).toArray, v1] w fun en w' => ∃ r0 : Bool, en = .returned (.bool r0) ∧ Md [] w w' ∧ hasV a l = r0 := by
  have L1 := h1.len63; have M := Md.refl [] w; have uQ0 := uQ; have tQ : ∀ b, Q b → Q b := fun _ h => h; have sQ0 : ∀ b, Q b → b < w.heap.size → Q b := fun _ h _ => h; refine enter (n := 26) Try.func33 rfl rfl rfl ?_; intro B; refine ns ?_; refine st_box (cs := (Alt.cells a v0_0)) rfl rfl ?_; intro ba2 w1 ga2 la2 hm ha2; have n_ha2 := uQ _ ga2; replace ga2 := Nat.le_trans M.size ga2; replace a0_0 := a0_0.md0 hm; replace h1 := h1.md0 hm; replace uQ := uQ.md hm; replace M := M.step0 hm; have p_ha2 : Fsh [] w ba2 := .inr ga2; refine asg rfl ?_; refine nt ?_; refine c_seq ?_; refine ns ?_; refine mv rfl ?_; refine st _ (r_len rfl u29 h1.shp) ?_; refine mv rfl ?_; refine nt ?_; refine c_block ?_; obtain ⟨r0, hr00⟩ : ∃ r, hasV a l = r := ⟨_, rfl⟩; have hr0o := hr00
  try simp only [List.nil_append] at hr00
  refine loop1 (fun (i : Nat) => [(9, (.int .i64 ((i : Nat) : Int))), (2, (.pointer (some ⟨ba2, 0, none⟩))), (7, v1), (8, (.int .i64 ((l.length : Nat) : Int)))]) (fun (i : Nat) w' => ∃ Q' : Nat → Prop, (∀ b, Q' b → Q b) ∧ (∀ b, Q b → b < w.heap.size → Q' b) ∧ Up w' Q' ∧ Md [] w w' ∧ Blk w' ba2 (Alt.cells a v0_0) 44 ∧ Ls tPr w' Q' v1 l ∧ Ls tStr w' Q' v0_0 a.values ∧ Q' ba2 ∧ hasV a (l.drop i) = r0) (fun (i : Nat) => l.length - i) (x0 := 0) ?_ ?_ ?_
  · exact ⟨rfl, rfl, rfl, rfl, trivial⟩
  · exact ⟨Q, tQ, sQ0, uQ, M, ha2, h1, a0_0, n_ha2, (by have hh := hr00; first | exact hh | exact hr0o | (simp only [List.nil_append] at hh; exact hh))⟩
  · clear M uQ tQ sQ0 n_ha2 a0_0 h1 ha2
    rintro i B w2 ⟨Q3, tQ, sQ0, uQ, M, ha2, h1, a0_0, n_ha2, hr0⟩; refine ns ?_; refine st _ (r_ltN (a := i) (b := l.length) rfl rfl) ?_; refine nt ?_; refine c_seq ?_; refine c_if rfl (fun h10 => ?_) (fun h10 => ?_)
    · (first | (have h10n := of_decide_eq_true h10) | (have h10n := of_decide_eq_false (bnt h10)) | (have h10n := bnt h10) | (have h10n := h10)); refine c_skip ?_; refine c_then ?_; refine c_seq ?_; refine c_block ?_; refine ns ?_; refine st _ (r_indexN (i := i) 2 rfl rfl u29 el33 h1.shp (by omega)) ?_; obtain ⟨x4, hx4⟩ := getE (l := l) (i := i) (by first | omega | (simp <;> omega)); obtain ⟨c5, hr4, ha4⟩ := h1.get hx4; obtain ⟨_, rfl⟩ := tPr_un hr4; replace ha4 : At _ v1 (i * 2) (Pr.cells x4) := ha4; refine st _ (r_loadEA (kk := i * 2) (Pr.cells x4) 0 rfl rfl (by exact agg33) ha4 rfl) ?_; refine st_alloc z33 ?_; intro ba6 w6 ga6 la6 hm ha6; have eha2a6 : ba2 ≠ ba6 := (by have := ha2.lt; omega); obtain ⟨Q7, sQ, sT, n_ha6, uQ2⟩ := exQ uQ ga6 la6 hm; replace n_ha2 := sQ _ n_ha2 ha2.lt; replace h1 := h1.sub sQ; replace a0_0 := a0_0.sub sQ; replace tQ := fun b hb => tQ b (sT b hb); replace sQ0 := fun b hb hl => sQ b (sQ0 b hb hl) (Nat.lt_of_lt_of_le hl M.size); replace ga6 := Nat.le_trans M.size ga6; replace ha2 := ha2.md0 hm; replace h1 := h1.md0 hm; replace a0_0 := a0_0.md0 hm; replace ha4 := ha4.md0 hm; replace uQ := uQ.md hm; replace M := M.step0 hm; clear uQ; have uQ := uQ2; clear uQ2 sQ sT; have p_ha6 : Fsh [] w ba6 := .inr ga6; replace ha6 : Blk _ _ (Pr.cells (({ name := [], value := [] } : Pr))) _ := ha6; refine st_storeAgg (us := (Pr.cells x4)) rfl rfl (by exact agg33) (by first | exact fun u hu => one_cells (Pr.one ) u hu | exact fun u hu => one_cells rfl u hu) ha6 (Nat.le_of_ble_eq_true rfl) ?_; have ha60 := ha6; clear ha6; intro w8 hm ha6; have hS : ∀ b ∈ [ba6], ¬ Q7 b := (by intro b hb; simp at hb; subst hb; exact n_ha6); replace ha2 := ha2.md hm (by intro hb; simp at hb; omega); replace h1 := h1.md hm hS; replace a0_0 := a0_0.md hm hS; clear ha4; replace uQ := uQ.md hm; replace M := M.step hm (all_cons p_ha6 all_nil); clear ha60 hS; replace ha6 : Blk _ _ (Pr.cells x4) _ := ha6; refine nt ?_; refine ns ?_; refine st _ (r_field rfl off33_0) ?_; refine st _ ((r_loadBlk rfl one9 ha6 rfl).to (b := (str x4.name)) rfl) ?_; refine st _ (r_field rfl off44_0) ?_; refine st _ ((r_loadBlk rfl one9 ha2 rfl).to (b := (str a.name)) rfl) ?_; refine st _ (r_eqlS (a := x4.name) (b := a.name) rfl rfl) ?_; refine mv rfl ?_; refine part_n (t := 18) rfl (fun h18 => ?_) (fun h18 => ?_)
      · (first | (have h18n := of_decide_eq_true h18) | (have h18n := of_decide_eq_false (bnt h18)) | (have h18n := bnt h18) | (have h18n := h18)); refine st_g _ rfl rfl rfl h18 (r_field rfl off44_1) ?_; refine st_g _ rfl rfl rfl h18 ((r_loadBlk rfl one24 ha2 rfl).to (b := v0_0) rfl) ?_; refine st_g _ rfl rfl rfl h18 (r_field rfl off33_1) ?_; refine st_g _ rfl rfl rfl h18 ((r_loadBlk rfl one9 ha6 rfl).to (b := (str x4.value)) rfl) ?_; refine st_call_g rfl rfl rfl h18 fn54 rfl (kHasS_any uQ a0_0 x4.value) ?_; rintro en w9 ⟨x9_0, rfl, hm, hF9⟩; refine ⟨_, rfl, ?_⟩; replace ha2 := ha2.md0 hm; replace h1 := h1.md0 hm; replace a0_0 := a0_0.md0 hm; replace ha6 := ha6.md0 hm; replace uQ := uQ.md hm; replace M := M.step0 hm; refine st _ (r_pick_t rfl h18 rfl) ?_; refine nt ?_; refine c_if rfl (fun h24 => ?_) (fun h24 => ?_)
        · (first | (have h24n := of_decide_eq_true h24) | (have h24n := of_decide_eq_false (bnt h24)) | (have h24n := bnt h24) | (have h24n := h24)); refine ns ?_; refine asg rfl ?_; refine nt ?_; refine c_ret ?_; refine r_block ?_; refine r_then ?_; refine r_then ?_; refine r_block ?_; refine r_then ?_; exact ret1L (v := (.bool true)) trivial rfl ⟨rfl, trivial⟩ ⟨true, rfl, M, (by (try (simp (disch := first | omega | assumption | (simp; done) | fail) only [hasV_end, hasV_step hx4, if_pos, if_neg, Option.getD_some, Option.some.injEq, reduceIte, Bool.false_eq_true, Bool.true_eq_false, decide_true, decide_false, not_true_eq_false, not_false_eq_true, h10n, hx4, h18n, hF9, h24n] at hr0)); simp (disch := first | omega | assumption | (simp; done) | fail) only [if_pos, if_neg, Option.getD_some, Option.some.injEq, reduceIte, Bool.false_eq_true, Bool.true_eq_false, decide_true, decide_false, not_true_eq_false, not_false_eq_true, hr00, h10n, hx4, h18n, hF9, h24n, ← hr0])⟩
        · (first | (have h24n := of_decide_eq_false h24) | (have h24n := of_decide_eq_true (bnf h24)) | (have h24n := bnf h24) | (have h24n := h24)); refine c_skip ?_; refine n_block ?_; refine c_then ?_; refine c_region ?_; refine st _ (r_addN (a := i) (b := 1) 9223372036854775808 rfl rfl rfl (by omega)) ?_; refine mv rfl ?_; refine nt ?_; refine next1 (x0 := (i + 1)) (by omega) ⟨(fitI rfl (by omega)), rfl, rfl, rfl, trivial⟩ ⟨Q7, tQ, sQ0, uQ, M, ha2, h1, a0_0, n_ha2, (by have hh := hr0; simp (disch := first | omega | assumption | (simp; done) | fail) only [hasV_end, hasV_step hx4, if_pos, if_neg, Option.getD_some, Option.some.injEq, reduceIte, Bool.false_eq_true, Bool.true_eq_false, decide_true, decide_false, not_true_eq_false, not_false_eq_true, h10n, hx4, h18n, hF9, h24n] at hh; first | exact hh | (simp only [List.append_assoc, List.cons_append, List.nil_append, List.singleton_append] at hh ⊢; exact hh))⟩
      · (first | (have h18n := of_decide_eq_false h18) | (have h18n := of_decide_eq_true (bnf h18)) | (have h18n := bnf h18) | (have h18n := h18)); refine st_skip rfl rfl rfl h18 ?_; refine st_skip rfl rfl rfl h18 ?_; refine st_skip rfl rfl rfl h18 ?_; refine st_skip rfl rfl rfl h18 ?_; refine st_skip rfl rfl rfl h18 ?_; refine st _ (r_pick_f rfl h18 rfl) ?_; refine nt ?_; refine c_if_f rfl rfl ?_; refine c_skip ?_; refine n_block ?_; refine c_then ?_; refine c_region ?_; refine st _ (r_addN (a := i) (b := 1) 9223372036854775808 rfl rfl rfl (by omega)) ?_; refine mv rfl ?_; refine nt ?_; refine next1 (x0 := (i + 1)) (by omega) ⟨(fitI rfl (by omega)), rfl, rfl, rfl, trivial⟩ ⟨Q7, tQ, sQ0, uQ, M, ha2, h1, a0_0, n_ha2, (by have hh := hr0; simp (disch := first | omega | assumption | (simp; done) | fail) only [hasV_end, hasV_step hx4, if_pos, if_neg, Option.getD_some, Option.some.injEq, reduceIte, Bool.false_eq_true, Bool.true_eq_false, decide_true, decide_false, not_true_eq_false, not_false_eq_true, h10n, hx4, h18n] at hh; first | exact hh | (simp only [List.append_assoc, List.cons_append, List.nil_append, List.singleton_append] at hh ⊢; exact hh))⟩
    · (first | (have h10n := of_decide_eq_false h10) | (have h10n := of_decide_eq_true (bnf h10)) | (have h10n := bnf h10) | (have h10n := h10)); refine c_exit ?_; refine x_then ?_; refine x_then ?_; refine x_hit ?_; refine c_then ?_; refine ns ?_; refine asg rfl ?_; refine nt ?_; refine c_ret ?_; exact ret1L (v := (.bool false)) trivial rfl ⟨rfl, trivial⟩ ⟨false, rfl, M, (by (try (simp (disch := first | omega | assumption | (simp; done) | fail) only [hasV_end, if_pos, if_neg, Option.getD_some, Option.some.injEq, reduceIte, Bool.false_eq_true, Bool.true_eq_false, decide_true, decide_false, not_true_eq_false, not_false_eq_true, h10n] at hr0)); simp (disch := first | omega | assumption | (simp; done) | fail) only [if_pos, if_neg, Option.getD_some, Option.some.injEq, reduceIte, Bool.false_eq_true, Bool.true_eq_false, decide_true, decide_false, not_true_eq_false, not_false_eq_true, hr00, h10n, ← hr0])⟩
theorem kHold1_any {w : World} {Q : Nat → Prop} (uQ : Up w Q) {v0_0 : Value} (a : Alt) (a0_0 : Ls tStr w Q v0_0 a.values) {v1 : Value} {l : List Pr} (h1 : Pt (tSl tPr) 29 w Q v1 l) :
    Calls Try.prog 32 #[.agg (Alt.cells a v0_0).toArray, v1] w fun en w' => ∃ r0 : Bool, en = .returned (.bool r0) ∧ Md [] w w' ∧ (!hasV a l) = r0 := by
  obtain ⟨bh1, ch1, rfl, n_h1, h1, rh1⟩ := h1; obtain ⟨v1, rfl, hd2⟩ := rh1; have M := Md.refl [] w; have uQ0 := uQ; have tQ : ∀ b, Q b → Q b := fun _ h => h; have sQ0 : ∀ b, Q b → b < w.heap.size → Q b := fun _ h _ => h; refine enter (n := 8) Try.func32 rfl rfl rfl ?_; intro B; refine ns ?_; refine st_box (cs := (Alt.cells a v0_0)) rfl rfl ?_; intro ba2 w3 ga2 la2 hm ha2; have eh1a2 : bh1 ≠ ba2 := (by have := h1.lt; omega); have n_ha2 := uQ _ ga2; replace ga2 := Nat.le_trans M.size ga2; replace a0_0 := a0_0.md0 hm; replace hd2 := hd2.md0 hm; replace h1 := h1.md0 hm; replace uQ := uQ.md hm; replace M := M.step0 hm; have p_ha2 : Fsh [] w ba2 := .inr ga2; refine asg rfl ?_; refine nt ?_; refine ns ?_; refine st _ (r_loadPart (Alt.cells a v0_0) rfl (by exact agg44) ha2 rfl) ?_; refine st _ ((r_loadBlk rfl one29 h1 rfl).to (b := v1) rfl) ?_; refine st_call fn33 rfl (kHasV_any uQ a a0_0 hd2) ?_; rintro en w4 ⟨x4_0, rfl, hm, hF4⟩; refine ⟨_, rfl, ?_⟩; replace a0_0 := a0_0.md0 hm; replace hd2 := hd2.md0 hm; replace h1 := h1.md0 hm; replace ha2 := ha2.md0 hm; replace uQ := uQ.md hm; replace M := M.step0 hm; refine st _ (r_not rfl) ?_; refine asg rfl ?_; refine nt ?_; refine c_ret ?_; exact ret1L (v := (.bool (!x4_0))) trivial rfl ⟨rfl, trivial⟩ ⟨!x4_0, rfl, M, (by rw [hF4])⟩
theorem kIdxF_any {w : World} {Q : Nat → Prop} (uQ : Up w Q) {v0 : Value} {xs : List Alt} (h0 : Ls tAlt w Q v0 xs) {v1_0 : Value} {l : List Pr} (h1_0 : Pt (tSl tPr) 29 w Q v1_0 l) :
    Calls Try.prog 53 #[v0, .func (.func 32) #[] #[v1_0]] w fun en w' => ∃ r0 : Int, en = .returned (.int .i64 (r0 : Int)) ∧ Md [] w w' ∧ (-9223372036854775808 ≤ r0 ∧ r0 < 9223372036854775808) ∧ idxN l xs 0 = r0 := by
  have L0 := h0.len63; have M := Md.refl [] w; have uQ0 := uQ; have tQ : ∀ b, Q b → Q b := fun _ h => h; have sQ0 : ∀ b, Q b → b < w.heap.size → Q b := fun _ h _ => h; refine enter (n := 19) Try.func53 rfl rfl rfl ?_; intro B; refine ns ?_; refine asg rfl ?_; refine nt ?_; refine c_seq ?_; refine ns ?_; refine mv rfl ?_; refine st _ (r_len rfl u42 h0.shp) ?_; refine mv rfl ?_; refine nt ?_; refine c_block ?_; obtain ⟨r0, hr00⟩ : ∃ r, idxN l xs 0 = r := ⟨_, rfl⟩; have hr0o := hr00
  try simp only [List.nil_append] at hr00
  refine loop1 (fun (i : Nat) => [(8, (.int .i64 ((i : Nat) : Int))), (0, v0), (1, (.func (.func 32) #[] #[v1_0])), (7, (.int .i64 ((xs.length : Nat) : Int)))]) (fun (i : Nat) w' => ∃ Q' : Nat → Prop, (∀ b, Q' b → Q b) ∧ (∀ b, Q b → b < w.heap.size → Q' b) ∧ Up w' Q' ∧ Md [] w w' ∧ Ls tAlt w' Q' v0 xs ∧ Pt (tSl tPr) 29 w' Q' v1_0 l ∧ idxN l (xs.drop i) i = r0) (fun (i : Nat) => xs.length - i) (x0 := 0) ?_ ?_ ?_
  · exact ⟨rfl, rfl, rfl, rfl, trivial⟩
  · exact ⟨Q, tQ, sQ0, uQ, M, h0, h1_0, (by have hh := hr00; first | exact hh | exact hr0o | (simp only [List.nil_append] at hh; exact hh))⟩
  · clear M uQ tQ sQ0 h0 h1_0
    rintro i B w1 ⟨Q2, tQ, sQ0, uQ, M, h0, h1_0, hr0⟩; refine ns ?_; refine st _ (r_ltN (a := i) (b := xs.length) rfl rfl) ?_; refine nt ?_; refine c_seq ?_; refine c_if rfl (fun h9 => ?_) (fun h9 => ?_)
    · (first | (have h9n := of_decide_eq_true h9) | (have h9n := of_decide_eq_false (bnt h9)) | (have h9n := bnt h9) | (have h9n := h9)); refine c_skip ?_; refine c_then ?_; refine c_seq ?_; refine c_block ?_; refine ns ?_; refine mv rfl ?_; refine asg rfl ?_; refine nt ?_; refine ns ?_; refine mv rfl ?_; refine mv rfl ?_; refine mv rfl ?_; refine st _ (r_indexN (i := i) 2 rfl rfl u42 el44 h0.shp (by omega)) ?_; obtain ⟨x3, hx3⟩ := getE (l := xs) (i := i) (by first | omega | (simp <;> omega)); obtain ⟨c4, hr3, ha3⟩ := h0.get hx3; obtain ⟨v5, rfl, hd6⟩ := tAlt_un hr3; replace ha3 : At _ v0 (i * 2) (Alt.cells x3 v5) := ha3; refine st _ (r_loadEA (kk := i * 2) (Alt.cells x3 v5) 0 rfl rfl (by exact agg44) ha3 rfl) ?_; refine st_callV (cs := [v1_0]) rfl fn32 rfl (kHold1_any uQ x3 hd6 h1_0) ?_; rintro en w7 ⟨x7_0, rfl, hm, hF7⟩; refine ⟨_, rfl, ?_⟩; replace h0 := h0.md0 hm; replace h1_0 := h1_0.md0 hm; replace hd6 := hd6.md0 hm; replace ha3 := ha3.md0 hm; replace uQ := uQ.md hm; replace M := M.step0 hm; refine st_nil ?_; clear ha3; refine c_then ?_; refine c_if rfl (fun h16 => ?_) (fun h16 => ?_)
      · (first | (have h16n := of_decide_eq_true h16) | (have h16n := of_decide_eq_false (bnt h16)) | (have h16n := bnt h16) | (have h16n := h16)); have hv16 := hF7.trans h16n; simp only [Bool.not_eq_true', Bool.not_eq_false'] at hv16; refine ns ?_; refine mv rfl ?_; refine asg rfl ?_; refine nt ?_; refine c_ret ?_; refine r_block ?_; refine r_then ?_; refine r_then ?_; refine r_block ?_; refine r_then ?_; exact ret1L (v := (.int .i64 (((i : Nat) : Int) : Int))) trivial rfl ⟨rfl, trivial⟩ ⟨((i : Nat) : Int), rfl, M, (by first | assumption | omega | simp_all), (by (try (simp (disch := first | omega | assumption | (simp; done) | fail) only [idxN_end, idxN_step hx3, if_pos, if_neg, Option.getD_some, Option.some.injEq, reduceIte, Bool.false_eq_true, Bool.true_eq_false, decide_true, decide_false, not_true_eq_false, not_false_eq_true, h9n, hx3, hF7, h16n, hv16] at hr0)); simp (disch := first | omega | assumption | (simp; done) | fail) only [if_pos, if_neg, Option.getD_some, Option.some.injEq, reduceIte, Bool.false_eq_true, Bool.true_eq_false, decide_true, decide_false, not_true_eq_false, not_false_eq_true, hr00, h9n, hx3, hF7, h16n, hv16, ← hr0])⟩
      · (first | (have h16n := of_decide_eq_false h16) | (have h16n := of_decide_eq_true (bnf h16)) | (have h16n := bnf h16) | (have h16n := h16)); have hv16 := hF7.trans h16n; simp only [Bool.not_eq_true', Bool.not_eq_false'] at hv16; refine c_skip ?_; refine n_block ?_; refine c_then ?_; refine c_region ?_; refine st _ (r_addN (a := i) (b := 1) 9223372036854775808 rfl rfl rfl (by omega)) ?_; refine mv rfl ?_; refine nt ?_; refine next1 (x0 := (i + 1)) (by omega) ⟨(fitI rfl (by omega)), rfl, rfl, rfl, trivial⟩ ⟨Q2, tQ, sQ0, uQ, M, h0, h1_0, (by have hh := hr0; simp (disch := first | omega | assumption | (simp; done) | fail) only [idxN_end, idxN_step hx3, if_pos, if_neg, Option.getD_some, Option.some.injEq, reduceIte, Bool.false_eq_true, Bool.true_eq_false, decide_true, decide_false, not_true_eq_false, not_false_eq_true, h9n, hx3, hF7, h16n, hv16] at hh; first | exact hh | (simp only [List.append_assoc, List.cons_append, List.nil_append, List.singleton_append] at hh ⊢; exact hh))⟩
    · (first | (have h9n := of_decide_eq_false h9) | (have h9n := of_decide_eq_true (bnf h9)) | (have h9n := bnf h9) | (have h9n := h9)); refine c_exit ?_; refine x_then ?_; refine x_then ?_; refine x_hit ?_; refine c_then ?_; refine ns ?_; refine asg rfl ?_; refine nt ?_; refine c_ret ?_; exact ret1L (v := (.int .i64 ((-1) : Int))) trivial rfl ⟨rfl, trivial⟩ ⟨(-1), rfl, M, (by first | assumption | omega | simp_all), (by (try (simp (disch := first | omega | assumption | (simp; done) | fail) only [idxN_end, if_pos, if_neg, Option.getD_some, Option.some.injEq, reduceIte, Bool.false_eq_true, Bool.true_eq_false, decide_true, decide_false, not_true_eq_false, not_false_eq_true, h9n] at hr0)); simp (disch := first | omega | assumption | (simp; done) | fail) only [if_pos, if_neg, Option.getD_some, Option.some.injEq, reduceIte, Bool.false_eq_true, Bool.true_eq_false, decide_true, decide_false, not_true_eq_false, not_false_eq_true, hr00, h9n, ← hr0])⟩
theorem kConF_any {w : World} {Q : Nat → Prop} (uQ : Up w Q) {v0 : Value} {xs : List Alt} (h0 : Ls tAlt w Q v0 xs) {v1_0 : Value} {l : List Pr} (h1_0 : Pt (tSl tPr) 29 w Q v1_0 l) :
    Calls Try.prog 31 #[v0, .func (.func 32) #[] #[v1_0]] w fun en w' => ∃ r0 : Bool, en = .returned (.bool r0) ∧ Md [] w w' ∧ (!allV l xs) = r0 := by
  have L0 := h0.len63; have M := Md.refl [] w; have uQ0 := uQ; have tQ : ∀ b, Q b → Q b := fun _ h => h; have sQ0 : ∀ b, Q b → b < w.heap.size → Q b := fun _ h _ => h; refine enter (n := 9) Try.func31 rfl rfl rfl ?_; intro B; refine ns ?_; refine asg rfl ?_; refine nt ?_; refine ns ?_; refine mv rfl ?_; refine mv rfl ?_; refine st_call fn53 rfl (kIdxF_any uQ h0 h1_0) ?_; rintro en w1 ⟨x1_0, rfl, hm, q1_0, hF1⟩; refine ⟨_, rfl, ?_⟩; replace h0 := h0.md0 hm; replace h1_0 := h1_0.md0 hm; replace uQ := uQ.md hm; replace M := M.step0 hm; refine st _ (r_ge (a := x1_0) (b := 0) rfl rfl) ?_; refine asg rfl ?_; refine nt ?_; refine c_ret ?_; exact ret1L (v := (.bool ((decide (0 ≤ x1_0))))) trivial rfl ⟨rfl, trivial⟩ ⟨(decide (0 ≤ x1_0)), rfl, M, (by rw [← idxN_all l xs 0, hF1])⟩
theorem kHolds_any {w : World} {Q : Nat → Prop} (uQ : Up w Q) {v0_0 : Value} (m : Mat) (a0_0 : Ls (tSl tAlt) w Q v0_0 m.rows) {v1 : Value} {l : List Pr} (h1 : Ls tPr w Q v1 l) :
    Calls Try.prog 13 #[.agg (Mat.cells m v0_0).toArray, v1] w fun en w' => ∃ r0 : Bool, en = .returned (.bool r0) ∧ Md [] w w' ∧ holdsF m l = r0 := by
  have L1 := h1.len63; have L0 := a0_0.len63; have M := Md.refl [] w; have uQ0 := uQ; have tQ : ∀ b, Q b → Q b := fun _ h => h; have sQ0 : ∀ b, Q b → b < w.heap.size → Q b := fun _ h _ => h; refine enter (n := 23) Try.func13 rfl rfl rfl ?_; intro B; refine ns ?_; refine st_box (cs := (Mat.cells m v0_0)) rfl rfl ?_; intro ba2 w1 ga2 la2 hm ha2; have n_ha2 := uQ _ ga2; replace ga2 := Nat.le_trans M.size ga2; replace a0_0 := a0_0.md0 hm; replace h1 := h1.md0 hm; replace uQ := uQ.md hm; replace M := M.step0 hm; have p_ha2 : Fsh [] w ba2 := .inr ga2; refine st_box (cs := [v1]) rfl (cells_one h1.oneCell) ?_; intro ba3 w2 ga3 la3 hm ha3; have eha2a3 : ba2 ≠ ba3 := (by have := ha2.lt; omega); have n_ha3 := uQ _ ga3; replace ga3 := Nat.le_trans M.size ga3; replace a0_0 := a0_0.md0 hm; replace h1 := h1.md0 hm; replace ha2 := ha2.md0 hm; replace uQ := uQ.md hm; replace M := M.step0 hm; have p_ha3 : Fsh [] w ba3 := .inr ga3; refine asg rfl ?_; refine nt ?_; refine c_seq ?_; refine ns ?_; refine st _ (r_field rfl off37_0) ?_; refine st _ ((r_loadBlk rfl one35 ha2 rfl).to (b := v0_0) rfl) ?_; refine st _ (r_len rfl u35 a0_0.shp) ?_; refine mv rfl ?_; refine nt ?_; refine c_block ?_; obtain ⟨r0, hr00⟩ : ∃ r, holdsGo (decide (m.rows.length = 0)) l m.rows = r := ⟨_, rfl⟩; have hr0o := hr00
  try simp only [List.nil_append] at hr00
  refine loop1 (fun (i : Nat) => [(10, (.int .i64 ((i : Nat) : Int))), (2, (.pointer (some ⟨ba2, 0, none⟩))), (3, (.pointer (some ⟨ba3, 0, none⟩))), (8, v0_0), (9, (.int .i64 ((m.rows.length : Nat) : Int)))]) (fun (i : Nat) w' => ∃ Q' : Nat → Prop, (∀ b, Q' b → Q b) ∧ (∀ b, Q b → b < w.heap.size → Q' b) ∧ Up w' Q' ∧ Md [] w w' ∧ Blk w' ba2 (Mat.cells m v0_0) 37 ∧ Blk w' ba3 [v1] 29 ∧ Ls (tSl tAlt) w' Q' v0_0 m.rows ∧ Ls tPr w' Q' v1 l ∧ Q' ba2 ∧ Q' ba3 ∧ holdsGo (decide (m.rows.length = 0)) l (m.rows.drop i) = r0) (fun (i : Nat) => m.rows.length - i) (x0 := 0) ?_ ?_ ?_
  · exact ⟨rfl, rfl, rfl, rfl, rfl, trivial⟩
  · exact ⟨Q, tQ, sQ0, uQ, M, ha2, ha3, a0_0, h1, n_ha2, n_ha3, (by have hh := hr00; first | exact hh | exact hr0o | (simp only [List.nil_append] at hh; exact hh))⟩
  · clear M uQ tQ sQ0 n_ha2 n_ha3 a0_0 h1 ha2 ha3
    rintro i B w3 ⟨Q4, tQ, sQ0, uQ, M, ha2, ha3, a0_0, h1, n_ha2, n_ha3, hr0⟩; refine ns ?_; refine st _ (r_ltN (a := i) (b := m.rows.length) rfl rfl) ?_; refine nt ?_; refine c_seq ?_; refine c_if rfl (fun h11 => ?_) (fun h11 => ?_)
    · (first | (have h11n := of_decide_eq_true h11) | (have h11n := of_decide_eq_false (bnt h11)) | (have h11n := bnt h11) | (have h11n := h11)); refine c_skip ?_; refine c_then ?_; refine c_seq ?_; refine c_block ?_; refine ns ?_; refine st _ (r_indexN (i := i) 1 rfl rfl u35 el42 a0_0.shp (by omega)) ?_; obtain ⟨x5, hx5⟩ := getE (l := m.rows) (i := i) (by first | omega | (simp <;> omega)); obtain ⟨c6, hr5, ha5⟩ := a0_0.get hx5; obtain ⟨v7, rfl, hd8⟩ := hr5; replace ha5 : At _ v0_0 (i * 1) [v7] := ha5; refine st _ ((r_loadE (kk := i * 1) 0 rfl rfl one42 ha5 rfl).to (b := v7) rfl) ?_; refine asg rfl ?_; refine st_nil ?_; clear ha5; refine c_then ?_; refine ns ?_; refine mv rfl ?_; refine st _ (r_makeFunc rfl) ?_; refine st_call fn31 rfl (kConF_any uQ hd8 ⟨_, _, rfl, n_ha3, ha3, _, rfl, h1⟩) ?_; rintro en w9 ⟨x9_0, rfl, hm, hF9⟩; refine ⟨_, rfl, ?_⟩; replace ha2 := ha2.md0 hm; replace ha3 := ha3.md0 hm; replace a0_0 := a0_0.md0 hm; replace h1 := h1.md0 hm; replace hd8 := hd8.md0 hm; replace uQ := uQ.md hm; replace M := M.step0 hm; refine st _ (r_not rfl) ?_; refine nt ?_; refine c_if rfl (fun h17 => ?_) (fun h17 => ?_)
      · (first | (have h17n := of_decide_eq_true h17) | (have h17n := of_decide_eq_false (bnt h17)) | (have h17n := bnt h17) | (have h17n := h17)); have hv17 := hF9.trans h17n; simp only [Bool.not_eq_true', Bool.not_eq_false'] at hv17; refine ns ?_; refine asg rfl ?_; refine nt ?_; refine c_ret ?_; refine r_block ?_; refine r_then ?_; refine r_then ?_; refine r_block ?_; refine r_then ?_; exact ret1L (v := (.bool true)) trivial rfl ⟨rfl, trivial⟩ ⟨true, rfl, M, (by (try (simp (disch := first | omega | assumption | (simp; done) | fail) only [holds_end, holds_step hx5, if_pos, if_neg, Option.getD_some, Option.some.injEq, reduceIte, Bool.false_eq_true, Bool.true_eq_false, decide_true, decide_false, not_true_eq_false, not_false_eq_true, h11n, hx5, hF9, h17n, hv17] at hr0)); rw [holdsF] <;> simp (disch := first | omega | assumption | (simp; done) | fail) only [if_pos, if_neg, Option.getD_some, Option.some.injEq, reduceIte, Bool.false_eq_true, Bool.true_eq_false, decide_true, decide_false, not_true_eq_false, not_false_eq_true, hr00, h11n, hx5, hF9, h17n, hv17, ← hr0])⟩
      · (first | (have h17n := of_decide_eq_false h17) | (have h17n := of_decide_eq_true (bnf h17)) | (have h17n := bnf h17) | (have h17n := h17)); have hv17 := hF9.trans h17n; simp only [Bool.not_eq_true', Bool.not_eq_false'] at hv17; refine c_skip ?_; refine n_block ?_; refine c_then ?_; refine c_region ?_; refine st _ (r_addN (a := i) (b := 1) 9223372036854775808 rfl rfl rfl (by omega)) ?_; refine mv rfl ?_; refine nt ?_; refine next1 (x0 := (i + 1)) (by omega) ⟨(fitI rfl (by omega)), rfl, rfl, rfl, rfl, trivial⟩ ⟨Q4, tQ, sQ0, uQ, M, ha2, ha3, a0_0, h1, n_ha2, n_ha3, (by have hh := hr0; simp (disch := first | omega | assumption | (simp; done) | fail) only [holds_end, holds_step hx5, if_pos, if_neg, Option.getD_some, Option.some.injEq, reduceIte, Bool.false_eq_true, Bool.true_eq_false, decide_true, decide_false, not_true_eq_false, not_false_eq_true, h11n, hx5, hF9, h17n, hv17] at hh; first | exact hh | (simp only [List.append_assoc, List.cons_append, List.nil_append, List.singleton_append] at hh ⊢; exact hh))⟩
    · (first | (have h11n := of_decide_eq_false h11) | (have h11n := of_decide_eq_true (bnf h11)) | (have h11n := bnf h11) | (have h11n := h11)); refine c_exit ?_; refine x_then ?_; refine x_then ?_; refine x_hit ?_; refine c_then ?_; refine ns ?_; refine st _ (r_field rfl off37_0) ?_; refine st _ ((r_loadBlk rfl one35 ha2 rfl).to (b := v0_0) rfl) ?_; refine st _ (r_len rfl u35 a0_0.shp) ?_; refine st _ (r_eqN (a := m.rows.length) (b := 0) rfl rfl) ?_; refine asg rfl ?_; refine nt ?_; refine c_ret ?_; exact ret1L (v := (.bool ((decide (m.rows.length = 0))))) trivial rfl ⟨rfl, trivial⟩ ⟨(decide (m.rows.length = 0)), rfl, M, (by (try (simp (disch := first | omega | assumption | (simp; done) | fail) only [holds_end, if_pos, if_neg, Option.getD_some, Option.some.injEq, reduceIte, Bool.false_eq_true, Bool.true_eq_false, decide_true, decide_false, not_true_eq_false, not_false_eq_true, h11n] at hr0)); rw [holdsF] <;> simp (disch := first | omega | assumption | (simp; done) | fail) only [if_pos, if_neg, Option.getD_some, Option.some.injEq, reduceIte, Bool.false_eq_true, Bool.true_eq_false, decide_true, decide_false, not_true_eq_false, not_false_eq_true, hr00, h11n, ← hr0])⟩
end Go.Proofs.Ytimhhcacjiombaa
