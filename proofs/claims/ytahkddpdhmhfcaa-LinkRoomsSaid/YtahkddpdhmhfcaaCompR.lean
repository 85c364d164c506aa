/- Rows of pairs that are changed in place; a row that is cleared; worlds that only draw and grow. No statement is proved here. -/
import Derived.Test.YtahkddpdhmhfcaaFldS
import Derived.Sort.Grow
import Derived.Lib.SliceRun
namespace Go.Wk
open Go Go.RowKit

/-! ### Worlds that draw and grow -/
structure Gr (w w' : World) : Prop where
  md : Md [] w w'
  dr : w.drawn ≤ w'.drawn
theorem Gr.refl (w : World) : Gr w w := ⟨Md.refl [] w, Nat.le_refl _⟩
theorem Gr.step0 {a b c : World} (h : Gr a b) (k : Gr b c) : Gr a c := ⟨h.md.step0 k.md, Nat.le_trans h.dr k.dr⟩
theorem Gr.grown {w w' : World} (h : Gr w w') : ∃ q os, w' = Go.Sort.grow (w.drewN q) os := by
  refine ⟨w'.drawn - w.drawn, w'.heap.extract w.heap.size w'.heap.size, ?_⟩
  have e : w'.heap = w.heap ++ w'.heap.extract w.heap.size w'.heap.size := by
    apply Array.ext_getElem?
    intro k
    rcases Nat.lt_or_ge k w.heap.size with hk | hk
    · rw [Array.getElem?_append_left hk]; exact h.md.block k hk (by simp)
    · rw [Array.getElem?_append_right hk, Array.getElem?_extract]
      have := h.md.size
      split
      · congr 1; omega
      · rw [Array.getElem?_eq_none (by omega)]
  have hd := h.dr
  have h1 := h.md.os; have h2 := h.md.tape; have h3 := h.md.output
  cases w'; cases w
  simp only [Go.Sort.grow, World.drewN] at *
  subst h1 h2 h3
  simp only [World.mk.injEq, and_true, true_and]
  exact ⟨e, by omega⟩
section
variable {P : Program} {ops : Array Oper} {Q : Exit → Act → World → Prop} {rest : List Oper}
variable {n : Nat} {A : Fr n} {D : List Deferred} {l : List (Nat × Value)} {w : World}
variable {d : Tmp} {op : Op} {ty : TypeId} {ps : String} {af : Array Edge} {g : Option (Nat × Bool)}
theorem st_boxG {t : TypeId} {x : Operand} {v : Value} {cs : List Value} (hx : ev n l x = some v) (hv : v.cells = cs.toArray)
    (k : ∀ b w', w.heap.size ≤ b → b < w'.heap.size → Gr w w' → Blk w' b cs t → wpList P ops Q rest (over A D ((d, .pointer (some ⟨b, 0, none⟩)) :: l)) w') :
    wpList P ops Q (⟨some d, .box t x, ty, ps, af, none⟩ :: rest) (over A D l) w := by
  refine wl_plain rfl ?_
  have hrun : (execOp (over A D l).eval ⟨some d, .box t x, ty, ps, af, none⟩).run P w = .ok (.value (.pointer (some ⟨w.heap.size, 0, none⟩))) (w.alloc (.cells cs.toArray t)) := by
    simp [execOp, Instr.box, newVar, newRow, ev_eval hx, hv]
  unfold Oper.wp
  rw [hrun]
  exact k _ _ (Nat.le_refl _) (by simp) ⟨Md.alloc w _, Nat.le_refl _⟩ (Blk.new w cs t)
theorem c_mixG {id : Nat} {lo : List Oper} {a : Act} {w : World} (ord : List (Nat × Bool)) (C : World → Prop) (hm : P.follows .mixedOrders = true) (hB : mixOk .any lo.toArray ord = true)
    (h : ∀ w', Gr w w' → C w' ∧ wpMix P lo.toArray C (fun a w => Q .normal a w) (ordOps lo ord) a w') : (Code.region id lo.toArray true).wp P Q a w := by
  simp only [mixOk, Bool.and_eq_true, decide_eq_true_eq] at hB
  obtain ⟨⟨h1, h2⟩, h3⟩ := hB
  obtain ⟨hC, hk⟩ := h _ ⟨Md.drew w, Nat.le_succ _⟩
  refine wp_region_any hm (wpAny_of_C (C := C) (QN := fun a w => Q .normal a w) (fun _ _ hx => hx) _ _ _ _ ?_)
  have := wpAnyC_of_mix (md := .any) (C := C) (QN := fun a w => Q .normal a w) h1 ord _ a _ hC h3 hk
  rwa [h2] at this

/-! ### A row that is cleared -/
theorem st_clear {x : Operand} {t e : TypeId} {b o m c : Nat} {cs zs : List Value} (ht : P.underlying t = some (.slice e)) (hz : zcells P e = some zs) (h1 : ∀ u ∈ zs, u.oneCell' = true) (hx : ev n l x = some (.slice (some ⟨b, o, none⟩) m c)) (h0 : 0 < m)
    (hB : Blk w b cs e) (hj : o + m * zs.length ≤ cs.length) (k : ∀ w' us, Md [b] w w' → us.length = m * zs.length → Blk w' b (splice cs o us) e → wpList P ops Q rest (over A D l) w') :
    wpList P ops Q (⟨none, .call { callee := .builtin .clear, args := #[x], argTypes := #[t] }, ty, ps, af, none⟩ :: rest) (over A D l) w := by
  refine wl_plain rfl ?_
  unfold zcells at hz
  split at hz
  · rename_i i hi
    split at hz
    · rename_i z hzz
      simp only [Option.some.injEq] at hz
      subst hz
      have hzl : (Builtin.zeroCells z.cells m).toList.length = m * z.cells.toList.length := by simp [Builtin.zeroCells]
      have h1' : ∀ u ∈ (Builtin.zeroCells z.cells m).toList, u.oneCell' = true := by
        intro u hu
        simp only [Builtin.zeroCells, Array.toList_map, List.mem_map] at hu
        obtain ⟨j, hj', rfl⟩ := hu
        have hj2 : j < m * z.cells.size := by simpa using hj'
        have hp : 0 < z.cells.size := by
          rcases Nat.eq_zero_or_pos z.cells.size with h | h
          · rw [h] at hj2; omega
          · exact h
        have hlt := Nat.mod_lt j hp
        rw [getElem!_pos z.cells (j % z.cells.size) hlt]
        exact h1 _ (by simp)
      have hst := run_storeCells_at P b o e (Builtin.zeroCells z.cells m).toList 0 cs.toArray w hB (by simp only [hzl]; simpa using hj) h1'
      obtain ⟨m', rfl⟩ : ∃ m', m = m' + 1 := ⟨m - 1, by omega⟩
      have hrun : (execOp (over A D l).eval ⟨none, .call { callee := .builtin .clear, args := #[x], argTypes := #[t] }, ty, ps, af, none⟩).run P w = .ok (.value (.tuple #[])) (w.setRow b (splice cs o (Builtin.zeroCells z.cells (m' + 1)).toList).toArray) := by
        simp [execOp, resolve, invoke, builtin, ev_eval hx, Builtin.clear_, run_underlying ht, zeroValue, typeInfo, hi, hzz, splice] at hst ⊢
        simp [hst]
      unfold Oper.wp
      rw [hrun]
      exact k _ _ (Md.setRow w b _) hzl hB.setRow
    · cases hz
  · cases hz
end

section
variable {P : Program} {n : Nat} {A : Fr n} {D : List Deferred} {l : List (Nat × Value)} {w : World} {d : Option Tmp} {ty : TypeId} {ps : String} {af : Array Edge} {g : Option (Nat × Bool)}
theorem r_eqlSN {x : Operand} {t u e : TypeId} {a : Option Addr} {m c : Nat} (hx : ev n l x = some (.slice a m c)) (hT : P.underlying t = some (.slice e)) :
    RunV P ⟨d, .binOp .eql t x (.const (.slice none 0 0)) u, ty, ps, af, g⟩ (over A D l).eval w (.bool a.isNone) := by
  have h := Go.Lib.run_eql_slice_nil (P := P) w t e a m c 0 0 hT
  have hc : (over A D l).eval (.const (.slice none 0 0)) = .slice none 0 0 := rfl
  have hg : (eqGuard .eql t x (.const (.slice none 0 0)) (.slice a m c) (.slice none 0 0)).run P w = .ok () w := by unfold eqGuard; simp
  simp [RunV, execOp, ev_eval hx, hc, hg, h]
end

/-! ### A row of pairs in a block -/
def Rw (w : World) (b cap : Nat) (xs : List Pr) : Prop :=
  ∃ cur, Blk w b cur 44 ∧ cur.length = cap * 2 ∧ xs.length ≤ cap ∧ cur.take (xs.length * 2) = xs.flatMap Pr.cells
theorem flat_len (xs : List Pr) : (xs.flatMap Pr.cells).length = xs.length * 2 := by
  induction xs with
  | nil => rfl
  | cons x r ih => simp [List.flatMap_cons, ih, Pr.cells]; omega
theorem flat_get {xs : List Pr} {i j : Nat} {x : Pr} {u : Value} (h : xs[i]? = some x) (k : (Pr.cells x)[j]? = some u) : (xs.flatMap Pr.cells)[i * 2 + j]? = some u := by
  induction xs generalizing i with
  | nil => simp at h
  | cons y r ih =>
    cases i with
    | zero =>
      simp at h; subst h
      rw [List.flatMap_cons, Nat.zero_mul, Nat.zero_add, List.getElem?_append_left (List.getElem?_eq_some_iff.1 k).1]
      exact k
    | succ i =>
      rw [List.flatMap_cons, show (i + 1) * 2 + j = 2 + (i * 2 + j) by omega, List.getElem?_append_right (by simp [Pr.cells])]
      have := ih (i := i) (by simpa using h)
      simpa [Pr.cells] using this
theorem flat_set (xs : List Pr) (i : Nat) (z : Pr) (h : i < xs.length) : (xs.set i z).flatMap Pr.cells = splice (xs.flatMap Pr.cells) (i * 2) (Pr.cells z) := by
  induction xs generalizing i with
  | nil => simp at h
  | cons y r ih =>
    cases i with
    | zero => simp [splice, List.flatMap_cons, Pr.cells]
    | succ i =>
      have := ih i (by simpa using h)
      rw [List.set_cons_succ, List.flatMap_cons, this, List.flatMap_cons]
      have e : (i + 1) * 2 = i * 2 + 1 + 1 := by omega
      have e2 : (i + 1) * 2 + 2 = i * 2 + 2 + 1 + 1 := by omega
      simp only [splice, Pr.cells, List.cons_append, List.nil_append, e, e2, List.take_succ_cons, List.drop_succ_cons, List.length_cons, List.length_nil]
theorem flat_take (xs : List Pr) (k : Nat) : (xs.flatMap Pr.cells).take (k * 2) = (xs.take k).flatMap Pr.cells := by
  induction xs generalizing k with
  | nil => simp
  | cons y r ih =>
    cases k with
    | zero => simp
    | succ k =>
      rw [List.take_succ_cons, List.flatMap_cons, List.flatMap_cons, ← ih, show (k + 1) * 2 = k * 2 + 1 + 1 by omega]
      simp [Pr.cells]
section
variable {w w' : World} {b cap : Nat} {xs : List Pr}
theorem Rw.md {S : List Nat} (h : Rw w b cap xs) (m : Md S w w') (hs : b ∉ S) : Rw w' b cap xs := by
  obtain ⟨cur, h1, h2, h3, h4⟩ := h; exact ⟨cur, h1.md m hs, h2, h3, h4⟩
theorem Rw.md0 (h : Rw w b cap xs) (m : Md [] w w') : Rw w' b cap xs := h.md m (by simp)
theorem Rw.at_ {i k o n c : Nat} {x : Pr} (h : Rw w b cap xs) (hi : xs[i]? = some x) (e : o + k = i * 2) : At w (.slice (some ⟨b, o, none⟩) n c) k (Pr.cells x) := by
  obtain ⟨cur, h1, h2, h3, h4⟩ := h
  refine ⟨_, _, _, rfl, fun j u hj => ?_⟩
  have hf := flat_get hi hj
  have hl := (List.getElem?_eq_some_iff.1 hj).1
  have hil := (List.getElem?_eq_some_iff.1 hi).1
  have hl2 : j < 2 := by simpa [Pr.cells] using hl
  rw [Addr.add_mk, h1.cell, ← Nat.add_assoc, e]
  rw [← h4, List.getElem?_take, if_pos (by omega)] at hf
  exact hf
theorem Rw.into (h : Rw w b cap xs) {i : Nat} {z : Pr} (hi : i < xs.length) : ∃ cur, Blk w b cur 44 ∧ i * 2 + (Pr.cells z).length ≤ cur.length ∧ ∀ w', Blk w' b (splice cur (i * 2) (Pr.cells z)) 44 → Rw w' b cap (xs.set i z) := by
  obtain ⟨cur, h1, h2, h3, h4⟩ := h
  have hz : (Pr.cells z).length = 2 := rfl
  refine ⟨cur, h1, by rw [hz]; omega, fun w' hB => ⟨_, hB, ?_, by simpa using h3, ?_⟩⟩
  · rw [splice_len (by rw [hz]; omega), h2]
  · rw [flat_set _ _ _ hi, ← h4, List.length_set]
    unfold splice
    rw [hz, List.take_append, List.take_of_length_le (by simp [Pr.cells]; omega), List.take_take, Nat.min_eq_left (by omega), List.drop_take]
    congr 2
    simp [Pr.cells]; omega
theorem Rw.cut (h : Rw w b cap xs) {i : Nat} : Rw w b cap (xs.take i) := by
  obtain ⟨cur, h1, h2, h3, h4⟩ := h
  refine ⟨cur, h1, h2, by simp; omega, ?_⟩
  rw [← flat_take, ← h4, List.take_take, List.length_take]
  congr 1; omega
theorem Rw.clear (h : Rw w b cap xs) {i m : Nat} (hi : i ≤ xs.length) (hm : i + m ≤ cap) : ∃ cur, Blk w b cur 44 ∧ i * 2 + m * 2 ≤ cur.length ∧ ∀ w' us, us.length = m * 2 → Blk w' b (splice cur (i * 2) us) 44 → Rw w' b cap (xs.take i) := by
  obtain ⟨cur, h1, h2, h3, h4⟩ := h
  refine ⟨cur, h1, by omega, fun w' us hu hB => ⟨_, hB, ?_, by simp; omega, ?_⟩⟩
  · rw [splice_len (by rw [hu]; omega), h2]
  · rw [← flat_take, ← h4, List.take_take, List.length_take]
    unfold splice
    rw [List.append_assoc, List.take_append_of_le_length (by simp; omega), List.take_take]
    congr 1; omega
theorem Ow.rw_ {lo : Nat → Prop} {Q : Nat → Prop} {v : Value} (h : Ow tPr 44 lo w Q v xs) (h0 : 0 < xs.length) : ∃ b cap, v = .slice (some ⟨b, 0, none⟩) xs.length cap ∧ cap ≤ maxLen ∧ Rw w b cap xs ∧ lo b ∧ ¬ Q b := by
  obtain ⟨⟨cs, h1, h2⟩, h3⟩ := h
  obtain ⟨b, cap, cur, rfl, hB, h5, h6, h7, h8⟩ := h1.blk h0
  refine ⟨b, cap, rfl, h6, ⟨cur, hB, h7, h5, ?_⟩, h3 b rfl⟩
  rw [show xs.length * 2 = xs.length * tPr.n from rfl, h8]
  clear h1 h3 hB h5 h6 h7 h8 h0
  induction xs generalizing cs with
  | nil => exact h2
  | cons x r ih =>
    obtain ⟨c, s, rfl, hc, hs⟩ := h2
    obtain ⟨_, rfl⟩ := tPr_un hc
    rw [List.flatMap_cons, ih _ hs]
theorem els_pr {Q : Nat → Prop} (xs : List Pr) : Els tPr w Q (xs.flatMap Pr.cells) xs := by
  induction xs with
  | nil => rfl
  | cons x r ih => exact ⟨_, _, by rw [List.flatMap_cons], tPr_mk, ih⟩
theorem Rw.ow {lo : Nat → Prop} {Q : Nat → Prop} (h : Rw w b cap xs) (hc : cap ≤ maxLen) (hl : lo b) (hq : ¬ Q b) : Ow tPr 44 lo w Q (.slice (some ⟨b, 0, none⟩) xs.length cap) xs := by
  obtain ⟨cur, h1, h2, h3, h4⟩ := h
  refine ⟨⟨xs.flatMap Pr.cells, ?_, els_pr xs⟩, fun b' hb => by simp [vblock] at hb; subst hb; exact ⟨hl, hq⟩⟩
  have := Own.of_blk (sz := 2) (m := xs.length) h1 h3 hc h2
  rw [h4] at this
  exact this
end

/-! ### What is twice is once -/
def ddF (p : Pr) : List Pr → List Pr
  | [] => []
  | q :: r => if q.pb = p.pb then ddF q r else q :: ddF q r
def compactF : List Pr → List Pr
  | [] => []
  | p :: r => p :: ddF p r
theorem dd_end {p : Pr} {l : List Pr} {i : Nat} (h : ¬ i < l.length) : ddF p (l.drop i) = [] := by rw [drop_end (by omega)]; rfl
theorem dd_step {p q : Pr} {l : List Pr} {i : Nat} (h : l[i]? = some q) : ddF p (l.drop i) = if q.pb = p.pb then ddF q (l.drop (i + 1)) else q :: ddF q (l.drop (i + 1)) := by rw [drop_get h]; rfl
theorem dd_len (p : Pr) (l : List Pr) : (ddF p l).length ≤ l.length := by
  induction l generalizing p with
  | nil => simp [ddF]
  | cons q r ih =>
    unfold ddF
    have := ih q
    split <;> simp <;> omega
theorem compact_len (l : List Pr) : (compactF l).length ≤ l.length := by
  cases l with
  | nil => simp [compactF]
  | cons p r => have := dd_len p r; simp [compactF]; omega
theorem compact_short {l : List Pr} (h : l.length < 2) : compactF l = l := by
  match l, h with
  | [], _ => rfl
  | [_], _ => rfl
  | _ :: _ :: _, h => simp at h; omega
theorem compact_start {l : List Pr} (h : 1 ≤ l.length) : l.take 1 ++ ddF (l.getD (1 - 1) { name := [], value := [] }) (l.drop 1) = compactF l := by
  cases l with
  | nil => simp at h
  | cons p r => rfl
theorem take_set_succ {l : List Pr} {j : Nat} {s : Pr} (h : j < l.length) : (l.set j s).take (j + 1) = l.take j ++ [s] := by
  rw [List.take_add_one, List.getElem?_set_self h, List.take_set_of_le (Nat.le_refl _)]; rfl
theorem subz_tail {b n cap i : Nat} (h : i < cap) : subz 2 (.slice (some ⟨b, 0, none⟩) n cap) i n = .slice (some ⟨b, i * 2, none⟩) (n - i) (cap - i) := by
  have : ¬ cap = i := by omega
  simp [subz, this, Addr.add_mk]
theorem subz_head {b n cap j : Nat} (h : 0 < cap) : subz 2 (.slice (some ⟨b, 0, none⟩) n cap) 0 j = .slice (some ⟨b, 0, none⟩) j cap := by
  have : ¬ cap = 0 := by omega
  simp [subz, this, Addr.add_mk]
end Go.Wk
