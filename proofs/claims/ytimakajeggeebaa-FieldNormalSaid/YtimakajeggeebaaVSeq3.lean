/- Walks of functions: what each call returns, over data. -/
import Derived.Test.YtimakajeggeebaaRows
import Derived.Test.YtimakajeggeebaaVSeq2
namespace Go.Proofs.Ytimakajeggeebaa
open Go Go.Wk Go.RowKit
set_option linter.unusedVariables false
set_option linter.unusedSimpArgs false
attribute [local irreducible] wpList wpQuiet wpStill wpMix Code.wp Calls bodyPost
theorem el9 : elemIs Try.prog 9 1 = true := by kernel_rfl
theorem fn64 : isFn Try.prog 64 = true := by kernel_rfl
theorem fn65 : isFn Try.prog 65 = true := by kernel_rfl
theorem fn66 : isFn Try.prog 66 = true := by kernel_rfl

theorem kPair_any {w : World} {Q : Nat → Prop} (uQ : Up w Q) {b0 : Nat} {v0_0 : Value} (s : Sq) (h0 : Blk w b0 (Sq.cells s v0_0) 54) (n0 : ¬ Q b0) (a0_0 : Sq.ok s) (a0_1 : Ls tInt w Q v0_0 s.l) :
    Calls Try.prog 32 #[.pointer (some ⟨b0, 0, none⟩)] w fun en w' => ∃ r0 : Pr, ∃ m0 : Sq, ∃ u50_0 : Value, en = .returned (.agg (Pr.cells r0).toArray) ∧ Md [b0] w w' ∧ Blk w' b0 (Sq.cells m0 u50_0) 54 ∧ ¬ Q b0 ∧ Sq.ok m0 ∧ Ls tInt w' Q u50_0 m0.l ∧ s.pair = (r0, m0) := by
  have n_h0 := n0
  have p_h0 : Fsh [b0] w b0 := .inl (by simp)
  have M := Md.refl [b0] w
  have uQ0 := uQ
  have tQ : ∀ b, Q b → Q b := fun _ h => h
  have sQ0 : ∀ b, Q b → b < w.heap.size → Q b := fun _ h _ => h
  refine enter (n := 14) Try.func32 rfl rfl rfl ?_
  intro B
  refine c_seq ?_
  refine c_region ?_
  refine st_alloc z44 ?_
  intro ba2 w1 ga2 la2 hm ha2
  have eh0a2 : b0 ≠ ba2 := by have := h0.lt; omega
  obtain ⟨Q2, sQ, sT, n_ha2, uQ2⟩ := exQ uQ ga2 la2 hm
  replace a0_1 := a0_1.sub sQ
  replace n_h0 := fun hh => n_h0 (sT _ hh)
  replace tQ := fun b hb => tQ b (sT b hb)
  replace sQ0 := fun b hb hl => sQ b (sQ0 b hb hl) (Nat.lt_of_lt_of_le hl M.size)
  replace ga2 := Nat.le_trans M.size ga2
  replace a0_1 := a0_1.md0 hm
  replace h0 := h0.md0 hm
  replace uQ := uQ.md hm
  replace M := M.step0 hm
  clear uQ; have uQ := uQ2; clear uQ2 sQ sT
  have p_ha2 : Fsh [] w ba2 := .inr ga2
  replace ha2 : Blk _ _ (Pr.cells (({ name := [], value := [] } : Pr))) _ := ha2
  refine st_nil ?_
  refine c_then ?_
  refine c_seq ?_
  have a0_1_q := a0_1
  have h0_q := h0
  have ha2_q := ha2
  have hSB : ∀ b ∈ [b0], ¬ Q2 b := all_cons n_h0 all_nil
  refine c_mixT [(1, true), (6, true), (0, false), (2, false), (3, true), (4, true), (5, false), (7, false), (8, true), (9, true)] [10, 11] (fun w' => Md [b0] w1 w') mixed (by kernel_rfl) ?_
  intro w3 hd0; refine ⟨hd0.mono (by simp), ?_⟩; have MC := hd0.mono (T := [b0]) (by simp)
  refine Go.Wk.m _ (fun w' hc => r_move rfl) ?_
  refine Go.Wk.m _ (fun w' hc => r_move rfl) ?_
  replace a0_1 := a0_1.md0 hd0
  replace h0 := h0.md0 hd0
  replace ha2 := ha2.md0 hd0
  replace uQ := uQ.md hd0
  replace M := M.step0 hd0
  refine m_c ?_ rfl
  refine st_call fn64 rfl (kNames_any uQ ) ?_
  rintro en w4 ⟨v4_0, x4_0, rfl, hm, h4_0, hF4⟩; refine ⟨_, rfl, ?_⟩
  replace a0_1 := a0_1.md0 hm
  replace h0 := h0.md0 hm
  replace ha2 := ha2.md0 hm
  replace uQ := uQ.md hm
  replace M := M.step0 hm
  replace MC := MC.step0 hm
  have a4_0 := namesF_len ; rw [hF4] at a4_0; try simp only [List.length_cons, List.length_nil, List.length_append, List.length_replicate, Nat.zero_add, Nat.reduceAdd, Nat.reduceMul] at a4_0
  refine st_nil ⟨rfl, MC, fun w' => Md [b0] w4 w', Md.refl _ _, fun x hx => MC.trans hx, ?_⟩
  clear a0_1_q h0_q ha2_q
  have a0_1_q := a0_1
  have h0_q := h0
  have ha2_q := ha2
  have h4_0_q := h4_0
  clear MC; have MC := Md.refl [b0] w4
  refine m_c ?_ rfl
  refine st_call fn65 rfl (kN_any uQ s h0 n_h0 a0_0 a0_1 6 (by first | omega | (simp <;> omega)) (by first | omega | (simp <;> omega) | (simp at * <;> omega))) ?_
  rintro en w5 ⟨x5_0, m5_0, mv5_0_0, rfl, hm, q5_0, mh5_0, mn5_0, mq5_0_0, mf5_0_1, hF5⟩; refine ⟨_, rfl, ?_⟩
  have hP : ∀ i ∈ [b0], Fsh [b0] w i := (all_cons p_h0 all_nil)
  have hS : ∀ i ∈ [b0], ¬ Q2 i := (all_cons n_h0 all_nil)
  have np_ha2 : ba2 ∉ [b0] := (nin_cons (by omega) (by simp))
  replace a0_1 := a0_1.md hm hS
  replace ha2 := ha2.md hm np_ha2; clear np_ha2
  replace h4_0 := h4_0.md hm hS
  replace M := M.step hm hP
  replace MC := MC.step hm (fun i hi => Or.inl (by simpa using hi))
  replace uQ := uQ.md hm
  clear hP hS h0 n_h0; have h0 := mh5_0; have n_h0 := mn5_0; clear mh5_0 mn5_0
  have a5_0 := Sq.num_le s 6; rw [hF5] at a5_0; try simp only [List.length_cons, List.length_nil, List.length_append, List.length_replicate, Nat.zero_add, Nat.reduceAdd, Nat.reduceMul] at a5_0
  refine st_nil ⟨rfl, MC, fun w' => Md [b0] w5 w', Md.refl _ _, fun x hx => MC.trans hx, ?_⟩
  clear a0_1_q h0_q h4_0_q ha2_q
  have a0_1_q := a0_1
  have h0_q := h0
  have ha2_q := ha2
  have h4_0_q := h4_0
  have mf5_0_1_q := mf5_0_1
  clear MC; have MC := Md.refl [b0] w5
  refine Go.Wk.m _ (fun w' hc => r_indexN (i := x5_0) 1 rfl rfl u67 el9 h4_0.shp (by omega)) ?_
  obtain ⟨x6, hx6⟩ := getE (l := x4_0) (i := x5_0) (by first | omega | (simp <;> omega))
  obtain ⟨c7, hr6, ha6⟩ := h4_0_q.get hx6
  obtain ⟨rfl, _⟩ := hr6
  replace ha6 : At _ v4_0 (x5_0 * 1) [(str x6)] := ha6
  refine Go.Wk.m _ (fun w' hc => (r_loadE (kk := x5_0 * 1) 0 rfl rfl one9 (ha6.md hc (h4_0_q.offS hx6 hSB)) rfl).to (b := (str x6)) rfl) ?_
  refine m_c ?_ rfl
  refine st_call fn66 rfl (kValues_any uQ ) ?_
  rintro en w8 ⟨v8_0, x8_0, rfl, hm, h8_0, hF8⟩; refine ⟨_, rfl, ?_⟩
  replace a0_1 := a0_1.md0 hm
  replace h0 := h0.md0 hm
  replace ha2 := ha2.md0 hm
  replace h4_0 := h4_0.md0 hm
  replace mf5_0_1 := mf5_0_1.md0 hm
  replace uQ := uQ.md hm
  replace M := M.step0 hm
  replace MC := MC.step0 hm
  have a8_0 := valuesF_len ; rw [hF8] at a8_0; try simp only [List.length_cons, List.length_nil, List.length_append, List.length_replicate, Nat.zero_add, Nat.reduceAdd, Nat.reduceMul] at a8_0
  refine st_nil ⟨rfl, MC, fun w' => Md [b0] w8 w', Md.refl _ _, fun x hx => MC.trans hx, ?_⟩
  clear mf5_0_1_q h0_q ha2_q h4_0_q a0_1_q
  have a0_1_q := a0_1
  have h0_q := h0
  have ha2_q := ha2
  have h4_0_q := h4_0
  have mf5_0_1_q := mf5_0_1
  have ha6_q := ha6
  have h8_0_q := h8_0
  clear MC; have MC := Md.refl [b0] w8
  refine m_c ?_ rfl
  refine st_call fn65 rfl (kN_any uQ m5_0 h0 n_h0 mq5_0_0 mf5_0_1 10 (by first | omega | (simp <;> omega)) (by first | omega | (simp <;> omega) | (simp at * <;> omega))) ?_
  rintro en w9 ⟨x9_0, m9_0, mv9_0_0, rfl, hm, q9_0, mh9_0, mn9_0, mq9_0_0, mf9_0_1, hF9⟩; refine ⟨_, rfl, ?_⟩
  have hP : ∀ i ∈ [b0], Fsh [b0] w i := (all_cons p_h0 all_nil)
  have hS : ∀ i ∈ [b0], ¬ Q2 i := (all_cons n_h0 all_nil)
  have np_ha2 : ba2 ∉ [b0] := (nin_cons (by omega) (by simp))
  replace a0_1 := a0_1.md hm hS
  replace ha2 := ha2.md hm np_ha2; clear np_ha2
  replace h4_0 := h4_0.md hm hS
  replace mf5_0_1 := mf5_0_1.md hm hS
  replace h8_0 := h8_0.md hm hS
  replace M := M.step hm hP
  replace MC := MC.step hm (fun i hi => Or.inl (by simpa using hi))
  replace uQ := uQ.md hm
  clear hP hS h0 n_h0; have h0 := mh9_0; have n_h0 := mn9_0; clear mh9_0 mn9_0
  have a9_0 := Sq.num_le m5_0 10; rw [hF9] at a9_0; try simp only [List.length_cons, List.length_nil, List.length_append, List.length_replicate, Nat.zero_add, Nat.reduceAdd, Nat.reduceMul] at a9_0
  refine st_nil ⟨rfl, MC, fun w' => Md [b0] w9 w', Md.refl _ _, fun x hx => MC.trans hx, ?_⟩
  clear mf5_0_1_q ha6_q h0_q ha2_q h4_0_q a0_1_q h8_0_q
  have a0_1_q := a0_1
  have h0_q := h0
  have ha2_q := ha2
  have h4_0_q := h4_0
  have mf5_0_1_q := mf5_0_1
  have ha6_q := ha6
  have h8_0_q := h8_0
  have mf9_0_1_q := mf9_0_1
  clear MC; have MC := Md.refl [b0] w9
  refine Go.Wk.m _ (fun w' hc => r_indexN (i := x9_0) 1 rfl rfl u67 el9 h8_0.shp (by omega)) ?_
  obtain ⟨x10, hx10⟩ := getE (l := x8_0) (i := x9_0) (by first | omega | (simp <;> omega))
  obtain ⟨c11, hr10, ha10⟩ := h8_0_q.get hx10
  obtain ⟨rfl, _⟩ := hr10
  replace ha10 : At _ v8_0 (x9_0 * 1) [(str x10)] := ha10
  refine Go.Wk.m _ (fun w' hc => (r_loadE (kk := x9_0 * 1) 0 rfl rfl one9 (ha10.md hc (h8_0_q.offS hx10 hSB)) rfl).to (b := (str x10)) rfl) ?_
  refine m_nil ?_
  clear mf5_0_1_q ha6_q h0_q ha2_q h4_0_q mf9_0_1_q h8_0_q a0_1_q
  clear MC
  refine st _ (r_buildG (us := [[(str x6)], [(str x10)]]) (cs := (Pr.cells (({ name := x6, value := x10 } : Pr)))) [(0, 0, 1), (1, 1, 1)] z44 pl44 rfl rfl ⟨rfl, rfl, trivial⟩ ⟨rfl, rfl, trivial⟩ rfl rfl) ?_
  refine st_storeAgg (us := (Pr.cells (({ name := x6, value := x10 } : Pr)))) rfl rfl (by exact agg44) (by first | exact fun u hu => one_cells (Pr.one ) u hu | exact fun u hu => one_cells rfl u hu) ha2 (Nat.le_of_ble_eq_true rfl) ?_
  have ha20 := ha2; clear ha2; intro w12 hm ha2
  have hS : ∀ b ∈ [ba2], ¬ Q2 b := by intro b hb; simp at hb; subst hb; exact n_ha2
  replace a0_1 := a0_1.md hm hS
  replace h0 := h0.md hm (by intro hb; simp at hb; omega)
  replace h4_0 := h4_0.md hm hS
  replace mf5_0_1 := mf5_0_1.md hm hS
  replace h8_0 := h8_0.md hm hS
  replace mf9_0_1 := mf9_0_1.md hm hS
  replace uQ := uQ.md hm
  replace M := M.step hm (all_cons (Fsh.wid p_ha2) all_nil)
  clear ha20 hS
  replace ha2 : Blk _ _ (Pr.cells (({ name := x6, value := x10 } : Pr))) _ := ha2
  refine st_nil ?_
  clear ha6
  clear ha10
  refine c_then ?_
  refine c_ret ?_
  exact ret1L (v := (.agg (Pr.cells (({ name := x6, value := x10 } : Pr))).toArray)) trivial rfl ⟨⟨_, rfl, load_agg (cs := (Pr.cells (({ name := x6, value := x10 } : Pr)))) (by exact agg44) ha2⟩, trivial⟩ ⟨(({ name := x6, value := x10 } : Pr)), m9_0, _, rfl, M, h0, n0, mq9_0_0, (mf9_0_1.sub (fun b hb _ => tQ b hb)), (by rw [Sq.pair] <;> simp (disch := first | omega | assumption | (simp; done) | fail) only [List.getD_eq_getElem?_getD, if_pos, if_neg, Option.getD_some, Option.some.injEq, reduceIte, Bool.false_eq_true, Bool.true_eq_false, decide_true, decide_false, not_true_eq_false, not_false_eq_true, hF4, hF5, hx6, hF8, hF9, hx10])⟩
end Go.Proofs.Ytimakajeggeebaa
