/- Walks of functions: what each call returns, over data. -/
import Derived.Test.YtimakajeggeebaaRows
import Derived.Test.YtimakajeggeebaaVSeq3
namespace Go.Proofs.Ytimakajeggeebaa
open Go Go.Wk Go.RowKit
set_option linter.unusedVariables false
set_option linter.unusedSimpArgs false
attribute [local irreducible] wpList wpQuiet wpStill wpMix Code.wp Calls bodyPost
theorem fn32 : isFn Try.prog 32 = true := by kernel_rfl

theorem kPairs_any {w : World} {Q : Nat → Prop} (uQ : Up w Q) {b0 : Nat} {v0_0 : Value} (s : Sq) (h0 : Blk w b0 (Sq.cells s v0_0) 54) (n0 : ¬ Q b0) (a0_0 : Sq.ok s) (a0_1 : Ls tInt w Q v0_0 s.l) (most : Nat) (a1 : most < 9223372036854775808) (p0 : most ≤ 1000000) :
    Calls Try.prog 40 #[.pointer (some ⟨b0, 0, none⟩), (.int .i64 ((most : Nat) : Int))] w fun en w' => ∃ u0 : Value, ∃ r0 : List Pr, ∃ m0 : Sq, ∃ u50_0 : Value, en = .returned (u0) ∧ Md [b0] w w' ∧ Ls tPr w' Q u0 r0 ∧ Blk w' b0 (Sq.cells m0 u50_0) 54 ∧ ¬ Q b0 ∧ Sq.ok m0 ∧ Ls tInt w' Q u50_0 m0.l ∧ s.pairs most = (r0, m0) := by
  have n_h0 := n0
  have p_h0 : Fsh [b0] w b0 := .inl (by simp)
  have M := Md.refl [b0] w
  have uQ0 := uQ
  have tQ : ∀ b, Q b → Q b := fun _ h => h
  have sQ0 : ∀ b, Q b → b < w.heap.size → Q b := fun _ h _ => h
  refine enter (n := 21) Try.func40 rfl rfl rfl ?_
  intro B
  refine c_seq ?_
  refine c_region ?_
  refine st _ (r_assign rfl) ?_
  refine st_nil ?_
  refine c_then ?_
  refine c_seq ?_
  refine c_region ?_
  refine st _ (r_assign rfl) ?_
  refine st_nil ?_
  refine c_then ?_
  refine c_seq ?_
  refine c_seq ?_
  refine c_region ?_
  refine st _ (r_move rfl) ?_
  refine st _ (r_move rfl) ?_
  refine st_call fn65 rfl (kN_any uQ s h0 n_h0 a0_0 a0_1 most (by first | omega | (simp <;> omega)) (by first | omega | (simp <;> omega) | (simp at * <;> omega))) ?_
  rintro en w1 ⟨x1_0, m1_0, mv1_0_0, rfl, hm, q1_0, mh1_0, mn1_0, mq1_0_0, mf1_0_1, hF1⟩; refine ⟨_, rfl, ?_⟩
  have hP : ∀ i ∈ [b0], Fsh [b0] w i := (all_cons p_h0 all_nil)
  have hS : ∀ i ∈ [b0], ¬ Q i := (all_cons n_h0 all_nil)
  replace a0_1 := a0_1.md hm hS
  replace M := M.step hm hP
  replace uQ := uQ.md hm
  clear hP hS h0 n_h0; have h0 := mh1_0; have n_h0 := mn1_0; clear mh1_0 mn1_0
  have a1_0 := Sq.num_le s most; rw [hF1] at a1_0; try simp only [List.length_cons, List.length_nil, List.length_append, List.length_replicate, Nat.zero_add, Nat.reduceAdd, Nat.reduceMul] at a1_0
  refine st _ (r_addN (a := x1_0) (b := 1) 9223372036854775808 rfl rfl rfl (by omega)) ?_
  refine st _ (r_assign rfl) ?_
  refine st_nil ?_
  refine c_then ?_
  refine c_block ?_
  obtain ⟨r0, hr00⟩ : ∃ r, pairsL (x1_0 + 1) m1_0 ([] : List Pr) = r := ⟨_, rfl⟩
  try simp only [List.nil_append, hF1] at hr00
  refine loop5 (fun (x : Sq) (ux_l : Value) (vo : Value) (o : List Pr) (n : Nat) => [(5, vo), (6, (.int .i64 ((n : Nat) : Int))), (0, (.pointer (some ⟨b0, 0, none⟩))), (4, (.slice none 0 0))]) (fun (x : Sq) (ux_l : Value) (vo : Value) (o : List Pr) (n : Nat) w' => ∃ Q' : Nat → Prop, (∀ b, Q' b → Q b) ∧ (∀ b, Q b → b < w.heap.size → Q' b) ∧ Up w' Q' ∧ Md [b0] w w' ∧ Blk w' b0 (Sq.cells x ux_l) 54 ∧ Ls tInt w' Q' ux_l x.l ∧ Sq.ok x ∧ Ow tPr 44 (Fsh [] w) w' Q' vo o ∧ ¬ Q' b0 ∧ n + o.length ≤ 1000001 ∧ pairsL n x o = r0) (fun (x : Sq) (ux_l : Value) (vo : Value) (o : List Pr) (n : Nat) => n) (x0 := m1_0) (x1 := mv1_0_0) (x2 := (.slice none 0 0)) (x3 := ([] : List Pr)) (x4 := (x1_0 + 1)) ?_ ?_ ?_
  · exact ⟨rfl, rfl, rfl, rfl, trivial⟩
  · exact ⟨Q, tQ, sQ0, uQ, M, h0, mf1_0_1, mq1_0_0, (Ow.nil _ _ _ _ _), n_h0, (by simp only [List.length_nil]; omega), (by have hh := hr00; first | exact hh | (simp only [List.nil_append, hF1] at hh; exact hh))⟩
  · clear M uQ tQ sQ0 n_h0 a0_1 h0 mf1_0_1
    rintro x ux_l vo o n B w2 ⟨Q3, tQ, sQ0, uQ, M, h0, f_x_l, kx_0, f_o, n_h0, i0_0, hr0⟩
    refine c_seq ?_
    refine c_seq ?_
    refine c_region ?_
    refine st _ (r_move rfl) ?_
    refine st _ (r_gtN (a := n) (b := 0) rfl rfl) ?_
    refine st_nil ?_
    refine c_then ?_
    refine c_if rfl (fun h12 => ?_) (fun h12 => ?_)
    · skip
      first | (have h12n := of_decide_eq_true h12) | (have h12n := of_decide_eq_false (bnt h12)) | (have h12n := bnt h12) | (have h12n := h12)
      refine c_skip ?_
      refine c_then ?_
      refine c_seq ?_
      refine c_block ?_
      refine c_region ?_
      refine st _ (r_move rfl) ?_
      refine st _ (r_move rfl) ?_
      refine st_call fn32 rfl (kPair_any uQ x h0 n_h0 kx_0 f_x_l) ?_
      rintro en w4 ⟨x4_0, m4_0, mv4_0_0, rfl, hm, mh4_0, mn4_0, mq4_0_0, mf4_0_1, hF4⟩; refine ⟨_, rfl, ?_⟩
      have hP : ∀ i ∈ [b0], Fsh [b0] w i := (all_cons p_h0 all_nil)
      have hS : ∀ i ∈ [b0], ¬ Q3 i := (all_cons n_h0 all_nil)
      have np_f_o : ∀ b, vblock vo = some b → b ∉ [b0] := fun b hb => (nin_cons (f_o.blk_ne h0 (by decide) b hb) (by simp))
      replace f_x_l := f_x_l.md hm hS
      replace f_o := f_o.md hm np_f_o hS; clear np_f_o
      replace M := M.step hm hP
      replace uQ := uQ.md hm
      clear hP hS h0 n_h0; have h0 := mh4_0; have n_h0 := mn4_0; clear mh4_0 mn4_0
      refine st_buildSliceG [(Pr.cells x4_0)] u61 elT44 (by decide) (by decide) rfl rfl ⟨rfl, trivial⟩ ⟨rfl, trivial⟩ rfl (by decide) ?_
      intro ba18 w5 ga18 la18 hm ha18
      have ya18 := uQ _ ga18
      replace f_x_l := f_x_l.md0 hm
      replace h0 := h0.md0 hm
      replace f_o := f_o.md0 hm
      replace mf4_0_1 := mf4_0_1.md0 hm
      replace uQ := uQ.md hm
      replace M := M.step0 hm
      replace ha18 := Ls.of_blk (m := 1) (R := Q3) (T := tPr) (xs := [x4_0]) ha18 ⟨_, _, rfl, (tPr_mk), rfl⟩ rfl (by decide) ya18
      refine st_ap (sz := 2) (by rfl) u61 elT44 rfl rfl f_o ha18 (fun _ h _ => h) uQ (Fsh.new M) (by first | omega | (simp <;> omega) | (simp at * <;> omega)) (by first | omega | (simp <;> omega) | (simp at * <;> omega)) ?_
      intro v7 w8 Q9 sQ sT uQ2 hO6 hm hS _ hv2
      have f_o0 := f_o; clear f_o
      replace f_x_l := f_x_l.sub sQ
      replace n_h0 := fun hh => n_h0 (sT _ hh)
      replace mf4_0_1 := mf4_0_1.sub sQ
      replace ha18 := ha18.sub sQ
      replace tQ := fun b hb => tQ b (sT b hb)
      replace sQ0 := fun b hb hl => sQ b (sQ0 b hb hl) (Nat.lt_of_lt_of_le hl M.size)
      replace f_x_l := f_x_l.md hm hS
      replace h0 := h0.md hm (apart_ow f_o0 h0 (by decide))
      replace mf4_0_1 := mf4_0_1.md hm hS
      replace ha18 := ha18.md hm hS
      replace uQ := uQ.md hm
      replace M := M.stepO hm (fun b hb => Fsh.wid (f_o0.2 b hb).1)
      clear uQ; have uQ := uQ2; clear uQ2 sQ sT hS hv2
      refine st _ (r_assign rfl) ?_
      refine st_nil ?_
      refine n_block ?_
      refine c_then ?_
      refine c_region ?_
      refine st _ (r_move rfl) ?_
      refine st _ (r_subN (a := n) (b := 1) 9223372036854775808 rfl rfl rfl (by omega)) ?_
      refine st _ (r_assign rfl) ?_
      refine st_nil ?_
      refine c_then ?_
      refine next5 (x0 := m4_0) (x1 := mv4_0_0) (x2 := v7) (x3 := (o ++ ([x4_0]))) (x4 := (n - 1)) (by omega) ⟨rfl, (fitI rfl (by omega)), rfl, rfl, trivial⟩ ⟨Q9, tQ, sQ0, uQ, M, h0, mf4_0_1, mq4_0_0, hO6, n_h0, (by simp only [List.length_append, List.length_singleton]; omega), (by have hh := hr0; rw [pairs_step (by omega)] at hh; simp only [hF1, hF4] at hh; exact hh)⟩
    · skip
      first | (have h12n := of_decide_eq_false h12) | (have h12n := of_decide_eq_true (bnf h12)) | (have h12n := bnf h12) | (have h12n := h12)
      refine c_exit ?_
      refine x_then ?_
      refine x_then ?_
      refine x_hit ?_
      refine c_then ?_
      refine c_seq ?_
      refine c_region ?_
      refine st _ (r_move rfl) ?_
      refine st _ (r_assign rfl) ?_
      refine st_nil ?_
      refine c_then ?_
      refine c_ret ?_
      exact ret1L (v := vo) trivial rfl ⟨rfl, trivial⟩ ⟨_, o, x, _, rfl, M, (f_o.ls (fun b hb => tQ b hb) (Fsh.up uQ0)), h0, n0, kx_0, (f_x_l.sub (fun b hb _ => tQ b hb)), (by (try (simp (disch := first | omega | assumption | (simp; done) | fail) only [pairs_end, if_pos, if_neg, Option.getD_some, Option.some.injEq, reduceIte, Bool.false_eq_true, Bool.true_eq_false, decide_true, decide_false, not_true_eq_false, not_false_eq_true, hF1, h12n] at hr0)); rw [Sq.pairs] <;> simp (disch := first | omega | assumption | (simp; done) | fail) only [if_pos, if_neg, Option.getD_some, Option.some.injEq, reduceIte, Bool.false_eq_true, Bool.true_eq_false, decide_true, decide_false, not_true_eq_false, not_false_eq_true, hF1, hr00, h12n, ← hr0])⟩
end Go.Proofs.Ytimakajeggeebaa
