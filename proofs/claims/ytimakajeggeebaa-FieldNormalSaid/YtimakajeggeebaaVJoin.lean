/- Walks of functions: what each call returns, over data. -/
import Derived.Test.YtimakajeggeebaaRows
import Derived.Test.YtimakajeggeebaaVName
import Derived.Test.YtimakajeggeebaaVRef
namespace Go.Proofs.Ytimakajeggeebaa
open Go Go.Wk Go.RowKit
set_option linter.unusedVariables false
set_option linter.unusedSimpArgs false
attribute [local irreducible] wpList wpQuiet wpStill wpMix Code.wp Calls bodyPost
theorem agg44 : isAggN Try.prog 44 2 = true := by kernel_rfl
theorem fn38 : isFn Try.prog 38 = true := by kernel_rfl
theorem fn39 : isFn Try.prog 39 = true := by kernel_rfl

theorem rJoin_any {w : World} {Q : Nat → Prop} (uQ : Up w Q) (p : Pr) (p0 : p.name.length ≤ 9223372036854775807) :
    Calls Try.prog 35 #[.agg (Pr.cells p).toArray] w fun en w' => ∃ u0 : Value, ∃ r0 : List UInt8, ∃ r1 : Nat, en = .returned (.tuple #[u0, (.int .i64 ((r1 : Nat) : Int))]) ∧ Md [] w w' ∧ Ls tB8 w' Q u0 r0 ∧ r1 < 9223372036854775808 ∧ joinF p = (r0, r1) := by
  have M := Md.refl [] w
  have uQ0 := uQ
  have tQ : ∀ b, Q b → Q b := fun _ h => h
  have sQ0 : ∀ b, Q b → b < w.heap.size → Q b := fun _ h _ => h
  refine enter (n := 15) Try.func35 rfl rfl rfl ?_
  intro B
  refine c_seq ?_
  refine c_region ?_
  refine st_box (cs := (Pr.cells p)) rfl rfl ?_
  intro ba1 w1 ga1 la1 hm ha1
  have n_ha1 := uQ _ ga1
  replace ga1 := Nat.le_trans M.size ga1
  replace uQ := uQ.md hm
  replace M := M.step0 hm
  have p_ha1 : Fsh [] w ba1 := .inr ga1
  refine st _ (r_assign rfl) ?_
  refine st _ (r_assign rfl) ?_
  refine st_nil ?_
  refine c_then ?_
  refine c_seq ?_
  refine c_seq ?_
  refine c_region ?_
  refine st _ (r_field rfl off44_0) ?_
  refine st _ ((r_loadBlk rfl one9 ha1 rfl).to (b := (str p.name)) rfl) ?_
  refine st_call fn38 rfl (rName_any uQ p.name (by first | omega | (simp <;> omega) | (simp at * <;> omega))) ?_
  rintro en w2 ⟨x2_0, rfl, hm, hF2⟩; refine ⟨_, rfl, ?_⟩
  replace ha1 := ha1.md0 hm
  replace uQ := uQ.md hm
  replace M := M.step0 hm
  refine st _ (r_not rfl) ?_
  refine st_nil ?_
  refine c_then ?_
  refine c_if rfl (fun h7 => ?_) (fun h7 => ?_)
  · skip
    first | (have h7n := of_decide_eq_true h7) | (have h7n := of_decide_eq_false (bnt h7)) | (have h7n := bnt h7) | (have h7n := h7)
    refine c_seq ?_
    refine c_region ?_
    refine st _ (r_assign rfl) ?_
    refine st _ (r_assign rfl) ?_
    refine st_nil ?_
    refine c_then ?_
    refine c_ret ?_
    refine r_then ?_
    exact retL (vs := [(.slice none 0 0), (.int .i64 ((1 : Nat) : Int))]) trivial rfl ⟨rfl, rfl, trivial⟩ rfl ⟨_, [], 1, rfl, M, (Ls.nil _ _ _), (by first | assumption | omega | simp_all), (by rw [joinF] <;> simp (disch := first | omega | assumption | (simp; done) | fail) only [if_pos, if_neg, Option.getD_some, Option.some.injEq, reduceIte, Bool.false_eq_true, Bool.true_eq_false, decide_true, decide_false, not_true_eq_false, not_false_eq_true, hF2, h7n])⟩
  · skip
    first | (have h7n := of_decide_eq_false h7) | (have h7n := of_decide_eq_true (bnf h7)) | (have h7n := bnf h7) | (have h7n := h7)
    refine c_skip ?_
    refine c_then ?_
    refine c_seq ?_
    refine c_seq ?_
    refine c_region ?_
    refine st _ (r_field rfl off44_1) ?_
    refine st _ ((r_loadBlk rfl one9 ha1 rfl).to (b := (str p.value)) rfl) ?_
    refine st _ (r_lenS (s := p.value) rfl u9) ?_
    refine st _ (r_gtN (a := p.value.length) (b := 256) rfl rfl) ?_
    refine st_nil ?_
    refine c_then ?_
    refine c_if rfl (fun h11 => ?_) (fun h11 => ?_)
    · skip
      first | (have h11n := of_decide_eq_true h11) | (have h11n := of_decide_eq_false (bnt h11)) | (have h11n := bnt h11) | (have h11n := h11)
      refine c_seq ?_
      refine c_region ?_
      refine st _ (r_assign rfl) ?_
      refine st _ (r_assign rfl) ?_
      refine st_nil ?_
      refine c_then ?_
      refine c_ret ?_
      refine r_then ?_
      exact retL (vs := [(.slice none 0 0), (.int .i64 ((21 : Nat) : Int))]) trivial rfl ⟨rfl, rfl, trivial⟩ rfl ⟨_, [], 21, rfl, M, (Ls.nil _ _ _), (by first | assumption | omega | simp_all), (by rw [joinF] <;> simp (disch := first | omega | assumption | (simp; done) | fail) only [if_pos, if_neg, Option.getD_some, Option.some.injEq, reduceIte, Bool.false_eq_true, Bool.true_eq_false, decide_true, decide_false, not_true_eq_false, not_false_eq_true, hF2, h7n, h11n])⟩
    · skip
      first | (have h11n := of_decide_eq_false h11) | (have h11n := of_decide_eq_true (bnf h11)) | (have h11n := bnf h11) | (have h11n := h11)
      refine c_skip ?_
      refine c_then ?_
      refine c_seq ?_
      refine c_region ?_
      have nl := (name_len (s := p.name) (by simp_all)).2
      refine st _ (r_loadPart (Pr.cells p) rfl (by exact agg44) ha1 rfl) ?_
      refine st_call fn39 rfl (payload_any uQ p (by first | omega | (simp <;> omega) | (simp at * <;> omega))) ?_
      rintro en w3 ⟨x3_0, rfl, hm, hF3⟩; refine ⟨_, rfl, ?_⟩
      replace ha1 := ha1.md0 hm
      replace uQ := uQ.md hm
      replace M := M.step0 hm
      have a3_0 := payload_len p; rw [hF3] at a3_0; try simp only [List.length_cons, List.length_nil, List.length_append, List.length_replicate, Nat.zero_add, Nat.reduceAdd, Nat.reduceMul] at a3_0
      refine st_convSB (s := x3_0) u9 u25 u5 rfl (by simp [maxLen]; omega) ?_
      intro va14 w4 hm ha14 fa14
      replace ha14 := Ls.of_by (Q := Q) ha14 (fun b hb _ => uQ b (fa14 b hb).1)
      replace fa14 : ∀ b, vblock va14 = some b → w.heap.size ≤ b := fun b hb => Nat.le_trans M.size (fa14 b hb).1
      replace ha1 := ha1.md0 hm
      replace uQ := uQ.md hm
      replace M := M.step0 hm
      refine st _ (r_assign rfl) ?_
      refine st _ (r_assign rfl) ?_
      refine st_nil ?_
      refine c_then ?_
      refine c_ret ?_
      exact retL (vs := [va14, (.int .i64 ((0 : Nat) : Int))]) trivial rfl ⟨rfl, rfl, trivial⟩ rfl ⟨_, x3_0, 0, rfl, M, (ha14.sub (fun b hb _ => tQ b hb)), (by first | assumption | omega | simp_all), (by rw [joinF] <;> simp (disch := first | omega | assumption | (simp; done) | fail) only [if_pos, if_neg, Option.getD_some, Option.some.injEq, reduceIte, Bool.false_eq_true, Bool.true_eq_false, decide_true, decide_false, not_true_eq_false, not_false_eq_true, hF2, h7n, h11n, hF3])⟩
end Go.Proofs.Ytimakajeggeebaa
