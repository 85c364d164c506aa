/- Walks of functions: what each call returns, over data. -/
import Derived.Test.YtahkddpdhmhfcaaRows
import Derived.Test.YtahkddpdhmhfcaaLeP
namespace Go.Proofs.Ytahkddpdhmhfcaa
open Go Go.Wk Go.RowKit
set_option linter.unusedVariables false
set_option linter.unusedSimpArgs false
attribute [local irreducible] wpList wpQuiet wpStill wpMix Code.wp Calls bodyPost

theorem leSize_any {w : World} {Q : Nat → Prop} (uQ : Up w Q) (n : Int) (a0 : (-9223372036854775808 ≤ n ∧ n < 9223372036854775808)) :
    Calls Try.prog 56 #[(.int .i64 (n : Int))] w fun en w' => ∃ r0 : Bool, en = .returned (.bool r0) ∧ Md [] w w' ∧ sizeOk n = r0 := by
  have M := Md.refl [] w
  have uQ0 := uQ
  have tQ : ∀ b, Q b → Q b := fun _ h => h
  have sQ0 : ∀ b, Q b → b < w.heap.size → Q b := fun _ h _ => h
  refine enter (n := 17) Try.func56 rfl rfl rfl ?_
  intro B
  refine c_seq ?_
  refine c_region ?_
  refine st _ (r_assign rfl) ?_
  refine st_nil ?_
  refine c_then ?_
  refine c_seq ?_
  refine c_region ?_
  refine st _ (r_move rfl) ?_
  refine st _ (r_eq (a := n) (b := 1) rfl rfl) ?_
  refine st _ (r_move rfl) ?_
  refine part_n (t := 5) rfl (fun h5 => ?_) (fun h5 => ?_)
  · skip
    first | (have h5n := of_decide_eq_true h5) | (have h5n := of_decide_eq_false (bnt h5)) | (have h5n := bnt h5) | (have h5n := h5)
    refine st_skip rfl rfl rfl h5 ?_
    refine st_skip rfl rfl rfl h5 ?_
    refine st _ (r_pick_t rfl h5 rfl) ?_
    refine st _ (r_move rfl) ?_
    refine st_skip rfl rfl rfl rfl ?_
    refine st_skip rfl rfl rfl rfl ?_
    refine st _ (r_pick_t rfl rfl rfl) ?_
    refine st _ (r_move rfl) ?_
    refine st_skip rfl rfl rfl rfl ?_
    refine st_skip rfl rfl rfl rfl ?_
    refine st _ (r_pick_t rfl rfl rfl) ?_
    refine st _ (r_assign rfl) ?_
    refine st_nil ?_
    refine c_then ?_
    refine c_ret ?_
    exact ret1L (v := (.bool true)) trivial rfl ⟨rfl, trivial⟩ ⟨true, rfl, M, (by simp only [sizeOk]; first | exact decide_eq_true (by omega) | exact decide_eq_false (by omega) | exact (decide_eq_decide.2 (by omega)))⟩
  · skip
    first | (have h5n := of_decide_eq_false h5) | (have h5n := of_decide_eq_true (bnf h5)) | (have h5n := bnf h5) | (have h5n := h5)
    refine st_g _ rfl rfl rfl h5 (r_move rfl) ?_
    refine st_g _ rfl rfl rfl h5 (r_eq (a := n) (b := 2) rfl rfl) ?_
    refine st _ (r_pick_f rfl h5 rfl) ?_
    refine st _ (r_move rfl) ?_
    refine part_n (t := 9) rfl (fun h9 => ?_) (fun h9 => ?_)
    · skip
      first | (have h9n := of_decide_eq_true h9) | (have h9n := of_decide_eq_false (bnt h9)) | (have h9n := bnt h9) | (have h9n := h9)
      refine st_skip rfl rfl rfl h9 ?_
      refine st_skip rfl rfl rfl h9 ?_
      refine st _ (r_pick_t rfl h9 rfl) ?_
      refine st _ (r_move rfl) ?_
      refine st_skip rfl rfl rfl rfl ?_
      refine st_skip rfl rfl rfl rfl ?_
      refine st _ (r_pick_t rfl rfl rfl) ?_
      refine st _ (r_assign rfl) ?_
      refine st_nil ?_
      refine c_then ?_
      refine c_ret ?_
      exact ret1L (v := (.bool true)) trivial rfl ⟨rfl, trivial⟩ ⟨true, rfl, M, (by simp only [sizeOk]; first | exact decide_eq_true (by omega) | exact decide_eq_false (by omega) | exact (decide_eq_decide.2 (by omega)))⟩
    · skip
      first | (have h9n := of_decide_eq_false h9) | (have h9n := of_decide_eq_true (bnf h9)) | (have h9n := bnf h9) | (have h9n := h9)
      refine st_g _ rfl rfl rfl h9 (r_move rfl) ?_
      refine st_g _ rfl rfl rfl h9 (r_eq (a := n) (b := 4) rfl rfl) ?_
      refine st _ (r_pick_f rfl h9 rfl) ?_
      refine st _ (r_move rfl) ?_
      refine part_n (t := 13) rfl (fun h13 => ?_) (fun h13 => ?_)
      · skip
        first | (have h13n := of_decide_eq_true h13) | (have h13n := of_decide_eq_false (bnt h13)) | (have h13n := bnt h13) | (have h13n := h13)
        refine st_skip rfl rfl rfl h13 ?_
        refine st_skip rfl rfl rfl h13 ?_
        refine st _ (r_pick_t rfl h13 rfl) ?_
        refine st _ (r_assign rfl) ?_
        refine st_nil ?_
        refine c_then ?_
        refine c_ret ?_
        exact ret1L (v := (.bool true)) trivial rfl ⟨rfl, trivial⟩ ⟨true, rfl, M, (by simp only [sizeOk]; first | exact decide_eq_true (by omega) | exact decide_eq_false (by omega) | exact (decide_eq_decide.2 (by omega)))⟩
      · skip
        first | (have h13n := of_decide_eq_false h13) | (have h13n := of_decide_eq_true (bnf h13)) | (have h13n := bnf h13) | (have h13n := h13)
        refine st_g _ rfl rfl rfl h13 (r_move rfl) ?_
        refine st_g _ rfl rfl rfl h13 (r_eq (a := n) (b := 8) rfl rfl) ?_
        refine st _ (r_pick_f rfl h13 rfl) ?_
        refine st _ (r_assign rfl) ?_
        refine st_nil ?_
        refine c_then ?_
        refine c_ret ?_
        exact ret1L (v := (.bool ((decide (n = 8))))) trivial rfl ⟨rfl, trivial⟩ ⟨(decide (n = 8)), rfl, M, (by simp only [sizeOk]; first | exact decide_eq_true (by omega) | exact decide_eq_false (by omega) | exact (decide_eq_decide.2 (by omega)))⟩
end Go.Proofs.Ytahkddpdhmhfcaa
