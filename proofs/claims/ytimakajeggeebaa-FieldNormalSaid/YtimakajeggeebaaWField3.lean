/- Walks of functions: what each call returns. -/
import Derived.Test.YtimakajeggeebaaRows
import Derived.Test.YtimakajeggeebaaDraws
import Derived.Test.YtimakajeggeebaaFieldP
import Derived.Test.YtimakajeggeebaaWField
import Derived.Test.YtimakajeggeebaaWField2
namespace Go.Proofs.Ytimakajeggeebaa
open Go Go.Wk Go.RowKit
attribute [local irreducible] wpList wpQuiet wpStill wpMix Code.wp Calls bodyPost
theorem fn101 : isFn Try.prog 101 = true := by kernel_rfl
theorem fn33 : isFn Try.prog 33 = true := by kernel_rfl
theorem fn34 : isFn Try.prog 34 = true := by kernel_rfl
theorem fn35 : isFn Try.prog 35 = true := by kernel_rfl
theorem fn36 : isFn Try.prog 36 = true := by kernel_rfl
theorem fn38 : isFn Try.prog 38 = true := by kernel_rfl
theorem fn39 : isFn Try.prog 39 = true := by kernel_rfl
theorem fn67 : isFn Try.prog 67 = true := by kernel_rfl
theorem fn82 : isFn Try.prog 82 = true := by kernel_rfl

theorem rname_any (s : List UInt8) (w : World) (hl : s.length ≤ 9223372036854775807) : Calls Try.prog 38 #[str s] w fun e w' => e = .returned (.bool (isName s)) ∧ w = w' := by
  have M := Md.refl [] w
  refine enter (n := 44) Try.func38 rfl rfl rfl ?_
  intro B
  refine c_seq ?_
  refine c_region ?_
  refine st _ (r_assign rfl) ?_
  refine st_nil ?_
  refine c_then ?_
  refine c_seq ?_
  refine c_seq ?_
  refine c_region ?_
  refine st _ (r_assign rfl) ?_
  refine st_nil ?_
  refine c_then ?_
  refine c_block ?_
  refine c_loop (X := Nat) (fun i => [(0, str s), (3, .int .i64 i)]) (fun i w' => w = w' ∧ i ≤ s.length ∧ ∀ j, j < i → nameC (s.getD j 0) = true ∧ (j = 0 → digit (s.getD j 0) = false)) (fun i => s.length - i) 0 ?_ ?_ ?_
  · exact ⟨rfl, rfl, trivial⟩
  · exact ⟨rfl, by omega, fun j hj => by omega⟩
  · clear M
    rintro i B w1 ⟨rfl, hi, h4⟩
    have M := Md.refl [] w
    refine c_seq ?_
    refine c_seq ?_
    refine c_region ?_
    refine st _ (r_move rfl) ?_
    refine st _ (r_move rfl) ?_
    refine st _ (r_lenS rfl u9) ?_
    refine st _ (r_lt rfl rfl) ?_
    refine st_nil ?_
    refine c_then ?_
    refine c_if rfl (fun h8 => ?_) (fun h8 => ?_)
    · skip
      first | (have h8n := of_decide_eq_true h8) | (have h8n := of_decide_eq_false (bnt h8)) | (have h8n := bnt h8) | (have h8n := h8)
      refine c_skip ?_
      refine c_then ?_
      refine c_seq ?_
      refine c_block ?_
      refine c_seq ?_
      refine c_region ?_
      refine st _ (r_move rfl) ?_
      refine st _ (r_move rfl) ?_
      refine st _ (r_idxSN rfl rfl u9 (by omega)) ?_
      refine st _ (r_assign rfl) ?_
      refine st_nil ?_
      refine c_then ?_
      refine c_seq ?_
      refine c_seq ?_
      refine c_region ?_
      refine st _ (r_move rfl) ?_
      refine st _ (r_ge rfl rfl) ?_
      refine st _ (r_move rfl) ?_
      refine part_n (t := 16) rfl (fun h16 => ?_) (fun h16 => ?_)
      · skip
        first | (have h16n := of_decide_eq_true h16) | (have h16n := of_decide_eq_false (bnt h16)) | (have h16n := bnt h16) | (have h16n := h16)
        refine st_g _ rfl rfl rfl h16 (r_move rfl) ?_
        refine st_g _ rfl rfl rfl h16 (r_le rfl rfl) ?_
        refine st _ (r_pick_t rfl h16 rfl) ?_
        refine st _ (r_move rfl) ?_
        refine part_n (t := 20) rfl (fun h20 => ?_) (fun h20 => ?_)
        · skip
          first | (have h20n := of_decide_eq_true h20) | (have h20n := of_decide_eq_false (bnt h20)) | (have h20n := bnt h20) | (have h20n := h20)
          refine st_g _ rfl rfl rfl h20 (r_move rfl) ?_
          refine st_g _ rfl rfl rfl h20 (r_gt rfl rfl) ?_
          refine st _ (r_pick_t rfl h20 rfl) ?_
          refine st _ (r_move rfl) ?_
          refine part_n (t := 24) rfl (fun h24 => ?_) (fun h24 => ?_)
          · skip
            first | (have h24n := of_decide_eq_true h24) | (have h24n := of_decide_eq_false (bnt h24)) | (have h24n := bnt h24) | (have h24n := h24)
            refine st_skip rfl rfl rfl h24 ?_
            refine st_skip rfl rfl rfl h24 ?_
            refine st_skip rfl rfl rfl h24 ?_
            refine st_skipU rfl rfl rfl ?_
            refine st_skipU rfl rfl rfl ?_
            refine st_skip rfl rfl rfl h24 ?_
            refine st _ (r_pick_t rfl h24 rfl) ?_
            refine st _ (r_move rfl) ?_
            refine st_skip rfl rfl rfl rfl ?_
            refine st_skip rfl rfl rfl rfl ?_
            refine st _ (r_pick_t rfl rfl rfl) ?_
            refine st_nil ?_
            refine c_then ?_
            refine c_if_t rfl rfl ?_
            refine c_exit ?_
            refine x_then ?_
            refine x_hit ?_
            refine c_then ?_
            refine c_region ?_
            refine st _ (r_move rfl) ?_
            refine st _ (r_addI rfl rfl (by omega)) ?_
            refine st _ (r_assign rfl) ?_
            refine st_nil ?_
            refine c_then ?_
            refine next (i + 1) (by omega) ⟨rfl, fitI rfl (by simp), trivial⟩ ?_
            exact ⟨rfl, by omega, fun j hj => by
              rcases Nat.lt_or_eq_of_le (Nat.le_of_lt_succ hj) with h | h
              · exact h4 j h
              · subst h; exact ⟨by unfold nameC; exact decide_eq_true (by omega), fun h0 => by unfold digit; exact decide_eq_false (by omega)⟩⟩
          · skip
            first | (have h24n := of_decide_eq_false h24) | (have h24n := of_decide_eq_true (bnf h24)) | (have h24n := bnf h24) | (have h24n := h24)
            refine st_g _ rfl rfl rfl h24 (r_move rfl) ?_
            refine st_g _ rfl rfl rfl h24 (r_ge rfl rfl) ?_
            refine st_g _ rfl rfl rfl h24 (r_move rfl) ?_
            refine part_n (t := 27) rfl (fun h27 => ?_) (fun h27 => ?_)
            · skip
              first | (have h27n := of_decide_eq_true h27) | (have h27n := of_decide_eq_false (bnt h27)) | (have h27n := bnt h27) | (have h27n := h27)
              refine st_g _ rfl rfl rfl h27 (r_move rfl) ?_
              refine st_g _ rfl rfl rfl h27 (r_le rfl rfl) ?_
              refine st_g _ rfl rfl rfl h24 (r_pick_t rfl h27 rfl) ?_
              refine st _ (r_pick_f rfl h24 rfl) ?_
              refine st _ (r_move rfl) ?_
              refine part_n (t := 32) rfl (fun h32 => ?_) (fun h32 => ?_)
              · skip
                first | (have h32n := of_decide_eq_true h32) | (have h32n := of_decide_eq_false (bnt h32)) | (have h32n := bnt h32) | (have h32n := h32)
                refine st_skip rfl rfl rfl h32 ?_
                refine st_skip rfl rfl rfl h32 ?_
                refine st _ (r_pick_t rfl h32 rfl) ?_
                refine st_nil ?_
                refine c_then ?_
                refine c_if_t rfl rfl ?_
                refine c_exit ?_
                refine x_then ?_
                refine x_hit ?_
                refine c_then ?_
                refine c_region ?_
                refine st _ (r_move rfl) ?_
                refine st _ (r_addI rfl rfl (by omega)) ?_
                refine st _ (r_assign rfl) ?_
                refine st_nil ?_
                refine c_then ?_
                refine next (i + 1) (by omega) ⟨rfl, fitI rfl (by simp), trivial⟩ ?_
                exact ⟨rfl, by omega, fun j hj => by
                  rcases Nat.lt_or_eq_of_le (Nat.le_of_lt_succ hj) with h | h
                  · exact h4 j h
                  · subst h; exact ⟨by unfold nameC; exact decide_eq_true (by omega), fun h0 => by unfold digit; exact decide_eq_false (by omega)⟩⟩
              · skip
                first | (have h32n := of_decide_eq_false h32) | (have h32n := of_decide_eq_true (bnf h32)) | (have h32n := bnf h32) | (have h32n := h32)
                refine st_g _ rfl rfl rfl h32 (r_move rfl) ?_
                refine st_g _ rfl rfl rfl h32 (r_eq rfl rfl) ?_
                refine st _ (r_pick_f rfl h32 rfl) ?_
                refine st_nil ?_
                refine c_then ?_
                refine c_if rfl (fun h35 => ?_) (fun h35 => ?_)
                · skip
                  first | (have h35n := of_decide_eq_true h35) | (have h35n := of_decide_eq_false (bnt h35)) | (have h35n := bnt h35) | (have h35n := h35)
                  refine c_exit ?_
                  refine x_then ?_
                  refine x_hit ?_
                  refine c_then ?_
                  refine c_region ?_
                  refine st _ (r_move rfl) ?_
                  refine st _ (r_addI rfl rfl (by omega)) ?_
                  refine st _ (r_assign rfl) ?_
                  refine st_nil ?_
                  refine c_then ?_
                  refine next (i + 1) (by omega) ⟨rfl, fitI rfl (by simp), trivial⟩ ?_
                  exact ⟨rfl, by omega, fun j hj => by
                    rcases Nat.lt_or_eq_of_le (Nat.le_of_lt_succ hj) with h | h
                    · exact h4 j h
                    · subst h; exact ⟨by unfold nameC; exact decide_eq_true (by omega), fun h0 => by unfold digit; exact decide_eq_false (by omega)⟩⟩
                · skip
                  first | (have h35n := of_decide_eq_false h35) | (have h35n := of_decide_eq_true (bnf h35)) | (have h35n := bnf h35) | (have h35n := h35)
                  refine c_skip ?_
                  refine c_then ?_
                  refine c_seq ?_
                  refine c_region ?_
                  refine st _ (r_assign rfl) ?_
                  refine st_nil ?_
                  refine c_then ?_
                  refine c_ret ?_
                  refine r_block ?_
                  refine r_then ?_
                  refine r_then ?_
                  refine r_block ?_
                  refine r_then ?_
                  exact ret1 trivial rfl rfl ⟨retB (by cases hh : isName s with | false => rfl | true => (exfalso; have hl := name_len hh; have hd := name_dig hh; have ha := name_at hh i (by omega); rcases Nat.eq_zero_or_pos i with h0 | h0 <;> first | omega | (subst h0; omega))), rfl⟩
            · skip
              first | (have h27n := of_decide_eq_false h27) | (have h27n := of_decide_eq_true (bnf h27)) | (have h27n := bnf h27) | (have h27n := h27)
              refine st_skip rfl rfl rfl h27 ?_
              refine st_skip rfl rfl rfl h27 ?_
              refine st_g _ rfl rfl rfl h24 (r_pick_f rfl h27 rfl) ?_
              refine st _ (r_pick_f rfl h24 rfl) ?_
              refine st _ (r_move rfl) ?_
              refine st_g _ rfl rfl rfl rfl (r_move rfl) ?_
              refine st_g _ rfl rfl rfl rfl (r_eq rfl rfl) ?_
              refine st _ (r_pick_f rfl rfl rfl) ?_
              refine st_nil ?_
              refine c_then ?_
              refine c_if rfl (fun h35 => ?_) (fun h35 => ?_)
              · skip
                first | (have h35n := of_decide_eq_true h35) | (have h35n := of_decide_eq_false (bnt h35)) | (have h35n := bnt h35) | (have h35n := h35)
                refine c_exit ?_
                refine x_then ?_
                refine x_hit ?_
                refine c_then ?_
                refine c_region ?_
                refine st _ (r_move rfl) ?_
                refine st _ (r_addI rfl rfl (by omega)) ?_
                refine st _ (r_assign rfl) ?_
                refine st_nil ?_
                refine c_then ?_
                refine next (i + 1) (by omega) ⟨rfl, fitI rfl (by simp), trivial⟩ ?_
                exact ⟨rfl, by omega, fun j hj => by
                  rcases Nat.lt_or_eq_of_le (Nat.le_of_lt_succ hj) with h | h
                  · exact h4 j h
                  · subst h; exact ⟨by unfold nameC; exact decide_eq_true (by omega), fun h0 => by unfold digit; exact decide_eq_false (by omega)⟩⟩
              · skip
                first | (have h35n := of_decide_eq_false h35) | (have h35n := of_decide_eq_true (bnf h35)) | (have h35n := bnf h35) | (have h35n := h35)
                refine c_skip ?_
                refine c_then ?_
                refine c_seq ?_
                refine c_region ?_
                refine st _ (r_assign rfl) ?_
                refine st_nil ?_
                refine c_then ?_
                refine c_ret ?_
                refine r_block ?_
                refine r_then ?_
                refine r_then ?_
                refine r_block ?_
                refine r_then ?_
                exact ret1 trivial rfl rfl ⟨retB (by cases hh : isName s with | false => rfl | true => (exfalso; have hl := name_len hh; have hd := name_dig hh; have ha := name_at hh i (by omega); rcases Nat.eq_zero_or_pos i with h0 | h0 <;> first | omega | (subst h0; omega))), rfl⟩
        · skip
          first | (have h20n := of_decide_eq_false h20) | (have h20n := of_decide_eq_true (bnf h20)) | (have h20n := bnf h20) | (have h20n := h20)
          refine st_skip rfl rfl rfl h20 ?_
          refine st_skip rfl rfl rfl h20 ?_
          refine st _ (r_pick_f rfl h20 rfl) ?_
          refine st _ (r_move rfl) ?_
          refine st_g _ rfl rfl rfl rfl (r_move rfl) ?_
          refine st_g _ rfl rfl rfl rfl (r_ge rfl rfl) ?_
          refine st_g _ rfl rfl rfl rfl (r_move rfl) ?_
          refine part_n (t := 27) rfl (fun h27 => ?_) (fun h27 => ?_)
          · skip
            first | (have h27n := of_decide_eq_true h27) | (have h27n := of_decide_eq_false (bnt h27)) | (have h27n := bnt h27) | (have h27n := h27)
            refine st_g _ rfl rfl rfl h27 (r_move rfl) ?_
            refine st_g _ rfl rfl rfl h27 (r_le rfl rfl) ?_
            refine st_g _ rfl rfl rfl rfl (r_pick_t rfl h27 rfl) ?_
            refine st _ (r_pick_f rfl rfl rfl) ?_
            refine st _ (r_move rfl) ?_
            refine part_n (t := 32) rfl (fun h32 => ?_) (fun h32 => ?_)
            · skip
              first | (have h32n := of_decide_eq_true h32) | (have h32n := of_decide_eq_false (bnt h32)) | (have h32n := bnt h32) | (have h32n := h32)
              refine st_skip rfl rfl rfl h32 ?_
              refine st_skip rfl rfl rfl h32 ?_
              refine st _ (r_pick_t rfl h32 rfl) ?_
              refine st_nil ?_
              refine c_then ?_
              refine c_if_t rfl rfl ?_
              refine c_exit ?_
              refine x_then ?_
              refine x_hit ?_
              refine c_then ?_
              refine c_region ?_
              refine st _ (r_move rfl) ?_
              refine st _ (r_addI rfl rfl (by omega)) ?_
              refine st _ (r_assign rfl) ?_
              refine st_nil ?_
              refine c_then ?_
              refine next (i + 1) (by omega) ⟨rfl, fitI rfl (by simp), trivial⟩ ?_
              exact ⟨rfl, by omega, fun j hj => by
                rcases Nat.lt_or_eq_of_le (Nat.le_of_lt_succ hj) with h | h
                · exact h4 j h
                · subst h; exact ⟨by unfold nameC; exact decide_eq_true (by omega), fun h0 => by unfold digit; exact decide_eq_false (by omega)⟩⟩
            · skip
              first | (have h32n := of_decide_eq_false h32) | (have h32n := of_decide_eq_true (bnf h32)) | (have h32n := bnf h32) | (have h32n := h32)
              refine st_g _ rfl rfl rfl h32 (r_move rfl) ?_
              refine st_g _ rfl rfl rfl h32 (r_eq rfl rfl) ?_
              refine st _ (r_pick_f rfl h32 rfl) ?_
              refine st_nil ?_
              refine c_then ?_
              refine c_if rfl (fun h35 => ?_) (fun h35 => ?_)
              · skip
                first | (have h35n := of_decide_eq_true h35) | (have h35n := of_decide_eq_false (bnt h35)) | (have h35n := bnt h35) | (have h35n := h35)
                refine c_exit ?_
                refine x_then ?_
                refine x_hit ?_
                refine c_then ?_
                refine c_region ?_
                refine st _ (r_move rfl) ?_
                refine st _ (r_addI rfl rfl (by omega)) ?_
                refine st _ (r_assign rfl) ?_
                refine st_nil ?_
                refine c_then ?_
                refine next (i + 1) (by omega) ⟨rfl, fitI rfl (by simp), trivial⟩ ?_
                exact ⟨rfl, by omega, fun j hj => by
                  rcases Nat.lt_or_eq_of_le (Nat.le_of_lt_succ hj) with h | h
                  · exact h4 j h
                  · subst h; exact ⟨by unfold nameC; exact decide_eq_true (by omega), fun h0 => by unfold digit; exact decide_eq_false (by omega)⟩⟩
              · skip
                first | (have h35n := of_decide_eq_false h35) | (have h35n := of_decide_eq_true (bnf h35)) | (have h35n := bnf h35) | (have h35n := h35)
                refine c_skip ?_
                refine c_then ?_
                refine c_seq ?_
                refine c_region ?_
                refine st _ (r_assign rfl) ?_
                refine st_nil ?_
                refine c_then ?_
                refine c_ret ?_
                refine r_block ?_
                refine r_then ?_
                refine r_then ?_
                refine r_block ?_
                refine r_then ?_
                exact ret1 trivial rfl rfl ⟨retB (by cases hh : isName s with | false => rfl | true => (exfalso; have hl := name_len hh; have hd := name_dig hh; have ha := name_at hh i (by omega); rcases Nat.eq_zero_or_pos i with h0 | h0 <;> first | omega | (subst h0; omega))), rfl⟩
          · skip
            first | (have h27n := of_decide_eq_false h27) | (have h27n := of_decide_eq_true (bnf h27)) | (have h27n := bnf h27) | (have h27n := h27)
            refine st_skip rfl rfl rfl h27 ?_
            refine st_skip rfl rfl rfl h27 ?_
            refine st_g _ rfl rfl rfl rfl (r_pick_f rfl h27 rfl) ?_
            refine st _ (r_pick_f rfl rfl rfl) ?_
            refine st _ (r_move rfl) ?_
            refine st_g _ rfl rfl rfl rfl (r_move rfl) ?_
            refine st_g _ rfl rfl rfl rfl (r_eq rfl rfl) ?_
            refine st _ (r_pick_f rfl rfl rfl) ?_
            refine st_nil ?_
            refine c_then ?_
            refine c_if rfl (fun h35 => ?_) (fun h35 => ?_)
            · skip
              first | (have h35n := of_decide_eq_true h35) | (have h35n := of_decide_eq_false (bnt h35)) | (have h35n := bnt h35) | (have h35n := h35)
              refine c_exit ?_
              refine x_then ?_
              refine x_hit ?_
              refine c_then ?_
              refine c_region ?_
              refine st _ (r_move rfl) ?_
              refine st _ (r_addI rfl rfl (by omega)) ?_
              refine st _ (r_assign rfl) ?_
              refine st_nil ?_
              refine c_then ?_
              refine next (i + 1) (by omega) ⟨rfl, fitI rfl (by simp), trivial⟩ ?_
              exact ⟨rfl, by omega, fun j hj => by
                rcases Nat.lt_or_eq_of_le (Nat.le_of_lt_succ hj) with h | h
                · exact h4 j h
                · subst h; exact ⟨by unfold nameC; exact decide_eq_true (by omega), fun h0 => by unfold digit; exact decide_eq_false (by omega)⟩⟩
            · skip
              first | (have h35n := of_decide_eq_false h35) | (have h35n := of_decide_eq_true (bnf h35)) | (have h35n := bnf h35) | (have h35n := h35)
              refine c_skip ?_
              refine c_then ?_
              refine c_seq ?_
              refine c_region ?_
              refine st _ (r_assign rfl) ?_
              refine st_nil ?_
              refine c_then ?_
              refine c_ret ?_
              refine r_block ?_
              refine r_then ?_
              refine r_then ?_
              refine r_block ?_
              refine r_then ?_
              exact ret1 trivial rfl rfl ⟨retB (by cases hh : isName s with | false => rfl | true => (exfalso; have hl := name_len hh; have hd := name_dig hh; have ha := name_at hh i (by omega); rcases Nat.eq_zero_or_pos i with h0 | h0 <;> first | omega | (subst h0; omega))), rfl⟩
      · skip
        first | (have h16n := of_decide_eq_false h16) | (have h16n := of_decide_eq_true (bnf h16)) | (have h16n := bnf h16) | (have h16n := h16)
        refine st_skip rfl rfl rfl h16 ?_
        refine st_skip rfl rfl rfl h16 ?_
        refine st _ (r_pick_f rfl h16 rfl) ?_
        refine st _ (r_move rfl) ?_
        refine st_skip rfl rfl rfl rfl ?_
        refine st_skip rfl rfl rfl rfl ?_
        refine st _ (r_pick_f rfl rfl rfl) ?_
        refine st _ (r_move rfl) ?_
        refine st_g _ rfl rfl rfl rfl (r_move rfl) ?_
        refine st_g _ rfl rfl rfl rfl (r_ge rfl rfl) ?_
        refine st_g _ rfl rfl rfl rfl (r_move rfl) ?_
        refine part_n (t := 27) rfl (fun h27 => ?_) (fun h27 => ?_)
        · skip
          first | (have h27n := of_decide_eq_true h27) | (have h27n := of_decide_eq_false (bnt h27)) | (have h27n := bnt h27) | (have h27n := h27)
          refine st_g _ rfl rfl rfl h27 (r_move rfl) ?_
          refine st_g _ rfl rfl rfl h27 (r_le rfl rfl) ?_
          refine st_g _ rfl rfl rfl rfl (r_pick_t rfl h27 rfl) ?_
          refine st _ (r_pick_f rfl rfl rfl) ?_
          refine st _ (r_move rfl) ?_
          refine part_n (t := 32) rfl (fun h32 => ?_) (fun h32 => ?_)
          · skip
            first | (have h32n := of_decide_eq_true h32) | (have h32n := of_decide_eq_false (bnt h32)) | (have h32n := bnt h32) | (have h32n := h32)
            refine st_skip rfl rfl rfl h32 ?_
            refine st_skip rfl rfl rfl h32 ?_
            refine st _ (r_pick_t rfl h32 rfl) ?_
            refine st_nil ?_
            refine c_then ?_
            refine c_if_t rfl rfl ?_
            refine c_exit ?_
            refine x_then ?_
            refine x_hit ?_
            refine c_then ?_
            refine c_region ?_
            refine st _ (r_move rfl) ?_
            refine st _ (r_addI rfl rfl (by omega)) ?_
            refine st _ (r_assign rfl) ?_
            refine st_nil ?_
            refine c_then ?_
            refine next (i + 1) (by omega) ⟨rfl, fitI rfl (by simp), trivial⟩ ?_
            exact ⟨rfl, by omega, fun j hj => by
              rcases Nat.lt_or_eq_of_le (Nat.le_of_lt_succ hj) with h | h
              · exact h4 j h
              · subst h; exact ⟨by unfold nameC; exact decide_eq_true (by omega), fun h0 => by unfold digit; exact decide_eq_false (by omega)⟩⟩
          · skip
            first | (have h32n := of_decide_eq_false h32) | (have h32n := of_decide_eq_true (bnf h32)) | (have h32n := bnf h32) | (have h32n := h32)
            refine st_g _ rfl rfl rfl h32 (r_move rfl) ?_
            refine st_g _ rfl rfl rfl h32 (r_eq rfl rfl) ?_
            refine st _ (r_pick_f rfl h32 rfl) ?_
            refine st_nil ?_
            refine c_then ?_
            refine c_if rfl (fun h35 => ?_) (fun h35 => ?_)
            · skip
              first | (have h35n := of_decide_eq_true h35) | (have h35n := of_decide_eq_false (bnt h35)) | (have h35n := bnt h35) | (have h35n := h35)
              refine c_exit ?_
              refine x_then ?_
              refine x_hit ?_
              refine c_then ?_
              refine c_region ?_
              refine st _ (r_move rfl) ?_
              refine st _ (r_addI rfl rfl (by omega)) ?_
              refine st _ (r_assign rfl) ?_
              refine st_nil ?_
              refine c_then ?_
              refine next (i + 1) (by omega) ⟨rfl, fitI rfl (by simp), trivial⟩ ?_
              exact ⟨rfl, by omega, fun j hj => by
                rcases Nat.lt_or_eq_of_le (Nat.le_of_lt_succ hj) with h | h
                · exact h4 j h
                · subst h; exact ⟨by unfold nameC; exact decide_eq_true (by omega), fun h0 => by unfold digit; exact decide_eq_false (by omega)⟩⟩
            · skip
              first | (have h35n := of_decide_eq_false h35) | (have h35n := of_decide_eq_true (bnf h35)) | (have h35n := bnf h35) | (have h35n := h35)
              refine c_skip ?_
              refine c_then ?_
              refine c_seq ?_
              refine c_region ?_
              refine st _ (r_assign rfl) ?_
              refine st_nil ?_
              refine c_then ?_
              refine c_ret ?_
              refine r_block ?_
              refine r_then ?_
              refine r_then ?_
              refine r_block ?_
              refine r_then ?_
              exact ret1 trivial rfl rfl ⟨retB (by cases hh : isName s with | false => rfl | true => (exfalso; have hl := name_len hh; have hd := name_dig hh; have ha := name_at hh i (by omega); rcases Nat.eq_zero_or_pos i with h0 | h0 <;> first | omega | (subst h0; omega))), rfl⟩
        · skip
          first | (have h27n := of_decide_eq_false h27) | (have h27n := of_decide_eq_true (bnf h27)) | (have h27n := bnf h27) | (have h27n := h27)
          refine st_skip rfl rfl rfl h27 ?_
          refine st_skip rfl rfl rfl h27 ?_
          refine st_g _ rfl rfl rfl rfl (r_pick_f rfl h27 rfl) ?_
          refine st _ (r_pick_f rfl rfl rfl) ?_
          refine st _ (r_move rfl) ?_
          refine st_g _ rfl rfl rfl rfl (r_move rfl) ?_
          refine st_g _ rfl rfl rfl rfl (r_eq rfl rfl) ?_
          refine st _ (r_pick_f rfl rfl rfl) ?_
          refine st_nil ?_
          refine c_then ?_
          refine c_if rfl (fun h35 => ?_) (fun h35 => ?_)
          · skip
            first | (have h35n := of_decide_eq_true h35) | (have h35n := of_decide_eq_false (bnt h35)) | (have h35n := bnt h35) | (have h35n := h35)
            refine c_exit ?_
            refine x_then ?_
            refine x_hit ?_
            refine c_then ?_
            refine c_region ?_
            refine st _ (r_move rfl) ?_
            refine st _ (r_addI rfl rfl (by omega)) ?_
            refine st _ (r_assign rfl) ?_
            refine st_nil ?_
            refine c_then ?_
            refine next (i + 1) (by omega) ⟨rfl, fitI rfl (by simp), trivial⟩ ?_
            exact ⟨rfl, by omega, fun j hj => by
              rcases Nat.lt_or_eq_of_le (Nat.le_of_lt_succ hj) with h | h
              · exact h4 j h
              · subst h; exact ⟨by unfold nameC; exact decide_eq_true (by omega), fun h0 => by unfold digit; exact decide_eq_false (by omega)⟩⟩
          · skip
            first | (have h35n := of_decide_eq_false h35) | (have h35n := of_decide_eq_true (bnf h35)) | (have h35n := bnf h35) | (have h35n := h35)
            refine c_skip ?_
            refine c_then ?_
            refine c_seq ?_
            refine c_region ?_
            refine st _ (r_assign rfl) ?_
            refine st_nil ?_
            refine c_then ?_
            refine c_ret ?_
            refine r_block ?_
            refine r_then ?_
            refine r_then ?_
            refine r_block ?_
            refine r_then ?_
            exact ret1 trivial rfl rfl ⟨retB (by cases hh : isName s with | false => rfl | true => (exfalso; have hl := name_len hh; have hd := name_dig hh; have ha := name_at hh i (by omega); rcases Nat.eq_zero_or_pos i with h0 | h0 <;> first | omega | (subst h0; omega))), rfl⟩
    · skip
      first | (have h8n := of_decide_eq_false h8) | (have h8n := of_decide_eq_true (bnf h8)) | (have h8n := bnf h8) | (have h8n := h8)
      refine c_exit ?_
      refine x_then ?_
      refine x_then ?_
      refine x_hit ?_
      refine c_then ?_
      refine c_seq ?_
      refine c_region ?_
      refine st _ (r_move rfl) ?_
      refine st _ (r_lenS rfl u9) ?_
      refine st _ (r_ge rfl rfl) ?_
      refine st _ (r_move rfl) ?_
      refine part_n (t := 39) rfl (fun h39 => ?_) (fun h39 => ?_)
      · skip
        first | (have h39n := of_decide_eq_true h39) | (have h39n := of_decide_eq_false (bnt h39)) | (have h39n := bnt h39) | (have h39n := h39)
        refine st_g _ rfl rfl rfl h39 (r_move rfl) ?_
        refine st_g _ rfl rfl rfl h39 (r_lenS rfl u9) ?_
        refine st_g _ rfl rfl rfl h39 (r_le rfl rfl) ?_
        refine st _ (r_pick_t rfl h39 rfl) ?_
        refine st _ (r_assign rfl) ?_
        refine st_nil ?_
        refine c_then ?_
        refine c_ret ?_
        exact ret1 trivial rfl rfl ⟨retB (name_fin (by omega) (fun j hj => h4 j (by omega))), rfl⟩
      · skip
        first | (have h39n := of_decide_eq_false h39) | (have h39n := of_decide_eq_true (bnf h39)) | (have h39n := bnf h39) | (have h39n := h39)
        refine st_skip rfl rfl rfl h39 ?_
        refine st_skip rfl rfl rfl h39 ?_
        refine st_skip rfl rfl rfl h39 ?_
        refine st _ (r_pick_f rfl h39 rfl) ?_
        refine st _ (r_assign rfl) ?_
        refine st_nil ?_
        refine c_then ?_
        refine c_ret ?_
        exact ret1 trivial rfl rfl ⟨retB (by cases hh : isName s with | false => rfl | true => (exfalso; have hl := name_len hh; have hd := name_dig hh; omega)), rfl⟩
theorem rpay_any (p : PairB) (w : World) (hl : p.1.length + p.2.length ≤ 4611686018427387904) : Calls Try.prog 39 #[pairv p] w fun e w' => e = .returned (str (whole p)) ∧ Md [] w w' := by
  have M := Md.refl [] w
  refine enter (n := 9) Try.func39 rfl rfl rfl ?_
  intro B
  refine c_seq ?_
  refine c_region ?_
  refine st_box rfl rfl ?_
  intro bP w1 gP lP hm hP
  replace gP := Nat.le_trans M.size gP
  replace M := M.step0 hm
  refine st _ (r_assign rfl) ?_
  refine st_nil ?_
  refine c_then ?_
  refine c_seq ?_
  refine c_region ?_
  refine st _ (r_field rfl off44_0) ?_
  refine st _ (r_loadBlk rfl one9 hP rfl) ?_
  refine st (str (p.1 ++ [61])) (r_addS rfl rfl (by first | omega | (simp; omega))) ?_
  refine st _ (r_field rfl off44_1) ?_
  refine st _ (r_loadBlk rfl one9 hP rfl) ?_
  refine st (str (p.1 ++ [61] ++ p.2)) (r_addS rfl rfl (by simp; omega)) ?_
  refine st _ (r_assign rfl) ?_
  refine st_nil ?_
  refine c_then ?_
  refine c_ret ?_
  exact ret1 trivial rfl rfl ⟨rfl, M⟩
theorem rright_any (p : PairB) (w : World) (hl : p.1.length ≤ 4611686018427387904) : Calls Try.prog 36 #[pairv p] w fun e w' => e = .returned (.bool (right p)) ∧ Md [] w w' := by
  have M := Md.refl [] w
  refine enter (n := 12) Try.func36 rfl rfl rfl ?_
  intro B
  refine c_seq ?_
  refine c_region ?_
  refine st_box rfl rfl ?_
  intro bP w1 gP lP hm hP
  replace gP := Nat.le_trans M.size gP
  replace M := M.step0 hm
  refine st _ (r_assign rfl) ?_
  refine st_nil ?_
  refine c_then ?_
  refine c_seq ?_
  refine c_region ?_
  refine st _ (r_field rfl off44_0) ?_
  refine st _ (r_loadBlk rfl one9 hP rfl) ?_
  refine st_call fn38 rfl (rname_any p.1 _ (by omega)) ?_
  rintro e _ ⟨rfl, rfl⟩; refine ⟨_, rfl, ?_⟩
  refine st _ (r_move rfl) ?_
  refine part_n (t := 6) rfl (fun h6 => ?_) (fun h6 => ?_)
  · skip
    first | (have h6n := of_decide_eq_true h6) | (have h6n := of_decide_eq_false (bnt h6)) | (have h6n := bnt h6) | (have h6n := h6)
    refine st_g _ rfl rfl rfl h6 (r_field rfl off44_1) ?_
    refine st_g _ rfl rfl rfl h6 (r_loadBlk rfl one9 hP rfl) ?_
    refine st_g _ rfl rfl rfl h6 (r_lenS rfl u9) ?_
    refine st_g _ rfl rfl rfl h6 (r_le rfl rfl) ?_
    refine st _ (r_pick_t rfl h6 rfl) ?_
    refine st _ (r_assign rfl) ?_
    refine st_nil ?_
    refine c_then ?_
    refine c_ret ?_
    exact ret1 trivial rfl rfl ⟨retB (by rw [right, h6n, Bool.true_and]; exact decide_eq_decide.2 (by omega)), M⟩
  · skip
    first | (have h6n := of_decide_eq_false h6) | (have h6n := of_decide_eq_true (bnf h6)) | (have h6n := bnf h6) | (have h6n := h6)
    refine st_skip rfl rfl rfl h6 ?_
    refine st_skip rfl rfl rfl h6 ?_
    refine st_skip rfl rfl rfl h6 ?_
    refine st_skip rfl rfl rfl h6 ?_
    refine st _ (r_pick_f rfl h6 rfl) ?_
    refine st _ (r_assign rfl) ?_
    refine st_nil ?_
    refine c_then ?_
    refine c_ret ?_
    exact ret1 trivial rfl rfl ⟨retB (by rw [right, h6n]; rfl), M⟩
theorem rjoin_any (p : PairB) (w : World) (hl : p.1.length ≤ 4611686018427387904) : Calls Try.prog 35 #[pairv p] w fun e w' => ∃ v, e = .returned (.tuple #[v, .int .i64 (joinC p)]) ∧ Md [] w w' ∧ By w' v (joinB p) := by
  have M := Md.refl [] w
  refine enter (n := 15) Try.func35 rfl rfl rfl ?_
  intro B
  refine c_seq ?_
  refine c_region ?_
  refine st_box rfl rfl ?_
  intro bP w1 gP lP hm hP
  replace gP := Nat.le_trans M.size gP
  replace M := M.step0 hm
  refine st _ (r_assign rfl) ?_
  refine st _ (r_assign rfl) ?_
  refine st_nil ?_
  refine c_then ?_
  refine c_seq ?_
  refine c_seq ?_
  refine c_region ?_
  refine st _ (r_field rfl off44_0) ?_
  refine st _ (r_loadBlk rfl one9 hP rfl) ?_
  refine st_call fn38 rfl (rname_any p.1 _ (by omega)) ?_
  rintro e _ ⟨rfl, rfl⟩; refine ⟨_, rfl, ?_⟩
  refine st _ (r_not rfl) ?_
  refine st_nil ?_
  refine c_then ?_
  refine c_if rfl (fun h7 => ?_) (fun h7 => ?_)
  · skip
    first | (have h7n := of_decide_eq_true h7) | (have h7n := of_decide_eq_false (bnt h7)) | (have h7n := bnt h7) | (have h7n := h7)
    refine c_seq ?_
    refine c_region ?_
    refine st _ (r_assign rfl) ?_
    refine st _ (r_assign rfl) ?_
    refine st_nil ?_
    refine c_then ?_
    refine c_ret ?_
    refine r_then ?_
    have hj : joinC p = 1 := by unfold joinC; rw [if_pos h7n]
    exact ret2 trivial rfl rfl rfl ⟨_, by rw [hj], M, by unfold joinB; rw [hj, if_neg (by decide)]; exact By.nil _⟩
  · skip
    first | (have h7n := of_decide_eq_false h7) | (have h7n := of_decide_eq_true (bnf h7)) | (have h7n := bnf h7) | (have h7n := h7)
    refine c_skip ?_
    refine c_then ?_
    refine c_seq ?_
    refine c_seq ?_
    refine c_region ?_
    refine st _ (r_field rfl off44_1) ?_
    refine st _ (r_loadBlk rfl one9 hP rfl) ?_
    refine st _ (r_lenS rfl u9) ?_
    refine st _ (r_gt rfl rfl) ?_
    refine st_nil ?_
    refine c_then ?_
    refine c_if rfl (fun h11 => ?_) (fun h11 => ?_)
    · skip
      first | (have h11n := of_decide_eq_true h11) | (have h11n := of_decide_eq_false (bnt h11)) | (have h11n := bnt h11) | (have h11n := h11)
      refine c_seq ?_
      refine c_region ?_
      refine st _ (r_assign rfl) ?_
      refine st _ (r_assign rfl) ?_
      refine st_nil ?_
      refine c_then ?_
      refine c_ret ?_
      refine r_then ?_
      have hj : joinC p = 21 := by unfold joinC; rw [if_neg (by simp [h7n]), if_pos (by omega)]
      exact ret2 trivial rfl rfl rfl ⟨_, by rw [hj], M, by unfold joinB; rw [hj, if_neg (by decide)]; exact By.nil _⟩
    · skip
      first | (have h11n := of_decide_eq_false h11) | (have h11n := of_decide_eq_true (bnf h11)) | (have h11n := bnf h11) | (have h11n := h11)
      refine c_skip ?_
      refine c_then ?_
      refine c_seq ?_
      have hj : joinC p = 0 := by unfold joinC; rw [if_neg (by simp [h7n]), if_neg (by omega)]
      have hnl := (name_len (s := p.1) (by simpa using h7n)).2
      refine c_region ?_
      refine st _ (r_loadAll rfl (by exact agg44) hP) ?_
      refine st_call fn39 rfl (rpay_any p _ (by omega)) ?_
      rintro e w2 ⟨rfl, hm⟩; refine ⟨_, rfl, ?_⟩
      replace hP := hP.md0 hm
      replace M := M.step0 hm
      refine st_convSB u9 u25 u5 rfl (by simp [whole, maxLen]; omega) ?_
      intro vC w3 hm hC fC
      replace hP := hP.md0 hm
      replace M := M.step0 hm
      refine st _ (r_assign rfl) ?_
      refine st _ (r_assign rfl) ?_
      refine st_nil ?_
      refine c_then ?_
      refine c_ret ?_
      exact ret2 trivial rfl rfl rfl ⟨_, by rw [hj], M, by unfold joinB; rw [hj, if_pos rfl]; exact hC⟩
theorem rsplit_any (v : Value) (l : List UInt8) (w : World) (hB : By w v l) (hl : l.length ≤ 4611686018427387904) :
    Calls Try.prog 34 #[v] w fun e w' => e = .returned (.tuple #[pairv (splitP l), .int .i64 (splitC l)]) ∧ Md [] w w' := by
  have hlen := hB.len63
  have M := Md.refl [] w
  refine enter (n := 41) Try.func34 rfl rfl rfl ?_
  intro B
  refine c_seq ?_
  refine c_region ?_
  refine st_alloc z44 ?_
  intro bR w1 gR lR hm hR
  replace gR := Nat.le_trans M.size gR
  replace M := M.step0 hm
  refine st _ (r_assign rfl) ?_
  refine st_nil ?_
  refine c_then ?_
  refine c_seq ?_
  refine c_seq ?_
  refine c_region ?_
  refine st _ (r_assign rfl) ?_
  refine st_nil ?_
  refine c_then ?_
  refine c_block ?_
  refine c_loop (X := Nat) (fun i => [(0, v), (2, .pointer (some ⟨bR, 0, none⟩)), (4, .int .i64 i)]) (fun i w' => Md [] w w' ∧ Blk w' bR [.string ByteArray.empty, .string ByteArray.empty] 44 ∧ i ≤ l.length ∧ ∀ j, j < i → l.getD j 0 ≠ 61) (fun i => l.length - i) 0 ?_ ?_ ?_
  · exact ⟨rfl, rfl, rfl, trivial⟩
  · exact ⟨M, hR, by omega, fun j hj => by omega⟩
  · clear M
    clear hR
    rintro i B w2 ⟨M, hR, hi, h4⟩
    refine c_seq ?_
    refine c_seq ?_
    refine c_region ?_
    refine st _ (r_move rfl) ?_
    refine st _ (r_move rfl) ?_
    refine st _ (r_len rfl u25 hB.shp) ?_
    refine st _ (r_lt rfl rfl) ?_
    refine st_nil ?_
    refine c_then ?_
    refine c_if rfl (fun h8 => ?_) (fun h8 => ?_)
    · skip
      first | (have h8n := of_decide_eq_true h8) | (have h8n := of_decide_eq_false (bnt h8)) | (have h8n := bnt h8) | (have h8n := h8)
      refine c_skip ?_
      refine c_then ?_
      refine c_seq ?_
      refine c_block ?_
      refine c_seq ?_
      refine c_seq ?_
      refine c_region ?_
      refine st _ (r_move rfl) ?_
      refine st _ (r_move rfl) ?_
      refine st _ (r_index rfl rfl u25 el5 hB.shp (by omega)) ?_
      refine st _ (r_loadB rfl one5 (hB.md0 M) (by omega)) ?_
      refine st _ (r_ne rfl rfl) ?_
      refine st_nil ?_
      refine c_then ?_
      refine c_if rfl (fun h15 => ?_) (fun h15 => ?_)
      · skip
        first | (have h15n := of_decide_eq_true h15) | (have h15n := of_decide_eq_false (bnt h15)) | (have h15n := bnt h15) | (have h15n := h15)
        refine c_exit ?_
        refine x_then ?_
        refine x_hit ?_
        refine c_then ?_
        refine c_region ?_
        refine st _ (r_move rfl) ?_
        refine st _ (r_addI rfl rfl (by omega)) ?_
        refine st _ (r_assign rfl) ?_
        refine st_nil ?_
        refine c_then ?_
        refine next (i + 1) (by omega) ⟨rfl, rfl, fitI rfl (by simp), trivial⟩ ?_
        exact ⟨M, hR, by omega, fun j hj => by
          rcases Nat.lt_or_eq_of_le (Nat.le_of_lt_succ hj) with h | h
          · exact h4 j h
          · subst h; intro hh; apply h15n; rw [Int.toNat_natCast, hh]; rfl⟩
      · skip
        first | (have h15n := of_decide_eq_false h15) | (have h15n := of_decide_eq_true (bnf h15)) | (have h15n := bnf h15) | (have h15n := h15)
        have h15m := h15n; rw [Int.toNat_natCast] at h15m
        have hix : Lib.indexByte l 61 = i := ix_at (by omega) (UInt8.toNat_inj.1 (by show _ = 61; omega)) h4
        refine c_skip ?_
        refine c_then ?_
        refine c_seq ?_
        refine c_seq ?_
        refine c_region ?_
        refine st _ (r_move rfl) ?_
        refine st _ (r_move rfl) ?_
        refine st _ (r_slice 0 i u25 el5 rfl hB.shp (by omega) (by omega) rfl ⟨_, rfl⟩) ?_
        refine st _ (r_convBS u25 u5 u9 rfl ((hB.head i (by omega)).md0 M)) ?_
        refine st_call fn38 rfl (rname_any (l.take i) _ (by simp; omega)) ?_
        rintro e _ ⟨rfl, rfl⟩; refine ⟨_, rfl, ?_⟩
        refine st _ (r_not rfl) ?_
        refine st_nil ?_
        refine c_then ?_
        refine c_if rfl (fun h21 => ?_) (fun h21 => ?_)
        · skip
          first | (have h21n := of_decide_eq_true h21) | (have h21n := of_decide_eq_false (bnt h21)) | (have h21n := bnt h21) | (have h21n := h21)
          refine c_seq ?_
          refine c_region ?_
          refine st (.agg [_, _].toArray) (r_build (ps := []) z44 pl44 rfl rfl trivial rfl rfl rfl) ?_
          refine st_storeAll rfl rfl (by exact agg44) (by simp [pairv, str, Value.oneCell']) hR (by first | rfl | simp) ?_
          have hR0 := hR
          clear hR
          intro w3 hm hR
          replace M := M.step1 hm gR
          refine st _ (r_assign rfl) ?_
          refine st_nil ?_
          refine c_then ?_
          refine c_ret ?_
          refine r_then ?_
          refine r_block ?_
          refine r_then ?_
          refine r_then ?_
          refine r_block ?_
          refine r_then ?_
          have hc : splitC l = 20 := by unfold splitC; rw [hix, if_neg (by omega), Int.toNat_natCast, if_pos h21n]
          have hp := split_bad (s := l) (by rw [hc]; decide)
          exact retc1 trivial rfl rfl (by exact agg44) hR rfl ⟨by rw [hc, hp]; rfl, M⟩
        · skip
          first | (have h21n := of_decide_eq_false h21) | (have h21n := of_decide_eq_true (bnf h21)) | (have h21n := bnf h21) | (have h21n := h21)
          refine c_skip ?_
          refine c_then ?_
          refine c_seq ?_
          refine c_seq ?_
          refine c_region ?_
          refine st _ (r_move rfl) ?_
          refine st _ (r_len rfl u25 hB.shp) ?_
          refine st _ (r_move rfl) ?_
          refine st _ (r_subI rfl rfl (by omega)) ?_
          refine st _ (r_subI rfl rfl (by omega)) ?_
          refine st _ (r_gt rfl rfl) ?_
          refine st_nil ?_
          refine c_then ?_
          refine c_if rfl (fun h28 => ?_) (fun h28 => ?_)
          · skip
            first | (have h28n := of_decide_eq_true h28) | (have h28n := of_decide_eq_false (bnt h28)) | (have h28n := bnt h28) | (have h28n := h28)
            refine c_seq ?_
            refine c_region ?_
            refine st (.agg [_, _].toArray) (r_build (ps := []) z44 pl44 rfl rfl trivial rfl rfl rfl) ?_
            refine st_storeAll rfl rfl (by exact agg44) (by simp [pairv, str, Value.oneCell']) hR (by first | rfl | simp) ?_
            have hR0 := hR
            clear hR
            intro w4 hm hR
            replace M := M.step1 hm gR
            refine st _ (r_assign rfl) ?_
            refine st_nil ?_
            refine c_then ?_
            refine c_ret ?_
            refine r_then ?_
            refine r_block ?_
            refine r_then ?_
            refine r_then ?_
            refine r_block ?_
            refine r_then ?_
            have hc : splitC l = 21 := by unfold splitC; rw [hix, if_neg (by omega), Int.toNat_natCast, if_neg (by simp [h21n]), if_pos (by simp; omega)]
            have hp := split_bad (s := l) (by rw [hc]; decide)
            exact retc1 trivial rfl rfl (by exact agg44) hR rfl ⟨by rw [hc, hp]; rfl, M⟩
          · skip
            first | (have h28n := of_decide_eq_false h28) | (have h28n := of_decide_eq_true (bnf h28)) | (have h28n := bnf h28) | (have h28n := h28)
            refine c_skip ?_
            refine c_then ?_
            refine c_seq ?_
            refine c_mix [(0, true), (1, true), (2, true), (3, true), (4, true), (5, true), (6, true), (7, true), (8, true), (9, true), (10, false), (11, true)] (fun w' => By w' v l) mixed (by kernel_rfl) ?_
            intro w5 hm
            replace hR := hR.md0 hm
            replace M := M.step0 hm
            refine ⟨(hB.md0 M), ?_⟩
            refine m _ (fun w' hc => r_move rfl) ?_
            refine m _ (fun w' hc => r_move rfl) ?_
            refine m _ (fun w' hc => r_slice 0 i u25 el5 rfl hB.shp (by omega) (by omega) rfl ⟨_, rfl⟩) ?_
            refine m _ (fun w' hc => r_convBS u25 u5 u9 rfl (By.head hc i (by omega))) ?_
            refine m _ (fun w' hc => r_move rfl) ?_
            refine m _ (fun w' hc => r_move rfl) ?_
            refine m _ (fun w' hc => (r_addI rfl rfl (by omega)).castI (show _ = ((i + 1 : Nat) : Int) from by simp)) ?_
            refine m _ (fun w' hc => r_slice (i + 1) l.length u25 el5 rfl hB.shp (by omega) (by omega) ⟨_, rfl⟩ rfl) ?_
            refine m _ (fun w' hc => r_convBS u25 u5 u9 rfl (By.tail hc (i + 1) (by omega))) ?_
            refine m (.agg [_, _].toArray) (fun w' hc => r_build (ps := [(0, 0), (1, 1)]) z44 pl44 rfl rfl ⟨rfl, rfl, trivial⟩ rfl rfl rfl) ?_
            refine m_e ?_ rfl
            refine st_storeAll rfl rfl (by exact agg44) (by simp [pairv, str, Value.oneCell']) hR (by first | rfl | simp) ?_
            have hR0 := hR
            clear hR
            intro w6 hm hR
            replace M := M.step1 hm gR
            refine st_nil ⟨rfl, (hB.md0 M), ?_⟩
            refine m _ (fun w' hc => r_assign rfl) ?_
            refine m_nil ?_
            refine c_then ?_
            refine c_ret ?_
            refine r_block ?_
            refine r_then ?_
            refine r_then ?_
            refine r_block ?_
            refine r_then ?_
            have hc : splitC l = 0 := by unfold splitC; rw [hix, if_neg (by omega), Int.toNat_natCast, if_neg (by simp [h21n]), if_neg (by simp; omega)]
            have hp : splitP l = (l.take i, l.drop (i + 1)) := by unfold splitP; rw [if_pos hc, hix, Int.toNat_natCast]
            exact retc1 trivial rfl rfl (by exact agg44) hR rfl ⟨by rw [hc, hp]; rfl, M⟩
    · skip
      first | (have h8n := of_decide_eq_false h8) | (have h8n := of_decide_eq_true (bnf h8)) | (have h8n := bnf h8) | (have h8n := h8)
      refine c_exit ?_
      refine x_then ?_
      refine x_then ?_
      refine x_hit ?_
      refine c_then ?_
      refine c_seq ?_
      refine c_region ?_
      refine st (.agg [_, _].toArray) (r_build (ps := []) z44 pl44 rfl rfl trivial rfl rfl rfl) ?_
      refine st_storeAll rfl rfl (by exact agg44) (by simp [pairv, str, Value.oneCell']) hR (by first | rfl | simp) ?_
      have hR0 := hR
      clear hR
      intro w7 hm hR
      replace M := M.step1 hm gR
      refine st _ (r_assign rfl) ?_
      refine st_nil ?_
      refine c_then ?_
      refine c_ret ?_
      have hc : splitC l = 20 := by unfold splitC; rw [if_pos (ix_none fun j hj => h4 j (by omega))]
      have hp := split_bad (s := l) (by rw [hc]; decide)
      exact retc1 trivial rfl rfl (by exact agg44) hR rfl ⟨by rw [hc, hp]; rfl, M⟩
theorem nan_any (a : List UInt8) (w : World) : Calls Try.prog 101 #[str a] w fun e w' => e = .returned (.bool false) ∧ w = w' := by
  have M := Md.refl [] w
  refine enter (n := 6) Try.func101 rfl rfl rfl ?_
  intro B
  refine c_seq ?_
  refine c_region ?_
  refine st _ (r_assign rfl) ?_
  refine st_nil ?_
  refine c_then ?_
  refine c_seq ?_
  refine c_region ?_
  refine st _ (r_move rfl) ?_
  refine st _ (r_move rfl) ?_
  refine st _ (r_neqS rfl rfl) ?_
  refine st _ (r_assign rfl) ?_
  refine st_nil ?_
  refine c_then ?_
  refine c_ret ?_
  exact ret1 trivial rfl rfl ⟨retB (by simp), rfl⟩
theorem cmp_any (a b : List UInt8) (w : World) : Calls Try.prog 82 #[str a, str b] w fun e w' => e = .returned (.int .i64 (cmpS a b)) ∧ w = w' := by
  have M := Md.refl [] w
  refine enter (n := 20) Try.func82 rfl rfl rfl ?_
  intro B
  refine c_seq ?_
  refine c_region ?_
  refine st _ (r_assign rfl) ?_
  refine st_nil ?_
  refine c_then ?_
  refine c_seq ?_
  refine c_region ?_
  refine st _ (r_move rfl) ?_
  refine st_call fn101 rfl (nan_any a _) ?_
  rintro e _ ⟨rfl, rfl⟩; refine ⟨_, rfl, ?_⟩
  refine st _ (r_assign rfl) ?_
  refine st_nil ?_
  refine c_then ?_
  refine c_seq ?_
  refine c_region ?_
  refine st _ (r_move rfl) ?_
  refine st_call fn101 rfl (nan_any b _) ?_
  rintro e _ ⟨rfl, rfl⟩; refine ⟨_, rfl, ?_⟩
  refine st _ (r_assign rfl) ?_
  refine st_nil ?_
  refine c_then ?_
  refine c_seq ?_
  refine c_seq ?_
  refine c_region ?_
  refine st _ (r_move rfl) ?_
  refine st_nil ?_
  refine c_then ?_
  refine c_if_f rfl rfl ?_
  refine c_skip ?_
  refine c_then ?_
  refine c_seq ?_
  refine c_seq ?_
  refine c_region ?_
  refine st _ (r_move rfl) ?_
  refine st_nil ?_
  refine c_then ?_
  refine c_if_f rfl rfl ?_
  refine c_skip ?_
  refine c_then ?_
  refine c_seq ?_
  refine c_seq ?_
  refine c_region ?_
  refine st _ (r_move rfl) ?_
  refine st _ (r_move rfl) ?_
  refine st _ (r_lssS rfl rfl) ?_
  refine st_nil ?_
  refine c_then ?_
  refine c_if rfl (fun h16 => ?_) (fun h16 => ?_)
  · skip
    first | (have h16n := of_decide_eq_true h16) | (have h16n := of_decide_eq_false (bnt h16)) | (have h16n := bnt h16) | (have h16n := h16)
    refine c_seq ?_
    refine c_region ?_
    refine st _ (r_assign rfl) ?_
    refine st_nil ?_
    refine c_then ?_
    refine c_ret ?_
    refine r_then ?_
    exact ret1 trivial rfl rfl ⟨retI (by unfold cmpS; rw [if_pos h16n]), rfl⟩
  · skip
    first | (have h16n := of_decide_eq_false h16) | (have h16n := of_decide_eq_true (bnf h16)) | (have h16n := bnf h16) | (have h16n := h16)
    refine c_skip ?_
    refine c_then ?_
    refine c_seq ?_
    refine c_seq ?_
    refine c_region ?_
    refine st _ (r_move rfl) ?_
    refine st _ (r_move rfl) ?_
    refine st _ (r_gtrS rfl rfl) ?_
    refine st_nil ?_
    refine c_then ?_
    refine c_if rfl (fun h19 => ?_) (fun h19 => ?_)
    · skip
      first | (have h19n := of_decide_eq_true h19) | (have h19n := of_decide_eq_false (bnt h19)) | (have h19n := bnt h19) | (have h19n := h19)
      refine c_seq ?_
      refine c_region ?_
      refine st _ (r_assign rfl) ?_
      refine st_nil ?_
      refine c_then ?_
      refine c_ret ?_
      refine r_then ?_
      exact ret1 trivial rfl rfl ⟨retI (by unfold cmpS; rw [if_neg (by simp [h16n]), if_pos h19]), rfl⟩
    · skip
      first | (have h19n := of_decide_eq_false h19) | (have h19n := of_decide_eq_true (bnf h19)) | (have h19n := bnf h19) | (have h19n := h19)
      refine c_skip ?_
      refine c_then ?_
      refine c_seq ?_
      refine c_region ?_
      refine st _ (r_assign rfl) ?_
      refine st_nil ?_
      refine c_then ?_
      refine c_ret ?_
      exact ret1 trivial rfl rfl ⟨retI (by unfold cmpS; rw [if_neg (by simp [h16n]), if_neg (by rw [h19]; decide)]), rfl⟩
theorem order_any (p q : PairB) (w : World) (hp : p.1.length + p.2.length ≤ 4611686018427387904) (hq : q.1.length + q.2.length ≤ 4611686018427387904) : Calls Try.prog 67 #[pairv p, pairv q] w fun e w' => e = .returned (.int .i64 (cmpS (whole p) (whole q))) ∧ Md [] w w' := by
  have M := Md.refl [] w
  refine enter (n := 10) Try.func67 rfl rfl rfl ?_
  intro B
  refine c_seq ?_
  refine c_region ?_
  refine st_box rfl rfl ?_
  intro bA w1 gA lA hm hA
  replace gA := Nat.le_trans M.size gA
  replace M := M.step0 hm
  refine st_box rfl rfl ?_
  intro bB w2 gB lB hm hB
  have nhAB : bA ≠ bB := by have := hA.lt; omega
  replace gB := Nat.le_trans M.size gB
  replace hA := hA.md0 hm
  replace M := M.step0 hm
  refine st _ (r_assign rfl) ?_
  refine st_nil ?_
  refine c_then ?_
  refine c_seq ?_
  have hA_q := hA
  have hB_q := hB
  have M_q := M
  refine c_mix [(0, true), (2, true), (1, false), (3, false), (4, false), (5, true)] (fun w' => Md [] w2 w') mixed (by kernel_rfl) ?_
  intro w3 hm
  have MC := hm
  replace hA := hA.md0 hm
  replace hB := hB.md0 hm
  replace M := M.step0 hm
  refine ⟨MC, ?_⟩
  refine m _ (fun w' hc => r_loadAll rfl (by exact agg44) (hA_q.md0 hc)) ?_
  refine m _ (fun w' hc => r_loadAll rfl (by exact agg44) (hB_q.md0 hc)) ?_
  refine m_e ?_ rfl
  refine st_call fn62 rfl (whole_any p _ hp) ?_
  rintro e w4 ⟨rfl, hm⟩; refine ⟨_, rfl, ?_⟩
  replace hA := hA.md0 hm
  replace hB := hB.md0 hm
  replace MC := MC.step0 hm
  replace M := M.step0 hm
  refine st_nil ⟨rfl, MC, ?_⟩
  refine m_e ?_ rfl
  refine st_call fn62 rfl (whole_any q _ hq) ?_
  rintro e w5 ⟨rfl, hm⟩; refine ⟨_, rfl, ?_⟩
  replace hA := hA.md0 hm
  replace hB := hB.md0 hm
  replace MC := MC.step0 hm
  replace M := M.step0 hm
  refine st_nil ⟨rfl, MC, ?_⟩
  refine m_e ?_ rfl
  refine st_call fn82 rfl (cmp_any _ _ _) ?_
  rintro e _ ⟨rfl, rfl⟩; refine ⟨_, rfl, ?_⟩
  refine st_nil ⟨rfl, MC, ?_⟩
  refine m _ (fun w' hc => r_assign rfl) ?_
  refine m_nil ?_
  refine c_then ?_
  refine c_ret ?_
  exact ret1 trivial rfl rfl ⟨rfl, M⟩
theorem less_any (p q : PairB) (w : World) (hp : p.1.length + p.2.length ≤ 4611686018427387904) (hq : q.1.length + q.2.length ≤ 4611686018427387904) : Calls Try.prog 33 #[pairv p, pairv q] w fun e w' => e = .returned (.bool (Op.bytesLess (whole p) (whole q))) ∧ Md [] w w' := by
  have M := Md.refl [] w
  refine enter (n := 9) Try.func33 rfl rfl rfl ?_
  intro B
  refine c_seq ?_
  refine c_region ?_
  refine st_box rfl rfl ?_
  intro bA w1 gA lA hm hA
  replace gA := Nat.le_trans M.size gA
  replace M := M.step0 hm
  refine st_box rfl rfl ?_
  intro bB w2 gB lB hm hB
  have nhAB : bA ≠ bB := by have := hA.lt; omega
  replace gB := Nat.le_trans M.size gB
  replace hA := hA.md0 hm
  replace M := M.step0 hm
  refine st _ (r_assign rfl) ?_
  refine st_nil ?_
  refine c_then ?_
  refine c_seq ?_
  refine c_region ?_
  refine st _ (r_loadAll rfl (by exact agg44) hA) ?_
  refine st _ (r_loadAll rfl (by exact agg44) hB) ?_
  refine st_call fn67 rfl (order_any p q _ hp hq) ?_
  rintro e w3 ⟨rfl, hm⟩; refine ⟨_, rfl, ?_⟩
  replace hA := hA.md0 hm
  replace hB := hB.md0 hm
  replace M := M.step0 hm
  refine st _ (r_lt rfl rfl) ?_
  refine st _ (r_assign rfl) ?_
  refine st_nil ?_
  refine c_then ?_
  refine c_ret ?_
  exact ret1 trivial rfl rfl ⟨retB (cmpS_neg _ _), M⟩
theorem fieldSays_walk (v : Value) (l : List UInt8) (p q : PairB) (w : World) (hB : By w v l) :
    Calls Try.prog 10 #[v, pairv p, pairv q] w fun e w' => e = .returned (.bool true) ∧ Md [] w w' := by
  have hlen := hB.len63
  have M := Md.refl [] w
  refine enter (n := 115) Try.func10 rfl rfl rfl ?_
  intro B
  refine c_seq ?_
  refine c_region ?_
  refine st_box rfl rfl ?_
  intro bP w1 gP lP hm hP
  replace gP := Nat.le_trans M.size gP
  replace M := M.step0 hm
  refine st_box rfl rfl ?_
  intro bQ w2 gQ lQ hm hQ
  have nhPQ : bP ≠ bQ := by have := hP.lt; omega
  replace gQ := Nat.le_trans M.size gQ
  replace hP := hP.md0 hm
  replace M := M.step0 hm
  refine st _ (r_assign rfl) ?_
  refine st_nil ?_
  refine c_then ?_
  refine c_seq ?_
  refine c_region ?_
  refine st_call fn27 rfl (first4_any _) ?_
  rintro e w3 ⟨rfl, hm⟩; refine ⟨_, rfl, ?_⟩
  replace hP := hP.md0 hm
  replace hQ := hQ.md0 hm
  replace M := M.step0 hm
  refine st _ (r_assign rfl) ?_
  refine st_nil ?_
  refine c_then ?_
  refine c_seq ?_
  refine c_seq ?_
  refine c_region ?_
  refine st _ (r_move rfl) ?_
  refine st _ (r_not rfl) ?_
  refine st_nil ?_
  refine c_then ?_
  refine c_if_f rfl rfl ?_
  refine c_skip ?_
  refine c_then ?_
  refine c_seq ?_
  refine c_seq ?_
  refine c_region ?_
  refine st _ (r_move rfl) ?_
  refine st _ (r_len rfl u25 hB.shp) ?_
  refine st _ (r_gt rfl rfl) ?_
  refine st _ (r_move rfl) ?_
  refine part_n (t := 22) rfl (fun h22 => ?_) (fun h22 => ?_)
  · skip
    first | (have h22n := of_decide_eq_true h22) | (have h22n := of_decide_eq_false (bnt h22)) | (have h22n := bnt h22) | (have h22n := h22)
    refine st_skip rfl rfl rfl h22 ?_
    refine st_skip rfl rfl rfl h22 ?_
    refine st_skip rfl rfl rfl h22 ?_
    refine st_skip rfl rfl rfl h22 ?_
    refine st _ (r_pick_t rfl h22 rfl) ?_
    refine st _ (r_move rfl) ?_
    refine st_skip rfl rfl rfl rfl ?_
    refine st_skip rfl rfl rfl rfl ?_
    refine st_skip rfl rfl rfl rfl ?_
    refine st_skip rfl rfl rfl rfl ?_
    refine st _ (r_pick_t rfl rfl rfl) ?_
    refine st _ (r_move rfl) ?_
    refine st_skip rfl rfl rfl rfl ?_
    refine st_skip rfl rfl rfl rfl ?_
    refine st_skip rfl rfl rfl rfl ?_
    refine st_skip rfl rfl rfl rfl ?_
    refine st _ (r_pick_t rfl rfl rfl) ?_
    refine st _ (r_move rfl) ?_
    refine st_skip rfl rfl rfl rfl ?_
    refine st_skip rfl rfl rfl rfl ?_
    refine st_skip rfl rfl rfl rfl ?_
    refine st_skip rfl rfl rfl rfl ?_
    refine st _ (r_pick_t rfl rfl rfl) ?_
    refine st_nil ?_
    refine c_then ?_
    refine c_if_t rfl rfl ?_
    refine c_seq ?_
    refine c_region ?_
    refine st _ (r_move rfl) ?_
    refine st _ (r_assign rfl) ?_
    refine st_nil ?_
    refine c_then ?_
    refine c_ret ?_
    refine r_then ?_
    exact ret1 trivial rfl rfl ⟨rfl, M⟩
  · skip
    first | (have h22n := of_decide_eq_false h22) | (have h22n := of_decide_eq_true (bnf h22)) | (have h22n := bnf h22) | (have h22n := h22)
    refine st_g _ rfl rfl rfl h22 (r_field rfl off44_0) ?_
    refine st_g _ rfl rfl rfl h22 (r_loadBlk rfl one9 hP rfl) ?_
    refine st_g _ rfl rfl rfl h22 (r_lenS rfl u9) ?_
    refine st_g _ rfl rfl rfl h22 (r_gt rfl rfl) ?_
    refine st _ (r_pick_f rfl h22 rfl) ?_
    refine st _ (r_move rfl) ?_
    refine part_n (t := 28) rfl (fun h28 => ?_) (fun h28 => ?_)
    · skip
      first | (have h28n := of_decide_eq_true h28) | (have h28n := of_decide_eq_false (bnt h28)) | (have h28n := bnt h28) | (have h28n := h28)
      refine st_skip rfl rfl rfl h28 ?_
      refine st_skip rfl rfl rfl h28 ?_
      refine st_skip rfl rfl rfl h28 ?_
      refine st_skip rfl rfl rfl h28 ?_
      refine st _ (r_pick_t rfl h28 rfl) ?_
      refine st _ (r_move rfl) ?_
      refine st_skip rfl rfl rfl rfl ?_
      refine st_skip rfl rfl rfl rfl ?_
      refine st_skip rfl rfl rfl rfl ?_
      refine st_skip rfl rfl rfl rfl ?_
      refine st _ (r_pick_t rfl rfl rfl) ?_
      refine st _ (r_move rfl) ?_
      refine st_skip rfl rfl rfl rfl ?_
      refine st_skip rfl rfl rfl rfl ?_
      refine st_skip rfl rfl rfl rfl ?_
      refine st_skip rfl rfl rfl rfl ?_
      refine st _ (r_pick_t rfl rfl rfl) ?_
      refine st_nil ?_
      refine c_then ?_
      refine c_if_t rfl rfl ?_
      refine c_seq ?_
      refine c_region ?_
      refine st _ (r_move rfl) ?_
      refine st _ (r_assign rfl) ?_
      refine st_nil ?_
      refine c_then ?_
      refine c_ret ?_
      refine r_then ?_
      exact ret1 trivial rfl rfl ⟨rfl, M⟩
    · skip
      first | (have h28n := of_decide_eq_false h28) | (have h28n := of_decide_eq_true (bnf h28)) | (have h28n := bnf h28) | (have h28n := h28)
      refine st_g _ rfl rfl rfl h28 (r_field rfl off44_0) ?_
      refine st_g _ rfl rfl rfl h28 (r_loadBlk rfl one9 hQ rfl) ?_
      refine st_g _ rfl rfl rfl h28 (r_lenS rfl u9) ?_
      refine st_g _ rfl rfl rfl h28 (r_gt rfl rfl) ?_
      refine st _ (r_pick_f rfl h28 rfl) ?_
      refine st _ (r_move rfl) ?_
      refine part_n (t := 34) rfl (fun h34 => ?_) (fun h34 => ?_)
      · skip
        first | (have h34n := of_decide_eq_true h34) | (have h34n := of_decide_eq_false (bnt h34)) | (have h34n := bnt h34) | (have h34n := h34)
        refine st_skip rfl rfl rfl h34 ?_
        refine st_skip rfl rfl rfl h34 ?_
        refine st_skip rfl rfl rfl h34 ?_
        refine st_skip rfl rfl rfl h34 ?_
        refine st _ (r_pick_t rfl h34 rfl) ?_
        refine st _ (r_move rfl) ?_
        refine st_skip rfl rfl rfl rfl ?_
        refine st_skip rfl rfl rfl rfl ?_
        refine st_skip rfl rfl rfl rfl ?_
        refine st_skip rfl rfl rfl rfl ?_
        refine st _ (r_pick_t rfl rfl rfl) ?_
        refine st_nil ?_
        refine c_then ?_
        refine c_if_t rfl rfl ?_
        refine c_seq ?_
        refine c_region ?_
        refine st _ (r_move rfl) ?_
        refine st _ (r_assign rfl) ?_
        refine st_nil ?_
        refine c_then ?_
        refine c_ret ?_
        refine r_then ?_
        exact ret1 trivial rfl rfl ⟨rfl, M⟩
      · skip
        first | (have h34n := of_decide_eq_false h34) | (have h34n := of_decide_eq_true (bnf h34)) | (have h34n := bnf h34) | (have h34n := h34)
        refine st_g _ rfl rfl rfl h34 (r_field rfl off44_1) ?_
        refine st_g _ rfl rfl rfl h34 (r_loadBlk rfl one9 hP rfl) ?_
        refine st_g _ rfl rfl rfl h34 (r_lenS rfl u9) ?_
        refine st_g _ rfl rfl rfl h34 (r_gt rfl rfl) ?_
        refine st _ (r_pick_f rfl h34 rfl) ?_
        refine st _ (r_move rfl) ?_
        refine part_n (t := 40) rfl (fun h40 => ?_) (fun h40 => ?_)
        · skip
          first | (have h40n := of_decide_eq_true h40) | (have h40n := of_decide_eq_false (bnt h40)) | (have h40n := bnt h40) | (have h40n := h40)
          refine st_skip rfl rfl rfl h40 ?_
          refine st_skip rfl rfl rfl h40 ?_
          refine st_skip rfl rfl rfl h40 ?_
          refine st_skip rfl rfl rfl h40 ?_
          refine st _ (r_pick_t rfl h40 rfl) ?_
          refine st_nil ?_
          refine c_then ?_
          refine c_if_t rfl rfl ?_
          refine c_seq ?_
          refine c_region ?_
          refine st _ (r_move rfl) ?_
          refine st _ (r_assign rfl) ?_
          refine st_nil ?_
          refine c_then ?_
          refine c_ret ?_
          refine r_then ?_
          exact ret1 trivial rfl rfl ⟨rfl, M⟩
        · skip
          first | (have h40n := of_decide_eq_false h40) | (have h40n := of_decide_eq_true (bnf h40)) | (have h40n := bnf h40) | (have h40n := h40)
          refine st_g _ rfl rfl rfl h40 (r_field rfl off44_1) ?_
          refine st_g _ rfl rfl rfl h40 (r_loadBlk rfl one9 hQ rfl) ?_
          refine st_g _ rfl rfl rfl h40 (r_lenS rfl u9) ?_
          refine st_g _ rfl rfl rfl h40 (r_gt rfl rfl) ?_
          refine st _ (r_pick_f rfl h40 rfl) ?_
          refine st_nil ?_
          refine c_then ?_
          refine c_if rfl (fun h45 => ?_) (fun h45 => ?_)
          · skip
            first | (have h45n := of_decide_eq_true h45) | (have h45n := of_decide_eq_false (bnt h45)) | (have h45n := bnt h45) | (have h45n := h45)
            refine c_seq ?_
            refine c_region ?_
            refine st _ (r_move rfl) ?_
            refine st _ (r_assign rfl) ?_
            refine st_nil ?_
            refine c_then ?_
            refine c_ret ?_
            refine r_then ?_
            exact ret1 trivial rfl rfl ⟨rfl, M⟩
          · skip
            first | (have h45n := of_decide_eq_false h45) | (have h45n := of_decide_eq_true (bnf h45)) | (have h45n := bnf h45) | (have h45n := h45)
            refine c_skip ?_
            refine c_then ?_
            refine c_seq ?_
            refine c_region ?_
            refine st _ (r_move rfl) ?_
            refine st_call fn30 rfl (split_any _ _ _ (hB.md0 M)) ?_
            rintro e w4 ⟨rfl, hm⟩; refine ⟨_, rfl, ?_⟩
            replace hP := hP.md0 hm
            replace hQ := hQ.md0 hm
            replace M := M.step0 hm
            refine st _ (r_move rfl) ?_
            refine st _ (r_extract rfl rfl) ?_
            refine st _ (r_extract rfl rfl) ?_
            refine st_alloc z44 ?_
            intro bY w5 gY lY hm hY
            have nhPY : bP ≠ bY := by have := hP.lt; omega
            have nhQY : bQ ≠ bY := by have := hQ.lt; omega
            replace gY := Nat.le_trans M.size gY
            replace hP := hP.md0 hm
            replace hQ := hQ.md0 hm
            replace M := M.step0 hm
            refine st_storeAll rfl rfl (by exact agg44) (by simp [pairv, str, Value.oneCell']) hY (by first | rfl | simp) ?_
            have hY0 := hY
            clear hY
            intro w6 hm hY
            replace hP := hP.md1 hm (by omega)
            replace hQ := hQ.md1 hm (by omega)
            replace M := M.step1 hm gY
            refine st _ (r_assign rfl) ?_
            refine st_nil ?_
            refine c_then ?_
            refine c_seq ?_
            refine c_region ?_
            refine st _ (r_move rfl) ?_
            refine st_call fn34 rfl (rsplit_any _ _ _ (hB.md0 M) (by omega)) ?_
            rintro e w7 ⟨rfl, hm⟩; refine ⟨_, rfl, ?_⟩
            replace hP := hP.md0 hm
            replace hQ := hQ.md0 hm
            replace hY := hY.md0 hm
            replace M := M.step0 hm
            refine st _ (r_move rfl) ?_
            refine st _ (r_extract rfl rfl) ?_
            refine st _ (r_extract rfl rfl) ?_
            refine st_alloc z44 ?_
            intro bZ w8 gZ lZ hm hZ
            have nhPZ : bP ≠ bZ := by have := hP.lt; omega
            have nhQZ : bQ ≠ bZ := by have := hQ.lt; omega
            have nhYZ : bY ≠ bZ := by have := hY.lt; omega
            replace gZ := Nat.le_trans M.size gZ
            replace hP := hP.md0 hm
            replace hQ := hQ.md0 hm
            replace hY := hY.md0 hm
            replace M := M.step0 hm
            refine st_storeAll rfl rfl (by exact agg44) (by simp [pairv, str, Value.oneCell']) hZ (by first | rfl | simp) ?_
            have hZ0 := hZ
            clear hZ
            intro w9 hm hZ
            replace hP := hP.md1 hm (by omega)
            replace hQ := hQ.md1 hm (by omega)
            replace hY := hY.md1 hm (by omega)
            replace M := M.step1 hm gZ
            refine st _ (r_assign rfl) ?_
            refine st_nil ?_
            refine c_then ?_
            refine c_seq ?_
            refine c_region ?_
            refine st _ (r_loadAll rfl (by exact agg44) hP) ?_
            refine st_call fn28 rfl (join_any p _) ?_
            rintro e wjU ⟨vU, rfl, hm, hU, _⟩; refine ⟨_, rfl, ?_⟩
            replace hP := hP.md0 hm
            replace hQ := hQ.md0 hm
            replace hY := hY.md0 hm
            replace hZ := hZ.md0 hm
            replace M := M.step0 hm
            refine st _ (r_move rfl) ?_
            refine st _ (r_extract rfl rfl) ?_
            refine st _ (r_extract rfl rfl) ?_
            refine st _ (r_assign rfl) ?_
            refine st _ (r_assign rfl) ?_
            refine st_nil ?_
            refine c_then ?_
            refine c_seq ?_
            refine c_region ?_
            refine st _ (r_loadAll rfl (by exact agg44) hP) ?_
            refine st_call fn35 rfl (rjoin_any p _ (by omega)) ?_
            rintro e wjV ⟨vV, rfl, hm, hV⟩; refine ⟨_, rfl, ?_⟩
            replace hP := hP.md0 hm
            replace hQ := hQ.md0 hm
            replace hY := hY.md0 hm
            replace hZ := hZ.md0 hm
            replace hU := hU.md0 hm
            replace M := M.step0 hm
            refine st _ (r_move rfl) ?_
            refine st _ (r_extract rfl rfl) ?_
            refine st _ (r_extract rfl rfl) ?_
            refine st _ (r_assign rfl) ?_
            refine st _ (r_assign rfl) ?_
            refine st_nil ?_
            refine c_then ?_
            refine c_seq ?_
            have hP_q := hP
            have hQ_q := hQ
            have hY_q := hY
            have hZ_q := hZ
            have hU_q := hU
            have hV_q := hV
            have M_q := M
            refine c_mix [(0, true), (1, true), (2, true), (3, true), (4, true), (5, true), (6, true), (7, true), (8, true), (9, true), (10, true), (11, true), (12, true), (13, true), (14, false), (15, true), (16, true), (17, true), (18, true), (19, true), (20, true), (21, true), (22, true), (24, true), (23, false), (25, false), (26, true), (27, true), (28, true), (29, true), (30, true), (32, true), (33, true), (31, false), (34, false), (35, true), (36, true), (37, true), (38, true), (39, true), (41, true), (43, true), (40, false), (42, false), (44, false), (45, true), (46, true), (47, true), (48, true)] (fun w' => Md [] wjV w') mixed (by kernel_rfl) ?_
            intro w10 hm
            have MC := hm
            replace hP := hP.md0 hm
            replace hQ := hQ.md0 hm
            replace hY := hY.md0 hm
            replace hZ := hZ.md0 hm
            replace hU := hU.md0 hm
            replace hV := hV.md0 hm
            replace M := M.step0 hm
            refine ⟨MC, ?_⟩
            refine m _ (fun w' hc => r_move rfl) ?_
            refine m _ (fun w' hc => r_move rfl) ?_
            refine m_g _ rfl rfl rfl rfl (fun w' hc => r_loadAll rfl (by exact agg44) (hY_q.md0 hc)) ?_
            refine m_g _ rfl rfl rfl rfl (fun w' hc => r_loadAll rfl (by exact agg44) (hZ_q.md0 hc)) ?_
            refine m_g _ rfl rfl rfl rfl (fun w' hc => (r_eqlP (p := splitP l) (q := splitP l) pair44 u9 rfl rfl).castB (decide_eq_true rfl)) ?_
            refine m _ (fun w' hc => r_pick_t rfl rfl rfl) ?_
            refine m _ (fun w' hc => r_move rfl) ?_
            refine m_g _ rfl rfl rfl rfl (fun w' hc => r_move rfl) ?_
            refine m_g _ rfl rfl rfl rfl (fun w' hc => r_move rfl) ?_
            refine m_g _ rfl rfl rfl rfl (fun w' hc => (r_eq rfl rfl).castB (decide_eq_true rfl)) ?_
            refine m _ (fun w' hc => r_pick_t rfl rfl rfl) ?_
            refine m _ (fun w' hc => r_move rfl) ?_
            refine m_g _ rfl rfl rfl rfl (fun w' hc => r_move rfl) ?_
            refine m_g _ rfl rfl rfl rfl (fun w' hc => r_move rfl) ?_
            refine m_e_g rfl rfl rfl rfl rfl ?_
            refine st_call_g rfl rfl rfl rfl fn31 rfl (same_eq _ _ _ _ _ hU hV rfl) ?_
            rintro e _ ⟨rfl, rfl⟩; refine ⟨_, rfl, ?_⟩
            refine st_nil ⟨rfl, MC, ?_⟩
            refine m _ (fun w' hc => r_pick_t rfl rfl rfl) ?_
            refine m _ (fun w' hc => r_move rfl) ?_
            refine m_g _ rfl rfl rfl rfl (fun w' hc => r_move rfl) ?_
            refine m_g _ rfl rfl rfl rfl (fun w' hc => r_move rfl) ?_
            refine m_g _ rfl rfl rfl rfl (fun w' hc => (r_eq rfl rfl).castB (decide_eq_true rfl)) ?_
            refine m _ (fun w' hc => r_pick_t rfl rfl rfl) ?_
            refine m _ (fun w' hc => r_move rfl) ?_
            refine m_g _ rfl rfl rfl rfl (fun w' hc => r_loadAll rfl (by exact agg44) (hP_q.md0 hc)) ?_
            refine m_g _ rfl rfl rfl rfl (fun w' hc => r_loadAll rfl (by exact agg44) (hP_q.md0 hc)) ?_
            refine m_e_g rfl rfl rfl rfl rfl ?_
            refine st_call_g rfl rfl rfl rfl fn29 rfl (right_any p _) ?_
            rintro e w11 ⟨rfl, hm⟩; refine ⟨_, rfl, ?_⟩
            replace hP := hP.md0 hm
            replace hQ := hQ.md0 hm
            replace hY := hY.md0 hm
            replace hZ := hZ.md0 hm
            replace hU := hU.md0 hm
            replace hV := hV.md0 hm
            replace MC := MC.step0 hm
            replace M := M.step0 hm
            refine st_nil ⟨rfl, MC, ?_⟩
            refine m_e_g rfl rfl rfl rfl rfl ?_
            refine st_call_g rfl rfl rfl rfl fn36 rfl (rright_any p _ (by omega)) ?_
            rintro e w12 ⟨rfl, hm⟩; refine ⟨_, rfl, ?_⟩
            replace hP := hP.md0 hm
            replace hQ := hQ.md0 hm
            replace hY := hY.md0 hm
            replace hZ := hZ.md0 hm
            replace hU := hU.md0 hm
            replace hV := hV.md0 hm
            replace MC := MC.step0 hm
            replace M := M.step0 hm
            refine st_nil ⟨rfl, MC, ?_⟩
            refine m_g _ rfl rfl rfl rfl (fun w' hc => (r_eqBool u4 rfl rfl).castB (beq_self_eq_true _)) ?_
            refine m _ (fun w' hc => r_pick_t rfl rfl rfl) ?_
            refine m _ (fun w' hc => r_move rfl) ?_
            refine m_g _ rfl rfl rfl rfl (fun w' hc => r_field rfl off44_0) ?_
            refine m_g _ rfl rfl rfl rfl (fun w' hc => r_loadBlk rfl one9 (hP_q.md0 hc) rfl) ?_
            refine m_g _ rfl rfl rfl rfl (fun w' hc => r_field rfl off44_0) ?_
            refine m_g _ rfl rfl rfl rfl (fun w' hc => r_loadBlk rfl one9 (hP_q.md0 hc) rfl) ?_
            refine m_e_g rfl rfl rfl rfl rfl ?_
            refine st_call_g rfl rfl rfl rfl fn37 rfl (name_any p.1 _) ?_
            rintro e _ ⟨rfl, rfl⟩; refine ⟨_, rfl, ?_⟩
            refine st_nil ⟨rfl, MC, ?_⟩
            refine m_e_g rfl rfl rfl rfl rfl ?_
            refine st_call_g rfl rfl rfl rfl fn38 rfl (rname_any p.1 _ (by omega)) ?_
            rintro e _ ⟨rfl, rfl⟩; refine ⟨_, rfl, ?_⟩
            refine st_nil ⟨rfl, MC, ?_⟩
            refine m_g _ rfl rfl rfl rfl (fun w' hc => (r_eqBool u4 rfl rfl).castB (beq_self_eq_true _)) ?_
            refine m _ (fun w' hc => r_pick_t rfl rfl rfl) ?_
            refine m _ (fun w' hc => r_move rfl) ?_
            refine m_g _ rfl rfl rfl rfl (fun w' hc => r_loadAll rfl (by exact agg44) (hP_q.md0 hc)) ?_
            refine m_g _ rfl rfl rfl rfl (fun w' hc => r_loadAll rfl (by exact agg44) (hQ_q.md0 hc)) ?_
            refine m_g _ rfl rfl rfl rfl (fun w' hc => r_loadAll rfl (by exact agg44) (hP_q.md0 hc)) ?_
            refine m_g _ rfl rfl rfl rfl (fun w' hc => r_loadAll rfl (by exact agg44) (hQ_q.md0 hc)) ?_
            refine m_e_g rfl rfl rfl rfl rfl ?_
            refine st_call_g rfl rfl rfl rfl fn33 rfl (less_any p q _ (by omega) (by omega)) ?_
            rintro e w13 ⟨rfl, hm⟩; refine ⟨_, rfl, ?_⟩
            replace hP := hP.md0 hm
            replace hQ := hQ.md0 hm
            replace hY := hY.md0 hm
            replace hZ := hZ.md0 hm
            replace hU := hU.md0 hm
            replace hV := hV.md0 hm
            replace MC := MC.step0 hm
            replace M := M.step0 hm
            refine st_nil ⟨rfl, MC, ?_⟩
            refine m_e_g rfl rfl rfl rfl rfl ?_
            refine st_call_g rfl rfl rfl rfl fn39 rfl (rpay_any p _ (by omega)) ?_
            rintro e w14 ⟨rfl, hm⟩; refine ⟨_, rfl, ?_⟩
            replace hP := hP.md0 hm
            replace hQ := hQ.md0 hm
            replace hY := hY.md0 hm
            replace hZ := hZ.md0 hm
            replace hU := hU.md0 hm
            replace hV := hV.md0 hm
            replace MC := MC.step0 hm
            replace M := M.step0 hm
            refine st_nil ⟨rfl, MC, ?_⟩
            refine m_e_g rfl rfl rfl rfl rfl ?_
            refine st_call_g rfl rfl rfl rfl fn39 rfl (rpay_any q _ (by omega)) ?_
            rintro e w15 ⟨rfl, hm⟩; refine ⟨_, rfl, ?_⟩
            replace hP := hP.md0 hm
            replace hQ := hQ.md0 hm
            replace hY := hY.md0 hm
            replace hZ := hZ.md0 hm
            replace hU := hU.md0 hm
            replace hV := hV.md0 hm
            replace MC := MC.step0 hm
            replace M := M.step0 hm
            refine st_nil ⟨rfl, MC, ?_⟩
            refine m_g _ rfl rfl rfl rfl (fun w' hc => r_lssS rfl rfl) ?_
            refine m_g _ rfl rfl rfl rfl (fun w' hc => (r_eqBool u4 rfl rfl).castB (beq_self_eq_true _)) ?_
            refine m _ (fun w' hc => r_pick_t rfl rfl rfl) ?_
            refine m _ (fun w' hc => r_assign rfl) ?_
            refine m_nil ?_
            refine c_then ?_
            refine c_ret ?_
            exact ret1 trivial rfl rfl ⟨rfl, M⟩
end Go.Proofs.Ytimakajeggeebaa
