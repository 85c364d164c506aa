/- Walks of functions: what each call returns. -/
import Derived.Test.YtimakajeggeebaaRows
import Derived.Test.YtimakajeggeebaaDraws
import Derived.Test.YtimakajeggeebaaFieldP
namespace Go.Proofs.Ytimakajeggeebaa
open Go Go.Wk Go.RowKit
attribute [local irreducible] wpList wpQuiet wpStill wpMix Code.wp Calls bodyPost
theorem u9 : Try.prog.underlying 9 = some (.string) := by kernel_rfl

theorem rname_any (s : List UInt8) (w : World) (hl : s.length ≤ 9223372036854775807) : Calls Try.prog 38 #[str s] w fun e w' => e = .returned (.bool (isName s)) ∧ w = w' := by
  have M := Md.refl [] w
  refine enter (n := 44) Try.func38 rfl rfl rfl ?_
  intro B
  refine c_seq ?_
  refine c_region ?_
  refine st _ (r_assign rfl) ?_
  refine st_nil ?_
  refine c_then ?_
  refine c_seq ?_
  refine c_seq ?_
  refine c_region ?_
  refine st _ (r_assign rfl) ?_
  refine st_nil ?_
  refine c_then ?_
  refine c_block ?_
  refine c_loop (X := Nat) (fun i => [(0, str s), (3, .int .i64 i)]) (fun i w' => w = w' ∧ i ≤ s.length ∧ ∀ j, j < i → nameC (s.getD j 0) = true ∧ (j = 0 → digit (s.getD j 0) = false)) (fun i => s.length - i) 0 ?_ ?_ ?_
  · exact ⟨rfl, rfl, trivial⟩
  · exact ⟨rfl, by omega, fun j hj => by omega⟩
  · clear M
    rintro i B w1 ⟨rfl, hi, h4⟩
    have M := Md.refl [] w
    refine c_seq ?_
    refine c_seq ?_
    refine c_region ?_
    refine st _ (r_move rfl) ?_
    refine st _ (r_move rfl) ?_
    refine st _ (r_lenS rfl u9) ?_
    refine st _ (r_lt rfl rfl) ?_
    refine st_nil ?_
    refine c_then ?_
    refine c_if rfl (fun h8 => ?_) (fun h8 => ?_)
    · skip
      first | (have h8n := of_decide_eq_true h8) | (have h8n := of_decide_eq_false (bnt h8)) | (have h8n := bnt h8) | (have h8n := h8)
      refine c_skip ?_
      refine c_then ?_
      refine c_seq ?_
      refine c_block ?_
      refine c_seq ?_
      refine c_region ?_
      refine st _ (r_move rfl) ?_
      refine st _ (r_move rfl) ?_
      refine st _ (r_idxSN rfl rfl u9 (by omega)) ?_
      refine st _ (r_assign rfl) ?_
      refine st_nil ?_
      refine c_then ?_
      refine c_seq ?_
      refine c_seq ?_
      refine c_region ?_
      refine st _ (r_move rfl) ?_
      refine st _ (r_ge rfl rfl) ?_
      refine st _ (r_move rfl) ?_
      refine part_n (t := 16) rfl (fun h16 => ?_) (fun h16 => ?_)
      · skip
        first | (have h16n := of_decide_eq_true h16) | (have h16n := of_decide_eq_false (bnt h16)) | (have h16n := bnt h16) | (have h16n := h16)
        refine st_g _ rfl rfl rfl h16 (r_move rfl) ?_
        refine st_g _ rfl rfl rfl h16 (r_le rfl rfl) ?_
        refine st _ (r_pick_t rfl h16 rfl) ?_
        refine st _ (r_move rfl) ?_
        refine part_n (t := 20) rfl (fun h20 => ?_) (fun h20 => ?_)
        · skip
          first | (have h20n := of_decide_eq_true h20) | (have h20n := of_decide_eq_false (bnt h20)) | (have h20n := bnt h20) | (have h20n := h20)
          refine st_g _ rfl rfl rfl h20 (r_move rfl) ?_
          refine st_g _ rfl rfl rfl h20 (r_gt rfl rfl) ?_
          refine st _ (r_pick_t rfl h20 rfl) ?_
          refine st _ (r_move rfl) ?_
          refine part_n (t := 24) rfl (fun h24 => ?_) (fun h24 => ?_)
          · skip
            first | (have h24n := of_decide_eq_true h24) | (have h24n := of_decide_eq_false (bnt h24)) | (have h24n := bnt h24) | (have h24n := h24)
            refine st_skip rfl rfl rfl h24 ?_
            refine st_skip rfl rfl rfl h24 ?_
            refine st_skip rfl rfl rfl h24 ?_
            refine st_skipU rfl rfl rfl ?_
            refine st_skipU rfl rfl rfl ?_
            refine st_skip rfl rfl rfl h24 ?_
            refine st _ (r_pick_t rfl h24 rfl) ?_
            refine st _ (r_move rfl) ?_
            refine st_skip rfl rfl rfl rfl ?_
            refine st_skip rfl rfl rfl rfl ?_
            refine st _ (r_pick_t rfl rfl rfl) ?_
            refine st_nil ?_
            refine c_then ?_
            refine c_if_t rfl rfl ?_
            refine c_exit ?_
            refine x_then ?_
            refine x_hit ?_
            refine c_then ?_
            refine c_region ?_
            refine st _ (r_move rfl) ?_
            refine st _ (r_addI rfl rfl (by omega)) ?_
            refine st _ (r_assign rfl) ?_
            refine st_nil ?_
            refine c_then ?_
            refine next (i + 1) (by omega) ⟨rfl, fitI rfl (by simp), trivial⟩ ?_
            exact ⟨rfl, by omega, fun j hj => by
              rcases Nat.lt_or_eq_of_le (Nat.le_of_lt_succ hj) with h | h
              · exact h4 j h
              · subst h; exact ⟨by unfold nameC; exact decide_eq_true (by omega), fun h0 => by unfold digit; exact decide_eq_false (by omega)⟩⟩
          · skip
            first | (have h24n := of_decide_eq_false h24) | (have h24n := of_decide_eq_true (bnf h24)) | (have h24n := bnf h24) | (have h24n := h24)
            refine st_g _ rfl rfl rfl h24 (r_move rfl) ?_
            refine st_g _ rfl rfl rfl h24 (r_ge rfl rfl) ?_
            refine st_g _ rfl rfl rfl h24 (r_move rfl) ?_
            refine part_n (t := 27) rfl (fun h27 => ?_) (fun h27 => ?_)
            · skip
              first | (have h27n := of_decide_eq_true h27) | (have h27n := of_decide_eq_false (bnt h27)) | (have h27n := bnt h27) | (have h27n := h27)
              refine st_g _ rfl rfl rfl h27 (r_move rfl) ?_
              refine st_g _ rfl rfl rfl h27 (r_le rfl rfl) ?_
              refine st_g _ rfl rfl rfl h24 (r_pick_t rfl h27 rfl) ?_
              refine st _ (r_pick_f rfl h24 rfl) ?_
              refine st _ (r_move rfl) ?_
              refine part_n (t := 32) rfl (fun h32 => ?_) (fun h32 => ?_)
              · skip
                first | (have h32n := of_decide_eq_true h32) | (have h32n := of_decide_eq_false (bnt h32)) | (have h32n := bnt h32) | (have h32n := h32)
                refine st_skip rfl rfl rfl h32 ?_
                refine st_skip rfl rfl rfl h32 ?_
                refine st _ (r_pick_t rfl h32 rfl) ?_
                refine st_nil ?_
                refine c_then ?_
                refine c_if_t rfl rfl ?_
                refine c_exit ?_
                refine x_then ?_
                refine x_hit ?_
                refine c_then ?_
                refine c_region ?_
                refine st _ (r_move rfl) ?_
                refine st _ (r_addI rfl rfl (by omega)) ?_
                refine st _ (r_assign rfl) ?_
                refine st_nil ?_
                refine c_then ?_
                refine next (i + 1) (by omega) ⟨rfl, fitI rfl (by simp), trivial⟩ ?_
                exact ⟨rfl, by omega, fun j hj => by
                  rcases Nat.lt_or_eq_of_le (Nat.le_of_lt_succ hj) with h | h
                  · exact h4 j h
                  · subst h; exact ⟨by unfold nameC; exact decide_eq_true (by omega), fun h0 => by unfold digit; exact decide_eq_false (by omega)⟩⟩
              · skip
                first | (have h32n := of_decide_eq_false h32) | (have h32n := of_decide_eq_true (bnf h32)) | (have h32n := bnf h32) | (have h32n := h32)
                refine st_g _ rfl rfl rfl h32 (r_move rfl) ?_
                refine st_g _ rfl rfl rfl h32 (r_eq rfl rfl) ?_
                refine st _ (r_pick_f rfl h32 rfl) ?_
                refine st_nil ?_
                refine c_then ?_
                refine c_if rfl (fun h35 => ?_) (fun h35 => ?_)
                · skip
                  first | (have h35n := of_decide_eq_true h35) | (have h35n := of_decide_eq_false (bnt h35)) | (have h35n := bnt h35) | (have h35n := h35)
                  refine c_exit ?_
                  refine x_then ?_
                  refine x_hit ?_
                  refine c_then ?_
                  refine c_region ?_
                  refine st _ (r_move rfl) ?_
                  refine st _ (r_addI rfl rfl (by omega)) ?_
                  refine st _ (r_assign rfl) ?_
                  refine st_nil ?_
                  refine c_then ?_
                  refine next (i + 1) (by omega) ⟨rfl, fitI rfl (by simp), trivial⟩ ?_
                  exact ⟨rfl, by omega, fun j hj => by
                    rcases Nat.lt_or_eq_of_le (Nat.le_of_lt_succ hj) with h | h
                    · exact h4 j h
                    · subst h; exact ⟨by unfold nameC; exact decide_eq_true (by omega), fun h0 => by unfold digit; exact decide_eq_false (by omega)⟩⟩
                · skip
                  first | (have h35n := of_decide_eq_false h35) | (have h35n := of_decide_eq_true (bnf h35)) | (have h35n := bnf h35) | (have h35n := h35)
                  refine c_skip ?_
                  refine c_then ?_
                  refine c_seq ?_
                  refine c_region ?_
                  refine st _ (r_assign rfl) ?_
                  refine st_nil ?_
                  refine c_then ?_
                  refine c_ret ?_
                  refine r_block ?_
                  refine r_then ?_
                  refine r_then ?_
                  refine r_block ?_
                  refine r_then ?_
                  exact ret1 trivial rfl rfl ⟨retB (by cases hh : isName s with | false => rfl | true => (exfalso; have hl := name_len hh; have hd := name_dig hh; have ha := name_at hh i (by omega); rcases Nat.eq_zero_or_pos i with h0 | h0 <;> first | omega | (subst h0; omega))), rfl⟩
            · skip
              first | (have h27n := of_decide_eq_false h27) | (have h27n := of_decide_eq_true (bnf h27)) | (have h27n := bnf h27) | (have h27n := h27)
              refine st_skip rfl rfl rfl h27 ?_
              refine st_skip rfl rfl rfl h27 ?_
              refine st_g _ rfl rfl rfl h24 (r_pick_f rfl h27 rfl) ?_
              refine st _ (r_pick_f rfl h24 rfl) ?_
              refine st _ (r_move rfl) ?_
              refine st_g _ rfl rfl rfl rfl (r_move rfl) ?_
              refine st_g _ rfl rfl rfl rfl (r_eq rfl rfl) ?_
              refine st _ (r_pick_f rfl rfl rfl) ?_
              refine st_nil ?_
              refine c_then ?_
              refine c_if rfl (fun h35 => ?_) (fun h35 => ?_)
              · skip
                first | (have h35n := of_decide_eq_true h35) | (have h35n := of_decide_eq_false (bnt h35)) | (have h35n := bnt h35) | (have h35n := h35)
                refine c_exit ?_
                refine x_then ?_
                refine x_hit ?_
                refine c_then ?_
                refine c_region ?_
                refine st _ (r_move rfl) ?_
                refine st _ (r_addI rfl rfl (by omega)) ?_
                refine st _ (r_assign rfl) ?_
                refine st_nil ?_
                refine c_then ?_
                refine next (i + 1) (by omega) ⟨rfl, fitI rfl (by simp), trivial⟩ ?_
                exact ⟨rfl, by omega, fun j hj => by
                  rcases Nat.lt_or_eq_of_le (Nat.le_of_lt_succ hj) with h | h
                  · exact h4 j h
                  · subst h; exact ⟨by unfold nameC; exact decide_eq_true (by omega), fun h0 => by unfold digit; exact decide_eq_false (by omega)⟩⟩
              · skip
                first | (have h35n := of_decide_eq_false h35) | (have h35n := of_decide_eq_true (bnf h35)) | (have h35n := bnf h35) | (have h35n := h35)
                refine c_skip ?_
                refine c_then ?_
                refine c_seq ?_
                refine c_region ?_
                refine st _ (r_assign rfl) ?_
                refine st_nil ?_
                refine c_then ?_
                refine c_ret ?_
                refine r_block ?_
                refine r_then ?_
                refine r_then ?_
                refine r_block ?_
                refine r_then ?_
                exact ret1 trivial rfl rfl ⟨retB (by cases hh : isName s with | false => rfl | true => (exfalso; have hl := name_len hh; have hd := name_dig hh; have ha := name_at hh i (by omega); rcases Nat.eq_zero_or_pos i with h0 | h0 <;> first | omega | (subst h0; omega))), rfl⟩
        · skip
          first | (have h20n := of_decide_eq_false h20) | (have h20n := of_decide_eq_true (bnf h20)) | (have h20n := bnf h20) | (have h20n := h20)
          refine st_skip rfl rfl rfl h20 ?_
          refine st_skip rfl rfl rfl h20 ?_
          refine st _ (r_pick_f rfl h20 rfl) ?_
          refine st _ (r_move rfl) ?_
          refine st_g _ rfl rfl rfl rfl (r_move rfl) ?_
          refine st_g _ rfl rfl rfl rfl (r_ge rfl rfl) ?_
          refine st_g _ rfl rfl rfl rfl (r_move rfl) ?_
          refine part_n (t := 27) rfl (fun h27 => ?_) (fun h27 => ?_)
          · skip
            first | (have h27n := of_decide_eq_true h27) | (have h27n := of_decide_eq_false (bnt h27)) | (have h27n := bnt h27) | (have h27n := h27)
            refine st_g _ rfl rfl rfl h27 (r_move rfl) ?_
            refine st_g _ rfl rfl rfl h27 (r_le rfl rfl) ?_
            refine st_g _ rfl rfl rfl rfl (r_pick_t rfl h27 rfl) ?_
            refine st _ (r_pick_f rfl rfl rfl) ?_
            refine st _ (r_move rfl) ?_
            refine part_n (t := 32) rfl (fun h32 => ?_) (fun h32 => ?_)
            · skip
              first | (have h32n := of_decide_eq_true h32) | (have h32n := of_decide_eq_false (bnt h32)) | (have h32n := bnt h32) | (have h32n := h32)
              refine st_skip rfl rfl rfl h32 ?_
              refine st_skip rfl rfl rfl h32 ?_
              refine st _ (r_pick_t rfl h32 rfl) ?_
              refine st_nil ?_
              refine c_then ?_
              refine c_if_t rfl rfl ?_
              refine c_exit ?_
              refine x_then ?_
              refine x_hit ?_
              refine c_then ?_
              refine c_region ?_
              refine st _ (r_move rfl) ?_
              refine st _ (r_addI rfl rfl (by omega)) ?_
              refine st _ (r_assign rfl) ?_
              refine st_nil ?_
              refine c_then ?_
              refine next (i + 1) (by omega) ⟨rfl, fitI rfl (by simp), trivial⟩ ?_
              exact ⟨rfl, by omega, fun j hj => by
                rcases Nat.lt_or_eq_of_le (Nat.le_of_lt_succ hj) with h | h
                · exact h4 j h
                · subst h; exact ⟨by unfold nameC; exact decide_eq_true (by omega), fun h0 => by unfold digit; exact decide_eq_false (by omega)⟩⟩
            · skip
              first | (have h32n := of_decide_eq_false h32) | (have h32n := of_decide_eq_true (bnf h32)) | (have h32n := bnf h32) | (have h32n := h32)
              refine st_g _ rfl rfl rfl h32 (r_move rfl) ?_
              refine st_g _ rfl rfl rfl h32 (r_eq rfl rfl) ?_
              refine st _ (r_pick_f rfl h32 rfl) ?_
              refine st_nil ?_
              refine c_then ?_
              refine c_if rfl (fun h35 => ?_) (fun h35 => ?_)
              · skip
                first | (have h35n := of_decide_eq_true h35) | (have h35n := of_decide_eq_false (bnt h35)) | (have h35n := bnt h35) | (have h35n := h35)
                refine c_exit ?_
                refine x_then ?_
                refine x_hit ?_
                refine c_then ?_
                refine c_region ?_
                refine st _ (r_move rfl) ?_
                refine st _ (r_addI rfl rfl (by omega)) ?_
                refine st _ (r_assign rfl) ?_
                refine st_nil ?_
                refine c_then ?_
                refine next (i + 1) (by omega) ⟨rfl, fitI rfl (by simp), trivial⟩ ?_
                exact ⟨rfl, by omega, fun j hj => by
                  rcases Nat.lt_or_eq_of_le (Nat.le_of_lt_succ hj) with h | h
                  · exact h4 j h
                  · subst h; exact ⟨by unfold nameC; exact decide_eq_true (by omega), fun h0 => by unfold digit; exact decide_eq_false (by omega)⟩⟩
              · skip
                first | (have h35n := of_decide_eq_false h35) | (have h35n := of_decide_eq_true (bnf h35)) | (have h35n := bnf h35) | (have h35n := h35)
                refine c_skip ?_
                refine c_then ?_
                refine c_seq ?_
                refine c_region ?_
                refine st _ (r_assign rfl) ?_
                refine st_nil ?_
                refine c_then ?_
                refine c_ret ?_
                refine r_block ?_
                refine r_then ?_
                refine r_then ?_
                refine r_block ?_
                refine r_then ?_
                exact ret1 trivial rfl rfl ⟨retB (by cases hh : isName s with | false => rfl | true => (exfalso; have hl := name_len hh; have hd := name_dig hh; have ha := name_at hh i (by omega); rcases Nat.eq_zero_or_pos i with h0 | h0 <;> first | omega | (subst h0; omega))), rfl⟩
          · skip
            first | (have h27n := of_decide_eq_false h27) | (have h27n := of_decide_eq_true (bnf h27)) | (have h27n := bnf h27) | (have h27n := h27)
            refine st_skip rfl rfl rfl h27 ?_
            refine st_skip rfl rfl rfl h27 ?_
            refine st_g _ rfl rfl rfl rfl (r_pick_f rfl h27 rfl) ?_
            refine st _ (r_pick_f rfl rfl rfl) ?_
            refine st _ (r_move rfl) ?_
            refine st_g _ rfl rfl rfl rfl (r_move rfl) ?_
            refine st_g _ rfl rfl rfl rfl (r_eq rfl rfl) ?_
            refine st _ (r_pick_f rfl rfl rfl) ?_
            refine st_nil ?_
            refine c_then ?_
            refine c_if rfl (fun h35 => ?_) (fun h35 => ?_)
            · skip
              first | (have h35n := of_decide_eq_true h35) | (have h35n := of_decide_eq_false (bnt h35)) | (have h35n := bnt h35) | (have h35n := h35)
              refine c_exit ?_
              refine x_then ?_
              refine x_hit ?_
              refine c_then ?_
              refine c_region ?_
              refine st _ (r_move rfl) ?_
              refine st _ (r_addI rfl rfl (by omega)) ?_
              refine st _ (r_assign rfl) ?_
              refine st_nil ?_
              refine c_then ?_
              refine next (i + 1) (by omega) ⟨rfl, fitI rfl (by simp), trivial⟩ ?_
              exact ⟨rfl, by omega, fun j hj => by
                rcases Nat.lt_or_eq_of_le (Nat.le_of_lt_succ hj) with h | h
                · exact h4 j h
                · subst h; exact ⟨by unfold nameC; exact decide_eq_true (by omega), fun h0 => by unfold digit; exact decide_eq_false (by omega)⟩⟩
            · skip
              first | (have h35n := of_decide_eq_false h35) | (have h35n := of_decide_eq_true (bnf h35)) | (have h35n := bnf h35) | (have h35n := h35)
              refine c_skip ?_
              refine c_then ?_
              refine c_seq ?_
              refine c_region ?_
              refine st _ (r_assign rfl) ?_
              refine st_nil ?_
              refine c_then ?_
              refine c_ret ?_
              refine r_block ?_
              refine r_then ?_
              refine r_then ?_
              refine r_block ?_
              refine r_then ?_
              exact ret1 trivial rfl rfl ⟨retB (by cases hh : isName s with | false => rfl | true => (exfalso; have hl := name_len hh; have hd := name_dig hh; have ha := name_at hh i (by omega); rcases Nat.eq_zero_or_pos i with h0 | h0 <;> first | omega | (subst h0; omega))), rfl⟩
      · skip
        first | (have h16n := of_decide_eq_false h16) | (have h16n := of_decide_eq_true (bnf h16)) | (have h16n := bnf h16) | (have h16n := h16)
        refine st_skip rfl rfl rfl h16 ?_
        refine st_skip rfl rfl rfl h16 ?_
        refine st _ (r_pick_f rfl h16 rfl) ?_
        refine st _ (r_move rfl) ?_
        refine st_skip rfl rfl rfl rfl ?_
        refine st_skip rfl rfl rfl rfl ?_
        refine st _ (r_pick_f rfl rfl rfl) ?_
        refine st _ (r_move rfl) ?_
        refine st_g _ rfl rfl rfl rfl (r_move rfl) ?_
        refine st_g _ rfl rfl rfl rfl (r_ge rfl rfl) ?_
        refine st_g _ rfl rfl rfl rfl (r_move rfl) ?_
        refine part_n (t := 27) rfl (fun h27 => ?_) (fun h27 => ?_)
        · skip
          first | (have h27n := of_decide_eq_true h27) | (have h27n := of_decide_eq_false (bnt h27)) | (have h27n := bnt h27) | (have h27n := h27)
          refine st_g _ rfl rfl rfl h27 (r_move rfl) ?_
          refine st_g _ rfl rfl rfl h27 (r_le rfl rfl) ?_
          refine st_g _ rfl rfl rfl rfl (r_pick_t rfl h27 rfl) ?_
          refine st _ (r_pick_f rfl rfl rfl) ?_
          refine st _ (r_move rfl) ?_
          refine part_n (t := 32) rfl (fun h32 => ?_) (fun h32 => ?_)
          · skip
            first | (have h32n := of_decide_eq_true h32) | (have h32n := of_decide_eq_false (bnt h32)) | (have h32n := bnt h32) | (have h32n := h32)
            refine st_skip rfl rfl rfl h32 ?_
            refine st_skip rfl rfl rfl h32 ?_
            refine st _ (r_pick_t rfl h32 rfl) ?_
            refine st_nil ?_
            refine c_then ?_
            refine c_if_t rfl rfl ?_
            refine c_exit ?_
            refine x_then ?_
            refine x_hit ?_
            refine c_then ?_
            refine c_region ?_
            refine st _ (r_move rfl) ?_
            refine st _ (r_addI rfl rfl (by omega)) ?_
            refine st _ (r_assign rfl) ?_
            refine st_nil ?_
            refine c_then ?_
            refine next (i + 1) (by omega) ⟨rfl, fitI rfl (by simp), trivial⟩ ?_
            exact ⟨rfl, by omega, fun j hj => by
              rcases Nat.lt_or_eq_of_le (Nat.le_of_lt_succ hj) with h | h
              · exact h4 j h
              · subst h; exact ⟨by unfold nameC; exact decide_eq_true (by omega), fun h0 => by unfold digit; exact decide_eq_false (by omega)⟩⟩
          · skip
            first | (have h32n := of_decide_eq_false h32) | (have h32n := of_decide_eq_true (bnf h32)) | (have h32n := bnf h32) | (have h32n := h32)
            refine st_g _ rfl rfl rfl h32 (r_move rfl) ?_
            refine st_g _ rfl rfl rfl h32 (r_eq rfl rfl) ?_
            refine st _ (r_pick_f rfl h32 rfl) ?_
            refine st_nil ?_
            refine c_then ?_
            refine c_if rfl (fun h35 => ?_) (fun h35 => ?_)
            · skip
              first | (have h35n := of_decide_eq_true h35) | (have h35n := of_decide_eq_false (bnt h35)) | (have h35n := bnt h35) | (have h35n := h35)
              refine c_exit ?_
              refine x_then ?_
              refine x_hit ?_
              refine c_then ?_
              refine c_region ?_
              refine st _ (r_move rfl) ?_
              refine st _ (r_addI rfl rfl (by omega)) ?_
              refine st _ (r_assign rfl) ?_
              refine st_nil ?_
              refine c_then ?_
              refine next (i + 1) (by omega) ⟨rfl, fitI rfl (by simp), trivial⟩ ?_
              exact ⟨rfl, by omega, fun j hj => by
                rcases Nat.lt_or_eq_of_le (Nat.le_of_lt_succ hj) with h | h
                · exact h4 j h
                · subst h; exact ⟨by unfold nameC; exact decide_eq_true (by omega), fun h0 => by unfold digit; exact decide_eq_false (by omega)⟩⟩
            · skip
              first | (have h35n := of_decide_eq_false h35) | (have h35n := of_decide_eq_true (bnf h35)) | (have h35n := bnf h35) | (have h35n := h35)
              refine c_skip ?_
              refine c_then ?_
              refine c_seq ?_
              refine c_region ?_
              refine st _ (r_assign rfl) ?_
              refine st_nil ?_
              refine c_then ?_
              refine c_ret ?_
              refine r_block ?_
              refine r_then ?_
              refine r_then ?_
              refine r_block ?_
              refine r_then ?_
              exact ret1 trivial rfl rfl ⟨retB (by cases hh : isName s with | false => rfl | true => (exfalso; have hl := name_len hh; have hd := name_dig hh; have ha := name_at hh i (by omega); rcases Nat.eq_zero_or_pos i with h0 | h0 <;> first | omega | (subst h0; omega))), rfl⟩
        · skip
          first | (have h27n := of_decide_eq_false h27) | (have h27n := of_decide_eq_true (bnf h27)) | (have h27n := bnf h27) | (have h27n := h27)
          refine st_skip rfl rfl rfl h27 ?_
          refine st_skip rfl rfl rfl h27 ?_
          refine st_g _ rfl rfl rfl rfl (r_pick_f rfl h27 rfl) ?_
          refine st _ (r_pick_f rfl rfl rfl) ?_
          refine st _ (r_move rfl) ?_
          refine st_g _ rfl rfl rfl rfl (r_move rfl) ?_
          refine st_g _ rfl rfl rfl rfl (r_eq rfl rfl) ?_
          refine st _ (r_pick_f rfl rfl rfl) ?_
          refine st_nil ?_
          refine c_then ?_
          refine c_if rfl (fun h35 => ?_) (fun h35 => ?_)
          · skip
            first | (have h35n := of_decide_eq_true h35) | (have h35n := of_decide_eq_false (bnt h35)) | (have h35n := bnt h35) | (have h35n := h35)
            refine c_exit ?_
            refine x_then ?_
            refine x_hit ?_
            refine c_then ?_
            refine c_region ?_
            refine st _ (r_move rfl) ?_
            refine st _ (r_addI rfl rfl (by omega)) ?_
            refine st _ (r_assign rfl) ?_
            refine st_nil ?_
            refine c_then ?_
            refine next (i + 1) (by omega) ⟨rfl, fitI rfl (by simp), trivial⟩ ?_
            exact ⟨rfl, by omega, fun j hj => by
              rcases Nat.lt_or_eq_of_le (Nat.le_of_lt_succ hj) with h | h
              · exact h4 j h
              · subst h; exact ⟨by unfold nameC; exact decide_eq_true (by omega), fun h0 => by unfold digit; exact decide_eq_false (by omega)⟩⟩
          · skip
            first | (have h35n := of_decide_eq_false h35) | (have h35n := of_decide_eq_true (bnf h35)) | (have h35n := bnf h35) | (have h35n := h35)
            refine c_skip ?_
            refine c_then ?_
            refine c_seq ?_
            refine c_region ?_
            refine st _ (r_assign rfl) ?_
            refine st_nil ?_
            refine c_then ?_
            refine c_ret ?_
            refine r_block ?_
            refine r_then ?_
            refine r_then ?_
            refine r_block ?_
            refine r_then ?_
            exact ret1 trivial rfl rfl ⟨retB (by cases hh : isName s with | false => rfl | true => (exfalso; have hl := name_len hh; have hd := name_dig hh; have ha := name_at hh i (by omega); rcases Nat.eq_zero_or_pos i with h0 | h0 <;> first | omega | (subst h0; omega))), rfl⟩
    · skip
      first | (have h8n := of_decide_eq_false h8) | (have h8n := of_decide_eq_true (bnf h8)) | (have h8n := bnf h8) | (have h8n := h8)
      refine c_exit ?_
      refine x_then ?_
      refine x_then ?_
      refine x_hit ?_
      refine c_then ?_
      refine c_seq ?_
      refine c_region ?_
      refine st _ (r_move rfl) ?_
      refine st _ (r_lenS rfl u9) ?_
      refine st _ (r_ge rfl rfl) ?_
      refine st _ (r_move rfl) ?_
      refine part_n (t := 39) rfl (fun h39 => ?_) (fun h39 => ?_)
      · skip
        first | (have h39n := of_decide_eq_true h39) | (have h39n := of_decide_eq_false (bnt h39)) | (have h39n := bnt h39) | (have h39n := h39)
        refine st_g _ rfl rfl rfl h39 (r_move rfl) ?_
        refine st_g _ rfl rfl rfl h39 (r_lenS rfl u9) ?_
        refine st_g _ rfl rfl rfl h39 (r_le rfl rfl) ?_
        refine st _ (r_pick_t rfl h39 rfl) ?_
        refine st _ (r_assign rfl) ?_
        refine st_nil ?_
        refine c_then ?_
        refine c_ret ?_
        exact ret1 trivial rfl rfl ⟨retB (name_fin (by omega) (fun j hj => h4 j (by omega))), rfl⟩
      · skip
        first | (have h39n := of_decide_eq_false h39) | (have h39n := of_decide_eq_true (bnf h39)) | (have h39n := bnf h39) | (have h39n := h39)
        refine st_skip rfl rfl rfl h39 ?_
        refine st_skip rfl rfl rfl h39 ?_
        refine st_skip rfl rfl rfl h39 ?_
        refine st _ (r_pick_f rfl h39 rfl) ?_
        refine st _ (r_assign rfl) ?_
        refine st_nil ?_
        refine c_then ?_
        refine c_ret ?_
        exact ret1 trivial rfl rfl ⟨retB (by cases hh : isName s with | false => rfl | true => (exfalso; have hl := name_len hh; have hd := name_dig hh; omega)), rfl⟩
end Go.Proofs.Ytimakajeggeebaa
