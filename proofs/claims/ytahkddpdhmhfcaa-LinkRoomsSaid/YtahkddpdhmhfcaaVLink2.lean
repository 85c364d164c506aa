/- Walks of functions: what each call returns, over data. -/
import Derived.Test.YtahkddpdhmhfcaaRows
import Derived.Test.YtahkddpdhmhfcaaVLink
namespace Go.Proofs.Ytahkddpdhmhfcaa
open Go Go.Wk Go.RowKit
set_option linter.unusedVariables false
set_option linter.unusedSimpArgs false
attribute [local irreducible] wpList wpQuiet wpStill wpMix Code.wp Calls bodyPost
theorem fn4 : isFn Try.prog 4 = true := by kernel_rfl
theorem fn5 : isFn Try.prog 5 = true := by kernel_rfl
theorem fn6 : isFn Try.prog 6 = true := by kernel_rfl
theorem fn7 : isFn Try.prog 7 = true := by kernel_rfl
theorem fn8 : isFn Try.prog 8 = true := by kernel_rfl
theorem u25 : Try.prog.underlying 25 = some (.pointer 45) := by kernel_rfl

theorem kImageZ_any {w : World} {Q : Nat → Prop} (uQ : Up w Q) {v0 : Value} {l : List Int} (h0 : Ls tInt w Q v0 l) (most : Nat) (a1 : most < 9223372036854775808) (p0 : most = 0) (p1 : l.length ≤ 1000000) :
    Calls Try.prog 7 #[v0, .int .i64 ((most : Nat) : Int)] w fun en w' => ∃ u0 : Value, ∃ r0 : List UInt8, en = .returned u0 ∧ Md [] w w' ∧ Ls tB8 w' Q u0 r0 ∧ imageOf l 0 = r0 := by
  subst p0; exact kImage0_any uQ h0 p1
theorem lFirst_any {w : World} {Q : Nat → Prop} (uQ : Up w Q)  :
    Calls Try.prog 4 #[] w fun en w' => ∃ r0 : Bool, en = .returned (.bool r0) ∧ Md [] w w' ∧ true = r0 := by
  have M := Md.refl [] w
  have uQ0 := uQ
  have tQ : ∀ b, Q b → Q b := fun _ h => h
  have sQ0 : ∀ b, Q b → b < w.heap.size → Q b := fun _ h _ => h
  refine enter (n := 32) Try.func4 rfl rfl rfl ?_
  intro B
  refine c_seq ?_
  refine c_region ?_
  refine st _ (r_assign rfl) ?_
  refine st_nil ?_
  refine c_then ?_
  refine c_seq ?_
  refine c_region ?_
  refine st_call fn7 rfl (kImageZ_any uQ (Ls.nil tInt _ _) 0 (by first | omega | (simp <;> omega)) (by first | omega | (simp <;> omega) | (simp at * <;> omega)) (by first | omega | (simp <;> omega) | (simp at * <;> omega))) ?_
  rintro en w1 ⟨v1_0, x1_0, rfl, hm, h1_0, hF1⟩; refine ⟨_, rfl, ?_⟩
  replace uQ := uQ.md hm
  replace M := M.step0 hm
  have il := img_len
  rw [hF1] at il
  refine st_call fn6 rfl (aOpen_any uQ h1_0 (by first | omega | (simp <;> omega) | (simp at * <;> omega))) ?_
  rintro en w2 ⟨v2_0, x2_0, x2_1, rfl, hm, h2_0, q2_1, hF2⟩; refine ⟨_, rfl, ?_⟩
  replace h1_0 := h1_0.md0 hm
  replace uQ := uQ.md hm
  replace M := M.step0 hm
  refine st _ (r_move rfl) ?_
  refine st _ (r_extract rfl rfl) ?_
  refine st _ (r_extract rfl rfl) ?_
  refine st _ (r_assign rfl) ?_
  refine st _ (r_assign rfl) ?_
  refine st_nil ?_
  refine c_then ?_
  refine c_seq ?_
  refine c_seq ?_
  refine c_region ?_
  obtain ⟨e0, y, ey, e8⟩ := open_emptyE (x := x2_0) (c := x2_1) (by rw [hF1]; exact hF2)
  refine st _ (r_move rfl) ?_
  refine st _ (r_neN (a := x2_1) (b := 0) rfl rfl) ?_
  refine st _ (r_move rfl) ?_
  refine part_n (t := 12) rfl (fun h12 => ?_) (fun h12 => ?_)
  · skip
    first | (have h12n := of_decide_eq_true h12) | (have h12n := of_decide_eq_false (bnt h12)) | (have h12n := bnt h12) | (have h12n := h12)
    exfalso; omega
  · skip
    first | (have h12n := of_decide_eq_false h12) | (have h12n := of_decide_eq_true (bnf h12)) | (have h12n := bnf h12) | (have h12n := h12)
    refine st_g _ rfl rfl rfl h12 (r_move rfl) ?_
    refine st_g _ rfl rfl rfl h12 (r_eqlPO h2_0 rfl u25) ?_
    refine st _ (r_pick_f rfl h12 rfl) ?_
    refine st_nil ?_
    refine c_then ?_
    refine c_if rfl (fun h15 => ?_) (fun h15 => ?_)
    · skip
      first | (have h15n := of_decide_eq_true h15) | (have h15n := of_decide_eq_false (bnt h15)) | (have h15n := bnt h15) | (have h15n := h15)
      exfalso; simp_all
    · skip
      first | (have h15n := of_decide_eq_false h15) | (have h15n := of_decide_eq_true (bnf h15)) | (have h15n := bnf h15) | (have h15n := h15)
      refine c_skip ?_
      refine c_then ?_
      refine c_seq ?_
      refine c_region ?_
      have hpt : Pt tPView 45 w2 Q v2_0 y := by have h := h2_0; rw [ey] at h; exact h
      clear h2_0
      refine st _ (r_move rfl) ?_
      refine st_call fn8 rfl (lEntries0_any uQ hpt (by first | omega | (simp <;> omega) | (simp at * <;> omega))) ?_
      rintro en w3 ⟨v3_0, x3_0, x3_1, rfl, hm, h3_0, q3_1, hF3⟩; refine ⟨_, rfl, ?_⟩
      replace h1_0 := h1_0.md0 hm
      replace hpt := hpt.md0 hm
      replace uQ := uQ.md hm
      replace M := M.step0 hm
      refine st _ (r_move rfl) ?_
      refine st _ (r_extract rfl rfl) ?_
      refine st _ (r_extract rfl rfl) ?_
      refine st _ (r_assign rfl) ?_
      refine st _ (r_assign rfl) ?_
      refine st_nil ?_
      refine c_then ?_
      refine c_seq ?_
      refine c_region ?_
      refine st _ (r_move rfl) ?_
      refine st _ (r_len rfl u30 h3_0.shp) ?_
      refine st _ (r_eqN (a := x3_0.length) (b := 0) rfl rfl) ?_
      refine st _ (r_move rfl) ?_
      refine part_n (t := 24) rfl (fun h24 => ?_) (fun h24 => ?_)
      · skip
        first | (have h24n := of_decide_eq_true h24) | (have h24n := of_decide_eq_false (bnt h24)) | (have h24n := bnt h24) | (have h24n := h24)
        refine st_g _ rfl rfl rfl h24 (r_move rfl) ?_
        refine st_g _ rfl rfl rfl h24 (r_eqN (a := x3_1) (b := 0) rfl rfl) ?_
        refine st _ (r_pick_t rfl h24 rfl) ?_
        refine st _ (r_move rfl) ?_
        refine part_n (t := 28) rfl (fun h28 => ?_) (fun h28 => ?_)
        · skip
          first | (have h28n := of_decide_eq_true h28) | (have h28n := of_decide_eq_false (bnt h28)) | (have h28n := bnt h28) | (have h28n := h28)
          refine st_call_g rfl rfl rfl h28 fn5 rfl (lRoom_any uQ (3) (by omega)) ?_
          rintro en w4 ⟨x4_0, rfl, hm, q4_0, hF4⟩; refine ⟨_, rfl, ?_⟩
          replace h1_0 := h1_0.md0 hm
          replace hpt := hpt.md0 hm
          replace h3_0 := h3_0.md0 hm
          replace uQ := uQ.md hm
          replace M := M.step0 hm
          refine st_g _ rfl rfl rfl h28 (r_eqN (a := x4_0) (b := 32) rfl rfl) ?_
          refine st _ (r_pick_t rfl h28 rfl) ?_
          refine st _ (r_assign rfl) ?_
          refine st_nil ?_
          refine c_then ?_
          refine c_ret ?_
          exact ret1L (v := (.bool ((decide (x4_0 = 32))))) trivial rfl ⟨rfl, trivial⟩ ⟨(decide (x4_0 = 32)), rfl, M, (by rw [← hF4]; rfl)⟩
        · skip
          first | (have h28n := of_decide_eq_false h28) | (have h28n := of_decide_eq_true (bnf h28)) | (have h28n := bnf h28) | (have h28n := h28)
          exfalso; simp_all
      · skip
        first | (have h24n := of_decide_eq_false h24) | (have h24n := of_decide_eq_true (bnf h24)) | (have h24n := bnf h24) | (have h24n := h24)
        exfalso; simp_all
theorem linkRooms_any {w : World} {Q : Nat → Prop} (uQ : Up w Q) (k : Int) (a0 : (-9223372036854775808 ≤ k ∧ k < 9223372036854775808)) :
    Calls Try.prog 3 #[(.int .i64 (k : Int))] w fun en w' => ∃ r0 : Bool, en = .returned (.bool r0) ∧ Md [] w w' ∧ true = r0 := by
  have M := Md.refl [] w
  have uQ0 := uQ
  have tQ : ∀ b, Q b → Q b := fun _ h => h
  have sQ0 : ∀ b, Q b → b < w.heap.size → Q b := fun _ h _ => h
  refine enter (n := 70) Try.func3 rfl rfl rfl ?_
  intro B
  refine c_seq ?_
  refine c_region ?_
  refine st _ (r_assign rfl) ?_
  refine st_nil ?_
  refine c_then ?_
  refine c_seq ?_
  refine c_region ?_
  refine st_call fn4 rfl (lFirst_any uQ ) ?_
  rintro en w1 ⟨x1_0, rfl, hm, hF1⟩; refine ⟨_, rfl, ?_⟩
  replace uQ := uQ.md hm
  replace M := M.step0 hm
  refine st _ (r_assign rfl) ?_
  refine st_nil ?_
  refine c_then ?_
  refine c_seq ?_
  refine c_seq ?_
  refine c_region ?_
  refine st _ (r_move rfl) ?_
  refine st _ (r_not rfl) ?_
  refine st_nil ?_
  refine c_then ?_
  refine c_if rfl (fun h8 => ?_) (fun h8 => ?_)
  · skip
    first | (have h8n := of_decide_eq_true h8) | (have h8n := of_decide_eq_false (bnt h8)) | (have h8n := bnt h8) | (have h8n := h8)
    exfalso; simp_all
  · skip
    first | (have h8n := of_decide_eq_false h8) | (have h8n := of_decide_eq_true (bnf h8)) | (have h8n := bnf h8) | (have h8n := h8)
    refine c_skip ?_
    refine c_then ?_
    refine c_seq ?_
    refine c_region ?_
    refine st _ (r_move rfl) ?_
    refine st_call fn5 rfl (lRoom_any uQ (k) (by omega)) ?_
    rintro en w2 ⟨x2_0, rfl, hm, q2_0, hF2⟩; refine ⟨_, rfl, ?_⟩
    replace uQ := uQ.md hm
    replace M := M.step0 hm
    refine st _ (r_assign rfl) ?_
    refine st_nil ?_
    refine c_then ?_
    refine c_seq ?_
    refine c_seq ?_
    refine c_region ?_
    refine st _ (r_move rfl) ?_
    refine st _ (r_lt (a := k) (b := 0) rfl rfl) ?_
    refine st_nil ?_
    refine c_then ?_
    refine c_if rfl (fun h12 => ?_) (fun h12 => ?_)
    · skip
      first | (have h12n := of_decide_eq_true h12) | (have h12n := of_decide_eq_false (bnt h12)) | (have h12n := bnt h12) | (have h12n := h12)
      refine c_seq ?_
      refine c_region ?_
      refine st _ (r_move rfl) ?_
      refine st _ (r_eqN (a := x2_0) (b := 0) rfl rfl) ?_
      refine st _ (r_assign rfl) ?_
      refine st_nil ?_
      refine c_then ?_
      refine c_ret ?_
      refine r_then ?_
      exact ret1L (v := (.bool ((decide (x2_0 = 0))))) trivial rfl ⟨rfl, trivial⟩ ⟨(decide (x2_0 = 0)), rfl, M, (by have rn := room_neg h12n; rw [hF2] at rn; exact (decide_eq_true (by omega)).symm)⟩
    · skip
      first | (have h12n := of_decide_eq_false h12) | (have h12n := of_decide_eq_true (bnf h12)) | (have h12n := bnf h12) | (have h12n := h12)
      refine c_skip ?_
      refine c_then ?_
      refine c_seq ?_
      refine c_region ?_
      refine st _ (r_move rfl) ?_
      have hb := half_bd (k := k) (by omega)
      refine st _ (r_quoZ (a := k) (b := 2) rfl rfl (by omega)) ?_
      refine st _ (r_mulI (a := k.tdiv 2) (b := 2) rfl rfl (by omega)) ?_
      refine st_call fn5 rfl (lRoom_any uQ (k.tdiv 2 * 2) (by omega)) ?_
      rintro en w3 ⟨x3_0, rfl, hm, q3_0, hF3⟩; refine ⟨_, rfl, ?_⟩
      replace uQ := uQ.md hm
      replace M := M.step0 hm
      refine st _ (r_assign rfl) ?_
      refine st_nil ?_
      refine c_then ?_
      refine c_seq ?_
      refine c_region ?_
      have va := room_vals (k := k) (by omega)
      have hb := half_bd (k := k) (by omega)
      have vb := room_vals (k := k.tdiv 2 * 2) (by omega)
      rw [hF2] at va
      rw [hF3] at vb
      refine st _ (r_move rfl) ?_
      refine st _ (r_move rfl) ?_
      refine part_n (t := 20) rfl (fun h20 => ?_) (fun h20 => ?_)
      · skip
        first | (have h20n := of_decide_eq_true h20) | (have h20n := of_decide_eq_false (bnt h20)) | (have h20n := bnt h20) | (have h20n := h20)
        refine st_g _ rfl rfl rfl h20 (r_move rfl) ?_
        refine st_g _ rfl rfl rfl h20 (r_geN (a := x2_0) (b := 4) rfl rfl) ?_
        refine st _ (r_pick_t rfl h20 rfl) ?_
        refine st _ (r_move rfl) ?_
        refine part_n (t := 24) rfl (fun h24 => ?_) (fun h24 => ?_)
        · skip
          first | (have h24n := of_decide_eq_true h24) | (have h24n := of_decide_eq_false (bnt h24)) | (have h24n := bnt h24) | (have h24n := h24)
          refine st_g _ rfl rfl rfl h24 (r_move rfl) ?_
          refine st_g _ rfl rfl rfl h24 (r_leN (a := x2_0) (b := 256) rfl rfl) ?_
          refine st _ (r_pick_t rfl h24 rfl) ?_
          refine st _ (r_move rfl) ?_
          refine part_n (t := 28) rfl (fun h28 => ?_) (fun h28 => ?_)
          · skip
            first | (have h28n := of_decide_eq_true h28) | (have h28n := of_decide_eq_false (bnt h28)) | (have h28n := bnt h28) | (have h28n := h28)
            refine st_g _ rfl rfl rfl h28 (r_move rfl) ?_
            refine st_g _ rfl rfl rfl h28 (r_remN (a := x2_0) (b := 4) rfl rfl (by omega)) ?_
            refine st_g _ rfl rfl rfl h28 (r_eqN (a := (x2_0 % 4)) (b := 0) rfl rfl) ?_
            refine st _ (r_pick_t rfl h28 rfl) ?_
            refine st _ (r_move rfl) ?_
            refine part_n (t := 33) rfl (fun h33 => ?_) (fun h33 => ?_)
            · skip
              first | (have h33n := of_decide_eq_true h33) | (have h33n := of_decide_eq_false (bnt h33)) | (have h33n := bnt h33) | (have h33n := h33)
              refine st_g _ rfl rfl rfl h33 (r_move rfl) ?_
              refine st_g _ rfl rfl rfl h33 (r_ne (a := k) (b := 0) rfl rfl) ?_
              refine st_g _ rfl rfl rfl h33 (r_move rfl) ?_
              refine part_n (t := 36) rfl (fun h36 => ?_) (fun h36 => ?_)
              · skip
                first | (have h36n := of_decide_eq_true h36) | (have h36n := of_decide_eq_false (bnt h36)) | (have h36n := bnt h36) | (have h36n := h36)
                refine st_skip rfl rfl rfl h36 ?_
                refine st_skip rfl rfl rfl h36 ?_
                refine st_g _ rfl rfl rfl h33 (r_pick_t rfl h36 rfl) ?_
                refine st _ (r_pick_t rfl h33 rfl) ?_
                refine st _ (r_move rfl) ?_
                refine st_g _ rfl rfl rfl rfl (r_move rfl) ?_
                refine st_g _ rfl rfl rfl rfl (r_lt (a := k) (b := 6) rfl rfl) ?_
                refine st_g _ rfl rfl rfl rfl (r_move rfl) ?_
                refine part_n (t := 44) rfl (fun h44 => ?_) (fun h44 => ?_)
                · skip
                  first | (have h44n := of_decide_eq_true h44) | (have h44n := of_decide_eq_false (bnt h44)) | (have h44n := bnt h44) | (have h44n := h44)
                  refine st_skip rfl rfl rfl h44 ?_
                  refine st_skip rfl rfl rfl h44 ?_
                  refine st_g _ rfl rfl rfl rfl (r_pick_t rfl h44 rfl) ?_
                  refine st _ (r_pick_t rfl rfl rfl) ?_
                  refine st _ (r_move rfl) ?_
                  refine st_g _ rfl rfl rfl rfl (r_move rfl) ?_
                  refine st_g _ rfl rfl rfl rfl (r_gt (a := k) (b := 5) rfl rfl) ?_
                  refine st_g _ rfl rfl rfl rfl (r_move rfl) ?_
                  refine part_n (t := 52) rfl (fun h52 => ?_) (fun h52 => ?_)
                  · skip
                    first | (have h52n := of_decide_eq_true h52) | (have h52n := of_decide_eq_false (bnt h52)) | (have h52n := bnt h52) | (have h52n := h52)
                    refine st_skip rfl rfl rfl h52 ?_
                    refine st_skip rfl rfl rfl h52 ?_
                    refine st_g _ rfl rfl rfl rfl (r_pick_t rfl h52 rfl) ?_
                    refine st_g _ rfl rfl rfl rfl (r_move rfl) ?_
                    refine st_skip rfl rfl rfl rfl ?_
                    refine st_skip rfl rfl rfl rfl ?_
                    refine st_skip rfl rfl rfl rfl ?_
                    refine st_skip rfl rfl rfl rfl ?_
                    refine st_skip rfl rfl rfl rfl ?_
                    refine st_skip rfl rfl rfl rfl ?_
                    refine st_g _ rfl rfl rfl rfl (r_pick_t rfl rfl rfl) ?_
                    refine st _ (r_pick_t rfl rfl rfl) ?_
                    refine st _ (r_move rfl) ?_
                    refine st_g _ rfl rfl rfl rfl (r_move rfl) ?_
                    refine st_g _ rfl rfl rfl rfl (r_move rfl) ?_
                    refine st_g _ rfl rfl rfl rfl (r_leN (a := x3_0) (b := x2_0) rfl rfl) ?_
                    refine st _ (r_pick_t rfl rfl rfl) ?_
                    refine st _ (r_assign rfl) ?_
                    refine st_nil ?_
                    refine c_then ?_
                    refine c_ret ?_
                    exact ret1L (v := (.bool ((decide (x3_0 ≤ x2_0))))) trivial rfl ⟨rfl, trivial⟩ ⟨(decide (x3_0 ≤ x2_0)), rfl, M, (decide_eq_true (by omega)).symm⟩
                  · skip
                    first | (have h52n := of_decide_eq_false h52) | (have h52n := of_decide_eq_true (bnf h52)) | (have h52n := bnf h52) | (have h52n := h52)
                    refine st_g _ rfl rfl rfl h52 (r_move rfl) ?_
                    refine st_g _ rfl rfl rfl h52 (r_lt (a := k) (b := 1) rfl rfl) ?_
                    refine st_g _ rfl rfl rfl rfl (r_pick_f rfl h52 rfl) ?_
                    refine st_g _ rfl rfl rfl rfl (r_move rfl) ?_
                    refine part_n (t := 56) rfl (fun h56 => ?_) (fun h56 => ?_)
                    · skip
                      first | (have h56n := of_decide_eq_true h56) | (have h56n := of_decide_eq_false (bnt h56)) | (have h56n := bnt h56) | (have h56n := h56)
                      refine st_skip rfl rfl rfl h56 ?_
                      refine st_skip rfl rfl rfl h56 ?_
                      refine st_skip rfl rfl rfl h56 ?_
                      refine st_skip rfl rfl rfl h56 ?_
                      refine st_skip rfl rfl rfl h56 ?_
                      refine st_skip rfl rfl rfl h56 ?_
                      refine st_g _ rfl rfl rfl rfl (r_pick_t rfl h56 rfl) ?_
                      refine st _ (r_pick_t rfl rfl rfl) ?_
                      refine st _ (r_move rfl) ?_
                      refine st_g _ rfl rfl rfl rfl (r_move rfl) ?_
                      refine st_g _ rfl rfl rfl rfl (r_move rfl) ?_
                      refine st_g _ rfl rfl rfl rfl (r_leN (a := x3_0) (b := x2_0) rfl rfl) ?_
                      refine st _ (r_pick_t rfl rfl rfl) ?_
                      refine st _ (r_assign rfl) ?_
                      refine st_nil ?_
                      refine c_then ?_
                      refine c_ret ?_
                      exact ret1L (v := (.bool ((decide (x3_0 ≤ x2_0))))) trivial rfl ⟨rfl, trivial⟩ ⟨(decide (x3_0 ≤ x2_0)), rfl, M, (decide_eq_true (by omega)).symm⟩
                    · skip
                      first | (have h56n := of_decide_eq_false h56) | (have h56n := of_decide_eq_true (bnf h56)) | (have h56n := bnf h56) | (have h56n := h56)
                      refine st_g _ rfl rfl rfl h56 (r_move rfl) ?_
                      refine st_g _ rfl rfl rfl h56 (r_move rfl) ?_
                      refine st_g _ rfl rfl rfl h56 (r_subI (a := k) (b := 1) rfl rfl (by omega)) ?_
                      refine st_call_g rfl rfl rfl h56 fn5 rfl (lRoom_any uQ (k - 1) (by omega)) ?_
                      rintro en w4 ⟨x4_0, rfl, hm, q4_0, hF4⟩; refine ⟨_, rfl, ?_⟩
                      replace uQ := uQ.md hm
                      replace M := M.step0 hm
                      have vc := room_vals (k := k - 1) (by omega)
                      rw [hF4] at vc
                      refine st_g _ rfl rfl rfl h56 (r_mulN (a := 2) (b := x4_0) 9223372036854775808 rfl rfl rfl (by omega)) ?_
                      refine st_g _ rfl rfl rfl h56 (r_eqN (a := x2_0) (b := (2 * x4_0)) rfl rfl) ?_
                      refine st_g _ rfl rfl rfl rfl (r_pick_f rfl h56 rfl) ?_
                      refine st _ (r_pick_t rfl rfl rfl) ?_
                      refine st _ (r_move rfl) ?_
                      refine part_n (t := 65) rfl (fun h65 => ?_) (fun h65 => ?_)
                      · skip
                        first | (have h65n := of_decide_eq_true h65) | (have h65n := of_decide_eq_false (bnt h65)) | (have h65n := bnt h65) | (have h65n := h65)
                        refine st_g _ rfl rfl rfl h65 (r_move rfl) ?_
                        refine st_g _ rfl rfl rfl h65 (r_move rfl) ?_
                        refine st_g _ rfl rfl rfl h65 (r_leN (a := x3_0) (b := x2_0) rfl rfl) ?_
                        refine st _ (r_pick_t rfl h65 rfl) ?_
                        refine st _ (r_assign rfl) ?_
                        refine st_nil ?_
                        refine c_then ?_
                        refine c_ret ?_
                        exact ret1L (v := (.bool ((decide (x3_0 ≤ x2_0))))) trivial rfl ⟨rfl, trivial⟩ ⟨(decide (x3_0 ≤ x2_0)), rfl, M, (decide_eq_true (by omega)).symm⟩
                      · skip
                        first | (have h65n := of_decide_eq_false h65) | (have h65n := of_decide_eq_true (bnf h65)) | (have h65n := bnf h65) | (have h65n := h65)
                        exfalso; omega
                · skip
                  first | (have h44n := of_decide_eq_false h44) | (have h44n := of_decide_eq_true (bnf h44)) | (have h44n := bnf h44) | (have h44n := h44)
                  refine st_g _ rfl rfl rfl h44 (r_move rfl) ?_
                  refine st_g _ rfl rfl rfl h44 (r_eqN (a := x2_0) (b := 256) rfl rfl) ?_
                  refine st_g _ rfl rfl rfl rfl (r_pick_f rfl h44 rfl) ?_
                  refine st _ (r_pick_t rfl rfl rfl) ?_
                  refine st _ (r_move rfl) ?_
                  refine part_n (t := 49) rfl (fun h49 => ?_) (fun h49 => ?_)
                  · skip
                    first | (have h49n := of_decide_eq_true h49) | (have h49n := of_decide_eq_false (bnt h49)) | (have h49n := bnt h49) | (have h49n := h49)
                    refine st_g _ rfl rfl rfl h49 (r_move rfl) ?_
                    refine st_g _ rfl rfl rfl h49 (r_gt (a := k) (b := 5) rfl rfl) ?_
                    refine st_g _ rfl rfl rfl h49 (r_move rfl) ?_
                    refine part_n (t := 52) rfl (fun h52 => ?_) (fun h52 => ?_)
                    · skip
                      first | (have h52n := of_decide_eq_true h52) | (have h52n := of_decide_eq_false (bnt h52)) | (have h52n := bnt h52) | (have h52n := h52)
                      refine st_skip rfl rfl rfl h52 ?_
                      refine st_skip rfl rfl rfl h52 ?_
                      refine st_g _ rfl rfl rfl h49 (r_pick_t rfl h52 rfl) ?_
                      refine st_g _ rfl rfl rfl h49 (r_move rfl) ?_
                      refine st_skip rfl rfl rfl rfl ?_
                      refine st_skip rfl rfl rfl rfl ?_
                      refine st_skip rfl rfl rfl rfl ?_
                      refine st_skip rfl rfl rfl rfl ?_
                      refine st_skip rfl rfl rfl rfl ?_
                      refine st_skip rfl rfl rfl rfl ?_
                      refine st_g _ rfl rfl rfl h49 (r_pick_t rfl rfl rfl) ?_
                      refine st _ (r_pick_t rfl h49 rfl) ?_
                      refine st _ (r_move rfl) ?_
                      refine st_g _ rfl rfl rfl rfl (r_move rfl) ?_
                      refine st_g _ rfl rfl rfl rfl (r_move rfl) ?_
                      refine st_g _ rfl rfl rfl rfl (r_leN (a := x3_0) (b := x2_0) rfl rfl) ?_
                      refine st _ (r_pick_t rfl rfl rfl) ?_
                      refine st _ (r_assign rfl) ?_
                      refine st_nil ?_
                      refine c_then ?_
                      refine c_ret ?_
                      exact ret1L (v := (.bool ((decide (x3_0 ≤ x2_0))))) trivial rfl ⟨rfl, trivial⟩ ⟨(decide (x3_0 ≤ x2_0)), rfl, M, (decide_eq_true (by omega)).symm⟩
                    · skip
                      first | (have h52n := of_decide_eq_false h52) | (have h52n := of_decide_eq_true (bnf h52)) | (have h52n := bnf h52) | (have h52n := h52)
                      refine st_g _ rfl rfl rfl h52 (r_move rfl) ?_
                      refine st_g _ rfl rfl rfl h52 (r_lt (a := k) (b := 1) rfl rfl) ?_
                      refine st_g _ rfl rfl rfl h49 (r_pick_f rfl h52 rfl) ?_
                      refine st_g _ rfl rfl rfl h49 (r_move rfl) ?_
                      refine part_n (t := 56) rfl (fun h56 => ?_) (fun h56 => ?_)
                      · skip
                        first | (have h56n := of_decide_eq_true h56) | (have h56n := of_decide_eq_false (bnt h56)) | (have h56n := bnt h56) | (have h56n := h56)
                        refine st_skip rfl rfl rfl h56 ?_
                        refine st_skip rfl rfl rfl h56 ?_
                        refine st_skip rfl rfl rfl h56 ?_
                        refine st_skip rfl rfl rfl h56 ?_
                        refine st_skip rfl rfl rfl h56 ?_
                        refine st_skip rfl rfl rfl h56 ?_
                        refine st_g _ rfl rfl rfl h49 (r_pick_t rfl h56 rfl) ?_
                        refine st _ (r_pick_t rfl h49 rfl) ?_
                        refine st _ (r_move rfl) ?_
                        refine st_g _ rfl rfl rfl rfl (r_move rfl) ?_
                        refine st_g _ rfl rfl rfl rfl (r_move rfl) ?_
                        refine st_g _ rfl rfl rfl rfl (r_leN (a := x3_0) (b := x2_0) rfl rfl) ?_
                        refine st _ (r_pick_t rfl rfl rfl) ?_
                        refine st _ (r_assign rfl) ?_
                        refine st_nil ?_
                        refine c_then ?_
                        refine c_ret ?_
                        exact ret1L (v := (.bool ((decide (x3_0 ≤ x2_0))))) trivial rfl ⟨rfl, trivial⟩ ⟨(decide (x3_0 ≤ x2_0)), rfl, M, (decide_eq_true (by omega)).symm⟩
                      · skip
                        first | (have h56n := of_decide_eq_false h56) | (have h56n := of_decide_eq_true (bnf h56)) | (have h56n := bnf h56) | (have h56n := h56)
                        refine st_g _ rfl rfl rfl h56 (r_move rfl) ?_
                        refine st_g _ rfl rfl rfl h56 (r_move rfl) ?_
                        refine st_g _ rfl rfl rfl h56 (r_subI (a := k) (b := 1) rfl rfl (by omega)) ?_
                        refine st_call_g rfl rfl rfl h56 fn5 rfl (lRoom_any uQ (k - 1) (by omega)) ?_
                        rintro en w5 ⟨x5_0, rfl, hm, q5_0, hF5⟩; refine ⟨_, rfl, ?_⟩
                        replace uQ := uQ.md hm
                        replace M := M.step0 hm
                        have vc := room_vals (k := k - 1) (by omega)
                        rw [hF5] at vc
                        refine st_g _ rfl rfl rfl h56 (r_mulN (a := 2) (b := x5_0) 9223372036854775808 rfl rfl rfl (by omega)) ?_
                        refine st_g _ rfl rfl rfl h56 (r_eqN (a := x2_0) (b := (2 * x5_0)) rfl rfl) ?_
                        refine st_g _ rfl rfl rfl h49 (r_pick_f rfl h56 rfl) ?_
                        refine st _ (r_pick_t rfl h49 rfl) ?_
                        refine st _ (r_move rfl) ?_
                        refine part_n (t := 65) rfl (fun h65 => ?_) (fun h65 => ?_)
                        · skip
                          first | (have h65n := of_decide_eq_true h65) | (have h65n := of_decide_eq_false (bnt h65)) | (have h65n := bnt h65) | (have h65n := h65)
                          refine st_g _ rfl rfl rfl h65 (r_move rfl) ?_
                          refine st_g _ rfl rfl rfl h65 (r_move rfl) ?_
                          refine st_g _ rfl rfl rfl h65 (r_leN (a := x3_0) (b := x2_0) rfl rfl) ?_
                          refine st _ (r_pick_t rfl h65 rfl) ?_
                          refine st _ (r_assign rfl) ?_
                          refine st_nil ?_
                          refine c_then ?_
                          refine c_ret ?_
                          exact ret1L (v := (.bool ((decide (x3_0 ≤ x2_0))))) trivial rfl ⟨rfl, trivial⟩ ⟨(decide (x3_0 ≤ x2_0)), rfl, M, (decide_eq_true (by omega)).symm⟩
                        · skip
                          first | (have h65n := of_decide_eq_false h65) | (have h65n := of_decide_eq_true (bnf h65)) | (have h65n := bnf h65) | (have h65n := h65)
                          exfalso; omega
                  · skip
                    first | (have h49n := of_decide_eq_false h49) | (have h49n := of_decide_eq_true (bnf h49)) | (have h49n := bnf h49) | (have h49n := h49)
                    exfalso; omega
              · skip
                first | (have h36n := of_decide_eq_false h36) | (have h36n := of_decide_eq_true (bnf h36)) | (have h36n := bnf h36) | (have h36n := h36)
                refine st_g _ rfl rfl rfl h36 (r_move rfl) ?_
                refine st_g _ rfl rfl rfl h36 (r_eqN (a := x2_0) (b := 4) rfl rfl) ?_
                refine st_g _ rfl rfl rfl h33 (r_pick_f rfl h36 rfl) ?_
                refine st _ (r_pick_t rfl h33 rfl) ?_
                refine st _ (r_move rfl) ?_
                refine part_n (t := 41) rfl (fun h41 => ?_) (fun h41 => ?_)
                · skip
                  first | (have h41n := of_decide_eq_true h41) | (have h41n := of_decide_eq_false (bnt h41)) | (have h41n := bnt h41) | (have h41n := h41)
                  refine st_g _ rfl rfl rfl h41 (r_move rfl) ?_
                  refine st_g _ rfl rfl rfl h41 (r_lt (a := k) (b := 6) rfl rfl) ?_
                  refine st_g _ rfl rfl rfl h41 (r_move rfl) ?_
                  refine part_n (t := 44) rfl (fun h44 => ?_) (fun h44 => ?_)
                  · skip
                    first | (have h44n := of_decide_eq_true h44) | (have h44n := of_decide_eq_false (bnt h44)) | (have h44n := bnt h44) | (have h44n := h44)
                    refine st_skip rfl rfl rfl h44 ?_
                    refine st_skip rfl rfl rfl h44 ?_
                    refine st_g _ rfl rfl rfl h41 (r_pick_t rfl h44 rfl) ?_
                    refine st _ (r_pick_t rfl h41 rfl) ?_
                    refine st _ (r_move rfl) ?_
                    refine st_g _ rfl rfl rfl rfl (r_move rfl) ?_
                    refine st_g _ rfl rfl rfl rfl (r_gt (a := k) (b := 5) rfl rfl) ?_
                    refine st_g _ rfl rfl rfl rfl (r_move rfl) ?_
                    refine part_n (t := 52) rfl (fun h52 => ?_) (fun h52 => ?_)
                    · skip
                      first | (have h52n := of_decide_eq_true h52) | (have h52n := of_decide_eq_false (bnt h52)) | (have h52n := bnt h52) | (have h52n := h52)
                      refine st_skip rfl rfl rfl h52 ?_
                      refine st_skip rfl rfl rfl h52 ?_
                      refine st_g _ rfl rfl rfl rfl (r_pick_t rfl h52 rfl) ?_
                      refine st_g _ rfl rfl rfl rfl (r_move rfl) ?_
                      refine st_skip rfl rfl rfl rfl ?_
                      refine st_skip rfl rfl rfl rfl ?_
                      refine st_skip rfl rfl rfl rfl ?_
                      refine st_skip rfl rfl rfl rfl ?_
                      refine st_skip rfl rfl rfl rfl ?_
                      refine st_skip rfl rfl rfl rfl ?_
                      refine st_g _ rfl rfl rfl rfl (r_pick_t rfl rfl rfl) ?_
                      refine st _ (r_pick_t rfl rfl rfl) ?_
                      refine st _ (r_move rfl) ?_
                      refine st_g _ rfl rfl rfl rfl (r_move rfl) ?_
                      refine st_g _ rfl rfl rfl rfl (r_move rfl) ?_
                      refine st_g _ rfl rfl rfl rfl (r_leN (a := x3_0) (b := x2_0) rfl rfl) ?_
                      refine st _ (r_pick_t rfl rfl rfl) ?_
                      refine st _ (r_assign rfl) ?_
                      refine st_nil ?_
                      refine c_then ?_
                      refine c_ret ?_
                      exact ret1L (v := (.bool ((decide (x3_0 ≤ x2_0))))) trivial rfl ⟨rfl, trivial⟩ ⟨(decide (x3_0 ≤ x2_0)), rfl, M, (decide_eq_true (by omega)).symm⟩
                    · skip
                      first | (have h52n := of_decide_eq_false h52) | (have h52n := of_decide_eq_true (bnf h52)) | (have h52n := bnf h52) | (have h52n := h52)
                      refine st_g _ rfl rfl rfl h52 (r_move rfl) ?_
                      refine st_g _ rfl rfl rfl h52 (r_lt (a := k) (b := 1) rfl rfl) ?_
                      refine st_g _ rfl rfl rfl rfl (r_pick_f rfl h52 rfl) ?_
                      refine st_g _ rfl rfl rfl rfl (r_move rfl) ?_
                      refine part_n (t := 56) rfl (fun h56 => ?_) (fun h56 => ?_)
                      · skip
                        first | (have h56n := of_decide_eq_true h56) | (have h56n := of_decide_eq_false (bnt h56)) | (have h56n := bnt h56) | (have h56n := h56)
                        refine st_skip rfl rfl rfl h56 ?_
                        refine st_skip rfl rfl rfl h56 ?_
                        refine st_skip rfl rfl rfl h56 ?_
                        refine st_skip rfl rfl rfl h56 ?_
                        refine st_skip rfl rfl rfl h56 ?_
                        refine st_skip rfl rfl rfl h56 ?_
                        refine st_g _ rfl rfl rfl rfl (r_pick_t rfl h56 rfl) ?_
                        refine st _ (r_pick_t rfl rfl rfl) ?_
                        refine st _ (r_move rfl) ?_
                        refine st_g _ rfl rfl rfl rfl (r_move rfl) ?_
                        refine st_g _ rfl rfl rfl rfl (r_move rfl) ?_
                        refine st_g _ rfl rfl rfl rfl (r_leN (a := x3_0) (b := x2_0) rfl rfl) ?_
                        refine st _ (r_pick_t rfl rfl rfl) ?_
                        refine st _ (r_assign rfl) ?_
                        refine st_nil ?_
                        refine c_then ?_
                        refine c_ret ?_
                        exact ret1L (v := (.bool ((decide (x3_0 ≤ x2_0))))) trivial rfl ⟨rfl, trivial⟩ ⟨(decide (x3_0 ≤ x2_0)), rfl, M, (decide_eq_true (by omega)).symm⟩
                      · skip
                        first | (have h56n := of_decide_eq_false h56) | (have h56n := of_decide_eq_true (bnf h56)) | (have h56n := bnf h56) | (have h56n := h56)
                        refine st_g _ rfl rfl rfl h56 (r_move rfl) ?_
                        refine st_g _ rfl rfl rfl h56 (r_move rfl) ?_
                        refine st_g _ rfl rfl rfl h56 (r_subI (a := k) (b := 1) rfl rfl (by omega)) ?_
                        refine st_call_g rfl rfl rfl h56 fn5 rfl (lRoom_any uQ (k - 1) (by omega)) ?_
                        rintro en w6 ⟨x6_0, rfl, hm, q6_0, hF6⟩; refine ⟨_, rfl, ?_⟩
                        replace uQ := uQ.md hm
                        replace M := M.step0 hm
                        have vc := room_vals (k := k - 1) (by omega)
                        rw [hF6] at vc
                        refine st_g _ rfl rfl rfl h56 (r_mulN (a := 2) (b := x6_0) 9223372036854775808 rfl rfl rfl (by omega)) ?_
                        refine st_g _ rfl rfl rfl h56 (r_eqN (a := x2_0) (b := (2 * x6_0)) rfl rfl) ?_
                        refine st_g _ rfl rfl rfl rfl (r_pick_f rfl h56 rfl) ?_
                        refine st _ (r_pick_t rfl rfl rfl) ?_
                        refine st _ (r_move rfl) ?_
                        refine part_n (t := 65) rfl (fun h65 => ?_) (fun h65 => ?_)
                        · skip
                          first | (have h65n := of_decide_eq_true h65) | (have h65n := of_decide_eq_false (bnt h65)) | (have h65n := bnt h65) | (have h65n := h65)
                          refine st_g _ rfl rfl rfl h65 (r_move rfl) ?_
                          refine st_g _ rfl rfl rfl h65 (r_move rfl) ?_
                          refine st_g _ rfl rfl rfl h65 (r_leN (a := x3_0) (b := x2_0) rfl rfl) ?_
                          refine st _ (r_pick_t rfl h65 rfl) ?_
                          refine st _ (r_assign rfl) ?_
                          refine st_nil ?_
                          refine c_then ?_
                          refine c_ret ?_
                          exact ret1L (v := (.bool ((decide (x3_0 ≤ x2_0))))) trivial rfl ⟨rfl, trivial⟩ ⟨(decide (x3_0 ≤ x2_0)), rfl, M, (decide_eq_true (by omega)).symm⟩
                        · skip
                          first | (have h65n := of_decide_eq_false h65) | (have h65n := of_decide_eq_true (bnf h65)) | (have h65n := bnf h65) | (have h65n := h65)
                          exfalso; omega
                  · skip
                    first | (have h44n := of_decide_eq_false h44) | (have h44n := of_decide_eq_true (bnf h44)) | (have h44n := bnf h44) | (have h44n := h44)
                    refine st_g _ rfl rfl rfl h44 (r_move rfl) ?_
                    refine st_g _ rfl rfl rfl h44 (r_eqN (a := x2_0) (b := 256) rfl rfl) ?_
                    refine st_g _ rfl rfl rfl h41 (r_pick_f rfl h44 rfl) ?_
                    refine st _ (r_pick_t rfl h41 rfl) ?_
                    refine st _ (r_move rfl) ?_
                    refine part_n (t := 49) rfl (fun h49 => ?_) (fun h49 => ?_)
                    · skip
                      first | (have h49n := of_decide_eq_true h49) | (have h49n := of_decide_eq_false (bnt h49)) | (have h49n := bnt h49) | (have h49n := h49)
                      refine st_g _ rfl rfl rfl h49 (r_move rfl) ?_
                      refine st_g _ rfl rfl rfl h49 (r_gt (a := k) (b := 5) rfl rfl) ?_
                      refine st_g _ rfl rfl rfl h49 (r_move rfl) ?_
                      refine part_n (t := 52) rfl (fun h52 => ?_) (fun h52 => ?_)
                      · skip
                        first | (have h52n := of_decide_eq_true h52) | (have h52n := of_decide_eq_false (bnt h52)) | (have h52n := bnt h52) | (have h52n := h52)
                        refine st_skip rfl rfl rfl h52 ?_
                        refine st_skip rfl rfl rfl h52 ?_
                        refine st_g _ rfl rfl rfl h49 (r_pick_t rfl h52 rfl) ?_
                        refine st_g _ rfl rfl rfl h49 (r_move rfl) ?_
                        refine st_skip rfl rfl rfl rfl ?_
                        refine st_skip rfl rfl rfl rfl ?_
                        refine st_skip rfl rfl rfl rfl ?_
                        refine st_skip rfl rfl rfl rfl ?_
                        refine st_skip rfl rfl rfl rfl ?_
                        refine st_skip rfl rfl rfl rfl ?_
                        refine st_g _ rfl rfl rfl h49 (r_pick_t rfl rfl rfl) ?_
                        refine st _ (r_pick_t rfl h49 rfl) ?_
                        refine st _ (r_move rfl) ?_
                        refine st_g _ rfl rfl rfl rfl (r_move rfl) ?_
                        refine st_g _ rfl rfl rfl rfl (r_move rfl) ?_
                        refine st_g _ rfl rfl rfl rfl (r_leN (a := x3_0) (b := x2_0) rfl rfl) ?_
                        refine st _ (r_pick_t rfl rfl rfl) ?_
                        refine st _ (r_assign rfl) ?_
                        refine st_nil ?_
                        refine c_then ?_
                        refine c_ret ?_
                        exact ret1L (v := (.bool ((decide (x3_0 ≤ x2_0))))) trivial rfl ⟨rfl, trivial⟩ ⟨(decide (x3_0 ≤ x2_0)), rfl, M, (decide_eq_true (by omega)).symm⟩
                      · skip
                        first | (have h52n := of_decide_eq_false h52) | (have h52n := of_decide_eq_true (bnf h52)) | (have h52n := bnf h52) | (have h52n := h52)
                        refine st_g _ rfl rfl rfl h52 (r_move rfl) ?_
                        refine st_g _ rfl rfl rfl h52 (r_lt (a := k) (b := 1) rfl rfl) ?_
                        refine st_g _ rfl rfl rfl h49 (r_pick_f rfl h52 rfl) ?_
                        refine st_g _ rfl rfl rfl h49 (r_move rfl) ?_
                        refine part_n (t := 56) rfl (fun h56 => ?_) (fun h56 => ?_)
                        · skip
                          first | (have h56n := of_decide_eq_true h56) | (have h56n := of_decide_eq_false (bnt h56)) | (have h56n := bnt h56) | (have h56n := h56)
                          refine st_skip rfl rfl rfl h56 ?_
                          refine st_skip rfl rfl rfl h56 ?_
                          refine st_skip rfl rfl rfl h56 ?_
                          refine st_skip rfl rfl rfl h56 ?_
                          refine st_skip rfl rfl rfl h56 ?_
                          refine st_skip rfl rfl rfl h56 ?_
                          refine st_g _ rfl rfl rfl h49 (r_pick_t rfl h56 rfl) ?_
                          refine st _ (r_pick_t rfl h49 rfl) ?_
                          refine st _ (r_move rfl) ?_
                          refine st_g _ rfl rfl rfl rfl (r_move rfl) ?_
                          refine st_g _ rfl rfl rfl rfl (r_move rfl) ?_
                          refine st_g _ rfl rfl rfl rfl (r_leN (a := x3_0) (b := x2_0) rfl rfl) ?_
                          refine st _ (r_pick_t rfl rfl rfl) ?_
                          refine st _ (r_assign rfl) ?_
                          refine st_nil ?_
                          refine c_then ?_
                          refine c_ret ?_
                          exact ret1L (v := (.bool ((decide (x3_0 ≤ x2_0))))) trivial rfl ⟨rfl, trivial⟩ ⟨(decide (x3_0 ≤ x2_0)), rfl, M, (decide_eq_true (by omega)).symm⟩
                        · skip
                          first | (have h56n := of_decide_eq_false h56) | (have h56n := of_decide_eq_true (bnf h56)) | (have h56n := bnf h56) | (have h56n := h56)
                          refine st_g _ rfl rfl rfl h56 (r_move rfl) ?_
                          refine st_g _ rfl rfl rfl h56 (r_move rfl) ?_
                          refine st_g _ rfl rfl rfl h56 (r_subI (a := k) (b := 1) rfl rfl (by omega)) ?_
                          refine st_call_g rfl rfl rfl h56 fn5 rfl (lRoom_any uQ (k - 1) (by omega)) ?_
                          rintro en w7 ⟨x7_0, rfl, hm, q7_0, hF7⟩; refine ⟨_, rfl, ?_⟩
                          replace uQ := uQ.md hm
                          replace M := M.step0 hm
                          have vc := room_vals (k := k - 1) (by omega)
                          rw [hF7] at vc
                          refine st_g _ rfl rfl rfl h56 (r_mulN (a := 2) (b := x7_0) 9223372036854775808 rfl rfl rfl (by omega)) ?_
                          refine st_g _ rfl rfl rfl h56 (r_eqN (a := x2_0) (b := (2 * x7_0)) rfl rfl) ?_
                          refine st_g _ rfl rfl rfl h49 (r_pick_f rfl h56 rfl) ?_
                          refine st _ (r_pick_t rfl h49 rfl) ?_
                          refine st _ (r_move rfl) ?_
                          refine part_n (t := 65) rfl (fun h65 => ?_) (fun h65 => ?_)
                          · skip
                            first | (have h65n := of_decide_eq_true h65) | (have h65n := of_decide_eq_false (bnt h65)) | (have h65n := bnt h65) | (have h65n := h65)
                            refine st_g _ rfl rfl rfl h65 (r_move rfl) ?_
                            refine st_g _ rfl rfl rfl h65 (r_move rfl) ?_
                            refine st_g _ rfl rfl rfl h65 (r_leN (a := x3_0) (b := x2_0) rfl rfl) ?_
                            refine st _ (r_pick_t rfl h65 rfl) ?_
                            refine st _ (r_assign rfl) ?_
                            refine st_nil ?_
                            refine c_then ?_
                            refine c_ret ?_
                            exact ret1L (v := (.bool ((decide (x3_0 ≤ x2_0))))) trivial rfl ⟨rfl, trivial⟩ ⟨(decide (x3_0 ≤ x2_0)), rfl, M, (decide_eq_true (by omega)).symm⟩
                          · skip
                            first | (have h65n := of_decide_eq_false h65) | (have h65n := of_decide_eq_true (bnf h65)) | (have h65n := bnf h65) | (have h65n := h65)
                            exfalso; omega
                    · skip
                      first | (have h49n := of_decide_eq_false h49) | (have h49n := of_decide_eq_true (bnf h49)) | (have h49n := bnf h49) | (have h49n := h49)
                      exfalso; omega
                · skip
                  first | (have h41n := of_decide_eq_false h41) | (have h41n := of_decide_eq_true (bnf h41)) | (have h41n := bnf h41) | (have h41n := h41)
                  exfalso; omega
            · skip
              first | (have h33n := of_decide_eq_false h33) | (have h33n := of_decide_eq_true (bnf h33)) | (have h33n := bnf h33) | (have h33n := h33)
              exfalso; omega
          · skip
            first | (have h28n := of_decide_eq_false h28) | (have h28n := of_decide_eq_true (bnf h28)) | (have h28n := bnf h28) | (have h28n := h28)
            exfalso; omega
        · skip
          first | (have h24n := of_decide_eq_false h24) | (have h24n := of_decide_eq_true (bnf h24)) | (have h24n := bnf h24) | (have h24n := h24)
          exfalso; omega
      · skip
        first | (have h20n := of_decide_eq_false h20) | (have h20n := of_decide_eq_true (bnf h20)) | (have h20n := bnf h20) | (have h20n := h20)
        exfalso; simp_all
end Go.Proofs.Ytahkddpdhmhfcaa
