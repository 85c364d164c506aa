/- Walks of functions: what each call returns, over data. -/
import Derived.Test.YtimakajeggeebaaRows
import Derived.Test.YtimakajeggeebaaPackP
import Derived.Test.YtimakajeggeebaaVSort
namespace Go.Proofs.Ytimakajeggeebaa
open Go Go.Wk Go.RowKit
set_option linter.unusedVariables false
set_option linter.unusedSimpArgs false
attribute [local irreducible] wpList wpQuiet wpStill wpMix Code.wp Calls bodyPost
theorem fn41 : isFn Try.prog 41 = true := by kernel_rfl
theorem fn42 : isFn Try.prog 42 = true := by kernel_rfl
theorem fn43 : isFn Try.prog 43 = true := by kernel_rfl
theorem fn44 : isFn Try.prog 44 = true := by kernel_rfl
theorem fn45 : isFn Try.prog 45 = true := by kernel_rfl
theorem fn46 : isFn Try.prog 46 = true := by kernel_rfl
theorem fn47 : isFn Try.prog 47 = true := by kernel_rfl
theorem fn48 : isFn Try.prog 48 = true := by kernel_rfl

theorem kFirst4_any {w : World} {Q : Nat → Prop} (uQ : Up w Q) :
    Calls Try.prog 27 #[] w fun en w' => ∃ r0 : Bool, en = .returned (.bool r0) ∧ Md [] w w' ∧ true = r0 := by
  refine (first4_any w).mono fun en w' ⟨he, hm⟩ => ⟨true, by rw [he], hm, rfl⟩
theorem fieldLists_any {w : World} {Q : Nat → Prop} (uQ : Up w Q) {v0 : Value} {l : List Pr} (h0 : Ls tPr w Q v0 l) {v1 : Value} {m : List Pr} (h1 : Ls tPr w Q v1 m) (nm : List UInt8) (p0 : ∀ q ∈ l, q.name.length ≤ 9223372036854775807) (p1 : ∀ q ∈ m, q.name.length ≤ 9223372036854775807) :
    Calls Try.prog 12 #[v0, v1, (str nm)] w fun en w' => ∃ r0 : Bool, en = .returned (.bool r0) ∧ Md [] w w' ∧ true = r0 := by
  have L0 := h0.len63
  have L1 := h1.len63
  have M := Md.refl [] w
  have uQ0 := uQ
  have tQ : ∀ b, Q b → Q b := fun _ h => h
  have sQ0 : ∀ b, Q b → b < w.heap.size → Q b := fun _ h _ => h
  refine enter (n := 73) Try.func12 rfl rfl rfl ?_
  intro B
  refine c_seq ?_
  refine c_region ?_
  refine st _ (r_assign rfl) ?_
  refine st_nil ?_
  refine c_then ?_
  refine c_seq ?_
  refine c_region ?_
  refine st_call fn27 rfl (kFirst4_any uQ ) ?_
  rintro en w1 ⟨x1_0, rfl, hm, hF1⟩; refine ⟨_, rfl, ?_⟩
  replace h0 := h0.md0 hm
  replace h1 := h1.md0 hm
  replace uQ := uQ.md hm
  replace M := M.step0 hm
  refine st _ (r_assign rfl) ?_
  refine st_nil ?_
  refine c_then ?_
  refine c_seq ?_
  refine c_seq ?_
  refine c_region ?_
  refine st _ (r_move rfl) ?_
  refine st _ (r_not rfl) ?_
  refine st_nil ?_
  refine c_then ?_
  refine c_if rfl (fun h14 => ?_) (fun h14 => ?_)
  · skip
    first | (have h14n := of_decide_eq_true h14) | (have h14n := of_decide_eq_false (bnt h14)) | (have h14n := bnt h14) | (have h14n := h14)
    exfalso; simp_all
  · skip
    first | (have h14n := of_decide_eq_false h14) | (have h14n := of_decide_eq_true (bnf h14)) | (have h14n := bnf h14) | (have h14n := h14)
    refine c_skip ?_
    refine c_then ?_
    refine c_seq ?_
    refine c_seq ?_
    refine c_region ?_
    refine st _ (r_move rfl) ?_
    refine st _ (r_len rfl u61 h0.shp) ?_
    refine st _ (r_gtN (a := l.length) (b := 40) rfl rfl) ?_
    refine st _ (r_move rfl) ?_
    refine part_n (t := 18) rfl (fun h18 => ?_) (fun h18 => ?_)
    · skip
      first | (have h18n := of_decide_eq_true h18) | (have h18n := of_decide_eq_false (bnt h18)) | (have h18n := bnt h18) | (have h18n := h18)
      refine st_skip rfl rfl rfl h18 ?_
      refine st_skip rfl rfl rfl h18 ?_
      refine st_skip rfl rfl rfl h18 ?_
      refine st _ (r_pick_t rfl h18 rfl) ?_
      refine st _ (r_move rfl) ?_
      refine st_skip rfl rfl rfl rfl ?_
      refine st_skip rfl rfl rfl rfl ?_
      refine st_skip rfl rfl rfl rfl ?_
      refine st _ (r_pick_t rfl rfl rfl) ?_
      refine st_nil ?_
      refine c_then ?_
      refine c_if_t rfl rfl ?_
      refine c_seq ?_
      refine c_region ?_
      refine st _ (r_move rfl) ?_
      refine st _ (r_assign rfl) ?_
      refine st_nil ?_
      refine c_then ?_
      refine c_ret ?_
      refine r_then ?_
      exact ret1L (v := (.bool x1_0)) trivial rfl ⟨rfl, trivial⟩ ⟨x1_0, rfl, M, (by simp_all)⟩
    · skip
      first | (have h18n := of_decide_eq_false h18) | (have h18n := of_decide_eq_true (bnf h18)) | (have h18n := bnf h18) | (have h18n := h18)
      refine st_g _ rfl rfl rfl h18 (r_move rfl) ?_
      refine st_g _ rfl rfl rfl h18 (r_len rfl u61 h1.shp) ?_
      refine st_g _ rfl rfl rfl h18 (r_gtN (a := m.length) (b := 40) rfl rfl) ?_
      refine st _ (r_pick_f rfl h18 rfl) ?_
      refine st _ (r_move rfl) ?_
      refine part_n (t := 23) rfl (fun h23 => ?_) (fun h23 => ?_)
      · skip
        first | (have h23n := of_decide_eq_true h23) | (have h23n := of_decide_eq_false (bnt h23)) | (have h23n := bnt h23) | (have h23n := h23)
        refine st_skip rfl rfl rfl h23 ?_
        refine st_skip rfl rfl rfl h23 ?_
        refine st_skip rfl rfl rfl h23 ?_
        refine st _ (r_pick_t rfl h23 rfl) ?_
        refine st_nil ?_
        refine c_then ?_
        refine c_if_t rfl rfl ?_
        refine c_seq ?_
        refine c_region ?_
        refine st _ (r_move rfl) ?_
        refine st _ (r_assign rfl) ?_
        refine st_nil ?_
        refine c_then ?_
        refine c_ret ?_
        refine r_then ?_
        exact ret1L (v := (.bool x1_0)) trivial rfl ⟨rfl, trivial⟩ ⟨x1_0, rfl, M, (by simp_all)⟩
      · skip
        first | (have h23n := of_decide_eq_false h23) | (have h23n := of_decide_eq_true (bnf h23)) | (have h23n := bnf h23) | (have h23n := h23)
        refine st_g _ rfl rfl rfl h23 (r_move rfl) ?_
        refine st_g _ rfl rfl rfl h23 (r_lenS (s := nm) rfl u9) ?_
        refine st_g _ rfl rfl rfl h23 (r_gtN (a := nm.length) (b := 100) rfl rfl) ?_
        refine st _ (r_pick_f rfl h23 rfl) ?_
        refine st_nil ?_
        refine c_then ?_
        refine c_if rfl (fun h27 => ?_) (fun h27 => ?_)
        · skip
          first | (have h27n := of_decide_eq_true h27) | (have h27n := of_decide_eq_false (bnt h27)) | (have h27n := bnt h27) | (have h27n := h27)
          refine c_seq ?_
          refine c_region ?_
          refine st _ (r_move rfl) ?_
          refine st _ (r_assign rfl) ?_
          refine st_nil ?_
          refine c_then ?_
          refine c_ret ?_
          refine r_then ?_
          exact ret1L (v := (.bool x1_0)) trivial rfl ⟨rfl, trivial⟩ ⟨x1_0, rfl, M, (by simp_all)⟩
        · skip
          first | (have h27n := of_decide_eq_false h27) | (have h27n := of_decide_eq_true (bnf h27)) | (have h27n := bnf h27) | (have h27n := h27)
          refine c_skip ?_
          refine c_then ?_
          refine c_seq ?_
          refine c_region ?_
          refine st _ (r_move rfl) ?_
          refine st_call fn41 rfl (kList_any uQ h0 (by first | omega | (simp <;> omega) | (simp at * <;> omega))) ?_
          rintro en w2 ⟨v2_0, x2_0, x2_1, rfl, hm, h2_0, q2_1, hF2⟩; refine ⟨_, rfl, ?_⟩
          replace h0 := h0.md0 hm
          replace h1 := h1.md0 hm
          replace uQ := uQ.md hm
          replace M := M.step0 hm
          refine st _ (r_move rfl) ?_
          refine st _ (r_extract rfl rfl) ?_
          refine st _ (r_extract rfl rfl) ?_
          refine st _ (r_assign rfl) ?_
          refine st _ (r_assign rfl) ?_
          refine st_nil ?_
          refine c_then ?_
          refine c_seq ?_
          refine c_region ?_
          refine st _ (r_move rfl) ?_
          refine st_call fn44 rfl (rList_any uQ h0 (by first | omega | (simp <;> omega) | (simp at * <;> omega)) (by first | omega | (simp <;> omega) | (simp at * <;> omega))) ?_
          rintro en w3 ⟨v3_0, x3_0, x3_1, rfl, hm, h3_0, q3_1, hF3⟩; refine ⟨_, rfl, ?_⟩
          replace h0 := h0.md0 hm
          replace h1 := h1.md0 hm
          replace h2_0 := h2_0.md0 hm
          replace uQ := uQ.md hm
          replace M := M.step0 hm
          refine st _ (r_move rfl) ?_
          refine st _ (r_extract rfl rfl) ?_
          refine st _ (r_extract rfl rfl) ?_
          refine st _ (r_assign rfl) ?_
          refine st _ (r_assign rfl) ?_
          refine st_nil ?_
          refine c_then ?_
          refine c_seq ?_
          refine c_region ?_
          have ee := plist_eq l
          rw [hF2, hF3] at ee
          have e1 : x2_0 = x3_0 := congrArg Prod.fst ee
          have e2 : x2_1 = x3_1 := congrArg Prod.snd ee
          refine st _ (r_move rfl) ?_
          refine st _ (r_move rfl) ?_
          refine part_n (t := 40) rfl (fun h40 => ?_) (fun h40 => ?_)
          · skip
            first | (have h40n := of_decide_eq_true h40) | (have h40n := of_decide_eq_false (bnt h40)) | (have h40n := bnt h40) | (have h40n := h40)
            refine st_g _ rfl rfl rfl h40 (r_move rfl) ?_
            refine st_g _ rfl rfl rfl h40 (r_move rfl) ?_
            refine st_call_g rfl rfl rfl h40 fn43 rfl (kSame_any uQ h2_0 h3_0) ?_
            rintro en w4 ⟨x4_0, rfl, hm, hF4⟩; refine ⟨_, rfl, ?_⟩
            replace h0 := h0.md0 hm
            replace h1 := h1.md0 hm
            replace h2_0 := h2_0.md0 hm
            replace h3_0 := h3_0.md0 hm
            replace uQ := uQ.md hm
            replace M := M.step0 hm
            refine st _ (r_pick_t rfl h40 rfl) ?_
            refine st _ (r_move rfl) ?_
            refine part_n (t := 45) rfl (fun h45 => ?_) (fun h45 => ?_)
            · skip
              first | (have h45n := of_decide_eq_true h45) | (have h45n := of_decide_eq_false (bnt h45)) | (have h45n := bnt h45) | (have h45n := h45)
              refine st_g _ rfl rfl rfl h45 (r_move rfl) ?_
              refine st_g _ rfl rfl rfl h45 (r_move rfl) ?_
              refine st_g _ rfl rfl rfl h45 (r_eqN (a := x2_1) (b := x3_1) rfl rfl) ?_
              refine st _ (r_pick_t rfl h45 rfl) ?_
              refine st _ (r_move rfl) ?_
              refine part_n (t := 50) rfl (fun h50 => ?_) (fun h50 => ?_)
              · skip
                first | (have h50n := of_decide_eq_true h50) | (have h50n := of_decide_eq_false (bnt h50)) | (have h50n := bnt h50) | (have h50n := h50)
                refine st_g _ rfl rfl rfl h50 (r_move rfl) ?_
                refine st_g _ rfl rfl rfl h50 (r_move rfl) ?_
                refine st_call_g rfl rfl rfl h50 fn46 rfl (kVals_any uQ h0 nm (by first | omega | (simp <;> omega) | (simp at * <;> omega))) ?_
                rintro en w5 ⟨v5_0, x5_0, rfl, hm, h5_0, hF5⟩; refine ⟨_, rfl, ?_⟩
                replace h0 := h0.md0 hm
                replace h1 := h1.md0 hm
                replace h2_0 := h2_0.md0 hm
                replace h3_0 := h3_0.md0 hm
                replace uQ := uQ.md hm
                replace M := M.step0 hm
                refine st_g _ rfl rfl rfl h50 (r_move rfl) ?_
                refine st_g _ rfl rfl rfl h50 (r_move rfl) ?_
                refine st_call_g rfl rfl rfl h50 fn47 rfl (kValsR_any uQ h0 nm (by first | omega | (simp <;> omega) | (simp at * <;> omega))) ?_
                rintro en w6 ⟨v6_0, x6_0, rfl, hm, h6_0, hF6⟩; refine ⟨_, rfl, ?_⟩
                replace h0 := h0.md0 hm
                replace h1 := h1.md0 hm
                replace h2_0 := h2_0.md0 hm
                replace h3_0 := h3_0.md0 hm
                replace h5_0 := h5_0.md0 hm
                replace uQ := uQ.md hm
                replace M := M.step0 hm
                refine st_call_g rfl rfl rfl h50 fn45 rfl (kSameT_any uQ h5_0 h6_0) ?_
                rintro en w7 ⟨x7_0, rfl, hm, hF7⟩; refine ⟨_, rfl, ?_⟩
                replace h0 := h0.md0 hm
                replace h1 := h1.md0 hm
                replace h2_0 := h2_0.md0 hm
                replace h3_0 := h3_0.md0 hm
                replace h5_0 := h5_0.md0 hm
                replace h6_0 := h6_0.md0 hm
                replace uQ := uQ.md hm
                replace M := M.step0 hm
                refine st _ (r_pick_t rfl h50 rfl) ?_
                refine st _ (r_move rfl) ?_
                refine part_n (t := 59) rfl (fun h59 => ?_) (fun h59 => ?_)
                · skip
                  first | (have h59n := of_decide_eq_true h59) | (have h59n := of_decide_eq_false (bnt h59)) | (have h59n := bnt h59) | (have h59n := h59)
                  refine st_g _ rfl rfl rfl h59 (r_move rfl) ?_
                  refine st_g _ rfl rfl rfl h59 (r_move rfl) ?_
                  refine st_call_g rfl rfl rfl h59 fn42 rfl (kSameF_any uQ h0 h1) ?_
                  rintro en w8 ⟨x8_0, rfl, hm, hF8⟩; refine ⟨_, rfl, ?_⟩
                  replace h0 := h0.md0 hm
                  replace h1 := h1.md0 hm
                  replace h2_0 := h2_0.md0 hm
                  replace h3_0 := h3_0.md0 hm
                  replace h5_0 := h5_0.md0 hm
                  replace h6_0 := h6_0.md0 hm
                  replace uQ := uQ.md hm
                  replace M := M.step0 hm
                  refine st_g _ rfl rfl rfl h59 (r_move rfl) ?_
                  refine st_g _ rfl rfl rfl h59 (r_move rfl) ?_
                  refine st_call_g rfl rfl rfl h59 fn48 rfl (kWithinR_any uQ h0 h1) ?_
                  rintro en w9 ⟨x9_0, rfl, hm, hF9⟩; refine ⟨_, rfl, ?_⟩
                  replace h0 := h0.md0 hm
                  replace h1 := h1.md0 hm
                  replace h2_0 := h2_0.md0 hm
                  replace h3_0 := h3_0.md0 hm
                  replace h5_0 := h5_0.md0 hm
                  replace h6_0 := h6_0.md0 hm
                  replace uQ := uQ.md hm
                  replace M := M.step0 hm
                  refine st_g _ rfl rfl rfl h59 (r_move rfl) ?_
                  refine part_n (t := 66) rfl (fun h66 => ?_) (fun h66 => ?_)
                  · skip
                    first | (have h66n := of_decide_eq_true h66) | (have h66n := of_decide_eq_false (bnt h66)) | (have h66n := bnt h66) | (have h66n := h66)
                    refine st_g _ rfl rfl rfl h66 (r_move rfl) ?_
                    refine st_g _ rfl rfl rfl h66 (r_move rfl) ?_
                    refine st_call_g rfl rfl rfl h66 fn48 rfl (kWithinR_any uQ h1 h0) ?_
                    rintro en w10 ⟨x10_0, rfl, hm, hF10⟩; refine ⟨_, rfl, ?_⟩
                    replace h0 := h0.md0 hm
                    replace h1 := h1.md0 hm
                    replace h2_0 := h2_0.md0 hm
                    replace h3_0 := h3_0.md0 hm
                    replace h5_0 := h5_0.md0 hm
                    replace h6_0 := h6_0.md0 hm
                    replace uQ := uQ.md hm
                    replace M := M.step0 hm
                    refine st_g _ rfl rfl rfl h59 (r_pick_t rfl h66 rfl) ?_
                    refine st_g _ rfl rfl rfl h59 (r_eqBool u4 rfl rfl) ?_
                    refine st _ (r_pick_t rfl h59 rfl) ?_
                    refine st _ (r_assign rfl) ?_
                    refine st_nil ?_
                    refine c_then ?_
                    refine c_ret ?_
                    exact ret1L (v := (.bool ((x8_0 == x10_0)))) trivial rfl ⟨rfl, trivial⟩ ⟨(x8_0 == x10_0), rfl, M, (by simp_all)⟩
                  · skip
                    first | (have h66n := of_decide_eq_false h66) | (have h66n := of_decide_eq_true (bnf h66)) | (have h66n := bnf h66) | (have h66n := h66)
                    refine st_skip rfl rfl rfl h66 ?_
                    refine st_skip rfl rfl rfl h66 ?_
                    refine st_skip rfl rfl rfl h66 ?_
                    refine st_g _ rfl rfl rfl h59 (r_pick_f rfl h66 rfl) ?_
                    refine st_g _ rfl rfl rfl h59 (r_eqBool u4 rfl rfl) ?_
                    refine st _ (r_pick_t rfl h59 rfl) ?_
                    refine st _ (r_assign rfl) ?_
                    refine st_nil ?_
                    refine c_then ?_
                    refine c_ret ?_
                    exact ret1L (v := (.bool ((x8_0 == false)))) trivial rfl ⟨rfl, trivial⟩ ⟨(x8_0 == false), rfl, M, (by simp_all)⟩
                · skip
                  first | (have h59n := of_decide_eq_false h59) | (have h59n := of_decide_eq_true (bnf h59)) | (have h59n := bnf h59) | (have h59n := h59)
                  exfalso; simp_all [sameTexts_self]
              · skip
                first | (have h50n := of_decide_eq_false h50) | (have h50n := of_decide_eq_true (bnf h50)) | (have h50n := bnf h50) | (have h50n := h50)
                exfalso; simp_all
            · skip
              first | (have h45n := of_decide_eq_false h45) | (have h45n := of_decide_eq_true (bnf h45)) | (have h45n := bnf h45) | (have h45n := h45)
              exfalso; simp_all [samePairs_self]
          · skip
            first | (have h40n := of_decide_eq_false h40) | (have h40n := of_decide_eq_true (bnf h40)) | (have h40n := bnf h40) | (have h40n := h40)
            exfalso; simp_all
end Go.Proofs.Ytimakajeggeebaa
