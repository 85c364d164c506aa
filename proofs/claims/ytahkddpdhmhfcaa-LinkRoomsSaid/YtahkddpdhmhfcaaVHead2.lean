/- Walks of functions: what each call returns, over data. -/
import Derived.Test.YtahkddpdhmhfcaaRows
import Derived.Test.YtahkddpdhmhfcaaHeadQ
import Derived.Test.YtahkddpdhmhfcaaVHead
namespace Go.Proofs.Ytahkddpdhmhfcaa
open Go Go.Wk Go.RowKit
set_option linter.unusedVariables false
set_option linter.unusedSimpArgs false
attribute [local irreducible] wpList wpQuiet wpStill wpMix Code.wp Calls bodyPost
theorem fn31 : isFn Try.prog 31 = true := by kernel_rfl
theorem u9 : Try.prog.underlying 9 = some (.string) := by kernel_rfl


theorem hEqual_any {w : World} {Q : Nat → Prop} (uQ : Up w Q) {v0 : Value} {a : List UInt8} (h0 : Ls tB8 w Q v0 a) {v1 : Value} {b : List UInt8} (h1 : Ls tB8 w Q v1 b) :
    Calls Try.prog 31 #[v0, v1] w fun en w' => ∃ r0 : Bool, en = .returned (.bool r0) ∧ Md [] w w' ∧ decide (a = b) = r0 := by
  have L0 := h0.len63
  have L1 := h1.len63
  have M := Md.refl [] w
  have uQ0 := uQ
  have tQ : ∀ b, Q b → Q b := fun _ h => h
  have sQ0 : ∀ b, Q b → b < w.heap.size → Q b := fun _ h _ => h
  refine enter (n := 10) Try.func31 rfl rfl rfl ?_
  intro B
  refine c_seq ?_
  refine c_region ?_
  refine st _ (r_assign rfl) ?_
  refine st_nil ?_
  refine c_then ?_
  refine c_seq ?_
  refine c_region ?_
  refine st _ (r_move rfl) ?_
  refine st _ (r_convBS (s := a) u28 u5 u9 rfl h0.by) ?_
  refine st _ (r_move rfl) ?_
  refine st _ (r_convBS (s := b) u28 u5 u9 rfl h1.by) ?_
  refine st _ (r_eqlS (a := a) (b := b) rfl rfl) ?_
  refine st _ (r_assign rfl) ?_
  refine st_nil ?_
  refine c_then ?_
  refine c_ret ?_
  exact ret1L (v := (.bool ((decide (a = b))))) trivial rfl ⟨rfl, trivial⟩ ⟨(decide (a = b)), rfl, M, (by simp (disch := first | omega | assumption | (simp; done) | fail) only [if_pos, if_neg, Option.getD_some, Option.some.injEq, reduceIte, Bool.false_eq_true, Bool.true_eq_false, decide_true, decide_false, not_true_eq_false, not_false_eq_true])⟩
theorem hPref_any {w : World} {Q : Nat → Prop} (uQ : Up w Q) {v0 : Value} {b : List UInt8} (h0 : Ls tB8 w Q v0 b) {v1 : Value} {p : List UInt8} (h1 : Ls tB8 w Q v1 p) :
    Calls Try.prog 18 #[v0, v1] w fun en w' => ∃ r0 : Bool, en = .returned (.bool r0) ∧ Md [] w w' ∧ prefF b p = r0 := by
  have L0 := h0.len63
  have L1 := h1.len63
  have M := Md.refl [] w
  have uQ0 := uQ
  have tQ : ∀ b, Q b → Q b := fun _ h => h
  have sQ0 : ∀ b, Q b → b < w.heap.size → Q b := fun _ h _ => h
  refine enter (n := 18) Try.func18 rfl rfl rfl ?_
  intro B
  refine c_seq ?_
  refine c_region ?_
  refine st _ (r_assign rfl) ?_
  refine st_nil ?_
  refine c_then ?_
  refine c_seq ?_
  refine c_region ?_
  refine st _ (r_move rfl) ?_
  refine st _ (r_len rfl u28 h0.shp) ?_
  refine st _ (r_move rfl) ?_
  refine st _ (r_len rfl u28 h1.shp) ?_
  refine st _ (r_geN (a := b.length) (b := p.length) rfl rfl) ?_
  refine st _ (r_move rfl) ?_
  refine part_n (t := 10) rfl (fun h10 => ?_) (fun h10 => ?_)
  · skip
    first | (have h10n := of_decide_eq_true h10) | (have h10n := of_decide_eq_false (bnt h10)) | (have h10n := bnt h10) | (have h10n := h10)
    refine st_g _ rfl rfl rfl h10 (r_move rfl) ?_
    refine st_g _ rfl rfl rfl h10 (r_move rfl) ?_
    refine st_g _ rfl rfl rfl h10 (r_len rfl u28 h1.shp) ?_
    refine st_g _ rfl rfl rfl h10 (r_sliceZ 1 0 p.length u28 el5 rfl h0.shp (by omega) (by omega) rfl ⟨_, rfl⟩) ?_
    have hs1 := h0.head (hi := p.length) (by omega)
    refine st_g _ rfl rfl rfl h10 (r_move rfl) ?_
    refine st_call_g rfl rfl rfl h10 fn31 rfl (hEqual_any uQ hs1 h1) ?_
    rintro en w2 ⟨x2_0, rfl, hm, hF2⟩; refine ⟨_, rfl, ?_⟩
    replace h0 := h0.md0 hm
    replace h1 := h1.md0 hm
    replace hs1 := hs1.md0 hm
    replace uQ := uQ.md hm
    replace M := M.step0 hm
    refine st _ (r_pick_t rfl h10 rfl) ?_
    refine st _ (r_assign rfl) ?_
    refine st_nil ?_
    refine c_then ?_
    refine c_ret ?_
    exact ret1L (v := (.bool x2_0)) trivial rfl ⟨rfl, trivial⟩ ⟨x2_0, rfl, M, (by rw [prefF] <;> simp (disch := first | omega | assumption | (simp; done) | fail) only [if_pos, if_neg, Option.getD_some, Option.some.injEq, reduceIte, Bool.false_eq_true, Bool.true_eq_false, decide_true, decide_false, not_true_eq_false, not_false_eq_true, h10n, hF2])⟩
  · skip
    first | (have h10n := of_decide_eq_false h10) | (have h10n := of_decide_eq_true (bnf h10)) | (have h10n := bnf h10) | (have h10n := h10)
    refine st_skip rfl rfl rfl h10 ?_
    refine st_skip rfl rfl rfl h10 ?_
    refine st_skip rfl rfl rfl h10 ?_
    refine st_skip rfl rfl rfl h10 ?_
    refine st_skip rfl rfl rfl h10 ?_
    refine st_skip rfl rfl rfl h10 ?_
    refine st _ (r_pick_f rfl h10 rfl) ?_
    refine st _ (r_assign rfl) ?_
    refine st_nil ?_
    refine c_then ?_
    refine c_ret ?_
    exact ret1L (v := (.bool false)) trivial rfl ⟨rfl, trivial⟩ ⟨false, rfl, M, (by rw [prefF] <;> simp (disch := first | omega | assumption | (simp; done) | fail) only [if_pos, if_neg, Option.getD_some, Option.some.injEq, reduceIte, Bool.false_eq_true, Bool.true_eq_false, decide_true, decide_false, not_true_eq_false, not_false_eq_true, h10n])⟩
theorem hEnd_any {w : World} {Q : Nat → Prop} (uQ : Up w Q) (h : PHead) (a0_0 : PHead.ok h) :
    Calls Try.prog 10 #[.agg (PHead.cells h).toArray] w fun en w' => ∃ r0 : Nat, ∃ r1 : Bool, en = .returned (.tuple #[(.int .u64 ((r0 : Nat) : Int)), (.bool r1)]) ∧ Md [] w w' ∧ r0 < 18446744073709551616 ∧ endF h = (r0, r1) := by
  have M := Md.refl [] w
  have uQ0 := uQ
  have tQ : ∀ b, Q b → Q b := fun _ h => h
  have sQ0 : ∀ b, Q b → b < w.heap.size → Q b := fun _ h _ => h
  refine enter (n := 15) Try.func10 rfl rfl rfl ?_
  intro B
  refine c_seq ?_
  refine c_region ?_
  refine st_box (cs := (PHead.cells h)) rfl rfl ?_
  intro ba1 w1 ga1 la1 hm ha1
  have n_ha1 := uQ _ ga1
  replace ga1 := Nat.le_trans M.size ga1
  replace uQ := uQ.md hm
  replace M := M.step0 hm
  have p_ha1 : Fsh [] w ba1 := .inr ga1
  refine st _ (r_assign rfl) ?_
  refine st _ (r_assign rfl) ?_
  refine st_nil ?_
  refine c_then ?_
  refine c_seq ?_
  refine c_region ?_
  refine st _ (r_field rfl off38_7) ?_
  refine st _ ((r_loadBlk rfl one36 ha1 rfl).to (b := (.int .u64 ((h.n.getD 0 0 : Nat) : Int))) rfl) ?_
  have q2 : h.n.getD 0 0 < 18446744073709551616 := (nums_bd a0_0.2.2.2.2.2.2.2.1 0)
  refine st _ (r_field rfl off38_8) ?_
  refine st _ ((r_loadBlk rfl one36 ha1 rfl).to (b := (.int .u64 ((h.n.getD 1 0 : Nat) : Int))) rfl) ?_
  have q3 : h.n.getD 1 0 < 18446744073709551616 := (nums_bd a0_0.2.2.2.2.2.2.2.1 1)
  refine st _ (r_addW (a := (h.n.getD 0 0)) (b := (h.n.getD 1 0)) 18446744073709551616 rfl rfl rfl rfl) ?_
  refine st _ (r_assign rfl) ?_
  refine st_nil ?_
  refine c_then ?_
  refine c_seq ?_
  refine c_seq ?_
  refine c_region ?_
  refine st _ (r_move rfl) ?_
  refine st _ (r_field rfl off38_7) ?_
  refine st _ ((r_loadBlk rfl one36 ha1 rfl).to (b := (.int .u64 ((h.n.getD 0 0 : Nat) : Int))) rfl) ?_
  refine st _ (r_ltN (a := (((h.n.getD 0 0) + (h.n.getD 1 0)) % 18446744073709551616)) (b := (h.n.getD 0 0)) rfl rfl) ?_
  refine st_nil ?_
  refine c_then ?_
  refine c_if rfl (fun h13 => ?_) (fun h13 => ?_)
  · skip
    first | (have h13n := of_decide_eq_true h13) | (have h13n := of_decide_eq_false (bnt h13)) | (have h13n := bnt h13) | (have h13n := h13)
    refine c_seq ?_
    refine c_region ?_
    refine st _ (r_assign rfl) ?_
    refine st _ (r_assign rfl) ?_
    refine st_nil ?_
    refine c_then ?_
    refine c_ret ?_
    refine r_then ?_
    exact retL (vs := [(.int .u64 ((0 : Nat) : Int)), (.bool false)]) trivial rfl ⟨rfl, rfl, trivial⟩ rfl ⟨0, false, rfl, M, (by first | assumption | omega | simp_all), (by rw [endF] <;> simp (disch := first | omega | assumption | (simp; done) | fail) only [if_pos, if_neg, Option.getD_some, Option.some.injEq, reduceIte, Bool.false_eq_true, Bool.true_eq_false, decide_true, decide_false, not_true_eq_false, not_false_eq_true, h13n])⟩
  · skip
    first | (have h13n := of_decide_eq_false h13) | (have h13n := of_decide_eq_true (bnf h13)) | (have h13n := bnf h13) | (have h13n := h13)
    refine c_skip ?_
    refine c_then ?_
    refine c_seq ?_
    refine c_region ?_
    refine st _ (r_move rfl) ?_
    refine st _ (r_assign rfl) ?_
    refine st _ (r_assign rfl) ?_
    refine st_nil ?_
    refine c_then ?_
    refine c_ret ?_
    exact retL (vs := [(.int .u64 ((((h.n.getD 0 0) + (h.n.getD 1 0)) % 18446744073709551616 : Nat) : Int)), (.bool true)]) trivial rfl ⟨rfl, rfl, trivial⟩ rfl ⟨((h.n.getD 0 0) + (h.n.getD 1 0)) % 18446744073709551616, true, rfl, M, (by first | assumption | omega | simp_all), (by rw [endF] <;> simp (disch := first | omega | assumption | (simp; done) | fail) only [if_pos, if_neg, Option.getD_some, Option.some.injEq, reduceIte, Bool.false_eq_true, Bool.true_eq_false, decide_true, decide_false, not_true_eq_false, not_false_eq_true, h13n])⟩
theorem hTable_any {w : World} {Q : Nat → Prop} (uQ : Up w Q) (h : PHead) (a0_0 : PHead.ok h) (p : Nat) (a1 : p < 18446744073709551616) (size : Nat) (a2 : size < 18446744073709551616) (e : Nat) (a3 : e < 18446744073709551616) :
    Calls Try.prog 20 #[.agg (PHead.cells h).toArray, (.int .u64 ((p : Nat) : Int)), (.int .u64 ((size : Nat) : Int)), (.int .u64 ((e : Nat) : Int))] w fun en w' => ∃ r0 : Nat, en = .returned (.int .i64 ((r0 : Nat) : Int)) ∧ Md [] w w' ∧ r0 < 9223372036854775808 ∧ tableF h p size e = r0 := by
  have M := Md.refl [] w
  have uQ0 := uQ
  have tQ : ∀ b, Q b → Q b := fun _ h => h
  have sQ0 : ∀ b, Q b → b < w.heap.size → Q b := fun _ h _ => h
  refine enter (n := 45) Try.func20 rfl rfl rfl ?_
  intro B
  refine c_seq ?_
  refine c_region ?_
  refine st_box (cs := (PHead.cells h)) rfl rfl ?_
  intro ba4 w1 ga4 la4 hm ha4
  have n_ha4 := uQ _ ga4
  replace ga4 := Nat.le_trans M.size ga4
  replace uQ := uQ.md hm
  replace M := M.step0 hm
  have p_ha4 : Fsh [] w ba4 := .inr ga4
  refine st _ (r_assign rfl) ?_
  refine st_nil ?_
  refine c_then ?_
  refine c_seq ?_
  refine c_block ?_
  refine c_seq ?_
  refine c_region ?_
  refine st _ (r_move rfl) ?_
  refine st _ (r_remN (a := p) (b := 8) rfl rfl (by omega)) ?_
  refine st _ (r_neN (a := (p % 8)) (b := 0) rfl rfl) ?_
  refine st _ (r_assign rfl) ?_
  refine st_nil ?_
  refine c_then ?_
  refine c_if rfl (fun h9 => ?_) (fun h9 => ?_)
  · skip
    first | (have h9n := of_decide_eq_true h9) | (have h9n := of_decide_eq_false (bnt h9)) | (have h9n := bnt h9) | (have h9n := h9)
    refine c_seq ?_
    refine c_region ?_
    refine st _ (r_assign rfl) ?_
    refine st_nil ?_
    refine c_then ?_
    refine c_ret ?_
    refine r_block ?_
    refine r_then ?_
    exact ret1L (v := (.int .i64 ((3 : Nat) : Int))) trivial rfl ⟨rfl, trivial⟩ ⟨3, rfl, M, (by first | assumption | omega | simp_all), (by rw [tableF] <;> simp (disch := first | omega | assumption | (simp; done) | fail) only [if_pos, if_neg, Option.getD_some, Option.some.injEq, reduceIte, Bool.false_eq_true, Bool.true_eq_false, decide_true, decide_false, not_true_eq_false, not_false_eq_true, h9n])⟩
  · skip
    first | (have h9n := of_decide_eq_false h9) | (have h9n := of_decide_eq_true (bnf h9)) | (have h9n := bnf h9) | (have h9n := h9)
    refine c_seq ?_
    refine c_region ?_
    refine st _ (r_move rfl) ?_
    refine st _ (r_eqN (a := size) (b := 0) rfl rfl) ?_
    refine st _ (r_move rfl) ?_
    refine part_n (t := 16) rfl (fun h16 => ?_) (fun h16 => ?_)
    · skip
      first | (have h16n := of_decide_eq_true h16) | (have h16n := of_decide_eq_false (bnt h16)) | (have h16n := bnt h16) | (have h16n := h16)
      refine st_skip rfl rfl rfl h16 ?_
      refine st_skip rfl rfl rfl h16 ?_
      refine st_skip rfl rfl rfl h16 ?_
      refine st _ (r_pick_t rfl h16 rfl) ?_
      refine st _ (r_assign rfl) ?_
      refine st_nil ?_
      refine c_then ?_
      refine c_if_t rfl rfl ?_
      refine c_seq ?_
      refine c_region ?_
      refine st _ (r_assign rfl) ?_
      refine st_nil ?_
      refine c_then ?_
      refine c_ret ?_
      refine r_block ?_
      refine r_then ?_
      exact ret1L (v := (.int .i64 ((5 : Nat) : Int))) trivial rfl ⟨rfl, trivial⟩ ⟨5, rfl, M, (by first | assumption | omega | simp_all), (by rw [tableF] <;> simp (disch := first | omega | assumption | (simp; done) | fail) only [if_pos, if_neg, Option.getD_some, Option.some.injEq, reduceIte, Bool.false_eq_true, Bool.true_eq_false, decide_true, decide_false, not_true_eq_false, not_false_eq_true, h9n, h16n])⟩
    · skip
      first | (have h16n := of_decide_eq_false h16) | (have h16n := of_decide_eq_true (bnf h16)) | (have h16n := bnf h16) | (have h16n := h16)
      refine st_g _ rfl rfl rfl h16 (r_move rfl) ?_
      refine st_g _ rfl rfl rfl h16 (r_remN (a := size) (b := 16) rfl rfl (by omega)) ?_
      refine st_g _ rfl rfl rfl h16 (r_neN (a := (size % 16)) (b := 0) rfl rfl) ?_
      refine st _ (r_pick_f rfl h16 rfl) ?_
      refine st _ (r_assign rfl) ?_
      refine st_nil ?_
      refine c_then ?_
      refine c_if rfl (fun h13 => ?_) (fun h13 => ?_)
      · skip
        first | (have h13n := of_decide_eq_true h13) | (have h13n := of_decide_eq_false (bnt h13)) | (have h13n := bnt h13) | (have h13n := h13)
        refine c_seq ?_
        refine c_region ?_
        refine st _ (r_assign rfl) ?_
        refine st_nil ?_
        refine c_then ?_
        refine c_ret ?_
        refine r_block ?_
        refine r_then ?_
        exact ret1L (v := (.int .i64 ((5 : Nat) : Int))) trivial rfl ⟨rfl, trivial⟩ ⟨5, rfl, M, (by first | assumption | omega | simp_all), (by rw [tableF] <;> simp (disch := first | omega | assumption | (simp; done) | fail) only [if_pos, if_neg, Option.getD_some, Option.some.injEq, reduceIte, Bool.false_eq_true, Bool.true_eq_false, decide_true, decide_false, not_true_eq_false, not_false_eq_true, h9n, h16n, h13n])⟩
      · skip
        first | (have h13n := of_decide_eq_false h13) | (have h13n := of_decide_eq_true (bnf h13)) | (have h13n := bnf h13) | (have h13n := h13)
        refine c_seq ?_
        refine c_region ?_
        refine st _ (r_move rfl) ?_
        refine st _ (r_field rfl off38_7) ?_
        refine st _ ((r_loadBlk rfl one36 ha4 rfl).to (b := (.int .u64 ((h.n.getD 0 0 : Nat) : Int))) rfl) ?_
        have q2 : h.n.getD 0 0 < 18446744073709551616 := (nums_bd a0_0.2.2.2.2.2.2.2.1 0)
        refine st _ (r_ltN (a := p) (b := (h.n.getD 0 0)) rfl rfl) ?_
        refine st _ (r_move rfl) ?_
        refine part_n (t := 26) rfl (fun h26 => ?_) (fun h26 => ?_)
        · skip
          first | (have h26n := of_decide_eq_true h26) | (have h26n := of_decide_eq_false (bnt h26)) | (have h26n := bnt h26) | (have h26n := h26)
          refine st_skip rfl rfl rfl h26 ?_
          refine st_skip rfl rfl rfl h26 ?_
          refine st_skip rfl rfl rfl h26 ?_
          refine st_skip rfl rfl rfl h26 ?_
          refine st_skip rfl rfl rfl h26 ?_
          refine st _ (r_pick_t rfl h26 rfl) ?_
          refine st _ (r_move rfl) ?_
          refine st_skip rfl rfl rfl rfl ?_
          refine st_skip rfl rfl rfl rfl ?_
          refine st_skip rfl rfl rfl rfl ?_
          refine st _ (r_pick_t rfl rfl rfl) ?_
          refine st _ (r_move rfl) ?_
          refine st_skip rfl rfl rfl rfl ?_
          refine st_skip rfl rfl rfl rfl ?_
          refine st_skip rfl rfl rfl rfl ?_
          refine st_skip rfl rfl rfl rfl ?_
          refine st_skip rfl rfl rfl rfl ?_
          refine st _ (r_pick_t rfl rfl rfl) ?_
          refine st _ (r_assign rfl) ?_
          refine st_nil ?_
          refine c_then ?_
          refine c_if_t rfl rfl ?_
          refine c_seq ?_
          refine c_region ?_
          refine st _ (r_assign rfl) ?_
          refine st_nil ?_
          refine c_then ?_
          refine c_ret ?_
          refine r_block ?_
          refine r_then ?_
          exact ret1L (v := (.int .i64 ((2 : Nat) : Int))) trivial rfl ⟨rfl, trivial⟩ ⟨2, rfl, M, (by first | assumption | omega | simp_all), (by rw [tableF] <;> simp (disch := first | omega | assumption | (simp; done) | fail) only [if_pos, if_neg, Option.getD_some, Option.some.injEq, reduceIte, Bool.false_eq_true, Bool.true_eq_false, decide_true, decide_false, not_true_eq_false, not_false_eq_true, h9n, h16n, h13n, h26n])⟩
        · skip
          first | (have h26n := of_decide_eq_false h26) | (have h26n := of_decide_eq_true (bnf h26)) | (have h26n := bnf h26) | (have h26n := h26)
          refine st_g _ rfl rfl rfl h26 (r_move rfl) ?_
          refine st_g _ rfl rfl rfl h26 (r_field rfl off38_7) ?_
          refine st_g _ rfl rfl rfl h26 ((r_loadBlk rfl one36 ha4 rfl).to (b := (.int .u64 ((h.n.getD 0 0 : Nat) : Int))) rfl) ?_
          refine st_g _ rfl rfl rfl h26 (r_subN (a := p) (b := (h.n.getD 0 0)) 18446744073709551616 rfl rfl rfl (by omega)) ?_
          refine st_g _ rfl rfl rfl h26 (r_ltN (a := (p - (h.n.getD 0 0))) (b := 16) rfl rfl) ?_
          refine st _ (r_pick_f rfl h26 rfl) ?_
          refine st _ (r_move rfl) ?_
          refine part_n (t := 33) rfl (fun h33 => ?_) (fun h33 => ?_)
          · skip
            first | (have h33n := of_decide_eq_true h33) | (have h33n := of_decide_eq_false (bnt h33)) | (have h33n := bnt h33) | (have h33n := h33)
            refine st_skip rfl rfl rfl h33 ?_
            refine st_skip rfl rfl rfl h33 ?_
            refine st_skip rfl rfl rfl h33 ?_
            refine st _ (r_pick_t rfl h33 rfl) ?_
            refine st _ (r_move rfl) ?_
            refine st_skip rfl rfl rfl rfl ?_
            refine st_skip rfl rfl rfl rfl ?_
            refine st_skip rfl rfl rfl rfl ?_
            refine st_skip rfl rfl rfl rfl ?_
            refine st_skip rfl rfl rfl rfl ?_
            refine st _ (r_pick_t rfl rfl rfl) ?_
            refine st _ (r_assign rfl) ?_
            refine st_nil ?_
            refine c_then ?_
            refine c_if_t rfl rfl ?_
            refine c_seq ?_
            refine c_region ?_
            refine st _ (r_assign rfl) ?_
            refine st_nil ?_
            refine c_then ?_
            refine c_ret ?_
            refine r_block ?_
            refine r_then ?_
            exact ret1L (v := (.int .i64 ((2 : Nat) : Int))) trivial rfl ⟨rfl, trivial⟩ ⟨2, rfl, M, (by first | assumption | omega | simp_all), (by rw [tableF] <;> simp (disch := first | omega | assumption | (simp; done) | fail) only [if_pos, if_neg, Option.getD_some, Option.some.injEq, reduceIte, Bool.false_eq_true, Bool.true_eq_false, decide_true, decide_false, not_true_eq_false, not_false_eq_true, h9n, h16n, h13n, h26n, h33n])⟩
          · skip
            first | (have h33n := of_decide_eq_false h33) | (have h33n := of_decide_eq_true (bnf h33)) | (have h33n := bnf h33) | (have h33n := h33)
            refine st_g _ rfl rfl rfl h33 (r_move rfl) ?_
            refine st_g _ rfl rfl rfl h33 (r_move rfl) ?_
            refine st_g _ rfl rfl rfl h33 (r_gtN (a := p) (b := e) rfl rfl) ?_
            refine st _ (r_pick_f rfl h33 rfl) ?_
            refine st _ (r_move rfl) ?_
            refine part_n (t := 38) rfl (fun h38 => ?_) (fun h38 => ?_)
            · skip
              first | (have h38n := of_decide_eq_true h38) | (have h38n := of_decide_eq_false (bnt h38)) | (have h38n := bnt h38) | (have h38n := h38)
              refine st_skip rfl rfl rfl h38 ?_
              refine st_skip rfl rfl rfl h38 ?_
              refine st_skip rfl rfl rfl h38 ?_
              refine st_skip rfl rfl rfl h38 ?_
              refine st_skip rfl rfl rfl h38 ?_
              refine st _ (r_pick_t rfl h38 rfl) ?_
              refine st _ (r_assign rfl) ?_
              refine st_nil ?_
              refine c_then ?_
              refine c_if_t rfl rfl ?_
              refine c_seq ?_
              refine c_region ?_
              refine st _ (r_assign rfl) ?_
              refine st_nil ?_
              refine c_then ?_
              refine c_ret ?_
              refine r_block ?_
              refine r_then ?_
              exact ret1L (v := (.int .i64 ((2 : Nat) : Int))) trivial rfl ⟨rfl, trivial⟩ ⟨2, rfl, M, (by first | assumption | omega | simp_all), (by rw [tableF] <;> simp (disch := first | omega | assumption | (simp; done) | fail) only [if_pos, if_neg, Option.getD_some, Option.some.injEq, reduceIte, Bool.false_eq_true, Bool.true_eq_false, decide_true, decide_false, not_true_eq_false, not_false_eq_true, h9n, h16n, h13n, h26n, h33n, h38n])⟩
            · skip
              first | (have h38n := of_decide_eq_false h38) | (have h38n := of_decide_eq_true (bnf h38)) | (have h38n := bnf h38) | (have h38n := h38)
              refine st_g _ rfl rfl rfl h38 (r_move rfl) ?_
              refine st_g _ rfl rfl rfl h38 (r_move rfl) ?_
              refine st_g _ rfl rfl rfl h38 (r_move rfl) ?_
              refine st_g _ rfl rfl rfl h38 (r_subN (a := e) (b := p) 18446744073709551616 rfl rfl rfl (by omega)) ?_
              refine st_g _ rfl rfl rfl h38 (r_gtN (a := size) (b := (e - p)) rfl rfl) ?_
              refine st _ (r_pick_f rfl h38 rfl) ?_
              refine st _ (r_assign rfl) ?_
              refine st_nil ?_
              refine c_then ?_
              refine c_if rfl (fun h21 => ?_) (fun h21 => ?_)
              · skip
                first | (have h21n := of_decide_eq_true h21) | (have h21n := of_decide_eq_false (bnt h21)) | (have h21n := bnt h21) | (have h21n := h21)
                refine c_seq ?_
                refine c_region ?_
                refine st _ (r_assign rfl) ?_
                refine st_nil ?_
                refine c_then ?_
                refine c_ret ?_
                refine r_block ?_
                refine r_then ?_
                exact ret1L (v := (.int .i64 ((2 : Nat) : Int))) trivial rfl ⟨rfl, trivial⟩ ⟨2, rfl, M, (by first | assumption | omega | simp_all), (by rw [tableF] <;> simp (disch := first | omega | assumption | (simp; done) | fail) only [if_pos, if_neg, Option.getD_some, Option.some.injEq, reduceIte, Bool.false_eq_true, Bool.true_eq_false, decide_true, decide_false, not_true_eq_false, not_false_eq_true, h9n, h16n, h13n, h26n, h33n, h38n, h21n])⟩
              · skip
                first | (have h21n := of_decide_eq_false h21) | (have h21n := of_decide_eq_true (bnf h21)) | (have h21n := bnf h21) | (have h21n := h21)
                refine c_skip ?_
                refine n_block ?_
                refine c_then ?_
                refine c_seq ?_
                refine c_region ?_
                refine st _ (r_assign rfl) ?_
                refine st_nil ?_
                refine c_then ?_
                refine c_ret ?_
                exact ret1L (v := (.int .i64 ((0 : Nat) : Int))) trivial rfl ⟨rfl, trivial⟩ ⟨0, rfl, M, (by first | assumption | omega | simp_all), (by rw [tableF] <;> simp (disch := first | omega | assumption | (simp; done) | fail) only [if_pos, if_neg, Option.getD_some, Option.some.injEq, reduceIte, Bool.false_eq_true, Bool.true_eq_false, decide_true, decide_false, not_true_eq_false, not_false_eq_true, h9n, h16n, h13n, h26n, h33n, h38n, h21n])⟩
end Go.Proofs.Ytahkddpdhmhfcaa
