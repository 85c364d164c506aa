/- Walks of functions: what each call returns, over data. -/
import Derived.Test.YtimakajeggeebaaRows
import Derived.Test.YtimakajeggeebaaLeP
namespace Go.Proofs.Ytimakajeggeebaa
open Go Go.Wk Go.RowKit
set_option linter.unusedVariables false
set_option linter.unusedSimpArgs false
attribute [local irreducible] wpList wpQuiet wpStill wpMix Code.wp Calls bodyPost
theorem el5 : elemIs Try.prog 5 1 = true := by kernel_rfl
theorem one5 : isOne Try.prog 5 = true := by kernel_rfl
theorem u25 : Try.prog.underlying 25 = some (.slice 5) := by kernel_rfl
theorem u27 : Try.prog.underlying 27 = some (.int .u64) := by kernel_rfl
theorem u5 : Try.prog.underlying 5 = some (.int .u8) := by kernel_rfl

theorem leSize_any {w : World} {Q : Nat → Prop} (uQ : Up w Q) (n : Int) (a0 : (-9223372036854775808 ≤ n ∧ n < 9223372036854775808)) :
    Calls Try.prog 74 #[(.int .i64 (n : Int))] w fun en w' => ∃ r0 : Bool, en = .returned (.bool r0) ∧ Md [] w w' ∧ sizeOk n = r0 := by
  have M := Md.refl [] w
  have uQ0 := uQ
  have tQ : ∀ b, Q b → Q b := fun _ h => h
  have sQ0 : ∀ b, Q b → b < w.heap.size → Q b := fun _ h _ => h
  refine enter (n := 17) Try.func74 rfl rfl rfl ?_
  intro B
  refine c_seq ?_
  refine c_region ?_
  refine st _ (r_assign rfl) ?_
  refine st_nil ?_
  refine c_then ?_
  refine c_seq ?_
  refine c_region ?_
  refine st _ (r_move rfl) ?_
  refine st _ (r_eq (a := n) (b := 1) rfl rfl) ?_
  refine st _ (r_move rfl) ?_
  refine part_n (t := 5) rfl (fun h5 => ?_) (fun h5 => ?_)
  · skip
    first | (have h5n := of_decide_eq_true h5) | (have h5n := of_decide_eq_false (bnt h5)) | (have h5n := bnt h5) | (have h5n := h5)
    refine st_skip rfl rfl rfl h5 ?_
    refine st_skip rfl rfl rfl h5 ?_
    refine st _ (r_pick_t rfl h5 rfl) ?_
    refine st _ (r_move rfl) ?_
    refine st_skip rfl rfl rfl rfl ?_
    refine st_skip rfl rfl rfl rfl ?_
    refine st _ (r_pick_t rfl rfl rfl) ?_
    refine st _ (r_move rfl) ?_
    refine st_skip rfl rfl rfl rfl ?_
    refine st_skip rfl rfl rfl rfl ?_
    refine st _ (r_pick_t rfl rfl rfl) ?_
    refine st _ (r_assign rfl) ?_
    refine st_nil ?_
    refine c_then ?_
    refine c_ret ?_
    exact ret1L (v := (.bool true)) trivial rfl ⟨rfl, trivial⟩ ⟨true, rfl, M, (by simp only [sizeOk]; first | exact decide_eq_true (by omega) | exact decide_eq_false (by omega) | exact (decide_eq_decide.2 (by omega)))⟩
  · skip
    first | (have h5n := of_decide_eq_false h5) | (have h5n := of_decide_eq_true (bnf h5)) | (have h5n := bnf h5) | (have h5n := h5)
    refine st_g _ rfl rfl rfl h5 (r_move rfl) ?_
    refine st_g _ rfl rfl rfl h5 (r_eq (a := n) (b := 2) rfl rfl) ?_
    refine st _ (r_pick_f rfl h5 rfl) ?_
    refine st _ (r_move rfl) ?_
    refine part_n (t := 9) rfl (fun h9 => ?_) (fun h9 => ?_)
    · skip
      first | (have h9n := of_decide_eq_true h9) | (have h9n := of_decide_eq_false (bnt h9)) | (have h9n := bnt h9) | (have h9n := h9)
      refine st_skip rfl rfl rfl h9 ?_
      refine st_skip rfl rfl rfl h9 ?_
      refine st _ (r_pick_t rfl h9 rfl) ?_
      refine st _ (r_move rfl) ?_
      refine st_skip rfl rfl rfl rfl ?_
      refine st_skip rfl rfl rfl rfl ?_
      refine st _ (r_pick_t rfl rfl rfl) ?_
      refine st _ (r_assign rfl) ?_
      refine st_nil ?_
      refine c_then ?_
      refine c_ret ?_
      exact ret1L (v := (.bool true)) trivial rfl ⟨rfl, trivial⟩ ⟨true, rfl, M, (by simp only [sizeOk]; first | exact decide_eq_true (by omega) | exact decide_eq_false (by omega) | exact (decide_eq_decide.2 (by omega)))⟩
    · skip
      first | (have h9n := of_decide_eq_false h9) | (have h9n := of_decide_eq_true (bnf h9)) | (have h9n := bnf h9) | (have h9n := h9)
      refine st_g _ rfl rfl rfl h9 (r_move rfl) ?_
      refine st_g _ rfl rfl rfl h9 (r_eq (a := n) (b := 4) rfl rfl) ?_
      refine st _ (r_pick_f rfl h9 rfl) ?_
      refine st _ (r_move rfl) ?_
      refine part_n (t := 13) rfl (fun h13 => ?_) (fun h13 => ?_)
      · skip
        first | (have h13n := of_decide_eq_true h13) | (have h13n := of_decide_eq_false (bnt h13)) | (have h13n := bnt h13) | (have h13n := h13)
        refine st_skip rfl rfl rfl h13 ?_
        refine st_skip rfl rfl rfl h13 ?_
        refine st _ (r_pick_t rfl h13 rfl) ?_
        refine st _ (r_assign rfl) ?_
        refine st_nil ?_
        refine c_then ?_
        refine c_ret ?_
        exact ret1L (v := (.bool true)) trivial rfl ⟨rfl, trivial⟩ ⟨true, rfl, M, (by simp only [sizeOk]; first | exact decide_eq_true (by omega) | exact decide_eq_false (by omega) | exact (decide_eq_decide.2 (by omega)))⟩
      · skip
        first | (have h13n := of_decide_eq_false h13) | (have h13n := of_decide_eq_true (bnf h13)) | (have h13n := bnf h13) | (have h13n := h13)
        refine st_g _ rfl rfl rfl h13 (r_move rfl) ?_
        refine st_g _ rfl rfl rfl h13 (r_eq (a := n) (b := 8) rfl rfl) ?_
        refine st _ (r_pick_f rfl h13 rfl) ?_
        refine st _ (r_assign rfl) ?_
        refine st_nil ?_
        refine c_then ?_
        refine c_ret ?_
        exact ret1L (v := (.bool ((decide (n = 8))))) trivial rfl ⟨rfl, trivial⟩ ⟨(decide (n = 8)), rfl, M, (by simp only [sizeOk]; first | exact decide_eq_true (by omega) | exact decide_eq_false (by omega) | exact (decide_eq_decide.2 (by omega)))⟩
theorem refGet_any {w : World} {Q : Nat → Prop} (uQ : Up w Q) {v0 : Value} {l : List UInt8} (h0 : Ls tB8 w Q v0 l) (a : Int) (a1 : (-9223372036854775808 ≤ a ∧ a < 9223372036854775808)) (n : Int) (a2 : (-9223372036854775808 ≤ n ∧ n < 9223372036854775808)) :
    Calls Try.prog 138 #[v0, (.int .i64 (a : Int)), (.int .i64 (n : Int))] w fun en w' => ∃ r0 : Nat, ∃ r1 : Bool, en = .returned (.tuple #[(.int .u64 ((r0 : Nat) : Int)), (.bool r1)]) ∧ Md [] w w' ∧ r0 < 18446744073709551616 ∧ getF l a n = (r0, r1) := by
  have L0 := h0.len63
  have M := Md.refl [] w
  have uQ0 := uQ
  have tQ : ∀ b, Q b → Q b := fun _ h => h
  have sQ0 : ∀ b, Q b → b < w.heap.size → Q b := fun _ h _ => h
  refine enter (n := 59) Try.func138 rfl rfl rfl ?_
  intro B
  refine c_seq ?_
  refine c_region ?_
  refine st _ (r_assign rfl) ?_
  refine st _ (r_assign rfl) ?_
  refine st_nil ?_
  refine c_then ?_
  refine c_seq ?_
  refine c_seq ?_
  refine c_join (fun b => [(41, .bool b), (0, v0), (1, (.int .i64 (a : Int))), (2, (.int .i64 (n : Int))), (6, (.int .u64 ((0 : Nat) : Int))), (7, (.bool false))]) (fun b w' => w = w' ∧ (b = true ↔ ¬ (sizeOk n = true ∧ 0 ≤ a ∧ a + n ≤ l.length))) ?_ ?_
  · skip
    refine st _ (r_move rfl) ?_
    refine st _ (r_ne (a := n) (b := 1) rfl rfl) ?_
    refine st _ (r_move rfl) ?_
    refine part_n (t := 12) rfl (fun h12 => ?_) (fun h12 => ?_)
    · skip
      first | (have h12n := of_decide_eq_true h12) | (have h12n := of_decide_eq_false (bnt h12)) | (have h12n := bnt h12) | (have h12n := h12)
      refine st_g _ rfl rfl rfl h12 (r_move rfl) ?_
      refine st_g _ rfl rfl rfl h12 (r_ne (a := n) (b := 2) rfl rfl) ?_
      refine st _ (r_pick_t rfl h12 rfl) ?_
      refine st _ (r_move rfl) ?_
      refine part_n (t := 16) rfl (fun h16 => ?_) (fun h16 => ?_)
      · skip
        first | (have h16n := of_decide_eq_true h16) | (have h16n := of_decide_eq_false (bnt h16)) | (have h16n := bnt h16) | (have h16n := h16)
        refine st_g _ rfl rfl rfl h16 (r_move rfl) ?_
        refine st_g _ rfl rfl rfl h16 (r_ne (a := n) (b := 4) rfl rfl) ?_
        refine st _ (r_pick_t rfl h16 rfl) ?_
        refine st _ (r_move rfl) ?_
        refine part_n (t := 20) rfl (fun h20 => ?_) (fun h20 => ?_)
        · skip
          first | (have h20n := of_decide_eq_true h20) | (have h20n := of_decide_eq_false (bnt h20)) | (have h20n := bnt h20) | (have h20n := h20)
          refine st_g _ rfl rfl rfl h20 (r_move rfl) ?_
          refine st_g _ rfl rfl rfl h20 (r_ne (a := n) (b := 8) rfl rfl) ?_
          refine st _ (r_pick_t rfl h20 rfl) ?_
          refine st _ (r_move rfl) ?_
          refine part_n (t := 24) rfl (fun h24 => ?_) (fun h24 => ?_)
          · skip
            first | (have h24n := of_decide_eq_true h24) | (have h24n := of_decide_eq_false (bnt h24)) | (have h24n := bnt h24) | (have h24n := h24)
            refine st_skip rfl rfl rfl h24 ?_
            refine st_skip rfl rfl rfl h24 ?_
            refine st _ (r_pick_t rfl h24 rfl) ?_
            refine st _ (r_move rfl) ?_
            refine st_skip rfl rfl rfl rfl ?_
            refine st_skip rfl rfl rfl rfl ?_
            refine st_skip rfl rfl rfl rfl ?_
            refine st_skip rfl rfl rfl rfl ?_
            refine st _ (r_pick_t rfl rfl rfl) ?_
            refine st _ (r_move rfl) ?_
            refine st_skip rfl rfl rfl rfl ?_
            refine st_skip rfl rfl rfl rfl ?_
            refine st_skip rfl rfl rfl rfl ?_
            refine st_skip rfl rfl rfl rfl ?_
            refine st_skip rfl rfl rfl rfl ?_
            refine st_skip rfl rfl rfl rfl ?_
            refine st _ (r_pick_t rfl rfl rfl) ?_
            refine st_nil ?_
            refine ⟨rfl, jn true ?_ ?_⟩
            · exact ⟨rfl, rfl, rfl, rfl, rfl, rfl, trivial⟩
            · exact ⟨rfl, by rw [sizeOk_iff]; simp; omega⟩
          · skip
            first | (have h24n := of_decide_eq_false h24) | (have h24n := of_decide_eq_true (bnf h24)) | (have h24n := bnf h24) | (have h24n := h24)
            refine st_g _ rfl rfl rfl h24 (r_move rfl) ?_
            refine st_g _ rfl rfl rfl h24 (r_lt (a := a) (b := 0) rfl rfl) ?_
            refine st _ (r_pick_f rfl h24 rfl) ?_
            refine st _ (r_move rfl) ?_
            refine part_n (t := 28) rfl (fun h28 => ?_) (fun h28 => ?_)
            · skip
              first | (have h28n := of_decide_eq_true h28) | (have h28n := of_decide_eq_false (bnt h28)) | (have h28n := bnt h28) | (have h28n := h28)
              refine st_skip rfl rfl rfl h28 ?_
              refine st_skip rfl rfl rfl h28 ?_
              refine st_skip rfl rfl rfl h28 ?_
              refine st_skip rfl rfl rfl h28 ?_
              refine st _ (r_pick_t rfl h28 rfl) ?_
              refine st _ (r_move rfl) ?_
              refine st_skip rfl rfl rfl rfl ?_
              refine st_skip rfl rfl rfl rfl ?_
              refine st_skip rfl rfl rfl rfl ?_
              refine st_skip rfl rfl rfl rfl ?_
              refine st_skip rfl rfl rfl rfl ?_
              refine st_skip rfl rfl rfl rfl ?_
              refine st _ (r_pick_t rfl rfl rfl) ?_
              refine st_nil ?_
              refine ⟨rfl, jn true ?_ ?_⟩
              · exact ⟨rfl, rfl, rfl, rfl, rfl, rfl, trivial⟩
              · exact ⟨rfl, by rw [sizeOk_iff]; simp; omega⟩
            · skip
              first | (have h28n := of_decide_eq_false h28) | (have h28n := of_decide_eq_true (bnf h28)) | (have h28n := bnf h28) | (have h28n := h28)
              refine st_g _ rfl rfl rfl h28 (r_move rfl) ?_
              refine st_g _ rfl rfl rfl h28 (r_move rfl) ?_
              refine st_g _ rfl rfl rfl h28 (r_len rfl u25 h0.shp) ?_
              refine st_g _ rfl rfl rfl h28 (r_gt (a := a) (b := ((l.length : Nat) : Int)) rfl rfl) ?_
              refine st _ (r_pick_f rfl h28 rfl) ?_
              refine st _ (r_move rfl) ?_
              refine part_n (t := 34) rfl (fun h34 => ?_) (fun h34 => ?_)
              · skip
                first | (have h34n := of_decide_eq_true h34) | (have h34n := of_decide_eq_false (bnt h34)) | (have h34n := bnt h34) | (have h34n := h34)
                refine st_skip rfl rfl rfl h34 ?_
                refine st_skip rfl rfl rfl h34 ?_
                refine st_skip rfl rfl rfl h34 ?_
                refine st_skip rfl rfl rfl h34 ?_
                refine st_skip rfl rfl rfl h34 ?_
                refine st_skip rfl rfl rfl h34 ?_
                refine st _ (r_pick_t rfl h34 rfl) ?_
                refine st_nil ?_
                refine ⟨rfl, jn true ?_ ?_⟩
                · exact ⟨rfl, rfl, rfl, rfl, rfl, rfl, trivial⟩
                · exact ⟨rfl, by rw [sizeOk_iff]; simp; omega⟩
              · skip
                first | (have h34n := of_decide_eq_false h34) | (have h34n := of_decide_eq_true (bnf h34)) | (have h34n := bnf h34) | (have h34n := h34)
                refine st_g _ rfl rfl rfl h34 (r_move rfl) ?_
                refine st_g _ rfl rfl rfl h34 (r_len rfl u25 h0.shp) ?_
                refine st_g _ rfl rfl rfl h34 (r_move rfl) ?_
                refine st_g _ rfl rfl rfl h34 (r_subI (a := ((l.length : Nat) : Int)) (b := a) rfl rfl (by omega)) ?_
                refine st_g _ rfl rfl rfl h34 (r_move rfl) ?_
                refine st_g _ rfl rfl rfl h34 (r_lt (a := ((l.length : Nat) : Int) - a) (b := n) rfl rfl) ?_
                refine st _ (r_pick_f rfl h34 rfl) ?_
                refine part_n (t := 41) rfl (fun h41 => ?_) (fun h41 => ?_)
                · skip
                  first | (have h41n := of_decide_eq_true h41) | (have h41n := of_decide_eq_false (bnt h41)) | (have h41n := bnt h41) | (have h41n := h41)
                  refine st_nil ?_
                  refine ⟨rfl, jn true ?_ ?_⟩
                  · exact ⟨fitB rfl h41, rfl, rfl, rfl, rfl, rfl, trivial⟩
                  · exact ⟨rfl, by rw [sizeOk_iff]; simp; omega⟩
                · skip
                  first | (have h41n := of_decide_eq_false h41) | (have h41n := of_decide_eq_true (bnf h41)) | (have h41n := bnf h41) | (have h41n := h41)
                  refine st_nil ?_
                  refine ⟨rfl, jn false ?_ ?_⟩
                  · exact ⟨fitB rfl h41, rfl, rfl, rfl, rfl, rfl, trivial⟩
                  · exact ⟨rfl, by rw [sizeOk_iff]; simp; omega⟩
        · skip
          first | (have h20n := of_decide_eq_false h20) | (have h20n := of_decide_eq_true (bnf h20)) | (have h20n := bnf h20) | (have h20n := h20)
          refine st_skip rfl rfl rfl h20 ?_
          refine st_skip rfl rfl rfl h20 ?_
          refine st _ (r_pick_f rfl h20 rfl) ?_
          refine st _ (r_move rfl) ?_
          refine st_g _ rfl rfl rfl rfl (r_move rfl) ?_
          refine st_g _ rfl rfl rfl rfl (r_lt (a := a) (b := 0) rfl rfl) ?_
          refine st _ (r_pick_f rfl rfl rfl) ?_
          refine st _ (r_move rfl) ?_
          refine part_n (t := 28) rfl (fun h28 => ?_) (fun h28 => ?_)
          · skip
            first | (have h28n := of_decide_eq_true h28) | (have h28n := of_decide_eq_false (bnt h28)) | (have h28n := bnt h28) | (have h28n := h28)
            refine st_skip rfl rfl rfl h28 ?_
            refine st_skip rfl rfl rfl h28 ?_
            refine st_skip rfl rfl rfl h28 ?_
            refine st_skip rfl rfl rfl h28 ?_
            refine st _ (r_pick_t rfl h28 rfl) ?_
            refine st _ (r_move rfl) ?_
            refine st_skip rfl rfl rfl rfl ?_
            refine st_skip rfl rfl rfl rfl ?_
            refine st_skip rfl rfl rfl rfl ?_
            refine st_skip rfl rfl rfl rfl ?_
            refine st_skip rfl rfl rfl rfl ?_
            refine st_skip rfl rfl rfl rfl ?_
            refine st _ (r_pick_t rfl rfl rfl) ?_
            refine st_nil ?_
            refine ⟨rfl, jn true ?_ ?_⟩
            · exact ⟨rfl, rfl, rfl, rfl, rfl, rfl, trivial⟩
            · exact ⟨rfl, by rw [sizeOk_iff]; simp; omega⟩
          · skip
            first | (have h28n := of_decide_eq_false h28) | (have h28n := of_decide_eq_true (bnf h28)) | (have h28n := bnf h28) | (have h28n := h28)
            refine st_g _ rfl rfl rfl h28 (r_move rfl) ?_
            refine st_g _ rfl rfl rfl h28 (r_move rfl) ?_
            refine st_g _ rfl rfl rfl h28 (r_len rfl u25 h0.shp) ?_
            refine st_g _ rfl rfl rfl h28 (r_gt (a := a) (b := ((l.length : Nat) : Int)) rfl rfl) ?_
            refine st _ (r_pick_f rfl h28 rfl) ?_
            refine st _ (r_move rfl) ?_
            refine part_n (t := 34) rfl (fun h34 => ?_) (fun h34 => ?_)
            · skip
              first | (have h34n := of_decide_eq_true h34) | (have h34n := of_decide_eq_false (bnt h34)) | (have h34n := bnt h34) | (have h34n := h34)
              refine st_skip rfl rfl rfl h34 ?_
              refine st_skip rfl rfl rfl h34 ?_
              refine st_skip rfl rfl rfl h34 ?_
              refine st_skip rfl rfl rfl h34 ?_
              refine st_skip rfl rfl rfl h34 ?_
              refine st_skip rfl rfl rfl h34 ?_
              refine st _ (r_pick_t rfl h34 rfl) ?_
              refine st_nil ?_
              refine ⟨rfl, jn true ?_ ?_⟩
              · exact ⟨rfl, rfl, rfl, rfl, rfl, rfl, trivial⟩
              · exact ⟨rfl, by rw [sizeOk_iff]; simp; omega⟩
            · skip
              first | (have h34n := of_decide_eq_false h34) | (have h34n := of_decide_eq_true (bnf h34)) | (have h34n := bnf h34) | (have h34n := h34)
              refine st_g _ rfl rfl rfl h34 (r_move rfl) ?_
              refine st_g _ rfl rfl rfl h34 (r_len rfl u25 h0.shp) ?_
              refine st_g _ rfl rfl rfl h34 (r_move rfl) ?_
              refine st_g _ rfl rfl rfl h34 (r_subI (a := ((l.length : Nat) : Int)) (b := a) rfl rfl (by omega)) ?_
              refine st_g _ rfl rfl rfl h34 (r_move rfl) ?_
              refine st_g _ rfl rfl rfl h34 (r_lt (a := ((l.length : Nat) : Int) - a) (b := n) rfl rfl) ?_
              refine st _ (r_pick_f rfl h34 rfl) ?_
              refine part_n (t := 41) rfl (fun h41 => ?_) (fun h41 => ?_)
              · skip
                first | (have h41n := of_decide_eq_true h41) | (have h41n := of_decide_eq_false (bnt h41)) | (have h41n := bnt h41) | (have h41n := h41)
                refine st_nil ?_
                refine ⟨rfl, jn true ?_ ?_⟩
                · exact ⟨fitB rfl h41, rfl, rfl, rfl, rfl, rfl, trivial⟩
                · exact ⟨rfl, by rw [sizeOk_iff]; simp; omega⟩
              · skip
                first | (have h41n := of_decide_eq_false h41) | (have h41n := of_decide_eq_true (bnf h41)) | (have h41n := bnf h41) | (have h41n := h41)
                refine st_nil ?_
                refine ⟨rfl, jn false ?_ ?_⟩
                · exact ⟨fitB rfl h41, rfl, rfl, rfl, rfl, rfl, trivial⟩
                · exact ⟨rfl, by rw [sizeOk_iff]; simp; omega⟩
      · skip
        first | (have h16n := of_decide_eq_false h16) | (have h16n := of_decide_eq_true (bnf h16)) | (have h16n := bnf h16) | (have h16n := h16)
        refine st_skip rfl rfl rfl h16 ?_
        refine st_skip rfl rfl rfl h16 ?_
        refine st _ (r_pick_f rfl h16 rfl) ?_
        refine st _ (r_move rfl) ?_
        refine st_skip rfl rfl rfl rfl ?_
        refine st_skip rfl rfl rfl rfl ?_
        refine st _ (r_pick_f rfl rfl rfl) ?_
        refine st _ (r_move rfl) ?_
        refine st_g _ rfl rfl rfl rfl (r_move rfl) ?_
        refine st_g _ rfl rfl rfl rfl (r_lt (a := a) (b := 0) rfl rfl) ?_
        refine st _ (r_pick_f rfl rfl rfl) ?_
        refine st _ (r_move rfl) ?_
        refine part_n (t := 28) rfl (fun h28 => ?_) (fun h28 => ?_)
        · skip
          first | (have h28n := of_decide_eq_true h28) | (have h28n := of_decide_eq_false (bnt h28)) | (have h28n := bnt h28) | (have h28n := h28)
          refine st_skip rfl rfl rfl h28 ?_
          refine st_skip rfl rfl rfl h28 ?_
          refine st_skip rfl rfl rfl h28 ?_
          refine st_skip rfl rfl rfl h28 ?_
          refine st _ (r_pick_t rfl h28 rfl) ?_
          refine st _ (r_move rfl) ?_
          refine st_skip rfl rfl rfl rfl ?_
          refine st_skip rfl rfl rfl rfl ?_
          refine st_skip rfl rfl rfl rfl ?_
          refine st_skip rfl rfl rfl rfl ?_
          refine st_skip rfl rfl rfl rfl ?_
          refine st_skip rfl rfl rfl rfl ?_
          refine st _ (r_pick_t rfl rfl rfl) ?_
          refine st_nil ?_
          refine ⟨rfl, jn true ?_ ?_⟩
          · exact ⟨rfl, rfl, rfl, rfl, rfl, rfl, trivial⟩
          · exact ⟨rfl, by rw [sizeOk_iff]; simp; omega⟩
        · skip
          first | (have h28n := of_decide_eq_false h28) | (have h28n := of_decide_eq_true (bnf h28)) | (have h28n := bnf h28) | (have h28n := h28)
          refine st_g _ rfl rfl rfl h28 (r_move rfl) ?_
          refine st_g _ rfl rfl rfl h28 (r_move rfl) ?_
          refine st_g _ rfl rfl rfl h28 (r_len rfl u25 h0.shp) ?_
          refine st_g _ rfl rfl rfl h28 (r_gt (a := a) (b := ((l.length : Nat) : Int)) rfl rfl) ?_
          refine st _ (r_pick_f rfl h28 rfl) ?_
          refine st _ (r_move rfl) ?_
          refine part_n (t := 34) rfl (fun h34 => ?_) (fun h34 => ?_)
          · skip
            first | (have h34n := of_decide_eq_true h34) | (have h34n := of_decide_eq_false (bnt h34)) | (have h34n := bnt h34) | (have h34n := h34)
            refine st_skip rfl rfl rfl h34 ?_
            refine st_skip rfl rfl rfl h34 ?_
            refine st_skip rfl rfl rfl h34 ?_
            refine st_skip rfl rfl rfl h34 ?_
            refine st_skip rfl rfl rfl h34 ?_
            refine st_skip rfl rfl rfl h34 ?_
            refine st _ (r_pick_t rfl h34 rfl) ?_
            refine st_nil ?_
            refine ⟨rfl, jn true ?_ ?_⟩
            · exact ⟨rfl, rfl, rfl, rfl, rfl, rfl, trivial⟩
            · exact ⟨rfl, by rw [sizeOk_iff]; simp; omega⟩
          · skip
            first | (have h34n := of_decide_eq_false h34) | (have h34n := of_decide_eq_true (bnf h34)) | (have h34n := bnf h34) | (have h34n := h34)
            refine st_g _ rfl rfl rfl h34 (r_move rfl) ?_
            refine st_g _ rfl rfl rfl h34 (r_len rfl u25 h0.shp) ?_
            refine st_g _ rfl rfl rfl h34 (r_move rfl) ?_
            refine st_g _ rfl rfl rfl h34 (r_subI (a := ((l.length : Nat) : Int)) (b := a) rfl rfl (by omega)) ?_
            refine st_g _ rfl rfl rfl h34 (r_move rfl) ?_
            refine st_g _ rfl rfl rfl h34 (r_lt (a := ((l.length : Nat) : Int) - a) (b := n) rfl rfl) ?_
            refine st _ (r_pick_f rfl h34 rfl) ?_
            refine part_n (t := 41) rfl (fun h41 => ?_) (fun h41 => ?_)
            · skip
              first | (have h41n := of_decide_eq_true h41) | (have h41n := of_decide_eq_false (bnt h41)) | (have h41n := bnt h41) | (have h41n := h41)
              refine st_nil ?_
              refine ⟨rfl, jn true ?_ ?_⟩
              · exact ⟨fitB rfl h41, rfl, rfl, rfl, rfl, rfl, trivial⟩
              · exact ⟨rfl, by rw [sizeOk_iff]; simp; omega⟩
            · skip
              first | (have h41n := of_decide_eq_false h41) | (have h41n := of_decide_eq_true (bnf h41)) | (have h41n := bnf h41) | (have h41n := h41)
              refine st_nil ?_
              refine ⟨rfl, jn false ?_ ?_⟩
              · exact ⟨fitB rfl h41, rfl, rfl, rfl, rfl, rfl, trivial⟩
              · exact ⟨rfl, by rw [sizeOk_iff]; simp; omega⟩
    · skip
      first | (have h12n := of_decide_eq_false h12) | (have h12n := of_decide_eq_true (bnf h12)) | (have h12n := bnf h12) | (have h12n := h12)
      refine st_skip rfl rfl rfl h12 ?_
      refine st_skip rfl rfl rfl h12 ?_
      refine st _ (r_pick_f rfl h12 rfl) ?_
      refine st _ (r_move rfl) ?_
      refine st_skip rfl rfl rfl rfl ?_
      refine st_skip rfl rfl rfl rfl ?_
      refine st _ (r_pick_f rfl rfl rfl) ?_
      refine st _ (r_move rfl) ?_
      refine st_skip rfl rfl rfl rfl ?_
      refine st_skip rfl rfl rfl rfl ?_
      refine st _ (r_pick_f rfl rfl rfl) ?_
      refine st _ (r_move rfl) ?_
      refine st_g _ rfl rfl rfl rfl (r_move rfl) ?_
      refine st_g _ rfl rfl rfl rfl (r_lt (a := a) (b := 0) rfl rfl) ?_
      refine st _ (r_pick_f rfl rfl rfl) ?_
      refine st _ (r_move rfl) ?_
      refine part_n (t := 28) rfl (fun h28 => ?_) (fun h28 => ?_)
      · skip
        first | (have h28n := of_decide_eq_true h28) | (have h28n := of_decide_eq_false (bnt h28)) | (have h28n := bnt h28) | (have h28n := h28)
        refine st_skip rfl rfl rfl h28 ?_
        refine st_skip rfl rfl rfl h28 ?_
        refine st_skip rfl rfl rfl h28 ?_
        refine st_skip rfl rfl rfl h28 ?_
        refine st _ (r_pick_t rfl h28 rfl) ?_
        refine st _ (r_move rfl) ?_
        refine st_skip rfl rfl rfl rfl ?_
        refine st_skip rfl rfl rfl rfl ?_
        refine st_skip rfl rfl rfl rfl ?_
        refine st_skip rfl rfl rfl rfl ?_
        refine st_skip rfl rfl rfl rfl ?_
        refine st_skip rfl rfl rfl rfl ?_
        refine st _ (r_pick_t rfl rfl rfl) ?_
        refine st_nil ?_
        refine ⟨rfl, jn true ?_ ?_⟩
        · exact ⟨rfl, rfl, rfl, rfl, rfl, rfl, trivial⟩
        · exact ⟨rfl, by rw [sizeOk_iff]; simp; omega⟩
      · skip
        first | (have h28n := of_decide_eq_false h28) | (have h28n := of_decide_eq_true (bnf h28)) | (have h28n := bnf h28) | (have h28n := h28)
        refine st_g _ rfl rfl rfl h28 (r_move rfl) ?_
        refine st_g _ rfl rfl rfl h28 (r_move rfl) ?_
        refine st_g _ rfl rfl rfl h28 (r_len rfl u25 h0.shp) ?_
        refine st_g _ rfl rfl rfl h28 (r_gt (a := a) (b := ((l.length : Nat) : Int)) rfl rfl) ?_
        refine st _ (r_pick_f rfl h28 rfl) ?_
        refine st _ (r_move rfl) ?_
        refine part_n (t := 34) rfl (fun h34 => ?_) (fun h34 => ?_)
        · skip
          first | (have h34n := of_decide_eq_true h34) | (have h34n := of_decide_eq_false (bnt h34)) | (have h34n := bnt h34) | (have h34n := h34)
          refine st_skip rfl rfl rfl h34 ?_
          refine st_skip rfl rfl rfl h34 ?_
          refine st_skip rfl rfl rfl h34 ?_
          refine st_skip rfl rfl rfl h34 ?_
          refine st_skip rfl rfl rfl h34 ?_
          refine st_skip rfl rfl rfl h34 ?_
          refine st _ (r_pick_t rfl h34 rfl) ?_
          refine st_nil ?_
          refine ⟨rfl, jn true ?_ ?_⟩
          · exact ⟨rfl, rfl, rfl, rfl, rfl, rfl, trivial⟩
          · exact ⟨rfl, by rw [sizeOk_iff]; simp; omega⟩
        · skip
          first | (have h34n := of_decide_eq_false h34) | (have h34n := of_decide_eq_true (bnf h34)) | (have h34n := bnf h34) | (have h34n := h34)
          refine st_g _ rfl rfl rfl h34 (r_move rfl) ?_
          refine st_g _ rfl rfl rfl h34 (r_len rfl u25 h0.shp) ?_
          refine st_g _ rfl rfl rfl h34 (r_move rfl) ?_
          refine st_g _ rfl rfl rfl h34 (r_subI (a := ((l.length : Nat) : Int)) (b := a) rfl rfl (by omega)) ?_
          refine st_g _ rfl rfl rfl h34 (r_move rfl) ?_
          refine st_g _ rfl rfl rfl h34 (r_lt (a := ((l.length : Nat) : Int) - a) (b := n) rfl rfl) ?_
          refine st _ (r_pick_f rfl h34 rfl) ?_
          refine part_n (t := 41) rfl (fun h41 => ?_) (fun h41 => ?_)
          · skip
            first | (have h41n := of_decide_eq_true h41) | (have h41n := of_decide_eq_false (bnt h41)) | (have h41n := bnt h41) | (have h41n := h41)
            refine st_nil ?_
            refine ⟨rfl, jn true ?_ ?_⟩
            · exact ⟨fitB rfl h41, rfl, rfl, rfl, rfl, rfl, trivial⟩
            · exact ⟨rfl, by rw [sizeOk_iff]; simp; omega⟩
          · skip
            first | (have h41n := of_decide_eq_false h41) | (have h41n := of_decide_eq_true (bnf h41)) | (have h41n := bnf h41) | (have h41n := h41)
            refine st_nil ?_
            refine ⟨rfl, jn false ?_ ?_⟩
            · exact ⟨fitB rfl h41, rfl, rfl, rfl, rfl, rfl, trivial⟩
            · exact ⟨rfl, by rw [sizeOk_iff]; simp; omega⟩
  · rintro b41 B _ ⟨rfl, j41⟩
    refine c_boolcase b41 (fun h41 => ?_) (fun h41 => ?_)
    · skip
      replace j41 := j41.1 h41
      refine c_then ?_
      refine c_if_t rfl h41 ?_
      refine c_seq ?_
      refine c_region ?_
      refine st _ (r_assign rfl) ?_
      refine st _ (r_assign rfl) ?_
      refine st_nil ?_
      refine c_then ?_
      refine c_ret ?_
      refine r_then ?_
      exact retL (vs := [(.int .u64 ((0 : Nat) : Int)), (.bool false)]) trivial rfl ⟨rfl, rfl, trivial⟩ rfl ⟨0, false, rfl, M, (by first | assumption | omega | simp_all), (getF_no (by omega))⟩
    · skip
      replace j41 := mt j41.2 (by rw [h41]; simp)
      refine c_then ?_
      refine c_if_f rfl h41 ?_
      refine c_skip ?_
      refine c_then ?_
      refine c_seq ?_
      replace j41 := Classical.not_not.1 j41
      have hs := sizeOk_le j41.1
      refine c_region ?_
      refine st _ (r_assign rfl) ?_
      refine st_nil ?_
      refine c_then ?_
      refine c_seq ?_
      refine c_seq ?_
      refine c_region ?_
      refine st _ (r_move rfl) ?_
      refine st _ (r_subI (a := n) (b := 1) rfl rfl (by omega)) ?_
      refine st _ (r_assign rfl) ?_
      refine st_nil ?_
      refine c_then ?_
      refine c_block ?_
      
      refine loop2 (fun (v : Nat) (i : Int) => [(8, (.int .u64 ((v : Nat) : Int))), (9, (.int .i64 (i : Int))), (0, v0), (1, (.int .i64 (a : Int))), (6, (.int .u64 ((0 : Nat) : Int))), (7, (.bool false))]) (fun (v : Nat) (i : Int) w' => ∃ Q' : Nat → Prop, (∀ b, Q' b → Q b) ∧ (∀ b, Q b → b < w.heap.size → Q' b) ∧ Up w' Q' ∧ Md [] w w' ∧ Ls tB8 w' Q' v0 l ∧ (-1 ≤ i ∧ i < n) ∧ v = leN ((l.drop (a + (i + 1)).toNat).take (n - 1 - i).toNat) ∧ v < 18446744073709551616) (fun (v : Nat) (i : Int) => (i + 1).toNat) (x0 := 0) (x1 := (n - 1)) ?_ ?_ ?_
      · exact ⟨rfl, rfl, rfl, rfl, rfl, rfl, trivial⟩
      · exact ⟨Q, tQ, sQ0, uQ, M, h0, (by omega), (by simp [show n - 1 - (n - 1) = 0 by omega, leN]), (by omega)⟩
      · clear M uQ tQ sQ0 h0
        rintro v i B w1 ⟨Q2, tQ, sQ0, uQ, M, h0, i0_0, i0_1, i0_2⟩
        refine c_seq ?_
        refine c_seq ?_
        refine c_region ?_
        refine st _ (r_move rfl) ?_
        refine st _ (r_ge (a := i) (b := 0) rfl rfl) ?_
        refine st_nil ?_
        refine c_then ?_
        refine c_if rfl (fun h45 => ?_) (fun h45 => ?_)
        · skip
          first | (have h45n := of_decide_eq_true h45) | (have h45n := of_decide_eq_false (bnt h45)) | (have h45n := bnt h45) | (have h45n := h45)
          have hv := leN_lt_of (l := (l.drop (a + (i + 1)).toNat).take (n - 1 - i).toNat) (k := 7) (by simp; omega)
          rw [← i0_1] at hv
          refine c_skip ?_
          refine c_then ?_
          refine c_seq ?_
          refine c_block ?_
          refine c_region ?_
          refine st _ (r_move rfl) ?_
          refine st _ (r_mulN (a := v) (b := 256) 18446744073709551616 rfl rfl rfl (by omega)) ?_
          refine st _ (r_move rfl) ?_
          refine st _ (r_move rfl) ?_
          refine st _ (r_move rfl) ?_
          refine st _ (r_addI (a := a) (b := i) rfl rfl (by omega)) ?_
          refine st _ (r_indexZ (i := a + i) 1 rfl rfl u25 el5 h0.shp (by omega)) ?_
          obtain ⟨x3, hx3⟩ := getE (l := l) (i := (a + i).toNat) (by first | omega | (simp <;> omega))
          obtain ⟨c4, hr3, ha3⟩ := h0.get hx3
          obtain ⟨rfl, _⟩ := hr3
          have yx3 := UInt8.toNat_lt x3
          replace ha3 : At _ v0 (((a + i).toNat) * 1) [(b8 x3)] := ha3
          refine st _ ((r_loadE (kk := ((a + i).toNat) * 1) 0 rfl rfl one5 ha3 rfl).to (b := (b8 x3)) rfl) ?_
          refine st _ (r_convN (a := x3.toNat) 18446744073709551616 rfl (by rw [u5]; rfl) u27 rfl (Nat.lt_of_lt_of_le (UInt8.toNat_lt _) (by decide))) ?_
          refine st _ (r_addN (a := (v * 256)) (b := x3.toNat) 18446744073709551616 rfl rfl rfl (by omega)) ?_
          refine st _ (r_assign rfl) ?_
          refine st_nil ?_
          clear ha3
          refine n_block ?_
          refine c_then ?_
          refine c_region ?_
          refine st _ (r_move rfl) ?_
          refine st _ (r_subI (a := i) (b := 1) rfl rfl (by omega)) ?_
          refine st _ (r_assign rfl) ?_
          refine st_nil ?_
          refine c_then ?_
          refine next2 (x0 := ((v * 256) + x3.toNat)) (x1 := (i - 1)) (by omega) ⟨(fitI rfl (by first | rfl | omega)), (fitI rfl (by omega)), rfl, rfl, rfl, rfl, trivial⟩ ⟨Q2, tQ, sQ0, uQ, M, h0, (by omega), (by rw [i0_1]; have hx := leN_step (k := (n - 1 - i).toNat) hx3; rw [show (n - 1 - (i - 1)).toNat = (n - 1 - i).toNat + 1 by omega, show (a + (i - 1 + 1)).toNat = (a + i).toNat by omega, hx, show (a + i).toNat + 1 = (a + (i + 1)).toNat by omega]; omega), (by omega)⟩
        · skip
          first | (have h45n := of_decide_eq_false h45) | (have h45n := of_decide_eq_true (bnf h45)) | (have h45n := bnf h45) | (have h45n := h45)
          refine c_exit ?_
          refine x_then ?_
          refine x_then ?_
          refine x_hit ?_
          refine c_then ?_
          refine c_seq ?_
          refine c_region ?_
          refine st _ (r_move rfl) ?_
          refine st _ (r_assign rfl) ?_
          refine st _ (r_assign rfl) ?_
          refine st_nil ?_
          refine c_then ?_
          refine c_ret ?_
          exact retL (vs := [(.int .u64 ((v : Nat) : Int)), (.bool true)]) trivial rfl ⟨rfl, rfl, trivial⟩ rfl ⟨v, true, rfl, M, (by first | assumption | omega | simp_all), (by rw [getF, if_pos (by omega), i0_1, show i = -1 by omega]; simp)⟩
end Go.Proofs.Ytimakajeggeebaa
