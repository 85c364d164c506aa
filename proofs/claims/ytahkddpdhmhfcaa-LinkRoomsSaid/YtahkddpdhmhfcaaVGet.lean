/- Walks of functions: what each call returns, over data. -/
import Derived.Test.YtahkddpdhmhfcaaRows
import Derived.Test.YtahkddpdhmhfcaaHeadR
import Derived.Test.YtahkddpdhmhfcaaVLe
namespace Go.Proofs.Ytahkddpdhmhfcaa
open Go Go.Wk Go.RowKit
set_option linter.unusedVariables false
set_option linter.unusedSimpArgs false
attribute [local irreducible] wpList wpQuiet wpStill wpMix Code.wp Calls bodyPost
theorem el5 : elemIs Try.prog 5 1 = true := by kernel_rfl
theorem fn56 : isFn Try.prog 56 = true := by kernel_rfl
theorem one5 : isOne Try.prog 5 = true := by kernel_rfl
theorem u28 : Try.prog.underlying 28 = some (.slice 5) := by kernel_rfl
theorem u36 : Try.prog.underlying 36 = some (.int .u64) := by kernel_rfl
theorem u5 : Try.prog.underlying 5 = some (.int .u8) := by kernel_rfl

theorem leGet_any {w : World} {Q : Nat → Prop} (uQ : Up w Q) {v0 : Value} {l : List UInt8} (h0 : Ls tB8 w Q v0 l) (a : Int) (a1 : (-9223372036854775808 ≤ a ∧ a < 9223372036854775808)) (n : Int) (a2 : (-9223372036854775808 ≤ n ∧ n < 9223372036854775808)) :
    Calls Try.prog 33 #[v0, (.int .i64 (a : Int)), (.int .i64 (n : Int))] w fun en w' => ∃ r0 : Nat, ∃ r1 : Bool, en = .returned (.tuple #[(.int .u64 ((r0 : Nat) : Int)), (.bool r1)]) ∧ Md [] w w' ∧ r0 < 18446744073709551616 ∧ getF l a n = (r0, r1) := by
  have L0 := h0.len63
  have M := Md.refl [] w
  have uQ0 := uQ
  have tQ : ∀ b, Q b → Q b := fun _ h => h
  have sQ0 : ∀ b, Q b → b < w.heap.size → Q b := fun _ h _ => h
  refine enter (n := 42) Try.func33 rfl rfl rfl ?_
  intro B
  refine c_seq ?_
  refine c_region ?_
  refine st _ (r_assign rfl) ?_
  refine st _ (r_assign rfl) ?_
  refine st_nil ?_
  refine c_then ?_
  refine c_seq ?_
  refine c_seq ?_
  refine c_region ?_
  refine st _ (r_move rfl) ?_
  refine st_call fn56 rfl (leSize_any uQ (n) (by omega)) ?_
  rintro en w1 ⟨x1_0, rfl, hm, hF1⟩; refine ⟨_, rfl, ?_⟩
  replace h0 := h0.md0 hm
  replace uQ := uQ.md hm
  replace M := M.step0 hm
  refine st _ (r_not rfl) ?_
  refine st _ (r_move rfl) ?_
  refine part_n (t := 13) rfl (fun h13 => ?_) (fun h13 => ?_)
  · skip
    first | (have h13n := of_decide_eq_true h13) | (have h13n := of_decide_eq_false (bnt h13)) | (have h13n := bnt h13) | (have h13n := h13)
    refine st_skip rfl rfl rfl h13 ?_
    refine st_skip rfl rfl rfl h13 ?_
    refine st _ (r_pick_t rfl h13 rfl) ?_
    refine st _ (r_move rfl) ?_
    refine st_skip rfl rfl rfl rfl ?_
    refine st_skip rfl rfl rfl rfl ?_
    refine st_skip rfl rfl rfl rfl ?_
    refine st_skip rfl rfl rfl rfl ?_
    refine st_skip rfl rfl rfl rfl ?_
    refine st_skip rfl rfl rfl rfl ?_
    refine st _ (r_pick_t rfl rfl rfl) ?_
    refine st_nil ?_
    refine c_then ?_
    refine c_if_t rfl rfl ?_
    refine c_seq ?_
    refine c_region ?_
    refine st _ (r_assign rfl) ?_
    refine st _ (r_assign rfl) ?_
    refine st_nil ?_
    refine c_then ?_
    refine c_ret ?_
    refine r_then ?_
    exact retL (vs := [(.int .u64 ((0 : Nat) : Int)), (.bool false)]) trivial rfl ⟨rfl, rfl, trivial⟩ rfl ⟨0, false, rfl, M, (by first | assumption | omega | simp_all), (getF_no (by rintro ⟨h1, h2, h3⟩; first | omega | simp_all))⟩
  · skip
    first | (have h13n := of_decide_eq_false h13) | (have h13n := of_decide_eq_true (bnf h13)) | (have h13n := bnf h13) | (have h13n := h13)
    refine st_g _ rfl rfl rfl h13 (r_move rfl) ?_
    refine st_g _ rfl rfl rfl h13 (r_lt (a := a) (b := 0) rfl rfl) ?_
    refine st _ (r_pick_f rfl h13 rfl) ?_
    refine st _ (r_move rfl) ?_
    refine part_n (t := 17) rfl (fun h17 => ?_) (fun h17 => ?_)
    · skip
      first | (have h17n := of_decide_eq_true h17) | (have h17n := of_decide_eq_false (bnt h17)) | (have h17n := bnt h17) | (have h17n := h17)
      refine st_skip rfl rfl rfl h17 ?_
      refine st_skip rfl rfl rfl h17 ?_
      refine st_skip rfl rfl rfl h17 ?_
      refine st_skip rfl rfl rfl h17 ?_
      refine st_skip rfl rfl rfl h17 ?_
      refine st_skip rfl rfl rfl h17 ?_
      refine st _ (r_pick_t rfl h17 rfl) ?_
      refine st_nil ?_
      refine c_then ?_
      refine c_if_t rfl rfl ?_
      refine c_seq ?_
      refine c_region ?_
      refine st _ (r_assign rfl) ?_
      refine st _ (r_assign rfl) ?_
      refine st_nil ?_
      refine c_then ?_
      refine c_ret ?_
      refine r_then ?_
      exact retL (vs := [(.int .u64 ((0 : Nat) : Int)), (.bool false)]) trivial rfl ⟨rfl, rfl, trivial⟩ rfl ⟨0, false, rfl, M, (by first | assumption | omega | simp_all), (getF_no (by rintro ⟨h1, h2, h3⟩; first | omega | simp_all))⟩
    · skip
      first | (have h17n := of_decide_eq_false h17) | (have h17n := of_decide_eq_true (bnf h17)) | (have h17n := bnf h17) | (have h17n := h17)
      have hs := sizeOk_le (n := n) (by simp_all)
      refine st_g _ rfl rfl rfl h17 (r_move rfl) ?_
      refine st_g _ rfl rfl rfl h17 (r_move rfl) ?_
      refine st_g _ rfl rfl rfl h17 (r_len rfl u28 h0.shp) ?_
      refine st_g _ rfl rfl rfl h17 (r_move rfl) ?_
      refine st_g _ rfl rfl rfl h17 (r_subI (a := ((l.length : Nat) : Int)) (b := n) rfl rfl (by omega)) ?_
      refine st_g _ rfl rfl rfl h17 (r_gt (a := a) (b := ((l.length : Nat) : Int) - n) rfl rfl) ?_
      refine st _ (r_pick_f rfl h17 rfl) ?_
      refine st_nil ?_
      refine c_then ?_
      refine c_if rfl (fun h24 => ?_) (fun h24 => ?_)
      · skip
        first | (have h24n := of_decide_eq_true h24) | (have h24n := of_decide_eq_false (bnt h24)) | (have h24n := bnt h24) | (have h24n := h24)
        refine c_seq ?_
        refine c_region ?_
        refine st _ (r_assign rfl) ?_
        refine st _ (r_assign rfl) ?_
        refine st_nil ?_
        refine c_then ?_
        refine c_ret ?_
        refine r_then ?_
        exact retL (vs := [(.int .u64 ((0 : Nat) : Int)), (.bool false)]) trivial rfl ⟨rfl, rfl, trivial⟩ rfl ⟨0, false, rfl, M, (by first | assumption | omega | simp_all), (getF_no (by rintro ⟨h1, h2, h3⟩; first | omega | simp_all))⟩
      · skip
        first | (have h24n := of_decide_eq_false h24) | (have h24n := of_decide_eq_true (bnf h24)) | (have h24n := bnf h24) | (have h24n := h24)
        refine c_skip ?_
        refine c_then ?_
        refine c_seq ?_
        have j24 : sizeOk n = true ∧ 0 ≤ a ∧ a + n ≤ l.length := ⟨by simp_all, by omega, by omega⟩
        have hs := sizeOk_le j24.1
        refine c_region ?_
        refine st _ (r_assign rfl) ?_
        refine st_nil ?_
        refine c_then ?_
        refine c_seq ?_
        refine c_seq ?_
        refine c_region ?_
        refine st _ (r_move rfl) ?_
        refine st _ (r_subI (a := n) (b := 1) rfl rfl (by omega)) ?_
        refine st _ (r_assign rfl) ?_
        refine st_nil ?_
        refine c_then ?_
        refine c_block ?_
        
        refine loop2 (fun (v : Nat) (i : Int) => [(8, (.int .u64 ((v : Nat) : Int))), (9, (.int .i64 (i : Int))), (0, v0), (1, (.int .i64 (a : Int))), (6, (.int .u64 ((0 : Nat) : Int))), (7, (.bool false))]) (fun (v : Nat) (i : Int) w' => ∃ Q' : Nat → Prop, (∀ b, Q' b → Q b) ∧ (∀ b, Q b → b < w.heap.size → Q' b) ∧ Up w' Q' ∧ Md [] w w' ∧ Ls tB8 w' Q' v0 l ∧ (-1 ≤ i ∧ i < n) ∧ v = leN ((l.drop (a + (i + 1)).toNat).take (n - 1 - i).toNat) ∧ v < 18446744073709551616) (fun (v : Nat) (i : Int) => (i + 1).toNat) (x0 := 0) (x1 := (n - 1)) ?_ ?_ ?_
        · exact ⟨rfl, rfl, rfl, rfl, rfl, rfl, trivial⟩
        · exact ⟨Q, tQ, sQ0, uQ, M, h0, (by omega), (by simp [show n - 1 - (n - 1) = 0 by omega, leN]), (by omega)⟩
        · clear M uQ tQ sQ0 h0
          rintro v i B w2 ⟨Q3, tQ, sQ0, uQ, M, h0, i0_0, i0_1, i0_2⟩
          refine c_seq ?_
          refine c_seq ?_
          refine c_region ?_
          refine st _ (r_move rfl) ?_
          refine st _ (r_ge (a := i) (b := 0) rfl rfl) ?_
          refine st_nil ?_
          refine c_then ?_
          refine c_if rfl (fun h28 => ?_) (fun h28 => ?_)
          · skip
            first | (have h28n := of_decide_eq_true h28) | (have h28n := of_decide_eq_false (bnt h28)) | (have h28n := bnt h28) | (have h28n := h28)
            have hv := leN_lt_of (l := (l.drop (a + (i + 1)).toNat).take (n - 1 - i).toNat) (k := 7) (by simp; omega)
            rw [← i0_1] at hv
            refine c_skip ?_
            refine c_then ?_
            refine c_seq ?_
            refine c_block ?_
            refine c_region ?_
            refine st _ (r_move rfl) ?_
            refine st _ (r_shlW (a := v) (b := 8) 18446744073709551616 rfl rfl 64 rfl rfl rfl (by omega)) ?_
            refine st _ (r_move rfl) ?_
            refine st _ (r_move rfl) ?_
            refine st _ (r_move rfl) ?_
            refine st _ (r_addI (a := a) (b := i) rfl rfl (by omega)) ?_
            refine st _ (r_indexZ (i := a + i) 1 rfl rfl u28 el5 h0.shp (by omega)) ?_
            obtain ⟨x4, hx4⟩ := getE (l := l) (i := (a + i).toNat) (by first | omega | (simp <;> omega))
            obtain ⟨c5, hr4, ha4⟩ := h0.get hx4
            obtain ⟨rfl, _⟩ := hr4
            have yx4 := UInt8.toNat_lt x4
            replace ha4 : At _ v0 (((a + i).toNat) * 1) [(b8 x4)] := ha4
            refine st _ ((r_loadE (kk := ((a + i).toNat) * 1) 0 rfl rfl one5 ha4 rfl).to (b := (b8 x4)) rfl) ?_
            refine st _ (r_convN (a := x4.toNat) 18446744073709551616 rfl (by rw [u5]; rfl) u36 rfl (Nat.lt_of_lt_of_le (UInt8.toNat_lt _) (by decide))) ?_
            refine st _ (r_orN (a := (v * 2 ^ 8 % 18446744073709551616)) (b := x4.toNat) 18446744073709551616 rfl rfl rfl rfl (by omega)) ?_
            refine st _ (r_assign rfl) ?_
            refine st_nil ?_
            clear ha4
            refine n_block ?_
            refine c_then ?_
            refine c_region ?_
            refine st _ (r_move rfl) ?_
            refine st _ (r_subI (a := i) (b := 1) rfl rfl (by omega)) ?_
            refine st _ (r_assign rfl) ?_
            refine st_nil ?_
            refine c_then ?_
            refine next2 (x0 := ((v * 2 ^ 8 % 18446744073709551616) ||| x4.toNat)) (x1 := (i - 1)) (by omega) ⟨(fitI rfl (by first | rfl | omega)), (fitI rfl (by omega)), rfl, rfl, rfl, rfl, trivial⟩ ⟨Q3, tQ, sQ0, uQ, M, h0, (by omega), (by rw [shl_or (by omega), i0_1]; have hx := leN_step (k := (n - 1 - i).toNat) hx4; rw [show (n - 1 - (i - 1)).toNat = (n - 1 - i).toNat + 1 by omega, show (a + (i - 1 + 1)).toNat = (a + i).toNat by omega, hx, show (a + i).toNat + 1 = (a + (i + 1)).toNat by omega]), (by rw [shl_or (by omega)]; have := UInt8.toNat_lt x4; omega)⟩
          · skip
            first | (have h28n := of_decide_eq_false h28) | (have h28n := of_decide_eq_true (bnf h28)) | (have h28n := bnf h28) | (have h28n := h28)
            refine c_exit ?_
            refine x_then ?_
            refine x_then ?_
            refine x_hit ?_
            refine c_then ?_
            refine c_seq ?_
            refine c_region ?_
            refine st _ (r_move rfl) ?_
            refine st _ (r_assign rfl) ?_
            refine st _ (r_assign rfl) ?_
            refine st_nil ?_
            refine c_then ?_
            refine c_ret ?_
            exact retL (vs := [(.int .u64 ((v : Nat) : Int)), (.bool true)]) trivial rfl ⟨rfl, rfl, trivial⟩ rfl ⟨v, true, rfl, M, (by first | assumption | omega | simp_all), (by rw [getF, if_pos (by omega), i0_1, show i = -1 by omega]; simp)⟩
end Go.Proofs.Ytahkddpdhmhfcaa
