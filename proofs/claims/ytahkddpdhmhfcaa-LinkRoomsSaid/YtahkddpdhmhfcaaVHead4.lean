/- Walks of functions: what each call returns, over data. -/
import Derived.Test.YtahkddpdhmhfcaaRows
import Derived.Test.YtahkddpdhmhfcaaVHead3
namespace Go.Proofs.Ytahkddpdhmhfcaa
open Go Go.Wk Go.RowKit
set_option linter.unusedVariables false
set_option linter.unusedSimpArgs false
attribute [local irreducible] wpList wpQuiet wpStill wpMix Code.wp Calls bodyPost
theorem fn11 : isFn Try.prog 11 = true := by kernel_rfl
theorem fn9 : isFn Try.prog 9 = true := by kernel_rfl
theorem pl45 : bplace Try.prog 45 = some [(0, 1), (1, 91)] := by kernel_rfl
theorem z45 : zcells Try.prog 45 = some [.slice none 0 0, .int .u32 0, .int .u32 0, .int .i64 0, .int .u8 0, .int .u8 0, .int .u8 0, .int .u8 0, .int .u8 0, .int .u8 0, .int .u8 0, .int .u8 0, .int .u8 0, .int .u8 0, .int .u8 0, .int .u8 0, .int .u8 0, .int .u8 0, .int .u8 0, .int .u8 0, .int .u8 0, .int .u8 0, .int .u8 0, .int .u8 0, .int .u8 0, .int .u8 0, .int .u8 0, .int .u8 0, .int .u8 0, .int .u8 0, .int .u8 0, .int .u8 0, .int .u8 0, .int .u8 0, .int .u8 0, .int .u8 0, .int .u8 0, .int .u8 0, .int .u8 0, .int .u8 0, .int .u8 0, .int .u8 0, .int .u8 0, .int .u8 0, .int .u8 0, .int .u8 0, .int .u8 0, .int .u8 0, .int .u8 0, .int .u8 0, .int .u8 0, .int .u8 0, .int .u8 0, .int .u8 0, .int .u8 0, .int .u8 0, .int .u8 0, .int .u8 0, .int .u8 0, .int .u8 0, .int .u8 0, .int .u8 0, .int .u8 0, .int .u8 0, .int .u8 0, .int .u8 0, .int .u8 0, .int .u8 0, .int .u64 0, .int .u64 0, .int .u64 0, .int .u64 0, .int .u64 0, .int .u64 0, .int .u64 0, .int .u64 0, .int .u64 0, .int .u64 0, .int .u64 0, .int .u64 0, .int .u64 0, .int .u64 0, .int .u64 0, .int .u64 0, .int .u64 0, .int .u64 0, .int .u64 0, .int .u64 0, .int .u64 0, .int .u32 0, .int .u32 0, .int .u64 0] := by kernel_rfl

set_option maxRecDepth 100000 in
theorem aOpen_any {w : World} {Q : Nat → Prop} (uQ : Up w Q) {v0 : Value} {b : List UInt8} (h0 : Ls tB8 w Q v0 b) (p0 : b.length ≤ 140737488355328) :
    Calls Try.prog 6 #[v0] w fun en w' => ∃ u0 : Value, ∃ r0 : Option (PView), ∃ r1 : Nat, en = .returned (.tuple #[u0, (.int .i64 ((r1 : Nat) : Int))]) ∧ Md [] w w' ∧ Po tPView 45 w' Q u0 r0 ∧ r1 < 9223372036854775808 ∧ openF b = (r0, r1) := by
  have L0 := h0.len63
  have M := Md.refl [] w
  have uQ0 := uQ
  have tQ : ∀ b, Q b → Q b := fun _ h => h
  have sQ0 : ∀ b, Q b → b < w.heap.size → Q b := fun _ h _ => h
  refine enter (n := 28) Try.func6 rfl rfl rfl ?_
  intro B
  refine c_seq ?_
  refine c_region ?_
  refine st _ (r_assign rfl) ?_
  refine st _ (r_assign rfl) ?_
  refine st_nil ?_
  refine c_then ?_
  refine c_seq ?_
  refine c_region ?_
  refine st _ (r_move rfl) ?_
  refine st_call fn9 rfl (hRead_any uQ h0) ?_
  rintro en w1 ⟨x1_0, x1_1, rfl, hm, q1_0_0, q1_1, hF1⟩; refine ⟨_, rfl, ?_⟩
  replace h0 := h0.md0 hm
  replace uQ := uQ.md hm
  replace M := M.step0 hm
  refine st _ (r_move rfl) ?_
  refine st _ (r_extract rfl rfl) ?_
  refine st _ (r_extract rfl rfl) ?_
  refine st_alloc z38 ?_
  intro ba4 w2 ga4 la4 hm ha4
  obtain ⟨Q3, sQ, sT, n_ha4, uQ2⟩ := exQ uQ ga4 la4 hm
  replace h0 := h0.sub sQ
  replace tQ := fun b hb => tQ b (sT b hb)
  replace sQ0 := fun b hb hl => sQ b (sQ0 b hb hl) (Nat.lt_of_lt_of_le hl M.size)
  replace ga4 := Nat.le_trans M.size ga4
  replace h0 := h0.md0 hm
  replace uQ := uQ.md hm
  replace M := M.step0 hm
  clear uQ; have uQ := uQ2; clear uQ2 sQ sT
  have p_ha4 : Fsh [] w ba4 := .inr ga4
  replace ha4 : Blk _ _ (PHead.cells (({ compat := 0, incompat := 0, state := 0, file := idZ, machine := idZ, boot := idZ, seq := idZ, n := (List.replicate 21 0), tailArray := 0, tailItems := 0, tailEntry := 0 } : PHead))) _ := ha4
  have okz4 : PHead.ok (({ compat := 0, incompat := 0, state := 0, file := idZ, machine := idZ, boot := idZ, seq := idZ, n := (List.replicate 21 0), tailArray := 0, tailItems := 0, tailEntry := 0 } : PHead)) := (by first | assumption | exact ⟨(by first | omega | (simp <;> omega) | simp_all), (by first | omega | (simp <;> omega) | simp_all), (by first | omega | (simp <;> omega) | simp_all), (by first | assumption | rfl | simp_all), (by first | assumption | rfl | simp_all), (by first | assumption | rfl | simp_all), (by first | assumption | rfl | simp_all), (by first | assumption | exact nums_zero _ | exact nums_set (by assumption) (by omega) | simp_all), (by first | omega | (simp <;> omega) | simp_all), (by first | omega | (simp <;> omega) | simp_all), (by first | omega | (simp <;> omega) | simp_all)⟩)
  refine st_storeAgg (us := (PHead.cells x1_0)) rfl rfl (by exact agg38) (by first | exact fun u hu => one_cells (PHead.one ) u hu | exact fun u hu => one_cells rfl u hu) ha4 (Nat.le_of_ble_eq_true rfl) ?_
  have ha40 := ha4; clear ha4; intro w5 hm ha4
  have hS : ∀ b ∈ [ba4], ¬ Q3 b := by intro b hb; simp at hb; subst hb; exact n_ha4
  replace h0 := h0.md hm hS
  replace uQ := uQ.md hm
  replace M := M.step hm (all_cons p_ha4 all_nil)
  clear ha40 hS
  replace ha4 : Blk _ _ (PHead.cells x1_0) _ := ha4
  refine st _ (r_assign rfl) ?_
  refine st_nil ?_
  refine c_then ?_
  refine c_seq ?_
  refine c_seq ?_
  refine c_region ?_
  refine st _ (r_move rfl) ?_
  refine st _ (r_neN (a := x1_1) (b := 0) rfl rfl) ?_
  refine st_nil ?_
  refine c_then ?_
  refine c_if rfl (fun h14 => ?_) (fun h14 => ?_)
  · skip
    first | (have h14n := of_decide_eq_true h14) | (have h14n := of_decide_eq_false (bnt h14)) | (have h14n := bnt h14) | (have h14n := h14)
    refine c_seq ?_
    refine c_region ?_
    refine st _ (r_move rfl) ?_
    refine st _ (r_assign rfl) ?_
    refine st _ (r_assign rfl) ?_
    refine st_nil ?_
    refine c_then ?_
    refine c_ret ?_
    refine r_then ?_
    exact retL (vs := [(.pointer none), (.int .i64 ((x1_1 : Nat) : Int))]) trivial rfl ⟨rfl, rfl, trivial⟩ rfl ⟨_, none, x1_1, rfl, M, rfl, (by first | assumption | omega | simp_all), (by rw [openF, hF1, if_pos h14n])⟩
  · skip
    first | (have h14n := of_decide_eq_false h14) | (have h14n := of_decide_eq_true (bnf h14)) | (have h14n := bnf h14) | (have h14n := h14)
    refine c_skip ?_
    refine c_then ?_
    refine c_seq ?_
    refine c_region ?_
    refine st _ (r_loadPart (PHead.cells x1_0) rfl (by exact agg38) ha4 rfl) ?_
    refine st_call fn10 rfl (hEnd_any uQ x1_0 q1_0_0) ?_
    rintro en w6 ⟨x6_0, x6_1, rfl, hm, q6_0, hF6⟩; refine ⟨_, rfl, ?_⟩
    replace h0 := h0.md0 hm
    replace ha4 := ha4.md0 hm
    replace uQ := uQ.md hm
    replace M := M.step0 hm
    refine st _ (r_move rfl) ?_
    refine st _ (r_extract rfl rfl) ?_
    refine st _ (r_extract rfl rfl) ?_
    refine st _ (r_assign rfl) ?_
    refine st _ (r_assign rfl) ?_
    refine st_nil ?_
    refine c_then ?_
    refine c_seq ?_
    have h0_q := h0
    have ha4_q := ha4
    refine c_mixT [(0, true), (1, true), (2, true), (4, true), (3, false)] [5, 6, 7, 8] (fun w' => Md [] w6 w') mixed (by kernel_rfl) ?_
    intro w7 hd0; refine ⟨hd0.mono (by simp), ?_⟩; have MC := hd0.mono (T := []) (by simp)
    have rf : readF b = (x1_0, 0) := by rw [hF1]; simp only [Prod.mk.injEq, true_and]; omega
    have en := read_end rf hF6
    refine Go.Wk.m _ (fun w' hc => r_move rfl) ?_
    refine Go.Wk.m _ (fun w' hc => r_move rfl) ?_
    refine Go.Wk.m _ (fun w' hc => r_sliceZ 1 0 x6_0 u28 el5 rfl h0.shp (by omega) (by omega) rfl ⟨_, rfl⟩) ?_
    have hs8 := h0.head (hi := x6_0) (by omega)
    refine Go.Wk.m _ (fun w' hc => r_loadPart (PHead.cells x1_0) rfl (by exact agg38) (ha4_q.md0 hc) rfl) ?_
    replace h0 := h0.md0 hd0
    replace ha4 := ha4.md0 hd0
    replace hs8 := hs8.md0 hd0
    replace uQ := uQ.md hd0
    replace M := M.step0 hd0
    refine m_e ?_ rfl
    refine st_call fn11 rfl (bClone_any_ls uQ hs8 (by first | omega | (simp <;> omega) | (simp at * <;> omega))) ?_
    rintro en w9 ⟨v9_0, x9_0, rfl, hm, h9_0, hF9⟩; refine ⟨_, rfl, ?_⟩
    replace h0 := h0.md0 hm
    replace ha4 := ha4.md0 hm
    replace hs8 := hs8.md0 hm
    replace uQ := uQ.md hm
    replace M := M.step0 hm
    replace MC := MC.step0 hm
    refine st_nil ⟨rfl, MC, ?_⟩
    refine m_nil ?_
    clear ha4_q h0_q
    clear MC
    refine st _ (r_buildG (us := [[v9_0], (PHead.cells x1_0)]) (cs := (PView.cells (({ b := x9_0, h := x1_0 } : PView)) v9_0)) [(0, 0, 1), (1, 1, 91)] z45 pl45 rfl rfl ⟨(cells_one h9_0.oneCell), rfl, trivial⟩ ⟨rfl, rfl, trivial⟩ rfl rfl) ?_
    refine st_box (cs := (PView.cells (({ b := x9_0, h := x1_0 } : PView)) v9_0)) rfl rfl ?_
    intro ba27 w10 ga27 la27 hm ha27
    have eha4a27 : ba4 ≠ ba27 := by have := ha4.lt; omega
    obtain ⟨Q11, sQ, sT, n_ha27, uQ2⟩ := exQ uQ ga27 la27 hm
    replace h0 := h0.sub sQ
    replace n_ha4 := fun hh => n_ha4 (sT _ hh)
    replace hs8 := hs8.sub sQ
    replace h9_0 := h9_0.sub sQ
    replace tQ := fun b hb => tQ b (sT b hb)
    replace sQ0 := fun b hb hl => sQ b (sQ0 b hb hl) (Nat.lt_of_lt_of_le hl M.size)
    replace ga27 := Nat.le_trans M.size ga27
    replace h0 := h0.md0 hm
    replace ha4 := ha4.md0 hm
    replace hs8 := hs8.md0 hm
    replace h9_0 := h9_0.md0 hm
    replace uQ := uQ.md hm
    replace M := M.step0 hm
    clear uQ; have uQ := uQ2; clear uQ2 sQ sT
    have p_ha27 : Fsh [] w ba27 := .inr ga27
    refine st _ (r_assign rfl) ?_
    refine st _ (r_assign rfl) ?_
    refine st_nil ?_
    refine c_then ?_
    refine c_ret ?_
    exact retL (vs := [(.pointer (some ⟨ba27, 0, none⟩)), (.int .i64 ((0 : Nat) : Int))]) trivial rfl ⟨rfl, rfl, trivial⟩ rfl ⟨_, (some (({ b := x9_0, h := x1_0 } : PView))), 0, rfl, M, ⟨_, _, rfl, uQ0 _ ga27, ha27, tPView_mk (by first | assumption | exact (show PHead.ok ((({ b := x9_0, h := x1_0 } : PView)).h) from (by first | assumption | exact ⟨(by first | omega | (simp <;> omega) | simp_all), (by first | omega | (simp <;> omega) | simp_all), (by first | omega | (simp <;> omega) | simp_all), (by first | assumption | rfl | simp_all), (by first | assumption | rfl | simp_all), (by first | assumption | rfl | simp_all), (by first | assumption | rfl | simp_all), (by first | assumption | exact nums_zero _ | exact nums_set (by assumption) (by omega) | simp_all), (by first | omega | (simp <;> omega) | simp_all), (by first | omega | (simp <;> omega) | simp_all), (by first | omega | (simp <;> omega) | simp_all)⟩))) (h9_0.sub (fun b hb _ => tQ b hb))⟩, (by first | assumption | omega | simp_all), (by rw [openF, hF1, if_neg h14n, hF6]; simp_all)⟩
end Go.Proofs.Ytahkddpdhmhfcaa
