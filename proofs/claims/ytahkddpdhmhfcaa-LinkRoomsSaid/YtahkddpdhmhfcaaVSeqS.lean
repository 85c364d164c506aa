/- Walks of functions: what each call returns, over data. -/
import Derived.Test.YtahkddpdhmhfcaaRows
import Derived.Test.YtahkddpdhmhfcaaSeqP
import Derived.Test.YtahkddpdhmhfcaaVRefS
namespace Go.Proofs.Ytahkddpdhmhfcaa
open Go Go.Wk Go.RowKit
set_option linter.unusedVariables false
set_option linter.unusedSimpArgs false
attribute [local irreducible] wpList wpQuiet wpStill wpMix Code.wp Calls bodyPost
theorem agg35 : isAggN Try.prog 35 16 = true := by kernel_rfl
theorem agg64 : isAggN Try.prog 64 52 = true := by kernel_rfl
theorem el3 : elemIs Try.prog 3 1 = true := by kernel_rfl
theorem fn23 : isFn Try.prog 23 = true := by kernel_rfl
theorem fn36 : isFn Try.prog 36 = true := by kernel_rfl
theorem fn38 : isFn Try.prog 38 = true := by kernel_rfl
theorem off53_0 : fieldOff Try.prog 53 0 = some 0 := by kernel_rfl
theorem off53_1 : fieldOff Try.prog 53 1 = some 1 := by kernel_rfl
theorem one46 : isOne Try.prog 46 = true := by kernel_rfl
theorem one5 : isOne Try.prog 5 = true := by kernel_rfl
theorem pl64 : bplace Try.prog 64 = some [(0, 16), (16, 16), (32, 16), (48, 1), (49, 1), (50, 1), (51, 1)] := by kernel_rfl
theorem u46 : Try.prog.underlying 46 = some (.slice 3) := by kernel_rfl
theorem z35 : zcells Try.prog 35 = some [.int .u8 0, .int .u8 0, .int .u8 0, .int .u8 0, .int .u8 0, .int .u8 0, .int .u8 0, .int .u8 0, .int .u8 0, .int .u8 0, .int .u8 0, .int .u8 0, .int .u8 0, .int .u8 0, .int .u8 0, .int .u8 0] := by kernel_rfl
theorem z64 : zcells Try.prog 64 = some [.int .u8 0, .int .u8 0, .int .u8 0, .int .u8 0, .int .u8 0, .int .u8 0, .int .u8 0, .int .u8 0, .int .u8 0, .int .u8 0, .int .u8 0, .int .u8 0, .int .u8 0, .int .u8 0, .int .u8 0, .int .u8 0, .int .u8 0, .int .u8 0, .int .u8 0, .int .u8 0, .int .u8 0, .int .u8 0, .int .u8 0, .int .u8 0, .int .u8 0, .int .u8 0, .int .u8 0, .int .u8 0, .int .u8 0, .int .u8 0, .int .u8 0, .int .u8 0, .int .u8 0, .int .u8 0, .int .u8 0, .int .u8 0, .int .u8 0, .int .u8 0, .int .u8 0, .int .u8 0, .int .u8 0, .int .u8 0, .int .u8 0, .int .u8 0, .int .u8 0, .int .u8 0, .int .u8 0, .int .u8 0, .int .i64 0, .int .i64 0, .int .i64 0, .bool false] := by kernel_rfl

theorem kNumber_any {w : World} {Q : Nat → Prop} (uQ : Up w Q) (k : Int) (a0 : (-9223372036854775808 ≤ k ∧ k < 9223372036854775808)) (n : Nat) (a1 : n < 9223372036854775808) (p0 : n ≤ 1000000) :
    Calls Try.prog 38 #[(.int .i64 (k : Int)), (.int .i64 ((n : Nat) : Int))] w fun en w' => ∃ r0 : Nat, en = .returned (.int .i64 ((r0 : Nat) : Int)) ∧ Md [] w w' ∧ r0 < 9223372036854775808 ∧ numF k n = r0 := by
  have M := Md.refl [] w
  have uQ0 := uQ
  have tQ : ∀ b, Q b → Q b := fun _ h => h
  have sQ0 : ∀ b, Q b → b < w.heap.size → Q b := fun _ h _ => h
  refine enter (n := 14) Try.func38 rfl rfl rfl ?_
  intro B
  refine c_seq ?_
  refine c_region ?_
  refine st _ (r_assign rfl) ?_
  refine st_nil ?_
  refine c_then ?_
  refine c_seq ?_
  refine c_seq ?_
  refine c_region ?_
  refine st _ (r_move rfl) ?_
  refine st _ (r_ltN (a := n) (b := 1) rfl rfl) ?_
  refine st_nil ?_
  refine c_then ?_
  refine c_if rfl (fun h6 => ?_) (fun h6 => ?_)
  · skip
    first | (have h6n := of_decide_eq_true h6) | (have h6n := of_decide_eq_false (bnt h6)) | (have h6n := bnt h6) | (have h6n := h6)
    refine c_seq ?_
    refine c_region ?_
    refine st _ (r_assign rfl) ?_
    refine st_nil ?_
    refine c_then ?_
    refine c_ret ?_
    refine r_then ?_
    exact ret1L (v := (.int .i64 ((0 : Nat) : Int))) trivial rfl ⟨rfl, trivial⟩ ⟨0, rfl, M, (by first | assumption | omega | simp_all), (by rw [numF] <;> simp (disch := first | omega | assumption | (simp; done) | fail) only [if_pos, if_neg, Option.getD_some, Option.some.injEq, reduceIte, Bool.false_eq_true, Bool.true_eq_false, decide_true, decide_false, not_true_eq_false, not_false_eq_true, h6n])⟩
  · skip
    first | (have h6n := of_decide_eq_false h6) | (have h6n := of_decide_eq_true (bnf h6)) | (have h6n := bnf h6) | (have h6n := h6)
    refine c_skip ?_
    refine c_then ?_
    refine c_seq ?_
    refine c_region ?_
    refine st _ (r_move rfl) ?_
    refine st _ (r_move rfl) ?_
    refine st _ (r_remZ (a := k) (b := ((n : Nat) : Int)) rfl rfl (by omega)) ?_
    refine st _ (r_move rfl) ?_
    have hg := num_ge (k := k) h6n
    refine st _ (r_addI (a := k.tmod (((n : Nat) : Int))) (b := ((n : Nat) : Int)) rfl rfl (by omega)) ?_
    refine st _ (r_move rfl) ?_
    refine st _ (((r_remZ (a := k.tmod (((n : Nat) : Int)) + ((n : Nat) : Int)) (b := ((n : Nat) : Int)) rfl rfl (by omega)).castI (Int.toNat_of_nonneg (Int.tmod_nonneg _ (by omega))).symm)) ?_
    have hq := Int.tmod_lt_of_pos (k.tmod (n : Int) + (n : Int)) (show (0 : Int) < n by omega)
    refine st _ (r_assign rfl) ?_
    refine st_nil ?_
    refine c_then ?_
    refine c_ret ?_
    exact ret1L (v := (.int .i64 ((((k.tmod (((n : Nat) : Int)) + ((n : Nat) : Int)).tmod (((n : Nat) : Int))).toNat : Nat) : Int))) trivial rfl ⟨rfl, trivial⟩ ⟨((k.tmod (((n : Nat) : Int)) + ((n : Nat) : Int)).tmod (((n : Nat) : Int))).toNat, rfl, M, (by first | assumption | omega | simp_all), (by rw [numF] <;> simp (disch := first | omega | assumption | (simp; done) | fail) only [if_pos, if_neg, Option.getD_some, Option.some.injEq, reduceIte, Bool.false_eq_true, Bool.true_eq_false, decide_true, decide_false, not_true_eq_false, not_false_eq_true, h6n])⟩
theorem kN_any {w : World} {Q : Nat → Prop} (uQ : Up w Q) {b0 : Nat} {v0_0 : Value} (s : Sq) (h0 : Blk w b0 (Sq.cells s v0_0) 53) (n0 : ¬ Q b0) (a0_0 : Sq.ok s) (a0_1 : Ls tInt w Q v0_0 s.l) (n : Nat) (a1 : n < 9223372036854775808) (p0 : n ≤ 1000000) :
    Calls Try.prog 23 #[.pointer (some ⟨b0, 0, none⟩), (.int .i64 ((n : Nat) : Int))] w fun en w' => ∃ r0 : Nat, ∃ m0 : Sq, ∃ u50_0 : Value, en = .returned (.int .i64 ((r0 : Nat) : Int)) ∧ Md [b0] w w' ∧ r0 < 9223372036854775808 ∧ Blk w' b0 (Sq.cells m0 u50_0) 53 ∧ ¬ Q b0 ∧ Sq.ok m0 ∧ Ls tInt w' Q u50_0 m0.l ∧ s.num n = (r0, m0) := by
  have L0 := a0_1.len63
  have n_h0 := n0
  have p_h0 : Fsh [b0] w b0 := .inl (by simp)
  have M := Md.refl [b0] w
  have uQ0 := uQ
  have tQ : ∀ b, Q b → Q b := fun _ h => h
  have sQ0 : ∀ b, Q b → b < w.heap.size → Q b := fun _ h _ => h
  refine enter (n := 35) Try.func23 rfl rfl rfl ?_
  intro B
  refine c_seq ?_
  refine c_region ?_
  refine st _ (r_assign rfl) ?_
  refine st_nil ?_
  refine c_then ?_
  refine c_seq ?_
  refine c_seq ?_
  have a0_1_q := a0_1
  have h0_q := h0
  refine c_mixT [(0, true), (1, true), (2, true), (3, true), (4, true), (5, true), (6, true), (7, true), (8, true)] [9] (fun w' => Md [] w w') mixed (by kernel_rfl) ?_
  intro w1 hd0; refine ⟨hd0.mono (by simp), ?_⟩; have MC := hd0.mono (T := []) (by simp)
  refine Go.Wk.m _ (fun w' hc => r_move rfl) ?_
  refine Go.Wk.m _ (fun w' hc => r_nil rfl) ?_
  refine Go.Wk.m _ (fun w' hc => r_field rfl off53_1) ?_
  refine Go.Wk.m _ (fun w' hc => (r_loadBlk rfl one3 (h0_q.md0 hc) rfl).to (b := (.int .i64 ((s.pos : Nat) : Int))) rfl) ?_
  have q2 : s.pos < 9223372036854775808 := a0_0
  refine Go.Wk.m _ (fun w' hc => r_move rfl) ?_
  refine Go.Wk.m _ (fun w' hc => r_nil rfl) ?_
  refine Go.Wk.m _ (fun w' hc => r_field rfl off53_0) ?_
  refine Go.Wk.m _ (fun w' hc => (r_loadBlk rfl one46 (h0_q.md0 hc) rfl).to (b := v0_0) rfl) ?_
  refine Go.Wk.m _ (fun w' hc => r_len rfl u46 a0_1.shp) ?_
  refine m_nil ?_
  replace a0_1 := a0_1.md0 hd0
  replace h0 := h0.md0 hd0
  replace uQ := uQ.md hd0
  replace M := M.step0 hd0
  clear h0_q a0_1_q
  clear MC
  refine st _ (r_geN (a := s.pos) (b := s.l.length) rfl rfl) ?_
  refine st_nil ?_
  refine c_then ?_
  refine c_if rfl (fun h14 => ?_) (fun h14 => ?_)
  · skip
    first | (have h14n := of_decide_eq_true h14) | (have h14n := of_decide_eq_false (bnt h14)) | (have h14n := bnt h14) | (have h14n := h14)
    refine c_seq ?_
    refine c_region ?_
    refine st _ (r_assign rfl) ?_
    refine st_nil ?_
    refine c_then ?_
    refine c_ret ?_
    refine r_then ?_
    exact ret1L (v := (.int .i64 ((0 : Nat) : Int))) trivial rfl ⟨rfl, trivial⟩ ⟨0, s, _, rfl, M, (by first | assumption | omega | simp_all), h0, n0, a0_0, (a0_1.sub (fun b hb _ => tQ b hb)), (by rw [Sq.num] <;> simp (disch := first | omega | assumption | (simp; done) | fail) only [if_pos, if_neg, Option.getD_some, Option.some.injEq, reduceIte, Bool.false_eq_true, Bool.true_eq_false, decide_true, decide_false, not_true_eq_false, not_false_eq_true, h14n])⟩
  · skip
    first | (have h14n := of_decide_eq_false h14) | (have h14n := of_decide_eq_true (bnf h14)) | (have h14n := bnf h14) | (have h14n := h14)
    refine c_skip ?_
    refine c_then ?_
    refine c_seq ?_
    refine c_region ?_
    refine st _ (r_move rfl) ?_
    refine st _ (r_nil rfl) ?_
    refine st _ (r_field rfl off53_1) ?_
    refine st _ ((r_loadBlk rfl one3 h0 rfl).to (b := (.int .i64 ((s.pos : Nat) : Int))) rfl) ?_
    refine st _ (r_addN (a := s.pos) (b := 1) 9223372036854775808 rfl rfl rfl (by omega)) ?_
    refine st _ (r_nil rfl) ?_
    refine st _ (r_field rfl off53_1) ?_
    refine st_store rfl rfl one3 rfl h0 (Nat.le_of_ble_eq_true rfl) ?_
    have h00 := h0; clear h0; intro w3 hm h0
    have hS : ∀ b ∈ [b0], ¬ Q b := by intro b hb; simp at hb; subst hb; exact n_h0
    replace a0_1 := a0_1.md hm hS
    replace uQ := uQ.md hm
    replace M := M.step hm (all_cons p_h0 all_nil)
    clear h00 hS
    obtain ⟨s4, es4⟩ : ∃ y, y = ({ s with pos := s.pos + 1 } : Sq) := ⟨_, rfl⟩
    replace h0 : Blk _ _ (Sq.cells ({ s with pos := s.pos + 1 }) v0_0) _ := h0
    rw [← es4] at h0
    have oks4 : Sq.ok s4 := by rw [es4]; exact (by unfold Sq.ok; first | exact (by first | omega | assumption | (simp <;> omega) | simp_all) | (simp only; omega))
    rw [show s.l = s4.l by rw [es4]] at a0_1
    refine st_nil ?_
    refine c_then ?_
    refine c_seq ?_
    have a0_1_q := a0_1
    have h0_q := h0
    refine c_mixT [(0, true), (1, true), (2, true), (3, true), (4, true), (5, true), (6, true), (7, true), (8, true), (9, true), (10, true), (11, true)] [12, 13] (fun w' => Md [] w3 w') mixed (by kernel_rfl) ?_
    intro w5 hd0; refine ⟨hd0.mono (by simp), ?_⟩; have MC := hd0.mono (T := []) (by simp)
    have z1 : s4.pos = s.pos + 1 := by rw [es4]
    have z2 : s4.l = s.l := by rw [es4]
    have z3 : s4.l.length = s.l.length := by rw [es4]
    refine Go.Wk.m _ (fun w' hc => r_move rfl) ?_
    refine Go.Wk.m _ (fun w' hc => r_nil rfl) ?_
    refine Go.Wk.m _ (fun w' hc => r_field rfl off53_0) ?_
    refine Go.Wk.m _ (fun w' hc => (r_loadBlk rfl one46 (h0_q.md0 hc) rfl).to (b := v0_0) rfl) ?_
    refine Go.Wk.m _ (fun w' hc => r_move rfl) ?_
    refine Go.Wk.m _ (fun w' hc => r_nil rfl) ?_
    refine Go.Wk.m _ (fun w' hc => r_field rfl off53_1) ?_
    refine Go.Wk.m _ (fun w' hc => (r_loadBlk rfl one3 (h0_q.md0 hc) rfl).to (b := (.int .i64 ((s4.pos : Nat) : Int))) rfl) ?_
    have q6 : s4.pos < 9223372036854775808 := oks4
    refine Go.Wk.m _ (fun w' hc => r_subN (a := s4.pos) (b := 1) 9223372036854775808 rfl rfl rfl (by omega)) ?_
    refine Go.Wk.m _ (fun w' hc => r_indexN (i := s4.pos - 1) 1 rfl rfl u46 el3 a0_1.shp (by omega)) ?_
    obtain ⟨x7, hx7⟩ := getE (l := s4.l) (i := s4.pos - 1) (by first | omega | (simp <;> omega))
    obtain ⟨c8, hr7, ha7⟩ := a0_1_q.get hx7
    obtain ⟨rfl, hr7b⟩ := hr7
    replace ha7 : At _ v0_0 ((s4.pos - 1) * 1) [(.int .i64 (x7 : Int))] := ha7
    refine Go.Wk.m _ (fun w' hc => (r_loadE (kk := (s4.pos - 1) * 1) 0 rfl rfl one3 (ha7.md0 hc) rfl).to (b := (.int .i64 (x7 : Int))) rfl) ?_
    refine Go.Wk.m _ (fun w' hc => r_move rfl) ?_
    refine m_nil ?_
    replace a0_1 := a0_1.md0 hd0
    replace h0 := h0.md0 hd0
    replace uQ := uQ.md hd0
    replace M := M.step0 hd0
    clear h0_q a0_1_q
    clear MC
    have gx : s.l.getD s.pos 0 = x7 := by
      have hh := hx7
      rw [z2, z1, Nat.add_sub_cancel] at hh
      simp [List.getD, hh]
    refine st_call fn38 rfl (kNumber_any uQ (x7) (by omega) n (by first | omega | (simp <;> omega)) (by first | omega | (simp <;> omega) | (simp at * <;> omega))) ?_
    rintro en w9 ⟨x9_0, rfl, hm, q9_0, hF9⟩; refine ⟨_, rfl, ?_⟩
    replace a0_1 := a0_1.md0 hm
    replace h0 := h0.md0 hm
    replace uQ := uQ.md hm
    replace M := M.step0 hm
    have a9_0 := numF_lt x7 n; rw [hF9] at a9_0; try simp only [List.length_cons, List.length_nil, List.length_append, List.length_replicate, Nat.zero_add, Nat.reduceAdd, Nat.reduceMul] at a9_0
    refine st _ (r_assign rfl) ?_
    refine st_nil ?_
    clear ha7
    refine c_then ?_
    refine c_ret ?_
    exact ret1L (v := (.int .i64 ((x9_0 : Nat) : Int))) trivial rfl ⟨rfl, trivial⟩ ⟨x9_0, s4, _, rfl, M, (by first | assumption | omega | simp_all), h0, n0, oks4, (a0_1.sub (fun b hb _ => tQ b hb)), (by (try simp only [es4] at hF9); rw [Sq.num] <;> simp (disch := first | omega | assumption | (simp; done) | fail) only [if_pos, if_neg, Option.getD_some, Option.some.injEq, reduceIte, Bool.false_eq_true, Bool.true_eq_false, decide_true, decide_false, not_true_eq_false, not_false_eq_true, h14n, es4, hx7, gx, hF9])⟩
theorem kID_any {w : World} {Q : Nat → Prop} (uQ : Up w Q) (k : Int) (a0 : (-9223372036854775808 ≤ k ∧ k < 9223372036854775808)) :
    Calls Try.prog 36 #[(.int .i64 (k : Int))] w fun en w' => ∃ r0 : List UInt8, en = .returned (.agg (idc r0).toArray) ∧ Md [] w w' ∧ r0.length = 16 ∧ idF k = r0 := by
  have M := Md.refl [] w
  have uQ0 := uQ
  have tQ : ∀ b, Q b → Q b := fun _ h => h
  have sQ0 : ∀ b, Q b → b < w.heap.size → Q b := fun _ h _ => h
  refine enter (n := 10) Try.func36 rfl rfl rfl ?_
  intro B
  refine c_seq ?_
  refine c_region ?_
  refine st_alloc z35 ?_
  intro ba2 w1 ga2 la2 hm ha2
  obtain ⟨Q2, sQ, sT, n_ha2, uQ2⟩ := exQ uQ ga2 la2 hm
  replace tQ := fun b hb => tQ b (sT b hb)
  replace sQ0 := fun b hb hl => sQ b (sQ0 b hb hl) (Nat.lt_of_lt_of_le hl M.size)
  replace ga2 := Nat.le_trans M.size ga2
  replace uQ := uQ.md hm
  replace M := M.step0 hm
  clear uQ; have uQ := uQ2; clear uQ2 sQ sT
  have p_ha2 : Fsh [] w ba2 := .inr ga2
  replace ha2 : Blk _ _ (idc idZ) _ := ha2
  refine st_nil ?_
  refine c_then ?_
  refine c_seq ?_
  refine c_region ?_
  refine st_alloc z35 ?_
  intro ba3 w3 ga3 la3 hm ha3
  have eha2a3 : ba2 ≠ ba3 := by have := ha2.lt; omega
  obtain ⟨Q4, sQ, sT, n_ha3, uQ2⟩ := exQ uQ ga3 la3 hm
  replace n_ha2 := fun hh => n_ha2 (sT _ hh)
  replace tQ := fun b hb => tQ b (sT b hb)
  replace sQ0 := fun b hb hl => sQ b (sQ0 b hb hl) (Nat.lt_of_lt_of_le hl M.size)
  replace ga3 := Nat.le_trans M.size ga3
  replace ha2 := ha2.md0 hm
  replace uQ := uQ.md hm
  replace M := M.step0 hm
  clear uQ; have uQ := uQ2; clear uQ2 sQ sT
  have p_ha3 : Fsh [] w ba3 := .inr ga3
  replace ha3 : Blk _ _ (idc idZ) _ := ha3
  refine st_nil ?_
  refine c_then ?_
  refine c_seq ?_
  refine c_region ?_
  refine st _ (r_move rfl) ?_
  refine st_call fn38 rfl (kNumber_any uQ (k) (by omega) 5 (by first | omega | (simp <;> omega)) (by first | omega | (simp <;> omega) | (simp at * <;> omega))) ?_
  rintro en w5 ⟨x5_0, rfl, hm, q5_0, hF5⟩; refine ⟨_, rfl, ?_⟩
  replace ha2 := ha2.md0 hm
  replace ha3 := ha3.md0 hm
  replace uQ := uQ.md hm
  replace M := M.step0 hm
  have a5_0 := numF_lt k 5; rw [hF5] at a5_0; try simp only [List.length_cons, List.length_nil, List.length_append, List.length_replicate, Nat.zero_add, Nat.reduceAdd, Nat.reduceMul] at a5_0
  refine st _ ((r_convW (a := x5_0) 256 rfl rfl (by rw [u3]; rfl) u5 rfl).to (b8_of _)) ?_
  refine st _ ((r_indexArrN (i := 0) 1 rfl rfl u35 el5 (by decide))) ?_
  refine st_store rfl rfl one5 rfl ha3 (Nat.le_of_ble_eq_true rfl) ?_
  have ha30 := ha3; clear ha3; intro w6 hm ha3
  have hS : ∀ b ∈ [ba3], ¬ Q4 b := by intro b hb; simp at hb; subst hb; exact n_ha3
  replace ha2 := ha2.md hm (by intro hb; simp at hb; omega)
  replace uQ := uQ.md hm
  replace M := M.step hm (all_cons p_ha3 all_nil)
  clear ha30 hS
  replace ha3 : Blk _ _ (idc (idZ.set 0 94)) _ := ha3
  refine st _ ((r_indexArrN (i := 15) 1 rfl rfl u35 el5 (by decide))) ?_
  refine st_store rfl rfl one5 rfl ha3 (Nat.le_of_ble_eq_true rfl) ?_
  have ha30 := ha3; clear ha3; intro w7 hm ha3
  have hS : ∀ b ∈ [ba3], ¬ Q4 b := by intro b hb; simp at hb; subst hb; exact n_ha3
  replace ha2 := ha2.md hm (by intro hb; simp at hb; omega)
  replace uQ := uQ.md hm
  replace M := M.step hm (all_cons p_ha3 all_nil)
  clear ha30 hS
  replace ha3 : Blk _ _ (idc ((idZ.set 0 94).set 15 (UInt8.ofNat x5_0))) _ := ha3
  refine st_nil ?_
  refine c_then ?_
  refine c_seq ?_
  refine c_region ?_
  refine st _ (r_loadPart (idc ((idZ.set 0 94).set 15 (UInt8.ofNat x5_0))) rfl (by exact agg35) ha3 rfl) ?_
  refine st_storeAgg (us := (idc ((idZ.set 0 94).set 15 (UInt8.ofNat x5_0)))) rfl rfl (by exact agg35) (by exact one_idc _) ha2 (Nat.le_of_ble_eq_true rfl) ?_
  have ha20 := ha2; clear ha2; intro w8 hm ha2
  have hS : ∀ b ∈ [ba2], ¬ Q4 b := by intro b hb; simp at hb; subst hb; exact n_ha2
  replace ha3 := ha3.md hm (by intro hb; simp at hb; omega)
  replace uQ := uQ.md hm
  replace M := M.step hm (all_cons p_ha2 all_nil)
  clear ha20 hS
  replace ha2 : Blk _ _ (idc ((idZ.set 0 94).set 15 (UInt8.ofNat x5_0))) _ := ha2
  refine st_nil ?_
  refine c_then ?_
  refine c_ret ?_
  exact ret1L (v := (.agg (idc ((idZ.set 0 94).set 15 (UInt8.ofNat x5_0))).toArray)) trivial rfl ⟨⟨_, rfl, load_agg (cs := (idc ((idZ.set 0 94).set 15 (UInt8.ofNat x5_0)))) (by exact agg35) ha2⟩, trivial⟩ ⟨(idZ.set 0 94).set 15 (UInt8.ofNat x5_0), rfl, M, (by first | assumption | rfl | simp_all), (by rw [idF] <;> simp (disch := first | omega | assumption | (simp; done) | fail) only [idZ, if_pos, if_neg, Option.getD_some, Option.some.injEq, reduceIte, Bool.false_eq_true, Bool.true_eq_false, decide_true, decide_false, not_true_eq_false, not_false_eq_true, hF5])⟩
theorem kConfig_any {w : World} {Q : Nat → Prop} (uQ : Up w Q) {b0 : Nat} {v0_0 : Value} (s : Sq) (h0 : Blk w b0 (Sq.cells s v0_0) 53) (n0 : ¬ Q b0) (a0_0 : Sq.ok s) (a0_1 : Ls tInt w Q v0_0 s.l) :
    Calls Try.prog 21 #[.pointer (some ⟨b0, 0, none⟩)] w fun en w' => ∃ r0 : Cfg, ∃ m0 : Sq, ∃ u50_0 : Value, en = .returned (.agg (Cfg.cells r0).toArray) ∧ Md [b0] w w' ∧ Cfg.ok r0 ∧ Blk w' b0 (Sq.cells m0 u50_0) 53 ∧ ¬ Q b0 ∧ Sq.ok m0 ∧ Ls tInt w' Q u50_0 m0.l ∧ s.config = (r0, m0) := by
  have n_h0 := n0
  have p_h0 : Fsh [b0] w b0 := .inl (by simp)
  have M := Md.refl [b0] w
  have uQ0 := uQ
  have tQ : ∀ b, Q b → Q b := fun _ h => h
  have sQ0 : ∀ b, Q b → b < w.heap.size → Q b := fun _ h _ => h
  refine enter (n := 22) Try.func21 rfl rfl rfl ?_
  intro B
  refine c_seq ?_
  refine c_region ?_
  refine st_alloc z64 ?_
  intro ba2 w1 ga2 la2 hm ha2
  have eh0a2 : b0 ≠ ba2 := by have := h0.lt; omega
  obtain ⟨Q2, sQ, sT, n_ha2, uQ2⟩ := exQ uQ ga2 la2 hm
  replace a0_1 := a0_1.sub sQ
  replace n_h0 := fun hh => n_h0 (sT _ hh)
  replace tQ := fun b hb => tQ b (sT b hb)
  replace sQ0 := fun b hb hl => sQ b (sQ0 b hb hl) (Nat.lt_of_lt_of_le hl M.size)
  replace ga2 := Nat.le_trans M.size ga2
  replace a0_1 := a0_1.md0 hm
  replace h0 := h0.md0 hm
  replace uQ := uQ.md hm
  replace M := M.step0 hm
  clear uQ; have uQ := uQ2; clear uQ2 sQ sT
  have p_ha2 : Fsh [] w ba2 := .inr ga2
  replace ha2 : Blk _ _ (Cfg.cells (({ file := idZ, machine := idZ, seq := idZ, dataSlots := 0, fieldSlots := 0, most := 0, keyed := false } : Cfg))) _ := ha2
  have okz3 : Cfg.ok (({ file := idZ, machine := idZ, seq := idZ, dataSlots := 0, fieldSlots := 0, most := 0, keyed := false } : Cfg)) := (by first | assumption | exact ⟨(by first | assumption | rfl | simp_all), (by first | assumption | rfl | simp_all), (by first | assumption | rfl | simp_all), (by first | omega | (simp <;> omega) | simp_all), (by first | omega | (simp <;> omega) | simp_all), (by first | omega | (simp <;> omega) | simp_all)⟩)
  refine st_nil ?_
  refine c_then ?_
  refine c_seq ?_
  refine c_region ?_
  refine st _ (r_move rfl) ?_
  refine st_call fn23 rfl (kN_any uQ s h0 n_h0 a0_0 a0_1 5 (by first | omega | (simp <;> omega)) (by first | omega | (simp <;> omega) | (simp at * <;> omega))) ?_
  rintro en w4 ⟨x4_0, m4_0, mv4_0_0, rfl, hm, q4_0, mh4_0, mn4_0, mq4_0_0, mf4_0_1, hF4⟩; refine ⟨_, rfl, ?_⟩
  have hP : ∀ i ∈ [b0], Fsh [b0] w i := (all_cons p_h0 all_nil)
  have hS : ∀ i ∈ [b0], ¬ Q2 i := (all_cons n_h0 all_nil)
  have np_ha2 : ba2 ∉ [b0] := (nin_cons (by omega) (by simp))
  replace a0_1 := a0_1.md hm hS
  replace ha2 := ha2.md hm np_ha2; clear np_ha2
  replace M := M.step hm hP
  replace uQ := uQ.md hm
  clear hP hS h0 n_h0; have h0 := mh4_0; have n_h0 := mn4_0; clear mh4_0 mn4_0
  have a4_0 := Sq.num_le s 5; rw [hF4] at a4_0; try simp only [List.length_cons, List.length_nil, List.length_append, List.length_replicate, Nat.zero_add, Nat.reduceAdd, Nat.reduceMul] at a4_0
  refine st_call fn36 rfl (kID_any uQ (((x4_0 : Nat) : Int)) (by omega)) ?_
  rintro en w5 ⟨x5_0, rfl, hm, q5_0, hF5⟩; refine ⟨_, rfl, ?_⟩
  replace a0_1 := a0_1.md0 hm
  replace h0 := h0.md0 hm
  replace ha2 := ha2.md0 hm
  replace mf4_0_1 := mf4_0_1.md0 hm
  replace uQ := uQ.md hm
  replace M := M.step0 hm
  refine st _ (r_move rfl) ?_
  refine st_call fn23 rfl (kN_any uQ m4_0 h0 n_h0 mq4_0_0 mf4_0_1 5 (by first | omega | (simp <;> omega)) (by first | omega | (simp <;> omega) | (simp at * <;> omega))) ?_
  rintro en w6 ⟨x6_0, m6_0, mv6_0_0, rfl, hm, q6_0, mh6_0, mn6_0, mq6_0_0, mf6_0_1, hF6⟩; refine ⟨_, rfl, ?_⟩
  have hP : ∀ i ∈ [b0], Fsh [b0] w i := (all_cons p_h0 all_nil)
  have hS : ∀ i ∈ [b0], ¬ Q2 i := (all_cons n_h0 all_nil)
  have np_ha2 : ba2 ∉ [b0] := (nin_cons (by omega) (by simp))
  replace a0_1 := a0_1.md hm hS
  replace ha2 := ha2.md hm np_ha2; clear np_ha2
  replace mf4_0_1 := mf4_0_1.md hm hS
  replace M := M.step hm hP
  replace uQ := uQ.md hm
  clear hP hS h0 n_h0; have h0 := mh6_0; have n_h0 := mn6_0; clear mh6_0 mn6_0
  have a6_0 := Sq.num_le m4_0 5; rw [hF6] at a6_0; try simp only [List.length_cons, List.length_nil, List.length_append, List.length_replicate, Nat.zero_add, Nat.reduceAdd, Nat.reduceMul] at a6_0
  refine st_call fn36 rfl (kID_any uQ (((x6_0 : Nat) : Int)) (by omega)) ?_
  rintro en w7 ⟨x7_0, rfl, hm, q7_0, hF7⟩; refine ⟨_, rfl, ?_⟩
  replace a0_1 := a0_1.md0 hm
  replace h0 := h0.md0 hm
  replace ha2 := ha2.md0 hm
  replace mf4_0_1 := mf4_0_1.md0 hm
  replace mf6_0_1 := mf6_0_1.md0 hm
  replace uQ := uQ.md hm
  replace M := M.step0 hm
  refine st _ (r_move rfl) ?_
  refine st_call fn23 rfl (kN_any uQ m6_0 h0 n_h0 mq6_0_0 mf6_0_1 5 (by first | omega | (simp <;> omega)) (by first | omega | (simp <;> omega) | (simp at * <;> omega))) ?_
  rintro en w8 ⟨x8_0, m8_0, mv8_0_0, rfl, hm, q8_0, mh8_0, mn8_0, mq8_0_0, mf8_0_1, hF8⟩; refine ⟨_, rfl, ?_⟩
  have hP : ∀ i ∈ [b0], Fsh [b0] w i := (all_cons p_h0 all_nil)
  have hS : ∀ i ∈ [b0], ¬ Q2 i := (all_cons n_h0 all_nil)
  have np_ha2 : ba2 ∉ [b0] := (nin_cons (by omega) (by simp))
  replace a0_1 := a0_1.md hm hS
  replace ha2 := ha2.md hm np_ha2; clear np_ha2
  replace mf4_0_1 := mf4_0_1.md hm hS
  replace mf6_0_1 := mf6_0_1.md hm hS
  replace M := M.step hm hP
  replace uQ := uQ.md hm
  clear hP hS h0 n_h0; have h0 := mh8_0; have n_h0 := mn8_0; clear mh8_0 mn8_0
  have a8_0 := Sq.num_le m6_0 5; rw [hF8] at a8_0; try simp only [List.length_cons, List.length_nil, List.length_append, List.length_replicate, Nat.zero_add, Nat.reduceAdd, Nat.reduceMul] at a8_0
  refine st_call fn36 rfl (kID_any uQ (((x8_0 : Nat) : Int)) (by omega)) ?_
  rintro en w9 ⟨x9_0, rfl, hm, q9_0, hF9⟩; refine ⟨_, rfl, ?_⟩
  replace a0_1 := a0_1.md0 hm
  replace h0 := h0.md0 hm
  replace ha2 := ha2.md0 hm
  replace mf4_0_1 := mf4_0_1.md0 hm
  replace mf6_0_1 := mf6_0_1.md0 hm
  replace mf8_0_1 := mf8_0_1.md0 hm
  replace uQ := uQ.md hm
  replace M := M.step0 hm
  refine st _ (r_move rfl) ?_
  refine st_call fn23 rfl (kN_any uQ m8_0 h0 n_h0 mq8_0_0 mf8_0_1 7 (by first | omega | (simp <;> omega)) (by first | omega | (simp <;> omega) | (simp at * <;> omega))) ?_
  rintro en w10 ⟨x10_0, m10_0, mv10_0_0, rfl, hm, q10_0, mh10_0, mn10_0, mq10_0_0, mf10_0_1, hF10⟩; refine ⟨_, rfl, ?_⟩
  have hP : ∀ i ∈ [b0], Fsh [b0] w i := (all_cons p_h0 all_nil)
  have hS : ∀ i ∈ [b0], ¬ Q2 i := (all_cons n_h0 all_nil)
  have np_ha2 : ba2 ∉ [b0] := (nin_cons (by omega) (by simp))
  replace a0_1 := a0_1.md hm hS
  replace ha2 := ha2.md hm np_ha2; clear np_ha2
  replace mf4_0_1 := mf4_0_1.md hm hS
  replace mf6_0_1 := mf6_0_1.md hm hS
  replace mf8_0_1 := mf8_0_1.md hm hS
  replace M := M.step hm hP
  replace uQ := uQ.md hm
  clear hP hS h0 n_h0; have h0 := mh10_0; have n_h0 := mn10_0; clear mh10_0 mn10_0
  have a10_0 := Sq.num_le m8_0 7; rw [hF10] at a10_0; try simp only [List.length_cons, List.length_nil, List.length_append, List.length_replicate, Nat.zero_add, Nat.reduceAdd, Nat.reduceMul] at a10_0
  refine st _ (r_addN (a := x10_0) (b := 1) 9223372036854775808 rfl rfl rfl (by omega)) ?_
  refine st _ (r_move rfl) ?_
  refine st_call fn23 rfl (kN_any uQ m10_0 h0 n_h0 mq10_0_0 mf10_0_1 4 (by first | omega | (simp <;> omega)) (by first | omega | (simp <;> omega) | (simp at * <;> omega))) ?_
  rintro en w11 ⟨x11_0, m11_0, mv11_0_0, rfl, hm, q11_0, mh11_0, mn11_0, mq11_0_0, mf11_0_1, hF11⟩; refine ⟨_, rfl, ?_⟩
  have hP : ∀ i ∈ [b0], Fsh [b0] w i := (all_cons p_h0 all_nil)
  have hS : ∀ i ∈ [b0], ¬ Q2 i := (all_cons n_h0 all_nil)
  have np_ha2 : ba2 ∉ [b0] := (nin_cons (by omega) (by simp))
  replace a0_1 := a0_1.md hm hS
  replace ha2 := ha2.md hm np_ha2; clear np_ha2
  replace mf4_0_1 := mf4_0_1.md hm hS
  replace mf6_0_1 := mf6_0_1.md hm hS
  replace mf8_0_1 := mf8_0_1.md hm hS
  replace mf10_0_1 := mf10_0_1.md hm hS
  replace M := M.step hm hP
  replace uQ := uQ.md hm
  clear hP hS h0 n_h0; have h0 := mh11_0; have n_h0 := mn11_0; clear mh11_0 mn11_0
  have a11_0 := Sq.num_le m10_0 4; rw [hF11] at a11_0; try simp only [List.length_cons, List.length_nil, List.length_append, List.length_replicate, Nat.zero_add, Nat.reduceAdd, Nat.reduceMul] at a11_0
  refine st _ (r_addN (a := x11_0) (b := 1) 9223372036854775808 rfl rfl rfl (by omega)) ?_
  refine st _ (r_move rfl) ?_
  refine st_call fn23 rfl (kN_any uQ m11_0 h0 n_h0 mq11_0_0 mf11_0_1 2 (by first | omega | (simp <;> omega)) (by first | omega | (simp <;> omega) | (simp at * <;> omega))) ?_
  rintro en w12 ⟨x12_0, m12_0, mv12_0_0, rfl, hm, q12_0, mh12_0, mn12_0, mq12_0_0, mf12_0_1, hF12⟩; refine ⟨_, rfl, ?_⟩
  have hP : ∀ i ∈ [b0], Fsh [b0] w i := (all_cons p_h0 all_nil)
  have hS : ∀ i ∈ [b0], ¬ Q2 i := (all_cons n_h0 all_nil)
  have np_ha2 : ba2 ∉ [b0] := (nin_cons (by omega) (by simp))
  replace a0_1 := a0_1.md hm hS
  replace ha2 := ha2.md hm np_ha2; clear np_ha2
  replace mf4_0_1 := mf4_0_1.md hm hS
  replace mf6_0_1 := mf6_0_1.md hm hS
  replace mf8_0_1 := mf8_0_1.md hm hS
  replace mf10_0_1 := mf10_0_1.md hm hS
  replace mf11_0_1 := mf11_0_1.md hm hS
  replace M := M.step hm hP
  replace uQ := uQ.md hm
  clear hP hS h0 n_h0; have h0 := mh12_0; have n_h0 := mn12_0; clear mh12_0 mn12_0
  have a12_0 := Sq.num_le m11_0 2; rw [hF12] at a12_0; try simp only [List.length_cons, List.length_nil, List.length_append, List.length_replicate, Nat.zero_add, Nat.reduceAdd, Nat.reduceMul] at a12_0
  refine st _ (r_eqN (a := x12_0) (b := 1) rfl rfl) ?_
  refine st _ (r_buildG (us := [(idc x5_0), (idc x7_0), (idc x9_0), [(.int .i64 ((x10_0 + 1 : Nat) : Int))], [(.int .i64 ((x11_0 + 1 : Nat) : Int))], [(.int .i64 ((32768 : Nat) : Int))], [(.bool ((decide (x12_0 = 1))))]]) (cs := (Cfg.cells (({ file := x5_0, machine := x7_0, seq := x9_0, dataSlots := x10_0 + 1, fieldSlots := x11_0 + 1, most := 32768, keyed := (decide (x12_0 = 1)) } : Cfg)))) [(0, 0, 16), (1, 16, 16), (2, 32, 16), (3, 48, 1), (4, 49, 1), (5, 50, 1), (6, 51, 1)] z64 pl64 rfl rfl ⟨rfl, rfl, rfl, rfl, rfl, rfl, rfl, trivial⟩ ⟨rfl, rfl, rfl, rfl, rfl, rfl, rfl, trivial⟩ rfl (by simp [splices, splice, idc, Cfg.cells])) ?_
  refine st_storeAgg (us := (Cfg.cells (({ file := x5_0, machine := x7_0, seq := x9_0, dataSlots := x10_0 + 1, fieldSlots := x11_0 + 1, most := 32768, keyed := (decide (x12_0 = 1)) } : Cfg)))) rfl rfl (by exact agg64) (by first | exact fun u hu => one_cells (Cfg.one ) u hu | exact fun u hu => one_cells rfl u hu) ha2 (Nat.le_of_ble_eq_true rfl) ?_
  have ha20 := ha2; clear ha2; intro w13 hm ha2
  have hS : ∀ b ∈ [ba2], ¬ Q2 b := by intro b hb; simp at hb; subst hb; exact n_ha2
  replace a0_1 := a0_1.md hm hS
  replace h0 := h0.md hm (by intro hb; simp at hb; omega)
  replace mf4_0_1 := mf4_0_1.md hm hS
  replace mf6_0_1 := mf6_0_1.md hm hS
  replace mf8_0_1 := mf8_0_1.md hm hS
  replace mf10_0_1 := mf10_0_1.md hm hS
  replace mf11_0_1 := mf11_0_1.md hm hS
  replace mf12_0_1 := mf12_0_1.md hm hS
  replace uQ := uQ.md hm
  replace M := M.step hm (all_cons (Fsh.wid p_ha2) all_nil)
  clear ha20 hS
  replace ha2 : Blk _ _ (Cfg.cells (({ file := x5_0, machine := x7_0, seq := x9_0, dataSlots := x10_0 + 1, fieldSlots := x11_0 + 1, most := 32768, keyed := (decide (x12_0 = 1)) } : Cfg))) _ := ha2
  refine st_nil ?_
  refine c_then ?_
  refine c_ret ?_
  exact ret1L (v := (.agg (Cfg.cells (({ file := x5_0, machine := x7_0, seq := x9_0, dataSlots := x10_0 + 1, fieldSlots := x11_0 + 1, most := 32768, keyed := (decide (x12_0 = 1)) } : Cfg))).toArray)) trivial rfl ⟨⟨_, rfl, load_agg (cs := (Cfg.cells (({ file := x5_0, machine := x7_0, seq := x9_0, dataSlots := x10_0 + 1, fieldSlots := x11_0 + 1, most := 32768, keyed := (decide (x12_0 = 1)) } : Cfg)))) (by exact agg64) ha2⟩, trivial⟩ ⟨(({ file := x5_0, machine := x7_0, seq := x9_0, dataSlots := x10_0 + 1, fieldSlots := x11_0 + 1, most := 32768, keyed := (decide (x12_0 = 1)) } : Cfg)), m12_0, _, rfl, M, (by first | assumption | exact ⟨(by first | assumption | rfl | simp_all), (by first | assumption | rfl | simp_all), (by first | assumption | rfl | simp_all), (by first | omega | (simp <;> omega) | simp_all), (by first | omega | (simp <;> omega) | simp_all), (by first | omega | (simp <;> omega) | simp_all)⟩), h0, n0, mq12_0_0, (mf12_0_1.sub (fun b hb _ => tQ b hb)), (by rw [Sq.config] <;> simp (disch := first | omega | assumption | (simp; done) | fail) only [if_pos, if_neg, Option.getD_some, Option.some.injEq, reduceIte, Bool.false_eq_true, Bool.true_eq_false, decide_true, decide_false, not_true_eq_false, not_false_eq_true, hF4, hF5, hF6, hF7, hF8, hF9, hF10, hF11, hF12])⟩
end Go.Proofs.Ytahkddpdhmhfcaa
