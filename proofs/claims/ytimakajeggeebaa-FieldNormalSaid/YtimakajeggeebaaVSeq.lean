/- Walks of functions: what each call returns, over data. -/
import Derived.Test.YtimakajeggeebaaRows
import Derived.Test.YtimakajeggeebaaSeqP
import Derived.Test.YtimakajeggeebaaVList
namespace Go.Proofs.Ytimakajeggeebaa
open Go Go.Wk Go.RowKit
set_option linter.unusedVariables false
set_option linter.unusedSimpArgs false
attribute [local irreducible] wpList wpQuiet wpStill wpMix Code.wp Calls bodyPost
theorem el3 : elemIs Try.prog 3 1 = true := by kernel_rfl
theorem fn14 : isFn Try.prog 14 = true := by kernel_rfl
theorem off54_0 : fieldOff Try.prog 54 0 = some 0 := by kernel_rfl
theorem off54_1 : fieldOff Try.prog 54 1 = some 1 := by kernel_rfl
theorem one40 : isOne Try.prog 40 = true := by kernel_rfl
theorem u40 : Try.prog.underlying 40 = some (.slice 3) := by kernel_rfl

theorem kNumber_any {w : World} {Q : Nat → Prop} (uQ : Up w Q) (k : Int) (a0 : (-9223372036854775808 ≤ k ∧ k < 9223372036854775808)) (n : Nat) (a1 : n < 9223372036854775808) (p0 : n ≤ 1000000) :
    Calls Try.prog 14 #[(.int .i64 (k : Int)), (.int .i64 ((n : Nat) : Int))] w fun en w' => ∃ r0 : Nat, en = .returned (.int .i64 ((r0 : Nat) : Int)) ∧ Md [] w w' ∧ r0 < 9223372036854775808 ∧ numF k n = r0 := by
  have M := Md.refl [] w
  have uQ0 := uQ
  have tQ : ∀ b, Q b → Q b := fun _ h => h
  have sQ0 : ∀ b, Q b → b < w.heap.size → Q b := fun _ h _ => h
  refine enter (n := 14) Try.func14 rfl rfl rfl ?_
  intro B
  refine c_seq ?_
  refine c_region ?_
  refine st _ (r_assign rfl) ?_
  refine st_nil ?_
  refine c_then ?_
  refine c_seq ?_
  refine c_seq ?_
  refine c_region ?_
  refine st _ (r_move rfl) ?_
  refine st _ (r_ltN (a := n) (b := 1) rfl rfl) ?_
  refine st_nil ?_
  refine c_then ?_
  refine c_if rfl (fun h6 => ?_) (fun h6 => ?_)
  · skip
    first | (have h6n := of_decide_eq_true h6) | (have h6n := of_decide_eq_false (bnt h6)) | (have h6n := bnt h6) | (have h6n := h6)
    refine c_seq ?_
    refine c_region ?_
    refine st _ (r_assign rfl) ?_
    refine st_nil ?_
    refine c_then ?_
    refine c_ret ?_
    refine r_then ?_
    exact ret1L (v := (.int .i64 ((0 : Nat) : Int))) trivial rfl ⟨rfl, trivial⟩ ⟨0, rfl, M, (by first | assumption | omega | simp_all), (by rw [numF] <;> simp (disch := first | omega | assumption | (simp; done) | fail) only [if_pos, if_neg, Option.getD_some, Option.some.injEq, reduceIte, Bool.false_eq_true, Bool.true_eq_false, decide_true, decide_false, not_true_eq_false, not_false_eq_true, h6n])⟩
  · skip
    first | (have h6n := of_decide_eq_false h6) | (have h6n := of_decide_eq_true (bnf h6)) | (have h6n := bnf h6) | (have h6n := h6)
    refine c_skip ?_
    refine c_then ?_
    refine c_seq ?_
    refine c_region ?_
    refine st _ (r_move rfl) ?_
    refine st _ (r_move rfl) ?_
    refine st _ (r_remZ (a := k) (b := ((n : Nat) : Int)) rfl rfl (by omega)) ?_
    refine st _ (r_move rfl) ?_
    have hg := num_ge (k := k) h6n
    refine st _ (r_addI (a := k.tmod (((n : Nat) : Int))) (b := ((n : Nat) : Int)) rfl rfl (by omega)) ?_
    refine st _ (r_move rfl) ?_
    refine st _ (((r_remZ (a := k.tmod (((n : Nat) : Int)) + ((n : Nat) : Int)) (b := ((n : Nat) : Int)) rfl rfl (by omega)).castI (Int.toNat_of_nonneg (Int.tmod_nonneg _ (by omega))).symm)) ?_
    have hq := Int.tmod_lt_of_pos (k.tmod (n : Int) + (n : Int)) (show (0 : Int) < n by omega)
    refine st _ (r_assign rfl) ?_
    refine st_nil ?_
    refine c_then ?_
    refine c_ret ?_
    exact ret1L (v := (.int .i64 ((((k.tmod (((n : Nat) : Int)) + ((n : Nat) : Int)).tmod (((n : Nat) : Int))).toNat : Nat) : Int))) trivial rfl ⟨rfl, trivial⟩ ⟨((k.tmod (((n : Nat) : Int)) + ((n : Nat) : Int)).tmod (((n : Nat) : Int))).toNat, rfl, M, (by first | assumption | omega | simp_all), (by rw [numF] <;> simp (disch := first | omega | assumption | (simp; done) | fail) only [if_pos, if_neg, Option.getD_some, Option.some.injEq, reduceIte, Bool.false_eq_true, Bool.true_eq_false, decide_true, decide_false, not_true_eq_false, not_false_eq_true, h6n])⟩
theorem kMore_any {w : World} {Q : Nat → Prop} (uQ : Up w Q) {b0 : Nat} {v0_0 : Value} (s : Sq) (h0 : Blk w b0 (Sq.cells s v0_0) 54) (n0 : ¬ Q b0) (a0_0 : Sq.ok s) (a0_1 : Ls tInt w Q v0_0 s.l) :
    Calls Try.prog 91 #[.pointer (some ⟨b0, 0, none⟩)] w fun en w' => ∃ r0 : Bool, ∃ m0 : Sq, ∃ u50_0 : Value, en = .returned (.bool r0) ∧ Md [b0] w w' ∧ Blk w' b0 (Sq.cells m0 u50_0) 54 ∧ ¬ Q b0 ∧ Sq.ok m0 ∧ Ls tInt w' Q u50_0 m0.l ∧ s.more = (r0, m0) := by
  have n_h0 := n0
  have p_h0 : Fsh [b0] w b0 := .inl (by simp)
  have M := Md.refl [b0] w
  have uQ0 := uQ
  have tQ : ∀ b, Q b → Q b := fun _ h => h
  have sQ0 : ∀ b, Q b → b < w.heap.size → Q b := fun _ h _ => h
  refine enter (n := 13) Try.func91 rfl rfl rfl ?_
  intro B
  refine c_seq ?_
  refine c_region ?_
  refine st _ (r_assign rfl) ?_
  refine st_nil ?_
  refine c_then ?_
  refine c_seq ?_
  have a0_1_q := a0_1
  have h0_q := h0
  refine c_mixT [(0, true), (1, true), (2, true), (3, true), (4, true), (5, true), (6, true), (7, true), (8, true)] [9, 10] (fun w' => Md [] w w') mixed (by kernel_rfl) ?_
  intro w1 hd0; refine ⟨hd0.mono (by simp), ?_⟩; have MC := hd0.mono (T := []) (by simp)
  refine Go.Wk.m _ (fun w' hc => r_move rfl) ?_
  refine Go.Wk.m _ (fun w' hc => r_nil rfl) ?_
  refine Go.Wk.m _ (fun w' hc => r_field rfl off54_1) ?_
  refine Go.Wk.m _ (fun w' hc => (r_loadBlk rfl one3 (h0_q.md0 hc) rfl).to (b := (.int .i64 ((s.pos : Nat) : Int))) rfl) ?_
  have q2 : s.pos < 9223372036854775808 := a0_0
  refine Go.Wk.m _ (fun w' hc => r_move rfl) ?_
  refine Go.Wk.m _ (fun w' hc => r_nil rfl) ?_
  refine Go.Wk.m _ (fun w' hc => r_field rfl off54_0) ?_
  refine Go.Wk.m _ (fun w' hc => (r_loadBlk rfl one40 (h0_q.md0 hc) rfl).to (b := v0_0) rfl) ?_
  refine Go.Wk.m _ (fun w' hc => r_len rfl u40 a0_1.shp) ?_
  refine m_nil ?_
  replace a0_1 := a0_1.md0 hd0
  replace h0 := h0.md0 hd0
  replace uQ := uQ.md hd0
  replace M := M.step0 hd0
  clear h0_q a0_1_q
  clear MC
  refine st _ (r_ltN (a := s.pos) (b := s.l.length) rfl rfl) ?_
  refine st _ (r_assign rfl) ?_
  refine st_nil ?_
  refine c_then ?_
  refine c_ret ?_
  exact ret1L (v := (.bool ((decide (s.pos < s.l.length))))) trivial rfl ⟨rfl, trivial⟩ ⟨(decide (s.pos < s.l.length)), s, _, rfl, M, h0, n0, a0_0, (a0_1.sub (fun b hb _ => tQ b hb)), (by rw [Sq.more] <;> simp (disch := first | omega | assumption | (simp; done) | fail) only [if_pos, if_neg, Option.getD_some, Option.some.injEq, reduceIte, Bool.false_eq_true, Bool.true_eq_false, decide_true, decide_false, not_true_eq_false, not_false_eq_true])⟩
theorem kN_any {w : World} {Q : Nat → Prop} (uQ : Up w Q) {b0 : Nat} {v0_0 : Value} (s : Sq) (h0 : Blk w b0 (Sq.cells s v0_0) 54) (n0 : ¬ Q b0) (a0_0 : Sq.ok s) (a0_1 : Ls tInt w Q v0_0 s.l) (n : Nat) (a1 : n < 9223372036854775808) (p0 : n ≤ 1000000) :
    Calls Try.prog 65 #[.pointer (some ⟨b0, 0, none⟩), (.int .i64 ((n : Nat) : Int))] w fun en w' => ∃ r0 : Nat, ∃ m0 : Sq, ∃ u50_0 : Value, en = .returned (.int .i64 ((r0 : Nat) : Int)) ∧ Md [b0] w w' ∧ r0 < 9223372036854775808 ∧ Blk w' b0 (Sq.cells m0 u50_0) 54 ∧ ¬ Q b0 ∧ Sq.ok m0 ∧ Ls tInt w' Q u50_0 m0.l ∧ s.num n = (r0, m0) := by
  have L0 := a0_1.len63
  have n_h0 := n0
  have p_h0 : Fsh [b0] w b0 := .inl (by simp)
  have M := Md.refl [b0] w
  have uQ0 := uQ
  have tQ : ∀ b, Q b → Q b := fun _ h => h
  have sQ0 : ∀ b, Q b → b < w.heap.size → Q b := fun _ h _ => h
  refine enter (n := 35) Try.func65 rfl rfl rfl ?_
  intro B
  refine c_seq ?_
  refine c_region ?_
  refine st _ (r_assign rfl) ?_
  refine st_nil ?_
  refine c_then ?_
  refine c_seq ?_
  refine c_seq ?_
  have a0_1_q := a0_1
  have h0_q := h0
  refine c_mixT [(0, true), (1, true), (2, true), (3, true), (4, true), (5, true), (6, true), (7, true), (8, true)] [9] (fun w' => Md [] w w') mixed (by kernel_rfl) ?_
  intro w1 hd0; refine ⟨hd0.mono (by simp), ?_⟩; have MC := hd0.mono (T := []) (by simp)
  refine Go.Wk.m _ (fun w' hc => r_move rfl) ?_
  refine Go.Wk.m _ (fun w' hc => r_nil rfl) ?_
  refine Go.Wk.m _ (fun w' hc => r_field rfl off54_1) ?_
  refine Go.Wk.m _ (fun w' hc => (r_loadBlk rfl one3 (h0_q.md0 hc) rfl).to (b := (.int .i64 ((s.pos : Nat) : Int))) rfl) ?_
  have q2 : s.pos < 9223372036854775808 := a0_0
  refine Go.Wk.m _ (fun w' hc => r_move rfl) ?_
  refine Go.Wk.m _ (fun w' hc => r_nil rfl) ?_
  refine Go.Wk.m _ (fun w' hc => r_field rfl off54_0) ?_
  refine Go.Wk.m _ (fun w' hc => (r_loadBlk rfl one40 (h0_q.md0 hc) rfl).to (b := v0_0) rfl) ?_
  refine Go.Wk.m _ (fun w' hc => r_len rfl u40 a0_1.shp) ?_
  refine m_nil ?_
  replace a0_1 := a0_1.md0 hd0
  replace h0 := h0.md0 hd0
  replace uQ := uQ.md hd0
  replace M := M.step0 hd0
  clear h0_q a0_1_q
  clear MC
  refine st _ (r_geN (a := s.pos) (b := s.l.length) rfl rfl) ?_
  refine st_nil ?_
  refine c_then ?_
  refine c_if rfl (fun h14 => ?_) (fun h14 => ?_)
  · skip
    first | (have h14n := of_decide_eq_true h14) | (have h14n := of_decide_eq_false (bnt h14)) | (have h14n := bnt h14) | (have h14n := h14)
    refine c_seq ?_
    refine c_region ?_
    refine st _ (r_assign rfl) ?_
    refine st_nil ?_
    refine c_then ?_
    refine c_ret ?_
    refine r_then ?_
    exact ret1L (v := (.int .i64 ((0 : Nat) : Int))) trivial rfl ⟨rfl, trivial⟩ ⟨0, s, _, rfl, M, (by first | assumption | omega | simp_all), h0, n0, a0_0, (a0_1.sub (fun b hb _ => tQ b hb)), (by rw [Sq.num] <;> simp (disch := first | omega | assumption | (simp; done) | fail) only [if_pos, if_neg, Option.getD_some, Option.some.injEq, reduceIte, Bool.false_eq_true, Bool.true_eq_false, decide_true, decide_false, not_true_eq_false, not_false_eq_true, h14n])⟩
  · skip
    first | (have h14n := of_decide_eq_false h14) | (have h14n := of_decide_eq_true (bnf h14)) | (have h14n := bnf h14) | (have h14n := h14)
    refine c_skip ?_
    refine c_then ?_
    refine c_seq ?_
    refine c_region ?_
    refine st _ (r_move rfl) ?_
    refine st _ (r_nil rfl) ?_
    refine st _ (r_field rfl off54_1) ?_
    refine st _ ((r_loadBlk rfl one3 h0 rfl).to (b := (.int .i64 ((s.pos : Nat) : Int))) rfl) ?_
    refine st _ (r_addN (a := s.pos) (b := 1) 9223372036854775808 rfl rfl rfl (by omega)) ?_
    refine st _ (r_nil rfl) ?_
    refine st _ (r_field rfl off54_1) ?_
    refine st_store rfl rfl one3 rfl h0 (Nat.le_of_ble_eq_true rfl) ?_
    have h00 := h0; clear h0; intro w3 hm h0
    have hS : ∀ b ∈ [b0], ¬ Q b := by intro b hb; simp at hb; subst hb; exact n_h0
    replace a0_1 := a0_1.md hm hS
    replace uQ := uQ.md hm
    replace M := M.step hm (all_cons p_h0 all_nil)
    clear h00 hS
    obtain ⟨s4, es4⟩ : ∃ y, y = ({ s with pos := s.pos + 1 } : Sq) := ⟨_, rfl⟩
    replace h0 : Blk _ _ (Sq.cells ({ s with pos := s.pos + 1 }) v0_0) _ := h0
    rw [← es4] at h0
    have oks4 : Sq.ok s4 := by rw [es4]; exact (by unfold Sq.ok; first | exact (by first | omega | assumption | (simp <;> omega) | simp_all) | (simp only; omega))
    rw [show s.l = s4.l by rw [es4]] at a0_1
    refine st_nil ?_
    refine c_then ?_
    refine c_seq ?_
    have a0_1_q := a0_1
    have h0_q := h0
    refine c_mixT [(0, true), (1, true), (2, true), (3, true), (4, true), (5, true), (6, true), (7, true), (8, true), (9, true), (10, true), (11, true)] [12, 13] (fun w' => Md [] w3 w') mixed (by kernel_rfl) ?_
    intro w5 hd0; refine ⟨hd0.mono (by simp), ?_⟩; have MC := hd0.mono (T := []) (by simp)
    have z1 : s4.pos = s.pos + 1 := by rw [es4]
    have z2 : s4.l = s.l := by rw [es4]
    have z3 : s4.l.length = s.l.length := by rw [es4]
    refine Go.Wk.m _ (fun w' hc => r_move rfl) ?_
    refine Go.Wk.m _ (fun w' hc => r_nil rfl) ?_
    refine Go.Wk.m _ (fun w' hc => r_field rfl off54_0) ?_
    refine Go.Wk.m _ (fun w' hc => (r_loadBlk rfl one40 (h0_q.md0 hc) rfl).to (b := v0_0) rfl) ?_
    refine Go.Wk.m _ (fun w' hc => r_move rfl) ?_
    refine Go.Wk.m _ (fun w' hc => r_nil rfl) ?_
    refine Go.Wk.m _ (fun w' hc => r_field rfl off54_1) ?_
    refine Go.Wk.m _ (fun w' hc => (r_loadBlk rfl one3 (h0_q.md0 hc) rfl).to (b := (.int .i64 ((s4.pos : Nat) : Int))) rfl) ?_
    have q6 : s4.pos < 9223372036854775808 := oks4
    refine Go.Wk.m _ (fun w' hc => r_subN (a := s4.pos) (b := 1) 9223372036854775808 rfl rfl rfl (by omega)) ?_
    refine Go.Wk.m _ (fun w' hc => r_indexN (i := s4.pos - 1) 1 rfl rfl u40 el3 a0_1.shp (by omega)) ?_
    obtain ⟨x7, hx7⟩ := getE (l := s4.l) (i := s4.pos - 1) (by first | omega | (simp <;> omega))
    obtain ⟨c8, hr7, ha7⟩ := a0_1_q.get hx7
    obtain ⟨rfl, hr7b⟩ := hr7
    replace ha7 : At _ v0_0 ((s4.pos - 1) * 1) [(.int .i64 (x7 : Int))] := ha7
    refine Go.Wk.m _ (fun w' hc => (r_loadE (kk := (s4.pos - 1) * 1) 0 rfl rfl one3 (ha7.md0 hc) rfl).to (b := (.int .i64 (x7 : Int))) rfl) ?_
    refine Go.Wk.m _ (fun w' hc => r_move rfl) ?_
    refine m_nil ?_
    replace a0_1 := a0_1.md0 hd0
    replace h0 := h0.md0 hd0
    replace uQ := uQ.md hd0
    replace M := M.step0 hd0
    clear h0_q a0_1_q
    clear MC
    have gx : s.l.getD s.pos 0 = x7 := by
      have hh := hx7
      rw [z2, z1, Nat.add_sub_cancel] at hh
      simp [List.getD, hh]
    refine st_call fn14 rfl (kNumber_any uQ (x7) (by omega) n (by first | omega | (simp <;> omega)) (by first | omega | (simp <;> omega) | (simp at * <;> omega))) ?_
    rintro en w9 ⟨x9_0, rfl, hm, q9_0, hF9⟩; refine ⟨_, rfl, ?_⟩
    replace a0_1 := a0_1.md0 hm
    replace h0 := h0.md0 hm
    replace uQ := uQ.md hm
    replace M := M.step0 hm
    have a9_0 := numF_lt x7 n; rw [hF9] at a9_0; try simp only [List.length_cons, List.length_nil, List.length_append, List.length_replicate, Nat.zero_add, Nat.reduceAdd, Nat.reduceMul] at a9_0
    refine st _ (r_assign rfl) ?_
    refine st_nil ?_
    clear ha7
    refine c_then ?_
    refine c_ret ?_
    exact ret1L (v := (.int .i64 ((x9_0 : Nat) : Int))) trivial rfl ⟨rfl, trivial⟩ ⟨x9_0, s4, _, rfl, M, (by first | assumption | omega | simp_all), h0, n0, oks4, (a0_1.sub (fun b hb _ => tQ b hb)), (by (try simp only [es4] at hF9); rw [Sq.num] <;> simp (disch := first | omega | assumption | (simp; done) | fail) only [if_pos, if_neg, Option.getD_some, Option.some.injEq, reduceIte, Bool.false_eq_true, Bool.true_eq_false, decide_true, decide_false, not_true_eq_false, not_false_eq_true, h14n, es4, hx7, gx, hF9])⟩
end Go.Proofs.Ytimakajeggeebaa
