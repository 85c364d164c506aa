/- Walks of functions: what each call returns, over data. -/
import Derived.Test.YtimakajeggeebaaRows
import Derived.Test.YtimakajeggeebaaFldS
import Derived.Test.YtimakajeggeebaaVSeq4
import Derived.Test.YtimakajeggeebaaWField
import Derived.Test.YtimakajeggeebaaWField3
namespace Go.Proofs.Ytimakajeggeebaa
open Go Go.Wk Go.RowKit
set_option linter.unusedVariables false
set_option linter.unusedSimpArgs false
attribute [local irreducible] wpList wpQuiet wpStill wpMix Code.wp Calls bodyPost
theorem fn112 : isFn Try.prog 112 = true := by kernel_rfl
theorem fn71 : isFn Try.prog 71 = true := by kernel_rfl
theorem fn85 : isFn Try.prog 85 = true := by kernel_rfl

theorem kName_any {w : World} {Q : Nat → Prop} (uQ : Up w Q) (s : List UInt8) :
    Calls Try.prog 37 #[str s] w fun en w' => ∃ r0 : Bool, en = .returned (.bool r0) ∧ Md [] w w' ∧ isName s = r0 := by
  refine (name_any s w).mono fun en w' ⟨he, hm⟩ => ⟨isName s, by rw [he], hm ▸ Md.refl [] w, rfl⟩
theorem kWhole_any {w : World} {Q : Nat → Prop} (uQ : Up w Q) (p : Pr) (p0 : p.name.length + p.value.length ≤ 4611686018427387904) :
    Calls Try.prog 62 #[.agg (Pr.cells p).toArray] w fun en w' => ∃ r0 : List UInt8, en = .returned (str r0) ∧ Md [] w w' ∧ payload p = r0 := by
  have M := Md.refl [] w
  have uQ0 := uQ
  have tQ : ∀ b, Q b → Q b := fun _ h => h
  have sQ0 : ∀ b, Q b → b < w.heap.size → Q b := fun _ h _ => h
  refine enter (n := 9) Try.func62 rfl rfl rfl ?_
  intro B
  refine c_seq ?_
  refine c_region ?_
  refine st_box (cs := (Pr.cells p)) rfl rfl ?_
  intro ba1 w1 ga1 la1 hm ha1
  have n_ha1 := uQ _ ga1
  replace ga1 := Nat.le_trans M.size ga1
  replace uQ := uQ.md hm
  replace M := M.step0 hm
  have p_ha1 : Fsh [] w ba1 := .inr ga1
  refine st _ (r_assign rfl) ?_
  refine st_nil ?_
  refine c_then ?_
  refine c_seq ?_
  refine c_region ?_
  refine st _ (r_field rfl off44_0) ?_
  refine st _ ((r_loadBlk rfl one9 ha1 rfl).to (b := (str p.name)) rfl) ?_
  refine st _ (r_addS (a := p.name) (b := (([61] : List UInt8))) rfl rfl (by first | omega | (simp <;> omega))) ?_
  refine st _ (r_field rfl off44_1) ?_
  refine st _ ((r_loadBlk rfl one9 ha1 rfl).to (b := (str p.value)) rfl) ?_
  refine st _ (r_addS (a := (p.name ++ (([61] : List UInt8)))) (b := p.value) rfl rfl (by first | omega | (simp <;> omega))) ?_
  refine st _ (r_assign rfl) ?_
  refine st_nil ?_
  refine c_then ?_
  refine c_ret ?_
  exact ret1L (v := (str ((p.name ++ (([61] : List UInt8))) ++ p.value))) trivial rfl ⟨rfl, trivial⟩ ⟨(p.name ++ (([61] : List UInt8))) ++ p.value, rfl, M, (by rw [payload] <;> simp (disch := first | omega | assumption | (simp; done) | fail) only [if_pos, if_neg, Option.getD_some, Option.some.injEq, reduceIte, Bool.false_eq_true, Bool.true_eq_false, decide_true, decide_false, not_true_eq_false, not_false_eq_true])⟩
theorem kJoin_any {w : World} {Q : Nat → Prop} (uQ : Up w Q) (p : Pr) :
    Calls Try.prog 28 #[.agg (Pr.cells p).toArray] w fun en w' => ∃ u0 : Value, ∃ r0 : List UInt8, ∃ r1 : Nat, en = .returned (.tuple #[u0, (.int .i64 ((r1 : Nat) : Int))]) ∧ Md [] w w' ∧ Ls tB8 w' Q u0 r0 ∧ r1 < 9223372036854775808 ∧ joinF p = (r0, r1) := by
  have M := Md.refl [] w
  have uQ0 := uQ
  have tQ : ∀ b, Q b → Q b := fun _ h => h
  have sQ0 : ∀ b, Q b → b < w.heap.size → Q b := fun _ h _ => h
  refine enter (n := 17) Try.func28 rfl rfl rfl ?_
  intro B
  refine c_seq ?_
  refine c_region ?_
  refine st_box (cs := (Pr.cells p)) rfl rfl ?_
  intro ba1 w1 ga1 la1 hm ha1
  have n_ha1 := uQ _ ga1
  replace ga1 := Nat.le_trans M.size ga1
  replace uQ := uQ.md hm
  replace M := M.step0 hm
  have p_ha1 : Fsh [] w ba1 := .inr ga1
  refine st _ (r_assign rfl) ?_
  refine st _ (r_assign rfl) ?_
  refine st_nil ?_
  refine c_then ?_
  refine c_seq ?_
  refine c_block ?_
  refine c_seq ?_
  refine c_region ?_
  refine st _ (r_field rfl off44_0) ?_
  refine st _ ((r_loadBlk rfl one9 ha1 rfl).to (b := (str p.name)) rfl) ?_
  refine st_call fn37 rfl (kName_any uQ p.name) ?_
  rintro en w2 ⟨x2_0, rfl, hm, hF2⟩; refine ⟨_, rfl, ?_⟩
  replace ha1 := ha1.md0 hm
  replace uQ := uQ.md hm
  replace M := M.step0 hm
  refine st _ (r_not rfl) ?_
  refine st _ (r_assign rfl) ?_
  refine st_nil ?_
  refine c_then ?_
  refine c_if rfl (fun h4 => ?_) (fun h4 => ?_)
  · skip
    first | (have h4n := of_decide_eq_true h4) | (have h4n := of_decide_eq_false (bnt h4)) | (have h4n := bnt h4) | (have h4n := h4)
    refine c_seq ?_
    refine c_region ?_
    refine st _ (r_assign rfl) ?_
    refine st _ (r_assign rfl) ?_
    refine st_nil ?_
    refine c_then ?_
    refine c_ret ?_
    refine r_block ?_
    refine r_then ?_
    exact retL (vs := [(.slice none 0 0), (.int .i64 ((1 : Nat) : Int))]) trivial rfl ⟨rfl, rfl, trivial⟩ rfl ⟨_, [], 1, rfl, M, (Ls.nil _ _ _), (by first | assumption | omega | simp_all), (by rw [joinF] <;> simp (disch := first | omega | assumption | (simp; done) | fail) only [if_pos, if_neg, Option.getD_some, Option.some.injEq, reduceIte, Bool.false_eq_true, Bool.true_eq_false, decide_true, decide_false, not_true_eq_false, not_false_eq_true, hF2, h4n])⟩
  · skip
    first | (have h4n := of_decide_eq_false h4) | (have h4n := of_decide_eq_true (bnf h4)) | (have h4n := bnf h4) | (have h4n := h4)
    refine c_seq ?_
    refine c_region ?_
    refine st _ (r_field rfl off44_1) ?_
    refine st _ ((r_loadBlk rfl one9 ha1 rfl).to (b := (str p.value)) rfl) ?_
    refine st _ (r_lenS (s := p.value) rfl u9) ?_
    refine st _ (r_gtN (a := p.value.length) (b := 256) rfl rfl) ?_
    refine st _ (r_assign rfl) ?_
    refine st_nil ?_
    refine c_then ?_
    refine c_if rfl (fun h9 => ?_) (fun h9 => ?_)
    · skip
      first | (have h9n := of_decide_eq_true h9) | (have h9n := of_decide_eq_false (bnt h9)) | (have h9n := bnt h9) | (have h9n := h9)
      refine c_seq ?_
      refine c_region ?_
      refine st _ (r_assign rfl) ?_
      refine st _ (r_assign rfl) ?_
      refine st_nil ?_
      refine c_then ?_
      refine c_ret ?_
      refine r_block ?_
      refine r_then ?_
      exact retL (vs := [(.slice none 0 0), (.int .i64 ((21 : Nat) : Int))]) trivial rfl ⟨rfl, rfl, trivial⟩ rfl ⟨_, [], 21, rfl, M, (Ls.nil _ _ _), (by first | assumption | omega | simp_all), (by rw [joinF] <;> simp (disch := first | omega | assumption | (simp; done) | fail) only [if_pos, if_neg, Option.getD_some, Option.some.injEq, reduceIte, Bool.false_eq_true, Bool.true_eq_false, decide_true, decide_false, not_true_eq_false, not_false_eq_true, hF2, h4n, h9n])⟩
    · skip
      first | (have h9n := of_decide_eq_false h9) | (have h9n := of_decide_eq_true (bnf h9)) | (have h9n := bnf h9) | (have h9n := h9)
      refine c_skip ?_
      refine n_block ?_
      refine c_then ?_
      refine c_seq ?_
      refine c_region ?_
      have nl := (name_len (s := p.name) (by simp_all)).2
      refine st _ (r_loadPart (Pr.cells p) rfl (by exact agg44) ha1 rfl) ?_
      refine st_call fn62 rfl (kWhole_any uQ p (by first | omega | (simp <;> omega) | (simp at * <;> omega))) ?_
      rintro en w3 ⟨x3_0, rfl, hm, hF3⟩; refine ⟨_, rfl, ?_⟩
      replace ha1 := ha1.md0 hm
      replace uQ := uQ.md hm
      replace M := M.step0 hm
      have a3_0 := payload_len p; rw [hF3] at a3_0; try simp only [List.length_cons, List.length_nil, List.length_append, List.length_replicate, Nat.zero_add, Nat.reduceAdd, Nat.reduceMul] at a3_0
      refine st_convSB (s := x3_0) u9 u25 u5 rfl (by simp [maxLen]; omega) ?_
      intro va16 w4 hm ha16 fa16
      replace ha16 := Ls.of_by (Q := Q) ha16 (fun b hb _ => uQ b (fa16 b hb).1)
      replace fa16 : ∀ b, vblock va16 = some b → w.heap.size ≤ b := fun b hb => Nat.le_trans M.size (fa16 b hb).1
      replace ha1 := ha1.md0 hm
      replace uQ := uQ.md hm
      replace M := M.step0 hm
      refine st _ (r_assign rfl) ?_
      refine st _ (r_assign rfl) ?_
      refine st_nil ?_
      refine c_then ?_
      refine c_ret ?_
      exact retL (vs := [va16, (.int .i64 ((0 : Nat) : Int))]) trivial rfl ⟨rfl, rfl, trivial⟩ rfl ⟨_, x3_0, 0, rfl, M, (ha16.sub (fun b hb _ => tQ b hb)), (by first | assumption | omega | simp_all), (by rw [joinF] <;> simp (disch := first | omega | assumption | (simp; done) | fail) only [if_pos, if_neg, Option.getD_some, Option.some.injEq, reduceIte, Bool.false_eq_true, Bool.true_eq_false, decide_true, decide_false, not_true_eq_false, not_false_eq_true, hF2, h4n, h9n, hF3])⟩
theorem kSame_any {w : World} {Q : Nat → Prop} (uQ : Up w Q) {v0 : Value} {a : List Pr} (h0 : Ls tPr w Q v0 a) {v1 : Value} {b : List Pr} (h1 : Ls tPr w Q v1 b) :
    Calls Try.prog 43 #[v0, v1] w fun en w' => ∃ r0 : Bool, en = .returned (.bool r0) ∧ Md [] w w' ∧ samePairsF a b = r0 := by
  have L0 := h0.len63
  have L1 := h1.len63
  have M := Md.refl [] w
  have uQ0 := uQ
  have tQ : ∀ b, Q b → Q b := fun _ h => h
  have sQ0 : ∀ b, Q b → b < w.heap.size → Q b := fun _ h _ => h
  refine enter (n := 26) Try.func43 rfl rfl rfl ?_
  intro B
  refine c_seq ?_
  refine c_region ?_
  refine st _ (r_assign rfl) ?_
  refine st_nil ?_
  refine c_then ?_
  refine c_seq ?_
  refine c_seq ?_
  refine c_region ?_
  refine st _ (r_move rfl) ?_
  refine st _ (r_len rfl u61 h0.shp) ?_
  refine st _ (r_move rfl) ?_
  refine st _ (r_len rfl u61 h1.shp) ?_
  refine st _ (r_neN (a := a.length) (b := b.length) rfl rfl) ?_
  refine st_nil ?_
  refine c_then ?_
  refine c_if rfl (fun h10 => ?_) (fun h10 => ?_)
  · skip
    first | (have h10n := of_decide_eq_true h10) | (have h10n := of_decide_eq_false (bnt h10)) | (have h10n := bnt h10) | (have h10n := h10)
    refine c_seq ?_
    refine c_region ?_
    refine st _ (r_assign rfl) ?_
    refine st_nil ?_
    refine c_then ?_
    refine c_ret ?_
    refine r_then ?_
    exact ret1L (v := (.bool false)) trivial rfl ⟨rfl, trivial⟩ ⟨false, rfl, M, (by rw [samePairsF] <;> simp (disch := first | omega | assumption | (simp; done) | fail) only [if_pos, if_neg, Option.getD_some, Option.some.injEq, reduceIte, Bool.false_eq_true, Bool.true_eq_false, decide_true, decide_false, not_true_eq_false, not_false_eq_true, h10n])⟩
  · skip
    first | (have h10n := of_decide_eq_false h10) | (have h10n := of_decide_eq_true (bnf h10)) | (have h10n := bnf h10) | (have h10n := h10)
    refine c_skip ?_
    refine c_then ?_
    refine c_seq ?_
    refine c_seq ?_
    refine c_region ?_
    refine st _ (r_assign rfl) ?_
    refine st_nil ?_
    refine c_then ?_
    refine c_block ?_
    obtain ⟨r0, hr00⟩ : ∃ r, eqL a b = r := ⟨_, rfl⟩
    try simp only [List.nil_append] at hr00
    refine loop1 (fun (i : Nat) => [(5, (.int .i64 ((i : Nat) : Int))), (0, v0), (1, v1)]) (fun (i : Nat) w' => ∃ Q' : Nat → Prop, (∀ b, Q' b → Q b) ∧ (∀ b, Q b → b < w.heap.size → Q' b) ∧ Up w' Q' ∧ Md [] w w' ∧ Ls tPr w' Q' v0 a ∧ Ls tPr w' Q' v1 b ∧ eqL (a.drop i) (b.drop i) = r0) (fun (i : Nat) => a.length - i) (x0 := 0) ?_ ?_ ?_
    · exact ⟨rfl, rfl, rfl, trivial⟩
    · exact ⟨Q, tQ, sQ0, uQ, M, h0, h1, (by have hh := hr00; first | exact hh | (simp only [List.nil_append] at hh; exact hh))⟩
    · clear M uQ tQ sQ0 h0 h1
      rintro i B w1 ⟨Q2, tQ, sQ0, uQ, M, h0, h1, hr0⟩
      refine c_seq ?_
      refine c_seq ?_
      refine c_region ?_
      refine st _ (r_move rfl) ?_
      refine st _ (r_move rfl) ?_
      refine st _ (r_len rfl u61 h0.shp) ?_
      refine st _ (r_ltN (a := i) (b := a.length) rfl rfl) ?_
      refine st_nil ?_
      refine c_then ?_
      refine c_if rfl (fun h14 => ?_) (fun h14 => ?_)
      · skip
        first | (have h14n := of_decide_eq_true h14) | (have h14n := of_decide_eq_false (bnt h14)) | (have h14n := bnt h14) | (have h14n := h14)
        refine c_skip ?_
        refine c_then ?_
        refine c_seq ?_
        refine c_block ?_
        refine c_seq ?_
        have h0_q := h0
        have h1_q := h1
        refine c_mixT [(0, true), (1, true), (2, true), (3, true), (4, true), (5, true), (6, true), (7, true)] [8] (fun w' => Md [] w1 w') mixed (by kernel_rfl) ?_
        intro w3 hd0; refine ⟨hd0.mono (by simp), ?_⟩; have MC := hd0.mono (T := []) (by simp)
        refine Go.Wk.m _ (fun w' hc => r_move rfl) ?_
        refine Go.Wk.m _ (fun w' hc => r_move rfl) ?_
        refine Go.Wk.m _ (fun w' hc => r_indexN (i := i) 2 rfl rfl u61 el44 h0.shp (by omega)) ?_
        obtain ⟨x4, hx4⟩ := getE (l := a) (i := i) (by first | omega | (simp <;> omega))
        obtain ⟨c5, hr4, ha4⟩ := h0_q.get hx4
        obtain ⟨_, rfl⟩ := tPr_un hr4
        replace ha4 : At _ v0 (i * 2) (Pr.cells x4) := ha4
        refine Go.Wk.m _ (fun w' hc => r_loadEA (kk := i * 2) (Pr.cells x4) 0 rfl rfl (by exact agg44) (ha4.md0 hc) rfl) ?_
        refine Go.Wk.m _ (fun w' hc => r_move rfl) ?_
        refine Go.Wk.m _ (fun w' hc => r_move rfl) ?_
        refine Go.Wk.m _ (fun w' hc => r_indexN (i := i) 2 rfl rfl u61 el44 h1.shp (by omega)) ?_
        obtain ⟨x6, hx6⟩ := getE (l := b) (i := i) (by first | omega | (simp <;> omega))
        obtain ⟨c7, hr6, ha6⟩ := h1_q.get hx6
        obtain ⟨_, rfl⟩ := tPr_un hr6
        replace ha6 : At _ v1 (i * 2) (Pr.cells x6) := ha6
        refine Go.Wk.m _ (fun w' hc => r_loadEA (kk := i * 2) (Pr.cells x6) 0 rfl rfl (by exact agg44) (ha6.md0 hc) rfl) ?_
        refine m_nil ?_
        replace h0 := h0.md0 hd0
        replace h1 := h1.md0 hd0
        replace uQ := uQ.md hd0
        replace M := M.step0 hd0
        clear h0_q h1_q
        clear MC
        refine st _ (r_neqPr (p := x4) (q := x6) pair44 u9 rfl rfl) ?_
        refine st_nil ?_
        clear ha4
        clear ha6
        refine c_then ?_
        refine c_if rfl (fun h25 => ?_) (fun h25 => ?_)
        · skip
          first | (have h25n := of_decide_eq_true h25) | (have h25n := of_decide_eq_false (bnt h25)) | (have h25n := bnt h25) | (have h25n := h25)
          refine c_seq ?_
          refine c_region ?_
          refine st _ (r_assign rfl) ?_
          refine st_nil ?_
          refine c_then ?_
          refine c_ret ?_
          refine r_block ?_
          refine r_then ?_
          refine r_then ?_
          refine r_block ?_
          refine r_then ?_
          exact ret1L (v := (.bool false)) trivial rfl ⟨rfl, trivial⟩ ⟨false, rfl, M, (by (try (simp (disch := first | omega | assumption | (simp; done) | fail) only [eqL_end, eqL_step hx4, eqL_step hx6, if_pos, if_neg, Option.getD_some, Option.some.injEq, reduceIte, Bool.false_eq_true, Bool.true_eq_false, decide_true, decide_false, not_true_eq_false, not_false_eq_true, h10n, h14n, hx4, hx6, h25n] at hr0)); rw [samePairsF] <;> simp (disch := first | omega | assumption | (simp; done) | fail) only [if_pos, if_neg, Option.getD_some, Option.some.injEq, reduceIte, Bool.false_eq_true, Bool.true_eq_false, decide_true, decide_false, not_true_eq_false, not_false_eq_true, h10n, hr00, h14n, hx4, hx6, h25n, ← hr0])⟩
        · skip
          first | (have h25n := of_decide_eq_false h25) | (have h25n := of_decide_eq_true (bnf h25)) | (have h25n := bnf h25) | (have h25n := h25)
          refine c_skip ?_
          refine n_block ?_
          refine c_then ?_
          refine c_region ?_
          refine st _ (r_move rfl) ?_
          refine st _ (r_addN (a := i) (b := 1) 9223372036854775808 rfl rfl rfl (by omega)) ?_
          refine st _ (r_assign rfl) ?_
          refine st_nil ?_
          refine c_then ?_
          refine next1 (x0 := (i + 1)) (by omega) ⟨(fitI rfl (by omega)), rfl, rfl, trivial⟩ ⟨Q2, tQ, sQ0, uQ, M, h0, h1, (by have hh := hr0; simp (disch := first | omega | assumption | (simp; done) | fail) only [eqL_end, eqL_step hx4, eqL_step hx6, if_pos, if_neg, Option.getD_some, Option.some.injEq, reduceIte, Bool.false_eq_true, Bool.true_eq_false, decide_true, decide_false, not_true_eq_false, not_false_eq_true, h10n, h14n, hx4, hx6, h25n] at hh; first | exact hh | (simp only [List.append_assoc, List.cons_append, List.nil_append, List.singleton_append] at hh ⊢; exact hh))⟩
      · skip
        first | (have h14n := of_decide_eq_false h14) | (have h14n := of_decide_eq_true (bnf h14)) | (have h14n := bnf h14) | (have h14n := h14)
        refine c_exit ?_
        refine x_then ?_
        refine x_then ?_
        refine x_hit ?_
        refine c_then ?_
        refine c_seq ?_
        refine c_region ?_
        refine st _ (r_assign rfl) ?_
        refine st_nil ?_
        refine c_then ?_
        refine c_ret ?_
        exact ret1L (v := (.bool true)) trivial rfl ⟨rfl, trivial⟩ ⟨true, rfl, M, (by (try (simp (disch := first | omega | assumption | (simp; done) | fail) only [eqL_end, if_pos, if_neg, Option.getD_some, Option.some.injEq, reduceIte, Bool.false_eq_true, Bool.true_eq_false, decide_true, decide_false, not_true_eq_false, not_false_eq_true, h10n, h14n] at hr0)); rw [samePairsF] <;> simp (disch := first | omega | assumption | (simp; done) | fail) only [if_pos, if_neg, Option.getD_some, Option.some.injEq, reduceIte, Bool.false_eq_true, Bool.true_eq_false, decide_true, decide_false, not_true_eq_false, not_false_eq_true, h10n, hr00, h14n, ← hr0])⟩
theorem kSameT_any {w : World} {Q : Nat → Prop} (uQ : Up w Q) {v0 : Value} {a : List (List UInt8)} (h0 : Ls tStr w Q v0 a) {v1 : Value} {b : List (List UInt8)} (h1 : Ls tStr w Q v1 b) :
    Calls Try.prog 45 #[v0, v1] w fun en w' => ∃ r0 : Bool, en = .returned (.bool r0) ∧ Md [] w w' ∧ sameTextsF a b = r0 := by
  have L0 := h0.len63
  have L1 := h1.len63
  have M := Md.refl [] w
  have uQ0 := uQ
  have tQ : ∀ b, Q b → Q b := fun _ h => h
  have sQ0 : ∀ b, Q b → b < w.heap.size → Q b := fun _ h _ => h
  refine enter (n := 26) Try.func45 rfl rfl rfl ?_
  intro B
  refine c_seq ?_
  refine c_region ?_
  refine st _ (r_assign rfl) ?_
  refine st_nil ?_
  refine c_then ?_
  refine c_seq ?_
  refine c_seq ?_
  refine c_region ?_
  refine st _ (r_move rfl) ?_
  refine st _ (r_len rfl u67 h0.shp) ?_
  refine st _ (r_move rfl) ?_
  refine st _ (r_len rfl u67 h1.shp) ?_
  refine st _ (r_neN (a := a.length) (b := b.length) rfl rfl) ?_
  refine st_nil ?_
  refine c_then ?_
  refine c_if rfl (fun h10 => ?_) (fun h10 => ?_)
  · skip
    first | (have h10n := of_decide_eq_true h10) | (have h10n := of_decide_eq_false (bnt h10)) | (have h10n := bnt h10) | (have h10n := h10)
    refine c_seq ?_
    refine c_region ?_
    refine st _ (r_assign rfl) ?_
    refine st_nil ?_
    refine c_then ?_
    refine c_ret ?_
    refine r_then ?_
    exact ret1L (v := (.bool false)) trivial rfl ⟨rfl, trivial⟩ ⟨false, rfl, M, (by rw [sameTextsF] <;> simp (disch := first | omega | assumption | (simp; done) | fail) only [if_pos, if_neg, Option.getD_some, Option.some.injEq, reduceIte, Bool.false_eq_true, Bool.true_eq_false, decide_true, decide_false, not_true_eq_false, not_false_eq_true, h10n])⟩
  · skip
    first | (have h10n := of_decide_eq_false h10) | (have h10n := of_decide_eq_true (bnf h10)) | (have h10n := bnf h10) | (have h10n := h10)
    refine c_skip ?_
    refine c_then ?_
    refine c_seq ?_
    refine c_seq ?_
    refine c_region ?_
    refine st _ (r_assign rfl) ?_
    refine st_nil ?_
    refine c_then ?_
    refine c_block ?_
    obtain ⟨r0, hr00⟩ : ∃ r, eqT a b = r := ⟨_, rfl⟩
    try simp only [List.nil_append] at hr00
    refine loop1 (fun (i : Nat) => [(5, (.int .i64 ((i : Nat) : Int))), (0, v0), (1, v1)]) (fun (i : Nat) w' => ∃ Q' : Nat → Prop, (∀ b, Q' b → Q b) ∧ (∀ b, Q b → b < w.heap.size → Q' b) ∧ Up w' Q' ∧ Md [] w w' ∧ Ls tStr w' Q' v0 a ∧ Ls tStr w' Q' v1 b ∧ eqT (a.drop i) (b.drop i) = r0) (fun (i : Nat) => a.length - i) (x0 := 0) ?_ ?_ ?_
    · exact ⟨rfl, rfl, rfl, trivial⟩
    · exact ⟨Q, tQ, sQ0, uQ, M, h0, h1, (by have hh := hr00; first | exact hh | (simp only [List.nil_append] at hh; exact hh))⟩
    · clear M uQ tQ sQ0 h0 h1
      rintro i B w1 ⟨Q2, tQ, sQ0, uQ, M, h0, h1, hr0⟩
      refine c_seq ?_
      refine c_seq ?_
      refine c_region ?_
      refine st _ (r_move rfl) ?_
      refine st _ (r_move rfl) ?_
      refine st _ (r_len rfl u67 h0.shp) ?_
      refine st _ (r_ltN (a := i) (b := a.length) rfl rfl) ?_
      refine st_nil ?_
      refine c_then ?_
      refine c_if rfl (fun h14 => ?_) (fun h14 => ?_)
      · skip
        first | (have h14n := of_decide_eq_true h14) | (have h14n := of_decide_eq_false (bnt h14)) | (have h14n := bnt h14) | (have h14n := h14)
        refine c_skip ?_
        refine c_then ?_
        refine c_seq ?_
        refine c_block ?_
        refine c_seq ?_
        have h0_q := h0
        have h1_q := h1
        refine c_mixT [(0, true), (1, true), (2, true), (3, true), (4, true), (5, true), (6, true), (7, true)] [8] (fun w' => Md [] w1 w') mixed (by kernel_rfl) ?_
        intro w3 hd0; refine ⟨hd0.mono (by simp), ?_⟩; have MC := hd0.mono (T := []) (by simp)
        refine Go.Wk.m _ (fun w' hc => r_move rfl) ?_
        refine Go.Wk.m _ (fun w' hc => r_move rfl) ?_
        refine Go.Wk.m _ (fun w' hc => r_indexN (i := i) 1 rfl rfl u67 el9 h0.shp (by omega)) ?_
        obtain ⟨x4, hx4⟩ := getE (l := a) (i := i) (by first | omega | (simp <;> omega))
        obtain ⟨c5, hr4, ha4⟩ := h0_q.get hx4
        obtain ⟨rfl, _⟩ := hr4
        replace ha4 : At _ v0 (i * 1) [(str x4)] := ha4
        refine Go.Wk.m _ (fun w' hc => (r_loadE (kk := i * 1) 0 rfl rfl one9 (ha4.md0 hc) rfl).to (b := (str x4)) rfl) ?_
        refine Go.Wk.m _ (fun w' hc => r_move rfl) ?_
        refine Go.Wk.m _ (fun w' hc => r_move rfl) ?_
        refine Go.Wk.m _ (fun w' hc => r_indexN (i := i) 1 rfl rfl u67 el9 h1.shp (by omega)) ?_
        obtain ⟨x6, hx6⟩ := getE (l := b) (i := i) (by first | omega | (simp <;> omega))
        obtain ⟨c7, hr6, ha6⟩ := h1_q.get hx6
        obtain ⟨rfl, _⟩ := hr6
        replace ha6 : At _ v1 (i * 1) [(str x6)] := ha6
        refine Go.Wk.m _ (fun w' hc => (r_loadE (kk := i * 1) 0 rfl rfl one9 (ha6.md0 hc) rfl).to (b := (str x6)) rfl) ?_
        refine m_nil ?_
        replace h0 := h0.md0 hd0
        replace h1 := h1.md0 hd0
        replace uQ := uQ.md hd0
        replace M := M.step0 hd0
        clear h0_q h1_q
        clear MC
        refine st _ (r_neqS (a := x4) (b := x6) rfl rfl) ?_
        refine st_nil ?_
        clear ha4
        clear ha6
        refine c_then ?_
        refine c_if rfl (fun h25 => ?_) (fun h25 => ?_)
        · skip
          first | (have h25n := of_decide_eq_true h25) | (have h25n := of_decide_eq_false (bnt h25)) | (have h25n := bnt h25) | (have h25n := h25)
          refine c_seq ?_
          refine c_region ?_
          refine st _ (r_assign rfl) ?_
          refine st_nil ?_
          refine c_then ?_
          refine c_ret ?_
          refine r_block ?_
          refine r_then ?_
          refine r_then ?_
          refine r_block ?_
          refine r_then ?_
          exact ret1L (v := (.bool false)) trivial rfl ⟨rfl, trivial⟩ ⟨false, rfl, M, (by (try (simp (disch := first | omega | assumption | (simp; done) | fail) only [eqT_end, eqT_step hx4, eqT_step hx6, if_pos, if_neg, Option.getD_some, Option.some.injEq, reduceIte, Bool.false_eq_true, Bool.true_eq_false, decide_true, decide_false, not_true_eq_false, not_false_eq_true, h10n, h14n, hx4, hx6, h25n] at hr0)); rw [sameTextsF] <;> simp (disch := first | omega | assumption | (simp; done) | fail) only [if_pos, if_neg, Option.getD_some, Option.some.injEq, reduceIte, Bool.false_eq_true, Bool.true_eq_false, decide_true, decide_false, not_true_eq_false, not_false_eq_true, h10n, hr00, h14n, hx4, hx6, h25n, ← hr0])⟩
        · skip
          first | (have h25n := of_decide_eq_false h25) | (have h25n := of_decide_eq_true (bnf h25)) | (have h25n := bnf h25) | (have h25n := h25)
          refine c_skip ?_
          refine n_block ?_
          refine c_then ?_
          refine c_region ?_
          refine st _ (r_move rfl) ?_
          refine st _ (r_addN (a := i) (b := 1) 9223372036854775808 rfl rfl rfl (by omega)) ?_
          refine st _ (r_assign rfl) ?_
          refine st_nil ?_
          refine c_then ?_
          refine next1 (x0 := (i + 1)) (by omega) ⟨(fitI rfl (by omega)), rfl, rfl, trivial⟩ ⟨Q2, tQ, sQ0, uQ, M, h0, h1, (by have hh := hr0; simp (disch := first | omega | assumption | (simp; done) | fail) only [eqT_end, eqT_step hx4, eqT_step hx6, if_pos, if_neg, Option.getD_some, Option.some.injEq, reduceIte, Bool.false_eq_true, Bool.true_eq_false, decide_true, decide_false, not_true_eq_false, not_false_eq_true, h10n, h14n, hx4, hx6, h25n] at hh; first | exact hh | (simp only [List.append_assoc, List.cons_append, List.nil_append, List.singleton_append] at hh ⊢; exact hh))⟩
      · skip
        first | (have h14n := of_decide_eq_false h14) | (have h14n := of_decide_eq_true (bnf h14)) | (have h14n := bnf h14) | (have h14n := h14)
        refine c_exit ?_
        refine x_then ?_
        refine x_then ?_
        refine x_hit ?_
        refine c_then ?_
        refine c_seq ?_
        refine c_region ?_
        refine st _ (r_assign rfl) ?_
        refine st_nil ?_
        refine c_then ?_
        refine c_ret ?_
        exact ret1L (v := (.bool true)) trivial rfl ⟨rfl, trivial⟩ ⟨true, rfl, M, (by (try (simp (disch := first | omega | assumption | (simp; done) | fail) only [eqT_end, if_pos, if_neg, Option.getD_some, Option.some.injEq, reduceIte, Bool.false_eq_true, Bool.true_eq_false, decide_true, decide_false, not_true_eq_false, not_false_eq_true, h10n, h14n] at hr0)); rw [sameTextsF] <;> simp (disch := first | omega | assumption | (simp; done) | fail) only [if_pos, if_neg, Option.getD_some, Option.some.injEq, reduceIte, Bool.false_eq_true, Bool.true_eq_false, decide_true, decide_false, not_true_eq_false, not_false_eq_true, h10n, hr00, h14n, ← hr0])⟩
theorem kVals_any {w : World} {Q : Nat → Prop} (uQ : Up w Q) {v0 : Value} {l : List Pr} (h0 : Ls tPr w Q v0 l) (nm : List UInt8) (p0 : l.length ≤ 1000) :
    Calls Try.prog 46 #[v0, (str nm)] w fun en w' => ∃ u0 : Value, ∃ r0 : List (List UInt8), en = .returned (u0) ∧ Md [] w w' ∧ Ls tStr w' Q u0 r0 ∧ ofName nm l = r0 := by
  have L0 := h0.len63
  have M := Md.refl [] w
  have uQ0 := uQ
  have tQ : ∀ b, Q b → Q b := fun _ h => h
  have sQ0 : ∀ b, Q b → b < w.heap.size → Q b := fun _ h _ => h
  refine enter (n := 25) Try.func46 rfl rfl rfl ?_
  intro B
  refine c_seq ?_
  refine c_region ?_
  refine st _ (r_assign rfl) ?_
  refine st_nil ?_
  refine c_then ?_
  refine c_seq ?_
  refine c_region ?_
  refine st _ (r_assign rfl) ?_
  refine st_nil ?_
  refine c_then ?_
  refine c_seq ?_
  refine c_seq ?_
  refine c_region ?_
  refine st _ (r_move rfl) ?_
  refine st _ (r_len rfl u61 h0.shp) ?_
  refine st _ (r_move rfl) ?_
  refine st_nil ?_
  refine c_then ?_
  refine c_block ?_
  obtain ⟨r0, hr00⟩ : ∃ r, ofName nm l = r := ⟨_, rfl⟩
  try simp only [List.nil_append] at hr00
  refine loop3 (fun (vo : Value) (o : List (List UInt8)) (i : Nat) => [(5, vo), (10, (.int .i64 ((i : Nat) : Int))), (1, (str nm)), (4, (.slice none 0 0)), (8, v0), (9, (.int .i64 ((l.length : Nat) : Int)))]) (fun (vo : Value) (o : List (List UInt8)) (i : Nat) w' => ∃ Q' : Nat → Prop, (∀ b, Q' b → Q b) ∧ (∀ b, Q b → b < w.heap.size → Q' b) ∧ Up w' Q' ∧ Md [] w w' ∧ Ow tStr 9 (Fsh [] w) w' Q' vo o ∧ Ls tPr w' Q' v0 l ∧ (o.length ≤ i ∧ i ≤ l.length) ∧ o ++ ofName nm (l.drop i) = r0) (fun (vo : Value) (o : List (List UInt8)) (i : Nat) => l.length - i) (x0 := (.slice none 0 0)) (x1 := ([] : List (List UInt8))) (x2 := 0) ?_ ?_ ?_
  · exact ⟨rfl, rfl, rfl, rfl, rfl, rfl, trivial⟩
  · exact ⟨Q, tQ, sQ0, uQ, M, (Ow.nil _ _ _ _ _), h0, (by simp), (by have hh := hr00; first | exact hh | (simp only [List.nil_append] at hh; exact hh))⟩
  · clear M uQ tQ sQ0 h0
    rintro vo o i B w1 ⟨Q2, tQ, sQ0, uQ, M, f_o, h0, i0_0, hr0⟩
    refine c_seq ?_
    refine c_region ?_
    refine st _ (r_ltN (a := i) (b := l.length) rfl rfl) ?_
    refine st_nil ?_
    refine c_then ?_
    refine c_seq ?_
    refine c_if rfl (fun h11 => ?_) (fun h11 => ?_)
    · skip
      first | (have h11n := of_decide_eq_true h11) | (have h11n := of_decide_eq_false (bnt h11)) | (have h11n := bnt h11) | (have h11n := h11)
      refine c_skip ?_
      refine c_then ?_
      refine c_seq ?_
      refine c_block ?_
      refine c_seq ?_
      refine c_region ?_
      refine st _ (r_indexN (i := i) 2 rfl rfl u61 el44 h0.shp (by omega)) ?_
      obtain ⟨x3, hx3⟩ := getE (l := l) (i := i) (by first | omega | (simp <;> omega))
      obtain ⟨c4, hr3, ha3⟩ := h0.get hx3
      obtain ⟨_, rfl⟩ := tPr_un hr3
      replace ha3 : At _ v0 (i * 2) (Pr.cells x3) := ha3
      refine st _ (r_loadEA (kk := i * 2) (Pr.cells x3) 0 rfl rfl (by exact agg44) ha3 rfl) ?_
      refine st_alloc z44 ?_
      intro ba7 w5 ga7 la7 hm ha7
      obtain ⟨Q6, sQ, sT, n_ha7, uQ2⟩ := exQ uQ ga7 la7 hm
      replace f_o := f_o.sub sQ sT
      replace h0 := h0.sub sQ
      replace tQ := fun b hb => tQ b (sT b hb)
      replace sQ0 := fun b hb hl => sQ b (sQ0 b hb hl) (Nat.lt_of_lt_of_le hl M.size)
      replace ga7 := Nat.le_trans M.size ga7
      replace f_o := f_o.md0 hm
      replace h0 := h0.md0 hm
      replace ha3 := ha3.md0 hm
      replace uQ := uQ.md hm
      replace M := M.step0 hm
      clear uQ; have uQ := uQ2; clear uQ2 sQ sT
      have p_ha7 : Fsh [] w ba7 := .inr ga7
      replace ha7 : Blk _ _ (Pr.cells (({ name := [], value := [] } : Pr))) _ := ha7
      refine st_storeAgg (us := (Pr.cells x3)) rfl rfl (by exact agg44) (by first | exact fun u hu => one_cells (Pr.one ) u hu | exact fun u hu => one_cells rfl u hu) ha7 (Nat.le_of_ble_eq_true rfl) ?_
      have ha70 := ha7; clear ha7; intro w7 hm ha7
      have hS : ∀ b ∈ [ba7], ¬ Q6 b := by intro b hb; simp at hb; subst hb; exact n_ha7
      replace f_o := f_o.md hm (apart_bo ha70 f_o (by decide)) hS
      replace h0 := h0.md hm hS
      clear ha3
      replace uQ := uQ.md hm
      replace M := M.step hm (all_cons p_ha7 all_nil)
      clear ha70 hS
      replace ha7 : Blk _ _ (Pr.cells x3) _ := ha7
      refine st_nil ?_
      refine c_then ?_
      refine c_seq ?_
      refine c_region ?_
      refine st _ (r_field rfl off44_0) ?_
      refine st _ ((r_loadBlk rfl one9 ha7 rfl).to (b := (str x3.name)) rfl) ?_
      refine st _ (r_move rfl) ?_
      refine st _ (r_eqlS (a := x3.name) (b := nm) rfl rfl) ?_
      refine st_nil ?_
      refine c_then ?_
      refine c_if rfl (fun h17 => ?_) (fun h17 => ?_)
      · skip
        first | (have h17n := of_decide_eq_true h17) | (have h17n := of_decide_eq_false (bnt h17)) | (have h17n := bnt h17) | (have h17n := h17)
        refine c_region ?_
        refine st _ (r_move rfl) ?_
        refine st _ (r_field rfl off44_1) ?_
        refine st _ ((r_loadBlk rfl one9 ha7 rfl).to (b := (str x3.value)) rfl) ?_
        refine st_buildSliceG [[(str x3.value)]] u67 elT9 (by decide) (by decide) rfl rfl ⟨rfl, trivial⟩ ⟨rfl, trivial⟩ rfl (by decide) ?_
        intro ba21 w8 ga21 la21 hm ha21
        have ya21 := uQ _ ga21
        replace f_o := f_o.md0 hm
        replace h0 := h0.md0 hm
        replace ha7 := ha7.md0 hm
        replace uQ := uQ.md hm
        replace M := M.step0 hm
        replace ha21 := Ls.of_blk (m := 1) (R := Q6) (T := tStr) (xs := [x3.value]) ha21 ⟨_, _, rfl, ⟨rfl, trivial⟩, rfl⟩ rfl (by decide) ya21
        refine st_ap (sz := 1) (by rfl) u67 elT9 rfl rfl f_o ha21 (fun _ h _ => h) uQ (Fsh.new M) (by first | omega | (simp <;> omega) | (simp at * <;> omega)) (by first | omega | (simp <;> omega) | (simp at * <;> omega)) ?_
        intro v10 w11 Q12 sQ sT uQ2 hO9 hm hS _ hv2
        have f_o0 := f_o; clear f_o
        replace h0 := h0.sub sQ
        replace n_ha7 := fun hh => n_ha7 (sT _ hh)
        replace ha21 := ha21.sub sQ
        replace tQ := fun b hb => tQ b (sT b hb)
        replace sQ0 := fun b hb hl => sQ b (sQ0 b hb hl) (Nat.lt_of_lt_of_le hl M.size)
        replace h0 := h0.md hm hS
        replace ha7 := ha7.md hm (apart_ow f_o0 ha7 (by decide))
        replace ha21 := ha21.md hm hS
        replace uQ := uQ.md hm
        replace M := M.stepO hm (fun b hb => (f_o0.2 b hb).1)
        clear uQ; have uQ := uQ2; clear uQ2 sQ sT hS hv2
        refine st _ (r_assign rfl) ?_
        refine st_nil ?_
        refine n_block ?_
        refine c_then ?_
        refine c_region ?_
        refine st _ (r_addN (a := i) (b := 1) 9223372036854775808 rfl rfl rfl (by omega)) ?_
        refine st _ (r_move rfl) ?_
        refine st_nil ?_
        refine c_then ?_
        refine next3 (x0 := v10) (x1 := (o ++ ([x3.value]))) (x2 := (i + 1)) (by omega) ⟨rfl, (fitI rfl (by omega)), rfl, rfl, rfl, rfl, trivial⟩ ⟨Q12, tQ, sQ0, uQ, M, hO9, h0, (by first | omega | (simp; omega)), (by have hh := hr0; simp (disch := first | omega | assumption | (simp; done) | fail) only [ofName_end, List.append_nil, ofName_step hx3, if_pos, if_neg, Option.getD_some, Option.some.injEq, reduceIte, Bool.false_eq_true, Bool.true_eq_false, decide_true, decide_false, not_true_eq_false, not_false_eq_true, h11n, hx3, h17n] at hh; first | exact hh | (simp only [List.append_assoc, List.cons_append, List.nil_append, List.singleton_append] at hh ⊢; exact hh))⟩
      · skip
        first | (have h17n := of_decide_eq_false h17) | (have h17n := of_decide_eq_true (bnf h17)) | (have h17n := bnf h17) | (have h17n := h17)
        refine c_skip ?_
        refine n_block ?_
        refine c_then ?_
        refine c_region ?_
        refine st _ (r_addN (a := i) (b := 1) 9223372036854775808 rfl rfl rfl (by omega)) ?_
        refine st _ (r_move rfl) ?_
        refine st_nil ?_
        refine c_then ?_
        refine next3 (x0 := vo) (x1 := o) (x2 := (i + 1)) (by omega) ⟨rfl, (fitI rfl (by omega)), rfl, rfl, rfl, rfl, trivial⟩ ⟨Q6, tQ, sQ0, uQ, M, f_o, h0, (by first | omega | (simp; omega)), (by have hh := hr0; simp (disch := first | omega | assumption | (simp; done) | fail) only [ofName_end, List.append_nil, ofName_step hx3, if_pos, if_neg, Option.getD_some, Option.some.injEq, reduceIte, Bool.false_eq_true, Bool.true_eq_false, decide_true, decide_false, not_true_eq_false, not_false_eq_true, h11n, hx3, h17n] at hh; first | exact hh | (simp only [List.append_assoc, List.cons_append, List.nil_append, List.singleton_append] at hh ⊢; exact hh))⟩
    · skip
      first | (have h11n := of_decide_eq_false h11) | (have h11n := of_decide_eq_true (bnf h11)) | (have h11n := bnf h11) | (have h11n := h11)
      refine c_exit ?_
      refine x_then ?_
      refine x_then ?_
      refine x_hit ?_
      refine c_then ?_
      refine c_seq ?_
      refine c_region ?_
      refine st _ (r_move rfl) ?_
      refine st _ (r_assign rfl) ?_
      refine st_nil ?_
      refine c_then ?_
      refine c_ret ?_
      exact ret1L (v := vo) trivial rfl ⟨rfl, trivial⟩ ⟨_, o, rfl, M, (f_o.ls (fun b hb => tQ b hb) (Fsh.up uQ0)), (by (try (simp (disch := first | omega | assumption | (simp; done) | fail) only [ofName_end, List.append_nil, if_pos, if_neg, Option.getD_some, Option.some.injEq, reduceIte, Bool.false_eq_true, Bool.true_eq_false, decide_true, decide_false, not_true_eq_false, not_false_eq_true, h11n] at hr0)); simp (disch := first | omega | assumption | (simp; done) | fail) only [if_pos, if_neg, Option.getD_some, Option.some.injEq, reduceIte, Bool.false_eq_true, Bool.true_eq_false, decide_true, decide_false, not_true_eq_false, not_false_eq_true, hr00, h11n, ← hr0])⟩
theorem kValsR_any {w : World} {Q : Nat → Prop} (uQ : Up w Q) {v0 : Value} {l : List Pr} (h0 : Ls tPr w Q v0 l) (nm : List UInt8) (p0 : l.length ≤ 1000) :
    Calls Try.prog 47 #[v0, (str nm)] w fun en w' => ∃ u0 : Value, ∃ r0 : List (List UInt8), en = .returned (u0) ∧ Md [] w w' ∧ Ls tStr w' Q u0 r0 ∧ ofName nm l = r0 := by
  have L0 := h0.len63
  have M := Md.refl [] w
  have uQ0 := uQ
  have tQ : ∀ b, Q b → Q b := fun _ h => h
  have sQ0 : ∀ b, Q b → b < w.heap.size → Q b := fun _ h _ => h
  refine enter (n := 29) Try.func47 rfl rfl rfl ?_
  intro B
  refine c_seq ?_
  refine c_region ?_
  refine st _ (r_assign rfl) ?_
  refine st_nil ?_
  refine c_then ?_
  refine c_seq ?_
  refine c_region ?_
  refine st _ (r_assign rfl) ?_
  refine st_nil ?_
  refine c_then ?_
  refine c_seq ?_
  refine c_seq ?_
  refine c_region ?_
  refine st _ (r_assign rfl) ?_
  refine st_nil ?_
  refine c_then ?_
  refine c_block ?_
  obtain ⟨r0, hr00⟩ : ∃ r, ofName nm l = r := ⟨_, rfl⟩
  try simp only [List.nil_append] at hr00
  refine loop3 (fun (vo : Value) (o : List (List UInt8)) (i : Nat) => [(5, vo), (6, (.int .i64 ((i : Nat) : Int))), (0, v0), (1, (str nm)), (4, (.slice none 0 0))]) (fun (vo : Value) (o : List (List UInt8)) (i : Nat) w' => ∃ Q' : Nat → Prop, (∀ b, Q' b → Q b) ∧ (∀ b, Q b → b < w.heap.size → Q' b) ∧ Up w' Q' ∧ Md [] w w' ∧ Ow tStr 9 (Fsh [] w) w' Q' vo o ∧ Ls tPr w' Q' v0 l ∧ (o.length ≤ i ∧ i ≤ l.length) ∧ o ++ ofName nm (l.drop i) = r0) (fun (vo : Value) (o : List (List UInt8)) (i : Nat) => l.length - i) (x0 := (.slice none 0 0)) (x1 := ([] : List (List UInt8))) (x2 := 0) ?_ ?_ ?_
  · exact ⟨rfl, rfl, rfl, rfl, rfl, trivial⟩
  · exact ⟨Q, tQ, sQ0, uQ, M, (Ow.nil _ _ _ _ _), h0, (by simp), (by have hh := hr00; first | exact hh | (simp only [List.nil_append] at hh; exact hh))⟩
  · clear M uQ tQ sQ0 h0
    rintro vo o i B w1 ⟨Q2, tQ, sQ0, uQ, M, f_o, h0, i0_0, hr0⟩
    refine c_seq ?_
    refine c_seq ?_
    refine c_region ?_
    refine st _ (r_move rfl) ?_
    refine st _ (r_move rfl) ?_
    refine st _ (r_len rfl u61 h0.shp) ?_
    refine st _ (r_ltN (a := i) (b := l.length) rfl rfl) ?_
    refine st_nil ?_
    refine c_then ?_
    refine c_if rfl (fun h10 => ?_) (fun h10 => ?_)
    · skip
      first | (have h10n := of_decide_eq_true h10) | (have h10n := of_decide_eq_false (bnt h10)) | (have h10n := bnt h10) | (have h10n := h10)
      refine c_skip ?_
      refine c_then ?_
      refine c_seq ?_
      refine c_block ?_
      refine c_seq ?_
      refine c_region ?_
      refine st _ (r_move rfl) ?_
      refine st _ (r_move rfl) ?_
      refine st _ (r_indexN (i := i) 2 rfl rfl u61 el44 h0.shp (by omega)) ?_
      obtain ⟨x3, hx3⟩ := getE (l := l) (i := i) (by first | omega | (simp <;> omega))
      obtain ⟨c4, hr3, ha3⟩ := h0.get hx3
      obtain ⟨_, rfl⟩ := tPr_un hr3
      replace ha3 : At _ v0 (i * 2) (Pr.cells x3) := ha3
      refine st _ (r_fieldE rfl ha3 off44_0) ?_
      refine st _ ((r_loadE (kk := i * 2) 0 rfl rfl one9 ha3 rfl).to (b := (str x3.name)) rfl) ?_
      refine st _ (r_move rfl) ?_
      refine st _ (r_eqlS (a := x3.name) (b := nm) rfl rfl) ?_
      refine st_nil ?_
      clear ha3
      refine c_then ?_
      refine c_if rfl (fun h19 => ?_) (fun h19 => ?_)
      · skip
        first | (have h19n := of_decide_eq_true h19) | (have h19n := of_decide_eq_false (bnt h19)) | (have h19n := bnt h19) | (have h19n := h19)
        refine c_region ?_
        refine st _ (r_move rfl) ?_
        refine st _ (r_move rfl) ?_
        refine st _ (r_move rfl) ?_
        refine st _ (r_indexN (i := i) 2 rfl rfl u61 el44 h0.shp (by omega)) ?_
        obtain ⟨c6, hr7, ha7⟩ := h0.get hx3
        obtain ⟨_, rfl⟩ := tPr_un hr7
        replace ha7 : At _ v0 (i * 2) (Pr.cells x3) := ha7
        refine st _ (r_fieldE rfl ha7 off44_1) ?_
        refine st _ ((r_loadE (kk := i * 2) 1 rfl rfl one9 ha7 rfl).to (b := (str x3.value)) rfl) ?_
        refine st_buildSliceG [[(str x3.value)]] u67 elT9 (by decide) (by decide) rfl rfl ⟨rfl, trivial⟩ ⟨rfl, trivial⟩ rfl (by decide) ?_
        intro ba26 w8 ga26 la26 hm ha26
        have ya26 := uQ _ ga26
        replace f_o := f_o.md0 hm
        replace h0 := h0.md0 hm
        replace ha7 := ha7.md0 hm
        replace uQ := uQ.md hm
        replace M := M.step0 hm
        replace ha26 := Ls.of_blk (m := 1) (R := Q2) (T := tStr) (xs := [x3.value]) ha26 ⟨_, _, rfl, ⟨rfl, trivial⟩, rfl⟩ rfl (by decide) ya26
        refine st_ap (sz := 1) (by rfl) u67 elT9 rfl rfl f_o ha26 (fun _ h _ => h) uQ (Fsh.new M) (by first | omega | (simp <;> omega) | (simp at * <;> omega)) (by first | omega | (simp <;> omega) | (simp at * <;> omega)) ?_
        intro v10 w11 Q12 sQ sT uQ2 hO9 hm hS _ hv2
        have f_o0 := f_o; clear f_o
        replace h0 := h0.sub sQ
        replace ha26 := ha26.sub sQ
        replace tQ := fun b hb => tQ b (sT b hb)
        replace sQ0 := fun b hb hl => sQ b (sQ0 b hb hl) (Nat.lt_of_lt_of_le hl M.size)
        replace h0 := h0.md hm hS
        clear ha7
        replace ha26 := ha26.md hm hS
        replace uQ := uQ.md hm
        replace M := M.stepO hm (fun b hb => (f_o0.2 b hb).1)
        clear uQ; have uQ := uQ2; clear uQ2 sQ sT hS hv2
        refine st _ (r_assign rfl) ?_
        refine st_nil ?_
        refine n_block ?_
        refine c_then ?_
        refine c_region ?_
        refine st _ (r_move rfl) ?_
        refine st _ (r_addN (a := i) (b := 1) 9223372036854775808 rfl rfl rfl (by omega)) ?_
        refine st _ (r_assign rfl) ?_
        refine st_nil ?_
        refine c_then ?_
        refine next3 (x0 := v10) (x1 := (o ++ ([x3.value]))) (x2 := (i + 1)) (by omega) ⟨rfl, (fitI rfl (by omega)), rfl, rfl, rfl, trivial⟩ ⟨Q12, tQ, sQ0, uQ, M, hO9, h0, (by first | omega | (simp; omega)), (by have hh := hr0; simp (disch := first | omega | assumption | (simp; done) | fail) only [ofName_end, List.append_nil, ofName_step hx3, if_pos, if_neg, Option.getD_some, Option.some.injEq, reduceIte, Bool.false_eq_true, Bool.true_eq_false, decide_true, decide_false, not_true_eq_false, not_false_eq_true, h10n, hx3, h19n] at hh; first | exact hh | (simp only [List.append_assoc, List.cons_append, List.nil_append, List.singleton_append] at hh ⊢; exact hh))⟩
      · skip
        first | (have h19n := of_decide_eq_false h19) | (have h19n := of_decide_eq_true (bnf h19)) | (have h19n := bnf h19) | (have h19n := h19)
        refine c_skip ?_
        refine n_block ?_
        refine c_then ?_
        refine c_region ?_
        refine st _ (r_move rfl) ?_
        refine st _ (r_addN (a := i) (b := 1) 9223372036854775808 rfl rfl rfl (by omega)) ?_
        refine st _ (r_assign rfl) ?_
        refine st_nil ?_
        refine c_then ?_
        refine next3 (x0 := vo) (x1 := o) (x2 := (i + 1)) (by omega) ⟨rfl, (fitI rfl (by omega)), rfl, rfl, rfl, trivial⟩ ⟨Q2, tQ, sQ0, uQ, M, f_o, h0, (by first | omega | (simp; omega)), (by have hh := hr0; simp (disch := first | omega | assumption | (simp; done) | fail) only [ofName_end, List.append_nil, ofName_step hx3, if_pos, if_neg, Option.getD_some, Option.some.injEq, reduceIte, Bool.false_eq_true, Bool.true_eq_false, decide_true, decide_false, not_true_eq_false, not_false_eq_true, h10n, hx3, h19n] at hh; first | exact hh | (simp only [List.append_assoc, List.cons_append, List.nil_append, List.singleton_append] at hh ⊢; exact hh))⟩
    · skip
      first | (have h10n := of_decide_eq_false h10) | (have h10n := of_decide_eq_true (bnf h10)) | (have h10n := bnf h10) | (have h10n := h10)
      refine c_exit ?_
      refine x_then ?_
      refine x_then ?_
      refine x_hit ?_
      refine c_then ?_
      refine c_seq ?_
      refine c_region ?_
      refine st _ (r_move rfl) ?_
      refine st _ (r_assign rfl) ?_
      refine st_nil ?_
      refine c_then ?_
      refine c_ret ?_
      exact ret1L (v := vo) trivial rfl ⟨rfl, trivial⟩ ⟨_, o, rfl, M, (f_o.ls (fun b hb => tQ b hb) (Fsh.up uQ0)), (by (try (simp (disch := first | omega | assumption | (simp; done) | fail) only [ofName_end, List.append_nil, if_pos, if_neg, Option.getD_some, Option.some.injEq, reduceIte, Bool.false_eq_true, Bool.true_eq_false, decide_true, decide_false, not_true_eq_false, not_false_eq_true, h10n] at hr0)); simp (disch := first | omega | assumption | (simp; done) | fail) only [if_pos, if_neg, Option.getD_some, Option.some.injEq, reduceIte, Bool.false_eq_true, Bool.true_eq_false, decide_true, decide_false, not_true_eq_false, not_false_eq_true, hr00, h10n, ← hr0])⟩
theorem kIndex_any {w : World} {Q : Nat → Prop} (uQ : Up w Q) {v0 : Value} {l : List Pr} (h0 : Ls tPr w Q v0 l) (p : Pr) :
    Calls Try.prog 112 #[v0, .agg (Pr.cells p).toArray] w fun en w' => ∃ r0 : Int, en = .returned (.int .i64 (r0 : Int)) ∧ Md [] w w' ∧ (-9223372036854775808 ≤ r0 ∧ r0 < 9223372036854775808) ∧ idxL p l 0 = r0 := by
  have L0 := h0.len63
  have M := Md.refl [] w
  have uQ0 := uQ
  have tQ : ∀ b, Q b → Q b := fun _ h => h
  have sQ0 : ∀ b, Q b → b < w.heap.size → Q b := fun _ h _ => h
  refine enter (n := 19) Try.func112 rfl rfl rfl ?_
  intro B
  refine c_seq ?_
  refine c_region ?_
  refine st_box (cs := (Pr.cells p)) rfl rfl ?_
  intro ba3 w1 ga3 la3 hm ha3
  have n_ha3 := uQ _ ga3
  replace ga3 := Nat.le_trans M.size ga3
  replace h0 := h0.md0 hm
  replace uQ := uQ.md hm
  replace M := M.step0 hm
  have p_ha3 : Fsh [] w ba3 := .inr ga3
  refine st _ (r_assign rfl) ?_
  refine st_nil ?_
  refine c_then ?_
  refine c_seq ?_
  refine c_seq ?_
  refine c_region ?_
  refine st _ (r_move rfl) ?_
  refine st _ (r_len rfl u61 h0.shp) ?_
  refine st _ (r_move rfl) ?_
  refine st_nil ?_
  refine c_then ?_
  refine c_block ?_
  obtain ⟨r0, hr00⟩ : ∃ r, idxL p l 0 = r := ⟨_, rfl⟩
  try simp only [List.nil_append] at hr00
  refine loop1 (fun (i : Nat) => [(8, (.int .i64 ((i : Nat) : Int))), (0, v0), (3, (.pointer (some ⟨ba3, 0, none⟩))), (7, (.int .i64 ((l.length : Nat) : Int)))]) (fun (i : Nat) w' => ∃ Q' : Nat → Prop, (∀ b, Q' b → Q b) ∧ (∀ b, Q b → b < w.heap.size → Q' b) ∧ Up w' Q' ∧ Md [] w w' ∧ Ls tPr w' Q' v0 l ∧ Blk w' ba3 (Pr.cells p) 44 ∧ Q' ba3 ∧ idxL p (l.drop i) i = r0) (fun (i : Nat) => l.length - i) (x0 := 0) ?_ ?_ ?_
  · exact ⟨rfl, rfl, rfl, rfl, trivial⟩
  · exact ⟨Q, tQ, sQ0, uQ, M, h0, ha3, n_ha3, (by have hh := hr00; first | exact hh | (simp only [List.nil_append] at hh; exact hh))⟩
  · clear M uQ tQ sQ0 n_ha3 h0 ha3
    rintro i B w2 ⟨Q3, tQ, sQ0, uQ, M, h0, ha3, n_ha3, hr0⟩
    refine c_seq ?_
    refine c_region ?_
    refine st _ (r_ltN (a := i) (b := l.length) rfl rfl) ?_
    refine st_nil ?_
    refine c_then ?_
    refine c_seq ?_
    refine c_if rfl (fun h9 => ?_) (fun h9 => ?_)
    · skip
      first | (have h9n := of_decide_eq_true h9) | (have h9n := of_decide_eq_false (bnt h9)) | (have h9n := bnt h9) | (have h9n := h9)
      refine c_skip ?_
      refine c_then ?_
      refine c_seq ?_
      refine c_block ?_
      refine c_seq ?_
      refine c_region ?_
      refine st _ (r_move rfl) ?_
      refine st _ (r_assign rfl) ?_
      refine st_nil ?_
      refine c_then ?_
      refine c_seq ?_
      have h0_q := h0
      have ha3_q := ha3
      refine c_mixT [(0, true), (1, true), (2, true), (3, true), (4, true)] [5] (fun w' => Md [] w2 w') mixed (by kernel_rfl) ?_
      intro w4 hd0; refine ⟨hd0.mono (by simp), ?_⟩; have MC := hd0.mono (T := []) (by simp)
      refine Go.Wk.m _ (fun w' hc => r_loadPart (Pr.cells p) rfl (by exact agg44) (ha3_q.md0 hc) rfl) ?_
      refine Go.Wk.m _ (fun w' hc => r_move rfl) ?_
      refine Go.Wk.m _ (fun w' hc => r_move rfl) ?_
      refine Go.Wk.m _ (fun w' hc => r_indexN (i := i) 2 rfl rfl u61 el44 h0.shp (by omega)) ?_
      obtain ⟨x5, hx5⟩ := getE (l := l) (i := i) (by first | omega | (simp <;> omega))
      obtain ⟨c6, hr5, ha5⟩ := h0_q.get hx5
      obtain ⟨_, rfl⟩ := tPr_un hr5
      replace ha5 : At _ v0 (i * 2) (Pr.cells x5) := ha5
      refine Go.Wk.m _ (fun w' hc => r_loadEA (kk := i * 2) (Pr.cells x5) 0 rfl rfl (by exact agg44) (ha5.md0 hc) rfl) ?_
      refine m_nil ?_
      replace h0 := h0.md0 hd0
      replace ha3 := ha3.md0 hd0
      replace uQ := uQ.md hd0
      replace M := M.step0 hd0
      clear h0_q ha3_q
      clear MC
      refine st _ (r_eqlPr (p := p) (q := x5) pair44 u9 rfl rfl) ?_
      refine st_nil ?_
      clear ha5
      refine c_then ?_
      refine c_if rfl (fun h16 => ?_) (fun h16 => ?_)
      · skip
        first | (have h16n := of_decide_eq_true h16) | (have h16n := of_decide_eq_false (bnt h16)) | (have h16n := bnt h16) | (have h16n := h16)
        refine c_seq ?_
        refine c_region ?_
        refine st _ (r_move rfl) ?_
        refine st _ (r_assign rfl) ?_
        refine st_nil ?_
        refine c_then ?_
        refine c_ret ?_
        refine r_block ?_
        refine r_then ?_
        refine r_then ?_
        refine r_block ?_
        refine r_then ?_
        exact ret1L (v := (.int .i64 (((i : Nat) : Int) : Int))) trivial rfl ⟨rfl, trivial⟩ ⟨((i : Nat) : Int), rfl, M, (by first | assumption | omega | simp_all), (by (try (simp (disch := first | omega | assumption | (simp; done) | fail) only [idxL_end, idxL_step hx5, if_pos, if_neg, Option.getD_some, Option.some.injEq, reduceIte, Bool.false_eq_true, Bool.true_eq_false, decide_true, decide_false, not_true_eq_false, not_false_eq_true, h9n, hx5, h16n] at hr0)); simp (disch := first | omega | assumption | (simp; done) | fail) only [if_pos, if_neg, Option.getD_some, Option.some.injEq, reduceIte, Bool.false_eq_true, Bool.true_eq_false, decide_true, decide_false, not_true_eq_false, not_false_eq_true, hr00, h9n, hx5, h16n, ← hr0])⟩
      · skip
        first | (have h16n := of_decide_eq_false h16) | (have h16n := of_decide_eq_true (bnf h16)) | (have h16n := bnf h16) | (have h16n := h16)
        refine c_skip ?_
        refine n_block ?_
        refine c_then ?_
        refine c_region ?_
        refine st _ (r_addN (a := i) (b := 1) 9223372036854775808 rfl rfl rfl (by omega)) ?_
        refine st _ (r_move rfl) ?_
        refine st_nil ?_
        refine c_then ?_
        refine next1 (x0 := (i + 1)) (by omega) ⟨(fitI rfl (by omega)), rfl, rfl, rfl, trivial⟩ ⟨Q3, tQ, sQ0, uQ, M, h0, ha3, n_ha3, (by have hh := hr0; simp (disch := first | omega | assumption | (simp; done) | fail) only [idxL_end, idxL_step hx5, if_pos, if_neg, Option.getD_some, Option.some.injEq, reduceIte, Bool.false_eq_true, Bool.true_eq_false, decide_true, decide_false, not_true_eq_false, not_false_eq_true, h9n, hx5, h16n] at hh; first | exact hh | (simp only [List.append_assoc, List.cons_append, List.nil_append, List.singleton_append] at hh ⊢; exact hh))⟩
    · skip
      first | (have h9n := of_decide_eq_false h9) | (have h9n := of_decide_eq_true (bnf h9)) | (have h9n := bnf h9) | (have h9n := h9)
      refine c_exit ?_
      refine x_then ?_
      refine x_then ?_
      refine x_hit ?_
      refine c_then ?_
      refine c_seq ?_
      refine c_region ?_
      refine st _ (r_assign rfl) ?_
      refine st_nil ?_
      refine c_then ?_
      refine c_ret ?_
      exact ret1L (v := (.int .i64 ((-1) : Int))) trivial rfl ⟨rfl, trivial⟩ ⟨(-1), rfl, M, (by first | assumption | omega | simp_all), (by (try (simp (disch := first | omega | assumption | (simp; done) | fail) only [idxL_end, if_pos, if_neg, Option.getD_some, Option.some.injEq, reduceIte, Bool.false_eq_true, Bool.true_eq_false, decide_true, decide_false, not_true_eq_false, not_false_eq_true, h9n] at hr0)); simp (disch := first | omega | assumption | (simp; done) | fail) only [if_pos, if_neg, Option.getD_some, Option.some.injEq, reduceIte, Bool.false_eq_true, Bool.true_eq_false, decide_true, decide_false, not_true_eq_false, not_false_eq_true, hr00, h9n, ← hr0])⟩
theorem kHas_any {w : World} {Q : Nat → Prop} (uQ : Up w Q) {v0 : Value} {l : List Pr} (h0 : Ls tPr w Q v0 l) (p : Pr) :
    Calls Try.prog 85 #[v0, .agg (Pr.cells p).toArray] w fun en w' => ∃ r0 : Bool, en = .returned (.bool r0) ∧ Md [] w w' ∧ hasP p l = r0 := by
  have L0 := h0.len63
  have M := Md.refl [] w
  have uQ0 := uQ
  have tQ : ∀ b, Q b → Q b := fun _ h => h
  have sQ0 : ∀ b, Q b → b < w.heap.size → Q b := fun _ h _ => h
  refine enter (n := 9) Try.func85 rfl rfl rfl ?_
  intro B
  refine c_seq ?_
  refine c_region ?_
  refine st_box (cs := (Pr.cells p)) rfl rfl ?_
  intro ba3 w1 ga3 la3 hm ha3
  have n_ha3 := uQ _ ga3
  replace ga3 := Nat.le_trans M.size ga3
  replace h0 := h0.md0 hm
  replace uQ := uQ.md hm
  replace M := M.step0 hm
  have p_ha3 : Fsh [] w ba3 := .inr ga3
  refine st _ (r_assign rfl) ?_
  refine st_nil ?_
  refine c_then ?_
  refine c_seq ?_
  refine c_region ?_
  refine st _ (r_move rfl) ?_
  refine st _ (r_loadPart (Pr.cells p) rfl (by exact agg44) ha3 rfl) ?_
  refine st_call fn112 rfl (kIndex_any uQ h0 p) ?_
  rintro en w2 ⟨x2_0, rfl, hm, q2_0, hF2⟩; refine ⟨_, rfl, ?_⟩
  replace h0 := h0.md0 hm
  replace ha3 := ha3.md0 hm
  replace uQ := uQ.md hm
  replace M := M.step0 hm
  refine st _ (r_ge (a := x2_0) (b := 0) rfl rfl) ?_
  refine st _ (r_assign rfl) ?_
  refine st_nil ?_
  refine c_then ?_
  refine c_ret ?_
  exact ret1L (v := (.bool ((decide (0 ≤ x2_0))))) trivial rfl ⟨rfl, trivial⟩ ⟨(decide (0 ≤ x2_0)), rfl, M, (by rw [← idxL_has p l 0, hF2])⟩
theorem kWithin_any {w : World} {Q : Nat → Prop} (uQ : Up w Q) {v0 : Value} {a : List Pr} (h0 : Ls tPr w Q v0 a) {v1 : Value} {b : List Pr} (h1 : Ls tPr w Q v1 b) :
    Calls Try.prog 71 #[v0, v1] w fun en w' => ∃ r0 : Bool, en = .returned (.bool r0) ∧ Md [] w w' ∧ allIn b a = r0 := by
  have L0 := h0.len63
  have L1 := h1.len63
  have M := Md.refl [] w
  have uQ0 := uQ
  have tQ : ∀ b, Q b → Q b := fun _ h => h
  have sQ0 : ∀ b, Q b → b < w.heap.size → Q b := fun _ h _ => h
  refine enter (n := 18) Try.func71 rfl rfl rfl ?_
  intro B
  refine c_seq ?_
  refine c_region ?_
  refine st _ (r_assign rfl) ?_
  refine st_nil ?_
  refine c_then ?_
  refine c_seq ?_
  refine c_seq ?_
  refine c_region ?_
  refine st _ (r_move rfl) ?_
  refine st _ (r_len rfl u61 h0.shp) ?_
  refine st _ (r_move rfl) ?_
  refine st_nil ?_
  refine c_then ?_
  refine c_block ?_
  obtain ⟨r0, hr00⟩ : ∃ r, allIn b a = r := ⟨_, rfl⟩
  try simp only [List.nil_append] at hr00
  refine loop1 (fun (i : Nat) => [(9, (.int .i64 ((i : Nat) : Int))), (1, v1), (7, v0), (8, (.int .i64 ((a.length : Nat) : Int)))]) (fun (i : Nat) w' => ∃ Q' : Nat → Prop, (∀ b, Q' b → Q b) ∧ (∀ b, Q b → b < w.heap.size → Q' b) ∧ Up w' Q' ∧ Md [] w w' ∧ Ls tPr w' Q' v1 b ∧ Ls tPr w' Q' v0 a ∧ allIn b (a.drop i) = r0) (fun (i : Nat) => a.length - i) (x0 := 0) ?_ ?_ ?_
  · exact ⟨rfl, rfl, rfl, rfl, trivial⟩
  · exact ⟨Q, tQ, sQ0, uQ, M, h1, h0, (by have hh := hr00; first | exact hh | (simp only [List.nil_append] at hh; exact hh))⟩
  · clear M uQ tQ sQ0 h0 h1
    rintro i B w1 ⟨Q2, tQ, sQ0, uQ, M, h1, h0, hr0⟩
    refine c_seq ?_
    refine c_region ?_
    refine st _ (r_ltN (a := i) (b := a.length) rfl rfl) ?_
    refine st_nil ?_
    refine c_then ?_
    refine c_seq ?_
    refine c_if rfl (fun h10 => ?_) (fun h10 => ?_)
    · skip
      first | (have h10n := of_decide_eq_true h10) | (have h10n := of_decide_eq_false (bnt h10)) | (have h10n := bnt h10) | (have h10n := h10)
      refine c_skip ?_
      refine c_then ?_
      refine c_seq ?_
      refine c_block ?_
      refine c_seq ?_
      refine c_region ?_
      refine st _ (r_indexN (i := i) 2 rfl rfl u61 el44 h0.shp (by omega)) ?_
      obtain ⟨x3, hx3⟩ := getE (l := a) (i := i) (by first | omega | (simp <;> omega))
      obtain ⟨c4, hr3, ha3⟩ := h0.get hx3
      obtain ⟨_, rfl⟩ := tPr_un hr3
      replace ha3 : At _ v0 (i * 2) (Pr.cells x3) := ha3
      refine st _ (r_loadEA (kk := i * 2) (Pr.cells x3) 0 rfl rfl (by exact agg44) ha3 rfl) ?_
      refine st_alloc z44 ?_
      intro ba6 w5 ga6 la6 hm ha6
      obtain ⟨Q6, sQ, sT, n_ha6, uQ2⟩ := exQ uQ ga6 la6 hm
      replace h1 := h1.sub sQ
      replace h0 := h0.sub sQ
      replace tQ := fun b hb => tQ b (sT b hb)
      replace sQ0 := fun b hb hl => sQ b (sQ0 b hb hl) (Nat.lt_of_lt_of_le hl M.size)
      replace ga6 := Nat.le_trans M.size ga6
      replace h1 := h1.md0 hm
      replace h0 := h0.md0 hm
      replace ha3 := ha3.md0 hm
      replace uQ := uQ.md hm
      replace M := M.step0 hm
      clear uQ; have uQ := uQ2; clear uQ2 sQ sT
      have p_ha6 : Fsh [] w ba6 := .inr ga6
      replace ha6 : Blk _ _ (Pr.cells (({ name := [], value := [] } : Pr))) _ := ha6
      refine st_storeAgg (us := (Pr.cells x3)) rfl rfl (by exact agg44) (by first | exact fun u hu => one_cells (Pr.one ) u hu | exact fun u hu => one_cells rfl u hu) ha6 (Nat.le_of_ble_eq_true rfl) ?_
      have ha60 := ha6; clear ha6; intro w7 hm ha6
      have hS : ∀ b ∈ [ba6], ¬ Q6 b := by intro b hb; simp at hb; subst hb; exact n_ha6
      replace h1 := h1.md hm hS
      replace h0 := h0.md hm hS
      clear ha3
      replace uQ := uQ.md hm
      replace M := M.step hm (all_cons p_ha6 all_nil)
      clear ha60 hS
      replace ha6 : Blk _ _ (Pr.cells x3) _ := ha6
      refine st_nil ?_
      refine c_then ?_
      refine c_seq ?_
      refine c_region ?_
      refine st _ (r_move rfl) ?_
      refine st _ (r_loadPart (Pr.cells x3) rfl (by exact agg44) ha6 rfl) ?_
      refine st_call fn85 rfl (kHas_any uQ h1 x3) ?_
      rintro en w8 ⟨x8_0, rfl, hm, hF8⟩; refine ⟨_, rfl, ?_⟩
      replace h1 := h1.md0 hm
      replace h0 := h0.md0 hm
      replace ha6 := ha6.md0 hm
      replace uQ := uQ.md hm
      replace M := M.step0 hm
      refine st _ (r_not rfl) ?_
      refine st_nil ?_
      refine c_then ?_
      refine c_if rfl (fun h16 => ?_) (fun h16 => ?_)
      · skip
        first | (have h16n := of_decide_eq_true h16) | (have h16n := of_decide_eq_false (bnt h16)) | (have h16n := bnt h16) | (have h16n := h16)
        refine c_seq ?_
        refine c_region ?_
        refine st _ (r_assign rfl) ?_
        refine st_nil ?_
        refine c_then ?_
        refine c_ret ?_
        refine r_block ?_
        refine r_then ?_
        refine r_then ?_
        refine r_block ?_
        refine r_then ?_
        exact ret1L (v := (.bool false)) trivial rfl ⟨rfl, trivial⟩ ⟨false, rfl, M, (by (try (simp (disch := first | omega | assumption | (simp; done) | fail) only [allIn_end, allIn_step hx3, if_pos, if_neg, Option.getD_some, Option.some.injEq, reduceIte, Bool.false_eq_true, Bool.true_eq_false, decide_true, decide_false, not_true_eq_false, not_false_eq_true, h10n, hx3, hF8, h16n] at hr0)); simp (disch := first | omega | assumption | (simp; done) | fail) only [if_pos, if_neg, Option.getD_some, Option.some.injEq, reduceIte, Bool.false_eq_true, Bool.true_eq_false, decide_true, decide_false, not_true_eq_false, not_false_eq_true, hr00, h10n, hx3, hF8, h16n, ← hr0])⟩
      · skip
        first | (have h16n := of_decide_eq_false h16) | (have h16n := of_decide_eq_true (bnf h16)) | (have h16n := bnf h16) | (have h16n := h16)
        refine c_skip ?_
        refine n_block ?_
        refine c_then ?_
        refine c_region ?_
        refine st _ (r_addN (a := i) (b := 1) 9223372036854775808 rfl rfl rfl (by omega)) ?_
        refine st _ (r_move rfl) ?_
        refine st_nil ?_
        refine c_then ?_
        refine next1 (x0 := (i + 1)) (by omega) ⟨(fitI rfl (by omega)), rfl, rfl, rfl, trivial⟩ ⟨Q6, tQ, sQ0, uQ, M, h1, h0, (by have hh := hr0; simp (disch := first | omega | assumption | (simp; done) | fail) only [allIn_end, allIn_step hx3, if_pos, if_neg, Option.getD_some, Option.some.injEq, reduceIte, Bool.false_eq_true, Bool.true_eq_false, decide_true, decide_false, not_true_eq_false, not_false_eq_true, h10n, hx3, hF8, h16n] at hh; first | exact hh | (simp only [List.append_assoc, List.cons_append, List.nil_append, List.singleton_append] at hh ⊢; exact hh))⟩
    · skip
      first | (have h10n := of_decide_eq_false h10) | (have h10n := of_decide_eq_true (bnf h10)) | (have h10n := bnf h10) | (have h10n := h10)
      refine c_exit ?_
      refine x_then ?_
      refine x_then ?_
      refine x_hit ?_
      refine c_then ?_
      refine c_seq ?_
      refine c_region ?_
      refine st _ (r_assign rfl) ?_
      refine st_nil ?_
      refine c_then ?_
      refine c_ret ?_
      exact ret1L (v := (.bool true)) trivial rfl ⟨rfl, trivial⟩ ⟨true, rfl, M, (by (try (simp (disch := first | omega | assumption | (simp; done) | fail) only [allIn_end, if_pos, if_neg, Option.getD_some, Option.some.injEq, reduceIte, Bool.false_eq_true, Bool.true_eq_false, decide_true, decide_false, not_true_eq_false, not_false_eq_true, h10n] at hr0)); simp (disch := first | omega | assumption | (simp; done) | fail) only [if_pos, if_neg, Option.getD_some, Option.some.injEq, reduceIte, Bool.false_eq_true, Bool.true_eq_false, decide_true, decide_false, not_true_eq_false, not_false_eq_true, hr00, h10n, ← hr0])⟩
theorem kSameF_any {w : World} {Q : Nat → Prop} (uQ : Up w Q) {v0 : Value} {a : List Pr} (h0 : Ls tPr w Q v0 a) {v1 : Value} {b : List Pr} (h1 : Ls tPr w Q v1 b) :
    Calls Try.prog 42 #[v0, v1] w fun en w' => ∃ r0 : Bool, en = .returned (.bool r0) ∧ Md [] w w' ∧ (allIn b a && allIn a b) = r0 := by
  have L0 := h0.len63
  have L1 := h1.len63
  have M := Md.refl [] w
  have uQ0 := uQ
  have tQ : ∀ b, Q b → Q b := fun _ h => h
  have sQ0 : ∀ b, Q b → b < w.heap.size → Q b := fun _ h _ => h
  refine enter (n := 13) Try.func42 rfl rfl rfl ?_
  intro B
  refine c_seq ?_
  refine c_region ?_
  refine st _ (r_assign rfl) ?_
  refine st_nil ?_
  refine c_then ?_
  refine c_seq ?_
  refine c_region ?_
  refine st _ (r_move rfl) ?_
  refine st _ (r_move rfl) ?_
  refine st_call fn71 rfl (kWithin_any uQ h0 h1) ?_
  rintro en w1 ⟨x1_0, rfl, hm, hF1⟩; refine ⟨_, rfl, ?_⟩
  replace h0 := h0.md0 hm
  replace h1 := h1.md0 hm
  replace uQ := uQ.md hm
  replace M := M.step0 hm
  refine st _ (r_move rfl) ?_
  refine part_n (t := 8) rfl (fun h8 => ?_) (fun h8 => ?_)
  · skip
    first | (have h8n := of_decide_eq_true h8) | (have h8n := of_decide_eq_false (bnt h8)) | (have h8n := bnt h8) | (have h8n := h8)
    refine st_g _ rfl rfl rfl h8 (r_move rfl) ?_
    refine st_g _ rfl rfl rfl h8 (r_move rfl) ?_
    refine st_call_g rfl rfl rfl h8 fn71 rfl (kWithin_any uQ h1 h0) ?_
    rintro en w2 ⟨x2_0, rfl, hm, hF2⟩; refine ⟨_, rfl, ?_⟩
    replace h0 := h0.md0 hm
    replace h1 := h1.md0 hm
    replace uQ := uQ.md hm
    replace M := M.step0 hm
    refine st _ (r_pick_t rfl h8 rfl) ?_
    refine st _ (r_assign rfl) ?_
    refine st_nil ?_
    refine c_then ?_
    refine c_ret ?_
    exact ret1L (v := (.bool x2_0)) trivial rfl ⟨rfl, trivial⟩ ⟨x2_0, rfl, M, (by simp_all)⟩
  · skip
    first | (have h8n := of_decide_eq_false h8) | (have h8n := of_decide_eq_true (bnf h8)) | (have h8n := bnf h8) | (have h8n := h8)
    refine st_skip rfl rfl rfl h8 ?_
    refine st_skip rfl rfl rfl h8 ?_
    refine st_skip rfl rfl rfl h8 ?_
    refine st _ (r_pick_f rfl h8 rfl) ?_
    refine st _ (r_assign rfl) ?_
    refine st_nil ?_
    refine c_then ?_
    refine c_ret ?_
    exact ret1L (v := (.bool false)) trivial rfl ⟨rfl, trivial⟩ ⟨false, rfl, M, (by simp_all)⟩
theorem kWithinR_any {w : World} {Q : Nat → Prop} (uQ : Up w Q) {v0 : Value} {a : List Pr} (h0 : Ls tPr w Q v0 a) {v1 : Value} {b : List Pr} (h1 : Ls tPr w Q v1 b) :
    Calls Try.prog 48 #[v0, v1] w fun en w' => ∃ r0 : Bool, en = .returned (.bool r0) ∧ Md [] w w' ∧ allIn b a = r0 := by
  have L0 := h0.len63
  have L1 := h1.len63
  have M := Md.refl [] w
  have uQ0 := uQ
  have tQ : ∀ b, Q b → Q b := fun _ h => h
  have sQ0 : ∀ b, Q b → b < w.heap.size → Q b := fun _ h _ => h
  refine enter (n := 34) Try.func48 rfl rfl rfl ?_
  intro B
  refine c_seq ?_
  refine c_region ?_
  refine st _ (r_assign rfl) ?_
  refine st_nil ?_
  refine c_then ?_
  refine c_seq ?_
  refine c_seq ?_
  refine c_region ?_
  refine st _ (r_assign rfl) ?_
  refine st_nil ?_
  refine c_then ?_
  refine c_block ?_
  obtain ⟨r0, hr00⟩ : ∃ r, allIn b a = r := ⟨_, rfl⟩
  try simp only [List.nil_append] at hr00
  refine loop1 (fun (i : Nat) => [(5, (.int .i64 ((i : Nat) : Int))), (0, v0), (1, v1)]) (fun (i : Nat) w' => ∃ Q' : Nat → Prop, (∀ b, Q' b → Q b) ∧ (∀ b, Q b → b < w.heap.size → Q' b) ∧ Up w' Q' ∧ Md [] w w' ∧ Ls tPr w' Q' v0 a ∧ Ls tPr w' Q' v1 b ∧ allIn b (a.drop i) = r0) (fun (i : Nat) => a.length - i) (x0 := 0) ?_ ?_ ?_
  · exact ⟨rfl, rfl, rfl, trivial⟩
  · exact ⟨Q, tQ, sQ0, uQ, M, h0, h1, (by have hh := hr00; first | exact hh | (simp only [List.nil_append] at hh; exact hh))⟩
  · clear M uQ tQ sQ0 h0 h1
    rintro i B w1 ⟨Q2, tQ, sQ0, uQ, M, h0, h1, hr0⟩
    refine c_seq ?_
    refine c_seq ?_
    refine c_region ?_
    refine st _ (r_move rfl) ?_
    refine st _ (r_move rfl) ?_
    refine st _ (r_len rfl u61 h0.shp) ?_
    refine st _ (r_ltN (a := i) (b := a.length) rfl rfl) ?_
    refine st_nil ?_
    refine c_then ?_
    refine c_if rfl (fun h11 => ?_) (fun h11 => ?_)
    · skip
      first | (have h11n := of_decide_eq_true h11) | (have h11n := of_decide_eq_false (bnt h11)) | (have h11n := bnt h11) | (have h11n := h11)
      refine c_skip ?_
      refine c_then ?_
      refine c_seq ?_
      refine c_block ?_
      refine c_seq ?_
      refine c_region ?_
      refine st _ (r_assign rfl) ?_
      refine st_nil ?_
      refine c_then ?_
      refine c_seq ?_
      refine c_seq ?_
      refine c_region ?_
      refine st _ (r_assign rfl) ?_
      refine st_nil ?_
      refine c_then ?_
      refine c_block ?_
      obtain ⟨r1, hr10⟩ : ∃ r, hasP (a.getD i { name := [], value := [] }) b = r := ⟨_, rfl⟩
      try simp only [List.nil_append] at hr10
      refine loop2 (fun (is : Bool) (j : Nat) => [(6, (.bool is)), (7, (.int .i64 ((j : Nat) : Int))), (0, v0), (1, v1), (5, (.int .i64 ((i : Nat) : Int))), (8, (.int .i64 ((i : Nat) : Int))), (9, v0), (10, (.int .i64 ((a.length : Nat) : Int))), (11, (.bool ((decide (i < a.length)))))]) (fun (is : Bool) (j : Nat) w' => ∃ Q' : Nat → Prop, (∀ b, Q' b → Q b) ∧ (∀ b, Q b → b < w.heap.size → Q' b) ∧ Up w' Q' ∧ Md [] w w' ∧ Ls tPr w' Q' v0 a ∧ Ls tPr w' Q' v1 b ∧ (is || hasP (a.getD i { name := [], value := [] }) (b.drop j)) = r1) (fun (is : Bool) (j : Nat) => b.length - j) (x0 := false) (x1 := 0) ?_ ?_ ?_
      · exact ⟨rfl, rfl, rfl, rfl, rfl, rfl, rfl, rfl, rfl, trivial⟩
      · exact ⟨Q2, tQ, sQ0, uQ, M, h0, h1, (by have hh := hr10; first | exact hh | (simp only [List.nil_append] at hh; exact hh))⟩
      · clear M uQ tQ sQ0 h0 h1
        rintro is j B w3 ⟨Q4, tQ, sQ0, uQ, M, h0, h1, hr1⟩
        refine c_seq ?_
        refine c_seq ?_
        refine c_region ?_
        refine st _ (r_move rfl) ?_
        refine st _ (r_move rfl) ?_
        refine st _ (r_len rfl u61 h1.shp) ?_
        refine st _ (r_ltN (a := j) (b := b.length) rfl rfl) ?_
        refine st_nil ?_
        refine c_then ?_
        refine c_if rfl (fun h17 => ?_) (fun h17 => ?_)
        · skip
          first | (have h17n := of_decide_eq_true h17) | (have h17n := of_decide_eq_false (bnt h17)) | (have h17n := bnt h17) | (have h17n := h17)
          refine c_skip ?_
          refine c_then ?_
          refine c_seq ?_
          refine c_block ?_
          have h0_q := h0
          have h1_q := h1
          refine c_mixT [(0, true), (1, true), (2, true), (3, true), (4, true), (5, true), (6, true), (7, true), (8, true), (9, true)] [10, 11, 12] (fun w' => Md [] w3 w') mixed (by kernel_rfl) ?_
          intro w5 hd0; refine ⟨hd0.mono (by simp), ?_⟩; have MC := hd0.mono (T := []) (by simp)
          refine Go.Wk.m _ (fun w' hc => r_move rfl) ?_
          refine Go.Wk.m _ (fun w' hc => r_move rfl) ?_
          refine part_m (t := 21) rfl (fun h21 => ?_) (fun h21 => ?_)
          · skip
            first | (have h21n := of_decide_eq_true h21) | (have h21n := of_decide_eq_false (bnt h21)) | (have h21n := bnt h21) | (have h21n := h21)
            refine m_skip rfl rfl rfl h21 ?_
            refine m_skip rfl rfl rfl h21 ?_
            refine m_skip rfl rfl rfl h21 ?_
            refine m_skip rfl rfl rfl h21 ?_
            refine m_skip rfl rfl rfl h21 ?_
            refine m_skip rfl rfl rfl h21 ?_
            refine m_skip rfl rfl rfl h21 ?_
            refine m_skip rfl rfl rfl h21 ?_
            refine m_nil ?_
            replace h0 := h0.md0 hd0
            replace h1 := h1.md0 hd0
            replace uQ := uQ.md hd0
            replace M := M.step0 hd0
            clear h0_q h1_q
            clear MC
            refine st_skip rfl rfl rfl h21 ?_
            refine st _ (r_pick_t rfl h21 rfl) ?_
            refine st _ (r_assign rfl) ?_
            refine st_nil ?_
            refine n_block ?_
            refine c_then ?_
            refine c_region ?_
            refine st _ (r_move rfl) ?_
            refine st _ (r_addN (a := j) (b := 1) 9223372036854775808 rfl rfl rfl (by omega)) ?_
            refine st _ (r_assign rfl) ?_
            refine st_nil ?_
            refine c_then ?_
            refine next2 (x0 := true) (x1 := (j + 1)) (by omega) ⟨rfl, (fitI rfl (by omega)), rfl, rfl, rfl, rfl, rfl, rfl, rfl, trivial⟩ ⟨Q4, tQ, sQ0, uQ, M, h0, h1, (by have hh := hr1; simp (disch := first | omega | assumption | (simp; done) | fail) only [hasP_end, Bool.or_false, if_pos, if_neg, Option.getD_some, Option.some.injEq, reduceIte, Bool.false_eq_true, Bool.true_eq_false, decide_true, decide_false, not_true_eq_false, not_false_eq_true, hr00, h11n, h17n, h21n] at hh; first | exact hh | (simp only [List.append_assoc, List.cons_append, List.nil_append, List.singleton_append] at hh ⊢; exact hh))⟩
          · skip
            first | (have h21n := of_decide_eq_false h21) | (have h21n := of_decide_eq_true (bnf h21)) | (have h21n := bnf h21) | (have h21n := h21)
            refine Go.Wk.m_g _ rfl rfl rfl h21 (fun w' hc => r_move rfl) ?_
            refine Go.Wk.m_g _ rfl rfl rfl h21 (fun w' hc => r_move rfl) ?_
            refine Go.Wk.m_g _ rfl rfl rfl h21 (fun w' hc => r_indexN (i := i) 2 rfl rfl u61 el44 h0.shp (by omega)) ?_
            obtain ⟨x6, hx6⟩ := getE (l := a) (i := i) (by first | omega | (simp <;> omega))
            obtain ⟨c7, hr6, ha6⟩ := h0_q.get hx6
            obtain ⟨_, rfl⟩ := tPr_un hr6
            replace ha6 : At _ v0 (i * 2) (Pr.cells x6) := ha6
            refine Go.Wk.m_g _ rfl rfl rfl h21 (fun w' hc => r_loadEA (kk := i * 2) (Pr.cells x6) 0 rfl rfl (by exact agg44) (ha6.md0 hc) rfl) ?_
            refine Go.Wk.m_g _ rfl rfl rfl h21 (fun w' hc => r_move rfl) ?_
            refine Go.Wk.m_g _ rfl rfl rfl h21 (fun w' hc => r_move rfl) ?_
            refine Go.Wk.m_g _ rfl rfl rfl h21 (fun w' hc => r_indexN (i := j) 2 rfl rfl u61 el44 h1.shp (by omega)) ?_
            obtain ⟨x8, hx8⟩ := getE (l := b) (i := j) (by first | omega | (simp <;> omega))
            obtain ⟨c9, hr8, ha8⟩ := h1_q.get hx8
            obtain ⟨_, rfl⟩ := tPr_un hr8
            replace ha8 : At _ v1 (j * 2) (Pr.cells x8) := ha8
            refine Go.Wk.m_g _ rfl rfl rfl h21 (fun w' hc => r_loadEA (kk := j * 2) (Pr.cells x8) 0 rfl rfl (by exact agg44) (ha8.md0 hc) rfl) ?_
            refine m_nil ?_
            replace h0 := h0.md0 hd0
            replace h1 := h1.md0 hd0
            replace uQ := uQ.md hd0
            replace M := M.step0 hd0
            clear h0_q h1_q
            clear MC
            refine st_g _ rfl rfl rfl h21 (r_eqlPr (p := x6) (q := x8) pair44 u9 rfl rfl) ?_
            refine st _ (r_pick_f rfl h21 rfl) ?_
            refine st _ (r_assign rfl) ?_
            refine st_nil ?_
            clear ha6
            clear ha8
            refine n_block ?_
            refine c_then ?_
            refine c_region ?_
            refine st _ (r_move rfl) ?_
            refine st _ (r_addN (a := j) (b := 1) 9223372036854775808 rfl rfl rfl (by omega)) ?_
            refine st _ (r_assign rfl) ?_
            refine st_nil ?_
            refine c_then ?_
            refine next2 (x0 := ((decide (x6.pb = x8.pb)))) (x1 := (j + 1)) (by omega) ⟨rfl, (fitI rfl (by omega)), rfl, rfl, rfl, rfl, rfl, rfl, rfl, trivial⟩ ⟨Q4, tQ, sQ0, uQ, M, h0, h1, (by have hh := hr1; simp (disch := first | omega | assumption | (simp; done) | fail) only [hasP_end, Bool.or_false, any_step hx6, any_step hx8, if_pos, if_neg, Option.getD_some, Option.some.injEq, reduceIte, Bool.false_eq_true, Bool.true_eq_false, decide_true, decide_false, not_true_eq_false, not_false_eq_true, hr00, h11n, h17n, h21n, hx6, hx8] at hh; first | exact hh | (simp only [List.append_assoc, List.cons_append, List.nil_append, List.singleton_append] at hh ⊢; exact hh))⟩
        · skip
          first | (have h17n := of_decide_eq_false h17) | (have h17n := of_decide_eq_true (bnf h17)) | (have h17n := bnf h17) | (have h17n := h17)
          refine c_exit ?_
          refine x_then ?_
          refine x_then ?_
          refine x_hit ?_
          refine c_then ?_
          refine c_seq ?_
          refine c_region ?_
          refine st _ (r_move rfl) ?_
          refine st _ (r_not rfl) ?_
          refine st_nil ?_
          refine c_then ?_
          refine c_if rfl (fun h33 => ?_) (fun h33 => ?_)
          · skip
            first | (have h33n := of_decide_eq_true h33) | (have h33n := of_decide_eq_false (bnt h33)) | (have h33n := bnt h33) | (have h33n := h33)
            refine c_seq ?_
            refine c_region ?_
            have e0 : allIn b a = false := by rw [allIn_stepD h11n, hr10] at hr0; rw [hasP_end (by omega)] at hr1; simp_all
            refine st _ (r_assign rfl) ?_
            refine st_nil ?_
            refine c_then ?_
            refine c_ret ?_
            refine r_block ?_
            refine r_then ?_
            refine r_then ?_
            refine r_block ?_
            refine r_then ?_
            exact ret1L (v := (.bool false)) trivial rfl ⟨rfl, trivial⟩ ⟨false, rfl, M, e0⟩
          · skip
            first | (have h33n := of_decide_eq_false h33) | (have h33n := of_decide_eq_true (bnf h33)) | (have h33n := bnf h33) | (have h33n := h33)
            refine c_skip ?_
            refine n_block ?_
            refine c_then ?_
            refine c_region ?_
            refine st _ (r_move rfl) ?_
            refine st _ (r_addN (a := i) (b := 1) 9223372036854775808 rfl rfl rfl (by omega)) ?_
            refine st _ (r_assign rfl) ?_
            refine st_nil ?_
            refine c_then ?_
            refine next1 (x0 := (i + 1)) (by omega) ⟨(fitI rfl (by omega)), rfl, rfl, trivial⟩ ⟨Q4, tQ, sQ0, uQ, M, h0, h1, (by rw [allIn_stepD h11n, hr10] at hr0; simp_all)⟩
    · skip
      first | (have h11n := of_decide_eq_false h11) | (have h11n := of_decide_eq_true (bnf h11)) | (have h11n := bnf h11) | (have h11n := h11)
      refine c_exit ?_
      refine x_then ?_
      refine x_then ?_
      refine x_hit ?_
      refine c_then ?_
      refine c_seq ?_
      refine c_region ?_
      refine st _ (r_assign rfl) ?_
      refine st_nil ?_
      refine c_then ?_
      refine c_ret ?_
      exact ret1L (v := (.bool true)) trivial rfl ⟨rfl, trivial⟩ ⟨true, rfl, M, (by (try (simp (disch := first | omega | assumption | (simp; done) | fail) only [allIn_end, if_pos, if_neg, Option.getD_some, Option.some.injEq, reduceIte, Bool.false_eq_true, Bool.true_eq_false, decide_true, decide_false, not_true_eq_false, not_false_eq_true, h11n] at hr0)); simp (disch := first | omega | assumption | (simp; done) | fail) only [if_pos, if_neg, Option.getD_some, Option.some.injEq, reduceIte, Bool.false_eq_true, Bool.true_eq_false, decide_true, decide_false, not_true_eq_false, not_false_eq_true, hr00, h11n, ← hr0])⟩
end Go.Proofs.Ytimakajeggeebaa
