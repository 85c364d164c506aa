/- Walks of functions: what each call returns, over data. -/
import Derived.Test.YtimakajeggeebaaRows
import Derived.Test.YtimakajeggeebaaVJoin
namespace Go.Proofs.Ytimakajeggeebaa
open Go Go.Wk Go.RowKit
set_option linter.unusedVariables false
set_option linter.unusedSimpArgs false
attribute [local irreducible] wpList wpQuiet wpStill wpMix Code.wp Calls bodyPost
theorem el44 : elemIs Try.prog 44 2 = true := by kernel_rfl
theorem elT44 : elT Try.prog 44 2 32 = true := by kernel_rfl
theorem fn35 : isFn Try.prog 35 = true := by kernel_rfl
theorem pair44 : pairT Try.prog 44 9 = true := by kernel_rfl
theorem pl44 : bplace Try.prog 44 = some [(0, 1), (1, 1)] := by kernel_rfl
theorem u61 : Try.prog.underlying 61 = some (.slice 44) := by kernel_rfl
theorem z44 : zcells Try.prog 44 = some [.string ByteArray.empty, .string ByteArray.empty] := by kernel_rfl

theorem rList_any {w : World} {Q : Nat → Prop} (uQ : Up w Q) {v0 : Value} {l : List Pr} (h0 : Ls tPr w Q v0 l) (p0 : l.length ≤ 1000) (p1 : ∀ q ∈ l, q.name.length ≤ 9223372036854775807) :
    Calls Try.prog 44 #[v0] w fun en w' => ∃ u0 : Value, ∃ r0 : List Pr, ∃ r1 : Nat, en = .returned (.tuple #[u0, (.int .i64 ((r1 : Nat) : Int))]) ∧ Md [] w w' ∧ Ls tPr w' Q u0 r0 ∧ r1 < 9223372036854775808 ∧ listF l = (r0, r1) := by
  have L0 := h0.len63
  have M := Md.refl [] w
  have uQ0 := uQ
  have tQ : ∀ b, Q b → Q b := fun _ h => h
  have sQ0 : ∀ b, Q b → b < w.heap.size → Q b := fun _ h _ => h
  refine enter (n := 95) Try.func44 rfl rfl rfl ?_
  intro B
  refine c_seq ?_
  refine c_region ?_
  refine st _ (r_assign rfl) ?_
  refine st _ (r_assign rfl) ?_
  refine st_nil ?_
  refine c_then ?_
  refine c_seq ?_
  refine c_seq ?_
  refine c_region ?_
  refine st _ (r_move rfl) ?_
  refine st _ (r_len rfl u61 h0.shp) ?_
  refine st _ (r_eqN (a := l.length) (b := 0) rfl rfl) ?_
  refine st_nil ?_
  refine c_then ?_
  refine c_if rfl (fun h12 => ?_) (fun h12 => ?_)
  · skip
    first | (have h12n := of_decide_eq_true h12) | (have h12n := of_decide_eq_false (bnt h12)) | (have h12n := bnt h12) | (have h12n := h12)
    refine c_seq ?_
    refine c_region ?_
    refine st _ (r_assign rfl) ?_
    refine st _ (r_assign rfl) ?_
    refine st_nil ?_
    refine c_then ?_
    refine c_ret ?_
    refine r_then ?_
    exact retL (vs := [(.slice none 0 0), (.int .i64 ((16 : Nat) : Int))]) trivial rfl ⟨rfl, rfl, trivial⟩ rfl ⟨_, [], 16, rfl, M, (Ls.nil _ _ _), (by first | assumption | omega | simp_all), (by rw [listF] <;> simp (disch := first | omega | assumption | (simp; done) | fail) only [if_pos, if_neg, Option.getD_some, Option.some.injEq, reduceIte, Bool.false_eq_true, Bool.true_eq_false, decide_true, decide_false, not_true_eq_false, not_false_eq_true, h12n])⟩
  · skip
    first | (have h12n := of_decide_eq_false h12) | (have h12n := of_decide_eq_true (bnf h12)) | (have h12n := bnf h12) | (have h12n := h12)
    refine c_skip ?_
    refine c_then ?_
    refine c_seq ?_
    refine c_region ?_
    refine st _ (r_assign rfl) ?_
    refine st_nil ?_
    refine c_then ?_
    refine c_seq ?_
    refine c_seq ?_
    refine c_region ?_
    refine st _ (r_assign rfl) ?_
    refine st_nil ?_
    refine c_then ?_
    refine c_block ?_
    obtain ⟨r0, hr00⟩ : ∃ r, goL l [] = r := ⟨_, rfl⟩
    try simp only [List.nil_append] at hr00
    refine loop3 (fun (vo : Value) (o : List Pr) (i : Nat) => [(4, vo), (5, (.int .i64 ((i : Nat) : Int))), (0, v0)]) (fun (vo : Value) (o : List Pr) (i : Nat) w' => ∃ Q' : Nat → Prop, (∀ b, Q' b → Q b) ∧ (∀ b, Q b → b < w.heap.size → Q' b) ∧ Up w' Q' ∧ Md [] w w' ∧ Ow tPr 44 (Fsh [] w) w' Q' vo o ∧ Ls tPr w' Q' v0 l ∧ (o.length ≤ i ∧ i ≤ l.length) ∧ (∀ q ∈ o, q.name.length ≤ 1000000 ∧ q.value.length ≤ 1000000) ∧ goL (l.drop i) o = r0) (fun (vo : Value) (o : List Pr) (i : Nat) => l.length - i) (x0 := (.slice none 0 0)) (x1 := ([] : List Pr)) (x2 := 0) ?_ ?_ ?_
    · exact ⟨rfl, rfl, rfl, trivial⟩
    · exact ⟨Q, tQ, sQ0, uQ, M, (Ow.nil _ _ _ _ _), h0, ⟨by simp, by omega⟩, (by simp), (by have hh := hr00; first | exact hh | (simp only [List.nil_append] at hh; exact hh))⟩
    · clear M uQ tQ sQ0 h0
      rintro vo o i B w1 ⟨Q2, tQ, sQ0, uQ, M, f_o, h0, i0_0, i0_1, hr0⟩
      refine c_seq ?_
      refine c_seq ?_
      refine c_region ?_
      refine st _ (r_move rfl) ?_
      refine st _ (r_move rfl) ?_
      refine st _ (r_len rfl u61 h0.shp) ?_
      refine st _ (r_ltN (a := i) (b := l.length) rfl rfl) ?_
      refine st_nil ?_
      refine c_then ?_
      refine c_if rfl (fun h16 => ?_) (fun h16 => ?_)
      · skip
        first | (have h16n := of_decide_eq_true h16) | (have h16n := of_decide_eq_false (bnt h16)) | (have h16n := bnt h16) | (have h16n := h16)
        refine c_skip ?_
        refine c_then ?_
        refine c_seq ?_
        refine c_block ?_
        refine c_seq ?_
        refine c_seq ?_
        refine c_region ?_
        refine st _ (r_move rfl) ?_
        refine st _ (r_move rfl) ?_
        refine st _ (r_indexN (i := i) 2 rfl rfl u61 el44 h0.shp (by omega)) ?_
        obtain ⟨x3, hx3⟩ := getE (l := l) (i := i) (by first | omega | (simp <;> omega))
        obtain ⟨c4, hr3, ha3⟩ := h0.get hx3
        obtain ⟨_, rfl⟩ := tPr_un hr3
        replace ha3 : At _ v0 (i * 2) (Pr.cells x3) := ha3
        refine st _ (r_loadEA (kk := i * 2) (Pr.cells x3) 0 rfl rfl (by exact agg44) ha3 rfl) ?_
        have bx := p1 _ (List.mem_of_getElem? hx3)
        refine st_call fn35 rfl (rJoin_any uQ x3 (by first | omega | (simp <;> omega) | (simp at * <;> omega))) ?_
        rintro en w5 ⟨v5_0, x5_0, x5_1, rfl, hm, h5_0, q5_1, hF5⟩; refine ⟨_, rfl, ?_⟩
        replace f_o := f_o.md0 hm
        replace h0 := h0.md0 hm
        replace ha3 := ha3.md0 hm
        replace uQ := uQ.md hm
        replace M := M.step0 hm
        refine st _ (r_move rfl) ?_
        refine st _ (r_extract rfl rfl) ?_
        refine st _ (r_extract rfl rfl) ?_
        refine st _ (r_assign rfl) ?_
        refine st _ (r_assign rfl) ?_
        refine st_nil ?_
        clear ha3
        refine c_then ?_
        refine c_seq ?_
        refine c_region ?_
        refine st _ (r_move rfl) ?_
        refine st _ (r_neN (a := x5_1) (b := 0) rfl rfl) ?_
        refine st_nil ?_
        refine c_then ?_
        refine c_if rfl (fun h28 => ?_) (fun h28 => ?_)
        · skip
          first | (have h28n := of_decide_eq_true h28) | (have h28n := of_decide_eq_false (bnt h28)) | (have h28n := bnt h28) | (have h28n := h28)
          refine c_seq ?_
          refine c_region ?_
          refine st _ (r_move rfl) ?_
          refine st _ (r_assign rfl) ?_
          refine st _ (r_assign rfl) ?_
          refine st_nil ?_
          refine c_then ?_
          refine c_ret ?_
          refine r_then ?_
          refine r_block ?_
          refine r_then ?_
          refine r_then ?_
          refine r_block ?_
          refine r_then ?_
          exact retL (vs := [(.slice none 0 0), (.int .i64 ((x5_1 : Nat) : Int))]) trivial rfl ⟨rfl, rfl, trivial⟩ rfl ⟨_, [], x5_1, rfl, M, (Ls.nil _ _ _), (by first | assumption | omega | simp_all), (by (try (simp (disch := first | omega | assumption | (simp; done) | fail) only [goL_end, goL_step hx3, if_pos, if_neg, Option.getD_some, Option.some.injEq, reduceIte, Bool.false_eq_true, Bool.true_eq_false, decide_true, decide_false, not_true_eq_false, not_false_eq_true, h12n, h16n, hx3, hF5, h28n] at hr0)); rw [listF] <;> simp (disch := first | omega | assumption | (simp; done) | fail) only [if_pos, if_neg, Option.getD_some, Option.some.injEq, reduceIte, Bool.false_eq_true, Bool.true_eq_false, decide_true, decide_false, not_true_eq_false, not_false_eq_true, h12n, hr00, h16n, hx3, hF5, h28n, ← hr0])⟩
        · skip
          first | (have h28n := of_decide_eq_false h28) | (have h28n := of_decide_eq_true (bnf h28)) | (have h28n := bnf h28) | (have h28n := h28)
          refine c_skip ?_
          refine c_then ?_
          refine c_seq ?_
          refine c_region ?_
          have hg := goL_step (o := o) hx3
          simp only [hF5] at hg
          rw [if_neg h28n, hr0] at hg
          have bd : x3.name.length ≤ 1000000 ∧ x3.value.length ≤ 1000000 := joinF_bd (by rw [hF5]; simp only; first | omega | simpa using h28n)
          refine st _ (r_assign rfl) ?_
          refine st_nil ?_
          refine c_then ?_
          refine c_seq ?_
          refine c_block ?_
          obtain ⟨r1, hr10⟩ : ∃ r, rankF (payload x3) o 0 = r := ⟨_, rfl⟩
          try simp only [List.nil_append, hF5] at hr10
          refine loop1 (fun (k : Nat) => [(8, (.int .i64 ((k : Nat) : Int))), (0, v0), (4, vo), (5, (.int .i64 ((i : Nat) : Int))), (7, (.int .i64 ((x5_1 : Nat) : Int))), (13, (.int .i64 ((i : Nat) : Int))), (14, v0), (15, (.int .i64 ((l.length : Nat) : Int))), (16, (.bool ((decide (i < l.length))))), (20, v0), (21, (.int .i64 ((i : Nat) : Int))), (23, (.agg (Pr.cells x3).toArray)), (25, v5_0), (26, (.int .i64 ((x5_1 : Nat) : Int))), (27, (.int .i64 ((x5_1 : Nat) : Int))), (28, (.bool ((decide (x5_1 ≠ 0)))))]) (fun (k : Nat) w' => ∃ Q' : Nat → Prop, (∀ b, Q' b → Q b) ∧ (∀ b, Q b → b < w.heap.size → Q' b) ∧ Up w' Q' ∧ Md [] w w' ∧ Ls tPr w' Q' v0 l ∧ Ow tPr 44 (Fsh [] w) w' Q' vo o ∧ Ls tB8 w' Q' v5_0 x5_0 ∧ k ≤ o.length ∧ rankF (payload x3) (o.drop k) k = r1) (fun (k : Nat) => o.length - k) (x0 := 0) ?_ ?_ ?_
          · exact ⟨rfl, rfl, rfl, rfl, rfl, rfl, rfl, rfl, rfl, rfl, rfl, rfl, rfl, rfl, rfl, rfl, trivial⟩
          · exact ⟨Q2, tQ, sQ0, uQ, M, h0, f_o, h5_0, (by omega), (by have hh := hr10; first | exact hh | (simp only [List.nil_append, hF5] at hh; exact hh))⟩
          · clear M uQ tQ sQ0 f_o h0 h5_0
            rintro k B w6 ⟨Q7, tQ, sQ0, uQ, M, h0, f_o, h5_0, i1_0, hr1⟩
            refine c_seq ?_
            refine c_seq ?_
            have h0_q := h0
            have f_o_q := f_o
            have h5_0_q := h5_0
            refine c_mixT [(0, true), (1, true), (2, true), (3, true), (4, true), (5, true), (6, true), (7, true), (8, true), (10, true), (11, true), (12, true), (13, true), (9, false)] [14, 15, 16] (fun w' => Md [] w6 w') mixed (by kernel_rfl) ?_
            intro w8 hd0; refine ⟨hd0.mono (by simp), ?_⟩; have MC := hd0.mono (T := []) (by simp)
            refine Go.Wk.m _ (fun w' hc => r_move rfl) ?_
            refine Go.Wk.m _ (fun w' hc => r_move rfl) ?_
            refine Go.Wk.m _ (fun w' hc => r_len rfl u61 f_o.shp) ?_
            refine Go.Wk.m _ (fun w' hc => r_ltN (a := k) (b := o.length) rfl rfl) ?_
            refine Go.Wk.m _ (fun w' hc => r_move rfl) ?_
            refine part_m (t := 34) rfl (fun h34 => ?_) (fun h34 => ?_)
            · skip
              first | (have h34n := of_decide_eq_true h34) | (have h34n := of_decide_eq_false (bnt h34)) | (have h34n := bnt h34) | (have h34n := h34)
              refine Go.Wk.m_g _ rfl rfl rfl h34 (fun w' hc => r_move rfl) ?_
              refine Go.Wk.m_g _ rfl rfl rfl h34 (fun w' hc => r_move rfl) ?_
              refine Go.Wk.m_g _ rfl rfl rfl h34 (fun w' hc => r_indexN (i := k) 2 rfl rfl u61 el44 f_o.shp (by omega)) ?_
              obtain ⟨x9, hx9⟩ := getE (l := o) (i := k) (by first | omega | (simp <;> omega))
              obtain ⟨c10, hr9, ha9⟩ := f_o_q.get hx9
              obtain ⟨_, rfl⟩ := tPr_un hr9
              replace ha9 : At _ vo (k * 2) (Pr.cells x9) := ha9
              refine Go.Wk.m_g _ rfl rfl rfl h34 (fun w' hc => r_loadEA (kk := k * 2) (Pr.cells x9) 0 rfl rfl (by exact agg44) (ha9.md0 hc) rfl) ?_
              refine Go.Wk.m_g _ rfl rfl rfl h34 (fun w' hc => r_move rfl) ?_
              refine Go.Wk.m_g _ rfl rfl rfl h34 (fun w' hc => r_move rfl) ?_
              refine Go.Wk.m_g _ rfl rfl rfl h34 (fun w' hc => r_indexN (i := i) 2 rfl rfl u61 el44 h0.shp (by omega)) ?_
              obtain ⟨x11, hx11⟩ := getE (l := l) (i := i) (by first | omega | (simp <;> omega))
              obtain ⟨c12, hr11, ha11⟩ := h0_q.get hx11
              obtain ⟨_, rfl⟩ := tPr_un hr11
              replace ha11 : At _ v0 (i * 2) (Pr.cells x11) := ha11
              refine Go.Wk.m_g _ rfl rfl rfl h34 (fun w' hc => r_loadEA (kk := i * 2) (Pr.cells x11) 0 rfl rfl (by exact agg44) (ha11.md0 hc) rfl) ?_
              have bq := i0_1 _ (List.mem_of_getElem? hx9)
              replace h0 := h0.md0 hd0
              replace f_o := f_o.md0 hd0
              replace h5_0 := h5_0.md0 hd0
              replace uQ := uQ.md hd0
              replace M := M.step0 hd0
              refine m_e_g rfl rfl rfl h34 rfl ?_
              have bq := i0_1 _ (List.mem_of_getElem? hx9)
              refine st_call_g rfl rfl rfl h34 fn39 rfl (payload_any uQ x9 (by first | omega | (simp <;> omega) | (simp at * <;> omega))) ?_
              rintro en w13 ⟨x13_0, rfl, hm, hF13⟩; refine ⟨_, rfl, ?_⟩
              replace h0 := h0.md0 hm
              replace f_o := f_o.md0 hm
              replace h5_0 := h5_0.md0 hm
              replace uQ := uQ.md hm
              replace M := M.step0 hm
              replace MC := MC.step0 hm
              have a13_0 := payload_len x9; rw [hF13] at a13_0; try simp only [List.length_cons, List.length_nil, List.length_append, List.length_replicate, Nat.zero_add, Nat.reduceAdd, Nat.reduceMul] at a13_0
              refine st_nil ⟨rfl, MC, ?_⟩
              refine m_nil ?_
              clear h5_0_q f_o_q h0_q
              clear MC
              have ex := Option.some.inj (hx11.symm.trans hx3)
              have bx : x11.name.length ≤ 1000000 ∧ x11.value.length ≤ 1000000 := by rw [ex]; exact bd
              refine st_call_g rfl rfl rfl h34 fn39 rfl (payload_any uQ x11 (by first | omega | (simp <;> omega) | (simp at * <;> omega))) ?_
              rintro en w14 ⟨x14_0, rfl, hm, hF14⟩; refine ⟨_, rfl, ?_⟩
              replace h0 := h0.md0 hm
              replace f_o := f_o.md0 hm
              replace h5_0 := h5_0.md0 hm
              replace uQ := uQ.md hm
              replace M := M.step0 hm
              have a14_0 := payload_len x11; rw [hF14] at a14_0; try simp only [List.length_cons, List.length_nil, List.length_append, List.length_replicate, Nat.zero_add, Nat.reduceAdd, Nat.reduceMul] at a14_0
              refine st_g _ rfl rfl rfl h34 (r_lssS (a := x13_0) (b := x14_0) rfl rfl) ?_
              refine st _ (r_pick_t rfl h34 rfl) ?_
              refine st_nil ?_
              clear ha9
              clear ha11
              refine c_then ?_
              refine c_if rfl (fun h46 => ?_) (fun h46 => ?_)
              · skip
                first | (have h46n := of_decide_eq_true h46) | (have h46n := of_decide_eq_false (bnt h46)) | (have h46n := bnt h46) | (have h46n := h46)
                refine c_skip ?_
                refine c_then ?_
                refine c_block ?_
                refine c_region ?_
                refine st _ (r_move rfl) ?_
                refine st _ (r_addN (a := k) (b := 1) 9223372036854775808 rfl rfl rfl (by omega)) ?_
                refine st _ (r_assign rfl) ?_
                refine st_nil ?_
                refine n_block ?_
                refine c_then ?_
                refine next1 (x0 := (k + 1)) (by omega) ⟨(fitI rfl (by omega)), rfl, rfl, rfl, rfl, rfl, rfl, rfl, rfl, rfl, rfl, rfl, rfl, rfl, rfl, rfl, trivial⟩ ⟨Q7, tQ, sQ0, uQ, M, h0, f_o, h5_0, (by omega), (by have hh := hr1; rw [rank_step hx9, if_pos (by rw [← ex, hF13, hF14]; exact h46n)] at hh; exact hh)⟩
              · skip
                first | (have h46n := of_decide_eq_false h46) | (have h46n := of_decide_eq_true (bnf h46)) | (have h46n := bnf h46) | (have h46n := h46)
                refine c_exit ?_
                refine x_then ?_
                refine x_then ?_
                refine x_hit ?_
                refine c_then ?_
                refine c_seq ?_
                refine c_seq ?_
                have h0_q := h0
                have f_o_q := f_o
                have h5_0_q := h5_0
                refine c_mixT [(0, true), (1, true), (2, true), (3, true), (4, true), (5, true), (6, true), (7, true), (8, true), (9, true), (10, true), (11, true), (12, true)] [13, 14] (fun w' => Md [] w14 w') mixed (by kernel_rfl) ?_
                intro w15 hd0; refine ⟨hd0.mono (by simp), ?_⟩; have MC := hd0.mono (T := []) (by simp)
                have ek : k = r1 := by
                  have hh := hr1
                  rw [rank_step hx9, if_neg (by rw [← ex, hF13, hF14]; simpa using h46n)] at hh
                  exact hh
                have ei : rankF (payload x3) o 0 = k := by rw [hr10, ek]
                refine Go.Wk.m _ (fun w' hc => r_move rfl) ?_
                refine Go.Wk.m _ (fun w' hc => r_move rfl) ?_
                refine Go.Wk.m _ (fun w' hc => r_len rfl u61 f_o.shp) ?_
                refine Go.Wk.m _ (fun w' hc => r_ltN (a := k) (b := o.length) rfl rfl) ?_
                refine Go.Wk.m _ (fun w' hc => r_move rfl) ?_
                refine part_m (t := 53) rfl (fun h53 => ?_) (fun h53 => ?_)
                · skip
                  first | (have h53n := of_decide_eq_true h53) | (have h53n := of_decide_eq_false (bnt h53)) | (have h53n := bnt h53) | (have h53n := h53)
                  refine Go.Wk.m_g _ rfl rfl rfl h53 (fun w' hc => r_move rfl) ?_
                  refine Go.Wk.m_g _ rfl rfl rfl h53 (fun w' hc => r_move rfl) ?_
                  refine Go.Wk.m_g _ rfl rfl rfl h53 (fun w' hc => r_indexN (i := k) 2 rfl rfl u61 el44 f_o.shp (by omega)) ?_
                  obtain ⟨c17, hr18, ha18⟩ := f_o_q.get hx9
                  obtain ⟨_, rfl⟩ := tPr_un hr18
                  replace ha18 : At _ vo (k * 2) (Pr.cells x9) := ha18
                  refine Go.Wk.m_g _ rfl rfl rfl h53 (fun w' hc => r_loadEA (kk := k * 2) (Pr.cells x9) 0 rfl rfl (by exact agg44) (ha18.md0 hc) rfl) ?_
                  refine Go.Wk.m_g _ rfl rfl rfl h53 (fun w' hc => r_move rfl) ?_
                  refine Go.Wk.m_g _ rfl rfl rfl h53 (fun w' hc => r_move rfl) ?_
                  refine Go.Wk.m_g _ rfl rfl rfl h53 (fun w' hc => r_indexN (i := i) 2 rfl rfl u61 el44 h0.shp (by omega)) ?_
                  obtain ⟨c20, hr21, ha21⟩ := h0_q.get hx11
                  obtain ⟨_, rfl⟩ := tPr_un hr21
                  replace ha21 : At _ v0 (i * 2) (Pr.cells x11) := ha21
                  refine Go.Wk.m_g _ rfl rfl rfl h53 (fun w' hc => r_loadEA (kk := i * 2) (Pr.cells x11) 0 rfl rfl (by exact agg44) (ha21.md0 hc) rfl) ?_
                  refine m_nil ?_
                  replace h0 := h0.md0 hd0
                  replace f_o := f_o.md0 hd0
                  replace h5_0 := h5_0.md0 hd0
                  replace uQ := uQ.md hd0
                  replace M := M.step0 hd0
                  clear h5_0_q f_o_q h0_q
                  clear MC
                  refine st_g _ rfl rfl rfl h53 (r_eqlPr (p := x9) (q := x11) pair44 u9 rfl rfl) ?_
                  refine st _ (r_pick_t rfl h53 rfl) ?_
                  refine st_nil ?_
                  clear ha18
                  clear ha21
                  refine c_then ?_
                  refine c_if rfl (fun h63 => ?_) (fun h63 => ?_)
                  · skip
                    first | (have h63n := of_decide_eq_true h63) | (have h63n := of_decide_eq_false (bnt h63)) | (have h63n := bnt h63) | (have h63n := h63)
                    refine c_exit ?_
                    refine x_then ?_
                    refine x_hit ?_
                    refine c_then ?_
                    refine c_region ?_
                    refine st _ (r_move rfl) ?_
                    refine st _ (r_addN (a := i) (b := 1) 9223372036854775808 rfl rfl rfl (by omega)) ?_
                    refine st _ (r_assign rfl) ?_
                    refine st_nil ?_
                    refine c_then ?_
                    refine next3 (x0 := vo) (x1 := o) (x2 := (i + 1)) (by omega) ⟨rfl, (fitI rfl (by omega)), rfl, trivial⟩ ⟨Q7, tQ, sQ0, uQ, M, f_o, h0, ⟨by omega, by omega⟩, i0_1, (by have hi : insF x3 o = o := (by unfold insF; simp only [ei]; rw [if_pos ⟨by omega, (by rw [pr_getD hx9, ← Option.some.inj (hx11.symm.trans hx3)]; first | exact h63n | simp_all)⟩]); rw [hi] at hg; exact hg.symm)⟩
                  · skip
                    first | (have h63n := of_decide_eq_false h63) | (have h63n := of_decide_eq_true (bnf h63)) | (have h63n := bnf h63) | (have h63n := h63)
                    refine c_skip ?_
                    refine c_then ?_
                    refine c_seq ?_
                    refine c_region ?_
                    have nei : ¬ (k < o.length ∧ (o.getD k { name := [], value := [] }).pb = x3.pb) := (by
                      rintro ⟨h1, h2⟩
                      have e2 := Option.some.inj (hx11.symm.trans hx3)
                      rw [pr_getD hx9, ← e2] at h2
                      first | exact h63n h2 | simp_all)
                    refine st _ (r_move rfl) ?_
                    refine st _ (r_buildG (us := []) (cs := (Pr.cells (({ name := [], value := [] } : Pr)))) [] z44 pl44 rfl rfl trivial trivial rfl rfl) ?_
                    refine st_buildSliceG [(Pr.cells (({ name := [], value := [] } : Pr)))] u61 elT44 (by decide) (by decide) rfl rfl ⟨rfl, trivial⟩ ⟨rfl, trivial⟩ rfl (by decide) ?_
                    intro ba66 w22 ga66 la66 hm ha66
                    have ya66 := uQ _ ga66
                    replace h0 := h0.md0 hm
                    replace f_o := f_o.md0 hm
                    replace h5_0 := h5_0.md0 hm
                    replace uQ := uQ.md hm
                    replace M := M.step0 hm
                    replace ha66 := Ls.of_blk (m := 1) (R := Q7) (T := tPr) (xs := [({ name := [], value := [] } : Pr)]) ha66 ⟨_, _, rfl, (tPr_mk), rfl⟩ rfl (by decide) ya66
                    refine st_ap (sz := 2) (by rfl) u61 elT44 rfl rfl f_o ha66 (fun _ h _ => h) uQ (Fsh.new M) (by first | omega | (simp <;> omega) | (simp at * <;> omega)) (by first | omega | (simp <;> omega) | (simp at * <;> omega)) ?_
                    intro v24 w25 Q26 sQ sT uQ2 hO23 hm hS _ hv2
                    have f_o0 := f_o; clear f_o
                    replace h0 := h0.sub sQ
                    replace h5_0 := h5_0.sub sQ
                    replace ha66 := ha66.sub sQ
                    replace tQ := fun b hb => tQ b (sT b hb)
                    replace sQ0 := fun b hb hl => sQ b (sQ0 b hb hl) (Nat.lt_of_lt_of_le hl M.size)
                    replace h0 := h0.md hm hS
                    replace h5_0 := h5_0.md hm hS
                    replace ha66 := ha66.md hm hS
                    replace uQ := uQ.md hm
                    replace M := M.stepO hm (fun b hb => (f_o0.2 b hb).1)
                    clear uQ; have uQ := uQ2; clear uQ2 sQ sT hS hv2
                    refine st _ (r_assign rfl) ?_
                    refine st_nil ?_
                    refine c_then ?_
                    refine c_seq ?_
                    refine c_seq ?_
                    refine c_region ?_
                    have cl : (o ++ ([({ name := [], value := [] } : Pr)])).length = o.length + 1 := by simp
                    refine st _ (r_move rfl) ?_
                    refine st _ (r_len rfl u61 hO23.shp) ?_
                    refine st _ (r_subN (a := ((o ++ ([({ name := [], value := [] } : Pr)])).length)) (b := 1) 9223372036854775808 rfl rfl rfl (by omega)) ?_
                    refine st _ (r_assign rfl) ?_
                    refine st_nil ?_
                    refine c_then ?_
                    refine c_block ?_
                    obtain ⟨r2, hr20⟩ : ∃ r, shiftF ((((o ++ ([({ name := [], value := [] } : Pr)])).length) - 1) - k) (((o ++ ([({ name := [], value := [] } : Pr)])).length) - 1) (o ++ ([({ name := [], value := [] } : Pr)])) = r := ⟨_, rfl⟩
                    try simp only [List.nil_append, hF5, hF13, hF14] at hr20
                    refine loop3 (fun (vo2 : Value) (o2 : List Pr) (j : Nat) => [(4, vo2), (9, (.int .i64 ((j : Nat) : Int))), (0, v0), (5, (.int .i64 ((i : Nat) : Int))), (7, (.int .i64 ((x5_1 : Nat) : Int))), (8, (.int .i64 ((k : Nat) : Int))), (13, (.int .i64 ((i : Nat) : Int))), (14, v0), (15, (.int .i64 ((l.length : Nat) : Int))), (16, (.bool ((decide (i < l.length))))), (20, v0), (21, (.int .i64 ((i : Nat) : Int))), (23, (.agg (Pr.cells x3).toArray)), (25, v5_0), (26, (.int .i64 ((x5_1 : Nat) : Int))), (27, (.int .i64 ((x5_1 : Nat) : Int))), (28, (.bool ((decide (x5_1 ≠ 0))))), (30, (.int .i64 ((k : Nat) : Int))), (32, (.int .i64 ((o.length : Nat) : Int))), (33, (.bool ((decide (k < o.length))))), (34, (.bool ((decide (k < o.length))))), (36, (.int .i64 ((k : Nat) : Int))), (38, (.agg (Pr.cells x9).toArray)), (39, (str x13_0)), (40, v0), (41, (.int .i64 ((i : Nat) : Int))), (43, (.agg (Pr.cells x11).toArray)), (44, (str x14_0)), (45, (.bool ((Op.bytesLess x13_0 x14_0)))), (46, (.bool ((Op.bytesLess x13_0 x14_0)))), (49, (.int .i64 ((k : Nat) : Int))), (51, (.int .i64 ((o.length : Nat) : Int))), (52, (.bool ((decide (k < o.length))))), (53, (.bool ((decide (k < o.length))))), (55, (.int .i64 ((k : Nat) : Int))), (57, (.agg (Pr.cells x9).toArray)), (58, v0), (59, (.int .i64 ((i : Nat) : Int))), (61, (.agg (Pr.cells x11).toArray)), (62, (.bool ((decide (x9.pb = x11.pb))))), (63, (.bool ((decide (x9.pb = x11.pb))))), (65, (.agg (Pr.cells (({ name := [], value := [] } : Pr))).toArray)), (66, (.slice (some ⟨ba66, 0, none⟩) 1 1)), (69, (.int .i64 (((o ++ ([({ name := [], value := [] } : Pr)])).length : Nat) : Int))), (70, (.int .i64 ((((o ++ ([({ name := [], value := [] } : Pr)])).length) - 1 : Nat) : Int)))]) (fun (vo2 : Value) (o2 : List Pr) (j : Nat) w' => ∃ Q' : Nat → Prop, (∀ b, Q' b → Q b) ∧ (∀ b, Q b → b < w.heap.size → Q' b) ∧ Up w' Q' ∧ Md [] w w' ∧ Ow tPr 44 (Fsh [] w) w' Q' vo2 o2 ∧ Ls tPr w' Q' v0 l ∧ Ls tB8 w' Q' v5_0 x5_0 ∧ Ls tPr w' Q' (.slice (some ⟨ba66, 0, none⟩) 1 1) ([({ name := [], value := [] } : Pr)]) ∧ (k ≤ j ∧ j < o2.length ∧ o2.length = o.length + 1) ∧ (∀ q ∈ o2, q.name.length ≤ 1000000 ∧ q.value.length ≤ 1000000) ∧ shiftF (j - k) j o2 = r2) (fun (vo2 : Value) (o2 : List Pr) (j : Nat) => j) (x0 := v24) (x1 := (o ++ ([({ name := [], value := [] } : Pr)]))) (x2 := (((o ++ ([({ name := [], value := [] } : Pr)])).length) - 1)) ?_ ?_ ?_
                    · exact ⟨rfl, rfl, rfl, rfl, rfl, rfl, rfl, rfl, rfl, rfl, rfl, rfl, rfl, rfl, rfl, rfl, rfl, rfl, rfl, rfl, rfl, rfl, rfl, rfl, rfl, rfl, rfl, rfl, rfl, rfl, rfl, rfl, rfl, rfl, rfl, rfl, rfl, rfl, rfl, rfl, rfl, rfl, rfl, rfl, rfl, trivial⟩
                    · exact ⟨Q26, tQ, sQ0, uQ, M, hO23, h0, h5_0, ha66, ⟨by omega, by omega, by omega⟩, (by intro q hq; rcases List.mem_append.1 hq with h | h; exact i0_1 q h; simp at h; subst h; simp), (by have hh := hr20; first | exact hh | (simp only [List.nil_append, hF5, hF13, hF14] at hh; exact hh))⟩
                    · clear M uQ tQ sQ0 h0 h5_0 ha66 hO23
                      rintro vo2 o2 j B w27 ⟨Q28, tQ, sQ0, uQ, M, f_o2, h0, h5_0, ha66, i2_0, i2_1, hr2⟩
                      refine c_seq ?_
                      refine c_seq ?_
                      refine c_region ?_
                      refine st _ (r_move rfl) ?_
                      refine st _ (r_move rfl) ?_
                      refine st _ (r_gtN (a := j) (b := k) rfl rfl) ?_
                      refine st_nil ?_
                      refine c_then ?_
                      refine c_if rfl (fun h73 => ?_) (fun h73 => ?_)
                      · skip
                        first | (have h73n := of_decide_eq_true h73) | (have h73n := of_decide_eq_false (bnt h73)) | (have h73n := bnt h73) | (have h73n := h73)
                        refine c_skip ?_
                        refine c_then ?_
                        refine c_seq ?_
                        refine c_block ?_
                        refine c_region ?_
                        refine st _ (r_move rfl) ?_
                        refine st _ (r_move rfl) ?_
                        refine st _ (r_move rfl) ?_
                        refine st _ (r_move rfl) ?_
                        refine st _ (r_subN (a := j) (b := 1) 9223372036854775808 rfl rfl rfl (by omega)) ?_
                        refine st _ (r_indexN (i := j - 1) 2 rfl rfl u61 el44 f_o2.shp (by omega)) ?_
                        obtain ⟨x29, hx29⟩ := getE (l := o2) (i := j - 1) (by first | omega | (simp <;> omega))
                        obtain ⟨c30, hr29, ha29⟩ := f_o2.get hx29
                        obtain ⟨_, rfl⟩ := tPr_un hr29
                        replace ha29 : At _ vo2 ((j - 1) * 2) (Pr.cells x29) := ha29
                        refine st _ (r_loadEA (kk := (j - 1) * 2) (Pr.cells x29) 0 rfl rfl (by exact agg44) ha29 rfl) ?_
                        refine st _ (r_indexN (i := j) 2 rfl rfl u61 el44 f_o2.shp (by omega)) ?_
                        obtain ⟨x31, hx31⟩ := getE (l := o2) (i := j) (by first | omega | (simp <;> omega))
                        obtain ⟨c32, hr31, ha31⟩ := f_o2.get hx31
                        obtain ⟨_, rfl⟩ := tPr_un hr31
                        replace ha31 : At _ vo2 (j * 2) (Pr.cells x31) := ha31
                        refine st_storeOwA (T := tPr) (z := x29) (i := j) (c := (Pr.cells x29)) rfl rfl rfl (by exact agg44) f_o2 (tPr_mk) (by omega) ?_
                        intro w33 hm hS f_o22
                        have f_o20 := f_o2; clear f_o2; have f_o2 := f_o22; clear f_o22
                        replace h0 := h0.md hm hS
                        replace h5_0 := h5_0.md hm hS
                        replace ha66 := ha66.md hm hS
                        clear ha29
                        clear ha31
                        replace uQ := uQ.md hm
                        replace M := M.stepO hm (fun b hb => (f_o20.2 b hb).1)
                        clear f_o20 hS
                        refine st_nil ?_
                        refine n_block ?_
                        refine c_then ?_
                        refine c_region ?_
                        refine st _ (r_move rfl) ?_
                        refine st _ (r_subN (a := j) (b := 1) 9223372036854775808 rfl rfl rfl (by omega)) ?_
                        refine st _ (r_assign rfl) ?_
                        refine st_nil ?_
                        refine c_then ?_
                        refine next3 (x0 := vo2) (x1 := (o2.set j x29)) (x2 := (j - 1)) (by omega) ⟨rfl, (fitI rfl (by omega)), rfl, rfl, rfl, rfl, rfl, rfl, rfl, rfl, rfl, rfl, rfl, rfl, rfl, rfl, rfl, rfl, rfl, rfl, rfl, rfl, rfl, rfl, rfl, rfl, rfl, rfl, rfl, rfl, rfl, rfl, rfl, rfl, rfl, rfl, rfl, rfl, rfl, rfl, rfl, rfl, rfl, rfl, rfl, trivial⟩ ⟨Q28, tQ, sQ0, uQ, M, f_o2, h0, h5_0, ha66, (by simp only [List.length_set]; omega), (by intro q hq; rcases List.mem_or_eq_of_mem_set hq with h | rfl; exact i2_1 q h; exact i2_1 _ (List.mem_of_getElem? hx29)), (by have hh := hr2; rw [shift_step (by omega), pr_getD hx29] at hh; exact hh)⟩
                      · skip
                        first | (have h73n := of_decide_eq_false h73) | (have h73n := of_decide_eq_true (bnf h73)) | (have h73n := bnf h73) | (have h73n := h73)
                        refine c_exit ?_
                        refine x_then ?_
                        refine x_then ?_
                        refine x_hit ?_
                        refine c_then ?_
                        refine c_region ?_
                        refine st _ (r_move rfl) ?_
                        refine st _ (r_move rfl) ?_
                        refine st _ (r_move rfl) ?_
                        refine st _ (r_move rfl) ?_
                        refine st _ (r_indexN (i := i) 2 rfl rfl u61 el44 h0.shp (by omega)) ?_
                        obtain ⟨x34, hx34⟩ := getE (l := l) (i := i) (by first | omega | (simp <;> omega))
                        obtain ⟨c35, hr34, ha34⟩ := h0.get hx34
                        obtain ⟨_, rfl⟩ := tPr_un hr34
                        replace ha34 : At _ v0 (i * 2) (Pr.cells x34) := ha34
                        refine st _ (r_loadEA (kk := i * 2) (Pr.cells x34) 0 rfl rfl (by exact agg44) ha34 rfl) ?_
                        refine st _ (r_indexN (i := k) 2 rfl rfl u61 el44 f_o2.shp (by omega)) ?_
                        obtain ⟨x36, hx36⟩ := getE (l := o2) (i := k) (by first | omega | (simp <;> omega))
                        obtain ⟨c37, hr36, ha36⟩ := f_o2.get hx36
                        obtain ⟨_, rfl⟩ := tPr_un hr36
                        replace ha36 : At _ vo2 (k * 2) (Pr.cells x36) := ha36
                        refine st_storeOwA (T := tPr) (z := x34) (i := k) (c := (Pr.cells x34)) rfl rfl rfl (by exact agg44) f_o2 (tPr_mk) (by omega) ?_
                        intro w38 hm hS f_o22
                        have f_o20 := f_o2; clear f_o2; have f_o2 := f_o22; clear f_o22
                        replace h0 := h0.md hm hS
                        replace h5_0 := h5_0.md hm hS
                        replace ha66 := ha66.md hm hS
                        clear ha34
                        clear ha36
                        replace uQ := uQ.md hm
                        replace M := M.stepO hm (fun b hb => (f_o20.2 b hb).1)
                        clear f_o20 hS
                        refine st_nil ?_
                        refine n_block ?_
                        refine c_then ?_
                        refine c_region ?_
                        refine st _ (r_move rfl) ?_
                        refine st _ (r_addN (a := i) (b := 1) 9223372036854775808 rfl rfl rfl (by omega)) ?_
                        refine st _ (r_assign rfl) ?_
                        refine st_nil ?_
                        refine c_then ?_
                        refine next3 (x0 := vo2) (x1 := (o2.set k x34)) (x2 := (i + 1)) (by omega) ⟨rfl, (fitI rfl (by omega)), rfl, trivial⟩ ⟨Q28, tQ, sQ0, uQ, M, f_o2, h0, ⟨by rw [List.length_set]; omega, by omega⟩, (by intro q hq; rcases List.mem_or_eq_of_mem_set hq with h | rfl; exact i2_1 q h; rw [Option.some.inj (hx34.symm.trans hx3)]; exact bd), (by have hi : insF x3 o = o2.set k x3 := (by have hh := hr2; rw [shift_end (by omega)] at hh; have h20 := hr20; rw [cl, Nat.add_sub_cancel] at h20; unfold insF; simp only [ei]; rw [if_neg nei, h20, ← hh]); have exx : x34 = x3 := Option.some.inj (hx34.symm.trans hx3); rw [exx, ← hi]; exact hg.symm)⟩
                · skip
                  first | (have h53n := of_decide_eq_false h53) | (have h53n := of_decide_eq_true (bnf h53)) | (have h53n := bnf h53) | (have h53n := h53)
                  refine m_skip rfl rfl rfl h53 ?_
                  refine m_skip rfl rfl rfl h53 ?_
                  refine m_skip rfl rfl rfl h53 ?_
                  refine m_skip rfl rfl rfl h53 ?_
                  refine m_skip rfl rfl rfl h53 ?_
                  refine m_skip rfl rfl rfl h53 ?_
                  refine m_skip rfl rfl rfl h53 ?_
                  refine m_skip rfl rfl rfl h53 ?_
                  refine m_nil ?_
                  replace h0 := h0.md0 hd0
                  replace f_o := f_o.md0 hd0
                  replace h5_0 := h5_0.md0 hd0
                  replace uQ := uQ.md hd0
                  replace M := M.step0 hd0
                  clear h5_0_q f_o_q h0_q
                  clear MC
                  refine st_skip rfl rfl rfl h53 ?_
                  refine st _ (r_pick_f rfl h53 rfl) ?_
                  refine st_nil ?_
                  refine c_then ?_
                  refine c_if_f rfl rfl ?_
                  refine c_skip ?_
                  refine c_then ?_
                  refine c_seq ?_
                  refine c_region ?_
                  have nei : ¬ (k < o.length ∧ (o.getD k { name := [], value := [] }).pb = x3.pb) := (by rintro ⟨h1, h2⟩; omega)
                  refine st _ (r_move rfl) ?_
                  refine st _ (r_buildG (us := []) (cs := (Pr.cells (({ name := [], value := [] } : Pr)))) [] z44 pl44 rfl rfl trivial trivial rfl rfl) ?_
                  refine st_buildSliceG [(Pr.cells (({ name := [], value := [] } : Pr)))] u61 elT44 (by decide) (by decide) rfl rfl ⟨rfl, trivial⟩ ⟨rfl, trivial⟩ rfl (by decide) ?_
                  intro ba66 w39 ga66 la66 hm ha66
                  have ya66 := uQ _ ga66
                  replace h0 := h0.md0 hm
                  replace f_o := f_o.md0 hm
                  replace h5_0 := h5_0.md0 hm
                  replace uQ := uQ.md hm
                  replace M := M.step0 hm
                  replace ha66 := Ls.of_blk (m := 1) (R := Q7) (T := tPr) (xs := [({ name := [], value := [] } : Pr)]) ha66 ⟨_, _, rfl, (tPr_mk), rfl⟩ rfl (by decide) ya66
                  refine st_ap (sz := 2) (by rfl) u61 elT44 rfl rfl f_o ha66 (fun _ h _ => h) uQ (Fsh.new M) (by first | omega | (simp <;> omega) | (simp at * <;> omega)) (by first | omega | (simp <;> omega) | (simp at * <;> omega)) ?_
                  intro v41 w42 Q43 sQ sT uQ2 hO40 hm hS _ hv2
                  have f_o0 := f_o; clear f_o
                  replace h0 := h0.sub sQ
                  replace h5_0 := h5_0.sub sQ
                  replace ha66 := ha66.sub sQ
                  replace tQ := fun b hb => tQ b (sT b hb)
                  replace sQ0 := fun b hb hl => sQ b (sQ0 b hb hl) (Nat.lt_of_lt_of_le hl M.size)
                  replace h0 := h0.md hm hS
                  replace h5_0 := h5_0.md hm hS
                  replace ha66 := ha66.md hm hS
                  replace uQ := uQ.md hm
                  replace M := M.stepO hm (fun b hb => (f_o0.2 b hb).1)
                  clear uQ; have uQ := uQ2; clear uQ2 sQ sT hS hv2
                  refine st _ (r_assign rfl) ?_
                  refine st_nil ?_
                  refine c_then ?_
                  refine c_seq ?_
                  refine c_seq ?_
                  refine c_region ?_
                  have cl : (o ++ ([({ name := [], value := [] } : Pr)])).length = o.length + 1 := by simp
                  refine st _ (r_move rfl) ?_
                  refine st _ (r_len rfl u61 hO40.shp) ?_
                  refine st _ (r_subN (a := ((o ++ ([({ name := [], value := [] } : Pr)])).length)) (b := 1) 9223372036854775808 rfl rfl rfl (by omega)) ?_
                  refine st _ (r_assign rfl) ?_
                  refine st_nil ?_
                  refine c_then ?_
                  refine c_block ?_
                  obtain ⟨r2, hr20⟩ : ∃ r, shiftF ((((o ++ ([({ name := [], value := [] } : Pr)])).length) - 1) - k) (((o ++ ([({ name := [], value := [] } : Pr)])).length) - 1) (o ++ ([({ name := [], value := [] } : Pr)])) = r := ⟨_, rfl⟩
                  try simp only [List.nil_append, hF5, hF13, hF14] at hr20
                  refine loop3 (fun (vo2 : Value) (o2 : List Pr) (j : Nat) => [(4, vo2), (9, (.int .i64 ((j : Nat) : Int))), (0, v0), (5, (.int .i64 ((i : Nat) : Int))), (7, (.int .i64 ((x5_1 : Nat) : Int))), (8, (.int .i64 ((k : Nat) : Int))), (13, (.int .i64 ((i : Nat) : Int))), (14, v0), (15, (.int .i64 ((l.length : Nat) : Int))), (16, (.bool ((decide (i < l.length))))), (20, v0), (21, (.int .i64 ((i : Nat) : Int))), (23, (.agg (Pr.cells x3).toArray)), (25, v5_0), (26, (.int .i64 ((x5_1 : Nat) : Int))), (27, (.int .i64 ((x5_1 : Nat) : Int))), (28, (.bool ((decide (x5_1 ≠ 0))))), (30, (.int .i64 ((k : Nat) : Int))), (32, (.int .i64 ((o.length : Nat) : Int))), (33, (.bool ((decide (k < o.length))))), (34, (.bool ((decide (k < o.length))))), (36, (.int .i64 ((k : Nat) : Int))), (38, (.agg (Pr.cells x9).toArray)), (39, (str x13_0)), (40, v0), (41, (.int .i64 ((i : Nat) : Int))), (43, (.agg (Pr.cells x11).toArray)), (44, (str x14_0)), (45, (.bool ((Op.bytesLess x13_0 x14_0)))), (46, (.bool ((Op.bytesLess x13_0 x14_0)))), (49, (.int .i64 ((k : Nat) : Int))), (51, (.int .i64 ((o.length : Nat) : Int))), (52, (.bool ((decide (k < o.length))))), (53, (.bool ((decide (k < o.length))))), (63, (.bool false)), (65, (.agg (Pr.cells (({ name := [], value := [] } : Pr))).toArray)), (66, (.slice (some ⟨ba66, 0, none⟩) 1 1)), (69, (.int .i64 (((o ++ ([({ name := [], value := [] } : Pr)])).length : Nat) : Int))), (70, (.int .i64 ((((o ++ ([({ name := [], value := [] } : Pr)])).length) - 1 : Nat) : Int)))]) (fun (vo2 : Value) (o2 : List Pr) (j : Nat) w' => ∃ Q' : Nat → Prop, (∀ b, Q' b → Q b) ∧ (∀ b, Q b → b < w.heap.size → Q' b) ∧ Up w' Q' ∧ Md [] w w' ∧ Ow tPr 44 (Fsh [] w) w' Q' vo2 o2 ∧ Ls tPr w' Q' v0 l ∧ Ls tB8 w' Q' v5_0 x5_0 ∧ Ls tPr w' Q' (.slice (some ⟨ba66, 0, none⟩) 1 1) ([({ name := [], value := [] } : Pr)]) ∧ (k ≤ j ∧ j < o2.length ∧ o2.length = o.length + 1) ∧ (∀ q ∈ o2, q.name.length ≤ 1000000 ∧ q.value.length ≤ 1000000) ∧ shiftF (j - k) j o2 = r2) (fun (vo2 : Value) (o2 : List Pr) (j : Nat) => j) (x0 := v41) (x1 := (o ++ ([({ name := [], value := [] } : Pr)]))) (x2 := (((o ++ ([({ name := [], value := [] } : Pr)])).length) - 1)) ?_ ?_ ?_
                  · exact ⟨rfl, rfl, rfl, rfl, rfl, rfl, rfl, rfl, rfl, rfl, rfl, rfl, rfl, rfl, rfl, rfl, rfl, rfl, rfl, rfl, rfl, rfl, rfl, rfl, rfl, rfl, rfl, rfl, rfl, rfl, rfl, rfl, rfl, rfl, rfl, rfl, rfl, rfl, rfl, trivial⟩
                  · exact ⟨Q43, tQ, sQ0, uQ, M, hO40, h0, h5_0, ha66, ⟨by omega, by omega, by omega⟩, (by intro q hq; rcases List.mem_append.1 hq with h | h; exact i0_1 q h; simp at h; subst h; simp), (by have hh := hr20; first | exact hh | (simp only [List.nil_append, hF5, hF13, hF14] at hh; exact hh))⟩
                  · clear M uQ tQ sQ0 h0 h5_0 ha66 hO40
                    rintro vo2 o2 j B w44 ⟨Q45, tQ, sQ0, uQ, M, f_o2, h0, h5_0, ha66, i2_0, i2_1, hr2⟩
                    refine c_seq ?_
                    refine c_seq ?_
                    refine c_region ?_
                    refine st _ (r_move rfl) ?_
                    refine st _ (r_move rfl) ?_
                    refine st _ (r_gtN (a := j) (b := k) rfl rfl) ?_
                    refine st_nil ?_
                    refine c_then ?_
                    refine c_if rfl (fun h73 => ?_) (fun h73 => ?_)
                    · skip
                      first | (have h73n := of_decide_eq_true h73) | (have h73n := of_decide_eq_false (bnt h73)) | (have h73n := bnt h73) | (have h73n := h73)
                      refine c_skip ?_
                      refine c_then ?_
                      refine c_seq ?_
                      refine c_block ?_
                      refine c_region ?_
                      refine st _ (r_move rfl) ?_
                      refine st _ (r_move rfl) ?_
                      refine st _ (r_move rfl) ?_
                      refine st _ (r_move rfl) ?_
                      refine st _ (r_subN (a := j) (b := 1) 9223372036854775808 rfl rfl rfl (by omega)) ?_
                      refine st _ (r_indexN (i := j - 1) 2 rfl rfl u61 el44 f_o2.shp (by omega)) ?_
                      obtain ⟨x46, hx46⟩ := getE (l := o2) (i := j - 1) (by first | omega | (simp <;> omega))
                      obtain ⟨c47, hr46, ha46⟩ := f_o2.get hx46
                      obtain ⟨_, rfl⟩ := tPr_un hr46
                      replace ha46 : At _ vo2 ((j - 1) * 2) (Pr.cells x46) := ha46
                      refine st _ (r_loadEA (kk := (j - 1) * 2) (Pr.cells x46) 0 rfl rfl (by exact agg44) ha46 rfl) ?_
                      refine st _ (r_indexN (i := j) 2 rfl rfl u61 el44 f_o2.shp (by omega)) ?_
                      obtain ⟨x48, hx48⟩ := getE (l := o2) (i := j) (by first | omega | (simp <;> omega))
                      obtain ⟨c49, hr48, ha48⟩ := f_o2.get hx48
                      obtain ⟨_, rfl⟩ := tPr_un hr48
                      replace ha48 : At _ vo2 (j * 2) (Pr.cells x48) := ha48
                      refine st_storeOwA (T := tPr) (z := x46) (i := j) (c := (Pr.cells x46)) rfl rfl rfl (by exact agg44) f_o2 (tPr_mk) (by omega) ?_
                      intro w50 hm hS f_o22
                      have f_o20 := f_o2; clear f_o2; have f_o2 := f_o22; clear f_o22
                      replace h0 := h0.md hm hS
                      replace h5_0 := h5_0.md hm hS
                      replace ha66 := ha66.md hm hS
                      clear ha46
                      clear ha48
                      replace uQ := uQ.md hm
                      replace M := M.stepO hm (fun b hb => (f_o20.2 b hb).1)
                      clear f_o20 hS
                      refine st_nil ?_
                      refine n_block ?_
                      refine c_then ?_
                      refine c_region ?_
                      refine st _ (r_move rfl) ?_
                      refine st _ (r_subN (a := j) (b := 1) 9223372036854775808 rfl rfl rfl (by omega)) ?_
                      refine st _ (r_assign rfl) ?_
                      refine st_nil ?_
                      refine c_then ?_
                      refine next3 (x0 := vo2) (x1 := (o2.set j x46)) (x2 := (j - 1)) (by omega) ⟨rfl, (fitI rfl (by omega)), rfl, rfl, rfl, rfl, rfl, rfl, rfl, rfl, rfl, rfl, rfl, rfl, rfl, rfl, rfl, rfl, rfl, rfl, rfl, rfl, rfl, rfl, rfl, rfl, rfl, rfl, rfl, rfl, rfl, rfl, rfl, rfl, rfl, rfl, rfl, rfl, rfl, trivial⟩ ⟨Q45, tQ, sQ0, uQ, M, f_o2, h0, h5_0, ha66, (by simp only [List.length_set]; omega), (by intro q hq; rcases List.mem_or_eq_of_mem_set hq with h | rfl; exact i2_1 q h; exact i2_1 _ (List.mem_of_getElem? hx46)), (by have hh := hr2; rw [shift_step (by omega), pr_getD hx46] at hh; exact hh)⟩
                    · skip
                      first | (have h73n := of_decide_eq_false h73) | (have h73n := of_decide_eq_true (bnf h73)) | (have h73n := bnf h73) | (have h73n := h73)
                      refine c_exit ?_
                      refine x_then ?_
                      refine x_then ?_
                      refine x_hit ?_
                      refine c_then ?_
                      refine c_region ?_
                      refine st _ (r_move rfl) ?_
                      refine st _ (r_move rfl) ?_
                      refine st _ (r_move rfl) ?_
                      refine st _ (r_move rfl) ?_
                      refine st _ (r_indexN (i := i) 2 rfl rfl u61 el44 h0.shp (by omega)) ?_
                      obtain ⟨x51, hx51⟩ := getE (l := l) (i := i) (by first | omega | (simp <;> omega))
                      obtain ⟨c52, hr51, ha51⟩ := h0.get hx51
                      obtain ⟨_, rfl⟩ := tPr_un hr51
                      replace ha51 : At _ v0 (i * 2) (Pr.cells x51) := ha51
                      refine st _ (r_loadEA (kk := i * 2) (Pr.cells x51) 0 rfl rfl (by exact agg44) ha51 rfl) ?_
                      refine st _ (r_indexN (i := k) 2 rfl rfl u61 el44 f_o2.shp (by omega)) ?_
                      obtain ⟨x53, hx53⟩ := getE (l := o2) (i := k) (by first | omega | (simp <;> omega))
                      obtain ⟨c54, hr53, ha53⟩ := f_o2.get hx53
                      obtain ⟨_, rfl⟩ := tPr_un hr53
                      replace ha53 : At _ vo2 (k * 2) (Pr.cells x53) := ha53
                      refine st_storeOwA (T := tPr) (z := x51) (i := k) (c := (Pr.cells x51)) rfl rfl rfl (by exact agg44) f_o2 (tPr_mk) (by omega) ?_
                      intro w55 hm hS f_o22
                      have f_o20 := f_o2; clear f_o2; have f_o2 := f_o22; clear f_o22
                      replace h0 := h0.md hm hS
                      replace h5_0 := h5_0.md hm hS
                      replace ha66 := ha66.md hm hS
                      clear ha51
                      clear ha53
                      replace uQ := uQ.md hm
                      replace M := M.stepO hm (fun b hb => (f_o20.2 b hb).1)
                      clear f_o20 hS
                      refine st_nil ?_
                      refine n_block ?_
                      refine c_then ?_
                      refine c_region ?_
                      refine st _ (r_move rfl) ?_
                      refine st _ (r_addN (a := i) (b := 1) 9223372036854775808 rfl rfl rfl (by omega)) ?_
                      refine st _ (r_assign rfl) ?_
                      refine st_nil ?_
                      refine c_then ?_
                      refine next3 (x0 := vo2) (x1 := (o2.set k x51)) (x2 := (i + 1)) (by omega) ⟨rfl, (fitI rfl (by omega)), rfl, trivial⟩ ⟨Q45, tQ, sQ0, uQ, M, f_o2, h0, ⟨by rw [List.length_set]; omega, by omega⟩, (by intro q hq; rcases List.mem_or_eq_of_mem_set hq with h | rfl; exact i2_1 q h; rw [Option.some.inj (hx51.symm.trans hx3)]; exact bd), (by have hi : insF x3 o = o2.set k x3 := (by have hh := hr2; rw [shift_end (by omega)] at hh; have h20 := hr20; rw [cl, Nat.add_sub_cancel] at h20; unfold insF; simp only [ei]; rw [if_neg nei, h20, ← hh]); have exx : x51 = x3 := Option.some.inj (hx51.symm.trans hx3); rw [exx, ← hi]; exact hg.symm)⟩
            · skip
              first | (have h34n := of_decide_eq_false h34) | (have h34n := of_decide_eq_true (bnf h34)) | (have h34n := bnf h34) | (have h34n := h34)
              refine m_skip rfl rfl rfl h34 ?_
              refine m_skip rfl rfl rfl h34 ?_
              refine m_skip rfl rfl rfl h34 ?_
              refine m_skip rfl rfl rfl h34 ?_
              refine m_skip rfl rfl rfl h34 ?_
              refine m_skip rfl rfl rfl h34 ?_
              refine m_skip rfl rfl rfl h34 ?_
              refine m_skip rfl rfl rfl h34 ?_
              refine m_skip rfl rfl rfl h34 ?_
              refine m_nil ?_
              replace h0 := h0.md0 hd0
              replace f_o := f_o.md0 hd0
              replace h5_0 := h5_0.md0 hd0
              replace uQ := uQ.md hd0
              replace M := M.step0 hd0
              clear h5_0_q f_o_q h0_q
              clear MC
              refine st_skip rfl rfl rfl h34 ?_
              refine st_skip rfl rfl rfl h34 ?_
              refine st _ (r_pick_f rfl h34 rfl) ?_
              refine st_nil ?_
              refine c_then ?_
              refine c_if_f rfl rfl ?_
              refine c_exit ?_
              refine x_then ?_
              refine x_then ?_
              refine x_hit ?_
              refine c_then ?_
              refine c_seq ?_
              refine c_seq ?_
              have h0_q := h0
              have f_o_q := f_o
              have h5_0_q := h5_0
              refine c_mixT [(0, true), (1, true), (2, true), (3, true), (4, true), (5, true), (6, true), (7, true), (8, true), (9, true), (10, true), (11, true), (12, true)] [13, 14] (fun w' => Md [] w8 w') mixed (by kernel_rfl) ?_
              intro w56 hd0; refine ⟨hd0.mono (by simp), ?_⟩; have MC := hd0.mono (T := []) (by simp)
              have ek : k = r1 := by
                have hh := hr1
                rw [rank_end (by omega)] at hh
                exact hh
              have ei : rankF (payload x3) o 0 = k := by rw [hr10, ek]
              refine Go.Wk.m _ (fun w' hc => r_move rfl) ?_
              refine Go.Wk.m _ (fun w' hc => r_move rfl) ?_
              refine Go.Wk.m _ (fun w' hc => r_len rfl u61 f_o.shp) ?_
              refine Go.Wk.m _ (fun w' hc => r_ltN (a := k) (b := o.length) rfl rfl) ?_
              refine Go.Wk.m _ (fun w' hc => r_move rfl) ?_
              refine part_m (t := 53) rfl (fun h53 => ?_) (fun h53 => ?_)
              · skip
                first | (have h53n := of_decide_eq_true h53) | (have h53n := of_decide_eq_false (bnt h53)) | (have h53n := bnt h53) | (have h53n := h53)
                refine Go.Wk.m_g _ rfl rfl rfl h53 (fun w' hc => r_move rfl) ?_
                refine Go.Wk.m_g _ rfl rfl rfl h53 (fun w' hc => r_move rfl) ?_
                refine Go.Wk.m_g _ rfl rfl rfl h53 (fun w' hc => r_indexN (i := k) 2 rfl rfl u61 el44 f_o.shp (by omega)) ?_
                obtain ⟨x57, hx57⟩ := getE (l := o) (i := k) (by first | omega | (simp <;> omega))
                obtain ⟨c58, hr57, ha57⟩ := f_o_q.get hx57
                obtain ⟨_, rfl⟩ := tPr_un hr57
                replace ha57 : At _ vo (k * 2) (Pr.cells x57) := ha57
                refine Go.Wk.m_g _ rfl rfl rfl h53 (fun w' hc => r_loadEA (kk := k * 2) (Pr.cells x57) 0 rfl rfl (by exact agg44) (ha57.md0 hc) rfl) ?_
                refine Go.Wk.m_g _ rfl rfl rfl h53 (fun w' hc => r_move rfl) ?_
                refine Go.Wk.m_g _ rfl rfl rfl h53 (fun w' hc => r_move rfl) ?_
                refine Go.Wk.m_g _ rfl rfl rfl h53 (fun w' hc => r_indexN (i := i) 2 rfl rfl u61 el44 h0.shp (by omega)) ?_
                obtain ⟨x59, hx59⟩ := getE (l := l) (i := i) (by first | omega | (simp <;> omega))
                obtain ⟨c60, hr59, ha59⟩ := h0_q.get hx59
                obtain ⟨_, rfl⟩ := tPr_un hr59
                replace ha59 : At _ v0 (i * 2) (Pr.cells x59) := ha59
                refine Go.Wk.m_g _ rfl rfl rfl h53 (fun w' hc => r_loadEA (kk := i * 2) (Pr.cells x59) 0 rfl rfl (by exact agg44) (ha59.md0 hc) rfl) ?_
                refine m_nil ?_
                replace h0 := h0.md0 hd0
                replace f_o := f_o.md0 hd0
                replace h5_0 := h5_0.md0 hd0
                replace uQ := uQ.md hd0
                replace M := M.step0 hd0
                clear h5_0_q f_o_q h0_q
                clear MC
                refine st_g _ rfl rfl rfl h53 (r_eqlPr (p := x57) (q := x59) pair44 u9 rfl rfl) ?_
                refine st _ (r_pick_t rfl h53 rfl) ?_
                refine st_nil ?_
                clear ha57
                clear ha59
                refine c_then ?_
                refine c_if rfl (fun h63 => ?_) (fun h63 => ?_)
                · skip
                  first | (have h63n := of_decide_eq_true h63) | (have h63n := of_decide_eq_false (bnt h63)) | (have h63n := bnt h63) | (have h63n := h63)
                  refine c_exit ?_
                  refine x_then ?_
                  refine x_hit ?_
                  refine c_then ?_
                  refine c_region ?_
                  refine st _ (r_move rfl) ?_
                  refine st _ (r_addN (a := i) (b := 1) 9223372036854775808 rfl rfl rfl (by omega)) ?_
                  refine st _ (r_assign rfl) ?_
                  refine st_nil ?_
                  refine c_then ?_
                  refine next3 (x0 := vo) (x1 := o) (x2 := (i + 1)) (by omega) ⟨rfl, (fitI rfl (by omega)), rfl, trivial⟩ ⟨Q7, tQ, sQ0, uQ, M, f_o, h0, ⟨by omega, by omega⟩, i0_1, (by have hi : insF x3 o = o := (by unfold insF; simp only [ei]; rw [if_pos ⟨by omega, (by rw [pr_getD hx57, ← Option.some.inj (hx59.symm.trans hx3)]; first | exact h63n | simp_all)⟩]); rw [hi] at hg; exact hg.symm)⟩
                · skip
                  first | (have h63n := of_decide_eq_false h63) | (have h63n := of_decide_eq_true (bnf h63)) | (have h63n := bnf h63) | (have h63n := h63)
                  refine c_skip ?_
                  refine c_then ?_
                  refine c_seq ?_
                  refine c_region ?_
                  have nei : ¬ (k < o.length ∧ (o.getD k { name := [], value := [] }).pb = x3.pb) := (by
                    rintro ⟨h1, h2⟩
                    have e2 := Option.some.inj (hx59.symm.trans hx3)
                    rw [pr_getD hx57, ← e2] at h2
                    first | exact h63n h2 | simp_all)
                  refine st _ (r_move rfl) ?_
                  refine st _ (r_buildG (us := []) (cs := (Pr.cells (({ name := [], value := [] } : Pr)))) [] z44 pl44 rfl rfl trivial trivial rfl rfl) ?_
                  refine st_buildSliceG [(Pr.cells (({ name := [], value := [] } : Pr)))] u61 elT44 (by decide) (by decide) rfl rfl ⟨rfl, trivial⟩ ⟨rfl, trivial⟩ rfl (by decide) ?_
                  intro ba66 w61 ga66 la66 hm ha66
                  have ya66 := uQ _ ga66
                  replace h0 := h0.md0 hm
                  replace f_o := f_o.md0 hm
                  replace h5_0 := h5_0.md0 hm
                  replace uQ := uQ.md hm
                  replace M := M.step0 hm
                  replace ha66 := Ls.of_blk (m := 1) (R := Q7) (T := tPr) (xs := [({ name := [], value := [] } : Pr)]) ha66 ⟨_, _, rfl, (tPr_mk), rfl⟩ rfl (by decide) ya66
                  refine st_ap (sz := 2) (by rfl) u61 elT44 rfl rfl f_o ha66 (fun _ h _ => h) uQ (Fsh.new M) (by first | omega | (simp <;> omega) | (simp at * <;> omega)) (by first | omega | (simp <;> omega) | (simp at * <;> omega)) ?_
                  intro v63 w64 Q65 sQ sT uQ2 hO62 hm hS _ hv2
                  have f_o0 := f_o; clear f_o
                  replace h0 := h0.sub sQ
                  replace h5_0 := h5_0.sub sQ
                  replace ha66 := ha66.sub sQ
                  replace tQ := fun b hb => tQ b (sT b hb)
                  replace sQ0 := fun b hb hl => sQ b (sQ0 b hb hl) (Nat.lt_of_lt_of_le hl M.size)
                  replace h0 := h0.md hm hS
                  replace h5_0 := h5_0.md hm hS
                  replace ha66 := ha66.md hm hS
                  replace uQ := uQ.md hm
                  replace M := M.stepO hm (fun b hb => (f_o0.2 b hb).1)
                  clear uQ; have uQ := uQ2; clear uQ2 sQ sT hS hv2
                  refine st _ (r_assign rfl) ?_
                  refine st_nil ?_
                  refine c_then ?_
                  refine c_seq ?_
                  refine c_seq ?_
                  refine c_region ?_
                  have cl : (o ++ ([({ name := [], value := [] } : Pr)])).length = o.length + 1 := by simp
                  refine st _ (r_move rfl) ?_
                  refine st _ (r_len rfl u61 hO62.shp) ?_
                  refine st _ (r_subN (a := ((o ++ ([({ name := [], value := [] } : Pr)])).length)) (b := 1) 9223372036854775808 rfl rfl rfl (by omega)) ?_
                  refine st _ (r_assign rfl) ?_
                  refine st_nil ?_
                  refine c_then ?_
                  refine c_block ?_
                  obtain ⟨r2, hr20⟩ : ∃ r, shiftF ((((o ++ ([({ name := [], value := [] } : Pr)])).length) - 1) - k) (((o ++ ([({ name := [], value := [] } : Pr)])).length) - 1) (o ++ ([({ name := [], value := [] } : Pr)])) = r := ⟨_, rfl⟩
                  try simp only [List.nil_append, hF5] at hr20
                  refine loop3 (fun (vo2 : Value) (o2 : List Pr) (j : Nat) => [(4, vo2), (9, (.int .i64 ((j : Nat) : Int))), (0, v0), (5, (.int .i64 ((i : Nat) : Int))), (7, (.int .i64 ((x5_1 : Nat) : Int))), (8, (.int .i64 ((k : Nat) : Int))), (13, (.int .i64 ((i : Nat) : Int))), (14, v0), (15, (.int .i64 ((l.length : Nat) : Int))), (16, (.bool ((decide (i < l.length))))), (20, v0), (21, (.int .i64 ((i : Nat) : Int))), (23, (.agg (Pr.cells x3).toArray)), (25, v5_0), (26, (.int .i64 ((x5_1 : Nat) : Int))), (27, (.int .i64 ((x5_1 : Nat) : Int))), (28, (.bool ((decide (x5_1 ≠ 0))))), (30, (.int .i64 ((k : Nat) : Int))), (32, (.int .i64 ((o.length : Nat) : Int))), (33, (.bool ((decide (k < o.length))))), (34, (.bool ((decide (k < o.length))))), (46, (.bool false)), (49, (.int .i64 ((k : Nat) : Int))), (51, (.int .i64 ((o.length : Nat) : Int))), (52, (.bool ((decide (k < o.length))))), (53, (.bool ((decide (k < o.length))))), (55, (.int .i64 ((k : Nat) : Int))), (57, (.agg (Pr.cells x57).toArray)), (58, v0), (59, (.int .i64 ((i : Nat) : Int))), (61, (.agg (Pr.cells x59).toArray)), (62, (.bool ((decide (x57.pb = x59.pb))))), (63, (.bool ((decide (x57.pb = x59.pb))))), (65, (.agg (Pr.cells (({ name := [], value := [] } : Pr))).toArray)), (66, (.slice (some ⟨ba66, 0, none⟩) 1 1)), (69, (.int .i64 (((o ++ ([({ name := [], value := [] } : Pr)])).length : Nat) : Int))), (70, (.int .i64 ((((o ++ ([({ name := [], value := [] } : Pr)])).length) - 1 : Nat) : Int)))]) (fun (vo2 : Value) (o2 : List Pr) (j : Nat) w' => ∃ Q' : Nat → Prop, (∀ b, Q' b → Q b) ∧ (∀ b, Q b → b < w.heap.size → Q' b) ∧ Up w' Q' ∧ Md [] w w' ∧ Ow tPr 44 (Fsh [] w) w' Q' vo2 o2 ∧ Ls tPr w' Q' v0 l ∧ Ls tB8 w' Q' v5_0 x5_0 ∧ Ls tPr w' Q' (.slice (some ⟨ba66, 0, none⟩) 1 1) ([({ name := [], value := [] } : Pr)]) ∧ (k ≤ j ∧ j < o2.length ∧ o2.length = o.length + 1) ∧ (∀ q ∈ o2, q.name.length ≤ 1000000 ∧ q.value.length ≤ 1000000) ∧ shiftF (j - k) j o2 = r2) (fun (vo2 : Value) (o2 : List Pr) (j : Nat) => j) (x0 := v63) (x1 := (o ++ ([({ name := [], value := [] } : Pr)]))) (x2 := (((o ++ ([({ name := [], value := [] } : Pr)])).length) - 1)) ?_ ?_ ?_
                  · exact ⟨rfl, rfl, rfl, rfl, rfl, rfl, rfl, rfl, rfl, rfl, rfl, rfl, rfl, rfl, rfl, rfl, rfl, rfl, rfl, rfl, rfl, rfl, rfl, rfl, rfl, rfl, rfl, rfl, rfl, rfl, rfl, rfl, rfl, rfl, rfl, rfl, rfl, trivial⟩
                  · exact ⟨Q65, tQ, sQ0, uQ, M, hO62, h0, h5_0, ha66, ⟨by omega, by omega, by omega⟩, (by intro q hq; rcases List.mem_append.1 hq with h | h; exact i0_1 q h; simp at h; subst h; simp), (by have hh := hr20; first | exact hh | (simp only [List.nil_append, hF5] at hh; exact hh))⟩
                  · clear M uQ tQ sQ0 h0 h5_0 ha66 hO62
                    rintro vo2 o2 j B w66 ⟨Q67, tQ, sQ0, uQ, M, f_o2, h0, h5_0, ha66, i2_0, i2_1, hr2⟩
                    refine c_seq ?_
                    refine c_seq ?_
                    refine c_region ?_
                    refine st _ (r_move rfl) ?_
                    refine st _ (r_move rfl) ?_
                    refine st _ (r_gtN (a := j) (b := k) rfl rfl) ?_
                    refine st_nil ?_
                    refine c_then ?_
                    refine c_if rfl (fun h73 => ?_) (fun h73 => ?_)
                    · skip
                      first | (have h73n := of_decide_eq_true h73) | (have h73n := of_decide_eq_false (bnt h73)) | (have h73n := bnt h73) | (have h73n := h73)
                      refine c_skip ?_
                      refine c_then ?_
                      refine c_seq ?_
                      refine c_block ?_
                      refine c_region ?_
                      refine st _ (r_move rfl) ?_
                      refine st _ (r_move rfl) ?_
                      refine st _ (r_move rfl) ?_
                      refine st _ (r_move rfl) ?_
                      refine st _ (r_subN (a := j) (b := 1) 9223372036854775808 rfl rfl rfl (by omega)) ?_
                      refine st _ (r_indexN (i := j - 1) 2 rfl rfl u61 el44 f_o2.shp (by omega)) ?_
                      obtain ⟨x68, hx68⟩ := getE (l := o2) (i := j - 1) (by first | omega | (simp <;> omega))
                      obtain ⟨c69, hr68, ha68⟩ := f_o2.get hx68
                      obtain ⟨_, rfl⟩ := tPr_un hr68
                      replace ha68 : At _ vo2 ((j - 1) * 2) (Pr.cells x68) := ha68
                      refine st _ (r_loadEA (kk := (j - 1) * 2) (Pr.cells x68) 0 rfl rfl (by exact agg44) ha68 rfl) ?_
                      refine st _ (r_indexN (i := j) 2 rfl rfl u61 el44 f_o2.shp (by omega)) ?_
                      obtain ⟨x70, hx70⟩ := getE (l := o2) (i := j) (by first | omega | (simp <;> omega))
                      obtain ⟨c71, hr70, ha70⟩ := f_o2.get hx70
                      obtain ⟨_, rfl⟩ := tPr_un hr70
                      replace ha70 : At _ vo2 (j * 2) (Pr.cells x70) := ha70
                      refine st_storeOwA (T := tPr) (z := x68) (i := j) (c := (Pr.cells x68)) rfl rfl rfl (by exact agg44) f_o2 (tPr_mk) (by omega) ?_
                      intro w72 hm hS f_o22
                      have f_o20 := f_o2; clear f_o2; have f_o2 := f_o22; clear f_o22
                      replace h0 := h0.md hm hS
                      replace h5_0 := h5_0.md hm hS
                      replace ha66 := ha66.md hm hS
                      clear ha68
                      clear ha70
                      replace uQ := uQ.md hm
                      replace M := M.stepO hm (fun b hb => (f_o20.2 b hb).1)
                      clear f_o20 hS
                      refine st_nil ?_
                      refine n_block ?_
                      refine c_then ?_
                      refine c_region ?_
                      refine st _ (r_move rfl) ?_
                      refine st _ (r_subN (a := j) (b := 1) 9223372036854775808 rfl rfl rfl (by omega)) ?_
                      refine st _ (r_assign rfl) ?_
                      refine st_nil ?_
                      refine c_then ?_
                      refine next3 (x0 := vo2) (x1 := (o2.set j x68)) (x2 := (j - 1)) (by omega) ⟨rfl, (fitI rfl (by omega)), rfl, rfl, rfl, rfl, rfl, rfl, rfl, rfl, rfl, rfl, rfl, rfl, rfl, rfl, rfl, rfl, rfl, rfl, rfl, rfl, rfl, rfl, rfl, rfl, rfl, rfl, rfl, rfl, rfl, rfl, rfl, rfl, rfl, rfl, rfl, trivial⟩ ⟨Q67, tQ, sQ0, uQ, M, f_o2, h0, h5_0, ha66, (by simp only [List.length_set]; omega), (by intro q hq; rcases List.mem_or_eq_of_mem_set hq with h | rfl; exact i2_1 q h; exact i2_1 _ (List.mem_of_getElem? hx68)), (by have hh := hr2; rw [shift_step (by omega), pr_getD hx68] at hh; exact hh)⟩
                    · skip
                      first | (have h73n := of_decide_eq_false h73) | (have h73n := of_decide_eq_true (bnf h73)) | (have h73n := bnf h73) | (have h73n := h73)
                      refine c_exit ?_
                      refine x_then ?_
                      refine x_then ?_
                      refine x_hit ?_
                      refine c_then ?_
                      refine c_region ?_
                      refine st _ (r_move rfl) ?_
                      refine st _ (r_move rfl) ?_
                      refine st _ (r_move rfl) ?_
                      refine st _ (r_move rfl) ?_
                      refine st _ (r_indexN (i := i) 2 rfl rfl u61 el44 h0.shp (by omega)) ?_
                      obtain ⟨x73, hx73⟩ := getE (l := l) (i := i) (by first | omega | (simp <;> omega))
                      obtain ⟨c74, hr73, ha73⟩ := h0.get hx73
                      obtain ⟨_, rfl⟩ := tPr_un hr73
                      replace ha73 : At _ v0 (i * 2) (Pr.cells x73) := ha73
                      refine st _ (r_loadEA (kk := i * 2) (Pr.cells x73) 0 rfl rfl (by exact agg44) ha73 rfl) ?_
                      refine st _ (r_indexN (i := k) 2 rfl rfl u61 el44 f_o2.shp (by omega)) ?_
                      obtain ⟨x75, hx75⟩ := getE (l := o2) (i := k) (by first | omega | (simp <;> omega))
                      obtain ⟨c76, hr75, ha75⟩ := f_o2.get hx75
                      obtain ⟨_, rfl⟩ := tPr_un hr75
                      replace ha75 : At _ vo2 (k * 2) (Pr.cells x75) := ha75
                      refine st_storeOwA (T := tPr) (z := x73) (i := k) (c := (Pr.cells x73)) rfl rfl rfl (by exact agg44) f_o2 (tPr_mk) (by omega) ?_
                      intro w77 hm hS f_o22
                      have f_o20 := f_o2; clear f_o2; have f_o2 := f_o22; clear f_o22
                      replace h0 := h0.md hm hS
                      replace h5_0 := h5_0.md hm hS
                      replace ha66 := ha66.md hm hS
                      clear ha73
                      clear ha75
                      replace uQ := uQ.md hm
                      replace M := M.stepO hm (fun b hb => (f_o20.2 b hb).1)
                      clear f_o20 hS
                      refine st_nil ?_
                      refine n_block ?_
                      refine c_then ?_
                      refine c_region ?_
                      refine st _ (r_move rfl) ?_
                      refine st _ (r_addN (a := i) (b := 1) 9223372036854775808 rfl rfl rfl (by omega)) ?_
                      refine st _ (r_assign rfl) ?_
                      refine st_nil ?_
                      refine c_then ?_
                      refine next3 (x0 := vo2) (x1 := (o2.set k x73)) (x2 := (i + 1)) (by omega) ⟨rfl, (fitI rfl (by omega)), rfl, trivial⟩ ⟨Q67, tQ, sQ0, uQ, M, f_o2, h0, ⟨by rw [List.length_set]; omega, by omega⟩, (by intro q hq; rcases List.mem_or_eq_of_mem_set hq with h | rfl; exact i2_1 q h; rw [Option.some.inj (hx73.symm.trans hx3)]; exact bd), (by have hi : insF x3 o = o2.set k x3 := (by have hh := hr2; rw [shift_end (by omega)] at hh; have h20 := hr20; rw [cl, Nat.add_sub_cancel] at h20; unfold insF; simp only [ei]; rw [if_neg nei, h20, ← hh]); have exx : x73 = x3 := Option.some.inj (hx73.symm.trans hx3); rw [exx, ← hi]; exact hg.symm)⟩
              · skip
                first | (have h53n := of_decide_eq_false h53) | (have h53n := of_decide_eq_true (bnf h53)) | (have h53n := bnf h53) | (have h53n := h53)
                refine m_skip rfl rfl rfl h53 ?_
                refine m_skip rfl rfl rfl h53 ?_
                refine m_skip rfl rfl rfl h53 ?_
                refine m_skip rfl rfl rfl h53 ?_
                refine m_skip rfl rfl rfl h53 ?_
                refine m_skip rfl rfl rfl h53 ?_
                refine m_skip rfl rfl rfl h53 ?_
                refine m_skip rfl rfl rfl h53 ?_
                refine m_nil ?_
                replace h0 := h0.md0 hd0
                replace f_o := f_o.md0 hd0
                replace h5_0 := h5_0.md0 hd0
                replace uQ := uQ.md hd0
                replace M := M.step0 hd0
                clear h5_0_q f_o_q h0_q
                clear MC
                refine st_skip rfl rfl rfl h53 ?_
                refine st _ (r_pick_f rfl h53 rfl) ?_
                refine st_nil ?_
                refine c_then ?_
                refine c_if_f rfl rfl ?_
                refine c_skip ?_
                refine c_then ?_
                refine c_seq ?_
                refine c_region ?_
                have nei : ¬ (k < o.length ∧ (o.getD k { name := [], value := [] }).pb = x3.pb) := (by rintro ⟨h1, h2⟩; omega)
                refine st _ (r_move rfl) ?_
                refine st _ (r_buildG (us := []) (cs := (Pr.cells (({ name := [], value := [] } : Pr)))) [] z44 pl44 rfl rfl trivial trivial rfl rfl) ?_
                refine st_buildSliceG [(Pr.cells (({ name := [], value := [] } : Pr)))] u61 elT44 (by decide) (by decide) rfl rfl ⟨rfl, trivial⟩ ⟨rfl, trivial⟩ rfl (by decide) ?_
                intro ba66 w78 ga66 la66 hm ha66
                have ya66 := uQ _ ga66
                replace h0 := h0.md0 hm
                replace f_o := f_o.md0 hm
                replace h5_0 := h5_0.md0 hm
                replace uQ := uQ.md hm
                replace M := M.step0 hm
                replace ha66 := Ls.of_blk (m := 1) (R := Q7) (T := tPr) (xs := [({ name := [], value := [] } : Pr)]) ha66 ⟨_, _, rfl, (tPr_mk), rfl⟩ rfl (by decide) ya66
                refine st_ap (sz := 2) (by rfl) u61 elT44 rfl rfl f_o ha66 (fun _ h _ => h) uQ (Fsh.new M) (by first | omega | (simp <;> omega) | (simp at * <;> omega)) (by first | omega | (simp <;> omega) | (simp at * <;> omega)) ?_
                intro v80 w81 Q82 sQ sT uQ2 hO79 hm hS _ hv2
                have f_o0 := f_o; clear f_o
                replace h0 := h0.sub sQ
                replace h5_0 := h5_0.sub sQ
                replace ha66 := ha66.sub sQ
                replace tQ := fun b hb => tQ b (sT b hb)
                replace sQ0 := fun b hb hl => sQ b (sQ0 b hb hl) (Nat.lt_of_lt_of_le hl M.size)
                replace h0 := h0.md hm hS
                replace h5_0 := h5_0.md hm hS
                replace ha66 := ha66.md hm hS
                replace uQ := uQ.md hm
                replace M := M.stepO hm (fun b hb => (f_o0.2 b hb).1)
                clear uQ; have uQ := uQ2; clear uQ2 sQ sT hS hv2
                refine st _ (r_assign rfl) ?_
                refine st_nil ?_
                refine c_then ?_
                refine c_seq ?_
                refine c_seq ?_
                refine c_region ?_
                have cl : (o ++ ([({ name := [], value := [] } : Pr)])).length = o.length + 1 := by simp
                refine st _ (r_move rfl) ?_
                refine st _ (r_len rfl u61 hO79.shp) ?_
                refine st _ (r_subN (a := ((o ++ ([({ name := [], value := [] } : Pr)])).length)) (b := 1) 9223372036854775808 rfl rfl rfl (by omega)) ?_
                refine st _ (r_assign rfl) ?_
                refine st_nil ?_
                refine c_then ?_
                refine c_block ?_
                obtain ⟨r2, hr20⟩ : ∃ r, shiftF ((((o ++ ([({ name := [], value := [] } : Pr)])).length) - 1) - k) (((o ++ ([({ name := [], value := [] } : Pr)])).length) - 1) (o ++ ([({ name := [], value := [] } : Pr)])) = r := ⟨_, rfl⟩
                try simp only [List.nil_append, hF5] at hr20
                refine loop3 (fun (vo2 : Value) (o2 : List Pr) (j : Nat) => [(4, vo2), (9, (.int .i64 ((j : Nat) : Int))), (0, v0), (5, (.int .i64 ((i : Nat) : Int))), (7, (.int .i64 ((x5_1 : Nat) : Int))), (8, (.int .i64 ((k : Nat) : Int))), (13, (.int .i64 ((i : Nat) : Int))), (14, v0), (15, (.int .i64 ((l.length : Nat) : Int))), (16, (.bool ((decide (i < l.length))))), (20, v0), (21, (.int .i64 ((i : Nat) : Int))), (23, (.agg (Pr.cells x3).toArray)), (25, v5_0), (26, (.int .i64 ((x5_1 : Nat) : Int))), (27, (.int .i64 ((x5_1 : Nat) : Int))), (28, (.bool ((decide (x5_1 ≠ 0))))), (30, (.int .i64 ((k : Nat) : Int))), (32, (.int .i64 ((o.length : Nat) : Int))), (33, (.bool ((decide (k < o.length))))), (34, (.bool ((decide (k < o.length))))), (46, (.bool false)), (49, (.int .i64 ((k : Nat) : Int))), (51, (.int .i64 ((o.length : Nat) : Int))), (52, (.bool ((decide (k < o.length))))), (53, (.bool ((decide (k < o.length))))), (63, (.bool false)), (65, (.agg (Pr.cells (({ name := [], value := [] } : Pr))).toArray)), (66, (.slice (some ⟨ba66, 0, none⟩) 1 1)), (69, (.int .i64 (((o ++ ([({ name := [], value := [] } : Pr)])).length : Nat) : Int))), (70, (.int .i64 ((((o ++ ([({ name := [], value := [] } : Pr)])).length) - 1 : Nat) : Int)))]) (fun (vo2 : Value) (o2 : List Pr) (j : Nat) w' => ∃ Q' : Nat → Prop, (∀ b, Q' b → Q b) ∧ (∀ b, Q b → b < w.heap.size → Q' b) ∧ Up w' Q' ∧ Md [] w w' ∧ Ow tPr 44 (Fsh [] w) w' Q' vo2 o2 ∧ Ls tPr w' Q' v0 l ∧ Ls tB8 w' Q' v5_0 x5_0 ∧ Ls tPr w' Q' (.slice (some ⟨ba66, 0, none⟩) 1 1) ([({ name := [], value := [] } : Pr)]) ∧ (k ≤ j ∧ j < o2.length ∧ o2.length = o.length + 1) ∧ (∀ q ∈ o2, q.name.length ≤ 1000000 ∧ q.value.length ≤ 1000000) ∧ shiftF (j - k) j o2 = r2) (fun (vo2 : Value) (o2 : List Pr) (j : Nat) => j) (x0 := v80) (x1 := (o ++ ([({ name := [], value := [] } : Pr)]))) (x2 := (((o ++ ([({ name := [], value := [] } : Pr)])).length) - 1)) ?_ ?_ ?_
                · exact ⟨rfl, rfl, rfl, rfl, rfl, rfl, rfl, rfl, rfl, rfl, rfl, rfl, rfl, rfl, rfl, rfl, rfl, rfl, rfl, rfl, rfl, rfl, rfl, rfl, rfl, rfl, rfl, rfl, rfl, rfl, rfl, trivial⟩
                · exact ⟨Q82, tQ, sQ0, uQ, M, hO79, h0, h5_0, ha66, ⟨by omega, by omega, by omega⟩, (by intro q hq; rcases List.mem_append.1 hq with h | h; exact i0_1 q h; simp at h; subst h; simp), (by have hh := hr20; first | exact hh | (simp only [List.nil_append, hF5] at hh; exact hh))⟩
                · clear M uQ tQ sQ0 h0 h5_0 ha66 hO79
                  rintro vo2 o2 j B w83 ⟨Q84, tQ, sQ0, uQ, M, f_o2, h0, h5_0, ha66, i2_0, i2_1, hr2⟩
                  refine c_seq ?_
                  refine c_seq ?_
                  refine c_region ?_
                  refine st _ (r_move rfl) ?_
                  refine st _ (r_move rfl) ?_
                  refine st _ (r_gtN (a := j) (b := k) rfl rfl) ?_
                  refine st_nil ?_
                  refine c_then ?_
                  refine c_if rfl (fun h73 => ?_) (fun h73 => ?_)
                  · skip
                    first | (have h73n := of_decide_eq_true h73) | (have h73n := of_decide_eq_false (bnt h73)) | (have h73n := bnt h73) | (have h73n := h73)
                    refine c_skip ?_
                    refine c_then ?_
                    refine c_seq ?_
                    refine c_block ?_
                    refine c_region ?_
                    refine st _ (r_move rfl) ?_
                    refine st _ (r_move rfl) ?_
                    refine st _ (r_move rfl) ?_
                    refine st _ (r_move rfl) ?_
                    refine st _ (r_subN (a := j) (b := 1) 9223372036854775808 rfl rfl rfl (by omega)) ?_
                    refine st _ (r_indexN (i := j - 1) 2 rfl rfl u61 el44 f_o2.shp (by omega)) ?_
                    obtain ⟨x85, hx85⟩ := getE (l := o2) (i := j - 1) (by first | omega | (simp <;> omega))
                    obtain ⟨c86, hr85, ha85⟩ := f_o2.get hx85
                    obtain ⟨_, rfl⟩ := tPr_un hr85
                    replace ha85 : At _ vo2 ((j - 1) * 2) (Pr.cells x85) := ha85
                    refine st _ (r_loadEA (kk := (j - 1) * 2) (Pr.cells x85) 0 rfl rfl (by exact agg44) ha85 rfl) ?_
                    refine st _ (r_indexN (i := j) 2 rfl rfl u61 el44 f_o2.shp (by omega)) ?_
                    obtain ⟨x87, hx87⟩ := getE (l := o2) (i := j) (by first | omega | (simp <;> omega))
                    obtain ⟨c88, hr87, ha87⟩ := f_o2.get hx87
                    obtain ⟨_, rfl⟩ := tPr_un hr87
                    replace ha87 : At _ vo2 (j * 2) (Pr.cells x87) := ha87
                    refine st_storeOwA (T := tPr) (z := x85) (i := j) (c := (Pr.cells x85)) rfl rfl rfl (by exact agg44) f_o2 (tPr_mk) (by omega) ?_
                    intro w89 hm hS f_o22
                    have f_o20 := f_o2; clear f_o2; have f_o2 := f_o22; clear f_o22
                    replace h0 := h0.md hm hS
                    replace h5_0 := h5_0.md hm hS
                    replace ha66 := ha66.md hm hS
                    clear ha85
                    clear ha87
                    replace uQ := uQ.md hm
                    replace M := M.stepO hm (fun b hb => (f_o20.2 b hb).1)
                    clear f_o20 hS
                    refine st_nil ?_
                    refine n_block ?_
                    refine c_then ?_
                    refine c_region ?_
                    refine st _ (r_move rfl) ?_
                    refine st _ (r_subN (a := j) (b := 1) 9223372036854775808 rfl rfl rfl (by omega)) ?_
                    refine st _ (r_assign rfl) ?_
                    refine st_nil ?_
                    refine c_then ?_
                    refine next3 (x0 := vo2) (x1 := (o2.set j x85)) (x2 := (j - 1)) (by omega) ⟨rfl, (fitI rfl (by omega)), rfl, rfl, rfl, rfl, rfl, rfl, rfl, rfl, rfl, rfl, rfl, rfl, rfl, rfl, rfl, rfl, rfl, rfl, rfl, rfl, rfl, rfl, rfl, rfl, rfl, rfl, rfl, rfl, rfl, trivial⟩ ⟨Q84, tQ, sQ0, uQ, M, f_o2, h0, h5_0, ha66, (by simp only [List.length_set]; omega), (by intro q hq; rcases List.mem_or_eq_of_mem_set hq with h | rfl; exact i2_1 q h; exact i2_1 _ (List.mem_of_getElem? hx85)), (by have hh := hr2; rw [shift_step (by omega), pr_getD hx85] at hh; exact hh)⟩
                  · skip
                    first | (have h73n := of_decide_eq_false h73) | (have h73n := of_decide_eq_true (bnf h73)) | (have h73n := bnf h73) | (have h73n := h73)
                    refine c_exit ?_
                    refine x_then ?_
                    refine x_then ?_
                    refine x_hit ?_
                    refine c_then ?_
                    refine c_region ?_
                    refine st _ (r_move rfl) ?_
                    refine st _ (r_move rfl) ?_
                    refine st _ (r_move rfl) ?_
                    refine st _ (r_move rfl) ?_
                    refine st _ (r_indexN (i := i) 2 rfl rfl u61 el44 h0.shp (by omega)) ?_
                    obtain ⟨x90, hx90⟩ := getE (l := l) (i := i) (by first | omega | (simp <;> omega))
                    obtain ⟨c91, hr90, ha90⟩ := h0.get hx90
                    obtain ⟨_, rfl⟩ := tPr_un hr90
                    replace ha90 : At _ v0 (i * 2) (Pr.cells x90) := ha90
                    refine st _ (r_loadEA (kk := i * 2) (Pr.cells x90) 0 rfl rfl (by exact agg44) ha90 rfl) ?_
                    refine st _ (r_indexN (i := k) 2 rfl rfl u61 el44 f_o2.shp (by omega)) ?_
                    obtain ⟨x92, hx92⟩ := getE (l := o2) (i := k) (by first | omega | (simp <;> omega))
                    obtain ⟨c93, hr92, ha92⟩ := f_o2.get hx92
                    obtain ⟨_, rfl⟩ := tPr_un hr92
                    replace ha92 : At _ vo2 (k * 2) (Pr.cells x92) := ha92
                    refine st_storeOwA (T := tPr) (z := x90) (i := k) (c := (Pr.cells x90)) rfl rfl rfl (by exact agg44) f_o2 (tPr_mk) (by omega) ?_
                    intro w94 hm hS f_o22
                    have f_o20 := f_o2; clear f_o2; have f_o2 := f_o22; clear f_o22
                    replace h0 := h0.md hm hS
                    replace h5_0 := h5_0.md hm hS
                    replace ha66 := ha66.md hm hS
                    clear ha90
                    clear ha92
                    replace uQ := uQ.md hm
                    replace M := M.stepO hm (fun b hb => (f_o20.2 b hb).1)
                    clear f_o20 hS
                    refine st_nil ?_
                    refine n_block ?_
                    refine c_then ?_
                    refine c_region ?_
                    refine st _ (r_move rfl) ?_
                    refine st _ (r_addN (a := i) (b := 1) 9223372036854775808 rfl rfl rfl (by omega)) ?_
                    refine st _ (r_assign rfl) ?_
                    refine st_nil ?_
                    refine c_then ?_
                    refine next3 (x0 := vo2) (x1 := (o2.set k x90)) (x2 := (i + 1)) (by omega) ⟨rfl, (fitI rfl (by omega)), rfl, trivial⟩ ⟨Q84, tQ, sQ0, uQ, M, f_o2, h0, ⟨by rw [List.length_set]; omega, by omega⟩, (by intro q hq; rcases List.mem_or_eq_of_mem_set hq with h | rfl; exact i2_1 q h; rw [Option.some.inj (hx90.symm.trans hx3)]; exact bd), (by have hi : insF x3 o = o2.set k x3 := (by have hh := hr2; rw [shift_end (by omega)] at hh; have h20 := hr20; rw [cl, Nat.add_sub_cancel] at h20; unfold insF; simp only [ei]; rw [if_neg nei, h20, ← hh]); have exx : x90 = x3 := Option.some.inj (hx90.symm.trans hx3); rw [exx, ← hi]; exact hg.symm)⟩
      · skip
        first | (have h16n := of_decide_eq_false h16) | (have h16n := of_decide_eq_true (bnf h16)) | (have h16n := bnf h16) | (have h16n := h16)
        refine c_exit ?_
        refine x_then ?_
        refine x_then ?_
        refine x_hit ?_
        refine c_then ?_
        refine c_seq ?_
        refine c_seq ?_
        refine c_region ?_
        refine st _ (r_move rfl) ?_
        refine st _ (r_len rfl u61 f_o.shp) ?_
        refine st _ (r_gtN (a := o.length) (b := 16) rfl rfl) ?_
        refine st_nil ?_
        refine c_then ?_
        refine c_if rfl (fun h93 => ?_) (fun h93 => ?_)
        · skip
          first | (have h93n := of_decide_eq_true h93) | (have h93n := of_decide_eq_false (bnt h93)) | (have h93n := bnt h93) | (have h93n := h93)
          refine c_seq ?_
          refine c_region ?_
          refine st _ (r_assign rfl) ?_
          refine st _ (r_assign rfl) ?_
          refine st_nil ?_
          refine c_then ?_
          refine c_ret ?_
          refine r_then ?_
          exact retL (vs := [(.slice none 0 0), (.int .i64 ((21 : Nat) : Int))]) trivial rfl ⟨rfl, rfl, trivial⟩ rfl ⟨_, [], 21, rfl, M, (Ls.nil _ _ _), (by first | assumption | omega | simp_all), (by (try (simp (disch := first | omega | assumption | (simp; done) | fail) only [goL_end, if_pos, if_neg, Option.getD_some, Option.some.injEq, reduceIte, Bool.false_eq_true, Bool.true_eq_false, decide_true, decide_false, not_true_eq_false, not_false_eq_true, h12n, h16n, h93n] at hr0)); rw [listF] <;> simp (disch := first | omega | assumption | (simp; done) | fail) only [if_pos, if_neg, Option.getD_some, Option.some.injEq, reduceIte, Bool.false_eq_true, Bool.true_eq_false, decide_true, decide_false, not_true_eq_false, not_false_eq_true, h12n, hr00, h16n, h93n, ← hr0])⟩
        · skip
          first | (have h93n := of_decide_eq_false h93) | (have h93n := of_decide_eq_true (bnf h93)) | (have h93n := bnf h93) | (have h93n := h93)
          refine c_skip ?_
          refine c_then ?_
          refine c_seq ?_
          refine c_region ?_
          refine st _ (r_move rfl) ?_
          refine st _ (r_assign rfl) ?_
          refine st _ (r_assign rfl) ?_
          refine st_nil ?_
          refine c_then ?_
          refine c_ret ?_
          exact retL (vs := [vo, (.int .i64 ((0 : Nat) : Int))]) trivial rfl ⟨rfl, rfl, trivial⟩ rfl ⟨_, o, 0, rfl, M, (f_o.ls (fun b hb => tQ b hb) (Fsh.up uQ0)), (by first | assumption | omega | simp_all), (by (try (simp (disch := first | omega | assumption | (simp; done) | fail) only [goL_end, if_pos, if_neg, Option.getD_some, Option.some.injEq, reduceIte, Bool.false_eq_true, Bool.true_eq_false, decide_true, decide_false, not_true_eq_false, not_false_eq_true, h12n, h16n, h93n] at hr0)); rw [listF] <;> simp (disch := first | omega | assumption | (simp; done) | fail) only [if_pos, if_neg, Option.getD_some, Option.some.injEq, reduceIte, Bool.false_eq_true, Bool.true_eq_false, decide_true, decide_false, not_true_eq_false, not_false_eq_true, h12n, hr00, h16n, h93n, ← hr0])⟩
end Go.Proofs.Ytimakajeggeebaa
