/- Walks of functions: what each call returns, over data. -/
import Derived.Test.YtimakajeggeebaaRows
import Derived.Test.YtimakajeggeebaaNormP
import Derived.Test.YtimakajeggeebaaVFLaw
namespace Go.Proofs.Ytimakajeggeebaa
open Go Go.Wk Go.RowKit
set_option linter.unusedVariables false
set_option linter.unusedSimpArgs false
attribute [local irreducible] wpList wpQuiet wpStill wpMix Code.wp Calls bodyPost
theorem fn40 : isFn Try.prog 40 = true := by kernel_rfl
theorem pl54 : bplace Try.prog 54 = some [(0, 1), (1, 1)] := by kernel_rfl
theorem z54 : zcells Try.prog 54 = some [.slice none 0 0, .int .i64 0] := by kernel_rfl

theorem kLess_any {w : World} {Q : Nat → Prop} (uQ : Up w Q) (p q : Pr) (p0 : p.name.length + p.value.length ≤ 4611686018427387904) (p1 : q.name.length + q.value.length ≤ 4611686018427387904) :
    Calls Try.prog 33 #[.agg (Pr.cells p).toArray, .agg (Pr.cells q).toArray] w fun en w' => ∃ r0 : Bool, en = .returned (.bool r0) ∧ Md [] w w' ∧ Op.bytesLess (whole p.pb) (whole q.pb) = r0 :=
  (less_any p.pb q.pb w p0 p1).mono fun en w' ⟨he, hm⟩ => ⟨_, he, hm, rfl⟩
theorem fieldNormal_any {w : World} {Q : Nat → Prop} (uQ : Up w Q) {v0 : Value} {l : List Int} (h0 : Ls tInt w Q v0 l) :
    Calls Try.prog 11 #[v0] w fun en w' => ∃ r0 : Bool, en = .returned (.bool r0) ∧ Md [] w w' ∧ true = r0 := by
  have L0 := h0.len63
  have M := Md.refl [] w
  have uQ0 := uQ
  have tQ : ∀ b, Q b → Q b := fun _ h => h
  have sQ0 : ∀ b, Q b → b < w.heap.size → Q b := fun _ h _ => h
  refine enter (n := 102) Try.func11 rfl rfl rfl ?_
  intro B
  refine c_seq ?_
  refine c_region ?_
  refine st _ (r_assign rfl) ?_
  refine st_nil ?_
  refine c_then ?_
  refine c_seq ?_
  refine c_region ?_
  refine st_call fn27 rfl (kFirst4_any uQ ) ?_
  rintro en w1 ⟨x1_0, rfl, hm, hF1⟩; refine ⟨_, rfl, ?_⟩
  replace h0 := h0.md0 hm
  replace uQ := uQ.md hm
  replace M := M.step0 hm
  refine st _ (r_assign rfl) ?_
  refine st_nil ?_
  refine c_then ?_
  refine c_seq ?_
  refine c_seq ?_
  refine c_region ?_
  refine st _ (r_move rfl) ?_
  refine st _ (r_not rfl) ?_
  refine st_nil ?_
  refine c_then ?_
  refine c_if rfl (fun h17 => ?_) (fun h17 => ?_)
  · skip
    first | (have h17n := of_decide_eq_true h17) | (have h17n := of_decide_eq_false (bnt h17)) | (have h17n := bnt h17) | (have h17n := h17)
    exfalso; simp_all
  · skip
    first | (have h17n := of_decide_eq_false h17) | (have h17n := of_decide_eq_true (bnf h17)) | (have h17n := bnf h17) | (have h17n := h17)
    refine c_skip ?_
    refine c_then ?_
    refine c_seq ?_
    refine c_seq ?_
    refine c_region ?_
    refine st _ (r_move rfl) ?_
    refine st _ (r_len rfl u40 h0.shp) ?_
    refine st _ (r_gtN (a := l.length) (b := 60) rfl rfl) ?_
    refine st_nil ?_
    refine c_then ?_
    refine c_if rfl (fun h20 => ?_) (fun h20 => ?_)
    · skip
      first | (have h20n := of_decide_eq_true h20) | (have h20n := of_decide_eq_false (bnt h20)) | (have h20n := bnt h20) | (have h20n := h20)
      refine c_seq ?_
      refine c_region ?_
      refine st _ (r_move rfl) ?_
      refine st _ (r_assign rfl) ?_
      refine st_nil ?_
      refine c_then ?_
      refine c_ret ?_
      refine r_then ?_
      exact ret1L (v := (.bool x1_0)) trivial rfl ⟨rfl, trivial⟩ ⟨x1_0, rfl, M, (by simp_all)⟩
    · skip
      first | (have h20n := of_decide_eq_false h20) | (have h20n := of_decide_eq_true (bnf h20)) | (have h20n := bnf h20) | (have h20n := h20)
      refine c_skip ?_
      refine c_then ?_
      refine c_seq ?_
      refine c_region ?_
      refine st _ (r_move rfl) ?_
      refine st _ (r_buildG (us := [[v0]]) (cs := (Sq.cells (({ l := l, pos := 0 } : Sq)) v0)) [(0, 0, 1)] z54 pl54 rfl rfl ⟨(cells_one h0.oneCell), trivial⟩ ⟨rfl, trivial⟩ rfl rfl) ?_
      refine st_box (cs := (Sq.cells (({ l := l, pos := 0 } : Sq)) v0)) rfl rfl ?_
      intro ba24 w2 ga24 la24 hm ha24
      obtain ⟨Q3, sQ, sT, n_ha24, uQ2⟩ := exQ uQ ga24 la24 hm
      replace h0 := h0.sub sQ
      replace tQ := fun b hb => tQ b (sT b hb)
      replace sQ0 := fun b hb hl => sQ b (sQ0 b hb hl) (Nat.lt_of_lt_of_le hl M.size)
      replace ga24 := Nat.le_trans M.size ga24
      replace h0 := h0.md0 hm
      replace uQ := uQ.md hm
      replace M := M.step0 hm
      clear uQ; have uQ := uQ2; clear uQ2 sQ sT
      have p_ha24 : Fsh [] w ba24 := .inr ga24
      refine st _ (r_assign rfl) ?_
      refine st_nil ?_
      refine c_then ?_
      refine c_seq ?_
      refine c_region ?_
      refine st _ (r_move rfl) ?_
      refine st_call fn40 rfl (kPairs_any uQ (({ l := l, pos := 0 } : Sq)) ha24 n_ha24 (by first | assumption | exact (show (({ l := l, pos := 0 } : Sq)).pos < 9223372036854775808 from (by first | omega | (simp <;> omega) | simp_all))) h0 16 (by first | omega | (simp <;> omega)) (by first | omega | (simp <;> omega) | (simp at * <;> omega))) ?_
      rintro en w4 ⟨v4_0, x4_0, m4_0, mv4_0_0, rfl, hm, h4_0, mh4_0, mn4_0, mq4_0_0, mf4_0_1, hF4⟩; refine ⟨_, rfl, ?_⟩
      have hP : ∀ i ∈ [ba24], Fsh [] w i := (all_cons p_ha24 all_nil)
      have hS : ∀ i ∈ [ba24], ¬ Q3 i := (all_cons n_ha24 all_nil)
      replace h0 := h0.md hm hS
      replace M := M.step hm hP
      replace uQ := uQ.md hm
      clear hP hS ha24 n_ha24; have ha24 := mh4_0; have n_ha24 := mn4_0; clear mh4_0 mn4_0
      have a4_0 := pairs_bd (({ l := l, pos := 0 } : Sq)) 16; rw [hF4] at a4_0; try simp only [List.length_cons, List.length_nil, List.length_append, List.length_replicate, Nat.zero_add, Nat.reduceAdd, Nat.reduceMul] at a4_0
      refine st _ (r_assign rfl) ?_
      refine st_nil ?_
      refine c_then ?_
      refine c_seq ?_
      refine c_region ?_
      have np := pairs_all hF4 (by decide)
      obtain ⟨np1, np2, np3⟩ := id np
      refine st _ (r_assign rfl) ?_
      refine st_nil ?_
      refine c_then ?_
      refine c_seq ?_
      refine c_seq ?_
      refine c_region ?_
      refine st _ (r_move rfl) ?_
      refine st _ (r_len rfl u61 h4_0.shp) ?_
      refine st _ (r_subN (a := x4_0.length) (b := 1) 9223372036854775808 rfl rfl rfl (by omega)) ?_
      refine st _ (r_assign rfl) ?_
      refine st_nil ?_
      refine c_then ?_
      refine c_block ?_
      obtain ⟨r0, hr00⟩ : ∃ r, backF x4_0 ((((x4_0.length - 1 : Nat) : Int)) + 1).toNat ([] : List Pr) = r := ⟨_, rfl⟩
      try simp only [List.nil_append, hF1, hF4] at hr00
      refine loop3 (fun (vo : Value) (o : List Pr) (i : Int) => [(6, vo), (7, (.int .i64 (i : Int))), (2, (.bool false)), (3, (.bool x1_0)), (5, v4_0)]) (fun (vo : Value) (o : List Pr) (i : Int) w' => ∃ Q' : Nat → Prop, (∀ b, Q' b → Q b) ∧ (∀ b, Q b → b < w.heap.size → Q' b) ∧ Up w' Q' ∧ Md [] w w' ∧ Ow tPr 44 (Fsh [] w) w' Q' vo o ∧ Ls tPr w' Q' v4_0 x4_0 ∧ (-1 ≤ i ∧ i < x4_0.length) ∧ o.length + 2 * (i + 1).toNat = 2 * x4_0.length ∧ backF x4_0 (i + 1).toNat o = r0) (fun (vo : Value) (o : List Pr) (i : Int) => (i + 1).toNat) (x0 := (.slice none 0 0)) (x1 := ([] : List Pr)) (x2 := (((x4_0.length - 1 : Nat) : Int))) ?_ ?_ ?_
      · exact ⟨rfl, rfl, rfl, rfl, rfl, trivial⟩
      · exact ⟨Q3, tQ, sQ0, uQ, M, (Ow.nil _ _ _ _ _), h4_0, (by omega), (by simp; omega), (by have hh := hr00; first | exact hh | (simp only [List.nil_append, hF1, hF4] at hh; exact hh))⟩
      · clear M uQ tQ sQ0 n_ha24 h0 ha24 mf4_0_1 h4_0
        rintro vo o i B w5 ⟨Q6, tQ, sQ0, uQ, M, f_o, h4_0, i0_0, i0_1, hr0⟩
        refine c_seq ?_
        refine c_seq ?_
        refine c_region ?_
        refine st _ (r_move rfl) ?_
        refine st _ (r_ge (a := i) (b := 0) rfl rfl) ?_
        refine st_nil ?_
        refine c_then ?_
        refine c_if rfl (fun h31 => ?_) (fun h31 => ?_)
        · skip
          first | (have h31n := of_decide_eq_true h31) | (have h31n := of_decide_eq_false (bnt h31)) | (have h31n := bnt h31) | (have h31n := h31)
          refine c_skip ?_
          refine c_then ?_
          refine c_seq ?_
          refine c_block ?_
          have f_o_q := f_o
          have h4_0_q := h4_0
          refine c_mixT [(0, true), (1, true), (2, true), (3, true), (4, true), (5, true), (6, true), (7, true), (8, false)] [9, 10] (fun w' => Md [] w5 w') mixed (by kernel_rfl) ?_
          intro w7 hd0; refine ⟨hd0.mono (by simp), ?_⟩; have MC := hd0.mono (T := []) (by simp)
          refine Go.Wk.m _ (fun w' hc => r_move rfl) ?_
          refine Go.Wk.m _ (fun w' hc => r_move rfl) ?_
          refine Go.Wk.m _ (fun w' hc => ((show RunV _ _ _ _ (.int .i64 (i)) from r_move rfl).castI (Int.toNat_of_nonneg (by omega)).symm)) ?_
          refine Go.Wk.m _ (fun w' hc => r_indexN (i := (i).toNat) 2 rfl rfl u61 el44 h4_0.shp (by omega)) ?_
          obtain ⟨x8, hx8⟩ := getE (l := x4_0) (i := (i).toNat) (by first | omega | (simp <;> omega))
          obtain ⟨c9, hr8, ha8⟩ := h4_0_q.get hx8
          obtain ⟨_, rfl⟩ := tPr_un hr8
          replace ha8 : At _ v4_0 (((i).toNat) * 2) (Pr.cells x8) := ha8
          refine Go.Wk.m _ (fun w' hc => r_loadEA (kk := ((i).toNat) * 2) (Pr.cells x8) 0 rfl rfl (by exact agg44) (ha8.md0 hc) rfl) ?_
          refine Go.Wk.m _ (fun w' hc => r_move rfl) ?_
          refine Go.Wk.m _ (fun w' hc => r_indexN (i := 0) 2 rfl rfl u61 el44 h4_0.shp (by omega)) ?_
          obtain ⟨x10, hx10⟩ := getE (l := x4_0) (i := 0) (by first | omega | (simp <;> omega))
          obtain ⟨c11, hr10, ha10⟩ := h4_0_q.get hx10
          obtain ⟨_, rfl⟩ := tPr_un hr10
          replace ha10 : At _ v4_0 (0 * 2) (Pr.cells x10) := ha10
          refine Go.Wk.m _ (fun w' hc => r_loadEA (kk := 0 * 2) (Pr.cells x10) 0 rfl rfl (by exact agg44) (ha10.md0 hc) rfl) ?_
          replace f_o := f_o.md0 hd0
          replace h4_0 := h4_0.md0 hd0
          replace uQ := uQ.md hd0
          replace M := M.step0 hd0
          refine m_e ?_ rfl
          refine st_buildSliceG [(Pr.cells x8), (Pr.cells x10)] u61 elT44 (by decide) (by decide) rfl rfl ⟨rfl, rfl, trivial⟩ ⟨rfl, rfl, trivial⟩ rfl (by decide) ?_
          intro ba42 w12 ga42 la42 hm ha42
          have ya42 := uQ _ ga42
          replace f_o := f_o.md0 hm
          replace h4_0 := h4_0.md0 hm
          replace uQ := uQ.md hm
          replace M := M.step0 hm
          replace MC := MC.step0 hm
          replace ha42 := Ls.of_blk (m := 2) (R := Q6) (T := tPr) (xs := [x8, x10]) ha42 ⟨_, _, rfl, (tPr_mk), ⟨_, _, rfl, (tPr_mk), rfl⟩⟩ rfl (by decide) ya42
          refine st_nil ⟨rfl, MC, ?_⟩
          refine m_nil ?_
          clear f_o_q h4_0_q
          clear MC
          refine st_ap (sz := 2) (by rfl) u61 elT44 rfl rfl f_o ha42 (fun _ h _ => h) uQ (Fsh.new M) (by first | omega | (simp <;> omega) | (simp at * <;> omega)) (by first | omega | (simp <;> omega) | (simp at * <;> omega)) ?_
          intro v14 w15 Q16 sQ sT uQ2 hO13 hm hS _ hv2
          have f_o0 := f_o; clear f_o
          replace h4_0 := h4_0.sub sQ
          replace ha42 := ha42.sub sQ
          replace tQ := fun b hb => tQ b (sT b hb)
          replace sQ0 := fun b hb hl => sQ b (sQ0 b hb hl) (Nat.lt_of_lt_of_le hl M.size)
          replace h4_0 := h4_0.md hm hS
          replace ha42 := ha42.md hm hS
          replace uQ := uQ.md hm
          replace M := M.stepO hm (fun b hb => (f_o0.2 b hb).1)
          clear uQ; have uQ := uQ2; clear uQ2 sQ sT hS hv2
          refine st _ (r_assign rfl) ?_
          refine st_nil ?_
          clear ha8
          clear ha10
          refine n_block ?_
          refine c_then ?_
          refine c_region ?_
          refine st _ (r_move rfl) ?_
          refine st _ (r_subI (a := i) (b := 1) rfl rfl (by omega)) ?_
          refine st _ (r_assign rfl) ?_
          refine st_nil ?_
          refine c_then ?_
          refine next3 (x0 := v14) (x1 := (o ++ ([x8, x10]))) (x2 := (i - 1)) (by omega) ⟨rfl, (fitI rfl (by omega)), rfl, rfl, rfl, trivial⟩ ⟨Q16, tQ, sQ0, uQ, M, hO13, h4_0, (by omega), (by simp; omega), (by have hh := hr0; rw [back_step h31n hx8 hx10] at hh; exact hh)⟩
        · skip
          first | (have h31n := of_decide_eq_false h31) | (have h31n := of_decide_eq_true (bnf h31)) | (have h31n := bnf h31) | (have h31n := h31)
          refine c_exit ?_
          refine x_then ?_
          refine x_then ?_
          refine x_hit ?_
          refine c_then ?_
          refine c_seq ?_
          refine c_region ?_
          have hb : backF x4_0 x4_0.length [] = o := by have hh := hr0; rw [back_end h31n] at hh; rw [hh, ← hr00]; congr 1; omega
          have bl := congrArg List.length hb
          rw [back_len] at bl
          simp only [List.length_nil] at bl
          refine st _ (r_move rfl) ?_
          refine st_call fn41 rfl (kList_any uQ h4_0 (by first | omega | (simp <;> omega) | (simp at * <;> omega))) ?_
          rintro en w17 ⟨v17_0, x17_0, x17_1, rfl, hm, h17_0, q17_1, hF17⟩; refine ⟨_, rfl, ?_⟩
          replace f_o := f_o.md0 hm
          replace h4_0 := h4_0.md0 hm
          replace uQ := uQ.md hm
          replace M := M.step0 hm
          refine st _ (r_move rfl) ?_
          refine st _ (r_extract rfl rfl) ?_
          refine st _ (r_extract rfl rfl) ?_
          refine st _ (r_assign rfl) ?_
          refine st _ (r_assign rfl) ?_
          refine st_nil ?_
          refine c_then ?_
          refine c_seq ?_
          refine c_region ?_
          refine st _ (r_move rfl) ?_
          obtain ⟨Q18, fQ, fT, f_oz⟩ := f_o.freeze
          replace h4_0 := h4_0.sub (fun b hb _ => fQ b hb)
          replace h17_0 := h17_0.sub (fun b hb _ => fQ b hb)
          replace tQ := fun b hb => (fT b hb).elim (tQ b) (fun hv => Fsh.up uQ0 b (f_o.2 b hv).1)
          replace sQ0 := fun b hb hl => fQ b (sQ0 b hb hl)
          replace uQ : Up w17 Q18 := fun b hb => fQ b (uQ b hb)
          clear f_o fQ fT; have f_o := f_oz; clear f_oz
          refine st_call fn41 rfl (kList_any uQ f_o (by first | omega | (simp <;> omega) | (simp at * <;> omega))) ?_
          rintro en w19 ⟨v19_0, x19_0, x19_1, rfl, hm, h19_0, q19_1, hF19⟩; refine ⟨_, rfl, ?_⟩
          replace f_o := f_o.md0 hm
          replace h4_0 := h4_0.md0 hm
          replace h17_0 := h17_0.md0 hm
          replace uQ := uQ.md hm
          replace M := M.step0 hm
          refine st _ (r_move rfl) ?_
          refine st _ (r_extract rfl rfl) ?_
          refine st _ (r_extract rfl rfl) ?_
          refine st _ (r_assign rfl) ?_
          refine st _ (r_assign rfl) ?_
          refine st_nil ?_
          refine c_then ?_
          refine c_seq ?_
          refine c_region ?_
          have xl := plist_len hF17
          refine st _ (r_move rfl) ?_
          refine st_call fn41 rfl (kList_any uQ h17_0 (by first | omega | (simp <;> omega) | (simp at * <;> omega))) ?_
          rintro en w20 ⟨v20_0, x20_0, x20_1, rfl, hm, h20_0, q20_1, hF20⟩; refine ⟨_, rfl, ?_⟩
          replace f_o := f_o.md0 hm
          replace h4_0 := h4_0.md0 hm
          replace h17_0 := h17_0.md0 hm
          replace h19_0 := h19_0.md0 hm
          replace uQ := uQ.md hm
          replace M := M.step0 hm
          refine st _ (r_move rfl) ?_
          refine st _ (r_extract rfl rfl) ?_
          refine st _ (r_extract rfl rfl) ?_
          refine st _ (r_assign rfl) ?_
          refine st _ (r_assign rfl) ?_
          refine st_nil ?_
          refine c_then ?_
          refine c_seq ?_
          refine c_seq ?_
          refine c_region ?_
          have nq := normal_eq np hb hF17 hF19 hF20
          obtain ⟨q1, q2, q3, q4, q5, q6, q7⟩ := nq
          refine st _ (r_move rfl) ?_
          refine st _ (r_neN (a := x17_1) (b := 0) rfl rfl) ?_
          refine st _ (r_move rfl) ?_
          refine part_n (t := 61) rfl (fun h61 => ?_) (fun h61 => ?_)
          · skip
            first | (have h61n := of_decide_eq_true h61) | (have h61n := of_decide_eq_false (bnt h61)) | (have h61n := bnt h61) | (have h61n := h61)
            exfalso; simp_all
          · skip
            first | (have h61n := of_decide_eq_false h61) | (have h61n := of_decide_eq_true (bnf h61)) | (have h61n := bnf h61) | (have h61n := h61)
            refine st_g _ rfl rfl rfl h61 (r_move rfl) ?_
            refine st_g _ rfl rfl rfl h61 (r_neN (a := x19_1) (b := 0) rfl rfl) ?_
            refine st _ (r_pick_f rfl h61 rfl) ?_
            refine st _ (r_move rfl) ?_
            refine part_n (t := 65) rfl (fun h65 => ?_) (fun h65 => ?_)
            · skip
              first | (have h65n := of_decide_eq_true h65) | (have h65n := of_decide_eq_false (bnt h65)) | (have h65n := bnt h65) | (have h65n := h65)
              exfalso; simp_all
            · skip
              first | (have h65n := of_decide_eq_false h65) | (have h65n := of_decide_eq_true (bnf h65)) | (have h65n := bnf h65) | (have h65n := h65)
              refine st_g _ rfl rfl rfl h65 (r_move rfl) ?_
              refine st_g _ rfl rfl rfl h65 (r_neN (a := x20_1) (b := 0) rfl rfl) ?_
              refine st _ (r_pick_f rfl h65 rfl) ?_
              refine st_nil ?_
              refine c_then ?_
              refine c_if rfl (fun h68 => ?_) (fun h68 => ?_)
              · skip
                first | (have h68n := of_decide_eq_true h68) | (have h68n := of_decide_eq_false (bnt h68)) | (have h68n := bnt h68) | (have h68n := h68)
                exfalso; simp_all
              · skip
                first | (have h68n := of_decide_eq_false h68) | (have h68n := of_decide_eq_true (bnf h68)) | (have h68n := bnf h68) | (have h68n := h68)
                refine c_skip ?_
                refine c_then ?_
                refine c_seq ?_
                refine c_seq ?_
                refine c_region ?_
                refine st _ (r_assign rfl) ?_
                refine st_nil ?_
                refine c_then ?_
                refine c_block ?_
                refine loop1 (fun (i : Nat) => [(14, (.int .i64 ((i : Nat) : Int))), (3, (.bool x1_0)), (5, v4_0), (8, v17_0), (10, v19_0), (12, v20_0)]) (fun (i : Nat) w' => ∃ Q' : Nat → Prop, (∀ b, Q' b → Q b) ∧ (∀ b, Q b → b < w.heap.size → Q' b) ∧ Up w' Q' ∧ Md [] w w' ∧ Ls tPr w' Q' v4_0 x4_0 ∧ Ls tPr w' Q' v17_0 x17_0 ∧ Ls tPr w' Q' v19_0 x19_0 ∧ Ls tPr w' Q' v20_0 x20_0 ∧ 1 ≤ i) (fun (i : Nat) => x17_0.length - i) (x0 := 1) ?_ ?_ ?_
                · exact ⟨rfl, rfl, rfl, rfl, rfl, rfl, trivial⟩
                · exact ⟨Q18, tQ, sQ0, uQ, M, h4_0, h17_0, h19_0, h20_0, (by omega)⟩
                · clear M uQ tQ sQ0 f_o h4_0 h17_0 h19_0 h20_0
                  rintro i B w21 ⟨Q22, tQ, sQ0, uQ, M, h4_0, h17_0, h19_0, h20_0, i1_0⟩
                  refine c_seq ?_
                  refine c_seq ?_
                  refine c_region ?_
                  refine st _ (r_move rfl) ?_
                  refine st _ (r_move rfl) ?_
                  refine st _ (r_len rfl u61 h17_0.shp) ?_
                  refine st _ (r_ltN (a := i) (b := x17_0.length) rfl rfl) ?_
                  refine st_nil ?_
                  refine c_then ?_
                  refine c_if rfl (fun h72 => ?_) (fun h72 => ?_)
                  · skip
                    first | (have h72n := of_decide_eq_true h72) | (have h72n := of_decide_eq_false (bnt h72)) | (have h72n := bnt h72) | (have h72n := h72)
                    refine c_skip ?_
                    refine c_then ?_
                    refine c_seq ?_
                    refine c_block ?_
                    refine c_seq ?_
                    have h4_0_q := h4_0
                    have h17_0_q := h17_0
                    have h19_0_q := h19_0
                    have h20_0_q := h20_0
                    refine c_mixT [(0, true), (1, true), (2, true), (3, true), (4, true), (5, true), (6, true), (7, true), (8, true)] [9, 10] (fun w' => Md [] w21 w') mixed (by kernel_rfl) ?_
                    intro w23 hd0; refine ⟨hd0.mono (by simp), ?_⟩; have MC := hd0.mono (T := []) (by simp)
                    refine Go.Wk.m _ (fun w' hc => r_move rfl) ?_
                    refine Go.Wk.m _ (fun w' hc => r_move rfl) ?_
                    refine Go.Wk.m _ (fun w' hc => r_subN (a := i) (b := 1) 9223372036854775808 rfl rfl rfl (by omega)) ?_
                    refine Go.Wk.m _ (fun w' hc => r_indexN (i := i - 1) 2 rfl rfl u61 el44 h17_0.shp (by omega)) ?_
                    obtain ⟨x24, hx24⟩ := getE (l := x17_0) (i := i - 1) (by first | omega | (simp <;> omega))
                    obtain ⟨c25, hr24, ha24⟩ := h17_0_q.get hx24
                    obtain ⟨_, rfl⟩ := tPr_un hr24
                    replace ha24 : At _ v17_0 ((i - 1) * 2) (Pr.cells x24) := ha24
                    refine Go.Wk.m _ (fun w' hc => r_loadEA (kk := (i - 1) * 2) (Pr.cells x24) 0 rfl rfl (by exact agg44) (ha24.md0 hc) rfl) ?_
                    refine Go.Wk.m _ (fun w' hc => r_move rfl) ?_
                    refine Go.Wk.m _ (fun w' hc => r_move rfl) ?_
                    refine Go.Wk.m _ (fun w' hc => r_indexN (i := i) 2 rfl rfl u61 el44 h17_0.shp (by omega)) ?_
                    obtain ⟨x26, hx26⟩ := getE (l := x17_0) (i := i) (by first | omega | (simp <;> omega))
                    obtain ⟨c27, hr26, ha26⟩ := h17_0_q.get hx26
                    obtain ⟨_, rfl⟩ := tPr_un hr26
                    replace ha26 : At _ v17_0 (i * 2) (Pr.cells x26) := ha26
                    refine Go.Wk.m _ (fun w' hc => r_loadEA (kk := i * 2) (Pr.cells x26) 0 rfl rfl (by exact agg44) (ha26.md0 hc) rfl) ?_
                    refine m_nil ?_
                    replace h4_0 := h4_0.md0 hd0
                    replace h17_0 := h17_0.md0 hd0
                    replace h19_0 := h19_0.md0 hd0
                    replace h20_0 := h20_0.md0 hd0
                    replace uQ := uQ.md hd0
                    replace M := M.step0 hd0
                    clear h19_0_q h4_0_q h17_0_q h20_0_q
                    clear MC
                    have bdx24 := right_bd (np3 _ ((q7 _).1 (List.mem_of_getElem? hx24)))
                    have bdx26 := right_bd (np3 _ ((q7 _).1 (List.mem_of_getElem? hx26)))
                    refine st_call fn33 rfl (kLess_any uQ x24 x26 (by first | omega | (simp <;> omega) | (simp at * <;> omega)) (by first | omega | (simp <;> omega) | (simp at * <;> omega))) ?_
                    rintro en w28 ⟨x28_0, rfl, hm, hF28⟩; refine ⟨_, rfl, ?_⟩
                    replace h4_0 := h4_0.md0 hm
                    replace h17_0 := h17_0.md0 hm
                    replace h19_0 := h19_0.md0 hm
                    replace h20_0 := h20_0.md0 hm
                    replace uQ := uQ.md hm
                    replace M := M.step0 hm
                    refine st _ (r_not rfl) ?_
                    refine st_nil ?_
                    clear ha24
                    clear ha26
                    refine c_then ?_
                    refine c_if rfl (fun h85 => ?_) (fun h85 => ?_)
                    · skip
                      first | (have h85n := of_decide_eq_true h85) | (have h85n := of_decide_eq_false (bnt h85)) | (have h85n := bnt h85) | (have h85n := h85)
                      exfalso; have al := asc_get q6 (by omega) hx24 hx26; rw [hF28] at al; rw [al] at h85n; cases h85n
                    · skip
                      first | (have h85n := of_decide_eq_false h85) | (have h85n := of_decide_eq_true (bnf h85)) | (have h85n := bnf h85) | (have h85n := h85)
                      refine c_skip ?_
                      refine n_block ?_
                      refine c_then ?_
                      refine c_region ?_
                      refine st _ (r_move rfl) ?_
                      refine st _ (r_addN (a := i) (b := 1) 9223372036854775808 rfl rfl rfl (by omega)) ?_
                      refine st _ (r_assign rfl) ?_
                      refine st_nil ?_
                      refine c_then ?_
                      refine next1 (x0 := (i + 1)) (by omega) ⟨(fitI rfl (by omega)), rfl, rfl, rfl, rfl, rfl, trivial⟩ ⟨Q22, tQ, sQ0, uQ, M, h4_0, h17_0, h19_0, h20_0, (by omega)⟩
                  · skip
                    first | (have h72n := of_decide_eq_false h72) | (have h72n := of_decide_eq_true (bnf h72)) | (have h72n := bnf h72) | (have h72n := h72)
                    refine c_exit ?_
                    refine x_then ?_
                    refine x_then ?_
                    refine x_hit ?_
                    refine c_then ?_
                    refine c_seq ?_
                    refine c_region ?_
                    refine st _ (r_move rfl) ?_
                    refine st _ (r_move rfl) ?_
                    refine part_n (t := 87) rfl (fun h87 => ?_) (fun h87 => ?_)
                    · skip
                      first | (have h87n := of_decide_eq_true h87) | (have h87n := of_decide_eq_false (bnt h87)) | (have h87n := bnt h87) | (have h87n := h87)
                      refine st_g _ rfl rfl rfl h87 (r_move rfl) ?_
                      refine st_g _ rfl rfl rfl h87 (r_move rfl) ?_
                      refine st_call_g rfl rfl rfl h87 fn42 rfl (kSameF_any uQ h17_0 h4_0) ?_
                      rintro en w29 ⟨x29_0, rfl, hm, hF29⟩; refine ⟨_, rfl, ?_⟩
                      replace h4_0 := h4_0.md0 hm
                      replace h17_0 := h17_0.md0 hm
                      replace h19_0 := h19_0.md0 hm
                      replace h20_0 := h20_0.md0 hm
                      replace uQ := uQ.md hm
                      replace M := M.step0 hm
                      refine st _ (r_pick_t rfl h87 rfl) ?_
                      refine st _ (r_move rfl) ?_
                      refine part_n (t := 92) rfl (fun h92 => ?_) (fun h92 => ?_)
                      · skip
                        first | (have h92n := of_decide_eq_true h92) | (have h92n := of_decide_eq_false (bnt h92)) | (have h92n := bnt h92) | (have h92n := h92)
                        refine st_g _ rfl rfl rfl h92 (r_move rfl) ?_
                        refine st_g _ rfl rfl rfl h92 (r_move rfl) ?_
                        refine st_call_g rfl rfl rfl h92 fn43 rfl (kSame_any uQ h17_0 h19_0) ?_
                        rintro en w30 ⟨x30_0, rfl, hm, hF30⟩; refine ⟨_, rfl, ?_⟩
                        replace h4_0 := h4_0.md0 hm
                        replace h17_0 := h17_0.md0 hm
                        replace h19_0 := h19_0.md0 hm
                        replace h20_0 := h20_0.md0 hm
                        replace uQ := uQ.md hm
                        replace M := M.step0 hm
                        refine st _ (r_pick_t rfl h92 rfl) ?_
                        refine st _ (r_move rfl) ?_
                        refine part_n (t := 97) rfl (fun h97 => ?_) (fun h97 => ?_)
                        · skip
                          first | (have h97n := of_decide_eq_true h97) | (have h97n := of_decide_eq_false (bnt h97)) | (have h97n := bnt h97) | (have h97n := h97)
                          refine st_g _ rfl rfl rfl h97 (r_move rfl) ?_
                          refine st_g _ rfl rfl rfl h97 (r_move rfl) ?_
                          refine st_call_g rfl rfl rfl h97 fn43 rfl (kSame_any uQ h17_0 h20_0) ?_
                          rintro en w31 ⟨x31_0, rfl, hm, hF31⟩; refine ⟨_, rfl, ?_⟩
                          replace h4_0 := h4_0.md0 hm
                          replace h17_0 := h17_0.md0 hm
                          replace h19_0 := h19_0.md0 hm
                          replace h20_0 := h20_0.md0 hm
                          replace uQ := uQ.md hm
                          replace M := M.step0 hm
                          refine st _ (r_pick_t rfl h97 rfl) ?_
                          refine st _ (r_assign rfl) ?_
                          refine st_nil ?_
                          refine c_then ?_
                          refine c_ret ?_
                          exact ret1L (v := (.bool x31_0)) trivial rfl ⟨rfl, trivial⟩ ⟨x31_0, rfl, M, (by rw [← hF31, q5, samePairs_self])⟩
                        · skip
                          first | (have h97n := of_decide_eq_false h97) | (have h97n := of_decide_eq_true (bnf h97)) | (have h97n := bnf h97) | (have h97n := h97)
                          exfalso; rw [q4, samePairs_self] at hF30; rw [← hF30] at h97n; cases h97n
                      · skip
                        first | (have h92n := of_decide_eq_false h92) | (have h92n := of_decide_eq_true (bnf h92)) | (have h92n := bnf h92) | (have h92n := h92)
                        exfalso; rw [same_of q7] at hF29; rw [← hF29] at h92n; cases h92n
                    · skip
                      first | (have h87n := of_decide_eq_false h87) | (have h87n := of_decide_eq_true (bnf h87)) | (have h87n := bnf h87) | (have h87n := h87)
                      exfalso; simp_all
end Go.Proofs.Ytimakajeggeebaa
