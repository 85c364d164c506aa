/- Walks of functions: what each call returns. -/
import Derived.Test.YtimakajeggeebaaRows
import Derived.Test.YtimakajeggeebaaDraws
import Derived.Test.YtimakajeggeebaaWHash3
import Derived.Test.YtimakajeggeebaaFieldP
import Derived.Test.YtimakajeggeebaaFieldQ
import Derived.Test.YtimakajeggeebaaWField
import Derived.Test.YtimakajeggeebaaWField2
import Derived.Test.YtimakajeggeebaaWField3
import Derived.Test.YtimakajeggeebaaWField4
namespace Go.Proofs.Ytimakajeggeebaa
open Go Go.Wk Go.RowKit
attribute [local irreducible] wpList wpQuiet wpStill wpMix Code.wp Calls bodyPost
theorem fn32 : isFn Try.prog 32 = true := by kernel_rfl
theorem pl54 : bplace Try.prog 54 = some [(0, 1), (1, 1)] := by kernel_rfl
theorem z54 : zcells Try.prog 54 = some [.slice none 0 0, .int .i64 0] := by kernel_rfl

theorem fieldOrder_walk (v : Value) (ls : List Int) (w : World) (hS : Sl w v (ls.map (Value.int .i64))) :
    Calls Try.prog 9 #[v] w fun e w' => e = .returned (.bool true) ∧ Md [] w w' := by
  have M := Md.refl [] w
  refine enter (n := 60) Try.func9 rfl rfl rfl ?_
  intro B
  refine c_seq ?_
  refine c_region ?_
  refine st _ (r_assign rfl) ?_
  refine st_nil ?_
  refine c_then ?_
  refine c_seq ?_
  refine c_region ?_
  refine st_call fn27 rfl (first4_any _) ?_
  rintro e w1 ⟨rfl, hm⟩; refine ⟨_, rfl, ?_⟩
  replace M := M.step0 hm
  refine st _ (r_assign rfl) ?_
  refine st_nil ?_
  refine c_then ?_
  refine c_seq ?_
  refine c_seq ?_
  refine c_region ?_
  refine st _ (r_move rfl) ?_
  refine st _ (r_not rfl) ?_
  refine st_nil ?_
  refine c_then ?_
  refine c_if_f rfl rfl ?_
  refine c_skip ?_
  refine c_then ?_
  refine c_seq ?_
  refine c_region ?_
  refine st _ (r_move rfl) ?_
  refine st (.agg [_, _].toArray) (r_build (ps := [(0, 0)]) z54 pl54 rfl rfl ⟨(Sl.oneCell (hS.md0 M)), trivial⟩ rfl rfl rfl) ?_
  refine st_box rfl rfl ?_
  intro bQ w2 gQ lQ hm hQ
  replace gQ := Nat.le_trans M.size gQ
  replace M := M.step0 hm
  refine st _ (r_assign rfl) ?_
  refine st_nil ?_
  refine c_then ?_
  refine c_seq ?_
  refine c_region ?_
  refine st _ (r_move rfl) ?_
  refine st_call fn32 rfl (pair_any bQ v ls _ _ hQ (hS.md0 M) (Apart.of_old hS (by intro i hi; simp at hi; subst hi; exact gQ))) ?_
  rintro e wpa ⟨a, ata, rfl, ra, hm, hQ2⟩; refine ⟨_, rfl, ?_⟩
  replace M := M.step1 hm gQ
  replace hQ := hQ2; clear hQ2
  obtain ⟨la1, la2⟩ := right_len ra
  refine st _ (r_move rfl) ?_
  refine st_call fn32 rfl (pair_any bQ v ls _ _ hQ (hS.md0 M) (Apart.of_old hS (by intro i hi; simp at hi; subst hi; exact gQ))) ?_
  rintro e wpb ⟨b, atb, rfl, rb, hm, hQ2⟩; refine ⟨_, rfl, ?_⟩
  replace M := M.step1 hm gQ
  replace hQ := hQ2; clear hQ2
  obtain ⟨lb1, lb2⟩ := right_len rb
  refine st _ (r_move rfl) ?_
  refine st_call fn32 rfl (pair_any bQ v ls _ _ hQ (hS.md0 M) (Apart.of_old hS (by intro i hi; simp at hi; subst hi; exact gQ))) ?_
  rintro e wpc ⟨c, atc, rfl, rc, hm, hQ2⟩; refine ⟨_, rfl, ?_⟩
  replace M := M.step1 hm gQ
  replace hQ := hQ2; clear hQ2
  obtain ⟨lc1, lc2⟩ := right_len rc
  refine st_alloc z44 ?_
  intro bA w3 gA lA hm hA
  have nhQA : bQ ≠ bA := by have := hQ.lt; omega
  replace gA := Nat.le_trans M.size gA
  replace hQ := hQ.md0 hm
  replace M := M.step0 hm
  refine st_alloc z44 ?_
  intro bB w4 gB lB hm hB
  have nhQB : bQ ≠ bB := by have := hQ.lt; omega
  have nhAB : bA ≠ bB := by have := hA.lt; omega
  replace gB := Nat.le_trans M.size gB
  replace hQ := hQ.md0 hm
  replace hA := hA.md0 hm
  replace M := M.step0 hm
  refine st_alloc z44 ?_
  intro bC w5 gC lC hm hC
  have nhQC : bQ ≠ bC := by have := hQ.lt; omega
  have nhAC : bA ≠ bC := by have := hA.lt; omega
  have nhBC : bB ≠ bC := by have := hB.lt; omega
  replace gC := Nat.le_trans M.size gC
  replace hQ := hQ.md0 hm
  replace hA := hA.md0 hm
  replace hB := hB.md0 hm
  replace M := M.step0 hm
  refine st_storeAll rfl rfl (by exact agg44) (by simp [pairv, str, Value.oneCell']) hA (by first | rfl | simp) ?_
  have hA0 := hA
  clear hA
  intro w6 hm hA
  replace hQ := hQ.md1 hm (by omega)
  replace hB := hB.md1 hm (by omega)
  replace hC := hC.md1 hm (by omega)
  replace M := M.step1 hm gA
  refine st_storeAll rfl rfl (by exact agg44) (by simp [pairv, str, Value.oneCell']) hB (by first | rfl | simp) ?_
  have hB0 := hB
  clear hB
  intro w7 hm hB
  replace hQ := hQ.md1 hm (by omega)
  replace hA := hA.md1 hm (by omega)
  replace hC := hC.md1 hm (by omega)
  replace M := M.step1 hm gB
  refine st_storeAll rfl rfl (by exact agg44) (by simp [pairv, str, Value.oneCell']) hC (by first | rfl | simp) ?_
  have hC0 := hC
  clear hC
  intro w8 hm hC
  replace hQ := hQ.md1 hm (by omega)
  replace hA := hA.md1 hm (by omega)
  replace hB := hB.md1 hm (by omega)
  replace M := M.step1 hm gC
  refine st_nil ?_
  refine c_then ?_
  refine c_seq ?_
  refine c_seq ?_
  refine c_region ?_
  refine st _ (r_loadAll rfl (by exact agg44) hA) ?_
  refine st _ (r_loadAll rfl (by exact agg44) hB) ?_
  refine st_call fn33 rfl (less_any a b _ (by omega) (by omega)) ?_
  rintro e w9 ⟨rfl, hm⟩; refine ⟨_, rfl, ?_⟩
  replace hQ := hQ.md0 hm
  replace hA := hA.md0 hm
  replace hB := hB.md0 hm
  replace hC := hC.md0 hm
  replace M := M.step0 hm
  refine st _ (r_move rfl) ?_
  refine part_n (t := 23) rfl (fun h23 => ?_) (fun h23 => ?_)
  · skip
    first | (have h23n := of_decide_eq_true h23) | (have h23n := of_decide_eq_false (bnt h23)) | (have h23n := bnt h23) | (have h23n := h23)
    refine st_g _ rfl rfl rfl h23 (r_loadAll rfl (by exact agg44) hB) ?_
    refine st_g _ rfl rfl rfl h23 (r_loadAll rfl (by exact agg44) hC) ?_
    refine st_call_g rfl rfl rfl h23 fn33 rfl (less_any b c _ (by omega) (by omega)) ?_
    rintro e w10 ⟨rfl, hm⟩; refine ⟨_, rfl, ?_⟩
    replace hQ := hQ.md0 hm
    replace hA := hA.md0 hm
    replace hB := hB.md0 hm
    replace hC := hC.md0 hm
    replace M := M.step0 hm
    refine st _ (r_pick_t rfl h23 rfl) ?_
    refine st _ (r_move rfl) ?_
    refine part_n (t := 28) rfl (fun h28 => ?_) (fun h28 => ?_)
    · skip
      first | (have h28n := of_decide_eq_true h28) | (have h28n := of_decide_eq_false (bnt h28)) | (have h28n := bnt h28) | (have h28n := h28)
      refine st_g _ rfl rfl rfl h28 (r_loadAll rfl (by exact agg44) hA) ?_
      refine st_g _ rfl rfl rfl h28 (r_loadAll rfl (by exact agg44) hC) ?_
      refine st_call_g rfl rfl rfl h28 fn33 rfl (less_any a c _ (by omega) (by omega)) ?_
      rintro e w11 ⟨rfl, hm⟩; refine ⟨_, rfl, ?_⟩
      replace hQ := hQ.md0 hm
      replace hA := hA.md0 hm
      replace hB := hB.md0 hm
      replace hC := hC.md0 hm
      replace M := M.step0 hm
      refine st_g _ rfl rfl rfl h28 ((r_not rfl).castB (show (!Op.bytesLess (whole a) (whole c)) = false from by rw [bl_trans h23n h28n]; rfl)) ?_
      refine st _ (r_pick_t rfl h28 rfl) ?_
      refine st_nil ?_
      refine c_then ?_
      refine c_if_f rfl rfl ?_
      refine c_skip ?_
      refine c_then ?_
      refine c_seq ?_
      have hQ_q := hQ
      have hA_q := hA
      have hB_q := hB
      have hC_q := hC
      have M_q := M
      refine c_mix [(0, true), (1, true), (2, true), (3, true), (10, true), (11, true), (12, true), (4, false), (5, true), (6, true), (7, true), (8, false), (9, true), (13, true), (14, true), (15, true), (16, true), (17, true), (18, false), (19, true), (20, true), (21, true), (22, false), (23, true), (24, true), (25, true), (26, true)] (fun w' => Md [] w11 w') mixed (by kernel_rfl) ?_
      intro w12 hm
      have MC := hm
      replace hQ := hQ.md0 hm
      replace hA := hA.md0 hm
      replace hB := hB.md0 hm
      replace hC := hC.md0 hm
      replace M := M.step0 hm
      refine ⟨MC, ?_⟩
      refine m _ (fun w' hc => r_move rfl) ?_
      refine m _ (fun w' hc => r_move rfl) ?_
      refine m_g _ rfl rfl rfl rfl (fun w' hc => r_loadAll rfl (by exact agg44) (hA_q.md0 hc)) ?_
      refine m_g _ rfl rfl rfl rfl (fun w' hc => r_loadAll rfl (by exact agg44) (hB_q.md0 hc)) ?_
      refine m_g _ rfl rfl rfl rfl (fun w' hc => r_loadAll rfl (by exact agg44) (hA_q.md0 hc)) ?_
      refine m_g _ rfl rfl rfl rfl (fun w' hc => r_loadAll rfl (by exact agg44) (hB_q.md0 hc)) ?_
      refine m_g _ rfl rfl rfl rfl (fun w' hc => r_neqP (p := a) (q := b) pair44 u9 rfl rfl) ?_
      refine m_e_g rfl rfl rfl rfl rfl ?_
      refine st_call_g rfl rfl rfl rfl fn33 rfl (less_any a b _ (by omega) (by omega)) ?_
      rintro e w13 ⟨rfl, hm⟩; refine ⟨_, rfl, ?_⟩
      replace hQ := hQ.md0 hm
      replace hA := hA.md0 hm
      replace hB := hB.md0 hm
      replace hC := hC.md0 hm
      replace MC := MC.step0 hm
      replace M := M.step0 hm
      refine st_nil ⟨rfl, MC, ?_⟩
      refine m_g _ rfl rfl rfl rfl (fun w' hc => r_move rfl) ?_
      refine part_m (t := 39) rfl (fun h39 => ?_) (fun h39 => ?_)
      · skip
        first | (have h39n := of_decide_eq_true h39) | (have h39n := of_decide_eq_false (bnt h39)) | (have h39n := bnt h39) | (have h39n := h39)
        refine m_skip rfl rfl rfl h39 ?_
        refine m_skip rfl rfl rfl h39 ?_
        refine m_skip rfl rfl rfl h39 ?_
        refine m_g _ rfl rfl rfl rfl (fun w' hc => r_pick_t rfl h39 rfl) ?_
        refine m_g _ rfl rfl rfl rfl (fun w' hc => (r_eqBool u4 rfl rfl).castB (tri_T h39n)) ?_
        refine m _ (fun w' hc => r_pick_t rfl rfl rfl) ?_
        refine m _ (fun w' hc => r_move rfl) ?_
        refine m_g _ rfl rfl rfl rfl (fun w' hc => r_loadAll rfl (by exact agg44) (hA_q.md0 hc)) ?_
        refine m_g _ rfl rfl rfl rfl (fun w' hc => r_loadAll rfl (by exact agg44) (hB_q.md0 hc)) ?_
        refine m_e_g rfl rfl rfl rfl rfl ?_
        refine st_call_g rfl rfl rfl rfl fn33 rfl (less_any a b _ (by omega) (by omega)) ?_
        rintro e w14 ⟨rfl, hm⟩; refine ⟨_, rfl, ?_⟩
        replace hQ := hQ.md0 hm
        replace hA := hA.md0 hm
        replace hB := hB.md0 hm
        replace hC := hC.md0 hm
        replace MC := MC.step0 hm
        replace M := M.step0 hm
        refine st_nil ⟨rfl, MC, ?_⟩
        refine m_g _ rfl rfl rfl rfl (fun w' hc => r_move rfl) ?_
        refine part_m (t := 53) rfl (fun h53 => ?_) (fun h53 => ?_)
        · skip
          first | (have h53n := of_decide_eq_true h53) | (have h53n := of_decide_eq_false (bnt h53)) | (have h53n := bnt h53) | (have h53n := h53)
          refine m_g _ rfl rfl rfl h53 (fun w' hc => r_loadAll rfl (by exact agg44) (hB_q.md0 hc)) ?_
          refine m_g _ rfl rfl rfl h53 (fun w' hc => r_loadAll rfl (by exact agg44) (hA_q.md0 hc)) ?_
          refine m_e_g rfl rfl rfl h53 rfl ?_
          refine st_call_g rfl rfl rfl h53 fn33 rfl (less_any b a _ (by omega) (by omega)) ?_
          rintro e w15 ⟨rfl, hm⟩; refine ⟨_, rfl, ?_⟩
          replace hQ := hQ.md0 hm
          replace hA := hA.md0 hm
          replace hB := hB.md0 hm
          replace hC := hC.md0 hm
          replace MC := MC.step0 hm
          replace M := M.step0 hm
          refine st_nil ⟨rfl, MC, ?_⟩
          refine m_g _ rfl rfl rfl rfl (fun w' hc => r_pick_t rfl h53 rfl) ?_
          refine m_g _ rfl rfl rfl rfl (fun w' hc => (r_not rfl).castB (show (!Op.bytesLess (whole b) (whole a)) = true from by rw [bl_asym h53n]; rfl)) ?_
          refine m _ (fun w' hc => r_pick_t rfl rfl rfl) ?_
          refine m _ (fun w' hc => r_assign rfl) ?_
          refine m_nil ?_
          refine c_then ?_
          refine c_ret ?_
          exact ret1 trivial rfl rfl ⟨rfl, M⟩
        · skip
          first | (have h53n := of_decide_eq_false h53) | (have h53n := of_decide_eq_true (bnf h53)) | (have h53n := bnf h53) | (have h53n := h53)
          refine m_skip rfl rfl rfl h53 ?_
          refine m_skip rfl rfl rfl h53 ?_
          refine m_skip rfl rfl rfl h53 ?_
          refine m_g _ rfl rfl rfl rfl (fun w' hc => r_pick_f rfl h53 rfl) ?_
          refine m_g _ rfl rfl rfl rfl (fun w' hc => r_not rfl) ?_
          refine m _ (fun w' hc => r_pick_t rfl rfl rfl) ?_
          refine m _ (fun w' hc => r_assign rfl) ?_
          refine m_nil ?_
          refine c_then ?_
          refine c_ret ?_
          exact ret1 trivial rfl rfl ⟨rfl, M⟩
      · skip
        first | (have h39n := of_decide_eq_false h39) | (have h39n := of_decide_eq_true (bnf h39)) | (have h39n := bnf h39) | (have h39n := h39)
        refine m_g _ rfl rfl rfl h39 (fun w' hc => r_loadAll rfl (by exact agg44) (hB_q.md0 hc)) ?_
        refine m_g _ rfl rfl rfl h39 (fun w' hc => r_loadAll rfl (by exact agg44) (hA_q.md0 hc)) ?_
        refine m_e_g rfl rfl rfl h39 rfl ?_
        refine st_call_g rfl rfl rfl h39 fn33 rfl (less_any b a _ (by omega) (by omega)) ?_
        rintro e w16 ⟨rfl, hm⟩; refine ⟨_, rfl, ?_⟩
        replace hQ := hQ.md0 hm
        replace hA := hA.md0 hm
        replace hB := hB.md0 hm
        replace hC := hC.md0 hm
        replace MC := MC.step0 hm
        replace M := M.step0 hm
        refine st_nil ⟨rfl, MC, ?_⟩
        refine m_g _ rfl rfl rfl rfl (fun w' hc => r_pick_f rfl h39 rfl) ?_
        refine m_g _ rfl rfl rfl rfl (fun w' hc => (r_eqBool u4 rfl rfl).castB (tri_F ra rb h39n)) ?_
        refine m _ (fun w' hc => r_pick_t rfl rfl rfl) ?_
        refine m _ (fun w' hc => r_move rfl) ?_
        refine m_g _ rfl rfl rfl rfl (fun w' hc => r_loadAll rfl (by exact agg44) (hA_q.md0 hc)) ?_
        refine m_g _ rfl rfl rfl rfl (fun w' hc => r_loadAll rfl (by exact agg44) (hB_q.md0 hc)) ?_
        refine m_e_g rfl rfl rfl rfl rfl ?_
        refine st_call_g rfl rfl rfl rfl fn33 rfl (less_any a b _ (by omega) (by omega)) ?_
        rintro e w17 ⟨rfl, hm⟩; refine ⟨_, rfl, ?_⟩
        replace hQ := hQ.md0 hm
        replace hA := hA.md0 hm
        replace hB := hB.md0 hm
        replace hC := hC.md0 hm
        replace MC := MC.step0 hm
        replace M := M.step0 hm
        refine st_nil ⟨rfl, MC, ?_⟩
        refine m_g _ rfl rfl rfl rfl (fun w' hc => r_move rfl) ?_
        refine part_m (t := 53) rfl (fun h53 => ?_) (fun h53 => ?_)
        · skip
          first | (have h53n := of_decide_eq_true h53) | (have h53n := of_decide_eq_false (bnt h53)) | (have h53n := bnt h53) | (have h53n := h53)
          refine m_g _ rfl rfl rfl h53 (fun w' hc => r_loadAll rfl (by exact agg44) (hB_q.md0 hc)) ?_
          refine m_g _ rfl rfl rfl h53 (fun w' hc => r_loadAll rfl (by exact agg44) (hA_q.md0 hc)) ?_
          refine m_e_g rfl rfl rfl h53 rfl ?_
          refine st_call_g rfl rfl rfl h53 fn33 rfl (less_any b a _ (by omega) (by omega)) ?_
          rintro e w18 ⟨rfl, hm⟩; refine ⟨_, rfl, ?_⟩
          replace hQ := hQ.md0 hm
          replace hA := hA.md0 hm
          replace hB := hB.md0 hm
          replace hC := hC.md0 hm
          replace MC := MC.step0 hm
          replace M := M.step0 hm
          refine st_nil ⟨rfl, MC, ?_⟩
          refine m_g _ rfl rfl rfl rfl (fun w' hc => r_pick_t rfl h53 rfl) ?_
          refine m_g _ rfl rfl rfl rfl (fun w' hc => (r_not rfl).castB (show (!Op.bytesLess (whole b) (whole a)) = true from by rw [bl_asym h53n]; rfl)) ?_
          refine m _ (fun w' hc => r_pick_t rfl rfl rfl) ?_
          refine m _ (fun w' hc => r_assign rfl) ?_
          refine m_nil ?_
          refine c_then ?_
          refine c_ret ?_
          exact ret1 trivial rfl rfl ⟨rfl, M⟩
        · skip
          first | (have h53n := of_decide_eq_false h53) | (have h53n := of_decide_eq_true (bnf h53)) | (have h53n := bnf h53) | (have h53n := h53)
          refine m_skip rfl rfl rfl h53 ?_
          refine m_skip rfl rfl rfl h53 ?_
          refine m_skip rfl rfl rfl h53 ?_
          refine m_g _ rfl rfl rfl rfl (fun w' hc => r_pick_f rfl h53 rfl) ?_
          refine m_g _ rfl rfl rfl rfl (fun w' hc => r_not rfl) ?_
          refine m _ (fun w' hc => r_pick_t rfl rfl rfl) ?_
          refine m _ (fun w' hc => r_assign rfl) ?_
          refine m_nil ?_
          refine c_then ?_
          refine c_ret ?_
          exact ret1 trivial rfl rfl ⟨rfl, M⟩
    · skip
      first | (have h28n := of_decide_eq_false h28) | (have h28n := of_decide_eq_true (bnf h28)) | (have h28n := bnf h28) | (have h28n := h28)
      refine st_skip rfl rfl rfl h28 ?_
      refine st_skip rfl rfl rfl h28 ?_
      refine st_skip rfl rfl rfl h28 ?_
      refine st_skip rfl rfl rfl h28 ?_
      refine st _ (r_pick_f rfl h28 rfl) ?_
      refine st_nil ?_
      refine c_then ?_
      refine c_if_f rfl rfl ?_
      refine c_skip ?_
      refine c_then ?_
      refine c_seq ?_
      have hQ_q := hQ
      have hA_q := hA
      have hB_q := hB
      have hC_q := hC
      have M_q := M
      refine c_mix [(0, true), (1, true), (2, true), (3, true), (10, true), (11, true), (12, true), (4, false), (5, true), (6, true), (7, true), (8, false), (9, true), (13, true), (14, true), (15, true), (16, true), (17, true), (18, false), (19, true), (20, true), (21, true), (22, false), (23, true), (24, true), (25, true), (26, true)] (fun w' => Md [] w10 w') mixed (by kernel_rfl) ?_
      intro w19 hm
      have MC := hm
      replace hQ := hQ.md0 hm
      replace hA := hA.md0 hm
      replace hB := hB.md0 hm
      replace hC := hC.md0 hm
      replace M := M.step0 hm
      refine ⟨MC, ?_⟩
      refine m _ (fun w' hc => r_move rfl) ?_
      refine m _ (fun w' hc => r_move rfl) ?_
      refine m_g _ rfl rfl rfl rfl (fun w' hc => r_loadAll rfl (by exact agg44) (hA_q.md0 hc)) ?_
      refine m_g _ rfl rfl rfl rfl (fun w' hc => r_loadAll rfl (by exact agg44) (hB_q.md0 hc)) ?_
      refine m_g _ rfl rfl rfl rfl (fun w' hc => r_loadAll rfl (by exact agg44) (hA_q.md0 hc)) ?_
      refine m_g _ rfl rfl rfl rfl (fun w' hc => r_loadAll rfl (by exact agg44) (hB_q.md0 hc)) ?_
      refine m_g _ rfl rfl rfl rfl (fun w' hc => r_neqP (p := a) (q := b) pair44 u9 rfl rfl) ?_
      refine m_e_g rfl rfl rfl rfl rfl ?_
      refine st_call_g rfl rfl rfl rfl fn33 rfl (less_any a b _ (by omega) (by omega)) ?_
      rintro e w20 ⟨rfl, hm⟩; refine ⟨_, rfl, ?_⟩
      replace hQ := hQ.md0 hm
      replace hA := hA.md0 hm
      replace hB := hB.md0 hm
      replace hC := hC.md0 hm
      replace MC := MC.step0 hm
      replace M := M.step0 hm
      refine st_nil ⟨rfl, MC, ?_⟩
      refine m_g _ rfl rfl rfl rfl (fun w' hc => r_move rfl) ?_
      refine part_m (t := 39) rfl (fun h39 => ?_) (fun h39 => ?_)
      · skip
        first | (have h39n := of_decide_eq_true h39) | (have h39n := of_decide_eq_false (bnt h39)) | (have h39n := bnt h39) | (have h39n := h39)
        refine m_skip rfl rfl rfl h39 ?_
        refine m_skip rfl rfl rfl h39 ?_
        refine m_skip rfl rfl rfl h39 ?_
        refine m_g _ rfl rfl rfl rfl (fun w' hc => r_pick_t rfl h39 rfl) ?_
        refine m_g _ rfl rfl rfl rfl (fun w' hc => (r_eqBool u4 rfl rfl).castB (tri_T h39n)) ?_
        refine m _ (fun w' hc => r_pick_t rfl rfl rfl) ?_
        refine m _ (fun w' hc => r_move rfl) ?_
        refine m_g _ rfl rfl rfl rfl (fun w' hc => r_loadAll rfl (by exact agg44) (hA_q.md0 hc)) ?_
        refine m_g _ rfl rfl rfl rfl (fun w' hc => r_loadAll rfl (by exact agg44) (hB_q.md0 hc)) ?_
        refine m_e_g rfl rfl rfl rfl rfl ?_
        refine st_call_g rfl rfl rfl rfl fn33 rfl (less_any a b _ (by omega) (by omega)) ?_
        rintro e w21 ⟨rfl, hm⟩; refine ⟨_, rfl, ?_⟩
        replace hQ := hQ.md0 hm
        replace hA := hA.md0 hm
        replace hB := hB.md0 hm
        replace hC := hC.md0 hm
        replace MC := MC.step0 hm
        replace M := M.step0 hm
        refine st_nil ⟨rfl, MC, ?_⟩
        refine m_g _ rfl rfl rfl rfl (fun w' hc => r_move rfl) ?_
        refine part_m (t := 53) rfl (fun h53 => ?_) (fun h53 => ?_)
        · skip
          first | (have h53n := of_decide_eq_true h53) | (have h53n := of_decide_eq_false (bnt h53)) | (have h53n := bnt h53) | (have h53n := h53)
          refine m_g _ rfl rfl rfl h53 (fun w' hc => r_loadAll rfl (by exact agg44) (hB_q.md0 hc)) ?_
          refine m_g _ rfl rfl rfl h53 (fun w' hc => r_loadAll rfl (by exact agg44) (hA_q.md0 hc)) ?_
          refine m_e_g rfl rfl rfl h53 rfl ?_
          refine st_call_g rfl rfl rfl h53 fn33 rfl (less_any b a _ (by omega) (by omega)) ?_
          rintro e w22 ⟨rfl, hm⟩; refine ⟨_, rfl, ?_⟩
          replace hQ := hQ.md0 hm
          replace hA := hA.md0 hm
          replace hB := hB.md0 hm
          replace hC := hC.md0 hm
          replace MC := MC.step0 hm
          replace M := M.step0 hm
          refine st_nil ⟨rfl, MC, ?_⟩
          refine m_g _ rfl rfl rfl rfl (fun w' hc => r_pick_t rfl h53 rfl) ?_
          refine m_g _ rfl rfl rfl rfl (fun w' hc => (r_not rfl).castB (show (!Op.bytesLess (whole b) (whole a)) = true from by rw [bl_asym h53n]; rfl)) ?_
          refine m _ (fun w' hc => r_pick_t rfl rfl rfl) ?_
          refine m _ (fun w' hc => r_assign rfl) ?_
          refine m_nil ?_
          refine c_then ?_
          refine c_ret ?_
          exact ret1 trivial rfl rfl ⟨rfl, M⟩
        · skip
          first | (have h53n := of_decide_eq_false h53) | (have h53n := of_decide_eq_true (bnf h53)) | (have h53n := bnf h53) | (have h53n := h53)
          refine m_skip rfl rfl rfl h53 ?_
          refine m_skip rfl rfl rfl h53 ?_
          refine m_skip rfl rfl rfl h53 ?_
          refine m_g _ rfl rfl rfl rfl (fun w' hc => r_pick_f rfl h53 rfl) ?_
          refine m_g _ rfl rfl rfl rfl (fun w' hc => r_not rfl) ?_
          refine m _ (fun w' hc => r_pick_t rfl rfl rfl) ?_
          refine m _ (fun w' hc => r_assign rfl) ?_
          refine m_nil ?_
          refine c_then ?_
          refine c_ret ?_
          exact ret1 trivial rfl rfl ⟨rfl, M⟩
      · skip
        first | (have h39n := of_decide_eq_false h39) | (have h39n := of_decide_eq_true (bnf h39)) | (have h39n := bnf h39) | (have h39n := h39)
        refine m_g _ rfl rfl rfl h39 (fun w' hc => r_loadAll rfl (by exact agg44) (hB_q.md0 hc)) ?_
        refine m_g _ rfl rfl rfl h39 (fun w' hc => r_loadAll rfl (by exact agg44) (hA_q.md0 hc)) ?_
        refine m_e_g rfl rfl rfl h39 rfl ?_
        refine st_call_g rfl rfl rfl h39 fn33 rfl (less_any b a _ (by omega) (by omega)) ?_
        rintro e w23 ⟨rfl, hm⟩; refine ⟨_, rfl, ?_⟩
        replace hQ := hQ.md0 hm
        replace hA := hA.md0 hm
        replace hB := hB.md0 hm
        replace hC := hC.md0 hm
        replace MC := MC.step0 hm
        replace M := M.step0 hm
        refine st_nil ⟨rfl, MC, ?_⟩
        refine m_g _ rfl rfl rfl rfl (fun w' hc => r_pick_f rfl h39 rfl) ?_
        refine m_g _ rfl rfl rfl rfl (fun w' hc => (r_eqBool u4 rfl rfl).castB (tri_F ra rb h39n)) ?_
        refine m _ (fun w' hc => r_pick_t rfl rfl rfl) ?_
        refine m _ (fun w' hc => r_move rfl) ?_
        refine m_g _ rfl rfl rfl rfl (fun w' hc => r_loadAll rfl (by exact agg44) (hA_q.md0 hc)) ?_
        refine m_g _ rfl rfl rfl rfl (fun w' hc => r_loadAll rfl (by exact agg44) (hB_q.md0 hc)) ?_
        refine m_e_g rfl rfl rfl rfl rfl ?_
        refine st_call_g rfl rfl rfl rfl fn33 rfl (less_any a b _ (by omega) (by omega)) ?_
        rintro e w24 ⟨rfl, hm⟩; refine ⟨_, rfl, ?_⟩
        replace hQ := hQ.md0 hm
        replace hA := hA.md0 hm
        replace hB := hB.md0 hm
        replace hC := hC.md0 hm
        replace MC := MC.step0 hm
        replace M := M.step0 hm
        refine st_nil ⟨rfl, MC, ?_⟩
        refine m_g _ rfl rfl rfl rfl (fun w' hc => r_move rfl) ?_
        refine part_m (t := 53) rfl (fun h53 => ?_) (fun h53 => ?_)
        · skip
          first | (have h53n := of_decide_eq_true h53) | (have h53n := of_decide_eq_false (bnt h53)) | (have h53n := bnt h53) | (have h53n := h53)
          refine m_g _ rfl rfl rfl h53 (fun w' hc => r_loadAll rfl (by exact agg44) (hB_q.md0 hc)) ?_
          refine m_g _ rfl rfl rfl h53 (fun w' hc => r_loadAll rfl (by exact agg44) (hA_q.md0 hc)) ?_
          refine m_e_g rfl rfl rfl h53 rfl ?_
          refine st_call_g rfl rfl rfl h53 fn33 rfl (less_any b a _ (by omega) (by omega)) ?_
          rintro e w25 ⟨rfl, hm⟩; refine ⟨_, rfl, ?_⟩
          replace hQ := hQ.md0 hm
          replace hA := hA.md0 hm
          replace hB := hB.md0 hm
          replace hC := hC.md0 hm
          replace MC := MC.step0 hm
          replace M := M.step0 hm
          refine st_nil ⟨rfl, MC, ?_⟩
          refine m_g _ rfl rfl rfl rfl (fun w' hc => r_pick_t rfl h53 rfl) ?_
          refine m_g _ rfl rfl rfl rfl (fun w' hc => (r_not rfl).castB (show (!Op.bytesLess (whole b) (whole a)) = true from by rw [bl_asym h53n]; rfl)) ?_
          refine m _ (fun w' hc => r_pick_t rfl rfl rfl) ?_
          refine m _ (fun w' hc => r_assign rfl) ?_
          refine m_nil ?_
          refine c_then ?_
          refine c_ret ?_
          exact ret1 trivial rfl rfl ⟨rfl, M⟩
        · skip
          first | (have h53n := of_decide_eq_false h53) | (have h53n := of_decide_eq_true (bnf h53)) | (have h53n := bnf h53) | (have h53n := h53)
          refine m_skip rfl rfl rfl h53 ?_
          refine m_skip rfl rfl rfl h53 ?_
          refine m_skip rfl rfl rfl h53 ?_
          refine m_g _ rfl rfl rfl rfl (fun w' hc => r_pick_f rfl h53 rfl) ?_
          refine m_g _ rfl rfl rfl rfl (fun w' hc => r_not rfl) ?_
          refine m _ (fun w' hc => r_pick_t rfl rfl rfl) ?_
          refine m _ (fun w' hc => r_assign rfl) ?_
          refine m_nil ?_
          refine c_then ?_
          refine c_ret ?_
          exact ret1 trivial rfl rfl ⟨rfl, M⟩
  · skip
    first | (have h23n := of_decide_eq_false h23) | (have h23n := of_decide_eq_true (bnf h23)) | (have h23n := bnf h23) | (have h23n := h23)
    refine st_skip rfl rfl rfl h23 ?_
    refine st_skip rfl rfl rfl h23 ?_
    refine st_skip rfl rfl rfl h23 ?_
    refine st _ (r_pick_f rfl h23 rfl) ?_
    refine st _ (r_move rfl) ?_
    refine st_skip rfl rfl rfl rfl ?_
    refine st_skip rfl rfl rfl rfl ?_
    refine st_skip rfl rfl rfl rfl ?_
    refine st_skip rfl rfl rfl rfl ?_
    refine st _ (r_pick_f rfl rfl rfl) ?_
    refine st_nil ?_
    refine c_then ?_
    refine c_if_f rfl rfl ?_
    refine c_skip ?_
    refine c_then ?_
    refine c_seq ?_
    have hQ_q := hQ
    have hA_q := hA
    have hB_q := hB
    have hC_q := hC
    have M_q := M
    refine c_mix [(0, true), (1, true), (2, true), (3, true), (10, true), (11, true), (12, true), (4, false), (5, true), (6, true), (7, true), (8, false), (9, true), (13, true), (14, true), (15, true), (16, true), (17, true), (18, false), (19, true), (20, true), (21, true), (22, false), (23, true), (24, true), (25, true), (26, true)] (fun w' => Md [] w9 w') mixed (by kernel_rfl) ?_
    intro w26 hm
    have MC := hm
    replace hQ := hQ.md0 hm
    replace hA := hA.md0 hm
    replace hB := hB.md0 hm
    replace hC := hC.md0 hm
    replace M := M.step0 hm
    refine ⟨MC, ?_⟩
    refine m _ (fun w' hc => r_move rfl) ?_
    refine m _ (fun w' hc => r_move rfl) ?_
    refine m_g _ rfl rfl rfl rfl (fun w' hc => r_loadAll rfl (by exact agg44) (hA_q.md0 hc)) ?_
    refine m_g _ rfl rfl rfl rfl (fun w' hc => r_loadAll rfl (by exact agg44) (hB_q.md0 hc)) ?_
    refine m_g _ rfl rfl rfl rfl (fun w' hc => r_loadAll rfl (by exact agg44) (hA_q.md0 hc)) ?_
    refine m_g _ rfl rfl rfl rfl (fun w' hc => r_loadAll rfl (by exact agg44) (hB_q.md0 hc)) ?_
    refine m_g _ rfl rfl rfl rfl (fun w' hc => r_neqP (p := a) (q := b) pair44 u9 rfl rfl) ?_
    refine m_e_g rfl rfl rfl rfl rfl ?_
    refine st_call_g rfl rfl rfl rfl fn33 rfl (less_any a b _ (by omega) (by omega)) ?_
    rintro e w27 ⟨rfl, hm⟩; refine ⟨_, rfl, ?_⟩
    replace hQ := hQ.md0 hm
    replace hA := hA.md0 hm
    replace hB := hB.md0 hm
    replace hC := hC.md0 hm
    replace MC := MC.step0 hm
    replace M := M.step0 hm
    refine st_nil ⟨rfl, MC, ?_⟩
    refine m_g _ rfl rfl rfl rfl (fun w' hc => r_move rfl) ?_
    refine part_m (t := 39) rfl (fun h39 => ?_) (fun h39 => ?_)
    · skip
      first | (have h39n := of_decide_eq_true h39) | (have h39n := of_decide_eq_false (bnt h39)) | (have h39n := bnt h39) | (have h39n := h39)
      refine m_skip rfl rfl rfl h39 ?_
      refine m_skip rfl rfl rfl h39 ?_
      refine m_skip rfl rfl rfl h39 ?_
      refine m_g _ rfl rfl rfl rfl (fun w' hc => r_pick_t rfl h39 rfl) ?_
      refine m_g _ rfl rfl rfl rfl (fun w' hc => (r_eqBool u4 rfl rfl).castB (tri_T h39n)) ?_
      refine m _ (fun w' hc => r_pick_t rfl rfl rfl) ?_
      refine m _ (fun w' hc => r_move rfl) ?_
      refine m_g _ rfl rfl rfl rfl (fun w' hc => r_loadAll rfl (by exact agg44) (hA_q.md0 hc)) ?_
      refine m_g _ rfl rfl rfl rfl (fun w' hc => r_loadAll rfl (by exact agg44) (hB_q.md0 hc)) ?_
      refine m_e_g rfl rfl rfl rfl rfl ?_
      refine st_call_g rfl rfl rfl rfl fn33 rfl (less_any a b _ (by omega) (by omega)) ?_
      rintro e w28 ⟨rfl, hm⟩; refine ⟨_, rfl, ?_⟩
      replace hQ := hQ.md0 hm
      replace hA := hA.md0 hm
      replace hB := hB.md0 hm
      replace hC := hC.md0 hm
      replace MC := MC.step0 hm
      replace M := M.step0 hm
      refine st_nil ⟨rfl, MC, ?_⟩
      refine m_g _ rfl rfl rfl rfl (fun w' hc => r_move rfl) ?_
      refine part_m (t := 53) rfl (fun h53 => ?_) (fun h53 => ?_)
      · skip
        first | (have h53n := of_decide_eq_true h53) | (have h53n := of_decide_eq_false (bnt h53)) | (have h53n := bnt h53) | (have h53n := h53)
        refine m_g _ rfl rfl rfl h53 (fun w' hc => r_loadAll rfl (by exact agg44) (hB_q.md0 hc)) ?_
        refine m_g _ rfl rfl rfl h53 (fun w' hc => r_loadAll rfl (by exact agg44) (hA_q.md0 hc)) ?_
        refine m_e_g rfl rfl rfl h53 rfl ?_
        refine st_call_g rfl rfl rfl h53 fn33 rfl (less_any b a _ (by omega) (by omega)) ?_
        rintro e w29 ⟨rfl, hm⟩; refine ⟨_, rfl, ?_⟩
        replace hQ := hQ.md0 hm
        replace hA := hA.md0 hm
        replace hB := hB.md0 hm
        replace hC := hC.md0 hm
        replace MC := MC.step0 hm
        replace M := M.step0 hm
        refine st_nil ⟨rfl, MC, ?_⟩
        refine m_g _ rfl rfl rfl rfl (fun w' hc => r_pick_t rfl h53 rfl) ?_
        refine m_g _ rfl rfl rfl rfl (fun w' hc => (r_not rfl).castB (show (!Op.bytesLess (whole b) (whole a)) = true from by rw [bl_asym h53n]; rfl)) ?_
        refine m _ (fun w' hc => r_pick_t rfl rfl rfl) ?_
        refine m _ (fun w' hc => r_assign rfl) ?_
        refine m_nil ?_
        refine c_then ?_
        refine c_ret ?_
        exact ret1 trivial rfl rfl ⟨rfl, M⟩
      · skip
        first | (have h53n := of_decide_eq_false h53) | (have h53n := of_decide_eq_true (bnf h53)) | (have h53n := bnf h53) | (have h53n := h53)
        refine m_skip rfl rfl rfl h53 ?_
        refine m_skip rfl rfl rfl h53 ?_
        refine m_skip rfl rfl rfl h53 ?_
        refine m_g _ rfl rfl rfl rfl (fun w' hc => r_pick_f rfl h53 rfl) ?_
        refine m_g _ rfl rfl rfl rfl (fun w' hc => r_not rfl) ?_
        refine m _ (fun w' hc => r_pick_t rfl rfl rfl) ?_
        refine m _ (fun w' hc => r_assign rfl) ?_
        refine m_nil ?_
        refine c_then ?_
        refine c_ret ?_
        exact ret1 trivial rfl rfl ⟨rfl, M⟩
    · skip
      first | (have h39n := of_decide_eq_false h39) | (have h39n := of_decide_eq_true (bnf h39)) | (have h39n := bnf h39) | (have h39n := h39)
      refine m_g _ rfl rfl rfl h39 (fun w' hc => r_loadAll rfl (by exact agg44) (hB_q.md0 hc)) ?_
      refine m_g _ rfl rfl rfl h39 (fun w' hc => r_loadAll rfl (by exact agg44) (hA_q.md0 hc)) ?_
      refine m_e_g rfl rfl rfl h39 rfl ?_
      refine st_call_g rfl rfl rfl h39 fn33 rfl (less_any b a _ (by omega) (by omega)) ?_
      rintro e w30 ⟨rfl, hm⟩; refine ⟨_, rfl, ?_⟩
      replace hQ := hQ.md0 hm
      replace hA := hA.md0 hm
      replace hB := hB.md0 hm
      replace hC := hC.md0 hm
      replace MC := MC.step0 hm
      replace M := M.step0 hm
      refine st_nil ⟨rfl, MC, ?_⟩
      refine m_g _ rfl rfl rfl rfl (fun w' hc => r_pick_f rfl h39 rfl) ?_
      refine m_g _ rfl rfl rfl rfl (fun w' hc => (r_eqBool u4 rfl rfl).castB (tri_F ra rb h39n)) ?_
      refine m _ (fun w' hc => r_pick_t rfl rfl rfl) ?_
      refine m _ (fun w' hc => r_move rfl) ?_
      refine m_g _ rfl rfl rfl rfl (fun w' hc => r_loadAll rfl (by exact agg44) (hA_q.md0 hc)) ?_
      refine m_g _ rfl rfl rfl rfl (fun w' hc => r_loadAll rfl (by exact agg44) (hB_q.md0 hc)) ?_
      refine m_e_g rfl rfl rfl rfl rfl ?_
      refine st_call_g rfl rfl rfl rfl fn33 rfl (less_any a b _ (by omega) (by omega)) ?_
      rintro e w31 ⟨rfl, hm⟩; refine ⟨_, rfl, ?_⟩
      replace hQ := hQ.md0 hm
      replace hA := hA.md0 hm
      replace hB := hB.md0 hm
      replace hC := hC.md0 hm
      replace MC := MC.step0 hm
      replace M := M.step0 hm
      refine st_nil ⟨rfl, MC, ?_⟩
      refine m_g _ rfl rfl rfl rfl (fun w' hc => r_move rfl) ?_
      refine part_m (t := 53) rfl (fun h53 => ?_) (fun h53 => ?_)
      · skip
        first | (have h53n := of_decide_eq_true h53) | (have h53n := of_decide_eq_false (bnt h53)) | (have h53n := bnt h53) | (have h53n := h53)
        refine m_g _ rfl rfl rfl h53 (fun w' hc => r_loadAll rfl (by exact agg44) (hB_q.md0 hc)) ?_
        refine m_g _ rfl rfl rfl h53 (fun w' hc => r_loadAll rfl (by exact agg44) (hA_q.md0 hc)) ?_
        refine m_e_g rfl rfl rfl h53 rfl ?_
        refine st_call_g rfl rfl rfl h53 fn33 rfl (less_any b a _ (by omega) (by omega)) ?_
        rintro e w32 ⟨rfl, hm⟩; refine ⟨_, rfl, ?_⟩
        replace hQ := hQ.md0 hm
        replace hA := hA.md0 hm
        replace hB := hB.md0 hm
        replace hC := hC.md0 hm
        replace MC := MC.step0 hm
        replace M := M.step0 hm
        refine st_nil ⟨rfl, MC, ?_⟩
        refine m_g _ rfl rfl rfl rfl (fun w' hc => r_pick_t rfl h53 rfl) ?_
        refine m_g _ rfl rfl rfl rfl (fun w' hc => (r_not rfl).castB (show (!Op.bytesLess (whole b) (whole a)) = true from by rw [bl_asym h53n]; rfl)) ?_
        refine m _ (fun w' hc => r_pick_t rfl rfl rfl) ?_
        refine m _ (fun w' hc => r_assign rfl) ?_
        refine m_nil ?_
        refine c_then ?_
        refine c_ret ?_
        exact ret1 trivial rfl rfl ⟨rfl, M⟩
      · skip
        first | (have h53n := of_decide_eq_false h53) | (have h53n := of_decide_eq_true (bnf h53)) | (have h53n := bnf h53) | (have h53n := h53)
        refine m_skip rfl rfl rfl h53 ?_
        refine m_skip rfl rfl rfl h53 ?_
        refine m_skip rfl rfl rfl h53 ?_
        refine m_g _ rfl rfl rfl rfl (fun w' hc => r_pick_f rfl h53 rfl) ?_
        refine m_g _ rfl rfl rfl rfl (fun w' hc => r_not rfl) ?_
        refine m _ (fun w' hc => r_pick_t rfl rfl rfl) ?_
        refine m _ (fun w' hc => r_assign rfl) ?_
        refine m_nil ?_
        refine c_then ?_
        refine c_ret ?_
        exact ret1 trivial rfl rfl ⟨rfl, M⟩
end Go.Proofs.Ytimakajeggeebaa
