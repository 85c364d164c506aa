/- Walks of functions: what each call returns. -/
import Derived.Test.YtimakajeggeebaaRows
import Derived.Test.YtimakajeggeebaaDraws
import Derived.Test.YtimakajeggeebaaWHash
import Derived.Test.YtimakajeggeebaaWHash2
namespace Go.Proofs.Ytimakajeggeebaa
open Go Go.Wk Go.RowKit
attribute [local irreducible] wpList wpQuiet wpStill wpMix Code.wp Calls bodyPost
theorem fn14 : isFn Try.prog 14 = true := by kernel_rfl
theorem z5 : zcells Try.prog 5 = some [.int .u8 0] := by kernel_rfl

theorem number_any (a b : Int) (w : World) (hb : 0 < b) (hb2 : b ≤ 1099511627776) : Calls Try.prog 14 #[.int .i64 a, .int .i64 b] w fun e w' => e = .returned (.int .i64 (numberN a b)) ∧ w = w' := by
  have M := Md.refl [] w
  refine enter (n := 14) Try.func14 rfl rfl rfl ?_
  intro B
  refine c_seq ?_
  refine c_region ?_
  refine st _ (r_assign rfl) ?_
  refine st_nil ?_
  refine c_then ?_
  refine c_seq ?_
  refine c_seq ?_
  refine c_region ?_
  refine st _ (r_move rfl) ?_
  refine st _ (r_lt rfl rfl) ?_
  refine st_nil ?_
  refine c_then ?_
  refine c_if rfl (fun h6 => ?_) (fun h6 => ?_)
  · skip
    first | (have h6n := of_decide_eq_true h6) | (have h6n := of_decide_eq_false (bnt h6)) | (have h6n := bnt h6) | (have h6n := h6)
    exfalso; omega
  · skip
    first | (have h6n := of_decide_eq_false h6) | (have h6n := of_decide_eq_true (bnf h6)) | (have h6n := bnf h6) | (have h6n := h6)
    refine c_skip ?_
    refine c_then ?_
    refine c_seq ?_
    refine c_region ?_
    refine st _ (r_move rfl) ?_
    refine st _ (r_move rfl) ?_
    refine st _ (r_rem rfl rfl (by omega)) ?_
    refine st _ (r_move rfl) ?_
    refine st _ (r_addI rfl rfl (by have := number_bd a b hb; omega)) ?_
    refine st _ (r_move rfl) ?_
    refine st _ ((r_rem rfl rfl (by omega)).castI (numberN_eq a b hb)) ?_
    refine st _ (r_assign rfl) ?_
    refine st_nil ?_
    refine c_then ?_
    refine c_ret ?_
    exact ret1 trivial rfl rfl ⟨rfl, rfl⟩
theorem hashLengths_walk (a : Int) (key : List UInt8) (c : UInt8) (w : World) (hk : key.length = 16) :
    Calls Try.prog 3 #[.int .i64 a, .agg (key.map b8).toArray, b8 c] w fun e w' => e = .returned (.bool true) ∧ Md [] w w' := by
  have hlt := numberN_lt a 400 (by decide)
  have M := Md.refl [] w
  refine enter (n := 55) Try.func3 rfl rfl rfl ?_
  intro B
  refine c_seq ?_
  refine c_region ?_
  refine st_box rfl rfl ?_
  intro bK w1 gK lK hm hK
  replace gK := Nat.le_trans M.size gK
  replace M := M.step0 hm
  refine st _ (r_assign rfl) ?_
  refine st_nil ?_
  refine c_then ?_
  refine c_seq ?_
  refine c_region ?_
  refine st_call fn13 rfl (first2_any _) ?_
  rintro e w2 ⟨rfl, hm⟩; refine ⟨_, rfl, ?_⟩
  replace hK := hK.md0 hm
  replace M := M.step0 hm
  refine st _ (r_assign rfl) ?_
  refine st_nil ?_
  refine c_then ?_
  refine c_seq ?_
  refine c_seq ?_
  refine c_region ?_
  refine st _ (r_move rfl) ?_
  refine st _ (r_not rfl) ?_
  refine st_nil ?_
  refine c_then ?_
  refine c_if_f rfl rfl ?_
  refine c_skip ?_
  refine c_then ?_
  refine c_seq ?_
  refine c_region ?_
  refine st _ (r_move rfl) ?_
  refine st_call fn14 rfl (number_any _ 400 _ (by decide) (by decide)) ?_
  rintro e _ ⟨rfl, rfl⟩; refine ⟨_, rfl, ?_⟩
  refine st_makeB u25 elT5 z5 rfl (by omega) ?_
  intro bX w3 gX lX hm hX
  replace gX := Nat.le_trans M.size gX
  replace hK := hK.md0 hm
  replace M := M.step0 hm
  refine st _ (r_assign rfl) ?_
  refine st_nil ?_
  refine c_then ?_
  refine c_seq ?_
  refine c_region ?_
  refine st _ (r_move rfl) ?_
  refine st _ (r_len rfl u25 (By.of_own hX).shp) ?_
  refine st_makeB u25 elT5 z5 rfl (by simp; omega) ?_
  intro bY w4 gY lY hm hY
  have nXY : bX ≠ bY := by have := hX.lt _ rfl; omega
  replace gY := Nat.le_trans M.size gY
  replace hK := hK.md0 hm
  replace hX := hX.md0 hm
  replace M := M.step0 hm
  refine st _ (r_move rfl) ?_
  refine st_buildSlice u25 elT5 (by decide) rfl rfl rfl ⟨rfl, trivial⟩ (by decide) ?_
  intro bS w5 gS lS hm hS
  have nhKS : bK ≠ bS := by have := hK.lt; omega
  replace gS := Nat.le_trans M.size gS
  replace hK := hK.md0 hm
  replace hX := hX.md0 hm
  replace hY := hY.md0 hm
  replace M := M.step0 hm
  refine st_appendB u25 elT5 rfl rfl hY (By.of_blk (l := [c]) hS rfl (by decide)) (by simp; omega) ?_
  intro v2 w6 hC hm _ hbk
  replace hK := hK.mdO hY rfl hm
  replace hX := hX.md hm (by intro b h; simp [vblock] at h ⊢; omega)
  replace M := M.stepO hm (fun b h => .inr (by simp [vblock] at h; omega))
  clear hS hY
  refine st _ (r_assign rfl) ?_
  refine st_nil ?_
  refine c_then ?_
  refine c_seq ?_
  have hK_q := hK
  have hX_q := hX
  have hC_q := hC
  have M_q := M
  refine c_mix [(0, true), (1, true), (2, true), (4, true), (3, false), (5, false), (6, true), (7, true), (8, true), (9, true), (10, true), (12, true), (13, true), (11, false), (14, false), (15, true), (16, true), (17, true), (18, true), (20, true), (19, false), (21, false), (22, true), (23, true), (24, true), (25, true), (26, true), (28, true), (29, true), (27, false), (30, false), (31, true), (32, true), (33, true)] (fun w' => Md [] w6 w') mixed (by kernel_rfl) ?_
  intro w7 hm
  have MC := hm
  replace hK := hK.md0 hm
  replace hX := hX.md0 hm
  replace hC := hC.md0 hm
  replace M := M.step0 hm
  refine ⟨MC, ?_⟩
  refine m _ (fun w' hc => r_move rfl) ?_
  refine m _ (fun w' hc => r_move rfl) ?_
  refine m_g _ rfl rfl rfl rfl (fun w' hc => r_move rfl) ?_
  refine m_g _ rfl rfl rfl rfl (fun w' hc => r_move rfl) ?_
  refine m_e_g rfl rfl rfl rfl rfl ?_
  refine st_call_g rfl rfl rfl rfl fn15 rfl (lookup_any _ _ _ (By.of_own hX)) ?_
  rintro e w8 ⟨rfl, hm⟩; refine ⟨_, rfl, ?_⟩
  replace hK := hK.md0 hm
  replace hX := hX.md0 hm
  replace hC := hC.md0 hm
  replace MC := MC.step0 hm
  replace M := M.step0 hm
  refine st_nil ⟨rfl, MC, ?_⟩
  refine m_e_g rfl rfl rfl rfl rfl ?_
  refine st_call_g rfl rfl rfl rfl fn16 rfl (rlookup_any _ _ _ (By.of_own hX) (by simp; omega)) ?_
  rintro e _ ⟨rfl, rfl⟩; refine ⟨_, rfl, ?_⟩
  refine st_nil ⟨rfl, MC, ?_⟩
  refine m_g _ rfl rfl rfl rfl (fun w' hc => (r_eq rfl rfl).castB (decide_eq_true rfl)) ?_
  refine m _ (fun w' hc => r_pick_t rfl rfl rfl) ?_
  refine m _ (fun w' hc => r_move rfl) ?_
  refine m_g _ rfl rfl rfl rfl (fun w' hc => r_loadAll rfl (by rw [(by simpa using hk : (key.map b8).length = 16)]; exact agg23) (hK_q.md0 hc)) ?_
  refine m_g _ rfl rfl rfl rfl (fun w' hc => r_move rfl) ?_
  refine m_g _ rfl rfl rfl rfl (fun w' hc => r_loadAll rfl (by rw [(by simpa using hk : (key.map b8).length = 16)]; exact agg23) (hK_q.md0 hc)) ?_
  refine m_g _ rfl rfl rfl rfl (fun w' hc => r_move rfl) ?_
  refine m_e_g rfl rfl rfl rfl rfl ?_
  refine st_call_g rfl rfl rfl rfl fn17 rfl (sip_any key _ _ _ hk (By.of_own hX) (by simp; omega)) ?_
  rintro e w9 ⟨rfl, hm⟩; refine ⟨_, rfl, ?_⟩
  replace hK := hK.md0 hm
  replace hX := hX.md0 hm
  replace hC := hC.md0 hm
  replace MC := MC.step0 hm
  replace M := M.step0 hm
  refine st_nil ⟨rfl, MC, ?_⟩
  refine m_e_g rfl rfl rfl rfl rfl ?_
  refine st_call_g rfl rfl rfl rfl fn18 rfl (rsip_any key _ _ _ hk (By.of_own hX) (by simp; omega)) ?_
  rintro e w10 ⟨rfl, hm⟩; refine ⟨_, rfl, ?_⟩
  replace hK := hK.md0 hm
  replace hX := hX.md0 hm
  replace hC := hC.md0 hm
  replace MC := MC.step0 hm
  replace M := M.step0 hm
  refine st_nil ⟨rfl, MC, ?_⟩
  refine m_g _ rfl rfl rfl rfl (fun w' hc => (r_eq rfl rfl).castB (decide_eq_true rfl)) ?_
  refine m _ (fun w' hc => r_pick_t rfl rfl rfl) ?_
  refine m _ (fun w' hc => r_move rfl) ?_
  refine m_g _ rfl rfl rfl rfl (fun w' hc => r_move rfl) ?_
  refine m_g _ rfl rfl rfl rfl (fun w' hc => r_move rfl) ?_
  refine m_e_g rfl rfl rfl rfl rfl ?_
  refine st_call_g rfl rfl rfl rfl fn15 rfl (lookup_any _ _ _ (By.of_own hC)) ?_
  rintro e w11 ⟨rfl, hm⟩; refine ⟨_, rfl, ?_⟩
  replace hK := hK.md0 hm
  replace hX := hX.md0 hm
  replace hC := hC.md0 hm
  replace MC := MC.step0 hm
  replace M := M.step0 hm
  refine st_nil ⟨rfl, MC, ?_⟩
  refine m_e_g rfl rfl rfl rfl rfl ?_
  refine st_call_g rfl rfl rfl rfl fn16 rfl (rlookup_any _ _ _ (By.of_own hC) (by simp; omega)) ?_
  rintro e _ ⟨rfl, rfl⟩; refine ⟨_, rfl, ?_⟩
  refine st_nil ⟨rfl, MC, ?_⟩
  refine m_g _ rfl rfl rfl rfl (fun w' hc => (r_eq rfl rfl).castB (decide_eq_true rfl)) ?_
  refine m _ (fun w' hc => r_pick_t rfl rfl rfl) ?_
  refine m _ (fun w' hc => r_move rfl) ?_
  refine m_g _ rfl rfl rfl rfl (fun w' hc => r_loadAll rfl (by rw [(by simpa using hk : (key.map b8).length = 16)]; exact agg23) (hK_q.md0 hc)) ?_
  refine m_g _ rfl rfl rfl rfl (fun w' hc => r_move rfl) ?_
  refine m_g _ rfl rfl rfl rfl (fun w' hc => r_loadAll rfl (by rw [(by simpa using hk : (key.map b8).length = 16)]; exact agg23) (hK_q.md0 hc)) ?_
  refine m_g _ rfl rfl rfl rfl (fun w' hc => r_move rfl) ?_
  refine m_e_g rfl rfl rfl rfl rfl ?_
  refine st_call_g rfl rfl rfl rfl fn17 rfl (sip_any key _ _ _ hk (By.of_own hC) (by simp; omega)) ?_
  rintro e w12 ⟨rfl, hm⟩; refine ⟨_, rfl, ?_⟩
  replace hK := hK.md0 hm
  replace hX := hX.md0 hm
  replace hC := hC.md0 hm
  replace MC := MC.step0 hm
  replace M := M.step0 hm
  refine st_nil ⟨rfl, MC, ?_⟩
  refine m_e_g rfl rfl rfl rfl rfl ?_
  refine st_call_g rfl rfl rfl rfl fn18 rfl (rsip_any key _ _ _ hk (By.of_own hC) (by simp; omega)) ?_
  rintro e w13 ⟨rfl, hm⟩; refine ⟨_, rfl, ?_⟩
  replace hK := hK.md0 hm
  replace hX := hX.md0 hm
  replace hC := hC.md0 hm
  replace MC := MC.step0 hm
  replace M := M.step0 hm
  refine st_nil ⟨rfl, MC, ?_⟩
  refine m_g _ rfl rfl rfl rfl (fun w' hc => (r_eq rfl rfl).castB (decide_eq_true rfl)) ?_
  refine m _ (fun w' hc => r_pick_t rfl rfl rfl) ?_
  refine m _ (fun w' hc => r_assign rfl) ?_
  refine m_nil ?_
  refine c_then ?_
  refine c_ret ?_
  exact ret1 trivial rfl rfl ⟨rfl, M⟩
end Go.Proofs.Ytimakajeggeebaa
