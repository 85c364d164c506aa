/- Walks of functions: what each call returns. -/
import Derived.Test.YtimakajeggeebaaRows
import Derived.Test.YtimakajeggeebaaDraws
import Derived.Test.YtimakajeggeebaaWHash3
import Derived.Test.YtimakajeggeebaaFieldP
import Derived.Test.YtimakajeggeebaaFieldQ
import Derived.Test.YtimakajeggeebaaWField
import Derived.Test.YtimakajeggeebaaWField2
import Derived.Test.YtimakajeggeebaaWField3
namespace Go.Proofs.Ytimakajeggeebaa
open Go Go.Wk Go.RowKit
attribute [local irreducible] wpList wpQuiet wpStill wpMix Code.wp Calls bodyPost
theorem el3 : elemIs Try.prog 3 1 = true := by kernel_rfl
theorem el9 : elemIs Try.prog 9 1 = true := by kernel_rfl
theorem elT9 : elT Try.prog 9 1 16 = true := by kernel_rfl
theorem fn64 : isFn Try.prog 64 = true := by kernel_rfl
theorem fn65 : isFn Try.prog 65 = true := by kernel_rfl
theorem fn66 : isFn Try.prog 66 = true := by kernel_rfl
theorem off54_0 : fieldOff Try.prog 54 0 = some 0 := by kernel_rfl
theorem off54_1 : fieldOff Try.prog 54 1 = some 1 := by kernel_rfl
theorem one40 : isOne Try.prog 40 = true := by kernel_rfl
theorem u40 : Try.prog.underlying 40 = some (.slice 3) := by kernel_rfl
theorem u67 : Try.prog.underlying 67 = some (.slice 9) := by kernel_rfl

theorem number_lt (a b : Int) (h : 0 < b) : ((numberN a b : Nat) : Int) < b := by
  have h1 := number_bd a b h; unfold numberN; rw [Int.toNat_of_nonneg h1.1]; exact h1.2.1
theorem getI {ls : List Int} {i : Nat} (h : i < ls.length) : (ls.map (Value.int .i64))[((i : Nat) : Int).toNat]? = some (.int .i64 (ls.getD i 0)) := by simp [List.getD, h]

theorem seqN_any (b : Nat) (v : Value) (ls : List Int) (at' : Nat) (below : Int) (w : World) (hB : Blk w b [v, .int .i64 at'] 54) (hS : Sl w v (ls.map (Value.int .i64))) (hA : Apart v (ls.map (Value.int .i64)) [b]) (hb : 0 < below) (hb2 : below ≤ 1099511627776) :
    Calls Try.prog 65 #[.pointer (some ⟨b, 0, none⟩), .int .i64 below] w fun e w' => ∃ r at2 : Nat, e = .returned (.int .i64 r) ∧ (r : Int) < below ∧ (at2 ≤ ls.length ∨ at2 = at') ∧ Md [b] w w' ∧ Blk w' b [v, .int .i64 at2] 54 := by
  have hlen := hS.len63
  have hll : (ls.map (Value.int .i64)).length = ls.length := by simp
  have M := Md.refl [b] w
  refine enter (n := 35) Try.func65 rfl rfl rfl ?_
  intro B
  refine c_seq ?_
  refine c_region ?_
  refine st _ (r_assign rfl) ?_
  refine st_nil ?_
  refine c_then ?_
  refine c_seq ?_
  refine c_seq ?_
  have hB_q := hB
  have M_q := M
  refine c_mix [(0, true), (1, true), (2, true), (3, true), (4, true), (5, true), (6, true), (7, true), (8, true), (9, true)] (fun w' => Md [] w w') mixed (by kernel_rfl) ?_
  intro w1 hm
  have MC := hm
  replace hB := hB.md0 hm
  replace M := M.step0 hm
  refine ⟨MC, ?_⟩
  refine m _ (fun w' hc => r_move rfl) ?_
  refine m _ (fun w' hc => r_nil rfl) ?_
  refine m _ (fun w' hc => r_field rfl off54_1) ?_
  refine m _ (fun w' hc => r_loadBlk rfl one3 (hB_q.md0 hc) rfl) ?_
  refine m _ (fun w' hc => r_move rfl) ?_
  refine m _ (fun w' hc => r_nil rfl) ?_
  refine m _ (fun w' hc => r_field rfl off54_0) ?_
  refine m _ (fun w' hc => r_loadBlk rfl one40 (hB_q.md0 hc) rfl) ?_
  refine m _ (fun w' hc => r_len rfl u40 hS.shp) ?_
  refine m _ (fun w' hc => r_ge rfl rfl) ?_
  refine m_nil ?_
  refine c_then ?_
  refine c_if rfl (fun h14 => ?_) (fun h14 => ?_)
  · skip
    first | (have h14n := of_decide_eq_true h14) | (have h14n := of_decide_eq_false (bnt h14)) | (have h14n := bnt h14) | (have h14n := h14)
    refine c_seq ?_
    refine c_region ?_
    refine st _ (r_assign rfl) ?_
    refine st_nil ?_
    refine c_then ?_
    refine c_ret ?_
    refine r_then ?_
    exact ret1 trivial rfl rfl ⟨0, at', rfl, by omega, by omega, M, hB⟩
  · skip
    first | (have h14n := of_decide_eq_false h14) | (have h14n := of_decide_eq_true (bnf h14)) | (have h14n := bnf h14) | (have h14n := h14)
    refine c_skip ?_
    refine c_then ?_
    refine c_seq ?_
    refine c_region ?_
    refine st _ (r_move rfl) ?_
    refine st _ (r_nil rfl) ?_
    refine st _ (r_field rfl off54_1) ?_
    refine st _ (r_loadBlk rfl one3 hB rfl) ?_
    refine st _ ((r_addI rfl rfl (by omega)).castI (show _ = ((at' + 1 : Nat) : Int) from by simp)) ?_
    refine st _ (r_nil rfl) ?_
    refine st _ (r_field rfl off54_1) ?_
    refine st_store rfl rfl one3 rfl hB (Nat.le_of_ble_eq_true rfl) ?_
    have hB0 := hB
    clear hB
    intro w2 hm hB
    replace M := M.step1' hm (by simp)
    refine st_nil ?_
    refine c_then ?_
    refine c_seq ?_
    have hB_q := hB
    have M_q := M
    refine c_mix [(0, true), (1, true), (2, true), (3, true), (4, true), (5, true), (6, true), (7, true), (8, true), (9, true), (10, true), (11, true), (12, false), (13, true)] (fun w' => Md [] w2 w') mixed (by kernel_rfl) ?_
    intro w3 hm
    have MC := hm
    replace hB := hB.md0 hm
    replace M := M.step0 hm
    refine ⟨MC, ?_⟩
    refine m _ (fun w' hc => r_move rfl) ?_
    refine m _ (fun w' hc => r_nil rfl) ?_
    refine m _ (fun w' hc => r_field rfl off54_0) ?_
    refine m _ (fun w' hc => r_loadBlk rfl one40 (hB_q.md0 hc) rfl) ?_
    refine m _ (fun w' hc => r_move rfl) ?_
    refine m _ (fun w' hc => r_nil rfl) ?_
    refine m _ (fun w' hc => r_field rfl off54_1) ?_
    refine m _ (fun w' hc => r_loadBlk rfl one3 (hB_q.md0 hc) rfl) ?_
    refine m _ (fun w' hc => (r_subI rfl rfl (by omega)).castI (show _ = (at' : Int) from by simp)) ?_
    refine m _ (fun w' hc => r_index rfl rfl u40 el3 hS.shp (by omega)) ?_
    refine m (.int .i64 (ls.getD at' 0)) (fun w' hc => r_loadEl rfl one3 (hS.md (M_q.step0 hc) hA) (getI (by omega))) ?_
    refine m _ (fun w' hc => r_move rfl) ?_
    refine m_e ?_ rfl
    refine st_call fn14 rfl (number_any (ls.getD at' 0) below _ hb hb2) ?_
    rintro e _ ⟨rfl, rfl⟩; refine ⟨_, rfl, ?_⟩
    refine st_nil ⟨rfl, MC, ?_⟩
    refine m _ (fun w' hc => r_assign rfl) ?_
    refine m_nil ?_
    refine c_then ?_
    refine c_ret ?_
    exact ret1 trivial rfl rfl ⟨numberN (ls.getD at' 0) below, at' + 1, rfl, number_lt _ _ hb, by omega, M, hB⟩
def namesL : List (List UInt8) := [[65], [66], [77, 69, 83, 83, 65, 71, 69], [95, 80, 73, 68], [88, 95, 49], [80, 82, 73, 79, 82, 73, 84, 89]]
theorem names_any (w : World) : Calls Try.prog 64 #[] w fun e w' => ∃ b, e = .returned (.slice (some ⟨b, 0, none⟩) 6 6) ∧ w.heap.size ≤ b ∧ Md [] w w' ∧ Blk w' b (namesL.map str) 9 := by
  have M := Md.refl [] w
  refine enter (n := 2) Try.func64 rfl rfl rfl ?_
  intro B
  refine c_seq ?_
  refine c_region ?_
  refine st _ (r_assign rfl) ?_
  refine st_nil ?_
  refine c_then ?_
  refine c_seq ?_
  refine c_region ?_
  refine st_buildSlice u67 elT9 (by decide) rfl rfl rfl ⟨rfl, rfl, rfl, rfl, rfl, rfl, trivial⟩ (by decide) ?_
  intro bT w1 gT lT hm hT
  replace gT := Nat.le_trans M.size gT
  replace M := M.step0 hm
  refine st _ (r_assign rfl) ?_
  refine st_nil ?_
  refine c_then ?_
  refine c_ret ?_
  exact ret1 trivial rfl rfl ⟨bT, rfl, gT, M, hT⟩
def valuesL : List (List UInt8) := [[], [48], [49], [50, 50], [97, 61, 98], [111, 110, 101, 10, 116, 119, 111], [0, 255], [116, 97, 98, 9, 104, 101, 114, 101], [108, 111, 110, 103, 32, 108, 111, 110, 103, 32, 108, 111, 110, 103, 32, 108, 111, 110, 103, 32, 108, 111, 110, 103, 32, 108, 111, 110, 103, 32, 108, 111, 110, 103], [126, 127, 128]]
theorem values_any (w : World) : Calls Try.prog 66 #[] w fun e w' => ∃ b, e = .returned (.slice (some ⟨b, 0, none⟩) 10 10) ∧ w.heap.size ≤ b ∧ Md [] w w' ∧ Blk w' b (valuesL.map str) 9 := by
  have M := Md.refl [] w
  refine enter (n := 2) Try.func66 rfl rfl rfl ?_
  intro B
  refine c_seq ?_
  refine c_region ?_
  refine st _ (r_assign rfl) ?_
  refine st_nil ?_
  refine c_then ?_
  refine c_seq ?_
  refine c_region ?_
  refine st_buildSlice u67 elT9 (by decide) rfl rfl rfl ⟨rfl, rfl, rfl, rfl, rfl, rfl, rfl, rfl, rfl, rfl, trivial⟩ (by decide) ?_
  intro bT w1 gT lT hm hT
  replace gT := Nat.le_trans M.size gT
  replace M := M.step0 hm
  refine st _ (r_assign rfl) ?_
  refine st_nil ?_
  refine c_then ?_
  refine c_ret ?_
  exact ret1 trivial rfl rfl ⟨bT, rfl, gT, M, hT⟩
theorem right_tab : ∀ r, r < 6 → ∀ s, s < 10 → right (namesL.getD r [], valuesL.getD s []) = true := by decide

theorem pair_any (b : Nat) (v : Value) (ls : List Int) (at' : Nat) (w : World) (hB : Blk w b [v, .int .i64 at'] 54) (hS : Sl w v (ls.map (Value.int .i64))) (hA : Apart v (ls.map (Value.int .i64)) [b]) :
    Calls Try.prog 32 #[.pointer (some ⟨b, 0, none⟩)] w fun e w' => ∃ (p : PairB) (at2 : Nat), e = .returned (pairv p) ∧ right p = true ∧ Md [b] w w' ∧ Blk w' b [v, .int .i64 at2] 54 := by
  have M := Md.refl [b] w
  refine enter (n := 14) Try.func32 rfl rfl rfl ?_
  intro B
  refine c_seq ?_
  refine c_region ?_
  refine st_alloc z44 ?_
  intro bR w1 gR lR hm hR
  have nhBR : b ≠ bR := by have := hB.lt; omega
  replace gR := Nat.le_trans M.size gR
  replace hB := hB.md0 hm
  replace M := M.step0 hm
  refine st_nil ?_
  refine c_then ?_
  refine c_seq ?_
  have nR : b ≠ bR := by have := hB.lt; omega
  have hB_q := hB
  have hR_q := hR
  refine c_mix [(1, true), (6, true), (0, false), (2, false), (3, true), (4, true), (5, false), (7, false), (8, true), (9, true), (10, true), (11, false)] (fun w' => Md [bR, b] w1 w') mixed (by kernel_rfl) ?_
  intro w2 hm
  have MC : Md [bR, b] _ _ := hm.mono (by simp)
  replace hB := hB.md0 hm
  replace hR := hR.md0 hm
  replace M := M.step0 hm
  refine ⟨MC, ?_⟩
  refine m _ (fun w' hc => r_move rfl) ?_
  refine m _ (fun w' hc => r_move rfl) ?_
  refine m_c ?_ rfl
  refine st_call fn64 rfl (names_any _) ?_
  rintro e wtN ⟨bN, rfl, gN, hm, hN⟩; refine ⟨_, rfl, ?_⟩
  have nRN : bR ≠ bN := by have := hR.lt; omega
  have nBN : b ≠ bN := by have := hB.lt; omega
  replace hR := hR.md0 hm
  replace hB := hB.md0 hm
  replace MC := MC.step0 hm
  replace M := M.step0 hm
  refine st_nil ⟨rfl, MC, _, Md.refl [bR, b] _, fun x hx => MC.trans hx, ?_⟩
  clear MC
  have MC := Md.refl [bR, b] wtN
  have hB_q := hB
  have hR_q := hR
  have hN_q := hN
  refine m_c ?_ rfl
  refine st_call fn65 rfl (seqN_any b v ls _ 6 _ hB (hS.md M hA) hA (by decide) (by decide)) ?_
  rintro e wnr ⟨r, atr, rfl, hr, _, hm, hB2⟩; refine ⟨_, rfl, ?_⟩
  replace hR := hR.md hm (by simp; omega)
  replace hN := hN.md hm (by simp; omega)
  replace MC := MC.step1' hm (by simp)
  replace M := M.step1' hm (by simp)
  replace hB := hB2; clear hB2
  refine st_nil ⟨rfl, MC, _, Md.refl [bR, b] _, fun x hx => MC.trans hx, ?_⟩
  clear MC
  have MC := Md.refl [bR, b] wnr
  have hB_q := hB
  have hR_q := hR
  have hN_q := hN
  refine m _ (fun w' hc => r_index rfl rfl u67 el9 ⟨_, _, rfl, by decide, by decide, fun h => by cases h⟩ (by omega)) ?_
  refine m _ (fun w' hc => r_loadEl rfl one9 (show Sl _ (.slice (some ⟨bN, 0, none⟩) 6 6) _ from Sl.of_blk (hN_q.md hc (by simp; omega)) (by decide)) (tab_at (L := namesL) (r := r) (by show r < 6; omega))) ?_
  refine m_c ?_ rfl
  refine st_call fn66 rfl (values_any _) ?_
  rintro e wtV ⟨bV, rfl, gV, hm, hV⟩; refine ⟨_, rfl, ?_⟩
  have nRV : bR ≠ bV := by have := hR.lt; omega
  have nBV : b ≠ bV := by have := hB.lt; omega
  replace hR := hR.md0 hm
  replace hB := hB.md0 hm
  replace hN := hN.md0 hm
  replace MC := MC.step0 hm
  replace M := M.step0 hm
  refine st_nil ⟨rfl, MC, _, Md.refl [bR, b] _, fun x hx => MC.trans hx, ?_⟩
  clear MC
  have MC := Md.refl [bR, b] wtV
  have hB_q := hB
  have hR_q := hR
  have hN_q := hN
  have hV_q := hV
  refine m_c ?_ rfl
  refine st_call fn65 rfl (seqN_any b v ls _ 10 _ hB (hS.md M hA) hA (by decide) (by decide)) ?_
  rintro e wns ⟨s, ats, rfl, hs, _, hm, hB2⟩; refine ⟨_, rfl, ?_⟩
  replace hR := hR.md hm (by simp; omega)
  replace hN := hN.md hm (by simp; omega)
  replace hV := hV.md hm (by simp; omega)
  replace MC := MC.step1' hm (by simp)
  replace M := M.step1' hm (by simp)
  replace hB := hB2; clear hB2
  refine st_nil ⟨rfl, MC, _, Md.refl [bR, b] _, fun x hx => MC.trans hx, ?_⟩
  clear MC
  have MC := Md.refl [bR, b] wns
  have hB_q := hB
  have hR_q := hR
  have hN_q := hN
  have hV_q := hV
  refine m _ (fun w' hc => r_index rfl rfl u67 el9 ⟨_, _, rfl, by decide, by decide, fun h => by cases h⟩ (by omega)) ?_
  refine m _ (fun w' hc => r_loadEl rfl one9 (show Sl _ (.slice (some ⟨bV, 0, none⟩) 10 10) _ from Sl.of_blk (hV_q.md hc (by simp; omega)) (by decide)) (tab_at (L := valuesL) (r := s) (by show s < 10; omega))) ?_
  refine m (.agg [_, _].toArray) (fun w' hc => r_build (ps := [(0, 0), (1, 1)]) z44 pl44 rfl rfl ⟨rfl, rfl, trivial⟩ rfl rfl rfl) ?_
  refine m_c ?_ rfl
  refine st_storeAll rfl rfl (by exact agg44) (by simp [Value.oneCell', str]) hR (by first | rfl | simp) ?_
  have hR0 := hR
  clear hR
  intro w3 hm hR
  replace hB := hB.md1 hm (by omega)
  replace hN := hN.md1 hm (by omega)
  replace hV := hV.md1 hm (by omega)
  replace MC := MC.step1' hm (by simp)
  replace M := M.step1 hm gR
  refine st_nil ⟨rfl, MC, _, Md.refl [bR, b] _, fun x hx => MC.trans hx, ?_⟩
  clear MC
  have MC := Md.refl [bR, b] w3
  have hB_q := hB
  have hR_q := hR
  have hN_q := hN
  have hV_q := hV
  refine m_nil ?_
  refine c_then ?_
  refine c_ret ?_
  exact retc trivial rfl rfl (by exact agg44) hR ⟨(namesL.getD r [], valuesL.getD s []), _, rfl, right_tab r (by omega) s (by omega), M, hB⟩
end Go.Proofs.Ytimakajeggeebaa
