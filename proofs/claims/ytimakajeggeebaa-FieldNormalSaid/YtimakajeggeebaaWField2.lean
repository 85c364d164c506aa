/- Walks of functions: what each call returns. -/
import Derived.Test.YtimakajeggeebaaRows
import Derived.Test.YtimakajeggeebaaDraws
import Derived.Test.YtimakajeggeebaaFieldP
import Derived.Test.YtimakajeggeebaaWField
namespace Go.Proofs.Ytimakajeggeebaa
open Go Go.Wk Go.RowKit
attribute [local irreducible] wpList wpQuiet wpStill wpMix Code.wp Calls bodyPost
theorem fn27 : isFn Try.prog 27 = true := by kernel_rfl
theorem fn28 : isFn Try.prog 28 = true := by kernel_rfl
theorem fn29 : isFn Try.prog 29 = true := by kernel_rfl
theorem fn30 : isFn Try.prog 30 = true := by kernel_rfl
theorem fn31 : isFn Try.prog 31 = true := by kernel_rfl
theorem pair44 : pairT Try.prog 44 9 = true := by kernel_rfl
theorem u4 : Try.prog.underlying 4 = some (.bool) := by kernel_rfl

theorem split_a (v : Value) (w : World) (hB : By w v [65, 61, 98, 61, 99]) : Calls Try.prog 30 #[v] w fun e w' => e = .returned (.tuple #[pairv ([65], [98, 61, 99]), .int .i64 0]) ∧ Md [] w w' := by
  have h := split_any v _ w hB
  rwa [show splitP [65, 61, 98, 61, 99] = ([65], [98, 61, 99]) from by decide, show splitC [65, 61, 98, 61, 99] = 0 from by decide] at h
theorem split_b (v : Value) (w : World) (hB : By w v [97, 61, 98]) : Calls Try.prog 30 #[v] w fun e w' => e = .returned (.tuple #[pairv ([], []), .int .i64 20]) ∧ Md [] w w' := by
  have h := split_any v _ w hB
  rwa [show splitP [97, 61, 98] = ([], []) from by decide, show splitC [97, 61, 98] = 20 from by decide] at h

theorem first4_any (w : World) : Calls Try.prog 27 #[] w fun e w' => e = .returned (.bool true) ∧ Md [] w w' := by
  have M := Md.refl [] w
  refine enter (n := 28) Try.func27 rfl rfl rfl ?_
  intro B
  refine c_seq ?_
  refine c_region ?_
  refine st _ (r_assign rfl) ?_
  refine st_nil ?_
  refine c_then ?_
  refine c_seq ?_
  refine c_region ?_
  refine st_buildSlice u25 elT5 (by decide) rfl rfl rfl ⟨rfl, rfl, rfl, rfl, rfl, trivial⟩ (by decide) ?_
  intro bA w1 gA lA hm hA
  replace gA := Nat.le_trans M.size gA
  replace M := M.step0 hm
  refine st_mark u25 u5 rfl (show Blk _ _ (([65, 61, 98, 61, 99] : List UInt8).map b8) _ from hA) (By.of_blk (show Blk _ _ (([65, 61, 98, 61, 99] : List UInt8).map b8) _ from hA) rfl (by decide)) ?_
  intro w2 hm hAy
  clear hA
  replace M := M.step1 hm gA
  refine st_call fn30 rfl (split_a _ _ hAy) ?_
  rintro e w3 ⟨rfl, hm⟩; refine ⟨_, rfl, ?_⟩
  replace hAy := hAy.md0 hm
  replace M := M.step0 hm
  refine st _ (r_move rfl) ?_
  refine st _ (r_extract rfl rfl) ?_
  refine st _ (r_extract rfl rfl) ?_
  refine st_alloc z44 ?_
  intro bP w4 gP lP hm hP
  replace gP := Nat.le_trans M.size gP
  replace hAy := hAy.md0 hm
  replace M := M.step0 hm
  refine st_storeAll rfl rfl (by exact agg44) (by simp [pairv, str, Value.oneCell']) hP (by first | rfl | simp) ?_
  have hP0 := hP
  clear hP
  intro w5 hm hP
  clear hAy
  replace M := M.step1 hm gP
  refine st _ (r_assign rfl) ?_
  refine st_nil ?_
  refine c_then ?_
  refine c_seq ?_
  refine c_region ?_
  refine st_buildSlice u25 elT5 (by decide) rfl rfl rfl ⟨rfl, rfl, rfl, trivial⟩ (by decide) ?_
  intro bB w6 gB lB hm hB
  have nhPB : bP ≠ bB := by have := hP.lt; omega
  replace gB := Nat.le_trans M.size gB
  replace hP := hP.md0 hm
  replace M := M.step0 hm
  refine st_mark u25 u5 rfl (show Blk _ _ (([97, 61, 98] : List UInt8).map b8) _ from hB) (By.of_blk (show Blk _ _ (([97, 61, 98] : List UInt8).map b8) _ from hB) rfl (by decide)) ?_
  intro w7 hm hBy
  clear hB
  replace hP := hP.md1 hm (by omega)
  replace M := M.step1 hm gB
  refine st_call fn30 rfl (split_b _ _ hBy) ?_
  rintro e w8 ⟨rfl, hm⟩; refine ⟨_, rfl, ?_⟩
  replace hP := hP.md0 hm
  replace hBy := hBy.md0 hm
  replace M := M.step0 hm
  refine st _ (r_move rfl) ?_
  refine st _ (r_extract rfl rfl) ?_
  refine st _ (r_extract rfl rfl) ?_
  refine st_alloc z44 ?_
  intro bR w9 gR lR hm hR
  have nhPR : bP ≠ bR := by have := hP.lt; omega
  replace gR := Nat.le_trans M.size gR
  replace hP := hP.md0 hm
  replace hBy := hBy.md0 hm
  replace M := M.step0 hm
  refine st_storeAll rfl rfl (by exact agg44) (by simp [pairv, str, Value.oneCell']) hR (by first | rfl | simp) ?_
  have hR0 := hR
  clear hR
  intro w10 hm hR
  clear hBy
  replace hP := hP.md1 hm (by omega)
  replace M := M.step1 hm gR
  refine st _ (r_assign rfl) ?_
  refine st_nil ?_
  refine c_then ?_
  refine c_seq ?_
  refine c_region ?_
  refine st _ (r_move rfl) ?_
  refine st _ ((r_eq rfl rfl).castB (decide_eq_true rfl)) ?_
  refine st _ (r_move rfl) ?_
  refine st_g _ rfl rfl rfl rfl (r_loadAll rfl (by exact agg44) hP) ?_
  refine st_g (.agg [_, _].toArray) rfl rfl rfl rfl (r_build (ps := [(0, 0), (1, 1)]) z44 pl44 rfl rfl ⟨rfl, rfl, trivial⟩ rfl rfl rfl) ?_
  refine st_g _ rfl rfl rfl rfl ((r_eqlP (p := ([65], [98, 61, 99])) (q := ([65], [98, 61, 99])) pair44 u9 rfl rfl).castB (decide_eq_true rfl)) ?_
  refine st _ (r_pick_t rfl rfl rfl) ?_
  refine st _ (r_move rfl) ?_
  refine st_g _ rfl rfl rfl rfl (r_move rfl) ?_
  refine st_g _ rfl rfl rfl rfl ((r_eq rfl rfl).castB (decide_eq_true rfl)) ?_
  refine st _ (r_pick_t rfl rfl rfl) ?_
  refine st _ (r_assign rfl) ?_
  refine st_nil ?_
  refine c_then ?_
  refine c_ret ?_
  exact ret1 trivial rfl rfl ⟨rfl, M⟩
theorem same_any (x y : Value) (a b : List UInt8) (w : World) (hA : By w x a) (hB : By w y b) : Calls Try.prog 31 #[x, y] w fun e w' => e = .returned (.bool (decide (a = b))) ∧ w = w' := by
  have M := Md.refl [] w
  refine enter (n := 10) Try.func31 rfl rfl rfl ?_
  intro B
  refine c_seq ?_
  refine c_region ?_
  refine st _ (r_assign rfl) ?_
  refine st_nil ?_
  refine c_then ?_
  refine c_seq ?_
  refine c_region ?_
  refine st _ (r_move rfl) ?_
  refine st _ (r_convBS u25 u5 u9 rfl hA) ?_
  refine st _ (r_move rfl) ?_
  refine st _ (r_convBS u25 u5 u9 rfl hB) ?_
  refine st _ (r_eqlS rfl rfl) ?_
  refine st _ (r_assign rfl) ?_
  refine st_nil ?_
  refine c_then ?_
  refine c_ret ?_
  exact ret1 trivial rfl rfl ⟨rfl, rfl⟩
theorem same_eq (x y : Value) (a b : List UInt8) (w : World) (hA : By w x a) (hB : By w y b) (h : a = b) : Calls Try.prog 31 #[x, y] w fun e w' => e = .returned (.bool true) ∧ w = w' :=
  (same_any x y a b w hA hB).mono fun e w' ⟨he, hw⟩ => ⟨by rw [he, decide_eq_true h], hw⟩

theorem fieldBack_walk (p : PairB) (v : Value) (l : List UInt8) (w : World) (hB : By w v l) :
    Calls Try.prog 8 #[pairv p, v] w fun e w' => e = .returned (.bool true) ∧ Md [] w w' := by
  have hlen := hB.len63
  have M := Md.refl [] w
  refine enter (n := 82) Try.func8 rfl rfl rfl ?_
  intro B
  refine c_seq ?_
  refine c_region ?_
  refine st_box rfl rfl ?_
  intro bP w1 gP lP hm hP
  replace gP := Nat.le_trans M.size gP
  replace M := M.step0 hm
  refine st _ (r_assign rfl) ?_
  refine st_nil ?_
  refine c_then ?_
  refine c_seq ?_
  refine c_region ?_
  refine st_call fn27 rfl (first4_any _) ?_
  rintro e w2 ⟨rfl, hm⟩; refine ⟨_, rfl, ?_⟩
  replace hP := hP.md0 hm
  replace M := M.step0 hm
  refine st _ (r_assign rfl) ?_
  refine st_nil ?_
  refine c_then ?_
  refine c_seq ?_
  refine c_seq ?_
  refine c_region ?_
  refine st _ (r_move rfl) ?_
  refine st _ (r_not rfl) ?_
  refine st_nil ?_
  refine c_then ?_
  refine c_if_f rfl rfl ?_
  refine c_skip ?_
  refine c_then ?_
  refine c_seq ?_
  refine c_seq ?_
  refine c_region ?_
  refine st _ (r_field rfl off44_0) ?_
  refine st _ (r_loadBlk rfl one9 hP rfl) ?_
  refine st _ (r_lenS rfl u9) ?_
  refine st _ (r_gt rfl rfl) ?_
  refine st _ (r_move rfl) ?_
  refine part_n (t := 21) rfl (fun h21 => ?_) (fun h21 => ?_)
  · skip
    first | (have h21n := of_decide_eq_true h21) | (have h21n := of_decide_eq_false (bnt h21)) | (have h21n := bnt h21) | (have h21n := h21)
    refine st_skip rfl rfl rfl h21 ?_
    refine st_skip rfl rfl rfl h21 ?_
    refine st_skip rfl rfl rfl h21 ?_
    refine st_skip rfl rfl rfl h21 ?_
    refine st _ (r_pick_t rfl h21 rfl) ?_
    refine st _ (r_move rfl) ?_
    refine st_skip rfl rfl rfl rfl ?_
    refine st_skip rfl rfl rfl rfl ?_
    refine st_skip rfl rfl rfl rfl ?_
    refine st _ (r_pick_t rfl rfl rfl) ?_
    refine st_nil ?_
    refine c_then ?_
    refine c_if_t rfl rfl ?_
    refine c_seq ?_
    refine c_region ?_
    refine st _ (r_move rfl) ?_
    refine st _ (r_assign rfl) ?_
    refine st_nil ?_
    refine c_then ?_
    refine c_ret ?_
    refine r_then ?_
    exact ret1 trivial rfl rfl ⟨rfl, M⟩
  · skip
    first | (have h21n := of_decide_eq_false h21) | (have h21n := of_decide_eq_true (bnf h21)) | (have h21n := bnf h21) | (have h21n := h21)
    refine st_g _ rfl rfl rfl h21 (r_field rfl off44_1) ?_
    refine st_g _ rfl rfl rfl h21 (r_loadBlk rfl one9 hP rfl) ?_
    refine st_g _ rfl rfl rfl h21 (r_lenS rfl u9) ?_
    refine st_g _ rfl rfl rfl h21 (r_gt rfl rfl) ?_
    refine st _ (r_pick_f rfl h21 rfl) ?_
    refine st _ (r_move rfl) ?_
    refine part_n (t := 27) rfl (fun h27 => ?_) (fun h27 => ?_)
    · skip
      first | (have h27n := of_decide_eq_true h27) | (have h27n := of_decide_eq_false (bnt h27)) | (have h27n := bnt h27) | (have h27n := h27)
      refine st_skip rfl rfl rfl h27 ?_
      refine st_skip rfl rfl rfl h27 ?_
      refine st_skip rfl rfl rfl h27 ?_
      refine st _ (r_pick_t rfl h27 rfl) ?_
      refine st_nil ?_
      refine c_then ?_
      refine c_if_t rfl rfl ?_
      refine c_seq ?_
      refine c_region ?_
      refine st _ (r_move rfl) ?_
      refine st _ (r_assign rfl) ?_
      refine st_nil ?_
      refine c_then ?_
      refine c_ret ?_
      refine r_then ?_
      exact ret1 trivial rfl rfl ⟨rfl, M⟩
    · skip
      first | (have h27n := of_decide_eq_false h27) | (have h27n := of_decide_eq_true (bnf h27)) | (have h27n := bnf h27) | (have h27n := h27)
      refine st_g _ rfl rfl rfl h27 (r_move rfl) ?_
      refine st_g _ rfl rfl rfl h27 (r_len rfl u25 hB.shp) ?_
      refine st_g _ rfl rfl rfl h27 (r_gt rfl rfl) ?_
      refine st _ (r_pick_f rfl h27 rfl) ?_
      refine st_nil ?_
      refine c_then ?_
      refine c_if rfl (fun h31 => ?_) (fun h31 => ?_)
      · skip
        first | (have h31n := of_decide_eq_true h31) | (have h31n := of_decide_eq_false (bnt h31)) | (have h31n := bnt h31) | (have h31n := h31)
        refine c_seq ?_
        refine c_region ?_
        refine st _ (r_move rfl) ?_
        refine st _ (r_assign rfl) ?_
        refine st_nil ?_
        refine c_then ?_
        refine c_ret ?_
        refine r_then ?_
        exact ret1 trivial rfl rfl ⟨rfl, M⟩
      · skip
        first | (have h31n := of_decide_eq_false h31) | (have h31n := of_decide_eq_true (bnf h31)) | (have h31n := bnf h31) | (have h31n := h31)
        refine c_skip ?_
        refine c_then ?_
        refine c_seq ?_
        refine c_region ?_
        refine st _ (r_loadAll rfl (by exact agg44) hP) ?_
        refine st_call fn28 rfl (join_any p _) ?_
        rintro e wj3 ⟨vX, rfl, hm, hX, _⟩; refine ⟨_, rfl, ?_⟩
        replace hP := hP.md0 hm
        replace M := M.step0 hm
        refine st _ (r_move rfl) ?_
        refine st _ (r_extract rfl rfl) ?_
        refine st _ (r_extract rfl rfl) ?_
        refine st _ (r_assign rfl) ?_
        refine st _ (r_assign rfl) ?_
        refine st_nil ?_
        refine c_then ?_
        refine c_seq ?_
        refine c_seq ?_
        refine c_region ?_
        refine st _ (r_move rfl) ?_
        refine st _ (r_eq rfl rfl) ?_
        refine st _ (r_loadAll rfl (by exact agg44) hP) ?_
        refine st_call fn29 rfl (right_any p _) ?_
        rintro e w4 ⟨rfl, hm⟩; refine ⟨_, rfl, ?_⟩
        replace hP := hP.md0 hm
        replace hX := hX.md0 hm
        replace M := M.step0 hm
        refine st _ ((r_neBool u4 rfl rfl).castB (join_right p)) ?_
        refine st_nil ?_
        refine c_then ?_
        refine c_if_f rfl rfl ?_
        refine c_skip ?_
        refine c_then ?_
        refine c_seq ?_
        refine c_seq ?_
        refine c_region ?_
        refine st _ (r_move rfl) ?_
        refine st _ (r_eq rfl rfl) ?_
        refine st_nil ?_
        refine c_then ?_
        refine c_if rfl (fun h44 => ?_) (fun h44 => ?_)
        · skip
          first | (have h44n := of_decide_eq_true h44) | (have h44n := of_decide_eq_false (bnt h44)) | (have h44n := bnt h44) | (have h44n := h44)
          have hjb : joinB p = whole p := by unfold joinB; rw [if_pos h44n]
          obtain ⟨hs1, hs2⟩ := split_whole h44n
          rw [← hjb] at hs1 hs2
          refine c_seq ?_
          refine c_region ?_
          refine st _ (r_move rfl) ?_
          refine st_call fn30 rfl (split_any _ _ _ hX) ?_
          rintro e w51 ⟨rfl, hm⟩; rw [hs1, hs2]; refine ⟨_, rfl, ?_⟩
          clear hX
          replace hP := hP.md0 hm
          replace M := M.step0 hm
          refine st _ (r_move rfl) ?_
          refine st _ (r_extract rfl rfl) ?_
          refine st _ (r_extract rfl rfl) ?_
          refine st_alloc z44 ?_
          intro bY w5 gY lY hm hY
          have nhPY : bP ≠ bY := by have := hP.lt; omega
          replace gY := Nat.le_trans M.size gY
          replace hP := hP.md0 hm
          replace M := M.step0 hm
          refine st_storeAll rfl rfl (by exact agg44) (by simp [pairv, str, Value.oneCell']) hY (by first | rfl | simp) ?_
          have hY0 := hY
          clear hY
          intro w6 hm hY
          replace hP := hP.md1 hm (by omega)
          replace M := M.step1 hm gY
          refine st _ (r_assign rfl) ?_
          refine st_nil ?_
          refine c_then ?_
          refine c_seq ?_
          refine c_region ?_
          refine st _ (r_move rfl) ?_
          refine st _ ((r_ne rfl rfl).castB (decide_eq_false (fun h => h rfl))) ?_
          refine st _ (r_move rfl) ?_
          refine st_g _ rfl rfl rfl rfl (r_loadAll rfl (by exact agg44) hY) ?_
          refine st_g _ rfl rfl rfl rfl (r_loadAll rfl (by exact agg44) hP) ?_
          refine st_g _ rfl rfl rfl rfl ((r_neqP (p := p) (q := p) pair44 u9 rfl rfl).castB (show (!decide (p = p)) = false from by simp)) ?_
          refine st _ (r_pick_f rfl rfl rfl) ?_
          refine st_nil ?_
          refine c_then ?_
          refine c_if_f rfl rfl ?_
          refine c_skip ?_
          refine c_then ?_
          refine c_seq ?_
          refine c_region ?_
          refine st _ (r_move rfl) ?_
          refine st_call fn30 rfl (split_any _ _ _ (hB.md0 M)) ?_
          rintro e w7 ⟨rfl, hm⟩; refine ⟨_, rfl, ?_⟩
          replace hP := hP.md0 hm
          replace hY := hY.md0 hm
          replace M := M.step0 hm
          refine st _ (r_move rfl) ?_
          refine st _ (r_extract rfl rfl) ?_
          refine st _ (r_extract rfl rfl) ?_
          refine st_alloc z44 ?_
          intro bZ0 w8 gZ0 lZ0 hm hZ0
          have nhPZ0 : bP ≠ bZ0 := by have := hP.lt; omega
          have nhYZ0 : bY ≠ bZ0 := by have := hY.lt; omega
          replace gZ0 := Nat.le_trans M.size gZ0
          replace hP := hP.md0 hm
          replace hY := hY.md0 hm
          replace M := M.step0 hm
          refine st_storeAll rfl rfl (by exact agg44) (by simp [pairv, str, Value.oneCell']) hZ0 (by first | rfl | simp) ?_
          have hZ00 := hZ0
          clear hZ0
          intro w9 hm hZ0
          replace hP := hP.md1 hm (by omega)
          replace hY := hY.md1 hm (by omega)
          replace M := M.step1 hm gZ0
          refine st _ (r_assign rfl) ?_
          refine st_nil ?_
          refine c_then ?_
          refine c_seq ?_
          refine c_seq ?_
          refine c_region ?_
          refine st _ (r_move rfl) ?_
          refine st _ (r_ne rfl rfl) ?_
          refine st_nil ?_
          refine c_then ?_
          refine c_if rfl (fun h63 => ?_) (fun h63 => ?_)
          · skip
            first | (have h63n := of_decide_eq_true h63) | (have h63n := of_decide_eq_false (bnt h63)) | (have h63n := bnt h63) | (have h63n := h63)
            refine c_seq ?_
            refine c_region ?_
            refine st _ (r_loadAll rfl (by exact agg44) hZ0) ?_
            refine st (.agg [_, _].toArray) (r_build (ps := []) z44 pl44 rfl rfl trivial rfl rfl rfl) ?_
            refine st _ ((r_eqlP (p := splitP l) (q := ([], [])) pair44 u9 rfl rfl).castB (decide_eq_true (split_bad h63n))) ?_
            refine st _ (r_assign rfl) ?_
            refine st_nil ?_
            refine c_then ?_
            refine c_ret ?_
            refine r_then ?_
            exact ret1 trivial rfl rfl ⟨rfl, M⟩
          · skip
            first | (have h63n := of_decide_eq_false h63) | (have h63n := of_decide_eq_true (bnf h63)) | (have h63n := bnf h63) | (have h63n := h63)
            obtain ⟨hj1, hj2⟩ := join_split (s := l) (by omega)
            refine c_skip ?_
            refine c_then ?_
            refine c_seq ?_
            refine c_region ?_
            refine st _ (r_loadAll rfl (by exact agg44) hZ0) ?_
            refine st_call fn28 rfl (join_any (splitP l) _) ?_
            rintro e wj10 ⟨vZ, rfl, hm, hZ, _⟩; refine ⟨_, rfl, ?_⟩
            replace hP := hP.md0 hm
            replace M := M.step0 hm
            replace hZ0 := hZ0.md0 hm
            refine st _ (r_move rfl) ?_
            refine st _ (r_extract rfl rfl) ?_
            refine st _ (r_extract rfl rfl) ?_
            refine st _ (r_assign rfl) ?_
            refine st _ (r_assign rfl) ?_
            refine st_nil ?_
            refine c_then ?_
            refine c_seq ?_
            refine c_region ?_
            refine st _ (r_move rfl) ?_
            refine st _ (r_move rfl) ?_
            refine st_g _ rfl rfl rfl rfl (r_move rfl) ?_
            refine st_g _ rfl rfl rfl rfl ((r_eq rfl rfl).castB (decide_eq_true hj1)) ?_
            refine st _ (r_pick_t rfl rfl rfl) ?_
            refine st _ (r_move rfl) ?_
            refine st_g _ rfl rfl rfl rfl (r_move rfl) ?_
            refine st_g _ rfl rfl rfl rfl (r_move rfl) ?_
            refine st_call_g rfl rfl rfl rfl fn31 rfl (same_eq _ _ _ _ _ hZ (hB.md0 M) hj2) ?_
            rintro e _ ⟨rfl, rfl⟩; refine ⟨_, rfl, ?_⟩
            refine st _ (r_pick_t rfl rfl rfl) ?_
            refine st _ (r_assign rfl) ?_
            refine st_nil ?_
            refine c_then ?_
            refine c_ret ?_
            exact ret1 trivial rfl rfl ⟨rfl, M⟩
        · skip
          first | (have h44n := of_decide_eq_false h44) | (have h44n := of_decide_eq_true (bnf h44)) | (have h44n := bnf h44) | (have h44n := h44)
          refine c_skip ?_
          refine c_then ?_
          refine c_seq ?_
          refine c_region ?_
          refine st _ (r_move rfl) ?_
          refine st_call fn30 rfl (split_any _ _ _ (hB.md0 M)) ?_
          rintro e w11 ⟨rfl, hm⟩; refine ⟨_, rfl, ?_⟩
          replace hP := hP.md0 hm
          replace hX := hX.md0 hm
          replace M := M.step0 hm
          refine st _ (r_move rfl) ?_
          refine st _ (r_extract rfl rfl) ?_
          refine st _ (r_extract rfl rfl) ?_
          refine st_alloc z44 ?_
          intro bZ0 w12 gZ0 lZ0 hm hZ0
          have nhPZ0 : bP ≠ bZ0 := by have := hP.lt; omega
          replace gZ0 := Nat.le_trans M.size gZ0
          replace hP := hP.md0 hm
          replace hX := hX.md0 hm
          replace M := M.step0 hm
          refine st_storeAll rfl rfl (by exact agg44) (by simp [pairv, str, Value.oneCell']) hZ0 (by first | rfl | simp) ?_
          have hZ00 := hZ0
          clear hZ0
          intro w13 hm hZ0
          clear hX
          replace hP := hP.md1 hm (by omega)
          replace M := M.step1 hm gZ0
          refine st _ (r_assign rfl) ?_
          refine st_nil ?_
          refine c_then ?_
          refine c_seq ?_
          refine c_seq ?_
          refine c_region ?_
          refine st _ (r_move rfl) ?_
          refine st _ (r_ne rfl rfl) ?_
          refine st_nil ?_
          refine c_then ?_
          refine c_if rfl (fun h63 => ?_) (fun h63 => ?_)
          · skip
            first | (have h63n := of_decide_eq_true h63) | (have h63n := of_decide_eq_false (bnt h63)) | (have h63n := bnt h63) | (have h63n := h63)
            refine c_seq ?_
            refine c_region ?_
            refine st _ (r_loadAll rfl (by exact agg44) hZ0) ?_
            refine st (.agg [_, _].toArray) (r_build (ps := []) z44 pl44 rfl rfl trivial rfl rfl rfl) ?_
            refine st _ ((r_eqlP (p := splitP l) (q := ([], [])) pair44 u9 rfl rfl).castB (decide_eq_true (split_bad h63n))) ?_
            refine st _ (r_assign rfl) ?_
            refine st_nil ?_
            refine c_then ?_
            refine c_ret ?_
            refine r_then ?_
            exact ret1 trivial rfl rfl ⟨rfl, M⟩
          · skip
            first | (have h63n := of_decide_eq_false h63) | (have h63n := of_decide_eq_true (bnf h63)) | (have h63n := bnf h63) | (have h63n := h63)
            obtain ⟨hj1, hj2⟩ := join_split (s := l) (by omega)
            refine c_skip ?_
            refine c_then ?_
            refine c_seq ?_
            refine c_region ?_
            refine st _ (r_loadAll rfl (by exact agg44) hZ0) ?_
            refine st_call fn28 rfl (join_any (splitP l) _) ?_
            rintro e wj14 ⟨vZ, rfl, hm, hZ, _⟩; refine ⟨_, rfl, ?_⟩
            replace hP := hP.md0 hm
            replace M := M.step0 hm
            replace hZ0 := hZ0.md0 hm
            refine st _ (r_move rfl) ?_
            refine st _ (r_extract rfl rfl) ?_
            refine st _ (r_extract rfl rfl) ?_
            refine st _ (r_assign rfl) ?_
            refine st _ (r_assign rfl) ?_
            refine st_nil ?_
            refine c_then ?_
            refine c_seq ?_
            refine c_region ?_
            refine st _ (r_move rfl) ?_
            refine st _ (r_move rfl) ?_
            refine st_g _ rfl rfl rfl rfl (r_move rfl) ?_
            refine st_g _ rfl rfl rfl rfl ((r_eq rfl rfl).castB (decide_eq_true hj1)) ?_
            refine st _ (r_pick_t rfl rfl rfl) ?_
            refine st _ (r_move rfl) ?_
            refine st_g _ rfl rfl rfl rfl (r_move rfl) ?_
            refine st_g _ rfl rfl rfl rfl (r_move rfl) ?_
            refine st_call_g rfl rfl rfl rfl fn31 rfl (same_eq _ _ _ _ _ hZ (hB.md0 M) hj2) ?_
            rintro e _ ⟨rfl, rfl⟩; refine ⟨_, rfl, ?_⟩
            refine st _ (r_pick_t rfl rfl rfl) ?_
            refine st _ (r_assign rfl) ?_
            refine st_nil ?_
            refine c_then ?_
            refine c_ret ?_
            exact ret1 trivial rfl rfl ⟨rfl, M⟩
end Go.Proofs.Ytimakajeggeebaa
