/- Walks of functions: what each call returns. -/
import Derived.Test.YtimakajeggeebaaRows
import Derived.Test.YtimakajeggeebaaDraws
import Derived.Test.YtimakajeggeebaaWHash
namespace Go.Proofs.Ytimakajeggeebaa
open Go Go.Wk Go.RowKit
attribute [local irreducible] wpList wpQuiet wpStill wpMix Code.wp Calls bodyPost
theorem fn13 : isFn Try.prog 13 = true := by kernel_rfl
theorem fn19 : isFn Try.prog 19 = true := by kernel_rfl
theorem fn20 : isFn Try.prog 20 = true := by kernel_rfl
theorem z23 : zcells Try.prog 23 = some [.int .u8 0, .int .u8 0, .int .u8 0, .int .u8 0, .int .u8 0, .int .u8 0, .int .u8 0, .int .u8 0, .int .u8 0, .int .u8 0, .int .u8 0, .int .u8 0, .int .u8 0, .int .u8 0, .int .u8 0, .int .u8 0] := by kernel_rfl

theorem first2_any (w : World) : Calls Try.prog 13 #[] w fun e w' => e = .returned (.bool true) ∧ Md [] w w' := by
  have M := Md.refl [] w
  refine enter (n := 27) Try.func13 rfl rfl rfl ?_
  intro B
  refine c_seq ?_
  refine c_region ?_
  refine st _ (r_assign rfl) ?_
  refine st_nil ?_
  refine c_then ?_
  refine c_seq ?_
  refine c_region ?_
  refine st_alloc z23 ?_
  intro bK w1 gK lK hm hK
  replace gK := Nat.le_trans M.size gK
  replace M := M.step0 hm
  refine st_nil ?_
  refine c_then ?_
  refine c_seq ?_
  refine c_region ?_
  refine st _ (r_assign rfl) ?_
  refine st_nil ?_
  refine c_then ?_
  refine c_seq ?_
  refine c_seq ?_
  refine c_region ?_
  refine st _ (r_assign rfl) ?_
  refine st_nil ?_
  refine c_then ?_
  refine c_block ?_
  refine c_loop (X := Nat × Value) (fun x => [(1, .pointer (some ⟨bK, 0, none⟩)), (2, x.2), (3, .int .i64 x.1)]) (fun x w' => Md [] w w' ∧ Blk w' bK ((keyTo x.1).map b8) 23 ∧ Own w' 5 1 x.2 (ups (min x.1 15)).length ((ups (min x.1 15)).map b8) ∧ (∀ b, vblock x.2 = some b → w.heap.size ≤ b) ∧ x.1 ≤ 16) (fun x => 16 - x.1) (0, .slice none 0 0) ?_ ?_ ?_
  · exact ⟨rfl, rfl, rfl, trivial⟩
  · exact ⟨M, hK, Own.nil _ _ _, by simp [vblock], by decide⟩
  · clear M
    clear hK
    rintro x B w2 ⟨M, hK, hO, hvb, hk⟩
    obtain ⟨k, x2⟩ := x; simp only at hK hO hvb hk
    refine c_seq ?_
    refine c_seq ?_
    refine c_region ?_
    refine st _ (r_move rfl) ?_
    refine st _ (r_lt rfl rfl) ?_
    refine st_nil ?_
    refine c_then ?_
    refine c_if rfl (fun h5 => ?_) (fun h5 => ?_)
    · skip
      first | (have h5n := of_decide_eq_true h5) | (have h5n := of_decide_eq_false (bnt h5)) | (have h5n := bnt h5) | (have h5n := h5)
      refine c_skip ?_
      refine c_then ?_
      refine c_seq ?_
      refine c_block ?_
      refine c_seq ?_
      refine c_region ?_
      refine st _ (r_move rfl) ?_
      refine st _ (r_move rfl) ?_
      refine st _ ((r_conv (by rw [u3]; rfl) u5 rfl).cast (b8_wrap _ (by omega))) ?_
      refine st _ (r_indexArr rfl rfl u23 el5 (by omega)) ?_
      refine st_store rfl rfl one5 rfl hK (by rw [List.length_map, keyTo_len _ hk]; omega) ?_
      have hK0 := hK
      clear hK
      intro w3 hm hK
      replace hO := hO.md1 hK0 rfl hm
      replace M := M.step1 hm gK
      refine st_nil ?_
      replace hK := (keyTo_cells k (by omega)) ▸ hK
      refine c_then ?_
      refine c_seq ?_
      refine c_region ?_
      refine st _ (r_move rfl) ?_
      refine st _ (r_lt rfl rfl) ?_
      refine st_nil ?_
      refine c_then ?_
      refine c_if rfl (fun h13 => ?_) (fun h13 => ?_)
      · skip
        first | (have h13n := of_decide_eq_true h13) | (have h13n := of_decide_eq_false (bnt h13)) | (have h13n := bnt h13) | (have h13n := h13)
        refine c_region ?_
        refine st _ (r_move rfl) ?_
        refine st _ (r_move rfl) ?_
        refine st _ ((r_conv (by rw [u3]; rfl) u5 rfl).cast (b8_wrap _ (by omega))) ?_
        refine st_buildSlice u25 elT5 (by decide) rfl rfl rfl ⟨rfl, trivial⟩ (by decide) ?_
        intro bS w4 gS lS hm hS
        have nhKS : bK ≠ bS := by have := hK.lt; omega
        replace gS := Nat.le_trans M.size gS
        replace hK := hK.md0 hm
        replace hO := hO.md0 hm
        replace M := M.step0 hm
        refine st_appendB u25 elT5 rfl rfl hO (By.of_blk (l := [UInt8.ofNat (k : Int).toNat]) hS rfl (by decide)) (by simp [ups_len]; omega) ?_
        intro v2 w5 hO2 hm _ hbk
        have M0 := M
        replace hK := hK.mdO hO rfl hm
        replace M := M.stepO hm (fun b h => .inr (hvb b h))
        have hvb2 : ∀ b, vblock v2 = some b → w.heap.size ≤ b := fun b h => (hbk b h).elim (fun h => hvb b h) (fun h => Nat.le_trans M0.size h)
        clear hS hO
        refine st _ (r_assign rfl) ?_
        refine st_nil ?_
        refine n_block ?_
        refine c_then ?_
        refine c_region ?_
        refine st _ (r_move rfl) ?_
        refine st _ (r_addI rfl rfl (by omega)) ?_
        refine st _ (r_assign rfl) ?_
        refine st_nil ?_
        refine c_then ?_
        refine next ((k + 1, v2)) (by simp; omega) ⟨rfl, rfl, fitI rfl (by simp), trivial⟩ ?_
        refine ⟨M, hK, ?_, hvb2, by simp; omega⟩
        have e : ups (min (k + 1) 15) = ups (min k 15) ++ [UInt8.ofNat (k : Int).toNat] := by
          rw [show min (k + 1) 15 = k + 1 by omega, show min k 15 = k by omega, ups_succ]; simp
        show Own _ _ _ _ (ups (min (k + 1) 15)).length ((ups (min (k + 1) 15)).map b8)
        rw [e]; exact hO2
      · skip
        first | (have h13n := of_decide_eq_false h13) | (have h13n := of_decide_eq_true (bnf h13)) | (have h13n := bnf h13) | (have h13n := h13)
        refine c_skip ?_
        refine n_block ?_
        refine c_then ?_
        refine c_region ?_
        refine st _ (r_move rfl) ?_
        refine st _ (r_addI rfl rfl (by omega)) ?_
        refine st _ (r_assign rfl) ?_
        refine st_nil ?_
        refine c_then ?_
        refine next ((k + 1, x2)) (by simp; omega) ⟨rfl, rfl, fitI rfl (by simp), trivial⟩ ?_
        refine ⟨M, hK, ?_, hvb, by simp; omega⟩
        show Own _ _ _ _ (ups (min (k + 1) 15)).length ((ups (min (k + 1) 15)).map b8)
        rw [show min (k + 1) 15 = min k 15 by omega]; exact hO
    · skip
      first | (have h5n := of_decide_eq_false h5) | (have h5n := of_decide_eq_true (bnf h5)) | (have h5n := bnf h5) | (have h5n := h5)
      refine c_exit ?_
      refine x_then ?_
      obtain rfl : k = 16 := (by omega)
      refine x_then ?_
      refine x_hit ?_
      refine c_then ?_
      refine c_seq ?_
      refine c_region ?_
      refine st_call fn15 rfl (lookup_any _ [] _ (Sl.nil _)) ?_
      rintro e w6 ⟨rfl, hm⟩; refine ⟨_, rfl, ?_⟩
      replace hK := hK.md0 hm
      replace hO := hO.md0 hm
      replace M := M.step0 hm
      refine st _ ((r_eq rfl rfl).castB (decide_eq_true first_lookup)) ?_
      refine st _ (r_move rfl) ?_
      refine st_g _ rfl rfl rfl rfl (r_loadAll rfl (by rw [(by rw [List.length_map, keyTo_len _ (by decide)] : ((keyTo 16).map b8).length = 16)]; exact agg23) hK) ?_
      refine st_g _ rfl rfl rfl rfl (r_move rfl) ?_
      refine st_call_g rfl rfl rfl rfl fn17 rfl (sip_any (keyTo 16) _ (ups 15) _ (keyTo_len 16 (by decide)) (By.of_own hO) (by decide)) ?_
      rintro e w7 ⟨rfl, hm⟩; refine ⟨_, rfl, ?_⟩
      replace hK := hK.md0 hm
      replace hO := hO.md0 hm
      replace M := M.step0 hm
      refine st_g _ rfl rfl rfl rfl ((r_eq rfl rfl).castB (decide_eq_true first_sip)) ?_
      refine st _ (r_pick_t rfl rfl rfl) ?_
      refine st _ (r_assign rfl) ?_
      refine st_nil ?_
      refine c_then ?_
      refine c_ret ?_
      exact ret1 trivial rfl rfl ⟨rfl, M⟩
theorem hashSays_walk (s : Value) (l key : List UInt8) (k : Bool) (w : World) (hB : By w s l) (hk : key.length = 16) :
    Calls Try.prog 4 #[s, .agg (key.map b8).toArray, .bool k] w fun e w' => e = .returned (.bool true) ∧ Md [] w w' := by
  have M := Md.refl [] w
  refine enter (n := 43) Try.func4 rfl rfl rfl ?_
  intro B
  refine c_seq ?_
  refine c_region ?_
  refine st_box rfl rfl ?_
  intro bK w1 gK lK hm hK
  replace gK := Nat.le_trans M.size gK
  replace M := M.step0 hm
  refine st _ (r_assign rfl) ?_
  refine st_nil ?_
  refine c_then ?_
  refine c_seq ?_
  refine c_region ?_
  refine st_call fn13 rfl (first2_any _) ?_
  rintro e w2 ⟨rfl, hm⟩; refine ⟨_, rfl, ?_⟩
  replace hK := hK.md0 hm
  replace M := M.step0 hm
  refine st _ (r_assign rfl) ?_
  refine st_nil ?_
  refine c_then ?_
  refine c_seq ?_
  refine c_seq ?_
  refine c_region ?_
  refine st _ (r_move rfl) ?_
  refine st _ (r_not rfl) ?_
  refine st_nil ?_
  refine c_then ?_
  refine c_if_f rfl rfl ?_
  refine c_skip ?_
  refine c_then ?_
  refine c_seq ?_
  refine c_seq ?_
  refine c_region ?_
  refine st _ (r_move rfl) ?_
  refine st _ (r_len rfl u25 hB.shp) ?_
  refine st _ (r_gt rfl rfl) ?_
  refine st_nil ?_
  refine c_then ?_
  refine c_if rfl (fun h13 => ?_) (fun h13 => ?_)
  · skip
    first | (have h13n := of_decide_eq_true h13) | (have h13n := of_decide_eq_false (bnt h13)) | (have h13n := bnt h13) | (have h13n := h13)
    refine c_seq ?_
    refine c_region ?_
    refine st _ (r_move rfl) ?_
    refine st _ (r_assign rfl) ?_
    refine st_nil ?_
    refine c_then ?_
    refine c_ret ?_
    refine r_then ?_
    exact ret1 trivial rfl rfl ⟨rfl, M⟩
  · skip
    first | (have h13n := of_decide_eq_false h13) | (have h13n := of_decide_eq_true (bnf h13)) | (have h13n := bnf h13) | (have h13n := h13)
    refine c_skip ?_
    refine c_then ?_
    refine c_seq ?_
    have hK_q := hK
    have M_q := M
    refine c_mix [(0, true), (1, true), (2, true), (4, true), (3, false), (5, false), (6, true), (7, true), (8, true), (9, true), (10, true), (12, true), (13, true), (11, false), (14, false), (15, true), (16, true), (17, true), (18, true), (19, true), (20, true), (22, true), (23, true), (24, true), (21, false), (25, false), (26, true), (27, true), (28, true)] (fun w' => Md [] w2 w') mixed (by kernel_rfl) ?_
    intro w3 hm
    have MC := hm
    replace hK := hK.md0 hm
    replace M := M.step0 hm
    refine ⟨MC, ?_⟩
    refine m _ (fun w' hc => r_move rfl) ?_
    refine m _ (fun w' hc => r_move rfl) ?_
    refine m_g _ rfl rfl rfl rfl (fun w' hc => r_move rfl) ?_
    refine m_g _ rfl rfl rfl rfl (fun w' hc => r_move rfl) ?_
    refine m_e_g rfl rfl rfl rfl rfl ?_
    refine st_call_g rfl rfl rfl rfl fn15 rfl (lookup_any s l _ (hB.md0 M)) ?_
    rintro e w4 ⟨rfl, hm⟩; refine ⟨_, rfl, ?_⟩
    replace hK := hK.md0 hm
    replace MC := MC.step0 hm
    replace M := M.step0 hm
    refine st_nil ⟨rfl, MC, ?_⟩
    refine m_e_g rfl rfl rfl rfl rfl ?_
    refine st_call_g rfl rfl rfl rfl fn16 rfl (rlookup_any s l _ (hB.md0 M) (by omega)) ?_
    rintro e _ ⟨rfl, rfl⟩; refine ⟨_, rfl, ?_⟩
    refine st_nil ⟨rfl, MC, ?_⟩
    refine m_g _ rfl rfl rfl rfl (fun w' hc => (r_eq rfl rfl).castB (decide_eq_true rfl)) ?_
    refine m _ (fun w' hc => r_pick_t rfl rfl rfl) ?_
    refine m _ (fun w' hc => r_move rfl) ?_
    refine m_g _ rfl rfl rfl rfl (fun w' hc => r_loadAll rfl (by rw [(by simpa using hk : (key.map b8).length = 16)]; exact agg23) (hK_q.md0 hc)) ?_
    refine m_g _ rfl rfl rfl rfl (fun w' hc => r_move rfl) ?_
    refine m_g _ rfl rfl rfl rfl (fun w' hc => r_loadAll rfl (by rw [(by simpa using hk : (key.map b8).length = 16)]; exact agg23) (hK_q.md0 hc)) ?_
    refine m_g _ rfl rfl rfl rfl (fun w' hc => r_move rfl) ?_
    refine m_e_g rfl rfl rfl rfl rfl ?_
    refine st_call_g rfl rfl rfl rfl fn17 rfl (sip_any key s l _ hk (hB.md0 M) (by omega)) ?_
    rintro e w5 ⟨rfl, hm⟩; refine ⟨_, rfl, ?_⟩
    replace hK := hK.md0 hm
    replace MC := MC.step0 hm
    replace M := M.step0 hm
    refine st_nil ⟨rfl, MC, ?_⟩
    refine m_e_g rfl rfl rfl rfl rfl ?_
    refine st_call_g rfl rfl rfl rfl fn18 rfl (rsip_any key s l _ hk (hB.md0 M) (by omega)) ?_
    rintro e w6 ⟨rfl, hm⟩; refine ⟨_, rfl, ?_⟩
    replace hK := hK.md0 hm
    replace MC := MC.step0 hm
    replace M := M.step0 hm
    refine st_nil ⟨rfl, MC, ?_⟩
    refine m_g _ rfl rfl rfl rfl (fun w' hc => (r_eq rfl rfl).castB (decide_eq_true rfl)) ?_
    refine m _ (fun w' hc => r_pick_t rfl rfl rfl) ?_
    refine m _ (fun w' hc => r_move rfl) ?_
    refine m_g _ rfl rfl rfl rfl (fun w' hc => r_move rfl) ?_
    refine m_g _ rfl rfl rfl rfl (fun w' hc => r_loadAll rfl (by rw [(by simpa using hk : (key.map b8).length = 16)]; exact agg23) (hK_q.md0 hc)) ?_
    refine m_g _ rfl rfl rfl rfl (fun w' hc => r_move rfl) ?_
    refine m_g _ rfl rfl rfl rfl (fun w' hc => r_move rfl) ?_
    refine m_g _ rfl rfl rfl rfl (fun w' hc => r_loadAll rfl (by rw [(by simpa using hk : (key.map b8).length = 16)]; exact agg23) (hK_q.md0 hc)) ?_
    refine m_g _ rfl rfl rfl rfl (fun w' hc => r_move rfl) ?_
    refine m_e_g rfl rfl rfl rfl rfl ?_
    refine st_call_g rfl rfl rfl rfl fn19 rfl (of_any k key s l _ hk (hB.md0 M) (by omega)) ?_
    rintro e w7 ⟨rfl, hm⟩; refine ⟨_, rfl, ?_⟩
    replace hK := hK.md0 hm
    replace MC := MC.step0 hm
    replace M := M.step0 hm
    refine st_nil ⟨rfl, MC, ?_⟩
    refine m_e_g rfl rfl rfl rfl rfl ?_
    refine st_call_g rfl rfl rfl rfl fn20 rfl (rof_any k key s l _ hk (hB.md0 M) (by omega)) ?_
    rintro e w8 ⟨rfl, hm⟩; refine ⟨_, rfl, ?_⟩
    replace hK := hK.md0 hm
    replace MC := MC.step0 hm
    replace M := M.step0 hm
    refine st_nil ⟨rfl, MC, ?_⟩
    refine m_g _ rfl rfl rfl rfl (fun w' hc => (r_eq rfl rfl).castB (decide_eq_true rfl)) ?_
    refine m _ (fun w' hc => r_pick_t rfl rfl rfl) ?_
    refine m _ (fun w' hc => r_assign rfl) ?_
    refine m_nil ?_
    refine c_then ?_
    refine c_ret ?_
    exact ret1 trivial rfl rfl ⟨rfl, M⟩
end Go.Proofs.Ytimakajeggeebaa
