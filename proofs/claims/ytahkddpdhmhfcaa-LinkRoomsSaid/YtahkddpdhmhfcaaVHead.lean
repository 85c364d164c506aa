/- Walks of functions: what each call returns, over data. -/
import Derived.Test.YtahkddpdhmhfcaaRows
import Derived.Test.YtahkddpdhmhfcaaVGet
namespace Go.Proofs.Ytahkddpdhmhfcaa
open Go Go.Wk Go.RowKit
set_option linter.unusedVariables false
set_option linter.unusedSimpArgs false
attribute [local irreducible] wpList wpQuiet wpStill wpMix Code.wp Calls bodyPost
theorem agg38 : isAggN Try.prog 38 91 = true := by kernel_rfl
theorem el90 : elemIs Try.prog 90 1 = true := by kernel_rfl
theorem el93 : elemIs Try.prog 93 1 = true := by kernel_rfl
theorem elT90 : elT Try.prog 90 1 8 = true := by kernel_rfl
theorem elT93 : elT Try.prog 93 1 8 = true := by kernel_rfl
theorem fn32 : isFn Try.prog 32 = true := by kernel_rfl
theorem fn33 : isFn Try.prog 33 = true := by kernel_rfl
theorem fn34 : isFn Try.prog 34 = true := by kernel_rfl
theorem fn35 : isFn Try.prog 35 = true := by kernel_rfl
theorem mixed : Try.prog.follows .mixedOrders = true := by kernel_rfl
theorem off38_0 : fieldOff Try.prog 38 0 = some 0 := by kernel_rfl
theorem off38_1 : fieldOff Try.prog 38 1 = some 1 := by kernel_rfl
theorem off38_10 : fieldOff Try.prog 38 10 = some 70 := by kernel_rfl
theorem off38_11 : fieldOff Try.prog 38 11 = some 71 := by kernel_rfl
theorem off38_12 : fieldOff Try.prog 38 12 = some 72 := by kernel_rfl
theorem off38_13 : fieldOff Try.prog 38 13 = some 73 := by kernel_rfl
theorem off38_14 : fieldOff Try.prog 38 14 = some 74 := by kernel_rfl
theorem off38_15 : fieldOff Try.prog 38 15 = some 75 := by kernel_rfl
theorem off38_16 : fieldOff Try.prog 38 16 = some 76 := by kernel_rfl
theorem off38_17 : fieldOff Try.prog 38 17 = some 77 := by kernel_rfl
theorem off38_18 : fieldOff Try.prog 38 18 = some 78 := by kernel_rfl
theorem off38_19 : fieldOff Try.prog 38 19 = some 79 := by kernel_rfl
theorem off38_2 : fieldOff Try.prog 38 2 = some 2 := by kernel_rfl
theorem off38_20 : fieldOff Try.prog 38 20 = some 80 := by kernel_rfl
theorem off38_21 : fieldOff Try.prog 38 21 = some 81 := by kernel_rfl
theorem off38_22 : fieldOff Try.prog 38 22 = some 82 := by kernel_rfl
theorem off38_23 : fieldOff Try.prog 38 23 = some 83 := by kernel_rfl
theorem off38_24 : fieldOff Try.prog 38 24 = some 84 := by kernel_rfl
theorem off38_25 : fieldOff Try.prog 38 25 = some 85 := by kernel_rfl
theorem off38_26 : fieldOff Try.prog 38 26 = some 86 := by kernel_rfl
theorem off38_27 : fieldOff Try.prog 38 27 = some 87 := by kernel_rfl
theorem off38_28 : fieldOff Try.prog 38 28 = some 88 := by kernel_rfl
theorem off38_29 : fieldOff Try.prog 38 29 = some 89 := by kernel_rfl
theorem off38_3 : fieldOff Try.prog 38 3 = some 3 := by kernel_rfl
theorem off38_30 : fieldOff Try.prog 38 30 = some 90 := by kernel_rfl
theorem off38_4 : fieldOff Try.prog 38 4 = some 19 := by kernel_rfl
theorem off38_5 : fieldOff Try.prog 38 5 = some 35 := by kernel_rfl
theorem off38_6 : fieldOff Try.prog 38 6 = some 51 := by kernel_rfl
theorem off38_7 : fieldOff Try.prog 38 7 = some 67 := by kernel_rfl
theorem off38_8 : fieldOff Try.prog 38 8 = some 68 := by kernel_rfl
theorem off38_9 : fieldOff Try.prog 38 9 = some 69 := by kernel_rfl
theorem one28 : isOne Try.prog 28 = true := by kernel_rfl
theorem one33 : isOne Try.prog 33 = true := by kernel_rfl
theorem one36 : isOne Try.prog 36 = true := by kernel_rfl
theorem one90 : isOne Try.prog 90 = true := by kernel_rfl
theorem one93 : isOne Try.prog 93 = true := by kernel_rfl
theorem pl38 : bplace Try.prog 38 = some [(0, 1), (1, 1), (2, 1), (3, 16), (19, 16), (35, 16), (51, 16), (67, 1), (68, 1), (69, 1), (70, 1), (71, 1), (72, 1), (73, 1), (74, 1), (75, 1), (76, 1), (77, 1), (78, 1), (79, 1), (80, 1), (81, 1), (82, 1), (83, 1), (84, 1), (85, 1), (86, 1), (87, 1), (88, 1), (89, 1), (90, 1)] := by kernel_rfl
theorem u3 : Try.prog.underlying 3 = some (.int .i64) := by kernel_rfl
theorem u33 : Try.prog.underlying 33 = some (.int .u32) := by kernel_rfl
theorem u35 : Try.prog.underlying 35 = some (.array 16 5) := by kernel_rfl
theorem u88 : Try.prog.underlying 88 = some (.slice 90) := by kernel_rfl
theorem u91 : Try.prog.underlying 91 = some (.slice 93) := by kernel_rfl
theorem z38 : zcells Try.prog 38 = some [.int .u32 0, .int .u32 0, .int .i64 0, .int .u8 0, .int .u8 0, .int .u8 0, .int .u8 0, .int .u8 0, .int .u8 0, .int .u8 0, .int .u8 0, .int .u8 0, .int .u8 0, .int .u8 0, .int .u8 0, .int .u8 0, .int .u8 0, .int .u8 0, .int .u8 0, .int .u8 0, .int .u8 0, .int .u8 0, .int .u8 0, .int .u8 0, .int .u8 0, .int .u8 0, .int .u8 0, .int .u8 0, .int .u8 0, .int .u8 0, .int .u8 0, .int .u8 0, .int .u8 0, .int .u8 0, .int .u8 0, .int .u8 0, .int .u8 0, .int .u8 0, .int .u8 0, .int .u8 0, .int .u8 0, .int .u8 0, .int .u8 0, .int .u8 0, .int .u8 0, .int .u8 0, .int .u8 0, .int .u8 0, .int .u8 0, .int .u8 0, .int .u8 0, .int .u8 0, .int .u8 0, .int .u8 0, .int .u8 0, .int .u8 0, .int .u8 0, .int .u8 0, .int .u8 0, .int .u8 0, .int .u8 0, .int .u8 0, .int .u8 0, .int .u8 0, .int .u8 0, .int .u8 0, .int .u8 0, .int .u64 0, .int .u64 0, .int .u64 0, .int .u64 0, .int .u64 0, .int .u64 0, .int .u64 0, .int .u64 0, .int .u64 0, .int .u64 0, .int .u64 0, .int .u64 0, .int .u64 0, .int .u64 0, .int .u64 0, .int .u64 0, .int .u64 0, .int .u64 0, .int .u64 0, .int .u64 0, .int .u64 0, .int .u32 0, .int .u32 0, .int .u64 0] := by kernel_rfl

theorem hIds_any {w : World} {b : Nat} : Calls Try.prog 34 #[.pointer (some ⟨b, 0, none⟩)] w fun en w' => ∃ x, en = .returned (.slice (some ⟨x, 0, none⟩) 4 4) ∧ w.heap.size ≤ x ∧ Md [] w w' ∧ Blk w' x (ptrs b 3 16 4) 90 := by
  refine enter (n := 16) Try.func34 rfl rfl rfl ?_
  intro B
  refine c_seq ?_
  refine c_region ?_
  refine st _ (r_assign rfl) ?_
  refine st_nil ?_
  refine c_then ?_
  refine c_seq ?_
  refine c_mixT [(0, true), (1, true), (2, true), (3, true), (4, true), (5, true), (6, true), (7, true), (8, true), (9, true), (10, true), (11, true)] [12, 13] (fun w' => Md [] w w') mixed (by kernel_rfl) ?_
  intro w1 hm; refine ⟨hm, ?_⟩
  refine Go.Wk.m _ (fun w' hc => r_move rfl) ?_
  refine Go.Wk.m _ (fun w' hc => r_nil rfl) ?_
  refine Go.Wk.m _ (fun w' hc => r_field rfl off38_3) ?_
  refine Go.Wk.m _ (fun w' hc => r_move rfl) ?_
  refine Go.Wk.m _ (fun w' hc => r_nil rfl) ?_
  refine Go.Wk.m _ (fun w' hc => r_field rfl off38_4) ?_
  refine Go.Wk.m _ (fun w' hc => r_move rfl) ?_
  refine Go.Wk.m _ (fun w' hc => r_nil rfl) ?_
  refine Go.Wk.m _ (fun w' hc => r_field rfl off38_5) ?_
  refine Go.Wk.m _ (fun w' hc => r_move rfl) ?_
  refine Go.Wk.m _ (fun w' hc => r_nil rfl) ?_
  refine Go.Wk.m _ (fun w' hc => r_field rfl off38_6) ?_
  refine m_nil ?_
  refine st_buildSlice u88 elT90 (by decide) rfl rfl rfl (by simp [OneAll, Value.oneCell']) (by decide) ?_
  intro x w2 gx lx hm2 hB
  refine st _ (r_assign rfl) ?_
  refine st_nil ?_
  refine c_then ?_
  refine c_ret ?_
  exact ret1 trivial rfl rfl ⟨x, rfl, Nat.le_trans hm.size gx, hm.step0 hm2, (show Blk w2 x (ptrs b 3 16 4) 90 from hB)⟩
theorem hLong_any {w : World} {b : Nat} : Calls Try.prog 35 #[.pointer (some ⟨b, 0, none⟩)] w fun en w' => ∃ x, en = .returned (.slice (some ⟨x, 0, none⟩) 21 21) ∧ w.heap.size ≤ x ∧ Md [] w w' ∧ Blk w' x (ptrs b 67 1 21) 93 := by
  refine enter (n := 67) Try.func35 rfl rfl rfl ?_
  intro B
  refine c_seq ?_
  refine c_region ?_
  refine st _ (r_assign rfl) ?_
  refine st_nil ?_
  refine c_then ?_
  refine c_seq ?_
  refine c_mixT [(0, true), (1, true), (2, true), (3, true), (4, true), (5, true), (6, true), (7, true), (8, true), (9, true), (10, true), (11, true), (12, true), (13, true), (14, true), (15, true), (16, true), (17, true), (18, true), (19, true), (20, true), (21, true), (22, true), (23, true), (24, true), (25, true), (26, true), (27, true), (28, true), (29, true), (30, true), (31, true), (32, true), (33, true), (34, true), (35, true), (36, true), (37, true), (38, true), (39, true), (40, true), (41, true), (42, true), (43, true), (44, true), (45, true), (46, true), (47, true), (48, true), (49, true), (50, true), (51, true), (52, true), (53, true), (54, true), (55, true), (56, true), (57, true), (58, true), (59, true), (60, true), (61, true), (62, true)] [63, 64] (fun w' => Md [] w w') mixed (by kernel_rfl) ?_
  intro w1 hm; refine ⟨hm, ?_⟩
  refine Go.Wk.m _ (fun w' hc => r_move rfl) ?_
  refine Go.Wk.m _ (fun w' hc => r_nil rfl) ?_
  refine Go.Wk.m _ (fun w' hc => r_field rfl off38_7) ?_
  refine Go.Wk.m _ (fun w' hc => r_move rfl) ?_
  refine Go.Wk.m _ (fun w' hc => r_nil rfl) ?_
  refine Go.Wk.m _ (fun w' hc => r_field rfl off38_8) ?_
  refine Go.Wk.m _ (fun w' hc => r_move rfl) ?_
  refine Go.Wk.m _ (fun w' hc => r_nil rfl) ?_
  refine Go.Wk.m _ (fun w' hc => r_field rfl off38_9) ?_
  refine Go.Wk.m _ (fun w' hc => r_move rfl) ?_
  refine Go.Wk.m _ (fun w' hc => r_nil rfl) ?_
  refine Go.Wk.m _ (fun w' hc => r_field rfl off38_10) ?_
  refine Go.Wk.m _ (fun w' hc => r_move rfl) ?_
  refine Go.Wk.m _ (fun w' hc => r_nil rfl) ?_
  refine Go.Wk.m _ (fun w' hc => r_field rfl off38_11) ?_
  refine Go.Wk.m _ (fun w' hc => r_move rfl) ?_
  refine Go.Wk.m _ (fun w' hc => r_nil rfl) ?_
  refine Go.Wk.m _ (fun w' hc => r_field rfl off38_12) ?_
  refine Go.Wk.m _ (fun w' hc => r_move rfl) ?_
  refine Go.Wk.m _ (fun w' hc => r_nil rfl) ?_
  refine Go.Wk.m _ (fun w' hc => r_field rfl off38_13) ?_
  refine Go.Wk.m _ (fun w' hc => r_move rfl) ?_
  refine Go.Wk.m _ (fun w' hc => r_nil rfl) ?_
  refine Go.Wk.m _ (fun w' hc => r_field rfl off38_14) ?_
  refine Go.Wk.m _ (fun w' hc => r_move rfl) ?_
  refine Go.Wk.m _ (fun w' hc => r_nil rfl) ?_
  refine Go.Wk.m _ (fun w' hc => r_field rfl off38_15) ?_
  refine Go.Wk.m _ (fun w' hc => r_move rfl) ?_
  refine Go.Wk.m _ (fun w' hc => r_nil rfl) ?_
  refine Go.Wk.m _ (fun w' hc => r_field rfl off38_16) ?_
  refine Go.Wk.m _ (fun w' hc => r_move rfl) ?_
  refine Go.Wk.m _ (fun w' hc => r_nil rfl) ?_
  refine Go.Wk.m _ (fun w' hc => r_field rfl off38_17) ?_
  refine Go.Wk.m _ (fun w' hc => r_move rfl) ?_
  refine Go.Wk.m _ (fun w' hc => r_nil rfl) ?_
  refine Go.Wk.m _ (fun w' hc => r_field rfl off38_18) ?_
  refine Go.Wk.m _ (fun w' hc => r_move rfl) ?_
  refine Go.Wk.m _ (fun w' hc => r_nil rfl) ?_
  refine Go.Wk.m _ (fun w' hc => r_field rfl off38_19) ?_
  refine Go.Wk.m _ (fun w' hc => r_move rfl) ?_
  refine Go.Wk.m _ (fun w' hc => r_nil rfl) ?_
  refine Go.Wk.m _ (fun w' hc => r_field rfl off38_20) ?_
  refine Go.Wk.m _ (fun w' hc => r_move rfl) ?_
  refine Go.Wk.m _ (fun w' hc => r_nil rfl) ?_
  refine Go.Wk.m _ (fun w' hc => r_field rfl off38_21) ?_
  refine Go.Wk.m _ (fun w' hc => r_move rfl) ?_
  refine Go.Wk.m _ (fun w' hc => r_nil rfl) ?_
  refine Go.Wk.m _ (fun w' hc => r_field rfl off38_22) ?_
  refine Go.Wk.m _ (fun w' hc => r_move rfl) ?_
  refine Go.Wk.m _ (fun w' hc => r_nil rfl) ?_
  refine Go.Wk.m _ (fun w' hc => r_field rfl off38_23) ?_
  refine Go.Wk.m _ (fun w' hc => r_move rfl) ?_
  refine Go.Wk.m _ (fun w' hc => r_nil rfl) ?_
  refine Go.Wk.m _ (fun w' hc => r_field rfl off38_24) ?_
  refine Go.Wk.m _ (fun w' hc => r_move rfl) ?_
  refine Go.Wk.m _ (fun w' hc => r_nil rfl) ?_
  refine Go.Wk.m _ (fun w' hc => r_field rfl off38_25) ?_
  refine Go.Wk.m _ (fun w' hc => r_move rfl) ?_
  refine Go.Wk.m _ (fun w' hc => r_nil rfl) ?_
  refine Go.Wk.m _ (fun w' hc => r_field rfl off38_26) ?_
  refine Go.Wk.m _ (fun w' hc => r_move rfl) ?_
  refine Go.Wk.m _ (fun w' hc => r_nil rfl) ?_
  refine Go.Wk.m _ (fun w' hc => r_field rfl off38_27) ?_
  refine m_nil ?_
  refine st_buildSlice u91 elT93 (by decide) rfl rfl rfl (by simp [OneAll, Value.oneCell']) (by decide) ?_
  intro x w2 gx lx hm2 hB
  refine st _ (r_assign rfl) ?_
  refine st_nil ?_
  refine c_then ?_
  refine c_ret ?_
  exact ret1 trivial rfl rfl ⟨x, rfl, Nat.le_trans hm.size gx, hm.step0 hm2, (show Blk w2 x (ptrs b 67 1 21) 93 from hB)⟩

theorem hFour_any {w : World} {Q : Nat → Prop} {b1 : Nat} {v0 : Value} {l : List UInt8} (hB : Blk w b1 [v0] 28) (h0 : Ls tB8 w Q v0 l) (a : Nat) (ha : a + 4 ≤ l.length) :
    Calls Try.prog 32 #[.int .i64 (a : Int), .pointer (some ⟨b1, 0, none⟩)] w fun en w' => en = .returned (.int .u32 ((at4 l a : Nat) : Int)) ∧ Md [] w w' := by
  have L := h0.len63
  refine enter (n := 14) Try.func32 rfl rfl rfl ?_
  intro B
  refine c_seq ?_
  refine c_region ?_
  refine st _ (r_assign rfl) ?_
  refine st_nil ?_
  refine c_then ?_
  refine c_seq ?_
  refine c_region ?_
  refine st _ (r_loadBlk rfl one28 hB rfl) ?_
  refine st _ (r_move rfl) ?_
  refine st_call fn33 rfl (leGet_any (Q := fun _ => True) (fun _ _ => trivial) (h0.sub fun _ _ _ => trivial) (a : Int) (by omega) 4 (by omega)) ?_
  rintro en w1 ⟨r0, r1, rfl, hm, hr, hF⟩; refine ⟨_, rfl, ?_⟩
  have hg : getF l a 4 = (at4 l a, true) := getF_at (k := 4) (.inl rfl) ha
  rw [hg] at hF
  obtain ⟨rfl, rfl⟩ := Prod.mk.inj hF
  refine st _ (r_move rfl) ?_
  refine st _ (r_extract rfl rfl) ?_
  refine st _ (r_extract rfl rfl) ?_
  refine st _ (r_assign rfl) ?_
  refine st _ (r_assign rfl) ?_
  refine st_nil ?_
  refine c_then ?_
  refine c_seq ?_
  refine c_region ?_
  refine st _ (r_move rfl) ?_
  refine st _ (r_convN (a := at4 l a) 4294967296 rfl (by rw [u36]; rfl) u33 rfl (at4_lt _ _)) ?_
  refine st _ (r_assign rfl) ?_
  refine st_nil ?_
  refine c_then ?_
  refine c_ret ?_
  exact ret1 trivial rfl rfl ⟨rfl, hm⟩
set_option maxRecDepth 100000 in
theorem hParse_any {w : World} {Q : Nat → Prop} (uQ : Up w Q) {v0 : Value} {b : List UInt8} (h00 : Ls tB8 w Q v0 b) (p0 : 272 ≤ b.length) :
    Calls Try.prog 19 #[v0] w fun en w' => ∃ r0 : PHead, en = .returned (.agg (PHead.cells r0).toArray) ∧ Md [] w w' ∧ PHead.ok r0 ∧ parseF b = r0 := by
  have L := h00.len63
  obtain ⟨Q0, hQ0, h0⟩ : ∃ Q0 : Nat → Prop, (∀ x, w.heap.size ≤ x → ¬ Q0 x) ∧ Ls tB8 w Q0 v0 b := ⟨fun x => x < w.heap.size, fun x h k => by omega, h00.sub fun x _ h => h⟩
  clear h00
  have M := Md.refl [] w
  refine enter (n := 73) Try.func19 rfl rfl rfl ?_
  intro B
  refine c_seq ?_
  refine c_region ?_
  refine st_box rfl (cells_one h0.oneCell) ?_
  intro b1 w1 g1 l1 hm hB1
  replace h0 := h0.md0 hm
  replace M := M.step0 hm
  refine st_alloc z38 ?_
  intro b2 w2 g2 l2 hm hB2
  replace h0 := h0.md0 hm
  obtain ⟨Z, hZ, hB2⟩ : ∃ Z, (PHead.cells (headUp b 0 0 0 0)).length = Z.length ∧ Blk w2 b2 Z 38 := ⟨_, rfl, hB2⟩
  have n12 : b1 ≠ b2 := by have := hB1.lt; omega
  replace hB1 := hB1.md0 hm
  replace g2 := Nat.le_trans M.size g2
  replace M := M.step0 hm
  refine st_nil ?_
  refine c_then ?_
  refine c_seq ?_
  refine c_region ?_
  refine st _ (r_loadBlk rfl one28 hB1 rfl) ?_
  refine st _ (r_indexN (i := 16) 1 rfl rfl u28 el5 h0.shp (by omega)) ?_
  obtain ⟨x, hx⟩ := getE (l := b) (i := 16) (by omega)
  obtain ⟨cx, hrx, hax⟩ := h0.get hx
  obtain ⟨rfl, _⟩ := hrx
  have ex : b.getD 16 0 = x := by simp [List.getD, hx]
  have lx := UInt8.toNat_lt x
  replace hax : At _ v0 (16 * 1) [(b8 x)] := hax
  refine st _ ((r_loadE (kk := 16 * 1) 0 rfl rfl one5 hax rfl).to (b := (b8 x)) rfl) ?_
  clear hax
  refine st _ (r_convN (a := x.toNat) 9223372036854775808 rfl (by rw [u5]; rfl) u3 rfl (by omega)) ?_
  refine st (.agg (PHead.cells (headUp b 0 0 0 0)).toArray) (by rw [show PHead.cells (headUp b 0 0 0 0) = PHead.cells { headUp b 0 0 0 0 with state := x.toNat } by rw [← ex]; rfl]; exact r_build (cs := PHead.cells { headUp b 0 0 0 0 with state := x.toNat }) (ps := [(2, 2)]) z38 pl38 rfl rfl (by simp [OneAll, Value.oneCell']) rfl rfl rfl) ?_
  refine st_alloc z38 ?_
  intro b3 w3 g3 l3 hm hB3
  replace h0 := h0.md0 hm
  have n13 : b1 ≠ b3 := by have := hB1.lt; omega
  have n23 : b2 ≠ b3 := by have := hB2.lt; omega
  replace hB1 := hB1.md0 hm
  replace hB2 := hB2.md0 hm
  replace g3 := Nat.le_trans M.size g3
  replace M := M.step0 hm
  refine st_storeAll rfl rfl (by exact agg38) (fun u hu => one_cells PHead.one u hu) hB3 rfl ?_
  intro w4 hm hB3
  have nq3 : ∀ x ∈ [b3], ¬ Q0 x := by intro y hy; simp at hy; subst hy; exact hQ0 _ g3
  have nq2 : ∀ x ∈ [b2], ¬ Q0 x := by intro y hy; simp at hy; subst hy; exact hQ0 _ g2
  replace h0 := h0.md hm nq3
  replace hB1 := hB1.md1 hm n13
  replace hB2 := hB2.md1 hm n23
  replace M := M.step1 hm g3
  refine st_nil ?_
  refine c_then ?_
  refine c_seq ?_
  refine c_region ?_
  refine st _ (r_makeFunc rfl) ?_
  refine st _ (r_assign rfl) ?_
  refine st_nil ?_
  refine c_then ?_
  refine c_seq ?_
  refine c_region ?_
  refine st _ (r_move rfl) ?_
  refine st_callV (cs := [.pointer (some ⟨b1, 0, none⟩)]) rfl fn32 rfl (hFour_any hB1 h0 8 (by omega)) ?_
  rintro en w5 ⟨rfl, hm⟩; refine ⟨_, rfl, ?_⟩
  replace h0 := h0.md0 hm; replace hB1 := hB1.md0 hm; replace hB2 := hB2.md0 hm; replace hB3 := hB3.md0 hm; replace M := M.step0 hm
  refine st _ (r_move rfl) ?_
  refine st_callV (cs := [.pointer (some ⟨b1, 0, none⟩)]) rfl fn32 rfl (hFour_any hB1 h0 12 (by omega)) ?_
  rintro en w6 ⟨rfl, hm⟩; refine ⟨_, rfl, ?_⟩
  replace h0 := h0.md0 hm; replace hB1 := hB1.md0 hm; replace hB2 := hB2.md0 hm; replace hB3 := hB3.md0 hm; replace M := M.step0 hm
  refine st _ (r_field rfl off38_0) ?_
  refine st_store rfl rfl one33 rfl hB3 (by first | decide | (show _ < 91; decide)) ?_
  intro w7 hm hB3
  replace h0 := h0.md hm nq3; replace hB1 := hB1.md1 hm n13; replace hB2 := hB2.md1 hm n23; replace M := M.step1 hm g3
  refine st _ (r_field rfl off38_1) ?_
  refine st_store rfl rfl one33 rfl hB3 (by first | decide | (show _ < 91; decide)) ?_
  intro w8 hm hB3
  replace h0 := h0.md hm nq3; replace hB1 := hB1.md1 hm n13; replace hB2 := hB2.md1 hm n23; replace M := M.step1 hm g3
  replace hB3 : Blk w8 b3 (PHead.cells (headUp b (at4 b 8) (at4 b 12) 0 0)) 38 := hB3
  refine st_nil ?_
  refine c_then ?_
  refine c_seq ?_
  refine c_region ?_
  refine st _ (r_assign rfl) ?_
  refine st_nil ?_
  refine c_then ?_
  refine c_seq ?_
  refine c_seq ?_
  refine c_region ?_
  refine st_call fn34 rfl (hIds_any (b := b3)) ?_
  rintro en w9 ⟨i4, rfl, gi, hm, hBi⟩; refine ⟨_, rfl, ?_⟩
  have ni3 : i4 ≠ b3 := by have := hB3.lt; omega
  replace h0 := h0.md0 hm; replace hB1 := hB1.md0 hm; replace hB2 := hB2.md0 hm; replace hB3 := hB3.md0 hm
  replace gi := Nat.le_trans M.size gi
  replace M := M.step0 hm
  have hSi : Shp (.slice (some ⟨i4, 0, none⟩) 4 4) 4 := ⟨_, _, rfl, Nat.le_refl _, by simp [maxLen], by simp⟩
  refine st _ (r_len rfl u88 hSi) ?_
  refine st _ (r_move rfl) ?_
  refine st_nil ?_
  refine c_then ?_
  refine c_block ?_
  refine loop2 (fun (k : Nat) (a : Nat) => [(24, (.int .i64 ((k : Nat) : Int))), (5, (.int .i64 ((a : Nat) : Int))), (1, .pointer (some ⟨b1, 0, none⟩)), (2, .pointer (some ⟨b2, 0, none⟩)), (3, .pointer (some ⟨b3, 0, none⟩)), (4, .func (.func 32) #[] #[.pointer (some ⟨b1, 0, none⟩)]), (22, .slice (some ⟨i4, 0, none⟩) 4 4), (23, .int .i64 ((4 : Nat) : Int))])
    (fun (k : Nat) (a : Nat) w' => Md [] w w' ∧ Ls tB8 w' Q0 v0 b ∧ Blk w' b1 [v0] 28 ∧ Blk w' b2 Z 38 ∧ Blk w' b3 (PHead.cells (headUp b (at4 b 8) (at4 b 12) k 0)) 38 ∧ Blk w' i4 (ptrs b3 3 16 4) 90 ∧ k ≤ 4 ∧ a = 24 + 16 * k) (fun (k : Nat) (a : Nat) => 4 - k) (x0 := 0) (x1 := 24) ?_ ?_ ?_
  · exact ⟨rfl, rfl, rfl, rfl, rfl, rfl, rfl, rfl, trivial⟩
  · exact ⟨M, h0, hB1, hB2, hB3, hBi, by omega, rfl⟩
  · clear M h0 hB1 hB2 hB3 hBi
    rintro k a B w10 ⟨M, h0, hB1, hB2, hB3, hBi, hk, ha⟩
    refine c_seq ?_
    refine c_region ?_
    refine st _ (r_ltN (a := k) (b := 4) rfl rfl) ?_
    refine st_nil ?_
    refine c_then ?_
    refine c_seq ?_
    refine c_if rfl (fun h25 => ?_) (fun h25 => ?_)
    · have h25n := of_decide_eq_true h25
      refine c_skip ?_
      refine c_then ?_
      refine c_seq ?_
      refine c_block ?_
      refine c_seq ?_
      refine c_region ?_
      refine st _ ((r_indexN (i := k) 1 rfl rfl u88 el90 hSi (by omega)).to (b := .pointer (some ⟨i4, k, none⟩)) (by simp [elemp, Addr.add_mk])) ?_
      refine st _ (r_loadBlk (b := i4) (j := k) (u := .pointer (some ⟨b3, 3 + k * 16, none⟩)) rfl one90 hBi (ptrs_get (by omega))) ?_
      refine st _ (r_assign rfl) ?_
      refine st_nil ?_
      refine c_then ?_
      have hSb := h0.shp
      refine c_mix [(0, true), (1, true), (2, true), (3, true), (4, true), (5, true), (6, true), (7, false), (8, true), (9, true)] (fun w' => Blk w' b1 [v0] 28) mixed (by kernel_rfl) ?_
      intro w11 hm
      replace h0 := h0.md0 hm; replace hB1 := hB1.md0 hm; replace hB2 := hB2.md0 hm; replace hB3 := hB3.md0 hm; replace hBi := hBi.md0 hm; replace M := M.step0 hm
      refine ⟨hB1, ?_⟩
      refine Go.Wk.m _ (fun w' hc => r_move rfl) ?_
      refine Go.Wk.m _ (fun w' hc => r_move rfl) ?_
      refine Go.Wk.m _ (fun w' hc => r_nil rfl) ?_
      refine Go.Wk.m _ (fun w' hc => r_sliceArr u35 el5 rfl (by decide)) ?_
      refine Go.Wk.m _ (fun w' hc => r_loadBlk rfl one28 hc rfl) ?_
      refine Go.Wk.m _ (fun w' hc => r_move rfl) ?_
      refine Go.Wk.m (subv v0 a b.length) (fun w' hc => by exact r_slice a b.length u28 el5 rfl hSb (by omega) (by omega) ⟨_, rfl⟩ rfl) ?_
      refine m_e ?_ rfl
      have hT := h0.by.tail a (by omega)
      refine st_copy u28 el5 rfl rfl hB3 hT (one_b8 _) (by have : (PHead.cells (headUp b (at4 b 8) (at4 b 12) k 0)).length = 91 := rfl; simp; omega) ?_
      intro w12 hm hB3
      clear hT
      rw [← List.map_take, ha, ids_step (by omega) p0] at hB3
      replace h0 := h0.md hm nq3; replace hB1 := hB1.md1 hm n13; replace hB2 := hB2.md1 hm n23; replace hBi := hBi.md1 hm ni3; replace M := M.step1 hm g3
      refine st_nil ⟨rfl, hB1, ?_⟩
      have e16 : min ((b.drop a).map b8).length 16 = 16 := by simp; omega
      refine Go.Wk.m _ (fun w' hc => r_addN (a := a) (b := min ((b.drop a).map b8).length 16) 9223372036854775808 rfl rfl rfl (by omega)) ?_
      refine Go.Wk.m _ (fun w' hc => r_assign rfl) ?_
      refine m_nil ?_
      refine n_block ?_
      refine c_then ?_
      refine c_region ?_
      refine st _ (r_addN (a := k) (b := 1) 9223372036854775808 rfl rfl rfl (by omega)) ?_
      refine st _ (r_move rfl) ?_
      refine st_nil ?_
      refine c_then ?_
      exact next2 (x0 := k + 1) (x1 := a + min ((b.drop a).map b8).length 16) (by omega) ⟨rfl, rfl, rfl, rfl, rfl, rfl, rfl, rfl, trivial⟩ ⟨M, h0, hB1, hB2, hB3, hBi, by omega, by omega⟩
    · have h25n := of_decide_eq_false h25
      obtain rfl : k = 4 := by omega
      subst ha
      clear hBi
      refine c_exit ?_
      refine x_then ?_
      refine x_then ?_
      refine x_hit ?_
      refine c_then ?_
      refine c_seq ?_
      refine c_seq ?_
      refine c_region ?_
      refine st_call fn35 rfl (hLong_any (b := b3)) ?_
      rintro en w13 ⟨j4, rfl, gj, hm, hBj⟩; refine ⟨_, rfl, ?_⟩
      have nj3 : j4 ≠ b3 := by have := hB3.lt; omega
      replace h0 := h0.md0 hm; replace hB1 := hB1.md0 hm; replace hB2 := hB2.md0 hm; replace hB3 := hB3.md0 hm
      replace M := M.step0 hm
      have hSj : Shp (.slice (some ⟨j4, 0, none⟩) 21 21) 21 := ⟨_, _, rfl, Nat.le_refl _, by simp [maxLen], by simp⟩
      refine st _ (r_len rfl u91 hSj) ?_
      refine st _ (r_move rfl) ?_
      refine st_nil ?_
      refine c_then ?_
      refine c_block ?_
      refine loop2 (fun (j : Nat) (a : Nat) => [(40, (.int .i64 ((j : Nat) : Int))), (5, (.int .i64 ((a : Nat) : Int))), (1, .pointer (some ⟨b1, 0, none⟩)), (2, .pointer (some ⟨b2, 0, none⟩)), (3, .pointer (some ⟨b3, 0, none⟩)), (4, .func (.func 32) #[] #[.pointer (some ⟨b1, 0, none⟩)]), (38, .slice (some ⟨j4, 0, none⟩) 21 21), (39, .int .i64 ((21 : Nat) : Int))])
        (fun (j : Nat) (a : Nat) w' => Md [] w w' ∧ Ls tB8 w' Q0 v0 b ∧ Blk w' b1 [v0] 28 ∧ Blk w' b2 Z 38 ∧ Blk w' b3 (PHead.cells (headUp b (at4 b 8) (at4 b 12) 4 j)) 38 ∧ Blk w' j4 (ptrs b3 67 1 21) 93 ∧ j ≤ 21 ∧ a = 88 + 8 * j) (fun (j : Nat) (a : Nat) => 21 - j) (x0 := 0) (x1 := 24 + 16 * 4) ?_ ?_ ?_
      · exact ⟨rfl, rfl, rfl, rfl, rfl, rfl, rfl, rfl, trivial⟩
      · exact ⟨M, h0, hB1, hB2, hB3, hBj, by omega, rfl⟩
      · clear M h0 hB1 hB2 hB3 hBj
        rintro j a B w20 ⟨M, h0, hB1, hB2, hB3, hBj, hj, ha⟩
        refine c_seq ?_
        refine c_region ?_
        refine st _ (r_ltN (a := j) (b := 21) rfl rfl) ?_
        refine st_nil ?_
        refine c_then ?_
        refine c_seq ?_
        refine c_if rfl (fun h41 => ?_) (fun h41 => ?_)
        · have h41n := of_decide_eq_true h41
          refine c_skip ?_
          refine c_then ?_
          refine c_seq ?_
          refine c_block ?_
          refine c_seq ?_
          refine c_region ?_
          refine st _ ((r_indexN (i := j) 1 rfl rfl u91 el93 hSj (by omega)).to (b := .pointer (some ⟨j4, j, none⟩)) (by simp [elemp, Addr.add_mk])) ?_
          refine st _ (r_loadBlk (b := j4) (j := j) (u := .pointer (some ⟨b3, 67 + j * 1, none⟩)) rfl one93 hBj (ptrs_get (by omega))) ?_
          refine st _ (r_assign rfl) ?_
          refine st_nil ?_
          refine c_then ?_
          refine c_seq ?_
          refine c_region ?_
          refine st _ (r_move rfl) ?_
          refine st _ (r_loadBlk rfl one28 hB1 rfl) ?_
          refine st _ (r_move rfl) ?_
          refine st_call fn33 rfl (leGet_any (Q := fun _ => True) (fun _ _ => trivial) (h0.sub fun _ _ _ => trivial) (a : Int) (by omega) 8 (by omega)) ?_
          rintro en w21 ⟨r0, r1, rfl, hm, hr, hF⟩; refine ⟨_, rfl, ?_⟩
          have hg : getF b a 8 = (at8 b a, true) := getF_at (k := 8) (.inr rfl) (by omega)
          rw [hg] at hF
          obtain ⟨rfl, rfl⟩ := Prod.mk.inj hF
          replace h0 := h0.md0 hm; replace hB1 := hB1.md0 hm; replace hB2 := hB2.md0 hm; replace hB3 := hB3.md0 hm; replace hBj := hBj.md0 hm; replace M := M.step0 hm
          refine st _ (r_move rfl) ?_
          refine st (.int .u64 ((at8 b a : Nat) : Int)) (r_extract rfl rfl) ?_
          refine st _ (r_extract rfl rfl) ?_
          refine st _ (r_nil rfl) ?_
          refine st_store (b := b3) (j := 67 + j * 1) rfl rfl one36 rfl hB3 (by have : (PHead.cells (headUp b (at4 b 8) (at4 b 12) 4 j)).length = 91 := rfl; omega) ?_
          intro w22 hm hB3
          rw [Nat.mul_one, ha, long_step h41n] at hB3
          replace h0 := h0.md hm nq3; replace hB1 := hB1.md1 hm n13; replace hB2 := hB2.md1 hm n23; replace hBj := hBj.md1 hm nj3; replace M := M.step1 hm g3
          refine st_nil ?_
          refine c_then ?_
          refine c_region ?_
          refine st _ (r_move rfl) ?_
          refine st _ (r_addN (a := a) (b := 8) 9223372036854775808 rfl rfl rfl (by omega)) ?_
          refine st _ (r_assign rfl) ?_
          refine st_nil ?_
          refine n_block ?_
          refine c_then ?_
          refine c_region ?_
          refine st _ (r_addN (a := j) (b := 1) 9223372036854775808 rfl rfl rfl (by omega)) ?_
          refine st _ (r_move rfl) ?_
          refine st_nil ?_
          refine c_then ?_
          exact next2 (x0 := j + 1) (x1 := a + 8) (by omega) ⟨rfl, rfl, rfl, rfl, rfl, rfl, rfl, rfl, trivial⟩ ⟨M, h0, hB1, hB2, hB3, hBj, by omega, by omega⟩
        · have h41n := of_decide_eq_false h41
          obtain rfl : j = 21 := by omega
          subst ha
          clear hBj
          refine c_exit ?_
          refine x_then ?_
          refine x_then ?_
          refine x_hit ?_
          refine c_then ?_
          refine c_seq ?_
          refine c_region ?_
          refine st _ (r_move rfl) ?_
          refine st _ (r_move rfl) ?_
          refine st_callV (cs := [.pointer (some ⟨b1, 0, none⟩)]) rfl fn32 rfl (hFour_any hB1 h0 256 (by omega)) ?_
          rintro en w23 ⟨rfl, hm⟩; refine ⟨_, rfl, ?_⟩
          replace h0 := h0.md0 hm; replace hB1 := hB1.md0 hm; replace hB2 := hB2.md0 hm; replace hB3 := hB3.md0 hm; replace M := M.step0 hm
          refine st _ (r_move rfl) ?_
          refine st _ (r_move rfl) ?_
          refine st _ (r_addN (a := 256) (b := 4) 9223372036854775808 rfl rfl rfl (by omega)) ?_
          refine st_callV (cs := [.pointer (some ⟨b1, 0, none⟩)]) rfl fn32 rfl (hFour_any hB1 h0 260 (by omega)) ?_
          rintro en w24 ⟨rfl, hm⟩; refine ⟨_, rfl, ?_⟩
          replace h0 := h0.md0 hm; replace hB1 := hB1.md0 hm; replace hB2 := hB2.md0 hm; replace hB3 := hB3.md0 hm; replace M := M.step0 hm
          refine st _ (r_field rfl off38_28) ?_
          refine st_store rfl rfl one33 rfl hB3 (by first | decide | (show _ < 91; decide)) ?_
          intro w25 hm hB3
          replace h0 := h0.md hm nq3; replace hB1 := hB1.md1 hm n13; replace hB2 := hB2.md1 hm n23; replace M := M.step1 hm g3
          refine st _ (r_field rfl off38_29) ?_
          refine st_store rfl rfl one33 rfl hB3 (by first | decide | (show _ < 91; decide)) ?_
          intro w26 hm hB3
          replace h0 := h0.md hm nq3; replace hB1 := hB1.md1 hm n13; replace hB2 := hB2.md1 hm n23; replace M := M.step1 hm g3
          refine st_nil ?_
          refine c_then ?_
          refine c_seq ?_
          refine c_region ?_
          refine st _ (r_loadBlk rfl one28 hB1 rfl) ?_
          refine st _ (r_move rfl) ?_
          refine st _ (r_addN (a := 256) (b := 8) 9223372036854775808 rfl rfl rfl (by omega)) ?_
          refine st_call fn33 rfl (leGet_any (Q := fun _ => True) (fun _ _ => trivial) (h0.sub fun _ _ _ => trivial) ((264 : Nat) : Int) (by omega) 8 (by omega)) ?_
          rintro en w27 ⟨r0, r1, rfl, hm, hr, hF⟩; refine ⟨_, rfl, ?_⟩
          have hg : getF b ((264 : Nat) : Int) 8 = (at8 b 264, true) := getF_at (k := 8) (.inr rfl) (by omega)
          rw [hg] at hF
          obtain ⟨rfl, rfl⟩ := Prod.mk.inj hF
          replace h0 := h0.md0 hm; replace hB1 := hB1.md0 hm; replace hB2 := hB2.md0 hm; replace hB3 := hB3.md0 hm; replace M := M.step0 hm
          refine st _ (r_move rfl) ?_
          refine st (.int .u64 ((at8 b 264 : Nat) : Int)) (r_extract rfl rfl) ?_
          refine st _ (r_extract rfl rfl) ?_
          refine st _ (r_field rfl off38_30) ?_
          refine st_store rfl rfl one36 rfl hB3 (by first | decide | (show _ < 91; decide)) ?_
          intro w28 hm hB3
          replace hB2 := hB2.md1 hm n23; replace M := M.step1 hm g3
          replace hB3 : Blk w28 b3 (PHead.cells (parseF b)) 38 := hB3
          refine st_nil ?_
          refine c_then ?_
          refine c_seq ?_
          refine c_region ?_
          refine st _ (r_loadAll rfl (by exact agg38) hB3) ?_
          refine st_storeAll rfl rfl (by exact agg38) (fun u hu => one_cells PHead.one u hu) hB2 hZ ?_
          intro w29 hm hB2
          replace M := M.step1 hm g2
          refine st_nil ?_
          refine c_then ?_
          refine c_ret ?_
          exact retc trivial rfl rfl (by exact agg38) hB2 ⟨_, rfl, M, parse_ok p0, rfl⟩
end Go.Proofs.Ytahkddpdhmhfcaa
