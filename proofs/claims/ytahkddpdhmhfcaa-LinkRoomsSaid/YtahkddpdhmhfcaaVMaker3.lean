/- Walks of functions: what each call returns, over data. -/
import Derived.Test.YtahkddpdhmhfcaaRows
import Derived.Test.YtahkddpdhmhfcaaMakerQ
import Derived.Test.YtahkddpdhmhfcaaVRefS
namespace Go.Proofs.Ytahkddpdhmhfcaa
open Go Go.Wk Go.RowKit
set_option linter.unusedVariables false
set_option linter.unusedSimpArgs false
attribute [local irreducible] wpList wpQuiet wpStill wpMix Code.wp Calls bodyPost
theorem agg35 : isAggN Try.prog 35 16 = true := by kernel_rfl
theorem agg64 : isAggN Try.prog 64 52 = true := by kernel_rfl
theorem agg76 : isAggN Try.prog 76 90 = true := by kernel_rfl
theorem elT128 : elT Try.prog 128 2 16 = true := by kernel_rfl
theorem fn37 : isFn Try.prog 37 = true := by kernel_rfl
theorem off64_0 : fieldOff Try.prog 64 0 = some 0 := by kernel_rfl
theorem off64_1 : fieldOff Try.prog 64 1 = some 16 := by kernel_rfl
theorem off64_2 : fieldOff Try.prog 64 2 = some 32 := by kernel_rfl
theorem off64_3 : fieldOff Try.prog 64 3 = some 48 := by kernel_rfl
theorem off64_4 : fieldOff Try.prog 64 4 = some 49 := by kernel_rfl
theorem off64_6 : fieldOff Try.prog 64 6 = some 51 := by kernel_rfl
theorem off79_1 : fieldOff Try.prog 79 1 = some 52 := by kernel_rfl
theorem off79_3 : fieldOff Try.prog 79 3 = some 143 := by kernel_rfl
theorem one28 : isOne Try.prog 28 = true := by kernel_rfl
theorem one4 : isOne Try.prog 4 = true := by kernel_rfl
theorem pl76 : bplace Try.prog 76 = some [(0, 1), (1, 1), (2, 1), (3, 16), (19, 16), (35, 16), (51, 16), (67, 20), (87, 1), (88, 1), (89, 1)] := by kernel_rfl
theorem pl79 : bplace Try.prog 79 = some [(0, 52), (52, 90), (142, 1), (143, 1), (144, 1), (145, 1), (146, 1)] := by kernel_rfl
theorem z128 : zcells Try.prog 128 = some [.int .u64 0, .int .u64 0] := by kernel_rfl
theorem z5 : zcells Try.prog 5 = some [.int .u8 0] := by kernel_rfl
theorem z76 : zcells Try.prog 76 = some [.int .u32 0, .int .u32 0, .int .i64 0, .int .u8 0, .int .u8 0, .int .u8 0, .int .u8 0, .int .u8 0, .int .u8 0, .int .u8 0, .int .u8 0, .int .u8 0, .int .u8 0, .int .u8 0, .int .u8 0, .int .u8 0, .int .u8 0, .int .u8 0, .int .u8 0, .int .u8 0, .int .u8 0, .int .u8 0, .int .u8 0, .int .u8 0, .int .u8 0, .int .u8 0, .int .u8 0, .int .u8 0, .int .u8 0, .int .u8 0, .int .u8 0, .int .u8 0, .int .u8 0, .int .u8 0, .int .u8 0, .int .u8 0, .int .u8 0, .int .u8 0, .int .u8 0, .int .u8 0, .int .u8 0, .int .u8 0, .int .u8 0, .int .u8 0, .int .u8 0, .int .u8 0, .int .u8 0, .int .u8 0, .int .u8 0, .int .u8 0, .int .u8 0, .int .u8 0, .int .u8 0, .int .u8 0, .int .u8 0, .int .u8 0, .int .u8 0, .int .u8 0, .int .u8 0, .int .u8 0, .int .u8 0, .int .u8 0, .int .u8 0, .int .u8 0, .int .u8 0, .int .u8 0, .int .u8 0, .int .u64 0, .int .u64 0, .int .u64 0, .int .u64 0, .int .u64 0, .int .u64 0, .int .u64 0, .int .u64 0, .int .u64 0, .int .u64 0, .int .u64 0, .int .u64 0, .int .u64 0, .int .u64 0, .int .u64 0, .int .u64 0, .int .u64 0, .int .u64 0, .int .u64 0, .int .u64 0, .int .u32 0, .int .u32 0, .int .u64 0] := by kernel_rfl
theorem z79 : zcells Try.prog 79 = some [.int .u8 0, .int .u8 0, .int .u8 0, .int .u8 0, .int .u8 0, .int .u8 0, .int .u8 0, .int .u8 0, .int .u8 0, .int .u8 0, .int .u8 0, .int .u8 0, .int .u8 0, .int .u8 0, .int .u8 0, .int .u8 0, .int .u8 0, .int .u8 0, .int .u8 0, .int .u8 0, .int .u8 0, .int .u8 0, .int .u8 0, .int .u8 0, .int .u8 0, .int .u8 0, .int .u8 0, .int .u8 0, .int .u8 0, .int .u8 0, .int .u8 0, .int .u8 0, .int .u8 0, .int .u8 0, .int .u8 0, .int .u8 0, .int .u8 0, .int .u8 0, .int .u8 0, .int .u8 0, .int .u8 0, .int .u8 0, .int .u8 0, .int .u8 0, .int .u8 0, .int .u8 0, .int .u8 0, .int .u8 0, .int .i64 0, .int .i64 0, .int .i64 0, .bool false, .int .u32 0, .int .u32 0, .int .i64 0, .int .u8 0, .int .u8 0, .int .u8 0, .int .u8 0, .int .u8 0, .int .u8 0, .int .u8 0, .int .u8 0, .int .u8 0, .int .u8 0, .int .u8 0, .int .u8 0, .int .u8 0, .int .u8 0, .int .u8 0, .int .u8 0, .int .u8 0, .int .u8 0, .int .u8 0, .int .u8 0, .int .u8 0, .int .u8 0, .int .u8 0, .int .u8 0, .int .u8 0, .int .u8 0, .int .u8 0, .int .u8 0, .int .u8 0, .int .u8 0, .int .u8 0, .int .u8 0, .int .u8 0, .int .u8 0, .int .u8 0, .int .u8 0, .int .u8 0, .int .u8 0, .int .u8 0, .int .u8 0, .int .u8 0, .int .u8 0, .int .u8 0, .int .u8 0, .int .u8 0, .int .u8 0, .int .u8 0, .int .u8 0, .int .u8 0, .int .u8 0, .int .u8 0, .int .u8 0, .int .u8 0, .int .u8 0, .int .u8 0, .int .u8 0, .int .u8 0, .int .u8 0, .int .u8 0, .int .u8 0, .int .u8 0, .int .u8 0, .int .u8 0, .int .u8 0, .int .u64 0, .int .u64 0, .int .u64 0, .int .u64 0, .int .u64 0, .int .u64 0, .int .u64 0, .int .u64 0, .int .u64 0, .int .u64 0, .int .u64 0, .int .u64 0, .int .u64 0, .int .u64 0, .int .u64 0, .int .u64 0, .int .u64 0, .int .u64 0, .int .u64 0, .int .u64 0, .int .u32 0, .int .u32 0, .int .u64 0, .int .u64 0, .slice none 0 0, .slice none 0 0, .slice none 0 0, .slice none 0 0] := by kernel_rfl

set_option maxRecDepth 100000 in
theorem rnewMaker_any {w : World} {Q : Nat → Prop} (uQ : Up w Q) (c : Cfg) (a0_0 : Cfg.ok c) (tail : Nat) (a1 : tail < 18446744073709551616) (p0 : c.dataSlots ≤ 50000) (p1 : c.fieldSlots ≤ 50000) :
    Calls Try.prog 22 #[.agg (Cfg.cells c).toArray, (.int .u64 ((tail : Nat) : Int))] w fun en w' => ∃ o0 : Nat, ∃ u0_0 : Value, ∃ u0_1 : Value, ∃ u0_2 : Value, ∃ u0_3 : Value, ∃ r0 : Mk, ∃ Q' : Nat → Prop, en = .returned (.pointer (some ⟨o0, 0, none⟩)) ∧ Md [] w w' ∧ NewQ w w' Q Q' ∧ Blk w' o0 (Mk.cells r0 u0_0 u0_1 u0_2 u0_3) 79 ∧ ¬ Q' o0 ∧ w.heap.size ≤ o0 ∧ Mk.ok r0 ∧ Ow tB8 5 (Fsh [] w) w' Q' u0_0 r0.b ∧ Ow tKnown 108 (Fsh [] w) w' Q' u0_1 r0.datas ∧ Ow tKnown 108 (Fsh [] w) w' Q' u0_2 r0.fields ∧ Ls tU64 w' Q' u0_3 r0.main ∧ (∀ x, vblock u0_1 = some x → vblock u0_2 ≠ some x) ∧ newMk c tail = r0 := by
  have M := Md.refl [] w
  have uQ0 := uQ
  have tQ : ∀ b, Q b → Q b := fun _ h => h
  have sQ0 : ∀ b, Q b → b < w.heap.size → Q b := fun _ h _ => h
  refine enter (n := 110) Try.func22 rfl rfl rfl ?_
  intro B
  refine c_seq ?_
  refine c_region ?_
  refine st_box (cs := (Cfg.cells c)) rfl rfl ?_
  intro ba2 w1 ga2 la2 hm ha2
  have n_ha2 := uQ _ ga2
  replace ga2 := Nat.le_trans M.size ga2
  replace uQ := uQ.md hm
  replace M := M.step0 hm
  have p_ha2 : Fsh [] w ba2 := .inr ga2
  refine st _ (r_assign rfl) ?_
  refine st_nil ?_
  refine c_then ?_
  refine c_seq ?_
  have ha2_q := ha2
  refine c_mixT [(0, true), (1, false)] [2, 3, 4] (fun w' => Md [] w1 w') mixed (by kernel_rfl) ?_
  intro w2 hd0; refine ⟨hd0.mono (by simp), ?_⟩; have MC := hd0.mono (T := []) (by simp)
  refine Go.Wk.m _ (fun w' hc => r_loadPart (Cfg.cells c) rfl (by exact agg64) (ha2_q.md0 hc) rfl) ?_
  replace ha2 := ha2.md0 hd0
  replace uQ := uQ.md hd0
  replace M := M.step0 hd0
  refine m_e ?_ rfl
  refine st_mkG (lo := Fsh [] w) (T := tB8) (z := 0) (zs := [(b8 0)]) (m := 272) rfl u28 elT5 z5 rfl (fun _ _ => ⟨rfl, trivial⟩) uQ (Fsh.new M) (by omega) ?_
  intro v5 w3 Q6 sQ sT uQ2 hO4 hm hv2
  have c_hO4 : ∀ b, vblock v5 = some b → b ∈ [] ∨ _ := fun b hb => Or.inr (Nat.le_trans MC.size (hv2 b hb))
  replace n_ha2 := sQ _ n_ha2 ha2.lt
  replace tQ := fun b hb => tQ b (sT b hb)
  replace sQ0 := fun b hb hl => sQ b (sQ0 b hb hl) (Nat.lt_of_lt_of_le hl M.size)
  replace ha2 := ha2.md0 hm
  replace uQ := uQ.md hm
  replace M := M.step0 hm
  replace MC := MC.step0 hm
  clear uQ; have uQ := uQ2; clear uQ2 sQ sT hv2
  refine st_nil ⟨rfl, MC, ?_⟩
  refine m_nil ?_
  clear ha2_q
  clear MC
  refine st _ (r_buildG (us := [(Cfg.cells c), [v5]]) (cs := (Mk.cells (({ c := c, h := ({ compat := 0, incompat := 0, state := 0, file := idZ, machine := idZ, boot := idZ, seq := idZ, n := (List.replicate 20 0), tailArray := 0, tailItems := 0, tailEntry := 0 } : RHead), depth := 0, b := (List.replicate 272 0), datas := [], fields := [], main := [] } : Mk)) v5 (.slice none 0 0) (.slice none 0 0) (.slice none 0 0))) [(0, 0, 52), (3, 143, 1)] z79 pl79 rfl rfl ⟨rfl, (cells_one hO4.oneCell), trivial⟩ ⟨rfl, rfl, trivial⟩ rfl rfl) ?_
  refine st_box (cs := (Mk.cells (({ c := c, h := ({ compat := 0, incompat := 0, state := 0, file := idZ, machine := idZ, boot := idZ, seq := idZ, n := (List.replicate 20 0), tailArray := 0, tailItems := 0, tailEntry := 0 } : RHead), depth := 0, b := (List.replicate 272 0), datas := [], fields := [], main := [] } : Mk)) v5 (.slice none 0 0) (.slice none 0 0) (.slice none 0 0))) rfl rfl ?_
  intro ba10 w7 ga10 la10 hm ha10
  have eha2a10 : ba2 ≠ ba10 := by have := ha2.lt; omega
  obtain ⟨Q8, sQ, sT, n_ha10, uQ2⟩ := exQ uQ ga10 la10 hm
  replace n_ha2 := sQ _ n_ha2 ha2.lt
  replace hO4 := hO4.sub sQ sT
  replace tQ := fun b hb => tQ b (sT b hb)
  replace sQ0 := fun b hb hl => sQ b (sQ0 b hb hl) (Nat.lt_of_lt_of_le hl M.size)
  replace ga10 := Nat.le_trans M.size ga10
  replace ha2 := ha2.md0 hm
  replace hO4 := hO4.md0 hm
  replace uQ := uQ.md hm
  replace M := M.step0 hm
  clear uQ; have uQ := uQ2; clear uQ2 sQ sT
  have p_ha10 : Fsh [] w ba10 := .inr ga10
  have ok_ha10 : Mk.ok (({ c := c, h := ({ compat := 0, incompat := 0, state := 0, file := idZ, machine := idZ, boot := idZ, seq := idZ, n := (List.replicate 20 0), tailArray := 0, tailItems := 0, tailEntry := 0 } : RHead), depth := 0, b := (List.replicate 272 0), datas := [], fields := [], main := [] } : Mk)) := (by first | assumption | exact ⟨(by first | assumption | exact ⟨(by first | assumption | rfl | simp_all), (by first | assumption | rfl | simp_all), (by first | assumption | rfl | simp_all), (by first | omega | (simp <;> omega) | simp_all), (by first | omega | (simp <;> omega) | simp_all), (by first | omega | (simp <;> omega) | simp_all)⟩), (by first | assumption | exact ⟨(by first | omega | (simp <;> omega) | simp_all), (by first | omega | (simp <;> omega) | simp_all), (by first | omega | (simp <;> omega) | simp_all), (by first | assumption | rfl | simp_all), (by first | assumption | rfl | simp_all), (by first | assumption | rfl | simp_all), (by first | assumption | rfl | simp_all), (by first | assumption | exact nums_zero _ | exact nums_set (by assumption) (by omega) | simp_all), (by first | omega | (simp <;> omega) | simp_all), (by first | omega | (simp <;> omega) | simp_all), (by first | omega | (simp <;> omega) | simp_all)⟩), (by first | omega | (simp <;> omega) | simp_all)⟩)
  refine st _ (r_assign rfl) ?_
  refine st_nil ?_
  refine c_then ?_
  refine c_seq ?_
  have ha2_q := ha2
  have hO4_q := hO4
  have ha10_q := ha10
  have hSB : ∀ b ∈ (vblock v5).toList, ¬ Q8 b := (all_row (fun x hx => (hO4.2 x hx).2))
  refine c_mixT [(0, true), (1, true), (2, true), (3, true), (4, true), (5, true), (6, true), (7, false), (8, false), (9, false)] [10, 11, 12] (fun w' => Md (vblock v5).toList w7 w') mixed (by kernel_rfl) ?_
  intro w9 hd0; refine ⟨hd0.mono (by simp), ?_⟩; have MC := hd0.mono (T := (vblock v5).toList) (by simp)
  have c_hO4 : ∀ b, vblock v5 = some b → b ∈ (vblock v5).toList ∨ w7.heap.size ≤ b := fun b hb => Or.inl (by simp [hb])
  refine Go.Wk.m _ (fun w' hc => r_move rfl) ?_
  refine Go.Wk.m _ (fun w' hc => r_move rfl) ?_
  refine Go.Wk.m _ (fun w' hc => r_nil rfl) ?_
  refine Go.Wk.m _ (fun w' hc => r_field rfl off79_3) ?_
  refine Go.Wk.m _ (fun w' hc => (r_loadBlk rfl one28 (ha10_q.md hc (apart_ow hO4_q ha10_q (by decide))) rfl).to (b := v5) rfl) ?_
  refine Go.Wk.m _ (fun w' hc => r_field rfl off64_3) ?_
  refine Go.Wk.m _ (fun w' hc => (r_loadBlk rfl one3 (ha2_q.md hc (apart_ow hO4_q ha2_q (by decide))) rfl).to (b := (.int .i64 ((c.dataSlots : Nat) : Int))) rfl) ?_
  have q10 : c.dataSlots < 9223372036854775808 := a0_0.2.2.2.1
  replace ha2 := ha2.md0 hd0
  replace hO4 := hO4.md0 hd0
  replace ha10 := ha10.md0 hd0
  replace uQ := uQ.md hd0
  replace M := M.step0 hd0
  refine m_e ?_ rfl
  refine st_mkG (lo := Fsh [] w) (T := tSlt) (z := ({ first := 0, tail := 0 } : Slt)) (zs := (Slt.cells (({ first := 0, tail := 0 } : Slt)))) (m := c.dataSlots) rfl u96 elT128 z128 rfl (fun _ _ => (tSlt_mk (by first | assumption | exact ⟨(by first | omega | (simp <;> omega) | simp_all), (by first | omega | (simp <;> omega) | simp_all)⟩))) uQ (Fsh.new M) (by omega) ?_
  intro v13 w11 Q14 sQ sT uQ2 hO12 hm hv2
  have c_hO12 : ∀ b, vblock v13 = some b → b ∈ (vblock v5).toList ∨ _ := fun b hb => Or.inr (Nat.le_trans MC.size (hv2 b hb))
  replace n_ha2 := sQ _ n_ha2 ha2.lt
  replace hO4 := hO4.sub sQ sT
  replace n_ha10 := fun hh => n_ha10 (sT _ hh)
  replace tQ := fun b hb => tQ b (sT b hb)
  replace sQ0 := fun b hb hl => sQ b (sQ0 b hb hl) (Nat.lt_of_lt_of_le hl M.size)
  replace ha2 := ha2.md0 hm
  replace hO4 := hO4.md0 hm
  replace ha10 := ha10.md0 hm
  replace uQ := uQ.md hm
  replace M := M.step0 hm
  replace MC := MC.step0 hm
  clear uQ; have uQ := uQ2; clear uQ2 sQ sT hv2
  refine st_nil ⟨rfl, MC, ?_⟩
  refine m_e ?_ rfl
  obtain ⟨Q15, fQ, fT, hO12z⟩ := hO12.freeze
  replace n_ha2 := fQ _ n_ha2
  replace hO4 := hO4.subF fQ fT (apart_oo hO12 hO4 (by decide))
  replace n_ha10 := fun hh => (fT _ hh).elim n_ha10 (nfz (apart_ow hO12 ha10 (by decide)))
  replace tQ := fun b hb => (fT b hb).elim (tQ b) (fun hv => Fsh.up uQ0 b (hO12.2 b hv).1)
  replace sQ0 := fun b hb hl => fQ b (sQ0 b hb hl)
  replace uQ : Up w11 Q15 := fun b hb => fQ b (uQ b hb)
  clear hO12 fQ fT; have hO12 := hO12z; clear hO12z
  refine st_call fn37 rfl (putTable_any uQ 4 (by first | omega | (simp <;> omega)) hO12 (by first | omega | (simp <;> omega) | (simp at * <;> omega))) ?_
  rintro en w16 ⟨v16_0, x16_0, rfl, hm, h16_0, hF16⟩; refine ⟨_, rfl, ?_⟩
  replace ha2 := ha2.md0 hm
  replace hO4 := hO4.md0 hm
  replace ha10 := ha10.md0 hm
  replace hO12 := hO12.md0 hm
  replace uQ := uQ.md hm
  replace M := M.step0 hm
  replace MC := MC.step0 hm
  have a16_0 := putTableF_lenA 4 ((List.replicate c.dataSlots ({ first := 0, tail := 0 } : Slt))); rw [hF16] at a16_0; try simp only [List.length_cons, List.length_nil, List.length_append, List.length_replicate, Nat.zero_add, Nat.reduceAdd, Nat.reduceMul] at a16_0
  refine st_nil ⟨rfl, MC, ?_⟩
  refine m_e ?_ rfl
  refine st_ap (sz := 1) (by rfl) u28 elT5 rfl rfl hO4 h16_0 (fun _ h _ => h) uQ (Fsh.new M) (by first | omega | (simp <;> omega) | (simp at * <;> omega)) (by first | omega | (simp <;> omega) | (simp at * <;> omega)) ?_
  intro v18 w19 Q20 sQ sT uQ2 hO17 hm hS _ hv2
  have c_hO17 : ∀ b, vblock v18 = some b → b ∈ (vblock v5).toList ∨ _ := fun b hb => (hv2 b hb).elim (c_hO4 b) (fun h => Or.inr (Nat.le_trans MC.size h))
  have hO40 := hO4; clear hO4
  replace n_ha2 := sQ _ n_ha2 ha2.lt
  replace n_ha10 := fun hh => n_ha10 (sT _ hh)
  replace hO12 := hO12.sub sQ
  replace h16_0 := h16_0.sub sQ
  replace tQ := fun b hb => tQ b (sT b hb)
  replace sQ0 := fun b hb hl => sQ b (sQ0 b hb hl) (Nat.lt_of_lt_of_le hl M.size)
  replace ha2 := ha2.md hm (apart_ow hO40 ha2 (by decide))
  replace ha10 := ha10.md hm (apart_ow hO40 ha10 (by decide))
  replace hO12 := hO12.md hm hS
  replace h16_0 := h16_0.md hm hS
  replace uQ := uQ.md hm
  replace M := M.stepO hm (fun b hb => (hO40.2 b hb).1)
  replace MC := MC.stepO hm c_hO4
  clear uQ; have uQ := uQ2; clear uQ2 sQ sT hS hv2
  refine st_nil ⟨rfl, MC, ?_⟩
  refine m_nil ?_
  clear hO4_q ha2_q ha10_q
  clear MC
  refine st _ (r_nil rfl) ?_
  refine st _ (r_field rfl off79_3) ?_
  refine st_store rfl rfl one28 hO17.oneCell ha10 (Nat.le_of_ble_eq_true rfl) ?_
  have ha100 := ha10; clear ha10; intro w21 hm ha10
  have hS : ∀ b ∈ [ba10], ¬ Q20 b := by intro b hb; simp at hb; subst hb; exact n_ha10
  replace ha2 := ha2.md hm (by intro hb; simp at hb; omega)
  replace hO12 := hO12.md hm hS
  replace h16_0 := h16_0.md hm hS
  replace hO17 := hO17.md hm (apart_bo ha100 hO17 (by decide)) hS
  replace uQ := uQ.md hm
  replace M := M.step hm (all_cons p_ha10 all_nil)
  clear ha100 hS
  obtain ⟨s22, es22⟩ : ∃ y, y = ({ ({ c := c, h := ({ compat := 0, incompat := 0, state := 0, file := idZ, machine := idZ, boot := idZ, seq := idZ, n := (List.replicate 20 0), tailArray := 0, tailItems := 0, tailEntry := 0 } : RHead), depth := 0, b := (List.replicate 272 0), datas := [], fields := [], main := [] } : Mk) with b := ((({ c := c, h := ({ compat := 0, incompat := 0, state := 0, file := idZ, machine := idZ, boot := idZ, seq := idZ, n := (List.replicate 20 0), tailArray := 0, tailItems := 0, tailEntry := 0 } : RHead), depth := 0, b := (List.replicate 272 0), datas := [], fields := [], main := [] } : Mk)).b) ++ x16_0 } : Mk) := ⟨_, rfl⟩
  replace ha10 : Blk _ _ (Mk.cells ({ ({ c := c, h := ({ compat := 0, incompat := 0, state := 0, file := idZ, machine := idZ, boot := idZ, seq := idZ, n := (List.replicate 20 0), tailArray := 0, tailItems := 0, tailEntry := 0 } : RHead), depth := 0, b := (List.replicate 272 0), datas := [], fields := [], main := [] } : Mk) with b := ((({ c := c, h := ({ compat := 0, incompat := 0, state := 0, file := idZ, machine := idZ, boot := idZ, seq := idZ, n := (List.replicate 20 0), tailArray := 0, tailItems := 0, tailEntry := 0 } : RHead), depth := 0, b := (List.replicate 272 0), datas := [], fields := [], main := [] } : Mk)).b) ++ x16_0 }) v18 (.slice none 0 0) (.slice none 0 0) (.slice none 0 0)) _ := ha10
  rw [← es22] at ha10
  have oks22 : Mk.ok s22 := by rw [es22]; exact ⟨ok_ha10.1, ok_ha10.2.1, ok_ha10.2.2⟩
  have z23 : s22.b.length = (((({ c := c, h := ({ compat := 0, incompat := 0, state := 0, file := idZ, machine := idZ, boot := idZ, seq := idZ, n := (List.replicate 20 0), tailArray := 0, tailItems := 0, tailEntry := 0 } : RHead), depth := 0, b := (List.replicate 272 0), datas := [], fields := [], main := [] } : Mk)).b) ++ x16_0).length := by rw [es22]
  simp only [List.length_append, List.length_set, List.length_cons, List.length_nil, List.length_replicate, Nat.zero_add] at z23
  have z24 : s22.datas.length = (({ c := c, h := ({ compat := 0, incompat := 0, state := 0, file := idZ, machine := idZ, boot := idZ, seq := idZ, n := (List.replicate 20 0), tailArray := 0, tailItems := 0, tailEntry := 0 } : RHead), depth := 0, b := (List.replicate 272 0), datas := [], fields := [], main := [] } : Mk)).datas.length := by rw [es22]
  have z25 : s22.fields.length = (({ c := c, h := ({ compat := 0, incompat := 0, state := 0, file := idZ, machine := idZ, boot := idZ, seq := idZ, n := (List.replicate 20 0), tailArray := 0, tailItems := 0, tailEntry := 0 } : RHead), depth := 0, b := (List.replicate 272 0), datas := [], fields := [], main := [] } : Mk)).fields.length := by rw [es22]
  have z26 : s22.c.dataSlots = (({ c := c, h := ({ compat := 0, incompat := 0, state := 0, file := idZ, machine := idZ, boot := idZ, seq := idZ, n := (List.replicate 20 0), tailArray := 0, tailItems := 0, tailEntry := 0 } : RHead), depth := 0, b := (List.replicate 272 0), datas := [], fields := [], main := [] } : Mk)).c.dataSlots := by rw [es22]
  have z27 : s22.c.fieldSlots = (({ c := c, h := ({ compat := 0, incompat := 0, state := 0, file := idZ, machine := idZ, boot := idZ, seq := idZ, n := (List.replicate 20 0), tailArray := 0, tailItems := 0, tailEntry := 0 } : RHead), depth := 0, b := (List.replicate 272 0), datas := [], fields := [], main := [] } : Mk)).c.fieldSlots := by rw [es22]
  have z28 : s22.h.n.getD 2 0 = (({ c := c, h := ({ compat := 0, incompat := 0, state := 0, file := idZ, machine := idZ, boot := idZ, seq := idZ, n := (List.replicate 20 0), tailArray := 0, tailItems := 0, tailEntry := 0 } : RHead), depth := 0, b := (List.replicate 272 0), datas := [], fields := [], main := [] } : Mk)).h.n.getD 2 0 := by rw [es22]
  have z29 : s22.h.n.getD 4 0 = (({ c := c, h := ({ compat := 0, incompat := 0, state := 0, file := idZ, machine := idZ, boot := idZ, seq := idZ, n := (List.replicate 20 0), tailArray := 0, tailItems := 0, tailEntry := 0 } : RHead), depth := 0, b := (List.replicate 272 0), datas := [], fields := [], main := [] } : Mk)).h.n.getD 4 0 := by rw [es22]
  rw [show ((({ c := c, h := ({ compat := 0, incompat := 0, state := 0, file := idZ, machine := idZ, boot := idZ, seq := idZ, n := (List.replicate 20 0), tailArray := 0, tailItems := 0, tailEntry := 0 } : RHead), depth := 0, b := (List.replicate 272 0), datas := [], fields := [], main := [] } : Mk)).b) ++ x16_0 = s22.b by rw [es22]] at hO17
  refine st_nil ?_
  refine c_then ?_
  refine c_seq ?_
  refine c_region ?_
  refine st _ (r_move rfl) ?_
  refine st _ (r_nil rfl) ?_
  refine st _ (r_field rfl off79_3) ?_
  refine st _ ((r_loadBlk rfl one28 ha10 rfl).to (b := v18) rfl) ?_
  refine st _ (r_len rfl u28 hO17.shp) ?_
  refine st _ (r_convN (a := s22.b.length) 18446744073709551616 rfl (by rw [u3]; rfl) u36 rfl (by first | omega | (have := u8lt; omega))) ?_
  refine st _ (r_assign rfl) ?_
  refine st_nil ?_
  refine c_then ?_
  refine c_seq ?_
  have ha2_q := ha2
  have hO12_q := hO12
  have h16_0_q := h16_0
  have hO17_q := hO17
  have ha10_q := ha10
  have hSB : ∀ b ∈ (vblock v18).toList, ¬ Q20 b := (all_row (fun x hx => (hO17.2 x hx).2))
  refine c_mixT [(0, true), (1, true), (2, true), (3, true), (4, true), (5, true), (6, true), (7, false), (8, false), (9, false)] [10, 11, 12] (fun w' => Md (vblock v18).toList w21 w') mixed (by kernel_rfl) ?_
  intro w30 hd0; refine ⟨hd0.mono (by simp), ?_⟩; have MC := hd0.mono (T := (vblock v18).toList) (by simp)
  have c_hO17 : ∀ b, vblock v18 = some b → b ∈ (vblock v18).toList ∨ w21.heap.size ≤ b := fun b hb => Or.inl (by simp [hb])
  refine Go.Wk.m _ (fun w' hc => r_move rfl) ?_
  refine Go.Wk.m _ (fun w' hc => r_move rfl) ?_
  refine Go.Wk.m _ (fun w' hc => r_nil rfl) ?_
  refine Go.Wk.m _ (fun w' hc => r_field rfl off79_3) ?_
  refine Go.Wk.m _ (fun w' hc => (r_loadBlk rfl one28 (ha10_q.md hc (apart_ow hO17_q ha10_q (by decide))) rfl).to (b := v18) rfl) ?_
  refine Go.Wk.m _ (fun w' hc => r_field rfl off64_4) ?_
  refine Go.Wk.m _ (fun w' hc => (r_loadBlk rfl one3 (ha2_q.md hc (apart_ow hO17_q ha2_q (by decide))) rfl).to (b := (.int .i64 ((c.fieldSlots : Nat) : Int))) rfl) ?_
  have q31 : c.fieldSlots < 9223372036854775808 := a0_0.2.2.2.2.1
  replace ha2 := ha2.md0 hd0
  replace hO12 := hO12.md0 hd0
  replace h16_0 := h16_0.md0 hd0
  replace hO17 := hO17.md0 hd0
  replace ha10 := ha10.md0 hd0
  replace uQ := uQ.md hd0
  replace M := M.step0 hd0
  refine m_e ?_ rfl
  refine st_mkG (lo := Fsh [] w) (T := tSlt) (z := ({ first := 0, tail := 0 } : Slt)) (zs := (Slt.cells (({ first := 0, tail := 0 } : Slt)))) (m := c.fieldSlots) rfl u96 elT128 z128 rfl (fun _ _ => (tSlt_mk (by first | assumption | exact ⟨(by first | omega | (simp <;> omega) | simp_all), (by first | omega | (simp <;> omega) | simp_all)⟩))) uQ (Fsh.new M) (by omega) ?_
  intro v34 w32 Q35 sQ sT uQ2 hO33 hm hv2
  have c_hO33 : ∀ b, vblock v34 = some b → b ∈ (vblock v18).toList ∨ _ := fun b hb => Or.inr (Nat.le_trans MC.size (hv2 b hb))
  replace n_ha2 := sQ _ n_ha2 ha2.lt
  replace hO12 := hO12.sub sQ
  replace h16_0 := h16_0.sub sQ
  replace hO17 := hO17.sub sQ sT
  replace n_ha10 := fun hh => n_ha10 (sT _ hh)
  replace tQ := fun b hb => tQ b (sT b hb)
  replace sQ0 := fun b hb hl => sQ b (sQ0 b hb hl) (Nat.lt_of_lt_of_le hl M.size)
  replace ha2 := ha2.md0 hm
  replace hO12 := hO12.md0 hm
  replace h16_0 := h16_0.md0 hm
  replace hO17 := hO17.md0 hm
  replace ha10 := ha10.md0 hm
  replace uQ := uQ.md hm
  replace M := M.step0 hm
  replace MC := MC.step0 hm
  clear uQ; have uQ := uQ2; clear uQ2 sQ sT hv2
  refine st_nil ⟨rfl, MC, ?_⟩
  refine m_e ?_ rfl
  obtain ⟨Q36, fQ, fT, hO33z⟩ := hO33.freeze
  replace n_ha2 := fQ _ n_ha2
  replace hO12 := hO12.sub (fun b hb _ => fQ b hb)
  replace h16_0 := h16_0.sub (fun b hb _ => fQ b hb)
  replace hO17 := hO17.subF fQ fT (apart_oo hO33 hO17 (by decide))
  replace n_ha10 := fun hh => (fT _ hh).elim n_ha10 (nfz (apart_ow hO33 ha10 (by decide)))
  replace tQ := fun b hb => (fT b hb).elim (tQ b) (fun hv => Fsh.up uQ0 b (hO33.2 b hv).1)
  replace sQ0 := fun b hb hl => fQ b (sQ0 b hb hl)
  replace uQ : Up w32 Q36 := fun b hb => fQ b (uQ b hb)
  clear hO33 fQ fT; have hO33 := hO33z; clear hO33z
  refine st_call fn37 rfl (putTable_any uQ 5 (by first | omega | (simp <;> omega)) hO33 (by first | omega | (simp <;> omega) | (simp at * <;> omega))) ?_
  rintro en w37 ⟨v37_0, x37_0, rfl, hm, h37_0, hF37⟩; refine ⟨_, rfl, ?_⟩
  replace ha2 := ha2.md0 hm
  replace hO12 := hO12.md0 hm
  replace h16_0 := h16_0.md0 hm
  replace hO17 := hO17.md0 hm
  replace ha10 := ha10.md0 hm
  replace hO33 := hO33.md0 hm
  replace uQ := uQ.md hm
  replace M := M.step0 hm
  replace MC := MC.step0 hm
  have a37_0 := putTableF_lenA 5 ((List.replicate c.fieldSlots ({ first := 0, tail := 0 } : Slt))); rw [hF37] at a37_0; try simp only [List.length_cons, List.length_nil, List.length_append, List.length_replicate, Nat.zero_add, Nat.reduceAdd, Nat.reduceMul] at a37_0
  refine st_nil ⟨rfl, MC, ?_⟩
  refine m_e ?_ rfl
  refine st_ap (sz := 1) (by rfl) u28 elT5 rfl rfl hO17 h37_0 (fun _ h _ => h) uQ (Fsh.new M) (by first | omega | (simp <;> omega) | (simp at * <;> omega)) (by first | omega | (simp <;> omega) | (simp at * <;> omega)) ?_
  intro v39 w40 Q41 sQ sT uQ2 hO38 hm hS _ hv2
  have c_hO38 : ∀ b, vblock v39 = some b → b ∈ (vblock v18).toList ∨ _ := fun b hb => (hv2 b hb).elim (c_hO17 b) (fun h => Or.inr (Nat.le_trans MC.size h))
  have hO170 := hO17; clear hO17
  replace n_ha2 := sQ _ n_ha2 ha2.lt
  replace hO12 := hO12.sub sQ
  replace h16_0 := h16_0.sub sQ
  replace n_ha10 := fun hh => n_ha10 (sT _ hh)
  replace hO33 := hO33.sub sQ
  replace h37_0 := h37_0.sub sQ
  replace tQ := fun b hb => tQ b (sT b hb)
  replace sQ0 := fun b hb hl => sQ b (sQ0 b hb hl) (Nat.lt_of_lt_of_le hl M.size)
  replace ha2 := ha2.md hm (apart_ow hO170 ha2 (by decide))
  replace hO12 := hO12.md hm hS
  replace h16_0 := h16_0.md hm hS
  replace ha10 := ha10.md hm (apart_ow hO170 ha10 (by decide))
  replace hO33 := hO33.md hm hS
  replace h37_0 := h37_0.md hm hS
  replace uQ := uQ.md hm
  replace M := M.stepO hm (fun b hb => (hO170.2 b hb).1)
  replace MC := MC.stepO hm c_hO17
  clear uQ; have uQ := uQ2; clear uQ2 sQ sT hS hv2
  refine st_nil ⟨rfl, MC, ?_⟩
  refine m_nil ?_
  clear h16_0_q hO17_q hO12_q ha10_q ha2_q
  clear MC
  refine st _ (r_nil rfl) ?_
  refine st _ (r_field rfl off79_3) ?_
  refine st_store rfl rfl one28 hO38.oneCell ha10 (Nat.le_of_ble_eq_true rfl) ?_
  have ha100 := ha10; clear ha10; intro w42 hm ha10
  have hS : ∀ b ∈ [ba10], ¬ Q41 b := by intro b hb; simp at hb; subst hb; exact n_ha10
  replace ha2 := ha2.md hm (by intro hb; simp at hb; omega)
  replace hO12 := hO12.md hm hS
  replace h16_0 := h16_0.md hm hS
  replace hO33 := hO33.md hm hS
  replace h37_0 := h37_0.md hm hS
  replace hO38 := hO38.md hm (apart_bo ha100 hO38 (by decide)) hS
  replace uQ := uQ.md hm
  replace M := M.step hm (all_cons p_ha10 all_nil)
  clear ha100 hS
  obtain ⟨s43, es43⟩ : ∃ y, y = ({ s22 with b := s22.b ++ x37_0 } : Mk) := ⟨_, rfl⟩
  replace ha10 : Blk _ _ (Mk.cells ({ s22 with b := s22.b ++ x37_0 }) v39 (.slice none 0 0) (.slice none 0 0) (.slice none 0 0)) _ := ha10
  rw [← es43] at ha10
  have oks43 : Mk.ok s43 := by rw [es43]; exact ⟨oks22.1, oks22.2.1, oks22.2.2⟩
  have z44 : s43.b.length = (s22.b ++ x37_0).length := by rw [es43]
  simp only [List.length_append, List.length_set, List.length_cons, List.length_nil, List.length_replicate, Nat.zero_add] at z44
  have z45 : s43.datas.length = s22.datas.length := by rw [es43]
  have z46 : s43.fields.length = s22.fields.length := by rw [es43]
  have z47 : s43.c.dataSlots = s22.c.dataSlots := by rw [es43]
  have z48 : s43.c.fieldSlots = s22.c.fieldSlots := by rw [es43]
  have z49 : s43.h.n.getD 2 0 = s22.h.n.getD 2 0 := by rw [es43]
  have z50 : s43.h.n.getD 4 0 = s22.h.n.getD 4 0 := by rw [es43]
  rw [show s22.b ++ x37_0 = s43.b by rw [es43]] at hO38
  refine st_nil ?_
  refine c_then ?_
  refine c_seq ?_
  refine c_region ?_
  refine st _ (r_move rfl) ?_
  refine st _ (r_field rfl off64_0) ?_
  refine st _ (r_loadPart (idc c.file) rfl (by exact agg35) ha2 rfl) ?_
  have q51 : c.file.length = 16 := a0_0.1
  refine st _ (r_field rfl off64_1) ?_
  refine st _ (r_loadPart (idc c.machine) rfl (by exact agg35) ha2 rfl) ?_
  have q52 : c.machine.length = 16 := a0_0.2.1
  refine st _ (r_field rfl off64_2) ?_
  refine st _ (r_loadPart (idc c.seq) rfl (by exact agg35) ha2 rfl) ?_
  have q53 : c.seq.length = 16 := a0_0.2.2.1
  refine st _ (r_buildG (us := [[(.int .u32 ((2 : Nat) : Int))], [(.int .i64 ((1 : Nat) : Int))], (idc c.file), (idc c.machine), (idc c.seq)]) (cs := (RHead.cells (({ compat := 2, incompat := 0, state := 1, file := c.file, machine := c.machine, boot := idZ, seq := c.seq, n := (List.replicate 20 0), tailArray := 0, tailItems := 0, tailEntry := 0 } : RHead)))) [(0, 0, 1), (2, 2, 1), (3, 3, 16), (4, 19, 16), (6, 51, 16)] z76 pl76 rfl rfl ⟨rfl, rfl, rfl, rfl, rfl, trivial⟩ ⟨rfl, rfl, rfl, rfl, rfl, trivial⟩ rfl rfl) ?_
  refine st _ (r_nil rfl) ?_
  refine st _ (r_field rfl off79_1) ?_
  refine st_storeAgg (us := (RHead.cells (({ compat := 2, incompat := 0, state := 1, file := c.file, machine := c.machine, boot := idZ, seq := c.seq, n := (List.replicate 20 0), tailArray := 0, tailItems := 0, tailEntry := 0 } : RHead)))) rfl rfl (by exact agg76) (by first | exact fun u hu => one_cells (RHead.one ) u hu | exact fun u hu => one_cells rfl u hu) ha10 (Nat.le_of_ble_eq_true rfl) ?_
  have ha100 := ha10; clear ha10; intro w54 hm ha10
  have hS : ∀ b ∈ [ba10], ¬ Q41 b := by intro b hb; simp at hb; subst hb; exact n_ha10
  replace ha2 := ha2.md hm (by intro hb; simp at hb; omega)
  replace hO12 := hO12.md hm hS
  replace h16_0 := h16_0.md hm hS
  replace hO33 := hO33.md hm hS
  replace h37_0 := h37_0.md hm hS
  replace hO38 := hO38.md hm (apart_bo ha100 hO38 (by decide)) hS
  replace uQ := uQ.md hm
  replace M := M.step hm (all_cons p_ha10 all_nil)
  clear ha100 hS
  obtain ⟨s55, es55⟩ : ∃ y, y = ({ s43 with h := ({ compat := 2, incompat := 0, state := 1, file := c.file, machine := c.machine, boot := idZ, seq := c.seq, n := (List.replicate 20 0), tailArray := 0, tailItems := 0, tailEntry := 0 } : RHead) } : Mk) := ⟨_, rfl⟩
  replace ha10 : Blk _ _ (Mk.cells ({ s43 with h := ({ compat := 2, incompat := 0, state := 1, file := c.file, machine := c.machine, boot := idZ, seq := c.seq, n := (List.replicate 20 0), tailArray := 0, tailItems := 0, tailEntry := 0 } : RHead) }) v39 (.slice none 0 0) (.slice none 0 0) (.slice none 0 0)) _ := ha10
  rw [← es55] at ha10
  have oks55 : Mk.ok s55 := by rw [es55]; exact ⟨oks43.1, (by first | assumption | exact ⟨(by first | omega | (simp <;> omega) | simp_all), (by first | omega | (simp <;> omega) | simp_all), (by first | omega | (simp <;> omega) | simp_all), (by first | assumption | rfl | simp_all), (by first | assumption | rfl | simp_all), (by first | assumption | rfl | simp_all), (by first | assumption | rfl | simp_all), (by first | assumption | exact nums_zero _ | exact nums_set (by assumption) (by omega) | simp_all), (by first | omega | (simp <;> omega) | simp_all), (by first | omega | (simp <;> omega) | simp_all), (by first | omega | (simp <;> omega) | simp_all)⟩), oks43.2.2⟩
  have z56 : s55.b.length = s43.b.length := by rw [es55]
  have z57 : s55.datas.length = s43.datas.length := by rw [es55]
  have z58 : s55.fields.length = s43.fields.length := by rw [es55]
  have z59 : s55.c.dataSlots = s43.c.dataSlots := by rw [es55]
  have z60 : s55.c.fieldSlots = s43.c.fieldSlots := by rw [es55]
  rw [show s43.b = s55.b by rw [es55]] at hO38
  refine st_nil ?_
  refine c_then ?_
  refine c_seq ?_
  refine c_seq ?_
  refine c_region ?_
  refine st _ (r_field rfl off64_6) ?_
  refine st _ ((r_loadBlk rfl one4 ha2 rfl).to (b := (.bool c.keyed)) rfl) ?_
  refine st_nil ?_
  refine c_then ?_
  refine c_if rfl (fun h52 => ?_) (fun h52 => ?_)
  · skip
    first | (have h52n := of_decide_eq_true h52) | (have h52n := of_decide_eq_false (bnt h52)) | (have h52n := bnt h52) | (have h52n := h52)
    refine c_region ?_
    refine st _ (r_move rfl) ?_
    refine st _ (r_nil rfl) ?_
    refine st _ (r_field rfl off79_1) ?_
    refine st _ (r_field rfl off76_1) ?_
    refine st_store rfl rfl one33 rfl ha10 (Nat.le_of_ble_eq_true rfl) ?_
    have ha100 := ha10; clear ha10; intro w63 hm ha10
    have hS : ∀ b ∈ [ba10], ¬ Q41 b := by intro b hb; simp at hb; subst hb; exact n_ha10
    replace ha2 := ha2.md hm (by intro hb; simp at hb; omega)
    replace hO12 := hO12.md hm hS
    replace h16_0 := h16_0.md hm hS
    replace hO33 := hO33.md hm hS
    replace h37_0 := h37_0.md hm hS
    replace hO38 := hO38.md hm (apart_bo ha100 hO38 (by decide)) hS
    replace uQ := uQ.md hm
    replace M := M.step hm (all_cons p_ha10 all_nil)
    clear ha100 hS
    obtain ⟨s64, es64⟩ : ∃ y, y = ({ s55 with h := { s55.h with incompat := 4 } } : Mk) := ⟨_, rfl⟩
    replace ha10 : Blk _ _ (Mk.cells ({ s55 with h := { s55.h with incompat := 4 } }) v39 (.slice none 0 0) (.slice none 0 0) (.slice none 0 0)) _ := ha10
    rw [← es64] at ha10
    have oks64 : Mk.ok s64 := by rw [es64]; exact ⟨oks55.1, ⟨oks55.2.1.1, (by first | omega | assumption | (simp <;> omega) | simp_all), oks55.2.1.2.2.1, oks55.2.1.2.2.2.1, oks55.2.1.2.2.2.2.1, oks55.2.1.2.2.2.2.2.1, oks55.2.1.2.2.2.2.2.2.1, oks55.2.1.2.2.2.2.2.2.2.1, oks55.2.1.2.2.2.2.2.2.2.2.1, oks55.2.1.2.2.2.2.2.2.2.2.2.1, oks55.2.1.2.2.2.2.2.2.2.2.2.2⟩, oks55.2.2⟩
    have z65 : s64.b.length = s55.b.length := by rw [es64]
    have z66 : s64.datas.length = s55.datas.length := by rw [es64]
    have z67 : s64.fields.length = s55.fields.length := by rw [es64]
    have z68 : s64.c.dataSlots = s55.c.dataSlots := by rw [es64]
    have z69 : s64.c.fieldSlots = s55.c.fieldSlots := by rw [es64]
    have z70 : s64.h.n.getD 2 0 = s55.h.n.getD 2 0 := by rw [es64]
    have z71 : s64.h.n.getD 4 0 = s55.h.n.getD 4 0 := by rw [es64]
    rw [show s55.b = s64.b by rw [es64]] at hO38
    refine st_nil ?_
    refine c_then ?_
    refine c_seq ?_
    refine c_region ?_
    refine st _ (r_move rfl) ?_
    refine st _ (r_nil rfl) ?_
    refine st _ (r_field rfl off79_1) ?_
    refine st _ (r_field rfl off76_7) ?_
    refine st _ ((r_indexArrN (i := 0) 1 rfl rfl u74 el36 (by decide))) ?_
    refine st_store rfl rfl one36 rfl ha10 (Nat.le_of_ble_eq_true rfl) ?_
    have ha100 := ha10; clear ha10; intro w72 hm ha10
    have hS : ∀ b ∈ [ba10], ¬ Q41 b := by intro b hb; simp at hb; subst hb; exact n_ha10
    replace ha2 := ha2.md hm (by intro hb; simp at hb; omega)
    replace hO12 := hO12.md hm hS
    replace h16_0 := h16_0.md hm hS
    replace hO33 := hO33.md hm hS
    replace h37_0 := h37_0.md hm hS
    replace hO38 := hO38.md hm (apart_bo ha100 hO38 (by decide)) hS
    replace uQ := uQ.md hm
    replace M := M.step hm (all_cons p_ha10 all_nil)
    clear ha100 hS
    obtain ⟨s73, es73⟩ : ∃ y, y = ({ s64 with h := { s64.h with n := s64.h.n.set 0 272 } } : Mk) := ⟨_, rfl⟩
    replace ha10 : Blk w72 ba10 (Mk.cells ({ s64 with h := { s64.h with n := s64.h.n.set 0 272 } }) v39 (.slice none 0 0) (.slice none 0 0) (.slice none 0 0)) 79 := by
      have hh := ha10
      simp only [Mk.cells, RHead.cells]
      rw [nums20_set (by first | exact oks64.2.1.2.2.2.2.2.2.2.1.1 | assumption | simp_all) (by decide)]
      exact hh
    rw [← es73] at ha10
    have oks73 : Mk.ok s73 := by rw [es73]; exact ⟨oks64.1, ⟨oks64.2.1.1, oks64.2.1.2.1, oks64.2.1.2.2.1, oks64.2.1.2.2.2.1, oks64.2.1.2.2.2.2.1, oks64.2.1.2.2.2.2.2.1, oks64.2.1.2.2.2.2.2.2.1, (nums_set oks64.2.1.2.2.2.2.2.2.2.1 (by first | omega | (simp <;> omega) | simp_all)), oks64.2.1.2.2.2.2.2.2.2.2.1, oks64.2.1.2.2.2.2.2.2.2.2.2.1, oks64.2.1.2.2.2.2.2.2.2.2.2.2⟩, oks64.2.2⟩
    have z74 : s73.b.length = s64.b.length := by rw [es73]
    have z75 : s73.datas.length = s64.datas.length := by rw [es73]
    have z76 : s73.fields.length = s64.fields.length := by rw [es73]
    have z77 : s73.c.dataSlots = s64.c.dataSlots := by rw [es73]
    have z78 : s73.c.fieldSlots = s64.c.fieldSlots := by rw [es73]
    have z79 : s73.h.n.getD 2 0 = s64.h.n.getD 2 0 := by rw [es73]; exact getD_set_ne' (by decide)
    have z80 : s73.h.n.getD 4 0 = s64.h.n.getD 4 0 := by rw [es73]; exact getD_set_ne' (by decide)
    rw [show s64.b = s73.b by rw [es73]] at hO38
    refine st_nil ?_
    refine c_then ?_
    refine c_seq ?_
    refine c_region ?_
    refine st _ (r_move rfl) ?_
    refine st _ (r_nil rfl) ?_
    refine st _ (r_field rfl off79_1) ?_
    refine st _ (r_field rfl off76_7) ?_
    refine st _ ((r_indexArrN (i := 2) 1 rfl rfl u74 el36 (by decide))) ?_
    refine st_store rfl rfl one36 rfl ha10 (Nat.le_of_ble_eq_true rfl) ?_
    have ha100 := ha10; clear ha10; intro w81 hm ha10
    have hS : ∀ b ∈ [ba10], ¬ Q41 b := by intro b hb; simp at hb; subst hb; exact n_ha10
    replace ha2 := ha2.md hm (by intro hb; simp at hb; omega)
    replace hO12 := hO12.md hm hS
    replace h16_0 := h16_0.md hm hS
    replace hO33 := hO33.md hm hS
    replace h37_0 := h37_0.md hm hS
    replace hO38 := hO38.md hm (apart_bo ha100 hO38 (by decide)) hS
    replace uQ := uQ.md hm
    replace M := M.step hm (all_cons p_ha10 all_nil)
    clear ha100 hS
    obtain ⟨s82, es82⟩ : ∃ y, y = ({ s73 with h := { s73.h with n := s73.h.n.set 2 288 } } : Mk) := ⟨_, rfl⟩
    replace ha10 : Blk w81 ba10 (Mk.cells ({ s73 with h := { s73.h with n := s73.h.n.set 2 288 } }) v39 (.slice none 0 0) (.slice none 0 0) (.slice none 0 0)) 79 := by
      have hh := ha10
      simp only [Mk.cells, RHead.cells]
      rw [nums20_set (by first | exact oks73.2.1.2.2.2.2.2.2.2.1.1 | assumption | simp_all) (by decide)]
      exact hh
    rw [← es82] at ha10
    have oks82 : Mk.ok s82 := by rw [es82]; exact ⟨oks73.1, ⟨oks73.2.1.1, oks73.2.1.2.1, oks73.2.1.2.2.1, oks73.2.1.2.2.2.1, oks73.2.1.2.2.2.2.1, oks73.2.1.2.2.2.2.2.1, oks73.2.1.2.2.2.2.2.2.1, (nums_set oks73.2.1.2.2.2.2.2.2.2.1 (by first | omega | (simp <;> omega) | simp_all)), oks73.2.1.2.2.2.2.2.2.2.2.1, oks73.2.1.2.2.2.2.2.2.2.2.2.1, oks73.2.1.2.2.2.2.2.2.2.2.2.2⟩, oks73.2.2⟩
    have z83 : s82.b.length = s73.b.length := by rw [es82]
    have z84 : s82.datas.length = s73.datas.length := by rw [es82]
    have z85 : s82.fields.length = s73.fields.length := by rw [es82]
    have z86 : s82.c.dataSlots = s73.c.dataSlots := by rw [es82]
    have z87 : s82.c.fieldSlots = s73.c.fieldSlots := by rw [es82]
    have z89 : s82.h.n.getD 4 0 = s73.h.n.getD 4 0 := by rw [es82]; exact getD_set_ne' (by decide)
    rw [show s73.b = s82.b by rw [es82]] at hO38
    refine st_nil ?_
    refine c_then ?_
    refine c_seq ?_
    have ha2_q := ha2
    have hO12_q := hO12
    have h16_0_q := h16_0
    have hO33_q := hO33
    have h37_0_q := h37_0
    have hO38_q := hO38
    have ha10_q := ha10
    refine c_mixT [(0, true), (1, true), (2, true), (3, true), (4, true), (5, true), (6, true), (7, true)] [8, 9] (fun w' => Md [] w81 w') mixed (by kernel_rfl) ?_
    intro w90 hd0; refine ⟨hd0.mono (by simp), ?_⟩; have MC := hd0.mono (T := []) (by simp)
    refine Go.Wk.m _ (fun w' hc => r_move rfl) ?_
    refine Go.Wk.m _ (fun w' hc => r_field rfl off64_3) ?_
    refine Go.Wk.m _ (fun w' hc => (r_loadBlk rfl one3 (ha2_q.md0 hc) rfl).to (b := (.int .i64 ((c.dataSlots : Nat) : Int))) rfl) ?_
    refine Go.Wk.m _ (fun w' hc => r_mulN (a := 16) (b := c.dataSlots) 9223372036854775808 rfl rfl rfl (by omega)) ?_
    refine Go.Wk.m _ (fun w' hc => r_convN (a := 16 * c.dataSlots) 18446744073709551616 rfl (by rw [u3]; rfl) u36 rfl (by first | omega | (have := u8lt; omega))) ?_
    refine Go.Wk.m _ (fun w' hc => r_nil rfl) ?_
    refine Go.Wk.m _ (fun w' hc => r_field rfl off79_1) ?_
    refine Go.Wk.m _ (fun w' hc => r_field rfl off76_7) ?_
    refine m_nil ?_
    replace ha2 := ha2.md0 hd0
    replace hO12 := hO12.md0 hd0
    replace h16_0 := h16_0.md0 hd0
    replace hO33 := hO33.md0 hd0
    replace h37_0 := h37_0.md0 hd0
    replace hO38 := hO38.md0 hd0
    replace ha10 := ha10.md0 hd0
    replace uQ := uQ.md hd0
    replace M := M.step0 hd0
    clear h37_0_q h16_0_q hO38_q hO12_q ha10_q hO33_q ha2_q
    clear MC
    refine st _ ((r_indexArrN (i := 3) 1 rfl rfl u74 el36 (by decide))) ?_
    refine st_store rfl rfl one36 rfl ha10 (Nat.le_of_ble_eq_true rfl) ?_
    have ha100 := ha10; clear ha10; intro w91 hm ha10
    have hS : ∀ b ∈ [ba10], ¬ Q41 b := by intro b hb; simp at hb; subst hb; exact n_ha10
    replace ha2 := ha2.md hm (by intro hb; simp at hb; omega)
    replace hO12 := hO12.md hm hS
    replace h16_0 := h16_0.md hm hS
    replace hO33 := hO33.md hm hS
    replace h37_0 := h37_0.md hm hS
    replace hO38 := hO38.md hm (apart_bo ha100 hO38 (by decide)) hS
    replace uQ := uQ.md hm
    replace M := M.step hm (all_cons p_ha10 all_nil)
    clear ha100 hS
    obtain ⟨s92, es92⟩ : ∃ y, y = ({ s82 with h := { s82.h with n := s82.h.n.set 3 (16 * c.dataSlots) } } : Mk) := ⟨_, rfl⟩
    replace ha10 : Blk w91 ba10 (Mk.cells ({ s82 with h := { s82.h with n := s82.h.n.set 3 (16 * c.dataSlots) } }) v39 (.slice none 0 0) (.slice none 0 0) (.slice none 0 0)) 79 := by
      have hh := ha10
      simp only [Mk.cells, RHead.cells]
      rw [nums20_set (by first | exact oks82.2.1.2.2.2.2.2.2.2.1.1 | assumption | simp_all) (by decide)]
      exact hh
    rw [← es92] at ha10
    have oks92 : Mk.ok s92 := by rw [es92]; exact ⟨oks82.1, ⟨oks82.2.1.1, oks82.2.1.2.1, oks82.2.1.2.2.1, oks82.2.1.2.2.2.1, oks82.2.1.2.2.2.2.1, oks82.2.1.2.2.2.2.2.1, oks82.2.1.2.2.2.2.2.2.1, (nums_set oks82.2.1.2.2.2.2.2.2.2.1 (by first | omega | (simp <;> omega) | simp_all)), oks82.2.1.2.2.2.2.2.2.2.2.1, oks82.2.1.2.2.2.2.2.2.2.2.2.1, oks82.2.1.2.2.2.2.2.2.2.2.2.2⟩, oks82.2.2⟩
    have z93 : s92.b.length = s82.b.length := by rw [es92]
    have z94 : s92.datas.length = s82.datas.length := by rw [es92]
    have z95 : s92.fields.length = s82.fields.length := by rw [es92]
    have z96 : s92.c.dataSlots = s82.c.dataSlots := by rw [es92]
    have z97 : s92.c.fieldSlots = s82.c.fieldSlots := by rw [es92]
    have z98 : s92.h.n.getD 2 0 = s82.h.n.getD 2 0 := by rw [es92]; exact getD_set_ne' (by decide)
    have z99 : s92.h.n.getD 4 0 = s82.h.n.getD 4 0 := by rw [es92]; exact getD_set_ne' (by decide)
    rw [show s82.b = s92.b by rw [es92]] at hO38
    refine st_nil ?_
    refine c_then ?_
    refine c_seq ?_
    refine c_region ?_
    refine st _ (r_move rfl) ?_
    refine st _ (r_move rfl) ?_
    refine st _ (r_addN (a := s22.b.length) (b := 16) 18446744073709551616 rfl rfl rfl (by omega)) ?_
    refine st _ (r_nil rfl) ?_
    refine st _ (r_field rfl off79_1) ?_
    refine st _ (r_field rfl off76_7) ?_
    refine st _ ((r_indexArrN (i := 4) 1 rfl rfl u74 el36 (by decide))) ?_
    refine st_store rfl rfl one36 rfl ha10 (Nat.le_of_ble_eq_true rfl) ?_
    have ha100 := ha10; clear ha10; intro w100 hm ha10
    have hS : ∀ b ∈ [ba10], ¬ Q41 b := by intro b hb; simp at hb; subst hb; exact n_ha10
    replace ha2 := ha2.md hm (by intro hb; simp at hb; omega)
    replace hO12 := hO12.md hm hS
    replace h16_0 := h16_0.md hm hS
    replace hO33 := hO33.md hm hS
    replace h37_0 := h37_0.md hm hS
    replace hO38 := hO38.md hm (apart_bo ha100 hO38 (by decide)) hS
    replace uQ := uQ.md hm
    replace M := M.step hm (all_cons p_ha10 all_nil)
    clear ha100 hS
    obtain ⟨s101, es101⟩ : ∃ y, y = ({ s92 with h := { s92.h with n := s92.h.n.set 4 (s22.b.length + 16) } } : Mk) := ⟨_, rfl⟩
    replace ha10 : Blk w100 ba10 (Mk.cells ({ s92 with h := { s92.h with n := s92.h.n.set 4 (s22.b.length + 16) } }) v39 (.slice none 0 0) (.slice none 0 0) (.slice none 0 0)) 79 := by
      have hh := ha10
      simp only [Mk.cells, RHead.cells]
      rw [nums20_set (by first | exact oks92.2.1.2.2.2.2.2.2.2.1.1 | assumption | simp_all) (by decide)]
      exact hh
    rw [← es101] at ha10
    have oks101 : Mk.ok s101 := by rw [es101]; exact ⟨oks92.1, ⟨oks92.2.1.1, oks92.2.1.2.1, oks92.2.1.2.2.1, oks92.2.1.2.2.2.1, oks92.2.1.2.2.2.2.1, oks92.2.1.2.2.2.2.2.1, oks92.2.1.2.2.2.2.2.2.1, (nums_set oks92.2.1.2.2.2.2.2.2.2.1 (by first | omega | (simp <;> omega) | simp_all)), oks92.2.1.2.2.2.2.2.2.2.2.1, oks92.2.1.2.2.2.2.2.2.2.2.2.1, oks92.2.1.2.2.2.2.2.2.2.2.2.2⟩, oks92.2.2⟩
    have z102 : s101.b.length = s92.b.length := by rw [es101]
    have z103 : s101.datas.length = s92.datas.length := by rw [es101]
    have z104 : s101.fields.length = s92.fields.length := by rw [es101]
    have z105 : s101.c.dataSlots = s92.c.dataSlots := by rw [es101]
    have z106 : s101.c.fieldSlots = s92.c.fieldSlots := by rw [es101]
    have z107 : s101.h.n.getD 2 0 = s92.h.n.getD 2 0 := by rw [es101]; exact getD_set_ne' (by decide)
    rw [show s92.b = s101.b by rw [es101]] at hO38
    refine st_nil ?_
    refine c_then ?_
    refine c_seq ?_
    have ha2_q := ha2
    have hO12_q := hO12
    have h16_0_q := h16_0
    have hO33_q := hO33
    have h37_0_q := h37_0
    have hO38_q := hO38
    have ha10_q := ha10
    refine c_mixT [(0, true), (1, true), (2, true), (3, true), (4, true), (5, true), (6, true), (7, true)] [8, 9] (fun w' => Md [] w100 w') mixed (by kernel_rfl) ?_
    intro w109 hd0; refine ⟨hd0.mono (by simp), ?_⟩; have MC := hd0.mono (T := []) (by simp)
    refine Go.Wk.m _ (fun w' hc => r_move rfl) ?_
    refine Go.Wk.m _ (fun w' hc => r_field rfl off64_4) ?_
    refine Go.Wk.m _ (fun w' hc => (r_loadBlk rfl one3 (ha2_q.md0 hc) rfl).to (b := (.int .i64 ((c.fieldSlots : Nat) : Int))) rfl) ?_
    refine Go.Wk.m _ (fun w' hc => r_mulN (a := 16) (b := c.fieldSlots) 9223372036854775808 rfl rfl rfl (by omega)) ?_
    refine Go.Wk.m _ (fun w' hc => r_convN (a := 16 * c.fieldSlots) 18446744073709551616 rfl (by rw [u3]; rfl) u36 rfl (by first | omega | (have := u8lt; omega))) ?_
    refine Go.Wk.m _ (fun w' hc => r_nil rfl) ?_
    refine Go.Wk.m _ (fun w' hc => r_field rfl off79_1) ?_
    refine Go.Wk.m _ (fun w' hc => r_field rfl off76_7) ?_
    refine m_nil ?_
    replace ha2 := ha2.md0 hd0
    replace hO12 := hO12.md0 hd0
    replace h16_0 := h16_0.md0 hd0
    replace hO33 := hO33.md0 hd0
    replace h37_0 := h37_0.md0 hd0
    replace hO38 := hO38.md0 hd0
    replace ha10 := ha10.md0 hd0
    replace uQ := uQ.md hd0
    replace M := M.step0 hd0
    clear h37_0_q h16_0_q hO38_q hO12_q ha10_q hO33_q ha2_q
    clear MC
    refine st _ ((r_indexArrN (i := 5) 1 rfl rfl u74 el36 (by decide))) ?_
    refine st_store rfl rfl one36 rfl ha10 (Nat.le_of_ble_eq_true rfl) ?_
    have ha100 := ha10; clear ha10; intro w110 hm ha10
    have hS : ∀ b ∈ [ba10], ¬ Q41 b := by intro b hb; simp at hb; subst hb; exact n_ha10
    replace ha2 := ha2.md hm (by intro hb; simp at hb; omega)
    replace hO12 := hO12.md hm hS
    replace h16_0 := h16_0.md hm hS
    replace hO33 := hO33.md hm hS
    replace h37_0 := h37_0.md hm hS
    replace hO38 := hO38.md hm (apart_bo ha100 hO38 (by decide)) hS
    replace uQ := uQ.md hm
    replace M := M.step hm (all_cons p_ha10 all_nil)
    clear ha100 hS
    obtain ⟨s111, es111⟩ : ∃ y, y = ({ s101 with h := { s101.h with n := s101.h.n.set 5 (16 * c.fieldSlots) } } : Mk) := ⟨_, rfl⟩
    replace ha10 : Blk w110 ba10 (Mk.cells ({ s101 with h := { s101.h with n := s101.h.n.set 5 (16 * c.fieldSlots) } }) v39 (.slice none 0 0) (.slice none 0 0) (.slice none 0 0)) 79 := by
      have hh := ha10
      simp only [Mk.cells, RHead.cells]
      rw [nums20_set (by first | exact oks101.2.1.2.2.2.2.2.2.2.1.1 | assumption | simp_all) (by decide)]
      exact hh
    rw [← es111] at ha10
    have oks111 : Mk.ok s111 := by rw [es111]; exact ⟨oks101.1, ⟨oks101.2.1.1, oks101.2.1.2.1, oks101.2.1.2.2.1, oks101.2.1.2.2.2.1, oks101.2.1.2.2.2.2.1, oks101.2.1.2.2.2.2.2.1, oks101.2.1.2.2.2.2.2.2.1, (nums_set oks101.2.1.2.2.2.2.2.2.2.1 (by first | omega | (simp <;> omega) | simp_all)), oks101.2.1.2.2.2.2.2.2.2.2.1, oks101.2.1.2.2.2.2.2.2.2.2.2.1, oks101.2.1.2.2.2.2.2.2.2.2.2.2⟩, oks101.2.2⟩
    have z112 : s111.b.length = s101.b.length := by rw [es111]
    have z113 : s111.datas.length = s101.datas.length := by rw [es111]
    have z114 : s111.fields.length = s101.fields.length := by rw [es111]
    have z115 : s111.c.dataSlots = s101.c.dataSlots := by rw [es111]
    have z116 : s111.c.fieldSlots = s101.c.fieldSlots := by rw [es111]
    have z117 : s111.h.n.getD 2 0 = s101.h.n.getD 2 0 := by rw [es111]; exact getD_set_ne' (by decide)
    have z118 : s111.h.n.getD 4 0 = s101.h.n.getD 4 0 := by rw [es111]; exact getD_set_ne' (by decide)
    rw [show s101.b = s111.b by rw [es111]] at hO38
    refine st_nil ?_
    refine c_then ?_
    refine c_seq ?_
    refine c_region ?_
    refine st _ (r_move rfl) ?_
    refine st _ (r_move rfl) ?_
    refine st _ (r_nil rfl) ?_
    refine st _ (r_field rfl off79_1) ?_
    refine st _ (r_field rfl off76_7) ?_
    refine st _ ((r_indexArrN (i := 6) 1 rfl rfl u74 el36 (by decide))) ?_
    refine st_store rfl rfl one36 rfl ha10 (Nat.le_of_ble_eq_true rfl) ?_
    have ha100 := ha10; clear ha10; intro w119 hm ha10
    have hS : ∀ b ∈ [ba10], ¬ Q41 b := by intro b hb; simp at hb; subst hb; exact n_ha10
    replace ha2 := ha2.md hm (by intro hb; simp at hb; omega)
    replace hO12 := hO12.md hm hS
    replace h16_0 := h16_0.md hm hS
    replace hO33 := hO33.md hm hS
    replace h37_0 := h37_0.md hm hS
    replace hO38 := hO38.md hm (apart_bo ha100 hO38 (by decide)) hS
    replace uQ := uQ.md hm
    replace M := M.step hm (all_cons p_ha10 all_nil)
    clear ha100 hS
    obtain ⟨s120, es120⟩ : ∃ y, y = ({ s111 with h := { s111.h with n := s111.h.n.set 6 s22.b.length } } : Mk) := ⟨_, rfl⟩
    replace ha10 : Blk w119 ba10 (Mk.cells ({ s111 with h := { s111.h with n := s111.h.n.set 6 s22.b.length } }) v39 (.slice none 0 0) (.slice none 0 0) (.slice none 0 0)) 79 := by
      have hh := ha10
      simp only [Mk.cells, RHead.cells]
      rw [nums20_set (by first | exact oks111.2.1.2.2.2.2.2.2.2.1.1 | assumption | simp_all) (by decide)]
      exact hh
    rw [← es120] at ha10
    have oks120 : Mk.ok s120 := by rw [es120]; exact ⟨oks111.1, ⟨oks111.2.1.1, oks111.2.1.2.1, oks111.2.1.2.2.1, oks111.2.1.2.2.2.1, oks111.2.1.2.2.2.2.1, oks111.2.1.2.2.2.2.2.1, oks111.2.1.2.2.2.2.2.2.1, (nums_set oks111.2.1.2.2.2.2.2.2.2.1 (by first | omega | (simp <;> omega) | simp_all)), oks111.2.1.2.2.2.2.2.2.2.2.1, oks111.2.1.2.2.2.2.2.2.2.2.2.1, oks111.2.1.2.2.2.2.2.2.2.2.2.2⟩, oks111.2.2⟩
    have z121 : s120.b.length = s111.b.length := by rw [es120]
    have z122 : s120.datas.length = s111.datas.length := by rw [es120]
    have z123 : s120.fields.length = s111.fields.length := by rw [es120]
    have z124 : s120.c.dataSlots = s111.c.dataSlots := by rw [es120]
    have z125 : s120.c.fieldSlots = s111.c.fieldSlots := by rw [es120]
    have z126 : s120.h.n.getD 2 0 = s111.h.n.getD 2 0 := by rw [es120]; exact getD_set_ne' (by decide)
    have z127 : s120.h.n.getD 4 0 = s111.h.n.getD 4 0 := by rw [es120]; exact getD_set_ne' (by decide)
    rw [show s111.b = s120.b by rw [es120]] at hO38
    refine st_nil ?_
    refine c_then ?_
    refine c_seq ?_
    refine c_region ?_
    refine st _ (r_move rfl) ?_
    refine st _ (r_nil rfl) ?_
    refine st _ (r_field rfl off79_1) ?_
    refine st _ (r_field rfl off76_7) ?_
    refine st _ ((r_indexArrN (i := 7) 1 rfl rfl u74 el36 (by decide))) ?_
    refine st_store rfl rfl one36 rfl ha10 (Nat.le_of_ble_eq_true rfl) ?_
    have ha100 := ha10; clear ha10; intro w128 hm ha10
    have hS : ∀ b ∈ [ba10], ¬ Q41 b := by intro b hb; simp at hb; subst hb; exact n_ha10
    replace ha2 := ha2.md hm (by intro hb; simp at hb; omega)
    replace hO12 := hO12.md hm hS
    replace h16_0 := h16_0.md hm hS
    replace hO33 := hO33.md hm hS
    replace h37_0 := h37_0.md hm hS
    replace hO38 := hO38.md hm (apart_bo ha100 hO38 (by decide)) hS
    replace uQ := uQ.md hm
    replace M := M.step hm (all_cons p_ha10 all_nil)
    clear ha100 hS
    obtain ⟨s129, es129⟩ : ∃ y, y = ({ s120 with h := { s120.h with n := s120.h.n.set 7 2 } } : Mk) := ⟨_, rfl⟩
    replace ha10 : Blk w128 ba10 (Mk.cells ({ s120 with h := { s120.h with n := s120.h.n.set 7 2 } }) v39 (.slice none 0 0) (.slice none 0 0) (.slice none 0 0)) 79 := by
      have hh := ha10
      simp only [Mk.cells, RHead.cells]
      rw [nums20_set (by first | exact oks120.2.1.2.2.2.2.2.2.2.1.1 | assumption | simp_all) (by decide)]
      exact hh
    rw [← es129] at ha10
    have oks129 : Mk.ok s129 := by rw [es129]; exact ⟨oks120.1, ⟨oks120.2.1.1, oks120.2.1.2.1, oks120.2.1.2.2.1, oks120.2.1.2.2.2.1, oks120.2.1.2.2.2.2.1, oks120.2.1.2.2.2.2.2.1, oks120.2.1.2.2.2.2.2.2.1, (nums_set oks120.2.1.2.2.2.2.2.2.2.1 (by first | omega | (simp <;> omega) | simp_all)), oks120.2.1.2.2.2.2.2.2.2.2.1, oks120.2.1.2.2.2.2.2.2.2.2.2.1, oks120.2.1.2.2.2.2.2.2.2.2.2.2⟩, oks120.2.2⟩
    have z130 : s129.b.length = s120.b.length := by rw [es129]
    have z131 : s129.datas.length = s120.datas.length := by rw [es129]
    have z132 : s129.fields.length = s120.fields.length := by rw [es129]
    have z133 : s129.c.dataSlots = s120.c.dataSlots := by rw [es129]
    have z134 : s129.c.fieldSlots = s120.c.fieldSlots := by rw [es129]
    have z135 : s129.h.n.getD 2 0 = s120.h.n.getD 2 0 := by rw [es129]; exact getD_set_ne' (by decide)
    have z136 : s129.h.n.getD 4 0 = s120.h.n.getD 4 0 := by rw [es129]; exact getD_set_ne' (by decide)
    rw [show s120.b = s129.b by rw [es129]] at hO38
    refine st_nil ?_
    refine c_then ?_
    refine c_seq ?_
    refine c_region ?_
    refine st _ (r_move rfl) ?_
    refine st _ (r_move rfl) ?_
    refine st _ (r_nil rfl) ?_
    refine st _ (r_field rfl off79_1) ?_
    refine st _ (r_field rfl off76_7) ?_
    refine st _ ((r_indexArrN (i := 9) 1 rfl rfl u74 el36 (by decide))) ?_
    refine st_store rfl rfl one36 rfl ha10 (Nat.le_of_ble_eq_true rfl) ?_
    have ha100 := ha10; clear ha10; intro w137 hm ha10
    have hS : ∀ b ∈ [ba10], ¬ Q41 b := by intro b hb; simp at hb; subst hb; exact n_ha10
    replace ha2 := ha2.md hm (by intro hb; simp at hb; omega)
    replace hO12 := hO12.md hm hS
    replace h16_0 := h16_0.md hm hS
    replace hO33 := hO33.md hm hS
    replace h37_0 := h37_0.md hm hS
    replace hO38 := hO38.md hm (apart_bo ha100 hO38 (by decide)) hS
    replace uQ := uQ.md hm
    replace M := M.step hm (all_cons p_ha10 all_nil)
    clear ha100 hS
    obtain ⟨s138, es138⟩ : ∃ y, y = ({ s129 with h := { s129.h with n := s129.h.n.set 9 tail } } : Mk) := ⟨_, rfl⟩
    replace ha10 : Blk w137 ba10 (Mk.cells ({ s129 with h := { s129.h with n := s129.h.n.set 9 tail } }) v39 (.slice none 0 0) (.slice none 0 0) (.slice none 0 0)) 79 := by
      have hh := ha10
      simp only [Mk.cells, RHead.cells]
      rw [nums20_set (by first | exact oks129.2.1.2.2.2.2.2.2.2.1.1 | assumption | simp_all) (by decide)]
      exact hh
    rw [← es138] at ha10
    have oks138 : Mk.ok s138 := by rw [es138]; exact ⟨oks129.1, ⟨oks129.2.1.1, oks129.2.1.2.1, oks129.2.1.2.2.1, oks129.2.1.2.2.2.1, oks129.2.1.2.2.2.2.1, oks129.2.1.2.2.2.2.2.1, oks129.2.1.2.2.2.2.2.2.1, (nums_set oks129.2.1.2.2.2.2.2.2.2.1 (by first | omega | (simp <;> omega) | simp_all)), oks129.2.1.2.2.2.2.2.2.2.2.1, oks129.2.1.2.2.2.2.2.2.2.2.2.1, oks129.2.1.2.2.2.2.2.2.2.2.2.2⟩, oks129.2.2⟩
    have z139 : s138.b.length = s129.b.length := by rw [es138]
    have z140 : s138.datas.length = s129.datas.length := by rw [es138]
    have z141 : s138.fields.length = s129.fields.length := by rw [es138]
    have z142 : s138.c.dataSlots = s129.c.dataSlots := by rw [es138]
    have z143 : s138.c.fieldSlots = s129.c.fieldSlots := by rw [es138]
    have z144 : s138.h.n.getD 2 0 = s129.h.n.getD 2 0 := by rw [es138]; exact getD_set_ne' (by decide)
    have z145 : s138.h.n.getD 4 0 = s129.h.n.getD 4 0 := by rw [es138]; exact getD_set_ne' (by decide)
    rw [show s129.b = s138.b by rw [es138]] at hO38
    refine st_nil ?_
    refine c_then ?_
    refine c_seq ?_
    refine c_region ?_
    refine st _ (r_move rfl) ?_
    refine st _ (r_assign rfl) ?_
    refine st_nil ?_
    refine c_then ?_
    refine c_ret ?_
    exact ret1L (v := (.pointer (some ⟨ba10, 0, none⟩))) trivial rfl ⟨rfl, trivial⟩ ⟨ba10, _, _, _, _, s138, Q41, rfl, M, ⟨sQ0, tQ, uQ⟩, ha10, n_ha10, ga10, oks138, hO38, (by first | exact Ow.nil _ _ _ _ _ | (simp only [es22, es43, es55, es64, es73, es82, es92, es101, es111, es120, es129, es138]; exact Ow.nil _ _ _ _ _)), (by first | exact Ow.nil _ _ _ _ _ | (simp only [es22, es43, es55, es64, es73, es82, es92, es101, es111, es120, es129, es138]; exact Ow.nil _ _ _ _ _)), (by first | exact Ls.nil _ _ _ | (simp only [es22, es43, es55, es64, es73, es82, es92, es101, es111, es120, es129, es138]; exact Ls.nil _ _ _)), (fun x hx => by simp [vblock] at hx), (by (try simp only [es22, es43, es55, es64, es73, es82, es92, es101, es111, es120, es129, es138] at hF16 hF37); rw [newMk] <;> simp (disch := first | omega | assumption | (simp; done) | fail) only [Mk.setN, idZ, if_pos, if_neg, Option.getD_some, Option.some.injEq, reduceIte, Bool.false_eq_true, Bool.true_eq_false, decide_true, decide_false, not_true_eq_false, not_false_eq_true, hF16, es22, hF37, es43, es55, h52n, es64, es73, es82, es92, es101, es111, es120, es129, es138])⟩
  · skip
    first | (have h52n := of_decide_eq_false h52) | (have h52n := of_decide_eq_true (bnf h52)) | (have h52n := bnf h52) | (have h52n := h52)
    refine c_skip ?_
    refine c_then ?_
    refine c_seq ?_
    refine c_region ?_
    refine st _ (r_move rfl) ?_
    refine st _ (r_nil rfl) ?_
    refine st _ (r_field rfl off79_1) ?_
    refine st _ (r_field rfl off76_7) ?_
    refine st _ ((r_indexArrN (i := 0) 1 rfl rfl u74 el36 (by decide))) ?_
    refine st_store rfl rfl one36 rfl ha10 (Nat.le_of_ble_eq_true rfl) ?_
    have ha100 := ha10; clear ha10; intro w146 hm ha10
    have hS : ∀ b ∈ [ba10], ¬ Q41 b := by intro b hb; simp at hb; subst hb; exact n_ha10
    replace ha2 := ha2.md hm (by intro hb; simp at hb; omega)
    replace hO12 := hO12.md hm hS
    replace h16_0 := h16_0.md hm hS
    replace hO33 := hO33.md hm hS
    replace h37_0 := h37_0.md hm hS
    replace hO38 := hO38.md hm (apart_bo ha100 hO38 (by decide)) hS
    replace uQ := uQ.md hm
    replace M := M.step hm (all_cons p_ha10 all_nil)
    clear ha100 hS
    obtain ⟨s147, es147⟩ : ∃ y, y = ({ s55 with h := { s55.h with n := s55.h.n.set 0 272 } } : Mk) := ⟨_, rfl⟩
    replace ha10 : Blk w146 ba10 (Mk.cells ({ s55 with h := { s55.h with n := s55.h.n.set 0 272 } }) v39 (.slice none 0 0) (.slice none 0 0) (.slice none 0 0)) 79 := by
      have hh := ha10
      simp only [Mk.cells, RHead.cells]
      rw [nums20_set (by first | exact oks55.2.1.2.2.2.2.2.2.2.1.1 | assumption | simp_all) (by decide)]
      exact hh
    rw [← es147] at ha10
    have oks147 : Mk.ok s147 := by rw [es147]; exact ⟨oks55.1, ⟨oks55.2.1.1, oks55.2.1.2.1, oks55.2.1.2.2.1, oks55.2.1.2.2.2.1, oks55.2.1.2.2.2.2.1, oks55.2.1.2.2.2.2.2.1, oks55.2.1.2.2.2.2.2.2.1, (nums_set oks55.2.1.2.2.2.2.2.2.2.1 (by first | omega | (simp <;> omega) | simp_all)), oks55.2.1.2.2.2.2.2.2.2.2.1, oks55.2.1.2.2.2.2.2.2.2.2.2.1, oks55.2.1.2.2.2.2.2.2.2.2.2.2⟩, oks55.2.2⟩
    have z148 : s147.b.length = s55.b.length := by rw [es147]
    have z149 : s147.datas.length = s55.datas.length := by rw [es147]
    have z150 : s147.fields.length = s55.fields.length := by rw [es147]
    have z151 : s147.c.dataSlots = s55.c.dataSlots := by rw [es147]
    have z152 : s147.c.fieldSlots = s55.c.fieldSlots := by rw [es147]
    have z153 : s147.h.n.getD 2 0 = s55.h.n.getD 2 0 := by rw [es147]; exact getD_set_ne' (by decide)
    have z154 : s147.h.n.getD 4 0 = s55.h.n.getD 4 0 := by rw [es147]; exact getD_set_ne' (by decide)
    rw [show s55.b = s147.b by rw [es147]] at hO38
    refine st_nil ?_
    refine c_then ?_
    refine c_seq ?_
    refine c_region ?_
    refine st _ (r_move rfl) ?_
    refine st _ (r_nil rfl) ?_
    refine st _ (r_field rfl off79_1) ?_
    refine st _ (r_field rfl off76_7) ?_
    refine st _ ((r_indexArrN (i := 2) 1 rfl rfl u74 el36 (by decide))) ?_
    refine st_store rfl rfl one36 rfl ha10 (Nat.le_of_ble_eq_true rfl) ?_
    have ha100 := ha10; clear ha10; intro w155 hm ha10
    have hS : ∀ b ∈ [ba10], ¬ Q41 b := by intro b hb; simp at hb; subst hb; exact n_ha10
    replace ha2 := ha2.md hm (by intro hb; simp at hb; omega)
    replace hO12 := hO12.md hm hS
    replace h16_0 := h16_0.md hm hS
    replace hO33 := hO33.md hm hS
    replace h37_0 := h37_0.md hm hS
    replace hO38 := hO38.md hm (apart_bo ha100 hO38 (by decide)) hS
    replace uQ := uQ.md hm
    replace M := M.step hm (all_cons p_ha10 all_nil)
    clear ha100 hS
    obtain ⟨s156, es156⟩ : ∃ y, y = ({ s147 with h := { s147.h with n := s147.h.n.set 2 288 } } : Mk) := ⟨_, rfl⟩
    replace ha10 : Blk w155 ba10 (Mk.cells ({ s147 with h := { s147.h with n := s147.h.n.set 2 288 } }) v39 (.slice none 0 0) (.slice none 0 0) (.slice none 0 0)) 79 := by
      have hh := ha10
      simp only [Mk.cells, RHead.cells]
      rw [nums20_set (by first | exact oks147.2.1.2.2.2.2.2.2.2.1.1 | assumption | simp_all) (by decide)]
      exact hh
    rw [← es156] at ha10
    have oks156 : Mk.ok s156 := by rw [es156]; exact ⟨oks147.1, ⟨oks147.2.1.1, oks147.2.1.2.1, oks147.2.1.2.2.1, oks147.2.1.2.2.2.1, oks147.2.1.2.2.2.2.1, oks147.2.1.2.2.2.2.2.1, oks147.2.1.2.2.2.2.2.2.1, (nums_set oks147.2.1.2.2.2.2.2.2.2.1 (by first | omega | (simp <;> omega) | simp_all)), oks147.2.1.2.2.2.2.2.2.2.2.1, oks147.2.1.2.2.2.2.2.2.2.2.2.1, oks147.2.1.2.2.2.2.2.2.2.2.2.2⟩, oks147.2.2⟩
    have z157 : s156.b.length = s147.b.length := by rw [es156]
    have z158 : s156.datas.length = s147.datas.length := by rw [es156]
    have z159 : s156.fields.length = s147.fields.length := by rw [es156]
    have z160 : s156.c.dataSlots = s147.c.dataSlots := by rw [es156]
    have z161 : s156.c.fieldSlots = s147.c.fieldSlots := by rw [es156]
    have z163 : s156.h.n.getD 4 0 = s147.h.n.getD 4 0 := by rw [es156]; exact getD_set_ne' (by decide)
    rw [show s147.b = s156.b by rw [es156]] at hO38
    refine st_nil ?_
    refine c_then ?_
    refine c_seq ?_
    have ha2_q := ha2
    have hO12_q := hO12
    have h16_0_q := h16_0
    have hO33_q := hO33
    have h37_0_q := h37_0
    have hO38_q := hO38
    have ha10_q := ha10
    refine c_mixT [(0, true), (1, true), (2, true), (3, true), (4, true), (5, true), (6, true), (7, true)] [8, 9] (fun w' => Md [] w155 w') mixed (by kernel_rfl) ?_
    intro w164 hd0; refine ⟨hd0.mono (by simp), ?_⟩; have MC := hd0.mono (T := []) (by simp)
    refine Go.Wk.m _ (fun w' hc => r_move rfl) ?_
    refine Go.Wk.m _ (fun w' hc => r_field rfl off64_3) ?_
    refine Go.Wk.m _ (fun w' hc => (r_loadBlk rfl one3 (ha2_q.md0 hc) rfl).to (b := (.int .i64 ((c.dataSlots : Nat) : Int))) rfl) ?_
    refine Go.Wk.m _ (fun w' hc => r_mulN (a := 16) (b := c.dataSlots) 9223372036854775808 rfl rfl rfl (by omega)) ?_
    refine Go.Wk.m _ (fun w' hc => r_convN (a := 16 * c.dataSlots) 18446744073709551616 rfl (by rw [u3]; rfl) u36 rfl (by first | omega | (have := u8lt; omega))) ?_
    refine Go.Wk.m _ (fun w' hc => r_nil rfl) ?_
    refine Go.Wk.m _ (fun w' hc => r_field rfl off79_1) ?_
    refine Go.Wk.m _ (fun w' hc => r_field rfl off76_7) ?_
    refine m_nil ?_
    replace ha2 := ha2.md0 hd0
    replace hO12 := hO12.md0 hd0
    replace h16_0 := h16_0.md0 hd0
    replace hO33 := hO33.md0 hd0
    replace h37_0 := h37_0.md0 hd0
    replace hO38 := hO38.md0 hd0
    replace ha10 := ha10.md0 hd0
    replace uQ := uQ.md hd0
    replace M := M.step0 hd0
    clear h37_0_q h16_0_q hO38_q hO12_q ha10_q hO33_q ha2_q
    clear MC
    refine st _ ((r_indexArrN (i := 3) 1 rfl rfl u74 el36 (by decide))) ?_
    refine st_store rfl rfl one36 rfl ha10 (Nat.le_of_ble_eq_true rfl) ?_
    have ha100 := ha10; clear ha10; intro w165 hm ha10
    have hS : ∀ b ∈ [ba10], ¬ Q41 b := by intro b hb; simp at hb; subst hb; exact n_ha10
    replace ha2 := ha2.md hm (by intro hb; simp at hb; omega)
    replace hO12 := hO12.md hm hS
    replace h16_0 := h16_0.md hm hS
    replace hO33 := hO33.md hm hS
    replace h37_0 := h37_0.md hm hS
    replace hO38 := hO38.md hm (apart_bo ha100 hO38 (by decide)) hS
    replace uQ := uQ.md hm
    replace M := M.step hm (all_cons p_ha10 all_nil)
    clear ha100 hS
    obtain ⟨s166, es166⟩ : ∃ y, y = ({ s156 with h := { s156.h with n := s156.h.n.set 3 (16 * c.dataSlots) } } : Mk) := ⟨_, rfl⟩
    replace ha10 : Blk w165 ba10 (Mk.cells ({ s156 with h := { s156.h with n := s156.h.n.set 3 (16 * c.dataSlots) } }) v39 (.slice none 0 0) (.slice none 0 0) (.slice none 0 0)) 79 := by
      have hh := ha10
      simp only [Mk.cells, RHead.cells]
      rw [nums20_set (by first | exact oks156.2.1.2.2.2.2.2.2.2.1.1 | assumption | simp_all) (by decide)]
      exact hh
    rw [← es166] at ha10
    have oks166 : Mk.ok s166 := by rw [es166]; exact ⟨oks156.1, ⟨oks156.2.1.1, oks156.2.1.2.1, oks156.2.1.2.2.1, oks156.2.1.2.2.2.1, oks156.2.1.2.2.2.2.1, oks156.2.1.2.2.2.2.2.1, oks156.2.1.2.2.2.2.2.2.1, (nums_set oks156.2.1.2.2.2.2.2.2.2.1 (by first | omega | (simp <;> omega) | simp_all)), oks156.2.1.2.2.2.2.2.2.2.2.1, oks156.2.1.2.2.2.2.2.2.2.2.2.1, oks156.2.1.2.2.2.2.2.2.2.2.2.2⟩, oks156.2.2⟩
    have z167 : s166.b.length = s156.b.length := by rw [es166]
    have z168 : s166.datas.length = s156.datas.length := by rw [es166]
    have z169 : s166.fields.length = s156.fields.length := by rw [es166]
    have z170 : s166.c.dataSlots = s156.c.dataSlots := by rw [es166]
    have z171 : s166.c.fieldSlots = s156.c.fieldSlots := by rw [es166]
    have z172 : s166.h.n.getD 2 0 = s156.h.n.getD 2 0 := by rw [es166]; exact getD_set_ne' (by decide)
    have z173 : s166.h.n.getD 4 0 = s156.h.n.getD 4 0 := by rw [es166]; exact getD_set_ne' (by decide)
    rw [show s156.b = s166.b by rw [es166]] at hO38
    refine st_nil ?_
    refine c_then ?_
    refine c_seq ?_
    refine c_region ?_
    refine st _ (r_move rfl) ?_
    refine st _ (r_move rfl) ?_
    refine st _ (r_addN (a := s22.b.length) (b := 16) 18446744073709551616 rfl rfl rfl (by omega)) ?_
    refine st _ (r_nil rfl) ?_
    refine st _ (r_field rfl off79_1) ?_
    refine st _ (r_field rfl off76_7) ?_
    refine st _ ((r_indexArrN (i := 4) 1 rfl rfl u74 el36 (by decide))) ?_
    refine st_store rfl rfl one36 rfl ha10 (Nat.le_of_ble_eq_true rfl) ?_
    have ha100 := ha10; clear ha10; intro w174 hm ha10
    have hS : ∀ b ∈ [ba10], ¬ Q41 b := by intro b hb; simp at hb; subst hb; exact n_ha10
    replace ha2 := ha2.md hm (by intro hb; simp at hb; omega)
    replace hO12 := hO12.md hm hS
    replace h16_0 := h16_0.md hm hS
    replace hO33 := hO33.md hm hS
    replace h37_0 := h37_0.md hm hS
    replace hO38 := hO38.md hm (apart_bo ha100 hO38 (by decide)) hS
    replace uQ := uQ.md hm
    replace M := M.step hm (all_cons p_ha10 all_nil)
    clear ha100 hS
    obtain ⟨s175, es175⟩ : ∃ y, y = ({ s166 with h := { s166.h with n := s166.h.n.set 4 (s22.b.length + 16) } } : Mk) := ⟨_, rfl⟩
    replace ha10 : Blk w174 ba10 (Mk.cells ({ s166 with h := { s166.h with n := s166.h.n.set 4 (s22.b.length + 16) } }) v39 (.slice none 0 0) (.slice none 0 0) (.slice none 0 0)) 79 := by
      have hh := ha10
      simp only [Mk.cells, RHead.cells]
      rw [nums20_set (by first | exact oks166.2.1.2.2.2.2.2.2.2.1.1 | assumption | simp_all) (by decide)]
      exact hh
    rw [← es175] at ha10
    have oks175 : Mk.ok s175 := by rw [es175]; exact ⟨oks166.1, ⟨oks166.2.1.1, oks166.2.1.2.1, oks166.2.1.2.2.1, oks166.2.1.2.2.2.1, oks166.2.1.2.2.2.2.1, oks166.2.1.2.2.2.2.2.1, oks166.2.1.2.2.2.2.2.2.1, (nums_set oks166.2.1.2.2.2.2.2.2.2.1 (by first | omega | (simp <;> omega) | simp_all)), oks166.2.1.2.2.2.2.2.2.2.2.1, oks166.2.1.2.2.2.2.2.2.2.2.2.1, oks166.2.1.2.2.2.2.2.2.2.2.2.2⟩, oks166.2.2⟩
    have z176 : s175.b.length = s166.b.length := by rw [es175]
    have z177 : s175.datas.length = s166.datas.length := by rw [es175]
    have z178 : s175.fields.length = s166.fields.length := by rw [es175]
    have z179 : s175.c.dataSlots = s166.c.dataSlots := by rw [es175]
    have z180 : s175.c.fieldSlots = s166.c.fieldSlots := by rw [es175]
    have z181 : s175.h.n.getD 2 0 = s166.h.n.getD 2 0 := by rw [es175]; exact getD_set_ne' (by decide)
    rw [show s166.b = s175.b by rw [es175]] at hO38
    refine st_nil ?_
    refine c_then ?_
    refine c_seq ?_
    have ha2_q := ha2
    have hO12_q := hO12
    have h16_0_q := h16_0
    have hO33_q := hO33
    have h37_0_q := h37_0
    have hO38_q := hO38
    have ha10_q := ha10
    refine c_mixT [(0, true), (1, true), (2, true), (3, true), (4, true), (5, true), (6, true), (7, true)] [8, 9] (fun w' => Md [] w174 w') mixed (by kernel_rfl) ?_
    intro w183 hd0; refine ⟨hd0.mono (by simp), ?_⟩; have MC := hd0.mono (T := []) (by simp)
    refine Go.Wk.m _ (fun w' hc => r_move rfl) ?_
    refine Go.Wk.m _ (fun w' hc => r_field rfl off64_4) ?_
    refine Go.Wk.m _ (fun w' hc => (r_loadBlk rfl one3 (ha2_q.md0 hc) rfl).to (b := (.int .i64 ((c.fieldSlots : Nat) : Int))) rfl) ?_
    refine Go.Wk.m _ (fun w' hc => r_mulN (a := 16) (b := c.fieldSlots) 9223372036854775808 rfl rfl rfl (by omega)) ?_
    refine Go.Wk.m _ (fun w' hc => r_convN (a := 16 * c.fieldSlots) 18446744073709551616 rfl (by rw [u3]; rfl) u36 rfl (by first | omega | (have := u8lt; omega))) ?_
    refine Go.Wk.m _ (fun w' hc => r_nil rfl) ?_
    refine Go.Wk.m _ (fun w' hc => r_field rfl off79_1) ?_
    refine Go.Wk.m _ (fun w' hc => r_field rfl off76_7) ?_
    refine m_nil ?_
    replace ha2 := ha2.md0 hd0
    replace hO12 := hO12.md0 hd0
    replace h16_0 := h16_0.md0 hd0
    replace hO33 := hO33.md0 hd0
    replace h37_0 := h37_0.md0 hd0
    replace hO38 := hO38.md0 hd0
    replace ha10 := ha10.md0 hd0
    replace uQ := uQ.md hd0
    replace M := M.step0 hd0
    clear h37_0_q h16_0_q hO38_q hO12_q ha10_q hO33_q ha2_q
    clear MC
    refine st _ ((r_indexArrN (i := 5) 1 rfl rfl u74 el36 (by decide))) ?_
    refine st_store rfl rfl one36 rfl ha10 (Nat.le_of_ble_eq_true rfl) ?_
    have ha100 := ha10; clear ha10; intro w184 hm ha10
    have hS : ∀ b ∈ [ba10], ¬ Q41 b := by intro b hb; simp at hb; subst hb; exact n_ha10
    replace ha2 := ha2.md hm (by intro hb; simp at hb; omega)
    replace hO12 := hO12.md hm hS
    replace h16_0 := h16_0.md hm hS
    replace hO33 := hO33.md hm hS
    replace h37_0 := h37_0.md hm hS
    replace hO38 := hO38.md hm (apart_bo ha100 hO38 (by decide)) hS
    replace uQ := uQ.md hm
    replace M := M.step hm (all_cons p_ha10 all_nil)
    clear ha100 hS
    obtain ⟨s185, es185⟩ : ∃ y, y = ({ s175 with h := { s175.h with n := s175.h.n.set 5 (16 * c.fieldSlots) } } : Mk) := ⟨_, rfl⟩
    replace ha10 : Blk w184 ba10 (Mk.cells ({ s175 with h := { s175.h with n := s175.h.n.set 5 (16 * c.fieldSlots) } }) v39 (.slice none 0 0) (.slice none 0 0) (.slice none 0 0)) 79 := by
      have hh := ha10
      simp only [Mk.cells, RHead.cells]
      rw [nums20_set (by first | exact oks175.2.1.2.2.2.2.2.2.2.1.1 | assumption | simp_all) (by decide)]
      exact hh
    rw [← es185] at ha10
    have oks185 : Mk.ok s185 := by rw [es185]; exact ⟨oks175.1, ⟨oks175.2.1.1, oks175.2.1.2.1, oks175.2.1.2.2.1, oks175.2.1.2.2.2.1, oks175.2.1.2.2.2.2.1, oks175.2.1.2.2.2.2.2.1, oks175.2.1.2.2.2.2.2.2.1, (nums_set oks175.2.1.2.2.2.2.2.2.2.1 (by first | omega | (simp <;> omega) | simp_all)), oks175.2.1.2.2.2.2.2.2.2.2.1, oks175.2.1.2.2.2.2.2.2.2.2.2.1, oks175.2.1.2.2.2.2.2.2.2.2.2.2⟩, oks175.2.2⟩
    have z186 : s185.b.length = s175.b.length := by rw [es185]
    have z187 : s185.datas.length = s175.datas.length := by rw [es185]
    have z188 : s185.fields.length = s175.fields.length := by rw [es185]
    have z189 : s185.c.dataSlots = s175.c.dataSlots := by rw [es185]
    have z190 : s185.c.fieldSlots = s175.c.fieldSlots := by rw [es185]
    have z191 : s185.h.n.getD 2 0 = s175.h.n.getD 2 0 := by rw [es185]; exact getD_set_ne' (by decide)
    have z192 : s185.h.n.getD 4 0 = s175.h.n.getD 4 0 := by rw [es185]; exact getD_set_ne' (by decide)
    rw [show s175.b = s185.b by rw [es185]] at hO38
    refine st_nil ?_
    refine c_then ?_
    refine c_seq ?_
    refine c_region ?_
    refine st _ (r_move rfl) ?_
    refine st _ (r_move rfl) ?_
    refine st _ (r_nil rfl) ?_
    refine st _ (r_field rfl off79_1) ?_
    refine st _ (r_field rfl off76_7) ?_
    refine st _ ((r_indexArrN (i := 6) 1 rfl rfl u74 el36 (by decide))) ?_
    refine st_store rfl rfl one36 rfl ha10 (Nat.le_of_ble_eq_true rfl) ?_
    have ha100 := ha10; clear ha10; intro w193 hm ha10
    have hS : ∀ b ∈ [ba10], ¬ Q41 b := by intro b hb; simp at hb; subst hb; exact n_ha10
    replace ha2 := ha2.md hm (by intro hb; simp at hb; omega)
    replace hO12 := hO12.md hm hS
    replace h16_0 := h16_0.md hm hS
    replace hO33 := hO33.md hm hS
    replace h37_0 := h37_0.md hm hS
    replace hO38 := hO38.md hm (apart_bo ha100 hO38 (by decide)) hS
    replace uQ := uQ.md hm
    replace M := M.step hm (all_cons p_ha10 all_nil)
    clear ha100 hS
    obtain ⟨s194, es194⟩ : ∃ y, y = ({ s185 with h := { s185.h with n := s185.h.n.set 6 s22.b.length } } : Mk) := ⟨_, rfl⟩
    replace ha10 : Blk w193 ba10 (Mk.cells ({ s185 with h := { s185.h with n := s185.h.n.set 6 s22.b.length } }) v39 (.slice none 0 0) (.slice none 0 0) (.slice none 0 0)) 79 := by
      have hh := ha10
      simp only [Mk.cells, RHead.cells]
      rw [nums20_set (by first | exact oks185.2.1.2.2.2.2.2.2.2.1.1 | assumption | simp_all) (by decide)]
      exact hh
    rw [← es194] at ha10
    have oks194 : Mk.ok s194 := by rw [es194]; exact ⟨oks185.1, ⟨oks185.2.1.1, oks185.2.1.2.1, oks185.2.1.2.2.1, oks185.2.1.2.2.2.1, oks185.2.1.2.2.2.2.1, oks185.2.1.2.2.2.2.2.1, oks185.2.1.2.2.2.2.2.2.1, (nums_set oks185.2.1.2.2.2.2.2.2.2.1 (by first | omega | (simp <;> omega) | simp_all)), oks185.2.1.2.2.2.2.2.2.2.2.1, oks185.2.1.2.2.2.2.2.2.2.2.2.1, oks185.2.1.2.2.2.2.2.2.2.2.2.2⟩, oks185.2.2⟩
    have z195 : s194.b.length = s185.b.length := by rw [es194]
    have z196 : s194.datas.length = s185.datas.length := by rw [es194]
    have z197 : s194.fields.length = s185.fields.length := by rw [es194]
    have z198 : s194.c.dataSlots = s185.c.dataSlots := by rw [es194]
    have z199 : s194.c.fieldSlots = s185.c.fieldSlots := by rw [es194]
    have z200 : s194.h.n.getD 2 0 = s185.h.n.getD 2 0 := by rw [es194]; exact getD_set_ne' (by decide)
    have z201 : s194.h.n.getD 4 0 = s185.h.n.getD 4 0 := by rw [es194]; exact getD_set_ne' (by decide)
    rw [show s185.b = s194.b by rw [es194]] at hO38
    refine st_nil ?_
    refine c_then ?_
    refine c_seq ?_
    refine c_region ?_
    refine st _ (r_move rfl) ?_
    refine st _ (r_nil rfl) ?_
    refine st _ (r_field rfl off79_1) ?_
    refine st _ (r_field rfl off76_7) ?_
    refine st _ ((r_indexArrN (i := 7) 1 rfl rfl u74 el36 (by decide))) ?_
    refine st_store rfl rfl one36 rfl ha10 (Nat.le_of_ble_eq_true rfl) ?_
    have ha100 := ha10; clear ha10; intro w202 hm ha10
    have hS : ∀ b ∈ [ba10], ¬ Q41 b := by intro b hb; simp at hb; subst hb; exact n_ha10
    replace ha2 := ha2.md hm (by intro hb; simp at hb; omega)
    replace hO12 := hO12.md hm hS
    replace h16_0 := h16_0.md hm hS
    replace hO33 := hO33.md hm hS
    replace h37_0 := h37_0.md hm hS
    replace hO38 := hO38.md hm (apart_bo ha100 hO38 (by decide)) hS
    replace uQ := uQ.md hm
    replace M := M.step hm (all_cons p_ha10 all_nil)
    clear ha100 hS
    obtain ⟨s203, es203⟩ : ∃ y, y = ({ s194 with h := { s194.h with n := s194.h.n.set 7 2 } } : Mk) := ⟨_, rfl⟩
    replace ha10 : Blk w202 ba10 (Mk.cells ({ s194 with h := { s194.h with n := s194.h.n.set 7 2 } }) v39 (.slice none 0 0) (.slice none 0 0) (.slice none 0 0)) 79 := by
      have hh := ha10
      simp only [Mk.cells, RHead.cells]
      rw [nums20_set (by first | exact oks194.2.1.2.2.2.2.2.2.2.1.1 | assumption | simp_all) (by decide)]
      exact hh
    rw [← es203] at ha10
    have oks203 : Mk.ok s203 := by rw [es203]; exact ⟨oks194.1, ⟨oks194.2.1.1, oks194.2.1.2.1, oks194.2.1.2.2.1, oks194.2.1.2.2.2.1, oks194.2.1.2.2.2.2.1, oks194.2.1.2.2.2.2.2.1, oks194.2.1.2.2.2.2.2.2.1, (nums_set oks194.2.1.2.2.2.2.2.2.2.1 (by first | omega | (simp <;> omega) | simp_all)), oks194.2.1.2.2.2.2.2.2.2.2.1, oks194.2.1.2.2.2.2.2.2.2.2.2.1, oks194.2.1.2.2.2.2.2.2.2.2.2.2⟩, oks194.2.2⟩
    have z204 : s203.b.length = s194.b.length := by rw [es203]
    have z205 : s203.datas.length = s194.datas.length := by rw [es203]
    have z206 : s203.fields.length = s194.fields.length := by rw [es203]
    have z207 : s203.c.dataSlots = s194.c.dataSlots := by rw [es203]
    have z208 : s203.c.fieldSlots = s194.c.fieldSlots := by rw [es203]
    have z209 : s203.h.n.getD 2 0 = s194.h.n.getD 2 0 := by rw [es203]; exact getD_set_ne' (by decide)
    have z210 : s203.h.n.getD 4 0 = s194.h.n.getD 4 0 := by rw [es203]; exact getD_set_ne' (by decide)
    rw [show s194.b = s203.b by rw [es203]] at hO38
    refine st_nil ?_
    refine c_then ?_
    refine c_seq ?_
    refine c_region ?_
    refine st _ (r_move rfl) ?_
    refine st _ (r_move rfl) ?_
    refine st _ (r_nil rfl) ?_
    refine st _ (r_field rfl off79_1) ?_
    refine st _ (r_field rfl off76_7) ?_
    refine st _ ((r_indexArrN (i := 9) 1 rfl rfl u74 el36 (by decide))) ?_
    refine st_store rfl rfl one36 rfl ha10 (Nat.le_of_ble_eq_true rfl) ?_
    have ha100 := ha10; clear ha10; intro w211 hm ha10
    have hS : ∀ b ∈ [ba10], ¬ Q41 b := by intro b hb; simp at hb; subst hb; exact n_ha10
    replace ha2 := ha2.md hm (by intro hb; simp at hb; omega)
    replace hO12 := hO12.md hm hS
    replace h16_0 := h16_0.md hm hS
    replace hO33 := hO33.md hm hS
    replace h37_0 := h37_0.md hm hS
    replace hO38 := hO38.md hm (apart_bo ha100 hO38 (by decide)) hS
    replace uQ := uQ.md hm
    replace M := M.step hm (all_cons p_ha10 all_nil)
    clear ha100 hS
    obtain ⟨s212, es212⟩ : ∃ y, y = ({ s203 with h := { s203.h with n := s203.h.n.set 9 tail } } : Mk) := ⟨_, rfl⟩
    replace ha10 : Blk w211 ba10 (Mk.cells ({ s203 with h := { s203.h with n := s203.h.n.set 9 tail } }) v39 (.slice none 0 0) (.slice none 0 0) (.slice none 0 0)) 79 := by
      have hh := ha10
      simp only [Mk.cells, RHead.cells]
      rw [nums20_set (by first | exact oks203.2.1.2.2.2.2.2.2.2.1.1 | assumption | simp_all) (by decide)]
      exact hh
    rw [← es212] at ha10
    have oks212 : Mk.ok s212 := by rw [es212]; exact ⟨oks203.1, ⟨oks203.2.1.1, oks203.2.1.2.1, oks203.2.1.2.2.1, oks203.2.1.2.2.2.1, oks203.2.1.2.2.2.2.1, oks203.2.1.2.2.2.2.2.1, oks203.2.1.2.2.2.2.2.2.1, (nums_set oks203.2.1.2.2.2.2.2.2.2.1 (by first | omega | (simp <;> omega) | simp_all)), oks203.2.1.2.2.2.2.2.2.2.2.1, oks203.2.1.2.2.2.2.2.2.2.2.2.1, oks203.2.1.2.2.2.2.2.2.2.2.2.2⟩, oks203.2.2⟩
    have z213 : s212.b.length = s203.b.length := by rw [es212]
    have z214 : s212.datas.length = s203.datas.length := by rw [es212]
    have z215 : s212.fields.length = s203.fields.length := by rw [es212]
    have z216 : s212.c.dataSlots = s203.c.dataSlots := by rw [es212]
    have z217 : s212.c.fieldSlots = s203.c.fieldSlots := by rw [es212]
    have z218 : s212.h.n.getD 2 0 = s203.h.n.getD 2 0 := by rw [es212]; exact getD_set_ne' (by decide)
    have z219 : s212.h.n.getD 4 0 = s203.h.n.getD 4 0 := by rw [es212]; exact getD_set_ne' (by decide)
    rw [show s203.b = s212.b by rw [es212]] at hO38
    refine st_nil ?_
    refine c_then ?_
    refine c_seq ?_
    refine c_region ?_
    refine st _ (r_move rfl) ?_
    refine st _ (r_assign rfl) ?_
    refine st_nil ?_
    refine c_then ?_
    refine c_ret ?_
    exact ret1L (v := (.pointer (some ⟨ba10, 0, none⟩))) trivial rfl ⟨rfl, trivial⟩ ⟨ba10, _, _, _, _, s212, Q41, rfl, M, ⟨sQ0, tQ, uQ⟩, ha10, n_ha10, ga10, oks212, hO38, (by first | exact Ow.nil _ _ _ _ _ | (simp only [es22, es43, es55, es147, es156, es166, es175, es185, es194, es203, es212]; exact Ow.nil _ _ _ _ _)), (by first | exact Ow.nil _ _ _ _ _ | (simp only [es22, es43, es55, es147, es156, es166, es175, es185, es194, es203, es212]; exact Ow.nil _ _ _ _ _)), (by first | exact Ls.nil _ _ _ | (simp only [es22, es43, es55, es147, es156, es166, es175, es185, es194, es203, es212]; exact Ls.nil _ _ _)), (fun x hx => by simp [vblock] at hx), (by (try simp only [es22, es43, es55, es147, es156, es166, es175, es185, es194, es203, es212] at hF16 hF37); rw [newMk] <;> simp (disch := first | omega | assumption | (simp; done) | fail) only [Mk.setN, idZ, if_pos, if_neg, Option.getD_some, Option.some.injEq, reduceIte, Bool.false_eq_true, Bool.true_eq_false, decide_true, decide_false, not_true_eq_false, not_false_eq_true, hF16, es22, hF37, es43, es55, h52n, es147, es156, es166, es175, es185, es194, es203, es212])⟩
end Go.Proofs.Ytahkddpdhmhfcaa
