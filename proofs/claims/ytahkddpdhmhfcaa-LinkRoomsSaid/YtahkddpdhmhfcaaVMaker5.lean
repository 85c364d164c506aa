/- Walks of functions: what each call returns, over data. -/
import Derived.Test.YtahkddpdhmhfcaaRows
import Derived.Test.YtahkddpdhmhfcaaVMaker3
namespace Go.Proofs.Ytahkddpdhmhfcaa
open Go Go.Wk Go.RowKit
set_option linter.unusedVariables false
set_option linter.unusedSimpArgs false
attribute [local irreducible] wpList wpQuiet wpStill wpMix Code.wp Calls bodyPost
theorem fn28 : isFn Try.prog 28 = true := by kernel_rfl
theorem off79_2 : fieldOff Try.prog 79 2 = some 142 := by kernel_rfl

set_option maxRecDepth 100000 in
theorem mimage_any {w : World} {Q : Nat → Prop} (uQ : Up w Q) {v0 : Value} {m : Mk} (h0 : Pt tMk 79 w Q v0 m) (sta : Nat) (a1 : sta < 9223372036854775808) (p0 : 272 ≤ m.b.length) (p1 : m.b.length ≤ 4294967296) :
    Calls Try.prog 13 #[v0, (.int .i64 ((sta : Nat) : Int))] w fun en w' => ∃ u0 : Value, ∃ r0 : List UInt8, ∃ Q' : Nat → Prop, en = .returned (u0) ∧ Md [] w w' ∧ NewQ w w' Q Q' ∧ Ow tB8 5 (Fsh [] w) w' Q' u0 r0 ∧ imageM m sta = r0 := by
  obtain ⟨bh0, ch0, rfl, n_h0, h0, rh0⟩ := h0
  obtain ⟨v1, v2, v3, v4, rfl, q5, hd6, hd7, hd8, hd9⟩ := tMk_un rh0
  have M := Md.refl [] w
  have uQ0 := uQ
  have tQ : ∀ b, Q b → Q b := fun _ h => h
  have sQ0 : ∀ b, Q b → b < w.heap.size → Q b := fun _ h _ => h
  refine enter (n := 33) Try.func13 rfl rfl rfl ?_
  intro B
  refine c_seq ?_
  refine c_region ?_
  refine st _ (r_assign rfl) ?_
  refine st_nil ?_
  refine c_then ?_
  refine c_seq ?_
  refine c_region ?_
  refine st _ (r_move rfl) ?_
  refine st _ (r_nil rfl) ?_
  refine st _ (r_field rfl off79_1) ?_
  refine st _ (r_loadPart (RHead.cells m.h) rfl (by exact agg76) h0 rfl) ?_
  refine st_alloc z76 ?_
  intro ba5 w10 ga5 la5 hm ha5
  have eh0a5 : bh0 ≠ ba5 := by have := h0.lt; omega
  obtain ⟨Q11, sQ, sT, n_ha5, uQ2⟩ := exQ uQ ga5 la5 hm
  replace hd6 := hd6.sub sQ
  replace hd7 := hd7.sub sQ
  replace hd8 := hd8.sub sQ
  replace hd9 := hd9.sub sQ
  replace n_h0 := sQ _ n_h0 h0.lt
  replace tQ := fun b hb => tQ b (sT b hb)
  replace sQ0 := fun b hb hl => sQ b (sQ0 b hb hl) (Nat.lt_of_lt_of_le hl M.size)
  replace ga5 := Nat.le_trans M.size ga5
  replace hd6 := hd6.md0 hm
  replace hd7 := hd7.md0 hm
  replace hd8 := hd8.md0 hm
  replace hd9 := hd9.md0 hm
  replace h0 := h0.md0 hm
  replace uQ := uQ.md hm
  replace M := M.step0 hm
  clear uQ; have uQ := uQ2; clear uQ2 sQ sT
  have p_ha5 : Fsh [] w ba5 := .inr ga5
  replace ha5 : Blk _ _ (RHead.cells (({ compat := 0, incompat := 0, state := 0, file := idZ, machine := idZ, boot := idZ, seq := idZ, n := (List.replicate 20 0), tailArray := 0, tailItems := 0, tailEntry := 0 } : RHead))) _ := ha5
  have okz12 : RHead.ok (({ compat := 0, incompat := 0, state := 0, file := idZ, machine := idZ, boot := idZ, seq := idZ, n := (List.replicate 20 0), tailArray := 0, tailItems := 0, tailEntry := 0 } : RHead)) := (by first | assumption | exact ⟨(by first | omega | (simp <;> omega) | simp_all), (by first | omega | (simp <;> omega) | simp_all), (by first | omega | (simp <;> omega) | simp_all), (by first | assumption | rfl | simp_all), (by first | assumption | rfl | simp_all), (by first | assumption | rfl | simp_all), (by first | assumption | rfl | simp_all), (by first | assumption | exact nums_zero _ | exact nums_set (by assumption) (by omega) | simp_all), (by first | omega | (simp <;> omega) | simp_all), (by first | omega | (simp <;> omega) | simp_all), (by first | omega | (simp <;> omega) | simp_all)⟩)
  refine st_storeAgg (us := (RHead.cells m.h)) rfl rfl (by exact agg76) (by first | exact fun u hu => one_cells (RHead.one ) u hu | exact fun u hu => one_cells rfl u hu) ha5 (Nat.le_of_ble_eq_true rfl) ?_
  have ha50 := ha5; clear ha5; intro w13 hm ha5
  have hS : ∀ b ∈ [ba5], ¬ Q11 b := by intro b hb; simp at hb; subst hb; exact n_ha5
  replace hd6 := hd6.md hm hS
  replace hd7 := hd7.md hm hS
  replace hd8 := hd8.md hm hS
  replace hd9 := hd9.md hm hS
  replace h0 := h0.md hm (by intro hb; simp at hb; omega)
  replace uQ := uQ.md hm
  replace M := M.step hm (all_cons p_ha5 all_nil)
  clear ha50 hS
  replace ha5 : Blk _ _ (RHead.cells m.h) _ := ha5
  refine st_nil ?_
  refine c_then ?_
  refine c_seq ?_
  refine c_region ?_
  refine st _ (r_move rfl) ?_
  refine st _ (r_field rfl off76_2) ?_
  refine st_store rfl rfl one3 rfl ha5 (Nat.le_of_ble_eq_true rfl) ?_
  have ha50 := ha5; clear ha5; intro w14 hm ha5
  have hS : ∀ b ∈ [ba5], ¬ Q11 b := by intro b hb; simp at hb; subst hb; exact n_ha5
  replace hd6 := hd6.md hm hS
  replace hd7 := hd7.md hm hS
  replace hd8 := hd8.md hm hS
  replace hd9 := hd9.md hm hS
  replace h0 := h0.md hm (by intro hb; simp at hb; omega)
  replace uQ := uQ.md hm
  replace M := M.step hm (all_cons p_ha5 all_nil)
  clear ha50 hS
  obtain ⟨s15, es15⟩ : ∃ y, y = ({ m.h with state := sta } : RHead) := ⟨_, rfl⟩
  replace ha5 : Blk _ _ (RHead.cells ({ m.h with state := sta })) _ := ha5
  rw [← es15] at ha5
  have oks15 : RHead.ok s15 := by rw [es15]; exact ⟨q5.2.1.1, q5.2.1.2.1, (by first | omega | assumption | (simp <;> omega) | simp_all), q5.2.1.2.2.2.1, q5.2.1.2.2.2.2.1, q5.2.1.2.2.2.2.2.1, q5.2.1.2.2.2.2.2.2.1, q5.2.1.2.2.2.2.2.2.2.1, q5.2.1.2.2.2.2.2.2.2.2.1, q5.2.1.2.2.2.2.2.2.2.2.2.1, q5.2.1.2.2.2.2.2.2.2.2.2.2⟩
  refine st_nil ?_
  refine c_then ?_
  refine c_seq ?_
  refine c_region ?_
  refine st _ (r_move rfl) ?_
  refine st _ (r_nil rfl) ?_
  refine st _ (r_field rfl off79_3) ?_
  refine st _ ((r_loadBlk rfl one28 h0 rfl).to (b := v1) rfl) ?_
  refine st _ (r_len rfl u28 hd6.shp) ?_
  refine st _ (r_subN (a := m.b.length) (b := 272) 9223372036854775808 rfl rfl rfl (by omega)) ?_
  refine st _ (r_convN (a := m.b.length - 272) 18446744073709551616 rfl (by rw [u3]; rfl) u36 rfl (by first | omega | (have := u8lt; omega))) ?_
  refine st _ (r_field rfl off76_7) ?_
  refine st _ ((r_indexArrN (i := 1) 1 rfl rfl u74 el36 (by decide))) ?_
  refine st_store rfl rfl one36 rfl ha5 (Nat.le_of_ble_eq_true rfl) ?_
  have ha50 := ha5; clear ha5; intro w16 hm ha5
  have hS : ∀ b ∈ [ba5], ¬ Q11 b := by intro b hb; simp at hb; subst hb; exact n_ha5
  replace hd6 := hd6.md hm hS
  replace hd7 := hd7.md hm hS
  replace hd8 := hd8.md hm hS
  replace hd9 := hd9.md hm hS
  replace h0 := h0.md hm (by intro hb; simp at hb; omega)
  replace uQ := uQ.md hm
  replace M := M.step hm (all_cons p_ha5 all_nil)
  clear ha50 hS
  obtain ⟨s17, es17⟩ : ∃ y, y = ({ s15 with n := s15.n.set 1 (m.b.length - 272) } : RHead) := ⟨_, rfl⟩
  replace ha5 : Blk w16 ba5 (RHead.cells ({ s15 with n := s15.n.set 1 (m.b.length - 272) })) 76 := by
    have hh := ha5
    simp only [RHead.cells]
    rw [nums20_set (by first | exact oks15.2.2.2.2.2.2.2.1.1 | assumption | simp_all) (by decide)]
    exact hh
  rw [← es17] at ha5
  have oks17 : RHead.ok s17 := by rw [es17]; exact ⟨oks15.1, oks15.2.1, oks15.2.2.1, oks15.2.2.2.1, oks15.2.2.2.2.1, oks15.2.2.2.2.2.1, oks15.2.2.2.2.2.2.1, (nums_set oks15.2.2.2.2.2.2.2.1 (by first | omega | (simp <;> omega) | simp_all)), oks15.2.2.2.2.2.2.2.2.1, oks15.2.2.2.2.2.2.2.2.2.1, oks15.2.2.2.2.2.2.2.2.2.2⟩
  refine st_nil ?_
  refine c_then ?_
  refine c_seq ?_
  have hd6_q := hd6
  have hd7_q := hd7
  have hd8_q := hd8
  have hd9_q := hd9
  have h0_q := h0
  have ha5_q := ha5
  refine c_mixT [(0, true), (1, true), (2, true), (3, true), (4, true), (6, true), (7, true), (8, true), (9, true), (10, true), (5, false)] [11, 12] (fun w' => Md [] w16 w') mixed (by kernel_rfl) ?_
  intro w18 hd0; refine ⟨hd0.mono (by simp), ?_⟩; have MC := hd0.mono (T := []) (by simp)
  refine Go.Wk.m _ (fun w' hc => r_loadPart (RHead.cells s17) rfl (by exact agg76) (ha5_q.md0 hc) rfl) ?_
  refine Go.Wk.m _ (fun w' hc => r_move rfl) ?_
  refine Go.Wk.m _ (fun w' hc => r_nil rfl) ?_
  refine Go.Wk.m _ (fun w' hc => r_field rfl off79_2) ?_
  refine Go.Wk.m _ (fun w' hc => (r_loadBlk rfl one36 (h0_q.md0 hc) rfl).to (b := (.int .u64 ((m.depth : Nat) : Int))) rfl) ?_
  have q19 : m.depth < 18446744073709551616 := q5.2.2
  refine Go.Wk.m _ (fun w' hc => r_move rfl) ?_
  refine Go.Wk.m _ (fun w' hc => r_nil rfl) ?_
  refine Go.Wk.m _ (fun w' hc => r_field rfl off79_3) ?_
  refine Go.Wk.m _ (fun w' hc => (r_loadBlk rfl one28 (h0_q.md0 hc) rfl).to (b := v1) rfl) ?_
  refine Go.Wk.m _ (fun w' hc => r_sliceZ 1 272 m.b.length u28 el5 rfl hd6.shp (by omega) (by omega) ⟨_, rfl⟩ rfl) ?_
  have hs20 := hd6.tail (lo := 272) (by omega)
  replace hd6 := hd6.md0 hd0
  replace hd7 := hd7.md0 hd0
  replace hd8 := hd8.md0 hd0
  replace hd9 := hd9.md0 hd0
  replace h0 := h0.md0 hd0
  replace ha5 := ha5.md0 hd0
  replace hs20 := hs20.md0 hd0
  replace uQ := uQ.md hd0
  replace M := M.step0 hd0
  refine m_e ?_ rfl
  refine st_call fn28 rfl (headBytes_any uQ s17 oks17 m.depth (by first | omega | (simp <;> omega))) ?_
  rintro en w21 ⟨v21_0, x21_0, Q22, rfl, hm, ⟨sQ, sT, uQ2⟩, h21_0, hF21⟩; refine ⟨_, rfl, ?_⟩
  have c_h21_0 : ∀ b, vblock v21_0 = some b → b ∈ [] ∨ _ := fun b hb => Or.inr (Nat.le_trans MC.size ((h21_0.2 b hb).1.elim (fun h => by simp at h) id))
  replace hd6 := hd6.sub sQ
  replace hd7 := hd7.sub sQ
  replace hd8 := hd8.sub sQ
  replace hd9 := hd9.sub sQ
  replace n_h0 := sQ _ n_h0 h0.lt
  replace n_ha5 := fun hh => n_ha5 (sT _ hh)
  replace hs20 := hs20.sub sQ
  replace tQ := fun b hb => tQ b (sT b hb)
  replace sQ0 := fun b hb hl => sQ b (sQ0 b hb hl) (Nat.lt_of_lt_of_le hl M.size)
  replace h21_0 := h21_0.lower (Fsh.lift (S' := []) M)
  replace hd6 := hd6.md0 hm
  replace hd7 := hd7.md0 hm
  replace hd8 := hd8.md0 hm
  replace hd9 := hd9.md0 hm
  replace h0 := h0.md0 hm
  replace ha5 := ha5.md0 hm
  replace hs20 := hs20.md0 hm
  replace uQ := uQ.md hm
  replace M := M.step0 hm
  replace MC := MC.step0 hm
  clear uQ; have uQ := uQ2; clear uQ2 sQ sT
  have a21_0 := headF_len s17 m.depth (by assumption); rw [hF21] at a21_0; try simp only [List.length_cons, List.length_nil, List.length_append, List.length_replicate, Nat.zero_add, Nat.reduceAdd, Nat.reduceMul] at a21_0
  refine st_nil ⟨rfl, MC, ?_⟩
  refine m_nil ?_
  clear hd8_q h0_q hd6_q hd9_q ha5_q hd7_q
  clear MC
  refine st_ap (sz := 1) (by rfl) u28 elT5 rfl rfl h21_0 hs20 (fun _ h _ => h) uQ (Fsh.new M) (by first | omega | (simp <;> omega) | (simp at * <;> omega)) (by first | omega | (simp <;> omega) | (simp at * <;> omega)) ?_
  intro v24 w25 Q26 sQ sT uQ2 hO23 hm hS _ hv2
  have h21_00 := h21_0; clear h21_0
  replace hd6 := hd6.sub sQ
  replace hd7 := hd7.sub sQ
  replace hd8 := hd8.sub sQ
  replace hd9 := hd9.sub sQ
  replace n_h0 := sQ _ n_h0 h0.lt
  replace n_ha5 := fun hh => n_ha5 (sT _ hh)
  replace hs20 := hs20.sub sQ
  replace tQ := fun b hb => tQ b (sT b hb)
  replace sQ0 := fun b hb hl => sQ b (sQ0 b hb hl) (Nat.lt_of_lt_of_le hl M.size)
  replace hd6 := hd6.md hm hS
  replace hd7 := hd7.md hm hS
  replace hd8 := hd8.md hm hS
  replace hd9 := hd9.md hm hS
  replace h0 := h0.md hm (apart_ow h21_00 h0 (by decide))
  replace ha5 := ha5.md hm (apart_ow h21_00 ha5 (by decide))
  replace hs20 := hs20.md hm hS
  replace uQ := uQ.md hm
  replace M := M.stepO hm (fun b hb => (h21_00.2 b hb).1)
  clear uQ; have uQ := uQ2; clear uQ2 sQ sT hS hv2
  refine st _ (r_assign rfl) ?_
  refine st_nil ?_
  refine c_then ?_
  refine c_ret ?_
  exact ret1L (v := v24) trivial rfl ⟨rfl, trivial⟩ ⟨_, (x21_0 ++ (m.b.drop 272)), Q26, rfl, M, ⟨sQ0, tQ, uQ⟩, hO23, (by (try simp only [es15, es17] at hF21); rw [imageM] <;> simp (disch := first | omega | assumption | (simp; done) | fail) only [if_pos, if_neg, Option.getD_some, Option.some.injEq, reduceIte, Bool.false_eq_true, Bool.true_eq_false, decide_true, decide_false, not_true_eq_false, not_false_eq_true, es15, es17, hF21])⟩
theorem mimage_any_ls {w : World} {Q : Nat → Prop} (uQ : Up w Q) {v0 : Value} {m : Mk} (h0 : Pt tMk 79 w Q v0 m) (sta : Nat) (a1 : sta < 9223372036854775808) (p0 : 272 ≤ m.b.length) (p1 : m.b.length ≤ 4294967296) :
    Calls Try.prog 13 #[v0, (.int .i64 ((sta : Nat) : Int))] w fun en w' => ∃ u0 : Value, ∃ r0 : List UInt8, en = .returned (u0) ∧ Md [] w w' ∧ Ls tB8 w' Q u0 r0 ∧ imageM m sta = r0 :=
  (mimage_any uQ h0 sta a1 p0 p1).mono fun en w' ⟨u0, r0, Q2, he, hm, kq, k0, hF⟩ => ⟨u0, r0, he, hm, k0.ls kq.2.1 (Fsh.up uQ), hF⟩
end Go.Proofs.Ytahkddpdhmhfcaa
