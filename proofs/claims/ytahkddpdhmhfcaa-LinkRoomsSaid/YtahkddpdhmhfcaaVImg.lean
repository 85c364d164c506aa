/- Walks of functions: what each call returns, over data. -/
import Derived.Test.YtahkddpdhmhfcaaRows
import Derived.Test.YtahkddpdhmhfcaaImgP
import Derived.Test.YtahkddpdhmhfcaaVHead4
import Derived.Test.YtahkddpdhmhfcaaVMaker5
import Derived.Test.YtahkddpdhmhfcaaVSeqS
namespace Go.Proofs.Ytahkddpdhmhfcaa
open Go Go.Wk Go.RowKit
set_option linter.unusedVariables false
set_option linter.unusedSimpArgs false
attribute [local irreducible] wpList wpQuiet wpStill wpMix Code.wp Calls bodyPost
theorem fn21 : isFn Try.prog 21 = true := by kernel_rfl
theorem fn22 : isFn Try.prog 22 = true := by kernel_rfl
theorem u48 : Try.prog.underlying 48 = some (.slice 69) := by kernel_rfl

set_option maxRecDepth 100000 in
theorem kMaker0_any {w : World} {Q : Nat → Prop} (uQ : Up w Q) {b0 : Nat} {v0_0 : Value} (s : Sq) (h0 : Blk w b0 (Sq.cells s v0_0) 53) (n0 : ¬ Q b0) (a0_0 : Sq.ok s) (a0_1 : Ls tInt w Q v0_0 s.l) (most : Nat) (a1 : most < 9223372036854775808) (p0 : most = 0) :
    Calls Try.prog 12 #[.pointer (some ⟨b0, 0, none⟩), (.int .i64 ((most : Nat) : Int))] w fun en w' => ∃ o0 : Nat, ∃ u0_0 : Value, ∃ u0_1 : Value, ∃ u0_2 : Value, ∃ u0_3 : Value, ∃ r0 : Mk, ∃ u1 : Value, ∃ r1 : List Rec, ∃ m0 : Sq, ∃ u50_0 : Value, ∃ Q' : Nat → Prop, en = .returned (.tuple #[.pointer (some ⟨o0, 0, none⟩), u1]) ∧ Md [b0] w w' ∧ NewQ w w' Q Q' ∧ Blk w' o0 (Mk.cells r0 u0_0 u0_1 u0_2 u0_3) 79 ∧ ¬ Q' o0 ∧ w.heap.size ≤ o0 ∧ Mk.ok r0 ∧ Ow tB8 5 (Fsh [] w) w' Q' u0_0 r0.b ∧ Ow tKnown 108 (Fsh [] w) w' Q' u0_1 r0.datas ∧ Ow tKnown 108 (Fsh [] w) w' Q' u0_2 r0.fields ∧ Ls tU64 w' Q' u0_3 r0.main ∧ (∀ x, vblock u0_1 = some x → vblock u0_2 ≠ some x) ∧ Ls tRec w' Q' u1 r1 ∧ Blk w' b0 (Sq.cells m0 u50_0) 53 ∧ ¬ Q' b0 ∧ Sq.ok m0 ∧ Ls tInt w' Q' u50_0 m0.l ∧ s.maker most = (r0, r1, m0) := by
  have n_h0 := n0
  have p_h0 : Fsh [b0] w b0 := .inl (by simp)
  have M := Md.refl [b0] w
  have uQ0 := uQ
  have tQ : ∀ b, Q b → Q b := fun _ h => h
  have sQ0 : ∀ b, Q b → b < w.heap.size → Q b := fun _ h _ => h
  refine enter (n := 53) Try.func12 rfl rfl rfl ?_
  intro B
  refine c_seq ?_
  refine c_region ?_
  refine st _ (r_assign rfl) ?_
  refine st _ (r_assign rfl) ?_
  refine st_nil ?_
  refine c_then ?_
  refine c_seq ?_
  refine c_region ?_
  refine st _ (r_move rfl) ?_
  refine st_call fn21 rfl (kConfig_any uQ s h0 n_h0 a0_0 a0_1) ?_
  rintro en w1 ⟨x1_0, m1_0, mv1_0_0, rfl, hm, q1_0_0, mh1_0, mn1_0, mq1_0_0, mf1_0_1, hF1⟩; refine ⟨_, rfl, ?_⟩
  have hP : ∀ i ∈ [b0], Fsh [b0] w i := (all_cons p_h0 all_nil)
  have hS : ∀ i ∈ [b0], ¬ Q i := (all_cons n_h0 all_nil)
  replace a0_1 := a0_1.md hm hS
  replace M := M.step hm hP
  replace uQ := uQ.md hm
  clear hP hS h0 n_h0; have h0 := mh1_0; have n_h0 := mn1_0; clear mh1_0 mn1_0
  refine st_alloc z64 ?_
  intro ba6 w2 ga6 la6 hm ha6
  have eh0a6 : b0 ≠ ba6 := by have := h0.lt; omega
  obtain ⟨Q3, sQ, sT, n_ha6, uQ2⟩ := exQ uQ ga6 la6 hm
  replace a0_1 := a0_1.sub sQ
  replace n_h0 := fun hh => n_h0 (sT _ hh)
  replace mf1_0_1 := mf1_0_1.sub sQ
  replace tQ := fun b hb => tQ b (sT b hb)
  replace sQ0 := fun b hb hl => sQ b (sQ0 b hb hl) (Nat.lt_of_lt_of_le hl M.size)
  replace ga6 := Nat.le_trans M.size ga6
  replace a0_1 := a0_1.md0 hm
  replace h0 := h0.md0 hm
  replace mf1_0_1 := mf1_0_1.md0 hm
  replace uQ := uQ.md hm
  replace M := M.step0 hm
  clear uQ; have uQ := uQ2; clear uQ2 sQ sT
  have p_ha6 : Fsh [] w ba6 := .inr ga6
  replace ha6 : Blk _ _ (Cfg.cells (({ file := idZ, machine := idZ, seq := idZ, dataSlots := 0, fieldSlots := 0, most := 0, keyed := false } : Cfg))) _ := ha6
  have okz4 : Cfg.ok (({ file := idZ, machine := idZ, seq := idZ, dataSlots := 0, fieldSlots := 0, most := 0, keyed := false } : Cfg)) := (by first | assumption | exact ⟨(by first | assumption | rfl | simp_all), (by first | assumption | rfl | simp_all), (by first | assumption | rfl | simp_all), (by first | omega | (simp <;> omega) | simp_all), (by first | omega | (simp <;> omega) | simp_all), (by first | omega | (simp <;> omega) | simp_all)⟩)
  refine st_storeAgg (us := (Cfg.cells x1_0)) rfl rfl (by exact agg64) (by first | exact fun u hu => one_cells (Cfg.one ) u hu | exact fun u hu => one_cells rfl u hu) ha6 (Nat.le_of_ble_eq_true rfl) ?_
  have ha60 := ha6; clear ha6; intro w5 hm ha6
  have hS : ∀ b ∈ [ba6], ¬ Q3 b := by intro b hb; simp at hb; subst hb; exact n_ha6
  replace a0_1 := a0_1.md hm hS
  replace h0 := h0.md hm (by intro hb; simp at hb; omega)
  replace mf1_0_1 := mf1_0_1.md hm hS
  replace uQ := uQ.md hm
  replace M := M.step hm (all_cons (Fsh.wid p_ha6) all_nil)
  clear ha60 hS
  replace ha6 : Blk _ _ (Cfg.cells x1_0) _ := ha6
  refine st_nil ?_
  refine c_then ?_
  refine c_seq ?_
  have a0_1_q := a0_1
  have h0_q := h0
  have mf1_0_1_q := mf1_0_1
  have ha6_q := ha6
  have hSB : ∀ b ∈ [b0], ¬ Q3 b := all_cons n_h0 all_nil
  refine c_mixT [(0, true), (1, true), (2, false), (3, true)] [4, 5] (fun w' => Md [b0] w5 w') mixed (by kernel_rfl) ?_
  intro w6 hd0; refine ⟨hd0.mono (by simp), ?_⟩; have MC := hd0.mono (T := [b0]) (by simp)
  have cs := config_slots s
  rw [hF1] at cs
  simp only at cs
  refine Go.Wk.m _ (fun w' hc => r_loadPart (Cfg.cells x1_0) rfl (by exact agg64) (ha6_q.md hc (by simp; omega)) rfl) ?_
  refine Go.Wk.m _ (fun w' hc => r_move rfl) ?_
  replace a0_1 := a0_1.md0 hd0
  replace h0 := h0.md0 hd0
  replace mf1_0_1 := mf1_0_1.md0 hd0
  replace ha6 := ha6.md0 hd0
  replace uQ := uQ.md hd0
  replace M := M.step0 hd0
  refine m_c ?_ rfl
  refine st_call fn23 rfl (kN_any uQ m1_0 h0 n_h0 mq1_0_0 mf1_0_1 6 (by first | omega | (simp <;> omega)) (by first | omega | (simp <;> omega) | (simp at * <;> omega))) ?_
  rintro en w7 ⟨x7_0, m7_0, mv7_0_0, rfl, hm, q7_0, mh7_0, mn7_0, mq7_0_0, mf7_0_1, hF7⟩; refine ⟨_, rfl, ?_⟩
  have hP : ∀ i ∈ [b0], Fsh [b0] w i := (all_cons p_h0 all_nil)
  have hS : ∀ i ∈ [b0], ¬ Q3 i := (all_cons n_h0 all_nil)
  have np_ha6 : ba6 ∉ [b0] := (nin_cons (by omega) (by simp))
  replace a0_1 := a0_1.md hm hS
  replace mf1_0_1 := mf1_0_1.md hm hS
  replace ha6 := ha6.md hm np_ha6; clear np_ha6
  replace M := M.step hm hP
  replace MC := MC.step hm (fun i hi => Or.inl (by simpa using hi))
  replace uQ := uQ.md hm
  clear hP hS h0 n_h0; have h0 := mh7_0; have n_h0 := mn7_0; clear mh7_0 mn7_0
  have a7_0 := Sq.num_le m1_0 6; rw [hF7] at a7_0; try simp only [List.length_cons, List.length_nil, List.length_append, List.length_replicate, Nat.zero_add, Nat.reduceAdd, Nat.reduceMul] at a7_0
  refine st_nil ⟨rfl, MC, fun w' => Md [b0] w7 w', Md.refl _ _, fun x hx => MC.trans hx, ?_⟩
  clear a0_1_q ha6_q mf1_0_1_q h0_q
  have a0_1_q := a0_1
  have h0_q := h0
  have mf1_0_1_q := mf1_0_1
  have ha6_q := ha6
  have mf7_0_1_q := mf7_0_1
  clear MC; have MC := Md.refl [b0] w7
  refine Go.Wk.m _ (fun w' hc => r_convN (a := x7_0) 18446744073709551616 rfl (by rw [u3]; rfl) u36 rfl (by first | omega | (have := u8lt; omega))) ?_
  refine m_nil ?_
  clear a0_1_q mf1_0_1_q h0_q ha6_q mf7_0_1_q
  clear MC
  refine st_call fn22 rfl (rnewMaker_any uQ x1_0 q1_0_0 x7_0 (by first | omega | (simp <;> omega)) (by first | omega | (simp <;> omega) | (simp at * <;> omega)) (by first | omega | (simp <;> omega) | (simp at * <;> omega))) ?_
  rintro en w8 ⟨ob8_0, ov8_0_0, ov8_0_1, ov8_0_2, ov8_0_3, x8_0, Q9, rfl, hm, ⟨sQ, sT, uQ2⟩, oh8_0, n_oh8_0, goh8_0, oq8_0_0, of8_0_1, of8_0_2, of8_0_3, of8_0_4, odj8_datas_fields, hF8⟩; refine ⟨_, rfl, ?_⟩
  have eh0oh8_0 : b0 ≠ ob8_0 := by have := h0.lt; omega
  have eha6oh8_0 : ba6 ≠ ob8_0 := by have := ha6.lt; omega
  have p_oh8_0 : Fsh [] w ob8_0 := Fsh.new M _ goh8_0
  replace goh8_0 := Nat.le_trans M.size goh8_0
  replace a0_1 := a0_1.sub sQ
  replace n_h0 := fun hh => n_h0 (sT _ hh)
  replace mf1_0_1 := mf1_0_1.sub sQ
  replace n_ha6 := fun hh => n_ha6 (sT _ hh)
  replace mf7_0_1 := mf7_0_1.sub sQ
  replace tQ := fun b hb => tQ b (sT b hb)
  replace sQ0 := fun b hb hl => sQ b (sQ0 b hb hl) (Nat.lt_of_lt_of_le hl M.size)
  replace of8_0_1 := of8_0_1.lower (Fsh.lift (S' := []) M)
  replace of8_0_2 := of8_0_2.lower (Fsh.lift (S' := []) M)
  replace of8_0_3 := of8_0_3.lower (Fsh.lift (S' := []) M)
  replace a0_1 := a0_1.md0 hm
  replace h0 := h0.md0 hm
  replace mf1_0_1 := mf1_0_1.md0 hm
  replace ha6 := ha6.md0 hm
  replace mf7_0_1 := mf7_0_1.md0 hm
  replace uQ := uQ.md hm
  replace M := M.step0 hm
  clear uQ; have uQ := uQ2; clear uQ2 sQ sT
  refine st _ (r_assign rfl) ?_
  refine st_nil ?_
  refine c_then ?_
  refine c_seq ?_
  refine c_region ?_
  refine st _ (r_assign rfl) ?_
  refine st_nil ?_
  refine c_then ?_
  refine c_seq ?_
  refine c_block ?_
  refine loop2 (fun (vo : Value) (o : List Rec) => [(8, vo), (0, (.pointer (some ⟨b0, 0, none⟩))), (1, (.int .i64 ((most : Nat) : Int))), (4, (.pointer none)), (5, (.slice none 0 0)), (7, (.pointer (some ⟨ob8_0, 0, none⟩)))]) (fun (vo : Value) (o : List Rec) w' => ∃ Q' : Nat → Prop, (∀ b, Q' b → Q b) ∧ (∀ b, Q b → b < w.heap.size → Q' b) ∧ Up w' Q' ∧ Md [b0] w w' ∧ Ow tRec 69 (Fsh [] w) w' Q' vo o ∧ Blk w' b0 (Sq.cells m7_0 mv7_0_0) 53 ∧ Blk w' ob8_0 (Mk.cells x8_0 ov8_0_0 ov8_0_1 ov8_0_2 ov8_0_3) 79 ∧ Ls tInt w' Q' mv7_0_0 m7_0.l ∧ Ow tB8 5 (Fsh [] w) w' Q' ov8_0_0 x8_0.b ∧ Ow tKnown 108 (Fsh [] w) w' Q' ov8_0_1 x8_0.datas ∧ Ow tKnown 108 (Fsh [] w) w' Q' ov8_0_2 x8_0.fields ∧ Ls tU64 w' Q' ov8_0_3 x8_0.main ∧ ¬ Q' b0 ∧ ¬ Q' ob8_0 ∧ o = []) (fun (vo : Value) (o : List Rec) => 0) (x0 := (.slice none 0 0)) (x1 := ([] : List Rec)) ?_ ?_ ?_
  · exact ⟨rfl, rfl, rfl, rfl, rfl, rfl, trivial⟩
  · exact ⟨Q9, tQ, sQ0, uQ, M, (Ow.nil _ _ _ _ _), h0, oh8_0, mf7_0_1, of8_0_1, of8_0_2, of8_0_3, of8_0_4, n_h0, n_oh8_0, rfl⟩
  · clear M uQ tQ sQ0 n_h0 n_ha6 n_oh8_0 a0_1 h0 mf1_0_1 ha6 mf7_0_1 of8_0_1 of8_0_2 of8_0_3 of8_0_4 oh8_0
    rintro vo o B w10 ⟨Q11, tQ, sQ0, uQ, M, f_o, h0, oh8_0, mf7_0_1, of8_0_1, of8_0_2, of8_0_3, of8_0_4, n_h0, n_oh8_0, i0_0⟩
    refine c_seq ?_
    refine c_seq ?_
    refine c_region ?_
    refine st _ (r_move rfl) ?_
    refine st _ (r_len rfl u48 f_o.shp) ?_
    refine st _ (r_move rfl) ?_
    refine st _ (r_ltN (a := o.length) (b := most) rfl rfl) ?_
    refine st _ (r_move rfl) ?_
    refine part_n (t := 23) rfl (fun h23 => ?_) (fun h23 => ?_)
    · skip
      first | (have h23n := of_decide_eq_true h23) | (have h23n := of_decide_eq_false (bnt h23)) | (have h23n := bnt h23) | (have h23n := h23)
      exfalso; omega
    · skip
      first | (have h23n := of_decide_eq_false h23) | (have h23n := of_decide_eq_true (bnf h23)) | (have h23n := bnf h23) | (have h23n := h23)
      refine st_skip rfl rfl rfl h23 ?_
      refine st_skip rfl rfl rfl h23 ?_
      refine st _ (r_pick_f rfl h23 rfl) ?_
      refine st_nil ?_
      refine c_then ?_
      refine c_if_f rfl rfl ?_
      refine c_exit ?_
      refine x_then ?_
      refine x_then ?_
      refine x_hit ?_
      refine c_then ?_
      refine c_seq ?_
      refine c_region ?_
      refine st _ (r_move rfl) ?_
      refine st _ (r_move rfl) ?_
      refine st _ (r_assign rfl) ?_
      refine st _ (r_assign rfl) ?_
      refine st_nil ?_
      refine c_then ?_
      refine c_ret ?_
      obtain ⟨Q12, fQ, fT, f_oz⟩ := f_o.freeze
      replace n_h0 := fun hh => (fT _ hh).elim n_h0 (nfz (apart_ow f_o h0 (by decide)))
      replace n_oh8_0 := fun hh => (fT _ hh).elim n_oh8_0 (nfz (apart_ow f_o oh8_0 (by decide)))
      replace mf7_0_1 := mf7_0_1.sub (fun b hb _ => fQ b hb)
      replace of8_0_1 := of8_0_1.subF fQ fT (apart_oo f_o of8_0_1 (by decide))
      replace of8_0_2 := of8_0_2.subF fQ fT (apart_oo f_o of8_0_2 (by decide))
      replace of8_0_3 := of8_0_3.subF fQ fT (apart_oo f_o of8_0_3 (by decide))
      replace of8_0_4 := of8_0_4.sub (fun b hb _ => fQ b hb)
      replace tQ := fun b hb => (fT b hb).elim (tQ b) (fun hv => Fsh.up uQ0 b (f_o.2 b hv).1)
      replace sQ0 := fun b hb hl => fQ b (sQ0 b hb hl)
      replace uQ : Up w10 Q12 := fun b hb => fQ b (uQ b hb)
      clear f_o fQ fT; have f_o := f_oz; clear f_oz
      exact retL (vs := [(.pointer (some ⟨ob8_0, 0, none⟩)), vo]) trivial rfl ⟨rfl, rfl, trivial⟩ rfl ⟨ob8_0, _, _, _, _, x8_0, _, o, m7_0, _, Q12, rfl, M, ⟨sQ0, tQ, uQ⟩, oh8_0, n_oh8_0, goh8_0, oq8_0_0, of8_0_1, of8_0_2, of8_0_3, of8_0_4, odj8_datas_fields, f_o, h0, n_h0, mq7_0_0, mf7_0_1, (by subst p0; simp_all [Sq.maker, makerL])⟩
end Go.Proofs.Ytahkddpdhmhfcaa
