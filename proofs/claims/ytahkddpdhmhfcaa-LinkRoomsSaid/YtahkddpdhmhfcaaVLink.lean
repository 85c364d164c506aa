/- Walks of functions: what each call returns, over data. -/
import Derived.Test.YtahkddpdhmhfcaaRows
import Derived.Test.YtahkddpdhmhfcaaLinkP
import Derived.Test.YtahkddpdhmhfcaaVImg2
namespace Go.Proofs.Ytahkddpdhmhfcaa
open Go Go.Wk Go.RowKit
set_option linter.unusedVariables false
set_option linter.unusedSimpArgs false
attribute [local irreducible] wpList wpQuiet wpStill wpMix Code.wp Calls bodyPost
theorem agg57 : isAggN Try.prog 57 3 = true := by kernel_rfl
theorem fn14 : isFn Try.prog 14 = true := by kernel_rfl
theorem fo38_15 : fieldOne Try.prog 38 15 = some 75 := by kernel_rfl
theorem fo38_18 : fieldOne Try.prog 38 18 = some 78 := by kernel_rfl
theorem off45_1 : fieldOff Try.prog 45 1 = some 1 := by kernel_rfl
theorem off57_0 : fieldOff Try.prog 57 0 = some 0 := by kernel_rfl
theorem one30 : isOne Try.prog 30 = true := by kernel_rfl
theorem pl57 : bplace Try.prog 57 = some [(0, 1), (1, 1), (2, 1)] := by kernel_rfl
theorem z57 : zcells Try.prog 57 = some [.slice none 0 0, .int .u64 0, .int .u64 0] := by kernel_rfl

theorem vHead_any {w : World} {Q : Nat → Prop} (uQ : Up w Q) {v0 : Value} {v : PView} (h0 : Pt tPView 45 w Q v0 v) :
    Calls Try.prog 14 #[v0] w fun en w' => ∃ r0 : PHead, en = .returned (.agg (PHead.cells r0).toArray) ∧ Md [] w w' ∧ PHead.ok r0 ∧ v.h = r0 := by
  obtain ⟨bh0, ch0, rfl, n_h0, h0, rh0⟩ := h0
  obtain ⟨v1, rfl, q2, hd3⟩ := tPView_un rh0
  have M := Md.refl [] w
  have uQ0 := uQ
  have tQ : ∀ b, Q b → Q b := fun _ h => h
  have sQ0 : ∀ b, Q b → b < w.heap.size → Q b := fun _ h _ => h
  refine enter (n := 7) Try.func14 rfl rfl rfl ?_
  intro B
  refine c_seq ?_
  refine c_region ?_
  refine st_alloc z38 ?_
  intro ba2 w4 ga2 la2 hm ha2
  have eh0a2 : bh0 ≠ ba2 := by have := h0.lt; omega
  obtain ⟨Q5, sQ, sT, n_ha2, uQ2⟩ := exQ uQ ga2 la2 hm
  replace hd3 := hd3.sub sQ
  replace n_h0 := sQ _ n_h0 h0.lt
  replace tQ := fun b hb => tQ b (sT b hb)
  replace sQ0 := fun b hb hl => sQ b (sQ0 b hb hl) (Nat.lt_of_lt_of_le hl M.size)
  replace ga2 := Nat.le_trans M.size ga2
  replace hd3 := hd3.md0 hm
  replace h0 := h0.md0 hm
  replace uQ := uQ.md hm
  replace M := M.step0 hm
  clear uQ; have uQ := uQ2; clear uQ2 sQ sT
  have p_ha2 : Fsh [] w ba2 := .inr ga2
  replace ha2 : Blk _ _ (PHead.cells (({ compat := 0, incompat := 0, state := 0, file := idZ, machine := idZ, boot := idZ, seq := idZ, n := (List.replicate 21 0), tailArray := 0, tailItems := 0, tailEntry := 0 } : PHead))) _ := ha2
  have okz6 : PHead.ok (({ compat := 0, incompat := 0, state := 0, file := idZ, machine := idZ, boot := idZ, seq := idZ, n := (List.replicate 21 0), tailArray := 0, tailItems := 0, tailEntry := 0 } : PHead)) := (by first | assumption | exact ⟨(by first | omega | (simp <;> omega) | simp_all), (by first | omega | (simp <;> omega) | simp_all), (by first | omega | (simp <;> omega) | simp_all), (by first | assumption | rfl | simp_all), (by first | assumption | rfl | simp_all), (by first | assumption | rfl | simp_all), (by first | assumption | rfl | simp_all), (by first | assumption | exact nums_zero _ | exact nums_set (by assumption) (by omega) | simp_all), (by first | omega | (simp <;> omega) | simp_all), (by first | omega | (simp <;> omega) | simp_all), (by first | omega | (simp <;> omega) | simp_all)⟩)
  refine st_nil ?_
  refine c_then ?_
  refine c_seq ?_
  refine c_region ?_
  refine st _ (r_move rfl) ?_
  refine st _ (r_nil rfl) ?_
  refine st _ (r_field rfl off45_1) ?_
  refine st _ (r_loadPart (PHead.cells v.h) rfl (by exact agg38) h0 rfl) ?_
  refine st_storeAgg (us := (PHead.cells v.h)) rfl rfl (by exact agg38) (by first | exact fun u hu => one_cells (PHead.one ) u hu | exact fun u hu => one_cells rfl u hu) ha2 (Nat.le_of_ble_eq_true rfl) ?_
  have ha20 := ha2; clear ha2; intro w7 hm ha2
  have hS : ∀ b ∈ [ba2], ¬ Q5 b := by intro b hb; simp at hb; subst hb; exact n_ha2
  replace hd3 := hd3.md hm hS
  replace h0 := h0.md hm (by intro hb; simp at hb; omega)
  replace uQ := uQ.md hm
  replace M := M.step hm (all_cons p_ha2 all_nil)
  clear ha20 hS
  replace ha2 : Blk _ _ (PHead.cells v.h) _ := ha2
  refine st_nil ?_
  refine c_then ?_
  refine c_ret ?_
  exact ret1L (v := (.agg (PHead.cells v.h).toArray)) trivial rfl ⟨⟨_, rfl, load_agg (cs := (PHead.cells v.h)) (by exact agg38) ha2⟩, trivial⟩ ⟨v.h, rfl, M, q2, rfl⟩
theorem lRoom_any {w : World} {Q : Nat → Prop} (uQ : Up w Q) (k : Int) (a0 : (-9223372036854775808 ≤ k ∧ k < 9223372036854775808)) :
    Calls Try.prog 5 #[(.int .i64 (k : Int))] w fun en w' => ∃ r0 : Nat, en = .returned (.int .i64 ((r0 : Nat) : Int)) ∧ Md [] w w' ∧ r0 < 9223372036854775808 ∧ roomP k = r0 := by
  have M := Md.refl [] w
  have uQ0 := uQ
  have tQ : ∀ b, Q b → Q b := fun _ h => h
  have sQ0 : ∀ b, Q b → b < w.heap.size → Q b := fun _ h _ => h
  refine enter (n := 11) Try.func5 rfl rfl rfl ?_
  intro B
  refine c_seq ?_
  refine c_region ?_
  refine st _ (r_assign rfl) ?_
  refine st_nil ?_
  refine c_then ?_
  refine c_seq ?_
  refine c_block ?_
  refine c_seq ?_
  refine c_region ?_
  refine st _ (r_move rfl) ?_
  refine st _ (r_lt (a := k) (b := 0) rfl rfl) ?_
  refine st _ (r_assign rfl) ?_
  refine st_nil ?_
  refine c_then ?_
  refine c_if rfl (fun h3 => ?_) (fun h3 => ?_)
  · skip
    first | (have h3n := of_decide_eq_true h3) | (have h3n := of_decide_eq_false (bnt h3)) | (have h3n := bnt h3) | (have h3n := h3)
    refine c_seq ?_
    refine c_region ?_
    refine st _ (r_assign rfl) ?_
    refine st_nil ?_
    refine c_then ?_
    refine c_ret ?_
    refine r_block ?_
    refine r_then ?_
    exact ret1L (v := (.int .i64 ((0 : Nat) : Int))) trivial rfl ⟨rfl, trivial⟩ ⟨0, rfl, M, (by first | assumption | omega | simp_all), (by rw [roomP] <;> simp (disch := first | omega | assumption | (simp; done) | fail) only [if_pos, if_neg, Option.getD_some, Option.some.injEq, reduceIte, Bool.false_eq_true, Bool.true_eq_false, decide_true, decide_false, not_true_eq_false, not_false_eq_true, h3n])⟩
  · skip
    first | (have h3n := of_decide_eq_false h3) | (have h3n := of_decide_eq_true (bnf h3)) | (have h3n := bnf h3) | (have h3n := h3)
    refine c_seq ?_
    refine c_region ?_
    refine st _ (r_move rfl) ?_
    refine st _ (r_ge (a := k) (b := 6) rfl rfl) ?_
    refine st _ (r_assign rfl) ?_
    refine st_nil ?_
    refine c_then ?_
    refine c_if rfl (fun h6 => ?_) (fun h6 => ?_)
    · skip
      first | (have h6n := of_decide_eq_true h6) | (have h6n := of_decide_eq_false (bnt h6)) | (have h6n := bnt h6) | (have h6n := h6)
      refine c_seq ?_
      refine c_region ?_
      refine st _ (r_assign rfl) ?_
      refine st_nil ?_
      refine c_then ?_
      refine c_ret ?_
      refine r_block ?_
      refine r_then ?_
      exact ret1L (v := (.int .i64 ((256 : Nat) : Int))) trivial rfl ⟨rfl, trivial⟩ ⟨256, rfl, M, (by first | assumption | omega | simp_all), (by rw [roomP] <;> simp (disch := first | omega | assumption | (simp; done) | fail) only [if_pos, if_neg, Option.getD_some, Option.some.injEq, reduceIte, Bool.false_eq_true, Bool.true_eq_false, decide_true, decide_false, not_true_eq_false, not_false_eq_true, h3n, h6n])⟩
    · skip
      first | (have h6n := of_decide_eq_false h6) | (have h6n := of_decide_eq_true (bnf h6)) | (have h6n := bnf h6) | (have h6n := h6)
      refine c_skip ?_
      refine n_block ?_
      refine c_then ?_
      refine c_seq ?_
      refine c_region ?_
      refine st _ (((show RunV _ _ _ _ (.int .i64 (k)) from r_move rfl).castI (Int.toNat_of_nonneg (by omega)).symm)) ?_
      refine st _ (r_shlN (a := 4) (b := ((k).toNat)) 9223372036854775808 rfl 64 rfl rfl rfl (by have := Nat.pow_le_pow_right (n := 2) (by decide) (show k.toNat ≤ 6 by omega); omega)) ?_
      have pw : 4 * 2 ^ k.toNat ≤ 256 := by have := Nat.pow_le_pow_right (n := 2) (by decide) (show k.toNat ≤ 6 by omega); omega
      refine st _ (r_assign rfl) ?_
      refine st_nil ?_
      refine c_then ?_
      refine c_ret ?_
      exact ret1L (v := (.int .i64 ((4 * 2 ^ ((k).toNat) : Nat) : Int))) trivial rfl ⟨rfl, trivial⟩ ⟨4 * 2 ^ ((k).toNat), rfl, M, (by first | assumption | omega | simp_all), (by rw [roomP] <;> simp (disch := first | omega | assumption | (simp; done) | fail) only [if_pos, if_neg, Option.getD_some, Option.some.injEq, reduceIte, Bool.false_eq_true, Bool.true_eq_false, decide_true, decide_false, not_true_eq_false, not_false_eq_true, h3n, h6n])⟩
theorem lEntries0_any {w : World} {Q : Nat → Prop} (uQ : Up w Q) {v0 : Value} {v : PView} (h0 : Pt tPView 45 w Q v0 v) (p0 : v.h.n.getD 8 0 = 0) :
    Calls Try.prog 8 #[v0] w fun en w' => ∃ u0 : Value, ∃ r0 : List Nat, ∃ r1 : Nat, en = .returned (.tuple #[u0, (.int .i64 ((r1 : Nat) : Int))]) ∧ Md [] w w' ∧ Ls tU64 w' Q u0 r0 ∧ r1 < 9223372036854775808 ∧ (([] : List Nat), 0) = (r0, r1) := by
  obtain ⟨bh0, ch0, rfl, n_h0, h0, rh0⟩ := h0
  obtain ⟨v1, rfl, q2, hd3⟩ := tPView_un rh0
  have M := Md.refl [] w
  have uQ0 := uQ
  have tQ : ∀ b, Q b → Q b := fun _ h => h
  have sQ0 : ∀ b, Q b → b < w.heap.size → Q b := fun _ h _ => h
  refine enter (n := 67) Try.func8 rfl rfl rfl ?_
  intro B
  refine c_seq ?_
  refine c_region ?_
  refine st _ (r_assign rfl) ?_
  refine st _ (r_assign rfl) ?_
  refine st_nil ?_
  refine c_then ?_
  refine c_seq ?_
  refine c_region ?_
  refine st _ (r_move rfl) ?_
  refine st_call fn14 rfl (vHead_any uQ ⟨_, _, rfl, n_h0, h0, tPView_mk q2 hd3⟩) ?_
  rintro en w4 ⟨x4_0, rfl, hm, q4_0_0, hF4⟩; refine ⟨_, rfl, ?_⟩
  replace hd3 := hd3.md0 hm
  replace h0 := h0.md0 hm
  replace uQ := uQ.md hm
  replace M := M.step0 hm
  refine st _ (r_fieldV fo38_15 rfl rfl) ?_
  have q5 : x4_0.n.getD 8 0 < 18446744073709551616 := (nums_bd q4_0_0.2.2.2.2.2.2.2.1 8)
  refine st _ (r_assign rfl) ?_
  refine st_nil ?_
  refine c_then ?_
  refine c_seq ?_
  refine c_region ?_
  refine st _ (r_move rfl) ?_
  refine st_call fn14 rfl (vHead_any uQ ⟨_, _, rfl, n_h0, h0, tPView_mk q2 hd3⟩) ?_
  rintro en w6 ⟨x6_0, rfl, hm, q6_0_0, hF6⟩; refine ⟨_, rfl, ?_⟩
  replace hd3 := hd3.md0 hm
  replace h0 := h0.md0 hm
  replace uQ := uQ.md hm
  replace M := M.step0 hm
  refine st _ (r_fieldV fo38_18 rfl rfl) ?_
  have q7 : x6_0.n.getD 11 0 < 18446744073709551616 := (nums_bd q6_0_0.2.2.2.2.2.2.2.1 11)
  refine st _ (r_buildG (us := [[(.int .u64 ((x6_0.n.getD 11 0 : Nat) : Int))]]) (cs := (Lst.cells (({ out := [], cur := x6_0.n.getD 11 0, ahead := 0 } : Lst)) (.slice none 0 0))) [(1, 1, 1)] z57 pl57 rfl rfl ⟨rfl, trivial⟩ ⟨rfl, trivial⟩ rfl rfl) ?_
  refine st_alloc z57 ?_
  intro ba5 w8 ga5 la5 hm ha5
  have eh0a5 : bh0 ≠ ba5 := by have := h0.lt; omega
  obtain ⟨Q9, sQ, sT, n_ha5, uQ2⟩ := exQ uQ ga5 la5 hm
  replace hd3 := hd3.sub sQ
  replace n_h0 := sQ _ n_h0 h0.lt
  replace tQ := fun b hb => tQ b (sT b hb)
  replace sQ0 := fun b hb hl => sQ b (sQ0 b hb hl) (Nat.lt_of_lt_of_le hl M.size)
  replace ga5 := Nat.le_trans M.size ga5
  replace hd3 := hd3.md0 hm
  replace h0 := h0.md0 hm
  replace uQ := uQ.md hm
  replace M := M.step0 hm
  clear uQ; have uQ := uQ2; clear uQ2 sQ sT
  have p_ha5 : Fsh [] w ba5 := .inr ga5
  replace ha5 : Blk _ _ (Lst.cells (({ out := [], cur := 0, ahead := 0 } : Lst)) (.slice none 0 0)) _ := ha5
  have okz10 : Lst.ok (({ out := [], cur := 0, ahead := 0 } : Lst)) := (by first | assumption | exact ⟨(by first | omega | (simp <;> omega) | simp_all), (by first | omega | (simp <;> omega) | simp_all)⟩)
  refine st_storeAgg (us := (Lst.cells (({ out := [], cur := x6_0.n.getD 11 0, ahead := 0 } : Lst)) (.slice none 0 0))) rfl rfl (by exact agg57) (by first | exact fun u hu => one_cells (Lst.one rfl) u hu | exact fun u hu => one_cells rfl u hu) ha5 (Nat.le_of_ble_eq_true rfl) ?_
  have ha50 := ha5; clear ha5; intro w11 hm ha5
  have hS : ∀ b ∈ [ba5], ¬ Q9 b := by intro b hb; simp at hb; subst hb; exact n_ha5
  replace hd3 := hd3.md hm hS
  replace h0 := h0.md hm (by intro hb; simp at hb; omega)
  replace uQ := uQ.md hm
  replace M := M.step hm (all_cons p_ha5 all_nil)
  clear ha50 hS
  replace ha5 : Blk _ _ (Lst.cells (({ out := [], cur := x6_0.n.getD 11 0, ahead := 0 } : Lst)) (.slice none 0 0)) _ := ha5
  refine st_nil ?_
  refine c_then ?_
  refine c_seq ?_
  refine c_block ?_
  refine loop1 (fun (_ : Unit) => [(0, (.pointer (some ⟨bh0, 0, none⟩))), (4, (.int .u64 ((x4_0.n.getD 8 0 : Nat) : Int))), (5, (.pointer (some ⟨ba5, 0, none⟩)))]) (fun (_ : Unit) w' => ∃ Q' : Nat → Prop, (∀ b, Q' b → Q b) ∧ (∀ b, Q b → b < w.heap.size → Q' b) ∧ Up w' Q' ∧ Md [] w w' ∧ Blk w' bh0 (PView.cells v v1) 45 ∧ Blk w' ba5 (Lst.cells (({ out := [], cur := x6_0.n.getD 11 0, ahead := 0 } : Lst)) (.slice none 0 0)) 57 ∧ Ls tB8 w' Q' v1 v.b ∧ Q' bh0 ∧ ¬ Q' ba5) (fun (_ : Unit) => 0) (x0 := ()) ?_ ?_ ?_
  · exact ⟨rfl, rfl, rfl, trivial⟩
  · exact ⟨Q9, tQ, sQ0, uQ, M, h0, ha5, hd3, n_h0, n_ha5⟩
  · clear M uQ tQ sQ0 n_h0 n_ha5 hd3 h0 ha5
    rintro _u B w12 ⟨Q13, tQ, sQ0, uQ, M, h0, ha5, hd3, n_h0, n_ha5⟩
    refine c_seq ?_
    refine c_seq ?_
    refine c_region ?_
    refine st _ (r_field rfl off57_0) ?_
    refine st _ ((r_loadBlk rfl one30 ha5 rfl).to (b := (.slice none 0 0)) rfl) ?_
    refine st _ (r_len rfl u30 shp_nil) ?_
    refine st _ (r_convN (a := 0) 18446744073709551616 rfl (by rw [u3]; rfl) u36 rfl (by first | omega | (have := u8lt; omega))) ?_
    refine st _ (r_move rfl) ?_
    refine st _ (r_ltN (a := 0) (b := (x4_0.n.getD 8 0)) rfl rfl) ?_
    refine st_nil ?_
    refine c_then ?_
    refine c_if rfl (fun h23 => ?_) (fun h23 => ?_)
    · skip
      first | (have h23n := of_decide_eq_true h23) | (have h23n := of_decide_eq_false (bnt h23)) | (have h23n := bnt h23) | (have h23n := h23)
      exfalso; first | omega | simp_all
    · skip
      first | (have h23n := of_decide_eq_false h23) | (have h23n := of_decide_eq_true (bnf h23)) | (have h23n := bnf h23) | (have h23n := h23)
      refine c_exit ?_
      refine x_then ?_
      refine x_then ?_
      refine x_hit ?_
      refine c_then ?_
      refine c_seq ?_
      refine c_region ?_
      refine st _ (r_field rfl off57_0) ?_
      refine st _ ((r_loadBlk rfl one30 ha5 rfl).to (b := (.slice none 0 0)) rfl) ?_
      refine st _ (r_assign rfl) ?_
      refine st _ (r_assign rfl) ?_
      refine st_nil ?_
      refine c_then ?_
      refine c_ret ?_
      exact retL (vs := [(.slice none 0 0), (.int .i64 ((0 : Nat) : Int))]) trivial rfl ⟨rfl, rfl, trivial⟩ rfl ⟨_, [], 0, rfl, M, (Ls.nil _ _ _), (by first | assumption | omega | simp_all), (by simp_all)⟩
end Go.Proofs.Ytahkddpdhmhfcaa
