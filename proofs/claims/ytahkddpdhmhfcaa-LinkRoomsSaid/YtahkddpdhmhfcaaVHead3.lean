/- Walks of functions: what each call returns, over data. -/
import Derived.Test.YtahkddpdhmhfcaaRows
import Derived.Test.YtahkddpdhmhfcaaVHead2
namespace Go.Proofs.Ytahkddpdhmhfcaa
open Go Go.Wk Go.RowKit
set_option linter.unusedVariables false
set_option linter.unusedSimpArgs false
attribute [local irreducible] wpList wpQuiet wpStill wpMix Code.wp Calls bodyPost
theorem elT5 : elT Try.prog 5 1 1 = true := by kernel_rfl
theorem fn10 : isFn Try.prog 10 = true := by kernel_rfl
theorem fn18 : isFn Try.prog 18 = true := by kernel_rfl
theorem fn19 : isFn Try.prog 19 = true := by kernel_rfl
theorem fn20 : isFn Try.prog 20 = true := by kernel_rfl
theorem one3 : isOne Try.prog 3 = true := by kernel_rfl


theorem bClone_any {w : World} {Q : Nat → Prop} (uQ : Up w Q) {v0 : Value} {l : List UInt8} (h0 : Ls tB8 w Q v0 l) (p0 : l.length ≤ 140737488355328) :
    Calls Try.prog 11 #[v0] w fun en w' => ∃ u0 : Value, ∃ r0 : List UInt8, ∃ Q' : Nat → Prop, en = .returned (u0) ∧ Md [] w w' ∧ NewQ w w' Q Q' ∧ Ow tB8 5 (Fsh [] w) w' Q' u0 r0 ∧ l = r0 := by
  obtain ⟨a, cap, hv, hcp, hz⟩ : ∃ a cap, v0 = .slice a l.length cap ∧ l.length ≤ cap ∧ (a = none → l = []) := by
    obtain ⟨a, cap, cs, e, h1, h2, h3, _⟩ := h0
    exact ⟨a, cap, e, h1, fun h => List.eq_nil_of_length_eq_zero (by have := h3 h; omega)⟩
  refine enter (n := 8) Try.func11 rfl rfl rfl ?_
  intro B
  refine c_seq ?_
  refine c_region ?_
  refine st _ (r_assign rfl) ?_
  refine st_nil ?_
  refine c_then ?_
  refine c_seq ?_
  refine c_seq ?_
  refine c_region ?_
  refine st _ (r_move rfl) ?_
  refine st (.bool a.isNone) (by exact r_eqlSN (a := a) (m := l.length) (c := cap) (by rw [← hv]; rfl) u28) ?_
  refine st_nil ?_
  refine c_then ?_
  refine c_if rfl (fun h4 => ?_) (fun h4 => ?_)
  · have hn : l = [] := hz (Option.isNone_iff_eq_none.1 h4)
    refine c_seq ?_
    refine c_region ?_
    refine st _ (r_assign rfl) ?_
    refine st_nil ?_
    refine c_then ?_
    refine c_ret ?_
    refine r_then ?_
    exact ret1 trivial rfl rfl ⟨_, [], Q, rfl, Md.refl [] w, ⟨fun x h _ => h, fun x h => h, uQ⟩, Ow.nil _ _ _ _ _, hn⟩
  · refine c_skip ?_
    refine c_then ?_
    refine c_seq ?_
    refine c_region ?_
    refine st_build0 u28 elT5 ?_
    intro b w1 gb lb hm hB
    obtain ⟨Q1, s1, t1, n1, u1⟩ := exQ uQ gb lb hm
    have hO : Ow tB8 5 (Fsh [] w) w1 Q1 (.slice (some ⟨b, 0, none⟩) 0 0) [] := Ow.of_blk (m := 0) hB rfl rfl (by simp [maxLen]) (.inr gb) n1
    replace h0 := (h0.sub s1).md0 hm
    refine st _ (r_move rfl) ?_
    refine st_apZ (sz := 1) rfl u28 elT5 rfl rfl hO h0.lz u1 (Fsh.new hm) (by simp; omega) (by simp; omega) ?_
    intro v2 w2 Q2 sQ tQ u2 hO2 hm2 hS _ hv2
    refine st _ (r_assign rfl) ?_
    refine st_nil ?_
    refine c_then ?_
    refine c_ret ?_
    exact ret1 trivial rfl rfl ⟨_, _, Q2, rfl, hm.step1 hm2 gb, ⟨fun x hx hl => sQ x (s1 x hx hl) (Nat.lt_of_lt_of_le hl hm.size), fun x hx => t1 x (tQ x hx), u2⟩, hO2, by simp⟩
theorem bClone_any_ls {w : World} {Q : Nat → Prop} (uQ : Up w Q) {v0 : Value} {l : List UInt8} (h0 : Ls tB8 w Q v0 l) (p0 : l.length ≤ 140737488355328) :
    Calls Try.prog 11 #[v0] w fun en w' => ∃ u0 : Value, ∃ r0 : List UInt8, en = .returned (u0) ∧ Md [] w w' ∧ Ls tB8 w' Q u0 r0 ∧ l = r0 :=
  (bClone_any uQ h0 p0).mono fun en w' ⟨u0, r0, Q2, he, hm, kq, k0, hF⟩ => ⟨u0, r0, he, hm, k0.ls kq.2.1 (Fsh.up uQ), hF⟩
set_option maxRecDepth 100000 in
theorem hRead_any {w : World} {Q : Nat → Prop} (uQ : Up w Q) {v0 : Value} {b : List UInt8} (h0 : Ls tB8 w Q v0 b) :
    Calls Try.prog 9 #[v0] w fun en w' => ∃ r0 : PHead, ∃ r1 : Nat, en = .returned (.tuple #[.agg (PHead.cells r0).toArray, (.int .i64 ((r1 : Nat) : Int))]) ∧ Md [] w w' ∧ PHead.ok r0 ∧ r1 < 9223372036854775808 ∧ readF b = (r0, r1) := by
  have L0 := h0.len63
  have M := Md.refl [] w
  have uQ0 := uQ
  have tQ : ∀ b, Q b → Q b := fun _ h => h
  have sQ0 : ∀ b, Q b → b < w.heap.size → Q b := fun _ h _ => h
  refine enter (n := 90) Try.func9 rfl rfl rfl ?_
  intro B
  refine c_seq ?_
  refine c_region ?_
  refine st_alloc z38 ?_
  intro ba2 w1 ga2 la2 hm ha2
  obtain ⟨Q2, sQ, sT, n_ha2, uQ2⟩ := exQ uQ ga2 la2 hm
  replace h0 := h0.sub sQ
  replace tQ := fun b hb => tQ b (sT b hb)
  replace sQ0 := fun b hb hl => sQ b (sQ0 b hb hl) (Nat.lt_of_lt_of_le hl M.size)
  replace ga2 := Nat.le_trans M.size ga2
  replace h0 := h0.md0 hm
  replace uQ := uQ.md hm
  replace M := M.step0 hm
  clear uQ; have uQ := uQ2; clear uQ2 sQ sT
  have p_ha2 : Fsh [] w ba2 := .inr ga2
  replace ha2 : Blk _ _ (PHead.cells (({ compat := 0, incompat := 0, state := 0, file := idZ, machine := idZ, boot := idZ, seq := idZ, n := (List.replicate 21 0), tailArray := 0, tailItems := 0, tailEntry := 0 } : PHead))) _ := ha2
  have okz3 : PHead.ok (({ compat := 0, incompat := 0, state := 0, file := idZ, machine := idZ, boot := idZ, seq := idZ, n := (List.replicate 21 0), tailArray := 0, tailItems := 0, tailEntry := 0 } : PHead)) := (by first | assumption | exact ⟨(by first | omega | (simp <;> omega) | simp_all), (by first | omega | (simp <;> omega) | simp_all), (by first | omega | (simp <;> omega) | simp_all), (by first | assumption | rfl | simp_all), (by first | assumption | rfl | simp_all), (by first | assumption | rfl | simp_all), (by first | assumption | rfl | simp_all), (by first | assumption | exact nums_zero _ | exact nums_set (by assumption) (by omega) | simp_all), (by first | omega | (simp <;> omega) | simp_all), (by first | omega | (simp <;> omega) | simp_all), (by first | omega | (simp <;> omega) | simp_all)⟩)
  refine st _ (r_assign rfl) ?_
  refine st_nil ?_
  refine c_then ?_
  refine c_seq ?_
  refine c_block ?_
  refine c_seq ?_
  refine c_region ?_
  refine st _ (r_move rfl) ?_
  refine st _ (r_len rfl u28 h0.shp) ?_
  refine st _ (r_ltN (a := b.length) (b := 272) rfl rfl) ?_
  refine st _ (r_assign rfl) ?_
  refine st_nil ?_
  refine c_then ?_
  refine c_if rfl (fun h9 => ?_) (fun h9 => ?_)
  · skip
    first | (have h9n := of_decide_eq_true h9) | (have h9n := of_decide_eq_false (bnt h9)) | (have h9n := bnt h9) | (have h9n := h9)
    refine c_seq ?_
    refine c_region ?_
    refine st _ (r_buildG (us := []) (cs := (PHead.cells (({ compat := 0, incompat := 0, state := 0, file := idZ, machine := idZ, boot := idZ, seq := idZ, n := (List.replicate 21 0), tailArray := 0, tailItems := 0, tailEntry := 0 } : PHead)))) [] z38 pl38 rfl rfl trivial trivial rfl rfl) ?_
    refine st_storeAgg (us := (PHead.cells (({ compat := 0, incompat := 0, state := 0, file := idZ, machine := idZ, boot := idZ, seq := idZ, n := (List.replicate 21 0), tailArray := 0, tailItems := 0, tailEntry := 0 } : PHead)))) rfl rfl (by exact agg38) (by first | exact fun u hu => one_cells (PHead.one ) u hu | exact fun u hu => one_cells rfl u hu) ha2 (Nat.le_of_ble_eq_true rfl) ?_
    have ha20 := ha2; clear ha2; intro w4 hm ha2
    have hS : ∀ b ∈ [ba2], ¬ Q2 b := by intro b hb; simp at hb; subst hb; exact n_ha2
    replace h0 := h0.md hm hS
    replace uQ := uQ.md hm
    replace M := M.step hm (all_cons p_ha2 all_nil)
    clear ha20 hS
    replace ha2 : Blk _ _ (PHead.cells (({ compat := 0, incompat := 0, state := 0, file := idZ, machine := idZ, boot := idZ, seq := idZ, n := (List.replicate 21 0), tailArray := 0, tailItems := 0, tailEntry := 0 } : PHead))) _ := ha2
    refine st _ (r_assign rfl) ?_
    refine st_nil ?_
    refine c_then ?_
    refine c_ret ?_
    refine r_block ?_
    refine r_then ?_
    exact retL (vs := [(.agg (PHead.cells (({ compat := 0, incompat := 0, state := 0, file := idZ, machine := idZ, boot := idZ, seq := idZ, n := (List.replicate 21 0), tailArray := 0, tailItems := 0, tailEntry := 0 } : PHead))).toArray), (.int .i64 ((22 : Nat) : Int))]) trivial rfl ⟨⟨_, rfl, load_agg (cs := (PHead.cells (({ compat := 0, incompat := 0, state := 0, file := idZ, machine := idZ, boot := idZ, seq := idZ, n := (List.replicate 21 0), tailArray := 0, tailItems := 0, tailEntry := 0 } : PHead)))) (by exact agg38) ha2⟩, rfl, trivial⟩ rfl ⟨(({ compat := 0, incompat := 0, state := 0, file := idZ, machine := idZ, boot := idZ, seq := idZ, n := (List.replicate 21 0), tailArray := 0, tailItems := 0, tailEntry := 0 } : PHead)), 22, rfl, M, (by first | assumption | exact ⟨(by first | omega | (simp <;> omega) | simp_all), (by first | omega | (simp <;> omega) | simp_all), (by first | omega | (simp <;> omega) | simp_all), (by first | assumption | rfl | simp_all), (by first | assumption | rfl | simp_all), (by first | assumption | rfl | simp_all), (by first | assumption | rfl | simp_all), (by first | assumption | exact nums_zero _ | exact nums_set (by assumption) (by omega) | simp_all), (by first | omega | (simp <;> omega) | simp_all), (by first | omega | (simp <;> omega) | simp_all), (by first | omega | (simp <;> omega) | simp_all)⟩), (by first | assumption | omega | simp_all), (readF_short h9n)⟩
  · skip
    first | (have h9n := of_decide_eq_false h9) | (have h9n := of_decide_eq_true (bnf h9)) | (have h9n := bnf h9) | (have h9n := h9)
    refine c_seq ?_
    refine c_region ?_
    refine st _ (r_move rfl) ?_
    refine st_buildSliceG [[(b8 76)], [(b8 80)], [(b8 75)], [(b8 83)], [(b8 72)], [(b8 72)], [(b8 82)], [(b8 72)]] u28 elT5 (by decide) (by decide) rfl rfl ⟨rfl, rfl, rfl, rfl, rfl, rfl, rfl, rfl, trivial⟩ ⟨rfl, rfl, rfl, rfl, rfl, rfl, rfl, rfl, trivial⟩ rfl (by decide) ?_
    intro ba16 w5 ga16 la16 hm ha16
    have eha2a16 : ba2 ≠ ba16 := by have := ha2.lt; omega
    have p_ha16 : Fsh [] w ba16 := Fsh.new M _ ga16
    obtain ⟨Q6, sQ, sT, n_ha16, uQ2⟩ := exQ uQ ga16 la16 hm
    replace h0 := h0.sub sQ
    replace n_ha2 := fun hh => n_ha2 (sT _ hh)
    replace tQ := fun b hb => tQ b (sT b hb)
    replace sQ0 := fun b hb hl => sQ b (sQ0 b hb hl) (Nat.lt_of_lt_of_le hl M.size)
    replace h0 := h0.md0 hm
    replace ha2 := ha2.md0 hm
    replace uQ := uQ.md hm
    replace M := M.step0 hm
    clear uQ; have uQ := uQ2; clear uQ2 sQ sT
    refine st_mark u28 u5 rfl (show Blk _ _ (([76, 80, 75, 83, 72, 72, 82, 72] : List UInt8).map b8) _ from ha16) (By.of_blk (show Blk _ _ (([76, 80, 75, 83, 72, 72, 82, 72] : List UInt8).map b8) _ from ha16) rfl (by decide)) ?_
    intro w7 hm hY; have ha160 := ha16; clear ha16
    have hS : ∀ b ∈ [ba16], ¬ Q6 b := by intro b hb; simp at hb; subst hb; exact n_ha16
    replace h0 := h0.md hm hS
    replace ha2 := ha2.md hm (by intro hb; simp at hb; omega)
    replace uQ := uQ.md hm
    replace M := M.step hm (all_cons p_ha16 all_nil)
    obtain ⟨Q8, fQ, fT, ha16y⟩ := lit_freeze (Q := Q6) hY
    replace h0 := h0.sub (fun b hb _ => fQ b hb)
    replace n_ha2 := fun hh => (fT _ hh).elim n_ha2 (by omega)
    replace tQ := fun b hb => (fT b hb).elim (tQ b) (fun hv => Fsh.up uQ0 b (hv ▸ p_ha16))
    replace sQ0 := fun b hb hl => fQ b (sQ0 b hb hl)
    replace uQ : Up w7 Q8 := fun b hb => fQ b (uQ b hb)
    clear ha160 hS fQ fT hY n_ha16
    refine st_call fn18 rfl (hPref_any uQ h0 ha16y) ?_
    rintro en w9 ⟨x9_0, rfl, hm, hF9⟩; refine ⟨_, rfl, ?_⟩
    replace h0 := h0.md0 hm
    replace ha2 := ha2.md0 hm
    replace ha16y := ha16y.md0 hm
    replace uQ := uQ.md hm
    replace M := M.step0 hm
    refine st _ (r_not rfl) ?_
    refine st _ (r_assign rfl) ?_
    refine st_nil ?_
    refine c_then ?_
    refine c_if rfl (fun h14 => ?_) (fun h14 => ?_)
    · skip
      first | (have h14n := of_decide_eq_true h14) | (have h14n := of_decide_eq_false (bnt h14)) | (have h14n := bnt h14) | (have h14n := h14)
      refine c_seq ?_
      refine c_region ?_
      refine st _ (r_buildG (us := []) (cs := (PHead.cells (({ compat := 0, incompat := 0, state := 0, file := idZ, machine := idZ, boot := idZ, seq := idZ, n := (List.replicate 21 0), tailArray := 0, tailItems := 0, tailEntry := 0 } : PHead)))) [] z38 pl38 rfl rfl trivial trivial rfl rfl) ?_
      refine st_storeAgg (us := (PHead.cells (({ compat := 0, incompat := 0, state := 0, file := idZ, machine := idZ, boot := idZ, seq := idZ, n := (List.replicate 21 0), tailArray := 0, tailItems := 0, tailEntry := 0 } : PHead)))) rfl rfl (by exact agg38) (by first | exact fun u hu => one_cells (PHead.one ) u hu | exact fun u hu => one_cells rfl u hu) ha2 (Nat.le_of_ble_eq_true rfl) ?_
      have ha20 := ha2; clear ha2; intro w10 hm ha2
      have hS : ∀ b ∈ [ba2], ¬ Q8 b := by intro b hb; simp at hb; subst hb; exact n_ha2
      replace h0 := h0.md hm hS
      replace ha16y := ha16y.md hm hS
      replace uQ := uQ.md hm
      replace M := M.step hm (all_cons p_ha2 all_nil)
      clear ha20 hS
      replace ha2 : Blk _ _ (PHead.cells (({ compat := 0, incompat := 0, state := 0, file := idZ, machine := idZ, boot := idZ, seq := idZ, n := (List.replicate 21 0), tailArray := 0, tailItems := 0, tailEntry := 0 } : PHead))) _ := ha2
      refine st _ (r_assign rfl) ?_
      refine st_nil ?_
      refine c_then ?_
      refine c_ret ?_
      refine r_block ?_
      refine r_then ?_
      exact retL (vs := [(.agg (PHead.cells (({ compat := 0, incompat := 0, state := 0, file := idZ, machine := idZ, boot := idZ, seq := idZ, n := (List.replicate 21 0), tailArray := 0, tailItems := 0, tailEntry := 0 } : PHead))).toArray), (.int .i64 ((6 : Nat) : Int))]) trivial rfl ⟨⟨_, rfl, load_agg (cs := (PHead.cells (({ compat := 0, incompat := 0, state := 0, file := idZ, machine := idZ, boot := idZ, seq := idZ, n := (List.replicate 21 0), tailArray := 0, tailItems := 0, tailEntry := 0 } : PHead)))) (by exact agg38) ha2⟩, rfl, trivial⟩ rfl ⟨(({ compat := 0, incompat := 0, state := 0, file := idZ, machine := idZ, boot := idZ, seq := idZ, n := (List.replicate 21 0), tailArray := 0, tailItems := 0, tailEntry := 0 } : PHead)), 6, rfl, M, (by first | assumption | exact ⟨(by first | omega | (simp <;> omega) | simp_all), (by first | omega | (simp <;> omega) | simp_all), (by first | omega | (simp <;> omega) | simp_all), (by first | assumption | rfl | simp_all), (by first | assumption | rfl | simp_all), (by first | assumption | rfl | simp_all), (by first | assumption | rfl | simp_all), (by first | assumption | exact nums_zero _ | exact nums_set (by assumption) (by omega) | simp_all), (by first | omega | (simp <;> omega) | simp_all), (by first | omega | (simp <;> omega) | simp_all), (by first | omega | (simp <;> omega) | simp_all)⟩), (by first | assumption | omega | simp_all), (readF_sign h9n (by rw [hF9]; exact h14n))⟩
    · skip
      first | (have h14n := of_decide_eq_false h14) | (have h14n := of_decide_eq_true (bnf h14)) | (have h14n := bnf h14) | (have h14n := h14)
      refine c_skip ?_
      refine n_block ?_
      refine c_then ?_
      refine c_seq ?_
      refine c_region ?_
      refine st _ (r_move rfl) ?_
      refine st_call fn19 rfl (hParse_any uQ h0 (by first | omega | (simp <;> omega) | (simp at * <;> omega))) ?_
      rintro en w11 ⟨x11_0, rfl, hm, q11_0_0, hF11⟩; refine ⟨_, rfl, ?_⟩
      replace h0 := h0.md0 hm
      replace ha2 := ha2.md0 hm
      replace ha16y := ha16y.md0 hm
      replace uQ := uQ.md hm
      replace M := M.step0 hm
      refine st_alloc z38 ?_
      intro ba4 w12 ga4 la4 hm ha4
      have eha2a4 : ba2 ≠ ba4 := by have := ha2.lt; omega
      obtain ⟨Q13, sQ, sT, n_ha4, uQ2⟩ := exQ uQ ga4 la4 hm
      replace h0 := h0.sub sQ
      replace n_ha2 := fun hh => n_ha2 (sT _ hh)
      replace ha16y := ha16y.sub sQ
      replace tQ := fun b hb => tQ b (sT b hb)
      replace sQ0 := fun b hb hl => sQ b (sQ0 b hb hl) (Nat.lt_of_lt_of_le hl M.size)
      replace ga4 := Nat.le_trans M.size ga4
      replace h0 := h0.md0 hm
      replace ha2 := ha2.md0 hm
      replace ha16y := ha16y.md0 hm
      replace uQ := uQ.md hm
      replace M := M.step0 hm
      clear uQ; have uQ := uQ2; clear uQ2 sQ sT
      have p_ha4 : Fsh [] w ba4 := .inr ga4
      replace ha4 : Blk _ _ (PHead.cells (({ compat := 0, incompat := 0, state := 0, file := idZ, machine := idZ, boot := idZ, seq := idZ, n := (List.replicate 21 0), tailArray := 0, tailItems := 0, tailEntry := 0 } : PHead))) _ := ha4
      have okz14 : PHead.ok (({ compat := 0, incompat := 0, state := 0, file := idZ, machine := idZ, boot := idZ, seq := idZ, n := (List.replicate 21 0), tailArray := 0, tailItems := 0, tailEntry := 0 } : PHead)) := (by first | assumption | exact ⟨(by first | omega | (simp <;> omega) | simp_all), (by first | omega | (simp <;> omega) | simp_all), (by first | omega | (simp <;> omega) | simp_all), (by first | assumption | rfl | simp_all), (by first | assumption | rfl | simp_all), (by first | assumption | rfl | simp_all), (by first | assumption | rfl | simp_all), (by first | assumption | exact nums_zero _ | exact nums_set (by assumption) (by omega) | simp_all), (by first | omega | (simp <;> omega) | simp_all), (by first | omega | (simp <;> omega) | simp_all), (by first | omega | (simp <;> omega) | simp_all)⟩)
      refine st_storeAgg (us := (PHead.cells x11_0)) rfl rfl (by exact agg38) (by first | exact fun u hu => one_cells (PHead.one ) u hu | exact fun u hu => one_cells rfl u hu) ha4 (Nat.le_of_ble_eq_true rfl) ?_
      have ha40 := ha4; clear ha4; intro w15 hm ha4
      have hS : ∀ b ∈ [ba4], ¬ Q13 b := by intro b hb; simp at hb; subst hb; exact n_ha4
      replace h0 := h0.md hm hS
      replace ha2 := ha2.md hm (by intro hb; simp at hb; omega)
      replace ha16y := ha16y.md hm hS
      replace uQ := uQ.md hm
      replace M := M.step hm (all_cons p_ha4 all_nil)
      clear ha40 hS
      replace ha4 : Blk _ _ (PHead.cells x11_0) _ := ha4
      refine st_nil ?_
      refine c_then ?_
      refine c_seq ?_
      refine c_region ?_
      refine st _ (r_loadPart (PHead.cells x11_0) rfl (by exact agg38) ha4 rfl) ?_
      refine st_call fn10 rfl (hEnd_any uQ x11_0 q11_0_0) ?_
      rintro en w16 ⟨x16_0, x16_1, rfl, hm, q16_0, hF16⟩; refine ⟨_, rfl, ?_⟩
      replace h0 := h0.md0 hm
      replace ha2 := ha2.md0 hm
      replace ha16y := ha16y.md0 hm
      replace ha4 := ha4.md0 hm
      replace uQ := uQ.md hm
      replace M := M.step0 hm
      refine st _ (r_move rfl) ?_
      refine st _ (r_extract rfl rfl) ?_
      refine st _ (r_extract rfl rfl) ?_
      refine st _ (r_assign rfl) ?_
      refine st _ (r_assign rfl) ?_
      refine st_nil ?_
      refine c_then ?_
      refine c_seq ?_
      refine c_block ?_
      refine c_seq ?_
      refine c_region ?_
      refine st _ (r_field rfl off38_1) ?_
      refine st _ ((r_loadBlk rfl one33 ha4 rfl).to (b := (.int .u32 ((x11_0.incompat : Nat) : Int))) rfl) ?_
      have q17 : x11_0.incompat < 4294967296 := q11_0_0.2.1
      refine st _ (r_andNotN (a := x11_0.incompat) (b := 4) 4294967296 rfl rfl rfl rfl (by omega)) ?_
      refine st _ (r_neN (a := (andNot x11_0.incompat 4)) (b := 0) rfl rfl) ?_
      refine st _ (r_assign rfl) ?_
      refine st_nil ?_
      refine c_then ?_
      refine c_if rfl (fun h28 => ?_) (fun h28 => ?_)
      · skip
        first | (have h28n := of_decide_eq_true h28) | (have h28n := of_decide_eq_false (bnt h28)) | (have h28n := bnt h28) | (have h28n := h28)
        refine c_seq ?_
        refine c_region ?_
        refine st _ (r_buildG (us := []) (cs := (PHead.cells (({ compat := 0, incompat := 0, state := 0, file := idZ, machine := idZ, boot := idZ, seq := idZ, n := (List.replicate 21 0), tailArray := 0, tailItems := 0, tailEntry := 0 } : PHead)))) [] z38 pl38 rfl rfl trivial trivial rfl rfl) ?_
        refine st_storeAgg (us := (PHead.cells (({ compat := 0, incompat := 0, state := 0, file := idZ, machine := idZ, boot := idZ, seq := idZ, n := (List.replicate 21 0), tailArray := 0, tailItems := 0, tailEntry := 0 } : PHead)))) rfl rfl (by exact agg38) (by first | exact fun u hu => one_cells (PHead.one ) u hu | exact fun u hu => one_cells rfl u hu) ha2 (Nat.le_of_ble_eq_true rfl) ?_
        have ha20 := ha2; clear ha2; intro w18 hm ha2
        have hS : ∀ b ∈ [ba2], ¬ Q13 b := by intro b hb; simp at hb; subst hb; exact n_ha2
        replace h0 := h0.md hm hS
        replace ha16y := ha16y.md hm hS
        replace ha4 := ha4.md hm (by intro hb; simp at hb; omega)
        replace uQ := uQ.md hm
        replace M := M.step hm (all_cons p_ha2 all_nil)
        clear ha20 hS
        replace ha2 : Blk _ _ (PHead.cells (({ compat := 0, incompat := 0, state := 0, file := idZ, machine := idZ, boot := idZ, seq := idZ, n := (List.replicate 21 0), tailArray := 0, tailItems := 0, tailEntry := 0 } : PHead))) _ := ha2
        refine st _ (r_assign rfl) ?_
        refine st_nil ?_
        refine c_then ?_
        refine c_ret ?_
        refine r_block ?_
        refine r_then ?_
        exact retL (vs := [(.agg (PHead.cells (({ compat := 0, incompat := 0, state := 0, file := idZ, machine := idZ, boot := idZ, seq := idZ, n := (List.replicate 21 0), tailArray := 0, tailItems := 0, tailEntry := 0 } : PHead))).toArray), (.int .i64 ((7 : Nat) : Int))]) trivial rfl ⟨⟨_, rfl, load_agg (cs := (PHead.cells (({ compat := 0, incompat := 0, state := 0, file := idZ, machine := idZ, boot := idZ, seq := idZ, n := (List.replicate 21 0), tailArray := 0, tailItems := 0, tailEntry := 0 } : PHead)))) (by exact agg38) ha2⟩, rfl, trivial⟩ rfl ⟨(({ compat := 0, incompat := 0, state := 0, file := idZ, machine := idZ, boot := idZ, seq := idZ, n := (List.replicate 21 0), tailArray := 0, tailItems := 0, tailEntry := 0 } : PHead)), 7, rfl, M, (by first | assumption | exact ⟨(by first | omega | (simp <;> omega) | simp_all), (by first | omega | (simp <;> omega) | simp_all), (by first | omega | (simp <;> omega) | simp_all), (by first | assumption | rfl | simp_all), (by first | assumption | rfl | simp_all), (by first | assumption | rfl | simp_all), (by first | assumption | rfl | simp_all), (by first | assumption | exact nums_zero _ | exact nums_set (by assumption) (by omega) | simp_all), (by first | omega | (simp <;> omega) | simp_all), (by first | omega | (simp <;> omega) | simp_all), (by first | omega | (simp <;> omega) | simp_all)⟩), (by first | assumption | omega | simp_all), (readF_no h9n hF9 (by simp_all) hF11 (by rw [amiss_at hF16]; rw [if_pos h28n]) (by decide))⟩
      · skip
        first | (have h28n := of_decide_eq_false h28) | (have h28n := of_decide_eq_true (bnf h28)) | (have h28n := bnf h28) | (have h28n := h28)
        refine c_seq ?_
        refine c_region ?_
        refine st _ (r_field rfl off38_2) ?_
        refine st _ ((r_loadBlk rfl one3 ha4 rfl).to (b := (.int .i64 ((x11_0.state : Nat) : Int))) rfl) ?_
        have q19 : x11_0.state < 9223372036854775808 := q11_0_0.2.2.1
        refine st _ (r_gtN (a := x11_0.state) (b := 2) rfl rfl) ?_
        refine st _ (r_assign rfl) ?_
        refine st_nil ?_
        refine c_then ?_
        refine c_if rfl (fun h34 => ?_) (fun h34 => ?_)
        · skip
          first | (have h34n := of_decide_eq_true h34) | (have h34n := of_decide_eq_false (bnt h34)) | (have h34n := bnt h34) | (have h34n := h34)
          refine c_seq ?_
          refine c_region ?_
          refine st _ (r_buildG (us := []) (cs := (PHead.cells (({ compat := 0, incompat := 0, state := 0, file := idZ, machine := idZ, boot := idZ, seq := idZ, n := (List.replicate 21 0), tailArray := 0, tailItems := 0, tailEntry := 0 } : PHead)))) [] z38 pl38 rfl rfl trivial trivial rfl rfl) ?_
          refine st_storeAgg (us := (PHead.cells (({ compat := 0, incompat := 0, state := 0, file := idZ, machine := idZ, boot := idZ, seq := idZ, n := (List.replicate 21 0), tailArray := 0, tailItems := 0, tailEntry := 0 } : PHead)))) rfl rfl (by exact agg38) (by first | exact fun u hu => one_cells (PHead.one ) u hu | exact fun u hu => one_cells rfl u hu) ha2 (Nat.le_of_ble_eq_true rfl) ?_
          have ha20 := ha2; clear ha2; intro w20 hm ha2
          have hS : ∀ b ∈ [ba2], ¬ Q13 b := by intro b hb; simp at hb; subst hb; exact n_ha2
          replace h0 := h0.md hm hS
          replace ha16y := ha16y.md hm hS
          replace ha4 := ha4.md hm (by intro hb; simp at hb; omega)
          replace uQ := uQ.md hm
          replace M := M.step hm (all_cons p_ha2 all_nil)
          clear ha20 hS
          replace ha2 : Blk _ _ (PHead.cells (({ compat := 0, incompat := 0, state := 0, file := idZ, machine := idZ, boot := idZ, seq := idZ, n := (List.replicate 21 0), tailArray := 0, tailItems := 0, tailEntry := 0 } : PHead))) _ := ha2
          refine st _ (r_assign rfl) ?_
          refine st_nil ?_
          refine c_then ?_
          refine c_ret ?_
          refine r_block ?_
          refine r_then ?_
          exact retL (vs := [(.agg (PHead.cells (({ compat := 0, incompat := 0, state := 0, file := idZ, machine := idZ, boot := idZ, seq := idZ, n := (List.replicate 21 0), tailArray := 0, tailItems := 0, tailEntry := 0 } : PHead))).toArray), (.int .i64 ((8 : Nat) : Int))]) trivial rfl ⟨⟨_, rfl, load_agg (cs := (PHead.cells (({ compat := 0, incompat := 0, state := 0, file := idZ, machine := idZ, boot := idZ, seq := idZ, n := (List.replicate 21 0), tailArray := 0, tailItems := 0, tailEntry := 0 } : PHead)))) (by exact agg38) ha2⟩, rfl, trivial⟩ rfl ⟨(({ compat := 0, incompat := 0, state := 0, file := idZ, machine := idZ, boot := idZ, seq := idZ, n := (List.replicate 21 0), tailArray := 0, tailItems := 0, tailEntry := 0 } : PHead)), 8, rfl, M, (by first | assumption | exact ⟨(by first | omega | (simp <;> omega) | simp_all), (by first | omega | (simp <;> omega) | simp_all), (by first | omega | (simp <;> omega) | simp_all), (by first | assumption | rfl | simp_all), (by first | assumption | rfl | simp_all), (by first | assumption | rfl | simp_all), (by first | assumption | rfl | simp_all), (by first | assumption | exact nums_zero _ | exact nums_set (by assumption) (by omega) | simp_all), (by first | omega | (simp <;> omega) | simp_all), (by first | omega | (simp <;> omega) | simp_all), (by first | omega | (simp <;> omega) | simp_all)⟩), (by first | assumption | omega | simp_all), (readF_no h9n hF9 (by simp_all) hF11 (by rw [amiss_at hF16]; rw [if_neg h28n, if_pos h34n]) (by decide))⟩
        · skip
          first | (have h34n := of_decide_eq_false h34) | (have h34n := of_decide_eq_true (bnf h34)) | (have h34n := bnf h34) | (have h34n := h34)
          refine c_seq ?_
          refine c_region ?_
          refine st _ (r_field rfl off38_7) ?_
          refine st _ ((r_loadBlk rfl one36 ha4 rfl).to (b := (.int .u64 ((x11_0.n.getD 0 0 : Nat) : Int))) rfl) ?_
          have q21 : x11_0.n.getD 0 0 < 18446744073709551616 := (nums_bd q11_0_0.2.2.2.2.2.2.2.1 0)
          refine st _ (r_ltN (a := (x11_0.n.getD 0 0)) (b := 272) rfl rfl) ?_
          refine st _ (r_move rfl) ?_
          refine part_n (t := 43) rfl (fun h43 => ?_) (fun h43 => ?_)
          · skip
            first | (have h43n := of_decide_eq_true h43) | (have h43n := of_decide_eq_false (bnt h43)) | (have h43n := bnt h43) | (have h43n := h43)
            refine st_skip rfl rfl rfl h43 ?_
            refine st_skip rfl rfl rfl h43 ?_
            refine st_skip rfl rfl rfl h43 ?_
            refine st_skip rfl rfl rfl h43 ?_
            refine st _ (r_pick_t rfl h43 rfl) ?_
            refine st _ (r_move rfl) ?_
            refine st_skip rfl rfl rfl rfl ?_
            refine st_skip rfl rfl rfl rfl ?_
            refine st_skip rfl rfl rfl rfl ?_
            refine st_skip rfl rfl rfl rfl ?_
            refine st _ (r_pick_t rfl rfl rfl) ?_
            refine st _ (r_assign rfl) ?_
            refine st_nil ?_
            refine c_then ?_
            refine c_if_t rfl rfl ?_
            refine c_seq ?_
            refine c_region ?_
            refine st _ (r_buildG (us := []) (cs := (PHead.cells (({ compat := 0, incompat := 0, state := 0, file := idZ, machine := idZ, boot := idZ, seq := idZ, n := (List.replicate 21 0), tailArray := 0, tailItems := 0, tailEntry := 0 } : PHead)))) [] z38 pl38 rfl rfl trivial trivial rfl rfl) ?_
            refine st_storeAgg (us := (PHead.cells (({ compat := 0, incompat := 0, state := 0, file := idZ, machine := idZ, boot := idZ, seq := idZ, n := (List.replicate 21 0), tailArray := 0, tailItems := 0, tailEntry := 0 } : PHead)))) rfl rfl (by exact agg38) (by first | exact fun u hu => one_cells (PHead.one ) u hu | exact fun u hu => one_cells rfl u hu) ha2 (Nat.le_of_ble_eq_true rfl) ?_
            have ha20 := ha2; clear ha2; intro w22 hm ha2
            have hS : ∀ b ∈ [ba2], ¬ Q13 b := by intro b hb; simp at hb; subst hb; exact n_ha2
            replace h0 := h0.md hm hS
            replace ha16y := ha16y.md hm hS
            replace ha4 := ha4.md hm (by intro hb; simp at hb; omega)
            replace uQ := uQ.md hm
            replace M := M.step hm (all_cons p_ha2 all_nil)
            clear ha20 hS
            replace ha2 : Blk _ _ (PHead.cells (({ compat := 0, incompat := 0, state := 0, file := idZ, machine := idZ, boot := idZ, seq := idZ, n := (List.replicate 21 0), tailArray := 0, tailItems := 0, tailEntry := 0 } : PHead))) _ := ha2
            refine st _ (r_assign rfl) ?_
            refine st_nil ?_
            refine c_then ?_
            refine c_ret ?_
            refine r_block ?_
            refine r_then ?_
            exact retL (vs := [(.agg (PHead.cells (({ compat := 0, incompat := 0, state := 0, file := idZ, machine := idZ, boot := idZ, seq := idZ, n := (List.replicate 21 0), tailArray := 0, tailItems := 0, tailEntry := 0 } : PHead))).toArray), (.int .i64 ((5 : Nat) : Int))]) trivial rfl ⟨⟨_, rfl, load_agg (cs := (PHead.cells (({ compat := 0, incompat := 0, state := 0, file := idZ, machine := idZ, boot := idZ, seq := idZ, n := (List.replicate 21 0), tailArray := 0, tailItems := 0, tailEntry := 0 } : PHead)))) (by exact agg38) ha2⟩, rfl, trivial⟩ rfl ⟨(({ compat := 0, incompat := 0, state := 0, file := idZ, machine := idZ, boot := idZ, seq := idZ, n := (List.replicate 21 0), tailArray := 0, tailItems := 0, tailEntry := 0 } : PHead)), 5, rfl, M, (by first | assumption | exact ⟨(by first | omega | (simp <;> omega) | simp_all), (by first | omega | (simp <;> omega) | simp_all), (by first | omega | (simp <;> omega) | simp_all), (by first | assumption | rfl | simp_all), (by first | assumption | rfl | simp_all), (by first | assumption | rfl | simp_all), (by first | assumption | rfl | simp_all), (by first | assumption | exact nums_zero _ | exact nums_set (by assumption) (by omega) | simp_all), (by first | omega | (simp <;> omega) | simp_all), (by first | omega | (simp <;> omega) | simp_all), (by first | omega | (simp <;> omega) | simp_all)⟩), (by first | assumption | omega | simp_all), (readF_no h9n hF9 (by simp_all) hF11 (by rw [amiss_at hF16]; rw [if_neg h28n, if_neg h34n, if_pos (by first | omega | simp_all)]) (by decide))⟩
          · skip
            first | (have h43n := of_decide_eq_false h43) | (have h43n := of_decide_eq_true (bnf h43)) | (have h43n := bnf h43) | (have h43n := h43)
            refine st_g _ rfl rfl rfl h43 (r_field rfl off38_7) ?_
            refine st_g _ rfl rfl rfl h43 ((r_loadBlk rfl one36 ha4 rfl).to (b := (.int .u64 ((x11_0.n.getD 0 0 : Nat) : Int))) rfl) ?_
            refine st_g _ rfl rfl rfl h43 (r_remN (a := (x11_0.n.getD 0 0)) (b := 8) rfl rfl (by omega)) ?_
            refine st_g _ rfl rfl rfl h43 (r_neN (a := ((x11_0.n.getD 0 0) % 8)) (b := 0) rfl rfl) ?_
            refine st _ (r_pick_f rfl h43 rfl) ?_
            refine st _ (r_move rfl) ?_
            refine part_n (t := 49) rfl (fun h49 => ?_) (fun h49 => ?_)
            · skip
              first | (have h49n := of_decide_eq_true h49) | (have h49n := of_decide_eq_false (bnt h49)) | (have h49n := bnt h49) | (have h49n := h49)
              refine st_skip rfl rfl rfl h49 ?_
              refine st_skip rfl rfl rfl h49 ?_
              refine st_skip rfl rfl rfl h49 ?_
              refine st_skip rfl rfl rfl h49 ?_
              refine st _ (r_pick_t rfl h49 rfl) ?_
              refine st _ (r_assign rfl) ?_
              refine st_nil ?_
              refine c_then ?_
              refine c_if_t rfl rfl ?_
              refine c_seq ?_
              refine c_region ?_
              refine st _ (r_buildG (us := []) (cs := (PHead.cells (({ compat := 0, incompat := 0, state := 0, file := idZ, machine := idZ, boot := idZ, seq := idZ, n := (List.replicate 21 0), tailArray := 0, tailItems := 0, tailEntry := 0 } : PHead)))) [] z38 pl38 rfl rfl trivial trivial rfl rfl) ?_
              refine st_storeAgg (us := (PHead.cells (({ compat := 0, incompat := 0, state := 0, file := idZ, machine := idZ, boot := idZ, seq := idZ, n := (List.replicate 21 0), tailArray := 0, tailItems := 0, tailEntry := 0 } : PHead)))) rfl rfl (by exact agg38) (by first | exact fun u hu => one_cells (PHead.one ) u hu | exact fun u hu => one_cells rfl u hu) ha2 (Nat.le_of_ble_eq_true rfl) ?_
              have ha20 := ha2; clear ha2; intro w23 hm ha2
              have hS : ∀ b ∈ [ba2], ¬ Q13 b := by intro b hb; simp at hb; subst hb; exact n_ha2
              replace h0 := h0.md hm hS
              replace ha16y := ha16y.md hm hS
              replace ha4 := ha4.md hm (by intro hb; simp at hb; omega)
              replace uQ := uQ.md hm
              replace M := M.step hm (all_cons p_ha2 all_nil)
              clear ha20 hS
              replace ha2 : Blk _ _ (PHead.cells (({ compat := 0, incompat := 0, state := 0, file := idZ, machine := idZ, boot := idZ, seq := idZ, n := (List.replicate 21 0), tailArray := 0, tailItems := 0, tailEntry := 0 } : PHead))) _ := ha2
              refine st _ (r_assign rfl) ?_
              refine st_nil ?_
              refine c_then ?_
              refine c_ret ?_
              refine r_block ?_
              refine r_then ?_
              exact retL (vs := [(.agg (PHead.cells (({ compat := 0, incompat := 0, state := 0, file := idZ, machine := idZ, boot := idZ, seq := idZ, n := (List.replicate 21 0), tailArray := 0, tailItems := 0, tailEntry := 0 } : PHead))).toArray), (.int .i64 ((5 : Nat) : Int))]) trivial rfl ⟨⟨_, rfl, load_agg (cs := (PHead.cells (({ compat := 0, incompat := 0, state := 0, file := idZ, machine := idZ, boot := idZ, seq := idZ, n := (List.replicate 21 0), tailArray := 0, tailItems := 0, tailEntry := 0 } : PHead)))) (by exact agg38) ha2⟩, rfl, trivial⟩ rfl ⟨(({ compat := 0, incompat := 0, state := 0, file := idZ, machine := idZ, boot := idZ, seq := idZ, n := (List.replicate 21 0), tailArray := 0, tailItems := 0, tailEntry := 0 } : PHead)), 5, rfl, M, (by first | assumption | exact ⟨(by first | omega | (simp <;> omega) | simp_all), (by first | omega | (simp <;> omega) | simp_all), (by first | omega | (simp <;> omega) | simp_all), (by first | assumption | rfl | simp_all), (by first | assumption | rfl | simp_all), (by first | assumption | rfl | simp_all), (by first | assumption | rfl | simp_all), (by first | assumption | exact nums_zero _ | exact nums_set (by assumption) (by omega) | simp_all), (by first | omega | (simp <;> omega) | simp_all), (by first | omega | (simp <;> omega) | simp_all), (by first | omega | (simp <;> omega) | simp_all)⟩), (by first | assumption | omega | simp_all), (readF_no h9n hF9 (by simp_all) hF11 (by rw [amiss_at hF16]; rw [if_neg h28n, if_neg h34n, if_pos (by first | omega | simp_all)]) (by decide))⟩
            · skip
              first | (have h49n := of_decide_eq_false h49) | (have h49n := of_decide_eq_true (bnf h49)) | (have h49n := bnf h49) | (have h49n := h49)
              refine st_g _ rfl rfl rfl h49 (r_field rfl off38_8) ?_
              refine st_g _ rfl rfl rfl h49 ((r_loadBlk rfl one36 ha4 rfl).to (b := (.int .u64 ((x11_0.n.getD 1 0 : Nat) : Int))) rfl) ?_
              have q24 : x11_0.n.getD 1 0 < 18446744073709551616 := (nums_bd q11_0_0.2.2.2.2.2.2.2.1 1)
              refine st_g _ rfl rfl rfl h49 (r_remN (a := (x11_0.n.getD 1 0)) (b := 8) rfl rfl (by omega)) ?_
              refine st_g _ rfl rfl rfl h49 (r_neN (a := ((x11_0.n.getD 1 0) % 8)) (b := 0) rfl rfl) ?_
              refine st _ (r_pick_f rfl h49 rfl) ?_
              refine st _ (r_assign rfl) ?_
              refine st_nil ?_
              refine c_then ?_
              refine c_if rfl (fun h39 => ?_) (fun h39 => ?_)
              · skip
                first | (have h39n := of_decide_eq_true h39) | (have h39n := of_decide_eq_false (bnt h39)) | (have h39n := bnt h39) | (have h39n := h39)
                refine c_seq ?_
                refine c_region ?_
                refine st _ (r_buildG (us := []) (cs := (PHead.cells (({ compat := 0, incompat := 0, state := 0, file := idZ, machine := idZ, boot := idZ, seq := idZ, n := (List.replicate 21 0), tailArray := 0, tailItems := 0, tailEntry := 0 } : PHead)))) [] z38 pl38 rfl rfl trivial trivial rfl rfl) ?_
                refine st_storeAgg (us := (PHead.cells (({ compat := 0, incompat := 0, state := 0, file := idZ, machine := idZ, boot := idZ, seq := idZ, n := (List.replicate 21 0), tailArray := 0, tailItems := 0, tailEntry := 0 } : PHead)))) rfl rfl (by exact agg38) (by first | exact fun u hu => one_cells (PHead.one ) u hu | exact fun u hu => one_cells rfl u hu) ha2 (Nat.le_of_ble_eq_true rfl) ?_
                have ha20 := ha2; clear ha2; intro w25 hm ha2
                have hS : ∀ b ∈ [ba2], ¬ Q13 b := by intro b hb; simp at hb; subst hb; exact n_ha2
                replace h0 := h0.md hm hS
                replace ha16y := ha16y.md hm hS
                replace ha4 := ha4.md hm (by intro hb; simp at hb; omega)
                replace uQ := uQ.md hm
                replace M := M.step hm (all_cons p_ha2 all_nil)
                clear ha20 hS
                replace ha2 : Blk _ _ (PHead.cells (({ compat := 0, incompat := 0, state := 0, file := idZ, machine := idZ, boot := idZ, seq := idZ, n := (List.replicate 21 0), tailArray := 0, tailItems := 0, tailEntry := 0 } : PHead))) _ := ha2
                refine st _ (r_assign rfl) ?_
                refine st_nil ?_
                refine c_then ?_
                refine c_ret ?_
                refine r_block ?_
                refine r_then ?_
                exact retL (vs := [(.agg (PHead.cells (({ compat := 0, incompat := 0, state := 0, file := idZ, machine := idZ, boot := idZ, seq := idZ, n := (List.replicate 21 0), tailArray := 0, tailItems := 0, tailEntry := 0 } : PHead))).toArray), (.int .i64 ((5 : Nat) : Int))]) trivial rfl ⟨⟨_, rfl, load_agg (cs := (PHead.cells (({ compat := 0, incompat := 0, state := 0, file := idZ, machine := idZ, boot := idZ, seq := idZ, n := (List.replicate 21 0), tailArray := 0, tailItems := 0, tailEntry := 0 } : PHead)))) (by exact agg38) ha2⟩, rfl, trivial⟩ rfl ⟨(({ compat := 0, incompat := 0, state := 0, file := idZ, machine := idZ, boot := idZ, seq := idZ, n := (List.replicate 21 0), tailArray := 0, tailItems := 0, tailEntry := 0 } : PHead)), 5, rfl, M, (by first | assumption | exact ⟨(by first | omega | (simp <;> omega) | simp_all), (by first | omega | (simp <;> omega) | simp_all), (by first | omega | (simp <;> omega) | simp_all), (by first | assumption | rfl | simp_all), (by first | assumption | rfl | simp_all), (by first | assumption | rfl | simp_all), (by first | assumption | rfl | simp_all), (by first | assumption | exact nums_zero _ | exact nums_set (by assumption) (by omega) | simp_all), (by first | omega | (simp <;> omega) | simp_all), (by first | omega | (simp <;> omega) | simp_all), (by first | omega | (simp <;> omega) | simp_all)⟩), (by first | assumption | omega | simp_all), (readF_no h9n hF9 (by simp_all) hF11 (by rw [amiss_at hF16]; rw [if_neg h28n, if_neg h34n, if_pos (by first | omega | simp_all)]) (by decide))⟩
              · skip
                first | (have h39n := of_decide_eq_false h39) | (have h39n := of_decide_eq_true (bnf h39)) | (have h39n := bnf h39) | (have h39n := h39)
                refine c_seq ?_
                refine c_region ?_
                refine st _ (r_move rfl) ?_
                refine st _ (r_not rfl) ?_
                refine st _ (r_move rfl) ?_
                refine part_n (t := 59) rfl (fun h59 => ?_) (fun h59 => ?_)
                · skip
                  first | (have h59n := of_decide_eq_true h59) | (have h59n := of_decide_eq_false (bnt h59)) | (have h59n := bnt h59) | (have h59n := h59)
                  refine st_skip rfl rfl rfl h59 ?_
                  refine st_skip rfl rfl rfl h59 ?_
                  refine st_skip rfl rfl rfl h59 ?_
                  refine st_skip rfl rfl rfl h59 ?_
                  refine st_skip rfl rfl rfl h59 ?_
                  refine st _ (r_pick_t rfl h59 rfl) ?_
                  refine st _ (r_assign rfl) ?_
                  refine st_nil ?_
                  refine c_then ?_
                  refine c_if_t rfl rfl ?_
                  refine c_seq ?_
                  refine c_region ?_
                  refine st _ (r_buildG (us := []) (cs := (PHead.cells (({ compat := 0, incompat := 0, state := 0, file := idZ, machine := idZ, boot := idZ, seq := idZ, n := (List.replicate 21 0), tailArray := 0, tailItems := 0, tailEntry := 0 } : PHead)))) [] z38 pl38 rfl rfl trivial trivial rfl rfl) ?_
                  refine st_storeAgg (us := (PHead.cells (({ compat := 0, incompat := 0, state := 0, file := idZ, machine := idZ, boot := idZ, seq := idZ, n := (List.replicate 21 0), tailArray := 0, tailItems := 0, tailEntry := 0 } : PHead)))) rfl rfl (by exact agg38) (by first | exact fun u hu => one_cells (PHead.one ) u hu | exact fun u hu => one_cells rfl u hu) ha2 (Nat.le_of_ble_eq_true rfl) ?_
                  have ha20 := ha2; clear ha2; intro w26 hm ha2
                  have hS : ∀ b ∈ [ba2], ¬ Q13 b := by intro b hb; simp at hb; subst hb; exact n_ha2
                  replace h0 := h0.md hm hS
                  replace ha16y := ha16y.md hm hS
                  replace ha4 := ha4.md hm (by intro hb; simp at hb; omega)
                  replace uQ := uQ.md hm
                  replace M := M.step hm (all_cons p_ha2 all_nil)
                  clear ha20 hS
                  replace ha2 : Blk _ _ (PHead.cells (({ compat := 0, incompat := 0, state := 0, file := idZ, machine := idZ, boot := idZ, seq := idZ, n := (List.replicate 21 0), tailArray := 0, tailItems := 0, tailEntry := 0 } : PHead))) _ := ha2
                  refine st _ (r_assign rfl) ?_
                  refine st_nil ?_
                  refine c_then ?_
                  refine c_ret ?_
                  refine r_block ?_
                  refine r_then ?_
                  exact retL (vs := [(.agg (PHead.cells (({ compat := 0, incompat := 0, state := 0, file := idZ, machine := idZ, boot := idZ, seq := idZ, n := (List.replicate 21 0), tailArray := 0, tailItems := 0, tailEntry := 0 } : PHead))).toArray), (.int .i64 ((2 : Nat) : Int))]) trivial rfl ⟨⟨_, rfl, load_agg (cs := (PHead.cells (({ compat := 0, incompat := 0, state := 0, file := idZ, machine := idZ, boot := idZ, seq := idZ, n := (List.replicate 21 0), tailArray := 0, tailItems := 0, tailEntry := 0 } : PHead)))) (by exact agg38) ha2⟩, rfl, trivial⟩ rfl ⟨(({ compat := 0, incompat := 0, state := 0, file := idZ, machine := idZ, boot := idZ, seq := idZ, n := (List.replicate 21 0), tailArray := 0, tailItems := 0, tailEntry := 0 } : PHead)), 2, rfl, M, (by first | assumption | exact ⟨(by first | omega | (simp <;> omega) | simp_all), (by first | omega | (simp <;> omega) | simp_all), (by first | omega | (simp <;> omega) | simp_all), (by first | assumption | rfl | simp_all), (by first | assumption | rfl | simp_all), (by first | assumption | rfl | simp_all), (by first | assumption | rfl | simp_all), (by first | assumption | exact nums_zero _ | exact nums_set (by assumption) (by omega) | simp_all), (by first | omega | (simp <;> omega) | simp_all), (by first | omega | (simp <;> omega) | simp_all), (by first | omega | (simp <;> omega) | simp_all)⟩), (by first | assumption | omega | simp_all), (readF_no h9n hF9 (by simp_all) hF11 (by rw [amiss_at hF16]; rw [if_neg h28n, if_neg h34n, if_neg (by first | omega | simp_all), if_pos (by first | (right; omega) | (left; simp_all) | simp_all)]) (by decide))⟩
                · skip
                  first | (have h59n := of_decide_eq_false h59) | (have h59n := of_decide_eq_true (bnf h59)) | (have h59n := bnf h59) | (have h59n := h59)
                  refine st_g _ rfl rfl rfl h59 (r_move rfl) ?_
                  refine st_g _ rfl rfl rfl h59 (r_move rfl) ?_
                  refine st_g _ rfl rfl rfl h59 (r_len rfl u28 h0.shp) ?_
                  refine st_g _ rfl rfl rfl h59 (r_convN (a := b.length) 18446744073709551616 rfl (by rw [u3]; rfl) u36 rfl (by first | omega | (have := u8lt; omega))) ?_
                  refine st_g _ rfl rfl rfl h59 (r_gtN (a := x16_0) (b := b.length) rfl rfl) ?_
                  refine st _ (r_pick_f rfl h59 rfl) ?_
                  refine st _ (r_assign rfl) ?_
                  refine st_nil ?_
                  refine c_then ?_
                  refine c_if rfl (fun h56 => ?_) (fun h56 => ?_)
                  · skip
                    first | (have h56n := of_decide_eq_true h56) | (have h56n := of_decide_eq_false (bnt h56)) | (have h56n := bnt h56) | (have h56n := h56)
                    refine c_seq ?_
                    refine c_region ?_
                    refine st _ (r_buildG (us := []) (cs := (PHead.cells (({ compat := 0, incompat := 0, state := 0, file := idZ, machine := idZ, boot := idZ, seq := idZ, n := (List.replicate 21 0), tailArray := 0, tailItems := 0, tailEntry := 0 } : PHead)))) [] z38 pl38 rfl rfl trivial trivial rfl rfl) ?_
                    refine st_storeAgg (us := (PHead.cells (({ compat := 0, incompat := 0, state := 0, file := idZ, machine := idZ, boot := idZ, seq := idZ, n := (List.replicate 21 0), tailArray := 0, tailItems := 0, tailEntry := 0 } : PHead)))) rfl rfl (by exact agg38) (by first | exact fun u hu => one_cells (PHead.one ) u hu | exact fun u hu => one_cells rfl u hu) ha2 (Nat.le_of_ble_eq_true rfl) ?_
                    have ha20 := ha2; clear ha2; intro w27 hm ha2
                    have hS : ∀ b ∈ [ba2], ¬ Q13 b := by intro b hb; simp at hb; subst hb; exact n_ha2
                    replace h0 := h0.md hm hS
                    replace ha16y := ha16y.md hm hS
                    replace ha4 := ha4.md hm (by intro hb; simp at hb; omega)
                    replace uQ := uQ.md hm
                    replace M := M.step hm (all_cons p_ha2 all_nil)
                    clear ha20 hS
                    replace ha2 : Blk _ _ (PHead.cells (({ compat := 0, incompat := 0, state := 0, file := idZ, machine := idZ, boot := idZ, seq := idZ, n := (List.replicate 21 0), tailArray := 0, tailItems := 0, tailEntry := 0 } : PHead))) _ := ha2
                    refine st _ (r_assign rfl) ?_
                    refine st_nil ?_
                    refine c_then ?_
                    refine c_ret ?_
                    refine r_block ?_
                    refine r_then ?_
                    exact retL (vs := [(.agg (PHead.cells (({ compat := 0, incompat := 0, state := 0, file := idZ, machine := idZ, boot := idZ, seq := idZ, n := (List.replicate 21 0), tailArray := 0, tailItems := 0, tailEntry := 0 } : PHead))).toArray), (.int .i64 ((2 : Nat) : Int))]) trivial rfl ⟨⟨_, rfl, load_agg (cs := (PHead.cells (({ compat := 0, incompat := 0, state := 0, file := idZ, machine := idZ, boot := idZ, seq := idZ, n := (List.replicate 21 0), tailArray := 0, tailItems := 0, tailEntry := 0 } : PHead)))) (by exact agg38) ha2⟩, rfl, trivial⟩ rfl ⟨(({ compat := 0, incompat := 0, state := 0, file := idZ, machine := idZ, boot := idZ, seq := idZ, n := (List.replicate 21 0), tailArray := 0, tailItems := 0, tailEntry := 0 } : PHead)), 2, rfl, M, (by first | assumption | exact ⟨(by first | omega | (simp <;> omega) | simp_all), (by first | omega | (simp <;> omega) | simp_all), (by first | omega | (simp <;> omega) | simp_all), (by first | assumption | rfl | simp_all), (by first | assumption | rfl | simp_all), (by first | assumption | rfl | simp_all), (by first | assumption | rfl | simp_all), (by first | assumption | exact nums_zero _ | exact nums_set (by assumption) (by omega) | simp_all), (by first | omega | (simp <;> omega) | simp_all), (by first | omega | (simp <;> omega) | simp_all), (by first | omega | (simp <;> omega) | simp_all)⟩), (by first | assumption | omega | simp_all), (readF_no h9n hF9 (by simp_all) hF11 (by rw [amiss_at hF16]; rw [if_neg h28n, if_neg h34n, if_neg (by first | omega | simp_all), if_pos (by first | (right; omega) | (left; simp_all) | simp_all)]) (by decide))⟩
                  · skip
                    first | (have h56n := of_decide_eq_false h56) | (have h56n := of_decide_eq_true (bnf h56)) | (have h56n := bnf h56) | (have h56n := h56)
                    refine c_skip ?_
                    refine n_block ?_
                    refine c_then ?_
                    refine c_seq ?_
                    refine c_seq ?_
                    refine c_region ?_
                    refine st _ (r_loadPart (PHead.cells x11_0) rfl (by exact agg38) ha4 rfl) ?_
                    refine st _ (r_field rfl off38_9) ?_
                    refine st _ ((r_loadBlk rfl one36 ha4 rfl).to (b := (.int .u64 ((x11_0.n.getD 2 0 : Nat) : Int))) rfl) ?_
                    have q28 : x11_0.n.getD 2 0 < 18446744073709551616 := (nums_bd q11_0_0.2.2.2.2.2.2.2.1 2)
                    refine st _ (r_field rfl off38_10) ?_
                    refine st _ ((r_loadBlk rfl one36 ha4 rfl).to (b := (.int .u64 ((x11_0.n.getD 3 0 : Nat) : Int))) rfl) ?_
                    have q29 : x11_0.n.getD 3 0 < 18446744073709551616 := (nums_bd q11_0_0.2.2.2.2.2.2.2.1 3)
                    refine st _ (r_move rfl) ?_
                    refine st_call fn20 rfl (hTable_any uQ x11_0 q11_0_0 (x11_0.n.getD 2 0) (by first | omega | (simp <;> omega)) (x11_0.n.getD 3 0) (by first | omega | (simp <;> omega)) x16_0 (by first | omega | (simp <;> omega))) ?_
                    rintro en w30 ⟨x30_0, rfl, hm, q30_0, hF30⟩; refine ⟨_, rfl, ?_⟩
                    replace h0 := h0.md0 hm
                    replace ha2 := ha2.md0 hm
                    replace ha16y := ha16y.md0 hm
                    replace ha4 := ha4.md0 hm
                    replace uQ := uQ.md hm
                    replace M := M.step0 hm
                    refine st _ (r_assign rfl) ?_
                    refine st_nil ?_
                    refine c_then ?_
                    refine c_seq ?_
                    refine c_region ?_
                    refine st _ (r_move rfl) ?_
                    refine st _ (r_neN (a := x30_0) (b := 0) rfl rfl) ?_
                    refine st_nil ?_
                    refine c_then ?_
                    refine c_if rfl (fun h75 => ?_) (fun h75 => ?_)
                    · skip
                      first | (have h75n := of_decide_eq_true h75) | (have h75n := of_decide_eq_false (bnt h75)) | (have h75n := bnt h75) | (have h75n := h75)
                      refine c_seq ?_
                      refine c_region ?_
                      refine st _ (r_buildG (us := []) (cs := (PHead.cells (({ compat := 0, incompat := 0, state := 0, file := idZ, machine := idZ, boot := idZ, seq := idZ, n := (List.replicate 21 0), tailArray := 0, tailItems := 0, tailEntry := 0 } : PHead)))) [] z38 pl38 rfl rfl trivial trivial rfl rfl) ?_
                      refine st _ (r_move rfl) ?_
                      refine st_storeAgg (us := (PHead.cells (({ compat := 0, incompat := 0, state := 0, file := idZ, machine := idZ, boot := idZ, seq := idZ, n := (List.replicate 21 0), tailArray := 0, tailItems := 0, tailEntry := 0 } : PHead)))) rfl rfl (by exact agg38) (by first | exact fun u hu => one_cells (PHead.one ) u hu | exact fun u hu => one_cells rfl u hu) ha2 (Nat.le_of_ble_eq_true rfl) ?_
                      have ha20 := ha2; clear ha2; intro w31 hm ha2
                      have hS : ∀ b ∈ [ba2], ¬ Q13 b := by intro b hb; simp at hb; subst hb; exact n_ha2
                      replace h0 := h0.md hm hS
                      replace ha16y := ha16y.md hm hS
                      replace ha4 := ha4.md hm (by intro hb; simp at hb; omega)
                      replace uQ := uQ.md hm
                      replace M := M.step hm (all_cons p_ha2 all_nil)
                      clear ha20 hS
                      replace ha2 : Blk _ _ (PHead.cells (({ compat := 0, incompat := 0, state := 0, file := idZ, machine := idZ, boot := idZ, seq := idZ, n := (List.replicate 21 0), tailArray := 0, tailItems := 0, tailEntry := 0 } : PHead))) _ := ha2
                      refine st _ (r_assign rfl) ?_
                      refine st_nil ?_
                      refine c_then ?_
                      refine c_ret ?_
                      refine r_then ?_
                      exact retL (vs := [(.agg (PHead.cells (({ compat := 0, incompat := 0, state := 0, file := idZ, machine := idZ, boot := idZ, seq := idZ, n := (List.replicate 21 0), tailArray := 0, tailItems := 0, tailEntry := 0 } : PHead))).toArray), (.int .i64 ((x30_0 : Nat) : Int))]) trivial rfl ⟨⟨_, rfl, load_agg (cs := (PHead.cells (({ compat := 0, incompat := 0, state := 0, file := idZ, machine := idZ, boot := idZ, seq := idZ, n := (List.replicate 21 0), tailArray := 0, tailItems := 0, tailEntry := 0 } : PHead)))) (by exact agg38) ha2⟩, rfl, trivial⟩ rfl ⟨(({ compat := 0, incompat := 0, state := 0, file := idZ, machine := idZ, boot := idZ, seq := idZ, n := (List.replicate 21 0), tailArray := 0, tailItems := 0, tailEntry := 0 } : PHead)), x30_0, rfl, M, (by first | assumption | exact ⟨(by first | omega | (simp <;> omega) | simp_all), (by first | omega | (simp <;> omega) | simp_all), (by first | omega | (simp <;> omega) | simp_all), (by first | assumption | rfl | simp_all), (by first | assumption | rfl | simp_all), (by first | assumption | rfl | simp_all), (by first | assumption | rfl | simp_all), (by first | assumption | exact nums_zero _ | exact nums_set (by assumption) (by omega) | simp_all), (by first | omega | (simp <;> omega) | simp_all), (by first | omega | (simp <;> omega) | simp_all), (by first | omega | (simp <;> omega) | simp_all)⟩), (by first | assumption | omega | simp_all), (readF_no h9n hF9 (by simp_all) hF11 (by rw [amiss_at hF16]; rw [if_neg h28n, if_neg h34n, if_neg (by first | omega | simp_all), if_neg (by rintro (h | h) <;> first | omega | simp_all), hF30, if_pos h75n]) h75n)⟩
                    · skip
                      first | (have h75n := of_decide_eq_false h75) | (have h75n := of_decide_eq_true (bnf h75)) | (have h75n := bnf h75) | (have h75n := h75)
                      refine c_skip ?_
                      refine c_then ?_
                      refine c_seq ?_
                      refine c_seq ?_
                      refine c_region ?_
                      refine st _ (r_loadPart (PHead.cells x11_0) rfl (by exact agg38) ha4 rfl) ?_
                      refine st _ (r_field rfl off38_11) ?_
                      refine st _ ((r_loadBlk rfl one36 ha4 rfl).to (b := (.int .u64 ((x11_0.n.getD 4 0 : Nat) : Int))) rfl) ?_
                      have q32 : x11_0.n.getD 4 0 < 18446744073709551616 := (nums_bd q11_0_0.2.2.2.2.2.2.2.1 4)
                      refine st _ (r_field rfl off38_12) ?_
                      refine st _ ((r_loadBlk rfl one36 ha4 rfl).to (b := (.int .u64 ((x11_0.n.getD 5 0 : Nat) : Int))) rfl) ?_
                      have q33 : x11_0.n.getD 5 0 < 18446744073709551616 := (nums_bd q11_0_0.2.2.2.2.2.2.2.1 5)
                      refine st _ (r_move rfl) ?_
                      refine st_call fn20 rfl (hTable_any uQ x11_0 q11_0_0 (x11_0.n.getD 4 0) (by first | omega | (simp <;> omega)) (x11_0.n.getD 5 0) (by first | omega | (simp <;> omega)) x16_0 (by first | omega | (simp <;> omega))) ?_
                      rintro en w34 ⟨x34_0, rfl, hm, q34_0, hF34⟩; refine ⟨_, rfl, ?_⟩
                      replace h0 := h0.md0 hm
                      replace ha2 := ha2.md0 hm
                      replace ha16y := ha16y.md0 hm
                      replace ha4 := ha4.md0 hm
                      replace uQ := uQ.md hm
                      replace M := M.step0 hm
                      refine st _ (r_assign rfl) ?_
                      refine st_nil ?_
                      refine c_then ?_
                      refine c_seq ?_
                      refine c_region ?_
                      refine st _ (r_move rfl) ?_
                      refine st _ (r_neN (a := x34_0) (b := 0) rfl rfl) ?_
                      refine st_nil ?_
                      refine c_then ?_
                      refine c_if rfl (fun h86 => ?_) (fun h86 => ?_)
                      · skip
                        first | (have h86n := of_decide_eq_true h86) | (have h86n := of_decide_eq_false (bnt h86)) | (have h86n := bnt h86) | (have h86n := h86)
                        refine c_seq ?_
                        refine c_region ?_
                        refine st _ (r_buildG (us := []) (cs := (PHead.cells (({ compat := 0, incompat := 0, state := 0, file := idZ, machine := idZ, boot := idZ, seq := idZ, n := (List.replicate 21 0), tailArray := 0, tailItems := 0, tailEntry := 0 } : PHead)))) [] z38 pl38 rfl rfl trivial trivial rfl rfl) ?_
                        refine st _ (r_move rfl) ?_
                        refine st_storeAgg (us := (PHead.cells (({ compat := 0, incompat := 0, state := 0, file := idZ, machine := idZ, boot := idZ, seq := idZ, n := (List.replicate 21 0), tailArray := 0, tailItems := 0, tailEntry := 0 } : PHead)))) rfl rfl (by exact agg38) (by first | exact fun u hu => one_cells (PHead.one ) u hu | exact fun u hu => one_cells rfl u hu) ha2 (Nat.le_of_ble_eq_true rfl) ?_
                        have ha20 := ha2; clear ha2; intro w35 hm ha2
                        have hS : ∀ b ∈ [ba2], ¬ Q13 b := by intro b hb; simp at hb; subst hb; exact n_ha2
                        replace h0 := h0.md hm hS
                        replace ha16y := ha16y.md hm hS
                        replace ha4 := ha4.md hm (by intro hb; simp at hb; omega)
                        replace uQ := uQ.md hm
                        replace M := M.step hm (all_cons p_ha2 all_nil)
                        clear ha20 hS
                        replace ha2 : Blk _ _ (PHead.cells (({ compat := 0, incompat := 0, state := 0, file := idZ, machine := idZ, boot := idZ, seq := idZ, n := (List.replicate 21 0), tailArray := 0, tailItems := 0, tailEntry := 0 } : PHead))) _ := ha2
                        refine st _ (r_assign rfl) ?_
                        refine st_nil ?_
                        refine c_then ?_
                        refine c_ret ?_
                        refine r_then ?_
                        exact retL (vs := [(.agg (PHead.cells (({ compat := 0, incompat := 0, state := 0, file := idZ, machine := idZ, boot := idZ, seq := idZ, n := (List.replicate 21 0), tailArray := 0, tailItems := 0, tailEntry := 0 } : PHead))).toArray), (.int .i64 ((x34_0 : Nat) : Int))]) trivial rfl ⟨⟨_, rfl, load_agg (cs := (PHead.cells (({ compat := 0, incompat := 0, state := 0, file := idZ, machine := idZ, boot := idZ, seq := idZ, n := (List.replicate 21 0), tailArray := 0, tailItems := 0, tailEntry := 0 } : PHead)))) (by exact agg38) ha2⟩, rfl, trivial⟩ rfl ⟨(({ compat := 0, incompat := 0, state := 0, file := idZ, machine := idZ, boot := idZ, seq := idZ, n := (List.replicate 21 0), tailArray := 0, tailItems := 0, tailEntry := 0 } : PHead)), x34_0, rfl, M, (by first | assumption | exact ⟨(by first | omega | (simp <;> omega) | simp_all), (by first | omega | (simp <;> omega) | simp_all), (by first | omega | (simp <;> omega) | simp_all), (by first | assumption | rfl | simp_all), (by first | assumption | rfl | simp_all), (by first | assumption | rfl | simp_all), (by first | assumption | rfl | simp_all), (by first | assumption | exact nums_zero _ | exact nums_set (by assumption) (by omega) | simp_all), (by first | omega | (simp <;> omega) | simp_all), (by first | omega | (simp <;> omega) | simp_all), (by first | omega | (simp <;> omega) | simp_all)⟩), (by first | assumption | omega | simp_all), (readF_no h9n hF9 (by simp_all) hF11 (by rw [amiss_at hF16]; rw [if_neg h28n, if_neg h34n, if_neg (by first | omega | simp_all), if_neg (by rintro (h | h) <;> first | omega | simp_all), hF30, if_neg h75n, hF34]) h86n)⟩
                      · skip
                        first | (have h86n := of_decide_eq_false h86) | (have h86n := of_decide_eq_true (bnf h86)) | (have h86n := bnf h86) | (have h86n := h86)
                        refine c_skip ?_
                        refine c_then ?_
                        refine c_seq ?_
                        refine c_region ?_
                        refine st _ (r_loadPart (PHead.cells x11_0) rfl (by exact agg38) ha4 rfl) ?_
                        refine st_storeAgg (us := (PHead.cells x11_0)) rfl rfl (by exact agg38) (by first | exact fun u hu => one_cells (PHead.one ) u hu | exact fun u hu => one_cells rfl u hu) ha2 (Nat.le_of_ble_eq_true rfl) ?_
                        have ha20 := ha2; clear ha2; intro w36 hm ha2
                        have hS : ∀ b ∈ [ba2], ¬ Q13 b := by intro b hb; simp at hb; subst hb; exact n_ha2
                        replace h0 := h0.md hm hS
                        replace ha16y := ha16y.md hm hS
                        replace ha4 := ha4.md hm (by intro hb; simp at hb; omega)
                        replace uQ := uQ.md hm
                        replace M := M.step hm (all_cons p_ha2 all_nil)
                        clear ha20 hS
                        replace ha2 : Blk _ _ (PHead.cells x11_0) _ := ha2
                        refine st _ (r_assign rfl) ?_
                        refine st_nil ?_
                        refine c_then ?_
                        refine c_ret ?_
                        exact retL (vs := [(.agg (PHead.cells x11_0).toArray), (.int .i64 ((0 : Nat) : Int))]) trivial rfl ⟨⟨_, rfl, load_agg (cs := (PHead.cells x11_0)) (by exact agg38) ha2⟩, rfl, trivial⟩ rfl ⟨x11_0, 0, rfl, M, q11_0_0, (by first | assumption | omega | simp_all), (readF_ok h9n hF9 (by simp_all) hF11 (by rw [amiss_at hF16]; rw [if_neg h28n, if_neg h34n, if_neg (by first | omega | simp_all), if_neg (by rintro (h | h) <;> first | omega | simp_all), hF30, if_neg h75n, hF34]; simpa using h86n))⟩
end Go.Proofs.Ytahkddpdhmhfcaa
