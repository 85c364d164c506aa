/- Part 4 of what the walk of a law stands on: VCk, VCl, CkQ, VCm, VTk, VTl, VTm, VTn, VTo, VTp, VTq, VTr, VTs, VCn, VCo, VCp, VCq, VCr, VCs, VCt, OpensS, OpensR, OpensD. No statement is proved here. -/
import Derived.Test.YtcaokfendkkafaaKB3
import Derived.Test.YtcaokfendkkafaaRows
namespace Go.Proofs.Ytcaokfendkkafaa
open Go Go.Wk Go.RowKit
set_option linter.unusedVariables false
set_option linter.unusedSimpArgs false
attribute [local irreducible] wpList wpQuiet wpStill wpMix Code.wp Calls bodyPost
theorem fn15 : isFn Try.prog 15 = true := by kernel_rfl
theorem fn16 : isFn Try.prog 16 = true := by kernel_rfl
theorem fn22 : isFn Try.prog 22 = true := by kernel_rfl
theorem fn24 : isFn Try.prog 24 = true := by kernel_rfl
theorem fn28 : isFn Try.prog 28 = true := by kernel_rfl
theorem fn37 : isFn Try.prog 37 = true := by kernel_rfl
theorem fn81 : isFn Try.prog 81 = true := by kernel_rfl

theorem nnS {α : Type} {T : Dt α} {w : World} {Q : Nat → Prop} {v : Value} {xs : List α} (h : Ls T w Q v xs) (hn : 0 < xs.length) : ∃ a c, v = .slice (some a) xs.length c := by
  obtain ⟨a, cap, cs, h0, h1, h2, h3, _⟩ := h
  cases a with
  | none => have := h3 rfl; omega
  | some a => exact ⟨a, cap, h0⟩
theorem recB_len {r : CRec} (h : ∀ m ∈ r.marks, Mark.ok m) (hr : rightM r.marks = true) : (recB r).length = 17 + 40 * r.marks.length ∧ r.marks.length ≤ 4 := by
  have hl := marksB_len h hr; unfold recB sealF addF; simp only [List.length_append, low_len, hl.1, if_pos, or_true, true_or, Nat.reduceEqDiff, or_false, false_or]; simp only [List.length_cons, List.length_nil]; omega
set_option maxRecDepth 100000 in
theorem kSave_any {w : World} {Q : Nat → Prop} (uQ : Up w Q) {b0 : Nat} {fp : List Nat} {k : Nat} {f : SFs} (FO1 : FsO k fp w Q b0 f) {v1_0 : Value} (r : CRec) (a1_0 : CRec.ok r) (a1_1 : Ls tMark w Q v1_0 r.marks) (p0 : k ≤ 1000) :
    Calls Try.prog 41 #[.pointer (some ⟨b0, 0, none⟩), .agg (CRec.cells r v1_0).toArray] w fun en w' => ∃ r0 : Nat, en = .returned (.int .i64 ((r0 : Nat) : Int)) ∧ r0 < 9223372036854775808 ∧ FsPost (k + 7) fp w Q b0 w' fun m => ∃ i j q, (rightM r.marks = true → NewI f r i j) ∧ saveR f r i j q = (r0, m) := by
  have r_FO1 : ∀ x ∈ fp, Fsh fp w x := fun x hx => .inl hx; have M := Md.refl fp w; have uQ0 := uQ; have tQ : ∀ b, Q b → Q b := fun _ h => h; have sQ0 : ∀ b, Q b → b < w.heap.size → Q b := fun _ h _ => h; refine enter (n := 37) Try.func41 rfl rfl rfl ?_; intro B; refine ns ?_; refine st_box (cs := (CRec.cells r v1_0)) rfl rfl ?_; intro ba3 w1 ga3 la3 hm ha3; have n_ha3 := uQ _ ga3; replace ga3 := Nat.le_trans M.size ga3; replace FO1 := FO1.md0 hm; replace a1_1 := a1_1.md0 hm; replace uQ := uQ.md hm; replace M := M.step0 hm; have p_ha3 : Fsh [] w ba3 := .inr ga3; refine asg rfl ?_; refine nt ?_; refine ns ?_; refine st _ (r_loadPart (CRec.cells r v1_0) rfl (by exact agg54) ha3 rfl) ?_; by_cases hr9 : rightM r.marks = true
  · obtain ⟨rl1, rl2⟩ := recB_len (mk_oks a1_1) hr9; refine st_call fn37 rfl (rBytes_any_ls uQ r a1_0 a1_1 (by first | omega | (simp <;> omega) | (simp at * <;> omega))) ?_; rintro en w2 ⟨v2_0, x2_0, rfl, hm, h2_0, hF2⟩; refine ⟨_, rfl, ?_⟩; replace FO1 := FO1.md0 hm; replace a1_1 := a1_1.md0 hm; replace ha3 := ha3.md0 hm; replace uQ := uQ.md hm; replace M := M.step0 hm; rw [hF2] at rl1; refine asg rfl ?_; refine nt ?_; refine c_seq ?_; refine ns ?_; refine mv rfl ?_; obtain ⟨a9, c9, hv9⟩ := nnS h2_0 (by omega); refine st (.bool false) (by exact r_eqlSN (a := some a9) (m := x2_0.length) (c := c9) (by rw [← hv9]; rfl) u36) ?_; refine nt ?_; refine c_if_f rfl rfl ?_; refine c_skip ?_; refine c_then ?_; refine ns ?_; refine mv rfl ?_; refine mv rfl ?_; refine st _ (r_len rfl u36 h2_0.shp) ?_; refine st_call fn81 rfl (kRoom_any uQ FO1 x2_0.length (by first | omega | (simp <;> omega)) (by first | omega | (simp <;> omega) | (simp at * <;> omega))) ?_; rintro en w3 ⟨x3_0, rfl, q3_0, m3, fp3, Q4, hm, ⟨sQ, sT, uQ2⟩, hfp, GFO1, hF3⟩; refine ⟨_, rfl, ?_⟩; have hS : ∀ b ∈ fp, ¬ Q4 b := fun b hb hq => (FO1.lt b hb).2 (sT b hq); replace a1_1 := (a1_1.sub sQ).md hm hS; replace n_ha3 := sQ _ n_ha3 ha3.lt; replace ha3 := ha3.md hm (fun h9 => hS _ h9 n_ha3); replace h2_0 := (h2_0.sub sQ).md hm hS; have r9 : ∀ x ∈ fp3, Fsh fp w x := fun x hx => (hfp x hx).elim (r_FO1 x) (Fsh.new M x); replace tQ := fun b hb => tQ b (sT b hb); replace sQ0 := fun b hb hl => sQ b (sQ0 b hb hl) (Nat.lt_of_lt_of_le hl M.size); replace M := M.step hm r_FO1; clear uQ r_FO1 FO1; have uQ := uQ2; have r_FO1 := r9; have FO1 := GFO1; clear uQ2 r9 GFO1 sQ sT hS hfp hm; replace FO1 : FsO (k + 1) _ _ _ _ _ := FO1; refine asg rfl ?_; refine nt ?_; refine c_seq ?_; refine ns ?_; refine mv rfl ?_; refine st _ (r_eqN (a := x3_0) (b := 0) rfl rfl) ?_; refine nt ?_; refine c_if rfl (fun h16 => ?_) (fun h16 => ?_)
    · (first | (have h16n := of_decide_eq_true h16) | (have h16n := of_decide_eq_false (bnt h16)) | (have h16n := bnt h16) | (have h16n := h16)); refine c_region ?_; refine mv rfl ?_; refine st_call fn16 rfl (oMake uQ FO1 (([97, 103, 101, 110, 116, 46, 110, 101, 119] : List UInt8)) (by first | omega | (simp <;> omega) | decide) (by first | omega | (simp <;> omega))) ?_; rintro en w5 ⟨x5_0, rfl, q5_0, m5, fp5, Q6, hm, ⟨sQ, sT, uQ2⟩, hfp, GFO1, hF5⟩; refine ⟨_, rfl, ?_⟩; have hS : ∀ b ∈ fp3, ¬ Q6 b := fun b hb hq => (FO1.lt b hb).2 (sT b hq); replace a1_1 := (a1_1.sub sQ).md hm hS; replace n_ha3 := sQ _ n_ha3 ha3.lt; replace ha3 := ha3.md hm (fun h9 => hS _ h9 n_ha3); replace h2_0 := (h2_0.sub sQ).md hm hS; have r9 : ∀ x ∈ fp5, Fsh fp w x := fun x hx => (hfp x hx).elim (r_FO1 x) (Fsh.new M x); replace tQ := fun b hb => tQ b (sT b hb); replace sQ0 := fun b hb hl => sQ b (sQ0 b hb hl) (Nat.lt_of_lt_of_le hl M.size); replace M := M.step hm r_FO1; clear uQ r_FO1 FO1; have uQ := uQ2; have r_FO1 := r9; have FO1 := GFO1; clear uQ2 r9 GFO1 sQ sT hS hfp hm; replace FO1 : FsO (k + 2) _ _ _ _ _ := FO1; obtain ⟨i5, j5, hF5⟩ := hF5; have ni := make_new hF5 FO1.wf.nd; refine asg rfl ?_; refine nt ?_; refine c_seq ?_; refine ns ?_; refine mv rfl ?_; refine st _ (r_eqN (a := x5_0) (b := 0) rfl rfl) ?_; refine nt ?_; refine c_if rfl (fun h20 => ?_) (fun h20 => ?_)
      · (first | (have h20n := of_decide_eq_true h20) | (have h20n := of_decide_eq_false (bnt h20)) | (have h20n := bnt h20) | (have h20n := h20)); refine c_region ?_; refine mv rfl ?_; refine mv rfl ?_; refine st_call fn22 rfl (oWrite uQ FO1 (([97, 103, 101, 110, 116, 46, 110, 101, 119] : List UInt8)) (0) (by omega) h2_0 (by first | omega | (simp <;> omega) | decide) (by first | omega | (simp <;> omega))) ?_; rintro en w7 ⟨x7_0, rfl, q7_0, m7, fp7, Q8, hm, ⟨sQ, sT, uQ2⟩, hfp, GFO1, hF7⟩; refine ⟨_, rfl, ?_⟩; have hS : ∀ b ∈ fp5, ¬ Q8 b := fun b hb hq => (FO1.lt b hb).2 (sT b hq); replace a1_1 := (a1_1.sub sQ).md hm hS; replace n_ha3 := sQ _ n_ha3 ha3.lt; replace ha3 := ha3.md hm (fun h9 => hS _ h9 n_ha3); replace h2_0 := (h2_0.sub sQ).md hm hS; have r9 : ∀ x ∈ fp7, Fsh fp w x := fun x hx => (hfp x hx).elim (r_FO1 x) (Fsh.new M x); replace tQ := fun b hb => tQ b (sT b hb); replace sQ0 := fun b hb hl => sQ b (sQ0 b hb hl) (Nat.lt_of_lt_of_le hl M.size); replace M := M.step hm r_FO1; clear uQ r_FO1 FO1; have uQ := uQ2; have r_FO1 := r9; have FO1 := GFO1; clear uQ2 r9 GFO1 sQ sT hS hfp hm; replace FO1 : FsO (k + 3) _ _ _ _ _ := FO1; obtain ⟨k7, hF7⟩ := hF7; refine asg rfl ?_; refine nt ?_; refine c_seq ?_; refine ns ?_; refine mv rfl ?_; refine st _ (r_eqN (a := x7_0) (b := 0) rfl rfl) ?_; refine nt ?_; refine c_if rfl (fun h25 => ?_) (fun h25 => ?_)
        · (first | (have h25n := of_decide_eq_true h25) | (have h25n := of_decide_eq_false (bnt h25)) | (have h25n := bnt h25) | (have h25n := h25)); refine c_region ?_; refine mv rfl ?_; refine st_call fn24 rfl (oSync uQ FO1 (([97, 103, 101, 110, 116, 46, 110, 101, 119] : List UInt8)) (by first | omega | (simp <;> omega) | decide) (by first | omega | (simp <;> omega))) ?_; rintro en w9 ⟨x9_0, rfl, q9_0, m9, fp9, Q10, hm, ⟨sQ, sT, uQ2⟩, hfp, GFO1, hF9⟩; refine ⟨_, rfl, ?_⟩; have hS : ∀ b ∈ fp7, ¬ Q10 b := fun b hb hq => (FO1.lt b hb).2 (sT b hq); replace a1_1 := (a1_1.sub sQ).md hm hS; replace n_ha3 := sQ _ n_ha3 ha3.lt; replace ha3 := ha3.md hm (fun h9 => hS _ h9 n_ha3); replace h2_0 := (h2_0.sub sQ).md hm hS; have r9 : ∀ x ∈ fp9, Fsh fp w x := fun x hx => (hfp x hx).elim (r_FO1 x) (Fsh.new M x); replace tQ := fun b hb => tQ b (sT b hb); replace sQ0 := fun b hb hl => sQ b (sQ0 b hb hl) (Nat.lt_of_lt_of_le hl M.size); replace M := M.step hm r_FO1; clear uQ r_FO1 FO1; have uQ := uQ2; have r_FO1 := r9; have FO1 := GFO1; clear uQ2 r9 GFO1 sQ sT hS hfp hm; replace FO1 : FsO (k + 4) _ _ _ _ _ := FO1; refine asg rfl ?_; refine nt ?_; refine c_seq ?_; refine ns ?_; refine mv rfl ?_; refine st _ (r_eqN (a := x9_0) (b := 0) rfl rfl) ?_; refine nt ?_; refine c_if rfl (fun h29 => ?_) (fun h29 => ?_)
          · (first | (have h29n := of_decide_eq_true h29) | (have h29n := of_decide_eq_false (bnt h29)) | (have h29n := bnt h29) | (have h29n := h29)); refine c_region ?_; refine mv rfl ?_; refine st_call fn28 rfl (oRename uQ FO1 (([97, 103, 101, 110, 116, 46, 110, 101, 119] : List UInt8)) (([97, 103, 101, 110, 116, 46, 109, 97, 114, 107] : List UInt8)) (by first | omega | (simp <;> omega) | decide) (by first | omega | (simp <;> omega) | decide) (by first | omega | (simp <;> omega))) ?_; rintro en w11 ⟨x11_0, rfl, q11_0, m11, fp11, Q12, hm, ⟨sQ, sT, uQ2⟩, hfp, GFO1, hF11⟩; refine ⟨_, rfl, ?_⟩; have hS : ∀ b ∈ fp9, ¬ Q12 b := fun b hb hq => (FO1.lt b hb).2 (sT b hq); replace a1_1 := (a1_1.sub sQ).md hm hS; replace n_ha3 := sQ _ n_ha3 ha3.lt; replace ha3 := ha3.md hm (fun h9 => hS _ h9 n_ha3); replace h2_0 := (h2_0.sub sQ).md hm hS; have r9 : ∀ x ∈ fp11, Fsh fp w x := fun x hx => (hfp x hx).elim (r_FO1 x) (Fsh.new M x); replace tQ := fun b hb => tQ b (sT b hb); replace sQ0 := fun b hb hl => sQ b (sQ0 b hb hl) (Nat.lt_of_lt_of_le hl M.size); replace M := M.step hm r_FO1; clear uQ r_FO1 FO1; have uQ := uQ2; have r_FO1 := r9; have FO1 := GFO1; clear uQ2 r9 GFO1 sQ sT hS hfp hm; replace FO1 : FsO (k + 5) _ _ _ _ _ := FO1; refine asg rfl ?_; refine nt ?_; refine c_seq ?_; refine ns ?_; refine mv rfl ?_; refine st _ (r_eqN (a := x11_0) (b := 0) rfl rfl) ?_; refine nt ?_; refine c_if rfl (fun h33 => ?_) (fun h33 => ?_)
            · (first | (have h33n := of_decide_eq_true h33) | (have h33n := of_decide_eq_false (bnt h33)) | (have h33n := bnt h33) | (have h33n := h33)); refine c_region ?_; refine mv rfl ?_; refine st_call fn15 rfl (oSyncDir uQ FO1 ) ?_; rintro en w13 ⟨x13_0, rfl, q13_0, m13, fp13, Q14, hm, ⟨sQ, sT, uQ2⟩, hfp, GFO1, hF13⟩; refine ⟨_, rfl, ?_⟩; have hS : ∀ b ∈ fp11, ¬ Q14 b := fun b hb hq => (FO1.lt b hb).2 (sT b hq); replace a1_1 := (a1_1.sub sQ).md hm hS; replace n_ha3 := sQ _ n_ha3 ha3.lt; replace ha3 := ha3.md hm (fun h9 => hS _ h9 n_ha3); replace h2_0 := (h2_0.sub sQ).md hm hS; have r9 : ∀ x ∈ fp13, Fsh fp w x := fun x hx => (hfp x hx).elim (r_FO1 x) (Fsh.new M x); replace tQ := fun b hb => tQ b (sT b hb); replace sQ0 := fun b hb hl => sQ b (sQ0 b hb hl) (Nat.lt_of_lt_of_le hl M.size); replace M := M.step hm r_FO1; clear uQ r_FO1 FO1; have uQ := uQ2; have r_FO1 := r9; have FO1 := GFO1; clear uQ2 r9 GFO1 sQ sT hS hfp hm; replace FO1 : FsO (k + 6) _ _ _ _ _ := FO1; refine asg rfl ?_; refine nt ?_; refine ns ?_; refine mv rfl ?_; refine asg rfl ?_; refine nt ?_; refine c_ret ?_; exact ret1L (v := .int .i64 ((x13_0 : Nat) : Int)) trivial rfl ⟨rfl, trivial⟩ ⟨x13_0, rfl, (by omega), m13, _, _, M, ⟨sQ0, tQ, uQ⟩, r_FO1, FO1.up (by omega), save_on (i := i5) (j := j5) (k := k7) hr9 hF2 (newI_2 hF2 hF3 hF5 ni) (stepR_0 (stepR_0 (stepR_0 (stepR_0 (stepR_0 hF3 (by omega) hF5) (by omega) hF7) (by omega) hF9) (by omega) hF11) (by omega) hF13)⟩
            · (first | (have h33n := of_decide_eq_false h33) | (have h33n := of_decide_eq_true (bnf h33)) | (have h33n := bnf h33) | (have h33n := h33)); refine c_skip ?_; refine c_then ?_; refine ns ?_; refine mv rfl ?_; refine asg rfl ?_; refine nt ?_; refine c_ret ?_; exact ret1L (v := .int .i64 ((x11_0 : Nat) : Int)) trivial rfl ⟨rfl, trivial⟩ ⟨x11_0, rfl, (by omega), m11, _, _, M, ⟨sQ0, tQ, uQ⟩, r_FO1, FO1.up (by omega), save_on (i := i5) (j := j5) (k := k7) hr9 hF2 (newI_2 hF2 hF3 hF5 ni) (stepR_c (stepR_0 (stepR_0 (stepR_0 (stepR_0 hF3 (by omega) hF5) (by omega) hF7) (by omega) hF9) (by omega) hF11) (by omega))⟩
          · (first | (have h29n := of_decide_eq_false h29) | (have h29n := of_decide_eq_true (bnf h29)) | (have h29n := bnf h29) | (have h29n := h29)); refine c_skip ?_; refine c_then ?_; refine c_seq ?_; refine ns ?_; refine mv rfl ?_; refine st _ (r_eqN (a := x9_0) (b := 0) rfl rfl) ?_; refine nt ?_; refine c_if rfl (fun h33 => ?_) (fun h33 => ?_)
            · (first | (have h33n := of_decide_eq_true h33) | (have h33n := of_decide_eq_false (bnt h33)) | (have h33n := bnt h33) | (have h33n := h33)); exfalso; omega
            · (first | (have h33n := of_decide_eq_false h33) | (have h33n := of_decide_eq_true (bnf h33)) | (have h33n := bnf h33) | (have h33n := h33)); refine c_skip ?_; refine c_then ?_; refine ns ?_; refine mv rfl ?_; refine asg rfl ?_; refine nt ?_; refine c_ret ?_; exact ret1L (v := .int .i64 ((x9_0 : Nat) : Int)) trivial rfl ⟨rfl, trivial⟩ ⟨x9_0, rfl, (by omega), m9, _, _, M, ⟨sQ0, tQ, uQ⟩, r_FO1, FO1.up (by omega), save_on (i := i5) (j := j5) (k := k7) hr9 hF2 (newI_2 hF2 hF3 hF5 ni) (stepR_c (stepR_c (stepR_0 (stepR_0 (stepR_0 hF3 (by omega) hF5) (by omega) hF7) (by omega) hF9) (by omega)) (by omega))⟩
        · (first | (have h25n := of_decide_eq_false h25) | (have h25n := of_decide_eq_true (bnf h25)) | (have h25n := bnf h25) | (have h25n := h25)); refine c_skip ?_; refine c_then ?_; refine c_seq ?_; refine ns ?_; refine mv rfl ?_; refine st _ (r_eqN (a := x7_0) (b := 0) rfl rfl) ?_; refine nt ?_; refine c_if rfl (fun h29 => ?_) (fun h29 => ?_)
          · (first | (have h29n := of_decide_eq_true h29) | (have h29n := of_decide_eq_false (bnt h29)) | (have h29n := bnt h29) | (have h29n := h29)); exfalso; omega
          · (first | (have h29n := of_decide_eq_false h29) | (have h29n := of_decide_eq_true (bnf h29)) | (have h29n := bnf h29) | (have h29n := h29)); refine c_skip ?_; refine c_then ?_; refine c_seq ?_; refine ns ?_; refine mv rfl ?_; refine st _ (r_eqN (a := x7_0) (b := 0) rfl rfl) ?_; refine nt ?_; refine c_if rfl (fun h33 => ?_) (fun h33 => ?_)
            · (first | (have h33n := of_decide_eq_true h33) | (have h33n := of_decide_eq_false (bnt h33)) | (have h33n := bnt h33) | (have h33n := h33)); exfalso; omega
            · (first | (have h33n := of_decide_eq_false h33) | (have h33n := of_decide_eq_true (bnf h33)) | (have h33n := bnf h33) | (have h33n := h33)); refine c_skip ?_; refine c_then ?_; refine ns ?_; refine mv rfl ?_; refine asg rfl ?_; refine nt ?_; refine c_ret ?_; exact ret1L (v := .int .i64 ((x7_0 : Nat) : Int)) trivial rfl ⟨rfl, trivial⟩ ⟨x7_0, rfl, (by omega), m7, _, _, M, ⟨sQ0, tQ, uQ⟩, r_FO1, FO1.up (by omega), save_on (i := i5) (j := j5) (k := k7) hr9 hF2 (newI_2 hF2 hF3 hF5 ni) (stepR_c (stepR_c (stepR_c (stepR_0 (stepR_0 hF3 (by omega) hF5) (by omega) hF7) (by omega)) (by omega)) (by omega))⟩
      · (first | (have h20n := of_decide_eq_false h20) | (have h20n := of_decide_eq_true (bnf h20)) | (have h20n := bnf h20) | (have h20n := h20)); refine c_skip ?_; refine c_then ?_; refine c_seq ?_; refine ns ?_; refine mv rfl ?_; refine st _ (r_eqN (a := x5_0) (b := 0) rfl rfl) ?_; refine nt ?_; refine c_if rfl (fun h25 => ?_) (fun h25 => ?_)
        · (first | (have h25n := of_decide_eq_true h25) | (have h25n := of_decide_eq_false (bnt h25)) | (have h25n := bnt h25) | (have h25n := h25)); exfalso; omega
        · (first | (have h25n := of_decide_eq_false h25) | (have h25n := of_decide_eq_true (bnf h25)) | (have h25n := bnf h25) | (have h25n := h25)); refine c_skip ?_; refine c_then ?_; refine c_seq ?_; refine ns ?_; refine mv rfl ?_; refine st _ (r_eqN (a := x5_0) (b := 0) rfl rfl) ?_; refine nt ?_; refine c_if rfl (fun h29 => ?_) (fun h29 => ?_)
          · (first | (have h29n := of_decide_eq_true h29) | (have h29n := of_decide_eq_false (bnt h29)) | (have h29n := bnt h29) | (have h29n := h29)); exfalso; omega
          · (first | (have h29n := of_decide_eq_false h29) | (have h29n := of_decide_eq_true (bnf h29)) | (have h29n := bnf h29) | (have h29n := h29)); refine c_skip ?_; refine c_then ?_; refine c_seq ?_; refine ns ?_; refine mv rfl ?_; refine st _ (r_eqN (a := x5_0) (b := 0) rfl rfl) ?_; refine nt ?_; refine c_if rfl (fun h33 => ?_) (fun h33 => ?_)
            · (first | (have h33n := of_decide_eq_true h33) | (have h33n := of_decide_eq_false (bnt h33)) | (have h33n := bnt h33) | (have h33n := h33)); exfalso; omega
            · (first | (have h33n := of_decide_eq_false h33) | (have h33n := of_decide_eq_true (bnf h33)) | (have h33n := bnf h33) | (have h33n := h33)); refine c_skip ?_; refine c_then ?_; refine ns ?_; refine mv rfl ?_; refine asg rfl ?_; refine nt ?_; refine c_ret ?_; exact ret1L (v := .int .i64 ((x5_0 : Nat) : Int)) trivial rfl ⟨rfl, trivial⟩ ⟨x5_0, rfl, (by omega), m5, _, _, M, ⟨sQ0, tQ, uQ⟩, r_FO1, FO1.up (by omega), save_on (i := i5) (j := j5) (k := 0) hr9 hF2 (newI_2 hF2 hF3 hF5 ni) (stepR_c (stepR_c (stepR_c (stepR_c (stepR_0 hF3 (by omega) hF5) (by omega)) (by omega)) (by omega)) (by omega))⟩
    · (first | (have h16n := of_decide_eq_false h16) | (have h16n := of_decide_eq_true (bnf h16)) | (have h16n := bnf h16) | (have h16n := h16)); refine c_skip ?_; refine c_then ?_; refine c_seq ?_; refine ns ?_; refine mv rfl ?_; refine st _ (r_eqN (a := x3_0) (b := 0) rfl rfl) ?_; refine nt ?_; refine c_if rfl (fun h20 => ?_) (fun h20 => ?_)
      · (first | (have h20n := of_decide_eq_true h20) | (have h20n := of_decide_eq_false (bnt h20)) | (have h20n := bnt h20) | (have h20n := h20)); exfalso; omega
      · (first | (have h20n := of_decide_eq_false h20) | (have h20n := of_decide_eq_true (bnf h20)) | (have h20n := bnf h20) | (have h20n := h20)); refine c_skip ?_; refine c_then ?_; refine c_seq ?_; refine ns ?_; refine mv rfl ?_; refine st _ (r_eqN (a := x3_0) (b := 0) rfl rfl) ?_; refine nt ?_; refine c_if rfl (fun h25 => ?_) (fun h25 => ?_)
        · (first | (have h25n := of_decide_eq_true h25) | (have h25n := of_decide_eq_false (bnt h25)) | (have h25n := bnt h25) | (have h25n := h25)); exfalso; omega
        · (first | (have h25n := of_decide_eq_false h25) | (have h25n := of_decide_eq_true (bnf h25)) | (have h25n := bnf h25) | (have h25n := h25)); refine c_skip ?_; refine c_then ?_; refine c_seq ?_; refine ns ?_; refine mv rfl ?_; refine st _ (r_eqN (a := x3_0) (b := 0) rfl rfl) ?_; refine nt ?_; refine c_if rfl (fun h29 => ?_) (fun h29 => ?_)
          · (first | (have h29n := of_decide_eq_true h29) | (have h29n := of_decide_eq_false (bnt h29)) | (have h29n := bnt h29) | (have h29n := h29)); exfalso; omega
          · (first | (have h29n := of_decide_eq_false h29) | (have h29n := of_decide_eq_true (bnf h29)) | (have h29n := bnf h29) | (have h29n := h29)); refine c_skip ?_; refine c_then ?_; refine c_seq ?_; refine ns ?_; refine mv rfl ?_; refine st _ (r_eqN (a := x3_0) (b := 0) rfl rfl) ?_; refine nt ?_; refine c_if rfl (fun h33 => ?_) (fun h33 => ?_)
            · (first | (have h33n := of_decide_eq_true h33) | (have h33n := of_decide_eq_false (bnt h33)) | (have h33n := bnt h33) | (have h33n := h33)); exfalso; omega
            · (first | (have h33n := of_decide_eq_false h33) | (have h33n := of_decide_eq_true (bnf h33)) | (have h33n := bnf h33) | (have h33n := h33)); refine c_skip ?_; refine c_then ?_; refine ns ?_; refine mv rfl ?_; refine asg rfl ?_; refine nt ?_; refine c_ret ?_; exact ret1L (v := .int .i64 ((x3_0 : Nat) : Int)) trivial rfl ⟨rfl, trivial⟩ ⟨x3_0, rfl, (by omega), m3, _, _, M, ⟨sQ0, tQ, uQ⟩, r_FO1, FO1.up (by omega), save_on (i := 0) (j := 0) (k := 0) hr9 hF2 (newI_1 hF2 hF3 (by omega)) (stepR_c (stepR_c (stepR_c (stepR_c (stepR_c hF3 (by omega)) (by omega)) (by omega)) (by omega)) (by omega))⟩
  · have hr8 : rightM r.marks = false := (by simpa using hr9); refine st_call fn37 rfl (rBytesN_any uQ r a1_0 a1_1 hr8) ?_; rintro en w15 ⟨rfl, hm⟩; refine ⟨_, rfl, ?_⟩; replace FO1 := FO1.md0 hm; replace a1_1 := a1_1.md0 hm; replace ha3 := ha3.md0 hm; replace uQ := uQ.md hm; replace M := M.step0 hm; refine asg rfl ?_; refine nt ?_; refine c_seq ?_; refine ns ?_; refine mv rfl ?_; refine st (.bool true) (by exact r_eqlSN (a := none) (m := 0) (c := 0) rfl u36) ?_; refine nt ?_; refine c_if_t rfl rfl ?_; refine ns ?_; refine asg rfl ?_; refine nt ?_; refine c_ret ?_; refine r_then ?_; exact ret1L (v := .int .i64 ((1 : Nat) : Int)) trivial rfl ⟨rfl, trivial⟩ ⟨1, rfl, (by omega), f, _, _, M, ⟨sQ0, tQ, uQ⟩, r_FO1, FO1.up (by omega), save_no hr8⟩
end Go.Proofs.Ytcaokfendkkafaa
namespace Go.Proofs.Ytcaokfendkkafaa
open Go Go.Wk Go.RowKit
set_option linter.unusedVariables false
set_option linter.unusedSimpArgs false
attribute [local irreducible] wpList wpQuiet wpStill wpMix Code.wp Calls bodyPost
theorem fn26 : isFn Try.prog 26 = true := by kernel_rfl
theorem fn33 : isFn Try.prog 33 = true := by kernel_rfl

def loadR (f : SFs) : CRec × Nat := if (allF f.off f.nodes sF).2 ≠ 0 then (⟨0, []⟩, (allF f.off f.nodes sF).2) else recRead (allF f.off f.nodes sF).1
theorem load_c {f : SFs} {x : List UInt8} {c : Nat} (h : allF f.off f.nodes sF = (x, c)) (hc : ¬ c = 0) : loadR f = (⟨0, []⟩, c) := by unfold loadR; rw [h]; exact if_pos hc
theorem load_r {f : SFs} {x : List UInt8} {c : Nat} {r : CRec × Nat} (h : allF f.off f.nodes sF = (x, c)) (hc : c = 0) (hr : recRead x = r) : loadR f = r := by subst hc; unfold loadR; rw [h]; exact hr
theorem all_len {k : Nat} {f : SFs} {s x : List UInt8} {c : Nat} (h : allF f.off f.nodes s = (x, c)) (wf : fWf k f) : x.length ≤ 32768 := by
  unfold allF at h
  split at h
  · cases h; simp
  · split at h
    · rename_i y hy; cases h; exact (wf.fl _ (findN_mem hy).1).1
    · cases h; simp
theorem kLoad_any {w : World} {Q : Nat → Prop} (uQ : Up w Q) {b0 : Nat} {fp : List Nat} {k : Nat} {f : SFs} (FO1 : FsO k fp w Q b0 f) (p0 : k ≤ 1000) :
    Calls Try.prog 42 #[.pointer (some ⟨b0, 0, none⟩)] w fun en w' => ∃ u0_0 : Value, ∃ r0 : CRec, ∃ r1 : Nat, en = .returned (.tuple #[.agg (CRec.cells r0 u0_0).toArray, (.int .i64 ((r1 : Nat) : Int))]) ∧ Md [] w w' ∧ CRec.ok r0 ∧ Ls tMark w' Q u0_0 r0.marks ∧ r1 < 9223372036854775808 ∧ loadR f = (r0, r1) := by
  have M := Md.refl [] w; have uQ0 := uQ; have tQ : ∀ b, Q b → Q b := fun _ h => h; have sQ0 : ∀ b, Q b → b < w.heap.size → Q b := fun _ h _ => h; refine enter (n := 19) Try.func42 rfl rfl rfl ?_; intro B; refine ns ?_; refine st_alloc z54 ?_; intro ba2 w1 ga2 la2 hm ha2; have nf_ha2_FO1 : ba2 ∉ fp := fun hx => by have := (FO1.lt _ hx).1; omega
  obtain ⟨Q2, sQ, sT, n_ha2, uQ2⟩ := exQ uQ ga2 la2 hm; replace FO1 := FO1.sub sQ sT; replace tQ := fun b hb => tQ b (sT b hb); replace sQ0 := fun b hb hl => sQ b (sQ0 b hb hl) (Nat.lt_of_lt_of_le hl M.size); replace ga2 := Nat.le_trans M.size ga2; replace FO1 := FO1.md0 hm; replace uQ := uQ.md hm; replace M := M.step0 hm; clear uQ; have uQ := uQ2; clear uQ2 sQ sT; have p_ha2 : Fsh [] w ba2 := .inr ga2; replace ha2 : Blk _ _ (CRec.cells (({ epoch := 0, marks := [] } : CRec)) (.slice none 0 0)) _ := ha2; have okz3 : CRec.ok (({ epoch := 0, marks := [] } : CRec)) := (by first | exact (by decide) | exact (by first | assumption | exact (show (({ epoch := 0, marks := [] } : CRec)).epoch < 18446744073709551616 from (by first | omega | (simp <;> omega) | simp_all)))); refine asg rfl ?_; refine nt ?_; refine ns ?_; refine mv rfl ?_; refine st_call fn26 rfl (oAll uQ FO1 (([97, 103, 101, 110, 116, 46, 109, 97, 114, 107] : List UInt8)) (by first | omega | (simp <;> omega) | decide) (by first | omega | (simp <;> omega))) ?_; rintro en w4 ⟨v4_0, x4_0, x4_1, rfl, hm, h4_0, q4_1, hF4⟩; refine ⟨_, rfl, ?_⟩; replace FO1 := FO1.md0 hm; replace ha2 := ha2.md0 hm; replace uQ := uQ.md hm; replace M := M.step0 hm; have la := all_len hF4 FO1.wf; refine mv rfl ?_; refine st _ (r_extract rfl rfl) ?_; refine st _ (r_extract rfl rfl) ?_; refine asg rfl ?_; refine asg rfl ?_; refine nt ?_; refine c_seq ?_; refine ns ?_; refine mv rfl ?_; refine st _ (r_neN (a := x4_1) (b := 0) rfl rfl) ?_; refine nt ?_; refine c_if rfl (fun h12 => ?_) (fun h12 => ?_)
  · (first | (have h12n := of_decide_eq_true h12) | (have h12n := of_decide_eq_false (bnt h12)) | (have h12n := bnt h12) | (have h12n := h12)); refine ns ?_; refine st _ (r_buildG (us := []) (cs := (CRec.cells (({ epoch := 0, marks := [] } : CRec)) (.slice none 0 0))) [] z54 pl54 rfl rfl trivial trivial rfl rfl) ?_; refine mv rfl ?_; refine st_storeAgg (us := (CRec.cells (({ epoch := 0, marks := [] } : CRec)) (.slice none 0 0))) rfl rfl (by exact agg54) (by first | exact fun u hu => one_cells (CRec.one rfl) u hu | exact fun u hu => one_cells rfl u hu) ha2 (Nat.le_of_ble_eq_true rfl) ?_; have ha20 := ha2; clear ha2; intro w5 hm ha2; have hS : ∀ b ∈ [ba2], ¬ Q2 b := (by intro b hb; simp at hb; subst hb; exact n_ha2); replace FO1 := FO1.md hm (fun x hx => by rw [List.mem_singleton]; rintro rfl; exact nf_ha2_FO1 hx) hS; replace h4_0 := h4_0.md hm hS; replace uQ := uQ.md hm; replace M := M.step hm (all_cons p_ha2 all_nil); clear ha20 hS; replace ha2 : Blk _ _ (CRec.cells (({ epoch := 0, marks := [] } : CRec)) (.slice none 0 0)) _ := ha2; refine asg rfl ?_; refine nt ?_; refine c_ret ?_; refine r_then ?_; exact retL (vs := [(.agg (CRec.cells (({ epoch := 0, marks := [] } : CRec)) (.slice none 0 0)).toArray), (.int .i64 ((x4_1 : Nat) : Int))]) trivial rfl ⟨⟨_, rfl, load_agg (cs := (CRec.cells (({ epoch := 0, marks := [] } : CRec)) (.slice none 0 0))) (by exact agg54) ha2⟩, rfl, trivial⟩ rfl ⟨_, (({ epoch := 0, marks := [] } : CRec)), x4_1, rfl, M, (by first | assumption | exact (show (({ epoch := 0, marks := [] } : CRec)).epoch < 18446744073709551616 from (by first | omega | (simp <;> omega) | simp_all))), (Ls.nil _ _ _), (by first | assumption | omega | simp_all), load_c hF4 (by omega)⟩
  · (first | (have h12n := of_decide_eq_false h12) | (have h12n := of_decide_eq_true (bnf h12)) | (have h12n := bnf h12) | (have h12n := h12)); refine c_skip ?_; refine c_then ?_; refine ns ?_; refine mv rfl ?_; refine st_call fn33 rfl (rRead_any uQ h4_0 (by first | omega | (simp <;> omega) | (simp at * <;> omega))) ?_; rintro en w6 ⟨v6_0_0, x6_0, x6_1, rfl, hm, q6_0_0, h6_0_1, q6_1, hF6⟩; refine ⟨_, rfl, ?_⟩; replace FO1 := FO1.md0 hm; replace ha2 := ha2.md0 hm; replace h4_0 := h4_0.md0 hm; replace uQ := uQ.md hm; replace M := M.step0 hm; refine st _ (r_extract rfl rfl) ?_; refine st _ (r_extract rfl rfl) ?_; refine st_storeAgg (us := (CRec.cells x6_0 v6_0_0)) rfl rfl (by exact agg54) (by first | exact fun u hu => one_cells (CRec.one h6_0_1.oneCell) u hu | exact fun u hu => one_cells rfl u hu) ha2 (Nat.le_of_ble_eq_true rfl) ?_; have ha20 := ha2; clear ha2; intro w7 hm ha2; have hS : ∀ b ∈ [ba2], ¬ Q2 b := (by intro b hb; simp at hb; subst hb; exact n_ha2); replace FO1 := FO1.md hm (fun x hx => by rw [List.mem_singleton]; rintro rfl; exact nf_ha2_FO1 hx) hS; replace h4_0 := h4_0.md hm hS; replace h6_0_1 := h6_0_1.md hm hS; replace uQ := uQ.md hm; replace M := M.step hm (all_cons p_ha2 all_nil); clear ha20 hS; replace ha2 : Blk _ _ (CRec.cells x6_0 v6_0_0) _ := ha2; refine asg rfl ?_; refine nt ?_; refine c_ret ?_; exact retL (vs := [(.agg (CRec.cells x6_0 v6_0_0).toArray), (.int .i64 ((x6_1 : Nat) : Int))]) trivial rfl ⟨⟨_, rfl, load_agg (cs := (CRec.cells x6_0 v6_0_0)) (by exact agg54) ha2⟩, rfl, trivial⟩ rfl ⟨_, x6_0, x6_1, rfl, M, q6_0_0, (h6_0_1.sub (fun b hb _ => tQ b hb)), (by first | assumption | omega | simp_all), load_r hF4 (by omega) hF6⟩
end Go.Proofs.Ytcaokfendkkafaa
namespace Go.Wk
open Go Go.RowKit
theorem leN_low : ∀ (n v : Nat), leN (low v n) = v % 256 ^ n
  | 0, v => by simp [low, leN, Nat.mod_one]
  | n + 1, v => by
    have e : leN (low v (n + 1)) = v % 256 + 256 * leN (low (v / 256) n) := by simp [low, leN]
    rw [e, leN_low n, Nat.pow_succ, Nat.mul_comm (256 ^ n) 256, Nat.mod_mul]
theorem getF_mid {p q : List UInt8} {v n a : Nat} (hn : n = 1 ∨ n = 2 ∨ n = 4 ∨ n = 8) (ha : a = p.length) (hv : v < 256 ^ n) : getF (p ++ (low v n ++ q)) (a : Int) (n : Int) = (v, true) := by
  subst ha
  unfold getF
  rw [if_pos ⟨sizeOk_iff.2 (by omega), by omega, by simp [low_len]; omega⟩]
  rw [Int.toNat_natCast, Int.toNat_natCast, List.drop_left, List.take_append_of_le_length (by rw [low_len]; exact Nat.le_refl _), List.take_of_length_le (by rw [low_len]; exact Nat.le_refl _), leN_low, Nat.mod_eq_of_lt hv]
theorem crcOpen_seal (b : List UInt8) : crcOpenF (sealF b) = (b, 0) := by
  have e : sealF b = b ++ (low (moreF 0 b) 4 ++ []) := by unfold sealF addF; simp
  have hl : (b ++ (low (moreF 0 b) 4 ++ [])).length = b.length + 4 := by simp [low_len]
  unfold crcOpenF
  rw [e, if_neg (by rw [hl]; omega), hl, show (((b.length + 4 : Nat) : Int) - 4) = ((b.length : Nat) : Int) by omega, show b.length + 4 - 4 = b.length by omega, List.take_left]
  rw [show (4 : Int) = ((4 : Nat) : Int) from rfl, getF_mid (by omega) rfl (moreF_lt (by decide))]
  simp
/-! ## sums are linear -/
theorem crcS_eq (s : Nat) : crcS s = (s / 2) ^^^ (if s % 2 = 1 then 2197175160 else 0) := by
  unfold crcS
  rw [Nat.and_one_is_mod, Nat.pow_one]
  split <;> simp
theorem xor_div2 (a b : Nat) : (a ^^^ b) / 2 = (a / 2) ^^^ (b / 2) := by
  have h := Nat.shiftRight_xor_distrib (a := a) (b := b) (i := 1)
  simpa [Nat.shiftRight_eq_div_pow] using h
theorem xor4 (a b c d : Nat) : (a ^^^ b) ^^^ (c ^^^ d) = (a ^^^ c) ^^^ (b ^^^ d) := by ac_rfl
theorem crcS_xor (a b : Nat) : crcS (a ^^^ b) = crcS a ^^^ crcS b := by
  rw [crcS_eq, crcS_eq, crcS_eq, xor_div2, xor4 (a / 2) _ (b / 2)]
  congr 1
  have h := Nat.xor_mod_two_pow (a := a) (b := b) (n := 1)
  rw [Nat.pow_one] at h
  rcases Nat.mod_two_eq_zero_or_one a with ha | ha <;> rcases Nat.mod_two_eq_zero_or_one b with hb | hb <;>
    rw [h, ha, hb] <;> simp
theorem crcI_xor : ∀ (n a b : Nat), crcI n (a ^^^ b) = crcI n a ^^^ crcI n b
  | 0, _, _ => rfl
  | n + 1, a, b => by rw [crcI, crcI, crcI, crcS_xor, crcI_xor n]
theorem crcI_add : ∀ (m n s : Nat), crcI n (crcI m s) = crcI (m + n) s
  | 0, n, s => by rw [Nat.zero_add]; rfl
  | m + 1, n, s => by rw [crcI, crcI_add m n, show m + 1 + n = (m + n) + 1 by omega, crcI]
theorem crcS_two (a : Nat) : crcS (2 * a) = a := by rw [crcS_eq, if_neg (by omega), Nat.xor_zero]; omega
theorem crcI_two : ∀ (n a : Nat), crcI n (2 ^ n * a) = a
  | 0, a => by simp [crcI]
  | n + 1, a => by rw [crcI, show 2 ^ (n + 1) * a = 2 * (2 ^ n * a) by rw [Nat.pow_succ, Nat.mul_comm (2 ^ n) 2, Nat.mul_assoc], crcS_two, crcI_two n]
theorem crcS_0 {s : Nat} (hs : s < 4294967296) (h : crcS s = 0) : s = 0 := by
  rw [crcS_eq] at h
  split at h
  · have e : s / 2 = 2197175160 := by
      have := congrArg (· ^^^ 2197175160) h
      simpa [Nat.xor_assoc] using this
    omega
  · rw [Nat.xor_zero] at h; omega
theorem crcI_0 : ∀ (n : Nat) {s : Nat}, s < 4294967296 → crcI n s = 0 → s = 0
  | 0, _, _, h => h
  | n + 1, s, hs, h => crcS_0 hs (crcI_0 n (crcS_lt hs) h)
theorem crcI_inj {n a b : Nat} (ha : a < 4294967296) (hb : b < 4294967296) (h : crcI n a = crcI n b) : a = b := by
  have e : crcI n (a ^^^ b) = 0 := by rw [crcI_xor, h, Nat.xor_self]
  have := crcI_0 n (Nat.xor_lt_two_pow (n := 32) (by omega) (by omega)) e
  have h2 := congrArg (· ^^^ b) this
  simpa [Nat.xor_assoc] using h2
theorem crcL_xor : ∀ (b : List UInt8) (u v : Nat), crcL b (u ^^^ v) = crcL b u ^^^ crcI (8 * b.length) v
  | [], _, _ => rfl
  | c :: r, u, v => by
    have e : crcC (u ^^^ v) c = crcC u c ^^^ crcI 8 v := by unfold crcC; rw [← crcI_xor]; congr 1; ac_rfl
    rw [crcL, crcL, e, crcL_xor r, crcI_add, List.length_cons, show 8 + 8 * r.length = 8 * (r.length + 1) by omega]
theorem crcL_app : ∀ (a b : List UInt8) (s : Nat), crcL (a ++ b) s = crcL b (crcL a s)
  | [], _, _ => rfl
  | c :: r, b, s => by rw [List.cons_append, crcL, crcL, crcL_app r]
theorem byte_xor (x : UInt8) (k : Nat) : x.toNat + 256 * k = x.toNat ^^^ (2 ^ 8 * k) := by
  have hx := UInt8.toNat_lt x
  apply Nat.eq_of_testBit_eq
  intro j
  rw [show x.toNat + 256 * k = 2 ^ 8 * k + x.toNat by omega, Nat.testBit_two_pow_mul_add k (by omega), Nat.testBit_xor, Nat.testBit_two_pow_mul]
  by_cases h : j < 8
  · rw [if_pos h]; simp [show ¬ 8 ≤ j by omega]
  · rw [if_neg h, Nat.testBit_lt_two_pow (x := x.toNat) (Nat.lt_of_lt_of_le hx (by have := Nat.pow_le_pow_right (n := 2) (by omega) (show 8 ≤ j by omega); omega))]
    simp [show 8 ≤ j by omega]
theorem crcL_le : ∀ (t : List UInt8) (u : Nat), crcL t u = crcI (8 * t.length) (u ^^^ leN t)
  | [], u => by simp [crcL, leN, crcI]
  | x :: r, u => by
    have e : crcI 8 (u ^^^ leN (x :: r)) = crcC u x ^^^ leN r := by
      unfold crcC
      rw [leN, byte_xor, ← Nat.xor_assoc, crcI_xor, crcI_two]
    rw [crcL, crcL_le r, List.length_cons, show 8 * (r.length + 1) = 8 + 8 * r.length by omega, ← crcI_add, e]
/-- What was sealed, by its sum alone. -/
theorem sealed_iff {c : List UInt8} (hc : 4 ≤ c.length) : (getF c ((c.length : Int) - 4) 4).1 = moreF 0 (c.take (c.length - 4)) ↔ crcL c 4294967295 = crcI 32 4294967295 := by
  obtain ⟨h, t, rfl, ht⟩ : ∃ h t, c = h ++ t ∧ t.length = 4 := ⟨c.take (c.length - 4), c.drop (c.length - 4), (List.take_append_drop _ _).symm, by rw [List.length_drop]; omega⟩
  have e1 : (getF (h ++ t) (((h ++ t).length : Int) - 4) 4).1 = leN t := by
    unfold getF
    rw [if_pos ⟨by decide, by simp; omega, by simp⟩]
    simp only [List.length_append, ht]
    rw [show (((h.length + 4 : Nat) : Int) - 4).toNat = h.length by omega, List.drop_left, List.take_of_length_le (by simp [ht])]
  have hl : leN t < 4294967296 := by have := leN_lt t; rw [ht] at this; omega
  have hu := crcL_lt h (s := 4294967295) (by decide)
  rw [e1, crcL_app, crcL_le, ht, show (h ++ t).length - 4 = h.length by simp [ht], List.take_left]
  unfold moreF
  rw [Nat.xor_zero]
  constructor
  · intro e
    rw [e]
    congr 1
    rw [Nat.xor_comm 4294967295, ← Nat.xor_assoc, Nat.xor_self, Nat.zero_xor]
  · intro e
    have e2 := crcI_inj (Nat.xor_lt_two_pow (n := 32) (by omega) (by omega)) (by decide) e
    generalize crcL h 4294967295 = u at e2
    have e3 : leN t = u ^^^ (u ^^^ leN t) := by rw [← Nat.xor_assoc, Nat.xor_self, Nat.zero_xor]
    rw [e3, e2, Nat.xor_comm]
/-- c is b, of which the bits from a place on are turned round: the sum tells by how much. -/
def Spoilt (b c : List UInt8) (p bits k : Nat) : Prop := c.length = b.length ∧ ∀ s, crcL c s = crcL b s ^^^ crcI (8 * b.length - p) (bits % 2 ^ k)
theorem crcI_zero : ∀ n, crcI n 0 = 0
  | 0 => rfl
  | n + 1 => by rw [crcI, show crcS 0 = 0 from rfl, crcI_zero n]
theorem Spoilt.start (b : List UInt8) (p bits : Nat) : Spoilt b b p bits 0 := ⟨rfl, fun s => by rw [Nat.pow_zero, Nat.mod_one, crcI_zero, Nat.xor_zero]⟩
theorem crcL_set : ∀ {c : List UInt8} {i : Nat} {x m : UInt8} (s : Nat), c[i]? = some x → crcL (c.set i (x ^^^ m)) s = crcL c s ^^^ crcI (8 * (c.length - i)) m.toNat
  | [], i, x, m, s, h => by simp at h
  | y :: r, 0, x, m, s, h => by
    simp only [List.getElem?_cons_zero, Option.some.injEq] at h
    subst h
    have e : crcC s (y ^^^ m) = crcC s y ^^^ crcI 8 m.toNat := by unfold crcC; rw [UInt8.toNat_xor, ← crcI_xor]; congr 1; ac_rfl
    rw [List.set_cons_zero, crcL, crcL, e, crcL_xor, crcI_add, List.length_cons, show 8 + 8 * r.length = 8 * (r.length + 1 - 0) by omega]
  | y :: r, i + 1, x, m, s, h => by
    rw [List.set_cons_succ, crcL, crcL, crcL_set _ (by simpa using h), List.length_cons, show r.length + 1 - (i + 1) = r.length - i by omega]
theorem Spoilt.skip {b c : List UInt8} {p bits k : Nat} (h : Spoilt b c p bits k) (hb : bits / 2 ^ k % 2 = 0) : Spoilt b c p bits (k + 1) := by
  refine ⟨h.1, fun s => ?_⟩
  rw [h.2 s, Nat.pow_succ, Nat.mod_mul, hb]; rfl
theorem Spoilt.turn {b c : List UInt8} {p bits k : Nat} {x m : UInt8} (h : Spoilt b c p bits k) (hb : bits / 2 ^ k % 2 = 1) (hp : p + k < 8 * b.length) (hx : c[(p + k) / 8]? = some x) (hm : m.toNat = 2 ^ ((p + k) % 8)) : Spoilt b (c.set ((p + k) / 8) (x ^^^ m)) p bits (k + 1) := by
  refine ⟨by rw [List.length_set]; exact h.1, fun s => ?_⟩
  have e1 : crcI (8 * (c.length - (p + k) / 8)) m.toNat = crcI (8 * b.length - p) (2 ^ k) := by
    rw [hm, h.1, show 8 * (b.length - (p + k) / 8) = (p + k) % 8 + (8 * b.length - (p + k)) by omega, ← crcI_add]
    have a1 := crcI_two ((p + k) % 8) 1
    have a2 := crcI_two k 1
    rw [Nat.mul_one] at a1 a2
    rw [a1, show 8 * b.length - p = k + (8 * b.length - (p + k)) by omega, ← crcI_add, a2]
  have e2 : bits % 2 ^ (k + 1) = (bits % 2 ^ k) ^^^ 2 ^ k := by
    rw [Nat.pow_succ, Nat.mod_mul, hb, Nat.mul_one]
    have hlt := Nat.mod_lt bits (Nat.two_pow_pos k)
    apply Nat.eq_of_testBit_eq
    intro j
    have e := Nat.testBit_two_pow_mul_add (i := k) 1 hlt j
    rw [show bits % 2 ^ k + 2 ^ k = 2 ^ k * 1 + bits % 2 ^ k by omega, e, Nat.testBit_xor, Nat.testBit_two_pow]
    by_cases hj : j < k
    · rw [if_pos hj]; simp [show ¬ k = j by omega]
    · rw [if_neg hj, Nat.testBit_lt_two_pow (x := bits % 2 ^ k) (Nat.lt_of_lt_of_le hlt (Nat.pow_le_pow_right (by omega) (by omega)))]
      by_cases hj2 : k = j
      · subst hj2; simp
      · rw [show Nat.testBit 1 (j - k) = false from Nat.testBit_lt_two_pow (Nat.one_lt_two_pow (by omega))]; simp [hj2]
  rw [crcL_set s hx, h.2 s, e1, e2, crcI_xor, Nat.xor_assoc]
/-- Spoilt within 32 bits it is told. -/
theorem spoilt_told {a c : List UInt8} {p bits : Nat} (h : Spoilt (sealF a) c p bits 32) (hb : bits < 4294967296) : ((crcOpenF c).2 = 19 ↔ bits ≠ 0) := by
  have hl : (sealF a).length = a.length + 4 := by unfold sealF addF; simp [low_len]
  have h4 : 4 ≤ (sealF a).length := by omega
  have hs : crcL (sealF a) 4294967295 = crcI 32 4294967295 := by
    refine (sealed_iff h4).1 ?_
    have e := crcOpen_seal a
    unfold crcOpenF at e
    rw [if_neg (by omega)] at e
    split at e
    · cases e
    · rename_i hh; exact Decidable.not_not.1 hh
  have hc4 : 4 ≤ c.length := by rw [h.1]; exact h4
  have e := h.2 4294967295
  rw [Nat.mod_eq_of_lt (show bits < 2 ^ 32 by omega), hs] at e
  have key : crcL c 4294967295 = crcI 32 4294967295 ↔ bits = 0 := by
    rw [e]
    constructor
    · intro k
      have k2 := congrArg (· ^^^ crcI 32 4294967295) k
      simp only [Nat.xor_self] at k2
      rw [Nat.xor_comm (crcI 32 4294967295), Nat.xor_assoc, Nat.xor_self, Nat.xor_zero] at k2
      exact crcI_0 _ hb k2
    · rintro rfl; rw [crcI_zero, Nat.xor_zero]
  have hv := (sealed_iff hc4).trans key
  unfold crcOpenF
  rw [if_neg (by omega)]
  by_cases hz : bits = 0
  · rw [if_neg (by rw [hv.2 hz]; simp)]; simp [hz]
  · rw [if_pos (fun k => hz (hv.1 k))]; simp [hz]
end Go.Wk
namespace Go.Proofs.Ytcaokfendkkafaa
open Go Go.Wk Go.RowKit
set_option linter.unusedVariables false
set_option linter.unusedSimpArgs false
attribute [local irreducible] wpList wpQuiet wpStill wpMix Code.wp Calls bodyPost

/-! ## written and read again -/
theorem rise_tail {a : Mark} {l : List Mark} (h : riseM (a :: l) = true) : riseM l = true := by
  cases l with
  | nil => rfl
  | cons b r => rw [riseM] at h; simp at h; exact h.2
theorem rise_drop : ∀ (k : Nat) {l : List Mark}, riseM l = true → riseM (l.drop k) = true
  | 0, _, h => h
  | k + 1, [], _ => rfl
  | k + 1, _ :: _, h => rise_drop k (rise_tail h)
theorem rise_lt {l : List Mark} {i : Nat} {a b : Mark} (h : riseM l = true) (h0 : 0 < i) (ha : l[i - 1]? = some a) (hb : l[i]? = some b) : cmpS a.id b.id < 0 := by
  have := riseM_get h0 ha hb; rw [rise_drop _ h, rise_drop _ h, Bool.and_true] at this; exact of_decide_eq_true this.symm
theorem flat_dropM : ∀ (i : Nat) {l : List Mark}, (∀ m ∈ l, Mark.ok m) → (l.flatMap markB).drop (40 * i) = (l.drop i).flatMap markB
  | 0, _, _ => rfl
  | i + 1, [], _ => by simp
  | i + 1, m :: l, h => by
    rw [List.flatMap_cons, List.drop_succ_cons, ← flat_dropM i (fun x hx => h x (List.mem_cons_of_mem _ hx)), show 40 * (i + 1) = (markB m).length + 40 * i by rw [markB_len (h m (by simp)).1]; omega, ← List.drop_drop, List.drop_left]
theorem rdL_rt {l : List Mark} (ho : ∀ m ∈ l, Mark.ok m) (hr : riseM l = true) {x : UInt8} : ∀ (k i : Nat), i + k = l.length → rdL (x :: l.flatMap markB) k i (l.take i) = (l, 1 + 40 * l.length, 0)
  | 0, i, h => by rw [List.take_of_length_le (by omega)]; rfl
  | k + 1, i, h => by
    obtain ⟨m, hm⟩ : ∃ m, l[i]? = some m := ⟨_, List.getElem?_eq_getElem (by omega)⟩; have mo := ho m (List.mem_of_getElem? hm)
    have hd : (x :: l.flatMap markB).drop (1 + 40 * i) = markB m ++ (l.drop (i + 1)).flatMap markB := by
      rw [Nat.add_comm, List.drop_succ_cons, flat_dropM i ho, drop_get hm, List.flatMap_cons]
    have hl : (markB m ++ (l.drop (i + 1)).flatMap markB).length = 40 + ((l.drop (i + 1)).flatMap markB).length := (by rw [List.length_append, markB_len mo.1]); have e0 : markB m ++ (l.drop (i + 1)).flatMap markB = m.id ++ (low m.seq 8 ++ (low m.lost 8 ++ low m.over 8 ++ (l.drop (i + 1)).flatMap markB)) := (by simp [markB]); have e1 : markB m ++ (l.drop (i + 1)).flatMap markB = (m.id ++ low m.seq 8) ++ (low m.lost 8 ++ (low m.over 8 ++ (l.drop (i + 1)).flatMap markB)) := (by simp [markB]); have e2 : markB m ++ (l.drop (i + 1)).flatMap markB = (m.id ++ low m.seq 8 ++ low m.lost 8) ++ (low m.over 8 ++ (l.drop (i + 1)).flatMap markB) := (by simp [markB]); have t16 : (markB m ++ (l.drop (i + 1)).flatMap markB).take 16 = m.id := (by rw [e0, List.take_append_of_le_length (by rw [mo.1]; omega), List.take_of_length_le (by rw [mo.1]; omega)])
    have g1 : getF (markB m ++ (l.drop (i + 1)).flatMap markB) 16 8 = (m.seq, true) := by
      rw [e0]; exact getF_mid (n := 8) (a := 16) (by omega) (by rw [mo.1]) mo.2.1
    have g2 : getF (markB m ++ (l.drop (i + 1)).flatMap markB) 24 8 = (m.lost, true) := by
      rw [e1]; exact getF_mid (n := 8) (a := 24) (by omega) (by simp [mo.1, low_len]) mo.2.2.1
    have g3 : getF (markB m ++ (l.drop (i + 1)).flatMap markB) 32 8 = (m.over, true) := by
      rw [e2]; exact getF_mid (n := 8) (a := 32) (by omega) (by simp [mo.1, low_len]) mo.2.2.2
    have cn : ¬ (0 < i ∧ 0 ≤ cmpS ((l.take i).getD (i - 1) ⟨[], 0, 0, 0⟩).id m.id) := by
      rintro ⟨h0, h1⟩; obtain ⟨a, ha⟩ : ∃ a, l[i - 1]? = some a := ⟨_, List.getElem?_eq_getElem (by omega)⟩; have := rise_lt hr h0 ha hm; rw [List.getD_eq_getElem?_getD, List.getElem?_take_of_lt (by omega), ha] at h1; simp only [Option.getD_some] at h1; omega
    rw [rdL, hd, if_neg (by omega), t16, if_neg cn, if_neg (by omega), g1, g2, g3]; have ht : l.take i ++ [m] = l.take (i + 1) := (by rw [List.take_add_one, hm]; rfl); show rdL _ k (i + 1) (l.take i ++ [m]) = _; rw [ht]; exact rdL_rt ho hr k (i + 1) (by omega)
theorem readM_rt {l : List Mark} (ho : ∀ m ∈ l, Mark.ok m) (hr : rightM l = true) : readM (marksB l) = (l, 1 + 40 * l.length, 0) := by
  have h4 := right_len hr; have hs : riseM l = true := (by unfold rightM at hr; simp at hr; exact hr.2); unfold readM marksB; rw [if_pos hr, if_neg (by simp)]; have e : ((UInt8.ofNat l.length :: l.flatMap markB).getD 0 0).toNat = l.length := (by simp; omega); rw [e, if_neg (by omega)]; exact rdL_rt ho hs l.length 0 (by omega)
theorem rec_rt {r : CRec} (ho : ∀ m ∈ r.marks, Mark.ok m) (he : r.epoch < 18446744073709551616) (hr : rightM r.marks = true) : recRead (recB r) = (r, 0) := by
  have hx : crcOpenF (recB r) = (addF [68, 67, 75, 80] 8 r.epoch ++ marksB r.marks, 0) := crcOpen_seal _; have l12 : (addF [68, 67, 75, 80] 8 r.epoch).length = 12 := (by rw [add8, List.length_append, low_len]; rfl); have lm := (marksB_len ho hr).1; have hd : (addF [68, 67, 75, 80] 8 r.epoch ++ marksB r.marks).drop 12 = marksB r.marks := (by rw [← l12, List.drop_left])
  have hg : getF (addF [68, 67, 75, 80] 8 r.epoch ++ marksB r.marks) 4 8 = (r.epoch, true) := by
    rw [add8, List.append_assoc]; exact getF_mid (n := 8) (a := 4) (by omega) rfl he
  have hp : preF (addF [68, 67, 75, 80] 8 r.epoch ++ marksB r.marks) [68, 67, 75, 80] = true := by
    unfold preF; rw [if_pos (by rw [List.length_append, l12]; simp; omega), add8, List.append_assoc]
    rfl
  have hrd := readM_rt ho hr; rw [rr6 hx rfl (by rw [List.length_append, l12]; omega) (by rw [hp]; simp) (by rw [hd]; exact hrd) rfl (by rw [hd, lm]; omega) hg]

end Go.Proofs.Ytcaokfendkkafaa
namespace Go.Proofs.Ytcaokfendkkafaa
open Go Go.Wk Go.RowKit
set_option linter.unusedVariables false
set_option linter.unusedSimpArgs false
attribute [local irreducible] wpList wpQuiet wpStill wpMix Code.wp Calls bodyPost

theorem kNumber_any {w : World} {Q : Nat → Prop} (uQ : Up w Q) (k : Int) (a0 : (-9223372036854775808 ≤ k ∧ k < 9223372036854775808)) (n : Nat) (a1 : n < 9223372036854775808) (p0 : n ≤ 1000000) :
    Calls Try.prog 14 #[(.int .i64 (k : Int)), (.int .i64 ((n : Nat) : Int))] w fun en w' => ∃ r0 : Nat, en = .returned (.int .i64 ((r0 : Nat) : Int)) ∧ Md [] w w' ∧ r0 < 9223372036854775808 ∧ numF k n = r0 := by
  have M := Md.refl [] w; have uQ0 := uQ; have tQ : ∀ b, Q b → Q b := fun _ h => h; have sQ0 : ∀ b, Q b → b < w.heap.size → Q b := fun _ h _ => h; refine enter (n := 14) Try.func14 rfl rfl rfl ?_; intro B; refine ns ?_; refine asg rfl ?_; refine nt ?_; refine c_seq ?_; refine ns ?_; refine mv rfl ?_; refine st _ (r_ltN (a := n) (b := 1) rfl rfl) ?_; refine nt ?_; refine c_if rfl (fun h6 => ?_) (fun h6 => ?_)
  · (first | (have h6n := of_decide_eq_true h6) | (have h6n := of_decide_eq_false (bnt h6)) | (have h6n := bnt h6) | (have h6n := h6)); refine ns ?_; refine asg rfl ?_; refine nt ?_; refine c_ret ?_; refine r_then ?_; exact ret1L (v := (.int .i64 ((0 : Nat) : Int))) trivial rfl ⟨rfl, trivial⟩ ⟨0, rfl, M, (by first | assumption | omega | simp_all), (by rw [numF] <;> simp (disch := first | omega | assumption | (simp; done) | fail) only [if_pos, if_neg, Option.getD_some, Option.some.injEq, reduceIte, Bool.false_eq_true, Bool.true_eq_false, decide_true, decide_false, not_true_eq_false, not_false_eq_true, h6n])⟩
  · (first | (have h6n := of_decide_eq_false h6) | (have h6n := of_decide_eq_true (bnf h6)) | (have h6n := bnf h6) | (have h6n := h6)); refine c_skip ?_; refine c_then ?_; refine ns ?_; refine mv rfl ?_; refine mv rfl ?_; refine st _ (r_remZ (a := k) (b := ((n : Nat) : Int)) rfl rfl (by omega)) ?_; refine mv rfl ?_; have hg := num_ge (k := k) h6n; refine st _ (r_addI (a := k.tmod (((n : Nat) : Int))) (b := ((n : Nat) : Int)) rfl rfl (by omega)) ?_; refine mv rfl ?_; refine st _ (((r_remZ (a := k.tmod (((n : Nat) : Int)) + ((n : Nat) : Int)) (b := ((n : Nat) : Int)) rfl rfl (by omega)).castI (Int.toNat_of_nonneg (Int.tmod_nonneg _ (by omega))).symm)) ?_; have hq := Int.tmod_lt_of_pos (k.tmod (n : Int) + (n : Int)) (show (0 : Int) < n by omega); refine asg rfl ?_; refine nt ?_; refine c_ret ?_; exact ret1L (v := (.int .i64 ((((k.tmod (((n : Nat) : Int)) + ((n : Nat) : Int)).tmod (((n : Nat) : Int))).toNat : Nat) : Int))) trivial rfl ⟨rfl, trivial⟩ ⟨((k.tmod (((n : Nat) : Int)) + ((n : Nat) : Int)).tmod (((n : Nat) : Int))).toNat, rfl, M, (by first | assumption | omega | simp_all), (by rw [numF] <;> simp (disch := first | omega | assumption | (simp; done) | fail) only [if_pos, if_neg, Option.getD_some, Option.some.injEq, reduceIte, Bool.false_eq_true, Bool.true_eq_false, decide_true, decide_false, not_true_eq_false, not_false_eq_true, h6n])⟩
end Go.Proofs.Ytcaokfendkkafaa
namespace Go.Proofs.Ytcaokfendkkafaa
open Go Go.Wk Go.RowKit
set_option linter.unusedVariables false
set_option linter.unusedSimpArgs false
attribute [local irreducible] wpList wpQuiet wpStill wpMix Code.wp Calls bodyPost
theorem fn13 : isFn Try.prog 13 = true := by kernel_rfl
theorem fn17 : isFn Try.prog 17 = true := by kernel_rfl
theorem u23 : Try.prog.underlying 23 = some (.pointer 80) := by kernel_rfl

end Go.Proofs.Ytcaokfendkkafaa
namespace Go.Proofs.Ytcaokfendkkafaa
open Go Go.Wk Go.RowKit
set_option linter.unusedVariables false
set_option linter.unusedSimpArgs false
attribute [local irreducible] wpList wpQuiet wpStill wpMix Code.wp Calls bodyPost
theorem fn14 : isFn Try.prog 14 = true := by kernel_rfl

end Go.Proofs.Ytcaokfendkkafaa
namespace Go.Proofs.Ytcaokfendkkafaa
open Go Go.Wk Go.RowKit
set_option linter.unusedVariables false
set_option linter.unusedSimpArgs false
attribute [local irreducible] wpList wpQuiet wpStill wpMix Code.wp Calls bodyPost

theorem tot_cnt : ∀ l : List SNd, (totF l).1 = (l.filter (·.no.there)).length
  | [] => rfl
  | x :: l => by
    rw [totF, List.filter_cons]
    split
    · simp [tot_cnt l]
    · exact tot_cnt l
end Go.Proofs.Ytcaokfendkkafaa
namespace Go.Proofs.Ytcaokfendkkafaa
open Go Go.Wk Go.RowKit
set_option linter.unusedVariables false
set_option linter.unusedSimpArgs false
attribute [local irreducible] wpList wpQuiet wpStill wpMix Code.wp Calls bodyPost
theorem u4 : Try.prog.underlying 4 = some (.bool) := by kernel_rfl

end Go.Proofs.Ytcaokfendkkafaa
namespace Go.Proofs.Ytcaokfendkkafaa
open Go Go.Wk Go.RowKit
set_option linter.unusedVariables false
set_option linter.unusedSimpArgs false
attribute [local irreducible] wpList wpQuiet wpStill wpMix Code.wp Calls bodyPost
theorem u74 : Try.prog.underlying 74 = some (.int .u64) := by kernel_rfl

theorem outF_none (b s : List UInt8) : ∀ n, outF b s [] n = b.take (n * 512)
  | 0 => by simp [outF]
  | n + 1 => by
    rw [outF, outF_none b s n]; simp only [List.not_mem_nil, if_false]; have hl : (b.take (n * 512)).length = min (n * 512) b.length := List.length_take; by_cases h : n * 512 < b.length
    · have e : secF b n = (b.take ((n + 1) * 512)).drop (n * 512) := by
        unfold secF; rw [Nat.min_eq_left (by omega : n * 512 ≤ b.length)]; by_cases h2 : n * 512 + 512 ≤ b.length
        · rw [Nat.min_eq_left h2, Nat.succ_mul]
        · rw [Nat.min_eq_right (by omega), List.take_of_length_le (Nat.le_refl _), List.take_of_length_le (by omega)]
      have el : (secF b n).length ≠ 0 := (by rw [e, List.length_drop, List.length_take]; omega); rw [if_neg el, hl, Nat.min_eq_left (by omega), Nat.sub_self, List.replicate_zero, List.append_nil, e]; have : b.take (n * 512) = (b.take ((n + 1) * 512)).take (n * 512) := (by rw [List.take_take, Nat.min_eq_left (by omega)]); rw [this, List.take_append_drop]
    · have e : secF b n = [] := by
        unfold secF; rw [Nat.min_eq_right (by omega : b.length ≤ n * 512), List.drop_of_length_le (by rw [List.length_take]; omega)]
      rw [e, if_pos (show ([] : List UInt8).length = 0 from rfl), List.take_of_length_le (by omega), List.take_of_length_le (by omega)]
theorem crash_keep {b s : List UInt8} {keep : List Bool} (h : ∀ i, i < (dirF b s (secN b s)).length → keep.getD i false = true) : crashB b s keep = b := by
  unfold crashB
  have : lostF (dirF b s (secN b s)) keep (dirF b s (secN b s)).length = [] := by
    unfold lostF; rw [List.filter_eq_nil_iff.2, List.map_nil]; intro i hi; rw [h i (List.mem_range.1 hi)]; simp
  rw [this, outF_none, List.take_of_length_le]; unfold secN; omega
theorem crash_same (b : List UInt8) (keep : List Bool) : crashB b b keep = b := by
  refine crash_keep fun i hi => ?_; have : dirF b b (secN b b) = [] := (by unfold dirF; simp); rw [this] at hi; exact absurd hi (Nat.not_lt_zero _)
theorem write_free {f : SFs} {s : List UInt8} {p : Nat} {b : List UInt8} {j : Nat} {x : SNd} (ho : f.off = false) (hn : fnameF s = true) (hq : findN f.nodes s = some x) (hb : b.length ≠ 0) (hp : p + b.length ≤ 32768) (ht : ((totF f.nodes).2 : Int) + ((max x.fl.b.length (p + b.length) : Nat) : Int) - (x.fl.b.length : Int) ≤ f.room) :
    writeR f s (p : Int) b j = if (burnF f).1 ≠ 0 then burnF f else (0, { (burnF f).2 with nodes := updN f.nodes x.id fun z => { z with no := { z.no with fid := j }, fl := { x.fl with b := writeF x.fl.b p b } } }) := by
  have hw : wrF x.fl (p : Int) b = (0, { x.fl with b := writeF x.fl.b p b }) := (by rw [wr_ok (by omega) (by omega) hb, Int.toNat_natCast]); have hg : ¬ (0 < (((writeF x.fl.b p b).length : Nat) : Int) - (x.fl.b.length : Int) ∧ f.room < ((totF f.nodes).2 : Int) + ((((writeF x.fl.b p b).length : Nat) : Int) - (x.fl.b.length : Int))) := (by rw [writeF_len]; omega); by_cases hc : (burnF f).1 = 0
  · rw [if_neg (by simpa using hc)]
    exact write_0 (gtF_hit ho hn hq) hw rfl (a := (totF f.nodes).1) (z := (totF f.nodes).2) rfl hg (c := (burnF f).1) (m := (burnF f).2) rfl hc
  · rw [if_pos (by simpa using hc)]
    exact write_b (gtF_hit ho hn hq) hw rfl (a := (totF f.nodes).1) (z := (totF f.nodes).2) rfl hg (c := (burnF f).1) (m := (burnF f).2) rfl hc
end Go.Proofs.Ytcaokfendkkafaa
namespace Go.Proofs.Ytcaokfendkkafaa
open Go Go.Wk Go.RowKit
set_option linter.unusedVariables false
set_option linter.unusedSimpArgs false
attribute [local irreducible] wpList wpQuiet wpStill wpMix Code.wp Calls bodyPost
end Go.Proofs.Ytcaokfendkkafaa
namespace Go.Proofs.Ytcaokfendkkafaa
open Go Go.Wk Go.RowKit
set_option linter.unusedVariables false
set_option linter.unusedSimpArgs false
attribute [local irreducible] wpList wpQuiet wpStill wpMix Code.wp Calls bodyPost

def snm : List UInt8 := [115, 97, 102, 101]
section
variable {f m : SFs} {b s t : List UInt8} {x : SNd} {r : Nat}
end

end Go.Proofs.Ytcaokfendkkafaa
namespace Go.Proofs.Ytcaokfendkkafaa
open Go Go.Wk Go.RowKit
set_option linter.unusedVariables false
set_option linter.unusedSimpArgs false
attribute [local irreducible] wpList wpQuiet wpStill wpMix Code.wp Calls bodyPost
structure Do where
  kind : Int
  a : Int
  b : Int
  pos : Int
  n : Int
  name : List UInt8
  body : List UInt8
  keep : List Bool
def fewN : List (List UInt8) := [[97], [98], [99], [100]]
/-- One of a few names, now and then any. -/
def nameF (d : Do) (n : Int) : List UInt8 := if n = 9 then d.name else fewN.getD (numF n 4) []
theorem nameF_9 {d : Do} {n : Int} (h : n = 9) : nameF d n = d.name := by unfold nameF; rw [if_pos h]
theorem few_all : ∀ k, k < 4 → (fewN.getD k []).length = 1 ∧ fewN.getD k [] ≠ snm := by decide
theorem name_few {d : Do} {n : Int} {s : List UInt8} (hn : n ≠ 9) (h : nameF d n = s) : s.length = 1 ∧ s ≠ snm := by
  subst h; unfold nameF; rw [if_neg hn]; exact few_all _ ((numF_lt n 4).resolve_left (by decide))
theorem name_len {d : Do} {n : Int} {s : List UInt8} (h : nameF d n = s) : s.length ≤ max 1 d.name.length := by
  by_cases hn : n = 9
  · rw [nameF_9 hn] at h; subst h; exact Nat.le_max_right _ _
  · have := (name_few hn h).1; omega
end Go.Proofs.Ytcaokfendkkafaa
namespace Go.Proofs.Ytcaokfendkkafaa
open Go Go.Wk Go.RowKit
set_option linter.unusedVariables false
set_option linter.unusedSimpArgs false
attribute [local irreducible] wpList wpQuiet wpStill wpMix Code.wp Calls bodyPost

/-! ## Save over a directory -/
theorem sN_ok : fnameF sN = true := by decide
theorem sF_ok : fnameF sF = true := by decide
theorem sNF : sN ≠ sF := by decide
def fsD (R u : Int) (off : Bool) (L : List SNd) (p : List SCh) : SFs := { room := R, fuse := u, off := off, nodes := L, pend := p }
def nw (i : Nat) (s : List UInt8) (j : Nat) (d : SFl) : SNd := ⟨i, ⟨s, true, j⟩, d⟩
section
variable {R u : Int} {L : List SNd} {p : List SCh} {i j q c : Nat} {m : SFs} {s : List UInt8} {B : List UInt8}
theorem burn_fs (R u : Int) (L : List SNd) (p : List SCh) : (∃ v, burnF (fsD R u false L p) = (0, fsD R v false L p) ∧ (u = -1 → v = -1)) ∨ (burnF (fsD R u false L p) = (18, fsD R u true L p) ∧ u = 0) := by
  unfold burnF; by_cases h : u = 0
  · exact .inr ⟨if_pos h, h⟩
  · refine .inl ?_
    show ∃ v, (if u = 0 then _ else _) = _ ∧ _; rw [if_neg h]; by_cases h2 : 0 < u
    · exact ⟨u - 1, if_pos h2, by omega⟩
    · exact ⟨u, if_neg h2, fun h => h⟩
/-- How a call goes: done, or power is off and all is as it was. -/
def Went (R u : Int) (L : List SNd) (p : List SCh) (L' : List SNd) (p' : List SCh) (c : Nat) (m : SFs) : Prop := (c = 0 ∧ ∃ v, m = fsD R v false L' p' ∧ (u = -1 → v = -1)) ∨ (c = 18 ∧ u = 0 ∧ m = fsD R u true L p)
theorem Went.of {L' : List SNd} {p' : List SCh} {g : SFs → SFs} {e : Nat × SFs} (he : (c, m) = e) (h : e = if (burnF (fsD R u false L p)).1 ≠ 0 then burnF (fsD R u false L p) else (0, g (burnF (fsD R u false L p)).2)) (hg : ∀ v, g (fsD R v false L p) = fsD R v false L' p') : Went R u L p L' p' c m := by
  rw [h] at he; rcases burn_fs R u L p with ⟨v, hb, hv⟩ | ⟨hb, hu⟩
  · rw [hb, if_neg (by simp)] at he
    obtain ⟨rfl, rfl⟩ := Prod.mk.inj he; exact .inl ⟨rfl, v, hg v, hv⟩
  · rw [hb, if_pos (by simp)] at he
    obtain ⟨rfl, rfl⟩ := Prod.mk.inj he; exact .inr ⟨rfl, hu, rfl⟩
theorem make_fs (hn : findN L sN = none) (ht : (totF L).1 < 24) (e : makeR (fsD R u false L p) sN i j = (c, m)) : Went R u L p (L ++ [nw i sN j ⟨[], []⟩]) (p ++ [⟨0, i, [], none⟩]) c m := by
  refine Went.of (g := fun f => { f with nodes := L ++ [nw i sN j ⟨[], []⟩], pend := p ++ [⟨0, i, [], none⟩] }) e.symm ?_ (fun v => rfl); unfold makeR; rw [gtF_none (f := fsD R u false L p) rfl sN_ok hn]; have ht' : ¬ 24 ≤ (totF (fsD R u false L p).nodes).1 := (by show ¬ 24 ≤ (totF L).1; omega); rw [if_neg (by simp), if_neg (by simp), if_neg ht']
  rfl
theorem writeF_0 (B : List UInt8) : writeF [] 0 B = B := by unfold writeF; simp
theorem write_fs {x : SNd} (hx : findN L sN = some x) (hl : x.fl = ⟨[], []⟩) (h0 : B.length ≠ 0) (h1 : B.length ≤ 32768) (hr : ((totF L).2 : Int) + B.length ≤ R) (e : writeR (fsD R u false L p) sN 0 B q = (c, m)) :
    Went R u L p (updN L x.id fun z => { z with no := { z.no with fid := q }, fl := ⟨B, []⟩ }) p c m := by
  refine Went.of (g := fun f => { f with nodes := updN L x.id fun z => { z with no := { z.no with fid := q }, fl := ⟨B, []⟩ } }) e.symm ?_ (fun v => rfl); have hw := write_free (f := fsD R u false L p) (s := sN) (p := 0) (b := B) (j := q) (x := x) rfl sN_ok hx h0 (by omega) (by rw [hl]; show ((totF L).2 : Int) + ((max 0 (0 + B.length) : Nat) : Int) - ((0 : Nat) : Int) ≤ R; omega); rw [hl, show writeF (⟨[], []⟩ : SFl).b 0 B = B from writeF_0 B] at hw; exact hw
theorem sync_fs {x : SNd} (hx : findN L sN = some x) (e : syncR (fsD R u false L p) sN = (c, m)) : Went R u L p (updN L x.id fun z => { z with fl := ⟨x.fl.b, x.fl.b⟩ }) p c m := by
  refine Went.of (g := fun f => { f with nodes := updN L x.id fun z => { z with fl := ⟨x.fl.b, x.fl.b⟩ } }) e.symm ?_ (fun v => rfl); have h := gtF_hit (f := fsD R u false L p) rfl sN_ok hx; unfold syncR; rw [gtF_0 h, h.2, if_neg (by simp)]; rcases burn_fs R u L p with ⟨v, hb, _⟩ | ⟨hb, _⟩
  · rw [hb]; rfl
  · rw [hb]; rfl
theorem drop_fs {x : SNd} (hx : findN L sN = some x) (e : dropR (fsD R u false L p) sN = (c, m)) : Went R u L p (updN L x.id fun z => { z with no := { z.no with there := false } }) (p ++ [⟨2, x.id, [], none⟩]) c m := by
  refine Went.of (g := fun f => { f with nodes := updN L x.id fun z => { z with no := { z.no with there := false } }, pend := p ++ [⟨2, x.id, [], none⟩] }) e.symm ?_ (fun v => rfl); have h := gtF_hit (f := fsD R u false L p) rfl sN_ok hx; unfold dropR; rw [gtF_0 h, h.2, if_neg (by simp)]; rcases burn_fs R u L p with ⟨v, hb, _⟩ | ⟨hb, _⟩
  · rw [hb]; rfl
  · rw [hb]; rfl
/-- What bore the name bears it no more. -/
def killF (L : List SNd) : List SNd := match findN L sF with | none => L | some y => updN L y.id fun z => { z with no := { z.no with there := false } }
theorem ren_fs {x : SNd} (hx : findN L sN = some x) (hne : (findN L sF).map (·.id) ≠ some x.id) (e : renameR (fsD R u false L p) sN sF = (c, m)) :
    Went R u L p (updN (killF L) x.id fun z => { z with no := { z.no with nm := sF } }) (p ++ [⟨1, x.id, sN, (findN L sF).map (·.id)⟩]) c m := by
  refine Went.of (g := fun f => { f with nodes := updN (killF L) x.id fun z => { z with no := { z.no with nm := sF } }, pend := p ++ [⟨1, x.id, sN, (findN L sF).map (·.id)⟩] }) e.symm ?_ (fun v => rfl); have h0 : mayF (fsD R u false L p).off [sN, sF] = 0 := (by show mayF false [sN, sF] = 0; decide); unfold renameR; rw [h0, if_neg (by simp), show findN (fsD R u false L p).nodes sN = some x from hx, show findN (fsD R u false L p).nodes sF = findN L sF from rfl]; simp only; rw [if_neg hne]
  rfl
theorem dir_fs (e : syncDirR (fsD R u false L p) = (c, m)) : Went R u L p (L.filter (·.no.there)) [] c m := by
  refine Went.of (g := fun f => settleF f) e.symm ?_ (fun v => rfl); unfold syncDirR; rw [if_neg (by show ¬ false = true; simp)]
end

end Go.Proofs.Ytcaokfendkkafaa
namespace Go.Proofs.Ytcaokfendkkafaa
open Go Go.Wk Go.RowKit
set_option linter.unusedVariables false
set_option linter.unusedSimpArgs false
attribute [local irreducible] wpList wpQuiet wpStill wpMix Code.wp Calls bodyPost

/-! ## all of a Save -/
def goneN (i : Nat) (L : List SNd) : List SNd := updN L i fun z => { z with no := { z.no with there := false } }
def dropN (L : List SNd) : List SNd := match findN L sN with | none => L | some y => goneN y.id L
def dropP (L : List SNd) : List SCh := match findN L sN with | none => [] | some y => [⟨2, y.id, [], none⟩]
/-- How far a Save may have come. -/
def Stg (L : List SNd) (B : List UInt8) (i j q : Nat) : List (List SNd × List SCh) :=
  [(L, []), (dropN L, dropP L), (dropN L ++ [nw i sN j ⟨[], []⟩], dropP L ++ [⟨0, i, [], none⟩]), (dropN L ++ [nw i sN q ⟨B, []⟩], dropP L ++ [⟨0, i, [], none⟩]), (dropN L ++ [nw i sN q ⟨B, B⟩], dropP L ++ [⟨0, i, [], none⟩]),
    (killF (dropN L) ++ [nw i sF q ⟨B, B⟩], dropP L ++ [⟨0, i, [], none⟩] ++ [⟨1, i, sN, (findN (dropN L) sF).map (·.id)⟩])]
def Ch (R u : Int) (S : List (List SNd × List SCh)) (N : List SNd) (P : List SCh) (a : Nat × SFs) : Prop :=
  (a.1 = 0 ∧ ∃ v, a.2 = fsD R v false N P ∧ (u = -1 → v = -1)) ∨ (a.1 = 18 ∧ u ≠ -1 ∧ ∃ n p, a.2 = fsD R 0 true n p ∧ (n, p) ∈ S)
theorem Ch.step {R u : Int} {S : List (List SNd × List SCh)} {N N' : List SNd} {P P' : List SCh} {a : Nat × SFs} {g : SFs → Nat × SFs} (h : Ch R u S N P a) (hg : ∀ v c m, g (fsD R v false N P) = (c, m) → Went R v N P N' P' c m) (hS : (N, P) ∈ S) : Ch R u S N' P' (stepR a g) := by
  rcases h with ⟨h0, v, hv, hu⟩ | ⟨h0, h1, h2⟩
  · have e : stepR a g = g (fsD R v false N P) := by unfold stepR; rw [if_pos h0, hv]
    rw [e]; rcases hg v (g (fsD R v false N P)).1 (g (fsD R v false N P)).2 rfl with ⟨k0, x, hx, hxu⟩ | ⟨k0, kv, hx⟩
    · exact .inl ⟨k0, x, hx, fun h => hxu (hu h)⟩
    · refine .inr ⟨k0, fun h => ?_, N, P, ?_, hS⟩
      · have := hu h; omega
      · rw [hx, kv]
  · have e : stepR a g = a := by unfold stepR; rw [if_neg (by omega)]
    rw [e]; exact .inr ⟨h0, h1, h2⟩
theorem stepR_pass {a : Nat × SFs} {g : SFs → Nat × SFs} (h : a.1 ≠ 0) : stepR a g = a := if_neg h
section
variable {R u : Int} {L : List SNd} {p : List SCh} {i j q c : Nat} {m : SFs} {s : List UInt8} {B : List UInt8} {r : CRec}
theorem findN_app {x : SNd} : ∀ {L : List SNd}, findN (L ++ [x]) s = match findN L s with | some y => some y | none => if x.no.there = true ∧ x.no.nm = s then some x else none
  | [] => rfl
  | y :: L => by
    rw [List.cons_append, findN, findN]; by_cases h : y.no.there = true ∧ y.no.nm = s
    · rw [if_pos h, if_pos h]
    · rw [if_neg h, if_neg h, findN_app]
theorem findN_id {x : SNd} (h : findN L s = some x) : x.id ∈ L.map (·.id) := List.mem_map.2 ⟨x, (findN_mem h).1, rfl⟩
theorem updN_app {x : SNd} {g : SNd → SNd} (h : x.id ∉ L.map (·.id)) : updN (L ++ [x]) x.id g = L ++ [g x] := by
  unfold updN; rw [List.map_append, List.map_cons, List.map_nil, if_pos rfl]
  congr 1
  refine (List.map_congr_left fun z hz => ?_).trans (List.map_id L); rw [if_neg fun e => h (List.mem_map.2 ⟨z, hz, e⟩)]; rfl
theorem updN_app' {x : SNd} {k : Nat} {g : SNd → SNd} (h : x.id ≠ k) : updN (L ++ [x]) k g = updN L k g ++ [x] := by
  unfold updN; rw [List.map_append, List.map_cons, List.map_nil, if_neg h]
theorem totF_app {x : SNd} : ∀ L : List SNd, totF (L ++ [x]) = if x.no.there = true then ((totF L).1 + 1, (totF L).2 + x.fl.b.length) else totF L
  | [] => by
    rw [List.nil_append, totF]; rfl
  | y :: L => by
    rw [List.cons_append, totF, totF, totF_app L]; by_cases h1 : y.no.there = true <;> by_cases h2 : x.no.there = true <;> simp [h1, h2, Prod.ext_iff] <;> omega
theorem last_fs {v : Int} {n : Nat} {N : List SNd} {P : List SCh} (h0 : 0 < n) (hr : ((totF N).2 : Int) + n ≤ R) (ht : (totF N).1 < 24) : lastR n (fsD R v false N P) = (0, fsD R v false N P) := by
  have h1 : (namesD (fsD R v false N P)).length < 24 := (by rw [names_len rfl, ← tot_cnt]; exact ht)
  have h2 : ¬ freeF (fsD R v false N P) < (n : Int) := by
    show ¬ (if false = true then (0 : Int) else if 0 < R - ((totF N).2 : Int) then R - ((totF N).2 : Int) else 0) < (n : Int); rw [if_neg (by simp), if_pos (by omega)]; omega
  exact lastR_3 rfl h2 rfl (by omega)
theorem room_fs {n : Nat} {S : List (List SNd × List SCh)} (h0 : 0 < n) (hr : ((totF (dropN L)).2 : Int) + n ≤ R) (ht : (totF (dropN L)).1 < 24) (hS : (L, []) ∈ S) : Ch R u S (dropN L) (dropP L) (roomR (fsD R u false L []) n) := by
  refine (room_on (x := false) rfl (by simp) rfl : roomR (fsD R u false L []) n = _) ▸ ?_
  have hp : Ch R u S (dropN L) (dropP L) (preR (fsD R u false L [])) := by
    unfold dropN dropP
    cases hf : findN L sN with
    | none =>
      have hl : lenF (fsD R u false L []).off (fsD R u false L []).nodes sN = (0, 16) := by
        unfold lenF; rw [gtF_none (f := fsD R u false L []) rfl sN_ok hf]; rfl
      rw [preR_n hl (by decide)]; exact .inl ⟨rfl, u, rfl, fun h => h⟩
    | some y =>
      have hl : lenF (fsD R u false L []).off (fsD R u false L []).nodes sN = (y.fl.b.length, 0) := lenF_in (gtF_hit (f := fsD R u false L []) rfl sN_ok hf) rfl; rw [preR_d hl rfl]; rcases drop_fs (R := R) (u := u) (p := []) hf (show dropR (fsD R u false L []) sN = ((dropR (fsD R u false L []) sN).1, (dropR (fsD R u false L []) sN).2) from rfl) with ⟨k0, x, hx, hxu⟩ | ⟨k0, kv, hx⟩
      · exact .inl ⟨k0, x, hx, hxu⟩
      · exact .inr ⟨k0, by omega, L, [], by rw [hx, kv], hS⟩
  rcases hp with ⟨h0', v, hv, hu⟩ | ⟨h0', h1, h2⟩
  · have e : stepR (preR (fsD R u false L [])) (lastR n) = (0, fsD R v false (dropN L) (dropP L)) := by unfold stepR; rw [if_pos h0', hv, last_fs h0 hr ht]
    rw [e]; exact .inl ⟨rfl, v, rfl, hu⟩
  · rw [stepR_pass (by omega)]; exact .inr ⟨h0', h1, h2⟩
theorem save_fs (hN : findN (dropN L) sN = none) (ht : (totF (dropN L)).1 < 24) (hr : ((totF (dropN L)).2 : Int) + B.length ≤ R) (h0 : B.length ≠ 0) (h1 : B.length ≤ 32768) (hB : recB r = B) (hg : rightM r.marks = true)
    (hi : NewI (fsD R u false L []) r i j) (e : saveR (fsD R u false L []) r i j q = (c, m)) :
    Ch R u (Stg L B i j q) ((killF (dropN L) ++ [nw i sF q ⟨B, B⟩]).filter (·.no.there)) [] (c, m) := by
  have hroom := room_fs (u := u) (L := L) (R := R) (n := B.length) (S := Stg L B i j q) (by omega) hr ht (by simp [Stg])
  have e' : saveR (fsD R u false L []) r i j q = stepR (stepR (stepR (stepR (stepR (roomR (fsD R u false L []) B.length) (fun m => makeR m sN i j)) (fun m => writeR m sN 0 B q)) (fun m => syncR m sN)) (fun m => renameR m sN sF)) syncDirR := by
    unfold saveR; rw [if_neg (by rw [hg]; simp), hB]
  rw [← e, e']
  have hmake : Ch R u (Stg L B i j q) (dropN L ++ [nw i sN j ⟨[], []⟩]) (dropP L ++ [⟨0, i, [], none⟩]) (stepR (roomR (fsD R u false L []) B.length) (fun m => makeR m sN i j)) :=
    hroom.step (fun v c m e => make_fs hN ht e) (by simp [Stg])
  by_cases hni : i ∈ (dropN L).map (·.id)
  · -- then no call came behind Make
    have hmf : (stepR (roomR (fsD R u false L []) B.length) (fun m => makeR m sN i j)).1 ≠ 0 := by
      unfold NewI at hi; rw [hB] at hi; rcases hi with hi | hi | hi
      · rw [stepR_pass hi]; exact hi
      · unfold stepR; split
        · exact hi
        · rename_i hh; exact hh
      · rcases hroom with ⟨_, v, hv, _⟩ | ⟨h18, _⟩
        · rw [hv] at hi; exact absurd hni hi
        · rw [stepR_pass (by omega)]; omega
    rw [stepR_pass (a := stepR _ (fun m => makeR m sN i j)) hmf, stepR_pass hmf, stepR_pass hmf, stepR_pass hmf]; rcases hmake with ⟨hz, _⟩ | hz
    · exact absurd hz hmf
    · exact .inr hz
  · have fN : ∀ j d, findN (dropN L ++ [nw i sN j d]) sN = some (nw i sN j d) := fun j d => by rw [findN_app, hN]; exact if_pos ⟨rfl, rfl⟩
    have fF : ∀ j d, findN (dropN L ++ [nw i sN j d]) sF = findN (dropN L) sF := fun j d => by
      rw [findN_app]
      cases findN (dropN L) sF with
      | some y => rfl
      | none => exact if_neg fun h => sNF h.2
    have hw := hmake.step (g := fun m => writeR m sN 0 B q) (fun v c m e => write_fs (fN j ⟨[], []⟩) rfl h0 h1 (by rw [totF_app, if_pos (show (nw i sN j ⟨[], []⟩).no.there = true from rfl)]; show (((totF (dropN L)).2 + 0 : Nat) : Int) + _ ≤ _; omega) e) (by simp [Stg]); rw [show (nw i sN j ⟨[], []⟩).id = i from rfl, show updN (dropN L ++ [nw i sN j ⟨[], []⟩]) i (fun z => { z with no := { z.no with fid := q }, fl := ⟨B, []⟩ }) = dropN L ++ [nw i sN q ⟨B, []⟩] from updN_app (x := nw i sN j ⟨[], []⟩) hni] at hw; have hs := hw.step (g := fun m => syncR m sN) (fun v c m e => sync_fs (fN q ⟨B, []⟩) e) (by simp [Stg]); rw [show (nw i sN q ⟨B, []⟩).id = i from rfl, show updN (dropN L ++ [nw i sN q ⟨B, []⟩]) i (fun z => { z with fl := ⟨(nw i sN q ⟨B, []⟩).fl.b, (nw i sN q ⟨B, []⟩).fl.b⟩ }) = dropN L ++ [nw i sN q ⟨B, B⟩] from updN_app (x := nw i sN q ⟨B, []⟩) hni] at hs
    have hk : killF (dropN L ++ [nw i sN q ⟨B, B⟩]) = killF (dropN L) ++ [nw i sN q ⟨B, B⟩] := by
      unfold killF; rw [fF]
      cases hf : findN (dropN L) sF with
      | none => rfl
      | some y => exact updN_app' (x := nw i sN q ⟨B, B⟩) fun e => hni (by rw [show i = y.id from e]; exact findN_id hf)
    have hkid : (killF (dropN L)).map (·.id) = (dropN L).map (·.id) := by
      unfold killF
      cases findN (dropN L) sF with
      | none => rfl
      | some y => exact updN_ids fun _ => rfl
    have hr := hs.step (g := fun m => renameR m sN sF) (fun v c m e => ren_fs (fN q ⟨B, B⟩) (by
      rw [fF]; intro hh
      cases hf : findN (dropN L) sF with
      | none => rw [hf] at hh; cases hh
      | some y => rw [hf] at hh; simp only [Option.map_some, Option.some.injEq] at hh; exact hni (by rw [show i = y.id from hh.symm]; exact findN_id hf)) e) (by simp [Stg])
    rw [show (nw i sN q ⟨B, B⟩).id = i from rfl, hk, fF, show updN (killF (dropN L) ++ [nw i sN q ⟨B, B⟩]) i (fun z => { z with no := { z.no with nm := sF } }) = killF (dropN L) ++ [nw i sF q ⟨B, B⟩] from updN_app (x := nw i sN q ⟨B, B⟩) (by rw [hkid]; exact hni)] at hr; exact hr.step (g := syncDirR) (fun v c m e => dir_fs e) (by simp [Stg])
end

end Go.Proofs.Ytcaokfendkkafaa
namespace Go.Proofs.Ytcaokfendkkafaa
open Go Go.Wk Go.RowKit
set_option linter.unusedVariables false
set_option linter.unusedSimpArgs false
attribute [local irreducible] wpList wpQuiet wpStill wpMix Code.wp Calls bodyPost
theorem fn41 : isFn Try.prog 41 = true := by kernel_rfl
theorem fn42 : isFn Try.prog 42 = true := by kernel_rfl

/-! ## loaded again -/
theorem load_has {f : SFs} {x : SNd} {r : CRec} (ho : f.off = false) (hx : findN f.nodes sF = some x) (hb : x.fl.b = recB r) (hm : ∀ m ∈ r.marks, Mark.ok m) (he : r.epoch < 18446744073709551616) (hr : rightM r.marks = true) : loadR f = (r, 0) := by
  refine load_r (x := recB r) (c := 0) ?_ rfl (rec_rt hm he hr); rw [ho]; rw [← hb]; exact allF_in ⟨may_ok sF_ok, hx⟩ rfl
theorem load_none {f : SFs} (ho : f.off = false) (hx : findN f.nodes sF = none) : loadR f = (⟨0, []⟩, 16) := by
  refine load_c (x := []) (c := 16) ?_ (by decide); have h := gtF_none ho sF_ok hx; rw [ho] at h; rw [ho]; unfold allF; rw [h]; rfl
/-- A record that may stand in a file. -/
def GoodR (r : CRec) : Prop := (∀ m ∈ r.marks, Mark.ok m) ∧ r.epoch < 18446744073709551616 ∧ rightM r.marks = true
theorem GoodR.len {r : CRec} (h : GoodR r) : 17 ≤ (recB r).length ∧ (recB r).length ≤ 177 := by
  have := recB_len h.1 h.2.2; omega
theorem goodR_0 {e : Nat} (h : e < 18446744073709551616) : GoodR ⟨e, []⟩ := ⟨by simp, h, rfl⟩
/-- Nothing but what was saved last, or not even that. -/
def OneF (L : List SNd) (o : Option CRec) : Prop := (o = none ∧ L = []) ∨ ∃ r i q, o = some r ∧ GoodR r ∧ L = [nw i sF q ⟨recB r, recB r⟩]
theorem OneF.cases {L : List SNd} {o : Option CRec} (h : OneF L o) : dropN L = L ∧ dropP L = [] ∧ findN (dropN L) sN = none ∧ (totF (dropN L)).1 < 24 ∧ (totF (dropN L)).2 ≤ 177 ∧ (killF (dropN L)).filter (·.no.there) = [] := by
  rcases h with ⟨_, rfl⟩ | ⟨r, i, q, _, hg, rfl⟩
  · exact ⟨rfl, rfl, rfl, by decide, by decide, rfl⟩
  · have hn : findN [nw i sF q ⟨recB r, recB r⟩] sN = none := if_neg fun h => sNF h.2.symm
    have hd : dropN [nw i sF q ⟨recB r, recB r⟩] = [nw i sF q ⟨recB r, recB r⟩] := (by unfold dropN; rw [hn]); have hp : dropP [nw i sF q ⟨recB r, recB r⟩] = [] := (by unfold dropP; rw [hn]); have hf : findN [nw i sF q ⟨recB r, recB r⟩] sF = some (nw i sF q ⟨recB r, recB r⟩) := if_pos ⟨rfl, rfl⟩; refine ⟨hd, hp, by rw [hd]; exact hn, by rw [hd]; show 0 + 1 < 24; omega, ?_, ?_⟩
    · rw [hd]; show 0 + (recB r).length ≤ 177; have := hg.len; omega
    · rw [hd]; unfold killF; rw [hf]; simp [updN, nw]
theorem one_save {R u : Int} {L : List SNd} {o : Option CRec} {r : CRec} {i j q c : Nat} {m : SFs} (h : OneF L o) (hR : 354 ≤ R) (hg : GoodR r) (hi : rightM r.marks = true → NewI (fsD R u false L []) r i j) (e : saveR (fsD R u false L []) r i j q = (c, m)) :
    Ch R u (Stg L (recB r) i j q) [nw i sF q ⟨recB r, recB r⟩] [] (c, m) := by
  obtain ⟨h1, h2, h3, h4, h5, h6⟩ := h.cases; have hl := hg.len; have := save_fs h3 h4 (by omega) (by omega) (by omega) rfl hg.2.2 (hi hg.2.2) e; rw [List.filter_append, h6] at this; exact this
theorem one_free {R : Int} {L : List SNd} {o : Option CRec} {r : CRec} {i j q c : Nat} {m : SFs} (h : OneF L o) (hR : 354 ≤ R) (hg : GoodR r) (hi : rightM r.marks = true → NewI (fsD R (-1) false L []) r i j) (e : saveR (fsD R (-1) false L []) r i j q = (c, m)) :
    c = 0 ∧ m = fsD R (-1) false [nw i sF q ⟨recB r, recB r⟩] [] := by
  rcases one_save h hR hg hi e with ⟨h0, v, hv, hu⟩ | ⟨_, hu, _⟩
  · exact ⟨h0, by rw [hu rfl] at hv; exact hv⟩
  · exact absurd rfl hu
theorem OneF.load {R u : Int} {L : List SNd} {p : List SCh} {r : CRec} (h : OneF L (some r)) : loadR (fsD R u false L p) = (r, 0) := by
  rcases h with ⟨h, _⟩ | ⟨r', i, q, h, hg, rfl⟩
  · cases h
  · cases h
    exact load_has rfl (if_pos ⟨rfl, rfl⟩) rfl hg.1 hg.2.1 hg.2.2
theorem OneF.load0 {R u : Int} {L : List SNd} {p : List SCh} (h : OneF L none) : loadR (fsD R u false L p) = (⟨0, []⟩, 16) := by
  rcases h with ⟨_, rfl⟩ | ⟨r', i, q, h, _⟩
  · exact load_none rfl rfl
  · cases h

set_option maxRecDepth 100000 in
theorem kFirst_any {w : World} {Q : Nat → Prop} (uQ : Up w Q)  :
    Calls Try.prog 32 #[] w fun en w' => ∃ r0 : Bool, en = .returned (.bool r0) ∧ Md [] w w' ∧ true = r0 := by
  have M := Md.refl [] w; have uQ0 := uQ; have tQ : ∀ b, Q b → Q b := fun _ h => h; have sQ0 : ∀ b, Q b → b < w.heap.size → Q b := fun _ h _ => h; refine enter (n := 28) Try.func32 rfl rfl rfl ?_; intro B; refine ns ?_; refine asg rfl ?_; refine nt ?_; refine ns ?_; refine st_call fn13 rfl (oNew uQ (4096) (by omega) (by first | omega | (simp <;> omega)) (by first | omega | (simp <;> omega))) ?_; rintro en w1 ⟨bFO1, fpFO1, Q2, rfl, hm, ⟨sQ, sT, uQ2⟩, hfp1, FO1⟩; refine ⟨_, rfl, ?_⟩; have r_FO1 : ∀ x ∈ fpFO1, Fsh [] w x := fun x hx => Fsh.new M x (hfp1 x hx); replace tQ := fun b hb => tQ b (sT b hb); replace sQ0 := fun b hb hl => sQ b (sQ0 b hb hl) (Nat.lt_of_lt_of_le hl M.size); replace uQ := uQ.md hm; replace M := M.step0 hm; clear uQ; have uQ := uQ2; clear uQ2 sQ sT; refine mv rfl ?_; refine st _ (r_extract rfl rfl) ?_; refine st _ (r_extract rfl rfl) ?_; refine asg rfl ?_; refine asg rfl ?_; refine nt ?_; refine c_seq ?_; refine ns ?_; refine mv rfl ?_; refine st _ (r_neN (a := 0) (b := 0) rfl rfl) ?_; refine mv rfl ?_; refine part_n (t := 11) rfl (fun h11 => ?_) (fun h11 => ?_)
  · (first | (have h11n := of_decide_eq_true h11) | (have h11n := of_decide_eq_false (bnt h11)) | (have h11n := bnt h11) | (have h11n := h11)); exfalso; simp at h11
  · (first | (have h11n := of_decide_eq_false h11) | (have h11n := of_decide_eq_true (bnf h11)) | (have h11n := bnf h11) | (have h11n := h11)); refine st_g _ rfl rfl rfl h11 (r_move rfl) ?_; refine st_g _ rfl rfl rfl h11 (r_eqlPN rfl u23) ?_; refine st _ (r_pick_f rfl h11 rfl) ?_; refine nt ?_; refine c_if_f rfl rfl ?_; refine c_skip ?_; refine c_then ?_; refine ns ?_; refine mv rfl ?_; refine st_call fn42 rfl (kLoad_any uQ FO1 (by first | omega | (simp <;> omega) | (simp at * <;> omega))) ?_; rintro en w3 ⟨v3_0_0, x3_0, x3_1, rfl, hm, q3_0_0, h3_0_1, q3_1, hF3⟩; refine ⟨_, rfl, ?_⟩; replace FO1 := FO1.md0 hm; replace uQ := uQ.md hm; replace M := M.step0 hm; have l0 := OneF.load0 (R := 4096) (u := -1) (p := []) (.inl ⟨rfl, rfl⟩); rw [show fsD 4096 (-1) false [] [] = ({ room := (4096), fuse := -1, off := false, nodes := [], pend := [] }) from rfl, hF3] at l0; obtain ⟨l1, l2⟩ := Prod.mk.inj l0; refine mv rfl ?_; refine st _ (r_extract rfl rfl) ?_; refine st _ (r_extract rfl rfl) ?_; refine st_alloc z54 ?_; intro ba3 w4 ga3 la3 hm ha3; have nf_ha3_FO1 : ba3 ∉ fpFO1 := fun hx => by have := (FO1.lt _ hx).1; omega
    obtain ⟨Q5, sQ, sT, n_ha3, uQ2⟩ := exQ uQ ga3 la3 hm; replace FO1 := FO1.sub sQ sT; replace h3_0_1 := h3_0_1.sub sQ; replace tQ := fun b hb => tQ b (sT b hb); replace sQ0 := fun b hb hl => sQ b (sQ0 b hb hl) (Nat.lt_of_lt_of_le hl M.size); replace ga3 := Nat.le_trans M.size ga3; replace FO1 := FO1.md0 hm; replace h3_0_1 := h3_0_1.md0 hm; replace uQ := uQ.md hm; replace M := M.step0 hm; clear uQ; have uQ := uQ2; clear uQ2 sQ sT; have p_ha3 : Fsh [] w ba3 := .inr ga3; replace ha3 : Blk _ _ (CRec.cells (({ epoch := 0, marks := [] } : CRec)) (.slice none 0 0)) _ := ha3; have okz6 : CRec.ok (({ epoch := 0, marks := [] } : CRec)) := (by first | exact (by decide) | exact (by first | assumption | exact (show (({ epoch := 0, marks := [] } : CRec)).epoch < 18446744073709551616 from (by first | omega | (simp <;> omega) | simp_all)))); refine st_storeAgg (us := (CRec.cells x3_0 v3_0_0)) rfl rfl (by exact agg54) (by first | exact fun u hu => one_cells (CRec.one h3_0_1.oneCell) u hu | exact fun u hu => one_cells rfl u hu) ha3 (Nat.le_of_ble_eq_true rfl) ?_; have ha30 := ha3; clear ha3; intro w7 hm ha3; have hS : ∀ b ∈ [ba3], ¬ Q5 b := (by intro b hb; simp at hb; subst hb; exact n_ha3); replace FO1 := FO1.md hm (fun x hx => by rw [List.mem_singleton]; rintro rfl; exact nf_ha3_FO1 hx) hS; replace h3_0_1 := h3_0_1.md hm hS; replace uQ := uQ.md hm; replace M := M.step hm (all_cons p_ha3 all_nil); clear ha30 hS; replace ha3 : Blk _ _ (CRec.cells x3_0 v3_0_0) _ := ha3; refine asg rfl ?_; refine nt ?_; refine ns ?_; refine mv rfl ?_; refine st _ (r_eqN (a := x3_1) (b := 16) rfl rfl) ?_; refine mv rfl ?_; refine part_n (t := 22) rfl (fun h22 => ?_) (fun h22 => ?_)
    · (first | (have h22n := of_decide_eq_true h22) | (have h22n := of_decide_eq_false (bnt h22)) | (have h22n := bnt h22) | (have h22n := h22)); refine st_g _ rfl rfl rfl h22 (r_move rfl) ?_; refine st_g _ rfl rfl rfl h22 (r_buildG (us := [[(.int .u64 ((3 : Nat) : Int))]]) (cs := (CRec.cells (({ epoch := 3, marks := [] } : CRec)) (.slice none 0 0))) [(0, 0, 1)] z54 pl54 rfl rfl ⟨rfl, trivial⟩ ⟨rfl, trivial⟩ rfl rfl) ?_; refine st_call_g rfl rfl rfl h22 fn41 rfl (kSave_any uQ FO1 (({ epoch := 3, marks := [] } : CRec)) (by first | assumption | exact (show (({ epoch := 3, marks := [] } : CRec)).epoch < 18446744073709551616 from (by first | omega | (simp <;> omega) | simp_all))) (Ls.nil _ _ _) (by first | omega | (simp <;> omega) | (simp at * <;> omega))) ?_; rintro en w8 ⟨x8_0, rfl, q8_0, m8, fp8, Q9, hm, ⟨sQ, sT, uQ2⟩, hfp, GFO1, hF8⟩; refine ⟨_, rfl, ?_⟩; have hS : ∀ b ∈ fpFO1, ¬ Q9 b := fun b hb hq => (FO1.lt b hb).2 (sT b hq); replace h3_0_1 := (h3_0_1.sub sQ).md hm hS; have nf9 : ba3 ∉ fp8 := fun h => (hfp _ h).elim nf_ha3_FO1 (fun h => by have := ha3.lt; omega); replace n_ha3 := fun hh => n_ha3 (sT _ hh); replace ha3 := ha3.md hm nf_ha3_FO1; clear nf_ha3_FO1; have nf_ha3_FO1 := nf9; clear nf9; have r9 : ∀ x ∈ fp8, Fsh [] w x := fun x hx => (hfp x hx).elim (r_FO1 x) (Fsh.new M x); replace tQ := fun b hb => tQ b (sT b hb); replace sQ0 := fun b hb hl => sQ b (sQ0 b hb hl) (Nat.lt_of_lt_of_le hl M.size); replace M := M.step hm r_FO1; clear uQ r_FO1 FO1; have uQ := uQ2; have r_FO1 := r9; have FO1 := GFO1; clear uQ2 r9 GFO1 sQ sT hS hfp hm; replace FO1 : FsO (7) _ _ _ _ _ := FO1; obtain ⟨i9, j9, q9, n9, e9⟩ := hF8; obtain ⟨z9, _⟩ := one_free (R := 4096) (r := ⟨3, []⟩) (.inl ⟨rfl, rfl⟩) (by omega) (goodR_0 (by decide)) n9 e9; refine st_g _ rfl rfl rfl h22 (r_eqN (a := x8_0) (b := 0) rfl rfl) ?_; refine st _ (r_pick_t rfl h22 rfl) ?_; refine asg rfl ?_; refine nt ?_; refine c_ret ?_; exact ret1L (v := (.bool ((decide (x8_0 = 0))))) trivial rfl ⟨rfl, trivial⟩ ⟨(decide (x8_0 = 0)), rfl, M, (decide_eq_true (by omega)).symm⟩
    · (first | (have h22n := of_decide_eq_false h22) | (have h22n := of_decide_eq_true (bnf h22)) | (have h22n := bnf h22) | (have h22n := h22)); exfalso; omega
end Go.Proofs.Ytcaokfendkkafaa
namespace Go.Proofs.Ytcaokfendkkafaa
open Go Go.Wk Go.RowKit
set_option linter.unusedVariables false
set_option linter.unusedSimpArgs false
attribute [local irreducible] wpList wpQuiet wpStill wpMix Code.wp Calls bodyPost
theorem agg116 : isAggN Try.prog 116 16 = true := by kernel_rfl
theorem off113_0 : fieldOff Try.prog 113 0 = some 0 := by kernel_rfl
theorem off113_1 : fieldOff Try.prog 113 1 = some 1 := by kernel_rfl
theorem one66 : isOne Try.prog 66 = true := by kernel_rfl
theorem z116 : zcells Try.prog 116 = some [.int .u8 0, .int .u8 0, .int .u8 0, .int .u8 0, .int .u8 0, .int .u8 0, .int .u8 0, .int .u8 0, .int .u8 0, .int .u8 0, .int .u8 0, .int .u8 0, .int .u8 0, .int .u8 0, .int .u8 0, .int .u8 0] := by kernel_rfl

theorem kN_any {w : World} {Q : Nat → Prop} (uQ : Up w Q) {b0 : Nat} {v0_0 : Value} (s : Sq) (h0 : Blk w b0 (Sq.cells s v0_0) 113) (n0 : ¬ Q b0) (a0_0 : Sq.ok s) (a0_1 : Ls tInt w Q v0_0 s.l) (n : Nat) (a1 : n < 9223372036854775808) (p0 : n ≤ 1000000) :
    Calls Try.prog 79 #[.pointer (some ⟨b0, 0, none⟩), (.int .i64 ((n : Nat) : Int))] w fun en w' => ∃ r0 : Nat, ∃ m0 : Sq, ∃ u50_0 : Value, en = .returned (.int .i64 ((r0 : Nat) : Int)) ∧ Md [b0] w w' ∧ r0 < 9223372036854775808 ∧ Blk w' b0 (Sq.cells m0 u50_0) 113 ∧ ¬ Q b0 ∧ Sq.ok m0 ∧ Ls tInt w' Q u50_0 m0.l ∧ s.num n = (r0, m0) := by
  have L0 := a0_1.len63; have n_h0 := n0; have p_h0 : Fsh [b0] w b0 := .inl (by simp); have M := Md.refl [b0] w; have uQ0 := uQ; have tQ : ∀ b, Q b → Q b := fun _ h => h; have sQ0 : ∀ b, Q b → b < w.heap.size → Q b := fun _ h _ => h; refine enter (n := 35) Try.func79 rfl rfl rfl ?_; intro B; refine ns ?_; refine asg rfl ?_; refine nt ?_; refine c_seq ?_; refine c_seq ?_; have a0_1_q := a0_1; have h0_q := h0; refine c_mixT [(0, true), (1, true), (2, true), (3, true), (4, true), (5, true), (6, true), (7, true), (8, true)] [9] (fun w' => Md [] w w') mixed (by kernel_rfl) ?_; intro w1 hd0; refine ⟨hd0.mono (by simp), ?_⟩; have MC := hd0.mono (T := []) (by simp); refine Go.Wk.m _ (fun w' hc => r_move rfl) ?_; refine Go.Wk.m _ (fun w' hc => r_nil rfl) ?_; refine Go.Wk.m _ (fun w' hc => r_field rfl off113_1) ?_; refine Go.Wk.m _ (fun w' hc => (r_loadBlk rfl one3 (h0_q.md0 hc) rfl).to (b := (.int .i64 ((s.pos : Nat) : Int))) rfl) ?_; have q2 : s.pos < 9223372036854775808 := a0_0; refine Go.Wk.m _ (fun w' hc => r_move rfl) ?_; refine Go.Wk.m _ (fun w' hc => r_nil rfl) ?_; refine Go.Wk.m _ (fun w' hc => r_field rfl off113_0) ?_; refine Go.Wk.m _ (fun w' hc => (r_loadBlk rfl one66 (h0_q.md0 hc) rfl).to (b := v0_0) rfl) ?_; refine Go.Wk.m _ (fun w' hc => r_len rfl u66 a0_1.shp) ?_; refine m_nil ?_; replace a0_1 := a0_1.md0 hd0; replace h0 := h0.md0 hd0; replace uQ := uQ.md hd0; replace M := M.step0 hd0; clear h0_q a0_1_q; clear MC; refine st _ (r_geN (a := s.pos) (b := s.l.length) rfl rfl) ?_; refine nt ?_; refine c_if rfl (fun h14 => ?_) (fun h14 => ?_)
  · (first | (have h14n := of_decide_eq_true h14) | (have h14n := of_decide_eq_false (bnt h14)) | (have h14n := bnt h14) | (have h14n := h14)); refine ns ?_; refine asg rfl ?_; refine nt ?_; refine c_ret ?_; refine r_then ?_; exact ret1L (v := (.int .i64 ((0 : Nat) : Int))) trivial rfl ⟨rfl, trivial⟩ ⟨0, s, _, rfl, M, (by first | assumption | omega | simp_all), h0, n0, a0_0, (a0_1.sub (fun b hb _ => tQ b hb)), (by rw [Sq.num] <;> simp (disch := first | omega | assumption | (simp; done) | fail) only [if_pos, if_neg, Option.getD_some, Option.some.injEq, reduceIte, Bool.false_eq_true, Bool.true_eq_false, decide_true, decide_false, not_true_eq_false, not_false_eq_true, h14n])⟩
  · (first | (have h14n := of_decide_eq_false h14) | (have h14n := of_decide_eq_true (bnf h14)) | (have h14n := bnf h14) | (have h14n := h14)); refine c_skip ?_; refine c_then ?_; refine ns ?_; refine mv rfl ?_; refine st _ (r_nil rfl) ?_; refine st _ (r_field rfl off113_1) ?_; refine st _ ((r_loadBlk rfl one3 h0 rfl).to (b := (.int .i64 ((s.pos : Nat) : Int))) rfl) ?_; refine st _ (r_addN (a := s.pos) (b := 1) 9223372036854775808 rfl rfl rfl (by omega)) ?_; refine st _ (r_nil rfl) ?_; refine st _ (r_field rfl off113_1) ?_; refine st_store rfl rfl one3 rfl h0 (Nat.le_of_ble_eq_true rfl) ?_; have h00 := h0; clear h0; intro w3 hm h0; have hS : ∀ b ∈ [b0], ¬ Q b := (by intro b hb; simp at hb; subst hb; exact n_h0); replace a0_1 := a0_1.md hm hS; replace uQ := uQ.md hm; replace M := M.step hm (all_cons p_h0 all_nil); clear h00 hS; obtain ⟨s4, es4⟩ : ∃ y, y = ({ s with pos := s.pos + 1 } : Sq) := ⟨_, rfl⟩; replace h0 : Blk _ _ (Sq.cells ({ s with pos := s.pos + 1 }) v0_0) _ := h0; rw [← es4] at h0; have oks4 : Sq.ok s4 := (by rw [es4]; exact (by unfold Sq.ok; first | exact (by first | omega | assumption | (simp <;> omega) | simp_all) | (simp only; omega))); rw [show s.l = s4.l by rw [es4]] at a0_1; refine nt ?_; refine c_seq ?_; have a0_1_q := a0_1; have h0_q := h0; refine c_mixT [(0, true), (1, true), (2, true), (3, true), (4, true), (5, true), (6, true), (7, true), (8, true), (9, true), (10, true), (11, true)] [12, 13] (fun w' => Md [] w3 w') mixed (by kernel_rfl) ?_; intro w5 hd0; refine ⟨hd0.mono (by simp), ?_⟩; have MC := hd0.mono (T := []) (by simp); have z1 : s4.pos = s.pos + 1 := (by rw [es4]); have z2 : s4.l = s.l := (by rw [es4]); have z3 : s4.l.length = s.l.length := (by rw [es4]); refine Go.Wk.m _ (fun w' hc => r_move rfl) ?_; refine Go.Wk.m _ (fun w' hc => r_nil rfl) ?_; refine Go.Wk.m _ (fun w' hc => r_field rfl off113_0) ?_; refine Go.Wk.m _ (fun w' hc => (r_loadBlk rfl one66 (h0_q.md0 hc) rfl).to (b := v0_0) rfl) ?_; refine Go.Wk.m _ (fun w' hc => r_move rfl) ?_; refine Go.Wk.m _ (fun w' hc => r_nil rfl) ?_; refine Go.Wk.m _ (fun w' hc => r_field rfl off113_1) ?_; refine Go.Wk.m _ (fun w' hc => (r_loadBlk rfl one3 (h0_q.md0 hc) rfl).to (b := (.int .i64 ((s4.pos : Nat) : Int))) rfl) ?_; have q6 : s4.pos < 9223372036854775808 := oks4; refine Go.Wk.m _ (fun w' hc => r_subN (a := s4.pos) (b := 1) 9223372036854775808 rfl rfl rfl (by omega)) ?_; refine Go.Wk.m _ (fun w' hc => r_indexN (i := s4.pos - 1) 1 rfl rfl u66 el3 a0_1.shp (by omega)) ?_
    obtain ⟨x7, hx7⟩ := getE (l := s4.l) (i := s4.pos - 1) (by first | omega | (simp <;> omega)); obtain ⟨c8, hr7, ha7⟩ := a0_1_q.get hx7; obtain ⟨rfl, hr7b⟩ := hr7; replace ha7 : At _ v0_0 ((s4.pos - 1) * 1) [(.int .i64 (x7 : Int))] := ha7; refine Go.Wk.m _ (fun w' hc => (r_loadE (kk := (s4.pos - 1) * 1) 0 rfl rfl one3 (ha7.md0 hc) rfl).to (b := (.int .i64 (x7 : Int))) rfl) ?_; refine Go.Wk.m _ (fun w' hc => r_move rfl) ?_; refine m_nil ?_; replace a0_1 := a0_1.md0 hd0; replace h0 := h0.md0 hd0; replace uQ := uQ.md hd0; replace M := M.step0 hd0; clear h0_q a0_1_q; clear MC
    have gx : s.l.getD s.pos 0 = x7 := by
      have hh := hx7; rw [z2, z1, Nat.add_sub_cancel] at hh; simp [List.getD, hh]
    refine st_call fn14 rfl (kNumber_any uQ (x7) (by omega) n (by first | omega | (simp <;> omega)) (by first | omega | (simp <;> omega) | (simp at * <;> omega))) ?_; rintro en w9 ⟨x9_0, rfl, hm, q9_0, hF9⟩; refine ⟨_, rfl, ?_⟩; replace a0_1 := a0_1.md0 hm; replace h0 := h0.md0 hm; replace uQ := uQ.md hm; replace M := M.step0 hm; have a9_0 := numF_lt x7 n; rw [hF9] at a9_0; try simp only [List.length_cons, List.length_nil, List.length_append, List.length_replicate, Nat.zero_add, Nat.reduceAdd, Nat.reduceMul] at a9_0
    refine asg rfl ?_; refine st_nil ?_; clear ha7; refine c_then ?_; refine c_ret ?_; exact ret1L (v := (.int .i64 ((x9_0 : Nat) : Int))) trivial rfl ⟨rfl, trivial⟩ ⟨x9_0, s4, _, rfl, M, (by first | assumption | omega | simp_all), h0, n0, oks4, (a0_1.sub (fun b hb _ => tQ b hb)), (by (try simp only [es4] at hF9); rw [Sq.num] <;> simp (disch := first | omega | assumption | (simp; done) | fail) only [if_pos, if_neg, Option.getD_some, Option.some.injEq, reduceIte, Bool.false_eq_true, Bool.true_eq_false, decide_true, decide_false, not_true_eq_false, not_false_eq_true, h14n, es4, hx7, gx, hF9])⟩
theorem kID_any {w : World} {Q : Nat → Prop} (uQ : Up w Q) (k : Int) (a0 : (-9223372036854775808 ≤ k ∧ k < 9223372036854775808)) :
    Calls Try.prog 80 #[(.int .i64 (k : Int))] w fun en w' => ∃ r0 : List UInt8, en = .returned (.agg (idc r0).toArray) ∧ Md [] w w' ∧ r0.length = 16 ∧ idF k = r0 := by
  have M := Md.refl [] w; have uQ0 := uQ; have tQ : ∀ b, Q b → Q b := fun _ h => h; have sQ0 : ∀ b, Q b → b < w.heap.size → Q b := fun _ h _ => h; refine enter (n := 10) Try.func80 rfl rfl rfl ?_; intro B; refine ns ?_; refine st_alloc z116 ?_; intro ba2 w1 ga2 la2 hm ha2; obtain ⟨Q2, sQ, sT, n_ha2, uQ2⟩ := exQ uQ ga2 la2 hm; replace tQ := fun b hb => tQ b (sT b hb); replace sQ0 := fun b hb hl => sQ b (sQ0 b hb hl) (Nat.lt_of_lt_of_le hl M.size); replace ga2 := Nat.le_trans M.size ga2; replace uQ := uQ.md hm; replace M := M.step0 hm; clear uQ; have uQ := uQ2; clear uQ2 sQ sT; have p_ha2 : Fsh [] w ba2 := .inr ga2; replace ha2 : Blk _ _ (idc idZ) _ := ha2; refine nt ?_; refine ns ?_; refine st_alloc z116 ?_; intro ba3 w3 ga3 la3 hm ha3; have eha2a3 : ba2 ≠ ba3 := (by have := ha2.lt; omega); obtain ⟨Q4, sQ, sT, n_ha3, uQ2⟩ := exQ uQ ga3 la3 hm; replace n_ha2 := fun hh => n_ha2 (sT _ hh); replace tQ := fun b hb => tQ b (sT b hb); replace sQ0 := fun b hb hl => sQ b (sQ0 b hb hl) (Nat.lt_of_lt_of_le hl M.size); replace ga3 := Nat.le_trans M.size ga3; replace ha2 := ha2.md0 hm; replace uQ := uQ.md hm; replace M := M.step0 hm; clear uQ; have uQ := uQ2; clear uQ2 sQ sT; have p_ha3 : Fsh [] w ba3 := .inr ga3; replace ha3 : Blk _ _ (idc idZ) _ := ha3; refine nt ?_; refine ns ?_; refine mv rfl ?_; refine st_call fn14 rfl (kNumber_any uQ (k) (by omega) 5 (by first | omega | (simp <;> omega)) (by first | omega | (simp <;> omega) | (simp at * <;> omega))) ?_; rintro en w5 ⟨x5_0, rfl, hm, q5_0, hF5⟩; refine ⟨_, rfl, ?_⟩; replace ha2 := ha2.md0 hm; replace ha3 := ha3.md0 hm; replace uQ := uQ.md hm; replace M := M.step0 hm; have a5_0 := numF_lt k 5; rw [hF5] at a5_0; try simp only [List.length_cons, List.length_nil, List.length_append, List.length_replicate, Nat.zero_add, Nat.reduceAdd, Nat.reduceMul] at a5_0
  refine st _ ((r_convW (a := x5_0) 256 rfl rfl (by rw [u3]; rfl) u5 rfl).to (b8_of _)) ?_; refine st _ ((r_indexArrN (i := 0) 1 rfl rfl u116 el5 (by decide))) ?_; refine st_store rfl rfl one5 rfl ha3 (Nat.le_of_ble_eq_true rfl) ?_; have ha30 := ha3; clear ha3; intro w6 hm ha3; have hS : ∀ b ∈ [ba3], ¬ Q4 b := (by intro b hb; simp at hb; subst hb; exact n_ha3); replace ha2 := ha2.md hm (by intro hb; simp at hb; omega); replace uQ := uQ.md hm; replace M := M.step hm (all_cons p_ha3 all_nil); clear ha30 hS; replace ha3 : Blk _ _ (idc (idZ.set 0 94)) _ := ha3; refine st _ ((r_indexArrN (i := 15) 1 rfl rfl u116 el5 (by decide))) ?_; refine st_store rfl rfl one5 rfl ha3 (Nat.le_of_ble_eq_true rfl) ?_; have ha30 := ha3; clear ha3; intro w7 hm ha3; have hS : ∀ b ∈ [ba3], ¬ Q4 b := (by intro b hb; simp at hb; subst hb; exact n_ha3); replace ha2 := ha2.md hm (by intro hb; simp at hb; omega); replace uQ := uQ.md hm; replace M := M.step hm (all_cons p_ha3 all_nil); clear ha30 hS; replace ha3 : Blk _ _ (idc ((idZ.set 0 94).set 15 (UInt8.ofNat x5_0))) _ := ha3; refine nt ?_; refine ns ?_; refine st _ (r_loadPart (idc ((idZ.set 0 94).set 15 (UInt8.ofNat x5_0))) rfl (by exact agg116) ha3 rfl) ?_; refine st_storeAgg (us := (idc ((idZ.set 0 94).set 15 (UInt8.ofNat x5_0)))) rfl rfl (by exact agg116) (by exact one_idc _) ha2 (Nat.le_of_ble_eq_true rfl) ?_; have ha20 := ha2; clear ha2; intro w8 hm ha2; have hS : ∀ b ∈ [ba2], ¬ Q4 b := (by intro b hb; simp at hb; subst hb; exact n_ha2); replace ha3 := ha3.md hm (by intro hb; simp at hb; omega); replace uQ := uQ.md hm; replace M := M.step hm (all_cons p_ha2 all_nil); clear ha20 hS; replace ha2 : Blk _ _ (idc ((idZ.set 0 94).set 15 (UInt8.ofNat x5_0))) _ := ha2; refine nt ?_; refine c_ret ?_; exact ret1L (v := (.agg (idc ((idZ.set 0 94).set 15 (UInt8.ofNat x5_0))).toArray)) trivial rfl ⟨⟨_, rfl, load_agg (cs := (idc ((idZ.set 0 94).set 15 (UInt8.ofNat x5_0)))) (by exact agg116) ha2⟩, trivial⟩ ⟨(idZ.set 0 94).set 15 (UInt8.ofNat x5_0), rfl, M, (by first | assumption | rfl | simp_all), (by rw [idF] <;> simp (disch := first | omega | assumption | (simp; done) | fail) only [idZ, if_pos, if_neg, Option.getD_some, Option.some.injEq, reduceIte, Bool.false_eq_true, Bool.true_eq_false, decide_true, decide_false, not_true_eq_false, not_false_eq_true, hF5])⟩
end Go.Proofs.Ytcaokfendkkafaa
namespace Go.Proofs.Ytcaokfendkkafaa
open Go Go.Wk Go.RowKit
set_option linter.unusedVariables false
set_option linter.unusedSimpArgs false
attribute [local irreducible] wpList wpQuiet wpStill wpMix Code.wp Calls bodyPost
theorem fn79 : isFn Try.prog 79 = true := by kernel_rfl
theorem fn80 : isFn Try.prog 80 = true := by kernel_rfl
theorem pl113 : bplace Try.prog 113 = some [(0, 1), (1, 1)] := by kernel_rfl
theorem pl119 : bplace Try.prog 119 = some [(0, 16), (16, 1), (17, 1), (18, 1)] := by kernel_rfl
theorem z113 : zcells Try.prog 113 = some [.slice none 0 0, .int .i64 0] := by kernel_rfl

theorem rise_snoc {m : Mark} : ∀ {l : List Mark}, riseM l = true → (∀ x ∈ l, cmpS x.id m.id < 0) → riseM (l ++ [m]) = true
  | [], _, _ => rfl
  | [a], _, h => by
    show riseM [a, m] = true; rw [riseM, decide_eq_true (h a (by simp))]; rfl
  | a :: b :: r, h, h2 => by
    have ht := rise_snoc (rise_tail h) (fun x hx => h2 x (List.mem_cons_of_mem _ hx)); rw [riseM] at h; simp only [Bool.and_eq_true] at h; rw [List.cons_append, List.cons_append, riseM, h.1, Bool.true_and]; exact ht
theorem idF_lt : ∀ i : Nat, i < 4 → ∀ j : Nat, j < i → cmpS (idF (j : Int)) (idF (i : Int)) < 0 := by decide +kernel
def SomI (r : CRec) (i : Nat) : Prop := r.epoch < 18446744073709551616 ∧ riseM r.marks = true ∧ r.marks.length ≤ i ∧ ∀ m ∈ r.marks, Mark.ok m ∧ ∃ j : Nat, j < i ∧ m.id = idF (j : Int)
theorem SomI.start {e : Nat} (h : e < 18446744073709551616) : SomI ⟨e, []⟩ 0 := ⟨h, rfl, Nat.le_refl _, by simp⟩
theorem SomI.skip {r : CRec} {i : Nat} (h : SomI r i) : SomI r (i + 1) := ⟨h.1, h.2.1, by have := h.2.2.1; omega, fun m hm => ⟨(h.2.2.2 m hm).1, by obtain ⟨j, hj, e⟩ := (h.2.2.2 m hm).2; exact ⟨j, by omega, e⟩⟩⟩
theorem SomI.put {r : CRec} {i : Nat} {m : Mark} (h : SomI r i) (hi : i < 4) (ho : Mark.ok m) (hm : m.id = idF (i : Int)) : SomI { r with marks := r.marks ++ [m] } (i + 1) := by
  refine ⟨h.1, rise_snoc h.2.1 fun x hx => ?_, by simp only [List.length_append, List.length_singleton]; have := h.2.2.1; omega, fun x hx => ?_⟩
  · obtain ⟨j, hj, e⟩ := (h.2.2.2 x hx).2
    rw [e, hm]; exact idF_lt i hi j hj
  · rcases List.mem_append.1 hx with hx | hx
    · exact ⟨(h.2.2.2 x hx).1, by obtain ⟨j, hj, e⟩ := (h.2.2.2 x hx).2; exact ⟨j, by omega, e⟩⟩
    · rw [List.mem_singleton] at hx; subst hx; exact ⟨ho, i, by omega, hm⟩
theorem SomI.good {r : CRec} {i : Nat} (h : SomI r i) (hi : i ≤ 4) : GoodR r := ⟨fun m hm => (h.2.2.2 m hm).1, h.1, by unfold rightM; rw [h.2.1, decide_eq_true (by have := h.2.2.1; omega)]; rfl⟩
set_option maxRecDepth 100000 in
theorem kSome_any {w : World} {Q : Nat → Prop} (uQ : Up w Q) {v0 : Value} {l : List Int} (h0 : Ls tInt w Q v0 l) (p0 : l.length ≤ 1000000) :
    Calls Try.prog 40 #[v0] w fun en w' => ∃ u0_0 : Value, ∃ r0 : CRec, en = .returned (.agg (CRec.cells r0 u0_0).toArray) ∧ Md [] w w' ∧ CRec.ok r0 ∧ Ls tMark w' Q u0_0 r0.marks ∧ (GoodR r0) := by
  have L0 := h0.len63; have M := Md.refl [] w; have uQ0 := uQ; have tQ : ∀ b, Q b → Q b := fun _ h => h; have sQ0 : ∀ b, Q b → b < w.heap.size → Q b := fun _ h _ => h; refine enter (n := 38) Try.func40 rfl rfl rfl ?_; intro B; refine ns ?_; refine st_alloc z54 ?_; intro ba2 w1 ga2 la2 hm ha2; obtain ⟨Q2, sQ, sT, n_ha2, uQ2⟩ := exQ uQ ga2 la2 hm; replace h0 := h0.sub sQ; replace tQ := fun b hb => tQ b (sT b hb); replace sQ0 := fun b hb hl => sQ b (sQ0 b hb hl) (Nat.lt_of_lt_of_le hl M.size); replace ga2 := Nat.le_trans M.size ga2; replace h0 := h0.md0 hm; replace uQ := uQ.md hm; replace M := M.step0 hm; clear uQ; have uQ := uQ2; clear uQ2 sQ sT; have p_ha2 : Fsh [] w ba2 := .inr ga2; replace ha2 : Blk _ _ (CRec.cells (({ epoch := 0, marks := [] } : CRec)) (.slice none 0 0)) _ := ha2; have okz3 : CRec.ok (({ epoch := 0, marks := [] } : CRec)) := (by first | exact (by decide) | exact (by first | assumption | exact (show (({ epoch := 0, marks := [] } : CRec)).epoch < 18446744073709551616 from (by first | omega | (simp <;> omega) | simp_all)))); refine nt ?_; refine ns ?_; refine mv rfl ?_; refine st _ (r_buildG (us := [[v0]]) (cs := (Sq.cells (({ l := l, pos := 0 } : Sq)) v0)) [(0, 0, 1)] z113 pl113 rfl rfl ⟨(cells_one h0.oneCell), trivial⟩ ⟨rfl, trivial⟩ rfl rfl) ?_; refine st_box (cs := (Sq.cells (({ l := l, pos := 0 } : Sq)) v0)) rfl rfl ?_; intro ba8 w4 ga8 la8 hm ha8; have eha2a8 : ba2 ≠ ba8 := (by have := ha2.lt; omega); obtain ⟨Q5, sQ, sT, n_ha8, uQ2⟩ := exQ uQ ga8 la8 hm; replace h0 := h0.sub sQ; replace n_ha2 := fun hh => n_ha2 (sT _ hh); replace tQ := fun b hb => tQ b (sT b hb); replace sQ0 := fun b hb hl => sQ b (sQ0 b hb hl) (Nat.lt_of_lt_of_le hl M.size); replace ga8 := Nat.le_trans M.size ga8; replace h0 := h0.md0 hm; replace ha2 := ha2.md0 hm; replace uQ := uQ.md hm; replace M := M.step0 hm; clear uQ; have uQ := uQ2; clear uQ2 sQ sT; have p_ha8 : Fsh [] w ba8 := .inr ga8; refine asg rfl ?_; refine nt ?_; refine ns ?_; refine mv rfl ?_; refine st_call fn79 rfl (kN_any uQ (({ l := l, pos := 0 } : Sq)) ha8 n_ha8 (by first | assumption | exact (show (({ l := l, pos := 0 } : Sq)).pos < 9223372036854775808 from (by first | omega | (simp <;> omega) | simp_all))) h0 99 (by first | omega | (simp <;> omega)) (by first | omega | (simp <;> omega) | (simp at * <;> omega))) ?_; rintro en w6 ⟨x6_0, m6_0, mv6_0_0, rfl, hm, q6_0, mh6_0, mn6_0, mq6_0_0, mf6_0_1, hF6⟩; refine ⟨_, rfl, ?_⟩
  have hP : ∀ i ∈ [ba8], Fsh [] w i := (all_cons p_ha8 all_nil); have hS : ∀ i ∈ [ba8], ¬ Q5 i := (all_cons n_ha8 all_nil); have np_ha2 : ba2 ∉ [ba8] := (nin_cons (by omega) (by simp)); replace h0 := h0.md hm hS; replace ha2 := ha2.md hm np_ha2; clear np_ha2; replace M := M.step hm hP; replace uQ := uQ.md hm; clear hP hS ha8 n_ha8; have ha8 := mh6_0; have n_ha8 := mn6_0; clear mh6_0 mn6_0; have a6_0 := Sq.num_le (({ l := l, pos := 0 } : Sq)) 99; rw [hF6] at a6_0; try simp only [List.length_cons, List.length_nil, List.length_append, List.length_replicate, Nat.zero_add, Nat.reduceAdd, Nat.reduceMul] at a6_0
  refine st _ (r_convN (a := x6_0) 18446744073709551616 rfl (by rw [u3]; rfl) u39 rfl (by first | omega | (have := u8lt; omega))) ?_; refine st _ (r_buildG (us := [[(.int .u64 ((x6_0 : Nat) : Int))]]) (cs := (CRec.cells (({ epoch := x6_0, marks := [] } : CRec)) (.slice none 0 0))) [(0, 0, 1)] z54 pl54 rfl rfl ⟨rfl, trivial⟩ ⟨rfl, trivial⟩ rfl rfl) ?_; refine st_alloc z54 ?_; intro ba4 w7 ga4 la4 hm ha4; have eha2a4 : ba2 ≠ ba4 := (by have := ha2.lt; omega); have eha8a4 : ba8 ≠ ba4 := (by have := ha8.lt; omega); obtain ⟨Q8, sQ, sT, n_ha4, uQ2⟩ := exQ uQ ga4 la4 hm; replace h0 := h0.sub sQ; replace n_ha2 := fun hh => n_ha2 (sT _ hh); replace n_ha8 := fun hh => n_ha8 (sT _ hh); replace mf6_0_1 := mf6_0_1.sub sQ; replace tQ := fun b hb => tQ b (sT b hb); replace sQ0 := fun b hb hl => sQ b (sQ0 b hb hl) (Nat.lt_of_lt_of_le hl M.size); replace ga4 := Nat.le_trans M.size ga4; replace h0 := h0.md0 hm; replace ha2 := ha2.md0 hm; replace ha8 := ha8.md0 hm; replace mf6_0_1 := mf6_0_1.md0 hm; replace uQ := uQ.md hm; replace M := M.step0 hm; clear uQ; have uQ := uQ2; clear uQ2 sQ sT; have p_ha4 : Fsh [] w ba4 := .inr ga4; replace ha4 : Blk _ _ (CRec.cells (({ epoch := 0, marks := [] } : CRec)) (.slice none 0 0)) _ := ha4; have okz9 : CRec.ok (({ epoch := 0, marks := [] } : CRec)) := (by first | exact (by decide) | exact (by first | assumption | exact (show (({ epoch := 0, marks := [] } : CRec)).epoch < 18446744073709551616 from (by first | omega | (simp <;> omega) | simp_all)))); refine st_storeAgg (us := (CRec.cells (({ epoch := x6_0, marks := [] } : CRec)) (.slice none 0 0))) rfl rfl (by exact agg54) (by first | exact fun u hu => one_cells (CRec.one rfl) u hu | exact fun u hu => one_cells rfl u hu) ha4 (Nat.le_of_ble_eq_true rfl) ?_; have ha40 := ha4; clear ha4; intro w10 hm ha4; have hS : ∀ b ∈ [ba4], ¬ Q8 b := (by intro b hb; simp at hb; subst hb; exact n_ha4); replace h0 := h0.md hm hS; replace ha2 := ha2.md hm (by intro hb; simp at hb; omega); replace ha8 := ha8.md hm (by intro hb; simp at hb; omega); replace mf6_0_1 := mf6_0_1.md hm hS; replace uQ := uQ.md hm; replace M := M.step hm (all_cons p_ha4 all_nil); clear ha40 hS; replace ha4 : Blk _ _ (CRec.cells (({ epoch := x6_0, marks := [] } : CRec)) (.slice none 0 0)) _ := ha4; refine nt ?_; refine c_seq ?_; refine ns ?_; refine asg rfl ?_; refine nt ?_; refine c_block ?_; refine loop5 (fun (q : Sq) (uq_l : Value) (r : CRec) (ur_marks : Value) (i : Nat) => [(5, (.int .i64 ((i : Nat) : Int))), (2, (.pointer (some ⟨ba2, 0, none⟩))), (3, (.pointer (some ⟨ba8, 0, none⟩))), (4, (.pointer (some ⟨ba4, 0, none⟩)))]) (fun (q : Sq) (uq_l : Value) (r : CRec) (ur_marks : Value) (i : Nat) w' => ∃ Q' : Nat → Prop, (∀ b, Q' b → Q b) ∧ (∀ b, Q b → b < w.heap.size → Q' b) ∧ Up w' Q' ∧ Md [] w w' ∧ Blk w' ba8 (Sq.cells q uq_l) 113 ∧ Ls tInt w' Q' uq_l q.l ∧ Sq.ok q ∧ Blk w' ba4 (CRec.cells r ur_marks) 54 ∧ Ow tMark 119 (Fsh [] w) w' Q' ur_marks r.marks ∧ CRec.ok r ∧ Blk w' ba2 (CRec.cells (({ epoch := 0, marks := [] } : CRec)) (.slice none 0 0)) 54 ∧ ¬ Q' ba8 ∧ ¬ Q' ba4 ∧ ¬ Q' ba2 ∧ SomI r i ∧ i ≤ 4 ∧ r.marks.length ≤ i) (fun (q : Sq) (uq_l : Value) (r : CRec) (ur_marks : Value) (i : Nat) => 4 - i) (x0 := m6_0) (x1 := mv6_0_0) (x2 := (({ epoch := x6_0, marks := [] } : CRec))) (x3 := (.slice none 0 0)) (x4 := 0) ?_ ?_ ?_
  · exact ⟨rfl, rfl, rfl, rfl, trivial⟩
  · exact ⟨Q8, tQ, sQ0, uQ, M, ha8, mf6_0_1, mq6_0_0, ha4, (by first | exact Ow.nil _ _ _ _ _ | (simp only []; exact Ow.nil _ _ _ _ _)), (by first | assumption | exact (show (({ epoch := x6_0, marks := [] } : CRec)).epoch < 18446744073709551616 from (by first | omega | (simp <;> omega) | simp_all))), ha2, n_ha8, n_ha4, n_ha2, (by first | exact SomI.start (by omega) | (simp only [CRec.mk.injEq]; exact SomI.start (by omega))), (by omega), (by simp)⟩
  · clear M uQ tQ sQ0 n_ha2 n_ha8 n_ha4 h0 ha2 ha8 mf6_0_1 ha4
    rintro q uq_l r ur_marks i B w11 ⟨Q12, tQ, sQ0, uQ, M, ha8, f_q_l, kq_0, ha4, f_r_marks, kr_0, ha2, n_ha8, n_ha4, n_ha2, i0_0, i0_1, i0_2⟩; refine c_seq ?_; refine ns ?_; refine mv rfl ?_; refine st _ (r_ltN (a := i) (b := 4) rfl rfl) ?_; refine nt ?_; refine c_if rfl (fun h14 => ?_) (fun h14 => ?_)
    · (first | (have h14n := of_decide_eq_true h14) | (have h14n := of_decide_eq_false (bnt h14)) | (have h14n := bnt h14) | (have h14n := h14)); refine c_skip ?_; refine c_then ?_; refine c_seq ?_; refine c_block ?_; refine ns ?_; refine mv rfl ?_; refine st_call fn79 rfl (kN_any uQ q ha8 n_ha8 kq_0 f_q_l 2 (by first | omega | (simp <;> omega)) (by first | omega | (simp <;> omega) | (simp at * <;> omega))) ?_; rintro en w13 ⟨x13_0, m13_0, mv13_0_0, rfl, hm, q13_0, mh13_0, mn13_0, mq13_0_0, mf13_0_1, hF13⟩; refine ⟨_, rfl, ?_⟩; have hP : ∀ i ∈ [ba8], Fsh [] w i := (all_cons p_ha8 all_nil); have hS : ∀ i ∈ [ba8], ¬ Q12 i := (all_cons n_ha8 all_nil); have np_f_r_marks : ∀ b, vblock ur_marks = some b → b ∉ [ba8] := fun b hb => (nin_cons (f_r_marks.blk_ne ha8 (by decide) b hb) (by simp)); have np_ha4 : ba4 ∉ [ba8] := (nin_cons (by omega) (by simp)); have np_ha2 : ba2 ∉ [ba8] := (nin_cons (by omega) (by simp)); replace f_q_l := f_q_l.md hm hS; replace f_r_marks := f_r_marks.md hm np_f_r_marks hS; clear np_f_r_marks; replace ha4 := ha4.md hm np_ha4; clear np_ha4; replace ha2 := ha2.md hm np_ha2; clear np_ha2; replace M := M.step hm hP; replace uQ := uQ.md hm; clear hP hS ha8 n_ha8; have ha8 := mh13_0; have n_ha8 := mn13_0; clear mh13_0 mn13_0; have a13_0 := Sq.num_le q 2; rw [hF13] at a13_0; try simp only [List.length_cons, List.length_nil, List.length_append, List.length_replicate, Nat.zero_add, Nat.reduceAdd, Nat.reduceMul] at a13_0
      refine st _ (r_eqN (a := x13_0) (b := 1) rfl rfl) ?_; refine nt ?_; refine c_if rfl (fun h19 => ?_) (fun h19 => ?_)
      · (first | (have h19n := of_decide_eq_true h19) | (have h19n := of_decide_eq_false (bnt h19)) | (have h19n := bnt h19) | (have h19n := h19)); have f_q_l_q := f_q_l; have ha8_q := ha8; have f_r_marks_q := f_r_marks; have ha4_q := ha4; have ha2_q := ha2; have mf13_0_1_q := mf13_0_1; have hSB : ∀ b ∈ [ba8], ¬ Q12 b := all_cons n_ha8 all_nil; refine c_mixT [(0, true), (1, true), (2, true), (4, true), (7, true), (10, true), (3, false), (5, false), (6, true), (8, false), (9, true), (11, false), (12, true), (13, true), (14, false)] [15, 16, 17] (fun w' => Md [ba8] w13 w') mixed (by kernel_rfl) ?_; intro w14 hd0; refine ⟨hd0.mono (by simp), ?_⟩; have MC := hd0.mono (T := [ba8]) (by simp); refine Go.Wk.m _ (fun w' hc => r_field rfl off54_1) ?_; refine Go.Wk.m _ (fun w' hc => (r_loadBlk rfl one52 (ha4_q.md hc (by simp; omega)) rfl).to (b := ur_marks) rfl) ?_; refine Go.Wk.m _ (fun w' hc => r_move rfl) ?_; refine Go.Wk.m _ (fun w' hc => r_move rfl) ?_; refine Go.Wk.m _ (fun w' hc => r_move rfl) ?_; refine Go.Wk.m _ (fun w' hc => r_move rfl) ?_; replace f_q_l := f_q_l.md0 hd0; replace ha8 := ha8.md0 hd0; replace f_r_marks := f_r_marks.md0 hd0; replace ha4 := ha4.md0 hd0; replace ha2 := ha2.md0 hd0; replace mf13_0_1 := mf13_0_1.md0 hd0; replace uQ := uQ.md hd0; replace M := M.step0 hd0; refine m_c ?_ rfl; refine st_call fn80 rfl (kID_any uQ (((i : Nat) : Int)) (by omega)) ?_; rintro en w15 ⟨x15_0, rfl, hm, q15_0, hF15⟩; refine ⟨_, rfl, ?_⟩; replace f_q_l := f_q_l.md0 hm; replace ha8 := ha8.md0 hm; replace f_r_marks := f_r_marks.md0 hm; replace ha4 := ha4.md0 hm; replace ha2 := ha2.md0 hm; replace mf13_0_1 := mf13_0_1.md0 hm; replace uQ := uQ.md hm; replace M := M.step0 hm; replace MC := MC.step0 hm; refine st_nil ⟨rfl, MC, fun w' => Md [ba8] w15 w', Md.refl _ _, fun x hx => MC.trans hx, ?_⟩; clear mf13_0_1_q f_r_marks_q ha2_q ha4_q f_q_l_q ha8_q; have f_q_l_q := f_q_l; have ha8_q := ha8; have f_r_marks_q := f_r_marks; have ha4_q := ha4; have ha2_q := ha2; have mf13_0_1_q := mf13_0_1; clear MC; have MC := Md.refl [ba8] w15; refine m_c ?_ rfl; refine st_call fn79 rfl (kN_any uQ m13_0 ha8 n_ha8 mq13_0_0 mf13_0_1 999 (by first | omega | (simp <;> omega)) (by first | omega | (simp <;> omega) | (simp at * <;> omega))) ?_; rintro en w16 ⟨x16_0, m16_0, mv16_0_0, rfl, hm, q16_0, mh16_0, mn16_0, mq16_0_0, mf16_0_1, hF16⟩; refine ⟨_, rfl, ?_⟩; have hP : ∀ i ∈ [ba8], Fsh [] w i := (all_cons p_ha8 all_nil); have hS : ∀ i ∈ [ba8], ¬ Q12 i := (all_cons n_ha8 all_nil); have np_f_r_marks : ∀ b, vblock ur_marks = some b → b ∉ [ba8] := fun b hb => (nin_cons (f_r_marks.blk_ne ha8 (by decide) b hb) (by simp))
        have np_ha4 : ba4 ∉ [ba8] := (nin_cons (by omega) (by simp)); have np_ha2 : ba2 ∉ [ba8] := (nin_cons (by omega) (by simp)); replace f_q_l := f_q_l.md hm hS; replace f_r_marks := f_r_marks.md hm np_f_r_marks hS; clear np_f_r_marks; replace ha4 := ha4.md hm np_ha4; clear np_ha4; replace ha2 := ha2.md hm np_ha2; clear np_ha2; replace mf13_0_1 := mf13_0_1.md hm hS; replace M := M.step hm hP; replace MC := MC.step hm (fun i hi => Or.inl (by simpa using hi)); replace uQ := uQ.md hm; clear hP hS ha8 n_ha8; have ha8 := mh16_0; have n_ha8 := mn16_0; clear mh16_0 mn16_0; have a16_0 := Sq.num_le m13_0 999; rw [hF16] at a16_0; try simp only [List.length_cons, List.length_nil, List.length_append, List.length_replicate, Nat.zero_add, Nat.reduceAdd, Nat.reduceMul] at a16_0
        refine st_nil ⟨rfl, MC, fun w' => Md [ba8] w16 w', Md.refl _ _, fun x hx => MC.trans hx, ?_⟩; clear mf13_0_1_q f_r_marks_q ha2_q ha4_q f_q_l_q ha8_q; have f_q_l_q := f_q_l; have ha8_q := ha8; have f_r_marks_q := f_r_marks; have ha4_q := ha4; have ha2_q := ha2; have mf13_0_1_q := mf13_0_1; have mf16_0_1_q := mf16_0_1; clear MC; have MC := Md.refl [ba8] w16; refine Go.Wk.m _ (fun w' hc => r_convN (a := x16_0) 18446744073709551616 rfl (by rw [u3]; rfl) u39 rfl (by first | omega | (have := u8lt; omega))) ?_; refine m_c ?_ rfl; refine st_call fn79 rfl (kN_any uQ m16_0 ha8 n_ha8 mq16_0_0 mf16_0_1 9 (by first | omega | (simp <;> omega)) (by first | omega | (simp <;> omega) | (simp at * <;> omega))) ?_; rintro en w17 ⟨x17_0, m17_0, mv17_0_0, rfl, hm, q17_0, mh17_0, mn17_0, mq17_0_0, mf17_0_1, hF17⟩; refine ⟨_, rfl, ?_⟩; have hP : ∀ i ∈ [ba8], Fsh [] w i := (all_cons p_ha8 all_nil); have hS : ∀ i ∈ [ba8], ¬ Q12 i := (all_cons n_ha8 all_nil); have np_f_r_marks : ∀ b, vblock ur_marks = some b → b ∉ [ba8] := fun b hb => (nin_cons (f_r_marks.blk_ne ha8 (by decide) b hb) (by simp)); have np_ha4 : ba4 ∉ [ba8] := (nin_cons (by omega) (by simp)); have np_ha2 : ba2 ∉ [ba8] := (nin_cons (by omega) (by simp)); replace f_q_l := f_q_l.md hm hS; replace f_r_marks := f_r_marks.md hm np_f_r_marks hS; clear np_f_r_marks; replace ha4 := ha4.md hm np_ha4; clear np_ha4; replace ha2 := ha2.md hm np_ha2; clear np_ha2; replace mf13_0_1 := mf13_0_1.md hm hS; replace mf16_0_1 := mf16_0_1.md hm hS; replace M := M.step hm hP; replace MC := MC.step hm (fun i hi => Or.inl (by simpa using hi)); replace uQ := uQ.md hm; clear hP hS ha8 n_ha8; have ha8 := mh17_0; have n_ha8 := mn17_0; clear mh17_0 mn17_0; have a17_0 := Sq.num_le m16_0 9; rw [hF17] at a17_0; try simp only [List.length_cons, List.length_nil, List.length_append, List.length_replicate, Nat.zero_add, Nat.reduceAdd, Nat.reduceMul] at a17_0
        refine st_nil ⟨rfl, MC, fun w' => Md [ba8] w17 w', Md.refl _ _, fun x hx => MC.trans hx, ?_⟩; clear mf13_0_1_q f_r_marks_q mf16_0_1_q ha2_q ha4_q f_q_l_q ha8_q; have f_q_l_q := f_q_l; have ha8_q := ha8; have f_r_marks_q := f_r_marks; have ha4_q := ha4; have ha2_q := ha2; have mf13_0_1_q := mf13_0_1; have mf16_0_1_q := mf16_0_1; have mf17_0_1_q := mf17_0_1; clear MC; have MC := Md.refl [ba8] w17; refine Go.Wk.m _ (fun w' hc => r_convN (a := x17_0) 18446744073709551616 rfl (by rw [u3]; rfl) u39 rfl (by first | omega | (have := u8lt; omega))) ?_; refine m_c ?_ rfl; refine st_call fn79 rfl (kN_any uQ m17_0 ha8 n_ha8 mq17_0_0 mf17_0_1 9 (by first | omega | (simp <;> omega)) (by first | omega | (simp <;> omega) | (simp at * <;> omega))) ?_; rintro en w18 ⟨x18_0, m18_0, mv18_0_0, rfl, hm, q18_0, mh18_0, mn18_0, mq18_0_0, mf18_0_1, hF18⟩; refine ⟨_, rfl, ?_⟩; have hP : ∀ i ∈ [ba8], Fsh [] w i := (all_cons p_ha8 all_nil); have hS : ∀ i ∈ [ba8], ¬ Q12 i := (all_cons n_ha8 all_nil); have np_f_r_marks : ∀ b, vblock ur_marks = some b → b ∉ [ba8] := fun b hb => (nin_cons (f_r_marks.blk_ne ha8 (by decide) b hb) (by simp)); have np_ha4 : ba4 ∉ [ba8] := (nin_cons (by omega) (by simp)); have np_ha2 : ba2 ∉ [ba8] := (nin_cons (by omega) (by simp)); replace f_q_l := f_q_l.md hm hS; replace f_r_marks := f_r_marks.md hm np_f_r_marks hS; clear np_f_r_marks; replace ha4 := ha4.md hm np_ha4; clear np_ha4; replace ha2 := ha2.md hm np_ha2; clear np_ha2; replace mf13_0_1 := mf13_0_1.md hm hS; replace mf16_0_1 := mf16_0_1.md hm hS; replace mf17_0_1 := mf17_0_1.md hm hS; replace M := M.step hm hP; replace MC := MC.step hm (fun i hi => Or.inl (by simpa using hi)); replace uQ := uQ.md hm; clear hP hS ha8 n_ha8; have ha8 := mh18_0; have n_ha8 := mn18_0; clear mh18_0 mn18_0; have a18_0 := Sq.num_le m17_0 9; rw [hF18] at a18_0; try simp only [List.length_cons, List.length_nil, List.length_append, List.length_replicate, Nat.zero_add, Nat.reduceAdd, Nat.reduceMul] at a18_0
        refine st_nil ⟨rfl, MC, fun w' => Md [ba8] w18 w', Md.refl _ _, fun x hx => MC.trans hx, ?_⟩; clear mf13_0_1_q f_r_marks_q mf16_0_1_q ha2_q ha4_q f_q_l_q ha8_q mf17_0_1_q; have f_q_l_q := f_q_l; have ha8_q := ha8; have f_r_marks_q := f_r_marks; have ha4_q := ha4; have ha2_q := ha2; have mf13_0_1_q := mf13_0_1; have mf16_0_1_q := mf16_0_1; have mf17_0_1_q := mf17_0_1; have mf18_0_1_q := mf18_0_1; clear MC; have MC := Md.refl [ba8] w18; refine Go.Wk.m _ (fun w' hc => r_convN (a := x18_0) 18446744073709551616 rfl (by rw [u3]; rfl) u39 rfl (by first | omega | (have := u8lt; omega))) ?_; refine Go.Wk.m _ (fun w' hc => r_buildG (us := [(idc x15_0), [(.int .u64 ((x16_0 : Nat) : Int))], [(.int .u64 ((x17_0 : Nat) : Int))], [(.int .u64 ((x18_0 : Nat) : Int))]]) (cs := (Mark.cells (({ id := x15_0, seq := x16_0, lost := x17_0, over := x18_0 } : Mark)))) [(0, 0, 16), (1, 16, 1), (2, 17, 1), (3, 18, 1)] z119 pl119 rfl rfl ⟨rfl, rfl, rfl, rfl, trivial⟩ ⟨rfl, rfl, rfl, rfl, trivial⟩ rfl rfl) ?_; refine m_c ?_ rfl; refine st_buildSliceG [(Mark.cells (({ id := x15_0, seq := x16_0, lost := x17_0, over := x18_0 } : Mark)))] u52 elT119 (by decide) (by decide) rfl rfl ⟨rfl, trivial⟩ ⟨rfl, trivial⟩ rfl (by decide) ?_; intro ba34 w19 ga34 la34 hm ha34; have ya34 := uQ _ ga34; replace f_q_l := f_q_l.md0 hm; replace ha8 := ha8.md0 hm; replace f_r_marks := f_r_marks.md0 hm; replace ha4 := ha4.md0 hm; replace ha2 := ha2.md0 hm; replace mf13_0_1 := mf13_0_1.md0 hm; replace mf16_0_1 := mf16_0_1.md0 hm; replace mf17_0_1 := mf17_0_1.md0 hm; replace mf18_0_1 := mf18_0_1.md0 hm; replace uQ := uQ.md hm; replace M := M.step0 hm; replace MC := MC.step0 hm; replace ha34 := Ls.of_blk (m := 1) (R := Q12) (T := tMark) (xs := [({ id := x15_0, seq := x16_0, lost := x17_0, over := x18_0 } : Mark)]) ha34 ⟨_, _, rfl, (tMark_mk (by first | assumption | exact ⟨(by first | assumption | rfl | simp_all), (by first | omega | (simp <;> omega) | simp_all), (by first | omega | (simp <;> omega) | simp_all), (by first | omega | (simp <;> omega) | simp_all)⟩)), rfl⟩ rfl (by decide) ya34; refine st_nil ⟨rfl, MC, fun w' => Md [ba8] w19 w', Md.refl _ _, fun x hx => MC.trans hx, ?_⟩; clear mf13_0_1_q f_r_marks_q mf16_0_1_q ha2_q mf18_0_1_q ha4_q f_q_l_q ha8_q mf17_0_1_q; have f_q_l_q := f_q_l; have ha8_q := ha8; have f_r_marks_q := f_r_marks; have ha4_q := ha4; have ha2_q := ha2; have mf13_0_1_q := mf13_0_1; have mf16_0_1_q := mf16_0_1; have mf17_0_1_q := mf17_0_1; have mf18_0_1_q := mf18_0_1; have ha34_q := ha34
        clear MC; have MC := Md.refl [ba8] w19; refine m_nil ?_; clear mf13_0_1_q f_r_marks_q mf16_0_1_q ha34_q ha2_q mf18_0_1_q ha4_q f_q_l_q ha8_q mf17_0_1_q; clear MC; refine st_ap (sz := 19) (by rfl) u52 elT119 rfl rfl f_r_marks ha34 (fun _ h _ => h) uQ (Fsh.new M) (by first | omega | (simp <;> omega) | (simp at * <;> omega)) (by first | omega | (simp <;> omega) | (simp at * <;> omega)) ?_; intro v21 w22 Q23 sQ sT uQ2 hO20 hm hS _ hv2; have f_r_marks0 := f_r_marks; clear f_r_marks; replace f_q_l := f_q_l.sub sQ; replace n_ha8 := fun hh => n_ha8 (sT _ hh); replace n_ha4 := fun hh => n_ha4 (sT _ hh); replace n_ha2 := fun hh => n_ha2 (sT _ hh); replace mf13_0_1 := mf13_0_1.sub sQ; replace mf16_0_1 := mf16_0_1.sub sQ; replace mf17_0_1 := mf17_0_1.sub sQ; replace mf18_0_1 := mf18_0_1.sub sQ; replace ha34 := ha34.sub sQ; replace tQ := fun b hb => tQ b (sT b hb); replace sQ0 := fun b hb hl => sQ b (sQ0 b hb hl) (Nat.lt_of_lt_of_le hl M.size); replace f_q_l := f_q_l.md hm hS; replace ha8 := ha8.md hm (apart_ow f_r_marks0 ha8 (by decide)); replace ha4 := ha4.md hm (apart_ow f_r_marks0 ha4 (by decide)); replace ha2 := ha2.md hm (apart_ow f_r_marks0 ha2 (by decide)); replace mf13_0_1 := mf13_0_1.md hm hS; replace mf16_0_1 := mf16_0_1.md hm hS; replace mf17_0_1 := mf17_0_1.md hm hS; replace mf18_0_1 := mf18_0_1.md hm hS; replace ha34 := ha34.md hm hS; replace uQ := uQ.md hm; replace M := M.stepO hm (fun b hb => (f_r_marks0.2 b hb).1); clear uQ; have uQ := uQ2; clear uQ2 sQ sT hS hv2; refine st _ (r_field rfl off54_1) ?_; refine st_store rfl rfl one52 hO20.oneCell ha4 (Nat.le_of_ble_eq_true rfl) ?_; have ha40 := ha4; clear ha4; intro w24 hm ha4; have hS : ∀ b ∈ [ba4], ¬ Q23 b := (by intro b hb; simp at hb; subst hb; exact n_ha4); replace f_q_l := f_q_l.md hm hS; replace ha8 := ha8.md hm (by intro hb; simp at hb; omega); replace ha2 := ha2.md hm (by intro hb; simp at hb; omega); replace mf13_0_1 := mf13_0_1.md hm hS; replace mf16_0_1 := mf16_0_1.md hm hS; replace mf17_0_1 := mf17_0_1.md hm hS; replace mf18_0_1 := mf18_0_1.md hm hS; replace ha34 := ha34.md hm hS; replace hO20 := hO20.md hm (apart_bo ha40 hO20 (by decide)) hS; replace uQ := uQ.md hm; replace M := M.step hm (all_cons p_ha4 all_nil); clear ha40 hS; obtain ⟨s25, es25⟩ : ∃ y, y = ({ r with marks := r.marks ++ ([({ id := x15_0, seq := x16_0, lost := x17_0, over := x18_0 } : Mark)]) } : CRec) := ⟨_, rfl⟩; replace ha4 : Blk _ _ (CRec.cells ({ r with marks := r.marks ++ ([({ id := x15_0, seq := x16_0, lost := x17_0, over := x18_0 } : Mark)]) }) v21) _ := ha4
        rw [← es25] at ha4; have oks25 : CRec.ok s25 := (by rw [es25]; exact (by unfold CRec.ok; first | exact kr_0 | (simp only; omega))); rw [show r.marks ++ ([({ id := x15_0, seq := x16_0, lost := x17_0, over := x18_0 } : Mark)]) = s25.marks by rw [es25]] at hO20; refine st_nil ?_; refine n_block ?_; refine c_then ?_; refine c_region ?_; refine mv rfl ?_; refine st _ (r_addN (a := i) (b := 1) 9223372036854775808 rfl rfl rfl (by omega)) ?_; refine asg rfl ?_; refine nt ?_; refine next5 (x0 := m18_0) (x1 := mv18_0_0) (x2 := s25) (x3 := v21) (x4 := (i + 1)) (by omega) ⟨(fitI rfl (by omega)), rfl, rfl, rfl, trivial⟩ ⟨Q23, tQ, sQ0, uQ, M, ha8, mf18_0_1, mq18_0_0, ha4, hO20, oks25, ha2, n_ha8, n_ha4, n_ha2, (by have ho := mk_oks hO20.read; rw [es25] at ho ⊢; exact i0_0.put (by omega) (ho _ (by simp)) hF15.symm), (by omega), (by rw [es25]; simp only [List.length_append, List.length_singleton]; omega)⟩
      · (first | (have h19n := of_decide_eq_false h19) | (have h19n := of_decide_eq_true (bnf h19)) | (have h19n := bnf h19) | (have h19n := h19)); refine c_skip ?_; refine n_block ?_; refine c_then ?_; refine c_region ?_; refine mv rfl ?_; refine st _ (r_addN (a := i) (b := 1) 9223372036854775808 rfl rfl rfl (by omega)) ?_; refine asg rfl ?_; refine nt ?_; refine next5 (x0 := m13_0) (x1 := mv13_0_0) (x2 := r) (x3 := ur_marks) (x4 := (i + 1)) (by omega) ⟨(fitI rfl (by omega)), rfl, rfl, rfl, trivial⟩ ⟨Q12, tQ, sQ0, uQ, M, ha8, mf13_0_1, mq13_0_0, ha4, f_r_marks, kr_0, ha2, n_ha8, n_ha4, n_ha2, i0_0.skip, (by omega), (by omega)⟩
    · (first | (have h14n := of_decide_eq_false h14) | (have h14n := of_decide_eq_true (bnf h14)) | (have h14n := bnf h14) | (have h14n := h14)); refine c_exit ?_; refine x_then ?_; refine x_then ?_; refine x_hit ?_; refine c_then ?_; refine ns ?_; refine st _ (r_loadPart (CRec.cells r ur_marks) rfl (by exact agg54) ha4 rfl) ?_; refine st_storeAgg (us := (CRec.cells r ur_marks)) rfl rfl (by exact agg54) (by first | exact fun u hu => one_cells (CRec.one f_r_marks.oneCell) u hu | exact fun u hu => one_cells rfl u hu) ha2 (Nat.le_of_ble_eq_true rfl) ?_; have hc27 := f_r_marks; have ha20 := ha2; clear ha2; intro w26 hm ha2; have hS : ∀ b ∈ [ba2], ¬ Q12 b := (by intro b hb; simp at hb; subst hb; exact n_ha2); replace f_q_l := f_q_l.md hm hS; replace ha8 := ha8.md hm (by intro hb; simp at hb; omega); replace f_r_marks := f_r_marks.md hm (apart_bo ha20 f_r_marks (by decide)) hS; replace ha4 := ha4.md hm (by intro hb; simp at hb; omega); replace hc27 := hc27.md hm (apart_bo ha20 hc27 (by decide)) hS; replace uQ := uQ.md hm; replace M := M.step hm (all_cons p_ha2 all_nil); clear ha20 hS; replace ha2 : Blk _ _ (CRec.cells r ur_marks) _ := ha2; refine nt ?_; refine c_ret ?_; exact ret1L (v := (.agg (CRec.cells r ur_marks).toArray)) trivial rfl ⟨⟨_, rfl, load_agg (cs := (CRec.cells r ur_marks)) (by exact agg54) ha2⟩, trivial⟩ ⟨_, r, rfl, M, kr_0, (hc27.ls (fun b hb => tQ b hb) (Fsh.up uQ0)), (SomI.good i0_0 i0_1)⟩
end Go.Proofs.Ytcaokfendkkafaa
namespace Go.Proofs.Ytcaokfendkkafaa
open Go Go.Wk Go.RowKit
set_option linter.unusedVariables false
set_option linter.unusedSimpArgs false
attribute [local irreducible] wpList wpQuiet wpStill wpMix Code.wp Calls bodyPost

/-! ## saved, crashed, loaded; spoilt -/
theorem rdL_code {b : List UInt8} : ∀ (n i : Nat) (out : List Mark), (rdL b n i out).2.2 ≠ 19
  | 0, i, out => by rw [rdL]; exact (by decide : (0 : Nat) ≠ 19)
  | n + 1, i, out => by
    rw [rdL]
    split
    · decide
    · split
      · decide
      · split
        · decide
        · exact rdL_code n (i + 1) _
theorem readM_code (b : List UInt8) : (readM b).2.2 ≠ 19 := by
  unfold readM
  split
  · decide
  · split
    · decide
    · exact rdL_code _ _ _
theorem recRead_19 (b : List UInt8) : (recRead b).2 = 19 ↔ (crcOpenF b).2 = 19 := by
  unfold recRead
  split
  · exact Iff.rfl
  · rename_i h
    have h0 : (crcOpenF b).2 = 0 := (by simpa using h); have hf : ¬ (crcOpenF b).2 = 19 := (by omega); refine iff_of_false ?_ hf
    split
    · decide
    · split
      · decide
      · split
        · exact readM_code _
        · split
          · decide
          · exact (by decide : ¬ (0 : Nat) = 19)
theorem read_spoilt {r : CRec} {b c : List UInt8} {p bits : Nat} (hb : recB r = b) (h : Spoilt b c p bits 32) (hl : bits < 4294967296) : ((recRead c).2 = 19 ↔ bits ≠ 0) := by
  subst hb; exact (recRead_19 c).trans (spoilt_told (a := addF [68, 67, 75, 80] 8 r.epoch ++ marksB r.marks) h hl)
def BkI (f : SFs) : Prop := ∃ L o, f = fsD 4096 (-1) false L [] ∧ OneF L o
def Bk1 (f : SFs) (r : CRec) : Prop := ∃ i q, f = fsD 4096 (-1) false [nw i sF q ⟨recB r, recB r⟩] []
theorem BkI.new : BkI { room := 4096, fuse := -1, off := false, nodes := [], pend := [] } := ⟨[], none, rfl, .inl ⟨rfl, rfl⟩⟩
theorem BkI.save {f m : SFs} {r : CRec} {c : Nat} (h : BkI f) (hg : GoodR r) (e : ∃ i j q, (rightM r.marks = true → NewI f r i j) ∧ saveR f r i j q = (c, m)) : c = 0 ∧ Bk1 m r := by
  obtain ⟨L, o, rfl, hL⟩ := h; obtain ⟨i, j, q, hi, e⟩ := e; obtain ⟨h0, hm⟩ := one_free hL (by decide) hg hi e; exact ⟨h0, i, q, hm⟩
theorem crash_one {R u : Int} {off : Bool} {i q : Nat} {B : List UInt8} (keep : List Bool) (d : Int) : crashR (fsD R u off [nw i sF q ⟨B, B⟩] []) keep d = fsD R (-1) false [nw i sF q ⟨B, B⟩] [] := by
  unfold crashR fsD; simp only [List.drop_nil, List.reverse_nil, undoL]
  congr 1
  show crashG [nw i sF q ⟨B, B⟩] keep = _; rw [crashG]; simp only [crashG, nw, crash_same]
theorem Bk1.crash {f m : SFs} {r : CRec} {keep : List Bool} {d : Int} (h : Bk1 f r) (e : crashR f keep d = m) : Bk1 m r := by
  obtain ⟨i, q, rfl⟩ := h; rw [crash_one] at e; exact ⟨i, q, e.symm⟩
theorem Bk1.bk {f : SFs} {r : CRec} (h : Bk1 f r) (hg : GoodR r) : BkI f := by
  obtain ⟨i, q, rfl⟩ := h; exact ⟨_, some r, rfl, .inr ⟨r, i, q, rfl, hg, rfl⟩⟩
theorem Bk1.load {f : SFs} {r x : CRec} {c : Nat} (h : Bk1 f r) (hg : GoodR r) (e : loadR f = (x, c)) : x = r ∧ c = 0 := by
  obtain ⟨i, q, rfl⟩ := h; rw [OneF.load (.inr ⟨r, i, q, rfl, hg, rfl⟩)] at e
  cases e; exact ⟨rfl, rfl⟩
theorem good_read {r x : CRec} {b : List UInt8} {c : Nat} (hg : GoodR r) (hb : recB r = b) (e : recRead b = (x, c)) : x = r ∧ c = 0 := by
  subst hb; rw [rec_rt hg.1 hg.2.1 hg.2.2] at e
  cases e; exact ⟨rfl, rfl⟩

theorem kMBytes_any {w : World} {Q : Nat → Prop} (uQ : Up w Q) {v0 : Value} {b : List UInt8} (h0 : Ls tB8 w Q v0 b) (p0 : b.length ≤ 1000000) :
    Calls Try.prog 43 #[v0] w fun en w' => ∃ u0 : Value, ∃ r0 : List UInt8, ∃ Q' : Nat → Prop, en = .returned (u0) ∧ Md [] w w' ∧ NewQ w w' Q Q' ∧ Ow tB8 5 (Fsh [] w) w' Q' u0 r0 ∧ b = r0 := by
  have L0 := h0.len63; have M := Md.refl [] w; have uQ0 := uQ; have tQ : ∀ b, Q b → Q b := fun _ h => h; have sQ0 : ∀ b, Q b → b < w.heap.size → Q b := fun _ h _ => h; refine enter (n := 6) Try.func43 rfl rfl rfl ?_; intro B; refine ns ?_; refine asg rfl ?_; refine nt ?_; refine ns ?_; refine st_build0 u36 elT5 ?_; intro ba3 w1 ga3 la3 hm ha3; have p_ha3 : Fsh [] w ba3 := Fsh.new M _ ga3; obtain ⟨Q2, sQ, sT, n_ha3, uQ2⟩ := exQ uQ ga3 la3 hm; replace h0 := h0.sub sQ; replace tQ := fun b hb => tQ b (sT b hb); replace sQ0 := fun b hb hl => sQ b (sQ0 b hb hl) (Nat.lt_of_lt_of_le hl M.size); replace h0 := h0.md0 hm; replace uQ := uQ.md hm; replace M := M.step0 hm; clear uQ; have uQ := uQ2; clear uQ2 sQ sT; replace ha3 := Ow.of_blk (m := 0) (lo := Fsh [] w) (R := Q2) (T := tB8) (xs := ([] : List UInt8)) ha3 rfl rfl (by decide) p_ha3 n_ha3; refine mv rfl ?_; refine st_ap (sz := 1) (by rfl) u36 elT5 rfl rfl ha3 h0 (fun _ h _ => h) uQ (Fsh.new M) (by first | omega | (simp <;> omega) | (simp at * <;> omega)) (by first | omega | (simp <;> omega) | (simp at * <;> omega)) ?_; intro v4 w5 Q6 sQ sT uQ2 hO3 hm hS _ hv2; have ha30 := ha3; clear ha3; replace h0 := h0.sub sQ; replace tQ := fun b hb => tQ b (sT b hb); replace sQ0 := fun b hb hl => sQ b (sQ0 b hb hl) (Nat.lt_of_lt_of_le hl M.size); replace h0 := h0.md hm hS; replace uQ := uQ.md hm; replace M := M.stepO hm (fun b hb => (ha30.2 b hb).1); clear uQ; have uQ := uQ2; clear uQ2 sQ sT hS hv2; rw [List.nil_append] at hO3; refine asg rfl ?_; refine nt ?_; refine c_ret ?_; exact ret1L (v := v4) trivial rfl ⟨rfl, trivial⟩ ⟨_, b, Q6, rfl, M, ⟨sQ0, tQ, uQ⟩, hO3, rfl⟩
end Go.Proofs.Ytcaokfendkkafaa
namespace Go.Proofs.Ytcaokfendkkafaa
open Go Go.Wk Go.RowKit
set_option linter.unusedVariables false
set_option linter.unusedSimpArgs false
attribute [local irreducible] wpList wpQuiet wpStill wpMix Code.wp Calls bodyPost
theorem el66 : elemIs Try.prog 66 1 = true := by kernel_rfl
theorem fn32 : isFn Try.prog 32 = true := by kernel_rfl
theorem fn39 : isFn Try.prog 39 = true := by kernel_rfl
theorem fn40 : isFn Try.prog 40 = true := by kernel_rfl
theorem fn43 : isFn Try.prog 43 = true := by kernel_rfl
theorem u71 : Try.prog.underlying 71 = some (.slice 66) := by kernel_rfl

theorem xor_b8 (x y : UInt8) : Value.int .u8 ((x.toNat ^^^ y.toNat : Nat) : Int) = b8 (x ^^^ y) := by simp [b8, UInt8.toNat_xor]
theorem ofPow {r : Nat} (h : r < 8) : (UInt8.ofNat (1 * 2 ^ r)).toNat = 2 ^ r := by
  have h2 := Nat.pow_lt_pow_right (a := 2) (by omega) h; rw [Nat.one_mul, UInt8.toNat_ofNat', Nat.mod_eq_of_lt h2]
set_option maxRecDepth 100000 in
theorem ckptBack_any {w : World} {Q : Nat → Prop} (uQ : Up w Q) {v0 : Value} {l : List (List Int)} (h0 : Ls (tSl tInt) w Q v0 l) (at_ : Int) (a1 : (-9223372036854775808 ≤ at_ ∧ at_ < 9223372036854775808)) (bits : Nat) (a2 : bits < 4294967296) :
    Calls Try.prog 10 #[v0, (.int .i64 (at_ : Int)), (.int .u32 ((bits : Nat) : Int))] w fun en w' => ∃ r0 : Bool, en = .returned (.bool r0) ∧ Md [] w w' ∧ true = r0 := by
  have L0 := h0.len63; have M := Md.refl [] w; have uQ0 := uQ; have tQ : ∀ b, Q b → Q b := fun _ h => h; have sQ0 : ∀ b, Q b → b < w.heap.size → Q b := fun _ h _ => h; refine enter (n := 142) Try.func10 rfl rfl rfl ?_; intro B; refine ns ?_; refine asg rfl ?_; refine nt ?_; refine ns ?_; refine st_call fn32 rfl (kFirst_any uQ ) ?_; rintro en w1 ⟨x1_0, rfl, hm, hF1⟩; refine ⟨_, rfl, ?_⟩; replace h0 := h0.md0 hm; replace uQ := uQ.md hm; replace M := M.step0 hm; refine asg rfl ?_; refine nt ?_; refine c_seq ?_; refine ns ?_; refine mv rfl ?_; refine st _ (r_not rfl) ?_; refine nt ?_; refine c_if rfl (fun h22 => ?_) (fun h22 => ?_)
  · (first | (have h22n := of_decide_eq_true h22) | (have h22n := of_decide_eq_false (bnt h22)) | (have h22n := bnt h22) | (have h22n := h22)); exfalso; simp_all
  · (first | (have h22n := of_decide_eq_false h22) | (have h22n := of_decide_eq_true (bnf h22)) | (have h22n := bnf h22) | (have h22n := h22)); refine c_skip ?_; refine c_then ?_; refine c_seq ?_; refine ns ?_; refine mv rfl ?_; refine st _ (r_len rfl u71 h0.shp) ?_; refine st _ (r_gtN (a := l.length) (b := 12) rfl rfl) ?_; refine nt ?_; refine c_if rfl (fun h25 => ?_) (fun h25 => ?_)
    · (first | (have h25n := of_decide_eq_true h25) | (have h25n := of_decide_eq_false (bnt h25)) | (have h25n := bnt h25) | (have h25n := h25)); refine ns ?_; refine mv rfl ?_; refine asg rfl ?_; refine nt ?_; refine c_ret ?_; refine r_then ?_; exact ret1L (v := (.bool x1_0)) trivial rfl ⟨rfl, trivial⟩ ⟨x1_0, rfl, M, (by first | rfl | exact h22n.symm | exact h22n)⟩
    · (first | (have h25n := of_decide_eq_false h25) | (have h25n := of_decide_eq_true (bnf h25)) | (have h25n := bnf h25) | (have h25n := h25)); refine c_skip ?_; refine c_then ?_; refine ns ?_; refine st_call fn13 rfl (oNew uQ (4096) (by omega) (by first | omega | (simp <;> omega)) (by first | omega | (simp <;> omega))) ?_; rintro en w2 ⟨bFO1, fpFO1, Q3, rfl, hm, ⟨sQ, sT, uQ2⟩, hfp2, FO1⟩; refine ⟨_, rfl, ?_⟩; have r_FO1 : ∀ x ∈ fpFO1, Fsh [] w x := fun x hx => Fsh.new M x (hfp2 x hx); replace h0 := h0.sub sQ; replace tQ := fun b hb => tQ b (sT b hb); replace sQ0 := fun b hb hl => sQ b (sQ0 b hb hl) (Nat.lt_of_lt_of_le hl M.size); replace h0 := h0.md0 hm; replace uQ := uQ.md hm; replace M := M.step0 hm; clear uQ; have uQ := uQ2; clear uQ2 sQ sT; refine mv rfl ?_; refine st _ (r_extract rfl rfl) ?_; refine st _ (r_extract rfl rfl) ?_; refine asg rfl ?_; refine asg rfl ?_; refine nt ?_; refine c_seq ?_; refine ns ?_; refine mv rfl ?_; refine st _ (r_neN (a := 0) (b := 0) rfl rfl) ?_; refine mv rfl ?_; refine part_n (t := 33) rfl (fun h33 => ?_) (fun h33 => ?_)
      · (first | (have h33n := of_decide_eq_true h33) | (have h33n := of_decide_eq_false (bnt h33)) | (have h33n := bnt h33) | (have h33n := h33)); exfalso; simp at h33
      · (first | (have h33n := of_decide_eq_false h33) | (have h33n := of_decide_eq_true (bnf h33)) | (have h33n := bnf h33) | (have h33n := h33)); refine st_g _ rfl rfl rfl h33 (r_move rfl) ?_; refine st_g _ rfl rfl rfl h33 (r_eqlPN rfl u23) ?_; refine st _ (r_pick_f rfl h33 rfl) ?_; refine nt ?_; refine c_if_f rfl rfl ?_; refine c_skip ?_; refine c_then ?_; refine c_seq ?_; refine ns ?_; refine asg rfl ?_; refine nt ?_; refine c_block ?_; refine loop3 (fun (fpf : List Nat) (f : SFs) (i : Nat) => [(10, (.int .i64 ((i : Nat) : Int))), (0, v0), (1, (.int .i64 (at_ : Int))), (2, (.int .u32 ((bits : Nat) : Int))), (7, (.bool x1_0)), (8, (.pointer (some ⟨bFO1, 0, none⟩)))]) (fun (fpf : List Nat) (f : SFs) (i : Nat) w' => ∃ Q' : Nat → Prop, (∀ b, Q' b → Q b) ∧ (∀ b, Q b → b < w.heap.size → Q' b) ∧ Up w' Q' ∧ Md [] w w' ∧ FsO (7 * i + 10) fpf w' Q' bFO1 f ∧ (∀ x ∈ fpf, Fsh [] w x) ∧ Ls (tSl tInt) w' Q' v0 l ∧ BkI f ∧ i ≤ l.length) (fun (fpf : List Nat) (f : SFs) (i : Nat) => l.length - i) (x0 := fpFO1) (x1 := ({ room := (4096), fuse := -1, off := false, nodes := [], pend := [] })) (x2 := 0) ?_ ?_ ?_
        · exact ⟨rfl, rfl, rfl, rfl, rfl, rfl, trivial⟩
        · exact ⟨Q3, tQ, sQ0, uQ, M, (FO1.up (by omega)), r_FO1, h0, BkI.new, (by omega)⟩
        · clear M uQ tQ sQ0 h0 FO1 r_FO1
          rintro fpf f i B w4 ⟨Q5, tQ, sQ0, uQ, M, FO1, r_FO1, h0, i0_0, i0_1⟩; refine c_seq ?_; refine ns ?_; refine mv rfl ?_; refine mv rfl ?_; refine st _ (r_len rfl u71 h0.shp) ?_; refine st _ (r_ltN (a := i) (b := l.length) rfl rfl) ?_; refine nt ?_; refine c_if rfl (fun h40 => ?_) (fun h40 => ?_)
          · (first | (have h40n := of_decide_eq_true h40) | (have h40n := of_decide_eq_false (bnt h40)) | (have h40n := bnt h40) | (have h40n := h40)); refine c_skip ?_; refine c_then ?_; refine c_seq ?_; refine c_block ?_; refine c_seq ?_; refine ns ?_; refine mv rfl ?_; refine mv rfl ?_; refine st _ (r_indexN (i := i) 1 rfl rfl u71 el66 h0.shp (by omega)) ?_; obtain ⟨x6, hx6⟩ := getE (l := l) (i := i) (by first | omega | (simp <;> omega)); obtain ⟨c7, hr6, ha6⟩ := h0.get hx6; obtain ⟨v8, rfl, hd9⟩ := hr6; replace ha6 : At _ v0 (i * 1) [v8] := ha6; refine st _ ((r_loadE (kk := i * 1) 0 rfl rfl one66 ha6 rfl).to (b := v8) rfl) ?_; refine st _ (r_len rfl u66 hd9.shp) ?_; refine st _ (r_gtN (a := x6.length) (b := 30) rfl rfl) ?_; refine st_nil ?_; clear ha6; refine c_then ?_; refine c_if rfl (fun h48 => ?_) (fun h48 => ?_)
            · (first | (have h48n := of_decide_eq_true h48) | (have h48n := of_decide_eq_false (bnt h48)) | (have h48n := bnt h48) | (have h48n := h48)); refine ns ?_; refine asg rfl ?_; refine nt ?_; refine c_ret ?_; refine r_then ?_; refine r_block ?_; refine r_then ?_; refine r_then ?_; refine r_block ?_; refine r_then ?_; exact ret1L (v := (.bool true)) trivial rfl ⟨rfl, trivial⟩ ⟨true, rfl, M, (by first | rfl | exact h22n.symm | exact h22n)⟩
            · (first | (have h48n := of_decide_eq_false h48) | (have h48n := of_decide_eq_true (bnf h48)) | (have h48n := bnf h48) | (have h48n := h48)); refine c_skip ?_; refine c_then ?_; refine ns ?_; refine mv rfl ?_; refine mv rfl ?_; refine st _ (r_indexN (i := i) 1 rfl rfl u71 el66 h0.shp (by omega)) ?_; obtain ⟨c11, hr12, ha12⟩ := h0.get hx6; obtain ⟨v13, rfl, hd14⟩ := hr12; replace ha12 : At _ v0 (i * 1) [v13] := ha12; refine st _ ((r_loadE (kk := i * 1) 0 rfl rfl one66 ha12 rfl).to (b := v13) rfl) ?_; refine st_call fn40 rfl (kSome_any uQ hd14 (by first | omega | (simp <;> omega) | (simp at * <;> omega))) ?_; rintro en w15 ⟨v15_0_0, x15_0, rfl, hm, q15_0_0, h15_0_1, hF15⟩; refine ⟨_, rfl, ?_⟩; replace FO1 := FO1.md0 hm; replace h0 := h0.md0 hm; replace hd9 := hd9.md0 hm; replace hd14 := hd14.md0 hm; replace ha12 := ha12.md0 hm; replace uQ := uQ.md hm; replace M := M.step0 hm; refine st_alloc z54 ?_; intro ba11 w16 ga11 la11 hm ha11; have nf_ha11_FO1 : ba11 ∉ fpf := fun hx => by have := (FO1.lt _ hx).1; omega
              obtain ⟨Q17, sQ, sT, n_ha11, uQ2⟩ := exQ uQ ga11 la11 hm; replace FO1 := FO1.sub sQ sT; replace h0 := h0.sub sQ; replace hd9 := hd9.sub sQ; replace hd14 := hd14.sub sQ; replace h15_0_1 := h15_0_1.sub sQ; replace tQ := fun b hb => tQ b (sT b hb); replace sQ0 := fun b hb hl => sQ b (sQ0 b hb hl) (Nat.lt_of_lt_of_le hl M.size); replace ga11 := Nat.le_trans M.size ga11; replace FO1 := FO1.md0 hm; replace h0 := h0.md0 hm; replace hd9 := hd9.md0 hm; replace hd14 := hd14.md0 hm; replace ha12 := ha12.md0 hm; replace h15_0_1 := h15_0_1.md0 hm; replace uQ := uQ.md hm; replace M := M.step0 hm; clear uQ; have uQ := uQ2; clear uQ2 sQ sT; have p_ha11 : Fsh [] w ba11 := .inr ga11; replace ha11 : Blk _ _ (CRec.cells (({ epoch := 0, marks := [] } : CRec)) (.slice none 0 0)) _ := ha11; have okz18 : CRec.ok (({ epoch := 0, marks := [] } : CRec)) := (by first | exact (by decide) | exact (by first | assumption | exact (show (({ epoch := 0, marks := [] } : CRec)).epoch < 18446744073709551616 from (by first | omega | (simp <;> omega) | simp_all)))); refine st_storeAgg (us := (CRec.cells x15_0 v15_0_0)) rfl rfl (by exact agg54) (by first | exact fun u hu => one_cells (CRec.one h15_0_1.oneCell) u hu | exact fun u hu => one_cells rfl u hu) ha11 (Nat.le_of_ble_eq_true rfl) ?_; have ha110 := ha11; clear ha11; intro w19 hm ha11; have hS : ∀ b ∈ [ba11], ¬ Q17 b := (by intro b hb; simp at hb; subst hb; exact n_ha11); replace FO1 := FO1.md hm (fun x hx => by rw [List.mem_singleton]; rintro rfl; exact nf_ha11_FO1 hx) hS; replace h0 := h0.md hm hS; replace hd9 := hd9.md hm hS; replace hd14 := hd14.md hm hS; clear ha12; replace h15_0_1 := h15_0_1.md hm hS; replace uQ := uQ.md hm; replace M := M.step hm (all_cons p_ha11 all_nil); clear ha110 hS; replace ha11 : Blk _ _ (CRec.cells x15_0 v15_0_0) _ := ha11; refine nt ?_; refine c_seq ?_; refine ns ?_; refine mv rfl ?_; refine st _ (r_loadPart (CRec.cells x15_0 v15_0_0) rfl (by exact agg54) ha11 rfl) ?_; refine st_call fn41 rfl (kSave_any uQ FO1 x15_0 q15_0_0 h15_0_1 (by first | omega | (simp <;> omega) | (simp at * <;> omega))) ?_; rintro en w20 ⟨x20_0, rfl, q20_0, m20, fp20, Q21, hm, ⟨sQ, sT, uQ2⟩, hfp, GFO1, hF20⟩; refine ⟨_, rfl, ?_⟩; have hS : ∀ b ∈ fpf, ¬ Q21 b := fun b hb hq => (FO1.lt b hb).2 (sT b hq); replace h0 := (h0.sub sQ).md hm hS; replace hd9 := (hd9.sub sQ).md hm hS; replace hd14 := (hd14.sub sQ).md hm hS; replace h15_0_1 := (h15_0_1.sub sQ).md hm hS; have nf9 : ba11 ∉ fp20 := fun h => (hfp _ h).elim nf_ha11_FO1 (fun h => by have := ha11.lt; omega)
              replace n_ha11 := fun hh => n_ha11 (sT _ hh); replace ha11 := ha11.md hm nf_ha11_FO1; clear nf_ha11_FO1; have nf_ha11_FO1 := nf9; clear nf9; have r9 : ∀ x ∈ fp20, Fsh [] w x := fun x hx => (hfp x hx).elim (r_FO1 x) (Fsh.new M x); replace tQ := fun b hb => tQ b (sT b hb); replace sQ0 := fun b hb hl => sQ b (sQ0 b hb hl) (Nat.lt_of_lt_of_le hl M.size); replace M := M.step hm r_FO1; clear uQ r_FO1 FO1; have uQ := uQ2; have r_FO1 := r9; have FO1 := GFO1; clear uQ2 r9 GFO1 sQ sT hS hfp hm; replace FO1 : FsO (7 * i + 17) _ _ _ _ _ := FO1; obtain ⟨z0, hB1⟩ := BkI.save i0_0 hF15 hF20; refine st _ (r_neN (a := x20_0) (b := 0) rfl rfl) ?_; refine nt ?_; refine c_if rfl (fun h57 => ?_) (fun h57 => ?_)
              · (first | (have h57n := of_decide_eq_true h57) | (have h57n := of_decide_eq_false (bnt h57)) | (have h57n := bnt h57) | (have h57n := h57)); exfalso; omega
              · (first | (have h57n := of_decide_eq_false h57) | (have h57n := of_decide_eq_true (bnf h57)) | (have h57n := bnf h57) | (have h57n := h57)); refine c_skip ?_; refine c_then ?_; refine ns ?_; refine mv rfl ?_; refine st_call fn17 rfl (oCrash uQ FO1 (Ls.nil tBool _ _) (0) (by omega) (by first | omega | (simp <;> omega))) ?_; rintro en w22 ⟨rfl, m22, fp22, Q23, hm, ⟨sQ, sT, uQ2⟩, hfp, GFO1, hF22⟩; refine ⟨_, rfl, ?_⟩; have hS : ∀ b ∈ fp20, ¬ Q23 b := fun b hb hq => (FO1.lt b hb).2 (sT b hq); replace h0 := (h0.sub sQ).md hm hS; replace hd9 := (hd9.sub sQ).md hm hS; replace hd14 := (hd14.sub sQ).md hm hS; replace h15_0_1 := (h15_0_1.sub sQ).md hm hS; have nf9 : ba11 ∉ fp22 := fun h => (hfp _ h).elim nf_ha11_FO1 (fun h => by have := ha11.lt; omega); replace n_ha11 := fun hh => n_ha11 (sT _ hh); replace ha11 := ha11.md hm nf_ha11_FO1; clear nf_ha11_FO1; have nf_ha11_FO1 := nf9; clear nf9; have r9 : ∀ x ∈ fp22, Fsh [] w x := fun x hx => (hfp x hx).elim (r_FO1 x) (Fsh.new M x); replace tQ := fun b hb => tQ b (sT b hb); replace sQ0 := fun b hb hl => sQ b (sQ0 b hb hl) (Nat.lt_of_lt_of_le hl M.size); replace M := M.step hm r_FO1; clear uQ r_FO1 FO1; have uQ := uQ2; have r_FO1 := r9; have FO1 := GFO1; clear uQ2 r9 GFO1 sQ sT hS hfp hm; replace FO1 : FsO (7 * i + 17) _ _ _ _ _ := FO1; have hB2 := hB1.crash hF22; refine nt ?_; refine ns ?_; refine mv rfl ?_; refine st_call fn42 rfl (kLoad_any uQ FO1 (by first | omega | (simp <;> omega) | (simp at * <;> omega))) ?_; rintro en w24 ⟨v24_0_0, x24_0, x24_1, rfl, hm, q24_0_0, h24_0_1, q24_1, hF24⟩; refine ⟨_, rfl, ?_⟩; replace FO1 := FO1.md0 hm; replace h0 := h0.md0 hm; replace hd9 := hd9.md0 hm; replace hd14 := hd14.md0 hm; replace h15_0_1 := h15_0_1.md0 hm; replace ha11 := ha11.md0 hm; replace uQ := uQ.md hm; replace M := M.step0 hm; obtain ⟨zl, zc⟩ := hB2.load hF15 hF24; refine mv rfl ?_; refine st _ (r_extract rfl rfl) ?_; refine st _ (r_extract rfl rfl) ?_; refine st_alloc z54 ?_; intro ba12 w25 ga12 la12 hm ha12; have nf_ha12_FO1 : ba12 ∉ fp22 := fun hx => by have := (FO1.lt _ hx).1; omega
                have eha11a12 : ba11 ≠ ba12 := (by have := ha11.lt; omega); obtain ⟨Q26, sQ, sT, n_ha12, uQ2⟩ := exQ uQ ga12 la12 hm; replace FO1 := FO1.sub sQ sT; replace h0 := h0.sub sQ; replace hd9 := hd9.sub sQ; replace hd14 := hd14.sub sQ; replace h15_0_1 := h15_0_1.sub sQ; replace n_ha11 := fun hh => n_ha11 (sT _ hh); replace h24_0_1 := h24_0_1.sub sQ; replace tQ := fun b hb => tQ b (sT b hb); replace sQ0 := fun b hb hl => sQ b (sQ0 b hb hl) (Nat.lt_of_lt_of_le hl M.size); replace ga12 := Nat.le_trans M.size ga12; replace FO1 := FO1.md0 hm; replace h0 := h0.md0 hm; replace hd9 := hd9.md0 hm; replace hd14 := hd14.md0 hm; replace h15_0_1 := h15_0_1.md0 hm; replace ha11 := ha11.md0 hm; replace h24_0_1 := h24_0_1.md0 hm; replace uQ := uQ.md hm; replace M := M.step0 hm; clear uQ; have uQ := uQ2; clear uQ2 sQ sT; have p_ha12 : Fsh [] w ba12 := .inr ga12; replace ha12 : Blk _ _ (CRec.cells (({ epoch := 0, marks := [] } : CRec)) (.slice none 0 0)) _ := ha12; have okz27 : CRec.ok (({ epoch := 0, marks := [] } : CRec)) := (by first | exact (by decide) | exact (by first | assumption | exact (show (({ epoch := 0, marks := [] } : CRec)).epoch < 18446744073709551616 from (by first | omega | (simp <;> omega) | simp_all)))); refine st_storeAgg (us := (CRec.cells x24_0 v24_0_0)) rfl rfl (by exact agg54) (by first | exact fun u hu => one_cells (CRec.one h24_0_1.oneCell) u hu | exact fun u hu => one_cells rfl u hu) ha12 (Nat.le_of_ble_eq_true rfl) ?_; have ha120 := ha12; clear ha12; intro w28 hm ha12; have hS : ∀ b ∈ [ba12], ¬ Q26 b := (by intro b hb; simp at hb; subst hb; exact n_ha12); replace FO1 := FO1.md hm (fun x hx => by rw [List.mem_singleton]; rintro rfl; exact nf_ha12_FO1 hx) hS; replace h0 := h0.md hm hS; replace hd9 := hd9.md hm hS; replace hd14 := hd14.md hm hS; replace h15_0_1 := h15_0_1.md hm hS; replace ha11 := ha11.md hm (by intro hb; simp at hb; omega); replace h24_0_1 := h24_0_1.md hm hS; replace uQ := uQ.md hm; replace M := M.step hm (all_cons p_ha12 all_nil); clear ha120 hS; replace ha12 : Blk _ _ (CRec.cells x24_0 v24_0_0) _ := ha12; refine asg rfl ?_; refine nt ?_; refine c_seq ?_; refine ns ?_; refine mv rfl ?_; refine st _ (r_neN (a := x24_1) (b := 0) rfl rfl) ?_; refine mv rfl ?_; refine part_n (t := 67) rfl (fun h67 => ?_) (fun h67 => ?_)
                · (first | (have h67n := of_decide_eq_true h67) | (have h67n := of_decide_eq_false (bnt h67)) | (have h67n := bnt h67) | (have h67n := h67)); exfalso; omega
                · (first | (have h67n := of_decide_eq_false h67) | (have h67n := of_decide_eq_true (bnf h67)) | (have h67n := bnf h67) | (have h67n := h67)); refine st_g _ rfl rfl rfl h67 (r_loadPart (CRec.cells x24_0 v24_0_0) rfl (by exact agg54) ha12 rfl) ?_; refine st_g _ rfl rfl rfl h67 (r_loadPart (CRec.cells x15_0 v15_0_0) rfl (by exact agg54) ha11 rfl) ?_; refine st_call_g rfl rfl rfl h67 fn39 rfl (rSame_any uQ x24_0 q24_0_0 h24_0_1 x15_0 q15_0_0 h15_0_1) ?_; rintro en w29 ⟨x29_0, rfl, hm, hF29⟩; refine ⟨_, rfl, ?_⟩; replace FO1 := FO1.md0 hm; replace h0 := h0.md0 hm; replace hd9 := hd9.md0 hm; replace hd14 := hd14.md0 hm; replace h15_0_1 := h15_0_1.md0 hm; replace ha11 := ha11.md0 hm; replace h24_0_1 := h24_0_1.md0 hm; replace ha12 := ha12.md0 hm; replace uQ := uQ.md hm; replace M := M.step0 hm; have szl := hF29; rw [zl, decide_eq_true rfl] at szl; refine st_g _ rfl rfl rfl h67 (r_not rfl) ?_; refine st _ (r_pick_f rfl h67 rfl) ?_; refine nt ?_; refine c_if rfl (fun h72 => ?_) (fun h72 => ?_)
                  · (first | (have h72n := of_decide_eq_true h72) | (have h72n := of_decide_eq_false (bnt h72)) | (have h72n := bnt h72) | (have h72n := h72)); exfalso; rw [← szl] at h72; simp at h72
                  · (first | (have h72n := of_decide_eq_false h72) | (have h72n := of_decide_eq_true (bnf h72)) | (have h72n := bnf h72) | (have h72n := h72)); refine c_skip ?_; refine c_then ?_; refine ns ?_; refine st _ (r_loadPart (CRec.cells x15_0 v15_0_0) rfl (by exact agg54) ha11 rfl) ?_; refine st_call fn37 rfl (rBytes_any_ls uQ x15_0 q15_0_0 h15_0_1 hF15.2.2) ?_; rintro en w30 ⟨v30_0, x30_0, rfl, hm, h30_0, hF30⟩; refine ⟨_, rfl, ?_⟩; replace FO1 := FO1.md0 hm; replace h0 := h0.md0 hm; replace hd9 := hd9.md0 hm; replace hd14 := hd14.md0 hm; replace h15_0_1 := h15_0_1.md0 hm; replace ha11 := ha11.md0 hm; replace h24_0_1 := h24_0_1.md0 hm; replace ha12 := ha12.md0 hm; replace uQ := uQ.md hm; replace M := M.step0 hm; obtain ⟨w1, w2⟩ := GoodR.len hF15; rw [hF30] at w1 w2; refine asg rfl ?_; refine nt ?_; refine ns ?_; refine mv rfl ?_; refine st_call fn33 rfl (rRead_any uQ h30_0 (by first | omega | (simp <;> omega) | (simp at * <;> omega))) ?_; rintro en w31 ⟨v31_0_0, x31_0, x31_1, rfl, hm, q31_0_0, h31_0_1, q31_1, hF31⟩; refine ⟨_, rfl, ?_⟩; replace FO1 := FO1.md0 hm; replace h0 := h0.md0 hm; replace hd9 := hd9.md0 hm; replace hd14 := hd14.md0 hm; replace h15_0_1 := h15_0_1.md0 hm; replace ha11 := ha11.md0 hm; replace h24_0_1 := h24_0_1.md0 hm; replace ha12 := ha12.md0 hm; replace h30_0 := h30_0.md0 hm; replace uQ := uQ.md hm; replace M := M.step0 hm; obtain ⟨yl, yc⟩ := good_read hF15 hF30 hF31; refine mv rfl ?_; refine st _ (r_extract rfl rfl) ?_; refine st _ (r_extract rfl rfl) ?_; refine st_alloc z54 ?_; intro ba15 w32 ga15 la15 hm ha15; have nf_ha15_FO1 : ba15 ∉ fp22 := fun hx => by have := (FO1.lt _ hx).1; omega
                    have eha11a15 : ba11 ≠ ba15 := (by have := ha11.lt; omega); have eha12a15 : ba12 ≠ ba15 := (by have := ha12.lt; omega); obtain ⟨Q33, sQ, sT, n_ha15, uQ2⟩ := exQ uQ ga15 la15 hm; replace FO1 := FO1.sub sQ sT; replace h0 := h0.sub sQ; replace hd9 := hd9.sub sQ; replace hd14 := hd14.sub sQ; replace h15_0_1 := h15_0_1.sub sQ; replace n_ha11 := fun hh => n_ha11 (sT _ hh); replace h24_0_1 := h24_0_1.sub sQ; replace n_ha12 := fun hh => n_ha12 (sT _ hh); replace h30_0 := h30_0.sub sQ; replace h31_0_1 := h31_0_1.sub sQ; replace tQ := fun b hb => tQ b (sT b hb); replace sQ0 := fun b hb hl => sQ b (sQ0 b hb hl) (Nat.lt_of_lt_of_le hl M.size); replace ga15 := Nat.le_trans M.size ga15; replace FO1 := FO1.md0 hm; replace h0 := h0.md0 hm; replace hd9 := hd9.md0 hm; replace hd14 := hd14.md0 hm; replace h15_0_1 := h15_0_1.md0 hm; replace ha11 := ha11.md0 hm; replace h24_0_1 := h24_0_1.md0 hm; replace ha12 := ha12.md0 hm; replace h30_0 := h30_0.md0 hm; replace h31_0_1 := h31_0_1.md0 hm; replace uQ := uQ.md hm; replace M := M.step0 hm; clear uQ; have uQ := uQ2; clear uQ2 sQ sT; have p_ha15 : Fsh [] w ba15 := .inr ga15; replace ha15 : Blk _ _ (CRec.cells (({ epoch := 0, marks := [] } : CRec)) (.slice none 0 0)) _ := ha15; have okz34 : CRec.ok (({ epoch := 0, marks := [] } : CRec)) := (by first | exact (by decide) | exact (by first | assumption | exact (show (({ epoch := 0, marks := [] } : CRec)).epoch < 18446744073709551616 from (by first | omega | (simp <;> omega) | simp_all)))); refine st_storeAgg (us := (CRec.cells x31_0 v31_0_0)) rfl rfl (by exact agg54) (by first | exact fun u hu => one_cells (CRec.one h31_0_1.oneCell) u hu | exact fun u hu => one_cells rfl u hu) ha15 (Nat.le_of_ble_eq_true rfl) ?_; have ha150 := ha15; clear ha15; intro w35 hm ha15; have hS : ∀ b ∈ [ba15], ¬ Q33 b := (by intro b hb; simp at hb; subst hb; exact n_ha15); replace FO1 := FO1.md hm (fun x hx => by rw [List.mem_singleton]; rintro rfl; exact nf_ha15_FO1 hx) hS; replace h0 := h0.md hm hS; replace hd9 := hd9.md hm hS; replace hd14 := hd14.md hm hS; replace h15_0_1 := h15_0_1.md hm hS; replace ha11 := ha11.md hm (by intro hb; simp at hb; omega); replace h24_0_1 := h24_0_1.md hm hS; replace ha12 := ha12.md hm (by intro hb; simp at hb; omega); replace h30_0 := h30_0.md hm hS; replace h31_0_1 := h31_0_1.md hm hS; replace uQ := uQ.md hm; replace M := M.step hm (all_cons p_ha15 all_nil); clear ha150 hS; replace ha15 : Blk _ _ (CRec.cells x31_0 v31_0_0) _ := ha15; refine asg rfl ?_
                    refine nt ?_; refine c_seq ?_; refine ns ?_; refine mv rfl ?_; refine st _ (r_neN (a := x31_1) (b := 0) rfl rfl) ?_; refine mv rfl ?_; refine part_n (t := 82) rfl (fun h82 => ?_) (fun h82 => ?_)
                    · (first | (have h82n := of_decide_eq_true h82) | (have h82n := of_decide_eq_false (bnt h82)) | (have h82n := bnt h82) | (have h82n := h82)); exfalso; omega
                    · (first | (have h82n := of_decide_eq_false h82) | (have h82n := of_decide_eq_true (bnf h82)) | (have h82n := bnf h82) | (have h82n := h82)); refine st_g _ rfl rfl rfl h82 (r_loadPart (CRec.cells x31_0 v31_0_0) rfl (by exact agg54) ha15 rfl) ?_; refine st_g _ rfl rfl rfl h82 (r_loadPart (CRec.cells x15_0 v15_0_0) rfl (by exact agg54) ha11 rfl) ?_; refine st_call_g rfl rfl rfl h82 fn39 rfl (rSame_any uQ x31_0 q31_0_0 h31_0_1 x15_0 q15_0_0 h15_0_1) ?_; rintro en w36 ⟨x36_0, rfl, hm, hF36⟩; refine ⟨_, rfl, ?_⟩; replace FO1 := FO1.md0 hm; replace h0 := h0.md0 hm; replace hd9 := hd9.md0 hm; replace hd14 := hd14.md0 hm; replace h15_0_1 := h15_0_1.md0 hm; replace ha11 := ha11.md0 hm; replace h24_0_1 := h24_0_1.md0 hm; replace ha12 := ha12.md0 hm; replace h30_0 := h30_0.md0 hm; replace h31_0_1 := h31_0_1.md0 hm; replace ha15 := ha15.md0 hm; replace uQ := uQ.md hm; replace M := M.step0 hm; have syl := hF36; rw [yl, decide_eq_true rfl] at syl; refine st_g _ rfl rfl rfl h82 (r_not rfl) ?_; refine st _ (r_pick_f rfl h82 rfl) ?_; refine mv rfl ?_; refine part_n (t := 88) rfl (fun h88 => ?_) (fun h88 => ?_)
                      · (first | (have h88n := of_decide_eq_true h88) | (have h88n := of_decide_eq_false (bnt h88)) | (have h88n := bnt h88) | (have h88n := h88)); exfalso; rw [← syl] at h88; simp at h88
                      · (first | (have h88n := of_decide_eq_false h88) | (have h88n := of_decide_eq_true (bnf h88)) | (have h88n := bnf h88) | (have h88n := h88)); refine st_g _ rfl rfl rfl h88 (r_move rfl) ?_; refine st_g _ rfl rfl rfl h88 (r_len rfl u36 h30_0.shp) ?_; refine st_g _ rfl rfl rfl h88 (r_ltN (a := x30_0.length) (b := 17) rfl rfl) ?_; refine st _ (r_pick_f rfl h88 rfl) ?_; refine nt ?_; refine c_if rfl (fun h92 => ?_) (fun h92 => ?_)
                        · (first | (have h92n := of_decide_eq_true h92) | (have h92n := of_decide_eq_false (bnt h92)) | (have h92n := bnt h92) | (have h92n := h92)); exfalso; omega
                        · (first | (have h92n := of_decide_eq_false h92) | (have h92n := of_decide_eq_true (bnf h92)) | (have h92n := bnf h92) | (have h92n := h92)); refine c_skip ?_; refine c_then ?_; refine ns ?_; refine mv rfl ?_; refine st_call fn43 rfl (kMBytes_any uQ h30_0 (by first | omega | (simp <;> omega) | (simp at * <;> omega))) ?_; rintro en w37 ⟨v37_0, x37_0, Q38, rfl, hm, ⟨sQ, sT, uQ2⟩, h37_0, hF37⟩; refine ⟨_, rfl, ?_⟩; have nf_h37_0_FO1 : ∀ x, vblock v37_0 = some x → x ∉ fp22 := fun x hx hm9 => by have h3 := (FO1.lt x hm9).1; have h4 := (h37_0.2 x hx).1.elim (fun h => by simp at h) id; omega
                          replace FO1 := FO1.sub sQ sT; replace h0 := h0.sub sQ; replace hd9 := hd9.sub sQ; replace hd14 := hd14.sub sQ; replace h15_0_1 := h15_0_1.sub sQ; replace n_ha11 := fun hh => n_ha11 (sT _ hh); replace h24_0_1 := h24_0_1.sub sQ; replace n_ha12 := fun hh => n_ha12 (sT _ hh); replace h30_0 := h30_0.sub sQ; replace h31_0_1 := h31_0_1.sub sQ; replace n_ha15 := fun hh => n_ha15 (sT _ hh); replace tQ := fun b hb => tQ b (sT b hb); replace sQ0 := fun b hb hl => sQ b (sQ0 b hb hl) (Nat.lt_of_lt_of_le hl M.size); replace h37_0 := h37_0.lower (Fsh.lift (S' := []) M); replace FO1 := FO1.md0 hm; replace h0 := h0.md0 hm; replace hd9 := hd9.md0 hm; replace hd14 := hd14.md0 hm; replace h15_0_1 := h15_0_1.md0 hm; replace ha11 := ha11.md0 hm; replace h24_0_1 := h24_0_1.md0 hm; replace ha12 := ha12.md0 hm; replace h30_0 := h30_0.md0 hm; replace h31_0_1 := h31_0_1.md0 hm; replace ha15 := ha15.md0 hm; replace uQ := uQ.md hm; replace M := M.step0 hm; clear uQ; have uQ := uQ2; clear uQ2 sQ sT; have lc := congrArg List.length hF37; refine asg rfl ?_; refine nt ?_; refine ns ?_; refine mv rfl ?_; refine mv rfl ?_; refine st _ (r_len rfl u36 h37_0.shp) ?_; refine st _ (r_mulN (a := 8) (b := x37_0.length) 9223372036854775808 rfl rfl rfl (by omega)) ?_; refine st _ (r_subN (a := (8 * x37_0.length)) (b := 31) 9223372036854775808 rfl rfl rfl (by omega)) ?_; refine st_call fn14 rfl (kNumber_any uQ (at_) (by omega) ((8 * x37_0.length) - 31) (by first | omega | (simp <;> omega)) (by first | omega | (simp <;> omega) | (simp at * <;> omega))) ?_; rintro en w39 ⟨x39_0, rfl, hm, q39_0, hF39⟩; refine ⟨_, rfl, ?_⟩; replace FO1 := FO1.md0 hm; replace h0 := h0.md0 hm; replace hd9 := hd9.md0 hm; replace hd14 := hd14.md0 hm; replace h15_0_1 := h15_0_1.md0 hm; replace ha11 := ha11.md0 hm; replace h24_0_1 := h24_0_1.md0 hm; replace ha12 := ha12.md0 hm; replace h30_0 := h30_0.md0 hm; replace h31_0_1 := h31_0_1.md0 hm; replace ha15 := ha15.md0 hm; replace h37_0 := h37_0.md0 hm; replace uQ := uQ.md hm; replace M := M.step0 hm; have a39_0 := numF_lt at_ ((8 * x37_0.length) - 31); rw [hF39] at a39_0; try simp only [List.length_cons, List.length_nil, List.length_append, List.length_replicate, Nat.zero_add, Nat.reduceAdd, Nat.reduceMul] at a39_0
                          refine asg rfl ?_; refine nt ?_; refine c_seq ?_; refine ns ?_; refine asg rfl ?_; refine nt ?_; refine c_block ?_; refine loop3 (fun (vc : Value) (c : List UInt8) (k : Nat) => [(17, vc), (19, (.int .i64 ((k : Nat) : Int))), (0, v0), (1, (.int .i64 (at_ : Int))), (2, (.int .u32 ((bits : Nat) : Int))), (7, (.bool x1_0)), (8, (.pointer (some ⟨bFO1, 0, none⟩))), (10, (.int .i64 ((i : Nat) : Int))), (11, (.pointer (some ⟨ba11, 0, none⟩))), (12, (.pointer (some ⟨ba12, 0, none⟩))), (13, (.int .i64 ((x24_1 : Nat) : Int))), (14, v30_0), (15, (.pointer (some ⟨ba15, 0, none⟩))), (16, (.int .i64 ((x31_1 : Nat) : Int))), (18, (.int .i64 ((x39_0 : Nat) : Int))), (37, (.int .i64 ((i : Nat) : Int))), (38, v0), (39, (.int .i64 ((l.length : Nat) : Int))), (40, (.bool ((decide (i < l.length))))), (43, v0), (44, (.int .i64 ((i : Nat) : Int))), (46, v8), (47, (.int .i64 ((x6.length : Nat) : Int))), (48, (.bool ((decide (30 < x6.length))))), (49, v0), (50, (.int .i64 ((i : Nat) : Int))), (52, v13), (53, (.agg (CRec.cells x15_0 v15_0_0).toArray)), (54, (.pointer (some ⟨bFO1, 0, none⟩))), (55, (.agg (CRec.cells x15_0 v15_0_0).toArray)), (56, (.int .i64 ((x20_0 : Nat) : Int))), (57, (.bool ((decide (x20_0 ≠ 0))))), (58, (.pointer (some ⟨bFO1, 0, none⟩))), (61, (.pointer (some ⟨bFO1, 0, none⟩))), (63, (.agg (CRec.cells x24_0 v24_0_0).toArray)), (64, (.int .i64 ((x24_1 : Nat) : Int))), (65, (.int .i64 ((x24_1 : Nat) : Int))), (66, (.bool ((decide (x24_1 ≠ 0))))), (67, (.bool ((decide (x24_1 ≠ 0))))), (68, (.agg (CRec.cells x24_0 v24_0_0).toArray)), (69, (.agg (CRec.cells x15_0 v15_0_0).toArray)), (70, (.bool x29_0)), (73, (.agg (CRec.cells x15_0 v15_0_0).toArray)), (74, v30_0), (76, v30_0), (78, (.agg (CRec.cells x31_0 v31_0_0).toArray)), (79, (.int .i64 ((x31_1 : Nat) : Int))), (80, (.int .i64 ((x31_1 : Nat) : Int))), (81, (.bool ((decide (x31_1 ≠ 0))))), (82, (.bool ((decide (x31_1 ≠ 0))))), (83, (.agg (CRec.cells x31_0 v31_0_0).toArray)), (84, (.agg (CRec.cells x15_0 v15_0_0).toArray)), (85, (.bool x36_0)), (89, v30_0), (90, (.int .i64 ((x30_0.length : Nat) : Int))), (91, (.bool ((decide (x30_0.length < 17))))), (92, (.bool ((decide (x30_0.length < 17))))), (93, v30_0), (95, (.int .i64 (at_ : Int))), (97, (.int .i64 ((x37_0.length : Nat) : Int))), (98, (.int .i64 ((8 * x37_0.length : Nat) : Int))), (99, (.int .i64 (((8 * x37_0.length) - 31 : Nat) : Int))), (100, (.int .i64 ((x39_0 : Nat) : Int)))]) (fun (vc : Value) (c : List UInt8) (k : Nat) w' => ∃ Q' : Nat → Prop, (∀ b, Q' b → Q b) ∧ (∀ b, Q b → b < w.heap.size → Q' b) ∧ Up w' Q' ∧ Md [] w w' ∧ Ow tB8 5 (Fsh [] w) w' Q' vc c ∧ Ls (tSl tInt) w' Q' v0 l ∧ FsO (7 * i + 17) fp22 w' Q' bFO1 m22 ∧ Blk w' ba11 (CRec.cells x15_0 v15_0_0) 54 ∧ Blk w' ba12 (CRec.cells x24_0 v24_0_0) 54 ∧ Ls tB8 w' Q' v30_0 x30_0 ∧ Blk w' ba15 (CRec.cells x31_0 v31_0_0) 54 ∧ Ls tInt w' Q' v8 x6 ∧ Ls tInt w' Q' v13 x6 ∧ Ls tMark w' Q' v15_0_0 x15_0.marks ∧ Ls tMark w' Q' v24_0_0 x24_0.marks ∧ Ls tMark w' Q' v31_0_0 x31_0.marks ∧ ¬ Q' ba11 ∧ ¬ Q' ba12 ∧ ¬ Q' ba15 ∧ (∀ x, vblock vc = some x → x ∉ fp22) ∧ Spoilt x30_0 c x39_0 bits k ∧ k ≤ 32 ∧ c.length = x30_0.length) (fun (vc : Value) (c : List UInt8) (k : Nat) => 32 - k) (x0 := v37_0) (x1 := x37_0) (x2 := 0) ?_ ?_ ?_
                          · exact ⟨rfl, rfl, rfl, rfl, rfl, rfl, rfl, rfl, rfl, rfl, rfl, rfl, rfl, rfl, rfl, rfl, rfl, rfl, rfl, rfl, rfl, rfl, rfl, rfl, rfl, rfl, rfl, rfl, rfl, rfl, rfl, rfl, rfl, rfl, rfl, rfl, rfl, rfl, rfl, rfl, rfl, rfl, rfl, rfl, rfl, rfl, rfl, rfl, rfl, rfl, rfl, rfl, rfl, rfl, rfl, rfl, rfl, rfl, rfl, rfl, rfl, rfl, rfl, trivial⟩
                          · exact ⟨Q38, tQ, sQ0, uQ, M, h37_0, h0, FO1, ha11, ha12, h30_0, ha15, hd9, hd14, h15_0_1, h24_0_1, h31_0_1, n_ha11, n_ha12, n_ha15, nf_h37_0_FO1, (by rw [← hF37]; exact Spoilt.start _ _ _), (by omega), (by omega)⟩
                          · clear M uQ tQ sQ0 n_ha11 n_ha12 n_ha15 FO1 h0 hd9 hd14 h15_0_1 ha11 h24_0_1 ha12 h30_0 h31_0_1 ha15 h37_0
                            rintro vc c k B w40 ⟨Q41, tQ, sQ0, uQ, M, f_c, h0, FO1, ha11, ha12, h30_0, ha15, hd9, hd14, h15_0_1, h24_0_1, h31_0_1, n_ha11, n_ha12, n_ha15, nf_f_c_FO1, i1_0, i1_1, i1_2⟩; refine c_seq ?_; refine ns ?_; refine mv rfl ?_; refine st _ (r_ltN (a := k) (b := 32) rfl rfl) ?_; refine nt ?_; refine c_if rfl (fun h102 => ?_) (fun h102 => ?_)
                            · (first | (have h102n := of_decide_eq_true h102) | (have h102n := of_decide_eq_false (bnt h102)) | (have h102n := bnt h102) | (have h102n := h102)); refine c_skip ?_; refine c_then ?_; refine c_seq ?_; refine c_block ?_; refine ns ?_; refine mv rfl ?_; refine mv rfl ?_; refine st _ (r_convN (a := k) 18446744073709551616 rfl (by rw [u3]; rfl) u74 rfl (by first | omega | (have := u8lt; omega))) ?_; refine st _ (r_shrN (a := bits) (b := k) 32 rfl rfl rfl (by omega)) ?_; refine st _ (r_andN (a := (bits / 2 ^ k)) (b := 1) 4294967296 rfl rfl rfl rfl (by have := Nat.div_le_self bits (2 ^ k); omega)) ?_; refine st _ (r_eqN (a := ((bits / 2 ^ k) &&& 1)) (b := 1) rfl rfl) ?_; refine nt ?_; refine c_if rfl (fun h110 => ?_) (fun h110 => ?_)
                              · (first | (have h110n := of_decide_eq_true h110) | (have h110n := of_decide_eq_false (bnt h110)) | (have h110n := bnt h110) | (have h110n := h110)); refine c_region ?_; refine mv rfl ?_; refine mv rfl ?_; refine mv rfl ?_; refine st _ (r_addN (a := x39_0) (b := k) 9223372036854775808 rfl rfl rfl (by omega)) ?_; refine st _ (r_quoN (a := (x39_0 + k)) (b := 8) 9223372036854775808 rfl rfl rfl (by omega)) ?_; refine mv rfl ?_; refine mv rfl ?_; refine mv rfl ?_; refine st _ (r_addN (a := x39_0) (b := k) 9223372036854775808 rfl rfl rfl (by omega)) ?_; refine st _ (r_quoN (a := (x39_0 + k)) (b := 8) 9223372036854775808 rfl rfl rfl (by omega)) ?_; refine st _ (r_indexN (i := (x39_0 + k) / 8) 1 rfl rfl u36 el5 f_c.shp (by omega)) ?_; obtain ⟨x42, hx42⟩ := getE (l := c) (i := (x39_0 + k) / 8) (by first | omega | (simp <;> omega)); obtain ⟨c43, hr42, ha42⟩ := f_c.get hx42; obtain ⟨rfl, _⟩ := hr42; have yx42 := UInt8.toNat_lt x42; replace ha42 : At _ vc (((x39_0 + k) / 8) * 1) [(b8 x42)] := ha42; refine st _ ((r_loadE (kk := ((x39_0 + k) / 8) * 1) 0 rfl rfl one5 ha42 rfl).to (b := (b8 x42)) rfl) ?_; refine mv rfl ?_; refine mv rfl ?_; refine st _ (r_addN (a := x39_0) (b := k) 9223372036854775808 rfl rfl rfl (by omega)) ?_; refine st _ (r_remN (a := (x39_0 + k)) (b := 8) rfl rfl (by omega)) ?_; refine st _ (r_convN (a := (x39_0 + k) % 8) 18446744073709551616 rfl (by rw [u3]; rfl) u74 rfl (by first | omega | (have := u8lt; omega))) ?_; refine st _ ((r_shlW (a := 1) (b := ((x39_0 + k) % 8)) 256 rfl rfl 8 rfl rfl rfl (by omega)).to (b8_of _)) ?_; refine st _ ((r_xorN (a := x42.toNat) (b := (UInt8.ofNat (1 * 2 ^ ((x39_0 + k) % 8))).toNat) 256 rfl rfl rfl rfl (by have := UInt8.toNat_lt x42; have := UInt8.toNat_lt (UInt8.ofNat (1 * 2 ^ ((x39_0 + k) % 8))); omega)).cast (xor_b8 x42 (UInt8.ofNat (1 * 2 ^ ((x39_0 + k) % 8))))) ?_; refine st _ (r_indexN (i := (x39_0 + k) / 8) 1 rfl rfl u36 el5 f_c.shp (by omega)) ?_; obtain ⟨c45, hr46, ha46⟩ := f_c.get hx42; obtain ⟨rfl, _⟩ := hr46; have yx42 := UInt8.toNat_lt x42; replace ha46 : At _ vc (((x39_0 + k) / 8) * 1) [(b8 x42)] := ha46; refine st_storeOw (T := tB8) (z := (x42 ^^^ UInt8.ofNat (1 * 2 ^ ((x39_0 + k) % 8)))) (i := (x39_0 + k) / 8) (k := ((x39_0 + k) / 8) * 1) rfl rfl rfl one5 f_c ⟨rfl, trivial⟩ (by omega) ?_; intro w47 hm hS f_c2; have f_c0 := f_c; clear f_c; have f_c := f_c2; clear f_c2; replace h0 := h0.md hm hS
                                replace FO1 := FO1.md hm (fun x hx hm9 => nf_f_c_FO1 x (by simpa using hm9) hx) hS; replace ha11 := ha11.md hm (apart_ow f_c0 ha11 (by decide)); replace ha12 := ha12.md hm (apart_ow f_c0 ha12 (by decide)); replace h30_0 := h30_0.md hm hS; replace ha15 := ha15.md hm (apart_ow f_c0 ha15 (by decide)); replace hd9 := hd9.md hm hS; replace hd14 := hd14.md hm hS; replace h15_0_1 := h15_0_1.md hm hS; replace h24_0_1 := h24_0_1.md hm hS; replace h31_0_1 := h31_0_1.md hm hS; clear ha42; clear ha46; replace uQ := uQ.md hm; replace M := M.stepO hm (fun b hb => (f_c0.2 b hb).1); clear f_c0 hS; refine st_nil ?_; refine n_block ?_; refine c_then ?_; refine c_region ?_; refine mv rfl ?_; refine st _ (r_addN (a := k) (b := 1) 9223372036854775808 rfl rfl rfl (by omega)) ?_; refine asg rfl ?_; refine nt ?_; refine next3 (x0 := vc) (x1 := (c.set ((x39_0 + k) / 8) ((x42 ^^^ UInt8.ofNat (1 * 2 ^ ((x39_0 + k) % 8)))))) (x2 := (k + 1)) (by omega) ⟨rfl, (fitI rfl (by omega)), rfl, rfl, rfl, rfl, rfl, rfl, rfl, rfl, rfl, rfl, rfl, rfl, rfl, rfl, rfl, rfl, rfl, rfl, rfl, rfl, rfl, rfl, rfl, rfl, rfl, rfl, rfl, rfl, rfl, rfl, rfl, rfl, rfl, rfl, rfl, rfl, rfl, rfl, rfl, rfl, rfl, rfl, rfl, rfl, rfl, rfl, rfl, rfl, rfl, rfl, rfl, rfl, rfl, rfl, rfl, rfl, rfl, rfl, rfl, rfl, rfl, trivial⟩ ⟨Q41, tQ, sQ0, uQ, M, f_c, h0, FO1, ha11, ha12, h30_0, ha15, hd9, hd14, h15_0_1, h24_0_1, h31_0_1, n_ha11, n_ha12, n_ha15, nf_f_c_FO1, (i1_0.turn (by rw [Nat.and_one_is_mod] at h110n; exact h110n) (by omega) hx42 (ofPow (by omega))), (by omega), (by first | omega | (rw [List.length_set]; omega))⟩
                              · (first | (have h110n := of_decide_eq_false h110) | (have h110n := of_decide_eq_true (bnf h110)) | (have h110n := bnf h110) | (have h110n := h110)); refine c_skip ?_; refine n_block ?_; refine c_then ?_; refine c_region ?_; refine mv rfl ?_; refine st _ (r_addN (a := k) (b := 1) 9223372036854775808 rfl rfl rfl (by omega)) ?_; refine asg rfl ?_; refine nt ?_; refine next3 (x0 := vc) (x1 := c) (x2 := (k + 1)) (by omega) ⟨rfl, (fitI rfl (by omega)), rfl, rfl, rfl, rfl, rfl, rfl, rfl, rfl, rfl, rfl, rfl, rfl, rfl, rfl, rfl, rfl, rfl, rfl, rfl, rfl, rfl, rfl, rfl, rfl, rfl, rfl, rfl, rfl, rfl, rfl, rfl, rfl, rfl, rfl, rfl, rfl, rfl, rfl, rfl, rfl, rfl, rfl, rfl, rfl, rfl, rfl, rfl, rfl, rfl, rfl, rfl, rfl, rfl, rfl, rfl, rfl, rfl, rfl, rfl, rfl, rfl, trivial⟩ ⟨Q41, tQ, sQ0, uQ, M, f_c, h0, FO1, ha11, ha12, h30_0, ha15, hd9, hd14, h15_0_1, h24_0_1, h31_0_1, n_ha11, n_ha12, n_ha15, nf_f_c_FO1, (i1_0.skip (by rw [Nat.and_one_is_mod] at h110n; omega)), (by omega), (by first | omega | (rw [List.length_set]; omega))⟩
                            · (first | (have h102n := of_decide_eq_false h102) | (have h102n := of_decide_eq_true (bnf h102)) | (have h102n := bnf h102) | (have h102n := h102)); refine c_exit ?_; refine x_then ?_; refine x_then ?_; refine x_hit ?_; refine c_then ?_; refine ns ?_; refine mv rfl ?_; obtain ⟨Q48, fQ, fT, f_cz⟩ := f_c.freeze; replace h0 := h0.sub (fun b hb _ => fQ b hb); replace FO1 := FO1.subF fQ fT nf_f_c_FO1; replace n_ha11 := fun hh => (fT _ hh).elim n_ha11 (nfz (apart_ow f_c ha11 (by decide))); replace n_ha12 := fun hh => (fT _ hh).elim n_ha12 (nfz (apart_ow f_c ha12 (by decide))); replace h30_0 := h30_0.sub (fun b hb _ => fQ b hb); replace n_ha15 := fun hh => (fT _ hh).elim n_ha15 (nfz (apart_ow f_c ha15 (by decide))); replace hd9 := hd9.sub (fun b hb _ => fQ b hb); replace hd14 := hd14.sub (fun b hb _ => fQ b hb); replace h15_0_1 := h15_0_1.sub (fun b hb _ => fQ b hb); replace h24_0_1 := h24_0_1.sub (fun b hb _ => fQ b hb); replace h31_0_1 := h31_0_1.sub (fun b hb _ => fQ b hb); replace tQ := fun b hb => (fT b hb).elim (tQ b) (fun hv => Fsh.up uQ0 b (f_c.2 b hv).1); replace sQ0 := fun b hb hl => fQ b (sQ0 b hb hl); replace uQ : Up w40 Q48 := fun b hb => fQ b (uQ b hb); clear f_c fQ fT; have f_c := f_cz; clear f_cz; refine st_call fn33 rfl (rRead_any uQ f_c (by first | omega | (simp <;> omega) | (simp at * <;> omega))) ?_; rintro en w49 ⟨v49_0_0, x49_0, x49_1, rfl, hm, q49_0_0, h49_0_1, q49_1, hF49⟩; refine ⟨_, rfl, ?_⟩; replace f_c := f_c.md0 hm; replace h0 := h0.md0 hm; replace FO1 := FO1.md0 hm; replace ha11 := ha11.md0 hm; replace ha12 := ha12.md0 hm; replace h30_0 := h30_0.md0 hm; replace ha15 := ha15.md0 hm; replace hd9 := hd9.md0 hm; replace hd14 := hd14.md0 hm; replace h15_0_1 := h15_0_1.md0 hm; replace h24_0_1 := h24_0_1.md0 hm; replace h31_0_1 := h31_0_1.md0 hm; replace uQ := uQ.md hm; replace M := M.step0 hm; have k32 : k = 32 := (by omega); rw [k32] at i1_0; have rs := read_spoilt hF30 i1_0 (by omega); rw [hF49] at rs; refine mv rfl ?_; refine st _ (r_extract rfl rfl) ?_; refine st _ (r_extract rfl rfl) ?_; refine asg rfl ?_; refine nt ?_; refine ns ?_; refine mv rfl ?_; refine st _ (r_eqN (a := x49_1) (b := 19) rfl rfl) ?_; refine mv rfl ?_; refine st _ (r_neN (a := bits) (b := 0) rfl rfl) ?_; refine st _ (r_neqBool u4 rfl rfl) ?_; refine nt ?_; refine c_if rfl (fun h140 => ?_) (fun h140 => ?_)
                              · (first | (have h140n := of_decide_eq_true h140) | (have h140n := of_decide_eq_false (bnt h140)) | (have h140n := bnt h140) | (have h140n := h140)); exfalso; simp [rs] at h140
                              · (first | (have h140n := of_decide_eq_false h140) | (have h140n := of_decide_eq_true (bnf h140)) | (have h140n := bnf h140) | (have h140n := h140)); refine c_skip ?_; refine n_block ?_; refine c_then ?_; refine c_region ?_; refine mv rfl ?_; refine st _ (r_addN (a := i) (b := 1) 9223372036854775808 rfl rfl rfl (by omega)) ?_; refine asg rfl ?_; refine nt ?_; refine next3 (x0 := fp22) (x1 := m22) (x2 := (i + 1)) (by omega) ⟨(fitI rfl (by omega)), rfl, rfl, rfl, rfl, rfl, trivial⟩ ⟨Q48, tQ, sQ0, uQ, M, (FO1.up (by omega)), r_FO1, h0, (hB2.bk (by assumption)), (by omega)⟩
          · (first | (have h40n := of_decide_eq_false h40) | (have h40n := of_decide_eq_true (bnf h40)) | (have h40n := bnf h40) | (have h40n := h40)); refine c_exit ?_; refine x_then ?_; refine x_then ?_; refine x_hit ?_; refine c_then ?_; refine ns ?_; refine mv rfl ?_; refine asg rfl ?_; refine nt ?_; refine c_ret ?_; exact ret1L (v := (.bool x1_0)) trivial rfl ⟨rfl, trivial⟩ ⟨x1_0, rfl, M, (by first | rfl | exact h22n.symm | exact h22n)⟩
end Go.Proofs.Ytcaokfendkkafaa
namespace Go.Wk
open Go Go.RowKit Go.ChangeShapes Go.WideShapes Go.ChangeAt Go.Deep

section
variable {H : Type} {enc : TypeId × Value → H} {P : Program} {w : World} {t f : TypeId} {v : Value} {d : DataW H} {ps : List MemPlace}
end
end Go.Wk
namespace Go.Wk
open Go Go.RowKit Go.ChangeShapes Go.WideShapes Go.ChangeAt Go.Deep
section
variable {H : Type} {enc : TypeId × Value → H} {P : Program} {w : World} {t e f : TypeId} {v : Value} {d : DataW H} {ps : List MemPlace} {spare : Nat → Bool} {base : Nat} {held : Bool}
theorem mapM_get {α : Type} (g : Nat → Option α) : ∀ (n o : Nat) (cs : List α), (List.range' o n).mapM g = some cs → cs.length = n ∧ ∀ i u, cs[i]? = some u → g (o + i) = some u
  | 0, o, cs, h => by simp at h; subst h; simp
  | n + 1, o, cs, h => by
    rw [List.range'_succ, List.mapM_cons] at h
    simp only [Option.bind_eq_bind, Option.pure_def, Option.bind_eq_some_iff] at h
    obtain ⟨x, hx, r, hr, hcs⟩ := h
    simp at hcs
    subst hcs
    obtain ⟨h1, h2⟩ := mapM_get g n (o + 1) r hr
    refine ⟨by simp [h1], fun i u hu => ?_⟩
    cases i with
    | zero => simp at hu; subst hu; exact hx
    | succ i => have := h2 i u (by simpa using hu); rw [show o + (i + 1) = o + 1 + i by omega]; exact this
theorem cells_get {a : Addr} {n : Nat} {cs : List Value} (h : w.cells? base a n = some cs) : cs.length = n ∧ ∀ i u, cs[i]? = some u → w.cell? (a.add i) = some u := by
  unfold World.cells? at h
  split at h
  · rw [List.range_eq_range'] at h
    obtain ⟨h1, h2⟩ := mapM_get _ n 0 cs h
    exact ⟨h1, fun i u hu => by have := h2 i u hu; rwa [Nat.zero_add] at this⟩
  · cases h
end
theorem int_bd {z : Int} (h : (Lit.int .i64 z).wf = true) : -9223372036854775808 ≤ z ∧ z < 9223372036854775808 := by
  simp [Lit.wf, IntKind.min, IntKind.max, IntKind.signed, IntKind.bits] at h
  omega
end Go.Wk
namespace Go.Wk
open Go Go.RowKit Go.ChangeShapes Go.WideShapes Go.ChangeAt Go.Deep
section
variable {H : Type} {enc : TypeId × Value → H} {P : Program} {w : World} {spare : Nat → Bool} {base : Nat} {held : Bool} {t e : TypeId} {α β : Type}
/-- What is read at a type is a datum of a kind. -/
def Rd0 (enc : TypeId × Value → H) (P : Program) (w : World) (base : Nat) (spare : Nat → Bool) (held : Bool) (t : TypeId) (T : Dt α) : Prop :=
  ∀ (fuel : Nat) (cs : List Value) (x : DataW H × List MemPlace), DataW.trod enc P w base spare held fuel t cs = some x → ∃ y, T.rep w (fun _ => True) cs y
theorem rd0_int (ht : P.underlying t = some (.int .i64)) : Rd0 enc P w base spare held t tInt := by
  intro fuel cs x h
  obtain ⟨n, rfl, _, hw⟩ := DataW.trod_int ht h
  refine ⟨n, rfl, ?_⟩
  have := hw
  simp [Lit.wf, IntKind.min, IntKind.max, IntKind.signed, IntKind.bits] at this
  omega
theorem els_of0 {T : Dt α} {Q : Nat → Prop} {a : Addr} : ∀ (l : List (α × List Value)) (o : Nat), (∀ i y, l[i]? = some y → T.rep w Q y.2 y.1 ∧ ∀ j u, y.2[j]? = some u → w.cell? (a.add ((o + i) * T.n + j)) = some u) →
    Els T w Q (l.flatMap Prod.snd) (l.map Prod.fst) ∧ ∀ j u, (l.flatMap Prod.snd)[j]? = some u → w.cell? (a.add (o * T.n + j)) = some u
  | [], o, _ => ⟨rfl, by simp⟩
  | y :: r, o, h => by
    obtain ⟨h1, h2⟩ := h 0 y rfl
    obtain ⟨g1, g2⟩ := els_of0 r (o + 1) fun i z hz => by have := h (i + 1) z hz; rwa [show o + (i + 1) = o + 1 + i by omega] at this
    have hl := T.len h1
    rw [List.flatMap_cons, List.map_cons]
    refine ⟨⟨y.2, _, rfl, h1, g1⟩, fun j u hj => ?_⟩
    by_cases hjl : j < y.2.length
    · rw [List.getElem?_append_left hjl] at hj
      have := h2 j u hj
      rwa [Nat.add_zero] at this
    · rw [List.getElem?_append_right (by omega)] at hj
      have := g2 _ u hj
      rwa [Nat.add_mul, Nat.one_mul, hl, show o * T.n + T.n + (j - T.n) = o * T.n + j by omega] at this
theorem rd0_slice {T : Dt α} (ht : P.underlying t = some (.slice e)) (hn : P.cellsOf e = T.n) (hT : Rd0 enc P w base spare held e T) : Rd0 enc P w base spare held t (tSl T) := by
  intro fuel cs x h
  rcases open_slice ht h with ⟨rfl, rfl⟩ | ⟨a, len, cap, m, n, D, Pl, rfl, _, hl, hm, hmm, rfl, hel⟩
  · exact ⟨[], _, rfl, Ls.nil _ _ _⟩
  · have hlm : len ≤ m := by rw [hmm]; split <;> omega
    have key : ∀ i, i < len → ∃ y : α × List Value, w.cells? base (a.add (i * T.n)) T.n = some y.2 ∧ T.rep w (fun _ => True) y.2 y.1 := by
      intro i hi
      obtain ⟨cs', h1, h2⟩ := hel i (by omega)
      obtain ⟨y, h3⟩ := hT n cs' _ h2
      exact ⟨(y, cs'), by rwa [hn] at h1, h3⟩
    obtain ⟨l, hll, hp⟩ := exists_list _ len key
    obtain ⟨g1, g2⟩ := els_of0 (w := w) (T := T) (Q := fun _ => True) (a := a) l 0 fun i y hy => by
      obtain ⟨k1, k2⟩ := hp i y hy
      refine ⟨k2, fun j u hj => ?_⟩
      have := (cells_get k1).2 j u hj
      rwa [Addr.add_add, show i * T.n + j = (0 + i) * T.n + j by rw [Nat.zero_add]] at this
    refine ⟨l.map Prod.fst, _, rfl, some a, cap, l.flatMap Prod.snd, by simp [hll], by simp; omega, hm, by simp, fun _ _ _ => trivial, fun q hq j u hj => ?_, g1⟩
    cases hq
    have := g2 j u hj
    rwa [Nat.zero_mul, Nat.zero_add] at this
/-- A row of data that comes in. -/
theorem open_row {T : Dt α} {b0 : Nat} {v : Value} {d : DataW H} {ps : List MemPlace} (ht : P.underlying t = some (.slice e)) (hc : P.cellsOf e = T.n) (hT : Rd0 enc P w base spare held e T) (hv : Value.okWide P w .any b0 t v) (h : DataW.Trod enc P w base spare held t v d ps) :
    ∃ l : List α, Ls T w (fun _ => True) v l := by
  obtain ⟨a0, len0, cap0, rfl⟩ := okWide_slice ht hv
  obtain ⟨fuel, hf'⟩ := h
  obtain ⟨l, v0, k1, k2⟩ := rd0_slice ht hc hT fuel _ _ hf'
  simp [Value.cells] at k1
  exact ⟨l, by rw [k1]; exact k2⟩
theorem u32_ofD {z : Int} (h : (Lit.int .u32 z).wf = true) : Value.int .u32 z = .int .u32 ((z.toNat : Nat) : Int) ∧ z.toNat < 4294967296 := by
  simp [Lit.wf, IntKind.min, IntKind.max, IntKind.signed, IntKind.bits] at h
  exact ⟨by rw [Int.toNat_of_nonneg (by omega)], by omega⟩
end
end Go.Wk
