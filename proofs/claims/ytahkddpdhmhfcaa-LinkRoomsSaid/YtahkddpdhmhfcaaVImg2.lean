/- Walks of functions: what each call returns, over data. -/
import Derived.Test.YtahkddpdhmhfcaaRows
import Derived.Test.YtahkddpdhmhfcaaVImg
namespace Go.Proofs.Ytahkddpdhmhfcaa
open Go Go.Wk Go.RowKit
set_option linter.unusedVariables false
set_option linter.unusedSimpArgs false
attribute [local irreducible] wpList wpQuiet wpStill wpMix Code.wp Calls bodyPost
theorem fn12 : isFn Try.prog 12 = true := by kernel_rfl
theorem fn13 : isFn Try.prog 13 = true := by kernel_rfl
theorem pl53 : bplace Try.prog 53 = some [(0, 1), (1, 1)] := by kernel_rfl
theorem z53 : zcells Try.prog 53 = some [.slice none 0 0, .int .i64 0] := by kernel_rfl

theorem kImage0_any {w : World} {Q : Nat → Prop} (uQ : Up w Q) {v0 : Value} {l : List Int} (h0 : Ls tInt w Q v0 l) (p0 : l.length ≤ 1000000) :
    Calls Try.prog 7 #[v0, .int .i64 ((0 : Nat) : Int)] w fun en w' => ∃ u0 : Value, ∃ r0 : List UInt8, en = .returned u0 ∧ Md [] w w' ∧ Ls tB8 w' Q u0 r0 ∧ imageOf l 0 = r0 := by
  refine enter (n := 17) Try.func7 rfl rfl rfl ?_
  intro B
  have L0 := h0.len63
  refine c_seq ?_
  refine c_region ?_
  refine st _ (r_assign rfl) ?_
  refine st_nil ?_
  refine c_then ?_
  refine c_seq ?_
  refine c_region ?_
  refine st _ (r_move rfl) ?_
  refine st (.agg (Sq.cells { l := l, pos := 0 } v0).toArray) (r_build (cs := Sq.cells { l := l, pos := 0 } v0) (ps := [(0, 0)]) z53 pl53 rfl rfl (by simp [OneAll, h0.oneCell]) rfl rfl rfl) ?_
  refine st_box (cs := Sq.cells { l := l, pos := 0 } v0) rfl rfl ?_
  intro b w1 gb lb hm hB
  obtain ⟨Q1, s1, t1, n1, u1⟩ := exQ uQ gb lb hm
  replace h0 := (h0.sub s1).md0 hm
  have M := hm
  refine st _ (r_move rfl) ?_
  refine st_call fn12 rfl (kMaker0_any u1 { l := l, pos := 0 } hB n1 (show Sq.ok _ from (by decide : (0 : Nat) < 9223372036854775808)) h0 0 (by decide) rfl) ?_
  rintro en w2 ⟨o0, x0, x1, x2, x3, m, y0, rs, s2, z0, Q2, rfl, hm2, ⟨q1, q2, u2⟩, hM, nM, gM, okM, hb, hd, hf, hmn, dj, hrs, hS, nS, okS, hSl, hF⟩; refine ⟨_, rfl, ?_⟩
  have M2 := M.step1 hm2 gb
  refine st _ (r_move rfl) ?_
  refine st _ (r_extract rfl rfl) ?_
  refine st _ (r_extract rfl rfl) ?_
  refine st _ (r_assign rfl) ?_
  refine st _ (r_assign rfl) ?_
  refine st_nil ?_
  refine c_then ?_
  refine c_seq ?_
  refine c_region ?_
  refine st _ (r_move rfl) ?_
  have hlen := maker0_len hF
  have hP : Pt tMk 79 w2 (fun _ => True) (.pointer (some ⟨o0, 0, none⟩)) m := ⟨_, _, rfl, trivial, hM, tMk_mk okM (hb.ls (fun _ _ => trivial) fun _ _ => trivial) (hd.ls (fun _ _ => trivial) fun _ _ => trivial) (hf.ls (fun _ _ => trivial) fun _ _ => trivial) (hmn.sub fun _ _ _ => trivial)⟩
  refine st_call fn13 rfl (mimage_any (Q := fun _ => True) (fun _ _ => trivial) hP 1 (by decide) hlen.1 (by omega)) ?_
  rintro en w3 ⟨u0, r0, Q3, rfl, hm3, kq, hO, hr⟩; refine ⟨_, rfl, ?_⟩
  refine st _ (r_assign rfl) ?_
  refine st_nil ?_
  refine c_then ?_
  refine c_ret ?_
  refine ret1 trivial rfl rfl ⟨_, r0, rfl, M2.step0 hm3, hO.lsB (uQ.md M2), ?_⟩
  unfold imageOf
  rw [hF]
  exact hr
end Go.Proofs.Ytahkddpdhmhfcaa
