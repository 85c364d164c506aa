/- Walks of functions: what each call returns, over data. -/
import Derived.Test.YtimakajeggeebaaRows
import Derived.Test.YtimakajeggeebaaVSeq
namespace Go.Proofs.Ytimakajeggeebaa
open Go Go.Wk Go.RowKit
set_option linter.unusedVariables false
set_option linter.unusedSimpArgs false
attribute [local irreducible] wpList wpQuiet wpStill wpMix Code.wp Calls bodyPost
theorem elT9 : elT Try.prog 9 1 16 = true := by kernel_rfl
theorem u67 : Try.prog.underlying 67 = some (.slice 9) := by kernel_rfl
theorem z23 : zcells Try.prog 23 = some [.int .u8 0, .int .u8 0, .int .u8 0, .int .u8 0, .int .u8 0, .int .u8 0, .int .u8 0, .int .u8 0, .int .u8 0, .int .u8 0, .int .u8 0, .int .u8 0, .int .u8 0, .int .u8 0, .int .u8 0, .int .u8 0] := by kernel_rfl

theorem kNames_any {w : World} {Q : Nat → Prop} (uQ : Up w Q)  :
    Calls Try.prog 64 #[] w fun en w' => ∃ u0 : Value, ∃ r0 : List (List UInt8), en = .returned (u0) ∧ Md [] w w' ∧ Ls tStr w' Q u0 r0 ∧ namesF = r0 := by
  have M := Md.refl [] w
  have uQ0 := uQ
  have tQ : ∀ b, Q b → Q b := fun _ h => h
  have sQ0 : ∀ b, Q b → b < w.heap.size → Q b := fun _ h _ => h
  refine enter (n := 2) Try.func64 rfl rfl rfl ?_
  intro B
  refine c_seq ?_
  refine c_region ?_
  refine st _ (r_assign rfl) ?_
  refine st_nil ?_
  refine c_then ?_
  refine c_seq ?_
  refine c_region ?_
  refine st_buildSliceG [[(str (([65] : List UInt8)))], [(str (([66] : List UInt8)))], [(str (([77, 69, 83, 83, 65, 71, 69] : List UInt8)))], [(str (([95, 80, 73, 68] : List UInt8)))], [(str (([88, 95, 49] : List UInt8)))], [(str (([80, 82, 73, 79, 82, 73, 84, 89] : List UInt8)))]] u67 elT9 (by decide) (by decide) rfl rfl ⟨rfl, rfl, rfl, rfl, rfl, rfl, trivial⟩ ⟨rfl, rfl, rfl, rfl, rfl, rfl, trivial⟩ rfl (by decide) ?_
  intro ba1 w1 ga1 la1 hm ha1
  have ya1 := uQ _ ga1
  replace uQ := uQ.md hm
  replace M := M.step0 hm
  replace ha1 := Ls.of_blk (m := 6) (R := Q) (T := tStr) (xs := [([65] : List UInt8), ([66] : List UInt8), ([77, 69, 83, 83, 65, 71, 69] : List UInt8), ([95, 80, 73, 68] : List UInt8), ([88, 95, 49] : List UInt8), ([80, 82, 73, 79, 82, 73, 84, 89] : List UInt8)]) ha1 ⟨_, _, rfl, ⟨rfl, trivial⟩, ⟨_, _, rfl, ⟨rfl, trivial⟩, ⟨_, _, rfl, ⟨rfl, trivial⟩, ⟨_, _, rfl, ⟨rfl, trivial⟩, ⟨_, _, rfl, ⟨rfl, trivial⟩, ⟨_, _, rfl, ⟨rfl, trivial⟩, rfl⟩⟩⟩⟩⟩⟩ rfl (by decide) ya1
  refine st _ (r_assign rfl) ?_
  refine st_nil ?_
  refine c_then ?_
  refine c_ret ?_
  exact ret1L (v := (.slice (some ⟨ba1, 0, none⟩) 6 6)) trivial rfl ⟨rfl, trivial⟩ ⟨_, ([([65] : List UInt8), ([66] : List UInt8), ([77, 69, 83, 83, 65, 71, 69] : List UInt8), ([95, 80, 73, 68] : List UInt8), ([88, 95, 49] : List UInt8), ([80, 82, 73, 79, 82, 73, 84, 89] : List UInt8)]), rfl, M, (ha1.sub (fun b hb _ => tQ b hb)), (by rw [namesF] <;> simp (disch := first | omega | assumption | (simp; done) | fail) only [if_pos, if_neg, Option.getD_some, Option.some.injEq, reduceIte, Bool.false_eq_true, Bool.true_eq_false, decide_true, decide_false, not_true_eq_false, not_false_eq_true])⟩
theorem kValues_any {w : World} {Q : Nat → Prop} (uQ : Up w Q)  :
    Calls Try.prog 66 #[] w fun en w' => ∃ u0 : Value, ∃ r0 : List (List UInt8), en = .returned (u0) ∧ Md [] w w' ∧ Ls tStr w' Q u0 r0 ∧ valuesF = r0 := by
  have M := Md.refl [] w
  have uQ0 := uQ
  have tQ : ∀ b, Q b → Q b := fun _ h => h
  have sQ0 : ∀ b, Q b → b < w.heap.size → Q b := fun _ h _ => h
  refine enter (n := 2) Try.func66 rfl rfl rfl ?_
  intro B
  refine c_seq ?_
  refine c_region ?_
  refine st _ (r_assign rfl) ?_
  refine st_nil ?_
  refine c_then ?_
  refine c_seq ?_
  refine c_region ?_
  refine st_buildSliceG [[(str (([] : List UInt8)))], [(str (([48] : List UInt8)))], [(str (([49] : List UInt8)))], [(str (([50, 50] : List UInt8)))], [(str (([97, 61, 98] : List UInt8)))], [(str (([111, 110, 101, 10, 116, 119, 111] : List UInt8)))], [(str (([0, 255] : List UInt8)))], [(str (([116, 97, 98, 9, 104, 101, 114, 101] : List UInt8)))], [(str (([108, 111, 110, 103, 32, 108, 111, 110, 103, 32, 108, 111, 110, 103, 32, 108, 111, 110, 103, 32, 108, 111, 110, 103, 32, 108, 111, 110, 103, 32, 108, 111, 110, 103] : List UInt8)))], [(str (([126, 127, 128] : List UInt8)))]] u67 elT9 (by decide) (by decide) rfl rfl ⟨rfl, rfl, rfl, rfl, rfl, rfl, rfl, rfl, rfl, rfl, trivial⟩ ⟨rfl, rfl, rfl, rfl, rfl, rfl, rfl, rfl, rfl, rfl, trivial⟩ rfl (by decide) ?_
  intro ba1 w1 ga1 la1 hm ha1
  have ya1 := uQ _ ga1
  replace uQ := uQ.md hm
  replace M := M.step0 hm
  replace ha1 := Ls.of_blk (m := 10) (R := Q) (T := tStr) (xs := [([] : List UInt8), ([48] : List UInt8), ([49] : List UInt8), ([50, 50] : List UInt8), ([97, 61, 98] : List UInt8), ([111, 110, 101, 10, 116, 119, 111] : List UInt8), ([0, 255] : List UInt8), ([116, 97, 98, 9, 104, 101, 114, 101] : List UInt8), ([108, 111, 110, 103, 32, 108, 111, 110, 103, 32, 108, 111, 110, 103, 32, 108, 111, 110, 103, 32, 108, 111, 110, 103, 32, 108, 111, 110, 103, 32, 108, 111, 110, 103] : List UInt8), ([126, 127, 128] : List UInt8)]) ha1 ⟨_, _, rfl, ⟨rfl, trivial⟩, ⟨_, _, rfl, ⟨rfl, trivial⟩, ⟨_, _, rfl, ⟨rfl, trivial⟩, ⟨_, _, rfl, ⟨rfl, trivial⟩, ⟨_, _, rfl, ⟨rfl, trivial⟩, ⟨_, _, rfl, ⟨rfl, trivial⟩, ⟨_, _, rfl, ⟨rfl, trivial⟩, ⟨_, _, rfl, ⟨rfl, trivial⟩, ⟨_, _, rfl, ⟨rfl, trivial⟩, ⟨_, _, rfl, ⟨rfl, trivial⟩, rfl⟩⟩⟩⟩⟩⟩⟩⟩⟩⟩ rfl (by decide) ya1
  refine st _ (r_assign rfl) ?_
  refine st_nil ?_
  refine c_then ?_
  refine c_ret ?_
  exact ret1L (v := (.slice (some ⟨ba1, 0, none⟩) 10 10)) trivial rfl ⟨rfl, trivial⟩ ⟨_, ([([] : List UInt8), ([48] : List UInt8), ([49] : List UInt8), ([50, 50] : List UInt8), ([97, 61, 98] : List UInt8), ([111, 110, 101, 10, 116, 119, 111] : List UInt8), ([0, 255] : List UInt8), ([116, 97, 98, 9, 104, 101, 114, 101] : List UInt8), ([108, 111, 110, 103, 32, 108, 111, 110, 103, 32, 108, 111, 110, 103, 32, 108, 111, 110, 103, 32, 108, 111, 110, 103, 32, 108, 111, 110, 103, 32, 108, 111, 110, 103] : List UInt8), ([126, 127, 128] : List UInt8)]), rfl, M, (ha1.sub (fun b hb _ => tQ b hb)), (by rw [valuesF] <;> simp (disch := first | omega | assumption | (simp; done) | fail) only [if_pos, if_neg, Option.getD_some, Option.some.injEq, reduceIte, Bool.false_eq_true, Bool.true_eq_false, decide_true, decide_false, not_true_eq_false, not_false_eq_true])⟩
theorem kID_any {w : World} {Q : Nat → Prop} (uQ : Up w Q) (k : Int) (a0 : (-9223372036854775808 ≤ k ∧ k < 9223372036854775808)) :
    Calls Try.prog 116 #[(.int .i64 (k : Int))] w fun en w' => ∃ r0 : List UInt8, en = .returned (.agg (idc r0).toArray) ∧ Md [] w w' ∧ r0.length = 16 ∧ idF k = r0 := by
  have M := Md.refl [] w
  have uQ0 := uQ
  have tQ : ∀ b, Q b → Q b := fun _ h => h
  have sQ0 : ∀ b, Q b → b < w.heap.size → Q b := fun _ h _ => h
  refine enter (n := 10) Try.func116 rfl rfl rfl ?_
  intro B
  refine c_seq ?_
  refine c_region ?_
  refine st_alloc z23 ?_
  intro ba2 w1 ga2 la2 hm ha2
  obtain ⟨Q2, sQ, sT, n_ha2, uQ2⟩ := exQ uQ ga2 la2 hm
  replace tQ := fun b hb => tQ b (sT b hb)
  replace sQ0 := fun b hb hl => sQ b (sQ0 b hb hl) (Nat.lt_of_lt_of_le hl M.size)
  replace ga2 := Nat.le_trans M.size ga2
  replace uQ := uQ.md hm
  replace M := M.step0 hm
  clear uQ; have uQ := uQ2; clear uQ2 sQ sT
  have p_ha2 : Fsh [] w ba2 := .inr ga2
  replace ha2 : Blk _ _ (idc idZ) _ := ha2
  refine st_nil ?_
  refine c_then ?_
  refine c_seq ?_
  refine c_region ?_
  refine st_alloc z23 ?_
  intro ba3 w3 ga3 la3 hm ha3
  have eha2a3 : ba2 ≠ ba3 := by have := ha2.lt; omega
  obtain ⟨Q4, sQ, sT, n_ha3, uQ2⟩ := exQ uQ ga3 la3 hm
  replace n_ha2 := fun hh => n_ha2 (sT _ hh)
  replace tQ := fun b hb => tQ b (sT b hb)
  replace sQ0 := fun b hb hl => sQ b (sQ0 b hb hl) (Nat.lt_of_lt_of_le hl M.size)
  replace ga3 := Nat.le_trans M.size ga3
  replace ha2 := ha2.md0 hm
  replace uQ := uQ.md hm
  replace M := M.step0 hm
  clear uQ; have uQ := uQ2; clear uQ2 sQ sT
  have p_ha3 : Fsh [] w ba3 := .inr ga3
  replace ha3 : Blk _ _ (idc idZ) _ := ha3
  refine st_nil ?_
  refine c_then ?_
  refine c_seq ?_
  refine c_region ?_
  refine st _ (r_move rfl) ?_
  refine st_call fn14 rfl (kNumber_any uQ (k) (by omega) 5 (by first | omega | (simp <;> omega)) (by first | omega | (simp <;> omega) | (simp at * <;> omega))) ?_
  rintro en w5 ⟨x5_0, rfl, hm, q5_0, hF5⟩; refine ⟨_, rfl, ?_⟩
  replace ha2 := ha2.md0 hm
  replace ha3 := ha3.md0 hm
  replace uQ := uQ.md hm
  replace M := M.step0 hm
  have a5_0 := numF_lt k 5; rw [hF5] at a5_0; try simp only [List.length_cons, List.length_nil, List.length_append, List.length_replicate, Nat.zero_add, Nat.reduceAdd, Nat.reduceMul] at a5_0
  refine st _ ((r_convW (a := x5_0) 256 rfl rfl (by rw [u3]; rfl) u5 rfl).to (b8_of _)) ?_
  refine st _ ((r_indexArrN (i := 0) 1 rfl rfl u23 el5 (by decide))) ?_
  refine st_store rfl rfl one5 rfl ha3 (Nat.le_of_ble_eq_true rfl) ?_
  have ha30 := ha3; clear ha3; intro w6 hm ha3
  have hS : ∀ b ∈ [ba3], ¬ Q4 b := by intro b hb; simp at hb; subst hb; exact n_ha3
  replace ha2 := ha2.md hm (by intro hb; simp at hb; omega)
  replace uQ := uQ.md hm
  replace M := M.step hm (all_cons p_ha3 all_nil)
  clear ha30 hS
  replace ha3 : Blk _ _ (idc (idZ.set 0 94)) _ := ha3
  refine st _ ((r_indexArrN (i := 15) 1 rfl rfl u23 el5 (by decide))) ?_
  refine st_store rfl rfl one5 rfl ha3 (Nat.le_of_ble_eq_true rfl) ?_
  have ha30 := ha3; clear ha3; intro w7 hm ha3
  have hS : ∀ b ∈ [ba3], ¬ Q4 b := by intro b hb; simp at hb; subst hb; exact n_ha3
  replace ha2 := ha2.md hm (by intro hb; simp at hb; omega)
  replace uQ := uQ.md hm
  replace M := M.step hm (all_cons p_ha3 all_nil)
  clear ha30 hS
  replace ha3 : Blk _ _ (idc ((idZ.set 0 94).set 15 (UInt8.ofNat x5_0))) _ := ha3
  refine st_nil ?_
  refine c_then ?_
  refine c_seq ?_
  refine c_region ?_
  refine st _ (r_loadPart (idc ((idZ.set 0 94).set 15 (UInt8.ofNat x5_0))) rfl (by exact agg23) ha3 rfl) ?_
  refine st_storeAgg (us := (idc ((idZ.set 0 94).set 15 (UInt8.ofNat x5_0)))) rfl rfl (by exact agg23) (by exact one_idc _) ha2 (Nat.le_of_ble_eq_true rfl) ?_
  have ha20 := ha2; clear ha2; intro w8 hm ha2
  have hS : ∀ b ∈ [ba2], ¬ Q4 b := by intro b hb; simp at hb; subst hb; exact n_ha2
  replace ha3 := ha3.md hm (by intro hb; simp at hb; omega)
  replace uQ := uQ.md hm
  replace M := M.step hm (all_cons p_ha2 all_nil)
  clear ha20 hS
  replace ha2 : Blk _ _ (idc ((idZ.set 0 94).set 15 (UInt8.ofNat x5_0))) _ := ha2
  refine st_nil ?_
  refine c_then ?_
  refine c_ret ?_
  exact ret1L (v := (.agg (idc ((idZ.set 0 94).set 15 (UInt8.ofNat x5_0))).toArray)) trivial rfl ⟨⟨_, rfl, load_agg (cs := (idc ((idZ.set 0 94).set 15 (UInt8.ofNat x5_0)))) (by exact agg23) ha2⟩, trivial⟩ ⟨(idZ.set 0 94).set 15 (UInt8.ofNat x5_0), rfl, M, (by first | assumption | rfl | simp_all), (by rw [idF] <;> simp (disch := first | omega | assumption | (simp; done) | fail) only [idZ, if_pos, if_neg, Option.getD_some, Option.some.injEq, reduceIte, Bool.false_eq_true, Bool.true_eq_false, decide_true, decide_false, not_true_eq_false, not_false_eq_true, hF5])⟩
end Go.Proofs.Ytimakajeggeebaa
