/- Walks of functions: what each call returns, over data. -/
import Derived.Test.YtahkddpdhmhfcaaRows
import Derived.Test.YtahkddpdhmhfcaaHashN
import Derived.Test.YtahkddpdhmhfcaaLeP
namespace Go.Proofs.Ytahkddpdhmhfcaa
open Go Go.Wk Go.RowKit
set_option linter.unusedVariables false
set_option linter.unusedSimpArgs false
attribute [local irreducible] wpList wpQuiet wpStill wpMix Code.wp Calls bodyPost
theorem el128 : elemIs Try.prog 128 2 = true := by kernel_rfl
theorem el36 : elemIs Try.prog 36 1 = true := by kernel_rfl
theorem el5 : elemIs Try.prog 5 1 = true := by kernel_rfl
theorem elT36 : elT Try.prog 36 1 8 = true := by kernel_rfl
theorem elT5 : elT Try.prog 5 1 1 = true := by kernel_rfl
theorem fn49 : isFn Try.prog 49 = true := by kernel_rfl
theorem fn50 : isFn Try.prog 50 = true := by kernel_rfl
theorem fn57 : isFn Try.prog 57 = true := by kernel_rfl
theorem mixed : Try.prog.follows .mixedOrders = true := by kernel_rfl
theorem off128_0 : fieldOff Try.prog 128 0 = some 0 := by kernel_rfl
theorem off128_1 : fieldOff Try.prog 128 1 = some 1 := by kernel_rfl
theorem off76_0 : fieldOff Try.prog 76 0 = some 0 := by kernel_rfl
theorem off76_1 : fieldOff Try.prog 76 1 = some 1 := by kernel_rfl
theorem off76_10 : fieldOff Try.prog 76 10 = some 89 := by kernel_rfl
theorem off76_2 : fieldOff Try.prog 76 2 = some 2 := by kernel_rfl
theorem off76_3 : fieldOff Try.prog 76 3 = some 3 := by kernel_rfl
theorem off76_4 : fieldOff Try.prog 76 4 = some 19 := by kernel_rfl
theorem off76_5 : fieldOff Try.prog 76 5 = some 35 := by kernel_rfl
theorem off76_6 : fieldOff Try.prog 76 6 = some 51 := by kernel_rfl
theorem off76_7 : fieldOff Try.prog 76 7 = some 67 := by kernel_rfl
theorem off76_8 : fieldOff Try.prog 76 8 = some 87 := by kernel_rfl
theorem off76_9 : fieldOff Try.prog 76 9 = some 88 := by kernel_rfl
theorem one3 : isOne Try.prog 3 = true := by kernel_rfl
theorem one33 : isOne Try.prog 33 = true := by kernel_rfl
theorem one36 : isOne Try.prog 36 = true := by kernel_rfl
theorem u28 : Try.prog.underlying 28 = some (.slice 5) := by kernel_rfl
theorem u3 : Try.prog.underlying 3 = some (.int .i64) := by kernel_rfl
theorem u30 : Try.prog.underlying 30 = some (.slice 36) := by kernel_rfl
theorem u33 : Try.prog.underlying 33 = some (.int .u32) := by kernel_rfl
theorem u35 : Try.prog.underlying 35 = some (.array 16 5) := by kernel_rfl
theorem u36 : Try.prog.underlying 36 = some (.int .u64) := by kernel_rfl
theorem u5 : Try.prog.underlying 5 = some (.int .u8) := by kernel_rfl
theorem u74 : Try.prog.underlying 74 = some (.array 20 36) := by kernel_rfl
theorem u96 : Try.prog.underlying 96 = some (.slice 128) := by kernel_rfl

theorem low_any {w : World} {Q : Nat → Prop} (uQ : Up w Q) (v : Nat) (a0 : v < 18446744073709551616) (n : Nat) (a1 : n < 9223372036854775808) (p0 : n ≤ 64) :
    Calls Try.prog 49 #[(.int .u64 ((v : Nat) : Int)), (.int .i64 ((n : Nat) : Int))] w fun en w' => ∃ u0 : Value, ∃ r0 : List UInt8, ∃ Q' : Nat → Prop, en = .returned (u0) ∧ Md [] w w' ∧ NewQ w w' Q Q' ∧ Ow tB8 5 (Fsh [] w) w' Q' u0 r0 ∧ low v n = r0 := by
  have M := Md.refl [] w
  have uQ0 := uQ
  have tQ : ∀ b, Q b → Q b := fun _ h => h
  have sQ0 : ∀ b, Q b → b < w.heap.size → Q b := fun _ h _ => h
  refine enter (n := 21) Try.func49 rfl rfl rfl ?_
  intro B
  refine c_seq ?_
  refine c_region ?_
  refine st _ (r_assign rfl) ?_
  refine st_nil ?_
  refine c_then ?_
  refine c_seq ?_
  refine c_region ?_
  refine st _ (r_assign rfl) ?_
  refine st_nil ?_
  refine c_then ?_
  refine c_seq ?_
  refine c_seq ?_
  refine c_region ?_
  refine st _ (r_assign rfl) ?_
  refine st_nil ?_
  refine c_then ?_
  refine c_block ?_
  obtain ⟨r0, hr00⟩ : ∃ r, low v n = r := ⟨_, rfl⟩
  try simp only [List.nil_append] at hr00
  refine loop4 (fun (vb : Value) (b : List UInt8) (i : Nat) (x : Nat) => [(5, vb), (6, (.int .i64 ((i : Nat) : Int))), (0, (.int .u64 ((x : Nat) : Int))), (1, (.int .i64 ((n : Nat) : Int))), (4, (.slice none 0 0))]) (fun (vb : Value) (b : List UInt8) (i : Nat) (x : Nat) w' => ∃ Q' : Nat → Prop, (∀ b, Q' b → Q b) ∧ (∀ b, Q b → b < w.heap.size → Q' b) ∧ Up w' Q' ∧ Md [] w w' ∧ Ow tB8 5 (Fsh [] w) w' Q' vb b ∧ (b.length = i ∧ i ≤ n ∧ x < 18446744073709551616) ∧ b ++ low x (n - i) = r0) (fun (vb : Value) (b : List UInt8) (i : Nat) (x : Nat) => n - i) (x0 := (.slice none 0 0)) (x1 := ([] : List UInt8)) (x2 := 0) (x3 := v) ?_ ?_ ?_
  · exact ⟨rfl, rfl, rfl, rfl, rfl, trivial⟩
  · exact ⟨Q, tQ, sQ0, uQ, M, (Ow.nil _ _ _ _ _), ⟨rfl, by omega, by omega⟩, (by have hh := hr00; first | exact hh | (simp only [List.nil_append] at hh; exact hh))⟩
  · clear M uQ tQ sQ0
    rintro vb b i x B w1 ⟨Q2, tQ, sQ0, uQ, M, f_b, i0_0, hr0⟩
    refine c_seq ?_
    refine c_seq ?_
    refine c_region ?_
    refine st _ (r_move rfl) ?_
    refine st _ (r_move rfl) ?_
    refine st _ (r_ltN (a := i) (b := n) rfl rfl) ?_
    refine st_nil ?_
    refine c_then ?_
    refine c_if rfl (fun h9 => ?_) (fun h9 => ?_)
    · skip
      first | (have h9n := of_decide_eq_true h9) | (have h9n := of_decide_eq_false (bnt h9)) | (have h9n := bnt h9) | (have h9n := h9)
      refine c_skip ?_
      refine c_then ?_
      refine c_seq ?_
      refine c_block ?_
      refine c_seq ?_
      refine c_region ?_
      refine st _ (r_move rfl) ?_
      refine st _ (r_move rfl) ?_
      refine st _ (r_remN (a := x) (b := 256) rfl rfl (by omega)) ?_
      refine st _ ((r_convW (a := x % 256) 256 rfl rfl (by rw [u36]; rfl) u5 rfl).to (b8_of _)) ?_
      refine st_buildSliceG [[(b8 (UInt8.ofNat (x % 256)))]] u28 elT5 (by decide) (by decide) rfl rfl ⟨rfl, trivial⟩ ⟨rfl, trivial⟩ rfl (by decide) ?_
      intro ba16 w3 ga16 la16 hm ha16
      have ya16 := uQ _ ga16
      replace f_b := f_b.md0 hm
      replace uQ := uQ.md hm
      replace M := M.step0 hm
      replace ha16 := Ls.of_blk (m := 1) (R := Q2) (T := tB8) (xs := [UInt8.ofNat (x % 256)]) ha16 ⟨_, _, rfl, ⟨rfl, trivial⟩, rfl⟩ rfl (by decide) ya16
      refine st_ap (sz := 1) (by rfl) u28 elT5 rfl rfl f_b ha16 (fun _ h _ => h) uQ (Fsh.new M) (by first | omega | (simp <;> omega) | (simp at * <;> omega)) (by first | omega | (simp <;> omega) | (simp at * <;> omega)) ?_
      intro v5 w6 Q7 sQ sT uQ2 hO4 hm hS _ hv2
      have f_b0 := f_b; clear f_b
      replace ha16 := ha16.sub sQ
      replace tQ := fun b hb => tQ b (sT b hb)
      replace sQ0 := fun b hb hl => sQ b (sQ0 b hb hl) (Nat.lt_of_lt_of_le hl M.size)
      replace ha16 := ha16.md hm hS
      replace uQ := uQ.md hm
      replace M := M.stepO hm (fun b hb => (f_b0.2 b hb).1)
      clear uQ; have uQ := uQ2; clear uQ2 sQ sT hS hv2
      refine st _ (r_assign rfl) ?_
      refine st_nil ?_
      refine c_then ?_
      refine c_region ?_
      refine st _ (r_move rfl) ?_
      refine st _ (r_quoN (a := x) (b := 256) 18446744073709551616 rfl rfl rfl (by omega)) ?_
      refine st _ (r_assign rfl) ?_
      refine st_nil ?_
      refine n_block ?_
      refine c_then ?_
      refine c_region ?_
      refine st _ (r_move rfl) ?_
      refine st _ (r_addN (a := i) (b := 1) 9223372036854775808 rfl rfl rfl (by omega)) ?_
      refine st _ (r_assign rfl) ?_
      refine st_nil ?_
      refine c_then ?_
      refine next4 (x0 := v5) (x1 := (b ++ ([UInt8.ofNat (x % 256)]))) (x2 := (i + 1)) (x3 := (x / 256)) (by omega) ⟨rfl, (fitI rfl (by omega)), (fitI rfl (by first | rfl | omega)), rfl, rfl, trivial⟩ ⟨Q7, tQ, sQ0, uQ, M, hO4, (by simp; omega), (by have hh := hr0; simp (disch := first | omega | assumption | (simp; done) | fail) only [low_step, low_end, List.append_nil, if_pos, if_neg, Option.getD_some, Option.some.injEq, reduceIte, Bool.false_eq_true, Bool.true_eq_false, decide_true, decide_false, not_true_eq_false, not_false_eq_true, h9n] at hh; first | exact hh | (simp only [List.append_assoc, List.cons_append, List.nil_append, List.singleton_append] at hh ⊢; exact hh))⟩
    · skip
      first | (have h9n := of_decide_eq_false h9) | (have h9n := of_decide_eq_true (bnf h9)) | (have h9n := bnf h9) | (have h9n := h9)
      refine c_exit ?_
      refine x_then ?_
      refine x_then ?_
      refine x_hit ?_
      refine c_then ?_
      refine c_seq ?_
      refine c_region ?_
      refine st _ (r_move rfl) ?_
      refine st _ (r_assign rfl) ?_
      refine st_nil ?_
      refine c_then ?_
      refine c_ret ?_
      exact ret1L (v := vb) trivial rfl ⟨rfl, trivial⟩ ⟨_, b, Q2, rfl, M, ⟨sQ0, tQ, uQ⟩, f_b, (by (try (simp (disch := first | omega | assumption | (simp; done) | fail) only [low_step, low_end, List.append_nil, if_pos, if_neg, Option.getD_some, Option.some.injEq, reduceIte, Bool.false_eq_true, Bool.true_eq_false, decide_true, decide_false, not_true_eq_false, not_false_eq_true, h9n] at hr0)); simp (disch := first | omega | assumption | (simp; done) | fail) only [if_pos, if_neg, Option.getD_some, Option.some.injEq, reduceIte, Bool.false_eq_true, Bool.true_eq_false, decide_true, decide_false, not_true_eq_false, not_false_eq_true, hr00, h9n, ← hr0])⟩
theorem low_any_ls {w : World} {Q : Nat → Prop} (uQ : Up w Q) (v : Nat) (a0 : v < 18446744073709551616) (n : Nat) (a1 : n < 9223372036854775808) (p0 : n ≤ 64) :
    Calls Try.prog 49 #[(.int .u64 ((v : Nat) : Int)), (.int .i64 ((n : Nat) : Int))] w fun en w' => ∃ u0 : Value, ∃ r0 : List UInt8, en = .returned (u0) ∧ Md [] w w' ∧ Ls tB8 w' Q u0 r0 ∧ low v n = r0 :=
  (low_any uQ v a0 n a1 p0).mono fun en w' ⟨u0, r0, Q2, he, hm, kq, k0, hF⟩ => ⟨u0, r0, he, hm, k0.ls kq.2.1 (Fsh.up uQ), hF⟩
theorem nums_any {w : World} {Q : Nat → Prop} (uQ : Up w Q) {v0 : Value} {l : List Nat} (h0 : Ls tU64 w Q v0 l) (p0 : l.length ≤ 1048576) :
    Calls Try.prog 50 #[v0] w fun en w' => ∃ u0 : Value, ∃ r0 : List UInt8, ∃ Q' : Nat → Prop, en = .returned (u0) ∧ Md [] w w' ∧ NewQ w w' Q Q' ∧ Ow tB8 5 (Fsh [] w) w' Q' u0 r0 ∧ nums l = r0 := by
  have L0 := h0.len63
  have M := Md.refl [] w
  have uQ0 := uQ
  have tQ : ∀ b, Q b → Q b := fun _ h => h
  have sQ0 : ∀ b, Q b → b < w.heap.size → Q b := fun _ h _ => h
  refine enter (n := 19) Try.func50 rfl rfl rfl ?_
  intro B
  refine c_seq ?_
  refine c_region ?_
  refine st _ (r_assign rfl) ?_
  refine st_nil ?_
  refine c_then ?_
  refine c_seq ?_
  refine c_region ?_
  refine st _ (r_assign rfl) ?_
  refine st_nil ?_
  refine c_then ?_
  refine c_seq ?_
  refine c_seq ?_
  refine c_region ?_
  refine st _ (r_assign rfl) ?_
  refine st_nil ?_
  refine c_then ?_
  refine c_block ?_
  obtain ⟨r0, hr00⟩ : ∃ r, nums l = r := ⟨_, rfl⟩
  try simp only [List.nil_append] at hr00
  refine loop3 (fun (vb : Value) (b : List UInt8) (i : Nat) => [(3, vb), (4, (.int .i64 ((i : Nat) : Int))), (0, v0), (2, (.slice none 0 0))]) (fun (vb : Value) (b : List UInt8) (i : Nat) w' => ∃ Q' : Nat → Prop, (∀ b, Q' b → Q b) ∧ (∀ b, Q b → b < w.heap.size → Q' b) ∧ Up w' Q' ∧ Md [] w w' ∧ Ow tB8 5 (Fsh [] w) w' Q' vb b ∧ Ls tU64 w' Q' v0 l ∧ (b.length = 8 * i ∧ i ≤ l.length) ∧ b ++ nums (l.drop i) = r0) (fun (vb : Value) (b : List UInt8) (i : Nat) => l.length - i) (x0 := (.slice none 0 0)) (x1 := ([] : List UInt8)) (x2 := 0) ?_ ?_ ?_
  · exact ⟨rfl, rfl, rfl, rfl, trivial⟩
  · exact ⟨Q, tQ, sQ0, uQ, M, (Ow.nil _ _ _ _ _), h0, ⟨rfl, by omega⟩, (by have hh := hr00; first | exact hh | (simp only [List.nil_append] at hh; exact hh))⟩
  · clear M uQ tQ sQ0 h0
    rintro vb b i B w1 ⟨Q2, tQ, sQ0, uQ, M, f_b, h0, i0_0, hr0⟩
    refine c_seq ?_
    refine c_seq ?_
    refine c_region ?_
    refine st _ (r_move rfl) ?_
    refine st _ (r_move rfl) ?_
    refine st _ (r_len rfl u30 h0.shp) ?_
    refine st _ (r_ltN (a := i) (b := l.length) rfl rfl) ?_
    refine st_nil ?_
    refine c_then ?_
    refine c_if rfl (fun h8 => ?_) (fun h8 => ?_)
    · skip
      first | (have h8n := of_decide_eq_true h8) | (have h8n := of_decide_eq_false (bnt h8)) | (have h8n := bnt h8) | (have h8n := h8)
      refine c_skip ?_
      refine c_then ?_
      refine c_seq ?_
      refine c_block ?_
      refine c_region ?_
      refine st _ (r_move rfl) ?_
      refine st _ (r_move rfl) ?_
      refine st _ (r_move rfl) ?_
      refine st _ (r_indexN (i := i) 1 rfl rfl u30 el36 h0.shp (by omega)) ?_
      obtain ⟨x3, hx3⟩ := getE (l := l) (i := i) (by first | omega | (simp <;> omega))
      obtain ⟨c4, hr3, ha3⟩ := h0.get hx3
      obtain ⟨rfl, hr3b⟩ := hr3
      replace ha3 : At _ v0 (i * 1) [(.int .u64 ((x3 : Nat) : Int))] := ha3
      refine st _ ((r_loadE (kk := i * 1) 0 rfl rfl one36 ha3 rfl).to (b := (.int .u64 ((x3 : Nat) : Int))) rfl) ?_
      refine st_call fn49 rfl (low_any_ls uQ x3 (by first | omega | (simp <;> omega)) 8 (by first | omega | (simp <;> omega)) (by first | omega | (simp <;> omega) | (simp at * <;> omega))) ?_
      rintro en w5 ⟨v5_0, x5_0, rfl, hm, h5_0, hF5⟩; refine ⟨_, rfl, ?_⟩
      replace f_b := f_b.md0 hm
      replace h0 := h0.md0 hm
      replace ha3 := ha3.md0 hm
      replace uQ := uQ.md hm
      replace M := M.step0 hm
      have a5_0 := low_len x3 8; rw [hF5] at a5_0; try simp only [List.length_cons, List.length_nil, List.length_append, List.length_replicate, Nat.zero_add, Nat.reduceAdd, Nat.reduceMul] at a5_0
      refine st_ap (sz := 1) (by rfl) u28 elT5 rfl rfl f_b h5_0 (fun _ h _ => h) uQ (Fsh.new M) (by first | omega | (simp <;> omega) | (simp at * <;> omega)) (by first | omega | (simp <;> omega) | (simp at * <;> omega)) ?_
      intro v7 w8 Q9 sQ sT uQ2 hO6 hm hS _ hv2
      have f_b0 := f_b; clear f_b
      replace h0 := h0.sub sQ
      replace h5_0 := h5_0.sub sQ
      replace tQ := fun b hb => tQ b (sT b hb)
      replace sQ0 := fun b hb hl => sQ b (sQ0 b hb hl) (Nat.lt_of_lt_of_le hl M.size)
      replace h0 := h0.md hm hS
      clear ha3
      replace h5_0 := h5_0.md hm hS
      replace uQ := uQ.md hm
      replace M := M.stepO hm (fun b hb => (f_b0.2 b hb).1)
      clear uQ; have uQ := uQ2; clear uQ2 sQ sT hS hv2
      refine st _ (r_assign rfl) ?_
      refine st_nil ?_
      refine n_block ?_
      refine c_then ?_
      refine c_region ?_
      refine st _ (r_move rfl) ?_
      refine st _ (r_addN (a := i) (b := 1) 9223372036854775808 rfl rfl rfl (by omega)) ?_
      refine st _ (r_assign rfl) ?_
      refine st_nil ?_
      refine c_then ?_
      refine next3 (x0 := v7) (x1 := (b ++ x5_0)) (x2 := (i + 1)) (by omega) ⟨rfl, (fitI rfl (by omega)), rfl, rfl, trivial⟩ ⟨Q9, tQ, sQ0, uQ, M, hO6, h0, (by simp; omega), (by have hh := hr0; simp (disch := first | omega | assumption | (simp; done) | fail) only [nums_end, List.append_nil, nums_step hx3, if_pos, if_neg, Option.getD_some, Option.some.injEq, reduceIte, Bool.false_eq_true, Bool.true_eq_false, decide_true, decide_false, not_true_eq_false, not_false_eq_true, h8n, hx3, hF5] at hh; first | exact hh | (simp only [List.append_assoc, List.cons_append, List.nil_append, List.singleton_append] at hh ⊢; exact hh))⟩
    · skip
      first | (have h8n := of_decide_eq_false h8) | (have h8n := of_decide_eq_true (bnf h8)) | (have h8n := bnf h8) | (have h8n := h8)
      refine c_exit ?_
      refine x_then ?_
      refine x_then ?_
      refine x_hit ?_
      refine c_then ?_
      refine c_seq ?_
      refine c_region ?_
      refine st _ (r_move rfl) ?_
      refine st _ (r_assign rfl) ?_
      refine st_nil ?_
      refine c_then ?_
      refine c_ret ?_
      exact ret1L (v := vb) trivial rfl ⟨rfl, trivial⟩ ⟨_, b, Q2, rfl, M, ⟨sQ0, tQ, uQ⟩, f_b, (by (try (simp (disch := first | omega | assumption | (simp; done) | fail) only [nums_end, List.append_nil, if_pos, if_neg, Option.getD_some, Option.some.injEq, reduceIte, Bool.false_eq_true, Bool.true_eq_false, decide_true, decide_false, not_true_eq_false, not_false_eq_true, h8n] at hr0)); simp (disch := first | omega | assumption | (simp; done) | fail) only [if_pos, if_neg, Option.getD_some, Option.some.injEq, reduceIte, Bool.false_eq_true, Bool.true_eq_false, decide_true, decide_false, not_true_eq_false, not_false_eq_true, hr00, h8n, ← hr0])⟩
theorem nums_any_ls {w : World} {Q : Nat → Prop} (uQ : Up w Q) {v0 : Value} {l : List Nat} (h0 : Ls tU64 w Q v0 l) (p0 : l.length ≤ 1048576) :
    Calls Try.prog 50 #[v0] w fun en w' => ∃ u0 : Value, ∃ r0 : List UInt8, en = .returned (u0) ∧ Md [] w w' ∧ Ls tB8 w' Q u0 r0 ∧ nums l = r0 :=
  (nums_any uQ h0 p0).mono fun en w' ⟨u0, r0, Q2, he, hm, kq, k0, hF⟩ => ⟨u0, r0, he, hm, k0.ls kq.2.1 (Fsh.up uQ), hF⟩
theorem put_any {w : World} {Q : Nat → Prop} (uQ : Up w Q) (kind : Nat) (a0 : kind < 9223372036854775808) {v1 : Value} {body : List UInt8} (h1 : Ls tB8 w Q v1 body) (p0 : body.length ≤ 1048576) :
    Calls Try.prog 57 #[(.int .i64 ((kind : Nat) : Int)), v1] w fun en w' => ∃ u0 : Value, ∃ r0 : List UInt8, ∃ Q' : Nat → Prop, en = .returned (u0) ∧ Md [] w w' ∧ NewQ w w' Q Q' ∧ Ow tB8 5 (Fsh [] w) w' Q' u0 r0 ∧ putF kind body = r0 := by
  have L1 := h1.len63
  have M := Md.refl [] w
  have uQ0 := uQ
  have tQ : ∀ b, Q b → Q b := fun _ h => h
  have sQ0 : ∀ b, Q b → b < w.heap.size → Q b := fun _ h _ => h
  refine enter (n := 33) Try.func57 rfl rfl rfl ?_
  intro B
  refine c_seq ?_
  refine c_region ?_
  refine st _ (r_assign rfl) ?_
  refine st_nil ?_
  refine c_then ?_
  refine c_seq ?_
  refine c_seq ?_
  refine c_join (fun b => [(11, .bool b), (0, (.int .i64 ((kind : Nat) : Int))), (1, v1), (4, (.slice none 0 0))]) (fun b w' => w = w' ∧ (b = true ↔ (kind < 1 ∨ 7 < kind))) ?_ ?_
  · skip
    refine st _ (r_move rfl) ?_
    refine st _ (r_ltN (a := kind) (b := 1) rfl rfl) ?_
    refine st _ (r_move rfl) ?_
    refine part_n (t := 8) rfl (fun h8 => ?_) (fun h8 => ?_)
    · skip
      first | (have h8n := of_decide_eq_true h8) | (have h8n := of_decide_eq_false (bnt h8)) | (have h8n := bnt h8) | (have h8n := h8)
      refine st_skip rfl rfl rfl h8 ?_
      refine st_skip rfl rfl rfl h8 ?_
      refine st _ (r_pick_t rfl h8 rfl) ?_
      refine st_nil ?_
      refine ⟨rfl, jn true ?_ ?_⟩
      · exact ⟨rfl, rfl, rfl, rfl, trivial⟩
      · exact ⟨rfl, by first | (simp <;> omega) | omega | simp_all⟩
    · skip
      first | (have h8n := of_decide_eq_false h8) | (have h8n := of_decide_eq_true (bnf h8)) | (have h8n := bnf h8) | (have h8n := h8)
      refine st_g _ rfl rfl rfl h8 (r_move rfl) ?_
      refine st_g _ rfl rfl rfl h8 (r_gtN (a := kind) (b := 7) rfl rfl) ?_
      refine st _ (r_pick_f rfl h8 rfl) ?_
      refine part_n (t := 11) rfl (fun h11 => ?_) (fun h11 => ?_)
      · skip
        first | (have h11n := of_decide_eq_true h11) | (have h11n := of_decide_eq_false (bnt h11)) | (have h11n := bnt h11) | (have h11n := h11)
        refine st_nil ?_
        refine ⟨rfl, jn true ?_ ?_⟩
        · exact ⟨fitB rfl h11, rfl, rfl, rfl, trivial⟩
        · exact ⟨rfl, by first | (simp <;> omega) | omega | simp_all⟩
      · skip
        first | (have h11n := of_decide_eq_false h11) | (have h11n := of_decide_eq_true (bnf h11)) | (have h11n := bnf h11) | (have h11n := h11)
        refine st_nil ?_
        refine ⟨rfl, jn false ?_ ?_⟩
        · exact ⟨fitB rfl h11, rfl, rfl, rfl, trivial⟩
        · exact ⟨rfl, by first | (simp <;> omega) | omega | simp_all⟩
  · rintro b11 B _ ⟨rfl, j11⟩
    refine c_boolcase b11 (fun h11 => ?_) (fun h11 => ?_)
    · skip
      replace j11 := j11.1 h11
      refine c_then ?_
      refine c_if_t rfl h11 ?_
      refine c_seq ?_
      refine c_region ?_
      refine st _ (r_assign rfl) ?_
      refine st_nil ?_
      refine c_then ?_
      refine c_ret ?_
      refine r_then ?_
      exact ret1L (v := (.slice none 0 0)) trivial rfl ⟨rfl, trivial⟩ ⟨_, [], Q, rfl, M, ⟨sQ0, tQ, uQ⟩, (Ow.nil _ _ _ _ _), (by rw [putF] <;> simp (disch := first | omega | assumption | (simp; done) | fail) only [if_pos, if_neg, Option.getD_some, Option.some.injEq, reduceIte, Bool.false_eq_true, Bool.true_eq_false, decide_true, decide_false, not_true_eq_false, not_false_eq_true, h11])⟩
    · skip
      replace j11 := mt j11.2 (by rw [h11]; simp)
      refine c_then ?_
      refine c_if_f rfl h11 ?_
      refine c_skip ?_
      refine c_then ?_
      refine c_seq ?_
      refine c_region ?_
      refine st _ (r_move rfl) ?_
      refine st _ ((r_convW (a := kind) 256 rfl rfl (by rw [u3]; rfl) u5 rfl).to (b8_of _)) ?_
      refine st_buildSliceG [[(b8 (UInt8.ofNat kind))], [(b8 0)], [(b8 0)], [(b8 0)], [(b8 0)], [(b8 0)], [(b8 0)], [(b8 0)]] u28 elT5 (by decide) (by decide) rfl rfl ⟨rfl, rfl, rfl, rfl, rfl, rfl, rfl, rfl, trivial⟩ ⟨rfl, rfl, rfl, rfl, rfl, rfl, rfl, rfl, trivial⟩ rfl (by decide) ?_
      intro ba14 w1 ga14 la14 hm ha14
      have p_ha14 : Fsh [] w ba14 := Fsh.new M _ ga14
      obtain ⟨Q2, sQ, sT, n_ha14, uQ2⟩ := exQ uQ ga14 la14 hm
      replace h1 := h1.sub sQ
      replace tQ := fun b hb => tQ b (sT b hb)
      replace sQ0 := fun b hb hl => sQ b (sQ0 b hb hl) (Nat.lt_of_lt_of_le hl M.size)
      replace h1 := h1.md0 hm
      replace uQ := uQ.md hm
      replace M := M.step0 hm
      clear uQ; have uQ := uQ2; clear uQ2 sQ sT
      replace ha14 := Ow.of_blk (m := 8) (lo := Fsh [] w) (R := Q2) (T := tB8) (xs := [UInt8.ofNat kind, 0, 0, 0, 0, 0, 0, 0]) ha14 ⟨_, _, rfl, ⟨rfl, trivial⟩, ⟨_, _, rfl, ⟨rfl, trivial⟩, ⟨_, _, rfl, ⟨rfl, trivial⟩, ⟨_, _, rfl, ⟨rfl, trivial⟩, ⟨_, _, rfl, ⟨rfl, trivial⟩, ⟨_, _, rfl, ⟨rfl, trivial⟩, ⟨_, _, rfl, ⟨rfl, trivial⟩, ⟨_, _, rfl, ⟨rfl, trivial⟩, rfl⟩⟩⟩⟩⟩⟩⟩⟩ rfl (by decide) p_ha14 n_ha14
      refine st _ (r_move rfl) ?_
      refine st _ (r_len rfl u28 h1.shp) ?_
      refine st _ (r_addN (a := 16) (b := body.length) 9223372036854775808 rfl rfl rfl (by omega)) ?_
      refine st _ (r_convN (a := 16 + body.length) 18446744073709551616 rfl (by rw [u3]; rfl) u36 rfl (by first | omega | (have := u8lt; omega))) ?_
      refine st_buildSliceG [[(.int .u64 ((16 + body.length : Nat) : Int))]] u30 elT36 (by decide) (by decide) rfl rfl ⟨rfl, trivial⟩ ⟨rfl, trivial⟩ rfl (by decide) ?_
      intro ba19 w3 ga19 la19 hm ha19
      have ya19 := uQ _ ga19
      replace h1 := h1.md0 hm
      replace ha14 := ha14.md0 hm
      replace uQ := uQ.md hm
      replace M := M.step0 hm
      replace ha19 := Ls.of_blk (m := 1) (R := Q2) (T := tU64) (xs := [16 + body.length]) ha19 ⟨_, _, rfl, ⟨rfl, (by omega)⟩, rfl⟩ rfl (by decide) ya19
      refine st_call fn50 rfl (nums_any uQ ha19 (by first | omega | (simp <;> omega) | (simp at * <;> omega))) ?_
      rintro en w4 ⟨v4_0, x4_0, Q5, rfl, hm, ⟨sQ, sT, uQ2⟩, h4_0, hF4⟩; refine ⟨_, rfl, ?_⟩
      have dj_h4_0_ha14 : ∀ x, vblock v4_0 = some x → vblock (.slice (some ⟨ba14, 0, none⟩) 8 8) ≠ some x := fun x hx h2 => by have h3 := ha14.lt x h2; have h4 := (h4_0.2 x hx).1.elim (fun h => by simp at h) id; omega
      replace h1 := h1.sub sQ
      replace ha14 := ha14.sub sQ sT
      replace ha19 := ha19.sub sQ
      replace tQ := fun b hb => tQ b (sT b hb)
      replace sQ0 := fun b hb hl => sQ b (sQ0 b hb hl) (Nat.lt_of_lt_of_le hl M.size)
      replace h4_0 := h4_0.lower (Fsh.lift (S' := []) M)
      replace h1 := h1.md0 hm
      replace ha14 := ha14.md0 hm
      replace ha19 := ha19.md0 hm
      replace uQ := uQ.md hm
      replace M := M.step0 hm
      clear uQ; have uQ := uQ2; clear uQ2 sQ sT
      have a4_0 := nums_len ([16 + body.length]); rw [hF4] at a4_0; try simp only [List.length_cons, List.length_nil, List.length_append, List.length_replicate, Nat.zero_add, Nat.reduceAdd, Nat.reduceMul] at a4_0
      obtain ⟨Q6, fQ, fT, h4_0z⟩ := h4_0.freeze
      replace h1 := h1.sub (fun b hb _ => fQ b hb)
      replace ha14 := ha14.subF fQ fT (apart_dj dj_h4_0_ha14)
      replace ha19 := ha19.sub (fun b hb _ => fQ b hb)
      replace tQ := fun b hb => (fT b hb).elim (tQ b) (fun hv => Fsh.up uQ0 b (h4_0.2 b hv).1)
      replace sQ0 := fun b hb hl => fQ b (sQ0 b hb hl)
      replace uQ : Up w4 Q6 := fun b hb => fQ b (uQ b hb)
      clear h4_0 fQ fT; have h4_0 := h4_0z; clear h4_0z
      refine st_ap (sz := 1) (by rfl) u28 elT5 rfl rfl ha14 h4_0 (fun _ h _ => h) uQ (Fsh.new M) (by first | omega | (simp <;> omega) | (simp at * <;> omega)) (by first | omega | (simp <;> omega) | (simp at * <;> omega)) ?_
      intro v8 w9 Q10 sQ sT uQ2 hO7 hm hS _ hv2
      have ha140 := ha14; clear ha14
      replace h1 := h1.sub sQ
      replace ha19 := ha19.sub sQ
      replace h4_0 := h4_0.sub sQ
      replace tQ := fun b hb => tQ b (sT b hb)
      replace sQ0 := fun b hb hl => sQ b (sQ0 b hb hl) (Nat.lt_of_lt_of_le hl M.size)
      replace h1 := h1.md hm hS
      replace ha19 := ha19.md hm hS
      replace h4_0 := h4_0.md hm hS
      replace uQ := uQ.md hm
      replace M := M.stepO hm (fun b hb => (ha140.2 b hb).1)
      clear uQ; have uQ := uQ2; clear uQ2 sQ sT hS hv2
      refine st _ (r_assign rfl) ?_
      refine st_nil ?_
      refine c_then ?_
      refine c_seq ?_
      refine c_region ?_
      refine st _ (r_move rfl) ?_
      refine st _ (r_move rfl) ?_
      refine st_ap (sz := 1) (by rfl) u28 elT5 rfl rfl hO7 h1 (fun _ h _ => h) uQ (Fsh.new M) (by first | omega | (simp <;> omega) | (simp at * <;> omega)) (by first | omega | (simp <;> omega) | (simp at * <;> omega)) ?_
      intro v12 w13 Q14 sQ sT uQ2 hO11 hm hS _ hv2
      have hO70 := hO7; clear hO7
      replace h1 := h1.sub sQ
      replace ha19 := ha19.sub sQ
      replace h4_0 := h4_0.sub sQ
      replace tQ := fun b hb => tQ b (sT b hb)
      replace sQ0 := fun b hb hl => sQ b (sQ0 b hb hl) (Nat.lt_of_lt_of_le hl M.size)
      replace h1 := h1.md hm hS
      replace ha19 := ha19.md hm hS
      replace h4_0 := h4_0.md hm hS
      replace uQ := uQ.md hm
      replace M := M.stepO hm (fun b hb => (hO70.2 b hb).1)
      clear uQ; have uQ := uQ2; clear uQ2 sQ sT hS hv2
      refine st _ (r_assign rfl) ?_
      refine st_nil ?_
      refine c_then ?_
      refine c_seq ?_
      refine c_block ?_
      obtain ⟨r0, hr00⟩ : ∃ r, pad8 ([UInt8.ofNat kind, 0, 0, 0, 0, 0, 0, 0] ++ nums [16 + body.length] ++ body) = r := ⟨_, rfl⟩
      try simp only [List.nil_append, hF4] at hr00
      refine loop2 (fun (vb : Value) (b : List UInt8) => [(5, vb), (4, (.slice none 0 0))]) (fun (vb : Value) (b : List UInt8) w' => ∃ Q' : Nat → Prop, (∀ b, Q' b → Q b) ∧ (∀ b, Q b → b < w.heap.size → Q' b) ∧ Up w' Q' ∧ Md [] w w' ∧ Ow tB8 5 (Fsh [] w) w' Q' vb b ∧ b.length ≤ 1048608 ∧ pad8 b = r0) (fun (vb : Value) (b : List UInt8) => (8 - b.length % 8) % 8) (x0 := v12) (x1 := ((([UInt8.ofNat kind, 0, 0, 0, 0, 0, 0, 0]) ++ x4_0) ++ body)) ?_ ?_ ?_
      · exact ⟨rfl, rfl, trivial⟩
      · exact ⟨Q14, tQ, sQ0, uQ, M, hO11, (by simp; omega), (by have hh := hr00; first | exact hh | (simp only [List.nil_append, hF4] at hh; exact hh))⟩
      · clear M uQ tQ sQ0 h1 ha19 h4_0 hO11
        rintro vb b B w15 ⟨Q16, tQ, sQ0, uQ, M, f_b, i0_0, hr0⟩
        refine c_seq ?_
        refine c_seq ?_
        refine c_region ?_
        refine st _ (r_move rfl) ?_
        refine st _ (r_len rfl u28 f_b.shp) ?_
        refine st _ (r_remN (a := b.length) (b := 8) rfl rfl (by omega)) ?_
        refine st _ (r_neN (a := (b.length % 8)) (b := 0) rfl rfl) ?_
        refine st_nil ?_
        refine c_then ?_
        refine c_if rfl (fun h28 => ?_) (fun h28 => ?_)
        · skip
          first | (have h28n := of_decide_eq_true h28) | (have h28n := of_decide_eq_false (bnt h28)) | (have h28n := bnt h28) | (have h28n := h28)
          refine c_skip ?_
          refine c_then ?_
          refine c_block ?_
          refine c_region ?_
          refine st _ (r_move rfl) ?_
          refine st_buildSliceG [[(b8 0)]] u28 elT5 (by decide) (by decide) rfl rfl ⟨rfl, trivial⟩ ⟨rfl, trivial⟩ rfl (by decide) ?_
          intro ba30 w17 ga30 la30 hm ha30
          have ya30 := uQ _ ga30
          replace f_b := f_b.md0 hm
          replace uQ := uQ.md hm
          replace M := M.step0 hm
          replace ha30 := Ls.of_blk (m := 1) (R := Q16) (T := tB8) (xs := [0]) ha30 ⟨_, _, rfl, ⟨rfl, trivial⟩, rfl⟩ rfl (by decide) ya30
          refine st_ap (sz := 1) (by rfl) u28 elT5 rfl rfl f_b ha30 (fun _ h _ => h) uQ (Fsh.new M) (by first | omega | (simp <;> omega) | (simp at * <;> omega)) (by first | omega | (simp <;> omega) | (simp at * <;> omega)) ?_
          intro v19 w20 Q21 sQ sT uQ2 hO18 hm hS _ hv2
          have f_b0 := f_b; clear f_b
          replace ha30 := ha30.sub sQ
          replace tQ := fun b hb => tQ b (sT b hb)
          replace sQ0 := fun b hb hl => sQ b (sQ0 b hb hl) (Nat.lt_of_lt_of_le hl M.size)
          replace ha30 := ha30.md hm hS
          replace uQ := uQ.md hm
          replace M := M.stepO hm (fun b hb => (f_b0.2 b hb).1)
          clear uQ; have uQ := uQ2; clear uQ2 sQ sT hS hv2
          refine st _ (r_assign rfl) ?_
          refine st_nil ?_
          refine n_block ?_
          refine c_then ?_
          refine next2 (x0 := v19) (x1 := (b ++ ([0]))) (by simp; omega) ⟨rfl, rfl, trivial⟩ ⟨Q21, tQ, sQ0, uQ, M, hO18, (by simp; omega), (by rw [pad8_step h28n] at hr0; exact hr0)⟩
        · skip
          first | (have h28n := of_decide_eq_false h28) | (have h28n := of_decide_eq_true (bnf h28)) | (have h28n := bnf h28) | (have h28n := h28)
          refine c_exit ?_
          refine x_then ?_
          refine x_then ?_
          refine x_hit ?_
          refine c_then ?_
          refine c_seq ?_
          refine c_region ?_
          refine st _ (r_move rfl) ?_
          refine st _ (r_assign rfl) ?_
          refine st_nil ?_
          refine c_then ?_
          refine c_ret ?_
          exact ret1L (v := vb) trivial rfl ⟨rfl, trivial⟩ ⟨_, b, Q16, rfl, M, ⟨sQ0, tQ, uQ⟩, f_b, (by (try (simp (disch := first | omega | assumption | (simp; done) | fail) only [pad8_end, if_pos, if_neg, Option.getD_some, Option.some.injEq, reduceIte, Bool.false_eq_true, Bool.true_eq_false, decide_true, decide_false, not_true_eq_false, not_false_eq_true, h11, hF4, h28n] at hr0)); rw [putF] <;> simp (disch := first | omega | assumption | (simp; done) | fail) only [if_pos, if_neg, Option.getD_some, Option.some.injEq, reduceIte, Bool.false_eq_true, Bool.true_eq_false, decide_true, decide_false, not_true_eq_false, not_false_eq_true, h11, hF4, hr00, h28n, ← hr0])⟩
theorem put_any_ls {w : World} {Q : Nat → Prop} (uQ : Up w Q) (kind : Nat) (a0 : kind < 9223372036854775808) {v1 : Value} {body : List UInt8} (h1 : Ls tB8 w Q v1 body) (p0 : body.length ≤ 1048576) :
    Calls Try.prog 57 #[(.int .i64 ((kind : Nat) : Int)), v1] w fun en w' => ∃ u0 : Value, ∃ r0 : List UInt8, en = .returned (u0) ∧ Md [] w w' ∧ Ls tB8 w' Q u0 r0 ∧ putF kind body = r0 :=
  (put_any uQ kind a0 h1 p0).mono fun en w' ⟨u0, r0, Q2, he, hm, kq, k0, hF⟩ => ⟨u0, r0, he, hm, k0.ls kq.2.1 (Fsh.up uQ), hF⟩
theorem putTable_any {w : World} {Q : Nat → Prop} (uQ : Up w Q) (kind : Nat) (a0 : kind < 9223372036854775808) {v1 : Value} {l : List Slt} (h1 : Ls tSlt w Q v1 l) (p0 : l.length ≤ 50000) :
    Calls Try.prog 37 #[(.int .i64 ((kind : Nat) : Int)), v1] w fun en w' => ∃ u0 : Value, ∃ r0 : List UInt8, en = .returned (u0) ∧ Md [] w w' ∧ Ls tB8 w' Q u0 r0 ∧ putTableF kind l = r0 := by
  have L1 := h1.len63
  have M := Md.refl [] w
  have uQ0 := uQ
  have tQ : ∀ b, Q b → Q b := fun _ h => h
  have sQ0 : ∀ b, Q b → b < w.heap.size → Q b := fun _ h _ => h
  refine enter (n := 36) Try.func37 rfl rfl rfl ?_
  intro B
  refine c_seq ?_
  refine c_region ?_
  refine st _ (r_assign rfl) ?_
  refine st_nil ?_
  refine c_then ?_
  refine c_seq ?_
  refine c_seq ?_
  refine c_join (fun b => [(12, .bool b), (0, (.int .i64 ((kind : Nat) : Int))), (1, v1), (4, (.slice none 0 0))]) (fun b w' => w = w' ∧ (b = true ↔ (kind ≠ 4 ∧ kind ≠ 5))) ?_ ?_
  · skip
    refine st _ (r_move rfl) ?_
    refine st _ (r_neN (a := kind) (b := 4) rfl rfl) ?_
    refine st _ (r_move rfl) ?_
    refine part_n (t := 9) rfl (fun h9 => ?_) (fun h9 => ?_)
    · skip
      first | (have h9n := of_decide_eq_true h9) | (have h9n := of_decide_eq_false (bnt h9)) | (have h9n := bnt h9) | (have h9n := h9)
      refine st_g _ rfl rfl rfl h9 (r_move rfl) ?_
      refine st_g _ rfl rfl rfl h9 (r_neN (a := kind) (b := 5) rfl rfl) ?_
      refine st _ (r_pick_t rfl h9 rfl) ?_
      refine part_n (t := 12) rfl (fun h12 => ?_) (fun h12 => ?_)
      · skip
        first | (have h12n := of_decide_eq_true h12) | (have h12n := of_decide_eq_false (bnt h12)) | (have h12n := bnt h12) | (have h12n := h12)
        refine st_nil ?_
        refine ⟨rfl, jn true ?_ ?_⟩
        · exact ⟨fitB rfl h12, rfl, rfl, rfl, trivial⟩
        · exact ⟨rfl, by first | (simp <;> omega) | omega | simp_all⟩
      · skip
        first | (have h12n := of_decide_eq_false h12) | (have h12n := of_decide_eq_true (bnf h12)) | (have h12n := bnf h12) | (have h12n := h12)
        refine st_nil ?_
        refine ⟨rfl, jn false ?_ ?_⟩
        · exact ⟨fitB rfl h12, rfl, rfl, rfl, trivial⟩
        · exact ⟨rfl, by first | (simp <;> omega) | omega | simp_all⟩
    · skip
      first | (have h9n := of_decide_eq_false h9) | (have h9n := of_decide_eq_true (bnf h9)) | (have h9n := bnf h9) | (have h9n := h9)
      refine st_skip rfl rfl rfl h9 ?_
      refine st_skip rfl rfl rfl h9 ?_
      refine st _ (r_pick_f rfl h9 rfl) ?_
      refine st_nil ?_
      refine ⟨rfl, jn false ?_ ?_⟩
      · exact ⟨rfl, rfl, rfl, rfl, trivial⟩
      · exact ⟨rfl, by first | (simp <;> omega) | omega | simp_all⟩
  · rintro b12 B _ ⟨rfl, j12⟩
    refine c_boolcase b12 (fun h12 => ?_) (fun h12 => ?_)
    · skip
      replace j12 := j12.1 h12
      refine c_then ?_
      refine c_if_t rfl h12 ?_
      refine c_seq ?_
      refine c_region ?_
      refine st _ (r_assign rfl) ?_
      refine st_nil ?_
      refine c_then ?_
      refine c_ret ?_
      refine r_then ?_
      exact ret1L (v := (.slice none 0 0)) trivial rfl ⟨rfl, trivial⟩ ⟨_, [], rfl, M, (Ls.nil _ _ _), (by rw [putTableF] <;> simp (disch := first | omega | assumption | (simp; done) | fail) only [if_pos, if_neg, Option.getD_some, Option.some.injEq, reduceIte, Bool.false_eq_true, Bool.true_eq_false, decide_true, decide_false, not_true_eq_false, not_false_eq_true, h12])⟩
    · skip
      replace j12 := mt j12.2 (by rw [h12]; simp)
      refine c_then ?_
      refine c_if_f rfl h12 ?_
      refine c_skip ?_
      refine c_then ?_
      refine c_seq ?_
      refine c_region ?_
      refine st _ (r_assign rfl) ?_
      refine st_nil ?_
      refine c_then ?_
      refine c_seq ?_
      refine c_seq ?_
      refine c_region ?_
      refine st _ (r_assign rfl) ?_
      refine st_nil ?_
      refine c_then ?_
      refine c_block ?_
      obtain ⟨r0, hr00⟩ : ∃ r, slotsF l = r := ⟨_, rfl⟩
      try simp only [List.nil_append] at hr00
      refine loop3 (fun (vb : Value) (b : List UInt8) (i : Nat) => [(5, vb), (6, (.int .i64 ((i : Nat) : Int))), (0, (.int .i64 ((kind : Nat) : Int))), (1, v1), (4, (.slice none 0 0))]) (fun (vb : Value) (b : List UInt8) (i : Nat) w' => ∃ Q' : Nat → Prop, (∀ b, Q' b → Q b) ∧ (∀ b, Q b → b < w.heap.size → Q' b) ∧ Up w' Q' ∧ Md [] w w' ∧ Ow tB8 5 (Fsh [] w) w' Q' vb b ∧ Ls tSlt w' Q' v1 l ∧ (b.length = 16 * i ∧ i ≤ l.length) ∧ b ++ slotsF (l.drop i) = r0) (fun (vb : Value) (b : List UInt8) (i : Nat) => l.length - i) (x0 := (.slice none 0 0)) (x1 := ([] : List UInt8)) (x2 := 0) ?_ ?_ ?_
      · exact ⟨rfl, rfl, rfl, rfl, rfl, trivial⟩
      · exact ⟨Q, tQ, sQ0, uQ, M, (Ow.nil _ _ _ _ _), h1, ⟨rfl, by omega⟩, (by have hh := hr00; first | exact hh | (simp only [List.nil_append] at hh; exact hh))⟩
      · clear M uQ tQ sQ0 h1
        rintro vb b i B w1 ⟨Q2, tQ, sQ0, uQ, M, f_b, h1, i0_0, hr0⟩
        refine c_seq ?_
        refine c_seq ?_
        refine c_region ?_
        refine st _ (r_move rfl) ?_
        refine st _ (r_move rfl) ?_
        refine st _ (r_len rfl u96 h1.shp) ?_
        refine st _ (r_ltN (a := i) (b := l.length) rfl rfl) ?_
        refine st_nil ?_
        refine c_then ?_
        refine c_if rfl (fun h16 => ?_) (fun h16 => ?_)
        · skip
          first | (have h16n := of_decide_eq_true h16) | (have h16n := of_decide_eq_false (bnt h16)) | (have h16n := bnt h16) | (have h16n := h16)
          refine c_skip ?_
          refine c_then ?_
          refine c_seq ?_
          refine c_block ?_
          have f_b_q := f_b
          have h1_q := h1
          have hSB : ∀ b ∈ (vblock vb).toList, ¬ Q2 b := (all_row (fun x hx => (f_b.2 x hx).2))
          refine c_mixT [(0, true), (1, true), (2, true), (3, true), (4, true), (5, true), (6, true), (7, true), (8, true), (9, true), (10, true), (11, false), (12, false)] [13, 14] (fun w' => Md (vblock vb).toList w1 w') mixed (by kernel_rfl) ?_
          intro w3 hd0; refine ⟨hd0.mono (by simp), ?_⟩; have MC := hd0.mono (T := (vblock vb).toList) (by simp)
          have c_f_b : ∀ b, vblock vb = some b → b ∈ (vblock vb).toList ∨ w1.heap.size ≤ b := fun b hb => Or.inl (by simp [hb])
          refine Go.Wk.m _ (fun w' hc => r_move rfl) ?_
          refine Go.Wk.m _ (fun w' hc => r_move rfl) ?_
          refine Go.Wk.m _ (fun w' hc => r_move rfl) ?_
          refine Go.Wk.m _ (fun w' hc => r_indexN (i := i) 2 rfl rfl u96 el128 h1.shp (by omega)) ?_
          obtain ⟨x4, hx4⟩ := getE (l := l) (i := i) (by first | omega | (simp <;> omega))
          obtain ⟨c5, hr4, ha4⟩ := h1_q.get hx4
          obtain ⟨_, rfl, q6⟩ := tSlt_un hr4
          replace ha4 : At _ v1 (i * 2) (Slt.cells x4) := ha4
          refine Go.Wk.m _ (fun w' hc => r_fieldE rfl (ha4.md hc (h1_q.offS hx4 hSB)) off128_0) ?_
          refine Go.Wk.m _ (fun w' hc => (r_loadE (kk := i * 2) 0 rfl rfl one36 (ha4.md hc (h1_q.offS hx4 hSB)) rfl).to (b := (.int .u64 ((x4.first : Nat) : Int))) rfl) ?_
          have q7 : x4.first < 18446744073709551616 := q6.1
          refine Go.Wk.m _ (fun w' hc => r_move rfl) ?_
          refine Go.Wk.m _ (fun w' hc => r_move rfl) ?_
          refine Go.Wk.m _ (fun w' hc => r_indexN (i := i) 2 rfl rfl u96 el128 h1.shp (by omega)) ?_
          obtain ⟨c9, hr10, ha10⟩ := h1_q.get hx4
          obtain ⟨_, rfl, q11⟩ := tSlt_un hr10
          replace ha10 : At _ v1 (i * 2) (Slt.cells x4) := ha10
          refine Go.Wk.m _ (fun w' hc => r_fieldE rfl (ha10.md hc (h1_q.offS hx4 hSB)) off128_1) ?_
          refine Go.Wk.m _ (fun w' hc => (r_loadE (kk := i * 2) 1 rfl rfl one36 (ha10.md hc (h1_q.offS hx4 hSB)) rfl).to (b := (.int .u64 ((x4.tail : Nat) : Int))) rfl) ?_
          have q12 : x4.tail < 18446744073709551616 := q11.2
          replace f_b := f_b.md0 hd0
          replace h1 := h1.md0 hd0
          replace uQ := uQ.md hd0
          replace M := M.step0 hd0
          refine m_e ?_ rfl
          refine st_buildSliceG [[(.int .u64 ((x4.first : Nat) : Int))], [(.int .u64 ((x4.tail : Nat) : Int))]] u30 elT36 (by decide) (by decide) rfl rfl ⟨rfl, rfl, trivial⟩ ⟨rfl, rfl, trivial⟩ rfl (by decide) ?_
          intro ba30 w13 ga30 la30 hm ha30
          have ya30 := uQ _ ga30
          replace f_b := f_b.md0 hm
          replace h1 := h1.md0 hm
          replace uQ := uQ.md hm
          replace M := M.step0 hm
          replace MC := MC.step0 hm
          replace ha30 := Ls.of_blk (m := 2) (R := Q2) (T := tU64) (xs := [x4.first, x4.tail]) ha30 ⟨_, _, rfl, ⟨rfl, (by omega)⟩, ⟨_, _, rfl, ⟨rfl, (by omega)⟩, rfl⟩⟩ rfl (by decide) ya30
          refine st_nil ⟨rfl, MC, ?_⟩
          refine m_e ?_ rfl
          refine st_call fn50 rfl (nums_any_ls uQ ha30 (by first | omega | (simp <;> omega) | (simp at * <;> omega))) ?_
          rintro en w14 ⟨v14_0, x14_0, rfl, hm, h14_0, hF14⟩; refine ⟨_, rfl, ?_⟩
          replace f_b := f_b.md0 hm
          replace h1 := h1.md0 hm
          replace ha30 := ha30.md0 hm
          replace uQ := uQ.md hm
          replace M := M.step0 hm
          replace MC := MC.step0 hm
          have a14_0 := nums_len ([x4.first, x4.tail]); rw [hF14] at a14_0; try simp only [List.length_cons, List.length_nil, List.length_append, List.length_replicate, Nat.zero_add, Nat.reduceAdd, Nat.reduceMul] at a14_0
          refine st_nil ⟨rfl, MC, ?_⟩
          refine m_nil ?_
          clear h1_q f_b_q
          clear MC
          refine st_ap (sz := 1) (by rfl) u28 elT5 rfl rfl f_b h14_0 (fun _ h _ => h) uQ (Fsh.new M) (by first | omega | (simp <;> omega) | (simp at * <;> omega)) (by first | omega | (simp <;> omega) | (simp at * <;> omega)) ?_
          intro v16 w17 Q18 sQ sT uQ2 hO15 hm hS _ hv2
          have f_b0 := f_b; clear f_b
          replace h1 := h1.sub sQ
          replace ha30 := ha30.sub sQ
          replace h14_0 := h14_0.sub sQ
          replace tQ := fun b hb => tQ b (sT b hb)
          replace sQ0 := fun b hb hl => sQ b (sQ0 b hb hl) (Nat.lt_of_lt_of_le hl M.size)
          replace h1 := h1.md hm hS
          replace ha30 := ha30.md hm hS
          replace h14_0 := h14_0.md hm hS
          replace uQ := uQ.md hm
          replace M := M.stepO hm (fun b hb => (f_b0.2 b hb).1)
          clear uQ; have uQ := uQ2; clear uQ2 sQ sT hS hv2
          refine st _ (r_assign rfl) ?_
          refine st_nil ?_
          clear ha4
          clear ha10
          refine n_block ?_
          refine c_then ?_
          refine c_region ?_
          refine st _ (r_move rfl) ?_
          refine st _ (r_addN (a := i) (b := 1) 9223372036854775808 rfl rfl rfl (by omega)) ?_
          refine st _ (r_assign rfl) ?_
          refine st_nil ?_
          refine c_then ?_
          refine next3 (x0 := v16) (x1 := (b ++ x14_0)) (x2 := (i + 1)) (by omega) ⟨rfl, (fitI rfl (by omega)), rfl, rfl, rfl, trivial⟩ ⟨Q18, tQ, sQ0, uQ, M, hO15, h1, (by simp; omega), (by have hh := hr0; simp (disch := first | omega | assumption | (simp; done) | fail) only [slots_end, List.append_nil, slots_step hx4, if_pos, if_neg, Option.getD_some, Option.some.injEq, reduceIte, Bool.false_eq_true, Bool.true_eq_false, decide_true, decide_false, not_true_eq_false, not_false_eq_true, h12, h16n, hx4, hF14] at hh; first | exact hh | (simp only [List.append_assoc, List.cons_append, List.nil_append, List.singleton_append] at hh ⊢; exact hh))⟩
        · skip
          first | (have h16n := of_decide_eq_false h16) | (have h16n := of_decide_eq_true (bnf h16)) | (have h16n := bnf h16) | (have h16n := h16)
          refine c_exit ?_
          refine x_then ?_
          refine x_then ?_
          refine x_hit ?_
          refine c_then ?_
          refine c_seq ?_
          refine c_region ?_
          refine st _ (r_move rfl) ?_
          refine st _ (r_move rfl) ?_
          obtain ⟨Q19, fQ, fT, f_bz⟩ := f_b.freeze
          replace h1 := h1.sub (fun b hb _ => fQ b hb)
          replace tQ := fun b hb => (fT b hb).elim (tQ b) (fun hv => Fsh.up uQ0 b (f_b.2 b hv).1)
          replace sQ0 := fun b hb hl => fQ b (sQ0 b hb hl)
          replace uQ : Up w1 Q19 := fun b hb => fQ b (uQ b hb)
          clear f_b fQ fT; have f_b := f_bz; clear f_bz
          refine st_call fn57 rfl (put_any_ls uQ kind (by first | omega | (simp <;> omega)) f_b (by first | omega | (simp <;> omega) | (simp at * <;> omega))) ?_
          rintro en w20 ⟨v20_0, x20_0, rfl, hm, h20_0, hF20⟩; refine ⟨_, rfl, ?_⟩
          replace f_b := f_b.md0 hm
          replace h1 := h1.md0 hm
          replace uQ := uQ.md hm
          replace M := M.step0 hm
          refine st _ (r_assign rfl) ?_
          refine st_nil ?_
          refine c_then ?_
          refine c_ret ?_
          exact ret1L (v := v20_0) trivial rfl ⟨rfl, trivial⟩ ⟨_, x20_0, rfl, M, (h20_0.sub (fun b hb _ => tQ b hb)), (by (try (simp (disch := first | omega | assumption | (simp; done) | fail) only [slots_end, List.append_nil, if_pos, if_neg, Option.getD_some, Option.some.injEq, reduceIte, Bool.false_eq_true, Bool.true_eq_false, decide_true, decide_false, not_true_eq_false, not_false_eq_true, h12, h16n, hF20] at hr0)); rw [putTableF] <;> simp (disch := first | omega | assumption | (simp; done) | fail) only [if_pos, if_neg, Option.getD_some, Option.some.injEq, reduceIte, Bool.false_eq_true, Bool.true_eq_false, decide_true, decide_false, not_true_eq_false, not_false_eq_true, h12, hr00, h16n, hF20, ← hr0])⟩
theorem headBytes_any {w : World} {Q : Nat → Prop} (uQ : Up w Q) (h : RHead) (a0_0 : RHead.ok h) (depth : Nat) (a1 : depth < 18446744073709551616) :
    Calls Try.prog 28 #[.agg (RHead.cells h).toArray, (.int .u64 ((depth : Nat) : Int))] w fun en w' => ∃ u0 : Value, ∃ r0 : List UInt8, ∃ Q' : Nat → Prop, en = .returned (u0) ∧ Md [] w w' ∧ NewQ w w' Q Q' ∧ Ow tB8 5 (Fsh [] w) w' Q' u0 r0 ∧ headF h depth = r0 := by
  have M := Md.refl [] w
  have uQ0 := uQ
  have tQ : ∀ b, Q b → Q b := fun _ h => h
  have sQ0 : ∀ b, Q b → b < w.heap.size → Q b := fun _ h _ => h
  refine enter (n := 64) Try.func28 rfl rfl rfl ?_
  intro B
  refine c_seq ?_
  refine c_region ?_
  refine st_box (cs := (RHead.cells h)) rfl rfl ?_
  intro ba2 w1 ga2 la2 hm ha2
  have n_ha2 := uQ _ ga2
  replace ga2 := Nat.le_trans M.size ga2
  replace uQ := uQ.md hm
  replace M := M.step0 hm
  have p_ha2 : Fsh [] w ba2 := .inr ga2
  refine st _ (r_assign rfl) ?_
  refine st_nil ?_
  refine c_then ?_
  refine c_seq ?_
  refine c_region ?_
  refine st_buildSliceG [[(b8 76)], [(b8 80)], [(b8 75)], [(b8 83)], [(b8 72)], [(b8 72)], [(b8 82)], [(b8 72)]] u28 elT5 (by decide) (by decide) rfl rfl ⟨rfl, rfl, rfl, rfl, rfl, rfl, rfl, rfl, trivial⟩ ⟨rfl, rfl, rfl, rfl, rfl, rfl, rfl, rfl, trivial⟩ rfl (by decide) ?_
  intro ba6 w2 ga6 la6 hm ha6
  have eha2a6 : ba2 ≠ ba6 := by have := ha2.lt; omega
  have p_ha6 : Fsh [] w ba6 := Fsh.new M _ ga6
  obtain ⟨Q3, sQ, sT, n_ha6, uQ2⟩ := exQ uQ ga6 la6 hm
  replace n_ha2 := sQ _ n_ha2 ha2.lt
  replace tQ := fun b hb => tQ b (sT b hb)
  replace sQ0 := fun b hb hl => sQ b (sQ0 b hb hl) (Nat.lt_of_lt_of_le hl M.size)
  replace ha2 := ha2.md0 hm
  replace uQ := uQ.md hm
  replace M := M.step0 hm
  clear uQ; have uQ := uQ2; clear uQ2 sQ sT
  refine st_mark u28 u5 rfl (show Blk _ _ (([76, 80, 75, 83, 72, 72, 82, 72] : List UInt8).map b8) _ from ha6) (By.of_blk (show Blk _ _ (([76, 80, 75, 83, 72, 72, 82, 72] : List UInt8).map b8) _ from ha6) rfl (by decide)) ?_
  intro w4 hm hY; have ha60 := ha6; clear ha6
  have hS : ∀ b ∈ [ba6], ¬ Q3 b := by intro b hb; simp at hb; subst hb; exact n_ha6
  replace ha2 := ha2.md hm (by intro hb; simp at hb; omega)
  replace uQ := uQ.md hm
  replace M := M.step hm (all_cons p_ha6 all_nil)
  obtain ⟨Q5, fQ, fT, ha6y⟩ := lit_freeze (Q := Q3) hY
  replace n_ha2 := fQ _ n_ha2
  replace tQ := fun b hb => (fT b hb).elim (tQ b) (fun hv => Fsh.up uQ0 b (hv ▸ p_ha6))
  replace sQ0 := fun b hb hl => fQ b (sQ0 b hb hl)
  replace uQ : Up w4 Q5 := fun b hb => fQ b (uQ b hb)
  clear ha60 hS fQ fT hY n_ha6
  refine st _ (r_field rfl off76_0) ?_
  refine st _ ((r_loadBlk rfl one33 ha2 rfl).to (b := (.int .u32 ((h.compat : Nat) : Int))) rfl) ?_
  have q6 : h.compat < 4294967296 := a0_0.1
  refine st _ (r_convN (a := h.compat) 18446744073709551616 rfl (by rw [u33]; rfl) u36 rfl (by first | omega | (have := u8lt; omega))) ?_
  refine st_call fn49 rfl (low_any_ls uQ h.compat (by first | omega | (simp <;> omega)) 4 (by first | omega | (simp <;> omega)) (by first | omega | (simp <;> omega) | (simp at * <;> omega))) ?_
  rintro en w7 ⟨v7_0, x7_0, rfl, hm, h7_0, hF7⟩; refine ⟨_, rfl, ?_⟩
  replace ha2 := ha2.md0 hm
  replace ha6y := ha6y.md0 hm
  replace uQ := uQ.md hm
  replace M := M.step0 hm
  have a7_0 := low_len h.compat 4; rw [hF7] at a7_0; try simp only [List.length_cons, List.length_nil, List.length_append, List.length_replicate, Nat.zero_add, Nat.reduceAdd, Nat.reduceMul] at a7_0
  refine st_apG (lo := Fsh [] w) (sz := 1) (by rfl) u28 elT5 rfl rfl ha6y h7_0 uQ (Fsh.new M) rfl (by first | omega | (simp <;> omega) | (simp at * <;> omega)) (by first | omega | (simp <;> omega) | (simp at * <;> omega)) (by first | omega | (simp <;> omega) | (simp at * <;> omega)) ?_
  intro v9 w10 Q11 sQ sT uQ2 hO8 hm hv2
  replace n_ha2 := sQ _ n_ha2 ha2.lt
  replace ha6y := ha6y.sub sQ
  replace h7_0 := h7_0.sub sQ
  replace tQ := fun b hb => tQ b (sT b hb)
  replace sQ0 := fun b hb hl => sQ b (sQ0 b hb hl) (Nat.lt_of_lt_of_le hl M.size)
  replace ha2 := ha2.md0 hm
  replace ha6y := ha6y.md0 hm
  replace h7_0 := h7_0.md0 hm
  replace uQ := uQ.md hm
  replace M := M.step0 hm
  clear uQ; have uQ := uQ2; clear uQ2 sQ sT hv2
  refine st _ (r_assign rfl) ?_
  refine st_nil ?_
  refine c_then ?_
  refine c_seq ?_
  refine c_region ?_
  refine st _ (r_move rfl) ?_
  refine st _ (r_field rfl off76_1) ?_
  refine st _ ((r_loadBlk rfl one33 ha2 rfl).to (b := (.int .u32 ((h.incompat : Nat) : Int))) rfl) ?_
  have q12 : h.incompat < 4294967296 := a0_0.2.1
  refine st _ (r_convN (a := h.incompat) 18446744073709551616 rfl (by rw [u33]; rfl) u36 rfl (by first | omega | (have := u8lt; omega))) ?_
  refine st_call fn49 rfl (low_any_ls uQ h.incompat (by first | omega | (simp <;> omega)) 4 (by first | omega | (simp <;> omega)) (by first | omega | (simp <;> omega) | (simp at * <;> omega))) ?_
  rintro en w13 ⟨v13_0, x13_0, rfl, hm, h13_0, hF13⟩; refine ⟨_, rfl, ?_⟩
  replace ha2 := ha2.md0 hm
  replace ha6y := ha6y.md0 hm
  replace h7_0 := h7_0.md0 hm
  replace hO8 := hO8.md0 hm
  replace uQ := uQ.md hm
  replace M := M.step0 hm
  have a13_0 := low_len h.incompat 4; rw [hF13] at a13_0; try simp only [List.length_cons, List.length_nil, List.length_append, List.length_replicate, Nat.zero_add, Nat.reduceAdd, Nat.reduceMul] at a13_0
  refine st_ap (sz := 1) (by rfl) u28 elT5 rfl rfl hO8 h13_0 (fun _ h _ => h) uQ (Fsh.new M) (by first | omega | (simp <;> omega) | (simp at * <;> omega)) (by first | omega | (simp <;> omega) | (simp at * <;> omega)) ?_
  intro v15 w16 Q17 sQ sT uQ2 hO14 hm hS _ hv2
  have hO80 := hO8; clear hO8
  replace n_ha2 := sQ _ n_ha2 ha2.lt
  replace ha6y := ha6y.sub sQ
  replace h7_0 := h7_0.sub sQ
  replace h13_0 := h13_0.sub sQ
  replace tQ := fun b hb => tQ b (sT b hb)
  replace sQ0 := fun b hb hl => sQ b (sQ0 b hb hl) (Nat.lt_of_lt_of_le hl M.size)
  replace ha2 := ha2.md hm (apart_ow hO80 ha2 (by decide))
  replace ha6y := ha6y.md hm hS
  replace h7_0 := h7_0.md hm hS
  replace h13_0 := h13_0.md hm hS
  replace uQ := uQ.md hm
  replace M := M.stepO hm (fun b hb => (hO80.2 b hb).1)
  clear uQ; have uQ := uQ2; clear uQ2 sQ sT hS hv2
  refine st _ (r_assign rfl) ?_
  refine st_nil ?_
  refine c_then ?_
  refine c_seq ?_
  refine c_region ?_
  refine st _ (r_move rfl) ?_
  refine st _ (r_field rfl off76_2) ?_
  refine st _ ((r_loadBlk rfl one3 ha2 rfl).to (b := (.int .i64 ((h.state : Nat) : Int))) rfl) ?_
  have q18 : h.state < 9223372036854775808 := a0_0.2.2.1
  refine st _ ((r_convW (a := h.state) 256 rfl rfl (by rw [u3]; rfl) u5 rfl).to (b8_of _)) ?_
  refine st_buildSliceG [[(b8 (UInt8.ofNat h.state))], [(b8 0)], [(b8 0)], [(b8 0)], [(b8 0)], [(b8 0)], [(b8 0)], [(b8 0)]] u28 elT5 (by decide) (by decide) rfl rfl ⟨rfl, rfl, rfl, rfl, rfl, rfl, rfl, rfl, trivial⟩ ⟨rfl, rfl, rfl, rfl, rfl, rfl, rfl, rfl, trivial⟩ rfl (by decide) ?_
  intro ba23 w19 ga23 la23 hm ha23
  have ya23 := uQ _ ga23
  replace ha2 := ha2.md0 hm
  replace ha6y := ha6y.md0 hm
  replace h7_0 := h7_0.md0 hm
  replace h13_0 := h13_0.md0 hm
  replace hO14 := hO14.md0 hm
  replace uQ := uQ.md hm
  replace M := M.step0 hm
  replace ha23 := Ls.of_blk (m := 8) (R := Q17) (T := tB8) (xs := [UInt8.ofNat h.state, 0, 0, 0, 0, 0, 0, 0]) ha23 ⟨_, _, rfl, ⟨rfl, trivial⟩, ⟨_, _, rfl, ⟨rfl, trivial⟩, ⟨_, _, rfl, ⟨rfl, trivial⟩, ⟨_, _, rfl, ⟨rfl, trivial⟩, ⟨_, _, rfl, ⟨rfl, trivial⟩, ⟨_, _, rfl, ⟨rfl, trivial⟩, ⟨_, _, rfl, ⟨rfl, trivial⟩, ⟨_, _, rfl, ⟨rfl, trivial⟩, rfl⟩⟩⟩⟩⟩⟩⟩⟩ rfl (by decide) ya23
  refine st_ap (sz := 1) (by rfl) u28 elT5 rfl rfl hO14 ha23 (fun _ h _ => h) uQ (Fsh.new M) (by first | omega | (simp <;> omega) | (simp at * <;> omega)) (by first | omega | (simp <;> omega) | (simp at * <;> omega)) ?_
  intro v21 w22 Q23 sQ sT uQ2 hO20 hm hS _ hv2
  have hO140 := hO14; clear hO14
  replace n_ha2 := sQ _ n_ha2 ha2.lt
  replace ha6y := ha6y.sub sQ
  replace h7_0 := h7_0.sub sQ
  replace h13_0 := h13_0.sub sQ
  replace ha23 := ha23.sub sQ
  replace tQ := fun b hb => tQ b (sT b hb)
  replace sQ0 := fun b hb hl => sQ b (sQ0 b hb hl) (Nat.lt_of_lt_of_le hl M.size)
  replace ha2 := ha2.md hm (apart_ow hO140 ha2 (by decide))
  replace ha6y := ha6y.md hm hS
  replace h7_0 := h7_0.md hm hS
  replace h13_0 := h13_0.md hm hS
  replace ha23 := ha23.md hm hS
  replace uQ := uQ.md hm
  replace M := M.stepO hm (fun b hb => (hO140.2 b hb).1)
  clear uQ; have uQ := uQ2; clear uQ2 sQ sT hS hv2
  refine st _ (r_assign rfl) ?_
  refine st_nil ?_
  refine c_then ?_
  refine c_seq ?_
  have ha2_q := ha2
  have ha6y_q := ha6y
  have h7_0_q := h7_0
  have h13_0_q := h13_0
  have ha23_q := ha23
  have hO20_q := hO20
  have hSB : ∀ b ∈ (vblock v21).toList, ¬ Q23 b := (all_row (fun x hx => (hO20.2 x hx).2))
  refine c_mixT [(0, true), (1, true), (2, true), (4, true), (5, true), (7, true), (8, true), (10, true), (11, true), (3, false), (6, false), (9, false)] [12, 13] (fun w' => Md (vblock v21).toList w22 w') mixed (by kernel_rfl) ?_
  intro w24 hd0; refine ⟨hd0.mono (by simp), ?_⟩; have MC := hd0.mono (T := (vblock v21).toList) (by simp)
  have c_hO20 : ∀ b, vblock v21 = some b → b ∈ (vblock v21).toList ∨ w22.heap.size ≤ b := fun b hb => Or.inl (by simp [hb])
  refine Go.Wk.m _ (fun w' hc => r_move rfl) ?_
  refine Go.Wk.m _ (fun w' hc => r_field rfl off76_3) ?_
  refine Go.Wk.m _ (fun w' hc => r_sliceArr u35 el5 rfl (by decide)) ?_
  have q26 : h.file.length = 16 := a0_0.2.2.2.1
  have hs25 : Ls tB8 w22 Q23 (.slice (some ⟨ba2, 3, none⟩) 16 16) h.file := Ls.of_seg (h1 := fun _ => rfl) (R := Q23) (xs := h.file) (m := 16) (o := 3) ha2 n_ha2 (by first | assumption | simp_all | exact (by assumption : _ ∧ _).1) (by decide) (idc_map (by first | assumption | simp_all | exact (by assumption : _ ∧ _).1)) (fun _ _ => trivial)
  refine Go.Wk.m _ (fun w' hc => r_field rfl off76_4) ?_
  refine Go.Wk.m _ (fun w' hc => r_sliceArr u35 el5 rfl (by decide)) ?_
  have q28 : h.machine.length = 16 := a0_0.2.2.2.2.1
  have hs27 : Ls tB8 w22 Q23 (.slice (some ⟨ba2, 19, none⟩) 16 16) h.machine := Ls.of_seg (h1 := fun _ => rfl) (R := Q23) (xs := h.machine) (m := 16) (o := 19) ha2 n_ha2 (by first | assumption | simp_all | exact (by assumption : _ ∧ _).1) (by decide) (idc_map (by first | assumption | simp_all | exact (by assumption : _ ∧ _).1)) (fun _ _ => trivial)
  refine Go.Wk.m _ (fun w' hc => r_field rfl off76_5) ?_
  refine Go.Wk.m _ (fun w' hc => r_sliceArr u35 el5 rfl (by decide)) ?_
  have q30 : h.boot.length = 16 := a0_0.2.2.2.2.2.1
  have hs29 : Ls tB8 w22 Q23 (.slice (some ⟨ba2, 35, none⟩) 16 16) h.boot := Ls.of_seg (h1 := fun _ => rfl) (R := Q23) (xs := h.boot) (m := 16) (o := 35) ha2 n_ha2 (by first | assumption | simp_all | exact (by assumption : _ ∧ _).1) (by decide) (idc_map (by first | assumption | simp_all | exact (by assumption : _ ∧ _).1)) (fun _ _ => trivial)
  refine Go.Wk.m _ (fun w' hc => r_field rfl off76_6) ?_
  refine Go.Wk.m _ (fun w' hc => r_sliceArr u35 el5 rfl (by decide)) ?_
  have q32 : h.seq.length = 16 := a0_0.2.2.2.2.2.2.1
  have hs31 : Ls tB8 w22 Q23 (.slice (some ⟨ba2, 51, none⟩) 16 16) h.seq := Ls.of_seg (h1 := fun _ => rfl) (R := Q23) (xs := h.seq) (m := 16) (o := 51) ha2 n_ha2 (by first | assumption | simp_all | exact (by assumption : _ ∧ _).1) (by decide) (idc_map (by first | assumption | simp_all | exact (by assumption : _ ∧ _).1)) (fun _ _ => trivial)
  replace ha2 := ha2.md0 hd0
  replace ha6y := ha6y.md0 hd0
  replace h7_0 := h7_0.md0 hd0
  replace h13_0 := h13_0.md0 hd0
  replace ha23 := ha23.md0 hd0
  replace hO20 := hO20.md0 hd0
  replace hs25 := hs25.md0 hd0
  replace hs27 := hs27.md0 hd0
  replace hs29 := hs29.md0 hd0
  replace hs31 := hs31.md0 hd0
  replace uQ := uQ.md hd0
  replace M := M.step0 hd0
  refine m_e ?_ rfl
  refine st_ap (sz := 1) (by rfl) u28 elT5 rfl rfl hO20 hs25 (fun _ h _ => h) uQ (Fsh.new M) (by first | omega | (simp <;> omega) | (simp at * <;> omega)) (by first | omega | (simp <;> omega) | (simp at * <;> omega)) ?_
  intro v34 w35 Q36 sQ sT uQ2 hO33 hm hS _ hv2
  have c_hO33 : ∀ b, vblock v34 = some b → b ∈ (vblock v21).toList ∨ _ := fun b hb => (hv2 b hb).elim (c_hO20 b) (fun h => Or.inr (Nat.le_trans MC.size h))
  have hO200 := hO20; clear hO20
  replace n_ha2 := sQ _ n_ha2 ha2.lt
  replace ha6y := ha6y.sub sQ
  replace h7_0 := h7_0.sub sQ
  replace h13_0 := h13_0.sub sQ
  replace ha23 := ha23.sub sQ
  replace hs25 := hs25.sub sQ
  replace hs27 := hs27.sub sQ
  replace hs29 := hs29.sub sQ
  replace hs31 := hs31.sub sQ
  replace tQ := fun b hb => tQ b (sT b hb)
  replace sQ0 := fun b hb hl => sQ b (sQ0 b hb hl) (Nat.lt_of_lt_of_le hl M.size)
  replace ha2 := ha2.md hm (apart_ow hO200 ha2 (by decide))
  replace ha6y := ha6y.md hm hS
  replace h7_0 := h7_0.md hm hS
  replace h13_0 := h13_0.md hm hS
  replace ha23 := ha23.md hm hS
  replace hs25 := hs25.md hm hS
  replace hs27 := hs27.md hm hS
  replace hs29 := hs29.md hm hS
  replace hs31 := hs31.md hm hS
  replace uQ := uQ.md hm
  replace M := M.stepO hm (fun b hb => (hO200.2 b hb).1)
  replace MC := MC.stepO hm c_hO20
  clear uQ; have uQ := uQ2; clear uQ2 sQ sT hS hv2
  refine st_nil ⟨rfl, MC, ?_⟩
  refine m_e ?_ rfl
  refine st_ap (sz := 1) (by rfl) u28 elT5 rfl rfl hO33 hs27 (fun _ h _ => h) uQ (Fsh.new M) (by first | omega | (simp <;> omega) | (simp at * <;> omega)) (by first | omega | (simp <;> omega) | (simp at * <;> omega)) ?_
  intro v38 w39 Q40 sQ sT uQ2 hO37 hm hS _ hv2
  have c_hO37 : ∀ b, vblock v38 = some b → b ∈ (vblock v21).toList ∨ _ := fun b hb => (hv2 b hb).elim (c_hO33 b) (fun h => Or.inr (Nat.le_trans MC.size h))
  have hO330 := hO33; clear hO33
  replace n_ha2 := sQ _ n_ha2 ha2.lt
  replace ha6y := ha6y.sub sQ
  replace h7_0 := h7_0.sub sQ
  replace h13_0 := h13_0.sub sQ
  replace ha23 := ha23.sub sQ
  replace hs25 := hs25.sub sQ
  replace hs27 := hs27.sub sQ
  replace hs29 := hs29.sub sQ
  replace hs31 := hs31.sub sQ
  replace tQ := fun b hb => tQ b (sT b hb)
  replace sQ0 := fun b hb hl => sQ b (sQ0 b hb hl) (Nat.lt_of_lt_of_le hl M.size)
  replace ha2 := ha2.md hm (apart_ow hO330 ha2 (by decide))
  replace ha6y := ha6y.md hm hS
  replace h7_0 := h7_0.md hm hS
  replace h13_0 := h13_0.md hm hS
  replace ha23 := ha23.md hm hS
  replace hs25 := hs25.md hm hS
  replace hs27 := hs27.md hm hS
  replace hs29 := hs29.md hm hS
  replace hs31 := hs31.md hm hS
  replace uQ := uQ.md hm
  replace M := M.stepO hm (fun b hb => (hO330.2 b hb).1)
  replace MC := MC.stepO hm c_hO33
  clear uQ; have uQ := uQ2; clear uQ2 sQ sT hS hv2
  refine st_nil ⟨rfl, MC, ?_⟩
  refine m_e ?_ rfl
  refine st_ap (sz := 1) (by rfl) u28 elT5 rfl rfl hO37 hs29 (fun _ h _ => h) uQ (Fsh.new M) (by first | omega | (simp <;> omega) | (simp at * <;> omega)) (by first | omega | (simp <;> omega) | (simp at * <;> omega)) ?_
  intro v42 w43 Q44 sQ sT uQ2 hO41 hm hS _ hv2
  have c_hO41 : ∀ b, vblock v42 = some b → b ∈ (vblock v21).toList ∨ _ := fun b hb => (hv2 b hb).elim (c_hO37 b) (fun h => Or.inr (Nat.le_trans MC.size h))
  have hO370 := hO37; clear hO37
  replace n_ha2 := sQ _ n_ha2 ha2.lt
  replace ha6y := ha6y.sub sQ
  replace h7_0 := h7_0.sub sQ
  replace h13_0 := h13_0.sub sQ
  replace ha23 := ha23.sub sQ
  replace hs25 := hs25.sub sQ
  replace hs27 := hs27.sub sQ
  replace hs29 := hs29.sub sQ
  replace hs31 := hs31.sub sQ
  replace tQ := fun b hb => tQ b (sT b hb)
  replace sQ0 := fun b hb hl => sQ b (sQ0 b hb hl) (Nat.lt_of_lt_of_le hl M.size)
  replace ha2 := ha2.md hm (apart_ow hO370 ha2 (by decide))
  replace ha6y := ha6y.md hm hS
  replace h7_0 := h7_0.md hm hS
  replace h13_0 := h13_0.md hm hS
  replace ha23 := ha23.md hm hS
  replace hs25 := hs25.md hm hS
  replace hs27 := hs27.md hm hS
  replace hs29 := hs29.md hm hS
  replace hs31 := hs31.md hm hS
  replace uQ := uQ.md hm
  replace M := M.stepO hm (fun b hb => (hO370.2 b hb).1)
  replace MC := MC.stepO hm c_hO37
  clear uQ; have uQ := uQ2; clear uQ2 sQ sT hS hv2
  refine st_nil ⟨rfl, MC, ?_⟩
  refine m_nil ?_
  clear ha2_q h13_0_q ha23_q ha6y_q h7_0_q hO20_q
  clear MC
  refine st_ap (sz := 1) (by rfl) u28 elT5 rfl rfl hO41 hs31 (fun _ h _ => h) uQ (Fsh.new M) (by first | omega | (simp <;> omega) | (simp at * <;> omega)) (by first | omega | (simp <;> omega) | (simp at * <;> omega)) ?_
  intro v46 w47 Q48 sQ sT uQ2 hO45 hm hS _ hv2
  have hO410 := hO41; clear hO41
  replace n_ha2 := sQ _ n_ha2 ha2.lt
  replace ha6y := ha6y.sub sQ
  replace h7_0 := h7_0.sub sQ
  replace h13_0 := h13_0.sub sQ
  replace ha23 := ha23.sub sQ
  replace hs25 := hs25.sub sQ
  replace hs27 := hs27.sub sQ
  replace hs29 := hs29.sub sQ
  replace hs31 := hs31.sub sQ
  replace tQ := fun b hb => tQ b (sT b hb)
  replace sQ0 := fun b hb hl => sQ b (sQ0 b hb hl) (Nat.lt_of_lt_of_le hl M.size)
  replace ha2 := ha2.md hm (apart_ow hO410 ha2 (by decide))
  replace ha6y := ha6y.md hm hS
  replace h7_0 := h7_0.md hm hS
  replace h13_0 := h13_0.md hm hS
  replace ha23 := ha23.md hm hS
  replace hs25 := hs25.md hm hS
  replace hs27 := hs27.md hm hS
  replace hs29 := hs29.md hm hS
  replace hs31 := hs31.md hm hS
  replace uQ := uQ.md hm
  replace M := M.stepO hm (fun b hb => (hO410.2 b hb).1)
  clear uQ; have uQ := uQ2; clear uQ2 sQ sT hS hv2
  refine st _ (r_assign rfl) ?_
  refine st_nil ?_
  refine c_then ?_
  refine c_seq ?_
  refine c_region ?_
  refine st _ (r_move rfl) ?_
  refine st _ (r_field rfl off76_7) ?_
  refine st _ (r_sliceArr u74 el36 rfl (by decide)) ?_
  have q50 : (h.n.length = 20 ∧ ∀ y ∈ h.n, y < 18446744073709551616) := a0_0.2.2.2.2.2.2.2.1
  have hs49 : Ls tU64 w47 Q48 (.slice (some ⟨ba2, 67, none⟩) 20 20) h.n := Ls.of_seg (h1 := fun _ => rfl) (R := Q48) (xs := h.n) (m := 20) (o := 67) ha2 n_ha2 (by first | assumption | simp_all | exact (by assumption : _ ∧ _).1) (by decide) (nums20_map (by first | assumption | simp_all | exact (by assumption : _ ∧ _).1)) (by first | assumption | simp_all | exact (by assumption : _ ∧ _).2)
  refine st_call fn50 rfl (nums_any_ls uQ hs49 (by first | omega | (simp <;> omega) | (simp at * <;> omega))) ?_
  rintro en w51 ⟨v51_0, x51_0, rfl, hm, h51_0, hF51⟩; refine ⟨_, rfl, ?_⟩
  replace ha2 := ha2.md0 hm
  replace ha6y := ha6y.md0 hm
  replace h7_0 := h7_0.md0 hm
  replace h13_0 := h13_0.md0 hm
  replace ha23 := ha23.md0 hm
  replace hs25 := hs25.md0 hm
  replace hs27 := hs27.md0 hm
  replace hs29 := hs29.md0 hm
  replace hs31 := hs31.md0 hm
  replace hO45 := hO45.md0 hm
  replace hs49 := hs49.md0 hm
  replace uQ := uQ.md hm
  replace M := M.step0 hm
  have a51_0 := nums_len h.n; rw [hF51] at a51_0; try simp only [List.length_cons, List.length_nil, List.length_append, List.length_replicate, Nat.zero_add, Nat.reduceAdd, Nat.reduceMul] at a51_0
  refine st_ap (sz := 1) (by rfl) u28 elT5 rfl rfl hO45 h51_0 (fun _ h _ => h) uQ (Fsh.new M) (by first | omega | (simp <;> omega) | (simp at * <;> omega)) (by first | omega | (simp <;> omega) | (simp at * <;> omega)) ?_
  intro v53 w54 Q55 sQ sT uQ2 hO52 hm hS _ hv2
  have hO450 := hO45; clear hO45
  replace n_ha2 := sQ _ n_ha2 ha2.lt
  replace ha6y := ha6y.sub sQ
  replace h7_0 := h7_0.sub sQ
  replace h13_0 := h13_0.sub sQ
  replace ha23 := ha23.sub sQ
  replace hs25 := hs25.sub sQ
  replace hs27 := hs27.sub sQ
  replace hs29 := hs29.sub sQ
  replace hs31 := hs31.sub sQ
  replace hs49 := hs49.sub sQ
  replace h51_0 := h51_0.sub sQ
  replace tQ := fun b hb => tQ b (sT b hb)
  replace sQ0 := fun b hb hl => sQ b (sQ0 b hb hl) (Nat.lt_of_lt_of_le hl M.size)
  replace ha2 := ha2.md hm (apart_ow hO450 ha2 (by decide))
  replace ha6y := ha6y.md hm hS
  replace h7_0 := h7_0.md hm hS
  replace h13_0 := h13_0.md hm hS
  replace ha23 := ha23.md hm hS
  replace hs25 := hs25.md hm hS
  replace hs27 := hs27.md hm hS
  replace hs29 := hs29.md hm hS
  replace hs31 := hs31.md hm hS
  replace hs49 := hs49.md hm hS
  replace h51_0 := h51_0.md hm hS
  replace uQ := uQ.md hm
  replace M := M.stepO hm (fun b hb => (hO450.2 b hb).1)
  clear uQ; have uQ := uQ2; clear uQ2 sQ sT hS hv2
  refine st _ (r_move rfl) ?_
  refine st_buildSliceG [[(.int .u64 ((depth : Nat) : Int))]] u30 elT36 (by decide) (by decide) rfl rfl ⟨rfl, trivial⟩ ⟨rfl, trivial⟩ rfl (by decide) ?_
  intro ba44 w56 ga44 la44 hm ha44
  have ya44 := uQ _ ga44
  replace ha2 := ha2.md0 hm
  replace ha6y := ha6y.md0 hm
  replace h7_0 := h7_0.md0 hm
  replace h13_0 := h13_0.md0 hm
  replace ha23 := ha23.md0 hm
  replace hs25 := hs25.md0 hm
  replace hs27 := hs27.md0 hm
  replace hs29 := hs29.md0 hm
  replace hs31 := hs31.md0 hm
  replace hs49 := hs49.md0 hm
  replace h51_0 := h51_0.md0 hm
  replace hO52 := hO52.md0 hm
  replace uQ := uQ.md hm
  replace M := M.step0 hm
  replace ha44 := Ls.of_blk (m := 1) (R := Q55) (T := tU64) (xs := [depth]) ha44 ⟨_, _, rfl, ⟨rfl, (by omega)⟩, rfl⟩ rfl (by decide) ya44
  refine st_call fn50 rfl (nums_any_ls uQ ha44 (by first | omega | (simp <;> omega) | (simp at * <;> omega))) ?_
  rintro en w57 ⟨v57_0, x57_0, rfl, hm, h57_0, hF57⟩; refine ⟨_, rfl, ?_⟩
  replace ha2 := ha2.md0 hm
  replace ha6y := ha6y.md0 hm
  replace h7_0 := h7_0.md0 hm
  replace h13_0 := h13_0.md0 hm
  replace ha23 := ha23.md0 hm
  replace hs25 := hs25.md0 hm
  replace hs27 := hs27.md0 hm
  replace hs29 := hs29.md0 hm
  replace hs31 := hs31.md0 hm
  replace hs49 := hs49.md0 hm
  replace h51_0 := h51_0.md0 hm
  replace hO52 := hO52.md0 hm
  replace ha44 := ha44.md0 hm
  replace uQ := uQ.md hm
  replace M := M.step0 hm
  have a57_0 := nums_len ([depth]); rw [hF57] at a57_0; try simp only [List.length_cons, List.length_nil, List.length_append, List.length_replicate, Nat.zero_add, Nat.reduceAdd, Nat.reduceMul] at a57_0
  refine st_ap (sz := 1) (by rfl) u28 elT5 rfl rfl hO52 h57_0 (fun _ h _ => h) uQ (Fsh.new M) (by first | omega | (simp <;> omega) | (simp at * <;> omega)) (by first | omega | (simp <;> omega) | (simp at * <;> omega)) ?_
  intro v59 w60 Q61 sQ sT uQ2 hO58 hm hS _ hv2
  have hO520 := hO52; clear hO52
  replace n_ha2 := sQ _ n_ha2 ha2.lt
  replace ha6y := ha6y.sub sQ
  replace h7_0 := h7_0.sub sQ
  replace h13_0 := h13_0.sub sQ
  replace ha23 := ha23.sub sQ
  replace hs25 := hs25.sub sQ
  replace hs27 := hs27.sub sQ
  replace hs29 := hs29.sub sQ
  replace hs31 := hs31.sub sQ
  replace hs49 := hs49.sub sQ
  replace h51_0 := h51_0.sub sQ
  replace ha44 := ha44.sub sQ
  replace h57_0 := h57_0.sub sQ
  replace tQ := fun b hb => tQ b (sT b hb)
  replace sQ0 := fun b hb hl => sQ b (sQ0 b hb hl) (Nat.lt_of_lt_of_le hl M.size)
  replace ha2 := ha2.md hm (apart_ow hO520 ha2 (by decide))
  replace ha6y := ha6y.md hm hS
  replace h7_0 := h7_0.md hm hS
  replace h13_0 := h13_0.md hm hS
  replace ha23 := ha23.md hm hS
  replace hs25 := hs25.md hm hS
  replace hs27 := hs27.md hm hS
  replace hs29 := hs29.md hm hS
  replace hs31 := hs31.md hm hS
  replace hs49 := hs49.md hm hS
  replace h51_0 := h51_0.md hm hS
  replace ha44 := ha44.md hm hS
  replace h57_0 := h57_0.md hm hS
  replace uQ := uQ.md hm
  replace M := M.stepO hm (fun b hb => (hO520.2 b hb).1)
  clear uQ; have uQ := uQ2; clear uQ2 sQ sT hS hv2
  refine st _ (r_assign rfl) ?_
  refine st_nil ?_
  refine c_then ?_
  refine c_seq ?_
  have ha2_q := ha2
  have ha6y_q := ha6y
  have h7_0_q := h7_0
  have h13_0_q := h13_0
  have ha23_q := ha23
  have hs25_q := hs25
  have hs27_q := hs27
  have hs29_q := hs29
  have hs31_q := hs31
  have hs49_q := hs49
  have h51_0_q := h51_0
  have ha44_q := ha44
  have h57_0_q := h57_0
  have hO58_q := hO58
  have hSB : ∀ b ∈ (vblock v59).toList, ¬ Q61 b := (all_row (fun x hx => (hO58.2 x hx).2))
  refine c_mixT [(0, true), (1, true), (2, true), (3, true), (6, true), (7, true), (8, true), (4, false), (5, false)] [9, 10, 11] (fun w' => Md (vblock v59).toList w60 w') mixed (by kernel_rfl) ?_
  intro w62 hd0; refine ⟨hd0.mono (by simp), ?_⟩; have MC := hd0.mono (T := (vblock v59).toList) (by simp)
  have c_hO58 : ∀ b, vblock v59 = some b → b ∈ (vblock v59).toList ∨ w60.heap.size ≤ b := fun b hb => Or.inl (by simp [hb])
  refine Go.Wk.m _ (fun w' hc => r_move rfl) ?_
  refine Go.Wk.m _ (fun w' hc => r_field rfl off76_8) ?_
  refine Go.Wk.m _ (fun w' hc => (r_loadBlk rfl one33 (ha2_q.md hc (apart_ow hO58_q ha2_q (by decide))) rfl).to (b := (.int .u32 ((h.tailArray : Nat) : Int))) rfl) ?_
  have q63 : h.tailArray < 4294967296 := a0_0.2.2.2.2.2.2.2.2.1
  refine Go.Wk.m _ (fun w' hc => r_convN (a := h.tailArray) 18446744073709551616 rfl (by rw [u33]; rfl) u36 rfl (by first | omega | (have := u8lt; omega))) ?_
  refine Go.Wk.m _ (fun w' hc => r_field rfl off76_9) ?_
  refine Go.Wk.m _ (fun w' hc => (r_loadBlk rfl one33 (ha2_q.md hc (apart_ow hO58_q ha2_q (by decide))) rfl).to (b := (.int .u32 ((h.tailItems : Nat) : Int))) rfl) ?_
  have q64 : h.tailItems < 4294967296 := a0_0.2.2.2.2.2.2.2.2.2.1
  refine Go.Wk.m _ (fun w' hc => r_convN (a := h.tailItems) 18446744073709551616 rfl (by rw [u33]; rfl) u36 rfl (by first | omega | (have := u8lt; omega))) ?_
  replace ha2 := ha2.md0 hd0
  replace ha6y := ha6y.md0 hd0
  replace h7_0 := h7_0.md0 hd0
  replace h13_0 := h13_0.md0 hd0
  replace ha23 := ha23.md0 hd0
  replace hs25 := hs25.md0 hd0
  replace hs27 := hs27.md0 hd0
  replace hs29 := hs29.md0 hd0
  replace hs31 := hs31.md0 hd0
  replace hs49 := hs49.md0 hd0
  replace h51_0 := h51_0.md0 hd0
  replace ha44 := ha44.md0 hd0
  replace h57_0 := h57_0.md0 hd0
  replace hO58 := hO58.md0 hd0
  replace uQ := uQ.md hd0
  replace M := M.step0 hd0
  refine m_e ?_ rfl
  refine st_call fn49 rfl (low_any_ls uQ h.tailArray (by first | omega | (simp <;> omega)) 4 (by first | omega | (simp <;> omega)) (by first | omega | (simp <;> omega) | (simp at * <;> omega))) ?_
  rintro en w65 ⟨v65_0, x65_0, rfl, hm, h65_0, hF65⟩; refine ⟨_, rfl, ?_⟩
  replace ha2 := ha2.md0 hm
  replace ha6y := ha6y.md0 hm
  replace h7_0 := h7_0.md0 hm
  replace h13_0 := h13_0.md0 hm
  replace ha23 := ha23.md0 hm
  replace hs25 := hs25.md0 hm
  replace hs27 := hs27.md0 hm
  replace hs29 := hs29.md0 hm
  replace hs31 := hs31.md0 hm
  replace hs49 := hs49.md0 hm
  replace h51_0 := h51_0.md0 hm
  replace ha44 := ha44.md0 hm
  replace h57_0 := h57_0.md0 hm
  replace hO58 := hO58.md0 hm
  replace uQ := uQ.md hm
  replace M := M.step0 hm
  replace MC := MC.step0 hm
  have a65_0 := low_len h.tailArray 4; rw [hF65] at a65_0; try simp only [List.length_cons, List.length_nil, List.length_append, List.length_replicate, Nat.zero_add, Nat.reduceAdd, Nat.reduceMul] at a65_0
  refine st_nil ⟨rfl, MC, ?_⟩
  refine m_e ?_ rfl
  refine st_ap (sz := 1) (by rfl) u28 elT5 rfl rfl hO58 h65_0 (fun _ h _ => h) uQ (Fsh.new M) (by first | omega | (simp <;> omega) | (simp at * <;> omega)) (by first | omega | (simp <;> omega) | (simp at * <;> omega)) ?_
  intro v67 w68 Q69 sQ sT uQ2 hO66 hm hS _ hv2
  have c_hO66 : ∀ b, vblock v67 = some b → b ∈ (vblock v59).toList ∨ _ := fun b hb => (hv2 b hb).elim (c_hO58 b) (fun h => Or.inr (Nat.le_trans MC.size h))
  have hO580 := hO58; clear hO58
  replace n_ha2 := sQ _ n_ha2 ha2.lt
  replace ha6y := ha6y.sub sQ
  replace h7_0 := h7_0.sub sQ
  replace h13_0 := h13_0.sub sQ
  replace ha23 := ha23.sub sQ
  replace hs25 := hs25.sub sQ
  replace hs27 := hs27.sub sQ
  replace hs29 := hs29.sub sQ
  replace hs31 := hs31.sub sQ
  replace hs49 := hs49.sub sQ
  replace h51_0 := h51_0.sub sQ
  replace ha44 := ha44.sub sQ
  replace h57_0 := h57_0.sub sQ
  replace h65_0 := h65_0.sub sQ
  replace tQ := fun b hb => tQ b (sT b hb)
  replace sQ0 := fun b hb hl => sQ b (sQ0 b hb hl) (Nat.lt_of_lt_of_le hl M.size)
  replace ha2 := ha2.md hm (apart_ow hO580 ha2 (by decide))
  replace ha6y := ha6y.md hm hS
  replace h7_0 := h7_0.md hm hS
  replace h13_0 := h13_0.md hm hS
  replace ha23 := ha23.md hm hS
  replace hs25 := hs25.md hm hS
  replace hs27 := hs27.md hm hS
  replace hs29 := hs29.md hm hS
  replace hs31 := hs31.md hm hS
  replace hs49 := hs49.md hm hS
  replace h51_0 := h51_0.md hm hS
  replace ha44 := ha44.md hm hS
  replace h57_0 := h57_0.md hm hS
  replace h65_0 := h65_0.md hm hS
  replace uQ := uQ.md hm
  replace M := M.stepO hm (fun b hb => (hO580.2 b hb).1)
  replace MC := MC.stepO hm c_hO58
  clear uQ; have uQ := uQ2; clear uQ2 sQ sT hS hv2
  refine st_nil ⟨rfl, MC, ?_⟩
  refine m_nil ?_
  clear ha2_q h13_0_q hs27_q ha23_q ha6y_q hs29_q h7_0_q h51_0_q hO58_q hs31_q hs25_q hs49_q ha44_q h57_0_q
  clear MC
  refine st_call fn49 rfl (low_any_ls uQ h.tailItems (by first | omega | (simp <;> omega)) 4 (by first | omega | (simp <;> omega)) (by first | omega | (simp <;> omega) | (simp at * <;> omega))) ?_
  rintro en w70 ⟨v70_0, x70_0, rfl, hm, h70_0, hF70⟩; refine ⟨_, rfl, ?_⟩
  replace ha2 := ha2.md0 hm
  replace ha6y := ha6y.md0 hm
  replace h7_0 := h7_0.md0 hm
  replace h13_0 := h13_0.md0 hm
  replace ha23 := ha23.md0 hm
  replace hs25 := hs25.md0 hm
  replace hs27 := hs27.md0 hm
  replace hs29 := hs29.md0 hm
  replace hs31 := hs31.md0 hm
  replace hs49 := hs49.md0 hm
  replace h51_0 := h51_0.md0 hm
  replace ha44 := ha44.md0 hm
  replace h57_0 := h57_0.md0 hm
  replace h65_0 := h65_0.md0 hm
  replace hO66 := hO66.md0 hm
  replace uQ := uQ.md hm
  replace M := M.step0 hm
  have a70_0 := low_len h.tailItems 4; rw [hF70] at a70_0; try simp only [List.length_cons, List.length_nil, List.length_append, List.length_replicate, Nat.zero_add, Nat.reduceAdd, Nat.reduceMul] at a70_0
  refine st_ap (sz := 1) (by rfl) u28 elT5 rfl rfl hO66 h70_0 (fun _ h _ => h) uQ (Fsh.new M) (by first | omega | (simp <;> omega) | (simp at * <;> omega)) (by first | omega | (simp <;> omega) | (simp at * <;> omega)) ?_
  intro v72 w73 Q74 sQ sT uQ2 hO71 hm hS _ hv2
  have hO660 := hO66; clear hO66
  replace n_ha2 := sQ _ n_ha2 ha2.lt
  replace ha6y := ha6y.sub sQ
  replace h7_0 := h7_0.sub sQ
  replace h13_0 := h13_0.sub sQ
  replace ha23 := ha23.sub sQ
  replace hs25 := hs25.sub sQ
  replace hs27 := hs27.sub sQ
  replace hs29 := hs29.sub sQ
  replace hs31 := hs31.sub sQ
  replace hs49 := hs49.sub sQ
  replace h51_0 := h51_0.sub sQ
  replace ha44 := ha44.sub sQ
  replace h57_0 := h57_0.sub sQ
  replace h65_0 := h65_0.sub sQ
  replace h70_0 := h70_0.sub sQ
  replace tQ := fun b hb => tQ b (sT b hb)
  replace sQ0 := fun b hb hl => sQ b (sQ0 b hb hl) (Nat.lt_of_lt_of_le hl M.size)
  replace ha2 := ha2.md hm (apart_ow hO660 ha2 (by decide))
  replace ha6y := ha6y.md hm hS
  replace h7_0 := h7_0.md hm hS
  replace h13_0 := h13_0.md hm hS
  replace ha23 := ha23.md hm hS
  replace hs25 := hs25.md hm hS
  replace hs27 := hs27.md hm hS
  replace hs29 := hs29.md hm hS
  replace hs31 := hs31.md hm hS
  replace hs49 := hs49.md hm hS
  replace h51_0 := h51_0.md hm hS
  replace ha44 := ha44.md hm hS
  replace h57_0 := h57_0.md hm hS
  replace h65_0 := h65_0.md hm hS
  replace h70_0 := h70_0.md hm hS
  replace uQ := uQ.md hm
  replace M := M.stepO hm (fun b hb => (hO660.2 b hb).1)
  clear uQ; have uQ := uQ2; clear uQ2 sQ sT hS hv2
  refine st _ (r_assign rfl) ?_
  refine st_nil ?_
  refine c_then ?_
  refine c_seq ?_
  refine c_region ?_
  refine st _ (r_move rfl) ?_
  refine st _ (r_field rfl off76_10) ?_
  refine st _ ((r_loadBlk rfl one36 ha2 rfl).to (b := (.int .u64 ((h.tailEntry : Nat) : Int))) rfl) ?_
  have q75 : h.tailEntry < 18446744073709551616 := a0_0.2.2.2.2.2.2.2.2.2.2
  refine st_buildSliceG [[(.int .u64 ((h.tailEntry : Nat) : Int))]] u30 elT36 (by decide) (by decide) rfl rfl ⟨rfl, trivial⟩ ⟨rfl, trivial⟩ rfl (by decide) ?_
  intro ba61 w76 ga61 la61 hm ha61
  have ya61 := uQ _ ga61
  replace ha2 := ha2.md0 hm
  replace ha6y := ha6y.md0 hm
  replace h7_0 := h7_0.md0 hm
  replace h13_0 := h13_0.md0 hm
  replace ha23 := ha23.md0 hm
  replace hs25 := hs25.md0 hm
  replace hs27 := hs27.md0 hm
  replace hs29 := hs29.md0 hm
  replace hs31 := hs31.md0 hm
  replace hs49 := hs49.md0 hm
  replace h51_0 := h51_0.md0 hm
  replace ha44 := ha44.md0 hm
  replace h57_0 := h57_0.md0 hm
  replace h65_0 := h65_0.md0 hm
  replace h70_0 := h70_0.md0 hm
  replace hO71 := hO71.md0 hm
  replace uQ := uQ.md hm
  replace M := M.step0 hm
  replace ha61 := Ls.of_blk (m := 1) (R := Q74) (T := tU64) (xs := [h.tailEntry]) ha61 ⟨_, _, rfl, ⟨rfl, (by omega)⟩, rfl⟩ rfl (by decide) ya61
  refine st_call fn50 rfl (nums_any_ls uQ ha61 (by first | omega | (simp <;> omega) | (simp at * <;> omega))) ?_
  rintro en w77 ⟨v77_0, x77_0, rfl, hm, h77_0, hF77⟩; refine ⟨_, rfl, ?_⟩
  replace ha2 := ha2.md0 hm
  replace ha6y := ha6y.md0 hm
  replace h7_0 := h7_0.md0 hm
  replace h13_0 := h13_0.md0 hm
  replace ha23 := ha23.md0 hm
  replace hs25 := hs25.md0 hm
  replace hs27 := hs27.md0 hm
  replace hs29 := hs29.md0 hm
  replace hs31 := hs31.md0 hm
  replace hs49 := hs49.md0 hm
  replace h51_0 := h51_0.md0 hm
  replace ha44 := ha44.md0 hm
  replace h57_0 := h57_0.md0 hm
  replace h65_0 := h65_0.md0 hm
  replace h70_0 := h70_0.md0 hm
  replace hO71 := hO71.md0 hm
  replace ha61 := ha61.md0 hm
  replace uQ := uQ.md hm
  replace M := M.step0 hm
  have a77_0 := nums_len ([h.tailEntry]); rw [hF77] at a77_0; try simp only [List.length_cons, List.length_nil, List.length_append, List.length_replicate, Nat.zero_add, Nat.reduceAdd, Nat.reduceMul] at a77_0
  refine st_ap (sz := 1) (by rfl) u28 elT5 rfl rfl hO71 h77_0 (fun _ h _ => h) uQ (Fsh.new M) (by first | omega | (simp <;> omega) | (simp at * <;> omega)) (by first | omega | (simp <;> omega) | (simp at * <;> omega)) ?_
  intro v79 w80 Q81 sQ sT uQ2 hO78 hm hS _ hv2
  have hO710 := hO71; clear hO71
  replace n_ha2 := sQ _ n_ha2 ha2.lt
  replace ha6y := ha6y.sub sQ
  replace h7_0 := h7_0.sub sQ
  replace h13_0 := h13_0.sub sQ
  replace ha23 := ha23.sub sQ
  replace hs25 := hs25.sub sQ
  replace hs27 := hs27.sub sQ
  replace hs29 := hs29.sub sQ
  replace hs31 := hs31.sub sQ
  replace hs49 := hs49.sub sQ
  replace h51_0 := h51_0.sub sQ
  replace ha44 := ha44.sub sQ
  replace h57_0 := h57_0.sub sQ
  replace h65_0 := h65_0.sub sQ
  replace h70_0 := h70_0.sub sQ
  replace ha61 := ha61.sub sQ
  replace h77_0 := h77_0.sub sQ
  replace tQ := fun b hb => tQ b (sT b hb)
  replace sQ0 := fun b hb hl => sQ b (sQ0 b hb hl) (Nat.lt_of_lt_of_le hl M.size)
  replace ha2 := ha2.md hm (apart_ow hO710 ha2 (by decide))
  replace ha6y := ha6y.md hm hS
  replace h7_0 := h7_0.md hm hS
  replace h13_0 := h13_0.md hm hS
  replace ha23 := ha23.md hm hS
  replace hs25 := hs25.md hm hS
  replace hs27 := hs27.md hm hS
  replace hs29 := hs29.md hm hS
  replace hs31 := hs31.md hm hS
  replace hs49 := hs49.md hm hS
  replace h51_0 := h51_0.md hm hS
  replace ha44 := ha44.md hm hS
  replace h57_0 := h57_0.md hm hS
  replace h65_0 := h65_0.md hm hS
  replace h70_0 := h70_0.md hm hS
  replace ha61 := ha61.md hm hS
  replace h77_0 := h77_0.md hm hS
  replace uQ := uQ.md hm
  replace M := M.stepO hm (fun b hb => (hO710.2 b hb).1)
  clear uQ; have uQ := uQ2; clear uQ2 sQ sT hS hv2
  refine st _ (r_assign rfl) ?_
  refine st_nil ?_
  refine c_then ?_
  refine c_ret ?_
  exact ret1L (v := v79) trivial rfl ⟨rfl, trivial⟩ ⟨_, ((((((((((((([76, 80, 75, 83, 72, 72, 82, 72]) ++ x7_0) ++ x13_0) ++ ([UInt8.ofNat h.state, 0, 0, 0, 0, 0, 0, 0])) ++ h.file) ++ h.machine) ++ h.boot) ++ h.seq) ++ x51_0) ++ x57_0) ++ x65_0) ++ x70_0) ++ x77_0), Q81, rfl, M, ⟨sQ0, tQ, uQ⟩, hO78, (by rw [headF] <;> simp (disch := first | omega | assumption | (simp; done) | fail) only [if_pos, if_neg, Option.getD_some, Option.some.injEq, reduceIte, Bool.false_eq_true, Bool.true_eq_false, decide_true, decide_false, not_true_eq_false, not_false_eq_true, hF7, hF13, hF51, hF57, hF65, hF70, hF77])⟩
theorem headBytes_any_ls {w : World} {Q : Nat → Prop} (uQ : Up w Q) (h : RHead) (a0_0 : RHead.ok h) (depth : Nat) (a1 : depth < 18446744073709551616) :
    Calls Try.prog 28 #[.agg (RHead.cells h).toArray, (.int .u64 ((depth : Nat) : Int))] w fun en w' => ∃ u0 : Value, ∃ r0 : List UInt8, en = .returned (u0) ∧ Md [] w w' ∧ Ls tB8 w' Q u0 r0 ∧ headF h depth = r0 :=
  (headBytes_any uQ h a0_0 depth a1).mono fun en w' ⟨u0, r0, Q2, he, hm, kq, k0, hF⟩ => ⟨u0, r0, he, hm, k0.ls kq.2.1 (Fsh.up uQ), hF⟩
end Go.Proofs.Ytahkddpdhmhfcaa
