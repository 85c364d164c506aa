/- Walks of functions: what each call returns. -/
import Derived.Test.YtimakajeggeebaaRows
import Derived.Test.YtimakajeggeebaaDraws
import Derived.Test.YtimakajeggeebaaHashP
namespace Go.Proofs.Ytimakajeggeebaa
open Go Go.Wk Go.RowKit
attribute [local irreducible] wpList wpQuiet wpStill wpMix Code.wp Calls bodyPost
theorem agg23 : isAggN Try.prog 23 16 = true := by kernel_rfl
theorem agg72 : isAggN Try.prog 72 3 = true := by kernel_rfl
theorem agg78 : isAggN Try.prog 78 4 = true := by kernel_rfl
theorem agg83 : isAggN Try.prog 83 6 = true := by kernel_rfl
theorem el27 : elemIs Try.prog 27 1 = true := by kernel_rfl
theorem el5 : elemIs Try.prog 5 1 = true := by kernel_rfl
theorem elT5 : elT Try.prog 5 1 1 = true := by kernel_rfl
theorem fn15 : isFn Try.prog 15 = true := by kernel_rfl
theorem fn16 : isFn Try.prog 16 = true := by kernel_rfl
theorem fn17 : isFn Try.prog 17 = true := by kernel_rfl
theorem fn18 : isFn Try.prog 18 = true := by kernel_rfl
theorem fn21 : isFn Try.prog 21 = true := by kernel_rfl
theorem fn22 : isFn Try.prog 22 = true := by kernel_rfl
theorem fn23 : isFn Try.prog 23 = true := by kernel_rfl
theorem fn49 : isFn Try.prog 49 = true := by kernel_rfl
theorem fn50 : isFn Try.prog 50 = true := by kernel_rfl
theorem fn51 : isFn Try.prog 51 = true := by kernel_rfl
theorem fn52 : isFn Try.prog 52 = true := by kernel_rfl
theorem fn53 : isFn Try.prog 53 = true := by kernel_rfl
theorem fn54 : isFn Try.prog 54 = true := by kernel_rfl
theorem fn55 : isFn Try.prog 55 = true := by kernel_rfl
theorem fn56 : isFn Try.prog 56 = true := by kernel_rfl
theorem fn57 : isFn Try.prog 57 = true := by kernel_rfl
theorem fn58 : isFn Try.prog 58 = true := by kernel_rfl
theorem fn72 : isFn Try.prog 72 = true := by kernel_rfl
theorem fn73 : isFn Try.prog 73 = true := by kernel_rfl
theorem fn74 : isFn Try.prog 74 = true := by kernel_rfl
theorem fn75 : isFn Try.prog 75 = true := by kernel_rfl
theorem mixed : Try.prog.follows .mixedOrders = true := by kernel_rfl
theorem off72_0 : fieldOff Try.prog 72 0 = some 0 := by kernel_rfl
theorem off72_1 : fieldOff Try.prog 72 1 = some 1 := by kernel_rfl
theorem off72_2 : fieldOff Try.prog 72 2 = some 2 := by kernel_rfl
theorem off83_0 : fieldOff Try.prog 83 0 = some 0 := by kernel_rfl
theorem off83_1 : fieldOff Try.prog 83 1 = some 1 := by kernel_rfl
theorem off83_2 : fieldOff Try.prog 83 2 = some 2 := by kernel_rfl
theorem off83_3 : fieldOff Try.prog 83 3 = some 3 := by kernel_rfl
theorem off83_4 : fieldOff Try.prog 83 4 = some 4 := by kernel_rfl
theorem off83_5 : fieldOff Try.prog 83 5 = some 5 := by kernel_rfl
theorem one25 : isOne Try.prog 25 = true := by kernel_rfl
theorem one27 : isOne Try.prog 27 = true := by kernel_rfl
theorem one3 : isOne Try.prog 3 = true := by kernel_rfl
theorem one5 : isOne Try.prog 5 = true := by kernel_rfl
theorem one70 : isOne Try.prog 70 = true := by kernel_rfl
theorem pl72 : bplace Try.prog 72 = some [(0, 1), (1, 1), (2, 1)] := by kernel_rfl
theorem pl78 : bplace Try.prog 78 = some [(0, 1), (1, 1), (2, 1), (3, 1)] := by kernel_rfl
theorem pl83 : bplace Try.prog 83 = some [(0, 1), (1, 1), (2, 1), (3, 1), (4, 1), (5, 1)] := by kernel_rfl
theorem u23 : Try.prog.underlying 23 = some (.array 16 5) := by kernel_rfl
theorem u25 : Try.prog.underlying 25 = some (.slice 5) := by kernel_rfl
theorem u27 : Try.prog.underlying 27 = some (.int .u64) := by kernel_rfl
theorem u3 : Try.prog.underlying 3 = some (.int .i64) := by kernel_rfl
theorem u5 : Try.prog.underlying 5 = some (.int .u8) := by kernel_rfl
theorem u70 : Try.prog.underlying 70 = some (.int .u32) := by kernel_rfl
theorem u73 : Try.prog.underlying 73 = some (.array 12 5) := by kernel_rfl
theorem u74 : Try.prog.underlying 74 = some (.int .u64) := by kernel_rfl
theorem u78 : Try.prog.underlying 78 = some (.array 4 27) := by kernel_rfl
theorem u85 : Try.prog.underlying 85 = some (.array 8 5) := by kernel_rfl
theorem z72 : zcells Try.prog 72 = some [.int .u32 0, .int .u32 0, .int .u32 0] := by kernel_rfl
theorem z73 : zcells Try.prog 73 = some [.int .u8 0, .int .u8 0, .int .u8 0, .int .u8 0, .int .u8 0, .int .u8 0, .int .u8 0, .int .u8 0, .int .u8 0, .int .u8 0, .int .u8 0, .int .u8 0] := by kernel_rfl
theorem z78 : zcells Try.prog 78 = some [.int .u64 0, .int .u64 0, .int .u64 0, .int .u64 0] := by kernel_rfl
theorem z83 : zcells Try.prog 83 = some [.int .u64 0, .int .u64 0, .int .u64 0, .int .u64 0, .int .i64 0, .slice none 0 0] := by kernel_rfl
theorem z85 : zcells Try.prog 85 = some [.int .u8 0, .int .u8 0, .int .u8 0, .int .u8 0, .int .u8 0, .int .u8 0, .int .u8 0, .int .u8 0] := by kernel_rfl

theorem size_any (n : Int) (w : World) : Calls Try.prog 74 #[.int .i64 n] w fun e w' => e = .returned (.bool (szB n)) ∧ w = w' := by
  have M := Md.refl [] w
  refine enter (n := 17) Try.func74 rfl rfl rfl ?_
  intro B
  refine c_seq ?_
  refine c_region ?_
  refine st _ (r_assign rfl) ?_
  refine st_nil ?_
  refine c_then ?_
  refine c_seq ?_
  refine c_region ?_
  refine st _ (r_move rfl) ?_
  refine st _ (r_eq rfl rfl) ?_
  refine st _ (r_move rfl) ?_
  refine part_n (t := 5) rfl (fun h5 => ?_) (fun h5 => ?_)
  · skip
    first | (have h5n := of_decide_eq_true h5) | (have h5n := of_decide_eq_false (bnt h5)) | (have h5n := bnt h5) | (have h5n := h5)
    refine st_skip rfl rfl rfl h5 ?_
    refine st_skip rfl rfl rfl h5 ?_
    refine st _ (r_pick_t rfl h5 rfl) ?_
    refine st _ (r_move rfl) ?_
    refine st_skip rfl rfl rfl rfl ?_
    refine st_skip rfl rfl rfl rfl ?_
    refine st _ (r_pick_t rfl rfl rfl) ?_
    refine st _ (r_move rfl) ?_
    refine st_skip rfl rfl rfl rfl ?_
    refine st_skip rfl rfl rfl rfl ?_
    refine st _ (r_pick_t rfl rfl rfl) ?_
    refine st _ (r_assign rfl) ?_
    refine st_nil ?_
    refine c_then ?_
    refine c_ret ?_
    exact ret1 trivial rfl rfl ⟨retB (by rw [Bool.eq_iff_iff]; simp [szB]; omega), rfl⟩
  · skip
    first | (have h5n := of_decide_eq_false h5) | (have h5n := of_decide_eq_true (bnf h5)) | (have h5n := bnf h5) | (have h5n := h5)
    refine st_g _ rfl rfl rfl h5 (r_move rfl) ?_
    refine st_g _ rfl rfl rfl h5 (r_eq rfl rfl) ?_
    refine st _ (r_pick_f rfl h5 rfl) ?_
    refine st _ (r_move rfl) ?_
    refine part_n (t := 9) rfl (fun h9 => ?_) (fun h9 => ?_)
    · skip
      first | (have h9n := of_decide_eq_true h9) | (have h9n := of_decide_eq_false (bnt h9)) | (have h9n := bnt h9) | (have h9n := h9)
      refine st_skip rfl rfl rfl h9 ?_
      refine st_skip rfl rfl rfl h9 ?_
      refine st _ (r_pick_t rfl h9 rfl) ?_
      refine st _ (r_move rfl) ?_
      refine st_skip rfl rfl rfl rfl ?_
      refine st_skip rfl rfl rfl rfl ?_
      refine st _ (r_pick_t rfl rfl rfl) ?_
      refine st _ (r_assign rfl) ?_
      refine st_nil ?_
      refine c_then ?_
      refine c_ret ?_
      exact ret1 trivial rfl rfl ⟨retB (by rw [Bool.eq_iff_iff]; simp [szB]; omega), rfl⟩
    · skip
      first | (have h9n := of_decide_eq_false h9) | (have h9n := of_decide_eq_true (bnf h9)) | (have h9n := bnf h9) | (have h9n := h9)
      refine st_g _ rfl rfl rfl h9 (r_move rfl) ?_
      refine st_g _ rfl rfl rfl h9 (r_eq rfl rfl) ?_
      refine st _ (r_pick_f rfl h9 rfl) ?_
      refine st _ (r_move rfl) ?_
      refine part_n (t := 13) rfl (fun h13 => ?_) (fun h13 => ?_)
      · skip
        first | (have h13n := of_decide_eq_true h13) | (have h13n := of_decide_eq_false (bnt h13)) | (have h13n := bnt h13) | (have h13n := h13)
        refine st_skip rfl rfl rfl h13 ?_
        refine st_skip rfl rfl rfl h13 ?_
        refine st _ (r_pick_t rfl h13 rfl) ?_
        refine st _ (r_assign rfl) ?_
        refine st_nil ?_
        refine c_then ?_
        refine c_ret ?_
        exact ret1 trivial rfl rfl ⟨retB (by rw [Bool.eq_iff_iff]; simp [szB]; omega), rfl⟩
      · skip
        first | (have h13n := of_decide_eq_false h13) | (have h13n := of_decide_eq_true (bnf h13)) | (have h13n := bnf h13) | (have h13n := h13)
        refine st_g _ rfl rfl rfl h13 (r_move rfl) ?_
        refine st_g _ rfl rfl rfl h13 (r_eq rfl rfl) ?_
        refine st _ (r_pick_f rfl h13 rfl) ?_
        refine st _ (r_assign rfl) ?_
        refine st_nil ?_
        refine c_then ?_
        refine c_ret ?_
        exact ret1 trivial rfl rfl ⟨retB (by rw [Bool.eq_iff_iff]; simp [szB]; omega), rfl⟩
theorem get_ok (v : Value) (l : List UInt8) (a n : Int) (w : World) (hB : By w v l) (hn : n = 1 ∨ n = 2 ∨ n = 4 ∨ n = 8) (ha : 0 ≤ a) (hl : a + n ≤ l.length) :
    Calls Try.prog 56 #[v, .int .i64 a, .int .i64 n] w fun e w' => e = .returned (.tuple #[.int .u64 (leNum ((l.drop a.toNat).take n.toNat)), .bool true]) ∧ w = w' := by
  have hsz : szB n = true := by simp [szB]; omega
  have hlen := hB.len63
  have M := Md.refl [] w
  refine enter (n := 42) Try.func56 rfl rfl rfl ?_
  intro B
  refine c_seq ?_
  refine c_region ?_
  refine st _ (r_assign rfl) ?_
  refine st _ (r_assign rfl) ?_
  refine st_nil ?_
  refine c_then ?_
  refine c_seq ?_
  refine c_seq ?_
  refine c_region ?_
  refine st _ (r_move rfl) ?_
  refine st_call fn74 rfl (size_any _ _) ?_
  rintro e _ ⟨rfl, rfl⟩; refine ⟨_, rfl, ?_⟩
  refine st _ (r_not rfl) ?_
  refine st _ (r_move rfl) ?_
  refine st_g _ rfl rfl rfl (by rw [hsz]; rfl) (r_move rfl) ?_
  refine st_g _ rfl rfl rfl (by rw [hsz]; rfl) (r_lt rfl rfl) ?_
  refine st _ (r_pick_f rfl (by rw [hsz]; rfl) rfl) ?_
  refine st _ (r_move rfl) ?_
  refine part_n (t := 17) rfl (fun h17 => ?_) (fun h17 => ?_)
  · skip
    first | (have h17n := of_decide_eq_true h17) | (have h17n := of_decide_eq_false (bnt h17)) | (have h17n := bnt h17) | (have h17n := h17)
    exfalso; omega
  · skip
    first | (have h17n := of_decide_eq_false h17) | (have h17n := of_decide_eq_true (bnf h17)) | (have h17n := bnf h17) | (have h17n := h17)
    refine st_g _ rfl rfl rfl h17 (r_move rfl) ?_
    refine st_g _ rfl rfl rfl h17 (r_move rfl) ?_
    refine st_g _ rfl rfl rfl h17 (r_len rfl u25 hB.shp) ?_
    refine st_g _ rfl rfl rfl h17 (r_move rfl) ?_
    refine st_g _ rfl rfl rfl h17 (r_subI rfl rfl (by omega)) ?_
    refine st_g _ rfl rfl rfl h17 (r_gt rfl rfl) ?_
    refine st _ (r_pick_f rfl h17 rfl) ?_
    refine st_nil ?_
    refine c_then ?_
    refine c_if rfl (fun h24 => ?_) (fun h24 => ?_)
    · skip
      first | (have h24n := of_decide_eq_true h24) | (have h24n := of_decide_eq_false (bnt h24)) | (have h24n := bnt h24) | (have h24n := h24)
      exfalso; omega
    · skip
      first | (have h24n := of_decide_eq_false h24) | (have h24n := of_decide_eq_true (bnf h24)) | (have h24n := bnf h24) | (have h24n := h24)
      refine c_skip ?_
      refine c_then ?_
      refine c_seq ?_
      refine c_region ?_
      refine st _ (r_assign rfl) ?_
      refine st_nil ?_
      refine c_then ?_
      refine c_seq ?_
      refine c_seq ?_
      refine c_region ?_
      refine st _ (r_move rfl) ?_
      refine st _ (r_subI rfl rfl (by omega)) ?_
      refine st _ (r_assign rfl) ?_
      refine st_nil ?_
      refine c_then ?_
      refine c_block ?_
      refine c_loop (X := Nat) (fun k => [(0, v), (1, .int .i64 a), (8, .int .u64 (leNum ((l.drop (a.toNat + (n.toNat - k))).take k))), (9, .int .i64 (n - 1 - k))]) (fun k w' => w = w' ∧ (k : Int) ≤ n) (fun k => (n - k).toNat) 0 ?_ ?_ ?_
      · exact ⟨rfl, rfl, fitI rfl (by simp [leNum]), fitI rfl (by omega), trivial⟩
      · exact ⟨rfl, by omega⟩
      · clear M
        rintro k B w1 ⟨rfl, hk⟩
        refine c_seq ?_
        refine c_seq ?_
        refine c_region ?_
        refine st _ (r_move rfl) ?_
        refine st _ (r_ge rfl rfl) ?_
        refine st_nil ?_
        refine c_then ?_
        refine c_if rfl (fun h28 => ?_) (fun h28 => ?_)
        · skip
          first | (have h28n := of_decide_eq_true h28) | (have h28n := of_decide_eq_false (bnt h28)) | (have h28n := bnt h28) | (have h28n := h28)
          refine c_skip ?_
          refine c_then ?_
          refine c_seq ?_
          refine c_block ?_
          refine c_region ?_
          refine st _ (r_move rfl) ?_
          refine st _ (r_shl rfl rfl (by omega)) ?_
          refine st _ (r_move rfl) ?_
          refine st _ (r_move rfl) ?_
          refine st _ (r_move rfl) ?_
          refine st _ (r_addI rfl rfl (by omega)) ?_
          refine st _ (r_index rfl rfl u25 el5 hB.shp (by omega)) ?_
          refine st _ (r_loadB rfl one5 hB (by omega)) ?_
          refine st _ (r_conv (by rw [u5]; rfl) u27 rfl) ?_
          refine st _ (r_or rfl rfl) ?_
          refine st _ (r_assign rfl) ?_
          refine st_nil ?_
          refine n_block ?_
          refine c_then ?_
          refine c_region ?_
          refine st _ (r_move rfl) ?_
          refine st _ (r_subI rfl rfl (by omega)) ?_
          refine st _ (r_assign rfl) ?_
          refine st_nil ?_
          refine c_then ?_
          refine next (k + 1) (by omega) ⟨rfl, rfl, fitI rfl (get_round a n k hn ha hl (by omega)), fitI rfl (by omega), trivial⟩ ?_
          exact ⟨rfl, by omega⟩
        · skip
          first | (have h28n := of_decide_eq_false h28) | (have h28n := of_decide_eq_true (bnf h28)) | (have h28n := bnf h28) | (have h28n := h28)
          refine c_exit ?_
          refine x_then ?_
          refine x_then ?_
          refine x_hit ?_
          refine c_then ?_
          refine c_seq ?_
          refine c_region ?_
          refine st _ (r_move rfl) ?_
          refine st _ (r_assign rfl) ?_
          refine st _ (r_assign rfl) ?_
          refine st_nil ?_
          refine c_then ?_
          refine c_ret ?_
          exact ret2 trivial rfl rfl rfl ⟨retV (by obtain rfl : (k : Int) = n := (by omega); simp), rfl⟩
theorem rot32_any (x k : Int) (w : World) (h0 : 0 ≤ k) (h1 : k < 32) : Calls Try.prog 72 #[.int .u32 x, .int .i64 k] w fun e w' => e = .returned (.int .u32 (rot32 x k)) ∧ w = w' := by
  have M := Md.refl [] w
  refine enter (n := 17) Try.func72 rfl rfl rfl ?_
  intro B
  refine c_seq ?_
  refine c_region ?_
  refine st _ (r_assign rfl) ?_
  refine st_nil ?_
  refine c_then ?_
  refine c_seq ?_
  refine c_region ?_
  refine st _ (r_move rfl) ?_
  refine st _ (r_conv (by rw [u3]; rfl) u74 rfl) ?_
  refine st _ ((r_and rfl rfl).castI (and31 h0 h1)) ?_
  refine st _ (r_assign rfl) ?_
  refine st_nil ?_
  refine c_then ?_
  refine c_seq ?_
  refine c_region ?_
  refine st _ (r_move rfl) ?_
  refine st _ (r_move rfl) ?_
  refine st _ (r_shl rfl rfl (by omega)) ?_
  refine st _ (r_move rfl) ?_
  refine st _ (r_move rfl) ?_
  refine st _ ((r_sub rfl rfl).castI (wrap_u64 (by omega) (by omega))) ?_
  refine st _ (r_shr rfl rfl (by omega)) ?_
  refine st _ (r_or rfl rfl) ?_
  refine st _ (r_assign rfl) ?_
  refine st_nil ?_
  refine c_then ?_
  refine c_ret ?_
  exact ret1 trivial rfl rfl ⟨rfl, rfl⟩
theorem rot64_any (x k : Int) (w : World) (h0 : 0 ≤ k) (h1 : k < 64) : Calls Try.prog 75 #[.int .u64 x, .int .i64 k] w fun e w' => e = .returned (.int .u64 (rot64 x k)) ∧ w = w' := by
  have M := Md.refl [] w
  refine enter (n := 17) Try.func75 rfl rfl rfl ?_
  intro B
  refine c_seq ?_
  refine c_region ?_
  refine st _ (r_assign rfl) ?_
  refine st_nil ?_
  refine c_then ?_
  refine c_seq ?_
  refine c_region ?_
  refine st _ (r_move rfl) ?_
  refine st _ (r_conv (by rw [u3]; rfl) u74 rfl) ?_
  refine st _ ((r_and rfl rfl).castI (and63 h0 h1)) ?_
  refine st _ (r_assign rfl) ?_
  refine st_nil ?_
  refine c_then ?_
  refine c_seq ?_
  refine c_region ?_
  refine st _ (r_move rfl) ?_
  refine st _ (r_move rfl) ?_
  refine st _ (r_shl rfl rfl (by omega)) ?_
  refine st _ (r_move rfl) ?_
  refine st _ (r_move rfl) ?_
  refine st _ ((r_sub rfl rfl).castI (wrap_u64 (by omega) (by omega))) ?_
  refine st _ (r_shr rfl rfl (by omega)) ?_
  refine st _ (r_or rfl rfl) ?_
  refine st _ (r_assign rfl) ?_
  refine st_nil ?_
  refine c_then ?_
  refine c_ret ?_
  exact ret1 trivial rfl rfl ⟨rfl, rfl⟩
theorem turn_any (x k : Int) (w : World) (h0 : 0 ≤ k) (h1 : k < 32) : Calls Try.prog 53 #[.int .u32 x, .int .u64 k] w fun e w' => e = .returned (.int .u32 (rot32 x k)) ∧ w = w' := by
  have M := Md.refl [] w
  refine enter (n := 13) Try.func53 rfl rfl rfl ?_
  intro B
  refine c_seq ?_
  refine c_region ?_
  refine st _ (r_assign rfl) ?_
  refine st_nil ?_
  refine c_then ?_
  refine c_seq ?_
  refine c_region ?_
  refine st _ (r_move rfl) ?_
  refine st _ (r_move rfl) ?_
  refine st _ (r_shl rfl rfl (by omega)) ?_
  refine st _ (r_move rfl) ?_
  refine st _ (r_move rfl) ?_
  refine st _ ((r_sub rfl rfl).castI (wrap_u64 (by omega) (by omega))) ?_
  refine st _ (r_shr rfl rfl (by omega)) ?_
  refine st _ (r_or rfl rfl) ?_
  refine st _ (r_assign rfl) ?_
  refine st_nil ?_
  refine c_then ?_
  refine c_ret ?_
  exact ret1 trivial rfl rfl ⟨rfl, rfl⟩
theorem up_any (x k : Int) (w : World) (h0 : 0 ≤ k) (h1 : k < 64) : Calls Try.prog 73 #[.int .u64 x, .int .u64 k] w fun e w' => e = .returned (.int .u64 (rot64 x k)) ∧ w = w' := by
  have M := Md.refl [] w
  refine enter (n := 13) Try.func73 rfl rfl rfl ?_
  intro B
  refine c_seq ?_
  refine c_region ?_
  refine st _ (r_assign rfl) ?_
  refine st_nil ?_
  refine c_then ?_
  refine c_seq ?_
  refine c_region ?_
  refine st _ (r_move rfl) ?_
  refine st _ (r_move rfl) ?_
  refine st _ (r_shl rfl rfl (by omega)) ?_
  refine st _ (r_move rfl) ?_
  refine st _ (r_move rfl) ?_
  refine st _ ((r_sub rfl rfl).castI (wrap_u64 (by omega) (by omega))) ?_
  refine st _ (r_shr rfl rfl (by omega)) ?_
  refine st _ (r_or rfl rfl) ?_
  refine st _ (r_assign rfl) ?_
  refine st_nil ?_
  refine c_then ?_
  refine c_ret ?_
  exact ret1 trivial rfl rfl ⟨rfl, rfl⟩
theorem tadd_any (b : Nat) (t : T3) (v : Value) (l : List UInt8) (w : World) (hT : Blk w b t.cells 72) (hB : By w v l) (hA : Apart v l [b]) (hl : 12 ≤ l.length) :
    Calls Try.prog 49 #[.pointer (some ⟨b, 0, none⟩), v] w fun e w' => e = .returned (.tuple #[]) ∧ Md [b] w w' ∧ Blk w' b (add12 t l).cells 72 := by
  have M := Md.refl [b] w
  refine enter (n := 52) Try.func49 rfl rfl rfl ?_
  intro B
  refine c_seq ?_
  refine c_region ?_
  refine st _ (r_move rfl) ?_
  refine st_call fn56 rfl (get_ok _ _ 0 4 _ (hB.md M hA) (by decide) (by decide) (by omega)) ?_
  rintro e _ ⟨rfl, rfl⟩; refine ⟨_, rfl, ?_⟩
  refine st _ (r_move rfl) ?_
  refine st _ (r_extract rfl rfl) ?_
  refine st _ (r_extract rfl rfl) ?_
  refine st _ (r_assign rfl) ?_
  refine st _ (r_assign rfl) ?_
  refine st_nil ?_
  refine c_then ?_
  refine c_seq ?_
  refine c_region ?_
  refine st _ (r_move rfl) ?_
  refine st_call fn56 rfl (get_ok _ _ 4 4 _ (hB.md M hA) (by decide) (by decide) (by omega)) ?_
  rintro e _ ⟨rfl, rfl⟩; refine ⟨_, rfl, ?_⟩
  refine st _ (r_move rfl) ?_
  refine st _ (r_extract rfl rfl) ?_
  refine st _ (r_extract rfl rfl) ?_
  refine st _ (r_assign rfl) ?_
  refine st _ (r_assign rfl) ?_
  refine st_nil ?_
  refine c_then ?_
  refine c_seq ?_
  refine c_region ?_
  refine st _ (r_move rfl) ?_
  refine st_call fn56 rfl (get_ok _ _ 8 4 _ (hB.md M hA) (by decide) (by decide) (by omega)) ?_
  rintro e _ ⟨rfl, rfl⟩; refine ⟨_, rfl, ?_⟩
  refine st _ (r_move rfl) ?_
  refine st _ (r_extract rfl rfl) ?_
  refine st _ (r_extract rfl rfl) ?_
  refine st _ (r_assign rfl) ?_
  refine st _ (r_assign rfl) ?_
  refine st_nil ?_
  refine c_then ?_
  refine c_seq ?_
  refine c_region ?_
  refine st _ (r_move rfl) ?_
  refine st _ (r_nil rfl) ?_
  refine st _ (r_field rfl off72_0) ?_
  refine st _ (r_loadBlk rfl one70 hT rfl) ?_
  refine st _ (r_move rfl) ?_
  refine st _ (r_conv (by rw [u27]; rfl) u70 rfl) ?_
  refine st _ (r_add rfl rfl) ?_
  refine st _ (r_nil rfl) ?_
  refine st _ (r_field rfl off72_0) ?_
  refine st_store rfl rfl one70 rfl hT (Nat.le_of_ble_eq_true rfl) ?_
  have hT0 := hT
  clear hT
  intro w1 hm hT
  replace M := M.step1' hm (by simp)
  refine st_nil ?_
  refine c_then ?_
  refine c_seq ?_
  refine c_region ?_
  refine st _ (r_move rfl) ?_
  refine st _ (r_nil rfl) ?_
  refine st _ (r_field rfl off72_1) ?_
  refine st _ (r_loadBlk rfl one70 hT rfl) ?_
  refine st _ (r_move rfl) ?_
  refine st _ (r_conv (by rw [u27]; rfl) u70 rfl) ?_
  refine st _ (r_add rfl rfl) ?_
  refine st _ (r_nil rfl) ?_
  refine st _ (r_field rfl off72_1) ?_
  refine st_store rfl rfl one70 rfl hT (Nat.le_of_ble_eq_true rfl) ?_
  have hT0 := hT
  clear hT
  intro w2 hm hT
  replace M := M.step1' hm (by simp)
  refine st_nil ?_
  refine c_then ?_
  refine c_region ?_
  refine st _ (r_move rfl) ?_
  refine st _ (r_nil rfl) ?_
  refine st _ (r_field rfl off72_2) ?_
  refine st _ (r_loadBlk rfl one70 hT rfl) ?_
  refine st _ (r_move rfl) ?_
  refine st _ (r_conv (by rw [u27]; rfl) u70 rfl) ?_
  refine st _ (r_add rfl rfl) ?_
  refine st _ (r_nil rfl) ?_
  refine st _ (r_field rfl off72_2) ?_
  refine st_store rfl rfl one70 rfl hT (Nat.le_of_ble_eq_true rfl) ?_
  have hT0 := hT
  clear hT
  intro w3 hm hT
  replace M := M.step1' hm (by simp)
  refine st_nil ?_
  refine ret0 trivial rfl ⟨rfl, M, ?_⟩
  rw [show (add12 t l).cells = ([.int .u32 (add12 t l).x, .int .u32 (add12 t l).y, .int .u32 (add12 t l).z] : List Value) from rfl]
  simp only [add12, ← le4_take l 0 (by omega), ← le4_take l 4 (by omega), ← le4_take l 8 (by omega)]
  exact hT
theorem tmix_any (b : Nat) (t : T3) (w : World) (hT : Blk w b t.cells 72) :
    Calls Try.prog 50 #[.pointer (some ⟨b, 0, none⟩)] w fun e w' => e = .returned (.tuple #[]) ∧ Md [b] w w' ∧ Blk w' b (mix t).cells 72 := by
  have M := Md.refl [b] w
  refine enter (n := 89) Try.func50 rfl rfl rfl ?_
  intro B
  refine c_seq ?_
  refine c_quiet (fun w' => Md [] w w') mixed (by kernel_rfl) (Md.drew w) ?_
  refine q _ (fun w' m => r_move rfl) ?_
  refine q _ (fun w' m => r_nil rfl) ?_
  refine q _ (fun w' m => r_field rfl off72_0) ?_
  refine q _ (fun w' m => r_loadBlk rfl one70 (hT.md0 m) rfl) ?_
  refine q _ (fun w' m => r_move rfl) ?_
  refine q _ (fun w' m => r_nil rfl) ?_
  refine q _ (fun w' m => r_field rfl off72_1) ?_
  refine q _ (fun w' m => r_loadBlk rfl one70 (hT.md0 m) rfl) ?_
  refine q _ (fun w' m => r_move rfl) ?_
  refine q _ (fun w' m => r_nil rfl) ?_
  refine q _ (fun w' m => r_field rfl off72_2) ?_
  refine q _ (fun w' m => r_loadBlk rfl one70 (hT.md0 m) rfl) ?_
  refine q _ (fun w' m => r_assign rfl) ?_
  refine q _ (fun w' m => r_assign rfl) ?_
  refine q _ (fun w' m => r_assign rfl) ?_
  refine q_nil ?_
  intro w1 hm
  replace hT := hT.md0 hm
  replace M := M.step0 hm
  refine c_then ?_
  refine c_seq ?_
  refine c_region ?_
  refine st _ (r_move rfl) ?_
  refine st _ (r_move rfl) ?_
  refine st _ (r_sub rfl rfl) ?_
  refine st _ (r_assign rfl) ?_
  refine st_nil ?_
  refine c_then ?_
  refine c_seq ?_
  refine c_region ?_
  refine st _ (r_move rfl) ?_
  refine st _ (r_move rfl) ?_
  refine st_call fn72 rfl (rot32_any _ _ _ (by decide) (by decide)) ?_
  rintro e _ ⟨rfl, rfl⟩; refine ⟨_, rfl, ?_⟩
  refine st _ (r_xor rfl rfl) ?_
  refine st _ (r_assign rfl) ?_
  refine st_nil ?_
  refine c_then ?_
  refine c_seq ?_
  refine c_region ?_
  refine st _ (r_move rfl) ?_
  refine st _ (r_move rfl) ?_
  refine st _ (r_add rfl rfl) ?_
  refine st _ (r_assign rfl) ?_
  refine st_nil ?_
  refine c_then ?_
  refine c_seq ?_
  refine c_region ?_
  refine st _ (r_move rfl) ?_
  refine st _ (r_move rfl) ?_
  refine st _ (r_sub rfl rfl) ?_
  refine st _ (r_assign rfl) ?_
  refine st_nil ?_
  refine c_then ?_
  refine c_seq ?_
  refine c_region ?_
  refine st _ (r_move rfl) ?_
  refine st _ (r_move rfl) ?_
  refine st_call fn72 rfl (rot32_any _ _ _ (by decide) (by decide)) ?_
  rintro e _ ⟨rfl, rfl⟩; refine ⟨_, rfl, ?_⟩
  refine st _ (r_xor rfl rfl) ?_
  refine st _ (r_assign rfl) ?_
  refine st_nil ?_
  refine c_then ?_
  refine c_seq ?_
  refine c_region ?_
  refine st _ (r_move rfl) ?_
  refine st _ (r_move rfl) ?_
  refine st _ (r_add rfl rfl) ?_
  refine st _ (r_assign rfl) ?_
  refine st_nil ?_
  refine c_then ?_
  refine c_seq ?_
  refine c_region ?_
  refine st _ (r_move rfl) ?_
  refine st _ (r_move rfl) ?_
  refine st _ (r_sub rfl rfl) ?_
  refine st _ (r_assign rfl) ?_
  refine st_nil ?_
  refine c_then ?_
  refine c_seq ?_
  refine c_region ?_
  refine st _ (r_move rfl) ?_
  refine st _ (r_move rfl) ?_
  refine st_call fn72 rfl (rot32_any _ _ _ (by decide) (by decide)) ?_
  rintro e _ ⟨rfl, rfl⟩; refine ⟨_, rfl, ?_⟩
  refine st _ (r_xor rfl rfl) ?_
  refine st _ (r_assign rfl) ?_
  refine st_nil ?_
  refine c_then ?_
  refine c_seq ?_
  refine c_region ?_
  refine st _ (r_move rfl) ?_
  refine st _ (r_move rfl) ?_
  refine st _ (r_add rfl rfl) ?_
  refine st _ (r_assign rfl) ?_
  refine st_nil ?_
  refine c_then ?_
  refine c_seq ?_
  refine c_region ?_
  refine st _ (r_move rfl) ?_
  refine st _ (r_move rfl) ?_
  refine st _ (r_sub rfl rfl) ?_
  refine st _ (r_assign rfl) ?_
  refine st_nil ?_
  refine c_then ?_
  refine c_seq ?_
  refine c_region ?_
  refine st _ (r_move rfl) ?_
  refine st _ (r_move rfl) ?_
  refine st_call fn72 rfl (rot32_any _ _ _ (by decide) (by decide)) ?_
  rintro e _ ⟨rfl, rfl⟩; refine ⟨_, rfl, ?_⟩
  refine st _ (r_xor rfl rfl) ?_
  refine st _ (r_assign rfl) ?_
  refine st_nil ?_
  refine c_then ?_
  refine c_seq ?_
  refine c_region ?_
  refine st _ (r_move rfl) ?_
  refine st _ (r_move rfl) ?_
  refine st _ (r_add rfl rfl) ?_
  refine st _ (r_assign rfl) ?_
  refine st_nil ?_
  refine c_then ?_
  refine c_seq ?_
  refine c_region ?_
  refine st _ (r_move rfl) ?_
  refine st _ (r_move rfl) ?_
  refine st _ (r_sub rfl rfl) ?_
  refine st _ (r_assign rfl) ?_
  refine st_nil ?_
  refine c_then ?_
  refine c_seq ?_
  refine c_region ?_
  refine st _ (r_move rfl) ?_
  refine st _ (r_move rfl) ?_
  refine st_call fn72 rfl (rot32_any _ _ _ (by decide) (by decide)) ?_
  rintro e _ ⟨rfl, rfl⟩; refine ⟨_, rfl, ?_⟩
  refine st _ (r_xor rfl rfl) ?_
  refine st _ (r_assign rfl) ?_
  refine st_nil ?_
  refine c_then ?_
  refine c_seq ?_
  refine c_region ?_
  refine st _ (r_move rfl) ?_
  refine st _ (r_move rfl) ?_
  refine st _ (r_add rfl rfl) ?_
  refine st _ (r_assign rfl) ?_
  refine st_nil ?_
  refine c_then ?_
  refine c_seq ?_
  refine c_region ?_
  refine st _ (r_move rfl) ?_
  refine st _ (r_move rfl) ?_
  refine st _ (r_sub rfl rfl) ?_
  refine st _ (r_assign rfl) ?_
  refine st_nil ?_
  refine c_then ?_
  refine c_seq ?_
  refine c_region ?_
  refine st _ (r_move rfl) ?_
  refine st _ (r_move rfl) ?_
  refine st_call fn72 rfl (rot32_any _ _ _ (by decide) (by decide)) ?_
  rintro e _ ⟨rfl, rfl⟩; refine ⟨_, rfl, ?_⟩
  refine st _ (r_xor rfl rfl) ?_
  refine st _ (r_assign rfl) ?_
  refine st_nil ?_
  refine c_then ?_
  refine c_seq ?_
  refine c_region ?_
  refine st _ (r_move rfl) ?_
  refine st _ (r_move rfl) ?_
  refine st _ (r_add rfl rfl) ?_
  refine st _ (r_assign rfl) ?_
  refine st_nil ?_
  refine c_then ?_
  refine c_region ?_
  refine st _ (r_move rfl) ?_
  refine st _ (r_move rfl) ?_
  refine st _ (r_move rfl) ?_
  refine st _ (r_move rfl) ?_
  refine st _ (r_move rfl) ?_
  refine st _ (r_move rfl) ?_
  refine st _ (r_nil rfl) ?_
  refine st _ (r_field rfl off72_0) ?_
  refine st_store rfl rfl one70 rfl hT (Nat.le_of_ble_eq_true rfl) ?_
  have hT0 := hT
  clear hT
  intro w2 hm hT
  replace M := M.step1' hm (by simp)
  refine st _ (r_nil rfl) ?_
  refine st _ (r_field rfl off72_1) ?_
  refine st_store rfl rfl one70 rfl hT (Nat.le_of_ble_eq_true rfl) ?_
  have hT0 := hT
  clear hT
  intro w3 hm hT
  replace M := M.step1' hm (by simp)
  refine st _ (r_nil rfl) ?_
  refine st _ (r_field rfl off72_2) ?_
  refine st_store rfl rfl one70 rfl hT (Nat.le_of_ble_eq_true rfl) ?_
  have hT0 := hT
  clear hT
  intro w4 hm hT
  replace M := M.step1' hm (by simp)
  refine st_nil ?_
  exact ret0 trivial rfl ⟨rfl, M, hT⟩
theorem tlast_any (b : Nat) (t : T3) (w : World) (hT : Blk w b t.cells 72) :
    Calls Try.prog 51 #[.pointer (some ⟨b, 0, none⟩)] w fun e w' => e = .returned (.tuple #[]) ∧ Md [b] w w' ∧ Blk w' b (last t).cells 72 := by
  have M := Md.refl [b] w
  refine enter (n := 78) Try.func51 rfl rfl rfl ?_
  intro B
  refine c_seq ?_
  refine c_quiet (fun w' => Md [] w w') mixed (by kernel_rfl) (Md.drew w) ?_
  refine q _ (fun w' m => r_move rfl) ?_
  refine q _ (fun w' m => r_nil rfl) ?_
  refine q _ (fun w' m => r_field rfl off72_0) ?_
  refine q _ (fun w' m => r_loadBlk rfl one70 (hT.md0 m) rfl) ?_
  refine q _ (fun w' m => r_move rfl) ?_
  refine q _ (fun w' m => r_nil rfl) ?_
  refine q _ (fun w' m => r_field rfl off72_1) ?_
  refine q _ (fun w' m => r_loadBlk rfl one70 (hT.md0 m) rfl) ?_
  refine q _ (fun w' m => r_move rfl) ?_
  refine q _ (fun w' m => r_nil rfl) ?_
  refine q _ (fun w' m => r_field rfl off72_2) ?_
  refine q _ (fun w' m => r_loadBlk rfl one70 (hT.md0 m) rfl) ?_
  refine q _ (fun w' m => r_assign rfl) ?_
  refine q _ (fun w' m => r_assign rfl) ?_
  refine q _ (fun w' m => r_assign rfl) ?_
  refine q_nil ?_
  intro w1 hm
  replace hT := hT.md0 hm
  replace M := M.step0 hm
  refine c_then ?_
  refine c_seq ?_
  refine c_region ?_
  refine st _ (r_move rfl) ?_
  refine st _ (r_move rfl) ?_
  refine st _ (r_xor rfl rfl) ?_
  refine st _ (r_assign rfl) ?_
  refine st_nil ?_
  refine c_then ?_
  refine c_seq ?_
  refine c_region ?_
  refine st _ (r_move rfl) ?_
  refine st _ (r_move rfl) ?_
  refine st_call fn72 rfl (rot32_any _ _ _ (by decide) (by decide)) ?_
  rintro e _ ⟨rfl, rfl⟩; refine ⟨_, rfl, ?_⟩
  refine st _ (r_sub rfl rfl) ?_
  refine st _ (r_assign rfl) ?_
  refine st_nil ?_
  refine c_then ?_
  refine c_seq ?_
  refine c_region ?_
  refine st _ (r_move rfl) ?_
  refine st _ (r_move rfl) ?_
  refine st _ (r_xor rfl rfl) ?_
  refine st _ (r_assign rfl) ?_
  refine st_nil ?_
  refine c_then ?_
  refine c_seq ?_
  refine c_region ?_
  refine st _ (r_move rfl) ?_
  refine st _ (r_move rfl) ?_
  refine st_call fn72 rfl (rot32_any _ _ _ (by decide) (by decide)) ?_
  rintro e _ ⟨rfl, rfl⟩; refine ⟨_, rfl, ?_⟩
  refine st _ (r_sub rfl rfl) ?_
  refine st _ (r_assign rfl) ?_
  refine st_nil ?_
  refine c_then ?_
  refine c_seq ?_
  refine c_region ?_
  refine st _ (r_move rfl) ?_
  refine st _ (r_move rfl) ?_
  refine st _ (r_xor rfl rfl) ?_
  refine st _ (r_assign rfl) ?_
  refine st_nil ?_
  refine c_then ?_
  refine c_seq ?_
  refine c_region ?_
  refine st _ (r_move rfl) ?_
  refine st _ (r_move rfl) ?_
  refine st_call fn72 rfl (rot32_any _ _ _ (by decide) (by decide)) ?_
  rintro e _ ⟨rfl, rfl⟩; refine ⟨_, rfl, ?_⟩
  refine st _ (r_sub rfl rfl) ?_
  refine st _ (r_assign rfl) ?_
  refine st_nil ?_
  refine c_then ?_
  refine c_seq ?_
  refine c_region ?_
  refine st _ (r_move rfl) ?_
  refine st _ (r_move rfl) ?_
  refine st _ (r_xor rfl rfl) ?_
  refine st _ (r_assign rfl) ?_
  refine st_nil ?_
  refine c_then ?_
  refine c_seq ?_
  refine c_region ?_
  refine st _ (r_move rfl) ?_
  refine st _ (r_move rfl) ?_
  refine st_call fn72 rfl (rot32_any _ _ _ (by decide) (by decide)) ?_
  rintro e _ ⟨rfl, rfl⟩; refine ⟨_, rfl, ?_⟩
  refine st _ (r_sub rfl rfl) ?_
  refine st _ (r_assign rfl) ?_
  refine st_nil ?_
  refine c_then ?_
  refine c_seq ?_
  refine c_region ?_
  refine st _ (r_move rfl) ?_
  refine st _ (r_move rfl) ?_
  refine st _ (r_xor rfl rfl) ?_
  refine st _ (r_assign rfl) ?_
  refine st_nil ?_
  refine c_then ?_
  refine c_seq ?_
  refine c_region ?_
  refine st _ (r_move rfl) ?_
  refine st _ (r_move rfl) ?_
  refine st_call fn72 rfl (rot32_any _ _ _ (by decide) (by decide)) ?_
  rintro e _ ⟨rfl, rfl⟩; refine ⟨_, rfl, ?_⟩
  refine st _ (r_sub rfl rfl) ?_
  refine st _ (r_assign rfl) ?_
  refine st_nil ?_
  refine c_then ?_
  refine c_seq ?_
  refine c_region ?_
  refine st _ (r_move rfl) ?_
  refine st _ (r_move rfl) ?_
  refine st _ (r_xor rfl rfl) ?_
  refine st _ (r_assign rfl) ?_
  refine st_nil ?_
  refine c_then ?_
  refine c_seq ?_
  refine c_region ?_
  refine st _ (r_move rfl) ?_
  refine st _ (r_move rfl) ?_
  refine st_call fn72 rfl (rot32_any _ _ _ (by decide) (by decide)) ?_
  rintro e _ ⟨rfl, rfl⟩; refine ⟨_, rfl, ?_⟩
  refine st _ (r_sub rfl rfl) ?_
  refine st _ (r_assign rfl) ?_
  refine st_nil ?_
  refine c_then ?_
  refine c_seq ?_
  refine c_region ?_
  refine st _ (r_move rfl) ?_
  refine st _ (r_move rfl) ?_
  refine st _ (r_xor rfl rfl) ?_
  refine st _ (r_assign rfl) ?_
  refine st_nil ?_
  refine c_then ?_
  refine c_seq ?_
  refine c_region ?_
  refine st _ (r_move rfl) ?_
  refine st _ (r_move rfl) ?_
  refine st_call fn72 rfl (rot32_any _ _ _ (by decide) (by decide)) ?_
  rintro e _ ⟨rfl, rfl⟩; refine ⟨_, rfl, ?_⟩
  refine st _ (r_sub rfl rfl) ?_
  refine st _ (r_assign rfl) ?_
  refine st_nil ?_
  refine c_then ?_
  refine c_region ?_
  refine st _ (r_move rfl) ?_
  refine st _ (r_move rfl) ?_
  refine st _ (r_move rfl) ?_
  refine st _ (r_move rfl) ?_
  refine st _ (r_move rfl) ?_
  refine st _ (r_move rfl) ?_
  refine st _ (r_nil rfl) ?_
  refine st _ (r_field rfl off72_0) ?_
  refine st_store rfl rfl one70 rfl hT (Nat.le_of_ble_eq_true rfl) ?_
  have hT0 := hT
  clear hT
  intro w2 hm hT
  replace M := M.step1' hm (by simp)
  refine st _ (r_nil rfl) ?_
  refine st _ (r_field rfl off72_1) ?_
  refine st_store rfl rfl one70 rfl hT (Nat.le_of_ble_eq_true rfl) ?_
  have hT0 := hT
  clear hT
  intro w3 hm hT
  replace M := M.step1' hm (by simp)
  refine st _ (r_nil rfl) ?_
  refine st _ (r_field rfl off72_2) ?_
  refine st_store rfl rfl one70 rfl hT (Nat.le_of_ble_eq_true rfl) ?_
  have hT0 := hT
  clear hT
  intro w4 hm hT
  replace M := M.step1' hm (by simp)
  refine st_nil ?_
  exact ret0 trivial rfl ⟨rfl, M, hT⟩
theorem lookup_any (v : Value) (l : List UInt8) (w : World) (hB : By w v l) :
    Calls Try.prog 15 #[v] w fun e w' => e = .returned (.int .u64 (lookup l)) ∧ Md [] w w' := by
  have hlen := hB.len63
  have M := Md.refl [] w
  refine enter (n := 40) Try.func15 rfl rfl rfl ?_
  intro B
  refine c_seq ?_
  refine c_region ?_
  refine st _ (r_assign rfl) ?_
  refine st_nil ?_
  refine c_then ?_
  refine c_seq ?_
  refine c_region ?_
  refine st _ (r_move rfl) ?_
  refine st _ (r_len rfl u25 hB.shp) ?_
  refine st _ (r_conv (by rw [u3]; rfl) u70 rfl) ?_
  refine st _ (r_add rfl rfl) ?_
  refine st _ (r_assign rfl) ?_
  refine st_nil ?_
  refine c_then ?_
  refine c_seq ?_
  refine c_region ?_
  refine st _ (r_move rfl) ?_
  refine st _ (r_move rfl) ?_
  refine st _ (r_move rfl) ?_
  refine st (.agg [_, _, _].toArray) (r_build (ps := [(0, 0), (1, 1), (2, 2)]) z72 pl72 rfl rfl ⟨rfl, rfl, rfl, trivial⟩ rfl rfl rfl) ?_
  refine st_alloc z72 ?_
  intro bT w1 gT lT hm hT
  replace gT := Nat.le_trans M.size gT
  replace M := M.step0 hm
  refine st_storeAll rfl rfl (by exact agg72) (by simp [Value.oneCell']) hT (by first | rfl | simp) ?_
  have hT0 := hT
  clear hT
  intro w2 hm hT
  replace M := M.step1 hm gT
  refine st_nil ?_
  refine c_then ?_
  refine c_seq ?_
  refine c_block ?_
  refine c_loop (X := T3 × List UInt8 × Value) (fun x => [(0, x.2.2), (4, .pointer (some ⟨bT, 0, none⟩))]) (fun x w' => Md [] w w' ∧ Blk w' bT x.1.cells 72 ∧ By w x.2.2 x.2.1 ∧ lk x.1 x.2.1 = lookup l ∧ x.2.1.length ≤ l.length) (fun x => x.2.1.length) (lkInit l, l, v) ?_ ?_ ?_
  · exact ⟨rfl, rfl, trivial⟩
  · exact ⟨M, hT, hB, rfl, Nat.le_refl _⟩
  · clear M
    clear hT hB
    rintro x B w3 ⟨M, hT, hB, hlk, hle⟩
    refine c_seq ?_
    refine c_seq ?_
    refine c_region ?_
    refine st _ (r_move rfl) ?_
    refine st _ (r_len rfl u25 hB.shp) ?_
    refine st _ (r_gt rfl rfl) ?_
    refine st_nil ?_
    refine c_then ?_
    refine c_if rfl (fun h16 => ?_) (fun h16 => ?_)
    · skip
      first | (have h16n := of_decide_eq_true h16) | (have h16n := of_decide_eq_false (bnt h16)) | (have h16n := bnt h16) | (have h16n := h16)
      refine c_skip ?_
      refine c_then ?_
      refine c_block ?_
      refine c_seq ?_
      refine c_region ?_
      refine st _ (r_move rfl) ?_
      refine st _ (r_slice 0 12 u25 el5 rfl hB.shp (by omega) (by omega) rfl ⟨_, rfl⟩) ?_
      refine st_call fn49 rfl (tadd_any bT x.1 _ _ _ hT ((hB.md0 M).sub 0 12 (by omega) (by omega)) ((apartOld hB gT).sub 0 12) (by simp; omega)) ?_
      have hT0 := hT; clear hT
      rintro e w4 ⟨rfl, hm, hT⟩; refine ⟨_, rfl, ?_⟩
      replace M := M.step1 hm gT
      refine st_nil ?_
      refine c_then ?_
      refine c_seq ?_
      refine c_region ?_
      refine st_call fn50 rfl (tmix_any bT _ _ hT) ?_
      have hT0 := hT; clear hT
      rintro e w5 ⟨rfl, hm, hT⟩; refine ⟨_, rfl, ?_⟩
      replace M := M.step1 hm gT
      refine st_nil ?_
      refine c_then ?_
      refine c_region ?_
      refine st _ (r_move rfl) ?_
      refine st _ (r_slice 12 x.2.1.length u25 el5 rfl hB.shp (by omega) (by omega) ⟨_, rfl⟩ rfl) ?_
      refine st _ (r_assign rfl) ?_
      refine st_nil ?_
      refine n_block ?_
      refine c_then ?_
      refine next ((mix (add12 x.1 ((x.2.1.take 12).drop 0)), (x.2.1.take x.2.1.length).drop 12, subv x.2.2 12 x.2.1.length)) (by simp; omega) ⟨rfl, rfl, trivial⟩ ?_
      refine ⟨M, hT, hB.sub 12 _ (by omega) (by omega), ?_, by simp; omega⟩
      rw [List.drop_zero, add12_take _ _ 12 (by omega), List.take_length, ← lk_step _ _ (by omega)]; exact hlk
    · skip
      first | (have h16n := of_decide_eq_false h16) | (have h16n := of_decide_eq_true (bnf h16)) | (have h16n := bnf h16) | (have h16n := h16)
      refine c_exit ?_
      refine x_then ?_
      refine x_then ?_
      refine x_hit ?_
      refine c_then ?_
      refine c_seq ?_
      refine c_seq ?_
      refine c_region ?_
      refine st _ (r_move rfl) ?_
      refine st _ (r_len rfl u25 hB.shp) ?_
      refine st _ (r_gt rfl rfl) ?_
      refine st_nil ?_
      refine c_then ?_
      refine c_if rfl (fun h25 => ?_) (fun h25 => ?_)
      · skip
        first | (have h25n := of_decide_eq_true h25) | (have h25n := of_decide_eq_false (bnt h25)) | (have h25n := bnt h25) | (have h25n := h25)
        refine c_seq ?_
        refine c_region ?_
        refine st_alloc z73 ?_
        intro bE w6 gE lE hm hE
        have nhTE : bT ≠ bE := by have := hT.lt; omega
        replace gE := Nat.le_trans M.size gE
        replace hT := hT.md0 hm
        replace M := M.step0 hm
        refine st_nil ?_
        refine c_then ?_
        refine c_seq ?_
        refine c_region ?_
        refine st _ (r_sliceArr u73 el5 rfl (by decide)) ?_
        refine st _ (r_move rfl) ?_
        refine st_copy u25 el5 rfl rfl hE (hB.md0 M) (one_b8 _) (by simp; omega) ?_
        have hE0 := hE; clear hE
        intro w7 hm hE
        replace hT := hT.md1 hm (by omega)
        replace M := M.step1 hm gE
        refine st_nil ?_
        replace hE : Blk w7 bE ((padTo 12 x.2.1).map b8) 73 := by rw [← splice_pad (m := 12) (by omega)]; exact hE
        refine c_then ?_
        refine c_seq ?_
        refine c_region ?_
        refine st _ (r_sliceArr u73 el5 rfl (by decide)) ?_
        refine st_call fn49 rfl (tadd_any bT x.1 _ _ _ hT (By.of_blk hE (padTo_len 12 _ (by omega)) (by decide)) (apart1 (Ne.symm nhTE)) (by rw [padTo_len 12 _ (by omega)]; omega)) ?_
        have hT0 := hT; clear hT
        rintro e w8 ⟨rfl, hm, hT⟩; refine ⟨_, rfl, ?_⟩
        replace hE := hE.md1 hm (by omega)
        replace M := M.step1 hm gT
        refine st_nil ?_
        refine c_then ?_
        refine c_region ?_
        refine st_call fn51 rfl (tlast_any bT _ _ hT) ?_
        have hT0 := hT; clear hT
        rintro e w9 ⟨rfl, hm, hT⟩; refine ⟨_, rfl, ?_⟩
        replace hE := hE.md1 hm (by omega)
        replace M := M.step1 hm gT
        refine st_nil ?_
        refine c_then ?_
        refine c_seq ?_
        refine c_region ?_
        refine st _ (r_field rfl off72_2) ?_
        refine st _ (r_loadBlk rfl one70 hT rfl) ?_
        refine st _ (r_conv (by rw [u70]; rfl) u27 rfl) ?_
        refine st _ (r_shl rfl rfl (by omega)) ?_
        refine st _ (r_field rfl off72_1) ?_
        refine st _ (r_loadBlk rfl one70 hT rfl) ?_
        refine st _ (r_conv (by rw [u70]; rfl) u27 rfl) ?_
        refine st _ (r_or rfl rfl) ?_
        refine st _ (r_assign rfl) ?_
        refine st_nil ?_
        refine c_then ?_
        refine c_ret ?_
        refine ret1 trivial rfl rfl ⟨retI (Eq.trans ?_ hlk), M⟩
        rw [lk_last x.1 x.2.1 (by intro h; rw [h] at h25n; simp at h25n) (by omega), ← add12_pad x.1 12 x.2.1]; rfl
      · skip
        first | (have h25n := of_decide_eq_false h25) | (have h25n := of_decide_eq_true (bnf h25)) | (have h25n := bnf h25) | (have h25n := h25)
        refine c_skip ?_
        refine c_then ?_
        refine c_seq ?_
        refine c_region ?_
        refine st _ (r_field rfl off72_2) ?_
        refine st _ (r_loadBlk rfl one70 hT rfl) ?_
        refine st _ (r_conv (by rw [u70]; rfl) u27 rfl) ?_
        refine st _ (r_shl rfl rfl (by omega)) ?_
        refine st _ (r_field rfl off72_1) ?_
        refine st _ (r_loadBlk rfl one70 hT rfl) ?_
        refine st _ (r_conv (by rw [u70]; rfl) u27 rfl) ?_
        refine st _ (r_or rfl rfl) ?_
        refine st _ (r_assign rfl) ?_
        refine st_nil ?_
        refine c_then ?_
        refine c_ret ?_
        refine ret1 trivial rfl rfl ⟨retI (Eq.trans ?_ hlk), M⟩
        rw [show x.2.1 = [] from List.eq_nil_of_length_eq_zero (by omega), lk_nil]; rfl
theorem word_any (v : Value) (l : List UInt8) (a : Int) (w : World) (hB : By w v l) (ha : 0 ≤ a) (ha2 : a ≤ 4611686018427387904) :
    Calls Try.prog 52 #[v, .int .i64 a] w fun e w' => e = .returned (.int .u32 (le4 l a.toNat)) ∧ w = w' := by
  have hlen := hB.len63
  have M := Md.refl [] w
  refine enter (n := 29) Try.func52 rfl rfl rfl ?_
  intro B
  refine c_seq ?_
  refine c_region ?_
  refine st _ (r_assign rfl) ?_
  refine st_nil ?_
  refine c_then ?_
  refine c_seq ?_
  refine c_region ?_
  refine st _ (r_assign rfl) ?_
  refine st_nil ?_
  refine c_then ?_
  refine c_seq ?_
  refine c_seq ?_
  refine c_region ?_
  refine st _ (r_assign rfl) ?_
  refine st_nil ?_
  refine c_then ?_
  refine c_block ?_
  refine c_loop (X := Nat) (fun k => [(0, v), (1, .int .i64 a), (5, .int .u32 (le4To l a.toNat k)), (6, .int .i64 (3 - k))]) (fun k w' => w = w' ∧ k ≤ 4) (fun k => 4 - k) 0 ?_ ?_ ?_
  · exact ⟨rfl, rfl, rfl, rfl, trivial⟩
  · exact ⟨rfl, by omega⟩
  · clear M
    rintro k B w1 ⟨rfl, hk⟩
    have M := Md.refl [] w
    refine c_seq ?_
    refine c_seq ?_
    refine c_region ?_
    refine st _ (r_move rfl) ?_
    refine st _ (r_ge rfl rfl) ?_
    refine st_nil ?_
    refine c_then ?_
    refine c_if rfl (fun h8 => ?_) (fun h8 => ?_)
    · skip
      first | (have h8n := of_decide_eq_true h8) | (have h8n := of_decide_eq_false (bnt h8)) | (have h8n := bnt h8) | (have h8n := h8)
      refine c_skip ?_
      refine c_then ?_
      refine c_seq ?_
      refine c_block ?_
      refine c_seq ?_
      refine c_region ?_
      refine st _ (r_move rfl) ?_
      refine st _ (r_shl rfl rfl (by omega)) ?_
      refine st _ (r_assign rfl) ?_
      refine st_nil ?_
      refine c_then ?_
      refine c_seq ?_
      refine c_region ?_
      refine st _ (r_move rfl) ?_
      refine st _ (r_move rfl) ?_
      refine st _ (r_addI rfl rfl (by omega)) ?_
      refine st _ (r_move rfl) ?_
      refine st _ (r_len rfl u25 hB.shp) ?_
      refine st _ (r_lt rfl rfl) ?_
      refine st_nil ?_
      refine c_then ?_
      refine c_if rfl (fun h18 => ?_) (fun h18 => ?_)
      · skip
        first | (have h18n := of_decide_eq_true h18) | (have h18n := of_decide_eq_false (bnt h18)) | (have h18n := bnt h18) | (have h18n := h18)
        refine c_region ?_
        refine st _ (r_move rfl) ?_
        refine st _ (r_move rfl) ?_
        refine st _ (r_move rfl) ?_
        refine st _ (r_move rfl) ?_
        refine st _ (r_addI rfl rfl (by omega)) ?_
        refine st _ (r_index rfl rfl u25 el5 hB.shp (by omega)) ?_
        refine st _ (r_loadB rfl one5 (hB.md0 M) (by omega)) ?_
        refine st _ (r_conv (by rw [u5]; rfl) u70 rfl) ?_
        refine st _ (r_or rfl rfl) ?_
        refine st _ (r_assign rfl) ?_
        refine st_nil ?_
        refine n_block ?_
        refine c_then ?_
        refine c_region ?_
        refine st _ (r_move rfl) ?_
        refine st _ (r_subI rfl rfl (by omega)) ?_
        refine st _ (r_assign rfl) ?_
        refine st_nil ?_
        refine c_then ?_
        refine next (k + 1) (by omega) ⟨rfl, rfl, fitI rfl (word_in l a k ha (by omega) (by omega)), fitI rfl (by omega), trivial⟩ ?_
        exact ⟨rfl, by omega⟩
      · skip
        first | (have h18n := of_decide_eq_false h18) | (have h18n := of_decide_eq_true (bnf h18)) | (have h18n := bnf h18) | (have h18n := h18)
        refine c_skip ?_
        refine n_block ?_
        refine c_then ?_
        refine c_region ?_
        refine st _ (r_move rfl) ?_
        refine st _ (r_subI rfl rfl (by omega)) ?_
        refine st _ (r_assign rfl) ?_
        refine st_nil ?_
        refine c_then ?_
        refine next (k + 1) (by omega) ⟨rfl, rfl, fitI rfl (word_out l a k ha (by omega) (by omega)), fitI rfl (by omega), trivial⟩ ?_
        exact ⟨rfl, by omega⟩
    · skip
      first | (have h8n := of_decide_eq_false h8) | (have h8n := of_decide_eq_true (bnf h8)) | (have h8n := bnf h8) | (have h8n := h8)
      refine c_exit ?_
      refine x_then ?_
      refine x_then ?_
      refine x_hit ?_
      refine c_then ?_
      refine c_seq ?_
      refine c_region ?_
      refine st _ (r_move rfl) ?_
      refine st _ (r_assign rfl) ?_
      refine st_nil ?_
      refine c_then ?_
      refine c_ret ?_
      exact ret1 trivial rfl rfl ⟨retI (by obtain rfl : k = 4 := (by omega); rfl), rfl⟩
theorem rlookup_any (v : Value) (l : List UInt8) (w : World) (hB : By w v l) (hl : l.length ≤ 4611686018427387000) :
    Calls Try.prog 16 #[v] w fun e w' => e = .returned (.int .u64 (lookup l)) ∧ w = w' := by
  have hlen := hB.len63
  have M := Md.refl [] w
  refine enter (n := 178) Try.func16 rfl rfl rfl ?_
  intro B
  refine c_seq ?_
  refine c_region ?_
  refine st _ (r_assign rfl) ?_
  refine st_nil ?_
  refine c_then ?_
  refine c_seq ?_
  refine c_region ?_
  refine st _ (r_move rfl) ?_
  refine st _ (r_len rfl u25 hB.shp) ?_
  refine st _ (r_conv (by rw [u3]; rfl) u70 rfl) ?_
  refine st _ (r_add rfl rfl) ?_
  refine st _ (r_assign rfl) ?_
  refine st_nil ?_
  refine c_then ?_
  refine c_seq ?_
  refine c_region ?_
  refine st _ (r_move rfl) ?_
  refine st _ (r_move rfl) ?_
  refine st _ (r_assign rfl) ?_
  refine st _ (r_assign rfl) ?_
  refine st_nil ?_
  refine c_then ?_
  refine c_seq ?_
  refine c_seq ?_
  refine c_region ?_
  refine st _ (r_move rfl) ?_
  refine st _ (r_len rfl u25 hB.shp) ?_
  refine st _ (r_eq rfl rfl) ?_
  refine st_nil ?_
  refine c_then ?_
  refine c_if rfl (fun h15 => ?_) (fun h15 => ?_)
  · skip
    first | (have h15n := of_decide_eq_true h15) | (have h15n := of_decide_eq_false (bnt h15)) | (have h15n := bnt h15) | (have h15n := h15)
    refine c_seq ?_
    refine c_region ?_
    refine st _ (r_move rfl) ?_
    refine st _ (r_conv (by rw [u70]; rfl) u27 rfl) ?_
    refine st _ (r_shl rfl rfl (by omega)) ?_
    refine st _ (r_move rfl) ?_
    refine st _ (r_conv (by rw [u70]; rfl) u27 rfl) ?_
    refine st _ (r_or rfl rfl) ?_
    refine st _ (r_assign rfl) ?_
    refine st_nil ?_
    refine c_then ?_
    refine c_ret ?_
    refine r_then ?_
    refine ret1 trivial rfl rfl ⟨retI ?_, rfl⟩
    rw [show l = [] from List.eq_nil_of_length_eq_zero (by omega)]; rfl
  · skip
    first | (have h15n := of_decide_eq_false h15) | (have h15n := of_decide_eq_true (bnf h15)) | (have h15n := bnf h15) | (have h15n := h15)
    refine c_skip ?_
    refine c_then ?_
    refine c_seq ?_
    refine c_region ?_
    refine st _ (r_assign rfl) ?_
    refine st_nil ?_
    refine c_then ?_
    refine c_seq ?_
    refine c_block ?_
    refine c_loop (X := T3 × Nat) (fun x => [(0, v), (3, .int .u32 x.1.x), (4, .int .u32 x.1.y), (5, .int .u32 x.1.z), (6, .int .i64 x.2)]) (fun x w' => w = w' ∧ x.2 < l.length ∧ lk x.1 (l.drop x.2) = lookup l) (fun x => l.length - x.2) (lkInit l, 0) ?_ ?_ ?_
    · exact ⟨rfl, rfl, rfl, rfl, rfl, trivial⟩
    · exact ⟨rfl, by omega, rfl⟩
    · clear M
      rintro x B w1 ⟨rfl, hk, hlk⟩
      have M := Md.refl [] w
      refine c_seq ?_
      refine c_seq ?_
      refine c_region ?_
      refine st _ (r_move rfl) ?_
      refine st _ (r_len rfl u25 hB.shp) ?_
      refine st _ (r_move rfl) ?_
      refine st _ (r_subI rfl rfl (by omega)) ?_
      refine st _ (r_gt rfl rfl) ?_
      refine st_nil ?_
      refine c_then ?_
      refine c_if rfl (fun h26 => ?_) (fun h26 => ?_)
      · skip
        first | (have h26n := of_decide_eq_true h26) | (have h26n := of_decide_eq_false (bnt h26)) | (have h26n := bnt h26) | (have h26n := h26)
        refine c_skip ?_
        refine c_then ?_
        refine c_block ?_
        refine c_seq ?_
        refine c_region ?_
        refine st _ (r_move rfl) ?_
        refine st _ (r_move rfl) ?_
        refine st _ (r_move rfl) ?_
        refine st_call fn52 rfl (word_any _ _ _ _ (hB.md0 M) (by omega) (by omega)) ?_
        rintro e _ ⟨rfl, rfl⟩; refine ⟨_, rfl, ?_⟩
        refine st _ (r_add rfl rfl) ?_
        refine st _ (r_move rfl) ?_
        refine st _ (r_move rfl) ?_
        refine st _ (r_move rfl) ?_
        refine st _ (r_addI rfl rfl (by omega)) ?_
        refine st_call fn52 rfl (word_any _ _ _ _ (hB.md0 M) (by omega) (by omega)) ?_
        rintro e _ ⟨rfl, rfl⟩; refine ⟨_, rfl, ?_⟩
        refine st _ (r_add rfl rfl) ?_
        refine st _ (r_move rfl) ?_
        refine st _ (r_move rfl) ?_
        refine st _ (r_move rfl) ?_
        refine st _ (r_addI rfl rfl (by omega)) ?_
        refine st_call fn52 rfl (word_any _ _ _ _ (hB.md0 M) (by omega) (by omega)) ?_
        rintro e _ ⟨rfl, rfl⟩; refine ⟨_, rfl, ?_⟩
        refine st _ (r_add rfl rfl) ?_
        refine st _ (r_assign rfl) ?_
        refine st _ (r_assign rfl) ?_
        refine st _ (r_assign rfl) ?_
        refine st_nil ?_
        refine c_then ?_
        refine c_seq ?_
        refine c_region ?_
        refine st _ (r_move rfl) ?_
        refine st _ (r_move rfl) ?_
        refine st _ (r_sub rfl rfl) ?_
        refine st _ (r_assign rfl) ?_
        refine st_nil ?_
        refine c_then ?_
        refine c_seq ?_
        refine c_region ?_
        refine st _ (r_move rfl) ?_
        refine st _ (r_move rfl) ?_
        refine st_call fn53 rfl (turn_any _ _ _ (by decide) (by decide)) ?_
        rintro e _ ⟨rfl, rfl⟩; refine ⟨_, rfl, ?_⟩
        refine st _ (r_xor rfl rfl) ?_
        refine st _ (r_assign rfl) ?_
        refine st_nil ?_
        refine c_then ?_
        refine c_seq ?_
        refine c_region ?_
        refine st _ (r_move rfl) ?_
        refine st _ (r_move rfl) ?_
        refine st _ (r_add rfl rfl) ?_
        refine st _ (r_assign rfl) ?_
        refine st_nil ?_
        refine c_then ?_
        refine c_seq ?_
        refine c_region ?_
        refine st _ (r_move rfl) ?_
        refine st _ (r_move rfl) ?_
        refine st _ (r_sub rfl rfl) ?_
        refine st _ (r_assign rfl) ?_
        refine st_nil ?_
        refine c_then ?_
        refine c_seq ?_
        refine c_region ?_
        refine st _ (r_move rfl) ?_
        refine st _ (r_move rfl) ?_
        refine st_call fn53 rfl (turn_any _ _ _ (by decide) (by decide)) ?_
        rintro e _ ⟨rfl, rfl⟩; refine ⟨_, rfl, ?_⟩
        refine st _ (r_xor rfl rfl) ?_
        refine st _ (r_assign rfl) ?_
        refine st_nil ?_
        refine c_then ?_
        refine c_seq ?_
        refine c_region ?_
        refine st _ (r_move rfl) ?_
        refine st _ (r_move rfl) ?_
        refine st _ (r_add rfl rfl) ?_
        refine st _ (r_assign rfl) ?_
        refine st_nil ?_
        refine c_then ?_
        refine c_seq ?_
        refine c_region ?_
        refine st _ (r_move rfl) ?_
        refine st _ (r_move rfl) ?_
        refine st _ (r_sub rfl rfl) ?_
        refine st _ (r_assign rfl) ?_
        refine st_nil ?_
        refine c_then ?_
        refine c_seq ?_
        refine c_region ?_
        refine st _ (r_move rfl) ?_
        refine st _ (r_move rfl) ?_
        refine st_call fn53 rfl (turn_any _ _ _ (by decide) (by decide)) ?_
        rintro e _ ⟨rfl, rfl⟩; refine ⟨_, rfl, ?_⟩
        refine st _ (r_xor rfl rfl) ?_
        refine st _ (r_assign rfl) ?_
        refine st_nil ?_
        refine c_then ?_
        refine c_seq ?_
        refine c_region ?_
        refine st _ (r_move rfl) ?_
        refine st _ (r_move rfl) ?_
        refine st _ (r_add rfl rfl) ?_
        refine st _ (r_assign rfl) ?_
        refine st_nil ?_
        refine c_then ?_
        refine c_seq ?_
        refine c_region ?_
        refine st _ (r_move rfl) ?_
        refine st _ (r_move rfl) ?_
        refine st _ (r_sub rfl rfl) ?_
        refine st _ (r_assign rfl) ?_
        refine st_nil ?_
        refine c_then ?_
        refine c_seq ?_
        refine c_region ?_
        refine st _ (r_move rfl) ?_
        refine st _ (r_move rfl) ?_
        refine st_call fn53 rfl (turn_any _ _ _ (by decide) (by decide)) ?_
        rintro e _ ⟨rfl, rfl⟩; refine ⟨_, rfl, ?_⟩
        refine st _ (r_xor rfl rfl) ?_
        refine st _ (r_assign rfl) ?_
        refine st_nil ?_
        refine c_then ?_
        refine c_seq ?_
        refine c_region ?_
        refine st _ (r_move rfl) ?_
        refine st _ (r_move rfl) ?_
        refine st _ (r_add rfl rfl) ?_
        refine st _ (r_assign rfl) ?_
        refine st_nil ?_
        refine c_then ?_
        refine c_seq ?_
        refine c_region ?_
        refine st _ (r_move rfl) ?_
        refine st _ (r_move rfl) ?_
        refine st _ (r_sub rfl rfl) ?_
        refine st _ (r_assign rfl) ?_
        refine st_nil ?_
        refine c_then ?_
        refine c_seq ?_
        refine c_region ?_
        refine st _ (r_move rfl) ?_
        refine st _ (r_move rfl) ?_
        refine st_call fn53 rfl (turn_any _ _ _ (by decide) (by decide)) ?_
        rintro e _ ⟨rfl, rfl⟩; refine ⟨_, rfl, ?_⟩
        refine st _ (r_xor rfl rfl) ?_
        refine st _ (r_assign rfl) ?_
        refine st_nil ?_
        refine c_then ?_
        refine c_seq ?_
        refine c_region ?_
        refine st _ (r_move rfl) ?_
        refine st _ (r_move rfl) ?_
        refine st _ (r_add rfl rfl) ?_
        refine st _ (r_assign rfl) ?_
        refine st_nil ?_
        refine c_then ?_
        refine c_seq ?_
        refine c_region ?_
        refine st _ (r_move rfl) ?_
        refine st _ (r_move rfl) ?_
        refine st _ (r_sub rfl rfl) ?_
        refine st _ (r_assign rfl) ?_
        refine st_nil ?_
        refine c_then ?_
        refine c_seq ?_
        refine c_region ?_
        refine st _ (r_move rfl) ?_
        refine st _ (r_move rfl) ?_
        refine st_call fn53 rfl (turn_any _ _ _ (by decide) (by decide)) ?_
        rintro e _ ⟨rfl, rfl⟩; refine ⟨_, rfl, ?_⟩
        refine st _ (r_xor rfl rfl) ?_
        refine st _ (r_assign rfl) ?_
        refine st_nil ?_
        refine c_then ?_
        refine c_seq ?_
        refine c_region ?_
        refine st _ (r_move rfl) ?_
        refine st _ (r_move rfl) ?_
        refine st _ (r_add rfl rfl) ?_
        refine st _ (r_assign rfl) ?_
        refine st_nil ?_
        refine c_then ?_
        refine c_region ?_
        refine st _ (r_move rfl) ?_
        refine st _ (r_addI rfl rfl (by omega)) ?_
        refine st _ (r_assign rfl) ?_
        refine st_nil ?_
        refine n_block ?_
        refine c_then ?_
        refine next ((mix ⟨w32 (x.1.x + le4 l (x.2 : Int).toNat), w32 (x.1.y + le4 l (x.2 + 4 : Int).toNat), w32 (x.1.z + le4 l (x.2 + 8 : Int).toNat)⟩, x.2 + 12)) (by simp; omega) ⟨rfl, rfl, rfl, rfl, fitI rfl (by simp), trivial⟩ ?_
        refine ⟨rfl, by simp; omega, ?_⟩
        rw [← hlk, lk_step _ (l.drop x.2) (by simp; omega), ref_add12, List.drop_drop]
      · skip
        first | (have h26n := of_decide_eq_false h26) | (have h26n := of_decide_eq_true (bnf h26)) | (have h26n := bnf h26) | (have h26n := h26)
        refine c_exit ?_
        refine x_then ?_
        refine x_then ?_
        refine x_hit ?_
        refine c_then ?_
        refine c_seq ?_
        refine c_region ?_
        refine st _ (r_move rfl) ?_
        refine st _ (r_move rfl) ?_
        refine st _ (r_move rfl) ?_
        refine st_call fn52 rfl (word_any _ _ _ _ (hB.md0 M) (by omega) (by omega)) ?_
        rintro e _ ⟨rfl, rfl⟩; refine ⟨_, rfl, ?_⟩
        refine st _ (r_add rfl rfl) ?_
        refine st _ (r_move rfl) ?_
        refine st _ (r_move rfl) ?_
        refine st _ (r_move rfl) ?_
        refine st _ (r_addI rfl rfl (by omega)) ?_
        refine st_call fn52 rfl (word_any _ _ _ _ (hB.md0 M) (by omega) (by omega)) ?_
        rintro e _ ⟨rfl, rfl⟩; refine ⟨_, rfl, ?_⟩
        refine st _ (r_add rfl rfl) ?_
        refine st _ (r_move rfl) ?_
        refine st _ (r_move rfl) ?_
        refine st _ (r_move rfl) ?_
        refine st _ (r_addI rfl rfl (by omega)) ?_
        refine st_call fn52 rfl (word_any _ _ _ _ (hB.md0 M) (by omega) (by omega)) ?_
        rintro e _ ⟨rfl, rfl⟩; refine ⟨_, rfl, ?_⟩
        refine st _ (r_add rfl rfl) ?_
        refine st _ (r_assign rfl) ?_
        refine st _ (r_assign rfl) ?_
        refine st _ (r_assign rfl) ?_
        refine st_nil ?_
        refine c_then ?_
        refine c_seq ?_
        refine c_region ?_
        refine st _ (r_move rfl) ?_
        refine st _ (r_move rfl) ?_
        refine st _ (r_xor rfl rfl) ?_
        refine st _ (r_assign rfl) ?_
        refine st_nil ?_
        refine c_then ?_
        refine c_seq ?_
        refine c_region ?_
        refine st _ (r_move rfl) ?_
        refine st _ (r_move rfl) ?_
        refine st_call fn53 rfl (turn_any _ _ _ (by decide) (by decide)) ?_
        rintro e _ ⟨rfl, rfl⟩; refine ⟨_, rfl, ?_⟩
        refine st _ (r_sub rfl rfl) ?_
        refine st _ (r_assign rfl) ?_
        refine st_nil ?_
        refine c_then ?_
        refine c_seq ?_
        refine c_region ?_
        refine st _ (r_move rfl) ?_
        refine st _ (r_move rfl) ?_
        refine st _ (r_xor rfl rfl) ?_
        refine st _ (r_assign rfl) ?_
        refine st_nil ?_
        refine c_then ?_
        refine c_seq ?_
        refine c_region ?_
        refine st _ (r_move rfl) ?_
        refine st _ (r_move rfl) ?_
        refine st_call fn53 rfl (turn_any _ _ _ (by decide) (by decide)) ?_
        rintro e _ ⟨rfl, rfl⟩; refine ⟨_, rfl, ?_⟩
        refine st _ (r_sub rfl rfl) ?_
        refine st _ (r_assign rfl) ?_
        refine st_nil ?_
        refine c_then ?_
        refine c_seq ?_
        refine c_region ?_
        refine st _ (r_move rfl) ?_
        refine st _ (r_move rfl) ?_
        refine st _ (r_xor rfl rfl) ?_
        refine st _ (r_assign rfl) ?_
        refine st_nil ?_
        refine c_then ?_
        refine c_seq ?_
        refine c_region ?_
        refine st _ (r_move rfl) ?_
        refine st _ (r_move rfl) ?_
        refine st_call fn53 rfl (turn_any _ _ _ (by decide) (by decide)) ?_
        rintro e _ ⟨rfl, rfl⟩; refine ⟨_, rfl, ?_⟩
        refine st _ (r_sub rfl rfl) ?_
        refine st _ (r_assign rfl) ?_
        refine st_nil ?_
        refine c_then ?_
        refine c_seq ?_
        refine c_region ?_
        refine st _ (r_move rfl) ?_
        refine st _ (r_move rfl) ?_
        refine st _ (r_xor rfl rfl) ?_
        refine st _ (r_assign rfl) ?_
        refine st_nil ?_
        refine c_then ?_
        refine c_seq ?_
        refine c_region ?_
        refine st _ (r_move rfl) ?_
        refine st _ (r_move rfl) ?_
        refine st_call fn53 rfl (turn_any _ _ _ (by decide) (by decide)) ?_
        rintro e _ ⟨rfl, rfl⟩; refine ⟨_, rfl, ?_⟩
        refine st _ (r_sub rfl rfl) ?_
        refine st _ (r_assign rfl) ?_
        refine st_nil ?_
        refine c_then ?_
        refine c_seq ?_
        refine c_region ?_
        refine st _ (r_move rfl) ?_
        refine st _ (r_move rfl) ?_
        refine st _ (r_xor rfl rfl) ?_
        refine st _ (r_assign rfl) ?_
        refine st_nil ?_
        refine c_then ?_
        refine c_seq ?_
        refine c_region ?_
        refine st _ (r_move rfl) ?_
        refine st _ (r_move rfl) ?_
        refine st_call fn53 rfl (turn_any _ _ _ (by decide) (by decide)) ?_
        rintro e _ ⟨rfl, rfl⟩; refine ⟨_, rfl, ?_⟩
        refine st _ (r_sub rfl rfl) ?_
        refine st _ (r_assign rfl) ?_
        refine st_nil ?_
        refine c_then ?_
        refine c_seq ?_
        refine c_region ?_
        refine st _ (r_move rfl) ?_
        refine st _ (r_move rfl) ?_
        refine st _ (r_xor rfl rfl) ?_
        refine st _ (r_assign rfl) ?_
        refine st_nil ?_
        refine c_then ?_
        refine c_seq ?_
        refine c_region ?_
        refine st _ (r_move rfl) ?_
        refine st _ (r_move rfl) ?_
        refine st_call fn53 rfl (turn_any _ _ _ (by decide) (by decide)) ?_
        rintro e _ ⟨rfl, rfl⟩; refine ⟨_, rfl, ?_⟩
        refine st _ (r_sub rfl rfl) ?_
        refine st _ (r_assign rfl) ?_
        refine st_nil ?_
        refine c_then ?_
        refine c_seq ?_
        refine c_region ?_
        refine st _ (r_move rfl) ?_
        refine st _ (r_move rfl) ?_
        refine st _ (r_xor rfl rfl) ?_
        refine st _ (r_assign rfl) ?_
        refine st_nil ?_
        refine c_then ?_
        refine c_seq ?_
        refine c_region ?_
        refine st _ (r_move rfl) ?_
        refine st _ (r_move rfl) ?_
        refine st_call fn53 rfl (turn_any _ _ _ (by decide) (by decide)) ?_
        rintro e _ ⟨rfl, rfl⟩; refine ⟨_, rfl, ?_⟩
        refine st _ (r_sub rfl rfl) ?_
        refine st _ (r_assign rfl) ?_
        refine st_nil ?_
        refine c_then ?_
        refine c_seq ?_
        refine c_region ?_
        refine st _ (r_move rfl) ?_
        refine st _ (r_conv (by rw [u70]; rfl) u27 rfl) ?_
        refine st _ (r_shl rfl rfl (by omega)) ?_
        refine st _ (r_move rfl) ?_
        refine st _ (r_conv (by rw [u70]; rfl) u27 rfl) ?_
        refine st _ (r_or rfl rfl) ?_
        refine st _ (r_assign rfl) ?_
        refine st_nil ?_
        refine c_then ?_
        refine c_ret ?_
        refine ret1 trivial rfl rfl ⟨retI ?_, rfl⟩
        rw [← hlk, lk_last _ _ (by intro h; have := congrArg List.length h; simp at this; omega) (by simp; omega), ← ref_add12]; rfl
theorem round_any (b : Nat) (v : S4) (n t : Int) (rest : Value) (w : World) (hT : Blk w b (v.cells n rest) 83) (ht : 0 ≤ t) (ht2 : t ≤ 100) :
    Calls Try.prog 58 #[.pointer (some ⟨b, 0, none⟩), .int .i64 t] w fun e w' => e = .returned (.tuple #[]) ∧ Md [b] w w' ∧ Blk w' b ((sipRounds t.toNat v).cells n rest) 83 := by
  have M := Md.refl [b] w
  refine enter (n := 76) Try.func58 rfl rfl rfl ?_
  intro B
  refine c_seq ?_
  refine c_quiet (fun w' => Md [] w w') mixed (by kernel_rfl) (Md.drew w) ?_
  refine q _ (fun w' m => r_move rfl) ?_
  refine q _ (fun w' m => r_nil rfl) ?_
  refine q _ (fun w' m => r_field rfl off83_0) ?_
  refine q _ (fun w' m => r_loadBlk rfl one27 (hT.md0 m) rfl) ?_
  refine q _ (fun w' m => r_move rfl) ?_
  refine q _ (fun w' m => r_nil rfl) ?_
  refine q _ (fun w' m => r_field rfl off83_1) ?_
  refine q _ (fun w' m => r_loadBlk rfl one27 (hT.md0 m) rfl) ?_
  refine q _ (fun w' m => r_move rfl) ?_
  refine q _ (fun w' m => r_nil rfl) ?_
  refine q _ (fun w' m => r_field rfl off83_2) ?_
  refine q _ (fun w' m => r_loadBlk rfl one27 (hT.md0 m) rfl) ?_
  refine q _ (fun w' m => r_move rfl) ?_
  refine q _ (fun w' m => r_nil rfl) ?_
  refine q _ (fun w' m => r_field rfl off83_3) ?_
  refine q _ (fun w' m => r_loadBlk rfl one27 (hT.md0 m) rfl) ?_
  refine q _ (fun w' m => r_assign rfl) ?_
  refine q _ (fun w' m => r_assign rfl) ?_
  refine q _ (fun w' m => r_assign rfl) ?_
  refine q _ (fun w' m => r_assign rfl) ?_
  refine q_nil ?_
  intro w1 hm
  replace hT := hT.md0 hm
  replace M := M.step0 hm
  refine c_then ?_
  refine c_seq ?_
  refine c_seq ?_
  refine c_region ?_
  refine st _ (r_move rfl) ?_
  refine st _ (r_move rfl) ?_
  refine st_nil ?_
  refine c_then ?_
  refine c_block ?_
  refine c_loop (X := Nat) (fun k => [(0, .pointer (some ⟨b, 0, none⟩)), (4, .int .u64 (sipRounds k v).p), (5, .int .u64 (sipRounds k v).q), (6, .int .u64 (sipRounds k v).r), (7, .int .u64 (sipRounds k v).s), (24, .int .i64 t), (25, .int .i64 k)]) (fun k w' => Md [b] w w' ∧ Blk w' b (v.cells n rest) 83 ∧ (k : Int) ≤ t) (fun k => (t - k).toNat) 0 ?_ ?_ ?_
  · exact ⟨rfl, rfl, rfl, rfl, rfl, rfl, rfl, trivial⟩
  · exact ⟨M, hT, ht⟩
  · clear M
    clear hT
    rintro k B w2 ⟨M, hT, hk⟩
    refine c_seq ?_
    refine c_region ?_
    refine st _ (r_lt rfl rfl) ?_
    refine st_nil ?_
    refine c_then ?_
    refine c_seq ?_
    refine c_if rfl (fun h26 => ?_) (fun h26 => ?_)
    · skip
      first | (have h26n := of_decide_eq_true h26) | (have h26n := of_decide_eq_false (bnt h26)) | (have h26n := bnt h26) | (have h26n := h26)
      refine c_skip ?_
      refine c_then ?_
      refine c_seq ?_
      refine c_block ?_
      refine c_seq ?_
      refine c_region ?_
      refine st _ (r_move rfl) ?_
      refine st _ (r_move rfl) ?_
      refine st _ (r_add rfl rfl) ?_
      refine st _ (r_assign rfl) ?_
      refine st_nil ?_
      refine c_then ?_
      refine c_seq ?_
      refine c_region ?_
      refine st _ (r_move rfl) ?_
      refine st_call fn75 rfl (rot64_any _ _ _ (by decide) (by decide)) ?_
      rintro e _ ⟨rfl, rfl⟩; refine ⟨_, rfl, ?_⟩
      refine st _ (r_move rfl) ?_
      refine st _ (r_xor rfl rfl) ?_
      refine st _ (r_assign rfl) ?_
      refine st_nil ?_
      refine c_then ?_
      refine c_seq ?_
      refine c_region ?_
      refine st _ (r_move rfl) ?_
      refine st_call fn75 rfl (rot64_any _ _ _ (by decide) (by decide)) ?_
      rintro e _ ⟨rfl, rfl⟩; refine ⟨_, rfl, ?_⟩
      refine st _ (r_assign rfl) ?_
      refine st_nil ?_
      refine c_then ?_
      refine c_seq ?_
      refine c_region ?_
      refine st _ (r_move rfl) ?_
      refine st _ (r_move rfl) ?_
      refine st _ (r_add rfl rfl) ?_
      refine st _ (r_assign rfl) ?_
      refine st_nil ?_
      refine c_then ?_
      refine c_seq ?_
      refine c_region ?_
      refine st _ (r_move rfl) ?_
      refine st_call fn75 rfl (rot64_any _ _ _ (by decide) (by decide)) ?_
      rintro e _ ⟨rfl, rfl⟩; refine ⟨_, rfl, ?_⟩
      refine st _ (r_move rfl) ?_
      refine st _ (r_xor rfl rfl) ?_
      refine st _ (r_assign rfl) ?_
      refine st_nil ?_
      refine c_then ?_
      refine c_seq ?_
      refine c_region ?_
      refine st _ (r_move rfl) ?_
      refine st _ (r_move rfl) ?_
      refine st _ (r_add rfl rfl) ?_
      refine st _ (r_assign rfl) ?_
      refine st_nil ?_
      refine c_then ?_
      refine c_seq ?_
      refine c_region ?_
      refine st _ (r_move rfl) ?_
      refine st_call fn75 rfl (rot64_any _ _ _ (by decide) (by decide)) ?_
      rintro e _ ⟨rfl, rfl⟩; refine ⟨_, rfl, ?_⟩
      refine st _ (r_move rfl) ?_
      refine st _ (r_xor rfl rfl) ?_
      refine st _ (r_assign rfl) ?_
      refine st_nil ?_
      refine c_then ?_
      refine c_seq ?_
      refine c_region ?_
      refine st _ (r_move rfl) ?_
      refine st _ (r_move rfl) ?_
      refine st _ (r_add rfl rfl) ?_
      refine st _ (r_assign rfl) ?_
      refine st_nil ?_
      refine c_then ?_
      refine c_seq ?_
      refine c_region ?_
      refine st _ (r_move rfl) ?_
      refine st_call fn75 rfl (rot64_any _ _ _ (by decide) (by decide)) ?_
      rintro e _ ⟨rfl, rfl⟩; refine ⟨_, rfl, ?_⟩
      refine st _ (r_move rfl) ?_
      refine st _ (r_xor rfl rfl) ?_
      refine st _ (r_assign rfl) ?_
      refine st_nil ?_
      refine c_then ?_
      refine c_region ?_
      refine st _ (r_move rfl) ?_
      refine st_call fn75 rfl (rot64_any _ _ _ (by decide) (by decide)) ?_
      rintro e _ ⟨rfl, rfl⟩; refine ⟨_, rfl, ?_⟩
      refine st _ (r_assign rfl) ?_
      refine st_nil ?_
      refine n_block ?_
      refine c_then ?_
      refine c_region ?_
      refine st _ (r_addI rfl rfl (by omega)) ?_
      refine st _ (r_move rfl) ?_
      refine st_nil ?_
      refine c_then ?_
      refine next (k + 1) (by omega) ⟨rfl, rfl, rfl, rfl, rfl, rfl, rfl, trivial⟩ ?_
      exact ⟨M, hT, by omega⟩
    · skip
      first | (have h26n := of_decide_eq_false h26) | (have h26n := of_decide_eq_true (bnf h26)) | (have h26n := bnf h26) | (have h26n := h26)
      refine c_exit ?_
      refine x_then ?_
      refine x_then ?_
      refine x_hit ?_
      refine c_then ?_
      refine c_region ?_
      refine st _ (r_move rfl) ?_
      refine st _ (r_move rfl) ?_
      refine st _ (r_move rfl) ?_
      refine st _ (r_move rfl) ?_
      refine st _ (r_move rfl) ?_
      refine st _ (r_move rfl) ?_
      refine st _ (r_move rfl) ?_
      refine st _ (r_move rfl) ?_
      refine st _ (r_nil rfl) ?_
      refine st _ (r_field rfl off83_0) ?_
      refine st_store rfl rfl one27 rfl hT (Nat.le_of_ble_eq_true rfl) ?_
      have hT0 := hT
      clear hT
      intro w3 hm hT
      replace M := M.step1' hm (by simp)
      refine st _ (r_nil rfl) ?_
      refine st _ (r_field rfl off83_1) ?_
      refine st_store rfl rfl one27 rfl hT (Nat.le_of_ble_eq_true rfl) ?_
      have hT0 := hT
      clear hT
      intro w4 hm hT
      replace M := M.step1' hm (by simp)
      refine st _ (r_nil rfl) ?_
      refine st _ (r_field rfl off83_2) ?_
      refine st_store rfl rfl one27 rfl hT (Nat.le_of_ble_eq_true rfl) ?_
      have hT0 := hT
      clear hT
      intro w5 hm hT
      replace M := M.step1' hm (by simp)
      refine st _ (r_nil rfl) ?_
      refine st _ (r_field rfl off83_3) ?_
      refine st_store rfl rfl one27 rfl hT (Nat.le_of_ble_eq_true rfl) ?_
      have hT0 := hT
      clear hT
      intro w6 hm hT
      replace M := M.step1' hm (by simp)
      refine st_nil ?_
      obtain rfl : (k : Int) = t := (by omega)
      exact ret0 trivial rfl ⟨rfl, M, hT⟩
theorem round2_any (b : Nat) (v : S4) (n : Int) (rest : Value) (w : World) (hT : Blk w b (v.cells n rest) 83) :
    Calls Try.prog 58 #[.pointer (some ⟨b, 0, none⟩), .int .i64 2] w fun e w' => e = .returned (.tuple #[]) ∧ Md [b] w w' ∧ Blk w' b ((sipRounds 2 v).cells n rest) 83 :=
  round_any b v n 2 rest w hT (by decide) (by decide)
theorem round4_any (b : Nat) (v : S4) (n : Int) (rest : Value) (w : World) (hT : Blk w b (v.cells n rest) 83) :
    Calls Try.prog 58 #[.pointer (some ⟨b, 0, none⟩), .int .i64 4] w fun e w' => e = .returned (.tuple #[]) ∧ Md [b] w w' ∧ Blk w' b ((sipRounds 4 v).cells n rest) 83 :=
  round_any b v n 4 rest w hT (by decide) (by decide)
theorem sword_any (b : Nat) (v : S4) (n m : Int) (rest : Value) (w : World) (hT : Blk w b (v.cells n rest) 83) :
    Calls Try.prog 57 #[.pointer (some ⟨b, 0, none⟩), .int .u64 m] w fun e w' => e = .returned (.tuple #[]) ∧ Md [b] w w' ∧ Blk w' b ((sipWord v m).cells n rest) 83 := by
  have M := Md.refl [b] w
  refine enter (n := 22) Try.func57 rfl rfl rfl ?_
  intro B
  refine c_seq ?_
  refine c_region ?_
  refine st _ (r_move rfl) ?_
  refine st _ (r_nil rfl) ?_
  refine st _ (r_field rfl off83_3) ?_
  refine st _ (r_loadBlk rfl one27 hT rfl) ?_
  refine st _ (r_move rfl) ?_
  refine st _ (r_xor rfl rfl) ?_
  refine st _ (r_nil rfl) ?_
  refine st _ (r_field rfl off83_3) ?_
  refine st_store rfl rfl one27 rfl hT (Nat.le_of_ble_eq_true rfl) ?_
  have hT0 := hT
  clear hT
  intro w1 hm hT
  replace M := M.step1' hm (by simp)
  refine st_nil ?_
  replace hT := (set_xs v m n rest) ▸ hT
  refine c_then ?_
  refine c_seq ?_
  refine c_region ?_
  refine st _ (r_move rfl) ?_
  refine st_call fn58 rfl (round2_any b _ _ _ _ hT) ?_
  have hT0 := hT; clear hT
  rintro e w2 ⟨rfl, hm, hT⟩; refine ⟨_, rfl, ?_⟩
  replace M := M.step1' hm (by simp)
  refine st_nil ?_
  refine c_then ?_
  refine c_region ?_
  refine st _ (r_move rfl) ?_
  refine st _ (r_nil rfl) ?_
  refine st _ (r_field rfl off83_0) ?_
  refine st _ (r_loadBlk rfl one27 hT rfl) ?_
  refine st _ (r_move rfl) ?_
  refine st _ (r_xor rfl rfl) ?_
  refine st _ (r_nil rfl) ?_
  refine st _ (r_field rfl off83_0) ?_
  refine st_store rfl rfl one27 rfl hT (Nat.le_of_ble_eq_true rfl) ?_
  have hT0 := hT
  clear hT
  intro w3 hm hT
  replace M := M.step1' hm (by simp)
  refine st_nil ?_
  replace hT := (set_xp _ m n rest) ▸ hT
  exact ret0 trivial rfl ⟨rfl, M, hT⟩
theorem new_any (key : List UInt8) (w : World) (hk : key.length = 16) :
    Calls Try.prog 21 #[.agg (key.map b8).toArray] w fun e w' => ∃ b, e = .returned (.pointer (some ⟨b, 0, none⟩)) ∧ w.heap.size ≤ b ∧ b < w'.heap.size ∧ Md [] w w' ∧ Blk w' b ((sipInit key).cells 0 (.slice none 0 0)) 83 := by
  have M := Md.refl [] w
  refine enter (n := 27) Try.func21 rfl rfl rfl ?_
  intro B
  refine c_seq ?_
  refine c_region ?_
  refine st_box rfl rfl ?_
  intro bK w1 gK lK hm hK
  replace gK := Nat.le_trans M.size gK
  replace M := M.step0 hm
  refine st _ (r_assign rfl) ?_
  refine st_nil ?_
  refine c_then ?_
  refine c_seq ?_
  refine c_region ?_
  refine st _ (r_sliceArr u23 el5 rfl (by decide)) ?_
  refine st_call fn56 rfl (get_ok _ key 0 8 _ (By.of_blk hK hk (by decide)) (by decide) (by decide) (by rw [hk]; decide)) ?_
  rintro e _ ⟨rfl, rfl⟩; refine ⟨_, rfl, ?_⟩
  refine st _ (r_move rfl) ?_
  refine st _ (r_extract rfl rfl) ?_
  refine st _ (r_extract rfl rfl) ?_
  refine st _ (r_assign rfl) ?_
  refine st _ (r_assign rfl) ?_
  refine st_nil ?_
  refine c_then ?_
  refine c_seq ?_
  refine c_region ?_
  refine st _ (r_sliceArr u23 el5 rfl (by decide)) ?_
  refine st_call fn56 rfl (get_ok _ key 8 8 _ (By.of_blk hK hk (by decide)) (by decide) (by decide) (by rw [hk]; decide)) ?_
  rintro e _ ⟨rfl, rfl⟩; refine ⟨_, rfl, ?_⟩
  refine st _ (r_move rfl) ?_
  refine st _ (r_extract rfl rfl) ?_
  refine st _ (r_extract rfl rfl) ?_
  refine st _ (r_assign rfl) ?_
  refine st _ (r_assign rfl) ?_
  refine st_nil ?_
  refine c_then ?_
  refine c_seq ?_
  refine c_region ?_
  refine st _ (r_move rfl) ?_
  refine st _ (r_xor rfl rfl) ?_
  refine st _ (r_move rfl) ?_
  refine st _ (r_xor rfl rfl) ?_
  refine st _ (r_move rfl) ?_
  refine st _ (r_xor rfl rfl) ?_
  refine st _ (r_move rfl) ?_
  refine st _ (r_xor rfl rfl) ?_
  refine st (.agg [_, _, _, _, _, _].toArray) (r_build (ps := [(0, 0), (1, 1), (2, 2), (3, 3)]) z83 pl83 rfl rfl ⟨rfl, rfl, rfl, rfl, trivial⟩ rfl rfl rfl) ?_
  refine st_box rfl rfl ?_
  intro bS w2 gS lS hm hS
  have nhKS : bK ≠ bS := by have := hK.lt; omega
  replace gS := Nat.le_trans M.size gS
  replace hK := hK.md0 hm
  replace M := M.step0 hm
  refine st _ (r_assign rfl) ?_
  refine st_nil ?_
  refine c_then ?_
  refine c_ret ?_
  refine ret1 trivial rfl rfl ⟨bS, rfl, gS, ?_, M, hS⟩
  exact hS.lt
theorem add_any (b : Nat) (v : S4) (n : Int) (rest : Value) (rl : List UInt8) (s : Value) (l : List UInt8) (w : World) (hT : Blk w b (v.cells n rest) 83) (hO : Own w 5 1 rest rl.length (rl.map b8)) (hr : rl.length < 8) (hB : By w s l) (hA : Apart s l (b :: (vblock rest).toList)) (hn : 0 ≤ n) (hn2 : n + l.length ≤ 4611686018427387904) :
    Calls Try.prog 22 #[.pointer (some ⟨b, 0, none⟩), s] w fun e w' => e = .returned (.tuple #[]) ∧ ∃ rest', Md (b :: (vblock rest).toList) w w' ∧ Blk w' b ((sipAbs v (rl ++ l)).1.cells (n + l.length) rest') 83 ∧ Own w' 5 1 rest' (sipAbs v (rl ++ l)).2.length ((sipAbs v (rl ++ l)).2.map b8) ∧ (∀ g, vblock rest' = some g → vblock rest = some g ∨ w.heap.size ≤ g) := by
  have M := Md.refl (b :: (vblock rest).toList) w
  refine enter (n := 67) Try.func22 rfl rfl rfl ?_
  intro B
  refine c_seq ?_
  refine c_region ?_
  refine st _ (r_move rfl) ?_
  refine st _ (r_nil rfl) ?_
  refine st _ (r_field rfl off83_4) ?_
  refine st _ (r_loadBlk rfl one3 hT rfl) ?_
  refine st _ (r_move rfl) ?_
  refine st _ (r_len rfl u25 hB.shp) ?_
  refine st _ (r_addI rfl rfl (by omega)) ?_
  refine st _ (r_nil rfl) ?_
  refine st _ (r_field rfl off83_4) ?_
  refine st_store rfl rfl one3 rfl hT (Nat.le_of_ble_eq_true rfl) ?_
  have hT0 := hT
  clear hT
  intro w1 hm hT
  replace hO := hO.md1 hT0 rfl hm
  replace M := M.step1' hm (by simp)
  refine st_nil ?_
  refine c_then ?_
  refine c_block ?_
  refine c_loop (X := S4 × Value × List UInt8 × Value × List UInt8) (fun x => [(0, .pointer (some ⟨b, 0, none⟩)), (1, x.2.2.2.1)]) (fun x w' => Md (b :: (vblock rest).toList) w w' ∧ Blk w' b (x.1.cells (n + l.length) x.2.1) 83 ∧ Own w' 5 1 x.2.1 x.2.2.1.length (x.2.2.1.map b8) ∧ By w x.2.2.2.1 x.2.2.2.2 ∧ Apart x.2.2.2.1 x.2.2.2.2 (b :: (vblock rest).toList) ∧ x.2.2.1.length < 8 ∧ sipAbs x.1 (x.2.2.1 ++ x.2.2.2.2) = sipAbs v (rl ++ l) ∧ (∀ g, vblock x.2.1 = some g → vblock rest = some g ∨ w.heap.size ≤ g) ∧ x.2.2.2.2.length ≤ l.length) (fun x => x.2.2.2.2.length) (v, rest, rl, s, l) ?_ ?_ ?_
  · exact ⟨rfl, rfl, trivial⟩
  · exact ⟨M, hT, hO, hB, hA, hr, rfl, fun _ h => .inl h, Nat.le_refl _⟩
  · clear M
    clear hT hO hB hA hr
    rintro x B w2 ⟨M, hT, hO, hB, hA, hr, habs, hvb, hle⟩
    refine c_seq ?_
    refine c_seq ?_
    refine c_region ?_
    refine st _ (r_move rfl) ?_
    refine st _ (r_len rfl u25 hB.shp) ?_
    refine st _ (r_gt rfl rfl) ?_
    refine st_nil ?_
    refine c_then ?_
    refine c_if rfl (fun h18 => ?_) (fun h18 => ?_)
    · skip
      first | (have h18n := of_decide_eq_true h18) | (have h18n := of_decide_eq_false (bnt h18)) | (have h18n := bnt h18) | (have h18n := h18)
      refine c_skip ?_
      refine c_then ?_
      refine c_block ?_
      refine c_seq ?_
      refine c_region ?_
      refine st _ (r_move rfl) ?_
      refine st _ (r_nil rfl) ?_
      refine st _ (r_field rfl off83_5) ?_
      refine st _ (r_loadBlk rfl one25 hT rfl) ?_
      refine st _ (r_len rfl u25 (By.of_own hO).shp) ?_
      refine st _ (r_subI rfl rfl (by omega)) ?_
      refine st _ (r_move rfl) ?_
      refine st _ (r_len rfl u25 hB.shp) ?_
      refine st _ ((r_min rfl rfl).castI (min8 _ _ hr)) ?_
      refine st _ (r_assign rfl) ?_
      refine st_nil ?_
      refine c_then ?_
      refine c_seq ?_
      refine c_mix [(0, true), (1, true), (2, true), (3, true), (5, true), (6, true), (7, true), (4, false), (8, false), (9, true), (10, true), (11, false)] (fun w' => True) mixed (by kernel_rfl) ?_
      intro w3 hm
      replace hT := hT.md0 hm
      replace hO := hO.md0 hm
      replace M := M.step0 hm
      refine ⟨trivial, ?_⟩
      refine m _ (fun w' hc => r_move rfl) ?_
      refine m _ (fun w' hc => r_move rfl) ?_
      refine m _ (fun w' hc => r_nil rfl) ?_
      refine m _ (fun w' hc => r_field rfl off83_5) ?_
      refine m _ (fun w' hc => r_move rfl) ?_
      refine m _ (fun w' hc => r_move rfl) ?_
      refine m _ (fun w' hc => r_slice 0 (min (8 - x.2.2.1.length) x.2.2.2.2.length) u25 el5 rfl hB.shp (by omega) (by omega) rfl ⟨_, rfl⟩) ?_
      refine m_e ?_ rfl
      refine st _ (r_loadBlk rfl one25 hT rfl) ?_
      refine st_nil ⟨rfl, trivial, ?_⟩
      refine m_e ?_ rfl
      refine st_appendB u25 elT5 rfl rfl hO ((hB.md M hA).head (min (8 - x.2.2.1.length) x.2.2.2.2.length) (by omega)) (by simp; omega) ?_
      intro v2 w4 hO2 hm _ hbk
      have M0 := M
      replace hT := hT.mdO hO rfl hm
      replace M := M.stepO hm (fun b h => (hvb b h).imp (fun h => by simp [h]) id)
      have hvb2 : ∀ b, vblock v2 = some b → vblock rest = some b ∨ w.heap.size ≤ b := fun b h => (hbk b h).elim (fun h => hvb b h) (fun h => .inr (Nat.le_trans M0.size h))
      replace hO := hO2; clear hO2
      refine st_nil ⟨rfl, trivial, ?_⟩
      refine m _ (fun w' hc => r_nil rfl) ?_
      refine m _ (fun w' hc => r_field rfl off83_5) ?_
      refine m_e ?_ rfl
      refine st_store rfl rfl one25 (Sl.oneCell (By.of_own hO)) hT (Nat.le_of_ble_eq_true rfl) ?_
      have hT0 := hT
      clear hT
      intro w5 hm hT
      replace hO := hO.md1 hT0 rfl hm
      replace M := M.step1' hm (by simp)
      refine st_nil ⟨rfl, trivial, ?_⟩
      refine m_nil ?_
      refine c_then ?_
      refine c_seq ?_
      refine c_region ?_
      refine st _ (r_move rfl) ?_
      refine st _ (r_move rfl) ?_
      refine st _ (r_slice (min (8 - x.2.2.1.length) x.2.2.2.2.length) x.2.2.2.2.length u25 el5 rfl hB.shp (by omega) (by omega) ⟨_, rfl⟩ rfl) ?_
      refine st _ (r_assign rfl) ?_
      refine st_nil ?_
      refine c_then ?_
      refine c_seq ?_
      refine c_region ?_
      refine st _ (r_move rfl) ?_
      refine st _ (r_nil rfl) ?_
      refine st _ (r_field rfl off83_5) ?_
      refine st _ (r_loadBlk rfl one25 hT rfl) ?_
      refine st _ (r_len rfl u25 (By.of_own hO).shp) ?_
      refine st _ (r_eq rfl rfl) ?_
      refine st_nil ?_
      refine c_then ?_
      refine c_if rfl (fun h47 => ?_) (fun h47 => ?_)
      · skip
        first | (have h47n := of_decide_eq_true h47) | (have h47n := of_decide_eq_false (bnt h47)) | (have h47n := bnt h47) | (have h47n := h47)
        refine c_seq ?_
        refine c_region ?_
        refine st _ (r_move rfl) ?_
        refine st _ (r_nil rfl) ?_
        refine st _ (r_field rfl off83_5) ?_
        refine st _ (r_loadBlk rfl one25 hT rfl) ?_
        refine st_call fn56 rfl (get_ok _ _ 0 8 _ (By.of_own hO) (by decide) (by decide) (by omega)) ?_
        rintro e _ ⟨rfl, rfl⟩; refine ⟨_, rfl, ?_⟩
        refine st _ (r_move rfl) ?_
        refine st _ (r_extract rfl rfl) ?_
        refine st _ (r_extract rfl rfl) ?_
        refine st _ (r_assign rfl) ?_
        refine st _ (r_assign rfl) ?_
        refine st_nil ?_
        refine c_then ?_
        refine c_seq ?_
        refine c_region ?_
        refine st _ (r_move rfl) ?_
        refine st _ (r_move rfl) ?_
        refine st_call fn57 rfl (sword_any b x.1 _ _ _ _ hT) ?_
        have hT0 := hT; clear hT
        rintro e w6 ⟨rfl, hm, hT⟩; refine ⟨_, rfl, ?_⟩
        replace hO := hO.md1 hT0 rfl hm
        replace M := M.step1' hm (by simp)
        refine st_nil ?_
        refine c_then ?_
        refine c_region ?_
        refine st _ (r_move rfl) ?_
        refine st _ (r_move rfl) ?_
        refine st _ (r_nil rfl) ?_
        refine st _ (r_field rfl off83_5) ?_
        refine st _ (r_loadBlk rfl one25 hT rfl) ?_
        refine st _ (r_slice 0 0 u25 el5 rfl (By.of_own hO).shp (by omega) (by omega) rfl ⟨_, rfl⟩) ?_
        refine st _ (r_nil rfl) ?_
        refine st _ (r_field rfl off83_5) ?_
        refine st_store rfl rfl one25 (Sl.oneCell ((By.of_own hO).head 0 (Nat.zero_le _))) hT (Nat.le_of_ble_eq_true rfl) ?_
        have hT0 := hT
        clear hT
        intro w7 hm hT
        replace hO := hO.md1 hT0 rfl hm
        replace M := M.step1' hm (by simp)
        refine st_nil ?_
        refine n_block ?_
        refine c_then ?_
        refine next ((sipWord x.1 (leNum (((x.2.2.1 ++ x.2.2.2.2.take (min (8 - x.2.2.1.length) x.2.2.2.2.length)).drop 0).take 8)), subv v2 0 0, [], subv x.2.2.2.1 (min (8 - x.2.2.1.length) x.2.2.2.2.length) x.2.2.2.2.length, x.2.2.2.2.drop (min (8 - x.2.2.1.length) x.2.2.2.2.length))) (by simp; omega) ⟨rfl, rfl, trivial⟩ ?_
        refine ⟨M, hT, hO.cut0, hB.tail _ (by omega), hA.tail _, by simp, ?_, fun b h => hvb2 b (vblock_cut0 h), by simp; omega⟩
        rw [← habs]; exact (add_fill _ _ _ hr (by simp at h47n; omega)).symm
      · skip
        first | (have h47n := of_decide_eq_false h47) | (have h47n := of_decide_eq_true (bnf h47)) | (have h47n := bnf h47) | (have h47n := h47)
        refine c_skip ?_
        refine n_block ?_
        refine c_then ?_
        refine next ((x.1, v2, x.2.2.1 ++ x.2.2.2.2.take (min (8 - x.2.2.1.length) x.2.2.2.2.length), subv x.2.2.2.1 (min (8 - x.2.2.1.length) x.2.2.2.2.length) x.2.2.2.2.length, x.2.2.2.2.drop (min (8 - x.2.2.1.length) x.2.2.2.2.length))) (by simp; omega) ⟨rfl, rfl, trivial⟩ ?_
        refine ⟨M, hT, hO, hB.tail _ (by omega), hA.tail _, by simp at h47n ⊢; omega, ?_, hvb2, by simp; omega⟩
        rw [← habs]; exact (add_some _ _ _ _).symm
    · skip
      first | (have h18n := of_decide_eq_false h18) | (have h18n := of_decide_eq_true (bnf h18)) | (have h18n := bnf h18) | (have h18n := h18)
      refine c_exit ?_
      refine x_then ?_
      refine x_then ?_
      refine x_hit ?_
      have hend : x.2.2.2.2 = [] := List.eq_nil_of_length_eq_zero (by omega)
      rw [hend, List.append_nil, sipAbs_done _ _ hr] at habs
      refine ret0 trivial rfl ⟨rfl, x.2.1, M, ?_, ?_, hvb⟩
      · rw [← habs]; exact hT
      · rw [← habs]; exact hO
theorem value_any (b : Nat) (v : S4) (n : Int) (rest : Value) (rl : List UInt8) (w : World) (hT : Blk w b (v.cells n rest) 83) (hO : Own w 5 1 rest rl.length (rl.map b8)) (hr : rl.length < 8) (hn : 0 ≤ n) :
    Calls Try.prog 23 #[.pointer (some ⟨b, 0, none⟩)] w fun e w' => e = .returned (.int .u64 (sipEnd v rl n)) ∧ Md [] w w' := by
  have M := Md.refl [] w
  refine enter (n := 59) Try.func23 rfl rfl rfl ?_
  intro B
  refine c_seq ?_
  refine c_region ?_
  refine st _ (r_assign rfl) ?_
  refine st_nil ?_
  refine c_then ?_
  refine c_seq ?_
  refine c_region ?_
  refine st_alloc z85 ?_
  intro bE w1 gE lE hm hE
  have nhTE : b ≠ bE := by have := hT.lt; omega
  replace gE := Nat.le_trans M.size gE
  replace hT := hT.md0 hm
  replace hO := hO.md0 hm
  replace M := M.step0 hm
  refine st_nil ?_
  refine c_then ?_
  refine c_seq ?_
  refine c_mix [(0, true), (1, true), (2, true), (3, true), (4, false), (5, false)] (fun w' => True) mixed (by kernel_rfl) ?_
  intro w2 hm
  replace hT := hT.md0 hm
  replace hO := hO.md0 hm
  replace hE := hE.md0 hm
  replace M := M.step0 hm
  refine ⟨trivial, ?_⟩
  refine m _ (fun w' hc => r_sliceArr u85 el5 rfl (by decide)) ?_
  refine m _ (fun w' hc => r_move rfl) ?_
  refine m _ (fun w' hc => r_nil rfl) ?_
  refine m _ (fun w' hc => r_field rfl off83_5) ?_
  refine m_e ?_ rfl
  refine st _ (r_loadBlk rfl one25 hT rfl) ?_
  refine st_nil ⟨rfl, trivial, ?_⟩
  refine m_e ?_ rfl
  refine st_copy u25 el5 rfl rfl hE (By.of_own hO) (one_b8 _) (by simp; omega) ?_
  have hE0 := hE; clear hE
  intro w3 hm hE
  replace hT := hT.md1 hm (by omega)
  replace hO := hO.md1 hE0 rfl hm
  replace M := M.step1 hm gE
  refine st_nil ⟨rfl, trivial, ?_⟩
  refine m_nil ?_
  replace hE : Blk w3 bE ((padTo 8 rl).map b8) 85 := by rw [← splice_pad (m := 8) (by omega)]; exact hE
  refine c_then ?_
  refine c_seq ?_
  refine c_region ?_
  refine st _ (r_move rfl) ?_
  refine st _ (r_nil rfl) ?_
  refine st _ (r_field rfl off83_4) ?_
  refine st _ (r_loadBlk rfl one3 hT rfl) ?_
  refine st _ (r_conv (by rw [u3]; rfl) u5 rfl) ?_
  refine st _ (r_indexArr rfl rfl u85 el5 (by omega)) ?_
  refine st_store rfl rfl one5 rfl hE (by rw [List.length_map, padTo_len 8 rl (by omega)]; decide) ?_
  have hE0 := hE
  clear hE
  intro w4 hm hE
  replace hT := hT.md1 hm (by omega)
  replace hO := hO.md1 hE0 rfl hm
  replace M := M.step1 hm gE
  refine st_nil ?_
  replace hE : Blk w4 bE ((sipTail rl n).map b8) 85 := by rw [← sipTail_cells rl n hn]; exact hE
  refine c_then ?_
  refine c_seq ?_
  refine c_region ?_
  refine st _ (r_sliceArr u85 el5 rfl (by decide)) ?_
  refine st_call fn56 rfl (get_ok _ (sipTail rl n) 0 8 _ (By.of_blk hE (sipTail_len rl n (by omega)) (by decide)) (by decide) (by decide) (by rw [sipTail_len rl n (by omega)]; decide)) ?_
  rintro e _ ⟨rfl, rfl⟩; refine ⟨_, rfl, ?_⟩
  refine st _ (r_move rfl) ?_
  refine st _ (r_extract rfl rfl) ?_
  refine st _ (r_extract rfl rfl) ?_
  refine st _ (r_assign rfl) ?_
  refine st _ (r_assign rfl) ?_
  refine st_nil ?_
  refine c_then ?_
  refine c_seq ?_
  have hT_q := hT
  have hO_q := hO
  have hE_q := hE
  have M_q := M
  refine c_mix [(0, true), (1, true), (2, true), (3, true), (4, true), (5, true), (6, true), (7, true), (8, true), (9, true), (10, true), (11, true), (12, true), (13, true), (14, true), (15, true), (16, true), (17, false), (18, false)] (fun w' => Md [] w4 w') mixed (by kernel_rfl) ?_
  intro w5 hm
  have MC := hm
  replace hT := hT.md0 hm
  replace hO := hO.md0 hm
  replace hE := hE.md0 hm
  replace M := M.step0 hm
  refine ⟨MC, ?_⟩
  refine m _ (fun w' hc => r_move rfl) ?_
  refine m _ (fun w' hc => r_nil rfl) ?_
  refine m _ (fun w' hc => r_field rfl off83_0) ?_
  refine m _ (fun w' hc => r_loadBlk rfl one27 (hT_q.md0 hc) rfl) ?_
  refine m _ (fun w' hc => r_move rfl) ?_
  refine m _ (fun w' hc => r_nil rfl) ?_
  refine m _ (fun w' hc => r_field rfl off83_1) ?_
  refine m _ (fun w' hc => r_loadBlk rfl one27 (hT_q.md0 hc) rfl) ?_
  refine m _ (fun w' hc => r_move rfl) ?_
  refine m _ (fun w' hc => r_nil rfl) ?_
  refine m _ (fun w' hc => r_field rfl off83_2) ?_
  refine m _ (fun w' hc => r_loadBlk rfl one27 (hT_q.md0 hc) rfl) ?_
  refine m _ (fun w' hc => r_move rfl) ?_
  refine m _ (fun w' hc => r_nil rfl) ?_
  refine m _ (fun w' hc => r_field rfl off83_3) ?_
  refine m _ (fun w' hc => r_loadBlk rfl one27 (hT_q.md0 hc) rfl) ?_
  refine m (.agg [_, _, _, _, _, _].toArray) (fun w' hc => r_build (ps := [(0, 0), (1, 1), (2, 2), (3, 3)]) z83 pl83 rfl rfl ⟨rfl, rfl, rfl, rfl, trivial⟩ rfl rfl rfl) ?_
  refine m_e ?_ rfl
  refine st_alloc z83 ?_
  intro bX w6 gX lX hm hX
  have nhTX : b ≠ bX := by have := hT.lt; omega
  have nhEX : bE ≠ bX := by have := hE.lt; omega
  have gX_c := Nat.le_trans MC.size gX
  replace gX := Nat.le_trans M.size gX
  replace hT := hT.md0 hm
  replace hO := hO.md0 hm
  replace hE := hE.md0 hm
  replace MC := MC.step0 hm
  replace M := M.step0 hm
  refine st_nil ⟨rfl, MC, ?_⟩
  refine m_e ?_ rfl
  refine st_storeAll rfl rfl (by exact agg83) (by simp [Value.oneCell']) hX (by first | rfl | simp) ?_
  have hX0 := hX
  clear hX
  intro w7 hm hX
  replace hT := hT.md1 hm (by omega)
  replace hO := hO.md1 hX0 rfl hm
  replace hE := hE.md1 hm (by omega)
  replace MC := MC.step1 hm gX_c
  replace M := M.step1 hm gX
  refine st_nil ⟨rfl, MC, ?_⟩
  refine m_nil ?_
  refine c_then ?_
  refine c_seq ?_
  refine c_region ?_
  refine st _ (r_move rfl) ?_
  refine st_call fn57 rfl (sword_any bX v 0 _ _ _ hX) ?_
  have hX0 := hX; clear hX
  rintro e w8 ⟨rfl, hm, hX⟩; refine ⟨_, rfl, ?_⟩
  replace hT := hT.md1 hm (by omega)
  replace hO := hO.md1 hX0 rfl hm
  replace hE := hE.md1 hm (by omega)
  replace M := M.step1 hm gX
  refine st_nil ?_
  refine c_then ?_
  refine c_seq ?_
  refine c_region ?_
  refine st _ (r_field rfl off83_2) ?_
  refine st _ (r_loadBlk rfl one27 hX rfl) ?_
  refine st _ (r_xor rfl rfl) ?_
  refine st _ (r_field rfl off83_2) ?_
  refine st_store rfl rfl one27 rfl hX (Nat.le_of_ble_eq_true rfl) ?_
  have hX0 := hX
  clear hX
  intro w9 hm hX
  replace hT := hT.md1 hm (by omega)
  replace hO := hO.md1 hX0 rfl hm
  replace hE := hE.md1 hm (by omega)
  replace M := M.step1 hm gX
  refine st_nil ?_
  replace hX := (set_xr _ 255 0 (.slice none 0 0)) ▸ hX
  refine c_then ?_
  refine c_seq ?_
  refine c_region ?_
  refine st_call fn58 rfl (round4_any bX _ _ _ _ hX) ?_
  have hX0 := hX; clear hX
  rintro e w10 ⟨rfl, hm, hX⟩; refine ⟨_, rfl, ?_⟩
  replace hT := hT.md1 hm (by omega)
  replace hO := hO.md1 hX0 rfl hm
  replace hE := hE.md1 hm (by omega)
  replace M := M.step1 hm gX
  refine st_nil ?_
  refine c_then ?_
  refine c_seq ?_
  refine c_region ?_
  refine st _ (r_field rfl off83_0) ?_
  refine st _ (r_loadBlk rfl one27 hX rfl) ?_
  refine st _ (r_field rfl off83_1) ?_
  refine st _ (r_loadBlk rfl one27 hX rfl) ?_
  refine st _ (r_xor rfl rfl) ?_
  refine st _ (r_field rfl off83_2) ?_
  refine st _ (r_loadBlk rfl one27 hX rfl) ?_
  refine st _ (r_xor rfl rfl) ?_
  refine st _ (r_field rfl off83_3) ?_
  refine st _ (r_loadBlk rfl one27 hX rfl) ?_
  refine st _ (r_xor rfl rfl) ?_
  refine st _ (r_assign rfl) ?_
  refine st_nil ?_
  refine c_then ?_
  refine c_ret ?_
  exact ret1 trivial rfl rfl ⟨rfl, M⟩
theorem sip_any (key : List UInt8) (s : Value) (l : List UInt8) (w : World) (hk : key.length = 16) (hB : By w s l) (hl : l.length ≤ 4611686018427387000) :
    Calls Try.prog 17 #[.agg (key.map b8).toArray, s] w fun e w' => e = .returned (.int .u64 (sip key l)) ∧ Md [] w w' := by
  have M := Md.refl [] w
  refine enter (n := 13) Try.func17 rfl rfl rfl ?_
  intro B
  refine c_seq ?_
  refine c_region ?_
  refine st_box rfl rfl ?_
  intro bK w1 gK lK hm hK
  replace gK := Nat.le_trans M.size gK
  replace M := M.step0 hm
  refine st _ (r_assign rfl) ?_
  refine st_nil ?_
  refine c_then ?_
  refine c_seq ?_
  refine c_region ?_
  refine st _ (r_loadAll rfl (by rw [(by simpa using hk : (key.map b8).length = 16)]; exact agg23) hK) ?_
  refine st_call fn21 rfl (new_any key _ hk) ?_
  rintro e w50 ⟨bS, rfl, gS, lS, hm, hT⟩; refine ⟨_, rfl, ?_⟩
  replace gS := Nat.le_trans M.size gS
  replace M := M.step0 hm
  replace hK := hK.md0 hm
  have hO : Own w50 5 1 (.slice none 0 0) ([] : List UInt8).length (([] : List UInt8).map b8) := Own.nil _ _ _
  refine st _ (r_assign rfl) ?_
  refine st_nil ?_
  refine c_then ?_
  refine c_seq ?_
  refine c_region ?_
  refine st _ (r_move rfl) ?_
  refine st _ (r_move rfl) ?_
  refine st_call fn22 rfl (add_any bS (sipInit key) 0 (.slice none 0 0) [] s l _ hT hO (by decide) (hB.md0 M) (apartOld hB gS) (by decide) (by omega)) ?_
  clear hK
  rintro e w51 ⟨rfl, rest, hm, hT2, hO2, hbk⟩; refine ⟨_, rfl, ?_⟩
  replace M : Md [] w w51 := M.step1 hm gS
  clear hT hO
  refine st_nil ?_
  refine c_then ?_
  refine c_seq ?_
  refine c_region ?_
  refine st _ (r_move rfl) ?_
  refine st_call fn23 rfl (value_any bS _ _ rest _ _ hT2 hO2 (sipAbs_len _ _ _ (Nat.le_refl _)) (by omega)) ?_
  rintro e w2 ⟨rfl, hm⟩; refine ⟨_, rfl, ?_⟩
  replace M := M.step0 hm
  refine st _ (r_assign rfl) ?_
  refine st_nil ?_
  refine c_then ?_
  refine c_ret ?_
  exact ret1 trivial rfl rfl ⟨retI (by simp [sip]), M⟩
theorem of_any (k : Bool) (key : List UInt8) (s : Value) (l : List UInt8) (w : World) (hk : key.length = 16) (hB : By w s l) (hl : l.length ≤ 4611686018427387000) :
    Calls Try.prog 19 #[.bool k, .agg (key.map b8).toArray, s] w fun e w' => e = .returned (.int .u64 (if k then sip key l else lookup l)) ∧ Md [] w w' := by
  have M := Md.refl [] w
  refine enter (n := 13) Try.func19 rfl rfl rfl ?_
  intro B
  refine c_seq ?_
  refine c_region ?_
  refine st_box rfl rfl ?_
  intro bK w1 gK lK hm hK
  replace gK := Nat.le_trans M.size gK
  replace M := M.step0 hm
  refine st _ (r_assign rfl) ?_
  refine st_nil ?_
  refine c_then ?_
  refine c_seq ?_
  refine c_seq ?_
  refine c_region ?_
  refine st _ (r_move rfl) ?_
  refine st_nil ?_
  refine c_then ?_
  refine c_if rfl (fun h7 => ?_) (fun h7 => ?_)
  · skip
    first | (have h7n := of_decide_eq_true h7) | (have h7n := of_decide_eq_false (bnt h7)) | (have h7n := bnt h7) | (have h7n := h7)
    refine c_seq ?_
    refine c_region ?_
    refine st _ (r_loadAll rfl (by rw [(by simpa using hk : (key.map b8).length = 16)]; exact agg23) hK) ?_
    refine st _ (r_move rfl) ?_
    refine st_call fn17 rfl (sip_any key s l _ hk (hB.md0 M) hl) ?_
    rintro e w2 ⟨rfl, hm⟩; refine ⟨_, rfl, ?_⟩
    replace hK := hK.md0 hm
    replace M := M.step0 hm
    refine st _ (r_assign rfl) ?_
    refine st_nil ?_
    refine c_then ?_
    refine c_ret ?_
    refine r_then ?_
    exact ret1 trivial rfl rfl ⟨retI (by simp_all), M⟩
  · skip
    first | (have h7n := of_decide_eq_false h7) | (have h7n := of_decide_eq_true (bnf h7)) | (have h7n := bnf h7) | (have h7n := h7)
    refine c_skip ?_
    refine c_then ?_
    refine c_seq ?_
    refine c_region ?_
    refine st _ (r_move rfl) ?_
    refine st_call fn15 rfl (lookup_any s l _ (hB.md0 M)) ?_
    rintro e w3 ⟨rfl, hm⟩; refine ⟨_, rfl, ?_⟩
    replace hK := hK.md0 hm
    replace M := M.step0 hm
    refine st _ (r_assign rfl) ?_
    refine st_nil ?_
    refine c_then ?_
    refine c_ret ?_
    exact ret1 trivial rfl rfl ⟨retI (by simp_all), M⟩
theorem eight_any (v : Value) (l : List UInt8) (a : Int) (w : World) (hB : By w v l) (ha : 0 ≤ a) (ha2 : a ≤ 4611686018427387000) :
    Calls Try.prog 54 #[v, .int .i64 a] w fun e w' => e = .returned (.int .u64 (le8 l a.toNat)) ∧ w = w' := by
  have hlen := hB.len63
  have M := Md.refl [] w
  refine enter (n := 16) Try.func54 rfl rfl rfl ?_
  intro B
  refine c_seq ?_
  refine c_region ?_
  refine st _ (r_assign rfl) ?_
  refine st_nil ?_
  refine c_then ?_
  refine c_seq ?_
  refine c_region ?_
  refine st _ (r_move rfl) ?_
  refine st _ (r_move rfl) ?_
  refine st_call fn52 rfl (word_any _ _ _ _ (hB.md0 M) (by omega) (by omega)) ?_
  rintro e _ ⟨rfl, rfl⟩; refine ⟨_, rfl, ?_⟩
  refine st _ (r_conv (by rw [u70]; rfl) u27 rfl) ?_
  refine st _ (r_move rfl) ?_
  refine st _ (r_move rfl) ?_
  refine st _ (r_addI rfl rfl (by omega)) ?_
  refine st_call fn52 rfl (word_any _ _ _ _ (hB.md0 M) (by omega) (by omega)) ?_
  rintro e _ ⟨rfl, rfl⟩; refine ⟨_, rfl, ?_⟩
  refine st _ (r_conv (by rw [u70]; rfl) u27 rfl) ?_
  refine st _ (r_shl rfl rfl (by omega)) ?_
  refine st _ (r_or rfl rfl) ?_
  refine st _ (r_assign rfl) ?_
  refine st_nil ?_
  refine c_then ?_
  refine c_ret ?_
  exact ret1 trivial rfl rfl ⟨retI (eight_eq l a ha), rfl⟩
theorem rrounds_any (v : S4) (t : Int) (w : World) (ht : 0 ≤ t) (ht2 : t ≤ 100) :
    Calls Try.prog 55 #[.agg v.arr.toArray, .int .i64 t] w fun e w' => e = .returned (.agg (sipRounds t.toNat v).arr.toArray) ∧ Md [] w w' := by
  have M := Md.refl [] w
  refine enter (n := 64) Try.func55 rfl rfl rfl ?_
  intro B
  refine c_seq ?_
  refine c_region ?_
  refine st_box rfl rfl ?_
  intro bV w1 gV lV hm hV
  replace gV := Nat.le_trans M.size gV
  replace M := M.step0 hm
  refine st_alloc z78 ?_
  intro bR w2 gR lR hm hR
  have nhVR : bV ≠ bR := by have := hV.lt; omega
  replace gR := Nat.le_trans M.size gR
  replace hV := hV.md0 hm
  replace M := M.step0 hm
  refine st_nil ?_
  refine c_then ?_
  refine c_seq ?_
  refine c_quiet (fun w' => Md [] w2 w') mixed (by kernel_rfl) (Md.drew w2) ?_
  refine q _ (fun w' m => r_indexArr rfl rfl u78 el27 (by omega)) ?_
  refine q _ (fun w' m => r_loadBlk rfl one27 (hV.md0 m) rfl) ?_
  refine q _ (fun w' m => r_indexArr rfl rfl u78 el27 (by omega)) ?_
  refine q _ (fun w' m => r_loadBlk rfl one27 (hV.md0 m) rfl) ?_
  refine q _ (fun w' m => r_indexArr rfl rfl u78 el27 (by omega)) ?_
  refine q _ (fun w' m => r_loadBlk rfl one27 (hV.md0 m) rfl) ?_
  refine q _ (fun w' m => r_indexArr rfl rfl u78 el27 (by omega)) ?_
  refine q _ (fun w' m => r_loadBlk rfl one27 (hV.md0 m) rfl) ?_
  refine q _ (fun w' m => r_assign rfl) ?_
  refine q _ (fun w' m => r_assign rfl) ?_
  refine q _ (fun w' m => r_assign rfl) ?_
  refine q _ (fun w' m => r_assign rfl) ?_
  refine q_nil ?_
  intro w3 hm
  replace hV := hV.md0 hm
  replace hR := hR.md0 hm
  replace M := M.step0 hm
  refine c_then ?_
  refine c_seq ?_
  refine c_seq ?_
  refine c_region ?_
  refine st _ (r_assign rfl) ?_
  refine st_nil ?_
  refine c_then ?_
  refine c_block ?_
  refine c_loop (X := Nat) (fun k => [(1, .int .i64 t), (4, .pointer (some ⟨bR, 0, none⟩)), (5, .int .u64 (sipRounds k v).p), (6, .int .u64 (sipRounds k v).q), (7, .int .u64 (sipRounds k v).r), (8, .int .u64 (sipRounds k v).s), (9, .int .i64 k)]) (fun k w' => Md [] w w' ∧ Blk w' bR [.int .u64 0, .int .u64 0, .int .u64 0, .int .u64 0] 78 ∧ (k : Int) ≤ t) (fun k => (t - k).toNat) 0 ?_ ?_ ?_
  · exact ⟨rfl, rfl, rfl, rfl, rfl, rfl, rfl, trivial⟩
  · exact ⟨M, hR, ht⟩
  · clear M
    clear hR hV
    rintro k B w4 ⟨M, hR, hk⟩
    refine c_seq ?_
    refine c_seq ?_
    refine c_region ?_
    refine st _ (r_move rfl) ?_
    refine st _ (r_move rfl) ?_
    refine st _ (r_lt rfl rfl) ?_
    refine st_nil ?_
    refine c_then ?_
    refine c_if rfl (fun h20 => ?_) (fun h20 => ?_)
    · skip
      first | (have h20n := of_decide_eq_true h20) | (have h20n := of_decide_eq_false (bnt h20)) | (have h20n := bnt h20) | (have h20n := h20)
      refine c_skip ?_
      refine c_then ?_
      refine c_seq ?_
      refine c_block ?_
      refine c_seq ?_
      refine c_region ?_
      refine st _ (r_move rfl) ?_
      refine st _ (r_move rfl) ?_
      refine st _ (r_add rfl rfl) ?_
      refine st _ (r_assign rfl) ?_
      refine st_nil ?_
      refine c_then ?_
      refine c_seq ?_
      refine c_region ?_
      refine st _ (r_move rfl) ?_
      refine st_call fn73 rfl (up_any _ _ _ (by decide) (by decide)) ?_
      rintro e _ ⟨rfl, rfl⟩; refine ⟨_, rfl, ?_⟩
      refine st _ (r_assign rfl) ?_
      refine st_nil ?_
      refine c_then ?_
      refine c_seq ?_
      refine c_region ?_
      refine st _ (r_move rfl) ?_
      refine st _ (r_move rfl) ?_
      refine st _ (r_xor rfl rfl) ?_
      refine st _ (r_assign rfl) ?_
      refine st_nil ?_
      refine c_then ?_
      refine c_seq ?_
      refine c_region ?_
      refine st _ (r_move rfl) ?_
      refine st_call fn73 rfl (up_any _ _ _ (by decide) (by decide)) ?_
      rintro e _ ⟨rfl, rfl⟩; refine ⟨_, rfl, ?_⟩
      refine st _ (r_assign rfl) ?_
      refine st_nil ?_
      refine c_then ?_
      refine c_seq ?_
      refine c_region ?_
      refine st _ (r_move rfl) ?_
      refine st _ (r_move rfl) ?_
      refine st _ (r_add rfl rfl) ?_
      refine st _ (r_assign rfl) ?_
      refine st_nil ?_
      refine c_then ?_
      refine c_seq ?_
      refine c_region ?_
      refine st _ (r_move rfl) ?_
      refine st_call fn73 rfl (up_any _ _ _ (by decide) (by decide)) ?_
      rintro e _ ⟨rfl, rfl⟩; refine ⟨_, rfl, ?_⟩
      refine st _ (r_assign rfl) ?_
      refine st_nil ?_
      refine c_then ?_
      refine c_seq ?_
      refine c_region ?_
      refine st _ (r_move rfl) ?_
      refine st _ (r_move rfl) ?_
      refine st _ (r_xor rfl rfl) ?_
      refine st _ (r_assign rfl) ?_
      refine st_nil ?_
      refine c_then ?_
      refine c_seq ?_
      refine c_region ?_
      refine st _ (r_move rfl) ?_
      refine st _ (r_move rfl) ?_
      refine st _ (r_add rfl rfl) ?_
      refine st _ (r_assign rfl) ?_
      refine st_nil ?_
      refine c_then ?_
      refine c_seq ?_
      refine c_region ?_
      refine st _ (r_move rfl) ?_
      refine st_call fn73 rfl (up_any _ _ _ (by decide) (by decide)) ?_
      rintro e _ ⟨rfl, rfl⟩; refine ⟨_, rfl, ?_⟩
      refine st _ (r_assign rfl) ?_
      refine st_nil ?_
      refine c_then ?_
      refine c_seq ?_
      refine c_region ?_
      refine st _ (r_move rfl) ?_
      refine st _ (r_move rfl) ?_
      refine st _ (r_xor rfl rfl) ?_
      refine st _ (r_assign rfl) ?_
      refine st_nil ?_
      refine c_then ?_
      refine c_seq ?_
      refine c_region ?_
      refine st _ (r_move rfl) ?_
      refine st _ (r_move rfl) ?_
      refine st _ (r_add rfl rfl) ?_
      refine st _ (r_assign rfl) ?_
      refine st_nil ?_
      refine c_then ?_
      refine c_seq ?_
      refine c_region ?_
      refine st _ (r_move rfl) ?_
      refine st_call fn73 rfl (up_any _ _ _ (by decide) (by decide)) ?_
      rintro e _ ⟨rfl, rfl⟩; refine ⟨_, rfl, ?_⟩
      refine st _ (r_assign rfl) ?_
      refine st_nil ?_
      refine c_then ?_
      refine c_seq ?_
      refine c_region ?_
      refine st _ (r_move rfl) ?_
      refine st _ (r_move rfl) ?_
      refine st _ (r_xor rfl rfl) ?_
      refine st _ (r_assign rfl) ?_
      refine st_nil ?_
      refine c_then ?_
      refine c_region ?_
      refine st _ (r_move rfl) ?_
      refine st_call fn73 rfl (up_any _ _ _ (by decide) (by decide)) ?_
      rintro e _ ⟨rfl, rfl⟩; refine ⟨_, rfl, ?_⟩
      refine st _ (r_assign rfl) ?_
      refine st_nil ?_
      refine n_block ?_
      refine c_then ?_
      refine c_region ?_
      refine st _ (r_move rfl) ?_
      refine st _ (r_addI rfl rfl (by omega)) ?_
      refine st _ (r_assign rfl) ?_
      refine st_nil ?_
      refine c_then ?_
      refine next (k + 1) (by omega) ⟨rfl, rfl, rfl, rfl, rfl, rfl, rfl, trivial⟩ ?_
      exact ⟨M, hR, by omega⟩
    · skip
      first | (have h20n := of_decide_eq_false h20) | (have h20n := of_decide_eq_true (bnf h20)) | (have h20n := bnf h20) | (have h20n := h20)
      refine c_exit ?_
      refine x_then ?_
      refine x_then ?_
      refine x_hit ?_
      refine c_then ?_
      refine c_seq ?_
      refine c_region ?_
      refine st _ (r_move rfl) ?_
      refine st _ (r_move rfl) ?_
      refine st _ (r_move rfl) ?_
      refine st _ (r_move rfl) ?_
      refine st (.agg [_, _, _, _].toArray) (r_build (ps := [(0, 0), (1, 1), (2, 2), (3, 3)]) z78 pl78 rfl rfl ⟨rfl, rfl, rfl, rfl, trivial⟩ rfl rfl rfl) ?_
      refine st_storeAll rfl rfl (by exact agg78) (by simp [Value.oneCell']) hR (by first | rfl | simp) ?_
      have hR0 := hR
      clear hR
      intro w5 hm hR
      replace M := M.step1 hm gR
      refine st_nil ?_
      refine c_then ?_
      refine c_ret ?_
      obtain rfl : (k : Int) = t := (by omega)
      exact retc trivial rfl rfl (by exact agg78) hR ⟨rfl, M⟩
theorem rrounds2_any (v : S4) (w : World) : Calls Try.prog 55 #[.agg v.arr.toArray, .int .i64 2] w fun e w' => e = .returned (.agg (sipRounds 2 v).arr.toArray) ∧ Md [] w w' :=
  rrounds_any v 2 w (by decide) (by decide)
theorem rrounds4_any (v : S4) (w : World) : Calls Try.prog 55 #[.agg v.arr.toArray, .int .i64 4] w fun e w' => e = .returned (.agg (sipRounds 4 v).arr.toArray) ∧ Md [] w w' :=
  rrounds_any v 4 w (by decide) (by decide)
theorem rsip_any (key : List UInt8) (s : Value) (l : List UInt8) (w : World) (hk : key.length = 16) (hB : By w s l) (hl : l.length ≤ 4611686018427387000) :
    Calls Try.prog 18 #[.agg (key.map b8).toArray, s] w fun e w' => e = .returned (.int .u64 (sip key l)) ∧ Md [] w w' := by
  have hlen := hB.len63
  have M := Md.refl [] w
  refine enter (n := 84) Try.func18 rfl rfl rfl ?_
  intro B
  refine c_seq ?_
  refine c_region ?_
  refine st_box rfl rfl ?_
  intro bK w1 gK lK hm hK
  replace gK := Nat.le_trans M.size gK
  replace M := M.step0 hm
  refine st _ (r_assign rfl) ?_
  refine st_nil ?_
  refine c_then ?_
  refine c_seq ?_
  have hK_q := hK
  have M_q := M
  refine c_mix [(0, true), (2, true), (1, false), (3, false), (4, true), (5, true)] (fun w' => Md [] w1 w') mixed (by kernel_rfl) ?_
  intro w2 hm
  have MC := hm
  replace hK := hK.md0 hm
  replace M := M.step0 hm
  refine ⟨MC, ?_⟩
  refine m _ (fun w' hc => r_sliceArr u23 el5 rfl (by decide)) ?_
  refine m _ (fun w' hc => r_sliceArr u23 el5 rfl (by decide)) ?_
  refine m_e ?_ rfl
  refine st_call fn54 rfl (eight_any _ key 0 _ (By.of_blk hK hk (by decide)) (by decide) (by decide)) ?_
  rintro e _ ⟨rfl, rfl⟩; refine ⟨_, rfl, ?_⟩
  refine st_nil ⟨rfl, MC, ?_⟩
  refine m_e ?_ rfl
  refine st_call fn54 rfl (eight_any _ key 8 _ (By.of_blk hK hk (by decide)) (by decide) (by decide)) ?_
  rintro e _ ⟨rfl, rfl⟩; refine ⟨_, rfl, ?_⟩
  refine st_nil ⟨rfl, MC, ?_⟩
  refine m _ (fun w' hc => r_assign rfl) ?_
  refine m _ (fun w' hc => r_assign rfl) ?_
  refine m_nil ?_
  refine c_then ?_
  refine c_seq ?_
  refine c_region ?_
  refine st _ (r_move rfl) ?_
  refine st _ (r_xor rfl rfl) ?_
  refine st _ (r_move rfl) ?_
  refine st _ (r_xor rfl rfl) ?_
  refine st _ (r_move rfl) ?_
  refine st _ (r_xor rfl rfl) ?_
  refine st _ (r_move rfl) ?_
  refine st _ (r_xor rfl rfl) ?_
  refine st (.agg [_, _, _, _].toArray) (r_build (ps := [(0, 0), (1, 1), (2, 2), (3, 3)]) z78 pl78 rfl rfl ⟨rfl, rfl, rfl, rfl, trivial⟩ rfl rfl rfl) ?_
  refine st_alloc z78 ?_
  intro bV w3 gV lV hm hV
  have nhKV : bK ≠ bV := by have := hK.lt; omega
  replace gV := Nat.le_trans M.size gV
  replace hK := hK.md0 hm
  replace M := M.step0 hm
  refine st_storeAll rfl rfl (by exact agg78) (by simp [Value.oneCell']) hV (by first | rfl | simp) ?_
  have hV0 := hV
  clear hV
  intro w4 hm hV
  replace hK := hK.md1 hm (by omega)
  replace M := M.step1 hm gV
  refine st_nil ?_
  refine c_then ?_
  refine c_seq ?_
  refine c_region ?_
  refine st _ (r_assign rfl) ?_
  refine st_nil ?_
  refine c_then ?_
  refine c_seq ?_
  refine c_block ?_
  refine c_loop (X := S4 × Nat) (fun x => [(1, s), (7, .pointer (some ⟨bV, 0, none⟩)), (8, .int .i64 x.2)]) (fun x w' => Md [] w w' ∧ Blk w' bV x.1.arr 78 ∧ x.2 ≤ l.length ∧ sipAbs x.1 (l.drop x.2) = sipAbs (sipInit key) l) (fun x => l.length - x.2) (sipInit key, 0) ?_ ?_ ?_
  · exact ⟨rfl, rfl, rfl, trivial⟩
  · refine ⟨M, ?_, Nat.zero_le _, rfl⟩
    rw [sipInit_arr key hk]; exact hV
  · clear M
    clear hV hK
    rintro x B w5 ⟨M, hV, hk2, habs⟩
    refine c_seq ?_
    refine c_seq ?_
    refine c_region ?_
    refine st _ (r_move rfl) ?_
    refine st _ (r_addI rfl rfl (by omega)) ?_
    refine st _ (r_move rfl) ?_
    refine st _ (r_len rfl u25 hB.shp) ?_
    refine st _ (r_le rfl rfl) ?_
    refine st_nil ?_
    refine c_then ?_
    refine c_if rfl (fun h28 => ?_) (fun h28 => ?_)
    · skip
      first | (have h28n := of_decide_eq_true h28) | (have h28n := of_decide_eq_false (bnt h28)) | (have h28n := bnt h28) | (have h28n := h28)
      refine c_skip ?_
      refine c_then ?_
      refine c_block ?_
      refine c_seq ?_
      refine c_region ?_
      refine st _ (r_move rfl) ?_
      refine st _ (r_move rfl) ?_
      refine st_call fn54 rfl (eight_any s l _ _ (hB.md0 M) (by omega) (by omega)) ?_
      rintro e _ ⟨rfl, rfl⟩; refine ⟨_, rfl, ?_⟩
      refine st _ (r_assign rfl) ?_
      refine st_nil ?_
      refine c_then ?_
      refine c_seq ?_
      refine c_region ?_
      refine st _ (r_indexArr rfl rfl u78 el27 (by omega)) ?_
      refine st _ (r_loadBlk rfl one27 hV rfl) ?_
      refine st _ (r_move rfl) ?_
      refine st _ (r_xor rfl rfl) ?_
      refine st _ (r_indexArr rfl rfl u78 el27 (by omega)) ?_
      refine st_store rfl rfl one27 rfl hV (Nat.le_of_ble_eq_true rfl) ?_
      have hV0 := hV
      clear hV
      intro w6 hm hV
      replace M := M.step1 hm gV
      refine st_nil ?_
      replace hV := (arr_xs _ (le8 l (x.2 : Int).toNat)) ▸ hV
      refine c_then ?_
      refine c_seq ?_
      refine c_region ?_
      refine st _ (r_loadAll rfl (by exact agg78) hV) ?_
      refine st_call fn55 rfl (rrounds2_any _ _) ?_
      rintro e w7 ⟨rfl, hm⟩; refine ⟨_, rfl, ?_⟩
      replace hV := hV.md0 hm
      replace M := M.step0 hm
      refine st_storeAll rfl rfl (by exact agg78) (S4.arr_one _) hV (by rw [S4.arr_len, S4.arr_len]) ?_
      have hV0 := hV
      clear hV
      intro w8 hm hV
      replace M := M.step1 hm gV
      refine st_nil ?_
      refine c_then ?_
      refine c_seq ?_
      refine c_region ?_
      refine st _ (r_indexArr rfl rfl u78 el27 (by omega)) ?_
      refine st _ (r_loadBlk rfl one27 hV rfl) ?_
      refine st _ (r_move rfl) ?_
      refine st _ (r_xor rfl rfl) ?_
      refine st _ (r_indexArr rfl rfl u78 el27 (by omega)) ?_
      refine st_store rfl rfl one27 rfl hV (Nat.le_of_ble_eq_true rfl) ?_
      have hV0 := hV
      clear hV
      intro w9 hm hV
      replace M := M.step1 hm gV
      refine st_nil ?_
      replace hV := (arr_xp _ (le8 l (x.2 : Int).toNat)) ▸ hV
      refine c_then ?_
      refine c_region ?_
      refine st _ (r_move rfl) ?_
      refine st _ (r_addI rfl rfl (by omega)) ?_
      refine st _ (r_assign rfl) ?_
      refine st_nil ?_
      refine n_block ?_
      refine c_then ?_
      refine next ((sipWord x.1 (leNum ((l.drop x.2).take 8)), x.2 + 8)) (by simp; omega) ⟨rfl, rfl, fitI rfl (by simp), trivial⟩ ?_
      refine ⟨M, ?_, by simp; omega, ?_⟩
      · unfold sipWord; rw [le8_take l x.2 (by omega)]; exact hV
      · rw [← habs, sipAbs_step _ (l.drop x.2) (by simp; omega), List.drop_drop]
    · skip
      first | (have h28n := of_decide_eq_false h28) | (have h28n := of_decide_eq_true (bnf h28)) | (have h28n := bnf h28) | (have h28n := h28)
      refine c_exit ?_
      refine x_then ?_
      refine x_then ?_
      refine x_hit ?_
      refine c_then ?_
      refine c_seq ?_
      refine c_region ?_
      refine st _ (r_move rfl) ?_
      refine st _ (r_move rfl) ?_
      refine st_call fn54 rfl (eight_any s l _ _ (hB.md0 M) (by omega) (by omega)) ?_
      rintro e _ ⟨rfl, rfl⟩; refine ⟨_, rfl, ?_⟩
      refine st _ (r_move rfl) ?_
      refine st _ (r_len rfl u25 hB.shp) ?_
      refine st _ (r_rem rfl rfl (by omega)) ?_
      refine st _ (r_conv (by rw [u3]; rfl) u27 rfl) ?_
      refine st _ (r_shl rfl rfl (by omega)) ?_
      refine st _ (r_or rfl rfl) ?_
      refine st _ (r_assign rfl) ?_
      refine st_nil ?_
      refine c_then ?_
      refine c_seq ?_
      refine c_region ?_
      refine st _ (r_indexArr rfl rfl u78 el27 (by omega)) ?_
      refine st _ (r_loadBlk rfl one27 hV rfl) ?_
      refine st _ (r_move rfl) ?_
      refine st _ (r_xor rfl rfl) ?_
      refine st _ (r_indexArr rfl rfl u78 el27 (by omega)) ?_
      refine st_store rfl rfl one27 rfl hV (Nat.le_of_ble_eq_true rfl) ?_
      have hV0 := hV
      clear hV
      intro w10 hm hV
      replace M := M.step1 hm gV
      refine st_nil ?_
      replace hV := (arr_xs _ _) ▸ hV
      refine c_then ?_
      refine c_seq ?_
      refine c_region ?_
      refine st _ (r_loadAll rfl (by exact agg78) hV) ?_
      refine st_call fn55 rfl (rrounds2_any _ _) ?_
      rintro e w11 ⟨rfl, hm⟩; refine ⟨_, rfl, ?_⟩
      replace hV := hV.md0 hm
      replace M := M.step0 hm
      refine st_storeAll rfl rfl (by exact agg78) (S4.arr_one _) hV (by rw [S4.arr_len, S4.arr_len]) ?_
      have hV0 := hV
      clear hV
      intro w12 hm hV
      replace M := M.step1 hm gV
      refine st_nil ?_
      refine c_then ?_
      refine c_seq ?_
      refine c_region ?_
      refine st _ (r_indexArr rfl rfl u78 el27 (by omega)) ?_
      refine st _ (r_loadBlk rfl one27 hV rfl) ?_
      refine st _ (r_move rfl) ?_
      refine st _ (r_xor rfl rfl) ?_
      refine st _ (r_indexArr rfl rfl u78 el27 (by omega)) ?_
      refine st_store rfl rfl one27 rfl hV (Nat.le_of_ble_eq_true rfl) ?_
      have hV0 := hV
      clear hV
      intro w13 hm hV
      replace M := M.step1 hm gV
      refine st_nil ?_
      replace hV := (arr_xp _ _) ▸ hV
      refine c_then ?_
      refine c_seq ?_
      refine c_region ?_
      refine st _ (r_indexArr rfl rfl u78 el27 (by omega)) ?_
      refine st _ (r_loadBlk rfl one27 hV rfl) ?_
      refine st _ (r_xor rfl rfl) ?_
      refine st _ (r_indexArr rfl rfl u78 el27 (by omega)) ?_
      refine st_store rfl rfl one27 rfl hV (Nat.le_of_ble_eq_true rfl) ?_
      have hV0 := hV
      clear hV
      intro w14 hm hV
      replace M := M.step1 hm gV
      refine st_nil ?_
      replace hV := (arr_xr _ 255) ▸ hV
      refine c_then ?_
      refine c_seq ?_
      refine c_region ?_
      refine st _ (r_loadAll rfl (by exact agg78) hV) ?_
      refine st_call fn55 rfl (rrounds4_any _ _) ?_
      rintro e w15 ⟨rfl, hm⟩; refine ⟨_, rfl, ?_⟩
      replace hV := hV.md0 hm
      replace M := M.step0 hm
      refine st_storeAll rfl rfl (by exact agg78) (S4.arr_one _) hV (by rw [S4.arr_len, S4.arr_len]) ?_
      have hV0 := hV
      clear hV
      intro w16 hm hV
      replace M := M.step1 hm gV
      refine st_nil ?_
      refine c_then ?_
      refine c_seq ?_
      refine c_region ?_
      refine st _ (r_indexArr rfl rfl u78 el27 (by omega)) ?_
      refine st _ (r_loadBlk rfl one27 hV rfl) ?_
      refine st _ (r_indexArr rfl rfl u78 el27 (by omega)) ?_
      refine st _ (r_loadBlk rfl one27 hV rfl) ?_
      refine st _ (r_xor rfl rfl) ?_
      refine st _ (r_indexArr rfl rfl u78 el27 (by omega)) ?_
      refine st _ (r_loadBlk rfl one27 hV rfl) ?_
      refine st _ (r_xor rfl rfl) ?_
      refine st _ (r_indexArr rfl rfl u78 el27 (by omega)) ?_
      refine st _ (r_loadBlk rfl one27 hV rfl) ?_
      refine st _ (r_xor rfl rfl) ?_
      refine st _ (r_assign rfl) ?_
      refine st_nil ?_
      refine c_then ?_
      refine c_ret ?_
      rw [sipAbs_done _ _ (by simp; omega)] at habs
      exact ret1 trivial rfl rfl ⟨retI (by rw [sip, ← habs]; exact rsip_end l x.1 x.2 hk2 (by omega)), M⟩
theorem rof_any (k : Bool) (key : List UInt8) (s : Value) (l : List UInt8) (w : World) (hk : key.length = 16) (hB : By w s l) (hl : l.length ≤ 4611686018427387000) :
    Calls Try.prog 20 #[.bool k, .agg (key.map b8).toArray, s] w fun e w' => e = .returned (.int .u64 (if k then sip key l else lookup l)) ∧ Md [] w w' := by
  have M := Md.refl [] w
  refine enter (n := 13) Try.func20 rfl rfl rfl ?_
  intro B
  refine c_seq ?_
  refine c_region ?_
  refine st_box rfl rfl ?_
  intro bK w1 gK lK hm hK
  replace gK := Nat.le_trans M.size gK
  replace M := M.step0 hm
  refine st _ (r_assign rfl) ?_
  refine st_nil ?_
  refine c_then ?_
  refine c_seq ?_
  refine c_seq ?_
  refine c_region ?_
  refine st _ (r_move rfl) ?_
  refine st_nil ?_
  refine c_then ?_
  refine c_if rfl (fun h7 => ?_) (fun h7 => ?_)
  · skip
    first | (have h7n := of_decide_eq_true h7) | (have h7n := of_decide_eq_false (bnt h7)) | (have h7n := bnt h7) | (have h7n := h7)
    refine c_seq ?_
    refine c_region ?_
    refine st _ (r_loadAll rfl (by rw [(by simpa using hk : (key.map b8).length = 16)]; exact agg23) hK) ?_
    refine st _ (r_move rfl) ?_
    refine st_call fn18 rfl (rsip_any key s l _ hk (hB.md0 M) hl) ?_
    rintro e w2 ⟨rfl, hm⟩; refine ⟨_, rfl, ?_⟩
    replace hK := hK.md0 hm
    replace M := M.step0 hm
    refine st _ (r_assign rfl) ?_
    refine st_nil ?_
    refine c_then ?_
    refine c_ret ?_
    refine r_then ?_
    exact ret1 trivial rfl rfl ⟨retI (by simp_all), M⟩
  · skip
    first | (have h7n := of_decide_eq_false h7) | (have h7n := of_decide_eq_true (bnf h7)) | (have h7n := bnf h7) | (have h7n := h7)
    refine c_skip ?_
    refine c_then ?_
    refine c_seq ?_
    refine c_region ?_
    refine st _ (r_move rfl) ?_
    refine st_call fn16 rfl (rlookup_any s l _ (hB.md0 M) hl) ?_
    rintro e _ ⟨rfl, rfl⟩; refine ⟨_, rfl, ?_⟩
    refine st _ (r_assign rfl) ?_
    refine st_nil ?_
    refine c_then ?_
    refine c_ret ?_
    exact ret1 trivial rfl rfl ⟨retI (by simp_all), M⟩
end Go.Proofs.Ytimakajeggeebaa
