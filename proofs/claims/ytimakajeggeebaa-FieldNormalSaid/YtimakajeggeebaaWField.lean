/- Walks of functions: what each call returns. -/
import Derived.Test.YtimakajeggeebaaRows
import Derived.Test.YtimakajeggeebaaDraws
import Derived.Test.YtimakajeggeebaaFieldP
namespace Go.Proofs.Ytimakajeggeebaa
open Go Go.Wk Go.RowKit
attribute [local irreducible] wpList wpQuiet wpStill wpMix Code.wp Calls bodyPost
theorem agg44 : isAggN Try.prog 44 2 = true := by kernel_rfl
theorem el5 : elemIs Try.prog 5 1 = true := by kernel_rfl
theorem elT5 : elT Try.prog 5 1 1 = true := by kernel_rfl
theorem fn37 : isFn Try.prog 37 = true := by kernel_rfl
theorem fn62 : isFn Try.prog 62 = true := by kernel_rfl
theorem fn63 : isFn Try.prog 63 = true := by kernel_rfl
theorem fn81 : isFn Try.prog 81 = true := by kernel_rfl
theorem fn96 : isFn Try.prog 96 = true := by kernel_rfl
theorem mixed : Try.prog.follows .mixedOrders = true := by kernel_rfl
theorem off44_0 : fieldOff Try.prog 44 0 = some 0 := by kernel_rfl
theorem off44_1 : fieldOff Try.prog 44 1 = some 1 := by kernel_rfl
theorem one5 : isOne Try.prog 5 = true := by kernel_rfl
theorem one9 : isOne Try.prog 9 = true := by kernel_rfl
theorem pl44 : bplace Try.prog 44 = some [(0, 1), (1, 1)] := by kernel_rfl
theorem u25 : Try.prog.underlying 25 = some (.slice 5) := by kernel_rfl
theorem u5 : Try.prog.underlying 5 = some (.int .u8) := by kernel_rfl
theorem u9 : Try.prog.underlying 9 = some (.string) := by kernel_rfl
theorem z44 : zcells Try.prog 44 = some [.string ByteArray.empty, .string ByteArray.empty] := by kernel_rfl

theorem ixb_run {w : World} {v : Value} {s : List UInt8} (hB : By w v s) (c : UInt8) : (callFunc 127 #[v, b8 c]).run Try.prog w = .ok (.value (.int .i64 (Lib.indexByte s c))) w := by
  rw [run_callFunc_extern (fn := Try.f127) (by kernel_rfl) (by kernel_rfl) (by kernel_rfl) (by kernel_rfl) (e := Extern.BytealgIndexByte.indexByte) (by kernel_rfl), run_ixb hB c]; rfl

theorem ixb_any (v : Value) (l : List UInt8) (c : UInt8) (w : World) (hB : By w v l) :
    Calls Try.prog 96 #[v, b8 c] w fun e w' => e = .returned (.int .i64 (Lib.indexByte l c)) ∧ w = w' := by
  have M := Md.refl [] w
  refine enter (n := 8) Try.func96 rfl rfl rfl ?_
  intro B
  refine c_seq ?_
  refine c_region ?_
  refine st _ (r_assign rfl) ?_
  refine st_nil ?_
  refine c_then ?_
  refine c_seq ?_
  refine c_region ?_
  refine st _ (r_move rfl) ?_
  refine st _ (r_move rfl) ?_
  refine st _ (r_callX rfl (ixb_run hB c)) ?_
  refine st _ (r_assign rfl) ?_
  refine st_nil ?_
  refine c_then ?_
  refine c_ret ?_
  exact ret1 trivial rfl rfl ⟨rfl, rfl⟩
theorem index1_any (v u : Value) (l : List UInt8) (c : UInt8) (w : World) (hB : By w v l) (hU : By w u [c]) :
    Calls Try.prog 81 #[v, u] w fun e w' => e = .returned (.int .i64 (Lib.indexByte l c)) ∧ w = w' := by
  have hc : [c].length = 1 := rfl
  have M := Md.refl [] w
  refine enter (n := 200) Try.func81 rfl rfl rfl ?_
  intro B
  refine c_seq ?_
  refine c_region ?_
  refine st _ (r_assign rfl) ?_
  refine st_nil ?_
  refine c_then ?_
  refine c_seq ?_
  refine c_region ?_
  refine st _ (r_move rfl) ?_
  refine st _ (r_len rfl u25 hU.shp) ?_
  refine st _ (r_assign rfl) ?_
  refine st_nil ?_
  refine c_then ?_
  refine c_seq ?_
  refine c_block ?_
  refine c_seq ?_
  refine c_region ?_
  refine st _ (r_move rfl) ?_
  refine st _ (r_eq rfl rfl) ?_
  refine st _ (r_assign rfl) ?_
  refine st_nil ?_
  refine c_then ?_
  refine c_if rfl (fun h22 => ?_) (fun h22 => ?_)
  · skip
    first | (have h22n := of_decide_eq_true h22) | (have h22n := of_decide_eq_false (bnt h22)) | (have h22n := bnt h22) | (have h22n := h22)
    exfalso; omega
  · skip
    first | (have h22n := of_decide_eq_false h22) | (have h22n := of_decide_eq_true (bnf h22)) | (have h22n := bnf h22) | (have h22n := h22)
    refine c_seq ?_
    refine c_region ?_
    refine st _ (r_move rfl) ?_
    refine st _ (r_eq rfl rfl) ?_
    refine st _ (r_assign rfl) ?_
    refine st_nil ?_
    refine c_then ?_
    refine c_if rfl (fun h25 => ?_) (fun h25 => ?_)
    · skip
      first | (have h25n := of_decide_eq_true h25) | (have h25n := of_decide_eq_false (bnt h25)) | (have h25n := bnt h25) | (have h25n := h25)
      refine c_seq ?_
      refine c_region ?_
      refine st _ (r_move rfl) ?_
      refine st _ (r_move rfl) ?_
      refine st _ (r_index rfl rfl u25 el5 hU.shp (by omega)) ?_
      refine st _ (r_loadB rfl one5 hU (by omega)) ?_
      refine st_call fn96 rfl (ixb_any v l c _ hB) ?_
      rintro e _ ⟨rfl, rfl⟩; refine ⟨_, rfl, ?_⟩
      refine st _ (r_assign rfl) ?_
      refine st_nil ?_
      refine c_then ?_
      refine c_ret ?_
      refine r_block ?_
      refine r_then ?_
      exact ret1 trivial rfl rfl ⟨rfl, rfl⟩
    · skip
      first | (have h25n := of_decide_eq_false h25) | (have h25n := of_decide_eq_true (bnf h25)) | (have h25n := bnf h25) | (have h25n := h25)
      exfalso; omega
theorem cut_any (v u : Value) (l : List UInt8) (c : UInt8) (w : World) (hB : By w v l) (hU : By w u [c]) :
    Calls Try.prog 63 #[v, u] w fun e w' => ∃ x y b, e = .returned (.tuple #[x, y, .bool b]) ∧ Md [] w w' ∧ (b = true → 0 ≤ Lib.indexByte l c ∧ By w' x (l.take (Lib.indexByte l c).toNat) ∧ By w' y (l.drop ((Lib.indexByte l c).toNat + 1))) ∧ (b = false → Lib.indexByte l c < 0) := by
  have hc : [c].length = 1 := rfl
  have hlen := hB.len63
  have M := Md.refl [] w
  refine enter (n := 23) Try.func63 rfl rfl rfl ?_
  intro B
  refine c_seq ?_
  refine c_region ?_
  refine st _ (r_assign rfl) ?_
  refine st _ (r_assign rfl) ?_
  refine st _ (r_assign rfl) ?_
  refine st_nil ?_
  refine c_then ?_
  refine c_seq ?_
  refine c_seq ?_
  refine c_region ?_
  refine st _ (r_move rfl) ?_
  refine st _ (r_move rfl) ?_
  refine st_call fn81 rfl (index1_any v u l c _ hB hU) ?_
  rintro e _ ⟨rfl, rfl⟩; refine ⟨_, rfl, ?_⟩
  obtain ⟨q, hq⟩ : ∃ q, q = Lib.indexByte l c := ⟨_, rfl⟩
  rw [← hq]
  refine st _ (r_assign rfl) ?_
  refine st_nil ?_
  refine c_then ?_
  refine c_seq ?_
  refine c_region ?_
  refine st _ (r_move rfl) ?_
  refine st _ (r_ge rfl rfl) ?_
  refine st_nil ?_
  refine c_then ?_
  refine c_if rfl (fun h12 => ?_) (fun h12 => ?_)
  · skip
    first | (have h12n := of_decide_eq_true h12) | (have h12n := of_decide_eq_false (bnt h12)) | (have h12n := bnt h12) | (have h12n := h12)
    obtain ⟨i, rfl⟩ := Int.eq_ofNat_of_zero_le h12n
    have hil := (indexByte_lt (s := l) (c := c) (by omega)).1
    rw [← hq, Int.toNat_natCast] at hil
    refine c_seq ?_
    have M_q := M
    refine c_mix [(0, true), (1, true), (2, true), (3, true), (4, true), (5, true), (6, true), (7, true), (8, true), (9, true), (10, true), (11, true)] (fun w' => Md [] w w') mixed (by kernel_rfl) ?_
    intro w1 hm
    have MC := hm
    replace M := M.step0 hm
    refine ⟨MC, ?_⟩
    refine m _ (fun w' hc => r_move rfl) ?_
    refine m _ (fun w' hc => r_move rfl) ?_
    refine m _ (fun w' hc => r_slice 0 i u25 el5 rfl hB.shp (by omega) (by omega) rfl ⟨_, rfl⟩) ?_
    refine m _ (fun w' hc => r_move rfl) ?_
    refine m _ (fun w' hc => r_move rfl) ?_
    refine m _ (fun w' hc => r_move rfl) ?_
    refine m _ (fun w' hc => r_len rfl u25 hU.shp) ?_
    refine m _ (fun w' hc => (r_addI rfl rfl (by omega)).castI (show _ = ((i + 1 : Nat) : Int) from by simp)) ?_
    refine m _ (fun w' hc => r_slice (i + 1) l.length u25 el5 rfl hB.shp (by omega) (by omega) ⟨_, rfl⟩ rfl) ?_
    refine m _ (fun w' hc => r_assign rfl) ?_
    refine m _ (fun w' hc => r_assign rfl) ?_
    refine m _ (fun w' hc => r_assign rfl) ?_
    refine m_nil ?_
    refine c_then ?_
    refine c_ret ?_
    refine r_then ?_
    exact ret3 trivial rfl rfl rfl rfl ⟨_, _, true, rfl, M, fun _ => ⟨by omega, by rw [Int.toNat_natCast]; exact (hB.head i (by omega)).md0 M, by rw [Int.toNat_natCast]; exact (hB.tail (i + 1) (by omega)).md0 M⟩, fun h => by cases h⟩
  · skip
    first | (have h12n := of_decide_eq_false h12) | (have h12n := of_decide_eq_true (bnf h12)) | (have h12n := bnf h12) | (have h12n := h12)
    refine c_skip ?_
    refine c_then ?_
    refine c_seq ?_
    refine c_region ?_
    refine st _ (r_move rfl) ?_
    refine st _ (r_assign rfl) ?_
    refine st _ (r_assign rfl) ?_
    refine st _ (r_assign rfl) ?_
    refine st_nil ?_
    refine c_then ?_
    refine c_ret ?_
    exact ret3 trivial rfl rfl rfl rfl ⟨_, _, false, rfl, M, fun h => (by cases h), fun _ => by omega⟩
theorem name_any (s : List UInt8) (w : World) : Calls Try.prog 37 #[str s] w fun e w' => e = .returned (.bool (isName s)) ∧ w = w' := by
  have M := Md.refl [] w
  refine enter (n := 51) Try.func37 rfl rfl rfl ?_
  intro B
  refine c_seq ?_
  refine c_region ?_
  refine st _ (r_assign rfl) ?_
  refine st_nil ?_
  refine c_then ?_
  refine c_seq ?_
  refine c_seq ?_
  refine c_region ?_
  refine st _ (r_move rfl) ?_
  refine st _ (r_lenS rfl u9) ?_
  refine st _ (r_lt rfl rfl) ?_
  refine st _ (r_move rfl) ?_
  refine part_n (t := 8) rfl (fun h8 => ?_) (fun h8 => ?_)
  · skip
    first | (have h8n := of_decide_eq_true h8) | (have h8n := of_decide_eq_false (bnt h8)) | (have h8n := bnt h8) | (have h8n := h8)
    refine st_skip rfl rfl rfl h8 ?_
    refine st_skip rfl rfl rfl h8 ?_
    refine st_skip rfl rfl rfl h8 ?_
    refine st _ (r_pick_t rfl h8 rfl) ?_
    refine st _ (r_move rfl) ?_
    refine st_skip rfl rfl rfl rfl ?_
    refine st_skip rfl rfl rfl rfl ?_
    refine st_skip rfl rfl rfl rfl ?_
    refine st_skip rfl rfl rfl rfl ?_
    refine st_skipU rfl rfl rfl ?_
    refine st_skipU rfl rfl rfl ?_
    refine st_skipU rfl rfl rfl ?_
    refine st_skip rfl rfl rfl rfl ?_
    refine st _ (r_pick_t rfl rfl rfl) ?_
    refine st_nil ?_
    refine c_then ?_
    refine c_if_t rfl rfl ?_
    refine c_seq ?_
    refine c_region ?_
    refine st _ (r_assign rfl) ?_
    refine st_nil ?_
    refine c_then ?_
    refine c_ret ?_
    refine r_then ?_
    exact ret1 trivial rfl rfl ⟨retB (by cases hh : isName s with | false => rfl | true => (exfalso; have hl := name_len hh; have hd := name_dig hh; omega)), rfl⟩
  · skip
    first | (have h8n := of_decide_eq_false h8) | (have h8n := of_decide_eq_true (bnf h8)) | (have h8n := bnf h8) | (have h8n := h8)
    refine st_g _ rfl rfl rfl h8 (r_move rfl) ?_
    refine st_g _ rfl rfl rfl h8 (r_lenS rfl u9) ?_
    refine st_g _ rfl rfl rfl h8 (r_gt rfl rfl) ?_
    refine st _ (r_pick_f rfl h8 rfl) ?_
    refine st _ (r_move rfl) ?_
    refine part_n (t := 13) rfl (fun h13 => ?_) (fun h13 => ?_)
    · skip
      first | (have h13n := of_decide_eq_true h13) | (have h13n := of_decide_eq_false (bnt h13)) | (have h13n := bnt h13) | (have h13n := h13)
      refine st_skip rfl rfl rfl h13 ?_
      refine st_skip rfl rfl rfl h13 ?_
      refine st_skip rfl rfl rfl h13 ?_
      refine st_skip rfl rfl rfl h13 ?_
      refine st_skipU rfl rfl rfl ?_
      refine st_skipU rfl rfl rfl ?_
      refine st_skipU rfl rfl rfl ?_
      refine st_skip rfl rfl rfl h13 ?_
      refine st _ (r_pick_t rfl h13 rfl) ?_
      refine st_nil ?_
      refine c_then ?_
      refine c_if_t rfl rfl ?_
      refine c_seq ?_
      refine c_region ?_
      refine st _ (r_assign rfl) ?_
      refine st_nil ?_
      refine c_then ?_
      refine c_ret ?_
      refine r_then ?_
      exact ret1 trivial rfl rfl ⟨retB (by cases hh : isName s with | false => rfl | true => (exfalso; have hl := name_len hh; have hd := name_dig hh; omega)), rfl⟩
    · skip
      first | (have h13n := of_decide_eq_false h13) | (have h13n := of_decide_eq_true (bnf h13)) | (have h13n := bnf h13) | (have h13n := h13)
      refine st_g _ rfl rfl rfl h13 (r_move rfl) ?_
      refine st_g (b8 (s.getD 0 0)) rfl rfl rfl h13 (r_idxSN (s := s) (i := 0) rfl rfl u9 (by omega)) ?_
      refine st_g _ rfl rfl rfl h13 (r_ge rfl rfl) ?_
      refine st_g _ rfl rfl rfl h13 (r_move rfl) ?_
      refine part_n (t := 17) rfl (fun h17 => ?_) (fun h17 => ?_)
      · skip
        first | (have h17n := of_decide_eq_true h17) | (have h17n := of_decide_eq_false (bnt h17)) | (have h17n := bnt h17) | (have h17n := h17)
        refine st_g _ rfl rfl rfl h17 (r_move rfl) ?_
        refine st_g (b8 (s.getD 0 0)) rfl rfl rfl h17 (r_idxSN (s := s) (i := 0) rfl rfl u9 (by omega)) ?_
        refine st_g _ rfl rfl rfl h17 (r_le rfl rfl) ?_
        refine st_g _ rfl rfl rfl h13 (r_pick_t rfl h17 rfl) ?_
        refine st _ (r_pick_f rfl h13 rfl) ?_
        refine st_nil ?_
        refine c_then ?_
        refine c_if rfl (fun h22 => ?_) (fun h22 => ?_)
        · skip
          first | (have h22n := of_decide_eq_true h22) | (have h22n := of_decide_eq_false (bnt h22)) | (have h22n := bnt h22) | (have h22n := h22)
          refine c_seq ?_
          refine c_region ?_
          refine st _ (r_assign rfl) ?_
          refine st_nil ?_
          refine c_then ?_
          refine c_ret ?_
          refine r_then ?_
          exact ret1 trivial rfl rfl ⟨retB (by cases hh : isName s with | false => rfl | true => (exfalso; have hl := name_len hh; have hd := name_dig hh; omega)), rfl⟩
        · skip
          first | (have h22n := of_decide_eq_false h22) | (have h22n := of_decide_eq_true (bnf h22)) | (have h22n := bnf h22) | (have h22n := h22)
          refine c_skip ?_
          refine c_then ?_
          refine c_seq ?_
          refine c_seq ?_
          refine c_region ?_
          refine st _ (r_move rfl) ?_
          refine st _ (r_lenS rfl u9) ?_
          refine st _ (r_move rfl) ?_
          refine st_nil ?_
          refine c_then ?_
          refine c_block ?_
          refine c_loop (X := Nat) (fun i => [(0, str s), (24, .int .i64 s.length), (25, .int .i64 i)]) (fun i w' => w = w' ∧ i ≤ s.length ∧ 1 ≤ s.length ∧ s.length ≤ 64 ∧ digit (s.getD 0 0) = false ∧ ∀ j, j < i → nameC (s.getD j 0) = true) (fun i => s.length - i) 0 ?_ ?_ ?_
          · exact ⟨rfl, rfl, rfl, trivial⟩
          · exact ⟨rfl, by omega, by omega, by omega, by unfold digit; exact decide_eq_false (by omega), fun j hj => by omega⟩
          · clear M
            rintro i B w1 ⟨rfl, hi, h1, h2, h3, h4⟩
            have M := Md.refl [] w
            refine c_seq ?_
            refine c_region ?_
            refine st _ (r_lt rfl rfl) ?_
            refine st_nil ?_
            refine c_then ?_
            refine c_seq ?_
            refine c_if rfl (fun h26 => ?_) (fun h26 => ?_)
            · skip
              first | (have h26n := of_decide_eq_true h26) | (have h26n := of_decide_eq_false (bnt h26)) | (have h26n := bnt h26) | (have h26n := h26)
              refine c_skip ?_
              refine c_then ?_
              refine c_seq ?_
              refine c_block ?_
              refine c_seq ?_
              refine c_region ?_
              refine st _ (r_move rfl) ?_
              refine st _ (r_assign rfl) ?_
              refine st_nil ?_
              refine c_then ?_
              refine c_seq ?_
              refine c_region ?_
              refine st _ (r_move rfl) ?_
              refine st _ (r_move rfl) ?_
              refine st _ (r_idxSN rfl rfl u9 (by omega)) ?_
              refine st _ (r_assign rfl) ?_
              refine st_nil ?_
              refine c_then ?_
              refine c_seq ?_
              refine c_region ?_
              refine st _ (r_move rfl) ?_
              refine st _ (r_ge rfl rfl) ?_
              refine st _ (r_move rfl) ?_
              refine part_n (t := 33) rfl (fun h33 => ?_) (fun h33 => ?_)
              · skip
                first | (have h33n := of_decide_eq_true h33) | (have h33n := of_decide_eq_false (bnt h33)) | (have h33n := bnt h33) | (have h33n := h33)
                refine st_g _ rfl rfl rfl h33 (r_move rfl) ?_
                refine st_g _ rfl rfl rfl h33 (r_le rfl rfl) ?_
                refine st _ (r_pick_t rfl h33 rfl) ?_
                refine st _ (r_move rfl) ?_
                refine part_n (t := 37) rfl (fun h37 => ?_) (fun h37 => ?_)
                · skip
                  first | (have h37n := of_decide_eq_true h37) | (have h37n := of_decide_eq_false (bnt h37)) | (have h37n := bnt h37) | (have h37n := h37)
                  refine st_skip rfl rfl rfl h37 ?_
                  refine st_skip rfl rfl rfl h37 ?_
                  refine st_skip rfl rfl rfl h37 ?_
                  refine st_skipU rfl rfl rfl ?_
                  refine st_skipU rfl rfl rfl ?_
                  refine st_skip rfl rfl rfl h37 ?_
                  refine st _ (r_pick_t rfl h37 rfl) ?_
                  refine st _ (r_move rfl) ?_
                  refine st_skip rfl rfl rfl rfl ?_
                  refine st_skip rfl rfl rfl rfl ?_
                  refine st _ (r_pick_t rfl rfl rfl) ?_
                  refine st _ (r_not rfl) ?_
                  refine st_nil ?_
                  refine c_then ?_
                  refine c_if_f rfl rfl ?_
                  refine c_skip ?_
                  refine n_block ?_
                  refine c_then ?_
                  refine c_region ?_
                  refine st _ (r_addI rfl rfl (by omega)) ?_
                  refine st _ (r_move rfl) ?_
                  refine st_nil ?_
                  refine c_then ?_
                  refine next (i + 1) (by omega) ⟨rfl, rfl, fitI rfl (by simp), trivial⟩ ?_
                  exact ⟨rfl, by omega, h1, h2, h3, fun j hj => by
                    rcases Nat.lt_or_eq_of_le (Nat.le_of_lt_succ hj) with h | h
                    · exact h4 j h
                    · subst h; unfold nameC; exact decide_eq_true (by omega)⟩
                · skip
                  first | (have h37n := of_decide_eq_false h37) | (have h37n := of_decide_eq_true (bnf h37)) | (have h37n := bnf h37) | (have h37n := h37)
                  refine st_g _ rfl rfl rfl h37 (r_move rfl) ?_
                  refine st_g _ rfl rfl rfl h37 (r_ge rfl rfl) ?_
                  refine st_g _ rfl rfl rfl h37 (r_move rfl) ?_
                  refine part_n (t := 40) rfl (fun h40 => ?_) (fun h40 => ?_)
                  · skip
                    first | (have h40n := of_decide_eq_true h40) | (have h40n := of_decide_eq_false (bnt h40)) | (have h40n := bnt h40) | (have h40n := h40)
                    refine st_g _ rfl rfl rfl h40 (r_move rfl) ?_
                    refine st_g _ rfl rfl rfl h40 (r_le rfl rfl) ?_
                    refine st_g _ rfl rfl rfl h37 (r_pick_t rfl h40 rfl) ?_
                    refine st _ (r_pick_f rfl h37 rfl) ?_
                    refine st _ (r_move rfl) ?_
                    refine part_n (t := 45) rfl (fun h45 => ?_) (fun h45 => ?_)
                    · skip
                      first | (have h45n := of_decide_eq_true h45) | (have h45n := of_decide_eq_false (bnt h45)) | (have h45n := bnt h45) | (have h45n := h45)
                      refine st_skip rfl rfl rfl h45 ?_
                      refine st_skip rfl rfl rfl h45 ?_
                      refine st _ (r_pick_t rfl h45 rfl) ?_
                      refine st _ (r_not rfl) ?_
                      refine st_nil ?_
                      refine c_then ?_
                      refine c_if_f rfl rfl ?_
                      refine c_skip ?_
                      refine n_block ?_
                      refine c_then ?_
                      refine c_region ?_
                      refine st _ (r_addI rfl rfl (by omega)) ?_
                      refine st _ (r_move rfl) ?_
                      refine st_nil ?_
                      refine c_then ?_
                      refine next (i + 1) (by omega) ⟨rfl, rfl, fitI rfl (by simp), trivial⟩ ?_
                      exact ⟨rfl, by omega, h1, h2, h3, fun j hj => by
                        rcases Nat.lt_or_eq_of_le (Nat.le_of_lt_succ hj) with h | h
                        · exact h4 j h
                        · subst h; unfold nameC; exact decide_eq_true (by omega)⟩
                    · skip
                      first | (have h45n := of_decide_eq_false h45) | (have h45n := of_decide_eq_true (bnf h45)) | (have h45n := bnf h45) | (have h45n := h45)
                      refine st_g _ rfl rfl rfl h45 (r_move rfl) ?_
                      refine st_g _ rfl rfl rfl h45 (r_eq rfl rfl) ?_
                      refine st _ (r_pick_f rfl h45 rfl) ?_
                      refine st _ (r_not rfl) ?_
                      refine st_nil ?_
                      refine c_then ?_
                      refine c_if rfl (fun h49 => ?_) (fun h49 => ?_)
                      · skip
                        first | (have h49n := of_decide_eq_true h49) | (have h49n := of_decide_eq_false (bnt h49)) | (have h49n := bnt h49) | (have h49n := h49)
                        refine c_seq ?_
                        refine c_region ?_
                        refine st _ (r_assign rfl) ?_
                        refine st_nil ?_
                        refine c_then ?_
                        refine c_ret ?_
                        refine r_block ?_
                        refine r_then ?_
                        refine r_then ?_
                        refine r_block ?_
                        refine r_then ?_
                        exact ret1 trivial rfl rfl ⟨retB (by cases hh : isName s with | false => rfl | true => (exfalso; have hl := name_len hh; have hd := name_dig hh; have ha := name_at hh i (by omega); omega)), rfl⟩
                      · skip
                        first | (have h49n := of_decide_eq_false h49) | (have h49n := of_decide_eq_true (bnf h49)) | (have h49n := bnf h49) | (have h49n := h49)
                        refine c_skip ?_
                        refine n_block ?_
                        refine c_then ?_
                        refine c_region ?_
                        refine st _ (r_addI rfl rfl (by omega)) ?_
                        refine st _ (r_move rfl) ?_
                        refine st_nil ?_
                        refine c_then ?_
                        refine next (i + 1) (by omega) ⟨rfl, rfl, fitI rfl (by simp), trivial⟩ ?_
                        exact ⟨rfl, by omega, h1, h2, h3, fun j hj => by
                          rcases Nat.lt_or_eq_of_le (Nat.le_of_lt_succ hj) with h | h
                          · exact h4 j h
                          · subst h; unfold nameC; exact decide_eq_true (by omega)⟩
                  · skip
                    first | (have h40n := of_decide_eq_false h40) | (have h40n := of_decide_eq_true (bnf h40)) | (have h40n := bnf h40) | (have h40n := h40)
                    refine st_skip rfl rfl rfl h40 ?_
                    refine st_skip rfl rfl rfl h40 ?_
                    refine st_g _ rfl rfl rfl h37 (r_pick_f rfl h40 rfl) ?_
                    refine st _ (r_pick_f rfl h37 rfl) ?_
                    refine st _ (r_move rfl) ?_
                    refine st_g _ rfl rfl rfl rfl (r_move rfl) ?_
                    refine st_g _ rfl rfl rfl rfl (r_eq rfl rfl) ?_
                    refine st _ (r_pick_f rfl rfl rfl) ?_
                    refine st _ (r_not rfl) ?_
                    refine st_nil ?_
                    refine c_then ?_
                    refine c_if rfl (fun h49 => ?_) (fun h49 => ?_)
                    · skip
                      first | (have h49n := of_decide_eq_true h49) | (have h49n := of_decide_eq_false (bnt h49)) | (have h49n := bnt h49) | (have h49n := h49)
                      refine c_seq ?_
                      refine c_region ?_
                      refine st _ (r_assign rfl) ?_
                      refine st_nil ?_
                      refine c_then ?_
                      refine c_ret ?_
                      refine r_block ?_
                      refine r_then ?_
                      refine r_then ?_
                      refine r_block ?_
                      refine r_then ?_
                      exact ret1 trivial rfl rfl ⟨retB (by cases hh : isName s with | false => rfl | true => (exfalso; have hl := name_len hh; have hd := name_dig hh; have ha := name_at hh i (by omega); omega)), rfl⟩
                    · skip
                      first | (have h49n := of_decide_eq_false h49) | (have h49n := of_decide_eq_true (bnf h49)) | (have h49n := bnf h49) | (have h49n := h49)
                      refine c_skip ?_
                      refine n_block ?_
                      refine c_then ?_
                      refine c_region ?_
                      refine st _ (r_addI rfl rfl (by omega)) ?_
                      refine st _ (r_move rfl) ?_
                      refine st_nil ?_
                      refine c_then ?_
                      refine next (i + 1) (by omega) ⟨rfl, rfl, fitI rfl (by simp), trivial⟩ ?_
                      exact ⟨rfl, by omega, h1, h2, h3, fun j hj => by
                        rcases Nat.lt_or_eq_of_le (Nat.le_of_lt_succ hj) with h | h
                        · exact h4 j h
                        · subst h; unfold nameC; exact decide_eq_true (by omega)⟩
              · skip
                first | (have h33n := of_decide_eq_false h33) | (have h33n := of_decide_eq_true (bnf h33)) | (have h33n := bnf h33) | (have h33n := h33)
                refine st_skip rfl rfl rfl h33 ?_
                refine st_skip rfl rfl rfl h33 ?_
                refine st _ (r_pick_f rfl h33 rfl) ?_
                refine st _ (r_move rfl) ?_
                refine st_g _ rfl rfl rfl rfl (r_move rfl) ?_
                refine st_g _ rfl rfl rfl rfl (r_ge rfl rfl) ?_
                refine st_g _ rfl rfl rfl rfl (r_move rfl) ?_
                refine part_n (t := 40) rfl (fun h40 => ?_) (fun h40 => ?_)
                · skip
                  first | (have h40n := of_decide_eq_true h40) | (have h40n := of_decide_eq_false (bnt h40)) | (have h40n := bnt h40) | (have h40n := h40)
                  refine st_g _ rfl rfl rfl h40 (r_move rfl) ?_
                  refine st_g _ rfl rfl rfl h40 (r_le rfl rfl) ?_
                  refine st_g _ rfl rfl rfl rfl (r_pick_t rfl h40 rfl) ?_
                  refine st _ (r_pick_f rfl rfl rfl) ?_
                  refine st _ (r_move rfl) ?_
                  refine part_n (t := 45) rfl (fun h45 => ?_) (fun h45 => ?_)
                  · skip
                    first | (have h45n := of_decide_eq_true h45) | (have h45n := of_decide_eq_false (bnt h45)) | (have h45n := bnt h45) | (have h45n := h45)
                    refine st_skip rfl rfl rfl h45 ?_
                    refine st_skip rfl rfl rfl h45 ?_
                    refine st _ (r_pick_t rfl h45 rfl) ?_
                    refine st _ (r_not rfl) ?_
                    refine st_nil ?_
                    refine c_then ?_
                    refine c_if_f rfl rfl ?_
                    refine c_skip ?_
                    refine n_block ?_
                    refine c_then ?_
                    refine c_region ?_
                    refine st _ (r_addI rfl rfl (by omega)) ?_
                    refine st _ (r_move rfl) ?_
                    refine st_nil ?_
                    refine c_then ?_
                    refine next (i + 1) (by omega) ⟨rfl, rfl, fitI rfl (by simp), trivial⟩ ?_
                    exact ⟨rfl, by omega, h1, h2, h3, fun j hj => by
                      rcases Nat.lt_or_eq_of_le (Nat.le_of_lt_succ hj) with h | h
                      · exact h4 j h
                      · subst h; unfold nameC; exact decide_eq_true (by omega)⟩
                  · skip
                    first | (have h45n := of_decide_eq_false h45) | (have h45n := of_decide_eq_true (bnf h45)) | (have h45n := bnf h45) | (have h45n := h45)
                    refine st_g _ rfl rfl rfl h45 (r_move rfl) ?_
                    refine st_g _ rfl rfl rfl h45 (r_eq rfl rfl) ?_
                    refine st _ (r_pick_f rfl h45 rfl) ?_
                    refine st _ (r_not rfl) ?_
                    refine st_nil ?_
                    refine c_then ?_
                    refine c_if rfl (fun h49 => ?_) (fun h49 => ?_)
                    · skip
                      first | (have h49n := of_decide_eq_true h49) | (have h49n := of_decide_eq_false (bnt h49)) | (have h49n := bnt h49) | (have h49n := h49)
                      refine c_seq ?_
                      refine c_region ?_
                      refine st _ (r_assign rfl) ?_
                      refine st_nil ?_
                      refine c_then ?_
                      refine c_ret ?_
                      refine r_block ?_
                      refine r_then ?_
                      refine r_then ?_
                      refine r_block ?_
                      refine r_then ?_
                      exact ret1 trivial rfl rfl ⟨retB (by cases hh : isName s with | false => rfl | true => (exfalso; have hl := name_len hh; have hd := name_dig hh; have ha := name_at hh i (by omega); omega)), rfl⟩
                    · skip
                      first | (have h49n := of_decide_eq_false h49) | (have h49n := of_decide_eq_true (bnf h49)) | (have h49n := bnf h49) | (have h49n := h49)
                      refine c_skip ?_
                      refine n_block ?_
                      refine c_then ?_
                      refine c_region ?_
                      refine st _ (r_addI rfl rfl (by omega)) ?_
                      refine st _ (r_move rfl) ?_
                      refine st_nil ?_
                      refine c_then ?_
                      refine next (i + 1) (by omega) ⟨rfl, rfl, fitI rfl (by simp), trivial⟩ ?_
                      exact ⟨rfl, by omega, h1, h2, h3, fun j hj => by
                        rcases Nat.lt_or_eq_of_le (Nat.le_of_lt_succ hj) with h | h
                        · exact h4 j h
                        · subst h; unfold nameC; exact decide_eq_true (by omega)⟩
                · skip
                  first | (have h40n := of_decide_eq_false h40) | (have h40n := of_decide_eq_true (bnf h40)) | (have h40n := bnf h40) | (have h40n := h40)
                  refine st_skip rfl rfl rfl h40 ?_
                  refine st_skip rfl rfl rfl h40 ?_
                  refine st_g _ rfl rfl rfl rfl (r_pick_f rfl h40 rfl) ?_
                  refine st _ (r_pick_f rfl rfl rfl) ?_
                  refine st _ (r_move rfl) ?_
                  refine st_g _ rfl rfl rfl rfl (r_move rfl) ?_
                  refine st_g _ rfl rfl rfl rfl (r_eq rfl rfl) ?_
                  refine st _ (r_pick_f rfl rfl rfl) ?_
                  refine st _ (r_not rfl) ?_
                  refine st_nil ?_
                  refine c_then ?_
                  refine c_if rfl (fun h49 => ?_) (fun h49 => ?_)
                  · skip
                    first | (have h49n := of_decide_eq_true h49) | (have h49n := of_decide_eq_false (bnt h49)) | (have h49n := bnt h49) | (have h49n := h49)
                    refine c_seq ?_
                    refine c_region ?_
                    refine st _ (r_assign rfl) ?_
                    refine st_nil ?_
                    refine c_then ?_
                    refine c_ret ?_
                    refine r_block ?_
                    refine r_then ?_
                    refine r_then ?_
                    refine r_block ?_
                    refine r_then ?_
                    exact ret1 trivial rfl rfl ⟨retB (by cases hh : isName s with | false => rfl | true => (exfalso; have hl := name_len hh; have hd := name_dig hh; have ha := name_at hh i (by omega); omega)), rfl⟩
                  · skip
                    first | (have h49n := of_decide_eq_false h49) | (have h49n := of_decide_eq_true (bnf h49)) | (have h49n := bnf h49) | (have h49n := h49)
                    refine c_skip ?_
                    refine n_block ?_
                    refine c_then ?_
                    refine c_region ?_
                    refine st _ (r_addI rfl rfl (by omega)) ?_
                    refine st _ (r_move rfl) ?_
                    refine st_nil ?_
                    refine c_then ?_
                    refine next (i + 1) (by omega) ⟨rfl, rfl, fitI rfl (by simp), trivial⟩ ?_
                    exact ⟨rfl, by omega, h1, h2, h3, fun j hj => by
                      rcases Nat.lt_or_eq_of_le (Nat.le_of_lt_succ hj) with h | h
                      · exact h4 j h
                      · subst h; unfold nameC; exact decide_eq_true (by omega)⟩
            · skip
              first | (have h26n := of_decide_eq_false h26) | (have h26n := of_decide_eq_true (bnf h26)) | (have h26n := bnf h26) | (have h26n := h26)
              refine c_exit ?_
              refine x_then ?_
              refine x_then ?_
              refine x_hit ?_
              refine c_then ?_
              refine c_seq ?_
              refine c_region ?_
              refine st _ (r_assign rfl) ?_
              refine st_nil ?_
              refine c_then ?_
              refine c_ret ?_
              exact ret1 trivial rfl rfl ⟨retB (name_ok h1 h2 h3 (fun j hj => h4 j (by omega))).symm, rfl⟩
      · skip
        first | (have h17n := of_decide_eq_false h17) | (have h17n := of_decide_eq_true (bnf h17)) | (have h17n := bnf h17) | (have h17n := h17)
        refine st_skip rfl rfl rfl h17 ?_
        refine st_skip rfl rfl rfl h17 ?_
        refine st_skip rfl rfl rfl h17 ?_
        refine st_g _ rfl rfl rfl h13 (r_pick_f rfl h17 rfl) ?_
        refine st _ (r_pick_f rfl h13 rfl) ?_
        refine st_nil ?_
        refine c_then ?_
        refine c_if_f rfl rfl ?_
        refine c_skip ?_
        refine c_then ?_
        refine c_seq ?_
        refine c_seq ?_
        refine c_region ?_
        refine st _ (r_move rfl) ?_
        refine st _ (r_lenS rfl u9) ?_
        refine st _ (r_move rfl) ?_
        refine st_nil ?_
        refine c_then ?_
        refine c_block ?_
        refine c_loop (X := Nat) (fun i => [(0, str s), (24, .int .i64 s.length), (25, .int .i64 i)]) (fun i w' => w = w' ∧ i ≤ s.length ∧ 1 ≤ s.length ∧ s.length ≤ 64 ∧ digit (s.getD 0 0) = false ∧ ∀ j, j < i → nameC (s.getD j 0) = true) (fun i => s.length - i) 0 ?_ ?_ ?_
        · exact ⟨rfl, rfl, rfl, trivial⟩
        · exact ⟨rfl, by omega, by omega, by omega, by unfold digit; exact decide_eq_false (by omega), fun j hj => by omega⟩
        · clear M
          rintro i B w2 ⟨rfl, hi, h1, h2, h3, h4⟩
          have M := Md.refl [] w
          refine c_seq ?_
          refine c_region ?_
          refine st _ (r_lt rfl rfl) ?_
          refine st_nil ?_
          refine c_then ?_
          refine c_seq ?_
          refine c_if rfl (fun h26 => ?_) (fun h26 => ?_)
          · skip
            first | (have h26n := of_decide_eq_true h26) | (have h26n := of_decide_eq_false (bnt h26)) | (have h26n := bnt h26) | (have h26n := h26)
            refine c_skip ?_
            refine c_then ?_
            refine c_seq ?_
            refine c_block ?_
            refine c_seq ?_
            refine c_region ?_
            refine st _ (r_move rfl) ?_
            refine st _ (r_assign rfl) ?_
            refine st_nil ?_
            refine c_then ?_
            refine c_seq ?_
            refine c_region ?_
            refine st _ (r_move rfl) ?_
            refine st _ (r_move rfl) ?_
            refine st _ (r_idxSN rfl rfl u9 (by omega)) ?_
            refine st _ (r_assign rfl) ?_
            refine st_nil ?_
            refine c_then ?_
            refine c_seq ?_
            refine c_region ?_
            refine st _ (r_move rfl) ?_
            refine st _ (r_ge rfl rfl) ?_
            refine st _ (r_move rfl) ?_
            refine part_n (t := 33) rfl (fun h33 => ?_) (fun h33 => ?_)
            · skip
              first | (have h33n := of_decide_eq_true h33) | (have h33n := of_decide_eq_false (bnt h33)) | (have h33n := bnt h33) | (have h33n := h33)
              refine st_g _ rfl rfl rfl h33 (r_move rfl) ?_
              refine st_g _ rfl rfl rfl h33 (r_le rfl rfl) ?_
              refine st _ (r_pick_t rfl h33 rfl) ?_
              refine st _ (r_move rfl) ?_
              refine part_n (t := 37) rfl (fun h37 => ?_) (fun h37 => ?_)
              · skip
                first | (have h37n := of_decide_eq_true h37) | (have h37n := of_decide_eq_false (bnt h37)) | (have h37n := bnt h37) | (have h37n := h37)
                refine st_skip rfl rfl rfl h37 ?_
                refine st_skip rfl rfl rfl h37 ?_
                refine st_skip rfl rfl rfl h37 ?_
                refine st_skipU rfl rfl rfl ?_
                refine st_skipU rfl rfl rfl ?_
                refine st_skip rfl rfl rfl h37 ?_
                refine st _ (r_pick_t rfl h37 rfl) ?_
                refine st _ (r_move rfl) ?_
                refine st_skip rfl rfl rfl rfl ?_
                refine st_skip rfl rfl rfl rfl ?_
                refine st _ (r_pick_t rfl rfl rfl) ?_
                refine st _ (r_not rfl) ?_
                refine st_nil ?_
                refine c_then ?_
                refine c_if_f rfl rfl ?_
                refine c_skip ?_
                refine n_block ?_
                refine c_then ?_
                refine c_region ?_
                refine st _ (r_addI rfl rfl (by omega)) ?_
                refine st _ (r_move rfl) ?_
                refine st_nil ?_
                refine c_then ?_
                refine next (i + 1) (by omega) ⟨rfl, rfl, fitI rfl (by simp), trivial⟩ ?_
                exact ⟨rfl, by omega, h1, h2, h3, fun j hj => by
                  rcases Nat.lt_or_eq_of_le (Nat.le_of_lt_succ hj) with h | h
                  · exact h4 j h
                  · subst h; unfold nameC; exact decide_eq_true (by omega)⟩
              · skip
                first | (have h37n := of_decide_eq_false h37) | (have h37n := of_decide_eq_true (bnf h37)) | (have h37n := bnf h37) | (have h37n := h37)
                refine st_g _ rfl rfl rfl h37 (r_move rfl) ?_
                refine st_g _ rfl rfl rfl h37 (r_ge rfl rfl) ?_
                refine st_g _ rfl rfl rfl h37 (r_move rfl) ?_
                refine part_n (t := 40) rfl (fun h40 => ?_) (fun h40 => ?_)
                · skip
                  first | (have h40n := of_decide_eq_true h40) | (have h40n := of_decide_eq_false (bnt h40)) | (have h40n := bnt h40) | (have h40n := h40)
                  refine st_g _ rfl rfl rfl h40 (r_move rfl) ?_
                  refine st_g _ rfl rfl rfl h40 (r_le rfl rfl) ?_
                  refine st_g _ rfl rfl rfl h37 (r_pick_t rfl h40 rfl) ?_
                  refine st _ (r_pick_f rfl h37 rfl) ?_
                  refine st _ (r_move rfl) ?_
                  refine part_n (t := 45) rfl (fun h45 => ?_) (fun h45 => ?_)
                  · skip
                    first | (have h45n := of_decide_eq_true h45) | (have h45n := of_decide_eq_false (bnt h45)) | (have h45n := bnt h45) | (have h45n := h45)
                    refine st_skip rfl rfl rfl h45 ?_
                    refine st_skip rfl rfl rfl h45 ?_
                    refine st _ (r_pick_t rfl h45 rfl) ?_
                    refine st _ (r_not rfl) ?_
                    refine st_nil ?_
                    refine c_then ?_
                    refine c_if_f rfl rfl ?_
                    refine c_skip ?_
                    refine n_block ?_
                    refine c_then ?_
                    refine c_region ?_
                    refine st _ (r_addI rfl rfl (by omega)) ?_
                    refine st _ (r_move rfl) ?_
                    refine st_nil ?_
                    refine c_then ?_
                    refine next (i + 1) (by omega) ⟨rfl, rfl, fitI rfl (by simp), trivial⟩ ?_
                    exact ⟨rfl, by omega, h1, h2, h3, fun j hj => by
                      rcases Nat.lt_or_eq_of_le (Nat.le_of_lt_succ hj) with h | h
                      · exact h4 j h
                      · subst h; unfold nameC; exact decide_eq_true (by omega)⟩
                  · skip
                    first | (have h45n := of_decide_eq_false h45) | (have h45n := of_decide_eq_true (bnf h45)) | (have h45n := bnf h45) | (have h45n := h45)
                    refine st_g _ rfl rfl rfl h45 (r_move rfl) ?_
                    refine st_g _ rfl rfl rfl h45 (r_eq rfl rfl) ?_
                    refine st _ (r_pick_f rfl h45 rfl) ?_
                    refine st _ (r_not rfl) ?_
                    refine st_nil ?_
                    refine c_then ?_
                    refine c_if rfl (fun h49 => ?_) (fun h49 => ?_)
                    · skip
                      first | (have h49n := of_decide_eq_true h49) | (have h49n := of_decide_eq_false (bnt h49)) | (have h49n := bnt h49) | (have h49n := h49)
                      refine c_seq ?_
                      refine c_region ?_
                      refine st _ (r_assign rfl) ?_
                      refine st_nil ?_
                      refine c_then ?_
                      refine c_ret ?_
                      refine r_block ?_
                      refine r_then ?_
                      refine r_then ?_
                      refine r_block ?_
                      refine r_then ?_
                      exact ret1 trivial rfl rfl ⟨retB (by cases hh : isName s with | false => rfl | true => (exfalso; have hl := name_len hh; have hd := name_dig hh; have ha := name_at hh i (by omega); omega)), rfl⟩
                    · skip
                      first | (have h49n := of_decide_eq_false h49) | (have h49n := of_decide_eq_true (bnf h49)) | (have h49n := bnf h49) | (have h49n := h49)
                      refine c_skip ?_
                      refine n_block ?_
                      refine c_then ?_
                      refine c_region ?_
                      refine st _ (r_addI rfl rfl (by omega)) ?_
                      refine st _ (r_move rfl) ?_
                      refine st_nil ?_
                      refine c_then ?_
                      refine next (i + 1) (by omega) ⟨rfl, rfl, fitI rfl (by simp), trivial⟩ ?_
                      exact ⟨rfl, by omega, h1, h2, h3, fun j hj => by
                        rcases Nat.lt_or_eq_of_le (Nat.le_of_lt_succ hj) with h | h
                        · exact h4 j h
                        · subst h; unfold nameC; exact decide_eq_true (by omega)⟩
                · skip
                  first | (have h40n := of_decide_eq_false h40) | (have h40n := of_decide_eq_true (bnf h40)) | (have h40n := bnf h40) | (have h40n := h40)
                  refine st_skip rfl rfl rfl h40 ?_
                  refine st_skip rfl rfl rfl h40 ?_
                  refine st_g _ rfl rfl rfl h37 (r_pick_f rfl h40 rfl) ?_
                  refine st _ (r_pick_f rfl h37 rfl) ?_
                  refine st _ (r_move rfl) ?_
                  refine st_g _ rfl rfl rfl rfl (r_move rfl) ?_
                  refine st_g _ rfl rfl rfl rfl (r_eq rfl rfl) ?_
                  refine st _ (r_pick_f rfl rfl rfl) ?_
                  refine st _ (r_not rfl) ?_
                  refine st_nil ?_
                  refine c_then ?_
                  refine c_if rfl (fun h49 => ?_) (fun h49 => ?_)
                  · skip
                    first | (have h49n := of_decide_eq_true h49) | (have h49n := of_decide_eq_false (bnt h49)) | (have h49n := bnt h49) | (have h49n := h49)
                    refine c_seq ?_
                    refine c_region ?_
                    refine st _ (r_assign rfl) ?_
                    refine st_nil ?_
                    refine c_then ?_
                    refine c_ret ?_
                    refine r_block ?_
                    refine r_then ?_
                    refine r_then ?_
                    refine r_block ?_
                    refine r_then ?_
                    exact ret1 trivial rfl rfl ⟨retB (by cases hh : isName s with | false => rfl | true => (exfalso; have hl := name_len hh; have hd := name_dig hh; have ha := name_at hh i (by omega); omega)), rfl⟩
                  · skip
                    first | (have h49n := of_decide_eq_false h49) | (have h49n := of_decide_eq_true (bnf h49)) | (have h49n := bnf h49) | (have h49n := h49)
                    refine c_skip ?_
                    refine n_block ?_
                    refine c_then ?_
                    refine c_region ?_
                    refine st _ (r_addI rfl rfl (by omega)) ?_
                    refine st _ (r_move rfl) ?_
                    refine st_nil ?_
                    refine c_then ?_
                    refine next (i + 1) (by omega) ⟨rfl, rfl, fitI rfl (by simp), trivial⟩ ?_
                    exact ⟨rfl, by omega, h1, h2, h3, fun j hj => by
                      rcases Nat.lt_or_eq_of_le (Nat.le_of_lt_succ hj) with h | h
                      · exact h4 j h
                      · subst h; unfold nameC; exact decide_eq_true (by omega)⟩
            · skip
              first | (have h33n := of_decide_eq_false h33) | (have h33n := of_decide_eq_true (bnf h33)) | (have h33n := bnf h33) | (have h33n := h33)
              refine st_skip rfl rfl rfl h33 ?_
              refine st_skip rfl rfl rfl h33 ?_
              refine st _ (r_pick_f rfl h33 rfl) ?_
              refine st _ (r_move rfl) ?_
              refine st_g _ rfl rfl rfl rfl (r_move rfl) ?_
              refine st_g _ rfl rfl rfl rfl (r_ge rfl rfl) ?_
              refine st_g _ rfl rfl rfl rfl (r_move rfl) ?_
              refine part_n (t := 40) rfl (fun h40 => ?_) (fun h40 => ?_)
              · skip
                first | (have h40n := of_decide_eq_true h40) | (have h40n := of_decide_eq_false (bnt h40)) | (have h40n := bnt h40) | (have h40n := h40)
                refine st_g _ rfl rfl rfl h40 (r_move rfl) ?_
                refine st_g _ rfl rfl rfl h40 (r_le rfl rfl) ?_
                refine st_g _ rfl rfl rfl rfl (r_pick_t rfl h40 rfl) ?_
                refine st _ (r_pick_f rfl rfl rfl) ?_
                refine st _ (r_move rfl) ?_
                refine part_n (t := 45) rfl (fun h45 => ?_) (fun h45 => ?_)
                · skip
                  first | (have h45n := of_decide_eq_true h45) | (have h45n := of_decide_eq_false (bnt h45)) | (have h45n := bnt h45) | (have h45n := h45)
                  refine st_skip rfl rfl rfl h45 ?_
                  refine st_skip rfl rfl rfl h45 ?_
                  refine st _ (r_pick_t rfl h45 rfl) ?_
                  refine st _ (r_not rfl) ?_
                  refine st_nil ?_
                  refine c_then ?_
                  refine c_if_f rfl rfl ?_
                  refine c_skip ?_
                  refine n_block ?_
                  refine c_then ?_
                  refine c_region ?_
                  refine st _ (r_addI rfl rfl (by omega)) ?_
                  refine st _ (r_move rfl) ?_
                  refine st_nil ?_
                  refine c_then ?_
                  refine next (i + 1) (by omega) ⟨rfl, rfl, fitI rfl (by simp), trivial⟩ ?_
                  exact ⟨rfl, by omega, h1, h2, h3, fun j hj => by
                    rcases Nat.lt_or_eq_of_le (Nat.le_of_lt_succ hj) with h | h
                    · exact h4 j h
                    · subst h; unfold nameC; exact decide_eq_true (by omega)⟩
                · skip
                  first | (have h45n := of_decide_eq_false h45) | (have h45n := of_decide_eq_true (bnf h45)) | (have h45n := bnf h45) | (have h45n := h45)
                  refine st_g _ rfl rfl rfl h45 (r_move rfl) ?_
                  refine st_g _ rfl rfl rfl h45 (r_eq rfl rfl) ?_
                  refine st _ (r_pick_f rfl h45 rfl) ?_
                  refine st _ (r_not rfl) ?_
                  refine st_nil ?_
                  refine c_then ?_
                  refine c_if rfl (fun h49 => ?_) (fun h49 => ?_)
                  · skip
                    first | (have h49n := of_decide_eq_true h49) | (have h49n := of_decide_eq_false (bnt h49)) | (have h49n := bnt h49) | (have h49n := h49)
                    refine c_seq ?_
                    refine c_region ?_
                    refine st _ (r_assign rfl) ?_
                    refine st_nil ?_
                    refine c_then ?_
                    refine c_ret ?_
                    refine r_block ?_
                    refine r_then ?_
                    refine r_then ?_
                    refine r_block ?_
                    refine r_then ?_
                    exact ret1 trivial rfl rfl ⟨retB (by cases hh : isName s with | false => rfl | true => (exfalso; have hl := name_len hh; have hd := name_dig hh; have ha := name_at hh i (by omega); omega)), rfl⟩
                  · skip
                    first | (have h49n := of_decide_eq_false h49) | (have h49n := of_decide_eq_true (bnf h49)) | (have h49n := bnf h49) | (have h49n := h49)
                    refine c_skip ?_
                    refine n_block ?_
                    refine c_then ?_
                    refine c_region ?_
                    refine st _ (r_addI rfl rfl (by omega)) ?_
                    refine st _ (r_move rfl) ?_
                    refine st_nil ?_
                    refine c_then ?_
                    refine next (i + 1) (by omega) ⟨rfl, rfl, fitI rfl (by simp), trivial⟩ ?_
                    exact ⟨rfl, by omega, h1, h2, h3, fun j hj => by
                      rcases Nat.lt_or_eq_of_le (Nat.le_of_lt_succ hj) with h | h
                      · exact h4 j h
                      · subst h; unfold nameC; exact decide_eq_true (by omega)⟩
              · skip
                first | (have h40n := of_decide_eq_false h40) | (have h40n := of_decide_eq_true (bnf h40)) | (have h40n := bnf h40) | (have h40n := h40)
                refine st_skip rfl rfl rfl h40 ?_
                refine st_skip rfl rfl rfl h40 ?_
                refine st_g _ rfl rfl rfl rfl (r_pick_f rfl h40 rfl) ?_
                refine st _ (r_pick_f rfl rfl rfl) ?_
                refine st _ (r_move rfl) ?_
                refine st_g _ rfl rfl rfl rfl (r_move rfl) ?_
                refine st_g _ rfl rfl rfl rfl (r_eq rfl rfl) ?_
                refine st _ (r_pick_f rfl rfl rfl) ?_
                refine st _ (r_not rfl) ?_
                refine st_nil ?_
                refine c_then ?_
                refine c_if rfl (fun h49 => ?_) (fun h49 => ?_)
                · skip
                  first | (have h49n := of_decide_eq_true h49) | (have h49n := of_decide_eq_false (bnt h49)) | (have h49n := bnt h49) | (have h49n := h49)
                  refine c_seq ?_
                  refine c_region ?_
                  refine st _ (r_assign rfl) ?_
                  refine st_nil ?_
                  refine c_then ?_
                  refine c_ret ?_
                  refine r_block ?_
                  refine r_then ?_
                  refine r_then ?_
                  refine r_block ?_
                  refine r_then ?_
                  exact ret1 trivial rfl rfl ⟨retB (by cases hh : isName s with | false => rfl | true => (exfalso; have hl := name_len hh; have hd := name_dig hh; have ha := name_at hh i (by omega); omega)), rfl⟩
                · skip
                  first | (have h49n := of_decide_eq_false h49) | (have h49n := of_decide_eq_true (bnf h49)) | (have h49n := bnf h49) | (have h49n := h49)
                  refine c_skip ?_
                  refine n_block ?_
                  refine c_then ?_
                  refine c_region ?_
                  refine st _ (r_addI rfl rfl (by omega)) ?_
                  refine st _ (r_move rfl) ?_
                  refine st_nil ?_
                  refine c_then ?_
                  refine next (i + 1) (by omega) ⟨rfl, rfl, fitI rfl (by simp), trivial⟩ ?_
                  exact ⟨rfl, by omega, h1, h2, h3, fun j hj => by
                    rcases Nat.lt_or_eq_of_le (Nat.le_of_lt_succ hj) with h | h
                    · exact h4 j h
                    · subst h; unfold nameC; exact decide_eq_true (by omega)⟩
          · skip
            first | (have h26n := of_decide_eq_false h26) | (have h26n := of_decide_eq_true (bnf h26)) | (have h26n := bnf h26) | (have h26n := h26)
            refine c_exit ?_
            refine x_then ?_
            refine x_then ?_
            refine x_hit ?_
            refine c_then ?_
            refine c_seq ?_
            refine c_region ?_
            refine st _ (r_assign rfl) ?_
            refine st_nil ?_
            refine c_then ?_
            refine c_ret ?_
            exact ret1 trivial rfl rfl ⟨retB (name_ok h1 h2 h3 (fun j hj => h4 j (by omega))).symm, rfl⟩
theorem whole_any (p : PairB) (w : World) (hl : p.1.length + p.2.length ≤ 4611686018427387904) : Calls Try.prog 62 #[pairv p] w fun e w' => e = .returned (str (whole p)) ∧ Md [] w w' := by
  have M := Md.refl [] w
  refine enter (n := 9) Try.func62 rfl rfl rfl ?_
  intro B
  refine c_seq ?_
  refine c_region ?_
  refine st_box rfl rfl ?_
  intro bP w1 gP lP hm hP
  replace gP := Nat.le_trans M.size gP
  replace M := M.step0 hm
  refine st _ (r_assign rfl) ?_
  refine st_nil ?_
  refine c_then ?_
  refine c_seq ?_
  refine c_region ?_
  refine st _ (r_field rfl off44_0) ?_
  refine st _ (r_loadBlk rfl one9 hP rfl) ?_
  refine st (str (p.1 ++ [61])) (r_addS rfl rfl (by first | omega | (simp; omega))) ?_
  refine st _ (r_field rfl off44_1) ?_
  refine st _ (r_loadBlk rfl one9 hP rfl) ?_
  refine st (str (p.1 ++ [61] ++ p.2)) (r_addS rfl rfl (by simp; omega)) ?_
  refine st _ (r_assign rfl) ?_
  refine st_nil ?_
  refine c_then ?_
  refine c_ret ?_
  exact ret1 trivial rfl rfl ⟨rfl, M⟩
theorem right_any (p : PairB) (w : World) : Calls Try.prog 29 #[pairv p] w fun e w' => e = .returned (.bool (right p)) ∧ Md [] w w' := by
  have M := Md.refl [] w
  refine enter (n := 12) Try.func29 rfl rfl rfl ?_
  intro B
  refine c_seq ?_
  refine c_region ?_
  refine st_box rfl rfl ?_
  intro bP w1 gP lP hm hP
  replace gP := Nat.le_trans M.size gP
  replace M := M.step0 hm
  refine st _ (r_assign rfl) ?_
  refine st_nil ?_
  refine c_then ?_
  refine c_seq ?_
  refine c_region ?_
  refine st _ (r_field rfl off44_0) ?_
  refine st _ (r_loadBlk rfl one9 hP rfl) ?_
  refine st_call fn37 rfl (name_any p.1 _) ?_
  rintro e _ ⟨rfl, rfl⟩; refine ⟨_, rfl, ?_⟩
  refine st _ (r_move rfl) ?_
  refine part_n (t := 6) rfl (fun h6 => ?_) (fun h6 => ?_)
  · skip
    first | (have h6n := of_decide_eq_true h6) | (have h6n := of_decide_eq_false (bnt h6)) | (have h6n := bnt h6) | (have h6n := h6)
    refine st_g _ rfl rfl rfl h6 (r_field rfl off44_1) ?_
    refine st_g _ rfl rfl rfl h6 (r_loadBlk rfl one9 hP rfl) ?_
    refine st_g _ rfl rfl rfl h6 (r_lenS rfl u9) ?_
    refine st_g _ rfl rfl rfl h6 (r_le rfl rfl) ?_
    refine st _ (r_pick_t rfl h6 rfl) ?_
    refine st _ (r_assign rfl) ?_
    refine st_nil ?_
    refine c_then ?_
    refine c_ret ?_
    exact ret1 trivial rfl rfl ⟨retB (by rw [right, h6n, Bool.true_and]; exact decide_eq_decide.2 (by omega)), M⟩
  · skip
    first | (have h6n := of_decide_eq_false h6) | (have h6n := of_decide_eq_true (bnf h6)) | (have h6n := bnf h6) | (have h6n := h6)
    refine st_skip rfl rfl rfl h6 ?_
    refine st_skip rfl rfl rfl h6 ?_
    refine st_skip rfl rfl rfl h6 ?_
    refine st_skip rfl rfl rfl h6 ?_
    refine st _ (r_pick_f rfl h6 rfl) ?_
    refine st _ (r_assign rfl) ?_
    refine st_nil ?_
    refine c_then ?_
    refine c_ret ?_
    exact ret1 trivial rfl rfl ⟨retB (by rw [right, h6n]; rfl), M⟩
theorem join_any (p : PairB) (w : World) : Calls Try.prog 28 #[pairv p] w fun e w' => ∃ v, e = .returned (.tuple #[v, .int .i64 (joinC p)]) ∧ Md [] w w' ∧ By w' v (joinB p) ∧ ∀ b, vblock v = some b → w.heap.size ≤ b := by
  have M := Md.refl [] w
  refine enter (n := 17) Try.func28 rfl rfl rfl ?_
  intro B
  refine c_seq ?_
  refine c_region ?_
  refine st_box rfl rfl ?_
  intro bP w1 gP lP hm hP
  replace gP := Nat.le_trans M.size gP
  replace M := M.step0 hm
  refine st _ (r_assign rfl) ?_
  refine st _ (r_assign rfl) ?_
  refine st_nil ?_
  refine c_then ?_
  refine c_seq ?_
  refine c_block ?_
  refine c_seq ?_
  refine c_region ?_
  refine st _ (r_field rfl off44_0) ?_
  refine st _ (r_loadBlk rfl one9 hP rfl) ?_
  refine st_call fn37 rfl (name_any p.1 _) ?_
  rintro e _ ⟨rfl, rfl⟩; refine ⟨_, rfl, ?_⟩
  refine st _ (r_not rfl) ?_
  refine st _ (r_assign rfl) ?_
  refine st_nil ?_
  refine c_then ?_
  refine c_if rfl (fun h4 => ?_) (fun h4 => ?_)
  · skip
    first | (have h4n := of_decide_eq_true h4) | (have h4n := of_decide_eq_false (bnt h4)) | (have h4n := bnt h4) | (have h4n := h4)
    refine c_seq ?_
    refine c_region ?_
    refine st _ (r_assign rfl) ?_
    refine st _ (r_assign rfl) ?_
    refine st_nil ?_
    refine c_then ?_
    refine c_ret ?_
    refine r_block ?_
    refine r_then ?_
    have hj : joinC p = 1 := by unfold joinC; rw [if_pos h4n]
    exact ret2 trivial rfl rfl rfl ⟨_, by rw [hj], M, by unfold joinB; rw [hj, if_neg (by decide)]; exact By.nil _, by simp [vblock]⟩
  · skip
    first | (have h4n := of_decide_eq_false h4) | (have h4n := of_decide_eq_true (bnf h4)) | (have h4n := bnf h4) | (have h4n := h4)
    refine c_seq ?_
    refine c_region ?_
    refine st _ (r_field rfl off44_1) ?_
    refine st _ (r_loadBlk rfl one9 hP rfl) ?_
    refine st _ (r_lenS rfl u9) ?_
    refine st _ (r_gt rfl rfl) ?_
    refine st _ (r_assign rfl) ?_
    refine st_nil ?_
    refine c_then ?_
    refine c_if rfl (fun h9 => ?_) (fun h9 => ?_)
    · skip
      first | (have h9n := of_decide_eq_true h9) | (have h9n := of_decide_eq_false (bnt h9)) | (have h9n := bnt h9) | (have h9n := h9)
      refine c_seq ?_
      refine c_region ?_
      refine st _ (r_assign rfl) ?_
      refine st _ (r_assign rfl) ?_
      refine st_nil ?_
      refine c_then ?_
      refine c_ret ?_
      refine r_block ?_
      refine r_then ?_
      have hj : joinC p = 21 := by unfold joinC; rw [if_neg (by simp [h4n]), if_pos (by omega)]
      exact ret2 trivial rfl rfl rfl ⟨_, by rw [hj], M, by unfold joinB; rw [hj, if_neg (by decide)]; exact By.nil _, by simp [vblock]⟩
    · skip
      first | (have h9n := of_decide_eq_false h9) | (have h9n := of_decide_eq_true (bnf h9)) | (have h9n := bnf h9) | (have h9n := h9)
      refine c_skip ?_
      refine n_block ?_
      refine c_then ?_
      refine c_seq ?_
      have hj : joinC p = 0 := by unfold joinC; rw [if_neg (by simp [h4n]), if_neg (by omega)]
      have hnl := (name_len (s := p.1) (by simpa using h4n)).2
      refine c_region ?_
      refine st _ (r_loadAll rfl (by exact agg44) hP) ?_
      refine st_call fn62 rfl (whole_any p _ (by omega)) ?_
      rintro e w2 ⟨rfl, hm⟩; refine ⟨_, rfl, ?_⟩
      replace hP := hP.md0 hm
      replace M := M.step0 hm
      have gsz := M.size
      refine st_convSB u9 u25 u5 rfl (by simp [whole, maxLen]; omega) ?_
      intro vC w3 hm hC fC
      replace hP := hP.md0 hm
      replace M := M.step0 hm
      refine st _ (r_assign rfl) ?_
      refine st _ (r_assign rfl) ?_
      refine st_nil ?_
      refine c_then ?_
      refine c_ret ?_
      exact ret2 trivial rfl rfl rfl ⟨_, by rw [hj], M, by unfold joinB; rw [hj, if_pos rfl]; exact hC, fun b hb => Nat.le_trans gsz (fC b hb).1⟩
theorem split_any (v : Value) (l : List UInt8) (w : World) (hB : By w v l) :
    Calls Try.prog 30 #[v] w fun e w' => e = .returned (.tuple #[pairv (splitP l), .int .i64 (splitC l)]) ∧ Md [] w w' := by
  have M := Md.refl [] w
  refine enter (n := 34) Try.func30 rfl rfl rfl ?_
  intro B
  refine c_seq ?_
  refine c_region ?_
  refine st_alloc z44 ?_
  intro bR w1 gR lR hm hR
  replace gR := Nat.le_trans M.size gR
  replace M := M.step0 hm
  refine st _ (r_assign rfl) ?_
  refine st_nil ?_
  refine c_then ?_
  refine c_seq ?_
  refine c_region ?_
  refine st _ (r_move rfl) ?_
  refine st_buildSlice u25 elT5 (by decide) rfl rfl rfl ⟨rfl, trivial⟩ (by decide) ?_
  intro bE w2 gE lE hm hE
  have nhRE : bR ≠ bE := by have := hR.lt; omega
  replace gE := Nat.le_trans M.size gE
  replace hR := hR.md0 hm
  replace M := M.step0 hm
  refine st_call fn63 rfl (cut_any v _ l 61 _ (hB.md0 M) (By.of_blk (show Blk _ _ (([61] : List UInt8).map b8) _ from hE) rfl (by decide))) ?_
  rintro e w50 ⟨x, y, b, rfl, hm, hT, hF⟩; refine ⟨_, rfl, ?_⟩
  clear hE
  replace hR := hR.md0 hm
  replace M := M.step0 hm
  refine st _ (r_move rfl) ?_
  refine st _ (r_extract rfl rfl) ?_
  refine st _ (r_extract rfl rfl) ?_
  refine st _ (r_extract rfl rfl) ?_
  refine st _ (r_assign rfl) ?_
  refine st _ (r_assign rfl) ?_
  refine st _ (r_assign rfl) ?_
  refine st_nil ?_
  refine c_then ?_
  refine c_seq ?_
  refine c_block ?_
  refine c_seq ?_
  refine c_region ?_
  refine st _ (r_move rfl) ?_
  refine st _ (r_not rfl) ?_
  refine st _ (r_move rfl) ?_
  refine part_n (t := 17) rfl (fun h17 => ?_) (fun h17 => ?_)
  · skip
    first | (have h17n := of_decide_eq_true h17) | (have h17n := of_decide_eq_false (bnt h17)) | (have h17n := bnt h17) | (have h17n := h17)
    refine st_skip rfl rfl rfl h17 ?_
    refine st_skip rfl rfl rfl h17 ?_
    refine st_skip rfl rfl rfl h17 ?_
    refine st_skip rfl rfl rfl h17 ?_
    refine st _ (r_pick_t rfl h17 rfl) ?_
    refine st _ (r_assign rfl) ?_
    refine st_nil ?_
    refine c_then ?_
    refine c_if_t rfl rfl ?_
    refine c_seq ?_
    refine c_region ?_
    refine st (.agg [_, _].toArray) (r_build (ps := []) z44 pl44 rfl rfl trivial rfl rfl rfl) ?_
    refine st_storeAll rfl rfl (by exact agg44) (by simp [Value.oneCell']) hR (by first | rfl | simp) ?_
    have hR0 := hR
    clear hR
    intro w3 hm hR
    replace M := M.step1 hm gR
    refine st _ (r_assign rfl) ?_
    refine st_nil ?_
    refine c_then ?_
    refine c_ret ?_
    refine r_block ?_
    refine r_then ?_
    have hc : splitC l = 20 := by unfold splitC; rw [if_pos (hF h17n)]
    have hp := split_bad (s := l) (by rw [hc]; decide)
    exact retc1 trivial rfl rfl (by exact agg44) hR rfl ⟨by rw [hc, hp]; rfl, M⟩
  · skip
    first | (have h17n := of_decide_eq_false h17) | (have h17n := of_decide_eq_true (bnf h17)) | (have h17n := bnf h17) | (have h17n := h17)
    obtain ⟨hi0, hX, hY⟩ := hT h17n
    refine st_g _ rfl rfl rfl h17 (r_move rfl) ?_
    refine st_g _ rfl rfl rfl h17 (r_convBS u25 u5 u9 rfl hX) ?_
    refine st_call_g rfl rfl rfl h17 fn37 rfl (name_any (l.take (Lib.indexByte l 61).toNat) _) ?_
    rintro e _ ⟨rfl, rfl⟩; refine ⟨_, rfl, ?_⟩
    refine st_g _ rfl rfl rfl h17 (r_not rfl) ?_
    refine st _ (r_pick_f rfl h17 rfl) ?_
    refine st _ (r_assign rfl) ?_
    refine st_nil ?_
    refine c_then ?_
    refine c_if rfl (fun h14 => ?_) (fun h14 => ?_)
    · skip
      first | (have h14n := of_decide_eq_true h14) | (have h14n := of_decide_eq_false (bnt h14)) | (have h14n := bnt h14) | (have h14n := h14)
      refine c_seq ?_
      refine c_region ?_
      refine st (.agg [_, _].toArray) (r_build (ps := []) z44 pl44 rfl rfl trivial rfl rfl rfl) ?_
      refine st_storeAll rfl rfl (by exact agg44) (by simp [Value.oneCell']) hR (by first | rfl | simp) ?_
      have hR0 := hR
      clear hR
      intro w4 hm hR
      clear hX
      clear hY
      replace M := M.step1 hm gR
      refine st _ (r_assign rfl) ?_
      refine st_nil ?_
      refine c_then ?_
      refine c_ret ?_
      refine r_block ?_
      refine r_then ?_
      have hc : splitC l = 20 := by unfold splitC; rw [if_neg (by omega), if_pos h14n]
      have hp := split_bad (s := l) (by rw [hc]; decide)
      exact retc1 trivial rfl rfl (by exact agg44) hR rfl ⟨by rw [hc, hp]; rfl, M⟩
    · skip
      first | (have h14n := of_decide_eq_false h14) | (have h14n := of_decide_eq_true (bnf h14)) | (have h14n := bnf h14) | (have h14n := h14)
      refine c_seq ?_
      refine c_region ?_
      refine st _ (r_move rfl) ?_
      refine st _ (r_len rfl u25 hY.shp) ?_
      refine st _ (r_gt rfl rfl) ?_
      refine st _ (r_assign rfl) ?_
      refine st_nil ?_
      refine c_then ?_
      refine c_if rfl (fun h24 => ?_) (fun h24 => ?_)
      · skip
        first | (have h24n := of_decide_eq_true h24) | (have h24n := of_decide_eq_false (bnt h24)) | (have h24n := bnt h24) | (have h24n := h24)
        refine c_seq ?_
        refine c_region ?_
        refine st (.agg [_, _].toArray) (r_build (ps := []) z44 pl44 rfl rfl trivial rfl rfl rfl) ?_
        refine st_storeAll rfl rfl (by exact agg44) (by simp [Value.oneCell']) hR (by first | rfl | simp) ?_
        have hR0 := hR
        clear hR
        intro w5 hm hR
        clear hX
        clear hY
        replace M := M.step1 hm gR
        refine st _ (r_assign rfl) ?_
        refine st_nil ?_
        refine c_then ?_
        refine c_ret ?_
        refine r_block ?_
        refine r_then ?_
        have hc : splitC l = 21 := by unfold splitC; rw [if_neg (by omega), if_neg (by simp [h14n]), if_pos (by omega)]
        have hp := split_bad (s := l) (by rw [hc]; decide)
        exact retc1 trivial rfl rfl (by exact agg44) hR rfl ⟨by rw [hc, hp]; rfl, M⟩
      · skip
        first | (have h24n := of_decide_eq_false h24) | (have h24n := of_decide_eq_true (bnf h24)) | (have h24n := bnf h24) | (have h24n := h24)
        refine c_skip ?_
        refine n_block ?_
        refine c_then ?_
        refine c_seq ?_
        refine c_region ?_
        refine st _ (r_move rfl) ?_
        refine st _ (r_convBS u25 u5 u9 rfl hX) ?_
        refine st _ (r_move rfl) ?_
        refine st _ (r_convBS u25 u5 u9 rfl hY) ?_
        refine st (.agg [_, _].toArray) (r_build (ps := [(0, 0), (1, 1)]) z44 pl44 rfl rfl ⟨rfl, rfl, trivial⟩ rfl rfl rfl) ?_
        refine st_storeAll rfl rfl (by exact agg44) (by simp [Value.oneCell', str]) hR (by first | rfl | simp) ?_
        have hR0 := hR
        clear hR
        intro w6 hm hR
        clear hX
        clear hY
        replace M := M.step1 hm gR
        refine st _ (r_assign rfl) ?_
        refine st_nil ?_
        refine c_then ?_
        refine c_ret ?_
        have hc : splitC l = 0 := by unfold splitC; rw [if_neg (by omega), if_neg (by simp [h14n]), if_neg (by omega)]
        have hp : splitP l = (l.take (Lib.indexByte l 61).toNat, l.drop ((Lib.indexByte l 61).toNat + 1)) := by unfold splitP; rw [if_pos hc]
        exact retc1 trivial rfl rfl (by exact agg44) hR rfl ⟨by rw [hc, hp]; rfl, M⟩
end Go.Proofs.Ytimakajeggeebaa
