/- Walks of functions: what each call returns, over data. -/
import Derived.Test.YtimakajeggeebaaRows
import Derived.Test.YtimakajeggeebaaLaid
import Derived.Test.YtimakajeggeebaaSortR
import Derived.Test.YtimakajeggeebaaVComp
namespace Go.Proofs.Ytimakajeggeebaa
open Go Go.Wk Go.RowKit
set_option linter.unusedVariables false
set_option linter.unusedSimpArgs false
attribute [local irreducible] wpList wpQuiet wpStill wpMix Code.wp Calls bodyPost
theorem fn68 : isFn Try.prog 68 = true := by kernel_rfl
theorem fn69 : isFn Try.prog 69 = true := by kernel_rfl
theorem fn70 : isFn Try.prog 70 = true := by kernel_rfl



theorem whole_gr (p : PairB) (w : World) (hl : p.1.length + p.2.length ≤ 4611686018427387904) : Calls Try.prog 62 #[pairv p] w fun e w' => e = .returned (str (whole p)) ∧ Gr w w' := by
  have M := Gr.refl w
  refine enter (n := 9) Try.func62 rfl rfl rfl ?_
  intro B
  refine c_seq ?_
  refine c_region ?_
  refine st_boxG rfl rfl ?_
  intro bP w1 gP lP hm hP
  replace M := M.step0 hm
  refine st _ (r_assign rfl) ?_
  refine st_nil ?_
  refine c_then ?_
  refine c_seq ?_
  refine c_region ?_
  refine st _ (r_field rfl off44_0) ?_
  refine st _ (r_loadBlk rfl one9 hP rfl) ?_
  refine st (str (p.1 ++ [61])) (r_addS rfl rfl (by first | omega | (simp; omega))) ?_
  refine st _ (r_field rfl off44_1) ?_
  refine st _ (r_loadBlk rfl one9 hP rfl) ?_
  refine st (str (p.1 ++ [61] ++ p.2)) (r_addS rfl rfl (by simp; omega)) ?_
  refine st _ (r_assign rfl) ?_
  refine st_nil ?_
  refine c_then ?_
  refine c_ret ?_
  exact ret1 trivial rfl rfl ⟨rfl, M⟩
theorem order_gr (p q : PairB) (w : World) (hp : p.1.length + p.2.length ≤ 4611686018427387904) (hq : q.1.length + q.2.length ≤ 4611686018427387904) : Calls Try.prog 67 #[pairv p, pairv q] w fun e w' => e = .returned (.int .i64 (cmpS (whole p) (whole q))) ∧ Gr w w' := by
  have M := Gr.refl w
  refine enter (n := 10) Try.func67 rfl rfl rfl ?_
  intro B
  refine c_seq ?_
  refine c_region ?_
  refine st_boxG rfl rfl ?_
  intro bA w1 gA lA hm hA
  replace M := M.step0 hm
  refine st_boxG rfl rfl ?_
  intro bB w2 gB lB hm hB
  replace hA := hA.md0 hm.md
  replace M := M.step0 hm
  refine st _ (r_assign rfl) ?_
  refine st_nil ?_
  refine c_then ?_
  refine c_seq ?_
  have hA_q := hA
  have hB_q := hB
  refine c_mixG [(0, true), (2, true), (1, false), (3, false), (4, false), (5, true)] (fun w' => Md [] w2 w') mixed (by kernel_rfl) ?_
  intro w3 hm
  have MC := hm.md
  replace M := M.step0 hm
  refine ⟨MC, ?_⟩
  refine Go.Wk.m _ (fun w' hc => r_loadAll rfl (by exact agg44) (hA_q.md0 hc)) ?_
  refine Go.Wk.m _ (fun w' hc => r_loadAll rfl (by exact agg44) (hB_q.md0 hc)) ?_
  refine m_e ?_ rfl
  refine st_call fn62 rfl (whole_gr p _ hp) ?_
  rintro e w4 ⟨rfl, hm⟩; refine ⟨_, rfl, ?_⟩
  replace MC := MC.step0 hm.md
  replace M := M.step0 hm
  refine st_nil ⟨rfl, MC, ?_⟩
  refine m_e ?_ rfl
  refine st_call fn62 rfl (whole_gr q _ hq) ?_
  rintro e w5 ⟨rfl, hm⟩; refine ⟨_, rfl, ?_⟩
  replace MC := MC.step0 hm.md
  replace M := M.step0 hm
  refine st_nil ⟨rfl, MC, ?_⟩
  refine m_e ?_ rfl
  refine st_call fn82 rfl (cmp_any _ _ _) ?_
  rintro e w6 ⟨rfl, rfl⟩; refine ⟨_, rfl, ?_⟩
  refine st_nil ⟨rfl, MC, ?_⟩
  refine Go.Wk.m _ (fun w' hc => r_assign rfl) ?_
  refine m_nil ?_
  refine c_then ?_
  refine c_ret ?_
  exact ret1 trivial rfl rfl ⟨rfl, M⟩
theorem sort_any {w : World} {Q lo : Nat → Prop} {v : Value} {xs : List Pr} (h0 : Ow tPr 44 lo w Q v xs) (h1 : 1 ≤ xs.length) (hr : ∀ p ∈ xs, right p.pb = true) (hl : xs.length ≤ 1000000) :
    Calls Try.prog 69 #[v, .func (.func 67) #[] #[]] w fun en w' => en = .returned (.tuple #[]) ∧ Md (vblock v).toList w w' ∧ Ow tPr 44 lo w' Q v (sortF xs) := by
  obtain ⟨b, cap, rfl, hc, hR, hlo, hQ⟩ := h0.rw_ h1
  obtain ⟨d, rfl⟩ := lift_right xs hr
  have eg : ∀ args w, (callFunc 67 args).run Try.prog w = .ok (.enter 67 args) w := Go.Proofs.enters_of Try.func67 (by kernel_rfl) rfl
  have hcmp : CmpLays Try.prog 67 #[] encP 2 cfP b 0 d.toArray.size w := fun m os dk _ x y =>
    (order_gr x.1.pb y.1.pb _ (by have := right_len x.2; omega) (by have := right_len y.2; omega)).mono fun e w' ⟨he, hg⟩ => ⟨he, hg.grown⟩
  have hcon := AnyQ.slices_SortFunc_total sortPr 2 Try.isAgg44 Try.sizeOf44 encP (fun _ => rfl) encP_one cfP swoP 67 #[] b 0 cap d.toArray w eg hcmp hR.holds (by obtain ⟨_, hB, _⟩ := hR; exact hB.lt) (by simp at hl ⊢; omega) totP
  simp only [List.size_toArray, List.length_map] at hcon hl ⊢
  refine hcon.mono ?_
  rintro e w' ⟨rfl, n, os, rfl⟩
  obtain ⟨hm, hR2⟩ := hR.sorted (n := n) (os := os) (d' := d.mergeSort fun x y => !(ltOf cfP) y x) (by simp)
  refine ⟨rfl, by simpa [vblock] using hm, ?_⟩
  rw [sortF_sub] at hR2
  have hlen : (sortF (d.map Subtype.val)).length = d.length := by simp [sortF]
  have := hR2.ow (lo := lo) (Q := Q) hc hlo hQ
  rw [hlen] at this
  exact this

theorem kClone_any {w : World} {Q : Nat → Prop} (uQ : Up w Q) {v0 : Value} {l : List Pr} (h0 : Ls tPr w Q v0 l) (p0 : 1 ≤ l.length) (p1 : l.length ≤ 1000000) :
    Calls Try.prog 68 #[v0] w fun en w' => ∃ u0 : Value, ∃ r0 : List Pr, ∃ Q' : Nat → Prop, en = .returned (u0) ∧ Md [] w w' ∧ NewQ w w' Q Q' ∧ Ow tPr 44 (Fsh [] w) w' Q' u0 r0 ∧ l = r0 := by
  obtain ⟨a, cap, hv, hcp⟩ : ∃ a cap, v0 = .slice (some a) l.length cap ∧ l.length ≤ cap := by
    obtain ⟨a, cap, cs, e, h1, h2, h3, _⟩ := h0
    cases a with
    | none => have := h3 rfl; omega
    | some a => exact ⟨a, cap, e, h1⟩
  refine enter (n := 8) Try.func68 rfl rfl rfl ?_
  intro B
  refine c_seq ?_
  refine c_region ?_
  refine st _ (r_assign rfl) ?_
  refine st_nil ?_
  refine c_then ?_
  refine c_seq ?_
  refine c_seq ?_
  refine c_region ?_
  refine st _ (r_move rfl) ?_
  refine st (.bool false) (by exact r_eqlSN (a := some a) (m := l.length) (c := cap) (by rw [← hv]; rfl) u61) ?_
  refine st_nil ?_
  refine c_then ?_
  refine c_if rfl (fun h4 => (by cases h4)) (fun h4 => ?_)
  refine c_skip ?_
  refine c_then ?_
  refine c_seq ?_
  refine c_region ?_
  refine st_build0 u61 elT44 ?_
  intro b w1 gb lb hm hB
  obtain ⟨Q1, s1, t1, n1, u1⟩ := exQ uQ gb lb hm
  have hO : Ow tPr 44 (Fsh [] w) w1 Q1 (.slice (some ⟨b, 0, none⟩) 0 0) [] := Ow.of_blk (m := 0) hB rfl rfl (by simp [maxLen]) (.inr gb) n1
  replace h0 := (h0.sub s1).md0 hm
  refine st _ (r_move rfl) ?_
  refine st_apZ (sz := 2) rfl u61 elT44 rfl rfl hO h0.lz u1 (Fsh.new hm) (by simp; omega) (by simp; omega) ?_
  intro v2 w2 Q2 sQ tQ u2 hO2 hm2 hS _ hv2
  refine st _ (r_assign rfl) ?_
  refine st_nil ?_
  refine c_then ?_
  refine c_ret ?_
  exact ret1 trivial rfl rfl ⟨_, _, Q2, rfl, hm.step1 hm2 gb, ⟨fun x hx hl => sQ x (s1 x hx hl) (Nat.lt_of_lt_of_le hl hm.size), fun x hx => t1 x (tQ x hx), u2⟩, hO2, by simp⟩
theorem kClone_any_ls {w : World} {Q : Nat → Prop} (uQ : Up w Q) {v0 : Value} {l : List Pr} (h0 : Ls tPr w Q v0 l) (p0 : 1 ≤ l.length) (p1 : l.length ≤ 1000000) :
    Calls Try.prog 68 #[v0] w fun en w' => ∃ u0 : Value, ∃ r0 : List Pr, en = .returned (u0) ∧ Md [] w w' ∧ Ls tPr w' Q u0 r0 ∧ l = r0 :=
  (kClone_any uQ h0 p0 p1).mono fun en w' ⟨u0, r0, Q2, he, hm, kq, k0, hF⟩ => ⟨u0, r0, he, hm, k0.ls kq.2.1 (Fsh.up uQ), hF⟩
theorem kList_any {w : World} {Q : Nat → Prop} (uQ : Up w Q) {v0 : Value} {l : List Pr} (h0 : Ls tPr w Q v0 l) (p0 : l.length ≤ 1000) :
    Calls Try.prog 41 #[v0] w fun en w' => ∃ u0 : Value, ∃ r0 : List Pr, ∃ r1 : Nat, en = .returned (.tuple #[u0, (.int .i64 ((r1 : Nat) : Int))]) ∧ Md [] w w' ∧ Ls tPr w' Q u0 r0 ∧ r1 < 9223372036854775808 ∧ plistF l = (r0, r1) := by
  have L0 := h0.len63
  have M := Md.refl [] w
  have uQ0 := uQ
  have tQ : ∀ b, Q b → Q b := fun _ h => h
  have sQ0 : ∀ b, Q b → b < w.heap.size → Q b := fun _ h _ => h
  refine enter (n := 37) Try.func41 rfl rfl rfl ?_
  intro B
  refine c_seq ?_
  refine c_region ?_
  refine st _ (r_assign rfl) ?_
  refine st _ (r_assign rfl) ?_
  refine st_nil ?_
  refine c_then ?_
  refine c_seq ?_
  refine c_seq ?_
  refine c_region ?_
  refine st _ (r_move rfl) ?_
  refine st _ (r_len rfl u61 h0.shp) ?_
  refine st _ (r_eqN (a := l.length) (b := 0) rfl rfl) ?_
  refine st_nil ?_
  refine c_then ?_
  refine c_if rfl (fun h11 => ?_) (fun h11 => ?_)
  · skip
    first | (have h11n := of_decide_eq_true h11) | (have h11n := of_decide_eq_false (bnt h11)) | (have h11n := bnt h11) | (have h11n := h11)
    refine c_seq ?_
    refine c_region ?_
    refine st _ (r_assign rfl) ?_
    refine st _ (r_assign rfl) ?_
    refine st_nil ?_
    refine c_then ?_
    refine c_ret ?_
    refine r_then ?_
    exact retL (vs := [(.slice none 0 0), (.int .i64 ((16 : Nat) : Int))]) trivial rfl ⟨rfl, rfl, trivial⟩ rfl ⟨_, [], 16, rfl, M, (Ls.nil _ _ _), (by first | assumption | omega | simp_all), (by rw [plistF] <;> simp (disch := first | omega | assumption | (simp; done) | fail) only [if_pos, if_neg, Option.getD_some, Option.some.injEq, reduceIte, Bool.false_eq_true, Bool.true_eq_false, decide_true, decide_false, not_true_eq_false, not_false_eq_true, h11n])⟩
  · skip
    first | (have h11n := of_decide_eq_false h11) | (have h11n := of_decide_eq_true (bnf h11)) | (have h11n := bnf h11) | (have h11n := h11)
    refine c_skip ?_
    refine c_then ?_
    refine c_seq ?_
    refine c_seq ?_
    refine c_region ?_
    refine st _ (r_move rfl) ?_
    refine st _ (r_len rfl u61 h0.shp) ?_
    refine st _ (r_move rfl) ?_
    refine st_nil ?_
    refine c_then ?_
    refine c_block ?_
    obtain ⟨r0, hr00⟩ : ∃ r, chkL l (packE l) = r := ⟨_, rfl⟩
    try simp only [List.nil_append] at hr00
    refine loop1 (fun (i : Nat) => [(14, (.int .i64 ((i : Nat) : Int))), (0, v0), (12, v0), (13, (.int .i64 ((l.length : Nat) : Int)))]) (fun (i : Nat) w' => ∃ Q' : Nat → Prop, (∀ b, Q' b → Q b) ∧ (∀ b, Q b → b < w.heap.size → Q' b) ∧ Up w' Q' ∧ Md [] w w' ∧ Ls tPr w' Q' v0 l ∧ i ≤ l.length ∧ (∀ q ∈ l.take i, right q.pb = true) ∧ chkL (l.drop i) (packE l) = r0) (fun (i : Nat) => l.length - i) (x0 := 0) ?_ ?_ ?_
    · exact ⟨rfl, rfl, rfl, rfl, trivial⟩
    · exact ⟨Q, tQ, sQ0, uQ, M, h0, (by omega), (by simp), (by have hh := hr00; first | exact hh | (simp only [List.nil_append] at hh; exact hh))⟩
    · clear M uQ tQ sQ0 h0
      rintro i B w1 ⟨Q2, tQ, sQ0, uQ, M, h0, i0_0, i0_1, hr0⟩
      refine c_seq ?_
      refine c_region ?_
      refine st _ (r_ltN (a := i) (b := l.length) rfl rfl) ?_
      refine st_nil ?_
      refine c_then ?_
      refine c_seq ?_
      refine c_if rfl (fun h15 => ?_) (fun h15 => ?_)
      · skip
        first | (have h15n := of_decide_eq_true h15) | (have h15n := of_decide_eq_false (bnt h15)) | (have h15n := bnt h15) | (have h15n := h15)
        refine c_skip ?_
        refine c_then ?_
        refine c_seq ?_
        refine c_block ?_
        refine c_seq ?_
        refine c_region ?_
        refine st _ (r_indexN (i := i) 2 rfl rfl u61 el44 h0.shp (by omega)) ?_
        obtain ⟨x3, hx3⟩ := getE (l := l) (i := i) (by first | omega | (simp <;> omega))
        obtain ⟨c4, hr3, ha3⟩ := h0.get hx3
        obtain ⟨_, rfl⟩ := tPr_un hr3
        replace ha3 : At _ v0 (i * 2) (Pr.cells x3) := ha3
        refine st _ (r_loadEA (kk := i * 2) (Pr.cells x3) 0 rfl rfl (by exact agg44) ha3 rfl) ?_
        refine st_alloc z44 ?_
        intro ba5 w5 ga5 la5 hm ha5
        obtain ⟨Q6, sQ, sT, n_ha5, uQ2⟩ := exQ uQ ga5 la5 hm
        replace h0 := h0.sub sQ
        replace tQ := fun b hb => tQ b (sT b hb)
        replace sQ0 := fun b hb hl => sQ b (sQ0 b hb hl) (Nat.lt_of_lt_of_le hl M.size)
        replace ga5 := Nat.le_trans M.size ga5
        replace h0 := h0.md0 hm
        replace ha3 := ha3.md0 hm
        replace uQ := uQ.md hm
        replace M := M.step0 hm
        clear uQ; have uQ := uQ2; clear uQ2 sQ sT
        have p_ha5 : Fsh [] w ba5 := .inr ga5
        replace ha5 : Blk _ _ (Pr.cells (({ name := [], value := [] } : Pr))) _ := ha5
        refine st_storeAgg (us := (Pr.cells x3)) rfl rfl (by exact agg44) (by first | exact fun u hu => one_cells (Pr.one ) u hu | exact fun u hu => one_cells rfl u hu) ha5 (Nat.le_of_ble_eq_true rfl) ?_
        have ha50 := ha5; clear ha5; intro w7 hm ha5
        have hS : ∀ b ∈ [ba5], ¬ Q6 b := by intro b hb; simp at hb; subst hb; exact n_ha5
        replace h0 := h0.md hm hS
        clear ha3
        replace uQ := uQ.md hm
        replace M := M.step hm (all_cons p_ha5 all_nil)
        clear ha50 hS
        replace ha5 : Blk _ _ (Pr.cells x3) _ := ha5
        refine st_nil ?_
        refine c_then ?_
        refine c_seq ?_
        refine c_region ?_
        refine st _ (r_loadPart (Pr.cells x3) rfl (by exact agg44) ha5 rfl) ?_
        refine st_call fn28 rfl (kJoin_any uQ x3) ?_
        rintro en w8 ⟨v8_0, x8_0, x8_1, rfl, hm, h8_0, q8_1, hF8⟩; refine ⟨_, rfl, ?_⟩
        replace h0 := h0.md0 hm
        replace ha5 := ha5.md0 hm
        replace uQ := uQ.md hm
        replace M := M.step0 hm
        refine st _ (r_move rfl) ?_
        refine st _ (r_extract rfl rfl) ?_
        refine st _ (r_extract rfl rfl) ?_
        refine st _ (r_assign rfl) ?_
        refine st _ (r_assign rfl) ?_
        refine st_nil ?_
        refine c_then ?_
        refine c_seq ?_
        refine c_region ?_
        refine st _ (r_move rfl) ?_
        refine st _ (r_neN (a := x8_1) (b := 0) rfl rfl) ?_
        refine st_nil ?_
        refine c_then ?_
        refine c_if rfl (fun h24 => ?_) (fun h24 => ?_)
        · skip
          first | (have h24n := of_decide_eq_true h24) | (have h24n := of_decide_eq_false (bnt h24)) | (have h24n := bnt h24) | (have h24n := h24)
          refine c_seq ?_
          refine c_region ?_
          have e0 : plistF l = ([], x8_1) := by have hh := hr0; rw [chk_step hx3, hF8] at hh; simp only at hh; rw [if_pos h24n] at hh; unfold plistF; rw [if_neg h11n, hr00, ← hh]
          refine st _ (r_move rfl) ?_
          refine st _ (r_assign rfl) ?_
          refine st _ (r_assign rfl) ?_
          refine st_nil ?_
          refine c_then ?_
          refine c_ret ?_
          refine r_block ?_
          refine r_then ?_
          refine r_then ?_
          refine r_block ?_
          refine r_then ?_
          exact retL (vs := [(.slice none 0 0), (.int .i64 ((x8_1 : Nat) : Int))]) trivial rfl ⟨rfl, rfl, trivial⟩ rfl ⟨_, [], x8_1, rfl, M, (Ls.nil _ _ _), (by first | assumption | omega | simp_all), e0⟩
        · skip
          first | (have h24n := of_decide_eq_false h24) | (have h24n := of_decide_eq_true (bnf h24)) | (have h24n := bnf h24) | (have h24n := h24)
          refine c_skip ?_
          refine n_block ?_
          refine c_then ?_
          refine c_region ?_
          refine st _ (r_addN (a := i) (b := 1) 9223372036854775808 rfl rfl rfl (by omega)) ?_
          refine st _ (r_move rfl) ?_
          refine st_nil ?_
          refine c_then ?_
          refine next1 (x0 := (i + 1)) (by omega) ⟨(fitI rfl (by omega)), rfl, rfl, rfl, trivial⟩ ⟨Q6, tQ, sQ0, uQ, M, h0, (by omega), (by intro q hq; rw [List.take_add_one, hx3] at hq; rcases List.mem_append.1 hq with h | h; exact i0_1 q h; simp at h; subst h; exact joinF_right.1 (by rw [hF8]; simpa using h24n)), (by have hh := hr0; simp (disch := first | omega | assumption | (simp; done) | fail) only [chk_end, chk_step hx3, if_pos, if_neg, Option.getD_some, Option.some.injEq, reduceIte, Bool.false_eq_true, Bool.true_eq_false, decide_true, decide_false, not_true_eq_false, not_false_eq_true, h11n, h15n, hx3, hF8, h24n] at hh; first | exact hh | (simp only [List.append_assoc, List.cons_append, List.nil_append, List.singleton_append] at hh ⊢; exact hh))⟩
      · skip
        first | (have h15n := of_decide_eq_false h15) | (have h15n := of_decide_eq_true (bnf h15)) | (have h15n := bnf h15) | (have h15n := h15)
        refine c_exit ?_
        refine x_then ?_
        refine x_then ?_
        refine x_hit ?_
        refine c_then ?_
        refine c_seq ?_
        refine c_region ?_
        have rt : ∀ q ∈ l, right q.pb = true := fun q hq => i0_1 q (by rw [List.take_of_length_le (by omega)]; exact hq)
        have e0 : plistF l = packE l := by have hh := hr0; rw [chk_end (by omega)] at hh; unfold plistF; rw [if_neg h11n, hr00, ← hh]
        refine st _ (r_move rfl) ?_
        refine st_call fn68 rfl (kClone_any uQ h0 (by first | omega | (simp <;> omega) | (simp at * <;> omega)) (by first | omega | (simp <;> omega) | (simp at * <;> omega))) ?_
        rintro en w9 ⟨v9_0, x9_0, Q10, rfl, hm, ⟨sQ, sT, uQ2⟩, h9_0, hF9⟩; refine ⟨_, rfl, ?_⟩
        replace h0 := h0.sub sQ
        replace tQ := fun b hb => tQ b (sT b hb)
        replace sQ0 := fun b hb hl => sQ b (sQ0 b hb hl) (Nat.lt_of_lt_of_le hl M.size)
        replace h9_0 := h9_0.lower (Fsh.lift (S' := []) M)
        replace h0 := h0.md0 hm
        replace uQ := uQ.md hm
        replace M := M.step0 hm
        clear uQ; have uQ := uQ2; clear uQ2 sQ sT
        refine st _ (r_assign rfl) ?_
        refine st_nil ?_
        refine c_then ?_
        refine c_seq ?_
        refine c_region ?_
        refine st _ (r_move rfl) ?_
        have hS : ∀ b ∈ (vblock v9_0).toList, ¬ Q10 b := fun b hb => (h9_0.2 b (by simpa using hb)).2
        refine st_call fn69 rfl (sort_any h9_0 (by subst_vars; first | omega | (simp at *; omega)) (by subst_vars; exact rt) (by subst_vars; omega)) ?_
        rintro en w11 ⟨rfl, hm, h9_02⟩; refine ⟨_, rfl, ?_⟩
        have h9_00 := h9_0; clear h9_0; have h9_0 := h9_02; clear h9_02
        replace h0 := h0.md hm hS
        replace uQ := uQ.md hm
        replace M := M.stepO hm (fun b hb => (h9_00.2 b hb).1)
        clear h9_00 hS
        refine st_nil ?_
        refine c_then ?_
        refine c_seq ?_
        refine c_region ?_
        refine st _ (r_move rfl) ?_
        have hS : ∀ b ∈ (vblock v9_0).toList, ¬ Q10 b := fun b hb => (h9_0.2 b (by simpa using hb)).2
        refine st_call fn70 rfl (compact_any h9_0 ) ?_
        rintro en w12 ⟨v13, rfl, hm, hv2, h9_02⟩; refine ⟨_, rfl, ?_⟩
        have h9_00 := h9_0; clear h9_0; have h9_0 := h9_02; clear h9_02
        replace h0 := h0.md hm hS
        replace uQ := uQ.md hm
        replace M := M.stepO hm (fun b hb => (h9_00.2 b hb).1)
        clear h9_00 hS
        refine st _ (r_assign rfl) ?_
        refine st_nil ?_
        refine c_then ?_
        refine c_seq ?_
        refine c_seq ?_
        refine c_region ?_
        have cl := compact_len (sortF l)
        have cs : (sortF l).length = l.length := by simp [sortF]
        refine st _ (r_move rfl) ?_
        refine st _ (r_len rfl u61 h9_0.shp) ?_
        refine st _ (r_gtN (a := ((compactF (sortF x9_0)).length)) (b := 16) rfl rfl) ?_
        refine st_nil ?_
        refine c_then ?_
        refine c_if rfl (fun h35 => ?_) (fun h35 => ?_)
        · skip
          first | (have h35n := of_decide_eq_true h35) | (have h35n := of_decide_eq_false (bnt h35)) | (have h35n := bnt h35) | (have h35n := h35)
          refine c_seq ?_
          refine c_region ?_
          refine st _ (r_assign rfl) ?_
          refine st _ (r_assign rfl) ?_
          refine st_nil ?_
          refine c_then ?_
          refine c_ret ?_
          refine r_then ?_
          exact retL (vs := [(.slice none 0 0), (.int .i64 ((21 : Nat) : Int))]) trivial rfl ⟨rfl, rfl, trivial⟩ rfl ⟨_, [], 21, rfl, M, (Ls.nil _ _ _), (by first | assumption | omega | simp_all), (by rw [e0, packE, packF, hF9, if_pos h35n])⟩
        · skip
          first | (have h35n := of_decide_eq_false h35) | (have h35n := of_decide_eq_true (bnf h35)) | (have h35n := bnf h35) | (have h35n := h35)
          refine c_skip ?_
          refine c_then ?_
          refine c_seq ?_
          refine c_region ?_
          refine st _ (r_move rfl) ?_
          refine st _ (r_assign rfl) ?_
          refine st _ (r_assign rfl) ?_
          refine st_nil ?_
          refine c_then ?_
          refine c_ret ?_
          exact retL (vs := [v13, (.int .i64 ((0 : Nat) : Int))]) trivial rfl ⟨rfl, rfl, trivial⟩ rfl ⟨_, (compactF (sortF x9_0)), 0, rfl, M, (h9_0.ls (fun b hb => tQ b hb) (Fsh.up uQ0)), (by first | assumption | omega | simp_all), (by rw [e0, packE, packF, hF9, if_neg h35n])⟩
end Go.Proofs.Ytimakajeggeebaa
