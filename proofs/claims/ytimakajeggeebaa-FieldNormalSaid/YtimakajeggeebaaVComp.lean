/- Walks of functions: what each call returns, over data. -/
import Derived.Test.YtimakajeggeebaaRows
import Derived.Test.YtimakajeggeebaaCompR
import Derived.Test.YtimakajeggeebaaVFl
namespace Go.Proofs.Ytimakajeggeebaa
open Go Go.Wk Go.RowKit
set_option linter.unusedVariables false
set_option linter.unusedSimpArgs false
attribute [local irreducible] wpList wpQuiet wpStill wpMix Code.wp Calls bodyPost


theorem compact_any {w : World} {Q lo : Nat → Prop} {v : Value} {xs : List Pr} (h0 : Ow tPr 44 lo w Q v xs) :
    Calls Try.prog 70 #[v] w fun en w' => ∃ v', en = .returned v' ∧ Md (vblock v).toList w w' ∧ vblock v' = vblock v ∧ Ow tPr 44 lo w' Q v' (compactF xs) := by
  have L := h0.read.len63
  refine enter (n := 61) Try.func70 rfl rfl rfl ?_
  intro B
  refine c_seq ?_
  refine c_region ?_
  refine st _ (r_assign rfl) ?_
  refine st_nil ?_
  refine c_then ?_
  refine c_seq ?_
  refine c_seq ?_
  refine c_region ?_
  refine st _ (r_move rfl) ?_
  refine st _ (r_len rfl u61 h0.shp) ?_
  refine st _ (r_ltN (a := xs.length) (b := 2) rfl rfl) ?_
  refine st_nil ?_
  refine c_then ?_
  refine c_if rfl (fun h8 => ?_) (fun h8 => ?_)
  · have h8n := of_decide_eq_true h8
    refine c_seq ?_
    refine c_region ?_
    refine st _ (r_move rfl) ?_
    refine st _ (r_assign rfl) ?_
    refine st_nil ?_
    refine c_then ?_
    refine c_ret ?_
    refine r_then ?_
    exact ret1 trivial rfl rfl ⟨_, rfl, Md.refl _ w, rfl, (compact_short h8n).symm ▸ h0⟩
  · have h8n := of_decide_eq_false h8
    obtain ⟨b, cap, rfl, hc, hR, hlo, hQ⟩ := h0.rw_ (by omega)
    clear h0
    have hcap : xs.length ≤ cap := by obtain ⟨_, _, _, h, _⟩ := hR; exact h
    have hS : Shp (.slice (some ⟨b, 0, none⟩) xs.length cap) xs.length := ⟨_, _, rfl, hcap, hc, by simp⟩
    refine c_skip ?_
    refine c_then ?_
    refine c_seq ?_
    refine c_seq ?_
    refine c_region ?_
    refine st _ (r_assign rfl) ?_
    refine st_nil ?_
    refine c_then ?_
    refine c_block ?_
    have M := Md.refl [b] w
    refine loop1 (fun (i : Nat) => [(3, (.int .i64 ((i : Nat) : Int))), (0, .slice (some ⟨b, 0, none⟩) xs.length cap)]) (fun (i : Nat) w' => Md [b] w w' ∧ Rw w' b cap xs ∧ 1 ≤ i ∧ i ≤ xs.length ∧ xs.take i ++ ddF (xs.getD (i - 1) { name := [], value := [] }) (xs.drop i) = compactF xs) (fun (i : Nat) => xs.length - i) (x0 := 1) ?_ ?_ ?_
    · exact ⟨rfl, rfl, trivial⟩
    · exact ⟨M, hR, Nat.le_refl _, by omega, compact_start (by omega)⟩
    · clear M hR
      rintro i B w1 ⟨M, hR, hi1, hi2, hI⟩
      refine c_seq ?_
      refine c_seq ?_
      refine c_region ?_
      refine st _ (r_move rfl) ?_
      refine st _ (r_move rfl) ?_
      refine st _ (r_len rfl u61 hS) ?_
      refine st _ (r_ltN (a := i) (b := xs.length) rfl rfl) ?_
      refine st_nil ?_
      refine c_then ?_
      refine c_if rfl (fun h13 => ?_) (fun h13 => ?_)
      · have h13n := of_decide_eq_true h13
        refine c_skip ?_
        refine c_then ?_
        refine c_seq ?_
        refine c_block ?_
        refine c_seq ?_
        obtain ⟨x, hx⟩ := getE (l := xs) (i := i) h13n
        obtain ⟨y, hy⟩ := getE (l := xs) (i := i - 1) (by omega)
        have hR_q := hR
        refine c_mixT [(0, true), (1, true), (2, true), (3, true), (4, true), (5, true), (6, true), (7, true), (8, true)] [9] (fun w' => Md [] w1 w') mixed (by kernel_rfl) ?_
        intro w3 hd0; refine ⟨hd0.mono (by simp), ?_⟩
        refine Go.Wk.m _ (fun w' hc => r_move rfl) ?_
        refine Go.Wk.m _ (fun w' hc => r_move rfl) ?_
        refine Go.Wk.m _ (fun w' hc => r_indexN (i := i) 2 rfl rfl u61 el44 hS (by omega)) ?_
        refine Go.Wk.m _ (fun w' hc => r_loadEA (kk := i * 2) (Pr.cells x) 0 rfl rfl (by exact agg44) ((hR_q.at_ hx (by omega)).md0 hc) rfl) ?_
        refine Go.Wk.m _ (fun w' hc => r_move rfl) ?_
        refine Go.Wk.m _ (fun w' hc => r_move rfl) ?_
        refine Go.Wk.m _ (fun w' hc => r_subN (a := i) (b := 1) 9223372036854775808 rfl rfl rfl (by omega)) ?_
        refine Go.Wk.m _ (fun w' hc => r_indexN (i := i - 1) 2 rfl rfl u61 el44 hS (by omega)) ?_
        refine Go.Wk.m _ (fun w' hc => r_loadEA (kk := (i - 1) * 2) (Pr.cells y) 0 rfl rfl (by exact agg44) ((hR_q.at_ hy (by omega)).md0 hc) rfl) ?_
        refine m_nil ?_
        replace hR := hR.md0 hd0
        replace M := M.step0 hd0
        clear hR_q
        refine st _ (r_eqlPr (p := x) (q := y) pair44 u9 rfl rfl) ?_
        refine st_nil ?_
        refine c_then ?_
        rw [dd_step hx, pr_getD hy] at hI
        refine c_if rfl (fun h25 => ?_) (fun h25 => ?_)
        · have h25n := of_decide_eq_true h25
          rw [if_pos h25n] at hI
          have hSi : Shp (.slice (some ⟨b, i * 2, none⟩) (xs.length - i) (cap - i)) (xs.length - i) := ⟨_, _, rfl, by omega, by omega, by simp⟩
          refine c_seq ?_
          refine c_region ?_
          refine st _ (r_move rfl) ?_
          refine st _ (r_move rfl) ?_
          refine st _ (RunV.to (b := .slice (some ⟨b, i * 2, none⟩) (xs.length - i) (cap - i)) (by exact r_sliceZ 2 i xs.length u61 el44 rfl hS (by omega) (by omega) ⟨_, rfl⟩ rfl) (subz_tail (by omega))) ?_
          refine st _ (r_assign rfl) ?_
          refine st_nil ?_
          refine c_then ?_
          refine c_seq ?_
          refine c_seq ?_
          refine c_region ?_
          refine st _ (r_assign rfl) ?_
          refine st_nil ?_
          refine c_then ?_
          refine c_block ?_
          refine loop3 (fun (ys : List Pr) (j : Nat) (k : Nat) => [(3, (.int .i64 ((j : Nat) : Int))), (5, (.int .i64 ((k : Nat) : Int))), (0, .slice (some ⟨b, 0, none⟩) xs.length cap), (4, .slice (some ⟨b, i * 2, none⟩) (xs.length - i) (cap - i))])
            (fun (ys : List Pr) (j : Nat) (k : Nat) w' => Md [b] w w' ∧ Rw w' b cap ys ∧ ys.length = xs.length ∧ i ≤ j ∧ j + 1 ≤ i + k ∧ i + k ≤ xs.length ∧ (∀ q, i + k - 1 ≤ q → ys[q]? = xs[q]?) ∧ ys.take j ++ ddF (xs.getD (i + k - 1) { name := [], value := [] }) (xs.drop (i + k)) = compactF xs)
            (fun (ys : List Pr) (j : Nat) (k : Nat) => xs.length - k) (x0 := xs) (x1 := i) (x2 := 1) ?_ ?_ ?_
          · exact ⟨rfl, rfl, rfl, rfl, trivial⟩
          · exact ⟨M, hR, rfl, Nat.le_refl _, Nat.le_refl _, by omega, fun q _ => rfl, by rw [Nat.add_sub_cancel, pr_getD hx]; exact hI⟩
          · clear M hR
            rintro ys j k B w4 ⟨M, hR, hl, hj1, hj2, hk, hq, hJ⟩
            have hS2 : Shp (.slice (some ⟨b, 0, none⟩) xs.length cap) xs.length := hS
            refine c_seq ?_
            refine c_seq ?_
            refine c_region ?_
            refine st _ (r_move rfl) ?_
            refine st _ (r_move rfl) ?_
            refine st _ (r_len rfl u61 hSi) ?_
            refine st _ (r_ltN (a := k) (b := xs.length - i) rfl rfl) ?_
            refine st_nil ?_
            refine c_then ?_
            refine c_if rfl (fun h32 => ?_) (fun h32 => ?_)
            · have h32n := of_decide_eq_true h32
              refine c_skip ?_
              refine c_then ?_
              refine c_seq ?_
              refine c_block ?_
              refine c_seq ?_
              obtain ⟨s, hs⟩ := getE (l := xs) (i := i + k) (by omega)
              obtain ⟨t, ht⟩ := getE (l := xs) (i := i + k - 1) (by omega)
              have hs' := (hq (i + k) (by omega)).trans hs
              have ht' := (hq (i + k - 1) (by omega)).trans ht
              have hR_q := hR
              refine c_mixT [(0, true), (1, true), (2, true), (3, true), (4, true), (5, true), (6, true), (7, true), (8, true)] [9] (fun w' => Md [] w4 w') mixed (by kernel_rfl) ?_
              intro w5 hd0; refine ⟨hd0.mono (by simp), ?_⟩
              refine Go.Wk.m _ (fun w' hc => r_move rfl) ?_
              refine Go.Wk.m _ (fun w' hc => r_move rfl) ?_
              refine Go.Wk.m _ (fun w' hc => r_indexN (i := k) 2 rfl rfl u61 el44 hSi (by omega)) ?_
              refine Go.Wk.m _ (fun w' hc => r_loadEA (kk := k * 2) (Pr.cells s) 0 rfl rfl (by exact agg44) ((hR_q.at_ hs' (by omega)).md0 hc) rfl) ?_
              refine Go.Wk.m _ (fun w' hc => r_move rfl) ?_
              refine Go.Wk.m _ (fun w' hc => r_move rfl) ?_
              refine Go.Wk.m _ (fun w' hc => r_subN (a := k) (b := 1) 9223372036854775808 rfl rfl rfl (by omega)) ?_
              refine Go.Wk.m _ (fun w' hc => r_indexN (i := k - 1) 2 rfl rfl u61 el44 hSi (by omega)) ?_
              refine Go.Wk.m _ (fun w' hc => r_loadEA (kk := (k - 1) * 2) (Pr.cells t) 0 rfl rfl (by exact agg44) ((hR_q.at_ ht' (by omega)).md0 hc) rfl) ?_
              refine m_nil ?_
              replace hR := hR.md0 hd0
              replace M := M.step0 hd0
              clear hR_q
              refine st _ (r_neqPr (p := s) (q := t) pair44 u9 rfl rfl) ?_
              refine st_nil ?_
              refine c_then ?_
              rw [dd_step hs, pr_getD ht] at hJ
              refine c_if rfl (fun h44 => ?_) (fun h44 => ?_)
              · have h44n : ¬ s.pb = t.pb := by simpa using h44
                rw [if_neg h44n] at hJ
                refine c_seq ?_
                refine c_region ?_
                refine st _ (r_move rfl) ?_
                refine st _ (r_move rfl) ?_
                refine st _ (r_move rfl) ?_
                refine st _ (r_move rfl) ?_
                refine st _ (r_indexN (i := k) 2 rfl rfl u61 el44 hSi (by omega)) ?_
                refine st _ (r_loadEA (kk := k * 2) (Pr.cells s) 0 rfl rfl (by exact agg44) (hR.at_ hs' (by omega)) rfl) ?_
                refine st _ ((r_indexN (i := j) 2 rfl rfl u61 el44 hS (by omega)).to (b := .pointer (some ⟨b, j * 2, none⟩)) (by simp [elemp, Addr.add_mk])) ?_
                obtain ⟨cur, hB, hcl, hset⟩ := hR.into (i := j) (z := s) (by omega)
                refine st_storeAgg (b := b) (j := j * 2) (us := Pr.cells s) rfl rfl (by exact agg44) (fun u hu => one_cells rfl u hu) hB hcl ?_
                intro w6 hm hB2
                replace hR := hset _ hB2
                replace M := M.step1' hm (by simp)
                refine st_nil ?_
                refine c_then ?_
                refine c_region ?_
                refine st _ (r_move rfl) ?_
                refine st _ (r_addN (a := j) (b := 1) 9223372036854775808 rfl rfl rfl (by omega)) ?_
                refine st _ (r_assign rfl) ?_
                refine st_nil ?_
                refine n_block ?_
                refine c_then ?_
                refine c_region ?_
                refine st _ (r_move rfl) ?_
                refine st _ (r_addN (a := k) (b := 1) 9223372036854775808 rfl rfl rfl (by omega)) ?_
                refine st _ (r_assign rfl) ?_
                refine st_nil ?_
                refine c_then ?_
                refine next3 (x0 := ys.set j s) (x1 := j + 1) (x2 := k + 1) (by omega) ⟨(fitI rfl (by omega)), (fitI rfl (by omega)), rfl, rfl, trivial⟩ ⟨M, hR, by simpa using hl, by omega, by omega, by omega, fun q hq2 => by rw [List.getElem?_set_ne (by omega)]; exact hq q (by omega), ?_⟩
                rw [show i + (k + 1) - 1 = i + k by omega, pr_getD hs, show i + (k + 1) = i + k + 1 by omega, take_set_succ (by omega), List.append_assoc]
                exact hJ
              · have h44n : s.pb = t.pb := by simpa using h44
                rw [if_pos h44n] at hJ
                refine c_skip ?_
                refine n_block ?_
                refine c_then ?_
                refine c_region ?_
                refine st _ (r_move rfl) ?_
                refine st _ (r_addN (a := k) (b := 1) 9223372036854775808 rfl rfl rfl (by omega)) ?_
                refine st _ (r_assign rfl) ?_
                refine st_nil ?_
                refine c_then ?_
                refine next3 (x0 := ys) (x1 := j) (x2 := k + 1) (by omega) ⟨rfl, (fitI rfl (by omega)), rfl, rfl, trivial⟩ ⟨M, hR, hl, by omega, by omega, by omega, fun q hq2 => hq q (by omega), ?_⟩
                rw [show i + (k + 1) - 1 = i + k by omega, pr_getD hs, show i + (k + 1) = i + k + 1 by omega]
                exact hJ
            · have h32n := of_decide_eq_false h32
              rw [dd_end (by omega), List.append_nil] at hJ
              refine c_exit ?_
              refine x_then ?_
              refine x_then ?_
              refine x_hit ?_
              refine c_then ?_
              refine c_seq ?_
              refine c_region ?_
              refine st _ (r_move rfl) ?_
              refine st _ (r_move rfl) ?_
              refine st _ (RunV.to (b := .slice (some ⟨b, j * 2, none⟩) (xs.length - j) (cap - j)) (by exact r_sliceZ 2 j xs.length u61 el44 rfl hS (by omega) (by omega) ⟨_, rfl⟩ rfl) (subz_tail (by omega))) ?_
              obtain ⟨cur, hB, hcl, hset⟩ := hR.clear (i := j) (m := xs.length - j) (by omega) (by omega)
              refine st_clear (o := j * 2) (m := xs.length - j) u61 z44 (by intro u hu; simp at hu; subst hu; rfl) rfl (by omega) hB hcl ?_
              intro w6 us hm hus hB2
              replace hR := hset _ us hus hB2
              rw [hJ] at hR
              replace M := M.step1' hm (by simp)
              refine st_nil ?_
              refine c_then ?_
              refine c_seq ?_
              refine c_region ?_
              refine st _ (r_move rfl) ?_
              refine st _ (r_move rfl) ?_
              refine st _ (RunV.to (b := .slice (some ⟨b, 0, none⟩) j cap) (by exact r_sliceZ 2 0 j u61 el44 rfl hS (by omega) (by omega) rfl ⟨_, rfl⟩) (subz_head (by omega))) ?_
              refine st _ (r_assign rfl) ?_
              refine st_nil ?_
              refine c_then ?_
              refine c_ret ?_
              repeat (first | refine r_then ?_ | refine r_block ?_)
              have hjl : j = (compactF xs).length := by rw [← hJ, List.length_take]; omega
              refine ret1 trivial rfl rfl ⟨_, rfl, M, rfl, ?_⟩
              rw [hjl]
              exact hR.ow hc hlo hQ
        · have h25n := of_decide_eq_false h25
          rw [if_neg h25n] at hI
          refine c_skip ?_
          refine n_block ?_
          refine c_then ?_
          refine c_region ?_
          refine st _ (r_move rfl) ?_
          refine st _ (r_addN (a := i) (b := 1) 9223372036854775808 rfl rfl rfl (by omega)) ?_
          refine st _ (r_assign rfl) ?_
          refine st_nil ?_
          refine c_then ?_
          refine next1 (x0 := (i + 1)) (by omega) ⟨(fitI rfl (by omega)), rfl, trivial⟩ ⟨M, hR, by omega, by omega, ?_⟩
          rw [Nat.add_sub_cancel, pr_getD hx, List.take_add_one, hx, Option.toList_some, List.append_assoc]
          exact hI
      · have h13n := of_decide_eq_false h13
        rw [dd_end (by omega), List.append_nil, List.take_of_length_le (by omega)] at hI
        refine c_exit ?_
        refine x_then ?_
        refine x_then ?_
        refine x_hit ?_
        refine c_then ?_
        refine c_seq ?_
        refine c_region ?_
        refine st _ (r_move rfl) ?_
        refine st _ (r_assign rfl) ?_
        refine st_nil ?_
        refine c_then ?_
        refine c_ret ?_
        repeat (first | refine r_then ?_ | refine r_block ?_)
        refine ret1 trivial rfl rfl ⟨_, rfl, M, rfl, ?_⟩
        rw [← hI]
        exact hR.ow hc hlo hQ

end Go.Proofs.Ytimakajeggeebaa
