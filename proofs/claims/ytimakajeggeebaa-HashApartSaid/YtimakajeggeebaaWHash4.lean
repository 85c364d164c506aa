/- Walks of functions: what each call returns. -/
import Derived.Test.YtimakajeggeebaaRows
import Derived.Test.YtimakajeggeebaaDraws
import Derived.Test.YtimakajeggeebaaWHash
import Derived.Test.YtimakajeggeebaaWHash2
import Derived.Test.YtimakajeggeebaaWHash3
import Derived.Test.YtimakajeggeebaaOpens
namespace Go.Proofs.Ytimakajeggeebaa
open Go Go.Wk Go.RowKit
attribute [local irreducible] wpList wpQuiet wpStill wpMix Code.wp Calls bodyPost
theorem el25 : elemIs Try.prog 25 1 = true := by kernel_rfl
theorem u33 : Try.prog.underlying 33 = some (.slice 25) := by kernel_rfl
theorem u34 : Try.prog.underlying 34 = some (.pointer 83) := by kernel_rfl

/-- A sum at b, its rest in 'rest', that has taken l; all its blocks are from lo on. -/
def HH (w : World) (lo : Nat) (key : List UInt8) (b : Nat) (rest : Value) (l : List UInt8) : Prop :=
  ∃ v rl, Blk w b (v.cells (l.length) rest) 83 ∧ Own w 5 1 rest rl.length (rl.map b8) ∧ rl.length < 8 ∧ sipAbs (sipInit key) l = (v, rl) ∧ lo ≤ b ∧ (∀ g, vblock rest = some g → lo ≤ g)
def HB (b : Nat) (rest : Value) : List Nat := b :: (vblock rest).toList
theorem mem_HB {b i : Nat} {rest : Value} : i ∈ HB b rest ↔ i = b ∨ vblock rest = some i := by
  unfold HB; cases h : vblock rest <;> simp [eq_comm]
section
variable {w w' : World} {lo b : Nat} {key l : List UInt8} {rest : Value}
theorem HH.md {S : List Nat} (h : HH w lo key b rest l) (m : Md S w w') (hd : ∀ i ∈ HB b rest, i ∉ S) : HH w' lo key b rest l := by
  obtain ⟨v, rl, h1, h2, h3, h4, h5, h6⟩ := h
  exact ⟨v, rl, h1.md m (hd _ (mem_HB.2 (.inl rfl))), h2.md m (fun g hg => hd _ (mem_HB.2 (.inr hg))), h3, h4, h5, h6⟩
theorem HH.md0 (h : HH w lo key b rest l) (m : Md [] w w') : HH w' lo key b rest l := h.md m (by simp)
theorem HH.lt (h : HH w lo key b rest l) : ∀ i ∈ HB b rest, i < w.heap.size := by
  obtain ⟨v, rl, h1, h2, _⟩ := h
  intro i hi
  rcases mem_HB.1 hi with rfl | hg
  · exact h1.lt
  · exact h2.lt _ hg
theorem HH.los (h : HH w lo key b rest l) : ∀ i ∈ HB b rest, lo ≤ i := by
  obtain ⟨v, rl, h1, h2, h3, h4, h5, h6⟩ := h
  intro i hi
  rcases mem_HB.1 hi with rfl | hg
  · exact h5
  · exact h6 _ hg
/-- No block of another type is one of its own. -/
theorem HH.notin (h : HH w lo key b rest l) {c : Nat} {cs : List Value} {t : TypeId} (hc : Blk w c cs t) (ht : Nat.beq 5 t = false) (ht2 : Nat.beq 83 t = false) : c ∉ HB b rest := by
  obtain ⟨v, rl, h1, h2, _⟩ := h
  intro hi
  rcases mem_HB.1 hi with rfl | hg
  · unfold Blk at h1 hc
    rw [h1] at hc
    simp at hc
    rw [hc.2] at ht2
    simp at ht2
  · exact h2.ne hc ht _ hg rfl
/-- Another row of bytes is apart where its block isn't the rest's. -/
theorem HH.row (h : HH w lo key b rest l) {x : Value} {xs : List Value} {m : Nat} (hx : Own w 5 1 x m xs) (hd : ∀ g, vblock rest = some g → vblock x ≠ some g) : ∀ g, vblock x = some g → g ∉ HB b rest := by
  intro g hg hi
  obtain ⟨v, rl, h1, h2, _⟩ := h
  rcases mem_HB.1 hi with rfl | hr
  · exact hx.ne h1 rfl _ hg rfl
  · exact hd g hr hg
theorem HH.row' (h : HH w lo key b rest l) {x : Value} {xs : List Value} {m : Nat} (hx : Own w 5 1 x m xs) (hd : ∀ g, vblock rest = some g → vblock x ≠ some g) : ∀ i ∈ HB b rest, i ∉ (vblock x).toList := by
  intro i hi hm
  cases hv : vblock x with
  | none => rw [hv] at hm; simp at hm
  | some g => rw [hv] at hm; simp at hm; subst hm; exact h.row hx hd _ hv hi
end
theorem newH (key : List UInt8) (w : World) (lo : Nat) (hk : key.length = 16) (hlo : lo ≤ w.heap.size) :
    Calls Try.prog 21 #[.agg (key.map b8).toArray] w fun e w' => ∃ b, e = .returned (.pointer (some ⟨b, 0, none⟩)) ∧ w.heap.size ≤ b ∧ Md [] w w' ∧ HH w' lo key b (.slice none 0 0) [] :=
  (new_any key w hk).mono fun e w' ⟨b, he, hb, _, hm, hB⟩ => ⟨b, he, hb, hm, sipInit key, [], hB, Own.nil _ _ _, by decide, sipAbs_done _ _ (by decide), by omega, by simp [vblock]⟩
theorem addH (b lo : Nat) (key : List UInt8) (rest : Value) (l : List UInt8) (s : Value) (m : List UInt8) (w : World) (h : HH w lo key b rest l) (hlo : lo ≤ w.heap.size) (hB : By w s m) (hA : Apart s m (HB b rest)) (hl : l.length + m.length ≤ 4611686018427387904) :
    Calls Try.prog 22 #[.pointer (some ⟨b, 0, none⟩), s] w fun e w' => e = .returned (.tuple #[]) ∧ ∃ rest', Md (HB b rest) w w' ∧ HH w' lo key b rest' (l ++ m) ∧ (∀ i ∈ HB b rest', i ∈ HB b rest ∨ w.heap.size ≤ i) := by
  obtain ⟨v, rl, h1, h2, h3, h4, h5, h6⟩ := h
  refine (add_any b v _ rest rl s m w h1 h2 h3 hB hA (by omega) (by omega)).mono fun e w' ⟨he, rest', hm, g1, g2, g3⟩ => ⟨he, rest', hm, ⟨(sipAbs v (rl ++ m)).1, (sipAbs v (rl ++ m)).2, ?_, g2, ?_, ?_, h5, ?_⟩, ?_⟩
  · have : ((l ++ m).length : Int) = (l.length : Int) + m.length := by simp
    rw [this]; exact g1
  · exact sipAbs_len _ _ _ (Nat.le_refl _)
  · rw [sipAbs_append _ _ _ _ (Nat.le_refl _), h4]
  · intro g hg
    rcases g3 g hg with h | h
    · exact h6 g h
    · omega
  · intro i hi
    rcases mem_HB.1 hi with rfl | hg
    · exact .inl (mem_HB.2 (.inl rfl))
    · rcases g3 i hg with h | h
      · exact .inl (mem_HB.2 (.inr h))
      · exact .inr h
theorem valueH (b lo : Nat) (key : List UInt8) (rest : Value) (l : List UInt8) (w : World) (h : HH w lo key b rest l) :
    Calls Try.prog 23 #[.pointer (some ⟨b, 0, none⟩)] w fun e w' => e = .returned (.int .u64 (sip key l)) ∧ Md [] w w' := by
  obtain ⟨v, rl, h1, h2, h3, h4, h5, h6⟩ := h
  refine (value_any b v _ rest rl w h1 h2 h3 (by omega)).mono fun e w' ⟨he, hm⟩ => ⟨?_, hm⟩
  rw [he, sip, h4]
/-- Behind an Add the rest's block is still none of another row's. -/
theorem HH.dj {w w' : World} {lo b m : Nat} {key l l' : List UInt8} {rest rest' x : Value} {xs : List Value} (h : HH w lo key b rest l) (h' : HH w' lo key b rest' l') (hx : Own w 5 1 x m xs) (hd : ∀ g, vblock rest = some g → vblock x ≠ some g)
    (hg : ∀ i ∈ HB b rest', i ∈ HB b rest ∨ w.heap.size ≤ i) : ∀ g, vblock rest' = some g → vblock x ≠ some g := by
  intro g hr hxg
  rcases hg g (mem_HB.2 (.inr hr)) with h1 | h1
  · exact h.row hx hd g hxg h1
  · have := hx.lt g hxg; omega
theorem rows_at {w : World} {v : Value} {vs : List Value} {ls : List (List UInt8)} (h : Wk.Rows w v vs ls) (i : Nat) (hi : i < vs.length) : ∃ u l, vs[(i : Int).toNat]? = some u ∧ ls[i]? = some l ∧ By w u l := by
  obtain ⟨h1, h2, h3⟩ := h
  have e1 : vs[i]? = some (vs[i]'hi) := List.getElem?_eq_getElem hi
  have e2 : ls[i]? = some (ls[i]'(by omega)) := List.getElem?_eq_getElem (by omega)
  exact ⟨_, _, e1, e2, h3 i _ _ e1 e2⟩
theorem apartS {w : World} {v : Value} {l : List UInt8} {S : List Nat} (h : By w v l) (hS : ∀ i ∈ S, w.heap.size ≤ i) : Apart v l S := Apart.of_oldB h hS

theorem hashPieces_walk (v : Value) (vs : List Value) (ls : List (List UInt8)) (key : List UInt8) (w : World) (hR : Wk.Rows w v vs ls) (hk : key.length = 16) :
    Calls Try.prog 5 #[v, .agg (key.map b8).toArray] w fun e w' => e = .returned (.bool true) ∧ Md [] w w' := by
  have M := Md.refl [] w
  refine enter (n := 67) Try.func5 rfl rfl rfl ?_
  intro B
  refine c_seq ?_
  refine c_region ?_
  refine st_box rfl rfl ?_
  intro bK w1 gK lK hm hK
  replace gK := Nat.le_trans M.size gK
  replace M := M.step0 hm
  refine st _ (r_assign rfl) ?_
  refine st_nil ?_
  refine c_then ?_
  refine c_seq ?_
  refine c_region ?_
  refine st_call fn13 rfl (first2_any _) ?_
  rintro e w2 ⟨rfl, hm⟩; refine ⟨_, rfl, ?_⟩
  replace hK := hK.md0 hm
  replace M := M.step0 hm
  refine st _ (r_assign rfl) ?_
  refine st_nil ?_
  refine c_then ?_
  refine c_seq ?_
  refine c_seq ?_
  refine c_region ?_
  refine st _ (r_move rfl) ?_
  refine st _ (r_not rfl) ?_
  refine st_nil ?_
  refine c_then ?_
  refine c_if_f rfl rfl ?_
  refine c_skip ?_
  refine c_then ?_
  refine c_seq ?_
  refine c_seq ?_
  refine c_region ?_
  refine st _ (r_move rfl) ?_
  refine st _ (r_len rfl u33 hR.1.shp) ?_
  refine st _ (r_gt rfl rfl) ?_
  refine st_nil ?_
  refine c_then ?_
  refine c_if rfl (fun h14 => ?_) (fun h14 => ?_)
  · skip
    first | (have h14n := of_decide_eq_true h14) | (have h14n := of_decide_eq_false (bnt h14)) | (have h14n := bnt h14) | (have h14n := h14)
    refine c_seq ?_
    refine c_region ?_
    refine st _ (r_move rfl) ?_
    refine st _ (r_assign rfl) ?_
    refine st_nil ?_
    refine c_then ?_
    refine c_ret ?_
    refine r_then ?_
    exact ret1 trivial rfl rfl ⟨rfl, M⟩
  · skip
    first | (have h14n := of_decide_eq_false h14) | (have h14n := of_decide_eq_true (bnf h14)) | (have h14n := bnf h14) | (have h14n := h14)
    refine c_skip ?_
    refine c_then ?_
    refine c_seq ?_
    refine c_region ?_
    refine st _ (r_loadAll rfl (by rw [(by simpa using hk : (key.map b8).length = 16)]; exact agg23) hK) ?_
    refine st_call fn21 rfl (newH key _ w.heap.size hk M.size) ?_
    rintro e w50 ⟨bS, rfl, gS, hm, hH⟩; refine ⟨_, rfl, ?_⟩
    replace hK := hK.md0 hm
    replace M := M.step0 hm
    refine st _ (r_assign rfl) ?_
    refine st_nil ?_
    refine c_then ?_
    refine c_seq ?_
    refine c_seq ?_
    refine c_region ?_
    refine st _ (r_move rfl) ?_
    refine st _ (r_eqlPN rfl u34) ?_
    refine st_nil ?_
    refine c_then ?_
    refine c_if_f rfl rfl ?_
    refine c_skip ?_
    refine c_then ?_
    refine c_seq ?_
    refine c_region ?_
    refine st _ (r_assign rfl) ?_
    refine st_nil ?_
    refine c_then ?_
    refine c_seq ?_
    refine c_seq ?_
    refine c_region ?_
    refine st _ (r_assign rfl) ?_
    refine st_nil ?_
    refine c_then ?_
    refine c_block ?_
    refine c_loop (X := Nat × Value × Value × List UInt8) (fun x => [(0, v), (3, .pointer (some ⟨bK, 0, none⟩)), (5, .bool true), (6, .pointer (some ⟨bS, 0, none⟩)), (7, x.2.2.1), (8, .int .i64 x.1)]) (fun x w' => Md [] w w' ∧ Blk w' bK (key.map b8) 23 ∧ HH w' w.heap.size key bS x.2.1 x.2.2.2 ∧ Own w' 5 1 x.2.2.1 x.2.2.2.length (x.2.2.2.map b8) ∧ (∀ b, vblock x.2.2.1 = some b → w.heap.size ≤ b) ∧ (∀ g, vblock x.2.1 = some g → vblock x.2.2.1 ≠ some g) ∧ x.1 ≤ vs.length ∧ x.2.2.2.length ≤ 30 * x.1) (fun x => vs.length - x.1) (0, .slice none 0 0, .slice none 0 0, []) ?_ ?_ ?_
    · exact ⟨rfl, rfl, rfl, rfl, rfl, rfl, trivial⟩
    · exact ⟨M, hK, hH, Own.nil _ _ _, by simp [vblock], by simp [vblock], Nat.zero_le _, Nat.le_refl _⟩
    · clear M
      clear hK hH
      rintro x B w3 ⟨M, hK, hH, hX, hxl, hdj, hi, hA⟩
      obtain ⟨i, rest, x2, A⟩ := x; simp only at hH hX hxl hdj hi hA
      refine c_seq ?_
      refine c_seq ?_
      refine c_region ?_
      refine st _ (r_move rfl) ?_
      refine st _ (r_move rfl) ?_
      refine st _ (r_len rfl u33 hR.1.shp) ?_
      refine st _ (r_lt rfl rfl) ?_
      refine st_nil ?_
      refine c_then ?_
      refine c_if rfl (fun h23 => ?_) (fun h23 => ?_)
      · skip
        first | (have h23n := of_decide_eq_true h23) | (have h23n := of_decide_eq_false (bnt h23)) | (have h23n := bnt h23) | (have h23n := h23)
        obtain ⟨u, lu, hu, hlu, hbu⟩ := rows_at hR i (by omega)
        have hlen := hbu.len63
        refine c_skip ?_
        refine c_then ?_
        refine c_seq ?_
        refine c_block ?_
        refine c_seq ?_
        refine c_seq ?_
        refine c_region ?_
        refine st _ (r_move rfl) ?_
        refine st _ (r_move rfl) ?_
        refine st _ (r_index rfl rfl u33 el25 hR.1.shp (by omega)) ?_
        refine st _ (r_loadEl rfl one25 (hR.1.md0 M) hu) ?_
        refine st _ (r_len rfl u25 hbu.shp) ?_
        refine st _ (r_gt rfl rfl) ?_
        refine st_nil ?_
        refine c_then ?_
        refine c_if rfl (fun h31 => ?_) (fun h31 => ?_)
        · skip
          first | (have h31n := of_decide_eq_true h31) | (have h31n := of_decide_eq_false (bnt h31)) | (have h31n := bnt h31) | (have h31n := h31)
          refine c_seq ?_
          refine c_region ?_
          refine st _ (r_assign rfl) ?_
          refine st_nil ?_
          refine c_then ?_
          refine c_ret ?_
          refine r_then ?_
          refine r_block ?_
          refine r_then ?_
          refine r_then ?_
          refine r_block ?_
          refine r_then ?_
          exact ret1 trivial rfl rfl ⟨rfl, M⟩
        · skip
          first | (have h31n := of_decide_eq_false h31) | (have h31n := of_decide_eq_true (bnf h31)) | (have h31n := bnf h31) | (have h31n := h31)
          refine c_skip ?_
          refine c_then ?_
          refine c_seq ?_
          refine c_region ?_
          refine st _ (r_move rfl) ?_
          refine st _ (r_move rfl) ?_
          refine st _ (r_move rfl) ?_
          refine st _ (r_index rfl rfl u33 el25 hR.1.shp (by omega)) ?_
          refine st _ (r_loadEl rfl one25 (hR.1.md0 M) hu) ?_
          refine st_call fn22 rfl (addH bS _ key rest A u lu _ hH M.size (hbu.md0 M) (apartS hbu hH.los) (by omega)) ?_
          rintro e w60 ⟨rfl, rest2, hm, hH2, hgr⟩; refine ⟨_, rfl, ?_⟩
          have hdj2 := hH.dj hH2 hX hdj hgr
          replace hX := hX.md hm (hH.row hX hdj)
          replace hK := hK.md hm (hH.notin hK rfl rfl)
          replace M := M.step hm (fun i hi => .inr (hH.los i hi))
          replace hH := hH2; clear hH2
          refine st_nil ?_
          refine c_then ?_
          refine c_seq ?_
          refine c_region ?_
          refine st _ (r_move rfl) ?_
          refine st _ (r_move rfl) ?_
          refine st _ (r_move rfl) ?_
          refine st _ (r_index rfl rfl u33 el25 hR.1.shp (by omega)) ?_
          refine st _ (r_loadEl rfl one25 (hR.1.md0 M) hu) ?_
          refine st_appendB u25 elT5 rfl rfl hX (hbu.md0 M) (by omega) ?_
          intro x3 w4 hX2 hm _ hbk
          have hdj3 : ∀ g, vblock rest2 = some g → vblock x3 ≠ some g := fun g h1 h2 => (hbk g h2).elim (fun h3 => hdj2 g h1 h3) (fun h3 => by have := hH.lt g (mem_HB.2 (.inr h1)); omega)
          have hxl2 : ∀ b, vblock x3 = some b → w.heap.size ≤ b := fun b h => (hbk b h).elim (fun h => hxl b h) (fun h => Nat.le_trans M.size h)
          replace hK := hK.mdO hX rfl hm
          replace hH := hH.md hm (hH.row' hX hdj2)
          replace M := M.stepO hm (fun b h => .inr (hxl b h))
          clear hX
          refine st _ (r_assign rfl) ?_
          refine st_nil ?_
          refine c_then ?_
          refine c_seq ?_
          have hK_q := hK
          have hH_q := hH
          have hX2_q := hX2
          have M_q := M
          refine c_mix [(0, true), (2, true), (3, true), (1, false), (4, false), (5, true), (6, true), (7, true), (9, true), (10, true), (8, false), (11, false), (12, true), (13, true)] (fun w' => Md [] w4 w') mixed (by kernel_rfl) ?_
          intro w5 hm
          have MC := hm
          replace hK := hK.md0 hm
          replace hH := hH.md0 hm
          replace hX2 := hX2.md0 hm
          replace M := M.step0 hm
          refine ⟨MC, ?_⟩
          refine m _ (fun w' hc => r_move rfl) ?_
          refine m _ (fun w' hc => r_loadAll rfl (by rw [(by simpa using hk : (key.map b8).length = 16)]; exact agg23) (hK_q.md0 hc)) ?_
          refine m _ (fun w' hc => r_move rfl) ?_
          refine m_e ?_ rfl
          refine st_call fn23 rfl (valueH bS _ key _ _ _ hH) ?_
          rintro e w6 ⟨rfl, hm⟩; refine ⟨_, rfl, ?_⟩
          replace hK := hK.md0 hm
          replace hH := hH.md0 hm
          replace hX2 := hX2.md0 hm
          replace MC := MC.step0 hm
          replace M := M.step0 hm
          refine st_nil ⟨rfl, MC, ?_⟩
          refine m_e ?_ rfl
          refine st_call fn17 rfl (sip_any key _ _ _ hk (By.of_own hX2) (by first | omega | (simp; omega))) ?_
          rintro e w7 ⟨rfl, hm⟩; refine ⟨_, rfl, ?_⟩
          replace hK := hK.md0 hm
          replace hH := hH.md0 hm
          replace hX2 := hX2.md0 hm
          replace MC := MC.step0 hm
          replace M := M.step0 hm
          refine st_nil ⟨rfl, MC, ?_⟩
          refine m _ (fun w' hc => (r_ne rfl rfl).castB (decide_eq_false (fun h => h rfl))) ?_
          refine m _ (fun w' hc => r_move rfl) ?_
          refine m_g _ rfl rfl rfl rfl (fun w' hc => r_move rfl) ?_
          refine m_g _ rfl rfl rfl rfl (fun w' hc => r_loadAll rfl (by rw [(by simpa using hk : (key.map b8).length = 16)]; exact agg23) (hK_q.md0 hc)) ?_
          refine m_g _ rfl rfl rfl rfl (fun w' hc => r_move rfl) ?_
          refine m_e_g rfl rfl rfl rfl rfl ?_
          refine st_call_g rfl rfl rfl rfl fn23 rfl (valueH bS _ key _ _ _ hH) ?_
          rintro e w8 ⟨rfl, hm⟩; refine ⟨_, rfl, ?_⟩
          replace hK := hK.md0 hm
          replace hH := hH.md0 hm
          replace hX2 := hX2.md0 hm
          replace MC := MC.step0 hm
          replace M := M.step0 hm
          refine st_nil ⟨rfl, MC, ?_⟩
          refine m_e_g rfl rfl rfl rfl rfl ?_
          refine st_call_g rfl rfl rfl rfl fn19 rfl (of_any true key _ _ _ hk (By.of_own hX2) (by first | omega | (simp; omega))) ?_
          rintro e w9 ⟨rfl, hm⟩; refine ⟨_, rfl, ?_⟩
          replace hK := hK.md0 hm
          replace hH := hH.md0 hm
          replace hX2 := hX2.md0 hm
          replace MC := MC.step0 hm
          replace M := M.step0 hm
          refine st_nil ⟨rfl, MC, ?_⟩
          refine m_g _ rfl rfl rfl rfl (fun w' hc => (r_ne rfl rfl).castB (decide_eq_false (fun h => h rfl))) ?_
          refine m _ (fun w' hc => r_pick_f rfl rfl rfl) ?_
          refine m_nil ?_
          refine c_then ?_
          refine c_if_f rfl rfl ?_
          refine c_skip ?_
          refine n_block ?_
          refine c_then ?_
          refine c_region ?_
          refine st _ (r_move rfl) ?_
          refine st _ (r_addI rfl rfl (by omega)) ?_
          refine st _ (r_assign rfl) ?_
          refine st_nil ?_
          refine c_then ?_
          refine next ((i + 1, rest2, x3, A ++ lu)) (by simp; omega) ⟨rfl, rfl, rfl, rfl, rfl, fitI rfl (by simp), trivial⟩ ?_
          exact ⟨M, hK, hH, hX2, hxl2, hdj3, by simp; omega, by simp; omega⟩
      · skip
        first | (have h23n := of_decide_eq_false h23) | (have h23n := of_decide_eq_true (bnf h23)) | (have h23n := bnf h23) | (have h23n := h23)
        refine c_exit ?_
        refine x_then ?_
        refine x_then ?_
        refine x_hit ?_
        refine c_then ?_
        refine c_seq ?_
        have hK_q := hK
        have hH_q := hH
        have hX_q := hX
        have M_q := M
        refine c_mix [(0, true), (1, true), (2, true), (4, true), (5, true), (3, false), (6, false), (7, true), (8, true), (9, true)] (fun w' => Md [] w3 w') mixed (by kernel_rfl) ?_
        intro w10 hm
        have MC := hm
        replace hK := hK.md0 hm
        replace hH := hH.md0 hm
        replace hX := hX.md0 hm
        replace M := M.step0 hm
        refine ⟨MC, ?_⟩
        refine m _ (fun w' hc => r_move rfl) ?_
        refine m _ (fun w' hc => r_move rfl) ?_
        refine m_g _ rfl rfl rfl rfl (fun w' hc => r_move rfl) ?_
        refine m_g _ rfl rfl rfl rfl (fun w' hc => r_loadAll rfl (by rw [(by simpa using hk : (key.map b8).length = 16)]; exact agg23) (hK_q.md0 hc)) ?_
        refine m_g _ rfl rfl rfl rfl (fun w' hc => r_move rfl) ?_
        refine m_e_g rfl rfl rfl rfl rfl ?_
        refine st_call_g rfl rfl rfl rfl fn23 rfl (valueH bS _ key _ _ _ hH) ?_
        rintro e w11 ⟨rfl, hm⟩; refine ⟨_, rfl, ?_⟩
        replace hK := hK.md0 hm
        replace hH := hH.md0 hm
        replace hX := hX.md0 hm
        replace MC := MC.step0 hm
        replace M := M.step0 hm
        refine st_nil ⟨rfl, MC, ?_⟩
        refine m_e_g rfl rfl rfl rfl rfl ?_
        refine st_call_g rfl rfl rfl rfl fn17 rfl (sip_any key _ _ _ hk (By.of_own hX) (by first | omega | (simp; omega))) ?_
        rintro e w12 ⟨rfl, hm⟩; refine ⟨_, rfl, ?_⟩
        replace hK := hK.md0 hm
        replace hH := hH.md0 hm
        replace hX := hX.md0 hm
        replace MC := MC.step0 hm
        replace M := M.step0 hm
        refine st_nil ⟨rfl, MC, ?_⟩
        refine m_g _ rfl rfl rfl rfl (fun w' hc => (r_eq rfl rfl).castB (decide_eq_true rfl)) ?_
        refine m _ (fun w' hc => r_pick_t rfl rfl rfl) ?_
        refine m _ (fun w' hc => r_assign rfl) ?_
        refine m_nil ?_
        refine c_then ?_
        refine c_ret ?_
        exact ret1 trivial rfl rfl ⟨rfl, M⟩
end Go.Proofs.Ytimakajeggeebaa
