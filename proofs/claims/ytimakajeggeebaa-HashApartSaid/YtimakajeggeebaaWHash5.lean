/- Walks of functions: what each call returns. -/
import Derived.Test.YtimakajeggeebaaRows
import Derived.Test.YtimakajeggeebaaDraws
import Derived.Test.YtimakajeggeebaaWHash
import Derived.Test.YtimakajeggeebaaWHash2
import Derived.Test.YtimakajeggeebaaWHash3
import Derived.Test.YtimakajeggeebaaWHash4
import Derived.Test.YtimakajeggeebaaOpens
namespace Go.Proofs.Ytimakajeggeebaa
open Go Go.Wk Go.RowKit
attribute [local irreducible] wpList wpQuiet wpStill wpMix Code.wp Calls bodyPost

/-- Two sums and two rows of bytes, each of its own blocks. -/
structure TW (w : World) (lo : Nat) (k1 k2 : List UInt8) (b c : Nat) (ra rb x y : Value) (A C X Y : List UInt8) : Prop where
  h : HH w lo k1 b ra A
  g : HH w lo k2 c rb C
  hx : Own w 5 1 x X.length (X.map b8)
  hy : Own w 5 1 y Y.length (Y.map b8)
  xl : ∀ g, vblock x = some g → lo ≤ g
  yl : ∀ g, vblock y = some g → lo ≤ g
  d1 : ∀ g, vblock ra = some g → vblock x ≠ some g
  d2 : ∀ g, vblock ra = some g → vblock y ≠ some g
  d3 : ∀ g, vblock rb = some g → vblock x ≠ some g
  d4 : ∀ g, vblock rb = some g → vblock y ≠ some g
  d5 : ∀ g, vblock x = some g → vblock y ≠ some g
  d : ∀ i ∈ HB b ra, i ∉ HB c rb
section
variable {w w' : World} {lo b c : Nat} {k1 k2 A C X Y : List UInt8} {ra rb x y : Value}
theorem TW.swap (t : TW w lo k1 k2 b c ra rb x y A C X Y) : TW w lo k2 k1 c b rb ra y x C A Y X :=
  ⟨t.g, t.h, t.hy, t.hx, t.yl, t.xl, t.d4, t.d3, t.d2, t.d1, fun g h1 h2 => t.d5 g h2 h1, fun i h1 h2 => t.d i h2 h1⟩
theorem TW.md0 (t : TW w lo k1 k2 b c ra rb x y A C X Y) (m : Md [] w w') : TW w' lo k1 k2 b c ra rb x y A C X Y :=
  ⟨t.h.md0 m, t.g.md0 m, t.hx.md0 m, t.hy.md0 m, t.xl, t.yl, t.d1, t.d2, t.d3, t.d4, t.d5, t.d⟩
theorem addT (s : Value) (m : List UInt8) (t : TW w lo k1 k2 b c ra rb x y A C X Y) (hlo : lo ≤ w.heap.size) (hB : By w s m) (hA : Apart s m (HB b ra)) (hl : A.length + m.length ≤ 4611686018427387904) :
    Calls Try.prog 22 #[.pointer (some ⟨b, 0, none⟩), s] w fun e w' => e = .returned (.tuple #[]) ∧ ∃ ra', Md (HB b ra) w w' ∧ TW w' lo k1 k2 b c ra' rb x y (A ++ m) C X Y :=
  (addH b lo k1 ra A s m w t.h hlo hB hA hl).mono fun e w' ⟨he, r, hm, h2, hg⟩ => ⟨he, r, hm, ⟨h2, t.g.md hm (fun i h1 h2 => t.d i h2 h1), t.hx.md hm (t.h.row t.hx t.d1), t.hy.md hm (t.h.row t.hy t.d2), t.xl, t.yl,
    t.h.dj h2 t.hx t.d1 hg, t.h.dj h2 t.hy t.d2 hg, t.d3, t.d4, t.d5, fun i hi hj => (hg i hi).elim (fun h => t.d i h hj) (fun h => by have := t.g.lt i hj; omega)⟩⟩
theorem TW.app {x3 : Value} {Z : List UInt8} (t : TW w lo k1 k2 b c ra rb x y A C X Y) (hlo : lo ≤ w.heap.size) (h2 : Own w' 5 1 x3 Z.length (Z.map b8)) (hm : Md (vblock x).toList w w') (hb : ∀ g, vblock x3 = some g → vblock x = some g ∨ w.heap.size ≤ g) :
    TW w' lo k1 k2 b c ra rb x3 y A C Z Y :=
  ⟨t.h.md hm (t.h.row' t.hx t.d1), t.g.md hm (t.g.row' t.hx t.d3), h2, t.hy.md hm (fun g hg hi => t.d5 g (by simpa using hi) hg), fun g h => (hb g h).elim (t.xl g) (Nat.le_trans hlo), t.yl,
    fun g h1 h2 => (hb g h2).elim (t.d1 g h1) (fun h => by have := t.h.lt g (mem_HB.2 (.inr h1)); omega), t.d2,
    fun g h1 h2 => (hb g h2).elim (t.d3 g h1) (fun h => by have := t.g.lt g (mem_HB.2 (.inr h1)); omega), t.d4,
    fun g h1 h2 => (hb g h1).elim (fun h => t.d5 g h h2) (fun h => by have := t.hy.lt g h2; omega), t.d⟩
theorem tw0 (h : HH w lo k1 b (.slice none 0 0) []) (g : HH w lo k2 c (.slice none 0 0) []) (hn : b < c) : TW w lo k1 k2 b c (.slice none 0 0) (.slice none 0 0) (.slice none 0 0) (.slice none 0 0) [] [] [] [] :=
  ⟨h, g, Own.nil _ _ _, Own.nil _ _ _, by simp [vblock], by simp [vblock], by simp [vblock], by simp [vblock], by simp [vblock], by simp [vblock], by simp [vblock], by simp [HB, vblock]; omega⟩
end

theorem hashApart_walk (v : Value) (vs : List Value) (ls : List (List UInt8)) (k1 k2 : List UInt8) (w : World) (hR : Wk.Rows w v vs ls) (hk1 : k1.length = 16) (hk2 : k2.length = 16) :
    Calls Try.prog 6 #[v, .agg (k1.map b8).toArray, .agg (k2.map b8).toArray] w fun e w' => e = .returned (.bool true) ∧ Md [] w w' := by
  have M := Md.refl [] w
  refine enter (n := 95) Try.func6 rfl rfl rfl ?_
  intro B
  refine c_seq ?_
  refine c_region ?_
  refine st_box rfl rfl ?_
  intro bK w1 gK lK hm hK
  replace gK := Nat.le_trans M.size gK
  replace M := M.step0 hm
  refine st_box rfl rfl ?_
  intro bJ w2 gJ lJ hm hJ
  have nhKJ : bK ≠ bJ := by have := hK.lt; omega
  replace gJ := Nat.le_trans M.size gJ
  replace hK := hK.md0 hm
  replace M := M.step0 hm
  refine st _ (r_assign rfl) ?_
  refine st_nil ?_
  refine c_then ?_
  refine c_seq ?_
  refine c_region ?_
  refine st_call fn13 rfl (first2_any _) ?_
  rintro e w3 ⟨rfl, hm⟩; refine ⟨_, rfl, ?_⟩
  replace hK := hK.md0 hm
  replace hJ := hJ.md0 hm
  replace M := M.step0 hm
  refine st _ (r_assign rfl) ?_
  refine st_nil ?_
  refine c_then ?_
  refine c_seq ?_
  refine c_seq ?_
  refine c_region ?_
  refine st _ (r_move rfl) ?_
  refine st _ (r_not rfl) ?_
  refine st_nil ?_
  refine c_then ?_
  refine c_if_f rfl rfl ?_
  refine c_skip ?_
  refine c_then ?_
  refine c_seq ?_
  refine c_seq ?_
  refine c_region ?_
  refine st _ (r_move rfl) ?_
  refine st _ (r_len rfl u33 hR.1.shp) ?_
  refine st _ (r_gt rfl rfl) ?_
  refine st_nil ?_
  refine c_then ?_
  refine c_if rfl (fun h18 => ?_) (fun h18 => ?_)
  · skip
    first | (have h18n := of_decide_eq_true h18) | (have h18n := of_decide_eq_false (bnt h18)) | (have h18n := bnt h18) | (have h18n := h18)
    refine c_seq ?_
    refine c_region ?_
    refine st _ (r_move rfl) ?_
    refine st _ (r_assign rfl) ?_
    refine st_nil ?_
    refine c_then ?_
    refine c_ret ?_
    refine r_then ?_
    exact ret1 trivial rfl rfl ⟨rfl, M⟩
  · skip
    first | (have h18n := of_decide_eq_false h18) | (have h18n := of_decide_eq_true (bnf h18)) | (have h18n := bnf h18) | (have h18n := h18)
    refine c_skip ?_
    refine c_then ?_
    refine c_seq ?_
    have hK_q := hK
    have hJ_q := hJ
    have M_q := M
    refine c_mix [(0, true), (2, true), (1, false), (3, false), (4, true), (5, true)] (fun w' => Md [] w3 w') mixed (by kernel_rfl) ?_
    intro w4 hm
    have MC := hm
    replace hK := hK.md0 hm
    replace hJ := hJ.md0 hm
    replace M := M.step0 hm
    refine ⟨MC, ?_⟩
    refine m _ (fun w' hc => r_loadAll rfl (by rw [(by simpa using hk1 : (k1.map b8).length = 16)]; exact agg23) (hK_q.md0 hc)) ?_
    refine m _ (fun w' hc => r_loadAll rfl (by rw [(by simpa using hk2 : (k2.map b8).length = 16)]; exact agg23) (hJ_q.md0 hc)) ?_
    refine m_e ?_ rfl
    refine st_call fn21 rfl (newH k1 _ w.heap.size hk1 M.size) ?_
    rintro e w50 ⟨bS, rfl, gS, hm, hH⟩; refine ⟨_, rfl, ?_⟩
    replace hK := hK.md0 hm
    replace hJ := hJ.md0 hm
    replace MC := MC.step0 hm
    replace M := M.step0 hm
    have lS := hH.lt bS (by simp [HB])
    refine st_nil ⟨rfl, MC, ?_⟩
    refine m_e ?_ rfl
    refine st_call fn21 rfl (newH k2 _ w.heap.size hk2 M.size) ?_
    rintro e w51 ⟨bT, rfl, gT, hm, hG⟩; refine ⟨_, rfl, ?_⟩
    have lST := Nat.lt_of_lt_of_le lS gT
    replace hK := hK.md0 hm
    replace hJ := hJ.md0 hm
    replace hH := hH.md0 hm
    replace MC := MC.step0 hm
    replace M := M.step0 hm
    refine st_nil ⟨rfl, MC, ?_⟩
    refine m _ (fun w' hc => r_assign rfl) ?_
    refine m _ (fun w' hc => r_assign rfl) ?_
    refine m_nil ?_
    refine c_then ?_
    refine c_seq ?_
    refine c_seq ?_
    refine c_region ?_
    refine st _ (r_move rfl) ?_
    refine st _ (r_eqlPN rfl u34) ?_
    refine st _ (r_move rfl) ?_
    refine st_g _ rfl rfl rfl rfl (r_move rfl) ?_
    refine st_g _ rfl rfl rfl rfl (r_eqlPN rfl u34) ?_
    refine st _ (r_pick_f rfl rfl rfl) ?_
    refine st_nil ?_
    refine c_then ?_
    refine c_if_f rfl rfl ?_
    refine c_skip ?_
    refine c_then ?_
    refine c_seq ?_
    refine c_region ?_
    refine st _ (r_assign rfl) ?_
    refine st _ (r_assign rfl) ?_
    refine st_nil ?_
    refine c_then ?_
    refine c_seq ?_
    refine c_seq ?_
    refine c_region ?_
    refine st _ (r_assign rfl) ?_
    refine st_nil ?_
    refine c_then ?_
    refine c_block ?_
    refine c_loop (X := Nat × Value × Value × Value × Value × List UInt8 × List UInt8) (fun x => [(0, v), (4, .pointer (some ⟨bK, 0, none⟩)), (5, .pointer (some ⟨bJ, 0, none⟩)), (7, .bool true), (8, .pointer (some ⟨bS, 0, none⟩)), (9, .pointer (some ⟨bT, 0, none⟩)), (10, x.2.2.2.1), (11, x.2.2.2.2.1), (12, .int .i64 x.1)]) (fun x w' => Md [] w w' ∧ Blk w' bK (k1.map b8) 23 ∧ Blk w' bJ (k2.map b8) 23 ∧ TW w' w.heap.size k1 k2 bS bT x.2.1 x.2.2.1 x.2.2.2.1 x.2.2.2.2.1 x.2.2.2.2.2.1 x.2.2.2.2.2.2 x.2.2.2.2.2.1 x.2.2.2.2.2.2 ∧ x.1 ≤ vs.length ∧ x.2.2.2.2.2.1.length ≤ 30 * x.1 ∧ x.2.2.2.2.2.2.length ≤ 30 * x.1) (fun x => vs.length - x.1) (0, .slice none 0 0, .slice none 0 0, .slice none 0 0, .slice none 0 0, [], []) ?_ ?_ ?_
    · exact ⟨rfl, rfl, rfl, rfl, rfl, rfl, rfl, rfl, rfl, trivial⟩
    · exact ⟨M, hK, hJ, tw0 hH hG lST, Nat.zero_le _, Nat.le_refl _, Nat.le_refl _⟩
    · clear M
      clear hK hJ hH hG
      rintro x B w5 ⟨M, hK, hJ, hT, hi, hA, hC⟩
      obtain ⟨i, ra, rb, xv, yv, A, C⟩ := x; simp only at hT hi hA hC
      refine c_seq ?_
      refine c_seq ?_
      refine c_region ?_
      refine st _ (r_move rfl) ?_
      refine st _ (r_move rfl) ?_
      refine st _ (r_len rfl u33 hR.1.shp) ?_
      refine st _ (r_lt rfl rfl) ?_
      refine st_nil ?_
      refine c_then ?_
      refine c_if rfl (fun h33 => ?_) (fun h33 => ?_)
      · skip
        first | (have h33n := of_decide_eq_true h33) | (have h33n := of_decide_eq_false (bnt h33)) | (have h33n := bnt h33) | (have h33n := h33)
        obtain ⟨u, lu, hu, hlu, hbu⟩ := rows_at hR i (by omega)
        have hlen := hbu.len63
        refine c_skip ?_
        refine c_then ?_
        refine c_seq ?_
        refine c_block ?_
        refine c_seq ?_
        refine c_seq ?_
        refine c_region ?_
        refine st _ (r_move rfl) ?_
        refine st _ (r_move rfl) ?_
        refine st _ (r_index rfl rfl u33 el25 hR.1.shp (by omega)) ?_
        refine st _ (r_loadEl rfl one25 (hR.1.md0 M) hu) ?_
        refine st _ (r_len rfl u25 hbu.shp) ?_
        refine st _ (r_gt rfl rfl) ?_
        refine st_nil ?_
        refine c_then ?_
        refine c_if rfl (fun h41 => ?_) (fun h41 => ?_)
        · skip
          first | (have h41n := of_decide_eq_true h41) | (have h41n := of_decide_eq_false (bnt h41)) | (have h41n := bnt h41) | (have h41n := h41)
          refine c_seq ?_
          refine c_region ?_
          refine st _ (r_assign rfl) ?_
          refine st_nil ?_
          refine c_then ?_
          refine c_ret ?_
          refine r_then ?_
          refine r_block ?_
          refine r_then ?_
          refine r_then ?_
          refine r_block ?_
          refine r_then ?_
          exact ret1 trivial rfl rfl ⟨rfl, M⟩
        · skip
          first | (have h41n := of_decide_eq_false h41) | (have h41n := of_decide_eq_true (bnf h41)) | (have h41n := bnf h41) | (have h41n := h41)
          refine c_skip ?_
          refine c_then ?_
          refine c_seq ?_
          refine c_region ?_
          refine st _ (r_move rfl) ?_
          refine st _ (r_rem rfl rfl (by omega)) ?_
          refine st _ (r_eq rfl rfl) ?_
          refine st_nil ?_
          refine c_then ?_
          refine c_if rfl (fun h44 => ?_) (fun h44 => ?_)
          · skip
            first | (have h44n := of_decide_eq_true h44) | (have h44n := of_decide_eq_false (bnt h44)) | (have h44n := bnt h44) | (have h44n := h44)
            refine c_seq ?_
            refine c_region ?_
            refine st _ (r_move rfl) ?_
            refine st _ (r_move rfl) ?_
            refine st _ (r_move rfl) ?_
            refine st _ (r_index rfl rfl u33 el25 hR.1.shp (by omega)) ?_
            refine st _ (r_loadEl rfl one25 (hR.1.md0 M) hu) ?_
            refine st_call fn22 rfl (addT u lu hT M.size (hbu.md0 M) (apartS hbu hT.h.los) (by omega)) ?_
            rintro e w60 ⟨rfl, r2, hm, hT2⟩; refine ⟨_, rfl, ?_⟩
            replace hK := hK.md hm (hT.h.notin hK rfl rfl)
            replace hJ := hJ.md hm (hT.h.notin hJ rfl rfl)
            replace M := M.step hm (fun i hi => .inr (hT.h.los i hi))
            replace hT := hT2; clear hT2
            refine st_nil ?_
            refine c_then ?_
            refine c_region ?_
            refine st _ (r_move rfl) ?_
            refine st _ (r_move rfl) ?_
            refine st _ (r_move rfl) ?_
            refine st _ (r_index rfl rfl u33 el25 hR.1.shp (by omega)) ?_
            refine st _ (r_loadEl rfl one25 (hR.1.md0 M) hu) ?_
            refine st_appendB u25 elT5 rfl rfl hT.hx (hbu.md0 M) (by omega) ?_
            intro x3 w6 hX2 hm _ hbk
            have hT2 := hT.app M.size hX2 hm hbk
            replace hK := hK.mdO hT.hx rfl hm
            replace hJ := hJ.mdO hT.hx rfl hm
            replace M := M.stepO hm (fun b h => .inr (hT.xl b h))
            replace hT := hT2; clear hT2
            refine st _ (r_assign rfl) ?_
            refine st_nil ?_
            refine n_block ?_
            refine c_then ?_
            refine c_region ?_
            refine st _ (r_move rfl) ?_
            refine st _ (r_addI rfl rfl (by omega)) ?_
            refine st _ (r_assign rfl) ?_
            refine st_nil ?_
            refine c_then ?_
            refine next ((i + 1, r2, rb, x3, yv, A ++ lu, C)) (by simp; omega) ⟨rfl, rfl, rfl, rfl, rfl, rfl, rfl, rfl, fitI rfl (by simp), trivial⟩ ?_
            exact ⟨M, hK, hJ, hT, by simp; omega, by simp; omega, by simp; omega⟩
          · skip
            first | (have h44n := of_decide_eq_false h44) | (have h44n := of_decide_eq_true (bnf h44)) | (have h44n := bnf h44) | (have h44n := h44)
            refine c_seq ?_
            refine c_region ?_
            refine st _ (r_move rfl) ?_
            refine st _ (r_move rfl) ?_
            refine st _ (r_move rfl) ?_
            refine st _ (r_index rfl rfl u33 el25 hR.1.shp (by omega)) ?_
            refine st _ (r_loadEl rfl one25 (hR.1.md0 M) hu) ?_
            refine st_call fn22 rfl (addT u lu hT.swap M.size (hbu.md0 M) (apartS hbu hT.swap.h.los) (by omega)) ?_
            rintro e w60 ⟨rfl, r2, hm, hT2⟩; refine ⟨_, rfl, ?_⟩
            replace hK := hK.md hm (hT.swap.h.notin hK rfl rfl)
            replace hJ := hJ.md hm (hT.swap.h.notin hJ rfl rfl)
            replace M := M.step hm (fun i hi => .inr (hT.swap.h.los i hi))
            replace hT := hT2.swap; clear hT2
            refine st_nil ?_
            refine c_then ?_
            refine c_region ?_
            refine st _ (r_move rfl) ?_
            refine st _ (r_move rfl) ?_
            refine st _ (r_move rfl) ?_
            refine st _ (r_index rfl rfl u33 el25 hR.1.shp (by omega)) ?_
            refine st _ (r_loadEl rfl one25 (hR.1.md0 M) hu) ?_
            refine st_appendB u25 elT5 rfl rfl hT.swap.hx (hbu.md0 M) (by omega) ?_
            intro x3 w7 hX2 hm _ hbk
            have hT2 := hT.swap.app M.size hX2 hm hbk
            replace hK := hK.mdO hT.swap.hx rfl hm
            replace hJ := hJ.mdO hT.swap.hx rfl hm
            replace M := M.stepO hm (fun b h => .inr (hT.swap.xl b h))
            replace hT := hT2.swap; clear hT2
            refine st _ (r_assign rfl) ?_
            refine st_nil ?_
            refine n_block ?_
            refine c_then ?_
            refine c_region ?_
            refine st _ (r_move rfl) ?_
            refine st _ (r_addI rfl rfl (by omega)) ?_
            refine st _ (r_assign rfl) ?_
            refine st_nil ?_
            refine c_then ?_
            refine next ((i + 1, ra, r2, xv, x3, A, C ++ lu)) (by simp; omega) ⟨rfl, rfl, rfl, rfl, rfl, rfl, rfl, rfl, fitI rfl (by simp), trivial⟩ ?_
            exact ⟨M, hK, hJ, hT, by simp; omega, by simp; omega, by simp; omega⟩
      · skip
        first | (have h33n := of_decide_eq_false h33) | (have h33n := of_decide_eq_true (bnf h33)) | (have h33n := bnf h33) | (have h33n := h33)
        refine c_exit ?_
        refine x_then ?_
        refine x_then ?_
        refine x_hit ?_
        refine c_then ?_
        refine c_seq ?_
        have hK_q := hK
        have hJ_q := hJ
        have hT_q := hT
        have M_q := M
        refine c_mix [(0, true), (1, true), (2, true), (4, true), (5, true), (3, false), (6, false), (7, true), (8, true), (9, true), (10, true), (12, true), (13, true), (11, false), (14, false), (15, true), (16, true), (17, true), (18, true), (19, true), (21, true), (22, true), (20, false), (23, false), (24, true), (25, true), (26, true)] (fun w' => Md [] w5 w') mixed (by kernel_rfl) ?_
        intro w8 hm
        have MC := hm
        replace hK := hK.md0 hm
        replace hJ := hJ.md0 hm
        replace hT := hT.md0 hm
        replace M := M.step0 hm
        refine ⟨MC, ?_⟩
        refine m _ (fun w' hc => r_move rfl) ?_
        refine m _ (fun w' hc => r_move rfl) ?_
        refine m_g _ rfl rfl rfl rfl (fun w' hc => r_move rfl) ?_
        refine m_g _ rfl rfl rfl rfl (fun w' hc => r_loadAll rfl (by rw [(by simpa using hk1 : (k1.map b8).length = 16)]; exact agg23) (hK_q.md0 hc)) ?_
        refine m_g _ rfl rfl rfl rfl (fun w' hc => r_move rfl) ?_
        refine m_e_g rfl rfl rfl rfl rfl ?_
        refine st_call_g rfl rfl rfl rfl fn23 rfl (valueH _ _ _ _ _ _ hT.h) ?_
        rintro e w9 ⟨rfl, hm⟩; refine ⟨_, rfl, ?_⟩
        replace hK := hK.md0 hm
        replace hJ := hJ.md0 hm
        replace hT := hT.md0 hm
        replace MC := MC.step0 hm
        replace M := M.step0 hm
        refine st_nil ⟨rfl, MC, ?_⟩
        refine m_e_g rfl rfl rfl rfl rfl ?_
        refine st_call_g rfl rfl rfl rfl fn17 rfl (sip_any k1 _ _ _ hk1 (By.of_own hT.hx) (by omega)) ?_
        rintro e w10 ⟨rfl, hm⟩; refine ⟨_, rfl, ?_⟩
        replace hK := hK.md0 hm
        replace hJ := hJ.md0 hm
        replace hT := hT.md0 hm
        replace MC := MC.step0 hm
        replace M := M.step0 hm
        refine st_nil ⟨rfl, MC, ?_⟩
        refine m_g _ rfl rfl rfl rfl (fun w' hc => (r_eq rfl rfl).castB (decide_eq_true rfl)) ?_
        refine m _ (fun w' hc => r_pick_t rfl rfl rfl) ?_
        refine m _ (fun w' hc => r_move rfl) ?_
        refine m_g _ rfl rfl rfl rfl (fun w' hc => r_move rfl) ?_
        refine m_g _ rfl rfl rfl rfl (fun w' hc => r_loadAll rfl (by rw [(by simpa using hk2 : (k2.map b8).length = 16)]; exact agg23) (hJ_q.md0 hc)) ?_
        refine m_g _ rfl rfl rfl rfl (fun w' hc => r_move rfl) ?_
        refine m_e_g rfl rfl rfl rfl rfl ?_
        refine st_call_g rfl rfl rfl rfl fn23 rfl (valueH _ _ _ _ _ _ hT.g) ?_
        rintro e w11 ⟨rfl, hm⟩; refine ⟨_, rfl, ?_⟩
        replace hK := hK.md0 hm
        replace hJ := hJ.md0 hm
        replace hT := hT.md0 hm
        replace MC := MC.step0 hm
        replace M := M.step0 hm
        refine st_nil ⟨rfl, MC, ?_⟩
        refine m_e_g rfl rfl rfl rfl rfl ?_
        refine st_call_g rfl rfl rfl rfl fn17 rfl (sip_any k2 _ _ _ hk2 (By.of_own hT.hy) (by omega)) ?_
        rintro e w12 ⟨rfl, hm⟩; refine ⟨_, rfl, ?_⟩
        replace hK := hK.md0 hm
        replace hJ := hJ.md0 hm
        replace hT := hT.md0 hm
        replace MC := MC.step0 hm
        replace M := M.step0 hm
        refine st_nil ⟨rfl, MC, ?_⟩
        refine m_g _ rfl rfl rfl rfl (fun w' hc => (r_eq rfl rfl).castB (decide_eq_true rfl)) ?_
        refine m _ (fun w' hc => r_pick_t rfl rfl rfl) ?_
        refine m _ (fun w' hc => r_move rfl) ?_
        refine m_g _ rfl rfl rfl rfl (fun w' hc => r_loadAll rfl (by rw [(by simpa using hk1 : (k1.map b8).length = 16)]; exact agg23) (hK_q.md0 hc)) ?_
        refine m_g _ rfl rfl rfl rfl (fun w' hc => r_move rfl) ?_
        refine m_g _ rfl rfl rfl rfl (fun w' hc => r_loadAll rfl (by rw [(by simpa using hk2 : (k2.map b8).length = 16)]; exact agg23) (hJ_q.md0 hc)) ?_
        refine m_g _ rfl rfl rfl rfl (fun w' hc => r_move rfl) ?_
        refine m_e_g rfl rfl rfl rfl rfl ?_
        refine st_call_g rfl rfl rfl rfl fn19 rfl (of_any false k1 _ _ _ hk1 (By.of_own hT.hx) (by omega)) ?_
        rintro e w13 ⟨rfl, hm⟩; refine ⟨_, rfl, ?_⟩
        replace hK := hK.md0 hm
        replace hJ := hJ.md0 hm
        replace hT := hT.md0 hm
        replace MC := MC.step0 hm
        replace M := M.step0 hm
        refine st_nil ⟨rfl, MC, ?_⟩
        refine m_e_g rfl rfl rfl rfl rfl ?_
        refine st_call_g rfl rfl rfl rfl fn19 rfl (of_any false k2 _ _ _ hk2 (By.of_own hT.hx) (by omega)) ?_
        rintro e w14 ⟨rfl, hm⟩; refine ⟨_, rfl, ?_⟩
        replace hK := hK.md0 hm
        replace hJ := hJ.md0 hm
        replace hT := hT.md0 hm
        replace MC := MC.step0 hm
        replace M := M.step0 hm
        refine st_nil ⟨rfl, MC, ?_⟩
        refine m_g _ rfl rfl rfl rfl (fun w' hc => (r_eq rfl rfl).castB (decide_eq_true (by simp only [Bool.false_eq_true, if_false]))) ?_
        refine m _ (fun w' hc => r_pick_t rfl rfl rfl) ?_
        refine m _ (fun w' hc => r_assign rfl) ?_
        refine m_nil ?_
        refine c_then ?_
        refine c_ret ?_
        exact ret1 trivial rfl rfl ⟨rfl, M⟩
end Go.Proofs.Ytimakajeggeebaa
