/- Part 3 of what the walk of a law stands on: VTd, VTe, VTf, VTg, VTh, VTi, VDa, VDb, VDc, VDd, VDe, VDf. No statement is proved here. -/
import Derived.Test.YtogcacggojjijaaGreatSAB2
import Derived.Test.YtogcacggojjijaaGreatRows
namespace Go.Proofs.YtogcacggojjijaaGreat
open Go Go.Wk Go.RowKit
set_option linter.unusedVariables false
set_option linter.unusedSimpArgs false
attribute [local irreducible] wpList wpQuiet wpStill wpMix Code.wp Calls bodyPost
theorem pl57 : bplace Tryz.prog 57 = some [(0, 1), (1, 1), (2, 1), (3, 1), (4, 1)] := by kernel_rfl
theorem z57 : zcells Tryz.prog 57 = some [.int .i64 0, .int .i64 0, .bool false, .slice none 0 0, .slice none 0 0] := by kernel_rfl

theorem fNew_any {w : World} {Q : Nat → Prop} (uQ : Up w Q) (r : Int) (a0 : (-9223372036854775808 ≤ r ∧ r < 9223372036854775808)) (p0 : 4096 ≤ r) (p1 : r ≤ 1048576) :
    Calls Tryz.prog 6 #[(.int .i64 (r : Int))] w fun en w' => ∃ o0 : Nat, ∃ u0_0 : Value, ∃ u0_1 : Value, ∃ r0 : SFs, ∃ r1 : Nat, ∃ Q' : Nat → Prop, en = .returned (.tuple #[.pointer (some ⟨o0, 0, none⟩), (.int .i64 ((r1 : Nat) : Int))]) ∧ Md [] w w' ∧ NewQ w w' Q Q' ∧ Blk w' o0 (SFs.cells r0 u0_0 u0_1) 57 ∧ ¬ Q' o0 ∧ w.heap.size ≤ o0 ∧ SFs.ok r0 ∧ Ow tNd 64 (Fsh [] w) w' Q' u0_0 r0.nodes ∧ Ow tSCh 73 (Fsh [] w) w' Q' u0_1 r0.pend ∧ r1 < 9223372036854775808 ∧ (({ room := r, fuse := -1, off := false, nodes := [], pend := [] } : SFs), (0 : Nat)) = (r0, r1) := by
  have M := Md.refl [] w; have uQ0 := uQ; have tQ : ∀ b, Q b → Q b := fun _ h => h; have sQ0 : ∀ b, Q b → b < w.heap.size → Q b := fun _ h _ => h; refine enter (n := 13) Tryz.func6 rfl rfl rfl ?_; intro B; refine ns ?_; refine asg rfl ?_; refine asg rfl ?_; refine nt ?_; refine c_seq ?_; refine ns ?_; refine mv rfl ?_; refine st _ (r_lt (a := r) (b := 4096) rfl rfl) ?_; refine mv rfl ?_; refine part_n (t := 6) rfl (fun h6 => ?_) (fun h6 => ?_)
  · (first | (have h6n := of_decide_eq_true h6) | (have h6n := of_decide_eq_false (bnt h6)) | (have h6n := bnt h6) | (have h6n := h6)); exfalso; omega
  · (first | (have h6n := of_decide_eq_false h6) | (have h6n := of_decide_eq_true (bnf h6)) | (have h6n := bnf h6) | (have h6n := h6)); refine st_g _ rfl rfl rfl h6 (r_move rfl) ?_; refine st_g _ rfl rfl rfl h6 (r_gt (a := r) (b := 1048576) rfl rfl) ?_; refine st _ (r_pick_f rfl h6 rfl) ?_; refine nt ?_; refine c_if rfl (fun h9 => ?_) (fun h9 => ?_)
    · (first | (have h9n := of_decide_eq_true h9) | (have h9n := of_decide_eq_false (bnt h9)) | (have h9n := bnt h9) | (have h9n := h9)); exfalso; omega
    · (first | (have h9n := of_decide_eq_false h9) | (have h9n := of_decide_eq_true (bnf h9)) | (have h9n := bnf h9) | (have h9n := h9)); refine c_skip ?_; refine c_then ?_; refine ns ?_; refine mv rfl ?_; refine st _ (r_buildG (us := [[(.int .i64 (r : Int))], [(.int .i64 ((-1) : Int))]]) (cs := (SFs.cells (({ room := r, fuse := (-1), off := false, nodes := [], pend := [] } : SFs)) (.slice none 0 0) (.slice none 0 0))) [(0, 0, 1), (1, 1, 1)] z57 pl57 rfl rfl ⟨rfl, rfl, trivial⟩ ⟨rfl, rfl, trivial⟩ rfl rfl) ?_; refine st_box (cs := (SFs.cells (({ room := r, fuse := (-1), off := false, nodes := [], pend := [] } : SFs)) (.slice none 0 0) (.slice none 0 0))) rfl rfl ?_; intro ba12 w1 ga12 la12 hm ha12; obtain ⟨Q2, sQ, sT, n_ha12, uQ2⟩ := exQ uQ ga12 la12 hm; replace tQ := fun b hb => tQ b (sT b hb); replace sQ0 := fun b hb hl => sQ b (sQ0 b hb hl) (Nat.lt_of_lt_of_le hl M.size); replace ga12 := Nat.le_trans M.size ga12; replace uQ := uQ.md hm; replace M := M.step0 hm; clear uQ; have uQ := uQ2; clear uQ2 sQ sT; have p_ha12 : Fsh [] w ba12 := .inr ga12; refine asg rfl ?_; refine asg rfl ?_; refine nt ?_; refine c_ret ?_; exact retL (vs := [(.pointer (some ⟨ba12, 0, none⟩)), (.int .i64 ((0 : Nat) : Int))]) trivial rfl ⟨rfl, rfl, trivial⟩ rfl ⟨ba12, _, _, (({ room := r, fuse := (-1), off := false, nodes := [], pend := [] } : SFs)), 0, Q2, rfl, M, ⟨sQ0, tQ, uQ⟩, ha12, n_ha12, ga12, (by first | assumption | exact ⟨(by first | omega | (simp <;> omega) | simp_all), (by first | omega | (simp <;> omega) | simp_all)⟩), (by first | exact Ow.nil _ _ _ _ _ | (simp only []; exact Ow.nil _ _ _ _ _)), (by first | exact Ow.nil _ _ _ _ _ | (simp only []; exact Ow.nil _ _ _ _ _)), (by first | assumption | omega | simp_all), rfl⟩
end Go.Proofs.YtogcacggojjijaaGreat
namespace Go.Proofs.YtogcacggojjijaaGreat
open Go Go.Wk Go.RowKit
set_option linter.unusedVariables false
set_option linter.unusedSimpArgs false
attribute [local irreducible] wpList wpQuiet wpStill wpMix Code.wp Calls bodyPost
theorem off73_0 : fieldOff Tryz.prog 73 0 = some 0 := by kernel_rfl
theorem off73_1 : fieldOff Tryz.prog 73 1 = some 1 := by kernel_rfl
theorem off73_2 : fieldOff Tryz.prog 73 2 = some 2 := by kernel_rfl
theorem off73_3 : fieldOff Tryz.prog 73 3 = some 3 := by kernel_rfl

/-- A change, taken back. -/
def undoN (l : List SNd) (c : SCh) : List SNd :=
  if c.kind = 0 then updN l c.n fun z => { z with no := { z.no with there := false } }
  else if c.kind = 1 then (match c.over with
    | none => updN l c.n fun z => { z with no := { z.no with nm := c.old } }
    | some o => updN (updN l c.n fun z => { z with no := { z.no with nm := c.old } }) o fun z => { z with no := { z.no with there := true } })
  else updN l c.n fun z => { z with no := { z.no with there := true } }
def undoL : List SNd → List SCh → List SNd
  | l, [] => l
  | l, c :: r => undoL (undoN l c) r
theorem undoN_ids (l : List SNd) (c : SCh) : (undoN l c).map (·.id) = l.map (·.id) := by
  unfold undoN
  split
  · exact updN_ids fun _ => rfl
  · split
    · split
      · exact updN_ids fun _ => rfl
      · rw [updN_ids, updN_ids] <;> (intro _; rfl)
    · exact updN_ids fun _ => rfl
theorem undoL_ids : ∀ (r : List SCh) (l : List SNd), (undoL l r).map (·.id) = l.map (·.id)
  | [], _ => rfl
  | c :: r, l => (undoL_ids r (undoN l c)).trans (undoN_ids l c)
/-- What becomes of the files. -/
def crashG : List SNd → List Bool → List SNd
  | [], _ => []
  | z :: r, k =>
    let n := min (dirF z.fl.b z.fl.safe (secN z.fl.b z.fl.safe)).length k.length
    { z with fl := { b := crashB z.fl.b z.fl.safe (k.take n), safe := crashB z.fl.b z.fl.safe (k.take n) } } :: crashG r (k.drop n)
theorem crashG_ids : ∀ (l : List SNd) (k : List Bool), (crashG l k).map (·.id) = l.map (·.id)
  | [], _ => rfl
  | z :: r, k => by rw [crashG]; simp only [List.map_cons]; rw [crashG_ids r]
def crashR (f : SFs) (keep : List Bool) (dirs : Int) : SFs :=
  { f with nodes := crashG ((undoL f.nodes (f.pend.drop dirs.toNat).reverse).filter (·.no.there)) keep, pend := [], off := false, fuse := -1 }
theorem updN_at {l : List SNd} {i : Nat} {z : SNd} {g : SNd → SNd} (hn : (l.map (·.id)).Nodup) (h : l[i]? = some z) : updN l z.id g = l.set i (g z) := by
  have hz := List.mem_of_getElem? h
  apply List.ext_getElem?; intro j; unfold updN; rw [List.getElem?_map, List.getElem?_set]; obtain ⟨hi, hiz⟩ := List.getElem?_eq_some_iff.1 h; by_cases hij : i = j
  · subst hij
    rw [if_pos rfl, h]; simp [hi]
  · rw [if_neg hij]
    cases hj : l[j]? with
    | none => rfl
    | some y =>
      simp only [Option.map_some]; rw [if_neg]; intro e; obtain ⟨hj', hjy⟩ := List.getElem?_eq_some_iff.1 hj; have h1 : (l.map (·.id))[i]'(by simpa using hi) = (l.map (·.id))[j]'(by simpa using hj') := (by simp [hiz, hjy, e]); rcases Nat.lt_or_gt_of_ne hij with h2 | h2
      · exact List.pairwise_iff_getElem.1 hn i j (by simpa using hi) (by simpa using hj') h2 h1
      · exact List.pairwise_iff_getElem.1 hn j i (by simpa using hj') (by simpa using hi) h2 h1.symm
theorem ids_mem {l l' : List SNd} (h : l'.map (·.id) = l.map (·.id)) {b : Nat} (hb : b ∈ l.map (·.id)) : b ∈ l'.map (·.id) := by rw [h]; exact hb
theorem undo_step {l : List SCh} {i : Int} {d : Int} {c : SCh} (h : l[i.toNat]? = some c) (h0 : 0 ≤ i) (hd : d ≤ i) : ((l.take (i + 1).toNat).drop d.toNat).reverse = c :: ((l.take (i - 1 + 1).toNat).drop d.toNat).reverse := by
  have hi := (List.getElem?_eq_some_iff.1 h).1; rw [show (i + 1).toNat = i.toNat + 1 by omega, show (i - 1 + 1).toNat = i.toNat by omega, List.take_add_one, h, Option.toList_some, List.drop_append_of_le_length (by rw [List.length_take]; omega), List.reverse_append]
  rfl
theorem undo_end {l : List SCh} {i d : Int} (h : i < 0 ∨ i < d) (h1 : i < (l.length : Int)) : ((l.take (i + 1).toNat).drop d.toNat).reverse = [] := by
  rw [List.drop_of_length_le (by rw [List.length_take]; omega)]; rfl
theorem updN_all {P : SNd → Prop} {l : List SNd} {i : Nat} {g : SNd → SNd} (h : ∀ z ∈ l, P z) (hg : ∀ z, P z → P (g z)) : ∀ z ∈ updN l i g, P z := by
  intro z hz; rcases mem_updN hz with ⟨x, hx, _, rfl⟩ | ⟨hz, _⟩
  · exact hg _ (h x hx)
  · exact h z hz
theorem undo_fl {l : List SNd} {c : SCh} (h : ∀ z ∈ l, z.fl.b.length ≤ 1000000 ∧ z.fl.safe.length ≤ 1000000) : ∀ z ∈ undoN l c, z.fl.b.length ≤ 1000000 ∧ z.fl.safe.length ≤ 1000000 := by
  unfold undoN
  split
  · exact updN_all h fun _ h => h
  · split
    · split
      · exact updN_all h fun _ h => h
      · exact updN_all (updN_all h fun _ h => h) fun _ h => h
    · exact updN_all h fun _ h => h
theorem crash_step {l : List SNd} {j n : Nat} {z y : SNd} {k : List Bool} {R : List SNd} (h : l[j]? = some z) (hn : n = min (dirF z.fl.b z.fl.safe (secN z.fl.b z.fl.safe)).length k.length) (hy : y = { z with fl := { b := crashB z.fl.b z.fl.safe (k.take n), safe := crashB z.fl.b z.fl.safe (k.take n) } })
    (hI : l.take j ++ crashG (l.drop j) k = R) : (l.set j y).take (j + 1) ++ crashG ((l.set j y).drop (j + 1)) (k.drop n) = R := by
  have hj := (List.getElem?_eq_some_iff.1 h).1; rw [take_set_succP hj, List.drop_set_of_lt (by omega), ← hI, findN_get h, crashG]; rw [← hn, ← hy, List.append_assoc]
  rfl

theorem fUndo_any {w : World} {Q : Nat → Prop} (uQ : Up w Q) {l : List SNd} (c : SCh) (a0_0 : SCh.ok c) (p0 : c.n ∈ l.map (·.id)) (p1 : ∀ o, c.over = some o → o ∈ l.map (·.id)) (p2 : Nds 71 96 (fun _ => True) w Q l) :
    Calls Tryz.prog 63 #[.agg (SCh.cells c).toArray] w fun en w' => en = .returned (.tuple #[]) ∧ Md (ndB l) w w' ∧ (Nds 71 96 (Fsh (ndB l) w) w' Q (undoN l c)) := by
  obtain ⟨k, n, o, ov⟩ := c; simp only at p0 p1; obtain ⟨x, mx, ex⟩ := List.mem_map.1 p0; subst ex; have hN := p2.reB (lo' := Fsh (ndB l) w) (fun b hb => .inl hb); clear p2 p0; have M := Md.refl (ndB l) w; have uQ0 := uQ; have tQ : ∀ b, Q b → Q b := fun _ h => h; have sQ0 : ∀ b, Q b → b < w.heap.size → Q b := fun _ h _ => h; refine enter (n := 29) Tryz.func63 rfl rfl rfl ?_; intro B; refine ns ?_; refine st_box (cs := (SCh.cells (({ kind := k, n := x.id, old := o, over := ov } : SCh)))) rfl rfl ?_; intro ba1 w1 ga1 la1 hm ha1; have n_ha1 := uQ _ ga1; replace ga1 := Nat.le_trans M.size ga1; replace hN := hN.md0 hm; replace uQ := uQ.md hm; replace M := M.step0 hm; have p_ha1 : Fsh [] w ba1 := .inr ga1; refine nt ?_; refine ns ?_; refine st _ (r_field rfl off73_0) ?_; refine st _ ((r_loadBlk rfl one3 ha1 rfl).to (b := (.int .i64 (((({ kind := k, n := x.id, old := o, over := ov } : SCh)).kind : Nat) : Int))) rfl) ?_; have q2 : (({ kind := k, n := x.id, old := o, over := ov } : SCh)).kind < 9223372036854775808 := a0_0; refine nt ?_; refine c_block ?_; refine ns ?_; refine st _ (r_eqN (a := ((({ kind := k, n := x.id, old := o, over := ov } : SCh)).kind)) (b := 0) rfl rfl) ?_; refine asg rfl ?_; refine nt ?_; refine c_if rfl (fun h8 => ?_) (fun h8 => ?_)
  · (first | (have h8n := of_decide_eq_true h8) | (have h8n := of_decide_eq_false (bnt h8)) | (have h8n := bnt h8) | (have h8n := h8)); refine c_region ?_; refine st _ (r_field rfl off73_1) ?_; refine st _ ((r_loadBlk rfl one64 ha1 rfl).to (b := (.pointer (some ⟨(({ kind := k, n := x.id, old := o, over := ov } : SCh)).n, 0, none⟩))) rfl) ?_; refine st _ (r_nil rfl) ?_; refine st _ (r_field rfl off71_1) ?_; refine st_store rfl rfl one4 rfl (hN.get mx).1 (Nat.le_of_ble_eq_true rfl) ?_; intro w3 hm hb; have hNo := hN; clear hN; have hNb := (hNo.get mx).1; have hS : ∀ b ∈ [x.id], ¬ Q b := (by intro b hb; rw [List.mem_singleton] at hb; subst hb; exact (hNo.get mx).2.2); replace ha1 := ha1.md hm (by rw [List.mem_singleton]; exact blk_ne_ty ha1 hNb (by decide)); replace uQ := uQ.md hm; replace M := M.step hm (all_cons (hNo.all _ mx).2.2.2.2.1 all_nil); clear hS; have hN9 := hNo.setNo mx (by decide) hm (g := fun z => { z with there := false }) (show Blk _ _ (SNo.cells { x.no with there := false }) _ from hb) rfl; clear hNo hNb hb; obtain ⟨l4, el4⟩ : ∃ y, y = updN l x.id (fun z => { z with no := { z.no with there := false } }) := ⟨_, rfl⟩; have hN : Nds 71 96 (Fsh (ndB l) w) w3 Q l4 := (by rw [el4]; exact hN9); clear hN9; refine st_nil ?_; refine n_block ?_; exact retL (vs := []) trivial rfl trivial rfl ⟨rfl, M, (by unfold undoN; simp only [if_pos h8n]; rw [el4] at hN; exact hN)⟩
  · (first | (have h8n := of_decide_eq_false h8) | (have h8n := of_decide_eq_true (bnf h8)) | (have h8n := bnf h8) | (have h8n := h8)); refine ns ?_; refine st _ (r_eqN (a := ((({ kind := k, n := x.id, old := o, over := ov } : SCh)).kind)) (b := 1) rfl rfl) ?_; refine asg rfl ?_; refine nt ?_; refine c_if rfl (fun h14 => ?_) (fun h14 => ?_)
    · (first | (have h14n := of_decide_eq_true h14) | (have h14n := of_decide_eq_false (bnt h14)) | (have h14n := bnt h14) | (have h14n := h14)); refine ns ?_; refine st _ (r_field rfl off73_1) ?_; refine st _ ((r_loadBlk rfl one64 ha1 rfl).to (b := (.pointer (some ⟨(({ kind := k, n := x.id, old := o, over := ov } : SCh)).n, 0, none⟩))) rfl) ?_; refine st _ (r_field rfl off73_2) ?_; refine st _ ((r_loadBlk rfl one9 ha1 rfl).to (b := (str ((({ kind := k, n := x.id, old := o, over := ov } : SCh)).old))) rfl) ?_; refine st _ (r_nil rfl) ?_; refine st _ (r_field rfl off71_0) ?_; refine st_store rfl rfl one9 rfl (hN.get mx).1 (Nat.le_of_ble_eq_true rfl) ?_; intro w5 hm hb; have hNo := hN; clear hN; have hNb := (hNo.get mx).1; have hS : ∀ b ∈ [x.id], ¬ Q b := (by intro b hb; rw [List.mem_singleton] at hb; subst hb; exact (hNo.get mx).2.2); replace ha1 := ha1.md hm (by rw [List.mem_singleton]; exact blk_ne_ty ha1 hNb (by decide)); replace uQ := uQ.md hm; replace M := M.step hm (all_cons (hNo.all _ mx).2.2.2.2.1 all_nil); clear hS; have hN9 := hNo.setNo mx (by decide) hm (g := fun z => { z with nm := ((({ kind := k, n := x.id, old := o, over := ov } : SCh)).old) }) (show Blk _ _ (SNo.cells { x.no with nm := ((({ kind := k, n := x.id, old := o, over := ov } : SCh)).old) }) _ from hb) rfl; clear hNo hNb hb; obtain ⟨l6, el6⟩ : ∃ y, y = updN l x.id (fun z => { z with no := { z.no with nm := ((({ kind := k, n := x.id, old := o, over := ov } : SCh)).old) } }) := ⟨_, rfl⟩; have hN : Nds 71 96 (Fsh (ndB l) w) w5 Q l6 := (by rw [el6]; exact hN9); clear hN9; refine nt ?_; refine ns ?_; refine st _ (r_field rfl off73_3) ?_; refine st _ ((r_loadBlk rfl one64 ha1 rfl).to (b := (nptr ((({ kind := k, n := x.id, old := o, over := ov } : SCh)).over))) rfl) ?_; refine st _ (r_neqNp (o := (({ kind := k, n := x.id, old := o, over := ov } : SCh)).over) rfl u64) ?_; refine nt ?_; refine c_if rfl (fun h24 => ?_) (fun h24 => ?_)
      · (first | (have h24n := of_decide_eq_true h24) | (have h24n := of_decide_eq_false (bnt h24)) | (have h24n := bnt h24) | (have h24n := h24)); refine c_region ?_; obtain ⟨oy, hoy⟩ := Option.isSome_iff_exists.1 h24; have hoy2 : ov = some oy := hoy; clear h24 h24n hoy; subst hoy2; obtain ⟨yn, my, ey⟩ := List.mem_map.1 (show oy ∈ l6.map (·.id) by rw [el6, updN_ids] <;> first | exact p1 _ rfl | (intro _; rfl)); subst ey; refine st _ (r_field rfl off73_3) ?_; refine st _ ((r_loadBlk rfl one64 ha1 rfl).to (b := (nptr ((({ kind := k, n := x.id, old := o, over := (some yn.id) } : SCh)).over))) rfl) ?_; refine st _ (r_nil rfl) ?_; refine st _ (r_field rfl off71_1) ?_; refine st_store rfl rfl one4 rfl (hN.get my).1 (Nat.le_of_ble_eq_true rfl) ?_; intro w7 hm hb; have hNo := hN; clear hN; have hNb := (hNo.get my).1; have hS : ∀ b ∈ [yn.id], ¬ Q b := (by intro b hb; rw [List.mem_singleton] at hb; subst hb; exact (hNo.get my).2.2); replace ha1 := ha1.md hm (by rw [List.mem_singleton]; exact blk_ne_ty ha1 hNb (by decide)); replace uQ := uQ.md hm; replace M := M.step hm (all_cons (hNo.all _ my).2.2.2.2.1 all_nil); clear hS; have hN9 := hNo.setNo my (by decide) hm (g := fun z => { z with there := true }) (show Blk _ _ (SNo.cells { yn.no with there := true }) _ from hb) rfl; clear hNo hNb hb; obtain ⟨l8, el8⟩ : ∃ y, y = updN l6 yn.id (fun z => { z with no := { z.no with there := true } }) := ⟨_, rfl⟩; have hN : Nds 71 96 (Fsh (ndB l) w) w7 Q l8 := (by rw [el8]; exact hN9); clear hN9; refine st_nil ?_; refine n_block ?_; exact retL (vs := []) trivial rfl trivial rfl ⟨rfl, M, (by unfold undoN; simp only [if_neg h8n, if_pos h14n]; rw [el8, el6] at hN; exact hN)⟩
      · (first | (have h24n := of_decide_eq_false h24) | (have h24n := of_decide_eq_true (bnf h24)) | (have h24n := bnf h24) | (have h24n := h24)); refine c_skip ?_; refine n_block ?_; exact retL (vs := []) trivial rfl trivial rfl ⟨rfl, M, (by have e9 : ov = none := Option.isNone_iff_eq_none.1 (Option.isSome_eq_false_iff.1 h24); subst e9; unfold undoN; simp only [if_neg h8n, if_pos h14n]; rw [el6] at hN; exact hN)⟩
    · (first | (have h14n := of_decide_eq_false h14) | (have h14n := of_decide_eq_true (bnf h14)) | (have h14n := bnf h14) | (have h14n := h14)); refine c_region ?_; refine st _ (r_field rfl off73_1) ?_; refine st _ ((r_loadBlk rfl one64 ha1 rfl).to (b := (.pointer (some ⟨(({ kind := k, n := x.id, old := o, over := ov } : SCh)).n, 0, none⟩))) rfl) ?_; refine st _ (r_nil rfl) ?_; refine st _ (r_field rfl off71_1) ?_; refine st_store rfl rfl one4 rfl (hN.get mx).1 (Nat.le_of_ble_eq_true rfl) ?_; intro w9 hm hb; have hNo := hN; clear hN; have hNb := (hNo.get mx).1; have hS : ∀ b ∈ [x.id], ¬ Q b := (by intro b hb; rw [List.mem_singleton] at hb; subst hb; exact (hNo.get mx).2.2); replace ha1 := ha1.md hm (by rw [List.mem_singleton]; exact blk_ne_ty ha1 hNb (by decide)); replace uQ := uQ.md hm; replace M := M.step hm (all_cons (hNo.all _ mx).2.2.2.2.1 all_nil); clear hS; have hN9 := hNo.setNo mx (by decide) hm (g := fun z => { z with there := true }) (show Blk _ _ (SNo.cells { x.no with there := true }) _ from hb) rfl; clear hNo hNb hb; obtain ⟨l10, el10⟩ : ∃ y, y = updN l x.id (fun z => { z with no := { z.no with there := true } }) := ⟨_, rfl⟩; have hN : Nds 71 96 (Fsh (ndB l) w) w9 Q l10 := (by rw [el10]; exact hN9); clear hN9; refine st_nil ?_; refine n_block ?_; exact retL (vs := []) trivial rfl trivial rfl ⟨rfl, M, (by unfold undoN; simp only [if_neg h8n, if_neg h14n]; rw [el10] at hN; exact hN)⟩
end Go.Proofs.YtogcacggojjijaaGreat
namespace Go.Proofs.YtogcacggojjijaaGreat
open Go Go.Wk Go.RowKit
set_option linter.unusedVariables false
set_option linter.unusedSimpArgs false
attribute [local irreducible] wpList wpQuiet wpStill wpMix Code.wp Calls bodyPost
theorem agg73 : isAggN Tryz.prog 73 4 = true := by kernel_rfl
theorem el73 : elemIs Tryz.prog 73 4 = true := by kernel_rfl
theorem fn63 : isFn Tryz.prog 63 = true := by kernel_rfl
theorem fn65 : isFn Tryz.prog 65 = true := by kernel_rfl

set_option maxRecDepth 100000 in
theorem fCrash_any {w : World} {Q : Nat → Prop} (uQ : Up w Q) {b0 : Nat} {v0_0 : Value} {v0_1 : Value} (f : SFs) (h0 : Blk w b0 (SFs.cells f v0_0 v0_1) 57) (n0 : ¬ Q b0) (a0_0 : SFs.ok f) (a0_1 : Ow tNd 64 (fun _ => True) w Q v0_0 f.nodes) (a0_2 : Ow tSCh 73 (fun _ => True) w Q v0_1 f.pend) (hN0 : Nds 71 96 (fun _ => True) w Q f.nodes) {v1 : Value} {keep : List Bool} (h1 : Ls tBool w Q v1 keep) (dirs : Int) (a2 : (-9223372036854775808 ≤ dirs ∧ dirs < 9223372036854775808)) (p0 : f.nodes.length ≤ 1000000) (p1 : f.pend.length ≤ 1000000) (p2 : ∀ c ∈ f.pend, c.n ∈ f.nodes.map (·.id) ∧ ∀ o, c.over = some o → o ∈ f.nodes.map (·.id)) (p3 : ∀ z ∈ f.nodes, z.fl.b.length ≤ 1000000 ∧ z.fl.safe.length ≤ 1000000) :
    Calls Tryz.prog 23 #[.pointer (some ⟨b0, 0, none⟩), v1, (.int .i64 (dirs : Int))] w fun en w' => ∃ m0 : SFs, ∃ u50_0 : Value, ∃ u50_1 : Value, ∃ Q' : Nat → Prop, en = .returned (.tuple #[]) ∧ Md (b0 :: (vblock v0_0).toList ++ ((vblock v0_1).toList ++ (ndB f.nodes))) w w' ∧ NewQ w w' Q Q' ∧ Blk w' b0 (SFs.cells m0 u50_0 u50_1) 57 ∧ ¬ Q' b0 ∧ SFs.ok m0 ∧ Ow tNd 64 (Fsh (b0 :: (vblock v0_0).toList ++ ((vblock v0_1).toList ++ (ndB f.nodes))) w) w' Q' u50_0 m0.nodes ∧ Ow tSCh 73 (Fsh (b0 :: (vblock v0_0).toList ++ ((vblock v0_1).toList ++ (ndB f.nodes))) w) w' Q' u50_1 m0.pend ∧ Nds 71 96 (Fsh (b0 :: (vblock v0_0).toList ++ ((vblock v0_1).toList ++ (ndB f.nodes))) w) w' Q' m0.nodes ∧ crashR f keep dirs = m0 := by
  have L1 := h1.len63; have n_h0 := n0; have p_h0 : Fsh (b0 :: (vblock v0_0).toList ++ ((vblock v0_1).toList ++ (ndB f.nodes))) w b0 := .inl (by simp); replace a0_1 := a0_1.reP (lo' := Fsh (b0 :: (vblock v0_0).toList ++ ((vblock v0_1).toList ++ (ndB f.nodes))) w) (fun b hb => .inl (by simp [hb])); replace a0_2 := a0_2.reP (lo' := Fsh (b0 :: (vblock v0_0).toList ++ ((vblock v0_1).toList ++ (ndB f.nodes))) w) (fun b hb => .inl (by simp [hb])); have hN := hN0.reB (lo' := Fsh (b0 :: (vblock v0_0).toList ++ ((vblock v0_1).toList ++ (ndB f.nodes))) w) (fun b hb => .inl (by simp [hb])); clear hN0; have M := Md.refl (b0 :: (vblock v0_0).toList ++ ((vblock v0_1).toList ++ (ndB f.nodes))) w; have uQ0 := uQ; have tQ : ∀ b, Q b → Q b := fun _ h => h; have sQ0 : ∀ b, Q b → b < w.heap.size → Q b := fun _ h _ => h; refine enter (n := 68) Tryz.func23 rfl rfl rfl ?_; intro B; refine c_seq ?_; refine ns ?_; refine mv rfl ?_; refine st _ (r_nil rfl) ?_; refine st _ (r_field rfl off57_4) ?_; refine st _ ((r_loadBlk rfl one55 h0 rfl).to (b := v0_1) rfl) ?_; refine st _ (r_len rfl u55 a0_2.shp) ?_; refine st _ (r_subI (a := ((f.pend.length : Nat) : Int)) (b := 1) rfl rfl (by omega)) ?_; refine asg rfl ?_; refine nt ?_; refine c_block ?_; refine loop2 (fun (x : SFs) (i : Int) => [(6, (.int .i64 (i : Int))), (0, (.pointer (some ⟨b0, 0, none⟩))), (1, v1), (2, (.int .i64 (dirs : Int)))]) (fun (x : SFs) (i : Int) w' => ∃ Q' : Nat → Prop, (∀ b, Q' b → Q b) ∧ (∀ b, Q b → b < w.heap.size → Q' b) ∧ Up w' Q' ∧ Md (b0 :: (vblock v0_0).toList ++ ((vblock v0_1).toList ++ (ndB f.nodes))) w w' ∧ Blk w' b0 (SFs.cells x v0_0 v0_1) 57 ∧ Ow tNd 64 (Fsh (b0 :: (vblock v0_0).toList ++ ((vblock v0_1).toList ++ (ndB f.nodes))) w) w' Q' v0_0 x.nodes ∧ Ow tSCh 73 (Fsh (b0 :: (vblock v0_0).toList ++ ((vblock v0_1).toList ++ (ndB f.nodes))) w) w' Q' v0_1 x.pend ∧ SFs.ok x ∧ Ls tBool w' Q' v1 keep ∧ Nds 71 96 (Fsh (b0 :: (vblock v0_0).toList ++ ((vblock v0_1).toList ++ (ndB f.nodes))) w) w' Q' x.nodes ∧ ¬ Q' b0 ∧ x = { f with nodes := x.nodes } ∧ x.nodes.map (·.id) = f.nodes.map (·.id) ∧ -1 ≤ i ∧ i < f.pend.length ∧ undoL x.nodes ((f.pend.take (i + 1).toNat).drop dirs.toNat).reverse = undoL f.nodes (f.pend.drop dirs.toNat).reverse ∧ (∀ z ∈ x.nodes, z.fl.b.length ≤ 1000000 ∧ z.fl.safe.length ≤ 1000000)) (fun (x : SFs) (i : Int) => (i + 1).toNat) (x0 := f) (x1 := (((f.pend.length : Nat) : Int) - 1)) ?_ ?_ ?_
  · exact ⟨rfl, rfl, rfl, rfl, trivial⟩
  · exact ⟨Q, tQ, sQ0, uQ, M, h0, a0_1, a0_2, a0_0, h1, hN, n_h0, (by cases f; rfl), rfl, (by omega), (by omega), (by rw [List.take_of_length_le (by omega)]), p3⟩
  · clear M uQ tQ sQ0 n_h0 a0_1 a0_2 h0 h1 hN
    rintro x i B w1 ⟨Q2, tQ, sQ0, uQ, M, h0, a0_1, a0_2, kx_0, h1, hN, n_h0, i0_0, i0_1, i0_2, i0_3, i0_4, i0_5⟩; have xp : x.pend.length = f.pend.length := (by rw [i0_0]); refine c_seq ?_; refine ns ?_; refine mv rfl ?_; refine mv rfl ?_; refine st _ (r_maxZ (a := dirs) (b := 0) rfl rfl) ?_; refine st _ (r_ge (a := i) (b := (if dirs < 0 then 0 else dirs)) rfl rfl) ?_; refine nt ?_; refine c_if rfl (fun h19 => ?_) (fun h19 => ?_)
    · (first | (have h19n := of_decide_eq_true h19) | (have h19n := of_decide_eq_false (bnt h19)) | (have h19n := bnt h19) | (have h19n := h19)); have hd0 : 0 ≤ i ∧ dirs ≤ i := (by split at h19n <;> omega); refine c_skip ?_; refine c_then ?_; refine c_seq ?_; refine c_block ?_; refine c_region ?_; refine mv rfl ?_; refine st _ (r_nil rfl) ?_; refine st _ (r_field rfl off57_4) ?_; refine st _ ((r_loadBlk rfl one55 h0 rfl).to (b := v0_1) rfl) ?_; refine mv rfl ?_; refine st _ (r_indexZ (i := i) 4 rfl rfl u55 el73 a0_2.shp (by omega)) ?_; obtain ⟨x3, hx3⟩ := getE (l := x.pend) (i := (i).toNat) (by first | omega | (simp <;> omega)); obtain ⟨c4, hr3, ha3⟩ := a0_2.get hx3; obtain ⟨_, rfl, q5⟩ := tSCh_un hr3; replace ha3 : At _ v0_1 (((i).toNat) * 4) (SCh.cells x3) := ha3; refine st _ (r_loadEA (kk := ((i).toNat) * 4) (SCh.cells x3) 0 rfl rfl (by exact agg73) ha3 rfl) ?_; have hcm : x3 ∈ f.pend := (by have e := List.mem_of_getElem? hx3; rw [i0_0] at e; exact e); refine st_call fn63 rfl (fUndo_any uQ x3 q5 (ids_mem i0_1 (p2 _ hcm).1) (fun o ho => ids_mem i0_1 ((p2 _ hcm).2 o ho)) (hN.reP (fun _ _ => trivial))) ?_; rintro en w6 ⟨rfl, hm, hN9⟩; refine ⟨_, rfl, ?_⟩; have hNo := hN; clear hN; replace hN9 := hN9.reP (lo' := Fsh (b0 :: (vblock v0_0).toList ++ ((vblock v0_1).toList ++ (ndB f.nodes))) w) (fun b hb => hb.elim (hNo.loB b) (Fsh.new M b)); replace h0 := h0.md hm (hNo.ninB h0 (by decide) (by decide)); replace a0_1 := a0_1.md hm (hNo.ninO a0_1 (by decide) (by decide)) hNo.nQB; replace a0_2 := a0_2.md hm (hNo.ninO a0_2 (by decide) (by decide)) hNo.nQB; replace h1 := h1.md hm hNo.nQB; clear ha3; replace uQ := uQ.md hm; replace M := M.step hm hNo.loB; clear hNo; obtain ⟨s7, es7⟩ : ∃ y, y = ({ x with nodes := undoN x.nodes x3 } : SFs) := ⟨_, rfl⟩; replace h0 : Blk w6 b0 (SFs.cells s7 v0_0 v0_1) 57 := (by rw [es7]; exact h0); have oks7 : SFs.ok s7 := (by rw [es7]; exact kx_0); replace a0_1 := ow_ids a0_1 (show s7.nodes.map (·.id) = x.nodes.map (·.id) from by rw [es7]; exact undoN_ids _ _); rw [show x.pend = s7.pend by rw [es7]] at a0_2; have hN : Nds 71 96 (Fsh (b0 :: (vblock v0_0).toList ++ ((vblock v0_1).toList ++ (ndB f.nodes))) w) w6 Q2 s7.nodes := (by rw [es7]; exact hN9); clear hN9; refine st_nil ?_; refine n_block ?_; refine c_then ?_; refine c_region ?_; refine mv rfl ?_; refine st _ (r_subI (a := i) (b := 1) rfl rfl (by omega)) ?_; refine asg rfl ?_; refine nt ?_; refine next2 (x0 := s7) (x1 := (i - 1)) (by omega) ⟨(fitI rfl (by omega)), rfl, rfl, rfl, trivial⟩ ⟨Q2, tQ, sQ0, uQ, M, h0, a0_1, a0_2, oks7, h1, hN, n_h0, (by rw [es7]; rw [i0_0]), (by rw [es7]; exact (undoN_ids _ _).trans i0_1), (by omega), (by omega), (by rw [es7]; show undoL (undoN x.nodes x3) _ = _; rw [← i0_4, undo_step (by have e := hx3; rw [i0_0] at e; exact e) hd0.1 hd0.2]; rfl), (by rw [es7]; exact undo_fl i0_5)⟩
    · (first | (have h19n := of_decide_eq_false h19) | (have h19n := of_decide_eq_true (bnf h19)) | (have h19n := bnf h19) | (have h19n := h19)); have hd0 : i < 0 ∨ i < dirs := (by split at h19n <;> omega); refine c_exit ?_; refine x_then ?_; refine x_then ?_; refine x_hit ?_; refine c_then ?_; refine ns ?_; refine mv rfl ?_; refine st_call fn62 rfl (fSettle_any uQ x h0 n_h0 kx_0 (a0_1.reP (fun _ _ => trivial)) (a0_2.reP (fun _ _ => trivial)) (hN.reP (fun _ _ => trivial))) ?_; rintro en w8 ⟨m8_0, mv8_0_0, mv8_0_1, Q9, rfl, hm, ⟨sQ, sT, uQ2⟩, mh8_0, mn8_0, mq8_0_0, mf8_0_1, mf8_0_2, mN8, hF8⟩; refine ⟨_, rfl, ?_⟩; have hP : ∀ i ∈ (b0 :: (vblock v0_0).toList ++ ((vblock v0_1).toList ++ (ndB x.nodes))), Fsh (b0 :: (vblock v0_0).toList ++ ((vblock v0_1).toList ++ (ndB f.nodes))) w i := (all_cons p_h0 (all_app (all_row (fun x hx => (a0_1.2 x hx).1)) (all_app (all_row (fun x hx => (a0_2.2 x hx).1)) (fun x hx => hN.loB x hx)))); have hS : ∀ i ∈ (b0 :: (vblock v0_0).toList ++ ((vblock v0_1).toList ++ (ndB x.nodes))), ¬ Q2 i := (all_cons n_h0 (all_app (all_row (fun x hx => (a0_1.2 x hx).2)) (all_app (all_row (fun x hx => (a0_2.2 x hx).2)) (fun x hx => hN.nQB x hx)))); have hP9 := hP; have M9 := M; replace mf8_0_1 := mf8_0_1.reP (fun x hx => (mf8_0_1.2 x hx).1); replace mf8_0_1 := mf8_0_1.reP (fun x hx => (mf8_0_1.2 x hx).1.elim (hP x) (Fsh.new M x)); replace mf8_0_2 := mf8_0_2.reP (fun x hx => (mf8_0_2.2 x hx).1); replace mf8_0_2 := mf8_0_2.reP (fun x hx => (mf8_0_2.2 x hx).1.elim (hP x) (Fsh.new M x)); replace h1 := h1.sub sQ; replace tQ := fun b hb => tQ b (sT b hb); replace sQ0 := fun b hb hl => sQ b (sQ0 b hb hl) (Nat.lt_of_lt_of_le hl M.size); replace hS := fun i hi hq => hS i hi (sT i hq); replace h1 := h1.md hm hS; replace M := M.step hm hP; clear uQ; have uQ := uQ2; clear uQ2 sQ sT; clear hP hS h0 n_h0; have h0 := mh8_0; have n_h0 := mn8_0; clear mh8_0 mn8_0; replace mN8 := mN8.reP (fun x hx => hx.elim (hP9 x) (Fsh.new M9 x)); clear hN; clear a0_2; clear a0_1; have hN := mN8; clear mN8 hP9 M9; have mN : m8_0.nodes = (undoL f.nodes (f.pend.drop dirs.toNat).reverse).filter (·.no.there) := (by rw [← hF8]; show x.nodes.filter _ = _; rw [undo_end hd0 (by omega)] at i0_4; rw [← i0_4]; rfl); have mL : m8_0.nodes.length ≤ 1000000 := (by rw [mN]; refine Nat.le_trans (List.length_filter_le _ _) ?_; have e := congrArg List.length (undoL_ids (f.pend.drop dirs.toNat).reverse f.nodes); simp only [List.length_map] at e; omega); have mS : ∀ z ∈ m8_0.nodes, z.fl.b.length ≤ 1000000 ∧ z.fl.safe.length ≤ 1000000 := fun z hz => by rw [← hF8] at hz; exact i0_5 z (List.mem_filter.1 hz).1
      have mR : m8_0 = { f with nodes := m8_0.nodes, pend := [] } := (by rw [← hF8]; unfold settleF; rw [i0_0]); refine nt ?_; refine c_seq ?_; refine ns ?_; refine mv rfl ?_; refine st _ (r_nil rfl) ?_; refine st _ (r_field rfl off57_3) ?_; refine st _ ((r_loadBlk rfl one54 h0 rfl).to (b := mv8_0_0) rfl) ?_; refine st _ (r_len rfl u54 mf8_0_1.shp) ?_; refine mv rfl ?_; refine nt ?_; refine c_block ?_; refine loop4 (fun (fy : SFs) (j : Nat) (vkp : Value) (kp : List Bool) => [(37, (.int .i64 ((j : Nat) : Int))), (1, vkp), (0, (.pointer (some ⟨b0, 0, none⟩))), (35, mv8_0_0), (36, (.int .i64 ((m8_0.nodes.length : Nat) : Int)))]) (fun (fy : SFs) (j : Nat) (vkp : Value) (kp : List Bool) w' => ∃ Q' : Nat → Prop, (∀ b, Q' b → Q b) ∧ (∀ b, Q b → b < w.heap.size → Q' b) ∧ Up w' Q' ∧ Md (b0 :: (vblock v0_0).toList ++ ((vblock v0_1).toList ++ (ndB f.nodes))) w w' ∧ Blk w' b0 (SFs.cells fy mv8_0_0 mv8_0_1) 57 ∧ Ow tNd 64 (Fsh (b0 :: (vblock v0_0).toList ++ ((vblock v0_1).toList ++ (ndB f.nodes))) w) w' Q' mv8_0_0 fy.nodes ∧ Ow tSCh 73 (Fsh (b0 :: (vblock v0_0).toList ++ ((vblock v0_1).toList ++ (ndB f.nodes))) w) w' Q' mv8_0_1 fy.pend ∧ SFs.ok fy ∧ Ls tBool w' Q' vkp kp ∧ Nds 71 96 (Fsh (b0 :: (vblock v0_0).toList ++ ((vblock v0_1).toList ++ (ndB f.nodes))) w) w' Q' fy.nodes ∧ ¬ Q' b0 ∧ fy = { m8_0 with nodes := fy.nodes } ∧ fy.nodes.length = m8_0.nodes.length ∧ j ≤ m8_0.nodes.length ∧ fy.nodes.take j ++ crashG (fy.nodes.drop j) kp = crashG m8_0.nodes keep ∧ (∀ z ∈ fy.nodes, z.fl.b.length ≤ 1000000 ∧ z.fl.safe.length ≤ 1000000)) (fun (fy : SFs) (j : Nat) (vkp : Value) (kp : List Bool) => m8_0.nodes.length - j) (x0 := m8_0) (x1 := 0) (x2 := v1) (x3 := keep) ?_ ?_ ?_
      · exact ⟨rfl, rfl, rfl, rfl, rfl, trivial⟩
      · exact ⟨Q9, tQ, sQ0, uQ, M, h0, mf8_0_1, mf8_0_2, mq8_0_0, h1, hN, n_h0, rfl, rfl, (by omega), rfl, mS⟩
      · clear M uQ tQ sQ0 n_h0 h0 h1 hN mf8_0_1 mf8_0_2
        rintro fy j vkp kp B w10 ⟨Q11, tQ, sQ0, uQ, M, h0, mf8_0_1, mf8_0_2, kfy_0, f_kp, hN, n_h0, i1_0, i1_1, i1_2, i1_3, i1_4⟩; refine ns ?_; refine st _ (r_ltN (a := j) (b := m8_0.nodes.length) rfl rfl) ?_; refine nt ?_; refine c_seq ?_; refine c_if rfl (fun h38 => ?_) (fun h38 => ?_)
        · (first | (have h38n := of_decide_eq_true h38) | (have h38n := of_decide_eq_false (bnt h38)) | (have h38n := bnt h38) | (have h38n := h38)); refine c_skip ?_; refine c_then ?_; refine c_seq ?_; refine c_block ?_; refine ns ?_; refine st _ (r_indexN (i := j) 1 rfl rfl u54 el64 mf8_0_1.shp (by omega)) ?_; obtain ⟨x12, hx12⟩ := getE (l := fy.nodes) (i := j) (by first | omega | (simp <;> omega)); obtain ⟨c13, hr12, ha12⟩ := mf8_0_1.get hx12; obtain ⟨rfl, _⟩ := hr12; replace ha12 : At _ mv8_0_0 (j * 1) [(.pointer (some ⟨x12.id, 0, none⟩))] := ha12; refine st _ ((r_loadE (kk := j * 1) 0 rfl rfl one64 ha12 rfl).to (b := (.pointer (some ⟨x12.id, 0, none⟩))) rfl) ?_; refine asg rfl ?_; refine st_nil ?_; clear ha12; refine c_then ?_; refine ns ?_; refine mv rfl ?_; refine st _ (r_nil rfl) ?_; refine st _ (r_field rfl off71_2) ?_; obtain ⟨fv14, fw14, hf14, n_hf14, fb14, fs14⟩ := hN.file (List.mem_of_getElem? hx12); refine st _ ((r_loadBlk rfl one68 (hN.get (List.mem_of_getElem? hx12)).1 rfl).to (b := (.pointer (some ⟨x12.no.fid, 0, none⟩))) rfl) ?_; have mS2 := i1_4 _ (List.mem_of_getElem? hx12); refine st_call fn64 rfl (sDirty_any_ls uQ x12.fl hf14 n_hf14 fb14 fs14 (by first | omega | (simp <;> omega) | (simp at * <;> omega)) (by first | omega | (simp <;> omega) | (simp at * <;> omega))) ?_; rintro en w15 ⟨v15_0, x15_0, rfl, hm, h15_0, hF15⟩; refine ⟨_, rfl, ?_⟩; replace h0 := h0.md0 hm; replace mf8_0_1 := mf8_0_1.md0 hm; replace mf8_0_2 := mf8_0_2.md0 hm; replace f_kp := f_kp.md0 hm; replace hN := hN.md0 hm; replace fb14 := fb14.md0 hm; replace fs14 := fs14.md0 hm; replace hf14 := hf14.md0 hm; replace uQ := uQ.md hm; replace M := M.step0 hm; refine st _ (r_len rfl u87 h15_0.shp) ?_; refine mv rfl ?_; refine st _ (r_len rfl u32 f_kp.shp) ?_; refine st _ (r_minN (a := x15_0.length) (b := kp.length) rfl rfl) ?_; refine asg rfl ?_; refine st_nil ?_; clear hf14 n_hf14 fb14 fs14; refine c_then ?_; refine c_seq ?_; have hids := hN.ids; have h0_q := h0; have mf8_0_1_q := mf8_0_1; have mf8_0_2_q := mf8_0_2; have f_kp_q := f_kp; have hN_q := hN; have h15_0_q := h15_0; refine c_mixT [(0, true), (1, true), (2, true), (3, true), (4, true), (5, true), (6, true)] [7] (fun w' => Md [] w15 w') mixed (by kernel_rfl) ?_; intro w16 hd0; refine ⟨hd0.mono (by simp), ?_⟩; have MC := hd0.mono (T := []) (by simp); refine Go.Wk.m _ (fun w' hc => r_move rfl) ?_; refine Go.Wk.m _ (fun w' hc => r_nil rfl) ?_
          refine Go.Wk.m _ (fun w' hc => r_field rfl off71_2) ?_; obtain ⟨fv17, fw17, hf17, n_hf17, fb17, fs17⟩ := hN.file (List.mem_of_getElem? hx12); refine Go.Wk.m _ (fun w' hc => (r_loadBlk rfl one68 ((hN_q.md0 hc).get (List.mem_of_getElem? hx12)).1 rfl).to (b := (.pointer (some ⟨x12.no.fid, 0, none⟩))) rfl) ?_; refine Go.Wk.m _ (fun w' hc => r_move rfl) ?_; refine Go.Wk.m _ (fun w' hc => r_move rfl) ?_; refine Go.Wk.m _ (fun w' hc => r_sliceZ 1 0 (min x15_0.length kp.length) u32 el4 rfl f_kp.shp (by omega) (by omega) rfl ⟨_, rfl⟩) ?_; have hs18 := f_kp.head (hi := min x15_0.length kp.length) (by omega); refine m_nil ?_; replace h0 := h0.md0 hd0; replace mf8_0_1 := mf8_0_1.md0 hd0; replace mf8_0_2 := mf8_0_2.md0 hd0; replace f_kp := f_kp.md0 hd0; replace hN := hN.md0 hd0; replace h15_0 := h15_0.md0 hd0; replace fb17 := fb17.md0 hd0; replace fs17 := fs17.md0 hd0; replace hf17 := hf17.md0 hd0; replace hs18 := hs18.md0 hd0; replace uQ := uQ.md hd0; replace M := M.step0 hd0; clear mf8_0_1_q h0_q f_kp_q h15_0_q mf8_0_2_q hN_q; clear MC; refine st_call fn65 rfl (sCrash_any uQ x12.fl hf17 n_hf17 fb17 fs17 hs18 (mS2.1) (mS2.2)) ?_; rintro en w19 ⟨m19, u19, z19, rfl, hm, hb, _, hl0, hl1, hF19⟩; refine ⟨_, rfl, ?_⟩; subst hF19; have hNo := hN; clear hN; have hNb := hf17; have nq9 := n_hf17; clear hf17 n_hf17 fb17 fs17; have hS : ∀ b ∈ [x12.no.fid], ¬ Q11 b := (by intro b hb; rw [List.mem_singleton] at hb; subst hb; exact nq9); replace h0 := h0.md hm (by rw [List.mem_singleton]; exact blk_ne_ty h0 hNb (by decide)); replace mf8_0_1 := mf8_0_1.md hm (fun b hb => by rw [List.mem_singleton]; exact mf8_0_1.blk_ne hNb (by decide) b hb) hS; replace mf8_0_2 := mf8_0_2.md hm (fun b hb => by rw [List.mem_singleton]; exact mf8_0_2.blk_ne hNb (by decide) b hb) hS; replace f_kp := f_kp.md hm hS; replace h15_0 := h15_0.md hm hS; replace hs18 := hs18.md hm hS; replace uQ := uQ.md hm; replace M := M.step hm (all_cons (hNo.all _ (List.mem_of_getElem? hx12)).2.2.2.2.2 all_nil); clear hS; have hN9 := hNo.setFl (List.mem_of_getElem? hx12) (by decide) hm hb hl0 hl1; clear hNo hNb hb nq9 hl0 hl1; obtain ⟨s20, es20⟩ : ∃ y, y = ({ fy with nodes := updN fy.nodes x12.id (fun z => { z with fl := { b := crashB x12.fl.b x12.fl.safe (kp.take (min x15_0.length kp.length)), safe := crashB x12.fl.b x12.fl.safe (kp.take (min x15_0.length kp.length)) } }) } : SFs) := ⟨_, rfl⟩; replace h0 : Blk w19 b0 (SFs.cells s20 mv8_0_0 mv8_0_1) 57 := (by rw [es20]; exact h0); have oks20 : SFs.ok s20 := (by rw [es20]; exact kfy_0)
          replace mf8_0_1 := ow_ids mf8_0_1 (show s20.nodes.map (·.id) = fy.nodes.map (·.id) from by rw [es20]; exact updN_ids (fun _ => rfl)); rw [show fy.pend = s20.pend by rw [es20]] at mf8_0_2; have hN : Nds 71 96 (Fsh (b0 :: (vblock v0_0).toList ++ ((vblock v0_1).toList ++ (ndB f.nodes))) w) w19 Q11 s20.nodes := (by rw [es20]; exact hN9); clear hN9; refine nt ?_; refine c_region ?_; refine mv rfl ?_; refine mv rfl ?_; refine st _ (r_sliceZ 1 (min x15_0.length kp.length) kp.length u32 el4 rfl f_kp.shp (by omega) (by omega) ⟨_, rfl⟩ rfl) ?_; have hs21 := f_kp.tail (lo := min x15_0.length kp.length) (by omega); refine asg rfl ?_; refine st_nil ?_; refine n_block ?_; refine c_then ?_; refine c_region ?_; refine st _ (r_addN (a := j) (b := 1) 9223372036854775808 rfl rfl rfl (by omega)) ?_; refine mv rfl ?_; refine nt ?_; refine next4 (x0 := s20) (x1 := (j + 1)) (x2 := (subz 1 vkp (min x15_0.length kp.length) kp.length)) (x3 := (kp.drop (min x15_0.length kp.length))) (by omega) ⟨(fitI rfl (by omega)), rfl, rfl, rfl, rfl, trivial⟩ ⟨Q11, tQ, sQ0, uQ, M, h0, mf8_0_1, mf8_0_2, oks20, hs21, hN, n_h0, (by rw [es20]; rw [i1_0]), (by have e := congrArg List.length (show s20.nodes.map (·.id) = fy.nodes.map (·.id) from by rw [es20]; exact updN_ids fun _ => rfl); simp only [List.length_map] at e; omega), (by omega), (by rw [es20]; show (updN fy.nodes _ _).take _ ++ crashG ((updN fy.nodes _ _).drop _) _ = _; rw [updN_at hids hx12]; exact crash_step hx12 (by rw [hF15]) rfl i1_3), (by rw [es20]; intro q hq; rcases mem_updN hq with ⟨q2, hq2, _, rfl⟩ | ⟨hq2, _⟩; (· show (crashB _ _ _).length ≤ _ ∧ (crashB _ _ _).length ≤ _; have e := crash_len x12.fl.b x12.fl.safe (kp.take (min x15_0.length kp.length)); omega); (· exact i1_4 q hq2))⟩
        · (first | (have h38n := of_decide_eq_false h38) | (have h38n := of_decide_eq_true (bnf h38)) | (have h38n := bnf h38) | (have h38n := h38)); refine c_exit ?_; refine x_then ?_; refine x_then ?_; refine x_hit ?_; refine c_then ?_; refine c_region ?_; refine mv rfl ?_; refine mv rfl ?_; refine st _ (r_nil rfl) ?_; refine st _ (r_field rfl off57_2) ?_; refine st_store rfl rfl one4 rfl h0 (Nat.le_of_ble_eq_true rfl) ?_; have h00 := h0; clear h0; intro w22 hm h0; have hS : ∀ b ∈ [b0], ¬ Q11 b := (by intro b hb; simp at hb; subst hb; exact n_h0); replace mf8_0_1 := mf8_0_1.md hm (apart_bo h00 mf8_0_1 (by decide)) hS; replace mf8_0_2 := mf8_0_2.md hm (apart_bo h00 mf8_0_2 (by decide)) hS; replace f_kp := f_kp.md hm hS; replace hN := hN.md hm (hN.ap1 h00 (by decide) (by decide)) hS; replace uQ := uQ.md hm; replace M := M.step hm (all_cons p_h0 all_nil); clear h00 hS; obtain ⟨s23, es23⟩ : ∃ y, y = ({ fy with off := false } : SFs) := ⟨_, rfl⟩; replace h0 : Blk _ _ (SFs.cells ({ fy with off := false }) mv8_0_0 mv8_0_1) _ := h0; rw [← es23] at h0; have oks23 : SFs.ok s23 := (by rw [es23]; exact ⟨kfy_0.1, kfy_0.2⟩); replace hN : Nds 71 96 (Fsh (b0 :: (vblock v0_0).toList ++ ((vblock v0_1).toList ++ (ndB f.nodes))) w) w22 Q11 s23.nodes := (by rw [es23]; exact hN); rw [show fy.nodes = s23.nodes by rw [es23]] at mf8_0_1; rw [show fy.pend = s23.pend by rw [es23]] at mf8_0_2; refine st _ (r_nil rfl) ?_; refine st _ (r_field rfl off57_1) ?_; refine st_store rfl rfl one3 rfl h0 (Nat.le_of_ble_eq_true rfl) ?_; have h00 := h0; clear h0; intro w24 hm h0; have hS : ∀ b ∈ [b0], ¬ Q11 b := (by intro b hb; simp at hb; subst hb; exact n_h0); replace mf8_0_1 := mf8_0_1.md hm (apart_bo h00 mf8_0_1 (by decide)) hS; replace mf8_0_2 := mf8_0_2.md hm (apart_bo h00 mf8_0_2 (by decide)) hS; replace f_kp := f_kp.md hm hS; replace hN := hN.md hm (hN.ap1 h00 (by decide) (by decide)) hS; replace uQ := uQ.md hm; replace M := M.step hm (all_cons p_h0 all_nil); clear h00 hS; obtain ⟨s25, es25⟩ : ∃ y, y = ({ s23 with fuse := (-1) } : SFs) := ⟨_, rfl⟩; replace h0 : Blk _ _ (SFs.cells ({ s23 with fuse := (-1) }) mv8_0_0 mv8_0_1) _ := h0; rw [← es25] at h0; have oks25 : SFs.ok s25 := (by rw [es25]; exact ⟨oks23.1, (by first | omega | assumption | (simp <;> omega) | simp_all)⟩); replace hN : Nds 71 96 (Fsh (b0 :: (vblock v0_0).toList ++ ((vblock v0_1).toList ++ (ndB f.nodes))) w) w24 Q11 s25.nodes := (by rw [es25]; exact hN); rw [show s23.nodes = s25.nodes by rw [es25]] at mf8_0_1
          rw [show s23.pend = s25.pend by rw [es25]] at mf8_0_2; refine st_nil ?_; exact retL (vs := []) trivial rfl trivial rfl ⟨s25, _, _, Q11, rfl, M, ⟨sQ0, tQ, uQ⟩, h0, n_h0, oks25, mf8_0_1, mf8_0_2, hN, (by rw [es25, es23]; show crashR f keep dirs = _; rw [List.drop_of_length_le (by omega), List.take_of_length_le (by omega)] at i1_3; simp only [crashG, List.append_nil] at i1_3; rw [i1_0, mR, i1_3, mN]; rfl)⟩
end Go.Proofs.YtogcacggojjijaaGreat
namespace Go.Proofs.YtogcacggojjijaaGreat
open Go Go.Wk Go.RowKit
set_option linter.unusedVariables false
set_option linter.unusedSimpArgs false
attribute [local irreducible] wpList wpQuiet wpStill wpMix Code.wp Calls bodyPost
theorem fn73 : isFn Tryz.prog 73 = true := by kernel_rfl

def nmF (off : Bool) (l : List SNd) : List (List UInt8) := if off = true then [] else (l.filter (·.no.there)).map (·.no.nm)
def namesD (f : SFs) : List (List UInt8) := sortL (nmF f.off f.nodes)
theorem nmF_end {off : Bool} {l : List SNd} {i : Nat} (h : ¬ i < l.length) : nmF off (l.drop i) = [] := by rw [List.drop_of_length_le (by omega)]; unfold nmF; split <;> rfl
theorem nmF_yes {off : Bool} {l : List SNd} {i : Nat} {x : SNd} (h : l[i]? = some x) (h1 : x.no.there = true) (h2 : off = false) : nmF off (l.drop i) = x.no.nm :: nmF off (l.drop (i + 1)) := by
  unfold nmF; rw [h2, findN_get h, List.filter_cons, if_pos h1]; rfl
theorem nmF_no {off : Bool} {l : List SNd} {i : Nat} {x : SNd} (h : l[i]? = some x) (h1 : ¬ (x.no.there = true ∧ off = false)) : nmF off (l.drop i) = nmF off (l.drop (i + 1)) := by
  unfold nmF
  cases off with
  | true => rfl
  | false =>
    simp only [Bool.false_eq_true, if_false]; rw [findN_get h, List.filter_cons, if_neg (by simpa using h1)]
theorem fNames_any {w : World} {Q : Nat → Prop} (uQ : Up w Q) {b0 : Nat} {v0_0 : Value} {v0_1 : Value} (f : SFs) (h0 : Blk w b0 (SFs.cells f v0_0 v0_1) 57) (n0 : ¬ Q b0) (a0_0 : SFs.ok f) (a0_1 : Ow tNd 64 (fun _ => True) w Q v0_0 f.nodes) (a0_2 : Ow tSCh 73 (fun _ => True) w Q v0_1 f.pend) (p0 : Nds 71 96 (fun _ => True) w Q f.nodes) (p1 : f.nodes.length ≤ 1000000) :
    Calls Tryz.prog 34 #[.pointer (some ⟨b0, 0, none⟩)] w fun en w' => ∃ u0 : Value, ∃ r0 : List (List UInt8), en = .returned (u0) ∧ Md [] w w' ∧ Ls tStr w' Q u0 r0 ∧ namesD f = r0 := by
  have hN := p0; have Ln := a0_1.read.len63; have n_h0 := n0; have M := Md.refl [] w; have uQ0 := uQ; have tQ : ∀ b, Q b → Q b := fun _ h => h; have sQ0 : ∀ b, Q b → b < w.heap.size → Q b := fun _ h _ => h; refine enter (n := 37) Tryz.func34 rfl rfl rfl ?_; intro B; refine ns ?_; refine asg rfl ?_; refine nt ?_; refine ns ?_; refine asg rfl ?_; refine nt ?_; refine c_seq ?_; refine ns ?_; refine mv rfl ?_; refine st _ (r_nil rfl) ?_; refine st _ (r_field rfl off57_3) ?_; refine st _ ((r_loadBlk rfl one54 h0 rfl).to (b := v0_0) rfl) ?_; refine st _ (r_len rfl u54 a0_1.shp) ?_; refine mv rfl ?_; refine nt ?_; refine c_block ?_; obtain ⟨r0, hr00⟩ : ∃ r, nmF f.off f.nodes = r := ⟨_, rfl⟩; have hr0o := hr00
  try simp only [List.nil_append] at hr00
  refine loop3 (fun (vout : Value) (out : List (List UInt8)) (i : Nat) => [(3, vout), (11, (.int .i64 ((i : Nat) : Int))), (0, (.pointer (some ⟨b0, 0, none⟩))), (9, v0_0), (10, (.int .i64 ((f.nodes.length : Nat) : Int)))]) (fun (vout : Value) (out : List (List UInt8)) (i : Nat) w' => ∃ Q' : Nat → Prop, (∀ b, Q' b → Q b) ∧ (∀ b, Q b → b < w.heap.size → Q' b) ∧ Up w' Q' ∧ Md [] w w' ∧ Ow tStr 9 (Fsh [] w) w' Q' vout out ∧ Blk w' b0 (SFs.cells f v0_0 v0_1) 57 ∧ Ow tNd 64 (fun _ => True) w' Q' v0_0 f.nodes ∧ Ow tSCh 73 (fun _ => True) w' Q' v0_1 f.pend ∧ Nds 71 96 (fun _ => True) w' Q' f.nodes ∧ ¬ Q' b0 ∧ i ≤ f.nodes.length ∧ out.length ≤ i ∧ out ++ nmF f.off (f.nodes.drop i) = r0) (fun (vout : Value) (out : List (List UInt8)) (i : Nat) => f.nodes.length - i) (x0 := (.slice none 0 0)) (x1 := ([] : List (List UInt8))) (x2 := 0) ?_ ?_ ?_
  · exact ⟨rfl, rfl, rfl, rfl, rfl, trivial⟩
  · exact ⟨Q, tQ, sQ0, uQ, M, (Ow.nil _ _ _ _ _), h0, a0_1, a0_2, hN, n_h0, (by omega), (by simp), (by have hh := hr00; first | exact hh | exact hr0o | (simp only [List.nil_append] at hh; exact hh))⟩
  · clear M uQ tQ sQ0 n_h0 a0_1 a0_2 h0 hN
    rintro vout out i B w1 ⟨Q2, tQ, sQ0, uQ, M, f_out, h0, a0_1, a0_2, hN, n_h0, i0_0, i0_1, hr0⟩; refine ns ?_; refine st _ (r_ltN (a := i) (b := f.nodes.length) rfl rfl) ?_; refine nt ?_; refine c_seq ?_; refine c_if rfl (fun h12 => ?_) (fun h12 => ?_)
    · (first | (have h12n := of_decide_eq_true h12) | (have h12n := of_decide_eq_false (bnt h12)) | (have h12n := bnt h12) | (have h12n := h12)); refine c_skip ?_; refine c_then ?_; refine c_seq ?_; refine c_block ?_; refine ns ?_; refine st _ (r_indexN (i := i) 1 rfl rfl u54 el64 a0_1.shp (by omega)) ?_; obtain ⟨x3, hx3⟩ := getE (l := f.nodes) (i := i) (by first | omega | (simp <;> omega)); obtain ⟨c4, hr3, ha3⟩ := a0_1.get hx3; obtain ⟨rfl, _⟩ := hr3; replace ha3 : At _ v0_0 (i * 1) [(.pointer (some ⟨x3.id, 0, none⟩))] := ha3; refine st _ ((r_loadE (kk := i * 1) 0 rfl rfl one64 ha3 rfl).to (b := (.pointer (some ⟨x3.id, 0, none⟩))) rfl) ?_; refine asg rfl ?_; refine st_nil ?_; clear ha3; refine c_then ?_; refine ns ?_; refine mv rfl ?_; refine st _ (r_nil rfl) ?_; refine st _ (r_field rfl off71_1) ?_; refine st _ ((r_loadBlk rfl one4 (hN.get (List.mem_of_getElem? hx3)).1 rfl).to (b := (.bool x3.no.there)) rfl) ?_; refine mv rfl ?_; refine part_n (t := 19) rfl (fun h19 => ?_) (fun h19 => ?_)
      · (first | (have h19n := of_decide_eq_true h19) | (have h19n := of_decide_eq_false (bnt h19)) | (have h19n := bnt h19) | (have h19n := h19)); refine st_g _ rfl rfl rfl h19 (r_move rfl) ?_; refine st_g _ rfl rfl rfl h19 (r_nil rfl) ?_; refine st_g _ rfl rfl rfl h19 (r_field rfl off57_2) ?_; refine st_g _ rfl rfl rfl h19 ((r_loadBlk rfl one4 h0 rfl).to (b := (.bool f.off)) rfl) ?_; refine st_g _ rfl rfl rfl h19 (r_not rfl) ?_; refine st _ (r_pick_t rfl h19 rfl) ?_; refine nt ?_; refine c_if rfl (fun h25 => ?_) (fun h25 => ?_)
        · (first | (have h25n := of_decide_eq_true h25) | (have h25n := of_decide_eq_false (bnt h25)) | (have h25n := bnt h25) | (have h25n := h25)); refine c_region ?_; refine mv rfl ?_; refine mv rfl ?_; refine st _ (r_nil rfl) ?_; refine st _ (r_field rfl off71_0) ?_; refine st _ ((r_loadBlk rfl one9 (hN.get (List.mem_of_getElem? hx3)).1 rfl).to (b := (str x3.no.nm)) rfl) ?_; refine st_buildSliceG [[(str x3.no.nm)]] u51 elT9 (by decide) (by decide) rfl rfl ⟨rfl, trivial⟩ ⟨rfl, trivial⟩ rfl (by decide) ?_; intro ba31 w5 ga31 la31 hm ha31; have ya31 := uQ _ ga31; replace f_out := f_out.md0 hm; replace h0 := h0.md0 hm; replace a0_1 := a0_1.md0 hm; replace a0_2 := a0_2.md0 hm; replace hN := hN.md0 hm; replace uQ := uQ.md hm; replace M := M.step0 hm; replace ha31 := Ls.of_blk (m := 1) (R := Q2) (T := tStr) (xs := [x3.no.nm]) ha31 ⟨_, _, rfl, ⟨rfl, trivial⟩, rfl⟩ rfl (by decide) ya31; refine st_ap (sz := 1) (by rfl) u51 elT9 rfl rfl f_out ha31 (fun _ h _ => h) uQ (Fsh.new M) (by first | omega | (simp <;> omega) | (simp at * <;> omega)) (by first | omega | (simp <;> omega) | (simp at * <;> omega)) ?_; intro v7 w8 Q9 sQ sT uQ2 hO6 hm hS _ hv2; have f_out0 := f_out; clear f_out; replace n_h0 := fun hh => n_h0 (sT _ hh); replace a0_1 := a0_1.sub sQ sT; replace a0_2 := a0_2.sub sQ sT; replace hN := hN.sub sQ sT; replace ha31 := ha31.sub sQ; replace tQ := fun b hb => tQ b (sT b hb); replace sQ0 := fun b hb hl => sQ b (sQ0 b hb hl) (Nat.lt_of_lt_of_le hl M.size); replace h0 := h0.md hm (apart_ow f_out0 h0 (by decide)); replace a0_1 := a0_1.md hm (apart_oo f_out0 a0_1 (by decide)) hS; replace a0_2 := a0_2.md hm (apart_oo f_out0 a0_2 (by decide)) hS; replace hN := hN.md hm (hN.apO f_out0 (by decide) (by decide)) hS; replace ha31 := ha31.md hm hS; replace uQ := uQ.md hm; replace M := M.stepO hm (fun b hb => (f_out0.2 b hb).1); clear uQ; have uQ := uQ2; clear uQ2 sQ sT hS hv2; refine asg rfl ?_; refine st_nil ?_; refine n_block ?_; refine c_then ?_; refine c_region ?_; refine st _ (r_addN (a := i) (b := 1) 9223372036854775808 rfl rfl rfl (by omega)) ?_; refine mv rfl ?_; refine nt ?_; refine next3 (x0 := v7) (x1 := (out ++ ([x3.no.nm]))) (x2 := (i + 1)) (by omega) ⟨rfl, (fitI rfl (by omega)), rfl, rfl, rfl, trivial⟩ ⟨Q9, tQ, sQ0, uQ, M, hO6, h0, a0_1, a0_2, hN, n_h0, (by omega), (by simp; omega), (by have hh := hr0; rw [nmF_yes hx3 (by simp_all) (by simp_all)] at hh; rw [List.append_assoc]; exact hh)⟩
        · (first | (have h25n := of_decide_eq_false h25) | (have h25n := of_decide_eq_true (bnf h25)) | (have h25n := bnf h25) | (have h25n := h25)); refine c_skip ?_; refine n_block ?_; refine c_then ?_; refine c_region ?_; refine st _ (r_addN (a := i) (b := 1) 9223372036854775808 rfl rfl rfl (by omega)) ?_; refine mv rfl ?_; refine nt ?_; refine next3 (x0 := vout) (x1 := out) (x2 := (i + 1)) (by omega) ⟨rfl, (fitI rfl (by omega)), rfl, rfl, rfl, trivial⟩ ⟨Q2, tQ, sQ0, uQ, M, f_out, h0, a0_1, a0_2, hN, n_h0, (by omega), (by omega), (by have hh := hr0; rw [nmF_no hx3 (by simp_all)] at hh; exact hh)⟩
      · (first | (have h19n := of_decide_eq_false h19) | (have h19n := of_decide_eq_true (bnf h19)) | (have h19n := bnf h19) | (have h19n := h19)); refine st_skip rfl rfl rfl h19 ?_; refine st_skip rfl rfl rfl h19 ?_; refine st_skip rfl rfl rfl h19 ?_; refine st_skip rfl rfl rfl h19 ?_; refine st_skip rfl rfl rfl h19 ?_; refine st _ (r_pick_f rfl h19 rfl) ?_; refine nt ?_; refine c_if_f rfl rfl ?_; refine c_skip ?_; refine n_block ?_; refine c_then ?_; refine c_region ?_; refine st _ (r_addN (a := i) (b := 1) 9223372036854775808 rfl rfl rfl (by omega)) ?_; refine mv rfl ?_; refine nt ?_; refine next3 (x0 := vout) (x1 := out) (x2 := (i + 1)) (by omega) ⟨rfl, (fitI rfl (by omega)), rfl, rfl, rfl, trivial⟩ ⟨Q2, tQ, sQ0, uQ, M, f_out, h0, a0_1, a0_2, hN, n_h0, (by omega), (by omega), (by have hh := hr0; rw [nmF_no hx3 (by simp_all)] at hh; exact hh)⟩
    · (first | (have h12n := of_decide_eq_false h12) | (have h12n := of_decide_eq_true (bnf h12)) | (have h12n := bnf h12) | (have h12n := h12)); refine c_exit ?_; refine x_then ?_; refine x_then ?_; refine x_hit ?_; refine c_then ?_; refine ns ?_; refine mv rfl ?_; have hS : ∀ b ∈ (vblock vout).toList, ¬ Q2 b := fun b hb => (f_out.2 b (by simpa using hb)).2; refine st_call fn73 rfl (sortS sortStr f_out (by omega)) ?_; rintro en w10 ⟨rfl, hm, f_out2⟩; refine ⟨_, rfl, ?_⟩; have f_out0 := f_out; clear f_out; have f_out := f_out2; clear f_out2; replace h0 := h0.md hm (apart_ow f_out0 h0 (by decide)); replace a0_1 := a0_1.md hm (apart_oo f_out0 a0_1 (by decide)) hS; replace a0_2 := a0_2.md hm (apart_oo f_out0 a0_2 (by decide)) hS; replace hN := hN.md hm (hN.apO f_out0 (by decide) (by decide)) hS; replace uQ := uQ.md hm; replace M := M.stepO hm (fun b hb => (f_out0.2 b hb).1); clear f_out0 hS; refine nt ?_; refine ns ?_; refine mv rfl ?_; refine asg rfl ?_; refine nt ?_; refine c_ret ?_; exact ret1L (v := vout) trivial rfl ⟨rfl, trivial⟩ ⟨_, (sortL out), rfl, M, (f_out.ls (fun b hb => tQ b hb) (Fsh.up uQ0)), (by have e := hr0o.trans hr0.symm; rw [nmF_end (by omega), List.append_nil] at e; unfold namesD; rw [e])⟩
end Go.Proofs.YtogcacggojjijaaGreat
namespace Go.Proofs.YtogcacggojjijaaGreat
open Go Go.Wk Go.RowKit
set_option linter.unusedVariables false
set_option linter.unusedSimpArgs false
attribute [local irreducible] wpList wpQuiet wpStill wpMix Code.wp Calls bodyPost

/-- A directory that may be: so many nodes and changes at most, no file greater than it may be, changes of its own nodes alone. -/
def cIn (l : List SNd) (c : SCh) : Prop := c.n ∈ l.map (·.id) ∧ ∀ o, c.over = some o → o ∈ l.map (·.id)
structure fWf (k : Nat) (f : SFs) : Prop where
  n : f.nodes.length ≤ k
  p : f.pend.length ≤ k
  fl : ∀ x ∈ f.nodes, x.fl.b.length ≤ 32768 ∧ x.fl.safe.length ≤ 32768
  ch : ∀ c ∈ f.pend, cIn f.nodes c
  room : 0 ≤ f.room
  nd : (f.nodes.map (·.id)).Nodup
theorem tot_le {k : Nat} : ∀ {l : List SNd}, (∀ x ∈ l, x.fl.b.length ≤ 32768 ∧ x.fl.safe.length ≤ 32768) → l.length ≤ k → (totF l).2 ≤ k * 32768
  | [], _, _ => Nat.zero_le _
  | x :: l, h, hl => by
    obtain ⟨k, rfl⟩ : ∃ j, k = j + 1 := ⟨k - 1, by simp at hl; omega⟩; have := tot_le (k := k) (l := l) (fun y hy => h y (List.mem_cons_of_mem _ hy)) (by simpa using hl); have h0 := (h x List.mem_cons_self).1; rw [totF, Nat.succ_mul]
    split
    · exact Nat.add_le_add this h0
    · exact Nat.le_trans this (Nat.le_add_right _ _)
theorem fWf.up {k k' : Nat} {f : SFs} (h : fWf k f) (hk : k ≤ k') : fWf k' f := ⟨Nat.le_trans h.n hk, Nat.le_trans h.p hk, h.fl, h.ch, h.room, h.nd⟩
theorem cIn.of {l l' : List SNd} {c : SCh} (h : cIn l c) (hi : ∀ b ∈ l.map (·.id), b ∈ l'.map (·.id)) : cIn l' c := ⟨hi _ h.1, fun o ho => hi _ (h.2 o ho)⟩
theorem wf_burn {k : Nat} {f m : SFs} {r : Nat} (h : fWf k f) (e : burnF f = (r, m)) : fWf k m := by
  have b := burn_eq e; exact ⟨by rw [b.1]; exact h.n, by rw [b.2.1]; exact h.p, by rw [b.1]; exact h.fl, by rw [b.1, b.2.1]; exact h.ch, by rw [b.2.2]; exact h.room, by rw [b.1]; exact h.nd⟩
theorem wf_burn' {k : Nat} {f : SFs} (h : fWf k f) : fWf k (burnF f).2 := wf_burn (r := (burnF f).1) h rfl
theorem wf_upd {k : Nat} {f : SFs} {i : Nat} {g : SNd → SNd} {p : List SCh} (h : fWf k f) (hg : ∀ z, (g z).id = z.id) (hs : ∀ z ∈ f.nodes, (g z).fl.b.length ≤ 32768 ∧ (g z).fl.safe.length ≤ 32768) (hp : ∀ c ∈ p, c ∈ f.pend ∨ cIn f.nodes c) (hpl : p.length ≤ k + 1) : fWf (k + 1) { f with nodes := updN f.nodes i g, pend := p } := by
  have hi := updN_ids (l := f.nodes) (i := i) hg; refine ⟨?_, hpl, fun x hx => ?_, fun c hc => ?_, h.room, ?_⟩
  · have := congrArg List.length hi; simp only [List.length_map] at this; show (updN f.nodes i g).length ≤ _; have := h.n; omega
  · rcases mem_updN hx with ⟨z, hz, _, rfl⟩ | ⟨hz, _⟩
    · exact hs z hz
    · exact h.fl x hz
  · have : cIn f.nodes c := (hp c hc).elim (h.ch c) id
    exact this.of fun b hb => by show b ∈ (updN f.nodes i g).map _; rw [hi]; exact hb
  · show ((updN f.nodes i g).map _).Nodup; rw [hi]; exact h.nd
theorem wf_make {k : Nat} {f m : SFs} {s : List UInt8} {i j r : Nat} (h : fWf k f) (hn : i ∉ f.nodes.map (·.id) ∨ r ≠ 0) (e : makeR f s i j = (r, m)) : fWf (k + 1) m := by
  unfold makeR at e
  split at e
  · cases e; exact h.up (Nat.le_succ _)
  · split at e
    · cases e; exact h.up (Nat.le_succ _)
    · split at e
      · cases e; exact h.up (Nat.le_succ _)
      · split at e
        · exact (wf_burn h e).up (Nat.le_succ _)
        · cases e
          have hb := burn_same f; refine ⟨?_, ?_, fun x hx => ?_, fun c hc => ?_, by show 0 ≤ (burnF f).2.room; rw [hb.2.2]; exact h.room, ?_⟩
          · simp; exact h.n
          · simp; exact h.p
          · rcases List.mem_append.1 hx with hx | hx
            · exact h.fl x hx
            · rw [List.mem_singleton] at hx; subst hx; simp
          · rcases List.mem_append.1 hc with hc | hc
            · exact (h.ch c hc).of fun b hb => by rw [List.map_append]; exact List.mem_append.2 (.inl hb)
            · rw [List.mem_singleton] at hc; subst hc
              exact ⟨by simp, fun o ho => by cases ho⟩
          · rw [List.map_append, List.nodup_append]
            refine ⟨h.nd, by simp, fun a ha b hb' => ?_⟩; simp only [List.map_cons, List.map_nil, List.mem_singleton] at hb'; subst hb'; rintro rfl; exact hn.elim (fun h => h ha) (fun h => h rfl)
theorem wf_burnp {k : Nat} {f : SFs} {i : Nat} {g : SNd → SNd} {p : List SCh} (h : fWf k f) (hg : ∀ z, (g z).id = z.id) (hs : ∀ z ∈ f.nodes, (g z).fl.b.length ≤ 32768 ∧ (g z).fl.safe.length ≤ 32768) (hp : ∀ c ∈ p, c ∈ f.pend ∨ cIn f.nodes c) (hpl : p.length ≤ k + 1) : fWf (k + 1) { (burnF f).2 with nodes := updN f.nodes i g, pend := p } := by
  have hb := burn_same f; have := wf_upd (i := i) (g := g) (p := p) (wf_burn' h) hg (by rw [hb.1]; exact hs) (by rw [hb.1, hb.2.1]; exact hp) hpl; rw [hb.1] at this; exact this
theorem wf_write {k : Nat} {f m : SFs} {s : List UInt8} {p : Int} {b : List UInt8} {j r : Nat} (h : fWf k f) (e : writeR f s p b j = (r, m)) : fWf (k + 1) m := by
  unfold writeR at e
  split at e
  · cases e; exact h.up (Nat.le_succ _)
  · split at e
    · cases e; exact h.up (Nat.le_succ _)
    · rename_i x hx
      have hm := (findN_mem hx).1
      split at e
      · cases e; exact h.up (Nat.le_succ _)
      · split at e
        · cases e; exact h.up (Nat.le_succ _)
        · split at e
          · exact (wf_burn h e).up (Nat.le_succ _)
          · cases e
            have hw := wr_len (f := x.fl) (p := p) (x := b) (e := (wrF x.fl p b).1) (y := (wrF x.fl p b).2) rfl; have hf := h.fl x hm; have hb := burn_same f; have := wf_burnp (i := x.id) (g := fun z => { z with no := { z.no with fid := j }, fl := (wrF x.fl p b).2 }) (p := f.pend) h (fun _ => rfl) (fun z hz => ⟨by have := hw.1; show (wrF x.fl p b).2.b.length ≤ _; omega, by show (wrF x.fl p b).2.safe.length ≤ _; rw [hw.2]; exact hf.2⟩) (fun c hc => .inl hc) (Nat.le_succ_of_le h.p); rw [← hb.2.1] at this; exact this
theorem wf_sync {k : Nat} {f m : SFs} {s : List UInt8} {r : Nat} (h : fWf k f) (e : syncR f s = (r, m)) : fWf (k + 1) m := by
  unfold syncR at e
  split at e
  · cases e; exact h.up (Nat.le_succ _)
  · split at e
    · cases e; exact h.up (Nat.le_succ _)
    · rename_i x hx
      have hm := (findN_mem hx).1
      split at e
      · exact (wf_burn h e).up (Nat.le_succ _)
      · cases e
        have hf := h.fl x hm; have hb := burn_same f; have := wf_burnp (i := x.id) (g := fun z => { z with fl := { b := x.fl.b, safe := x.fl.b } }) (p := f.pend) h (fun _ => rfl) (fun z hz => ⟨hf.1, hf.1⟩) (fun c hc => .inl hc) (Nat.le_succ_of_le h.p); rw [← hb.2.1] at this; exact this
theorem wf_drop {k : Nat} {f m : SFs} {s : List UInt8} {r : Nat} (h : fWf k f) (e : dropR f s = (r, m)) : fWf (k + 1) m := by
  unfold dropR at e
  split at e
  · cases e; exact h.up (Nat.le_succ _)
  · split at e
    · cases e; exact h.up (Nat.le_succ _)
    · rename_i x hx
      have hm := (findN_mem hx).1
      split at e
      · exact (wf_burn h e).up (Nat.le_succ _)
      · cases e
        refine wf_burnp (i := x.id) h (fun _ => rfl) (fun z hz => h.fl z hz) (fun c hc => ?_) (by simp; exact h.p); rcases List.mem_append.1 hc with hc | hc
        · exact .inl hc
        · rw [List.mem_singleton] at hc; subst hc
          exact .inr ⟨List.mem_map.2 ⟨x, hm, rfl⟩, fun o ho => by cases ho⟩
theorem wf_ren {k : Nat} {f m : SFs} {s t : List UInt8} {r : Nat} (h : fWf k f) (e : renameR f s t = (r, m)) : fWf (k + 1) m := by
  unfold renameR at e
  split at e
  · cases e; exact h.up (Nat.le_succ _)
  · split at e
    · cases e; exact h.up (Nat.le_succ _)
    · rename_i x hx
      have hm := (findN_mem hx).1
      split at e
      · exact (wf_burn h e).up (Nat.le_succ _)
      · split at e
        · cases e; exact (wf_burn' h).up (Nat.le_succ _)
        · cases e
          have hb := burn_same f
          have hc : ∀ c ∈ f.pend ++ [(⟨1, x.id, s, (findN f.nodes t).map (·.id)⟩ : SCh)], c ∈ f.pend ∨ cIn f.nodes c := by
            intro c hc; rcases List.mem_append.1 hc with hc | hc
            · exact .inl hc
            · rw [List.mem_singleton] at hc; subst hc
              refine .inr ⟨List.mem_map.2 ⟨x, hm, rfl⟩, fun o ho => ?_⟩; obtain ⟨y, hy, rfl⟩ := Option.map_eq_some_iff.1 ho; exact List.mem_map.2 ⟨y, (findN_mem hy).1, rfl⟩
          cases hq : findN f.nodes t with
          | none =>
            rw [hq] at hc; exact wf_burnp (i := x.id) h (fun _ => rfl) (fun z hz => h.fl z hz) hc (by simp; exact h.p)
          | some y =>
            rw [hq] at hc; have h1 := wf_upd (k := k) (f := f) (i := y.id) (g := fun z => { z with no := { z.no with there := false } }) (p := f.pend) h (fun _ => rfl) (fun z hz => h.fl z hz) (fun c hc => .inl hc) (Nat.le_succ_of_le h.p); have hi := updN_ids (l := f.nodes) (i := y.id) (g := fun z => { z with no := { z.no with there := false } }) fun _ => rfl; have hi2 := updN_ids (l := updN f.nodes y.id fun z => { z with no := { z.no with there := false } }) (i := x.id) (g := fun z => { z with no := { z.no with nm := t } }) fun _ => rfl; refine ⟨?_, by simp; exact h.p, fun z hz => ?_, fun c hcc => ?_, by show 0 ≤ (burnF f).2.room; rw [hb.2.2]; exact h.room, ?_⟩
            · have e1 := congrArg List.length (hi2.trans hi); simp only [List.length_map] at e1; exact Nat.le_trans (Nat.le_of_eq e1) (Nat.le_succ_of_le h.n)
            · rcases mem_updN hz with ⟨q, hq, _, rfl⟩ | ⟨hq, _⟩
              · exact h1.fl q hq
              · exact h1.fl z hq
            · have : cIn f.nodes c := (hc c hcc).elim (h.ch c) id
              exact this.of fun b hb => by show b ∈ (updN (updN _ _ _) _ _).map _; rw [hi2, hi]; exact hb
            · show ((updN (updN _ _ _) _ _).map _).Nodup; rw [hi2, hi]; exact h.nd
theorem wf_settle {k : Nat} {f : SFs} (h : fWf k f) : fWf k (settleF f) :=
  ⟨Nat.le_trans (List.length_filter_le _ _) h.n, Nat.zero_le _, fun x hx => h.fl x (List.mem_filter.1 hx).1, fun c hc => absurd hc List.not_mem_nil, h.room, h.nd.sublist (List.filter_sublist.map _)⟩
theorem wf_dir {k : Nat} {f m : SFs} {r : Nat} (h : fWf k f) (e : syncDirR f = (r, m)) : fWf (k + 1) m := by
  unfold syncDirR at e
  split at e
  · cases e; exact h.up (Nat.le_succ _)
  · split at e
    · exact (wf_burn h e).up (Nat.le_succ _)
    · cases e; exact (wf_settle (wf_burn' h)).up (Nat.le_succ _)
theorem undoL_fl {l : List SNd} : ∀ {r : List SCh}, (∀ z ∈ l, z.fl.b.length ≤ 32768 ∧ z.fl.safe.length ≤ 32768) → ∀ z ∈ undoL l r, z.fl.b.length ≤ 32768 ∧ z.fl.safe.length ≤ 32768 := by
  intro r
  induction r generalizing l with
  | nil => exact fun h => h
  | cons c r ih =>
    intro h; refine ih (l := undoN l c) ?_; unfold undoN
    split
    · exact updN_all h fun _ h => h
    · split
      · split
        · exact updN_all h fun _ h => h
        · exact updN_all (updN_all h fun _ h => h) fun _ h => h
      · exact updN_all h fun _ h => h
theorem crashG_fl : ∀ {l : List SNd} {k : List Bool}, (∀ z ∈ l, z.fl.b.length ≤ 32768 ∧ z.fl.safe.length ≤ 32768) → ∀ z ∈ crashG l k, z.fl.b.length ≤ 32768 ∧ z.fl.safe.length ≤ 32768
  | [], _, _ => fun z hz => absurd hz List.not_mem_nil
  | y :: l, k, h => by
    intro z hz; rw [crashG] at hz; rcases List.mem_cons.1 hz with rfl | hz
    · have h0 := h y List.mem_cons_self
      refine ⟨?_, ?_⟩ <;> (refine Nat.le_trans (crash_len _ _ _) ?_; omega)
    · exact crashG_fl (fun q hq => h q (List.mem_cons_of_mem _ hq)) z hz
theorem wf_crash {k : Nat} {f : SFs} {keep : List Bool} {d : Int} (h : fWf k f) : fWf k (crashR f keep d) := by
  have e1 := crashG_ids ((undoL f.nodes (f.pend.drop d.toNat).reverse).filter (·.no.there)) keep; refine ⟨?_, Nat.zero_le _, crashG_fl fun z hz => undoL_fl h.fl z (List.mem_filter.1 hz).1, fun c hc => absurd hc List.not_mem_nil, h.room, ?_⟩
  · have e2 := congrArg List.length e1
    have e3 := congrArg List.length (undoL_ids (f.pend.drop d.toNat).reverse f.nodes); simp only [List.length_map] at e2 e3; show (crashG _ _).length ≤ k; rw [e2]; refine Nat.le_trans (List.length_filter_le _ _) ?_; rw [e3]; exact h.n
  · show ((crashG _ _).map _).Nodup
    rw [e1]; have := undoL_ids (f.pend.drop d.toNat).reverse f.nodes; exact ((this ▸ h.nd : ((undoL f.nodes (f.pend.drop d.toNat).reverse).map (·.id)).Nodup)).sublist (List.filter_sublist.map _)
/-- The blocks of a directory. -/
def fBl (b : Nat) (v0 v1 : Value) (l : List SNd) : List Nat := b :: (vblock v0).toList ++ ((vblock v1).toList ++ ndB l)
/-- A directory in memory, in the blocks of fp alone. -/
def FsO (k : Nat) (fp : List Nat) (w : World) (Q : Nat → Prop) (b : Nat) (f : SFs) : Prop :=
  ∃ v0 v1, fp = fBl b v0 v1 f.nodes ∧ Blk w b (SFs.cells f v0 v1) 57 ∧ ¬ Q b ∧ SFs.ok f ∧ Ow tNd 64 (fun _ => True) w Q v0 f.nodes ∧ Ow tSCh 73 (fun _ => True) w Q v1 f.pend ∧ Nds 71 96 (fun _ => True) w Q f.nodes ∧ fWf k f
section
variable {k : Nat} {fp S : List Nat} {w w' : World} {Q Q' : Nat → Prop} {b : Nat} {f : SFs}
theorem FsO.wf (h : FsO k fp w Q b f) : fWf k f := by obtain ⟨_, _, _, _, _, _, _, _, _, h⟩ := h; exact h
theorem FsO.up {k' : Nat} (h : FsO k fp w Q b f) (hk : k ≤ k') : FsO k' fp w Q b f := by obtain ⟨v0, v1, h1, h2, h3, h4, h5, h6, h7, h8⟩ := h; exact ⟨v0, v1, h1, h2, h3, h4, h5, h6, h7, h8.up hk⟩
theorem FsO.lt (h : FsO k fp w Q b f) : ∀ x ∈ fp, x < w.heap.size ∧ ¬ Q x := by
  obtain ⟨v0, v1, rfl, h2, h3, h4, h5, h6, h7, h8⟩ := h; intro x hx; unfold fBl at hx; simp only [List.mem_append, List.mem_cons, Option.mem_toList] at hx; rcases hx with (rfl | hx) | hx | hx
  · exact ⟨h2.lt, h3⟩
  · exact ⟨h5.lt x hx, (h5.2 x hx).2⟩
  · exact ⟨h6.lt x hx, (h6.2 x hx).2⟩
  · exact ⟨h7.ltB x hx, h7.nQB x hx⟩
theorem FsO.md (h : FsO k fp w Q b f) (m : Md S w w') (ha : ∀ x ∈ fp, x ∉ S) (hs : ∀ b ∈ S, ¬ Q b) : FsO k fp w' Q b f := by
  obtain ⟨v0, v1, rfl, h2, h3, h4, h5, h6, h7, h8⟩ := h; refine ⟨v0, v1, rfl, h2.md m (ha _ (by simp [fBl])), h3, h4, h5.md m (fun x hx => ha _ (by simp [fBl, hx])) hs, h6.md m (fun x hx => ha _ (by simp [fBl, hx])) hs, h7.md m (h7.apB fun x hx => ha _ (by simp [fBl, hx])) hs, h8⟩
theorem FsO.md0 (h : FsO k fp w Q b f) (m : Md [] w w') : FsO k fp w' Q b f := h.md m (fun _ _ => List.not_mem_nil) (fun _ hb => absurd hb List.not_mem_nil)
theorem FsO.sub (h : FsO k fp w Q b f) (s : ∀ b, Q b → b < w.heap.size → Q' b) (t : ∀ b, Q' b → Q b) : FsO k fp w Q' b f := by
  obtain ⟨v0, v1, h1, h2, h3, h4, h5, h6, h7, h8⟩ := h; exact ⟨v0, v1, h1, h2, fun hq => h3 (t _ hq), h4, h5.sub s t, h6.sub s t, h7.sub s t, h8⟩
theorem fBl_in {b : Nat} {v0 v1 : Value} {l : List SNd} {S : List Nat} {w : World} (hb : b ∈ S) (h0 : ∀ x, vblock v0 = some x → Fsh S w x) (h1 : ∀ x, vblock v1 = some x → Fsh S w x) (h2 : ∀ x ∈ ndB l, Fsh S w x) : ∀ x ∈ fBl b v0 v1 l, x ∈ S ∨ w.heap.size ≤ x := by
  intro x hx; unfold fBl at hx; simp only [List.mem_append, List.mem_cons, Option.mem_toList] at hx; rcases hx with (rfl | hx) | hx | hx
  · exact .inl hb
  · exact h0 x hx
  · exact h1 x hx
  · exact h2 x hx
theorem FsO.back {v0 v1 : Value} {m : SFs} (g0 : Blk w' b (SFs.cells m v0 v1) 57) (gn : ¬ Q' b) (gk : SFs.ok m) (o1 : Ow tNd 64 (Fsh S w) w' Q' v0 m.nodes) (o2 : Ow tSCh 73 (Fsh S w) w' Q' v1 m.pend) (hN : Nds 71 96 (Fsh S w) w' Q' m.nodes) (hb : b ∈ S) (wf : fWf k m) :
    FsO k (fBl b v0 v1 m.nodes) w' Q' b m ∧ ∀ x ∈ fBl b v0 v1 m.nodes, x ∈ S ∨ w.heap.size ≤ x :=
  ⟨⟨v0, v1, rfl, g0, gn, gk, o1.reP fun _ _ => trivial, o2.reP fun _ _ => trivial, hN.reP fun _ _ => trivial, wf⟩, fBl_in hb (fun x hx => (o1.2 x hx).1) (fun x hx => (o2.2 x hx).1) hN.loB⟩
end

end Go.Proofs.YtogcacggojjijaaGreat
namespace Go.Proofs.YtogcacggojjijaaGreat
open Go Go.Wk Go.RowKit
set_option linter.unusedVariables false
set_option linter.unusedSimpArgs false
attribute [local irreducible] wpList wpQuiet wpStill wpMix Code.wp Calls bodyPost

/-- What a call leaves that changes a directory. -/
def FsPost (k : Nat) (fp : List Nat) (w : World) (Q : Nat → Prop) (b : Nat) (w' : World) (G : SFs → Prop) : Prop :=
  ∃ m fp' Q', Md fp w w' ∧ NewQ w w' Q Q' ∧ (∀ x ∈ fp', x ∈ fp ∨ w.heap.size ≤ x) ∧ FsO k fp' w' Q' b m ∧ G m
section
variable {k : Nat} {fp : List Nat} {w : World} {Q : Nat → Prop} {b : Nat} {f : SFs}
theorem fBl_mem (b : Nat) (v0 v1 : Value) (l : List SNd) : b ∈ fBl b v0 v1 l := by simp [fBl]
theorem FsO.tot (h : fWf k f) (hk : k ≤ 100000) : (totF f.nodes).2 ≤ 1000000000000 ∧ f.nodes.length ≤ 1000000 ∧ f.pend.length ≤ 1000000 ∧ (∀ x ∈ f.nodes, x.fl.b.length ≤ 1000000) ∧ (∀ x ∈ f.nodes, x.fl.safe.length ≤ 1000000) ∧ (∀ x ∈ f.nodes, x.fl.b.length ≤ 1000000 ∧ x.fl.safe.length ≤ 1000000) := by
  have h1 := tot_le h.fl h.n; have h2 : k * 32768 ≤ 100000 * 32768 := Nat.mul_le_mul_right _ hk; have h3 := h.n; have h4 := h.p; exact ⟨by omega, by omega, by omega, fun x hx => by have := (h.fl x hx).1; omega, fun x hx => by have := (h.fl x hx).2; omega, fun x hx => by have := h.fl x hx; omega⟩
theorem make_new {m : SFs} {s : List UInt8} {i j r : Nat} (e : makeR f s i j = (r, m)) (hn : (m.nodes.map (·.id)).Nodup) : i ∉ f.nodes.map (·.id) ∨ r ≠ 0 := by
  unfold makeR at e
  split at e
  · cases e; exact .inr (by decide)
  · split at e
    · rename_i h _; cases e; exact .inr h
    · split at e
      · cases e; exact .inr (by decide)
      · split at e
        · rename_i h; rw [e] at h; exact .inr h
        · cases e
          refine .inl fun hm => ?_; rw [List.map_append, List.nodup_append] at hn; exact hn.2.2 i hm i (by simp) rfl
theorem oMake (uQ : Up w Q) (hF : FsO k fp w Q b f) (s : List UInt8) (p0 : s.length ≤ 1000000) (hk : k ≤ 100000) :
    Calls Tryz.prog 9 #[.pointer (some ⟨b, 0, none⟩), str s] w fun en w' => ∃ r : Nat, en = .returned (.int .i64 ((r : Nat) : Int)) ∧ r < 9223372036854775808 ∧ FsPost (k + 1) fp w Q b w' fun m => ∃ i j, makeR f s i j = (r, m) := by
  obtain ⟨v0, v1, rfl, h0, n0, ok, o1, o2, hN, wf⟩ := hF; obtain ⟨t1, t2, t3, t4, t5, t6⟩ := FsO.tot wf hk; refine (fMake_any uQ f h0 n0 ok o1 o2 hN s p0 t1 t2 t3).mono ?_; rintro en w' ⟨r, m, u0, u1, Q', rfl, hm, hq, hr, g0, gn, gk, go1, go2, gN, hE⟩; have := FsO.back (k := k + 1) g0 gn gk go1 go2 gN (fBl_mem b v0 v1 f.nodes) (wf_make wf (make_new hE gN.ids) hE); exact ⟨r, rfl, hr, m, _, Q', hm, hq, this.2, this.1, _, _, hE⟩
theorem oWrite (uQ : Up w Q) (hF : FsO k fp w Q b f) (s : List UInt8) (p : Int) (a2 : -9223372036854775808 ≤ p ∧ p < 9223372036854775808) {v3 : Value} {x : List UInt8} (h3 : Ls tB8 w Q v3 x) (p0 : s.length ≤ 1000000) (hk : k ≤ 100000) :
    Calls Tryz.prog 11 #[.pointer (some ⟨b, 0, none⟩), str s, .int .i64 (p : Int), v3] w fun en w' => ∃ r : Nat, en = .returned (.int .i64 ((r : Nat) : Int)) ∧ r < 9223372036854775808 ∧ FsPost (k + 1) fp w Q b w' fun m => ∃ j, writeR f s p x j = (r, m) := by
  obtain ⟨v0, v1, rfl, h0, n0, ok, o1, o2, hN, wf⟩ := hF; obtain ⟨t1, t2, t3, t4, t5, t6⟩ := FsO.tot wf hk; refine (fWrite_any uQ f h0 n0 ok o1 o2 hN s p a2 h3 p0 t1 t2 t3 t4 t5).mono ?_; rintro en w' ⟨r, m, u0, u1, Q', rfl, hm, hq, hr, g0, gn, gk, go1, go2, gN, j, hE⟩; have := FsO.back (k := k + 1) g0 gn gk go1 go2 gN (fBl_mem b v0 v1 f.nodes) (wf_write wf hE); exact ⟨r, rfl, hr, m, _, Q', hm, hq, this.2, this.1, _, hE⟩
theorem oSync (uQ : Up w Q) (hF : FsO k fp w Q b f) (s : List UInt8) (p0 : s.length ≤ 1000000) (hk : k ≤ 100000) :
    Calls Tryz.prog 13 #[.pointer (some ⟨b, 0, none⟩), str s] w fun en w' => ∃ r : Nat, en = .returned (.int .i64 ((r : Nat) : Int)) ∧ r < 9223372036854775808 ∧ FsPost (k + 1) fp w Q b w' fun m => syncR f s = (r, m) := by
  obtain ⟨v0, v1, rfl, h0, n0, ok, o1, o2, hN, wf⟩ := hF; obtain ⟨t1, t2, t3, t4, t5, t6⟩ := FsO.tot wf hk; refine (fSync_any uQ f h0 n0 ok o1 o2 hN s p0 trivial t2 t3 t4).mono ?_; rintro en w' ⟨r, m, u0, u1, Q', rfl, hm, hq, hr, g0, gn, gk, go1, go2, gN, hE⟩; have := FsO.back (k := k + 1) g0 gn gk go1 go2 gN (fBl_mem b v0 v1 f.nodes) (wf_sync wf hE); exact ⟨r, rfl, hr, m, _, Q', hm, hq, this.2, this.1, hE⟩
theorem oDrop (uQ : Up w Q) (hF : FsO k fp w Q b f) (s : List UInt8) (p0 : s.length ≤ 1000000) (hk : k ≤ 100000) :
    Calls Tryz.prog 17 #[.pointer (some ⟨b, 0, none⟩), str s] w fun en w' => ∃ r : Nat, en = .returned (.int .i64 ((r : Nat) : Int)) ∧ r < 9223372036854775808 ∧ FsPost (k + 1) fp w Q b w' fun m => dropR f s = (r, m) := by
  obtain ⟨v0, v1, rfl, h0, n0, ok, o1, o2, hN, wf⟩ := hF; obtain ⟨t1, t2, t3, t4, t5, t6⟩ := FsO.tot wf hk; refine (fDrop_any uQ f h0 n0 ok o1 o2 hN s p0 trivial t2 t3 t4).mono ?_; rintro en w' ⟨r, m, u0, u1, Q', rfl, hm, hq, hr, g0, gn, gk, go1, go2, gN, hE⟩; have := FsO.back (k := k + 1) g0 gn gk go1 go2 gN (fBl_mem b v0 v1 f.nodes) (wf_drop wf hE); exact ⟨r, rfl, hr, m, _, Q', hm, hq, this.2, this.1, hE⟩
theorem oRename (uQ : Up w Q) (hF : FsO k fp w Q b f) (s t : List UInt8) (p0 : s.length ≤ 1000000) (p1 : t.length ≤ 1000000) (hk : k ≤ 100000) :
    Calls Tryz.prog 15 #[.pointer (some ⟨b, 0, none⟩), str s, str t] w fun en w' => ∃ r : Nat, en = .returned (.int .i64 ((r : Nat) : Int)) ∧ r < 9223372036854775808 ∧ FsPost (k + 1) fp w Q b w' fun m => renameR f s t = (r, m) := by
  obtain ⟨v0, v1, rfl, h0, n0, ok, o1, o2, hN, wf⟩ := hF; obtain ⟨t1, t2, t3, t4, t5, t6⟩ := FsO.tot wf hk; refine (fRename_any uQ f h0 n0 ok o1 o2 hN s t p0 p1 t2 t3).mono ?_; rintro en w' ⟨r, m, u0, u1, Q', rfl, hm, hq, hr, g0, gn, gk, go1, go2, gN, hE⟩; have := FsO.back (k := k + 1) g0 gn gk go1 go2 gN (fBl_mem b v0 v1 f.nodes) (wf_ren wf hE); exact ⟨r, rfl, hr, m, _, Q', hm, hq, this.2, this.1, hE⟩
theorem oSyncDir (uQ : Up w Q) (hF : FsO k fp w Q b f) :
    Calls Tryz.prog 19 #[.pointer (some ⟨b, 0, none⟩)] w fun en w' => ∃ r : Nat, en = .returned (.int .i64 ((r : Nat) : Int)) ∧ r < 9223372036854775808 ∧ FsPost (k + 1) fp w Q b w' fun m => syncDirR f = (r, m) := by
  obtain ⟨v0, v1, rfl, h0, n0, ok, o1, o2, hN, wf⟩ := hF; refine (fSyncDir_any uQ f h0 n0 ok o1 o2 hN).mono ?_; rintro en w' ⟨r, m, u0, u1, Q', rfl, hm, hq, hr, g0, gn, gk, go1, go2, gN, hE⟩; have := FsO.back (k := k + 1) g0 gn gk go1 go2 gN (fBl_mem b v0 v1 f.nodes) (wf_dir wf hE); exact ⟨r, rfl, hr, m, _, Q', hm, hq, this.2, this.1, hE⟩
theorem oCrash (uQ : Up w Q) (hF : FsO k fp w Q b f) {v1 : Value} {keep : List Bool} (h1 : Ls tBool w Q v1 keep) (dirs : Int) (a2 : -9223372036854775808 ≤ dirs ∧ dirs < 9223372036854775808) (hk : k ≤ 100000) :
    Calls Tryz.prog 23 #[.pointer (some ⟨b, 0, none⟩), v1, .int .i64 (dirs : Int)] w fun en w' => en = .returned (.tuple #[]) ∧ FsPost k fp w Q b w' fun m => crashR f keep dirs = m := by
  obtain ⟨v0, v1, rfl, h0, n0, ok, o1, o2, hN, wf⟩ := hF; obtain ⟨t1, t2, t3, t4, t5, t6⟩ := FsO.tot wf hk; refine (fCrash_any uQ f h0 n0 ok o1 o2 hN h1 dirs a2 t2 t3 wf.ch t6).mono ?_; rintro en w' ⟨m, u0, u1, Q', rfl, hm, hq, g0, gn, gk, go1, go2, gN, hE⟩; subst hE; have := FsO.back (k := k) g0 gn gk go1 go2 gN (fBl_mem b v0 v1 f.nodes) (wf_crash wf); exact ⟨rfl, _, _, Q', hm, hq, this.2, this.1, rfl⟩
theorem oFuse (uQ : Up w Q) (hF : FsO k fp w Q b f) (n : Int) (a1 : -9223372036854775808 ≤ n ∧ n < 9223372036854775808) :
    Calls Tryz.prog 21 #[.pointer (some ⟨b, 0, none⟩), .int .i64 (n : Int)] w fun en w' => en = .returned (.tuple #[]) ∧ FsPost k fp w Q b w' fun m => ({ f with fuse := if n < -1 then -1 else n } : SFs) = m := by
  obtain ⟨v0, v1, rfl, h0, n0, ok, o1, o2, hN, wf⟩ := hF; refine (fFuse_any uQ f h0 n0 ok o1 o2 n a1).mono ?_; rintro en w' ⟨m, u0, u1, Q', rfl, hm, hq, g0, gn, gk, go1, go2, hE⟩
  have hN2 := (hN.sub hq.1 hq.2.1).md hm (hN.apF h0 o1 o2 (by decide) (by decide) (by decide) (by decide) (by decide) (by decide)) (by
    intro x hx hq2; have hx2 := hq.2.1 x hq2; simp only [List.mem_append, List.mem_cons, Option.mem_toList] at hx; rcases hx with (rfl | hx) | hx
    · exact n0 hx2
    · exact (o1.2 x hx).2 hx2
    · exact (o2.2 x hx).2 hx2)
  have hsub : ∀ x, x ∈ (b :: (vblock v0).toList ++ ((vblock v1).toList)) → x ∈ fBl b v0 v1 f.nodes := by
    intro x hx; unfold fBl; simp only [List.mem_append, List.mem_cons] at hx ⊢; rcases hx with hx | hx
    · exact .inl hx
    · exact .inr (.inl hx)
  subst hE; refine ⟨rfl, { f with fuse := if n < -1 then -1 else n }, fBl b u0 u1 f.nodes, Q', hm.mono fun x hx _ => hsub x hx, hq, ?_, ⟨u0, u1, rfl, g0, gn, gk, go1.reP fun _ _ => trivial, go2.reP fun _ _ => trivial, hN2, ⟨wf.n, wf.p, wf.fl, wf.ch, wf.room, wf.nd⟩⟩, rfl⟩; exact fBl_in (fBl_mem b v0 v1 f.nodes) (fun x hx => ((go1.2 x hx).1).imp (hsub x) id) (fun x hx => ((go2.2 x hx).1).imp (hsub x) id) (fun x hx => .inl (by unfold fBl; simp [hx]))
theorem oNames (uQ : Up w Q) (hF : FsO k fp w Q b f) (hk : k ≤ 100000) :
    Calls Tryz.prog 34 #[.pointer (some ⟨b, 0, none⟩)] w fun en w' => ∃ u0 : Value, ∃ r0 : List (List UInt8), en = .returned (u0) ∧ Md [] w w' ∧ Ls tStr w' Q u0 r0 ∧ namesD f = r0 := by
  obtain ⟨v0, v1, rfl, h0, n0, ok, o1, o2, hN, wf⟩ := hF; exact fNames_any uQ f h0 n0 ok o1 o2 hN (FsO.tot wf hk).2.1
theorem oAll (uQ : Up w Q) (hF : FsO k fp w Q b f) (s : List UInt8) (p0 : s.length ≤ 1000000) (hk : k ≤ 100000) :
    Calls Tryz.prog 27 #[.pointer (some ⟨b, 0, none⟩), str s] w fun en w' => ∃ u0 : Value, ∃ r0 : List UInt8, ∃ r1 : Nat, en = .returned (.tuple #[u0, (.int .i64 ((r1 : Nat) : Int))]) ∧ Md [] w w' ∧ Ls tB8 w' Q u0 r0 ∧ r1 < 9223372036854775808 ∧ allF f.off f.nodes s = (r0, r1) := by
  obtain ⟨v0, v1, rfl, h0, n0, ok, o1, o2, hN, wf⟩ := hF; exact fAll_any uQ f h0 n0 ok o1 o2 s hN p0 (FsO.tot wf hk).2.2.2.1
theorem oLen (uQ : Up w Q) (hF : FsO k fp w Q b f) (s : List UInt8) (p0 : s.length ≤ 1000000) :
    Calls Tryz.prog 31 #[.pointer (some ⟨b, 0, none⟩), str s] w fun en w' => ∃ r0 : Nat, ∃ r1 : Nat, en = .returned (.tuple #[(.int .i64 ((r0 : Nat) : Int)), (.int .i64 ((r1 : Nat) : Int))]) ∧ Md [] w w' ∧ r0 < 9223372036854775808 ∧ r1 < 9223372036854775808 ∧ lenF f.off f.nodes s = (r0, r1) := by
  obtain ⟨v0, v1, rfl, h0, n0, ok, o1, o2, hN, wf⟩ := hF; exact fLen_any uQ f h0 n0 ok o1 o2 s hN p0
theorem oFree (uQ : Up w Q) (hF : FsO k fp w Q b f) (hk : k ≤ 100000) :
    Calls Tryz.prog 36 #[.pointer (some ⟨b, 0, none⟩)] w fun en w' => ∃ r0 : Int, en = .returned (.int .i64 (r0 : Int)) ∧ Md [] w w' ∧ (-9223372036854775808 ≤ r0 ∧ r0 < 9223372036854775808) ∧ freeF f = r0 := by
  obtain ⟨v0, v1, rfl, h0, n0, ok, o1, o2, hN, wf⟩ := hF; exact fFree_any uQ f h0 n0 ok o1 o2 hN (FsO.tot wf hk).1 wf.room
theorem oOff (uQ : Up w Q) (hF : FsO k fp w Q b f) :
    Calls Tryz.prog 38 #[.pointer (some ⟨b, 0, none⟩)] w fun en w' => ∃ r0 : Bool, en = .returned (.bool r0) ∧ Md [] w w' ∧ f.off = r0 := by
  obtain ⟨v0, v1, rfl, h0, n0, ok, o1, o2, hN, wf⟩ := hF; exact fOff_any uQ f h0 n0 ok o1 o2
theorem oNew (uQ : Up w Q) (r : Int) (a0 : -9223372036854775808 ≤ r ∧ r < 9223372036854775808) (p0 : 4096 ≤ r) (p1 : r ≤ 1048576) :
    Calls Tryz.prog 6 #[.int .i64 (r : Int)] w fun en w' => ∃ o fp Q', en = .returned (.tuple #[.pointer (some ⟨o, 0, none⟩), (.int .i64 ((0 : Nat) : Int))]) ∧ Md [] w w' ∧ NewQ w w' Q Q' ∧ (∀ x ∈ fp, w.heap.size ≤ x) ∧ FsO 0 fp w' Q' o { room := r, fuse := -1, off := false, nodes := [], pend := [] } := by
  refine (fNew_any uQ r a0 p0 p1).mono ?_; rintro en w' ⟨o, u0, u1, r0, r1, Q', rfl, hm, hq, g0, gn, gl, gk, go1, go2, _, hE⟩
  cases hE
  refine ⟨o, fBl o u0 u1 [], Q', rfl, hm, hq, ?_, ⟨u0, u1, rfl, g0, gn, gk, go1.reP fun _ _ => trivial, go2.reP fun _ _ => trivial, Nds.nil _ _ _ _ _, ⟨Nat.le_refl _, Nat.le_refl _, fun x hx => absurd hx List.not_mem_nil, fun x hx => absurd hx List.not_mem_nil, by show 0 ≤ r; omega, List.nodup_nil⟩⟩⟩; intro x hx; unfold fBl at hx; simp only [List.mem_append, List.mem_cons, Option.mem_toList] at hx; rcases hx with (rfl | hx) | hx | hx
  · exact gl
  · exact (go1.2 x hx).1.elim (fun h => absurd h List.not_mem_nil) id
  · exact (go2.2 x hx).1.elim (fun h => absurd h List.not_mem_nil) id
  · exact absurd hx (by simp [ndB])
end

end Go.Proofs.YtogcacggojjijaaGreat
namespace Go.Proofs.YtogcacggojjijaaGreat
open Go Go.Wk Go.RowKit
set_option linter.unusedVariables false
set_option linter.unusedSimpArgs false
attribute [local irreducible] wpList wpQuiet wpStill wpMix Code.wp Calls bodyPost
theorem off78_0 : fieldOff Tryz.prog 78 0 = some 0 := by kernel_rfl
theorem off78_1 : fieldOff Tryz.prog 78 1 = some 1 := by kernel_rfl
theorem off78_2 : fieldOff Tryz.prog 78 2 = some 2 := by kernel_rfl
theorem one5 : isOne Tryz.prog 5 = true := by kernel_rfl
theorem pl78 : bplace Tryz.prog 78 = some [(0, 1), (1, 1), (2, 1)] := by kernel_rfl
theorem z78 : zcells Tryz.prog 78 = some [.slice none 0 0, .slice none 0 0, .int .i64 0] := by kernel_rfl

structure DFl where
  now : List UInt8
  safe : List UInt8
  born : Nat
def DFl.cells (x : DFl) (v0 : Value) (v1 : Value) : List Value :=
  [v0] ++ ([v1] ++ ([(.int .i64 ((x.born : Nat) : Int))]))
def DFl.ok (x : DFl) : Prop := x.born < 9223372036854775808
structure DRow where
  names : List (List UInt8)
  files : List Nat
def DRow.cells (x : DRow) (v0 : Value) (v1 : Value) : List Value :=
  [v0] ++ ([v1])
def tDRow : Dt DRow := tPull (fun x => (x.names, x.files)) (tProd (tSl tStr) (tSl tNp))
theorem tDRow_un {w : World} {Q : Nat → Prop} {cs : List Value} {x : DRow} (h : tDRow.rep w Q cs x) : ∃ v0 v1, cs = x.cells v0 v1 ∧ Ls tStr w Q v0 x.names ∧ Ls tNp w Q v1 x.files := by
  obtain ⟨_, _, rfl, ⟨v0, rfl, q0⟩, ⟨v1, rfl, q1⟩⟩ := h; exact ⟨v0, v1, rfl, q0, q1⟩
theorem tDRow_mk {w : World} {Q : Nat → Prop} {x : DRow} {v0 : Value} {v1 : Value} (c0 : Ls tStr w Q v0 x.names) (c1 : Ls tNp w Q v1 x.files) : tDRow.rep w Q (x.cells v0 v1) x :=
  ⟨_, _, rfl, ⟨_, rfl, c0⟩, ⟨_, rfl, c1⟩⟩
theorem DRow.one {x : DRow} {v0 : Value} {v1 : Value} (h0 : v0.oneCell' = true) (h1 : v1.oneCell' = true) : (x.cells v0 v1).all (fun u => u.oneCell') = true := (ones_app (ones_1 h0) (ones_1 h1))
/-- A file of the document: its block, what it has. -/
structure DFd where
  id : Nat
  f : DFl
/-- Files' blocks, own; their bytes stay. -/
def DfR (ty : TypeId) (lo : Nat → Prop) (w : World) (Q : Nat → Prop) (x : DFd) : Prop :=
  (∃ v0 v1, Blk w x.id (x.f.cells v0 v1) ty ∧ Ls tB8 w Q v0 x.f.now ∧ Ls tB8 w Q v1 x.f.safe) ∧ ¬ Q x.id ∧ lo x.id ∧ DFl.ok x.f
structure Dfs (ty : TypeId) (lo : Nat → Prop) (w : World) (Q : Nat → Prop) (l : List DFd) : Prop where
  all : ∀ x ∈ l, DfR ty lo w Q x
  ids : (l.map (·.id)).Nodup
def dfB (l : List DFd) : List Nat := l.map (·.id)
def updD (l : List DFd) (i : Nat) (g : DFl → DFl) : List DFd := l.map fun x => if x.id = i then { x with f := g x.f } else x
theorem updD_ids (l : List DFd) (i : Nat) (g : DFl → DFl) : (updD l i g).map (·.id) = l.map (·.id) := by
  unfold updD; rw [List.map_map]; refine List.map_congr_left fun x _ => ?_; simp only [Function.comp]
  split <;> rfl
section
variable {ty : TypeId} {lo lo' lo1 : Nat → Prop} {w w' : World} {Q Q' Q1 : Nat → Prop} {l : List DFd} {x : DFd} {S : List Nat} {α : Type} {T : Dt α}
theorem mem_dfB {b : Nat} : b ∈ dfB l ↔ ∃ x ∈ l, x.id = b := List.mem_map
theorem DfR.md (h : DfR ty lo w Q x) (m : Md S w w') (ha : x.id ∉ S) (hs : ∀ b ∈ S, ¬ Q b) : DfR ty lo w' Q x := by
  obtain ⟨⟨v0, v1, h1, h2, h3⟩, h4⟩ := h; exact ⟨⟨v0, v1, h1.md m ha, h2.md m hs, h3.md m hs⟩, h4⟩
theorem DfR.sub (h : DfR ty lo w Q x) (s : ∀ b, Q b → b < w.heap.size → Q' b) (t : ∀ b, Q' b → Q b) : DfR ty lo w Q' x := by
  obtain ⟨⟨v0, v1, h1, h2, h3⟩, h4, h5⟩ := h; exact ⟨⟨v0, v1, h1, h2.sub s, h3.sub s⟩, fun hq => h4 (t _ hq), h5⟩
theorem DfR.reP (h : DfR ty lo w Q x) (t : lo x.id → lo' x.id) : DfR ty lo' w Q x := ⟨h.1, h.2.1, t h.2.2.1, h.2.2.2⟩
theorem Dfs.md (h : Dfs ty lo w Q l) (m : Md S w w') (ha : ∀ x ∈ l, x.id ∉ S) (hs : ∀ b ∈ S, ¬ Q b) : Dfs ty lo w' Q l := ⟨fun x hx => (h.all x hx).md m (ha x hx) hs, h.ids⟩
theorem Dfs.md0 (h : Dfs ty lo w Q l) (m : Md [] w w') : Dfs ty lo w' Q l := h.md m (fun _ _ => List.not_mem_nil) (fun _ hb => absurd hb List.not_mem_nil)
theorem Dfs.sub (h : Dfs ty lo w Q l) (s : ∀ b, Q b → b < w.heap.size → Q' b) (t : ∀ b, Q' b → Q b) : Dfs ty lo w Q' l := ⟨fun x hx => (h.all x hx).sub s t, h.ids⟩
theorem Dfs.subF {v : Value} (h : Dfs ty lo w Q l) (fQ : ∀ b, Q b → Q' b) (fT : ∀ b, Q' b → Q b ∨ vblock v = some b) (ap : ∀ x ∈ l, x.id ∉ (vblock v).toList) : Dfs ty lo w Q' l := by
  refine ⟨fun x hx => ?_, h.ids⟩; obtain ⟨⟨v0, v1, h1, h2, h3⟩, h4, h5⟩ := h.all x hx; exact ⟨⟨v0, v1, h1, h2.sub fun b hb _ => fQ b hb, h3.sub fun b hb _ => fQ b hb⟩, fun hq => (fT _ hq).elim h4 fun hv => ap x hx (by rw [hv]; simp), h5⟩
theorem Dfs.reP (h : Dfs ty lo w Q l) (t : ∀ b, lo b → lo' b) : Dfs ty lo' w Q l := ⟨fun x hx => (h.all x hx).reP (t _), h.ids⟩
theorem Dfs.reB (h : Dfs ty lo w Q l) (t : ∀ b ∈ dfB l, lo' b) : Dfs ty lo' w Q l := ⟨fun x hx => (h.all x hx).reP fun _ => t _ (mem_dfB.2 ⟨x, hx, rfl⟩), h.ids⟩
theorem Dfs.get (h : Dfs ty lo w Q l) (hx : x ∈ l) : ∃ v0 v1, Blk w x.id (x.f.cells v0 v1) ty ∧ ¬ Q x.id ∧ lo x.id ∧ Ls tB8 w Q v0 x.f.now ∧ Ls tB8 w Q v1 x.f.safe ∧ DFl.ok x.f := by
  obtain ⟨⟨v0, v1, h1, h2, h3⟩, h4, h5, h6⟩ := h.all x hx; exact ⟨v0, v1, h1, h4, h5, h2, h3, h6⟩
theorem Dfs.ltB (h : Dfs ty lo w Q l) : ∀ b ∈ dfB l, b < w.heap.size := fun b hb => by
  obtain ⟨x, hx, rfl⟩ := mem_dfB.1 hb; obtain ⟨v0, v1, h1, _⟩ := h.get hx; exact h1.lt
theorem Dfs.nQB (h : Dfs ty lo w Q l) : ∀ b ∈ dfB l, ¬ Q b := fun b hb => by
  obtain ⟨x, hx, rfl⟩ := mem_dfB.1 hb; exact (h.all x hx).2.1
theorem Dfs.loB (h : Dfs ty lo w Q l) : ∀ b ∈ dfB l, lo b := fun b hb => by
  obtain ⟨x, hx, rfl⟩ := mem_dfB.1 hb; exact (h.all x hx).2.2.1
theorem Dfs.ap1 (h : Dfs ty lo w Q l) {b : Nat} {cs : List Value} {ty' : TypeId} (hB : Blk w b cs ty') (h1 : Nat.beq ty ty' = false) (_h2 : Nat.beq ty ty' = false) : ∀ x ∈ l, x.id ∉ [b] := by
  intro x hx hm; obtain ⟨v0, v1, g1, _⟩ := h.get hx; rw [List.mem_singleton] at hm; rw [hm] at g1; rw [blk_ty g1 hB] at h1; simp at h1
theorem Dfs.apO (h : Dfs ty lo w Q l) {e : Nat} {v : Value} {xs : List α} (hO : Ow T e lo1 w Q1 v xs) (h1 : Nat.beq e ty = false) (_h2 : Nat.beq e ty = false) : ∀ x ∈ l, x.id ∉ (vblock v).toList := by
  intro x hx hm; obtain ⟨v0, v1, g1, _⟩ := h.get hx; exact hO.blk_ne g1 h1 x.id (by simpa using hm) rfl
theorem Dfs.apB (hS : ∀ b ∈ dfB l, b ∉ S) : ∀ x ∈ l, x.id ∉ S := fun x hx => hS _ (mem_dfB.2 ⟨x, hx, rfl⟩)
/-- A block that is younger than all. -/
theorem df_new {n b : Nat} (lt0 : ∀ b ∈ dfB l, b < n) (hb : n ≤ b) : ∀ x ∈ l, x.id ∉ [b] := fun x hx hm => by
  have := lt0 _ (mem_dfB.2 ⟨x, hx, rfl⟩); rw [List.mem_singleton] at hm; omega
theorem Dfs.nil (ty : TypeId) (lo : Nat → Prop) (w : World) (Q : Nat → Prop) : Dfs ty lo w Q [] := ⟨fun _ hx => absurd hx List.not_mem_nil, List.nodup_nil⟩
theorem Dfs.snoc (h : Dfs ty lo w Q l) (hn : x.id ∉ dfB l) (hx : DfR ty lo w Q x) : Dfs ty lo w Q (l ++ [x]) := by
  refine ⟨fun y hy => ?_, ?_⟩
  · rcases List.mem_append.1 hy with hy | hy
    · exact h.all y hy
    · rw [List.mem_singleton] at hy; subst hy; exact hx
  · rw [List.map_append, List.nodup_append]
    exact ⟨h.ids, by simp, fun a ha b hb e => hn (by simp at hb; subst hb; subst e; exact ha)⟩
theorem df_one (h : (l.map (·.id)).Nodup) {y : DFd} (hx : x ∈ l) (hy : y ∈ l) (e : x.id = y.id) : x = y := by
  obtain ⟨i, hi⟩ := List.mem_iff_getElem?.1 hx; obtain ⟨j, hj⟩ := List.mem_iff_getElem?.1 hy; have h1 : (l.map (·.id))[i]? = some x.id := (by rw [List.getElem?_map, hi]; rfl); have h2 : (l.map (·.id))[j]? = some y.id := (by rw [List.getElem?_map, hj]; rfl); obtain ⟨l1, g1⟩ := List.getElem?_eq_some_iff.1 h1; obtain ⟨l2, g2⟩ := List.getElem?_eq_some_iff.1 h2; have := (List.getElem_inj h).1 (g1.trans (e.trans g2.symm)); subst this; rw [hi] at hj; exact Option.some.inj hj
/-- One of them is written. -/
theorem Dfs.put (h : Dfs ty lo w Q l) (hx : x ∈ l) (m : Md [x.id] w w') {g : DFl → DFl} {v0 v1 : Value} (hb : Blk w' x.id ((g x.f).cells v0 v1) ty) (h0 : Ls tB8 w' Q v0 (g x.f).now) (h1 : Ls tB8 w' Q v1 (g x.f).safe) (hk : DFl.ok (g x.f)) : Dfs ty lo w' Q (updD l x.id g) := by
  have hs : ∀ b ∈ [x.id], ¬ Q b := fun b hb => by rw [List.mem_singleton] at hb; subst hb; exact (h.all x hx).2.1
  refine ⟨fun y hy => ?_, by rw [updD_ids]; exact h.ids⟩; obtain ⟨z, hz, rfl⟩ := List.mem_map.1 hy; by_cases e : z.id = x.id
  · have : z = x := df_one h.ids hz hx e
    subst this; rw [if_pos rfl]; exact ⟨⟨v0, v1, hb, h0, h1⟩, (h.all z hz).2.1, (h.all z hz).2.2.1, hk⟩
  · rw [if_neg e]; exact (h.all z hz).md m (by simpa using e) hs
end

structure DFs where
  room : Int
  row : DRow
  past : List DRow
  made : Nat
  fuse : Int
  off : Bool
  fl : List DFd
def DFs.cells (x : DFs) (v0 : Value) (v1 : Value) (v2 : Value) : List Value :=
  [(.int .i64 (x.room : Int))] ++ ((DRow.cells x.row v0 v1) ++ ([v2] ++ ([(.int .i64 ((x.made : Nat) : Int))] ++ ([(.int .i64 (x.fuse : Int))] ++ ([(.bool x.off)] ++ ([]))))))
def DFs.ok (x : DFs) : Prop := (-9223372036854775808 ≤ x.room ∧ x.room < 9223372036854775808) ∧ x.made < 9223372036854775808 ∧ (-9223372036854775808 ≤ x.fuse ∧ x.fuse < 9223372036854775808)
theorem DFs.one {x : DFs} {v0 : Value} {v1 : Value} {v2 : Value} (h0 : v0.oneCell' = true) (h1 : v1.oneCell' = true) (h2 : v2.oneCell' = true) : (x.cells v0 v1 v2).all (fun u => u.oneCell') = true := (ones_app rfl (ones_app (DRow.one h0 h1) (ones_app (ones_1 h2) (ones_app rfl (ones_app rfl (ones_app rfl rfl))))))
def wrD (f : DFl) (p : Int) (x : List UInt8) : Nat × DFl :=
  if p < 0 then (1, f) else if 32768 < p ∨ 32768 - p < ((x.length : Nat) : Int) then (15, f) else if x.length = 0 then (0, f)
  else (0, { f with now := writeF f.now p.toNat x })
theorem wd_1 {f : DFl} {p : Int} {x : List UInt8} (h : p < 0) : wrD f p x = (1, f) := by unfold wrD; rw [if_pos h]
theorem wd_15 {f : DFl} {p : Int} {x : List UInt8} (h : ¬ p < 0) (h2 : 32768 < p ∨ 32768 - p < ((x.length : Nat) : Int)) : wrD f p x = (15, f) := by unfold wrD; rw [if_neg h, if_pos h2]
theorem wd_0 {f : DFl} {p : Int} {x : List UInt8} (h : ¬ p < 0) (h2 : ¬ (32768 < p ∨ 32768 - p < ((x.length : Nat) : Int))) (h3 : x.length = 0) : wrD f p x = (0, f) := by unfold wrD; rw [if_neg h, if_neg h2, if_pos h3]
theorem wd_ok {f : DFl} {p : Int} {x : List UInt8} (h : ¬ p < 0) (h2 : ¬ (32768 < p ∨ 32768 - p < ((x.length : Nat) : Int))) (h3 : ¬ x.length = 0) : wrD f p x = (0, { f with now := writeF f.now p.toNat x }) := by unfold wrD; rw [if_neg h, if_neg h2, if_neg h3]
theorem wd_grow {b o : List UInt8} (h : o = b ++ List.replicate (o.length - b.length) 0) (hl : b.length ≤ o.length) : o ++ [0] = b ++ List.replicate ((o ++ [0]).length - b.length) 0 := by
  have e : (o ++ [(0 : UInt8)]).length - b.length = (o.length - b.length) + 1 := (by rw [List.length_append, List.length_singleton]; omega); rw [e, List.replicate_succ', ← List.append_assoc, ← h]
theorem wd_set {o x q : List UInt8} {p i : Nat} {c : UInt8} (h : q = o.take p ++ x.take i ++ o.drop (p + i)) (hx : x[i]? = some c) (hl : p + i < o.length) : q.set (p + i) c = o.take p ++ x.take (i + 1) ++ o.drop (p + (i + 1)) := by
  obtain ⟨h1, h2⟩ := List.getElem?_eq_some_iff.1 hx; have hn : (o.take p ++ x.take i).length = p + i := (by rw [List.length_append, List.length_take, List.length_take]; omega); rw [h, List.set_append_right _ _ (by omega), hn, Nat.sub_self, List.drop_eq_getElem_cons hl, List.set_cons_zero, List.take_add_one, hx, Option.toList_some]; simp only [List.append_assoc, List.cons_append, List.nil_append, Nat.add_assoc]
theorem wd_end {b o q x : List UInt8} {p i : Nat} (h : o = b ++ List.replicate (o.length - b.length) 0) (hl : o.length = max b.length (p + x.length)) (hq : q = o.take p ++ x.take i ++ o.drop (p + i)) (hi : i = x.length) : q = writeF b p x := by
  subst hi; rw [List.take_length] at hq; rcases Nat.lt_or_ge b.length (p + x.length) with k | k
  · rw [write_more (n := p + x.length - b.length) rfl, hq]
    rw [show p + x.length - b.length = o.length - b.length by omega, ← h]
  · have : o = b := by rw [h, show o.length - b.length = 0 by omega]; simp
    rw [write_in k, hq, this]
def rdD (b : List UInt8) (p n : Int) : List UInt8 × Nat :=
  if p < 0 ∨ n < 0 then ([], 1) else if (b.length : Int) < p ∨ (b.length : Int) - p < n then ([], 2) else ((b.drop p.toNat).take n.toNat, 0)
theorem rd_1 {b : List UInt8} {p n : Int} (h : p < 0 ∨ n < 0) : rdD b p n = ([], 1) := by unfold rdD; rw [if_pos h]
theorem rd_2 {b : List UInt8} {p n : Int} (h : ¬ (p < 0 ∨ n < 0)) (h2 : (b.length : Int) < p ∨ (b.length : Int) - p < n) : rdD b p n = ([], 2) := by unfold rdD; rw [if_neg h, if_pos h2]
theorem rd_ok {b : List UInt8} {p n : Int} (h : ¬ (p < 0 ∨ n < 0)) (h2 : ¬ ((b.length : Int) < p ∨ (b.length : Int) - p < n)) : rdD b p n = ((b.drop p.toNat).take n.toNat, 0) := by unfold rdD; rw [if_neg h, if_neg h2]
theorem dSync_any {w : World} {Q : Nat → Prop} (uQ : Up w Q) {b0 : Nat} {v0_0 : Value} {v0_1 : Value} (f : DFl) (h0 : Blk w b0 (DFl.cells f v0_0 v0_1) 78) (n0 : ¬ Q b0) (a0_0 : DFl.ok f) (a0_1 : Ls tB8 w Q v0_0 f.now) (a0_2 : Ls tB8 w Q v0_1 f.safe) :
    Calls Tryz.prog 57 #[.pointer (some ⟨b0, 0, none⟩)] w fun en w' => ∃ m0 : DFl, ∃ u50_0 : Value, ∃ u50_1 : Value, en = .returned (.tuple #[]) ∧ Md [b0] w w' ∧ Blk w' b0 (DFl.cells m0 u50_0 u50_1) 78 ∧ ¬ Q b0 ∧ DFl.ok m0 ∧ Ls tB8 w' Q u50_0 m0.now ∧ Ls tB8 w' Q u50_1 m0.safe ∧ ({ f with safe := f.now } : DFl) = m0 := by
  have n_h0 := n0; have p_h0 : Fsh [b0] w b0 := .inl (by simp); have M := Md.refl [b0] w; have uQ0 := uQ; have tQ : ∀ b, Q b → Q b := fun _ h => h; have sQ0 : ∀ b, Q b → b < w.heap.size → Q b := fun _ h _ => h; refine enter (n := 9) Tryz.func57 rfl rfl rfl ?_; intro B; refine c_region ?_; refine mv rfl ?_; refine mv rfl ?_; refine st _ (r_nil rfl) ?_; refine st _ (r_field rfl off78_0) ?_; refine st _ ((r_loadBlk rfl one31 h0 rfl).to (b := v0_0) rfl) ?_; refine st _ (r_nil rfl) ?_; refine st _ (r_field rfl off78_1) ?_; have hc1 := a0_1; refine st_store rfl rfl one31 hc1.oneCell h0 (Nat.le_of_ble_eq_true rfl) ?_; have h00 := h0; clear h0; intro w2 hm h0; have hS : ∀ b ∈ [b0], ¬ Q b := (by intro b hb; simp at hb; subst hb; exact n_h0); replace a0_1 := a0_1.md hm hS; replace a0_2 := a0_2.md hm hS; replace hc1 := hc1.md hm hS; replace uQ := uQ.md hm; replace M := M.step hm (all_cons p_h0 all_nil); clear h00 hS; obtain ⟨s3, es3⟩ : ∃ y, y = ({ f with safe := f.now } : DFl) := ⟨_, rfl⟩; replace h0 : Blk _ _ (DFl.cells ({ f with safe := f.now }) v0_0 v0_0) _ := h0; rw [← es3] at h0; have oks3 : DFl.ok s3 := (by rw [es3]; exact (by unfold DFl.ok; first | exact a0_0 | (simp only; omega))); rw [show f.now = s3.now by rw [es3]] at a0_1; rw [show f.now = s3.safe by rw [es3]] at hc1; refine st_nil ?_; exact retL (vs := []) trivial rfl trivial rfl ⟨s3, _, _, rfl, M, h0, n0, oks3, (a0_1.sub (fun b hb _ => tQ b hb)), (hc1.sub (fun b hb _ => tQ b hb)), (by rw [es3])⟩
theorem dCopy_any {w : World} {Q : Nat → Prop} (uQ : Up w Q) {b0 : Nat} {v0_0 : Value} {v0_1 : Value} (f : DFl) (h0 : Blk w b0 (DFl.cells f v0_0 v0_1) 78) (n0 : ¬ Q b0) (a0_0 : DFl.ok f) (a0_1 : Ls tB8 w Q v0_0 f.now) (a0_2 : Ls tB8 w Q v0_1 f.safe) :
    Calls Tryz.prog 53 #[.pointer (some ⟨b0, 0, none⟩)] w fun en w' => ∃ o0 : Nat, ∃ u0_0 : Value, ∃ u0_1 : Value, ∃ r0 : DFl, ∃ Q' : Nat → Prop, en = .returned (.pointer (some ⟨o0, 0, none⟩)) ∧ Md [] w w' ∧ NewQ w w' Q Q' ∧ Blk w' o0 (DFl.cells r0 u0_0 u0_1) 78 ∧ ¬ Q' o0 ∧ w.heap.size ≤ o0 ∧ DFl.ok r0 ∧ Ls tB8 w' Q' u0_0 r0.now ∧ Ls tB8 w' Q' u0_1 r0.safe ∧ f = r0 := by
  have n_h0 := n0; have M := Md.refl [] w; have uQ0 := uQ; have tQ : ∀ b, Q b → Q b := fun _ h => h; have sQ0 : ∀ b, Q b → b < w.heap.size → Q b := fun _ h _ => h; refine enter (n := 17) Tryz.func53 rfl rfl rfl ?_; intro B; refine ns ?_; refine asg rfl ?_; refine nt ?_; refine c_seq ?_; have a0_1_q := a0_1; have a0_2_q := a0_2; have h0_q := h0; refine c_mixT [(0, true), (1, true), (2, true), (3, true), (4, true), (5, true), (6, true), (7, true), (8, true), (9, true), (10, true), (11, true)] [12, 13, 14] (fun w' => Md [] w w') mixed (by kernel_rfl) ?_; intro w1 hd0; refine ⟨hd0.mono (by simp), ?_⟩; have MC := hd0.mono (T := []) (by simp); refine Go.Wk.m _ (fun w' hc => r_move rfl) ?_; refine Go.Wk.m _ (fun w' hc => r_nil rfl) ?_; refine Go.Wk.m _ (fun w' hc => r_field rfl off78_0) ?_; refine Go.Wk.m _ (fun w' hc => (r_loadBlk rfl one31 (h0_q.md0 hc) rfl).to (b := v0_0) rfl) ?_; refine Go.Wk.m _ (fun w' hc => r_move rfl) ?_; refine Go.Wk.m _ (fun w' hc => r_nil rfl) ?_; refine Go.Wk.m _ (fun w' hc => r_field rfl off78_1) ?_; refine Go.Wk.m _ (fun w' hc => (r_loadBlk rfl one31 (h0_q.md0 hc) rfl).to (b := v0_1) rfl) ?_; refine Go.Wk.m _ (fun w' hc => r_move rfl) ?_; refine Go.Wk.m _ (fun w' hc => r_nil rfl) ?_; refine Go.Wk.m _ (fun w' hc => r_field rfl off78_2) ?_; refine Go.Wk.m _ (fun w' hc => (r_loadBlk rfl one3 (h0_q.md0 hc) rfl).to (b := (.int .i64 ((f.born : Nat) : Int))) rfl) ?_; have q2 : f.born < 9223372036854775808 := a0_0; refine m_nil ?_; replace a0_1 := a0_1.md0 hd0; replace a0_2 := a0_2.md0 hd0; replace h0 := h0.md0 hd0; replace uQ := uQ.md hd0; replace M := M.step0 hd0; clear h0_q a0_2_q a0_1_q; clear MC; refine st _ (r_buildG (us := [[v0_0], [v0_1], [(.int .i64 ((f.born : Nat) : Int))]]) (cs := (DFl.cells (({ now := f.now, safe := f.safe, born := f.born } : DFl)) v0_0 v0_1)) [(0, 0, 1), (1, 1, 1), (2, 2, 1)] z78 pl78 rfl rfl ⟨(cells_one a0_1.oneCell), (cells_one a0_2.oneCell), rfl, trivial⟩ ⟨rfl, rfl, rfl, trivial⟩ rfl rfl) ?_; refine st_box (cs := (DFl.cells (({ now := f.now, safe := f.safe, born := f.born } : DFl)) v0_0 v0_1)) rfl rfl ?_; intro ba16 w3 ga16 la16 hm ha16; have eh0a16 : b0 ≠ ba16 := (by have := h0.lt; omega); obtain ⟨Q4, sQ, sT, n_ha16, uQ2⟩ := exQ uQ ga16 la16 hm; replace a0_1 := a0_1.sub sQ; replace a0_2 := a0_2.sub sQ; replace n_h0 := fun hh => n_h0 (sT _ hh); replace tQ := fun b hb => tQ b (sT b hb); replace sQ0 := fun b hb hl => sQ b (sQ0 b hb hl) (Nat.lt_of_lt_of_le hl M.size)
  replace ga16 := Nat.le_trans M.size ga16; replace a0_1 := a0_1.md0 hm; replace a0_2 := a0_2.md0 hm; replace h0 := h0.md0 hm; replace uQ := uQ.md hm; replace M := M.step0 hm; clear uQ; have uQ := uQ2; clear uQ2 sQ sT; have p_ha16 : Fsh [] w ba16 := .inr ga16; refine asg rfl ?_; refine nt ?_; refine c_ret ?_; exact ret1L (v := (.pointer (some ⟨ba16, 0, none⟩))) trivial rfl ⟨rfl, trivial⟩ ⟨ba16, _, _, (({ now := f.now, safe := f.safe, born := f.born } : DFl)), Q4, rfl, M, ⟨sQ0, tQ, uQ⟩, ha16, n_ha16, ga16, (by first | assumption | exact (show (({ now := f.now, safe := f.safe, born := f.born } : DFl)).born < 9223372036854775808 from (by first | omega | (simp <;> omega) | simp_all))), a0_1, a0_2, rfl⟩
theorem dRead_any {w : World} {Q : Nat → Prop} (uQ : Up w Q) {b0 : Nat} {v0_0 : Value} {v0_1 : Value} (f : DFl) (h0 : Blk w b0 (DFl.cells f v0_0 v0_1) 78) (n0 : ¬ Q b0) (a0_0 : DFl.ok f) (a0_1 : Ls tB8 w Q v0_0 f.now) (a0_2 : Ls tB8 w Q v0_1 f.safe) (p : Int) (a1 : (-9223372036854775808 ≤ p ∧ p < 9223372036854775808)) (n : Int) (a2 : (-9223372036854775808 ≤ n ∧ n < 9223372036854775808)) (p0 : f.now.length ≤ 1000000) :
    Calls Tryz.prog 72 #[.pointer (some ⟨b0, 0, none⟩), (.int .i64 (p : Int)), (.int .i64 (n : Int))] w fun en w' => ∃ u0 : Value, ∃ r0 : List UInt8, ∃ r1 : Nat, en = .returned (.tuple #[u0, (.int .i64 ((r1 : Nat) : Int))]) ∧ Md [] w w' ∧ Ls tB8 w' Q u0 r0 ∧ r1 < 9223372036854775808 ∧ rdD f.now p n = (r0, r1) := by
  have n_h0 := n0; have M := Md.refl [] w; have uQ0 := uQ; have tQ : ∀ b, Q b → Q b := fun _ h => h; have sQ0 : ∀ b, Q b → b < w.heap.size → Q b := fun _ h _ => h; refine enter (n := 43) Tryz.func72 rfl rfl rfl ?_; intro B; refine ns ?_; refine asg rfl ?_; refine asg rfl ?_; refine nt ?_; refine c_seq ?_; refine ns ?_; refine mv rfl ?_; refine st _ (r_lt (a := p) (b := 0) rfl rfl) ?_; refine mv rfl ?_; refine part_n (t := 10) rfl (fun h10 => ?_) (fun h10 => ?_)
  · (first | (have h10n := of_decide_eq_true h10) | (have h10n := of_decide_eq_false (bnt h10)) | (have h10n := bnt h10) | (have h10n := h10)); refine st_skip rfl rfl rfl h10 ?_; refine st_skip rfl rfl rfl h10 ?_; refine st _ (r_pick_t rfl h10 rfl) ?_; refine nt ?_; refine c_if_t rfl rfl ?_; refine ns ?_; refine asg rfl ?_; refine asg rfl ?_; refine nt ?_; refine c_ret ?_; refine r_then ?_; exact retL (vs := [(.slice none 0 0), (.int .i64 ((1 : Nat) : Int))]) trivial rfl ⟨rfl, rfl, trivial⟩ rfl ⟨_, [], 1, rfl, M, (Ls.nil _ _ _), (by first | assumption | omega | simp_all), (rd_1 (by omega))⟩
  · (first | (have h10n := of_decide_eq_false h10) | (have h10n := of_decide_eq_true (bnf h10)) | (have h10n := bnf h10) | (have h10n := h10)); refine st_g _ rfl rfl rfl h10 (r_move rfl) ?_; refine st_g _ rfl rfl rfl h10 (r_lt (a := n) (b := 0) rfl rfl) ?_; refine st _ (r_pick_f rfl h10 rfl) ?_; refine nt ?_; refine c_if rfl (fun h13 => ?_) (fun h13 => ?_)
    · (first | (have h13n := of_decide_eq_true h13) | (have h13n := of_decide_eq_false (bnt h13)) | (have h13n := bnt h13) | (have h13n := h13)); refine ns ?_; refine asg rfl ?_; refine asg rfl ?_; refine nt ?_; refine c_ret ?_; refine r_then ?_; exact retL (vs := [(.slice none 0 0), (.int .i64 ((1 : Nat) : Int))]) trivial rfl ⟨rfl, rfl, trivial⟩ rfl ⟨_, [], 1, rfl, M, (Ls.nil _ _ _), (by first | assumption | omega | simp_all), (rd_1 (by omega))⟩
    · (first | (have h13n := of_decide_eq_false h13) | (have h13n := of_decide_eq_true (bnf h13)) | (have h13n := bnf h13) | (have h13n := h13)); refine c_skip ?_; refine c_then ?_; refine c_seq ?_; refine ns ?_; have L0 := a0_1.len63; refine mv rfl ?_; refine mv rfl ?_; refine st _ (r_nil rfl) ?_; refine st _ (r_field rfl off78_0) ?_; refine st _ ((r_loadBlk rfl one31 h0 rfl).to (b := v0_0) rfl) ?_; refine st _ (r_len rfl u31 a0_1.shp) ?_; refine st _ (r_gt (a := p) (b := ((f.now.length : Nat) : Int)) rfl rfl) ?_; refine mv rfl ?_; refine part_n (t := 21) rfl (fun h21 => ?_) (fun h21 => ?_)
      · (first | (have h21n := of_decide_eq_true h21) | (have h21n := of_decide_eq_false (bnt h21)) | (have h21n := bnt h21) | (have h21n := h21)); refine st_skip rfl rfl rfl h21 ?_; refine st_skip rfl rfl rfl h21 ?_; refine st_skip rfl rfl rfl h21 ?_; refine st_skip rfl rfl rfl h21 ?_; refine st_skip rfl rfl rfl h21 ?_; refine st_skip rfl rfl rfl h21 ?_; refine st_skip rfl rfl rfl h21 ?_; refine st_skip rfl rfl rfl h21 ?_; refine st_skip rfl rfl rfl h21 ?_; refine st _ (r_pick_t rfl h21 rfl) ?_; refine nt ?_; refine c_if_t rfl rfl ?_; refine ns ?_; refine asg rfl ?_; refine asg rfl ?_; refine nt ?_; refine c_ret ?_; refine r_then ?_; exact retL (vs := [(.slice none 0 0), (.int .i64 ((2 : Nat) : Int))]) trivial rfl ⟨rfl, rfl, trivial⟩ rfl ⟨_, [], 2, rfl, M, (Ls.nil _ _ _), (by first | assumption | omega | simp_all), (rd_2 (by omega) (by omega))⟩
      · (first | (have h21n := of_decide_eq_false h21) | (have h21n := of_decide_eq_true (bnf h21)) | (have h21n := bnf h21) | (have h21n := h21)); refine st_g _ rfl rfl rfl h21 (r_move rfl) ?_; refine st_g _ rfl rfl rfl h21 (r_move rfl) ?_; refine st_g _ rfl rfl rfl h21 (r_nil rfl) ?_; refine st_g _ rfl rfl rfl h21 (r_field rfl off78_0) ?_; refine st_g _ rfl rfl rfl h21 ((r_loadBlk rfl one31 h0 rfl).to (b := v0_0) rfl) ?_; refine st_g _ rfl rfl rfl h21 (r_len rfl u31 a0_1.shp) ?_; refine st_g _ rfl rfl rfl h21 (r_move rfl) ?_; refine st_g _ rfl rfl rfl h21 (r_subI (a := ((f.now.length : Nat) : Int)) (b := p) rfl rfl (by omega)) ?_; refine st_g _ rfl rfl rfl h21 (r_gt (a := n) (b := ((f.now.length : Nat) : Int) - p) rfl rfl) ?_; refine st _ (r_pick_f rfl h21 rfl) ?_; refine nt ?_; refine c_if rfl (fun h31 => ?_) (fun h31 => ?_)
        · (first | (have h31n := of_decide_eq_true h31) | (have h31n := of_decide_eq_false (bnt h31)) | (have h31n := bnt h31) | (have h31n := h31)); refine ns ?_; refine asg rfl ?_; refine asg rfl ?_; refine nt ?_; refine c_ret ?_; refine r_then ?_; exact retL (vs := [(.slice none 0 0), (.int .i64 ((2 : Nat) : Int))]) trivial rfl ⟨rfl, rfl, trivial⟩ rfl ⟨_, [], 2, rfl, M, (Ls.nil _ _ _), (by first | assumption | omega | simp_all), (rd_2 (by omega) (by omega))⟩
        · (first | (have h31n := of_decide_eq_false h31) | (have h31n := of_decide_eq_true (bnf h31)) | (have h31n := bnf h31) | (have h31n := h31)); refine c_skip ?_; refine c_then ?_; refine ns ?_; obtain ⟨pn, epn⟩ := Int.eq_ofNat_of_zero_le (show 0 ≤ p by omega); subst epn; obtain ⟨nn, enn⟩ := Int.eq_ofNat_of_zero_le (show 0 ≤ n by omega); subst enn; refine st_build0 u31 elT5 ?_; intro ba32 w1 ga32 la32 hm ha32; have p_ha32 : Fsh [] w ba32 := Fsh.new M _ ga32; obtain ⟨Q2, sQ, sT, n_ha32, uQ2⟩ := exQ uQ ga32 la32 hm; replace a0_1 := a0_1.sub sQ; replace a0_2 := a0_2.sub sQ; replace n_h0 := fun hh => n_h0 (sT _ hh); replace tQ := fun b hb => tQ b (sT b hb); replace sQ0 := fun b hb hl => sQ b (sQ0 b hb hl) (Nat.lt_of_lt_of_le hl M.size); replace a0_1 := a0_1.md0 hm; replace a0_2 := a0_2.md0 hm; replace h0 := h0.md0 hm; replace uQ := uQ.md hm; replace M := M.step0 hm; clear uQ; have uQ := uQ2; clear uQ2 sQ sT; replace ha32 := Ow.of_blk (m := 0) (lo := Fsh [] w) (R := Q2) (T := tB8) (xs := ([] : List UInt8)) ha32 rfl rfl (by decide) p_ha32 n_ha32; refine mv rfl ?_; refine st _ (r_nil rfl) ?_; refine st _ (r_field rfl off78_0) ?_; refine st _ ((r_loadBlk rfl one31 h0 rfl).to (b := v0_0) rfl) ?_; refine mv rfl ?_; refine mv rfl ?_; refine mv rfl ?_; refine st _ (r_addN (a := pn) (b := nn) 9223372036854775808 rfl rfl rfl (by omega)) ?_; refine st _ (r_sliceZ 1 pn (pn + nn) u31 el5 rfl a0_1.shp (by omega) (by omega) ⟨_, rfl⟩ ⟨_, rfl⟩) ?_; have hs3 := a0_1.part pn (pn + nn) (by omega) (by omega); refine st_ap (sz := 1) (by rfl) u31 elT5 rfl rfl ha32 hs3 (fun _ h _ => h) uQ (Fsh.new M) (by first | omega | (simp <;> omega) | (simp at * <;> omega)) (by first | omega | (simp <;> omega) | (simp at * <;> omega)) ?_; intro v5 w6 Q7 sQ sT uQ2 hO4 hm hS _ hv2; have ha320 := ha32; clear ha32; replace a0_1 := a0_1.sub sQ; replace a0_2 := a0_2.sub sQ; replace n_h0 := fun hh => n_h0 (sT _ hh); replace hs3 := hs3.sub sQ; replace tQ := fun b hb => tQ b (sT b hb); replace sQ0 := fun b hb hl => sQ b (sQ0 b hb hl) (Nat.lt_of_lt_of_le hl M.size); replace a0_1 := a0_1.md hm hS; replace a0_2 := a0_2.md hm hS; replace h0 := h0.md hm (apart_ow ha320 h0 (by decide)); replace hs3 := hs3.md hm hS; replace uQ := uQ.md hm; replace M := M.stepO hm (fun b hb => (ha320.2 b hb).1); clear uQ; have uQ := uQ2; clear uQ2 sQ sT hS hv2; rw [List.nil_append] at hO4; refine asg rfl ?_; refine asg rfl ?_; refine st_nil ?_
          refine c_then ?_; refine c_ret ?_; exact retL (vs := [v5, (.int .i64 ((0 : Nat) : Int))]) trivial rfl ⟨rfl, rfl, trivial⟩ rfl ⟨_, ((f.now.take (pn + nn)).drop pn), 0, rfl, M, (hO4.ls (fun b hb => tQ b hb) (Fsh.up uQ0)), (by first | assumption | omega | simp_all), (by rw [rd_ok (by omega) (by omega)]; show ((f.now.drop pn).take nn, 0) = ((f.now.take (pn + nn)).drop pn, 0); rw [List.drop_take, Nat.add_sub_cancel_left])⟩
theorem dPart_any {w : World} {Q : Nat → Prop} (uQ : Up w Q) {v0 : Value} {b : List UInt8} (h0 : Ls tB8 w Q v0 b) (i : Nat) (a1 : i < 9223372036854775808) (p0 : b.length ≤ 1000000) (p1 : i ≤ 1000000) :
    Calls Tryz.prog 82 #[v0, (.int .i64 ((i : Nat) : Int))] w fun en w' => ∃ r0 : List UInt8, en = .returned (str r0) ∧ Md [] w w' ∧ secF b i = r0 := by
  have L0 := h0.len63; have M := Md.refl [] w; have uQ0 := uQ; have tQ : ∀ b, Q b → Q b := fun _ h => h; have sQ0 : ∀ b, Q b → b < w.heap.size → Q b := fun _ h _ => h; refine enter (n := 21) Tryz.func82 rfl rfl rfl ?_; intro B; refine ns ?_; refine asg rfl ?_; refine nt ?_; refine ns ?_; refine mv rfl ?_; refine st _ (r_mulN (a := i) (b := 512) 9223372036854775808 rfl rfl rfl (by omega)) ?_; refine asg rfl ?_; refine nt ?_; refine c_seq ?_; refine ns ?_; refine mv rfl ?_; refine mv rfl ?_; refine st _ (r_len rfl u31 h0.shp) ?_; refine st _ (r_geN (a := (i * 512)) (b := b.length) rfl rfl) ?_; refine nt ?_; refine c_if rfl (fun h11 => ?_) (fun h11 => ?_)
  · (first | (have h11n := of_decide_eq_true h11) | (have h11n := of_decide_eq_false (bnt h11)) | (have h11n := bnt h11) | (have h11n := h11)); refine ns ?_; refine asg rfl ?_; refine nt ?_; refine c_ret ?_; refine r_then ?_; exact ret1L (v := (str (([] : List UInt8)))) trivial rfl ⟨rfl, trivial⟩ ⟨([] : List UInt8), rfl, M, (by unfold secF; first | (rw [List.drop_of_length_le]; simp; omega) | (congr 1 <;> (try congr 1) <;> omega))⟩
  · (first | (have h11n := of_decide_eq_false h11) | (have h11n := of_decide_eq_true (bnf h11)) | (have h11n := bnf h11) | (have h11n := h11)); refine c_skip ?_; refine c_then ?_; refine ns ?_; refine mv rfl ?_; refine mv rfl ?_; refine mv rfl ?_; refine st _ (r_addN (a := (i * 512)) (b := 512) 9223372036854775808 rfl rfl rfl (by omega)) ?_; refine mv rfl ?_; refine st _ (r_len rfl u31 h0.shp) ?_; refine st _ (r_minN (a := (i * 512) + 512) (b := b.length) rfl rfl) ?_; refine st _ (r_sliceZ 1 (i * 512) (min ((i * 512) + 512) b.length) u31 el5 rfl h0.shp (by omega) (by omega) ⟨_, rfl⟩ ⟨_, rfl⟩) ?_; have hs1 := h0.part (i * 512) (min ((i * 512) + 512) b.length) (by omega) (by omega); refine st _ (r_convBS (s := ((b.take (min ((i * 512) + 512) b.length)).drop (i * 512))) u31 u5 u9 rfl hs1.by) ?_; refine asg rfl ?_; refine nt ?_; refine c_ret ?_; exact ret1L (v := (str ((b.take (min ((i * 512) + 512) b.length)).drop (i * 512)))) trivial rfl ⟨rfl, trivial⟩ ⟨(b.take (min ((i * 512) + 512) b.length)).drop (i * 512), rfl, M, (by unfold secF; first | (rw [List.drop_of_length_le]; simp; omega) | (congr 1 <;> (try congr 1) <;> omega))⟩
set_option maxRecDepth 100000 in
theorem dWrite_any {w : World} {Q : Nat → Prop} (uQ : Up w Q) {b0 : Nat} {v0_0 : Value} {v0_1 : Value} (f : DFl) (h0 : Blk w b0 (DFl.cells f v0_0 v0_1) 78) (n0 : ¬ Q b0) (a0_0 : DFl.ok f) (a0_1 : Ls tB8 w Q v0_0 f.now) (a0_2 : Ls tB8 w Q v0_1 f.safe) (p : Int) (a1 : (-9223372036854775808 ≤ p ∧ p < 9223372036854775808)) {v2 : Value} {x : List UInt8} (h2 : Ls tB8 w Q v2 x) (p0 : f.now.length ≤ 1000000) :
    Calls Tryz.prog 54 #[.pointer (some ⟨b0, 0, none⟩), (.int .i64 (p : Int)), v2] w fun en w' => ∃ r0 : Nat, ∃ m0 : DFl, ∃ u50_0 : Value, ∃ u50_1 : Value, en = .returned (.int .i64 ((r0 : Nat) : Int)) ∧ Md [b0] w w' ∧ r0 < 9223372036854775808 ∧ Blk w' b0 (DFl.cells m0 u50_0 u50_1) 78 ∧ ¬ Q b0 ∧ DFl.ok m0 ∧ Ls tB8 w' Q u50_0 m0.now ∧ Ls tB8 w' Q u50_1 m0.safe ∧ wrD f p x = (r0, m0) := by
  have L2 := h2.len63; have n_h0 := n0; have p_h0 : Fsh [b0] w b0 := .inl (by simp); have M := Md.refl [b0] w; have uQ0 := uQ; have tQ : ∀ b, Q b → Q b := fun _ h => h; have sQ0 : ∀ b, Q b → b < w.heap.size → Q b := fun _ h _ => h; refine enter (n := 58) Tryz.func54 rfl rfl rfl ?_; intro B; refine ns ?_; refine asg rfl ?_; refine nt ?_; refine c_seq ?_; refine ns ?_; refine mv rfl ?_; refine st _ (r_lt (a := p) (b := 0) rfl rfl) ?_; refine nt ?_; refine c_if rfl (fun h10 => ?_) (fun h10 => ?_)
  · (first | (have h10n := of_decide_eq_true h10) | (have h10n := of_decide_eq_false (bnt h10)) | (have h10n := bnt h10) | (have h10n := h10)); refine ns ?_; refine asg rfl ?_; refine nt ?_; refine c_ret ?_; refine r_then ?_; exact ret1L (v := (.int .i64 ((1 : Nat) : Int))) trivial rfl ⟨rfl, trivial⟩ ⟨1, f, _, _, rfl, M, (by first | assumption | omega | simp_all), h0, n0, a0_0, (a0_1.sub (fun b hb _ => tQ b hb)), (a0_2.sub (fun b hb _ => tQ b hb)), (wd_1 (by omega))⟩
  · (first | (have h10n := of_decide_eq_false h10) | (have h10n := of_decide_eq_true (bnf h10)) | (have h10n := bnf h10) | (have h10n := h10)); refine c_skip ?_; refine c_then ?_; refine c_seq ?_; refine ns ?_; refine mv rfl ?_; refine st _ (r_gt (a := p) (b := 32768) rfl rfl) ?_; refine mv rfl ?_; refine part_n (t := 13) rfl (fun h13 => ?_) (fun h13 => ?_)
    · (first | (have h13n := of_decide_eq_true h13) | (have h13n := of_decide_eq_false (bnt h13)) | (have h13n := bnt h13) | (have h13n := h13)); refine st_skip rfl rfl rfl h13 ?_; refine st_skip rfl rfl rfl h13 ?_; refine st_skip rfl rfl rfl h13 ?_; refine st_skip rfl rfl rfl h13 ?_; refine st_skip rfl rfl rfl h13 ?_; refine st _ (r_pick_t rfl h13 rfl) ?_; refine nt ?_; refine c_if_t rfl rfl ?_; refine ns ?_; refine asg rfl ?_; refine nt ?_; refine c_ret ?_; refine r_then ?_; exact ret1L (v := (.int .i64 ((15 : Nat) : Int))) trivial rfl ⟨rfl, trivial⟩ ⟨15, f, _, _, rfl, M, (by first | assumption | omega | simp_all), h0, n0, a0_0, (a0_1.sub (fun b hb _ => tQ b hb)), (a0_2.sub (fun b hb _ => tQ b hb)), (wd_15 (by omega) (by omega))⟩
    · (first | (have h13n := of_decide_eq_false h13) | (have h13n := of_decide_eq_true (bnf h13)) | (have h13n := bnf h13) | (have h13n := h13)); refine st_g _ rfl rfl rfl h13 (r_move rfl) ?_; refine st_g _ rfl rfl rfl h13 (r_len rfl u31 h2.shp) ?_; refine st_g _ rfl rfl rfl h13 (r_move rfl) ?_; refine st_g _ rfl rfl rfl h13 (r_subI (a := 32768) (b := p) rfl rfl (by omega)) ?_; refine st_g _ rfl rfl rfl h13 (r_gt (a := ((x.length : Nat) : Int)) (b := 32768 - p) rfl rfl) ?_; refine st _ (r_pick_f rfl h13 rfl) ?_; refine nt ?_; refine c_if rfl (fun h19 => ?_) (fun h19 => ?_)
      · (first | (have h19n := of_decide_eq_true h19) | (have h19n := of_decide_eq_false (bnt h19)) | (have h19n := bnt h19) | (have h19n := h19)); refine ns ?_; refine asg rfl ?_; refine nt ?_; refine c_ret ?_; refine r_then ?_; exact ret1L (v := (.int .i64 ((15 : Nat) : Int))) trivial rfl ⟨rfl, trivial⟩ ⟨15, f, _, _, rfl, M, (by first | assumption | omega | simp_all), h0, n0, a0_0, (a0_1.sub (fun b hb _ => tQ b hb)), (a0_2.sub (fun b hb _ => tQ b hb)), (wd_15 (by omega) (by omega))⟩
      · (first | (have h19n := of_decide_eq_false h19) | (have h19n := of_decide_eq_true (bnf h19)) | (have h19n := bnf h19) | (have h19n := h19)); refine c_skip ?_; refine c_then ?_; refine c_seq ?_; refine ns ?_; refine mv rfl ?_; refine st _ (r_len rfl u31 h2.shp) ?_; refine st _ (r_eqN (a := x.length) (b := 0) rfl rfl) ?_; refine nt ?_; refine c_if rfl (fun h22 => ?_) (fun h22 => ?_)
        · (first | (have h22n := of_decide_eq_true h22) | (have h22n := of_decide_eq_false (bnt h22)) | (have h22n := bnt h22) | (have h22n := h22)); refine ns ?_; refine asg rfl ?_; refine nt ?_; refine c_ret ?_; refine r_then ?_; exact ret1L (v := (.int .i64 ((0 : Nat) : Int))) trivial rfl ⟨rfl, trivial⟩ ⟨0, f, _, _, rfl, M, (by first | assumption | omega | simp_all), h0, n0, a0_0, (a0_1.sub (fun b hb _ => tQ b hb)), (a0_2.sub (fun b hb _ => tQ b hb)), (wd_0 (by omega) (by omega) (by omega))⟩
        · (first | (have h22n := of_decide_eq_false h22) | (have h22n := of_decide_eq_true (bnf h22)) | (have h22n := bnf h22) | (have h22n := h22)); refine c_skip ?_; refine c_then ?_; refine ns ?_; obtain ⟨pn, epn⟩ := Int.eq_ofNat_of_zero_le (show 0 ≤ p by omega); subst epn; refine st_build0 u31 elT5 ?_; intro ba23 w1 ga23 la23 hm ha23; have p_ha23 : Fsh [] w ba23 := Fsh.new M _ ga23; obtain ⟨Q2, sQ, sT, n_ha23, uQ2⟩ := exQ uQ ga23 la23 hm; replace a0_1 := a0_1.sub sQ; replace a0_2 := a0_2.sub sQ; replace n_h0 := fun hh => n_h0 (sT _ hh); replace h2 := h2.sub sQ; replace tQ := fun b hb => tQ b (sT b hb); replace sQ0 := fun b hb hl => sQ b (sQ0 b hb hl) (Nat.lt_of_lt_of_le hl M.size); replace a0_1 := a0_1.md0 hm; replace a0_2 := a0_2.md0 hm; replace h0 := h0.md0 hm; replace h2 := h2.md0 hm; replace uQ := uQ.md hm; replace M := M.step0 hm; clear uQ; have uQ := uQ2; clear uQ2 sQ sT; replace ha23 := Ow.of_blk (m := 0) (lo := Fsh [] w) (R := Q2) (T := tB8) (xs := ([] : List UInt8)) ha23 rfl rfl (by decide) p_ha23 n_ha23; refine mv rfl ?_; refine st _ (r_nil rfl) ?_; refine st _ (r_field rfl off78_0) ?_; refine st _ ((r_loadBlk rfl one31 h0 rfl).to (b := v0_0) rfl) ?_; refine st_ap (sz := 1) (by rfl) u31 elT5 rfl rfl ha23 a0_1 (fun _ h _ => h) uQ (Fsh.new M) (by first | omega | (simp <;> omega) | (simp at * <;> omega)) (by first | omega | (simp <;> omega) | (simp at * <;> omega)) ?_; intro v4 w5 Q6 sQ sT uQ2 hO3 hm hS _ hv2; have ha230 := ha23; clear ha23; replace a0_1 := a0_1.sub sQ; replace a0_2 := a0_2.sub sQ; replace n_h0 := fun hh => n_h0 (sT _ hh); replace h2 := h2.sub sQ; replace tQ := fun b hb => tQ b (sT b hb); replace sQ0 := fun b hb hl => sQ b (sQ0 b hb hl) (Nat.lt_of_lt_of_le hl M.size); replace a0_1 := a0_1.md hm hS; replace a0_2 := a0_2.md hm hS; replace h0 := h0.md hm (apart_ow ha230 h0 (by decide)); replace h2 := h2.md hm hS; replace uQ := uQ.md hm; replace M := M.stepO hm (fun b hb => Fsh.wid (ha230.2 b hb).1); clear uQ; have uQ := uQ2; clear uQ2 sQ sT hS hv2; rw [List.nil_append] at hO3; refine asg rfl ?_; refine nt ?_; refine c_seq ?_; refine c_block ?_; refine loop2 (fun (vo : Value) (o : List UInt8) => [(7, vo), (0, (.pointer (some ⟨b0, 0, none⟩))), (1, (.int .i64 ((pn : Nat) : Int))), (2, v2)]) (fun (vo : Value) (o : List UInt8) w' => ∃ Q' : Nat → Prop, (∀ b, Q' b → Q b) ∧ (∀ b, Q b → b < w.heap.size → Q' b) ∧ Up w' Q' ∧ Md [b0] w w' ∧ Ow tB8 5 (Fsh [] w) w' Q' vo o ∧ Blk w' b0 (DFl.cells f v0_0 v0_1) 78 ∧ Ls tB8 w' Q' v2 x ∧ Ls tB8 w' Q' v0_0 f.now ∧ Ls tB8 w' Q' v0_1 f.safe ∧ ¬ Q' b0 ∧ o = f.now ++ List.replicate (o.length - f.now.length) 0 ∧ f.now.length ≤ o.length ∧ o.length ≤ max f.now.length (pn + x.length)) (fun (vo : Value) (o : List UInt8) => max f.now.length (pn + x.length) - o.length) (x0 := v4) (x1 := f.now) ?_ ?_ ?_
          · exact ⟨rfl, rfl, rfl, rfl, trivial⟩
          · exact ⟨Q6, tQ, sQ0, uQ, M, hO3, h0, h2, a0_1, a0_2, n_h0, (by simp), (by simp), (by first | omega | (simp; omega))⟩
          · clear M uQ tQ sQ0 n_h0 a0_1 a0_2 h0 h2 hO3
            rintro vo o B w7 ⟨Q8, tQ, sQ0, uQ, M, f_o, h0, h2, a0_1, a0_2, n_h0, i0_0, i0_1, i0_2⟩; refine c_seq ?_; refine ns ?_; refine mv rfl ?_; refine st _ (r_len rfl u31 f_o.shp) ?_; refine mv rfl ?_; refine mv rfl ?_; refine st _ (r_len rfl u31 h2.shp) ?_; refine st _ (r_addN (a := pn) (b := x.length) 9223372036854775808 rfl rfl rfl (by omega)) ?_; refine st _ (r_ltN (a := o.length) (b := (pn + x.length)) rfl rfl) ?_; refine nt ?_; refine c_if rfl (fun h35 => ?_) (fun h35 => ?_)
            · (first | (have h35n := of_decide_eq_true h35) | (have h35n := of_decide_eq_false (bnt h35)) | (have h35n := bnt h35) | (have h35n := h35)); refine c_skip ?_; refine c_then ?_; refine c_block ?_; refine c_region ?_; refine mv rfl ?_; refine st_buildSliceG [[(b8 0)]] u31 elT5 (by decide) (by decide) rfl rfl ⟨rfl, trivial⟩ ⟨rfl, trivial⟩ rfl (by decide) ?_; intro ba37 w9 ga37 la37 hm ha37; have ya37 := uQ _ ga37; replace f_o := f_o.md0 hm; replace h0 := h0.md0 hm; replace h2 := h2.md0 hm; replace a0_1 := a0_1.md0 hm; replace a0_2 := a0_2.md0 hm; replace uQ := uQ.md hm; replace M := M.step0 hm; replace ha37 := Ls.of_blk (m := 1) (R := Q8) (T := tB8) (xs := [0]) ha37 ⟨_, _, rfl, ⟨rfl, trivial⟩, rfl⟩ rfl (by decide) ya37; refine st_ap (sz := 1) (by rfl) u31 elT5 rfl rfl f_o ha37 (fun _ h _ => h) uQ (Fsh.new M) (by first | omega | (simp <;> omega) | (simp at * <;> omega)) (by first | omega | (simp <;> omega) | (simp at * <;> omega)) ?_; intro v11 w12 Q13 sQ sT uQ2 hO10 hm hS _ hv2; have f_o0 := f_o; clear f_o; replace n_h0 := fun hh => n_h0 (sT _ hh); replace h2 := h2.sub sQ; replace a0_1 := a0_1.sub sQ; replace a0_2 := a0_2.sub sQ; replace ha37 := ha37.sub sQ; replace tQ := fun b hb => tQ b (sT b hb); replace sQ0 := fun b hb hl => sQ b (sQ0 b hb hl) (Nat.lt_of_lt_of_le hl M.size); replace h0 := h0.md hm (apart_ow f_o0 h0 (by decide)); replace h2 := h2.md hm hS; replace a0_1 := a0_1.md hm hS; replace a0_2 := a0_2.md hm hS; replace ha37 := ha37.md hm hS; replace uQ := uQ.md hm; replace M := M.stepO hm (fun b hb => Fsh.wid (f_o0.2 b hb).1); clear uQ; have uQ := uQ2; clear uQ2 sQ sT hS hv2; have gl : (o ++ [(0 : UInt8)]).length = o.length + 1 := (by simp); refine asg rfl ?_; refine st_nil ?_; refine n_block ?_; refine c_then ?_; refine next2 (x0 := v11) (x1 := (o ++ ([0]))) (by omega) ⟨rfl, rfl, rfl, rfl, trivial⟩ ⟨Q13, tQ, sQ0, uQ, M, hO10, h0, h2, a0_1, a0_2, n_h0, (wd_grow i0_0 i0_1), (by simp; omega), (by simp; omega)⟩
            · (first | (have h35n := of_decide_eq_false h35) | (have h35n := of_decide_eq_true (bnf h35)) | (have h35n := bnf h35) | (have h35n := h35)); refine c_exit ?_; refine x_then ?_; refine x_then ?_; refine x_hit ?_; refine c_then ?_; refine c_seq ?_; refine ns ?_; refine asg rfl ?_; refine nt ?_; refine c_block ?_; have ol : o.length = max f.now.length (pn + x.length) := (by omega); refine loop3 (fun (vq : Value) (q : List UInt8) (i : Nat) => [(7, vq), (8, (.int .i64 ((i : Nat) : Int))), (0, (.pointer (some ⟨b0, 0, none⟩))), (1, (.int .i64 ((pn : Nat) : Int))), (2, v2)]) (fun (vq : Value) (q : List UInt8) (i : Nat) w' => ∃ Q' : Nat → Prop, (∀ b, Q' b → Q b) ∧ (∀ b, Q b → b < w.heap.size → Q' b) ∧ Up w' Q' ∧ Md [b0] w w' ∧ Ow tB8 5 (Fsh [] w) w' Q' vq q ∧ Blk w' b0 (DFl.cells f v0_0 v0_1) 78 ∧ Ls tB8 w' Q' v2 x ∧ Ls tB8 w' Q' v0_0 f.now ∧ Ls tB8 w' Q' v0_1 f.safe ∧ ¬ Q' b0 ∧ q = o.take pn ++ x.take i ++ o.drop (pn + i) ∧ i ≤ x.length ∧ q.length = o.length) (fun (vq : Value) (q : List UInt8) (i : Nat) => x.length - i) (x0 := vo) (x1 := o) (x2 := 0) ?_ ?_ ?_
              · exact ⟨rfl, rfl, rfl, rfl, rfl, trivial⟩
              · exact ⟨Q8, tQ, sQ0, uQ, M, f_o, h0, h2, a0_1, a0_2, n_h0, (by simp), (by omega), rfl⟩
              · clear M uQ tQ sQ0 n_h0 f_o h0 h2 a0_1 a0_2
                rintro vq q i B w14 ⟨Q15, tQ, sQ0, uQ, M, f_q, h0, h2, a0_1, a0_2, n_h0, i1_0, i1_1, i1_2⟩; refine c_seq ?_; refine ns ?_; refine mv rfl ?_; refine mv rfl ?_; refine st _ (r_len rfl u31 h2.shp) ?_; refine st _ (r_ltN (a := i) (b := x.length) rfl rfl) ?_; refine nt ?_; refine c_if rfl (fun h42 => ?_) (fun h42 => ?_)
                · (first | (have h42n := of_decide_eq_true h42) | (have h42n := of_decide_eq_false (bnt h42)) | (have h42n := bnt h42) | (have h42n := h42)); refine c_skip ?_; refine c_then ?_; refine c_seq ?_; refine c_block ?_; refine c_region ?_; refine mv rfl ?_; refine mv rfl ?_; refine mv rfl ?_; refine st _ (r_addN (a := pn) (b := i) 9223372036854775808 rfl rfl rfl (by omega)) ?_; refine mv rfl ?_; refine mv rfl ?_; refine st _ (r_indexN (i := i) 1 rfl rfl u31 el5 h2.shp (by omega)) ?_; obtain ⟨x16, hx16⟩ := getE (l := x) (i := i) (by first | omega | (simp <;> omega)); obtain ⟨c17, hr16, ha16⟩ := h2.get hx16; obtain ⟨rfl, _⟩ := hr16; have yx16 := UInt8.toNat_lt x16; replace ha16 : At _ v2 (i * 1) [(b8 x16)] := ha16; refine st _ ((r_loadE (kk := i * 1) 0 rfl rfl one5 ha16 rfl).to (b := (b8 x16)) rfl) ?_; refine st _ (r_indexN (i := pn + i) 1 rfl rfl u31 el5 f_q.shp (by omega)) ?_; obtain ⟨x18, hx18⟩ := getE (l := q) (i := pn + i) (by first | omega | (simp <;> omega)); obtain ⟨c19, hr18, ha18⟩ := f_q.get hx18; obtain ⟨rfl, _⟩ := hr18; have yx18 := UInt8.toNat_lt x18; replace ha18 : At _ vq ((pn + i) * 1) [(b8 x18)] := ha18; refine st_storeOw (T := tB8) (z := x16) (i := pn + i) (k := (pn + i) * 1) rfl rfl rfl one5 f_q ⟨rfl, trivial⟩ (by omega) ?_; intro w20 hm hS f_q2; have f_q0 := f_q; clear f_q; have f_q := f_q2; clear f_q2; replace h0 := h0.md hm (apart_ow f_q0 h0 (by decide)); replace h2 := h2.md hm hS; replace a0_1 := a0_1.md hm hS; replace a0_2 := a0_2.md hm hS; clear ha16; clear ha18; replace uQ := uQ.md hm; replace M := M.stepO hm (fun b hb => Fsh.wid (f_q0.2 b hb).1); clear f_q0 hS; refine st_nil ?_; refine n_block ?_; refine c_then ?_; refine c_region ?_; refine mv rfl ?_; refine st _ (r_addN (a := i) (b := 1) 9223372036854775808 rfl rfl rfl (by omega)) ?_; refine asg rfl ?_; refine nt ?_; refine next3 (x0 := vq) (x1 := (q.set (pn + i) x16)) (x2 := (i + 1)) (by omega) ⟨rfl, (fitI rfl (by omega)), rfl, rfl, rfl, trivial⟩ ⟨Q15, tQ, sQ0, uQ, M, f_q, h0, h2, a0_1, a0_2, n_h0, (wd_set i1_0 hx16 (by omega)), (by omega), (by simp; omega)⟩
                · (first | (have h42n := of_decide_eq_false h42) | (have h42n := of_decide_eq_true (bnf h42)) | (have h42n := bnf h42) | (have h42n := h42)); refine c_exit ?_; refine x_then ?_; refine x_then ?_; refine x_hit ?_; refine c_then ?_; refine ns ?_; refine mv rfl ?_; refine mv rfl ?_; refine st _ (r_nil rfl) ?_; refine st _ (r_field rfl off78_0) ?_; refine st_store rfl rfl one31 f_q.oneCell h0 (Nat.le_of_ble_eq_true rfl) ?_; have h00 := h0; clear h0; intro w21 hm h0; have hS : ∀ b ∈ [b0], ¬ Q15 b := (by intro b hb; simp at hb; subst hb; exact n_h0); replace f_q := f_q.md hm (apart_bo h00 f_q (by decide)) hS; replace h2 := h2.md hm hS; replace a0_1 := a0_1.md hm hS; replace a0_2 := a0_2.md hm hS; replace uQ := uQ.md hm; replace M := M.step hm (all_cons p_h0 all_nil); clear h00 hS; obtain ⟨s22, es22⟩ : ∃ y, y = ({ f with now := q } : DFl) := ⟨_, rfl⟩; replace h0 : Blk _ _ (DFl.cells ({ f with now := q }) vq v0_1) _ := h0; rw [← es22] at h0; have oks22 : DFl.ok s22 := (by rw [es22]; exact (by unfold DFl.ok; first | exact a0_0 | (simp only; omega))); rw [show q = s22.now by rw [es22]] at f_q; rw [show f.safe = s22.safe by rw [es22]] at a0_2; refine nt ?_; refine ns ?_; obtain ⟨Q23, fQ, fT, f_qz⟩ := f_q.freeze; replace h2 := h2.sub (fun b hb _ => fQ b hb); replace a0_1 := a0_1.sub (fun b hb _ => fQ b hb); replace a0_2 := a0_2.sub (fun b hb _ => fQ b hb); replace n_h0 := fun hh => (fT _ hh).elim n_h0 (nfz (apart_ow f_q h0 (by decide))); replace tQ := fun b hb => (fT b hb).elim (tQ b) (fun hv => Fsh.up uQ0 b (f_q.2 b hv).1); replace sQ0 := fun b hb hl => fQ b (sQ0 b hb hl); replace uQ : Up w21 Q23 := fun b hb => fQ b (uQ b hb); clear f_q fQ fT; have f_q := f_qz; clear f_qz; refine asg rfl ?_; refine nt ?_; refine c_ret ?_; exact ret1L (v := (.int .i64 ((0 : Nat) : Int))) trivial rfl ⟨rfl, trivial⟩ ⟨0, s22, _, _, rfl, M, (by first | assumption | omega | simp_all), h0, n0, oks22, (f_q.sub (fun b hb _ => tQ b hb)), (a0_2.sub (fun b hb _ => tQ b hb)), (by rw [wd_ok (by omega) (by omega) (by omega), es22]; exact congrArg (fun q : List UInt8 => ((0 : Nat), ({ f with now := q } : DFl))) (wd_end i0_0 (by omega) i1_0 (by omega)).symm)⟩
end Go.Proofs.YtogcacggojjijaaGreat
namespace Go.Proofs.YtogcacggojjijaaGreat
open Go Go.Wk Go.RowKit
set_option linter.unusedVariables false
set_option linter.unusedSimpArgs false
attribute [local irreducible] wpList wpQuiet wpStill wpMix Code.wp Calls bodyPost
theorem fn82 : isFn Tryz.prog 82 = true := by kernel_rfl

theorem dDirty_any {w : World} {Q : Nat → Prop} (uQ : Up w Q) {b0 : Nat} {v0_0 : Value} {v0_1 : Value} (f : DFl) (h0 : Blk w b0 (DFl.cells f v0_0 v0_1) 78) (n0 : ¬ Q b0) (a0_0 : DFl.ok f) (a0_1 : Ls tB8 w Q v0_0 f.now) (a0_2 : Ls tB8 w Q v0_1 f.safe) (p0 : f.now.length ≤ 1000000) (p1 : f.safe.length ≤ 1000000) :
    Calls Tryz.prog 66 #[.pointer (some ⟨b0, 0, none⟩)] w fun en w' => ∃ u0 : Value, ∃ r0 : List Nat, ∃ Q' : Nat → Prop, en = .returned (u0) ∧ Md [] w w' ∧ NewQ w w' Q Q' ∧ Ow tNat 3 (Fsh [] w) w' Q' u0 r0 ∧ dirF f.now f.safe (secN f.now f.safe) = r0 := by
  have n_h0 := n0; have M := Md.refl [] w; have uQ0 := uQ; have tQ : ∀ b, Q b → Q b := fun _ h => h; have sQ0 : ∀ b, Q b → b < w.heap.size → Q b := fun _ h _ => h; refine enter (n := 39) Tryz.func66 rfl rfl rfl ?_; intro B; refine ns ?_; refine asg rfl ?_; refine nt ?_; refine ns ?_; refine asg rfl ?_; refine nt ?_; refine c_seq ?_; refine ns ?_; refine asg rfl ?_; refine nt ?_; refine c_block ?_; have sn : secN f.now f.safe = (max f.now.length f.safe.length + 511) / 512 := rfl; refine loop3 (fun (vo : Value) (o : List Nat) (k : Nat) => [(3, vo), (4, (.int .i64 ((k : Nat) : Int))), (0, (.pointer (some ⟨b0, 0, none⟩)))]) (fun (vo : Value) (o : List Nat) (k : Nat) w' => ∃ Q' : Nat → Prop, (∀ b, Q' b → Q b) ∧ (∀ b, Q b → b < w.heap.size → Q' b) ∧ Up w' Q' ∧ Md [] w w' ∧ Ow tNat 3 (Fsh [] w) w' Q' vo o ∧ Blk w' b0 (DFl.cells f v0_0 v0_1) 78 ∧ Ls tB8 w' Q' v0_0 f.now ∧ Ls tB8 w' Q' v0_1 f.safe ∧ ¬ Q' b0 ∧ o = dirF f.now f.safe k ∧ o.length ≤ k ∧ k ≤ secN f.now f.safe) (fun (vo : Value) (o : List Nat) (k : Nat) => secN f.now f.safe - k) (x0 := (.slice none 0 0)) (x1 := ([] : List Nat)) (x2 := 0) ?_ ?_ ?_
  · exact ⟨rfl, rfl, rfl, trivial⟩
  · exact ⟨Q, tQ, sQ0, uQ, M, (Ow.nil _ _ _ _ _), h0, a0_1, a0_2, n_h0, rfl, (by simp), (by omega)⟩
  · clear M uQ tQ sQ0 n_h0 a0_1 a0_2 h0
    rintro vo o k B w1 ⟨Q2, tQ, sQ0, uQ, M, f_o, h0, a0_1, a0_2, n_h0, i0_0, i0_1, i0_2⟩; refine c_seq ?_; refine c_seq ?_; have f_o_q := f_o; have h0_q := h0; have a0_1_q := a0_1; have a0_2_q := a0_2; refine c_mixT [(0, true), (1, true), (2, true), (3, true), (4, true), (5, true), (6, true), (7, true), (8, true), (9, true), (10, true), (11, true), (12, true)] [13] (fun w' => Md [] w1 w') mixed (by kernel_rfl) ?_; intro w3 hd0; refine ⟨hd0.mono (by simp), ?_⟩; have MC := hd0.mono (T := []) (by simp); refine Go.Wk.m _ (fun w' hc => r_move rfl) ?_; refine Go.Wk.m _ (fun w' hc => r_mulN (a := k) (b := 512) 9223372036854775808 rfl rfl rfl (by omega)) ?_; refine Go.Wk.m _ (fun w' hc => r_move rfl) ?_; refine Go.Wk.m _ (fun w' hc => r_nil rfl) ?_; refine Go.Wk.m _ (fun w' hc => r_field rfl off78_0) ?_; refine Go.Wk.m _ (fun w' hc => (r_loadBlk rfl one31 (h0_q.md0 hc) rfl).to (b := v0_0) rfl) ?_; refine Go.Wk.m _ (fun w' hc => r_len rfl u31 a0_1.shp) ?_; refine Go.Wk.m _ (fun w' hc => r_move rfl) ?_; refine Go.Wk.m _ (fun w' hc => r_nil rfl) ?_; refine Go.Wk.m _ (fun w' hc => r_field rfl off78_1) ?_; refine Go.Wk.m _ (fun w' hc => (r_loadBlk rfl one31 (h0_q.md0 hc) rfl).to (b := v0_1) rfl) ?_; refine Go.Wk.m _ (fun w' hc => r_len rfl u31 a0_2.shp) ?_; refine Go.Wk.m _ (fun w' hc => r_maxN (a := f.now.length) (b := f.safe.length) rfl rfl) ?_; refine m_nil ?_; replace f_o := f_o.md0 hd0; replace h0 := h0.md0 hd0; replace a0_1 := a0_1.md0 hd0; replace a0_2 := a0_2.md0 hd0; replace uQ := uQ.md hd0; replace M := M.step0 hd0; clear a0_1_q a0_2_q f_o_q h0_q; clear MC; refine st _ (r_ltN (a := (k * 512)) (b := (max f.now.length f.safe.length)) rfl rfl) ?_; refine nt ?_; refine c_if rfl (fun h18 => ?_) (fun h18 => ?_)
    · (first | (have h18n := of_decide_eq_true h18) | (have h18n := of_decide_eq_false (bnt h18)) | (have h18n := bnt h18) | (have h18n := h18)); refine c_skip ?_; refine c_then ?_; refine c_seq ?_; refine c_block ?_; refine c_seq ?_; have f_o_q := f_o; have h0_q := h0; have a0_1_q := a0_1; have a0_2_q := a0_2; refine c_mixT [(0, true), (1, true), (2, true), (3, true), (4, true), (6, true), (7, true), (8, true), (9, true), (10, true), (5, false)] [11, 12] (fun w' => Md [] w3 w') mixed (by kernel_rfl) ?_; intro w4 hd0; refine ⟨hd0.mono (by simp), ?_⟩; have MC := hd0.mono (T := []) (by simp); refine Go.Wk.m _ (fun w' hc => r_move rfl) ?_; refine Go.Wk.m _ (fun w' hc => r_nil rfl) ?_; refine Go.Wk.m _ (fun w' hc => r_field rfl off78_0) ?_; refine Go.Wk.m _ (fun w' hc => (r_loadBlk rfl one31 (h0_q.md0 hc) rfl).to (b := v0_0) rfl) ?_; refine Go.Wk.m _ (fun w' hc => r_move rfl) ?_; refine Go.Wk.m _ (fun w' hc => r_move rfl) ?_; refine Go.Wk.m _ (fun w' hc => r_nil rfl) ?_; refine Go.Wk.m _ (fun w' hc => r_field rfl off78_1) ?_; refine Go.Wk.m _ (fun w' hc => (r_loadBlk rfl one31 (h0_q.md0 hc) rfl).to (b := v0_1) rfl) ?_; refine Go.Wk.m _ (fun w' hc => r_move rfl) ?_; replace f_o := f_o.md0 hd0; replace h0 := h0.md0 hd0; replace a0_1 := a0_1.md0 hd0; replace a0_2 := a0_2.md0 hd0; replace uQ := uQ.md hd0; replace M := M.step0 hd0; refine m_e ?_ rfl; refine st_call fn82 rfl (dPart_any uQ a0_1 k (by first | omega | (simp <;> omega)) (by first | omega | (simp <;> omega) | (simp at * <;> omega)) (by first | omega | (simp <;> omega) | (simp at * <;> omega))) ?_; rintro en w5 ⟨x5_0, rfl, hm, hF5⟩; refine ⟨_, rfl, ?_⟩; replace f_o := f_o.md0 hm; replace h0 := h0.md0 hm; replace a0_1 := a0_1.md0 hm; replace a0_2 := a0_2.md0 hm; replace uQ := uQ.md hm; replace M := M.step0 hm; replace MC := MC.step0 hm; refine st_nil ⟨rfl, MC, ?_⟩; refine m_nil ?_; clear a0_1_q a0_2_q f_o_q h0_q; clear MC; refine st_call fn82 rfl (dPart_any uQ a0_2 k (by first | omega | (simp <;> omega)) (by first | omega | (simp <;> omega) | (simp at * <;> omega)) (by first | omega | (simp <;> omega) | (simp at * <;> omega))) ?_; rintro en w6 ⟨x6_0, rfl, hm, hF6⟩; refine ⟨_, rfl, ?_⟩; replace f_o := f_o.md0 hm; replace h0 := h0.md0 hm; replace a0_1 := a0_1.md0 hm; replace a0_2 := a0_2.md0 hm; replace uQ := uQ.md hm; replace M := M.step0 hm; refine st _ (r_neqS (a := x5_0) (b := x6_0) rfl rfl) ?_; refine nt ?_; refine c_if rfl (fun h33 => ?_) (fun h33 => ?_)
      · (first | (have h33n := of_decide_eq_true h33) | (have h33n := of_decide_eq_false (bnt h33)) | (have h33n := bnt h33) | (have h33n := h33)); refine c_region ?_; refine mv rfl ?_; refine mv rfl ?_; refine st_buildSliceG [[(.int .i64 ((k : Nat) : Int))]] u87 elT3 (by decide) (by decide) rfl rfl ⟨rfl, trivial⟩ ⟨rfl, trivial⟩ rfl (by decide) ?_; intro ba36 w7 ga36 la36 hm ha36; have ya36 := uQ _ ga36; replace f_o := f_o.md0 hm; replace h0 := h0.md0 hm; replace a0_1 := a0_1.md0 hm; replace a0_2 := a0_2.md0 hm; replace uQ := uQ.md hm; replace M := M.step0 hm; replace ha36 := Ls.of_blk (m := 1) (R := Q2) (T := tNat) (xs := [k]) ha36 ⟨_, _, rfl, ⟨rfl, (by omega)⟩, rfl⟩ rfl (by decide) ya36; refine st_ap (sz := 1) (by rfl) u87 elT3 rfl rfl f_o ha36 (fun _ h _ => h) uQ (Fsh.new M) (by first | omega | (simp <;> omega) | (simp at * <;> omega)) (by first | omega | (simp <;> omega) | (simp at * <;> omega)) ?_; intro v9 w10 Q11 sQ sT uQ2 hO8 hm hS _ hv2; have f_o0 := f_o; clear f_o; replace n_h0 := fun hh => n_h0 (sT _ hh); replace a0_1 := a0_1.sub sQ; replace a0_2 := a0_2.sub sQ; replace ha36 := ha36.sub sQ; replace tQ := fun b hb => tQ b (sT b hb); replace sQ0 := fun b hb hl => sQ b (sQ0 b hb hl) (Nat.lt_of_lt_of_le hl M.size); replace h0 := h0.md hm (apart_ow f_o0 h0 (by decide)); replace a0_1 := a0_1.md hm hS; replace a0_2 := a0_2.md hm hS; replace ha36 := ha36.md hm hS; replace uQ := uQ.md hm; replace M := M.stepO hm (fun b hb => (f_o0.2 b hb).1); clear uQ; have uQ := uQ2; clear uQ2 sQ sT hS hv2; refine asg rfl ?_; refine st_nil ?_; refine n_block ?_; refine c_then ?_; refine c_region ?_; refine mv rfl ?_; refine st _ (r_addN (a := k) (b := 1) 9223372036854775808 rfl rfl rfl (by omega)) ?_; refine asg rfl ?_; refine nt ?_; refine next3 (x0 := v9) (x1 := (o ++ ([k]))) (x2 := (k + 1)) (by omega) ⟨rfl, (fitI rfl (by omega)), rfl, trivial⟩ ⟨Q11, tQ, sQ0, uQ, M, hO8, h0, a0_1, a0_2, n_h0, (by rw [dirF, List.range_succ, List.filter_append, i0_0]; unfold dirF; simp; simp_all), (by simp; omega), (by omega)⟩
      · (first | (have h33n := of_decide_eq_false h33) | (have h33n := of_decide_eq_true (bnf h33)) | (have h33n := bnf h33) | (have h33n := h33)); refine c_skip ?_; refine n_block ?_; refine c_then ?_; refine c_region ?_; refine mv rfl ?_; refine st _ (r_addN (a := k) (b := 1) 9223372036854775808 rfl rfl rfl (by omega)) ?_; refine asg rfl ?_; refine nt ?_; refine next3 (x0 := vo) (x1 := o) (x2 := (k + 1)) (by omega) ⟨rfl, (fitI rfl (by omega)), rfl, trivial⟩ ⟨Q2, tQ, sQ0, uQ, M, f_o, h0, a0_1, a0_2, n_h0, (by rw [dirF, List.range_succ, List.filter_append, i0_0]; unfold dirF; simp; simp_all), (by omega), (by omega)⟩
    · (first | (have h18n := of_decide_eq_false h18) | (have h18n := of_decide_eq_true (bnf h18)) | (have h18n := bnf h18) | (have h18n := h18)); refine c_exit ?_; refine x_then ?_; refine x_then ?_; refine x_hit ?_; refine c_then ?_; refine ns ?_; refine mv rfl ?_; refine asg rfl ?_; refine nt ?_; refine c_ret ?_; exact ret1L (v := vo) trivial rfl ⟨rfl, trivial⟩ ⟨_, o, Q2, rfl, M, ⟨sQ0, tQ, uQ⟩, f_o, (by rw [i0_0, show k = secN f.now f.safe by omega])⟩
theorem dDirty_any_ls {w : World} {Q : Nat → Prop} (uQ : Up w Q) {b0 : Nat} {v0_0 : Value} {v0_1 : Value} (f : DFl) (h0 : Blk w b0 (DFl.cells f v0_0 v0_1) 78) (n0 : ¬ Q b0) (a0_0 : DFl.ok f) (a0_1 : Ls tB8 w Q v0_0 f.now) (a0_2 : Ls tB8 w Q v0_1 f.safe) (p0 : f.now.length ≤ 1000000) (p1 : f.safe.length ≤ 1000000) :
    Calls Tryz.prog 66 #[.pointer (some ⟨b0, 0, none⟩)] w fun en w' => ∃ u0 : Value, ∃ r0 : List Nat, en = .returned (u0) ∧ Md [] w w' ∧ Ls tNat w' Q u0 r0 ∧ dirF f.now f.safe (secN f.now f.safe) = r0 :=
  (dDirty_any uQ f h0 n0 a0_0 a0_1 a0_2 p0 p1).mono fun en w' ⟨u0, r0, Q2, he, hm, kq, k0, hF⟩ => ⟨u0, r0, he, hm, k0.ls kq.2.1 (Fsh.up uQ), hF⟩
end Go.Proofs.YtogcacggojjijaaGreat
namespace Go.Proofs.YtogcacggojjijaaGreat
open Go Go.Wk Go.RowKit
set_option linter.unusedVariables false
set_option linter.unusedSimpArgs false
attribute [local irreducible] wpList wpQuiet wpStill wpMix Code.wp Calls bodyPost
theorem fn66 : isFn Tryz.prog 66 = true := by kernel_rfl

def kpF (d : List Nat) (keep : List Bool) (k : Nat) : Nat → Bool
  | 0 => false
  | i + 1 => kpF d keep k i || (decide (d[i]? = some k) && keep.getD i false)
theorem kp_yes {d : List Nat} {keep : List Bool} {k i : Nat} (h : d[i]? = some k) (hk : keep.getD i false = true) : kpF d keep k (i + 1) = true := by rw [kpF, h, hk]; simp
theorem kp_no {d : List Nat} {keep : List Bool} {k i x : Nat} (h : d[i]? = some x) (hk : x ≠ k ∨ keep.getD i false = false) : kpF d keep k (i + 1) = kpF d keep k i := by
  rw [kpF, h]; rcases hk with hk | hk
  · rw [decide_eq_false (by simpa using hk)]; simp
  · rw [hk]; simp
theorem kp_iff {d : List Nat} {keep : List Bool} {k : Nat} : ∀ {n : Nat}, kpF d keep k n = true ↔ ∃ j, j < n ∧ d[j]? = some k ∧ keep.getD j false = true
  | 0 => ⟨fun h => by simp [kpF] at h, fun ⟨j, hj, _⟩ => absurd hj (Nat.not_lt_zero _)⟩
  | n + 1 => by
    rw [kpF, Bool.or_eq_true, kp_iff (n := n), Bool.and_eq_true, decide_eq_true_eq]
    constructor
    · rintro (⟨j, h1, h2⟩ | h)
      · exact ⟨j, by omega, h2⟩
      · exact ⟨n, Nat.lt_succ_self _, h⟩
    · rintro ⟨j, h1, h2⟩
      rcases Nat.lt_or_ge j n with h | h
      · exact .inl ⟨j, h, h2⟩
      · have : j = n := by omega
        subst this; exact .inr h2
theorem lost_iff {d : List Nat} {keep : List Bool} {k n : Nat} : k ∈ lostF d keep n ↔ ∃ j, j < n ∧ keep.getD j false = false ∧ d.getD j 0 = k := by
  unfold lostF; rw [List.mem_map]
  constructor
  · rintro ⟨j, hj, e⟩
    rw [List.mem_filter, List.mem_range] at hj; exact ⟨j, hj.1, by simpa using hj.2, e⟩
  · rintro ⟨j, h1, h2, e⟩
    exact ⟨j, List.mem_filter.2 ⟨List.mem_range.2 h1, by rw [h2]; rfl⟩, e⟩
theorem dir_nodup (b s : List UInt8) (n : Nat) : (dirF b s n).Nodup := by unfold dirF; exact List.nodup_range.sublist List.filter_sublist
theorem nodup_at {d : List Nat} (h : d.Nodup) {i j x : Nat} (hi : d[i]? = some x) (hj : d[j]? = some x) : i = j := by
  obtain ⟨l1, g1⟩ := List.getElem?_eq_some_iff.1 hi; obtain ⟨l2, g2⟩ := List.getElem?_eq_some_iff.1 hj; exact (List.getElem_inj h).1 (g1.trans g2.symm)
theorem kp_part {b s : List UInt8} {keep : List Bool} {k n N : Nat} {d : List Nat} (hd : d = dirF b s N) (hk : k < N) (hn : n = min d.length keep.length) : (if kpF d keep k n = true then secF b k else secF s k) = if k ∈ lostF d keep d.length then secF s k else secF b k := by
  have hnd : d.Nodup := hd ▸ dir_nodup b s N; by_cases hm : k ∈ d
  · obtain ⟨j, hj⟩ := List.mem_iff_getElem?.1 hm
    have hl := (List.getElem?_eq_some_iff.1 hj).1
    cases hq : keep.getD j false with
    | true =>
      have hkl : j < keep.length := Nat.lt_of_not_le fun h => by rw [List.getD_eq_getElem?_getD, List.getElem?_eq_none h] at hq; cases hq
      rw [if_pos (kp_iff.2 ⟨j, by omega, hj, hq⟩), if_neg]; intro hlo; obtain ⟨i, h1, h2, h3⟩ := lost_iff.1 hlo; have : d[i]? = some k := (by rw [List.getElem?_eq_getElem h1, ← h3, List.getD_eq_getElem?_getD, List.getElem?_eq_getElem h1]; rfl); rw [nodup_at hnd this hj, hq] at h2
      cases h2
    | false =>
      rw [if_neg, if_pos (lost_iff.2 ⟨j, hl, hq, by rw [List.getD_eq_getElem?_getD, hj]; rfl⟩)]; intro h; obtain ⟨i, h1, h2, h3⟩ := kp_iff.1 h; rw [nodup_at hnd h2 hj, hq] at h3
      cases h3
  · have e : secF b k = secF s k := by
      rw [hd] at hm; unfold dirF at hm; rw [List.mem_filter, not_and] at hm; have := hm (List.mem_range.2 hk); simpa using this
    rw [e, ite_self, ite_self]
theorem out_none {b s : List UInt8} {lost : List Nat} {k : Nat} {t p : List UInt8} (ht : t = if k ∈ lost then secF s k else secF b k) (h0 : t = []) (hp : p = outF b s lost k) : p = outF b s lost (k + 1) := by
  rw [outF, ← ht, if_pos (by rw [h0]; rfl), hp]
theorem out_some {b s : List UInt8} {lost : List Nat} {k : Nat} {t p q : List UInt8} (ht : t = if k ∈ lost then secF s k else secF b k) (h0 : t ≠ []) (hp : p = outF b s lost k) (hq : q = p ++ List.replicate (q.length - p.length) 0) (hl : q.length = k * 512) : q ++ t = outF b s lost (k + 1) := by
  rw [outF, ← ht, if_neg (by simpa using h0), ← hp, ← hl, ← hq]
set_option maxRecDepth 100000 in
theorem dCrash_any {w : World} {Q : Nat → Prop} (uQ : Up w Q) {b0 : Nat} {v0_0 : Value} {v0_1 : Value} (f : DFl) (h0 : Blk w b0 (DFl.cells f v0_0 v0_1) 78) (n0 : ¬ Q b0) (a0_0 : DFl.ok f) (a0_1 : Ls tB8 w Q v0_0 f.now) (a0_2 : Ls tB8 w Q v0_1 f.safe) {v1 : Value} {keep : List Bool} (h1 : Ls tBool w Q v1 keep) (p0 : f.now.length ≤ 1000000) (p1 : f.safe.length ≤ 1000000) :
    Calls Tryz.prog 67 #[.pointer (some ⟨b0, 0, none⟩), v1] w fun en w' => ∃ m0 : DFl, ∃ u50_0 : Value, ∃ u50_1 : Value, en = .returned (.tuple #[]) ∧ Md [b0] w w' ∧ Blk w' b0 (DFl.cells m0 u50_0 u50_1) 78 ∧ ¬ Q b0 ∧ DFl.ok m0 ∧ Ls tB8 w' Q u50_0 m0.now ∧ Ls tB8 w' Q u50_1 m0.safe ∧ ({ f with now := crashB f.now f.safe keep, safe := crashB f.now f.safe keep } : DFl) = m0 := by
  have L1 := h1.len63; have n_h0 := n0; have p_h0 : Fsh [b0] w b0 := .inl (by simp); have M := Md.refl [b0] w; have uQ0 := uQ; have tQ : ∀ b, Q b → Q b := fun _ h => h; have sQ0 : ∀ b, Q b → b < w.heap.size → Q b := fun _ h _ => h; refine enter (n := 84) Tryz.func67 rfl rfl rfl ?_; intro B; refine ns ?_; refine mv rfl ?_; refine st_call fn66 rfl (dDirty_any_ls uQ f h0 n_h0 a0_0 a0_1 a0_2 (by first | omega | (simp <;> omega) | (simp at * <;> omega)) (by first | omega | (simp <;> omega) | (simp at * <;> omega))) ?_; rintro en w1 ⟨v1_0, x1_0, rfl, hm, h1_0, hF1⟩; refine ⟨_, rfl, ?_⟩; replace a0_1 := a0_1.md0 hm; replace a0_2 := a0_2.md0 hm; replace h0 := h0.md0 hm; replace h1 := h1.md0 hm; replace uQ := uQ.md hm; replace M := M.step0 hm; refine asg rfl ?_; refine nt ?_; refine ns ?_; refine asg rfl ?_; refine nt ?_; refine c_seq ?_; refine ns ?_; refine asg rfl ?_; refine nt ?_; refine c_block ?_; have sn : secN f.now f.safe = (max f.now.length f.safe.length + 511) / 512 := rfl; have dl := dirF_len f.now f.safe (secN f.now f.safe); have dlt := h1_0.len63; have L1 := h1.len63; refine loop3 (fun (vp : Value) (p : List UInt8) (k : Nat) => [(5, vp), (6, (.int .i64 ((k : Nat) : Int))), (0, (.pointer (some ⟨b0, 0, none⟩))), (1, v1), (4, v1_0)]) (fun (vp : Value) (p : List UInt8) (k : Nat) w' => ∃ Q' : Nat → Prop, (∀ b, Q' b → Q b) ∧ (∀ b, Q b → b < w.heap.size → Q' b) ∧ Up w' Q' ∧ Md [b0] w w' ∧ Ow tB8 5 (Fsh [] w) w' Q' vp p ∧ Blk w' b0 (DFl.cells f v0_0 v0_1) 78 ∧ Ls tBool w' Q' v1 keep ∧ Ls tNat w' Q' v1_0 x1_0 ∧ Ls tB8 w' Q' v0_0 f.now ∧ Ls tB8 w' Q' v0_1 f.safe ∧ ¬ Q' b0 ∧ p = outF f.now f.safe (lostF x1_0 keep x1_0.length) k ∧ p.length ≤ k * 512 ∧ k ≤ secN f.now f.safe) (fun (vp : Value) (p : List UInt8) (k : Nat) => secN f.now f.safe - k) (x0 := (.slice none 0 0)) (x1 := ([] : List UInt8)) (x2 := 0) ?_ ?_ ?_
  · exact ⟨rfl, rfl, rfl, rfl, rfl, trivial⟩
  · exact ⟨Q, tQ, sQ0, uQ, M, (Ow.nil _ _ _ _ _), h0, h1, h1_0, a0_1, a0_2, n_h0, rfl, (by simp), (by omega)⟩
  · clear M uQ tQ sQ0 n_h0 a0_1 a0_2 h0 h1 h1_0
    rintro vp p k B w2 ⟨Q3, tQ, sQ0, uQ, M, f_p, h0, h1, h1_0, a0_1, a0_2, n_h0, i0_0, i0_1, i0_2⟩; refine c_seq ?_; refine c_seq ?_; have f_p_q := f_p; have h0_q := h0; have h1_q := h1; have h1_0_q := h1_0; have a0_1_q := a0_1; have a0_2_q := a0_2; refine c_mixT [(0, true), (1, true), (2, true), (3, true), (4, true), (5, true), (6, true), (7, true), (8, true), (9, true), (10, true), (11, true), (12, true)] [13] (fun w' => Md [] w2 w') mixed (by kernel_rfl) ?_; intro w4 hd0; refine ⟨hd0.mono (by simp), ?_⟩; have MC := hd0.mono (T := []) (by simp); refine Go.Wk.m _ (fun w' hc => r_move rfl) ?_; refine Go.Wk.m _ (fun w' hc => r_mulN (a := k) (b := 512) 9223372036854775808 rfl rfl rfl (by omega)) ?_; refine Go.Wk.m _ (fun w' hc => r_move rfl) ?_; refine Go.Wk.m _ (fun w' hc => r_nil rfl) ?_; refine Go.Wk.m _ (fun w' hc => r_field rfl off78_0) ?_; refine Go.Wk.m _ (fun w' hc => (r_loadBlk rfl one31 (h0_q.md0 hc) rfl).to (b := v0_0) rfl) ?_; refine Go.Wk.m _ (fun w' hc => r_len rfl u31 a0_1.shp) ?_; refine Go.Wk.m _ (fun w' hc => r_move rfl) ?_; refine Go.Wk.m _ (fun w' hc => r_nil rfl) ?_; refine Go.Wk.m _ (fun w' hc => r_field rfl off78_1) ?_; refine Go.Wk.m _ (fun w' hc => (r_loadBlk rfl one31 (h0_q.md0 hc) rfl).to (b := v0_1) rfl) ?_; refine Go.Wk.m _ (fun w' hc => r_len rfl u31 a0_2.shp) ?_; refine Go.Wk.m _ (fun w' hc => r_maxN (a := f.now.length) (b := f.safe.length) rfl rfl) ?_; refine m_nil ?_; replace f_p := f_p.md0 hd0; replace h0 := h0.md0 hd0; replace h1 := h1.md0 hd0; replace h1_0 := h1_0.md0 hd0; replace a0_1 := a0_1.md0 hd0; replace a0_2 := a0_2.md0 hd0; replace uQ := uQ.md hd0; replace M := M.step0 hd0; clear f_p_q h1_q h0_q a0_1_q a0_2_q h1_0_q; clear MC; refine st _ (r_ltN (a := (k * 512)) (b := (max f.now.length f.safe.length)) rfl rfl) ?_; refine nt ?_; refine c_if rfl (fun h24 => ?_) (fun h24 => ?_)
    · (first | (have h24n := of_decide_eq_true h24) | (have h24n := of_decide_eq_false (bnt h24)) | (have h24n := bnt h24) | (have h24n := h24)); refine c_skip ?_; refine c_then ?_; refine c_seq ?_; refine c_block ?_; refine ns ?_; refine mv rfl ?_; refine st _ (r_nil rfl) ?_; refine st _ (r_field rfl off78_1) ?_; refine st _ ((r_loadBlk rfl one31 h0 rfl).to (b := v0_1) rfl) ?_; refine mv rfl ?_; refine st_call fn82 rfl (dPart_any uQ a0_2 k (by first | omega | (simp <;> omega)) (by first | omega | (simp <;> omega) | (simp at * <;> omega)) (by first | omega | (simp <;> omega) | (simp at * <;> omega))) ?_; rintro en w5 ⟨x5_0, rfl, hm, hF5⟩; refine ⟨_, rfl, ?_⟩; replace f_p := f_p.md0 hm; replace h0 := h0.md0 hm; replace h1 := h1.md0 hm; replace h1_0 := h1_0.md0 hm; replace a0_1 := a0_1.md0 hm; replace a0_2 := a0_2.md0 hm; replace uQ := uQ.md hm; replace M := M.step0 hm; refine asg rfl ?_; refine nt ?_; refine c_seq ?_; refine ns ?_; refine asg rfl ?_; refine nt ?_; refine c_block ?_; refine loop2 (fun (s : List UInt8) (i : Nat) => [(7, (str s)), (8, (.int .i64 ((i : Nat) : Int))), (0, (.pointer (some ⟨b0, 0, none⟩))), (1, v1), (4, v1_0), (5, vp), (6, (.int .i64 ((k : Nat) : Int)))]) (fun (s : List UInt8) (i : Nat) w' => ∃ Q' : Nat → Prop, (∀ b, Q' b → Q b) ∧ (∀ b, Q b → b < w.heap.size → Q' b) ∧ Up w' Q' ∧ Md [b0] w w' ∧ Blk w' b0 (DFl.cells f v0_0 v0_1) 78 ∧ Ls tBool w' Q' v1 keep ∧ Ls tNat w' Q' v1_0 x1_0 ∧ Ow tB8 5 (Fsh [] w) w' Q' vp p ∧ Ls tB8 w' Q' v0_0 f.now ∧ Ls tB8 w' Q' v0_1 f.safe ∧ ¬ Q' b0 ∧ (s = (if kpF x1_0 keep k i = true then secF f.now k else secF f.safe k)) ∧ i ≤ x1_0.length ∧ i ≤ keep.length) (fun (s : List UInt8) (i : Nat) => x1_0.length - i) (x0 := x5_0) (x1 := 0) ?_ ?_ ?_
      · exact ⟨rfl, rfl, rfl, rfl, rfl, rfl, rfl, trivial⟩
      · exact ⟨Q3, tQ, sQ0, uQ, M, h0, h1, h1_0, f_p, a0_1, a0_2, n_h0, (by rw [← hF5]; rfl), (by omega), (by omega)⟩
      · clear M uQ tQ sQ0 n_h0 f_p h0 h1 h1_0 a0_1 a0_2
        rintro s i B w6 ⟨Q7, tQ, sQ0, uQ, M, h0, h1, h1_0, f_p, a0_1, a0_2, n_h0, i1_0, i1_1, i1_2⟩; refine c_seq ?_; refine ns ?_; refine mv rfl ?_; refine mv rfl ?_; refine st _ (r_len rfl u87 h1_0.shp) ?_; refine st _ (r_ltN (a := i) (b := x1_0.length) rfl rfl) ?_; refine mv rfl ?_; refine part_n (t := 37) rfl (fun h37 => ?_) (fun h37 => ?_)
        · (first | (have h37n := of_decide_eq_true h37) | (have h37n := of_decide_eq_false (bnt h37)) | (have h37n := bnt h37) | (have h37n := h37)); refine st_g _ rfl rfl rfl h37 (r_move rfl) ?_; refine st_g _ rfl rfl rfl h37 (r_move rfl) ?_; refine st_g _ rfl rfl rfl h37 (r_len rfl u32 h1.shp) ?_; refine st_g _ rfl rfl rfl h37 (r_ltN (a := i) (b := keep.length) rfl rfl) ?_; refine st _ (r_pick_t rfl h37 rfl) ?_; refine nt ?_; refine c_if rfl (fun h42 => ?_) (fun h42 => ?_)
          · (first | (have h42n := of_decide_eq_true h42) | (have h42n := of_decide_eq_false (bnt h42)) | (have h42n := bnt h42) | (have h42n := h42)); refine c_skip ?_; refine c_then ?_; refine c_seq ?_; refine c_block ?_; refine ns ?_; refine mv rfl ?_; refine mv rfl ?_; refine st _ (r_indexN (i := i) 1 rfl rfl u87 el3 h1_0.shp (by omega)) ?_; obtain ⟨x8, hx8⟩ := getE (l := x1_0) (i := i) (by first | omega | (simp <;> omega)); obtain ⟨c9, hr8, ha8⟩ := h1_0.get hx8; obtain ⟨rfl, hr8b⟩ := hr8; replace ha8 : At _ v1_0 (i * 1) [(.int .i64 ((x8 : Nat) : Int))] := ha8; refine st _ ((r_loadE (kk := i * 1) 0 rfl rfl one3 ha8 rfl).to (b := (.int .i64 ((x8 : Nat) : Int))) rfl) ?_; refine mv rfl ?_; refine st _ (r_eqN (a := x8) (b := k) rfl rfl) ?_; refine mv rfl ?_; refine part_n (t := 51) rfl (fun h51 => ?_) (fun h51 => ?_)
            · (first | (have h51n := of_decide_eq_true h51) | (have h51n := of_decide_eq_false (bnt h51)) | (have h51n := bnt h51) | (have h51n := h51)); refine st_g _ rfl rfl rfl h51 (r_move rfl) ?_; refine st_g _ rfl rfl rfl h51 (r_move rfl) ?_; refine st_g _ rfl rfl rfl h51 (r_indexN (i := i) 1 rfl rfl u32 el4 h1.shp (by omega)) ?_; obtain ⟨x10, hx10⟩ := getE (l := keep) (i := i) (by first | omega | (simp <;> omega)); obtain ⟨c11, hr10, ha10⟩ := h1.get hx10; obtain ⟨rfl, _⟩ := hr10; replace ha10 : At _ v1 (i * 1) [(.bool x10)] := ha10; refine st_g _ rfl rfl rfl h51 ((r_loadE (kk := i * 1) 0 rfl rfl one4 ha10 rfl).to (b := (.bool x10)) rfl) ?_; refine st _ (r_pick_t rfl h51 rfl) ?_; refine st_nil ?_; clear ha8; clear ha10; refine c_then ?_; refine c_if rfl (fun h56 => ?_) (fun h56 => ?_)
              · (first | (have h56n := of_decide_eq_true h56) | (have h56n := of_decide_eq_false (bnt h56)) | (have h56n := bnt h56) | (have h56n := h56)); refine c_region ?_; refine mv rfl ?_; refine st _ (r_nil rfl) ?_; refine st _ (r_field rfl off78_0) ?_; refine st _ ((r_loadBlk rfl one31 h0 rfl).to (b := v0_0) rfl) ?_; refine mv rfl ?_; refine st_call fn82 rfl (dPart_any uQ a0_1 k (by first | omega | (simp <;> omega)) (by first | omega | (simp <;> omega) | (simp at * <;> omega)) (by first | omega | (simp <;> omega) | (simp at * <;> omega))) ?_; rintro en w12 ⟨x12_0, rfl, hm, hF12⟩; refine ⟨_, rfl, ?_⟩; replace h0 := h0.md0 hm; replace h1 := h1.md0 hm; replace h1_0 := h1_0.md0 hm; replace f_p := f_p.md0 hm; replace a0_1 := a0_1.md0 hm; replace a0_2 := a0_2.md0 hm; replace uQ := uQ.md hm; replace M := M.step0 hm; refine asg rfl ?_; refine st_nil ?_; refine n_block ?_; refine c_then ?_; refine c_region ?_; refine mv rfl ?_; refine st _ (r_addN (a := i) (b := 1) 9223372036854775808 rfl rfl rfl (by omega)) ?_; refine asg rfl ?_; refine nt ?_; refine next2 (x0 := x12_0) (x1 := (i + 1)) (by omega) ⟨rfl, (fitI rfl (by omega)), rfl, rfl, rfl, rfl, rfl, trivial⟩ ⟨Q7, tQ, sQ0, uQ, M, h0, h1, h1_0, f_p, a0_1, a0_2, n_h0, (by rw [if_pos (kp_yes (by simp_all) (keep_in (by simp_all)))]; exact hF12.symm), (by omega), (by omega)⟩
              · (first | (have h56n := of_decide_eq_false h56) | (have h56n := of_decide_eq_true (bnf h56)) | (have h56n := bnf h56) | (have h56n := h56)); refine c_skip ?_; refine n_block ?_; refine c_then ?_; refine c_region ?_; refine mv rfl ?_; refine st _ (r_addN (a := i) (b := 1) 9223372036854775808 rfl rfl rfl (by omega)) ?_; refine asg rfl ?_; refine nt ?_; refine next2 (x0 := s) (x1 := (i + 1)) (by omega) ⟨rfl, (fitI rfl (by omega)), rfl, rfl, rfl, rfl, rfl, trivial⟩ ⟨Q7, tQ, sQ0, uQ, M, h0, h1, h1_0, f_p, a0_1, a0_2, n_h0, (by rw [i1_0, kp_no hx8 (by first | (left; simp_all; done) | (right; have e := keep_in hx10; simp_all))]), (by omega), (by omega)⟩
            · (first | (have h51n := of_decide_eq_false h51) | (have h51n := of_decide_eq_true (bnf h51)) | (have h51n := bnf h51) | (have h51n := h51)); refine st_skip rfl rfl rfl h51 ?_; refine st_skip rfl rfl rfl h51 ?_; refine st_skip rfl rfl rfl h51 ?_; refine st_skip rfl rfl rfl h51 ?_; refine st _ (r_pick_f rfl h51 rfl) ?_; refine st_nil ?_; clear ha8; refine c_then ?_; refine c_if_f rfl rfl ?_; refine c_skip ?_; refine n_block ?_; refine c_then ?_; refine c_region ?_; refine mv rfl ?_; refine st _ (r_addN (a := i) (b := 1) 9223372036854775808 rfl rfl rfl (by omega)) ?_; refine asg rfl ?_; refine nt ?_; refine next2 (x0 := s) (x1 := (i + 1)) (by omega) ⟨rfl, (fitI rfl (by omega)), rfl, rfl, rfl, rfl, rfl, trivial⟩ ⟨Q7, tQ, sQ0, uQ, M, h0, h1, h1_0, f_p, a0_1, a0_2, n_h0, (by rw [i1_0, kp_no hx8 (by first | (left; simp_all; done) | (right; have e := keep_in hx8; simp_all))]), (by omega), (by omega)⟩
          · (first | (have h42n := of_decide_eq_false h42) | (have h42n := of_decide_eq_true (bnf h42)) | (have h42n := bnf h42) | (have h42n := h42)); refine c_exit ?_; refine x_then ?_; refine x_then ?_; refine x_hit ?_; refine c_then ?_; refine c_seq ?_; refine ns ?_; have pt := kp_part hF1.symm (k := k) (keep := keep) (n := i) (by omega) (by omega); rw [← i1_0] at pt; have ptl : s.length ≤ 512 := (by rw [i1_0]; split <;> exact secF_len _ _); refine mv rfl ?_; refine st _ (r_eqlS (a := s) (b := (([] : List UInt8))) rfl rfl) ?_; refine nt ?_; refine c_if rfl (fun h64 => ?_) (fun h64 => ?_)
            · (first | (have h64n := of_decide_eq_true h64) | (have h64n := of_decide_eq_false (bnt h64)) | (have h64n := bnt h64) | (have h64n := h64)); refine c_exit ?_; refine x_then ?_; refine x_hit ?_; refine c_then ?_; refine c_region ?_; refine mv rfl ?_; refine st _ (r_addN (a := k) (b := 1) 9223372036854775808 rfl rfl rfl (by omega)) ?_; refine asg rfl ?_; refine nt ?_; refine next3 (x0 := vp) (x1 := p) (x2 := (k + 1)) (by omega) ⟨rfl, (fitI rfl (by omega)), rfl, rfl, rfl, trivial⟩ ⟨Q7, tQ, sQ0, uQ, M, f_p, h0, h1, h1_0, a0_1, a0_2, n_h0, (out_none pt (by first | assumption | exact h64n | simpa using h64) i0_0), (by omega), (by omega)⟩
            · (first | (have h64n := of_decide_eq_false h64) | (have h64n := of_decide_eq_true (bnf h64)) | (have h64n := bnf h64) | (have h64n := h64)); refine c_skip ?_; refine c_then ?_; refine c_seq ?_; refine c_block ?_; refine loop2 (fun (vq : Value) (q : List UInt8) => [(5, vq), (0, (.pointer (some ⟨b0, 0, none⟩))), (1, v1), (4, v1_0), (6, (.int .i64 ((k : Nat) : Int))), (7, (str s))]) (fun (vq : Value) (q : List UInt8) w' => ∃ Q' : Nat → Prop, (∀ b, Q' b → Q b) ∧ (∀ b, Q b → b < w.heap.size → Q' b) ∧ Up w' Q' ∧ Md [b0] w w' ∧ Ow tB8 5 (Fsh [] w) w' Q' vq q ∧ Blk w' b0 (DFl.cells f v0_0 v0_1) 78 ∧ Ls tBool w' Q' v1 keep ∧ Ls tNat w' Q' v1_0 x1_0 ∧ Ls tB8 w' Q' v0_0 f.now ∧ Ls tB8 w' Q' v0_1 f.safe ∧ ¬ Q' b0 ∧ q = p ++ List.replicate (q.length - p.length) 0 ∧ p.length ≤ q.length ∧ q.length ≤ k * 512) (fun (vq : Value) (q : List UInt8) => k * 512 - q.length) (x0 := vp) (x1 := p) ?_ ?_ ?_
              · exact ⟨rfl, rfl, rfl, rfl, rfl, rfl, trivial⟩
              · exact ⟨Q7, tQ, sQ0, uQ, M, f_p, h0, h1, h1_0, a0_1, a0_2, n_h0, (by simp), (by omega), (by omega)⟩
              · clear M uQ tQ sQ0 n_h0 h0 h1 h1_0 f_p a0_1 a0_2
                rintro vq q B w13 ⟨Q14, tQ, sQ0, uQ, M, f_q, h0, h1, h1_0, a0_1, a0_2, n_h0, i2_0, i2_1, i2_2⟩; refine c_seq ?_; refine ns ?_; refine mv rfl ?_; refine st _ (r_len rfl u31 f_q.shp) ?_; refine mv rfl ?_; refine st _ (r_mulN (a := k) (b := 512) 9223372036854775808 rfl rfl rfl (by omega)) ?_; refine st _ (r_ltN (a := q.length) (b := (k * 512)) rfl rfl) ?_; refine nt ?_; refine c_if rfl (fun h69 => ?_) (fun h69 => ?_)
                · (first | (have h69n := of_decide_eq_true h69) | (have h69n := of_decide_eq_false (bnt h69)) | (have h69n := bnt h69) | (have h69n := h69)); refine c_skip ?_; refine c_then ?_; refine c_block ?_; refine c_region ?_; refine mv rfl ?_; refine st_buildSliceG [[(b8 0)]] u31 elT5 (by decide) (by decide) rfl rfl ⟨rfl, trivial⟩ ⟨rfl, trivial⟩ rfl (by decide) ?_; intro ba71 w15 ga71 la71 hm ha71; have ya71 := uQ _ ga71; replace f_q := f_q.md0 hm; replace h0 := h0.md0 hm; replace h1 := h1.md0 hm; replace h1_0 := h1_0.md0 hm; replace a0_1 := a0_1.md0 hm; replace a0_2 := a0_2.md0 hm; replace uQ := uQ.md hm; replace M := M.step0 hm; replace ha71 := Ls.of_blk (m := 1) (R := Q14) (T := tB8) (xs := [0]) ha71 ⟨_, _, rfl, ⟨rfl, trivial⟩, rfl⟩ rfl (by decide) ya71; refine st_ap (sz := 1) (by rfl) u31 elT5 rfl rfl f_q ha71 (fun _ h _ => h) uQ (Fsh.new M) (by first | omega | (simp <;> omega) | (simp at * <;> omega)) (by first | omega | (simp <;> omega) | (simp at * <;> omega)) ?_; intro v17 w18 Q19 sQ sT uQ2 hO16 hm hS _ hv2; have f_q0 := f_q; clear f_q; replace n_h0 := fun hh => n_h0 (sT _ hh); replace h1 := h1.sub sQ; replace h1_0 := h1_0.sub sQ; replace a0_1 := a0_1.sub sQ; replace a0_2 := a0_2.sub sQ; replace ha71 := ha71.sub sQ; replace tQ := fun b hb => tQ b (sT b hb); replace sQ0 := fun b hb hl => sQ b (sQ0 b hb hl) (Nat.lt_of_lt_of_le hl M.size); replace h0 := h0.md hm (apart_ow f_q0 h0 (by decide)); replace h1 := h1.md hm hS; replace h1_0 := h1_0.md hm hS; replace a0_1 := a0_1.md hm hS; replace a0_2 := a0_2.md hm hS; replace ha71 := ha71.md hm hS; replace uQ := uQ.md hm; replace M := M.stepO hm (fun b hb => Fsh.wid (f_q0.2 b hb).1); clear uQ; have uQ := uQ2; clear uQ2 sQ sT hS hv2; have gl : (q ++ [(0 : UInt8)]).length = q.length + 1 := (by simp); refine asg rfl ?_; refine st_nil ?_; refine n_block ?_; refine c_then ?_; refine next2 (x0 := v17) (x1 := (q ++ ([0]))) (by omega) ⟨rfl, rfl, rfl, rfl, rfl, rfl, trivial⟩ ⟨Q19, tQ, sQ0, uQ, M, hO16, h0, h1, h1_0, a0_1, a0_2, n_h0, (wd_grow i2_0 i2_1), (by simp; omega), (by simp; omega)⟩
                · (first | (have h69n := of_decide_eq_false h69) | (have h69n := of_decide_eq_true (bnf h69)) | (have h69n := bnf h69) | (have h69n := h69)); refine c_exit ?_; refine x_then ?_; refine x_then ?_; refine x_hit ?_; refine c_then ?_; refine c_region ?_; refine mv rfl ?_; refine mv rfl ?_; refine st_apS u31 u9 elT5 (by kernel_rfl) rfl rfl f_q uQ (Fsh.new M) (by first | omega | (simp <;> omega) | (simp at * <;> omega)) ?_; intro v21 w22 Q23 sQ sT uQ2 hO20 hm hS _ hv2; have f_q0 := f_q; clear f_q; replace n_h0 := fun hh => n_h0 (sT _ hh); replace h1 := h1.sub sQ; replace h1_0 := h1_0.sub sQ; replace a0_1 := a0_1.sub sQ; replace a0_2 := a0_2.sub sQ; replace tQ := fun b hb => tQ b (sT b hb); replace sQ0 := fun b hb hl => sQ b (sQ0 b hb hl) (Nat.lt_of_lt_of_le hl M.size); replace h0 := h0.md hm (apart_ow f_q0 h0 (by decide)); replace h1 := h1.md hm hS; replace h1_0 := h1_0.md hm hS; replace a0_1 := a0_1.md hm hS; replace a0_2 := a0_2.md hm hS; replace uQ := uQ.md hm; replace M := M.stepO hm (fun b hb => Fsh.wid (f_q0.2 b hb).1); clear uQ; have uQ := uQ2; clear uQ2 sQ sT hS hv2; refine asg rfl ?_; refine st_nil ?_; refine n_block ?_; refine c_then ?_; refine c_region ?_; refine mv rfl ?_; refine st _ (r_addN (a := k) (b := 1) 9223372036854775808 rfl rfl rfl (by omega)) ?_; refine asg rfl ?_; refine nt ?_; refine next3 (x0 := v21) (x1 := (q ++ s)) (x2 := (k + 1)) (by omega) ⟨rfl, (fitI rfl (by omega)), rfl, rfl, rfl, trivial⟩ ⟨Q23, tQ, sQ0, uQ, M, hO20, h0, h1, h1_0, a0_1, a0_2, n_h0, (out_some pt (by first | assumption | exact h64n | (intro h; simp [h] at h64)) i0_0 i2_0 (by omega)), (by simp; omega), (by omega)⟩
        · (first | (have h37n := of_decide_eq_false h37) | (have h37n := of_decide_eq_true (bnf h37)) | (have h37n := bnf h37) | (have h37n := h37)); refine st_skip rfl rfl rfl h37 ?_; refine st_skip rfl rfl rfl h37 ?_; refine st_skip rfl rfl rfl h37 ?_; refine st_skip rfl rfl rfl h37 ?_; refine st _ (r_pick_f rfl h37 rfl) ?_; refine nt ?_; refine c_if_f rfl rfl ?_; refine c_exit ?_; refine x_then ?_; refine x_then ?_; refine x_hit ?_; refine c_then ?_; refine c_seq ?_; refine ns ?_; have pt := kp_part hF1.symm (k := k) (keep := keep) (n := i) (by omega) (by omega); rw [← i1_0] at pt; have ptl : s.length ≤ 512 := (by rw [i1_0]; split <;> exact secF_len _ _); refine mv rfl ?_; refine st _ (r_eqlS (a := s) (b := (([] : List UInt8))) rfl rfl) ?_; refine nt ?_; refine c_if rfl (fun h64 => ?_) (fun h64 => ?_)
          · (first | (have h64n := of_decide_eq_true h64) | (have h64n := of_decide_eq_false (bnt h64)) | (have h64n := bnt h64) | (have h64n := h64)); refine c_exit ?_; refine x_then ?_; refine x_hit ?_; refine c_then ?_; refine c_region ?_; refine mv rfl ?_; refine st _ (r_addN (a := k) (b := 1) 9223372036854775808 rfl rfl rfl (by omega)) ?_; refine asg rfl ?_; refine nt ?_; refine next3 (x0 := vp) (x1 := p) (x2 := (k + 1)) (by omega) ⟨rfl, (fitI rfl (by omega)), rfl, rfl, rfl, trivial⟩ ⟨Q7, tQ, sQ0, uQ, M, f_p, h0, h1, h1_0, a0_1, a0_2, n_h0, (out_none pt (by first | assumption | exact h64n | simpa using h64) i0_0), (by omega), (by omega)⟩
          · (first | (have h64n := of_decide_eq_false h64) | (have h64n := of_decide_eq_true (bnf h64)) | (have h64n := bnf h64) | (have h64n := h64)); refine c_skip ?_; refine c_then ?_; refine c_seq ?_; refine c_block ?_; refine loop2 (fun (vq : Value) (q : List UInt8) => [(5, vq), (0, (.pointer (some ⟨b0, 0, none⟩))), (1, v1), (4, v1_0), (6, (.int .i64 ((k : Nat) : Int))), (7, (str s))]) (fun (vq : Value) (q : List UInt8) w' => ∃ Q' : Nat → Prop, (∀ b, Q' b → Q b) ∧ (∀ b, Q b → b < w.heap.size → Q' b) ∧ Up w' Q' ∧ Md [b0] w w' ∧ Ow tB8 5 (Fsh [] w) w' Q' vq q ∧ Blk w' b0 (DFl.cells f v0_0 v0_1) 78 ∧ Ls tBool w' Q' v1 keep ∧ Ls tNat w' Q' v1_0 x1_0 ∧ Ls tB8 w' Q' v0_0 f.now ∧ Ls tB8 w' Q' v0_1 f.safe ∧ ¬ Q' b0 ∧ q = p ++ List.replicate (q.length - p.length) 0 ∧ p.length ≤ q.length ∧ q.length ≤ k * 512) (fun (vq : Value) (q : List UInt8) => k * 512 - q.length) (x0 := vp) (x1 := p) ?_ ?_ ?_
            · exact ⟨rfl, rfl, rfl, rfl, rfl, rfl, trivial⟩
            · exact ⟨Q7, tQ, sQ0, uQ, M, f_p, h0, h1, h1_0, a0_1, a0_2, n_h0, (by simp), (by omega), (by omega)⟩
            · clear M uQ tQ sQ0 n_h0 h0 h1 h1_0 f_p a0_1 a0_2
              rintro vq q B w24 ⟨Q25, tQ, sQ0, uQ, M, f_q, h0, h1, h1_0, a0_1, a0_2, n_h0, i2_0, i2_1, i2_2⟩; refine c_seq ?_; refine ns ?_; refine mv rfl ?_; refine st _ (r_len rfl u31 f_q.shp) ?_; refine mv rfl ?_; refine st _ (r_mulN (a := k) (b := 512) 9223372036854775808 rfl rfl rfl (by omega)) ?_; refine st _ (r_ltN (a := q.length) (b := (k * 512)) rfl rfl) ?_; refine nt ?_; refine c_if rfl (fun h69 => ?_) (fun h69 => ?_)
              · (first | (have h69n := of_decide_eq_true h69) | (have h69n := of_decide_eq_false (bnt h69)) | (have h69n := bnt h69) | (have h69n := h69)); refine c_skip ?_; refine c_then ?_; refine c_block ?_; refine c_region ?_; refine mv rfl ?_; refine st_buildSliceG [[(b8 0)]] u31 elT5 (by decide) (by decide) rfl rfl ⟨rfl, trivial⟩ ⟨rfl, trivial⟩ rfl (by decide) ?_; intro ba71 w26 ga71 la71 hm ha71; have ya71 := uQ _ ga71; replace f_q := f_q.md0 hm; replace h0 := h0.md0 hm; replace h1 := h1.md0 hm; replace h1_0 := h1_0.md0 hm; replace a0_1 := a0_1.md0 hm; replace a0_2 := a0_2.md0 hm; replace uQ := uQ.md hm; replace M := M.step0 hm; replace ha71 := Ls.of_blk (m := 1) (R := Q25) (T := tB8) (xs := [0]) ha71 ⟨_, _, rfl, ⟨rfl, trivial⟩, rfl⟩ rfl (by decide) ya71; refine st_ap (sz := 1) (by rfl) u31 elT5 rfl rfl f_q ha71 (fun _ h _ => h) uQ (Fsh.new M) (by first | omega | (simp <;> omega) | (simp at * <;> omega)) (by first | omega | (simp <;> omega) | (simp at * <;> omega)) ?_; intro v28 w29 Q30 sQ sT uQ2 hO27 hm hS _ hv2; have f_q0 := f_q; clear f_q; replace n_h0 := fun hh => n_h0 (sT _ hh); replace h1 := h1.sub sQ; replace h1_0 := h1_0.sub sQ; replace a0_1 := a0_1.sub sQ; replace a0_2 := a0_2.sub sQ; replace ha71 := ha71.sub sQ; replace tQ := fun b hb => tQ b (sT b hb); replace sQ0 := fun b hb hl => sQ b (sQ0 b hb hl) (Nat.lt_of_lt_of_le hl M.size); replace h0 := h0.md hm (apart_ow f_q0 h0 (by decide)); replace h1 := h1.md hm hS; replace h1_0 := h1_0.md hm hS; replace a0_1 := a0_1.md hm hS; replace a0_2 := a0_2.md hm hS; replace ha71 := ha71.md hm hS; replace uQ := uQ.md hm; replace M := M.stepO hm (fun b hb => Fsh.wid (f_q0.2 b hb).1); clear uQ; have uQ := uQ2; clear uQ2 sQ sT hS hv2; have gl : (q ++ [(0 : UInt8)]).length = q.length + 1 := (by simp); refine asg rfl ?_; refine st_nil ?_; refine n_block ?_; refine c_then ?_; refine next2 (x0 := v28) (x1 := (q ++ ([0]))) (by omega) ⟨rfl, rfl, rfl, rfl, rfl, rfl, trivial⟩ ⟨Q30, tQ, sQ0, uQ, M, hO27, h0, h1, h1_0, a0_1, a0_2, n_h0, (wd_grow i2_0 i2_1), (by simp; omega), (by simp; omega)⟩
              · (first | (have h69n := of_decide_eq_false h69) | (have h69n := of_decide_eq_true (bnf h69)) | (have h69n := bnf h69) | (have h69n := h69)); refine c_exit ?_; refine x_then ?_; refine x_then ?_; refine x_hit ?_; refine c_then ?_; refine c_region ?_; refine mv rfl ?_; refine mv rfl ?_; refine st_apS u31 u9 elT5 (by kernel_rfl) rfl rfl f_q uQ (Fsh.new M) (by first | omega | (simp <;> omega) | (simp at * <;> omega)) ?_; intro v32 w33 Q34 sQ sT uQ2 hO31 hm hS _ hv2; have f_q0 := f_q; clear f_q; replace n_h0 := fun hh => n_h0 (sT _ hh); replace h1 := h1.sub sQ; replace h1_0 := h1_0.sub sQ; replace a0_1 := a0_1.sub sQ; replace a0_2 := a0_2.sub sQ; replace tQ := fun b hb => tQ b (sT b hb); replace sQ0 := fun b hb hl => sQ b (sQ0 b hb hl) (Nat.lt_of_lt_of_le hl M.size); replace h0 := h0.md hm (apart_ow f_q0 h0 (by decide)); replace h1 := h1.md hm hS; replace h1_0 := h1_0.md hm hS; replace a0_1 := a0_1.md hm hS; replace a0_2 := a0_2.md hm hS; replace uQ := uQ.md hm; replace M := M.stepO hm (fun b hb => Fsh.wid (f_q0.2 b hb).1); clear uQ; have uQ := uQ2; clear uQ2 sQ sT hS hv2; refine asg rfl ?_; refine st_nil ?_; refine n_block ?_; refine c_then ?_; refine c_region ?_; refine mv rfl ?_; refine st _ (r_addN (a := k) (b := 1) 9223372036854775808 rfl rfl rfl (by omega)) ?_; refine asg rfl ?_; refine nt ?_; refine next3 (x0 := v32) (x1 := (q ++ s)) (x2 := (k + 1)) (by omega) ⟨rfl, (fitI rfl (by omega)), rfl, rfl, rfl, trivial⟩ ⟨Q34, tQ, sQ0, uQ, M, hO31, h0, h1, h1_0, a0_1, a0_2, n_h0, (out_some pt (by first | assumption | exact h64n | (intro h; simp [h] at h64)) i0_0 i2_0 (by omega)), (by simp; omega), (by omega)⟩
    · (first | (have h24n := of_decide_eq_false h24) | (have h24n := of_decide_eq_true (bnf h24)) | (have h24n := bnf h24) | (have h24n := h24)); refine c_exit ?_; refine x_then ?_; refine x_then ?_; refine x_hit ?_; refine c_then ?_; refine c_region ?_; have pe : p = crashB f.now f.safe keep := (by rw [i0_0, show k = secN f.now f.safe by omega]; unfold crashB; rw [← hF1]); obtain ⟨Q35, fQ, fT, f_pz⟩ := f_p.freeze; replace n_h0 := fun hh => (fT _ hh).elim n_h0 (nfz (apart_ow f_p h0 (by decide))); replace h1 := h1.sub (fun b hb _ => fQ b hb); replace h1_0 := h1_0.sub (fun b hb _ => fQ b hb); replace a0_1 := a0_1.sub (fun b hb _ => fQ b hb); replace a0_2 := a0_2.sub (fun b hb _ => fQ b hb); replace tQ := fun b hb => (fT b hb).elim (tQ b) (fun hv => Fsh.up uQ0 b (f_p.2 b hv).1); replace sQ0 := fun b hb hl => fQ b (sQ0 b hb hl); replace uQ : Up w4 Q35 := fun b hb => fQ b (uQ b hb); clear f_p fQ fT; have f_p := f_pz; clear f_pz; refine mv rfl ?_; refine mv rfl ?_; refine mv rfl ?_; refine mv rfl ?_; refine st _ (r_nil rfl) ?_; refine st _ (r_field rfl off78_0) ?_; have hc36 := f_p; refine st_store rfl rfl one31 f_p.oneCell h0 (Nat.le_of_ble_eq_true rfl) ?_; have h00 := h0; clear h0; intro w37 hm h0; have hS : ∀ b ∈ [b0], ¬ Q35 b := (by intro b hb; simp at hb; subst hb; exact n_h0); replace f_p := f_p.md hm hS; replace h1 := h1.md hm hS; replace h1_0 := h1_0.md hm hS; replace a0_1 := a0_1.md hm hS; replace a0_2 := a0_2.md hm hS; replace hc36 := hc36.md hm hS; replace uQ := uQ.md hm; replace M := M.step hm (all_cons p_h0 all_nil); clear h00 hS; obtain ⟨s38, es38⟩ : ∃ y, y = ({ f with now := p } : DFl) := ⟨_, rfl⟩; replace h0 : Blk _ _ (DFl.cells ({ f with now := p }) vp v0_1) _ := h0; rw [← es38] at h0; have oks38 : DFl.ok s38 := (by rw [es38]; exact (by unfold DFl.ok; first | exact a0_0 | (simp only; omega))); rw [show p = s38.now by rw [es38]] at f_p; rw [show f.safe = s38.safe by rw [es38]] at a0_2; refine st _ (r_nil rfl) ?_; refine st _ (r_field rfl off78_1) ?_; refine st_store rfl rfl one31 hc36.oneCell h0 (Nat.le_of_ble_eq_true rfl) ?_; have h00 := h0; clear h0; intro w39 hm h0; have hS : ∀ b ∈ [b0], ¬ Q35 b := (by intro b hb; simp at hb; subst hb; exact n_h0); replace f_p := f_p.md hm hS; replace h1 := h1.md hm hS; replace h1_0 := h1_0.md hm hS; replace a0_1 := a0_1.md hm hS; replace a0_2 := a0_2.md hm hS; replace hc36 := hc36.md hm hS; replace uQ := uQ.md hm; replace M := M.step hm (all_cons p_h0 all_nil); clear h00 hS
      obtain ⟨s40, es40⟩ : ∃ y, y = ({ s38 with safe := p } : DFl) := ⟨_, rfl⟩; replace h0 : Blk _ _ (DFl.cells ({ s38 with safe := p }) vp vp) _ := h0; rw [← es40] at h0; have oks40 : DFl.ok s40 := (by rw [es40]; exact (by unfold DFl.ok; first | exact oks38 | (simp only; omega))); rw [show s38.now = s40.now by rw [es40]] at f_p; rw [show p = s40.safe by rw [es40]] at hc36; refine st_nil ?_; exact retL (vs := []) trivial rfl trivial rfl ⟨s40, _, _, rfl, M, h0, n0, oks40, (f_p.sub (fun b hb _ => tQ b hb)), (hc36.sub (fun b hb _ => tQ b hb)), (by rw [es40, es38, ← pe])⟩
end Go.Proofs.YtogcacggojjijaaGreat
namespace Go.Proofs.YtogcacggojjijaaGreat
open Go Go.Wk Go.RowKit
set_option linter.unusedVariables false
set_option linter.unusedSimpArgs false
attribute [local irreducible] wpList wpQuiet wpStill wpMix Code.wp Calls bodyPost

/-! rows of the document: pairs of a name and a file -/
def prsD (r : DRow) : List (List UInt8 × Nat) := r.names.zip r.files
def ofD (l : List (List UInt8 × Nat)) : DRow := { names := l.map Prod.fst, files := l.map Prod.snd }
theorem prs_of (l : List (List UInt8 × Nat)) : prsD (ofD l) = l := by
  unfold prsD ofD
  induction l with
  | nil => rfl
  | cons p r ih => simp only [List.map_cons, List.zip_cons_cons]; rw [ih]
theorem of_prs {r : DRow} (h : r.names.length = r.files.length) : ofD (prsD r) = r := by
  obtain ⟨ns, fs⟩ := r; unfold prsD ofD; simp only at h ⊢; rw [List.map_fst_zip (by omega), List.map_snd_zip (by omega)]
def woP (s : List UInt8) (l : List (List UInt8 × Nat)) : List (List UInt8 × Nat) := l.filter fun p => !decide (p.1 = s)
def inP (s : List UInt8) (x : Nat) : List (List UInt8 × Nat) → List (List UInt8 × Nat)
  | [] => [(s, x)]
  | p :: r => if s < p.1 then (s, x) :: p :: r else p :: inP s x r
def SortP (l : List (List UInt8 × Nat)) : Prop := l.Pairwise fun a b => a.1 < b.1
theorem lt_tri {a b : List UInt8} (h : ¬ a < b) (k : a ≠ b) : b < a := by
  have h1 := List.not_lt.1 h; by_cases h2 : b < a
  · exact h2
  · exact absurd (List.le_antisymm (List.not_lt.1 h2) h1) k
theorem inP_perm (s : List UInt8) (x : Nat) : ∀ l : List (List UInt8 × Nat), (inP s x l).Perm ((s, x) :: l)
  | [] => List.Perm.refl _
  | p :: r => by
    unfold inP
    split
    · exact List.Perm.refl _
    · exact (List.Perm.cons p (inP_perm s x r)).trans (List.Perm.swap _ _ _)
theorem inP_sort {s : List UInt8} {x : Nat} : ∀ {l : List (List UInt8 × Nat)}, SortP l → (∀ p ∈ l, p.1 ≠ s) → SortP (inP s x l)
  | [], _, _ => by unfold inP SortP; simp
  | p :: r, h, hn => by
    obtain ⟨h1, h2⟩ := List.pairwise_cons.1 h; unfold inP
    split
    · rename_i hs
      refine List.pairwise_cons.2 ⟨fun q hq => ?_, h⟩; rcases List.mem_cons.1 hq with rfl | hq
      · exact hs
      · exact List.lt_trans hs (h1 q hq)
    · rename_i hs
      refine List.pairwise_cons.2 ⟨fun q hq => ?_, inP_sort h2 fun q hq => hn q (List.mem_cons_of_mem _ hq)⟩; rcases List.mem_cons.1 ((inP_perm s x r).mem_iff.1 hq) with rfl | hq
      · exact lt_tri hs fun e => hn p (List.mem_cons_self ..) e.symm
      · exact h1 q hq
theorem woP_sort {s : List UInt8} {l : List (List UInt8 × Nat)} (h : SortP l) : SortP (woP s l) := h.sublist List.filter_sublist
theorem woP_ne {s : List UInt8} {l : List (List UInt8 × Nat)} : ∀ p ∈ woP s l, p.1 ≠ s := fun p hp => by
  have := (List.mem_filter.1 hp).2; simpa using this
/-- What nodes are there, by name, with their files. -/
def nodP (φ : Nat → Nat) (N : List SNd) : List (List UInt8 × Nat) := (N.filter (·.no.there)).map fun x => (x.no.nm, φ x.id)
/-- A row tells just the nodes that are there. -/
structure RowOk (N : List SNd) (φ : Nat → Nat) (r : DRow) : Prop where
  len : r.names.length = r.files.length
  sort : SortP (prsD r)
  perm : (prsD r).Perm (nodP φ N)
theorem names_prs {r : DRow} (h : r.names.length = r.files.length) : (prsD r).map Prod.fst = r.names ∧ (prsD r).map Prod.snd = r.files := by
  unfold prsD; exact ⟨List.map_fst_zip (by omega), List.map_snd_zip (by omega)⟩
/-- The names, sorted, are the row's. -/
theorem RowOk.names {N : List SNd} {φ : Nat → Nat} {r : DRow} (h : RowOk N φ r) : sortL ((N.filter (·.no.there)).map (·.no.nm)) = r.names := by
  have e := (names_prs h.len).1
  have p1 : r.names.Perm ((N.filter (·.no.there)).map (·.no.nm)) := by
    rw [← e]; have := h.perm.map Prod.fst; unfold nodP at this; rw [List.map_map] at this; exact this
  have s1 : r.names.Pairwise (· < ·) := by
    rw [← e, List.pairwise_map]; exact h.sort
  have s2 : r.names.Pairwise (· ≤ ·) := s1.imp fun h => List.le_of_lt h; have p2 : (sortL ((N.filter (·.no.there)).map (·.no.nm))).Perm r.names := (List.mergeSort_perm _ _).trans p1.symm
  have s3 : (sortL ((N.filter (·.no.there)).map (·.no.nm))).Pairwise (· ≤ ·) := by
    unfold sortL; have := List.pairwise_mergeSort (le := fun x y : List UInt8 => decide (x ≤ y)) (fun a b c h1 h2 => by simp only [decide_eq_true_eq] at *; exact List.le_trans h1 h2) (fun a b => by simp only [Bool.or_eq_true, decide_eq_true_eq]; exact List.le_total a b) ((N.filter (·.no.there)).map (·.no.nm)); exact this.imp fun h => by simpa using h
  exact p2.eq_of_pairwise (fun a b _ _ h1 h2 => List.le_antisymm h1 h2) s3 s2
/-! what matters of nodes for names: id, name, whether it is there -/
def keyN (x : SNd) : Nat × List UInt8 × Bool := (x.id, x.no.nm, x.no.there)
abbrev Keys := List (Nat × List UInt8 × Bool)
def updK (K : Keys) (i : Nat) (g : List UInt8 × Bool → List UInt8 × Bool) : Keys := K.map fun k => if k.1 = i then (k.1, g k.2) else k
def undoK (K : Keys) (c : SCh) : Keys :=
  if c.kind = 0 then updK K c.n fun p => (p.1, false)
  else if c.kind = 1 then (match c.over with
    | none => updK K c.n fun p => (c.old, p.2)
    | some o => updK (updK K c.n fun p => (c.old, p.2)) o fun p => (p.1, true))
  else updK K c.n fun p => (p.1, true)
def undoKL : Keys → List SCh → Keys
  | K, [] => K
  | K, c :: r => undoKL (undoK K c) r
theorem updN_key (N : List SNd) (i : Nat) (g : SNd → SNd) (h : List UInt8 × Bool → List UInt8 × Bool) (hg : ∀ z, keyN (g z) = (z.id, h (keyN z).2)) : (updN N i g).map keyN = updK (N.map keyN) i h := by
  unfold updN updK; rw [List.map_map, List.map_map]; refine List.map_congr_left fun z _ => ?_; simp only [Function.comp]; by_cases e : z.id = i
  · rw [if_pos e, if_pos (show (keyN z).1 = i from e), hg]; rfl
  · rw [if_neg e, if_neg (show ¬ (keyN z).1 = i from e)]
theorem undoN_key (N : List SNd) (c : SCh) : (undoN N c).map keyN = undoK (N.map keyN) c := by
  unfold undoN undoK
  split
  · exact updN_key _ _ _ _ fun _ => rfl
  · split
    · cases ho : c.over with
      | none => exact updN_key _ _ _ _ fun _ => rfl
      | some o => exact (updN_key _ o _ (fun p => (p.1, true)) fun _ => rfl).trans (congrArg (fun K => updK K o fun p => (p.1, true)) (updN_key _ _ _ (fun p => (c.old, p.2)) fun _ => rfl))
    · exact updN_key _ _ _ _ fun _ => rfl
theorem undoL_key : ∀ (cs : List SCh) (N : List SNd), (undoL N cs).map keyN = undoKL (N.map keyN) cs
  | [], _ => rfl
  | c :: r, N => by rw [undoL, undoKL, undoL_key r, undoN_key]
theorem updK_ids (K : Keys) (i : Nat) (g : List UInt8 × Bool → List UInt8 × Bool) : (updK K i g).map Prod.fst = K.map Prod.fst := by
  unfold updK; rw [List.map_map]; refine List.map_congr_left fun z _ => ?_; simp only [Function.comp]
  split <;> rfl
theorem undoK_ids (K : Keys) (c : SCh) : (undoK K c).map Prod.fst = K.map Prod.fst := by
  unfold undoK
  split
  · exact updK_ids ..
  · split
    · split
      · exact updK_ids ..
      · rw [updK_ids, updK_ids]
    · exact updK_ids ..
theorem undoKL_ids : ∀ (cs : List SCh) (K : Keys), (undoKL K cs).map Prod.fst = K.map Prod.fst
  | [], _ => rfl
  | c :: r, K => (undoKL_ids r _).trans (undoK_ids K c)
/-- One more behind, of which nothing is said. -/
theorem updK_app (K : Keys) (z : Nat × List UInt8 × Bool) (i : Nat) (g : List UInt8 × Bool → List UInt8 × Bool) (h : z.1 ≠ i) : updK (K ++ [z]) i g = updK K i g ++ [z] := by
  unfold updK; rw [List.map_append, List.map_cons, List.map_nil, if_neg h]
theorem undoK_app (K : Keys) (z : Nat × List UInt8 × Bool) (c : SCh) (h : z.1 ≠ c.n) (ho : ∀ o, c.over = some o → z.1 ≠ o) : undoK (K ++ [z]) c = undoK K c ++ [z] := by
  unfold undoK
  split
  · exact updK_app _ _ _ _ h
  · split
    · split
      · exact updK_app _ _ _ _ h
      · rename_i o e
        rw [updK_app _ _ _ _ h, updK_app _ _ _ _ (ho o e)]
    · exact updK_app _ _ _ _ h
theorem undoKL_app (z : Nat × List UInt8 × Bool) : ∀ (cs : List SCh) (K : Keys), (∀ c ∈ cs, z.1 ≠ c.n ∧ ∀ o, c.over = some o → z.1 ≠ o) → undoKL (K ++ [z]) cs = undoKL K cs ++ [z]
  | [], _, _ => rfl
  | c :: r, K, h => by
    have hc := h c (List.mem_cons_self ..); rw [undoKL, undoKL, undoK_app _ _ _ hc.1 hc.2, undoKL_app z r _ fun c hc => h c (List.mem_cons_of_mem _ hc)]
/-- A row tells just what is there. -/
structure RowK (K : Keys) (φ : Nat → Nat) (r : DRow) : Prop where
  len : r.names.length = r.files.length
  sort : SortP (prsD r)
  mem : ∀ p, p ∈ prsD r ↔ ∃ k ∈ K, k.2.2 = true ∧ p = (k.2.1, φ k.1)
theorem RowK.of {K : Keys} {φ : Nat → Nat} {l : List (List UInt8 × Nat)} (hs : SortP l) (hm : ∀ p, p ∈ l ↔ ∃ k ∈ K, k.2.2 = true ∧ p = (k.2.1, φ k.1)) : RowK K φ (ofD l) :=
  ⟨by simp [ofD], by rw [prs_of]; exact hs, fun p => by rw [prs_of]; exact hm p⟩
/-- The same files, told by another map that agrees. -/
theorem RowK.map {K : Keys} {φ ψ : Nat → Nat} {r : DRow} (h : RowK K φ r) (e : ∀ k ∈ K, φ k.1 = ψ k.1) : RowK K ψ r :=
  ⟨h.len, h.sort, fun p => (h.mem p).trans ⟨fun ⟨k, h1, h2, h3⟩ => ⟨k, h1, h2, by rw [← e k h1]; exact h3⟩, fun ⟨k, h1, h2, h3⟩ => ⟨k, h1, h2, by rw [e k h1]; exact h3⟩⟩⟩
theorem RowK.snoc {K : Keys} {φ : Nat → Nat} {r : DRow} (h : RowK K φ r) {i : Nat} {s : List UInt8} : RowK (K ++ [(i, s, false)]) φ r :=
  ⟨h.len, h.sort, fun p => (h.mem p).trans ⟨fun ⟨k, h1, h2, h3⟩ => ⟨k, List.mem_append_left _ h1, h2, h3⟩, fun ⟨k, h1, h2, h3⟩ => by
    rcases List.mem_append.1 h1 with h1 | h1
    · exact ⟨k, h1, h2, h3⟩
    · rw [List.mem_singleton] at h1; subst h1; cases h2⟩⟩
/-- Names of what is there are unlike, where files are. -/
theorem RowK.one {K : Keys} {φ : Nat → Nat} {r : DRow} (h : RowK K φ r) (inj : ∀ a ∈ K, ∀ b ∈ K, φ a.1 = φ b.1 → a = b) {a b : Nat × List UInt8 × Bool} (ha : a ∈ K) (hb : b ∈ K) (ta : a.2.2 = true) (tb : b.2.2 = true) (e : a.2.1 = b.2.1) : a = b := by
  have h1 := (h.mem (a.2.1, φ a.1)).2 ⟨a, ha, ta, rfl⟩; have h2 := (h.mem (b.2.1, φ b.1)).2 ⟨b, hb, tb, rfl⟩; obtain ⟨i, hi⟩ := List.mem_iff_getElem?.1 h1; obtain ⟨j, hj⟩ := List.mem_iff_getElem?.1 h2; obtain ⟨li, ei⟩ := List.getElem?_eq_some_iff.1 hi; obtain ⟨lj, ej⟩ := List.getElem?_eq_some_iff.1 hj; have hs := List.pairwise_iff_getElem.1 h.sort; rcases Nat.lt_trichotomy i j with q | q | q
  · have := hs i j li lj q; rw [ei, ej] at this; simp only at this; rw [e] at this; exact absurd this (List.lt_irrefl _)
  · subst q; rw [hi] at hj; exact inj a ha b hb (Prod.mk.inj (Option.some.inj hj)).2
  · have := hs j i lj li q; rw [ei, ej] at this; simp only at this; rw [e] at this; exact absurd this (List.lt_irrefl _)
theorem mem_updK {K : Keys} {i : Nat} {g : List UInt8 × Bool → List UInt8 × Bool} {k : Nat × List UInt8 × Bool} : k ∈ updK K i g ↔ (k ∈ K ∧ k.1 ≠ i) ∨ ∃ z ∈ K, z.1 = i ∧ k = (z.1, g z.2) := by
  unfold updK; rw [List.mem_map]
  constructor
  · rintro ⟨z, hz, rfl⟩
    by_cases e : z.1 = i
    · rw [if_pos e]; exact .inr ⟨z, hz, e, rfl⟩
    · rw [if_neg e]; exact .inl ⟨hz, e⟩
  · rintro (⟨h1, h2⟩ | ⟨z, h1, h2, rfl⟩)
    · exact ⟨k, h1, if_neg h2⟩
    · exact ⟨z, h1, if_pos h2⟩
theorem updK_upd {K : Keys} {i : Nat} {g h : List UInt8 × Bool → List UInt8 × Bool} : updK (updK K i g) i h = updK K i fun p => h (g p) := by
  unfold updK; rw [List.map_map]; refine List.map_congr_left fun z _ => ?_; simp only [Function.comp]; by_cases e : z.1 = i
  · rw [if_pos e, if_pos e, if_pos e]
  · rw [if_neg e, if_neg e, if_neg e]
theorem updK_self {K : Keys} {i : Nat} {g : List UInt8 × Bool → List UInt8 × Bool} (h : ∀ k ∈ K, k.1 = i → g k.2 = k.2) : updK K i g = K := by
  unfold updK; refine (List.map_congr_left fun z hz => ?_).trans (List.map_id K); by_cases e : z.1 = i
  · rw [if_pos e, h z hz e]; rfl
  · rw [if_neg e]; rfl
theorem updK_comm {K : Keys} {i j : Nat} {g h : List UInt8 × Bool → List UInt8 × Bool} (hij : i ≠ j) : updK (updK K i g) j h = updK (updK K j h) i g := by
  unfold updK; rw [List.map_map, List.map_map]; refine List.map_congr_left fun z _ => ?_; simp only [Function.comp]; by_cases e : z.1 = i
  · have : ¬ z.1 = j := fun q => hij (e.symm.trans q)
    rw [if_pos e, if_neg this, if_neg this, if_pos e]
  · by_cases e2 : z.1 = j
    · rw [if_neg e, if_pos e2, if_neg e]
    · rw [if_neg e, if_neg e2, if_neg e]
/-! the steps of names -/
section
variable {K : Keys} {φ : Nat → Nat} {r : DRow}
theorem row_make (h : RowK K φ r) {i : Nat} {s : List UInt8} (hn : ∀ p ∈ prsD r, p.1 ≠ s) : RowK (K ++ [(i, s, true)]) φ (ofD (inP s (φ i) (woP s (prsD r)))) := by
  have e : woP s (prsD r) = prsD r := List.filter_eq_self.2 fun p hp => by simpa using hn p hp
  rw [e]; refine RowK.of (inP_sort h.sort hn) fun p => ?_; rw [(inP_perm s (φ i) _).mem_iff, List.mem_cons, h.mem]
  constructor
  · rintro (rfl | ⟨k, h1, h2, h3⟩)
    · exact ⟨(i, s, true), by simp, rfl, rfl⟩
    · exact ⟨k, List.mem_append_left _ h1, h2, h3⟩
  · rintro ⟨k, h1, h2, h3⟩
    rcases List.mem_append.1 h1 with h1 | h1
    · exact .inr ⟨k, h1, h2, h3⟩
    · rw [List.mem_singleton] at h1; subst h1; exact .inl h3
theorem row_drop (h : RowK K φ r) (inj : ∀ a ∈ K, ∀ b ∈ K, φ a.1 = φ b.1 → a = b) {x : Nat × List UInt8 × Bool} (hx : x ∈ K) (tx : x.2.2 = true) (ids : ∀ a ∈ K, ∀ b ∈ K, a.1 = b.1 → a = b) :
    RowK (updK K x.1 fun p => (p.1, false)) φ (ofD (woP x.2.1 (prsD r))) := by
  refine RowK.of (woP_sort h.sort) fun p => ?_; unfold woP; rw [List.mem_filter, h.mem]
  constructor
  · rintro ⟨⟨k, h1, h2, h3⟩, h4⟩
    refine ⟨k, mem_updK.2 (.inl ⟨h1, fun e => ?_⟩), h2, h3⟩; have := ids k h1 x hx e; subst this; rw [h3] at h4; simp at h4
  · rintro ⟨k, h1, h2, h3⟩
    rcases mem_updK.1 h1 with ⟨h1, h4⟩ | ⟨z, _, _, rfl⟩
    · refine ⟨⟨k, h1, h2, h3⟩, ?_⟩
      rw [h3]; simp only [Bool.not_eq_true', decide_eq_false_iff_not]; intro e; exact h4 (congrArg Prod.fst (h.one inj h1 hx h2 tx e))
    · cases h2
/-- What a rename does to the nodes. -/
def renK (K : Keys) (x : Nat) (t : List UInt8) (o : Option Nat) : Keys := updK (match o with | none => K | some y => updK K y fun p => (p.1, false)) x fun p => (t, p.2)
theorem row_rename (h : RowK K φ r) (inj : ∀ a ∈ K, ∀ b ∈ K, φ a.1 = φ b.1 → a = b) (ids : ∀ a ∈ K, ∀ b ∈ K, a.1 = b.1 → a = b) {x : Nat × List UInt8 × Bool} (hx : x ∈ K) (tx : x.2.2 = true) {t : List UInt8} {o : Option Nat}
    (ho : ∀ k ∈ K, k.2.2 = true → (k.2.1 = t ↔ o = some k.1)) (hne : o ≠ some x.1) : RowK (renK K x.1 t o) φ (ofD (inP t (φ x.1) (woP t (woP x.2.1 (prsD r))))) := by
  refine RowK.of (inP_sort (woP_sort (woP_sort h.sort)) woP_ne) fun p => ?_; rw [(inP_perm t (φ x.1) _).mem_iff, List.mem_cons]; unfold woP; rw [List.mem_filter, List.mem_filter, h.mem]
  have hmem : ∀ k, k ∈ (match o with | none => K | some y => updK K y fun p => (p.1, false)) ↔ (k ∈ K ∧ o ≠ some k.1) ∨ ∃ z ∈ K, o = some z.1 ∧ k = (z.1, z.2.1, false) := by
    intro k
    cases o with
    | none => simp
    | some y =>
      simp only [mem_updK]
      constructor
      · rintro (⟨h1, h2⟩ | ⟨z, h1, h2, h3⟩)
        · exact .inl ⟨h1, fun e => h2 (Option.some.inj e).symm⟩
        · exact .inr ⟨z, h1, by rw [h2], h3⟩
      · rintro (⟨h1, h2⟩ | ⟨z, h1, h2, h3⟩)
        · exact .inl ⟨h1, fun e => h2 (by rw [e])⟩
        · exact .inr ⟨z, h1, (Option.some.inj h2).symm, h3⟩
  constructor
  · rintro (rfl | ⟨⟨⟨k, h1, h2, h3⟩, h4⟩, h5⟩)
    · refine ⟨(x.1, t, true), ?_, rfl, rfl⟩
      unfold renK; exact mem_updK.2 (.inr ⟨x, (hmem x).2 (.inl ⟨hx, hne⟩), rfl, by rw [tx]⟩)
    · rw [h3] at h4 h5
      simp only [Bool.not_eq_true', decide_eq_false_iff_not] at h4 h5; refine ⟨k, ?_, h2, h3⟩; unfold renK; refine mem_updK.2 (.inl ⟨(hmem k).2 (.inl ⟨h1, fun e => h5 ((ho k h1 h2).2 e)⟩), fun e => h4 ?_⟩); rw [ids k h1 x hx e]
  · rintro ⟨k, h1, h2, h3⟩
    unfold renK at h1; rcases mem_updK.1 h1 with ⟨h1, h4⟩ | ⟨z, h1, h4, h5⟩
    · rcases (hmem k).1 h1 with ⟨h5, h6⟩ | ⟨z, _, _, rfl⟩
      · refine .inr ⟨⟨⟨k, h5, h2, h3⟩, ?_⟩, ?_⟩
        · rw [h3]
          simp only [Bool.not_eq_true', decide_eq_false_iff_not]; intro e; exact h4 (congrArg Prod.fst (h.one inj h5 hx h2 tx e))
        · rw [h3]
          simp only [Bool.not_eq_true', decide_eq_false_iff_not]; intro e; exact h6 ((ho k h5 h2).1 e)
      · cases h2
    · left
      rw [h3, h5, h4]
/-- A rename that is taken back. -/
theorem ren_undo {x : Nat × List UInt8 × Bool} (ids : ∀ a ∈ K, ∀ b ∈ K, a.1 = b.1 → a = b) (hx : x ∈ K) {t : List UInt8} {o : Option Nat} (ho : ∀ y, o = some y → ∀ k ∈ K, k.1 = y → k.2.2 = true) (hne : o ≠ some x.1) {c : SCh} (hc : c.kind = 1 ∧ c.n = x.1 ∧ c.old = x.2.1 ∧ c.over = o) : undoK (renK K x.1 t o) c = K := by
  obtain ⟨c1, c2, c3, c4⟩ := hc; unfold undoK; rw [if_neg (by omega), if_pos c1, c4, c2, c3]
  cases o with
  | none =>
    simp only; unfold renK; rw [updK_upd]; exact updK_self fun k hk e => by rw [ids k hk x hx e]
  | some y =>
    simp only; unfold renK; simp only; have hy : y ≠ x.1 := fun e => hne (by rw [e])
    rw [updK_upd, updK_comm (fun e => hy e.symm), updK_upd, updK_self (K := K) (i := y) fun k hk e => by
      have := ho y rfl k hk e; simp only; rw [← this]]
    exact updK_self fun k hk e => by rw [ids k hk x hx e]
theorem drop_undo {x : Nat × List UInt8 × Bool} (ids : ∀ a ∈ K, ∀ b ∈ K, a.1 = b.1 → a = b) (hx : x ∈ K) (tx : x.2.2 = true) {c : SCh} (hc : c.kind = 2 ∧ c.n = x.1) : undoK (updK K x.1 fun p => (p.1, false)) c = K := by
  unfold undoK; rw [if_neg (by omega), if_neg (by omega), hc.2, updK_upd]; exact updK_self fun k hk e => by rw [ids k hk x hx e]; simp only; rw [← tx]
theorem make_undo {i : Nat} {s : List UInt8} (hi : ∀ k ∈ K, k.1 ≠ i) {c : SCh} (hc : c.kind = 0 ∧ c.n = i) : undoK (K ++ [(i, s, true)]) c = K ++ [(i, s, false)] := by
  unfold undoK; rw [if_pos hc.1, hc.2]; unfold updK; rw [List.map_append, List.map_cons, List.map_nil, if_pos rfl]
  congr 1
  exact (List.map_congr_left fun z hz => if_neg (hi z hz)).trans (List.map_id K)
end
/-! a directory and the document's, which tell the same -/
def atD (s : List UInt8) (r : DRow) : Option Nat := ((prsD r).find? fun p => decide (p.1 = s)).map Prod.snd
def fileD (fl : List DFd) (i : Nat) : DFl := ((fl.find? fun z => decide (z.id = i)).map (·.f)).getD { now := [], safe := [], born := 0 }
def totD (fl : List DFd) : List Nat → Nat
  | [] => 0
  | i :: r => (fileD fl i).now.length + totD fl r
structure Rel (f : SFs) (d : DFs) (fl : List DFd) (φ : Nat → Nat) : Prop where
  room : d.room = f.room
  off : d.off = f.off
  fuse : d.fuse = f.fuse
  ids : (f.nodes.map (·.id)).Nodup
  inj : ∀ a ∈ f.nodes, ∀ b ∈ f.nodes, φ a.id = φ b.id → a.id = b.id
  flids : (fl.map (·.id)).Nodup
  file : ∀ x ∈ f.nodes, ∃ z ∈ fl, z.id = φ x.id ∧ z.f.now = x.fl.b ∧ z.f.safe = x.fl.safe ∧ 1 ≤ z.f.born ∧ z.f.born ≤ d.made
  rise : f.nodes.Pairwise fun a b => (fileD fl (φ a.id)).born < (fileD fl (φ b.id)).born
  row : RowK (f.nodes.map keyN) φ d.row
  len : d.past.length = f.pend.length
  past : ∀ (i : Nat) (r : DRow), d.past[i]? = some r → RowK (undoKL (f.nodes.map keyN) (f.pend.drop i).reverse) φ r
  pids : ∀ c ∈ f.pend, (∃ x ∈ f.nodes, x.id = c.n) ∧ ∀ o, c.over = some o → ∃ x ∈ f.nodes, x.id = o
  seen : ∀ x ∈ f.nodes, ∃ r ∈ d.past ++ [d.row], φ x.id ∈ r.files
theorem RowK.file {K : Keys} {φ : Nat → Nat} {r : DRow} (h : RowK K φ r) {k : Nat × List UInt8 × Bool} (hk : k ∈ K) (tk : k.2.2 = true) : φ k.1 ∈ r.files := by
  have : prsD r = r.names.zip r.files := rfl; exact (List.of_mem_zip (this ▸ (h.mem (k.2.1, φ k.1)).2 ⟨k, hk, tk, rfl⟩)).2
theorem file_get {fl : List DFd} (hn : (fl.map (·.id)).Nodup) {z : DFd} (hz : z ∈ fl) : fileD fl z.id = z.f := by
  unfold fileD
  induction fl with
  | nil => cases hz
  | cons y r ih =>
    rw [List.map_cons, List.nodup_cons] at hn; rw [List.find?_cons]; by_cases e : y.id = z.id
    · rw [decide_eq_true e]
      rcases List.mem_cons.1 hz with h | h
      · rw [h]; rfl
      · exact absurd (List.mem_map.2 ⟨z, h, e.symm⟩) hn.1
    · rw [decide_eq_false e]
      rcases List.mem_cons.1 hz with h | h
      · exact absurd (by rw [h]) e
      · exact ih hn.2 h
theorem Rel.now {f : SFs} {d : DFs} {fl : List DFd} {φ : Nat → Nat} (h : Rel f d fl φ) {x : SNd} (hx : x ∈ f.nodes) : (fileD fl (φ x.id)).now = x.fl.b ∧ (fileD fl (φ x.id)).safe = x.fl.safe := by
  obtain ⟨z, hz, e, h1, h2, _⟩ := h.file x hx; rw [← e, file_get h.flids hz]; exact ⟨h1, h2⟩
theorem nodup_one {N : List SNd} (h : (N.map (·.id)).Nodup) {a b : SNd} (ha : a ∈ N) (hb : b ∈ N) (e : a.id = b.id) : a = b := by
  obtain ⟨i, hi⟩ := List.mem_iff_getElem?.1 ha; obtain ⟨j, hj⟩ := List.mem_iff_getElem?.1 hb; have h1 : (N.map (·.id))[i]? = some a.id := (by rw [List.getElem?_map, hi]; rfl); have h2 : (N.map (·.id))[j]? = some b.id := (by rw [List.getElem?_map, hj]; rfl); obtain ⟨l1, g1⟩ := List.getElem?_eq_some_iff.1 h1; obtain ⟨l2, g2⟩ := List.getElem?_eq_some_iff.1 h2; have := (List.getElem_inj h).1 (g1.trans (e.trans g2.symm)); subst this; rw [hi] at hj; exact Option.some.inj hj
theorem findN_spec : ∀ {N : List SNd} {s : List UInt8} {x : SNd}, findN N s = some x → x ∈ N ∧ x.no.there = true ∧ x.no.nm = s
  | [], _, _, h => by cases h
  | y :: r, s, x, h => by
    unfold findN at h
    split at h
    · rename_i hy
      cases h
      exact ⟨List.mem_cons_self .., hy⟩
    · obtain ⟨h1, h2⟩ := findN_spec h
      exact ⟨List.mem_cons_of_mem _ h1, h2⟩
theorem findN_not : ∀ {N : List SNd} {s : List UInt8}, findN N s = none → ∀ x ∈ N, x.no.there = true → x.no.nm ≠ s
  | [], _, _, x, hx, _ => by cases hx
  | y :: r, s, h, x, hx, tx => by
    unfold findN at h
    split at h
    · cases h
    · rename_i hy
      rcases List.mem_cons.1 hx with rfl | hx
      · exact fun e => hy ⟨tx, e⟩
      · exact findN_not h x hx tx
section
variable {f : SFs} {d : DFs} {fl : List DFd} {φ : Nat → Nat}
theorem Rel.injK (h : Rel f d fl φ) : ∀ a ∈ f.nodes.map keyN, ∀ b ∈ f.nodes.map keyN, φ a.1 = φ b.1 → a = b := by
  intro a ha b hb e; obtain ⟨x, hx, rfl⟩ := List.mem_map.1 ha; obtain ⟨y, hy, rfl⟩ := List.mem_map.1 hb; rw [nodup_one h.ids hx hy (h.inj x hx y hy e)]
theorem Rel.idsK (h : Rel f d fl φ) : ∀ a ∈ f.nodes.map keyN, ∀ b ∈ f.nodes.map keyN, a.1 = b.1 → a = b := by
  intro a ha b hb e; obtain ⟨x, hx, rfl⟩ := List.mem_map.1 ha; obtain ⟨y, hy, rfl⟩ := List.mem_map.1 hb; rw [nodup_one h.ids hx hy e]
/-- A name's file. -/
theorem Rel.at (h : Rel f d fl φ) (s : List UInt8) : atD s d.row = (findN f.nodes s).map fun x => φ x.id := by
  unfold atD
  cases hf : findN f.nodes s with
  | some x =>
    obtain ⟨hx, tx, nx⟩ := findN_spec hf; have hm := (h.row.mem (s, φ x.id)).2 ⟨keyN x, List.mem_map.2 ⟨x, hx, rfl⟩, tx, by rw [← nx]; rfl⟩
    cases hq : (prsD d.row).find? fun p => decide (p.1 = s) with
    | none =>
      rw [List.find?_eq_none] at hq; exact absurd (decide_eq_true rfl) (hq _ hm)
    | some p =>
      have h1 := List.find?_some hq; have h2 := List.mem_of_find?_eq_some hq; simp only [decide_eq_true_eq] at h1; obtain ⟨k, hk, tk, e⟩ := (h.row.mem p).1 h2; have hx' : keyN x ∈ f.nodes.map keyN := List.mem_map.2 ⟨x, hx, rfl⟩; have : k = keyN x := h.row.one h.injK hk hx' tk tx (by rw [show k.2.1 = p.1 by rw [e], h1]; exact nx.symm); subst this; rw [e]; rfl
  | none =>
    cases hq : (prsD d.row).find? fun p => decide (p.1 = s) with
    | none => rfl
    | some p =>
      have h1 := List.find?_some hq; have h2 := List.mem_of_find?_eq_some hq; simp only [decide_eq_true_eq] at h1; obtain ⟨k, hk, tk, e⟩ := (h.row.mem p).1 h2; obtain ⟨x, hx, rfl⟩ := List.mem_map.1 hk; exact absurd (show x.no.nm = s by rw [← h1, e]; rfl) (findN_not hf x hx tk)
theorem Rel.perm (h : Rel f d fl φ) : (prsD d.row).Perm (nodP φ f.nodes) := by
  refine (List.perm_ext_iff_of_nodup ?_ ?_).2 fun p => ?_
  · exact h.row.sort.imp fun h e => by rw [e] at h; exact List.lt_irrefl _ h
  · unfold nodP
    have : ((f.nodes.filter (·.no.there)).map fun x => x.id).Nodup := h.ids.sublist (List.filter_sublist.map _); rw [List.Nodup, List.pairwise_map] at this ⊢; refine this.imp_of_mem fun {a b} ha hb hab e => hab ?_; exact h.inj a (List.mem_filter.1 ha).1 b (List.mem_filter.1 hb).1 (Prod.mk.inj e).2
  · rw [h.row.mem]
    unfold nodP
    constructor
    · rintro ⟨k, hk, tk, e⟩
      obtain ⟨x, hx, rfl⟩ := List.mem_map.1 hk; exact List.mem_map.2 ⟨x, List.mem_filter.2 ⟨hx, tk⟩, e.symm⟩
    · intro hp
      obtain ⟨x, hx, rfl⟩ := List.mem_map.1 hp; obtain ⟨h1, h2⟩ := List.mem_filter.1 hx; exact ⟨keyN x, List.mem_map.2 ⟨x, h1, rfl⟩, h2, rfl⟩
theorem Rel.rowOk (h : Rel f d fl φ) : RowOk f.nodes φ d.row := ⟨h.row.len, h.row.sort, h.perm⟩
theorem Rel.names (h : Rel f d fl φ) : sortL ((f.nodes.filter (·.no.there)).map (·.no.nm)) = d.row.names := h.rowOk.names
theorem totD_perm (fl : List DFd) {a b : List Nat} (h : a.Perm b) : totD fl a = totD fl b := by
  induction h with
  | nil => rfl
  | cons x _ ih => simp only [totD, ih]
  | swap x y l => simp only [totD]; omega
  | trans _ _ h1 h2 => exact h1.trans h2
theorem totF_sum : ∀ (N : List SNd), totF N = ((N.filter (·.no.there)).length, ((N.filter (·.no.there)).map fun x => x.fl.b.length).sum)
  | [] => rfl
  | x :: r => by
    have ih := totF_sum r; unfold totF; by_cases t : x.no.there = true
    · rw [if_pos t, List.filter_cons, if_pos t, ih]; simp only [List.length_cons, List.map_cons, List.sum_cons]; congr 1; omega
    · rw [if_neg t, List.filter_cons, if_neg t, ih]
theorem totD_map (fl : List DFd) (φ : Nat → Nat) : ∀ (N : List SNd), (∀ x ∈ N, (fileD fl (φ x.id)).now = x.fl.b) → totD fl (N.map fun x => φ x.id) = (N.map fun x => x.fl.b.length).sum
  | [], _ => rfl
  | x :: r, h => by
    simp only [List.map_cons, totD, List.sum_cons]; rw [h x (List.mem_cons_self ..), totD_map fl φ r fun y hy => h y (List.mem_cons_of_mem _ hy)]
/-- How many there are, and how many bytes they have. -/
theorem Rel.tot (h : Rel f d fl φ) : totF f.nodes = (d.row.names.length, totD fl d.row.files) := by
  obtain ⟨n1, n2⟩ := names_prs h.row.len
  have hl : d.row.names.length = (f.nodes.filter (·.no.there)).length := by
    have := h.perm.length_eq; unfold nodP at this; rw [List.length_map] at this; rw [← this, ← n1, List.length_map]
  have hp : d.row.files.Perm ((f.nodes.filter (·.no.there)).map fun x => φ x.id) := by
    rw [← n2]; have := h.perm.map Prod.snd; unfold nodP at this; rw [List.map_map] at this; exact this
  rw [totF_sum, hl, totD_perm fl hp, totD_map fl φ _ fun x hx => (h.now (List.mem_filter.1 hx).1).1]
end
/-! the steps -/
section
variable {f : SFs} {d : DFs} {fl : List DFd} {φ : Nat → Nat}
def burnD (d : DFs) : Nat × DFs := if d.fuse < 0 then (0, d) else if d.fuse = 0 then (18, { d with off := true }) else (0, { d with fuse := d.fuse - 1 })
theorem Rel.burn (h : Rel f d fl φ) : (burnF f).1 = (burnD d).1 ∧ Rel (burnF f).2 (burnD d).2 fl φ := by
  have e := h.fuse; unfold burnF burnD; rcases Int.lt_trichotomy f.fuse 0 with q | q | q
  · rw [if_neg (by omega), if_neg (by omega), if_pos (by omega)]; exact ⟨rfl, h⟩
  · rw [if_pos q, if_neg (by omega), if_pos (by omega)]
    exact ⟨rfl, ⟨h.room, rfl, h.fuse, h.ids, h.inj, h.flids, h.file, h.rise, h.row, h.len, h.past, h.pids, h.seen⟩⟩
  · rw [if_neg (by omega), if_pos q, if_neg (by omega), if_neg (by omega)]
    exact ⟨rfl, ⟨h.room, h.off, by simp only; rw [e], h.ids, h.inj, h.flids, h.file, h.rise, h.row, h.len, h.past, h.pids, h.seen⟩⟩
theorem updD_file {l : List DFd} (hn : (l.map (·.id)).Nodup) {i j : Nat} {g : DFl → DFl} (hj : ∃ z ∈ l, z.id = j) : fileD (updD l i g) j = if j = i then g (fileD l j) else fileD l j := by
  obtain ⟨z, hz, rfl⟩ := hj; rw [file_get hn hz]; have hz' : (if z.id = i then { z with f := g z.f } else z) ∈ updD l i g := List.mem_map.2 ⟨z, hz, rfl⟩; have := file_get (by rw [updD_ids]; exact hn) hz'; by_cases e : z.id = i
  · rw [if_pos e] at this ⊢; exact this
  · rw [if_neg e] at this ⊢; exact this
theorem mem_updS {N : List SNd} {i : Nat} {g : SNd → SNd} {x : SNd} : x ∈ updN N i g ↔ (x ∈ N ∧ x.id ≠ i) ∨ ∃ z ∈ N, z.id = i ∧ x = g z := by
  unfold updN; rw [List.mem_map]
  constructor
  · rintro ⟨z, hz, rfl⟩
    by_cases e : z.id = i
    · rw [if_pos e]; exact .inr ⟨z, hz, e, rfl⟩
    · rw [if_neg e]; exact .inl ⟨hz, e⟩
  · rintro (⟨h1, h2⟩ | ⟨z, h1, h2, rfl⟩)
    · exact ⟨x, h1, if_neg h2⟩
    · exact ⟨z, h1, if_pos h2⟩
/-- A file's bytes change. -/
theorem Rel.data (h : Rel f d fl φ) {x : SNd} (hx : x ∈ f.nodes) {g : SNd → SNd} {k : DFl → DFl} (hg : ∀ z, (g z).id = z.id ∧ keyN (g z) = keyN z) (hk : ∀ z, (k z).born = z.born)
    (e : (g x).fl.b = (k (fileD fl (φ x.id))).now ∧ (g x).fl.safe = (k (fileD fl (φ x.id))).safe) : Rel { f with nodes := updN f.nodes x.id g } d (updD fl (φ x.id) k) φ := by
  have kk : (updN f.nodes x.id g).map keyN = f.nodes.map keyN := by
    rw [updN_key f.nodes x.id g id fun z => by rw [(hg z).2]; rfl]; exact updK_self fun _ _ _ => rfl
  have ki : (updN f.nodes x.id g).map (·.id) = f.nodes.map (·.id) := by
    have := congrArg (List.map Prod.fst) kk; rw [List.map_map, List.map_map] at this; exact this
  have has : ∀ y ∈ f.nodes, ∃ z ∈ fl, z.id = φ y.id := fun y hy => by obtain ⟨z, h1, h2, _⟩ := h.file y hy; exact ⟨z, h1, h2⟩
  have old : ∀ y ∈ updN f.nodes x.id g, ∃ z ∈ f.nodes, y.id = z.id ∧ (y = z ∧ z.id ≠ x.id ∨ z = x ∧ y = g x) := fun y hy => by
    rcases mem_updS.1 hy with ⟨h1, h2⟩ | ⟨z, h1, h2, rfl⟩
    · exact ⟨y, h1, rfl, .inl ⟨rfl, h2⟩⟩
    · have := nodup_one h.ids h1 hx h2
      subst this; exact ⟨z, h1, (hg z).1, .inr ⟨rfl, rfl⟩⟩
  refine ⟨h.room, h.off, h.fuse, by simp only; rw [ki]; exact h.ids, fun a ha b hb e => ?_, by rw [updD_ids]; exact h.flids, fun y hy => ?_, ?_, by simp only; rw [kk]; exact h.row, h.len, by simp only; rw [kk]; exact h.past, fun c hc => ?_, fun y hy => by obtain ⟨z, hz, e, _⟩ := old y hy; rw [e]; exact h.seen z hz⟩
  · obtain ⟨a', ha', ea, _⟩ := old a ha
    obtain ⟨b', hb', eb, _⟩ := old b hb; rw [ea, eb] at e ⊢; exact h.inj a' ha' b' hb' e
  · obtain ⟨z, hz, ez, hc⟩ := old y hy
    obtain ⟨w, hw, ew, w1, w2, w3, w4⟩ := h.file z hz; have hw' : (if w.id = φ x.id then { w with f := k w.f } else w) ∈ updD fl (φ x.id) k := List.mem_map.2 ⟨w, hw, rfl⟩; rcases hc with ⟨rfl, hne⟩ | ⟨rfl, rfl⟩
    · rw [if_neg (fun q => hne (h.inj y hz x hx (ew.symm.trans q)))] at hw'
      exact ⟨w, hw', ew, w1, w2, w3, w4⟩
    · rw [if_pos ew] at hw'
      have ef : fileD fl (φ z.id) = w.f := (by rw [← ew]; exact file_get h.flids hw); rw [ef] at e; exact ⟨_, hw', by rw [ez]; exact ew, e.1.symm, e.2.symm, by simp only; rw [hk]; exact w3, by simp only; rw [hk]; exact w4⟩
  · have hb : ∀ y ∈ f.nodes, (fileD (updD fl (φ x.id) k) (φ y.id)).born = (fileD fl (φ y.id)).born := fun y hy => by
      rw [updD_file h.flids (has y hy)]
      split
      · exact hk _
      · rfl
    have h1 : (f.nodes.map (·.id)).Pairwise fun a b => (fileD fl (φ a)).born < (fileD fl (φ b)).born := (by rw [List.pairwise_map]; exact h.rise); have h2 : ((updN f.nodes x.id g).map (·.id)).Pairwise fun a b => (fileD fl (φ a)).born < (fileD fl (φ b)).born := (by rw [ki]; exact h1); rw [List.pairwise_map] at h2; refine h2.imp_of_mem fun {a b} ha hb' hab => ?_; obtain ⟨a', ha', ea, _⟩ := old a ha; obtain ⟨b', hb'', eb, _⟩ := old b hb'; rw [ea, eb] at hab ⊢; rw [hb a' ha', hb b' hb'']; exact hab
  · have up : ∀ y ∈ f.nodes, ∃ z ∈ updN f.nodes x.id g, z.id = y.id := fun y hy => by
      have : y.id ∈ (updN f.nodes x.id g).map (·.id) := (by rw [ki]; exact List.mem_map.2 ⟨y, hy, rfl⟩); obtain ⟨z, h1, h2⟩ := List.mem_map.1 this; exact ⟨z, h1, h2⟩
    obtain ⟨⟨y, hy, e1⟩, h2⟩ := h.pids c hc; refine ⟨?_, fun o ho => ?_⟩
    · obtain ⟨z, h3, h4⟩ := up y hy; exact ⟨z, h3, h4.trans e1⟩
    · obtain ⟨y, hy, e1⟩ := h2 o ho; obtain ⟨z, h3, h4⟩ := up y hy; exact ⟨z, h3, h4.trans e1⟩
/-- What is pending goes on by one: the rows of the past, where the step undone gives the nodes ahead of it. -/
theorem past_step {P : List SCh} {past : List DRow} {r : DRow} {K0 K1 : Keys} (hl : past.length = P.length) (c : SCh) (hu : undoK K1 c = K0) (hp : ∀ (i : Nat) (q : DRow), past[i]? = some q → RowK (undoKL K0 (P.drop i).reverse) φ q) (hr : RowK K0 φ r) :
    ∀ (i : Nat) (q : DRow), (past ++ [r])[i]? = some q → RowK (undoKL K1 ((P ++ [c]).drop i).reverse) φ q := fun i q hq => by
  rcases Nat.lt_or_ge i past.length with hi | hi
  · rw [List.getElem?_append_left hi] at hq
    rw [List.drop_append_of_le_length (by omega), List.reverse_append, List.reverse_singleton, List.singleton_append, undoKL, hu]; exact hp i q hq
  · have hl2 := (List.getElem?_eq_some_iff.1 hq).1
    simp only [List.length_append, List.length_singleton] at hl2; have : i = past.length := (by omega); subst this; rw [List.getElem?_append_right (Nat.le_refl _), Nat.sub_self] at hq; have : r = q := (by simpa using hq); subst this; rw [hl, List.drop_append_of_le_length (Nat.le_refl _), List.drop_length, List.nil_append, List.reverse_singleton, undoKL, undoKL, hu]; exact hr
theorem mem_keys {N : List SNd} {x : SNd} (h : x ∈ N) : keyN x ∈ N.map keyN := List.mem_map.2 ⟨x, h, rfl⟩
/-- A file is made. -/
theorem Rel.make (h : Rel f d fl φ) {s : List UInt8} (hs : findN f.nodes s = none) {i j z : Nat} (hi : ∀ x ∈ f.nodes, x.id ≠ i) (hz : ∀ y ∈ fl, y.id ≠ z) :
    Rel { f with nodes := f.nodes ++ [⟨i, ⟨s, true, j⟩, ⟨[], []⟩⟩], pend := f.pend ++ [⟨0, i, [], none⟩] } { d with made := d.made + 1, past := d.past ++ [d.row], row := ofD (inP s z (woP s (prsD d.row))) } (fl ++ [⟨z, { now := [], safe := [], born := d.made + 1 }⟩]) (fun k => if k = i then z else φ k) := by
  have fle : ∀ x ∈ f.nodes, (if x.id = i then z else φ x.id) = φ x.id := fun x hx => if_neg (hi x hx)
  have nz : ∀ x ∈ f.nodes, φ x.id ≠ z := fun x hx e => by
    obtain ⟨y, hy, ey, _⟩ := h.file x hx; exact hz y hy (ey.trans e)
  have nd' : ((fl ++ [(⟨z, { now := [], safe := [], born := d.made + 1 }⟩ : DFd)]).map (·.id)).Nodup := by
    rw [List.map_append, List.nodup_append]
    exact ⟨h.flids, by simp, fun a ha b hb e => by
      obtain ⟨y, hy, rfl⟩ := List.mem_map.1 ha; simp only [List.map_cons, List.map_nil, List.mem_singleton] at hb; exact hz y hy (e.trans hb)⟩
  have kf : ∀ k ∈ f.nodes.map keyN, φ k.1 = (fun k => if k = i then z else φ k) k.1 := fun k hk => by
    obtain ⟨x, hx, rfl⟩ := List.mem_map.1 hk; exact (fle x hx).symm
  have kn : ∀ k ∈ f.nodes.map keyN, k.1 ≠ i := fun k hk => by
    obtain ⟨x, hx, rfl⟩ := List.mem_map.1 hk; exact hi x hx
  have hrow := h.row.map (ψ := fun k => if k = i then z else φ k) kf; have hk : (f.nodes ++ [(⟨i, ⟨s, true, j⟩, ⟨[], []⟩⟩ : SNd)]).map keyN = f.nodes.map keyN ++ [(i, s, true)] := (by rw [List.map_append]; rfl)
  have nos : ∀ p ∈ prsD d.row, p.1 ≠ s := fun p hp e => by
    obtain ⟨k, hkk, tk, ek⟩ := (h.row.mem p).1 hp; obtain ⟨x, hx, rfl⟩ := List.mem_map.1 hkk; exact findN_not hs x hx tk (show x.no.nm = s by rw [← e, ek]; rfl)
  have old : ∀ x ∈ f.nodes, fileD (fl ++ [(⟨z, { now := [], safe := [], born := d.made + 1 }⟩ : DFd)]) (φ x.id) = fileD fl (φ x.id) := fun x hx => by
    obtain ⟨y, hy, ey, _⟩ := h.file x hx; rw [← ey, file_get h.flids hy]; exact file_get nd' (List.mem_append_left _ hy)
  refine ⟨h.room, h.off, h.fuse, ?_, fun a ha b hb e => ?_, nd', fun x hx => ?_, ?_, ?_, by simp only [List.length_append, List.length_singleton]; rw [h.len], ?_, fun c hc => ?_, fun x hx => ?_⟩
  · rw [List.map_append, List.nodup_append]
    exact ⟨h.ids, by simp, fun a ha b hb e => by
      obtain ⟨x, hx, rfl⟩ := List.mem_map.1 ha; simp only [List.map_cons, List.map_nil, List.mem_singleton] at hb; exact hi x hx (e.trans hb)⟩
  · simp only at ha hb e
    rcases List.mem_append.1 ha with ha | ha <;> rcases List.mem_append.1 hb with hb | hb
    · rw [fle a ha, fle b hb] at e; exact h.inj a ha b hb e
    · rw [List.mem_singleton] at hb; subst hb
      rw [fle a ha, if_pos rfl] at e; exact absurd e (nz a ha)
    · rw [List.mem_singleton] at ha; subst ha
      rw [fle b hb, if_pos rfl] at e; exact absurd e.symm (nz b hb)
    · rw [List.mem_singleton] at ha hb; rw [ha, hb]
  · simp only at hx ⊢
    rcases List.mem_append.1 hx with hx | hx
    · obtain ⟨y, hy, ey, y1, y2, y3, y4⟩ := h.file x hx
      exact ⟨y, List.mem_append_left _ hy, by rw [fle x hx]; exact ey, y1, y2, y3, by omega⟩
    · rw [List.mem_singleton] at hx; subst hx
      exact ⟨_, List.mem_append_right _ (List.mem_singleton.2 rfl), by rw [if_pos rfl], rfl, rfl, by simp only; omega, by simp only; omega⟩
  · simp only
    rw [List.pairwise_append]; refine ⟨h.rise.imp_of_mem fun {a b} ha hb hab => ?_, List.pairwise_singleton .., fun a ha b hb => ?_⟩
    · rw [fle a ha, fle b hb, old a ha, old b hb]; exact hab
    · rw [List.mem_singleton] at hb; subst hb
      obtain ⟨y, hy, ey, _, _, _, y4⟩ := h.file a ha
      have e1 : fileD (fl ++ [(⟨z, { now := [], safe := [], born := d.made + 1 }⟩ : DFd)]) z = { now := [], safe := [], born := d.made + 1 } :=
        file_get (z := ⟨z, { now := [], safe := [], born := d.made + 1 }⟩) nd' (List.mem_append_right _ (List.mem_singleton.2 rfl))
      rw [fle a ha, if_pos rfl, old a ha, e1, ← ey, file_get h.flids hy]; simp only; omega
  · simp only
    rw [hk]; have := row_make hrow (i := i) (s := s) nos; simp only [if_pos] at this; exact this
  · simp only
    rw [hk]; refine past_step h.len _ (K0 := f.nodes.map keyN ++ [(i, s, false)]) (make_undo kn ⟨rfl, rfl⟩) (fun a q hq => ?_) hrow.snoc
    have hp := (h.past a q hq).map (ψ := fun k => if k = i then z else φ k) fun k hk => by
      have : k.1 ∈ (undoKL (f.nodes.map keyN) (f.pend.drop a).reverse).map Prod.fst := List.mem_map.2 ⟨k, hk, rfl⟩; rw [undoKL_ids] at this; obtain ⟨k', hk', e⟩ := List.mem_map.1 this; rw [← e]; exact kf k' hk'
    rw [undoKL_app _ _ _ fun c hc => ?_]
    · exact hp.snoc
    · have hc' : c ∈ f.pend := List.mem_of_mem_drop (List.mem_reverse.1 hc)
      obtain ⟨⟨y, hy, e1⟩, h2⟩ := h.pids c hc'; exact ⟨fun e => hi y hy (e1.trans e.symm), fun o ho e => by obtain ⟨w, hw, e2⟩ := h2 o ho; exact hi w hw (e2.trans e.symm)⟩
  · simp only at hc ⊢
    rcases List.mem_append.1 hc with hc | hc
    · obtain ⟨⟨y, hy, e1⟩, h2⟩ := h.pids c hc
      exact ⟨⟨y, List.mem_append_left _ hy, e1⟩, fun o ho => by obtain ⟨w, hw, e2⟩ := h2 o ho; exact ⟨w, List.mem_append_left _ hw, e2⟩⟩
    · rw [List.mem_singleton] at hc; subst hc
      exact ⟨⟨_, List.mem_append_right _ (List.mem_singleton.2 rfl), rfl⟩, fun o ho => by cases ho⟩
  · simp only at hx ⊢
    rcases List.mem_append.1 hx with hx | hx
    · obtain ⟨r, hr, hm⟩ := h.seen x hx
      exact ⟨r, List.mem_append_left _ hr, by rw [fle x hx]; exact hm⟩
    · rw [List.mem_singleton] at hx; subst hx
      refine ⟨_, List.mem_append_right _ (List.mem_singleton.2 rfl), ?_⟩; simp only [if_pos]; exact List.mem_map.2 ⟨(s, z), (inP_perm s z _).mem_iff.2 (List.mem_cons_self ..), rfl⟩
/-- Names change, the files don't. -/
theorem Rel.name (h : Rel f d fl φ) {N : List SNd} (hN : ∀ y ∈ N, ∃ x ∈ f.nodes, y.id = x.id ∧ y.fl = x.fl) (hi : N.map (·.id) = f.nodes.map (·.id)) {r : DRow} (hr : RowK (N.map keyN) φ r) (c : SCh) (hu : undoK (N.map keyN) c = f.nodes.map keyN) (hc : (∃ x ∈ f.nodes, x.id = c.n) ∧ ∀ o, c.over = some o → ∃ x ∈ f.nodes, x.id = o) :
    Rel { f with nodes := N, pend := f.pend ++ [c] } { d with past := d.past ++ [d.row], row := r } fl φ := by
  have up : ∀ y ∈ f.nodes, ∃ z ∈ N, z.id = y.id := fun y hy => by
    have : y.id ∈ N.map (·.id) := (by rw [hi]; exact List.mem_map.2 ⟨y, hy, rfl⟩); obtain ⟨z, h1, h2⟩ := List.mem_map.1 this; exact ⟨z, h1, h2⟩
  refine ⟨h.room, h.off, h.fuse, by simp only; rw [hi]; exact h.ids, fun a ha b hb e => ?_, h.flids, fun y hy => ?_, ?_, hr, by simp only [List.length_append, List.length_singleton]; rw [h.len], ?_, fun c' hc' => ?_, fun y hy => by obtain ⟨x, hx, e1, _⟩ := hN y hy; obtain ⟨r', hr', hm⟩ := h.seen x hx; exact ⟨r', List.mem_append_left _ hr', by rw [e1]; exact hm⟩⟩
  · obtain ⟨a', h1, e1, _⟩ := hN a ha
    obtain ⟨b', h2, e2, _⟩ := hN b hb; rw [e1, e2] at e ⊢; exact h.inj a' h1 b' h2 e
  · obtain ⟨x, hx, e1, e2⟩ := hN y hy
    rw [e1, e2]; exact h.file x hx
  · have h1 : (f.nodes.map (·.id)).Pairwise fun a b => (fileD fl (φ a)).born < (fileD fl (φ b)).born := by rw [List.pairwise_map]; exact h.rise
    rw [← hi, List.pairwise_map] at h1; exact h1
  · exact past_step h.len c hu h.past h.row
  · have := fun (c : SCh) (q : (∃ x ∈ f.nodes, x.id = c.n) ∧ ∀ o, c.over = some o → ∃ x ∈ f.nodes, x.id = o) => (⟨by obtain ⟨⟨y, hy, e1⟩, _⟩ := q; obtain ⟨z, h3, h4⟩ := up y hy; exact ⟨z, h3, h4.trans e1⟩, fun o ho => by obtain ⟨y, hy, e1⟩ := q.2 o ho; obtain ⟨z, h3, h4⟩ := up y hy; exact ⟨z, h3, h4.trans e1⟩⟩ : (∃ x ∈ N, x.id = c.n) ∧ ∀ o, c.over = some o → ∃ x ∈ N, x.id = o)
    rcases List.mem_append.1 hc' with hc' | hc'
    · exact this c' (h.pids c' hc')
    · rw [List.mem_singleton] at hc'; subst hc'; exact this _ hc
theorem updN_idm (N : List SNd) (i : Nat) (g : SNd → SNd) (hg : ∀ z, (g z).id = z.id) : (updN N i g).map (·.id) = N.map (·.id) := by
  unfold updN; rw [List.map_map]; refine List.map_congr_left fun z _ => ?_; simp only [Function.comp]
  split
  · exact hg z
  · rfl
theorem Rel.drop (h : Rel f d fl φ) {s : List UInt8} {x : SNd} (hs : findN f.nodes s = some x) :
    Rel { f with nodes := updN f.nodes x.id fun z => { z with no := { z.no with there := false } }, pend := f.pend ++ [⟨2, x.id, [], none⟩] } { d with past := d.past ++ [d.row], row := ofD (woP s (prsD d.row)) } fl φ := by
  obtain ⟨hx, tx, nx⟩ := findN_spec hs; have kk := updN_key f.nodes x.id (fun z => { z with no := { z.no with there := false } }) (fun p => (p.1, false)) fun _ => rfl; refine h.name (fun y hy => ?_) (updN_idm _ x.id (fun z => { z with no := { z.no with there := false } }) fun _ => rfl) ?_ ⟨2, x.id, [], none⟩ ?_ ⟨⟨x, hx, rfl⟩, fun o ho => ?_⟩
  · rcases mem_updS.1 hy with ⟨h1, _⟩ | ⟨z, h1, _, rfl⟩
    · exact ⟨y, h1, rfl, rfl⟩
    · exact ⟨z, h1, rfl, rfl⟩
  · rw [kk]
    have := row_drop h.row h.injK (mem_keys hx) tx h.idsK; rw [show (keyN x).2.1 = s from nx] at this; exact this
  · rw [kk]
    exact drop_undo (x := keyN x) h.idsK (mem_keys hx) tx ⟨rfl, rfl⟩
  · cases ho
theorem Rel.rename (h : Rel f d fl φ) {s t : List UInt8} {x : SNd} (hs : findN f.nodes s = some x) (hne : (findN f.nodes t).map (·.id) ≠ some x.id) :
    Rel { f with nodes := updN (match findN f.nodes t with | none => f.nodes | some y => updN f.nodes y.id fun z => { z with no := { z.no with there := false } }) x.id (fun z => { z with no := { z.no with nm := t } }), pend := f.pend ++ [⟨1, x.id, s, (findN f.nodes t).map (·.id)⟩] } { d with past := d.past ++ [d.row], row := ofD (inP t (φ x.id) (woP t (woP s (prsD d.row)))) } fl φ := by
  obtain ⟨hx, tx, nx⟩ := findN_spec hs
  have kk : (updN (match findN f.nodes t with | none => f.nodes | some y => updN f.nodes y.id fun z => { z with no := { z.no with there := false } }) x.id (fun z => { z with no := { z.no with nm := t } })).map keyN = renK (f.nodes.map keyN) x.id t ((findN f.nodes t).map (·.id)) := by
    rw [updN_key _ x.id _ (fun p => (t, p.2)) fun _ => rfl]; unfold renK
    cases hq : findN f.nodes t with
    | none => rfl
    | some y => simp only [Option.map_some]; rw [updN_key _ y.id _ (fun p => (p.1, false)) fun _ => rfl]
  have hin : ∀ y, findN f.nodes t = some y → y ∈ f.nodes := fun y hy => (findN_spec hy).1; refine h.name (fun y hy => ?_) ?_ ?_ ⟨1, x.id, s, (findN f.nodes t).map (·.id)⟩ ?_ ⟨⟨x, hx, rfl⟩, fun o ho => ?_⟩
  · have sub : ∀ z ∈ (match findN f.nodes t with | none => f.nodes | some y => updN f.nodes y.id fun z => { z with no := { z.no with there := false } }), ∃ x ∈ f.nodes, z.id = x.id ∧ z.fl = x.fl := by
      intro z hz
      cases hq : findN f.nodes t with
      | none => rw [hq] at hz; exact ⟨z, hz, rfl, rfl⟩
      | some y =>
        rw [hq] at hz; rcases mem_updS.1 hz with ⟨h1, _⟩ | ⟨w, h1, _, rfl⟩
        · exact ⟨z, h1, rfl, rfl⟩
        · exact ⟨w, h1, rfl, rfl⟩
    rcases mem_updS.1 hy with ⟨h1, _⟩ | ⟨z, h1, _, rfl⟩
    · exact sub y h1
    · exact sub z h1
  · refine (updN_idm _ x.id (fun z => { z with no := { z.no with nm := t } }) fun _ => rfl).trans ?_
    cases findN f.nodes t with
    | none => rfl
    | some y => exact updN_idm _ _ _ fun _ => rfl
  · rw [kk]
    have := row_rename (x := keyN x) h.row h.injK h.idsK (mem_keys hx) tx (t := t) (o := (findN f.nodes t).map (·.id)) (fun k hk tk => ?_) hne
    · rw [show (keyN x).2.1 = s from nx] at this
      exact this
    · obtain ⟨y, hy, rfl⟩ := List.mem_map.1 hk
      constructor
      · intro e
        cases hq : findN f.nodes t with
        | none => exact absurd e (findN_not hq y hy tk)
        | some w =>
          obtain ⟨w1, w2, w3⟩ := findN_spec hq; have := h.row.one h.injK (mem_keys w1) hk w2 tk (w3.trans e.symm); exact congrArg some (congrArg Prod.fst this)
      · intro e
        cases hq : findN f.nodes t with
        | none => rw [hq] at e; cases e
        | some w =>
          rw [hq] at e; obtain ⟨w1, w2, w3⟩ := findN_spec hq; have : w = y := nodup_one h.ids w1 hy (Option.some.inj e); subst this; exact w3
  · rw [kk]
    refine ren_undo (x := keyN x) h.idsK (mem_keys hx) (fun y hy k hk e => ?_) hne ⟨rfl, rfl, nx.symm, rfl⟩
    cases hq : findN f.nodes t with
    | none => rw [hq] at hy; cases hy
    | some w =>
      rw [hq] at hy; obtain ⟨w1, w2, _⟩ := findN_spec hq; have e2 : w.id = y := Option.some.inj hy; have := h.idsK k hk (keyN w) (mem_keys w1) (e.trans e2.symm); rw [this]; exact w2
  · simp only at ho
    cases hq : findN f.nodes t with
    | none => rw [hq] at ho; cases ho
    | some w => rw [hq] at ho; exact ⟨w, hin w hq, Option.some.inj ho⟩
/-- Nothing is pending. -/
theorem Rel.settle (h : Rel f d fl φ) : Rel { f with nodes := f.nodes.filter (·.no.there), pend := [] } { d with past := [] } fl φ := by
  have sub : ∀ x ∈ f.nodes.filter (·.no.there), x ∈ f.nodes := fun x hx => (List.mem_filter.1 hx).1; refine ⟨h.room, h.off, h.fuse, h.ids.sublist (List.filter_sublist.map _), fun a ha b hb e => h.inj a (sub a ha) b (sub b hb) e, h.flids, fun x hx => h.file x (sub x hx), h.rise.sublist List.filter_sublist, ?_, rfl, fun i r hr => by simp at hr, fun c hc => (by cases hc), fun x hx => ⟨d.row, by simp, h.row.file (mem_keys (sub x hx)) (List.mem_filter.1 hx).2⟩⟩; refine ⟨h.row.len, h.row.sort, fun p => (h.row.mem p).trans ⟨?_, ?_⟩⟩
  · rintro ⟨k, hk, tk, e⟩
    obtain ⟨x, hx, rfl⟩ := List.mem_map.1 hk; exact ⟨keyN x, mem_keys (List.mem_filter.2 ⟨hx, tk⟩), tk, e⟩
  · rintro ⟨k, hk, tk, e⟩
    obtain ⟨x, hx, rfl⟩ := List.mem_map.1 hk; exact ⟨keyN x, mem_keys (sub x hx), tk, e⟩
end
end Go.Proofs.YtogcacggojjijaaGreat
namespace Go.Proofs.YtogcacggojjijaaGreat
open Go Go.Wk Go.RowKit
set_option linter.unusedVariables false
set_option linter.unusedSimpArgs false
attribute [local irreducible] wpList wpQuiet wpStill wpMix Code.wp Calls bodyPost

/-! power goes: the files -/
def dlF (b s : List UInt8) : Nat := (dirF b s (secN b s)).length
theorem crash_take (b s : List UInt8) (k : List Bool) : crashB b s (k.take (min (dlF b s) k.length)) = crashB b s k := by
  unfold crashB
  congr 1
  unfold lostF dlF
  congr 1
  refine List.filter_congr fun i hi => ?_; rw [List.mem_range] at hi
  congr 1
  rw [List.getD_eq_getElem?_getD, List.getD_eq_getElem?_getD, List.getElem?_take]; by_cases h : i < k.length
  · rw [if_pos (by omega)]
  · rw [if_neg (by omega), List.getElem?_eq_none (by omega)]
def crD (keep : List Bool) (z : DFl) : DFl := { z with now := crashB z.now z.safe keep, safe := crashB z.now z.safe keep }
/-- The files of a row that are born so: what becomes of them. -/
def crI (keep : List Bool) (n : Nat) : List Nat → List DFd → Nat → List DFd × Nat
  | [], fl, a => (fl, a)
  | i :: r, fl, a => if (fileD fl i).born = n then crI keep n r (updD fl i (crD (keep.drop (min a keep.length)))) (a + dlF (fileD fl i).now (fileD fl i).safe) else crI keep n r fl a
def crL (keep : List Bool) (files : List Nat) : Nat → Nat → List DFd → Nat → List DFd
  | 0, _, fl, _ => fl
  | m + 1, n, fl, a => crL keep files m (n + 1) (crI keep n files fl a).1 (crI keep n files fl a).2
theorem crI_none {keep : List Bool} {n : Nat} : ∀ {files : List Nat} {fl : List DFd} {a : Nat}, (∀ i ∈ files, (fileD fl i).born ≠ n) → crI keep n files fl a = (fl, a)
  | [], _, _, _ => rfl
  | i :: r, fl, a, h => by
    unfold crI; rw [if_neg (h i (List.mem_cons_self ..))]; exact crI_none fun j hj => h j (List.mem_cons_of_mem _ hj)
theorem crI_one {keep : List Bool} {n : Nat} : ∀ {files : List Nat} {fl : List DFd} {a i : Nat}, files.Nodup → i ∈ files → (fl.map (·.id)).Nodup → (∀ j ∈ files, ∃ z ∈ fl, z.id = j) → (fileD fl i).born = n → (∀ j ∈ files, (fileD fl j).born = n → j = i) →
    crI keep n files fl a = (updD fl i (crD (keep.drop (min a keep.length))), a + dlF (fileD fl i).now (fileD fl i).safe)
  | [], _, _, _, _, h, _, _, _, _ => by cases h
  | j :: r, fl, a, i, hn, hi, hf, hz, hb, ho => by
    rw [List.nodup_cons] at hn; unfold crI; by_cases e : (fileD fl j).born = n
    · have := ho j (List.mem_cons_self ..) e
      subst this; rw [if_pos e]; refine crI_none fun k hk q => ?_; have hne : k ≠ j := fun q => hn.1 (q ▸ hk); rw [updD_file hf (hz k (List.mem_cons_of_mem _ hk)), if_neg hne] at q; exact hne (ho k (List.mem_cons_of_mem _ hk) q)
    · rw [if_neg e]
      have hi' : i ∈ r := by
        rcases List.mem_cons.1 hi with h | h
        · subst h; exact absurd hb e
        · exact h
      exact crI_one hn.2 hi' hf (fun k hk => hz k (List.mem_cons_of_mem _ hk)) hb fun k hk => ho k (List.mem_cons_of_mem _ hk)
/-- What becomes of files goes by their births, which is the nodes' order. -/
theorem crL_nodes {keep : List Bool} {φ : Nat → Nat} {files : List Nat} : ∀ (m n a : Nat) (N : List SNd) (fl : List DFd), (fl.map (·.id)).Nodup → (∀ j ∈ files, ∃ z ∈ fl, z.id = j) → files.Nodup → (∀ x ∈ N, φ x.id ∈ files) → (N.map fun x => φ x.id).Nodup →
    N.Pairwise (fun a b => (fileD fl (φ a.id)).born < (fileD fl (φ b.id)).born) → (∀ x ∈ N, n ≤ (fileD fl (φ x.id)).born ∧ (fileD fl (φ x.id)).born < n + m) → (∀ j ∈ files, (∃ x ∈ N, φ x.id = j) ∨ (fileD fl j).born < n) → (∀ x ∈ N, (fileD fl (φ x.id)).now = x.fl.b ∧ (fileD fl (φ x.id)).safe = x.fl.safe) →
    ((crL keep files m n fl a).map (·.id) = fl.map (·.id)) ∧ (∀ j, (∃ z ∈ fl, z.id = j) → (fileD (crL keep files m n fl a) j).born = (fileD fl j).born) ∧ (∀ j, (∃ z ∈ fl, z.id = j) → (∀ x ∈ N, φ x.id ≠ j) → fileD (crL keep files m n fl a) j = fileD fl j) ∧
    ∀ (i : Nat) (x y : SNd), N[i]? = some x → (crashG N (keep.drop a))[i]? = some y → (fileD (crL keep files m n fl a) (φ x.id)).now = y.fl.b ∧ (fileD (crL keep files m n fl a) (φ x.id)).safe = y.fl.safe
  | 0, n, a, N, fl, hf, hz, hn, hx, hd, hr, hb, ho, hv => by
    have hN : N = [] := by
      cases N with
      | nil => rfl
      | cons x r => have := hb x (List.mem_cons_self ..); omega
    subst hN; exact ⟨rfl, fun _ _ => rfl, fun _ _ _ => rfl, fun i x y h _ => by simp at h⟩
  | m + 1, n, a, N, fl, hf, hz, hn, hx, hd, hr, hb, ho, hv => by
    unfold crL; by_cases hit : ∃ x r, N = x :: r ∧ (fileD fl (φ x.id)).born = n
    · obtain ⟨x, r, rfl, hbn⟩ := hit
      have hxf := hx x (List.mem_cons_self ..); obtain ⟨r1, r2⟩ := List.pairwise_cons.1 hr; rw [List.map_cons, List.nodup_cons] at hd
      have one := crI_one (keep := keep) (a := a) hn hxf hf hz hbn fun j hj e => by
        rcases ho j hj with ⟨y, hy, rfl⟩ | h
        · rcases List.mem_cons.1 hy with rfl | hy
          · rfl
          · have := r1 y hy; omega
        · omega
      rw [one]; simp only; have hvx := hv x (List.mem_cons_self ..); have hne : ∀ y ∈ r, φ y.id ≠ φ x.id := fun y hy e => hd.1 (List.mem_map.2 ⟨y, hy, e⟩); have up : ∀ j ∈ files, fileD (updD fl (φ x.id) (crD (keep.drop (min a keep.length)))) j = if j = φ x.id then crD (keep.drop (min a keep.length)) (fileD fl j) else fileD fl j := fun j hj => updD_file hf (hz j hj); have upy : ∀ y ∈ r, fileD (updD fl (φ x.id) (crD (keep.drop (min a keep.length)))) (φ y.id) = fileD fl (φ y.id) := fun y hy => by rw [up _ (hx y (List.mem_cons_of_mem _ hy)), if_neg (hne y hy)]
      have has : ∀ j, (∃ z ∈ fl, z.id = j) → ∃ z ∈ updD fl (φ x.id) (crD (keep.drop (min a keep.length))), z.id = j := fun j ⟨z, h1, h2⟩ => by
        have : j ∈ (updD fl (φ x.id) (crD (keep.drop (min a keep.length)))).map (·.id) := (by rw [updD_ids]; exact List.mem_map.2 ⟨z, h1, h2⟩); obtain ⟨w, h3, h4⟩ := List.mem_map.1 this; exact ⟨w, h3, h4⟩
      obtain ⟨g1, g2, g3, g4⟩ := crL_nodes m (n + 1) (a + dlF (fileD fl (φ x.id)).now (fileD fl (φ x.id)).safe) r (updD fl (φ x.id) (crD (keep.drop (min a keep.length)))) (by rw [updD_ids]; exact hf) (fun j hj => has j (hz j hj)) hn (fun y hy => hx y (List.mem_cons_of_mem _ hy)) hd.2
        (r2.imp_of_mem fun {b c} hb' hc' h => by rw [upy b hb', upy c hc']; exact h) (fun y hy => by rw [upy y hy]; have := hb y (List.mem_cons_of_mem _ hy); have := r1 y hy; omega)
        (fun j hj => by
          rcases ho j hj with ⟨y, hy, e⟩ | h
          · rcases List.mem_cons.1 hy with rfl | hy
            · right; rw [up j hj, if_pos e.symm]; show (fileD fl j).born < n + 1; rw [← e, hbn]; omega
            · exact .inl ⟨y, hy, e⟩
          · right; rw [up j hj]; split
            · show (fileD fl j).born < n + 1; omega
            · omega) (fun y hy => by rw [upy y hy]; exact hv y (List.mem_cons_of_mem _ hy))
      have bx : ∀ j, (∃ z ∈ fl, z.id = j) → (fileD (updD fl (φ x.id) (crD (keep.drop (min a keep.length)))) j).born = (fileD fl j).born := fun j hj => by
        rw [updD_file hf hj]; split <;> rfl
      refine ⟨g1.trans (updD_ids ..), fun j hj => (g2 j (has j hj)).trans (bx j hj), fun j hj hn' => ?_, fun i y z hy hz' => ?_⟩
      · rw [g3 j (has j hj) fun y hy => hn' y (List.mem_cons_of_mem _ hy), updD_file hf hj, if_neg fun e => hn' x (List.mem_cons_self ..) e.symm]
      · cases i with
        | zero =>
          have : x = y := (by simpa using hy); subst this; unfold crashG at hz'; simp only [List.getElem?_cons_zero, Option.some.injEq] at hz'; subst hz'; have e0 := g3 (φ x.id) (has _ (hz _ hxf)) hne; rw [e0, up _ hxf, if_pos rfl]
          have ek : keep.drop (min a keep.length) = keep.drop a := by
            by_cases q : a ≤ keep.length
            · rw [Nat.min_eq_left q]
            · rw [Nat.min_eq_right (by omega), List.drop_length, List.drop_of_length_le (by omega)]
          unfold crD; simp only; rw [hvx.1, hvx.2, ek]; have ec := crash_take x.fl.b x.fl.safe (keep.drop a); unfold dlF at ec; rw [ec]; exact ⟨rfl, rfl⟩
        | succ i =>
          unfold crashG at hz'; simp only [List.getElem?_cons_succ] at hy hz'; refine g4 i y z hy ?_; rw [hvx.1, hvx.2]
          have e : List.drop (min (dirF x.fl.b x.fl.safe (secN x.fl.b x.fl.safe)).length (List.drop a keep).length) (List.drop a keep) = keep.drop (a + dlF x.fl.b x.fl.safe) := by
            unfold dlF; by_cases q : (dirF x.fl.b x.fl.safe (secN x.fl.b x.fl.safe)).length ≤ (List.drop a keep).length
            · rw [Nat.min_eq_left q, List.drop_drop]
            · rw [Nat.min_eq_right (by omega), List.drop_length, List.drop_of_length_le (by rw [List.length_drop] at q; omega)]
          rw [e] at hz'; exact hz'
    · have none : crI keep n files fl a = (fl, a) := crI_none fun j hj e => by
        rcases ho j hj with ⟨y, hy, rfl⟩ | h
        · cases N with
          | nil => cases hy
          | cons x r =>
            have h1 := (hb x (List.mem_cons_self ..)).1; rcases List.mem_cons.1 hy with rfl | hy'
            · exact hit ⟨_, r, rfl, e⟩
            · have := (List.pairwise_cons.1 hr).1 y hy'; omega
        · omega
      rw [none]; simp only; refine crL_nodes m (n + 1) a N fl hf hz hn hx hd hr (fun x hx' => ?_) (fun j hj => (ho j hj).imp id fun h => by omega) hv; have h1 := hb x hx'; refine ⟨?_, by omega⟩
      cases N with
      | nil => cases hx'
      | cons y r =>
        have h2 := (hb y (List.mem_cons_self ..)).1; have h3 : (fileD fl (φ y.id)).born ≠ n := fun e => hit ⟨y, r, rfl, e⟩; rcases List.mem_cons.1 hx' with rfl | hx'
        · omega
        · have := (List.pairwise_cons.1 hr).1 x hx'; omega
section
variable {f : SFs} {d : DFs} {fl : List DFd} {φ : Nat → Nat}
theorem updN_old {N M : List SNd} (h : ∀ y ∈ M, ∃ x ∈ N, y.id = x.id ∧ y.fl = x.fl) (i : Nat) (g : SNd → SNd) (hg : ∀ z, (g z).id = z.id ∧ (g z).fl = z.fl) : ∀ y ∈ updN M i g, ∃ x ∈ N, y.id = x.id ∧ y.fl = x.fl := by
  intro y hy; rcases mem_updS.1 hy with ⟨h1, _⟩ | ⟨z, h1, _, rfl⟩
  · exact h y h1
  · obtain ⟨x, hx, e1, e2⟩ := h z h1
    exact ⟨x, hx, (hg z).1.trans e1, (hg z).2.trans e2⟩
theorem undoN_old {N M : List SNd} (h : ∀ y ∈ M, ∃ x ∈ N, y.id = x.id ∧ y.fl = x.fl) (c : SCh) : ∀ y ∈ undoN M c, ∃ x ∈ N, y.id = x.id ∧ y.fl = x.fl := by
  unfold undoN
  split
  · exact updN_old h _ _ fun _ => ⟨rfl, rfl⟩
  · split
    · split
      · exact updN_old h _ _ fun _ => ⟨rfl, rfl⟩
      · refine updN_old ?_ _ _ fun _ => ⟨rfl, rfl⟩
        exact updN_old h _ _ fun _ => ⟨rfl, rfl⟩
    · exact updN_old h _ _ fun _ => ⟨rfl, rfl⟩
theorem undoL_old {N : List SNd} : ∀ (cs : List SCh) (M : List SNd), (∀ y ∈ M, ∃ x ∈ N, y.id = x.id ∧ y.fl = x.fl) → ∀ y ∈ undoL M cs, ∃ x ∈ N, y.id = x.id ∧ y.fl = x.fl
  | [], _, h => h
  | c :: r, M, h => undoL_old r (undoN M c) (undoN_old h c)
theorem undoL_idm (cs : List SCh) (N : List SNd) : (undoL N cs).map (·.id) = N.map (·.id) := by
  have h := congrArg (List.map Prod.fst) (undoL_key cs N); rw [undoKL_ids, List.map_map, List.map_map] at h; exact h
/-- Power goes: the names. -/
theorem Rel.names_back (h : Rel f d fl φ) (n : Nat) : Rel { f with nodes := (undoL f.nodes (f.pend.drop n).reverse).filter (·.no.there), pend := [], off := false, fuse := -1 } { d with row := if n < d.past.length then d.past.getD n d.row else d.row, past := [], off := false, fuse := -1 } fl φ := by
  have hr : RowK ((undoL f.nodes (f.pend.drop n).reverse).map keyN) φ (if n < d.past.length then d.past.getD n d.row else d.row) := by
    rw [undoL_key]; by_cases hn : n < d.past.length
    · rw [if_pos hn]
      refine h.past n _ ?_; rw [List.getD_eq_getElem?_getD, List.getElem?_eq_getElem hn]; rfl
    · rw [if_neg hn, List.drop_of_length_le (by rw [← h.len]; omega)]
      exact h.row
  have old := undoL_old (N := f.nodes) (f.pend.drop n).reverse f.nodes fun y hy => ⟨y, hy, rfl, rfl⟩; have hi := undoL_idm (f.pend.drop n).reverse f.nodes
  generalize undoL f.nodes (f.pend.drop n).reverse = N at *; have sub : ∀ x ∈ N.filter (·.no.there), x ∈ N := fun x hx => (List.mem_filter.1 hx).1; refine ⟨h.room, rfl, rfl, ?_, fun a ha b hb e => ?_, h.flids, fun y hy => ?_, ?_, ⟨hr.len, hr.sort, fun p => (hr.mem p).trans ⟨?_, ?_⟩⟩, rfl, fun i r hr => by simp at hr, fun c hc => (by cases hc), fun x hx => ⟨_, List.mem_append_right _ (List.mem_singleton.2 rfl), hr.file (mem_keys (sub x hx)) (List.mem_filter.1 hx).2⟩⟩
  · have : (N.map (·.id)).Nodup := by rw [hi]; exact h.ids
    exact this.sublist (List.filter_sublist.map _)
  · obtain ⟨a', h1, e1, _⟩ := old a (sub a ha)
    obtain ⟨b', h2, e2, _⟩ := old b (sub b hb); rw [e1, e2] at e ⊢; exact h.inj a' h1 b' h2 e
  · obtain ⟨x, hx, e1, e2⟩ := old y (sub y hy)
    rw [e1, e2]; exact h.file x hx
  · have h1 : (f.nodes.map (·.id)).Pairwise fun a b => (fileD fl (φ a)).born < (fileD fl (φ b)).born := by rw [List.pairwise_map]; exact h.rise
    rw [← hi, List.pairwise_map] at h1; exact h1.sublist List.filter_sublist
  · rintro ⟨k, hk, tk, e⟩
    obtain ⟨x, hx, rfl⟩ := List.mem_map.1 hk; exact ⟨keyN x, mem_keys (List.mem_filter.2 ⟨hx, tk⟩), tk, e⟩
  · rintro ⟨k, hk, tk, e⟩
    obtain ⟨x, hx, rfl⟩ := List.mem_map.1 hk; exact ⟨keyN x, mem_keys (sub x hx), tk, e⟩
theorem crashG_len : ∀ (N : List SNd) (k : List Bool), (crashG N k).length = N.length
  | [], _ => rfl
  | z :: r, k => by rw [crashG]; simp only [List.length_cons]; rw [crashG_len r]
theorem crashG_key : ∀ (N : List SNd) (k : List Bool), (crashG N k).map keyN = N.map keyN
  | [], _ => rfl
  | z :: r, k => by rw [crashG]; simp only [List.map_cons]; rw [crashG_key r]; rfl
/-- Power goes: the files. -/
theorem Rel.files_back (h : Rel f d fl φ) (ht : ∀ x ∈ f.nodes, x.no.there = true) (hp : f.pend = []) (keep : List Bool) : Rel { f with nodes := crashG f.nodes keep } d (crL keep d.row.files d.made 1 fl 0) φ := by
  have hnf : d.row.files.Nodup := by
    rw [← (names_prs h.row.len).2]; have h1 := (h.perm.map Prod.snd).nodup_iff.2; refine h1 ?_; unfold nodP; rw [List.map_map]; have : ((f.nodes.filter (·.no.there)).map fun x => x.id).Nodup := h.ids.sublist (List.filter_sublist.map _); rw [List.Nodup, List.pairwise_map] at this ⊢; exact this.imp_of_mem fun {a b} ha hb hab e => hab (h.inj a (List.mem_filter.1 ha).1 b (List.mem_filter.1 hb).1 e)
  have hmem : ∀ j, j ∈ d.row.files ↔ ∃ x ∈ f.nodes, φ x.id = j := fun j => by
    rw [← (names_prs h.row.len).2, List.mem_map]
    constructor
    · rintro ⟨p, hp, rfl⟩
      obtain ⟨k, hk, _, e⟩ := (h.row.mem p).1 hp; obtain ⟨x, hx, rfl⟩ := List.mem_map.1 hk; exact ⟨x, hx, by rw [e]; rfl⟩
    · rintro ⟨x, hx, rfl⟩
      exact ⟨(x.no.nm, φ x.id), (h.row.mem _).2 ⟨keyN x, mem_keys hx, ht x hx, rfl⟩, rfl⟩
  have has : ∀ j ∈ d.row.files, ∃ z ∈ fl, z.id = j := fun j hj => by
    obtain ⟨x, hx, rfl⟩ := (hmem j).1 hj; obtain ⟨z, h1, h2, _⟩ := h.file x hx; exact ⟨z, h1, h2⟩
  have hbd : ∀ x ∈ f.nodes, 1 ≤ (fileD fl (φ x.id)).born ∧ (fileD fl (φ x.id)).born < 1 + d.made := fun x hx => by
    obtain ⟨z, h1, h2, _, _, h3, h4⟩ := h.file x hx; rw [← h2, file_get h.flids h1]; omega
  obtain ⟨g1, g2, g3, g4⟩ := crL_nodes (keep := keep) (φ := φ) (files := d.row.files) d.made 1 0 f.nodes fl h.flids has hnf (fun x hx => (hmem _).2 ⟨x, hx, rfl⟩) (by
    have := h.ids; rw [List.Nodup, List.pairwise_map] at this ⊢; exact this.imp_of_mem fun {a b} ha hb hab e => hab (h.inj a ha b hb e)) h.rise hbd (fun j hj => .inl ((hmem j).1 hj)) fun x hx => h.now hx
  rw [List.drop_zero] at g4; have hk := crashG_key f.nodes keep
  have ki : (crashG f.nodes keep).map (·.id) = f.nodes.map (·.id) := by
    have := congrArg (List.map Prod.fst) hk; rw [List.map_map, List.map_map] at this; exact this
  have at_ : ∀ y ∈ crashG f.nodes keep, ∃ x ∈ f.nodes, y.id = x.id ∧ (fileD (crL keep d.row.files d.made 1 fl 0) (φ x.id)).now = y.fl.b ∧ (fileD (crL keep d.row.files d.made 1 fl 0) (φ x.id)).safe = y.fl.safe := fun y hy => by
    obtain ⟨i, hi⟩ := List.mem_iff_getElem?.1 hy; have hl := (List.getElem?_eq_some_iff.1 hi).1; rw [crashG_len] at hl; obtain ⟨x, hx⟩ : ∃ x, f.nodes[i]? = some x := ⟨_, List.getElem?_eq_getElem hl⟩; obtain ⟨h1, h2⟩ := g4 i x y hx hi; refine ⟨x, List.mem_of_getElem? hx, ?_, h1, h2⟩; have := congrArg (fun l => l[i]?) ki; simp only [List.getElem?_map, hi, hx, Option.map_some, Option.some.injEq] at this; exact this
  have fd' : ((crL keep d.row.files d.made 1 fl 0).map (·.id)).Nodup := (by rw [g1]; exact h.flids); refine ⟨h.room, h.off, h.fuse, by simp only; rw [ki]; exact h.ids, fun a ha b hb e => ?_, fd', fun y hy => ?_, ?_, by simp only; rw [hk]; exact h.row, h.len, by simp only; rw [hk]; exact h.past, fun c hc => (by simp only at hc; rw [hp] at hc; cases hc), fun y hy => by obtain ⟨x, hx, e1, _⟩ := at_ y hy; rw [e1]; exact h.seen x hx⟩
  · obtain ⟨a', h1, e1, _⟩ := at_ a ha
    obtain ⟨b', h2, e2, _⟩ := at_ b hb; rw [e1, e2] at e ⊢; exact h.inj a' h1 b' h2 e
  · obtain ⟨x, hx, e1, n1, n2⟩ := at_ y hy
    obtain ⟨z, z1, z2, _, _, z3, z4⟩ := h.file x hx; have : φ x.id ∈ (crL keep d.row.files d.made 1 fl 0).map (·.id) := (by rw [g1]; exact List.mem_map.2 ⟨z, z1, z2⟩); obtain ⟨w, w1, w2⟩ := List.mem_map.1 this; have e3 := file_get fd' w1; rw [w2] at e3; have b1 := g2 (φ x.id) ⟨z, z1, z2⟩; have e4 := file_get h.flids z1; rw [z2] at e4; rw [e3, e4] at b1; rw [e3] at n1 n2; exact ⟨w, w1, by rw [e1]; exact w2, n1, n2, by omega, by omega⟩
  · have h1 : (f.nodes.map (·.id)).Pairwise fun a b => (fileD fl (φ a)).born < (fileD fl (φ b)).born := by rw [List.pairwise_map]; exact h.rise
    rw [← ki, List.pairwise_map] at h1; simp only; refine h1.imp_of_mem fun {a b} ha hb hab => ?_; obtain ⟨a', h2, e2, _⟩ := at_ a ha; obtain ⟨b', h3, e3, _⟩ := at_ b hb; rw [e2, e3] at hab ⊢; rw [g2 _ (has _ ((hmem _).2 ⟨a', h2, rfl⟩)), g2 _ (has _ ((hmem _).2 ⟨b', h3, rfl⟩))]; exact hab
end
/-! a copy -/
def mapR (τ : Nat → Nat) (r : DRow) : DRow := { r with files := r.files.map τ }
theorem prs_map (τ : Nat → Nat) (r : DRow) : prsD (mapR τ r) = (prsD r).map fun p => (p.1, τ p.2) := by
  unfold prsD mapR; rw [List.zip_map_right]
  rfl
theorem row_pos {K K' : Keys} {φ ψ τ : Nat → Nat} {r : DRow} (hl : K'.length = K.length) (hp : ∀ (j : Nat) (k k' : Nat × List UInt8 × Bool), K[j]? = some k → K'[j]? = some k' → k'.2 = k.2 ∧ ψ k'.1 = τ (φ k.1)) (h : RowK K φ r) : RowK K' ψ (mapR τ r) := by
  refine ⟨by unfold mapR; simp only [List.length_map]; exact h.len, ?_, fun p => ?_⟩
  · rw [prs_map]
    unfold SortP; rw [List.pairwise_map]; exact h.sort
  · rw [prs_map, List.mem_map]
    constructor
    · rintro ⟨q, hq, rfl⟩
      obtain ⟨k, hk, tk, e⟩ := (h.mem q).1 hq; obtain ⟨j, hj⟩ := List.mem_iff_getElem?.1 hk; obtain ⟨k', hk'⟩ : ∃ k', K'[j]? = some k' := ⟨_, List.getElem?_eq_getElem (by have := (List.getElem?_eq_some_iff.1 hj).1; omega)⟩; obtain ⟨e1, e2⟩ := hp j k k' hj hk'; exact ⟨k', List.mem_of_getElem? hk', by rw [e1]; exact tk, by rw [e, e1, e2]⟩
    · rintro ⟨k', hk, tk, rfl⟩
      obtain ⟨j, hj⟩ := List.mem_iff_getElem?.1 hk; obtain ⟨k, hk0⟩ : ∃ k, K[j]? = some k := ⟨_, List.getElem?_eq_getElem (by have := (List.getElem?_eq_some_iff.1 hj).1; omega)⟩; obtain ⟨e1, e2⟩ := hp j k k' hk0 hj; exact ⟨(k.2.1, φ k.1), (h.mem _).2 ⟨k, List.mem_of_getElem? hk0, by rw [← e1]; exact tk, rfl⟩, by rw [e1, e2]⟩
section
variable {f b : SFs} {d : DFs} {fl fl' : List DFd} {φ τ : Nat → Nat}
/-- Where a node's twin stands. -/
def twF (N M : List SNd) (k : Nat) : Nat := (((N.zip M).find? fun p => decide (p.2.id = k)).map fun p => p.1.id).getD 0
theorem twF_at : ∀ {N M : List SNd} {i : Nat} {x y : SNd}, (M.map (·.id)).Nodup → N[i]? = some x → M[i]? = some y → twF N M y.id = x.id
  | [], _, _, _, _, _, h, _ => by simp at h
  | _ :: _, [], _, _, _, _, _, h => by simp at h
  | a :: N, c :: M, 0, x, y, _, h1, h2 => by
    simp only [List.getElem?_cons_zero, Option.some.injEq] at h1 h2; subst h1 h2; unfold twF; rw [List.zip_cons_cons, List.find?_cons, decide_eq_true rfl]; rfl
  | a :: N, c :: M, i + 1, x, y, hn, h1, h2 => by
    rw [List.map_cons, List.nodup_cons] at hn; simp only [List.getElem?_cons_succ] at h1 h2; have hne : ¬ c.id = y.id := fun e => hn.1 (List.mem_map.2 ⟨y, List.mem_of_getElem? h2, e.symm⟩); have := twF_at hn.2 h1 h2; unfold twF at this ⊢; rw [List.zip_cons_cons, List.find?_cons, decide_eq_false hne]; exact this
def cpM (x : SNd) : List UInt8 × Bool × SFl := (x.no.nm, x.no.there, x.fl)
theorem Rel.copy (h : Rel f d fl φ) (hr : b.room = f.room) (hfu : b.fuse = f.fuse) (hof : b.off = f.off) (hno : b.nodes.map cpM = f.nodes.map cpM) (hpl : b.pend.length = f.pend.length) (nb : (b.nodes.map (·.id)).Nodup)
    (hu : ∀ i, (undoL b.nodes (b.pend.drop i).reverse).map cpM = (undoL f.nodes (f.pend.drop i).reverse).map cpM) (hpi : ∀ c ∈ b.pend, (∃ x ∈ b.nodes, x.id = c.n) ∧ ∀ o, c.over = some o → ∃ x ∈ b.nodes, x.id = o)
    (nfl : (fl'.map (·.id)).Nodup) (hf : ∀ r ∈ d.past ++ [d.row], ∀ i ∈ r.files, ∃ z ∈ fl', z.id = τ i ∧ z.f = fileD fl i) (inj : ∀ r ∈ d.past ++ [d.row], ∀ q ∈ d.past ++ [d.row], ∀ i ∈ r.files, ∀ j ∈ q.files, τ i = τ j → i = j) :
    Rel b { d with row := mapR τ d.row, past := d.past.map (mapR τ) } fl' (fun k => τ (φ (twF f.nodes b.nodes k))) := by
  have hl : b.nodes.length = f.nodes.length := (by simpa using congrArg List.length hno)
  have twin : ∀ y ∈ b.nodes, ∃ (i : Nat) (x : SNd), f.nodes[i]? = some x ∧ b.nodes[i]? = some y ∧ twF f.nodes b.nodes y.id = x.id ∧ cpM y = cpM x := fun y hy => by
    obtain ⟨i, hi⟩ := List.mem_iff_getElem?.1 hy; obtain ⟨x, hx⟩ : ∃ x, f.nodes[i]? = some x := ⟨_, List.getElem?_eq_getElem (by have := (List.getElem?_eq_some_iff.1 hi).1; omega)⟩; have e := congrArg (fun l => l[i]?) hno; simp only [List.getElem?_map, hi, hx, Option.map_some, Option.some.injEq] at e; exact ⟨i, x, hx, hi, twF_at nb hx hi, e⟩
  have filed : ∀ x ∈ f.nodes, ∃ z ∈ fl', z.id = τ (φ x.id) ∧ z.f = fileD fl (φ x.id) := fun x hx => by
    obtain ⟨r, hr, hm⟩ := h.seen x hx; exact hf r hr _ hm
  have row_u : ∀ (i : Nat) (r : DRow), RowK (undoKL (f.nodes.map keyN) (f.pend.drop i).reverse) φ r → RowK (undoKL (b.nodes.map keyN) (b.pend.drop i).reverse) (fun k => τ (φ (twF f.nodes b.nodes k))) (mapR τ r) := fun i r hk => by
    rw [← undoL_key] at hk ⊢; have e := hu i; have i1 := undoL_idm (f.pend.drop i).reverse f.nodes; have i2 := undoL_idm (b.pend.drop i).reverse b.nodes
    generalize undoL f.nodes (f.pend.drop i).reverse = N at *
    generalize undoL b.nodes (b.pend.drop i).reverse = M at *; refine row_pos (by simpa using congrArg List.length e) (fun j k k' hj hj' => ?_) hk; rw [List.getElem?_map] at hj hj'
    cases h1 : N[j]? with
    | none => rw [h1] at hj; cases hj
    | some x =>
      cases h2 : M[j]? with
      | none => rw [h2] at hj'; cases hj'
      | some y =>
        rw [h1] at hj; rw [h2] at hj'
        cases hj; cases hj'
        have ec := congrArg (fun l => l[j]?) e; simp only [List.getElem?_map, h1, h2, Option.map_some, Option.some.injEq] at ec; obtain ⟨c1, c2⟩ := Prod.mk.inj ec; obtain ⟨c2, _⟩ := Prod.mk.inj c2; refine ⟨by unfold keyN; simp only; rw [c1, c2], ?_⟩; have g1 := congrArg (fun l => l[j]?) i1; have g2 := congrArg (fun l => l[j]?) i2; simp only [List.getElem?_map, h1, h2, Option.map_some] at g1 g2
        cases k1 : f.nodes[j]? with
        | none => rw [k1] at g1; cases g1
        | some x' =>
          cases k2 : b.nodes[j]? with
          | none => rw [k2] at g2; cases g2
          | some y' =>
            rw [k1] at g1; rw [k2] at g2; have e1 : x.id = x'.id := Option.some.inj g1; have e2 : y.id = y'.id := Option.some.inj g2; show τ (φ (twF f.nodes b.nodes y.id)) = τ (φ x.id); rw [e2, twF_at nb k1 k2, e1]
  have dl : (d.past.map (mapR τ)).length = b.pend.length := (by rw [List.length_map, h.len, hpl]); refine ⟨by rw [hr]; exact h.room, by rw [hof]; exact h.off, by rw [hfu]; exact h.fuse, nb, fun a ha c hc e => ?_, nfl, fun y hy => ?_, ?_, ?_, dl, fun i r hr => ?_, hpi, fun y hy => ?_⟩
  · obtain ⟨i, x, hx, hi, e1, _⟩ := twin a ha
    obtain ⟨j, x2, hx2, hj, e2, _⟩ := twin c hc; rw [e1, e2] at e; obtain ⟨r, hr1, hm1⟩ := h.seen x (List.mem_of_getElem? hx); obtain ⟨q, hr2, hm2⟩ := h.seen x2 (List.mem_of_getElem? hx2); have := h.inj x (List.mem_of_getElem? hx) x2 (List.mem_of_getElem? hx2) (inj r hr1 q hr2 _ hm1 _ hm2 e); have h1 : (f.nodes.map (·.id))[i]? = some x.id := (by rw [List.getElem?_map, hx]; rfl); have h2 : (f.nodes.map (·.id))[j]? = some x2.id := (by rw [List.getElem?_map, hx2]; rfl); obtain ⟨l1, g1⟩ := List.getElem?_eq_some_iff.1 h1; obtain ⟨l2, g2⟩ := List.getElem?_eq_some_iff.1 h2; have := (List.getElem_inj h.ids).1 (g1.trans (this.trans g2.symm)); subst this; rw [hi] at hj; rw [Option.some.inj hj]
  · obtain ⟨i, x, hx, hi, e1, e2⟩ := twin y hy
    obtain ⟨z, z1, z2, z3⟩ := filed x (List.mem_of_getElem? hx); obtain ⟨w, w1, w2, w3, w4, w5, w6⟩ := h.file x (List.mem_of_getElem? hx); have ef : y.fl = x.fl := (Prod.mk.inj (Prod.mk.inj e2).2).2; have eq : z.f = w.f := (by rw [z3, ← w2]; exact file_get h.flids w1); exact ⟨z, z1, by rw [e1]; exact z2, by rw [eq, ef]; exact w3, by rw [eq, ef]; exact w4, by rw [eq]; exact w5, by rw [eq]; exact w6⟩
  · refine List.pairwise_iff_getElem.2 fun i j hi hj hij => ?_
    have hr := List.pairwise_iff_getElem.1 h.rise i j (by omega) (by omega) hij; have k1 : f.nodes[i]? = some f.nodes[i] := List.getElem?_eq_getElem (by omega); have k2 : f.nodes[j]? = some f.nodes[j] := List.getElem?_eq_getElem (by omega); rw [twF_at nb k1 (List.getElem?_eq_getElem hi), twF_at nb k2 (List.getElem?_eq_getElem hj)]; obtain ⟨z, z1, z2, z3⟩ := filed _ (List.mem_of_getElem? k1); obtain ⟨w, w1, w2, w3⟩ := filed _ (List.mem_of_getElem? k2); rw [← z2, ← w2, file_get nfl z1, file_get nfl w1, z3, w3]; exact hr
  · have e1 : b.pend.drop b.pend.length = [] := List.drop_length
    have e2 : f.pend.drop b.pend.length = [] := (by rw [hpl]; exact List.drop_length); have := row_u b.pend.length d.row (by rw [e2]; exact h.row); rw [e1] at this; exact this
  · simp only at hr
    rw [List.getElem?_map] at hr
    cases hq : d.past[i]? with
    | none => rw [hq] at hr; cases hr
    | some q =>
      rw [hq] at hr
      cases hr
      exact row_u i q (h.past i q hq)
  · obtain ⟨i, x, hx, hi, e1, _⟩ := twin y hy
    obtain ⟨r, hr1, hm1⟩ := h.seen x (List.mem_of_getElem? hx); refine ⟨mapR τ r, ?_, by rw [e1]; exact List.mem_map.2 ⟨_, hm1, rfl⟩⟩; simp only; rcases List.mem_append.1 hr1 with hr1 | hr1
    · exact List.mem_append_left _ (List.mem_map.2 ⟨r, hr1, rfl⟩)
    · rw [List.mem_singleton] at hr1; subst hr1
      exact List.mem_append_right _ (List.mem_singleton.2 rfl)
end
end Go.Proofs.YtogcacggojjijaaGreat
namespace Go.Proofs.YtogcacggojjijaaGreat
open Go Go.Wk Go.RowKit
set_option linter.unusedVariables false
set_option linter.unusedSimpArgs false
attribute [local irreducible] wpList wpQuiet wpStill wpMix Code.wp Calls bodyPost
theorem off60_0 : fieldOff Tryz.prog 60 0 = some 0 := by kernel_rfl
theorem one51 : isOne Tryz.prog 51 = true := by kernel_rfl

def atN : List (List UInt8) → List UInt8 → Nat → Int
  | [], _, _ => -1
  | x :: l, s, i => if x = s then (i : Int) else atN l s (i + 1)
theorem atN_end {l : List (List UInt8)} {s : List UInt8} {i k : Nat} (h : ¬ i < l.length) : atN (l.drop i) s k = -1 := by rw [List.drop_of_length_le (by omega)]; rfl
theorem atN_get {l : List (List UInt8)} {i : Nat} {x : List UInt8} (h : l[i]? = some x) : l.drop i = x :: l.drop (i + 1) := by
  obtain ⟨h1, h2⟩ := List.getElem?_eq_some_iff.1 h; rw [← h2]; exact List.drop_eq_getElem_cons h1
theorem atN_yes {l : List (List UInt8)} {s x : List UInt8} {i k : Nat} (h : l[i]? = some x) (h1 : x = s) : atN (l.drop i) s k = (k : Int) := by rw [atN_get h, atN, if_pos h1]
theorem atN_no {l : List (List UInt8)} {s x : List UInt8} {i k : Nat} (h : l[i]? = some x) (h1 : x ≠ s) : atN (l.drop i) s k = atN (l.drop (i + 1)) s (k + 1) := by rw [atN_get h, atN, if_neg h1]
theorem dAt_any {w : World} {Q : Nat → Prop} (uQ : Up w Q) {v0_0 : Value} {v0_1 : Value} (ro : DRow) (a0_0 : Ls tStr w Q v0_0 ro.names) (a0_1 : Ls tNp w Q v0_1 ro.files) (s : List UInt8) :
    Calls Tryz.prog 45 #[.agg (DRow.cells ro v0_0 v0_1).toArray, (str s)] w fun en w' => ∃ r0 : Int, en = .returned (.int .i64 (r0 : Int)) ∧ Md [] w w' ∧ (-9223372036854775808 ≤ r0 ∧ r0 < 9223372036854775808) ∧ atN ro.names s 0 = r0 := by
  have Lr := a0_0.len63; have M := Md.refl [] w; have uQ0 := uQ; have tQ : ∀ b, Q b → Q b := fun _ h => h; have sQ0 : ∀ b, Q b → b < w.heap.size → Q b := fun _ h _ => h; refine enter (n := 21) Tryz.func45 rfl rfl rfl ?_; intro B; refine ns ?_; refine st_box (cs := (DRow.cells ro v0_0 v0_1)) rfl rfl ?_; intro ba2 w1 ga2 la2 hm ha2; have n_ha2 := uQ _ ga2; replace ga2 := Nat.le_trans M.size ga2; replace a0_0 := a0_0.md0 hm; replace a0_1 := a0_1.md0 hm; replace uQ := uQ.md hm; replace M := M.step0 hm; have p_ha2 : Fsh [] w ba2 := .inr ga2; refine asg rfl ?_; refine nt ?_; refine c_seq ?_; refine ns ?_; refine asg rfl ?_; refine nt ?_; refine c_block ?_; obtain ⟨r0, hr00⟩ : ∃ r, atN ro.names s 0 = r := ⟨_, rfl⟩; have hr0o := hr00
  try simp only [List.nil_append] at hr00
  refine loop1 (fun (i : Nat) => [(5, (.int .i64 ((i : Nat) : Int))), (1, (str s)), (2, (.pointer (some ⟨ba2, 0, none⟩)))]) (fun (i : Nat) w' => ∃ Q' : Nat → Prop, (∀ b, Q' b → Q b) ∧ (∀ b, Q b → b < w.heap.size → Q' b) ∧ Up w' Q' ∧ Md [] w w' ∧ Blk w' ba2 (DRow.cells ro v0_0 v0_1) 60 ∧ Ls tStr w' Q' v0_0 ro.names ∧ Ls tNp w' Q' v0_1 ro.files ∧ Q' ba2 ∧ i ≤ ro.names.length ∧ atN (ro.names.drop i) s i = r0) (fun (i : Nat) => ro.names.length - i) (x0 := 0) ?_ ?_ ?_
  · exact ⟨rfl, rfl, rfl, trivial⟩
  · exact ⟨Q, tQ, sQ0, uQ, M, ha2, a0_0, a0_1, n_ha2, (by omega), (by have hh := hr00; first | exact hh | exact hr0o | (simp only [List.nil_append] at hh; exact hh))⟩
  · clear M uQ tQ sQ0 n_ha2 a0_0 a0_1 ha2
    rintro i B w2 ⟨Q3, tQ, sQ0, uQ, M, ha2, a0_0, a0_1, n_ha2, i0_0, hr0⟩; refine c_seq ?_; refine ns ?_; refine mv rfl ?_; refine st _ (r_field rfl off60_0) ?_; refine st _ ((r_loadBlk rfl one51 ha2 rfl).to (b := v0_0) rfl) ?_; refine st _ (r_len rfl u51 a0_0.shp) ?_; refine st _ (r_ltN (a := i) (b := ro.names.length) rfl rfl) ?_; refine nt ?_; refine c_if rfl (fun h10 => ?_) (fun h10 => ?_)
    · (first | (have h10n := of_decide_eq_true h10) | (have h10n := of_decide_eq_false (bnt h10)) | (have h10n := bnt h10) | (have h10n := h10)); refine c_skip ?_; refine c_then ?_; refine c_seq ?_; refine c_block ?_; refine ns ?_; refine st _ (r_field rfl off60_0) ?_; refine st _ ((r_loadBlk rfl one51 ha2 rfl).to (b := v0_0) rfl) ?_; refine mv rfl ?_; refine st _ (r_indexN (i := i) 1 rfl rfl u51 el9 a0_0.shp (by omega)) ?_; obtain ⟨x4, hx4⟩ := getE (l := ro.names) (i := i) (by first | omega | (simp <;> omega)); obtain ⟨c5, hr4, ha4⟩ := a0_0.get hx4; obtain ⟨rfl, _⟩ := hr4; replace ha4 : At _ v0_0 (i * 1) [(str x4)] := ha4; refine st _ ((r_loadE (kk := i * 1) 0 rfl rfl one9 ha4 rfl).to (b := (str x4)) rfl) ?_; refine mv rfl ?_; refine st _ (r_eqlS (a := x4) (b := s) rfl rfl) ?_; refine st_nil ?_; clear ha4; refine c_then ?_; refine c_if rfl (fun h19 => ?_) (fun h19 => ?_)
      · (first | (have h19n := of_decide_eq_true h19) | (have h19n := of_decide_eq_false (bnt h19)) | (have h19n := bnt h19) | (have h19n := h19)); refine ns ?_; refine mv rfl ?_; refine asg rfl ?_; refine nt ?_; refine c_ret ?_; refine r_block ?_; refine r_then ?_; refine r_then ?_; refine r_block ?_; refine r_then ?_; exact ret1L (v := (.int .i64 (((i : Nat) : Int) : Int))) trivial rfl ⟨rfl, trivial⟩ ⟨((i : Nat) : Int), rfl, M, (by first | assumption | omega | simp_all), (by have e := hr0o.trans (hr0.symm.trans (atN_yes hx4 (by simp_all))); exact e)⟩
      · (first | (have h19n := of_decide_eq_false h19) | (have h19n := of_decide_eq_true (bnf h19)) | (have h19n := bnf h19) | (have h19n := h19)); refine c_skip ?_; refine n_block ?_; refine c_then ?_; refine c_region ?_; refine mv rfl ?_; refine st _ (r_addN (a := i) (b := 1) 9223372036854775808 rfl rfl rfl (by omega)) ?_; refine asg rfl ?_; refine nt ?_; refine next1 (x0 := (i + 1)) (by omega) ⟨(fitI rfl (by omega)), rfl, rfl, trivial⟩ ⟨Q3, tQ, sQ0, uQ, M, ha2, a0_0, a0_1, n_ha2, (by omega), (by have hh := hr0; rw [atN_no hx4 (by simp_all)] at hh; exact hh)⟩
    · (first | (have h10n := of_decide_eq_false h10) | (have h10n := of_decide_eq_true (bnf h10)) | (have h10n := bnf h10) | (have h10n := h10)); refine c_exit ?_; refine x_then ?_; refine x_then ?_; refine x_hit ?_; refine c_then ?_; refine ns ?_; refine asg rfl ?_; refine nt ?_; refine c_ret ?_; exact ret1L (v := (.int .i64 ((-1) : Int))) trivial rfl ⟨rfl, trivial⟩ ⟨(-1), rfl, M, (by first | assumption | omega | simp_all), (by have e := hr0o.trans (hr0.symm.trans (atN_end (by omega))); exact e)⟩
end Go.Proofs.YtogcacggojjijaaGreat
