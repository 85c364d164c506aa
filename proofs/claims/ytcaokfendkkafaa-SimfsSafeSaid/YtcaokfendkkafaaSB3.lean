/- Part 3 of what the walk of a law stands on: VTh, VTi, VTj, VTk, VTl, VTm, VTn, VTo, VTp, VTq, VTr, VTs, VTt, OpensS, OpensR, OpensD, VTu. No statement is proved here. -/
import Derived.Test.YtcaokfendkkafaaSB2
import Derived.Test.YtcaokfendkkafaaRows
namespace Go.Proofs.Ytcaokfendkkafaa
open Go Go.Wk Go.RowKit
set_option linter.unusedVariables false
set_option linter.unusedSimpArgs false
attribute [local irreducible] wpList wpQuiet wpStill wpMix Code.wp Calls bodyPost

/-- A directory that may be: so many nodes and changes at most, no file greater than it may be, changes of its own nodes alone. -/
def cIn (l : List SNd) (c : SCh) : Prop := c.n ∈ l.map (·.id) ∧ ∀ o, c.over = some o → o ∈ l.map (·.id)
structure fWf (k : Nat) (f : SFs) : Prop where
  n : f.nodes.length ≤ k
  p : f.pend.length ≤ k
  fl : ∀ x ∈ f.nodes, x.fl.b.length ≤ 32768 ∧ x.fl.safe.length ≤ 32768
  ch : ∀ c ∈ f.pend, cIn f.nodes c
  room : 0 ≤ f.room
  nd : (f.nodes.map (·.id)).Nodup
theorem tot_le {k : Nat} : ∀ {l : List SNd}, (∀ x ∈ l, x.fl.b.length ≤ 32768 ∧ x.fl.safe.length ≤ 32768) → l.length ≤ k → (totF l).2 ≤ k * 32768
  | [], _, _ => Nat.zero_le _
  | x :: l, h, hl => by
    obtain ⟨k, rfl⟩ : ∃ j, k = j + 1 := ⟨k - 1, by simp at hl; omega⟩; have := tot_le (k := k) (l := l) (fun y hy => h y (List.mem_cons_of_mem _ hy)) (by simpa using hl); have h0 := (h x List.mem_cons_self).1; rw [totF, Nat.succ_mul]
    split
    · exact Nat.add_le_add this h0
    · exact Nat.le_trans this (Nat.le_add_right _ _)
theorem fWf.up {k k' : Nat} {f : SFs} (h : fWf k f) (hk : k ≤ k') : fWf k' f := ⟨Nat.le_trans h.n hk, Nat.le_trans h.p hk, h.fl, h.ch, h.room, h.nd⟩
theorem cIn.of {l l' : List SNd} {c : SCh} (h : cIn l c) (hi : ∀ b ∈ l.map (·.id), b ∈ l'.map (·.id)) : cIn l' c := ⟨hi _ h.1, fun o ho => hi _ (h.2 o ho)⟩
theorem wf_burn {k : Nat} {f m : SFs} {r : Nat} (h : fWf k f) (e : burnF f = (r, m)) : fWf k m := by
  have b := burn_eq e; exact ⟨by rw [b.1]; exact h.n, by rw [b.2.1]; exact h.p, by rw [b.1]; exact h.fl, by rw [b.1, b.2.1]; exact h.ch, by rw [b.2.2]; exact h.room, by rw [b.1]; exact h.nd⟩
theorem wf_burn' {k : Nat} {f : SFs} (h : fWf k f) : fWf k (burnF f).2 := wf_burn (r := (burnF f).1) h rfl
theorem wf_upd {k : Nat} {f : SFs} {i : Nat} {g : SNd → SNd} {p : List SCh} (h : fWf k f) (hg : ∀ z, (g z).id = z.id) (hs : ∀ z ∈ f.nodes, (g z).fl.b.length ≤ 32768 ∧ (g z).fl.safe.length ≤ 32768) (hp : ∀ c ∈ p, c ∈ f.pend ∨ cIn f.nodes c) (hpl : p.length ≤ k + 1) : fWf (k + 1) { f with nodes := updN f.nodes i g, pend := p } := by
  have hi := updN_ids (l := f.nodes) (i := i) hg; refine ⟨?_, hpl, fun x hx => ?_, fun c hc => ?_, h.room, ?_⟩
  · have := congrArg List.length hi; simp only [List.length_map] at this; show (updN f.nodes i g).length ≤ _; have := h.n; omega
  · rcases mem_updN hx with ⟨z, hz, _, rfl⟩ | ⟨hz, _⟩
    · exact hs z hz
    · exact h.fl x hz
  · have : cIn f.nodes c := (hp c hc).elim (h.ch c) id
    exact this.of fun b hb => by show b ∈ (updN f.nodes i g).map _; rw [hi]; exact hb
  · show ((updN f.nodes i g).map _).Nodup; rw [hi]; exact h.nd
theorem wf_make {k : Nat} {f m : SFs} {s : List UInt8} {i j r : Nat} (h : fWf k f) (hn : i ∉ f.nodes.map (·.id) ∨ r ≠ 0) (e : makeR f s i j = (r, m)) : fWf (k + 1) m := by
  unfold makeR at e
  split at e
  · cases e; exact h.up (Nat.le_succ _)
  · split at e
    · cases e; exact h.up (Nat.le_succ _)
    · split at e
      · cases e; exact h.up (Nat.le_succ _)
      · split at e
        · exact (wf_burn h e).up (Nat.le_succ _)
        · cases e
          have hb := burn_same f; refine ⟨?_, ?_, fun x hx => ?_, fun c hc => ?_, by show 0 ≤ (burnF f).2.room; rw [hb.2.2]; exact h.room, ?_⟩
          · simp; exact h.n
          · simp; exact h.p
          · rcases List.mem_append.1 hx with hx | hx
            · exact h.fl x hx
            · rw [List.mem_singleton] at hx; subst hx; simp
          · rcases List.mem_append.1 hc with hc | hc
            · exact (h.ch c hc).of fun b hb => by rw [List.map_append]; exact List.mem_append.2 (.inl hb)
            · rw [List.mem_singleton] at hc; subst hc
              exact ⟨by simp, fun o ho => by cases ho⟩
          · rw [List.map_append, List.nodup_append]
            refine ⟨h.nd, by simp, fun a ha b hb' => ?_⟩; simp only [List.map_cons, List.map_nil, List.mem_singleton] at hb'; subst hb'; rintro rfl; exact hn.elim (fun h => h ha) (fun h => h rfl)
theorem wf_burnp {k : Nat} {f : SFs} {i : Nat} {g : SNd → SNd} {p : List SCh} (h : fWf k f) (hg : ∀ z, (g z).id = z.id) (hs : ∀ z ∈ f.nodes, (g z).fl.b.length ≤ 32768 ∧ (g z).fl.safe.length ≤ 32768) (hp : ∀ c ∈ p, c ∈ f.pend ∨ cIn f.nodes c) (hpl : p.length ≤ k + 1) : fWf (k + 1) { (burnF f).2 with nodes := updN f.nodes i g, pend := p } := by
  have hb := burn_same f; have := wf_upd (i := i) (g := g) (p := p) (wf_burn' h) hg (by rw [hb.1]; exact hs) (by rw [hb.1, hb.2.1]; exact hp) hpl; rw [hb.1] at this; exact this
theorem wf_write {k : Nat} {f m : SFs} {s : List UInt8} {p : Int} {b : List UInt8} {j r : Nat} (h : fWf k f) (e : writeR f s p b j = (r, m)) : fWf (k + 1) m := by
  unfold writeR at e
  split at e
  · cases e; exact h.up (Nat.le_succ _)
  · split at e
    · cases e; exact h.up (Nat.le_succ _)
    · rename_i x hx
      have hm := (findN_mem hx).1
      split at e
      · cases e; exact h.up (Nat.le_succ _)
      · split at e
        · cases e; exact h.up (Nat.le_succ _)
        · split at e
          · exact (wf_burn h e).up (Nat.le_succ _)
          · cases e
            have hw := wr_len (f := x.fl) (p := p) (x := b) (e := (wrF x.fl p b).1) (y := (wrF x.fl p b).2) rfl; have hf := h.fl x hm; have hb := burn_same f; have := wf_burnp (i := x.id) (g := fun z => { z with no := { z.no with fid := j }, fl := (wrF x.fl p b).2 }) (p := f.pend) h (fun _ => rfl) (fun z hz => ⟨by have := hw.1; show (wrF x.fl p b).2.b.length ≤ _; omega, by show (wrF x.fl p b).2.safe.length ≤ _; rw [hw.2]; exact hf.2⟩) (fun c hc => .inl hc) (Nat.le_succ_of_le h.p); rw [← hb.2.1] at this; exact this
theorem wf_sync {k : Nat} {f m : SFs} {s : List UInt8} {r : Nat} (h : fWf k f) (e : syncR f s = (r, m)) : fWf (k + 1) m := by
  unfold syncR at e
  split at e
  · cases e; exact h.up (Nat.le_succ _)
  · split at e
    · cases e; exact h.up (Nat.le_succ _)
    · rename_i x hx
      have hm := (findN_mem hx).1
      split at e
      · exact (wf_burn h e).up (Nat.le_succ _)
      · cases e
        have hf := h.fl x hm; have hb := burn_same f; have := wf_burnp (i := x.id) (g := fun z => { z with fl := { b := x.fl.b, safe := x.fl.b } }) (p := f.pend) h (fun _ => rfl) (fun z hz => ⟨hf.1, hf.1⟩) (fun c hc => .inl hc) (Nat.le_succ_of_le h.p); rw [← hb.2.1] at this; exact this
theorem wf_drop {k : Nat} {f m : SFs} {s : List UInt8} {r : Nat} (h : fWf k f) (e : dropR f s = (r, m)) : fWf (k + 1) m := by
  unfold dropR at e
  split at e
  · cases e; exact h.up (Nat.le_succ _)
  · split at e
    · cases e; exact h.up (Nat.le_succ _)
    · rename_i x hx
      have hm := (findN_mem hx).1
      split at e
      · exact (wf_burn h e).up (Nat.le_succ _)
      · cases e
        refine wf_burnp (i := x.id) h (fun _ => rfl) (fun z hz => h.fl z hz) (fun c hc => ?_) (by simp; exact h.p); rcases List.mem_append.1 hc with hc | hc
        · exact .inl hc
        · rw [List.mem_singleton] at hc; subst hc
          exact .inr ⟨List.mem_map.2 ⟨x, hm, rfl⟩, fun o ho => by cases ho⟩
theorem wf_ren {k : Nat} {f m : SFs} {s t : List UInt8} {r : Nat} (h : fWf k f) (e : renameR f s t = (r, m)) : fWf (k + 1) m := by
  unfold renameR at e
  split at e
  · cases e; exact h.up (Nat.le_succ _)
  · split at e
    · cases e; exact h.up (Nat.le_succ _)
    · rename_i x hx
      have hm := (findN_mem hx).1
      split at e
      · exact (wf_burn h e).up (Nat.le_succ _)
      · split at e
        · cases e; exact (wf_burn' h).up (Nat.le_succ _)
        · cases e
          have hb := burn_same f
          have hc : ∀ c ∈ f.pend ++ [(⟨1, x.id, s, (findN f.nodes t).map (·.id)⟩ : SCh)], c ∈ f.pend ∨ cIn f.nodes c := by
            intro c hc; rcases List.mem_append.1 hc with hc | hc
            · exact .inl hc
            · rw [List.mem_singleton] at hc; subst hc
              refine .inr ⟨List.mem_map.2 ⟨x, hm, rfl⟩, fun o ho => ?_⟩; obtain ⟨y, hy, rfl⟩ := Option.map_eq_some_iff.1 ho; exact List.mem_map.2 ⟨y, (findN_mem hy).1, rfl⟩
          cases hq : findN f.nodes t with
          | none =>
            rw [hq] at hc; exact wf_burnp (i := x.id) h (fun _ => rfl) (fun z hz => h.fl z hz) hc (by simp; exact h.p)
          | some y =>
            rw [hq] at hc; have h1 := wf_upd (k := k) (f := f) (i := y.id) (g := fun z => { z with no := { z.no with there := false } }) (p := f.pend) h (fun _ => rfl) (fun z hz => h.fl z hz) (fun c hc => .inl hc) (Nat.le_succ_of_le h.p); have hi := updN_ids (l := f.nodes) (i := y.id) (g := fun z => { z with no := { z.no with there := false } }) fun _ => rfl; have hi2 := updN_ids (l := updN f.nodes y.id fun z => { z with no := { z.no with there := false } }) (i := x.id) (g := fun z => { z with no := { z.no with nm := t } }) fun _ => rfl; refine ⟨?_, by simp; exact h.p, fun z hz => ?_, fun c hcc => ?_, by show 0 ≤ (burnF f).2.room; rw [hb.2.2]; exact h.room, ?_⟩
            · have e1 := congrArg List.length (hi2.trans hi); simp only [List.length_map] at e1; exact Nat.le_trans (Nat.le_of_eq e1) (Nat.le_succ_of_le h.n)
            · rcases mem_updN hz with ⟨q, hq, _, rfl⟩ | ⟨hq, _⟩
              · exact h1.fl q hq
              · exact h1.fl z hq
            · have : cIn f.nodes c := (hc c hcc).elim (h.ch c) id
              exact this.of fun b hb => by show b ∈ (updN (updN _ _ _) _ _).map _; rw [hi2, hi]; exact hb
            · show ((updN (updN _ _ _) _ _).map _).Nodup; rw [hi2, hi]; exact h.nd
theorem wf_settle {k : Nat} {f : SFs} (h : fWf k f) : fWf k (settleF f) :=
  ⟨Nat.le_trans (List.length_filter_le _ _) h.n, Nat.zero_le _, fun x hx => h.fl x (List.mem_filter.1 hx).1, fun c hc => absurd hc List.not_mem_nil, h.room, h.nd.sublist (List.filter_sublist.map _)⟩
theorem wf_dir {k : Nat} {f m : SFs} {r : Nat} (h : fWf k f) (e : syncDirR f = (r, m)) : fWf (k + 1) m := by
  unfold syncDirR at e
  split at e
  · cases e; exact h.up (Nat.le_succ _)
  · split at e
    · exact (wf_burn h e).up (Nat.le_succ _)
    · cases e; exact (wf_settle (wf_burn' h)).up (Nat.le_succ _)
theorem undoL_fl {l : List SNd} : ∀ {r : List SCh}, (∀ z ∈ l, z.fl.b.length ≤ 32768 ∧ z.fl.safe.length ≤ 32768) → ∀ z ∈ undoL l r, z.fl.b.length ≤ 32768 ∧ z.fl.safe.length ≤ 32768 := by
  intro r
  induction r generalizing l with
  | nil => exact fun h => h
  | cons c r ih =>
    intro h; refine ih (l := undoN l c) ?_; unfold undoN
    split
    · exact updN_all h fun _ h => h
    · split
      · split
        · exact updN_all h fun _ h => h
        · exact updN_all (updN_all h fun _ h => h) fun _ h => h
      · exact updN_all h fun _ h => h
theorem crashG_fl : ∀ {l : List SNd} {k : List Bool}, (∀ z ∈ l, z.fl.b.length ≤ 32768 ∧ z.fl.safe.length ≤ 32768) → ∀ z ∈ crashG l k, z.fl.b.length ≤ 32768 ∧ z.fl.safe.length ≤ 32768
  | [], _, _ => fun z hz => absurd hz List.not_mem_nil
  | y :: l, k, h => by
    intro z hz; rw [crashG] at hz; rcases List.mem_cons.1 hz with rfl | hz
    · have h0 := h y List.mem_cons_self
      refine ⟨?_, ?_⟩ <;> (refine Nat.le_trans (crash_len _ _ _) ?_; omega)
    · exact crashG_fl (fun q hq => h q (List.mem_cons_of_mem _ hq)) z hz
theorem wf_crash {k : Nat} {f : SFs} {keep : List Bool} {d : Int} (h : fWf k f) : fWf k (crashR f keep d) := by
  have e1 := crashG_ids ((undoL f.nodes (f.pend.drop d.toNat).reverse).filter (·.no.there)) keep; refine ⟨?_, Nat.zero_le _, crashG_fl fun z hz => undoL_fl h.fl z (List.mem_filter.1 hz).1, fun c hc => absurd hc List.not_mem_nil, h.room, ?_⟩
  · have e2 := congrArg List.length e1
    have e3 := congrArg List.length (undoL_ids (f.pend.drop d.toNat).reverse f.nodes); simp only [List.length_map] at e2 e3; show (crashG _ _).length ≤ k; rw [e2]; refine Nat.le_trans (List.length_filter_le _ _) ?_; rw [e3]; exact h.n
  · show ((crashG _ _).map _).Nodup
    rw [e1]; have := undoL_ids (f.pend.drop d.toNat).reverse f.nodes; exact ((this ▸ h.nd : ((undoL f.nodes (f.pend.drop d.toNat).reverse).map (·.id)).Nodup)).sublist (List.filter_sublist.map _)
/-- The blocks of a directory. -/
def fBl (b : Nat) (v0 v1 : Value) (l : List SNd) : List Nat := b :: (vblock v0).toList ++ ((vblock v1).toList ++ ndB l)
/-- A directory in memory, in the blocks of fp alone. -/
def FsO (k : Nat) (fp : List Nat) (w : World) (Q : Nat → Prop) (b : Nat) (f : SFs) : Prop :=
  ∃ v0 v1, fp = fBl b v0 v1 f.nodes ∧ Blk w b (SFs.cells f v0 v1) 80 ∧ ¬ Q b ∧ SFs.ok f ∧ Ow tNd 82 (fun _ => True) w Q v0 f.nodes ∧ Ow tSCh 92 (fun _ => True) w Q v1 f.pend ∧ Nds 90 125 (fun _ => True) w Q f.nodes ∧ fWf k f
section
variable {k : Nat} {fp S : List Nat} {w w' : World} {Q Q' : Nat → Prop} {b : Nat} {f : SFs}
theorem FsO.wf (h : FsO k fp w Q b f) : fWf k f := by obtain ⟨_, _, _, _, _, _, _, _, _, h⟩ := h; exact h
theorem FsO.up {k' : Nat} (h : FsO k fp w Q b f) (hk : k ≤ k') : FsO k' fp w Q b f := by obtain ⟨v0, v1, h1, h2, h3, h4, h5, h6, h7, h8⟩ := h; exact ⟨v0, v1, h1, h2, h3, h4, h5, h6, h7, h8.up hk⟩
theorem FsO.lt (h : FsO k fp w Q b f) : ∀ x ∈ fp, x < w.heap.size ∧ ¬ Q x := by
  obtain ⟨v0, v1, rfl, h2, h3, h4, h5, h6, h7, h8⟩ := h; intro x hx; unfold fBl at hx; simp only [List.mem_append, List.mem_cons, Option.mem_toList] at hx; rcases hx with (rfl | hx) | hx | hx
  · exact ⟨h2.lt, h3⟩
  · exact ⟨h5.lt x hx, (h5.2 x hx).2⟩
  · exact ⟨h6.lt x hx, (h6.2 x hx).2⟩
  · exact ⟨h7.ltB x hx, h7.nQB x hx⟩
theorem FsO.md (h : FsO k fp w Q b f) (m : Md S w w') (ha : ∀ x ∈ fp, x ∉ S) (hs : ∀ b ∈ S, ¬ Q b) : FsO k fp w' Q b f := by
  obtain ⟨v0, v1, rfl, h2, h3, h4, h5, h6, h7, h8⟩ := h; refine ⟨v0, v1, rfl, h2.md m (ha _ (by simp [fBl])), h3, h4, h5.md m (fun x hx => ha _ (by simp [fBl, hx])) hs, h6.md m (fun x hx => ha _ (by simp [fBl, hx])) hs, h7.md m (h7.apB fun x hx => ha _ (by simp [fBl, hx])) hs, h8⟩
theorem FsO.md0 (h : FsO k fp w Q b f) (m : Md [] w w') : FsO k fp w' Q b f := h.md m (fun _ _ => List.not_mem_nil) (fun _ hb => absurd hb List.not_mem_nil)
theorem fBl_in {b : Nat} {v0 v1 : Value} {l : List SNd} {S : List Nat} {w : World} (hb : b ∈ S) (h0 : ∀ x, vblock v0 = some x → Fsh S w x) (h1 : ∀ x, vblock v1 = some x → Fsh S w x) (h2 : ∀ x ∈ ndB l, Fsh S w x) : ∀ x ∈ fBl b v0 v1 l, x ∈ S ∨ w.heap.size ≤ x := by
  intro x hx; unfold fBl at hx; simp only [List.mem_append, List.mem_cons, Option.mem_toList] at hx; rcases hx with (rfl | hx) | hx | hx
  · exact .inl hb
  · exact h0 x hx
  · exact h1 x hx
  · exact h2 x hx
theorem FsO.back {v0 v1 : Value} {m : SFs} (g0 : Blk w' b (SFs.cells m v0 v1) 80) (gn : ¬ Q' b) (gk : SFs.ok m) (o1 : Ow tNd 82 (Fsh S w) w' Q' v0 m.nodes) (o2 : Ow tSCh 92 (Fsh S w) w' Q' v1 m.pend) (hN : Nds 90 125 (Fsh S w) w' Q' m.nodes) (hb : b ∈ S) (wf : fWf k m) :
    FsO k (fBl b v0 v1 m.nodes) w' Q' b m ∧ ∀ x ∈ fBl b v0 v1 m.nodes, x ∈ S ∨ w.heap.size ≤ x :=
  ⟨⟨v0, v1, rfl, g0, gn, gk, o1.reP fun _ _ => trivial, o2.reP fun _ _ => trivial, hN.reP fun _ _ => trivial, wf⟩, fBl_in hb (fun x hx => (o1.2 x hx).1) (fun x hx => (o2.2 x hx).1) hN.loB⟩
end

end Go.Proofs.Ytcaokfendkkafaa
namespace Go.Proofs.Ytcaokfendkkafaa
open Go Go.Wk Go.RowKit
set_option linter.unusedVariables false
set_option linter.unusedSimpArgs false
attribute [local irreducible] wpList wpQuiet wpStill wpMix Code.wp Calls bodyPost

/-- What a call leaves that changes a directory. -/
def FsPost (k : Nat) (fp : List Nat) (w : World) (Q : Nat → Prop) (b : Nat) (w' : World) (G : SFs → Prop) : Prop :=
  ∃ m fp' Q', Md fp w w' ∧ NewQ w w' Q Q' ∧ (∀ x ∈ fp', x ∈ fp ∨ w.heap.size ≤ x) ∧ FsO k fp' w' Q' b m ∧ G m
section
variable {k : Nat} {fp : List Nat} {w : World} {Q : Nat → Prop} {b : Nat} {f : SFs}
theorem fBl_mem (b : Nat) (v0 v1 : Value) (l : List SNd) : b ∈ fBl b v0 v1 l := by simp [fBl]
theorem FsO.tot (h : fWf k f) (hk : k ≤ 100000) : (totF f.nodes).2 ≤ 1000000000000 ∧ f.nodes.length ≤ 1000000 ∧ f.pend.length ≤ 1000000 ∧ (∀ x ∈ f.nodes, x.fl.b.length ≤ 1000000) ∧ (∀ x ∈ f.nodes, x.fl.safe.length ≤ 1000000) ∧ (∀ x ∈ f.nodes, x.fl.b.length ≤ 1000000 ∧ x.fl.safe.length ≤ 1000000) := by
  have h1 := tot_le h.fl h.n; have h2 : k * 32768 ≤ 100000 * 32768 := Nat.mul_le_mul_right _ hk; have h3 := h.n; have h4 := h.p; exact ⟨by omega, by omega, by omega, fun x hx => by have := (h.fl x hx).1; omega, fun x hx => by have := (h.fl x hx).2; omega, fun x hx => by have := h.fl x hx; omega⟩
theorem make_new {m : SFs} {s : List UInt8} {i j r : Nat} (e : makeR f s i j = (r, m)) (hn : (m.nodes.map (·.id)).Nodup) : i ∉ f.nodes.map (·.id) ∨ r ≠ 0 := by
  unfold makeR at e
  split at e
  · cases e; exact .inr (by decide)
  · split at e
    · rename_i h _; cases e; exact .inr h
    · split at e
      · cases e; exact .inr (by decide)
      · split at e
        · rename_i h; rw [e] at h; exact .inr h
        · cases e
          refine .inl fun hm => ?_; rw [List.map_append, List.nodup_append] at hn; exact hn.2.2 i hm i (by simp) rfl
theorem oMake (uQ : Up w Q) (hF : FsO k fp w Q b f) (s : List UInt8) (p0 : s.length ≤ 1000000) (hk : k ≤ 100000) :
    Calls Try.prog 16 #[.pointer (some ⟨b, 0, none⟩), str s] w fun en w' => ∃ r : Nat, en = .returned (.int .i64 ((r : Nat) : Int)) ∧ r < 9223372036854775808 ∧ FsPost (k + 1) fp w Q b w' fun m => ∃ i j, makeR f s i j = (r, m) := by
  obtain ⟨v0, v1, rfl, h0, n0, ok, o1, o2, hN, wf⟩ := hF; obtain ⟨t1, t2, t3, t4, t5, t6⟩ := FsO.tot wf hk; refine (fMake_any uQ f h0 n0 ok o1 o2 hN s p0 t1 t2 t3).mono ?_; rintro en w' ⟨r, m, u0, u1, Q', rfl, hm, hq, hr, g0, gn, gk, go1, go2, gN, hE⟩; have := FsO.back (k := k + 1) g0 gn gk go1 go2 gN (fBl_mem b v0 v1 f.nodes) (wf_make wf (make_new hE gN.ids) hE); exact ⟨r, rfl, hr, m, _, Q', hm, hq, this.2, this.1, _, _, hE⟩
theorem oWrite (uQ : Up w Q) (hF : FsO k fp w Q b f) (s : List UInt8) (p : Int) (a2 : -9223372036854775808 ≤ p ∧ p < 9223372036854775808) {v3 : Value} {x : List UInt8} (h3 : Ls tB8 w Q v3 x) (p0 : s.length ≤ 1000000) (hk : k ≤ 100000) :
    Calls Try.prog 22 #[.pointer (some ⟨b, 0, none⟩), str s, .int .i64 (p : Int), v3] w fun en w' => ∃ r : Nat, en = .returned (.int .i64 ((r : Nat) : Int)) ∧ r < 9223372036854775808 ∧ FsPost (k + 1) fp w Q b w' fun m => ∃ j, writeR f s p x j = (r, m) := by
  obtain ⟨v0, v1, rfl, h0, n0, ok, o1, o2, hN, wf⟩ := hF; obtain ⟨t1, t2, t3, t4, t5, t6⟩ := FsO.tot wf hk; refine (fWrite_any uQ f h0 n0 ok o1 o2 hN s p a2 h3 p0 t1 t2 t3 t4 t5).mono ?_; rintro en w' ⟨r, m, u0, u1, Q', rfl, hm, hq, hr, g0, gn, gk, go1, go2, gN, j, hE⟩; have := FsO.back (k := k + 1) g0 gn gk go1 go2 gN (fBl_mem b v0 v1 f.nodes) (wf_write wf hE); exact ⟨r, rfl, hr, m, _, Q', hm, hq, this.2, this.1, _, hE⟩
theorem oSync (uQ : Up w Q) (hF : FsO k fp w Q b f) (s : List UInt8) (p0 : s.length ≤ 1000000) (hk : k ≤ 100000) :
    Calls Try.prog 24 #[.pointer (some ⟨b, 0, none⟩), str s] w fun en w' => ∃ r : Nat, en = .returned (.int .i64 ((r : Nat) : Int)) ∧ r < 9223372036854775808 ∧ FsPost (k + 1) fp w Q b w' fun m => syncR f s = (r, m) := by
  obtain ⟨v0, v1, rfl, h0, n0, ok, o1, o2, hN, wf⟩ := hF; obtain ⟨t1, t2, t3, t4, t5, t6⟩ := FsO.tot wf hk; refine (fSync_any uQ f h0 n0 ok o1 o2 hN s p0 trivial t2 t3 t4).mono ?_; rintro en w' ⟨r, m, u0, u1, Q', rfl, hm, hq, hr, g0, gn, gk, go1, go2, gN, hE⟩; have := FsO.back (k := k + 1) g0 gn gk go1 go2 gN (fBl_mem b v0 v1 f.nodes) (wf_sync wf hE); exact ⟨r, rfl, hr, m, _, Q', hm, hq, this.2, this.1, hE⟩
theorem oDrop (uQ : Up w Q) (hF : FsO k fp w Q b f) (s : List UInt8) (p0 : s.length ≤ 1000000) (hk : k ≤ 100000) :
    Calls Try.prog 20 #[.pointer (some ⟨b, 0, none⟩), str s] w fun en w' => ∃ r : Nat, en = .returned (.int .i64 ((r : Nat) : Int)) ∧ r < 9223372036854775808 ∧ FsPost (k + 1) fp w Q b w' fun m => dropR f s = (r, m) := by
  obtain ⟨v0, v1, rfl, h0, n0, ok, o1, o2, hN, wf⟩ := hF; obtain ⟨t1, t2, t3, t4, t5, t6⟩ := FsO.tot wf hk; refine (fDrop_any uQ f h0 n0 ok o1 o2 hN s p0 trivial t2 t3 t4).mono ?_; rintro en w' ⟨r, m, u0, u1, Q', rfl, hm, hq, hr, g0, gn, gk, go1, go2, gN, hE⟩; have := FsO.back (k := k + 1) g0 gn gk go1 go2 gN (fBl_mem b v0 v1 f.nodes) (wf_drop wf hE); exact ⟨r, rfl, hr, m, _, Q', hm, hq, this.2, this.1, hE⟩
theorem oRename (uQ : Up w Q) (hF : FsO k fp w Q b f) (s t : List UInt8) (p0 : s.length ≤ 1000000) (p1 : t.length ≤ 1000000) (hk : k ≤ 100000) :
    Calls Try.prog 28 #[.pointer (some ⟨b, 0, none⟩), str s, str t] w fun en w' => ∃ r : Nat, en = .returned (.int .i64 ((r : Nat) : Int)) ∧ r < 9223372036854775808 ∧ FsPost (k + 1) fp w Q b w' fun m => renameR f s t = (r, m) := by
  obtain ⟨v0, v1, rfl, h0, n0, ok, o1, o2, hN, wf⟩ := hF; obtain ⟨t1, t2, t3, t4, t5, t6⟩ := FsO.tot wf hk; refine (fRename_any uQ f h0 n0 ok o1 o2 hN s t p0 p1 t2 t3).mono ?_; rintro en w' ⟨r, m, u0, u1, Q', rfl, hm, hq, hr, g0, gn, gk, go1, go2, gN, hE⟩; have := FsO.back (k := k + 1) g0 gn gk go1 go2 gN (fBl_mem b v0 v1 f.nodes) (wf_ren wf hE); exact ⟨r, rfl, hr, m, _, Q', hm, hq, this.2, this.1, hE⟩
theorem oSyncDir (uQ : Up w Q) (hF : FsO k fp w Q b f) :
    Calls Try.prog 15 #[.pointer (some ⟨b, 0, none⟩)] w fun en w' => ∃ r : Nat, en = .returned (.int .i64 ((r : Nat) : Int)) ∧ r < 9223372036854775808 ∧ FsPost (k + 1) fp w Q b w' fun m => syncDirR f = (r, m) := by
  obtain ⟨v0, v1, rfl, h0, n0, ok, o1, o2, hN, wf⟩ := hF; refine (fSyncDir_any uQ f h0 n0 ok o1 o2 hN).mono ?_; rintro en w' ⟨r, m, u0, u1, Q', rfl, hm, hq, hr, g0, gn, gk, go1, go2, gN, hE⟩; have := FsO.back (k := k + 1) g0 gn gk go1 go2 gN (fBl_mem b v0 v1 f.nodes) (wf_dir wf hE); exact ⟨r, rfl, hr, m, _, Q', hm, hq, this.2, this.1, hE⟩
theorem oCrash (uQ : Up w Q) (hF : FsO k fp w Q b f) {v1 : Value} {keep : List Bool} (h1 : Ls tBool w Q v1 keep) (dirs : Int) (a2 : -9223372036854775808 ≤ dirs ∧ dirs < 9223372036854775808) (hk : k ≤ 100000) :
    Calls Try.prog 17 #[.pointer (some ⟨b, 0, none⟩), v1, .int .i64 (dirs : Int)] w fun en w' => en = .returned (.tuple #[]) ∧ FsPost k fp w Q b w' fun m => crashR f keep dirs = m := by
  obtain ⟨v0, v1, rfl, h0, n0, ok, o1, o2, hN, wf⟩ := hF; obtain ⟨t1, t2, t3, t4, t5, t6⟩ := FsO.tot wf hk; refine (fCrash_any uQ f h0 n0 ok o1 o2 hN h1 dirs a2 t2 t3 wf.ch t6).mono ?_; rintro en w' ⟨m, u0, u1, Q', rfl, hm, hq, g0, gn, gk, go1, go2, gN, hE⟩; subst hE; have := FsO.back (k := k) g0 gn gk go1 go2 gN (fBl_mem b v0 v1 f.nodes) (wf_crash wf); exact ⟨rfl, _, _, Q', hm, hq, this.2, this.1, rfl⟩
theorem oNames (uQ : Up w Q) (hF : FsO k fp w Q b f) (hk : k ≤ 100000) :
    Calls Try.prog 18 #[.pointer (some ⟨b, 0, none⟩)] w fun en w' => ∃ u0 : Value, ∃ r0 : List (List UInt8), en = .returned (u0) ∧ Md [] w w' ∧ Ls tStr w' Q u0 r0 ∧ namesD f = r0 := by
  obtain ⟨v0, v1, rfl, h0, n0, ok, o1, o2, hN, wf⟩ := hF; exact fNames_any uQ f h0 n0 ok o1 o2 hN (FsO.tot wf hk).2.1
theorem oAll (uQ : Up w Q) (hF : FsO k fp w Q b f) (s : List UInt8) (p0 : s.length ≤ 1000000) (hk : k ≤ 100000) :
    Calls Try.prog 26 #[.pointer (some ⟨b, 0, none⟩), str s] w fun en w' => ∃ u0 : Value, ∃ r0 : List UInt8, ∃ r1 : Nat, en = .returned (.tuple #[u0, (.int .i64 ((r1 : Nat) : Int))]) ∧ Md [] w w' ∧ Ls tB8 w' Q u0 r0 ∧ r1 < 9223372036854775808 ∧ allF f.off f.nodes s = (r0, r1) := by
  obtain ⟨v0, v1, rfl, h0, n0, ok, o1, o2, hN, wf⟩ := hF; exact fAll_any uQ f h0 n0 ok o1 o2 s hN p0 (FsO.tot wf hk).2.2.2.1
theorem oNew (uQ : Up w Q) (r : Int) (a0 : -9223372036854775808 ≤ r ∧ r < 9223372036854775808) (p0 : 4096 ≤ r) (p1 : r ≤ 1048576) :
    Calls Try.prog 13 #[.int .i64 (r : Int)] w fun en w' => ∃ o fp Q', en = .returned (.tuple #[.pointer (some ⟨o, 0, none⟩), (.int .i64 ((0 : Nat) : Int))]) ∧ Md [] w w' ∧ NewQ w w' Q Q' ∧ (∀ x ∈ fp, w.heap.size ≤ x) ∧ FsO 0 fp w' Q' o { room := r, fuse := -1, off := false, nodes := [], pend := [] } := by
  refine (fNew_any uQ r a0 p0 p1).mono ?_; rintro en w' ⟨o, u0, u1, r0, r1, Q', rfl, hm, hq, g0, gn, gl, gk, go1, go2, _, hE⟩
  cases hE
  refine ⟨o, fBl o u0 u1 [], Q', rfl, hm, hq, ?_, ⟨u0, u1, rfl, g0, gn, gk, go1.reP fun _ _ => trivial, go2.reP fun _ _ => trivial, Nds.nil _ _ _ _ _, ⟨Nat.le_refl _, Nat.le_refl _, fun x hx => absurd hx List.not_mem_nil, fun x hx => absurd hx List.not_mem_nil, by show 0 ≤ r; omega, List.nodup_nil⟩⟩⟩; intro x hx; unfold fBl at hx; simp only [List.mem_append, List.mem_cons, Option.mem_toList] at hx; rcases hx with (rfl | hx) | hx | hx
  · exact gl
  · exact (go1.2 x hx).1.elim (fun h => absurd h List.not_mem_nil) id
  · exact (go2.2 x hx).1.elim (fun h => absurd h List.not_mem_nil) id
  · exact absurd hx (by simp [ndB])
end

end Go.Proofs.Ytcaokfendkkafaa
namespace Go.Proofs.Ytcaokfendkkafaa
open Go Go.Wk Go.RowKit
set_option linter.unusedVariables false
set_option linter.unusedSimpArgs false
attribute [local irreducible] wpList wpQuiet wpStill wpMix Code.wp Calls bodyPost

theorem burn_free {f : SFs} (h : f.fuse = -1) : burnF f = (0, f) := burn_2 (by omega) (by omega)
theorem may_ok {s : List UInt8} (h : fnameF s = true) : mayF false [s] = 0 := by unfold mayF; simp [h]
theorem getF_none {f : SFs} {s : List UInt8} (ho : f.off = false) (h : fnameF s = true) (hq : findN f.nodes s = none) : getF f.off f.nodes s = (none, 16) := by unfold getF; rw [ho, may_ok h, hq]; rfl
theorem getF_hit {f : SFs} {s : List UInt8} {x : SNd} (ho : f.off = false) (h : fnameF s = true) (hq : findN f.nodes s = some x) : mayF f.off [s] = 0 ∧ findN f.nodes s = some x := ⟨by rw [ho, may_ok h], hq⟩
theorem make_free {f : SFs} {s : List UInt8} {i j : Nat} (ho : f.off = false) (hf : f.fuse = -1) (hn : fnameF s = true) (hq : findN f.nodes s = none) (ht : (totF f.nodes).1 < 24) : makeR f s i j = (0, { f with nodes := f.nodes ++ [⟨i, ⟨s, true, j⟩, ⟨[], []⟩⟩], pend := f.pend ++ [⟨0, i, [], none⟩] }) :=
  make_0 (getF_none ho hn hq) rfl (a := (totF f.nodes).1) (z := (totF f.nodes).2) rfl (by omega) (burn_free hf) rfl
theorem dir_free {f : SFs} (ho : f.off = false) (hf : f.fuse = -1) : syncDirR f = (0, settleF f) := syncDir_0 (c := 0) (by rw [ho]; rfl) rfl (burn_free hf) rfl
theorem crashG_nm : ∀ (l : List SNd) (k : List Bool), (crashG l k).map (fun x => (x.no.nm, x.no.there)) = l.map (fun x => (x.no.nm, x.no.there))
  | [], _ => rfl
  | z :: r, k => by rw [crashG]; simp only [List.map_cons]; rw [crashG_nm r]
theorem nm_of {l l' : List SNd} (h : l.map (fun x => (x.no.nm, x.no.there)) = l'.map (fun x => (x.no.nm, x.no.there))) : (l.filter (·.no.there)).map (·.no.nm) = (l'.filter (·.no.there)).map (·.no.nm) := by
  have key : ∀ l : List SNd, (l.filter (·.no.there)).map (·.no.nm) = ((l.map (fun x => (x.no.nm, x.no.there))).filter (·.2)).map (·.1) := by
    intro l
    induction l with
    | nil => rfl
    | cons x l ih =>
      rw [List.filter_cons, List.map_cons, List.filter_cons]; simp only
      split <;> simp [ih]
  rw [key l, key l', h]
theorem names_len {f : SFs} (ho : f.off = false) : (namesD f).length = (f.nodes.filter (·.no.there)).length := by
  unfold namesD nmF; rw [sortL_len, ho]; simp
theorem names_crash (f : SFs) (keep : List Bool) (d : Int) : (namesD (crashR f keep d)).length = ((undoL f.nodes (f.pend.drop d.toNat).reverse).filter (·.no.there)).length := by
  rw [names_len (by rfl)]; show ((crashG _ _).filter _).length = _; have := congrArg List.length (nm_of (crashG_nm ((undoL f.nodes (f.pend.drop d.toNat).reverse).filter (·.no.there)) keep)); simp only [List.length_map] at this; rw [this, List.filter_filter]; simp
/-- All changes are of files that were made: they are not there any more. -/
theorem undo_made : ∀ {r : List SCh} {l : List SNd}, (∀ c ∈ r, c.kind = 0) → undoL l r = l.map fun z => if z.id ∈ r.map (·.n) then { z with no := { z.no with there := false } } else z
  | [], l, _ => by simp [undoL]
  | c :: r, l, h => by
    rw [undoL, undo_made fun q hq => h q (List.mem_cons_of_mem _ hq)]; unfold undoN updN; rw [if_pos (h c List.mem_cons_self), List.map_map]; refine List.map_congr_left fun z _ => ?_; simp only [Function.comp_apply, List.map_cons, List.mem_cons]; by_cases h1 : z.id = c.n
    · rw [if_pos h1]; simp [h1]
    · rw [if_neg h1]; simp [h1]
end Go.Proofs.Ytcaokfendkkafaa
namespace Go.Proofs.Ytcaokfendkkafaa
open Go Go.Wk Go.RowKit
set_option linter.unusedVariables false
set_option linter.unusedSimpArgs false
attribute [local irreducible] wpList wpQuiet wpStill wpMix Code.wp Calls bodyPost

theorem kNumber_any {w : World} {Q : Nat → Prop} (uQ : Up w Q) (k : Int) (a0 : (-9223372036854775808 ≤ k ∧ k < 9223372036854775808)) (n : Nat) (a1 : n < 9223372036854775808) (p0 : n ≤ 1000000) :
    Calls Try.prog 14 #[(.int .i64 (k : Int)), (.int .i64 ((n : Nat) : Int))] w fun en w' => ∃ r0 : Nat, en = .returned (.int .i64 ((r0 : Nat) : Int)) ∧ Md [] w w' ∧ r0 < 9223372036854775808 ∧ numF k n = r0 := by
  have M := Md.refl [] w; have uQ0 := uQ; have tQ : ∀ b, Q b → Q b := fun _ h => h; have sQ0 : ∀ b, Q b → b < w.heap.size → Q b := fun _ h _ => h; refine enter (n := 14) Try.func14 rfl rfl rfl ?_; intro B; refine ns ?_; refine asg rfl ?_; refine nt ?_; refine c_seq ?_; refine ns ?_; refine mv rfl ?_; refine st _ (r_ltN (a := n) (b := 1) rfl rfl) ?_; refine nt ?_; refine c_if rfl (fun h6 => ?_) (fun h6 => ?_)
  · (first | (have h6n := of_decide_eq_true h6) | (have h6n := of_decide_eq_false (bnt h6)) | (have h6n := bnt h6) | (have h6n := h6)); refine ns ?_; refine asg rfl ?_; refine nt ?_; refine c_ret ?_; refine r_then ?_; exact ret1L (v := (.int .i64 ((0 : Nat) : Int))) trivial rfl ⟨rfl, trivial⟩ ⟨0, rfl, M, (by first | assumption | omega | simp_all), (by rw [numF] <;> simp (disch := first | omega | assumption | (simp; done) | fail) only [if_pos, if_neg, Option.getD_some, Option.some.injEq, reduceIte, Bool.false_eq_true, Bool.true_eq_false, decide_true, decide_false, not_true_eq_false, not_false_eq_true, h6n])⟩
  · (first | (have h6n := of_decide_eq_false h6) | (have h6n := of_decide_eq_true (bnf h6)) | (have h6n := bnf h6) | (have h6n := h6)); refine c_skip ?_; refine c_then ?_; refine ns ?_; refine mv rfl ?_; refine mv rfl ?_; refine st _ (r_remZ (a := k) (b := ((n : Nat) : Int)) rfl rfl (by omega)) ?_; refine mv rfl ?_; have hg := num_ge (k := k) h6n; refine st _ (r_addI (a := k.tmod (((n : Nat) : Int))) (b := ((n : Nat) : Int)) rfl rfl (by omega)) ?_; refine mv rfl ?_; refine st _ (((r_remZ (a := k.tmod (((n : Nat) : Int)) + ((n : Nat) : Int)) (b := ((n : Nat) : Int)) rfl rfl (by omega)).castI (Int.toNat_of_nonneg (Int.tmod_nonneg _ (by omega))).symm)) ?_; have hq := Int.tmod_lt_of_pos (k.tmod (n : Int) + (n : Int)) (show (0 : Int) < n by omega); refine asg rfl ?_; refine nt ?_; refine c_ret ?_; exact ret1L (v := (.int .i64 ((((k.tmod (((n : Nat) : Int)) + ((n : Nat) : Int)).tmod (((n : Nat) : Int))).toNat : Nat) : Int))) trivial rfl ⟨rfl, trivial⟩ ⟨((k.tmod (((n : Nat) : Int)) + ((n : Nat) : Int)).tmod (((n : Nat) : Int))).toNat, rfl, M, (by first | assumption | omega | simp_all), (by rw [numF] <;> simp (disch := first | omega | assumption | (simp; done) | fail) only [if_pos, if_neg, Option.getD_some, Option.some.injEq, reduceIte, Bool.false_eq_true, Bool.true_eq_false, decide_true, decide_false, not_true_eq_false, not_false_eq_true, h6n])⟩
end Go.Proofs.Ytcaokfendkkafaa
namespace Go.Proofs.Ytcaokfendkkafaa
open Go Go.Wk Go.RowKit
set_option linter.unusedVariables false
set_option linter.unusedSimpArgs false
attribute [local irreducible] wpList wpQuiet wpStill wpMix Code.wp Calls bodyPost
theorem fn13 : isFn Try.prog 13 = true := by kernel_rfl
theorem fn16 : isFn Try.prog 16 = true := by kernel_rfl
theorem fn17 : isFn Try.prog 17 = true := by kernel_rfl
theorem fn18 : isFn Try.prog 18 = true := by kernel_rfl
theorem u23 : Try.prog.underlying 23 = some (.pointer 80) := by kernel_rfl

theorem fFirst_any {w : World} {Q : Nat → Prop} (uQ : Up w Q)  :
    Calls Try.prog 12 #[] w fun en w' => ∃ r0 : Bool, en = .returned (.bool r0) ∧ Md [] w w' ∧ true = r0 := by
  have M := Md.refl [] w; have uQ0 := uQ; have tQ : ∀ b, Q b → Q b := fun _ h => h; have sQ0 : ∀ b, Q b → b < w.heap.size → Q b := fun _ h _ => h; refine enter (n := 30) Try.func12 rfl rfl rfl ?_; intro B; refine ns ?_; refine asg rfl ?_; refine nt ?_; refine ns ?_; refine st_call fn13 rfl (oNew uQ (4096) (by omega) (by first | omega | (simp <;> omega)) (by first | omega | (simp <;> omega))) ?_; rintro en w1 ⟨bFO1, fpFO1, Q2, rfl, hm, ⟨sQ, sT, uQ2⟩, hfp1, FO1⟩; refine ⟨_, rfl, ?_⟩; have r_FO1 : ∀ x ∈ fpFO1, Fsh [] w x := fun x hx => Fsh.new M x (hfp1 x hx); replace tQ := fun b hb => tQ b (sT b hb); replace sQ0 := fun b hb hl => sQ b (sQ0 b hb hl) (Nat.lt_of_lt_of_le hl M.size); replace uQ := uQ.md hm; replace M := M.step0 hm; clear uQ; have uQ := uQ2; clear uQ2 sQ sT; refine mv rfl ?_; refine st _ (r_extract rfl rfl) ?_; refine st _ (r_extract rfl rfl) ?_; refine asg rfl ?_; refine asg rfl ?_; refine nt ?_; refine c_seq ?_; refine ns ?_; refine mv rfl ?_; refine st _ (r_neN (a := 0) (b := 0) rfl rfl) ?_; refine mv rfl ?_; refine part_n (t := 9) rfl (fun h9 => ?_) (fun h9 => ?_)
  · (first | (have h9n := of_decide_eq_true h9) | (have h9n := of_decide_eq_false (bnt h9)) | (have h9n := bnt h9) | (have h9n := h9)); exfalso; omega
  · (first | (have h9n := of_decide_eq_false h9) | (have h9n := of_decide_eq_true (bnf h9)) | (have h9n := bnf h9) | (have h9n := h9)); refine st_g _ rfl rfl rfl h9 (r_move rfl) ?_; refine st_g _ rfl rfl rfl h9 (r_eqlPN rfl u23) ?_; refine st _ (r_pick_f rfl h9 rfl) ?_; refine mv rfl ?_; refine st_g _ rfl rfl rfl rfl (r_move rfl) ?_; refine st_call_g rfl rfl rfl rfl fn16 rfl (oMake uQ FO1 (([97] : List UInt8)) (by first | omega | (simp <;> omega) | decide) (by first | omega | (simp <;> omega))) ?_; rintro en w3 ⟨x3_0, rfl, q3_0, m3, fp3, Q4, hm, ⟨sQ, sT, uQ2⟩, hfp, GFO1, hF3⟩; refine ⟨_, rfl, ?_⟩; have hS : ∀ b ∈ fpFO1, ¬ Q4 b := fun b hb hq => (FO1.lt b hb).2 (sT b hq); have r9 : ∀ x ∈ fp3, Fsh [] w x := fun x hx => (hfp x hx).elim (r_FO1 x) (Fsh.new M x); replace tQ := fun b hb => tQ b (sT b hb); replace sQ0 := fun b hb hl => sQ b (sQ0 b hb hl) (Nat.lt_of_lt_of_le hl M.size); replace M := M.step hm r_FO1; clear uQ r_FO1 FO1; have uQ := uQ2; have r_FO1 := r9; have FO1 := GFO1; clear uQ2 r9 GFO1 sQ sT hS hfp hm; replace FO1 : FsO (1) _ _ _ _ _ := FO1; obtain ⟨i0, j0, hmk⟩ := hF3; rw [make_free rfl rfl (by decide) rfl (by decide)] at hmk; obtain ⟨hx0, hm0⟩ := Prod.mk.inj hmk; refine st_g _ rfl rfl rfl rfl (r_neN (a := x3_0) (b := 0) rfl rfl) ?_; refine st _ (r_pick_f rfl rfl rfl) ?_; refine mv rfl ?_; refine part_n (t := 18) rfl (fun h18 => ?_) (fun h18 => ?_)
    · (first | (have h18n := of_decide_eq_true h18) | (have h18n := of_decide_eq_false (bnt h18)) | (have h18n := bnt h18) | (have h18n := h18)); exfalso; omega
    · (first | (have h18n := of_decide_eq_false h18) | (have h18n := of_decide_eq_true (bnf h18)) | (have h18n := bnf h18) | (have h18n := h18)); refine st_g _ rfl rfl rfl h18 (r_move rfl) ?_; refine st_call_g rfl rfl rfl h18 fn18 rfl (oNames uQ FO1 (by first | omega | (simp <;> omega))) ?_; rintro en w5 ⟨v5_0, x5_0, rfl, hm, h5_0, hF5⟩; refine ⟨_, rfl, ?_⟩; replace FO1 := FO1.md0 hm; replace uQ := uQ.md hm; replace M := M.step0 hm; have nl := congrArg List.length hF5; rw [names_len (by rw [← hm0]), ← hm0] at nl; have nl1 : 1 = x5_0.length := nl; refine st_g _ rfl rfl rfl h18 (r_len rfl u30 h5_0.shp) ?_; refine st_g _ rfl rfl rfl h18 (r_neN (a := x5_0.length) (b := 1) rfl rfl) ?_; refine st _ (r_pick_f rfl h18 rfl) ?_; refine nt ?_; refine c_if rfl (fun h23 => ?_) (fun h23 => ?_)
      · (first | (have h23n := of_decide_eq_true h23) | (have h23n := of_decide_eq_false (bnt h23)) | (have h23n := bnt h23) | (have h23n := h23)); exfalso; omega
      · (first | (have h23n := of_decide_eq_false h23) | (have h23n := of_decide_eq_true (bnf h23)) | (have h23n := bnf h23) | (have h23n := h23)); refine c_skip ?_; refine c_then ?_; refine ns ?_; refine mv rfl ?_; refine st_call fn17 rfl (oCrash uQ FO1 (Ls.nil tBool _ _) (0) (by omega) (by first | omega | (simp <;> omega))) ?_; rintro en w6 ⟨rfl, m6, fp6, Q7, hm, ⟨sQ, sT, uQ2⟩, hfp, GFO1, hF6⟩; refine ⟨_, rfl, ?_⟩; have hS : ∀ b ∈ fp3, ¬ Q7 b := fun b hb hq => (FO1.lt b hb).2 (sT b hq); replace h5_0 := (h5_0.sub sQ).md hm hS; have r9 : ∀ x ∈ fp6, Fsh [] w x := fun x hx => (hfp x hx).elim (r_FO1 x) (Fsh.new M x); replace tQ := fun b hb => tQ b (sT b hb); replace sQ0 := fun b hb hl => sQ b (sQ0 b hb hl) (Nat.lt_of_lt_of_le hl M.size); replace M := M.step hm r_FO1; clear uQ r_FO1 FO1; have uQ := uQ2; have r_FO1 := r9; have FO1 := GFO1; clear uQ2 r9 GFO1 sQ sT hS hfp hm; replace FO1 : FsO (1) _ _ _ _ _ := FO1; refine nt ?_; refine ns ?_; refine mv rfl ?_; refine st_call fn18 rfl (oNames uQ FO1 (by first | omega | (simp <;> omega))) ?_; rintro en w8 ⟨v8_0, x8_0, rfl, hm, h8_0, hF8⟩; refine ⟨_, rfl, ?_⟩; replace FO1 := FO1.md0 hm; replace h5_0 := h5_0.md0 hm; replace uQ := uQ.md hm; replace M := M.step0 hm; have nl2 := congrArg List.length hF8; rw [← hF6, names_crash, ← hm0] at nl2; have nl3 : 0 = x8_0.length := (by rw [← nl2]; show 0 = ((undoL _ [_]).filter _).length; rw [undo_made (by intro c hc; rw [List.mem_singleton] at hc; subst hc; rfl)]; simp); refine st _ (r_len rfl u30 h8_0.shp) ?_; refine st _ (r_eqN (a := x8_0.length) (b := 0) rfl rfl) ?_; refine asg rfl ?_; refine nt ?_; refine c_ret ?_; exact ret1L (v := (.bool ((decide (x8_0.length = 0))))) trivial rfl ⟨rfl, trivial⟩ ⟨(decide (x8_0.length = 0)), rfl, M, (decide_eq_true (by omega)).symm⟩
end Go.Proofs.Ytcaokfendkkafaa
namespace Go.Proofs.Ytcaokfendkkafaa
open Go Go.Wk Go.RowKit
set_option linter.unusedVariables false
set_option linter.unusedSimpArgs false
attribute [local irreducible] wpList wpQuiet wpStill wpMix Code.wp Calls bodyPost
theorem fn12 : isFn Try.prog 12 = true := by kernel_rfl
theorem fn14 : isFn Try.prog 14 = true := by kernel_rfl
theorem fn15 : isFn Try.prog 15 = true := by kernel_rfl

end Go.Proofs.Ytcaokfendkkafaa
namespace Go.Proofs.Ytcaokfendkkafaa
open Go Go.Wk Go.RowKit
set_option linter.unusedVariables false
set_option linter.unusedSimpArgs false
attribute [local irreducible] wpList wpQuiet wpStill wpMix Code.wp Calls bodyPost

end Go.Proofs.Ytcaokfendkkafaa
namespace Go.Proofs.Ytcaokfendkkafaa
open Go Go.Wk Go.RowKit
set_option linter.unusedVariables false
set_option linter.unusedSimpArgs false
attribute [local irreducible] wpList wpQuiet wpStill wpMix Code.wp Calls bodyPost
theorem fn20 : isFn Try.prog 20 = true := by kernel_rfl
end Go.Proofs.Ytcaokfendkkafaa
namespace Go.Proofs.Ytcaokfendkkafaa
open Go Go.Wk Go.RowKit
set_option linter.unusedVariables false
set_option linter.unusedSimpArgs false
attribute [local irreducible] wpList wpQuiet wpStill wpMix Code.wp Calls bodyPost
theorem elT4 : elT Try.prog 4 1 1 = true := by kernel_rfl
theorem u74 : Try.prog.underlying 74 = some (.int .u64) := by kernel_rfl

theorem outF_none (b s : List UInt8) : ∀ n, outF b s [] n = b.take (n * 512)
  | 0 => by simp [outF]
  | n + 1 => by
    rw [outF, outF_none b s n]; simp only [List.not_mem_nil, if_false]; have hl : (b.take (n * 512)).length = min (n * 512) b.length := List.length_take; by_cases h : n * 512 < b.length
    · have e : secF b n = (b.take ((n + 1) * 512)).drop (n * 512) := by
        unfold secF; rw [Nat.min_eq_left (by omega : n * 512 ≤ b.length)]; by_cases h2 : n * 512 + 512 ≤ b.length
        · rw [Nat.min_eq_left h2, Nat.succ_mul]
        · rw [Nat.min_eq_right (by omega), List.take_of_length_le (Nat.le_refl _), List.take_of_length_le (by omega)]
      have el : (secF b n).length ≠ 0 := (by rw [e, List.length_drop, List.length_take]; omega); rw [if_neg el, hl, Nat.min_eq_left (by omega), Nat.sub_self, List.replicate_zero, List.append_nil, e]; have : b.take (n * 512) = (b.take ((n + 1) * 512)).take (n * 512) := (by rw [List.take_take, Nat.min_eq_left (by omega)]); rw [this, List.take_append_drop]
    · have e : secF b n = [] := by
        unfold secF; rw [Nat.min_eq_right (by omega : b.length ≤ n * 512), List.drop_of_length_le (by rw [List.length_take]; omega)]
      rw [e, if_pos (show ([] : List UInt8).length = 0 from rfl), List.take_of_length_le (by omega), List.take_of_length_le (by omega)]
theorem crash_keep {b s : List UInt8} {keep : List Bool} (h : ∀ i, i < (dirF b s (secN b s)).length → keep.getD i false = true) : crashB b s keep = b := by
  unfold crashB
  have : lostF (dirF b s (secN b s)) keep (dirF b s (secN b s)).length = [] := by
    unfold lostF; rw [List.filter_eq_nil_iff.2, List.map_nil]; intro i hi; rw [h i (List.mem_range.1 hi)]; simp
  rw [this, outF_none, List.take_of_length_le]; unfold secN; omega
theorem crash_same (b : List UInt8) (keep : List Bool) : crashB b b keep = b := by
  refine crash_keep fun i hi => ?_; have : dirF b b (secN b b) = [] := (by unfold dirF; simp); rw [this] at hi; exact absurd hi (Nat.not_lt_zero _)
def keepF (k : Nat) : List Bool := (List.range 64).map fun i => decide ((k / 2 ^ i) &&& 1 = 1)
theorem kKeep_any {w : World} {Q : Nat → Prop} (uQ : Up w Q) (k : Nat) (a0 : k < 18446744073709551616) :
    Calls Try.prog 25 #[(.int .u64 ((k : Nat) : Int))] w fun en w' => ∃ u0 : Value, ∃ r0 : List Bool, en = .returned (u0) ∧ Md [] w w' ∧ Ls tBool w' Q u0 r0 ∧ keepF k = r0 := by
  have M := Md.refl [] w; have uQ0 := uQ; have tQ : ∀ b, Q b → Q b := fun _ h => h; have sQ0 : ∀ b, Q b → b < w.heap.size → Q b := fun _ h _ => h; refine enter (n := 19) Try.func25 rfl rfl rfl ?_; intro B; refine ns ?_; refine asg rfl ?_; refine nt ?_; refine ns ?_; refine asg rfl ?_; refine nt ?_; refine c_seq ?_; refine ns ?_; refine asg rfl ?_; refine nt ?_; refine c_block ?_; refine loop3 (fun (vo : Value) (o : List Bool) (i : Nat) => [(3, vo), (4, (.int .i64 ((i : Nat) : Int))), (0, (.int .u64 ((k : Nat) : Int))), (2, (.slice none 0 0))]) (fun (vo : Value) (o : List Bool) (i : Nat) w' => ∃ Q' : Nat → Prop, (∀ b, Q' b → Q b) ∧ (∀ b, Q b → b < w.heap.size → Q' b) ∧ Up w' Q' ∧ Md [] w w' ∧ Ow tBool 4 (Fsh [] w) w' Q' vo o ∧ o = (List.range i).map (fun i => decide ((k / 2 ^ i) &&& 1 = 1)) ∧ i ≤ 64 ∧ o.length ≤ i) (fun (vo : Value) (o : List Bool) (i : Nat) => 64 - i) (x0 := (.slice none 0 0)) (x1 := ([] : List Bool)) (x2 := 0) ?_ ?_ ?_
  · exact ⟨rfl, rfl, rfl, rfl, trivial⟩
  · exact ⟨Q, tQ, sQ0, uQ, M, (Ow.nil _ _ _ _ _), rfl, (by omega), (by simp)⟩
  · clear M uQ tQ sQ0
    rintro vo o i B w1 ⟨Q2, tQ, sQ0, uQ, M, f_o, i0_0, i0_1, i0_2⟩; refine c_seq ?_; refine ns ?_; refine mv rfl ?_; refine st _ (r_ltN (a := i) (b := 64) rfl rfl) ?_; refine nt ?_; refine c_if rfl (fun h6 => ?_) (fun h6 => ?_)
    · (first | (have h6n := of_decide_eq_true h6) | (have h6n := of_decide_eq_false (bnt h6)) | (have h6n := bnt h6) | (have h6n := h6)); refine c_skip ?_; refine c_then ?_; refine c_seq ?_; refine c_block ?_; refine c_region ?_; refine mv rfl ?_; refine mv rfl ?_; refine mv rfl ?_; refine st _ (r_convN (a := i) 18446744073709551616 rfl (by rw [u3]; rfl) u74 rfl (by first | omega | (have := u8lt; omega))) ?_; refine st _ (r_shrN (a := k) (b := i) 64 rfl rfl rfl (by omega)) ?_; refine st _ (r_andN (a := (k / 2 ^ i)) (b := 1) 18446744073709551616 rfl rfl rfl rfl (by have := Nat.div_le_self k (2 ^ i); omega)) ?_; refine st _ (r_eqN (a := ((k / 2 ^ i) &&& 1)) (b := 1) rfl rfl) ?_; refine st_buildSliceG [[(.bool ((decide (((k / 2 ^ i) &&& 1) = 1))))]] u37 elT4 (by decide) (by decide) rfl rfl ⟨rfl, trivial⟩ ⟨rfl, trivial⟩ rfl (by decide) ?_; intro ba16 w3 ga16 la16 hm ha16; have ya16 := uQ _ ga16; replace f_o := f_o.md0 hm; replace uQ := uQ.md hm; replace M := M.step0 hm; replace ha16 := Ls.of_blk (m := 1) (R := Q2) (T := tBool) (xs := [(decide (((k / 2 ^ i) &&& 1) = 1))]) ha16 ⟨_, _, rfl, ⟨rfl, trivial⟩, rfl⟩ rfl (by decide) ya16; refine st_ap (sz := 1) (by rfl) u37 elT4 rfl rfl f_o ha16 (fun _ h _ => h) uQ (Fsh.new M) (by first | omega | (simp <;> omega) | (simp at * <;> omega)) (by first | omega | (simp <;> omega) | (simp at * <;> omega)) ?_; intro v5 w6 Q7 sQ sT uQ2 hO4 hm hS _ hv2; have f_o0 := f_o; clear f_o; replace ha16 := ha16.sub sQ; replace tQ := fun b hb => tQ b (sT b hb); replace sQ0 := fun b hb hl => sQ b (sQ0 b hb hl) (Nat.lt_of_lt_of_le hl M.size); replace ha16 := ha16.md hm hS; replace uQ := uQ.md hm; replace M := M.stepO hm (fun b hb => (f_o0.2 b hb).1); clear uQ; have uQ := uQ2; clear uQ2 sQ sT hS hv2; refine asg rfl ?_; refine st_nil ?_; refine n_block ?_; refine c_then ?_; refine c_region ?_; refine mv rfl ?_; refine st _ (r_addN (a := i) (b := 1) 9223372036854775808 rfl rfl rfl (by omega)) ?_; refine asg rfl ?_; refine nt ?_; refine next3 (x0 := v5) (x1 := (o ++ ([(decide (((k / 2 ^ i) &&& 1) = 1))]))) (x2 := (i + 1)) (by omega) ⟨rfl, (fitI rfl (by omega)), rfl, rfl, trivial⟩ ⟨Q7, tQ, sQ0, uQ, M, hO4, (by rw [List.range_succ, List.map_append, i0_0]; rfl), (by omega), (by simp; omega)⟩
    · (first | (have h6n := of_decide_eq_false h6) | (have h6n := of_decide_eq_true (bnf h6)) | (have h6n := bnf h6) | (have h6n := h6)); refine c_exit ?_; refine x_then ?_; refine x_then ?_; refine x_hit ?_; refine c_then ?_; refine ns ?_; refine mv rfl ?_; refine asg rfl ?_; refine nt ?_; refine c_ret ?_; exact ret1L (v := vo) trivial rfl ⟨rfl, trivial⟩ ⟨_, o, rfl, M, (f_o.ls (fun b hb => tQ b hb) (Fsh.up uQ0)), (by rw [i0_0, show i = 64 by omega]; rfl)⟩
end Go.Proofs.Ytcaokfendkkafaa
namespace Go.Proofs.Ytcaokfendkkafaa
open Go Go.Wk Go.RowKit
set_option linter.unusedVariables false
set_option linter.unusedSimpArgs false
attribute [local irreducible] wpList wpQuiet wpStill wpMix Code.wp Calls bodyPost
theorem fn22 : isFn Try.prog 22 = true := by kernel_rfl
theorem fn24 : isFn Try.prog 24 = true := by kernel_rfl
theorem fn25 : isFn Try.prog 25 = true := by kernel_rfl
theorem fn26 : isFn Try.prog 26 = true := by kernel_rfl

end Go.Proofs.Ytcaokfendkkafaa
namespace Go.Proofs.Ytcaokfendkkafaa
open Go Go.Wk Go.RowKit
set_option linter.unusedVariables false
set_option linter.unusedSimpArgs false
attribute [local irreducible] wpList wpQuiet wpStill wpMix Code.wp Calls bodyPost

def snm : List UInt8 := [115, 97, 102, 101]
theorem snm_ok : fnameF snm = true := by decide
theorem findN_uniq {l : List SNd} {s : List UInt8} {x : SNd} (hx : x ∈ l) (h1 : x.no.there = true) (h2 : x.no.nm = s) (hu : ∀ y ∈ l, y.no.nm = s → y = x) : findN l s = some x := by
  induction l with
  | nil => cases hx
  | cons y l ih =>
    rw [findN]; by_cases hc : y.no.there = true ∧ y.no.nm = s
    · rw [if_pos hc, hu y List.mem_cons_self hc.2]
    · rw [if_neg hc]
      rcases List.mem_cons.1 hx with rfl | hx
      · exact absurd ⟨h1, h2⟩ hc
      · exact ih hx fun z hz => hu z (List.mem_cons_of_mem _ hz)
/-- The one that is safe among nodes. -/
structure SafeN (l : List SNd) (b : List UInt8) (x : SNd) : Prop where
  mem : x ∈ l
  nm : x.no.nm = snm
  there : x.no.there = true
  fl : x.fl = ⟨b, b⟩
  one : ∀ y ∈ l, y.no.nm = snm → y = x
theorem SafeN.upd {l : List SNd} {b : List UInt8} {x : SNd} {i : Nat} {g : SNd → SNd} (h : SafeN l b x) (hi : i ≠ x.id) (hg : ∀ z ∈ l, z.id = i → (g z).no.nm ≠ snm) : SafeN (updN l i g) b x := by
  refine ⟨updN_mem h.mem (fun e => hi e.symm), h.nm, h.there, h.fl, fun y hy hn => ?_⟩; rcases mem_updN hy with ⟨z, hz, e, rfl⟩ | ⟨hz, _⟩
  · exact absurd hn (hg z hz e)
  · exact h.one y hz hn
structure SafeI (f : SFs) (b : List UInt8) (x : SNd) : Prop where
  off : f.off = false
  fuse : f.fuse = -1
  n : SafeN f.nodes b x
  pend : ∀ c ∈ f.pend, c.n ≠ x.id ∧ c.over ≠ some x.id ∧ c.old ≠ snm
section
variable {f m : SFs} {b s t : List UInt8} {x : SNd} {r : Nat}
theorem SafeI.ne (h : SafeI f b x) (nd : (f.nodes.map (·.id)).Nodup) {y : SNd} (hy : y ∈ f.nodes) (hn : y.no.nm ≠ snm) : y.id ≠ x.id := fun e => hn (by rw [nodup_inj nd hy h.n.mem e]; exact h.n.nm)
theorem SafeI.burn (h : SafeI f b x) : burnF f = (0, f) := burn_free h.fuse
theorem SafeI.make {i j : Nat} (h : SafeI f b x) (hs : s ≠ snm) (nd : (m.nodes.map (·.id)).Nodup) (e : makeR f s i j = (r, m)) : SafeI m b x := by
  unfold makeR at e; rw [h.burn] at e
  split at e
  · cases e; exact h
  · split at e
    · cases e; exact h
    · split at e
      · cases e; exact h
      · simp only [ne_eq, not_true_eq_false, if_false] at e
        cases e
        rw [List.map_append, List.nodup_append] at nd; have hix : i ≠ x.id := fun e => nd.2.2 x.id (List.mem_map.2 ⟨x, h.n.mem, rfl⟩) i (by simp) e.symm; refine ⟨h.off, h.fuse, ⟨List.mem_append.2 (.inl h.n.mem), h.n.nm, h.n.there, h.n.fl, fun y hy hn => ?_⟩, fun c hc => ?_⟩
        · rcases List.mem_append.1 hy with hy | hy
          · exact h.n.one y hy hn
          · rw [List.mem_singleton] at hy; subst hy; exact absurd hn hs
        · rcases List.mem_append.1 hc with hc | hc
          · exact h.pend c hc
          · rw [List.mem_singleton] at hc; subst hc
            exact ⟨hix, (by simp : (none : Option Nat) ≠ some x.id), (by decide : ([] : List UInt8) ≠ snm)⟩
theorem SafeI.upd {i : Nat} {g : SNd → SNd} {p : List SCh} (h : SafeI f b x) (hi : i ≠ x.id) (hg : ∀ z ∈ f.nodes, z.id = i → (g z).no.nm ≠ snm) (hp : ∀ c ∈ p, c ∈ f.pend ∨ c.n ≠ x.id ∧ c.over ≠ some x.id ∧ c.old ≠ snm) : SafeI { f with nodes := updN f.nodes i g, pend := p } b x :=
  ⟨h.off, h.fuse, h.n.upd hi hg, fun c hc => (hp c hc).elim (h.pend c) id⟩
theorem SafeI.found (h : SafeI f b x) (nd : (f.nodes.map (·.id)).Nodup) (hs : s ≠ snm) {y : SNd} (hy : findN f.nodes s = some y) : y.id ≠ x.id ∧ ∀ z ∈ f.nodes, z.id = y.id → z.no.nm ≠ snm := by
  obtain ⟨h1, _, h3⟩ := findN_mem hy; refine ⟨h.ne nd h1 (by rw [h3]; exact hs), fun z hz e => ?_⟩; rw [nodup_inj nd hz h1 e, h3]; exact hs
theorem SafeI.write {p : Int} {d : List UInt8} {j : Nat} (h : SafeI f b x) (nd : (f.nodes.map (·.id)).Nodup) (hs : s ≠ snm) (e : writeR f s p d j = (r, m)) : SafeI m b x := by
  unfold writeR at e; rw [h.burn] at e
  split at e
  · cases e; exact h
  · split at e
    · cases e; exact h
    · rename_i y hy
      obtain ⟨k1, k2⟩ := h.found nd hs hy
      split at e
      · cases e; exact h
      · split at e
        · cases e; exact h
        · simp only [ne_eq, not_true_eq_false, if_false] at e
          cases e
          exact h.upd (g := fun z => { z with no := { z.no with fid := j }, fl := (wrF y.fl p d).2 }) k1 (fun z hz e => k2 z hz e) fun c hc => .inl hc
theorem SafeI.sync (h : SafeI f b x) (nd : (f.nodes.map (·.id)).Nodup) (hs : s ≠ snm) (e : syncR f s = (r, m)) : SafeI m b x := by
  unfold syncR at e; rw [h.burn] at e
  split at e
  · cases e; exact h
  · split at e
    · cases e; exact h
    · rename_i y hy
      obtain ⟨k1, k2⟩ := h.found nd hs hy; simp only [ne_eq, not_true_eq_false, if_false] at e
      cases e
      exact h.upd (g := fun z => { z with fl := { b := y.fl.b, safe := y.fl.b } }) k1 (fun z hz e => k2 z hz e) fun c hc => .inl hc
theorem SafeI.drop (h : SafeI f b x) (nd : (f.nodes.map (·.id)).Nodup) (hs : s ≠ snm) (e : dropR f s = (r, m)) : SafeI m b x := by
  unfold dropR at e; rw [h.burn] at e
  split at e
  · cases e; exact h
  · split at e
    · cases e; exact h
    · rename_i y hy
      obtain ⟨k1, k2⟩ := h.found nd hs hy; simp only [ne_eq, not_true_eq_false, if_false] at e
      cases e
      refine h.upd (g := fun z => { z with no := { z.no with there := false } }) k1 (fun z hz e => k2 z hz e) fun c hc => ?_; rcases List.mem_append.1 hc with hc | hc
      · exact .inl hc
      · rw [List.mem_singleton] at hc; subst hc
        exact .inr ⟨k1, (by simp : (none : Option Nat) ≠ some x.id), (by decide : ([] : List UInt8) ≠ snm)⟩
theorem SafeI.ren (h : SafeI f b x) (nd : (f.nodes.map (·.id)).Nodup) (hs : s ≠ snm) (ht : t ≠ snm) (e : renameR f s t = (r, m)) : SafeI m b x := by
  unfold renameR at e; rw [h.burn] at e
  split at e
  · cases e; exact h
  · split at e
    · cases e; exact h
    · rename_i y hy
      obtain ⟨k1, k2⟩ := h.found nd hs hy; simp only [ne_eq, not_true_eq_false, if_false] at e
      split at e
      · cases e; exact h
      · cases e
        have hov : (findN f.nodes t).map (·.id) ≠ some x.id := by
          intro e; obtain ⟨z, hz, e2⟩ := Option.map_eq_some_iff.1 e; exact (h.found nd ht hz).1 e2
        have hp : ∀ c ∈ f.pend ++ [(⟨1, y.id, s, (findN f.nodes t).map (·.id)⟩ : SCh)], c ∈ f.pend ∨ c.n ≠ x.id ∧ c.over ≠ some x.id ∧ c.old ≠ snm := by
          intro c hc; rcases List.mem_append.1 hc with hc | hc
          · exact .inl hc
          · rw [List.mem_singleton] at hc; subst hc
            exact .inr ⟨k1, hov, hs⟩
        cases hq : findN f.nodes t with
        | none =>
          rw [hq] at hp; exact h.upd (g := fun z => { z with no := { z.no with nm := t } }) k1 (fun z hz e => ht) hp
        | some q =>
          rw [hq] at hp; obtain ⟨q1, q2⟩ := h.found nd ht hq; exact ⟨h.off, h.fuse, (h.n.upd (g := fun z => { z with no := { z.no with there := false } }) q1 (fun z hz e => q2 z hz e)).upd (g := fun z => { z with no := { z.no with nm := t } }) k1 (fun z hz e => ht), fun c hc => (hp c hc).elim (h.pend c) id⟩
theorem SafeN.undo {l : List SNd} : ∀ {p : List SCh} {l : List SNd}, SafeN l b x → (∀ c ∈ p, c.n ≠ x.id ∧ c.over ≠ some x.id ∧ c.old ≠ snm) → (l.map (·.id)).Nodup → SafeN (undoL l p) b x
  | [], _, h, _, _ => h
  | c :: p, l, h, hp, nd => by
    rw [undoL]; refine SafeN.undo (l := l) ?_ (fun q hq => hp q (List.mem_cons_of_mem _ hq)) (by rw [undoN_ids]; exact nd); obtain ⟨c1, c2, c3⟩ := hp c List.mem_cons_self; have keep : ∀ (l : List SNd) (i : Nat) (g : SNd → SNd), SafeN l b x → (l.map (·.id)).Nodup → i ≠ x.id → (∀ z, (g z).no.nm = z.no.nm) → SafeN (updN l i g) b x := fun l i g h nd hi hg => h.upd hi fun z hz e hn => hi (by rw [← e, h.one z hz (by rw [← hg z]; exact hn)]); unfold undoN
    split
    · exact keep _ _ _ h nd c1 fun _ => rfl
    · split
      · have h1 : SafeN (updN l c.n fun z => { z with no := { z.no with nm := c.old } }) b x := h.upd c1 fun _ _ _ => c3
        split
        · exact h1
        · rename_i o ho
          exact keep _ _ _ h1 (by rw [updN_ids (by intro _; rfl)]; exact nd) (fun e => c2 (by rw [ho, e])) fun _ => rfl
      · exact keep _ _ _ h nd c1 fun _ => rfl
theorem crashG_mem : ∀ {l : List SNd} {k : List Bool} {y : SNd}, y ∈ crashG l k → ∃ z ∈ l, ∃ q, y = { z with fl := { b := crashB z.fl.b z.fl.safe q, safe := crashB z.fl.b z.fl.safe q } }
  | [], _, _, h => by cases h
  | z :: l, k, y, h => by
    rw [crashG] at h; rcases List.mem_cons.1 h with rfl | h
    · exact ⟨z, List.mem_cons_self, _, rfl⟩
    · obtain ⟨z, hz, q, e⟩ := crashG_mem h
      exact ⟨z, List.mem_cons_of_mem _ hz, q, e⟩
theorem crashG_has : ∀ {l : List SNd} {k : List Bool} {x : SNd}, x ∈ l → x.fl = ⟨b, b⟩ → x ∈ crashG l k
  | [], _, _, h, _ => by cases h
  | z :: l, k, x, h, hf => by
    rw [crashG]; rcases List.mem_cons.1 h with rfl | h
    · refine List.mem_cons.2 (.inl ?_)
      obtain ⟨xi, xn, xf⟩ := x; simp only at hf; subst hf; simp only [crash_same]
    · exact List.mem_cons_of_mem _ (crashG_has h hf)
theorem SafeI.crash {keep : List Bool} {d : Int} (h : SafeI f b x) (nd : (f.nodes.map (·.id)).Nodup) : allF (crashR f keep d).off (crashR f keep d).nodes snm = (b, 0) := by
  have h1 : SafeN (undoL f.nodes (f.pend.drop d.toNat).reverse) b x := SafeN.undo (l := f.nodes) h.n (fun c hc => h.pend c (List.mem_of_mem_drop (List.mem_reverse.1 hc))) nd
  have h2 : findN (crashR f keep d).nodes snm = some x := by
    refine findN_uniq (crashG_has (List.mem_filter.2 ⟨h1.mem, h1.there⟩) h1.fl) h1.there h1.nm fun y hy hn => ?_; obtain ⟨z, hz, q, rfl⟩ := crashG_mem hy; have hzx := h1.one z (List.mem_filter.1 hz).1 hn; subst hzx; obtain ⟨zi, zn, zf⟩ := z; have hf := h1.fl; simp only at hf; subst hf; simp only [crash_same]
  rw [allF_in (x := x) (b := b) (getF_hit rfl snm_ok h2) (by rw [h1.fl])]
theorem SafeI.start {m1 m2 m3 m4 : SFs} {i j j2 r1 r2 r3 r4 : Nat} (hb : b.length ≤ 1000) (e1 : makeR { room := 1048576, fuse := -1, off := false, nodes := [], pend := [] } snm i j = (r1, m1)) (e2 : writeR m1 snm 0 b j2 = (r2, m2)) (e3 : syncR m2 snm = (r3, m3)) (e4 : syncDirR m3 = (r4, m4)) :
    r1 = 0 ∧ r2 = 0 ∧ r3 = 0 ∧ r4 = 0 ∧ ∃ x, SafeI m4 b x := by
  rw [make_free rfl rfl snm_ok rfl (by decide)] at e1
  cases e1
  have hw : wrF ⟨[], []⟩ 0 b = (0, ⟨b, []⟩) := by
    by_cases h0 : b.length = 0
    · have : b = [] := List.eq_nil_of_length_eq_zero h0
      subst this; exact wr_0 (by decide) (by simp) rfl
    · rw [wr_ok (by decide) (by show ¬ ((32768 : Int) < 0 ∨ (32768 : Int) - 0 < _); omega) h0]
      simp [writeF]
  have g2 := write_0 (f := { room := 1048576, fuse := -1, off := false, nodes := [⟨i, ⟨snm, true, j⟩, ⟨[], []⟩⟩], pend := [⟨0, i, [], none⟩] }) (x := ⟨i, ⟨snm, true, j⟩, ⟨[], []⟩⟩) (s := snm) (p := 0) (b := b) (j := j2) (getF_hit rfl snm_ok rfl) hw rfl (a := 1) (z := 0) rfl (by show ¬ (0 < (b.length : Int) - 0 ∧ (1048576 : Int) < (0 : Int) + ((b.length : Int) - 0)); omega) (burn_free rfl) rfl; have e2' := g2.symm.trans e2
  cases e2'
  have g3 := sync_0 (f := { room := 1048576, fuse := -1, off := false, nodes := updN [⟨i, ⟨snm, true, j⟩, ⟨[], []⟩⟩] i fun q => { q with no := { q.no with fid := j2 }, fl := ⟨b, []⟩ }, pend := [⟨0, i, [], none⟩] }) (x := ⟨i, ⟨snm, true, j2⟩, ⟨b, []⟩⟩) (s := snm) (getF_hit rfl snm_ok (by simp [updN, findN])) (burn_free rfl) rfl; have e3' := g3.symm.trans e3
  cases e3'
  have g4 := dir_free (f := { room := 1048576, fuse := -1, off := false, nodes := updN (updN [⟨i, ⟨snm, true, j⟩, ⟨[], []⟩⟩] i fun q => { q with no := { q.no with fid := j2 }, fl := ⟨b, []⟩ }) i fun z => { z with fl := { b := b, safe := b } }, pend := [⟨0, i, [], none⟩] }) rfl rfl; have e4' := g4.symm.trans e4
  cases e4'
  refine ⟨rfl, rfl, rfl, rfl, ⟨i, ⟨snm, true, j2⟩, ⟨b, b⟩⟩, rfl, rfl, ⟨?_, rfl, rfl, rfl, fun y hy _ => ?_⟩, fun c hc => absurd hc List.not_mem_nil⟩
  · simp [settleF, updN]
  · simpa [settleF, updN] using hy
end

end Go.Proofs.Ytcaokfendkkafaa
namespace Go.Proofs.Ytcaokfendkkafaa
open Go Go.Wk Go.RowKit
set_option linter.unusedVariables false
set_option linter.unusedSimpArgs false
attribute [local irreducible] wpList wpQuiet wpStill wpMix Code.wp Calls bodyPost
theorem off44_5 : fieldOff Try.prog 44 5 = some 5 := by kernel_rfl

structure Do where
  kind : Int
  a : Int
  b : Int
  pos : Int
  n : Int
  name : List UInt8
  body : List UInt8
  keep : List Bool
def Do.cells (x : Do) (v0 : Value) (v1 : Value) : List Value :=
  [(.int .i64 (x.kind : Int))] ++ ([(.int .i64 (x.a : Int))] ++ ([(.int .i64 (x.b : Int))] ++ ([(.int .i64 (x.pos : Int))] ++ ([(.int .i64 (x.n : Int))] ++ ([(str x.name)] ++ ([v0] ++ ([v1])))))))
def tDo : Dt Do := tPull (fun x => (x.kind, x.a, x.b, x.pos, x.n, x.name, x.body, x.keep)) (tProd tInt (tProd tInt (tProd tInt (tProd tInt (tProd tInt (tProd tStr (tProd (tSl tB8) (tSl tBool))))))))
def Do.ok (x : Do) : Prop := (-9223372036854775808 ≤ x.kind ∧ x.kind < 9223372036854775808) ∧ (-9223372036854775808 ≤ x.a ∧ x.a < 9223372036854775808) ∧ (-9223372036854775808 ≤ x.b ∧ x.b < 9223372036854775808) ∧ (-9223372036854775808 ≤ x.pos ∧ x.pos < 9223372036854775808) ∧ (-9223372036854775808 ≤ x.n ∧ x.n < 9223372036854775808)
theorem tDo_un {w : World} {Q : Nat → Prop} {cs : List Value} {x : Do} (h : tDo.rep w Q cs x) : ∃ v0 v1, cs = x.cells v0 v1 ∧ Do.ok x ∧ Ls tB8 w Q v0 x.body ∧ Ls tBool w Q v1 x.keep := by
  obtain ⟨_, _, rfl, ⟨rfl, q0⟩, ⟨_, _, rfl, ⟨rfl, q1⟩, ⟨_, _, rfl, ⟨rfl, q2⟩, ⟨_, _, rfl, ⟨rfl, q3⟩, ⟨_, _, rfl, ⟨rfl, q4⟩, ⟨_, _, rfl, ⟨rfl, _⟩, ⟨_, _, rfl, ⟨v0, rfl, q6⟩, ⟨v1, rfl, q7⟩⟩⟩⟩⟩⟩⟩⟩ := h; exact ⟨v0, v1, rfl, ⟨q0, q1, q2, q3, q4⟩, q6, q7⟩
def fewN : List (List UInt8) := [[97], [98], [99], [100]]
/-- One of a few names, now and then any. -/
def nameF (d : Do) (n : Int) : List UInt8 := if n = 9 then d.name else fewN.getD (numF n 4) []
theorem nameF_9 {d : Do} {n : Int} (h : n = 9) : nameF d n = d.name := by unfold nameF; rw [if_pos h]
theorem nameF_x {d : Do} {n : Int} {k : Nat} {s : List UInt8} (h : ¬ n = 9) (hk : numF n 4 = k) (hs : fewN[k]? = some s) : nameF d n = s := by
  unfold nameF; rw [if_neg h, hk, List.getD_eq_getElem?_getD, hs]; rfl
theorem few_all : ∀ k, k < 4 → (fewN.getD k []).length = 1 ∧ fewN.getD k [] ≠ snm := by decide
theorem name_few {d : Do} {n : Int} {s : List UInt8} (hn : n ≠ 9) (h : nameF d n = s) : s.length = 1 ∧ s ≠ snm := by
  subst h; unfold nameF; rw [if_neg hn]; exact few_all _ ((numF_lt n 4).resolve_left (by decide))
theorem kName6_any {w : World} {Q : Nat → Prop} (uQ : Up w Q) {v0_0 : Value} {v0_1 : Value} (d : Do) (a0_0 : Do.ok d) (a0_1 : Ls tB8 w Q v0_0 d.body) (a0_2 : Ls tBool w Q v0_1 d.keep) (n : Int) (a1 : (-9223372036854775808 ≤ n ∧ n < 9223372036854775808)) :
    Calls Try.prog 27 #[.agg (Do.cells d v0_0 v0_1).toArray, (.int .i64 (n : Int))] w fun en w' => ∃ r0 : List UInt8, en = .returned (str r0) ∧ Md [] w w' ∧ nameF d n = r0 := by
  have M := Md.refl [] w; have uQ0 := uQ; have tQ : ∀ b, Q b → Q b := fun _ h => h; have sQ0 : ∀ b, Q b → b < w.heap.size → Q b := fun _ h _ => h; refine enter (n := 14) Try.func27 rfl rfl rfl ?_; intro B; refine ns ?_; refine st_box (cs := (Do.cells d v0_0 v0_1)) rfl rfl ?_; intro ba2 w1 ga2 la2 hm ha2; have n_ha2 := uQ _ ga2; replace ga2 := Nat.le_trans M.size ga2; replace a0_1 := a0_1.md0 hm; replace a0_2 := a0_2.md0 hm; replace uQ := uQ.md hm; replace M := M.step0 hm; have p_ha2 : Fsh [] w ba2 := .inr ga2; refine asg rfl ?_; refine nt ?_; refine c_seq ?_; refine ns ?_; refine mv rfl ?_; refine st _ (r_eq (a := n) (b := 9) rfl rfl) ?_; refine nt ?_; refine c_if rfl (fun h6 => ?_) (fun h6 => ?_)
  · (first | (have h6n := of_decide_eq_true h6) | (have h6n := of_decide_eq_false (bnt h6)) | (have h6n := bnt h6) | (have h6n := h6)); refine ns ?_; refine st _ (r_field rfl off44_5) ?_; refine st _ ((r_loadBlk rfl one9 ha2 rfl).to (b := (str d.name)) rfl) ?_; refine asg rfl ?_; refine nt ?_; refine c_ret ?_; refine r_then ?_; exact ret1L (v := (str d.name)) trivial rfl ⟨rfl, trivial⟩ ⟨d.name, rfl, M, (nameF_9 (by omega))⟩
  · (first | (have h6n := of_decide_eq_false h6) | (have h6n := of_decide_eq_true (bnf h6)) | (have h6n := bnf h6) | (have h6n := h6)); refine c_skip ?_; refine c_then ?_; refine ns ?_; refine st_buildSliceG [[(str (([97] : List UInt8)))], [(str (([98] : List UInt8)))], [(str (([99] : List UInt8)))], [(str (([100] : List UInt8)))]] u30 elT9 (by decide) (by decide) rfl rfl ⟨rfl, rfl, rfl, rfl, trivial⟩ ⟨rfl, rfl, rfl, rfl, trivial⟩ rfl (by decide) ?_; intro ba9 w2 ga9 la9 hm ha9; have ya9 := uQ _ ga9; replace a0_1 := a0_1.md0 hm; replace a0_2 := a0_2.md0 hm; replace ha2 := ha2.md0 hm; replace uQ := uQ.md hm; replace M := M.step0 hm; replace ha9 := Ls.of_blk (m := 4) (R := Q) (T := tStr) (xs := [([97] : List UInt8), ([98] : List UInt8), ([99] : List UInt8), ([100] : List UInt8)]) ha9 ⟨_, _, rfl, ⟨rfl, trivial⟩, ⟨_, _, rfl, ⟨rfl, trivial⟩, ⟨_, _, rfl, ⟨rfl, trivial⟩, ⟨_, _, rfl, ⟨rfl, trivial⟩, rfl⟩⟩⟩⟩ rfl (by decide) ya9; refine mv rfl ?_; refine st_call fn14 rfl (kNumber_any uQ (n) (by omega) 4 (by first | omega | (simp <;> omega)) (by first | omega | (simp <;> omega) | (simp at * <;> omega))) ?_; rintro en w3 ⟨x3_0, rfl, hm, q3_0, hF3⟩; refine ⟨_, rfl, ?_⟩; replace a0_1 := a0_1.md0 hm; replace a0_2 := a0_2.md0 hm; replace ha2 := ha2.md0 hm; replace ha9 := ha9.md0 hm; replace uQ := uQ.md hm; replace M := M.step0 hm; have a3_0 := numF_lt n 4; rw [hF3] at a3_0; try simp only [List.length_cons, List.length_nil, List.length_append, List.length_replicate, Nat.zero_add, Nat.reduceAdd, Nat.reduceMul] at a3_0
    refine st _ (r_indexN (i := x3_0) 1 rfl rfl u30 el9 ha9.shp (by show _ < 4; omega)) ?_; obtain ⟨x4, hx4⟩ := getE (l := [([97] : List UInt8), ([98] : List UInt8), ([99] : List UInt8), ([100] : List UInt8)]) (i := x3_0) (by first | omega | (simp <;> omega)); obtain ⟨c5, hr4, ha4⟩ := ha9.get hx4; obtain ⟨rfl, _⟩ := hr4; replace ha4 : At _ (.slice (some ⟨ba9, 0, none⟩) 4 4) (x3_0 * 1) [(str x4)] := ha4; refine st _ ((r_loadE (kk := x3_0 * 1) 0 rfl rfl one9 ha4 rfl).to (b := (str x4)) rfl) ?_; refine asg rfl ?_; refine st_nil ?_; clear ha4; refine c_then ?_; refine c_ret ?_; exact ret1L (v := (str x4)) trivial rfl ⟨rfl, trivial⟩ ⟨x4, rfl, M, (nameF_x (by omega) hF3 hx4)⟩
theorem kSameB_any {w : World} {Q : Nat → Prop} (uQ : Up w Q) {v0 : Value} {a : List UInt8} (h0 : Ls tB8 w Q v0 a) {v1 : Value} {b : List UInt8} (h1 : Ls tB8 w Q v1 b) :
    Calls Try.prog 29 #[v0, v1] w fun en w' => ∃ r0 : Bool, en = .returned (.bool r0) ∧ Md [] w w' ∧ decide (a = b) = r0 := by
  have L0 := h0.len63; have L1 := h1.len63; have M := Md.refl [] w; have uQ0 := uQ; have tQ : ∀ b, Q b → Q b := fun _ h => h; have sQ0 : ∀ b, Q b → b < w.heap.size → Q b := fun _ h _ => h; refine enter (n := 10) Try.func29 rfl rfl rfl ?_; intro B; refine ns ?_; refine asg rfl ?_; refine nt ?_; refine ns ?_; refine mv rfl ?_; refine st _ (r_convBS (s := a) u36 u5 u9 rfl h0.by) ?_; refine mv rfl ?_; refine st _ (r_convBS (s := b) u36 u5 u9 rfl h1.by) ?_; refine st _ (r_eqlS (a := a) (b := b) rfl rfl) ?_; refine asg rfl ?_; refine nt ?_; refine c_ret ?_; exact ret1L (v := (.bool ((decide (a = b))))) trivial rfl ⟨rfl, trivial⟩ ⟨(decide (a = b)), rfl, M, (by simp (disch := first | omega | assumption | (simp; done) | fail) only [if_pos, if_neg, Option.getD_some, Option.some.injEq, reduceIte, Bool.false_eq_true, Bool.true_eq_false, decide_true, decide_false, not_true_eq_false, not_false_eq_true])⟩
end Go.Proofs.Ytcaokfendkkafaa
namespace Go.Proofs.Ytcaokfendkkafaa
open Go Go.Wk Go.RowKit
set_option linter.unusedVariables false
set_option linter.unusedSimpArgs false
attribute [local irreducible] wpList wpQuiet wpStill wpMix Code.wp Calls bodyPost
theorem el44 : elemIs Try.prog 44 8 = true := by kernel_rfl
theorem fn27 : isFn Try.prog 27 = true := by kernel_rfl
theorem fn28 : isFn Try.prog 28 = true := by kernel_rfl
theorem fn29 : isFn Try.prog 29 = true := by kernel_rfl
theorem off44_0 : fieldOff Try.prog 44 0 = some 0 := by kernel_rfl
theorem off44_1 : fieldOff Try.prog 44 1 = some 1 := by kernel_rfl
theorem off44_2 : fieldOff Try.prog 44 2 = some 2 := by kernel_rfl
theorem off44_3 : fieldOff Try.prog 44 3 = some 3 := by kernel_rfl
theorem off44_6 : fieldOff Try.prog 44 6 = some 6 := by kernel_rfl
theorem pl44 : bplace Try.prog 44 = some [(0, 1), (1, 1), (2, 1), (3, 1), (4, 1), (5, 1), (6, 1), (7, 1)] := by kernel_rfl
theorem u42 : Try.prog.underlying 42 = some (.slice 44) := by kernel_rfl
theorem z44 : zcells Try.prog 44 = some [.int .i64 0, .int .i64 0, .int .i64 0, .int .i64 0, .int .i64 0, .string ByteArray.empty, .slice none 0 0, .slice none 0 0] := by kernel_rfl

set_option maxHeartbeats 16000000 in
set_option maxRecDepth 100000 in
theorem simfsSafe_any {w : World} {Q : Nat → Prop} (uQ : Up w Q) {v0 : Value} {b : List UInt8} (h0 : Ls tB8 w Q v0 b) {v1 : Value} {l : List Do} (h1 : Ls tDo w Q v1 l) (keep : Nat) (a2 : keep < 18446744073709551616) (dirs : Int) (a3 : (-9223372036854775808 ≤ dirs ∧ dirs < 9223372036854775808)) :
    Calls Try.prog 6 #[v0, v1, (.int .u64 ((keep : Nat) : Int)), (.int .i64 (dirs : Int))] w fun en w' => ∃ r0 : Bool, en = .returned (.bool r0) ∧ Md [] w w' ∧ true = r0 := by
  have L0 := h0.len63; have L1 := h1.len63; have M := Md.refl [] w; have uQ0 := uQ; have tQ : ∀ b, Q b → Q b := fun _ h => h; have sQ0 : ∀ b, Q b → b < w.heap.size → Q b := fun _ h _ => h; refine enter (n := 149) Try.func6 rfl rfl rfl ?_; intro B; refine ns ?_; refine asg rfl ?_; refine nt ?_; refine ns ?_; refine st_call fn12 rfl (fFirst_any uQ ) ?_; rintro en w1 ⟨x1_0, rfl, hm, hF1⟩; refine ⟨_, rfl, ?_⟩; replace h0 := h0.md0 hm; replace h1 := h1.md0 hm; replace uQ := uQ.md hm; replace M := M.step0 hm; refine asg rfl ?_; refine nt ?_; refine c_seq ?_; refine ns ?_; refine mv rfl ?_; refine st _ (r_not rfl) ?_; refine nt ?_; refine c_if rfl (fun h19 => ?_) (fun h19 => ?_)
  · (first | (have h19n := of_decide_eq_true h19) | (have h19n := of_decide_eq_false (bnt h19)) | (have h19n := bnt h19) | (have h19n := h19)); exfalso; simp_all
  · (first | (have h19n := of_decide_eq_false h19) | (have h19n := of_decide_eq_true (bnf h19)) | (have h19n := bnf h19) | (have h19n := h19)); refine c_skip ?_; refine c_then ?_; refine c_seq ?_; refine ns ?_; refine mv rfl ?_; refine st _ (r_len rfl u36 h0.shp) ?_; refine st _ (r_gtN (a := b.length) (b := 1000) rfl rfl) ?_; refine mv rfl ?_; refine part_n (t := 23) rfl (fun h23 => ?_) (fun h23 => ?_)
    · (first | (have h23n := of_decide_eq_true h23) | (have h23n := of_decide_eq_false (bnt h23)) | (have h23n := bnt h23) | (have h23n := h23)); refine st_skip rfl rfl rfl h23 ?_; refine st_skip rfl rfl rfl h23 ?_; refine st_skip rfl rfl rfl h23 ?_; refine st _ (r_pick_t rfl h23 rfl) ?_; refine nt ?_; refine c_if_t rfl rfl ?_; refine ns ?_; refine mv rfl ?_; refine asg rfl ?_; refine nt ?_; refine c_ret ?_; refine r_then ?_; exact ret1L (v := (.bool x1_0)) trivial rfl ⟨rfl, trivial⟩ ⟨x1_0, rfl, M, (by first | rfl | assumption)⟩
    · (first | (have h23n := of_decide_eq_false h23) | (have h23n := of_decide_eq_true (bnf h23)) | (have h23n := bnf h23) | (have h23n := h23)); refine st_g _ rfl rfl rfl h23 (r_move rfl) ?_; refine st_g _ rfl rfl rfl h23 (r_len rfl u42 h1.shp) ?_; refine st_g _ rfl rfl rfl h23 (r_gtN (a := l.length) (b := 20) rfl rfl) ?_; refine st _ (r_pick_f rfl h23 rfl) ?_; refine nt ?_; refine c_if rfl (fun h27 => ?_) (fun h27 => ?_)
      · (first | (have h27n := of_decide_eq_true h27) | (have h27n := of_decide_eq_false (bnt h27)) | (have h27n := bnt h27) | (have h27n := h27)); refine ns ?_; refine mv rfl ?_; refine asg rfl ?_; refine nt ?_; refine c_ret ?_; refine r_then ?_; exact ret1L (v := (.bool x1_0)) trivial rfl ⟨rfl, trivial⟩ ⟨x1_0, rfl, M, (by first | rfl | assumption)⟩
      · (first | (have h27n := of_decide_eq_false h27) | (have h27n := of_decide_eq_true (bnf h27)) | (have h27n := bnf h27) | (have h27n := h27)); refine c_skip ?_; refine c_then ?_; refine ns ?_; refine st_call fn13 rfl (oNew uQ (1048576) (by omega) (by first | omega | (simp <;> omega)) (by first | omega | (simp <;> omega))) ?_; rintro en w2 ⟨bFO1, fpFO1, Q3, rfl, hm, ⟨sQ, sT, uQ2⟩, hfp2, FO1⟩; refine ⟨_, rfl, ?_⟩; have r_FO1 : ∀ x ∈ fpFO1, Fsh [] w x := fun x hx => Fsh.new M x (hfp2 x hx); replace h0 := h0.sub sQ; replace h1 := h1.sub sQ; replace tQ := fun b hb => tQ b (sT b hb); replace sQ0 := fun b hb hl => sQ b (sQ0 b hb hl) (Nat.lt_of_lt_of_le hl M.size); replace h0 := h0.md0 hm; replace h1 := h1.md0 hm; replace uQ := uQ.md hm; replace M := M.step0 hm; clear uQ; have uQ := uQ2; clear uQ2 sQ sT; refine mv rfl ?_; refine st _ (r_extract rfl rfl) ?_; refine st _ (r_extract rfl rfl) ?_; refine asg rfl ?_; refine asg rfl ?_; refine nt ?_; refine c_seq ?_; refine ns ?_; refine mv rfl ?_; refine st _ (r_neN (a := 0) (b := 0) rfl rfl) ?_; refine mv rfl ?_; refine part_n (t := 35) rfl (fun h35 => ?_) (fun h35 => ?_)
        · (first | (have h35n := of_decide_eq_true h35) | (have h35n := of_decide_eq_false (bnt h35)) | (have h35n := bnt h35) | (have h35n := h35)); exfalso; omega
        · (first | (have h35n := of_decide_eq_false h35) | (have h35n := of_decide_eq_true (bnf h35)) | (have h35n := bnf h35) | (have h35n := h35)); refine st_g _ rfl rfl rfl h35 (r_move rfl) ?_; refine st_g _ rfl rfl rfl h35 (r_eqlPN rfl u23) ?_; refine st _ (r_pick_f rfl h35 rfl) ?_; refine nt ?_; refine c_if_f rfl rfl ?_; refine c_skip ?_; refine c_then ?_; refine c_seq ?_; refine ns ?_; refine mv rfl ?_; refine st_call fn16 rfl (oMake uQ FO1 (([115, 97, 102, 101] : List UInt8)) (by first | omega | (simp <;> omega) | decide) (by first | omega | (simp <;> omega))) ?_; rintro en w4 ⟨x4_0, rfl, q4_0, m4, fp4, Q5, hm, ⟨sQ, sT, uQ2⟩, hfp, GFO1, hF4⟩; refine ⟨_, rfl, ?_⟩; have hS : ∀ b ∈ fpFO1, ¬ Q5 b := fun b hb hq => (FO1.lt b hb).2 (sT b hq); replace h0 := (h0.sub sQ).md hm hS; replace h1 := (h1.sub sQ).md hm hS; have r9 : ∀ x ∈ fp4, Fsh [] w x := fun x hx => (hfp x hx).elim (r_FO1 x) (Fsh.new M x); replace tQ := fun b hb => tQ b (sT b hb); replace sQ0 := fun b hb hl => sQ b (sQ0 b hb hl) (Nat.lt_of_lt_of_le hl M.size); replace M := M.step hm r_FO1; clear uQ r_FO1 FO1; have uQ := uQ2; have r_FO1 := r9; have FO1 := GFO1; clear uQ2 r9 GFO1 sQ sT hS hfp hm; replace FO1 : FsO (1) _ _ _ _ _ := FO1; obtain ⟨i0, j0, hs1⟩ := hF4; refine st _ (r_neN (a := x4_0) (b := 0) rfl rfl) ?_; refine mv rfl ?_; refine part_n (t := 42) rfl (fun h42 => ?_) (fun h42 => ?_)
          · (first | (have h42n := of_decide_eq_true h42) | (have h42n := of_decide_eq_false (bnt h42)) | (have h42n := bnt h42) | (have h42n := h42)); exfalso; have e9 := (SafeI.start (b := b) (j2 := 0) (by omega) hs1 rfl rfl rfl).1; omega
          · (first | (have h42n := of_decide_eq_false h42) | (have h42n := of_decide_eq_true (bnf h42)) | (have h42n := bnf h42) | (have h42n := h42)); refine st_g _ rfl rfl rfl h42 (r_move rfl) ?_; refine st_g _ rfl rfl rfl h42 (r_move rfl) ?_; refine st_call_g rfl rfl rfl h42 fn22 rfl (oWrite uQ FO1 (([115, 97, 102, 101] : List UInt8)) (0) (by omega) h0 (by first | omega | (simp <;> omega) | decide) (by first | omega | (simp <;> omega))) ?_; rintro en w6 ⟨x6_0, rfl, q6_0, m6, fp6, Q7, hm, ⟨sQ, sT, uQ2⟩, hfp, GFO1, hF6⟩; refine ⟨_, rfl, ?_⟩; have hS : ∀ b ∈ fp4, ¬ Q7 b := fun b hb hq => (FO1.lt b hb).2 (sT b hq); replace h0 := (h0.sub sQ).md hm hS; replace h1 := (h1.sub sQ).md hm hS; have r9 : ∀ x ∈ fp6, Fsh [] w x := fun x hx => (hfp x hx).elim (r_FO1 x) (Fsh.new M x); replace tQ := fun b hb => tQ b (sT b hb); replace sQ0 := fun b hb hl => sQ b (sQ0 b hb hl) (Nat.lt_of_lt_of_le hl M.size); replace M := M.step hm r_FO1; clear uQ r_FO1 FO1; have uQ := uQ2; have r_FO1 := r9; have FO1 := GFO1; clear uQ2 r9 GFO1 sQ sT hS hfp hm; replace FO1 : FsO (2) _ _ _ _ _ := FO1; obtain ⟨j1, hs2⟩ := hF6; refine st_g _ rfl rfl rfl h42 (r_neN (a := x6_0) (b := 0) rfl rfl) ?_; refine st _ (r_pick_f rfl h42 rfl) ?_; refine mv rfl ?_; refine part_n (t := 48) rfl (fun h48 => ?_) (fun h48 => ?_)
            · (first | (have h48n := of_decide_eq_true h48) | (have h48n := of_decide_eq_false (bnt h48)) | (have h48n := bnt h48) | (have h48n := h48)); exfalso; have e9 := (SafeI.start (by omega) hs1 hs2 rfl rfl).2.1; omega
            · (first | (have h48n := of_decide_eq_false h48) | (have h48n := of_decide_eq_true (bnf h48)) | (have h48n := bnf h48) | (have h48n := h48)); refine st_g _ rfl rfl rfl h48 (r_move rfl) ?_; refine st_call_g rfl rfl rfl h48 fn24 rfl (oSync uQ FO1 (([115, 97, 102, 101] : List UInt8)) (by first | omega | (simp <;> omega) | decide) (by first | omega | (simp <;> omega))) ?_; rintro en w8 ⟨x8_0, rfl, q8_0, m8, fp8, Q9, hm, ⟨sQ, sT, uQ2⟩, hfp, GFO1, hF8⟩; refine ⟨_, rfl, ?_⟩; have hS : ∀ b ∈ fp6, ¬ Q9 b := fun b hb hq => (FO1.lt b hb).2 (sT b hq); replace h0 := (h0.sub sQ).md hm hS; replace h1 := (h1.sub sQ).md hm hS; have r9 : ∀ x ∈ fp8, Fsh [] w x := fun x hx => (hfp x hx).elim (r_FO1 x) (Fsh.new M x); replace tQ := fun b hb => tQ b (sT b hb); replace sQ0 := fun b hb hl => sQ b (sQ0 b hb hl) (Nat.lt_of_lt_of_le hl M.size); replace M := M.step hm r_FO1; clear uQ r_FO1 FO1; have uQ := uQ2; have r_FO1 := r9; have FO1 := GFO1; clear uQ2 r9 GFO1 sQ sT hS hfp hm; replace FO1 : FsO (3) _ _ _ _ _ := FO1; refine st_g _ rfl rfl rfl h48 (r_neN (a := x8_0) (b := 0) rfl rfl) ?_; refine st _ (r_pick_f rfl h48 rfl) ?_; refine mv rfl ?_; refine part_n (t := 53) rfl (fun h53 => ?_) (fun h53 => ?_)
              · (first | (have h53n := of_decide_eq_true h53) | (have h53n := of_decide_eq_false (bnt h53)) | (have h53n := bnt h53) | (have h53n := h53)); exfalso; have e9 := (SafeI.start (by omega) hs1 hs2 hF8 rfl).2.2.1; omega
              · (first | (have h53n := of_decide_eq_false h53) | (have h53n := of_decide_eq_true (bnf h53)) | (have h53n := bnf h53) | (have h53n := h53)); refine st_g _ rfl rfl rfl h53 (r_move rfl) ?_; refine st_call_g rfl rfl rfl h53 fn15 rfl (oSyncDir uQ FO1 ) ?_; rintro en w10 ⟨x10_0, rfl, q10_0, m10, fp10, Q11, hm, ⟨sQ, sT, uQ2⟩, hfp, GFO1, hF10⟩; refine ⟨_, rfl, ?_⟩; have hS : ∀ b ∈ fp8, ¬ Q11 b := fun b hb hq => (FO1.lt b hb).2 (sT b hq); replace h0 := (h0.sub sQ).md hm hS; replace h1 := (h1.sub sQ).md hm hS; have r9 : ∀ x ∈ fp10, Fsh [] w x := fun x hx => (hfp x hx).elim (r_FO1 x) (Fsh.new M x); replace tQ := fun b hb => tQ b (sT b hb); replace sQ0 := fun b hb hl => sQ b (sQ0 b hb hl) (Nat.lt_of_lt_of_le hl M.size); replace M := M.step hm r_FO1; clear uQ r_FO1 FO1; have uQ := uQ2; have r_FO1 := r9; have FO1 := GFO1; clear uQ2 r9 GFO1 sQ sT hS hfp hm; replace FO1 : FsO (4) _ _ _ _ _ := FO1; obtain ⟨zs1, zs2, zs3, zs4, sx, hS⟩ := SafeI.start (by omega) hs1 hs2 hF8 hF10; refine st_g _ rfl rfl rfl h53 (r_neN (a := x10_0) (b := 0) rfl rfl) ?_; refine st _ (r_pick_f rfl h53 rfl) ?_; refine nt ?_; refine c_if rfl (fun h57 => ?_) (fun h57 => ?_)
                · (first | (have h57n := of_decide_eq_true h57) | (have h57n := of_decide_eq_false (bnt h57)) | (have h57n := bnt h57) | (have h57n := h57)); exfalso; omega
                · (first | (have h57n := of_decide_eq_false h57) | (have h57n := of_decide_eq_true (bnf h57)) | (have h57n := bnf h57) | (have h57n := h57)); refine c_skip ?_; refine c_then ?_; refine c_seq ?_; refine ns ?_; refine asg rfl ?_; refine nt ?_; refine c_block ?_; refine loop3 (fun (fpf : List Nat) (f : SFs) (i : Nat) => [(12, (.int .i64 ((i : Nat) : Int))), (0, v0), (1, v1), (2, (.int .u64 ((keep : Nat) : Int))), (3, (.int .i64 (dirs : Int))), (9, (.bool x1_0)), (10, (.pointer (some ⟨bFO1, 0, none⟩)))]) (fun (fpf : List Nat) (f : SFs) (i : Nat) w' => ∃ Q' : Nat → Prop, (∀ b, Q' b → Q b) ∧ (∀ b, Q b → b < w.heap.size → Q' b) ∧ Up w' Q' ∧ Md [] w w' ∧ FsO (i + 10) fpf w' Q' bFO1 f ∧ (∀ x ∈ fpf, Fsh [] w x) ∧ Ls tB8 w' Q' v0 b ∧ Ls tDo w' Q' v1 l ∧ SafeI f b sx ∧ i ≤ l.length) (fun (fpf : List Nat) (f : SFs) (i : Nat) => l.length - i) (x0 := fp10) (x1 := m10) (x2 := 0) ?_ ?_ ?_
                  · exact ⟨rfl, rfl, rfl, rfl, rfl, rfl, rfl, trivial⟩
                  · exact ⟨Q11, tQ, sQ0, uQ, M, (FO1.up (by omega)), r_FO1, h0, h1, hS, (by omega)⟩
                  · clear M uQ tQ sQ0 h0 h1 FO1 r_FO1
                    rintro fpf f i B w12 ⟨Q13, tQ, sQ0, uQ, M, FO1, r_FO1, h0, h1, i0_0, i0_1⟩; refine c_seq ?_; refine ns ?_; refine mv rfl ?_; refine mv rfl ?_; refine st _ (r_len rfl u42 h1.shp) ?_; refine st _ (r_ltN (a := i) (b := l.length) rfl rfl) ?_; refine nt ?_; refine c_if rfl (fun h61 => ?_) (fun h61 => ?_)
                    · (first | (have h61n := of_decide_eq_true h61) | (have h61n := of_decide_eq_false (bnt h61)) | (have h61n := bnt h61) | (have h61n := h61)); refine c_skip ?_; refine c_then ?_; refine c_seq ?_; refine c_block ?_; refine c_seq ?_; refine ns ?_; refine mv rfl ?_; refine mv rfl ?_; refine st _ (r_indexN (i := i) 8 rfl rfl u42 el44 h1.shp (by omega)) ?_; obtain ⟨x14, hx14⟩ := getE (l := l) (i := i) (by first | omega | (simp <;> omega)); obtain ⟨c15, hr14, ha14⟩ := h1.get hx14; obtain ⟨v16, v17, rfl, q18, hd19, hd20⟩ := tDo_un hr14; replace ha14 : At _ v1 (i * 8) (Do.cells x14 v16 v17) := ha14; refine st _ (r_fieldE rfl ha14 off44_6) ?_; refine st _ ((r_loadE (kk := i * 8) 6 rfl rfl one36 ha14 rfl).to (b := v16) rfl) ?_; refine st _ (r_len rfl u36 hd19.shp) ?_; refine st _ (r_gtN (a := x14.body.length) (b := 1500) rfl rfl) ?_; refine st_nil ?_; clear ha14; refine c_then ?_; refine c_if rfl (fun h70 => ?_) (fun h70 => ?_)
                      · (first | (have h70n := of_decide_eq_true h70) | (have h70n := of_decide_eq_false (bnt h70)) | (have h70n := bnt h70) | (have h70n := h70)); refine ns ?_; refine asg rfl ?_; refine nt ?_; refine c_ret ?_; refine r_then ?_; refine r_block ?_; refine r_then ?_; refine r_then ?_; refine r_block ?_; refine r_then ?_; exact ret1L (v := (.bool true)) trivial rfl ⟨rfl, trivial⟩ ⟨true, rfl, M, (by first | rfl | assumption)⟩
                      · (first | (have h70n := of_decide_eq_false h70) | (have h70n := of_decide_eq_true (bnf h70)) | (have h70n := bnf h70) | (have h70n := h70)); refine c_skip ?_; refine c_then ?_; refine c_seq ?_; have FO1_q := FO1; have h0_q := h0; have h1_q := h1; have hd19_q := hd19; have hd20_q := hd20; refine c_mixT [(0, true), (1, true), (2, true), (3, true), (4, true), (5, true), (8, true), (9, true), (10, true), (11, true), (12, true), (13, true), (6, false), (7, false), (14, false)] [15, 16, 17] (fun w' => Md [] w12 w') mixed (by kernel_rfl) ?_; intro w21 hd0; refine ⟨hd0.mono (by simp), ?_⟩; have MC := hd0.mono (T := []) (by simp); refine Go.Wk.m _ (fun w' hc => r_buildG (us := []) (cs := (Do.cells (({ kind := 0, a := 0, b := 0, pos := 0, n := 0, name := [], body := [], keep := [] } : Do)) (.slice none 0 0) (.slice none 0 0))) [] z44 pl44 rfl rfl trivial trivial rfl rfl) ?_; refine Go.Wk.m _ (fun w' hc => r_move rfl) ?_; refine Go.Wk.m _ (fun w' hc => r_move rfl) ?_; refine Go.Wk.m _ (fun w' hc => r_indexN (i := i) 8 rfl rfl u42 el44 h1.shp (by omega)) ?_; obtain ⟨c23, hr24, ha24⟩ := h1_q.get hx14; obtain ⟨v25, v26, rfl, q27, hd28, hd29⟩ := tDo_un hr24; replace ha24 : At _ v1 (i * 8) (Do.cells x14 v25 v26) := ha24; refine Go.Wk.m _ (fun w' hc => r_fieldE rfl (ha24.md0 hc) off44_1) ?_; refine Go.Wk.m _ (fun w' hc => (r_loadE (kk := i * 8) 1 rfl rfl one3 (ha24.md0 hc) rfl).to (b := (.int .i64 (x14.a : Int))) rfl) ?_; have q30 : (-9223372036854775808 ≤ x14.a ∧ x14.a < 9223372036854775808) := q27.2.1; refine Go.Wk.m _ (fun w' hc => r_buildG (us := []) (cs := (Do.cells (({ kind := 0, a := 0, b := 0, pos := 0, n := 0, name := [], body := [], keep := [] } : Do)) (.slice none 0 0) (.slice none 0 0))) [] z44 pl44 rfl rfl trivial trivial rfl rfl) ?_; refine Go.Wk.m _ (fun w' hc => r_move rfl) ?_; refine Go.Wk.m _ (fun w' hc => r_move rfl) ?_; refine Go.Wk.m _ (fun w' hc => r_indexN (i := i) 8 rfl rfl u42 el44 h1.shp (by omega)) ?_; obtain ⟨c32, hr33, ha33⟩ := h1_q.get hx14; obtain ⟨v34, v35, rfl, q36, hd37, hd38⟩ := tDo_un hr33; replace ha33 : At _ v1 (i * 8) (Do.cells x14 v34 v35) := ha33; refine Go.Wk.m _ (fun w' hc => r_fieldE rfl (ha33.md0 hc) off44_2) ?_; refine Go.Wk.m _ (fun w' hc => (r_loadE (kk := i * 8) 2 rfl rfl one3 (ha33.md0 hc) rfl).to (b := (.int .i64 (x14.b : Int))) rfl) ?_; have q39 : (-9223372036854775808 ≤ x14.b ∧ x14.b < 9223372036854775808) := q36.2.2.1; replace FO1 := FO1.md0 hd0; replace h0 := h0.md0 hd0; replace h1 := h1.md0 hd0; replace hd19 := hd19.md0 hd0
                        replace hd20 := hd20.md0 hd0; replace hd28 := hd28.md0 hd0; replace hd29 := hd29.md0 hd0; replace hd37 := hd37.md0 hd0; replace hd38 := hd38.md0 hd0; replace uQ := uQ.md hd0; replace M := M.step0 hd0; refine m_e ?_ rfl; refine st_call fn14 rfl (kNumber_any uQ (x14.a) (by omega) 4 (by first | omega | (simp <;> omega)) (by first | omega | (simp <;> omega) | (simp at * <;> omega))) ?_; rintro en w40 ⟨x40_0, rfl, hm, q40_0, hF40⟩; refine ⟨_, rfl, ?_⟩; replace FO1 := FO1.md0 hm; replace h0 := h0.md0 hm; replace h1 := h1.md0 hm; replace hd19 := hd19.md0 hm; replace hd20 := hd20.md0 hm; replace hd28 := hd28.md0 hm; replace hd29 := hd29.md0 hm; replace hd37 := hd37.md0 hm; replace hd38 := hd38.md0 hm; replace uQ := uQ.md hm; replace M := M.step0 hm; replace MC := MC.step0 hm; have a40_0 := numF_lt x14.a 4; rw [hF40] at a40_0; try simp only [List.length_cons, List.length_nil, List.length_append, List.length_replicate, Nat.zero_add, Nat.reduceAdd, Nat.reduceMul] at a40_0
                        refine st_nil ⟨rfl, MC, ?_⟩; refine m_e ?_ rfl; refine st_call fn27 rfl (kName6_any uQ (({ kind := 0, a := 0, b := 0, pos := 0, n := 0, name := [], body := [], keep := [] } : Do)) (by first | assumption | exact ⟨(by first | omega | (simp <;> omega) | simp_all), (by first | omega | (simp <;> omega) | simp_all), (by first | omega | (simp <;> omega) | simp_all), (by first | omega | (simp <;> omega) | simp_all), (by first | omega | (simp <;> omega) | simp_all)⟩) (Ls.nil _ _ _) (Ls.nil _ _ _) (((x40_0 : Nat) : Int)) (by omega)) ?_; rintro en w41 ⟨x41_0, rfl, hm, hF41⟩; refine ⟨_, rfl, ?_⟩; replace FO1 := FO1.md0 hm; replace h0 := h0.md0 hm; replace h1 := h1.md0 hm; replace hd19 := hd19.md0 hm; replace hd20 := hd20.md0 hm; replace hd28 := hd28.md0 hm; replace hd29 := hd29.md0 hm; replace hd37 := hd37.md0 hm; replace hd38 := hd38.md0 hm; replace uQ := uQ.md hm; replace M := M.step0 hm; replace MC := MC.step0 hm; have nf42 := name_few (by omega) hF41; refine st_nil ⟨rfl, MC, ?_⟩; refine m_e ?_ rfl; refine st_call fn14 rfl (kNumber_any uQ (x14.b) (by omega) 4 (by first | omega | (simp <;> omega)) (by first | omega | (simp <;> omega) | (simp at * <;> omega))) ?_; rintro en w43 ⟨x43_0, rfl, hm, q43_0, hF43⟩; refine ⟨_, rfl, ?_⟩; replace FO1 := FO1.md0 hm; replace h0 := h0.md0 hm; replace h1 := h1.md0 hm; replace hd19 := hd19.md0 hm; replace hd20 := hd20.md0 hm; replace hd28 := hd28.md0 hm; replace hd29 := hd29.md0 hm; replace hd37 := hd37.md0 hm; replace hd38 := hd38.md0 hm; replace uQ := uQ.md hm; replace M := M.step0 hm; replace MC := MC.step0 hm; have a43_0 := numF_lt x14.b 4; rw [hF43] at a43_0; try simp only [List.length_cons, List.length_nil, List.length_append, List.length_replicate, Nat.zero_add, Nat.reduceAdd, Nat.reduceMul] at a43_0
                        refine st_nil ⟨rfl, MC, ?_⟩; refine m_nil ?_; clear h0_q hd19_q hd20_q FO1_q h1_q; clear MC; refine st_call fn27 rfl (kName6_any uQ (({ kind := 0, a := 0, b := 0, pos := 0, n := 0, name := [], body := [], keep := [] } : Do)) (by first | assumption | exact ⟨(by first | omega | (simp <;> omega) | simp_all), (by first | omega | (simp <;> omega) | simp_all), (by first | omega | (simp <;> omega) | simp_all), (by first | omega | (simp <;> omega) | simp_all), (by first | omega | (simp <;> omega) | simp_all)⟩) (Ls.nil _ _ _) (Ls.nil _ _ _) (((x43_0 : Nat) : Int)) (by omega)) ?_; rintro en w44 ⟨x44_0, rfl, hm, hF44⟩; refine ⟨_, rfl, ?_⟩; replace FO1 := FO1.md0 hm; replace h0 := h0.md0 hm; replace h1 := h1.md0 hm; replace hd19 := hd19.md0 hm; replace hd20 := hd20.md0 hm; replace hd28 := hd28.md0 hm; replace hd29 := hd29.md0 hm; replace hd37 := hd37.md0 hm; replace hd38 := hd38.md0 hm; replace uQ := uQ.md hm; replace M := M.step0 hm; have nf45 := name_few (by omega) hF44; refine asg rfl ?_; refine asg rfl ?_; refine st_nil ?_; clear ha24; clear ha33; refine c_then ?_; refine ns ?_; refine mv rfl ?_; refine mv rfl ?_; refine st _ (r_indexN (i := i) 8 rfl rfl u42 el44 h1.shp (by omega)) ?_; obtain ⟨c47, hr48, ha48⟩ := h1.get hx14; obtain ⟨v49, v50, rfl, q51, hd52, hd53⟩ := tDo_un hr48; replace ha48 : At _ v1 (i * 8) (Do.cells x14 v49 v50) := ha48; refine st _ (r_fieldE rfl ha48 off44_0) ?_; refine st _ ((r_loadE (kk := i * 8) 0 rfl rfl one3 ha48 rfl).to (b := (.int .i64 (x14.kind : Int))) rfl) ?_; have q54 : (-9223372036854775808 ≤ x14.kind ∧ x14.kind < 9223372036854775808) := q51.1; refine st_call fn14 rfl (kNumber_any uQ (x14.kind) (by omega) 5 (by first | omega | (simp <;> omega)) (by first | omega | (simp <;> omega) | (simp at * <;> omega))) ?_; rintro en w55 ⟨x55_0, rfl, hm, q55_0, hF55⟩; refine ⟨_, rfl, ?_⟩; replace FO1 := FO1.md0 hm; replace h0 := h0.md0 hm; replace h1 := h1.md0 hm; replace hd19 := hd19.md0 hm; replace hd20 := hd20.md0 hm; replace hd28 := hd28.md0 hm; replace hd29 := hd29.md0 hm; replace hd37 := hd37.md0 hm; replace hd38 := hd38.md0 hm; replace hd52 := hd52.md0 hm; replace hd53 := hd53.md0 hm; replace ha48 := ha48.md0 hm; replace uQ := uQ.md hm; replace M := M.step0 hm; have a55_0 := numF_lt x14.kind 5; rw [hF55] at a55_0; try simp only [List.length_cons, List.length_nil, List.length_append, List.length_replicate, Nat.zero_add, Nat.reduceAdd, Nat.reduceMul] at a55_0
                        refine st_nil ?_; clear ha48; refine c_then ?_; refine c_block ?_; refine ns ?_; refine st _ (r_eqN (a := x55_0) (b := 0) rfl rfl) ?_; refine asg rfl ?_; refine nt ?_; refine c_if rfl (fun h93 => ?_) (fun h93 => ?_)
                        · (first | (have h93n := of_decide_eq_true h93) | (have h93n := of_decide_eq_false (bnt h93)) | (have h93n := bnt h93) | (have h93n := h93)); refine c_region ?_; refine mv rfl ?_; refine mv rfl ?_; refine st_call fn16 rfl (oMake uQ FO1 x41_0 (by first | omega | (simp <;> omega) | decide) (by first | omega | (simp <;> omega))) ?_; rintro en w56 ⟨x56_0, rfl, q56_0, m56, fp56, Q57, hm, ⟨sQ, sT, uQ2⟩, hfp, GFO1, hF56⟩; refine ⟨_, rfl, ?_⟩; have hS : ∀ b ∈ fpf, ¬ Q57 b := fun b hb hq => (FO1.lt b hb).2 (sT b hq); replace h0 := (h0.sub sQ).md hm hS; replace h1 := (h1.sub sQ).md hm hS; replace hd19 := (hd19.sub sQ).md hm hS; replace hd20 := (hd20.sub sQ).md hm hS; replace hd28 := (hd28.sub sQ).md hm hS; replace hd29 := (hd29.sub sQ).md hm hS; replace hd37 := (hd37.sub sQ).md hm hS; replace hd38 := (hd38.sub sQ).md hm hS; replace hd52 := (hd52.sub sQ).md hm hS; replace hd53 := (hd53.sub sQ).md hm hS; have r9 : ∀ x ∈ fp56, Fsh [] w x := fun x hx => (hfp x hx).elim (r_FO1 x) (Fsh.new M x); replace tQ := fun b hb => tQ b (sT b hb); replace sQ0 := fun b hb hl => sQ b (sQ0 b hb hl) (Nat.lt_of_lt_of_le hl M.size); replace M := M.step hm r_FO1; clear uQ r_FO1 FO1; have uQ := uQ2; have r_FO1 := r9; have FO1 := GFO1; clear uQ2 r9 GFO1 sQ sT hS hfp hm; replace FO1 : FsO (i + 11) _ _ _ _ _ := FO1; obtain ⟨ia, ja, hw59⟩ := hF56; have hS58 := SafeI.make i0_0 (by simp_all) FO1.wf.nd hw59; refine st_nil ?_; refine n_block ?_; refine n_block ?_; refine c_then ?_; refine c_region ?_; refine mv rfl ?_; refine st _ (r_addN (a := i) (b := 1) 9223372036854775808 rfl rfl rfl (by omega)) ?_; refine asg rfl ?_; refine nt ?_; refine next3 (x0 := fp56) (x1 := m56) (x2 := (i + 1)) (by omega) ⟨(fitI rfl (by omega)), rfl, rfl, rfl, rfl, rfl, rfl, trivial⟩ ⟨Q57, tQ, sQ0, uQ, M, (FO1.up (by omega)), r_FO1, h0, h1, hS58, (by omega)⟩
                        · (first | (have h93n := of_decide_eq_false h93) | (have h93n := of_decide_eq_true (bnf h93)) | (have h93n := bnf h93) | (have h93n := h93)); refine ns ?_; refine st _ (r_eqN (a := x55_0) (b := 1) rfl rfl) ?_; refine asg rfl ?_; refine nt ?_; refine c_if rfl (fun h98 => ?_) (fun h98 => ?_)
                          · (first | (have h98n := of_decide_eq_true h98) | (have h98n := of_decide_eq_false (bnt h98)) | (have h98n := bnt h98) | (have h98n := h98)); have FO1_q := FO1; have h0_q := h0; have h1_q := h1; have hd19_q := hd19; have hd20_q := hd20; have hd28_q := hd28; have hd29_q := hd29; have hd37_q := hd37; have hd38_q := hd38; have hd52_q := hd52; have hd53_q := hd53; refine c_mixT [(0, true), (1, true), (2, true), (3, true), (4, true), (5, true), (6, true), (7, true), (8, true), (9, true), (10, true), (11, true)] [12] (fun w' => Md [] w55 w') mixed (by kernel_rfl) ?_; intro w60 hd0; refine ⟨hd0.mono (by simp), ?_⟩; have MC := hd0.mono (T := []) (by simp); refine Go.Wk.m _ (fun w' hc => r_move rfl) ?_; refine Go.Wk.m _ (fun w' hc => r_move rfl) ?_; refine Go.Wk.m _ (fun w' hc => r_move rfl) ?_; refine Go.Wk.m _ (fun w' hc => r_move rfl) ?_; refine Go.Wk.m _ (fun w' hc => r_indexN (i := i) 8 rfl rfl u42 el44 h1.shp (by omega)) ?_; obtain ⟨c62, hr63, ha63⟩ := h1_q.get hx14; obtain ⟨v64, v65, rfl, q66, hd67, hd68⟩ := tDo_un hr63; replace ha63 : At _ v1 (i * 8) (Do.cells x14 v64 v65) := ha63; refine Go.Wk.m _ (fun w' hc => r_fieldE rfl (ha63.md0 hc) off44_3) ?_; refine Go.Wk.m _ (fun w' hc => (r_loadE (kk := i * 8) 3 rfl rfl one3 (ha63.md0 hc) rfl).to (b := (.int .i64 (x14.pos : Int))) rfl) ?_; have q69 : (-9223372036854775808 ≤ x14.pos ∧ x14.pos < 9223372036854775808) := q66.2.2.2.1; refine Go.Wk.m _ (fun w' hc => r_move rfl) ?_; refine Go.Wk.m _ (fun w' hc => r_move rfl) ?_; refine Go.Wk.m _ (fun w' hc => r_indexN (i := i) 8 rfl rfl u42 el44 h1.shp (by omega)) ?_; obtain ⟨c71, hr72, ha72⟩ := h1_q.get hx14; obtain ⟨v73, v74, rfl, q75, hd76, hd77⟩ := tDo_un hr72; replace ha72 : At _ v1 (i * 8) (Do.cells x14 v73 v74) := ha72; refine Go.Wk.m _ (fun w' hc => r_fieldE rfl (ha72.md0 hc) off44_6) ?_; refine Go.Wk.m _ (fun w' hc => (r_loadE (kk := i * 8) 6 rfl rfl one36 (ha72.md0 hc) rfl).to (b := v73) rfl) ?_; refine m_nil ?_; replace FO1 := FO1.md0 hd0; replace h0 := h0.md0 hd0; replace h1 := h1.md0 hd0; replace hd19 := hd19.md0 hd0; replace hd20 := hd20.md0 hd0; replace hd28 := hd28.md0 hd0; replace hd29 := hd29.md0 hd0; replace hd37 := hd37.md0 hd0; replace hd38 := hd38.md0 hd0; replace hd52 := hd52.md0 hd0; replace hd53 := hd53.md0 hd0; replace hd67 := hd67.md0 hd0; replace hd68 := hd68.md0 hd0; replace hd76 := hd76.md0 hd0; replace hd77 := hd77.md0 hd0; replace uQ := uQ.md hd0; replace M := M.step0 hd0; clear h0_q hd53_q hd29_q hd19_q hd20_q hd37_q hd52_q hd28_q hd38_q FO1_q h1_q
                            clear MC; have wf9 := FO1.wf; refine st_call fn22 rfl (oWrite uQ FO1 x41_0 (x14.pos) (by omega) hd76 (by first | omega | (simp <;> omega) | decide) (by first | omega | (simp <;> omega))) ?_; rintro en w78 ⟨x78_0, rfl, q78_0, m78, fp78, Q79, hm, ⟨sQ, sT, uQ2⟩, hfp, GFO1, hF78⟩; refine ⟨_, rfl, ?_⟩; have hS : ∀ b ∈ fpf, ¬ Q79 b := fun b hb hq => (FO1.lt b hb).2 (sT b hq); replace h0 := (h0.sub sQ).md hm hS; replace h1 := (h1.sub sQ).md hm hS; replace hd19 := (hd19.sub sQ).md hm hS; replace hd20 := (hd20.sub sQ).md hm hS; replace hd28 := (hd28.sub sQ).md hm hS; replace hd29 := (hd29.sub sQ).md hm hS; replace hd37 := (hd37.sub sQ).md hm hS; replace hd38 := (hd38.sub sQ).md hm hS; replace hd52 := (hd52.sub sQ).md hm hS; replace hd53 := (hd53.sub sQ).md hm hS; replace hd67 := (hd67.sub sQ).md hm hS; replace hd68 := (hd68.sub sQ).md hm hS; clear ha63; replace hd76 := (hd76.sub sQ).md hm hS; replace hd77 := (hd77.sub sQ).md hm hS; clear ha72; have r9 : ∀ x ∈ fp78, Fsh [] w x := fun x hx => (hfp x hx).elim (r_FO1 x) (Fsh.new M x); replace tQ := fun b hb => tQ b (sT b hb); replace sQ0 := fun b hb hl => sQ b (sQ0 b hb hl) (Nat.lt_of_lt_of_le hl M.size); replace M := M.step hm r_FO1; clear uQ r_FO1 FO1; have uQ := uQ2; have r_FO1 := r9; have FO1 := GFO1; clear uQ2 r9 GFO1 sQ sT hS hfp hm; replace FO1 : FsO (i + 11) _ _ _ _ _ := FO1; obtain ⟨ja, hw81⟩ := hF78; have hS80 := SafeI.write i0_0 wf9.nd (by simp_all) hw81; refine st_nil ?_; refine n_block ?_; refine n_block ?_; refine c_then ?_; refine c_region ?_; refine mv rfl ?_; refine st _ (r_addN (a := i) (b := 1) 9223372036854775808 rfl rfl rfl (by omega)) ?_; refine asg rfl ?_; refine nt ?_; refine next3 (x0 := fp78) (x1 := m78) (x2 := (i + 1)) (by omega) ⟨(fitI rfl (by omega)), rfl, rfl, rfl, rfl, rfl, rfl, trivial⟩ ⟨Q79, tQ, sQ0, uQ, M, (FO1.up (by omega)), r_FO1, h0, h1, hS80, (by omega)⟩
                          · (first | (have h98n := of_decide_eq_false h98) | (have h98n := of_decide_eq_true (bnf h98)) | (have h98n := bnf h98) | (have h98n := h98)); refine ns ?_; refine st _ (r_eqN (a := x55_0) (b := 2) rfl rfl) ?_; refine asg rfl ?_; refine nt ?_; refine c_if rfl (fun h113 => ?_) (fun h113 => ?_)
                            · (first | (have h113n := of_decide_eq_true h113) | (have h113n := of_decide_eq_false (bnt h113)) | (have h113n := bnt h113) | (have h113n := h113)); refine c_region ?_; refine mv rfl ?_; refine mv rfl ?_; refine mv rfl ?_; have wf9 := FO1.wf; refine st_call fn28 rfl (oRename uQ FO1 x41_0 x44_0 (by first | omega | (simp <;> omega) | decide) (by first | omega | (simp <;> omega) | decide) (by first | omega | (simp <;> omega))) ?_; rintro en w82 ⟨x82_0, rfl, q82_0, m82, fp82, Q83, hm, ⟨sQ, sT, uQ2⟩, hfp, GFO1, hF82⟩; refine ⟨_, rfl, ?_⟩; have hS : ∀ b ∈ fpf, ¬ Q83 b := fun b hb hq => (FO1.lt b hb).2 (sT b hq); replace h0 := (h0.sub sQ).md hm hS; replace h1 := (h1.sub sQ).md hm hS; replace hd19 := (hd19.sub sQ).md hm hS; replace hd20 := (hd20.sub sQ).md hm hS; replace hd28 := (hd28.sub sQ).md hm hS; replace hd29 := (hd29.sub sQ).md hm hS; replace hd37 := (hd37.sub sQ).md hm hS; replace hd38 := (hd38.sub sQ).md hm hS; replace hd52 := (hd52.sub sQ).md hm hS; replace hd53 := (hd53.sub sQ).md hm hS; have r9 : ∀ x ∈ fp82, Fsh [] w x := fun x hx => (hfp x hx).elim (r_FO1 x) (Fsh.new M x); replace tQ := fun b hb => tQ b (sT b hb); replace sQ0 := fun b hb hl => sQ b (sQ0 b hb hl) (Nat.lt_of_lt_of_le hl M.size); replace M := M.step hm r_FO1; clear uQ r_FO1 FO1; have uQ := uQ2; have r_FO1 := r9; have FO1 := GFO1; clear uQ2 r9 GFO1 sQ sT hS hfp hm; replace FO1 : FsO (i + 11) _ _ _ _ _ := FO1; have hS84 := SafeI.ren i0_0 wf9.nd (by simp_all) (by simp_all) hF82; refine st_nil ?_; refine n_block ?_; refine n_block ?_; refine c_then ?_; refine c_region ?_; refine mv rfl ?_; refine st _ (r_addN (a := i) (b := 1) 9223372036854775808 rfl rfl rfl (by omega)) ?_; refine asg rfl ?_; refine nt ?_; refine next3 (x0 := fp82) (x1 := m82) (x2 := (i + 1)) (by omega) ⟨(fitI rfl (by omega)), rfl, rfl, rfl, rfl, rfl, rfl, trivial⟩ ⟨Q83, tQ, sQ0, uQ, M, (FO1.up (by omega)), r_FO1, h0, h1, hS84, (by omega)⟩
                            · (first | (have h113n := of_decide_eq_false h113) | (have h113n := of_decide_eq_true (bnf h113)) | (have h113n := bnf h113) | (have h113n := h113)); refine ns ?_; refine st _ (r_eqN (a := x55_0) (b := 3) rfl rfl) ?_; refine asg rfl ?_; refine nt ?_; refine c_if rfl (fun h119 => ?_) (fun h119 => ?_)
                              · (first | (have h119n := of_decide_eq_true h119) | (have h119n := of_decide_eq_false (bnt h119)) | (have h119n := bnt h119) | (have h119n := h119)); refine c_region ?_; refine mv rfl ?_; refine mv rfl ?_; have wf9 := FO1.wf; refine st_call fn20 rfl (oDrop uQ FO1 x41_0 (by first | omega | (simp <;> omega) | decide) (by first | omega | (simp <;> omega))) ?_; rintro en w85 ⟨x85_0, rfl, q85_0, m85, fp85, Q86, hm, ⟨sQ, sT, uQ2⟩, hfp, GFO1, hF85⟩; refine ⟨_, rfl, ?_⟩; have hS : ∀ b ∈ fpf, ¬ Q86 b := fun b hb hq => (FO1.lt b hb).2 (sT b hq); replace h0 := (h0.sub sQ).md hm hS; replace h1 := (h1.sub sQ).md hm hS; replace hd19 := (hd19.sub sQ).md hm hS; replace hd20 := (hd20.sub sQ).md hm hS; replace hd28 := (hd28.sub sQ).md hm hS; replace hd29 := (hd29.sub sQ).md hm hS; replace hd37 := (hd37.sub sQ).md hm hS; replace hd38 := (hd38.sub sQ).md hm hS; replace hd52 := (hd52.sub sQ).md hm hS; replace hd53 := (hd53.sub sQ).md hm hS; have r9 : ∀ x ∈ fp85, Fsh [] w x := fun x hx => (hfp x hx).elim (r_FO1 x) (Fsh.new M x); replace tQ := fun b hb => tQ b (sT b hb); replace sQ0 := fun b hb hl => sQ b (sQ0 b hb hl) (Nat.lt_of_lt_of_le hl M.size); replace M := M.step hm r_FO1; clear uQ r_FO1 FO1; have uQ := uQ2; have r_FO1 := r9; have FO1 := GFO1; clear uQ2 r9 GFO1 sQ sT hS hfp hm; replace FO1 : FsO (i + 11) _ _ _ _ _ := FO1; have hS87 := SafeI.drop i0_0 wf9.nd (by simp_all) hF85; refine st_nil ?_; refine n_block ?_; refine n_block ?_; refine c_then ?_; refine c_region ?_; refine mv rfl ?_; refine st _ (r_addN (a := i) (b := 1) 9223372036854775808 rfl rfl rfl (by omega)) ?_; refine asg rfl ?_; refine nt ?_; refine next3 (x0 := fp85) (x1 := m85) (x2 := (i + 1)) (by omega) ⟨(fitI rfl (by omega)), rfl, rfl, rfl, rfl, rfl, rfl, trivial⟩ ⟨Q86, tQ, sQ0, uQ, M, (FO1.up (by omega)), r_FO1, h0, h1, hS87, (by omega)⟩
                              · (first | (have h119n := of_decide_eq_false h119) | (have h119n := of_decide_eq_true (bnf h119)) | (have h119n := bnf h119) | (have h119n := h119)); refine ns ?_; refine st _ (r_eqN (a := x55_0) (b := 4) rfl rfl) ?_; refine asg rfl ?_; refine nt ?_; refine c_if rfl (fun h124 => ?_) (fun h124 => ?_)
                                · (first | (have h124n := of_decide_eq_true h124) | (have h124n := of_decide_eq_false (bnt h124)) | (have h124n := bnt h124) | (have h124n := h124)); refine c_region ?_; refine mv rfl ?_; refine mv rfl ?_; have wf9 := FO1.wf; refine st_call fn24 rfl (oSync uQ FO1 x41_0 (by first | omega | (simp <;> omega) | decide) (by first | omega | (simp <;> omega))) ?_; rintro en w88 ⟨x88_0, rfl, q88_0, m88, fp88, Q89, hm, ⟨sQ, sT, uQ2⟩, hfp, GFO1, hF88⟩; refine ⟨_, rfl, ?_⟩; have hS : ∀ b ∈ fpf, ¬ Q89 b := fun b hb hq => (FO1.lt b hb).2 (sT b hq); replace h0 := (h0.sub sQ).md hm hS; replace h1 := (h1.sub sQ).md hm hS; replace hd19 := (hd19.sub sQ).md hm hS; replace hd20 := (hd20.sub sQ).md hm hS; replace hd28 := (hd28.sub sQ).md hm hS; replace hd29 := (hd29.sub sQ).md hm hS; replace hd37 := (hd37.sub sQ).md hm hS; replace hd38 := (hd38.sub sQ).md hm hS; replace hd52 := (hd52.sub sQ).md hm hS; replace hd53 := (hd53.sub sQ).md hm hS; have r9 : ∀ x ∈ fp88, Fsh [] w x := fun x hx => (hfp x hx).elim (r_FO1 x) (Fsh.new M x); replace tQ := fun b hb => tQ b (sT b hb); replace sQ0 := fun b hb hl => sQ b (sQ0 b hb hl) (Nat.lt_of_lt_of_le hl M.size); replace M := M.step hm r_FO1; clear uQ r_FO1 FO1; have uQ := uQ2; have r_FO1 := r9; have FO1 := GFO1; clear uQ2 r9 GFO1 sQ sT hS hfp hm; replace FO1 : FsO (i + 11) _ _ _ _ _ := FO1; have hS90 := SafeI.sync i0_0 wf9.nd (by simp_all) hF88; refine st_nil ?_; refine n_block ?_; refine n_block ?_; refine c_then ?_; refine c_region ?_; refine mv rfl ?_; refine st _ (r_addN (a := i) (b := 1) 9223372036854775808 rfl rfl rfl (by omega)) ?_; refine asg rfl ?_; refine nt ?_; refine next3 (x0 := fp88) (x1 := m88) (x2 := (i + 1)) (by omega) ⟨(fitI rfl (by omega)), rfl, rfl, rfl, rfl, rfl, rfl, trivial⟩ ⟨Q89, tQ, sQ0, uQ, M, (FO1.up (by omega)), r_FO1, h0, h1, hS90, (by omega)⟩
                                · (first | (have h124n := of_decide_eq_false h124) | (have h124n := of_decide_eq_true (bnf h124)) | (have h124n := bnf h124) | (have h124n := h124)); refine c_skip ?_; refine n_block ?_; refine n_block ?_; refine c_then ?_; refine c_region ?_; refine mv rfl ?_; refine st _ (r_addN (a := i) (b := 1) 9223372036854775808 rfl rfl rfl (by omega)) ?_; refine asg rfl ?_; refine nt ?_; refine next3 (x0 := fpf) (x1 := f) (x2 := (i + 1)) (by omega) ⟨(fitI rfl (by omega)), rfl, rfl, rfl, rfl, rfl, rfl, trivial⟩ ⟨Q13, tQ, sQ0, uQ, M, (FO1.up (by omega)), r_FO1, h0, h1, i0_0, (by omega)⟩
                    · (first | (have h61n := of_decide_eq_false h61) | (have h61n := of_decide_eq_true (bnf h61)) | (have h61n := bnf h61) | (have h61n := h61)); refine c_exit ?_; refine x_then ?_; refine x_then ?_; refine x_hit ?_; refine c_then ?_; refine ns ?_; refine mv rfl ?_; refine mv rfl ?_; refine st_call fn25 rfl (kKeep_any uQ keep (by first | omega | (simp <;> omega))) ?_; rintro en w91 ⟨v91_0, x91_0, rfl, hm, h91_0, hF91⟩; refine ⟨_, rfl, ?_⟩; replace FO1 := FO1.md0 hm; replace h0 := h0.md0 hm; replace h1 := h1.md0 hm; replace uQ := uQ.md hm; replace M := M.step0 hm; refine mv rfl ?_; have wf9 := FO1.wf; refine st_call fn17 rfl (oCrash uQ FO1 h91_0 (dirs) (by omega) (by first | omega | (simp <;> omega))) ?_; rintro en w92 ⟨rfl, m92, fp92, Q93, hm, ⟨sQ, sT, uQ2⟩, hfp, GFO1, hF92⟩; refine ⟨_, rfl, ?_⟩; have hS : ∀ b ∈ fpf, ¬ Q93 b := fun b hb hq => (FO1.lt b hb).2 (sT b hq); replace h0 := (h0.sub sQ).md hm hS; replace h1 := (h1.sub sQ).md hm hS; replace h91_0 := (h91_0.sub sQ).md hm hS; have r9 : ∀ x ∈ fp92, Fsh [] w x := fun x hx => (hfp x hx).elim (r_FO1 x) (Fsh.new M x); replace tQ := fun b hb => tQ b (sT b hb); replace sQ0 := fun b hb hl => sQ b (sQ0 b hb hl) (Nat.lt_of_lt_of_le hl M.size); replace M := M.step hm r_FO1; clear uQ r_FO1 FO1; have uQ := uQ2; have r_FO1 := r9; have FO1 := GFO1; clear uQ2 r9 GFO1 sQ sT hS hfp hm; replace FO1 : FsO (i + 10) _ _ _ _ _ := FO1; refine nt ?_; refine ns ?_; refine mv rfl ?_; refine st_call fn26 rfl (oAll uQ FO1 (([115, 97, 102, 101] : List UInt8)) (by first | omega | (simp <;> omega) | decide) (by first | omega | (simp <;> omega))) ?_; rintro en w94 ⟨v94_0, x94_0, x94_1, rfl, hm, h94_0, q94_1, hF94⟩; refine ⟨_, rfl, ?_⟩; replace FO1 := FO1.md0 hm; replace h0 := h0.md0 hm; replace h1 := h1.md0 hm; replace h91_0 := h91_0.md0 hm; replace uQ := uQ.md hm; replace M := M.step0 hm; have eal := SafeI.crash (keep := x91_0) (d := dirs) i0_0 wf9.nd; rw [hF92] at eal; have ea2 := eal.symm.trans hF94; have ea3 := congrArg Prod.fst ea2; have ea4 := congrArg Prod.snd ea2; simp only at ea3 ea4; refine mv rfl ?_; refine st _ (r_extract rfl rfl) ?_; refine st _ (r_extract rfl rfl) ?_; refine asg rfl ?_; refine asg rfl ?_; refine nt ?_; refine ns ?_; refine mv rfl ?_; refine mv rfl ?_; refine part_n (t := 140) rfl (fun h140 => ?_) (fun h140 => ?_)
                      · (first | (have h140n := of_decide_eq_true h140) | (have h140n := of_decide_eq_false (bnt h140)) | (have h140n := bnt h140) | (have h140n := h140)); refine st_g _ rfl rfl rfl h140 (r_move rfl) ?_; refine st_g _ rfl rfl rfl h140 (r_eqN (a := x94_1) (b := 0) rfl rfl) ?_; refine st _ (r_pick_t rfl h140 rfl) ?_; refine mv rfl ?_; refine part_n (t := 144) rfl (fun h144 => ?_) (fun h144 => ?_)
                        · (first | (have h144n := of_decide_eq_true h144) | (have h144n := of_decide_eq_false (bnt h144)) | (have h144n := bnt h144) | (have h144n := h144)); refine st_g _ rfl rfl rfl h144 (r_move rfl) ?_; refine st_g _ rfl rfl rfl h144 (r_move rfl) ?_; refine st_call_g rfl rfl rfl h144 fn29 rfl (kSameB_any uQ h94_0 h0) ?_; rintro en w95 ⟨x95_0, rfl, hm, hF95⟩; refine ⟨_, rfl, ?_⟩; replace FO1 := FO1.md0 hm; replace h0 := h0.md0 hm; replace h1 := h1.md0 hm; replace h91_0 := h91_0.md0 hm; replace h94_0 := h94_0.md0 hm; replace uQ := uQ.md hm; replace M := M.step0 hm; refine st _ (r_pick_t rfl h144 rfl) ?_; refine asg rfl ?_; refine nt ?_; refine c_ret ?_; exact ret1L (v := (.bool x95_0)) trivial rfl ⟨rfl, trivial⟩ ⟨x95_0, rfl, M, (by rw [← hF95, ← ea3]; exact (decide_eq_true rfl).symm)⟩
                        · (first | (have h144n := of_decide_eq_false h144) | (have h144n := of_decide_eq_true (bnf h144)) | (have h144n := bnf h144) | (have h144n := h144)); exfalso; omega
                      · (first | (have h140n := of_decide_eq_false h140) | (have h140n := of_decide_eq_true (bnf h140)) | (have h140n := bnf h140) | (have h140n := h140)); exfalso; simp_all
end Go.Proofs.Ytcaokfendkkafaa
namespace Go.Wk
open Go Go.RowKit Go.ChangeShapes Go.WideShapes Go.ChangeAt Go.Deep

section
variable {H : Type} {enc : TypeId × Value → H} {P : Program} {w : World} {t f : TypeId} {v : Value} {d : DataW H} {ps : List MemPlace}
end
end Go.Wk
namespace Go.Wk
open Go Go.RowKit Go.ChangeShapes Go.WideShapes Go.ChangeAt Go.Deep
section
variable {H : Type} {enc : TypeId × Value → H} {P : Program} {w : World} {t e f : TypeId} {v : Value} {d : DataW H} {ps : List MemPlace} {spare : Nat → Bool} {base : Nat} {held : Bool}
theorem mapM_get {α : Type} (g : Nat → Option α) : ∀ (n o : Nat) (cs : List α), (List.range' o n).mapM g = some cs → cs.length = n ∧ ∀ i u, cs[i]? = some u → g (o + i) = some u
  | 0, o, cs, h => by simp at h; subst h; simp
  | n + 1, o, cs, h => by
    rw [List.range'_succ, List.mapM_cons] at h
    simp only [Option.bind_eq_bind, Option.pure_def, Option.bind_eq_some_iff] at h
    obtain ⟨x, hx, r, hr, hcs⟩ := h
    simp at hcs
    subst hcs
    obtain ⟨h1, h2⟩ := mapM_get g n (o + 1) r hr
    refine ⟨by simp [h1], fun i u hu => ?_⟩
    cases i with
    | zero => simp at hu; subst hu; exact hx
    | succ i => have := h2 i u (by simpa using hu); rw [show o + (i + 1) = o + 1 + i by omega]; exact this
theorem cells_get {a : Addr} {n : Nat} {cs : List Value} (h : w.cells? base a n = some cs) : cs.length = n ∧ ∀ i u, cs[i]? = some u → w.cell? (a.add i) = some u := by
  unfold World.cells? at h
  split at h
  · rw [List.range_eq_range'] at h
    obtain ⟨h1, h2⟩ := mapM_get _ n 0 cs h
    exact ⟨h1, fun i u hu => by have := h2 i u hu; rwa [Nat.zero_add] at this⟩
  · cases h
end
theorem int_bd {z : Int} (h : (Lit.int .i64 z).wf = true) : -9223372036854775808 ≤ z ∧ z < 9223372036854775808 := by
  simp [Lit.wf, IntKind.min, IntKind.max, IntKind.signed, IntKind.bits] at h
  omega
end Go.Wk
namespace Go.Wk
open Go Go.RowKit Go.ChangeShapes Go.WideShapes Go.ChangeAt Go.Deep
section
variable {H : Type} {enc : TypeId × Value → H} {P : Program} {w : World} {spare : Nat → Bool} {base : Nat} {held : Bool} {t e : TypeId} {α β : Type}
/-- What is read at a type is a datum of a kind. -/
def Rd0 (enc : TypeId × Value → H) (P : Program) (w : World) (base : Nat) (spare : Nat → Bool) (held : Bool) (t : TypeId) (T : Dt α) : Prop :=
  ∀ (fuel : Nat) (cs : List Value) (x : DataW H × List MemPlace), DataW.trod enc P w base spare held fuel t cs = some x → ∃ y, T.rep w (fun _ => True) cs y
theorem rd0_str (ht : P.underlying t = some .string) : Rd0 enc P w base spare held t tStr := by
  intro fuel cs x h
  obtain ⟨s, rfl, _, h2⟩ := DataW.trod_string ht h
  exact ⟨s.data.toList, ⟨rfl, trivial⟩⟩
theorem rd0_bool (ht : P.underlying t = some .bool) : Rd0 enc P w base spare held t tBool := by
  intro fuel cs x h
  obtain ⟨b, rfl, _⟩ := DataW.trod_bool ht h
  exact ⟨b, rfl, trivial⟩
theorem rd0_int (ht : P.underlying t = some (.int .i64)) : Rd0 enc P w base spare held t tInt := by
  intro fuel cs x h
  obtain ⟨n, rfl, _, hw⟩ := DataW.trod_int ht h
  refine ⟨n, rfl, ?_⟩
  have := hw
  simp [Lit.wf, IntKind.min, IntKind.max, IntKind.signed, IntKind.bits] at this
  omega
theorem rd0_u8 (ht : P.underlying t = some (.int .u8)) : Rd0 enc P w base spare held t tB8 := by
  intro fuel cs x h
  obtain ⟨n, rfl, _, hw⟩ := DataW.trod_int ht h
  have := hw
  simp [Lit.wf, IntKind.min, IntKind.max, IntKind.signed, IntKind.bits] at this
  refine ⟨UInt8.ofNat n.toNat, ?_, trivial⟩
  show [_] = [b8 _]
  unfold b8
  rw [UInt8.toNat_ofNat', Nat.mod_eq_of_lt (by omega)]
  congr 2; omega
theorem els_of0 {T : Dt α} {Q : Nat → Prop} {a : Addr} : ∀ (l : List (α × List Value)) (o : Nat), (∀ i y, l[i]? = some y → T.rep w Q y.2 y.1 ∧ ∀ j u, y.2[j]? = some u → w.cell? (a.add ((o + i) * T.n + j)) = some u) →
    Els T w Q (l.flatMap Prod.snd) (l.map Prod.fst) ∧ ∀ j u, (l.flatMap Prod.snd)[j]? = some u → w.cell? (a.add (o * T.n + j)) = some u
  | [], o, _ => ⟨rfl, by simp⟩
  | y :: r, o, h => by
    obtain ⟨h1, h2⟩ := h 0 y rfl
    obtain ⟨g1, g2⟩ := els_of0 r (o + 1) fun i z hz => by have := h (i + 1) z hz; rwa [show o + (i + 1) = o + 1 + i by omega] at this
    have hl := T.len h1
    rw [List.flatMap_cons, List.map_cons]
    refine ⟨⟨y.2, _, rfl, h1, g1⟩, fun j u hj => ?_⟩
    by_cases hjl : j < y.2.length
    · rw [List.getElem?_append_left hjl] at hj
      have := h2 j u hj
      rwa [Nat.add_zero] at this
    · rw [List.getElem?_append_right (by omega)] at hj
      have := g2 _ u hj
      rwa [Nat.add_mul, Nat.one_mul, hl, show o * T.n + T.n + (j - T.n) = o * T.n + j by omega] at this
theorem rd0_slice {T : Dt α} (ht : P.underlying t = some (.slice e)) (hn : P.cellsOf e = T.n) (hT : Rd0 enc P w base spare held e T) : Rd0 enc P w base spare held t (tSl T) := by
  intro fuel cs x h
  rcases open_slice ht h with ⟨rfl, rfl⟩ | ⟨a, len, cap, m, n, D, Pl, rfl, _, hl, hm, hmm, rfl, hel⟩
  · exact ⟨[], _, rfl, Ls.nil _ _ _⟩
  · have hlm : len ≤ m := by rw [hmm]; split <;> omega
    have key : ∀ i, i < len → ∃ y : α × List Value, w.cells? base (a.add (i * T.n)) T.n = some y.2 ∧ T.rep w (fun _ => True) y.2 y.1 := by
      intro i hi
      obtain ⟨cs', h1, h2⟩ := hel i (by omega)
      obtain ⟨y, h3⟩ := hT n cs' _ h2
      exact ⟨(y, cs'), by rwa [hn] at h1, h3⟩
    obtain ⟨l, hll, hp⟩ := exists_list _ len key
    obtain ⟨g1, g2⟩ := els_of0 (w := w) (T := T) (Q := fun _ => True) (a := a) l 0 fun i y hy => by
      obtain ⟨k1, k2⟩ := hp i y hy
      refine ⟨k2, fun j u hj => ?_⟩
      have := (cells_get k1).2 j u hj
      rwa [Addr.add_add, show i * T.n + j = (0 + i) * T.n + j by rw [Nat.zero_add]] at this
    refine ⟨l.map Prod.fst, _, rfl, some a, cap, l.flatMap Prod.snd, by simp [hll], by simp; omega, hm, by simp, fun _ _ _ => trivial, fun q hq j u hj => ?_, g1⟩
    cases hq
    have := g2 j u hj
    rwa [Nat.zero_mul, Nat.zero_add] at this
/-- A struct's parts: their types and places. -/
def partsT (P : Program) (t : TypeId) (l : List (TypeId × Nat)) : Bool :=
  match P.underlying t with
  | some (.struct fs) => (fs.toList.map fun x => (x.type, x.offset)) == l
  | _ => false
/-- Parts from a place on, read: of so many cells each. -/
def Parts (enc : TypeId × Value → H) (P : Program) (w : World) (base : Nat) (spare : Nat → Bool) (held : Bool) : List (TypeId × Nat) → Nat → Dt α → Prop
  | l, o, T => ∀ (n : Nat) (cs : List Value), (∀ p ∈ l, ∃ x, DataW.trod enc P w base spare held n p.1 ((cs.drop p.2).take (P.cellsOf p.1)) = some x) → ∃ y, T.rep w (fun _ => True) ((cs.drop o).take T.n) y
theorem parts_one {T : Dt α} {o : Nat} (hn : P.cellsOf t = T.n) (hT : Rd0 enc P w base spare held t T) : Parts enc P w base spare held [(t, o)] o T := by
  intro n cs h
  obtain ⟨x, hx⟩ := h (t, o) (by simp)
  rw [← hn]
  exact hT n _ x hx
theorem parts_cons {A : Dt α} {B : Dt β} {o o2 : Nat} {l : List (TypeId × Nat)} (hn : P.cellsOf t = A.n) (ho : o2 = o + A.n) (hA : Rd0 enc P w base spare held t A) (hB : Parts enc P w base spare held l o2 B) : Parts enc P w base spare held ((t, o) :: l) o (tProd A B) := by
  intro n cs h
  subst ho
  obtain ⟨x, hx⟩ := h (t, o) (by simp)
  obtain ⟨y1, h1⟩ := hA n _ x hx
  obtain ⟨y2, h2⟩ := hB n cs fun p hp => h p (List.mem_cons_of_mem _ hp)
  rw [hn] at h1
  refine ⟨(y1, y2), _, _, ?_, h1, h2⟩
  show (cs.drop o).take (A.n + B.n) = _
  rw [List.take_add, List.drop_drop]
theorem rd0_struct {T : Dt α} {l : List (TypeId × Nat)} (f : β → α) (g : α → β) (hfg : ∀ a, f (g a) = a) (ht : partsT P t l = true) (hc : P.cellsOf t = T.n) (hp : Parts enc P w base spare held l 0 T) : Rd0 enc P w base spare held t (tPull f T) := by
  intro fuel cs x h
  unfold partsT at ht
  split at ht
  · rename_i fs hu
    have hl := eq_of_beq ht
    obtain ⟨xs, n, _, _, h1, h2, h3⟩ := DataW.trod_struct hu h
    obtain ⟨y, hy⟩ := hp n cs fun p hpm => by
      rw [← hl] at hpm
      obtain ⟨fd, hfd, rfl⟩ := List.mem_map.1 hpm
      obtain ⟨i, hi⟩ := List.mem_iff_getElem?.1 hfd
      have hi' : fs[i]? = some fd := by simpa using hi
      have h4 := h3 i fd hi'
      have hil : i < xs.length := by rw [h2]; exact (Array.getElem?_eq_some_iff.1 hi').1
      rw [List.getElem?_eq_getElem hil] at h4
      exact ⟨_, h4⟩
    refine ⟨g y, ?_⟩
    show T.rep w _ cs (f (g y))
    rw [hfg]
    rwa [List.drop_zero, List.take_of_length_le (by rw [h1, hc]; exact Nat.le_refl _)] at hy
  · cases ht
/-- A row of data that comes in. -/
theorem open_row {T : Dt α} {b0 : Nat} {v : Value} {d : DataW H} {ps : List MemPlace} (ht : P.underlying t = some (.slice e)) (hc : P.cellsOf e = T.n) (hT : Rd0 enc P w base spare held e T) (hv : Value.okWide P w .any b0 t v) (h : DataW.Trod enc P w base spare held t v d ps) :
    ∃ l : List α, Ls T w (fun _ => True) v l := by
  obtain ⟨a0, len0, cap0, rfl⟩ := okWide_slice ht hv
  obtain ⟨fuel, hf'⟩ := h
  obtain ⟨l, v0, k1, k2⟩ := rd0_slice ht hc hT fuel _ _ hf'
  simp [Value.cells] at k1
  exact ⟨l, by rw [k1]; exact k2⟩
theorem u64_ofD {z : Int} (h : (Lit.int .u64 z).wf = true) : Value.int .u64 z = .int .u64 ((z.toNat : Nat) : Int) ∧ z.toNat < 18446744073709551616 := by
  simp [Lit.wf, IntKind.min, IntKind.max, IntKind.signed, IntKind.bits] at h
  exact ⟨by rw [Int.toNat_of_nonneg (by omega)], by omega⟩
end
end Go.Wk
namespace Go.Proofs.Ytcaokfendkkafaa
open Go Go.Wk Go.RowKit
set_option linter.unusedVariables false
set_option linter.unusedSimpArgs false
attribute [local irreducible] wpList wpQuiet wpStill wpMix Code.wp Calls bodyPost

theorem rdDo {H : Type} {enc : TypeId × Value → H} {w : World} {spare : Nat → Bool} {base : Nat} {held : Bool} : Rd0 enc Try.prog w base spare held 44 tDo :=
  rd0_struct (l := [(3, 0), (3, 1), (3, 2), (3, 3), (3, 4), (9, 5), (36, 6), (37, 7)]) (fun x : Do => (x.kind, x.a, x.b, x.pos, x.n, x.name, x.body, x.keep)) (fun p => ⟨p.1, p.2.1, p.2.2.1, p.2.2.2.1, p.2.2.2.2.1, p.2.2.2.2.2.1, p.2.2.2.2.2.2.1, p.2.2.2.2.2.2.2⟩) (fun _ => rfl) (by kernel_rfl) (by kernel_rfl) (parts_cons (show Try.prog.cellsOf 3 = 1 from by kernel_rfl) rfl (rd0_int (show Try.prog.underlying 3 = some _ from by kernel_rfl)) (parts_cons (show Try.prog.cellsOf 3 = 1 from by kernel_rfl) rfl (rd0_int (show Try.prog.underlying 3 = some _ from by kernel_rfl)) (parts_cons (show Try.prog.cellsOf 3 = 1 from by kernel_rfl) rfl (rd0_int (show Try.prog.underlying 3 = some _ from by kernel_rfl)) (parts_cons (show Try.prog.cellsOf 3 = 1 from by kernel_rfl) rfl (rd0_int (show Try.prog.underlying 3 = some _ from by kernel_rfl)) (parts_cons (show Try.prog.cellsOf 3 = 1 from by kernel_rfl) rfl (rd0_int (show Try.prog.underlying 3 = some _ from by kernel_rfl)) (parts_cons (show Try.prog.cellsOf 9 = 1 from by kernel_rfl) rfl (rd0_str (show Try.prog.underlying 9 = some _ from by kernel_rfl)) (parts_cons (show Try.prog.cellsOf 36 = 1 from by kernel_rfl) rfl (rd0_slice (show Try.prog.underlying 36 = some _ from by kernel_rfl) (show Try.prog.cellsOf 5 = 1 from by kernel_rfl) (rd0_u8 (show Try.prog.underlying 5 = some _ from by kernel_rfl))) (parts_one (show Try.prog.cellsOf 37 = 1 from by kernel_rfl) (rd0_slice (show Try.prog.underlying 37 = some _ from by kernel_rfl) (show Try.prog.cellsOf 4 = 1 from by kernel_rfl) (rd0_bool (show Try.prog.underlying 4 = some _ from by kernel_rfl)))))))))))
end Go.Proofs.Ytcaokfendkkafaa
