/- Part 2 of what the walk of a law stands on: VSn, VSo, VSp, VSq, VSr, VSs, VSt, VSu, VSv, SimQ, VSx, VSy, HeadR, VSz, VTa, VTb, VTc, VTd, VTe, VTf, VTg, VTh, VTi, VTj, VTk, VTl, VTm, VTn, VTo. No statement is proved here. -/
import Derived.Test.YtcaokfendkkafaaFB1
import Derived.Test.YtcaokfendkkafaaRows
namespace Go.Proofs.Ytcaokfendkkafaa
open Go Go.Wk Go.RowKit
set_option linter.unusedVariables false
set_option linter.unusedSimpArgs false
attribute [local irreducible] wpList wpQuiet wpStill wpMix Code.wp Calls bodyPost

structure SNo where
  nm : List UInt8
  there : Bool
  fid : Nat
def SNo.cells (x : SNo) : List Value :=
  [(str x.nm)] ++ ([(.bool x.there)] ++ ([(.pointer (some ⟨x.fid, 0, none⟩))]))
/-- A node: its block, what it says, its file. -/
structure SNd where
  id : Nat
  no : SNo
  fl : SFl
def tNd : Dt SNd := tOne (fun x => .pointer (some ⟨x.id, 0, none⟩)) (fun _ => rfl) (fun _ => True)
structure SCh where
  kind : Nat
  n : Nat
  old : List UInt8
  over : Option Nat
def SCh.cells (x : SCh) : List Value :=
  [(.int .i64 ((x.kind : Nat) : Int))] ++ ([(.pointer (some ⟨x.n, 0, none⟩))] ++ ([(str x.old)] ++ ([(nptr x.over)])))
def tSCh : Dt SCh := tPull (fun x => (x.kind, x.n, x.old, x.over)) (tProd tNat (tProd tNp (tProd tStr tNpo)))
def SCh.ok (x : SCh) : Prop := x.kind < 9223372036854775808
theorem tSCh_un {w : World} {Q : Nat → Prop} {cs : List Value} {x : SCh} (h : tSCh.rep w Q cs x) : ∃ (_ : True), cs = x.cells ∧ SCh.ok x := by
  obtain ⟨_, _, rfl, ⟨rfl, q0⟩, ⟨_, _, rfl, ⟨rfl, _⟩, ⟨_, _, rfl, ⟨rfl, _⟩, ⟨rfl, _⟩⟩⟩⟩ := h; exact ⟨trivial, rfl, q0⟩
theorem tSCh_mk {w : World} {Q : Nat → Prop} {x : SCh} (c0 : SCh.ok x) : tSCh.rep w Q (x.cells) x :=
  ⟨_, _, rfl, ⟨rfl, c0⟩, ⟨_, _, rfl, ⟨rfl, trivial⟩, ⟨_, _, rfl, ⟨rfl, trivial⟩, ⟨rfl, trivial⟩⟩⟩⟩
structure SFs where
  room : Int
  fuse : Int
  off : Bool
  nodes : List SNd
  pend : List SCh
def SFs.cells (x : SFs) (v0 : Value) (v1 : Value) : List Value :=
  [(.int .i64 (x.room : Int))] ++ ([(.int .i64 (x.fuse : Int))] ++ ([(.bool x.off)] ++ ([v0] ++ ([v1]))))
def SFs.ok (x : SFs) : Prop := (-9223372036854775808 ≤ x.room ∧ x.room < 9223372036854775808) ∧ (-9223372036854775808 ≤ x.fuse ∧ x.fuse < 9223372036854775808)
/-- A node's block and its file's, own; its file's bytes stay. -/
def NdR (nd fd : TypeId) (lo : Nat → Prop) (w : World) (Q : Nat → Prop) (x : SNd) : Prop :=
  Blk w x.id x.no.cells nd ∧ (∃ v0 v1, Blk w x.no.fid (x.fl.cells v0 v1) fd ∧ Ls tB8 w Q v0 x.fl.b ∧ Ls tB8 w Q v1 x.fl.safe) ∧ ¬ Q x.id ∧ ¬ Q x.no.fid ∧ lo x.id ∧ lo x.no.fid
structure Nds (nd fd : TypeId) (lo : Nat → Prop) (w : World) (Q : Nat → Prop) (l : List SNd) : Prop where
  all : ∀ x ∈ l, NdR nd fd lo w Q x
  ids : (l.map (·.id)).Nodup
  fids : (l.map (·.no.fid)).Nodup
section
variable {nd fd : TypeId} {lo lo' : Nat → Prop} {w w' : World} {Q Q' : Nat → Prop} {l : List SNd} {x : SNd} {S : List Nat}
theorem NdR.md (h : NdR nd fd lo w Q x) (m : Md S w w') (ha : x.id ∉ S ∧ x.no.fid ∉ S) (hs : ∀ b ∈ S, ¬ Q b) : NdR nd fd lo w' Q x := by
  obtain ⟨h1, ⟨v0, v1, h2, h3, h4⟩, h5⟩ := h; exact ⟨h1.md m ha.1, ⟨v0, v1, h2.md m ha.2, h3.md m hs, h4.md m hs⟩, h5⟩
theorem NdR.sub (h : NdR nd fd lo w Q x) (s : ∀ b, Q b → b < w.heap.size → Q' b) (t : ∀ b, Q' b → Q b) : NdR nd fd lo w Q' x := by
  obtain ⟨h1, ⟨v0, v1, h2, h3, h4⟩, h5, h6, h7⟩ := h; exact ⟨h1, ⟨v0, v1, h2, h3.sub s, h4.sub s⟩, fun hq => h5 (t _ hq), fun hq => h6 (t _ hq), h7⟩
theorem NdR.reP (h : NdR nd fd lo w Q x) (t : ∀ b, lo b → lo' b) : NdR nd fd lo' w Q x := by
  obtain ⟨h1, h2, h5, h6, h7, h8⟩ := h; exact ⟨h1, h2, h5, h6, t _ h7, t _ h8⟩
theorem Nds.md (h : Nds nd fd lo w Q l) (m : Md S w w') (ha : ∀ x ∈ l, x.id ∉ S ∧ x.no.fid ∉ S) (hs : ∀ b ∈ S, ¬ Q b) : Nds nd fd lo w' Q l := ⟨fun x hx => (h.all x hx).md m (ha x hx) hs, h.ids, h.fids⟩
theorem Nds.md0 (h : Nds nd fd lo w Q l) (m : Md [] w w') : Nds nd fd lo w' Q l := h.md m (fun _ _ => ⟨List.not_mem_nil, List.not_mem_nil⟩) (fun _ hb => absurd hb List.not_mem_nil)
theorem Nds.sub (h : Nds nd fd lo w Q l) (s : ∀ b, Q b → b < w.heap.size → Q' b) (t : ∀ b, Q' b → Q b) : Nds nd fd lo w Q' l := ⟨fun x hx => (h.all x hx).sub s t, h.ids, h.fids⟩
theorem Nds.reP (h : Nds nd fd lo w Q l) (t : ∀ b, lo b → lo' b) : Nds nd fd lo' w Q l := ⟨fun x hx => (h.all x hx).reP t, h.ids, h.fids⟩
theorem blk_ty {b : Nat} {cs cs' : List Value} {t t' : TypeId} (h : Blk w b cs t) (h' : Blk w b cs' t') : t = t' := by unfold Blk at h h'; rw [h] at h'; cases h'; rfl
theorem Nds.ap1 (h : Nds nd fd lo w Q l) {b : Nat} {cs : List Value} {ty : TypeId} (hB : Blk w b cs ty) (h1 : Nat.beq nd ty = false) (h2 : Nat.beq fd ty = false) : ∀ x ∈ l, x.id ∉ [b] ∧ x.no.fid ∉ [b] := by
  intro x hx; obtain ⟨g1, ⟨v0, v1, g2, _⟩, _⟩ := h.all x hx; refine ⟨fun hm => ?_, fun hm => ?_⟩
  · rw [List.mem_singleton] at hm; rw [hm] at g1; rw [blk_ty g1 hB] at h1; simp at h1
  · rw [List.mem_singleton] at hm; rw [hm] at g2; rw [blk_ty g2 hB] at h2; simp at h2
theorem Nds.get (h : Nds nd fd lo w Q l) (hx : x ∈ l) : Blk w x.id x.no.cells nd ∧ x.id < w.heap.size ∧ ¬ Q x.id := ⟨(h.all x hx).1, (h.all x hx).1.lt, (h.all x hx).2.2.1⟩
theorem Nds.file (h : Nds nd fd lo w Q l) (hx : x ∈ l) : ∃ v0 v1, Blk w x.no.fid (x.fl.cells v0 v1) fd ∧ ¬ Q x.no.fid ∧ Ls tB8 w Q v0 x.fl.b ∧ Ls tB8 w Q v1 x.fl.safe := by
  obtain ⟨_, ⟨v0, v1, g1, g2, g3⟩, _, g4, _⟩ := h.all x hx; exact ⟨v0, v1, g1, g4, g2, g3⟩
end
/-- The node that is there by a name. -/
def findN : List SNd → List UInt8 → Option SNd
  | [], _ => none
  | x :: l, s => if x.no.there = true ∧ x.no.nm = s then some x else findN l s
theorem findN_end {l : List SNd} {s : List UInt8} {i : Nat} (h : ¬ i < l.length) : findN (l.drop i) s = none := by rw [List.drop_of_length_le (by omega)]; rfl
theorem findN_get {l : List SNd} {i : Nat} {x : SNd} (h : l[i]? = some x) : l.drop i = x :: l.drop (i + 1) := by
  obtain ⟨h1, h2⟩ := List.getElem?_eq_some_iff.1 h; rw [← h2]; exact List.drop_eq_getElem_cons h1
theorem findN_yes {l : List SNd} {s : List UInt8} {i : Nat} {x : SNd} (h : l[i]? = some x) (h1 : x.no.there = true) (h2 : x.no.nm = s) : findN (l.drop i) s = some x := by rw [findN_get h, findN, if_pos ⟨h1, h2⟩]
theorem findN_no {l : List SNd} {s : List UInt8} {i : Nat} {x : SNd} (h : l[i]? = some x) (h1 : ¬ (x.no.there = true ∧ x.no.nm = s)) : findN (l.drop i) s = findN (l.drop (i + 1)) s := by rw [findN_get h, findN, if_neg h1]
theorem findN_mem : ∀ {l : List SNd} {s : List UInt8} {x : SNd}, findN l s = some x → x ∈ l ∧ x.no.there = true ∧ x.no.nm = s
  | [], _, _, h => by cases h
  | y :: l, s, x, h => by
    rw [findN] at h; by_cases hc : y.no.there = true ∧ y.no.nm = s
    · rw [if_pos hc] at h; cases h; exact ⟨List.mem_cons_self, hc⟩
    · rw [if_neg hc] at h; obtain ⟨h1, h2⟩ := findN_mem h; exact ⟨List.mem_cons_of_mem _ h1, h2⟩
/-- How many are there, and how many bytes they have. -/
def totF : List SNd → Nat × Nat
  | [] => (0, 0)
  | x :: l => if x.no.there = true then ((totF l).1 + 1, (totF l).2 + x.fl.b.length) else totF l
theorem totF_end {l : List SNd} {i : Nat} (h : ¬ i < l.length) : totF (l.drop i) = (0, 0) := by rw [List.drop_of_length_le (by omega)]; rfl
theorem totF_yes {l : List SNd} {i : Nat} {x : SNd} (h : l[i]? = some x) (h1 : x.no.there = true) : totF (l.drop i) = ((totF (l.drop (i + 1))).1 + 1, (totF (l.drop (i + 1))).2 + x.fl.b.length) := by rw [findN_get h, totF, if_pos h1]
theorem totF_no {l : List SNd} {i : Nat} {x : SNd} (h : l[i]? = some x) (h1 : ¬ x.no.there = true) : totF (l.drop i) = totF (l.drop (i + 1)) := by rw [findN_get h, totF, if_neg h1]
theorem totF_le : ∀ l : List SNd, (totF l).1 ≤ l.length
  | [] => Nat.le_refl _
  | x :: l => by
    have := totF_le l; rw [totF]; by_cases h : x.no.there = true
    · rw [if_pos h]; simpa using this
    · rw [if_neg h]; simp; omega
/-- The node of a name, or why there is none. -/
def getF (off : Bool) (l : List SNd) (s : List UInt8) : Option Nat × Nat :=
  if mayF off [s] ≠ 0 then (none, mayF off [s]) else match findN l s with
    | some x => (some x.id, 0)
    | none => (none, 16)
theorem getF_no {off : Bool} {l : List SNd} {s : List UInt8} {c : Nat} (h : mayF off [s] = c) (hc : c ≠ 0) : getF off l s = (none, c) := by subst h; unfold getF; rw [if_pos hc]
theorem getF_in {off : Bool} {l : List SNd} {s : List UInt8} {c : Nat} {o : Option Nat} (h : mayF off [s] = c) (hc : c = 0) (hf : (findN l s).map (·.id) = o) (ho : o.isSome = true) : getF off l s = (o, 0) := by
  subst hf; unfold getF; rw [if_neg (by omega)]
  cases hq : findN l s with
  | none => rw [hq] at ho; cases ho
  | some x => rfl
theorem getF_out {off : Bool} {l : List SNd} {s : List UInt8} {c : Nat} {o : Option Nat} (h : mayF off [s] = c) (hc : c = 0) (hf : (findN l s).map (·.id) = o) (ho : o.isSome = false) : getF off l s = (none, 16) := by
  subst hf; unfold getF; rw [if_neg (by omega)]
  cases hq : findN l s with
  | none => rfl
  | some x => rw [hq] at ho; cases ho
section
variable {nd fd : TypeId} {lo lo1 lo2 : Nat → Prop} {w : World} {Q : Nat → Prop} {l : List SNd} {α β : Type} {T : Dt α} {U : Dt β}
theorem Nds.apO (h : Nds nd fd lo w Q l) {e : Nat} {v : Value} {xs : List α} {Q1 : Nat → Prop} (hO : Ow T e lo1 w Q1 v xs) (h1 : Nat.beq e nd = false) (h2 : Nat.beq e fd = false) : ∀ x ∈ l, x.id ∉ (vblock v).toList ∧ x.no.fid ∉ (vblock v).toList := by
  intro x hx; obtain ⟨g1, ⟨v0, v1, g2, _⟩, _⟩ := h.all x hx; refine ⟨fun hm => ?_, fun hm => ?_⟩
  · exact hO.blk_ne g1 h1 x.id (by simpa using hm) rfl
  · exact hO.blk_ne g2 h2 x.no.fid (by simpa using hm) rfl
theorem Nds.apF (h : Nds nd fd lo w Q l) {b : Nat} {cs : List Value} {ty e1 e2 : TypeId} {v1 v2 : Value} {x1 : List α} {x2 : List β} {Q1 Q2 : Nat → Prop} (hB : Blk w b cs ty) (hO : Ow T e1 lo1 w Q1 v1 x1) (hP : Ow U e2 lo2 w Q2 v2 x2) (h1 : Nat.beq nd ty = false) (h2 : Nat.beq fd ty = false) (h3 : Nat.beq e1 nd = false) (h4 : Nat.beq e1 fd = false) (h5 : Nat.beq e2 nd = false) (h6 : Nat.beq e2 fd = false) :
    ∀ x ∈ l, x.id ∉ (b :: (vblock v1).toList ++ ((vblock v2).toList)) ∧ x.no.fid ∉ (b :: (vblock v1).toList ++ ((vblock v2).toList)) := by
  intro x hx; have a1 := h.ap1 hB h1 h2 x hx; have a2 := h.apO hO h3 h4 x hx; have a3 := h.apO hP h5 h6 x hx; simp only [List.mem_append, List.mem_cons, List.mem_singleton, List.not_mem_nil, or_false] at a1 ⊢; exact ⟨fun hm => hm.elim (fun q => q.elim a1.1 a2.1) a3.1, fun hm => hm.elim (fun q => q.elim a1.2 a2.2) a3.2⟩
end
def burnF (f : SFs) : Nat × SFs := if f.fuse = 0 then (18, { f with off := true }) else if 0 < f.fuse then (0, { f with fuse := f.fuse - 1 }) else (0, f)
theorem burn_0 {f : SFs} (h : f.fuse = 0) : burnF f = (18, { f with off := true }) := by unfold burnF; rw [if_pos h]
theorem burn_1 {f : SFs} (h : ¬ f.fuse = 0) (h1 : 0 < f.fuse) : burnF f = (0, { f with fuse := f.fuse - 1 }) := by unfold burnF; rw [if_neg h, if_pos h1]
theorem burn_2 {f : SFs} (h : ¬ f.fuse = 0) (h1 : ¬ 0 < f.fuse) : burnF f = (0, f) := by unfold burnF; rw [if_neg h, if_neg h1]
theorem getF_some {off : Bool} {l : List SNd} {s : List UInt8} {c : Nat} {o : Option Nat} (h : getF off l s = (o, c)) (hc : c = 0) : ∃ x, x ∈ l ∧ o = some x.id ∧ (mayF off [s] = 0 ∧ findN l s = some x) := by
  subst hc; unfold getF at h; by_cases h1 : mayF off [s] ≠ 0
  · rw [if_pos h1] at h; exact absurd (congrArg Prod.snd h) h1
  · rw [if_neg h1] at h
    cases hq : findN l s with
    | none => rw [hq] at h; cases h
    | some x => rw [hq] at h; exact ⟨x, (findN_mem hq).1, (congrArg Prod.fst h).symm, by omega, rfl⟩
def allF (off : Bool) (l : List SNd) (s : List UInt8) : List UInt8 × Nat :=
  if (getF off l s).2 ≠ 0 then ([], (getF off l s).2) else match findN l s with | some x => (x.fl.b, 0) | none => ([], 0)
theorem allF_no {off : Bool} {l : List SNd} {s : List UInt8} {c : Nat} {o : Option Nat} (h : getF off l s = (o, c)) (hc : c ≠ 0) : allF off l s = ([], c) := by unfold allF; rw [h]; rw [if_pos hc]
theorem getF_0 {off : Bool} {l : List SNd} {s : List UInt8} {x : SNd} (h : mayF off [s] = 0 ∧ findN l s = some x) : getF off l s = (some x.id, 0) := by unfold getF; rw [h.1, h.2]; rfl
theorem allF_in {off : Bool} {l : List SNd} {s b : List UInt8} {x : SNd} (h : mayF off [s] = 0 ∧ findN l s = some x) (hb : x.fl.b = b) : allF off l s = (b, 0) := by unfold allF; rw [getF_0 h, h.2, ← hb]; rfl
def freeF (f : SFs) : Int := if f.off = true then 0 else if 0 < f.room - ((totF f.nodes).2 : Int) then f.room - ((totF f.nodes).2 : Int) else 0
theorem freeF_off {f : SFs} (h : f.off = true) : freeF f = 0 := by unfold freeF; rw [if_pos h]
theorem freeF_on {f : SFs} {a b : Nat} (h : f.off = false) (ht : totF f.nodes = (a, b)) : freeF f = if f.room - (b : Int) < 0 then 0 else f.room - (b : Int) := by
  unfold freeF; rw [h, ht]; simp only [Bool.false_eq_true, if_false]
  split <;> split <;> omega
theorem Nds.subF {nd fd : TypeId} {lo : Nat → Prop} {w : World} {Q Q' : Nat → Prop} {l : List SNd} {v : Value} (h : Nds nd fd lo w Q l) (fQ : ∀ b, Q b → Q' b) (fT : ∀ b, Q' b → Q b ∨ vblock v = some b) (ap : ∀ x ∈ l, x.id ∉ (vblock v).toList ∧ x.no.fid ∉ (vblock v).toList) : Nds nd fd lo w Q' l := by
  refine ⟨fun x hx => ?_, h.ids, h.fids⟩; obtain ⟨h1, ⟨v0, v1, h2, h3, h4⟩, h5, h6, h7⟩ := h.all x hx; have a := ap x hx; exact ⟨h1, ⟨v0, v1, h2, h3.sub (fun b hb _ => fQ b hb), h4.sub (fun b hb _ => fQ b hb)⟩, fun hq => (fT _ hq).elim h5 (fun hv => a.1 (by simp [hv])), fun hq => (fT _ hq).elim h6 (fun hv => a.2 (by simp [hv])), h7⟩

end Go.Proofs.Ytcaokfendkkafaa
namespace Go.Proofs.Ytcaokfendkkafaa
open Go Go.Wk Go.RowKit
set_option linter.unusedVariables false
set_option linter.unusedSimpArgs false
attribute [local irreducible] wpList wpQuiet wpStill wpMix Code.wp Calls bodyPost
theorem el82 : elemIs Try.prog 82 1 = true := by kernel_rfl
theorem off80_3 : fieldOff Try.prog 80 3 = some 3 := by kernel_rfl
theorem off90_0 : fieldOff Try.prog 90 0 = some 0 := by kernel_rfl
theorem off90_1 : fieldOff Try.prog 90 1 = some 1 := by kernel_rfl
theorem one77 : isOne Try.prog 77 = true := by kernel_rfl
theorem one82 : isOne Try.prog 82 = true := by kernel_rfl
theorem one9 : isOne Try.prog 9 = true := by kernel_rfl
theorem u77 : Try.prog.underlying 77 = some (.slice 82) := by kernel_rfl

theorem fFind_any {w : World} {Q : Nat → Prop} (uQ : Up w Q) {b0 : Nat} {v0_0 : Value} {v0_1 : Value} (f : SFs) (h0 : Blk w b0 (SFs.cells f v0_0 v0_1) 80) (n0 : ¬ Q b0) (a0_0 : SFs.ok f) (a0_1 : Ow tNd 82 (fun _ => True) w Q v0_0 f.nodes) (a0_2 : Ow tSCh 92 (fun _ => True) w Q v0_1 f.pend) (s : List UInt8) (p0 : Nds 90 125 (fun _ => True) w Q f.nodes) :
    Calls Try.prog 59 #[.pointer (some ⟨b0, 0, none⟩), (str s)] w fun en w' => ∃ r0 : Option Nat, en = .returned (nptr r0) ∧ Md [] w w' ∧ (findN f.nodes s).map (·.id) = r0 := by
  have hN := p0; have Ln := a0_1.read.len63; have n_h0 := n0; have M := Md.refl [] w; have uQ0 := uQ; have tQ : ∀ b, Q b → Q b := fun _ h => h; have sQ0 : ∀ b, Q b → b < w.heap.size → Q b := fun _ h _ => h; refine enter (n := 30) Try.func59 rfl rfl rfl ?_; intro B; refine ns ?_; refine asg rfl ?_; refine nt ?_; refine c_seq ?_; refine ns ?_; refine mv rfl ?_; refine st _ (r_nil rfl) ?_; refine st _ (r_field rfl off80_3) ?_; refine st _ ((r_loadBlk rfl one77 h0 rfl).to (b := v0_0) rfl) ?_; refine st _ (r_len rfl u77 a0_1.shp) ?_; refine mv rfl ?_; refine nt ?_; refine c_block ?_; obtain ⟨r0, hr00⟩ : ∃ r, findN f.nodes s = r := ⟨_, rfl⟩; have hr0o := hr00
  try simp only [List.nil_append] at hr00
  refine loop1 (fun (i : Nat) => [(12, (.int .i64 ((i : Nat) : Int))), (1, (str s)), (10, v0_0), (11, (.int .i64 ((f.nodes.length : Nat) : Int)))]) (fun (i : Nat) w' => ∃ Q' : Nat → Prop, (∀ b, Q' b → Q b) ∧ (∀ b, Q b → b < w.heap.size → Q' b) ∧ Up w' Q' ∧ Md [] w w' ∧ Ow tNd 82 (fun _ => True) w' Q' v0_0 f.nodes ∧ Nds 90 125 (fun _ => True) w' Q' f.nodes ∧ i ≤ f.nodes.length ∧ findN (f.nodes.drop i) s = r0) (fun (i : Nat) => f.nodes.length - i) (x0 := 0) ?_ ?_ ?_
  · exact ⟨rfl, rfl, rfl, rfl, trivial⟩
  · exact ⟨Q, tQ, sQ0, uQ, M, a0_1, hN, (by omega), (by have hh := hr00; first | exact hh | exact hr0o | (simp only [List.nil_append] at hh; exact hh))⟩
  · clear M uQ tQ sQ0 n_h0 a0_1 a0_2 h0 hN
    rintro i B w1 ⟨Q2, tQ, sQ0, uQ, M, a0_1, hN, i0_0, hr0⟩; refine ns ?_; refine st _ (r_ltN (a := i) (b := f.nodes.length) rfl rfl) ?_; refine nt ?_; refine c_seq ?_; refine c_if rfl (fun h13 => ?_) (fun h13 => ?_)
    · (first | (have h13n := of_decide_eq_true h13) | (have h13n := of_decide_eq_false (bnt h13)) | (have h13n := bnt h13) | (have h13n := h13)); refine c_skip ?_; refine c_then ?_; refine c_seq ?_; refine c_block ?_; refine ns ?_; refine st _ (r_indexN (i := i) 1 rfl rfl u77 el82 a0_1.shp (by omega)) ?_; obtain ⟨x3, hx3⟩ := getE (l := f.nodes) (i := i) (by first | omega | (simp <;> omega)); obtain ⟨c4, hr3, ha3⟩ := a0_1.get hx3; obtain ⟨rfl, _⟩ := hr3; replace ha3 : At _ v0_0 (i * 1) [(.pointer (some ⟨x3.id, 0, none⟩))] := ha3; refine st _ ((r_loadE (kk := i * 1) 0 rfl rfl one82 ha3 rfl).to (b := (.pointer (some ⟨x3.id, 0, none⟩))) rfl) ?_; refine asg rfl ?_; refine st_nil ?_; clear ha3; refine c_then ?_; refine ns ?_; refine mv rfl ?_; refine st _ (r_nil rfl) ?_; refine st _ (r_field rfl off90_1) ?_; refine st _ ((r_loadBlk rfl one4 (hN.get (List.mem_of_getElem? hx3)).1 rfl).to (b := (.bool x3.no.there)) rfl) ?_; refine mv rfl ?_; refine part_n (t := 20) rfl (fun h20 => ?_) (fun h20 => ?_)
      · (first | (have h20n := of_decide_eq_true h20) | (have h20n := of_decide_eq_false (bnt h20)) | (have h20n := bnt h20) | (have h20n := h20)); refine st_g _ rfl rfl rfl h20 (r_move rfl) ?_; refine st_g _ rfl rfl rfl h20 (r_nil rfl) ?_; refine st_g _ rfl rfl rfl h20 (r_field rfl off90_0) ?_; refine st_g _ rfl rfl rfl h20 ((r_loadBlk rfl one9 (hN.get (List.mem_of_getElem? hx3)).1 rfl).to (b := (str x3.no.nm)) rfl) ?_; refine st_g _ rfl rfl rfl h20 (r_move rfl) ?_; refine st_g _ rfl rfl rfl h20 (r_eqlS (a := x3.no.nm) (b := s) rfl rfl) ?_; refine st _ (r_pick_t rfl h20 rfl) ?_; refine nt ?_; refine c_if rfl (fun h27 => ?_) (fun h27 => ?_)
        · (first | (have h27n := of_decide_eq_true h27) | (have h27n := of_decide_eq_false (bnt h27)) | (have h27n := bnt h27) | (have h27n := h27)); refine ns ?_; refine mv rfl ?_; refine asg rfl ?_; refine nt ?_; refine c_ret ?_; refine r_block ?_; refine r_then ?_; refine r_then ?_; refine r_block ?_; refine r_then ?_; exact ret1L (v := (nptr ((some x3.id)))) trivial rfl ⟨rfl, trivial⟩ ⟨(some x3.id), rfl, M, (by have e := hr0o.trans (hr0.symm.trans (findN_yes hx3 (by simp_all) (by simp_all))); rw [e]; rfl)⟩
        · (first | (have h27n := of_decide_eq_false h27) | (have h27n := of_decide_eq_true (bnf h27)) | (have h27n := bnf h27) | (have h27n := h27)); refine c_skip ?_; refine n_block ?_; refine c_then ?_; refine c_region ?_; refine st _ (r_addN (a := i) (b := 1) 9223372036854775808 rfl rfl rfl (by omega)) ?_; refine mv rfl ?_; refine nt ?_; refine next1 (x0 := (i + 1)) (by omega) ⟨(fitI rfl (by omega)), rfl, rfl, rfl, trivial⟩ ⟨Q2, tQ, sQ0, uQ, M, a0_1, hN, (by omega), (by have hh := hr0; rw [findN_no hx3 (by simp_all)] at hh; exact hh)⟩
      · (first | (have h20n := of_decide_eq_false h20) | (have h20n := of_decide_eq_true (bnf h20)) | (have h20n := bnf h20) | (have h20n := h20)); refine st_skip rfl rfl rfl h20 ?_; refine st_skip rfl rfl rfl h20 ?_; refine st_skip rfl rfl rfl h20 ?_; refine st_skip rfl rfl rfl h20 ?_; refine st_skip rfl rfl rfl h20 ?_; refine st_skip rfl rfl rfl h20 ?_; refine st _ (r_pick_f rfl h20 rfl) ?_; refine nt ?_; refine c_if_f rfl rfl ?_; refine c_skip ?_; refine n_block ?_; refine c_then ?_; refine c_region ?_; refine st _ (r_addN (a := i) (b := 1) 9223372036854775808 rfl rfl rfl (by omega)) ?_; refine mv rfl ?_; refine nt ?_; refine next1 (x0 := (i + 1)) (by omega) ⟨(fitI rfl (by omega)), rfl, rfl, rfl, trivial⟩ ⟨Q2, tQ, sQ0, uQ, M, a0_1, hN, (by omega), (by have hh := hr0; rw [findN_no hx3 (by simp_all)] at hh; exact hh)⟩
    · (first | (have h13n := of_decide_eq_false h13) | (have h13n := of_decide_eq_true (bnf h13)) | (have h13n := bnf h13) | (have h13n := h13)); refine c_exit ?_; refine x_then ?_; refine x_then ?_; refine x_hit ?_; refine c_then ?_; refine ns ?_; refine asg rfl ?_; refine nt ?_; refine c_ret ?_; exact ret1L (v := (nptr none)) trivial rfl ⟨rfl, trivial⟩ ⟨none, rfl, M, (by have e := hr0o.trans (hr0.symm.trans (findN_end (by omega))); rw [e]; rfl)⟩
end Go.Proofs.Ytcaokfendkkafaa
namespace Go.Proofs.Ytcaokfendkkafaa
open Go Go.Wk Go.RowKit
set_option linter.unusedVariables false
set_option linter.unusedSimpArgs false
attribute [local irreducible] wpList wpQuiet wpStill wpMix Code.wp Calls bodyPost
theorem fn56 : isFn Try.prog 56 = true := by kernel_rfl
theorem off90_2 : fieldOff Try.prog 90 2 = some 2 := by kernel_rfl
theorem one87 : isOne Try.prog 87 = true := by kernel_rfl

theorem fTotal_any {w : World} {Q : Nat → Prop} (uQ : Up w Q) {b0 : Nat} {v0_0 : Value} {v0_1 : Value} (f : SFs) (h0 : Blk w b0 (SFs.cells f v0_0 v0_1) 80) (n0 : ¬ Q b0) (a0_0 : SFs.ok f) (a0_1 : Ow tNd 82 (fun _ => True) w Q v0_0 f.nodes) (a0_2 : Ow tSCh 92 (fun _ => True) w Q v0_1 f.pend) (p0 : Nds 90 125 (fun _ => True) w Q f.nodes) (p1 : (totF f.nodes).2 ≤ 1000000000000) :
    Calls Try.prog 48 #[.pointer (some ⟨b0, 0, none⟩)] w fun en w' => ∃ r0 : Nat, ∃ r1 : Nat, en = .returned (.tuple #[(.int .i64 ((r0 : Nat) : Int)), (.int .i64 ((r1 : Nat) : Int))]) ∧ Md [] w w' ∧ r0 < 9223372036854775808 ∧ r1 < 9223372036854775808 ∧ totF f.nodes = (r0, r1) := by
  have hN := p0; have Ln := a0_1.read.len63; have n_h0 := n0; have M := Md.refl [] w; have uQ0 := uQ; have tQ : ∀ b, Q b → Q b := fun _ h => h; have sQ0 : ∀ b, Q b → b < w.heap.size → Q b := fun _ h _ => h; refine enter (n := 33) Try.func48 rfl rfl rfl ?_; intro B; refine ns ?_; have t1 := totF_le f.nodes; refine asg rfl ?_; refine asg rfl ?_; refine nt ?_; refine ns ?_; refine asg rfl ?_; refine asg rfl ?_; refine nt ?_; refine c_seq ?_; refine ns ?_; refine mv rfl ?_; refine st _ (r_nil rfl) ?_; refine st _ (r_field rfl off80_3) ?_; refine st _ ((r_loadBlk rfl one77 h0 rfl).to (b := v0_0) rfl) ?_; refine st _ (r_len rfl u77 a0_1.shp) ?_; refine mv rfl ?_; refine nt ?_; refine c_block ?_; refine loop3 (fun (a : Nat) (z : Nat) (i : Nat) => [(4, (.int .i64 ((a : Nat) : Int))), (5, (.int .i64 ((z : Nat) : Int))), (13, (.int .i64 ((i : Nat) : Int))), (2, (.int .i64 ((0 : Nat) : Int))), (3, (.int .i64 ((0 : Nat) : Int))), (11, v0_0), (12, (.int .i64 ((f.nodes.length : Nat) : Int)))]) (fun (a : Nat) (z : Nat) (i : Nat) w' => ∃ Q' : Nat → Prop, (∀ b, Q' b → Q b) ∧ (∀ b, Q b → b < w.heap.size → Q' b) ∧ Up w' Q' ∧ Md [] w w' ∧ Ow tNd 82 (fun _ => True) w' Q' v0_0 f.nodes ∧ Nds 90 125 (fun _ => True) w' Q' f.nodes ∧ i ≤ f.nodes.length ∧ a + (totF (f.nodes.drop i)).1 = (totF f.nodes).1 ∧ z + (totF (f.nodes.drop i)).2 = (totF f.nodes).2) (fun (a : Nat) (z : Nat) (i : Nat) => f.nodes.length - i) (x0 := 0) (x1 := 0) (x2 := 0) ?_ ?_ ?_
  · exact ⟨rfl, rfl, rfl, rfl, rfl, rfl, rfl, trivial⟩
  · exact ⟨Q, tQ, sQ0, uQ, M, a0_1, hN, (by omega), (by simp), (by simp)⟩
  · clear M uQ tQ sQ0 n_h0 a0_1 a0_2 h0 hN
    rintro a z i B w1 ⟨Q2, tQ, sQ0, uQ, M, a0_1, hN, i0_0, i0_1, i0_2⟩; refine ns ?_; refine st _ (r_ltN (a := i) (b := f.nodes.length) rfl rfl) ?_; refine nt ?_; refine c_seq ?_; refine c_if rfl (fun h14 => ?_) (fun h14 => ?_)
    · (first | (have h14n := of_decide_eq_true h14) | (have h14n := of_decide_eq_false (bnt h14)) | (have h14n := bnt h14) | (have h14n := h14)); refine c_skip ?_; refine c_then ?_; refine c_seq ?_; refine c_block ?_; refine ns ?_; refine st _ (r_indexN (i := i) 1 rfl rfl u77 el82 a0_1.shp (by omega)) ?_; obtain ⟨x3, hx3⟩ := getE (l := f.nodes) (i := i) (by first | omega | (simp <;> omega)); obtain ⟨c4, hr3, ha3⟩ := a0_1.get hx3; obtain ⟨rfl, _⟩ := hr3; replace ha3 : At _ v0_0 (i * 1) [(.pointer (some ⟨x3.id, 0, none⟩))] := ha3; refine st _ ((r_loadE (kk := i * 1) 0 rfl rfl one82 ha3 rfl).to (b := (.pointer (some ⟨x3.id, 0, none⟩))) rfl) ?_; refine asg rfl ?_; refine st_nil ?_; clear ha3; refine c_then ?_; refine ns ?_; refine mv rfl ?_; refine st _ (r_nil rfl) ?_; refine st _ (r_field rfl off90_1) ?_; refine st _ ((r_loadBlk rfl one4 (hN.get (List.mem_of_getElem? hx3)).1 rfl).to (b := (.bool x3.no.there)) rfl) ?_; refine nt ?_; refine c_if rfl (fun h20 => ?_) (fun h20 => ?_)
      · (first | (have h20n := of_decide_eq_true h20) | (have h20n := of_decide_eq_false (bnt h20)) | (have h20n := bnt h20) | (have h20n := h20)); have te := totF_yes hx3 (by simp_all); have te1 := congrArg Prod.fst te; have te2 := congrArg Prod.snd te; simp only at te1 te2; refine ns ?_; refine mv rfl ?_; refine st _ (r_addN (a := a) (b := 1) 9223372036854775808 rfl rfl rfl (by omega)) ?_; refine asg rfl ?_; refine nt ?_; refine c_region ?_; refine mv rfl ?_; refine mv rfl ?_; refine st _ (r_nil rfl) ?_; refine st _ (r_field rfl off90_2) ?_; obtain ⟨fv5, fw5, hf5, n_hf5, fb5, fs5⟩ := hN.file (List.mem_of_getElem? hx3); refine st _ ((r_loadBlk rfl one87 (hN.get (List.mem_of_getElem? hx3)).1 rfl).to (b := (.pointer (some ⟨x3.no.fid, 0, none⟩))) rfl) ?_; refine st_call fn56 rfl (sLen_any uQ x3.fl hf5 n_hf5 fb5 fs5) ?_; rintro en w6 ⟨x6_0, rfl, hm, q6_0, hF6⟩; refine ⟨_, rfl, ?_⟩; replace a0_1 := a0_1.md0 hm; replace hN := hN.md0 hm; replace fb5 := fb5.md0 hm; replace fs5 := fs5.md0 hm; replace hf5 := hf5.md0 hm; replace uQ := uQ.md hm; replace M := M.step0 hm; refine st _ (r_addN (a := z) (b := x6_0) 9223372036854775808 rfl rfl rfl (by omega)) ?_; refine asg rfl ?_; refine st_nil ?_; refine n_block ?_; refine c_then ?_; refine c_region ?_; refine st _ (r_addN (a := i) (b := 1) 9223372036854775808 rfl rfl rfl (by omega)) ?_; refine mv rfl ?_; refine nt ?_; refine next3 (x0 := (a + 1)) (x1 := (z + x6_0)) (x2 := (i + 1)) (by omega) ⟨(fitI rfl (by omega)), (fitI rfl (by omega)), (fitI rfl (by omega)), rfl, rfl, rfl, rfl, trivial⟩ ⟨Q2, tQ, sQ0, uQ, M, a0_1, hN, (by omega), (by have e := totF_yes hx3 (by simp_all); rw [e] at i0_1; simp only at i0_1; omega), (by have e := totF_yes hx3 (by simp_all); rw [e] at i0_2; simp only at i0_2; omega)⟩
      · (first | (have h20n := of_decide_eq_false h20) | (have h20n := of_decide_eq_true (bnf h20)) | (have h20n := bnf h20) | (have h20n := h20)); refine c_skip ?_; refine n_block ?_; refine c_then ?_; refine c_region ?_; refine st _ (r_addN (a := i) (b := 1) 9223372036854775808 rfl rfl rfl (by omega)) ?_; refine mv rfl ?_; refine nt ?_; refine next3 (x0 := a) (x1 := z) (x2 := (i + 1)) (by omega) ⟨(fitI rfl (by omega)), (fitI rfl (by omega)), (fitI rfl (by omega)), rfl, rfl, rfl, rfl, trivial⟩ ⟨Q2, tQ, sQ0, uQ, M, a0_1, hN, (by omega), (by have e := totF_no hx3 (by simp_all); rw [e] at i0_1; exact i0_1), (by have e := totF_no hx3 (by simp_all); rw [e] at i0_2; exact i0_2)⟩
    · (first | (have h14n := of_decide_eq_false h14) | (have h14n := of_decide_eq_true (bnf h14)) | (have h14n := bnf h14) | (have h14n := h14)); refine c_exit ?_; refine x_then ?_; refine x_then ?_; refine x_hit ?_; refine c_then ?_; refine ns ?_; refine mv rfl ?_; refine mv rfl ?_; refine asg rfl ?_; refine asg rfl ?_; refine nt ?_; refine c_ret ?_; exact retL (vs := [(.int .i64 ((a : Nat) : Int)), (.int .i64 ((z : Nat) : Int))]) trivial rfl ⟨rfl, rfl, trivial⟩ rfl ⟨a, z, rfl, M, (by first | assumption | omega | simp_all), (by first | assumption | omega | simp_all), (by rw [totF_end (by omega)] at i0_1 i0_2; exact Prod.ext i0_1.symm i0_2.symm)⟩
end Go.Proofs.Ytcaokfendkkafaa
namespace Go.Proofs.Ytcaokfendkkafaa
open Go Go.Wk Go.RowKit
set_option linter.unusedVariables false
set_option linter.unusedSimpArgs false
attribute [local irreducible] wpList wpQuiet wpStill wpMix Code.wp Calls bodyPost
theorem el9 : elemIs Try.prog 9 1 = true := by kernel_rfl
theorem elT9 : elT Try.prog 9 1 16 = true := by kernel_rfl
theorem fn44 : isFn Try.prog 44 = true := by kernel_rfl
theorem fn59 : isFn Try.prog 59 = true := by kernel_rfl
theorem fn82 : isFn Try.prog 82 = true := by kernel_rfl
theorem off80_2 : fieldOff Try.prog 80 2 = some 2 := by kernel_rfl
theorem u30 : Try.prog.underlying 30 = some (.slice 9) := by kernel_rfl
theorem u82 : Try.prog.underlying 82 = some (.pointer 90) := by kernel_rfl

theorem fMay_any {w : World} {Q : Nat → Prop} (uQ : Up w Q) {b0 : Nat} {v0_0 : Value} {v0_1 : Value} (f : SFs) (h0 : Blk w b0 (SFs.cells f v0_0 v0_1) 80) (n0 : ¬ Q b0) (a0_0 : SFs.ok f) (a0_1 : Ow tNd 82 (fun _ => True) w Q v0_0 f.nodes) (a0_2 : Ow tSCh 92 (fun _ => True) w Q v0_1 f.pend) {v1 : Value} {l : List (List UInt8)} (h1 : Ls tStr w Q v1 l) (p0 : ∀ s ∈ l, s.length ≤ 1000000) :
    Calls Try.prog 44 #[.pointer (some ⟨b0, 0, none⟩), v1] w fun en w' => ∃ r0 : Nat, en = .returned (.int .i64 ((r0 : Nat) : Int)) ∧ Md [] w w' ∧ r0 < 9223372036854775808 ∧ mayF f.off l = r0 := by
  have L1 := h1.len63; have n_h0 := n0; have M := Md.refl [] w; have uQ0 := uQ; have tQ : ∀ b, Q b → Q b := fun _ h => h; have sQ0 : ∀ b, Q b → b < w.heap.size → Q b := fun _ h _ => h; refine enter (n := 21) Try.func44 rfl rfl rfl ?_; intro B; refine ns ?_; refine asg rfl ?_; refine nt ?_; refine c_seq ?_; refine ns ?_; refine mv rfl ?_; refine st _ (r_nil rfl) ?_; refine st _ (r_field rfl off80_2) ?_; refine st _ ((r_loadBlk rfl one4 h0 rfl).to (b := (.bool f.off)) rfl) ?_; refine nt ?_; refine c_if rfl (fun h10 => ?_) (fun h10 => ?_)
  · (first | (have h10n := of_decide_eq_true h10) | (have h10n := of_decide_eq_false (bnt h10)) | (have h10n := bnt h10) | (have h10n := h10)); refine ns ?_; refine asg rfl ?_; refine nt ?_; refine c_ret ?_; refine r_then ?_; exact ret1L (v := (.int .i64 ((18 : Nat) : Int))) trivial rfl ⟨rfl, trivial⟩ ⟨18, rfl, M, (by first | assumption | omega | simp_all), (mayF_off (by simp_all))⟩
  · (first | (have h10n := of_decide_eq_false h10) | (have h10n := of_decide_eq_true (bnf h10)) | (have h10n := bnf h10) | (have h10n := h10)); refine c_skip ?_; refine c_then ?_; refine c_seq ?_; refine ns ?_; refine mv rfl ?_; refine st _ (r_len rfl u30 h1.shp) ?_; refine mv rfl ?_; refine nt ?_; refine c_block ?_; obtain ⟨r0, hr00⟩ : ∃ r, l.all fnameF = r := ⟨_, rfl⟩; have hr0o := hr00
    try simp only [List.nil_append] at hr00
    refine loop1 (fun (i : Nat) => [(13, (.int .i64 ((i : Nat) : Int))), (11, v1), (12, (.int .i64 ((l.length : Nat) : Int)))]) (fun (i : Nat) w' => ∃ Q' : Nat → Prop, (∀ b, Q' b → Q b) ∧ (∀ b, Q b → b < w.heap.size → Q' b) ∧ Up w' Q' ∧ Md [] w w' ∧ Ls tStr w' Q' v1 l ∧ i ≤ l.length ∧ (l.drop i).all fnameF = r0) (fun (i : Nat) => l.length - i) (x0 := 0) ?_ ?_ ?_
    · exact ⟨rfl, rfl, rfl, trivial⟩
    · exact ⟨Q, tQ, sQ0, uQ, M, h1, (by omega), (by have hh := hr00; first | exact hh | exact hr0o | (simp only [List.nil_append] at hh; exact hh))⟩
    · clear M uQ tQ sQ0 n_h0 a0_1 a0_2 h0 h1
      rintro i B w1 ⟨Q2, tQ, sQ0, uQ, M, h1, i0_0, hr0⟩; refine ns ?_; refine st _ (r_ltN (a := i) (b := l.length) rfl rfl) ?_; refine nt ?_; refine c_seq ?_; refine c_if rfl (fun h14 => ?_) (fun h14 => ?_)
      · (first | (have h14n := of_decide_eq_true h14) | (have h14n := of_decide_eq_false (bnt h14)) | (have h14n := bnt h14) | (have h14n := h14)); refine c_skip ?_; refine c_then ?_; refine c_seq ?_; refine c_block ?_; refine ns ?_; refine st _ (r_indexN (i := i) 1 rfl rfl u30 el9 h1.shp (by omega)) ?_; obtain ⟨x3, hx3⟩ := getE (l := l) (i := i) (by first | omega | (simp <;> omega)); obtain ⟨c4, hr3, ha3⟩ := h1.get hx3; obtain ⟨rfl, _⟩ := hr3; replace ha3 : At _ v1 (i * 1) [(str x3)] := ha3; refine st _ ((r_loadE (kk := i * 1) 0 rfl rfl one9 ha3 rfl).to (b := (str x3)) rfl) ?_; refine asg rfl ?_; refine st_nil ?_; clear ha3; refine c_then ?_; refine ns ?_; have sm := p0 _ (List.mem_of_getElem? hx3); refine mv rfl ?_; refine st_call fn82 rfl (fRight_any uQ x3 (by first | omega | (simp <;> omega) | (simp at * <;> omega))) ?_; rintro en w5 ⟨x5_0, rfl, hm, hF5⟩; refine ⟨_, rfl, ?_⟩; replace h1 := h1.md0 hm; replace uQ := uQ.md hm; replace M := M.step0 hm; refine st _ (r_not rfl) ?_; refine nt ?_; refine c_if rfl (fun h19 => ?_) (fun h19 => ?_)
        · (first | (have h19n := of_decide_eq_true h19) | (have h19n := of_decide_eq_false (bnt h19)) | (have h19n := bnt h19) | (have h19n := h19)); refine ns ?_; refine asg rfl ?_; refine nt ?_; refine c_ret ?_; refine r_block ?_; refine r_then ?_; refine r_then ?_; refine r_block ?_; refine r_then ?_; exact ret1L (v := (.int .i64 ((1 : Nat) : Int))) trivial rfl ⟨rfl, trivial⟩ ⟨1, rfl, M, (by first | assumption | omega | simp_all), (by have e := hr0o.trans (hr0.symm.trans (alln_no hx3 (by simp_all))); exact mayF_of (by simp_all) e)⟩
        · (first | (have h19n := of_decide_eq_false h19) | (have h19n := of_decide_eq_true (bnf h19)) | (have h19n := bnf h19) | (have h19n := h19)); refine c_skip ?_; refine n_block ?_; refine c_then ?_; refine c_region ?_; refine st _ (r_addN (a := i) (b := 1) 9223372036854775808 rfl rfl rfl (by omega)) ?_; refine mv rfl ?_; refine nt ?_; refine next1 (x0 := (i + 1)) (by omega) ⟨(fitI rfl (by omega)), rfl, rfl, trivial⟩ ⟨Q2, tQ, sQ0, uQ, M, h1, (by omega), (by have hh := hr0; rw [alln_yes hx3 (by simp_all)] at hh; exact hh)⟩
      · (first | (have h14n := of_decide_eq_false h14) | (have h14n := of_decide_eq_true (bnf h14)) | (have h14n := bnf h14) | (have h14n := h14)); refine c_exit ?_; refine x_then ?_; refine x_then ?_; refine x_hit ?_; refine c_then ?_; refine ns ?_; refine asg rfl ?_; refine nt ?_; refine c_ret ?_; exact ret1L (v := (.int .i64 ((0 : Nat) : Int))) trivial rfl ⟨rfl, trivial⟩ ⟨0, rfl, M, (by first | assumption | omega | simp_all), (by have e := hr0o.trans (hr0.symm.trans (alln_end (by omega))); exact mayF_of (by simp_all) e)⟩
theorem fGet_any {w : World} {Q : Nat → Prop} (uQ : Up w Q) {b0 : Nat} {v0_0 : Value} {v0_1 : Value} (f : SFs) (h0 : Blk w b0 (SFs.cells f v0_0 v0_1) 80) (n0 : ¬ Q b0) (a0_0 : SFs.ok f) (a0_1 : Ow tNd 82 (fun _ => True) w Q v0_0 f.nodes) (a0_2 : Ow tSCh 92 (fun _ => True) w Q v0_1 f.pend) (s : List UInt8) (p0 : Nds 90 125 (fun _ => True) w Q f.nodes) (p1 : s.length ≤ 1000000) :
    Calls Try.prog 47 #[.pointer (some ⟨b0, 0, none⟩), (str s)] w fun en w' => ∃ r0 : Option Nat, ∃ r1 : Nat, en = .returned (.tuple #[(nptr r0), (.int .i64 ((r1 : Nat) : Int))]) ∧ Md [] w w' ∧ r1 < 9223372036854775808 ∧ getF f.off f.nodes s = (r0, r1) := by
  have hN := p0; have Ln := a0_1.read.len63; have n_h0 := n0; have M := Md.refl [] w; have uQ0 := uQ; have tQ : ∀ b, Q b → Q b := fun _ h => h; have sQ0 : ∀ b, Q b → b < w.heap.size → Q b := fun _ h _ => h; refine enter (n := 21) Try.func47 rfl rfl rfl ?_; intro B; refine ns ?_; refine asg rfl ?_; refine asg rfl ?_; refine nt ?_; refine c_seq ?_; refine ns ?_; refine mv rfl ?_; refine mv rfl ?_; refine st_buildSliceG [[(str s)]] u30 elT9 (by decide) (by decide) rfl rfl ⟨rfl, trivial⟩ ⟨rfl, trivial⟩ rfl (by decide) ?_; intro ba10 w1 ga10 la10 hm ha10; have ya10 := uQ _ ga10; replace a0_1 := a0_1.md0 hm; replace a0_2 := a0_2.md0 hm; replace h0 := h0.md0 hm; replace hN := hN.md0 hm; replace uQ := uQ.md hm; replace M := M.step0 hm; replace ha10 := Ls.of_blk (m := 1) (R := Q) (T := tStr) (xs := [s]) ha10 ⟨_, _, rfl, ⟨rfl, trivial⟩, rfl⟩ rfl (by decide) ya10; refine st_call fn44 rfl (fMay_any uQ f h0 n_h0 a0_0 (a0_1.reP (fun _ _ => trivial)) (a0_2.reP (fun _ _ => trivial)) ha10 (by (intro q hq; simp at hq; subst hq; exact p1))) ?_; rintro en w2 ⟨x2_0, rfl, hm, q2_0, hF2⟩; refine ⟨_, rfl, ?_⟩; replace a0_1 := a0_1.md0 hm; replace a0_2 := a0_2.md0 hm; replace h0 := h0.md0 hm; replace hN := hN.md0 hm; replace ha10 := ha10.md0 hm; replace uQ := uQ.md hm; replace M := M.step0 hm; refine asg rfl ?_; refine nt ?_; refine ns ?_; refine mv rfl ?_; refine st _ (r_neN (a := x2_0) (b := 0) rfl rfl) ?_; refine nt ?_; refine c_if rfl (fun h13 => ?_) (fun h13 => ?_)
  · (first | (have h13n := of_decide_eq_true h13) | (have h13n := of_decide_eq_false (bnt h13)) | (have h13n := bnt h13) | (have h13n := h13)); refine ns ?_; refine mv rfl ?_; refine asg rfl ?_; refine asg rfl ?_; refine nt ?_; refine c_ret ?_; refine r_then ?_; exact retL (vs := [(nptr none), (.int .i64 ((x2_0 : Nat) : Int))]) trivial rfl ⟨rfl, rfl, trivial⟩ rfl ⟨none, x2_0, rfl, M, (by first | assumption | omega | simp_all), (getF_no hF2 (by omega))⟩
  · (first | (have h13n := of_decide_eq_false h13) | (have h13n := of_decide_eq_true (bnf h13)) | (have h13n := bnf h13) | (have h13n := h13)); refine c_skip ?_; refine c_then ?_; refine c_seq ?_; refine ns ?_; refine mv rfl ?_; refine mv rfl ?_; refine st_call fn59 rfl (fFind_any uQ f h0 n_h0 a0_0 (a0_1.reP (fun _ _ => trivial)) (a0_2.reP (fun _ _ => trivial)) s (by exact hN.reP (fun _ _ => trivial))) ?_; rintro en w3 ⟨x3_0, rfl, hm, hF3⟩; refine ⟨_, rfl, ?_⟩; replace a0_1 := a0_1.md0 hm; replace a0_2 := a0_2.md0 hm; replace h0 := h0.md0 hm; replace hN := hN.md0 hm; replace ha10 := ha10.md0 hm; replace uQ := uQ.md hm; replace M := M.step0 hm; refine asg rfl ?_; refine nt ?_; refine ns ?_; refine mv rfl ?_; refine st _ (r_neqNp (o := x3_0) rfl u82) ?_; refine nt ?_; refine c_if rfl (fun h19 => ?_) (fun h19 => ?_)
    · (first | (have h19n := of_decide_eq_true h19) | (have h19n := of_decide_eq_false (bnt h19)) | (have h19n := bnt h19) | (have h19n := h19)); refine ns ?_; refine mv rfl ?_; refine asg rfl ?_; refine asg rfl ?_; refine nt ?_; refine c_ret ?_; refine r_then ?_; exact retL (vs := [(nptr x3_0), (.int .i64 ((0 : Nat) : Int))]) trivial rfl ⟨rfl, rfl, trivial⟩ rfl ⟨x3_0, 0, rfl, M, (by first | assumption | omega | simp_all), (getF_in hF2 (by omega) hF3 (by simp_all))⟩
    · (first | (have h19n := of_decide_eq_false h19) | (have h19n := of_decide_eq_true (bnf h19)) | (have h19n := bnf h19) | (have h19n := h19)); refine c_skip ?_; refine c_then ?_; refine ns ?_; refine asg rfl ?_; refine asg rfl ?_; refine nt ?_; refine c_ret ?_; exact retL (vs := [(nptr none), (.int .i64 ((16 : Nat) : Int))]) trivial rfl ⟨rfl, rfl, trivial⟩ rfl ⟨none, 16, rfl, M, (by first | assumption | omega | simp_all), (getF_out hF2 (by omega) hF3 (by simp_all))⟩
end Go.Proofs.Ytcaokfendkkafaa
namespace Go.Proofs.Ytcaokfendkkafaa
open Go Go.Wk Go.RowKit
set_option linter.unusedVariables false
set_option linter.unusedSimpArgs false
attribute [local irreducible] wpList wpQuiet wpStill wpMix Code.wp Calls bodyPost
theorem off80_1 : fieldOff Try.prog 80 1 = some 1 := by kernel_rfl

theorem fBurn_any {w : World} {Q : Nat → Prop} (uQ : Up w Q) {b0 : Nat} {v0_0 : Value} {v0_1 : Value} (f : SFs) (h0 : Blk w b0 (SFs.cells f v0_0 v0_1) 80) (n0 : ¬ Q b0) (a0_0 : SFs.ok f) (a0_1 : Ow tNd 82 (fun _ => True) w Q v0_0 f.nodes) (a0_2 : Ow tSCh 92 (fun _ => True) w Q v0_1 f.pend) :
    Calls Try.prog 45 #[.pointer (some ⟨b0, 0, none⟩)] w fun en w' => ∃ r0 : Nat, ∃ m0 : SFs, ∃ u50_0 : Value, ∃ u50_1 : Value, ∃ Q' : Nat → Prop, en = .returned (.int .i64 ((r0 : Nat) : Int)) ∧ Md (b0 :: (vblock v0_0).toList ++ ((vblock v0_1).toList)) w w' ∧ NewQ w w' Q Q' ∧ r0 < 9223372036854775808 ∧ Blk w' b0 (SFs.cells m0 u50_0 u50_1) 80 ∧ ¬ Q' b0 ∧ SFs.ok m0 ∧ Ow tNd 82 (Fsh (b0 :: (vblock v0_0).toList ++ ((vblock v0_1).toList)) w) w' Q' u50_0 m0.nodes ∧ Ow tSCh 92 (Fsh (b0 :: (vblock v0_0).toList ++ ((vblock v0_1).toList)) w) w' Q' u50_1 m0.pend ∧ burnF f = (r0, m0) := by
  have n_h0 := n0; have p_h0 : Fsh (b0 :: (vblock v0_0).toList ++ ((vblock v0_1).toList)) w b0 := .inl (by simp); replace a0_1 := a0_1.reP (lo' := Fsh (b0 :: (vblock v0_0).toList ++ ((vblock v0_1).toList)) w) (fun b hb => .inl (by simp [hb])); replace a0_2 := a0_2.reP (lo' := Fsh (b0 :: (vblock v0_0).toList ++ ((vblock v0_1).toList)) w) (fun b hb => .inl (by simp [hb])); have M := Md.refl (b0 :: (vblock v0_0).toList ++ ((vblock v0_1).toList)) w; have uQ0 := uQ; have tQ : ∀ b, Q b → Q b := fun _ h => h; have sQ0 : ∀ b, Q b → b < w.heap.size → Q b := fun _ h _ => h; refine enter (n := 25) Try.func45 rfl rfl rfl ?_; intro B; refine ns ?_; refine asg rfl ?_; refine nt ?_; refine c_seq ?_; refine c_block ?_; refine ns ?_; refine mv rfl ?_; refine st _ (r_nil rfl) ?_; refine st _ (r_field rfl off80_1) ?_; refine st _ ((r_loadBlk rfl one3 h0 rfl).to (b := (.int .i64 (f.fuse : Int))) rfl) ?_; have q1 : (-9223372036854775808 ≤ f.fuse ∧ f.fuse < 9223372036854775808) := a0_0.2; refine st _ (r_eq (a := f.fuse) (b := 0) rfl rfl) ?_; refine asg rfl ?_; refine nt ?_; refine c_if rfl (fun h3 => ?_) (fun h3 => ?_)
  · (first | (have h3n := of_decide_eq_true h3) | (have h3n := of_decide_eq_false (bnt h3)) | (have h3n := bnt h3) | (have h3n := h3)); refine ns ?_; refine mv rfl ?_; refine st _ (r_nil rfl) ?_; refine st _ (r_field rfl off80_2) ?_; refine st_store rfl rfl one4 rfl h0 (Nat.le_of_ble_eq_true rfl) ?_; have h00 := h0; clear h0; intro w2 hm h0; have hS : ∀ b ∈ [b0], ¬ Q b := (by intro b hb; simp at hb; subst hb; exact n_h0); replace a0_1 := a0_1.md hm (apart_bo h00 a0_1 (by decide)) hS; replace a0_2 := a0_2.md hm (apart_bo h00 a0_2 (by decide)) hS; replace uQ := uQ.md hm; replace M := M.step hm (all_cons p_h0 all_nil); clear h00 hS; obtain ⟨s3, es3⟩ : ∃ y, y = ({ f with off := true } : SFs) := ⟨_, rfl⟩; replace h0 : Blk _ _ (SFs.cells ({ f with off := true }) v0_0 v0_1) _ := h0; rw [← es3] at h0; have oks3 : SFs.ok s3 := (by rw [es3]; exact ⟨a0_0.1, a0_0.2⟩); rw [show f.nodes = s3.nodes by rw [es3]] at a0_1; rw [show f.pend = s3.pend by rw [es3]] at a0_2; refine nt ?_; refine ns ?_; refine asg rfl ?_; refine nt ?_; refine c_ret ?_; refine r_block ?_; refine r_then ?_; exact ret1L (v := (.int .i64 ((18 : Nat) : Int))) trivial rfl ⟨rfl, trivial⟩ ⟨18, s3, _, _, Q, rfl, M, ⟨sQ0, tQ, uQ⟩, (by first | assumption | omega | simp_all), h0, n_h0, oks3, a0_1, a0_2, (by rw [burn_0 (by omega), es3])⟩
  · (first | (have h3n := of_decide_eq_false h3) | (have h3n := of_decide_eq_true (bnf h3)) | (have h3n := bnf h3) | (have h3n := h3)); refine ns ?_; refine mv rfl ?_; refine st _ (r_nil rfl) ?_; refine st _ (r_field rfl off80_1) ?_; refine st _ ((r_loadBlk rfl one3 h0 rfl).to (b := (.int .i64 (f.fuse : Int))) rfl) ?_; refine st _ (r_gt (a := f.fuse) (b := 0) rfl rfl) ?_; refine asg rfl ?_; refine nt ?_; refine c_if rfl (fun h12 => ?_) (fun h12 => ?_)
    · (first | (have h12n := of_decide_eq_true h12) | (have h12n := of_decide_eq_false (bnt h12)) | (have h12n := bnt h12) | (have h12n := h12)); refine c_region ?_; refine mv rfl ?_; refine st _ (r_nil rfl) ?_; refine st _ (r_field rfl off80_1) ?_; refine st _ ((r_loadBlk rfl one3 h0 rfl).to (b := (.int .i64 (f.fuse : Int))) rfl) ?_; refine st _ (r_subI (a := f.fuse) (b := 1) rfl rfl (by omega)) ?_; refine st _ (r_nil rfl) ?_; refine st _ (r_field rfl off80_1) ?_; refine st_store rfl rfl one3 rfl h0 (Nat.le_of_ble_eq_true rfl) ?_; have h00 := h0; clear h0; intro w4 hm h0; have hS : ∀ b ∈ [b0], ¬ Q b := (by intro b hb; simp at hb; subst hb; exact n_h0); replace a0_1 := a0_1.md hm (apart_bo h00 a0_1 (by decide)) hS; replace a0_2 := a0_2.md hm (apart_bo h00 a0_2 (by decide)) hS; replace uQ := uQ.md hm; replace M := M.step hm (all_cons p_h0 all_nil); clear h00 hS; obtain ⟨s5, es5⟩ : ∃ y, y = ({ f with fuse := f.fuse - 1 } : SFs) := ⟨_, rfl⟩; replace h0 : Blk _ _ (SFs.cells ({ f with fuse := f.fuse - 1 }) v0_0 v0_1) _ := h0; rw [← es5] at h0; have oks5 : SFs.ok s5 := (by rw [es5]; exact ⟨a0_0.1, (by first | omega | assumption | (simp <;> omega) | simp_all)⟩); rw [show f.nodes = s5.nodes by rw [es5]] at a0_1; rw [show f.pend = s5.pend by rw [es5]] at a0_2; refine st_nil ?_; refine n_block ?_; refine c_then ?_; refine ns ?_; refine asg rfl ?_; refine nt ?_; refine c_ret ?_; exact ret1L (v := (.int .i64 ((0 : Nat) : Int))) trivial rfl ⟨rfl, trivial⟩ ⟨0, s5, _, _, Q, rfl, M, ⟨sQ0, tQ, uQ⟩, (by first | assumption | omega | simp_all), h0, n_h0, oks5, a0_1, a0_2, (by rw [burn_1 (by omega) (by omega), es5])⟩
    · (first | (have h12n := of_decide_eq_false h12) | (have h12n := of_decide_eq_true (bnf h12)) | (have h12n := bnf h12) | (have h12n := h12)); refine c_skip ?_; refine n_block ?_; refine c_then ?_; refine ns ?_; refine asg rfl ?_; refine nt ?_; refine c_ret ?_; exact ret1L (v := (.int .i64 ((0 : Nat) : Int))) trivial rfl ⟨rfl, trivial⟩ ⟨0, f, _, _, Q, rfl, M, ⟨sQ0, tQ, uQ⟩, (by first | assumption | omega | simp_all), h0, n_h0, a0_0, a0_1, a0_2, (burn_2 (by omega) (by omega))⟩
theorem fOff_any {w : World} {Q : Nat → Prop} (uQ : Up w Q) {b0 : Nat} {v0_0 : Value} {v0_1 : Value} (f : SFs) (h0 : Blk w b0 (SFs.cells f v0_0 v0_1) 80) (n0 : ¬ Q b0) (a0_0 : SFs.ok f) (a0_1 : Ow tNd 82 (fun _ => True) w Q v0_0 f.nodes) (a0_2 : Ow tSCh 92 (fun _ => True) w Q v0_1 f.pend) :
    Calls Try.prog 23 #[.pointer (some ⟨b0, 0, none⟩)] w fun en w' => ∃ r0 : Bool, en = .returned (.bool r0) ∧ Md [] w w' ∧ f.off = r0 := by
  have n_h0 := n0; have M := Md.refl [] w; have uQ0 := uQ; have tQ : ∀ b, Q b → Q b := fun _ h => h; have sQ0 : ∀ b, Q b → b < w.heap.size → Q b := fun _ h _ => h; refine enter (n := 7) Try.func23 rfl rfl rfl ?_; intro B; refine ns ?_; refine asg rfl ?_; refine nt ?_; refine ns ?_; refine mv rfl ?_; refine st _ (r_nil rfl) ?_; refine st _ (r_field rfl off80_2) ?_; refine st _ ((r_loadBlk rfl one4 h0 rfl).to (b := (.bool f.off)) rfl) ?_; refine asg rfl ?_; refine nt ?_; refine c_ret ?_; exact ret1L (v := (.bool f.off)) trivial rfl ⟨rfl, trivial⟩ ⟨f.off, rfl, M, rfl⟩
theorem fFuse_any {w : World} {Q : Nat → Prop} (uQ : Up w Q) {b0 : Nat} {v0_0 : Value} {v0_1 : Value} (f : SFs) (h0 : Blk w b0 (SFs.cells f v0_0 v0_1) 80) (n0 : ¬ Q b0) (a0_0 : SFs.ok f) (a0_1 : Ow tNd 82 (fun _ => True) w Q v0_0 f.nodes) (a0_2 : Ow tSCh 92 (fun _ => True) w Q v0_1 f.pend) (n : Int) (a1 : (-9223372036854775808 ≤ n ∧ n < 9223372036854775808)) :
    Calls Try.prog 21 #[.pointer (some ⟨b0, 0, none⟩), (.int .i64 (n : Int))] w fun en w' => ∃ m0 : SFs, ∃ u50_0 : Value, ∃ u50_1 : Value, ∃ Q' : Nat → Prop, en = .returned (.tuple #[]) ∧ Md (b0 :: (vblock v0_0).toList ++ ((vblock v0_1).toList)) w w' ∧ NewQ w w' Q Q' ∧ Blk w' b0 (SFs.cells m0 u50_0 u50_1) 80 ∧ ¬ Q' b0 ∧ SFs.ok m0 ∧ Ow tNd 82 (Fsh (b0 :: (vblock v0_0).toList ++ ((vblock v0_1).toList)) w) w' Q' u50_0 m0.nodes ∧ Ow tSCh 92 (Fsh (b0 :: (vblock v0_0).toList ++ ((vblock v0_1).toList)) w) w' Q' u50_1 m0.pend ∧ ({ f with fuse := if n < -1 then -1 else n } : SFs) = m0 := by
  have n_h0 := n0; have p_h0 : Fsh (b0 :: (vblock v0_0).toList ++ ((vblock v0_1).toList)) w b0 := .inl (by simp); replace a0_1 := a0_1.reP (lo' := Fsh (b0 :: (vblock v0_0).toList ++ ((vblock v0_1).toList)) w) (fun b hb => .inl (by simp [hb])); replace a0_2 := a0_2.reP (lo' := Fsh (b0 :: (vblock v0_0).toList ++ ((vblock v0_1).toList)) w) (fun b hb => .inl (by simp [hb])); have M := Md.refl (b0 :: (vblock v0_0).toList ++ ((vblock v0_1).toList)) w; have uQ0 := uQ; have tQ : ∀ b, Q b → Q b := fun _ h => h; have sQ0 : ∀ b, Q b → b < w.heap.size → Q b := fun _ h _ => h; refine enter (n := 9) Try.func21 rfl rfl rfl ?_; intro B; refine c_region ?_; refine mv rfl ?_; refine mv rfl ?_; refine st _ (r_maxZ (a := n) (b := (-1)) rfl rfl) ?_; refine st _ (r_nil rfl) ?_; refine st _ (r_field rfl off80_1) ?_; refine st_store rfl rfl one3 rfl h0 (Nat.le_of_ble_eq_true rfl) ?_; have h00 := h0; clear h0; intro w1 hm h0; have hS : ∀ b ∈ [b0], ¬ Q b := (by intro b hb; simp at hb; subst hb; exact n_h0); replace a0_1 := a0_1.md hm (apart_bo h00 a0_1 (by decide)) hS; replace a0_2 := a0_2.md hm (apart_bo h00 a0_2 (by decide)) hS; replace uQ := uQ.md hm; replace M := M.step hm (all_cons p_h0 all_nil); clear h00 hS; obtain ⟨s2, es2⟩ : ∃ y, y = ({ f with fuse := (if n < (-1) then (-1) else n) } : SFs) := ⟨_, rfl⟩; replace h0 : Blk _ _ (SFs.cells ({ f with fuse := (if n < (-1) then (-1) else n) }) v0_0 v0_1) _ := h0; rw [← es2] at h0; have oks2 : SFs.ok s2 := (by rw [es2]; exact ⟨a0_0.1, (by first | omega | assumption | (simp <;> omega) | simp_all)⟩); rw [show f.nodes = s2.nodes by rw [es2]] at a0_1; rw [show f.pend = s2.pend by rw [es2]] at a0_2; refine st_nil ?_; exact retL (vs := []) trivial rfl trivial rfl ⟨s2, _, _, Q, rfl, M, ⟨sQ0, tQ, uQ⟩, h0, n_h0, oks2, a0_1, a0_2, (by rw [es2])⟩
end Go.Proofs.Ytcaokfendkkafaa
namespace Go.Proofs.Ytcaokfendkkafaa
open Go Go.Wk Go.RowKit
set_option linter.unusedVariables false
set_option linter.unusedSimpArgs false
attribute [local irreducible] wpList wpQuiet wpStill wpMix Code.wp Calls bodyPost
theorem fn47 : isFn Try.prog 47 = true := by kernel_rfl
theorem fn48 : isFn Try.prog 48 = true := by kernel_rfl
theorem fn58 : isFn Try.prog 58 = true := by kernel_rfl
theorem off80_0 : fieldOff Try.prog 80 0 = some 0 := by kernel_rfl

theorem fFree_any {w : World} {Q : Nat → Prop} (uQ : Up w Q) {b0 : Nat} {v0_0 : Value} {v0_1 : Value} (f : SFs) (h0 : Blk w b0 (SFs.cells f v0_0 v0_1) 80) (n0 : ¬ Q b0) (a0_0 : SFs.ok f) (a0_1 : Ow tNd 82 (fun _ => True) w Q v0_0 f.nodes) (a0_2 : Ow tSCh 92 (fun _ => True) w Q v0_1 f.pend) (p0 : Nds 90 125 (fun _ => True) w Q f.nodes) (p1 : (totF f.nodes).2 ≤ 1000000000000) (p2 : 0 ≤ f.room) :
    Calls Try.prog 19 #[.pointer (some ⟨b0, 0, none⟩)] w fun en w' => ∃ r0 : Int, en = .returned (.int .i64 (r0 : Int)) ∧ Md [] w w' ∧ (-9223372036854775808 ≤ r0 ∧ r0 < 9223372036854775808) ∧ freeF f = r0 := by
  have hN := p0; have Ln := a0_1.read.len63; have n_h0 := n0; have M := Md.refl [] w; have uQ0 := uQ; have tQ : ∀ b, Q b → Q b := fun _ h => h; have sQ0 : ∀ b, Q b → b < w.heap.size → Q b := fun _ h _ => h; refine enter (n := 21) Try.func19 rfl rfl rfl ?_; intro B; refine ns ?_; refine asg rfl ?_; refine nt ?_; refine c_seq ?_; refine ns ?_; refine mv rfl ?_; refine st _ (r_nil rfl) ?_; refine st _ (r_field rfl off80_2) ?_; refine st _ ((r_loadBlk rfl one4 h0 rfl).to (b := (.bool f.off)) rfl) ?_; refine nt ?_; refine c_if rfl (fun h8 => ?_) (fun h8 => ?_)
  · (first | (have h8n := of_decide_eq_true h8) | (have h8n := of_decide_eq_false (bnt h8)) | (have h8n := bnt h8) | (have h8n := h8)); refine ns ?_; refine asg rfl ?_; refine nt ?_; refine c_ret ?_; refine r_then ?_; exact ret1L (v := (.int .i64 (((0 : Nat) : Int) : Int))) trivial rfl ⟨rfl, trivial⟩ ⟨((0 : Nat) : Int), rfl, M, (by first | assumption | omega | simp_all), (freeF_off (by simp_all))⟩
  · (first | (have h8n := of_decide_eq_false h8) | (have h8n := of_decide_eq_true (bnf h8)) | (have h8n := bnf h8) | (have h8n := h8)); refine c_skip ?_; refine c_then ?_; refine ns ?_; refine mv rfl ?_; refine st_call fn48 rfl (fTotal_any uQ f h0 n_h0 a0_0 (a0_1.reP (fun _ _ => trivial)) (a0_2.reP (fun _ _ => trivial)) (by exact hN.reP (fun _ _ => trivial)) (by omega)) ?_; rintro en w1 ⟨x1_0, x1_1, rfl, hm, q1_0, q1_1, hF1⟩; refine ⟨_, rfl, ?_⟩; replace a0_1 := a0_1.md0 hm; replace a0_2 := a0_2.md0 hm; replace h0 := h0.md0 hm; replace hN := hN.md0 hm; replace uQ := uQ.md hm; replace M := M.step0 hm; refine mv rfl ?_; refine st _ (r_extract rfl rfl) ?_; refine st _ (r_extract rfl rfl) ?_; refine asg rfl ?_; refine asg rfl ?_; refine nt ?_; refine ns ?_; have tt := congrArg Prod.snd hF1; simp only at tt; refine mv rfl ?_; refine st _ (r_nil rfl) ?_; refine st _ (r_field rfl off80_0) ?_; refine st _ ((r_loadBlk rfl one3 h0 rfl).to (b := (.int .i64 (f.room : Int))) rfl) ?_; have q2 : (-9223372036854775808 ≤ f.room ∧ f.room < 9223372036854775808) := a0_0.1; refine mv rfl ?_; refine st _ (r_subI (a := f.room) (b := ((x1_1 : Nat) : Int)) rfl rfl (by omega)) ?_; refine st _ (r_maxZ (a := f.room - ((x1_1 : Nat) : Int)) (b := 0) rfl rfl) ?_; refine asg rfl ?_; refine nt ?_; refine c_ret ?_; exact ret1L (v := (.int .i64 ((if f.room - ((x1_1 : Nat) : Int) < 0 then 0 else f.room - ((x1_1 : Nat) : Int)) : Int))) trivial rfl ⟨rfl, trivial⟩ ⟨(if f.room - ((x1_1 : Nat) : Int) < 0 then 0 else f.room - ((x1_1 : Nat) : Int)), rfl, M, (by first | assumption | omega | simp_all), (freeF_on (by simp_all) hF1)⟩
theorem fAll_any {w : World} {Q : Nat → Prop} (uQ : Up w Q) {b0 : Nat} {v0_0 : Value} {v0_1 : Value} (f : SFs) (h0 : Blk w b0 (SFs.cells f v0_0 v0_1) 80) (n0 : ¬ Q b0) (a0_0 : SFs.ok f) (a0_1 : Ow tNd 82 (fun _ => True) w Q v0_0 f.nodes) (a0_2 : Ow tSCh 92 (fun _ => True) w Q v0_1 f.pend) (s : List UInt8) (p0 : Nds 90 125 (fun _ => True) w Q f.nodes) (p1 : s.length ≤ 1000000) (p2 : ∀ x ∈ f.nodes, x.fl.b.length ≤ 1000000) :
    Calls Try.prog 26 #[.pointer (some ⟨b0, 0, none⟩), (str s)] w fun en w' => ∃ u0 : Value, ∃ r0 : List UInt8, ∃ r1 : Nat, en = .returned (.tuple #[u0, (.int .i64 ((r1 : Nat) : Int))]) ∧ Md [] w w' ∧ Ls tB8 w' Q u0 r0 ∧ r1 < 9223372036854775808 ∧ allF f.off f.nodes s = (r0, r1) := by
  have hN := p0; have Ln := a0_1.read.len63; have n_h0 := n0; have M := Md.refl [] w; have uQ0 := uQ; have tQ : ∀ b, Q b → Q b := fun _ h => h; have sQ0 : ∀ b, Q b → b < w.heap.size → Q b := fun _ h _ => h; refine enter (n := 22) Try.func26 rfl rfl rfl ?_; intro B; refine ns ?_; refine asg rfl ?_; refine asg rfl ?_; refine nt ?_; refine ns ?_; refine mv rfl ?_; refine mv rfl ?_; refine st_call fn47 rfl (fGet_any uQ f h0 n_h0 a0_0 (a0_1.reP (fun _ _ => trivial)) (a0_2.reP (fun _ _ => trivial)) s (by exact hN.reP (fun _ _ => trivial)) (by omega)) ?_; rintro en w1 ⟨x1_0, x1_1, rfl, hm, q1_1, hF1⟩; refine ⟨_, rfl, ?_⟩; replace a0_1 := a0_1.md0 hm; replace a0_2 := a0_2.md0 hm; replace h0 := h0.md0 hm; replace hN := hN.md0 hm; replace uQ := uQ.md hm; replace M := M.step0 hm; refine mv rfl ?_; refine st _ (r_extract rfl rfl) ?_; refine st _ (r_extract rfl rfl) ?_; refine asg rfl ?_; refine asg rfl ?_; refine nt ?_; refine c_seq ?_; refine ns ?_; refine mv rfl ?_; refine st _ (r_neN (a := x1_1) (b := 0) rfl rfl) ?_; refine nt ?_; refine c_if rfl (fun h15 => ?_) (fun h15 => ?_)
  · (first | (have h15n := of_decide_eq_true h15) | (have h15n := of_decide_eq_false (bnt h15)) | (have h15n := bnt h15) | (have h15n := h15)); refine ns ?_; refine mv rfl ?_; refine asg rfl ?_; refine asg rfl ?_; refine nt ?_; refine c_ret ?_; refine r_then ?_; exact retL (vs := [(.slice none 0 0), (.int .i64 ((x1_1 : Nat) : Int))]) trivial rfl ⟨rfl, rfl, trivial⟩ rfl ⟨_, [], x1_1, rfl, M, (Ls.nil _ _ _), (by first | assumption | omega | simp_all), (allF_no hF1 (by omega))⟩
  · (first | (have h15n := of_decide_eq_false h15) | (have h15n := of_decide_eq_true (bnf h15)) | (have h15n := bnf h15) | (have h15n := h15)); refine c_skip ?_; refine c_then ?_; refine ns ?_; obtain ⟨nd2, mnd2, qnd2, fnd2⟩ := getF_some hF1 (by omega); subst qnd2; refine mv rfl ?_; refine st _ (r_nil rfl) ?_; refine st _ (r_field rfl off90_2) ?_; obtain ⟨fv3, fw3, hf3, n_hf3, fb3, fs3⟩ := hN.file mnd2; refine st _ ((r_loadBlk rfl one87 (hN.get mnd2).1 rfl).to (b := (.pointer (some ⟨nd2.no.fid, 0, none⟩))) rfl) ?_; have bl := p2 _ mnd2; refine st_call fn58 rfl (sAll_any uQ nd2.fl hf3 n_hf3 fb3 fs3 (by first | omega | (simp <;> omega) | (simp at * <;> omega))) ?_; rintro en w4 ⟨v4_0, x4_0, rfl, hm, h4_0, hF4⟩; refine ⟨_, rfl, ?_⟩; replace a0_1 := a0_1.md0 hm; replace a0_2 := a0_2.md0 hm; replace h0 := h0.md0 hm; replace hN := hN.md0 hm; replace fb3 := fb3.md0 hm; replace fs3 := fs3.md0 hm; replace hf3 := hf3.md0 hm; replace uQ := uQ.md hm; replace M := M.step0 hm; refine asg rfl ?_; refine asg rfl ?_; refine nt ?_; refine c_ret ?_; exact retL (vs := [v4_0, (.int .i64 ((0 : Nat) : Int))]) trivial rfl ⟨rfl, rfl, trivial⟩ rfl ⟨_, x4_0, 0, rfl, M, (h4_0.sub (fun b hb _ => tQ b hb)), (by first | assumption | omega | simp_all), (allF_in fnd2 hF4)⟩
end Go.Proofs.Ytcaokfendkkafaa
namespace Go.Proofs.Ytcaokfendkkafaa
open Go Go.Wk Go.RowKit
set_option linter.unusedVariables false
set_option linter.unusedSimpArgs false
attribute [local irreducible] wpList wpQuiet wpStill wpMix Code.wp Calls bodyPost

/-- All blocks of nodes and of their files. -/
def ndB (l : List SNd) : List Nat := l.map (·.id) ++ l.map (·.no.fid)
theorem mem_ndB {l : List SNd} {b : Nat} : b ∈ ndB l ↔ ∃ x ∈ l, x.id = b ∨ x.no.fid = b := by
  simp only [ndB, List.mem_append, List.mem_map]
  constructor
  · rintro (⟨x, h, e⟩ | ⟨x, h, e⟩)
    · exact ⟨x, h, .inl e⟩
    · exact ⟨x, h, .inr e⟩
  · rintro ⟨x, h, e | e⟩
    · exact .inl ⟨x, h, e⟩
    · exact .inr ⟨x, h, e⟩
theorem blk_ne_ty {w : World} {b b' : Nat} {cs cs' : List Value} {t t' : TypeId} (h : Blk w b cs t) (h' : Blk w b' cs' t') (ht : Nat.beq t t' = false) : b ≠ b' := by
  rintro rfl; rw [blk_ty h h'] at ht; simp at ht
theorem nodup_inj {α : Type} {f : α → Nat} : ∀ {l : List α}, (l.map f).Nodup → ∀ {x y : α}, x ∈ l → y ∈ l → f x = f y → x = y
  | [], _, _, _, h, _, _ => by cases h
  | a :: l, hn, x, y, hx, hy, e => by
    rw [List.map_cons, List.nodup_cons] at hn; rcases List.mem_cons.1 hx with rfl | hx'
    · rcases List.mem_cons.1 hy with rfl | hy'
      · rfl
      · exact absurd (List.mem_map.2 ⟨y, hy', e.symm⟩) hn.1
    · rcases List.mem_cons.1 hy with rfl | hy'
      · exact absurd (List.mem_map.2 ⟨x, hx', e⟩) hn.1
      · exact nodup_inj hn.2 hx' hy' e
/-- A node by its block, made anew. -/
def updN (l : List SNd) (i : Nat) (g : SNd → SNd) : List SNd := l.map fun z => if z.id = i then g z else z
theorem updN_ids {l : List SNd} {i : Nat} {g : SNd → SNd} (hg : ∀ z, (g z).id = z.id) : (updN l i g).map (·.id) = l.map (·.id) := by
  unfold updN; rw [List.map_map]; refine List.map_congr_left fun z _ => ?_; show (if z.id = i then g z else z).id = z.id
  split
  · exact hg z
  · rfl
theorem mem_updN {l : List SNd} {i : Nat} {g : SNd → SNd} {y : SNd} (h : y ∈ updN l i g) : (∃ x ∈ l, x.id = i ∧ y = g x) ∨ (y ∈ l ∧ y.id ≠ i) := by
  obtain ⟨z, hz, e⟩ := List.mem_map.1 h; by_cases hi : z.id = i
  · rw [if_pos hi] at e; exact .inl ⟨z, hz, hi, e.symm⟩
  · rw [if_neg hi] at e; subst e; exact .inr ⟨hz, hi⟩
theorem ow_ids {e : TypeId} {lo : Nat → Prop} {w : World} {Q : Nat → Prop} {v : Value} {l l' : List SNd} (h : Ow tNd e lo w Q v l) (hi : l'.map (·.id) = l.map (·.id)) : Ow tNd e lo w Q v l' := by
  obtain ⟨⟨cs, h1, h2⟩, h3⟩ := h; have hl : l'.length = l.length := (by simpa using congrArg List.length hi); refine ⟨⟨cs, by rw [hl]; exact h1, ?_⟩, h3⟩; obtain ⟨rfl, _⟩ := els_one_eq h2
  have e : l.map (fun x : SNd => Value.pointer (some ⟨x.id, 0, none⟩)) = l'.map (fun x : SNd => Value.pointer (some ⟨x.id, 0, none⟩)) := by
    have := congrArg (List.map fun i : Nat => Value.pointer (some ⟨i, 0, none⟩)) hi; simpa [List.map_map, Function.comp_def] using this.symm
  rw [e]; exact els_one fun _ _ => trivial
section
variable {nd fd : TypeId} {lo lo' lo1 : Nat → Prop} {w w' : World} {Q Q' Q1 : Nat → Prop} {l : List SNd} {x : SNd} {S : List Nat} {α : Type} {T : Dt α}
theorem Nds.loB (h : Nds nd fd lo w Q l) : ∀ b ∈ ndB l, lo b := by
  intro b hb; obtain ⟨x, hx, rfl | rfl⟩ := mem_ndB.1 hb
  · exact (h.all x hx).2.2.2.2.1
  · exact (h.all x hx).2.2.2.2.2
theorem Nds.nQB (h : Nds nd fd lo w Q l) : ∀ b ∈ ndB l, ¬ Q b := by
  intro b hb; obtain ⟨x, hx, rfl | rfl⟩ := mem_ndB.1 hb
  · exact (h.all x hx).2.2.1
  · exact (h.all x hx).2.2.2.1
theorem Nds.ltB (h : Nds nd fd lo w Q l) : ∀ b ∈ ndB l, b < w.heap.size := by
  intro b hb; obtain ⟨x, hx, rfl | rfl⟩ := mem_ndB.1 hb
  · exact (h.all x hx).1.lt
  · obtain ⟨v0, v1, g, _⟩ := (h.all x hx).2.1; exact g.lt
theorem Nds.ninB (h : Nds nd fd lo w Q l) {b : Nat} {cs : List Value} {ty : TypeId} (hB : Blk w b cs ty) (h1 : Nat.beq nd ty = false) (h2 : Nat.beq fd ty = false) : b ∉ ndB l := by
  intro hb; obtain ⟨x, hx, e⟩ := mem_ndB.1 hb; have := h.ap1 hB h1 h2 x hx; simp only [List.mem_singleton] at this; exact e.elim this.1 this.2
theorem Nds.ninO (h : Nds nd fd lo w Q l) {e : Nat} {v : Value} {xs : List α} (hO : Ow T e lo1 w Q1 v xs) (h1 : Nat.beq e nd = false) (h2 : Nat.beq e fd = false) : ∀ b, vblock v = some b → b ∉ ndB l := by
  intro b hb hm; obtain ⟨x, hx, e⟩ := mem_ndB.1 hm; have := h.apO hO h1 h2 x hx; rw [hb] at this; simp only [Option.toList_some, List.mem_singleton] at this; exact e.elim this.1 this.2
theorem Nds.reB (h : Nds nd fd lo w Q l) (t : ∀ b ∈ ndB l, lo' b) : Nds nd fd lo' w Q l :=
  ⟨fun x hx => by obtain ⟨h1, h2, h5, h6, h7, h8⟩ := h.all x hx; exact ⟨h1, h2, h5, h6, t _ (mem_ndB.2 ⟨x, hx, .inl rfl⟩), t _ (mem_ndB.2 ⟨x, hx, .inr rfl⟩)⟩, h.ids, h.fids⟩
theorem Nds.apB (h : Nds nd fd lo w Q l) (hS : ∀ b ∈ ndB l, b ∉ S) : ∀ x ∈ l, x.id ∉ S ∧ x.no.fid ∉ S := fun x hx => ⟨hS _ (mem_ndB.2 ⟨x, hx, .inl rfl⟩), hS _ (mem_ndB.2 ⟨x, hx, .inr rfl⟩)⟩
theorem Nds.nil (nd fd : TypeId) (lo : Nat → Prop) (w : World) (Q : Nat → Prop) : Nds nd fd lo w Q [] := ⟨fun _ hx => absurd hx List.not_mem_nil, List.nodup_nil, List.nodup_nil⟩
theorem Nds.inj (h : Nds nd fd lo w Q l) {y : SNd} (hx : x ∈ l) (hy : y ∈ l) (e : x.id = y.id) : x = y := nodup_inj h.ids hx hy e
theorem Nds.fne (h : Nds nd fd lo w Q l) (hne : Nat.beq nd fd = false) {y : SNd} (hx : x ∈ l) (hy : y ∈ l) : x.id ≠ y.no.fid := by
  obtain ⟨v0, v1, g, _⟩ := (h.all y hy).2.1; exact blk_ne_ty (h.all x hx).1 g hne
theorem Nds.upd (h : Nds nd fd lo w Q l) (hx : x ∈ l) {g : SNd → SNd} (hid : (g x).id = x.id) (hnew : NdR nd fd lo w' Q (g x)) (hold : ∀ z ∈ l, z.id ≠ x.id → NdR nd fd lo w' Q z) (hf : (g x).no.fid = x.no.fid ∨ (g x).no.fid ∉ l.map (·.no.fid)) : Nds nd fd lo w' Q (updN l x.id g) := by
  have key : ∀ z ∈ l, z.id = x.id → z = x := fun z hz e => h.inj hz hx e; refine ⟨fun z hz => ?_, ?_, ?_⟩
  · rcases mem_updN hz with ⟨y, hy, e, rfl⟩ | ⟨hz', hne⟩
    · rw [key y hy e]; exact hnew
    · exact hold z hz' hne
  · have : (updN l x.id g).map (·.id) = l.map (·.id) := by
      unfold updN; rw [List.map_map]; refine List.map_congr_left fun z hz => ?_; show (if z.id = x.id then g z else z).id = z.id
      split
      · rename_i e; rw [key z hz e]; exact hid
      · rfl
    rw [this]; exact h.ids
  · rcases hf with hf | hf
    · have : (updN l x.id g).map (·.no.fid) = l.map (·.no.fid) := by
        unfold updN; rw [List.map_map]; refine List.map_congr_left fun z hz => ?_; show (if z.id = x.id then g z else z).no.fid = z.no.fid
        split
        · rename_i e; rw [key z hz e]; exact hf
        · rfl
      rw [this]; exact h.fids
    · have hn := h.fids
      have hi := h.ids; clear key hnew hold h; unfold updN
      induction l with
      | nil => exact List.nodup_nil
      | cons a l ih =>
        rw [List.map_cons, List.map_cons, List.nodup_cons]; rw [List.map_cons, List.nodup_cons] at hn hi; rw [List.map_cons, List.mem_cons, not_or] at hf; by_cases ha : a.id = x.id
        · rw [if_pos ha]
          have hsame : l.map (fun z => if z.id = x.id then g z else z) = l := by
            have : ∀ z ∈ l, (if z.id = x.id then g z else z) = z := fun z hz => if_neg fun e => hi.1 (List.mem_map.2 ⟨z, hz, e.trans ha.symm⟩); exact (List.map_congr_left this).trans (List.map_id' l)
          rw [hsame]
          have hax : a = x := by
            rcases List.mem_cons.1 hx with rfl | hx'
            · rfl
            · exact absurd (List.mem_map.2 ⟨x, hx', ha.symm⟩) hi.1
          subst hax; exact ⟨hf.2, hn.2⟩
        · rw [if_neg ha]
          have hx' : x ∈ l := by
            rcases List.mem_cons.1 hx with rfl | hx'
            · exact absurd rfl ha
            · exact hx'
          refine ⟨fun hm => ?_, ih hx' hf.2 hn.2 hi.2⟩; rw [List.map_map] at hm; obtain ⟨z, hz, e⟩ := List.mem_map.1 hm; simp only [Function.comp_apply] at e
          split at e
          · rename_i hzx
            have : z = x := nodup_inj hi.2 hz hx' hzx; subst this; exact hf.1 e
          · exact hn.1 (List.mem_map.2 ⟨z, hz, e⟩)
theorem Nds.olds (h : Nds nd fd lo w Q l) (hx : x ∈ l) (hne : Nat.beq nd fd = false) (m : Md [x.id] w w') : ∀ z ∈ l, z.id ≠ x.id → NdR nd fd lo w' Q z := fun z hz hi =>
  (h.all z hz).md m ⟨by simpa using hi, by simpa using (h.fne hne hx hz).symm⟩ (by intro b hb; rw [List.mem_singleton] at hb; subst hb; exact (h.all x hx).2.2.1)
/-- A node's own block is written. -/
theorem Nds.setNo (h : Nds nd fd lo w Q l) (hx : x ∈ l) (hne : Nat.beq nd fd = false) (m : Md [x.id] w w') {g : SNo → SNo} (hb : Blk w' x.id (g x.no).cells nd) (hf : (g x.no).fid = x.no.fid) : Nds nd fd lo w' Q (updN l x.id fun z => { z with no := g z.no }) := by
  refine h.upd (g := fun z => { z with no := g z.no }) hx rfl ?_ (h.olds hx hne m) (.inl hf); obtain ⟨h1, ⟨v0, v1, h2, h3, h4⟩, h5, h6, h7, h8⟩ := h.all x hx; have hs : ∀ b ∈ [x.id], ¬ Q b := (by intro b hb; rw [List.mem_singleton] at hb; subst hb; exact h5); refine ⟨hb, ⟨v0, v1, ?_, h3.md m hs, h4.md m hs⟩, h5, ?_, h7, ?_⟩
  · show Blk w' (g x.no).fid _ _; rw [hf]; exact h2.md m (by simpa using (h.fne hne hx hx).symm)
  · show ¬ Q (g x.no).fid; rw [hf]; exact h6
  · show lo (g x.no).fid; rw [hf]; exact h8
/-- A node's file is written. -/
theorem Nds.setFl (h : Nds nd fd lo w Q l) (hx : x ∈ l) (hne : Nat.beq nd fd = false) (m : Md [x.no.fid] w w') {fl : SFl} {v0 v1 : Value} (hb : Blk w' x.no.fid (fl.cells v0 v1) fd) (h0 : Ls tB8 w' Q v0 fl.b) (h1 : Ls tB8 w' Q v1 fl.safe) : Nds nd fd lo w' Q (updN l x.id fun z => { z with fl := fl }) := by
  obtain ⟨g1, ⟨u0, u1, g2, g3, g4⟩, g5, g6, g7, g8⟩ := h.all x hx; have hs : ∀ b ∈ [x.no.fid], ¬ Q b := (by intro b hb; rw [List.mem_singleton] at hb; subst hb; exact g6); refine h.upd (g := fun z => { z with fl := fl }) hx rfl ⟨?_, ⟨v0, v1, hb, h0, h1⟩, g5, g6, g7, g8⟩ (fun z hz hi => ?_) (.inl rfl)
  · exact g1.md m (by simpa using h.fne hne hx hx)
  · refine (h.all z hz).md m ⟨by simpa using h.fne hne hz hx, ?_⟩ hs
    rw [List.mem_singleton]; intro e; exact hi (congrArg (·.id) (nodup_inj h.fids hz hx e))
/-- A node has another file now. -/
theorem Nds.setFile (h : Nds nd fd lo w Q l) (hx : x ∈ l) (hne : Nat.beq nd fd = false) (m : Md [x.id] w w') {fl : SFl} {v0 v1 : Value} {j : Nat} (hb : Blk w' x.id ({ x.no with fid := j } : SNo).cells nd) (hj : Blk w' j (fl.cells v0 v1) fd) (h0 : Ls tB8 w' Q v0 fl.b) (h1 : Ls tB8 w' Q v1 fl.safe) (hq : ¬ Q j) (hl : lo j) (hn : j ∉ ndB l) : Nds nd fd lo w' Q (updN l x.id fun z => { z with no := { z.no with fid := j }, fl := fl }) := by
  obtain ⟨g1, _, g5, g6, g7, g8⟩ := h.all x hx; exact h.upd (g := fun z => { z with no := { z.no with fid := j }, fl := fl }) hx rfl ⟨hb, ⟨v0, v1, hj, h0, h1⟩, g5, hq, g7, hl⟩ (h.olds hx hne m) (.inr fun hm => hn (List.mem_append.2 (.inr hm)))
/-- A node more. -/
theorem Nds.snoc (h : Nds nd fd lo w Q l) {i : Nat} {no : SNo} {fl : SFl} {v0 v1 : Value} (hi : Blk w i no.cells nd) (hj : Blk w no.fid (fl.cells v0 v1) fd) (h0 : Ls tB8 w Q v0 fl.b) (h1 : Ls tB8 w Q v1 fl.safe) (q1 : ¬ Q i) (q2 : ¬ Q no.fid) (l1 : lo i) (l2 : lo no.fid) (n1 : i ∉ ndB l) (n2 : no.fid ∉ ndB l) : Nds nd fd lo w Q (l ++ [⟨i, no, fl⟩]) := by
  refine ⟨fun z hz => ?_, ?_, ?_⟩
  · rcases List.mem_append.1 hz with hz | hz
    · exact h.all z hz
    · rw [List.mem_singleton] at hz; subst hz
      exact ⟨hi, ⟨v0, v1, hj, h0, h1⟩, q1, q2, l1, l2⟩
  · rw [List.map_append, List.nodup_append]
    refine ⟨h.ids, by simp, fun a ha b hb => ?_⟩; simp only [List.map_cons, List.map_nil, List.mem_singleton] at hb; subst hb; rintro rfl; exact n1 (List.mem_append.2 (.inl ha))
  · rw [List.map_append, List.nodup_append]
    refine ⟨h.fids, by simp, fun a ha b hb => ?_⟩; simp only [List.map_cons, List.map_nil, List.mem_singleton] at hb; subst hb; rintro rfl; exact n2 (List.mem_append.2 (.inr ha))
theorem Nds.filter (h : Nds nd fd lo w Q l) (p : SNd → Bool) : Nds nd fd lo w Q (l.filter p) :=
  ⟨fun z hz => h.all z ((List.mem_filter.1 hz).1), h.ids.sublist (List.filter_sublist.map _), h.fids.sublist (List.filter_sublist.map _)⟩
end
/-- The last node's block, and its file's. -/
def lastI (f : SFs) : Nat := (f.nodes.getLast?.map (·.id)).getD 0
def lastJ (f : SFs) : Nat := (f.nodes.getLast?.map (·.no.fid)).getD 0
def makeR (f : SFs) (s : List UInt8) (i j : Nat) : Nat × SFs :=
  if (getF f.off f.nodes s).2 = 0 then (17, f) else if (getF f.off f.nodes s).2 ≠ 16 then ((getF f.off f.nodes s).2, f) else if 24 ≤ (totF f.nodes).1 then (15, f)
  else if (burnF f).1 ≠ 0 then burnF f else (0, { (burnF f).2 with nodes := f.nodes ++ [⟨i, ⟨s, true, j⟩, ⟨[], []⟩⟩], pend := f.pend ++ [⟨0, i, [], none⟩] })
theorem make_17 {f : SFs} {s : List UInt8} {i j c : Nat} {o : Option Nat} (h : getF f.off f.nodes s = (o, c)) (hc : c = 0) : makeR f s i j = (17, f) := by unfold makeR; rw [h]; rw [if_pos hc]
theorem make_c {f : SFs} {s : List UInt8} {i j c : Nat} {o : Option Nat} (h : getF f.off f.nodes s = (o, c)) (hc : c ≠ 0) (h2 : c ≠ 16) : makeR f s i j = (c, f) := by unfold makeR; rw [h]; rw [if_neg hc, if_pos h2]
theorem make_15 {f : SFs} {s : List UInt8} {i j c a z : Nat} {o : Option Nat} (h : getF f.off f.nodes s = (o, c)) (hc : c = 16) (ht : totF f.nodes = (a, z)) (h2 : 24 ≤ a) : makeR f s i j = (15, f) := by
  subst hc; unfold makeR; rw [h, ht]; rw [if_neg (by simp), if_neg (by simp), if_pos h2]
theorem make_b {f m : SFs} {s : List UInt8} {i j c a z e : Nat} {o : Option Nat} (h : getF f.off f.nodes s = (o, c)) (hc : c = 16) (ht : totF f.nodes = (a, z)) (h2 : ¬ 24 ≤ a) (hb : burnF f = (e, m)) (he : e ≠ 0) : makeR f s i j = (e, m) := by
  subst hc; unfold makeR; rw [h, ht]; rw [if_neg (by simp), if_neg (by simp), if_neg h2, hb]; rw [if_pos he]
theorem make_0 {f m : SFs} {s : List UInt8} {i j c a z e : Nat} {o : Option Nat} (h : getF f.off f.nodes s = (o, c)) (hc : c = 16) (ht : totF f.nodes = (a, z)) (h2 : ¬ 24 ≤ a) (hb : burnF f = (e, m)) (he : e = 0) : makeR f s i j = (0, { m with nodes := f.nodes ++ [⟨i, ⟨s, true, j⟩, ⟨[], []⟩⟩], pend := f.pend ++ [⟨0, i, [], none⟩] }) := by
  subst hc; unfold makeR; rw [h, ht]; rw [if_neg (by simp), if_neg (by simp), if_neg h2, hb]; rw [if_neg (by simpa using he)]
theorem burn_same (f : SFs) : (burnF f).2.nodes = f.nodes ∧ (burnF f).2.pend = f.pend ∧ (burnF f).2.room = f.room := by
  unfold burnF; split
  · exact ⟨rfl, rfl, rfl⟩
  · split <;> exact ⟨rfl, rfl, rfl⟩
theorem burn_eq {f m : SFs} {e : Nat} (h : burnF f = (e, m)) : m.nodes = f.nodes ∧ m.pend = f.pend ∧ m.room = f.room := by have := burn_same f; rw [h] at this; exact this
def writeR (f : SFs) (s : List UInt8) (p : Int) (b : List UInt8) (j : Nat) : Nat × SFs :=
  if (getF f.off f.nodes s).2 ≠ 0 then ((getF f.off f.nodes s).2, f) else match findN f.nodes s with
  | none => (0, f)
  | some x => if (wrF x.fl p b).1 ≠ 0 then ((wrF x.fl p b).1, f) else if x.fl.b.length < (wrF x.fl p b).2.b.length ∧ f.room < ((totF f.nodes).2 : Int) + (((wrF x.fl p b).2.b.length : Int) - (x.fl.b.length : Int)) then (15, f)
    else if (burnF f).1 ≠ 0 then burnF f else (0, { (burnF f).2 with nodes := updN f.nodes x.id fun z => { z with no := { z.no with fid := j }, fl := (wrF x.fl p b).2 } })
section
variable {f m : SFs} {s : List UInt8} {p : Int} {b : List UInt8} {j c a z e : Nat} {o : Option Nat} {x : SNd} {y : SFl}
theorem write_c (h : getF f.off f.nodes s = (o, c)) (hc : c ≠ 0) : writeR f s p b j = (c, f) := by unfold writeR; rw [h]; rw [if_pos hc]
theorem write_w (h : mayF f.off [s] = 0 ∧ findN f.nodes s = some x) (hw : wrF x.fl p b = (e, y)) (he : e ≠ 0) : writeR f s p b j = (e, f) := by
  unfold writeR; rw [getF_0 h, h.2]; simp only [hw, ne_eq, not_true_eq_false, if_false]; rw [if_pos he]
theorem write_15 (h : mayF f.off [s] = 0 ∧ findN f.nodes s = some x) (hw : wrF x.fl p b = (e, y)) (he : e = 0) (ht : totF f.nodes = (a, z)) (h1 : 0 < (y.b.length : Int) - (x.fl.b.length : Int)) (h2 : f.room < (z : Int) + ((y.b.length : Int) - (x.fl.b.length : Int))) : writeR f s p b j = (15, f) := by
  subst he; unfold writeR; rw [getF_0 h, h.2, ht]; simp only [hw, ne_eq, not_true_eq_false, if_false]; rw [if_pos ⟨by omega, h2⟩]
theorem write_b (h : mayF f.off [s] = 0 ∧ findN f.nodes s = some x) (hw : wrF x.fl p b = (e, y)) (he : e = 0) (ht : totF f.nodes = (a, z)) (h1 : ¬ (0 < (y.b.length : Int) - (x.fl.b.length : Int) ∧ f.room < (z : Int) + ((y.b.length : Int) - (x.fl.b.length : Int)))) (hb : burnF f = (c, m)) (hc : c ≠ 0) : writeR f s p b j = (c, m) := by
  subst he; unfold writeR; rw [getF_0 h, h.2, ht, hb]; simp only [hw, ne_eq, not_true_eq_false, if_false]; rw [if_neg (by omega), if_pos hc]
theorem write_0 (h : mayF f.off [s] = 0 ∧ findN f.nodes s = some x) (hw : wrF x.fl p b = (e, y)) (he : e = 0) (ht : totF f.nodes = (a, z)) (h1 : ¬ (0 < (y.b.length : Int) - (x.fl.b.length : Int) ∧ f.room < (z : Int) + ((y.b.length : Int) - (x.fl.b.length : Int)))) (hb : burnF f = (c, m)) (hc : c = 0) : writeR f s p b j = (0, { m with nodes := updN f.nodes x.id fun q => { q with no := { q.no with fid := j }, fl := y } }) := by
  subst he; subst hc; unfold writeR; rw [getF_0 h, h.2, ht, hb]; simp only [hw, ne_eq, not_true_eq_false, if_false]; rw [if_neg (by omega)]
end
theorem writeF_len (b x : List UInt8) (p : Nat) : (writeF b p x).length = max b.length (p + x.length) := by
  unfold writeF; simp only [List.length_append, List.length_take, List.length_drop, List.length_replicate]; omega
theorem wr_len {f y : SFl} {p : Int} {x : List UInt8} {e : Nat} (h : wrF f p x = (e, y)) : y.b.length ≤ max f.b.length 32768 ∧ y.safe = f.safe := by
  unfold wrF at h
  split at h
  · cases h; exact ⟨Nat.le_max_left _ _, rfl⟩
  · split at h
    · cases h; exact ⟨Nat.le_max_left _ _, rfl⟩
    · split at h
      · cases h; exact ⟨Nat.le_max_left _ _, rfl⟩
      · cases h
        refine ⟨?_, rfl⟩; show (writeF _ _ _).length ≤ _; rw [writeF_len]; omega

end Go.Proofs.Ytcaokfendkkafaa
namespace Go.Proofs.Ytcaokfendkkafaa
open Go Go.Wk Go.RowKit
set_option linter.unusedVariables false
set_option linter.unusedSimpArgs false
attribute [local irreducible] wpList wpQuiet wpStill wpMix Code.wp Calls bodyPost
theorem elT82 : elT Try.prog 82 1 8 = true := by kernel_rfl
theorem elT92 : elT Try.prog 92 4 40 = true := by kernel_rfl
theorem fn45 : isFn Try.prog 45 = true := by kernel_rfl
theorem fn49 : isFn Try.prog 49 = true := by kernel_rfl
theorem off80_4 : fieldOff Try.prog 80 4 = some 4 := by kernel_rfl
theorem one78 : isOne Try.prog 78 = true := by kernel_rfl
theorem pl90 : bplace Try.prog 90 = some [(0, 1), (1, 1), (2, 1)] := by kernel_rfl
theorem pl92 : bplace Try.prog 92 = some [(0, 1), (1, 1), (2, 1), (3, 1)] := by kernel_rfl
theorem u78 : Try.prog.underlying 78 = some (.slice 92) := by kernel_rfl
theorem z90 : zcells Try.prog 90 = some [.string ByteArray.empty, .bool false, .pointer none] := by kernel_rfl
theorem z92 : zcells Try.prog 92 = some [.int .i64 0, .pointer none, .string ByteArray.empty, .pointer none] := by kernel_rfl

theorem fMake_any {w : World} {Q : Nat → Prop} (uQ : Up w Q) {b0 : Nat} {v0_0 : Value} {v0_1 : Value} (f : SFs) (h0 : Blk w b0 (SFs.cells f v0_0 v0_1) 80) (n0 : ¬ Q b0) (a0_0 : SFs.ok f) (a0_1 : Ow tNd 82 (fun _ => True) w Q v0_0 f.nodes) (a0_2 : Ow tSCh 92 (fun _ => True) w Q v0_1 f.pend) (hN0 : Nds 90 125 (fun _ => True) w Q f.nodes) (s : List UInt8) (p0 : s.length ≤ 1000000) (p1 : (totF f.nodes).2 ≤ 1000000000000) (p2 : f.nodes.length ≤ 1000000) (p3 : f.pend.length ≤ 1000000) :
    Calls Try.prog 16 #[.pointer (some ⟨b0, 0, none⟩), (str s)] w fun en w' => ∃ r0 : Nat, ∃ m0 : SFs, ∃ u50_0 : Value, ∃ u50_1 : Value, ∃ Q' : Nat → Prop, en = .returned (.int .i64 ((r0 : Nat) : Int)) ∧ Md (b0 :: (vblock v0_0).toList ++ ((vblock v0_1).toList ++ (ndB f.nodes))) w w' ∧ NewQ w w' Q Q' ∧ r0 < 9223372036854775808 ∧ Blk w' b0 (SFs.cells m0 u50_0 u50_1) 80 ∧ ¬ Q' b0 ∧ SFs.ok m0 ∧ Ow tNd 82 (Fsh (b0 :: (vblock v0_0).toList ++ ((vblock v0_1).toList ++ (ndB f.nodes))) w) w' Q' u50_0 m0.nodes ∧ Ow tSCh 92 (Fsh (b0 :: (vblock v0_0).toList ++ ((vblock v0_1).toList ++ (ndB f.nodes))) w) w' Q' u50_1 m0.pend ∧ Nds 90 125 (Fsh (b0 :: (vblock v0_0).toList ++ ((vblock v0_1).toList ++ (ndB f.nodes))) w) w' Q' m0.nodes ∧ makeR f s (lastI m0) (lastJ m0) = (r0, m0) := by
  have n_h0 := n0; have p_h0 : Fsh (b0 :: (vblock v0_0).toList ++ ((vblock v0_1).toList ++ (ndB f.nodes))) w b0 := .inl (by simp); replace a0_1 := a0_1.reP (lo' := Fsh (b0 :: (vblock v0_0).toList ++ ((vblock v0_1).toList ++ (ndB f.nodes))) w) (fun b hb => .inl (by simp [hb])); replace a0_2 := a0_2.reP (lo' := Fsh (b0 :: (vblock v0_0).toList ++ ((vblock v0_1).toList ++ (ndB f.nodes))) w) (fun b hb => .inl (by simp [hb])); have hN := hN0.reB (lo' := Fsh (b0 :: (vblock v0_0).toList ++ ((vblock v0_1).toList ++ (ndB f.nodes))) w) (fun b hb => .inl (by simp [hb])); clear hN0; have M := Md.refl (b0 :: (vblock v0_0).toList ++ ((vblock v0_1).toList ++ (ndB f.nodes))) w; have uQ0 := uQ; have tQ : ∀ b, Q b → Q b := fun _ h => h; have sQ0 : ∀ b, Q b → b < w.heap.size → Q b := fun _ h _ => h; refine enter (n := 62) Try.func16 rfl rfl rfl ?_; intro B; refine ns ?_; have lt0 := hN.ltB; refine asg rfl ?_; refine nt ?_; refine ns ?_; refine mv rfl ?_; refine mv rfl ?_; refine st_call fn47 rfl (fGet_any uQ f h0 n_h0 a0_0 (a0_1.reP (fun _ _ => trivial)) (a0_2.reP (fun _ _ => trivial)) s (by exact hN.reP (fun _ _ => trivial)) (by omega)) ?_; rintro en w1 ⟨x1_0, x1_1, rfl, hm, q1_1, hF1⟩; refine ⟨_, rfl, ?_⟩; replace a0_1 := a0_1.md0 hm; replace a0_2 := a0_2.md0 hm; replace h0 := h0.md0 hm; replace hN := hN.md0 hm; replace uQ := uQ.md hm; replace M := M.step0 hm; refine mv rfl ?_; refine st _ (r_extract rfl rfl) ?_; refine st _ (r_extract rfl rfl) ?_; refine asg rfl ?_; refine asg rfl ?_; refine nt ?_; refine ns ?_; refine mv rfl ?_; refine st_call fn48 rfl (fTotal_any uQ f h0 n_h0 a0_0 (a0_1.reP (fun _ _ => trivial)) (a0_2.reP (fun _ _ => trivial)) (by exact hN.reP (fun _ _ => trivial)) (by omega)) ?_; rintro en w2 ⟨x2_0, x2_1, rfl, hm, q2_0, q2_1, hF2⟩; refine ⟨_, rfl, ?_⟩; replace a0_1 := a0_1.md0 hm; replace a0_2 := a0_2.md0 hm; replace h0 := h0.md0 hm; replace hN := hN.md0 hm; replace uQ := uQ.md hm; replace M := M.step0 hm; refine mv rfl ?_; refine st _ (r_extract rfl rfl) ?_; refine st _ (r_extract rfl rfl) ?_; refine asg rfl ?_; refine asg rfl ?_; refine nt ?_; refine c_seq ?_; refine c_block ?_; refine ns ?_; refine mv rfl ?_; refine st _ (r_eqN (a := x1_1) (b := 0) rfl rfl) ?_; refine asg rfl ?_
  refine nt ?_; refine c_if rfl (fun h22 => ?_) (fun h22 => ?_)
  · (first | (have h22n := of_decide_eq_true h22) | (have h22n := of_decide_eq_false (bnt h22)) | (have h22n := bnt h22) | (have h22n := h22)); refine ns ?_; refine asg rfl ?_; refine nt ?_; refine c_ret ?_; refine r_block ?_; refine r_then ?_; exact ret1L (v := (.int .i64 ((17 : Nat) : Int))) trivial rfl ⟨rfl, trivial⟩ ⟨17, f, _, _, Q, rfl, M, ⟨sQ0, tQ, uQ⟩, (by first | assumption | omega | simp_all), h0, n_h0, a0_0, a0_1, a0_2, hN, (make_17 hF1 (by omega))⟩
  · (first | (have h22n := of_decide_eq_false h22) | (have h22n := of_decide_eq_true (bnf h22)) | (have h22n := bnf h22) | (have h22n := h22)); refine ns ?_; refine mv rfl ?_; refine st _ (r_neN (a := x1_1) (b := 16) rfl rfl) ?_; refine asg rfl ?_; refine nt ?_; refine c_if rfl (fun h25 => ?_) (fun h25 => ?_)
    · (first | (have h25n := of_decide_eq_true h25) | (have h25n := of_decide_eq_false (bnt h25)) | (have h25n := bnt h25) | (have h25n := h25)); refine ns ?_; refine mv rfl ?_; refine asg rfl ?_; refine nt ?_; refine c_ret ?_; refine r_block ?_; refine r_then ?_; exact ret1L (v := (.int .i64 ((x1_1 : Nat) : Int))) trivial rfl ⟨rfl, trivial⟩ ⟨x1_1, f, _, _, Q, rfl, M, ⟨sQ0, tQ, uQ⟩, (by first | assumption | omega | simp_all), h0, n_h0, a0_0, a0_1, a0_2, hN, (make_c hF1 (by omega) (by omega))⟩
    · (first | (have h25n := of_decide_eq_false h25) | (have h25n := of_decide_eq_true (bnf h25)) | (have h25n := bnf h25) | (have h25n := h25)); refine ns ?_; refine mv rfl ?_; refine st _ (r_geN (a := x2_0) (b := 24) rfl rfl) ?_; refine asg rfl ?_; refine nt ?_; refine c_if rfl (fun h29 => ?_) (fun h29 => ?_)
      · (first | (have h29n := of_decide_eq_true h29) | (have h29n := of_decide_eq_false (bnt h29)) | (have h29n := bnt h29) | (have h29n := h29)); refine ns ?_; refine asg rfl ?_; refine nt ?_; refine c_ret ?_; refine r_block ?_; refine r_then ?_; exact ret1L (v := (.int .i64 ((15 : Nat) : Int))) trivial rfl ⟨rfl, trivial⟩ ⟨15, f, _, _, Q, rfl, M, ⟨sQ0, tQ, uQ⟩, (by first | assumption | omega | simp_all), h0, n_h0, a0_0, a0_1, a0_2, hN, (make_15 hF1 (by omega) hF2 (by omega))⟩
      · (first | (have h29n := of_decide_eq_false h29) | (have h29n := of_decide_eq_true (bnf h29)) | (have h29n := bnf h29) | (have h29n := h29)); refine c_skip ?_; refine n_block ?_; refine c_then ?_; refine c_seq ?_; refine ns ?_; refine mv rfl ?_; refine st_call fn45 rfl (fBurn_any uQ f h0 n_h0 a0_0 (a0_1.reP (fun _ _ => trivial)) (a0_2.reP (fun _ _ => trivial))) ?_; rintro en w3 ⟨x3_0, m3_0, mv3_0_0, mv3_0_1, Q4, rfl, hm, ⟨sQ, sT, uQ2⟩, q3_0, mh3_0, mn3_0, mq3_0_0, mf3_0_1, mf3_0_2, hF3⟩; refine ⟨_, rfl, ?_⟩; have hP : ∀ i ∈ (b0 :: (vblock v0_0).toList ++ ((vblock v0_1).toList)), Fsh (b0 :: (vblock v0_0).toList ++ ((vblock v0_1).toList ++ (ndB f.nodes))) w i := (all_cons p_h0 (all_app (all_row (fun x hx => (a0_1.2 x hx).1)) (all_row (fun x hx => (a0_2.2 x hx).1)))); have hS : ∀ i ∈ (b0 :: (vblock v0_0).toList ++ ((vblock v0_1).toList)), ¬ Q i := (all_cons n_h0 (all_app (all_row (fun x hx => (a0_1.2 x hx).2)) (all_row (fun x hx => (a0_2.2 x hx).2)))); have np_hN := (hN.apF h0 a0_1 a0_2 (by decide) (by decide) (by decide) (by decide) (by decide) (by decide)); replace mf3_0_1 := mf3_0_1.reP (fun x hx => (mf3_0_1.2 x hx).1); replace mf3_0_1 := mf3_0_1.reP (fun x hx => (mf3_0_1.2 x hx).1.elim (hP x) (Fsh.new M x)); replace mf3_0_2 := mf3_0_2.reP (fun x hx => (mf3_0_2.2 x hx).1); replace mf3_0_2 := mf3_0_2.reP (fun x hx => (mf3_0_2.2 x hx).1.elim (hP x) (Fsh.new M x)); replace hN := hN.sub sQ sT; replace tQ := fun b hb => tQ b (sT b hb); replace sQ0 := fun b hb hl => sQ b (sQ0 b hb hl) (Nat.lt_of_lt_of_le hl M.size); replace hS := fun i hi hq => hS i hi (sT i hq); replace hN := hN.md hm np_hN hS; replace M := M.step hm hP; clear uQ; have uQ := uQ2; clear uQ2 sQ sT; clear hP hS h0 n_h0; have h0 := mh3_0; have n_h0 := mn3_0; clear mh3_0 mn3_0; clear a0_1; clear a0_2; have be := burn_eq hF3; replace hN : Nds 90 125 (Fsh (b0 :: (vblock v0_0).toList ++ ((vblock v0_1).toList ++ (ndB f.nodes))) w) w3 Q4 m3_0.nodes := (by rw [be.1]; exact hN); refine asg rfl ?_; refine nt ?_; refine ns ?_; refine mv rfl ?_; refine st _ (r_neN (a := x3_0) (b := 0) rfl rfl) ?_; refine nt ?_; refine c_if rfl (fun h35 => ?_) (fun h35 => ?_)
        · (first | (have h35n := of_decide_eq_true h35) | (have h35n := of_decide_eq_false (bnt h35)) | (have h35n := bnt h35) | (have h35n := h35)); refine ns ?_; refine mv rfl ?_; refine asg rfl ?_; refine nt ?_; refine c_ret ?_; refine r_then ?_; exact ret1L (v := (.int .i64 ((x3_0 : Nat) : Int))) trivial rfl ⟨rfl, trivial⟩ ⟨x3_0, m3_0, _, _, Q4, rfl, M, ⟨sQ0, tQ, uQ⟩, (by first | assumption | omega | simp_all), h0, n_h0, mq3_0_0, mf3_0_1, mf3_0_2, hN, (make_b hF1 (by omega) hF2 (by omega) hF3 (by omega))⟩
        · (first | (have h35n := of_decide_eq_false h35) | (have h35n := of_decide_eq_true (bnf h35)) | (have h35n := bnf h35) | (have h35n := h35)); refine c_skip ?_; refine c_then ?_; refine ns ?_; refine mv rfl ?_; refine st_call fn49 rfl (sNew_any uQ ) ?_; rintro en w5 ⟨ob5_0, ov5_0_0, ov5_0_1, x5_0, Q6, rfl, hm, ⟨sQ, sT, uQ2⟩, oh5_0, n_oh5_0, goh5_0, of5_0_0, of5_0_1, hF5⟩; refine ⟨_, rfl, ?_⟩; have eh0oh5_0 : b0 ≠ ob5_0 := (by have := h0.lt; omega); have p_oh5_0 : Fsh [] w ob5_0 := Fsh.new M _ goh5_0; replace goh5_0 := Nat.le_trans M.size goh5_0; replace n_h0 := fun hh => n_h0 (sT _ hh); replace hN := hN.sub sQ sT; replace mf3_0_1 := mf3_0_1.sub sQ sT; replace mf3_0_2 := mf3_0_2.sub sQ sT; replace tQ := fun b hb => tQ b (sT b hb); replace sQ0 := fun b hb hl => sQ b (sQ0 b hb hl) (Nat.lt_of_lt_of_le hl M.size); replace h0 := h0.md0 hm; replace hN := hN.md0 hm; replace mf3_0_1 := mf3_0_1.md0 hm; replace mf3_0_2 := mf3_0_2.md0 hm; replace uQ := uQ.md hm; replace M := M.step0 hm; clear uQ; have uQ := uQ2; clear uQ2 sQ sT; refine st _ (r_buildG (us := [[(str s)], [(.bool true)], [(.pointer (some ⟨ob5_0, 0, none⟩))]]) (cs := (SNo.cells (({ nm := s, there := true, fid := ob5_0 } : SNo)))) [(0, 0, 1), (1, 1, 1), (2, 2, 1)] z90 pl90 rfl rfl ⟨rfl, rfl, rfl, trivial⟩ ⟨rfl, rfl, rfl, trivial⟩ rfl rfl) ?_; refine st_box (cs := (SNo.cells (({ nm := s, there := true, fid := ob5_0 } : SNo)))) rfl rfl ?_; intro ba40 w7 ga40 la40 hm ha40; have eh0a40 : b0 ≠ ba40 := (by have := h0.lt; omega); have eoh5_0a40 : ob5_0 ≠ ba40 := (by have := oh5_0.lt; omega); obtain ⟨Q8, sQ, sT, n_ha40, uQ2⟩ := exQ uQ ga40 la40 hm; replace n_h0 := fun hh => n_h0 (sT _ hh); replace hN := hN.sub sQ sT; replace mf3_0_1 := mf3_0_1.sub sQ sT; replace mf3_0_2 := mf3_0_2.sub sQ sT; replace of5_0_0 := of5_0_0.sub sQ; replace of5_0_1 := of5_0_1.sub sQ; replace n_oh5_0 := fun hh => n_oh5_0 (sT _ hh); replace tQ := fun b hb => tQ b (sT b hb); replace sQ0 := fun b hb hl => sQ b (sQ0 b hb hl) (Nat.lt_of_lt_of_le hl M.size); replace ga40 := Nat.le_trans M.size ga40; replace h0 := h0.md0 hm; replace hN := hN.md0 hm; replace mf3_0_1 := mf3_0_1.md0 hm; replace mf3_0_2 := mf3_0_2.md0 hm; replace of5_0_0 := of5_0_0.md0 hm; replace of5_0_1 := of5_0_1.md0 hm; replace oh5_0 := oh5_0.md0 hm; replace uQ := uQ.md hm; replace M := M.step0 hm; clear uQ; have uQ := uQ2; clear uQ2 sQ sT; have p_ha40 : Fsh [] w ba40 := .inr ga40; refine asg rfl ?_; refine nt ?_
          refine ns ?_; refine mv rfl ?_; refine mv rfl ?_; refine st _ (r_nil rfl) ?_; refine st _ (r_field rfl off80_3) ?_; refine st _ ((r_loadBlk rfl one77 h0 rfl).to (b := mv3_0_0) rfl) ?_; refine mv rfl ?_; have ml : m3_0.nodes.length = f.nodes.length := (by rw [be.1]); have mp : m3_0.pend.length = f.pend.length := (by rw [be.2.1]); refine st_buildSliceG [[(.pointer (some ⟨ba40, 0, none⟩))]] u77 elT82 (by decide) (by decide) rfl rfl ⟨rfl, trivial⟩ ⟨rfl, trivial⟩ rfl (by decide) ?_; intro ba47 w9 ga47 la47 hm ha47; have ya47 := uQ _ ga47; replace h0 := h0.md0 hm; replace hN := hN.md0 hm; replace mf3_0_1 := mf3_0_1.md0 hm; replace mf3_0_2 := mf3_0_2.md0 hm; replace of5_0_0 := of5_0_0.md0 hm; replace of5_0_1 := of5_0_1.md0 hm; replace oh5_0 := oh5_0.md0 hm; replace ha40 := ha40.md0 hm; replace uQ := uQ.md hm; replace M := M.step0 hm; replace ha47 := Ls.of_blk (m := 1) (R := Q8) (T := tNd) (xs := [({ id := ba40, no := ({ nm := s, there := true, fid := ob5_0 } : SNo), fl := x5_0 } : SNd)]) ha47 ⟨_, _, rfl, ⟨rfl, trivial⟩, rfl⟩ rfl (by decide) ya47; refine st_ap (sz := 1) (by rfl) u77 elT82 rfl rfl mf3_0_1 ha47 (fun _ h _ => h) uQ (Fsh.new M) (by first | omega | (simp <;> omega) | (simp at * <;> omega)) (by first | omega | (simp <;> omega) | (simp at * <;> omega)) ?_; intro v11 w12 Q13 sQ sT uQ2 hO10 hm hS _ hv2; have mf3_0_10 := mf3_0_1; clear mf3_0_1; replace n_h0 := fun hh => n_h0 (sT _ hh); replace hN := hN.sub sQ sT; replace mf3_0_2 := mf3_0_2.sub sQ sT; replace of5_0_0 := of5_0_0.sub sQ; replace of5_0_1 := of5_0_1.sub sQ; replace n_oh5_0 := fun hh => n_oh5_0 (sT _ hh); replace n_ha40 := fun hh => n_ha40 (sT _ hh); replace ha47 := ha47.sub sQ; replace tQ := fun b hb => tQ b (sT b hb); replace sQ0 := fun b hb hl => sQ b (sQ0 b hb hl) (Nat.lt_of_lt_of_le hl M.size); replace h0 := h0.md hm (apart_ow mf3_0_10 h0 (by decide)); replace hN := hN.md hm (hN.apO mf3_0_10 (by decide) (by decide)) hS; replace mf3_0_2 := mf3_0_2.md hm (apart_oo mf3_0_10 mf3_0_2 (by decide)) hS; replace of5_0_0 := of5_0_0.md hm hS; replace of5_0_1 := of5_0_1.md hm hS; replace oh5_0 := oh5_0.md hm (apart_ow mf3_0_10 oh5_0 (by decide)); replace ha40 := ha40.md hm (apart_ow mf3_0_10 ha40 (by decide)); replace ha47 := ha47.md hm hS; replace uQ := uQ.md hm; replace M := M.stepO hm (fun b hb => (mf3_0_10.2 b hb).1); clear uQ; have uQ := uQ2; clear uQ2 sQ sT hS hv2; refine st _ (r_nil rfl) ?_; refine st _ (r_field rfl off80_3) ?_; refine st_store rfl rfl one77 hO10.oneCell h0 (Nat.le_of_ble_eq_true rfl) ?_
          have h00 := h0; clear h0; intro w14 hm h0; have hS : ∀ b ∈ [b0], ¬ Q13 b := (by intro b hb; simp at hb; subst hb; exact n_h0); replace hN := hN.md hm (hN.ap1 h00 (by decide) (by decide)) hS; replace mf3_0_2 := mf3_0_2.md hm (apart_bo h00 mf3_0_2 (by decide)) hS; replace of5_0_0 := of5_0_0.md hm hS; replace of5_0_1 := of5_0_1.md hm hS; replace oh5_0 := oh5_0.md hm (by intro hb; simp at hb; omega); replace ha40 := ha40.md hm (by intro hb; simp at hb; omega); replace ha47 := ha47.md hm hS; replace hO10 := hO10.md hm (apart_bo h00 hO10 (by decide)) hS; replace uQ := uQ.md hm; replace M := M.step hm (all_cons p_h0 all_nil); clear h00 hS; obtain ⟨s15, es15⟩ : ∃ y, y = ({ m3_0 with nodes := m3_0.nodes ++ ([({ id := ba40, no := ({ nm := s, there := true, fid := ob5_0 } : SNo), fl := x5_0 } : SNd)]) } : SFs) := ⟨_, rfl⟩; replace h0 : Blk _ _ (SFs.cells ({ m3_0 with nodes := m3_0.nodes ++ ([({ id := ba40, no := ({ nm := s, there := true, fid := ob5_0 } : SNo), fl := x5_0 } : SNd)]) }) v11 mv3_0_1) _ := h0; rw [← es15] at h0; have oks15 : SFs.ok s15 := (by rw [es15]; exact ⟨mq3_0_0.1, mq3_0_0.2⟩); rw [show m3_0.nodes ++ ([({ id := ba40, no := ({ nm := s, there := true, fid := ob5_0 } : SNo), fl := x5_0 } : SNd)]) = s15.nodes by rw [es15]] at hO10; rw [show m3_0.pend = s15.pend by rw [es15]] at mf3_0_2; refine nt ?_; refine ns ?_; refine mv rfl ?_; refine mv rfl ?_; refine st _ (r_nil rfl) ?_; refine st _ (r_field rfl off80_4) ?_; refine st _ ((r_loadBlk rfl one78 h0 rfl).to (b := mv3_0_1) rfl) ?_; refine mv rfl ?_; refine st _ (r_buildG (us := [[(.int .i64 ((0 : Nat) : Int))], [(.pointer (some ⟨ba40, 0, none⟩))]]) (cs := (SCh.cells (({ kind := 0, n := ba40, old := [], over := none } : SCh)))) [(0, 0, 1), (1, 1, 1)] z92 pl92 rfl rfl ⟨rfl, rfl, trivial⟩ ⟨rfl, rfl, trivial⟩ rfl rfl) ?_; refine st_buildSliceG [(SCh.cells (({ kind := 0, n := ba40, old := [], over := none } : SCh)))] u78 elT92 (by decide) (by decide) rfl rfl ⟨rfl, trivial⟩ ⟨rfl, trivial⟩ rfl (by decide) ?_; intro ba58 w16 ga58 la58 hm ha58; have ya58 := uQ _ ga58; replace hN := hN.md0 hm; replace mf3_0_2 := mf3_0_2.md0 hm; replace of5_0_0 := of5_0_0.md0 hm; replace of5_0_1 := of5_0_1.md0 hm; replace oh5_0 := oh5_0.md0 hm; replace ha40 := ha40.md0 hm; replace ha47 := ha47.md0 hm; replace hO10 := hO10.md0 hm; replace h0 := h0.md0 hm; replace uQ := uQ.md hm; replace M := M.step0 hm; replace ha58 := Ls.of_blk (m := 1) (R := Q13) (T := tSCh) (xs := [({ kind := 0, n := ba40, old := [], over := none } : SCh)]) ha58 ⟨_, _, rfl, (tSCh_mk (by first | assumption | exact (show (({ kind := 0, n := ba40, old := [], over := none } : SCh)).kind < 9223372036854775808 from (by first | omega | (simp <;> omega) | simp_all)))), rfl⟩ rfl (by decide) ya58
          have mp2 : s15.pend.length = f.pend.length := (by rw [es15]; exact mp); refine st_ap (sz := 4) (by rfl) u78 elT92 rfl rfl mf3_0_2 ha58 (fun _ h _ => h) uQ (Fsh.new M) (by first | omega | (simp <;> omega) | (simp at * <;> omega)) (by first | omega | (simp <;> omega) | (simp at * <;> omega)) ?_; intro v18 w19 Q20 sQ sT uQ2 hO17 hm hS _ hv2; have mf3_0_20 := mf3_0_2; clear mf3_0_2; replace hN := hN.sub sQ sT; replace of5_0_0 := of5_0_0.sub sQ; replace of5_0_1 := of5_0_1.sub sQ; replace n_oh5_0 := fun hh => n_oh5_0 (sT _ hh); replace n_ha40 := fun hh => n_ha40 (sT _ hh); replace ha47 := ha47.sub sQ; replace hO10 := hO10.sub sQ sT; replace n_h0 := fun hh => n_h0 (sT _ hh); replace ha58 := ha58.sub sQ; replace tQ := fun b hb => tQ b (sT b hb); replace sQ0 := fun b hb hl => sQ b (sQ0 b hb hl) (Nat.lt_of_lt_of_le hl M.size); replace hN := hN.md hm (hN.apO mf3_0_20 (by decide) (by decide)) hS; replace of5_0_0 := of5_0_0.md hm hS; replace of5_0_1 := of5_0_1.md hm hS; replace oh5_0 := oh5_0.md hm (apart_ow mf3_0_20 oh5_0 (by decide)); replace ha40 := ha40.md hm (apart_ow mf3_0_20 ha40 (by decide)); replace ha47 := ha47.md hm hS; replace hO10 := hO10.md hm (apart_oo mf3_0_20 hO10 (by decide)) hS; replace h0 := h0.md hm (apart_ow mf3_0_20 h0 (by decide)); replace ha58 := ha58.md hm hS; replace uQ := uQ.md hm; replace M := M.stepO hm (fun b hb => (mf3_0_20.2 b hb).1); clear uQ; have uQ := uQ2; clear uQ2 sQ sT hS hv2; refine st _ (r_nil rfl) ?_; refine st _ (r_field rfl off80_4) ?_; refine st_store rfl rfl one78 hO17.oneCell h0 (Nat.le_of_ble_eq_true rfl) ?_; have h00 := h0; clear h0; intro w21 hm h0; have hS : ∀ b ∈ [b0], ¬ Q20 b := (by intro b hb; simp at hb; subst hb; exact n_h0); replace hN := hN.md hm (hN.ap1 h00 (by decide) (by decide)) hS; replace of5_0_0 := of5_0_0.md hm hS; replace of5_0_1 := of5_0_1.md hm hS; replace oh5_0 := oh5_0.md hm (by intro hb; simp at hb; omega); replace ha40 := ha40.md hm (by intro hb; simp at hb; omega); replace ha47 := ha47.md hm hS; replace hO10 := hO10.md hm (apart_bo h00 hO10 (by decide)) hS; replace ha58 := ha58.md hm hS; replace hO17 := hO17.md hm (apart_bo h00 hO17 (by decide)) hS; replace uQ := uQ.md hm; replace M := M.step hm (all_cons p_h0 all_nil); clear h00 hS; obtain ⟨s22, es22⟩ : ∃ y, y = ({ s15 with pend := s15.pend ++ ([({ kind := 0, n := ba40, old := [], over := none } : SCh)]) } : SFs) := ⟨_, rfl⟩; replace h0 : Blk _ _ (SFs.cells ({ s15 with pend := s15.pend ++ ([({ kind := 0, n := ba40, old := [], over := none } : SCh)]) }) v11 v18) _ := h0
          rw [← es22] at h0; have oks22 : SFs.ok s22 := (by rw [es22]; exact ⟨oks15.1, oks15.2⟩); rw [show s15.nodes = s22.nodes by rw [es22]] at hO10; rw [show s15.pend ++ ([({ kind := 0, n := ba40, old := [], over := none } : SCh)]) = s22.pend by rw [es22]] at hO17; refine st_nil ?_; have nS : s22.nodes = f.nodes ++ [({ id := ba40, no := ({ nm := s, there := true, fid := ob5_0 } : SNo), fl := x5_0 } : SNd)] := (by rw [es22]; show s15.nodes = _; rw [es15]; show _ ++ _ = _; rw [be.1])
          replace hN : Nds 90 125 (Fsh (b0 :: (vblock v0_0).toList ++ ((vblock v0_1).toList ++ (ndB f.nodes))) w) w21 Q20 s22.nodes := by
            rw [nS]; rw [be.1] at hN; exact hN.snoc ha40 oh5_0 of5_0_0 of5_0_1 n_ha40 n_oh5_0 (Fsh.wid p_ha40) (Fsh.wid p_oh5_0) (fun hm => by have := lt0 _ hm; omega) (fun hm => by have hm2 : ob5_0 ∈ ndB f.nodes := hm; have := lt0 _ hm2; omega)
          have lI : lastI s22 = ba40 := (by unfold lastI; rw [nS]; simp); have lJ : lastJ s22 = ob5_0 := (by unfold lastJ; rw [nS]; simp); refine c_then ?_; refine ns ?_; refine asg rfl ?_; refine nt ?_; refine c_ret ?_; exact ret1L (v := (.int .i64 ((0 : Nat) : Int))) trivial rfl ⟨rfl, trivial⟩ ⟨0, s22, _, _, Q20, rfl, M, ⟨sQ0, tQ, uQ⟩, (by first | assumption | omega | simp_all), h0, n_h0, oks22, hO10, hO17, hN, (by rw [lI, lJ, make_0 hF1 (by omega) hF2 (by omega) hF3 (by omega)]; rw [es22, es15]; simp [be.1, be.2.1, ← hF5])⟩
end Go.Proofs.Ytcaokfendkkafaa
namespace Go.Proofs.Ytcaokfendkkafaa
open Go Go.Wk Go.RowKit
set_option linter.unusedVariables false
set_option linter.unusedSimpArgs false
attribute [local irreducible] wpList wpQuiet wpStill wpMix Code.wp Calls bodyPost
theorem fn54 : isFn Try.prog 54 = true := by kernel_rfl
theorem fn55 : isFn Try.prog 55 = true := by kernel_rfl

theorem fWrite_any {w : World} {Q : Nat → Prop} (uQ : Up w Q) {b0 : Nat} {v0_0 : Value} {v0_1 : Value} (f : SFs) (h0 : Blk w b0 (SFs.cells f v0_0 v0_1) 80) (n0 : ¬ Q b0) (a0_0 : SFs.ok f) (a0_1 : Ow tNd 82 (fun _ => True) w Q v0_0 f.nodes) (a0_2 : Ow tSCh 92 (fun _ => True) w Q v0_1 f.pend) (hN0 : Nds 90 125 (fun _ => True) w Q f.nodes) (s : List UInt8) (p : Int) (a2 : (-9223372036854775808 ≤ p ∧ p < 9223372036854775808)) {v3 : Value} {b : List UInt8} (h3 : Ls tB8 w Q v3 b) (p0 : s.length ≤ 1000000) (p1 : (totF f.nodes).2 ≤ 1000000000000) (p2 : f.nodes.length ≤ 1000000) (p3 : f.pend.length ≤ 1000000) (p4 : ∀ x ∈ f.nodes, x.fl.b.length ≤ 1000000) (p5 : ∀ x ∈ f.nodes, x.fl.safe.length ≤ 1000000) :
    Calls Try.prog 22 #[.pointer (some ⟨b0, 0, none⟩), (str s), (.int .i64 (p : Int)), v3] w fun en w' => ∃ r0 : Nat, ∃ m0 : SFs, ∃ u50_0 : Value, ∃ u50_1 : Value, ∃ Q' : Nat → Prop, en = .returned (.int .i64 ((r0 : Nat) : Int)) ∧ Md (b0 :: (vblock v0_0).toList ++ ((vblock v0_1).toList ++ (ndB f.nodes))) w w' ∧ NewQ w w' Q Q' ∧ r0 < 9223372036854775808 ∧ Blk w' b0 (SFs.cells m0 u50_0 u50_1) 80 ∧ ¬ Q' b0 ∧ SFs.ok m0 ∧ Ow tNd 82 (Fsh (b0 :: (vblock v0_0).toList ++ ((vblock v0_1).toList ++ (ndB f.nodes))) w) w' Q' u50_0 m0.nodes ∧ Ow tSCh 92 (Fsh (b0 :: (vblock v0_0).toList ++ ((vblock v0_1).toList ++ (ndB f.nodes))) w) w' Q' u50_1 m0.pend ∧ Nds 90 125 (Fsh (b0 :: (vblock v0_0).toList ++ ((vblock v0_1).toList ++ (ndB f.nodes))) w) w' Q' m0.nodes ∧ (∃ j, writeR f s p b j = (r0, m0)) := by
  have L3 := h3.len63; have n_h0 := n0; have p_h0 : Fsh (b0 :: (vblock v0_0).toList ++ ((vblock v0_1).toList ++ (ndB f.nodes))) w b0 := .inl (by simp); replace a0_1 := a0_1.reP (lo' := Fsh (b0 :: (vblock v0_0).toList ++ ((vblock v0_1).toList ++ (ndB f.nodes))) w) (fun b hb => .inl (by simp [hb])); replace a0_2 := a0_2.reP (lo' := Fsh (b0 :: (vblock v0_0).toList ++ ((vblock v0_1).toList ++ (ndB f.nodes))) w) (fun b hb => .inl (by simp [hb])); have hN := hN0.reB (lo' := Fsh (b0 :: (vblock v0_0).toList ++ ((vblock v0_1).toList ++ (ndB f.nodes))) w) (fun b hb => .inl (by simp [hb])); clear hN0; have M := Md.refl (b0 :: (vblock v0_0).toList ++ ((vblock v0_1).toList ++ (ndB f.nodes))) w; have uQ0 := uQ; have tQ : ∀ b, Q b → Q b := fun _ h => h; have sQ0 : ∀ b, Q b → b < w.heap.size → Q b := fun _ h _ => h; refine enter (n := 72) Try.func22 rfl rfl rfl ?_; intro B; refine ns ?_; have lt0 := hN.ltB; refine asg rfl ?_; refine nt ?_; refine ns ?_; refine mv rfl ?_; refine mv rfl ?_; refine st_call fn47 rfl (fGet_any uQ f h0 n_h0 a0_0 (a0_1.reP (fun _ _ => trivial)) (a0_2.reP (fun _ _ => trivial)) s (by exact hN.reP (fun _ _ => trivial)) (by omega)) ?_; rintro en w1 ⟨x1_0, x1_1, rfl, hm, q1_1, hF1⟩; refine ⟨_, rfl, ?_⟩; replace a0_1 := a0_1.md0 hm; replace a0_2 := a0_2.md0 hm; replace h0 := h0.md0 hm; replace h3 := h3.md0 hm; replace hN := hN.md0 hm; replace uQ := uQ.md hm; replace M := M.step0 hm; refine mv rfl ?_; refine st _ (r_extract rfl rfl) ?_; refine st _ (r_extract rfl rfl) ?_; refine asg rfl ?_; refine asg rfl ?_; refine nt ?_; refine c_seq ?_; refine ns ?_; refine mv rfl ?_; refine st _ (r_neN (a := x1_1) (b := 0) rfl rfl) ?_; refine nt ?_; refine c_if rfl (fun h24 => ?_) (fun h24 => ?_)
  · (first | (have h24n := of_decide_eq_true h24) | (have h24n := of_decide_eq_false (bnt h24)) | (have h24n := bnt h24) | (have h24n := h24)); refine ns ?_; refine mv rfl ?_; refine asg rfl ?_; refine nt ?_; refine c_ret ?_; refine r_then ?_; exact ret1L (v := (.int .i64 ((x1_1 : Nat) : Int))) trivial rfl ⟨rfl, trivial⟩ ⟨x1_1, f, _, _, Q, rfl, M, ⟨sQ0, tQ, uQ⟩, (by first | assumption | omega | simp_all), h0, n_h0, a0_0, a0_1, a0_2, hN, ⟨0, write_c hF1 (by omega)⟩⟩
  · (first | (have h24n := of_decide_eq_false h24) | (have h24n := of_decide_eq_true (bnf h24)) | (have h24n := bnf h24) | (have h24n := h24)); refine c_skip ?_; refine c_then ?_; refine ns ?_; obtain ⟨nd2, mnd2, qnd2, fnd2⟩ := getF_some hF1 (by omega); subst qnd2; have bl := p4 _ mnd2; have bl2 := p5 _ mnd2; refine mv rfl ?_; refine st _ (r_nil rfl) ?_; refine st _ (r_field rfl off90_2) ?_; obtain ⟨fv3, fw3, hf3, n_hf3, fb3, fs3⟩ := hN.file mnd2; refine st _ ((r_loadBlk rfl one87 (hN.get mnd2).1 rfl).to (b := (.pointer (some ⟨nd2.no.fid, 0, none⟩))) rfl) ?_; refine st_call fn54 rfl (sCopy_any uQ nd2.fl hf3 n_hf3 fb3 fs3 (by first | omega | (simp <;> omega) | (simp at * <;> omega)) (by first | omega | (simp <;> omega) | (simp at * <;> omega))) ?_; rintro en w4 ⟨ob4_0, ov4_0_0, ov4_0_1, x4_0, Q5, rfl, hm, ⟨sQ, sT, uQ2⟩, oh4_0, n_oh4_0, goh4_0, of4_0_0, of4_0_1, hF4⟩; refine ⟨_, rfl, ?_⟩; have eh0oh4_0 : b0 ≠ ob4_0 := (by have := h0.lt; omega); have ehf3oh4_0 : nd2.no.fid ≠ ob4_0 := (by have := hf3.lt; omega); have p_oh4_0 : Fsh [] w ob4_0 := Fsh.new M _ goh4_0; replace goh4_0 := Nat.le_trans M.size goh4_0; replace a0_1 := a0_1.sub sQ sT; replace a0_2 := a0_2.sub sQ sT; replace n_h0 := fun hh => n_h0 (sT _ hh); replace h3 := h3.sub sQ; replace hN := hN.sub sQ sT; replace fb3 := fb3.sub sQ; replace fs3 := fs3.sub sQ; replace n_hf3 := fun hh => n_hf3 (sT _ hh); replace tQ := fun b hb => tQ b (sT b hb); replace sQ0 := fun b hb hl => sQ b (sQ0 b hb hl) (Nat.lt_of_lt_of_le hl M.size); replace of4_0_0 := of4_0_0.lower (Fsh.lift (S' := []) M); replace a0_1 := a0_1.md0 hm; replace a0_2 := a0_2.md0 hm; replace h0 := h0.md0 hm; replace h3 := h3.md0 hm; replace hN := hN.md0 hm; replace fb3 := fb3.md0 hm; replace fs3 := fs3.md0 hm; replace hf3 := hf3.md0 hm; replace uQ := uQ.md hm; replace M := M.step0 hm; clear uQ; have uQ := uQ2; clear uQ2 sQ sT; have bl3 : x4_0.b.length ≤ 1000000 := (by rw [← hF4]; exact bl); refine asg rfl ?_; refine st_nil ?_; clear hf3 n_hf3 fb3 fs3; refine c_then ?_; refine c_seq ?_; refine ns ?_; refine mv rfl ?_; refine mv rfl ?_; refine mv rfl ?_; refine st_call fn55 rfl (sWrite_any uQ x4_0 oh4_0 n_oh4_0 (of4_0_0.reP (fun _ _ => trivial)) of4_0_1 (p) (by omega) h3 (by first | omega | (simp <;> omega) | (simp at * <;> omega))) ?_; rintro en w6 ⟨x6_0, m6_0, mv6_0_0, mv6_0_1, Q7, rfl, hm, ⟨sQ, sT, uQ2⟩, q6_0, mh6_0, mn6_0, mf6_0_0, mf6_0_1, hF6⟩; refine ⟨_, rfl, ?_⟩
    have hP : ∀ i ∈ (ob4_0 :: (vblock ov4_0_0).toList), Fsh [] w i := (all_cons p_oh4_0 (all_row (fun x hx => (of4_0_0.2 x hx).1))); have hS : ∀ i ∈ (ob4_0 :: (vblock ov4_0_0).toList), ¬ Q5 i := (all_cons n_oh4_0 (all_row (fun x hx => (of4_0_0.2 x hx).2))); have np_a0_1 : ∀ b, vblock v0_0 = some b → b ∉ (ob4_0 :: (vblock ov4_0_0).toList) := fun b hb => (nin_cons (a0_1.blk_ne oh4_0 (by decide) b hb) ((apart_oo of4_0_0 a0_1 (by decide)) b hb)); have np_a0_2 : ∀ b, vblock v0_1 = some b → b ∉ (ob4_0 :: (vblock ov4_0_0).toList) := fun b hb => (nin_cons (a0_2.blk_ne oh4_0 (by decide) b hb) ((apart_oo of4_0_0 a0_2 (by decide)) b hb)); have np_h0 : b0 ∉ (ob4_0 :: (vblock ov4_0_0).toList) := (nin_cons (by omega) (apart_ow of4_0_0 h0 (by decide))); have np_hN := hN.apB (S := (ob4_0 :: (vblock ov4_0_0).toList)) (fun b hb => nin_cons (by have := lt0 b hb; omega) (fun hm => by have h2 := lt0 b hb; have h3 := (of4_0_0.2 b (by simpa using hm)).1.elim (fun h => by simp at h) id; omega)); replace mf6_0_0 := mf6_0_0.reP (fun x hx => (mf6_0_0.2 x hx).1); replace mf6_0_0 := mf6_0_0.reP (fun x hx => (mf6_0_0.2 x hx).1.elim (hP x) (Fsh.new M x)); replace a0_1 := a0_1.sub sQ sT; replace a0_2 := a0_2.sub sQ sT; replace n_h0 := fun hh => n_h0 (sT _ hh); replace h3 := h3.sub sQ; replace hN := hN.sub sQ sT; replace of4_0_1 := of4_0_1.sub sQ; replace tQ := fun b hb => tQ b (sT b hb); replace sQ0 := fun b hb hl => sQ b (sQ0 b hb hl) (Nat.lt_of_lt_of_le hl M.size); replace hS := fun i hi hq => hS i hi (sT i hq); replace a0_1 := a0_1.md hm np_a0_1 hS; clear np_a0_1; replace a0_2 := a0_2.md hm np_a0_2 hS; clear np_a0_2; replace h0 := h0.md hm np_h0; clear np_h0; replace h3 := h3.md hm hS; replace hN := hN.md hm np_hN hS; replace of4_0_1 := of4_0_1.md hm hS; replace M := M.step hm (fun i hi => Fsh.wid (hP i hi)); clear uQ; have uQ := uQ2; clear uQ2 sQ sT; clear hP hS oh4_0 n_oh4_0; have oh4_0 := mh6_0; have n_oh4_0 := mn6_0; clear mh6_0 mn6_0; clear of4_0_0; have fw := hF6; rw [← hF4] at fw; refine asg rfl ?_; refine nt ?_; refine ns ?_; refine mv rfl ?_; refine st _ (r_neN (a := x6_0) (b := 0) rfl rfl) ?_; refine nt ?_; refine c_if rfl (fun h36 => ?_) (fun h36 => ?_)
    · (first | (have h36n := of_decide_eq_true h36) | (have h36n := of_decide_eq_false (bnt h36)) | (have h36n := bnt h36) | (have h36n := h36)); refine ns ?_; refine mv rfl ?_; refine asg rfl ?_; refine nt ?_; refine c_ret ?_; refine r_then ?_; exact ret1L (v := (.int .i64 ((x6_0 : Nat) : Int))) trivial rfl ⟨rfl, trivial⟩ ⟨x6_0, f, _, _, Q7, rfl, M, ⟨sQ0, tQ, uQ⟩, (by first | assumption | omega | simp_all), h0, n_h0, a0_0, a0_1, a0_2, hN, ⟨0, write_w fnd2 fw (by omega)⟩⟩
    · (first | (have h36n := of_decide_eq_false h36) | (have h36n := of_decide_eq_true (bnf h36)) | (have h36n := bnf h36) | (have h36n := h36)); refine c_skip ?_; refine c_then ?_; refine c_seq ?_; obtain ⟨Q8, fQ, fT, mf6_0_0z⟩ := mf6_0_0.freeze; replace a0_1 := a0_1.subF fQ fT (apart_oo mf6_0_0 a0_1 (by decide)); replace a0_2 := a0_2.subF fQ fT (apart_oo mf6_0_0 a0_2 (by decide)); replace n_h0 := fun hh => (fT _ hh).elim n_h0 (nfz (apart_ow mf6_0_0 h0 (by decide))); replace h3 := h3.sub (fun b hb _ => fQ b hb); replace hN := hN.subF fQ fT (hN.apO mf6_0_0 (by decide) (by decide)); replace of4_0_1 := of4_0_1.sub (fun b hb _ => fQ b hb); replace n_oh4_0 := fun hh => (fT _ hh).elim n_oh4_0 (nfz (apart_ow mf6_0_0 oh4_0 (by decide))); replace mf6_0_1 := mf6_0_1.sub (fun b hb _ => fQ b hb); replace tQ := fun b hb => (fT b hb).elim (tQ b) (fun hv => Fsh.up uQ0 b (mf6_0_0.2 b hv).1); replace sQ0 := fun b hb hl => fQ b (sQ0 b hb hl); replace uQ : Up w6 Q8 := fun b hb => fQ b (uQ b hb); clear mf6_0_0 fQ fT; have mf6_0_0 := mf6_0_0z; clear mf6_0_0z; have a0_1_q := a0_1; have a0_2_q := a0_2; have h0_q := h0; have h3_q := h3; have hN_q := hN; have of4_0_1_q := of4_0_1; have oh4_0_q := oh4_0; have mf6_0_0_q := mf6_0_0; have mf6_0_1_q := mf6_0_1; refine c_mixT [(0, true), (2, true), (3, true), (4, true), (5, true), (1, false)] [6, 7, 8] (fun w' => Md [] w6 w') mixed (by kernel_rfl) ?_; intro w9 hd0; refine ⟨hd0.mono (by simp), ?_⟩; have MC := hd0.mono (T := []) (by simp); refine Go.Wk.m _ (fun w' hc => r_move rfl) ?_; refine Go.Wk.m _ (fun w' hc => r_move rfl) ?_; refine Go.Wk.m _ (fun w' hc => r_nil rfl) ?_; refine Go.Wk.m _ (fun w' hc => r_field rfl off90_2) ?_; obtain ⟨fv10, fw10, hf10, n_hf10, fb10, fs10⟩ := hN.file mnd2; refine Go.Wk.m _ (fun w' hc => (r_loadBlk rfl one87 ((hN_q.md0 hc).get mnd2).1 rfl).to (b := (.pointer (some ⟨nd2.no.fid, 0, none⟩))) rfl) ?_; replace a0_1 := a0_1.md0 hd0; replace a0_2 := a0_2.md0 hd0; replace h0 := h0.md0 hd0; replace h3 := h3.md0 hd0; replace hN := hN.md0 hd0; replace of4_0_1 := of4_0_1.md0 hd0; replace oh4_0 := oh4_0.md0 hd0; replace mf6_0_0 := mf6_0_0.md0 hd0; replace mf6_0_1 := mf6_0_1.md0 hd0; replace fb10 := fb10.md0 hd0; replace fs10 := fs10.md0 hd0; replace hf10 := hf10.md0 hd0; replace uQ := uQ.md hd0; replace M := M.step0 hd0; refine m_e ?_ rfl; refine st_call fn56 rfl (sLen_any uQ m6_0 oh4_0 n_oh4_0 mf6_0_0 mf6_0_1) ?_; rintro en w11 ⟨x11_0, rfl, hm, q11_0, hF11⟩; refine ⟨_, rfl, ?_⟩; replace a0_1 := a0_1.md0 hm; replace a0_2 := a0_2.md0 hm
      replace h0 := h0.md0 hm; replace h3 := h3.md0 hm; replace hN := hN.md0 hm; replace of4_0_1 := of4_0_1.md0 hm; replace oh4_0 := oh4_0.md0 hm; replace mf6_0_0 := mf6_0_0.md0 hm; replace mf6_0_1 := mf6_0_1.md0 hm; replace fb10 := fb10.md0 hm; replace fs10 := fs10.md0 hm; replace hf10 := hf10.md0 hm; replace uQ := uQ.md hm; replace M := M.step0 hm; replace MC := MC.step0 hm; refine st_nil ⟨rfl, MC, ?_⟩; refine m_nil ?_; clear oh4_0_q h3_q mf6_0_1_q a0_2_q a0_1_q hN_q of4_0_1_q h0_q mf6_0_0_q; clear MC; refine st_call fn56 rfl (sLen_any uQ nd2.fl hf10 n_hf10 fb10 fs10) ?_; rintro en w12 ⟨x12_0, rfl, hm, q12_0, hF12⟩; refine ⟨_, rfl, ?_⟩; replace a0_1 := a0_1.md0 hm; replace a0_2 := a0_2.md0 hm; replace h0 := h0.md0 hm; replace h3 := h3.md0 hm; replace hN := hN.md0 hm; replace of4_0_1 := of4_0_1.md0 hm; replace oh4_0 := oh4_0.md0 hm; replace mf6_0_0 := mf6_0_0.md0 hm; replace mf6_0_1 := mf6_0_1.md0 hm; replace fb10 := fb10.md0 hm; replace fs10 := fs10.md0 hm; replace hf10 := hf10.md0 hm; replace uQ := uQ.md hm; replace M := M.step0 hm; refine st _ (r_subI (a := ((x11_0 : Nat) : Int)) (b := ((x12_0 : Nat) : Int)) rfl rfl (by omega)) ?_; refine asg rfl ?_; refine st_nil ?_; clear hf10 n_hf10 fb10 fs10; refine c_then ?_; refine c_seq ?_; refine ns ?_; refine mv rfl ?_; refine st_call fn48 rfl (fTotal_any uQ f h0 n_h0 a0_0 (a0_1.reP (fun _ _ => trivial)) (a0_2.reP (fun _ _ => trivial)) (by exact hN.reP (fun _ _ => trivial)) (by omega)) ?_; rintro en w13 ⟨x13_0, x13_1, rfl, hm, q13_0, q13_1, hF13⟩; refine ⟨_, rfl, ?_⟩; replace a0_1 := a0_1.md0 hm; replace a0_2 := a0_2.md0 hm; replace h0 := h0.md0 hm; replace h3 := h3.md0 hm; replace hN := hN.md0 hm; replace of4_0_1 := of4_0_1.md0 hm; replace oh4_0 := oh4_0.md0 hm; replace mf6_0_0 := mf6_0_0.md0 hm; replace mf6_0_1 := mf6_0_1.md0 hm; replace uQ := uQ.md hm; replace M := M.step0 hm; have tz := congrArg Prod.snd hF13; simp only at tz; have yl := (wr_len fw).1; rw [hF11] at yl; refine mv rfl ?_; refine st _ (r_extract rfl rfl) ?_; refine st _ (r_extract rfl rfl) ?_; refine asg rfl ?_; refine asg rfl ?_; refine nt ?_; refine ns ?_; refine mv rfl ?_; refine st _ (r_gt (a := ((x11_0 : Nat) : Int) - ((x12_0 : Nat) : Int)) (b := 0) rfl rfl) ?_; refine mv rfl ?_; refine part_n (t := 53) rfl (fun h53 => ?_) (fun h53 => ?_)
      · (first | (have h53n := of_decide_eq_true h53) | (have h53n := of_decide_eq_false (bnt h53)) | (have h53n := bnt h53) | (have h53n := h53)); refine st_g _ rfl rfl rfl h53 (r_move rfl) ?_; refine st_g _ rfl rfl rfl h53 (r_move rfl) ?_; refine st_g _ rfl rfl rfl h53 (r_addI (a := ((x13_1 : Nat) : Int)) (b := (((x11_0 : Nat) : Int) - ((x12_0 : Nat) : Int))) rfl rfl (by omega)) ?_; refine st_g _ rfl rfl rfl h53 (r_move rfl) ?_; refine st_g _ rfl rfl rfl h53 (r_nil rfl) ?_; refine st_g _ rfl rfl rfl h53 (r_field rfl off80_0) ?_; refine st_g _ rfl rfl rfl h53 ((r_loadBlk rfl one3 h0 rfl).to (b := (.int .i64 (f.room : Int))) rfl) ?_; have q14 : (-9223372036854775808 ≤ f.room ∧ f.room < 9223372036854775808) := a0_0.1; refine st_g _ rfl rfl rfl h53 (r_gt (a := ((x13_1 : Nat) : Int) + (((x11_0 : Nat) : Int) - ((x12_0 : Nat) : Int))) (b := f.room) rfl rfl) ?_; refine st _ (r_pick_t rfl h53 rfl) ?_; refine nt ?_; refine c_if rfl (fun h62 => ?_) (fun h62 => ?_)
        · (first | (have h62n := of_decide_eq_true h62) | (have h62n := of_decide_eq_false (bnt h62)) | (have h62n := bnt h62) | (have h62n := h62)); refine ns ?_; refine asg rfl ?_; refine nt ?_; refine c_ret ?_; refine r_then ?_; exact ret1L (v := (.int .i64 ((15 : Nat) : Int))) trivial rfl ⟨rfl, trivial⟩ ⟨15, f, _, _, Q8, rfl, M, ⟨sQ0, tQ, uQ⟩, (by first | assumption | omega | simp_all), h0, n_h0, a0_0, a0_1, a0_2, hN, ⟨0, write_15 fnd2 fw (by omega) hF13 (by rw [hF11, hF12]; omega) (by rw [hF11, hF12]; omega)⟩⟩
        · (first | (have h62n := of_decide_eq_false h62) | (have h62n := of_decide_eq_true (bnf h62)) | (have h62n := bnf h62) | (have h62n := h62)); refine c_skip ?_; refine c_then ?_; refine c_seq ?_; refine ns ?_; refine mv rfl ?_; refine st_call fn45 rfl (fBurn_any uQ f h0 n_h0 a0_0 (a0_1.reP (fun _ _ => trivial)) (a0_2.reP (fun _ _ => trivial))) ?_; rintro en w15 ⟨x15_0, m15_0, mv15_0_0, mv15_0_1, Q16, rfl, hm, ⟨sQ, sT, uQ2⟩, q15_0, mh15_0, mn15_0, mq15_0_0, mf15_0_1, mf15_0_2, hF15⟩; refine ⟨_, rfl, ?_⟩; have hP : ∀ i ∈ (b0 :: (vblock v0_0).toList ++ ((vblock v0_1).toList)), Fsh (b0 :: (vblock v0_0).toList ++ ((vblock v0_1).toList ++ (ndB f.nodes))) w i := (all_cons p_h0 (all_app (all_row (fun x hx => (a0_1.2 x hx).1)) (all_row (fun x hx => (a0_2.2 x hx).1)))); have hS : ∀ i ∈ (b0 :: (vblock v0_0).toList ++ ((vblock v0_1).toList)), ¬ Q8 i := (all_cons n_h0 (all_app (all_row (fun x hx => (a0_1.2 x hx).2)) (all_row (fun x hx => (a0_2.2 x hx).2)))); have np_hN := (hN.apF h0 a0_1 a0_2 (by decide) (by decide) (by decide) (by decide) (by decide) (by decide)); have np_oh4_0 : ob4_0 ∉ (b0 :: (vblock v0_0).toList ++ ((vblock v0_1).toList)) := (nin_cons (by omega) (nin_app (apart_ow a0_1 oh4_0 (by decide)) (apart_ow a0_2 oh4_0 (by decide)))); replace mf15_0_1 := mf15_0_1.reP (fun x hx => (mf15_0_1.2 x hx).1); replace mf15_0_1 := mf15_0_1.reP (fun x hx => (mf15_0_1.2 x hx).1.elim (hP x) (Fsh.new M x)); replace mf15_0_2 := mf15_0_2.reP (fun x hx => (mf15_0_2.2 x hx).1); replace mf15_0_2 := mf15_0_2.reP (fun x hx => (mf15_0_2.2 x hx).1.elim (hP x) (Fsh.new M x)); replace h3 := h3.sub sQ; replace hN := hN.sub sQ sT; replace of4_0_1 := of4_0_1.sub sQ; replace n_oh4_0 := fun hh => n_oh4_0 (sT _ hh); replace mf6_0_0 := mf6_0_0.sub sQ; replace mf6_0_1 := mf6_0_1.sub sQ; replace tQ := fun b hb => tQ b (sT b hb); replace sQ0 := fun b hb hl => sQ b (sQ0 b hb hl) (Nat.lt_of_lt_of_le hl M.size); replace hS := fun i hi hq => hS i hi (sT i hq); replace h3 := h3.md hm hS; replace hN := hN.md hm np_hN hS; replace of4_0_1 := of4_0_1.md hm hS; replace oh4_0 := oh4_0.md hm np_oh4_0; clear np_oh4_0; replace mf6_0_0 := mf6_0_0.md hm hS; replace mf6_0_1 := mf6_0_1.md hm hS; replace M := M.step hm hP; clear uQ; have uQ := uQ2; clear uQ2 sQ sT; clear hP hS h0 n_h0; have h0 := mh15_0; have n_h0 := mn15_0; clear mh15_0 mn15_0; clear a0_2; clear a0_1; have be := burn_eq hF15; replace hN : Nds 90 125 (Fsh (b0 :: (vblock v0_0).toList ++ ((vblock v0_1).toList ++ (ndB f.nodes))) w) w15 Q16 m15_0.nodes := (by rw [be.1]; exact hN)
          replace mnd2 : nd2 ∈ m15_0.nodes := (by rw [be.1]; exact mnd2); refine asg rfl ?_; refine nt ?_; refine ns ?_; refine mv rfl ?_; refine st _ (r_neN (a := x15_0) (b := 0) rfl rfl) ?_; refine nt ?_; refine c_if rfl (fun h66 => ?_) (fun h66 => ?_)
          · (first | (have h66n := of_decide_eq_true h66) | (have h66n := of_decide_eq_false (bnt h66)) | (have h66n := bnt h66) | (have h66n := h66)); refine ns ?_; refine mv rfl ?_; refine asg rfl ?_; refine nt ?_; refine c_ret ?_; refine r_then ?_; exact ret1L (v := (.int .i64 ((x15_0 : Nat) : Int))) trivial rfl ⟨rfl, trivial⟩ ⟨x15_0, m15_0, _, _, Q16, rfl, M, ⟨sQ0, tQ, uQ⟩, (by first | assumption | omega | simp_all), h0, n_h0, mq15_0_0, mf15_0_1, mf15_0_2, hN, ⟨0, write_b fnd2 fw (by omega) hF13 (by rw [hF11, hF12]; omega) hF15 (by omega)⟩⟩
          · (first | (have h66n := of_decide_eq_false h66) | (have h66n := of_decide_eq_true (bnf h66)) | (have h66n := bnf h66) | (have h66n := h66)); refine c_skip ?_; refine c_then ?_; refine ns ?_; refine mv rfl ?_; refine mv rfl ?_; refine st _ (r_nil rfl) ?_; refine st _ (r_field rfl off90_2) ?_; refine st_store rfl rfl one87 rfl (hN.get mnd2).1 (Nat.le_of_ble_eq_true rfl) ?_; intro w17 hm hb; have hNo := hN; clear hN; have hNb := (hNo.get mnd2).1; have hnj := (show ob4_0 ∉ ndB m15_0.nodes from fun hm => by rw [be.1] at hm; have := lt0 _ hm; omega); have hS : ∀ b ∈ [nd2.id], ¬ Q16 b := (by intro b hb; rw [List.mem_singleton] at hb; subst hb; exact (hNo.get mnd2).2.2); replace h0 := h0.md hm (by rw [List.mem_singleton]; exact blk_ne_ty h0 hNb (by decide)); replace h3 := h3.md hm hS; replace of4_0_1 := of4_0_1.md hm hS; replace oh4_0 := oh4_0.md hm (by rw [List.mem_singleton]; exact blk_ne_ty oh4_0 hNb (by decide)); replace mf6_0_0 := mf6_0_0.md hm hS; replace mf6_0_1 := mf6_0_1.md hm hS; replace mf15_0_1 := mf15_0_1.md hm (fun b hb => by rw [List.mem_singleton]; exact mf15_0_1.blk_ne hNb (by decide) b hb) hS; replace mf15_0_2 := mf15_0_2.md hm (fun b hb => by rw [List.mem_singleton]; exact mf15_0_2.blk_ne hNb (by decide) b hb) hS; replace uQ := uQ.md hm; replace M := M.step hm (all_cons (hNo.all _ mnd2).2.2.2.2.1 all_nil); clear hS; have hN9 := hNo.setFile (j := ob4_0) mnd2 (by decide) hm (show Blk _ _ (SNo.cells { nd2.no with fid := ob4_0 }) _ from hb) oh4_0 mf6_0_0 mf6_0_1 n_oh4_0 (Fsh.wid p_oh4_0) hnj; clear hNo hNb hb hnj; clear oh4_0 n_oh4_0; obtain ⟨s18, es18⟩ : ∃ y, y = ({ m15_0 with nodes := updN m15_0.nodes nd2.id (fun z => { z with no := { z.no with fid := ob4_0 }, fl := m6_0 }) } : SFs) := ⟨_, rfl⟩; replace h0 : Blk w17 b0 (SFs.cells s18 mv15_0_0 mv15_0_1) 80 := (by rw [es18]; exact h0); have oks18 : SFs.ok s18 := (by rw [es18]; exact mq15_0_0); replace mf15_0_1 := ow_ids mf15_0_1 (show s18.nodes.map (·.id) = m15_0.nodes.map (·.id) from by rw [es18]; exact updN_ids (fun _ => rfl)); rw [show m15_0.pend = s18.pend by rw [es18]] at mf15_0_2; have hN : Nds 90 125 (Fsh (b0 :: (vblock v0_0).toList ++ ((vblock v0_1).toList ++ (ndB f.nodes))) w) w17 Q16 s18.nodes := (by rw [es18]; exact hN9); clear hN9; refine nt ?_; refine ns ?_; refine asg rfl ?_; refine nt ?_; refine c_ret ?_; exact ret1L (v := (.int .i64 ((0 : Nat) : Int))) trivial rfl ⟨rfl, trivial⟩ ⟨0, s18, _, _, Q16, rfl, M, ⟨sQ0, tQ, uQ⟩, (by first | assumption | omega | simp_all), h0, n_h0, oks18, mf15_0_1, mf15_0_2, hN, ⟨ob4_0, (by rw [write_0 fnd2 fw (by omega) hF13 (by rw [hF11, hF12]; omega) hF15 (by omega)]; rw [es18, be.1])⟩⟩
      · (first | (have h53n := of_decide_eq_false h53) | (have h53n := of_decide_eq_true (bnf h53)) | (have h53n := bnf h53) | (have h53n := h53)); refine st_skip rfl rfl rfl h53 ?_; refine st_skip rfl rfl rfl h53 ?_; refine st_skip rfl rfl rfl h53 ?_; refine st_skip rfl rfl rfl h53 ?_; refine st_skip rfl rfl rfl h53 ?_; refine st_skip rfl rfl rfl h53 ?_; refine st_skip rfl rfl rfl h53 ?_; refine st_skip rfl rfl rfl h53 ?_; refine st _ (r_pick_f rfl h53 rfl) ?_; refine nt ?_; refine c_if_f rfl rfl ?_; refine c_skip ?_; refine c_then ?_; refine c_seq ?_; refine ns ?_; refine mv rfl ?_; refine st_call fn45 rfl (fBurn_any uQ f h0 n_h0 a0_0 (a0_1.reP (fun _ _ => trivial)) (a0_2.reP (fun _ _ => trivial))) ?_; rintro en w19 ⟨x19_0, m19_0, mv19_0_0, mv19_0_1, Q20, rfl, hm, ⟨sQ, sT, uQ2⟩, q19_0, mh19_0, mn19_0, mq19_0_0, mf19_0_1, mf19_0_2, hF19⟩; refine ⟨_, rfl, ?_⟩; have hP : ∀ i ∈ (b0 :: (vblock v0_0).toList ++ ((vblock v0_1).toList)), Fsh (b0 :: (vblock v0_0).toList ++ ((vblock v0_1).toList ++ (ndB f.nodes))) w i := (all_cons p_h0 (all_app (all_row (fun x hx => (a0_1.2 x hx).1)) (all_row (fun x hx => (a0_2.2 x hx).1)))); have hS : ∀ i ∈ (b0 :: (vblock v0_0).toList ++ ((vblock v0_1).toList)), ¬ Q8 i := (all_cons n_h0 (all_app (all_row (fun x hx => (a0_1.2 x hx).2)) (all_row (fun x hx => (a0_2.2 x hx).2)))); have np_hN := (hN.apF h0 a0_1 a0_2 (by decide) (by decide) (by decide) (by decide) (by decide) (by decide)); have np_oh4_0 : ob4_0 ∉ (b0 :: (vblock v0_0).toList ++ ((vblock v0_1).toList)) := (nin_cons (by omega) (nin_app (apart_ow a0_1 oh4_0 (by decide)) (apart_ow a0_2 oh4_0 (by decide)))); replace mf19_0_1 := mf19_0_1.reP (fun x hx => (mf19_0_1.2 x hx).1); replace mf19_0_1 := mf19_0_1.reP (fun x hx => (mf19_0_1.2 x hx).1.elim (hP x) (Fsh.new M x)); replace mf19_0_2 := mf19_0_2.reP (fun x hx => (mf19_0_2.2 x hx).1); replace mf19_0_2 := mf19_0_2.reP (fun x hx => (mf19_0_2.2 x hx).1.elim (hP x) (Fsh.new M x)); replace h3 := h3.sub sQ; replace hN := hN.sub sQ sT; replace of4_0_1 := of4_0_1.sub sQ; replace n_oh4_0 := fun hh => n_oh4_0 (sT _ hh); replace mf6_0_0 := mf6_0_0.sub sQ; replace mf6_0_1 := mf6_0_1.sub sQ; replace tQ := fun b hb => tQ b (sT b hb); replace sQ0 := fun b hb hl => sQ b (sQ0 b hb hl) (Nat.lt_of_lt_of_le hl M.size); replace hS := fun i hi hq => hS i hi (sT i hq); replace h3 := h3.md hm hS; replace hN := hN.md hm np_hN hS; replace of4_0_1 := of4_0_1.md hm hS; replace oh4_0 := oh4_0.md hm np_oh4_0; clear np_oh4_0
        replace mf6_0_0 := mf6_0_0.md hm hS; replace mf6_0_1 := mf6_0_1.md hm hS; replace M := M.step hm hP; clear uQ; have uQ := uQ2; clear uQ2 sQ sT; clear hP hS h0 n_h0; have h0 := mh19_0; have n_h0 := mn19_0; clear mh19_0 mn19_0; clear a0_2; clear a0_1; have be := burn_eq hF19; replace hN : Nds 90 125 (Fsh (b0 :: (vblock v0_0).toList ++ ((vblock v0_1).toList ++ (ndB f.nodes))) w) w19 Q20 m19_0.nodes := (by rw [be.1]; exact hN); replace mnd2 : nd2 ∈ m19_0.nodes := (by rw [be.1]; exact mnd2); refine asg rfl ?_; refine nt ?_; refine ns ?_; refine mv rfl ?_; refine st _ (r_neN (a := x19_0) (b := 0) rfl rfl) ?_; refine nt ?_; refine c_if rfl (fun h66 => ?_) (fun h66 => ?_)
        · (first | (have h66n := of_decide_eq_true h66) | (have h66n := of_decide_eq_false (bnt h66)) | (have h66n := bnt h66) | (have h66n := h66)); refine ns ?_; refine mv rfl ?_; refine asg rfl ?_; refine nt ?_; refine c_ret ?_; refine r_then ?_; exact ret1L (v := (.int .i64 ((x19_0 : Nat) : Int))) trivial rfl ⟨rfl, trivial⟩ ⟨x19_0, m19_0, _, _, Q20, rfl, M, ⟨sQ0, tQ, uQ⟩, (by first | assumption | omega | simp_all), h0, n_h0, mq19_0_0, mf19_0_1, mf19_0_2, hN, ⟨0, write_b fnd2 fw (by omega) hF13 (by rw [hF11, hF12]; omega) hF19 (by omega)⟩⟩
        · (first | (have h66n := of_decide_eq_false h66) | (have h66n := of_decide_eq_true (bnf h66)) | (have h66n := bnf h66) | (have h66n := h66)); refine c_skip ?_; refine c_then ?_; refine ns ?_; refine mv rfl ?_; refine mv rfl ?_; refine st _ (r_nil rfl) ?_; refine st _ (r_field rfl off90_2) ?_; refine st_store rfl rfl one87 rfl (hN.get mnd2).1 (Nat.le_of_ble_eq_true rfl) ?_; intro w21 hm hb; have hNo := hN; clear hN; have hNb := (hNo.get mnd2).1; have hnj := (show ob4_0 ∉ ndB m19_0.nodes from fun hm => by rw [be.1] at hm; have := lt0 _ hm; omega); have hS : ∀ b ∈ [nd2.id], ¬ Q20 b := (by intro b hb; rw [List.mem_singleton] at hb; subst hb; exact (hNo.get mnd2).2.2); replace h0 := h0.md hm (by rw [List.mem_singleton]; exact blk_ne_ty h0 hNb (by decide)); replace h3 := h3.md hm hS; replace of4_0_1 := of4_0_1.md hm hS; replace oh4_0 := oh4_0.md hm (by rw [List.mem_singleton]; exact blk_ne_ty oh4_0 hNb (by decide)); replace mf6_0_0 := mf6_0_0.md hm hS; replace mf6_0_1 := mf6_0_1.md hm hS; replace mf19_0_1 := mf19_0_1.md hm (fun b hb => by rw [List.mem_singleton]; exact mf19_0_1.blk_ne hNb (by decide) b hb) hS; replace mf19_0_2 := mf19_0_2.md hm (fun b hb => by rw [List.mem_singleton]; exact mf19_0_2.blk_ne hNb (by decide) b hb) hS; replace uQ := uQ.md hm; replace M := M.step hm (all_cons (hNo.all _ mnd2).2.2.2.2.1 all_nil); clear hS; have hN9 := hNo.setFile (j := ob4_0) mnd2 (by decide) hm (show Blk _ _ (SNo.cells { nd2.no with fid := ob4_0 }) _ from hb) oh4_0 mf6_0_0 mf6_0_1 n_oh4_0 (Fsh.wid p_oh4_0) hnj; clear hNo hNb hb hnj; clear oh4_0 n_oh4_0; obtain ⟨s22, es22⟩ : ∃ y, y = ({ m19_0 with nodes := updN m19_0.nodes nd2.id (fun z => { z with no := { z.no with fid := ob4_0 }, fl := m6_0 }) } : SFs) := ⟨_, rfl⟩; replace h0 : Blk w21 b0 (SFs.cells s22 mv19_0_0 mv19_0_1) 80 := (by rw [es22]; exact h0); have oks22 : SFs.ok s22 := (by rw [es22]; exact mq19_0_0); replace mf19_0_1 := ow_ids mf19_0_1 (show s22.nodes.map (·.id) = m19_0.nodes.map (·.id) from by rw [es22]; exact updN_ids (fun _ => rfl)); rw [show m19_0.pend = s22.pend by rw [es22]] at mf19_0_2; have hN : Nds 90 125 (Fsh (b0 :: (vblock v0_0).toList ++ ((vblock v0_1).toList ++ (ndB f.nodes))) w) w21 Q20 s22.nodes := (by rw [es22]; exact hN9); clear hN9; refine nt ?_; refine ns ?_; refine asg rfl ?_; refine nt ?_; refine c_ret ?_; exact ret1L (v := (.int .i64 ((0 : Nat) : Int))) trivial rfl ⟨rfl, trivial⟩ ⟨0, s22, _, _, Q20, rfl, M, ⟨sQ0, tQ, uQ⟩, (by first | assumption | omega | simp_all), h0, n_h0, oks22, mf19_0_1, mf19_0_2, hN, ⟨ob4_0, (by rw [write_0 fnd2 fw (by omega) hF13 (by rw [hF11, hF12]; omega) hF19 (by omega)]; rw [es22, be.1])⟩⟩
end Go.Proofs.Ytcaokfendkkafaa
namespace Go.Wk
open Go Go.RowKit
section
variable {P : Program} {n : Nat} {A : Fr n} {D : List Deferred} {l : List (Nat × Value)} {w : World} {d : Option Tmp} {ty : TypeId} {ps : String} {af : Array Edge} {g : Option (Nat × Bool)}
end
section
variable {P : Program} {n : Nat} {A : Fr n} {D : List Deferred} {l : List (Nat × Value)} {w : World} {d : Option Tmp} {ty : TypeId} {ps : String} {af : Array Edge} {g : Option (Nat × Bool)}
end
section
variable {P : Program} {n : Nat} {A : Fr n} {D : List Deferred} {l : List (Nat × Value)} {w : World} {d : Option Tmp} {ty : TypeId} {ps : String} {af : Array Edge} {g : Option (Nat × Bool)}
theorem r_neqBool {x y : Operand} {t u : TypeId} {a b : Bool} (hT : P.underlying t = some .bool) (hx : ev n l x = some (.bool a)) (hy : ev n l y = some (.bool b)) :
    RunV P ⟨d, .binOp .neq t x y u, ty, ps, af, g⟩ (over A D l).eval w (.bool (a != b)) := by
  have h1 : (binOp .neq t (.bool a) (.bool b)).run P w = .ok (.bool (a != b)) w := by
    simp only [binOp, Op.equal, Op.maxDepth, Sem.run_bind, run_equalIn_bool' w 9999 t a b hT, Result.andThen_ok, Sem.run_pure]
    rfl
  have hg : (eqGuard .neq t x y (.bool a) (.bool b)).run P w = .ok () w := by unfold eqGuard; simp
  simp [RunV, execOp, ev_eval hx, ev_eval hy, hg, h1]
end
section
variable {P : Program} {ops : Array Oper} {Q : Exit → Act → World → Prop} {rest : List Oper}
variable {n : Nat} {A : Fr n} {D : List Deferred} {l : List (Nat × Value)} {w : World}
variable {d : Tmp} {ty : TypeId} {ps : String} {af : Array Edge}
/-- An operation that is asked for: as one that none asks of. -/
theorem st_ung {d' : Option Tmp} {op : Op} {j t : Nat} {o : Oper} {b want : Bool} (ho : ops[j]? = some o) (ht : o.dst = some t) (hy : ev n l (.tmp t) = some (.bool b)) (hb : b = want)
    (h : wpList P ops Q (⟨d', op, ty, ps, af, none⟩ :: rest) (over A D l) w) : wpList P ops Q (⟨d', op, ty, ps, af, some (j, want)⟩ :: rest) (over A D l) w := by
  unfold wpList at h ⊢
  rw [if_pos (by simp [Region.wanted])] at h
  rw [if_pos (by simp [Region.wanted, yielded_of ho ht hy, hb])]
  exact h
end
theorem Ow.castL {α : Type} {T : Dt α} {e : TypeId} {lo : Nat → Prop} {w : World} {Q : Nat → Prop} {v : Value} {xs ys : List α} (h : Ow T e lo w Q v xs) (k : xs = ys) : Ow T e lo w Q v ys := k ▸ h
end Go.Wk
namespace Go.Proofs.Ytcaokfendkkafaa
open Go Go.Wk Go.RowKit
set_option linter.unusedVariables false
set_option linter.unusedSimpArgs false
attribute [local irreducible] wpList wpQuiet wpStill wpMix Code.wp Calls bodyPost

def syncR (f : SFs) (s : List UInt8) : Nat × SFs :=
  if (getF f.off f.nodes s).2 ≠ 0 then ((getF f.off f.nodes s).2, f) else match findN f.nodes s with
  | none => (0, f)
  | some x => if (burnF f).1 ≠ 0 then burnF f else (0, { (burnF f).2 with nodes := updN f.nodes x.id fun z => { z with fl := { b := x.fl.b, safe := x.fl.b } } })
def settleF (f : SFs) : SFs := { f with nodes := f.nodes.filter (·.no.there), pend := [] }
def syncDirR (f : SFs) : Nat × SFs := if f.off = true then (18, f) else if (burnF f).1 ≠ 0 then burnF f else (0, settleF (burnF f).2)
section
variable {f m : SFs} {s t : List UInt8} {c e : Nat} {o : Option Nat} {x y : SNd}
theorem sync_c (h : getF f.off f.nodes s = (o, c)) (hc : c ≠ 0) : syncR f s = (c, f) := by unfold syncR; rw [h]; rw [if_pos hc]
theorem sync_b (h : mayF f.off [s] = 0 ∧ findN f.nodes s = some x) (hb : burnF f = (c, m)) (hc : c ≠ 0) : syncR f s = (c, m) := by
  unfold syncR; rw [getF_0 h, h.2, hb]; simp only [ne_eq, not_true_eq_false, if_false]; rw [if_pos hc]
theorem sync_0 (h : mayF f.off [s] = 0 ∧ findN f.nodes s = some x) (hb : burnF f = (c, m)) (hc : c = 0) : syncR f s = (0, { m with nodes := updN f.nodes x.id fun z => { z with fl := { b := x.fl.b, safe := x.fl.b } } }) := by
  subst hc; unfold syncR; rw [getF_0 h, h.2, hb]; simp only [ne_eq, not_true_eq_false, if_false]
theorem syncDir_off (h : mayF f.off [] = c) (hc : c ≠ 0) : syncDirR f = (c, f) := by
  subst h; unfold mayF at hc ⊢; unfold syncDirR; by_cases ho : f.off = true
  · rw [if_pos ho, if_pos ho]
  · rw [if_neg ho] at hc; simp at hc
theorem syncDir_b (h : mayF f.off [] = c) (hc : c = 0) (hb : burnF f = (e, m)) (he : e ≠ 0) : syncDirR f = (e, m) := by
  subst h; unfold mayF at hc; unfold syncDirR; by_cases ho : f.off = true
  · rw [if_pos ho] at hc; cases hc
  · rw [if_neg ho, hb]; rw [if_pos he]
theorem syncDir_0 (h : mayF f.off [] = c) (hc : c = 0) (hb : burnF f = (e, m)) (he : e = 0) : syncDirR f = (0, settleF m) := by
  subst h; unfold mayF at hc; unfold syncDirR; by_cases ho : f.off = true
  · rw [if_pos ho] at hc; cases hc
  · rw [if_neg ho, hb]; rw [if_neg (by simpa using he)]
end

end Go.Proofs.Ytcaokfendkkafaa
namespace Go.Proofs.Ytcaokfendkkafaa
open Go Go.Wk Go.RowKit
set_option linter.unusedVariables false
set_option linter.unusedSimpArgs false
attribute [local irreducible] wpList wpQuiet wpStill wpMix Code.wp Calls bodyPost

theorem fSync_any {w : World} {Q : Nat → Prop} (uQ : Up w Q) {b0 : Nat} {v0_0 : Value} {v0_1 : Value} (f : SFs) (h0 : Blk w b0 (SFs.cells f v0_0 v0_1) 80) (n0 : ¬ Q b0) (a0_0 : SFs.ok f) (a0_1 : Ow tNd 82 (fun _ => True) w Q v0_0 f.nodes) (a0_2 : Ow tSCh 92 (fun _ => True) w Q v0_1 f.pend) (hN0 : Nds 90 125 (fun _ => True) w Q f.nodes) (s : List UInt8) (p0 : s.length ≤ 1000000) (p1 : True) (p2 : f.nodes.length ≤ 1000000) (p3 : f.pend.length ≤ 1000000) (p4 : ∀ x ∈ f.nodes, x.fl.b.length ≤ 1000000) :
    Calls Try.prog 24 #[.pointer (some ⟨b0, 0, none⟩), (str s)] w fun en w' => ∃ r0 : Nat, ∃ m0 : SFs, ∃ u50_0 : Value, ∃ u50_1 : Value, ∃ Q' : Nat → Prop, en = .returned (.int .i64 ((r0 : Nat) : Int)) ∧ Md (b0 :: (vblock v0_0).toList ++ ((vblock v0_1).toList ++ (ndB f.nodes))) w w' ∧ NewQ w w' Q Q' ∧ r0 < 9223372036854775808 ∧ Blk w' b0 (SFs.cells m0 u50_0 u50_1) 80 ∧ ¬ Q' b0 ∧ SFs.ok m0 ∧ Ow tNd 82 (Fsh (b0 :: (vblock v0_0).toList ++ ((vblock v0_1).toList ++ (ndB f.nodes))) w) w' Q' u50_0 m0.nodes ∧ Ow tSCh 92 (Fsh (b0 :: (vblock v0_0).toList ++ ((vblock v0_1).toList ++ (ndB f.nodes))) w) w' Q' u50_1 m0.pend ∧ Nds 90 125 (Fsh (b0 :: (vblock v0_0).toList ++ ((vblock v0_1).toList ++ (ndB f.nodes))) w) w' Q' m0.nodes ∧ syncR f s = (r0, m0) := by
  have n_h0 := n0; have p_h0 : Fsh (b0 :: (vblock v0_0).toList ++ ((vblock v0_1).toList ++ (ndB f.nodes))) w b0 := .inl (by simp); replace a0_1 := a0_1.reP (lo' := Fsh (b0 :: (vblock v0_0).toList ++ ((vblock v0_1).toList ++ (ndB f.nodes))) w) (fun b hb => .inl (by simp [hb])); replace a0_2 := a0_2.reP (lo' := Fsh (b0 :: (vblock v0_0).toList ++ ((vblock v0_1).toList ++ (ndB f.nodes))) w) (fun b hb => .inl (by simp [hb])); have hN := hN0.reB (lo' := Fsh (b0 :: (vblock v0_0).toList ++ ((vblock v0_1).toList ++ (ndB f.nodes))) w) (fun b hb => .inl (by simp [hb])); clear hN0; have M := Md.refl (b0 :: (vblock v0_0).toList ++ ((vblock v0_1).toList ++ (ndB f.nodes))) w; have uQ0 := uQ; have tQ : ∀ b, Q b → Q b := fun _ h => h; have sQ0 : ∀ b, Q b → b < w.heap.size → Q b := fun _ h _ => h; refine enter (n := 25) Try.func24 rfl rfl rfl ?_; intro B; refine ns ?_; have lt0 := hN.ltB; refine asg rfl ?_; refine nt ?_; refine ns ?_; refine mv rfl ?_; refine mv rfl ?_; refine st_call fn47 rfl (fGet_any uQ f h0 n_h0 a0_0 (a0_1.reP (fun _ _ => trivial)) (a0_2.reP (fun _ _ => trivial)) s (by exact hN.reP (fun _ _ => trivial)) (by omega)) ?_; rintro en w1 ⟨x1_0, x1_1, rfl, hm, q1_1, hF1⟩; refine ⟨_, rfl, ?_⟩; replace a0_1 := a0_1.md0 hm; replace a0_2 := a0_2.md0 hm; replace h0 := h0.md0 hm; replace hN := hN.md0 hm; replace uQ := uQ.md hm; replace M := M.step0 hm; refine mv rfl ?_; refine st _ (r_extract rfl rfl) ?_; refine st _ (r_extract rfl rfl) ?_; refine asg rfl ?_; refine asg rfl ?_; refine nt ?_; refine c_seq ?_; refine ns ?_; refine mv rfl ?_; refine st _ (r_eqN (a := x1_1) (b := 0) rfl rfl) ?_; refine nt ?_; refine c_if rfl (fun h14 => ?_) (fun h14 => ?_)
  · (first | (have h14n := of_decide_eq_true h14) | (have h14n := of_decide_eq_false (bnt h14)) | (have h14n := bnt h14) | (have h14n := h14)); refine c_region ?_; obtain ⟨nd2, mnd2, qnd2, fnd2⟩ := getF_some hF1 (by omega); subst qnd2; have bl := p4 _ mnd2; refine mv rfl ?_; refine st_call fn45 rfl (fBurn_any uQ f h0 n_h0 a0_0 (a0_1.reP (fun _ _ => trivial)) (a0_2.reP (fun _ _ => trivial))) ?_; rintro en w3 ⟨x3_0, m3_0, mv3_0_0, mv3_0_1, Q4, rfl, hm, ⟨sQ, sT, uQ2⟩, q3_0, mh3_0, mn3_0, mq3_0_0, mf3_0_1, mf3_0_2, hF3⟩; refine ⟨_, rfl, ?_⟩; have hP : ∀ i ∈ (b0 :: (vblock v0_0).toList ++ ((vblock v0_1).toList)), Fsh (b0 :: (vblock v0_0).toList ++ ((vblock v0_1).toList ++ (ndB f.nodes))) w i := (all_cons p_h0 (all_app (all_row (fun x hx => (a0_1.2 x hx).1)) (all_row (fun x hx => (a0_2.2 x hx).1)))); have hS : ∀ i ∈ (b0 :: (vblock v0_0).toList ++ ((vblock v0_1).toList)), ¬ Q i := (all_cons n_h0 (all_app (all_row (fun x hx => (a0_1.2 x hx).2)) (all_row (fun x hx => (a0_2.2 x hx).2)))); have np_hN := (hN.apF h0 a0_1 a0_2 (by decide) (by decide) (by decide) (by decide) (by decide) (by decide)); replace mf3_0_1 := mf3_0_1.reP (fun x hx => (mf3_0_1.2 x hx).1); replace mf3_0_1 := mf3_0_1.reP (fun x hx => (mf3_0_1.2 x hx).1.elim (hP x) (Fsh.new M x)); replace mf3_0_2 := mf3_0_2.reP (fun x hx => (mf3_0_2.2 x hx).1); replace mf3_0_2 := mf3_0_2.reP (fun x hx => (mf3_0_2.2 x hx).1.elim (hP x) (Fsh.new M x)); replace hN := hN.sub sQ sT; replace tQ := fun b hb => tQ b (sT b hb); replace sQ0 := fun b hb hl => sQ b (sQ0 b hb hl) (Nat.lt_of_lt_of_le hl M.size); replace hS := fun i hi hq => hS i hi (sT i hq); replace hN := hN.md hm np_hN hS; replace M := M.step hm hP; clear uQ; have uQ := uQ2; clear uQ2 sQ sT; clear hP hS h0 n_h0; have h0 := mh3_0; have n_h0 := mn3_0; clear mh3_0 mn3_0; clear a0_2; clear a0_1; have be := burn_eq hF3; replace hN : Nds 90 125 (Fsh (b0 :: (vblock v0_0).toList ++ ((vblock v0_1).toList ++ (ndB f.nodes))) w) w3 Q4 m3_0.nodes := (by rw [be.1]; exact hN); replace mnd2 : nd2 ∈ m3_0.nodes := (by rw [be.1]; exact mnd2); refine asg rfl ?_; refine nt ?_; refine c_seq ?_; refine ns ?_; refine mv rfl ?_; refine st _ (r_neN (a := x3_0) (b := 0) rfl rfl) ?_; refine nt ?_; refine c_if rfl (fun h18 => ?_) (fun h18 => ?_)
    · (first | (have h18n := of_decide_eq_true h18) | (have h18n := of_decide_eq_false (bnt h18)) | (have h18n := bnt h18) | (have h18n := h18)); refine ns ?_; refine mv rfl ?_; refine asg rfl ?_; refine nt ?_; refine c_ret ?_; refine r_then ?_; exact ret1L (v := (.int .i64 ((x3_0 : Nat) : Int))) trivial rfl ⟨rfl, trivial⟩ ⟨x3_0, m3_0, _, _, Q4, rfl, M, ⟨sQ0, tQ, uQ⟩, (by first | assumption | omega | simp_all), h0, n_h0, mq3_0_0, mf3_0_1, mf3_0_2, hN, (sync_b fnd2 hF3 (by omega))⟩
    · (first | (have h18n := of_decide_eq_false h18) | (have h18n := of_decide_eq_true (bnf h18)) | (have h18n := bnf h18) | (have h18n := h18)); refine c_skip ?_; refine c_then ?_; refine ns ?_; refine mv rfl ?_; refine st _ (r_nil rfl) ?_; refine st _ (r_field rfl off90_2) ?_; obtain ⟨fv5, fw5, hf5, n_hf5, fb5, fs5⟩ := hN.file mnd2; refine st _ ((r_loadBlk rfl one87 (hN.get mnd2).1 rfl).to (b := (.pointer (some ⟨nd2.no.fid, 0, none⟩))) rfl) ?_; refine st_call fn57 rfl (sSync_any uQ nd2.fl hf5 n_hf5 fb5 fs5 (by omega)) ?_; rintro en w6 ⟨m6, u6, z6, rfl, hm, hb, _, hl0, hl1, hF6⟩; refine ⟨_, rfl, ?_⟩; subst hF6; have hNo := hN; clear hN; have hNb := hf5; have nq9 := n_hf5; clear hf5 n_hf5 fb5 fs5; have hS : ∀ b ∈ [nd2.no.fid], ¬ Q4 b := (by intro b hb; rw [List.mem_singleton] at hb; subst hb; exact nq9); replace h0 := h0.md hm (by rw [List.mem_singleton]; exact blk_ne_ty h0 hNb (by decide)); replace mf3_0_1 := mf3_0_1.md hm (fun b hb => by rw [List.mem_singleton]; exact mf3_0_1.blk_ne hNb (by decide) b hb) hS; replace mf3_0_2 := mf3_0_2.md hm (fun b hb => by rw [List.mem_singleton]; exact mf3_0_2.blk_ne hNb (by decide) b hb) hS; replace uQ := uQ.md hm; replace M := M.step hm (all_cons (hNo.all _ mnd2).2.2.2.2.2 all_nil); clear hS; have hN9 := hNo.setFl mnd2 (by decide) hm hb hl0 hl1; clear hNo hNb hb nq9 hl0 hl1; obtain ⟨s7, es7⟩ : ∃ y, y = ({ m3_0 with nodes := updN m3_0.nodes nd2.id (fun z => { z with fl := { b := nd2.fl.b, safe := nd2.fl.b } }) } : SFs) := ⟨_, rfl⟩; replace h0 : Blk w6 b0 (SFs.cells s7 mv3_0_0 mv3_0_1) 80 := (by rw [es7]; exact h0); have oks7 : SFs.ok s7 := (by rw [es7]; exact mq3_0_0); replace mf3_0_1 := ow_ids mf3_0_1 (show s7.nodes.map (·.id) = m3_0.nodes.map (·.id) from by rw [es7]; exact updN_ids (fun _ => rfl)); rw [show m3_0.pend = s7.pend by rw [es7]] at mf3_0_2; have hN : Nds 90 125 (Fsh (b0 :: (vblock v0_0).toList ++ ((vblock v0_1).toList ++ (ndB f.nodes))) w) w6 Q4 s7.nodes := (by rw [es7]; exact hN9); clear hN9; refine nt ?_; refine ns ?_; refine asg rfl ?_; refine nt ?_; refine c_ret ?_; exact ret1L (v := (.int .i64 ((0 : Nat) : Int))) trivial rfl ⟨rfl, trivial⟩ ⟨0, s7, _, _, Q4, rfl, M, ⟨sQ0, tQ, uQ⟩, (by first | assumption | omega | simp_all), h0, n_h0, oks7, mf3_0_1, mf3_0_2, hN, (by rw [sync_0 fnd2 hF3 (by omega)]; rw [es7, be.1])⟩
  · (first | (have h14n := of_decide_eq_false h14) | (have h14n := of_decide_eq_true (bnf h14)) | (have h14n := bnf h14) | (have h14n := h14)); refine c_skip ?_; refine c_then ?_; refine c_seq ?_; refine ns ?_; refine mv rfl ?_; refine st _ (r_neN (a := x1_1) (b := 0) rfl rfl) ?_; refine nt ?_; refine c_if rfl (fun h18 => ?_) (fun h18 => ?_)
    · (first | (have h18n := of_decide_eq_true h18) | (have h18n := of_decide_eq_false (bnt h18)) | (have h18n := bnt h18) | (have h18n := h18)); refine ns ?_; refine mv rfl ?_; refine asg rfl ?_; refine nt ?_; refine c_ret ?_; refine r_then ?_; exact ret1L (v := (.int .i64 ((x1_1 : Nat) : Int))) trivial rfl ⟨rfl, trivial⟩ ⟨x1_1, f, _, _, Q, rfl, M, ⟨sQ0, tQ, uQ⟩, (by first | assumption | omega | simp_all), h0, n_h0, a0_0, a0_1, a0_2, hN, (sync_c hF1 (by omega))⟩
    · (first | (have h18n := of_decide_eq_false h18) | (have h18n := of_decide_eq_true (bnf h18)) | (have h18n := bnf h18) | (have h18n := h18)); exfalso; omega
end Go.Proofs.Ytcaokfendkkafaa
namespace Go.Wk
open Go Go.RowKit
section
variable {P : Program} {ops : Array Oper} {Q : Exit → Act → World → Prop} {rest : List Oper}
variable {n : Nat} {A : Fr n} {D : List Deferred} {l : List (Nat × Value)} {w : World}
variable {d : Tmp} {op : Op} {ty : TypeId} {ps : String} {af : Array Edge} {g : Option (Nat × Bool)}
/-- A call of a function value that is bound to some values. -/
theorem st_callV {f : FuncId} {c : Operand} {xs : List Operand} {ts : Array TypeId} {vs cs : List Value} {R : Ending → World → Prop} (hc : ev n l c = some (.func (.func f) #[] cs.toArray)) (hf : isFn P f = true) (ha : evs n l xs = some vs) (hr : Calls P f (vs ++ cs).toArray w R)
    (k : ∀ e w', R e w' → ∃ v, e = .returned v ∧ wpList P ops Q rest (over A D ((d, v) :: l)) w') :
    wpList P ops Q (⟨some d, .call { callee := .value c, args := xs.toArray, argTypes := ts }, ty, ps, af, none⟩ :: rest) (over A D l) w := by
  refine wl_plain rfl ?_
  unfold Oper.wp
  have he := evs_eval (A := A) (D := D) ha
  have h0 : (execOp (over A D l).eval ⟨some d, .call { callee := .value c, args := xs.toArray, argTypes := ts }, ty, ps, af, none⟩).run P w = .ok (.enter f (vs ++ cs).toArray) w := by
    simp only [execOp, resolve, ev_eval hc, Deferred.ofValue, List.map_toArray, he]
    simp [invoke, run_callFunc hf]
  rw [h0]
  refine hr.mono fun e w' hR => ?_
  obtain ⟨v, rfl, hk⟩ := k e w' hR
  exact hk
end

/-! ### The head's bytes -/
end Go.Wk
namespace Go.Proofs.Ytcaokfendkkafaa
open Go Go.Wk Go.RowKit
set_option linter.unusedVariables false
set_option linter.unusedSimpArgs false
attribute [local irreducible] wpList wpQuiet wpStill wpMix Code.wp Calls bodyPost
theorem fn84 : isFn Try.prog 84 = true := by kernel_rfl

def NdB (nd : TypeId) (w : World) (l : List SNd) : Prop := ∀ x ∈ l, Blk w x.id x.no.cells nd
theorem NdB.get {nd : TypeId} {w : World} {l : List SNd} {x : SNd} (h : NdB nd w l) (hx : x ∈ l) : Blk w x.id x.no.cells nd ∧ True := ⟨h x hx, trivial⟩
theorem NdB.md0 {nd : TypeId} {w w' : World} {l : List SNd} (h : NdB nd w l) (m : Md [] w w') : NdB nd w' l := fun x hx => (h x hx).md0 m
theorem Nds.ndb {nd fd : TypeId} {lo Q : Nat → Prop} {w : World} {l : List SNd} (h : Nds nd fd lo w Q l) : NdB nd w l := fun x hx => (h.get hx).1
/-- The first node that is not there. -/
def idxD : List SNd → Nat → Int
  | [], _ => -1
  | x :: r, i => if x.no.there = true then idxD r (i + 1) else ((i : Nat) : Int)
theorem idxD_end {i : Nat} {l : List SNd} (h : ¬ i < l.length) : idxD (l.drop i) i = -1 := by rw [List.drop_of_length_le (by omega)]; rfl
theorem idxD_yes {i : Nat} {x : SNd} {l : List SNd} (h : l[i]? = some x) (hv : ¬ x.no.there = true) : idxD (l.drop i) i = ((i : Nat) : Int) := by rw [findN_get h, idxD, if_neg hv]
theorem idxD_no {i : Nat} {x : SNd} {l : List SNd} (h : l[i]? = some x) (hv : x.no.there = true) : idxD (l.drop i) i = idxD (l.drop (i + 1)) (i + 1) := by rw [findN_get h, idxD, if_pos hv]
theorem idxD_spec : ∀ (l : List SNd) (k : Nat) (z : Int), idxD l k = z → (z = -1 ∧ l.filter (·.no.there) = l) ∨ ∃ i, z = ((k + i : Nat) : Int) ∧ i < l.length ∧ l.take i ++ (l.drop (i + 1)).filter (·.no.there) = l.filter (·.no.there)
  | [], k, z, h => .inl ⟨h.symm, rfl⟩
  | x :: r, k, z, h => by
    rw [idxD] at h; by_cases hx : x.no.there = true
    · rw [if_pos hx] at h
      rcases idxD_spec r (k + 1) z h with ⟨h1, h2⟩ | ⟨i, h1, h2, h3⟩
      · exact .inl ⟨h1, by rw [List.filter_cons, if_pos hx, h2]⟩
      · refine .inr ⟨i + 1, by rw [h1]; congr 1; omega, by simpa using h2, ?_⟩
        rw [List.filter_cons, if_pos hx, List.take_succ_cons, List.drop_succ_cons, List.cons_append, h3]
    · rw [if_neg hx] at h
      refine .inr ⟨0, by rw [← h]; rfl, by simp, ?_⟩; rw [List.filter_cons, if_neg hx]; simp
def ptr (x : SNd) : Value := .pointer (some ⟨x.id, 0, none⟩)
/-- A row of nodes in a block. -/
def RwP (e : TypeId) (w : World) (b cap : Nat) (xs : List SNd) : Prop := ∃ cur, Blk w b cur e ∧ cur.length = cap ∧ xs.length ≤ cap ∧ cur.take xs.length = xs.map ptr
section
variable {e : TypeId} {w w' : World} {b cap : Nat} {xs : List SNd}
theorem RwP.md {S : List Nat} (h : RwP e w b cap xs) (m : Md S w w') (hs : b ∉ S) : RwP e w' b cap xs := by
  obtain ⟨cur, h1, h2⟩ := h; exact ⟨cur, h1.md m hs, h2⟩
theorem RwP.md0 (h : RwP e w b cap xs) (m : Md [] w w') : RwP e w' b cap xs := h.md m (by simp)
theorem RwP.at_ {i n c : Nat} {x : SNd} (h : RwP e w b cap xs) (hi : xs[i]? = some x) : At w (.slice (some ⟨b, 0, none⟩) n c) (i * 1) [ptr x] := by
  obtain ⟨cur, h1, h2, h3, h4⟩ := h; refine ⟨⟨b, 0, none⟩, n, c, rfl, fun j u hu => ?_⟩; have hil := (List.getElem?_eq_some_iff.1 hi).1
  cases j with
  | succ j => simp at hu
  | zero =>
    simp at hu; subst hu; rw [Addr.add_mk, h1.cell]; have : (xs.map ptr)[i]? = some (ptr x) := (by rw [List.getElem?_map, hi]; rfl); rw [← h4, List.getElem?_take, if_pos hil] at this; simpa using this
theorem RwP.into (h : RwP e w b cap xs) {i : Nat} {z : SNd} (hi : i < xs.length) : ∃ cur, Blk w b cur e ∧ i < cur.length ∧ ∀ w', Blk w' b (cur.set i (ptr z)) e → RwP e w' b cap (xs.set i z) := by
  obtain ⟨cur, h1, h2, h3, h4⟩ := h; refine ⟨cur, h1, by omega, fun w' hb => ⟨_, hb, by simpa using h2, by simpa using h3, ?_⟩⟩; rw [List.length_set, List.take_set, h4, List.map_set]
theorem RwP.clear (h : RwP e w b cap xs) {i : Nat} (hi : i ≤ xs.length) : ∃ cur, Blk w b cur e ∧ i + (xs.length - i) * 1 ≤ cur.length ∧ ∀ w' us, us.length = (xs.length - i) * 1 → Blk w' b (splice cur i us) e → RwP e w' b cap (xs.take i) := by
  obtain ⟨cur, h1, h2, h3, h4⟩ := h; refine ⟨cur, h1, by omega, fun w' us hu hb => ⟨_, hb, ?_, ?_, ?_⟩⟩
  · rw [splice_len (by rw [hu]; omega), h2]
  · rw [List.length_take]; omega
  · unfold splice
    have l1 : (cur.take i).length = i := (by rw [List.length_take]; omega); rw [List.length_take, Nat.min_eq_left hi, List.append_assoc, List.take_append_of_le_length (by omega), List.take_of_length_le (by omega), List.map_take, ← h4, List.take_take, Nat.min_eq_left hi]
theorem Ow.rwp {lo Q : Nat → Prop} {v : Value} (h : Ow tNd e lo w Q v xs) (h0 : 0 < xs.length) : ∃ b cap, v = .slice (some ⟨b, 0, none⟩) xs.length cap ∧ cap ≤ maxLen ∧ RwP e w b cap xs ∧ lo b ∧ ¬ Q b := by
  obtain ⟨⟨cx, h9, h10⟩, h11⟩ := h; obtain ⟨b, cap, cur, rfl, hB, h1, h2, h3, h4⟩ := h9.blk h0; obtain ⟨rfl, _⟩ := els_one_eq h10; have hn : tNd.n = 1 := rfl; rw [hn] at h3 h4; exact ⟨b, cap, rfl, h2, ⟨cur, hB, by omega, h1, by rw [← Nat.mul_one xs.length, h4]; rfl⟩, (h11 b rfl).1, (h11 b rfl).2⟩
theorem RwP.ow {lo Q : Nat → Prop} (h : RwP e w b cap xs) (hc : cap ≤ maxLen) (hl : lo b) (hq : ¬ Q b) : Ow tNd e lo w Q (.slice (some ⟨b, 0, none⟩) xs.length cap) xs := by
  obtain ⟨cur, h1, h2, h3, h4⟩ := h; refine ⟨⟨xs.map ptr, ?_, els_one fun _ _ => trivial⟩, fun b' hb => by simp [vblock] at hb; subst hb; exact ⟨hl, hq⟩⟩; have := Own.of_blk (sz := 1) (m := xs.length) h1 h3 hc (by omega); rw [Nat.mul_one, h4] at this; exact this
end
theorem take_set_succP {l : List SNd} {j : Nat} {s : SNd} (h : j < l.length) : (l.set j s).take (j + 1) = l.take j ++ [s] := by
  rw [List.take_add_one, List.getElem?_set_self h, List.take_set_of_le (Nat.le_refl _)]; rfl
theorem subz1_tail {b n cap i : Nat} (h : i < cap) : subz 1 (.slice (some ⟨b, 0, none⟩) n cap) i n = .slice (some ⟨b, i, none⟩) (n - i) (cap - i) := by
  simp only [subz, Nat.mul_one]; rw [if_neg (by omega)]; simp [Addr.add_mk]
theorem subz1_head {b n cap j : Nat} (h : 0 < cap) : subz 1 (.slice (some ⟨b, 0, none⟩) n cap) 0 j = .slice (some ⟨b, 0, none⟩) j cap := by
  simp only [subz]; rw [if_neg (by omega)]; simp [Addr.add_mk]

theorem fGone_any {w : World} {Q : Nat → Prop} (uQ : Up w Q) (x : SNd) (p0 : Blk w x.id x.no.cells 90) :
    Calls Try.prog 84 #[(.pointer (some ⟨x.id, 0, none⟩))] w fun en w' => ∃ r0 : Bool, en = .returned (.bool r0) ∧ Md [] w w' ∧ (!x.no.there) = r0 := by
  have hN : NdB 90 w [x] := fun y hy => by rw [List.mem_singleton] at hy; subst hy; exact p0
  have M := Md.refl [] w; have uQ0 := uQ; have tQ : ∀ b, Q b → Q b := fun _ h => h; have sQ0 : ∀ b, Q b → b < w.heap.size → Q b := fun _ h _ => h; refine enter (n := 8) Try.func84 rfl rfl rfl ?_; intro B; refine ns ?_; refine asg rfl ?_; refine nt ?_; refine ns ?_; refine mv rfl ?_; refine st _ (r_nil rfl) ?_; refine st _ (r_field rfl off90_1) ?_; refine st _ ((r_loadBlk rfl one4 (hN.get (List.mem_singleton.2 rfl)).1 rfl).to (b := (.bool x.no.there)) rfl) ?_; refine st _ (r_not rfl) ?_; refine asg rfl ?_; refine nt ?_; refine c_ret ?_; exact ret1L (v := (.bool (!x.no.there))) trivial rfl ⟨rfl, trivial⟩ ⟨!x.no.there, rfl, M, rfl⟩
theorem fIdxF_any {w : World} {Q : Nat → Prop} (uQ : Up w Q) {v0 : Value} {l : List SNd} (h0 : Ls tNd w Q v0 l) (p0 : NdB 90 w l) :
    Calls Try.prog 101 #[v0, .func (.func 84) #[] #[]] w fun en w' => ∃ r0 : Int, en = .returned (.int .i64 (r0 : Int)) ∧ Md [] w w' ∧ (-9223372036854775808 ≤ r0 ∧ r0 < 9223372036854775808) ∧ idxD l 0 = r0 := by
  have L0 := h0.len63; have hN := p0; have M := Md.refl [] w; have uQ0 := uQ; have tQ : ∀ b, Q b → Q b := fun _ h => h; have sQ0 : ∀ b, Q b → b < w.heap.size → Q b := fun _ h _ => h; refine enter (n := 19) Try.func101 rfl rfl rfl ?_; intro B; refine ns ?_; refine asg rfl ?_; refine nt ?_; refine c_seq ?_; refine ns ?_; refine mv rfl ?_; refine st _ (r_len rfl u77 h0.shp) ?_; refine mv rfl ?_; refine nt ?_; refine c_block ?_; obtain ⟨r0, hr00⟩ : ∃ r, idxD l 0 = r := ⟨_, rfl⟩; have hr0o := hr00
  try simp only [List.nil_append] at hr00
  refine loop1 (fun (i : Nat) => [(8, (.int .i64 ((i : Nat) : Int))), (0, v0), (1, (.func (.func 84) #[] #[])), (7, (.int .i64 ((l.length : Nat) : Int)))]) (fun (i : Nat) w' => ∃ Q' : Nat → Prop, (∀ b, Q' b → Q b) ∧ (∀ b, Q b → b < w.heap.size → Q' b) ∧ Up w' Q' ∧ Md [] w w' ∧ Ls tNd w' Q' v0 l ∧ NdB 90 w' l ∧ i ≤ l.length ∧ idxD (l.drop i) i = r0) (fun (i : Nat) => l.length - i) (x0 := 0) ?_ ?_ ?_
  · exact ⟨rfl, rfl, rfl, rfl, trivial⟩
  · exact ⟨Q, tQ, sQ0, uQ, M, h0, hN, (by omega), (by have hh := hr00; first | exact hh | exact hr0o | (simp only [List.nil_append] at hh; exact hh))⟩
  · clear M uQ tQ sQ0 h0 hN
    rintro i B w1 ⟨Q2, tQ, sQ0, uQ, M, h0, hN, i0_0, hr0⟩; refine ns ?_; refine st _ (r_ltN (a := i) (b := l.length) rfl rfl) ?_; refine nt ?_; refine c_seq ?_; refine c_if rfl (fun h9 => ?_) (fun h9 => ?_)
    · (first | (have h9n := of_decide_eq_true h9) | (have h9n := of_decide_eq_false (bnt h9)) | (have h9n := bnt h9) | (have h9n := h9)); refine c_skip ?_; refine c_then ?_; refine c_seq ?_; refine c_block ?_; refine ns ?_; refine mv rfl ?_; refine asg rfl ?_; refine nt ?_; refine ns ?_; refine mv rfl ?_; refine mv rfl ?_; refine mv rfl ?_; refine st _ (r_indexN (i := i) 1 rfl rfl u77 el82 h0.shp (by omega)) ?_; obtain ⟨x3, hx3⟩ := getE (l := l) (i := i) (by first | omega | (simp <;> omega)); obtain ⟨c4, hr3, ha3⟩ := h0.get hx3; obtain ⟨rfl, _⟩ := hr3; replace ha3 : At _ v0 (i * 1) [(.pointer (some ⟨x3.id, 0, none⟩))] := ha3; refine st _ ((r_loadE (kk := i * 1) 0 rfl rfl one82 ha3 rfl).to (b := (.pointer (some ⟨x3.id, 0, none⟩))) rfl) ?_; refine st_callV (cs := []) rfl fn84 rfl (fGone_any uQ x3 (hN _ (List.mem_of_getElem? hx3))) ?_; rintro en w5 ⟨x5_0, rfl, hm, hF5⟩; refine ⟨_, rfl, ?_⟩; replace h0 := h0.md0 hm; replace hN := hN.md0 hm; replace ha3 := ha3.md0 hm; replace uQ := uQ.md hm; replace M := M.step0 hm; refine st_nil ?_; clear ha3; refine c_then ?_; refine c_if rfl (fun h16 => ?_) (fun h16 => ?_)
      · (first | (have h16n := of_decide_eq_true h16) | (have h16n := of_decide_eq_false (bnt h16)) | (have h16n := bnt h16) | (have h16n := h16)); refine ns ?_; refine mv rfl ?_; refine asg rfl ?_; refine nt ?_; refine c_ret ?_; refine r_block ?_; refine r_then ?_; refine r_then ?_; refine r_block ?_; refine r_then ?_; exact ret1L (v := (.int .i64 (((i : Nat) : Int) : Int))) trivial rfl ⟨rfl, trivial⟩ ⟨((i : Nat) : Int), rfl, M, (by first | assumption | omega | simp_all), (by have e := hr0o.trans (hr0.symm.trans (idxD_yes hx3 (by rw [← hF5] at h16; simpa using h16))); exact e)⟩
      · (first | (have h16n := of_decide_eq_false h16) | (have h16n := of_decide_eq_true (bnf h16)) | (have h16n := bnf h16) | (have h16n := h16)); refine c_skip ?_; refine n_block ?_; refine c_then ?_; refine c_region ?_; refine st _ (r_addN (a := i) (b := 1) 9223372036854775808 rfl rfl rfl (by omega)) ?_; refine mv rfl ?_; refine nt ?_; refine next1 (x0 := (i + 1)) (by omega) ⟨(fitI rfl (by omega)), rfl, rfl, rfl, trivial⟩ ⟨Q2, tQ, sQ0, uQ, M, h0, hN, (by omega), (by have hh := hr0; rw [idxD_no hx3 (by rw [← hF5] at h16; simpa using h16)] at hh; exact hh)⟩
    · (first | (have h9n := of_decide_eq_false h9) | (have h9n := of_decide_eq_true (bnf h9)) | (have h9n := bnf h9) | (have h9n := h9)); refine c_exit ?_; refine x_then ?_; refine x_then ?_; refine x_hit ?_; refine c_then ?_; refine ns ?_; refine asg rfl ?_; refine nt ?_; refine c_ret ?_; exact ret1L (v := (.int .i64 ((-1) : Int))) trivial rfl ⟨rfl, trivial⟩ ⟨(-1), rfl, M, (by first | assumption | omega | simp_all), (by have e := hr0o.trans (hr0.symm.trans (idxD_end (by omega))); exact e)⟩
end Go.Proofs.Ytcaokfendkkafaa
namespace Go.Proofs.Ytcaokfendkkafaa
open Go Go.Wk Go.RowKit
set_option linter.unusedVariables false
set_option linter.unusedSimpArgs false
attribute [local irreducible] wpList wpQuiet wpStill wpMix Code.wp Calls bodyPost
theorem fn101 : isFn Try.prog 101 = true := by kernel_rfl
theorem z82 : zcells Try.prog 82 = some [.pointer none] := by kernel_rfl

theorem fDelete_any {w : World} {Q lo lo2 : Nat → Prop} {v : Value} {l : List SNd} (h0 : Ow tNd 82 lo w Q v l) (hN : Nds 90 125 lo2 w Q l) :
    Calls Try.prog 83 #[v, .func (.func 84) #[] #[]] w fun en w' => ∃ v', en = .returned v' ∧ Md (vblock v).toList w w' ∧ (∀ b, vblock v' = some b → vblock v = some b) ∧ Ow tNd 82 lo w' Q v' (l.filter (·.no.there)) := by
  have L := h0.read.len63; have hb := hN.ndb; have hap : ∀ b, vblock v = some b → ∀ x ∈ l, x.id ≠ b := fun b hb x hx h => hN.ninO h0 (by decide) (by decide) b hb (mem_ndB.2 ⟨x, hx, .inl h⟩); clear hN; have uT : Up w (fun _ => True) := fun _ _ => trivial; refine enter (n := 42) Try.func83 rfl rfl rfl ?_; intro B; refine ns ?_; refine asg rfl ?_; refine nt ?_; refine ns ?_; refine mv rfl ?_; refine mv rfl ?_; refine st_call fn101 rfl (fIdxF_any uT (h0.ls (Q' := fun _ => True) (fun _ _ => trivial) (fun _ _ => trivial)) hb) ?_; rintro en w1 ⟨z, rfl, hm, hz, hF⟩; refine ⟨_, rfl, ?_⟩; replace h0 := h0.md0 hm; replace hb := hb.md0 hm; have M : Md (vblock v).toList w w1 := hm.mono (by simp); clear hm uT; refine asg rfl ?_; refine nt ?_; refine c_seq ?_; refine ns ?_; refine mv rfl ?_; refine st _ (r_eq (a := z) (b := (-1)) rfl rfl) ?_; refine nt ?_; have sp := idxD_spec l 0 z hF; refine c_if rfl (fun h12 => ?_) (fun h12 => ?_)
  · have h12n := of_decide_eq_true h12
    refine ns ?_; refine mv rfl ?_; refine asg rfl ?_; refine nt ?_; refine c_ret ?_; refine r_then ?_; rcases sp with ⟨_, e⟩ | ⟨i, h, _⟩
    · exact ret1 trivial rfl rfl ⟨_, rfl, M, fun b h => h, by rw [e]; exact h0⟩
    · exfalso; omega
  · have h12n := of_decide_eq_false h12
    rcases sp with ⟨h, _⟩ | ⟨i0, hz0, hi0, hI0⟩
    · exact absurd h h12n
    rw [Nat.zero_add] at hz0; subst hz0; obtain ⟨b, cap, rfl, hc, hR, hlo, hQ⟩ := Ow.rwp h0 (by omega); clear h0 hF h12 h12n hz; replace hap := hap b rfl; have hcap : l.length ≤ cap := (by obtain ⟨_, _, _, h, _⟩ := hR; exact h); have hS : Shp (.slice (some ⟨b, 0, none⟩) l.length cap) l.length := ⟨_, _, rfl, hcap, hc, by simp⟩; replace M : Md [b] w w1 := M; refine c_skip ?_; refine c_then ?_; refine c_seq ?_; refine ns ?_; refine mv rfl ?_; refine st _ (r_addN (a := i0) (b := 1) 9223372036854775808 rfl rfl rfl (by omega)) ?_; refine asg rfl ?_; refine nt ?_; refine c_block ?_
    refine loop3 (fun (ys : List SNd) (i : Nat) (j : Nat) => [(5, (.int .i64 ((i : Nat) : Int))), (6, (.int .i64 ((j : Nat) : Int))), (0, .slice (some ⟨b, 0, none⟩) l.length cap), (1, .func (.func 84) #[] #[])])
      (fun (ys : List SNd) (i : Nat) (j : Nat) w' => Md [b] w w' ∧ NdB 90 w' l ∧ RwP 82 w' b cap ys ∧ ys.length = l.length ∧ i < j ∧ j ≤ l.length ∧ (∀ q, j ≤ q → ys[q]? = l[q]?) ∧ ys.take i ++ (l.drop j).filter (·.no.there) = l.filter (·.no.there))
      (fun (ys : List SNd) (i : Nat) (j : Nat) => l.length - j) (x0 := l) (x1 := i0) (x2 := i0 + 1) ?_ ?_ ?_
    · exact ⟨rfl, rfl, rfl, rfl, trivial⟩
    · exact ⟨M, hb, hR, rfl, by omega, by omega, fun _ _ => rfl, hI0⟩
    · clear M hb hR hI0
      rintro ys i j B w2 ⟨M, hb, hR, hl, hij, hj, hq, hI⟩; refine c_seq ?_; refine ns ?_; refine mv rfl ?_; refine mv rfl ?_; refine st _ (r_len rfl u77 hS) ?_; refine st _ (r_ltN (a := j) (b := l.length) rfl rfl) ?_; refine nt ?_; refine c_if rfl (fun h19 => ?_) (fun h19 => ?_)
      · have h19n := of_decide_eq_true h19
        obtain ⟨x, hx⟩ := getE (l := l) (i := j) h19n; have hx' : ys[j]? = some x := (hq j (Nat.le_refl _)).trans hx; have hxm := List.mem_of_getElem? hx; rw [findN_get hx, List.filter_cons] at hI; refine c_skip ?_; refine c_then ?_; refine c_seq ?_; refine c_block ?_; refine ns ?_; refine mv rfl ?_; refine mv rfl ?_; refine st _ (r_indexN (i := j) 1 rfl rfl u77 el82 hS (by omega)) ?_; refine st _ ((r_loadE (kk := j * 1) 0 rfl rfl one82 (hR.at_ hx') rfl).to (b := ptr x) rfl) ?_; refine asg rfl ?_; refine nt ?_; refine ns ?_; refine mv rfl ?_; refine mv rfl ?_; refine st_callV (cs := []) rfl fn84 rfl (fGone_any (w := w2) (Q := fun _ => True) (fun _ _ => trivial) x (hb x hxm)) ?_; rintro en w3 ⟨g, rfl, hm, hg⟩; refine ⟨_, rfl, ?_⟩; replace M := M.step0 hm; replace hb := hb.md0 hm; replace hR := hR.md0 hm; clear hm; refine st _ (r_not rfl) ?_; refine nt ?_; refine c_if rfl (fun h29 => ?_) (fun h29 => ?_)
        · have hth : x.no.there = true := by rw [← hg] at h29; simpa using h29
          rw [if_pos hth] at hI; refine ns ?_; refine mv rfl ?_; refine mv rfl ?_; refine mv rfl ?_; refine st _ ((r_indexN (i := i) 1 rfl rfl u77 el82 hS (by omega)).to (b := .pointer (some ⟨b, i, none⟩)) (by simp [elemp, Addr.add_mk])) ?_; obtain ⟨cur, hB, hcl, hset⟩ := hR.into (i := i) (z := x) (by omega); refine st_store (b := b) (j := i) rfl rfl one82 rfl hB hcl ?_; intro w4 hm hB2; replace hR := hset _ hB2; replace hb : NdB 90 w4 l := fun y hy => (hb y hy).md hm (by rw [List.mem_singleton]; exact hap y hy); replace M := M.step1' hm (by simp); clear hm hB hB2 hset; refine nt ?_; refine c_region ?_; refine mv rfl ?_; refine st _ (r_addN (a := i) (b := 1) 9223372036854775808 rfl rfl rfl (by omega)) ?_; refine asg rfl ?_; refine st_nil ?_; refine n_block ?_; refine c_then ?_; refine c_region ?_; refine mv rfl ?_; refine st _ (r_addN (a := j) (b := 1) 9223372036854775808 rfl rfl rfl (by omega)) ?_; refine asg rfl ?_; refine nt ?_; refine next3 (x0 := ys.set i x) (x1 := i + 1) (x2 := j + 1) (by omega) ⟨(fitI rfl (by omega)), (fitI rfl (by omega)), rfl, rfl, trivial⟩ ⟨M, hb, hR, by simpa using hl, by omega, by omega, fun q hq2 => by rw [List.getElem?_set_ne (by omega)]; exact hq q (by omega), ?_⟩; rw [take_set_succP (by omega), List.append_assoc]; exact hI
        · have hth : ¬ x.no.there = true := by rw [← hg] at h29; simpa using h29
          rw [if_neg hth] at hI; refine c_skip ?_; refine n_block ?_; refine c_then ?_; refine c_region ?_; refine mv rfl ?_; refine st _ (r_addN (a := j) (b := 1) 9223372036854775808 rfl rfl rfl (by omega)) ?_; refine asg rfl ?_; refine nt ?_; exact next3 (x0 := ys) (x1 := i) (x2 := j + 1) (by omega) ⟨rfl, (fitI rfl (by omega)), rfl, rfl, trivial⟩ ⟨M, hb, hR, hl, by omega, by omega, fun q hq2 => hq q (by omega), hI⟩
      · have h19n := of_decide_eq_false h19
        rw [List.drop_of_length_le (by omega), List.filter_nil, List.append_nil] at hI; refine c_exit ?_; refine x_then ?_; refine x_then ?_; refine x_hit ?_; refine c_then ?_; refine ns ?_; refine mv rfl ?_; refine mv rfl ?_; refine st _ (RunV.to (b := .slice (some ⟨b, i, none⟩) (l.length - i) (cap - i)) (by exact r_sliceZ 1 i l.length u77 el82 rfl hS (by omega) (by omega) ⟨_, rfl⟩ rfl) (subz1_tail (by omega))) ?_; obtain ⟨cur, hB, hcl, hset⟩ := hR.clear (i := i) (by omega); rw [hl] at hcl hset; refine st_clear (o := i) (m := l.length - i) u77 z82 (by intro u hu; simp at hu; subst hu; rfl) rfl (by omega) hB hcl ?_; intro w6 us hm hus hB2; replace hR := hset _ us hus hB2; rw [hI] at hR; replace M := M.step1' hm (by simp); refine nt ?_; refine ns ?_; refine mv rfl ?_; refine mv rfl ?_; refine st _ (RunV.to (b := .slice (some ⟨b, 0, none⟩) i cap) (by exact r_sliceZ 1 0 i u77 el82 rfl hS (by omega) (by omega) rfl ⟨_, rfl⟩) (subz1_head (by omega))) ?_; refine asg rfl ?_; refine nt ?_; refine c_ret ?_
        repeat (first | refine r_then ?_ | refine r_block ?_)
        have hjl : i = (l.filter (·.no.there)).length := (by rw [← hI, List.length_take]; omega); refine ret1 trivial rfl rfl ⟨_, rfl, M, fun b' h => by simpa [vblock] using h, ?_⟩; rw [hjl]; exact hR.ow hc hlo hQ

end Go.Proofs.Ytcaokfendkkafaa
namespace Go.Proofs.Ytcaokfendkkafaa
open Go Go.Wk Go.RowKit
set_option linter.unusedVariables false
set_option linter.unusedSimpArgs false
attribute [local irreducible] wpList wpQuiet wpStill wpMix Code.wp Calls bodyPost
theorem fn46 : isFn Try.prog 46 = true := by kernel_rfl
theorem fn83 : isFn Try.prog 83 = true := by kernel_rfl

theorem fSettle_any {w : World} {Q : Nat → Prop} (uQ : Up w Q) {b0 : Nat} {v0_0 : Value} {v0_1 : Value} (f : SFs) (h0 : Blk w b0 (SFs.cells f v0_0 v0_1) 80) (n0 : ¬ Q b0) (a0_0 : SFs.ok f) (a0_1 : Ow tNd 82 (fun _ => True) w Q v0_0 f.nodes) (a0_2 : Ow tSCh 92 (fun _ => True) w Q v0_1 f.pend) (hN0 : Nds 90 125 (fun _ => True) w Q f.nodes) :
    Calls Try.prog 46 #[.pointer (some ⟨b0, 0, none⟩)] w fun en w' => ∃ m0 : SFs, ∃ u50_0 : Value, ∃ u50_1 : Value, ∃ Q' : Nat → Prop, en = .returned (.tuple #[]) ∧ Md (b0 :: (vblock v0_0).toList ++ ((vblock v0_1).toList ++ (ndB f.nodes))) w w' ∧ NewQ w w' Q Q' ∧ Blk w' b0 (SFs.cells m0 u50_0 u50_1) 80 ∧ ¬ Q' b0 ∧ SFs.ok m0 ∧ Ow tNd 82 (Fsh (b0 :: (vblock v0_0).toList ++ ((vblock v0_1).toList ++ (ndB f.nodes))) w) w' Q' u50_0 m0.nodes ∧ Ow tSCh 92 (Fsh (b0 :: (vblock v0_0).toList ++ ((vblock v0_1).toList ++ (ndB f.nodes))) w) w' Q' u50_1 m0.pend ∧ Nds 90 125 (Fsh (b0 :: (vblock v0_0).toList ++ ((vblock v0_1).toList ++ (ndB f.nodes))) w) w' Q' m0.nodes ∧ settleF f = m0 := by
  have n_h0 := n0; have p_h0 : Fsh (b0 :: (vblock v0_0).toList ++ ((vblock v0_1).toList ++ (ndB f.nodes))) w b0 := .inl (by simp); replace a0_1 := a0_1.reP (lo' := Fsh (b0 :: (vblock v0_0).toList ++ ((vblock v0_1).toList ++ (ndB f.nodes))) w) (fun b hb => .inl (by simp [hb])); replace a0_2 := a0_2.reP (lo' := Fsh (b0 :: (vblock v0_0).toList ++ ((vblock v0_1).toList ++ (ndB f.nodes))) w) (fun b hb => .inl (by simp [hb])); have hN := hN0.reB (lo' := Fsh (b0 :: (vblock v0_0).toList ++ ((vblock v0_1).toList ++ (ndB f.nodes))) w) (fun b hb => .inl (by simp [hb])); clear hN0; have M := Md.refl (b0 :: (vblock v0_0).toList ++ ((vblock v0_1).toList ++ (ndB f.nodes))) w; have uQ0 := uQ; have tQ : ∀ b, Q b → Q b := fun _ h => h; have sQ0 : ∀ b, Q b → b < w.heap.size → Q b := fun _ h _ => h; refine enter (n := 13) Try.func46 rfl rfl rfl ?_; intro B; refine ns ?_; refine mv rfl ?_; refine st _ (r_nil rfl) ?_; refine st _ (r_field rfl off80_4) ?_; refine st_store rfl rfl one78 rfl h0 (Nat.le_of_ble_eq_true rfl) ?_; have h00 := h0; clear h0; intro w1 hm h0; have hS : ∀ b ∈ [b0], ¬ Q b := (by intro b hb; simp at hb; subst hb; exact n_h0); replace a0_1 := a0_1.md hm (apart_bo h00 a0_1 (by decide)) hS; replace a0_2 := a0_2.md hm (apart_bo h00 a0_2 (by decide)) hS; replace hN := hN.md hm (hN.ap1 h00 (by decide) (by decide)) hS; replace uQ := uQ.md hm; replace M := M.step hm (all_cons p_h0 all_nil); clear h00 hS; obtain ⟨s2, es2⟩ : ∃ y, y = ({ f with pend := [] } : SFs) := ⟨_, rfl⟩; replace h0 : Blk _ _ (SFs.cells ({ f with pend := [] }) v0_0 (.slice none 0 0)) _ := h0; rw [← es2] at h0; have oks2 : SFs.ok s2 := (by rw [es2]; exact ⟨a0_0.1, a0_0.2⟩); replace hN : Nds 90 125 (Fsh (b0 :: (vblock v0_0).toList ++ ((vblock v0_1).toList ++ (ndB f.nodes))) w) w1 Q s2.nodes := (by rw [es2]; exact hN); replace a0_1 := a0_1.castL (show f.nodes = s2.nodes by rw [es2]); refine nt ?_; refine c_region ?_; refine mv rfl ?_; refine mv rfl ?_; refine st _ (r_nil rfl) ?_; refine st _ (r_field rfl off80_3) ?_; refine st _ ((r_loadBlk rfl one77 h0 rfl).to (b := v0_0) rfl) ?_; have hS : ∀ b ∈ (vblock v0_0).toList, ¬ Q b := fun b hb => (a0_1.2 b (by simpa using hb)).2; refine st_call fn83 rfl (fDelete_any a0_1 hN) ?_; rintro en w3 ⟨v4, rfl, hm, hv2, a0_12⟩; refine ⟨_, rfl, ?_⟩; have a0_10 := a0_1; clear a0_1; have a0_1 := a0_12; clear a0_12; replace a0_2 := a0_2.md hm (apart_oo a0_10 a0_2 (by decide)) hS; replace hN := hN.md hm (hN.apO a0_10 (by decide) (by decide)) hS
  replace h0 := h0.md hm (apart_ow a0_10 h0 (by decide)); replace uQ := uQ.md hm; replace M := M.stepO hm (fun b hb => (a0_10.2 b hb).1); clear a0_10 hS; have hO5 := a0_1; clear a0_1; refine st _ (r_nil rfl) ?_; refine st _ (r_field rfl off80_3) ?_; refine st_store rfl rfl one77 hO5.oneCell h0 (Nat.le_of_ble_eq_true rfl) ?_; have h00 := h0; clear h0; intro w6 hm h0; have hS : ∀ b ∈ [b0], ¬ Q b := (by intro b hb; simp at hb; subst hb; exact n_h0); replace a0_2 := a0_2.md hm (apart_bo h00 a0_2 (by decide)) hS; replace hN := hN.md hm (hN.ap1 h00 (by decide) (by decide)) hS; replace hO5 := hO5.md hm (apart_bo h00 hO5 (by decide)) hS; replace uQ := uQ.md hm; replace M := M.step hm (all_cons p_h0 all_nil); clear h00 hS; obtain ⟨s7, es7⟩ : ∃ y, y = ({ s2 with nodes := (s2.nodes.filter (·.no.there)) } : SFs) := ⟨_, rfl⟩; replace h0 : Blk _ _ (SFs.cells ({ s2 with nodes := (s2.nodes.filter (·.no.there)) }) v4 (.slice none 0 0)) _ := h0; rw [← es7] at h0; have oks7 : SFs.ok s7 := (by rw [es7]; exact ⟨oks2.1, oks2.2⟩); rw [show (s2.nodes.filter (·.no.there)) = s7.nodes by rw [es7]] at hO5; refine st_nil ?_; replace hN : Nds 90 125 (Fsh (b0 :: (vblock v0_0).toList ++ ((vblock v0_1).toList ++ (ndB f.nodes))) w) w6 Q s7.nodes := (by rw [es7]; exact hN.filter _); exact retL (vs := []) trivial rfl trivial rfl ⟨s7, _, _, Q, rfl, M, ⟨sQ0, tQ, uQ⟩, h0, n_h0, oks7, hO5, (by first | exact Ow.nil _ _ _ _ _ | (simp only [es2, es7]; exact Ow.nil _ _ _ _ _)), hN, (by rw [es7]; show settleF f = ({ s2 with nodes := _ } : SFs); rw [es2]; rfl)⟩
theorem fSyncDir_any {w : World} {Q : Nat → Prop} (uQ : Up w Q) {b0 : Nat} {v0_0 : Value} {v0_1 : Value} (f : SFs) (h0 : Blk w b0 (SFs.cells f v0_0 v0_1) 80) (n0 : ¬ Q b0) (a0_0 : SFs.ok f) (a0_1 : Ow tNd 82 (fun _ => True) w Q v0_0 f.nodes) (a0_2 : Ow tSCh 92 (fun _ => True) w Q v0_1 f.pend) (hN0 : Nds 90 125 (fun _ => True) w Q f.nodes) :
    Calls Try.prog 15 #[.pointer (some ⟨b0, 0, none⟩)] w fun en w' => ∃ r0 : Nat, ∃ m0 : SFs, ∃ u50_0 : Value, ∃ u50_1 : Value, ∃ Q' : Nat → Prop, en = .returned (.int .i64 ((r0 : Nat) : Int)) ∧ Md (b0 :: (vblock v0_0).toList ++ ((vblock v0_1).toList ++ (ndB f.nodes))) w w' ∧ NewQ w w' Q Q' ∧ r0 < 9223372036854775808 ∧ Blk w' b0 (SFs.cells m0 u50_0 u50_1) 80 ∧ ¬ Q' b0 ∧ SFs.ok m0 ∧ Ow tNd 82 (Fsh (b0 :: (vblock v0_0).toList ++ ((vblock v0_1).toList ++ (ndB f.nodes))) w) w' Q' u50_0 m0.nodes ∧ Ow tSCh 92 (Fsh (b0 :: (vblock v0_0).toList ++ ((vblock v0_1).toList ++ (ndB f.nodes))) w) w' Q' u50_1 m0.pend ∧ Nds 90 125 (Fsh (b0 :: (vblock v0_0).toList ++ ((vblock v0_1).toList ++ (ndB f.nodes))) w) w' Q' m0.nodes ∧ syncDirR f = (r0, m0) := by
  have n_h0 := n0; have p_h0 : Fsh (b0 :: (vblock v0_0).toList ++ ((vblock v0_1).toList ++ (ndB f.nodes))) w b0 := .inl (by simp); replace a0_1 := a0_1.reP (lo' := Fsh (b0 :: (vblock v0_0).toList ++ ((vblock v0_1).toList ++ (ndB f.nodes))) w) (fun b hb => .inl (by simp [hb])); replace a0_2 := a0_2.reP (lo' := Fsh (b0 :: (vblock v0_0).toList ++ ((vblock v0_1).toList ++ (ndB f.nodes))) w) (fun b hb => .inl (by simp [hb])); have hN := hN0.reB (lo' := Fsh (b0 :: (vblock v0_0).toList ++ ((vblock v0_1).toList ++ (ndB f.nodes))) w) (fun b hb => .inl (by simp [hb])); clear hN0; have M := Md.refl (b0 :: (vblock v0_0).toList ++ ((vblock v0_1).toList ++ (ndB f.nodes))) w; have uQ0 := uQ; have tQ : ∀ b, Q b → Q b := fun _ h => h; have sQ0 : ∀ b, Q b → b < w.heap.size → Q b := fun _ h _ => h; refine enter (n := 15) Try.func15 rfl rfl rfl ?_; intro B; refine ns ?_; refine asg rfl ?_; refine nt ?_; refine ns ?_; refine mv rfl ?_; refine st_call fn44 rfl (fMay_any uQ f h0 n_h0 a0_0 (a0_1.reP (fun _ _ => trivial)) (a0_2.reP (fun _ _ => trivial)) (Ls.nil tStr _ _) (by intro q hq; cases hq)) ?_; rintro en w1 ⟨x1_0, rfl, hm, q1_0, hF1⟩; refine ⟨_, rfl, ?_⟩; replace a0_1 := a0_1.md0 hm; replace a0_2 := a0_2.md0 hm; replace h0 := h0.md0 hm; replace hN := hN.md0 hm; replace uQ := uQ.md hm; replace M := M.step0 hm; refine asg rfl ?_; refine nt ?_; refine c_seq ?_; refine ns ?_; refine mv rfl ?_; refine st _ (r_eqN (a := x1_0) (b := 0) rfl rfl) ?_; refine nt ?_; refine c_if rfl (fun h7 => ?_) (fun h7 => ?_)
  · (first | (have h7n := of_decide_eq_true h7) | (have h7n := of_decide_eq_false (bnt h7)) | (have h7n := bnt h7) | (have h7n := h7)); refine c_region ?_; refine mv rfl ?_; refine st_call fn45 rfl (fBurn_any uQ f h0 n_h0 a0_0 (a0_1.reP (fun _ _ => trivial)) (a0_2.reP (fun _ _ => trivial))) ?_; rintro en w2 ⟨x2_0, m2_0, mv2_0_0, mv2_0_1, Q3, rfl, hm, ⟨sQ, sT, uQ2⟩, q2_0, mh2_0, mn2_0, mq2_0_0, mf2_0_1, mf2_0_2, hF2⟩; refine ⟨_, rfl, ?_⟩; have hP : ∀ i ∈ (b0 :: (vblock v0_0).toList ++ ((vblock v0_1).toList)), Fsh (b0 :: (vblock v0_0).toList ++ ((vblock v0_1).toList ++ (ndB f.nodes))) w i := (all_cons p_h0 (all_app (all_row (fun x hx => (a0_1.2 x hx).1)) (all_row (fun x hx => (a0_2.2 x hx).1)))); have hS : ∀ i ∈ (b0 :: (vblock v0_0).toList ++ ((vblock v0_1).toList)), ¬ Q i := (all_cons n_h0 (all_app (all_row (fun x hx => (a0_1.2 x hx).2)) (all_row (fun x hx => (a0_2.2 x hx).2)))); have np_hN := (hN.apF h0 a0_1 a0_2 (by decide) (by decide) (by decide) (by decide) (by decide) (by decide)); replace mf2_0_1 := mf2_0_1.reP (fun x hx => (mf2_0_1.2 x hx).1); replace mf2_0_1 := mf2_0_1.reP (fun x hx => (mf2_0_1.2 x hx).1.elim (hP x) (Fsh.new M x)); replace mf2_0_2 := mf2_0_2.reP (fun x hx => (mf2_0_2.2 x hx).1); replace mf2_0_2 := mf2_0_2.reP (fun x hx => (mf2_0_2.2 x hx).1.elim (hP x) (Fsh.new M x)); replace hN := hN.sub sQ sT; replace tQ := fun b hb => tQ b (sT b hb); replace sQ0 := fun b hb hl => sQ b (sQ0 b hb hl) (Nat.lt_of_lt_of_le hl M.size); replace hS := fun i hi hq => hS i hi (sT i hq); replace hN := hN.md hm np_hN hS; replace M := M.step hm hP; clear uQ; have uQ := uQ2; clear uQ2 sQ sT; clear hP hS h0 n_h0; have h0 := mh2_0; have n_h0 := mn2_0; clear mh2_0 mn2_0; clear a0_1; clear a0_2; have be := burn_eq hF2; replace hN : Nds 90 125 (Fsh (b0 :: (vblock v0_0).toList ++ ((vblock v0_1).toList ++ (ndB f.nodes))) w) w2 Q3 m2_0.nodes := (by rw [be.1]; exact hN); refine asg rfl ?_; refine nt ?_; refine c_seq ?_; refine ns ?_; refine mv rfl ?_; refine st _ (r_neN (a := x2_0) (b := 0) rfl rfl) ?_; refine nt ?_; refine c_if rfl (fun h11 => ?_) (fun h11 => ?_)
    · (first | (have h11n := of_decide_eq_true h11) | (have h11n := of_decide_eq_false (bnt h11)) | (have h11n := bnt h11) | (have h11n := h11)); refine ns ?_; refine mv rfl ?_; refine asg rfl ?_; refine nt ?_; refine c_ret ?_; refine r_then ?_; exact ret1L (v := (.int .i64 ((x2_0 : Nat) : Int))) trivial rfl ⟨rfl, trivial⟩ ⟨x2_0, m2_0, _, _, Q3, rfl, M, ⟨sQ0, tQ, uQ⟩, (by first | assumption | omega | simp_all), h0, n_h0, mq2_0_0, mf2_0_1, mf2_0_2, hN, (syncDir_b hF1 (by omega) hF2 (by omega))⟩
    · (first | (have h11n := of_decide_eq_false h11) | (have h11n := of_decide_eq_true (bnf h11)) | (have h11n := bnf h11) | (have h11n := h11)); refine c_skip ?_; refine c_then ?_; refine ns ?_; refine mv rfl ?_; refine st_call fn46 rfl (fSettle_any uQ m2_0 h0 n_h0 mq2_0_0 (mf2_0_1.reP (fun _ _ => trivial)) (mf2_0_2.reP (fun _ _ => trivial)) (hN.reP (fun _ _ => trivial))) ?_; rintro en w4 ⟨m4_0, mv4_0_0, mv4_0_1, Q5, rfl, hm, ⟨sQ, sT, uQ2⟩, mh4_0, mn4_0, mq4_0_0, mf4_0_1, mf4_0_2, mN4, hF4⟩; refine ⟨_, rfl, ?_⟩; have hP : ∀ i ∈ (b0 :: (vblock mv2_0_0).toList ++ ((vblock mv2_0_1).toList ++ (ndB m2_0.nodes))), Fsh (b0 :: (vblock v0_0).toList ++ ((vblock v0_1).toList ++ (ndB f.nodes))) w i := (all_cons p_h0 (all_app (all_row (fun x hx => (mf2_0_1.2 x hx).1)) (all_app (all_row (fun x hx => (mf2_0_2.2 x hx).1)) (fun x hx => hN.loB x hx)))); have hS : ∀ i ∈ (b0 :: (vblock mv2_0_0).toList ++ ((vblock mv2_0_1).toList ++ (ndB m2_0.nodes))), ¬ Q3 i := (all_cons n_h0 (all_app (all_row (fun x hx => (mf2_0_1.2 x hx).2)) (all_app (all_row (fun x hx => (mf2_0_2.2 x hx).2)) (fun x hx => hN.nQB x hx)))); have hP9 := hP; have M9 := M; replace mf4_0_1 := mf4_0_1.reP (fun x hx => (mf4_0_1.2 x hx).1); replace mf4_0_1 := mf4_0_1.reP (fun x hx => (mf4_0_1.2 x hx).1.elim (hP x) (Fsh.new M x)); replace mf4_0_2 := mf4_0_2.reP (fun x hx => (mf4_0_2.2 x hx).1); replace mf4_0_2 := mf4_0_2.reP (fun x hx => (mf4_0_2.2 x hx).1.elim (hP x) (Fsh.new M x)); replace tQ := fun b hb => tQ b (sT b hb); replace sQ0 := fun b hb hl => sQ b (sQ0 b hb hl) (Nat.lt_of_lt_of_le hl M.size); replace hS := fun i hi hq => hS i hi (sT i hq); replace M := M.step hm hP; clear uQ; have uQ := uQ2; clear uQ2 sQ sT; clear hP hS h0 n_h0; have h0 := mh4_0; have n_h0 := mn4_0; clear mh4_0 mn4_0; replace mN4 := mN4.reP (fun x hx => hx.elim (hP9 x) (Fsh.new M9 x)); clear mf2_0_1; clear hN; clear mf2_0_2; have hN := mN4; clear mN4 hP9 M9; refine nt ?_; refine ns ?_; refine asg rfl ?_; refine nt ?_; refine c_ret ?_; exact ret1L (v := (.int .i64 ((0 : Nat) : Int))) trivial rfl ⟨rfl, trivial⟩ ⟨0, m4_0, _, _, Q5, rfl, M, ⟨sQ0, tQ, uQ⟩, (by first | assumption | omega | simp_all), h0, n_h0, mq4_0_0, mf4_0_1, mf4_0_2, hN, (by rw [syncDir_0 hF1 (by omega) hF2 (by omega), hF4])⟩
  · (first | (have h7n := of_decide_eq_false h7) | (have h7n := of_decide_eq_true (bnf h7)) | (have h7n := bnf h7) | (have h7n := h7)); refine c_skip ?_; refine c_then ?_; refine c_seq ?_; refine ns ?_; refine mv rfl ?_; refine st _ (r_neN (a := x1_0) (b := 0) rfl rfl) ?_; refine nt ?_; refine c_if rfl (fun h11 => ?_) (fun h11 => ?_)
    · (first | (have h11n := of_decide_eq_true h11) | (have h11n := of_decide_eq_false (bnt h11)) | (have h11n := bnt h11) | (have h11n := h11)); refine ns ?_; refine mv rfl ?_; refine asg rfl ?_; refine nt ?_; refine c_ret ?_; refine r_then ?_; exact ret1L (v := (.int .i64 ((x1_0 : Nat) : Int))) trivial rfl ⟨rfl, trivial⟩ ⟨x1_0, f, _, _, Q, rfl, M, ⟨sQ0, tQ, uQ⟩, (by first | assumption | omega | simp_all), h0, n_h0, a0_0, a0_1, a0_2, hN, (syncDir_off hF1 (by omega))⟩
    · (first | (have h11n := of_decide_eq_false h11) | (have h11n := of_decide_eq_true (bnf h11)) | (have h11n := bnf h11) | (have h11n := h11)); exfalso; omega
end Go.Proofs.Ytcaokfendkkafaa
namespace Go.Proofs.Ytcaokfendkkafaa
open Go Go.Wk Go.RowKit
set_option linter.unusedVariables false
set_option linter.unusedSimpArgs false
attribute [local irreducible] wpList wpQuiet wpStill wpMix Code.wp Calls bodyPost
end Go.Proofs.Ytcaokfendkkafaa
namespace Go.Proofs.Ytcaokfendkkafaa
open Go Go.Wk Go.RowKit
set_option linter.unusedVariables false
set_option linter.unusedSimpArgs false
attribute [local irreducible] wpList wpQuiet wpStill wpMix Code.wp Calls bodyPost
theorem pl80 : bplace Try.prog 80 = some [(0, 1), (1, 1), (2, 1), (3, 1), (4, 1)] := by kernel_rfl
theorem z80 : zcells Try.prog 80 = some [.int .i64 0, .int .i64 0, .bool false, .slice none 0 0, .slice none 0 0] := by kernel_rfl

theorem fNew_any {w : World} {Q : Nat → Prop} (uQ : Up w Q) (r : Int) (a0 : (-9223372036854775808 ≤ r ∧ r < 9223372036854775808)) (p0 : 4096 ≤ r) (p1 : r ≤ 1048576) :
    Calls Try.prog 13 #[(.int .i64 (r : Int))] w fun en w' => ∃ o0 : Nat, ∃ u0_0 : Value, ∃ u0_1 : Value, ∃ r0 : SFs, ∃ r1 : Nat, ∃ Q' : Nat → Prop, en = .returned (.tuple #[.pointer (some ⟨o0, 0, none⟩), (.int .i64 ((r1 : Nat) : Int))]) ∧ Md [] w w' ∧ NewQ w w' Q Q' ∧ Blk w' o0 (SFs.cells r0 u0_0 u0_1) 80 ∧ ¬ Q' o0 ∧ w.heap.size ≤ o0 ∧ SFs.ok r0 ∧ Ow tNd 82 (Fsh [] w) w' Q' u0_0 r0.nodes ∧ Ow tSCh 92 (Fsh [] w) w' Q' u0_1 r0.pend ∧ r1 < 9223372036854775808 ∧ (({ room := r, fuse := -1, off := false, nodes := [], pend := [] } : SFs), (0 : Nat)) = (r0, r1) := by
  have M := Md.refl [] w; have uQ0 := uQ; have tQ : ∀ b, Q b → Q b := fun _ h => h; have sQ0 : ∀ b, Q b → b < w.heap.size → Q b := fun _ h _ => h; refine enter (n := 13) Try.func13 rfl rfl rfl ?_; intro B; refine ns ?_; refine asg rfl ?_; refine asg rfl ?_; refine nt ?_; refine c_seq ?_; refine ns ?_; refine mv rfl ?_; refine st _ (r_lt (a := r) (b := 4096) rfl rfl) ?_; refine mv rfl ?_; refine part_n (t := 6) rfl (fun h6 => ?_) (fun h6 => ?_)
  · (first | (have h6n := of_decide_eq_true h6) | (have h6n := of_decide_eq_false (bnt h6)) | (have h6n := bnt h6) | (have h6n := h6)); exfalso; omega
  · (first | (have h6n := of_decide_eq_false h6) | (have h6n := of_decide_eq_true (bnf h6)) | (have h6n := bnf h6) | (have h6n := h6)); refine st_g _ rfl rfl rfl h6 (r_move rfl) ?_; refine st_g _ rfl rfl rfl h6 (r_gt (a := r) (b := 1048576) rfl rfl) ?_; refine st _ (r_pick_f rfl h6 rfl) ?_; refine nt ?_; refine c_if rfl (fun h9 => ?_) (fun h9 => ?_)
    · (first | (have h9n := of_decide_eq_true h9) | (have h9n := of_decide_eq_false (bnt h9)) | (have h9n := bnt h9) | (have h9n := h9)); exfalso; omega
    · (first | (have h9n := of_decide_eq_false h9) | (have h9n := of_decide_eq_true (bnf h9)) | (have h9n := bnf h9) | (have h9n := h9)); refine c_skip ?_; refine c_then ?_; refine ns ?_; refine mv rfl ?_; refine st _ (r_buildG (us := [[(.int .i64 (r : Int))], [(.int .i64 ((-1) : Int))]]) (cs := (SFs.cells (({ room := r, fuse := (-1), off := false, nodes := [], pend := [] } : SFs)) (.slice none 0 0) (.slice none 0 0))) [(0, 0, 1), (1, 1, 1)] z80 pl80 rfl rfl ⟨rfl, rfl, trivial⟩ ⟨rfl, rfl, trivial⟩ rfl rfl) ?_; refine st_box (cs := (SFs.cells (({ room := r, fuse := (-1), off := false, nodes := [], pend := [] } : SFs)) (.slice none 0 0) (.slice none 0 0))) rfl rfl ?_; intro ba12 w1 ga12 la12 hm ha12; obtain ⟨Q2, sQ, sT, n_ha12, uQ2⟩ := exQ uQ ga12 la12 hm; replace tQ := fun b hb => tQ b (sT b hb); replace sQ0 := fun b hb hl => sQ b (sQ0 b hb hl) (Nat.lt_of_lt_of_le hl M.size); replace ga12 := Nat.le_trans M.size ga12; replace uQ := uQ.md hm; replace M := M.step0 hm; clear uQ; have uQ := uQ2; clear uQ2 sQ sT; have p_ha12 : Fsh [] w ba12 := .inr ga12; refine asg rfl ?_; refine asg rfl ?_; refine nt ?_; refine c_ret ?_; exact retL (vs := [(.pointer (some ⟨ba12, 0, none⟩)), (.int .i64 ((0 : Nat) : Int))]) trivial rfl ⟨rfl, rfl, trivial⟩ rfl ⟨ba12, _, _, (({ room := r, fuse := (-1), off := false, nodes := [], pend := [] } : SFs)), 0, Q2, rfl, M, ⟨sQ0, tQ, uQ⟩, ha12, n_ha12, ga12, (by first | assumption | exact ⟨(by first | omega | (simp <;> omega) | simp_all), (by first | omega | (simp <;> omega) | simp_all)⟩), (by first | exact Ow.nil _ _ _ _ _ | (simp only []; exact Ow.nil _ _ _ _ _)), (by first | exact Ow.nil _ _ _ _ _ | (simp only []; exact Ow.nil _ _ _ _ _)), (by first | assumption | omega | simp_all), rfl⟩
end Go.Proofs.Ytcaokfendkkafaa
namespace Go.Proofs.Ytcaokfendkkafaa
open Go Go.Wk Go.RowKit
set_option linter.unusedVariables false
set_option linter.unusedSimpArgs false
attribute [local irreducible] wpList wpQuiet wpStill wpMix Code.wp Calls bodyPost
theorem off92_0 : fieldOff Try.prog 92 0 = some 0 := by kernel_rfl
theorem off92_1 : fieldOff Try.prog 92 1 = some 1 := by kernel_rfl
theorem off92_2 : fieldOff Try.prog 92 2 = some 2 := by kernel_rfl
theorem off92_3 : fieldOff Try.prog 92 3 = some 3 := by kernel_rfl

/-- A change, taken back. -/
def undoN (l : List SNd) (c : SCh) : List SNd :=
  if c.kind = 0 then updN l c.n fun z => { z with no := { z.no with there := false } }
  else if c.kind = 1 then (match c.over with
    | none => updN l c.n fun z => { z with no := { z.no with nm := c.old } }
    | some o => updN (updN l c.n fun z => { z with no := { z.no with nm := c.old } }) o fun z => { z with no := { z.no with there := true } })
  else updN l c.n fun z => { z with no := { z.no with there := true } }
def undoL : List SNd → List SCh → List SNd
  | l, [] => l
  | l, c :: r => undoL (undoN l c) r
theorem undoN_ids (l : List SNd) (c : SCh) : (undoN l c).map (·.id) = l.map (·.id) := by
  unfold undoN
  split
  · exact updN_ids fun _ => rfl
  · split
    · split
      · exact updN_ids fun _ => rfl
      · rw [updN_ids, updN_ids] <;> (intro _; rfl)
    · exact updN_ids fun _ => rfl
theorem undoL_ids : ∀ (r : List SCh) (l : List SNd), (undoL l r).map (·.id) = l.map (·.id)
  | [], _ => rfl
  | c :: r, l => (undoL_ids r (undoN l c)).trans (undoN_ids l c)
/-- What becomes of the files. -/
def crashG : List SNd → List Bool → List SNd
  | [], _ => []
  | z :: r, k =>
    let n := min (dirF z.fl.b z.fl.safe (secN z.fl.b z.fl.safe)).length k.length
    { z with fl := { b := crashB z.fl.b z.fl.safe (k.take n), safe := crashB z.fl.b z.fl.safe (k.take n) } } :: crashG r (k.drop n)
theorem crashG_ids : ∀ (l : List SNd) (k : List Bool), (crashG l k).map (·.id) = l.map (·.id)
  | [], _ => rfl
  | z :: r, k => by rw [crashG]; simp only [List.map_cons]; rw [crashG_ids r]
def crashR (f : SFs) (keep : List Bool) (dirs : Int) : SFs :=
  { f with nodes := crashG ((undoL f.nodes (f.pend.drop dirs.toNat).reverse).filter (·.no.there)) keep, pend := [], off := false, fuse := -1 }
theorem updN_at {l : List SNd} {i : Nat} {z : SNd} {g : SNd → SNd} (hn : (l.map (·.id)).Nodup) (h : l[i]? = some z) : updN l z.id g = l.set i (g z) := by
  have hz := List.mem_of_getElem? h
  apply List.ext_getElem?; intro j; unfold updN; rw [List.getElem?_map, List.getElem?_set]; obtain ⟨hi, hiz⟩ := List.getElem?_eq_some_iff.1 h; by_cases hij : i = j
  · subst hij
    rw [if_pos rfl, h]; simp [hi]
  · rw [if_neg hij]
    cases hj : l[j]? with
    | none => rfl
    | some y =>
      simp only [Option.map_some]; rw [if_neg]; intro e; obtain ⟨hj', hjy⟩ := List.getElem?_eq_some_iff.1 hj; have h1 : (l.map (·.id))[i]'(by simpa using hi) = (l.map (·.id))[j]'(by simpa using hj') := (by simp [hiz, hjy, e]); rcases Nat.lt_or_gt_of_ne hij with h2 | h2
      · exact List.pairwise_iff_getElem.1 hn i j (by simpa using hi) (by simpa using hj') h2 h1
      · exact List.pairwise_iff_getElem.1 hn j i (by simpa using hj') (by simpa using hi) h2 h1.symm
theorem ids_mem {l l' : List SNd} (h : l'.map (·.id) = l.map (·.id)) {b : Nat} (hb : b ∈ l.map (·.id)) : b ∈ l'.map (·.id) := by rw [h]; exact hb
theorem undo_step {l : List SCh} {i : Int} {d : Int} {c : SCh} (h : l[i.toNat]? = some c) (h0 : 0 ≤ i) (hd : d ≤ i) : ((l.take (i + 1).toNat).drop d.toNat).reverse = c :: ((l.take (i - 1 + 1).toNat).drop d.toNat).reverse := by
  have hi := (List.getElem?_eq_some_iff.1 h).1; rw [show (i + 1).toNat = i.toNat + 1 by omega, show (i - 1 + 1).toNat = i.toNat by omega, List.take_add_one, h, Option.toList_some, List.drop_append_of_le_length (by rw [List.length_take]; omega), List.reverse_append]
  rfl
theorem undo_end {l : List SCh} {i d : Int} (h : i < 0 ∨ i < d) (h1 : i < (l.length : Int)) : ((l.take (i + 1).toNat).drop d.toNat).reverse = [] := by
  rw [List.drop_of_length_le (by rw [List.length_take]; omega)]; rfl
theorem updN_all {P : SNd → Prop} {l : List SNd} {i : Nat} {g : SNd → SNd} (h : ∀ z ∈ l, P z) (hg : ∀ z, P z → P (g z)) : ∀ z ∈ updN l i g, P z := by
  intro z hz; rcases mem_updN hz with ⟨x, hx, _, rfl⟩ | ⟨hz, _⟩
  · exact hg _ (h x hx)
  · exact h z hz
theorem undo_fl {l : List SNd} {c : SCh} (h : ∀ z ∈ l, z.fl.b.length ≤ 1000000 ∧ z.fl.safe.length ≤ 1000000) : ∀ z ∈ undoN l c, z.fl.b.length ≤ 1000000 ∧ z.fl.safe.length ≤ 1000000 := by
  unfold undoN
  split
  · exact updN_all h fun _ h => h
  · split
    · split
      · exact updN_all h fun _ h => h
      · exact updN_all (updN_all h fun _ h => h) fun _ h => h
    · exact updN_all h fun _ h => h
theorem crash_step {l : List SNd} {j n : Nat} {z y : SNd} {k : List Bool} {R : List SNd} (h : l[j]? = some z) (hn : n = min (dirF z.fl.b z.fl.safe (secN z.fl.b z.fl.safe)).length k.length) (hy : y = { z with fl := { b := crashB z.fl.b z.fl.safe (k.take n), safe := crashB z.fl.b z.fl.safe (k.take n) } })
    (hI : l.take j ++ crashG (l.drop j) k = R) : (l.set j y).take (j + 1) ++ crashG ((l.set j y).drop (j + 1)) (k.drop n) = R := by
  have hj := (List.getElem?_eq_some_iff.1 h).1; rw [take_set_succP hj, List.drop_set_of_lt (by omega), ← hI, findN_get h, crashG]; rw [← hn, ← hy, List.append_assoc]
  rfl

theorem fUndo_any {w : World} {Q : Nat → Prop} (uQ : Up w Q) {l : List SNd} (c : SCh) (a0_0 : SCh.ok c) (p0 : c.n ∈ l.map (·.id)) (p1 : ∀ o, c.over = some o → o ∈ l.map (·.id)) (p2 : Nds 90 125 (fun _ => True) w Q l) :
    Calls Try.prog 50 #[.agg (SCh.cells c).toArray] w fun en w' => en = .returned (.tuple #[]) ∧ Md (ndB l) w w' ∧ (Nds 90 125 (Fsh (ndB l) w) w' Q (undoN l c)) := by
  obtain ⟨k, n, o, ov⟩ := c; simp only at p0 p1; obtain ⟨x, mx, ex⟩ := List.mem_map.1 p0; subst ex; have hN := p2.reB (lo' := Fsh (ndB l) w) (fun b hb => .inl hb); clear p2 p0; have M := Md.refl (ndB l) w; have uQ0 := uQ; have tQ : ∀ b, Q b → Q b := fun _ h => h; have sQ0 : ∀ b, Q b → b < w.heap.size → Q b := fun _ h _ => h; refine enter (n := 29) Try.func50 rfl rfl rfl ?_; intro B; refine ns ?_; refine st_box (cs := (SCh.cells (({ kind := k, n := x.id, old := o, over := ov } : SCh)))) rfl rfl ?_; intro ba1 w1 ga1 la1 hm ha1; have n_ha1 := uQ _ ga1; replace ga1 := Nat.le_trans M.size ga1; replace hN := hN.md0 hm; replace uQ := uQ.md hm; replace M := M.step0 hm; have p_ha1 : Fsh [] w ba1 := .inr ga1; refine nt ?_; refine ns ?_; refine st _ (r_field rfl off92_0) ?_; refine st _ ((r_loadBlk rfl one3 ha1 rfl).to (b := (.int .i64 (((({ kind := k, n := x.id, old := o, over := ov } : SCh)).kind : Nat) : Int))) rfl) ?_; have q2 : (({ kind := k, n := x.id, old := o, over := ov } : SCh)).kind < 9223372036854775808 := a0_0; refine nt ?_; refine c_block ?_; refine ns ?_; refine st _ (r_eqN (a := ((({ kind := k, n := x.id, old := o, over := ov } : SCh)).kind)) (b := 0) rfl rfl) ?_; refine asg rfl ?_; refine nt ?_; refine c_if rfl (fun h8 => ?_) (fun h8 => ?_)
  · (first | (have h8n := of_decide_eq_true h8) | (have h8n := of_decide_eq_false (bnt h8)) | (have h8n := bnt h8) | (have h8n := h8)); refine c_region ?_; refine st _ (r_field rfl off92_1) ?_; refine st _ ((r_loadBlk rfl one82 ha1 rfl).to (b := (.pointer (some ⟨(({ kind := k, n := x.id, old := o, over := ov } : SCh)).n, 0, none⟩))) rfl) ?_; refine st _ (r_nil rfl) ?_; refine st _ (r_field rfl off90_1) ?_; refine st_store rfl rfl one4 rfl (hN.get mx).1 (Nat.le_of_ble_eq_true rfl) ?_; intro w3 hm hb; have hNo := hN; clear hN; have hNb := (hNo.get mx).1; have hS : ∀ b ∈ [x.id], ¬ Q b := (by intro b hb; rw [List.mem_singleton] at hb; subst hb; exact (hNo.get mx).2.2); replace ha1 := ha1.md hm (by rw [List.mem_singleton]; exact blk_ne_ty ha1 hNb (by decide)); replace uQ := uQ.md hm; replace M := M.step hm (all_cons (hNo.all _ mx).2.2.2.2.1 all_nil); clear hS; have hN9 := hNo.setNo mx (by decide) hm (g := fun z => { z with there := false }) (show Blk _ _ (SNo.cells { x.no with there := false }) _ from hb) rfl; clear hNo hNb hb; obtain ⟨l4, el4⟩ : ∃ y, y = updN l x.id (fun z => { z with no := { z.no with there := false } }) := ⟨_, rfl⟩; have hN : Nds 90 125 (Fsh (ndB l) w) w3 Q l4 := (by rw [el4]; exact hN9); clear hN9; refine st_nil ?_; refine n_block ?_; exact retL (vs := []) trivial rfl trivial rfl ⟨rfl, M, (by unfold undoN; simp only [if_pos h8n]; rw [el4] at hN; exact hN)⟩
  · (first | (have h8n := of_decide_eq_false h8) | (have h8n := of_decide_eq_true (bnf h8)) | (have h8n := bnf h8) | (have h8n := h8)); refine ns ?_; refine st _ (r_eqN (a := ((({ kind := k, n := x.id, old := o, over := ov } : SCh)).kind)) (b := 1) rfl rfl) ?_; refine asg rfl ?_; refine nt ?_; refine c_if rfl (fun h14 => ?_) (fun h14 => ?_)
    · (first | (have h14n := of_decide_eq_true h14) | (have h14n := of_decide_eq_false (bnt h14)) | (have h14n := bnt h14) | (have h14n := h14)); refine ns ?_; refine st _ (r_field rfl off92_1) ?_; refine st _ ((r_loadBlk rfl one82 ha1 rfl).to (b := (.pointer (some ⟨(({ kind := k, n := x.id, old := o, over := ov } : SCh)).n, 0, none⟩))) rfl) ?_; refine st _ (r_field rfl off92_2) ?_; refine st _ ((r_loadBlk rfl one9 ha1 rfl).to (b := (str ((({ kind := k, n := x.id, old := o, over := ov } : SCh)).old))) rfl) ?_; refine st _ (r_nil rfl) ?_; refine st _ (r_field rfl off90_0) ?_; refine st_store rfl rfl one9 rfl (hN.get mx).1 (Nat.le_of_ble_eq_true rfl) ?_; intro w5 hm hb; have hNo := hN; clear hN; have hNb := (hNo.get mx).1; have hS : ∀ b ∈ [x.id], ¬ Q b := (by intro b hb; rw [List.mem_singleton] at hb; subst hb; exact (hNo.get mx).2.2); replace ha1 := ha1.md hm (by rw [List.mem_singleton]; exact blk_ne_ty ha1 hNb (by decide)); replace uQ := uQ.md hm; replace M := M.step hm (all_cons (hNo.all _ mx).2.2.2.2.1 all_nil); clear hS; have hN9 := hNo.setNo mx (by decide) hm (g := fun z => { z with nm := ((({ kind := k, n := x.id, old := o, over := ov } : SCh)).old) }) (show Blk _ _ (SNo.cells { x.no with nm := ((({ kind := k, n := x.id, old := o, over := ov } : SCh)).old) }) _ from hb) rfl; clear hNo hNb hb; obtain ⟨l6, el6⟩ : ∃ y, y = updN l x.id (fun z => { z with no := { z.no with nm := ((({ kind := k, n := x.id, old := o, over := ov } : SCh)).old) } }) := ⟨_, rfl⟩; have hN : Nds 90 125 (Fsh (ndB l) w) w5 Q l6 := (by rw [el6]; exact hN9); clear hN9; refine nt ?_; refine ns ?_; refine st _ (r_field rfl off92_3) ?_; refine st _ ((r_loadBlk rfl one82 ha1 rfl).to (b := (nptr ((({ kind := k, n := x.id, old := o, over := ov } : SCh)).over))) rfl) ?_; refine st _ (r_neqNp (o := (({ kind := k, n := x.id, old := o, over := ov } : SCh)).over) rfl u82) ?_; refine nt ?_; refine c_if rfl (fun h24 => ?_) (fun h24 => ?_)
      · (first | (have h24n := of_decide_eq_true h24) | (have h24n := of_decide_eq_false (bnt h24)) | (have h24n := bnt h24) | (have h24n := h24)); refine c_region ?_; obtain ⟨oy, hoy⟩ := Option.isSome_iff_exists.1 h24; have hoy2 : ov = some oy := hoy; clear h24 h24n hoy; subst hoy2; obtain ⟨yn, my, ey⟩ := List.mem_map.1 (show oy ∈ l6.map (·.id) by rw [el6, updN_ids] <;> first | exact p1 _ rfl | (intro _; rfl)); subst ey; refine st _ (r_field rfl off92_3) ?_; refine st _ ((r_loadBlk rfl one82 ha1 rfl).to (b := (nptr ((({ kind := k, n := x.id, old := o, over := (some yn.id) } : SCh)).over))) rfl) ?_; refine st _ (r_nil rfl) ?_; refine st _ (r_field rfl off90_1) ?_; refine st_store rfl rfl one4 rfl (hN.get my).1 (Nat.le_of_ble_eq_true rfl) ?_; intro w7 hm hb; have hNo := hN; clear hN; have hNb := (hNo.get my).1; have hS : ∀ b ∈ [yn.id], ¬ Q b := (by intro b hb; rw [List.mem_singleton] at hb; subst hb; exact (hNo.get my).2.2); replace ha1 := ha1.md hm (by rw [List.mem_singleton]; exact blk_ne_ty ha1 hNb (by decide)); replace uQ := uQ.md hm; replace M := M.step hm (all_cons (hNo.all _ my).2.2.2.2.1 all_nil); clear hS; have hN9 := hNo.setNo my (by decide) hm (g := fun z => { z with there := true }) (show Blk _ _ (SNo.cells { yn.no with there := true }) _ from hb) rfl; clear hNo hNb hb; obtain ⟨l8, el8⟩ : ∃ y, y = updN l6 yn.id (fun z => { z with no := { z.no with there := true } }) := ⟨_, rfl⟩; have hN : Nds 90 125 (Fsh (ndB l) w) w7 Q l8 := (by rw [el8]; exact hN9); clear hN9; refine st_nil ?_; refine n_block ?_; exact retL (vs := []) trivial rfl trivial rfl ⟨rfl, M, (by unfold undoN; simp only [if_neg h8n, if_pos h14n]; rw [el8, el6] at hN; exact hN)⟩
      · (first | (have h24n := of_decide_eq_false h24) | (have h24n := of_decide_eq_true (bnf h24)) | (have h24n := bnf h24) | (have h24n := h24)); refine c_skip ?_; refine n_block ?_; exact retL (vs := []) trivial rfl trivial rfl ⟨rfl, M, (by have e9 : ov = none := Option.isNone_iff_eq_none.1 (Option.isSome_eq_false_iff.1 h24); subst e9; unfold undoN; simp only [if_neg h8n, if_pos h14n]; rw [el6] at hN; exact hN)⟩
    · (first | (have h14n := of_decide_eq_false h14) | (have h14n := of_decide_eq_true (bnf h14)) | (have h14n := bnf h14) | (have h14n := h14)); refine c_region ?_; refine st _ (r_field rfl off92_1) ?_; refine st _ ((r_loadBlk rfl one82 ha1 rfl).to (b := (.pointer (some ⟨(({ kind := k, n := x.id, old := o, over := ov } : SCh)).n, 0, none⟩))) rfl) ?_; refine st _ (r_nil rfl) ?_; refine st _ (r_field rfl off90_1) ?_; refine st_store rfl rfl one4 rfl (hN.get mx).1 (Nat.le_of_ble_eq_true rfl) ?_; intro w9 hm hb; have hNo := hN; clear hN; have hNb := (hNo.get mx).1; have hS : ∀ b ∈ [x.id], ¬ Q b := (by intro b hb; rw [List.mem_singleton] at hb; subst hb; exact (hNo.get mx).2.2); replace ha1 := ha1.md hm (by rw [List.mem_singleton]; exact blk_ne_ty ha1 hNb (by decide)); replace uQ := uQ.md hm; replace M := M.step hm (all_cons (hNo.all _ mx).2.2.2.2.1 all_nil); clear hS; have hN9 := hNo.setNo mx (by decide) hm (g := fun z => { z with there := true }) (show Blk _ _ (SNo.cells { x.no with there := true }) _ from hb) rfl; clear hNo hNb hb; obtain ⟨l10, el10⟩ : ∃ y, y = updN l x.id (fun z => { z with no := { z.no with there := true } }) := ⟨_, rfl⟩; have hN : Nds 90 125 (Fsh (ndB l) w) w9 Q l10 := (by rw [el10]; exact hN9); clear hN9; refine st_nil ?_; refine n_block ?_; exact retL (vs := []) trivial rfl trivial rfl ⟨rfl, M, (by unfold undoN; simp only [if_neg h8n, if_neg h14n]; rw [el10] at hN; exact hN)⟩
end Go.Proofs.Ytcaokfendkkafaa
namespace Go.Proofs.Ytcaokfendkkafaa
open Go Go.Wk Go.RowKit
set_option linter.unusedVariables false
set_option linter.unusedSimpArgs false
attribute [local irreducible] wpList wpQuiet wpStill wpMix Code.wp Calls bodyPost
theorem agg92 : isAggN Try.prog 92 4 = true := by kernel_rfl
theorem el92 : elemIs Try.prog 92 4 = true := by kernel_rfl
theorem fn50 : isFn Try.prog 50 = true := by kernel_rfl
theorem fn52 : isFn Try.prog 52 = true := by kernel_rfl

set_option maxRecDepth 100000 in
theorem fCrash_any {w : World} {Q : Nat → Prop} (uQ : Up w Q) {b0 : Nat} {v0_0 : Value} {v0_1 : Value} (f : SFs) (h0 : Blk w b0 (SFs.cells f v0_0 v0_1) 80) (n0 : ¬ Q b0) (a0_0 : SFs.ok f) (a0_1 : Ow tNd 82 (fun _ => True) w Q v0_0 f.nodes) (a0_2 : Ow tSCh 92 (fun _ => True) w Q v0_1 f.pend) (hN0 : Nds 90 125 (fun _ => True) w Q f.nodes) {v1 : Value} {keep : List Bool} (h1 : Ls tBool w Q v1 keep) (dirs : Int) (a2 : (-9223372036854775808 ≤ dirs ∧ dirs < 9223372036854775808)) (p0 : f.nodes.length ≤ 1000000) (p1 : f.pend.length ≤ 1000000) (p2 : ∀ c ∈ f.pend, c.n ∈ f.nodes.map (·.id) ∧ ∀ o, c.over = some o → o ∈ f.nodes.map (·.id)) (p3 : ∀ z ∈ f.nodes, z.fl.b.length ≤ 1000000 ∧ z.fl.safe.length ≤ 1000000) :
    Calls Try.prog 17 #[.pointer (some ⟨b0, 0, none⟩), v1, (.int .i64 (dirs : Int))] w fun en w' => ∃ m0 : SFs, ∃ u50_0 : Value, ∃ u50_1 : Value, ∃ Q' : Nat → Prop, en = .returned (.tuple #[]) ∧ Md (b0 :: (vblock v0_0).toList ++ ((vblock v0_1).toList ++ (ndB f.nodes))) w w' ∧ NewQ w w' Q Q' ∧ Blk w' b0 (SFs.cells m0 u50_0 u50_1) 80 ∧ ¬ Q' b0 ∧ SFs.ok m0 ∧ Ow tNd 82 (Fsh (b0 :: (vblock v0_0).toList ++ ((vblock v0_1).toList ++ (ndB f.nodes))) w) w' Q' u50_0 m0.nodes ∧ Ow tSCh 92 (Fsh (b0 :: (vblock v0_0).toList ++ ((vblock v0_1).toList ++ (ndB f.nodes))) w) w' Q' u50_1 m0.pend ∧ Nds 90 125 (Fsh (b0 :: (vblock v0_0).toList ++ ((vblock v0_1).toList ++ (ndB f.nodes))) w) w' Q' m0.nodes ∧ crashR f keep dirs = m0 := by
  have L1 := h1.len63; have n_h0 := n0; have p_h0 : Fsh (b0 :: (vblock v0_0).toList ++ ((vblock v0_1).toList ++ (ndB f.nodes))) w b0 := .inl (by simp); replace a0_1 := a0_1.reP (lo' := Fsh (b0 :: (vblock v0_0).toList ++ ((vblock v0_1).toList ++ (ndB f.nodes))) w) (fun b hb => .inl (by simp [hb])); replace a0_2 := a0_2.reP (lo' := Fsh (b0 :: (vblock v0_0).toList ++ ((vblock v0_1).toList ++ (ndB f.nodes))) w) (fun b hb => .inl (by simp [hb])); have hN := hN0.reB (lo' := Fsh (b0 :: (vblock v0_0).toList ++ ((vblock v0_1).toList ++ (ndB f.nodes))) w) (fun b hb => .inl (by simp [hb])); clear hN0; have M := Md.refl (b0 :: (vblock v0_0).toList ++ ((vblock v0_1).toList ++ (ndB f.nodes))) w; have uQ0 := uQ; have tQ : ∀ b, Q b → Q b := fun _ h => h; have sQ0 : ∀ b, Q b → b < w.heap.size → Q b := fun _ h _ => h; refine enter (n := 68) Try.func17 rfl rfl rfl ?_; intro B; refine c_seq ?_; refine ns ?_; refine mv rfl ?_; refine st _ (r_nil rfl) ?_; refine st _ (r_field rfl off80_4) ?_; refine st _ ((r_loadBlk rfl one78 h0 rfl).to (b := v0_1) rfl) ?_; refine st _ (r_len rfl u78 a0_2.shp) ?_; refine st _ (r_subI (a := ((f.pend.length : Nat) : Int)) (b := 1) rfl rfl (by omega)) ?_; refine asg rfl ?_; refine nt ?_; refine c_block ?_; refine loop2 (fun (x : SFs) (i : Int) => [(6, (.int .i64 (i : Int))), (0, (.pointer (some ⟨b0, 0, none⟩))), (1, v1), (2, (.int .i64 (dirs : Int)))]) (fun (x : SFs) (i : Int) w' => ∃ Q' : Nat → Prop, (∀ b, Q' b → Q b) ∧ (∀ b, Q b → b < w.heap.size → Q' b) ∧ Up w' Q' ∧ Md (b0 :: (vblock v0_0).toList ++ ((vblock v0_1).toList ++ (ndB f.nodes))) w w' ∧ Blk w' b0 (SFs.cells x v0_0 v0_1) 80 ∧ Ow tNd 82 (Fsh (b0 :: (vblock v0_0).toList ++ ((vblock v0_1).toList ++ (ndB f.nodes))) w) w' Q' v0_0 x.nodes ∧ Ow tSCh 92 (Fsh (b0 :: (vblock v0_0).toList ++ ((vblock v0_1).toList ++ (ndB f.nodes))) w) w' Q' v0_1 x.pend ∧ SFs.ok x ∧ Ls tBool w' Q' v1 keep ∧ Nds 90 125 (Fsh (b0 :: (vblock v0_0).toList ++ ((vblock v0_1).toList ++ (ndB f.nodes))) w) w' Q' x.nodes ∧ ¬ Q' b0 ∧ x = { f with nodes := x.nodes } ∧ x.nodes.map (·.id) = f.nodes.map (·.id) ∧ -1 ≤ i ∧ i < f.pend.length ∧ undoL x.nodes ((f.pend.take (i + 1).toNat).drop dirs.toNat).reverse = undoL f.nodes (f.pend.drop dirs.toNat).reverse ∧ (∀ z ∈ x.nodes, z.fl.b.length ≤ 1000000 ∧ z.fl.safe.length ≤ 1000000)) (fun (x : SFs) (i : Int) => (i + 1).toNat) (x0 := f) (x1 := (((f.pend.length : Nat) : Int) - 1)) ?_ ?_ ?_
  · exact ⟨rfl, rfl, rfl, rfl, trivial⟩
  · exact ⟨Q, tQ, sQ0, uQ, M, h0, a0_1, a0_2, a0_0, h1, hN, n_h0, (by cases f; rfl), rfl, (by omega), (by omega), (by rw [List.take_of_length_le (by omega)]), p3⟩
  · clear M uQ tQ sQ0 n_h0 a0_1 a0_2 h0 h1 hN
    rintro x i B w1 ⟨Q2, tQ, sQ0, uQ, M, h0, a0_1, a0_2, kx_0, h1, hN, n_h0, i0_0, i0_1, i0_2, i0_3, i0_4, i0_5⟩; have xp : x.pend.length = f.pend.length := (by rw [i0_0]); refine c_seq ?_; refine ns ?_; refine mv rfl ?_; refine mv rfl ?_; refine st _ (r_maxZ (a := dirs) (b := 0) rfl rfl) ?_; refine st _ (r_ge (a := i) (b := (if dirs < 0 then 0 else dirs)) rfl rfl) ?_; refine nt ?_; refine c_if rfl (fun h19 => ?_) (fun h19 => ?_)
    · (first | (have h19n := of_decide_eq_true h19) | (have h19n := of_decide_eq_false (bnt h19)) | (have h19n := bnt h19) | (have h19n := h19)); have hd0 : 0 ≤ i ∧ dirs ≤ i := (by split at h19n <;> omega); refine c_skip ?_; refine c_then ?_; refine c_seq ?_; refine c_block ?_; refine c_region ?_; refine mv rfl ?_; refine st _ (r_nil rfl) ?_; refine st _ (r_field rfl off80_4) ?_; refine st _ ((r_loadBlk rfl one78 h0 rfl).to (b := v0_1) rfl) ?_; refine mv rfl ?_; refine st _ (r_indexZ (i := i) 4 rfl rfl u78 el92 a0_2.shp (by omega)) ?_; obtain ⟨x3, hx3⟩ := getE (l := x.pend) (i := (i).toNat) (by first | omega | (simp <;> omega)); obtain ⟨c4, hr3, ha3⟩ := a0_2.get hx3; obtain ⟨_, rfl, q5⟩ := tSCh_un hr3; replace ha3 : At _ v0_1 (((i).toNat) * 4) (SCh.cells x3) := ha3; refine st _ (r_loadEA (kk := ((i).toNat) * 4) (SCh.cells x3) 0 rfl rfl (by exact agg92) ha3 rfl) ?_; have hcm : x3 ∈ f.pend := (by have e := List.mem_of_getElem? hx3; rw [i0_0] at e; exact e); refine st_call fn50 rfl (fUndo_any uQ x3 q5 (ids_mem i0_1 (p2 _ hcm).1) (fun o ho => ids_mem i0_1 ((p2 _ hcm).2 o ho)) (hN.reP (fun _ _ => trivial))) ?_; rintro en w6 ⟨rfl, hm, hN9⟩; refine ⟨_, rfl, ?_⟩; have hNo := hN; clear hN; replace hN9 := hN9.reP (lo' := Fsh (b0 :: (vblock v0_0).toList ++ ((vblock v0_1).toList ++ (ndB f.nodes))) w) (fun b hb => hb.elim (hNo.loB b) (Fsh.new M b)); replace h0 := h0.md hm (hNo.ninB h0 (by decide) (by decide)); replace a0_1 := a0_1.md hm (hNo.ninO a0_1 (by decide) (by decide)) hNo.nQB; replace a0_2 := a0_2.md hm (hNo.ninO a0_2 (by decide) (by decide)) hNo.nQB; replace h1 := h1.md hm hNo.nQB; clear ha3; replace uQ := uQ.md hm; replace M := M.step hm hNo.loB; clear hNo; obtain ⟨s7, es7⟩ : ∃ y, y = ({ x with nodes := undoN x.nodes x3 } : SFs) := ⟨_, rfl⟩; replace h0 : Blk w6 b0 (SFs.cells s7 v0_0 v0_1) 80 := (by rw [es7]; exact h0); have oks7 : SFs.ok s7 := (by rw [es7]; exact kx_0); replace a0_1 := ow_ids a0_1 (show s7.nodes.map (·.id) = x.nodes.map (·.id) from by rw [es7]; exact undoN_ids _ _); rw [show x.pend = s7.pend by rw [es7]] at a0_2; have hN : Nds 90 125 (Fsh (b0 :: (vblock v0_0).toList ++ ((vblock v0_1).toList ++ (ndB f.nodes))) w) w6 Q2 s7.nodes := (by rw [es7]; exact hN9); clear hN9; refine st_nil ?_; refine n_block ?_; refine c_then ?_; refine c_region ?_; refine mv rfl ?_; refine st _ (r_subI (a := i) (b := 1) rfl rfl (by omega)) ?_; refine asg rfl ?_; refine nt ?_; refine next2 (x0 := s7) (x1 := (i - 1)) (by omega) ⟨(fitI rfl (by omega)), rfl, rfl, rfl, trivial⟩ ⟨Q2, tQ, sQ0, uQ, M, h0, a0_1, a0_2, oks7, h1, hN, n_h0, (by rw [es7]; rw [i0_0]), (by rw [es7]; exact (undoN_ids _ _).trans i0_1), (by omega), (by omega), (by rw [es7]; show undoL (undoN x.nodes x3) _ = _; rw [← i0_4, undo_step (by have e := hx3; rw [i0_0] at e; exact e) hd0.1 hd0.2]; rfl), (by rw [es7]; exact undo_fl i0_5)⟩
    · (first | (have h19n := of_decide_eq_false h19) | (have h19n := of_decide_eq_true (bnf h19)) | (have h19n := bnf h19) | (have h19n := h19)); have hd0 : i < 0 ∨ i < dirs := (by split at h19n <;> omega); refine c_exit ?_; refine x_then ?_; refine x_then ?_; refine x_hit ?_; refine c_then ?_; refine ns ?_; refine mv rfl ?_; refine st_call fn46 rfl (fSettle_any uQ x h0 n_h0 kx_0 (a0_1.reP (fun _ _ => trivial)) (a0_2.reP (fun _ _ => trivial)) (hN.reP (fun _ _ => trivial))) ?_; rintro en w8 ⟨m8_0, mv8_0_0, mv8_0_1, Q9, rfl, hm, ⟨sQ, sT, uQ2⟩, mh8_0, mn8_0, mq8_0_0, mf8_0_1, mf8_0_2, mN8, hF8⟩; refine ⟨_, rfl, ?_⟩; have hP : ∀ i ∈ (b0 :: (vblock v0_0).toList ++ ((vblock v0_1).toList ++ (ndB x.nodes))), Fsh (b0 :: (vblock v0_0).toList ++ ((vblock v0_1).toList ++ (ndB f.nodes))) w i := (all_cons p_h0 (all_app (all_row (fun x hx => (a0_1.2 x hx).1)) (all_app (all_row (fun x hx => (a0_2.2 x hx).1)) (fun x hx => hN.loB x hx)))); have hS : ∀ i ∈ (b0 :: (vblock v0_0).toList ++ ((vblock v0_1).toList ++ (ndB x.nodes))), ¬ Q2 i := (all_cons n_h0 (all_app (all_row (fun x hx => (a0_1.2 x hx).2)) (all_app (all_row (fun x hx => (a0_2.2 x hx).2)) (fun x hx => hN.nQB x hx)))); have hP9 := hP; have M9 := M; replace mf8_0_1 := mf8_0_1.reP (fun x hx => (mf8_0_1.2 x hx).1); replace mf8_0_1 := mf8_0_1.reP (fun x hx => (mf8_0_1.2 x hx).1.elim (hP x) (Fsh.new M x)); replace mf8_0_2 := mf8_0_2.reP (fun x hx => (mf8_0_2.2 x hx).1); replace mf8_0_2 := mf8_0_2.reP (fun x hx => (mf8_0_2.2 x hx).1.elim (hP x) (Fsh.new M x)); replace h1 := h1.sub sQ; replace tQ := fun b hb => tQ b (sT b hb); replace sQ0 := fun b hb hl => sQ b (sQ0 b hb hl) (Nat.lt_of_lt_of_le hl M.size); replace hS := fun i hi hq => hS i hi (sT i hq); replace h1 := h1.md hm hS; replace M := M.step hm hP; clear uQ; have uQ := uQ2; clear uQ2 sQ sT; clear hP hS h0 n_h0; have h0 := mh8_0; have n_h0 := mn8_0; clear mh8_0 mn8_0; replace mN8 := mN8.reP (fun x hx => hx.elim (hP9 x) (Fsh.new M9 x)); clear a0_1; clear hN; clear a0_2; have hN := mN8; clear mN8 hP9 M9; have mN : m8_0.nodes = (undoL f.nodes (f.pend.drop dirs.toNat).reverse).filter (·.no.there) := (by rw [← hF8]; show x.nodes.filter _ = _; rw [undo_end hd0 (by omega)] at i0_4; rw [← i0_4]; rfl); have mL : m8_0.nodes.length ≤ 1000000 := (by rw [mN]; refine Nat.le_trans (List.length_filter_le _ _) ?_; have e := congrArg List.length (undoL_ids (f.pend.drop dirs.toNat).reverse f.nodes); simp only [List.length_map] at e; omega); have mS : ∀ z ∈ m8_0.nodes, z.fl.b.length ≤ 1000000 ∧ z.fl.safe.length ≤ 1000000 := fun z hz => by rw [← hF8] at hz; exact i0_5 z (List.mem_filter.1 hz).1
      have mR : m8_0 = { f with nodes := m8_0.nodes, pend := [] } := (by rw [← hF8]; unfold settleF; rw [i0_0]); refine nt ?_; refine c_seq ?_; refine ns ?_; refine mv rfl ?_; refine st _ (r_nil rfl) ?_; refine st _ (r_field rfl off80_3) ?_; refine st _ ((r_loadBlk rfl one77 h0 rfl).to (b := mv8_0_0) rfl) ?_; refine st _ (r_len rfl u77 mf8_0_1.shp) ?_; refine mv rfl ?_; refine nt ?_; refine c_block ?_; refine loop4 (fun (fy : SFs) (j : Nat) (vkp : Value) (kp : List Bool) => [(37, (.int .i64 ((j : Nat) : Int))), (1, vkp), (0, (.pointer (some ⟨b0, 0, none⟩))), (35, mv8_0_0), (36, (.int .i64 ((m8_0.nodes.length : Nat) : Int)))]) (fun (fy : SFs) (j : Nat) (vkp : Value) (kp : List Bool) w' => ∃ Q' : Nat → Prop, (∀ b, Q' b → Q b) ∧ (∀ b, Q b → b < w.heap.size → Q' b) ∧ Up w' Q' ∧ Md (b0 :: (vblock v0_0).toList ++ ((vblock v0_1).toList ++ (ndB f.nodes))) w w' ∧ Blk w' b0 (SFs.cells fy mv8_0_0 mv8_0_1) 80 ∧ Ow tNd 82 (Fsh (b0 :: (vblock v0_0).toList ++ ((vblock v0_1).toList ++ (ndB f.nodes))) w) w' Q' mv8_0_0 fy.nodes ∧ Ow tSCh 92 (Fsh (b0 :: (vblock v0_0).toList ++ ((vblock v0_1).toList ++ (ndB f.nodes))) w) w' Q' mv8_0_1 fy.pend ∧ SFs.ok fy ∧ Ls tBool w' Q' vkp kp ∧ Nds 90 125 (Fsh (b0 :: (vblock v0_0).toList ++ ((vblock v0_1).toList ++ (ndB f.nodes))) w) w' Q' fy.nodes ∧ ¬ Q' b0 ∧ fy = { m8_0 with nodes := fy.nodes } ∧ fy.nodes.length = m8_0.nodes.length ∧ j ≤ m8_0.nodes.length ∧ fy.nodes.take j ++ crashG (fy.nodes.drop j) kp = crashG m8_0.nodes keep ∧ (∀ z ∈ fy.nodes, z.fl.b.length ≤ 1000000 ∧ z.fl.safe.length ≤ 1000000)) (fun (fy : SFs) (j : Nat) (vkp : Value) (kp : List Bool) => m8_0.nodes.length - j) (x0 := m8_0) (x1 := 0) (x2 := v1) (x3 := keep) ?_ ?_ ?_
      · exact ⟨rfl, rfl, rfl, rfl, rfl, trivial⟩
      · exact ⟨Q9, tQ, sQ0, uQ, M, h0, mf8_0_1, mf8_0_2, mq8_0_0, h1, hN, n_h0, rfl, rfl, (by omega), rfl, mS⟩
      · clear M uQ tQ sQ0 n_h0 h0 h1 hN mf8_0_1 mf8_0_2
        rintro fy j vkp kp B w10 ⟨Q11, tQ, sQ0, uQ, M, h0, mf8_0_1, mf8_0_2, kfy_0, f_kp, hN, n_h0, i1_0, i1_1, i1_2, i1_3, i1_4⟩; refine ns ?_; refine st _ (r_ltN (a := j) (b := m8_0.nodes.length) rfl rfl) ?_; refine nt ?_; refine c_seq ?_; refine c_if rfl (fun h38 => ?_) (fun h38 => ?_)
        · (first | (have h38n := of_decide_eq_true h38) | (have h38n := of_decide_eq_false (bnt h38)) | (have h38n := bnt h38) | (have h38n := h38)); refine c_skip ?_; refine c_then ?_; refine c_seq ?_; refine c_block ?_; refine ns ?_; refine st _ (r_indexN (i := j) 1 rfl rfl u77 el82 mf8_0_1.shp (by omega)) ?_; obtain ⟨x12, hx12⟩ := getE (l := fy.nodes) (i := j) (by first | omega | (simp <;> omega)); obtain ⟨c13, hr12, ha12⟩ := mf8_0_1.get hx12; obtain ⟨rfl, _⟩ := hr12; replace ha12 : At _ mv8_0_0 (j * 1) [(.pointer (some ⟨x12.id, 0, none⟩))] := ha12; refine st _ ((r_loadE (kk := j * 1) 0 rfl rfl one82 ha12 rfl).to (b := (.pointer (some ⟨x12.id, 0, none⟩))) rfl) ?_; refine asg rfl ?_; refine st_nil ?_; clear ha12; refine c_then ?_; refine ns ?_; refine mv rfl ?_; refine st _ (r_nil rfl) ?_; refine st _ (r_field rfl off90_2) ?_; obtain ⟨fv14, fw14, hf14, n_hf14, fb14, fs14⟩ := hN.file (List.mem_of_getElem? hx12); refine st _ ((r_loadBlk rfl one87 (hN.get (List.mem_of_getElem? hx12)).1 rfl).to (b := (.pointer (some ⟨x12.no.fid, 0, none⟩))) rfl) ?_; have mS2 := i1_4 _ (List.mem_of_getElem? hx12); refine st_call fn51 rfl (sDirty_any_ls uQ x12.fl hf14 n_hf14 fb14 fs14 (by first | omega | (simp <;> omega) | (simp at * <;> omega)) (by first | omega | (simp <;> omega) | (simp at * <;> omega))) ?_; rintro en w15 ⟨v15_0, x15_0, rfl, hm, h15_0, hF15⟩; refine ⟨_, rfl, ?_⟩; replace h0 := h0.md0 hm; replace mf8_0_1 := mf8_0_1.md0 hm; replace mf8_0_2 := mf8_0_2.md0 hm; replace f_kp := f_kp.md0 hm; replace hN := hN.md0 hm; replace fb14 := fb14.md0 hm; replace fs14 := fs14.md0 hm; replace hf14 := hf14.md0 hm; replace uQ := uQ.md hm; replace M := M.step0 hm; refine st _ (r_len rfl u66 h15_0.shp) ?_; refine mv rfl ?_; refine st _ (r_len rfl u37 f_kp.shp) ?_; refine st _ (r_minN (a := x15_0.length) (b := kp.length) rfl rfl) ?_; refine asg rfl ?_; refine st_nil ?_; clear hf14 n_hf14 fb14 fs14; refine c_then ?_; refine c_seq ?_; have hids := hN.ids; have h0_q := h0; have mf8_0_1_q := mf8_0_1; have mf8_0_2_q := mf8_0_2; have f_kp_q := f_kp; have hN_q := hN; have h15_0_q := h15_0; refine c_mixT [(0, true), (1, true), (2, true), (3, true), (4, true), (5, true), (6, true)] [7] (fun w' => Md [] w15 w') mixed (by kernel_rfl) ?_; intro w16 hd0; refine ⟨hd0.mono (by simp), ?_⟩; have MC := hd0.mono (T := []) (by simp); refine Go.Wk.m _ (fun w' hc => r_move rfl) ?_; refine Go.Wk.m _ (fun w' hc => r_nil rfl) ?_
          refine Go.Wk.m _ (fun w' hc => r_field rfl off90_2) ?_; obtain ⟨fv17, fw17, hf17, n_hf17, fb17, fs17⟩ := hN.file (List.mem_of_getElem? hx12); refine Go.Wk.m _ (fun w' hc => (r_loadBlk rfl one87 ((hN_q.md0 hc).get (List.mem_of_getElem? hx12)).1 rfl).to (b := (.pointer (some ⟨x12.no.fid, 0, none⟩))) rfl) ?_; refine Go.Wk.m _ (fun w' hc => r_move rfl) ?_; refine Go.Wk.m _ (fun w' hc => r_move rfl) ?_; refine Go.Wk.m _ (fun w' hc => r_sliceZ 1 0 (min x15_0.length kp.length) u37 el4 rfl f_kp.shp (by omega) (by omega) rfl ⟨_, rfl⟩) ?_; have hs18 := f_kp.head (hi := min x15_0.length kp.length) (by omega); refine m_nil ?_; replace h0 := h0.md0 hd0; replace mf8_0_1 := mf8_0_1.md0 hd0; replace mf8_0_2 := mf8_0_2.md0 hd0; replace f_kp := f_kp.md0 hd0; replace hN := hN.md0 hd0; replace h15_0 := h15_0.md0 hd0; replace fb17 := fb17.md0 hd0; replace fs17 := fs17.md0 hd0; replace hf17 := hf17.md0 hd0; replace hs18 := hs18.md0 hd0; replace uQ := uQ.md hd0; replace M := M.step0 hd0; clear h15_0_q h0_q f_kp_q mf8_0_1_q mf8_0_2_q hN_q; clear MC; refine st_call fn52 rfl (sCrash_any uQ x12.fl hf17 n_hf17 fb17 fs17 hs18 (mS2.1) (mS2.2)) ?_; rintro en w19 ⟨m19, u19, z19, rfl, hm, hb, _, hl0, hl1, hF19⟩; refine ⟨_, rfl, ?_⟩; subst hF19; have hNo := hN; clear hN; have hNb := hf17; have nq9 := n_hf17; clear hf17 n_hf17 fb17 fs17; have hS : ∀ b ∈ [x12.no.fid], ¬ Q11 b := (by intro b hb; rw [List.mem_singleton] at hb; subst hb; exact nq9); replace h0 := h0.md hm (by rw [List.mem_singleton]; exact blk_ne_ty h0 hNb (by decide)); replace mf8_0_1 := mf8_0_1.md hm (fun b hb => by rw [List.mem_singleton]; exact mf8_0_1.blk_ne hNb (by decide) b hb) hS; replace mf8_0_2 := mf8_0_2.md hm (fun b hb => by rw [List.mem_singleton]; exact mf8_0_2.blk_ne hNb (by decide) b hb) hS; replace f_kp := f_kp.md hm hS; replace h15_0 := h15_0.md hm hS; replace hs18 := hs18.md hm hS; replace uQ := uQ.md hm; replace M := M.step hm (all_cons (hNo.all _ (List.mem_of_getElem? hx12)).2.2.2.2.2 all_nil); clear hS; have hN9 := hNo.setFl (List.mem_of_getElem? hx12) (by decide) hm hb hl0 hl1; clear hNo hNb hb nq9 hl0 hl1; obtain ⟨s20, es20⟩ : ∃ y, y = ({ fy with nodes := updN fy.nodes x12.id (fun z => { z with fl := { b := crashB x12.fl.b x12.fl.safe (kp.take (min x15_0.length kp.length)), safe := crashB x12.fl.b x12.fl.safe (kp.take (min x15_0.length kp.length)) } }) } : SFs) := ⟨_, rfl⟩; replace h0 : Blk w19 b0 (SFs.cells s20 mv8_0_0 mv8_0_1) 80 := (by rw [es20]; exact h0); have oks20 : SFs.ok s20 := (by rw [es20]; exact kfy_0)
          replace mf8_0_1 := ow_ids mf8_0_1 (show s20.nodes.map (·.id) = fy.nodes.map (·.id) from by rw [es20]; exact updN_ids (fun _ => rfl)); rw [show fy.pend = s20.pend by rw [es20]] at mf8_0_2; have hN : Nds 90 125 (Fsh (b0 :: (vblock v0_0).toList ++ ((vblock v0_1).toList ++ (ndB f.nodes))) w) w19 Q11 s20.nodes := (by rw [es20]; exact hN9); clear hN9; refine nt ?_; refine c_region ?_; refine mv rfl ?_; refine mv rfl ?_; refine st _ (r_sliceZ 1 (min x15_0.length kp.length) kp.length u37 el4 rfl f_kp.shp (by omega) (by omega) ⟨_, rfl⟩ rfl) ?_; have hs21 := f_kp.tail (lo := min x15_0.length kp.length) (by omega); refine asg rfl ?_; refine st_nil ?_; refine n_block ?_; refine c_then ?_; refine c_region ?_; refine st _ (r_addN (a := j) (b := 1) 9223372036854775808 rfl rfl rfl (by omega)) ?_; refine mv rfl ?_; refine nt ?_; refine next4 (x0 := s20) (x1 := (j + 1)) (x2 := (subz 1 vkp (min x15_0.length kp.length) kp.length)) (x3 := (kp.drop (min x15_0.length kp.length))) (by omega) ⟨(fitI rfl (by omega)), rfl, rfl, rfl, rfl, trivial⟩ ⟨Q11, tQ, sQ0, uQ, M, h0, mf8_0_1, mf8_0_2, oks20, hs21, hN, n_h0, (by rw [es20]; rw [i1_0]), (by have e := congrArg List.length (show s20.nodes.map (·.id) = fy.nodes.map (·.id) from by rw [es20]; exact updN_ids fun _ => rfl); simp only [List.length_map] at e; omega), (by omega), (by rw [es20]; show (updN fy.nodes _ _).take _ ++ crashG ((updN fy.nodes _ _).drop _) _ = _; rw [updN_at hids hx12]; exact crash_step hx12 (by rw [hF15]) rfl i1_3), (by rw [es20]; intro q hq; rcases mem_updN hq with ⟨q2, hq2, _, rfl⟩ | ⟨hq2, _⟩; (· show (crashB _ _ _).length ≤ _ ∧ (crashB _ _ _).length ≤ _; have e := crash_len x12.fl.b x12.fl.safe (kp.take (min x15_0.length kp.length)); omega); (· exact i1_4 q hq2))⟩
        · (first | (have h38n := of_decide_eq_false h38) | (have h38n := of_decide_eq_true (bnf h38)) | (have h38n := bnf h38) | (have h38n := h38)); refine c_exit ?_; refine x_then ?_; refine x_then ?_; refine x_hit ?_; refine c_then ?_; refine c_region ?_; refine mv rfl ?_; refine mv rfl ?_; refine st _ (r_nil rfl) ?_; refine st _ (r_field rfl off80_2) ?_; refine st_store rfl rfl one4 rfl h0 (Nat.le_of_ble_eq_true rfl) ?_; have h00 := h0; clear h0; intro w22 hm h0; have hS : ∀ b ∈ [b0], ¬ Q11 b := (by intro b hb; simp at hb; subst hb; exact n_h0); replace mf8_0_1 := mf8_0_1.md hm (apart_bo h00 mf8_0_1 (by decide)) hS; replace mf8_0_2 := mf8_0_2.md hm (apart_bo h00 mf8_0_2 (by decide)) hS; replace f_kp := f_kp.md hm hS; replace hN := hN.md hm (hN.ap1 h00 (by decide) (by decide)) hS; replace uQ := uQ.md hm; replace M := M.step hm (all_cons p_h0 all_nil); clear h00 hS; obtain ⟨s23, es23⟩ : ∃ y, y = ({ fy with off := false } : SFs) := ⟨_, rfl⟩; replace h0 : Blk _ _ (SFs.cells ({ fy with off := false }) mv8_0_0 mv8_0_1) _ := h0; rw [← es23] at h0; have oks23 : SFs.ok s23 := (by rw [es23]; exact ⟨kfy_0.1, kfy_0.2⟩); replace hN : Nds 90 125 (Fsh (b0 :: (vblock v0_0).toList ++ ((vblock v0_1).toList ++ (ndB f.nodes))) w) w22 Q11 s23.nodes := (by rw [es23]; exact hN); rw [show fy.nodes = s23.nodes by rw [es23]] at mf8_0_1; rw [show fy.pend = s23.pend by rw [es23]] at mf8_0_2; refine st _ (r_nil rfl) ?_; refine st _ (r_field rfl off80_1) ?_; refine st_store rfl rfl one3 rfl h0 (Nat.le_of_ble_eq_true rfl) ?_; have h00 := h0; clear h0; intro w24 hm h0; have hS : ∀ b ∈ [b0], ¬ Q11 b := (by intro b hb; simp at hb; subst hb; exact n_h0); replace mf8_0_1 := mf8_0_1.md hm (apart_bo h00 mf8_0_1 (by decide)) hS; replace mf8_0_2 := mf8_0_2.md hm (apart_bo h00 mf8_0_2 (by decide)) hS; replace f_kp := f_kp.md hm hS; replace hN := hN.md hm (hN.ap1 h00 (by decide) (by decide)) hS; replace uQ := uQ.md hm; replace M := M.step hm (all_cons p_h0 all_nil); clear h00 hS; obtain ⟨s25, es25⟩ : ∃ y, y = ({ s23 with fuse := (-1) } : SFs) := ⟨_, rfl⟩; replace h0 : Blk _ _ (SFs.cells ({ s23 with fuse := (-1) }) mv8_0_0 mv8_0_1) _ := h0; rw [← es25] at h0; have oks25 : SFs.ok s25 := (by rw [es25]; exact ⟨oks23.1, (by first | omega | assumption | (simp <;> omega) | simp_all)⟩); replace hN : Nds 90 125 (Fsh (b0 :: (vblock v0_0).toList ++ ((vblock v0_1).toList ++ (ndB f.nodes))) w) w24 Q11 s25.nodes := (by rw [es25]; exact hN); rw [show s23.nodes = s25.nodes by rw [es25]] at mf8_0_1
          rw [show s23.pend = s25.pend by rw [es25]] at mf8_0_2; refine st_nil ?_; exact retL (vs := []) trivial rfl trivial rfl ⟨s25, _, _, Q11, rfl, M, ⟨sQ0, tQ, uQ⟩, h0, n_h0, oks25, mf8_0_1, mf8_0_2, hN, (by rw [es25, es23]; show crashR f keep dirs = _; rw [List.drop_of_length_le (by omega), List.take_of_length_le (by omega)] at i1_3; simp only [crashG, List.append_nil] at i1_3; rw [i1_0, mR, i1_3, mN]; rfl)⟩
end Go.Proofs.Ytcaokfendkkafaa
namespace Go.Proofs.Ytcaokfendkkafaa
open Go Go.Wk Go.RowKit
set_option linter.unusedVariables false
set_option linter.unusedSimpArgs false
attribute [local irreducible] wpList wpQuiet wpStill wpMix Code.wp Calls bodyPost
theorem fn53 : isFn Try.prog 53 = true := by kernel_rfl

def nmF (off : Bool) (l : List SNd) : List (List UInt8) := if off = true then [] else (l.filter (·.no.there)).map (·.no.nm)
def namesD (f : SFs) : List (List UInt8) := sortL (nmF f.off f.nodes)
theorem nmF_end {off : Bool} {l : List SNd} {i : Nat} (h : ¬ i < l.length) : nmF off (l.drop i) = [] := by rw [List.drop_of_length_le (by omega)]; unfold nmF; split <;> rfl
theorem nmF_yes {off : Bool} {l : List SNd} {i : Nat} {x : SNd} (h : l[i]? = some x) (h1 : x.no.there = true) (h2 : off = false) : nmF off (l.drop i) = x.no.nm :: nmF off (l.drop (i + 1)) := by
  unfold nmF; rw [h2, findN_get h, List.filter_cons, if_pos h1]; rfl
theorem nmF_no {off : Bool} {l : List SNd} {i : Nat} {x : SNd} (h : l[i]? = some x) (h1 : ¬ (x.no.there = true ∧ off = false)) : nmF off (l.drop i) = nmF off (l.drop (i + 1)) := by
  unfold nmF
  cases off with
  | true => rfl
  | false =>
    simp only [Bool.false_eq_true, if_false]; rw [findN_get h, List.filter_cons, if_neg (by simpa using h1)]
theorem fNames_any {w : World} {Q : Nat → Prop} (uQ : Up w Q) {b0 : Nat} {v0_0 : Value} {v0_1 : Value} (f : SFs) (h0 : Blk w b0 (SFs.cells f v0_0 v0_1) 80) (n0 : ¬ Q b0) (a0_0 : SFs.ok f) (a0_1 : Ow tNd 82 (fun _ => True) w Q v0_0 f.nodes) (a0_2 : Ow tSCh 92 (fun _ => True) w Q v0_1 f.pend) (p0 : Nds 90 125 (fun _ => True) w Q f.nodes) (p1 : f.nodes.length ≤ 1000000) :
    Calls Try.prog 18 #[.pointer (some ⟨b0, 0, none⟩)] w fun en w' => ∃ u0 : Value, ∃ r0 : List (List UInt8), en = .returned (u0) ∧ Md [] w w' ∧ Ls tStr w' Q u0 r0 ∧ namesD f = r0 := by
  have hN := p0; have Ln := a0_1.read.len63; have n_h0 := n0; have M := Md.refl [] w; have uQ0 := uQ; have tQ : ∀ b, Q b → Q b := fun _ h => h; have sQ0 : ∀ b, Q b → b < w.heap.size → Q b := fun _ h _ => h; refine enter (n := 37) Try.func18 rfl rfl rfl ?_; intro B; refine ns ?_; refine asg rfl ?_; refine nt ?_; refine ns ?_; refine asg rfl ?_; refine nt ?_; refine c_seq ?_; refine ns ?_; refine mv rfl ?_; refine st _ (r_nil rfl) ?_; refine st _ (r_field rfl off80_3) ?_; refine st _ ((r_loadBlk rfl one77 h0 rfl).to (b := v0_0) rfl) ?_; refine st _ (r_len rfl u77 a0_1.shp) ?_; refine mv rfl ?_; refine nt ?_; refine c_block ?_; obtain ⟨r0, hr00⟩ : ∃ r, nmF f.off f.nodes = r := ⟨_, rfl⟩; have hr0o := hr00
  try simp only [List.nil_append] at hr00
  refine loop3 (fun (vout : Value) (out : List (List UInt8)) (i : Nat) => [(3, vout), (11, (.int .i64 ((i : Nat) : Int))), (0, (.pointer (some ⟨b0, 0, none⟩))), (2, (.slice none 0 0)), (9, v0_0), (10, (.int .i64 ((f.nodes.length : Nat) : Int)))]) (fun (vout : Value) (out : List (List UInt8)) (i : Nat) w' => ∃ Q' : Nat → Prop, (∀ b, Q' b → Q b) ∧ (∀ b, Q b → b < w.heap.size → Q' b) ∧ Up w' Q' ∧ Md [] w w' ∧ Ow tStr 9 (Fsh [] w) w' Q' vout out ∧ Blk w' b0 (SFs.cells f v0_0 v0_1) 80 ∧ Ow tNd 82 (fun _ => True) w' Q' v0_0 f.nodes ∧ Ow tSCh 92 (fun _ => True) w' Q' v0_1 f.pend ∧ Nds 90 125 (fun _ => True) w' Q' f.nodes ∧ ¬ Q' b0 ∧ i ≤ f.nodes.length ∧ out.length ≤ i ∧ out ++ nmF f.off (f.nodes.drop i) = r0) (fun (vout : Value) (out : List (List UInt8)) (i : Nat) => f.nodes.length - i) (x0 := (.slice none 0 0)) (x1 := ([] : List (List UInt8))) (x2 := 0) ?_ ?_ ?_
  · exact ⟨rfl, rfl, rfl, rfl, rfl, rfl, trivial⟩
  · exact ⟨Q, tQ, sQ0, uQ, M, (Ow.nil _ _ _ _ _), h0, a0_1, a0_2, hN, n_h0, (by omega), (by simp), (by have hh := hr00; first | exact hh | exact hr0o | (simp only [List.nil_append] at hh; exact hh))⟩
  · clear M uQ tQ sQ0 n_h0 a0_1 a0_2 h0 hN
    rintro vout out i B w1 ⟨Q2, tQ, sQ0, uQ, M, f_out, h0, a0_1, a0_2, hN, n_h0, i0_0, i0_1, hr0⟩; refine ns ?_; refine st _ (r_ltN (a := i) (b := f.nodes.length) rfl rfl) ?_; refine nt ?_; refine c_seq ?_; refine c_if rfl (fun h12 => ?_) (fun h12 => ?_)
    · (first | (have h12n := of_decide_eq_true h12) | (have h12n := of_decide_eq_false (bnt h12)) | (have h12n := bnt h12) | (have h12n := h12)); refine c_skip ?_; refine c_then ?_; refine c_seq ?_; refine c_block ?_; refine ns ?_; refine st _ (r_indexN (i := i) 1 rfl rfl u77 el82 a0_1.shp (by omega)) ?_; obtain ⟨x3, hx3⟩ := getE (l := f.nodes) (i := i) (by first | omega | (simp <;> omega)); obtain ⟨c4, hr3, ha3⟩ := a0_1.get hx3; obtain ⟨rfl, _⟩ := hr3; replace ha3 : At _ v0_0 (i * 1) [(.pointer (some ⟨x3.id, 0, none⟩))] := ha3; refine st _ ((r_loadE (kk := i * 1) 0 rfl rfl one82 ha3 rfl).to (b := (.pointer (some ⟨x3.id, 0, none⟩))) rfl) ?_; refine asg rfl ?_; refine st_nil ?_; clear ha3; refine c_then ?_; refine ns ?_; refine mv rfl ?_; refine st _ (r_nil rfl) ?_; refine st _ (r_field rfl off90_1) ?_; refine st _ ((r_loadBlk rfl one4 (hN.get (List.mem_of_getElem? hx3)).1 rfl).to (b := (.bool x3.no.there)) rfl) ?_; refine mv rfl ?_; refine part_n (t := 19) rfl (fun h19 => ?_) (fun h19 => ?_)
      · (first | (have h19n := of_decide_eq_true h19) | (have h19n := of_decide_eq_false (bnt h19)) | (have h19n := bnt h19) | (have h19n := h19)); refine st_g _ rfl rfl rfl h19 (r_move rfl) ?_; refine st_g _ rfl rfl rfl h19 (r_nil rfl) ?_; refine st_g _ rfl rfl rfl h19 (r_field rfl off80_2) ?_; refine st_g _ rfl rfl rfl h19 ((r_loadBlk rfl one4 h0 rfl).to (b := (.bool f.off)) rfl) ?_; refine st_g _ rfl rfl rfl h19 (r_not rfl) ?_; refine st _ (r_pick_t rfl h19 rfl) ?_; refine nt ?_; refine c_if rfl (fun h25 => ?_) (fun h25 => ?_)
        · (first | (have h25n := of_decide_eq_true h25) | (have h25n := of_decide_eq_false (bnt h25)) | (have h25n := bnt h25) | (have h25n := h25)); refine c_region ?_; refine mv rfl ?_; refine mv rfl ?_; refine st _ (r_nil rfl) ?_; refine st _ (r_field rfl off90_0) ?_; refine st _ ((r_loadBlk rfl one9 (hN.get (List.mem_of_getElem? hx3)).1 rfl).to (b := (str x3.no.nm)) rfl) ?_; refine st_buildSliceG [[(str x3.no.nm)]] u30 elT9 (by decide) (by decide) rfl rfl ⟨rfl, trivial⟩ ⟨rfl, trivial⟩ rfl (by decide) ?_; intro ba31 w5 ga31 la31 hm ha31; have ya31 := uQ _ ga31; replace f_out := f_out.md0 hm; replace h0 := h0.md0 hm; replace a0_1 := a0_1.md0 hm; replace a0_2 := a0_2.md0 hm; replace hN := hN.md0 hm; replace uQ := uQ.md hm; replace M := M.step0 hm; replace ha31 := Ls.of_blk (m := 1) (R := Q2) (T := tStr) (xs := [x3.no.nm]) ha31 ⟨_, _, rfl, ⟨rfl, trivial⟩, rfl⟩ rfl (by decide) ya31; refine st_ap (sz := 1) (by rfl) u30 elT9 rfl rfl f_out ha31 (fun _ h _ => h) uQ (Fsh.new M) (by first | omega | (simp <;> omega) | (simp at * <;> omega)) (by first | omega | (simp <;> omega) | (simp at * <;> omega)) ?_; intro v7 w8 Q9 sQ sT uQ2 hO6 hm hS _ hv2; have f_out0 := f_out; clear f_out; replace n_h0 := fun hh => n_h0 (sT _ hh); replace a0_1 := a0_1.sub sQ sT; replace a0_2 := a0_2.sub sQ sT; replace hN := hN.sub sQ sT; replace ha31 := ha31.sub sQ; replace tQ := fun b hb => tQ b (sT b hb); replace sQ0 := fun b hb hl => sQ b (sQ0 b hb hl) (Nat.lt_of_lt_of_le hl M.size); replace h0 := h0.md hm (apart_ow f_out0 h0 (by decide)); replace a0_1 := a0_1.md hm (apart_oo f_out0 a0_1 (by decide)) hS; replace a0_2 := a0_2.md hm (apart_oo f_out0 a0_2 (by decide)) hS; replace hN := hN.md hm (hN.apO f_out0 (by decide) (by decide)) hS; replace ha31 := ha31.md hm hS; replace uQ := uQ.md hm; replace M := M.stepO hm (fun b hb => (f_out0.2 b hb).1); clear uQ; have uQ := uQ2; clear uQ2 sQ sT hS hv2; refine asg rfl ?_; refine st_nil ?_; refine n_block ?_; refine c_then ?_; refine c_region ?_; refine st _ (r_addN (a := i) (b := 1) 9223372036854775808 rfl rfl rfl (by omega)) ?_; refine mv rfl ?_; refine nt ?_; refine next3 (x0 := v7) (x1 := (out ++ ([x3.no.nm]))) (x2 := (i + 1)) (by omega) ⟨rfl, (fitI rfl (by omega)), rfl, rfl, rfl, rfl, trivial⟩ ⟨Q9, tQ, sQ0, uQ, M, hO6, h0, a0_1, a0_2, hN, n_h0, (by omega), (by simp; omega), (by have hh := hr0; rw [nmF_yes hx3 (by simp_all) (by simp_all)] at hh; rw [List.append_assoc]; exact hh)⟩
        · (first | (have h25n := of_decide_eq_false h25) | (have h25n := of_decide_eq_true (bnf h25)) | (have h25n := bnf h25) | (have h25n := h25)); refine c_skip ?_; refine n_block ?_; refine c_then ?_; refine c_region ?_; refine st _ (r_addN (a := i) (b := 1) 9223372036854775808 rfl rfl rfl (by omega)) ?_; refine mv rfl ?_; refine nt ?_; refine next3 (x0 := vout) (x1 := out) (x2 := (i + 1)) (by omega) ⟨rfl, (fitI rfl (by omega)), rfl, rfl, rfl, rfl, trivial⟩ ⟨Q2, tQ, sQ0, uQ, M, f_out, h0, a0_1, a0_2, hN, n_h0, (by omega), (by omega), (by have hh := hr0; rw [nmF_no hx3 (by simp_all)] at hh; exact hh)⟩
      · (first | (have h19n := of_decide_eq_false h19) | (have h19n := of_decide_eq_true (bnf h19)) | (have h19n := bnf h19) | (have h19n := h19)); refine st_skip rfl rfl rfl h19 ?_; refine st_skip rfl rfl rfl h19 ?_; refine st_skip rfl rfl rfl h19 ?_; refine st_skip rfl rfl rfl h19 ?_; refine st_skip rfl rfl rfl h19 ?_; refine st _ (r_pick_f rfl h19 rfl) ?_; refine nt ?_; refine c_if_f rfl rfl ?_; refine c_skip ?_; refine n_block ?_; refine c_then ?_; refine c_region ?_; refine st _ (r_addN (a := i) (b := 1) 9223372036854775808 rfl rfl rfl (by omega)) ?_; refine mv rfl ?_; refine nt ?_; refine next3 (x0 := vout) (x1 := out) (x2 := (i + 1)) (by omega) ⟨rfl, (fitI rfl (by omega)), rfl, rfl, rfl, rfl, trivial⟩ ⟨Q2, tQ, sQ0, uQ, M, f_out, h0, a0_1, a0_2, hN, n_h0, (by omega), (by omega), (by have hh := hr0; rw [nmF_no hx3 (by simp_all)] at hh; exact hh)⟩
    · (first | (have h12n := of_decide_eq_false h12) | (have h12n := of_decide_eq_true (bnf h12)) | (have h12n := bnf h12) | (have h12n := h12)); refine c_exit ?_; refine x_then ?_; refine x_then ?_; refine x_hit ?_; refine c_then ?_; refine ns ?_; refine mv rfl ?_; have hS : ∀ b ∈ (vblock vout).toList, ¬ Q2 b := fun b hb => (f_out.2 b (by simpa using hb)).2; refine st_call fn53 rfl (sortS sortStr f_out (by omega)) ?_; rintro en w10 ⟨rfl, hm, f_out2⟩; refine ⟨_, rfl, ?_⟩; have f_out0 := f_out; clear f_out; have f_out := f_out2; clear f_out2; replace h0 := h0.md hm (apart_ow f_out0 h0 (by decide)); replace a0_1 := a0_1.md hm (apart_oo f_out0 a0_1 (by decide)) hS; replace a0_2 := a0_2.md hm (apart_oo f_out0 a0_2 (by decide)) hS; replace hN := hN.md hm (hN.apO f_out0 (by decide) (by decide)) hS; replace uQ := uQ.md hm; replace M := M.stepO hm (fun b hb => (f_out0.2 b hb).1); clear f_out0 hS; refine nt ?_; refine ns ?_; refine mv rfl ?_; refine asg rfl ?_; refine nt ?_; refine c_ret ?_; exact ret1L (v := vout) trivial rfl ⟨rfl, trivial⟩ ⟨_, (sortL out), rfl, M, (f_out.ls (fun b hb => tQ b hb) (Fsh.up uQ0)), (by have e := hr0o.trans hr0.symm; rw [nmF_end (by omega), List.append_nil] at e; unfold namesD; rw [e])⟩
end Go.Proofs.Ytcaokfendkkafaa
namespace Go.Proofs.Ytcaokfendkkafaa
open Go Go.Wk Go.RowKit
set_option linter.unusedVariables false
set_option linter.unusedSimpArgs false
attribute [local irreducible] wpList wpQuiet wpStill wpMix Code.wp Calls bodyPost

/-- A directory that may be: so many nodes and changes at most, no file greater than it may be, changes of its own nodes alone. -/
def cIn (l : List SNd) (c : SCh) : Prop := c.n ∈ l.map (·.id) ∧ ∀ o, c.over = some o → o ∈ l.map (·.id)
structure fWf (k : Nat) (f : SFs) : Prop where
  n : f.nodes.length ≤ k
  p : f.pend.length ≤ k
  fl : ∀ x ∈ f.nodes, x.fl.b.length ≤ 32768 ∧ x.fl.safe.length ≤ 32768
  ch : ∀ c ∈ f.pend, cIn f.nodes c
  room : 0 ≤ f.room
  nd : (f.nodes.map (·.id)).Nodup
theorem tot_le {k : Nat} : ∀ {l : List SNd}, (∀ x ∈ l, x.fl.b.length ≤ 32768 ∧ x.fl.safe.length ≤ 32768) → l.length ≤ k → (totF l).2 ≤ k * 32768
  | [], _, _ => Nat.zero_le _
  | x :: l, h, hl => by
    obtain ⟨k, rfl⟩ : ∃ j, k = j + 1 := ⟨k - 1, by simp at hl; omega⟩; have := tot_le (k := k) (l := l) (fun y hy => h y (List.mem_cons_of_mem _ hy)) (by simpa using hl); have h0 := (h x List.mem_cons_self).1; rw [totF, Nat.succ_mul]
    split
    · exact Nat.add_le_add this h0
    · exact Nat.le_trans this (Nat.le_add_right _ _)
theorem fWf.up {k k' : Nat} {f : SFs} (h : fWf k f) (hk : k ≤ k') : fWf k' f := ⟨Nat.le_trans h.n hk, Nat.le_trans h.p hk, h.fl, h.ch, h.room, h.nd⟩
theorem cIn.of {l l' : List SNd} {c : SCh} (h : cIn l c) (hi : ∀ b ∈ l.map (·.id), b ∈ l'.map (·.id)) : cIn l' c := ⟨hi _ h.1, fun o ho => hi _ (h.2 o ho)⟩
theorem wf_burn {k : Nat} {f m : SFs} {r : Nat} (h : fWf k f) (e : burnF f = (r, m)) : fWf k m := by
  have b := burn_eq e; exact ⟨by rw [b.1]; exact h.n, by rw [b.2.1]; exact h.p, by rw [b.1]; exact h.fl, by rw [b.1, b.2.1]; exact h.ch, by rw [b.2.2]; exact h.room, by rw [b.1]; exact h.nd⟩
theorem wf_burn' {k : Nat} {f : SFs} (h : fWf k f) : fWf k (burnF f).2 := wf_burn (r := (burnF f).1) h rfl
theorem wf_upd {k : Nat} {f : SFs} {i : Nat} {g : SNd → SNd} {p : List SCh} (h : fWf k f) (hg : ∀ z, (g z).id = z.id) (hs : ∀ z ∈ f.nodes, (g z).fl.b.length ≤ 32768 ∧ (g z).fl.safe.length ≤ 32768) (hp : ∀ c ∈ p, c ∈ f.pend ∨ cIn f.nodes c) (hpl : p.length ≤ k + 1) : fWf (k + 1) { f with nodes := updN f.nodes i g, pend := p } := by
  have hi := updN_ids (l := f.nodes) (i := i) hg; refine ⟨?_, hpl, fun x hx => ?_, fun c hc => ?_, h.room, ?_⟩
  · have := congrArg List.length hi; simp only [List.length_map] at this; show (updN f.nodes i g).length ≤ _; have := h.n; omega
  · rcases mem_updN hx with ⟨z, hz, _, rfl⟩ | ⟨hz, _⟩
    · exact hs z hz
    · exact h.fl x hz
  · have : cIn f.nodes c := (hp c hc).elim (h.ch c) id
    exact this.of fun b hb => by show b ∈ (updN f.nodes i g).map _; rw [hi]; exact hb
  · show ((updN f.nodes i g).map _).Nodup; rw [hi]; exact h.nd
theorem wf_make {k : Nat} {f m : SFs} {s : List UInt8} {i j r : Nat} (h : fWf k f) (hn : i ∉ f.nodes.map (·.id) ∨ r ≠ 0) (e : makeR f s i j = (r, m)) : fWf (k + 1) m := by
  unfold makeR at e
  split at e
  · cases e; exact h.up (Nat.le_succ _)
  · split at e
    · cases e; exact h.up (Nat.le_succ _)
    · split at e
      · cases e; exact h.up (Nat.le_succ _)
      · split at e
        · exact (wf_burn h e).up (Nat.le_succ _)
        · cases e
          have hb := burn_same f; refine ⟨?_, ?_, fun x hx => ?_, fun c hc => ?_, by show 0 ≤ (burnF f).2.room; rw [hb.2.2]; exact h.room, ?_⟩
          · simp; exact h.n
          · simp; exact h.p
          · rcases List.mem_append.1 hx with hx | hx
            · exact h.fl x hx
            · rw [List.mem_singleton] at hx; subst hx; simp
          · rcases List.mem_append.1 hc with hc | hc
            · exact (h.ch c hc).of fun b hb => by rw [List.map_append]; exact List.mem_append.2 (.inl hb)
            · rw [List.mem_singleton] at hc; subst hc
              exact ⟨by simp, fun o ho => by cases ho⟩
          · rw [List.map_append, List.nodup_append]
            refine ⟨h.nd, by simp, fun a ha b hb' => ?_⟩; simp only [List.map_cons, List.map_nil, List.mem_singleton] at hb'; subst hb'; rintro rfl; exact hn.elim (fun h => h ha) (fun h => h rfl)
theorem wf_burnp {k : Nat} {f : SFs} {i : Nat} {g : SNd → SNd} {p : List SCh} (h : fWf k f) (hg : ∀ z, (g z).id = z.id) (hs : ∀ z ∈ f.nodes, (g z).fl.b.length ≤ 32768 ∧ (g z).fl.safe.length ≤ 32768) (hp : ∀ c ∈ p, c ∈ f.pend ∨ cIn f.nodes c) (hpl : p.length ≤ k + 1) : fWf (k + 1) { (burnF f).2 with nodes := updN f.nodes i g, pend := p } := by
  have hb := burn_same f; have := wf_upd (i := i) (g := g) (p := p) (wf_burn' h) hg (by rw [hb.1]; exact hs) (by rw [hb.1, hb.2.1]; exact hp) hpl; rw [hb.1] at this; exact this
theorem wf_write {k : Nat} {f m : SFs} {s : List UInt8} {p : Int} {b : List UInt8} {j r : Nat} (h : fWf k f) (e : writeR f s p b j = (r, m)) : fWf (k + 1) m := by
  unfold writeR at e
  split at e
  · cases e; exact h.up (Nat.le_succ _)
  · split at e
    · cases e; exact h.up (Nat.le_succ _)
    · rename_i x hx
      have hm := (findN_mem hx).1
      split at e
      · cases e; exact h.up (Nat.le_succ _)
      · split at e
        · cases e; exact h.up (Nat.le_succ _)
        · split at e
          · exact (wf_burn h e).up (Nat.le_succ _)
          · cases e
            have hw := wr_len (f := x.fl) (p := p) (x := b) (e := (wrF x.fl p b).1) (y := (wrF x.fl p b).2) rfl; have hf := h.fl x hm; have hb := burn_same f; have := wf_burnp (i := x.id) (g := fun z => { z with no := { z.no with fid := j }, fl := (wrF x.fl p b).2 }) (p := f.pend) h (fun _ => rfl) (fun z hz => ⟨by have := hw.1; show (wrF x.fl p b).2.b.length ≤ _; omega, by show (wrF x.fl p b).2.safe.length ≤ _; rw [hw.2]; exact hf.2⟩) (fun c hc => .inl hc) (Nat.le_succ_of_le h.p); rw [← hb.2.1] at this; exact this
theorem wf_sync {k : Nat} {f m : SFs} {s : List UInt8} {r : Nat} (h : fWf k f) (e : syncR f s = (r, m)) : fWf (k + 1) m := by
  unfold syncR at e
  split at e
  · cases e; exact h.up (Nat.le_succ _)
  · split at e
    · cases e; exact h.up (Nat.le_succ _)
    · rename_i x hx
      have hm := (findN_mem hx).1
      split at e
      · exact (wf_burn h e).up (Nat.le_succ _)
      · cases e
        have hf := h.fl x hm; have hb := burn_same f; have := wf_burnp (i := x.id) (g := fun z => { z with fl := { b := x.fl.b, safe := x.fl.b } }) (p := f.pend) h (fun _ => rfl) (fun z hz => ⟨hf.1, hf.1⟩) (fun c hc => .inl hc) (Nat.le_succ_of_le h.p); rw [← hb.2.1] at this; exact this
theorem wf_settle {k : Nat} {f : SFs} (h : fWf k f) : fWf k (settleF f) :=
  ⟨Nat.le_trans (List.length_filter_le _ _) h.n, Nat.zero_le _, fun x hx => h.fl x (List.mem_filter.1 hx).1, fun c hc => absurd hc List.not_mem_nil, h.room, h.nd.sublist (List.filter_sublist.map _)⟩
theorem wf_dir {k : Nat} {f m : SFs} {r : Nat} (h : fWf k f) (e : syncDirR f = (r, m)) : fWf (k + 1) m := by
  unfold syncDirR at e
  split at e
  · cases e; exact h.up (Nat.le_succ _)
  · split at e
    · exact (wf_burn h e).up (Nat.le_succ _)
    · cases e; exact (wf_settle (wf_burn' h)).up (Nat.le_succ _)
theorem undoL_fl {l : List SNd} : ∀ {r : List SCh}, (∀ z ∈ l, z.fl.b.length ≤ 32768 ∧ z.fl.safe.length ≤ 32768) → ∀ z ∈ undoL l r, z.fl.b.length ≤ 32768 ∧ z.fl.safe.length ≤ 32768 := by
  intro r
  induction r generalizing l with
  | nil => exact fun h => h
  | cons c r ih =>
    intro h; refine ih (l := undoN l c) ?_; unfold undoN
    split
    · exact updN_all h fun _ h => h
    · split
      · split
        · exact updN_all h fun _ h => h
        · exact updN_all (updN_all h fun _ h => h) fun _ h => h
      · exact updN_all h fun _ h => h
theorem crashG_fl : ∀ {l : List SNd} {k : List Bool}, (∀ z ∈ l, z.fl.b.length ≤ 32768 ∧ z.fl.safe.length ≤ 32768) → ∀ z ∈ crashG l k, z.fl.b.length ≤ 32768 ∧ z.fl.safe.length ≤ 32768
  | [], _, _ => fun z hz => absurd hz List.not_mem_nil
  | y :: l, k, h => by
    intro z hz; rw [crashG] at hz; rcases List.mem_cons.1 hz with rfl | hz
    · have h0 := h y List.mem_cons_self
      refine ⟨?_, ?_⟩ <;> (refine Nat.le_trans (crash_len _ _ _) ?_; omega)
    · exact crashG_fl (fun q hq => h q (List.mem_cons_of_mem _ hq)) z hz
theorem wf_crash {k : Nat} {f : SFs} {keep : List Bool} {d : Int} (h : fWf k f) : fWf k (crashR f keep d) := by
  have e1 := crashG_ids ((undoL f.nodes (f.pend.drop d.toNat).reverse).filter (·.no.there)) keep; refine ⟨?_, Nat.zero_le _, crashG_fl fun z hz => undoL_fl h.fl z (List.mem_filter.1 hz).1, fun c hc => absurd hc List.not_mem_nil, h.room, ?_⟩
  · have e2 := congrArg List.length e1
    have e3 := congrArg List.length (undoL_ids (f.pend.drop d.toNat).reverse f.nodes); simp only [List.length_map] at e2 e3; show (crashG _ _).length ≤ k; rw [e2]; refine Nat.le_trans (List.length_filter_le _ _) ?_; rw [e3]; exact h.n
  · show ((crashG _ _).map _).Nodup
    rw [e1]; have := undoL_ids (f.pend.drop d.toNat).reverse f.nodes; exact ((this ▸ h.nd : ((undoL f.nodes (f.pend.drop d.toNat).reverse).map (·.id)).Nodup)).sublist (List.filter_sublist.map _)
/-- The blocks of a directory. -/
def fBl (b : Nat) (v0 v1 : Value) (l : List SNd) : List Nat := b :: (vblock v0).toList ++ ((vblock v1).toList ++ ndB l)
/-- A directory in memory, in the blocks of fp alone. -/
def FsO (k : Nat) (fp : List Nat) (w : World) (Q : Nat → Prop) (b : Nat) (f : SFs) : Prop :=
  ∃ v0 v1, fp = fBl b v0 v1 f.nodes ∧ Blk w b (SFs.cells f v0 v1) 80 ∧ ¬ Q b ∧ SFs.ok f ∧ Ow tNd 82 (fun _ => True) w Q v0 f.nodes ∧ Ow tSCh 92 (fun _ => True) w Q v1 f.pend ∧ Nds 90 125 (fun _ => True) w Q f.nodes ∧ fWf k f
section
variable {k : Nat} {fp S : List Nat} {w w' : World} {Q Q' : Nat → Prop} {b : Nat} {f : SFs}
theorem FsO.up {k' : Nat} (h : FsO k fp w Q b f) (hk : k ≤ k') : FsO k' fp w Q b f := by obtain ⟨v0, v1, h1, h2, h3, h4, h5, h6, h7, h8⟩ := h; exact ⟨v0, v1, h1, h2, h3, h4, h5, h6, h7, h8.up hk⟩
theorem FsO.lt (h : FsO k fp w Q b f) : ∀ x ∈ fp, x < w.heap.size ∧ ¬ Q x := by
  obtain ⟨v0, v1, rfl, h2, h3, h4, h5, h6, h7, h8⟩ := h; intro x hx; unfold fBl at hx; simp only [List.mem_append, List.mem_cons, Option.mem_toList] at hx; rcases hx with (rfl | hx) | hx | hx
  · exact ⟨h2.lt, h3⟩
  · exact ⟨h5.lt x hx, (h5.2 x hx).2⟩
  · exact ⟨h6.lt x hx, (h6.2 x hx).2⟩
  · exact ⟨h7.ltB x hx, h7.nQB x hx⟩
theorem FsO.md (h : FsO k fp w Q b f) (m : Md S w w') (ha : ∀ x ∈ fp, x ∉ S) (hs : ∀ b ∈ S, ¬ Q b) : FsO k fp w' Q b f := by
  obtain ⟨v0, v1, rfl, h2, h3, h4, h5, h6, h7, h8⟩ := h; refine ⟨v0, v1, rfl, h2.md m (ha _ (by simp [fBl])), h3, h4, h5.md m (fun x hx => ha _ (by simp [fBl, hx])) hs, h6.md m (fun x hx => ha _ (by simp [fBl, hx])) hs, h7.md m (h7.apB fun x hx => ha _ (by simp [fBl, hx])) hs, h8⟩
theorem FsO.md0 (h : FsO k fp w Q b f) (m : Md [] w w') : FsO k fp w' Q b f := h.md m (fun _ _ => List.not_mem_nil) (fun _ hb => absurd hb List.not_mem_nil)
theorem FsO.sub (h : FsO k fp w Q b f) (s : ∀ b, Q b → b < w.heap.size → Q' b) (t : ∀ b, Q' b → Q b) : FsO k fp w Q' b f := by
  obtain ⟨v0, v1, h1, h2, h3, h4, h5, h6, h7, h8⟩ := h; exact ⟨v0, v1, h1, h2, fun hq => h3 (t _ hq), h4, h5.sub s t, h6.sub s t, h7.sub s t, h8⟩
theorem FsO.subF {v : Value} (h : FsO k fp w Q b f) (fQ : ∀ b, Q b → Q' b) (fT : ∀ b, Q' b → Q b ∨ vblock v = some b) (ap : ∀ x, vblock v = some x → x ∉ fp) : FsO k fp w Q' b f := by
  obtain ⟨v0, v1, rfl, h2, h3, h4, h5, h6, h7, h8⟩ := h; refine ⟨v0, v1, rfl, h2, fun hq => (fT _ hq).elim h3 (fun hv => ap _ hv (by simp [fBl])), h4, h5.subF fQ fT (fun x hx hm => ap x (by simpa using hm) (by simp [fBl, hx])), h6.subF fQ fT (fun x hx hm => ap x (by simpa using hm) (by simp [fBl, hx])), h7.subF fQ fT (h7.apB fun x hx hm => ap x (by simpa using hm) (by simp [fBl, hx])), h8⟩
theorem fBl_in {b : Nat} {v0 v1 : Value} {l : List SNd} {S : List Nat} {w : World} (hb : b ∈ S) (h0 : ∀ x, vblock v0 = some x → Fsh S w x) (h1 : ∀ x, vblock v1 = some x → Fsh S w x) (h2 : ∀ x ∈ ndB l, Fsh S w x) : ∀ x ∈ fBl b v0 v1 l, x ∈ S ∨ w.heap.size ≤ x := by
  intro x hx; unfold fBl at hx; simp only [List.mem_append, List.mem_cons, Option.mem_toList] at hx; rcases hx with (rfl | hx) | hx | hx
  · exact .inl hb
  · exact h0 x hx
  · exact h1 x hx
  · exact h2 x hx
theorem FsO.back {v0 v1 : Value} {m : SFs} (g0 : Blk w' b (SFs.cells m v0 v1) 80) (gn : ¬ Q' b) (gk : SFs.ok m) (o1 : Ow tNd 82 (Fsh S w) w' Q' v0 m.nodes) (o2 : Ow tSCh 92 (Fsh S w) w' Q' v1 m.pend) (hN : Nds 90 125 (Fsh S w) w' Q' m.nodes) (hb : b ∈ S) (wf : fWf k m) :
    FsO k (fBl b v0 v1 m.nodes) w' Q' b m ∧ ∀ x ∈ fBl b v0 v1 m.nodes, x ∈ S ∨ w.heap.size ≤ x :=
  ⟨⟨v0, v1, rfl, g0, gn, gk, o1.reP fun _ _ => trivial, o2.reP fun _ _ => trivial, hN.reP fun _ _ => trivial, wf⟩, fBl_in hb (fun x hx => (o1.2 x hx).1) (fun x hx => (o2.2 x hx).1) hN.loB⟩
end

end Go.Proofs.Ytcaokfendkkafaa
namespace Go.Proofs.Ytcaokfendkkafaa
open Go Go.Wk Go.RowKit
set_option linter.unusedVariables false
set_option linter.unusedSimpArgs false
attribute [local irreducible] wpList wpQuiet wpStill wpMix Code.wp Calls bodyPost

/-- What a call leaves that changes a directory. -/
def FsPost (k : Nat) (fp : List Nat) (w : World) (Q : Nat → Prop) (b : Nat) (w' : World) (G : SFs → Prop) : Prop :=
  ∃ m fp' Q', Md fp w w' ∧ NewQ w w' Q Q' ∧ (∀ x ∈ fp', x ∈ fp ∨ w.heap.size ≤ x) ∧ FsO k fp' w' Q' b m ∧ G m
section
variable {k : Nat} {fp : List Nat} {w : World} {Q : Nat → Prop} {b : Nat} {f : SFs}
theorem fBl_mem (b : Nat) (v0 v1 : Value) (l : List SNd) : b ∈ fBl b v0 v1 l := by simp [fBl]
theorem FsO.tot (h : fWf k f) (hk : k ≤ 100000) : (totF f.nodes).2 ≤ 1000000000000 ∧ f.nodes.length ≤ 1000000 ∧ f.pend.length ≤ 1000000 ∧ (∀ x ∈ f.nodes, x.fl.b.length ≤ 1000000) ∧ (∀ x ∈ f.nodes, x.fl.safe.length ≤ 1000000) ∧ (∀ x ∈ f.nodes, x.fl.b.length ≤ 1000000 ∧ x.fl.safe.length ≤ 1000000) := by
  have h1 := tot_le h.fl h.n; have h2 : k * 32768 ≤ 100000 * 32768 := Nat.mul_le_mul_right _ hk; have h3 := h.n; have h4 := h.p; exact ⟨by omega, by omega, by omega, fun x hx => by have := (h.fl x hx).1; omega, fun x hx => by have := (h.fl x hx).2; omega, fun x hx => by have := h.fl x hx; omega⟩
theorem make_new {m : SFs} {s : List UInt8} {i j r : Nat} (e : makeR f s i j = (r, m)) (hn : (m.nodes.map (·.id)).Nodup) : i ∉ f.nodes.map (·.id) ∨ r ≠ 0 := by
  unfold makeR at e
  split at e
  · cases e; exact .inr (by decide)
  · split at e
    · rename_i h _; cases e; exact .inr h
    · split at e
      · cases e; exact .inr (by decide)
      · split at e
        · rename_i h; rw [e] at h; exact .inr h
        · cases e
          refine .inl fun hm => ?_; rw [List.map_append, List.nodup_append] at hn; exact hn.2.2 i hm i (by simp) rfl
theorem oMake (uQ : Up w Q) (hF : FsO k fp w Q b f) (s : List UInt8) (p0 : s.length ≤ 1000000) (hk : k ≤ 100000) :
    Calls Try.prog 16 #[.pointer (some ⟨b, 0, none⟩), str s] w fun en w' => ∃ r : Nat, en = .returned (.int .i64 ((r : Nat) : Int)) ∧ r < 9223372036854775808 ∧ FsPost (k + 1) fp w Q b w' fun m => ∃ i j, makeR f s i j = (r, m) := by
  obtain ⟨v0, v1, rfl, h0, n0, ok, o1, o2, hN, wf⟩ := hF; obtain ⟨t1, t2, t3, t4, t5, t6⟩ := FsO.tot wf hk; refine (fMake_any uQ f h0 n0 ok o1 o2 hN s p0 t1 t2 t3).mono ?_; rintro en w' ⟨r, m, u0, u1, Q', rfl, hm, hq, hr, g0, gn, gk, go1, go2, gN, hE⟩; have := FsO.back (k := k + 1) g0 gn gk go1 go2 gN (fBl_mem b v0 v1 f.nodes) (wf_make wf (make_new hE gN.ids) hE); exact ⟨r, rfl, hr, m, _, Q', hm, hq, this.2, this.1, _, _, hE⟩
theorem oWrite (uQ : Up w Q) (hF : FsO k fp w Q b f) (s : List UInt8) (p : Int) (a2 : -9223372036854775808 ≤ p ∧ p < 9223372036854775808) {v3 : Value} {x : List UInt8} (h3 : Ls tB8 w Q v3 x) (p0 : s.length ≤ 1000000) (hk : k ≤ 100000) :
    Calls Try.prog 22 #[.pointer (some ⟨b, 0, none⟩), str s, .int .i64 (p : Int), v3] w fun en w' => ∃ r : Nat, en = .returned (.int .i64 ((r : Nat) : Int)) ∧ r < 9223372036854775808 ∧ FsPost (k + 1) fp w Q b w' fun m => ∃ j, writeR f s p x j = (r, m) := by
  obtain ⟨v0, v1, rfl, h0, n0, ok, o1, o2, hN, wf⟩ := hF; obtain ⟨t1, t2, t3, t4, t5, t6⟩ := FsO.tot wf hk; refine (fWrite_any uQ f h0 n0 ok o1 o2 hN s p a2 h3 p0 t1 t2 t3 t4 t5).mono ?_; rintro en w' ⟨r, m, u0, u1, Q', rfl, hm, hq, hr, g0, gn, gk, go1, go2, gN, j, hE⟩; have := FsO.back (k := k + 1) g0 gn gk go1 go2 gN (fBl_mem b v0 v1 f.nodes) (wf_write wf hE); exact ⟨r, rfl, hr, m, _, Q', hm, hq, this.2, this.1, _, hE⟩
theorem oSync (uQ : Up w Q) (hF : FsO k fp w Q b f) (s : List UInt8) (p0 : s.length ≤ 1000000) (hk : k ≤ 100000) :
    Calls Try.prog 24 #[.pointer (some ⟨b, 0, none⟩), str s] w fun en w' => ∃ r : Nat, en = .returned (.int .i64 ((r : Nat) : Int)) ∧ r < 9223372036854775808 ∧ FsPost (k + 1) fp w Q b w' fun m => syncR f s = (r, m) := by
  obtain ⟨v0, v1, rfl, h0, n0, ok, o1, o2, hN, wf⟩ := hF; obtain ⟨t1, t2, t3, t4, t5, t6⟩ := FsO.tot wf hk; refine (fSync_any uQ f h0 n0 ok o1 o2 hN s p0 trivial t2 t3 t4).mono ?_; rintro en w' ⟨r, m, u0, u1, Q', rfl, hm, hq, hr, g0, gn, gk, go1, go2, gN, hE⟩; have := FsO.back (k := k + 1) g0 gn gk go1 go2 gN (fBl_mem b v0 v1 f.nodes) (wf_sync wf hE); exact ⟨r, rfl, hr, m, _, Q', hm, hq, this.2, this.1, hE⟩
theorem oSyncDir (uQ : Up w Q) (hF : FsO k fp w Q b f) :
    Calls Try.prog 15 #[.pointer (some ⟨b, 0, none⟩)] w fun en w' => ∃ r : Nat, en = .returned (.int .i64 ((r : Nat) : Int)) ∧ r < 9223372036854775808 ∧ FsPost (k + 1) fp w Q b w' fun m => syncDirR f = (r, m) := by
  obtain ⟨v0, v1, rfl, h0, n0, ok, o1, o2, hN, wf⟩ := hF; refine (fSyncDir_any uQ f h0 n0 ok o1 o2 hN).mono ?_; rintro en w' ⟨r, m, u0, u1, Q', rfl, hm, hq, hr, g0, gn, gk, go1, go2, gN, hE⟩; have := FsO.back (k := k + 1) g0 gn gk go1 go2 gN (fBl_mem b v0 v1 f.nodes) (wf_dir wf hE); exact ⟨r, rfl, hr, m, _, Q', hm, hq, this.2, this.1, hE⟩
theorem oCrash (uQ : Up w Q) (hF : FsO k fp w Q b f) {v1 : Value} {keep : List Bool} (h1 : Ls tBool w Q v1 keep) (dirs : Int) (a2 : -9223372036854775808 ≤ dirs ∧ dirs < 9223372036854775808) (hk : k ≤ 100000) :
    Calls Try.prog 17 #[.pointer (some ⟨b, 0, none⟩), v1, .int .i64 (dirs : Int)] w fun en w' => en = .returned (.tuple #[]) ∧ FsPost k fp w Q b w' fun m => crashR f keep dirs = m := by
  obtain ⟨v0, v1, rfl, h0, n0, ok, o1, o2, hN, wf⟩ := hF; obtain ⟨t1, t2, t3, t4, t5, t6⟩ := FsO.tot wf hk; refine (fCrash_any uQ f h0 n0 ok o1 o2 hN h1 dirs a2 t2 t3 wf.ch t6).mono ?_; rintro en w' ⟨m, u0, u1, Q', rfl, hm, hq, g0, gn, gk, go1, go2, gN, hE⟩; subst hE; have := FsO.back (k := k) g0 gn gk go1 go2 gN (fBl_mem b v0 v1 f.nodes) (wf_crash wf); exact ⟨rfl, _, _, Q', hm, hq, this.2, this.1, rfl⟩
theorem oFuse (uQ : Up w Q) (hF : FsO k fp w Q b f) (n : Int) (a1 : -9223372036854775808 ≤ n ∧ n < 9223372036854775808) :
    Calls Try.prog 21 #[.pointer (some ⟨b, 0, none⟩), .int .i64 (n : Int)] w fun en w' => en = .returned (.tuple #[]) ∧ FsPost k fp w Q b w' fun m => ({ f with fuse := if n < -1 then -1 else n } : SFs) = m := by
  obtain ⟨v0, v1, rfl, h0, n0, ok, o1, o2, hN, wf⟩ := hF; refine (fFuse_any uQ f h0 n0 ok o1 o2 n a1).mono ?_; rintro en w' ⟨m, u0, u1, Q', rfl, hm, hq, g0, gn, gk, go1, go2, hE⟩
  have hN2 := (hN.sub hq.1 hq.2.1).md hm (hN.apF h0 o1 o2 (by decide) (by decide) (by decide) (by decide) (by decide) (by decide)) (by
    intro x hx hq2; have hx2 := hq.2.1 x hq2; simp only [List.mem_append, List.mem_cons, Option.mem_toList] at hx; rcases hx with (rfl | hx) | hx
    · exact n0 hx2
    · exact (o1.2 x hx).2 hx2
    · exact (o2.2 x hx).2 hx2)
  have hsub : ∀ x, x ∈ (b :: (vblock v0).toList ++ ((vblock v1).toList)) → x ∈ fBl b v0 v1 f.nodes := by
    intro x hx; unfold fBl; simp only [List.mem_append, List.mem_cons] at hx ⊢; rcases hx with hx | hx
    · exact .inl hx
    · exact .inr (.inl hx)
  subst hE; refine ⟨rfl, { f with fuse := if n < -1 then -1 else n }, fBl b u0 u1 f.nodes, Q', hm.mono fun x hx _ => hsub x hx, hq, ?_, ⟨u0, u1, rfl, g0, gn, gk, go1.reP fun _ _ => trivial, go2.reP fun _ _ => trivial, hN2, ⟨wf.n, wf.p, wf.fl, wf.ch, wf.room, wf.nd⟩⟩, rfl⟩; exact fBl_in (fBl_mem b v0 v1 f.nodes) (fun x hx => ((go1.2 x hx).1).imp (hsub x) id) (fun x hx => ((go2.2 x hx).1).imp (hsub x) id) (fun x hx => .inl (by unfold fBl; simp [hx]))
theorem oNames (uQ : Up w Q) (hF : FsO k fp w Q b f) (hk : k ≤ 100000) :
    Calls Try.prog 18 #[.pointer (some ⟨b, 0, none⟩)] w fun en w' => ∃ u0 : Value, ∃ r0 : List (List UInt8), en = .returned (u0) ∧ Md [] w w' ∧ Ls tStr w' Q u0 r0 ∧ namesD f = r0 := by
  obtain ⟨v0, v1, rfl, h0, n0, ok, o1, o2, hN, wf⟩ := hF; exact fNames_any uQ f h0 n0 ok o1 o2 hN (FsO.tot wf hk).2.1
theorem oAll (uQ : Up w Q) (hF : FsO k fp w Q b f) (s : List UInt8) (p0 : s.length ≤ 1000000) (hk : k ≤ 100000) :
    Calls Try.prog 26 #[.pointer (some ⟨b, 0, none⟩), str s] w fun en w' => ∃ u0 : Value, ∃ r0 : List UInt8, ∃ r1 : Nat, en = .returned (.tuple #[u0, (.int .i64 ((r1 : Nat) : Int))]) ∧ Md [] w w' ∧ Ls tB8 w' Q u0 r0 ∧ r1 < 9223372036854775808 ∧ allF f.off f.nodes s = (r0, r1) := by
  obtain ⟨v0, v1, rfl, h0, n0, ok, o1, o2, hN, wf⟩ := hF; exact fAll_any uQ f h0 n0 ok o1 o2 s hN p0 (FsO.tot wf hk).2.2.2.1
theorem oFree (uQ : Up w Q) (hF : FsO k fp w Q b f) (hk : k ≤ 100000) :
    Calls Try.prog 19 #[.pointer (some ⟨b, 0, none⟩)] w fun en w' => ∃ r0 : Int, en = .returned (.int .i64 (r0 : Int)) ∧ Md [] w w' ∧ (-9223372036854775808 ≤ r0 ∧ r0 < 9223372036854775808) ∧ freeF f = r0 := by
  obtain ⟨v0, v1, rfl, h0, n0, ok, o1, o2, hN, wf⟩ := hF; exact fFree_any uQ f h0 n0 ok o1 o2 hN (FsO.tot wf hk).1 wf.room
theorem oOff (uQ : Up w Q) (hF : FsO k fp w Q b f) :
    Calls Try.prog 23 #[.pointer (some ⟨b, 0, none⟩)] w fun en w' => ∃ r0 : Bool, en = .returned (.bool r0) ∧ Md [] w w' ∧ f.off = r0 := by
  obtain ⟨v0, v1, rfl, h0, n0, ok, o1, o2, hN, wf⟩ := hF; exact fOff_any uQ f h0 n0 ok o1 o2
theorem oNew (uQ : Up w Q) (r : Int) (a0 : -9223372036854775808 ≤ r ∧ r < 9223372036854775808) (p0 : 4096 ≤ r) (p1 : r ≤ 1048576) :
    Calls Try.prog 13 #[.int .i64 (r : Int)] w fun en w' => ∃ o fp Q', en = .returned (.tuple #[.pointer (some ⟨o, 0, none⟩), (.int .i64 ((0 : Nat) : Int))]) ∧ Md [] w w' ∧ NewQ w w' Q Q' ∧ (∀ x ∈ fp, w.heap.size ≤ x) ∧ FsO 0 fp w' Q' o { room := r, fuse := -1, off := false, nodes := [], pend := [] } := by
  refine (fNew_any uQ r a0 p0 p1).mono ?_; rintro en w' ⟨o, u0, u1, r0, r1, Q', rfl, hm, hq, g0, gn, gl, gk, go1, go2, _, hE⟩
  cases hE
  refine ⟨o, fBl o u0 u1 [], Q', rfl, hm, hq, ?_, ⟨u0, u1, rfl, g0, gn, gk, go1.reP fun _ _ => trivial, go2.reP fun _ _ => trivial, Nds.nil _ _ _ _ _, ⟨Nat.le_refl _, Nat.le_refl _, fun x hx => absurd hx List.not_mem_nil, fun x hx => absurd hx List.not_mem_nil, by show 0 ≤ r; omega, List.nodup_nil⟩⟩⟩; intro x hx; unfold fBl at hx; simp only [List.mem_append, List.mem_cons, Option.mem_toList] at hx; rcases hx with (rfl | hx) | hx | hx
  · exact gl
  · exact (go1.2 x hx).1.elim (fun h => absurd h List.not_mem_nil) id
  · exact (go2.2 x hx).1.elim (fun h => absurd h List.not_mem_nil) id
  · exact absurd hx (by simp [ndB])
end

end Go.Proofs.Ytcaokfendkkafaa
namespace Go.Proofs.Ytcaokfendkkafaa
open Go Go.Wk Go.RowKit
set_option linter.unusedVariables false
set_option linter.unusedSimpArgs false
attribute [local irreducible] wpList wpQuiet wpStill wpMix Code.wp Calls bodyPost

theorem burn_free {f : SFs} (h : f.fuse = -1) : burnF f = (0, f) := burn_2 (by omega) (by omega)
theorem may_ok {s : List UInt8} (h : fnameF s = true) : mayF false [s] = 0 := by unfold mayF; simp [h]
theorem getF_none {f : SFs} {s : List UInt8} (ho : f.off = false) (h : fnameF s = true) (hq : findN f.nodes s = none) : getF f.off f.nodes s = (none, 16) := by unfold getF; rw [ho, may_ok h, hq]; rfl
theorem getF_hit {f : SFs} {s : List UInt8} {x : SNd} (ho : f.off = false) (h : fnameF s = true) (hq : findN f.nodes s = some x) : mayF f.off [s] = 0 ∧ findN f.nodes s = some x := ⟨by rw [ho, may_ok h], hq⟩
theorem make_free {f : SFs} {s : List UInt8} {i j : Nat} (ho : f.off = false) (hf : f.fuse = -1) (hn : fnameF s = true) (hq : findN f.nodes s = none) (ht : (totF f.nodes).1 < 24) : makeR f s i j = (0, { f with nodes := f.nodes ++ [⟨i, ⟨s, true, j⟩, ⟨[], []⟩⟩], pend := f.pend ++ [⟨0, i, [], none⟩] }) :=
  make_0 (getF_none ho hn hq) rfl (a := (totF f.nodes).1) (z := (totF f.nodes).2) rfl (by omega) (burn_free hf) rfl
theorem dir_free {f : SFs} (ho : f.off = false) (hf : f.fuse = -1) : syncDirR f = (0, settleF f) := syncDir_0 (c := 0) (by rw [ho]; rfl) rfl (burn_free hf) rfl
theorem crashG_nm : ∀ (l : List SNd) (k : List Bool), (crashG l k).map (fun x => (x.no.nm, x.no.there)) = l.map (fun x => (x.no.nm, x.no.there))
  | [], _ => rfl
  | z :: r, k => by rw [crashG]; simp only [List.map_cons]; rw [crashG_nm r]
theorem nm_of {l l' : List SNd} (h : l.map (fun x => (x.no.nm, x.no.there)) = l'.map (fun x => (x.no.nm, x.no.there))) : (l.filter (·.no.there)).map (·.no.nm) = (l'.filter (·.no.there)).map (·.no.nm) := by
  have key : ∀ l : List SNd, (l.filter (·.no.there)).map (·.no.nm) = ((l.map (fun x => (x.no.nm, x.no.there))).filter (·.2)).map (·.1) := by
    intro l
    induction l with
    | nil => rfl
    | cons x l ih =>
      rw [List.filter_cons, List.map_cons, List.filter_cons]; simp only
      split <;> simp [ih]
  rw [key l, key l', h]
theorem names_len {f : SFs} (ho : f.off = false) : (namesD f).length = (f.nodes.filter (·.no.there)).length := by
  unfold namesD nmF; rw [sortL_len, ho]; simp
theorem names_crash (f : SFs) (keep : List Bool) (d : Int) : (namesD (crashR f keep d)).length = ((undoL f.nodes (f.pend.drop d.toNat).reverse).filter (·.no.there)).length := by
  rw [names_len (by rfl)]; show ((crashG _ _).filter _).length = _; have := congrArg List.length (nm_of (crashG_nm ((undoL f.nodes (f.pend.drop d.toNat).reverse).filter (·.no.there)) keep)); simp only [List.length_map] at this; rw [this, List.filter_filter]; simp
/-- All changes are of files that were made: they are not there any more. -/
theorem undo_made : ∀ {r : List SCh} {l : List SNd}, (∀ c ∈ r, c.kind = 0) → undoL l r = l.map fun z => if z.id ∈ r.map (·.n) then { z with no := { z.no with there := false } } else z
  | [], l, _ => by simp [undoL]
  | c :: r, l, h => by
    rw [undoL, undo_made fun q hq => h q (List.mem_cons_of_mem _ hq)]; unfold undoN updN; rw [if_pos (h c List.mem_cons_self), List.map_map]; refine List.map_congr_left fun z _ => ?_; simp only [Function.comp_apply, List.map_cons, List.mem_cons]; by_cases h1 : z.id = c.n
    · rw [if_pos h1]; simp [h1]
    · rw [if_neg h1]; simp [h1]
end Go.Proofs.Ytcaokfendkkafaa
namespace Go.Proofs.Ytcaokfendkkafaa
open Go Go.Wk Go.RowKit
set_option linter.unusedVariables false
set_option linter.unusedSimpArgs false
attribute [local irreducible] wpList wpQuiet wpStill wpMix Code.wp Calls bodyPost

theorem kNumber_any {w : World} {Q : Nat → Prop} (uQ : Up w Q) (k : Int) (a0 : (-9223372036854775808 ≤ k ∧ k < 9223372036854775808)) (n : Nat) (a1 : n < 9223372036854775808) (p0 : n ≤ 1000000) :
    Calls Try.prog 14 #[(.int .i64 (k : Int)), (.int .i64 ((n : Nat) : Int))] w fun en w' => ∃ r0 : Nat, en = .returned (.int .i64 ((r0 : Nat) : Int)) ∧ Md [] w w' ∧ r0 < 9223372036854775808 ∧ numF k n = r0 := by
  have M := Md.refl [] w; have uQ0 := uQ; have tQ : ∀ b, Q b → Q b := fun _ h => h; have sQ0 : ∀ b, Q b → b < w.heap.size → Q b := fun _ h _ => h; refine enter (n := 14) Try.func14 rfl rfl rfl ?_; intro B; refine ns ?_; refine asg rfl ?_; refine nt ?_; refine c_seq ?_; refine ns ?_; refine mv rfl ?_; refine st _ (r_ltN (a := n) (b := 1) rfl rfl) ?_; refine nt ?_; refine c_if rfl (fun h6 => ?_) (fun h6 => ?_)
  · (first | (have h6n := of_decide_eq_true h6) | (have h6n := of_decide_eq_false (bnt h6)) | (have h6n := bnt h6) | (have h6n := h6)); refine ns ?_; refine asg rfl ?_; refine nt ?_; refine c_ret ?_; refine r_then ?_; exact ret1L (v := (.int .i64 ((0 : Nat) : Int))) trivial rfl ⟨rfl, trivial⟩ ⟨0, rfl, M, (by first | assumption | omega | simp_all), (by rw [numF] <;> simp (disch := first | omega | assumption | (simp; done) | fail) only [if_pos, if_neg, Option.getD_some, Option.some.injEq, reduceIte, Bool.false_eq_true, Bool.true_eq_false, decide_true, decide_false, not_true_eq_false, not_false_eq_true, h6n])⟩
  · (first | (have h6n := of_decide_eq_false h6) | (have h6n := of_decide_eq_true (bnf h6)) | (have h6n := bnf h6) | (have h6n := h6)); refine c_skip ?_; refine c_then ?_; refine ns ?_; refine mv rfl ?_; refine mv rfl ?_; refine st _ (r_remZ (a := k) (b := ((n : Nat) : Int)) rfl rfl (by omega)) ?_; refine mv rfl ?_; have hg := num_ge (k := k) h6n; refine st _ (r_addI (a := k.tmod (((n : Nat) : Int))) (b := ((n : Nat) : Int)) rfl rfl (by omega)) ?_; refine mv rfl ?_; refine st _ (((r_remZ (a := k.tmod (((n : Nat) : Int)) + ((n : Nat) : Int)) (b := ((n : Nat) : Int)) rfl rfl (by omega)).castI (Int.toNat_of_nonneg (Int.tmod_nonneg _ (by omega))).symm)) ?_; have hq := Int.tmod_lt_of_pos (k.tmod (n : Int) + (n : Int)) (show (0 : Int) < n by omega); refine asg rfl ?_; refine nt ?_; refine c_ret ?_; exact ret1L (v := (.int .i64 ((((k.tmod (((n : Nat) : Int)) + ((n : Nat) : Int)).tmod (((n : Nat) : Int))).toNat : Nat) : Int))) trivial rfl ⟨rfl, trivial⟩ ⟨((k.tmod (((n : Nat) : Int)) + ((n : Nat) : Int)).tmod (((n : Nat) : Int))).toNat, rfl, M, (by first | assumption | omega | simp_all), (by rw [numF] <;> simp (disch := first | omega | assumption | (simp; done) | fail) only [if_pos, if_neg, Option.getD_some, Option.some.injEq, reduceIte, Bool.false_eq_true, Bool.true_eq_false, decide_true, decide_false, not_true_eq_false, not_false_eq_true, h6n])⟩
end Go.Proofs.Ytcaokfendkkafaa
namespace Go.Proofs.Ytcaokfendkkafaa
open Go Go.Wk Go.RowKit
set_option linter.unusedVariables false
set_option linter.unusedSimpArgs false
attribute [local irreducible] wpList wpQuiet wpStill wpMix Code.wp Calls bodyPost
theorem fn13 : isFn Try.prog 13 = true := by kernel_rfl
theorem fn16 : isFn Try.prog 16 = true := by kernel_rfl
theorem fn17 : isFn Try.prog 17 = true := by kernel_rfl
theorem fn18 : isFn Try.prog 18 = true := by kernel_rfl
theorem u23 : Try.prog.underlying 23 = some (.pointer 80) := by kernel_rfl

theorem fFirst_any {w : World} {Q : Nat → Prop} (uQ : Up w Q)  :
    Calls Try.prog 12 #[] w fun en w' => ∃ r0 : Bool, en = .returned (.bool r0) ∧ Md [] w w' ∧ true = r0 := by
  have M := Md.refl [] w; have uQ0 := uQ; have tQ : ∀ b, Q b → Q b := fun _ h => h; have sQ0 : ∀ b, Q b → b < w.heap.size → Q b := fun _ h _ => h; refine enter (n := 30) Try.func12 rfl rfl rfl ?_; intro B; refine ns ?_; refine asg rfl ?_; refine nt ?_; refine ns ?_; refine st_call fn13 rfl (oNew uQ (4096) (by omega) (by first | omega | (simp <;> omega)) (by first | omega | (simp <;> omega))) ?_; rintro en w1 ⟨bFO1, fpFO1, Q2, rfl, hm, ⟨sQ, sT, uQ2⟩, hfp1, FO1⟩; refine ⟨_, rfl, ?_⟩; have r_FO1 : ∀ x ∈ fpFO1, Fsh [] w x := fun x hx => Fsh.new M x (hfp1 x hx); replace tQ := fun b hb => tQ b (sT b hb); replace sQ0 := fun b hb hl => sQ b (sQ0 b hb hl) (Nat.lt_of_lt_of_le hl M.size); replace uQ := uQ.md hm; replace M := M.step0 hm; clear uQ; have uQ := uQ2; clear uQ2 sQ sT; refine mv rfl ?_; refine st _ (r_extract rfl rfl) ?_; refine st _ (r_extract rfl rfl) ?_; refine asg rfl ?_; refine asg rfl ?_; refine nt ?_; refine c_seq ?_; refine ns ?_; refine mv rfl ?_; refine st _ (r_neN (a := 0) (b := 0) rfl rfl) ?_; refine mv rfl ?_; refine part_n (t := 9) rfl (fun h9 => ?_) (fun h9 => ?_)
  · (first | (have h9n := of_decide_eq_true h9) | (have h9n := of_decide_eq_false (bnt h9)) | (have h9n := bnt h9) | (have h9n := h9)); exfalso; omega
  · (first | (have h9n := of_decide_eq_false h9) | (have h9n := of_decide_eq_true (bnf h9)) | (have h9n := bnf h9) | (have h9n := h9)); refine st_g _ rfl rfl rfl h9 (r_move rfl) ?_; refine st_g _ rfl rfl rfl h9 (r_eqlPN rfl u23) ?_; refine st _ (r_pick_f rfl h9 rfl) ?_; refine mv rfl ?_; refine st_g _ rfl rfl rfl rfl (r_move rfl) ?_; refine st_call_g rfl rfl rfl rfl fn16 rfl (oMake uQ FO1 (([97] : List UInt8)) (by first | omega | (simp <;> omega) | decide) (by first | omega | (simp <;> omega))) ?_; rintro en w3 ⟨x3_0, rfl, q3_0, m3, fp3, Q4, hm, ⟨sQ, sT, uQ2⟩, hfp, GFO1, hF3⟩; refine ⟨_, rfl, ?_⟩; have hS : ∀ b ∈ fpFO1, ¬ Q4 b := fun b hb hq => (FO1.lt b hb).2 (sT b hq); have r9 : ∀ x ∈ fp3, Fsh [] w x := fun x hx => (hfp x hx).elim (r_FO1 x) (Fsh.new M x); replace tQ := fun b hb => tQ b (sT b hb); replace sQ0 := fun b hb hl => sQ b (sQ0 b hb hl) (Nat.lt_of_lt_of_le hl M.size); replace M := M.step hm r_FO1; clear uQ r_FO1 FO1; have uQ := uQ2; have r_FO1 := r9; have FO1 := GFO1; clear uQ2 r9 GFO1 sQ sT hS hfp hm; replace FO1 : FsO (1) _ _ _ _ _ := FO1; obtain ⟨i0, j0, hmk⟩ := hF3; rw [make_free rfl rfl (by decide) rfl (by decide)] at hmk; obtain ⟨hx0, hm0⟩ := Prod.mk.inj hmk; refine st_g _ rfl rfl rfl rfl (r_neN (a := x3_0) (b := 0) rfl rfl) ?_; refine st _ (r_pick_f rfl rfl rfl) ?_; refine mv rfl ?_; refine part_n (t := 18) rfl (fun h18 => ?_) (fun h18 => ?_)
    · (first | (have h18n := of_decide_eq_true h18) | (have h18n := of_decide_eq_false (bnt h18)) | (have h18n := bnt h18) | (have h18n := h18)); exfalso; omega
    · (first | (have h18n := of_decide_eq_false h18) | (have h18n := of_decide_eq_true (bnf h18)) | (have h18n := bnf h18) | (have h18n := h18)); refine st_g _ rfl rfl rfl h18 (r_move rfl) ?_; refine st_call_g rfl rfl rfl h18 fn18 rfl (oNames uQ FO1 (by first | omega | (simp <;> omega))) ?_; rintro en w5 ⟨v5_0, x5_0, rfl, hm, h5_0, hF5⟩; refine ⟨_, rfl, ?_⟩; replace FO1 := FO1.md0 hm; replace uQ := uQ.md hm; replace M := M.step0 hm; have nl := congrArg List.length hF5; rw [names_len (by rw [← hm0]), ← hm0] at nl; have nl1 : 1 = x5_0.length := nl; refine st_g _ rfl rfl rfl h18 (r_len rfl u30 h5_0.shp) ?_; refine st_g _ rfl rfl rfl h18 (r_neN (a := x5_0.length) (b := 1) rfl rfl) ?_; refine st _ (r_pick_f rfl h18 rfl) ?_; refine nt ?_; refine c_if rfl (fun h23 => ?_) (fun h23 => ?_)
      · (first | (have h23n := of_decide_eq_true h23) | (have h23n := of_decide_eq_false (bnt h23)) | (have h23n := bnt h23) | (have h23n := h23)); exfalso; omega
      · (first | (have h23n := of_decide_eq_false h23) | (have h23n := of_decide_eq_true (bnf h23)) | (have h23n := bnf h23) | (have h23n := h23)); refine c_skip ?_; refine c_then ?_; refine ns ?_; refine mv rfl ?_; refine st_call fn17 rfl (oCrash uQ FO1 (Ls.nil tBool _ _) (0) (by omega) (by first | omega | (simp <;> omega))) ?_; rintro en w6 ⟨rfl, m6, fp6, Q7, hm, ⟨sQ, sT, uQ2⟩, hfp, GFO1, hF6⟩; refine ⟨_, rfl, ?_⟩; have hS : ∀ b ∈ fp3, ¬ Q7 b := fun b hb hq => (FO1.lt b hb).2 (sT b hq); replace h5_0 := (h5_0.sub sQ).md hm hS; have r9 : ∀ x ∈ fp6, Fsh [] w x := fun x hx => (hfp x hx).elim (r_FO1 x) (Fsh.new M x); replace tQ := fun b hb => tQ b (sT b hb); replace sQ0 := fun b hb hl => sQ b (sQ0 b hb hl) (Nat.lt_of_lt_of_le hl M.size); replace M := M.step hm r_FO1; clear uQ r_FO1 FO1; have uQ := uQ2; have r_FO1 := r9; have FO1 := GFO1; clear uQ2 r9 GFO1 sQ sT hS hfp hm; replace FO1 : FsO (1) _ _ _ _ _ := FO1; refine nt ?_; refine ns ?_; refine mv rfl ?_; refine st_call fn18 rfl (oNames uQ FO1 (by first | omega | (simp <;> omega))) ?_; rintro en w8 ⟨v8_0, x8_0, rfl, hm, h8_0, hF8⟩; refine ⟨_, rfl, ?_⟩; replace FO1 := FO1.md0 hm; replace h5_0 := h5_0.md0 hm; replace uQ := uQ.md hm; replace M := M.step0 hm; have nl2 := congrArg List.length hF8; rw [← hF6, names_crash, ← hm0] at nl2; have nl3 : 0 = x8_0.length := (by rw [← nl2]; show 0 = ((undoL _ [_]).filter _).length; rw [undo_made (by intro c hc; rw [List.mem_singleton] at hc; subst hc; rfl)]; simp); refine st _ (r_len rfl u30 h8_0.shp) ?_; refine st _ (r_eqN (a := x8_0.length) (b := 0) rfl rfl) ?_; refine asg rfl ?_; refine nt ?_; refine c_ret ?_; exact ret1L (v := (.bool ((decide (x8_0.length = 0))))) trivial rfl ⟨rfl, trivial⟩ ⟨(decide (x8_0.length = 0)), rfl, M, (decide_eq_true (by omega)).symm⟩
end Go.Proofs.Ytcaokfendkkafaa
namespace Go.Proofs.Ytcaokfendkkafaa
open Go Go.Wk Go.RowKit
set_option linter.unusedVariables false
set_option linter.unusedSimpArgs false
attribute [local irreducible] wpList wpQuiet wpStill wpMix Code.wp Calls bodyPost
theorem fn12 : isFn Try.prog 12 = true := by kernel_rfl
theorem fn14 : isFn Try.prog 14 = true := by kernel_rfl
theorem fn15 : isFn Try.prog 15 = true := by kernel_rfl

end Go.Proofs.Ytcaokfendkkafaa
namespace Go.Proofs.Ytcaokfendkkafaa
open Go Go.Wk Go.RowKit
set_option linter.unusedVariables false
set_option linter.unusedSimpArgs false
attribute [local irreducible] wpList wpQuiet wpStill wpMix Code.wp Calls bodyPost

end Go.Proofs.Ytcaokfendkkafaa
namespace Go.Proofs.Ytcaokfendkkafaa
open Go Go.Wk Go.RowKit
set_option linter.unusedVariables false
set_option linter.unusedSimpArgs false
attribute [local irreducible] wpList wpQuiet wpStill wpMix Code.wp Calls bodyPost
theorem fn19 : isFn Try.prog 19 = true := by kernel_rfl
theorem u4 : Try.prog.underlying 4 = some (.bool) := by kernel_rfl

end Go.Proofs.Ytcaokfendkkafaa
