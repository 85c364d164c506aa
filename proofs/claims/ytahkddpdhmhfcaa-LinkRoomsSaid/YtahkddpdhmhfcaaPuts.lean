/- Structs and slices that are built, appends, stores into rows of the run's own. No statement is proved here. -/
import Derived.Test.YtahkddpdhmhfcaaNums
namespace Go.Wk
open Go Go.RowKit

theorem fold_splice : ∀ (us : List Value) (k o : Nat) (cs : List Value), o + k + us.length ≤ cs.length →
    (us.zipIdx k).foldl (fun (cs : Array Value) (x : Value × Nat) => cs.setIfInBounds (o + x.2) x.1) cs.toArray = (splice cs (o + k) us).toArray
  | [], k, o, cs, _ => by simp [splice]
  | u :: us, k, o, cs, h => by
    simp only [List.length_cons] at h
    rw [List.zipIdx_cons, List.foldl_cons]
    simp only [List.setIfInBounds_toArray]
    rw [fold_splice us (k + 1) o (cs.set (o + k) u) (by simp; omega)]
    congr 1
    unfold splice
    have h1 : (cs.set (o + k) u).take (o + (k + 1)) = cs.take (o + k) ++ [u] := by
      rw [show o + (k + 1) = (o + k) + 1 by omega, List.take_add_one]
      simp [show o + k < cs.length by omega, List.take_set_of_le]
    have h2 : (cs.set (o + k) u).drop (o + (k + 1) + us.length) = cs.drop (o + k + (us.length + 1)) := by
      rw [List.drop_set_of_lt (by omega)]
      congr 1; omega
    rw [h1, h2]
    simp
theorem fold_cells {v : Value} {us : List Value} (hv : v.cells = us.toArray) (o : Nat) (cs : List Value) (h : o + us.length ≤ cs.length) :
    v.cells.zipIdx.foldl (fun (cs : Array Value) (x : Value × Nat) => cs.setIfInBounds (o + x.2) x.1) cs.toArray = (splice cs o us).toArray := by
  have := fold_splice us 0 o cs (by omega)
  rw [hv]
  simpa [← Array.foldl_toList] using this

def CellsAre : List Value → List (List Value) → Prop
  | [], [] => True
  | v :: vs, u :: us => v.cells = u.toArray ∧ CellsAre vs us
  | _, _ => False
def splices (cs : List Value) : List (Nat × Nat × Nat) → List (List Value) → List Value
  | (_, o, _) :: ps, u :: us => splices (splice cs o u) ps us
  | _, _ => cs
def szOk : List (Nat × Nat × Nat) → List (List Value) → Prop
  | [], [] => True
  | (_, _, s) :: ps, u :: us => u.length = s ∧ szOk ps us
  | _, _ => False
theorem splice_len {cs us : List Value} {o : Nat} (h : o + us.length ≤ cs.length) : (splice cs o us).length = cs.length := by simp [splice]; omega
theorem fill_gen {place : Nat → Option (Nat × Nat)} : ∀ (ps : List (Nat × Nat × Nat)) (vs : List Value) (us : List (List Value)) (cs : List Value), CellsAre vs us → szOk ps us → (∀ p ∈ ps, place p.1 = some (p.2.1, p.2.2) ∧ p.2.1 + p.2.2 ≤ cs.length) →
    Instr.fill place cs.toArray ((ps.map (·.1)).zip vs) = some (splices cs ps us).toArray
  | [], [], [], cs, _, _, _ => by simp [Instr.fill, splices]
  | [], [], _ :: _, _, h, _, _ => by simp [CellsAre] at h
  | [], _ :: _, [], _, h, _, _ => by simp [CellsAre] at h
  | [], _ :: _, _ :: _, _, _, h, _ => by simp [szOk] at h
  | _ :: _, _, [], _, _, h, _ => by simp [szOk] at h
  | _ :: _, [], _ :: _, _, h, _, _ => by simp [CellsAre] at h
  | (i, o, s) :: ps, v :: vs, u :: us, cs, ⟨h1, h2⟩, ⟨h3, h4⟩, hp => by
    obtain ⟨h5, h6⟩ := hp (i, o, s) (by simp)
    simp only at h5 h6
    have hs : v.cells.size = s := by rw [h1]; simpa using h3
    have hl : o + u.length ≤ cs.length := by omega
    have ih := fill_gen (place := place) ps vs us (splice cs o u) h2 h4 (fun p hp' => by rw [splice_len hl]; exact hp p (by simp [hp']))
    simp only [List.map_cons, List.zip_cons_cons, Instr.fill, h5]
    rw [if_neg (by simp [hs]; omega), fold_cells h1 o cs hl]
    simpa [splices] using ih
def plOk (pl : List (Nat × Nat)) (m : Nat) : List (Nat × Nat × Nat) → Bool
  | [] => true
  | (i, o, s) :: r => (match pl[i]? with
    | some (o', s') => Nat.beq o' o && Nat.beq s' s && Nat.ble (o + s) m
    | none => false) && plOk pl m r
theorem plOk_spec {pl : List (Nat × Nat)} {m : Nat} : ∀ {ps : List (Nat × Nat × Nat)}, plOk pl m ps = true → ∀ p ∈ ps, pl[p.1]? = some (p.2.1, p.2.2) ∧ p.2.1 + p.2.2 ≤ m
  | [], _, p, hp => by cases hp
  | (i, o, s) :: r, h, p, hp => by
    simp only [plOk, Bool.and_eq_true] at h
    rcases List.mem_cons.1 hp with rfl | hp'
    · cases hq : pl[i]? with
      | none => rw [hq] at h; simp at h
      | some q =>
        obtain ⟨o', s'⟩ := q
        rw [hq] at h
        simp only [Bool.and_eq_true] at h
        obtain ⟨⟨⟨h1, h2⟩, h3⟩, _⟩ := h
        have e1 := Nat.eq_of_beq_eq_true h1
        have e2 := Nat.eq_of_beq_eq_true h2
        subst e1; subst e2
        exact ⟨rfl, Nat.le_of_ble_eq_true h3⟩
    · exact plOk_spec h.2 p hp'

section
variable {P : Program} {ops : Array Oper} {Q : Exit → Act → World → Prop} {rest : List Oper}
variable {n : Nat} {A : Fr n} {D : List Deferred} {l : List (Nat × Value)} {w : World}
variable {d : Tmp} {op : Op} {ty : TypeId} {ps : String} {af : Array Edge} {g : Option (Nat × Bool)}

theorem built_gen {t : TypeId} {zs vs : List Value} {us : List (List Value)} {pl : List (Nat × Nat)} {ps : List (Nat × Nat × Nat)} (hz : zcells P t = some zs) (hpl : bplace P t = some pl) (hc : CellsAre vs us) (hs : szOk ps us) (hps : plOk pl zs.length ps = true) :
    P.built t ((ps.map (·.1)).zip vs) = some (splices zs ps us).toArray := by
  have hp := plOk_spec hps
  unfold zcells at hz
  cases hi : P.info? t with
  | none => simp [hi] at hz
  | some it =>
    cases hzz : it.zero with
    | none => simp [hi, hzz] at hz
    | some z =>
      simp only [hi, hzz, Option.some.injEq] at hz
      have hzc : z.cells = zs.toArray := by rw [← hz]
      unfold bplace at hpl
      unfold Program.built
      cases hu : P.underlying t with
      | none => simp [hu] at hpl
      | some d =>
        cases d <;> try (simp [hu] at hpl; done)
        case array m e =>
          cases hie : P.info? e with
          | none => simp [hu, hie] at hpl
          | some ie =>
            simp only [hu, hie, Option.some.injEq] at hpl
            simp only [hi, hzz, hie, hzc]
            refine fill_gen ps vs us zs hc hs (fun p hp' => ?_)
            obtain ⟨h2, h3⟩ := hp p hp'
            rw [← hpl, List.getElem?_map] at h2
            have hr : (List.range m)[p.1]? = some p.1 := by
              cases hq : (List.range m)[p.1]? with
              | none => rw [hq] at h2; simp at h2
              | some q => have := List.getElem?_eq_some_iff.1 hq; obtain ⟨ha, hb⟩ := this; simp at hb; rw [← hb]
            rw [hr] at h2
            simp only [Option.map_some, Option.some.injEq, Prod.mk.injEq] at h2
            exact ⟨by rw [h2.1, h2.2], h3⟩
        case struct fields =>
          simp only [hu] at hpl
          simp only [hi, hzz, hpl, hzc]
          refine fill_gen ps vs us zs hc hs (fun p hp' => ?_)
          obtain ⟨h2, h3⟩ := hp p hp'
          exact ⟨by simpa using h2, h3⟩
/-- A struct or an array, of parts of any number of cells. -/
theorem r_buildG {t : TypeId} {parts : List (Nat × Operand)} {zs vs cs : List Value} {us : List (List Value)} {pl : List (Nat × Nat)} (ps : List (Nat × Nat × Nat)) {d' : Option Tmp} {ps' : String} (hz : zcells P t = some zs) (hpl : bplace P t = some pl) (hpp : parts.map (·.1) = ps.map (·.1)) (hev : evs n l (parts.map (·.2)) = some vs)
    (hc : CellsAre vs us) (hs : szOk ps us) (hps : plOk pl zs.length ps = true) (hcs : splices zs ps us = cs) :
    RunV P ⟨d', .build t parts.toArray, ty, ps', af, g⟩ (over A D l).eval w (.agg cs.toArray) := by
  have he := evs_eval (A := A) (D := D) hev
  have hzip : parts.map (fun p => (p.1, (over A D l).eval p.2)) = (ps.map (·.1)).zip vs := by
    rw [← hpp, ← he, List.map_map, List.zip_map']
    rfl
  have hb := built_gen hz hpl hc hs hps
  rw [← hzip] at hb
  have hr := run_build (P := P) w t (parts.map (fun p => (p.1, (over A D l).eval p.2))).toArray _ (by simpa using hb)
  subst hcs
  simp only [RunV, execOp, List.map_toArray]
  show Sem.run P (do pure (Next.value (← Instr.build t (parts.map fun x => (x.1, (over A D l).eval x.2)).toArray))) w = _
  simp [hr]

def rowAt (sz : Nat) : Nat → Nat → List (Nat × Nat × Nat)
  | _, 0 => []
  | i, k + 1 => (i, i * sz, sz) :: rowAt sz (i + 1) k
def AllLen (sz : Nat) : List (List Value) → Prop
  | [] => True
  | u :: us => u.length = sz ∧ AllLen sz us
theorem rowAt_sz {sz : Nat} : ∀ (us : List (List Value)) (i : Nat), AllLen sz us → szOk (rowAt sz i us.length) us
  | [], _, _ => trivial
  | _ :: us, i, h => ⟨h.1, rowAt_sz us (i + 1) h.2⟩
theorem mem_rowAt {sz : Nat} {p : Nat × Nat × Nat} : ∀ {i k : Nat}, p ∈ rowAt sz i k → p.2.1 = p.1 * sz ∧ p.2.2 = sz ∧ p.1 < i + k
  | _, 0, h => by cases h
  | i, k + 1, h => by
    rcases List.mem_cons.1 h with rfl | h
    · exact ⟨rfl, rfl, by simp⟩
    · have := mem_rowAt h; omega
theorem AllLen.len {sz : Nat} : ∀ {us : List (List Value)}, AllLen sz us → us.flatten.length = us.length * sz
  | [], _ => by simp
  | u :: us, h => by simp [h.1, h.2.len, Nat.succ_mul, Nat.add_comm]
theorem splices_row {sz : Nat} : ∀ (us : List (List Value)) (i : Nat) (pre cs : List Value), AllLen sz us → pre.length = i * sz → cs.length = us.length * sz → splices (pre ++ cs) (rowAt sz i us.length) us = pre ++ us.flatten
  | [], i, pre, cs, _, _, h => by
    have : cs = [] := List.eq_nil_of_length_eq_zero (by simpa using h)
    subst this; simp [rowAt, splices]
  | u :: us, i, pre, cs, h, hp, hc => by
    simp only [List.length_cons, rowAt, splices]
    have hc' : cs.length = sz + us.length * sz := by simpa [Nat.succ_mul, Nat.add_comm] using hc
    have e : splice (pre ++ cs) (i * sz) u = (pre ++ u) ++ cs.drop sz := by
      simp only [splice, ← hp, h.1]
      rw [List.take_left, List.drop_append, List.drop_of_length_le (Nat.le_add_right _ _), Nat.add_sub_cancel_left]
      simp
    rw [e, splices_row us (i + 1) (pre ++ u) (cs.drop sz) h.2 (by simp [hp, h.1, Nat.succ_mul]) (by simp; omega)]
    simp
/-- []T{x, y, ..}, all given. -/
theorem st_buildSliceG {t e : TypeId} {m sz by' : Nat} {parts : List (Nat × Operand)} {vs : List Value} (us : List (List Value)) (ht : P.underlying t = some (.slice e)) (hE : elT P e sz by' = true) (hsz : 0 < sz) (hm : m * sz ≤ 16777216) (hpp : parts.map (·.1) = (rowAt sz 0 m).map (·.1)) (hev : evs n l (parts.map (·.2)) = some vs)
    (hc : CellsAre vs us) (hl : AllLen sz us) (hlen : us.length = m) (h0 : m ≠ 0)
    (k : ∀ b w', w.heap.size ≤ b → b < w'.heap.size → Md [] w w' → Blk w' b us.flatten e → wpList P ops Q rest (over A D ((d, .slice (some ⟨b, 0, none⟩) m m) :: l)) w') :
    wpList P ops Q (⟨some d, .buildSlice t m parts.toArray, ty, ps, af, none⟩ :: rest) (over A D l) w := by
  refine wl_plain rfl ?_
  obtain ⟨i, z, hi, hz, hs, hb, hzs⟩ := elT_spec hE
  have he := evs_eval (A := A) (D := D) hev
  have hzip : parts.map (fun p => (p.1, (over A D l).eval p.2)) = ((rowAt sz 0 m).map (·.1)).zip vs := by
    rw [← hpp, ← he, List.map_map, List.zip_map']
    rfl
  have hfill : ∀ cs : List Value, cs.length = m * sz → Instr.fill (fun i => some (i * sz, sz)) cs.toArray (((rowAt sz 0 m).map (·.1)).zip vs) = some us.flatten.toArray := by
    intro cs hcs
    have := fill_gen (place := fun i => some (i * sz, sz)) (rowAt sz 0 m) vs us cs hc (by rw [← hlen]; exact rowAt_sz us 0 hl) (fun p hp => by
      have h := mem_rowAt hp
      refine ⟨by rw [h.1, h.2.1], ?_⟩
      rw [h.1, h.2.1, hcs, ← Nat.succ_mul]
      exact Nat.mul_le_mul_right _ (by omega))
    have h2 := splices_row us 0 [] cs hl (by simp) (by rw [hcs, hlen])
    simp only [List.nil_append] at h2
    rw [hlen] at h2
    rw [this, h2]
  have hne : ¬ (m * sz = 0) := Nat.mul_ne_zero h0 (by omega)
  have hrun : (execOp (over A D l).eval ⟨some d, .buildSlice t m parts.toArray, ty, ps, af, none⟩).run P w = .ok (.value (.slice (some ⟨w.heap.size, 0, none⟩) m m)) (w.alloc (.cells us.flatten.toArray e)) := by
    show Sem.run P (do pure (Next.value (← Instr.buildSlice t m ((parts.toArray).map fun x => (x.1, (over A D l).eval x.2))))) w = _
    rw [List.map_toArray, hzip]
    have hl2 : ((List.range (m * sz)).map fun x => (z.cells)[x % z.cells.size]!).length = m * sz := by simp
    have := hfill _ hl2
    simp only [Instr.buildSlice, Sem.run_bind, run_underlying ht, Result.andThen_ok, run_sizeOf hi, hs]
    have e2 : Array.map (fun x => z.cells[x % z.cells.size]!) (Array.range (m * sz)) = ((List.range (m * sz)).map fun x => (z.cells)[x % z.cells.size]!).toArray := by
      apply Array.ext'
      simp
    simp only [show ¬ (m * sz > 2 ^ 24) from by omega, if_neg hne, if_false]
    simp [zeroValue, typeInfo, hi, hz, newRow]
    rw [e2, this]
    simp
  unfold Oper.wp
  rw [hrun]
  exact k _ _ (Nat.le_refl _) (by simp) (Md.alloc w _) (Blk.new w us.flatten e)
/-! rows of the run's own -/
theorem Own.blk {e : TypeId} {sz m : Nat} {v : Value} {cs : List Value} (h : Own w e sz v m cs) (h0 : 0 < m) : ∃ b cap cur, v = .slice (some ⟨b, 0, none⟩) m cap ∧ Blk w b cur e ∧ m ≤ cap ∧ cap ≤ maxLen ∧ cur.length = cap * sz ∧ cur.take (m * sz) = cs := by
  rcases h.2 with ⟨rfl, rfl⟩ | ⟨g, cap, cur, rfl, hb, hg, hn, hc, hs, ht⟩
  · omega
  · exact ⟨g, cap, cur.toList, rfl, hg, hn, hc, by simpa using hs, ht⟩
theorem Own.of_blk {e : TypeId} {sz m b cap : Nat} {cur : List Value} (hB : Blk w b cur e) (h1 : m ≤ cap) (h2 : cap ≤ maxLen) (h3 : cur.length = cap * sz) : Own w e sz (.slice (some ⟨b, 0, none⟩) m cap) m (cur.take (m * sz)) := by
  refine ⟨by rw [List.length_take, h3]; exact Nat.min_eq_left (Nat.mul_le_mul_right _ h1), .inr ⟨b, cap, cur.toArray, rfl, Nat.zero_le _, hB, h1, h2, by simpa using h3, by simp⟩⟩
variable {α : Type} {T : Dt α} {R R' : Nat → Prop}
theorem elT_el {e : TypeId} {sz by' : Nat} (h : elT P e sz by' = true) : elemIs P e sz = true := by
  obtain ⟨i, z, hi, hz, hs, hb, hzs⟩ := elT_spec h
  simp [elemIs, hi, hs]
/-- What can be read of a row: its block may be one that is written. -/
def Lz (T : Dt α) (w : World) (Q : Nat → Prop) (v : Value) (xs : List α) : Prop :=
  ∃ a cap cs, v = .slice a xs.length cap ∧ xs.length ≤ cap ∧ cap ≤ maxLen ∧ (a = none → cap = 0) ∧ (∀ p, a = some p → ∀ j u, cs[j]? = some u → w.cell? (p.add j) = some u) ∧ Els T w Q cs xs
theorem Ls.lz {v : Value} {xs : List α} (h : Ls T w R v xs) : Lz T w R v xs := by
  obtain ⟨a, cap, cs, h0, h1, h2, h3, h4, h5, h6⟩ := h
  exact ⟨a, cap, cs, h0, h1, h2, h3, h5, h6⟩
theorem Ow.lz {e : TypeId} {lo : Nat → Prop} {v : Value} {xs : List α} (h : Ow T e lo w R v xs) : Lz T w R v xs := by
  obtain ⟨⟨cs, h1, h2⟩, h3⟩ := h
  obtain ⟨a, cap, rfl, h4, h5, h6, h7⟩ := own_cells h1
  exact ⟨a, cap, cs, rfl, h4, h5, h6, h7, h2⟩
/-- append(x, y...): x the run's own. -/
theorem st_apZ {x y : Operand} {t e : TypeId} {sz by' : Nat} {lo : Nat → Prop} {v u : Value} {xs ys : List α} (hn : T.n = sz) (ht : P.underlying t = some (.slice e)) (hE : elT P e sz by' = true) (hx : ev n l x = some v) (hy : ev n l y = some u)
    (hO : Ow T e lo w R v xs) (hY : Lz T w R u ys) (uR : Up w R) (hlo : ∀ b, w.heap.size ≤ b → lo b) (h63 : xs.length + ys.length ≤ 9223372036854775807) (hbytes : (xs.length + ys.length) * by' ≤ 140737488355328)
    (k : ∀ v' w' R'', (∀ b, R b → b < w.heap.size → R'' b) → (∀ b, R'' b → R b) → Up w' R'' → Ow T e lo w' R'' v' (xs ++ ys) → Md (vblock v).toList w w' → (∀ b ∈ (vblock v).toList, ¬ R'' b) → (∀ b, vblock v = some b → b < w.heap.size) →
      (∀ b, vblock v' = some b → vblock v = some b ∨ w.heap.size ≤ b) → wpList P ops Q rest (over A D ((d, v') :: l)) w') :
    wpList P ops Q (⟨some d, .call { callee := .builtin .append, args := #[x, y], argTypes := #[t, t] }, ty, ps, af, none⟩ :: rest) (over A D l) w := by
  subst hn
  refine wl_plain rfl ?_
  obtain ⟨a, cap, cy, rfl, h3, h4, h5, h7, h8⟩ := hY
  have hO' := hO
  obtain ⟨⟨cx, h9, h10⟩, h11⟩ := hO'
  obtain ⟨v', w', hr, g1, g2, g3, g4⟩ := run_append_ex (P := P) (w := w) (ty' := ty) ht hE T.pos h9 (a := a) (k := ys.length) (c := cap) (news := cy) h8.len (fun h => ⟨by have := h5 h; omega, h5 h⟩) h7 h8.one (by simpa [maxLen] using h63) hbytes
  have hrun : (execOp (over A D l).eval ⟨some d, .call { callee := .builtin .append, args := #[x, y], argTypes := #[t, t] }, ty, ps, af, none⟩).run P w = .ok (.value v') w' := by
    simp [execOp, resolve, invoke, builtin, ev_eval hx, ev_eval hy, hr]
  unfold Oper.wp
  rw [hrun]
  have hs : ∀ b, R b → b < w.heap.size → (R b ∧ vblock v' ≠ some b) := fun b hb hl => ⟨hb, fun hv => by
    rcases g4 b hv with h | h
    · exact (h11 b h).2 hb
    · omega⟩
  have hn : ∀ b ∈ (vblock v).toList, ¬ (R b ∧ vblock v' ≠ some b) := fun b hb hh => by
    cases hv : vblock v with
    | none => rw [hv] at hb; simp at hb
    | some c => rw [hv] at hb; simp at hb; subst hb; exact (h11 _ hv).2 hh.1
  have g1' : Own w' e T.n v' (xs ++ ys).length (cx ++ cy) := by simpa using g1
  refine k v' w' (fun b => R b ∧ vblock v' ≠ some b) hs (fun b hb => hb.1) (fun b hb => ⟨uR b (Nat.le_trans g2.size hb), fun hv => by have := g1'.lt b hv; omega⟩) ⟨⟨cx ++ cy, g1', ?_⟩, fun b hb => ⟨?_, fun hh => hh.2 hb⟩⟩ g2 hn h9.lt g4
  · exact ((h10.sub hs).md g2 hn).append ((h8.sub hs).md g2 hn)
  · rcases g4 b hb with h | h
    · exact (h11 b h).1
    · exact hlo b h
theorem st_ap {x y : Operand} {t e : TypeId} {sz by' : Nat} {lo : Nat → Prop} {v u : Value} {xs ys : List α} (hn : T.n = sz) (ht : P.underlying t = some (.slice e)) (hE : elT P e sz by' = true) (hx : ev n l x = some v) (hy : ev n l y = some u)
    (hO : Ow T e lo w R v xs) (hY : Ls T w R' u ys) (hR : ∀ b, R' b → b < w.heap.size → R b) (uR : Up w R) (hlo : ∀ b, w.heap.size ≤ b → lo b) (h63 : xs.length + ys.length ≤ 9223372036854775807) (hbytes : (xs.length + ys.length) * by' ≤ 140737488355328)
    (k : ∀ v' w' R'', (∀ b, R b → b < w.heap.size → R'' b) → (∀ b, R'' b → R b) → Up w' R'' → Ow T e lo w' R'' v' (xs ++ ys) → Md (vblock v).toList w w' → (∀ b ∈ (vblock v).toList, ¬ R'' b) → (∀ b, vblock v = some b → b < w.heap.size) →
      (∀ b, vblock v' = some b → vblock v = some b ∨ w.heap.size ≤ b) → wpList P ops Q rest (over A D ((d, v') :: l)) w') :
    wpList P ops Q (⟨some d, .call { callee := .builtin .append, args := #[x, y], argTypes := #[t, t] }, ty, ps, af, none⟩ :: rest) (over A D l) w :=
  st_apZ hn ht hE hx hy hO (hY.sub hR).lz uR hlo h63 hbytes k
theorem Ow.into {e : TypeId} {lo : Nat → Prop} {i : Nat} {v : Value} {xs : List α} {c : List Value} {z : α} (hO : Ow T e lo w R v xs) (hz : T.rep w R c z) (hi : i < xs.length) :
    ∃ b cap cur, v = .slice (some ⟨b, 0, none⟩) xs.length cap ∧ Blk w b cur e ∧ i * T.n + c.length ≤ cur.length ∧ ¬ R b ∧ ∀ w', Md [b] w w' → Blk w' b (splice cur (i * T.n) c) e → Ow T e lo w' R v (xs.set i z) := by
  obtain ⟨⟨cx, h9, h10⟩, h11⟩ := hO
  obtain ⟨b, cap, cur, rfl, hB, h1, h2, h3, h4⟩ := h9.blk (by omega)
  have hcl := T.len hz
  have hfit : i * T.n + T.n ≤ xs.length * T.n := by rw [← Nat.succ_mul]; exact Nat.mul_le_mul_right _ hi
  have hfit2 : xs.length * T.n ≤ cur.length := by rw [h3]; exact Nat.mul_le_mul_right _ h1
  have hS : ∀ b' ∈ [b], ¬ R b' := fun b' hb => by simp at hb; subst hb; exact (h11 _ rfl).2
  refine ⟨b, cap, cur, rfl, hB, by omega, (h11 _ rfl).2, fun w' hm hb => ⟨⟨(splice cur (i * T.n) c).take (xs.length * T.n), by simpa using Own.of_blk (m := xs.length) hb h1 h2 (by rw [splice_len (by omega), h3]), ?_⟩, h11⟩⟩
  have e1 : (splice cur (i * T.n) c).take (xs.length * T.n) = cx.take (i * T.n) ++ c ++ cx.drop (i * T.n + T.n) := by
    unfold splice
    rw [hcl, ← h4, List.take_append, List.take_of_length_le (by simp; omega), List.take_take, Nat.min_eq_left (by omega), List.drop_take]
    congr 2
    simp
    omega
  rw [e1]
  exact (h10.md hm hS).set (T.md hz hm hS) hi
theorem set_splice (cs : List Value) (j : Nat) (u : Value) (h : j < cs.length) : cs.set j u = splice cs j [u] := by
  rw [List.set_eq_take_append_cons_drop, if_pos h]; simp [splice]
/-- x[i] = y, elements of one cell, x the run's own. -/
theorem st_storeOw {x y : Operand} {t e : TypeId} {lo : Nat → Prop} {i k : Nat} {v u : Value} {xs : List α} {z : α} (hk : k = i * T.n) (hx : ev n l x = some (elemp v k)) (hy : ev n l y = some u) (hT : isOne P t = true)
    (hO : Ow T e lo w R v xs) (hz : T.rep w R [u] z) (hi : i < xs.length)
    (kk : ∀ w', Md (vblock v).toList w w' → (∀ b ∈ (vblock v).toList, ¬ R b) → Ow T e lo w' R v (xs.set i z) → wpList P ops Q rest (over A D l) w') :
    wpList P ops Q (⟨none, .store t x y, ty, ps, af, none⟩ :: rest) (over A D l) w := by
  subst hk
  obtain ⟨b, cap, cur, rfl, hB, h1, h2, h3⟩ := hO.into hz hi
  simp only [List.length_singleton] at h1
  refine st_store (b := b) (j := i * T.n) (by rw [hx]; simp [elemp, Addr.add_mk]) hy hT (T.one hz u (by simp)) hB (by omega) fun w' hm hb => ?_
  rw [set_splice _ _ _ (by omega)] at hb
  exact kk w' (by simpa [vblock] using hm) (fun b' hb' => by simp [vblock] at hb'; subst hb'; exact h2) (h3 w' hm hb)
/-- x[i] = y, elements of more cells, x the run's own. -/
theorem st_storeOwA {x y : Operand} {t e : TypeId} {lo : Nat → Prop} {i k : Nat} {v : Value} {xs : List α} {c : List Value} {z : α} (hk : k = i * T.n) (hx : ev n l x = some (elemp v k)) (hy : ev n l y = some (.agg c.toArray)) (hT : isAggN P t c.length = true)
    (hO : Ow T e lo w R v xs) (hz : T.rep w R c z) (hi : i < xs.length)
    (kk : ∀ w', Md (vblock v).toList w w' → (∀ b ∈ (vblock v).toList, ¬ R b) → Ow T e lo w' R v (xs.set i z) → wpList P ops Q rest (over A D l) w') :
    wpList P ops Q (⟨none, .store t x y, ty, ps, af, none⟩ :: rest) (over A D l) w := by
  subst hk
  obtain ⟨b, cap, cur, rfl, hB, h1, h2, h3⟩ := hO.into hz hi
  refine st_storeAgg (b := b) (j := i * T.n) (by rw [hx]; simp [elemp, Addr.add_mk]) hy hT (T.one hz) hB h1 fun w' hm hb => ?_
  exact kk w' (by simpa [vblock] using hm) (fun b' hb' => by simp [vblock] at hb'; subst hb'; exact h2) (h3 w' hm hb)
theorem Ls.of_blk {e : TypeId} {b m : Nat} {cs : List Value} {xs : List α} (hB : Blk w b cs e) (hE : Els T w R cs xs) (hm : xs.length = m) (h2 : m ≤ maxLen) (hR : R b) : Ls T w R (.slice (some ⟨b, 0, none⟩) m m) xs := by
  subst hm
  exact ⟨_, _, cs, rfl, Nat.le_refl _, h2, by simp, fun p hp _ => by cases hp; exact hR, fun p hp j u hj => by cases hp; rw [Addr.add_mk, Nat.zero_add, hB.cell]; exact hj, hE⟩
/-- A built slice goes on as the run's own. -/
theorem Ow.of_blk {e : TypeId} {lo : Nat → Prop} {b m : Nat} {cs : List Value} {xs : List α} (hB : Blk w b cs e) (hE : Els T w R cs xs) (hm : xs.length = m) (h2 : m ≤ maxLen) (hlo : lo b) (hR : ¬ R b) : Ow T e lo w R (.slice (some ⟨b, 0, none⟩) m m) xs := by
  subst hm
  have hl := hE.len
  have := Own.of_blk (sz := T.n) (m := xs.length) hB (Nat.le_refl _) h2 hl
  rw [← hl, List.take_length] at this
  exact ⟨⟨cs, this, hE⟩, fun b' hb => by simp [vblock] at hb; subst hb; exact ⟨hlo, hR⟩⟩
/-- []T{} -/
theorem st_build0 {t e : TypeId} {sz by' : Nat} (ht : P.underlying t = some (.slice e)) (hE : elT P e sz by' = true)
    (k : ∀ b w', w.heap.size ≤ b → b < w'.heap.size → Md [] w w' → Blk w' b [] e → wpList P ops Q rest (over A D ((d, .slice (some ⟨b, 0, none⟩) 0 0) :: l)) w') :
    wpList P ops Q (⟨some d, .buildSlice t 0 #[], ty, ps, af, none⟩ :: rest) (over A D l) w := by
  refine wl_plain rfl ?_
  obtain ⟨i, z, hi, hz, hs, hb, hzs⟩ := elT_spec hE
  have hrun : (execOp (over A D l).eval ⟨some d, .buildSlice t 0 #[], ty, ps, af, none⟩).run P w = .ok (.value (.slice (some ⟨w.heap.size, 0, none⟩) 0 0)) (w.alloc (.cells ([] : List Value).toArray e)) := by
    show Sem.run P (do pure (Next.value (← Instr.buildSlice t 0 ((#[] : Array (Nat × Operand)).map fun x => (x.1, (over A D l).eval x.2))))) w = _
    have e0 : (Array.map (fun x => (default : Value)) (Array.range 0)) = #[] := by simp [Array.range]
    simp [Instr.buildSlice, run_underlying ht, run_sizeOf hi, Instr.fill, newRow, e0]
  unfold Oper.wp
  rw [hrun]
  exact k _ _ (Nat.le_refl _) (by simp) (Md.alloc w _) (Blk.new w [] e)
theorem made_reps (zc : List Value) (m : Nat) (h0 : 0 < zc.length) : (madeCells zc.toArray (m * zc.length)).toList = (List.replicate m zc).flatten := by
  induction m with
  | zero => simp [madeCells]
  | succ m ih =>
    rw [List.replicate_succ', List.flatten_append, ← ih]
    simp only [madeCells, List.flatten_cons, List.flatten_nil, List.append_nil]
    apply List.ext_getElem
    · simp [Nat.succ_mul]
    · intro j h1 h2
      simp at h1 h2
      by_cases hj : j < m * zc.length
      · rw [List.getElem_append_left (by simpa using hj)]; simp
      · rw [List.getElem_append_right (by simpa using hj)]
        simp only [Array.toList_map, Array.toList_range, List.getElem_map, List.getElem_range, List.length_map, List.length_range]
        have e : j % zc.length = j - m * zc.length := by
          rw [show j = (j - m * zc.length) + m * zc.length by omega, Nat.add_mul_mod_self_right, Nat.add_sub_cancel]
          exact Nat.mod_eq_of_lt (by omega)
        have hjj : j - m * zc.length < zc.length := by omega
        simp [e, hjj]
theorem els_reps {zc : List Value} {z : α} (m : Nat) (h : ∀ w R, T.rep w R zc z) : Els T w R (List.replicate m zc).flatten (List.replicate m z) := by
  induction m with
  | zero => rfl
  | succ m ih => exact ⟨zc, _, by simp [List.replicate_succ], h _ _, ih⟩
/-- make([]T, m) -/
theorem st_mkG {x : Operand} {t e : TypeId} {sz by' m : Nat} {kd : IntKind} {lo : Nat → Prop} {z : α} {zs : List Value} (hn : T.n = sz) (ht : P.underlying t = some (.slice e)) (hE : elT P e sz by' = true) (hz : zcells P e = some zs) (hx : ev n l x = some (.int kd (m : Int)))
    (hrep : ∀ w R, T.rep w R zs z) (uR : Up w R) (hlo : ∀ b, w.heap.size ≤ b → lo b) (hm : m ≤ 9223372036854775807 ∧ m * by' ≤ 140737488355328)
    (k : ∀ v' w' R'', (∀ b, R b → b < w.heap.size → R'' b) → (∀ b, R'' b → R b) → Up w' R'' → Ow T e lo w' R'' v' (List.replicate m z) → Md [] w w' → (∀ b, vblock v' = some b → w.heap.size ≤ b) → wpList P ops Q rest (over A D ((d, v') :: l)) w') :
    wpList P ops Q (⟨some d, .makeSlice t x x, ty, ps, af, none⟩ :: rest) (over A D l) w := by
  subst hn
  refine wl_plain rfl ?_
  obtain ⟨i, zv, hi, hzz, hs, hb, hzs⟩ := elT_spec hE
  have hzv : zv.cells = zs.toArray := by
    unfold zcells at hz
    simp only [hi, hzz, Option.some.injEq] at hz
    rw [← hz]
  have hl : zs.length = T.n := T.len (hrep w R)
  obtain ⟨w', hr, ho, hg⟩ := run_make_full (P := P) w 0 t e i zv T.n ht hi hzz hs kd kd m (by rw [hb]; have := hm.2; rw [Nat.mul_comm] at this; omega) (by simp only [maxLen]; exact hm.1) (Nat.zero_le _)
  have hrun : (execOp (over A D l).eval ⟨some d, .makeSlice t x x, ty, ps, af, none⟩).run P w = .ok (.value (.slice (some ⟨w.heap.size, 0, none⟩) m m)) w' := by
    simp [execOp, ev_eval hx, hr]
  unfold Oper.wp
  rw [hrun]
  have hown : Own w' e T.n (.slice (some ⟨w.heap.size, 0, none⟩) m m) (List.replicate m z).length (List.replicate m zs).flatten := by
    rw [hzv, ← hl, made_reps zs m (by rw [hl]; exact T.pos)] at ho
    rw [← hl]
    simpa [Own] using ho
  have hsz : w.heap.size < w'.heap.size := Own.lt hown _ rfl
  have hsize : w.heap.size ≤ w'.heap.size := hg.size
  refine k _ _ (fun b => R b ∧ b ≠ w.heap.size) (fun b hb hl => ⟨hb, by omega⟩) (fun b hb => hb.1) (fun b hb => ⟨uR b (by omega), by omega⟩) ⟨⟨_, hown, els_reps m hrep⟩, fun b hb => ?_⟩ ⟨hg.os, hg.tape, hg.output, hg.size, fun k hk _ => hg.block k hk (by simp)⟩ (fun b hb => ?_)
  · simp [vblock] at hb; subst hb; exact ⟨hlo _ (Nat.le_refl _), fun hh => hh.2 rfl⟩
  · have hb' : w.heap.size = b := by simpa [vblock] using hb
    omega
/-- append(x, y...): x has no room left: the row is new. -/
theorem st_apG {x y : Operand} {t e : TypeId} {sz by' m c : Nat} {lo : Nat → Prop} {p : Addr} {u : Value} {xs ys : List α} (hn : T.n = sz) (ht : P.underlying t = some (.slice e)) (hE : elT P e sz by' = true) (hx : ev n l x = some (.slice (some p) m c)) (hy : ev n l y = some u)
    (hX : Ls T w R (.slice (some p) m c) xs) (hY : Ls T w R u ys) (uR : Up w R) (hlo : ∀ b, w.heap.size ≤ b → lo b) (hm : xs.length = m) (hg : c < m + ys.length) (h63 : xs.length + ys.length ≤ 9223372036854775807) (hbytes : (xs.length + ys.length) * by' ≤ 140737488355328)
    (k : ∀ v' w' R'', (∀ b, R b → b < w.heap.size → R'' b) → (∀ b, R'' b → R b) → Up w' R'' → Ow T e lo w' R'' v' (xs ++ ys) → Md [] w w' → (∀ b, vblock v' = some b → w.heap.size ≤ b) → wpList P ops Q rest (over A D ((d, v') :: l)) w') :
    wpList P ops Q (⟨some d, .call { callee := .builtin .append, args := #[x, y], argTypes := #[t, t] }, ty, ps, af, none⟩ :: rest) (over A D l) w := by
  subst hn; subst hm
  refine wl_plain rfl ?_
  obtain ⟨i, z, hi, hz, hs, hb, hzs⟩ := elT_spec hE
  obtain ⟨a1, cap1, cx, e1, h3, h4, h5, h6, h7, h8⟩ := hX
  simp only [Value.slice.injEq] at e1
  obtain ⟨rfl, _, rfl⟩ := e1
  obtain ⟨a, cap, cy, rfl, g3, g4, g5, g6, g7, g8⟩ := hY
  have ha : ∃ q, a = some q := by
    cases a with
    | none => have := g5 rfl; omega
    | some q => exact ⟨q, rfl⟩
  obtain ⟨q, rfl⟩ := ha
  have hr := run_append_grow (P := P) w t ty e i z ht hi hz p xs.length c cx (by rw [hs]; exact h8.len) (h7 p rfl) q ys.length cap cy (by rw [hs]; exact g8.len) (g7 q rfl) hg (by omega) (by rw [hb]; exact growslice_fits hg hbytes)
  have hge := grownCap_ge w (xs.length + ys.length) c e
  have hcm := grownCap_le_maxLen w (xs.length + ys.length) c e (by simp only [maxLen]; exact h63)
  have hrun : (execOp (over A D l).eval ⟨some d, .call { callee := .builtin .append, args := #[x, y], argTypes := #[t, t] }, ty, ps, af, none⟩).run P w = .ok (.value (.slice (some ⟨w.heap.size, 0, none⟩) (xs.length + ys.length) (grownCap w (xs.length + ys.length) c e)))
        (w.drew.alloc (.cells (cx.toArray ++ cy.toArray ++ Builtin.zeroCells z.cells (grownCap w (xs.length + ys.length) c e - (xs.length + ys.length))) e)) := by
    simp [execOp, resolve, invoke, builtin, ev_eval hx, ev_eval hy, hr]
  unfold Oper.wp
  rw [hrun]
  have hlen : (cx ++ cy).length = (xs.length + ys.length) * T.n := by rw [List.length_append, h8.len, g8.len, Nat.add_mul]
  have hmd : Md [] w (w.drew.alloc (.cells (cx.toArray ++ cy.toArray ++ Builtin.zeroCells z.cells (grownCap w (xs.length + ys.length) c e - (xs.length + ys.length))) e)) := ⟨rfl, rfl, rfl, by simp, fun k hk _ => heap_alloc_old w.drew _ hk⟩
  have hs1 : ∀ b, R b → b < w.heap.size → (R b ∧ b ≠ w.heap.size) := fun b hb hl => ⟨hb, by omega⟩
  refine k _ _ (fun b => R b ∧ b ≠ w.heap.size) hs1 (fun b hb => hb.1) (fun b hb => ?_) ⟨⟨cx ++ cy, ⟨by simpa using hlen, .inr ⟨w.heap.size, _, _, by simp, Nat.zero_le _, heap_alloc_new w.drew _, by simpa using hge, hcm, ?_, ?_⟩⟩, ?_⟩, fun b hb => ?_⟩ hmd (fun b hb => ?_)
  · have hb' : w.heap.size + 1 ≤ b := by simpa using hb
    exact ⟨uR b (by omega), by omega⟩
  · simp only [Array.size_append, List.size_toArray, size_zeroCells, hzs, h8.len, g8.len, ← Nat.add_mul]
    congr 1
    omega
  · simp only [Array.toList_append, List.append_assoc]
    rw [← List.append_assoc]
    have : (xs ++ ys).length * T.n = (cx ++ cy).length := by rw [hlen]; simp
    rw [this]
    exact List.take_left
  · exact ((h8.sub hs1).append (g8.sub hs1)).md hmd (by simp)
  · simp [vblock] at hb; subst hb; exact ⟨hlo _ (Nat.le_refl _), fun hh => hh.2 rfl⟩
  · have hb' : w.heap.size = b := by simpa [vblock] using hb
    omega
theorem Ls.of_seg {β : Type} {f : β → Value} {h1 : ∀ x, (f x).oneCell' = true} {ok : β → Prop} {b o m : Nat} {cs : List Value} {ty' : TypeId} {xs : List β} (hB : Blk w b cs ty') (hR : R b) (hm : xs.length = m) (h2 : m ≤ maxLen) (hc : (cs.drop o).take m = xs.map f) (ho : ∀ x ∈ xs, ok x) : Ls (tOne f h1 ok) w R (.slice (some ⟨b, o, none⟩) m m) xs := by
  subst hm
  refine ⟨_, _, xs.map f, rfl, Nat.le_refl _, h2, by simp, fun p hp _ => by cases hp; exact hR, fun p hp j u hj => ?_, els_one ho⟩
  cases hp
  rw [Addr.add_mk, hB.cell]
  rw [← hc, List.getElem?_take] at hj
  split at hj
  · rw [List.getElem?_drop] at hj; exact hj
  · cases hj
end
end Go.Wk
