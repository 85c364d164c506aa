/- A row of pairs that may be, sorted in place. No statement is proved here. -/
import Derived.Test.YtimakajeggeebaaCompR
import Derived.Shelf.SlSortCmp.NoneTotal
namespace Go.Wk
open Go Go.RowKit Go.Sort Go.Proofs

abbrev RPr := {p : Pr // right p.pb = true}
instance : Inhabited RPr := ⟨⟨{ name := [65], value := [] }, by decide⟩⟩
def encP (x : RPr) : List Value := Pr.cells x.1
theorem encP_one (x : RPr) : ∀ v ∈ encP x, v.oneCell' = true := by
  intro v hv; simp [encP, Pr.cells] at hv; rcases hv with rfl | rfl <;> rfl
def cfP (x y : RPr) : Int := cmpS (whole x.1.pb) (whole y.1.pb)
theorem ltP (x y : RPr) : ltOf cfP x y = Op.bytesLess (whole x.1.pb) (whole y.1.pb) := cmpS_neg _ _
theorem swoP : SWO (ltOf cfP) where
  irrefl x := by rw [ltP]; exact bl_irr _
  trans x y z h1 h2 := by rw [ltP] at *; exact bl_trans h1 h2
  ntrans x y z h1 h2 := by
    rw [ltP] at *
    cases h3 : Op.bytesLess (whole x.1.pb) (whole z.1.pb) with
    | false => rfl
    | true =>
      cases h4 : Op.bytesLess (whole y.1.pb) (whole x.1.pb) with
      | true => have := bl_trans h4 h3; rw [h2] at this; cases this
      | false => rw [bl_tri h1 h4, h2] at h3; cases h3
theorem totP (x y : RPr) (h1 : ltOf cfP x y = false) (h2 : ltOf cfP y x = false) : x = y := by
  rw [ltP] at h1 h2
  exact Subtype.ext (pb_inj.1 (whole_inj x.2 y.2 (bl_tri h1 h2)))
def leP (x y : Pr) : Bool := !(Op.bytesLess (whole y.pb) (whole x.pb))
def sortF (l : List Pr) : List Pr := l.mergeSort leP
theorem sortF_sub (l : List RPr) : (l.mergeSort fun x y => !(ltOf cfP) y x).map Subtype.val = sortF (l.map Subtype.val) := by
  unfold sortF
  exact List.map_mergeSort fun a _ b _ => by rw [ltP]; rfl
theorem lift_right : ∀ (l : List Pr), (∀ p ∈ l, right p.pb = true) → ∃ l' : List RPr, l'.map Subtype.val = l
  | [], _ => ⟨[], rfl⟩
  | p :: r, h => by
    obtain ⟨r', hr⟩ := lift_right r fun q hq => h q (by simp [hq])
    exact ⟨⟨p, h p (by simp)⟩ :: r', by simp [hr]⟩
theorem flatK_toList (d : List RPr) : (flatK encP 2 d.toArray).toList = (d.map Subtype.val).flatMap Pr.cells := by
  apply List.ext_getElem?
  intro t
  have hl : (flatK encP 2 d.toArray).size = d.length * 2 := by simp
  have hm : ((d.map Subtype.val).flatMap Pr.cells).length = d.length * 2 := by rw [flat_len]; simp
  by_cases ht : t < d.length * 2
  · have h1 := get_flatK encP 2 d.toArray t (by simpa using ht)
    have hi : t / 2 < d.length := by omega
    have h2 : d.toArray[t / 2]! = d[t / 2] := by rw [getElem!_pos d.toArray (t / 2) (by simpa using hi)]; simp
    rw [h2] at h1
    have h3 : (encP d[t / 2])[t % 2]! = ((encP d[t / 2])[t % 2]'(by have : (encP d[t / 2]).length = 2 := rfl; omega)) := getElem!_pos (encP d[t / 2]) (t % 2) _
    rw [h3] at h1
    have h4 := flat_get (xs := d.map Subtype.val) (i := t / 2) (j := t % 2) (x := d[t / 2].1) (u := (encP d[t / 2])[t % 2]'(by have : (encP d[t / 2]).length = 2 := rfl; omega)) (by simp [hi]) (by rw [List.getElem?_eq_getElem (by have : (Pr.cells d[t / 2].1).length = 2 := rfl; omega)]; rfl)
    rw [show t / 2 * 2 + t % 2 = t by omega] at h4
    rw [h4, Array.getElem?_toList, ← h1, getElem!_pos _ t (by simpa using ht)]
    exact Array.getElem?_eq_getElem _
  · rw [List.getElem?_eq_none (by simpa using Nat.le_of_not_lt ht), List.getElem?_eq_none (by omega)]
theorem Rw.holds {w : World} {b cap : Nat} {d : List RPr} (h : Rw w b cap (d.map Subtype.val)) : HoldsK encP 2 w b 0 d.toArray := by
  obtain ⟨cur, h1, h2, h3, h4⟩ := h
  intro j hj
  have hj' : j < d.length * 2 := by simpa using hj
  rw [Nat.zero_add, h1.cell, h1.frozen]
  refine ⟨?_, rfl⟩
  have h5 : (cur.take ((d.map Subtype.val).length * 2))[j]? = cur[j]? := by rw [List.getElem?_take, if_pos (by simpa using hj')]
  rw [← h5, h4, ← flatK_toList, Array.getElem?_toList, getElem!_pos _ j (by simpa using hj')]
  exact Array.getElem?_eq_getElem _
theorem Rw.sorted {w : World} {b cap n : Nat} {d d' : List RPr} {os : Array Obj} (h : Rw w b cap (d.map Subtype.val)) (hl : d'.length = d.length) :
    Md [b] w (sortWorldK encP 2 w b 0 n d'.toArray os) ∧ Rw (sortWorldK encP 2 w b 0 n d'.toArray os) b cap (d'.map Subtype.val) := by
  obtain ⟨cur, h1, h2, h3, h4⟩ := h
  have hb := h1.lt
  have hbl : (sortWorldK encP 2 w b 0 n d'.toArray os).heap[b]? = some (.cells (putCells id 0 (flatK encP 2 d'.toArray) cur.toArray) 44 (0, 0)) := by
    unfold sortWorldK grow putRowK putRow mapBlock
    simp only [Sort.ahead]
    rw [Array.getElem?_append_left (by simpa using hb), Array.getElem?_modify, if_pos rfl]
    have : w.heap[b]? = some (.cells cur.toArray 44 (0, 0)) := h1
    rw [this]
    rfl
  refine ⟨⟨rfl, rfl, rfl, ?_, ?_⟩, (putCells id 0 (flatK encP 2 d'.toArray) cur.toArray).toList, by unfold Blk; rw [hbl], ?_, ?_, ?_⟩
  · simp [sortWorldK, grow, putRowK, putRow, mapBlock, Sort.ahead]
  · intro k hk hs
    simp only [List.mem_singleton] at hs
    unfold sortWorldK grow putRowK putRow mapBlock
    simp only [Sort.ahead]
    rw [Array.getElem?_append_left (by simpa using hk), Array.getElem?_modify, if_neg (fun h => hs h.symm)]
  · simp [putCells, h2]
  · simp at h3 ⊢; omega
  · rw [← flatK_toList]
    have hs : (flatK encP 2 d'.toArray).size = d'.length * 2 := by simp
    apply List.ext_getElem?
    intro t
    simp only [List.length_map] at h3 ⊢
    by_cases ht : t < d'.length * 2
    · rw [List.getElem?_take, if_pos ht, Array.getElem?_toList, Array.getElem?_toList]
      unfold putCells
      rw [Array.getElem?_mapIdx]
      have hc : t < cur.length := by omega
      simp only [List.getElem?_toArray, List.getElem?_eq_getElem hc, Option.map_some, Nat.zero_le, true_and, Nat.zero_add, hs, ht, if_true, Nat.sub_zero, id]
      rw [getElem!_pos _ t (by simpa using ht)]
      exact (Array.getElem?_eq_getElem _).symm
    · rw [List.getElem?_eq_none (by simp; omega), List.getElem?_eq_none (by simp; omega)]

/-! ### The package's list of pairs -/
def packF (l : List Pr) : List Pr := compactF (sortF l)
def chkL : List Pr → List Pr × Nat → List Pr × Nat
  | [], r => r
  | p :: t, r => if (joinF p).2 ≠ 0 then ([], (joinF p).2) else chkL t r
theorem chk_end {l : List Pr} {i : Nat} {r : List Pr × Nat} (h : ¬ i < l.length) : chkL (l.drop i) r = r := by rw [drop_end (by omega)]; rfl
theorem chk_step {l : List Pr} {i : Nat} {p : Pr} {r : List Pr × Nat} (h : l[i]? = some p) : chkL (l.drop i) r = if (joinF p).2 ≠ 0 then ([], (joinF p).2) else chkL (l.drop (i + 1)) r := by rw [drop_get h]; rfl
def packE (l : List Pr) : List Pr × Nat := if 16 < (packF l).length then ([], 21) else (packF l, 0)
def plistF (l : List Pr) : List Pr × Nat := if l.length = 0 then ([], 16) else chkL l (packE l)
end Go.Wk
