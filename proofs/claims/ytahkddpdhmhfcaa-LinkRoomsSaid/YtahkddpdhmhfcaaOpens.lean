/- What comes in, read: bytes, arrays of bytes, lists of bytes. No statement is proved here. -/
import Derived.Test.YtahkddpdhmhfcaaDraws
import Derived.ProofKit
import Derived.OpenShut
import Derived.ShutString
import Derived.Deep.Slices
namespace Go.Wk
open Go Go.RowKit Go.ChangeShapes Go.WideShapes Go.ChangeAt Go.Deep

section
variable {H : Type} {enc : TypeId × Value → H} {P : Program} {w : World} {t e : TypeId} {v : Value} {d : DataW H} {ps : List MemPlace}

theorem b8_of_wf {z : Int} (h : (Lit.int .u8 z).wf = true) : Value.int .u8 z = b8 (UInt8.ofNat z.toNat) := by
  simp [Lit.wf, IntKind.min, IntKind.max, IntKind.signed, IntKind.bits] at h
  unfold b8
  congr 1
  simp
  omega

theorem bytes_of_list {a : Option Addr} {len cap : Nat} (hl : len ≤ cap) (hm : cap ≤ maxLen) (h0 : a = none → cap = 0) (f : Nat → UInt8) (h : ∀ p, a = some p → ∀ i, i < len → w.cell? (p.add i) = some (b8 (f i))) :
    ∃ l : List UInt8, By w (.slice a len cap) l := by
  refine ⟨(List.range len).map f, a, cap, by simp, by simpa using hl, hm, h0, ?_⟩
  intro p hp j u hu
  simp only [List.map_map] at hu
  rw [List.getElem?_map] at hu
  cases hr : (List.range len)[j]? with
  | none => rw [hr] at hu; simp at hu
  | some k =>
    obtain ⟨hk1, hk2⟩ := List.getElem?_eq_some_iff.1 hr
    simp at hk1 hk2
    subst hk2
    rw [hr] at hu
    simp at hu
    rw [h p hp j hk1, hu]

theorem bytes_of_trod {fuel : Nat} {cs : List Value} {x : DataW H × List MemPlace} {spare : Nat → Bool} {base : Nat} {held : Bool} (ht : P.underlying t = some (.slice e)) (he : P.underlying e = some (.int .u8)) (hc : P.cellsOf e = 1)
    (h : DataW.trod enc P w base spare held fuel t cs = some x) : ∃ v l, cs = [v] ∧ By w v l := by
  rcases open_ints ht he hc h with ⟨rfl, _⟩ | ⟨a, len, cap, zs, rfl, _, hl, hm, hz, _, hcell, hwz⟩
  · exact ⟨_, [], rfl, Sl.nil w⟩
  · have hlen : len ≤ zs.length := by rw [hz]; split <;> omega
    obtain ⟨l, hl⟩ := bytes_of_list (w := w) (a := some a) hl hm (by simp) (fun i => UInt8.ofNat (zs.getD i 0).toNat) (fun p hp i hi => by
      cases hp
      rw [hcell i (by omega)]
      refine congrArg some (b8_of_wf (hwz _ ?_))
      have : i < zs.length := by omega
      simp [List.getD, this])
    exact ⟨_, l, rfl, hl⟩

/-- []byte. -/
theorem open_bytes {spare : Nat → Bool} {base : Nat} {held : Bool} {b0 : Nat} (ht : P.underlying t = some (.slice e)) (he : P.underlying e = some (.int .u8)) (hc : P.cellsOf e = 1) (hv : Value.okWide P w .any b0 t v)
    (h : DataW.Trod enc P w base spare held t v d ps) : ∃ l, By w v l := by
  obtain ⟨a, len, cap, rfl⟩ := okWide_slice ht hv
  obtain ⟨fuel, hf⟩ := h
  obtain ⟨v', l, hcs, hl⟩ := bytes_of_trod ht he hc hf
  simp [Value.cells] at hcs
  subst hcs
  exact ⟨l, hl⟩

theorem exists_list {α : Type} (p : Nat → α → Prop) : ∀ n, (∀ i, i < n → ∃ a, p i a) → ∃ l : List α, l.length = n ∧ ∀ i a, l[i]? = some a → p i a
  | 0, _ => ⟨[], rfl, by simp⟩
  | n + 1, h => by
    obtain ⟨l, hl, hp⟩ := exists_list p n (fun i hi => h i (by omega))
    obtain ⟨a, ha⟩ := h n (by omega)
    refine ⟨l ++ [a], by simp [hl], fun i b hb => ?_⟩
    by_cases hi : i < n
    · rw [List.getElem?_append_left (by omega)] at hb; exact hp i b hb
    · have h1 := (List.getElem?_eq_some_iff.1 hb).1
      simp at h1
      have : i = n := by omega
      subst this
      rw [List.getElem?_append_right (by omega), hl, Nat.sub_self] at hb
      simp at hb
      subst hb
      exact ha
/-- [m]byte. -/
theorem open_barr {spare : Nat → Bool} {base : Nat} {held : Bool} {b0 m : Nat} (ht : P.underlying t = some (.array m e)) (he : P.underlying e = some (.int .u8)) (hc : P.cellsOf e = 1) (hC : P.cellsOf t = m) (hv : Value.okWide P w .any b0 t v)
    (h : DataW.Trod enc P w base spare held t v d ps) : ∃ l : List UInt8, l.length = m ∧ v = .agg (l.map b8).toArray := by
  simp only [Value.okWide, ht] at hv
  obtain ⟨cs, rfl, hsz, _⟩ := hv
  obtain ⟨fuel, hf⟩ := h
  simp only [Value.cells] at hf
  obtain ⟨xs, f, rfl, _, hlen, hxs, hel⟩ := DataW.trod_array ht hf
  have hm : cs.size = m := by rw [hsz, hC]
  have key : ∀ i, i < m → ∃ x : UInt8, cs.toList[i]? = some (b8 x) := by
    intro i hi
    have h1 := hel i hi
    have hx : ∃ y, xs[i]? = some y := ⟨xs[i]'(by omega), List.getElem?_eq_getElem (by omega)⟩
    obtain ⟨y, hy⟩ := hx
    rw [hy, hc] at h1
    have hci : cs.toList[i]? = some (cs[i]'(by omega)) := by simp
    have htk : (cs.toList.drop (i * 1)).take 1 = [cs[i]'(by omega)] := by
      rw [Nat.mul_one, List.drop_eq_getElem_cons (by simp; omega)]
      simp
    rw [htk] at h1
    obtain ⟨z, hz, _, hwf⟩ := DataW.trod_int he h1
    simp at hz
    exact ⟨_, by rw [hci, hz, b8_of_wf hwf]⟩
  obtain ⟨l, hl, hp⟩ := exists_list _ m key
  refine ⟨l, hl, ?_⟩
  congr 1
  apply Array.ext'
  apply List.ext_getElem?
  intro i
  by_cases hi : i < m
  · have hx : l[i]? = some (l[i]'(by omega)) := List.getElem?_eq_getElem (by omega)
    rw [hp i _ hx]
    simp [List.getElem?_map, hx]
  · rw [List.getElem?_eq_none (by simp; omega), List.getElem?_eq_none (by simp; omega)]

/-- Each of these values is bytes. -/
def Rows (w : World) (v : Value) (vs : List Value) (ls : List (List UInt8)) : Prop := Sl w v vs ∧ vs.length = ls.length ∧ ∀ (i : Nat) (u : Value) (l : List UInt8), vs[i]? = some u → ls[i]? = some l → By w u l
/-- [][]byte. -/
theorem open_rows {spare : Nat → Bool} {base : Nat} {held : Bool} {b0 : Nat} {ee : TypeId} (ht : P.underlying t = some (.slice e)) (he : P.underlying e = some (.slice ee)) (hee : P.underlying ee = some (.int .u8)) (hc : P.cellsOf e = 1) (hcc : P.cellsOf ee = 1) (hv : Value.okWide P w .any b0 t v)
    (h : DataW.Trod enc P w base spare held t v d ps) : ∃ vs ls, Rows w v vs ls := by
  obtain ⟨a0, len0, cap0, rfl⟩ := okWide_slice ht hv
  obtain ⟨fuel, hf⟩ := h
  simp only [Value.cells] at hf
  rcases open_slice ht hf with ⟨hcs, _⟩ | ⟨a, len, cap, m, n, D, Pl, hcs, _, hl, hm, hmm, _, hel⟩
  · simp at hcs
    obtain ⟨rfl, rfl, rfl⟩ := hcs
    exact ⟨[], [], Sl.nil w, rfl, by simp⟩
  · simp at hcs
    obtain ⟨rfl, rfl, rfl⟩ := hcs
    have hlm : len0 ≤ m := by rw [hmm]; split <;> omega
    have key : ∀ i, i < len0 → ∃ p : Value × List UInt8, w.cell? (a.add i) = some p.1 ∧ By w p.1 p.2 := by
      intro i hi
      obtain ⟨cs', h1, h2⟩ := hel i (by omega)
      obtain ⟨u, l, rfl, hb⟩ := bytes_of_trod he hee hcc h2
      refine ⟨(u, l), ?_, hb⟩
      rw [hc] at h1
      unfold World.cells? at h1
      split at h1
      · simp [List.range_succ] at h1
        rw [Option.bind_eq_some_iff] at h1
        obtain ⟨y, hy, hy2⟩ := h1
        simp at hy2
        subst hy2
        exact hy
      · cases h1
    obtain ⟨pl, hpl, hp⟩ := exists_list _ len0 key
    refine ⟨pl.map (·.1), pl.map (·.2), ⟨some a, _, by simp [hpl], by simpa [hpl] using hl, hm, by simp, ?_⟩, by simp, ?_⟩
    · intro q hq j u hu
      cases hq
      rw [List.getElem?_map] at hu
      cases hj : pl[j]? with
      | none => rw [hj] at hu; simp at hu
      | some y => rw [hj] at hu; simp at hu; rw [← hu]; exact (hp j y hj).1
    · intro i u l hu hl'
      rw [List.getElem?_map] at hu hl'
      cases hj : pl[i]? with
      | none => rw [hj] at hu; simp at hu
      | some y => rw [hj] at hu hl'; simp at hu hl'; rw [← hu, ← hl']; exact (hp i y hj).2
end
end Go.Wk
