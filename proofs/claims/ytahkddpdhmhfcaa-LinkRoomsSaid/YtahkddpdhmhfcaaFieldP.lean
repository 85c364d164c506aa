/- Plain laws of field pairs: names, payloads. -/
import Derived.Test.YtahkddpdhmhfcaaStrings
import Derived.Lib.IndexLaws
namespace Go.Wk
open Go Go.RowKit

def digit (c : UInt8) : Bool := decide (48 ≤ c.toNat ∧ c.toNat ≤ 57)
def nameC (c : UInt8) : Bool := decide ((65 ≤ c.toNat ∧ c.toNat ≤ 90) ∨ (48 ≤ c.toNat ∧ c.toNat ≤ 57) ∨ c.toNat = 95)
def isName (s : List UInt8) : Bool := decide (1 ≤ s.length) && decide (s.length ≤ 64) && !digit (s.getD 0 0) && s.all nameC
theorem all_getD {f : UInt8 → Bool} {s : List UInt8} (h : ∀ j, j < s.length → f (s.getD j 0) = true) : s.all f = true := by
  rw [List.all_eq_true]
  intro x hx
  obtain ⟨j, hj, rfl⟩ := List.mem_iff_getElem.1 hx
  have := h j hj
  simpa [List.getD, hj] using this
theorem getD_all {f : UInt8 → Bool} {s : List UInt8} (h : s.all f = true) {j : Nat} (hj : j < s.length) : f (s.getD j 0) = true := by
  rw [List.all_eq_true] at h
  have := h (s[j]'hj) (List.getElem_mem hj)
  simpa [List.getD, hj] using this
theorem name_ok {s : List UInt8} (h1 : 1 ≤ s.length) (h2 : s.length ≤ 64) (h3 : digit (s.getD 0 0) = false) (h4 : ∀ j, j < s.length → nameC (s.getD j 0) = true) : isName s = true := by
  unfold isName; rw [decide_eq_true h1, decide_eq_true h2, h3, all_getD h4]; rfl
theorem name_no {s : List UInt8} {j : Nat} (hj : j < s.length) (h : nameC (s.getD j 0) = false) : isName s = false := by
  cases hh : isName s with
  | false => rfl
  | true =>
    simp only [isName, Bool.and_eq_true] at hh
    have := getD_all hh.2 hj
    rw [h] at this; cases this
theorem name_len {s : List UInt8} (h : isName s = true) : 1 ≤ s.length ∧ s.length ≤ 64 := by
  simp only [isName, Bool.and_eq_true, decide_eq_true_eq] at h; exact ⟨h.1.1.1, h.1.1.2⟩
theorem name_all {s : List UInt8} (h : isName s = true) {c : UInt8} (hc : c ∈ s) : nameC c = true := by
  simp only [isName, Bool.and_eq_true] at h
  exact List.all_eq_true.1 h.2 c hc
theorem name_dig {s : List UInt8} (h : isName s = true) : ¬ (48 ≤ (s.getD 0 0).toNat ∧ (s.getD 0 0).toNat ≤ 57) := by
  simp only [isName, Bool.and_eq_true, Bool.not_eq_true'] at h
  have := h.1.2
  unfold digit at this
  exact of_decide_eq_false this
theorem name_at {s : List UInt8} (h : isName s = true) (j : Nat) (hj : j < s.length) : (65 ≤ (s.getD j 0).toNat ∧ (s.getD j 0).toNat ≤ 90) ∨ (48 ≤ (s.getD j 0).toNat ∧ (s.getD j 0).toNat ≤ 57) ∨ (s.getD j 0).toNat = 95 := by
  simp only [isName, Bool.and_eq_true] at h
  exact of_decide_eq_true (getD_all h.2 hj)
abbrev PairB := List UInt8 × List UInt8
def whole (p : PairB) : List UInt8 := p.1 ++ [61] ++ p.2
def right (p : PairB) : Bool := isName p.1 && decide (p.2.length ≤ 256)
def joinC (p : PairB) : Int := if isName p.1 = false then 1 else if 256 < p.2.length then 21 else 0
def joinB (p : PairB) : List UInt8 := if joinC p = 0 then whole p else []
def splitC (s : List UInt8) : Int :=
  if Lib.indexByte s 61 < 0 then 20 else if isName (s.take (Lib.indexByte s 61).toNat) = false then 20 else if 256 < (s.drop ((Lib.indexByte s 61).toNat + 1)).length then 21 else 0
def splitP (s : List UInt8) : PairB := if splitC s = 0 then (s.take (Lib.indexByte s 61).toNat, s.drop ((Lib.indexByte s 61).toNat + 1)) else ([], [])
theorem joinC_right (p : PairB) : (joinC p = 0) ↔ right p = true := by
  unfold joinC right
  cases isName p.1 <;> simp
theorem indexByte_lt {s : List UInt8} {c : UInt8} (h : 0 ≤ Lib.indexByte s c) : (Lib.indexByte s c).toNat < s.length ∧ s[(Lib.indexByte s c).toNat]? = some c := by
  obtain ⟨o, ho⟩ := Int.eq_ofNat_of_zero_le h
  have := (Lib.indexByte_some ho).1
  rw [ho]
  exact ⟨(List.getElem?_eq_some_iff.1 this).1, this⟩
theorem indexByte_at {a b : List UInt8} {c : UInt8} (h : c ∉ a) : Lib.indexByte (a ++ c :: b) c = a.length := by
  induction a with
  | nil => simp [Lib.indexByte]
  | cons x r ih =>
    have h1 : x ≠ c := fun hh => h (by simp [hh])
    have h2 : c ∉ r := fun hh => h (by simp [hh])
    have hx : (x == c) = false := by simp [h1]
    simp only [List.cons_append, Lib.indexByte, hx, ih h2]
    have : ((r.length : Int) == -1) = false := by rw [beq_eq_false_iff_ne]; omega
    simp [this]
theorem split_whole {p : PairB} (h : joinC p = 0) : splitC (whole p) = 0 ∧ splitP (whole p) = p := by
  obtain ⟨a, b⟩ := p
  have hr := (joinC_right _).1 h
  simp only [right, Bool.and_eq_true, decide_eq_true_eq] at hr
  have hn : (61 : UInt8) ∉ a := fun hm => by
    have := name_all hr.1 hm
    revert this; decide
  have hi : Lib.indexByte (whole (a, b)) 61 = a.length := by
    unfold whole; simp only [List.append_assoc, List.singleton_append]; exact indexByte_at hn
  have h1 : (whole (a, b)).take a.length = a := by simp [whole]
  have h2 : (whole (a, b)).drop (a.length + 1) = b := by
    unfold whole
    rw [List.drop_append_of_le_length (by simp)]
    simp
  have hc : splitC (whole (a, b)) = 0 := by
    unfold splitC
    rw [hi, if_neg (by omega), Int.toNat_natCast, h1, h2, if_neg (by simp [hr.1]), if_neg (by omega)]
  refine ⟨hc, ?_⟩
  unfold splitP
  rw [if_pos hc, hi, Int.toNat_natCast, h1, h2]
theorem join_split {s : List UInt8} (h : splitC s = 0) : joinC (splitP s) = 0 ∧ joinB (splitP s) = s := by
  unfold splitP
  rw [if_pos h]
  unfold splitC at h
  split at h
  · omega
  · rename_i h0
    split at h
    · omega
    · rename_i h1
      split at h
      · omega
      · rename_i h2
        have hj : joinC (s.take (Lib.indexByte s 61).toNat, s.drop ((Lib.indexByte s 61).toNat + 1)) = 0 := by
          unfold joinC; rw [if_neg h1, if_neg h2]
        refine ⟨hj, ?_⟩
        unfold joinB
        rw [if_pos hj]
        obtain ⟨h3, h4⟩ := indexByte_lt (s := s) (c := 61) (by omega)
        unfold whole
        have h5 : s[(Lib.indexByte s 61).toNat]'h3 = 61 := by rw [List.getElem?_eq_getElem h3] at h4; exact Option.some.inj h4
        have h6 := List.drop_eq_getElem_cons h3
        rw [h5] at h6
        rw [List.append_assoc, List.singleton_append, ← h6, List.take_append_drop]
theorem split_bad {s : List UInt8} (h : splitC s ≠ 0) : splitP s = ([], []) := by unfold splitP; rw [if_neg h]

theorem join_right (p : PairB) : (decide (joinC p = 0) != right p) = false := by
  cases h : right p with
  | true => simp [(joinC_right p).2 h]
  | false =>
    have : ¬ joinC p = 0 := fun hj => by rw [(joinC_right p).1 hj] at h; cases h
    simp [this]
theorem name_fin {s : List UInt8} (h1 : 1 ≤ s.length) (h : ∀ j, j < s.length → nameC (s.getD j 0) = true ∧ (j = 0 → digit (s.getD j 0) = false)) : decide ((s.length : Int) ≤ 64) = isName s := by
  have hd := (h 0 (by omega)).2 rfl
  have ha := all_getD fun j hj => (h j hj).1
  unfold isName
  rw [decide_eq_true h1, hd, ha, Bool.true_and, Bool.not_false, Bool.and_true, Bool.and_true]
  exact decide_eq_decide.2 (by omega)
theorem ix_at {l : List UInt8} {c : UInt8} {i : Nat} (hi : i < l.length) (hc : l.getD i 0 = c) (h : ∀ j, j < i → l.getD j 0 ≠ c) : Lib.indexByte l c = i := by
  induction l generalizing i with
  | nil => simp at hi
  | cons x r ih =>
    cases i with
    | zero => simp [List.getD] at hc; subst hc; simp [Lib.indexByte]
    | succ i =>
      have hx : (x == c) = false := by
        have := h 0 (by omega)
        simpa [List.getD] using this
      have := ih (i := i) (by simpa using hi) (by simpa [List.getD] using hc) (fun j hj => by have := h (j + 1) (by omega); simpa [List.getD] using this)
      simp only [Lib.indexByte, hx, this]
      have e : ((i : Int) == -1) = false := by rw [beq_eq_false_iff_ne]; omega
      simp [e]
theorem ix_none {l : List UInt8} {c : UInt8} (h : ∀ j, j < l.length → l.getD j 0 ≠ c) : Lib.indexByte l c < 0 := by
  refine Int.lt_of_not_ge fun hge => ?_
  obtain ⟨h1, h2⟩ := indexByte_lt (s := l) (c := c) hge
  exact h _ h1 (by simp [List.getD, h2])
def cmpS (a b : List UInt8) : Int := if Op.bytesLess a b = true then -1 else if (!(Op.bytesLess a b || decide (a = b))) = true then 1 else 0
theorem cmpS_neg (a b : List UInt8) : decide (cmpS a b < 0) = Op.bytesLess a b := by
  unfold cmpS
  cases h : Op.bytesLess a b with
  | true => simp
  | false =>
    simp only [Bool.false_eq_true, if_false]
    split <;> rfl
theorem By.nil (w : World) : By w (.slice none 0 0) [] := ⟨none, 0, rfl, Nat.le_refl _, Nat.zero_le _, fun _ => rfl, by simp⟩
/-! the entry IndexByte -/
section
variable {P : Program} {n : Nat} {A : Fr n} {D : List Deferred} {l : List (Nat × Value)} {w : World}
variable {d : Option Tmp} {ty : TypeId} {ps : String} {af : Array Edge} {g : Option (Nat × Bool)}
theorem r_callX {f : FuncId} {xs : List Operand} {ts : Array TypeId} {vs : List Value} {v : Value} (ha : evs n l xs = some vs) (hr : (callFunc f vs.toArray).run P w = .ok (.value v) w) :
    RunV P ⟨d, .call { callee := .value (.func f), args := xs.toArray, argTypes := ts }, ty, ps, af, g⟩ (over A D l).eval w v := by
  have he := evs_eval (A := A) (D := D) ha
  simp only [RunV, execOp, resolve, Act.eval, Deferred.ofValue, List.map_toArray, he]
  simp [invoke, hr]
theorem run_ixb {v : Value} {s : List UInt8} (hB : By w v s) (c : UInt8) : (Extern.BytealgIndexByte.indexByte #[v, b8 c]).run P w = .ok (.int .i64 (Lib.indexByte s c)) w := by
  obtain ⟨a, cap, rfl, h1, h2, h3, h4⟩ := hB
  have hbo : Lib.bytesOf (s.map fun x => (x.toNat : Int)) = s := by
    simp [Lib.bytesOf, Function.comp_def]
  cases s with
  | nil =>
    cases a with
    | none =>
      change Sem.run P (do
        let b ← Extern.Bytes.bytesOf (.slice none 0 cap)
        let c ← Extern.Bytes.asByte (b8 c)
        match (List.range b.size).find? fun i => b[i]! == c with
        | some i => pure (goInt i)
        | none => pure (goInt (-1))) w = _
      simp [Extern.Bytes.bytesOf, Extern.Bytes.asByte, b8, Lib.indexByte, goInt]
    | some p =>
      change Sem.run P (do
        let b ← Extern.Bytes.bytesOf (.slice (some p) 0 cap)
        let c ← Extern.Bytes.asByte (b8 c)
        match (List.range b.size).find? fun i => b[i]! == c with
        | some i => pure (goInt i)
        | none => pure (goInt (-1))) w = _
      simp [Extern.Bytes.bytesOf, Extern.Bytes.asByte, b8, Lib.indexByte, Extern.Bytes.loadBytes, goInt]
  | cons x r =>
    cases a with
    | none => have := h3 rfl; simp at h1; omega
    | some p =>
      have h0 := h4 p rfl 0 (b8 x) rfl
      obtain ⟨pb, po, psp⟩ := p
      have hsp : psp = none := by
        cases psp with
        | none => rfl
        | some q =>
          unfold World.cell? at h0
          simp only [Addr.add] at h0
          split at h0 <;> first | (simp at h0; done) | (split at h0 <;> simp_all)
      subst hsp
      have := Lib.run_indexByteSlice (P := P) w pb po (x :: r).length cap ((x :: r).map fun x => (x.toNat : Int)) (by simp) (fun i hi => by
        have := h4 _ rfl i (b8 ((x :: r).getD i 0)) (by simpa using getD_b8 (x :: r) i hi)
        have ha : (⟨pb, po, none⟩ : Addr).add i = ⟨pb, po + i, none⟩ := by unfold Addr.add; split <;> simp_all
        rw [ha] at this
        rw [this, b8]
        rw [List.getD_eq_getElem?_getD, List.getD_eq_getElem?_getD, List.getElem?_map, List.getElem?_eq_getElem hi]; rfl) c.toNat
      rw [hbo] at this
      simpa [b8] using this
end
end Go.Wk
