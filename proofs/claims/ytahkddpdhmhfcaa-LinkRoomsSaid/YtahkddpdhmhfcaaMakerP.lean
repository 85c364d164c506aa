/- What the reference's maker of journals computes. No statement is proved here. -/
import Derived.Test.YtahkddpdhmhfcaaHashN
namespace Go.Wk
open Go Go.RowKit
def roomF (k : Int) : Nat := if k < 0 then 0 else if 6 < k then 256 else min (4 * 2 ^ k.toNat) 256
def putG : Nat → List UInt8 → Nat → Nat → Nat → List UInt8
  | 0, b, _, _, _ => b
  | n + 1, b, p, v, i => putG n (b.set (p + i) (UInt8.ofNat (v / 2 ^ (8 * i)))) p v (i + 1)
/-- A number of eight bytes at a place. -/
def putN (b : List UInt8) (p v : Nat) : List UInt8 := putG 8 b p v 0
theorem putG_len (n : Nat) (b : List UInt8) (p v i : Nat) : (putG n b p v i).length = b.length := by
  induction n generalizing b i with
  | zero => rfl
  | succ n ih => simp [putG, ih]
theorem putN_len (b : List UInt8) (p v : Nat) : (putN b p v).length = b.length := putG_len 8 b p v 0
def Mk.put (m : Mk) (p v : Nat) : Mk := { m with b := putN m.b p v }
theorem put_len (m : Mk) (p v : Nat) : (m.put p v).b.length = m.b.length := putN_len _ _ _
theorem putG_step {n i : Nat} {b : List UInt8} {p v : Nat} (h : i < n) : putG (n - i) b p v i = putG (n - (i + 1)) (b.set (p + i) (UInt8.ofNat (v / 2 ^ (8 * i)))) p v (i + 1) := by
  rw [show n - i = (n - (i + 1)) + 1 by omega]; rfl
theorem putG_end {n i : Nat} {b : List UInt8} {p v : Nat} (h : ¬ i < n) : putG (n - i) b p v i = b := by rw [show n - i = 0 by omega]; rfl
def Mk.setN (m : Mk) (k v : Nat) : Mk := { m with h := { m.h with n := m.h.n.set k v } }
def Mk.num (m : Mk) (k : Nat) : Nat := m.h.n.getD k 0
def Mk.object (m : Mk) (o : List UInt8) : Nat × Mk :=
  let m1 := { m with b := m.b ++ o }
  let m2 := m1.setN 6 m.b.length
  (m.b.length, m2.setN 7 ((m2.num 7 + 1) % 18446744073709551616))
def hangL (slot : Nat) : List Known → Nat → Nat → Nat × Nat
  | [], n, q => (n, q)
  | k :: r, n, q => if k.slot = slot then hangL slot r (n + 1) k.pos else hangL slot r n q
def Mk.hang (m : Mk) (l : List Known) (table p slot : Nat) : Nat × Mk :=
  match hangL slot l 0 0 with
  | (n, q) => (n, (if n = 0 then m.put (table + 16 * slot) p else m.put (q + 24) p).put (table + 16 * slot + 8) p)
def findK (name : List UInt8) : List Known → Option Nat
  | [] => none
  | k :: r => if k.text = name then some k.pos else findK name r
def findI (s : List UInt8) : List Known → Nat → Option Nat
  | [], _ => none
  | k :: r, i => if k.text = s then some i else findI s r (i + 1)
def Mk.field (m : Mk) (name : List UInt8) : Nat × Mk :=
  match findK name m.fields with
  | some p => (p, m)
  | none =>
    match m.object (putFieldF { hash := hashN m.c.keyed m.c.file name, nextHash := 0, dat := 0, payload := name }) with
    | (p, m1) => match m1.hang m1.fields (m1.num 4) p (hashN m.c.keyed m.c.file name % m1.c.fieldSlots) with
      | (n, m2) =>
        let m3 := { m2 with depth := max m1.depth n }
        let m4 := m3.setN 16 ((m3.num 16 + 1) % 18446744073709551616)
        (p, { m4 with fields := m4.fields ++ [({ text := name, pos := p, slot := hashN m.c.keyed m.c.file name % m1.c.fieldSlots, count := 0, arrays := [] } : Known)] })
def Mk.data (m : Mk) (x : Pr) : Nat × Mk :=
  match findI (payload x) m.datas 0 with
  | some i => (i, m)
  | none =>
    match m.object (putDataF { hash := hashN m.c.keyed m.c.file (payload x), nextHash := 0, nextField := 0, entry := 0, array := 0, count := 0, payload := payload x }) with
    | (p, m1) => match m1.hang m1.datas (m1.num 2) p (hashN m.c.keyed m.c.file (payload x) % m1.c.dataSlots) with
      | (n, m2) =>
        let m3 := m2.setN 19 (max (m2.num 19) n)
        let m4 := m3.setN 15 ((m3.num 15 + 1) % 18446744073709551616)
        let m5 := { m4 with datas := m4.datas ++ [({ text := payload x, pos := p, slot := hashN m.c.keyed m.c.file (payload x) % m1.c.dataSlots, count := 0, arrays := [] } : Known)] }
        match m5.field x.name with
        | (k, m6) =>
          let m7 := m6.put (p + 32) (getF m6.b (k + 32 : Nat) 8).1
          let m8 := m7.put (k + 32) p
          (m8.datas.length - 1, m8)
theorem setN_same (m : Mk) (k v : Nat) : (m.setN k v).b = m.b ∧ (m.setN k v).c = m.c ∧ (m.setN k v).datas = m.datas ∧ (m.setN k v).fields = m.fields ∧ (m.setN k v).main = m.main := ⟨rfl, rfl, rfl, rfl, rfl⟩
theorem getD_set_ne' {l : List Nat} {i j v : Nat} (h : i ≠ j) : (l.set i v).getD j 0 = l.getD j 0 := by simp [List.getD, List.getElem?_set_ne h]
theorem num_setN {m : Mk} {k v j : Nat} (h : k ≠ j) : (m.setN k v).num j = m.num j := getD_set_ne' h
theorem object_spec (m : Mk) (o : List UInt8) : (m.object o).1 = m.b.length ∧ (m.object o).2.b.length = m.b.length + o.length ∧ (m.object o).2.c.dataSlots = m.c.dataSlots ∧ (m.object o).2.c.fieldSlots = m.c.fieldSlots ∧ (m.object o).2.datas.length = m.datas.length ∧ (m.object o).2.fields.length = m.fields.length ∧
    (m.object o).2.h.n.getD 2 0 = m.h.n.getD 2 0 ∧ (m.object o).2.h.n.getD 4 0 = m.h.n.getD 4 0 :=
  ⟨rfl, by simp [Mk.object, Mk.setN], rfl, rfl, rfl, rfl, by simp only [Mk.object, Mk.setN]; rw [getD_set_ne' (by decide), getD_set_ne' (by decide)], by simp only [Mk.object, Mk.setN]; rw [getD_set_ne' (by decide), getD_set_ne' (by decide)]⟩
theorem object_same (m : Mk) (o : List UInt8) : (m.object o).2.c = m.c ∧ (m.object o).2.datas = m.datas ∧ (m.object o).2.fields = m.fields ∧ (m.object o).2.main = m.main := ⟨rfl, rfl, rfl, rfl⟩
theorem put_spec (m : Mk) (p v : Nat) : (m.put p v).b.length = m.b.length ∧ (m.put p v).c.dataSlots = m.c.dataSlots ∧ (m.put p v).c.fieldSlots = m.c.fieldSlots ∧ (m.put p v).datas.length = m.datas.length ∧ (m.put p v).fields.length = m.fields.length ∧
    (m.put p v).h.n.getD 2 0 = m.h.n.getD 2 0 ∧ (m.put p v).h.n.getD 4 0 = m.h.n.getD 4 0 := ⟨putN_len _ _ _, rfl, rfl, rfl, rfl, rfl, rfl⟩
theorem hang_eq (m : Mk) (l : List Known) (table p slot : Nat) : (m.hang l table p slot).2 = { m with b := (m.hang l table p slot).2.b } ∧ (m.hang l table p slot).2.b.length = m.b.length := by
  unfold Mk.hang
  generalize hangL slot l 0 0 = r
  obtain ⟨n, q⟩ := r
  simp only
  split
  · exact ⟨rfl, by rw [put_len, put_len]⟩
  · exact ⟨rfl, by rw [put_len, put_len]⟩
theorem hang_spec (m : Mk) (l : List Known) (table p slot : Nat) : (m.hang l table p slot).2.b.length = m.b.length ∧ (m.hang l table p slot).2.c.dataSlots = m.c.dataSlots ∧ (m.hang l table p slot).2.c.fieldSlots = m.c.fieldSlots ∧ (m.hang l table p slot).2.datas.length = m.datas.length ∧ (m.hang l table p slot).2.fields.length = m.fields.length ∧
    (m.hang l table p slot).2.h.n.getD 2 0 = m.h.n.getD 2 0 ∧ (m.hang l table p slot).2.h.n.getD 4 0 = m.h.n.getD 4 0 := by
  obtain ⟨h1, h2⟩ := hang_eq m l table p slot
  refine ⟨h2, ?_, ?_, ?_, ?_, ?_, ?_⟩ <;> rw [h1]
theorem hang_same (m : Mk) (l : List Known) (table p slot : Nat) : (m.hang l table p slot).2.c = m.c ∧ (m.hang l table p slot).2.datas = m.datas ∧ (m.hang l table p slot).2.fields = m.fields ∧ (m.hang l table p slot).2.main = m.main ∧ (m.hang l table p slot).2.depth = m.depth ∧ (m.hang l table p slot).2.h = m.h := by
  have h1 := (hang_eq m l table p slot).1
  refine ⟨?_, ?_, ?_, ?_, ?_, ?_⟩ <;> rw [h1]
theorem hang_step {slot i n q : Nat} {l : List Known} {x : Known} (h : l[i]? = some x) : hangL slot (l.drop i) n q = if x.slot = slot then hangL slot (l.drop (i + 1)) (n + 1) x.pos else hangL slot (l.drop (i + 1)) n q := by rw [drop_get h]; rfl
theorem hang_end {slot i n q : Nat} {l : List Known} (h : ¬ i < l.length) : hangL slot (l.drop i) n q = (n, q) := by rw [drop_end (by omega)]; rfl
theorem findK_step {s : List UInt8} {i : Nat} {l : List Known} {x : Known} (h : l[i]? = some x) : findK s (l.drop i) = if x.text = s then some x.pos else findK s (l.drop (i + 1)) := by rw [drop_get h]; rfl
theorem findK_end {s : List UInt8} {i : Nat} {l : List Known} (h : ¬ i < l.length) : findK s (l.drop i) = none := by rw [drop_end (by omega)]; rfl
theorem findI_step {s : List UInt8} {i j : Nat} {l : List Known} {x : Known} (h : l[i]? = some x) : findI s (l.drop i) j = if x.text = s then some j else findI s (l.drop (i + 1)) (j + 1) := by rw [drop_get h]; rfl
theorem findI_end {s : List UInt8} {i j : Nat} {l : List Known} (h : ¬ i < l.length) : findI s (l.drop i) j = none := by rw [drop_end (by omega)]; rfl
/-- The places that stand in the maker's rows lie within its bytes. -/
def Mk.fit (m : Mk) : Prop := 1 ≤ m.c.dataSlots ∧ m.c.dataSlots ≤ 64 ∧ 1 ≤ m.c.fieldSlots ∧ m.c.fieldSlots ≤ 64 ∧ m.h.n.getD 2 0 + 16 * m.c.dataSlots ≤ m.b.length ∧ m.h.n.getD 4 0 + 16 * m.c.fieldSlots ≤ m.b.length ∧
  (∀ k ∈ m.datas, k.pos + 64 ≤ m.b.length) ∧ (∀ k ∈ m.fields, k.pos + 40 ≤ m.b.length)
theorem fit_mono {m m' : Mk} (h : m.fit) (h1 : m'.c.dataSlots = m.c.dataSlots ∧ m'.c.fieldSlots = m.c.fieldSlots ∧ m'.h.n.getD 2 0 = m.h.n.getD 2 0 ∧ m'.h.n.getD 4 0 = m.h.n.getD 4 0 ∧ m.b.length ≤ m'.b.length)
    (hd : ∀ k ∈ m'.datas, k ∈ m.datas ∨ k.pos + 64 ≤ m'.b.length) (hf : ∀ k ∈ m'.fields, k ∈ m.fields ∨ k.pos + 40 ≤ m'.b.length) : m'.fit := by
  obtain ⟨f1, f2, f3, f4, f5, f6, f7, f8⟩ := h
  obtain ⟨g1, g2, g3, g4, g5⟩ := h1
  refine ⟨by omega, by omega, by omega, by omega, by rw [g1, g3]; omega, by rw [g2, g4]; omega, fun k hk => ?_, fun k hk => ?_⟩
  · rcases hd k hk with h | h
    · have := f7 k h; omega
    · exact h
  · rcases hf k hk with h | h
    · have := f8 k h; omega
    · exact h
theorem findK_mem {s : List UInt8} {l : List Known} {p : Nat} (h : findK s l = some p) : ∃ k ∈ l, k.pos = p ∧ k.text = s := by
  induction l with
  | nil => simp [findK] at h
  | cons x l ih =>
    simp only [findK] at h
    split at h
    · rename_i hx; exact ⟨x, by simp, by simpa using h, hx⟩
    · obtain ⟨k, hk, h2⟩ := ih h; exact ⟨k, by simp [hk], h2⟩
theorem findI_lt {s : List UInt8} {l : List Known} {j i : Nat} (h : findI s l j = some i) : j ≤ i ∧ i < j + l.length := by
  induction l generalizing j with
  | nil => simp [findI] at h
  | cons x l ih =>
    simp only [findI] at h
    split at h
    · simp at h; simp; omega
    · have := ih h; simp; omega
theorem field_all (m : Mk) (name : List UInt8) (h : m.fit) : ((m.field name).1 + 40 ≤ (m.field name).2.b.length ∧ m.b.length ≤ (m.field name).2.b.length ∧ (m.field name).2.b.length ≤ m.b.length + (48 + name.length) ∧ (m.field name).2.datas.length = m.datas.length ∧ (m.field name).2.fields.length ≤ m.fields.length + 1 ∧
    (m.field name).2.c.dataSlots = m.c.dataSlots ∧ (m.field name).2.c.fieldSlots = m.c.fieldSlots ∧ (m.field name).2.h.n.getD 2 0 = m.h.n.getD 2 0 ∧ (m.field name).2.h.n.getD 4 0 = m.h.n.getD 4 0 ∧ (m.field name).2.h.n.getD 8 0 = m.h.n.getD 8 0) ∧
    ((m.field name).2.c = m.c ∧ (m.field name).2.datas = m.datas ∧ (m.field name).2.main = m.main) ∧ (m.field name).2.fit := by
  unfold Mk.field
  cases hk : findK name m.fields with
  | some p =>
    obtain ⟨k, hk1, hk2, _⟩ := findK_mem hk
    have := h.2.2.2.2.2.2.2 k hk1
    exact ⟨⟨by simp only; omega, Nat.le_refl _, by simp only; omega, rfl, by simp only; omega, rfl, rfl, rfl, rfl, rfl⟩, ⟨rfl, rfl, rfl⟩, h⟩
  | none =>
    simp only
    have h1 := object_spec m (putFieldF { hash := hashN m.c.keyed m.c.file name, nextHash := 0, dat := 0, payload := name })
    have h2 := object_same m (putFieldF { hash := hashN m.c.keyed m.c.file name, nextHash := 0, dat := 0, payload := name })
    have h3 : (m.object (putFieldF { hash := hashN m.c.keyed m.c.file name, nextHash := 0, dat := 0, payload := name })).2.h.n.getD 8 0 = m.h.n.getD 8 0 := by
      simp only [Mk.object, Mk.setN]; rw [getD_set_ne' (by decide), getD_set_ne' (by decide)]
    rw [putFieldF_len] at h1
    simp only at h1
    generalize m.object (putFieldF { hash := hashN m.c.keyed m.c.file name, nextHash := 0, dat := 0, payload := name }) = r at *
    obtain ⟨p, m1⟩ := r
    simp only at h1 h2 h3 ⊢
    have h4 := hang_spec m1 m1.fields (m1.num 4) p (hashN m.c.keyed m.c.file name % m1.c.fieldSlots)
    have h5 := hang_same m1 m1.fields (m1.num 4) p (hashN m.c.keyed m.c.file name % m1.c.fieldSlots)
    generalize m1.hang m1.fields (m1.num 4) p (hashN m.c.keyed m.c.file name % m1.c.fieldSlots) = r at *
    obtain ⟨n, m2⟩ := r
    simp only at h4 h5 ⊢
    obtain ⟨a1, a2, a3, a4, a5, a6, a7, a8⟩ := h1
    obtain ⟨b1, b2, b3, b4⟩ := h2
    obtain ⟨c1, c2, c3, c4, c5, c6, c7⟩ := h4
    obtain ⟨d1, d2, d3, d4, d5, d6⟩ := h5
    simp only [Mk.setN, List.length_append, List.length_singleton]
    have e1 : (m2.h.n.set 16 ((m2.num 16 + 1) % 18446744073709551616)).getD 2 0 = m.h.n.getD 2 0 := by rw [getD_set_ne' (by decide)]; omega
    have e2 : (m2.h.n.set 16 ((m2.num 16 + 1) % 18446744073709551616)).getD 4 0 = m.h.n.getD 4 0 := by rw [getD_set_ne' (by decide)]; omega
    have e3 : (m2.h.n.set 16 ((m2.num 16 + 1) % 18446744073709551616)).getD 8 0 = m.h.n.getD 8 0 := by rw [getD_set_ne' (by decide), d6, h3]
    refine ⟨⟨by omega, by omega, by omega, by omega, by omega, by omega, by omega, e1, e2, e3⟩, ⟨by rw [d1, b1], by rw [d2, b2], by rw [d4, b4]⟩, ?_⟩
    refine fit_mono h ⟨by simp only; omega, by simp only; omega, e1, e2, by simp only; omega⟩ (fun k hk => ?_) (fun k hk => ?_)
    · simp only [d2, b2] at hk; exact .inl hk
    · simp only [d3, b3, List.mem_append, List.mem_singleton] at hk
      rcases hk with hk | rfl
      · exact .inl hk
      · right; simp only; omega
theorem field_spec (m : Mk) (name : List UInt8) (h : m.fit) : (m.field name).1 + 40 ≤ (m.field name).2.b.length ∧ m.b.length ≤ (m.field name).2.b.length ∧ (m.field name).2.b.length ≤ m.b.length + (48 + name.length) ∧ (m.field name).2.datas.length = m.datas.length ∧ (m.field name).2.fields.length ≤ m.fields.length + 1 ∧
    (m.field name).2.c.dataSlots = m.c.dataSlots ∧ (m.field name).2.c.fieldSlots = m.c.fieldSlots ∧ (m.field name).2.h.n.getD 2 0 = m.h.n.getD 2 0 ∧ (m.field name).2.h.n.getD 4 0 = m.h.n.getD 4 0 ∧ (m.field name).2.h.n.getD 8 0 = m.h.n.getD 8 0 := (field_all m name h).1
theorem field_same (m : Mk) (name : List UInt8) (h : m.fit) : (m.field name).2.c = m.c ∧ (m.field name).2.datas = m.datas ∧ (m.field name).2.main = m.main := (field_all m name h).2.1
theorem field_fit (m : Mk) (name : List UInt8) (h : m.fit) : (m.field name).2.fit := (field_all m name h).2.2
end Go.Wk
