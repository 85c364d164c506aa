/- Part 2 of what the walk of a law stands on: MakerP, MakerQ, FldR, SeqP, Loops2, MakerR, MakerS, Anys, FieldQ, FldS, CompR, HeadR, HeadQ, ImgP, MakeP, GuardP, VLe, WHash, VHash. No statement is proved here. -/
import Derived.Test.YtklggjhnjlhhcaaKA1
import Derived.Test.YtklggjhnjlhhcaaRows
namespace Go.Wk
open Go Go.RowKit
def roomF (k : Int) : Nat := if k < 0 then 0 else if 6 < k then 256 else min (4 * 2 ^ k.toNat) 256
def putG : Nat → List UInt8 → Nat → Nat → Nat → List UInt8
  | 0, b, _, _, _ => b
  | n + 1, b, p, v, i => putG n (b.set (p + i) (UInt8.ofNat (v / 2 ^ (8 * i)))) p v (i + 1)
/-- A number of eight bytes at a place. -/
def putN (b : List UInt8) (p v : Nat) : List UInt8 := putG 8 b p v 0
theorem putG_len (n : Nat) (b : List UInt8) (p v i : Nat) : (putG n b p v i).length = b.length := by
  induction n generalizing b i with
  | zero => rfl
  | succ n ih => simp [putG, ih]
theorem putN_len (b : List UInt8) (p v : Nat) : (putN b p v).length = b.length := putG_len 8 b p v 0
def Mk.put (m : Mk) (p v : Nat) : Mk := { m with b := putN m.b p v }
theorem put_len (m : Mk) (p v : Nat) : (m.put p v).b.length = m.b.length := putN_len _ _ _
theorem putG_step {n i : Nat} {b : List UInt8} {p v : Nat} (h : i < n) : putG (n - i) b p v i = putG (n - (i + 1)) (b.set (p + i) (UInt8.ofNat (v / 2 ^ (8 * i)))) p v (i + 1) := by
  rw [show n - i = (n - (i + 1)) + 1 by omega]; rfl
theorem putG_end {n i : Nat} {b : List UInt8} {p v : Nat} (h : ¬ i < n) : putG (n - i) b p v i = b := by rw [show n - i = 0 by omega]; rfl
def Mk.setN (m : Mk) (k v : Nat) : Mk := { m with h := { m.h with n := m.h.n.set k v } }
def Mk.num (m : Mk) (k : Nat) : Nat := m.h.n.getD k 0
def Mk.object (m : Mk) (o : List UInt8) : Nat × Mk :=
  let m1 := { m with b := m.b ++ o }
  let m2 := m1.setN 6 m.b.length
  (m.b.length, m2.setN 7 ((m2.num 7 + 1) % 18446744073709551616))
def hangL (slot : Nat) : List Known → Nat → Nat → Nat × Nat
  | [], n, q => (n, q)
  | k :: r, n, q => if k.slot = slot then hangL slot r (n + 1) k.pos else hangL slot r n q
def Mk.hang (m : Mk) (l : List Known) (table p slot : Nat) : Nat × Mk :=
  match hangL slot l 0 0 with
  | (n, q) => (n, (if n = 0 then m.put (table + 16 * slot) p else m.put (q + 24) p).put (table + 16 * slot + 8) p)
def findK (name : List UInt8) : List Known → Option Nat
  | [] => none
  | k :: r => if k.text = name then some k.pos else findK name r
def findI (s : List UInt8) : List Known → Nat → Option Nat
  | [], _ => none
  | k :: r, i => if k.text = s then some i else findI s r (i + 1)
def Mk.field (m : Mk) (name : List UInt8) : Nat × Mk :=
  match findK name m.fields with
  | some p => (p, m)
  | none =>
    match m.object (putFieldF { hash := hashN m.c.keyed m.c.file name, nextHash := 0, dat := 0, payload := name }) with
    | (p, m1) => match m1.hang m1.fields (m1.num 4) p (hashN m.c.keyed m.c.file name % m1.c.fieldSlots) with
      | (n, m2) =>
        let m3 := { m2 with depth := max m1.depth n }
        let m4 := m3.setN 16 ((m3.num 16 + 1) % 18446744073709551616)
        (p, { m4 with fields := m4.fields ++ [({ text := name, pos := p, slot := hashN m.c.keyed m.c.file name % m1.c.fieldSlots, count := 0, arrays := [] } : Known)] })
def Mk.data (m : Mk) (x : Pr) : Nat × Mk :=
  match findI (payload x) m.datas 0 with
  | some i => (i, m)
  | none =>
    match m.object (putDataF { hash := hashN m.c.keyed m.c.file (payload x), nextHash := 0, nextField := 0, entry := 0, array := 0, count := 0, payload := payload x }) with
    | (p, m1) => match m1.hang m1.datas (m1.num 2) p (hashN m.c.keyed m.c.file (payload x) % m1.c.dataSlots) with
      | (n, m2) =>
        let m3 := m2.setN 19 (max (m2.num 19) n)
        let m4 := m3.setN 15 ((m3.num 15 + 1) % 18446744073709551616)
        let m5 := { m4 with datas := m4.datas ++ [({ text := payload x, pos := p, slot := hashN m.c.keyed m.c.file (payload x) % m1.c.dataSlots, count := 0, arrays := [] } : Known)] }
        match m5.field x.name with
        | (k, m6) =>
          let m7 := m6.put (p + 32) (getF m6.b (k + 32 : Nat) 8).1
          let m8 := m7.put (k + 32) p
          (m8.datas.length - 1, m8)
theorem setN_same (m : Mk) (k v : Nat) : (m.setN k v).b = m.b ∧ (m.setN k v).c = m.c ∧ (m.setN k v).datas = m.datas ∧ (m.setN k v).fields = m.fields ∧ (m.setN k v).main = m.main := ⟨rfl, rfl, rfl, rfl, rfl⟩
theorem getD_set_ne' {l : List Nat} {i j v : Nat} (h : i ≠ j) : (l.set i v).getD j 0 = l.getD j 0 := by simp [List.getD, List.getElem?_set_ne h]
theorem num_setN {m : Mk} {k v j : Nat} (h : k ≠ j) : (m.setN k v).num j = m.num j := getD_set_ne' h
theorem object_spec (m : Mk) (o : List UInt8) : (m.object o).1 = m.b.length ∧ (m.object o).2.b.length = m.b.length + o.length ∧ (m.object o).2.c.dataSlots = m.c.dataSlots ∧ (m.object o).2.c.fieldSlots = m.c.fieldSlots ∧ (m.object o).2.datas.length = m.datas.length ∧ (m.object o).2.fields.length = m.fields.length ∧
    (m.object o).2.h.n.getD 2 0 = m.h.n.getD 2 0 ∧ (m.object o).2.h.n.getD 4 0 = m.h.n.getD 4 0 :=
  ⟨rfl, by simp [Mk.object, Mk.setN], rfl, rfl, rfl, rfl, by simp only [Mk.object, Mk.setN]; rw [getD_set_ne' (by decide), getD_set_ne' (by decide)], by simp only [Mk.object, Mk.setN]; rw [getD_set_ne' (by decide), getD_set_ne' (by decide)]⟩
theorem object_same (m : Mk) (o : List UInt8) : (m.object o).2.c = m.c ∧ (m.object o).2.datas = m.datas ∧ (m.object o).2.fields = m.fields ∧ (m.object o).2.main = m.main := ⟨rfl, rfl, rfl, rfl⟩
theorem put_spec (m : Mk) (p v : Nat) : (m.put p v).b.length = m.b.length ∧ (m.put p v).c.dataSlots = m.c.dataSlots ∧ (m.put p v).c.fieldSlots = m.c.fieldSlots ∧ (m.put p v).datas.length = m.datas.length ∧ (m.put p v).fields.length = m.fields.length ∧
    (m.put p v).h.n.getD 2 0 = m.h.n.getD 2 0 ∧ (m.put p v).h.n.getD 4 0 = m.h.n.getD 4 0 := ⟨putN_len _ _ _, rfl, rfl, rfl, rfl, rfl, rfl⟩
theorem hang_eq (m : Mk) (l : List Known) (table p slot : Nat) : (m.hang l table p slot).2 = { m with b := (m.hang l table p slot).2.b } ∧ (m.hang l table p slot).2.b.length = m.b.length := by
  unfold Mk.hang
  generalize hangL slot l 0 0 = r
  obtain ⟨n, q⟩ := r
  simp only
  split
  · exact ⟨rfl, by rw [put_len, put_len]⟩
  · exact ⟨rfl, by rw [put_len, put_len]⟩
theorem hang_spec (m : Mk) (l : List Known) (table p slot : Nat) : (m.hang l table p slot).2.b.length = m.b.length ∧ (m.hang l table p slot).2.c.dataSlots = m.c.dataSlots ∧ (m.hang l table p slot).2.c.fieldSlots = m.c.fieldSlots ∧ (m.hang l table p slot).2.datas.length = m.datas.length ∧ (m.hang l table p slot).2.fields.length = m.fields.length ∧
    (m.hang l table p slot).2.h.n.getD 2 0 = m.h.n.getD 2 0 ∧ (m.hang l table p slot).2.h.n.getD 4 0 = m.h.n.getD 4 0 := by
  obtain ⟨h1, h2⟩ := hang_eq m l table p slot
  refine ⟨h2, ?_, ?_, ?_, ?_, ?_, ?_⟩ <;> rw [h1]
theorem hang_same (m : Mk) (l : List Known) (table p slot : Nat) : (m.hang l table p slot).2.c = m.c ∧ (m.hang l table p slot).2.datas = m.datas ∧ (m.hang l table p slot).2.fields = m.fields ∧ (m.hang l table p slot).2.main = m.main ∧ (m.hang l table p slot).2.depth = m.depth ∧ (m.hang l table p slot).2.h = m.h := by
  have h1 := (hang_eq m l table p slot).1
  refine ⟨?_, ?_, ?_, ?_, ?_, ?_⟩ <;> rw [h1]
theorem hang_step {slot i n q : Nat} {l : List Known} {x : Known} (h : l[i]? = some x) : hangL slot (l.drop i) n q = if x.slot = slot then hangL slot (l.drop (i + 1)) (n + 1) x.pos else hangL slot (l.drop (i + 1)) n q := by rw [drop_get h]; rfl
theorem hang_end {slot i n q : Nat} {l : List Known} (h : ¬ i < l.length) : hangL slot (l.drop i) n q = (n, q) := by rw [drop_end (by omega)]; rfl
theorem findK_step {s : List UInt8} {i : Nat} {l : List Known} {x : Known} (h : l[i]? = some x) : findK s (l.drop i) = if x.text = s then some x.pos else findK s (l.drop (i + 1)) := by rw [drop_get h]; rfl
theorem findK_end {s : List UInt8} {i : Nat} {l : List Known} (h : ¬ i < l.length) : findK s (l.drop i) = none := by rw [drop_end (by omega)]; rfl
theorem findI_step {s : List UInt8} {i j : Nat} {l : List Known} {x : Known} (h : l[i]? = some x) : findI s (l.drop i) j = if x.text = s then some j else findI s (l.drop (i + 1)) (j + 1) := by rw [drop_get h]; rfl
theorem findI_end {s : List UInt8} {i j : Nat} {l : List Known} (h : ¬ i < l.length) : findI s (l.drop i) j = none := by rw [drop_end (by omega)]; rfl
/-- The places that stand in the maker's rows lie within its bytes. -/
def Mk.fit (m : Mk) : Prop := 1 ≤ m.c.dataSlots ∧ m.c.dataSlots ≤ 64 ∧ 1 ≤ m.c.fieldSlots ∧ m.c.fieldSlots ≤ 64 ∧ m.h.n.getD 2 0 + 16 * m.c.dataSlots ≤ m.b.length ∧ m.h.n.getD 4 0 + 16 * m.c.fieldSlots ≤ m.b.length ∧
  (∀ k ∈ m.datas, k.pos + 64 ≤ m.b.length) ∧ (∀ k ∈ m.fields, k.pos + 40 ≤ m.b.length)
theorem fit_mono {m m' : Mk} (h : m.fit) (h1 : m'.c.dataSlots = m.c.dataSlots ∧ m'.c.fieldSlots = m.c.fieldSlots ∧ m'.h.n.getD 2 0 = m.h.n.getD 2 0 ∧ m'.h.n.getD 4 0 = m.h.n.getD 4 0 ∧ m.b.length ≤ m'.b.length)
    (hd : ∀ k ∈ m'.datas, k ∈ m.datas ∨ k.pos + 64 ≤ m'.b.length) (hf : ∀ k ∈ m'.fields, k ∈ m.fields ∨ k.pos + 40 ≤ m'.b.length) : m'.fit := by
  obtain ⟨f1, f2, f3, f4, f5, f6, f7, f8⟩ := h
  obtain ⟨g1, g2, g3, g4, g5⟩ := h1
  refine ⟨by omega, by omega, by omega, by omega, by rw [g1, g3]; omega, by rw [g2, g4]; omega, fun k hk => ?_, fun k hk => ?_⟩
  · rcases hd k hk with h | h
    · have := f7 k h; omega
    · exact h
  · rcases hf k hk with h | h
    · have := f8 k h; omega
    · exact h
theorem findK_mem {s : List UInt8} {l : List Known} {p : Nat} (h : findK s l = some p) : ∃ k ∈ l, k.pos = p ∧ k.text = s := by
  induction l with
  | nil => simp [findK] at h
  | cons x l ih =>
    simp only [findK] at h
    split at h
    · rename_i hx; exact ⟨x, by simp, by simpa using h, hx⟩
    · obtain ⟨k, hk, h2⟩ := ih h; exact ⟨k, by simp [hk], h2⟩
theorem findI_lt {s : List UInt8} {l : List Known} {j i : Nat} (h : findI s l j = some i) : j ≤ i ∧ i < j + l.length := by
  induction l generalizing j with
  | nil => simp [findI] at h
  | cons x l ih =>
    simp only [findI] at h
    split at h
    · simp at h; simp; omega
    · have := ih h; simp; omega
theorem field_all (m : Mk) (name : List UInt8) (h : m.fit) : ((m.field name).1 + 40 ≤ (m.field name).2.b.length ∧ m.b.length ≤ (m.field name).2.b.length ∧ (m.field name).2.b.length ≤ m.b.length + (48 + name.length) ∧ (m.field name).2.datas.length = m.datas.length ∧ (m.field name).2.fields.length ≤ m.fields.length + 1 ∧
    (m.field name).2.c.dataSlots = m.c.dataSlots ∧ (m.field name).2.c.fieldSlots = m.c.fieldSlots ∧ (m.field name).2.h.n.getD 2 0 = m.h.n.getD 2 0 ∧ (m.field name).2.h.n.getD 4 0 = m.h.n.getD 4 0 ∧ (m.field name).2.h.n.getD 8 0 = m.h.n.getD 8 0) ∧
    ((m.field name).2.c = m.c ∧ (m.field name).2.datas = m.datas ∧ (m.field name).2.main = m.main) ∧ (m.field name).2.fit := by
  unfold Mk.field
  cases hk : findK name m.fields with
  | some p =>
    obtain ⟨k, hk1, hk2, _⟩ := findK_mem hk
    have := h.2.2.2.2.2.2.2 k hk1
    exact ⟨⟨by simp only; omega, Nat.le_refl _, by simp only; omega, rfl, by simp only; omega, rfl, rfl, rfl, rfl, rfl⟩, ⟨rfl, rfl, rfl⟩, h⟩
  | none =>
    simp only
    have h1 := object_spec m (putFieldF { hash := hashN m.c.keyed m.c.file name, nextHash := 0, dat := 0, payload := name })
    have h2 := object_same m (putFieldF { hash := hashN m.c.keyed m.c.file name, nextHash := 0, dat := 0, payload := name })
    have h3 : (m.object (putFieldF { hash := hashN m.c.keyed m.c.file name, nextHash := 0, dat := 0, payload := name })).2.h.n.getD 8 0 = m.h.n.getD 8 0 := by
      simp only [Mk.object, Mk.setN]; rw [getD_set_ne' (by decide), getD_set_ne' (by decide)]
    rw [putFieldF_len] at h1
    simp only at h1
    generalize m.object (putFieldF { hash := hashN m.c.keyed m.c.file name, nextHash := 0, dat := 0, payload := name }) = r at *
    obtain ⟨p, m1⟩ := r
    simp only at h1 h2 h3 ⊢
    have h4 := hang_spec m1 m1.fields (m1.num 4) p (hashN m.c.keyed m.c.file name % m1.c.fieldSlots)
    have h5 := hang_same m1 m1.fields (m1.num 4) p (hashN m.c.keyed m.c.file name % m1.c.fieldSlots)
    generalize m1.hang m1.fields (m1.num 4) p (hashN m.c.keyed m.c.file name % m1.c.fieldSlots) = r at *
    obtain ⟨n, m2⟩ := r
    simp only at h4 h5 ⊢
    obtain ⟨a1, a2, a3, a4, a5, a6, a7, a8⟩ := h1
    obtain ⟨b1, b2, b3, b4⟩ := h2
    obtain ⟨c1, c2, c3, c4, c5, c6, c7⟩ := h4
    obtain ⟨d1, d2, d3, d4, d5, d6⟩ := h5
    simp only [Mk.setN, List.length_append, List.length_singleton]
    have e1 : (m2.h.n.set 16 ((m2.num 16 + 1) % 18446744073709551616)).getD 2 0 = m.h.n.getD 2 0 := by rw [getD_set_ne' (by decide)]; omega
    have e2 : (m2.h.n.set 16 ((m2.num 16 + 1) % 18446744073709551616)).getD 4 0 = m.h.n.getD 4 0 := by rw [getD_set_ne' (by decide)]; omega
    have e3 : (m2.h.n.set 16 ((m2.num 16 + 1) % 18446744073709551616)).getD 8 0 = m.h.n.getD 8 0 := by rw [getD_set_ne' (by decide), d6, h3]
    refine ⟨⟨by omega, by omega, by omega, by omega, by omega, by omega, by omega, e1, e2, e3⟩, ⟨by rw [d1, b1], by rw [d2, b2], by rw [d4, b4]⟩, ?_⟩
    refine fit_mono h ⟨by simp only; omega, by simp only; omega, e1, e2, by simp only; omega⟩ (fun k hk => ?_) (fun k hk => ?_)
    · simp only [d2, b2] at hk; exact .inl hk
    · simp only [d3, b3, List.mem_append, List.mem_singleton] at hk
      rcases hk with hk | rfl
      · exact .inl hk
      · right; simp only; omega
theorem field_spec (m : Mk) (name : List UInt8) (h : m.fit) : (m.field name).1 + 40 ≤ (m.field name).2.b.length ∧ m.b.length ≤ (m.field name).2.b.length ∧ (m.field name).2.b.length ≤ m.b.length + (48 + name.length) ∧ (m.field name).2.datas.length = m.datas.length ∧ (m.field name).2.fields.length ≤ m.fields.length + 1 ∧
    (m.field name).2.c.dataSlots = m.c.dataSlots ∧ (m.field name).2.c.fieldSlots = m.c.fieldSlots ∧ (m.field name).2.h.n.getD 2 0 = m.h.n.getD 2 0 ∧ (m.field name).2.h.n.getD 4 0 = m.h.n.getD 4 0 ∧ (m.field name).2.h.n.getD 8 0 = m.h.n.getD 8 0 := (field_all m name h).1
theorem field_same (m : Mk) (name : List UInt8) (h : m.fit) : (m.field name).2.c = m.c ∧ (m.field name).2.datas = m.datas ∧ (m.field name).2.main = m.main := (field_all m name h).2.1
theorem field_fit (m : Mk) (name : List UInt8) (h : m.fit) : (m.field name).2.fit := (field_all m name h).2.2
end Go.Wk
namespace Go.Wk
open Go Go.RowKit
theorem roomF_le (k : Int) : roomF k ≤ 256 := by unfold roomF; split; omega; split <;> omega
def roomsL : List Nat → Nat → Nat → Nat → Nat × Nat
  | [], _, a, r => (a, r)
  | _ :: l, k, _, r => roomsL l (k + 1) r (r + roomF (k : Int))
def lastN (l : List Nat) : Nat := l.getD (l.length - 1) 0
def Mk.link (m : Mk) (arrays : List Nat) (n src item : Nat) : List Nat × Nat × Mk :=
  match roomsL arrays 0 0 0 with
  | (ahead, room) =>
    if n = room then
      match m.object (putArrayF { next := 0, items := List.replicate (roomF (arrays.length : Int)) 0 }) with
      | (p, m1) =>
        let m2 := m1.setN 18 ((m1.num 18 + 1) % 18446744073709551616)
        (arrays ++ [p], n - room + 1, (if arrays.length = 0 then m2.put src p else m2.put (lastN arrays + 16) p).put (lastN (arrays ++ [p]) + 24 + 8 * (n - room)) item)
    else (arrays, n - ahead + 1, m.put (lastN arrays + 24 + 8 * (n - ahead)) item)
theorem rooms_step {l : List Nat} {i k a r : Nat} (h : i < l.length) : roomsL (l.drop i) k a r = roomsL (l.drop (i + 1)) (k + 1) r (r + roomF (k : Int)) := by
  obtain ⟨x, hx⟩ := getE h
  rw [drop_get hx]; rfl
theorem rooms_end {l : List Nat} {i k a r : Nat} (h : ¬ i < l.length) : roomsL (l.drop i) k a r = (a, r) := by rw [drop_end (by omega)]; rfl
theorem roomF_ge {k : Int} (h : 0 ≤ k) : 4 ≤ roomF k := by
  unfold roomF
  rw [if_neg (by omega)]
  split
  · omega
  · have : 1 ≤ 2 ^ k.toNat := Nat.one_le_two_pow
    omega
theorem roomF_ge4 (k : Int) : k < 0 ∨ 4 ≤ roomF k := by by_cases h : 0 ≤ k; exact .inr (roomF_ge h); exact .inl (by omega)
theorem lastN_eq {l : List Nat} {x : Nat} (h : l[l.length - 1]? = some x) : lastN l = x := by simp [lastN, List.getD, h]
theorem lastN_app {α} {l : List α} {p x : α} (h : (l ++ [p])[(l ++ [p]).length - 1]? = some x) : x = p := by simpa using h.symm
theorem rooms_last (l : List Nat) (k a r : Nat) (h : l ≠ []) : (roomsL l k a r).2 = (roomsL l k a r).1 + roomF ((k + l.length - 1 : Nat) : Int) := by
  induction l generalizing k a r with
  | nil => exact absurd rfl h
  | cons x l ih =>
    by_cases hl : l = []
    · subst hl; simp [roomsL]
    · simp only [roomsL, List.length_cons]
      rw [ih (k + 1) r (r + roomF (k : Int)) hl, show k + 1 + l.length - 1 = k + (l.length + 1) - 1 by omega]
theorem rooms_nil' {l : List Nat} {n : Nat} (h2 : (roomsL l 0 0 0).1 ≤ n) (h3 : n ≤ (roomsL l 0 0 0).2) (h : n ≠ (roomsL l 0 0 0).2) : 1 ≤ l.length ∧ n < (roomsL l 0 0 0).1 + roomF ((l.length - 1 : Nat) : Int) := by
  cases l with
  | nil => simp [roomsL] at h3 h; omega
  | cons x l =>
    have := rooms_last (x :: l) 0 0 0 (by simp)
    simp only [Nat.zero_add] at this
    refine ⟨by simp, ?_⟩
    omega
/-- A chain of arrays that n items stand in: the places lie within, the last one has room, or all are full. -/
def chainFit (len : Nat) (arrays : List Nat) (n : Nat) : Prop :=
  (∀ (k a : Nat), arrays[k]? = some a → a + 24 + 8 * roomF (k : Int) ≤ len) ∧ (roomsL arrays 0 0 0).1 ≤ n ∧ n ≤ (roomsL arrays 0 0 0).2
/-- The whole of a new maker. -/
def newMk (c : Cfg) (tail : Nat) : Mk :=
  let b1 := List.replicate 272 0 ++ putTableF 4 (List.replicate c.dataSlots { first := 0, tail := 0 })
  let b2 := b1 ++ putTableF 5 (List.replicate c.fieldSlots { first := 0, tail := 0 })
  { c := c, depth := 0, b := b2, datas := [], fields := [], main := [],
    h := { compat := 2, incompat := if c.keyed then 4 else 0, state := 1, file := c.file, machine := c.machine, boot := List.replicate 16 0, seq := c.seq, tailArray := 0, tailItems := 0, tailEntry := 0,
           n := (((((((((List.replicate 20 0).set 0 272).set 2 288).set 3 (16 * c.dataSlots)).set 4 (b1.length + 16)).set 5 (16 * c.fieldSlots)).set 6 b1.length).set 7 2).set 9 tail) } }
theorem take_all {α} {l : List α} {i : Nat} (h : ¬ i < l.length) : l.take i = l := List.take_of_length_le (by omega)
theorem apart_nb {v : Value} {b : Nat} (h : ∀ x, vblock v = some x → x ≠ b) : b ∉ (vblock v).toList := by
  cases hv : vblock v with
  | none => simp
  | some c => simp; exact fun e => h c hv e.symm
theorem apart_nb2 {v : Value} {b : Nat} (h : ∀ x, vblock v = some x → x ≠ b) : ∀ x, vblock v = some x → x ∉ [b] := fun x hx hh => h x hx (by simpa using hh)
/-- The file's bytes. -/
def imageM (m : Mk) (st : Nat) : List UInt8 := headF { m.h with state := st, n := m.h.n.set 1 (m.b.length - 272) } m.depth ++ m.b.drop 272
theorem headF_len (h : RHead) (depth : Nat) (ok : RHead.ok h) : (headF h depth).length = 272 := by
  obtain ⟨_, _, _, h1, h2, h3, h4, h5, _⟩ := ok
  simp [headF, low_len, nums_len, h1, h2, h3, h4, h5.1]
end Go.Wk
namespace Go.Wk
open Go Go.RowKit
def Pr.pb (p : Pr) : PairB := (p.name, p.value)
section
variable {P : Program} {n : Nat} {A : Fr n} {D : List Deferred} {l : List (Nat × Value)} {w : World} {d : Option Tmp} {ty : TypeId} {ps : String} {af : Array Edge} {g : Option (Nat × Bool)}
theorem r_eqlPr {x y : Operand} {t f u : TypeId} {p q : Pr} (hp : pairT P t f = true) (hf : P.underlying f = some .string) (hx : ev n l x = some (.agg (Pr.cells p).toArray)) (hy : ev n l y = some (.agg (Pr.cells q).toArray)) :
    RunV P ⟨d, .binOp .eql t x y u, ty, ps, af, g⟩ (over A D l).eval w (.bool (decide (p.pb = q.pb))) := r_eqlP (p := p.pb) (q := q.pb) hp hf hx hy
end
def joinF (p : Pr) : List UInt8 × Nat := if isName p.name = false then ([], 1) else if 256 < p.value.length then ([], 21) else (payload p, 0)
theorem joinF_bd {p : Pr} (h : (joinF p).2 = 0) : p.name.length ≤ 1000000 ∧ p.value.length ≤ 1000000 := by
  unfold joinF at h
  split at h
  · cases h
  · rename_i h1
    split at h
    · cases h
    · have := (name_len (s := p.name) (by simpa using h1)).2; omega
theorem joinF_right {p : Pr} : (joinF p).2 = 0 ↔ right p.pb = true := by
  unfold joinF right Pr.pb
  by_cases h1 : isName p.name = false
  · simp [h1]
  · rw [if_neg h1]
    have h2 : isName p.name = true := by simpa using h1
    rw [h2]
    by_cases h3 : 256 < p.value.length
    · simp [h3]
    · simp [h3]; omega
def rankF (t : List UInt8) : List Pr → Nat → Nat
  | [], k => k
  | q :: r, k => if Op.bytesLess (payload q) t = true then rankF t r (k + 1) else k
theorem rank_step {t : List UInt8} {o : List Pr} {k : Nat} {q : Pr} (h : o[k]? = some q) : rankF t (o.drop k) k = if Op.bytesLess (payload q) t = true then rankF t (o.drop (k + 1)) (k + 1) else k := by
  rw [drop_get h]; rfl
theorem rank_end {t : List UInt8} {o : List Pr} {k : Nat} (h : ¬ k < o.length) : rankF t (o.drop k) k = k := by rw [drop_end (by omega)]; rfl
theorem pr_getD {l : List Pr} {i : Nat} {x : Pr} (h : l[i]? = some x) : l.getD i { name := [], value := [] } = x := by simp [List.getD, h]
def shiftF : Nat → Nat → List Pr → List Pr
  | 0, _, o => o
  | n + 1, j, o => shiftF n (j - 1) (o.set j (o.getD (j - 1) { name := [], value := [] }))
theorem shift_step {j k : Nat} {o : List Pr} (h : k < j) : shiftF (j - k) j o = shiftF (j - 1 - k) (j - 1) (o.set j (o.getD (j - 1) { name := [], value := [] })) := by
  rw [show j - k = (j - 1 - k) + 1 by omega]; rfl
theorem shift_end {j k : Nat} {o : List Pr} (h : ¬ k < j) : shiftF (j - k) j o = o := by rw [show j - k = 0 by omega]; rfl
/-- A pair into the sorted list: not a second time. -/
def insF (p : Pr) (o : List Pr) : List Pr :=
  let k := rankF (payload p) o 0
  if k < o.length ∧ (o.getD k { name := [], value := [] }).pb = p.pb then o else (shiftF (o.length - k) o.length (o ++ [{ name := [], value := [] }])).set k p
def goL : List Pr → List Pr → List Pr × Nat
  | [], o => if 16 < o.length then ([], 21) else (o, 0)
  | p :: r, o => if (joinF p).2 ≠ 0 then ([], (joinF p).2) else goL r (insF p o)
def listF (l : List Pr) : List Pr × Nat := if l.length = 0 then ([], 16) else goL l []
theorem goL_end {l o : List Pr} {i : Nat} (h : ¬ i < l.length) : goL (l.drop i) o = if 16 < o.length then ([], 21) else (o, 0) := by rw [drop_end (by omega)]; rfl
theorem goL_step {l o : List Pr} {i : Nat} {p : Pr} (h : l[i]? = some p) : goL (l.drop i) o = if (joinF p).2 ≠ 0 then ([], (joinF p).2) else goL (l.drop (i + 1)) (insF p o) := by
  rw [drop_get h]; rfl
end Go.Wk
namespace Go.Wk
open Go Go.RowKit
section
variable {P : Program} {n : Nat} {A : Fr n} {D : List Deferred} {l : List (Nat × Value)} {w : World} {d : Option Tmp} {ty : TypeId} {ps : String} {af : Array Edge} {g : Option (Nat × Bool)}
theorem r_remZ {x y : Operand} {t u : TypeId} {k : IntKind} {a b : Int} (hx : ev n l x = some (.int k a)) (hy : ev n l y = some (.int k b)) (h : b ≠ 0) :
    RunV P ⟨d, .binOp .rem t x y u, ty, ps, af, g⟩ (over A D l).eval w (.int k (a.tmod b)) := r_rem hx hy h
end
def numF (k : Int) (n : Nat) : Nat := if n < 1 then 0 else ((k.tmod n + n).tmod n).toNat
theorem numF_lt (k : Int) (n : Nat) : n < 1 ∨ numF k n < n := by
  unfold numF
  by_cases h : n < 1
  · exact .inl h
  · rw [if_neg h]
    have h1 := Int.tmod_lt_of_pos (k.tmod n + n) (show (0 : Int) < n by omega)
    right; omega
theorem num_ge {k : Int} {n : Nat} (h : ¬ n < 1) : 0 ≤ k.tmod n + n ∧ k.tmod n + n < 2 * n := by
  have h1 := Int.tmod_lt_of_pos k (show (0 : Int) < n by omega)
  have h2 := Int.lt_tmod_of_pos k (show (0 : Int) < n by omega)
  omega
def Sq.num (s : Sq) (n : Nat) : Nat × Sq := if s.l.length ≤ s.pos then (0, s) else (numF (s.l.getD s.pos 0) n, { s with pos := s.pos + 1 })
def Sq.more (s : Sq) : Bool × Sq := (decide (s.pos < s.l.length), s)
def namesF : List (List UInt8) := [[65], [66], [77, 69, 83, 83, 65, 71, 69], [95, 80, 73, 68], [88, 95, 49], [80, 82, 73, 79, 82, 73, 84, 89]]
def valuesF : List (List UInt8) := [[], [48], [49], [50, 50], [97, 61, 98], [111, 110, 101, 10, 116, 119, 111], [0, 255], [116, 97, 98, 9, 104, 101, 114, 101], [108, 111, 110, 103, 32, 108, 111, 110, 103, 32, 108, 111, 110, 103, 32, 108, 111, 110, 103, 32, 108, 111, 110, 103, 32, 108, 111, 110, 103, 32, 108, 111, 110, 103], [126, 127, 128]]
theorem namesF_len : namesF.length = 6 := rfl
theorem valuesF_len : valuesF.length = 10 := rfl
def idF (k : Int) : List UInt8 := ((List.replicate 16 0).set 0 94).set 15 (UInt8.ofNat (numF k 5))
def Sq.pair (s : Sq) : Pr × Sq :=
  match s.num 6 with
  | (a, s1) =>
    match s1.num 10 with
    | (b, s2) => ({ name := namesF.getD a [], value := valuesF.getD b [] }, s2)
theorem Sq.num_le (s : Sq) (n : Nat) : (s.num n).1 ≤ n - 1 := by
  unfold Sq.num
  split
  · simp
  · simp only
    rcases numF_lt (s.l.getD s.pos 0) n with h | h
    · simp [numF, h]
    · omega
def pairsL : Nat → Sq → List Pr → List Pr × Sq
  | 0, s, o => (o, s)
  | n + 1, s, o => match s.pair with
    | (p, s1) => pairsL n s1 (o ++ [p])
def Sq.pairs (s : Sq) (most : Nat) : List Pr × Sq :=
  match s.num most with
  | (n, s1) => pairsL (n + 1) s1 []
theorem pairs_end {n : Nat} {s : Sq} {o : List Pr} (h : ¬ 0 < n) : pairsL n s o = (o, s) := by rw [show n = 0 by omega]; rfl
theorem pairs_step {n : Nat} {s : Sq} {o : List Pr} (h : 0 < n) : pairsL n s o = pairsL (n - 1) s.pair.2 (o ++ [s.pair.1]) := by
  obtain ⟨k, rfl⟩ : ∃ k, n = k + 1 := ⟨n - 1, by omega⟩
  rfl
theorem names_bd (a : Nat) : (namesF.getD a []).length ≤ 64 := by
  match a with
  | 0 | 1 | 2 | 3 | 4 | 5 => decide
  | n + 6 => simp [namesF]
theorem values_bd (a : Nat) : (valuesF.getD a []).length ≤ 256 := by
  match a with
  | 0 | 1 | 2 | 3 | 4 | 5 | 6 | 7 | 8 | 9 => decide
  | n + 10 => simp [valuesF]
theorem pair_bd (s : Sq) : s.pair.1.name.length ≤ 64 ∧ s.pair.1.value.length ≤ 256 := ⟨names_bd _, values_bd _⟩
theorem pairsL_bd (n : Nat) : ∀ (s : Sq) (o : List Pr), (∀ q ∈ o, q.name.length ≤ 64 ∧ q.value.length ≤ 256) → (∀ q ∈ (pairsL n s o).1, q.name.length ≤ 64 ∧ q.value.length ≤ 256) ∧ (pairsL n s o).1.length = o.length + n := by
  induction n with
  | zero => exact fun s o h => ⟨h, rfl⟩
  | succ n ih =>
    intro s o h
    have := ih s.pair.2 (o ++ [s.pair.1]) (fun q hq => by
      rcases List.mem_append.1 hq with hq | hq
      · exact h q hq
      · rw [List.mem_singleton.1 hq]; exact pair_bd s)
    refine ⟨this.1, ?_⟩
    have h2 := this.2
    rw [List.length_append, List.length_singleton] at h2
    rw [show pairsL (n + 1) s o = pairsL n s.pair.2 (o ++ [s.pair.1]) from rfl, h2]; omega
theorem pairs_bd (s : Sq) (most : Nat) : (∀ q ∈ (s.pairs most).1, q.name.length ≤ 1000000 ∧ q.value.length ≤ 1000000) ∧ (s.pairs most).1.length ≤ most + 1 := by
  have h := pairsL_bd ((s.num most).1 + 1) (s.num most).2 [] (by simp)
  have h2 := s.num_le most
  have e : s.pairs most = pairsL ((s.num most).1 + 1) (s.num most).2 [] := rfl
  rw [e]
  refine ⟨fun q hq => ⟨by have := (h.1 q hq).1; omega, by have := (h.1 q hq).2; omega⟩, ?_⟩
  rw [h.2]; simp; omega
def Sq.config (s : Sq) : Cfg × Sq :=
  match s.num 5 with
  | (a, s1) => match s1.num 5 with
    | (b, s2) => match s2.num 5 with
      | (c, s3) => match s3.num 7 with
        | (d, s4) => match s4.num 4 with
          | (e, s5) => match s5.num 2 with
            | (f, s6) => ({ file := idF a, machine := idF b, seq := idF c, dataSlots := d + 1, fieldSlots := e + 1, most := 32768, keyed := decide (f = 1) }, s6)
def Sq.record (s : Sq) (seq : Nat) : Rec × Sq :=
  match s.pairs 4 with
  | (ps, s1) => match s1.num 40 with
    | (a, s2) => match s2.num 9 with
      | (b, s3) => match s3.num 3 with
        | (c, s4) => ({ seq := seq, real := a, mono := b, boot := idF c, fields := (listF ps).1 }, s4)
end Go.Wk
namespace Go.Wk
open Go Go.RowKit
section
variable {P : Program} {Q : Exit → Act → World → Prop} {n : Nat} {A : Fr n} {D : List Deferred} {l : List (Nat × Value)} {w : World}

def Next9 {X0 X1 X2 X3 X4 X5 X6 X7 X8 : Type} (n : Nat) (D : List Deferred) (inv : X0 → X1 → X2 → X3 → X4 → X5 → X6 → X7 → X8 → List (Nat × Value)) (W : X0 → X1 → X2 → X3 → X4 → X5 → X6 → X7 → X8 → World → Prop) (mu : X0 → X1 → X2 → X3 → X4 → X5 → X6 → X7 → X8 → Nat) (m : Nat) (a : Act) (w : World) : Prop :=
  ∃ y0 : X0, ∃ y1 : X1, ∃ y2 : X2, ∃ y3 : X3, ∃ y4 : X4, ∃ y5 : X5, ∃ y6 : X6, ∃ y7 : X7, ∃ y8 : X8, ∃ B : Fr n, a = over B D (inv y0 y1 y2 y3 y4 y5 y6 y7 y8) ∧ W y0 y1 y2 y3 y4 y5 y6 y7 y8 w ∧ mu y0 y1 y2 y3 y4 y5 y6 y7 y8 < m
theorem loop9 {X0 X1 X2 X3 X4 X5 X6 X7 X8 : Type} {c : Code} (inv : X0 → X1 → X2 → X3 → X4 → X5 → X6 → X7 → X8 → List (Nat × Value)) (W : X0 → X1 → X2 → X3 → X4 → X5 → X6 → X7 → X8 → World → Prop) (mu : X0 → X1 → X2 → X3 → X4 → X5 → X6 → X7 → X8 → Nat) (x0 : X0) (x1 : X1) (x2 : X2) (x3 : X3) (x4 : X4) (x5 : X5) (x6 : X6) (x7 : X7) (x8 : X8) (h0 : Fits n l (inv x0 x1 x2 x3 x4 x5 x6 x7 x8)) (hw : W x0 x1 x2 x3 x4 x5 x6 x7 x8 w)
    (round : ∀ (x0 : X0) (x1 : X1) (x2 : X2) (x3 : X3) (x4 : X4) (x5 : X5) (x6 : X6) (x7 : X7) (x8 : X8) (B : Fr n) (w' : World), W x0 x1 x2 x3 x4 x5 x6 x7 x8 w' → c.wp P (Exit.then (Next9 n D inv W mu (mu x0 x1 x2 x3 x4 x5 x6 x7 x8)) Q) (over B D (inv x0 x1 x2 x3 x4 x5 x6 x7 x8)) w') :
    (Code.loop c).wp P Q (over A D l) w := by
  refine c_loop (X := X0 × X1 × X2 × X3 × X4 × X5 × X6 × X7 × X8) (fun p => inv p.1 p.2.1 p.2.2.1 p.2.2.2.1 p.2.2.2.2.1 p.2.2.2.2.2.1 p.2.2.2.2.2.2.1 p.2.2.2.2.2.2.2.1 p.2.2.2.2.2.2.2.2) (fun p w => W p.1 p.2.1 p.2.2.1 p.2.2.2.1 p.2.2.2.2.1 p.2.2.2.2.2.1 p.2.2.2.2.2.2.1 p.2.2.2.2.2.2.2.1 p.2.2.2.2.2.2.2.2 w) (fun p => mu p.1 p.2.1 p.2.2.1 p.2.2.2.1 p.2.2.2.2.1 p.2.2.2.2.2.1 p.2.2.2.2.2.2.1 p.2.2.2.2.2.2.2.1 p.2.2.2.2.2.2.2.2) (x0, x1, x2, x3, x4, x5, x6, x7, x8) h0 hw (fun p B w' h => wp_mono (round (p.1) (p.2.1) (p.2.2.1) (p.2.2.2.1) (p.2.2.2.2.1) (p.2.2.2.2.2.1) (p.2.2.2.2.2.2.1) (p.2.2.2.2.2.2.2.1) (p.2.2.2.2.2.2.2.2) B w' h) ?_)
  intro e a2 w2 h
  cases e with
  | normal => obtain ⟨y0, y1, y2, y3, y4, y5, y6, y7, y8, B', h1, h2, h3⟩ := h; exact ⟨(y0, y1, y2, y3, y4, y5, y6, y7, y8), B', h1, h2, h3⟩
  | _ => exact h
theorem next9 {X0 X1 X2 X3 X4 X5 X6 X7 X8 : Type} {inv : X0 → X1 → X2 → X3 → X4 → X5 → X6 → X7 → X8 → List (Nat × Value)} {W : X0 → X1 → X2 → X3 → X4 → X5 → X6 → X7 → X8 → World → Prop} {mu : X0 → X1 → X2 → X3 → X4 → X5 → X6 → X7 → X8 → Nat} {m : Nat} (x0 : X0) (x1 : X1) (x2 : X2) (x3 : X3) (x4 : X4) (x5 : X5) (x6 : X6) (x7 : X7) (x8 : X8) (hm : mu x0 x1 x2 x3 x4 x5 x6 x7 x8 < m) (hf : Fits n l (inv x0 x1 x2 x3 x4 x5 x6 x7 x8)) (hw : W x0 x1 x2 x3 x4 x5 x6 x7 x8 w) :
    Next9 n D inv W mu m (over A D l) w := ⟨x0, x1, x2, x3, x4, x5, x6, x7, x8, _, (over_fits (A := A) (D := D) hf).symm, hw, hm⟩

def Next10 {X0 X1 X2 X3 X4 X5 X6 X7 X8 X9 : Type} (n : Nat) (D : List Deferred) (inv : X0 → X1 → X2 → X3 → X4 → X5 → X6 → X7 → X8 → X9 → List (Nat × Value)) (W : X0 → X1 → X2 → X3 → X4 → X5 → X6 → X7 → X8 → X9 → World → Prop) (mu : X0 → X1 → X2 → X3 → X4 → X5 → X6 → X7 → X8 → X9 → Nat) (m : Nat) (a : Act) (w : World) : Prop :=
  ∃ y0 : X0, ∃ y1 : X1, ∃ y2 : X2, ∃ y3 : X3, ∃ y4 : X4, ∃ y5 : X5, ∃ y6 : X6, ∃ y7 : X7, ∃ y8 : X8, ∃ y9 : X9, ∃ B : Fr n, a = over B D (inv y0 y1 y2 y3 y4 y5 y6 y7 y8 y9) ∧ W y0 y1 y2 y3 y4 y5 y6 y7 y8 y9 w ∧ mu y0 y1 y2 y3 y4 y5 y6 y7 y8 y9 < m
theorem loop10 {X0 X1 X2 X3 X4 X5 X6 X7 X8 X9 : Type} {c : Code} (inv : X0 → X1 → X2 → X3 → X4 → X5 → X6 → X7 → X8 → X9 → List (Nat × Value)) (W : X0 → X1 → X2 → X3 → X4 → X5 → X6 → X7 → X8 → X9 → World → Prop) (mu : X0 → X1 → X2 → X3 → X4 → X5 → X6 → X7 → X8 → X9 → Nat) (x0 : X0) (x1 : X1) (x2 : X2) (x3 : X3) (x4 : X4) (x5 : X5) (x6 : X6) (x7 : X7) (x8 : X8) (x9 : X9) (h0 : Fits n l (inv x0 x1 x2 x3 x4 x5 x6 x7 x8 x9)) (hw : W x0 x1 x2 x3 x4 x5 x6 x7 x8 x9 w)
    (round : ∀ (x0 : X0) (x1 : X1) (x2 : X2) (x3 : X3) (x4 : X4) (x5 : X5) (x6 : X6) (x7 : X7) (x8 : X8) (x9 : X9) (B : Fr n) (w' : World), W x0 x1 x2 x3 x4 x5 x6 x7 x8 x9 w' → c.wp P (Exit.then (Next10 n D inv W mu (mu x0 x1 x2 x3 x4 x5 x6 x7 x8 x9)) Q) (over B D (inv x0 x1 x2 x3 x4 x5 x6 x7 x8 x9)) w') :
    (Code.loop c).wp P Q (over A D l) w := by
  refine c_loop (X := X0 × X1 × X2 × X3 × X4 × X5 × X6 × X7 × X8 × X9) (fun p => inv p.1 p.2.1 p.2.2.1 p.2.2.2.1 p.2.2.2.2.1 p.2.2.2.2.2.1 p.2.2.2.2.2.2.1 p.2.2.2.2.2.2.2.1 p.2.2.2.2.2.2.2.2.1 p.2.2.2.2.2.2.2.2.2) (fun p w => W p.1 p.2.1 p.2.2.1 p.2.2.2.1 p.2.2.2.2.1 p.2.2.2.2.2.1 p.2.2.2.2.2.2.1 p.2.2.2.2.2.2.2.1 p.2.2.2.2.2.2.2.2.1 p.2.2.2.2.2.2.2.2.2 w) (fun p => mu p.1 p.2.1 p.2.2.1 p.2.2.2.1 p.2.2.2.2.1 p.2.2.2.2.2.1 p.2.2.2.2.2.2.1 p.2.2.2.2.2.2.2.1 p.2.2.2.2.2.2.2.2.1 p.2.2.2.2.2.2.2.2.2) (x0, x1, x2, x3, x4, x5, x6, x7, x8, x9) h0 hw (fun p B w' h => wp_mono (round (p.1) (p.2.1) (p.2.2.1) (p.2.2.2.1) (p.2.2.2.2.1) (p.2.2.2.2.2.1) (p.2.2.2.2.2.2.1) (p.2.2.2.2.2.2.2.1) (p.2.2.2.2.2.2.2.2.1) (p.2.2.2.2.2.2.2.2.2) B w' h) ?_)
  intro e a2 w2 h
  cases e with
  | normal => obtain ⟨y0, y1, y2, y3, y4, y5, y6, y7, y8, y9, B', h1, h2, h3⟩ := h; exact ⟨(y0, y1, y2, y3, y4, y5, y6, y7, y8, y9), B', h1, h2, h3⟩
  | _ => exact h
theorem next10 {X0 X1 X2 X3 X4 X5 X6 X7 X8 X9 : Type} {inv : X0 → X1 → X2 → X3 → X4 → X5 → X6 → X7 → X8 → X9 → List (Nat × Value)} {W : X0 → X1 → X2 → X3 → X4 → X5 → X6 → X7 → X8 → X9 → World → Prop} {mu : X0 → X1 → X2 → X3 → X4 → X5 → X6 → X7 → X8 → X9 → Nat} {m : Nat} (x0 : X0) (x1 : X1) (x2 : X2) (x3 : X3) (x4 : X4) (x5 : X5) (x6 : X6) (x7 : X7) (x8 : X8) (x9 : X9) (hm : mu x0 x1 x2 x3 x4 x5 x6 x7 x8 x9 < m) (hf : Fits n l (inv x0 x1 x2 x3 x4 x5 x6 x7 x8 x9)) (hw : W x0 x1 x2 x3 x4 x5 x6 x7 x8 x9 w) :
    Next10 n D inv W mu m (over A D l) w := ⟨x0, x1, x2, x3, x4, x5, x6, x7, x8, x9, _, (over_fits (A := A) (D := D) hf).symm, hw, hm⟩

end
end Go.Wk
namespace Go.Wk
open Go Go.RowKit
def known0 : Known := { text := [], pos := 0, slot := 0, count := 0, arrays := [] }
def posAt (ds : List Known) (i : Nat) : Nat := (ds.getD i known0).pos
def backF (ds : List Known) (p : Nat) (order : List Nat) : Nat → Nat
  | 0 => 0
  | n + 1 => if p < posAt ds (order.getD n 0) then backF ds p order n else n + 1
/-- A datum's place among the others, by its place in the file. -/
def placeF (ds : List Known) (k : Nat) (order : List Nat) : List Nat :=
  let n := backF ds (posAt ds k) order order.length
  order.take n ++ [k] ++ order.drop n
def datasL : List Pr → Mk → List (List UInt8) → List Nat → List (List UInt8) × List Nat × Mk
  | [], m, ps, od => (ps, od, m)
  | x :: r, m, ps, od =>
    match m.data x with
    | (k, m1) => datasL r m1 (ps ++ [(m1.datas.getD k known0).text]) (placeF m1.datas k od)
def itemsL (m : Mk) (od : List Nat) : List Itm := od.map fun i => { pos := posAt m.datas i, hash := hashN m.c.keyed m.c.file (m.datas.getD i known0).text }
/-- The entry is named by each of its data. -/
def hangE (e : Nat) : List Nat → Mk → Mk
  | [], m => m
  | i :: r, m =>
    let k := m.datas.getD i known0
    if k.count = 0 then
      let m2 := (m.put (k.pos + 40) e).put (k.pos + 56) 1
      hangE e r { m2 with datas := m2.datas.set i { k with count := 1 } }
    else
      match m.link k.arrays (k.count - 1) (k.pos + 48) e with
      | (a, _, m1) =>
        let m2 := m1.put (k.pos + 56) (k.count + 1)
        hangE e r { m2 with datas := m2.datas.set i { k with arrays := a, count := k.count + 1 } }
/-- A record behind the others: its number, or a refusal; the maker is then as it was. -/
def Mk.append (m : Mk) (fields : List Pr) (real mono : Nat) (boot : List UInt8) : Nat × Nat × Mk :=
  match listF fields with
  | (l, c) =>
    if c ≠ 0 then (0, c, m)
    else if m.num 9 = 18446744073709551615 then (0, 1, m)
    else
      match datasL l m [] [] with
      | (ps, od, m1) =>
        let seq := (m1.num 9 + 1) % 18446744073709551616
        match m1.object (putEntryF { seq := seq, real := real, mono := mono, boot := boot, xor := xorF 0 ps, items := itemsL m1 od }) with
        | (e, m2) =>
          let n := m2.num 8
          match m2.link m2.main n 176 e with
          | (a, t, m3) =>
            let m4 := ({ m3 with main := a } : Mk).setN 11 (a.getD 0 0)
            let m5 := { m4 with h := { m4.h with tailArray := lastN a % 4294967296, tailItems := t % 4294967296 } }
            let m6 := hangE e od m5
            if m6.c.most < m6.b.length then (0, 15, m)
            else
              let m7 := if n = 0 then (m6.setN 10 seq).setN 12 real else m6
              let m8 := m7.setN 8 ((m7.num 8 + 1) % 18446744073709551616)
              let m9 := ((m8.setN 9 seq).setN 13 real).setN 14 mono
              (seq, 0, { m9 with h := { m9.h with boot := boot, tailEntry := e } })
def makerL : Nat → Sq → Mk → List Rec → Mk × List Rec × Sq
  | 0, s, m, rs => (m, rs, s)
  | n + 1, s, m, rs =>
    if s.pos < s.l.length then
      match s.record ((m.num 9 + 1) % 18446744073709551616) with
      | (r, s1) =>
        match m.append r.fields r.real r.mono r.boot with
        | (_, c, m1) => if c ≠ 0 then (m1, rs, s1) else makerL n s1 m1 (rs ++ [r])
    else (m, rs, s)
def Sq.maker (s : Sq) (most : Nat) : Mk × List Rec × Sq :=
  match s.config with
  | (c, s1) =>
    match s1.num 6 with
    | (t, s2) => makerL most s2 (newMk c t) []
/-- The file that choices make. -/
def imageOf (l : List Int) (most : Nat) : List UInt8 := imageM ((Sq.mk l 0).maker most).1 1
end Go.Wk
namespace Go.Wk
open Go Go.RowKit
/-- What 'data' leaves, and what it makes. -/
structure DataOk (m m' : Mk) (k len : Nat) : Prop where
  lt : k < m'.datas.length
  ge : m.b.length ≤ m'.b.length
  le : m'.b.length ≤ m.b.length + len
  c : m'.c = m.c
  main : m'.main = m.main
  pre : m'.datas = m.datas ∨ ∃ x : Known, m'.datas = m.datas ++ [x] ∧ x.count = 0 ∧ x.arrays = [] ∧ x.pos + 64 ≤ m'.b.length
  fl : m'.fields.length ≤ m.fields.length + 1
  fit : m'.fit
  n8 : m'.h.n.getD 8 0 = m.h.n.getD 8 0
theorem put_same (m : Mk) (p v : Nat) : (m.put p v).c = m.c ∧ (m.put p v).datas = m.datas ∧ (m.put p v).fields = m.fields ∧ (m.put p v).main = m.main ∧ (m.put p v).h = m.h ∧ (m.put p v).depth = m.depth := ⟨rfl, rfl, rfl, rfl, rfl, rfl⟩
theorem data_ok (m : Mk) (x : Pr) (h : m.fit) : DataOk m (m.data x).2 (m.data x).1 (400 + x.name.length + (payload x).length) := by
  unfold Mk.data
  cases hk : findI (payload x) m.datas 0 with
  | some i =>
    have := findI_lt hk
    exact ⟨by simp only; omega, Nat.le_refl _, by simp only; omega, rfl, rfl, .inl rfl, by simp only; omega, h, rfl⟩
  | none =>
    simp only
    have h1 := object_spec m (putDataF { hash := hashN m.c.keyed m.c.file (payload x), nextHash := 0, nextField := 0, entry := 0, array := 0, count := 0, payload := payload x })
    have h2 := object_same m (putDataF { hash := hashN m.c.keyed m.c.file (payload x), nextHash := 0, nextField := 0, entry := 0, array := 0, count := 0, payload := payload x })
    have h3 : (m.object (putDataF { hash := hashN m.c.keyed m.c.file (payload x), nextHash := 0, nextField := 0, entry := 0, array := 0, count := 0, payload := payload x })).2.h.n.getD 8 0 = m.h.n.getD 8 0 := by
      simp only [Mk.object, Mk.setN]; rw [getD_set_ne' (by decide), getD_set_ne' (by decide)]
    rw [putDataF_len] at h1
    simp only at h1
    generalize m.object (putDataF { hash := hashN m.c.keyed m.c.file (payload x), nextHash := 0, nextField := 0, entry := 0, array := 0, count := 0, payload := payload x }) = r at *
    obtain ⟨p, m1⟩ := r
    simp only at h1 h2 h3 ⊢
    have h4 := hang_spec m1 m1.datas (m1.num 2) p (hashN m.c.keyed m.c.file (payload x) % m1.c.dataSlots)
    have h5 := hang_same m1 m1.datas (m1.num 2) p (hashN m.c.keyed m.c.file (payload x) % m1.c.dataSlots)
    generalize m1.hang m1.datas (m1.num 2) p (hashN m.c.keyed m.c.file (payload x) % m1.c.dataSlots) = r at *
    obtain ⟨n, m2⟩ := r
    simp only at h4 h5 ⊢
    obtain ⟨a1, a2, a3, a4, a5, a6, a7, a8⟩ := h1
    obtain ⟨b1, b2, b3, b4⟩ := h2
    obtain ⟨c1, c2, c3, c4, c5, c6, c7⟩ := h4
    obtain ⟨d1, d2, d3, d4, d5, d6⟩ := h5
    generalize hx5 : ({ (m2.setN 19 (max (m2.num 19) n)).setN 15 (((m2.setN 19 (max (m2.num 19) n)).num 15 + 1) % 18446744073709551616) with datas := ((m2.setN 19 (max (m2.num 19) n)).setN 15 (((m2.setN 19 (max (m2.num 19) n)).num 15 + 1) % 18446744073709551616)).datas ++ [({ text := payload x, pos := p, slot := hashN m.c.keyed m.c.file (payload x) % m1.c.dataSlots, count := 0, arrays := [] } : Known)] } : Mk) = m5
    have e5 : m5.b = m2.b ∧ m5.c = m2.c ∧ m5.datas = m2.datas ++ [({ text := payload x, pos := p, slot := hashN m.c.keyed m.c.file (payload x) % m1.c.dataSlots, count := 0, arrays := [] } : Known)] ∧ m5.fields = m2.fields ∧ m5.main = m2.main := by subst hx5; exact ⟨rfl, rfl, rfl, rfl, rfl⟩
    have g2 : m5.h.n.getD 2 0 = m.h.n.getD 2 0 := by subst hx5; simp only [Mk.setN]; rw [getD_set_ne' (by decide), getD_set_ne' (by decide)]; omega
    have g4 : m5.h.n.getD 4 0 = m.h.n.getD 4 0 := by subst hx5; simp only [Mk.setN]; rw [getD_set_ne' (by decide), getD_set_ne' (by decide)]; omega
    have g8 : m5.h.n.getD 8 0 = m.h.n.getD 8 0 := by subst hx5; simp only [Mk.setN]; rw [getD_set_ne' (by decide), getD_set_ne' (by decide), d6, h3]
    clear hx5
    obtain ⟨e1, e2, e3, e4, e6⟩ := e5
    have l5 : m5.b.length = m1.b.length := by rw [e1]; omega
    have f5 : m5.fit := by
      refine fit_mono h ⟨by rw [e2]; omega, by rw [e2]; omega, g2, g4, by omega⟩ (fun k hk => ?_) (fun k hk => ?_)
      · rw [e3, d2, b2, List.mem_append, List.mem_singleton] at hk
        rcases hk with hk | rfl
        · exact .inl hk
        · right; simp only; omega
      · rw [e4, d3, b3] at hk; exact .inl hk
    have hf := field_all m5 x.name f5
    generalize m5.field x.name = r at *
    obtain ⟨k, m6⟩ := r
    simp only at hf ⊢
    obtain ⟨⟨q1, q2, q3, q4, q5, q6, q7, q8, q9, q10⟩, ⟨s1, s2, s3⟩, s4⟩ := hf
    have l8 : ((m6.put (p + 32) (getF m6.b (k + 32 : Nat) 8).1).put (k + 32) p).b.length = m6.b.length := by rw [put_len, put_len]
    have e7 := put_same m6 (p + 32) (getF m6.b (k + 32 : Nat) 8).1
    have e8 := put_same (m6.put (p + 32) (getF m6.b (k + 32 : Nat) 8).1) (k + 32) p
    generalize m6.put (p + 32) (getF m6.b (k + 32 : Nat) 8).1 = m7 at *
    generalize m7.put (k + 32) p = m8 at *
    obtain ⟨v1, v2, v3, v4, v5, _⟩ := e7
    obtain ⟨w1, w2, w3, w4, w5, _⟩ := e8
    have dl : m8.datas = m.datas ++ [({ text := payload x, pos := p, slot := hashN m.c.keyed m.c.file (payload x) % m1.c.dataSlots, count := 0, arrays := [] } : Known)] := by rw [w2, v2, s2, e3, d2, b2]
    refine ⟨by rw [dl]; simp, by omega, by omega, by rw [w1, v1, s1, e2, d1, b1], by rw [w4, v4, s3, e6, d4, b4], .inr ⟨_, dl, rfl, rfl, by simp only; omega⟩, ?_, ?_, by rw [w5, v5]; omega⟩
    · have := congrArg List.length e4; rw [d3, b3] at this; rw [w3, v3]; omega
    · refine fit_mono s4 ⟨by rw [w1, v1], by rw [w1, v1], by rw [w5, v5], by rw [w5, v5], by omega⟩ (fun k hk => .inl (by rw [w2, v2] at hk; exact hk)) (fun k hk => .inl (by rw [w3, v3] at hk; exact hk))
/-! chains -/
theorem rooms_app (l : List Nat) (p k a r : Nat) : roomsL (l ++ [p]) k a r = ((roomsL l k a r).2, (roomsL l k a r).2 + roomF ((k + l.length : Nat) : Int)) := by
  induction l generalizing k a r with
  | nil => rfl
  | cons x l ih =>
    show roomsL (l ++ [p]) (k + 1) r (r + roomF (k : Int)) = _
    rw [ih]
    show _ = ((roomsL l (k + 1) r (r + roomF (k : Int))).2, (roomsL l (k + 1) r (r + roomF (k : Int))).2 + roomF ((k + (l.length + 1) : Nat) : Int))
    rw [show k + 1 + l.length = k + (l.length + 1) by omega]
theorem rooms_ge (l : List Nat) (k a r : Nat) : r + 4 * l.length ≤ (roomsL l k a r).2 ∧ (l ≠ [] → r + 4 * (l.length - 1) ≤ (roomsL l k a r).1) := by
  induction l generalizing k a r with
  | nil => simp [roomsL]
  | cons x l ih =>
    have h4 := roomF_ge (k := (k : Int)) (by omega)
    obtain ⟨h1, h2⟩ := ih (k + 1) r (r + roomF (k : Int))
    refine ⟨?_, fun _ => ?_⟩
    · show r + 4 * (l.length + 1) ≤ (roomsL l (k + 1) r (r + roomF (k : Int))).2; omega
    · show r + 4 * (l.length + 1 - 1) ≤ (roomsL l (k + 1) r (r + roomF (k : Int))).1
      by_cases hl : l = []
      · subst hl; simp [roomsL]
      · have := h2 hl
        have : 0 < l.length := by cases l with | nil => exact absurd rfl hl | cons _ _ => simp
        omega
theorem chain_len {len n : Nat} {a : List Nat} (h : chainFit len a n) : a.length ≤ n + 1 := by
  obtain ⟨_, h2, _⟩ := h
  have h3 := (rooms_ge a 0 0 0).2
  by_cases ha : a = []
  · subst ha; simp
  · have := h3 ha; omega
theorem chain_mono {len len' n : Nat} {a : List Nat} (h : chainFit len a n) (hl : len ≤ len') : chainFit len' a n :=
  ⟨fun k x hx => Nat.le_trans (h.1 k x hx) hl, h.2⟩
theorem chain_nil (len : Nat) : chainFit len [] 0 := ⟨by simp, by simp [roomsL], by simp [roomsL]⟩
structure LinkOk (m m' : Mk) (a : List Nat) (n : Nat) : Prop where
  ge : m.b.length ≤ m'.b.length
  le : m'.b.length ≤ m.b.length + 2100
  c : m'.c = m.c
  datas : m'.datas = m.datas
  fields : m'.fields = m.fields
  main : m'.main = m.main
  chain : chainFit m'.b.length a (n + 1)
  ne : a ≠ []
  n8 : m'.h.n.getD 8 0 = m.h.n.getD 8 0
  n2 : m'.h.n.getD 2 0 = m.h.n.getD 2 0
  n4 : m'.h.n.getD 4 0 = m.h.n.getD 4 0
theorem link_ok (m : Mk) (arrays : List Nat) (n src item : Nat) (h : chainFit m.b.length arrays n) : LinkOk m (m.link arrays n src item).2.2 (m.link arrays n src item).1 n := by
  obtain ⟨h1, h2, h3⟩ := h
  unfold Mk.link
  have hr := fun p => rooms_app arrays p 0 0 0
  rcases hq : roomsL arrays 0 0 0 with ⟨ahead, room⟩
  rw [hq] at h2 h3 hr
  simp only at h2 h3 hr ⊢
  rw [Nat.zero_add] at hr
  split
  · rename_i hn
    have g1 := object_spec m (putArrayF { next := 0, items := List.replicate (roomF (arrays.length : Int)) 0 })
    have g2 := object_same m (putArrayF { next := 0, items := List.replicate (roomF (arrays.length : Int)) 0 })
    have g3 : (m.object (putArrayF { next := 0, items := List.replicate (roomF (arrays.length : Int)) 0 })).2.h.n.getD 8 0 = m.h.n.getD 8 0 := by
      simp only [Mk.object, Mk.setN]; rw [getD_set_ne' (by decide), getD_set_ne' (by decide)]
    rw [putArrayF_len] at g1
    simp only [List.length_replicate] at g1
    generalize m.object (putArrayF { next := 0, items := List.replicate (roomF (arrays.length : Int)) 0 }) = r at *
    obtain ⟨p, m1⟩ := r
    simp only at g1 g2 g3 ⊢
    obtain ⟨a1, a2, a3, a4, a5, a6, a7, a8⟩ := g1
    obtain ⟨b1, b2, b3, b4⟩ := g2
    have hroom := roomF_le (arrays.length : Int)
    have hroom4 := roomF_ge (k := (arrays.length : Int)) (by omega)
    generalize hx2 : m1.setN 18 ((m1.num 18 + 1) % 18446744073709551616) = m2
    have s2 : m2.b = m1.b ∧ m2.c = m1.c ∧ m2.datas = m1.datas ∧ m2.fields = m1.fields ∧ m2.main = m1.main := by subst hx2; exact setN_same _ _ _
    have t8 : m2.h.n.getD 8 0 = m1.h.n.getD 8 0 := by subst hx2; exact num_setN (by decide)
    have t2 : m2.h.n.getD 2 0 = m1.h.n.getD 2 0 := by subst hx2; exact num_setN (by decide)
    have t4 : m2.h.n.getD 4 0 = m1.h.n.getD 4 0 := by subst hx2; exact num_setN (by decide)
    clear hx2
    generalize hx3 : (if arrays.length = 0 then m2.put src p else m2.put (lastN arrays + 16) p) = m3
    have s3 : m3.b.length = m2.b.length ∧ m3.c = m2.c ∧ m3.datas = m2.datas ∧ m3.fields = m2.fields ∧ m3.main = m2.main ∧ m3.h = m2.h := by
      subst hx3
      split
      · exact ⟨put_len _ _ _, rfl, rfl, rfl, rfl, rfl⟩
      · exact ⟨put_len _ _ _, rfl, rfl, rfl, rfl, rfl⟩
    clear hx3
    have l4 := put_len m3 (lastN (arrays ++ [p]) + 24 + 8 * (n - room)) item
    have s4 := put_same m3 (lastN (arrays ++ [p]) + 24 + 8 * (n - room)) item
    generalize m3.put (lastN (arrays ++ [p]) + 24 + 8 * (n - room)) item = m4 at *
    obtain ⟨c1, c2, c3, c4, c5⟩ := s2
    obtain ⟨d1, d2, d3, d4, d5, d6⟩ := s3
    obtain ⟨e1, e2, e3, e4, e5, _⟩ := s4
    have l2 := congrArg List.length c1
    have ll : m4.b.length = m.b.length + (16 + (8 + 8 * roomF (arrays.length : Int)) + 7) / 8 * 8 := by omega
    refine ⟨by omega, by omega, by rw [e1, d2, c2, b1], by rw [e2, d3, c3, b2], by rw [e3, d4, c4, b3], by rw [e4, d5, c5, b4], ⟨fun k x hx => ?_, ?_, ?_⟩, by simp, by rw [e5, d6]; omega, by rw [e5, d6]; omega, by rw [e5, d6]; omega⟩
    · rcases Nat.lt_or_ge k arrays.length with hk | hk
      · rw [List.getElem?_append_left hk] at hx
        have := h1 k x hx; omega
      · have hk2 := (List.getElem?_eq_some_iff.1 hx).1
        simp at hk2
        have : k = arrays.length := by omega
        subst this
        rw [List.getElem?_append_right (Nat.le_refl _)] at hx
        simp at hx
        subst hx
        omega
    · rw [hr]; simp only; omega
    · rw [hr]; simp only; omega
  · rename_i hn
    have l4 := put_len m (lastN arrays + 24 + 8 * (n - ahead)) item
    have s4 := put_same m (lastN arrays + 24 + 8 * (n - ahead)) item
    generalize m.put (lastN arrays + 24 + 8 * (n - ahead)) item = m4 at *
    obtain ⟨e1, e2, e3, e4, e5, _⟩ := s4
    show LinkOk m m4 arrays n
    refine ⟨by omega, by omega, e1, e2, e3, e4, ⟨fun k x hx => by have := h1 k x hx; omega, by rw [hq]; simp only; omega, by rw [hq]; simp only; omega⟩, ?_, by rw [e5], by rw [e5], by rw [e5]⟩
    rintro rfl
    simp [roomsL] at hq
    omega
/-! what holds of a maker, and while a record is put behind the others -/
def Mk.n8 (m : Mk) : Nat := m.h.n.getD 8 0
def chainsOk (m : Mk) (most : Nat) : Prop := ∀ k ∈ m.datas, chainFit m.b.length k.arrays (k.count - 1) ∧ (k.count = 0 → k.arrays = []) ∧ k.text.length ≤ 400 ∧ k.count ≤ most
structure MkOk (m : Mk) : Prop where
  fit : m.fit
  main : chainFit m.b.length m.main m.n8
  chains : chainsOk m (16 * m.n8)
  nd : m.datas.length ≤ 16 * m.n8
  nf : m.fields.length ≤ 16 * m.n8
  nb : 64 * m.n8 ≤ m.b.length
  small : m.b.length ≤ 40000
  most : m.c.most ≤ 40000
  hd : 272 ≤ m.b.length
structure AppOk (m0 m : Mk) (d e : Nat) (j : Nat) : Prop where
  fit : m.fit
  c : m.c = m0.c
  n8 : m.n8 = m0.n8
  chains : chainsOk m (16 * m0.n8 + j)
  nd : m.datas.length ≤ m0.datas.length + d
  nf : m.fields.length ≤ m0.fields.length + d
  ge : m0.b.length ≤ m.b.length
  le : m.b.length ≤ m0.b.length + e
theorem app_start {m : Mk} (h : MkOk m) : AppOk m m 0 0 0 := ⟨h.fit, rfl, rfl, h.chains, Nat.le_refl _, Nat.le_refl _, Nat.le_refl _, Nat.le_refl _⟩
theorem data_text {m : Mk} {x : Pr} (y : Known) (h : y ∈ (m.data x).2.datas) : y ∈ m.datas ∨ y.text = payload x := by
  unfold Mk.data at h
  split at h
  · exact .inl h
  · simp only at h
    have h2 := object_same m (putDataF { hash := hashN m.c.keyed m.c.file (payload x), nextHash := 0, nextField := 0, entry := 0, array := 0, count := 0, payload := payload x })
    generalize m.object (putDataF { hash := hashN m.c.keyed m.c.file (payload x), nextHash := 0, nextField := 0, entry := 0, array := 0, count := 0, payload := payload x }) = r at *
    obtain ⟨p, m1⟩ := r
    simp only at h h2
    have h5 := hang_same m1 m1.datas (m1.num 2) p (hashN m.c.keyed m.c.file (payload x) % m1.c.dataSlots)
    generalize m1.hang m1.datas (m1.num 2) p (hashN m.c.keyed m.c.file (payload x) % m1.c.dataSlots) = r at *
    obtain ⟨n, m2⟩ := r
    simp only at h h5
    generalize hx5 : ({ (m2.setN 19 (max (m2.num 19) n)).setN 15 (((m2.setN 19 (max (m2.num 19) n)).num 15 + 1) % 18446744073709551616) with datas := ((m2.setN 19 (max (m2.num 19) n)).setN 15 (((m2.setN 19 (max (m2.num 19) n)).num 15 + 1) % 18446744073709551616)).datas ++ [({ text := payload x, pos := p, slot := hashN m.c.keyed m.c.file (payload x) % m1.c.dataSlots, count := 0, arrays := [] } : Known)] } : Mk) = m5 at h
    have e5 : m5.datas = m2.datas ++ [({ text := payload x, pos := p, slot := hashN m.c.keyed m.c.file (payload x) % m1.c.dataSlots, count := 0, arrays := [] } : Known)] := by subst hx5; rfl
    clear hx5
    have hf : (m5.field x.name).2.datas = m5.datas := by
      unfold Mk.field
      split
      · rfl
      · simp only
        have g2 := object_same m5 (putFieldF { hash := hashN m5.c.keyed m5.c.file x.name, nextHash := 0, dat := 0, payload := x.name })
        generalize m5.object (putFieldF { hash := hashN m5.c.keyed m5.c.file x.name, nextHash := 0, dat := 0, payload := x.name }) = r at *
        obtain ⟨q, m6⟩ := r
        simp only at g2 ⊢
        have g3 := hang_same m6 m6.fields (m6.num 4) q (hashN m5.c.keyed m5.c.file x.name % m6.c.fieldSlots)
        generalize m6.hang m6.fields (m6.num 4) q (hashN m5.c.keyed m5.c.file x.name % m6.c.fieldSlots) = r at *
        obtain ⟨n7, m7⟩ := r
        simp only at g3 ⊢
        show m7.datas = m5.datas
        rw [g3.2.1, g2.2.1]
    generalize m5.field x.name = r at *
    obtain ⟨k, m6⟩ := r
    simp only at h hf
    have e7 := (put_same m6 (p + 32) (getF m6.b (k + 32 : Nat) 8).1).2.1
    have e8 := (put_same (m6.put (p + 32) (getF m6.b (k + 32 : Nat) 8).1) (k + 32) p).2.1
    rw [e8, e7, hf, e5, List.mem_append, List.mem_singleton, h5.2.1, h2.2.1] at h
    rcases h with h | rfl
    · exact .inl h
    · exact .inr rfl
theorem app_data {m0 m : Mk} {d e j : Nat} {x : Pr} (h : AppOk m0 m d e j) (hx : x.name.length ≤ 64 ∧ x.value.length ≤ 256) : AppOk m0 (m.data x).2 (d + 1) (e + 900) j ∧ (m.data x).1 < (m.data x).2.datas.length ∧ (m.data x).2.main = m.main := by
  have g := data_ok m x h.fit
  have gt := fun y => data_text (m := m) (x := x) y
  have hp := payload_len x
  generalize m.data x = r at *
  obtain ⟨k, m'⟩ := r
  simp only at g gt ⊢
  have hge := g.ge; have hle := g.le; have h1 := h.ge; have h2 := h.le; have h3 := h.nd; have h4 := h.nf; have h5 := g.fl
  have hd : m'.datas.length ≤ m.datas.length + 1 := by
    rcases g.pre with e | ⟨x, e, _⟩ <;> rw [e] <;> simp
  refine ⟨⟨g.fit, g.c.trans h.c, (show m'.h.n.getD 8 0 = m0.n8 from g.n8.trans h.n8), fun y hy => ?_, by omega, by omega, by omega, by omega⟩, g.lt, g.main⟩
  have key : y ∈ m.datas ∨ (y.count = 0 ∧ y.arrays = []) := by
    rcases g.pre with e | ⟨x, e, c0, a0, _⟩
    · rw [e] at hy; exact .inl hy
    · rw [e, List.mem_append, List.mem_singleton] at hy
      rcases hy with hy | rfl
      · exact .inl hy
      · exact .inr ⟨c0, a0⟩
  rcases key with hm | ⟨c0, a0⟩
  · obtain ⟨q1, q2, q3, q4⟩ := h.chains y hm
    exact ⟨chain_mono q1 hge, q2, q3, q4⟩
  · refine ⟨by rw [c0, a0]; exact chain_nil _, fun _ => a0, ?_, by omega⟩
    rcases gt y hy with hm | ht
    · exact (h.chains y hm).2.2.1
    · rw [ht]; omega
theorem app_of {m0 m m' : Mk} {d e e' j j' : Nat} (h : AppOk m0 m d e j) (hc : m'.c = m.c) (h8 : m'.n8 = m.n8) (h2 : m'.h.n.getD 2 0 = m.h.n.getD 2 0) (h4 : m'.h.n.getD 4 0 = m.h.n.getD 4 0) (hd : m'.datas = m.datas) (hf : m'.fields = m.fields)
    (hg : m.b.length ≤ m'.b.length) (hl : m'.b.length ≤ m.b.length + e') (hj : j ≤ j') : AppOk m0 m' d (e + e') j' := by
  have := h.ge; have := h.le
  refine ⟨fit_mono h.fit ⟨by rw [hc], by rw [hc], h2, h4, hg⟩ (fun k hk => .inl (hd ▸ hk)) (fun k hk => .inl (hf ▸ hk)), hc.trans h.c, h8.trans h.n8, fun k hk => ?_, by rw [hd]; exact h.nd, by rw [hf]; exact h.nf, by omega, by omega⟩
  rw [hd] at hk
  obtain ⟨q1, q2, q3, q4⟩ := h.chains k hk
  exact ⟨chain_mono q1 hg, q2, q3, by omega⟩
theorem app_object {m0 m : Mk} {d e j L : Nat} {o : List UInt8} (h : AppOk m0 m d e j) (ho : o.length ≤ L) : AppOk m0 (m.object o).2 d (e + L) j := by
  have g1 := object_spec m o
  have g2 := object_same m o
  have g3 : (m.object o).2.h.n.getD 8 0 = m.h.n.getD 8 0 := by simp only [Mk.object, Mk.setN]; rw [getD_set_ne' (by decide), getD_set_ne' (by decide)]
  exact app_of h g2.1 g3 g1.2.2.2.2.2.2.1 g1.2.2.2.2.2.2.2 g2.2.1 g2.2.2.1 (by rw [g1.2.1]; omega) (by rw [g1.2.1]; omega) (Nat.le_refl _)
theorem app_put {m0 m : Mk} {d e j : Nat} (p v : Nat) (h : AppOk m0 m d e j) : AppOk m0 (m.put p v) d e j :=
  app_of (e' := 0) h rfl rfl rfl rfl rfl rfl (by rw [put_len]; exact Nat.le_refl _) (by rw [put_len]; exact Nat.le_refl _) (Nat.le_refl _)
theorem app_link {m0 m : Mk} {d e j n src item : Nat} {arrays : List Nat} (h : AppOk m0 m d e j) (hc : chainFit m.b.length arrays n) : AppOk m0 (m.link arrays n src item).2.2 d (e + 2100) j := by
  have g := link_ok m arrays n src item hc
  exact app_of h g.c g.n8 g.n2 g.n4 g.datas g.fields g.ge g.le (Nat.le_refl _)
theorem app_set {m0 m : Mk} {d e j i : Nat} {k : Known} (h : AppOk m0 m d e j) (hi : i < m.datas.length) (hp : k.pos = (m.datas.getD i known0).pos) (ht : k.text = (m.datas.getD i known0).text)
    (hk : chainFit m.b.length k.arrays (k.count - 1) ∧ (k.count = 0 → k.arrays = []) ∧ k.count ≤ 16 * m0.n8 + (j + 1)) : AppOk m0 { m with datas := m.datas.set i k } d e (j + 1) := by
  have e0 : m.datas[i]? = some (m.datas.getD i known0) := by simp [List.getD, hi]
  have hm := List.mem_of_getElem? e0
  refine ⟨fit_mono h.fit ⟨rfl, rfl, rfl, rfl, Nat.le_refl _⟩ (fun y hy => ?_) (fun y hy => .inl hy), h.c, h.n8, fun y hy => ?_, by simpa using h.nd, h.nf, h.ge, h.le⟩
  · rcases List.mem_or_eq_of_mem_set hy with hy | rfl
    · exact .inl hy
    · right; have := h.fit.2.2.2.2.2.2.1 _ hm; simp only; omega
  · rcases List.mem_or_eq_of_mem_set hy with hy | rfl
    · obtain ⟨q1, q2, q3, q4⟩ := h.chains y hy; exact ⟨q1, q2, q3, by omega⟩
    · exact ⟨hk.1, hk.2.1, by rw [ht]; exact (h.chains _ hm).2.2.1, hk.2.2⟩
/-- One datum of the entry. -/
def hang1 (e : Nat) (i : Nat) (m : Mk) : Mk :=
  let k := m.datas.getD i known0
  if k.count = 0 then
    let m2 := (m.put (k.pos + 40) e).put (k.pos + 56) 1
    { m2 with datas := m2.datas.set i { k with count := 1 } }
  else
    match m.link k.arrays (k.count - 1) (k.pos + 48) e with
    | (a, _, m1) =>
      let m2 := m1.put (k.pos + 56) (k.count + 1)
      { m2 with datas := m2.datas.set i { k with arrays := a, count := k.count + 1 } }
theorem hangE_cons (e i : Nat) (r : List Nat) (m : Mk) : hangE e (i :: r) m = hangE e r (hang1 e i m) := by
  unfold hang1
  rw [hangE]
  simp only
  split
  · rfl
  · rfl
theorem hang1_ok {m0 m : Mk} {d e j i en : Nat} (h : AppOk m0 m d e j) (hi : i < m.datas.length) : AppOk m0 (hang1 en i m) d (e + 2100) (j + 1) ∧ (hang1 en i m).main = m.main ∧ (hang1 en i m).datas.length = m.datas.length := by
  have e0 : m.datas[i]? = some (m.datas.getD i known0) := by simp [List.getD, hi]
  have hm := List.mem_of_getElem? e0
  obtain ⟨q1, q2, q3, q4⟩ := h.chains _ hm
  unfold hang1
  simp only
  generalize hk : m.datas.getD i known0 = k at *
  split
  · rename_i h0
    have g := app_put (k.pos + 56) 1 (app_put (k.pos + 40) en h)
    have s1 := put_same m (k.pos + 40) en
    have s2 := put_same (m.put (k.pos + 40) en) (k.pos + 56) 1
    have l2 : ((m.put (k.pos + 40) en).put (k.pos + 56) 1).b.length = m.b.length := by rw [put_len, put_len]
    generalize m.put (k.pos + 40) en = m1 at *
    generalize m1.put (k.pos + 56) 1 = m2 at *
    have ed : m2.datas = m.datas := s2.2.1.trans s1.2.1
    have g2 := app_set (i := i) (k := { k with count := 1 }) g (by rw [ed]; exact hi) (by rw [ed, hk]) (by rw [ed, hk]) ⟨by simp only; rw [q2 h0]; exact chain_nil _, fun hh => by simp at hh, by simp only; omega⟩
    refine ⟨⟨g2.fit, g2.c, g2.n8, g2.chains, g2.nd, g2.nf, g2.ge, Nat.le_trans g2.le (by omega)⟩, s2.2.2.2.1.trans s1.2.2.2.1, by simp [ed]⟩
  · rename_i h0
    have g := app_link (src := k.pos + 48) (item := en) h q1
    have gl := link_ok m k.arrays (k.count - 1) (k.pos + 48) en q1
    generalize m.link k.arrays (k.count - 1) (k.pos + 48) en = r at *
    obtain ⟨a, tt, m1⟩ := r
    simp only at g gl ⊢
    have g1 := app_put (k.pos + 56) (k.count + 1) g
    have s2 := put_same m1 (k.pos + 56) (k.count + 1)
    have l2 := put_len m1 (k.pos + 56) (k.count + 1)
    generalize m1.put (k.pos + 56) (k.count + 1) = m2 at *
    have ed : m2.datas = m.datas := s2.2.1.trans gl.datas
    have hc := gl.chain
    rw [show k.count - 1 + 1 = k.count by omega, ← l2] at hc
    have g2 := app_set (i := i) (k := { k with arrays := a, count := k.count + 1 }) g1 (by rw [ed]; exact hi) (by rw [ed, hk]) (by rw [ed, hk]) ⟨hc, fun hh => by simp at hh, by simp only; omega⟩
    exact ⟨g2, s2.2.2.2.1.trans gl.main, by simp [ed]⟩
theorem hangE_ok {m0 : Mk} {d en : Nat} : ∀ (od : List Nat) (m : Mk) (e j : Nat), AppOk m0 m d e j → (∀ i ∈ od, i < m.datas.length) →
    AppOk m0 (hangE en od m) d (e + 2100 * od.length) (j + od.length) ∧ (hangE en od m).main = m.main ∧ (hangE en od m).datas.length = m.datas.length
  | [], m, e, j, h, _ => ⟨h, rfl, rfl⟩
  | i :: r, m, e, j, h, hi => by
    obtain ⟨h1, h2, h3⟩ := hang1_ok (en := en) h (hi i (by simp))
    obtain ⟨g1, g2, g3⟩ := hangE_ok r (hang1 en i m) (e + 2100) (j + 1) h1 fun x hx => by rw [h3]; exact hi x (by simp [hx])
    rw [hangE_cons]
    refine ⟨?_, g2.trans h2, g3.trans h3⟩
    have e1 : e + 2100 * (i :: r).length = e + 2100 + 2100 * r.length := by simp; omega
    have e2 : j + (i :: r).length = j + 1 + r.length := by simp; omega
    rw [e1, e2]; exact g1
/-! the list of fields -/
def BD (q : Pr) : Prop := q.name.length ≤ 64 ∧ q.value.length ≤ 256
theorem shift_bd : ∀ (n j : Nat) (o : List Pr), (∀ q ∈ o, BD q) → ∀ q ∈ shiftF n j o, BD q
  | 0, _, _, h => h
  | n + 1, j, o, h => by
    unfold shiftF
    refine shift_bd n (j - 1) _ fun q hq => ?_
    rcases List.mem_or_eq_of_mem_set hq with hq | rfl
    · exact h q hq
    · rw [List.getD_eq_getElem?_getD]
      cases hg : o[j - 1]? with
      | none => exact ⟨by simp, by simp⟩
      | some y => exact h y (List.mem_of_getElem? hg)
theorem ins_bd {p : Pr} {o : List Pr} (hp : BD p) (h : ∀ q ∈ o, BD q) : ∀ q ∈ insF p o, BD q := by
  unfold insF
  simp only
  split
  · exact h
  · intro q hq
    rcases List.mem_or_eq_of_mem_set hq with hq | rfl
    · refine shift_bd _ _ _ (fun y hy => ?_) q hq
      rcases List.mem_append.1 hy with hy | hy
      · exact h y hy
      · simp at hy; subst hy; exact ⟨by simp, by simp⟩
    · exact hp
theorem goL_bd : ∀ (l o : List Pr), (∀ q ∈ o, BD q) → ∀ (x : List Pr) (c : Nat), goL l o = (x, c) → (∀ q ∈ x, BD q) ∧ x.length ≤ 16
  | [], o, ho, x, c, h => by
    unfold goL at h
    split at h
    · obtain ⟨rfl, _⟩ := Prod.mk.inj h; simp
    · obtain ⟨rfl, _⟩ := Prod.mk.inj h; exact ⟨ho, by omega⟩
  | p :: r, o, ho, x, c, h => by
    unfold goL at h
    split at h
    · obtain ⟨rfl, _⟩ := Prod.mk.inj h; simp
    · rename_i h1
      have hr := joinF_right.1 (Classical.not_not.1 h1)
      simp only [right, Pr.pb, Bool.and_eq_true] at hr
      exact goL_bd r _ (ins_bd ⟨(name_len hr.1).2, of_decide_eq_true hr.2⟩ ho) x c h
theorem listF_bd {l x : List Pr} {c : Nat} (h : listF l = (x, c)) : (∀ q ∈ x, BD q) ∧ x.length ≤ 16 := by
  unfold listF at h
  split at h
  · obtain ⟨rfl, _⟩ := Prod.mk.inj h; simp
  · exact goL_bd l [] (by simp) x c h
/-! the data of a record -/
theorem place_mem {ds : List Known} {k i : Nat} {od : List Nat} (h : i ∈ placeF ds k od) : i = k ∨ i ∈ od := by
  unfold placeF at h
  simp only [List.mem_append, List.mem_singleton] at h
  rcases h with (h | h) | h
  · exact .inr (List.mem_of_mem_take h)
  · exact .inl h
  · exact .inr (List.mem_of_mem_drop h)
theorem backF_le (ds : List Known) (p : Nat) (od : List Nat) : ∀ n, backF ds p od n ≤ n
  | 0 => Nat.le_refl _
  | n + 1 => by
    unfold backF
    split
    · have := backF_le ds p od n; omega
    · exact Nat.le_refl _
theorem place_len (ds : List Known) (k : Nat) (od : List Nat) : (placeF ds k od).length = od.length + 1 := by
  have := backF_le ds (posAt ds k) od od.length
  unfold placeF; simp; omega
structure DatasOk (m0 m : Mk) (ps : List (List UInt8)) (od : List Nat) (n : Nat) : Prop where
  app : AppOk m0 m n (900 * n) 0
  main : m.main = m0.main
  idx : ∀ i ∈ od, i < m.datas.length
  len : od.length = n ∧ ps.length = n
  ps : ∀ t ∈ ps, t.length ≤ 400
theorem datas_step {m0 m : Mk} {ps : List (List UInt8)} {od : List Nat} {n : Nat} {x : Pr} (h : DatasOk m0 m ps od n) (hx : BD x) :
    DatasOk m0 (m.data x).2 (ps ++ [((m.data x).2.datas.getD (m.data x).1 known0).text]) (placeF (m.data x).2.datas (m.data x).1 od) (n + 1) := by
  obtain ⟨g1, g2, g3⟩ := app_data h.app hx
  have hg := data_ok m x h.app.fit
  refine ⟨by rw [show 900 * (n + 1) = 900 * n + 900 by omega]; exact g1, g3.trans h.main, fun i hi => ?_, ⟨by rw [place_len, h.len.1], by simpa using h.len.2⟩, fun t ht => ?_⟩
  · rcases place_mem hi with rfl | hi
    · exact g2
    · have := h.idx i hi
      have hd : m.datas.length ≤ (m.data x).2.datas.length := by
        rcases hg.pre with e | ⟨y, e, _⟩ <;> rw [e] <;> simp
      omega
  · rcases List.mem_append.1 ht with ht | ht
    · exact h.ps t ht
    · simp at ht
      subst ht
      have e0 : (m.data x).2.datas[(m.data x).1]? = some ((m.data x).2.datas.getD (m.data x).1 known0) := by simp [List.getD, g2]
      exact (g1.chains _ (List.mem_of_getElem? e0)).2.2.1
theorem datasL_ok {m0 : Mk} : ∀ (l : List Pr) (m : Mk) (ps : List (List UInt8)) (od : List Nat) (n : Nat), DatasOk m0 m ps od n → (∀ q ∈ l, BD q) →
    DatasOk m0 (datasL l m ps od).2.2 (datasL l m ps od).1 (datasL l m ps od).2.1 (n + l.length)
  | [], m, ps, od, n, h, _ => h
  | x :: r, m, ps, od, n, h, hb => by
    have h1 := datas_step h (hb x (by simp))
    have h2 := datasL_ok r _ _ _ _ h1 fun q hq => hb q (by simp [hq])
    rw [show n + (x :: r).length = n + 1 + r.length by simp; omega]
    exact h2
theorem datas_start {m : Mk} (h : MkOk m) : DatasOk m m [] [] 0 := ⟨app_start h, rfl, by simp, ⟨rfl, rfl⟩, by simp⟩
end Go.Wk
namespace Go.Wk
open Go Go.RowKit
section
variable {P : Program} {ops : Array Oper} {md : Region.Mode} {C : World → Prop} {Q : Exit → Act → World → Prop} {QN : Act → World → Prop}
variable {n : Nat} {A : Fr n} {D : List Deferred} {l : List (Nat × Value)} {w : World} {f : Nat} {listed : Array Bool}
theorem c_anyR {R : Act → World → Prop} {id : Nat} {lo : List Oper} {a : Act} (C : World → Prop) (hm : P.follows .mixedOrders = true) (hk : ∀ a' w', R a' w' → Q .normal a' w')
    (h : ∀ w', Md [] w w' → wpAnyC P .any lo.toArray C R lo.length (Array.replicate lo.length false) a w') : (Code.region id lo.toArray true).wp P Q a w := by
  refine wp_region_any hm (wpAny_of_C (C := C) (QN := R) hk _ _ _ _ ?_)
  have := h _ (Md.drew w)
  simpa using this
theorem any_0 {a : Act} (hr : (Region.ready md ops listed).isEmpty = true) (h : QN a w) : wpAnyC P md ops C QN 0 listed a w := ⟨by simpa using hr, h⟩
theorem any_q {i d : Nat} {op : Op} {ty : TypeId} {ps : String} {af : Array Edge} (v : Value) (hi : ops[i]? = some ⟨some d, op, ty, ps, af, none⟩) (hs : Region.noSelect ops = true) (hB : ((Region.ready md ops listed).contains i && Region.free md ops listed i) = true) (hC : C w)
    (hv : ∀ w', C w' → RunV P ⟨some d, op, ty, ps, af, none⟩ (over A D l).eval w' v) (k : wpAnyC P md ops C QN f (listed.setIfInBounds i true) (over A D ((d, v) :: l)) w) : wpAnyC P md ops C QN (f + 1) listed (over A D l) w := by
  simp only [Bool.and_eq_true] at hB
  exact wpAnyC_first hi (Region.noSelect_spec hs) f listed _ w (Region.free_spec hi hB.2) (by simpa using hB.1) hC (.inl ⟨by simp [Region.wanted], fun w' hc => hv w' hc⟩) k
theorem opC_of {i : Nat} {o : Oper} {a : Act} {K : Act → World → Prop} (hi : ops[i]? = some o) (hg : o.guard = none) (h : wpList P ops (fun e a' w' => e = .normal ∧ C w' ∧ K a' w') [o] a w) : opC P ops C i K a w := by
  have hw : Region.wanted o (yielded ops a.tmps) = true := by unfold Region.wanted; rw [hg]
  unfold opC
  simp only [hi]
  rw [if_pos hw]
  unfold wpList at h
  rw [if_pos hw] at h
  rcases h with h | h
  · unfold Oper.wp at *
    generalize (execOp a.eval o).run P w = r at *
    cases r with
    | ok x w' =>
      cases x <;> simp only [Oper.upon] at h ⊢
      case value v => exact (show _ ∧ _ from h).2
      case skip => exact (show _ ∧ _ from h).2
      case defer d => exact (show _ ∧ _ from h).2
      case enter f args =>
        refine h.mono fun e w'' hx => ?_
        cases e with
        | returned v => exact (show _ ∧ _ from hx).2
        | panicked c => exact absurd hx.1 (by simp)
        | outgrown => obtain ⟨_, _, hx⟩ := hx; exact absurd hx.1 (by simp)
      case row r args => exact h.mono fun v w'' hx => (show _ ∧ _ from hx).2
    | halt x w' =>
      cases x <;> simp only [Oper.upon] at h ⊢
      exact absurd h.1 (by simp)
  · obtain ⟨_, _, _, hx⟩ := h; exact absurd hx.1 (by simp)
theorem any_1 {i : Nat} {o : Oper} {a : Act} (hr : decide (Region.ready md ops listed = [i]) = true) (hi : ops[i]? = some o) (hg : o.guard = none)
    (h : wpList P ops (fun e a' w' => e = .normal ∧ C w' ∧ wpAnyC P md ops C QN f (listed.setIfInBounds i true) a' w') [o] a w) : wpAnyC P md ops C QN (f + 1) listed a w := by
  have hr := of_decide_eq_true hr
  refine ⟨fun h3 => (by rw [hr] at h3; cases h3), fun k hk => ?_⟩
  rw [hr] at hk
  have : k = i := by simpa using hk
  subst this
  exact opC_of hi hg h
theorem any_2 {i j : Nat} {o o' : Oper} {a : Act} (hr : decide (Region.ready md ops listed = [i, j]) = true) (hi : ops[i]? = some o) (hg : o.guard = none) (hj : ops[j]? = some o') (hg' : o'.guard = none)
    (h : wpList P ops (fun e a' w' => e = .normal ∧ C w' ∧ wpAnyC P md ops C QN f (listed.setIfInBounds i true) a' w') [o] a w)
    (h' : wpList P ops (fun e a' w' => e = .normal ∧ C w' ∧ wpAnyC P md ops C QN f (listed.setIfInBounds j true) a' w') [o'] a w) : wpAnyC P md ops C QN (f + 1) listed a w := by
  have hr := of_decide_eq_true hr
  refine ⟨fun h3 => (by rw [hr] at h3; cases h3), fun k hk => ?_⟩
  rw [hr] at hk
  have : k = i ∨ k = j := by simpa using hk
  rcases this with rfl | rfl
  · exact opC_of hi hg h
  · exact opC_of hj hg' h'
end
/-! a row that is made anew in a region of left-open order -/
theorem els_any {β : Type} {f : β → Value} {h1 : ∀ x, (f x).oneCell' = true} {ok : β → Prop} {w w' : World} {R R' : Nat → Prop} : ∀ {xs : List β} {cs : List Value}, Els (tOne f h1 ok) w R cs xs → Els (tOne f h1 ok) w' R' cs xs
  | [], _, h => h
  | _ :: _, _, ⟨c, r, h0, h1, h2⟩ => ⟨c, r, h0, h1, els_any h2⟩
theorem lz_any {β : Type} {f : β → Value} {h1 : ∀ x, (f x).oneCell' = true} {ok : β → Prop} {w w' : World} {R R' : Nat → Prop} {v : Value} {xs : List β} (h : Lz (tOne f h1 ok) w R v xs) (m : Md [] w w') : Lz (tOne f h1 ok) w' R' v xs := by
  obtain ⟨a, cap, cs, h0, h1, h2, h3, h4, h5⟩ := h
  exact ⟨a, cap, cs, h0, h1, h2, h3, fun p hp j u hj => m.cell (h4 p hp j u hj) (by simp), els_any h5⟩
theorem lz_one {β : Type} {f : β → Value} {h1 : ∀ x, (f x).oneCell' = true} {ok : β → Prop} {w : World} {R : Nat → Prop} {b e : Nat} {x : β} (h : Blk w b [f x] e) (hx : ok x) : Lz (tOne f h1 ok) w R (.slice (some ⟨b, 0, none⟩) 1 1) [x] := by
  have h2 : Ls (tOne f h1 ok) w (fun _ => True) (.slice (some ⟨b, 0, none⟩) 1 1) [x] := Ls.of_blk (cs := [f x]) h ⟨[f x], [], rfl, ⟨rfl, hx⟩, rfl⟩ rfl (by decide) trivial
  exact lz_any h2.lz (Md.refl _ _)
/-- A row of the run's own that is newer than a world. -/
structure New1 {α : Type} (T : Dt α) (w0 : World) (Q0 : Nat → Prop) (e : TypeId) (w : World) (R : Nat → Prop) (v : Value) (xs : List α) : Prop where
  md : Md [] w0 w
  s : ∀ b, Q0 b → b < w0.heap.size → R b
  t : ∀ b, R b → Q0 b
  up : Up w R
  ow : Ow T e (Fsh [] w0) w R v xs
section
variable {α : Type} {T : Dt α} {P : Program} {ops : Array Oper} {Q : Exit → Act → World → Prop} {n : Nat} {A : Fr n} {D : List Deferred} {l : List (Nat × Value)} {w : World} {rest : List Oper}
theorem New1.mk0 {w0 w1 w : World} {Q0 : Nat → Prop} {e b : Nat} (uQ : Up w0 Q0) (h1 : Md [] w0 w1) (h2 : w1.heap.size ≤ b) (h3 : b < w.heap.size) (hm : Md [] w1 w) (hB : Blk w b [] e) :
    ∃ R, New1 T w0 Q0 e w R (.slice (some ⟨b, 0, none⟩) 0 0) [] := by
  obtain ⟨R, s, t, nb, u⟩ := exQ (uQ.md h1) h2 h3 hm
  exact ⟨R, h1.step0 hm, fun b hb hl => s b hb (Nat.lt_of_lt_of_le hl h1.size), t, u, Ow.of_blk hB rfl rfl (by decide) (.inr (Nat.le_trans h1.size h2)) nb⟩
theorem New1.md0 {w0 w w' : World} {Q0 R : Nat → Prop} {e : TypeId} {v : Value} {xs : List α} (h : New1 T w0 Q0 e w R v xs) (m : Md [] w w') : New1 T w0 Q0 e w' R v xs :=
  ⟨h.md.step0 m, h.s, h.t, h.up.md m, h.ow.md0 m⟩
theorem st_apF {d : Nat} {x y : Operand} {ty : TypeId} {ps : String} {af : Array Edge} {t e : TypeId} {sz by' : Nat} {v u : Value} {xs ys : List α} {w0 : World} {Q0 R : Nat → Prop} (hn : T.n = sz) (ht : P.underlying t = some (.slice e)) (hE : elT P e sz by' = true) (hx : ev n l x = some v) (hy : ev n l y = some u)
    (F : New1 T w0 Q0 e w R v xs) (hY : Lz T w R u ys) (h63 : xs.length + ys.length ≤ 100000) (hb : by' ≤ 1000)
    (k : ∀ v' w' R', New1 T w0 Q0 e w' R' v' (xs ++ ys) → Md (vblock v).toList w w' → wpList P ops Q rest (over A D ((d, v') :: l)) w') :
    wpList P ops Q (⟨some d, .call { callee := .builtin .append, args := #[x, y], argTypes := #[t, t] }, ty, ps, af, none⟩ :: rest) (over A D l) w := by
  refine st_apZ hn ht hE hx hy F.ow hY F.up (fun b hb => .inr (Nat.le_trans F.md.size hb)) (by omega) ?_ ?_
  · exact Nat.le_trans (Nat.mul_le_mul h63 hb) (by decide)
  · intro v' w' R' h1 h2 h3 h4 h5 h6 h7 h8
    refine k v' w' R' ⟨F.md.stepO h5 fun b hb => (F.ow.2 b hb).1, fun b hb hl => h1 b (F.s b hb hl) (Nat.lt_of_lt_of_le hl F.md.size), fun b hb => F.t b (h2 b hb), h3, h4⟩ h5
end
/-! slots of a frame -/
/-! Append's own steps -/
theorem back1 {ds : List Known} {p q : Nat} {od : List Nat} (h : 0 < q) : backF ds p od q = if p < posAt ds (od.getD (q - 1) 0) then backF ds p od (q - 1) else q := by
  obtain ⟨n, rfl⟩ : ∃ n, q = n + 1 := ⟨q - 1, by omega⟩
  rfl
theorem back0 {ds : List Known} {p q : Nat} {od : List Nat} (h : ¬ 0 < q) : backF ds p od q = q := by
  obtain rfl : q = 0 := by omega
  rfl
theorem posAt_get {ds : List Known} {i : Nat} {x : Known} (h : ds[i]? = some x) : posAt ds i = x.pos := by simp [posAt, List.getD, h]
theorem natD_get {l : List Nat} {i x : Nat} (h : l[i]? = some x) : l.getD i 0 = x := by simp [List.getD, h]
theorem known_get {ds : List Known} {i : Nat} {x : Known} (h : ds[i]? = some x) : ds.getD i known0 = x := by simp [List.getD, h]
theorem data_mono (m : Mk) (x : Pr) (h : m.fit) : m.datas.length ≤ (m.data x).2.datas.length := by
  rcases (data_ok m x h).pre with e | ⟨y, e, _⟩ <;> rw [e] <;> simp
theorem datasL_end {l : List Pr} {m : Mk} {ps : List (List UInt8)} {od : List Nat} {i : Nat} (h : ¬ i < l.length) : datasL (l.drop i) m ps od = (ps, od, m) := by rw [drop_end (by omega)]; rfl
theorem datasL_step {l : List Pr} {m m' : Mk} {ps : List (List UInt8)} {od : List Nat} {i k : Nat} {x : Pr} {y : Known} {q : Nat} (h : l[i]? = some x) (hd : m.data x = (k, m')) (hy : m'.datas[k]? = some y) (hq : backF m'.datas (posAt m'.datas k) od od.length = q) :
    datasL (l.drop i) m ps od = datasL (l.drop (i + 1)) m' (ps ++ [y.text]) (od.take q ++ [k] ++ od.drop q) := by
  rw [drop_get h]
  show (match m.data x with | (k, m1) => datasL (l.drop (i + 1)) m1 (ps ++ [(m1.datas.getD k known0).text]) (placeF m1.datas k od)) = _
  rw [hd]
  simp only [known_get hy]
  unfold placeF
  rw [hq]
theorem datas_next {m0 m m' : Mk} {ps : List (List UInt8)} {od : List Nat} {n k q : Nat} {x : Pr} {y : Known} (h : DatasOk m0 m ps od n) (hx : BD x) (hd : m.data x = (k, m')) (hy : m'.datas[k]? = some y) (hq : backF m'.datas (posAt m'.datas k) od od.length = q) :
    DatasOk m0 m' (ps ++ [y.text]) (od.take q ++ [k] ++ od.drop q) (n + 1) := by
  have := datas_step h hx
  rw [hd] at this
  simp only [known_get hy] at this
  unfold placeF at this
  rw [hq] at this
  exact this
theorem itemsL_end {m : Mk} {od : List Nat} {j : Nat} {its : List Itm} (h : ¬ j < od.length) : its ++ itemsL m (od.drop j) = its := by rw [drop_end (by omega)]; simp [itemsL]
theorem itemsL_step {m : Mk} {od : List Nat} {j i : Nat} {its : List Itm} {x : Known} (h : od[j]? = some i) (hx : m.datas[i]? = some x) :
    its ++ itemsL m (od.drop j) = (its ++ [{ pos := x.pos, hash := hashN m.c.keyed m.c.file x.text }]) ++ itemsL m (od.drop (j + 1)) := by
  rw [drop_get h]
  simp only [itemsL, List.map_cons, posAt_get hx, known_get hx, List.append_assoc, List.singleton_append]
theorem hangE_end {m : Mk} {od : List Nat} {j e : Nat} (h : ¬ j < od.length) : hangE e (od.drop j) m = m := by rw [drop_end (by omega)]; rfl
theorem hangE_step {m : Mk} {od : List Nat} {j i e : Nat} (h : od[j]? = some i) : hangE e (od.drop j) m = hangE e (od.drop (j + 1)) (hang1 e i m) := by rw [drop_get h, hangE_cons]
theorem app_le {m0 m : Mk} {d e e' j : Nat} (h : AppOk m0 m d e j) (he : e ≤ e') : AppOk m0 m d e' j := ⟨h.fit, h.c, h.n8, h.chains, h.nd, h.nf, h.ge, Nat.le_trans h.le (by omega)⟩
theorem hang1_a {m : Mk} {e i : Nat} {k : Known} (hk : m.datas[i]? = some k) (h0 : k.count = 0) :
    hang1 e i m = { (m.put (k.pos + 40) e).put (k.pos + 56) 1 with datas := m.datas.set i { k with count := 1 } } := by
  unfold hang1
  simp only [known_get hk]
  rw [if_pos h0]
  rfl
theorem hang1_b {m m1 : Mk} {e i t : Nat} {a : List Nat} {k : Known} (hk : m.datas[i]? = some k) (h0 : ¬ k.count = 0) (hl : m.link k.arrays (k.count - 1) (k.pos + 48) e = (a, t, m1)) :
    hang1 e i m = { m1.put (k.pos + 56) (k.count + 1) with datas := m1.datas.set i { k with arrays := a, count := k.count + 1 } } := by
  unfold hang1
  simp only [known_get hk]
  rw [if_neg h0, hl]
  rfl
theorem append_done {m x m2 m3 z : Mk} {raw l : List Pr} {c real mono e t : Nat} {boot : List UInt8} {ps : List (List UInt8)} {od a : List Nat} (h1 : listF raw = (l, c)) (h2 : ¬ c ≠ 0) (h3 : ¬ m.num 9 = 18446744073709551615) (h4 : datasL l m [] [] = (ps, od, x))
    (h5 : x.object (putEntryF { seq := (x.num 9 + 1) % 18446744073709551616, real := real, mono := mono, boot := boot, xor := xorF 0 ps, items := itemsL x od }) = (e, m2)) (h6 : m2.link m2.main (m2.num 8) 176 e = (a, t, m3))
    (h7 : hangE e od (let m4 := ({ m3 with main := a } : Mk).setN 11 (a.getD 0 0); { m4 with h := { m4.h with tailArray := lastN a % 4294967296, tailItems := t % 4294967296 } }) = z) :
    m.append raw real mono boot = if z.c.most < z.b.length then (0, 15, m) else
      (let seq := (x.num 9 + 1) % 18446744073709551616
      let m7 := if m2.num 8 = 0 then (z.setN 10 seq).setN 12 real else z
      let m8 := m7.setN 8 ((m7.num 8 + 1) % 18446744073709551616)
      let m9 := ((m8.setN 9 seq).setN 13 real).setN 14 mono
      (seq, 0, { m9 with h := { m9.h with boot := boot, tailEntry := e } })) := by
  unfold Mk.append
  simp only [h1]
  rw [if_neg h2, if_neg h3]
  simp only [h4, h5, h6]
  simp only at h7
  rw [h7]
end Go.Wk
namespace Go.Wk
open Go Go.Op

end Go.Wk
namespace Go.Wk
open Go Go.RowKit
section
variable {P : Program} {n : Nat} {A : Fr n} {D : List Deferred} {l : List (Nat × Value)} {w : World} {d : Option Tmp} {ty : TypeId} {ps : String} {af : Array Edge} {g : Option (Nat × Bool)}
end
end Go.Wk
namespace Go.Wk
open Go Go.RowKit

/-! ### Worlds that draw and grow -/
section
variable {P : Program} {ops : Array Oper} {Q : Exit → Act → World → Prop} {rest : List Oper}
variable {n : Nat} {A : Fr n} {D : List Deferred} {l : List (Nat × Value)} {w : World}
variable {d : Tmp} {op : Op} {ty : TypeId} {ps : String} {af : Array Edge} {g : Option (Nat × Bool)}
/-! ### A row that is cleared -/
end

section
variable {P : Program} {n : Nat} {A : Fr n} {D : List Deferred} {l : List (Nat × Value)} {w : World} {d : Option Tmp} {ty : TypeId} {ps : String} {af : Array Edge} {g : Option (Nat × Bool)}
theorem r_eqlSN {x : Operand} {t u e : TypeId} {a : Option Addr} {m c : Nat} (hx : ev n l x = some (.slice a m c)) (hT : P.underlying t = some (.slice e)) :
    RunV P ⟨d, .binOp .eql t x (.const (.slice none 0 0)) u, ty, ps, af, g⟩ (over A D l).eval w (.bool a.isNone) := by
  have h := Go.Lib.run_eql_slice_nil (P := P) w t e a m c 0 0 hT
  have hc : (over A D l).eval (.const (.slice none 0 0)) = .slice none 0 0 := rfl
  have hg : (eqGuard .eql t x (.const (.slice none 0 0)) (.slice a m c) (.slice none 0 0)).run P w = .ok () w := by unfold eqGuard; simp
  simp [RunV, execOp, ev_eval hx, hc, hg, h]
end

/-! ### A row of pairs in a block -/
section
variable {w w' : World} {b cap : Nat} {xs : List Pr}
end

/-! ### What is twice is once -/
end Go.Wk
namespace Go.Wk
open Go Go.RowKit
theorem shl_or {v : Nat} {x : UInt8} (h : v < 72057594037927936) : v * 2 ^ 8 % 18446744073709551616 ||| x.toNat = x.toNat + 256 * v := by
  have hx := UInt8.toNat_lt x
  rw [Nat.mod_eq_of_lt (by omega), Nat.mul_comm, ← Nat.two_pow_add_eq_or_of_lt (by simpa using hx)]
  omega
theorem getF_at {l : List UInt8} {a k : Nat} (hk : k = 4 ∨ k = 8) (h : a + k ≤ l.length) : getF l a k = (leN ((l.drop a).take k), true) := by
  unfold getF
  rw [if_pos ⟨by rw [sizeOk_iff]; omega, by omega, by omega⟩]; simp
def at4 (l : List UInt8) (a : Nat) : Nat := leN ((l.drop a).take 4)
def at8 (l : List UInt8) (a : Nat) : Nat := leN ((l.drop a).take 8)
theorem at4_lt (l : List UInt8) (a : Nat) : at4 l a < 4294967296 := leN_lt_of (k := 4) (by simp; omega)
theorem at8_lt (l : List UInt8) (a : Nat) : at8 l a < 18446744073709551616 := leN_lt_of (k := 8) (by simp; omega)
section
variable {P : Program} {ops : Array Oper} {Q : Exit → Act → World → Prop} {rest : List Oper}
variable {n : Nat} {A : Fr n} {D : List Deferred} {l : List (Nat × Value)} {w : World}
variable {d : Tmp} {op : Op} {ty : TypeId} {ps : String} {af : Array Edge} {g : Option (Nat × Bool)}
/-- A call of a function value that is bound to some values. -/
theorem st_callV {f : FuncId} {c : Operand} {xs : List Operand} {ts : Array TypeId} {vs cs : List Value} {R : Ending → World → Prop} (hc : ev n l c = some (.func (.func f) #[] cs.toArray)) (hf : isFn P f = true) (ha : evs n l xs = some vs) (hr : Calls P f (vs ++ cs).toArray w R)
    (k : ∀ e w', R e w' → ∃ v, e = .returned v ∧ wpList P ops Q rest (over A D ((d, v) :: l)) w') :
    wpList P ops Q (⟨some d, .call { callee := .value c, args := xs.toArray, argTypes := ts }, ty, ps, af, none⟩ :: rest) (over A D l) w := by
  refine wl_plain rfl ?_
  unfold Oper.wp
  have he := evs_eval (A := A) (D := D) ha
  have h0 : (execOp (over A D l).eval ⟨some d, .call { callee := .value c, args := xs.toArray, argTypes := ts }, ty, ps, af, none⟩).run P w = .ok (.enter f (vs ++ cs).toArray) w := by
    simp only [execOp, resolve, ev_eval hc, Deferred.ofValue, List.map_toArray, he]
    simp [invoke, run_callFunc hf]
  rw [h0]
  refine hr.mono fun e w' hR => ?_
  obtain ⟨v, rfl, hk⟩ := k e w' hR
  exact hk
theorem r_makeFunc {f : FuncId} {x : Operand} {v : Value} {d' : Option Tmp} (hx : ev n l x = some v) :
    RunV P ⟨d', .makeFunc (.func f) #[] #[x], ty, ps, af, g⟩ (over A D l).eval w (.func (.func f) #[] #[v]) := by
  simp [RunV, execOp, ev_eval hx, Instr.makeFunc]
end

/-! ### The head's bytes -/
def z16 : List UInt8 := List.replicate 16 0
/-- The head while it is read: k names, j numbers of eight bytes. -/
def headUp (b : List UInt8) (c i k j : Nat) : PHead :=
  { compat := c, incompat := i, state := (b.getD 16 0).toNat, file := if 0 < k then (b.drop 24).take 16 else z16, machine := if 1 < k then (b.drop 40).take 16 else z16, boot := if 2 < k then (b.drop 56).take 16 else z16, seq := if 3 < k then (b.drop 72).take 16 else z16,
    n := (List.range 21).map fun q => if q < j then at8 b (88 + 8 * q) else 0, tailArray := 0, tailItems := 0, tailEntry := 0 }
def parseF (b : List UInt8) : PHead := { headUp b (at4 b 8) (at4 b 12) 4 21 with tailArray := at4 b 256, tailItems := at4 b 260, tailEntry := at8 b 264 }
theorem take16 {b : List UInt8} {o : Nat} (h : o + 16 ≤ b.length) : ((b.drop o).take 16).length = 16 := by simp; omega
theorem idc_splice {x : List UInt8} (h : x.length = 16) (a c : List Value) (z : List UInt8) : splice (a ++ (idc z ++ c)) a.length (x.map b8) = a ++ (idc x ++ c) := by
  unfold splice
  have hz : (idc z).length = 16 := rfl
  have hl : (x.map b8).length = 16 := by simp [h]
  rw [List.take_left, hl, ← List.append_assoc a, List.drop_left' (by simp [hz]), ← idc_map h, List.append_assoc]
theorem ids_step {b : List UInt8} {c i k : Nat} (hk : k < 4) (hl : 272 ≤ b.length) : splice (PHead.cells (headUp b c i k 0)) (3 + k * 16) (((b.drop (24 + 16 * k)).take 16).map b8) = PHead.cells (headUp b c i (k + 1) 0) := by
  have hx : ((b.drop (24 + 16 * k)).take 16).length = 16 := take16 (by omega)
  rcases (show k = 0 ∨ k = 1 ∨ k = 2 ∨ k = 3 by omega) with rfl | rfl | rfl | rfl
  · exact idc_splice hx [.int .u32 ((c : Nat) : Int), .int .u32 ((i : Nat) : Int), .int .i64 (((b.getD 16 0).toNat : Nat) : Int)] _ z16
  · exact idc_splice hx ([.int .u32 ((c : Nat) : Int), .int .u32 ((i : Nat) : Int), .int .i64 (((b.getD 16 0).toNat : Nat) : Int)] ++ idc ((b.drop 24).take 16)) _ z16
  · exact idc_splice hx ([.int .u32 ((c : Nat) : Int), .int .u32 ((i : Nat) : Int), .int .i64 (((b.getD 16 0).toNat : Nat) : Int)] ++ idc ((b.drop 24).take 16) ++ idc ((b.drop 40).take 16)) _ z16
  · exact idc_splice hx ([.int .u32 ((c : Nat) : Int), .int .u32 ((i : Nat) : Int), .int .i64 (((b.getD 16 0).toNat : Nat) : Int)] ++ idc ((b.drop 24).take 16) ++ idc ((b.drop 40).take 16) ++ idc ((b.drop 56).take 16)) _ z16
theorem head_set {h : PHead} {j v : Nat} (hn : h.n.length = 21) (hj : j < 21) : (PHead.cells h).set (67 + j) (.int .u64 ((v : Nat) : Int)) = PHead.cells { h with n := h.n.set j v } := by
  have e : ∀ (m : List Nat) (t : PHead), t.n = m → PHead.cells t = ([(.int .u32 ((t.compat : Nat) : Int))] ++ ([(.int .u32 ((t.incompat : Nat) : Int))] ++ ([(.int .i64 ((t.state : Nat) : Int))] ++ ((idc t.file) ++ ((idc t.machine) ++ ((idc t.boot) ++ (idc t.seq))))))) ++ (nums21 m ++ ([(.int .u32 ((t.tailArray : Nat) : Int))] ++ ([(.int .u32 ((t.tailItems : Nat) : Int))] ++ [(.int .u64 ((t.tailEntry : Nat) : Int))]))) := by
    intro m t ht; subst ht; simp only [PHead.cells, List.append_assoc]
  rw [e h.n h rfl, e (h.n.set j v) { h with n := h.n.set j v } rfl, nums21_set hn hj]
  have hl : ([(.int .u32 ((h.compat : Nat) : Int))] ++ ([(.int .u32 ((h.incompat : Nat) : Int))] ++ ([(.int .i64 ((h.state : Nat) : Int))] ++ ((idc h.file) ++ ((idc h.machine) ++ ((idc h.boot) ++ (idc h.seq)))))) : List Value).length = 67 := rfl
  have h21 : (nums21 h.n).length = 21 := rfl
  rw [List.set_append_right _ _ (by omega), hl, Nat.add_sub_cancel_left, List.set_append_left _ _ (by omega)]
theorem n_step {b : List UInt8} {j : Nat} (hj : j < 21) : ((List.range 21).map fun q => if q < j then at8 b (88 + 8 * q) else 0).set j (at8 b (88 + 8 * j)) = (List.range 21).map fun q => if q < j + 1 then at8 b (88 + 8 * q) else 0 := by
  apply List.ext_getElem
  · simp
  · intro q h1 h2
    simp at h1
    by_cases h : q = j
    · subst h; simp
    · rw [List.getElem_set_ne (Ne.symm h)]
      simp only [List.getElem_map, List.getElem_range]
      by_cases h3 : q < j
      · rw [if_pos h3, if_pos (by omega)]
      · rw [if_neg h3, if_neg (by omega)]
theorem long_step {b : List UInt8} {c i j : Nat} (hj : j < 21) : (PHead.cells (headUp b c i 4 j)).set (67 + j) (.int .u64 ((at8 b (88 + 8 * j) : Nat) : Int)) = PHead.cells (headUp b c i 4 (j + 1)) := by
  rw [head_set (by simp [headUp]) hj]
  unfold headUp
  simp only [n_step hj]
theorem parse_ok {b : List UInt8} (h : 272 ≤ b.length) : PHead.ok (parseF b) := by
  refine ⟨at4_lt _ _, at4_lt _ _, ?_, take16 (by omega), take16 (by omega), take16 (by omega), take16 (by omega), ⟨by simp [parseF, headUp], ?_⟩, at4_lt _ _, at4_lt _ _, at8_lt _ _⟩
  · have := UInt8.toNat_lt (b.getD 16 0); show (b.getD 16 0).toNat < _; omega
  · intro y hy
    simp only [parseF, headUp, List.mem_map, List.mem_range] at hy
    obtain ⟨q, hq, rfl⟩ := hy
    rw [if_pos hq]; exact at8_lt _ _
def ptrs (b o sz : Nat) (n : Nat) : List Value := (List.range n).map fun k => .pointer (some ⟨b, o + k * sz, none⟩)
theorem ptrs_get {b o sz n k : Nat} (h : k < n) : (ptrs b o sz n)[k]? = some (.pointer (some ⟨b, o + k * sz, none⟩)) := by
  simp [ptrs, h]
end Go.Wk
namespace Go.Wk
open Go Go.RowKit
/-- a &^ b of numbers of 32 bits. -/
def andNot (a b : Nat) : Nat := (BitVec.ofNat 32 a &&& ~~~(BitVec.ofNat 32 b)).toNat
section
variable {P : Program} {n : Nat} {A : Fr n} {D : List Deferred} {l : List (Nat × Value)} {w : World} {d : Option Tmp} {ty : TypeId} {ps : String} {af : Array Edge} {g : Option (Nat × Bool)}
theorem r_andNotN {x y : Operand} {t u : TypeId} {a b : Nat} (L : Nat) (hL : lim .u32 = L) (hk : IntKind.u32.signed = false) (hx : ev n l x = some (.int .u32 (a : Int))) (hy : ev n l y = some (.int .u32 (b : Int))) (h : a < L ∧ b < L) :
    RunV P ⟨d, .binOp .andNot t x y u, ty, ps, af, g⟩ (over A D l).eval w (.int .u32 ((andNot a b : Nat) : Int)) := (r_andNot hx hy).castI (by
  unfold bits andNot
  simp only [BitVec.ofInt_natCast]
  exact wrapN .u32 _ (show (BitVec.ofNat 32 a &&& ~~~(BitVec.ofNat 32 b)).toNat < 4294967296 from (BitVec.ofNat 32 a &&& ~~~(BitVec.ofNat 32 b)).isLt))
end
def hz0 : PHead := { compat := 0, incompat := 0, state := 0, file := idZ, machine := idZ, boot := idZ, seq := idZ, n := List.replicate 21 0, tailArray := 0, tailItems := 0, tailEntry := 0 }
def signF : List UInt8 := [76, 80, 75, 83, 72, 72, 82, 72]
def prefF (b p : List UInt8) : Bool := if p.length ≤ b.length then decide (b.take p.length = p) else false
def endF (h : PHead) : Nat × Bool := if (h.n.getD 0 0 + h.n.getD 1 0) % 18446744073709551616 < h.n.getD 0 0 then (0, false) else ((h.n.getD 0 0 + h.n.getD 1 0) % 18446744073709551616, true)
def tableF (h : PHead) (at_ size end_ : Nat) : Nat :=
  if at_ % 8 ≠ 0 then 3
  else if size = 0 ∨ size % 16 ≠ 0 then 5
  else if at_ < h.n.getD 0 0 ∨ at_ - h.n.getD 0 0 < 16 ∨ end_ < at_ ∨ end_ - at_ < size then 2 else 0
def amissF (h : PHead) (len : Nat) : Nat :=
  if andNot h.incompat 4 ≠ 0 then 7
  else if 2 < h.state then 8
  else if h.n.getD 0 0 < 272 ∨ h.n.getD 0 0 % 8 ≠ 0 ∨ h.n.getD 1 0 % 8 ≠ 0 then 5
  else if (endF h).2 = false ∨ len < (endF h).1 then 2
  else if tableF h (h.n.getD 2 0) (h.n.getD 3 0) (endF h).1 ≠ 0 then tableF h (h.n.getD 2 0) (h.n.getD 3 0) (endF h).1
  else tableF h (h.n.getD 4 0) (h.n.getD 5 0) (endF h).1
def readF (b : List UInt8) : PHead × Nat :=
  if b.length < 272 then (hz0, 22)
  else if prefF b signF = false then (hz0, 6)
  else if amissF (parseF b) b.length ≠ 0 then (hz0, amissF (parseF b) b.length) else (parseF b, 0)
theorem amiss_at {h : PHead} {len r : Nat} {s : Bool} (he : endF h = (r, s)) : amissF h len = (if andNot h.incompat 4 ≠ 0 then 7 else if 2 < h.state then 8 else if h.n.getD 0 0 < 272 ∨ h.n.getD 0 0 % 8 ≠ 0 ∨ h.n.getD 1 0 % 8 ≠ 0 then 5
    else if s = false ∨ len < r then 2 else if tableF h (h.n.getD 2 0) (h.n.getD 3 0) r ≠ 0 then tableF h (h.n.getD 2 0) (h.n.getD 3 0) r else tableF h (h.n.getD 4 0) (h.n.getD 5 0) r) := by
  unfold amissF; rw [he]
theorem readF_no {b : List UInt8} {h : PHead} {p : Bool} {c : Nat} (h1 : ¬ b.length < 272) (h2 : prefF b [76, 80, 75, 83, 72, 72, 82, 72] = p) (h3 : ¬ p = false) (h4 : parseF b = h) (h5 : amissF h b.length = c) (h6 : c ≠ 0) : readF b = (hz0, c) := by
  subst h4; subst h5
  unfold readF; rw [if_neg h1, if_neg (by rw [show signF = [76, 80, 75, 83, 72, 72, 82, 72] from rfl, h2]; exact h3), if_pos h6]
theorem readF_ok {b : List UInt8} {h : PHead} {p : Bool} (h1 : ¬ b.length < 272) (h2 : prefF b [76, 80, 75, 83, 72, 72, 82, 72] = p) (h3 : ¬ p = false) (h4 : parseF b = h) (h5 : amissF h b.length = 0) : readF b = (h, 0) := by
  subst h4
  unfold readF; rw [if_neg h1, if_neg (by rw [show signF = [76, 80, 75, 83, 72, 72, 82, 72] from rfl, h2]; exact h3), if_neg (by omega)]
theorem readF_short {b : List UInt8} (h : b.length < 272) : readF b = (hz0, 22) := by unfold readF; rw [if_pos h]
theorem readF_sign {b : List UInt8} (h1 : ¬ b.length < 272) (h2 : prefF b [76, 80, 75, 83, 72, 72, 82, 72] = false) : readF b = (hz0, 6) := by unfold readF; rw [if_neg h1, if_pos (show prefF b signF = false from h2)]
/-! ### A pointer that may be nil -/
def Po {α : Type} (T : Dt α) (ty : TypeId) (w : World) (Q : Nat → Prop) (v : Value) : Option α → Prop
  | none => v = .pointer none
  | some x => Pt T ty w Q v x
section
variable {α : Type} {T : Dt α} {ty : TypeId} {w w' : World} {Q Q' : Nat → Prop} {v : Value} {o : Option α}
theorem Po.md {S : List Nat} (h : Po T ty w Q v o) (m : Md S w w') (hs : ∀ b ∈ S, ¬ Q b) : Po T ty w' Q v o := by
  cases o with
  | none => exact h
  | some x => exact Pt.md h m hs
theorem Po.md0 (h : Po T ty w Q v o) (m : Md [] w w') : Po T ty w' Q v o := h.md m (by simp)
variable {P : Program} {n : Nat} {A : Fr n} {D : List Deferred} {l : List (Nat × Value)} {d : Option Tmp} {ty2 : TypeId} {ps : String} {af : Array Edge} {g : Option (Nat × Bool)}
theorem Po.ptr (h : Po T ty w Q v o) : ∃ p, v = .pointer p ∧ p.isNone = o.isNone := by
  cases o with
  | none => exact ⟨none, h, rfl⟩
  | some x => obtain ⟨b, c, rfl, _⟩ := h; exact ⟨_, rfl, rfl⟩
theorem r_neqPO {x : Operand} {t u e : TypeId} (h : Po T ty w Q v o) (hx : ev n l x = some v) (hT : P.underlying t = some (.pointer e)) :
    RunV P ⟨d, .binOp .neq t x (.const (.pointer none)) u, ty2, ps, af, g⟩ (over A D l).eval w (.bool o.isSome) := by
  obtain ⟨p, rfl, hp0⟩ := h.ptr
  have hp : P.underlying t = some (.pointer (P.pointee t)) := by rw [hT]; simp [Program.pointee, hT]
  have h := run_neq_pointer_nil (P := P) w t p hp
  have hc : (over A D l).eval (.const (.pointer none)) = .pointer none := rfl
  have hg : (eqGuard .neq t x (.const (.pointer none)) (.pointer p) (.pointer none)).run P w = .ok () w := by unfold eqGuard; simp
  have e : o.isSome = p.isSome := by cases o <;> cases p <;> simp_all
  simp [RunV, execOp, ev_eval hx, hc, hg, h, e]
end

/-! ### A view -/
def openF (b : List UInt8) : Option PView × Nat := if (readF b).2 ≠ 0 then (none, (readF b).2) else (some { b := b.take (endF (readF b).1).1, h := (readF b).1 }, 0)
theorem read_fine {b : List UInt8} {h : PHead} (hr : readF b = (h, 0)) : 272 ≤ b.length ∧ parseF b = h ∧ amissF h b.length = 0 := by
  unfold readF at hr
  split at hr
  · have := congrArg Prod.snd hr; simp at this
  · rename_i h1
    split at hr
    · have := congrArg Prod.snd hr; simp at this
    · split at hr
      · rename_i h2; have := congrArg Prod.snd hr; exact absurd this h2
      · rename_i h2
        have e := congrArg Prod.fst hr
        simp only at e
        subst e
        exact ⟨by omega, rfl, by omega⟩
theorem read_end {b : List UInt8} {h : PHead} {e : Nat} {s : Bool} (hr : readF b = (h, 0)) (he : endF h = (e, s)) : e ≤ b.length ∧ s = true := by
  obtain ⟨_, _, h3⟩ := read_fine hr
  rw [amiss_at he] at h3
  split at h3
  · omega
  · split at h3
    · omega
    · split at h3
      · omega
      · split at h3
        · omega
        · rename_i h4; rw [not_or] at h4
          exact ⟨by omega, by simpa using h4.1⟩
end Go.Wk
namespace Go.Wk
open Go Go.RowKit
theorem Ow.lsB {e : TypeId} {w w' : World} {Q Q' : Nat → Prop} {v : Value} {xs : List UInt8} (h : Ow tB8 e (Fsh [] w) w' Q' v xs) (uQ : Up w Q) : Ls tB8 w' Q v xs :=
  Ls.of_by h.read.by fun b hb _ => Fsh.up uQ b (h.2 b hb).1
theorem config_slots (s : Sq) : s.config.1.dataSlots ≤ 10 ∧ s.config.1.fieldSlots ≤ 10 := by
  rcases h1 : s.num 5 with ⟨a, s1⟩
  rcases h2 : s1.num 5 with ⟨b, s2⟩
  rcases h3 : s2.num 5 with ⟨c, s3⟩
  rcases h4 : s3.num 7 with ⟨d, s4⟩
  rcases h5 : s4.num 4 with ⟨e, s5⟩
  rcases h6 : s5.num 2 with ⟨f, s6⟩
  have g4 := s3.num_le 7
  have g5 := s4.num_le 4
  rw [h4] at g4; rw [h5] at g5
  simp only [Sq.config, h1, h2, h3, h4, h5, h6]
  simp only at g4 g5
  omega
end Go.Wk
namespace Go.Wk
open Go Go.RowKit
theorem getD_set_eq' {l : List Nat} {i v : Nat} (h : i < l.length) : (l.set i v).getD i 0 = v := by simp [List.getD, h]
def finM (z : Mk) (n seq real mono e : Nat) (boot : List UInt8) : Mk :=
  let m7 := if n = 0 then (z.setN 10 seq).setN 12 real else z
  let m8 := m7.setN 8 ((m7.num 8 + 1) % 18446744073709551616)
  let m9 := ((m8.setN 9 seq).setN 13 real).setN 14 mono
  { m9 with h := { m9.h with boot := boot, tailEntry := e } }
theorem finM_spec (z : Mk) (n seq real mono e : Nat) (boot : List UInt8) : (finM z n seq real mono e boot).b = z.b ∧ (finM z n seq real mono e boot).c = z.c ∧ (finM z n seq real mono e boot).datas = z.datas ∧ (finM z n seq real mono e boot).fields = z.fields ∧ (finM z n seq real mono e boot).main = z.main ∧
    (finM z n seq real mono e boot).h.n.getD 2 0 = z.h.n.getD 2 0 ∧ (finM z n seq real mono e boot).h.n.getD 4 0 = z.h.n.getD 4 0 ∧ (finM z n seq real mono e boot).h.n.length = z.h.n.length ∧
    (z.h.n.length = 20 → (finM z n seq real mono e boot).n8 = (z.n8 + 1) % 18446744073709551616 ∧ (finM z n seq real mono e boot).num 9 = seq) := by
  unfold finM
  simp only
  generalize hm7 : (if n = 0 then (z.setN 10 seq).setN 12 real else z) = m7
  have m7s : m7.b = z.b ∧ m7.c = z.c ∧ m7.datas = z.datas ∧ m7.fields = z.fields ∧ m7.main = z.main ∧ m7.h.n.getD 8 0 = z.h.n.getD 8 0 ∧ m7.h.n.getD 2 0 = z.h.n.getD 2 0 ∧ m7.h.n.getD 4 0 = z.h.n.getD 4 0 ∧ m7.h.n.length = z.h.n.length := by
    subst hm7
    split
    · exact ⟨rfl, rfl, rfl, rfl, rfl, (getD_set_ne' (by decide)).trans (getD_set_ne' (by decide)), (getD_set_ne' (by decide)).trans (getD_set_ne' (by decide)), (getD_set_ne' (by decide)).trans (getD_set_ne' (by decide)), by simp [Mk.setN]⟩
    · exact ⟨rfl, rfl, rfl, rfl, rfl, rfl, rfl, rfl, rfl⟩
  obtain ⟨w1, w2, w3, w4, w5, w6, w7, w8, w9⟩ := m7s
  clear hm7
  refine ⟨w1, w2, w3, w4, w5, ?_, ?_, ?_, fun h20 => ⟨?_, ?_⟩⟩
  · rw [← w7]
    exact (getD_set_ne' (by decide)).trans ((getD_set_ne' (by decide)).trans ((getD_set_ne' (by decide)).trans (getD_set_ne' (by decide))))
  · rw [← w8]
    exact (getD_set_ne' (by decide)).trans ((getD_set_ne' (by decide)).trans ((getD_set_ne' (by decide)).trans (getD_set_ne' (by decide))))
  · rw [← w9]; simp [Mk.setN]
  · have e : m7.num 8 = z.n8 := w6
    rw [e]
    exact (getD_set_ne' (by decide)).trans ((getD_set_ne' (by decide)).trans ((getD_set_ne' (by decide)).trans (getD_set_eq' (by omega))))
  · exact (getD_set_ne' (by decide)).trans ((getD_set_ne' (by decide)).trans (getD_set_eq' (by simp [Mk.setN]; omega)))
theorem append_ok {m : Mk} (h : MkOk m) {raw : List Pr} {real mono : Nat} {boot : List UInt8} (hb : boot.length = 16) (h20 : (m.append raw real mono boot).2.2.h.n.length = 20) : MkOk (m.append raw real mono boot).2.2 := by
  rcases hl : listF raw with ⟨l, c⟩
  by_cases h2 : c ≠ 0
  · have e : m.append raw real mono boot = (0, c, m) := by unfold Mk.append; simp only [hl]; rw [if_pos h2]
    rw [e]; exact h
  by_cases h3 : m.num 9 = 18446744073709551615
  · have e : m.append raw real mono boot = (0, 1, m) := by unfold Mk.append; simp only [hl]; rw [if_neg h2, if_pos h3]
    rw [e]; exact h
  obtain ⟨bd, ll⟩ := listF_bd hl
  have D := datasL_ok l m [] [] 0 (datas_start h) bd
  rcases hd : datasL l m [] [] with ⟨ps, od, x⟩
  rw [hd, Nat.zero_add] at D
  simp only at D
  have s1 := h.small
  have s4 := h.nb
  have d1 := D.app.ge
  have d2 := D.app.le
  have d5 := D.len.1
  have n8x := D.app.n8
  generalize hE : ({ seq := (x.num 9 + 1) % 18446744073709551616, real := real, mono := mono, boot := boot, xor := xorF 0 ps, items := itemsL x od } : Ent) = E
  have eb : E.boot.length = 16 := by subst hE; exact hb
  have ei : E.items.length = od.length := by subst hE; simp [itemsL]
  have el := putEntryF_len E eb
  have ap2 := app_object (L := 400) (o := putEntryF E) D.app (by omega)
  have gb := (object_spec x (putEntryF E)).2.1
  have gm := (object_same x (putEntryF E)).2.2.2
  have gd := (object_same x (putEntryF E)).2.1
  rcases ho : x.object (putEntryF E) with ⟨e, m2⟩
  rw [ho] at ap2 gb gm gd
  simp only at ap2 gb gm gd
  have n82 : m2.h.n.getD 8 0 = m.n8 := ap2.n8
  have cf : chainFit m2.b.length m2.main (m2.num 8) := by
    rw [show m2.num 8 = m.n8 from n82, gm, D.main]; exact chain_mono h.main ap2.ge
  have lo := link_ok m2 m2.main (m2.num 8) 176 e cf
  have ap3 := app_link (src := 176) (item := e) ap2 cf
  rcases hk : m2.link m2.main (m2.num 8) 176 e with ⟨a, t, m3⟩
  rw [hk] at lo ap3
  simp only at lo ap3
  generalize hY : (let m4 := ({ m3 with main := a } : Mk).setN 11 (a.getD 0 0); ({ m4 with h := { m4.h with tailArray := lastN a % 4294967296, tailItems := t % 4294967296 } } : Mk)) = Y
  have ap4 : AppOk m Y l.length (900 * l.length + 400 + 2100 + 0) 0 := by
    subst hY
    exact app_of (e' := 0) ap3 rfl (getD_set_ne' (by decide)) (getD_set_ne' (by decide)) (getD_set_ne' (by decide)) rfl rfl (Nat.le_refl _) (Nat.le_refl _) (Nat.le_refl _)
  have Yb : Y.b = m3.b := by subst hY; rfl
  have Yd : Y.datas = m3.datas := by subst hY; rfl
  have Ym : Y.main = a := by subst hY; rfl
  obtain ⟨ap5, zm, zd⟩ := hangE_ok (en := e) od Y _ _ ap4 (fun i hi => by rw [Yd, lo.datas, gd]; exact D.idx i hi)
  have y8 : Y.n8 = m.n8 := ap4.n8
  have apY := (hangE_ok (en := e) od Y 0 0 ⟨ap4.fit, rfl, rfl, by rw [y8]; exact ap4.chains, Nat.le_add_right _ 0, Nat.le_add_right _ 0, Nat.le_refl _, Nat.le_refl _⟩ (fun i hi => by rw [Yd, lo.datas, gd]; exact D.idx i hi)).1
  have hz := append_done (real := real) (mono := mono) (boot := boot) hl h2 h3 hd (by rw [hE]; exact ho) hk (z := hangE e od Y) (by rw [hY])
  generalize hangE e od Y = z at *
  replace hz : m.append raw real mono boot = if z.c.most < z.b.length then (0, 15, m) else ((x.num 9 + 1) % 18446744073709551616, 0, finM z (m2.num 8) ((x.num 9 + 1) % 18446744073709551616) real mono e boot) := hz
  rw [hz] at h20 ⊢
  split at h20
  · rename_i hm
    rw [if_pos hm]; exact h
  · rename_i hm
    rw [if_neg hm]
    have q1 := ap5.ge
    have q2 := ap5.le
    have q3 := ap5.nd
    have q4 := ap5.nf
    have zc := ap5.c
    have z8 : z.n8 = m.n8 := ap5.n8
    have hmost := h.most
    have r1 := h.nd
    have r2 := h.nf
    have g3 := lo.ge
    have bz : m3.b.length ≤ z.b.length := by have h := apY.ge; rw [Yb] at h; exact h
    obtain ⟨k1, k2, k3, k4, k5, R2, R4, kl, k8⟩ := finM_spec z (m2.num 8) ((x.num 9 + 1) % 18446744073709551616) real mono e boot
    simp only at h20 ⊢
    generalize finM z (m2.num 8) ((x.num 9 + 1) % 18446744073709551616) real mono e boot = R at *
    have R8 := (k8 (by omega)).1
    rw [z8, Nat.mod_eq_of_lt (by omega)] at R8
    refine ⟨fit_mono ap5.fit ⟨by rw [k2], by rw [k2], R2, R4, by rw [k1]; exact Nat.le_refl _⟩ (fun k hk => .inl (k3 ▸ hk)) (fun k hk => .inl (k4 ▸ hk)), ?_, ?_, ?_, ?_, ?_, ?_, ?_, ?_⟩
    · rw [R8, k1, k5, zm, Ym]
      have hc := lo.chain
      rw [show m2.num 8 = m.n8 from n82] at hc
      exact chain_mono hc bz
    · intro k hk
      rw [k3] at hk
      obtain ⟨u1, u2, u3, u4⟩ := ap5.chains k hk
      rw [k1, R8]
      exact ⟨u1, u2, u3, by omega⟩
    · rw [k3, R8]; omega
    · rw [k4, R8]; omega
    · rw [k1, R8]; omega
    · rw [k1]; rw [zc] at hm; omega
    · rw [k2, zc]; exact hmost
    · rw [k1]; have := h.hd; omega
theorem newMk_ok {c : Cfg} {t : Nat} (h : c.dataSlots ≤ 10 ∧ c.fieldSlots ≤ 10) (h1 : 1 ≤ c.dataSlots ∧ 1 ≤ c.fieldSlots) (h2 : c.most ≤ 40000) : MkOk (newMk c t) := by
  have g1 := (putTableF_lenA 4 (List.replicate c.dataSlots { first := 0, tail := 0 })).2 (.inl rfl)
  have g2 := (putTableF_lenA 5 (List.replicate c.fieldSlots { first := 0, tail := 0 })).2 (.inr rfl)
  have e : (newMk c t).b = List.replicate 272 0 ++ putTableF 4 (List.replicate c.dataSlots { first := 0, tail := 0 }) ++ putTableF 5 (List.replicate c.fieldSlots { first := 0, tail := 0 }) := rfl
  have el := congrArg List.length e
  simp only [List.length_append, List.length_replicate] at g1 g2 el
  have n8 : (newMk c t).n8 = 0 := rfl
  have nd : (newMk c t).datas = [] := rfl
  have nf : (newMk c t).fields = [] := rfl
  refine ⟨⟨h1.1, by show c.dataSlots ≤ 64; omega, h1.2, by show c.fieldSlots ≤ 64; omega, ?_, ?_, (fun k hk => by rw [nd] at hk; simp at hk), (fun k hk => by rw [nf] at hk; simp at hk)⟩, by rw [n8]; exact chain_nil _, (fun k hk => by rw [nd] at hk; simp at hk), by rw [n8]; exact Nat.le_refl _, by rw [n8]; exact Nat.le_refl _, by omega, by omega, h2, by omega⟩
  · have : (newMk c t).h.n.getD 2 0 = 288 := rfl
    rw [this, el]; show 288 + 16 * c.dataSlots ≤ _; omega
  · have : (newMk c t).h.n.getD 4 0 = (List.replicate 272 (0 : UInt8) ++ putTableF 4 (List.replicate c.dataSlots { first := 0, tail := 0 })).length + 16 := rfl
    rw [this, el, List.length_append, List.length_replicate]; show _ + 16 * c.fieldSlots ≤ _; omega
theorem config_ok (s : Sq) : (s.config.1.dataSlots ≤ 10 ∧ s.config.1.fieldSlots ≤ 10) ∧ (1 ≤ s.config.1.dataSlots ∧ 1 ≤ s.config.1.fieldSlots) ∧ s.config.1.most ≤ 40000 := by
  refine ⟨config_slots s, ?_⟩
  rcases h1 : s.num 5 with ⟨a, s1⟩
  rcases h2 : s1.num 5 with ⟨b, s2⟩
  rcases h3 : s2.num 5 with ⟨c, s3⟩
  rcases h4 : s3.num 7 with ⟨d, s4⟩
  rcases h5 : s4.num 4 with ⟨e, s5⟩
  rcases h6 : s5.num 2 with ⟨f, s6⟩
  simp only [Sq.config, h1, h2, h3, h4, h5, h6]
  omega
theorem record_ok (s : Sq) (n : Nat) : (∀ q ∈ (s.record n).1.fields, BD q) ∧ (s.record n).1.fields.length ≤ 16 := by
  rcases h1 : s.pairs 4 with ⟨ps, s1⟩
  rcases h2 : s1.num 40 with ⟨a, s2⟩
  rcases h3 : s2.num 9 with ⟨b, s3⟩
  rcases h4 : s3.num 3 with ⟨c, s4⟩
  simp only [Sq.record, h1, h2, h3, h4]
  exact listF_bd (show listF ps = ((listF ps).1, (listF ps).2) from rfl)
theorem record_boot (s : Sq) (n : Nat) : (s.record n).1.boot.length = 16 := by
  rcases h1 : s.pairs 4 with ⟨ps, s1⟩
  rcases h2 : s1.num 40 with ⟨a, s2⟩
  rcases h3 : s2.num 9 with ⟨b, s3⟩
  rcases h4 : s3.num 3 with ⟨c, s4⟩
  simp only [Sq.record, h1, h2, h3, h4]
  simp [idF]
theorem makerL_end {most : Nat} {s : Sq} {m : Mk} {rs : List Rec} (h : ¬ (rs.length < most ∧ s.pos < s.l.length)) : makerL (most - rs.length) s m rs = (m, rs, s) := by
  by_cases h1 : rs.length < most
  · obtain ⟨n, hn⟩ : ∃ n, most - rs.length = n + 1 := ⟨most - rs.length - 1, by omega⟩
    rw [hn]
    show (if s.pos < s.l.length then _ else (m, rs, s)) = _
    rw [if_neg (fun h2 => h ⟨h1, h2⟩)]
  · rw [show most - rs.length = 0 by omega]; rfl
theorem makerL_no {most c e : Nat} {s s1 : Sq} {m m1 : Mk} {rs : List Rec} {r : Rec} (h : rs.length < most) (h2 : s.pos < s.l.length) (hr : s.record ((m.num 9 + 1) % 18446744073709551616) = (r, s1)) (ha : m.append r.fields r.real r.mono r.boot = (e, c, m1)) (hc : c ≠ 0) :
    makerL (most - rs.length) s m rs = (m1, rs, s1) := by
  obtain ⟨n, hn⟩ : ∃ n, most - rs.length = n + 1 := ⟨most - rs.length - 1, by omega⟩
  rw [hn]
  unfold makerL
  rw [if_pos h2]
  simp only [hr, ha]
  rw [if_pos hc]
theorem makerL_on {most c e : Nat} {s s1 : Sq} {m m1 : Mk} {rs : List Rec} {r : Rec} (h : rs.length < most) (h2 : s.pos < s.l.length) (hr : s.record ((m.num 9 + 1) % 18446744073709551616) = (r, s1)) (ha : m.append r.fields r.real r.mono r.boot = (e, c, m1)) (hc : ¬ c ≠ 0) :
    makerL (most - rs.length) s m rs = makerL (most - (rs ++ [r]).length) s1 m1 (rs ++ [r]) := by
  obtain ⟨n, hn⟩ : ∃ n, most - rs.length = n + 1 := ⟨most - rs.length - 1, by omega⟩
  rw [hn]
  rw [makerL, if_pos h2]
  simp only [hr, ha]
  rw [if_neg hc, show most - (rs ++ [r]).length = n by simp; omega]
/-! the head's numbers stay twenty -/
theorem nl_object (m : Mk) (o : List UInt8) : (m.object o).2.h.n.length = m.h.n.length := by simp [Mk.object, Mk.setN]
theorem nl_hang (m : Mk) (l : List Known) (t p s : Nat) : (m.hang l t p s).2.h = m.h := by rw [(hang_eq m l t p s).1]
theorem nl_field (m : Mk) (x : List UInt8) : (m.field x).2.h.n.length = m.h.n.length := by
  unfold Mk.field
  split
  · rfl
  · simp only
    have g1 := nl_object m (putFieldF { hash := hashN m.c.keyed m.c.file x, nextHash := 0, dat := 0, payload := x })
    generalize m.object (putFieldF { hash := hashN m.c.keyed m.c.file x, nextHash := 0, dat := 0, payload := x }) = r at *
    obtain ⟨p, m1⟩ := r
    simp only at g1 ⊢
    have g2 := nl_hang m1 m1.fields (m1.num 4) p (hashN m.c.keyed m.c.file x % m1.c.fieldSlots)
    generalize m1.hang m1.fields (m1.num 4) p (hashN m.c.keyed m.c.file x % m1.c.fieldSlots) = r at *
    obtain ⟨n, m2⟩ := r
    simp only at g2 ⊢
    simp only [Mk.setN, List.length_set, g2]
    exact g1
theorem nl_data (m : Mk) (x : Pr) : (m.data x).2.h.n.length = m.h.n.length := by
  unfold Mk.data
  split
  · rfl
  · simp only
    have g1 := nl_object m (putDataF { hash := hashN m.c.keyed m.c.file (payload x), nextHash := 0, nextField := 0, entry := 0, array := 0, count := 0, payload := payload x })
    generalize m.object (putDataF { hash := hashN m.c.keyed m.c.file (payload x), nextHash := 0, nextField := 0, entry := 0, array := 0, count := 0, payload := payload x }) = r at *
    obtain ⟨p, m1⟩ := r
    simp only at g1 ⊢
    have g2 := nl_hang m1 m1.datas (m1.num 2) p (hashN m.c.keyed m.c.file (payload x) % m1.c.dataSlots)
    generalize m1.hang m1.datas (m1.num 2) p (hashN m.c.keyed m.c.file (payload x) % m1.c.dataSlots) = r at *
    obtain ⟨n, m2⟩ := r
    simp only at g2 ⊢
    generalize hx5 : ({ (m2.setN 19 (max (m2.num 19) n)).setN 15 (((m2.setN 19 (max (m2.num 19) n)).num 15 + 1) % 18446744073709551616) with datas := ((m2.setN 19 (max (m2.num 19) n)).setN 15 (((m2.setN 19 (max (m2.num 19) n)).num 15 + 1) % 18446744073709551616)).datas ++ [({ text := payload x, pos := p, slot := hashN m.c.keyed m.c.file (payload x) % m1.c.dataSlots, count := 0, arrays := [] } : Known)] } : Mk) = m5
    have e5 : m5.h.n.length = m.h.n.length := by subst hx5; simp only [Mk.setN, List.length_set, g2]; exact g1
    have g3 := nl_field m5 x.name
    generalize m5.field x.name = r at *
    obtain ⟨k, m6⟩ := r
    exact g3.trans e5
theorem nl_datasL : ∀ (l : List Pr) (m : Mk) (ps : List (List UInt8)) (od : List Nat), (datasL l m ps od).2.2.h.n.length = m.h.n.length
  | [], _, _, _ => rfl
  | x :: r, m, ps, od => (nl_datasL r _ _ _).trans (nl_data m x)
theorem nl_link (m : Mk) (a : List Nat) (n src item : Nat) : (m.link a n src item).2.2.h.n.length = m.h.n.length := by
  unfold Mk.link
  generalize roomsL a 0 0 0 = r
  obtain ⟨ahead, room⟩ := r
  simp only
  split
  · have g1 := nl_object m (putArrayF { next := 0, items := List.replicate (roomF (a.length : Int)) 0 })
    generalize m.object (putArrayF { next := 0, items := List.replicate (roomF (a.length : Int)) 0 }) = r at *
    obtain ⟨p, m1⟩ := r
    simp only at g1 ⊢
    split
    · show (m1.setN 18 _).h.n.length = _
      simp only [Mk.setN, List.length_set]; exact g1
    · show (m1.setN 18 _).h.n.length = _
      simp only [Mk.setN, List.length_set]; exact g1
  · rfl
theorem nl_hangE (e : Nat) : ∀ (od : List Nat) (m : Mk), (hangE e od m).h.n.length = m.h.n.length
  | [], _ => rfl
  | i :: r, m => by
    rw [hangE_cons, nl_hangE e r]
    unfold hang1
    simp only
    split
    · rfl
    · exact nl_link m _ _ _ _
theorem nl_append (m : Mk) (raw : List Pr) (real mono : Nat) (boot : List UInt8) : (m.append raw real mono boot).2.2.h.n.length = m.h.n.length := by
  rcases hl : listF raw with ⟨l, c⟩
  by_cases h2 : c ≠ 0
  · have e : m.append raw real mono boot = (0, c, m) := by unfold Mk.append; simp only [hl]; rw [if_pos h2]
    rw [e]
  by_cases h3 : m.num 9 = 18446744073709551615
  · have e : m.append raw real mono boot = (0, 1, m) := by unfold Mk.append; simp only [hl]; rw [if_neg h2, if_pos h3]
    rw [e]
  have g1 := nl_datasL l m [] []
  rcases hd : datasL l m [] [] with ⟨ps, od, x⟩
  rw [hd] at g1
  have g2 := nl_object x (putEntryF { seq := (x.num 9 + 1) % 18446744073709551616, real := real, mono := mono, boot := boot, xor := xorF 0 ps, items := itemsL x od })
  rcases ho : x.object (putEntryF { seq := (x.num 9 + 1) % 18446744073709551616, real := real, mono := mono, boot := boot, xor := xorF 0 ps, items := itemsL x od }) with ⟨e, m2⟩
  rw [ho] at g2
  have g3 := nl_link m2 m2.main (m2.num 8) 176 e
  rcases hk : m2.link m2.main (m2.num 8) 176 e with ⟨a, t, m3⟩
  rw [hk] at g3
  simp only at g1 g2 g3
  have hz : m.append raw real mono boot = _ := append_done (real := real) (mono := mono) (boot := boot) hl h2 h3 hd ho hk rfl
  have g4 := nl_hangE e od (let m4 := ({ m3 with main := a } : Mk).setN 11 (a.getD 0 0); { m4 with h := { m4.h with tailArray := lastN a % 4294967296, tailItems := t % 4294967296 } })
  generalize hangE e od (let m4 := ({ m3 with main := a } : Mk).setN 11 (a.getD 0 0); { m4 with h := { m4.h with tailArray := lastN a % 4294967296, tailItems := t % 4294967296 } }) = z at hz g4
  replace hz : m.append raw real mono boot = if z.c.most < z.b.length then (0, 15, m) else ((x.num 9 + 1) % 18446744073709551616, 0, finM z (m2.num 8) ((x.num 9 + 1) % 18446744073709551616) real mono e boot) := hz
  rw [hz]
  split
  · rfl
  · show (finM _ _ _ _ _ _ _).h.n.length = _
    rw [(finM_spec _ _ _ _ _ _ _).2.2.2.2.2.2.2.1, g4]
    simp only [Mk.setN, List.length_set]
    omega
theorem makerL_ok : ∀ (n : Nat) (s : Sq) (m : Mk) (rs : List Rec), MkOk m → m.h.n.length = 20 → MkOk (makerL n s m rs).1 ∧ (makerL n s m rs).1.h.n.length = 20
  | 0, _, _, _, h, h2 => ⟨h, h2⟩
  | n + 1, s, m, rs, h, h2 => by
    unfold makerL
    split
    · rcases hr : s.record ((m.num 9 + 1) % 18446744073709551616) with ⟨r, s1⟩
      have hb : r.boot.length = 16 := by
        have := record_boot s ((m.num 9 + 1) % 18446744073709551616)
        rw [hr] at this; exact this
      have h3 := nl_append m r.fields r.real r.mono r.boot
      have h4 := append_ok (raw := r.fields) (real := r.real) (mono := r.mono) h hb (h3.trans h2)
      rcases ha : m.append r.fields r.real r.mono r.boot with ⟨e, c, m1⟩
      rw [ha] at h3 h4
      simp only [ha]
      split
      · exact ⟨h4, h3.trans h2⟩
      · exact makerL_ok n s1 m1 _ h4 (h3.trans h2)
    · exact ⟨h, h2⟩
theorem maker_ok {s s' : Sq} {most : Nat} {m : Mk} {rs : List Rec} (h : s.maker most = (m, rs, s')) : MkOk m ∧ m.h.n.length = 20 := by
  have hc := config_ok s
  rcases h1 : s.config with ⟨c, s1⟩
  rcases h2 : s1.num 6 with ⟨t, s2⟩
  rw [h1] at hc
  simp only [Sq.maker, h1, h2] at h
  have := makerL_ok most s2 (newMk c t) [] (newMk_ok hc.1 hc.2.1 hc.2.2) rfl
  rw [h] at this
  exact this
end Go.Wk
namespace Go.Wk
open Go Go.RowKit
theorem open_nilE {x : Option PView} {c : Nat} (h : openF [] = (x, c)) : c = 22 := by
  have e : (openF []).2 = 22 := by decide +kernel
  rw [h] at e; exact e
theorem image3_len : (imageOf [1, 2, 3] 2).length ≤ 100000 := by decide +kernel
theorem image3E {r : List UInt8} (h1 : imageOf [1, 2, 3] 2 = r) : r.length ≤ 100000 := h1 ▸ image3_len
theorem open3 : (openF (imageOf [1, 2, 3] 2)).2 = 0 ∧ (openF (imageOf [1, 2, 3] 2)).1.isSome = true := by decide +kernel
theorem open3E {r : List UInt8} {x : Option PView} {c : Nat} (h1 : imageOf [1, 2, 3] 2 = r) (h : openF r = (x, c)) : c = 0 ∧ x.isSome = true := by
  have e := open3
  rw [h1, h] at e; exact e
end Go.Wk
namespace Go.Wk
open Go Go.RowKit
section
variable {P : Program} {n : Nat} {A : Fr n} {D : List Deferred} {l : List (Nat × Value)} {w : World} {ops : Array Oper} {rest : List Oper} {Q : Exit → Act → World → Prop}
variable {d : Tmp} {op : Op} {ty : TypeId} {ps : String} {af : Array Edge}
theorem mv {x : Operand} {v : Value} (h : ev n l x = some v) (k : wpList P ops Q rest (over A D ((d, v) :: l)) w) : wpList P ops Q (⟨some d, .move x, ty, ps, af, none⟩ :: rest) (over A D l) w := st v (r_move h) k
theorem asg {x : Operand} {v : Value} (h : ev n l x = some v) (k : wpList P ops Q rest (over A D ((d, v) :: l)) w) : wpList P ops Q (⟨some d, .assign x, ty, ps, af, none⟩ :: rest) (over A D l) w := st v (r_assign h) k
theorem nt {K : Act → World → Prop} {a : Act} (h : K a w) : wpList P ops (Exit.then K Q) [] a w := st_nil (c_then h)
theorem ns {id : Nat} {lo : List Oper} {y : Code} {a : Act} (h : wpList P lo.toArray (Exit.then (fun a w => y.wp P Q a w) Q) lo a w) : (Code.seq (.region id lo.toArray false) y).wp P Q a w := c_seq (c_region h)
end
end Go.Wk
namespace Go.Proofs.Ytklggjhnjlhhcaa
open Go Go.Wk Go.RowKit
set_option linter.unusedVariables false
set_option linter.unusedSimpArgs false
attribute [local irreducible] wpList wpQuiet wpStill wpMix Code.wp Calls bodyPost
theorem el5 : elemIs Try.prog 5 1 = true := by kernel_rfl
theorem one5 : isOne Try.prog 5 = true := by kernel_rfl
theorem u34 : Try.prog.underlying 34 = some (.slice 5) := by kernel_rfl
theorem u39 : Try.prog.underlying 39 = some (.int .u64) := by kernel_rfl
theorem u5 : Try.prog.underlying 5 = some (.int .u8) := by kernel_rfl

theorem leSize_any {w : World} {Q : Nat → Prop} (uQ : Up w Q) (n : Int) (a0 : (-9223372036854775808 ≤ n ∧ n < 9223372036854775808)) :
    Calls Try.prog 56 #[(.int .i64 (n : Int))] w fun en w' => ∃ r0 : Bool, en = .returned (.bool r0) ∧ Md [] w w' ∧ sizeOk n = r0 := by
  have M := Md.refl [] w; have uQ0 := uQ; have tQ : ∀ b, Q b → Q b := fun _ h => h; have sQ0 : ∀ b, Q b → b < w.heap.size → Q b := fun _ h _ => h; refine enter (n := 17) Try.func56 rfl rfl rfl ?_; intro B; refine ns ?_; refine asg rfl ?_; refine nt ?_; refine ns ?_; refine mv rfl ?_; refine st _ (r_eq (a := n) (b := 1) rfl rfl) ?_; refine mv rfl ?_; refine part_n (t := 5) rfl (fun h5 => ?_) (fun h5 => ?_)
  · (first | (have h5n := of_decide_eq_true h5) | (have h5n := of_decide_eq_false (bnt h5)) | (have h5n := bnt h5) | (have h5n := h5)); refine st_skip rfl rfl rfl h5 ?_; refine st_skip rfl rfl rfl h5 ?_; refine st _ (r_pick_t rfl h5 rfl) ?_; refine mv rfl ?_; refine st_skip rfl rfl rfl rfl ?_; refine st_skip rfl rfl rfl rfl ?_; refine st _ (r_pick_t rfl rfl rfl) ?_; refine mv rfl ?_; refine st_skip rfl rfl rfl rfl ?_; refine st_skip rfl rfl rfl rfl ?_; refine st _ (r_pick_t rfl rfl rfl) ?_; refine asg rfl ?_; refine nt ?_; refine c_ret ?_; exact ret1L (v := (.bool true)) trivial rfl ⟨rfl, trivial⟩ ⟨true, rfl, M, (by simp only [sizeOk]; first | exact decide_eq_true (by omega) | exact decide_eq_false (by omega) | exact (decide_eq_decide.2 (by omega)))⟩
  · (first | (have h5n := of_decide_eq_false h5) | (have h5n := of_decide_eq_true (bnf h5)) | (have h5n := bnf h5) | (have h5n := h5)); refine st_g _ rfl rfl rfl h5 (r_move rfl) ?_; refine st_g _ rfl rfl rfl h5 (r_eq (a := n) (b := 2) rfl rfl) ?_; refine st _ (r_pick_f rfl h5 rfl) ?_; refine mv rfl ?_; refine part_n (t := 9) rfl (fun h9 => ?_) (fun h9 => ?_)
    · (first | (have h9n := of_decide_eq_true h9) | (have h9n := of_decide_eq_false (bnt h9)) | (have h9n := bnt h9) | (have h9n := h9)); refine st_skip rfl rfl rfl h9 ?_; refine st_skip rfl rfl rfl h9 ?_; refine st _ (r_pick_t rfl h9 rfl) ?_; refine mv rfl ?_; refine st_skip rfl rfl rfl rfl ?_; refine st_skip rfl rfl rfl rfl ?_; refine st _ (r_pick_t rfl rfl rfl) ?_; refine asg rfl ?_; refine nt ?_; refine c_ret ?_; exact ret1L (v := (.bool true)) trivial rfl ⟨rfl, trivial⟩ ⟨true, rfl, M, (by simp only [sizeOk]; first | exact decide_eq_true (by omega) | exact decide_eq_false (by omega) | exact (decide_eq_decide.2 (by omega)))⟩
    · (first | (have h9n := of_decide_eq_false h9) | (have h9n := of_decide_eq_true (bnf h9)) | (have h9n := bnf h9) | (have h9n := h9)); refine st_g _ rfl rfl rfl h9 (r_move rfl) ?_; refine st_g _ rfl rfl rfl h9 (r_eq (a := n) (b := 4) rfl rfl) ?_; refine st _ (r_pick_f rfl h9 rfl) ?_; refine mv rfl ?_; refine part_n (t := 13) rfl (fun h13 => ?_) (fun h13 => ?_)
      · (first | (have h13n := of_decide_eq_true h13) | (have h13n := of_decide_eq_false (bnt h13)) | (have h13n := bnt h13) | (have h13n := h13)); refine st_skip rfl rfl rfl h13 ?_; refine st_skip rfl rfl rfl h13 ?_; refine st _ (r_pick_t rfl h13 rfl) ?_; refine asg rfl ?_; refine nt ?_; refine c_ret ?_; exact ret1L (v := (.bool true)) trivial rfl ⟨rfl, trivial⟩ ⟨true, rfl, M, (by simp only [sizeOk]; first | exact decide_eq_true (by omega) | exact decide_eq_false (by omega) | exact (decide_eq_decide.2 (by omega)))⟩
      · (first | (have h13n := of_decide_eq_false h13) | (have h13n := of_decide_eq_true (bnf h13)) | (have h13n := bnf h13) | (have h13n := h13)); refine st_g _ rfl rfl rfl h13 (r_move rfl) ?_; refine st_g _ rfl rfl rfl h13 (r_eq (a := n) (b := 8) rfl rfl) ?_; refine st _ (r_pick_f rfl h13 rfl) ?_; refine asg rfl ?_; refine nt ?_; refine c_ret ?_; exact ret1L (v := (.bool ((decide (n = 8))))) trivial rfl ⟨rfl, trivial⟩ ⟨(decide (n = 8)), rfl, M, (by simp only [sizeOk]; first | exact decide_eq_true (by omega) | exact decide_eq_false (by omega) | exact (decide_eq_decide.2 (by omega)))⟩
theorem refGet_any {w : World} {Q : Nat → Prop} (uQ : Up w Q) {v0 : Value} {l : List UInt8} (h0 : Ls tB8 w Q v0 l) (a : Int) (a1 : (-9223372036854775808 ≤ a ∧ a < 9223372036854775808)) (n : Int) (a2 : (-9223372036854775808 ≤ n ∧ n < 9223372036854775808)) :
    Calls Try.prog 66 #[v0, (.int .i64 (a : Int)), (.int .i64 (n : Int))] w fun en w' => ∃ r0 : Nat, ∃ r1 : Bool, en = .returned (.tuple #[(.int .u64 ((r0 : Nat) : Int)), (.bool r1)]) ∧ Md [] w w' ∧ r0 < 18446744073709551616 ∧ getF l a n = (r0, r1) := by
  have L0 := h0.len63; have M := Md.refl [] w; have uQ0 := uQ; have tQ : ∀ b, Q b → Q b := fun _ h => h; have sQ0 : ∀ b, Q b → b < w.heap.size → Q b := fun _ h _ => h; refine enter (n := 59) Try.func66 rfl rfl rfl ?_; intro B; refine ns ?_; refine asg rfl ?_; refine asg rfl ?_; refine nt ?_; refine c_seq ?_; refine c_seq ?_; refine c_join (fun b => [(41, .bool b), (0, v0), (1, (.int .i64 (a : Int))), (2, (.int .i64 (n : Int))), (6, (.int .u64 ((0 : Nat) : Int))), (7, (.bool false))]) (fun b w' => w = w' ∧ (b = true ↔ ¬ (sizeOk n = true ∧ 0 ≤ a ∧ a + n ≤ l.length))) ?_ ?_
  · refine mv rfl ?_; refine st _ (r_ne (a := n) (b := 1) rfl rfl) ?_; refine mv rfl ?_; refine part_n (t := 12) rfl (fun h12 => ?_) (fun h12 => ?_)
    · (first | (have h12n := of_decide_eq_true h12) | (have h12n := of_decide_eq_false (bnt h12)) | (have h12n := bnt h12) | (have h12n := h12)); refine st_g _ rfl rfl rfl h12 (r_move rfl) ?_; refine st_g _ rfl rfl rfl h12 (r_ne (a := n) (b := 2) rfl rfl) ?_; refine st _ (r_pick_t rfl h12 rfl) ?_; refine mv rfl ?_; refine part_n (t := 16) rfl (fun h16 => ?_) (fun h16 => ?_)
      · (first | (have h16n := of_decide_eq_true h16) | (have h16n := of_decide_eq_false (bnt h16)) | (have h16n := bnt h16) | (have h16n := h16)); refine st_g _ rfl rfl rfl h16 (r_move rfl) ?_; refine st_g _ rfl rfl rfl h16 (r_ne (a := n) (b := 4) rfl rfl) ?_; refine st _ (r_pick_t rfl h16 rfl) ?_; refine mv rfl ?_; refine part_n (t := 20) rfl (fun h20 => ?_) (fun h20 => ?_)
        · (first | (have h20n := of_decide_eq_true h20) | (have h20n := of_decide_eq_false (bnt h20)) | (have h20n := bnt h20) | (have h20n := h20)); refine st_g _ rfl rfl rfl h20 (r_move rfl) ?_; refine st_g _ rfl rfl rfl h20 (r_ne (a := n) (b := 8) rfl rfl) ?_; refine st _ (r_pick_t rfl h20 rfl) ?_; refine mv rfl ?_; refine part_n (t := 24) rfl (fun h24 => ?_) (fun h24 => ?_)
          · (first | (have h24n := of_decide_eq_true h24) | (have h24n := of_decide_eq_false (bnt h24)) | (have h24n := bnt h24) | (have h24n := h24)); refine st_skip rfl rfl rfl h24 ?_; refine st_skip rfl rfl rfl h24 ?_; refine st _ (r_pick_t rfl h24 rfl) ?_; refine mv rfl ?_; refine st_skip rfl rfl rfl rfl ?_; refine st_skip rfl rfl rfl rfl ?_; refine st_skip rfl rfl rfl rfl ?_; refine st_skip rfl rfl rfl rfl ?_; refine st _ (r_pick_t rfl rfl rfl) ?_; refine mv rfl ?_; refine st_skip rfl rfl rfl rfl ?_; refine st_skip rfl rfl rfl rfl ?_; refine st_skip rfl rfl rfl rfl ?_; refine st_skip rfl rfl rfl rfl ?_; refine st_skip rfl rfl rfl rfl ?_; refine st_skip rfl rfl rfl rfl ?_; refine st _ (r_pick_t rfl rfl rfl) ?_; refine st_nil ?_; refine ⟨rfl, jn true ?_ ?_⟩
            · exact ⟨rfl, rfl, rfl, rfl, rfl, rfl, trivial⟩
            · exact ⟨rfl, by rw [sizeOk_iff]; simp; omega⟩
          · (first | (have h24n := of_decide_eq_false h24) | (have h24n := of_decide_eq_true (bnf h24)) | (have h24n := bnf h24) | (have h24n := h24)); refine st_g _ rfl rfl rfl h24 (r_move rfl) ?_; refine st_g _ rfl rfl rfl h24 (r_lt (a := a) (b := 0) rfl rfl) ?_; refine st _ (r_pick_f rfl h24 rfl) ?_; refine mv rfl ?_; refine part_n (t := 28) rfl (fun h28 => ?_) (fun h28 => ?_)
            · (first | (have h28n := of_decide_eq_true h28) | (have h28n := of_decide_eq_false (bnt h28)) | (have h28n := bnt h28) | (have h28n := h28)); refine st_skip rfl rfl rfl h28 ?_; refine st_skip rfl rfl rfl h28 ?_; refine st_skip rfl rfl rfl h28 ?_; refine st_skip rfl rfl rfl h28 ?_; refine st _ (r_pick_t rfl h28 rfl) ?_; refine mv rfl ?_; refine st_skip rfl rfl rfl rfl ?_; refine st_skip rfl rfl rfl rfl ?_; refine st_skip rfl rfl rfl rfl ?_; refine st_skip rfl rfl rfl rfl ?_; refine st_skip rfl rfl rfl rfl ?_; refine st_skip rfl rfl rfl rfl ?_; refine st _ (r_pick_t rfl rfl rfl) ?_; refine st_nil ?_; refine ⟨rfl, jn true ?_ ?_⟩
              · exact ⟨rfl, rfl, rfl, rfl, rfl, rfl, trivial⟩
              · exact ⟨rfl, by rw [sizeOk_iff]; simp; omega⟩
            · (first | (have h28n := of_decide_eq_false h28) | (have h28n := of_decide_eq_true (bnf h28)) | (have h28n := bnf h28) | (have h28n := h28)); refine st_g _ rfl rfl rfl h28 (r_move rfl) ?_; refine st_g _ rfl rfl rfl h28 (r_move rfl) ?_; refine st_g _ rfl rfl rfl h28 (r_len rfl u34 h0.shp) ?_; refine st_g _ rfl rfl rfl h28 (r_gt (a := a) (b := ((l.length : Nat) : Int)) rfl rfl) ?_; refine st _ (r_pick_f rfl h28 rfl) ?_; refine mv rfl ?_; refine part_n (t := 34) rfl (fun h34 => ?_) (fun h34 => ?_)
              · (first | (have h34n := of_decide_eq_true h34) | (have h34n := of_decide_eq_false (bnt h34)) | (have h34n := bnt h34) | (have h34n := h34)); refine st_skip rfl rfl rfl h34 ?_; refine st_skip rfl rfl rfl h34 ?_; refine st_skip rfl rfl rfl h34 ?_; refine st_skip rfl rfl rfl h34 ?_; refine st_skip rfl rfl rfl h34 ?_; refine st_skip rfl rfl rfl h34 ?_; refine st _ (r_pick_t rfl h34 rfl) ?_; refine st_nil ?_; refine ⟨rfl, jn true ?_ ?_⟩
                · exact ⟨rfl, rfl, rfl, rfl, rfl, rfl, trivial⟩
                · exact ⟨rfl, by rw [sizeOk_iff]; simp; omega⟩
              · (first | (have h34n := of_decide_eq_false h34) | (have h34n := of_decide_eq_true (bnf h34)) | (have h34n := bnf h34) | (have h34n := h34)); refine st_g _ rfl rfl rfl h34 (r_move rfl) ?_; refine st_g _ rfl rfl rfl h34 (r_len rfl u34 h0.shp) ?_; refine st_g _ rfl rfl rfl h34 (r_move rfl) ?_; refine st_g _ rfl rfl rfl h34 (r_subI (a := ((l.length : Nat) : Int)) (b := a) rfl rfl (by omega)) ?_; refine st_g _ rfl rfl rfl h34 (r_move rfl) ?_; refine st_g _ rfl rfl rfl h34 (r_lt (a := ((l.length : Nat) : Int) - a) (b := n) rfl rfl) ?_; refine st _ (r_pick_f rfl h34 rfl) ?_; refine part_n (t := 41) rfl (fun h41 => ?_) (fun h41 => ?_)
                · (first | (have h41n := of_decide_eq_true h41) | (have h41n := of_decide_eq_false (bnt h41)) | (have h41n := bnt h41) | (have h41n := h41)); refine st_nil ?_; refine ⟨rfl, jn true ?_ ?_⟩
                  · exact ⟨fitB rfl h41, rfl, rfl, rfl, rfl, rfl, trivial⟩
                  · exact ⟨rfl, by rw [sizeOk_iff]; simp; omega⟩
                · (first | (have h41n := of_decide_eq_false h41) | (have h41n := of_decide_eq_true (bnf h41)) | (have h41n := bnf h41) | (have h41n := h41)); refine st_nil ?_; refine ⟨rfl, jn false ?_ ?_⟩
                  · exact ⟨fitB rfl h41, rfl, rfl, rfl, rfl, rfl, trivial⟩
                  · exact ⟨rfl, by rw [sizeOk_iff]; simp; omega⟩
        · (first | (have h20n := of_decide_eq_false h20) | (have h20n := of_decide_eq_true (bnf h20)) | (have h20n := bnf h20) | (have h20n := h20)); refine st_skip rfl rfl rfl h20 ?_; refine st_skip rfl rfl rfl h20 ?_; refine st _ (r_pick_f rfl h20 rfl) ?_; refine mv rfl ?_; refine st_g _ rfl rfl rfl rfl (r_move rfl) ?_; refine st_g _ rfl rfl rfl rfl (r_lt (a := a) (b := 0) rfl rfl) ?_; refine st _ (r_pick_f rfl rfl rfl) ?_; refine mv rfl ?_; refine part_n (t := 28) rfl (fun h28 => ?_) (fun h28 => ?_)
          · (first | (have h28n := of_decide_eq_true h28) | (have h28n := of_decide_eq_false (bnt h28)) | (have h28n := bnt h28) | (have h28n := h28)); refine st_skip rfl rfl rfl h28 ?_; refine st_skip rfl rfl rfl h28 ?_; refine st_skip rfl rfl rfl h28 ?_; refine st_skip rfl rfl rfl h28 ?_; refine st _ (r_pick_t rfl h28 rfl) ?_; refine mv rfl ?_; refine st_skip rfl rfl rfl rfl ?_; refine st_skip rfl rfl rfl rfl ?_; refine st_skip rfl rfl rfl rfl ?_; refine st_skip rfl rfl rfl rfl ?_; refine st_skip rfl rfl rfl rfl ?_; refine st_skip rfl rfl rfl rfl ?_; refine st _ (r_pick_t rfl rfl rfl) ?_; refine st_nil ?_; refine ⟨rfl, jn true ?_ ?_⟩
            · exact ⟨rfl, rfl, rfl, rfl, rfl, rfl, trivial⟩
            · exact ⟨rfl, by rw [sizeOk_iff]; simp; omega⟩
          · (first | (have h28n := of_decide_eq_false h28) | (have h28n := of_decide_eq_true (bnf h28)) | (have h28n := bnf h28) | (have h28n := h28)); refine st_g _ rfl rfl rfl h28 (r_move rfl) ?_; refine st_g _ rfl rfl rfl h28 (r_move rfl) ?_; refine st_g _ rfl rfl rfl h28 (r_len rfl u34 h0.shp) ?_; refine st_g _ rfl rfl rfl h28 (r_gt (a := a) (b := ((l.length : Nat) : Int)) rfl rfl) ?_; refine st _ (r_pick_f rfl h28 rfl) ?_; refine mv rfl ?_; refine part_n (t := 34) rfl (fun h34 => ?_) (fun h34 => ?_)
            · (first | (have h34n := of_decide_eq_true h34) | (have h34n := of_decide_eq_false (bnt h34)) | (have h34n := bnt h34) | (have h34n := h34)); refine st_skip rfl rfl rfl h34 ?_; refine st_skip rfl rfl rfl h34 ?_; refine st_skip rfl rfl rfl h34 ?_; refine st_skip rfl rfl rfl h34 ?_; refine st_skip rfl rfl rfl h34 ?_; refine st_skip rfl rfl rfl h34 ?_; refine st _ (r_pick_t rfl h34 rfl) ?_; refine st_nil ?_; refine ⟨rfl, jn true ?_ ?_⟩
              · exact ⟨rfl, rfl, rfl, rfl, rfl, rfl, trivial⟩
              · exact ⟨rfl, by rw [sizeOk_iff]; simp; omega⟩
            · (first | (have h34n := of_decide_eq_false h34) | (have h34n := of_decide_eq_true (bnf h34)) | (have h34n := bnf h34) | (have h34n := h34)); refine st_g _ rfl rfl rfl h34 (r_move rfl) ?_; refine st_g _ rfl rfl rfl h34 (r_len rfl u34 h0.shp) ?_; refine st_g _ rfl rfl rfl h34 (r_move rfl) ?_; refine st_g _ rfl rfl rfl h34 (r_subI (a := ((l.length : Nat) : Int)) (b := a) rfl rfl (by omega)) ?_; refine st_g _ rfl rfl rfl h34 (r_move rfl) ?_; refine st_g _ rfl rfl rfl h34 (r_lt (a := ((l.length : Nat) : Int) - a) (b := n) rfl rfl) ?_; refine st _ (r_pick_f rfl h34 rfl) ?_; refine part_n (t := 41) rfl (fun h41 => ?_) (fun h41 => ?_)
              · (first | (have h41n := of_decide_eq_true h41) | (have h41n := of_decide_eq_false (bnt h41)) | (have h41n := bnt h41) | (have h41n := h41)); refine st_nil ?_; refine ⟨rfl, jn true ?_ ?_⟩
                · exact ⟨fitB rfl h41, rfl, rfl, rfl, rfl, rfl, trivial⟩
                · exact ⟨rfl, by rw [sizeOk_iff]; simp; omega⟩
              · (first | (have h41n := of_decide_eq_false h41) | (have h41n := of_decide_eq_true (bnf h41)) | (have h41n := bnf h41) | (have h41n := h41)); refine st_nil ?_; refine ⟨rfl, jn false ?_ ?_⟩
                · exact ⟨fitB rfl h41, rfl, rfl, rfl, rfl, rfl, trivial⟩
                · exact ⟨rfl, by rw [sizeOk_iff]; simp; omega⟩
      · (first | (have h16n := of_decide_eq_false h16) | (have h16n := of_decide_eq_true (bnf h16)) | (have h16n := bnf h16) | (have h16n := h16)); refine st_skip rfl rfl rfl h16 ?_; refine st_skip rfl rfl rfl h16 ?_; refine st _ (r_pick_f rfl h16 rfl) ?_; refine mv rfl ?_; refine st_skip rfl rfl rfl rfl ?_; refine st_skip rfl rfl rfl rfl ?_; refine st _ (r_pick_f rfl rfl rfl) ?_; refine mv rfl ?_; refine st_g _ rfl rfl rfl rfl (r_move rfl) ?_; refine st_g _ rfl rfl rfl rfl (r_lt (a := a) (b := 0) rfl rfl) ?_; refine st _ (r_pick_f rfl rfl rfl) ?_; refine mv rfl ?_; refine part_n (t := 28) rfl (fun h28 => ?_) (fun h28 => ?_)
        · (first | (have h28n := of_decide_eq_true h28) | (have h28n := of_decide_eq_false (bnt h28)) | (have h28n := bnt h28) | (have h28n := h28)); refine st_skip rfl rfl rfl h28 ?_; refine st_skip rfl rfl rfl h28 ?_; refine st_skip rfl rfl rfl h28 ?_; refine st_skip rfl rfl rfl h28 ?_; refine st _ (r_pick_t rfl h28 rfl) ?_; refine mv rfl ?_; refine st_skip rfl rfl rfl rfl ?_; refine st_skip rfl rfl rfl rfl ?_; refine st_skip rfl rfl rfl rfl ?_; refine st_skip rfl rfl rfl rfl ?_; refine st_skip rfl rfl rfl rfl ?_; refine st_skip rfl rfl rfl rfl ?_; refine st _ (r_pick_t rfl rfl rfl) ?_; refine st_nil ?_; refine ⟨rfl, jn true ?_ ?_⟩
          · exact ⟨rfl, rfl, rfl, rfl, rfl, rfl, trivial⟩
          · exact ⟨rfl, by rw [sizeOk_iff]; simp; omega⟩
        · (first | (have h28n := of_decide_eq_false h28) | (have h28n := of_decide_eq_true (bnf h28)) | (have h28n := bnf h28) | (have h28n := h28)); refine st_g _ rfl rfl rfl h28 (r_move rfl) ?_; refine st_g _ rfl rfl rfl h28 (r_move rfl) ?_; refine st_g _ rfl rfl rfl h28 (r_len rfl u34 h0.shp) ?_; refine st_g _ rfl rfl rfl h28 (r_gt (a := a) (b := ((l.length : Nat) : Int)) rfl rfl) ?_; refine st _ (r_pick_f rfl h28 rfl) ?_; refine mv rfl ?_; refine part_n (t := 34) rfl (fun h34 => ?_) (fun h34 => ?_)
          · (first | (have h34n := of_decide_eq_true h34) | (have h34n := of_decide_eq_false (bnt h34)) | (have h34n := bnt h34) | (have h34n := h34)); refine st_skip rfl rfl rfl h34 ?_; refine st_skip rfl rfl rfl h34 ?_; refine st_skip rfl rfl rfl h34 ?_; refine st_skip rfl rfl rfl h34 ?_; refine st_skip rfl rfl rfl h34 ?_; refine st_skip rfl rfl rfl h34 ?_; refine st _ (r_pick_t rfl h34 rfl) ?_; refine st_nil ?_; refine ⟨rfl, jn true ?_ ?_⟩
            · exact ⟨rfl, rfl, rfl, rfl, rfl, rfl, trivial⟩
            · exact ⟨rfl, by rw [sizeOk_iff]; simp; omega⟩
          · (first | (have h34n := of_decide_eq_false h34) | (have h34n := of_decide_eq_true (bnf h34)) | (have h34n := bnf h34) | (have h34n := h34)); refine st_g _ rfl rfl rfl h34 (r_move rfl) ?_; refine st_g _ rfl rfl rfl h34 (r_len rfl u34 h0.shp) ?_; refine st_g _ rfl rfl rfl h34 (r_move rfl) ?_; refine st_g _ rfl rfl rfl h34 (r_subI (a := ((l.length : Nat) : Int)) (b := a) rfl rfl (by omega)) ?_; refine st_g _ rfl rfl rfl h34 (r_move rfl) ?_; refine st_g _ rfl rfl rfl h34 (r_lt (a := ((l.length : Nat) : Int) - a) (b := n) rfl rfl) ?_; refine st _ (r_pick_f rfl h34 rfl) ?_; refine part_n (t := 41) rfl (fun h41 => ?_) (fun h41 => ?_)
            · (first | (have h41n := of_decide_eq_true h41) | (have h41n := of_decide_eq_false (bnt h41)) | (have h41n := bnt h41) | (have h41n := h41)); refine st_nil ?_; refine ⟨rfl, jn true ?_ ?_⟩
              · exact ⟨fitB rfl h41, rfl, rfl, rfl, rfl, rfl, trivial⟩
              · exact ⟨rfl, by rw [sizeOk_iff]; simp; omega⟩
            · (first | (have h41n := of_decide_eq_false h41) | (have h41n := of_decide_eq_true (bnf h41)) | (have h41n := bnf h41) | (have h41n := h41)); refine st_nil ?_; refine ⟨rfl, jn false ?_ ?_⟩
              · exact ⟨fitB rfl h41, rfl, rfl, rfl, rfl, rfl, trivial⟩
              · exact ⟨rfl, by rw [sizeOk_iff]; simp; omega⟩
    · (first | (have h12n := of_decide_eq_false h12) | (have h12n := of_decide_eq_true (bnf h12)) | (have h12n := bnf h12) | (have h12n := h12)); refine st_skip rfl rfl rfl h12 ?_; refine st_skip rfl rfl rfl h12 ?_; refine st _ (r_pick_f rfl h12 rfl) ?_; refine mv rfl ?_; refine st_skip rfl rfl rfl rfl ?_; refine st_skip rfl rfl rfl rfl ?_; refine st _ (r_pick_f rfl rfl rfl) ?_; refine mv rfl ?_; refine st_skip rfl rfl rfl rfl ?_; refine st_skip rfl rfl rfl rfl ?_; refine st _ (r_pick_f rfl rfl rfl) ?_; refine mv rfl ?_; refine st_g _ rfl rfl rfl rfl (r_move rfl) ?_; refine st_g _ rfl rfl rfl rfl (r_lt (a := a) (b := 0) rfl rfl) ?_; refine st _ (r_pick_f rfl rfl rfl) ?_; refine mv rfl ?_; refine part_n (t := 28) rfl (fun h28 => ?_) (fun h28 => ?_)
      · (first | (have h28n := of_decide_eq_true h28) | (have h28n := of_decide_eq_false (bnt h28)) | (have h28n := bnt h28) | (have h28n := h28)); refine st_skip rfl rfl rfl h28 ?_; refine st_skip rfl rfl rfl h28 ?_; refine st_skip rfl rfl rfl h28 ?_; refine st_skip rfl rfl rfl h28 ?_; refine st _ (r_pick_t rfl h28 rfl) ?_; refine mv rfl ?_; refine st_skip rfl rfl rfl rfl ?_; refine st_skip rfl rfl rfl rfl ?_; refine st_skip rfl rfl rfl rfl ?_; refine st_skip rfl rfl rfl rfl ?_; refine st_skip rfl rfl rfl rfl ?_; refine st_skip rfl rfl rfl rfl ?_; refine st _ (r_pick_t rfl rfl rfl) ?_; refine st_nil ?_; refine ⟨rfl, jn true ?_ ?_⟩
        · exact ⟨rfl, rfl, rfl, rfl, rfl, rfl, trivial⟩
        · exact ⟨rfl, by rw [sizeOk_iff]; simp; omega⟩
      · (first | (have h28n := of_decide_eq_false h28) | (have h28n := of_decide_eq_true (bnf h28)) | (have h28n := bnf h28) | (have h28n := h28)); refine st_g _ rfl rfl rfl h28 (r_move rfl) ?_; refine st_g _ rfl rfl rfl h28 (r_move rfl) ?_; refine st_g _ rfl rfl rfl h28 (r_len rfl u34 h0.shp) ?_; refine st_g _ rfl rfl rfl h28 (r_gt (a := a) (b := ((l.length : Nat) : Int)) rfl rfl) ?_; refine st _ (r_pick_f rfl h28 rfl) ?_; refine mv rfl ?_; refine part_n (t := 34) rfl (fun h34 => ?_) (fun h34 => ?_)
        · (first | (have h34n := of_decide_eq_true h34) | (have h34n := of_decide_eq_false (bnt h34)) | (have h34n := bnt h34) | (have h34n := h34)); refine st_skip rfl rfl rfl h34 ?_; refine st_skip rfl rfl rfl h34 ?_; refine st_skip rfl rfl rfl h34 ?_; refine st_skip rfl rfl rfl h34 ?_; refine st_skip rfl rfl rfl h34 ?_; refine st_skip rfl rfl rfl h34 ?_; refine st _ (r_pick_t rfl h34 rfl) ?_; refine st_nil ?_; refine ⟨rfl, jn true ?_ ?_⟩
          · exact ⟨rfl, rfl, rfl, rfl, rfl, rfl, trivial⟩
          · exact ⟨rfl, by rw [sizeOk_iff]; simp; omega⟩
        · (first | (have h34n := of_decide_eq_false h34) | (have h34n := of_decide_eq_true (bnf h34)) | (have h34n := bnf h34) | (have h34n := h34)); refine st_g _ rfl rfl rfl h34 (r_move rfl) ?_; refine st_g _ rfl rfl rfl h34 (r_len rfl u34 h0.shp) ?_; refine st_g _ rfl rfl rfl h34 (r_move rfl) ?_; refine st_g _ rfl rfl rfl h34 (r_subI (a := ((l.length : Nat) : Int)) (b := a) rfl rfl (by omega)) ?_; refine st_g _ rfl rfl rfl h34 (r_move rfl) ?_; refine st_g _ rfl rfl rfl h34 (r_lt (a := ((l.length : Nat) : Int) - a) (b := n) rfl rfl) ?_; refine st _ (r_pick_f rfl h34 rfl) ?_; refine part_n (t := 41) rfl (fun h41 => ?_) (fun h41 => ?_)
          · (first | (have h41n := of_decide_eq_true h41) | (have h41n := of_decide_eq_false (bnt h41)) | (have h41n := bnt h41) | (have h41n := h41)); refine st_nil ?_; refine ⟨rfl, jn true ?_ ?_⟩
            · exact ⟨fitB rfl h41, rfl, rfl, rfl, rfl, rfl, trivial⟩
            · exact ⟨rfl, by rw [sizeOk_iff]; simp; omega⟩
          · (first | (have h41n := of_decide_eq_false h41) | (have h41n := of_decide_eq_true (bnf h41)) | (have h41n := bnf h41) | (have h41n := h41)); refine st_nil ?_; refine ⟨rfl, jn false ?_ ?_⟩
            · exact ⟨fitB rfl h41, rfl, rfl, rfl, rfl, rfl, trivial⟩
            · exact ⟨rfl, by rw [sizeOk_iff]; simp; omega⟩
  · rintro b41 B _ ⟨rfl, j41⟩
    refine c_boolcase b41 (fun h41 => ?_) (fun h41 => ?_)
    · replace j41 := j41.1 h41; refine c_then ?_; refine c_if_t rfl h41 ?_; refine ns ?_; refine asg rfl ?_; refine asg rfl ?_; refine nt ?_; refine c_ret ?_; refine r_then ?_; exact retL (vs := [(.int .u64 ((0 : Nat) : Int)), (.bool false)]) trivial rfl ⟨rfl, rfl, trivial⟩ rfl ⟨0, false, rfl, M, (by first | assumption | omega | simp_all), (getF_no (by omega))⟩
    · replace j41 := mt j41.2 (by rw [h41]; simp); refine c_then ?_; refine c_if_f rfl h41 ?_; refine c_skip ?_; refine c_then ?_; refine c_seq ?_; replace j41 := Classical.not_not.1 j41; have hs := sizeOk_le j41.1; refine c_region ?_; refine asg rfl ?_; refine nt ?_; refine c_seq ?_; refine ns ?_; refine mv rfl ?_; refine st _ (r_subI (a := n) (b := 1) rfl rfl (by omega)) ?_; refine asg rfl ?_; refine nt ?_; refine c_block ?_
      
      refine loop2 (fun (v : Nat) (i : Int) => [(8, (.int .u64 ((v : Nat) : Int))), (9, (.int .i64 (i : Int))), (0, v0), (1, (.int .i64 (a : Int))), (6, (.int .u64 ((0 : Nat) : Int))), (7, (.bool false))]) (fun (v : Nat) (i : Int) w' => ∃ Q' : Nat → Prop, (∀ b, Q' b → Q b) ∧ (∀ b, Q b → b < w.heap.size → Q' b) ∧ Up w' Q' ∧ Md [] w w' ∧ Ls tB8 w' Q' v0 l ∧ (-1 ≤ i ∧ i < n) ∧ v = leN ((l.drop (a + (i + 1)).toNat).take (n - 1 - i).toNat) ∧ v < 18446744073709551616) (fun (v : Nat) (i : Int) => (i + 1).toNat) (x0 := 0) (x1 := (n - 1)) ?_ ?_ ?_
      · exact ⟨rfl, rfl, rfl, rfl, rfl, rfl, trivial⟩
      · exact ⟨Q, tQ, sQ0, uQ, M, h0, (by omega), (by simp [show n - 1 - (n - 1) = 0 by omega, leN]), (by omega)⟩
      · clear M uQ tQ sQ0 h0
        rintro v i B w1 ⟨Q2, tQ, sQ0, uQ, M, h0, i0_0, i0_1, i0_2⟩; refine c_seq ?_; refine ns ?_; refine mv rfl ?_; refine st _ (r_ge (a := i) (b := 0) rfl rfl) ?_; refine nt ?_; refine c_if rfl (fun h45 => ?_) (fun h45 => ?_)
        · (first | (have h45n := of_decide_eq_true h45) | (have h45n := of_decide_eq_false (bnt h45)) | (have h45n := bnt h45) | (have h45n := h45)); have hv := leN_lt_of (l := (l.drop (a + (i + 1)).toNat).take (n - 1 - i).toNat) (k := 7) (by simp; omega); rw [← i0_1] at hv; refine c_skip ?_; refine c_then ?_; refine c_seq ?_; refine c_block ?_; refine c_region ?_; refine mv rfl ?_; refine st _ (r_mulN (a := v) (b := 256) 18446744073709551616 rfl rfl rfl (by omega)) ?_; refine mv rfl ?_; refine mv rfl ?_; refine mv rfl ?_; refine st _ (r_addI (a := a) (b := i) rfl rfl (by omega)) ?_; refine st _ (r_indexZ (i := a + i) 1 rfl rfl u34 el5 h0.shp (by omega)) ?_; obtain ⟨x3, hx3⟩ := getE (l := l) (i := (a + i).toNat) (by first | omega | (simp <;> omega)); obtain ⟨c4, hr3, ha3⟩ := h0.get hx3; obtain ⟨rfl, _⟩ := hr3; have yx3 := UInt8.toNat_lt x3; replace ha3 : At _ v0 (((a + i).toNat) * 1) [(b8 x3)] := ha3; refine st _ ((r_loadE (kk := ((a + i).toNat) * 1) 0 rfl rfl one5 ha3 rfl).to (b := (b8 x3)) rfl) ?_; refine st _ (r_convN (a := x3.toNat) 18446744073709551616 rfl (by rw [u5]; rfl) u39 rfl (Nat.lt_of_lt_of_le (UInt8.toNat_lt _) (by decide))) ?_; refine st _ (r_addN (a := (v * 256)) (b := x3.toNat) 18446744073709551616 rfl rfl rfl (by omega)) ?_; refine asg rfl ?_; refine st_nil ?_; clear ha3; refine n_block ?_; refine c_then ?_; refine c_region ?_; refine mv rfl ?_; refine st _ (r_subI (a := i) (b := 1) rfl rfl (by omega)) ?_; refine asg rfl ?_; refine nt ?_; refine next2 (x0 := ((v * 256) + x3.toNat)) (x1 := (i - 1)) (by omega) ⟨(fitI rfl (by first | rfl | omega)), (fitI rfl (by omega)), rfl, rfl, rfl, rfl, trivial⟩ ⟨Q2, tQ, sQ0, uQ, M, h0, (by omega), (by rw [i0_1]; have hx := leN_step (k := (n - 1 - i).toNat) hx3; rw [show (n - 1 - (i - 1)).toNat = (n - 1 - i).toNat + 1 by omega, show (a + (i - 1 + 1)).toNat = (a + i).toNat by omega, hx, show (a + i).toNat + 1 = (a + (i + 1)).toNat by omega]; omega), (by omega)⟩
        · (first | (have h45n := of_decide_eq_false h45) | (have h45n := of_decide_eq_true (bnf h45)) | (have h45n := bnf h45) | (have h45n := h45)); refine c_exit ?_; refine x_then ?_; refine x_then ?_; refine x_hit ?_; refine c_then ?_; refine ns ?_; refine mv rfl ?_; refine asg rfl ?_; refine asg rfl ?_; refine nt ?_; refine c_ret ?_; exact retL (vs := [(.int .u64 ((v : Nat) : Int)), (.bool true)]) trivial rfl ⟨rfl, rfl, trivial⟩ rfl ⟨v, true, rfl, M, (by first | assumption | omega | simp_all), (by rw [getF, if_pos (by omega), i0_1, show i = -1 by omega]; simp)⟩
end Go.Proofs.Ytklggjhnjlhhcaa
namespace Go.Proofs.Ytklggjhnjlhhcaa
open Go Go.Wk Go.RowKit
attribute [local irreducible] wpList wpQuiet wpStill wpMix Code.wp Calls bodyPost
theorem agg154 : isAggN Try.prog 154 4 = true := by kernel_rfl
theorem agg38 : isAggN Try.prog 38 16 = true := by kernel_rfl
theorem el39 : elemIs Try.prog 39 1 = true := by kernel_rfl
theorem fn56 : isFn Try.prog 56 = true := by kernel_rfl
theorem fn67 : isFn Try.prog 67 = true := by kernel_rfl
theorem fn68 : isFn Try.prog 68 = true := by kernel_rfl
theorem fn80 : isFn Try.prog 80 = true := by kernel_rfl
theorem fn81 : isFn Try.prog 81 = true := by kernel_rfl
theorem fn82 : isFn Try.prog 82 = true := by kernel_rfl
theorem fn83 : isFn Try.prog 83 = true := by kernel_rfl
theorem fn87 : isFn Try.prog 87 = true := by kernel_rfl
theorem mixed : Try.prog.follows .mixedOrders = true := by kernel_rfl
theorem one39 : isOne Try.prog 39 = true := by kernel_rfl
theorem pl154 : bplace Try.prog 154 = some [(0, 1), (1, 1), (2, 1), (3, 1)] := by kernel_rfl
theorem u154 : Try.prog.underlying 154 = some (.array 4 39) := by kernel_rfl
theorem u3 : Try.prog.underlying 3 = some (.int .i64) := by kernel_rfl
theorem u36 : Try.prog.underlying 36 = some (.int .u32) := by kernel_rfl
theorem u38 : Try.prog.underlying 38 = some (.array 16 5) := by kernel_rfl
theorem z154 : zcells Try.prog 154 = some [.int .u64 0, .int .u64 0, .int .u64 0, .int .u64 0] := by kernel_rfl

theorem turn_any (x k : Int) (w : World) (h0 : 0 ≤ k) (h1 : k < 32) : Calls Try.prog 83 #[.int .u32 x, .int .u64 k] w fun e w' => e = .returned (.int .u32 (rot32 x k)) ∧ w = w' := by
  have M := Md.refl [] w; refine enter (n := 13) Try.func83 rfl rfl rfl ?_; intro B; refine ns ?_; refine asg rfl ?_; refine nt ?_; refine ns ?_; refine mv rfl ?_; refine mv rfl ?_; refine st _ (r_shl rfl rfl (by omega)) ?_; refine mv rfl ?_; refine mv rfl ?_; refine st _ ((r_sub rfl rfl).castI (wrap_u64 (by omega) (by omega))) ?_; refine st _ (r_shr rfl rfl (by omega)) ?_; refine st _ (r_or rfl rfl) ?_; refine asg rfl ?_; refine nt ?_; refine c_ret ?_; exact ret1 trivial rfl rfl ⟨rfl, rfl⟩
theorem up_any (x k : Int) (w : World) (h0 : 0 ≤ k) (h1 : k < 64) : Calls Try.prog 87 #[.int .u64 x, .int .u64 k] w fun e w' => e = .returned (.int .u64 (rot64 x k)) ∧ w = w' := by
  have M := Md.refl [] w; refine enter (n := 13) Try.func87 rfl rfl rfl ?_; intro B; refine ns ?_; refine asg rfl ?_; refine nt ?_; refine ns ?_; refine mv rfl ?_; refine mv rfl ?_; refine st _ (r_shl rfl rfl (by omega)) ?_; refine mv rfl ?_; refine mv rfl ?_; refine st _ ((r_sub rfl rfl).castI (wrap_u64 (by omega) (by omega))) ?_; refine st _ (r_shr rfl rfl (by omega)) ?_; refine st _ (r_or rfl rfl) ?_; refine asg rfl ?_; refine nt ?_; refine c_ret ?_; exact ret1 trivial rfl rfl ⟨rfl, rfl⟩
theorem word_any (v : Value) (l : List UInt8) (a : Int) (w : World) (hB : By w v l) (ha : 0 ≤ a) (ha2 : a ≤ 4611686018427387904) :
    Calls Try.prog 82 #[v, .int .i64 a] w fun e w' => e = .returned (.int .u32 (le4 l a.toNat)) ∧ w = w' := by
  have hlen := hB.len63; have M := Md.refl [] w; refine enter (n := 29) Try.func82 rfl rfl rfl ?_; intro B; refine ns ?_; refine asg rfl ?_; refine nt ?_; refine ns ?_; refine asg rfl ?_; refine nt ?_; refine c_seq ?_; refine ns ?_; refine asg rfl ?_; refine nt ?_; refine c_block ?_; refine c_loop (X := Nat) (fun k => [(0, v), (1, .int .i64 a), (5, .int .u32 (le4To l a.toNat k)), (6, .int .i64 (3 - k))]) (fun k w' => w = w' ∧ k ≤ 4) (fun k => 4 - k) 0 ?_ ?_ ?_
  · exact ⟨rfl, rfl, rfl, rfl, trivial⟩
  · exact ⟨rfl, by omega⟩
  · clear M
    rintro k B w1 ⟨rfl, hk⟩; have M := Md.refl [] w; refine c_seq ?_; refine ns ?_; refine mv rfl ?_; refine st _ (r_ge rfl rfl) ?_; refine nt ?_; refine c_if rfl (fun h8 => ?_) (fun h8 => ?_)
    · (first | (have h8n := of_decide_eq_true h8) | (have h8n := of_decide_eq_false (bnt h8)) | (have h8n := bnt h8) | (have h8n := h8)); refine c_skip ?_; refine c_then ?_; refine c_seq ?_; refine c_block ?_; refine ns ?_; refine mv rfl ?_; refine st _ (r_shl rfl rfl (by omega)) ?_; refine asg rfl ?_; refine nt ?_; refine ns ?_; refine mv rfl ?_; refine mv rfl ?_; refine st _ (r_addI rfl rfl (by omega)) ?_; refine mv rfl ?_; refine st _ (r_len rfl u34 hB.shp) ?_; refine st _ (r_lt rfl rfl) ?_; refine nt ?_; refine c_if rfl (fun h18 => ?_) (fun h18 => ?_)
      · (first | (have h18n := of_decide_eq_true h18) | (have h18n := of_decide_eq_false (bnt h18)) | (have h18n := bnt h18) | (have h18n := h18)); refine c_region ?_; refine mv rfl ?_; refine mv rfl ?_; refine mv rfl ?_; refine mv rfl ?_; refine st _ (r_addI rfl rfl (by omega)) ?_; refine st _ (r_index rfl rfl u34 el5 hB.shp (by omega)) ?_; refine st _ (r_loadB rfl one5 (hB.md0 M) (by omega)) ?_; refine st _ (r_conv (by rw [u5]; rfl) u36 rfl) ?_; refine st _ (r_or rfl rfl) ?_; refine asg rfl ?_; refine st_nil ?_; refine n_block ?_; refine c_then ?_; refine c_region ?_; refine mv rfl ?_; refine st _ (r_subI rfl rfl (by omega)) ?_; refine asg rfl ?_; refine nt ?_; refine next (k + 1) (by omega) ⟨rfl, rfl, fitI rfl (word_in l a k ha (by omega) (by omega)), fitI rfl (by omega), trivial⟩ ?_; exact ⟨rfl, by omega⟩
      · (first | (have h18n := of_decide_eq_false h18) | (have h18n := of_decide_eq_true (bnf h18)) | (have h18n := bnf h18) | (have h18n := h18)); refine c_skip ?_; refine n_block ?_; refine c_then ?_; refine c_region ?_; refine mv rfl ?_; refine st _ (r_subI rfl rfl (by omega)) ?_; refine asg rfl ?_; refine nt ?_; refine next (k + 1) (by omega) ⟨rfl, rfl, fitI rfl (word_out l a k ha (by omega) (by omega)), fitI rfl (by omega), trivial⟩ ?_; exact ⟨rfl, by omega⟩
    · (first | (have h8n := of_decide_eq_false h8) | (have h8n := of_decide_eq_true (bnf h8)) | (have h8n := bnf h8) | (have h8n := h8)); refine c_exit ?_; refine x_then ?_; refine x_then ?_; refine x_hit ?_; refine c_then ?_; refine ns ?_; refine mv rfl ?_; refine asg rfl ?_; refine nt ?_; refine c_ret ?_; exact ret1 trivial rfl rfl ⟨retI (by obtain rfl : k = 4 := (by omega); rfl), rfl⟩
theorem rlookup_any (v : Value) (l : List UInt8) (w : World) (hB : By w v l) (hl : l.length ≤ 4611686018427387000) :
    Calls Try.prog 68 #[v] w fun e w' => e = .returned (.int .u64 (lookup l)) ∧ w = w' := by
  have hlen := hB.len63; have M := Md.refl [] w; refine enter (n := 178) Try.func68 rfl rfl rfl ?_; intro B; refine ns ?_; refine asg rfl ?_; refine nt ?_; refine ns ?_; refine mv rfl ?_; refine st _ (r_len rfl u34 hB.shp) ?_; refine st _ (r_conv (by rw [u3]; rfl) u36 rfl) ?_; refine st _ (r_add rfl rfl) ?_; refine asg rfl ?_; refine nt ?_; refine ns ?_; refine mv rfl ?_; refine mv rfl ?_; refine asg rfl ?_; refine asg rfl ?_; refine nt ?_; refine c_seq ?_; refine ns ?_; refine mv rfl ?_; refine st _ (r_len rfl u34 hB.shp) ?_; refine st _ (r_eq rfl rfl) ?_; refine nt ?_; refine c_if rfl (fun h15 => ?_) (fun h15 => ?_)
  · (first | (have h15n := of_decide_eq_true h15) | (have h15n := of_decide_eq_false (bnt h15)) | (have h15n := bnt h15) | (have h15n := h15)); refine ns ?_; refine mv rfl ?_; refine st _ (r_conv (by rw [u36]; rfl) u39 rfl) ?_; refine st _ (r_shl rfl rfl (by omega)) ?_; refine mv rfl ?_; refine st _ (r_conv (by rw [u36]; rfl) u39 rfl) ?_; refine st _ (r_or rfl rfl) ?_; refine asg rfl ?_; refine nt ?_; refine c_ret ?_; refine r_then ?_; refine ret1 trivial rfl rfl ⟨retI ?_, rfl⟩; rw [show l = [] from List.eq_nil_of_length_eq_zero (by omega)]; rfl
  · (first | (have h15n := of_decide_eq_false h15) | (have h15n := of_decide_eq_true (bnf h15)) | (have h15n := bnf h15) | (have h15n := h15)); refine c_skip ?_; refine c_then ?_; refine ns ?_; refine asg rfl ?_; refine nt ?_; refine c_seq ?_; refine c_block ?_; refine c_loop (X := T3 × Nat) (fun x => [(0, v), (3, .int .u32 x.1.x), (4, .int .u32 x.1.y), (5, .int .u32 x.1.z), (6, .int .i64 x.2)]) (fun x w' => w = w' ∧ x.2 < l.length ∧ lk x.1 (l.drop x.2) = lookup l) (fun x => l.length - x.2) (lkInit l, 0) ?_ ?_ ?_
    · exact ⟨rfl, rfl, rfl, rfl, rfl, trivial⟩
    · exact ⟨rfl, by omega, rfl⟩
    · clear M
      rintro x B w1 ⟨rfl, hk, hlk⟩; have M := Md.refl [] w; refine c_seq ?_; refine ns ?_; refine mv rfl ?_; refine st _ (r_len rfl u34 hB.shp) ?_; refine mv rfl ?_; refine st _ (r_subI rfl rfl (by omega)) ?_; refine st _ (r_gt rfl rfl) ?_; refine nt ?_; refine c_if rfl (fun h26 => ?_) (fun h26 => ?_)
      · (first | (have h26n := of_decide_eq_true h26) | (have h26n := of_decide_eq_false (bnt h26)) | (have h26n := bnt h26) | (have h26n := h26)); refine c_skip ?_; refine c_then ?_; refine c_block ?_; refine ns ?_; refine mv rfl ?_; refine mv rfl ?_; refine mv rfl ?_; refine st_call fn82 rfl (word_any _ _ _ _ (hB.md0 M) (by omega) (by omega)) ?_; rintro e _ ⟨rfl, rfl⟩; refine ⟨_, rfl, ?_⟩; refine st _ (r_add rfl rfl) ?_; refine mv rfl ?_; refine mv rfl ?_; refine mv rfl ?_; refine st _ (r_addI rfl rfl (by omega)) ?_; refine st_call fn82 rfl (word_any _ _ _ _ (hB.md0 M) (by omega) (by omega)) ?_; rintro e _ ⟨rfl, rfl⟩; refine ⟨_, rfl, ?_⟩; refine st _ (r_add rfl rfl) ?_; refine mv rfl ?_; refine mv rfl ?_; refine mv rfl ?_; refine st _ (r_addI rfl rfl (by omega)) ?_; refine st_call fn82 rfl (word_any _ _ _ _ (hB.md0 M) (by omega) (by omega)) ?_; rintro e _ ⟨rfl, rfl⟩; refine ⟨_, rfl, ?_⟩; refine st _ (r_add rfl rfl) ?_; refine asg rfl ?_; refine asg rfl ?_; refine asg rfl ?_; refine nt ?_; refine ns ?_; refine mv rfl ?_; refine mv rfl ?_; refine st _ (r_sub rfl rfl) ?_; refine asg rfl ?_; refine nt ?_; refine ns ?_; refine mv rfl ?_; refine mv rfl ?_; refine st_call fn83 rfl (turn_any _ _ _ (by decide) (by decide)) ?_; rintro e _ ⟨rfl, rfl⟩; refine ⟨_, rfl, ?_⟩; refine st _ (r_xor rfl rfl) ?_; refine asg rfl ?_; refine nt ?_; refine ns ?_; refine mv rfl ?_; refine mv rfl ?_; refine st _ (r_add rfl rfl) ?_; refine asg rfl ?_; refine nt ?_; refine ns ?_; refine mv rfl ?_; refine mv rfl ?_; refine st _ (r_sub rfl rfl) ?_; refine asg rfl ?_; refine nt ?_; refine ns ?_; refine mv rfl ?_; refine mv rfl ?_; refine st_call fn83 rfl (turn_any _ _ _ (by decide) (by decide)) ?_; rintro e _ ⟨rfl, rfl⟩; refine ⟨_, rfl, ?_⟩; refine st _ (r_xor rfl rfl) ?_; refine asg rfl ?_; refine nt ?_; refine ns ?_; refine mv rfl ?_; refine mv rfl ?_; refine st _ (r_add rfl rfl) ?_
        refine asg rfl ?_; refine nt ?_; refine ns ?_; refine mv rfl ?_; refine mv rfl ?_; refine st _ (r_sub rfl rfl) ?_; refine asg rfl ?_; refine nt ?_; refine ns ?_; refine mv rfl ?_; refine mv rfl ?_; refine st_call fn83 rfl (turn_any _ _ _ (by decide) (by decide)) ?_; rintro e _ ⟨rfl, rfl⟩; refine ⟨_, rfl, ?_⟩; refine st _ (r_xor rfl rfl) ?_; refine asg rfl ?_; refine nt ?_; refine ns ?_; refine mv rfl ?_; refine mv rfl ?_; refine st _ (r_add rfl rfl) ?_; refine asg rfl ?_; refine nt ?_; refine ns ?_; refine mv rfl ?_; refine mv rfl ?_; refine st _ (r_sub rfl rfl) ?_; refine asg rfl ?_; refine nt ?_; refine ns ?_; refine mv rfl ?_; refine mv rfl ?_; refine st_call fn83 rfl (turn_any _ _ _ (by decide) (by decide)) ?_; rintro e _ ⟨rfl, rfl⟩; refine ⟨_, rfl, ?_⟩; refine st _ (r_xor rfl rfl) ?_; refine asg rfl ?_; refine nt ?_; refine ns ?_; refine mv rfl ?_; refine mv rfl ?_; refine st _ (r_add rfl rfl) ?_; refine asg rfl ?_; refine nt ?_; refine ns ?_; refine mv rfl ?_; refine mv rfl ?_; refine st _ (r_sub rfl rfl) ?_; refine asg rfl ?_; refine nt ?_; refine ns ?_; refine mv rfl ?_; refine mv rfl ?_; refine st_call fn83 rfl (turn_any _ _ _ (by decide) (by decide)) ?_; rintro e _ ⟨rfl, rfl⟩; refine ⟨_, rfl, ?_⟩; refine st _ (r_xor rfl rfl) ?_; refine asg rfl ?_; refine nt ?_; refine ns ?_; refine mv rfl ?_; refine mv rfl ?_; refine st _ (r_add rfl rfl) ?_; refine asg rfl ?_; refine nt ?_; refine ns ?_; refine mv rfl ?_; refine mv rfl ?_; refine st _ (r_sub rfl rfl) ?_; refine asg rfl ?_; refine nt ?_; refine ns ?_; refine mv rfl ?_; refine mv rfl ?_; refine st_call fn83 rfl (turn_any _ _ _ (by decide) (by decide)) ?_
        rintro e _ ⟨rfl, rfl⟩; refine ⟨_, rfl, ?_⟩; refine st _ (r_xor rfl rfl) ?_; refine asg rfl ?_; refine nt ?_; refine ns ?_; refine mv rfl ?_; refine mv rfl ?_; refine st _ (r_add rfl rfl) ?_; refine asg rfl ?_; refine nt ?_; refine c_region ?_; refine mv rfl ?_; refine st _ (r_addI rfl rfl (by omega)) ?_; refine asg rfl ?_; refine st_nil ?_; refine n_block ?_; refine c_then ?_; refine next ((mix ⟨w32 (x.1.x + le4 l (x.2 : Int).toNat), w32 (x.1.y + le4 l (x.2 + 4 : Int).toNat), w32 (x.1.z + le4 l (x.2 + 8 : Int).toNat)⟩, x.2 + 12)) (by simp; omega) ⟨rfl, rfl, rfl, rfl, fitI rfl (by simp), trivial⟩ ?_; refine ⟨rfl, by simp; omega, ?_⟩; rw [← hlk, lk_step _ (l.drop x.2) (by simp; omega), ref_add12, List.drop_drop]
      · (first | (have h26n := of_decide_eq_false h26) | (have h26n := of_decide_eq_true (bnf h26)) | (have h26n := bnf h26) | (have h26n := h26)); refine c_exit ?_; refine x_then ?_; refine x_then ?_; refine x_hit ?_; refine c_then ?_; refine ns ?_; refine mv rfl ?_; refine mv rfl ?_; refine mv rfl ?_; refine st_call fn82 rfl (word_any _ _ _ _ (hB.md0 M) (by omega) (by omega)) ?_; rintro e _ ⟨rfl, rfl⟩; refine ⟨_, rfl, ?_⟩; refine st _ (r_add rfl rfl) ?_; refine mv rfl ?_; refine mv rfl ?_; refine mv rfl ?_; refine st _ (r_addI rfl rfl (by omega)) ?_; refine st_call fn82 rfl (word_any _ _ _ _ (hB.md0 M) (by omega) (by omega)) ?_; rintro e _ ⟨rfl, rfl⟩; refine ⟨_, rfl, ?_⟩; refine st _ (r_add rfl rfl) ?_; refine mv rfl ?_; refine mv rfl ?_; refine mv rfl ?_; refine st _ (r_addI rfl rfl (by omega)) ?_; refine st_call fn82 rfl (word_any _ _ _ _ (hB.md0 M) (by omega) (by omega)) ?_; rintro e _ ⟨rfl, rfl⟩; refine ⟨_, rfl, ?_⟩; refine st _ (r_add rfl rfl) ?_; refine asg rfl ?_; refine asg rfl ?_; refine asg rfl ?_; refine nt ?_; refine ns ?_; refine mv rfl ?_; refine mv rfl ?_; refine st _ (r_xor rfl rfl) ?_; refine asg rfl ?_; refine nt ?_; refine ns ?_; refine mv rfl ?_; refine mv rfl ?_; refine st_call fn83 rfl (turn_any _ _ _ (by decide) (by decide)) ?_; rintro e _ ⟨rfl, rfl⟩; refine ⟨_, rfl, ?_⟩; refine st _ (r_sub rfl rfl) ?_; refine asg rfl ?_; refine nt ?_; refine ns ?_; refine mv rfl ?_; refine mv rfl ?_; refine st _ (r_xor rfl rfl) ?_; refine asg rfl ?_; refine nt ?_; refine ns ?_; refine mv rfl ?_; refine mv rfl ?_; refine st_call fn83 rfl (turn_any _ _ _ (by decide) (by decide)) ?_; rintro e _ ⟨rfl, rfl⟩; refine ⟨_, rfl, ?_⟩; refine st _ (r_sub rfl rfl) ?_; refine asg rfl ?_; refine nt ?_; refine ns ?_; refine mv rfl ?_; refine mv rfl ?_; refine st _ (r_xor rfl rfl) ?_; refine asg rfl ?_; refine nt ?_; refine ns ?_; refine mv rfl ?_; refine mv rfl ?_
        refine st_call fn83 rfl (turn_any _ _ _ (by decide) (by decide)) ?_; rintro e _ ⟨rfl, rfl⟩; refine ⟨_, rfl, ?_⟩; refine st _ (r_sub rfl rfl) ?_; refine asg rfl ?_; refine nt ?_; refine ns ?_; refine mv rfl ?_; refine mv rfl ?_; refine st _ (r_xor rfl rfl) ?_; refine asg rfl ?_; refine nt ?_; refine ns ?_; refine mv rfl ?_; refine mv rfl ?_; refine st_call fn83 rfl (turn_any _ _ _ (by decide) (by decide)) ?_; rintro e _ ⟨rfl, rfl⟩; refine ⟨_, rfl, ?_⟩; refine st _ (r_sub rfl rfl) ?_; refine asg rfl ?_; refine nt ?_; refine ns ?_; refine mv rfl ?_; refine mv rfl ?_; refine st _ (r_xor rfl rfl) ?_; refine asg rfl ?_; refine nt ?_; refine ns ?_; refine mv rfl ?_; refine mv rfl ?_; refine st_call fn83 rfl (turn_any _ _ _ (by decide) (by decide)) ?_; rintro e _ ⟨rfl, rfl⟩; refine ⟨_, rfl, ?_⟩; refine st _ (r_sub rfl rfl) ?_; refine asg rfl ?_; refine nt ?_; refine ns ?_; refine mv rfl ?_; refine mv rfl ?_; refine st _ (r_xor rfl rfl) ?_; refine asg rfl ?_; refine nt ?_; refine ns ?_; refine mv rfl ?_; refine mv rfl ?_; refine st_call fn83 rfl (turn_any _ _ _ (by decide) (by decide)) ?_; rintro e _ ⟨rfl, rfl⟩; refine ⟨_, rfl, ?_⟩; refine st _ (r_sub rfl rfl) ?_; refine asg rfl ?_; refine nt ?_; refine ns ?_; refine mv rfl ?_; refine mv rfl ?_; refine st _ (r_xor rfl rfl) ?_; refine asg rfl ?_; refine nt ?_; refine ns ?_; refine mv rfl ?_; refine mv rfl ?_; refine st_call fn83 rfl (turn_any _ _ _ (by decide) (by decide)) ?_; rintro e _ ⟨rfl, rfl⟩; refine ⟨_, rfl, ?_⟩; refine st _ (r_sub rfl rfl) ?_; refine asg rfl ?_; refine nt ?_; refine ns ?_; refine mv rfl ?_; refine st _ (r_conv (by rw [u36]; rfl) u39 rfl) ?_; refine st _ (r_shl rfl rfl (by omega)) ?_; refine mv rfl ?_; refine st _ (r_conv (by rw [u36]; rfl) u39 rfl) ?_; refine st _ (r_or rfl rfl) ?_; refine asg rfl ?_
        refine nt ?_; refine c_ret ?_; refine ret1 trivial rfl rfl ⟨retI ?_, rfl⟩; rw [← hlk, lk_last _ _ (by intro h; have := congrArg List.length h; simp at this; omega) (by simp; omega), ← ref_add12]; rfl
theorem eight_any (v : Value) (l : List UInt8) (a : Int) (w : World) (hB : By w v l) (ha : 0 ≤ a) (ha2 : a ≤ 4611686018427387000) :
    Calls Try.prog 80 #[v, .int .i64 a] w fun e w' => e = .returned (.int .u64 (le8 l a.toNat)) ∧ w = w' := by
  have hlen := hB.len63; have M := Md.refl [] w; refine enter (n := 16) Try.func80 rfl rfl rfl ?_; intro B; refine ns ?_; refine asg rfl ?_; refine nt ?_; refine ns ?_; refine mv rfl ?_; refine mv rfl ?_; refine st_call fn82 rfl (word_any _ _ _ _ (hB.md0 M) (by omega) (by omega)) ?_; rintro e _ ⟨rfl, rfl⟩; refine ⟨_, rfl, ?_⟩; refine st _ (r_conv (by rw [u36]; rfl) u39 rfl) ?_; refine mv rfl ?_; refine mv rfl ?_; refine st _ (r_addI rfl rfl (by omega)) ?_; refine st_call fn82 rfl (word_any _ _ _ _ (hB.md0 M) (by omega) (by omega)) ?_; rintro e _ ⟨rfl, rfl⟩; refine ⟨_, rfl, ?_⟩; refine st _ (r_conv (by rw [u36]; rfl) u39 rfl) ?_; refine st _ (r_shl rfl rfl (by omega)) ?_; refine st _ (r_or rfl rfl) ?_; refine asg rfl ?_; refine nt ?_; refine c_ret ?_; exact ret1 trivial rfl rfl ⟨retI (eight_eq l a ha), rfl⟩
theorem rrounds_any (v : S4) (t : Int) (w : World) (ht : 0 ≤ t) (ht2 : t ≤ 100) :
    Calls Try.prog 81 #[.agg v.arr.toArray, .int .i64 t] w fun e w' => e = .returned (.agg (sipRounds t.toNat v).arr.toArray) ∧ Md [] w w' := by
  have M := Md.refl [] w; refine enter (n := 64) Try.func81 rfl rfl rfl ?_; intro B; refine ns ?_; refine st_box rfl rfl ?_; intro bV w1 gV lV hm hV; replace gV := Nat.le_trans M.size gV; replace M := M.step0 hm; refine st_alloc z154 ?_; intro bR w2 gR lR hm hR; have nhVR : bV ≠ bR := (by have := hV.lt; omega); replace gR := Nat.le_trans M.size gR; replace hV := hV.md0 hm; replace M := M.step0 hm; refine nt ?_; refine c_seq ?_; refine c_quiet (fun w' => Md [] w2 w') mixed (by kernel_rfl) (Md.drew w2) ?_; refine q _ (fun w' m => r_indexArr rfl rfl u154 el39 (by omega)) ?_; refine q _ (fun w' m => r_loadBlk rfl one39 (hV.md0 m) rfl) ?_; refine q _ (fun w' m => r_indexArr rfl rfl u154 el39 (by omega)) ?_; refine q _ (fun w' m => r_loadBlk rfl one39 (hV.md0 m) rfl) ?_; refine q _ (fun w' m => r_indexArr rfl rfl u154 el39 (by omega)) ?_; refine q _ (fun w' m => r_loadBlk rfl one39 (hV.md0 m) rfl) ?_; refine q _ (fun w' m => r_indexArr rfl rfl u154 el39 (by omega)) ?_; refine q _ (fun w' m => r_loadBlk rfl one39 (hV.md0 m) rfl) ?_; refine q _ (fun w' m => r_assign rfl) ?_; refine q _ (fun w' m => r_assign rfl) ?_; refine q _ (fun w' m => r_assign rfl) ?_; refine q _ (fun w' m => r_assign rfl) ?_; refine q_nil ?_; intro w3 hm; replace hV := hV.md0 hm; replace hR := hR.md0 hm; replace M := M.step0 hm; refine c_then ?_; refine c_seq ?_; refine ns ?_; refine asg rfl ?_; refine nt ?_; refine c_block ?_; refine c_loop (X := Nat) (fun k => [(1, .int .i64 t), (4, .pointer (some ⟨bR, 0, none⟩)), (5, .int .u64 (sipRounds k v).p), (6, .int .u64 (sipRounds k v).q), (7, .int .u64 (sipRounds k v).r), (8, .int .u64 (sipRounds k v).s), (9, .int .i64 k)]) (fun k w' => Md [] w w' ∧ Blk w' bR [.int .u64 0, .int .u64 0, .int .u64 0, .int .u64 0] 154 ∧ (k : Int) ≤ t) (fun k => (t - k).toNat) 0 ?_ ?_ ?_
  · exact ⟨rfl, rfl, rfl, rfl, rfl, rfl, rfl, trivial⟩
  · exact ⟨M, hR, ht⟩
  · clear M
    clear hR hV; rintro k B w4 ⟨M, hR, hk⟩; refine c_seq ?_; refine ns ?_; refine mv rfl ?_; refine mv rfl ?_; refine st _ (r_lt rfl rfl) ?_; refine nt ?_; refine c_if rfl (fun h20 => ?_) (fun h20 => ?_)
    · (first | (have h20n := of_decide_eq_true h20) | (have h20n := of_decide_eq_false (bnt h20)) | (have h20n := bnt h20) | (have h20n := h20)); refine c_skip ?_; refine c_then ?_; refine c_seq ?_; refine c_block ?_; refine ns ?_; refine mv rfl ?_; refine mv rfl ?_; refine st _ (r_add rfl rfl) ?_; refine asg rfl ?_; refine nt ?_; refine ns ?_; refine mv rfl ?_; refine st_call fn87 rfl (up_any _ _ _ (by decide) (by decide)) ?_; rintro e _ ⟨rfl, rfl⟩; refine ⟨_, rfl, ?_⟩; refine asg rfl ?_; refine nt ?_; refine ns ?_; refine mv rfl ?_; refine mv rfl ?_; refine st _ (r_xor rfl rfl) ?_; refine asg rfl ?_; refine nt ?_; refine ns ?_; refine mv rfl ?_; refine st_call fn87 rfl (up_any _ _ _ (by decide) (by decide)) ?_; rintro e _ ⟨rfl, rfl⟩; refine ⟨_, rfl, ?_⟩; refine asg rfl ?_; refine nt ?_; refine ns ?_; refine mv rfl ?_; refine mv rfl ?_; refine st _ (r_add rfl rfl) ?_; refine asg rfl ?_; refine nt ?_; refine ns ?_; refine mv rfl ?_; refine st_call fn87 rfl (up_any _ _ _ (by decide) (by decide)) ?_; rintro e _ ⟨rfl, rfl⟩; refine ⟨_, rfl, ?_⟩; refine asg rfl ?_; refine nt ?_; refine ns ?_; refine mv rfl ?_; refine mv rfl ?_; refine st _ (r_xor rfl rfl) ?_; refine asg rfl ?_; refine nt ?_; refine ns ?_; refine mv rfl ?_; refine mv rfl ?_; refine st _ (r_add rfl rfl) ?_; refine asg rfl ?_; refine nt ?_; refine ns ?_; refine mv rfl ?_; refine st_call fn87 rfl (up_any _ _ _ (by decide) (by decide)) ?_; rintro e _ ⟨rfl, rfl⟩; refine ⟨_, rfl, ?_⟩; refine asg rfl ?_; refine nt ?_; refine ns ?_; refine mv rfl ?_; refine mv rfl ?_; refine st _ (r_xor rfl rfl) ?_; refine asg rfl ?_; refine nt ?_; refine ns ?_; refine mv rfl ?_; refine mv rfl ?_; refine st _ (r_add rfl rfl) ?_; refine asg rfl ?_
      refine nt ?_; refine ns ?_; refine mv rfl ?_; refine st_call fn87 rfl (up_any _ _ _ (by decide) (by decide)) ?_; rintro e _ ⟨rfl, rfl⟩; refine ⟨_, rfl, ?_⟩; refine asg rfl ?_; refine nt ?_; refine ns ?_; refine mv rfl ?_; refine mv rfl ?_; refine st _ (r_xor rfl rfl) ?_; refine asg rfl ?_; refine nt ?_; refine c_region ?_; refine mv rfl ?_; refine st_call fn87 rfl (up_any _ _ _ (by decide) (by decide)) ?_; rintro e _ ⟨rfl, rfl⟩; refine ⟨_, rfl, ?_⟩; refine asg rfl ?_; refine st_nil ?_; refine n_block ?_; refine c_then ?_; refine c_region ?_; refine mv rfl ?_; refine st _ (r_addI rfl rfl (by omega)) ?_; refine asg rfl ?_; refine nt ?_; refine next (k + 1) (by omega) ⟨rfl, rfl, rfl, rfl, rfl, rfl, rfl, trivial⟩ ?_; exact ⟨M, hR, by omega⟩
    · (first | (have h20n := of_decide_eq_false h20) | (have h20n := of_decide_eq_true (bnf h20)) | (have h20n := bnf h20) | (have h20n := h20)); refine c_exit ?_; refine x_then ?_; refine x_then ?_; refine x_hit ?_; refine c_then ?_; refine ns ?_; refine mv rfl ?_; refine mv rfl ?_; refine mv rfl ?_; refine mv rfl ?_; refine st (.agg [_, _, _, _].toArray) (r_build (ps := [(0, 0), (1, 1), (2, 2), (3, 3)]) z154 pl154 rfl rfl ⟨rfl, rfl, rfl, rfl, trivial⟩ rfl rfl rfl) ?_; refine st_storeAll rfl rfl (by exact agg154) (by simp [Value.oneCell']) hR (by first | rfl | simp) ?_; have hR0 := hR; clear hR; intro w5 hm hR; replace M := M.step1 hm gR; refine nt ?_; refine c_ret ?_; obtain rfl : (k : Int) = t := (by omega); exact retc trivial rfl rfl (by exact agg154) hR ⟨rfl, M⟩
theorem rrounds2_any (v : S4) (w : World) : Calls Try.prog 81 #[.agg v.arr.toArray, .int .i64 2] w fun e w' => e = .returned (.agg (sipRounds 2 v).arr.toArray) ∧ Md [] w w' :=
  rrounds_any v 2 w (by decide) (by decide)
theorem rrounds4_any (v : S4) (w : World) : Calls Try.prog 81 #[.agg v.arr.toArray, .int .i64 4] w fun e w' => e = .returned (.agg (sipRounds 4 v).arr.toArray) ∧ Md [] w w' :=
  rrounds_any v 4 w (by decide) (by decide)
theorem rsip_any (key : List UInt8) (s : Value) (l : List UInt8) (w : World) (hk : key.length = 16) (hB : By w s l) (hl : l.length ≤ 4611686018427387000) :
    Calls Try.prog 67 #[.agg (key.map b8).toArray, s] w fun e w' => e = .returned (.int .u64 (sip key l)) ∧ Md [] w w' := by
  have hlen := hB.len63; have M := Md.refl [] w; refine enter (n := 84) Try.func67 rfl rfl rfl ?_; intro B; refine ns ?_; refine st_box rfl rfl ?_; intro bK w1 gK lK hm hK; replace gK := Nat.le_trans M.size gK; replace M := M.step0 hm; refine asg rfl ?_; refine nt ?_; refine c_seq ?_; have hK_q := hK; have M_q := M; refine c_mix [(0, true), (2, true), (1, false), (3, false), (4, true), (5, true)] (fun w' => Md [] w1 w') mixed (by kernel_rfl) ?_; intro w2 hm; have MC := hm; replace hK := hK.md0 hm; replace M := M.step0 hm; refine ⟨MC, ?_⟩; refine m _ (fun w' hc => r_sliceArr u38 el5 rfl (by decide)) ?_; refine m _ (fun w' hc => r_sliceArr u38 el5 rfl (by decide)) ?_; refine m_e ?_ rfl; refine st_call fn80 rfl (eight_any _ key 0 _ (By.of_blk hK hk (by decide)) (by decide) (by decide)) ?_; rintro e _ ⟨rfl, rfl⟩; refine ⟨_, rfl, ?_⟩; refine st_nil ⟨rfl, MC, ?_⟩; refine m_e ?_ rfl; refine st_call fn80 rfl (eight_any _ key 8 _ (By.of_blk hK hk (by decide)) (by decide) (by decide)) ?_; rintro e _ ⟨rfl, rfl⟩; refine ⟨_, rfl, ?_⟩; refine st_nil ⟨rfl, MC, ?_⟩; refine m _ (fun w' hc => r_assign rfl) ?_; refine m _ (fun w' hc => r_assign rfl) ?_; refine m_nil ?_; refine c_then ?_; refine ns ?_; refine mv rfl ?_; refine st _ (r_xor rfl rfl) ?_; refine mv rfl ?_; refine st _ (r_xor rfl rfl) ?_; refine mv rfl ?_; refine st _ (r_xor rfl rfl) ?_; refine mv rfl ?_; refine st _ (r_xor rfl rfl) ?_; refine st (.agg [_, _, _, _].toArray) (r_build (ps := [(0, 0), (1, 1), (2, 2), (3, 3)]) z154 pl154 rfl rfl ⟨rfl, rfl, rfl, rfl, trivial⟩ rfl rfl rfl) ?_; refine st_alloc z154 ?_; intro bV w3 gV lV hm hV; have nhKV : bK ≠ bV := (by have := hK.lt; omega); replace gV := Nat.le_trans M.size gV; replace hK := hK.md0 hm; replace M := M.step0 hm; refine st_storeAll rfl rfl (by exact agg154) (by simp [Value.oneCell']) hV (by first | rfl | simp) ?_; have hV0 := hV; clear hV; intro w4 hm hV; replace hK := hK.md1 hm (by omega); replace M := M.step1 hm gV; refine nt ?_; refine ns ?_; refine asg rfl ?_; refine nt ?_; refine c_seq ?_; refine c_block ?_; refine c_loop (X := S4 × Nat) (fun x => [(1, s), (7, .pointer (some ⟨bV, 0, none⟩)), (8, .int .i64 x.2)]) (fun x w' => Md [] w w' ∧ Blk w' bV x.1.arr 154 ∧ x.2 ≤ l.length ∧ sipAbs x.1 (l.drop x.2) = sipAbs (sipInit key) l) (fun x => l.length - x.2) (sipInit key, 0) ?_ ?_ ?_
  · exact ⟨rfl, rfl, rfl, trivial⟩
  · refine ⟨M, ?_, Nat.zero_le _, rfl⟩
    rw [sipInit_arr key hk]; exact hV
  · clear M
    clear hV hK; rintro x B w5 ⟨M, hV, hk2, habs⟩; refine c_seq ?_; refine ns ?_; refine mv rfl ?_; refine st _ (r_addI rfl rfl (by omega)) ?_; refine mv rfl ?_; refine st _ (r_len rfl u34 hB.shp) ?_; refine st _ (r_le rfl rfl) ?_; refine nt ?_; refine c_if rfl (fun h28 => ?_) (fun h28 => ?_)
    · (first | (have h28n := of_decide_eq_true h28) | (have h28n := of_decide_eq_false (bnt h28)) | (have h28n := bnt h28) | (have h28n := h28)); refine c_skip ?_; refine c_then ?_; refine c_block ?_; refine ns ?_; refine mv rfl ?_; refine mv rfl ?_; refine st_call fn80 rfl (eight_any s l _ _ (hB.md0 M) (by omega) (by omega)) ?_; rintro e _ ⟨rfl, rfl⟩; refine ⟨_, rfl, ?_⟩; refine asg rfl ?_; refine nt ?_; refine ns ?_; refine st _ (r_indexArr rfl rfl u154 el39 (by omega)) ?_; refine st _ (r_loadBlk rfl one39 hV rfl) ?_; refine mv rfl ?_; refine st _ (r_xor rfl rfl) ?_; refine st _ (r_indexArr rfl rfl u154 el39 (by omega)) ?_; refine st_store rfl rfl one39 rfl hV (Nat.le_of_ble_eq_true rfl) ?_; have hV0 := hV; clear hV; intro w6 hm hV; replace M := M.step1 hm gV; refine st_nil ?_; replace hV := (arr_xs _ (le8 l (x.2 : Int).toNat)) ▸ hV; refine c_then ?_; refine ns ?_; refine st _ (r_loadAll rfl (by exact agg154) hV) ?_; refine st_call fn81 rfl (rrounds2_any _ _) ?_; rintro e w7 ⟨rfl, hm⟩; refine ⟨_, rfl, ?_⟩; replace hV := hV.md0 hm; replace M := M.step0 hm; refine st_storeAll rfl rfl (by exact agg154) (S4.arr_one _) hV (by rw [S4.arr_len, S4.arr_len]) ?_; have hV0 := hV; clear hV; intro w8 hm hV; replace M := M.step1 hm gV; refine nt ?_; refine ns ?_; refine st _ (r_indexArr rfl rfl u154 el39 (by omega)) ?_; refine st _ (r_loadBlk rfl one39 hV rfl) ?_; refine mv rfl ?_; refine st _ (r_xor rfl rfl) ?_; refine st _ (r_indexArr rfl rfl u154 el39 (by omega)) ?_; refine st_store rfl rfl one39 rfl hV (Nat.le_of_ble_eq_true rfl) ?_; have hV0 := hV; clear hV; intro w9 hm hV; replace M := M.step1 hm gV; refine st_nil ?_; replace hV := (arr_xp _ (le8 l (x.2 : Int).toNat)) ▸ hV; refine c_then ?_; refine c_region ?_; refine mv rfl ?_; refine st _ (r_addI rfl rfl (by omega)) ?_; refine asg rfl ?_; refine st_nil ?_; refine n_block ?_; refine c_then ?_; refine next ((sipWord x.1 (leNum ((l.drop x.2).take 8)), x.2 + 8)) (by simp; omega) ⟨rfl, rfl, fitI rfl (by simp), trivial⟩ ?_; refine ⟨M, ?_, by simp; omega, ?_⟩
      · unfold sipWord; rw [le8_take l x.2 (by omega)]; exact hV
      · rw [← habs, sipAbs_step _ (l.drop x.2) (by simp; omega), List.drop_drop]
    · (first | (have h28n := of_decide_eq_false h28) | (have h28n := of_decide_eq_true (bnf h28)) | (have h28n := bnf h28) | (have h28n := h28)); refine c_exit ?_; refine x_then ?_; refine x_then ?_; refine x_hit ?_; refine c_then ?_; refine ns ?_; refine mv rfl ?_; refine mv rfl ?_; refine st_call fn80 rfl (eight_any s l _ _ (hB.md0 M) (by omega) (by omega)) ?_; rintro e _ ⟨rfl, rfl⟩; refine ⟨_, rfl, ?_⟩; refine mv rfl ?_; refine st _ (r_len rfl u34 hB.shp) ?_; refine st _ (r_rem rfl rfl (by omega)) ?_; refine st _ (r_conv (by rw [u3]; rfl) u39 rfl) ?_; refine st _ (r_shl rfl rfl (by omega)) ?_; refine st _ (r_or rfl rfl) ?_; refine asg rfl ?_; refine nt ?_; refine ns ?_; refine st _ (r_indexArr rfl rfl u154 el39 (by omega)) ?_; refine st _ (r_loadBlk rfl one39 hV rfl) ?_; refine mv rfl ?_; refine st _ (r_xor rfl rfl) ?_; refine st _ (r_indexArr rfl rfl u154 el39 (by omega)) ?_; refine st_store rfl rfl one39 rfl hV (Nat.le_of_ble_eq_true rfl) ?_; have hV0 := hV; clear hV; intro w10 hm hV; replace M := M.step1 hm gV; refine st_nil ?_; replace hV := (arr_xs _ _) ▸ hV; refine c_then ?_; refine ns ?_; refine st _ (r_loadAll rfl (by exact agg154) hV) ?_; refine st_call fn81 rfl (rrounds2_any _ _) ?_; rintro e w11 ⟨rfl, hm⟩; refine ⟨_, rfl, ?_⟩; replace hV := hV.md0 hm; replace M := M.step0 hm; refine st_storeAll rfl rfl (by exact agg154) (S4.arr_one _) hV (by rw [S4.arr_len, S4.arr_len]) ?_; have hV0 := hV; clear hV; intro w12 hm hV; replace M := M.step1 hm gV; refine nt ?_; refine ns ?_; refine st _ (r_indexArr rfl rfl u154 el39 (by omega)) ?_; refine st _ (r_loadBlk rfl one39 hV rfl) ?_; refine mv rfl ?_; refine st _ (r_xor rfl rfl) ?_; refine st _ (r_indexArr rfl rfl u154 el39 (by omega)) ?_; refine st_store rfl rfl one39 rfl hV (Nat.le_of_ble_eq_true rfl) ?_; have hV0 := hV; clear hV; intro w13 hm hV; replace M := M.step1 hm gV; refine st_nil ?_; replace hV := (arr_xp _ _) ▸ hV; refine c_then ?_; refine ns ?_; refine st _ (r_indexArr rfl rfl u154 el39 (by omega)) ?_; refine st _ (r_loadBlk rfl one39 hV rfl) ?_; refine st _ (r_xor rfl rfl) ?_; refine st _ (r_indexArr rfl rfl u154 el39 (by omega)) ?_; refine st_store rfl rfl one39 rfl hV (Nat.le_of_ble_eq_true rfl) ?_; have hV0 := hV; clear hV; intro w14 hm hV; replace M := M.step1 hm gV
      refine st_nil ?_; replace hV := (arr_xr _ 255) ▸ hV; refine c_then ?_; refine ns ?_; refine st _ (r_loadAll rfl (by exact agg154) hV) ?_; refine st_call fn81 rfl (rrounds4_any _ _) ?_; rintro e w15 ⟨rfl, hm⟩; refine ⟨_, rfl, ?_⟩; replace hV := hV.md0 hm; replace M := M.step0 hm; refine st_storeAll rfl rfl (by exact agg154) (S4.arr_one _) hV (by rw [S4.arr_len, S4.arr_len]) ?_; have hV0 := hV; clear hV; intro w16 hm hV; replace M := M.step1 hm gV; refine nt ?_; refine ns ?_; refine st _ (r_indexArr rfl rfl u154 el39 (by omega)) ?_; refine st _ (r_loadBlk rfl one39 hV rfl) ?_; refine st _ (r_indexArr rfl rfl u154 el39 (by omega)) ?_; refine st _ (r_loadBlk rfl one39 hV rfl) ?_; refine st _ (r_xor rfl rfl) ?_; refine st _ (r_indexArr rfl rfl u154 el39 (by omega)) ?_; refine st _ (r_loadBlk rfl one39 hV rfl) ?_; refine st _ (r_xor rfl rfl) ?_; refine st _ (r_indexArr rfl rfl u154 el39 (by omega)) ?_; refine st _ (r_loadBlk rfl one39 hV rfl) ?_; refine st _ (r_xor rfl rfl) ?_; refine asg rfl ?_; refine nt ?_; refine c_ret ?_; rw [sipAbs_done _ _ (by simp; omega)] at habs; exact ret1 trivial rfl rfl ⟨retI (by rw [sip, ← habs]; exact rsip_end l x.1 x.2 hk2 (by omega)), M⟩
theorem rof_any (k : Bool) (key : List UInt8) (s : Value) (l : List UInt8) (w : World) (hk : key.length = 16) (hB : By w s l) (hl : l.length ≤ 4611686018427387000) :
    Calls Try.prog 45 #[.bool k, .agg (key.map b8).toArray, s] w fun e w' => e = .returned (.int .u64 (if k then sip key l else lookup l)) ∧ Md [] w w' := by
  have M := Md.refl [] w; refine enter (n := 13) Try.func45 rfl rfl rfl ?_; intro B; refine ns ?_; refine st_box rfl rfl ?_; intro bK w1 gK lK hm hK; replace gK := Nat.le_trans M.size gK; replace M := M.step0 hm; refine asg rfl ?_; refine nt ?_; refine c_seq ?_; refine ns ?_; refine mv rfl ?_; refine nt ?_; refine c_if rfl (fun h7 => ?_) (fun h7 => ?_)
  · (first | (have h7n := of_decide_eq_true h7) | (have h7n := of_decide_eq_false (bnt h7)) | (have h7n := bnt h7) | (have h7n := h7)); refine ns ?_; refine st _ (r_loadAll rfl (by rw [(by simpa using hk : (key.map b8).length = 16)]; exact agg38) hK) ?_; refine mv rfl ?_; refine st_call fn67 rfl (rsip_any key s l _ hk (hB.md0 M) hl) ?_; rintro e w2 ⟨rfl, hm⟩; refine ⟨_, rfl, ?_⟩; replace hK := hK.md0 hm; replace M := M.step0 hm; refine asg rfl ?_; refine nt ?_; refine c_ret ?_; refine r_then ?_; exact ret1 trivial rfl rfl ⟨retI (by simp_all), M⟩
  · (first | (have h7n := of_decide_eq_false h7) | (have h7n := of_decide_eq_true (bnf h7)) | (have h7n := bnf h7) | (have h7n := h7)); refine c_skip ?_; refine c_then ?_; refine ns ?_; refine mv rfl ?_; refine st_call fn68 rfl (rlookup_any s l _ (hB.md0 M) hl) ?_; rintro e _ ⟨rfl, rfl⟩; refine ⟨_, rfl, ?_⟩; refine asg rfl ?_; refine nt ?_; refine c_ret ?_; exact ret1 trivial rfl rfl ⟨retI (by simp_all), M⟩
end Go.Proofs.Ytklggjhnjlhhcaa
namespace Go.Proofs.Ytklggjhnjlhhcaa
open Go Go.Wk Go.RowKit
set_option linter.unusedVariables false
set_option linter.unusedSimpArgs false
attribute [local irreducible] wpList wpQuiet wpStill wpMix Code.wp Calls bodyPost

theorem rOf_any {w : World} {Q : Nat → Prop} (uQ : Up w Q) (k : Bool) (key : List UInt8) (a1 : key.length = 16) {v2 : Value} {l : List UInt8} (h2 : Ls tB8 w Q v2 l) (p0 : l.length ≤ 4611686018427387000) :
    Calls Try.prog 45 #[.bool k, .agg (idc key).toArray, v2] w fun en w' => ∃ r0 : Nat, en = .returned (.int .u64 ((r0 : Nat) : Int)) ∧ Md [] w w' ∧ r0 < 18446744073709551616 ∧ hashN k key l = r0 := by
  rw [idc_map a1]; refine (rof_any k key v2 l w a1 h2.by p0).mono fun en w' ⟨he, hm⟩ => ⟨hashN k key l, by rw [he, hashN_eq], hm, hashN_lt k key l, rfl⟩
theorem rLook_any {w : World} {Q : Nat → Prop} (uQ : Up w Q) {v0 : Value} {l : List UInt8} (h0 : Ls tB8 w Q v0 l) (p0 : l.length ≤ 4611686018427387000) :
    Calls Try.prog 68 #[v0] w fun en w' => ∃ r0 : Nat, en = .returned (.int .u64 ((r0 : Nat) : Int)) ∧ Md [] w w' ∧ r0 < 18446744073709551616 ∧ lookN l = r0 := by
  refine (rlookup_any _ _ w h0.by p0).mono fun en w' ⟨he, hm⟩ => ⟨lookN l, by rw [he, lookN_eq], (hm ▸ Md.refl [] w), lookN_lt l, rfl⟩
end Go.Proofs.Ytklggjhnjlhhcaa
