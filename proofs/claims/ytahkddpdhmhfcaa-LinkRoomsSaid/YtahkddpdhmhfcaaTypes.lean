/- The structs of the program and of the references. No statement is proved here. -/
import Derived.Test.YtahkddpdhmhfcaaMore
namespace Go.Wk
open Go Go.RowKit
def nums20 (l : List Nat) : List Value := [.int .u64 ((l.getD 0 0 : Nat) : Int), .int .u64 ((l.getD 1 0 : Nat) : Int), .int .u64 ((l.getD 2 0 : Nat) : Int), .int .u64 ((l.getD 3 0 : Nat) : Int), .int .u64 ((l.getD 4 0 : Nat) : Int), .int .u64 ((l.getD 5 0 : Nat) : Int), .int .u64 ((l.getD 6 0 : Nat) : Int), .int .u64 ((l.getD 7 0 : Nat) : Int), .int .u64 ((l.getD 8 0 : Nat) : Int), .int .u64 ((l.getD 9 0 : Nat) : Int), .int .u64 ((l.getD 10 0 : Nat) : Int), .int .u64 ((l.getD 11 0 : Nat) : Int), .int .u64 ((l.getD 12 0 : Nat) : Int), .int .u64 ((l.getD 13 0 : Nat) : Int), .int .u64 ((l.getD 14 0 : Nat) : Int), .int .u64 ((l.getD 15 0 : Nat) : Int), .int .u64 ((l.getD 16 0 : Nat) : Int), .int .u64 ((l.getD 17 0 : Nat) : Int), .int .u64 ((l.getD 18 0 : Nat) : Int), .int .u64 ((l.getD 19 0 : Nat) : Int)]
theorem nums20_map {l : List Nat} (h : l.length = 20) : nums20 l = l.map fun x => .int .u64 (x : Int) := by
  apply List.ext_getElem
  · simp [nums20, h]
  · intro i h1 h2
    simp [nums20] at h1
    simp only [List.getElem_map]
    have hi : i < l.length := by omega
    rcases Nat.lt_or_ge i 7 with h3 | h3
    · rcases (show i = 0 ∨ i = 1 ∨ i = 2 ∨ i = 3 ∨ i = 4 ∨ i = 5 ∨ i = 6 by omega) with rfl | rfl | rfl | rfl | rfl | rfl | rfl <;> simp [nums20, List.getD, hi]
    · skip
      rcases Nat.lt_or_ge i 14 with h10 | h10
      · rcases (show i = 7 ∨ i = 8 ∨ i = 9 ∨ i = 10 ∨ i = 11 ∨ i = 12 ∨ i = 13 by omega) with rfl | rfl | rfl | rfl | rfl | rfl | rfl <;> simp [nums20, List.getD, hi]
      · skip
        rcases (show i = 14 ∨ i = 15 ∨ i = 16 ∨ i = 17 ∨ i = 18 ∨ i = 19 by omega) with rfl | rfl | rfl | rfl | rfl | rfl <;> simp [nums20, List.getD, hi]
theorem nums20_set {l : List Nat} {k v : Nat} (h : l.length = 20) (hk : k < 20) : nums20 (l.set k v) = (nums20 l).set k (.int .u64 (v : Int)) := by
  rw [nums20_map h, nums20_map (by simpa using h), List.map_set]
def tNums20 : Dt (List Nat) where
  n := 20
  pos := by decide
  rep _ _ cs x := cs = nums20 x ∧ x.length = 20 ∧ ∀ y ∈ x, y < 18446744073709551616
  len := by rintro _ _ _ _ ⟨rfl, _⟩; rfl
  one := by
    rintro _ _ _ _ ⟨rfl, h, _⟩ u hu
    rw [nums20_map h] at hu
    obtain ⟨x, _, rfl⟩ := List.mem_map.1 hu
    rfl
  md := fun h _ _ => h
  sub := fun h _ => h
def nums21 (l : List Nat) : List Value := [.int .u64 ((l.getD 0 0 : Nat) : Int), .int .u64 ((l.getD 1 0 : Nat) : Int), .int .u64 ((l.getD 2 0 : Nat) : Int), .int .u64 ((l.getD 3 0 : Nat) : Int), .int .u64 ((l.getD 4 0 : Nat) : Int), .int .u64 ((l.getD 5 0 : Nat) : Int), .int .u64 ((l.getD 6 0 : Nat) : Int), .int .u64 ((l.getD 7 0 : Nat) : Int), .int .u64 ((l.getD 8 0 : Nat) : Int), .int .u64 ((l.getD 9 0 : Nat) : Int), .int .u64 ((l.getD 10 0 : Nat) : Int), .int .u64 ((l.getD 11 0 : Nat) : Int), .int .u64 ((l.getD 12 0 : Nat) : Int), .int .u64 ((l.getD 13 0 : Nat) : Int), .int .u64 ((l.getD 14 0 : Nat) : Int), .int .u64 ((l.getD 15 0 : Nat) : Int), .int .u64 ((l.getD 16 0 : Nat) : Int), .int .u64 ((l.getD 17 0 : Nat) : Int), .int .u64 ((l.getD 18 0 : Nat) : Int), .int .u64 ((l.getD 19 0 : Nat) : Int), .int .u64 ((l.getD 20 0 : Nat) : Int)]
theorem nums21_map {l : List Nat} (h : l.length = 21) : nums21 l = l.map fun x => .int .u64 (x : Int) := by
  apply List.ext_getElem
  · simp [nums21, h]
  · intro i h1 h2
    simp [nums21] at h1
    simp only [List.getElem_map]
    have hi : i < l.length := by omega
    rcases Nat.lt_or_ge i 7 with h3 | h3
    · rcases (show i = 0 ∨ i = 1 ∨ i = 2 ∨ i = 3 ∨ i = 4 ∨ i = 5 ∨ i = 6 by omega) with rfl | rfl | rfl | rfl | rfl | rfl | rfl <;> simp [nums21, List.getD, hi]
    · skip
      rcases Nat.lt_or_ge i 14 with h10 | h10
      · rcases (show i = 7 ∨ i = 8 ∨ i = 9 ∨ i = 10 ∨ i = 11 ∨ i = 12 ∨ i = 13 by omega) with rfl | rfl | rfl | rfl | rfl | rfl | rfl <;> simp [nums21, List.getD, hi]
      · skip
        rcases (show i = 14 ∨ i = 15 ∨ i = 16 ∨ i = 17 ∨ i = 18 ∨ i = 19 ∨ i = 20 by omega) with rfl | rfl | rfl | rfl | rfl | rfl | rfl <;> simp [nums21, List.getD, hi]
theorem nums21_set {l : List Nat} {k v : Nat} (h : l.length = 21) (hk : k < 21) : nums21 (l.set k v) = (nums21 l).set k (.int .u64 (v : Int)) := by
  rw [nums21_map h, nums21_map (by simpa using h), List.map_set]
def tNums21 : Dt (List Nat) where
  n := 21
  pos := by decide
  rep _ _ cs x := cs = nums21 x ∧ x.length = 21 ∧ ∀ y ∈ x, y < 18446744073709551616
  len := by rintro _ _ _ _ ⟨rfl, _⟩; rfl
  one := by
    rintro _ _ _ _ ⟨rfl, h, _⟩ u hu
    rw [nums21_map h] at hu
    obtain ⟨x, _, rfl⟩ := List.mem_map.1 hu
    rfl
  md := fun h _ _ => h
  sub := fun h _ => h
theorem ones_app {a b : List Value} (h : a.all (fun u => u.oneCell') = true) (h2 : b.all (fun u => u.oneCell') = true) : (a ++ b).all (fun u => u.oneCell') = true := by rw [List.all_append, h, h2]; rfl
theorem ones_1 {v : Value} (h : v.oneCell' = true) : [v].all (fun u => u.oneCell') = true := by simp [h]
theorem ones_idc (l : List UInt8) : (idc l).all (fun u => u.oneCell') = true := List.all_eq_true.2 (one_idc l)
theorem nums_zero (n : Nat) : (List.replicate n 0).length = n ∧ ∀ y ∈ List.replicate n 0, y < 18446744073709551616 := ⟨by simp, by simp⟩
theorem nums_set {l : List Nat} {n k v : Nat} (h : l.length = n ∧ ∀ y ∈ l, y < 18446744073709551616) (hv : v < 18446744073709551616) : (l.set k v).length = n ∧ ∀ y ∈ l.set k v, y < 18446744073709551616 :=
  ⟨by simpa using h.1, fun y hy => (List.mem_or_eq_of_mem_set hy).elim (h.2 y) (fun e => e ▸ hv)⟩
theorem nums_bd {l : List Nat} {n : Nat} (h : l.length = n ∧ ∀ y ∈ l, y < 18446744073709551616) (k : Nat) : l.getD k 0 < 18446744073709551616 := by
  rw [List.getD_eq_getElem?_getD]
  cases hk : l[k]? with
  | none => simp
  | some y => simpa using h.2 y (List.mem_of_getElem? hk)
structure Pr where
  name : List UInt8
  value : List UInt8
def Pr.cells (x : Pr) : List Value :=
  [(str x.name)] ++ ([(str x.value)])
def tPr : Dt Pr := tPull (fun x => (x.name, x.value)) (tProd tStr tStr)
theorem tPr_un {w : World} {Q : Nat → Prop} {cs : List Value} {x : Pr} (h : tPr.rep w Q cs x) : ∃ (_ : True), cs = x.cells := by
  obtain ⟨_, _, rfl, ⟨rfl, _⟩, ⟨rfl, _⟩⟩ := h
  exact ⟨trivial, rfl⟩
theorem tPr_mk {w : World} {Q : Nat → Prop} {x : Pr} : tPr.rep w Q (x.cells) x :=
  ⟨_, _, rfl, ⟨rfl, trivial⟩, ⟨rfl, trivial⟩⟩
theorem Pr.one {x : Pr} : (x.cells).all (fun u => u.oneCell') = true := (ones_app rfl rfl)
structure Rec where
  seq : Nat
  real : Nat
  mono : Nat
  boot : List UInt8
  fields : List Pr
def Rec.cells (x : Rec) (v0 : Value) : List Value :=
  [(.int .u64 ((x.seq : Nat) : Int))] ++ ([(.int .u64 ((x.real : Nat) : Int))] ++ ([(.int .u64 ((x.mono : Nat) : Int))] ++ ((idc x.boot) ++ ([v0]))))
def tRec : Dt Rec := tPull (fun x => (x.seq, x.real, x.mono, x.boot, x.fields)) (tProd tU64 (tProd tU64 (tProd tU64 (tProd tId (tSl tPr)))))
def Rec.ok (x : Rec) : Prop := x.seq < 18446744073709551616 ∧ x.real < 18446744073709551616 ∧ x.mono < 18446744073709551616 ∧ x.boot.length = 16
theorem tRec_un {w : World} {Q : Nat → Prop} {cs : List Value} {x : Rec} (h : tRec.rep w Q cs x) : ∃ v0, cs = x.cells v0 ∧ Rec.ok x ∧ Ls tPr w Q v0 x.fields := by
  obtain ⟨_, _, rfl, ⟨rfl, q0⟩, ⟨_, _, rfl, ⟨rfl, q1⟩, ⟨_, _, rfl, ⟨rfl, q2⟩, ⟨_, _, rfl, ⟨rfl, q3⟩, ⟨v0, rfl, q4⟩⟩⟩⟩⟩ := h
  exact ⟨v0, rfl, ⟨q0, q1, q2, q3⟩, q4⟩
theorem tRec_mk {w : World} {Q : Nat → Prop} {x : Rec} {v0 : Value} (c0 : Rec.ok x) (c1 : Ls tPr w Q v0 x.fields) : tRec.rep w Q (x.cells v0) x :=
  ⟨_, _, rfl, ⟨rfl, c0.1⟩, ⟨_, _, rfl, ⟨rfl, c0.2.1⟩, ⟨_, _, rfl, ⟨rfl, c0.2.2.1⟩, ⟨_, _, rfl, ⟨rfl, c0.2.2.2⟩, ⟨_, rfl, c1⟩⟩⟩⟩⟩
theorem Rec.one {x : Rec} {v0 : Value} (h0 : v0.oneCell' = true) : (x.cells v0).all (fun u => u.oneCell') = true := (ones_app rfl (ones_app rfl (ones_app rfl (ones_app (ones_idc _) (ones_1 h0)))))
structure Frame where
  kind : Nat
  flags : Nat
  size : Nat
def Frame.cells (x : Frame) : List Value :=
  [(.int .i64 ((x.kind : Nat) : Int))] ++ ([(.int .i64 ((x.flags : Nat) : Int))] ++ ([(.int .u64 ((x.size : Nat) : Int))]))
def tFrame : Dt Frame := tPull (fun x => (x.kind, x.flags, x.size)) (tProd tNat (tProd tNat tU64))
def Frame.ok (x : Frame) : Prop := x.kind < 9223372036854775808 ∧ x.flags < 9223372036854775808 ∧ x.size < 18446744073709551616
theorem tFrame_un {w : World} {Q : Nat → Prop} {cs : List Value} {x : Frame} (h : tFrame.rep w Q cs x) : ∃ (_ : True), cs = x.cells ∧ Frame.ok x := by
  obtain ⟨_, _, rfl, ⟨rfl, q0⟩, ⟨_, _, rfl, ⟨rfl, q1⟩, ⟨rfl, q2⟩⟩⟩ := h
  exact ⟨trivial, rfl, ⟨q0, q1, q2⟩⟩
theorem tFrame_mk {w : World} {Q : Nat → Prop} {x : Frame} (c0 : Frame.ok x) : tFrame.rep w Q (x.cells) x :=
  ⟨_, _, rfl, ⟨rfl, c0.1⟩, ⟨_, _, rfl, ⟨rfl, c0.2.1⟩, ⟨rfl, c0.2.2⟩⟩⟩
theorem Frame.one {x : Frame} : (x.cells).all (fun u => u.oneCell') = true := (ones_app rfl (ones_app rfl rfl))
structure Dat where
  hash : Nat
  nextHash : Nat
  nextField : Nat
  entry : Nat
  array : Nat
  count : Nat
  payload : List UInt8
def Dat.cells (x : Dat) (v0 : Value) : List Value :=
  [(.int .u64 ((x.hash : Nat) : Int))] ++ ([(.int .u64 ((x.nextHash : Nat) : Int))] ++ ([(.int .u64 ((x.nextField : Nat) : Int))] ++ ([(.int .u64 ((x.entry : Nat) : Int))] ++ ([(.int .u64 ((x.array : Nat) : Int))] ++ ([(.int .u64 ((x.count : Nat) : Int))] ++ ([v0]))))))
def tDat : Dt Dat := tPull (fun x => (x.hash, x.nextHash, x.nextField, x.entry, x.array, x.count, x.payload)) (tProd tU64 (tProd tU64 (tProd tU64 (tProd tU64 (tProd tU64 (tProd tU64 (tSl tB8)))))))
def Dat.ok (x : Dat) : Prop := x.hash < 18446744073709551616 ∧ x.nextHash < 18446744073709551616 ∧ x.nextField < 18446744073709551616 ∧ x.entry < 18446744073709551616 ∧ x.array < 18446744073709551616 ∧ x.count < 18446744073709551616
theorem tDat_un {w : World} {Q : Nat → Prop} {cs : List Value} {x : Dat} (h : tDat.rep w Q cs x) : ∃ v0, cs = x.cells v0 ∧ Dat.ok x ∧ Ls tB8 w Q v0 x.payload := by
  obtain ⟨_, _, rfl, ⟨rfl, q0⟩, ⟨_, _, rfl, ⟨rfl, q1⟩, ⟨_, _, rfl, ⟨rfl, q2⟩, ⟨_, _, rfl, ⟨rfl, q3⟩, ⟨_, _, rfl, ⟨rfl, q4⟩, ⟨_, _, rfl, ⟨rfl, q5⟩, ⟨v0, rfl, q6⟩⟩⟩⟩⟩⟩⟩ := h
  exact ⟨v0, rfl, ⟨q0, q1, q2, q3, q4, q5⟩, q6⟩
theorem tDat_mk {w : World} {Q : Nat → Prop} {x : Dat} {v0 : Value} (c0 : Dat.ok x) (c1 : Ls tB8 w Q v0 x.payload) : tDat.rep w Q (x.cells v0) x :=
  ⟨_, _, rfl, ⟨rfl, c0.1⟩, ⟨_, _, rfl, ⟨rfl, c0.2.1⟩, ⟨_, _, rfl, ⟨rfl, c0.2.2.1⟩, ⟨_, _, rfl, ⟨rfl, c0.2.2.2.1⟩, ⟨_, _, rfl, ⟨rfl, c0.2.2.2.2.1⟩, ⟨_, _, rfl, ⟨rfl, c0.2.2.2.2.2⟩, ⟨_, rfl, c1⟩⟩⟩⟩⟩⟩⟩
theorem Dat.one {x : Dat} {v0 : Value} (h0 : v0.oneCell' = true) : (x.cells v0).all (fun u => u.oneCell') = true := (ones_app rfl (ones_app rfl (ones_app rfl (ones_app rfl (ones_app rfl (ones_app rfl (ones_1 h0)))))))
structure Fld where
  hash : Nat
  nextHash : Nat
  dat : Nat
  payload : List UInt8
def Fld.cells (x : Fld) (v0 : Value) : List Value :=
  [(.int .u64 ((x.hash : Nat) : Int))] ++ ([(.int .u64 ((x.nextHash : Nat) : Int))] ++ ([(.int .u64 ((x.dat : Nat) : Int))] ++ ([v0])))
def tFld : Dt Fld := tPull (fun x => (x.hash, x.nextHash, x.dat, x.payload)) (tProd tU64 (tProd tU64 (tProd tU64 (tSl tB8))))
def Fld.ok (x : Fld) : Prop := x.hash < 18446744073709551616 ∧ x.nextHash < 18446744073709551616 ∧ x.dat < 18446744073709551616
theorem tFld_un {w : World} {Q : Nat → Prop} {cs : List Value} {x : Fld} (h : tFld.rep w Q cs x) : ∃ v0, cs = x.cells v0 ∧ Fld.ok x ∧ Ls tB8 w Q v0 x.payload := by
  obtain ⟨_, _, rfl, ⟨rfl, q0⟩, ⟨_, _, rfl, ⟨rfl, q1⟩, ⟨_, _, rfl, ⟨rfl, q2⟩, ⟨v0, rfl, q3⟩⟩⟩⟩ := h
  exact ⟨v0, rfl, ⟨q0, q1, q2⟩, q3⟩
theorem tFld_mk {w : World} {Q : Nat → Prop} {x : Fld} {v0 : Value} (c0 : Fld.ok x) (c1 : Ls tB8 w Q v0 x.payload) : tFld.rep w Q (x.cells v0) x :=
  ⟨_, _, rfl, ⟨rfl, c0.1⟩, ⟨_, _, rfl, ⟨rfl, c0.2.1⟩, ⟨_, _, rfl, ⟨rfl, c0.2.2⟩, ⟨_, rfl, c1⟩⟩⟩⟩
theorem Fld.one {x : Fld} {v0 : Value} (h0 : v0.oneCell' = true) : (x.cells v0).all (fun u => u.oneCell') = true := (ones_app rfl (ones_app rfl (ones_app rfl (ones_1 h0))))
structure Itm where
  pos : Nat
  hash : Nat
def Itm.cells (x : Itm) : List Value :=
  [(.int .u64 ((x.pos : Nat) : Int))] ++ ([(.int .u64 ((x.hash : Nat) : Int))])
def tItm : Dt Itm := tPull (fun x => (x.pos, x.hash)) (tProd tU64 tU64)
def Itm.ok (x : Itm) : Prop := x.pos < 18446744073709551616 ∧ x.hash < 18446744073709551616
theorem tItm_un {w : World} {Q : Nat → Prop} {cs : List Value} {x : Itm} (h : tItm.rep w Q cs x) : ∃ (_ : True), cs = x.cells ∧ Itm.ok x := by
  obtain ⟨_, _, rfl, ⟨rfl, q0⟩, ⟨rfl, q1⟩⟩ := h
  exact ⟨trivial, rfl, ⟨q0, q1⟩⟩
theorem tItm_mk {w : World} {Q : Nat → Prop} {x : Itm} (c0 : Itm.ok x) : tItm.rep w Q (x.cells) x :=
  ⟨_, _, rfl, ⟨rfl, c0.1⟩, ⟨rfl, c0.2⟩⟩
theorem Itm.one {x : Itm} : (x.cells).all (fun u => u.oneCell') = true := (ones_app rfl rfl)
structure Ent where
  seq : Nat
  real : Nat
  mono : Nat
  boot : List UInt8
  xor : Nat
  items : List Itm
def Ent.cells (x : Ent) (v0 : Value) : List Value :=
  [(.int .u64 ((x.seq : Nat) : Int))] ++ ([(.int .u64 ((x.real : Nat) : Int))] ++ ([(.int .u64 ((x.mono : Nat) : Int))] ++ ((idc x.boot) ++ ([(.int .u64 ((x.xor : Nat) : Int))] ++ ([v0])))))
def tEnt : Dt Ent := tPull (fun x => (x.seq, x.real, x.mono, x.boot, x.xor, x.items)) (tProd tU64 (tProd tU64 (tProd tU64 (tProd tId (tProd tU64 (tSl tItm))))))
def Ent.ok (x : Ent) : Prop := x.seq < 18446744073709551616 ∧ x.real < 18446744073709551616 ∧ x.mono < 18446744073709551616 ∧ x.boot.length = 16 ∧ x.xor < 18446744073709551616
theorem tEnt_un {w : World} {Q : Nat → Prop} {cs : List Value} {x : Ent} (h : tEnt.rep w Q cs x) : ∃ v0, cs = x.cells v0 ∧ Ent.ok x ∧ Ls tItm w Q v0 x.items := by
  obtain ⟨_, _, rfl, ⟨rfl, q0⟩, ⟨_, _, rfl, ⟨rfl, q1⟩, ⟨_, _, rfl, ⟨rfl, q2⟩, ⟨_, _, rfl, ⟨rfl, q3⟩, ⟨_, _, rfl, ⟨rfl, q4⟩, ⟨v0, rfl, q5⟩⟩⟩⟩⟩⟩ := h
  exact ⟨v0, rfl, ⟨q0, q1, q2, q3, q4⟩, q5⟩
theorem tEnt_mk {w : World} {Q : Nat → Prop} {x : Ent} {v0 : Value} (c0 : Ent.ok x) (c1 : Ls tItm w Q v0 x.items) : tEnt.rep w Q (x.cells v0) x :=
  ⟨_, _, rfl, ⟨rfl, c0.1⟩, ⟨_, _, rfl, ⟨rfl, c0.2.1⟩, ⟨_, _, rfl, ⟨rfl, c0.2.2.1⟩, ⟨_, _, rfl, ⟨rfl, c0.2.2.2.1⟩, ⟨_, _, rfl, ⟨rfl, c0.2.2.2.2⟩, ⟨_, rfl, c1⟩⟩⟩⟩⟩⟩
theorem Ent.one {x : Ent} {v0 : Value} (h0 : v0.oneCell' = true) : (x.cells v0).all (fun u => u.oneCell') = true := (ones_app rfl (ones_app rfl (ones_app rfl (ones_app (ones_idc _) (ones_app rfl (ones_1 h0))))))
structure Arr where
  next : Nat
  items : List Nat
def Arr.cells (x : Arr) (v0 : Value) : List Value :=
  [(.int .u64 ((x.next : Nat) : Int))] ++ ([v0])
def tArr : Dt Arr := tPull (fun x => (x.next, x.items)) (tProd tU64 (tSl tU64))
def Arr.ok (x : Arr) : Prop := x.next < 18446744073709551616
theorem tArr_un {w : World} {Q : Nat → Prop} {cs : List Value} {x : Arr} (h : tArr.rep w Q cs x) : ∃ v0, cs = x.cells v0 ∧ Arr.ok x ∧ Ls tU64 w Q v0 x.items := by
  obtain ⟨_, _, rfl, ⟨rfl, q0⟩, ⟨v0, rfl, q1⟩⟩ := h
  exact ⟨v0, rfl, q0, q1⟩
theorem tArr_mk {w : World} {Q : Nat → Prop} {x : Arr} {v0 : Value} (c0 : Arr.ok x) (c1 : Ls tU64 w Q v0 x.items) : tArr.rep w Q (x.cells v0) x :=
  ⟨_, _, rfl, ⟨rfl, c0⟩, ⟨_, rfl, c1⟩⟩
theorem Arr.one {x : Arr} {v0 : Value} (h0 : v0.oneCell' = true) : (x.cells v0).all (fun u => u.oneCell') = true := (ones_app rfl (ones_1 h0))
structure Slt where
  first : Nat
  tail : Nat
def Slt.cells (x : Slt) : List Value :=
  [(.int .u64 ((x.first : Nat) : Int))] ++ ([(.int .u64 ((x.tail : Nat) : Int))])
def tSlt : Dt Slt := tPull (fun x => (x.first, x.tail)) (tProd tU64 tU64)
def Slt.ok (x : Slt) : Prop := x.first < 18446744073709551616 ∧ x.tail < 18446744073709551616
theorem tSlt_un {w : World} {Q : Nat → Prop} {cs : List Value} {x : Slt} (h : tSlt.rep w Q cs x) : ∃ (_ : True), cs = x.cells ∧ Slt.ok x := by
  obtain ⟨_, _, rfl, ⟨rfl, q0⟩, ⟨rfl, q1⟩⟩ := h
  exact ⟨trivial, rfl, ⟨q0, q1⟩⟩
theorem tSlt_mk {w : World} {Q : Nat → Prop} {x : Slt} (c0 : Slt.ok x) : tSlt.rep w Q (x.cells) x :=
  ⟨_, _, rfl, ⟨rfl, c0.1⟩, ⟨rfl, c0.2⟩⟩
theorem Slt.one {x : Slt} : (x.cells).all (fun u => u.oneCell') = true := (ones_app rfl rfl)
structure RHead where
  compat : Nat
  incompat : Nat
  state : Nat
  file : List UInt8
  machine : List UInt8
  boot : List UInt8
  seq : List UInt8
  n : List Nat
  tailArray : Nat
  tailItems : Nat
  tailEntry : Nat
def RHead.cells (x : RHead) : List Value :=
  [(.int .u32 ((x.compat : Nat) : Int))] ++ ([(.int .u32 ((x.incompat : Nat) : Int))] ++ ([(.int .i64 ((x.state : Nat) : Int))] ++ ((idc x.file) ++ ((idc x.machine) ++ ((idc x.boot) ++ ((idc x.seq) ++ ((nums20 x.n) ++ ([(.int .u32 ((x.tailArray : Nat) : Int))] ++ ([(.int .u32 ((x.tailItems : Nat) : Int))] ++ ([(.int .u64 ((x.tailEntry : Nat) : Int))]))))))))))
def tRHead : Dt RHead := tPull (fun x => (x.compat, x.incompat, x.state, x.file, x.machine, x.boot, x.seq, x.n, x.tailArray, x.tailItems, x.tailEntry)) (tProd tU32 (tProd tU32 (tProd tNat (tProd tId (tProd tId (tProd tId (tProd tId (tProd (tNums20) (tProd tU32 (tProd tU32 tU64))))))))))
def RHead.ok (x : RHead) : Prop := x.compat < 4294967296 ∧ x.incompat < 4294967296 ∧ x.state < 9223372036854775808 ∧ x.file.length = 16 ∧ x.machine.length = 16 ∧ x.boot.length = 16 ∧ x.seq.length = 16 ∧ (x.n.length = 20 ∧ ∀ y ∈ x.n, y < 18446744073709551616) ∧ x.tailArray < 4294967296 ∧ x.tailItems < 4294967296 ∧ x.tailEntry < 18446744073709551616
theorem tRHead_un {w : World} {Q : Nat → Prop} {cs : List Value} {x : RHead} (h : tRHead.rep w Q cs x) : ∃ (_ : True), cs = x.cells ∧ RHead.ok x := by
  obtain ⟨_, _, rfl, ⟨rfl, q0⟩, ⟨_, _, rfl, ⟨rfl, q1⟩, ⟨_, _, rfl, ⟨rfl, q2⟩, ⟨_, _, rfl, ⟨rfl, q3⟩, ⟨_, _, rfl, ⟨rfl, q4⟩, ⟨_, _, rfl, ⟨rfl, q5⟩, ⟨_, _, rfl, ⟨rfl, q6⟩, ⟨_, _, rfl, ⟨rfl, q7⟩, ⟨_, _, rfl, ⟨rfl, q8⟩, ⟨_, _, rfl, ⟨rfl, q9⟩, ⟨rfl, q10⟩⟩⟩⟩⟩⟩⟩⟩⟩⟩⟩ := h
  exact ⟨trivial, rfl, ⟨q0, q1, q2, q3, q4, q5, q6, q7, q8, q9, q10⟩⟩
theorem tRHead_mk {w : World} {Q : Nat → Prop} {x : RHead} (c0 : RHead.ok x) : tRHead.rep w Q (x.cells) x :=
  ⟨_, _, rfl, ⟨rfl, c0.1⟩, ⟨_, _, rfl, ⟨rfl, c0.2.1⟩, ⟨_, _, rfl, ⟨rfl, c0.2.2.1⟩, ⟨_, _, rfl, ⟨rfl, c0.2.2.2.1⟩, ⟨_, _, rfl, ⟨rfl, c0.2.2.2.2.1⟩, ⟨_, _, rfl, ⟨rfl, c0.2.2.2.2.2.1⟩, ⟨_, _, rfl, ⟨rfl, c0.2.2.2.2.2.2.1⟩, ⟨_, _, rfl, ⟨rfl, c0.2.2.2.2.2.2.2.1⟩, ⟨_, _, rfl, ⟨rfl, c0.2.2.2.2.2.2.2.2.1⟩, ⟨_, _, rfl, ⟨rfl, c0.2.2.2.2.2.2.2.2.2.1⟩, ⟨rfl, c0.2.2.2.2.2.2.2.2.2.2⟩⟩⟩⟩⟩⟩⟩⟩⟩⟩⟩
theorem RHead.one {x : RHead} : (x.cells).all (fun u => u.oneCell') = true := (ones_app rfl (ones_app rfl (ones_app rfl (ones_app (ones_idc _) (ones_app (ones_idc _) (ones_app (ones_idc _) (ones_app (ones_idc _) (ones_app rfl (ones_app rfl (ones_app rfl rfl))))))))))
structure PHead where
  compat : Nat
  incompat : Nat
  state : Nat
  file : List UInt8
  machine : List UInt8
  boot : List UInt8
  seq : List UInt8
  n : List Nat
  tailArray : Nat
  tailItems : Nat
  tailEntry : Nat
def PHead.cells (x : PHead) : List Value :=
  [(.int .u32 ((x.compat : Nat) : Int))] ++ ([(.int .u32 ((x.incompat : Nat) : Int))] ++ ([(.int .i64 ((x.state : Nat) : Int))] ++ ((idc x.file) ++ ((idc x.machine) ++ ((idc x.boot) ++ ((idc x.seq) ++ ((nums21 x.n) ++ ([(.int .u32 ((x.tailArray : Nat) : Int))] ++ ([(.int .u32 ((x.tailItems : Nat) : Int))] ++ ([(.int .u64 ((x.tailEntry : Nat) : Int))]))))))))))
def tPHead : Dt PHead := tPull (fun x => (x.compat, x.incompat, x.state, x.file, x.machine, x.boot, x.seq, x.n, x.tailArray, x.tailItems, x.tailEntry)) (tProd tU32 (tProd tU32 (tProd tNat (tProd tId (tProd tId (tProd tId (tProd tId (tProd (tNums21) (tProd tU32 (tProd tU32 tU64))))))))))
def PHead.ok (x : PHead) : Prop := x.compat < 4294967296 ∧ x.incompat < 4294967296 ∧ x.state < 9223372036854775808 ∧ x.file.length = 16 ∧ x.machine.length = 16 ∧ x.boot.length = 16 ∧ x.seq.length = 16 ∧ (x.n.length = 21 ∧ ∀ y ∈ x.n, y < 18446744073709551616) ∧ x.tailArray < 4294967296 ∧ x.tailItems < 4294967296 ∧ x.tailEntry < 18446744073709551616
theorem tPHead_un {w : World} {Q : Nat → Prop} {cs : List Value} {x : PHead} (h : tPHead.rep w Q cs x) : ∃ (_ : True), cs = x.cells ∧ PHead.ok x := by
  obtain ⟨_, _, rfl, ⟨rfl, q0⟩, ⟨_, _, rfl, ⟨rfl, q1⟩, ⟨_, _, rfl, ⟨rfl, q2⟩, ⟨_, _, rfl, ⟨rfl, q3⟩, ⟨_, _, rfl, ⟨rfl, q4⟩, ⟨_, _, rfl, ⟨rfl, q5⟩, ⟨_, _, rfl, ⟨rfl, q6⟩, ⟨_, _, rfl, ⟨rfl, q7⟩, ⟨_, _, rfl, ⟨rfl, q8⟩, ⟨_, _, rfl, ⟨rfl, q9⟩, ⟨rfl, q10⟩⟩⟩⟩⟩⟩⟩⟩⟩⟩⟩ := h
  exact ⟨trivial, rfl, ⟨q0, q1, q2, q3, q4, q5, q6, q7, q8, q9, q10⟩⟩
theorem tPHead_mk {w : World} {Q : Nat → Prop} {x : PHead} (c0 : PHead.ok x) : tPHead.rep w Q (x.cells) x :=
  ⟨_, _, rfl, ⟨rfl, c0.1⟩, ⟨_, _, rfl, ⟨rfl, c0.2.1⟩, ⟨_, _, rfl, ⟨rfl, c0.2.2.1⟩, ⟨_, _, rfl, ⟨rfl, c0.2.2.2.1⟩, ⟨_, _, rfl, ⟨rfl, c0.2.2.2.2.1⟩, ⟨_, _, rfl, ⟨rfl, c0.2.2.2.2.2.1⟩, ⟨_, _, rfl, ⟨rfl, c0.2.2.2.2.2.2.1⟩, ⟨_, _, rfl, ⟨rfl, c0.2.2.2.2.2.2.2.1⟩, ⟨_, _, rfl, ⟨rfl, c0.2.2.2.2.2.2.2.2.1⟩, ⟨_, _, rfl, ⟨rfl, c0.2.2.2.2.2.2.2.2.2.1⟩, ⟨rfl, c0.2.2.2.2.2.2.2.2.2.2⟩⟩⟩⟩⟩⟩⟩⟩⟩⟩⟩
theorem PHead.one {x : PHead} : (x.cells).all (fun u => u.oneCell') = true := (ones_app rfl (ones_app rfl (ones_app rfl (ones_app (ones_idc _) (ones_app (ones_idc _) (ones_app (ones_idc _) (ones_app (ones_idc _) (ones_app rfl (ones_app rfl (ones_app rfl rfl))))))))))
structure PView where
  b : List UInt8
  h : PHead
def PView.cells (x : PView) (v0 : Value) : List Value :=
  [v0] ++ ((PHead.cells x.h))
def tPView : Dt PView := tPull (fun x => (x.b, x.h)) (tProd (tSl tB8) tPHead)
def PView.ok (x : PView) : Prop := PHead.ok x.h
theorem tPView_un {w : World} {Q : Nat → Prop} {cs : List Value} {x : PView} (h : tPView.rep w Q cs x) : ∃ v0, cs = x.cells v0 ∧ PView.ok x ∧ Ls tB8 w Q v0 x.b := by
  obtain ⟨_, _, rfl, ⟨v0, rfl, q0⟩, q1⟩ := h
  obtain ⟨_, rfl, o1⟩ := tPHead_un q1
  exact ⟨v0, rfl, o1, q0⟩
theorem tPView_mk {w : World} {Q : Nat → Prop} {x : PView} {v0 : Value} (c0 : PView.ok x) (c1 : Ls tB8 w Q v0 x.b) : tPView.rep w Q (x.cells v0) x :=
  ⟨_, _, rfl, ⟨_, rfl, c1⟩, (tPHead_mk c0)⟩
theorem PView.one {x : PView} {v0 : Value} (h0 : v0.oneCell' = true) : (x.cells v0).all (fun u => u.oneCell') = true := (ones_app (ones_1 h0) (PHead.one))
structure RView where
  h : RHead
  depth : Nat
  b : List UInt8
def RView.cells (x : RView) (v0 : Value) : List Value :=
  (RHead.cells x.h) ++ ([(.int .u64 ((x.depth : Nat) : Int))] ++ ([v0]))
def tRView : Dt RView := tPull (fun x => (x.h, x.depth, x.b)) (tProd tRHead (tProd tU64 (tSl tB8)))
def RView.ok (x : RView) : Prop := RHead.ok x.h ∧ x.depth < 18446744073709551616
theorem tRView_un {w : World} {Q : Nat → Prop} {cs : List Value} {x : RView} (h : tRView.rep w Q cs x) : ∃ v0, cs = x.cells v0 ∧ RView.ok x ∧ Ls tB8 w Q v0 x.b := by
  obtain ⟨_, _, rfl, q0, ⟨_, _, rfl, ⟨rfl, q1⟩, ⟨v0, rfl, q2⟩⟩⟩ := h
  obtain ⟨_, rfl, o0⟩ := tRHead_un q0
  exact ⟨v0, rfl, ⟨o0, q1⟩, q2⟩
theorem tRView_mk {w : World} {Q : Nat → Prop} {x : RView} {v0 : Value} (c0 : RView.ok x) (c1 : Ls tB8 w Q v0 x.b) : tRView.rep w Q (x.cells v0) x :=
  ⟨_, _, rfl, (tRHead_mk c0.1), ⟨_, _, rfl, ⟨rfl, c0.2⟩, ⟨_, rfl, c1⟩⟩⟩
theorem RView.one {x : RView} {v0 : Value} (h0 : v0.oneCell' = true) : (x.cells v0).all (fun u => u.oneCell') = true := (ones_app (RHead.one) (ones_app rfl (ones_1 h0)))
structure Cfg where
  file : List UInt8
  machine : List UInt8
  seq : List UInt8
  dataSlots : Nat
  fieldSlots : Nat
  most : Nat
  keyed : Bool
def Cfg.cells (x : Cfg) : List Value :=
  (idc x.file) ++ ((idc x.machine) ++ ((idc x.seq) ++ ([(.int .i64 ((x.dataSlots : Nat) : Int))] ++ ([(.int .i64 ((x.fieldSlots : Nat) : Int))] ++ ([(.int .i64 ((x.most : Nat) : Int))] ++ ([(.bool x.keyed)]))))))
def tCfg : Dt Cfg := tPull (fun x => (x.file, x.machine, x.seq, x.dataSlots, x.fieldSlots, x.most, x.keyed)) (tProd tId (tProd tId (tProd tId (tProd tNat (tProd tNat (tProd tNat tBool))))))
def Cfg.ok (x : Cfg) : Prop := x.file.length = 16 ∧ x.machine.length = 16 ∧ x.seq.length = 16 ∧ x.dataSlots < 9223372036854775808 ∧ x.fieldSlots < 9223372036854775808 ∧ x.most < 9223372036854775808
theorem tCfg_un {w : World} {Q : Nat → Prop} {cs : List Value} {x : Cfg} (h : tCfg.rep w Q cs x) : ∃ (_ : True), cs = x.cells ∧ Cfg.ok x := by
  obtain ⟨_, _, rfl, ⟨rfl, q0⟩, ⟨_, _, rfl, ⟨rfl, q1⟩, ⟨_, _, rfl, ⟨rfl, q2⟩, ⟨_, _, rfl, ⟨rfl, q3⟩, ⟨_, _, rfl, ⟨rfl, q4⟩, ⟨_, _, rfl, ⟨rfl, q5⟩, ⟨rfl, _⟩⟩⟩⟩⟩⟩⟩ := h
  exact ⟨trivial, rfl, ⟨q0, q1, q2, q3, q4, q5⟩⟩
theorem tCfg_mk {w : World} {Q : Nat → Prop} {x : Cfg} (c0 : Cfg.ok x) : tCfg.rep w Q (x.cells) x :=
  ⟨_, _, rfl, ⟨rfl, c0.1⟩, ⟨_, _, rfl, ⟨rfl, c0.2.1⟩, ⟨_, _, rfl, ⟨rfl, c0.2.2.1⟩, ⟨_, _, rfl, ⟨rfl, c0.2.2.2.1⟩, ⟨_, _, rfl, ⟨rfl, c0.2.2.2.2.1⟩, ⟨_, _, rfl, ⟨rfl, c0.2.2.2.2.2⟩, ⟨rfl, trivial⟩⟩⟩⟩⟩⟩⟩
theorem Cfg.one {x : Cfg} : (x.cells).all (fun u => u.oneCell') = true := (ones_app (ones_idc _) (ones_app (ones_idc _) (ones_app (ones_idc _) (ones_app rfl (ones_app rfl (ones_app rfl rfl))))))
structure Known where
  text : List UInt8
  pos : Nat
  slot : Nat
  count : Nat
  arrays : List Nat
def Known.cells (x : Known) (v0 : Value) : List Value :=
  [(str x.text)] ++ ([(.int .u64 ((x.pos : Nat) : Int))] ++ ([(.int .i64 ((x.slot : Nat) : Int))] ++ ([(.int .i64 ((x.count : Nat) : Int))] ++ ([v0]))))
def tKnown : Dt Known := tPull (fun x => (x.text, x.pos, x.slot, x.count, x.arrays)) (tProd tStr (tProd tU64 (tProd tNat (tProd tNat (tSl tU64)))))
def Known.ok (x : Known) : Prop := x.pos < 18446744073709551616 ∧ x.slot < 9223372036854775808 ∧ x.count < 9223372036854775808
theorem tKnown_un {w : World} {Q : Nat → Prop} {cs : List Value} {x : Known} (h : tKnown.rep w Q cs x) : ∃ v0, cs = x.cells v0 ∧ Known.ok x ∧ Ls tU64 w Q v0 x.arrays := by
  obtain ⟨_, _, rfl, ⟨rfl, _⟩, ⟨_, _, rfl, ⟨rfl, q1⟩, ⟨_, _, rfl, ⟨rfl, q2⟩, ⟨_, _, rfl, ⟨rfl, q3⟩, ⟨v0, rfl, q4⟩⟩⟩⟩⟩ := h
  exact ⟨v0, rfl, ⟨q1, q2, q3⟩, q4⟩
theorem tKnown_mk {w : World} {Q : Nat → Prop} {x : Known} {v0 : Value} (c0 : Known.ok x) (c1 : Ls tU64 w Q v0 x.arrays) : tKnown.rep w Q (x.cells v0) x :=
  ⟨_, _, rfl, ⟨rfl, trivial⟩, ⟨_, _, rfl, ⟨rfl, c0.1⟩, ⟨_, _, rfl, ⟨rfl, c0.2.1⟩, ⟨_, _, rfl, ⟨rfl, c0.2.2⟩, ⟨_, rfl, c1⟩⟩⟩⟩⟩
theorem Known.one {x : Known} {v0 : Value} (h0 : v0.oneCell' = true) : (x.cells v0).all (fun u => u.oneCell') = true := (ones_app rfl (ones_app rfl (ones_app rfl (ones_app rfl (ones_1 h0)))))
structure Mk where
  c : Cfg
  h : RHead
  depth : Nat
  b : List UInt8
  datas : List Known
  fields : List Known
  main : List Nat
def Mk.cells (x : Mk) (v0 : Value) (v1 : Value) (v2 : Value) (v3 : Value) : List Value :=
  (Cfg.cells x.c) ++ ((RHead.cells x.h) ++ ([(.int .u64 ((x.depth : Nat) : Int))] ++ ([v0] ++ ([v1] ++ ([v2] ++ ([v3]))))))
def tMk : Dt Mk := tPull (fun x => (x.c, x.h, x.depth, x.b, x.datas, x.fields, x.main)) (tProd tCfg (tProd tRHead (tProd tU64 (tProd (tSl tB8) (tProd (tSl tKnown) (tProd (tSl tKnown) (tSl tU64)))))))
def Mk.ok (x : Mk) : Prop := Cfg.ok x.c ∧ RHead.ok x.h ∧ x.depth < 18446744073709551616
theorem tMk_un {w : World} {Q : Nat → Prop} {cs : List Value} {x : Mk} (h : tMk.rep w Q cs x) : ∃ v0 v1 v2 v3, cs = x.cells v0 v1 v2 v3 ∧ Mk.ok x ∧ Ls tB8 w Q v0 x.b ∧ Ls tKnown w Q v1 x.datas ∧ Ls tKnown w Q v2 x.fields ∧ Ls tU64 w Q v3 x.main := by
  obtain ⟨_, _, rfl, q0, ⟨_, _, rfl, q1, ⟨_, _, rfl, ⟨rfl, q2⟩, ⟨_, _, rfl, ⟨v0, rfl, q3⟩, ⟨_, _, rfl, ⟨v1, rfl, q4⟩, ⟨_, _, rfl, ⟨v2, rfl, q5⟩, ⟨v3, rfl, q6⟩⟩⟩⟩⟩⟩⟩ := h
  obtain ⟨_, rfl, o0⟩ := tCfg_un q0
  obtain ⟨_, rfl, o1⟩ := tRHead_un q1
  exact ⟨v0, v1, v2, v3, rfl, ⟨o0, o1, q2⟩, q3, q4, q5, q6⟩
theorem tMk_mk {w : World} {Q : Nat → Prop} {x : Mk} {v0 : Value} {v1 : Value} {v2 : Value} {v3 : Value} (c0 : Mk.ok x) (c1 : Ls tB8 w Q v0 x.b) (c2 : Ls tKnown w Q v1 x.datas) (c3 : Ls tKnown w Q v2 x.fields) (c4 : Ls tU64 w Q v3 x.main) : tMk.rep w Q (x.cells v0 v1 v2 v3) x :=
  ⟨_, _, rfl, (tCfg_mk c0.1), ⟨_, _, rfl, (tRHead_mk c0.2.1), ⟨_, _, rfl, ⟨rfl, c0.2.2⟩, ⟨_, _, rfl, ⟨_, rfl, c1⟩, ⟨_, _, rfl, ⟨_, rfl, c2⟩, ⟨_, _, rfl, ⟨_, rfl, c3⟩, ⟨_, rfl, c4⟩⟩⟩⟩⟩⟩⟩
theorem Mk.one {x : Mk} {v0 : Value} {v1 : Value} {v2 : Value} {v3 : Value} (h0 : v0.oneCell' = true) (h1 : v1.oneCell' = true) (h2 : v2.oneCell' = true) (h3 : v3.oneCell' = true) : (x.cells v0 v1 v2 v3).all (fun u => u.oneCell') = true := (ones_app (Cfg.one) (ones_app (RHead.one) (ones_app rfl (ones_app (ones_1 h0) (ones_app (ones_1 h1) (ones_app (ones_1 h2) (ones_1 h3)))))))
structure Sq where
  l : List Int
  pos : Nat
def Sq.cells (x : Sq) (v0 : Value) : List Value :=
  [v0] ++ ([(.int .i64 ((x.pos : Nat) : Int))])
def tSq : Dt Sq := tPull (fun x => (x.l, x.pos)) (tProd (tSl tInt) tNat)
def Sq.ok (x : Sq) : Prop := x.pos < 9223372036854775808
theorem tSq_un {w : World} {Q : Nat → Prop} {cs : List Value} {x : Sq} (h : tSq.rep w Q cs x) : ∃ v0, cs = x.cells v0 ∧ Sq.ok x ∧ Ls tInt w Q v0 x.l := by
  obtain ⟨_, _, rfl, ⟨v0, rfl, q0⟩, ⟨rfl, q1⟩⟩ := h
  exact ⟨v0, rfl, q1, q0⟩
theorem tSq_mk {w : World} {Q : Nat → Prop} {x : Sq} {v0 : Value} (c0 : Sq.ok x) (c1 : Ls tInt w Q v0 x.l) : tSq.rep w Q (x.cells v0) x :=
  ⟨_, _, rfl, ⟨_, rfl, c1⟩, ⟨rfl, c0⟩⟩
theorem Sq.one {x : Sq} {v0 : Value} (h0 : v0.oneCell' = true) : (x.cells v0).all (fun u => u.oneCell') = true := (ones_app (ones_1 h0) rfl)
end Go.Wk
