/- What the reference's maker of journals computes when a record is put behind the others. No statement is proved here. -/
import Derived.Test.YtahkddpdhmhfcaaSeqP
import Derived.Test.YtahkddpdhmhfcaaLoops2
namespace Go.Wk
open Go Go.RowKit
def known0 : Known := { text := [], pos := 0, slot := 0, count := 0, arrays := [] }
def posAt (ds : List Known) (i : Nat) : Nat := (ds.getD i known0).pos
def backF (ds : List Known) (p : Nat) (order : List Nat) : Nat → Nat
  | 0 => 0
  | n + 1 => if p < posAt ds (order.getD n 0) then backF ds p order n else n + 1
/-- A datum's place among the others, by its place in the file. -/
def placeF (ds : List Known) (k : Nat) (order : List Nat) : List Nat :=
  let n := backF ds (posAt ds k) order order.length
  order.take n ++ [k] ++ order.drop n
def datasL : List Pr → Mk → List (List UInt8) → List Nat → List (List UInt8) × List Nat × Mk
  | [], m, ps, od => (ps, od, m)
  | x :: r, m, ps, od =>
    match m.data x with
    | (k, m1) => datasL r m1 (ps ++ [(m1.datas.getD k known0).text]) (placeF m1.datas k od)
def itemsL (m : Mk) (od : List Nat) : List Itm := od.map fun i => { pos := posAt m.datas i, hash := hashN m.c.keyed m.c.file (m.datas.getD i known0).text }
/-- The entry is named by each of its data. -/
def hangE (e : Nat) : List Nat → Mk → Mk
  | [], m => m
  | i :: r, m =>
    let k := m.datas.getD i known0
    if k.count = 0 then
      let m2 := (m.put (k.pos + 40) e).put (k.pos + 56) 1
      hangE e r { m2 with datas := m2.datas.set i { k with count := 1 } }
    else
      match m.link k.arrays (k.count - 1) (k.pos + 48) e with
      | (a, _, m1) =>
        let m2 := m1.put (k.pos + 56) (k.count + 1)
        hangE e r { m2 with datas := m2.datas.set i { k with arrays := a, count := k.count + 1 } }
/-- A record behind the others: its number, or a refusal; the maker is then as it was. -/
def Mk.append (m : Mk) (fields : List Pr) (real mono : Nat) (boot : List UInt8) : Nat × Nat × Mk :=
  match listF fields with
  | (l, c) =>
    if c ≠ 0 then (0, c, m)
    else if m.num 9 = 18446744073709551615 then (0, 1, m)
    else
      match datasL l m [] [] with
      | (ps, od, m1) =>
        let seq := m1.num 9 + 1
        match m1.object (putEntryF { seq := seq, real := real, mono := mono, boot := boot, xor := xorF 0 ps, items := itemsL m1 od }) with
        | (e, m2) =>
          let n := m2.num 8
          match m2.link m2.main n 176 e with
          | (a, t, m3) =>
            let m4 := ({ m3 with main := a } : Mk).setN 11 (a.getD 0 0)
            let m5 := { m4 with h := { m4.h with tailArray := lastN a % 4294967296, tailItems := t % 4294967296 } }
            let m6 := hangE e od m5
            if m6.c.most < m6.b.length then (0, 15, m)
            else
              let m7 := if n = 0 then (m6.setN 10 seq).setN 12 real else m6
              let m8 := m7.setN 8 ((m7.num 8 + 1) % 18446744073709551616)
              let m9 := ((m8.setN 9 seq).setN 13 real).setN 14 mono
              (seq, 0, { m9 with h := { m9.h with boot := boot, tailEntry := e } })
def makerL : Nat → Sq → Mk → List Rec → Mk × List Rec × Sq
  | 0, s, m, rs => (m, rs, s)
  | n + 1, s, m, rs =>
    if s.pos < s.l.length then
      match s.record ((m.num 9 + 1) % 18446744073709551616) with
      | (r, s1) =>
        match m.append r.fields r.real r.mono r.boot with
        | (_, c, m1) => if c ≠ 0 then (m1, rs, s1) else makerL n s1 m1 (rs ++ [r])
    else (m, rs, s)
def Sq.maker (s : Sq) (most : Nat) : Mk × List Rec × Sq :=
  match s.config with
  | (c, s1) =>
    match s1.num 6 with
    | (t, s2) => makerL most s2 (newMk c t) []
/-- The file that choices make. -/
def imageOf (l : List Int) (most : Nat) : List UInt8 := imageM ((Sq.mk l 0).maker most).1 1
end Go.Wk
