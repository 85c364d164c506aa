/- Part 2 of what the walk of a law stands on: Types, RefP, HashN, MakerP, MakerQ, FldR, SeqP, Loops2, MakerR, MakerS, Anys, FieldQ, FldS, CompR, HeadR, HeadQ, ImgP, MakeP, ViewP, AtP, AtQ, AtR, ImT1, ImT2, ImT3, ImT4, ImT5, ImT6, ImT7. No statement is proved here. -/
import Derived.Test.YtbmmkbejcnalcaaGreatDAI1
set_option linter.unusedVariables false
set_option linter.unusedSimpArgs false
namespace Go.Wk
open Go Go.RowKit
def oc (l:List Nat):List Value:=[.int .u64 ((l.getD 0 0:Nat):Int),.int .u64 ((l.getD 1 0:Nat):Int),.int .u64 ((l.getD 2 0:Nat):Int),.int .u64 ((l.getD 3 0:Nat):Int),.int .u64 ((l.getD 4 0:Nat):Int),.int .u64 ((l.getD 5 0:Nat):Int),.int .u64 ((l.getD 6 0:Nat):Int),.int .u64 ((l.getD 7 0:Nat):Int),.int .u64 ((l.getD 8 0:Nat):Int),.int .u64 ((l.getD 9 0:Nat):Int),.int .u64 ((l.getD 10 0:Nat):Int),.int .u64 ((l.getD 11 0:Nat):Int),.int .u64 ((l.getD 12 0:Nat):Int),.int .u64 ((l.getD 13 0:Nat):Int),.int .u64 ((l.getD 14 0:Nat):Int),.int .u64 ((l.getD 15 0:Nat):Int),.int .u64 ((l.getD 16 0:Nat):Int),.int .u64 ((l.getD 17 0:Nat):Int),.int .u64 ((l.getD 18 0:Nat):Int),.int .u64 ((l.getD 19 0:Nat):Int)]
theorem qN {l:List Nat} (h:l.length=20):oc l=l.map fun x=>.int .u64 (x:Int):=by
  apply List.ext_getElem
  · simp[oc,h]
  intro i C E
  simp[oc]at C
  simp only[List.getElem_map]
  have B:i<l.length:=by omega
  rcases Nat.lt_or_ge i 7 with D|D
  · rcases(show i=0∨i=1∨i=2∨i=3∨i=4∨i=5∨i=6 by omega)with rfl|rfl|rfl|rfl|rfl|rfl|rfl <;> simp[oc,List.getD,B]
  skip
  rcases Nat.lt_or_ge i 14 with A|A
  · rcases(show i=7∨i=8∨i=9∨i=10∨i=11∨i=12∨i=13 by omega)with rfl|rfl|rfl|rfl|rfl|rfl|rfl <;> simp[oc,List.getD,B]
  skip
  rcases(show i=14∨i=15∨i=16∨i=17∨i=18∨i=19 by omega)with rfl|rfl|rfl|rfl|rfl|rfl <;> simp[oc,List.getD,B]
theorem AK {l:List Nat} {k v:Nat} (h:l.length=20) (hk:k<20):oc (l.set k v)=(oc l).set k (.int .u64 (v:Int)):=by
  rw[qN h,qN (by simpa using h),List.map_set]
def adb:Dt (List Nat) where
  n:=20
  bX:=by decide
  oC _ _ cs x:=cs=oc x∧x.length=20∧∀y∈x,y<18446744073709551616
  len:=by rintro _ _ _ _ ⟨rfl,_⟩;rfl
  one:=by
    rintro _ _ _ _ ⟨rfl,h,_⟩ u hu
    rw[qN h]at hu
    obtain⟨x,_,rfl⟩:=List.mem_map.1 hu
    rfl
  md:=fun h _ _=>h
  sub:=fun h _=>h
def oe (l:List Nat):List Value:=[.int .u64 ((l.getD 0 0:Nat):Int),.int .u64 ((l.getD 1 0:Nat):Int),.int .u64 ((l.getD 2 0:Nat):Int),.int .u64 ((l.getD 3 0:Nat):Int),.int .u64 ((l.getD 4 0:Nat):Int),.int .u64 ((l.getD 5 0:Nat):Int),.int .u64 ((l.getD 6 0:Nat):Int),.int .u64 ((l.getD 7 0:Nat):Int),.int .u64 ((l.getD 8 0:Nat):Int),.int .u64 ((l.getD 9 0:Nat):Int),.int .u64 ((l.getD 10 0:Nat):Int),.int .u64 ((l.getD 11 0:Nat):Int),.int .u64 ((l.getD 12 0:Nat):Int),.int .u64 ((l.getD 13 0:Nat):Int),.int .u64 ((l.getD 14 0:Nat):Int),.int .u64 ((l.getD 15 0:Nat):Int),.int .u64 ((l.getD 16 0:Nat):Int),.int .u64 ((l.getD 17 0:Nat):Int),.int .u64 ((l.getD 18 0:Nat):Int),.int .u64 ((l.getD 19 0:Nat):Int),.int .u64 ((l.getD 20 0:Nat):Int)]
theorem uE {l:List Nat} (h:l.length=21):oe l=l.map fun x=>.int .u64 (x:Int):=by
  apply List.ext_getElem
  · simp[oe,h]
  intro i C E
  simp[oe]at C
  simp only[List.getElem_map]
  have B:i<l.length:=by omega
  rcases Nat.lt_or_ge i 7 with D|D
  · rcases(show i=0∨i=1∨i=2∨i=3∨i=4∨i=5∨i=6 by omega)with rfl|rfl|rfl|rfl|rfl|rfl|rfl <;> simp[oe,List.getD,B]
  skip
  rcases Nat.lt_or_ge i 14 with A|A
  · rcases(show i=7∨i=8∨i=9∨i=10∨i=11∨i=12∨i=13 by omega)with rfl|rfl|rfl|rfl|rfl|rfl|rfl <;> simp[oe,List.getD,B]
  skip
  rcases(show i=14∨i=15∨i=16∨i=17∨i=18∨i=19∨i=20 by omega)with rfl|rfl|rfl|rfl|rfl|rfl|rfl <;> simp[oe,List.getD,B]
theorem Oc {l:List Nat} {k v:Nat} (h:l.length=21) (hk:k<21):oe (l.set k v)=(oe l).set k (.int .u64 (v:Int)):=by
  rw[uE h,uE (by simpa using h),List.map_set]
def ade:Dt (List Nat) where
  n:=21
  bX:=by decide
  oC _ _ cs x:=cs=oe x∧x.length=21∧∀y∈x,y<18446744073709551616
  len:=by rintro _ _ _ _ ⟨rfl,_⟩;rfl
  one:=by
    rintro _ _ _ _ ⟨rfl,h,_⟩ u hu
    rw[uE h]at hu
    obtain⟨x,_,rfl⟩:=List.mem_map.1 hu
    rfl
  md:=fun h _ _=>h
  sub:=fun h _=>h
theorem dh {a b:List Value} (h:a.all (fun u=>u.oneCell')=true) (h2:b.all (fun u=>u.oneCell')=true):(a ++ b).all (fun u=>u.oneCell')=true:=by rw[List.all_append,h,h2];rfl
theorem pZ {v:Value} (h:v.oneCell'=true):[v].all (fun u=>u.oneCell')=true:=by simp[h]
theorem jH (l:Ly):(gD l).all (fun u=>u.oneCell')=true:=List.all_eq_true.2 (vI l)
theorem iy (n:Nat):(List.replicate n 0).length=n∧∀y∈List.replicate n 0,y<18446744073709551616:=⟨by simp,by simp⟩
theorem nH {l:List Nat} {n k v:Nat} (h:l.length=n∧∀y∈l,y<18446744073709551616) (hv:v<18446744073709551616):(l.set k v).length=n∧∀y∈l.set k v,y<18446744073709551616 :=
  ⟨by simpa using h.1,fun y hy=>(List.mem_or_eq_of_mem_set hy).elim (h.2 y) (fun e=>e ▸ hv)⟩
theorem eU {l:List Nat} {n:Nat} (h:l.length=n∧∀y∈l,y<18446744073709551616) (k:Nat):l.getD k 0<18446744073709551616:=by
  rw[List.getD_eq_getElem?_getD]
  cases hk:l[k]? with
  | none=>simp
  | some y=>simpa using h.2 y (List.mem_of_getElem? hk)
structure Pr where
  name:List UInt8
  value:List UInt8
def Pr.cells (x:Pr):List Value :=
  [(str x.name)] ++ ([(str x.value)])
def mr:Dt Pr:=sG (fun x=>(x.name,x.value)) (gm PE PE)
theorem gZ {w:World} {Q:Nat→Prop} {cs:List Value} {x:Pr} (h:mr.oC w Q cs x):∃(_:True),cs=x.cells:=by
  obtain⟨_,_,rfl,⟨rfl,_⟩,⟨rfl,_⟩⟩:=h
  exact⟨trivial,q⟩
theorem mN {w:World} {Q:Nat→Prop} {x:Pr}:mr.oC w Q (x.cells) x :=
  ⟨_,_,q,⟨q,tV⟩,⟨q,tV⟩⟩
theorem Pr.one {x:Pr}:(x.cells).all (fun u=>u.oneCell')=true:=(dh q q)
structure Rec where
  seq:Nat
  cF:Nat
  mono:Nat
  ck:List UInt8
  aj:List Pr
def Rec.cells (x:Rec) (v0:Value):List Value :=
  [(.int .u64 x.seq)] ++ ([(.int .u64 x.cF)] ++ ([(.int .u64 x.mono)] ++ ((gD x.ck) ++ ([v0]))))
def sH:Dt Rec:=sG (fun x=>(x.seq,x.cF,x.mono,x.ck,x.aj)) (gm ep (gm ep (gm ep (gm XO (II mr)))))
def Rec.ok (x:Rec):Prop:=x.seq<18446744073709551616∧x.cF<18446744073709551616∧x.mono<18446744073709551616∧x.ck.length=16
theorem wi {w:World} {Q:Nat→Prop} {cs:List Value} {x:Rec} (h:sH.oC w Q cs x):∃v0,cs=x.cells v0∧Rec.ok x∧Ls mr w Q v0 x.aj:=by
  obtain⟨_,_,rfl,⟨rfl,A⟩,⟨_,_,rfl,⟨rfl,B⟩,⟨_,_,rfl,⟨rfl,C⟩,⟨_,_,rfl,⟨rfl,D⟩,⟨v0,rfl,E⟩⟩⟩⟩⟩:=h
  exact⟨v0,q,⟨A,B,C,D⟩,E⟩
theorem IG {w:World} {Q:Nat→Prop} {x:Rec} {v0:Value} (c0:Rec.ok x) (c1:Ls mr w Q v0 x.aj):sH.oC w Q (x.cells v0) x :=
  ⟨_,_,q,⟨q,c0.1⟩,⟨_,_,q,⟨q,c0.2.1⟩,⟨_,_,q,⟨q,c0.2.2.1⟩,⟨_,_,q,⟨q,c0.2.2.2⟩,⟨_,q,c1⟩⟩⟩⟩⟩
theorem Rec.one {x:Rec} {v0:Value} (h0:v0.oneCell'=true):(x.cells v0).all (fun u=>u.oneCell')=true:=(dh q (dh q (dh q (dh (jH _) (pZ h0)))))
structure Frame where
  kind:Nat
  flags:Nat
  size:Nat
structure iL where
  dY:Nat
  dc:Nat
  ec:Nat
  entry:Nat
  array:Nat
  cr:Nat
  aG:List UInt8
def iL.cells (x:iL) (v0:Value):List Value :=
  [(.int .u64 x.dY)] ++ ([(.int .u64 x.dc)] ++ ([(.int .u64 x.ec)] ++ ([(.int .u64 x.entry)] ++ ([(.int .u64 x.array)] ++ ([(.int .u64 x.cr)] ++ ([v0]))))))
def iL.ok (x:iL):Prop:=x.dY<18446744073709551616∧x.dc<18446744073709551616∧x.ec<18446744073709551616∧x.entry<18446744073709551616∧x.array<18446744073709551616∧x.cr<18446744073709551616
theorem iL.one {x:iL} {v0:Value} (h0:v0.oneCell'=true):(x.cells v0).all (fun u=>u.oneCell')=true:=(dh q (dh q (dh q (dh q (dh q (dh q (pZ h0)))))))
structure PN where
  dY:Nat
  dc:Nat
  dat:Nat
  aG:List UInt8
def PN.cells (x:PN) (v0:Value):List Value :=
  [(.int .u64 x.dY)] ++ ([(.int .u64 x.dc)] ++ ([(.int .u64 x.dat)] ++ ([v0])))
def PN.ok (x:PN):Prop:=x.dY<18446744073709551616∧x.dc<18446744073709551616∧x.dat<18446744073709551616
structure lI where
  bX:Nat
  dY:Nat
def lI.cells (x:lI):List Value :=
  [(.int .u64 x.bX)] ++ ([(.int .u64 x.dY)])
def yB:Dt lI:=sG (fun x=>(x.bX,x.dY)) (gm ep ep)
def lI.ok (x:lI):Prop:=x.bX<18446744073709551616∧x.dY<18446744073709551616
theorem vZ {w:World} {Q:Nat→Prop} {cs:List Value} {x:lI} (h:yB.oC w Q cs x):∃(_:True),cs=x.cells∧lI.ok x:=by
  obtain⟨_,_,rfl,⟨rfl,A⟩,⟨rfl,B⟩⟩:=h
  exact⟨trivial,q,⟨A,B⟩⟩
theorem S5 {w:World} {Q:Nat→Prop} {x:lI} (c0:lI.ok x):yB.oC w Q (x.cells) x :=
  ⟨_,_,q,⟨q,c0.1⟩,⟨q,c0.2⟩⟩
theorem lI.one {x:lI}:(x.cells).all (fun u=>u.oneCell')=true:=(dh q q)
structure gU where
  seq:Nat
  cF:Nat
  mono:Nat
  ck:List UInt8
  xor:Nat
  aH:List lI
def gU.cells (x:gU) (v0:Value):List Value :=
  [(.int .u64 x.seq)] ++ ([(.int .u64 x.cF)] ++ ([(.int .u64 x.mono)] ++ ((gD x.ck) ++ ([(.int .u64 x.xor)] ++ ([v0])))))
def gU.ok (x:gU):Prop:=x.seq<18446744073709551616∧x.cF<18446744073709551616∧x.mono<18446744073709551616∧x.ck.length=16∧x.xor<18446744073709551616
theorem gU.one {x:gU} {v0:Value} (h0:v0.oneCell'=true):(x.cells v0).all (fun u=>u.oneCell')=true:=(dh q (dh q (dh q (dh (jH _) (dh q (pZ h0))))))
structure iE where
  next:Nat
  aH:List Nat
def iE.cells (x:iE) (v0:Value):List Value :=
  [(.int .u64 x.next)] ++ ([v0])
def iE.ok (x:iE):Prop:=x.next<18446744073709551616
theorem iE.one {x:iE} {v0:Value} (h0:v0.oneCell'=true):(x.cells v0).all (fun u=>u.oneCell')=true:=(dh q (pZ h0))
structure wA where
  first:Nat
  tail:Nat
def wA.cells (x:wA):List Value :=
  [(.int .u64 x.first)] ++ ([(.int .u64 x.tail)])
def WZ:Dt wA:=sG (fun x=>(x.first,x.tail)) (gm ep ep)
def wA.ok (x:wA):Prop:=x.first<18446744073709551616∧x.tail<18446744073709551616
theorem S7 {w:World} {Q:Nat→Prop} {cs:List Value} {x:wA} (h:WZ.oC w Q cs x):∃(_:True),cs=x.cells∧wA.ok x:=by
  obtain⟨_,_,rfl,⟨rfl,A⟩,⟨rfl,B⟩⟩:=h
  exact⟨trivial,q,⟨A,B⟩⟩
theorem S6 {w:World} {Q:Nat→Prop} {x:wA} (c0:wA.ok x):WZ.oC w Q (x.cells) x :=
  ⟨_,_,q,⟨q,c0.1⟩,⟨q,c0.2⟩⟩
structure bW where
  eN:Nat
  cw:Nat
  state:Nat
  cV:List UInt8
  dM:List UInt8
  ck:List UInt8
  seq:List UInt8
  n:List Nat
  cT:Nat
  cW:Nat
  dr:Nat
def bW.cells (x:bW):List Value :=
  [(.int .u32 x.eN)] ++ ([(.int .u32 x.cw)] ++ ([(.int .i64 x.state)] ++ ((gD x.cV) ++ ((gD x.dM) ++ ((gD x.ck) ++ ((gD x.seq) ++ ((oc x.n) ++ ([(.int .u32 x.cT)] ++ ([(.int .u32 x.cW)] ++ ([(.int .u64 x.dr)]))))))))))
def IE:Dt bW:=sG (fun x=>(x.eN,x.cw,x.state,x.cV,x.dM,x.ck,x.seq,x.n,x.cT,x.cW,x.dr)) (gm tU32 (gm tU32 (gm jo (gm XO (gm XO (gm XO (gm XO (gm (adb) (gm tU32 (gm tU32 ep))))))))))
def bW.ok (x:bW):Prop:=x.eN<4294967296∧x.cw<4294967296∧x.state<9223372036854775808∧x.cV.length=16∧x.dM.length=16∧x.ck.length=16∧x.seq.length=16∧(x.n.length=20∧∀y∈x.n,y<18446744073709551616)∧x.cT<4294967296∧x.cW<4294967296∧x.dr<18446744073709551616
theorem EY {w:World} {Q:Nat→Prop} {cs:List Value} {x:bW} (h:IE.oC w Q cs x):∃(_:True),cs=x.cells∧bW.ok x:=by
  obtain⟨_,_,rfl,⟨rfl,B⟩,⟨_,_,rfl,⟨rfl,C⟩,⟨_,_,rfl,⟨rfl,D⟩,⟨_,_,rfl,⟨rfl,E⟩,⟨_,_,rfl,⟨rfl,F⟩,⟨_,_,rfl,⟨rfl,G⟩,⟨_,_,rfl,⟨rfl,H⟩,⟨_,_,rfl,⟨rfl,I⟩,⟨_,_,rfl,⟨rfl,J⟩,⟨_,_,rfl,⟨rfl,K⟩,⟨rfl,A⟩⟩⟩⟩⟩⟩⟩⟩⟩⟩⟩:=h
  exact⟨trivial,q,⟨B,C,D,E,F,G,H,I,J,K,A⟩⟩
theorem EX {w:World} {Q:Nat→Prop} {x:bW} (c0:bW.ok x):IE.oC w Q (x.cells) x :=
  ⟨_,_,q,⟨q,c0.1⟩,⟨_,_,q,⟨q,c0.2.1⟩,⟨_,_,q,⟨q,c0.2.2.1⟩,⟨_,_,q,⟨q,c0.2.2.2.1⟩,⟨_,_,q,⟨q,c0.2.2.2.2.1⟩,⟨_,_,q,⟨q,c0.2.2.2.2.2.1⟩,⟨_,_,q,⟨q,c0.2.2.2.2.2.2.1⟩,⟨_,_,q,⟨q,c0.2.2.2.2.2.2.2.1⟩,⟨_,_,q,⟨q,c0.2.2.2.2.2.2.2.2.1⟩,⟨_,_,q,⟨q,c0.2.2.2.2.2.2.2.2.2.1⟩,⟨q,c0.2.2.2.2.2.2.2.2.2.2⟩⟩⟩⟩⟩⟩⟩⟩⟩⟩⟩
theorem bW.one {x:bW}:(x.cells).all (fun u=>u.oneCell')=true:=(dh q (dh q (dh q (dh (jH _) (dh (jH _) (dh (jH _) (dh (jH _) (dh q (dh q (dh q q))))))))))
structure bY where
  eN:Nat
  cw:Nat
  state:Nat
  cV:List UInt8
  dM:List UInt8
  ck:List UInt8
  seq:List UInt8
  n:List Nat
  cT:Nat
  cW:Nat
  dr:Nat
def bY.cells (x:bY):List Value :=
  [(.int .u32 x.eN)] ++ ([(.int .u32 x.cw)] ++ ([(.int .i64 x.state)] ++ ((gD x.cV) ++ ((gD x.dM) ++ ((gD x.ck) ++ ((gD x.seq) ++ ((oe x.n) ++ ([(.int .u32 x.cT)] ++ ([(.int .u32 x.cW)] ++ ([(.int .u64 x.dr)]))))))))))
def PD:Dt bY:=sG (fun x=>(x.eN,x.cw,x.state,x.cV,x.dM,x.ck,x.seq,x.n,x.cT,x.cW,x.dr)) (gm tU32 (gm tU32 (gm jo (gm XO (gm XO (gm XO (gm XO (gm (ade) (gm tU32 (gm tU32 ep))))))))))
def bY.ok (x:bY):Prop:=x.eN<4294967296∧x.cw<4294967296∧x.state<9223372036854775808∧x.cV.length=16∧x.dM.length=16∧x.ck.length=16∧x.seq.length=16∧(x.n.length=21∧∀y∈x.n,y<18446744073709551616)∧x.cT<4294967296∧x.cW<4294967296∧x.dr<18446744073709551616
theorem WY {w:World} {Q:Nat→Prop} {cs:List Value} {x:bY} (h:PD.oC w Q cs x):∃(_:True),cs=x.cells∧bY.ok x:=by
  obtain⟨_,_,rfl,⟨rfl,B⟩,⟨_,_,rfl,⟨rfl,C⟩,⟨_,_,rfl,⟨rfl,D⟩,⟨_,_,rfl,⟨rfl,E⟩,⟨_,_,rfl,⟨rfl,F⟩,⟨_,_,rfl,⟨rfl,G⟩,⟨_,_,rfl,⟨rfl,H⟩,⟨_,_,rfl,⟨rfl,I⟩,⟨_,_,rfl,⟨rfl,J⟩,⟨_,_,rfl,⟨rfl,K⟩,⟨rfl,A⟩⟩⟩⟩⟩⟩⟩⟩⟩⟩⟩:=h
  exact⟨trivial,q,⟨B,C,D,E,F,G,H,I,J,K,A⟩⟩
theorem WX {w:World} {Q:Nat→Prop} {x:bY} (c0:bY.ok x):PD.oC w Q (x.cells) x :=
  ⟨_,_,q,⟨q,c0.1⟩,⟨_,_,q,⟨q,c0.2.1⟩,⟨_,_,q,⟨q,c0.2.2.1⟩,⟨_,_,q,⟨q,c0.2.2.2.1⟩,⟨_,_,q,⟨q,c0.2.2.2.2.1⟩,⟨_,_,q,⟨q,c0.2.2.2.2.2.1⟩,⟨_,_,q,⟨q,c0.2.2.2.2.2.2.1⟩,⟨_,_,q,⟨q,c0.2.2.2.2.2.2.2.1⟩,⟨_,_,q,⟨q,c0.2.2.2.2.2.2.2.2.1⟩,⟨_,_,q,⟨q,c0.2.2.2.2.2.2.2.2.2.1⟩,⟨q,c0.2.2.2.2.2.2.2.2.2.2⟩⟩⟩⟩⟩⟩⟩⟩⟩⟩⟩
theorem bY.one {x:bY}:(x.cells).all (fun u=>u.oneCell')=true:=(dh q (dh q (dh q (dh (jH _) (dh (jH _) (dh (jH _) (dh (jH _) (dh q (dh q (dh q q))))))))))
structure fE where
  b:List UInt8
  h:bY
def fE.cells (x:fE) (v0:Value):List Value :=
  [v0] ++ ((bY.cells x.h))
def gu:Dt fE:=sG (fun x=>(x.b,x.h)) (gm (II fe) PD)
def fE.ok (x:fE):Prop:=bY.ok x.h
theorem gT {w:World} {Q:Nat→Prop} {cs:List Value} {x:fE} (h:gu.oC w Q cs x):∃v0,cs=x.cells v0∧fE.ok x∧Ls fe w Q v0 x.b:=by
  obtain⟨_,_,rfl,⟨v0,rfl,B⟩,C⟩:=h
  obtain⟨_,rfl,A⟩:=WY C
  exact⟨v0,q,A,B⟩
theorem fU {w:World} {Q:Nat→Prop} {x:fE} {v0:Value} (c0:fE.ok x) (c1:Ls fe w Q v0 x.b):gu.oC w Q (x.cells v0) x :=
  ⟨_,_,q,⟨_,q,c1⟩,(WX c0)⟩
structure jX where
  h:bW
  depth:Nat
  b:List UInt8
def jX.cells (x:jX) (v0:Value):List Value :=
  (bW.cells x.h) ++ ([(.int .u64 x.depth)] ++ ([v0]))
def xE:Dt jX:=sG (fun x=>(x.h,x.depth,x.b)) (gm IE (gm ep (II fe)))
def jX.ok (x:jX):Prop:=bW.ok x.h∧x.depth<18446744073709551616
theorem FA {w:World} {Q:Nat→Prop} {cs:List Value} {x:jX} (h:xE.oC w Q cs x):∃v0,cs=x.cells v0∧jX.ok x∧Ls fe w Q v0 x.b:=by
  obtain⟨_,_,rfl,B,⟨_,_,rfl,⟨rfl,C⟩,⟨v0,rfl,D⟩⟩⟩:=h
  obtain⟨_,rfl,A⟩:=EY B
  exact⟨v0,q,⟨A,C⟩,D⟩
theorem EZ {w:World} {Q:Nat→Prop} {x:jX} {v0:Value} (c0:jX.ok x) (c1:Ls fe w Q v0 x.b):xE.oC w Q (x.cells v0) x :=
  ⟨_,_,q,(EX c0.1),⟨_,_,q,⟨q,c0.2⟩,⟨_,q,c1⟩⟩⟩
structure nq where
  cV:List UInt8
  dM:List UInt8
  seq:List UInt8
  aQ:Nat
  aP:Nat
  cK:Nat
  dx:Bool
def nq.cells (x:nq):List Value :=
  (gD x.cV) ++ ((gD x.dM) ++ ((gD x.seq) ++ ([(.int .i64 x.aQ)] ++ ([(.int .i64 x.aP)] ++ ([(.int .i64 x.cK)] ++ ([(.bool x.dx)]))))))
def afb:Dt nq:=sG (fun x=>(x.cV,x.dM,x.seq,x.aQ,x.aP,x.cK,x.dx)) (gm XO (gm XO (gm XO (gm jo (gm jo (gm jo agD))))))
def nq.ok (x:nq):Prop:=x.cV.length=16∧x.dM.length=16∧x.seq.length=16∧x.aQ<9223372036854775808∧x.aP<9223372036854775808∧x.cK<9223372036854775808
theorem ada {w:World} {Q:Nat→Prop} {cs:List Value} {x:nq} (h:afb.oC w Q cs x):∃(_:True),cs=x.cells∧nq.ok x:=by
  obtain⟨_,_,rfl,⟨rfl,A⟩,⟨_,_,rfl,⟨rfl,B⟩,⟨_,_,rfl,⟨rfl,C⟩,⟨_,_,rfl,⟨rfl,D⟩,⟨_,_,rfl,⟨rfl,E⟩,⟨_,_,rfl,⟨rfl,F⟩,⟨rfl,_⟩⟩⟩⟩⟩⟩⟩:=h
  exact⟨trivial,q,⟨A,B,C,D,E,F⟩⟩
theorem acZ {w:World} {Q:Nat→Prop} {x:nq} (c0:nq.ok x):afb.oC w Q (x.cells) x :=
  ⟨_,_,q,⟨q,c0.1⟩,⟨_,_,q,⟨q,c0.2.1⟩,⟨_,_,q,⟨q,c0.2.2.1⟩,⟨_,_,q,⟨q,c0.2.2.2.1⟩,⟨_,_,q,⟨q,c0.2.2.2.2.1⟩,⟨_,_,q,⟨q,c0.2.2.2.2.2⟩,⟨q,tV⟩⟩⟩⟩⟩⟩⟩
theorem nq.one {x:nq}:(x.cells).all (fun u=>u.oneCell')=true:=(dh (jH _) (dh (jH _) (dh (jH _) (dh q (dh q (dh q q))))))
structure bQ where
  cM:List UInt8
  bX:Nat
  dI:Nat
  cr:Nat
  bg:List Nat
def bQ.cells (x:bQ) (v0:Value):List Value :=
  [(str x.cM)] ++ ([(.int .u64 x.bX)] ++ ([(.int .i64 x.dI)] ++ ([(.int .i64 x.cr)] ++ ([v0]))))
def dH:Dt bQ:=sG (fun x=>(x.cM,x.bX,x.dI,x.cr,x.bg)) (gm PE (gm ep (gm jo (gm jo (II ep)))))
def bQ.ok (x:bQ):Prop:=x.bX<18446744073709551616∧x.dI<9223372036854775808∧x.cr<9223372036854775808
theorem iU {w:World} {Q:Nat→Prop} {cs:List Value} {x:bQ} (h:dH.oC w Q cs x):∃v0,cs=x.cells v0∧bQ.ok x∧Ls ep w Q v0 x.bg:=by
  obtain⟨_,_,rfl,⟨rfl,_⟩,⟨_,_,rfl,⟨rfl,A⟩,⟨_,_,rfl,⟨rfl,B⟩,⟨_,_,rfl,⟨rfl,C⟩,⟨v0,rfl,D⟩⟩⟩⟩⟩:=h
  exact⟨v0,q,⟨A,B,C⟩,D⟩
theorem qF {w:World} {Q:Nat→Prop} {x:bQ} {v0:Value} (c0:bQ.ok x) (c1:Ls ep w Q v0 x.bg):dH.oC w Q (x.cells v0) x :=
  ⟨_,_,q,⟨q,tV⟩,⟨_,_,q,⟨q,c0.1⟩,⟨_,_,q,⟨q,c0.2.1⟩,⟨_,_,q,⟨q,c0.2.2⟩,⟨_,q,c1⟩⟩⟩⟩⟩
theorem bQ.one {x:bQ} {v0:Value} (h0:v0.oneCell'=true):(x.cells v0).all (fun u=>u.oneCell')=true:=(dh q (dh q (dh q (dh q (pZ h0)))))
structure Mk where
  c:nq
  h:bW
  depth:Nat
  b:List UInt8
  ai:List bQ
  aj:List bQ
  main:List Nat
def Mk.cells (x:Mk) (v0:Value) (v1:Value) (v2:Value) (v3:Value):List Value :=
  (nq.cells x.c) ++ ((bW.cells x.h) ++ ([(.int .u64 x.depth)] ++ ([v0] ++ ([v1] ++ ([v2] ++ ([v3]))))))
def tMk:Dt Mk:=sG (fun x=>(x.c,x.h,x.depth,x.b,x.ai,x.aj,x.main)) (gm afb (gm IE (gm ep (gm (II fe) (gm (II dH) (gm (II dH) (II ep)))))))
def Mk.ok (x:Mk):Prop:=nq.ok x.c∧bW.ok x.h∧x.depth<18446744073709551616
theorem afc {w:World} {Q:Nat→Prop} {cs:List Value} {x:Mk} (h:tMk.oC w Q cs x):∃v0 v1 v2 v3,cs=x.cells v0 v1 v2 v3∧Mk.ok x∧Ls fe w Q v0 x.b∧Ls dH w Q v1 x.ai∧Ls dH w Q v2 x.aj∧Ls ep w Q v3 x.main:=by
  obtain⟨_,_,rfl,C,⟨_,_,rfl,D,⟨_,_,rfl,⟨rfl,E⟩,⟨_,_,rfl,⟨v0,rfl,F⟩,⟨_,_,rfl,⟨v1,rfl,G⟩,⟨_,_,rfl,⟨v2,rfl,H⟩,⟨v3,rfl,I⟩⟩⟩⟩⟩⟩⟩:=h
  obtain⟨_,rfl,A⟩:=ada C
  obtain⟨_,rfl,B⟩:=EY D
  exact⟨v0,v1,v2,v3,q,⟨A,B,E⟩,F,G,H,I⟩
theorem abn {w:World} {Q:Nat→Prop} {x:Mk} {v0:Value} {v1:Value} {v2:Value} {v3:Value} (c0:Mk.ok x) (c1:Ls fe w Q v0 x.b) (c2:Ls dH w Q v1 x.ai) (c3:Ls dH w Q v2 x.aj) (c4:Ls ep w Q v3 x.main):tMk.oC w Q (x.cells v0 v1 v2 v3) x :=
  ⟨_,_,q,(acZ c0.1),⟨_,_,q,(EX c0.2.1),⟨_,_,q,⟨q,c0.2.2⟩,⟨_,_,q,⟨_,q,c1⟩,⟨_,_,q,⟨_,q,c2⟩,⟨_,_,q,⟨_,q,c3⟩,⟨_,q,c4⟩⟩⟩⟩⟩⟩⟩
theorem Mk.one {x:Mk} {v0:Value} {v1:Value} {v2:Value} {v3:Value} (h0:v0.oneCell'=true) (h1:v1.oneCell'=true) (h2:v2.oneCell'=true) (h3:v3.oneCell'=true):(x.cells v0 v1 v2 v3).all (fun u=>u.oneCell')=true:=(dh (nq.one) (dh (bW.one) (dh q (dh (pZ h0) (dh (pZ h1) (dh (pZ h2) (pZ h3)))))))
structure Sq where
  l:List Int
  bX:Nat
def Sq.cells (x:Sq) (v0:Value):List Value :=
  [v0] ++ ([(.int .i64 x.bX)])
def Sq.ok (x:Sq):Prop:=x.bX<9223372036854775808
end Go.Wk
namespace Go.Wk
open Go Go.RowKit
def low:Nat→Nat→List UInt8
  | _,0=>[]
  | v,n+1=>UInt8.ofNat (v%256) :: low (v/256) n
theorem gV (v n:Nat):(low v n).length=n:=by
  induction n generalizing v with
  | zero=>rfl
  | succ n ih=>simp[low,ih]
def nums:List Nat→List UInt8
  | []=>[]
  | v :: r=>low v 8 ++ nums r
theorem eI (l:List Nat):(nums l).length=8*l.length:=by
  induction l with
  | nil=>rfl
  | cons v r ih=>simp[nums,gV,ih];omega
theorem KF (v:Nat) {n i:Nat} (h:i<n):low v (n-i)=UInt8.ofNat (v%256) :: low (v/256) (n-(i+1)):=by
  rw[show n-i=(n-(i+1))+1 by omega];rfl
theorem QL (v:Nat) {n i:Nat} (h:¬i<n):low v (n-i)=[]:=by
  rw[show n-i=0 by omega];rfl
theorem UI {l:List Nat} {i x:Nat} (h:l[i]? = some x):nums (l.drop i)=low x 8 ++ nums (l.drop (i+1)):=by rw[eG h];rfl
theorem KO {l:List Nat} {i:Nat} (h:¬i<l.length):nums (l.drop i)=[]:=by rw[gI (by omega)];rfl
def AX (l:Ly):List UInt8:=l ++ List.replicate ((8-l.length%8)%8) 0
theorem VK {l:Ly} (h:l.length%8≠0):AX l=AX (l ++ [0]):=by
  unfold AX
  rw[List.append_assoc,List.length_append]
  congr 1
  rw[show(8-l.length%8)%8=(8-(l.length+[(0:UInt8)].length)%8)%8+1 by simp;omega,List.replicate_succ]
  rfl
theorem aa8 {l:Ly} (h:l.length%8=0):AX l=l:=by simp[AX,h]
theorem aa9 (l:Ly):(AX l).length=(l.length+7)/8*8:=by simp[AX];omega
def qD (kind:Nat) (body:Ly):List UInt8 :=
  if kind<1∨7<kind then[]else AX ([UInt8.ofNat kind,0,0,0,0,0,0,0] ++ nums [16+body.length] ++ body)
def iH (d:iL):List UInt8:=qD 1 (nums [d.dY,d.dc,d.ec,d.entry,d.array,d.cr] ++ d.aG)
def gR (d:PN):List UInt8:=qD 2 (nums [d.dY,d.dc,d.dat] ++ d.aG)
def fI (a:iE):List UInt8:=qD 6 (nums [a.next] ++ nums a.aH)
def p9:List wA→List UInt8
  | []=>[]
  | s :: r=>nums [s.first,s.tail] ++ p9 r
def eL (kind:Nat) (l:List wA):List UInt8:=if kind≠4∧kind≠5 then[]else qD kind (p9 l)
def kP:List lI→List UInt8
  | []=>[]
  | s :: r=>nums [s.bX,s.dY] ++ kP r
def er (e:gU):List UInt8:=qD 3 (nums [e.seq,e.cF,e.mono] ++ e.ck ++ nums [e.xor] ++ kP e.aH)
def vk (h:bW) (depth:Nat):List UInt8 :=
  [76,80,75,83,72,72,82,72] ++ low h.eN 4 ++ low h.cw 4 ++ [UInt8.ofNat h.state,0,0,0,0,0,0,0] ++ h.cV ++ h.dM ++ h.ck ++ h.seq ++ nums h.n ++ nums [depth] ++ low h.cT 4 ++ low h.cW 4 ++ nums [h.dr]
theorem su {k:Nat} {b:Ly} (h:1≤k∧k≤7):(qD k b).length=(16+b.length+7)/8*8:=by
  unfold qD
  rw[if_neg (by omega),aa9]
  simp[eI]
  omega
theorem P5 {l:List wA} {i:Nat} {x:wA} (h:l[i]? = some x):p9 (l.drop i)=nums [x.first,x.tail] ++ p9 (l.drop (i+1)):=by rw[eG h];rfl
theorem EU {l:List wA} {i:Nat} (h:¬i<l.length):p9 (l.drop i)=[]:=by rw[gI (by omega)];rfl
theorem WS (l:List wA):(p9 l).length=16*l.length:=by
  induction l with
  | nil=>rfl
  | cons v r ih=>simp[p9,eI,ih];omega
theorem NH {l:List lI} {i:Nat} {x:lI} (h:l[i]? = some x):kP (l.drop i)=nums [x.bX,x.dY] ++ kP (l.drop (i+1)):=by rw[eG h];rfl
theorem CZ {l:List lI} {i:Nat} (h:¬i<l.length):kP (l.drop i)=[]:=by rw[gI (by omega)];rfl
theorem sU (l:List lI):(kP l).length=16*l.length:=by
  induction l with
  | nil=>rfl
  | cons v r ih=>simp[kP,eI,ih];omega
theorem vM (d:iL):(iH d).length=(16+(48+d.aG.length)+7)/8*8:=by unfold iH;rw[su (by omega)];simp[eI]
theorem tP (d:PN):(gR d).length=(16+(24+d.aG.length)+7)/8*8:=by unfold gR;rw[su (by omega)];simp[eI]
theorem tO (a:iE):(fI a).length=(16+(8+8*a.aH.length)+7)/8*8:=by unfold fI;rw[su (by omega)];simp[eI]
theorem nA (e:gU) (h:e.ck.length=16):(er e).length=(16+(48+16*e.aH.length)+7)/8*8:=by unfold er;rw[su (by omega)];simp[eI,sU,h];omega
theorem tX (kind:Nat) (l:List wA) (h:kind=4∨kind=5):(eL kind l).length=(16+16*l.length+7)/8*8:=by unfold eL;rw[if_neg (by omega),su (by omega),WS]
theorem mH (kind:Nat) (l:List wA):(eL kind l).length≤24+16*l.length∧(kind=4∨kind=5→(eL kind l).length=(16+16*l.length+7)/8*8):=by
  refine⟨?_,fun h=>tX kind l h⟩
  by_cases h:kind=4∨kind=5
  · rw[tX kind l h];omega
  unfold eL;rw[if_pos (by omega)];simp
theorem EL {h:bW} {j v:Nat} (hn:h.n.length=20) (hj:j<20):(bW.cells h).set (67+j) (.int .u64 v)=bW.cells {h with n:=h.n.set j v}:=by
  have e:∀(m:List Nat) (t:bW),t.n=m→bW.cells t=([(.int .u32 t.eN)] ++ ([(.int .u32 t.cw)] ++ ([(.int .i64 t.state)] ++ ((gD t.cV) ++ ((gD t.dM) ++ ((gD t.ck) ++ (gD t.seq))))))) ++ (oc m ++ ([(.int .u32 t.cT)] ++ ([(.int .u32 t.cW)] ++ [(.int .u64 t.dr)]))):=by
    intro m t C;subst C;simp only[bW.cells,List.append_assoc]
  rw[e h.n h q,e (h.n.set j v) {h with n:=h.n.set j v} q,AK hn hj]
  have B:([(.int .u32 h.eN)] ++ ([(.int .u32 h.cw)] ++ ([(.int .i64 h.state)] ++ ((gD h.cV) ++ ((gD h.dM) ++ ((gD h.ck) ++ (gD h.seq)))))):List Value).length=67:=rfl
  have A:(oc h.n).length=20:=rfl
  rw[List.set_append_right _ _ (by omega),B,Nat.add_sub_cancel_left,List.set_append_left _ _ (by omega)]
end Go.Wk
namespace Go.Wk
open Go Go.RowKit
theorem CF (op:BinOp) (a b:Int):0≤bits op .u64 a b∧bits op .u64 a b<18446744073709551616:=by
  unfold bits
  cases op <;> simp only[IJ] <;> omega
theorem RG (t:T3):0≤pack t∧pack t<18446744073709551616:=CF _ _ _
theorem ZC:∀(k:Nat) (t:T3) (l:Ly),0≤QI k t l∧QI k t l<18446744073709551616
  | 0,t,l=>by unfold QI;split<;>exact RG _
  | k+1,t,l=>by
    unfold QI
    split
    · exact ZC k _ _
    · split<;>exact RG _
theorem sW (l:Ly):0≤lookup l∧lookup l<18446744073709551616:=ZC _ _ _
theorem abh (key l:Ly):0≤sip key l∧sip key l<18446744073709551616:=by
  unfold sip BH S4.all l9
  exact CF _ _ _
def qo (l:Ly):Nat:=(lookup l).toNat
def dS (k:Bool) (key l:Ly):Nat:=if k then(sip key l).toNat else qo l
theorem zO (k:Bool) (key l:Ly):((dS k key l:Nat):Int)=if k then sip key l else lookup l:=by
  unfold dS qo
  have A:=sW l
  have B:=abh key l
  cases k <;> simp <;> omega
theorem zP (k:Bool) (key l:Ly):dS k key l<18446744073709551616:=by
  have B:=sW l
  have C:=abh key l
  have A:=zO k key l
  cases k <;> simp at A <;> omega
theorem KE (l:Ly):((qo l:Nat):Int)=lookup l:=by have A:=sW l;unfold qo;omega
theorem zZ (l:Ly):qo l<18446744073709551616:=by have A:=sW l;unfold qo;omega
def mQ (v:Nat):List (List UInt8)→Nat
  | []=>v
  | b :: r=>mQ (v ^^^ qo b) r
theorem MN {v:Nat} {l:List (List UInt8)} {i:Nat} {x:Ly} (h:l[i]? = some x):mQ v (l.drop i)=mQ (v ^^^ qo x) (l.drop (i+1)):=by rw[eG h];rfl
theorem yW {v:Nat} {l:List (List UInt8)} {i:Nat} (h:¬i<l.length):mQ v (l.drop i)=v:=by rw[gI (by omega)];rfl
theorem BN {a b:Nat} (ha:a<18446744073709551616) (hb:b<18446744073709551616):a ^^^ b<18446744073709551616:=Nat.xor_lt_two_pow (n:=64) ha hb
def aG (p:Pr):List UInt8:=p.name ++ [61] ++ p.value
theorem jN (p:Pr):(aG p).length=p.name.length+1+p.value.length:=by simp[aG];omega
end Go.Wk
namespace Go.Wk
open Go Go.RowKit
def eu (k:Int):Nat:=if k<0 then 0 else if 6<k then 256 else min (4*2 ^ k.toNat) 256
def BU:Nat→List UInt8→Nat→Nat→Nat→List UInt8
  | 0,b,_,_,_=>b
  | n+1,b,p,v,i=>BU n (b.set (p+i) (UInt8.ofNat (v/2 ^ (8*i)))) p v (i+1)
def jy (b:Ly) (p v:Nat):List UInt8:=BU 8 b p v 0
theorem aaE (n:Nat) (b:Ly) (p v i:Nat):(BU n b p v i).length=b.length:=by
  induction n generalizing b i with
  | zero=>rfl
  | succ n ih=>simp[BU,ih]
theorem iI (b:Ly) (p v:Nat):(jy b p v).length=b.length:=aaE 8 b p v 0
def Mk.put (m:Mk) (p v:Nat):Mk:={m with b:=jy m.b p v}
theorem jU (m:Mk) (p v:Nat):(m.put p v).b.length=m.b.length:=iI _ _ _
theorem VQ {n i:Nat} {b:Ly} {p v:Nat} (h:i<n):BU (n-i) b p v i=BU (n-(i+1)) (b.set (p+i) (UInt8.ofNat (v/2 ^ (8*i)))) p v (i+1):=by
  rw[show n-i=(n-(i+1))+1 by omega];rfl
theorem aaD {n i:Nat} {b:Ly} {p v:Nat} (h:¬i<n):BU (n-i) b p v i=b:=by rw[show n-i=0 by omega];rfl
def Mk.dW (m:Mk) (k v:Nat):Mk:={m with h:={m.h with n:=m.h.n.set k v}}
def Mk.dD (m:Mk) (k:Nat):Nat:=m.h.n.getD k 0
def Mk.d9 (m:Mk) (o:Ly):Nat × Mk :=
  let m1:={m with b:=m.b ++ o}
  let m29:=m1.dW 6 m.b.length
  (m.b.length,m29.dW 7 ((m29.dD 7+1)%18446744073709551616))
def o7 (dI:Nat):List bQ→Nat→Nat→Nat × Nat
  | [],n,q=>(n,q)
  | k :: r,n,q=>if k.dI=dI then o7 dI r (n+1) k.bX else o7 dI r n q
def Mk.hang (m:Mk) (l:List bQ) (table p dI:Nat):Nat × Mk :=
  match o7 dI l 0 0 with
  | (n,q)=>(n,(if n=0 then m.put (table+16*dI) p else m.put (q+24) p).put (table+16*dI+8) p)
def r5 (name:Ly):List bQ→Option Nat
  | []=>none
  | k :: r=>if k.cM=name then some k.bX else r5 name r
def nG (s:Ly):List bQ→Nat→Option Nat
  | [],_=>none
  | k :: r,i=>if k.cM=s then some i else nG s r (i+1)
def Mk.field (m:Mk) (name:Ly):Nat × Mk :=
  match r5 name m.aj with
  | some p=>(p,m)
  | none =>
    match m.d9 (gR {dY:=dS m.c.dx m.c.cV name,dc:=0,dat:=0,aG:=name})with
    | (p,m1)=>match m1.hang m1.aj (m1.dD 4) p (dS m.c.dx m.c.cV name%m1.c.aP)with
      | (n,m29) =>
        let m3:={m29 with depth:=max m1.depth n}
        let m4:=m3.dW 16 ((m3.dD 16+1)%18446744073709551616)
        (p,{m4 with aj:=m4.aj ++ [({cM:=name,bX:=p,dI:=dS m.c.dx m.c.cV name%m1.c.aP,cr:=0,bg:=[]}:bQ)]})
def Mk.data (m:Mk) (x:Pr):Nat × Mk :=
  match nG (aG x) m.ai 0 with
  | some i=>(i,m)
  | none =>
    match m.d9 (iH {dY:=dS m.c.dx m.c.cV (aG x),dc:=0,ec:=0,entry:=0,array:=0,cr:=0,aG:=aG x})with
    | (p,m1)=>match m1.hang m1.ai (m1.dD 2) p (dS m.c.dx m.c.cV (aG x)%m1.c.aQ)with
      | (n,m29) =>
        let m3:=m29.dW 19 (max (m29.dD 19) n)
        let m4:=m3.dW 15 ((m3.dD 15+1)%18446744073709551616)
        let m5:={m4 with ai:=m4.ai ++ [({cM:=aG x,bX:=p,dI:=dS m.c.dx m.c.cV (aG x)%m1.c.aQ,cr:=0,bg:=[]}:bQ)]}
        match m5.field x.name with
        | (k,m6) =>
          let m7:=m6.put (p+32) (oG m6.b (k+32:Nat) 8).1
          let m8:=m7.put (k+32) p
          (m8.ai.length-1,m8)
theorem WO (m:Mk) (k v:Nat):(m.dW k v).b=m.b∧(m.dW k v).c=m.c∧(m.dW k v).ai=m.ai∧(m.dW k v).aj=m.aj∧(m.dW k v).main=m.main:=⟨q,q,q,q,q⟩
theorem cg {l:List Nat} {i j v:Nat} (h:i≠j):(l.set i v).getD j 0=l.getD j 0:=by simp[List.getD,List.getElem?_set_ne h]
theorem fw {m:Mk} {k v j:Nat} (h:k≠j):(m.dW k v).dD j=m.dD j:=cg h
theorem iN (m:Mk) (o:Ly):(m.d9 o).1=m.b.length∧(m.d9 o).2.b.length=m.b.length+o.length∧(m.d9 o).2.c.aQ=m.c.aQ∧(m.d9 o).2.c.aP=m.c.aP∧(m.d9 o).2.ai.length=m.ai.length∧(m.d9 o).2.aj.length=m.aj.length ∧
    (m.d9 o).2.h.n.getD 2 0=m.h.n.getD 2 0∧(m.d9 o).2.h.n.getD 4 0=m.h.n.getD 4 0 :=
  ⟨q,by simp[Mk.d9,Mk.dW],q,q,q,q,by simp only[Mk.d9,Mk.dW];rw[cg (by decide),cg (by decide)],by simp only[Mk.d9,Mk.dW];rw[cg (by decide),cg (by decide)]⟩
theorem eO (m:Mk) (o:Ly):(m.d9 o).2.c=m.c∧(m.d9 o).2.ai=m.ai∧(m.d9 o).2.aj=m.aj∧(m.d9 o).2.main=m.main:=⟨q,q,q,q⟩
theorem j4 (m:Mk) (p v:Nat):(m.put p v).b.length=m.b.length∧(m.put p v).c.aQ=m.c.aQ∧(m.put p v).c.aP=m.c.aP∧(m.put p v).ai.length=m.ai.length∧(m.put p v).aj.length=m.aj.length ∧
    (m.put p v).h.n.getD 2 0=m.h.n.getD 2 0∧(m.put p v).h.n.getD 4 0=m.h.n.getD 4 0:=⟨iI _ _ _,q,q,q,q,q,q⟩
theorem yJ (m:Mk) (l:List bQ) (table p dI:Nat):(m.hang l table p dI).2={m with b:=(m.hang l table p dI).2.b}∧(m.hang l table p dI).2.b.length=m.b.length:=by
  unfold Mk.hang
  generalize o7 dI l 0 0=r
  obtain⟨n,q⟩:=r
  simp only
  split
  · exact⟨rfl,by rw[jU,jU]⟩
  exact⟨rfl,by rw[jU,jU]⟩
theorem sR (m:Mk) (l:List bQ) (table p dI:Nat):(m.hang l table p dI).2.b.length=m.b.length∧(m.hang l table p dI).2.c.aQ=m.c.aQ∧(m.hang l table p dI).2.c.aP=m.c.aP∧(m.hang l table p dI).2.ai.length=m.ai.length∧(m.hang l table p dI).2.aj.length=m.aj.length ∧
    (m.hang l table p dI).2.h.n.getD 2 0=m.h.n.getD 2 0∧(m.hang l table p dI).2.h.n.getD 4 0=m.h.n.getD 4 0:=by
  obtain⟨A,B⟩:=yJ m l table p dI
  refine⟨B,?_,?_,?_,?_,?_,?_⟩ <;> rw[A]
theorem iw (m:Mk) (l:List bQ) (table p dI:Nat):(m.hang l table p dI).2.c=m.c∧(m.hang l table p dI).2.ai=m.ai∧(m.hang l table p dI).2.aj=m.aj∧(m.hang l table p dI).2.main=m.main∧(m.hang l table p dI).2.depth=m.depth∧(m.hang l table p dI).2.h=m.h:=by
  have A:=(yJ m l table p dI).1
  refine⟨?_,?_,?_,?_,?_,?_⟩ <;> rw[A]
theorem CW {dI i n q:Nat} {l:List bQ} {x:bQ} (h:l[i]? = some x):o7 dI (l.drop i) n q=if x.dI=dI then o7 dI (l.drop (i+1)) (n+1) x.bX else o7 dI (l.drop (i+1)) n q:=by rw[eG h];rfl
theorem vh {dI i n q:Nat} {l:List bQ} (h:¬i<l.length):o7 dI (l.drop i) n q=(n,q):=by rw[gI (by omega)];rfl
theorem zF {s:Ly} {i:Nat} {l:List bQ} {x:bQ} (h:l[i]? = some x):r5 s (l.drop i)=if x.cM=s then some x.bX else r5 s (l.drop (i+1)):=by rw[eG h];rfl
theorem wK {s:Ly} {i:Nat} {l:List bQ} (h:¬i<l.length):r5 s (l.drop i)=none:=by rw[gI (by omega)];rfl
theorem zD {s:Ly} {i j:Nat} {l:List bQ} {x:bQ} (h:l[i]? = some x):nG s (l.drop i) j=if x.cM=s then some j else nG s (l.drop (i+1)) (j+1):=by rw[eG h];rfl
theorem wJ {s:Ly} {i j:Nat} {l:List bQ} (h:¬i<l.length):nG s (l.drop i) j=none:=by rw[gI (by omega)];rfl
def Mk.fit (m:Mk):Prop:=1≤m.c.aQ∧m.c.aQ≤64∧1≤m.c.aP∧m.c.aP≤64∧m.h.n.getD 2 0+16*m.c.aQ≤m.b.length∧m.h.n.getD 4 0+16*m.c.aP≤m.b.length ∧
  (∀k∈m.ai,k.bX+64≤m.b.length)∧(∀k∈m.aj,k.bX+40≤m.b.length)
theorem po {m m':Mk} (h:m.fit) (h1:m'.c.aQ=m.c.aQ∧m'.c.aP=m.c.aP∧m'.h.n.getD 2 0=m.h.n.getD 2 0∧m'.h.n.getD 4 0=m.h.n.getD 4 0∧m.b.length≤m'.b.length)
    (hd:∀k∈m'.ai,k∈m.ai∨k.bX+64≤m'.b.length) (hf:∀k∈m'.aj,k∈m.aj∨k.bX+40≤m'.b.length):m'.fit:=by
  obtain⟨G,H,I,J,K,L,A,B⟩:=h
  obtain⟨C,D,E,F,M⟩:=h1
  refine⟨by omega,by omega,by omega,by omega,by rw[C,E];omega,by rw[D,F];omega,fun k hk=>?_,fun k hk=>?_⟩
  · rcases hd k hk with h|h
    · have:=A k h;omega
    exact h
  rcases hf k hk with h|h
  · have:=B k h;omega
  exact h
theorem CS {s:Ly} {l:List bQ} {p:Nat} (h:r5 s l=some p):∃k∈l,k.bX=p∧k.cM=s:=by
  induction l with
  | nil=>simp[r5]at h
  | cons x l ih =>
    simp only[r5]at h
    split at h
    · rename_i hx;exact⟨x,by simp,by simpa using h,hx⟩
    · obtain⟨k,hk,A⟩:=ih h;exact⟨k,by simp[hk],A⟩
theorem YT {s:Ly} {l:List bQ} {j i:Nat} (h:nG s l j=some i):j≤i∧i<j+l.length:=by
  induction l generalizing j with
  | nil=>simp[nG]at h
  | cons x l ih =>
    simp only[nG]at h
    split at h
    · simp at h;simp;omega
    · have:=ih h;simp;omega
theorem sO (m:Mk) (name:Ly) (h:m.fit):((m.field name).1+40≤(m.field name).2.b.length∧m.b.length≤(m.field name).2.b.length∧(m.field name).2.b.length≤m.b.length+(48+name.length)∧(m.field name).2.ai.length=m.ai.length∧(m.field name).2.aj.length≤m.aj.length+1 ∧
    (m.field name).2.c.aQ=m.c.aQ∧(m.field name).2.c.aP=m.c.aP∧(m.field name).2.h.n.getD 2 0=m.h.n.getD 2 0∧(m.field name).2.h.n.getD 4 0=m.h.n.getD 4 0∧(m.field name).2.h.n.getD 8 0=m.h.n.getD 8 0) ∧
    ((m.field name).2.c=m.c∧(m.field name).2.ai=m.ai∧(m.field name).2.main=m.main)∧(m.field name).2.fit:=by
  unfold Mk.field
  cases hk:r5 name m.aj with
  | some p =>
    obtain⟨k,D,U,_⟩:=CS hk
    have:=h.2.2.2.2.2.2.2 k D
    exact⟨⟨by simp only;omega,Nat.le_refl _,by simp only;omega,q,by simp only;omega,q,q,q,q,q⟩,⟨q,q,q⟩,h⟩
  | none =>
    simp only
    have C:=iN m (gR {dY:=dS m.c.dx m.c.cV name,dc:=0,dat:=0,aG:=name})
    have I:=eO m (gR {dY:=dS m.c.dx m.c.cV name,dc:=0,dat:=0,aG:=name})
    have J:(m.d9 (gR {dY:=dS m.c.dx m.c.cV name,dc:=0,dat:=0,aG:=name})).2.h.n.getD 8 0=m.h.n.getD 8 0:=by
      simp only[Mk.d9,Mk.dW];rw[cg (by decide),cg (by decide)]
    rw[tP]at C
    simp only at C
    generalize m.d9 (gR {dY:=dS m.c.dx m.c.cV name,dc:=0,dat:=0,aG:=name})=r at *
    obtain⟨p,A⟩:=r
    simp only at C I J ⊢
    have K:=sR A A.aj (A.dD 4) p (dS m.c.dx m.c.cV name%A.c.aP)
    have L:=iw A A.aj (A.dD 4) p (dS m.c.dx m.c.cV name%A.c.aP)
    generalize A.hang A.aj (A.dD 4) p (dS m.c.dx m.c.cV name%A.c.aP)=r at *
    obtain⟨n,B⟩:=r
    simp only at K L ⊢
    obtain⟨V,W,X,Y,Z,a,d,e⟩:=C
    obtain⟨M,E,N,O⟩:=I
    obtain⟨f,g,i,j,l,o,t⟩:=K
    obtain⟨P,F,Q,R,u,S⟩:=L
    simp only[Mk.dW,List.length_append,List.length_singleton]
    have G:(B.h.n.set 16 ((B.dD 16+1)%18446744073709551616)).getD 2 0=m.h.n.getD 2 0:=by rw[cg (by decide)];omega
    have H:(B.h.n.set 16 ((B.dD 16+1)%18446744073709551616)).getD 4 0=m.h.n.getD 4 0:=by rw[cg (by decide)];omega
    have T:(B.h.n.set 16 ((B.dD 16+1)%18446744073709551616)).getD 8 0=m.h.n.getD 8 0:=by rw[cg (by decide),S,J]
    refine⟨⟨by omega,by omega,by omega,by omega,by omega,by omega,by omega,G,H,T⟩,⟨by rw[P,M],by rw[F,E],by rw[R,O]⟩,?_⟩
    refine po h ⟨by simp only;omega,by simp only;omega,G,H,by simp only;omega⟩ (fun k hk=>?_) (fun k hk=>?_)
    · simp only[F,E]at hk;exact .inl hk
    · simp only[Q,N,List.mem_append,List.mem_singleton]at hk
      rcases hk with hk|rfl
      · exact .inl hk
      · right;simp only;omega
theorem Nz (m:Mk) (name:Ly) (h:m.fit):(m.field name).1+40≤(m.field name).2.b.length∧m.b.length≤(m.field name).2.b.length∧(m.field name).2.b.length≤m.b.length+(48+name.length)∧(m.field name).2.ai.length=m.ai.length∧(m.field name).2.aj.length≤m.aj.length+1 ∧
    (m.field name).2.c.aQ=m.c.aQ∧(m.field name).2.c.aP=m.c.aP∧(m.field name).2.h.n.getD 2 0=m.h.n.getD 2 0∧(m.field name).2.h.n.getD 4 0=m.h.n.getD 4 0∧(m.field name).2.h.n.getD 8 0=m.h.n.getD 8 0:=(sO m name h).1
theorem Ny (m:Mk) (name:Ly) (h:m.fit):(m.field name).2.c=m.c∧(m.field name).2.ai=m.ai∧(m.field name).2.main=m.main:=(sO m name h).2.1
theorem TF (m:Mk) (name:Ly) (h:m.fit):(m.field name).2.fit:=(sO m name h).2.2
section
variable {m y:Mk} {v1 v2 v3 v4:Value} {w:World} {b t i v j:Nat}
theorem aew (hn:m.h.n.length=20) (hi:i<20):(Mk.cells m v1 v2 v3 v4).set (119+i) (.int .u64 v)=Mk.cells {m with h:={m.h with n:=m.h.n.set i v}} v1 v2 v3 v4:=by
  have A:(nq.cells m.c).length=52:=rfl
  have B:(bW.cells m.h).length=90:=rfl
  show(nq.cells m.c ++ (bW.cells m.h ++ _)).set _ _=nq.cells m.c ++ (bW.cells _ ++ _)
  rw[List.set_append_right _ _ (by omega),A,show 119+i-52=67+i by omega,List.set_append_left _ _ (by omega),EL hn hi]
theorem GK (B:cG w b ((Mk.cells m v1 v2 v3 v4).set j (.int .u64 v)) t) (ok:Mk.ok m) (hv:v<18446744073709551616) (hj:j=119+i) (hi:i<20):∃y,y=({m with h:={m.h with n:=m.h.n.set i v}}:Mk)∧cG w b (Mk.cells y v1 v2 v3 v4) t∧Mk.ok y:=by
  subst hj
  rw[aew ok.2.1.2.2.2.2.2.2.2.1.1 hi]at B
  obtain⟨A,⟨a,b,c,d,e,f,g,h,k⟩,C⟩:=ok
  exact⟨_,q,B,A,⟨a,b,c,d,e,f,g,nH h hv,k⟩,C⟩
theorem gQ (B:cG w b ((Mk.cells m v1 v2 v3 v4).set j (.int .u64 v)) t) (ok:Mk.ok m) (hv:v<18446744073709551616) (hj:j=119+i:=by rfl) (hi:i<20:=by decide) (h2:i≠2:=by decide) (h4:i≠4:=by decide):∃y,y=({m with h:={m.h with n:=m.h.n.set i v}}:Mk)∧cG w b (Mk.cells y v1 v2 v3 v4) t∧Mk.ok y∧y.b.length=m.b.length∧y.ai.length=m.ai.length∧y.aj.length=m.aj.length∧y.c.aQ=m.c.aQ∧y.c.aP=m.c.aP∧y.h.n.getD 2 0=m.h.n.getD 2 0∧y.h.n.getD 4 0=m.h.n.getD 4 0:=by
  obtain⟨y,rfl,h,k⟩:=GK B ok hv hj hi
  exact⟨_,q,h,k,q,q,q,q,q,cg (by omega),cg (by omega)⟩
theorem QT (B:cG w b ((Mk.cells m v1 v2 v3 v4).set j (.int .u64 v)) t) (ok:Mk.ok m) (hv:v<18446744073709551616) (hj:j=119+i:=by rfl) (hi:i<20:=by decide) (h4:i≠4:=by decide):∃y,y=({m with h:={m.h with n:=m.h.n.set i v}}:Mk)∧cG w b (Mk.cells y v1 v2 v3 v4) t∧Mk.ok y∧y.b.length=m.b.length∧y.ai.length=m.ai.length∧y.aj.length=m.aj.length∧y.c.aQ=m.c.aQ∧y.c.aP=m.c.aP∧y.h.n.getD 4 0=m.h.n.getD 4 0:=by
  obtain⟨y,rfl,h,k⟩:=GK B ok hv hj hi
  exact⟨_,q,h,k,q,q,q,q,q,cg (by omega)⟩
theorem QU (B:cG w b ((Mk.cells m v1 v2 v3 v4).set j (.int .u64 v)) t) (ok:Mk.ok m) (hv:v<18446744073709551616) (hj:j=119+i:=by rfl) (hi:i<20:=by decide) (h2:i≠2:=by decide):∃y,y=({m with h:={m.h with n:=m.h.n.set i v}}:Mk)∧cG w b (Mk.cells y v1 v2 v3 v4) t∧Mk.ok y∧y.b.length=m.b.length∧y.ai.length=m.ai.length∧y.aj.length=m.aj.length∧y.c.aQ=m.c.aQ∧y.c.aP=m.c.aP∧y.h.n.getD 2 0=m.h.n.getD 2 0:=by
  obtain⟨y,rfl,h,k⟩:=GK B ok hv hj hi
  exact⟨_,q,h,k,q,q,q,q,q,cg (by omega)⟩
theorem acp {x:Ly} (e:y={m with b:=x}):y.ai.length=m.ai.length∧y.aj.length=m.aj.length∧y.c.aQ=m.c.aQ∧y.c.aP=m.c.aP∧y.h.n.getD 2 0=m.h.n.getD 2 0∧y.h.n.getD 4 0=m.h.n.getD 4 0:=by subst e;exact⟨q,q,q,q,q,q⟩
theorem rY {x:List bQ} (e:y={m with ai:=x}):y.b.length=m.b.length∧y.aj.length=m.aj.length∧y.c.aQ=m.c.aQ∧y.c.aP=m.c.aP∧y.h.n.getD 2 0=m.h.n.getD 2 0∧y.h.n.getD 4 0=m.h.n.getD 4 0:=by subst e;exact⟨q,q,q,q,q,q⟩
theorem wY {x:List bQ} (e:y={m with aj:=x}):y.b.length=m.b.length∧y.ai.length=m.ai.length∧y.c.aQ=m.c.aQ∧y.c.aP=m.c.aP∧y.h.n.getD 2 0=m.h.n.getD 2 0∧y.h.n.getD 4 0=m.h.n.getD 4 0:=by subst e;exact⟨q,q,q,q,q,q⟩
theorem QR {x:List Nat} (e:y={m with main:=x}):y.b.length=m.b.length∧y.ai.length=m.ai.length∧y.aj.length=m.aj.length∧y.c.aQ=m.c.aQ∧y.c.aP=m.c.aP∧y.h.n.getD 2 0=m.h.n.getD 2 0∧y.h.n.getD 4 0=m.h.n.getD 4 0:=by subst e;exact⟨q,q,q,q,q,q,q⟩
theorem ZI {x:Nat} (e:y={m with depth:=x}):y.b.length=m.b.length∧y.ai.length=m.ai.length∧y.aj.length=m.aj.length∧y.c.aQ=m.c.aQ∧y.c.aP=m.c.aP∧y.h.n.getD 2 0=m.h.n.getD 2 0∧y.h.n.getD 4 0=m.h.n.getD 4 0:=by subst e;exact⟨q,q,q,q,q,q,q⟩
theorem KJ {x:bW} (e:y={m with h:=x}):y.b.length=m.b.length∧y.ai.length=m.ai.length∧y.aj.length=m.aj.length∧y.c.aQ=m.c.aQ∧y.c.aP=m.c.aP:=by subst e;exact⟨q,q,q,q,q⟩
end
section
variable {P:Program}
theorem adX {c:Code} {Q:Exit→Act→World→Prop} {a:Act} {w:World} (R:Act→World→Prop) (h:c.wp P (fun e a w'=>e = .normal∧R a w') a w) (k:∀a w',R a w'→Q .normal a w'):c.wp P Q a w:=by
  refine wp_mono h ?_
  rintro e a w' ⟨rfl,A⟩
  exact k a w' A
end
end Go.Wk
namespace Go.Wk
open Go Go.RowKit
theorem sC (k:Int):eu k≤256:=by unfold eu;split;omega;split<;>omega
def fq:List Nat→Nat→Nat→Nat→Nat × Nat
  | [],_,a,r=>(a,r)
  | _ :: l,k,_,r=>fq l (k+1) r (r+eu (k:Int))
def jK (l:List Nat):Nat:=l.getD (l.length-1) 0
def Mk.link (m:Mk) (bg:List Nat) (n src gN:Nat):List Nat × Nat × Mk :=
  match fq bg 0 0 0 with
  | (ahead,room) =>
    if n=room then
      match m.d9 (fI {next:=0,aH:=List.replicate (eu (bg.length:Int)) 0})with
      | (p,m1) =>
        let m29:=m1.dW 18 ((m1.dD 18+1)%18446744073709551616)
        (bg ++ [p],n-room+1,(if bg.length=0 then m29.put src p else m29.put (jK bg+16) p).put (jK (bg ++ [p])+24+8*(n-room)) gN)
    else(bg,n-ahead+1,m.put (jK bg+24+8*(n-ahead)) gN)
theorem qV {l:List Nat} {i k a r:Nat} (h:i<l.length):fq (l.drop i) k a r=fq (l.drop (i+1)) (k+1) r (r+eu (k:Int)):=by
  obtain⟨x,A⟩:=eH h
  rw[eG A];rfl
theorem qE {l:List Nat} {i k a r:Nat} (h:¬i<l.length):fq (l.drop i) k a r=(a,r):=by rw[gI (by omega)];rfl
theorem sB {k:Int} (h:0≤k):4≤eu k:=by
  unfold eu
  rw[if_neg (by omega)]
  split
  · omega
  have:1≤2 ^ k.toNat:=Nat.one_le_two_pow
  omega
theorem EN (k:Int):k<0∨4≤eu k:=by by_cases h:0≤k;exact .inr (sB h);exact .inl (by omega)
theorem kR {l:List Nat} {x:Nat} (h:l[l.length-1]? = some x):jK l=x:=by simp[jK,List.getD,h]
theorem DG {α} {l:List α} {p x:α} (h:(l ++ [p])[(l ++ [p]).length-1]? = some x):x=p:=by simpa using h.symm
theorem OY (l:List Nat) (k a r:Nat) (h:l≠[]):(fq l k a r).2=(fq l k a r).1+eu ((k+l.length-1:Nat):Int):=by
  induction l generalizing k a r with
  | nil=>exact absurd q h
  | cons x l ih =>
    by_cases hl:l=[]
    · subst hl;simp[fq]
    · simp only[fq,List.length_cons]
      rw[ih (k+1) r (r+eu (k:Int)) hl,show k+1+l.length-1=k+(l.length+1)-1 by omega]
theorem OZ {l:List Nat} {n:Nat} (h2:(fq l 0 0 0).1≤n) (h3:n≤(fq l 0 0 0).2) (h:n≠(fq l 0 0 0).2):1≤l.length∧n<(fq l 0 0 0).1+eu ((l.length-1:Nat):Int):=by
  cases l with
  | nil=>simp[fq]at h3 h;omega
  | cons x l =>
    have:=OY (x :: l) 0 0 0 (by simp)
    simp only[Nat.zero_add]at this
    refine⟨by simp,?_⟩
    omega
def jF (len:Nat) (bg:List Nat) (n:Nat):Prop :=
  (∀(k a:Nat),bg[k]? = some a→a+24+8*eu (k:Int)≤len)∧(fq bg 0 0 0).1≤n∧n≤(fq bg 0 0 0).2
def jd (c:nq) (tail:Nat):Mk :=
  let b1:=List.replicate 272 0 ++ eL 4 (List.replicate c.aQ {first:=0,tail:=0})
  let b2:=b1 ++ eL 5 (List.replicate c.aP {first:=0,tail:=0})
  {c:=c,depth:=0,b:=b2,ai:=[],aj:=[],main:=[],
    h:={eN:=2,cw:=if c.dx then 4 else 0,state:=1,cV:=c.cV,dM:=c.dM,ck:=List.replicate 16 0,seq:=c.seq,cT:=0,cW:=0,dr:=0,
           n:=(((((((((List.replicate 20 0).set 0 272).set 2 288).set 3 (16*c.aQ)).set 4 (b1.length+16)).set 5 (16*c.aP)).set 6 b1.length).set 7 2).set 9 tail)}}
theorem abp {α} {l:List α} {i:Nat} (h:¬i<l.length):l.take i=l:=List.take_of_length_le (by omega)
theorem IZ {v:Value} {b:Nat} (h:∀x,ah v=some x→x≠b):b∉(ah v).toList:=by
  cases hv:ah v with
  | none=>simp
  | some c=>simp;exact fun e=>h c hv e.symm
theorem e5 {v:Value} {b:Nat} (h:∀x,ah v=some x→x≠b):∀x,ah v=some x→x∉[b]:=fun x hx hh=>h x hx (by simpa using hh)
def mD (m:Mk) (st:Nat):List UInt8:=vk {m.h with state:=st,n:=m.h.n.set 1 (m.b.length-272)} m.depth ++ m.b.drop 272
theorem wR (h:bW) (depth:Nat) (ok:bW.ok h):(vk h depth).length=272:=by
  obtain⟨_,_,_,A,B,C,D,E,_⟩:=ok
  simp[vk,gV,eI,A,B,C,D,E.1]
end Go.Wk
namespace Go.Wk
open Go Go.RowKit
def Pr.pb (p:Pr):uO:=(p.name,p.value)
section
variable {P:Program} {n:Nat} {A:Fr n} {D:List Deferred} {l:List (Nat × Value)} {w:World} {d:Option Tmp} {ty:TypeId} {ps:String} {af:Array Edge} {g:Option (Nat × Bool)}
theorem HT {x y:Operand} {t f u:TypeId} {p q:Pr} (hp:pairT P t f=true) (hf:P.underlying f=some .string) (hx:ev n l x=some (.agg (Pr.cells p).toArray)) (hy:ev n l y=some (.agg (Pr.cells q).toArray)) :
    cZ P ⟨d,.binOp .eql t x y u,ty,ps,af,g⟩ (bh A D l).eval w (.bool (decide (p.pb=q.pb))):=aeD (p:=p.pb) (q:=q.pb) hp hf hx hy
end
def r8 (p:Pr):List UInt8 × Nat:=if eY p.name=false then([],1)else if 256<p.value.length then([],21)else(aG p,0)
theorem Z8 {p:Pr} (h:(r8 p).2=0):p.name.length≤1000000∧p.value.length≤1000000:=by
  unfold r8 at h
  split at h
  · cases h
  rename_i h1
  split at h
  · cases h
  have:=(gw (s:=p.name) (by simpa using h1)).2;omega
theorem xR {p:Pr}:(r8 p).2=0↔right p.pb=true:=by
  unfold r8 right Pr.pb
  by_cases h1:eY p.name=false
  · simp[h1]
  rw[if_neg h1]
  have A:eY p.name=true:=by simpa using h1
  rw[A]
  by_cases h3:256<p.value.length
  · simp[h3]
  simp[h3];omega
def kV (t:Ly):List Pr→Nat→Nat
  | [],k=>k
  | q :: r,k=>if Op.bytesLess (aG q) t=true then kV t r (k+1)else k
theorem EG {t:Ly} {o:List Pr} {k:Nat} {q:Pr} (h:o[k]? = some q):kV t (o.drop k) k=if Op.bytesLess (aG q) t=true then kV t (o.drop (k+1)) (k+1)else k:=by
  rw[eG h];rfl
theorem aaR {t:Ly} {o:List Pr} {k:Nat} (h:¬k<o.length):kV t (o.drop k) k=k:=by rw[gI (by omega)];rfl
theorem ny {l:List Pr} {i:Nat} {x:Pr} (h:l[i]? = some x):l.getD i {name:=[],value:=[]}=x:=by simp[List.getD,h]
def jl:Nat→Nat→List Pr→List Pr
  | 0,_,o=>o
  | n+1,j,o=>jl n (j-1) (o.set j (o.getD (j-1) {name:=[],value:=[]}))
theorem qZ {j k:Nat} {o:List Pr} (h:k<j):jl (j-k) j o=jl (j-1-k) (j-1) (o.set j (o.getD (j-1) {name:=[],value:=[]})):=by
  rw[show j-k=(j-1-k)+1 by omega];rfl
theorem tf {j k:Nat} {o:List Pr} (h:¬k<j):jl (j-k) j o=o:=by rw[show j-k=0 by omega];rfl
def rI (p:Pr) (o:List Pr):List Pr :=
  let k:=kV (aG p) o 0
  if k<o.length∧(o.getD k {name:=[],value:=[]}).pb=p.pb then o else(jl (o.length-k) o.length (o ++ [{name:=[],value:=[]}])).set k p
def MP:List Pr→List Pr→List Pr × Nat
  | [],o=>if 16<o.length then([],21)else(o,0)
  | p :: r,o=>if(r8 p).2≠0 then([],(r8 p).2)else MP r (rI p o)
def kE (l:List Pr):List Pr × Nat:=if l.length=0 then([],16)else MP l []
theorem FX {l o:List Pr} {i:Nat} (h:¬i<l.length):MP (l.drop i) o=if 16<o.length then([],21)else(o,0):=by rw[gI (by omega)];rfl
theorem JN {l o:List Pr} {i:Nat} {p:Pr} (h:l[i]? = some p):MP (l.drop i) o=if(r8 p).2≠0 then([],(r8 p).2)else MP (l.drop (i+1)) (rI p o):=by
  rw[eG h];rfl
end Go.Wk
namespace Go.Wk
open Go Go.RowKit
section
variable {P:Program} {n:Nat} {A:Fr n} {D:List Deferred} {l:List (Nat × Value)} {w:World} {d:Option Tmp} {ty:TypeId} {ps:String} {af:Array Edge} {g:Option (Nat × Bool)}
theorem aaQ {x y:Operand} {t u:TypeId} {k:IntKind} {a b:Int} (hx:ev n l x=some (.int k a)) (hy:ev n l y=some (.int k b)) (h:b≠0) :
    cZ P ⟨d,.binOp .rem t x y u,ty,ps,af,g⟩ (bh A D l).eval w (.int k (a.tmod b)):=aaP hx hy h
end
def KL (k:Int) (n:Nat):Nat:=if n<1 then 0 else((k.tmod n+n).tmod n).toNat
theorem vv (k:Int) (n:Nat):n<1∨KL k n<n:=by
  unfold KL
  by_cases h:n<1
  · exact .inl h
  rw[if_neg h]
  have A:=Int.tmod_lt_of_pos (k.tmod n+n) (show(0:Int)<n by omega)
  right;omega
theorem ae1 {k:Int} {n:Nat} (h:¬n<1):0≤k.tmod n+n∧k.tmod n+n<2*n:=by
  have A:=Int.tmod_lt_of_pos k (show(0:Int)<n by omega)
  have B:=Int.lt_tmod_of_pos k (show(0:Int)<n by omega)
  omega
def Sq.dD (s:Sq) (n:Nat):Nat × Sq:=if s.l.length≤s.bX then(0,s)else(KL (s.l.getD s.bX 0) n,{s with bX:=s.bX+1})
def Sq.more (s:Sq):Bool × Sq:=(decide (s.bX<s.l.length),s)
def xe:List (List UInt8):=[[65],[66],[77,69,83,83,65,71,69],[95,80,73,68],[88,95,49],[80,82,73,79,82,73,84,89]]
def tr:List (List UInt8):=[[],[48],[49],[50,50],[97,61,98],[111,110,101,10,116,119,111],[0,255],[116,97,98,9,104,101,114,101],[108,111,110,103,32,108,111,110,103,32,108,111,110,103,32,108,111,110,103,32,108,111,110,103,32,108,111,110,103,32,108,111,110,103],[126,127,128]]
theorem NZ:xe.length=6:=rfl
theorem MJ:tr.length=10:=rfl
def idF (k:Int):List UInt8:=((List.replicate 16 0).set 0 94).set 15 (UInt8.ofNat (KL k 5))
def Sq.pair (s:Sq):Pr × Sq :=
  match s.dD 6 with
  | (a,s1) =>
    match s1.dD 10 with
    | (b,s2)=>({name:=xe.getD a [],value:=tr.getD b []},s2)
theorem Sq.jS (s:Sq) (n:Nat):(s.dD n).1≤n-1:=by
  unfold Sq.dD
  split
  · simp
  simp only
  rcases vv (s.l.getD s.bX 0) n with h|h
  · simp[KL,h]
  omega
def og:Nat→Sq→List Pr→List Pr × Sq
  | 0,s,o=>(o,s)
  | n+1,s,o=>match s.pair with
    | (p,s1)=>og n s1 (o ++ [p])
def Sq.pairs (s:Sq) (cK:Nat):List Pr × Sq :=
  match s.dD cK with
  | (n,s1)=>og (n+1) s1 []
theorem VN {n:Nat} {s:Sq} {o:List Pr} (h:¬0<n):og n s o=(o,s):=by rw[show n=0 by omega];rfl
theorem OB {n:Nat} {s:Sq} {o:List Pr} (h:0<n):og n s o=og (n-1) s.pair.2 (o ++ [s.pair.1]):=by
  obtain⟨k,rfl⟩:∃k,n=k+1:=⟨n-1,by omega⟩
  rfl
theorem ZM (a:Nat):(xe.getD a []).length≤64:=by
  match a with
  | 0|1|2|3|4|5=>decide
  | n+6=>simp[xe]
theorem XG (a:Nat):(tr.getD a []).length≤256:=by
  match a with
  | 0|1|2|3|4|5|6|7|8|9=>decide
  | n+10=>simp[tr]
theorem ac4 (s:Sq):s.pair.1.name.length≤64∧s.pair.1.value.length≤256:=⟨ZM _,XG _⟩
theorem VL (n:Nat):∀(s:Sq) (o:List Pr),(∀q∈o,q.name.length≤64∧q.value.length≤256)→(∀q∈(og n s o).1,q.name.length≤64∧q.value.length≤256)∧(og n s o).1.length=o.length+n:=by
  induction n with
  | zero=>exact fun s o h=>⟨h,rfl⟩
  | succ n ih =>
    intro s o h
    have:=ih s.pair.2 (o ++ [s.pair.1]) (fun q A=>by
      rcases List.mem_append.1 A with A|A
      · exact h q A
      · rw[List.mem_singleton.1 A];exact ac4 s)
    refine⟨this.1,?_⟩
    have B:=this.2
    rw[List.length_append,List.length_singleton]at B
    rw[show og (n+1) s o=og n s.pair.2 (o ++ [s.pair.1])from rfl,B];omega
theorem aaA (s:Sq) (cK:Nat):(∀q∈(s.pairs cK).1,q.name.length≤1000000∧q.value.length≤1000000)∧(s.pairs cK).1.length≤cK+1:=by
  have h:=VL ((s.dD cK).1+1) (s.dD cK).2 [] (by simp)
  have B:=s.jS cK
  have e:s.pairs cK=og ((s.dD cK).1+1) (s.dD cK).2 []:=rfl
  rw[e]
  refine⟨fun q A=>⟨by have:=(h.1 q A).1;omega,by have:=(h.1 q A).2;omega⟩,?_⟩
  rw[h.2];simp;omega
def Sq.config (s:Sq):nq × Sq :=
  match s.dD 5 with
  | (a,s1)=>match s1.dD 5 with
    | (b,s2)=>match s2.dD 5 with
      | (c,s3)=>match s3.dD 7 with
        | (d,s4)=>match s4.dD 4 with
          | (e,s5)=>match s5.dD 2 with
            | (f,s6)=>({cV:=idF a,dM:=idF b,seq:=idF c,aQ:=d+1,aP:=e+1,cK:=32768,dx:=decide (f=1)},s6)
def Sq.record (s:Sq) (seq:Nat):Rec × Sq :=
  match s.pairs 4 with
  | (ps,s1)=>match s1.dD 40 with
    | (a,s2)=>match s2.dD 9 with
      | (b,s3)=>match s3.dD 3 with
        | (c,s4)=>({seq:=seq,cF:=a,mono:=b,ck:=idF c,aj:=(kE ps).1},s4)
end Go.Wk
namespace Go.Wk
open Go Go.RowKit
section
variable {P:Program} {Q:Exit→Act→World→Prop} {n:Nat} {A:Fr n} {D:List Deferred} {l:List (Nat × Value)} {w:World}
def adr {X0 X1 X2 X3 X4 X5 X6 X7 X8:Type} (n:Nat) (D:List Deferred) (inv:X0→X1→X2→X3→X4→X5→X6→X7→X8→List (Nat × Value)) (W:X0→X1→X2→X3→X4→X5→X6→X7→X8→World→Prop) (mu:X0→X1→X2→X3→X4→X5→X6→X7→X8→Nat) (m:Nat) (a:Act) (w:World):Prop :=
  ∃y0:X0,∃y1:X1,∃y2:X2,∃y3:X3,∃y4:X4,∃y5:X5,∃y6:X6,∃y7:X7,∃y8:X8,∃B:Fr n,a=bh B D (inv y0 y1 y2 y3 y4 y5 y6 y7 y8)∧W y0 y1 y2 y3 y4 y5 y6 y7 y8 w∧mu y0 y1 y2 y3 y4 y5 y6 y7 y8<m
theorem agm {X0 X1 X2 X3 X4 X5 X6 X7 X8:Type} {c:Code} (inv:X0→X1→X2→X3→X4→X5→X6→X7→X8→List (Nat × Value)) (W:X0→X1→X2→X3→X4→X5→X6→X7→X8→World→Prop) (mu:X0→X1→X2→X3→X4→X5→X6→X7→X8→Nat) (x0:X0) (x1:X1) (x2:X2) (x3:X3) (x4:X4) (x5:X5) (x6:X6) (x7:X7) (x8:X8) (h0:Fits n l (inv x0 x1 x2 x3 x4 x5 x6 x7 x8)) (hw:W x0 x1 x2 x3 x4 x5 x6 x7 x8 w)
    (round:∀(x0:X0) (x1:X1) (x2:X2) (x3:X3) (x4:X4) (x5:X5) (x6:X6) (x7:X7) (x8:X8) (B:Fr n) (w':World),W x0 x1 x2 x3 x4 x5 x6 x7 x8 w'→c.wp P (Exit.then (adr n D inv W mu (mu x0 x1 x2 x3 x4 x5 x6 x7 x8)) Q) (bh B D (inv x0 x1 x2 x3 x4 x5 x6 x7 x8)) w') :
    (Code.loop c).wp P Q (bh A D l) w:=by
  refine jP (X:=X0 × X1 × X2 × X3 × X4 × X5 × X6 × X7 × X8) (fun p=>inv p.1 p.2.1 p.2.2.1 p.2.2.2.1 p.2.2.2.2.1 p.2.2.2.2.2.1 p.2.2.2.2.2.2.1 p.2.2.2.2.2.2.2.1 p.2.2.2.2.2.2.2.2) (fun p w=>W p.1 p.2.1 p.2.2.1 p.2.2.2.1 p.2.2.2.2.1 p.2.2.2.2.2.1 p.2.2.2.2.2.2.1 p.2.2.2.2.2.2.2.1 p.2.2.2.2.2.2.2.2 w) (fun p=>mu p.1 p.2.1 p.2.2.1 p.2.2.2.1 p.2.2.2.2.1 p.2.2.2.2.2.1 p.2.2.2.2.2.2.1 p.2.2.2.2.2.2.2.1 p.2.2.2.2.2.2.2.2) (x0,x1,x2,x3,x4,x5,x6,x7,x8) h0 hw (fun p B w' h=>wp_mono (round (p.1) (p.2.1) (p.2.2.1) (p.2.2.2.1) (p.2.2.2.2.1) (p.2.2.2.2.2.1) (p.2.2.2.2.2.2.1) (p.2.2.2.2.2.2.2.1) (p.2.2.2.2.2.2.2.2) B w' h) ?_)
  intro e S T h
  cases e with
  | normal=>obtain⟨H,I,J,K,L,M,N,O,R,C,E,F,G⟩:=h;exact⟨(H,I,J,K,L,M,N,O,R),C,E,F,G⟩
  | _=>exact h
theorem ago {X0 X1 X2 X3 X4 X5 X6 X7 X8:Type} {inv:X0→X1→X2→X3→X4→X5→X6→X7→X8→List (Nat × Value)} {W:X0→X1→X2→X3→X4→X5→X6→X7→X8→World→Prop} {mu:X0→X1→X2→X3→X4→X5→X6→X7→X8→Nat} {m:Nat} (x0:X0) (x1:X1) (x2:X2) (x3:X3) (x4:X4) (x5:X5) (x6:X6) (x7:X7) (x8:X8) (hm:mu x0 x1 x2 x3 x4 x5 x6 x7 x8<m) (hf:Fits n l (inv x0 x1 x2 x3 x4 x5 x6 x7 x8)) (hw:W x0 x1 x2 x3 x4 x5 x6 x7 x8 w) :
    adr n D inv W mu m (bh A D l) w:=⟨x0,x1,x2,x3,x4,x5,x6,x7,x8,_,(dX (A:=A) (D:=D) hf).symm,hw,hm⟩
def XR {X0 X1 X2 X3 X4 X5 X6 X7 X8 X9:Type} (n:Nat) (D:List Deferred) (inv:X0→X1→X2→X3→X4→X5→X6→X7→X8→X9→List (Nat × Value)) (W:X0→X1→X2→X3→X4→X5→X6→X7→X8→X9→World→Prop) (mu:X0→X1→X2→X3→X4→X5→X6→X7→X8→X9→Nat) (m:Nat) (a:Act) (w:World):Prop :=
  ∃y0:X0,∃y1:X1,∃y2:X2,∃y3:X3,∃y4:X4,∃y5:X5,∃y6:X6,∃y7:X7,∃y8:X8,∃y9:X9,∃B:Fr n,a=bh B D (inv y0 y1 y2 y3 y4 y5 y6 y7 y8 y9)∧W y0 y1 y2 y3 y4 y5 y6 y7 y8 y9 w∧mu y0 y1 y2 y3 y4 y5 y6 y7 y8 y9<m
theorem aev {X0 X1 X2 X3 X4 X5 X6 X7 X8 X9:Type} {c:Code} (inv:X0→X1→X2→X3→X4→X5→X6→X7→X8→X9→List (Nat × Value)) (W:X0→X1→X2→X3→X4→X5→X6→X7→X8→X9→World→Prop) (mu:X0→X1→X2→X3→X4→X5→X6→X7→X8→X9→Nat) (x0:X0) (x1:X1) (x2:X2) (x3:X3) (x4:X4) (x5:X5) (x6:X6) (x7:X7) (x8:X8) (x9:X9) (h0:Fits n l (inv x0 x1 x2 x3 x4 x5 x6 x7 x8 x9)) (hw:W x0 x1 x2 x3 x4 x5 x6 x7 x8 x9 w)
    (round:∀(x0:X0) (x1:X1) (x2:X2) (x3:X3) (x4:X4) (x5:X5) (x6:X6) (x7:X7) (x8:X8) (x9:X9) (B:Fr n) (w':World),W x0 x1 x2 x3 x4 x5 x6 x7 x8 x9 w'→c.wp P (Exit.then (XR n D inv W mu (mu x0 x1 x2 x3 x4 x5 x6 x7 x8 x9)) Q) (bh B D (inv x0 x1 x2 x3 x4 x5 x6 x7 x8 x9)) w') :
    (Code.loop c).wp P Q (bh A D l) w:=by
  refine jP (X:=X0 × X1 × X2 × X3 × X4 × X5 × X6 × X7 × X8 × X9) (fun p=>inv p.1 p.2.1 p.2.2.1 p.2.2.2.1 p.2.2.2.2.1 p.2.2.2.2.2.1 p.2.2.2.2.2.2.1 p.2.2.2.2.2.2.2.1 p.2.2.2.2.2.2.2.2.1 p.2.2.2.2.2.2.2.2.2) (fun p w=>W p.1 p.2.1 p.2.2.1 p.2.2.2.1 p.2.2.2.2.1 p.2.2.2.2.2.1 p.2.2.2.2.2.2.1 p.2.2.2.2.2.2.2.1 p.2.2.2.2.2.2.2.2.1 p.2.2.2.2.2.2.2.2.2 w) (fun p=>mu p.1 p.2.1 p.2.2.1 p.2.2.2.1 p.2.2.2.2.1 p.2.2.2.2.2.1 p.2.2.2.2.2.2.1 p.2.2.2.2.2.2.2.1 p.2.2.2.2.2.2.2.2.1 p.2.2.2.2.2.2.2.2.2) (x0,x1,x2,x3,x4,x5,x6,x7,x8,x9) h0 hw (fun p B w' h=>wp_mono (round (p.1) (p.2.1) (p.2.2.1) (p.2.2.2.1) (p.2.2.2.2.1) (p.2.2.2.2.2.1) (p.2.2.2.2.2.2.1) (p.2.2.2.2.2.2.2.1) (p.2.2.2.2.2.2.2.2.1) (p.2.2.2.2.2.2.2.2.2) B w' h) ?_)
  intro e T U h
  cases e with
  | normal=>obtain⟨H,I,J,K,L,M,N,O,R,S,C,E,F,G⟩:=h;exact⟨(H,I,J,K,L,M,N,O,R,S),C,E,F,G⟩
  | _=>exact h
theorem ZO {X0 X1 X2 X3 X4 X5 X6 X7 X8 X9:Type} {inv:X0→X1→X2→X3→X4→X5→X6→X7→X8→X9→List (Nat × Value)} {W:X0→X1→X2→X3→X4→X5→X6→X7→X8→X9→World→Prop} {mu:X0→X1→X2→X3→X4→X5→X6→X7→X8→X9→Nat} {m:Nat} (x0:X0) (x1:X1) (x2:X2) (x3:X3) (x4:X4) (x5:X5) (x6:X6) (x7:X7) (x8:X8) (x9:X9) (hm:mu x0 x1 x2 x3 x4 x5 x6 x7 x8 x9<m) (hf:Fits n l (inv x0 x1 x2 x3 x4 x5 x6 x7 x8 x9)) (hw:W x0 x1 x2 x3 x4 x5 x6 x7 x8 x9 w) :
    XR n D inv W mu m (bh A D l) w:=⟨x0,x1,x2,x3,x4,x5,x6,x7,x8,x9,_,(dX (A:=A) (D:=D) hf).symm,hw,hm⟩
end
end Go.Wk
namespace Go.Wk
open Go Go.RowKit
def known0:bQ:={cM:=[],bX:=0,dI:=0,cr:=0,bg:=[]}
def gB (ds:List bQ) (i:Nat):Nat:=(ds.getD i known0).bX
def lu (ds:List bQ) (p:Nat) (order:List Nat):Nat→Nat
  | 0=>0
  | n+1=>if p<gB ds (order.getD n 0)then lu ds p order n else n+1
def mG (ds:List bQ) (k:Nat) (order:List Nat):List Nat :=
  let n:=lu ds (gB ds k) order order.length
  order.take n ++ [k] ++ order.drop n
def ir:List Pr→Mk→List (List UInt8)→List Nat→List (List UInt8) × List Nat × Mk
  | [],m,ps,od=>(ps,od,m)
  | x :: r,m,ps,od =>
    match m.data x with
    | (k,m1)=>ir r m1 (ps ++ [(m1.ai.getD k known0).cM]) (mG m1.ai k od)
def j7 (m:Mk) (od:List Nat):List lI:=od.map fun i=>{bX:=gB m.ai i,dY:=dS m.c.dx m.c.cV (m.ai.getD i known0).cM}
def kO (e:Nat):List Nat→Mk→Mk
  | [],m=>m
  | i :: r,m =>
    let k:=m.ai.getD i known0
    if k.cr=0 then
      let m29:=(m.put (k.bX+40) e).put (k.bX+56) 1
      kO e r {m29 with ai:=m29.ai.set i {k with cr:=1}}
    else
      match m.link k.bg (k.cr-1) (k.bX+48) e with
      | (a,_,m1) =>
        let m29:=m1.put (k.bX+56) (k.cr+1)
        kO e r {m29 with ai:=m29.ai.set i {k with bg:=a,cr:=k.cr+1}}
def Mk.append (m:Mk) (aj:List Pr) (cF mono:Nat) (ck:Ly):Nat × Nat × Mk :=
  match kE aj with
  | (l,c) =>
    if c≠0 then(0,c,m)
    else if m.dD 9=18446744073709551615 then(0,1,m)
    else
      match ir l m [] []with
      | (ps,od,m1) =>
        let seq:=(m1.dD 9+1)%18446744073709551616
        match m1.d9 (er {seq:=seq,cF:=cF,mono:=mono,ck:=ck,xor:=mQ 0 ps,aH:=j7 m1 od})with
        | (e,m29) =>
          let n:=m29.dD 8
          match m29.link m29.main n 176 e with
          | (a,t,m3) =>
            let m4:=({m3 with main:=a}:Mk).dW 11 (a.getD 0 0)
            let m5:={m4 with h:={m4.h with cT:=jK a%4294967296,cW:=t%4294967296}}
            let m6:=kO e od m5
            if m6.c.cK<m6.b.length then(0,15,m)
            else
              let m7:=if n=0 then(m6.dW 10 seq).dW 12 cF else m6
              let m8:=m7.dW 8 ((m7.dD 8+1)%18446744073709551616)
              let m9:=((m8.dW 9 seq).dW 13 cF).dW 14 mono
              (seq,0,{m9 with h:={m9.h with ck:=ck,dr:=e}})
def jR:Nat→Sq→Mk→List Rec→Mk × List Rec × Sq
  | 0,s,m,rs=>(m,rs,s)
  | n+1,s,m,rs =>
    if s.bX<s.l.length then
      match s.record ((m.dD 9+1)%18446744073709551616)with
      | (r,s1) =>
        match m.append r.aj r.cF r.mono r.ck with
        | (_,c,m1)=>if c≠0 then(m1,rs,s1)else jR n s1 m1 (rs ++ [r])
    else(m,rs,s)
def Sq.qp (s:Sq) (cK:Nat):Mk × List Rec × Sq :=
  match s.config with
  | (c,s1) =>
    match s1.dD 6 with
    | (t,s2)=>jR cK s2 (jd c t) []
def nu (l:List Int) (cK:Nat):List UInt8:=mD ((Sq.mk l 0).qp cK).1 1
end Go.Wk
namespace Go.Wk
open Go Go.RowKit
structure adM (m m':Mk) (k len:Nat):Prop where
  lt:k<m'.ai.length
  ge:m.b.length≤m'.b.length
  le:m'.b.length≤m.b.length+len
  c:m'.c=m.c
  main:m'.main=m.main
  pre:m'.ai=m.ai∨∃x:bQ,m'.ai=m.ai ++ [x]∧x.cr=0∧x.bg=[]∧x.bX+64≤m'.b.length
  fl:m'.aj.length≤m.aj.length+1
  fit:m'.fit
  n8:m'.h.n.getD 8 0=m.h.n.getD 8 0
theorem kT (m:Mk) (p v:Nat):(m.put p v).c=m.c∧(m.put p v).ai=m.ai∧(m.put p v).aj=m.aj∧(m.put p v).main=m.main∧(m.put p v).h=m.h∧(m.put p v).depth=m.depth:=⟨q,q,q,q,q,q⟩
theorem FU (m:Mk) (x:Pr) (h:m.fit):adM m (m.data x).2 (m.data x).1 (400+x.name.length+(aG x).length):=by
  unfold Mk.data
  cases hk:nG (aG x) m.ai 0 with
  | some i =>
    have:=YT hk
    exact⟨by simp only;omega,Nat.le_refl _,by simp only;omega,q,q,.inl q,by simp only;omega,h,q⟩
  | none =>
    simp only
    have D:=iN m (iH {dY:=dS m.c.dx m.c.cV (aG x),dc:=0,ec:=0,entry:=0,array:=0,cr:=0,aG:=aG x})
    have Q:=eO m (iH {dY:=dS m.c.dx m.c.cV (aG x),dc:=0,ec:=0,entry:=0,array:=0,cr:=0,aG:=aG x})
    have R:(m.d9 (iH {dY:=dS m.c.dx m.c.cV (aG x),dc:=0,ec:=0,entry:=0,array:=0,cr:=0,aG:=aG x})).2.h.n.getD 8 0=m.h.n.getD 8 0:=by
      simp only[Mk.d9,Mk.dW];rw[cg (by decide),cg (by decide)]
    rw[vM]at D
    simp only at D
    generalize m.d9 (iH {dY:=dS m.c.dx m.c.cV (aG x),dc:=0,ec:=0,entry:=0,array:=0,cr:=0,aG:=aG x})=r at *
    obtain⟨p,A⟩:=r
    simp only at D Q R ⊢
    have S:=sR A A.ai (A.dD 2) p (dS m.c.dx m.c.cV (aG x)%A.c.aQ)
    have T:=iw A A.ai (A.dD 2) p (dS m.c.dx m.c.cV (aG x)%A.c.aQ)
    generalize A.hang A.ai (A.dD 2) p (dS m.c.dx m.c.cV (aG x)%A.c.aQ)=r at *
    obtain⟨n,B⟩:=r
    simp only at S T ⊢
    obtain⟨a1,a2,a3,a4,a5,a6,a7,a8⟩:=D
    obtain⟨Z,J,K,a⟩:=Q
    obtain⟨c1,c2,c3,c4,c5,c6,c7⟩:=S
    obtain⟨d,L,M,e,d5,f⟩:=T
    generalize hx5:({(B.dW 19 (max (B.dD 19) n)).dW 15 (((B.dW 19 (max (B.dD 19) n)).dD 15+1)%18446744073709551616)with ai:=((B.dW 19 (max (B.dD 19) n)).dW 15 (((B.dW 19 (max (B.dD 19) n)).dD 15+1)%18446744073709551616)).ai ++ [({cM:=aG x,bX:=p,dI:=dS m.c.dx m.c.cV (aG x)%A.c.aQ,cr:=0,bg:=[]}:bQ)]}:Mk)=m5
    have j:m5.b=B.b∧m5.c=B.c∧m5.ai=B.ai ++ [({cM:=aG x,bX:=p,dI:=dS m.c.dx m.c.cV (aG x)%A.c.aQ,cr:=0,bg:=[]}:bQ)]∧m5.aj=B.aj∧m5.main=B.main:=by subst hx5;exact⟨q,q,q,q,q⟩
    have v:m5.h.n.getD 2 0=m.h.n.getD 2 0:=by subst hx5;simp only[Mk.dW];rw[cg (by decide),cg (by decide)];omega
    have w:m5.h.n.getD 4 0=m.h.n.getD 4 0:=by subst hx5;simp only[Mk.dW];rw[cg (by decide),cg (by decide)];omega
    have g8:m5.h.n.getD 8 0=m.h.n.getD 8 0:=by subst hx5;simp only[Mk.dW];rw[cg (by decide),cg (by decide),f,R]
    clear hx5
    obtain⟨g,E,O,P,l⟩:=j
    have l5:m5.b.length=A.b.length:=by rw[g];omega
    have u:m5.fit:=by
      refine po h ⟨by rw[E];omega,by rw[E];omega,v,w,by omega⟩ (fun k hk=>?_) (fun k hk=>?_)
      · rw[O,L,J,List.mem_append,List.mem_singleton]at hk
        rcases hk with hk|rfl
        · exact .inl hk
        · right;simp only;omega
      · rw[P,M,K]at hk;exact .inl hk
    have U:=sO m5 x.name u
    generalize m5.field x.name=r at *
    obtain⟨k,C⟩:=r
    simp only at U ⊢
    obtain⟨⟨q1,q2,q3,q4,q5,q6,q7,q8,q9,y⟩,⟨z,s2,s3⟩,s4⟩:=U
    have l8:((C.put (p+32) (oG C.b (k+32:Nat) 8).1).put (k+32) p).b.length=C.b.length:=by rw[jU,jU]
    have o:=kT C (p+32) (oG C.b (k+32:Nat) 8).1
    have t:=kT (C.put (p+32) (oG C.b (k+32:Nat) 8).1) (k+32) p
    generalize C.put (p+32) (oG C.b (k+32:Nat) 8).1=m7 at *
    generalize m7.put (k+32) p=m8 at *
    obtain⟨F,V,W,v4,G,_⟩:=o
    obtain⟨H,X,Y,w4,I,_⟩:=t
    have N:m8.ai=m.ai ++ [({cM:=aG x,bX:=p,dI:=dS m.c.dx m.c.cV (aG x)%A.c.aQ,cr:=0,bg:=[]}:bQ)]:=by rw[X,V,s2,O,L,J]
    refine⟨by rw[N];simp,by omega,by omega,by rw[H,F,z,E,d,Z],by rw[w4,v4,s3,l,e,a],.inr ⟨_,N,q,q,by simp only;omega⟩,?_,?_,by rw[I,G];omega⟩
    · have:=congrArg List.length P;rw[M,K]at this;rw[Y,W];omega
    · refine po s4 ⟨by rw[H,F],by rw[H,F],by rw[I,G],by rw[I,G],by omega⟩ (fun k hk=>.inl (by rw[X,V]at hk;exact hk)) (fun k hk=>.inl (by rw[Y,W]at hk;exact hk))
theorem WK (l:List Nat) (p k a r:Nat):fq (l ++ [p]) k a r=((fq l k a r).2,(fq l k a r).2+eu ((k+l.length:Nat):Int)):=by
  induction l generalizing k a r with
  | nil=>rfl
  | cons x l ih =>
    show fq (l ++ [p]) (k+1) r (r+eu (k:Int))=_
    rw[ih]
    show _=((fq l (k+1) r (r+eu (k:Int))).2,(fq l (k+1) r (r+eu (k:Int))).2+eu ((k+(l.length+1):Nat):Int))
    rw[show k+1+l.length=k+(l.length+1)by omega]
theorem aaY (l:List Nat) (k a r:Nat):r+4*l.length≤(fq l k a r).2∧(l≠[]→r+4*(l.length-1)≤(fq l k a r).1):=by
  induction l generalizing k a r with
  | nil=>simp[fq]
  | cons x l ih =>
    have C:=sB (k:=(k:Int)) (by omega)
    obtain⟨B,A⟩:=ih (k+1) r (r+eu (k:Int))
    refine⟨?_,fun _=>?_⟩
    · show r+4*(l.length+1)≤(fq l (k+1) r (r+eu (k:Int))).2;omega
    · show r+4*(l.length+1-1)≤(fq l (k+1) r (r+eu (k:Int))).1
      by_cases hl:l=[]
      · subst hl;simp[fq]
      · have:=A hl
        have:0<l.length:=by cases l with|nil=>exact absurd q hl|cons _ _=>simp
        omega
theorem sM {len n:Nat} {a:List Nat} (h:jF len a n):a.length≤n+1:=by
  obtain⟨_,B,_⟩:=h
  have A:=(aaY a 0 0 0).2
  by_cases ha:a=[]
  · subst ha;simp
  have:=A ha;omega
theorem oZ {len len' n:Nat} {a:List Nat} (h:jF len a n) (hl:len≤len'):jF len' a n :=
  ⟨fun k x hx=>lj (h.1 k x hx) hl,h.2⟩
theorem chain_nil (len:Nat):jF len [] 0:=⟨by simp,by simp[fq],by simp[fq]⟩
structure XQ (m m':Mk) (a:List Nat) (n:Nat):Prop where
  ge:m.b.length≤m'.b.length
  le:m'.b.length≤m.b.length+2100
  c:m'.c=m.c
  ai:m'.ai=m.ai
  aj:m'.aj=m.aj
  main:m'.main=m.main
  chain:jF m'.b.length a (n+1)
  ne:a≠[]
  n8:m'.h.n.getD 8 0=m.h.n.getD 8 0
  n2:m'.h.n.getD 2 0=m.h.n.getD 2 0
  n4:m'.h.n.getD 4 0=m.h.n.getD 4 0
theorem vr (m:Mk) (bg:List Nat) (n src gN:Nat) (h:jF m.b.length bg n):XQ m (m.link bg n src gN).2.2 (m.link bg n src gN).1 n:=by
  obtain⟨R,S,T⟩:=h
  unfold Mk.link
  have F:=fun p=>WK bg p 0 0 0
  rcases hq:fq bg 0 0 0 with⟨A,B⟩
  rw[hq]at S T F
  simp only at S T F ⊢
  rw[Nat.zero_add]at F
  split
  · rename_i hn
    have G:=iN m (fI {next:=0,aH:=List.replicate (eu (bg.length:Int)) 0})
    have Q:=eO m (fI {next:=0,aH:=List.replicate (eu (bg.length:Int)) 0})
    have o:(m.d9 (fI {next:=0,aH:=List.replicate (eu (bg.length:Int)) 0})).2.h.n.getD 8 0=m.h.n.getD 8 0:=by
      simp only[Mk.d9,Mk.dW];rw[cg (by decide),cg (by decide)]
    rw[tO]at G
    simp only[List.length_replicate]at G
    generalize m.d9 (fI {next:=0,aH:=List.replicate (eu (bg.length:Int)) 0})=r at *
    obtain⟨p,C⟩:=r
    simp only at G Q o ⊢
    obtain⟨w,y,z,a4,a5,a6,a7,a8⟩:=G
    obtain⟨U,V,W,X⟩:=Q
    have O:=sC (bg.length:Int)
    have H:=sB (k:=(bg.length:Int)) (by omega)
    generalize hx2:C.dW 18 ((C.dD 18+1)%18446744073709551616)=m29
    have u:m29.b=C.b∧m29.c=C.c∧m29.ai=C.ai∧m29.aj=C.aj∧m29.main=C.main:=by subst hx2;exact WO _ _ _
    have t8:m29.h.n.getD 8 0=C.h.n.getD 8 0:=by subst hx2;exact fw (by decide)
    have t2:m29.h.n.getD 2 0=C.h.n.getD 2 0:=by subst hx2;exact fw (by decide)
    have t4:m29.h.n.getD 4 0=C.h.n.getD 4 0:=by subst hx2;exact fw (by decide)
    clear hx2
    generalize hx3:(if bg.length=0 then m29.put src p else m29.put (jK bg+16) p)=m3
    have v:m3.b.length=m29.b.length∧m3.c=m29.c∧m3.ai=m29.ai∧m3.aj=m29.aj∧m3.main=m29.main∧m3.h=m29.h:=by
      subst hx3
      split
      · exact⟨jU _ _ _,q,q,q,q,q⟩
      · exact⟨jU _ _ _,q,q,q,q,q⟩
    clear hx3
    have t:=jU m3 (jK (bg ++ [p])+24+8*(n-B)) gN
    have P:=kT m3 (jK (bg ++ [p])+24+8*(n-B)) gN
    generalize m3.put (jK (bg ++ [p])+24+8*(n-B)) gN=m4 at *
    obtain⟨Y,Z,d,e,f⟩:=u
    obtain⟨d1,g,i,j,l,I⟩:=v
    obtain⟨J,K,L,M,E,_⟩:=P
    have l2:=congrArg List.length Y
    have ll:m4.b.length=m.b.length+(16+(8+8*eu (bg.length:Int))+7)/8*8:=by omega
    refine⟨by omega,by omega,by rw[J,g,Z,U],by rw[K,i,d,V],by rw[L,j,e,W],by rw[M,l,f,X],⟨fun k x D=>?_,?_,?_⟩,by simp,by rw[E,I];omega,by rw[E,I];omega,by rw[E,I];omega⟩
    · rcases Nat.lt_or_ge k bg.length with hk|hk
      · rw[List.getElem?_append_left hk]at D
        have:=R k x D;omega
      have N:=(List.getElem?_eq_some_iff.1 D).1
      simp at N
      have:k=bg.length:=by omega
      subst this
      rw[List.getElem?_append_right (Nat.le_refl _)]at D
      simp at D
      subst D
      omega
    · rw[F];simp only;omega
    rw[F];simp only;omega
  rename_i hn
  have t:=jU m (jK bg+24+8*(n-A)) gN
  have P:=kT m (jK bg+24+8*(n-A)) gN
  generalize m.put (jK bg+24+8*(n-A)) gN=m4 at *
  obtain⟨J,K,L,M,E,_⟩:=P
  show XQ m m4 bg n
  refine⟨by omega,by omega,J,K,L,M,⟨fun k x D=>by have:=R k x D;omega,by rw[hq];simp only;omega,by rw[hq];simp only;omega⟩,?_,by rw[E],by rw[E],by rw[E]⟩
  rintro rfl
  simp[fq]at hq
  omega
def Mk.n8 (m:Mk):Nat:=m.h.n.getD 8 0
def JF (m:Mk) (cK:Nat):Prop:=∀k∈m.ai,jF m.b.length k.bg (k.cr-1)∧(k.cr=0→k.bg=[])∧k.cM.length≤400∧k.cr≤cK
structure uN (m:Mk):Prop where
  fit:m.fit
  main:jF m.b.length m.main m.n8
  chains:JF m (16*m.n8)
  nd:m.ai.length≤16*m.n8
  nf:m.aj.length≤16*m.n8
  nb:64*m.n8≤m.b.length
  small:m.b.length≤40000
  cK:m.c.cK≤40000
  hd:272≤m.b.length
structure kJ (m0 m:Mk) (d e:Nat) (j:Nat):Prop where
  fit:m.fit
  c:m.c=m0.c
  n8:m.n8=m0.n8
  chains:JF m (16*m0.n8+j)
  nd:m.ai.length≤m0.ai.length+d
  nf:m.aj.length≤m0.aj.length+d
  ge:m0.b.length≤m.b.length
  le:m.b.length≤m0.b.length+e
theorem SJ {m:Mk} (h:uN m):kJ m m 0 0 0:=⟨h.fit,q,q,h.chains,Nat.le_refl _,Nat.le_refl _,Nat.le_refl _,Nat.le_refl _⟩
theorem CK {m:Mk} {x:Pr} (y:bQ) (h:y∈(m.data x).2.ai):y∈m.ai∨y.cM=aG x:=by
  unfold Mk.data at h
  split at h
  · exact .inl h
  simp only at h
  have F:=eO m (iH {dY:=dS m.c.dx m.c.cV (aG x),dc:=0,ec:=0,entry:=0,array:=0,cr:=0,aG:=aG x})
  generalize m.d9 (iH {dY:=dS m.c.dx m.c.cV (aG x),dc:=0,ec:=0,entry:=0,array:=0,cr:=0,aG:=aG x})=r at *
  obtain⟨p,B⟩:=r
  simp only at h F
  have G:=iw B B.ai (B.dD 2) p (dS m.c.dx m.c.cV (aG x)%B.c.aQ)
  generalize B.hang B.ai (B.dD 2) p (dS m.c.dx m.c.cV (aG x)%B.c.aQ)=r at *
  obtain⟨n,C⟩:=r
  simp only at h G
  generalize hx5:({(C.dW 19 (max (C.dD 19) n)).dW 15 (((C.dW 19 (max (C.dD 19) n)).dD 15+1)%18446744073709551616)with ai:=((C.dW 19 (max (C.dD 19) n)).dW 15 (((C.dW 19 (max (C.dD 19) n)).dD 15+1)%18446744073709551616)).ai ++ [({cM:=aG x,bX:=p,dI:=dS m.c.dx m.c.cV (aG x)%B.c.aQ,cr:=0,bg:=[]}:bQ)]}:Mk)=m5 at h
  have I:m5.ai=C.ai ++ [({cM:=aG x,bX:=p,dI:=dS m.c.dx m.c.cV (aG x)%B.c.aQ,cr:=0,bg:=[]}:bQ)]:=by subst hx5;rfl
  clear hx5
  have H:(m5.field x.name).2.ai=m5.ai:=by
    unfold Mk.field
    split
    · rfl
    · simp only
      have D:=eO m5 (gR {dY:=dS m5.c.dx m5.c.cV x.name,dc:=0,dat:=0,aG:=x.name})
      generalize m5.d9 (gR {dY:=dS m5.c.dx m5.c.cV x.name,dc:=0,dat:=0,aG:=x.name})=r at *
      obtain⟨q,A⟩:=r
      simp only at D ⊢
      have E:=iw A A.aj (A.dD 4) q (dS m5.c.dx m5.c.cV x.name%A.c.aP)
      generalize A.hang A.aj (A.dD 4) q (dS m5.c.dx m5.c.cV x.name%A.c.aP)=r at *
      obtain⟨M,L⟩:=r
      simp only at E ⊢
      show L.ai=m5.ai
      rw[E.2.1,D.2.1]
  generalize m5.field x.name=r at *
  obtain⟨k,A⟩:=r
  simp only at h H
  have J:=(kT A (p+32) (oG A.b (k+32:Nat) 8).1).2.1
  have K:=(kT (A.put (p+32) (oG A.b (k+32:Nat) 8).1) (k+32) p).2.1
  rw[K,J,H,I,List.mem_append,List.mem_singleton,G.2.1,F.2.1]at h
  rcases h with h|rfl
  · exact .inl h
  exact .inr rfl
theorem ze {m0 m:Mk} {d e j:Nat} {x:Pr} (h:kJ m0 m d e j) (hx:x.name.length≤64∧x.value.length≤256):kJ m0 (m.data x).2 (d+1) (e+900) j∧(m.data x).1<(m.data x).2.ai.length∧(m.data x).2.main=m.main:=by
  have g:=FU m x h.fit
  have G:=fun y=>CK (m:=m) (x:=x) y
  have U:=jN x
  generalize m.data x=r at *
  obtain⟨k,H⟩:=r
  simp only at g G ⊢
  have D:=g.ge;have I:=g.le;have O:=h.ge;have P:=h.le;have Q:=h.nd;have R:=h.nf;have S:=g.fl
  have T:H.ai.length≤m.ai.length+1:=by
    rcases g.pre with e|⟨x,e,_⟩ <;> rw[e] <;> simp
  refine⟨⟨g.fit,g.c.trans h.c,(show H.h.n.getD 8 0=m0.n8 from g.n8.trans h.n8),fun y A=>?_,by omega,by omega,by omega,by omega⟩,g.lt,g.main⟩
  have F:y∈m.ai∨(y.cr=0∧y.bg=[]):=by
    rcases g.pre with e|⟨x,e,C,B,_⟩
    · rw[e]at A;exact .inl A
    · rw[e,List.mem_append,List.mem_singleton]at A
      rcases A with A|rfl
      · exact .inl A
      · exact .inr ⟨C,B⟩
  rcases F with E|⟨C,B⟩
  · obtain⟨K,L,M,N⟩:=h.chains y E
    exact⟨oZ K D,L,M,N⟩
  refine⟨by rw[C,B];exact chain_nil _,fun _=>B,?_,by omega⟩
  rcases G y A with E|J
  · exact(h.chains y E).2.2.1
  rw[J];omega
theorem zk {m0 m m':Mk} {d e e' j j':Nat} (h:kJ m0 m d e j) (hc:m'.c=m.c) (h8:m'.n8=m.n8) (h2:m'.h.n.getD 2 0=m.h.n.getD 2 0) (h4:m'.h.n.getD 4 0=m.h.n.getD 4 0) (hd:m'.ai=m.ai) (hf:m'.aj=m.aj)
    (hg:m.b.length≤m'.b.length) (hl:m'.b.length≤m.b.length+e') (hj:j≤j'):kJ m0 m' d (e+e') j':=by
  have:=h.ge;have:=h.le
  refine⟨po h.fit ⟨by rw[hc],by rw[hc],h2,h4,hg⟩ (fun k hk=>.inl (hd ▸ hk)) (fun k hk=>.inl (hf ▸ hk)),hc.trans h.c,h8.trans h.n8,fun k hk=>?_,by rw[hd];exact h.nd,by rw[hf];exact h.nf,by omega,by omega⟩
  rw[hd]at hk
  obtain⟨A,B,C,D⟩:=h.chains k hk
  exact⟨oZ A hg,B,C,by omega⟩
theorem zi {m0 m:Mk} {d e j L:Nat} {o:Ly} (h:kJ m0 m d e j) (ho:o.length≤L):kJ m0 (m.d9 o).2 d (e+L) j:=by
  have A:=iN m o
  have B:=eO m o
  have C:(m.d9 o).2.h.n.getD 8 0=m.h.n.getD 8 0:=by simp only[Mk.d9,Mk.dW];rw[cg (by decide),cg (by decide)]
  exact zk h B.1 C A.2.2.2.2.2.2.1 A.2.2.2.2.2.2.2 B.2.1 B.2.2.1 (by rw[A.2.1];omega) (by rw[A.2.1];omega) (Nat.le_refl _)
theorem FI {m0 m:Mk} {d e j:Nat} (p v:Nat) (h:kJ m0 m d e j):kJ m0 (m.put p v) d e j :=
  zk (e':=0) h q q q q q q (by rw[jU];exact Nat.le_refl _) (by rw[jU];exact Nat.le_refl _) (Nat.le_refl _)
theorem zh {m0 m:Mk} {d e j n src gN:Nat} {bg:List Nat} (h:kJ m0 m d e j) (hc:jF m.b.length bg n):kJ m0 (m.link bg n src gN).2.2 d (e+2100) j:=by
  have g:=vr m bg n src gN hc
  exact zk h g.c g.n8 g.n2 g.n4 g.ai g.aj g.ge g.le (Nat.le_refl _)
theorem PS {m0 m:Mk} {d e j i:Nat} {k:bQ} (h:kJ m0 m d e j) (hi:i<m.ai.length) (hp:k.bX=(m.ai.getD i known0).bX) (ht:k.cM=(m.ai.getD i known0).cM)
    (hk:jF m.b.length k.bg (k.cr-1)∧(k.cr=0→k.bg=[])∧k.cr≤16*m0.n8+(j+1)):kJ m0 {m with ai:=m.ai.set i k} d e (j+1):=by
  have C:m.ai[i]? = some (m.ai.getD i known0):=by simp[List.getD,hi]
  have B:=List.mem_of_getElem? C
  refine⟨po h.fit ⟨q,q,q,q,Nat.le_refl _⟩ (fun y A=>?_) (fun y A=>.inl A),h.c,h.n8,fun y A=>?_,by simpa using h.nd,h.nf,h.ge,h.le⟩
  · rcases List.mem_or_eq_of_mem_set A with A|rfl
    · exact .inl A
    right;have:=h.fit.2.2.2.2.2.2.1 _ B;simp only;omega
  rcases List.mem_or_eq_of_mem_set A with A|rfl
  · obtain⟨D,E,F,G⟩:=h.chains y A;exact⟨D,E,F,by omega⟩
  exact⟨hk.1,hk.2.1,by rw[ht];exact(h.chains _ B).2.2.1,hk.2.2⟩
def kN (e:Nat) (i:Nat) (m:Mk):Mk :=
  let k:=m.ai.getD i known0
  if k.cr=0 then
    let m29:=(m.put (k.bX+40) e).put (k.bX+56) 1
    {m29 with ai:=m29.ai.set i {k with cr:=1}}
  else
    match m.link k.bg (k.cr-1) (k.bX+48) e with
    | (a,_,m1) =>
      let m29:=m1.put (k.bX+56) (k.cr+1)
      {m29 with ai:=m29.ai.set i {k with bg:=a,cr:=k.cr+1}}
theorem pq (e i:Nat) (r:List Nat) (m:Mk):kO e (i :: r) m=kO e r (kN e i m):=by
  unfold kN
  rw[kO]
  simp only
  split
  · rfl
  rfl
theorem zJ {m0 m:Mk} {d e j i en:Nat} (h:kJ m0 m d e j) (hi:i<m.ai.length):kJ m0 (kN en i m) d (e+2100) (j+1)∧(kN en i m).main=m.main∧(kN en i m).ai.length=m.ai.length:=by
  have K:m.ai[i]? = some (m.ai.getD i known0):=by simp[List.getD,hi]
  have M:=List.mem_of_getElem? K
  obtain⟨I,N,O,P⟩:=h.chains _ M
  unfold kN
  simp only
  generalize hk:m.ai.getD i known0=k at *
  split
  · rename_i h0
    have g:=FI (k.bX+56) 1 (FI (k.bX+40) en h)
    have J:=kT m (k.bX+40) en
    have D:=kT (m.put (k.bX+40) en) (k.bX+56) 1
    have H:((m.put (k.bX+40) en).put (k.bX+56) 1).b.length=m.b.length:=by rw[jU,jU]
    generalize m.put (k.bX+40) en=C at *
    generalize C.put (k.bX+56) 1=m29 at *
    have B:m29.ai=m.ai:=D.2.1.trans J.2.1
    have A:=PS (i:=i) (k:={k with cr:=1}) g (by rw[B];exact hi) (by rw[B,hk]) (by rw[B,hk]) ⟨by simp only;rw[N h0];exact chain_nil _,fun F=>by simp at F,by simp only;omega⟩
    refine⟨⟨A.fit,A.c,A.n8,A.chains,A.nd,A.nf,A.ge,lj A.le (by omega)⟩,D.2.2.2.1.trans J.2.2.2.1,by simp[B]⟩
  rename_i h0
  have g:=zh (src:=k.bX+48) (gN:=en) h I
  have E:=vr m k.bg (k.cr-1) (k.bX+48) en I
  generalize m.link k.bg (k.cr-1) (k.bX+48) en=r at *
  obtain⟨a,Q,C⟩:=r
  simp only at g E ⊢
  have L:=FI (k.bX+56) (k.cr+1) g
  have D:=kT C (k.bX+56) (k.cr+1)
  have H:=jU C (k.bX+56) (k.cr+1)
  generalize C.put (k.bX+56) (k.cr+1)=m29 at *
  have B:m29.ai=m.ai:=D.2.1.trans E.ai
  have G:=E.chain
  rw[show k.cr-1+1=k.cr by omega,← H]at G
  have A:=PS (i:=i) (k:={k with bg:=a,cr:=k.cr+1}) L (by rw[B];exact hi) (by rw[B,hk]) (by rw[B,hk]) ⟨G,fun F=>by simp at F,by simp only;omega⟩
  exact⟨A,D.2.2.2.1.trans E.main,by simp[B]⟩
theorem zK {m0:Mk} {d en:Nat}:∀(od:List Nat) (m:Mk) (e j:Nat),kJ m0 m d e j→(∀i∈od,i<m.ai.length) →
    kJ m0 (kO en od m) d (e+2100*od.length) (j+od.length)∧(kO en od m).main=m.main∧(kO en od m).ai.length=m.ai.length
  | [],m,e,j,h,_=>⟨h,q,q⟩
  | i :: r,m,e,j,h,hi=>by
    obtain⟨h1,h2,h3⟩:=zJ (en:=en) h (hi i (by simp))
    obtain⟨g1,g2,g3⟩:=zK r (kN en i m) (e+2100) (j+1) h1 fun x hx=>by rw[h3];exact hi x (by simp[hx])
    rw[pq]
    refine⟨?_,g2.trans h2,g3.trans h3⟩
    have e1:e+2100*(i :: r).length=e+2100+2100*r.length:=by simp;omega
    have A:j+(i :: r).length=j+1+r.length:=by simp;omega
    rw[e1,A];exact g1
def BD (q:Pr):Prop:=q.name.length≤64∧q.value.length≤256
theorem LY:∀(n j:Nat) (o:List Pr),(∀q∈o,BD q)→∀q∈jl n j o,BD q
  | 0,_,_,h=>h
  | n+1,j,o,h=>by
    unfold jl
    refine LY n (j-1) _ fun q hq=>?_
    rcases List.mem_or_eq_of_mem_set hq with hq|rfl
    · exact h q hq
    · rw[List.getD_eq_getElem?_getD]
      cases hg:o[j-1]? with
      | none=>exact⟨by simp,by simp⟩
      | some y=>exact h y (List.mem_of_getElem? hg)
theorem ael {p:Pr} {o:List Pr} (hp:BD p) (h:∀q∈o,BD q):∀q∈rI p o,BD q:=by
  unfold rI
  simp only
  split
  · exact h
  intro q B
  rcases List.mem_or_eq_of_mem_set B with B|rfl
  · refine LY _ _ _ (fun y A=>?_) q B
    rcases List.mem_append.1 A with A|A
    · exact h y A
    simp at A;subst A;exact⟨by simp,by simp⟩
  exact hp
theorem Zk:∀(l o:List Pr),(∀q∈o,BD q)→∀(x:List Pr) (c:Nat),MP l o=(x,c)→(∀q∈x,BD q)∧x.length≤16
  | [],o,ho,x,c,h=>by
    unfold MP at h
    split at h
    · obtain⟨rfl,_⟩:=Prod.mk.inj h;simp
    · obtain⟨rfl,_⟩:=Prod.mk.inj h;exact⟨ho,by omega⟩
  | p :: r,o,ho,x,c,h=>by
    unfold MP at h
    split at h
    · obtain⟨rfl,_⟩:=Prod.mk.inj h;simp
    · rename_i h1
      have hr:=xR.1 (Classical.not_not.1 h1)
      simp only[right,Pr.pb,Bool.and_eq_true]at hr
      exact Zk r _ (ael ⟨(gw hr.1).2,dT hr.2⟩ ho) x c h
theorem vt {l x:List Pr} {c:Nat} (h:kE l=(x,c)):(∀q∈x,BD q)∧x.length≤16:=by
  unfold kE at h
  split at h
  · obtain⟨rfl,_⟩:=Prod.mk.inj h;simp
  exact Zk l [] (by simp) x c h
theorem EA {ds:List bQ} {k i:Nat} {od:List Nat} (h:i∈mG ds k od):i=k∨i∈od:=by
  unfold mG at h
  simp only[List.mem_append,List.mem_singleton]at h
  rcases h with(h|h)|h
  · exact .inr (List.mem_of_mem_take h)
  · exact .inl h
  exact .inr (List.mem_of_mem_drop h)
theorem zn (ds:List bQ) (p:Nat) (od:List Nat):∀n,lu ds p od n≤n
  | 0=>Nat.le_refl _
  | n+1=>by
    unfold lu
    split
    · have:=zn ds p od n;omega
    · exact Nat.le_refl _
theorem VP (ds:List bQ) (k:Nat) (od:List Nat):(mG ds k od).length=od.length+1:=by
  have:=zn ds (gB ds k) od od.length
  unfold mG;simp;omega
structure pE (m0 m:Mk) (ps:List (List UInt8)) (od:List Nat) (n:Nat):Prop where
  app:kJ m0 m n (900*n) 0
  main:m.main=m0.main
  idx:∀i∈od,i<m.ai.length
  len:od.length=n∧ps.length=n
  ps:∀t∈ps,t.length≤400
theorem zy {m0 m:Mk} {ps:List (List UInt8)} {od:List Nat} {n:Nat} {x:Pr} (h:pE m0 m ps od n) (hx:BD x) :
    pE m0 (m.data x).2 (ps ++ [((m.data x).2.ai.getD (m.data x).1 known0).cM]) (mG (m.data x).2.ai (m.data x).1 od) (n+1):=by
  obtain⟨C,D,F⟩:=ze h.app hx
  have G:=FU m x h.app.fit
  refine⟨by rw[show 900*(n+1)=900*n+900 by omega];exact C,F.trans h.main,fun i B=>?_,⟨by rw[VP,h.len.1],by simpa using h.len.2⟩,fun t A=>?_⟩
  · rcases EA B with rfl|B
    · exact D
    have:=h.idx i B
    have H:m.ai.length≤(m.data x).2.ai.length:=by
      rcases G.pre with e|⟨y,e,_⟩ <;> rw[e] <;> simp
    omega
  rcases List.mem_append.1 A with A|A
  · exact h.ps t A
  simp at A
  subst A
  have E:(m.data x).2.ai[(m.data x).1]? = some ((m.data x).2.ai.getD (m.data x).1 known0):=by simp[List.getD,D]
  exact(C.chains _ (List.mem_of_getElem? E)).2.2.1
theorem wG {m0:Mk}:∀(l:List Pr) (m:Mk) (ps:List (List UInt8)) (od:List Nat) (n:Nat),pE m0 m ps od n→(∀q∈l,BD q) →
    pE m0 (ir l m ps od).2.2 (ir l m ps od).1 (ir l m ps od).2.1 (n+l.length)
  | [],m,ps,od,n,h,_=>h
  | x :: r,m,ps,od,n,h,hb=>by
    have h1:=zy h (hb x (by simp))
    have h2:=wG r _ _ _ _ h1 fun q hq=>hb q (by simp[hq])
    rw[show n+(x :: r).length=n+1+r.length by simp;omega]
    exact h2
theorem rR {m:Mk} (h:uN m):pE m m [] [] 0:=⟨SJ h,q,by simp,⟨q,q⟩,by simp⟩
end Go.Wk
namespace Go.Wk
open Go Go.RowKit
section
variable {P:Program} {ops:Array Oper} {md:Region.Mode} {C:World→Prop} {Q:Exit→Act→World→Prop} {QN:Act→World→Prop}
variable {n:Nat} {A:Fr n} {D:List Deferred} {l:List (Nat × Value)} {w:World} {f:Nat} {listed:Array Bool}
theorem wD {R:Act→World→Prop} {id:Nat} {lo:List Oper} {a:Act} (C:World→Prop) (hm:P.follows .mixedOrders=true) (hk:∀a' w',R a' w'→Q .normal a' w')
  (h:∀w',Md [] w w'→lH P .any lo.toArray C R lo.length (Array.replicate lo.length false) a w'):(Code.region id lo.toArray true).wp P Q a w:=by
 refine wp_region_any hm (pC (C:=C) (QN:=R) hk _ _ _ _ ?_)
 have:=h _ (Md.drew w)
 simpa using this
theorem o6 {a:Act} (hr:(Region.ready md ops listed).isEmpty=true) (h:QN a w):lH P md ops C QN 0 listed a w:=⟨by simpa using hr,h⟩
theorem fF {i d:Nat} {op:Op} {ty:TypeId} {ps:String} {af:Array Edge} (v:Value) (hi:ops[i]? = some ⟨some d,op,ty,ps,af,none⟩) (hs:Region.noSelect ops=true) (hB:((Region.ready md ops listed).contains i && Region.free md ops listed i)=true) (hC:C w)
    (hv:∀w',C w'→cZ P ⟨some d,op,ty,ps,af,none⟩ (bh A D l).eval w' v) (k:lH P md ops C QN f (listed.setIfInBounds i true) (bh A D ((d,v) :: l)) w):lH P md ops C QN (f+1) listed (bh A D l) w:=by
  simp only[Bool.and_eq_true]at hB
  exact rj hi (Region.noSelect_spec hs) f listed _ w (Region.free_spec hi hB.2) (by simpa using hB.1) hC (.inl ⟨by simp[Region.wanted],fun w' B=>hv w' B⟩) k
theorem O1 {i:Nat} {o:Oper} {a:Act} {K:Act→World→Prop} (hi:ops[i]? = some o) (hg:o.guard=none) (h:wpList P ops (fun e a' w'=>e = .normal∧C w'∧K a' w') [o] a w):opC P ops C i K a w:=by
  have D:Region.wanted o (yielded ops a.tmps)=true:=by unfold Region.wanted;rw[hg]
  unfold opC
  simp only[hi]
  rw[if_pos D]
  unfold wpList at h
  rw[if_pos D]at h
  rcases h with h|h
  · unfold Oper.wp at *
    generalize (execOp a.eval o).run P w=r at *
    cases r with
    | ok x w' =>
      cases x <;> simp only[Oper.upon]at h ⊢
      case value v=>exact(show _∧_ from h).2
      case skip=>exact(show _∧_ from h).2
      case defer d=>exact(show _∧_ from h).2
      case enter f args =>
        refine h.mono fun e B A=>?_
        cases e with
        | returned v=>exact(show _∧_ from A).2
        | panicked c=>exact absurd A.1 (by simp)
        | outgrown=>obtain⟨_,_,A⟩:=A;exact absurd A.1 (by simp)
      case row r args=>exact h.mono fun v B A=>(show _∧_ from A).2
    | halt x w' =>
      cases x <;> simp only[Oper.upon]at h ⊢
      exact absurd h.1 (by simp)
  obtain⟨_,_,_,A⟩:=h;exact absurd A.1 (by simp)
theorem e7 {i:Nat} {o:Oper} {a:Act} (hr:decide (Region.ready md ops listed=[i])=true) (hi:ops[i]? = some o) (hg:o.guard=none)
    (h:wpList P ops (fun e a' w'=>e = .normal∧C w'∧lH P md ops C QN f (listed.setIfInBounds i true) a' w') [o] a w):lH P md ops C QN (f+1) listed a w:=by
  have hr:=dT hr
  refine⟨fun A=>(by rw[hr]at A;cases A),fun k hk=>?_⟩
  rw[hr]at hk
  have:k=i:=by simpa using hk
  subst this
  exact O1 hi hg h
theorem tH {i j:Nat} {o o':Oper} {a:Act} (hr:decide (Region.ready md ops listed=[i,j])=true) (hi:ops[i]? = some o) (hg:o.guard=none) (hj:ops[j]? = some o') (hg':o'.guard=none)
    (h:wpList P ops (fun e a' w'=>e = .normal∧C w'∧lH P md ops C QN f (listed.setIfInBounds i true) a' w') [o] a w)
    (h':wpList P ops (fun e a' w'=>e = .normal∧C w'∧lH P md ops C QN f (listed.setIfInBounds j true) a' w') [o'] a w):lH P md ops C QN (f+1) listed a w:=by
  have hr:=dT hr
  refine⟨fun A=>(by rw[hr]at A;cases A),fun k hk=>?_⟩
  rw[hr]at hk
  have:k=i∨k=j:=by simpa using hk
  rcases this with rfl|rfl
  · exact O1 hi hg h
  exact O1 hj hg' h'
end
theorem Qn {β:Type} {f:β→Value} {h1:∀x,(f x).oneCell'=true} {ok:β→Prop} {w w':World} {R R':Nat→Prop}:∀{xs:List β} {cs:List Value},ru (tG f h1 ok) w R cs xs→ru (tG f h1 ok) w' R' cs xs
 | [],_,h=>h
 | _ :: _,_,⟨c,r,h0,h1,h2⟩=>⟨c,r,h0,h1,Qn h2⟩
theorem AB {β:Type} {f:β→Value} {h1:∀x,(f x).oneCell'=true} {ok:β→Prop} {w w':World} {R R':Nat→Prop} {v:Value} {xs:List β} (h:Lz (tG f h1 ok) w R v xs) (m:Md [] w w'):Lz (tG f h1 ok) w' R' v xs:=by
 obtain⟨a,A,B,C,h1,D,E,F,G⟩:=h
 exact⟨a,A,B,C,h1,D,E,fun p I j u H=>m.cell (F p I j u H) (by simp),Qn G⟩
theorem wX {β:Type} {f:β→Value} {h1:∀x,(f x).oneCell'=true} {ok:β→Prop} {w:World} {R:Nat→Prop} {b e:Nat} {x:β} (h:cG w b [f x] e) (hx:ok x):Lz (tG f h1 ok) w R (.slice (some ⟨b,0,none⟩) 1 1) [x]:=by
  have B:Ls (tG f h1 ok) w (fun _=>True) (.slice (some ⟨b,0,none⟩) 1 1) [x]:=Ls.dP (cs:=[f x]) h ⟨[f x],[],q,⟨q,hx⟩,q⟩ q (by decide) trivial
  exact AB B.lz (Md.refl _ _)
structure uf {α:Type} (T:Dt α) (w0:World) (Q0:Nat→Prop) (e:TypeId) (w:World) (R:Nat→Prop) (v:Value) (xs:List α):Prop where
  md:Md [] w0 w
  s:∀b,Q0 b→b<w0.heap.size→R b
  t:∀b,R b→Q0 b
  up:Up w R
  ow:Ow T e (cB [] w0) w R v xs
section
variable {α:Type} {T:Dt α} {P:Program} {ops:Array Oper} {Q:Exit→Act→World→Prop} {n:Nat} {A:Fr n} {D:List Deferred} {l:List (Nat × Value)} {w:World} {rest:List Oper}
theorem uf.mk0 {w0 w1 w:World} {Q0:Nat→Prop} {e b:Nat} (uQ:Up w0 Q0) (h1:Md [] w0 w1) (h2:w1.heap.size≤b) (h3:b<w.heap.size) (hm:Md [] w1 w) (hB:cG w b [] e) :
    ∃R,uf T w0 Q0 e w R (.slice (some ⟨b,0,none⟩) 0 0) []:=by
  obtain⟨R,s,t,C,u⟩:=kI (uQ.md h1) h2 h3 hm
  exact⟨R,h1.k hm,fun b A B=>s b A (lq B h1.size),t,u,Ow.dP hB q q (by decide) (.inr (lj h1.size h2)) C⟩
theorem uf.o {w0 w w':World} {Q0 R:Nat→Prop} {e:TypeId} {v:Value} {xs:List α} (h:uf T w0 Q0 e w R v xs) (m:Md [] w w'):uf T w0 Q0 e w' R v xs :=
  ⟨h.md.k m,h.s,h.t,h.up.md m,h.ow.o m⟩
instance ahL {w0 w w':World} {Q0 R:Nat→Prop} {e:TypeId} {v:Value} {xs:List α}:Tp w w' (uf T w0 Q0 e w R v xs) (uf T w0 Q0 e w' R v xs ):=⟨fun m h=>h.o m⟩
theorem kC {d:Nat} {x y:Operand} {ty:TypeId} {ps:String} {af:Array Edge} {t e:TypeId} {sz by':Nat} {v u:Value} {xs ys:List α} {w0:World} {Q0 R:Nat→Prop} (hn:T.n=sz) (ht:P.underlying t=some (.slice e)) (hE:xL P e sz by'=true) (hx:ev n l x=some v) (hy:ev n l y=some u)
    (F:uf T w0 Q0 e w R v xs) (hY:Lz T w R u ys) (h63:xs.length+ys.length≤100000) (hb:by'≤1000)
    (k:∀v' w' R',uf T w0 Q0 e w' R' v' (xs ++ ys)→Md (ah v).toList w w'→wpList P ops Q rest (bh A D ((d,v') :: l)) w') :
    wpList P ops Q (⟨some d,.call {callee:=.builtin .append,args:=#[x,y],argTypes:=#[t,t]},ty,ps,af,none⟩ :: rest) (bh A D l) w:=by
  refine sF hn ht hE hx hy F.ow hY F.up (fun b hb=>.inr (lj F.md.size hb)) (by omega) ?_ ?_
  · exact lj (Nat.mul_le_mul h63 hb) (by decide)
  intro v' w' R' E G H I B J K L
  refine k v' w' R' ⟨F.md.dK B fun b hb=>(F.ow.2 b hb).1,fun b hb C=>E b (F.s b hb C) (lq C F.md.size),fun b hb=>F.t b (G b hb),H,I⟩ B
end
theorem adt {ds:List bQ} {p q:Nat} {od:List Nat} (h:0<q):lu ds p od q=if p<gB ds (od.getD (q-1) 0)then lu ds p od (q-1)else q:=by
  obtain⟨n,rfl⟩:∃n,q=n+1:=⟨q-1,by omega⟩
  rfl
theorem afo {ds:List bQ} {p q:Nat} {od:List Nat} (h:¬0<q):lu ds p od q=q:=by
  obtain rfl:q=0:=by omega
  rfl
theorem oQ {ds:List bQ} {i:Nat} {x:bQ} (h:ds[i]? = some x):gB ds i=x.bX:=by simp[gB,List.getD,h]
theorem rZ {l:List Nat} {i x:Nat} (h:l[i]? = some x):l.getD i 0=x:=by simp[List.getD,h]
theorem qn {ds:List bQ} {i:Nat} {x:bQ} (h:ds[i]? = some x):ds.getD i known0=x:=by simp[List.getD,h]
theorem SY (m:Mk) (x:Pr) (h:m.fit):m.ai.length≤(m.data x).2.ai.length:=by
  rcases(FU m x h).pre with e|⟨y,e,_⟩ <;> rw[e] <;> simp
theorem uj {l:List Pr} {m:Mk} {ps:List (List UInt8)} {od:List Nat} {i:Nat} (h:¬i<l.length):ir (l.drop i) m ps od=(ps,od,m):=by rw[gI (by omega)];rfl
theorem xK {l:List Pr} {m m':Mk} {ps:List (List UInt8)} {od:List Nat} {i k:Nat} {x:Pr} {y:bQ} {q:Nat} (h:l[i]? = some x) (hd:m.data x=(k,m')) (hy:m'.ai[k]? = some y) (hq:lu m'.ai (gB m'.ai k) od od.length=q) :
    ir (l.drop i) m ps od=ir (l.drop (i+1)) m' (ps ++ [y.cM]) (od.take q ++ [k] ++ od.drop q):=by
  rw[eG h]
  show(match m.data x with|(k,m1)=>ir (l.drop (i+1)) m1 (ps ++ [(m1.ai.getD k known0).cM]) (mG m1.ai k od))=_
  rw[hd]
  simp only[qn hy]
  unfold mG
  rw[hq]
theorem zx {m0 m m':Mk} {ps:List (List UInt8)} {od:List Nat} {n k q:Nat} {x:Pr} {y:bQ} (h:pE m0 m ps od n) (hx:BD x) (hd:m.data x=(k,m')) (hy:m'.ai[k]? = some y) (hq:lu m'.ai (gB m'.ai k) od od.length=q) :
    pE m0 m' (ps ++ [y.cM]) (od.take q ++ [k] ++ od.drop q) (n+1):=by
  have:=zy h hx
  rw[hd]at this
  simp only[qn hy]at this
  unfold mG at this
  rw[hq]at this
  exact this
theorem ux {m:Mk} {od:List Nat} {j:Nat} {its:List lI} (h:¬j<od.length):its ++ j7 m (od.drop j)=its:=by rw[gI (by omega)];simp[j7]
theorem JU {m:Mk} {od:List Nat} {j i:Nat} {its:List lI} {x:bQ} (h:od[j]? = some i) (hx:m.ai[i]? = some x) :
    its ++ j7 m (od.drop j)=(its ++ [{bX:=x.bX,dY:=dS m.c.dx m.c.cV x.cM}]) ++ j7 m (od.drop (j+1)):=by
  rw[eG h]
  simp only[j7,List.map_cons,oQ hx,qn hx,List.append_assoc,List.singleton_append]
theorem wP {m:Mk} {od:List Nat} {j e:Nat} (h:¬j<od.length):kO e (od.drop j) m=m:=by rw[gI (by omega)];rfl
theorem zL {m:Mk} {od:List Nat} {j i e:Nat} (h:od[j]? = some i):kO e (od.drop j) m=kO e (od.drop (j+1)) (kN e i m):=by rw[eG h,pq]
theorem MV {m0 m:Mk} {d e e' j:Nat} (h:kJ m0 m d e j) (he:e≤e'):kJ m0 m d e' j:=⟨h.fit,h.c,h.n8,h.chains,h.nd,h.nf,h.ge,lj h.le (by omega)⟩
theorem abU {m:Mk} {e i:Nat} {k:bQ} (hk:m.ai[i]? = some k) (h0:k.cr=0) :
    kN e i m={(m.put (k.bX+40) e).put (k.bX+56) 1 with ai:=m.ai.set i {k with cr:=1}}:=by
  unfold kN
  simp only[qn hk]
  rw[if_pos h0]
  rfl
theorem abV {m m1:Mk} {e i t:Nat} {a:List Nat} {k:bQ} (hk:m.ai[i]? = some k) (h0:¬k.cr=0) (hl:m.link k.bg (k.cr-1) (k.bX+48) e=(a,t,m1)) :
    kN e i m={m1.put (k.bX+56) (k.cr+1)with ai:=m1.ai.set i {k with bg:=a,cr:=k.cr+1}}:=by
  unfold kN
  simp only[qn hk]
  rw[if_neg h0,hl]
  rfl
theorem kL {m x m29 m3 z:Mk} {raw l:List Pr} {c cF mono e t:Nat} {ck:Ly} {ps:List (List UInt8)} {od a:List Nat} (h1:kE raw=(l,c)) (h2:¬c≠0) (h3:¬m.dD 9=18446744073709551615) (h4:ir l m [] []=(ps,od,x))
    (h5:x.d9 (er {seq:=(x.dD 9+1)%18446744073709551616,cF:=cF,mono:=mono,ck:=ck,xor:=mQ 0 ps,aH:=j7 x od})=(e,m29)) (h6:m29.link m29.main (m29.dD 8) 176 e=(a,t,m3))
    (h7:kO e od (let m4:=({m3 with main:=a}:Mk).dW 11 (a.getD 0 0);{m4 with h:={m4.h with cT:=jK a%4294967296,cW:=t%4294967296}})=z) :
    m.append raw cF mono ck=if z.c.cK<z.b.length then(0,15,m)else
      (let seq:=(x.dD 9+1)%18446744073709551616
      let m7:=if m29.dD 8=0 then(z.dW 10 seq).dW 12 cF else z
      let m8:=m7.dW 8 ((m7.dD 8+1)%18446744073709551616)
      let m9:=((m8.dW 9 seq).dW 13 cF).dW 14 mono
      (seq,0,{m9 with h:={m9.h with ck:=ck,dr:=e}})):=by
  unfold Mk.append
  simp only[h1]
  rw[if_neg h2,if_neg h3]
  simp only[h4,h5,h6]
  simp only at h7
  rw[h7]
end Go.Wk
namespace Go.Wk
open Go Go.Op
theorem Y3:∀a:List UInt8,bytesLess a a=false
  | []=>rfl
  | x :: a=>by simp[bytesLess,Y3 a]
theorem JD:∀{a b c:Ly},bytesLess a b=true→bytesLess b c=true→bytesLess a c=true
  | _,[],_,h,_=>by unfold bytesLess at h;cases h
  | _,_ :: _,[],_,h=>by unfold bytesLess at h;cases h
  | [],_ :: _,_ :: _,_,_=>rfl
  | x :: a,y :: b,z :: c,h1,h2=>by
    simp only[bytesLess,Bool.or_eq_true,decide_eq_true_eq,Bool.and_eq_true,beq_iff_eq]at *
    rcases h1 with h1|⟨rfl,h1⟩<;>rcases h2 with h2|⟨rfl,h2⟩
    · exact .inl (UInt8.lt_trans h1 h2)
    · exact .inl h1
    · exact .inl h2
    · exact .inr ⟨q,JD h1 h2⟩
theorem Y4:∀{a b:Ly},bytesLess a b=false→bytesLess b a=false→a=b
  | [],[],_,_=>rfl
  | [],_ :: _,h,_=>by unfold bytesLess at h;cases h
  | _ :: _,[],_,h=>by unfold bytesLess at h;cases h
  | x :: a,y :: b,h1,h2=>by
    simp only[bytesLess,Bool.or_eq_false_iff,decide_eq_false_iff_not,Bool.and_eq_false_iff,beq_eq_false_iff_ne]at *
    have hxy:x=y:=by
      have A:=h1.1;have B:=h2.1
      exact UInt8.le_antisymm (UInt8.not_lt.1 B) (UInt8.not_lt.1 A)
    subst hxy
    have A:=h1.2.resolve_left (by simp)
    have B:=h2.2.resolve_left (by simp)
    rw[Y4 A B]
theorem XI {p q:uO} (hp:right p=true) (hq:right q=true) (h:whole p=whole q):p=q:=by
  have A:=(nS ((me p).2 hp)).2
  have B:=(nS ((me q).2 hq)).2
  rw[← A,h,B]
theorem EM {p:uO} (h:right p=true):p.1.length≤64∧p.2.length≤256:=by
  simp only[right,Bool.and_eq_true,decide_eq_true_eq]at h
  exact⟨(gw h.1).2,h.2⟩
end Go.Wk
namespace Go.Wk
open Go Go.RowKit
section
variable {P:Program} {n:Nat} {A:Fr n} {D:List Deferred} {l:List (Nat × Value)} {w:World} {d:Option Tmp} {ty:TypeId} {ps:String} {af:Array Edge} {g:Option (Nat × Bool)}
end
def vi (p:Pr):List Pr→Bool
  | []=>false
  | q :: r=>if p.pb=q.pb then true else vi p r
theorem zM {p:Pr} {l:List Pr} {i:Nat} (h:¬i<l.length):vi p (l.drop i)=false:=by rw[gI (by omega)];rfl
theorem TQ {p q:Pr} {l:List Pr} {i:Nat} (h:l[i]? = some q):vi p (l.drop i)=if p.pb=q.pb then true else vi p (l.drop (i+1)):=by rw[eG h];rfl
theorem IX {a b:List Pr} {i j:Nat} {p q:Pr} (h:a[i]? = some p) (k:b[j]? = some q):vi (a.getD i {name:=[],value:=[]}) (b.drop j)=(decide (p.pb=q.pb) || vi (a.getD i {name:=[],value:=[]}) (b.drop (j+1))):=by
  rw[ny h,TQ k];by_cases e:p.pb=q.pb <;> simp[e]
def allIn (b:List Pr):List Pr→Bool
  | []=>true
  | p :: r=>if vi p b=true then allIn b r else false
theorem SH {b l:List Pr} {i:Nat} (h:¬i<l.length):allIn b (l.drop i)=true:=by rw[gI (by omega)];rfl
theorem MU {b l:List Pr} {i:Nat} {p:Pr} (h:l[i]? = some p):allIn b (l.drop i)=if vi p b=true then allIn b (l.drop (i+1))else false:=by rw[eG h];rfl
theorem xJ {b l:List Pr} {i:Nat} (h:i<l.length):allIn b (l.drop i)=if vi (l.getD i {name:=[],value:=[]}) b=true then allIn b (l.drop (i+1))else false:=by
  have e:l[i]? = some (l[i]'h):=List.getElem?_eq_getElem h
  rw[MU e,ny e]
theorem xq {p q:Pr}:p.pb=q.pb↔p=q:=by
  cases p;cases q;simp[Pr.pb]
theorem Zs {p:Pr} {l:List Pr}:vi p l=true↔p∈l:=by
  induction l with
  | nil=>simp[vi]
  | cons q r ih =>
    unfold vi
    split
    · rename_i h;rw[xq]at h;simp[h]
    · rename_i h;rw[xq]at h;simp[h,ih]
end Go.Wk
namespace Go.Wk
open Go Go.RowKit
section
variable {P:Program} {ops:Array Oper} {Q:Exit→Act→World→Prop} {rest:List Oper}
variable {n:Nat} {A:Fr n} {D:List Deferred} {l:List (Nat × Value)} {w:World}
variable {d:Tmp} {op:Op} {ty:TypeId} {ps:String} {af:Array Edge} {g:Option (Nat × Bool)}
end
section
variable {P:Program} {n:Nat} {A:Fr n} {D:List Deferred} {l:List (Nat × Value)} {w:World} {d:Option Tmp} {ty:TypeId} {ps:String} {af:Array Edge} {g:Option (Nat × Bool)}
theorem RQ {x:Operand} {t u e:TypeId} {a:Option Addr} {m c:Nat} (hx:ev n l x=some (.slice a m c)) (hT:P.underlying t=some (.slice e)) :
    cZ P ⟨d,.binOp .eql t x (.const (.slice none 0 0)) u,ty,ps,af,g⟩ (bh A D l).eval w (.bool a.isNone):=by
  have h:=Go.Lib.run_eql_slice_nil (P:=P) w t e a m c 0 0 hT
  have B:(bh A D l).eval (.const (.slice none 0 0)) = .slice none 0 0:=rfl
  have C:(eqGuard .eql t x (.const (.slice none 0 0)) (.slice a m c) (.slice none 0 0)).run P w = .ok () w:=by unfold eqGuard;simp
  simp[cZ,execOp,cC hx,B,C,h]
end
section
variable {w w':World} {b cap:Nat} {xs:List Pr}
end
end Go.Wk
namespace Go.Wk
open Go Go.RowKit
theorem abe {v:Nat} {x:UInt8} (h:v<72057594037927936):v*2 ^ 8%18446744073709551616 ||| x.toNat=x.toNat+256*v:=by
  have A:=UInt8.toNat_lt x
  rw[Nat.mod_eq_of_lt (by omega),Nat.mul_comm,← Nat.two_pow_add_eq_or_of_lt (by simpa using A)]
  omega
theorem vf {l:Ly} {a k:Nat} (hk:k=4∨k=8) (h:a+k≤l.length):oG l a k=(wV ((l.drop a).take k),true):=by
  unfold oG
  rw[if_pos ⟨by rw[fD];omega,by omega,by omega⟩];simp
def at4 (l:Ly) (a:Nat):Nat:=wV ((l.drop a).take 4)
def fR (l:Ly) (a:Nat):Nat:=wV ((l.drop a).take 8)
theorem wC (l:Ly) (a:Nat):at4 l a<4294967296:=sV (k:=4) (by simp;omega)
theorem MY (l:Ly) (a:Nat):fR l a<18446744073709551616:=sV (k:=8) (by simp;omega)
section
variable {P:Program} {ops:Array Oper} {Q:Exit→Act→World→Prop} {rest:List Oper}
variable {n:Nat} {A:Fr n} {D:List Deferred} {l:List (Nat × Value)} {w:World}
variable {d:Tmp} {op:Op} {ty:TypeId} {ps:String} {af:Array Edge} {g:Option (Nat × Bool)}
theorem vY {f:FuncId} {c:Operand} {xs:List Operand} {ts:Array TypeId} {vs cs:List Value} {R:Ending→World→Prop} (hc:ev n l c=some (.func (.func f) #[] cs.toArray)) (hf:dO P f=true) (ha:evs n l xs=some vs) (hr:Calls P f (vs ++ cs).toArray w R)
    (k:∀e w',R e w'→∃v,e = .returned v∧wpList P ops Q rest (bh A D ((d,v) :: l)) w') :
    wpList P ops Q (⟨some d,.call {callee:=.value c,args:=xs.toArray,argTypes:=ts},ty,ps,af,none⟩ :: rest) (bh A D l) w:=by
  refine gJ q ?_
  unfold Oper.wp
  have E:=mC (A:=A) (D:=D) ha
  have B:(execOp (bh A D l).eval ⟨some d,.call {callee:=.value c,args:=xs.toArray,argTypes:=ts},ty,ps,af,none⟩).run P w = .ok (.enter f (vs ++ cs).toArray) w:=by
    simp only[execOp,resolve,cC hc,Deferred.ofValue,List.map_toArray,E]
    simp[invoke,oM hf]
  rw[B]
  refine hr.mono fun e w' C=>?_
  obtain⟨v,rfl,hk⟩:=k e w' C
  exact hk
theorem OM {f:FuncId} {x:Operand} {v:Value} {d':Option Tmp} (hx:ev n l x=some v) :
    cZ P ⟨d',.makeFunc (.func f) #[] #[x],ty,ps,af,g⟩ (bh A D l).eval w (.func (.func f) #[] #[v]):=by
  simp[cZ,execOp,cC hx,Instr.makeFunc]
end
def z16:List UInt8:=List.replicate 16 0
def jj (b:Ly) (c i k j:Nat):bY :=
  {eN:=c,cw:=i,state:=(b.getD 16 0).toNat,cV:=if 0<k then(b.drop 24).take 16 else z16,dM:=if 1<k then(b.drop 40).take 16 else z16,ck:=if 2<k then(b.drop 56).take 16 else z16,seq:=if 3<k then(b.drop 72).take 16 else z16,
    n:=(List.range 21).map fun q=>if q<j then fR b (88+8*q)else 0,cT:=0,cW:=0,dr:=0}
def fp (b:Ly):bY:={jj b (at4 b 8) (at4 b 12) 4 21 with cT:=at4 b 256,cW:=at4 b 260,dr:=fR b 264}
theorem BL {b:Ly} {o:Nat} (h:o+16≤b.length):((b.drop o).take 16).length=16:=by simp;omega
theorem py {x:Ly} (h:x.length=16) (a c:List Value) (z:Ly):gh (a ++ (gD z ++ c)) a.length (x.map b8)=a ++ (gD x ++ c):=by
  unfold gh
  have B:(gD z).length=16:=rfl
  have A:(x.map b8).length=16:=by simp[h]
  rw[List.take_left,A,← List.append_assoc a,List.drop_left' (by simp[B]),← lg h,List.append_assoc]
theorem Z0 {b:Ly} {c i k:Nat} (hk:k<4) (hl:272≤b.length):gh (bY.cells (jj b c i k 0)) (3+k*16) (((b.drop (24+16*k)).take 16).map b8)=bY.cells (jj b c i (k+1) 0):=by
  have A:((b.drop (24+16*k)).take 16).length=16:=BL (by omega)
  rcases(show k=0∨k=1∨k=2∨k=3 by omega)with rfl|rfl|rfl|rfl
  · exact py A [.int .u32 c,.int .u32 i,.int .i64 (((b.getD 16 0).toNat:Nat):Int)] _ z16
  · exact py A ([.int .u32 c,.int .u32 i,.int .i64 (((b.getD 16 0).toNat:Nat):Int)] ++ gD ((b.drop 24).take 16)) _ z16
  · exact py A ([.int .u32 c,.int .u32 i,.int .i64 (((b.getD 16 0).toNat:Nat):Int)] ++ gD ((b.drop 24).take 16) ++ gD ((b.drop 40).take 16)) _ z16
  exact py A ([.int .u32 c,.int .u32 i,.int .i64 (((b.getD 16 0).toNat:Nat):Int)] ++ gD ((b.drop 24).take 16) ++ gD ((b.drop 40).take 16) ++ gD ((b.drop 56).take 16)) _ z16
theorem Zu {h:bY} {j v:Nat} (hn:h.n.length=21) (hj:j<21):(bY.cells h).set (67+j) (.int .u64 v)=bY.cells {h with n:=h.n.set j v}:=by
  have e:∀(m:List Nat) (t:bY),t.n=m→bY.cells t=([(.int .u32 t.eN)] ++ ([(.int .u32 t.cw)] ++ ([(.int .i64 t.state)] ++ ((gD t.cV) ++ ((gD t.dM) ++ ((gD t.ck) ++ (gD t.seq))))))) ++ (oe m ++ ([(.int .u32 t.cT)] ++ ([(.int .u32 t.cW)] ++ [(.int .u64 t.dr)]))):=by
    intro m t C;subst C;simp only[bY.cells,List.append_assoc]
  rw[e h.n h q,e (h.n.set j v) {h with n:=h.n.set j v} q,Oc hn hj]
  have B:([(.int .u32 h.eN)] ++ ([(.int .u32 h.cw)] ++ ([(.int .i64 h.state)] ++ ((gD h.cV) ++ ((gD h.dM) ++ ((gD h.ck) ++ (gD h.seq)))))):List Value).length=67:=rfl
  have A:(oe h.n).length=21:=rfl
  rw[List.set_append_right _ _ (by omega),B,Nat.add_sub_cancel_left,List.set_append_left _ _ (by omega)]
theorem aex {b:Ly} {j:Nat} (hj:j<21):((List.range 21).map fun q=>if q<j then fR b (88+8*q)else 0).set j (fR b (88+8*j))=(List.range 21).map fun q=>if q<j+1 then fR b (88+8*q)else 0:=by
  apply List.ext_getElem
  · simp
  intro q A B
  simp at A
  by_cases h:q=j
  · subst h;simp
  rw[List.getElem_set_ne (Ne.symm h)]
  simp only[List.getElem_map,List.getElem_range]
  by_cases h3:q<j
  · rw[if_pos h3,if_pos (by omega)]
  rw[if_neg h3,if_neg (by omega)]
theorem UB {b:Ly} {c i j:Nat} (hj:j<21):(bY.cells (jj b c i 4 j)).set (67+j) (.int .u64 ((fR b (88+8*j):Nat):Int))=bY.cells (jj b c i 4 (j+1)):=by
  rw[Zu (by simp[jj]) hj]
  unfold jj
  simp only[aex hj]
theorem vJ {b:Ly} (h:272≤b.length):bY.ok (fp b):=by
  refine⟨wC _ _,wC _ _,?_,BL (by omega),BL (by omega),BL (by omega),BL (by omega),⟨by simp[fp,jj],?_⟩,wC _ _,wC _ _,MY _ _⟩
  · have:=UInt8.toNat_lt (b.getD 16 0);show(b.getD 16 0).toNat<_;omega
  intro y A
  simp only[fp,jj,List.mem_map,List.mem_range]at A
  obtain⟨q,B,rfl⟩:=A
  rw[if_pos B];exact MY _ _
def ptrs (b o sz:Nat) (n:Nat):List Value:=(List.range n).map fun k=>.pointer (some ⟨b,o+k*sz,none⟩)
theorem Lr {b o sz n k:Nat} (h:k<n):(ptrs b o sz n)[k]? = some (.pointer (some ⟨b,o+k*sz,none⟩)):=by
  simp[ptrs,h]
end Go.Wk
namespace Go.Wk
open Go Go.RowKit
def andNot (a b:Nat):Nat:=(BitVec.ofNat 32 a &&& ~~~(BitVec.ofNat 32 b)).toNat
section
variable {P:Program} {n:Nat} {A:Fr n} {D:List Deferred} {l:List (Nat × Value)} {w:World} {d:Option Tmp} {ty:TypeId} {ps:String} {af:Array Edge} {g:Option (Nat × Bool)}
theorem EF {x y:Operand} {t u:TypeId} {a b:Nat} (L:Nat) (hL:lim .u32=L) (hk:IntKind.u32.signed=false) (hx:ev n l x=some (.int .u32 (a:Int))) (hy:ev n l y=some (.int .u32 (b:Int))) (h:a<L∧b<L) :
    cZ P ⟨d,.binOp .andNot t x y u,ty,ps,af,g⟩ (bh A D l).eval w (.int .u32 ((andNot a b:Nat):Int)):=(aaK hx hy).j9 (by
  unfold bits andNot
  simp only[BitVec.ofInt_natCast]
  exact wrapN .u32 _ (show(BitVec.ofNat 32 a &&& ~~~(BitVec.ofNat 32 b)).toNat<4294967296 from(BitVec.ofNat 32 a &&& ~~~(BitVec.ofNat 32 b)).isLt))
end
def hz0:bY:={eN:=0,cw:=0,state:=0,cV:=pu,dM:=pu,ck:=pu,seq:=pu,n:=List.replicate 21 0,cT:=0,cW:=0,dr:=0}
def pP:List UInt8:=[76,80,75,83,72,72,82,72]
def nP (b p:Ly):Bool:=if p.length≤b.length then decide (b.take p.length=p)else false
def qK (h:bY):Nat × Bool:=if(h.n.getD 0 0+h.n.getD 1 0)%18446744073709551616<h.n.getD 0 0 then(0,false)else((h.n.getD 0 0+h.n.getD 1 0)%18446744073709551616,true)
def kD (h:bY) (at_ size end_:Nat):Nat :=
  if at_%8≠0 then 3
  else if size=0∨size%16≠0 then 5
  else if at_<h.n.getD 0 0∨at_-h.n.getD 0 0<16∨end_<at_∨end_-at_<size then 2 else 0
def nY (h:bY) (len:Nat):Nat :=
  if andNot h.cw 4≠0 then 7
  else if 2<h.state then 8
  else if h.n.getD 0 0<272∨h.n.getD 0 0%8≠0∨h.n.getD 1 0%8≠0 then 5
  else if(qK h).2=false∨len<(qK h).1 then 2
  else if kD h (h.n.getD 2 0) (h.n.getD 3 0) (qK h).1≠0 then kD h (h.n.getD 2 0) (h.n.getD 3 0) (qK h).1
  else kD h (h.n.getD 4 0) (h.n.getD 5 0) (qK h).1
def iP (b:Ly):bY × Nat :=
  if b.length<272 then(hz0,22)
  else if nP b pP=false then(hz0,6)
  else if nY (fp b) b.length≠0 then(hz0,nY (fp b) b.length)else(fp b,0)
theorem kK {h:bY} {len r:Nat} {s:Bool} (he:qK h=(r,s)):nY h len=(if andNot h.cw 4≠0 then 7 else if 2<h.state then 8 else if h.n.getD 0 0<272∨h.n.getD 0 0%8≠0∨h.n.getD 1 0%8≠0 then 5
    else if s=false∨len<r then 2 else if kD h (h.n.getD 2 0) (h.n.getD 3 0) r≠0 then kD h (h.n.getD 2 0) (h.n.getD 3 0) r else kD h (h.n.getD 4 0) (h.n.getD 5 0) r):=by
  unfold nY;rw[he]
theorem lK {b:Ly} {h:bY} {p:Bool} {c:Nat} (h1:¬b.length<272) (h2:nP b [76,80,75,83,72,72,82,72]=p) (h3:¬p=false) (h4:fp b=h) (h5:nY h b.length=c) (h6:c≠0):iP b=(hz0,c):=by
  subst h4;subst h5
  unfold iP;rw[if_neg h1,if_neg (by rw[show pP=[76,80,75,83,72,72,82,72]from rfl,h2];exact h3),if_pos h6]
theorem LP {b:Ly} {h:bY} {p:Bool} (h1:¬b.length<272) (h2:nP b [76,80,75,83,72,72,82,72]=p) (h3:¬p=false) (h4:fp b=h) (h5:nY h b.length=0):iP b=(h,0):=by
  subst h4
  unfold iP;rw[if_neg h1,if_neg (by rw[show pP=[76,80,75,83,72,72,82,72]from rfl,h2];exact h3),if_neg (by omega)]
theorem xX {b:Ly} (h:b.length<272):iP b=(hz0,22):=by unfold iP;rw[if_pos h]
theorem uI {b:Ly} (h1:¬b.length<272) (h2:nP b [76,80,75,83,72,72,82,72]=false):iP b=(hz0,6):=by unfold iP;rw[if_neg h1,if_pos (show nP b pP=false from h2)]
def Po {α:Type} (T:Dt α) (ty:TypeId) (w:World) (Q:Nat→Prop) (v:Value):Option α→Prop
  | none=>v = .pointer none
  | some x=>Pt T ty w Q v x
section
variable {α:Type} {T:Dt α} {ty:TypeId} {w w':World} {Q Q':Nat→Prop} {v:Value} {ox:Option α}
variable {P:Program} {n:Nat} {A:Fr n} {D:List Deferred} {l:List (Nat × Value)} {d:Option Tmp} {ty2:TypeId} {ps:String} {af:Array Edge} {g:Option (Nat × Bool)}
end
def jw (b:Ly):Option fE × Nat:=if(iP b).2≠0 then(none,(iP b).2)else(some {b:=b.take (qK (iP b).1).1,h:=(iP b).1},0)
theorem sZ {b:Ly} {h:bY} (hr:iP b=(h,0)):272≤b.length∧fp b=h∧nY h b.length=0:=by
  unfold iP at hr
  split at hr
  · have:=congrArg Prod.snd hr;simp at this
  rename_i h1
  split at hr
  · have:=congrArg Prod.snd hr;simp at this
  split at hr
  · rename_i h2;have:=congrArg Prod.snd hr;exact absurd this h2
  rename_i h2
  have e:=congrArg Prod.fst hr
  simp only at e
  subst e
  exact⟨by omega,q,by omega⟩
theorem BG {b:Ly} {h:bY} {e:Nat} {s:Bool} (hr:iP b=(h,0)) (he:qK h=(e,s)):e≤b.length∧s=true:=by
  obtain⟨_,_,A⟩:=sZ hr
  rw[kK he]at A
  split at A
  · omega
  split at A
  · omega
  split at A
  · omega
  split at A
  · omega
  rename_i h4;rw[not_or]at h4
  exact⟨by omega,by simpa using h4.1⟩
theorem DZ {b:Ly} {x:Option fE} (h:jw b=(x,0)):∃y,x=some y∧bY.ok y.h∧y.b.length≤b.length:=by
  unfold jw at h
  split at h
  · rename_i h1;exact absurd (congrArg Prod.snd h) h1
  rename_i h1
  have C:iP b=((iP b).1,0):=by rw[← Classical.not_not.1 h1]
  obtain⟨A,B,_⟩:=sZ C
  exact⟨_,(congrArg Prod.fst h).symm,by rw[← B];exact vJ A,by simp;omega⟩
end Go.Wk
namespace Go.Wk
open Go Go.RowKit
theorem Ow.lsB {e:TypeId} {w w':World} {Q Q':Nat→Prop} {v:Value} {xs:Ly} (h:Ow fe e (cB [] w) w' Q' v xs) (uQ:Up w Q):Ls fe w' Q v xs :=
  Ls.of_by h.read.by fun b hb _=>cB.up uQ b (h.2 b hb).1
theorem FR (s:Sq):s.config.1.aQ≤10∧s.config.1.aP≤10:=by
  rcases h1:s.dD 5 with⟨a,E⟩
  rcases h2:E.dD 5 with⟨b,F⟩
  rcases h3:F.dD 5 with⟨c,C⟩
  rcases h4:C.dD 7 with⟨d,D⟩
  rcases h5:D.dD 4 with⟨e,G⟩
  rcases h6:G.dD 2 with⟨f,H⟩
  have A:=C.jS 7
  have B:=D.jS 4
  rw[h4]at A;rw[h5]at B
  simp only[Sq.config,h1,h2,h3,h4,h5,h6]
  simp only at A B
  omega
end Go.Wk
namespace Go.Wk
open Go Go.RowKit
theorem oF {l:List Nat} {i v:Nat} (h:i<l.length):(l.set i v).getD i 0=v:=by simp[List.getD,h]
def pn (z:Mk) (n seq cF mono e:Nat) (ck:Ly):Mk :=
  let m7:=if n=0 then(z.dW 10 seq).dW 12 cF else z
  let m8:=m7.dW 8 ((m7.dD 8+1)%18446744073709551616)
  let m9:=((m8.dW 9 seq).dW 13 cF).dW 14 mono
  {m9 with h:={m9.h with ck:=ck,dr:=e}}
theorem wI (z:Mk) (n seq cF mono e:Nat) (ck:Ly):(pn z n seq cF mono e ck).b=z.b∧(pn z n seq cF mono e ck).c=z.c∧(pn z n seq cF mono e ck).ai=z.ai∧(pn z n seq cF mono e ck).aj=z.aj∧(pn z n seq cF mono e ck).main=z.main ∧
    (pn z n seq cF mono e ck).h.n.getD 2 0=z.h.n.getD 2 0∧(pn z n seq cF mono e ck).h.n.getD 4 0=z.h.n.getD 4 0∧(pn z n seq cF mono e ck).h.n.length=z.h.n.length ∧
    (z.h.n.length=20→(pn z n seq cF mono e ck).n8=(z.n8+1)%18446744073709551616∧(pn z n seq cF mono e ck).dD 9=seq):=by
  unfold pn
  simp only
  generalize hm7:(if n=0 then(z.dW 10 seq).dW 12 cF else z)=m7
  have A:m7.b=z.b∧m7.c=z.c∧m7.ai=z.ai∧m7.aj=z.aj∧m7.main=z.main∧m7.h.n.getD 8 0=z.h.n.getD 8 0∧m7.h.n.getD 2 0=z.h.n.getD 2 0∧m7.h.n.getD 4 0=z.h.n.getD 4 0∧m7.h.n.length=z.h.n.length:=by
    subst hm7
    split
    · exact⟨q,q,q,q,q,(cg (by decide)).trans (cg (by decide)),(cg (by decide)).trans (cg (by decide)),(cg (by decide)).trans (cg (by decide)),by simp[Mk.dW]⟩
    · exact⟨q,q,q,q,q,q,q,q,q⟩
  obtain⟨C,D,E,F,G,H,I,J,K⟩:=A
  clear hm7
  refine⟨C,D,E,F,G,?_,?_,?_,fun B=>⟨?_,?_⟩⟩
  · rw[← I]
    exact(cg (by decide)).trans ((cg (by decide)).trans ((cg (by decide)).trans (cg (by decide))))
  · rw[← J]
    exact(cg (by decide)).trans ((cg (by decide)).trans ((cg (by decide)).trans (cg (by decide))))
  · rw[← K];simp[Mk.dW]
  · have e:m7.dD 8=z.n8:=H
    rw[e]
    exact(cg (by decide)).trans ((cg (by decide)).trans ((cg (by decide)).trans (oF (by omega))))
  exact(cg (by decide)).trans ((cg (by decide)).trans (oF (by simp[Mk.dW];omega)))
theorem wB {m:Mk} (h:uN m) {raw:List Pr} {cF mono:Nat} {ck:Ly} (hb:ck.length=16) (h20:(m.append raw cF mono ck).2.2.h.n.length=20):uN (m.append raw cF mono ck).2.2:=by
  rcases hl:kE raw with⟨l,c⟩
  by_cases h2:c≠0
  · have e:m.append raw cF mono ck=(0,c,m):=by unfold Mk.append;simp only[hl];rw[if_pos h2]
    rw[e];exact h
  by_cases h3:m.dD 9=18446744073709551615
  · have e:m.append raw cF mono ck=(0,1,m):=by unfold Mk.append;simp only[hl];rw[if_neg h2,if_pos h3]
    rw[e];exact h
  obtain⟨w,ll⟩:=vt hl
  have D:=wG l m [] [] 0 (rR h) w
  rcases hd:ir l m [] []with⟨ps,M,x⟩
  rw[hd,Nat.zero_add]at D
  simp only at D
  have s1:=h.small
  have s4:=h.nb
  have d1:=D.app.ge
  have d2:=D.app.le
  have d5:=D.len.1
  have Ad:=D.app.n8
  generalize hE:({seq:=(x.dD 9+1)%18446744073709551616,cF:=cF,mono:=mono,ck:=ck,xor:=mQ 0 ps,aH:=j7 x M}:gU)=E
  have eb:E.ck.length=16:=by subst hE;exact hb
  have ei:E.aH.length=M.length:=by subst hE;simp[j7]
  have el:=nA E eb
  have C:=zi (L:=400) (o:=er E) D.app (by omega)
  have d:=(iN x (er E)).2.1
  have S:=(eO x (er E)).2.2.2
  have O:=(eO x (er E)).2.1
  rcases ho:x.d9 (er E)with⟨e,B⟩
  rw[ho]at C d S O
  simp only at C d S O
  have N:B.h.n.getD 8 0=m.n8:=C.n8
  have Z:jF B.b.length B.main (B.dD 8):=by
    rw[show B.dD 8=m.n8 from N,S,D.main];exact oZ h.main C.ge
  have K:=vr B B.main (B.dD 8) 176 e Z
  have G:=zh (src:=176) (gN:=e) C Z
  rcases hk:B.link B.main (B.dD 8) 176 e with⟨a,t,P⟩
  rw[hk]at K G
  simp only at K G
  generalize hY:(let m4:=({P with main:=a}:Mk).dW 11 (a.getD 0 0);({m4 with h:={m4.h with cT:=jK a%4294967296,cW:=t%4294967296}}:Mk))=Y
  have F:kJ m Y l.length (900*l.length+400+2100+0) 0:=by
    subst hY
    exact zk (e':=0) G q (cg (by decide)) (cg (by decide)) (cg (by decide)) q q (Nat.le_refl _) (Nat.le_refl _) (Nat.le_refl _)
  have u:Y.b=P.b:=by subst hY;rfl
  have X:Y.ai=P.ai:=by subst hY;rfl
  have v:Y.main=a:=by subst hY;rfl
  obtain⟨A,zm,zd⟩:=zK (en:=e) M Y _ _ F (fun i T=>by rw[X,K.ai,O];exact D.idx i T)
  have y8:Y.n8=m.n8:=F.n8
  have Q:=(zK (en:=e) M Y 0 0 ⟨F.fit,q,q,by rw[y8];exact F.chains,Nat.le_add_right _ 0,Nat.le_add_right _ 0,Nat.le_refl _,Nat.le_refl _⟩ (fun i T=>by rw[X,K.ai,O];exact D.idx i T)).1
  have U:=kL (cF:=cF) (mono:=mono) (ck:=ck) hl h2 h3 hd (by rw[hE];exact ho) hk (z:=kO e M Y) (by rw[hY])
  generalize kO e M Y=z at *
  replace U:m.append raw cF mono ck=if z.c.cK<z.b.length then(0,15,m)else((x.dD 9+1)%18446744073709551616,0,pn z (B.dD 8) ((x.dD 9+1)%18446744073709551616) cF mono e ck):=U
  rw[U]at h20 ⊢
  split at h20
  · rename_i hm
    rw[if_pos hm];exact h
  rename_i hm
  rw[if_neg hm]
  have q1:=A.ge
  have q2:=A.le
  have q3:=A.nd
  have q4:=A.nf
  have j:=A.c
  have z8:z.n8=m.n8:=A.n8
  have H:=h.cK
  have r1:=h.nd
  have r2:=h.nf
  have g3:=K.ge
  have y:P.b.length≤z.b.length:=by have h:=Q.ge;rw[u]at h;exact h
  obtain⟨J,V,W,g,kz5,p,r,kl,kz8⟩:=wI z (B.dD 8) ((x.dD 9+1)%18446744073709551616) cF mono e ck
  simp only at h20 ⊢
  generalize pn z (B.dD 8) ((x.dD 9+1)%18446744073709551616) cF mono e ck=R at *
  have I:=(kz8 (by omega)).1
  rw[z8,Nat.mod_eq_of_lt (by omega)]at I
  refine⟨po A.fit ⟨by rw[V],by rw[V],p,r,by rw[J];exact Nat.le_refl _⟩ (fun k hk=>.inl (W ▸ hk)) (fun k hk=>.inl (g ▸ hk)),?_,?_,?_,?_,?_,?_,?_,?_⟩
  · rw[I,J,kz5,zm,v]
    have f:=K.chain
    rw[show B.dD 8=m.n8 from N]at f
    exact oZ f y
  · intro k hk
    rw[W]at hk
    obtain⟨u1,u2,u3,u4⟩:=A.chains k hk
    rw[J,I]
    exact⟨u1,u2,u3,by omega⟩
  · rw[W,I];omega
  · rw[g,I];omega
  · rw[J,I];omega
  · rw[J];rw[j]at hm;omega
  · rw[V,j];exact H
  rw[J];have:=h.hd;omega
theorem AH {c:nq} {t:Nat} (h:c.aQ≤10∧c.aP≤10) (h1:1≤c.aQ∧1≤c.aP) (h2:c.cK≤40000):uN (jd c t):=by
  have D:=(mH 4 (List.replicate c.aQ {first:=0,tail:=0})).2 (.inl q)
  have E:=(mH 5 (List.replicate c.aP {first:=0,tail:=0})).2 (.inr q)
  have e:(jd c t).b=List.replicate 272 0 ++ eL 4 (List.replicate c.aQ {first:=0,tail:=0}) ++ eL 5 (List.replicate c.aP {first:=0,tail:=0}):=rfl
  have A:=congrArg List.length e
  simp only[List.length_append,List.length_replicate]at D E A
  have B:(jd c t).n8=0:=rfl
  have C:(jd c t).ai=[]:=rfl
  have F:(jd c t).aj=[]:=rfl
  refine⟨⟨h1.1,by show c.aQ≤64;omega,h1.2,by show c.aP≤64;omega,?_,?_,(fun k hk=>by rw[C]at hk;simp at hk),(fun k hk=>by rw[F]at hk;simp at hk)⟩,by rw[B];exact chain_nil _,(fun k hk=>by rw[C]at hk;simp at hk),by rw[B];exact Nat.le_refl _,by rw[B];exact Nat.le_refl _,by omega,by omega,h2,by omega⟩
  · have:(jd c t).h.n.getD 2 0=288:=rfl
    rw[this,A];show 288+16*c.aQ≤_;omega
  have:(jd c t).h.n.getD 4 0=(List.replicate 272 (0:UInt8) ++ eL 4 (List.replicate c.aQ {first:=0,tail:=0})).length+16:=rfl
  rw[this,A,List.length_append,List.length_replicate];show _+16*c.aP≤_;omega
theorem wF (s:Sq):(s.config.1.aQ≤10∧s.config.1.aP≤10)∧(1≤s.config.1.aQ∧1≤s.config.1.aP)∧s.config.1.cK≤40000:=by
  refine⟨FR s,?_⟩
  rcases h1:s.dD 5 with⟨a,A⟩
  rcases h2:A.dD 5 with⟨b,B⟩
  rcases h3:B.dD 5 with⟨c,C⟩
  rcases h4:C.dD 7 with⟨d,D⟩
  rcases h5:D.dD 4 with⟨e,E⟩
  rcases h6:E.dD 2 with⟨f,F⟩
  simp only[Sq.config,h1,h2,h3,h4,h5,h6]
  omega
theorem WC (s:Sq) (n:Nat):(∀q∈(s.record n).1.aj,BD q)∧(s.record n).1.aj.length≤16:=by
  rcases h1:s.pairs 4 with⟨A,B⟩
  rcases h2:B.dD 40 with⟨a,C⟩
  rcases h3:C.dD 9 with⟨b,D⟩
  rcases h4:D.dD 3 with⟨c,E⟩
  simp only[Sq.record,h1,h2,h3,h4]
  exact vt (show kE A=((kE A).1,(kE A).2)from rfl)
theorem xZ (s:Sq) (n:Nat):(s.record n).1.ck.length=16:=by
  rcases h1:s.pairs 4 with⟨D,A⟩
  rcases h2:A.dD 40 with⟨a,B⟩
  rcases h3:B.dD 9 with⟨b,C⟩
  rcases h4:C.dD 3 with⟨c,E⟩
  simp only[Sq.record,h1,h2,h3,h4]
  simp[idF]
theorem AE {cK:Nat} {s:Sq} {m:Mk} {rs:List Rec} (h:¬(rs.length<cK∧s.bX<s.l.length)):jR (cK-rs.length) s m rs=(m,rs,s):=by
  by_cases h1:rs.length<cK
  · obtain⟨n,B⟩:∃n,cK-rs.length=n+1:=⟨cK-rs.length-1,by omega⟩
    rw[B]
    show(if s.bX<s.l.length then _ else(m,rs,s))=_
    rw[if_neg (fun A=>h ⟨h1,A⟩)]
  rw[show cK-rs.length=0 by omega];rfl
theorem UE {cK c e:Nat} {s s1:Sq} {m m1:Mk} {rs:List Rec} {r:Rec} (h:rs.length<cK) (h2:s.bX<s.l.length) (hr:s.record ((m.dD 9+1)%18446744073709551616)=(r,s1)) (ha:m.append r.aj r.cF r.mono r.ck=(e,c,m1)) (hc:c≠0) :
    jR (cK-rs.length) s m rs=(m1,rs,s1):=by
  obtain⟨n,A⟩:∃n,cK-rs.length=n+1:=⟨cK-rs.length-1,by omega⟩
  rw[A]
  unfold jR
  rw[if_pos h2]
  simp only[hr,ha]
  rw[if_pos hc]
theorem UF {cK c e:Nat} {s s1:Sq} {m m1:Mk} {rs:List Rec} {r:Rec} (h:rs.length<cK) (h2:s.bX<s.l.length) (hr:s.record ((m.dD 9+1)%18446744073709551616)=(r,s1)) (ha:m.append r.aj r.cF r.mono r.ck=(e,c,m1)) (hc:¬c≠0) :
    jR (cK-rs.length) s m rs=jR (cK-(rs ++ [r]).length) s1 m1 (rs ++ [r]):=by
  obtain⟨n,A⟩:∃n,cK-rs.length=n+1:=⟨cK-rs.length-1,by omega⟩
  rw[A]
  rw[jR,if_pos h2]
  simp only[hr,ha]
  rw[if_neg hc,show cK-(rs ++ [r]).length=n by simp;omega]
theorem qq (m:Mk) (o:Ly):(m.d9 o).2.h.n.length=m.h.n.length:=by simp[Mk.d9,Mk.dW]
theorem QX (m:Mk) (l:List bQ) (t p s:Nat):(m.hang l t p s).2.h=m.h:=by rw[(yJ m l t p s).1]
theorem ZQ (m:Mk) (x:Ly):(m.field x).2.h.n.length=m.h.n.length:=by
  unfold Mk.field
  split
  · rfl
  simp only
  have B:=qq m (gR {dY:=dS m.c.dx m.c.cV x,dc:=0,dat:=0,aG:=x})
  generalize m.d9 (gR {dY:=dS m.c.dx m.c.cV x,dc:=0,dat:=0,aG:=x})=r at *
  obtain⟨p,A⟩:=r
  simp only at B ⊢
  have C:=QX A A.aj (A.dD 4) p (dS m.c.dx m.c.cV x%A.c.aP)
  generalize A.hang A.aj (A.dD 4) p (dS m.c.dx m.c.cV x%A.c.aP)=r at *
  obtain⟨n,D⟩:=r
  simp only at C ⊢
  simp only[Mk.dW,List.length_set,C]
  exact B
theorem acs (m:Mk) (x:Pr):(m.data x).2.h.n.length=m.h.n.length:=by
  unfold Mk.data
  split
  · rfl
  simp only
  have C:=qq m (iH {dY:=dS m.c.dx m.c.cV (aG x),dc:=0,ec:=0,entry:=0,array:=0,cr:=0,aG:=aG x})
  generalize m.d9 (iH {dY:=dS m.c.dx m.c.cV (aG x),dc:=0,ec:=0,entry:=0,array:=0,cr:=0,aG:=aG x})=r at *
  obtain⟨p,A⟩:=r
  simp only at C ⊢
  have D:=QX A A.ai (A.dD 2) p (dS m.c.dx m.c.cV (aG x)%A.c.aQ)
  generalize A.hang A.ai (A.dD 2) p (dS m.c.dx m.c.cV (aG x)%A.c.aQ)=r at *
  obtain⟨n,B⟩:=r
  simp only at D ⊢
  generalize hx5:({(B.dW 19 (max (B.dD 19) n)).dW 15 (((B.dW 19 (max (B.dD 19) n)).dD 15+1)%18446744073709551616)with ai:=((B.dW 19 (max (B.dD 19) n)).dW 15 (((B.dW 19 (max (B.dD 19) n)).dD 15+1)%18446744073709551616)).ai ++ [({cM:=aG x,bX:=p,dI:=dS m.c.dx m.c.cV (aG x)%A.c.aQ,cr:=0,bg:=[]}:bQ)]}:Mk)=m5
  have E:m5.h.n.length=m.h.n.length:=by subst hx5;simp only[Mk.dW,List.length_set,D];exact C
  have F:=ZQ m5 x.name
  generalize m5.field x.name=r at *
  obtain⟨k,G⟩:=r
  exact F.trans E
theorem xf:∀(l:List Pr) (m:Mk) (ps:List (List UInt8)) (od:List Nat),(ir l m ps od).2.2.h.n.length=m.h.n.length
  | [],_,_,_=>rfl
  | x :: r,m,ps,od=>(xf r _ _ _).trans (acs m x)
theorem GN (m:Mk) (a:List Nat) (n src gN:Nat):(m.link a n src gN).2.2.h.n.length=m.h.n.length:=by
  unfold Mk.link
  generalize fq a 0 0 0=r
  obtain⟨A,D⟩:=r
  simp only
  split
  · have B:=qq m (fI {next:=0,aH:=List.replicate (eu (a.length:Int)) 0})
    generalize m.d9 (fI {next:=0,aH:=List.replicate (eu (a.length:Int)) 0})=r at *
    obtain⟨p,C⟩:=r
    simp only at B ⊢
    split
    · show(C.dW 18 _).h.n.length=_
      simp only[Mk.dW,List.length_set];exact B
    show(C.dW 18 _).h.n.length=_
    simp only[Mk.dW,List.length_set];exact B
  rfl
theorem AI (e:Nat):∀(od:List Nat) (m:Mk),(kO e od m).h.n.length=m.h.n.length
  | [],_=>rfl
  | i :: r,m=>by
    rw[pq,AI e r]
    unfold kN
    simp only
    split
    · rfl
    · exact GN m _ _ _ _
theorem DR (m:Mk) (raw:List Pr) (cF mono:Nat) (ck:Ly):(m.append raw cF mono ck).2.2.h.n.length=m.h.n.length:=by
  rcases hl:kE raw with⟨l,c⟩
  by_cases h2:c≠0
  · have e:m.append raw cF mono ck=(0,c,m):=by unfold Mk.append;simp only[hl];rw[if_pos h2]
    rw[e]
  by_cases h3:m.dD 9=18446744073709551615
  · have e:m.append raw cF mono ck=(0,1,m):=by unfold Mk.append;simp only[hl];rw[if_neg h2,if_pos h3]
    rw[e]
  have D:=xf l m [] []
  rcases hd:ir l m [] []with⟨I,C,x⟩
  rw[hd]at D
  have E:=qq x (er {seq:=(x.dD 9+1)%18446744073709551616,cF:=cF,mono:=mono,ck:=ck,xor:=mQ 0 I,aH:=j7 x C})
  rcases ho:x.d9 (er {seq:=(x.dD 9+1)%18446744073709551616,cF:=cF,mono:=mono,ck:=ck,xor:=mQ 0 I,aH:=j7 x C})with⟨e,A⟩
  rw[ho]at E
  have F:=GN A A.main (A.dD 8) 176 e
  rcases hk:A.link A.main (A.dD 8) 176 e with⟨a,t,H⟩
  rw[hk]at F
  simp only at D E F
  have B:m.append raw cF mono ck=_:=kL (cF:=cF) (mono:=mono) (ck:=ck) hl h2 h3 hd ho hk q
  have G:=AI e C (let m4:=({H with main:=a}:Mk).dW 11 (a.getD 0 0);{m4 with h:={m4.h with cT:=jK a%4294967296,cW:=t%4294967296}})
  generalize kO e C (let m4:=({H with main:=a}:Mk).dW 11 (a.getD 0 0);{m4 with h:={m4.h with cT:=jK a%4294967296,cW:=t%4294967296}})=z at B G
  replace B:m.append raw cF mono ck=if z.c.cK<z.b.length then(0,15,m)else((x.dD 9+1)%18446744073709551616,0,pn z (A.dD 8) ((x.dD 9+1)%18446744073709551616) cF mono e ck):=B
  rw[B]
  split
  · rfl
  show(pn _ _ _ _ _ _ _).h.n.length=_
  rw[(wI _ _ _ _ _ _ _).2.2.2.2.2.2.2.1,G]
  simp only[Mk.dW,List.length_set]
  omega
theorem DJ:∀(n:Nat) (s:Sq) (m:Mk) (rs:List Rec),uN m→m.h.n.length=20→uN (jR n s m rs).1∧(jR n s m rs).1.h.n.length=20
  | 0,_,_,_,h,h2=>⟨h,h2⟩
  | n+1,s,m,rs,h,h2=>by
    unfold jR
    split
    · rcases hr:s.record ((m.dD 9+1)%18446744073709551616)with⟨r,s1⟩
      have hb:r.ck.length=16:=by
        have:=xZ s ((m.dD 9+1)%18446744073709551616)
        rw[hr]at this;exact this
      have A:=DR m r.aj r.cF r.mono r.ck
      have B:=wB (raw:=r.aj) (cF:=r.cF) (mono:=r.mono) h hb (A.trans h2)
      rcases ha:m.append r.aj r.cF r.mono r.ck with⟨e,c,C⟩
      rw[ha]at A B
      simp only[ha]
      split
      · exact⟨B,A.trans h2⟩
      · exact DJ n s1 C _ B (A.trans h2)
    · exact⟨h,h2⟩
theorem KG {s s':Sq} {cK:Nat} {m:Mk} {rs:List Rec} (h:s.qp cK=(m,rs,s')):uN m∧m.h.n.length=20:=by
  have A:=wF s
  rcases h1:s.config with⟨c,B⟩
  rcases h2:B.dD 6 with⟨t,C⟩
  rw[h1]at A
  simp only[Sq.qp,h1,h2]at h
  have:=DJ cK C (jd c t) [] (AH A.1 A.2.1 A.2.2) q
  rw[h]at this
  exact this
theorem NF {m:Mk} (ok:bW.ok m.h) (hb:m.b.length≤40000):(mD m 1).length≤100000:=by
  unfold mD
  rw[List.length_append,wR {m.h with state:=1,n:=m.h.n.set 1 (m.b.length-272)} m.depth ⟨ok.1,ok.2.1,(by decide:(1:Nat)<9223372036854775808),ok.2.2.2.1,ok.2.2.2.2.1,ok.2.2.2.2.2.1,ok.2.2.2.2.2.2.1,nH ok.2.2.2.2.2.2.2.1 (by omega),ok.2.2.2.2.2.2.2.2⟩,List.length_drop]
  omega
end Go.Wk
namespace Go.Wk
open Go Go.RowKit
section
variable {P:Program} {n:Nat} {A:Fr n} {D:List Deferred} {l:List (Nat × Value)} {w:World} {ops:Array Oper} {rest:List Oper} {Q:Exit→Act→World→Prop}
variable {d:Tmp} {op:Op} {ty:TypeId} {ps:String} {af:Array Edge}
theorem mv {x:Operand} {v:Value} (h:ev n l x=some v) (k:wpList P ops Q rest (bh A D ((d,v) :: l)) w):wpList P ops Q (⟨some d,.move x,ty,ps,af,none⟩ :: rest) (bh A D l) w:=st v (aU h) k
theorem dz {x:Operand} {v:Value} (h:ev n l x=some v) (k:wpList P ops Q rest (bh A D ((d,v) :: l)) w):wpList P ops Q (⟨some d,.assign x,ty,ps,af,none⟩ :: rest) (bh A D l) w:=st v (gg h) k
theorem nt {K:Act→World→Prop} {a:Act} (h:K a w):wpList P ops (Exit.then K Q) [] a w:=ax (ak h)
theorem mz {C:World→Prop} {QN:Act→World→Prop} {rest:List (Bool × Oper)} {v:Value} (hr:∀w',C w'→cZ P ⟨some d,op,ty,ps,af,none⟩ (bh A D l).eval w' v) (k:gq P ops C QN rest (bh A D ((d,v) :: l)) w):gq P ops C QN ((true,⟨some d,op,ty,ps,af,none⟩) :: rest) (bh A D l) w:=Go.Wk.m v hr k
theorem sk {j t:Nat} {o:Oper} {b want:Bool} (hb:b = !want) (k:wpList P ops Q rest (bh A D ((d,undef) :: l)) w) (ho:ops[j]? = some o:=by rfl) (ht:o.dst=some t:=by rfl) (hy:ev n l (.tmp t)=some (.bool b):=by rfl) :
    wpList P ops Q (⟨some d,op,ty,ps,af,some (j,want)⟩ :: rest) (bh A D l) w:=acX ho ht hy hb k
theorem sg {j t:Nat} {o:Oper} {b want:Bool} {v:Value} (hb:b=want) (hr:cZ P ⟨some d,op,ty,ps,af,some (j,want)⟩ (bh A D l).eval w v) (k:wpList P ops Q rest (bh A D ((d,v) :: l)) w) (ho:ops[j]? = some o:=by rfl) (ht:o.dst=some t:=by rfl) (hy:ev n l (.tmp t)=some (.bool b):=by rfl) :
    wpList P ops Q (⟨some d,op,ty,ps,af,some (j,want)⟩ :: rest) (bh A D l) w:=abm v ho ht hy hb hr k
theorem sf {x:Operand} {s:TypeId} {f b o off:Nat} (hx:ev n l x=some (.pointer (some ⟨b,o,none⟩))) (hf:bf P s f=some off) (k:wpList P ops Q rest (bh A D ((d,.pointer (some ⟨b,o+off,none⟩)) :: l)) w):wpList P ops Q (⟨some d,.fieldAddr s x f,ty,ps,af,none⟩ :: rest) (bh A D l) w:=st _ (aA hx hf) k
theorem sl {x:Operand} {t ty':TypeId} {b j:Nat} {cs:List Value} {u:Value} (hx:ev n l x=some (.pointer (some ⟨b,j,none⟩))) (hT:iG P t=true) (hB:cG w b cs ty') (hj:cs[j]? = some u) (k:wpList P ops Q rest (bh A D ((d,u) :: l)) w):wpList P ops Q (⟨some d,.load t x,ty,ps,af,none⟩ :: rest) (bh A D l) w:=st _ (ay hx hT hB hj) k
theorem sn {x:Operand} {p:Addr} (h:ev n l x=some (.pointer (some p))) (k:wpList P ops Q rest (bh A D ((d,.pointer (some p)) :: l)) w):wpList P ops Q (⟨some d,.nilCheck x,ty,ps,af,none⟩ :: rest) (bh A D l) w:=st _ (dn h) k
theorem se {x:Operand} {i:Nat} {vs:Array Value} {v:Value} (h:ev n l x=some (.tuple vs)) (hv:vs[i]? = some v) (k:wpList P ops Q rest (bh A D ((d,v) :: l)) w):wpList P ops Q (⟨some d,.extract x i,ty,ps,af,none⟩ :: rest) (bh A D l) w:=st _ (mY h hv) k
theorem sL {x:Operand} {v:Value} {m:Nat} {t e:TypeId} (hx:ev n l x=some v) (hT:P.underlying t=some (.slice e)) (hS:SD v m) (k:wpList P ops Q rest (bh A D ((d,.int .i64 m) :: l)) w):wpList P ops Q (⟨some d,.call {callee:=.builtin .len,args:=#[x],argTypes:=#[t]},ty,ps,af,none⟩ :: rest) (bh A D l) w:=st _ (jC hx hT hS) k
theorem mo {C:World→Prop} {QN:Act→World→Prop} {rest:List (Bool × Oper)} {x:Operand} {v:Value} (h:ev n l x=some v) (k:gq P ops C QN rest (bh A D ((d,v) :: l)) w):gq P ops C QN ((true,⟨some d,.move x,ty,ps,af,none⟩) :: rest) (bh A D l) w:=Go.Wk.m v (fun _ _=>aU h) k
theorem ns {id:Nat} {lo:List Oper} {y:Code} {a:Act} (h:wpList P lo.toArray (Exit.then (fun a w=>y.wp P Q a w) Q) lo a w):(Code.seq (.region id lo.toArray false) y).wp P Q a w:=aS (aR h)
theorem an {x:Operand} {v:Value} {K:Act→World→Prop} (h:ev n l x=some v) (k:K (bh A D ((d,v)::l)) w):wpList P ops (Exit.then K Q) [⟨some d,.assign x,ty,ps,af,none⟩] (bh A D l) w:=dz h (nt k)
theorem ar {x:Operand} {v:Value} {R:Exit→Act→World→Prop} (h:ev n l x=some v) (k:R .ret (bh A D ((d,v)::l)) w):wpList P ops (Exit.then (fun a w=>Code.ret.wp P R a w) Q) [⟨some d,.assign x,ty,ps,af,none⟩] (bh A D l) w:=dz h (nt (j8 k))
theorem m2 {x y:Operand} {v u:Value} {e:Tmp} {ty' ps' af'} (h:ev n l x=some v) (h2:ev n ((d,v)::l) y=some u) (k:wpList P ops Q rest (bh A D ((e,u)::(d,v)::l)) w):wpList P ops Q (⟨some d,.move x,ty,ps,af,none⟩::⟨some e,.move y,ty',ps',af',none⟩::rest) (bh A D l) w:=mv h (mv h2 k)
theorem nm {id:Nat} {lo:List Oper} {y:Code} {x:Operand} {v:Value} (h:ev n l x=some v) (k:wpList P (⟨some d,.move x,ty,ps,af,none⟩::lo).toArray (Exit.then (fun a w=>y.wp P Q a w) Q) lo (bh A D ((d,v)::l)) w):(Code.seq (.region id (⟨some d,.move x,ty,ps,af,none⟩::lo).toArray false) y).wp P Q (bh A D l) w:=ns (mv h k)
theorem rv {v:Value} {p:Value→Prop} (h:p v):∃u,Ending.returned v=.returned u∧p u:=⟨v,q,h⟩
theorem rA {d:Option Tmp} {g:Option (Nat × Bool)} {x y:Operand} {t u:TypeId} {a b:Nat} (hx:ev n l x=some (.int .i64 (a:Int))) (hy:ev n l y=some (.int .i64 (b:Int))) (h:a+b<9223372036854775808):cZ P ⟨d,.binOp .add t x y u,ty,ps,af,g⟩ (bh A D l).eval w (.int .i64 ((a+b:Nat):Int)):=fM 9223372036854775808 q hx hy h
theorem rS {d:Option Tmp} {g:Option (Nat × Bool)} {x y:Operand} {t u:TypeId} {a b:Nat} (hx:ev n l x=some (.int .i64 (a:Int))) (hy:ev n l y=some (.int .i64 (b:Int))) (h:b≤a∧a<9223372036854775808):cZ P ⟨d,.binOp .sub t x y u,ty,ps,af,g⟩ (bh A D l).eval w (.int .i64 ((a-b:Nat):Int)):=k9 9223372036854775808 q hx hy h
abbrev SN:Value:=.slice none 0 0
theorem tT {Q R S:Nat→Prop} (a:∀b,Q b→R b) (c:∀b,S b→Q b):∀b,S b→R b:=fun b h=>a b (c b h)
theorem sS {S:List Nat} {u w:World} {Q R T:Nat→Prop} (a:∀b,R b→b<w.heap.size→T b) (c:∀b,Q b→b<u.heap.size→R b) (M:Md S u w):∀b,Q b→b<u.heap.size→T b:=fun b h hl=>a b (c b h hl) (Nat.lt_of_lt_of_le hl M.size)
theorem nQ {Q R:Nat→Prop} {b:Nat} (h:¬Q b) (c:∀b,R b→Q b):¬R b:=fun x=>h (c _ x)
theorem rF {α:Type} {T:Dt α} {e:TypeId} {lo:Nat→Prop} {w:World} {Q:Nat→Prop} {v:Value} {xs:List α} (h:Ow T e lo w Q v xs):∀i∈(ah v).toList,lo i:=jb fun x hx=>(h.2 x hx).1
theorem rN {α:Type} {T:Dt α} {e:TypeId} {lo:Nat→Prop} {w:World} {Q:Nat→Prop} {v:Value} {xs:List α} (h:Ow T e lo w Q v xs):∀i∈(ah v).toList,¬Q i:=jb fun x hx=>(h.2 x hx).2
theorem hI {p:Nat→Prop} {b:Nat} (h:p b):∀x∈[b],p x:=by intro x hx;simp at hx;subst hx;exact h
end
end Go.Wk
namespace Go.Wk
open Go Go.RowKit
structure Stop where
  code:Nat
def Stop.cells (x:Stop):List Value :=
  [(.int .i64 x.code)]
structure fo where
  kind:Nat
  flags:Nat
  size:Nat
def fo.cells (x:fo):List Value :=
  [(.int .i64 x.kind)] ++ ([(.int .i64 x.flags)] ++ ([(.int .u64 x.size)]))
def fo.ok (x:fo):Prop:=x.kind<9223372036854775808∧x.flags<9223372036854775808∧x.size<18446744073709551616
theorem fo.one {x:fo}:(x.cells).all (fun u=>u.oneCell')=true:=(dh q (dh q q))
def XL:fo:={kind:=0,flags:=0,size:=0}
def lD (b:Ly) (p:Nat):Nat:=(b.getD p 0).toNat
theorem eT {b:Ly} {p:Nat} {x:UInt8} (h:b[p]? = some x):lD b p=x.toNat:=by simp[lD,List.getD,h]
theorem qI {b:Ly} {p v:Nat} {s:Bool} {i:Int} (h:oG b i 8=(v,s)) (hi:i=(p:Int)) (hb:p+8≤b.length):fR b p=v:=by
  subst hi;have A:=vf (k:=8) (.inr q) hb;rw[show((8:Nat):Int)=8 from rfl]at A;rw[A]at h;exact congrArg Prod.fst h
theorem CG (b:Ly) (p:Nat):lD b p<256:=UInt8.toNat_lt _
def dQ (b:Ly) (p:Nat):fo × Nat :=
  if p%8≠0 then(XL,3)
  else if b.length<p∨b.length-p<16 then(XL,2)
  else if lD b p<1∨7<lD b p then(XL,4)
  else if lD b (p+1)≠0 then(XL,7)
  else if fR b (p+8)<16 then(XL,5)
  else if b.length-p<fR b (p+8)then(XL,2)
  else({kind:=lD b p,flags:=0,size:=fR b (p+8)},0)
theorem JK {b:Ly} {p:Nat} (h:p%8≠0):dQ b p=(XL,3):=by unfold dQ;rw[if_pos h]
theorem ve {b:Ly} {p:Nat} (h:¬p%8≠0) (h2:b.length<p∨b.length-p<16):dQ b p=(XL,2):=by unfold dQ;rw[if_neg h,if_pos h2]
theorem qj {b:Ly} {p:Nat} {x y:UInt8} {z:Nat} {s:fo} (es:s={kind:=x.toNat,flags:=y.toNat,size:=z}) (h:¬p%8≠0) (h2:¬(b.length<p∨b.length-p<16)) (e1:lD b p=x.toNat) (e2:lD b (p+1)=y.toNat) (e3:fR b (p+8)=z) :
    dQ b p=if s.kind<1∨7<s.kind then(XL,4)else if s.flags≠0 then(XL,7)else if s.size<16 then(XL,5)else if b.length-p<s.size then(XL,2)else(s,0):=by
  subst es;unfold dQ;rw[if_neg h,if_neg h2,e1,e2,e3];by_cases hf:y.toNat=0
  · rw[hf]
  simp only[if_pos (show y.toNat≠0 from hf)]
theorem NA {b:Ly} {p:Nat} {f:fo} (h:dQ b p=(f,0)):16≤f.size∧p+f.size≤b.length∧f.kind<256∧f.flags=0:=by
  unfold dQ at h;have:=CG b p
  repeat' split at h
  all_goals first|(have:=congrArg Prod.snd h;simp at this;done)|skip
  have:=congrArg Prod.fst h;simp only at this;subst this;refine⟨?_,?_,?_,q⟩ <;> (simp only;omega)
def zv:iL:={dY:=0,dc:=0,ec:=0,entry:=0,array:=0,cr:=0,aG:=[]}
def uP:iE:={next:=0,aH:=[]}
def fW (b:Ly) (p n:Nat):List Nat:=(List.range n).map fun i=>fR b (p+8*i)
theorem mW (b:Ly) (p n:Nat):(fW b p n).length=n:=by simp[fW]
theorem pL (b:Ly) (p n:Nat):fW b p (n+1)=fW b p n ++ [fR b (p+8*n)]:=by simp[fW,List.range_succ]
theorem KM (b:Ly) (p n:Nat):fW b p (n+1)=fR b p :: fW b (p+8) n:=by
  induction n generalizing p with
  | zero=>simp[fW]
  | succ n ih =>
    rw[pL,ih,List.cons_append,pL,show p+8*(n+1)=p+8+8*n by omega]
def mJ (b:Ly) (p:Nat):iL × Nat :=
  if(dQ b p).2≠0 then(zv,(dQ b p).2)
  else if(dQ b p).1.kind≠1 then(zv,4)
  else if(dQ b p).1.size≤64 then(zv,5)
  else({dY:=fR b (p+16),dc:=fR b (p+24),ec:=fR b (p+32),entry:=fR b (p+40),array:=fR b (p+48),cr:=fR b (p+56),aG:=(b.drop (p+64)).take ((dQ b p).1.size-64)},0)
def kg (b:Ly) (p:Nat):iE × Nat :=
  if(dQ b p).2≠0 then(uP,(dQ b p).2)
  else if(dQ b p).1.kind≠6 then(uP,4)
  else if(dQ b p).1.size≤24∨((dQ b p).1.size-24)%8≠0 then(uP,5)
  else({next:=fR b (p+16),aH:=fW b (p+24) (((dQ b p).1.size-24)/8)},0)
def jZ (s:Nat) (b:Ly) (p:Nat):iL × Nat:=if p<s∨b.length≤p then(zv,2)else mJ b p
def jq (s:Nat) (b:Ly) (p:Nat):iE × Nat:=if p<s∨b.length≤p then(uP,2)else kg b p
def rV (s:Nat) (b:Ly) (p:Nat):Nat:=if p<s∨b.length≤p then 2 else 0
theorem kM {b:Ly} {p c:Nat} {f:fo} (h:dQ b p=(f,c)) (hc:¬c≠0):16≤f.size∧p+f.size≤b.length∧f.kind<256∧f.flags=0:=NA (by rw[h,Classical.not_not.1 hc])
def mR (b:Ly) (p kind ahead gN:Nat):List UInt8 × Nat :=
  if(dQ b p).2≠0 then([],(dQ b p).2)
  else if(dQ b p).1.kind≠kind then([],4)
  else if(dQ b p).1.size≤16+ahead∨((dQ b p).1.size-(16+ahead))%gN≠0 then([],5)
  else((b.take (p+(dQ b p).1.size)).drop (p+16),0)
theorem zq {b x:Ly} {p kind ahead gN c:Nat} (h:mR b p kind ahead gN=(x,c)) (hc:c=0):(dQ b p).2=0∧(dQ b p).1.kind=kind∧16+ahead<(dQ b p).1.size∧((dQ b p).1.size-(16+ahead))%gN=0∧x=(b.take (p+(dQ b p).1.size)).drop (p+16)∧x.length=(dQ b p).1.size-16∧p+(dQ b p).1.size≤b.length:=by
  subst hc;unfold mR at h
  split at h
  · have:=congrArg Prod.snd h;simp at this;contradiction
  rename_i h1
  have A:16≤(dQ b p).1.size∧p+(dQ b p).1.size≤b.length∧(dQ b p).1.kind<256∧(dQ b p).1.flags=0:=kM (f:=(dQ b p).1) (c:=(dQ b p).2) q h1
  split at h
  · have:=congrArg Prod.snd h;simp at this
  rename_i h2
  split at h
  · have:=congrArg Prod.snd h;simp at this
  rename_i h3
  rw[not_or]at h3;have e:=congrArg Prod.fst h;simp only at e;subst e;refine⟨by omega,by omega,by omega,by omega,q,?_,A.2.1⟩;simp only[List.length_drop,List.length_take];omega
theorem abF {b:Ly} {o e i:Nat} (h:i+8≤e-o) (he:e≤b.length):fR ((b.take e).drop o) i=fR b (o+i):=by
  unfold fR
  congr 1
  apply List.ext_getElem?;intro j;simp only[List.getElem?_take,List.getElem?_drop];by_cases hj:j<8
  · rw[if_pos hj,if_pos hj,if_pos (show o+(i+j)<e by omega),Nat.add_assoc]
  rw[if_neg hj,if_neg hj]
theorem AL {b:Ly} {o e n i:Nat} (h:i+8*n≤e-o) (he:e≤b.length):fW ((b.take e).drop o) i n=fW b (o+i) n:=by
  unfold fW
  apply List.map_congr_left;intro k hk;have:=List.mem_range.1 hk;rw[abF (by omega) he,Nat.add_assoc]
theorem KN {b:Ly} {l:List Nat} {i v:Nat} {s:Bool} (hl:l=fW b 0 (i/8)) (hi:i%8=0) (hb:i+8≤b.length) (h:oG b (i:Int) 8=(v,s)):l ++ [v]=fW b 0 ((i+8)/8):=by
  rw[show(i+8)/8=i/8+1 by omega,pL,hl,← qI h q hb]
  congr 3
  omega
theorem OP {b x:Ly} {p c:Nat} (h:mR b p 6 8 8=(x,c)) (hc:c≠0):kg b p=(uP,c):=by
  unfold mR at h;unfold kg
  split at h
  · rename_i h1;rw[if_pos h1,show(dQ b p).2=c from congrArg Prod.snd h]
  rename_i h1;rw[if_neg h1]
  split at h
  · rename_i h2;rw[if_pos h2,show 4=c from congrArg Prod.snd h]
  rename_i h2;rw[if_neg h2]
  split at h
  · rename_i h3;rw[if_pos (by simpa using h3),show 5=c from congrArg Prod.snd h]
  exact absurd (congrArg Prod.snd h).symm hc
theorem OQ {b x:Ly} {p c:Nat} {l:List Nat} (h:mR b p 6 8 8=(x,c)) (hc:¬c≠0) (hl:fW x 0 (x.length/8)=l):l.length=x.length/8∧1<l.length∧kg b p=({next:=l.getD 0 0,aH:=l.drop 1},0):=by
  obtain⟨E,F,G,H,A,B,C⟩:=zq h (Classical.not_not.1 hc)
  have e:l=fW b (p+16) (((dQ b p).1.size-16)/8):=by
    rw[← hl,B,A,AL (by omega) C]
  have D:((dQ b p).1.size-16)/8=((dQ b p).1.size-24)/8+1:=(by omega);refine⟨by rw[← hl,mW],by rw[e,mW];omega,?_⟩;unfold kg;rw[if_neg (by omega),if_neg (by omega),if_neg (by omega),e,D,KM]
  rfl
theorem adS {s p c:Nat} {b:Ly} (h:rV s b p=c) (hc:c≠0):(jq s b p).2=c:=by
  unfold rV at h;unfold jq
  split at h
  · rename_i h1;rw[if_pos h1];exact h
  exact absurd h.symm hc
theorem ug {s p c:Nat} {b:Ly} {x:iE} (h0:rV s b p=0) (h:kg b p=(x,c)):jq s b p=(x,c):=by
  unfold rV at h0;unfold jq
  split at h0
  · cases h0
  rename_i h1;rw[if_neg h1];exact h
theorem WA (b:Ly) (p:Nat) (h:(kg b p).2≠0):(kg b p).1=uP:=by
  unfold kg at h ⊢
  split
  · rfl
  split
  · rfl
  split
  · rfl
  rename_i h1 h2 h3;rw[if_neg h1,if_neg h2,if_neg h3]at h;exact absurd q h
theorem adT {s p c:Nat} {b:Ly} (h:(jq s b p).2=c) (hc:c≠0):jq s b p=(uP,c):=by
  refine Prod.ext ?_ h;rw[← h]at hc;unfold jq at hc ⊢
  split
  · rfl
  rename_i h1;rw[if_neg h1]at hc;exact WA b p hc
theorem adY {s p c:Nat} {b:Ly} (h:rV s b p=c) (hc:c≠0):(jZ s b p).2=c:=by
  unfold rV at h;unfold jZ
  split at h
  · rename_i h1;rw[if_pos h1];exact h
  exact absurd h.symm hc
theorem Y7 {s p c:Nat} {b:Ly} {x:iL} (h0:rV s b p=0) (h:mJ b p=(x,c)):jZ s b p=(x,c):=by
  unfold rV at h0;unfold jZ
  split at h0
  · cases h0
  rename_i h1;rw[if_neg h1];exact h
def mL (b:Ly) (p kind n:Nat):List Nat × List UInt8 × Nat :=
  if(dQ b p).2≠0 then([],[],(dQ b p).2)
  else if(dQ b p).1.kind≠kind then([],[],4)
  else if(dQ b p).1.size≤16+8*n then([],[],5)
  else(fW b (p+16) n,(b.drop (p+16+8*n)).take ((dQ b p).1.size-(16+8*n)),0)
theorem xY {b:Ly} {p n c:Nat} {f:fo} {l:List Nat} {kind:Nat} (h:dQ b p=(f,c)) (hc:¬c≠0) (h2:¬f.kind≠kind) (h3:¬f.size≤16+8*n) (hl:l=fW ((b.take (p+f.size)).drop (p+16)) 0 n):mL b p kind n=(l,((b.take (p+f.size)).drop (p+16)).drop (8*n),0):=by
  have A:=kM h hc;unfold mL;rw[h];simp only;rw[if_neg hc,if_neg h2,if_neg h3,hl,AL (by omega) A.2.1];refine Prod.ext q (Prod.ext ?_ q);simp only
  apply List.ext_getElem?;intro j;simp only[List.getElem?_take,List.getElem?_drop];by_cases hj:j<f.size-(16+8*n)
  · rw[if_pos hj,if_pos (by omega)];congr 1;omega
  rw[if_neg hj,if_neg (by omega)]
theorem GP {b:Ly} {l:List Nat} {i v:Nat} {s:Bool} (hl:l=fW b 0 i) (hb:8*i+8≤b.length) (h:oG b ((8*i:Nat):Int) 8=(v,s)):l ++ [v]=fW b 0 (i+1):=by
  rw[pL,hl,← qI h q hb,Nat.zero_add]
theorem ng {b x:Ly} {p c:Nat} {l:List Nat} (h:mL b p 1 6=(l,x,c)):(c≠0→mJ b p=(zv,c))∧(¬c≠0→l.length=6∧mJ b p=({dY:=l.getD 0 0,dc:=l.getD 1 0,ec:=l.getD 2 0,entry:=l.getD 3 0,array:=l.getD 4 0,cr:=l.getD 5 0,aG:=x},0)):=by
  unfold mL at h;unfold mJ
  split at h
  · rename_i h1
    simp only[Prod.mk.injEq]at h;refine⟨fun _=>by rw[if_pos h1,h.2.2],fun A=>absurd (h.2.2 ▸ h1) A⟩
  rename_i h1
  rw[if_neg h1]
  split at h
  · rename_i h2
    simp only[Prod.mk.injEq]at h;exact⟨fun _=>by rw[if_pos h2,h.2.2],fun A=>absurd (h.2.2 ▸ (by decide:(4:Nat)≠0)) A⟩
  rename_i h2
  rw[if_neg h2]
  split at h
  · rename_i h3
    simp only[Prod.mk.injEq]at h;exact⟨fun _=>by rw[if_pos (by omega),h.2.2],fun A=>absurd (h.2.2 ▸ (by decide:(5:Nat)≠0)) A⟩
  rename_i h3
  simp only[Prod.mk.injEq]at h;obtain⟨rfl,rfl,rfl⟩:=h;refine⟨fun A=>absurd q A,fun _=>⟨mW _ _ _,?_⟩⟩;rw[if_neg (by omega)];simp[fW,List.range_succ]
end Go.Wk
namespace Go.Wk
open Go Go.RowKit
theorem qv {b:Ly} {p n i v:Nat} (h:(fW b p n)[i]? = some v):v=fR b (p+8*i)∧i<n:=by
  unfold fW at h
  rw[List.getElem?_map]at h
  by_cases hi:i<n
  · rw[List.getElem?_range hi]at h
    exact⟨(Option.some.inj h).symm,hi⟩
  rw[List.getElem?_eq_none (by simpa using hi)]at h;cases h
def oH (b:Ly) (p n:Nat):List lI:=(List.range n).map fun i=>{bX:=fR b (p+16*i),dY:=fR b (p+16*i+8)}
theorem xP (b:Ly) (p n:Nat):(oH b p n).length=n:=by simp[oH]
theorem GA (b:Ly) (p n:Nat):oH b p (n+1)=oH b p n ++ [{bX:=fR b (p+16*n),dY:=fR b (p+16*n+8)}]:=by simp[oH,List.range_succ]
def vW:List lI→Bool
  | a :: b :: r=>decide (a.bX<b.bX) && vW (b :: r)
  | _=>true
theorem tc:∀l:List lI,vW l=true↔∀j x y,l[j]? = some x→l[j+1]? = some y→x.bX<y.bX
  | []=>by simp[vW]
  | [a]=>by simp[vW]
  | a :: b :: r=>by
    rw[vW,Bool.and_eq_true,decide_eq_true_eq,tc (b :: r)]
    constructor
    · rintro⟨h1,h2⟩ j x y hx hy
      cases j with
      | zero=>simp at hx hy;subst hx;subst hy;exact h1
      | succ j=>exact h2 j x y (by simpa using hx) (by simpa using hy)
    · intro h
      exact⟨h 0 a b q q,fun j x y hx hy=>h (j+1) x y (by simpa using hx) (by simpa using hy)⟩
def Nr:gU:={seq:=0,cF:=0,mono:=0,ck:=pu,xor:=0,aH:=[]}
def BP (x:Ly):gU:={seq:=fR x 0,cF:=fR x 8,mono:=fR x 16,ck:=(x.drop 24).take 16,xor:=fR x 40,aH:=oH x 48 ((x.length-48)/16)}
def FV (x:Ly):gU × Nat:=if fR x 0=0 then(Nr,13)else if vW (BP x).aH=false then(Nr,11)else(BP x,0)
def mK (b:Ly) (p:Nat):gU × Nat :=
  if(mR b p 3 48 16).2≠0 then(Nr,(mR b p 3 48 16).2)else FV (mR b p 3 48 16).1
theorem aef {b x:Ly} {p c:Nat} (h:mR b p 3 48 16=(x,c)) (hc:c≠0):mK b p=(Nr,c):=by
  unfold mK;rw[h,if_pos hc]
theorem FW {b x:Ly} {p c:Nat} (h:mR b p 3 48 16=(x,c)) (hc:¬c≠0):mK b p=FV x:=by
  unfold mK;rw[h,if_neg hc]
structure yY (x:Ly) (e:gU) (i:Nat):Prop where
  seq:e.seq=fR x 0
  cF:e.cF=fR x 8
  mono:e.mono=fR x 16
  ck:e.ck=(x.drop 24).take 16
  xor:e.xor=fR x 40
  aH:e.aH=oH x 48 ((i-6)/2)
theorem yY.eq {x:Ly} {e:gU} {i:Nat} (h:yY x e i) (hi:i=x.length/8) (h6:x.length%8=0) (h48:48≤x.length):e=BP x:=by
  obtain⟨s,r,m,G,I,H⟩:=e
  obtain⟨A,B,C,D,E,F⟩:=h
  simp only at A B C D E F
  subst hi
  unfold BP
  rw[A,B,C,D,E,F,show(x.length/8-6)/2=(x.length-48)/16 by omega]
theorem yY.step {x:Ly} {e e':gU} {i n v u:Nat} {l:List Nat} (h:yY x e i) (hi:i%2=0) (h6:6≤i) (hl:l=fW x 0 n) (hv:l[i]? = some v) (hu:l[i+1]? = some u) (he:e'={e with aH:=e.aH ++ [{bX:=v,dY:=u}]}):yY x e' (i+2):=by
  subst hl;subst he
  have hv':=(qv hv).1
  have hu':=(qv hu).1
  refine⟨h.seq,h.cF,h.mono,h.ck,h.xor,?_⟩
  show e.aH ++ _=_
  rw[show(i+2-6)/2=(i-6)/2+1 by omega,GA,h.aH,hv',hu',show 48+16*((i-6)/2)=0+8*i by omega,show 0+8*(i+1)=0+8*i+8 by omega]
theorem aed {x:Ly} (h:fR x 0=0):FV x=(Nr,13):=by unfold FV;rw[if_pos h]
theorem aec {x:Ly} {e:gU} {i:Nat} {y z:lI} (he:e=BP x) (h:¬e.seq=0) (h0:1≤i) (hy:e.aH[i]? = some y) (hz:e.aH[i-1]? = some z) (hl:y.bX≤z.bX):FV x=(Nr,11):=by
  subst he
  unfold FV
  rw[if_neg (show ¬fR x 0=0 from h),if_pos]
  cases hr:vW (BP x).aH with
  | false=>rfl
  | true =>
    have:=(tc _).1 hr (i-1) z y hz (by rw[Nat.sub_add_cancel h0];exact hy)
    omega
theorem YN {x:Ly} {e:gU} {i:Nat} (he:e=BP x) (h:¬e.seq=0) (hi:e.aH.length≤i) (hr:∀j,1≤j→j<i→∀y z,e.aH[j]? = some y→e.aH[j-1]? = some z→z.bX<y.bX):FV x=(e,0):=by
  have B:vW e.aH=true:=by
    rw[tc]
    intro j a c C A
    have D:=(List.getElem?_eq_some_iff.1 A).1
    exact hr (j+1) (by omega) (by omega) c a A (by simpa using C)
  subst he
  unfold FV
  rw[if_neg (show ¬fR x 0=0 from h),if_neg (by rw[B];simp)]
theorem YM {e:gU} {v:Value} {ys:Ly} (hy:ys.length=16):gh (gU.cells e v) 3 (ys.map b8)=gU.cells {e with ck:=ys} v :=
  py hy [.int .u64 e.seq,.int .u64 e.cF,.int .u64 e.mono] _ e.ck
theorem SR {x:Ly} (h:40≤x.length):(((x.take 40).drop 24).map b8).take 16=((x.drop 24).take 16).map b8∧((x.drop 24).take 16).length=16:=by
  have e:(x.take 40).drop 24=(x.drop 24).take 16:=by rw[List.drop_take]
  have A:((x.drop 24).take 16).length=16:=by simp;omega
  refine⟨?_,A⟩
  rw[e,List.take_of_length_le (by simp;omega)]
theorem TD {x:Ly} {e s:gU} {a b c d:Nat} {n:Nat} {l:List Nat} (hl:l=fW x 0 n) (h0:l[0]? = some a) (h1:l[1]? = some b) (h2:l[2]? = some c) (h5:l[5]? = some d) (he:e={seq:=a,cF:=b,mono:=c,ck:=pu,xor:=d,aH:=[]}) (hs:s={e with ck:=(x.drop 24).take 16}):yY x s 6:=by
  subst hl;subst he;subst hs
  exact⟨(qv h0).1,(qv h1).1,(qv h2).1,q,(qv h5).1,q⟩
def jr (s:Nat) (b:Ly) (p:Nat):gU × Nat:=if p<s∨b.length≤p then(Nr,2)else mK b p
theorem aee {s p c:Nat} {b:Ly} (h:rV s b p=c) (hc:c≠0):(jr s b p).2=c:=by
  unfold rV at h
  unfold jr
  split at h
  · rename_i h1;rw[if_pos h1];exact h
  exact absurd h.symm hc
theorem YL {s p c:Nat} {b:Ly} {x:gU} (h0:rV s b p=0) (h:mK b p=(x,c)):jr s b p=(x,c):=by
  unfold rV at h0
  unfold jr
  split at h0
  · cases h0
  rename_i h1;rw[if_neg h1];exact h
end Go.Wk
namespace Go.Wk
open Go Go.RowKit
theorem PX {s p c:Nat} {b:Ly} {d:iL} (h:jZ s b p=(d,c)):d.aG.length≤b.length:=by
  unfold jZ at h
  split at h
  · cases h;simp[zv]
  unfold mJ at h
  repeat' split at h
  all_goals (cases h;simp[zv];try omega)
def jM (k:Bool) (f:Ly) (s:Nat) (b:Ly) (p:Nat):iL × Nat :=
  if(jZ s b p).2≠0 then(zv,(jZ s b p).2)
  else if(jZ s b p).1.dY=dS k f (jZ s b p).1.aG then jZ s b p
  else(zv,9)
theorem ae8 {k:Bool} {f b:Ly} {s p c:Nat} (h:(jZ s b p).2=c) (hc:c≠0):(jM k f s b p).2=c:=by
  unfold jM;rw[h,if_pos hc]
theorem RI {k:Bool} {f b:Ly} {s p n:Nat} {d:iL} (h:jZ s b p=(d,0)) (hh:dS k f d.aG=n) (e:d.dY=n):jM k f s b p=(d,0):=by
  unfold jM;rw[h,if_neg (by simp),if_pos (e.trans hh.symm)]
theorem adG {k:Bool} {f b:Ly} {s p n:Nat} {d:iL} (h:jZ s b p=(d,0)) (hh:dS k f d.aG=n) (e:¬d.dY=n):(jM k f s b p).2=9:=by
  unfold jM;rw[h,if_neg (by simp),if_neg (fun h=>e (h.trans hh))]
theorem ac5 {k:Bool} {f b:Ly} {s p c:Nat} {d:iL} (h:jM k f s b p=(d,c)):d.aG.length≤b.length:=by
  unfold jM at h
  split at h
  · cases h;simp[zv]
  split at h
  · exact PX h
  cases h;simp[zv]
def ot (l:Ly):Pr × Nat:=({name:=(qc l).1,value:=(qc l).2},(jm l).toNat)
theorem EV (l:Ly):0≤jm l∧jm l<100:=by
  unfold jm
  repeat' split
  all_goals omega
theorem P7 (l:Ly):jm l=(((jm l).toNat:Nat):Int):=(Int.toNat_of_nonneg (EV l).1).symm
theorem WT (l:Ly):(jm l).toNat<9223372036854775808:=by have:=EV l;omega
end Go.Wk
namespace Go.Wk
open Go Go.RowKit
def vU:Rec:={seq:=0,cF:=0,mono:=0,ck:=pu,aj:=[]}
def iY (k:Bool) (f:Ly) (s:Nat) (b:Ly):List lI→List Pr→List (List UInt8)→(List Pr × List (List UInt8)) × Nat
  | [],fs,all=>((fs,all),0)
  | x :: r,fs,all =>
    if(jM k f s b x.bX).2≠0 then(([],[]),(jM k f s b x.bX).2)
    else if(jM k f s b x.bX).1.dY≠x.dY then(([],[]),9)
    else if(ot (jM k f s b x.bX).1.aG).2≠0 then(([],[]),(ot (jM k f s b x.bX).1.aG).2)
    else iY k f s b r (fs ++ [(ot (jM k f s b x.bX).1.aG).1]) (all ++ [(jM k f s b x.bX).1.aG])
section
variable {k:Bool} {f b:Ly} {s p i c:Nat} {l:List lI} {x:lI} {d:iL} {fs:List Pr} {all:List (List UInt8)} {q:Pr} {e:gU} {r:Rec}
theorem EI (h:¬i<l.length):iY k f s b (l.drop i) fs all=((fs,all),0):=by rw[gI (by omega)];rfl
theorem WB (h:l[i]? = some x) (hp:(jM k f s b x.bX).2=c) (hc:c≠0):iY k f s b (l.drop i) fs all=(([],[]),c):=by
  rw[eG h];unfold iY;rw[hp,if_pos hc]
theorem acI (h:l[i]? = some x) (hp:jM k f s b x.bX=(d,0)) (hn:¬d.dY=x.dY):iY k f s b (l.drop i) fs all=(([],[]),9):=by
  rw[eG h];unfold iY;rw[hp,if_neg (by simp),if_pos hn]
theorem LR (h:l[i]? = some x) (hp:jM k f s b x.bX=(d,0)) (hn:d.dY=x.dY) (hs:ot d.aG=(q,c)) (hc:c≠0):iY k f s b (l.drop i) fs all=(([],[]),c):=by
  rw[eG h];unfold iY;rw[hp,if_neg (by simp),if_neg (by simpa using hn),hs,if_pos hc]
theorem OT (h:l[i]? = some x) (hp:jM k f s b x.bX=(d,0)) (hn:d.dY=x.dY) (hs:ot d.aG=(q,0)):iY k f s b (l.drop i) fs all=iY k f s b (l.drop (i+1)) (fs ++ [q]) (all ++ [d.aG]):=by
  rw[eG h];conv=>lhs;unfold iY
  rw[hp,if_neg (by simp),if_neg (by simpa using hn),hs,if_neg (by simp)]
def lM (k:Bool) (f:Ly) (s:Nat) (b:Ly) (p:Nat):Rec × Nat :=
  if(jr s b p).2≠0 then(vU,(jr s b p).2)
  else if 16<(jr s b p).1.aH.length then(vU,21)
  else if(iY k f s b (jr s b p).1.aH [] []).2≠0 then(vU,(iY k f s b (jr s b p).1.aH [] []).2)
  else if(jr s b p).1.xor=mQ 0 (iY k f s b (jr s b p).1.aH [] []).1.2 then({seq:=(jr s b p).1.seq,cF:=(jr s b p).1.cF,mono:=(jr s b p).1.mono,ck:=(jr s b p).1.ck,aj:=(iY k f s b (jr s b p).1.aH [] []).1.1},0)
  else(vU,10)
theorem aeS (h:(jr s b p).2=c) (hc:c≠0):(lM k f s b p).2=c:=by unfold lM;rw[h,if_pos hc]
theorem aeR (h:jr s b p=(e,0)) (hl:16<e.aH.length):(lM k f s b p).2=21:=by unfold lM;rw[h,if_neg (by simp),if_pos hl]
theorem HX {y:List Pr × List (List UInt8)} (h:jr s b p=(e,0)) (hl:¬16<e.aH.length) (hg:iY k f s b e.aH [] []=(y,c)) (hc:c≠0):(lM k f s b p).2=c:=by
  unfold lM;rw[h,if_neg (by simp),if_neg hl,hg,if_pos hc]
theorem aeP {n:Nat} (h:jr s b p=(e,0)) (hl:¬16<e.aH.length) (hg:iY k f s b e.aH [] []=((fs,all),0)) (hx:mQ 0 all=n) (hn:¬e.xor=n):(lM k f s b p).2=10:=by
  unfold lM;rw[h,if_neg (by simp),if_neg hl,hg,if_neg (by simp),if_neg (by rw[hx];exact hn)]
structure ads (e:gU) (r:Rec):Prop where
  seq:r.seq=e.seq
  cF:r.cF=e.cF
  mono:r.mono=e.mono
  ck:r.ck=e.ck
theorem aaU {n:Nat} (h:jr s b p=(e,0)) (hl:¬16<e.aH.length) (hr:ads e r) (hg:iY k f s b e.aH [] []=((r.aj,all),0)) (hx:mQ 0 all=n) (hn:e.xor=n):lM k f s b p=(r,0):=by
  unfold lM;rw[h,if_neg (by simp),if_neg hl,hg,if_neg (by simp),if_pos (by rw[hx];exact hn)]
  obtain⟨E,F,G,H,I⟩:=r
  obtain⟨A,B,C,D⟩:=hr
  simp only at A B C D
  subst A;subst B;subst C;subst D
  rfl
theorem abA {n:Nat} {y:Ly} (h:∀x∈all,x.length≤n) (hy:y.length≤n):∀x∈all ++ [y],x.length≤n:=by
  intro x B
  rcases List.mem_append.1 B with A|A
  · exact h x A
  simp at A;subst A;exact hy
theorem ag6 (h:(lM k f s b p).2≠0):(lM k f s b p).1=vU:=by
  unfold lM at h ⊢
  split
  · rfl
  split
  · rfl
  split
  · rfl
  split
  · rename_i h1 h2 h3 h4;rw[if_neg h1,if_neg h2,if_neg h3,if_pos h4]at h;exact absurd rfl h
  rfl
theorem acK (h:(lM k f s b p).2=c) (hc:c≠0):lM k f s b p=(vU,c):=by
  refine Prod.ext ?_ h
  exact ag6 (by rw[h];exact hc)
end
end Go.Wk
namespace Go.Wk
open Go Go.RowKit
def seg (b:Ly) (p n:Nat):List UInt8:=(b.drop p).take n
theorem td {b:Ly} {p n i:Nat} (h:i<n):(seg b p n)[i]? = b[p+i]?:=by
  unfold seg;rw[List.getElem?_take,if_pos h,List.getElem?_drop]
theorem acQ {b:Ly} {p n:Nat} (h:p+n≤b.length):(seg b p n).length=n:=by unfold seg;simp;omega
theorem RY {b c:Ly} {p n:Nat} (h:∀i,i<n→c[p+i]? = b[p+i]?):seg c p n=seg b p n:=by
  apply List.ext_getElem?
  intro i
  by_cases hi:i<n
  · rw[td hi,td hi,h i hi]
  unfold seg;rw[List.getElem?_take,List.getElem?_take,if_neg hi,if_neg hi]
theorem lS (b:Ly) (p:Nat):fR b p=wV (seg b p 8):=rfl
theorem acR {b:Ly} {p n q k:Nat} (h:q+k≤n):seg (seg b p n) q k=seg b (p+q) k:=by
  unfold seg
  rw[List.drop_take,List.take_take,List.drop_drop,Nat.min_eq_left (by omega)]
theorem LX {b l:Ly} {p n q k:Nat} (h:seg b p n=l) (hq:q+k≤n):seg b (p+q) k=seg l q k:=by rw[← h,acR hq]
theorem RX {b o:Ly} {p n:Nat} (h:p+n≤b.length):seg (b ++ o) p n=seg b p n :=
  RY fun i hi=>List.getElem?_append_left (by omega)
theorem seg_new (b o:Ly):seg (b ++ o) b.length o.length=o:=by unfold seg;rw[List.drop_left,List.take_length]
theorem lO (x y:Ly) {n:Nat} (h:n=x.length):seg (x ++ y) 0 n=x:=by subst h;simp[seg]
theorem iv {x y:Ly} {p n:Nat} (h:x.length≤p):seg (x ++ y) p n=seg y (p-x.length) n:=by
  unfold seg;rw[List.drop_append,List.drop_eq_nil_of_le h,List.nil_append]
theorem GI (v n:Nat):wV (low v n)=v%256 ^ n:=by
  induction n generalizing v with
  | zero=>simp[low,wV,Nat.mod_one]
  | succ n ih =>
    simp only[low,wV,ih]
    rw[UInt8.toNat_ofNat',show 2 ^ 8=256 from rfl,Nat.mod_mod,Nat.pow_succ,Nat.mul_comm (256 ^ n) 256,Nat.mod_mul]
theorem abE {v:Nat} (r:Ly) (h:v<18446744073709551616):fR (low v 8 ++ r) 0=v:=by
  rw[lS,lO _ _ (by rw[gV]),GI]
  exact Nat.mod_eq_of_lt h
theorem iq {x y:Ly} {p:Nat} (h:x.length≤p):fR (x ++ y) p=fR y (p-x.length):=by rw[lS,lS,iv h]
theorem FO {b o:Ly} {p:Nat} (h:p+8≤b.length):fR (b ++ o) p=fR b p:=by rw[lS,lS,RX h]
theorem Ym {b l:Ly} {p n q:Nat} (h:seg b p n=l) (hq:q+8≤n):fR b (p+q)=fR l q:=by rw[lS,lS,LX h hq]
theorem lJ:∀{l:List Nat} {r:Ly} {i v:Nat},l[i]? = some v→v<18446744073709551616→fR (nums l ++ r) (8*i)=v
  | [],_,_,_,h,_=>by simp at h
  | x :: l,r,0,v,h,hv=>by
    simp at h;subst h
    rw[nums,List.append_assoc]
    exact abE _ hv
  | x :: l,r,i+1,v,h,hv=>by
    rw[nums,List.append_assoc,iq (by rw[gV];omega),gV,show 8*(i+1)-8=8*i by omega]
    exact lJ (by simpa using h) hv
theorem CC {l:List Nat} {i v:Nat} (h:l[i]? = some v) (hv:v<18446744073709551616):fR (nums l) (8*i)=v:=by
  have:=lJ (r:=[]) h hv
  rwa [List.append_nil]at this
theorem LB:∀(n:Nat) (b:Ly) (p v i q:Nat),(BU n b p v i)[q]? = if p+i≤q∧q<p+i+n∧q<b.length then some (UInt8.ofNat (v/2 ^ (8*(q-p))))else b[q]?
  | 0,b,p,v,i,q=>by rw[if_neg (by omega)];rfl
  | n+1,b,p,v,i,q=>by
    rw[BU,LB n]
    simp only[List.length_set]
    by_cases h:p+(i+1)≤q∧q<p+(i+1)+n∧q<b.length
    · rw[if_pos h,if_pos (by omega)]
    · rw[if_neg h]
      by_cases hq:q=p+i
      · subst hq
        by_cases hl:p+i<b.length
        · rw[if_pos (by omega),List.getElem?_set_self hl,show p+i-p=i by omega]
        · rw[if_neg (by omega),List.getElem?_eq_none (by simp;omega),List.getElem?_eq_none (by omega)]
      · rw[if_neg (by omega),List.getElem?_set_ne (by omega)]
theorem LC (b:Ly) (p v q:Nat):(jy b p v)[q]? = if p≤q∧q<p+8∧q<b.length then some (UInt8.ofNat (v/2 ^ (8*(q-p))))else b[q]?:=LB 8 b p v 0 q
theorem RZ {b:Ly} {p v q n:Nat} (h:p+8≤q∨q+n≤p):seg (jy b p v) q n=seg b q n :=
  RY fun i hi=>by rw[LC,if_neg (by omega)]
theorem QM:∀(n v i:Nat),i<n→(low v n)[i]? = some (UInt8.ofNat (v/2 ^ (8*i)))
  | n+1,v,0,_=>by
    simp only[low,List.getElem?_cons_zero,Nat.mul_zero,Nat.pow_zero,Nat.div_one,Option.some.injEq]
    apply UInt8.toNat.inj;simp
  | n+1,v,i+1,h=>by
    simp only[low,List.getElem?_cons_succ]
    rw[QM n (v/256) i (by omega),Nat.div_div_eq_div_mul,show 256*2 ^ (8*i)=2 ^ (8*(i+1))by rw[Nat.mul_add,Nat.pow_add,Nat.mul_comm]]
theorem IA {b:Ly} {p v:Nat} (h:p+8≤b.length):seg (jy b p v) p 8=low v 8:=by
  apply List.ext_getElem?
  intro i
  by_cases hi:i<8
  · rw[td hi,LC,if_pos (by omega),QM 8 v i hi,show p+i-p=i by omega]
  rw[List.getElem?_eq_none (by rw[acQ (by rw[iI];omega)];omega),List.getElem?_eq_none (by rw[gV];omega)]
theorem pG {b:Ly} {p v q:Nat} (h:p+8≤q∨q+8≤p):fR (jy b p v) q=fR b q:=by rw[lS,lS,RZ h]
theorem mA {b:Ly} {p v:Nat} (h:p+8≤b.length) (hv:v<18446744073709551616):fR (jy b p v) p=v:=by
  rw[lS,IA h,GI]
  exact Nat.mod_eq_of_lt hv
theorem zu {b:Ly} {p i n:Nat} (h:i<n):lD b (p+i)=((seg b p n).getD i 0).toNat:=by
  unfold lD
  rw[List.getD_eq_getElem?_getD,List.getD_eq_getElem?_getD,td h]
structure Eff (S:Nat→Prop) (b c:Ly):Prop where
  len:b.length≤c.length
  seg:∀q n,q+n≤b.length→(∀a,S a→a+8≤q∨q+n≤a)→seg c q n=seg b q n
theorem Eff.refl (S:Nat→Prop) (b:Ly):Eff S b b:=⟨Nat.le_refl _,fun _ _ _ _=>rfl⟩
theorem Eff.trans {S:Nat→Prop} {a b c:Ly} (h:Eff S a b) (k:Eff S b c):Eff S a c :=
  ⟨lj h.len k.len,fun q n hq hs=>(k.seg q n (lj hq h.len) hs).trans (h.seg q n hq hs)⟩
theorem Eff.mono {S T:Nat→Prop} {a b:Ly} (h:Eff S a b) (hs:∀x,S x→T x):Eff T a b:=⟨h.len,fun q n hq ht=>h.seg q n hq fun x hx=>ht x (hs x hx)⟩
theorem Eff.put (b:Ly) (p v:Nat):Eff (fun a=>a=p) b (jy b p v):=⟨by rw[iI];exact Nat.le_refl _,fun q n _ hs=>RZ (hs p rfl)⟩
theorem Eff.app (S:Nat→Prop) (b o:Ly):Eff S b (b ++ o):=⟨by simp,fun q n hq _=>RX hq⟩
theorem Eff.fR {S:Nat→Prop} {b c:Ly} {q:Nat} (h:Eff S b c) (hq:q+8≤b.length) (hs:∀a,S a→a+8≤q∨q+8≤a):fR c q=fR b q:=by
  rw[lS,lS,h.seg q 8 hq hs]
end Go.Wk
namespace Go.Wk
open Go Go.RowKit
structure Ob where
  bX:Nat
  kind:Nat
  size:Nat
def nV (n:Nat):Nat:=(n+7)/8*8
theorem eC (n:Nat):n≤nV n∧nV n<n+8∧nV n%8=0:=by unfold nV;omega
def MQ (kind size:Nat):List UInt8:=[UInt8.ofNat kind,0,0,0,0,0,0,0] ++ nums [size]
theorem jQ (k s:Nat):(MQ k s).length=16:=by simp[MQ,eI]
theorem vN {k:Nat} {body:Ly} (h:1≤k∧k≤7):qD k body=(MQ k (16+body.length) ++ body) ++ List.replicate ((8-(16+body.length)%8)%8) 0:=by
  unfold qD
  rw[if_neg (by omega),AX]
  have:([UInt8.ofNat k,0,0,0,0,0,0,0] ++ nums [16+body.length] ++ body).length=16+body.length:=by simp[eI];omega
  rw[this]
  rfl
def fH (b:Ly):Nat→List Ob→Nat→Prop
  | p,[],e=>p=e
  | p,o :: r,e=>o.bX=p∧1≤o.kind∧o.kind≤7∧16≤o.size∧o.size<18446744073709551616∧seg b p 16=MQ o.kind o.size∧fH b (p+nV o.size) r e
theorem fH.le {b:Ly}:∀{l:List Ob} {p e:Nat},fH b p l e→p≤e∧(p%8=0→e%8=0)
  | [],_,_,h=>by cases h;exact⟨Nat.le_refl _,id⟩
  | o :: r,p,e,h=>by
    have:=h.2.2.2.2.2.2.le
    have:=eC o.size
    omega
structure ab6 (b:Ly) (p e:Nat) (o:Ob):Prop where
  ge:p≤o.bX
  le:o.bX+nV o.size≤e
  al:p%8=0→o.bX%8=0
  kind:1≤o.kind∧o.kind≤7
  size:16≤o.size∧o.size<18446744073709551616
  hd:seg b o.bX 16=MQ o.kind o.size
theorem fH.mem {b:Ly}:∀{l:List Ob} {p e:Nat} {o:Ob},fH b p l e→o∈l→ab6 b p e o
  | [],_,_,_,_,h=>by simp at h
  | x :: r,p,e,o,h,ho=>by
    obtain⟨h1,h2,h3,h4,h5,h6,h7⟩:=h
    have hl:=h7.le
    have hu:=eC x.size
    rcases List.mem_cons.1 ho with rfl|ho
    · subst h1
      exact⟨Nat.le_refl _,hl.1,id,⟨h2,h3⟩,⟨h4,h5⟩,h6⟩
    · obtain⟨g1,g2,g3,g4,g5,g6⟩:=h7.mem ho
      exact⟨by omega,g2,fun hp=>g3 (by omega),g4,g5,g6⟩
theorem fH.sep {b:Ly}:∀{l:List Ob} {p e:Nat} {o x:Ob},fH b p l e→o∈l→x∈l→o=x∨o.bX+nV o.size≤x.bX∨x.bX+nV x.size≤o.bX
  | [],_,_,_,_,_,h,_=>by simp at h
  | y :: r,p,e,o,x,h,ho,hx=>by
    obtain⟨h1,h2,h3,h4,h5,h6,h7⟩:=h
    rcases List.mem_cons.1 ho with e1|e1
    · rcases List.mem_cons.1 hx with e2|e2
      · exact .inl (e1.trans e2.symm)
      · have:=(h7.mem e2).ge;subst e1;exact .inr (.inl (by omega))
    · rcases List.mem_cons.1 hx with e2|e2
      · have:=(h7.mem e1).ge;subst e2;exact .inr (.inr (by omega))
      · exact h7.sep e1 e2
theorem fH.app {b:Ly}:∀{l:List Ob} {p e:Nat} {o:Ob},fH b p l e→o.bX=e→1≤o.kind→o.kind≤7→16≤o.size→o.size<18446744073709551616→seg b e 16=MQ o.kind o.size→fH b p (l ++ [o]) (e+nV o.size)
  | [],p,e,o,h,h1,h2,h3,h4,h5,h6=>by cases h;exact⟨h1,h2,h3,h4,h5,h6,q⟩
  | x :: r,p,e,o,h,h1,h2,h3,h4,h5,h6=>by
    obtain⟨g1,g2,g3,g4,g5,g6,g7⟩:=h
    exact⟨g1,g2,g3,g4,g5,g6,g7.app h1 h2 h3 h4 h5 h6⟩
def Body (l:List Ob) (a:Nat):Prop:=a+8≤272∨∃o∈l,o.bX+16≤a∧a+8≤o.bX+nV o.size
theorem fH.lZ {b c:Ly} {S:Nat→Prop} {l:List Ob} {p e:Nat} (h:fH b p l e) (k:Eff S b c) (hb:e≤b.length) (hs:∀o∈l,∀a,S a→a+8≤o.bX∨o.bX+16≤a):fH c p l e:=by
  induction l generalizing p with
  | nil=>exact h
  | cons o r ih =>
    have K:=fH.mem (o:=o) h (by simp)
    obtain⟨A,C,D,E,F,G,B⟩:=h
    have L:=eC o.size
    have J:=B.le
    refine⟨A,C,D,E,F,?_,ih B fun x I=>hs x (by simp[I])⟩
    rw[k.seg p 16 (by omega) fun a H=>A ▸ hs o (by simp) a H,G]
theorem fH.body {b:Ly} {l:List Ob} {e:Nat} (h:fH b 272 l e) {a:Nat} (ha:Body l a) {o:Ob} (ho:o∈l):a+8≤o.bX∨o.bX+16≤a:=by
  have B:=h.mem ho
  rcases ha with ha|⟨x,C,D,E⟩
  · have:=B.ge;omega
  have:=eC o.size
  have:=eC x.size
  rcases h.sep ho C with rfl|A|A <;> omega
theorem rT {b:Ly} {p e:Nat} {o:Ob} (h:ab6 b p e o) (hp:p%8=0) (hb:o.bX+o.size≤b.length):dQ b o.bX=({kind:=o.kind,flags:=0,size:=o.size},0):=by
  have A:=h.size.1
  have B:lD b o.bX=o.kind:=by
    have:=zu (b:=b) (p:=o.bX) (i:=0) (n:=16) (by omega)
    rw[Nat.add_zero,h.hd]at this
    rw[this]
    show(UInt8.ofNat o.kind).toNat=_
    have:=h.kind
    rw[UInt8.toNat_ofNat',Nat.mod_eq_of_lt (by omega)]
  have C:lD b (o.bX+1)=0:=by
    have:=zu (b:=b) (p:=o.bX) (i:=1) (n:=16) (by omega)
    rw[h.hd]at this
    rw[this];rfl
  have D:fR b (o.bX+8)=o.size:=by
    rw[Ym h.hd (by omega),MQ,iq (by simp)]
    exact CC (l:=[o.size]) (i:=0) q h.size.2
  have hk:=h.kind
  have E:=h.al hp
  unfold dQ
  rw[if_neg (by omega),if_neg (by omega),B,C,D,if_neg (by omega),if_neg (by omega),if_neg (by omega),if_neg (by omega)]
theorem FQ {b:Ly} {p e k ahead gN:Nat} {o:Ob} (h:ab6 b p e o) (hp:p%8=0) (hb:o.bX+o.size≤b.length) (hk:o.kind=k) (h1:16+ahead<o.size) (h2:(o.size-(16+ahead))%gN=0):mR b o.bX k ahead gN=(seg b (o.bX+16) (o.size-16),0):=by
  unfold mR
  rw[rT h hp hb]
  simp only
  rw[if_neg (by simp),if_neg (by omega),if_neg (by omega)]
  congr 1
  unfold seg
  rw[List.drop_take,show o.bX+o.size-(o.bX+16)=o.size-16 by omega]
theorem GQ {b:Ly} {p e k n:Nat} {o:Ob} (h:ab6 b p e o) (hp:p%8=0) (hb:o.bX+o.size≤b.length) (hk:o.kind=k) (h1:16+8*n<o.size):mL b o.bX k n=(fW b (o.bX+16) n,seg b (o.bX+16+8*n) (o.size-(16+8*n)),0):=by
  have A:=xY (b:=b) (p:=o.bX) (n:=n) (kind:=k) (rT h hp hb) (by simp) (by simp only;omega) (by simp only;omega) q
  rw[A,AL (by simp only;omega) (by simp only;omega),Nat.add_zero]
  congr 2
  unfold seg
  simp only
  rw[List.drop_take,List.drop_take,List.drop_drop,show o.bX+o.size-(o.bX+16)-8*n=o.size-(16+8*n)by omega]
end Go.Wk
namespace Go.Wk
open Go Go.RowKit
def oO:Nat→Nat
  | 0=>0
  | k+1=>oO k+eu (k:Int)
theorem EP:∀(l:List Nat) (k a:Nat),fq l k a (oO k)=(if l=[]then a else oO (k+l.length-1),oO (k+l.length))
  | [],_,_=>rfl
  | x :: l,k,a=>by
    have:=EP l (k+1) (oO k)
    rw[show fq (x :: l) k a (oO k)=fq l (k+1) (oO k) (oO (k+1))from rfl,this]
    have h1:k+1+l.length=k+(l.length+1):=by omega
    simp only[List.length_cons,h1,reduceCtorEq,if_false,Prod.mk.injEq,and_true]
    split
    · rename_i h;subst h;rfl
    · rfl
theorem WJ (l:List Nat):fq l 0 0 0=(oO (l.length-1),oO l.length):=by
  have:=EP l 0 0
  simp only[oO,Nat.zero_add]at this
  rw[this]
  congr 1
  split
  · rename_i h;subst h;rfl
  rfl
theorem Y5 {i j:Nat} (h:i≤j):oO i≤oO j:=by
  induction j with
  | zero=>rw[Nat.le_zero.1 h];exact Nat.le_refl _
  | succ j ih =>
    rcases Nat.lt_or_ge i (j+1)with A|A
    · have:=ih (by omega);simp only[oO];omega
    · rw[show i=j+1 by omega];exact Nat.le_refl _
theorem Y6 {i j:Nat} (h:i<j):oO i+eu (i:Int)≤oO j:=Y5 (show i+1≤j from h)
theorem ql (l:List Nat) (x i:Nat):(l ++ [x]).getD i 0=if i=l.length then x else l.getD i 0:=by
  simp only[List.getD_eq_getElem?_getD]
  by_cases h:i<l.length
  · rw[List.getElem?_append_left h,if_neg (by omega)]
  rw[List.getElem?_append_right (by omega)]
  by_cases h2:i=l.length
  · subst h2;simp
  rw[if_neg h2,List.getElem?_eq_none (by simp;omega),List.getElem?_eq_none (by omega)]
theorem getD_some {l:List Nat} {i x:Nat} (h:l[i]? = some x):l.getD i 0=x:=by simp[List.getD,h]
structure Chain (b:Ly) (l:List Ob) (src:Nat) (av aH:List Nat):Prop where
  word:fR b src=av.getD 0 0
  ob:∀k a:Nat,av[k]? = some a→(⟨a,6,24+8*eu (k:Int)⟩:Ob)∈l
  next:∀k a:Nat,av[k]? = some a→fR b (a+16)=av.getD (k+1) 0
  gN:∀k a j:Nat,av[k]? = some a→j<eu (k:Int)→fR b (a+24+8*j)=aH.getD (oO k+j) 0
  BO:∀k a c:Nat,av[k]? = some a→av[k+1]? = some c→a<c
  lo:oO (av.length-1)≤aH.length
  hi:aH.length≤oO av.length
theorem MX {av:List Nat} (h:∀k a c:Nat,av[k]? = some a→av[k+1]? = some c→a<c):∀(d k a c:Nat),av[k]? = some a→av[k+d+1]? = some c→a<c
  | 0,k,a,c,h1,h2=>h k a c h1 h2
  | d+1,k,a,c,h1,h2=>by
    obtain⟨y,hy⟩:∃y,av[k+d+1]? = some y:=⟨_,List.getElem?_eq_getElem (by have:=(List.getElem?_eq_some_iff.1 h2).1;omega)⟩
    have:=MX h d k a y h1 hy
    have:=h (k+d+1) y c hy h2
    omega
def Src (l:List Ob) (a:Nat):Prop:=a+8≤272∨∃o∈l,o.kind≠6∧o.bX+16≤a∧a+8≤o.bX+nV o.size
theorem Src.body {l:List Ob} {a:Nat} (h:Src l a):Body l a:=h.imp id fun⟨o,h1,_,h2⟩=>⟨o,h1,h2⟩
theorem Src.apart {b:Ly} {l:List Ob} {a e:Nat} (h:Src l a) (hO:fH b 272 l e) {o:Ob} (ho:o∈l) (hk:o.kind=6):a+8≤o.bX∨o.bX+nV o.size≤a:=by
  rcases h with h|⟨x,C,A,D,E⟩
  · have:=(hO.mem ho).ge;omega
  rcases hO.sep ho C with rfl|B|B
  · exact absurd hk A
  · omega
  omega
theorem Src.mono {l r:List Ob} {a:Nat} (h:Src l a) (hs:∀o∈l,o∈r):Src r a:=h.imp id fun⟨o,h1,h2⟩=>⟨o,hs o h1,h2⟩
theorem Src.lt {b:Ly} {l:List Ob} {a e:Nat} (h:Src l a) (hO:fH b 272 l e):a+8≤e:=by
  rcases h with h|⟨x,A,B,C,D⟩
  · have:=hO.le;omega
  have:=(hO.mem A).le;omega
def yZ (src:Nat) (av:List Nat) (a:Nat):Prop:=a=src∨∃k c:Nat,av[k]? = some c∧c+16≤a∧a+8≤c+24+8*eu (k:Int)
theorem iB (r:Nat):nV (24+8*r)=24+8*r:=by unfold nV;omega
section
variable {b c:Ly} {l:List Ob} {src e:Nat} {av aH:List Nat}
theorem Chain.apart (h:Chain b l src av aH) (hO:fH b 272 l e) {k k' a a':Nat} (ha:av[k]? = some a) (ha':av[k']? = some a') (hk:k≠k'):a+24+8*eu (k:Int)≤a'∨a'+24+8*eu (k':Int)≤a:=by
  have B:a≠a':=by
    rcases Nat.lt_or_ge k k' with A|A
    · have:=MX h.BO (k'-k-1) k a a' ha (by rw[show k+(k'-k-1)+1=k' by omega];exact ha');omega
    · have:=MX h.BO (k-k'-1) k' a' a ha' (by rw[show k'+(k-k'-1)+1=k by omega];exact ha);omega
  rcases hO.sep (h.ob k a ha) (h.ob k' a' ha')with A|A|A
  · exact absurd (congrArg Ob.bX A) B
  · rw[iB]at A;simp only at A;omega
  rw[iB]at A;simp only at A;omega
theorem Chain.le (h:Chain b l src av aH) (hO:fH b 272 l e) {k a:Nat} (ha:av[k]? = some a):272≤a∧a+24+8*eu (k:Int)≤e:=by
  have:=hO.mem (h.ob k a ha)
  have B:=this.le
  have C:=this.ge
  rw[iB]at B
  simp only at B C
  omega
theorem Chain.lZ {S:Nat→Prop} {r:List Ob} (h:Chain b l src av aH) (hO:fH b 272 l e) (hs:Src l src) (he:e≤b.length) (k:Eff S b c) (hr:∀o∈l,o∈r) (h1:∀a,S a→a+8≤src∨src+8≤a) (h2:∀k x:Nat,av[k]? = some x→∀a,S a→a+8≤x+16∨x+24+8*eu (k:Int)≤a):Chain c r src av aH:=by
  have D:=hs.lt hO
  refine⟨(k.fR (by omega) h1).trans h.word,fun i a A=>hr _ (h.ob i a A),fun i a A=>?_,fun i a j A C=>?_,h.BO,h.lo,h.hi⟩
  · have:=h.le hO A
    rw[k.fR (by omega) fun x B=>by have:=h2 i a A x B;omega]
    exact h.next i a A
  have:=h.le hO A
  rw[k.fR (by omega) fun x B=>by have:=h2 i a A x B;omega]
  exact h.gN i a j A C
theorem Chain.put (h:Chain b l src av aH) (hO:fH b 272 l e) (hs:Src l src) (he:e≤b.length) {x p:Nat} (hx:x<18446744073709551616) (hn:av≠[]) (hp:av[av.length-1]? = some p) (hr:aH.length<oO av.length) :
    Chain (jy b (p+24+8*(aH.length-oO (av.length-1))) x) l src av (aH ++ [x]):=by
  have D:0<av.length:=List.length_pos_iff.2 hn
  have H:oO av.length=oO (av.length-1)+eu ((av.length-1:Nat):Int):=by rw[show av.length=(av.length-1)+1 by omega];rfl
  have F:=h.lo
  have G:=h.le hO hp
  generalize hq:p+24+8*(aH.length-oO (av.length-1))=q
  have B:=hs.apart hO (h.ob _ _ hp) rfl
  rw[iB]at B
  simp only at B
  refine⟨?_,h.ob,fun i a A=>?_,fun i a j A C=>?_,h.BO,?_,?_⟩
  · rw[pG (by omega)];exact h.word
  · have:q+8≤a+16∨a+16+8≤q:=by
      by_cases hi:i=av.length-1
      · subst hi;rw[hp]at A;cases A;omega
      · have:=h.apart hO A hp hi;omega
    rw[pG this];exact h.next i a A
  · rw[ql]
    by_cases hi:i=av.length-1
    · subst hi
      rw[hp]at A;cases A
      by_cases hj2:j=aH.length-oO (av.length-1)
      · rw[if_pos (by omega),show p+24+8*j=q by omega]
        exact mA (by omega) hx
      rw[if_neg (by omega),pG (by omega)]
      exact h.gN _ _ j hp C
    have E:i<av.length:=(List.getElem?_eq_some_iff.1 A).1
    have:=Y6 (show i<av.length-1 by omega)
    have:=h.apart hO A hp hi
    rw[if_neg (by omega),pG (by omega)]
    exact h.gN i a j A C
  · rw[List.length_append];simp only[List.length_singleton];omega
  rw[List.length_append];simp only[List.length_singleton];omega
end
theorem sJ {av:List Nat} {p k a:Nat} (h:(av ++ [p])[k]? = some a):(k<av.length∧av[k]? = some a)∨(k=av.length∧a=p):=by
  rcases Nat.lt_or_ge k av.length with hk|hk
  · rw[List.getElem?_append_left hk]at h;exact .inl ⟨hk,h⟩
  have A:=(List.getElem?_eq_some_iff.1 h).1
  simp at A
  rw[List.getElem?_append_right hk,show k-av.length=0 by omega]at h
  exact .inr ⟨by omega,by simpa using h.symm⟩
def FK (r:Nat):List UInt8:=fI {next:=0,aH:=List.replicate r 0}
theorem FL (r:Nat):FK r=MQ 6 (24+8*r) ++ nums (0 :: List.replicate r 0):=by
  unfold FK fI
  rw[vN (by omega)]
  have:(nums [0] ++ nums (List.replicate r 0)).length=8+8*r:=by simp[eI]
  simp only[this]
  rw[show(8-(16+(8+8*r))%8)%8=0 by omega,show 16+(8+8*r)=24+8*r by omega]
  simp[nums]
theorem Jy (r:Nat):(FK r).length=24+8*r:=by rw[FL];simp[jQ,eI];omega
theorem SL {r i:Nat} (h:i≤r):fR (FK r) (16+8*i)=0:=by
  rw[FL,iq (by rw[jQ];omega),jQ,show 16+8*i-16=8*i by omega]
  refine CC (v:=0) ?_ (by decide)
  cases i with
  | zero=>rfl
  | succ i=>simp only[List.getElem?_cons_succ];rw[List.getElem?_replicate,if_pos (by omega)]
theorem abB (r:Nat):seg (FK r) 0 16=MQ 6 (24+8*r):=by rw[FL];exact lO _ _ (jQ _ _).symm
theorem Chain.grow {b:Ly} {l:List Ob} {src:Nat} {av aH:List Nat} (h:Chain b l src av aH) (hO:fH b 272 l b.length) (hs:Src l src) (hb:b.length<1000000) (hr:aH.length=oO av.length) :
    let b1:=b ++ FK (eu (av.length:Int))
    let l1:=l ++ [(⟨b.length,6,24+8*eu (av.length:Int)⟩:Ob)]
    fH b1 272 l1 b1.length∧Chain (jy b1 (if av.length=0 then src else jK av+16) b.length) l1 src (av ++ [b.length]) aH:=by
  intro b1 l1
  have R:=sC (av.length:Int)
  have P:b1.length=b.length+(24+8*eu (av.length:Int)):=by simp[b1,Jy]
  have G:Eff (fun _=>False) b b1:=Eff.app _ _ _
  have U:=hO.le
  have M:fH b1 272 l1 b1.length:=by
    have:=(hO.lZ G (Nat.le_refl _) (fun _ _ _ Y=>Y.elim)).app (o:=⟨b.length,6,24+8*eu (av.length:Int)⟩) rfl (by simp) (by simp) (by simp;omega) (by simp;omega) ?_
    · rw[iB]at this;rw[P];exact this
    · have L:=iv (x:=b) (y:=FK (eu (av.length:Int))) (p:=b.length) (n:=16) (Nat.le_refl _)
      rw[Nat.sub_self,abB]at L
      exact L
  refine⟨M,?_⟩
  have I:∀i,i≤eu (av.length:Int)→fR b1 (b.length+16+8*i)=0:=fun i O=>by
    have:=iq (x:=b) (y:=FK (eu (av.length:Int))) (p:=b.length+16+8*i) (by omega)
    rw[show b.length+16+8*i-b.length=16+8*i by omega,SL O]at this
    exact this
  have J:=hs.lt hO
  have S:∀q,q+8≤b.length→fR b1 q=fR b q:=fun q E=>FO E
  have X:oO (av.length+1)=oO av.length+eu (av.length:Int):=rfl
  -- the place that leads to the new one
  have E:∃q,(if av.length=0 then src else jK av+16)=q∧q+8≤b.length∧(av=[]∧q=src∨∃p,av[av.length-1]? = some p∧0<av.length∧q=p+16):=by
    by_cases hz:av.length=0
    · exact⟨src,by rw[if_pos hz],J,.inl ⟨List.eq_nil_of_length_eq_zero hz,rfl⟩⟩
    · obtain⟨p,B⟩:∃p,av[av.length-1]? = some p:=⟨_,List.getElem?_eq_getElem (by omega)⟩
      have:=h.le hO B
      exact⟨p+16,by rw[if_neg hz,kR B],by omega,.inr ⟨p,B,by omega,rfl⟩⟩
  obtain⟨q,V,d,E⟩:=E
  rw[V]
  have D:∀F,F+8≤b.length→(q+8≤F∨F+8≤q)→fR (jy b1 q b.length) F=fR b F:=fun F W L=>(pG L).trans (S F W)
  have C:fR (jy b1 q b.length) q=b.length:=mA (by omega) (by omega)
  have H:∀i,i≤eu (av.length:Int)→fR (jy b1 q b.length) (b.length+16+8*i)=0:=fun i O=>(pG (by omega)).trans (I i O)
  refine⟨?_,fun k a A=>?_,fun k a A=>?_,fun k a j A Z=>?_,fun k a c A N=>?_,?_,?_⟩
  · rcases E with⟨rfl,rfl⟩|⟨p,B,T,rfl⟩
    · exact C
    have K:=hs.apart hO (h.ob _ _ B) rfl
    rw[iB]at K
    simp only at K
    rw[D src J (by omega),h.word,ql,if_neg (by omega)]
  · rcases sJ A with⟨_,A⟩|⟨rfl,rfl⟩
    · exact List.mem_append_left _ (h.ob k a A)
    exact List.mem_append_right _ (by simp)
  · rcases sJ A with⟨hk,A⟩|⟨rfl,rfl⟩
    · have Q:=h.le hO A
      rcases E with⟨rfl,_⟩|⟨p,B,T,rfl⟩
      · simp at hk
      by_cases hk2:k=av.length-1
      · subst hk2;rw[B]at A;cases A
        rw[C,ql,if_pos (by omega)]
      have:=h.apart hO A B hk2
      rw[D _ (by omega) (by omega),h.next k a A,ql,if_neg (by omega)]
    have:=H 0 (by omega)
    rw[Nat.mul_zero,Nat.add_zero]at this
    rw[this,ql,if_neg (by omega)]
    simp
  · rcases sJ A with⟨hk,A⟩|⟨rfl,rfl⟩
    · have Q:=h.le hO A
      have:q+8≤a+24+8*j∨a+24+8*j+8≤q:=by
        rcases E with⟨rfl,_⟩|⟨p,B,T,rfl⟩
        · simp at hk
        · by_cases hk2:k=av.length-1
          · subst hk2;rw[B]at A;cases A;omega
          · have:=h.apart hO A B hk2;omega
      rw[D _ (by omega) this]
      exact h.gN k a j A Z
    have:=H (j+1) (by omega)
    rw[show b.length+16+8*(j+1)=b.length+24+8*j by omega]at this
    rw[this]
    symm
    simp only[List.getD_eq_getElem?_getD]
    rw[List.getElem?_eq_none (by omega)]
    rfl
  · rcases sJ N with⟨hk,N⟩|⟨hk,rfl⟩
    · rcases sJ A with⟨_,A⟩|⟨rfl,_⟩
      · exact h.BO k a c A N
      omega
    rcases sJ A with⟨_,A⟩|⟨rfl,_⟩
    · have:=h.le hO A;omega
    omega
  · simp only[List.length_append,List.length_singleton,Nat.add_sub_cancel];omega
  simp only[List.length_append,List.length_singleton];omega
end Go.Wk
namespace Go.Wk
open Go Go.RowKit
structure Linked (m m':Mk) (l l':List Ob) (src:Nat) (av av' aH:List Nat) (x:Nat):Prop where
  eS:fH m'.b 272 l' m'.b.length
  sub:l'=l∨l'=l ++ [(⟨m.b.length,6,24+8*eu (av.length:Int)⟩:Ob)]
  arr:av'=av∨av'=av ++ [m.b.length]
  chain:Chain m'.b l' src av' (aH ++ [x])
  lZ:Eff (yZ src av') m.b m'.b
  ne:av'≠[]
  top:m'.b.length≤m.b.length+2100
  same:m'.c=m.c∧m'.ai=m.ai∧m'.aj=m.aj∧m'.main=m.main∧m'.depth=m.depth∧∀i,i≠6→i≠7→i≠18→m'.dD i=m.dD i
theorem QH {m:Mk} {l:List Ob} {src x:Nat} {av aH:List Nat} (hO:fH m.b 272 l m.b.length) (h:Chain m.b l src av aH) (hs:Src l src) (hb:m.b.length<900000) (hx:x<18446744073709551616) :
    ∃l',Linked m (m.link av aH.length src x).2.2 l l' src av (m.link av aH.length src x).1 aH x:=by
  unfold Mk.link
  rw[WJ]
  simp only
  split
  · rename_i hn
    have g:=h.grow hO hs (by omega) hn
    simp only at g
    obtain⟨U,V⟩:=g
    generalize hl1:l ++ [(⟨m.b.length,6,24+8*eu (av.length:Int)⟩:Ob)]=l1 at *
    generalize hq:(if av.length=0 then src else jK av+16)=q at V
    have E:(m.d9 (fI {next:=0,aH:=List.replicate (eu (av.length:Int)) 0})).2.b=m.b ++ FK (eu (av.length:Int)):=rfl
    have N:(m.d9 (fI {next:=0,aH:=List.replicate (eu (av.length:Int)) 0})).1=m.b.length:=rfl
    have B:=eO m (fI {next:=0,aH:=List.replicate (eu (av.length:Int)) 0})
    have H:(m.d9 (fI {next:=0,aH:=List.replicate (eu (av.length:Int)) 0})).2.depth=m.depth:=rfl
    have I:∀i,i≠6→i≠7→(m.d9 (fI {next:=0,aH:=List.replicate (eu (av.length:Int)) 0})).2.dD i=m.dD i:=fun i j n=>by
      simp only[Mk.d9]
      rw[fw (by omega),fw (by omega)];rfl
    generalize m.d9 (fI {next:=0,aH:=List.replicate (eu (av.length:Int)) 0})=r at *
    obtain⟨p,A⟩:=r
    simp only at E N B H I ⊢
    subst N
    have Z:=sC (av.length:Int)
    have R:=sB (k:=(av.length:Int)) (by omega)
    have z:A.b.length=m.b.length+(24+8*eu (av.length:Int)):=by rw[E];simp[Jy]
    have X:oO (av ++ [m.b.length]).length=oO av.length+eu (av.length:Int):=by simp[oO]
    have P:Src l1 src:=hs.mono fun o F=>by rw[← hl1];exact List.mem_append_left _ F
    have O:Body l1 q∧(q=src∨∃k c:Nat,(av ++ [m.b.length])[k]? = some c∧q=c+16):=by
      rw[← hq]
      split
      · exact⟨P.body,.inl rfl⟩
      · rename_i u
        obtain⟨p,G⟩:∃p,av[av.length-1]? = some p:=⟨_,List.getElem?_eq_getElem (by omega)⟩
        rw[kR G]
        have F:=h.ob _ _ G
        refine⟨.inr ⟨⟨p,6,24+8*eu ((av.length-1:Nat):Int)⟩,?_,Nat.le_refl _,?_⟩,.inr ⟨av.length-1,p,by rw[List.getElem?_append_left (by omega)];exact G,rfl⟩⟩
        · rw[← hl1];exact List.mem_append_left _ F
        · rw[iB];simp only;omega
    rw[E.symm]at U V
    have f:Eff (fun a=>a=q) A.b (jy A.b q m.b.length):=Eff.put _ _ _
    have T:fH (jy A.b q m.b.length) 272 l1 (jy A.b q m.b.length).length:=by
      rw[iI]
      exact U.lZ f (Nat.le_refl _) fun o F a C=>by subst C;exact U.body O.1 F
    have D:(av ++ [m.b.length])[(av ++ [m.b.length]).length-1]? = some m.b.length:=by simp
    have L:=V.put (x:=x) (p:=m.b.length) T P (Nat.le_refl _) hx (by simp) D (by rw[X];omega)
    have W:aH.length-oO ((av ++ [m.b.length]).length-1)=0:=by simp;omega
    rw[W]at L
    have K:Eff (fun a=>a=m.b.length+24+8*0) (jy A.b q m.b.length) (jy (jy A.b q m.b.length) (m.b.length+24+8*0) x):=Eff.put _ _ _
    have e:fH (jy (jy A.b q m.b.length) (m.b.length+24+8*0) x) 272 l1 (jy (jy A.b q m.b.length) (m.b.length+24+8*0) x).length:=by
      rw[iI]
      refine T.lZ K (Nat.le_refl _) fun o F a C=>?_
      subst C
      refine T.body (.inr ⟨⟨m.b.length,6,24+8*eu (av.length:Int)⟩,?_,?_,?_⟩) F
      · rw[← hl1];simp
      · simp only;omega
      · rw[iB];simp only;omega
    have Q:∀M:Mk,M=(if av.length=0 then(A.dW 18 ((A.dD 18+1)%18446744073709551616)).put src m.b.length else(A.dW 18 ((A.dD 18+1)%18446744073709551616)).put (jK av+16) m.b.length)→M.b=jy A.b q m.b.length∧M.c=A.c∧M.ai=A.ai∧M.aj=A.aj∧M.main=A.main∧M.depth=A.depth∧∀i,i≠18→M.dD i=A.dD i:=by
      intro M y
      subst y
      rw[← hq]
      split
      · exact⟨rfl,rfl,rfl,rfl,rfl,rfl,fun i hi=>fw (m:=A) (by omega)⟩
      · exact⟨rfl,rfl,rfl,rfl,rfl,rfl,fun i hi=>fw (m:=A) (by omega)⟩
    have d:=Q _ rfl
    clear Q
    generalize (if av.length=0 then(A.dW 18 ((A.dD 18+1)%18446744073709551616)).put src m.b.length else(A.dW 18 ((A.dD 18+1)%18446744073709551616)).put (jK av+16) m.b.length)=M at *
    obtain⟨S,d,kz3,kz4,kz5,kz6,kz7⟩:=d
    rw[kR D,show aH.length-oO av.length=0 by omega]
    rw[← S]at e L K
    have ml:(M.put (m.b.length+24+8*0) x).b=jy M.b (m.b.length+24+8*0) x:=rfl
    refine⟨l1,⟨by rw[ml];exact e,.inr hl1.symm,.inr rfl,by rw[ml];exact L,?_,by simp,?_,⟨d.trans B.1,kz3.trans B.2.1,kz4.trans B.2.2.1,kz5.trans B.2.2.2,kz6.trans H,fun i j n w=>(kz7 i w).trans (I i j n)⟩⟩⟩
    · rw[ml,S]
      have t:Eff (yZ src (av ++ [m.b.length])) m.b A.b:=by rw[E];exact Eff.app _ _ _
      refine t.trans ((f.mono fun a C=>?_).trans ((S ▸ K).mono fun a C=>?_))
      · subst C
        rcases O.2 with h|⟨k,c,N,v⟩
        · exact .inl h
        exact .inr ⟨k,c,N,by omega,by omega⟩
      subst C
      exact .inr ⟨av.length,m.b.length,by simp,by omega,by omega⟩
    rw[ml,iI,S,iI];omega
  rename_i hn
  have Ac:=h.lo
  have Y:=h.hi
  have J:av≠[]:=by rintro rfl;have N:aH.length≤0:=Y;have v:¬aH.length=0:=hn;omega
  have u:=List.length_pos_iff.2 J
  obtain⟨p,G⟩:∃p,av[av.length-1]? = some p:=⟨_,List.getElem?_eq_getElem (by omega)⟩
  rw[kR G]
  have L:=h.put hO hs (Nat.le_refl _) hx J G (by omega)
  have Ab:=h.le hO G
  have hc:oO av.length=oO (av.length-1)+eu ((av.length-1:Nat):Int):=by
    have:av.length=(av.length-1)+1:=by omega
    rw[this];rfl
  generalize hq:p+24+8*(aH.length-oO (av.length-1))=q at *
  have K:Eff (fun a=>a=q) m.b (jy m.b q x):=Eff.put _ _ _
  refine⟨l,⟨?_,.inl rfl,.inl rfl,L,K.mono fun a C=>?_,J,?_,⟨rfl,rfl,rfl,rfl,rfl,fun _ _ _ _=>rfl⟩⟩⟩
  · show fH (jy m.b q x) 272 l (jy m.b q x).length
    rw[iI]
    refine hO.lZ K (Nat.le_refl _) fun o F a C=>?_
    subst C
    refine hO.body (.inr ⟨_,h.ob _ _ G,?_,?_⟩) F
    · simp only;omega
    rw[iB];simp only;omega
  · subst C
    exact .inr ⟨av.length-1,p,G,by omega,by omega⟩
  show(jy m.b q x).length≤_
  rw[iI];omega
end Go.Wk
namespace Go.Wk
open Go Go.RowKit
def rG (l:List Ob) (a:Nat):Prop:=∀o∈l,(a+8≤o.bX∨o.bX+16≤a) ∧
  (o.kind=1→a+8≤o.bX+16∨o.bX+24≤a∧a+8≤o.bX+64∨o.bX+nV o.size≤a) ∧
  (o.kind=2→a+8≤o.bX+16∨o.bX+24≤a∧a+8≤o.bX+40∨o.bX+nV o.size≤a) ∧
  (o.kind=3→a+8≤o.bX∨o.bX+nV o.size≤a)
theorem yL {b:Ly} {l:List Ob} {e a:Nat} (hO:fH b 272 l e) {x:Ob} (hx:x∈l) (h1:x.bX+16≤a) (h2:a+8≤x.bX+nV x.size) (h3:x.kind≠3) (h4:x.kind=1→x.bX+24≤a∧a+8≤x.bX+64) (h5:x.kind=2→x.bX+24≤a∧a+8≤x.bX+40):rG l a:=by
  intro o A
  have:=eC o.size
  have:=eC x.size
  have:=(hO.mem A).size.1
  rcases hO.sep A hx with rfl|B|B
  · refine⟨by omega,fun h=>.inr (.inl (h4 h)),fun h=>.inr (.inl (h5 h)),fun h=>absurd h h3⟩
  · exact⟨by omega,fun _=>by omega,fun _=>by omega,fun _=>by omega⟩
  exact⟨by omega,fun _=>by omega,fun _=>by omega,fun _=>by omega⟩
theorem DN {b:Ly} {l:List Ob} {e a:Nat} (hO:fH b 272 l e) (h:a+8≤272):rG l a:=fun o ho=>by
  have:=(hO.mem ho).ge
  exact⟨by omega,fun _=>by omega,fun _=>by omega,fun _=>by omega⟩
theorem rG.mono {l r:List Ob} {a:Nat} (h:rG r a) (hs:∀o∈l,o∈r):rG l a:=fun o ho=>h o (hs o ho)
def oD (l:List Ob) (a:Nat):Prop:=∃o∈l,((o.kind=4∨o.kind=5)∧o.bX+16≤a∧a+8≤o.bX+nV o.size)∨(((o.kind=1∧64≤o.size)∨(o.kind=2∧40≤o.size))∧(a=o.bX+24∨a=o.bX+32))
theorem oD.mono {l r:List Ob} {a:Nat} (h:oD l a) (hs:∀o∈l,o∈r):oD r a:=by obtain⟨o,A,h⟩:=h;exact⟨o,hs o A,h⟩
theorem oD.ZF {b:Ly} {l:List Ob} {e a:Nat} (h:oD l a) (hO:fH b 272 l e):rG l a:=by
  obtain⟨o,B,⟨C,A,D⟩|⟨C,A⟩⟩:=h
  · exact yL hO B A D (by omega) (by omega) (by omega)
  have:=eC o.size
  exact yL hO B (by omega) (by omega) (by omega) (by omega) (by omega)
theorem oD.at {b:Ly} {l:List Ob} {e a:Nat} (h:oD l a) (hO:fH b 272 l e):272≤a∧a+8≤e∧∀o∈l,(o.kind=1→a+8≤o.bX+40∨o.bX+nV o.size≤a)∧(o.kind=6→a+8≤o.bX∨o.bX+nV o.size≤a):=by
  obtain⟨x,D,h⟩:=h
  have C:=hO.mem D
  have hk:=C.le
  have G:=C.ge
  have J:=eC x.size
  have B:x.bX+16≤a∧a+8≤x.bX+nV x.size∧x.kind≠6∧(x.kind=1→a+8≤x.bX+40):=by
    rcases h with⟨E,A,F⟩|⟨E,A⟩
    · exact⟨A,F,by omega,by omega⟩
    · exact⟨by omega,by omega,by omega,by omega⟩
  refine⟨by omega,by omega,fun o I=>?_⟩
  have:=eC o.size
  rcases hO.sep I D with rfl|H|H
  · exact⟨fun h=>.inl (B.2.2.2 h),fun h=>absurd h B.2.2.1⟩
  · exact⟨fun _=>by omega,fun _=>by omega⟩
  exact⟨fun _=>by omega,fun _=>by omega⟩
def ic (m:Mk) (s:Ly):Nat:=dS m.c.dx m.c.cV s
structure rM (b:Ly) (l:List Ob) (h:Nat) (k:bQ):Prop where
  ob:(⟨k.bX,1,64+k.cM.length⟩:Ob)∈l
  dY:fR b (k.bX+16)=h
  cM:seg b (k.bX+64) k.cM.length=k.cM
structure CB (b:Ly) (l:List Ob) (h:Nat) (k:bQ):Prop where
  ob:(⟨k.bX,2,40+k.cM.length⟩:Ob)∈l
  dY:fR b (k.bX+16)=h
  cM:seg b (k.bX+40) k.cM.length=k.cM
theorem rM.lZ {b c:Ly} {l r:List Ob} {n:Nat} {k:bQ} {S:Nat→Prop} (h:rM b l n k) (hO:fH b 272 l b.length) (he:Eff S b c) (hs:∀a,S a→rG l a) (hr:∀o∈l,o∈r):rM c r n k:=by
  have B:=(hO.mem h.ob).le
  have C:=eC (64+k.cM.length)
  refine⟨hr _ h.ob,(he.fR (by simp only at B;omega) fun a A=>?_).trans h.dY,(he.seg _ _ (by simp only at B;omega) fun a A=>?_).trans h.cM⟩
  · have:=(hs a A _ h.ob).2.1 rfl;simp only at this;omega
  have:=(hs a A _ h.ob).2.1 rfl;simp only at this;omega
theorem CB.lZ {b c:Ly} {l r:List Ob} {n:Nat} {k:bQ} {S:Nat→Prop} (h:CB b l n k) (hO:fH b 272 l b.length) (he:Eff S b c) (hs:∀a,S a→rG l a) (hr:∀o∈l,o∈r):CB c r n k:=by
  have B:=(hO.mem h.ob).le
  have C:=eC (40+k.cM.length)
  refine⟨hr _ h.ob,(he.fR (by simp only at B;omega) fun a A=>?_).trans h.dY,(he.seg _ _ (by simp only at B;omega) fun a A=>?_).trans h.cM⟩
  · have:=(hs a A _ h.ob).2.2.1 rfl;simp only at this;omega
  have:=(hs a A _ h.ob).2.2.1 rfl;simp only at this;omega
structure Stat (m:Mk) (l:List Ob):Prop where
  eS:fH m.b 272 l m.b.length
  XA:(⟨272,4,16+16*m.c.aQ⟩:Ob)∈l
  abo:(⟨288+16*m.c.aQ,5,16+16*m.c.aP⟩:Ob)∈l
  n2:m.dD 2=288
  n4:m.dD 4=304+16*m.c.aQ
  slots:1≤m.c.aQ∧1≤m.c.aP
  data:∀k∈m.ai,rM m.b l (ic m k.cM) k
  fld:∀k∈m.aj,CB m.b l (ic m k.cM) k
  one:∀i j:Nat,∀k k':bQ,m.ai[i]? = some k→m.ai[j]? = some k'→k.bX=k'.bX∨k.cM=k'.cM→i=j
  all:∀o∈l,o.kind=1→∃k∈m.ai,k.bX=o.bX
structure e4 (m m':Mk) (l l':List Ob):Prop where
  eS:fH m'.b 272 l' m'.b.length
  sub:∃t,l'=l ++ t∧∀o∈t,(o.kind=1∨o.kind=2)∧m.b.length≤o.bX
  lZ:Eff (oD l') m.b m'.b
  same:m'.c=m.c∧m'.main=m.main∧∀i,i≠6→i≠7→i<15→m'.dD i=m.dD i
theorem e4.mem {m m':Mk} {l l':List Ob} (h:e4 m m' l l'):∀o∈l,o∈l':=by obtain⟨t,e,_⟩:=h.sub;intro o A;rw[e];exact List.mem_append_left _ A
theorem e4.refl {m:Mk} {l:List Ob} (h:fH m.b 272 l m.b.length):e4 m m l l:=⟨h,⟨[],by simp,by simp⟩,Eff.refl _ _,q,q,fun _ _ _ _=>rfl⟩
theorem e4.trans {m m' m'':Mk} {l l' l'':List Ob} (h:e4 m m' l l') (k:e4 m' m'' l' l''):e4 m m'' l l'':=by
  obtain⟨t,e,F⟩:=h.sub
  obtain⟨u,f,G⟩:=k.sub
  have H:=h.lZ.len
  refine⟨k.eS,⟨t ++ u,by rw[f,e,List.append_assoc],fun o A=>?_⟩,(h.lZ.mono fun a E=>E.mono k.mem).trans k.lZ,k.same.1.trans h.same.1,k.same.2.1.trans h.same.2.1,fun i B C D=>(k.same.2.2 i B C D).trans (h.same.2.2 i B C D)⟩
  rcases List.mem_append.1 A with A|A
  · exact F o A
  have:=G o A;exact⟨this.1,by omega⟩
theorem e4.to {m m' m'':Mk} {l l':List Ob} (h:e4 m m' l l') (hb:m''.b=m'.b) (hc:m''.c=m'.c) (hm:m''.main=m'.main) (hn:∀i,i≠6→i≠7→i<15→m''.dD i=m'.dD i):e4 m m'' l l' :=
  ⟨by rw[hb];exact h.eS,h.sub,by rw[hb];exact h.lZ,hc.trans h.same.1,hm.trans h.same.2.1,fun i h1 h2 h3=>(hn i h1 h2 h3).trans (h.same.2.2 i h1 h2 h3)⟩
theorem e4.put {m:Mk} {l:List Ob} {a:Nat} (v:Nat) (hO:fH m.b 272 l m.b.length) (ha:oD l a):e4 m (m.put a v) l l:=by
  have B:=ha.ZF hO
  refine⟨?_,⟨[],by simp,by simp⟩,(Eff.put m.b a v).mono fun x A=>A ▸ ha,q,q,fun _ _ _ _=>rfl⟩
  show fH (jy m.b a v) 272 l (jy m.b a v).length
  rw[iI]
  exact hO.lZ (Eff.put m.b a v) (Nat.le_refl _) fun o C x A=>by subst A;exact(B o C).1
theorem Zt {o h r:Ly} (e:o=(h ++ r)) (hl:h.length=16):seg o 0 16=h:=by subst e;exact lO _ _ hl.symm
theorem e4.obj {m:Mk} {l:List Ob} {o r:Ly} {k s:Nat} (hO:fH m.b 272 l m.b.length) (hk:k=1∨k=2) (he:o=MQ k s ++ r) (hl:o.length=nV s) (h16:16≤s) (hs:s<1000000):e4 m (m.d9 o).2 l (l ++ [⟨m.b.length,k,s⟩]):=by
  have B:(m.d9 o).2.b=m.b ++ o:=rfl
  refine⟨?_,⟨_,q,fun x C=>?_⟩,by rw[B];exact Eff.app _ _ _,q,q,fun i F A G=>?_⟩
  · have D:=(hO.lZ (Eff.app (fun _=>False) m.b o) (Nat.le_refl _) (fun _ _ _ E=>E.elim)).app (o:=⟨m.b.length,k,s⟩) q (by simp only;omega) (by simp only;omega) h16 (by simp only;omega) ?_
    · rw[B,List.length_append,hl];exact D
    have A:=iv (x:=m.b) (y:=o) (p:=m.b.length) (n:=16) (Nat.le_refl _)
    rw[Nat.sub_self,Zt he (jQ _ _)]at A
    exact A
  · simp at C;subst C;exact⟨hk,Nat.le_refl _⟩
  simp only[Mk.d9]
  rw[fw (by omega),fw (by omega)];rfl
theorem wQ {dI:Nat}:∀(l:List bQ) (n q:Nat),(o7 dI l n q).1=n∧(o7 dI l n q).2=q∨n<(o7 dI l n q).1∧∃k∈l,(o7 dI l n q).2=k.bX
  | [],_,_=>.inl ⟨rfl,rfl⟩
  | k :: r,n,q=>by
    simp only[o7]
    split
    · rcases wQ (dI:=dI) r (n+1) k.bX with⟨h1,h2⟩|⟨h1,y,hy,h2⟩
      · exact .inr ⟨by omega,k,by simp,h2⟩
      · exact .inr ⟨by omega,y,by simp[hy],h2⟩
    · rcases wQ (dI:=dI) r n q with h|⟨h1,y,hy,h2⟩
      · exact .inl h
      · exact .inr ⟨h1,y,by simp[hy],h2⟩
theorem e4.hang {m:Mk} {l:List Ob} {ks:List bQ} {table p dI:Nat} (hO:fH m.b 272 l m.b.length) (ht:oD l (table+16*dI)∧oD l (table+16*dI+8)) (hk:∀k∈ks,oD l (k.bX+24)):e4 m (m.hang ks table p dI).2 l l:=by
  unfold Mk.hang
  have C:=wQ (dI:=dI) ks 0 0
  generalize o7 dI ks 0 0=r at *
  obtain⟨n,q⟩:=r
  simp only at C ⊢
  split
  · have A:=e4.put (m:=m) p hO ht.1
    exact A.trans (e4.put (m:=m.put (table+16*dI) p) p A.eS ht.2)
  rename_i hn
  have E:oD l (q+24):=by
    rcases C with⟨A,_⟩|⟨_,k,B,D⟩
    · omega
    · rw[D];exact hk k B
  have A:=e4.put (m:=m) p hO E
  exact A.trans (e4.put (m:=m.put (q+24) p) p A.eS ht.2)
end Go.Wk
namespace Go.Wk
open Go Go.RowKit
theorem uT (b o:Ly) (q:Nat):fR (b ++ o) (b.length+q)=fR o q:=by rw[iq (by omega),Nat.add_sub_cancel_left]
theorem LW (b o:Ly) (q n:Nat):seg (b ++ o) (b.length+q) n=seg o q n:=by rw[iv (by omega),Nat.add_sub_cancel_left]
theorem ae3 {k:Nat} (hk:1≤k∧k≤7) (ns:List Nat) (t:Ly) (hn:∀v∈ns,v<18446744073709551616) :
    (∃r,qD k (nums ns ++ t)=MQ k (16+8*ns.length+t.length) ++ r)∧(qD k (nums ns ++ t)).length=nV (16+8*ns.length+t.length) ∧
    (∀i v:Nat,ns[i]? = some v→fR (qD k (nums ns ++ t)) (16+8*i)=v)∧seg (qD k (nums ns ++ t)) (16+8*ns.length) t.length=t:=by
  have A:(nums ns ++ t).length=8*ns.length+t.length:=by simp[eI]
  rw[vN hk,A,show 16+(8*ns.length+t.length)=16+8*ns.length+t.length by omega]
  refine⟨⟨_,List.append_assoc _ _ _⟩,?_,fun i v h=>?_,?_⟩
  · rw[List.length_append,List.length_append,jQ,A,List.length_replicate];unfold nV;omega
  · rw[List.append_assoc,iq (by rw[jQ];omega),jQ,Nat.add_sub_cancel_left,List.append_assoc]
    exact lJ h (hn v (List.mem_of_getElem? h))
  rw[List.append_assoc,iv (by rw[jQ];omega),jQ,show 16+8*ns.length-16=8*ns.length by omega,List.append_assoc,iv (by rw[eI];omega),eI,Nat.sub_self]
  exact lO _ _ q
theorem zN (m:Mk) (s:Ly):ic m s<18446744073709551616:=zP _ _ _
theorem Stat.step {m m':Mk} {l l':List Ob} (h:Stat m l) (s:e4 m m' l l') (hd:∀k∈m'.ai,k∈m.ai∨rM m'.b l' (ic m k.cM) k) (hf:∀k∈m'.aj,k∈m.aj∨CB m'.b l' (ic m k.cM) k)
    (h1:∀i j:Nat,∀k k':bQ,m'.ai[i]? = some k→m'.ai[j]? = some k'→k.bX=k'.bX∨k.cM=k'.cM→i=j) (h2:∀o∈l',o.kind=1→∃k∈m'.ai,k.bX=o.bX):Stat m' l':=by
  have B:=s.mem
  have D:∀a,oD l' a→rG l a:=fun a F=>(F.ZF s.eS).mono B
  obtain⟨A,G,C⟩:=s.same
  have E:∀t,ic m' t=ic m t:=fun t=>by unfold ic;rw[A]
  refine⟨s.eS,by rw[A];exact B _ h.XA,by rw[A];exact B _ h.abo,(C 2 (by decide) (by decide) (by decide)).trans h.n2,by rw[A];exact(C 4 (by decide) (by decide) (by decide)).trans h.n4,by rw[A];exact h.slots,fun k hk=>?_,fun k hk=>?_,h1,h2⟩
  · rw[E]
    rcases hd k hk with hk|hk
    · exact(h.data k hk).lZ h.eS s.lZ D B
    exact hk
  rw[E]
  rcases hf k hk with hk|hk
  · exact(h.fld k hk).lZ h.eS s.lZ D B
  exact hk
theorem Stat.soft {m m':Mk} {l l':List Ob} (h:Stat m l) (s:e4 m m' l l') (hd:m'.ai=m.ai) (hf:m'.aj=m.aj) (hl:l'=l):Stat m' l' :=
  h.step s (fun k hk=>.inl (hd ▸ hk)) (fun k hk=>.inl (hf ▸ hk)) (by rw[hd];exact h.one) (by rw[hd,hl];exact h.all)
theorem agB {m:Mk} {l:List Ob} (h:Stat m l) {s:Nat} (hs:s<m.c.aQ):oD l (m.dD 2+16*s)∧oD l (m.dD 2+16*s+8):=by
  have:=eC (16+16*m.c.aQ)
  rw[h.n2]
  exact⟨⟨_,h.XA,.inl ⟨.inl q,by simp only;omega,by simp only;omega⟩⟩,⟨_,h.XA,.inl ⟨.inl q,by simp only;omega,by simp only;omega⟩⟩⟩
theorem agC {m:Mk} {l:List Ob} (h:Stat m l) {s:Nat} (hs:s<m.c.aP):oD l (m.dD 4+16*s)∧oD l (m.dD 4+16*s+8):=by
  have:=eC (16+16*m.c.aP)
  rw[h.n4]
  exact⟨⟨_,h.abo,.inl ⟨.inr q,by simp only;omega,by simp only;omega⟩⟩,⟨_,h.abo,.inl ⟨.inr q,by simp only;omega,by simp only;omega⟩⟩⟩
theorem YR {m:Mk} {l:List Ob} (h:Stat m l) (name:Ly) (hn:name.length≤1000) :
    ∃l',e4 m (m.field name).2 l l'∧Stat (m.field name).2 l'∧(∃k∈(m.field name).2.aj,k.bX=(m.field name).1)∧(m.field name).2.ai=m.ai:=by
  unfold Mk.field
  cases hk:r5 name m.aj with
  | some p =>
    obtain⟨k,P,Q,_⟩:=CS hk
    exact⟨l,e4.refl h.eS,h,⟨k,P,Q⟩,q⟩
  | none =>
    simp only
    generalize hF:gR {dY:=dS m.c.dx m.c.cV name,dc:=0,dat:=0,aG:=name}=o
    have N:o=qD 2 (nums [ic m name,0,0] ++ name):=hF.symm
    obtain⟨⟨r,K⟩,L,T,M⟩:=ae3 (k:=2) (by decide) [ic m name,0,0] name (by have:=zN m name;intro v g;simp at g;omega)
    rw[← N]at K L T M
    simp only[List.length_cons,List.length_nil,Nat.zero_add,Nat.reduceAdd,Nat.reduceMul]at K L M
    have G:=e4.obj (m:=m) (o:=o) h.eS (.inr q) K L (by omega) (by omega)
    have O:(m.d9 o).2.b=m.b ++ o:=rfl
    have U:(m.d9 o).1=m.b.length:=rfl
    have H:=eO m o
    have V:(m.d9 o).2.dD 4=m.dD 4:=by simp only[Mk.d9];rw[fw (by omega),fw (by omega)];rfl
    generalize m.d9 o=z at *
    obtain⟨p,A⟩:=z
    simp only at G O U H V ⊢
    subst U
    have f:dS m.c.dx m.c.cV name%A.c.aP<m.c.aP:=by rw[H.1];exact Nat.mod_lt _ (by have:=h.slots;omega)
    have R:=agC h f
    rw[← V]at R
    have I:=e4.hang (m:=A) (p:=m.b.length) (ks:=A.aj) G.eS ⟨R.1.mono G.mem,R.2.mono G.mem⟩ (fun k hk=>by
      rw[H.2.2.1]at hk
      have:=(h.fld k hk).ob
      exact⟨_,G.mem _ this,.inr ⟨.inr ⟨q,by simp only;omega⟩,.inl q⟩⟩)
    have D:=iw A A.aj (A.dD 4) m.b.length (dS m.c.dx m.c.cV name%A.c.aP)
    generalize A.hang A.aj (A.dD 4) m.b.length (dS m.c.dx m.c.cV name%A.c.aP)=z at *
    obtain⟨n,B⟩:=z
    simp only at I D ⊢
    obtain⟨w,Z,d,y,d5,d6⟩:=D
    have W:=G.trans I
    obtain⟨F,E⟩:∃F,F=({({B with depth:=max A.depth n}:Mk).dW 16 ((({B with depth:=max A.depth n}:Mk).dD 16+1)%18446744073709551616)with aj:=(({B with depth:=max A.depth n}:Mk).dW 16 ((({B with depth:=max A.depth n}:Mk).dD 16+1)%18446744073709551616)).aj ++ [({cM:=name,bX:=m.b.length,dI:=dS m.c.dx m.c.cV name%A.c.aP,cr:=0,bg:=[]}:bQ)]}:Mk):=⟨_,q⟩
    show ∃l',e4 m ({({B with depth:=max A.depth n}:Mk).dW 16 ((({B with depth:=max A.depth n}:Mk).dD 16+1)%18446744073709551616)with aj:=(({B with depth:=max A.depth n}:Mk).dW 16 ((({B with depth:=max A.depth n}:Mk).dD 16+1)%18446744073709551616)).aj ++ [({cM:=name,bX:=m.b.length,dI:=dS m.c.dx m.c.cV name%A.c.aP,cr:=0,bg:=[]}:bQ)]}:Mk) l l'∧Stat ({({B with depth:=max A.depth n}:Mk).dW 16 ((({B with depth:=max A.depth n}:Mk).dD 16+1)%18446744073709551616)with aj:=(({B with depth:=max A.depth n}:Mk).dW 16 ((({B with depth:=max A.depth n}:Mk).dD 16+1)%18446744073709551616)).aj ++ [({cM:=name,bX:=m.b.length,dI:=dS m.c.dx m.c.cV name%A.c.aP,cr:=0,bg:=[]}:bQ)]}:Mk) l'∧(∃k∈({({B with depth:=max A.depth n}:Mk).dW 16 ((({B with depth:=max A.depth n}:Mk).dD 16+1)%18446744073709551616)with aj:=(({B with depth:=max A.depth n}:Mk).dW 16 ((({B with depth:=max A.depth n}:Mk).dD 16+1)%18446744073709551616)).aj ++ [({cM:=name,bX:=m.b.length,dI:=dS m.c.dx m.c.cV name%A.c.aP,cr:=0,bg:=[]}:bQ)]}:Mk).aj,k.bX=m.b.length)∧({({B with depth:=max A.depth n}:Mk).dW 16 ((({B with depth:=max A.depth n}:Mk).dD 16+1)%18446744073709551616)with aj:=(({B with depth:=max A.depth n}:Mk).dW 16 ((({B with depth:=max A.depth n}:Mk).dD 16+1)%18446744073709551616)).aj ++ [({cM:=name,bX:=m.b.length,dI:=dS m.c.dx m.c.cV name%A.c.aP,cr:=0,bg:=[]}:bQ)]}:Mk).ai=m.ai
    rw[← E]
    have J:F.b=B.b∧F.c=B.c∧F.main=B.main∧F.ai=B.ai∧F.aj=B.aj ++ [({cM:=name,bX:=m.b.length,dI:=dS m.c.dx m.c.cV name%A.c.aP,cr:=0,bg:=[]}:bQ)]:=by subst E;exact⟨q,q,q,q,q⟩
    have S4:=W.to (m'':=F) J.1 J.2.1 J.2.2.1 (fun i _ _ h3=>by
      subst E
      exact(fw (m:={B with depth:=max A.depth n}) (by omega)))
    clear E
    obtain⟨X,t,u,Y,S⟩:=J
    have C:F.ai=m.ai:=by rw[Y,Z,H.2.1]
    refine⟨_,S4,h.step S4 (fun k hk=>.inl (C ▸ hk)) (fun k hk=>?_) (by rw[C];exact h.one) (fun x E hk=>?_),?_,C⟩
    · rw[S,d,H.2.2.1,List.mem_append,List.mem_singleton]at hk
      rcases hk with hk|rfl
      · exact .inl hk
      · right
        have j:CB A.b (l ++ [⟨m.b.length,2,40+name.length⟩]) (ic m name) ({cM:=name,bX:=m.b.length,dI:=dS m.c.dx m.c.cV name%A.c.aP,cr:=0,bg:=[]}:bQ):=by
          refine⟨by simp,?_,?_⟩
          · rw[O,uT];exact T 0 _ q
          · rw[O,LW];exact M
        rw[X]
        exact j.lZ G.eS I.lZ (fun a e=>e.ZF I.eS) fun _ h=>h
    · rcases List.mem_append.1 E with E|E
      · rw[C];exact h.all x E hk
      · simp at E;subst E;simp at hk
    · exact⟨({cM:=name,bX:=m.b.length,dI:=dS m.c.dx m.c.cV name%A.c.aP,cr:=0,bg:=[]}:bQ),by rw[S];simp,q⟩
theorem CR:∀{s:Ly} {l:List bQ} {j i:Nat},nG s l j=some i→∃k,l[i-j]? = some k∧k.cM=s∧j≤i
  | s,[],j,i,h=>by simp[nG]at h
  | s,x :: l,j,i,h=>by
    simp only[nG]at h
    split at h
    · rename_i hx;simp at h;subst h;exact⟨x,by simp,hx,Nat.le_refl _⟩
    · obtain⟨k,h1,h2,h3⟩:=CR h
      exact⟨k,by rw[show i-j=(i-(j+1))+1 by omega];simpa using h1,h2,by omega⟩
theorem zC:∀{s:Ly} {l:List bQ} {j:Nat},nG s l j=none→∀k∈l,k.cM≠s
  | s,[],j,_,k,hk=>by simp at hk
  | s,x :: l,j,h,k,hk=>by
    simp only[nG]at h
    split at h
    · cases h
    · rename_i hx
      rcases List.mem_cons.1 hk with rfl|hk
      · exact hx
      · exact zC h k hk
structure xH (b:Ly) (p:Nat):Prop where
  ent:fR b (p+40)=0
  arr:fR b (p+48)=0
  cnt:fR b (p+56)=0
theorem xH.lZ {b c:Ly} {l l':List Ob} {p s:Nat} (h:xH b p) (ho:(⟨p,1,s⟩:Ob)∈l) (hs:64≤s) (hO:fH b 272 l b.length) (hO':fH c 272 l' c.length) (hm:∀o∈l,o∈l') (he:Eff (oD l') b c):xH c p:=by
  have B:=(hO.mem ho).le
  have E:=eC s
  simp only at B
  have A:∀q,40≤q→q≤56→fR c (p+q)=fR b (p+q):=fun q F D=>he.fR (by omega) fun a C=>by
    have:=((C.at hO').2.2 _ (hm _ ho)).1 rfl;simp only at this;omega
  exact⟨(A 40 (by omega) (by omega)).trans h.ent,(A 48 (by omega) (by omega)).trans h.arr,(A 56 (by omega) (by omega)).trans h.cnt⟩
structure yX (m m':Mk) (l l':List Ob) (i:Nat) (t:Ly):Prop where
  step:e4 m m' l l'
  fJ:Stat m' l'
  got:∃k,m'.ai[i]? = some k∧k.cM=t
  new:m'.ai=m.ai∨∃s p,m'.ai=m.ai ++ [({cM:=t,bX:=p,dI:=s,cr:=0,bg:=[]}:bQ)]∧xH m'.b p∧m.b.length≤p
theorem abK {m:Mk} {l:List Ob} (h:Stat m l) (x:Pr) (hx:x.name.length≤64∧x.value.length≤256):∃l',yX m (m.data x).2 l l' (m.data x).1 (aG x):=by
  unfold Mk.data
  cases hk:nG (aG x) m.ai 0 with
  | some i =>
    obtain⟨k,L,H,_⟩:=CR hk
    exact⟨l,e4.refl h.eS,h,⟨k,by simpa using L,H⟩,.inl q⟩
  | none =>
    simp only
    have Ak:=zC hk
    have A3:=jN x
    generalize hF:iH {dY:=dS m.c.dx m.c.cV (aG x),dc:=0,ec:=0,entry:=0,array:=0,cr:=0,aG:=aG x}=o
    have Af:o=qD 1 (nums [ic m (aG x),0,0,0,0,0] ++ aG x):=hF.symm
    obtain⟨⟨r,w⟩,f2,S,f4⟩:=ae3 (k:=1) (by decide) [ic m (aG x),0,0,0,0,0] (aG x) (by have:=zN m (aG x);intro v hv;simp at hv;omega)
    rw[← Af]at w f2 S f4
    simp only[List.length_cons,List.length_nil,Nat.zero_add,Nat.reduceAdd,Nat.reduceMul]at w f2 f4
    have J:=e4.obj (m:=m) (o:=o) h.eS (.inl q) w f2 (by omega) (by omega)
    have P:(m.d9 o).2.b=m.b ++ o:=rfl
    have g1:(m.d9 o).1=m.b.length:=rfl
    have T:=eO m o
    have g4:(m.d9 o).2.dD 2=m.dD 2:=by simp only[Mk.d9];rw[fw (by omega),fw (by omega)];rfl
    generalize m.d9 o=z at *
    obtain⟨p,D⟩:=z
    simp only at J P g1 T g4 ⊢
    subst g1
    have hs:dS m.c.dx m.c.cV (aG x)%D.c.aQ<m.c.aQ:=by rw[T.1];exact Nat.mod_lt _ (by have:=h.slots;omega)
    have tt:=agB h hs
    rw[← g4]at tt
    have K:=e4.hang (m:=D) (p:=m.b.length) (ks:=D.ai) J.eS ⟨tt.1.mono J.mem,tt.2.mono J.mem⟩ (fun k hk=>by
      rw[T.2.1]at hk
      have:=(h.data k hk).ob
      exact⟨_,J.mem _ this,.inr ⟨.inl ⟨q,by simp only;omega⟩,.inl q⟩⟩)
    have F:=iw D D.ai (D.dD 2) m.b.length (dS m.c.dx m.c.cV (aG x)%D.c.aQ)
    generalize hsl:dS m.c.dx m.c.cV (aG x)%D.c.aQ=dI at *
    generalize D.hang D.ai (D.dD 2) m.b.length dI=z at *
    obtain⟨n,B⟩:=z
    simp only at K F ⊢
    obtain⟨d1,d2,d3,d4,d5,d6⟩:=F
    have S3:=J.trans K
    generalize hx5:({(B.dW 19 (max (B.dD 19) n)).dW 15 (((B.dW 19 (max (B.dD 19) n)).dD 15+1)%18446744073709551616)with ai:=((B.dW 19 (max (B.dD 19) n)).dW 15 (((B.dW 19 (max (B.dD 19) n)).dD 15+1)%18446744073709551616)).ai ++ [({cM:=aG x,bX:=m.b.length,dI:=dI,cr:=0,bg:=[]}:bQ)]}:Mk)=m5
    have f:m5.b=B.b∧m5.c=B.c∧m5.main=B.main∧m5.aj=B.aj∧m5.ai=B.ai ++ [({cM:=aG x,bX:=m.b.length,dI:=dI,cr:=0,bg:=[]}:bQ)]:=by subst hx5;exact⟨q,q,q,q,q⟩
    have t:=S3.to (m'':=m5) f.1 f.2.1 f.2.2.1 (fun i _ _ h3=>by
      subst hx5
      exact(fw (m:=B.dW 19 (max (B.dD 19) n)) (by omega)).trans (fw (by omega)))
    clear hx5
    obtain⟨a1,a2,a3,a4,a5⟩:=f
    have I:m5.ai=m.ai ++ [({cM:=aG x,bX:=m.b.length,dI:=dI,cr:=0,bg:=[]}:bQ)]:=by rw[a5,d2,T.2.1]
    have Ag:m5.aj=m.aj:=by rw[a4,d3,T.2.2.1]
    have C:(⟨m.b.length,1,64+(aG x).length⟩:Ob)∈l ++ [⟨m.b.length,1,64+(aG x).length⟩]:=by simp
    have Am:Stat m5 (l ++ [⟨m.b.length,1,64+(aG x).length⟩]):=by
      refine h.step t (fun k hk=>?_) (fun k hk=>.inl (Ag ▸ hk)) (fun i j k g G hj E=>?_) (fun y Q hk=>?_)
      · rw[I,List.mem_append,List.mem_singleton]at hk
        rcases hk with hk|rfl
        · exact .inl hk
        · right
          have k0:rM D.b (l ++ [⟨m.b.length,1,64+(aG x).length⟩]) (ic m (aG x)) ({cM:=aG x,bX:=m.b.length,dI:=dI,cr:=0,bg:=[]}:bQ):=by
            refine⟨C,?_,?_⟩
            · rw[P,uT];exact S 0 _ q
            · rw[P,LW];exact f4
          rw[a1]
          exact k0.lZ J.eS K.lZ (fun a ha=>ha.ZF K.eS) fun _ h=>h
      · rw[I]at G hj
        have Z:∀(i:Nat) (k:bQ),m.ai[i]? = some k→k.bX+16≤m.b.length∧k.cM≠aG x:=fun i k G=>by
          have hm:=List.mem_of_getElem? G
          have:=(h.eS.mem (h.data k hm).ob).le
          have:=eC (64+k.cM.length)
          simp only at *
          exact⟨by omega,Ak k hm⟩
        have A:∀(i:Nat) (k:bQ),(m.ai ++ [({cM:=aG x,bX:=m.b.length,dI:=dI,cr:=0,bg:=[]}:bQ)])[i]? = some k→(m.ai[i]? = some k)∨i=m.ai.length∧k={cM:=aG x,bX:=m.b.length,dI:=dI,cr:=0,bg:=[]}:=fun i k G=>by
          rcases Nat.lt_or_ge i m.ai.length with hl|hl
          · rw[List.getElem?_append_left hl]at G;exact .inl G
          · have Aj:=(List.getElem?_eq_some_iff.1 G).1
            simp at Aj
            rw[List.getElem?_append_right hl,show i-m.ai.length=0 by omega]at G
            exact .inr ⟨by omega,by simpa using G.symm⟩
        rcases A i k G with L|⟨L,rfl⟩
        · rcases A j g hj with H|⟨H,rfl⟩
          · exact h.one i j k g L H E
          · have:=Z i k L
            rcases E with E|E
            · simp only at E;omega
            · exact absurd E this.2
        · rcases A j g hj with H|⟨H,rfl⟩
          · have:=Z j g H
            rcases E with E|E
            · simp only at E;omega
            · exact absurd E.symm this.2
          · omega
      · rw[I]
        rcases List.mem_append.1 Q with Q|Q
        · obtain⟨k,L,H⟩:=h.all y Q hk
          exact⟨k,List.mem_append_left _ L,H⟩
        · simp at Q;subst Q
          exact⟨({cM:=aG x,bX:=m.b.length,dI:=dI,cr:=0,bg:=[]}:bQ),List.mem_append_right _ (by simp),q⟩
    have Ac:xH D.b m.b.length:=⟨by rw[P,uT];exact S 3 _ q,by rw[P,uT];exact S 4 _ q,by rw[P,uT];exact S 5 _ q⟩
    have Ad:xH m5.b m.b.length:=by
      rw[a1];exact Ac.lZ C (by omega) J.eS K.eS K.mem K.lZ
    obtain⟨l6,d,O,⟨R,X,Y⟩,U⟩:=YR Am x.name (by omega)
    have W:=(O.fld R X).ob
    generalize m5.field x.name=z at *
    obtain⟨k,N⟩:=z
    simp only at d O Y U X W ⊢
    subst Y
    have M:=d.mem _ C
    have sp:oD l6 (m.b.length+32):=⟨_,M,.inr ⟨.inl ⟨q,by simp only;omega⟩,.inr q⟩⟩
    have sk:oD l6 (R.bX+32):=⟨_,W,.inr ⟨.inr ⟨q,by simp only;omega⟩,.inr q⟩⟩
    have u:=e4.put (m:=N) (oG N.b (R.bX+32:Nat) 8).1 d.eS sp
    have Ao:=O.soft u q q q
    have S8:=e4.put (m:=N.put (m.b.length+32) (oG N.b (R.bX+32:Nat) 8).1) m.b.length u.eS sk
    have Ap:=Ao.soft S8 q q q
    have e:=d.trans (u.trans S8)
    have V:((N.put (m.b.length+32) (oG N.b (R.bX+32:Nat) 8).1).put (R.bX+32) m.b.length).ai=m.ai ++ [({cM:=aG x,bX:=m.b.length,dI:=dI,cr:=0,bg:=[]}:bQ)]:=by
      show N.ai=_
      rw[U,I]
    have Ae:=Ad.lZ C (by omega) t.eS e.eS e.mem e.lZ
    refine⟨l6,t.trans e,Ap,⟨({cM:=aG x,bX:=m.b.length,dI:=dI,cr:=0,bg:=[]}:bQ),by rw[V];simp,q⟩,.inr ⟨dI,m.b.length,V,Ae,Nat.le_refl _⟩⟩
end Go.Wk
namespace Go.Wk
open Go Go.RowKit
structure ud (b:Ly) (l:List Ob) (k:bQ) (ps:List Nat):Prop where
  cnt:k.cr=ps.length
  word:fR b (k.bX+56)=ps.length
  ent:fR b (k.bX+40)=ps.getD 0 0
  chain:Chain b l (k.bX+48) k.bg (ps.drop 1)
theorem yH {b:Ly} {l:List Ob} {n:Nat} {k:bQ} (h:rM b l n k):Src l (k.bX+48):=by
  have:=eC (64+k.cM.length)
  exact .inr ⟨_,h.ob,by simp,by simp only;omega,by simp only;omega⟩
theorem rX (l:List Ob):Src l 176:=.inl (by decide)
theorem ud.lZ {b c:Ly} {l r:List Ob} {n:Nat} {k:bQ} {ps:List Nat} {S:Nat→Prop} (h:ud b l k ps) (hs:rM b l n k) (hO:fH b 272 l b.length) (he:Eff S b c) (hr:∀o∈l,o∈r)
    (h1:∀a,S a→a+8≤k.bX+40∨k.bX+64≤a) (h2:∀i x:Nat,k.bg[i]? = some x→∀a,S a→a+8≤x+16∨x+24+8*eu (i:Int)≤a):ud c r k ps:=by
  have B:=(hO.mem hs.ob).le
  have C:=eC (64+k.cM.length)
  simp only at B
  refine⟨h.cnt,(he.fR (by omega) fun a A=>?_).trans h.word,(he.fR (by omega) fun a A=>?_).trans h.ent,h.chain.lZ hO (yH hs) (Nat.le_refl _) he hr (fun a A=>?_) h2⟩
  · have:=h1 a A;omega
  · have:=h1 a A;omega
  have:=h1 a A;omega
theorem Chain.ug {b b':Ly} {l l':List Ob} {src e:Nat} {av aH:List Nat} (h:Chain b l src av aH) (hO:fH b' 272 l' e) (hm:∀o∈l,o∈l') {i x a:Nat} (hx:av[i]? = some x) (ha:∀o∈l',o.kind=6→a+8≤o.bX∨o.bX+nV o.size≤a):a+8≤x+16∨x+24+8*eu (i:Int)≤a:=by
  have:=ha _ (hm _ (h.ob i x hx)) q
  rw[iB]at this
  simp only at this
  omega
theorem ud.soft {b c:Ly} {l r:List Ob} {n:Nat} {k:bQ} {ps:List Nat} (h:ud b l k ps) (hs:rM b l n k) (hO:fH b 272 l b.length) (hO':fH c 272 r c.length) (he:Eff (oD r) b c) (hr:∀o∈l,o∈r):ud c r k ps:=by
  have D:=eC (64+k.cM.length)
  refine h.lZ hs hO he hr (fun a A=>?_) (fun i x C a A=>?_)
  · have:=((A.at hO').2.2 _ (hr _ hs.ob)).1 q
    simp only at this;omega
  exact h.chain.ug hO' hr C fun o B hk=>((A.at hO').2.2 o B).2 hk
theorem UD {b c:Ly} {l r:List Ob} {av aH:List Nat} (h:Chain b l 176 av aH) (hO:fH b 272 l b.length) (hO':fH c 272 r c.length) (he:Eff (oD r) b c) (hr:∀o∈l,o∈r):Chain c r 176 av aH:=by
  refine h.lZ hO (rX l) (Nat.le_refl _) he hr (fun a B=>?_) (fun i x D a B=>?_)
  · have:=(B.at hO').1;omega
  exact h.ug hO' hr D fun o C hk=>((B.at hO').2.2 o C).2 hk
theorem ud.new {b:Ly} {l:List Ob} {k:bQ} (h:xH b k.bX) (hc:k.cr=0) (ha:k.bg=[]):ud b l k []:=by
  refine⟨hc,h.cnt,h.ent,?_⟩
  rw[ha]
  exact⟨h.arr,by simp,by simp,by simp,by simp,Nat.le_refl _,Nat.le_refl _⟩
def ab4 (k:bQ) (av:List Nat) (a:Nat):Prop:=a=k.bX+40∨a=k.bX+56∨yZ (k.bX+48) av a
structure ab5 (m m':Mk) (l l':List Ob) (i e:Nat) (k k':bQ) (ps:List Nat):Prop where
  eS:fH m'.b 272 l' m'.b.length
  sub:∃t,l'=l ++ t∧∀o∈t,o.kind=6∧m.b.length≤o.bX
  dat:m'.ai=m.ai.set i k'
  bX:k'.bX=k.bX∧k'.cM=k.cM∧k'.dI=k.dI
  arr:k'.bg=k.bg∨k'.bg=k.bg ++ [m.b.length]
  more:ud m'.b l' k' (ps ++ [e])
  lZ:Eff (ab4 k k'.bg) m.b m'.b
  top:m'.b.length≤m.b.length+2100
  same:m'.c=m.c∧m'.aj=m.aj∧m'.main=m.main∧m'.depth=m.depth∧∀i,i≠6→i≠7→i≠18→m'.dD i=m.dD i
theorem PY {b:Ly} {l r:List Ob} {e n:Nat} {k:bQ} (hO:fH b 272 r e) (hm:∀o∈l,o∈r) {c:Ly} (hs:rM c l n k):∀o∈r,o.kind=6→k.bX+64≤o.bX∨o.bX+nV o.size≤k.bX:=fun o ho h6=>by
  have hu:=eC (64+k.cM.length)
  rcases hO.sep ho (hm _ hs.ob)with rfl|hh|hh
  · simp at h6
  · exact .inr hh
  · simp only at hh;exact .inl (by omega)
theorem FT {b c:Ly} {l r:List Ob} {n:Nat} {k:bQ} (hs:rM c l n k) (hm:∀o∈l,o∈r) (hO:fH b 272 r b.length) {q:Nat} (v:Nat) (hq:q=k.bX+40∨q=k.bX+56):fH (jy b q v) 272 r (jy b q v).length:=by
  have C:=eC (64+k.cM.length)
  rw[iI]
  exact hO.lZ (Eff.put b q v) (Nat.le_refl _) fun o B a A=>by subst A;exact hO.body (.inr ⟨_,hm _ hs.ob,by simp only;omega,by simp only;omega⟩) B
theorem TP {m:Mk} {l:List Ob} {i e n:Nat} {k:bQ} {ps:List Nat} (hO:fH m.b 272 l m.b.length) (hk:m.ai[i]? = some k) (hs:rM m.b l n k) (hd:ud m.b l k ps) (hb:m.b.length<900000) (he:e<18446744073709551616) (h0:k.cr=0) :
    ∃l' k',ab5 m (kN e i m) l l' i e k k' ps:=by
  have E:m.ai.getD i known0=k:=by simp[List.getD,hk]
  have V:=(hO.mem hs.ob).le
  have Z:=eC (64+k.cM.length)
  simp only at V
  have J:=hd.cnt
  unfold kN
  simp only[E]
  rw[if_pos h0]
  have F:ps=[]:=List.eq_nil_of_length_eq_zero (by omega)
  subst F
  have R:=FT hs (fun _ h=>h) hO e (q:=k.bX+40) (.inl rfl)
  have S:=FT hs (fun _ h=>h) R 1 (q:=k.bX+56) (.inr rfl)
  have I:Eff (fun a=>a=k.bX+40∨a=k.bX+56) m.b (jy (jy m.b (k.bX+40) e) (k.bX+56) 1):=((Eff.put _ _ _).mono fun a A=>.inl A).trans ((Eff.put _ _ _).mono fun a A=>.inr A)
  have U:(jy (jy m.b (k.bX+40) e) (k.bX+56) 1).length=m.b.length:=by rw[iI,iI]
  have D:((m.put (k.bX+40) e).put (k.bX+56) 1).b=jy (jy m.b (k.bX+40) e) (k.bX+56) 1:=rfl
  have C:=kT m (k.bX+40) e
  have Y:=kT (m.put (k.bX+40) e) (k.bX+56) 1
  generalize (m.put (k.bX+40) e).put (k.bX+56) 1=M at *
  obtain⟨L,K,N,O,Q,P⟩:=Y
  rw[C.1]at L;rw[C.2.1]at K;rw[C.2.2.1]at N;rw[C.2.2.2.1]at O;rw[C.2.2.2.2.1]at Q;rw[C.2.2.2.2.2]at P
  clear C
  generalize hB:jy (jy m.b (k.bX+40) e) (k.bX+56) 1=B at *
  subst D
  have H:fR M.b (k.bX+56)=1:=by rw[← hB];exact mA (by rw[iI];omega) (by decide)
  have G:fR M.b (k.bX+40)=e:=by rw[← hB];exact(pG (by omega)).trans (mA (by omega) he)
  clear hB
  refine⟨l,{k with cr:=1},S,⟨[],(List.append_nil l).symm,by simp⟩,?_,⟨rfl,rfl,rfl⟩,.inl rfl,⟨rfl,H,G,?_⟩,I.mono fun a A=>A.elim .inl fun h=>.inr (.inl h),?_,⟨L,N,O,P,fun j _ _ _=>?_⟩⟩
  · show M.ai.set i _=_
    rw[K]
  · refine hd.chain.lZ hO (yH hs) (Nat.le_refl _) I (fun _ h=>h) (fun a A=>by omega) (fun j x X a A=>?_)
    exact hd.chain.ug hO (fun _ h=>h) X fun o W T=>by have:=PY hO (fun _ h=>h) hs o W T;omega
  · show M.b.length≤_
    omega
  show M.h.n.getD j 0=_
  rw[Q];rfl
theorem TN {m:Mk} {l:List Ob} {i e n:Nat} {k:bQ} {ps:List Nat} (hO:fH m.b 272 l m.b.length) (hk:m.ai[i]? = some k) (hs:rM m.b l n k) (hd:ud m.b l k ps) (hb:m.b.length<900000) (he:e<18446744073709551616) (hp:ps.length<1000000) (h0:¬k.cr=0) :
    ∃l' k',ab5 m (kN e i m) l l' i e k k' ps:=by
  have H:m.ai.getD i known0=k:=by simp[List.getD,hk]
  have P:=(hO.mem hs.ob).le
  have U:=eC (64+k.cM.length)
  simp only at P
  have A:=hd.cnt
  unfold kN
  simp only[H]
  rw[if_neg h0]
  have N:k.cr-1=(ps.drop 1).length:=by simp;omega
  rw[N]
  obtain⟨l',L⟩:=QH (x:=e) hO hd.chain (yH hs) hb he
  have O:=L.lZ.len
  have B:∀o∈l,o∈l':=by
    rcases L.sub with h|h
    · rw[h];exact fun _ h=>h
    · rw[h];exact fun o E=>List.mem_append_left _ E
  have R:=MY m.b (k.bX+40)
  generalize m.link k.bg (ps.drop 1).length (k.bX+48) e=r at *
  obtain⟨a,t,F⟩:=r
  simp only at L O ⊢
  have J:=FT hs B L.eS (k.cr+1) (q:=k.bX+56) (.inr rfl)
  have I:Eff (fun a=>a=k.bX+56) F.b (jy F.b (k.bX+56) (k.cr+1)):=Eff.put _ _ _
  have Q:⟨k.bX,1,64+k.cM.length⟩∈l':=B _ hs.ob
  have D:Src l' (k.bX+48):=(yH hs).mono B
  have hsep':=PY L.eS B hs
  have G:fR F.b (k.bX+40)=fR m.b (k.bX+40):=L.lZ.fR (by omega) fun x C=>by
    rcases C with rfl|⟨j,c,K,S,T⟩
    · omega
    · have:=hsep' _ (L.chain.ob j c K) rfl
      rw[iB]at this;simp only at this;omega
  refine⟨l',{k with bg:=a,cr:=k.cr+1},J,?_,?_,⟨rfl,rfl,rfl⟩,L.arr,⟨?_,?_,?_,?_⟩,?_,?_,⟨L.same.1,L.same.2.2.1,L.same.2.2.2.1,L.same.2.2.2.2.1,L.same.2.2.2.2.2⟩⟩
  · rcases L.sub with h|h
    · exact⟨[],by simp[h],by simp⟩
    exact⟨_,h,by intro o E;simp at E;subst E;exact⟨rfl,Nat.le_refl _⟩⟩
  · show F.ai.set i _=_
    rw[L.same.2.1]
  · show k.cr+1=_
    simp;omega
  · refine(mA (by omega) (by omega)).trans ?_
    simp;omega
  · show fR (jy F.b (k.bX+56) (k.cr+1)) (k.bX+40)=_
    rw[pG (by omega),G,hd.ent]
    cases ps with
    | nil=>simp at A;exact absurd A h0
    | cons y r=>rfl
  · have:(ps ++ [e]).drop 1=ps.drop 1 ++ [e]:=by
      cases ps with
      | nil=>simp at A;exact absurd A h0
      | cons y r=>rfl
    rw[this]
    refine L.chain.lZ L.eS D (Nat.le_refl _) I (fun _ h=>h) (fun x C=>by omega) (fun j x C y V=>?_)
    exact L.chain.ug L.eS (fun _ h=>h) C fun o E M=>by have:=hsep' o E M;omega
  · exact(L.lZ.mono fun x C=>.inr (.inr C)).trans (I.mono fun x C=>.inr (.inl C))
  show(jy F.b (k.bX+56) (k.cr+1)).length≤_
  rw[iI];exact L.top
theorem Zn {m:Mk} {l:List Ob} {i e n:Nat} {k:bQ} {ps:List Nat} (hO:fH m.b 272 l m.b.length) (hk:m.ai[i]? = some k) (hs:rM m.b l n k) (hd:ud m.b l k ps) (hb:m.b.length<900000) (he:e<18446744073709551616) (hp:ps.length<1000000) :
    ∃l' k',ab5 m (kN e i m) l l' i e k k' ps:=by
  by_cases h0:k.cr=0
  · exact TP hO hk hs hd hb he h0
  exact TN hO hk hs hd hb he hp h0
end Go.Wk
