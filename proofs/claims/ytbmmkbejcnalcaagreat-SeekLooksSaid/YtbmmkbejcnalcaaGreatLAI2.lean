/- Part 2 of what the walk of a law stands on: Types, RefP, HashN, MakerP, MakerQ, FldR, SeqP, Loops2, MakerR, MakerS, Anys, FieldQ, FldS, CompR, HeadR, HeadQ, ImgP, MakeP, ViewP, AtP, AtQ, AtR, ImT1, ImT2, ImT3, ImT4, ImT5, ImT6, ImT7. No statement is proved here. -/
import Derived.Test.YtbmmkbejcnalcaaGreatLAI1
set_option linter.unusedVariables false
set_option linter.unusedSimpArgs false
namespace Go.Wk
open Go Go.RowKit
def oG (l:List Nat):List Value:=[.int .u64 ((l.getD 0 0:Nat):Int),.int .u64 ((l.getD 1 0:Nat):Int),.int .u64 ((l.getD 2 0:Nat):Int),.int .u64 ((l.getD 3 0:Nat):Int),.int .u64 ((l.getD 4 0:Nat):Int),.int .u64 ((l.getD 5 0:Nat):Int),.int .u64 ((l.getD 6 0:Nat):Int),.int .u64 ((l.getD 7 0:Nat):Int),.int .u64 ((l.getD 8 0:Nat):Int),.int .u64 ((l.getD 9 0:Nat):Int),.int .u64 ((l.getD 10 0:Nat):Int),.int .u64 ((l.getD 11 0:Nat):Int),.int .u64 ((l.getD 12 0:Nat):Int),.int .u64 ((l.getD 13 0:Nat):Int),.int .u64 ((l.getD 14 0:Nat):Int),.int .u64 ((l.getD 15 0:Nat):Int),.int .u64 ((l.getD 16 0:Nat):Int),.int .u64 ((l.getD 17 0:Nat):Int),.int .u64 ((l.getD 18 0:Nat):Int),.int .u64 ((l.getD 19 0:Nat):Int)]
theorem rC {l:List Nat} (h:l.length=20):oG l=l.map fun x=>.int .u64 (x:Int):=by
  apply List.ext_getElem
  · simp[oG,h]
  intro i C E
  simp[oG]at C
  simp only[List.getElem_map]
  have B:i<l.length:=by omega
  rcases Nat.lt_or_ge i 7 with D|D
  · rcases(show i=0∨i=1∨i=2∨i=3∨i=4∨i=5∨i=6 by omega)with rfl|rfl|rfl|rfl|rfl|rfl|rfl <;> simp[oG,List.getD,B]
  skip
  rcases Nat.lt_or_ge i 14 with A|A
  · rcases(show i=7∨i=8∨i=9∨i=10∨i=11∨i=12∨i=13 by omega)with rfl|rfl|rfl|rfl|rfl|rfl|rfl <;> simp[oG,List.getD,B]
  skip
  rcases(show i=14∨i=15∨i=16∨i=17∨i=18∨i=19 by omega)with rfl|rfl|rfl|rfl|rfl|rfl <;> simp[oG,List.getD,B]
theorem CN {l:List Nat} {k v:Nat} (h:l.length=20) (hk:k<20):oG (l.set k v)=(oG l).set k (.int .u64 (v:Int)):=by
  rw[rC h,rC (by simpa using h),List.map_set]
def aeO:Dt (List Nat) where
  n:=20
  cC:=by decide
  oC _ _ cs x:=cs=oG x∧x.length=20∧∀y∈x,y<18446744073709551616
  len:=by rintro _ _ _ _ ⟨rfl,_⟩;rfl
  one:=by
    rintro _ _ _ _ ⟨rfl,h,_⟩ u hu
    rw[rC h]at hu
    obtain⟨x,_,rfl⟩:=List.mem_map.1 hu
    rfl
  md:=fun h _ _=>h
  sub:=fun h _=>h
def oH (l:List Nat):List Value:=[.int .u64 ((l.getD 0 0:Nat):Int),.int .u64 ((l.getD 1 0:Nat):Int),.int .u64 ((l.getD 2 0:Nat):Int),.int .u64 ((l.getD 3 0:Nat):Int),.int .u64 ((l.getD 4 0:Nat):Int),.int .u64 ((l.getD 5 0:Nat):Int),.int .u64 ((l.getD 6 0:Nat):Int),.int .u64 ((l.getD 7 0:Nat):Int),.int .u64 ((l.getD 8 0:Nat):Int),.int .u64 ((l.getD 9 0:Nat):Int),.int .u64 ((l.getD 10 0:Nat):Int),.int .u64 ((l.getD 11 0:Nat):Int),.int .u64 ((l.getD 12 0:Nat):Int),.int .u64 ((l.getD 13 0:Nat):Int),.int .u64 ((l.getD 14 0:Nat):Int),.int .u64 ((l.getD 15 0:Nat):Int),.int .u64 ((l.getD 16 0:Nat):Int),.int .u64 ((l.getD 17 0:Nat):Int),.int .u64 ((l.getD 18 0:Nat):Int),.int .u64 ((l.getD 19 0:Nat):Int),.int .u64 ((l.getD 20 0:Nat):Int)]
theorem vr {l:List Nat} (h:l.length=21):oH l=l.map fun x=>.int .u64 (x:Int):=by
  apply List.ext_getElem
  · simp[oH,h]
  intro i C E
  simp[oH]at C
  simp only[List.getElem_map]
  have B:i<l.length:=by omega
  rcases Nat.lt_or_ge i 7 with D|D
  · rcases(show i=0∨i=1∨i=2∨i=3∨i=4∨i=5∨i=6 by omega)with rfl|rfl|rfl|rfl|rfl|rfl|rfl <;> simp[oH,List.getD,B]
  skip
  rcases Nat.lt_or_ge i 14 with A|A
  · rcases(show i=7∨i=8∨i=9∨i=10∨i=11∨i=12∨i=13 by omega)with rfl|rfl|rfl|rfl|rfl|rfl|rfl <;> simp[oH,List.getD,B]
  skip
  rcases(show i=14∨i=15∨i=16∨i=17∨i=18∨i=19∨i=20 by omega)with rfl|rfl|rfl|rfl|rfl|rfl|rfl <;> simp[oH,List.getD,B]
theorem QL {l:List Nat} {k v:Nat} (h:l.length=21) (hk:k<21):oH (l.set k v)=(oH l).set k (.int .u64 (v:Int)):=by
  rw[vr h,vr (by simpa using h),List.map_set]
def aeP:Dt (List Nat) where
  n:=21
  cC:=by decide
  oC _ _ cs x:=cs=oH x∧x.length=21∧∀y∈x,y<18446744073709551616
  len:=by rintro _ _ _ _ ⟨rfl,_⟩;rfl
  one:=by
    rintro _ _ _ _ ⟨rfl,h,_⟩ u hu
    rw[vr h]at hu
    obtain⟨x,_,rfl⟩:=List.mem_map.1 hu
    rfl
  md:=fun h _ _=>h
  sub:=fun h _=>h
theorem dn {a b:List Value} (h:a.all (fun u=>u.oneCell')=true) (h2:b.all (fun u=>u.oneCell')=true):(a ++ b).all (fun u=>u.oneCell')=true:=by rw[List.all_append,h,h2];rfl
theorem qx {v:Value} (h:v.oneCell'=true):[v].all (fun u=>u.oneCell')=true:=by simp[h]
theorem jX (l:Ly):(gH l).all (fun u=>u.oneCell')=true:=List.all_eq_true.2 (wJ l)
theorem iQ (n:Nat):(List.replicate n 0).length=n∧∀y∈List.replicate n 0,y<18446744073709551616:=⟨by simp,by simp⟩
theorem oh {l:List Nat} {n k v:Nat} (h:l.length=n∧∀y∈l,y<18446744073709551616) (hv:v<18446744073709551616):(l.set k v).length=n∧∀y∈l.set k v,y<18446744073709551616 :=
  ⟨by simpa using h.1,fun y hy=>(List.mem_or_eq_of_mem_set hy).elim (h.2 y) (fun e=>e ▸ hv)⟩
theorem eS {l:List Nat} {n:Nat} (h:l.length=n∧∀y∈l,y<18446744073709551616) (k:Nat):l.getD k 0<18446744073709551616:=by
  rw[List.getD_eq_getElem?_getD]
  cases hk:l[k]? with
  | none=>simp
  | some y=>simpa using h.2 y (List.mem_of_getElem? hk)
structure Pr where
  name:List UInt8
  value:List UInt8
def Pr.cells (x:Pr):List Value :=
  [(str x.name)] ++ ([(str x.value)])
def nC:Dt Pr:=sx (fun x=>(x.name,x.value)) (fZ SI SI)
theorem jh {w:World} {Q:Nat→Prop} {cs:List Value} {x:Pr} (h:nC.oC w Q cs x):∃(_:True),cs=x.cells:=by
  obtain⟨_,_,rfl,⟨rfl,_⟩,⟨rfl,_⟩⟩:=h
  exact⟨trivial,q⟩
theorem mj {w:World} {Q:Nat→Prop} {x:Pr}:nC.oC w Q (x.cells) x :=
  ⟨_,_,q,⟨q,tV⟩,⟨q,tV⟩⟩
theorem Pr.one {x:Pr}:(x.cells).all (fun u=>u.oneCell')=true:=(dn q q)
structure Rec where
  seq:Nat
  cK:Nat
  mono:Nat
  cg:List UInt8
  au:List Pr
def Rec.cells (x:Rec) (v0:Value):List Value :=
  [(.int .u64 x.seq)] ++ ([(.int .u64 x.cK)] ++ ([(.int .u64 x.mono)] ++ ((gH x.cg) ++ ([v0]))))
def sD:Dt Rec:=sx (fun x=>(x.seq,x.cK,x.mono,x.cg,x.au)) (fZ er (fZ er (fZ er (fZ ZV (EG nC)))))
def Rec.ok (x:Rec):Prop:=x.seq<18446744073709551616∧x.cK<18446744073709551616∧x.mono<18446744073709551616∧x.cg.length=16
theorem aeQ {w:World} {Q:Nat→Prop} {cs:List Value} {x:Rec} (h:sD.oC w Q cs x):∃v0,cs=x.cells v0∧Rec.ok x∧Ls nC w Q v0 x.au:=by
  obtain⟨_,_,rfl,⟨rfl,A⟩,⟨_,_,rfl,⟨rfl,B⟩,⟨_,_,rfl,⟨rfl,C⟩,⟨_,_,rfl,⟨rfl,D⟩,⟨v0,rfl,E⟩⟩⟩⟩⟩:=h
  exact⟨v0,q,⟨A,B,C,D⟩,E⟩
theorem KR {w:World} {Q:Nat→Prop} {x:Rec} {v0:Value} (c0:Rec.ok x) (c1:Ls nC w Q v0 x.au):sD.oC w Q (x.cells v0) x :=
  ⟨_,_,q,⟨q,c0.1⟩,⟨_,_,q,⟨q,c0.2.1⟩,⟨_,_,q,⟨q,c0.2.2.1⟩,⟨_,_,q,⟨q,c0.2.2.2⟩,⟨_,q,c1⟩⟩⟩⟩⟩
theorem Rec.one {x:Rec} {v0:Value} (h0:v0.oneCell'=true):(x.cells v0).all (fun u=>u.oneCell')=true:=(dn q (dn q (dn q (dn (jX _) (qx h0)))))
structure Frame where
  kind:Nat
  flags:Nat
  size:Nat
structure gq where
  dH:Nat
  cP:Nat
  dR:Nat
  entry:Nat
  array:Nat
  ck:Nat
  aR:List UInt8
def gq.cells (x:gq) (v0:Value):List Value :=
  [(.int .u64 x.dH)] ++ ([(.int .u64 x.cP)] ++ ([(.int .u64 x.dR)] ++ ([(.int .u64 x.entry)] ++ ([(.int .u64 x.array)] ++ ([(.int .u64 x.ck)] ++ ([v0]))))))
def gq.ok (x:gq):Prop:=x.dH<18446744073709551616∧x.cP<18446744073709551616∧x.dR<18446744073709551616∧x.entry<18446744073709551616∧x.array<18446744073709551616∧x.ck<18446744073709551616
theorem gq.one {x:gq} {v0:Value} (h0:v0.oneCell'=true):(x.cells v0).all (fun u=>u.oneCell')=true:=(dn q (dn q (dn q (dn q (dn q (dn q (qx h0)))))))
structure SX where
  dH:Nat
  cP:Nat
  dat:Nat
  aR:List UInt8
def SX.cells (x:SX) (v0:Value):List Value :=
  [(.int .u64 x.dH)] ++ ([(.int .u64 x.cP)] ++ ([(.int .u64 x.dat)] ++ ([v0])))
def SX.ok (x:SX):Prop:=x.dH<18446744073709551616∧x.cP<18446744073709551616∧x.dat<18446744073709551616
structure jO where
  cC:Nat
  dH:Nat
def jO.cells (x:jO):List Value :=
  [(.int .u64 x.cC)] ++ ([(.int .u64 x.dH)])
def tL:Dt jO:=sx (fun x=>(x.cC,x.dH)) (fZ er er)
def jO.ok (x:jO):Prop:=x.cC<18446744073709551616∧x.dH<18446744073709551616
theorem p6 {w:World} {Q:Nat→Prop} {cs:List Value} {x:jO} (h:tL.oC w Q cs x):∃(_:True),cs=x.cells∧jO.ok x:=by
  obtain⟨_,_,rfl,⟨rfl,A⟩,⟨rfl,B⟩⟩:=h
  exact⟨trivial,q,⟨A,B⟩⟩
theorem KP {w:World} {Q:Nat→Prop} {x:jO} (c0:jO.ok x):tL.oC w Q (x.cells) x :=
  ⟨_,_,q,⟨q,c0.1⟩,⟨q,c0.2⟩⟩
theorem jO.one {x:jO}:(x.cells).all (fun u=>u.oneCell')=true:=(dn q q)
structure eB where
  seq:Nat
  cK:Nat
  mono:Nat
  cg:List UInt8
  xor:Nat
  ax:List jO
def eB.cells (x:eB) (v0:Value):List Value :=
  [(.int .u64 x.seq)] ++ ([(.int .u64 x.cK)] ++ ([(.int .u64 x.mono)] ++ ((gH x.cg) ++ ([(.int .u64 x.xor)] ++ ([v0])))))
def eB.ok (x:eB):Prop:=x.seq<18446744073709551616∧x.cK<18446744073709551616∧x.mono<18446744073709551616∧x.cg.length=16∧x.xor<18446744073709551616
theorem eB.one {x:eB} {v0:Value} (h0:v0.oneCell'=true):(x.cells v0).all (fun u=>u.oneCell')=true:=(dn q (dn q (dn q (dn (jX _) (dn q (qx h0))))))
structure fq where
  next:Nat
  ax:List Nat
def fq.cells (x:fq) (v0:Value):List Value :=
  [(.int .u64 x.next)] ++ ([v0])
def fq.ok (x:fq):Prop:=x.next<18446744073709551616
theorem fq.one {x:fq} {v0:Value} (h0:v0.oneCell'=true):(x.cells v0).all (fun u=>u.oneCell')=true:=(dn q (qx h0))
structure xg where
  first:Nat
  tail:Nat
def xg.cells (x:xg):List Value :=
  [(.int .u64 x.first)] ++ ([(.int .u64 x.tail)])
def ZH:Dt xg:=sx (fun x=>(x.first,x.tail)) (fZ er er)
def xg.ok (x:xg):Prop:=x.first<18446744073709551616∧x.tail<18446744073709551616
theorem VW {w:World} {Q:Nat→Prop} {cs:List Value} {x:xg} (h:ZH.oC w Q cs x):∃(_:True),cs=x.cells∧xg.ok x:=by
  obtain⟨_,_,rfl,⟨rfl,A⟩,⟨rfl,B⟩⟩:=h
  exact⟨trivial,q,⟨A,B⟩⟩
theorem VU {w:World} {Q:Nat→Prop} {x:xg} (c0:xg.ok x):ZH.oC w Q (x.cells) x :=
  ⟨_,_,q,⟨q,c0.1⟩,⟨q,c0.2⟩⟩
structure cr where
  eW:Nat
  bY:Nat
  state:Nat
  cZ:List UInt8
  dP:List UInt8
  cg:List UInt8
  seq:List UInt8
  n:List Nat
  cT:Nat
  cW:Nat
  dx:Nat
def cr.cells (x:cr):List Value :=
  [(.int .u32 x.eW)] ++ ([(.int .u32 x.bY)] ++ ([(.int .i64 x.state)] ++ ((gH x.cZ) ++ ((gH x.dP) ++ ((gH x.cg) ++ ((gH x.seq) ++ ((oG x.n) ++ ([(.int .u32 x.cT)] ++ ([(.int .u32 x.cW)] ++ ([(.int .u64 x.dx)]))))))))))
def KQ:Dt cr:=sx (fun x=>(x.eW,x.bY,x.state,x.cZ,x.dP,x.cg,x.seq,x.n,x.cT,x.cW,x.dx)) (fZ tU32 (fZ tU32 (fZ jB (fZ ZV (fZ ZV (fZ ZV (fZ ZV (fZ (aeO) (fZ tU32 (fZ tU32 er))))))))))
def cr.ok (x:cr):Prop:=x.eW<4294967296∧x.bY<4294967296∧x.state<9223372036854775808∧x.cZ.length=16∧x.dP.length=16∧x.cg.length=16∧x.seq.length=16∧(x.n.length=20∧∀y∈x.n,y<18446744073709551616)∧x.cT<4294967296∧x.cW<4294967296∧x.dx<18446744073709551616
theorem IG {w:World} {Q:Nat→Prop} {cs:List Value} {x:cr} (h:KQ.oC w Q cs x):∃(_:True),cs=x.cells∧cr.ok x:=by
  obtain⟨_,_,rfl,⟨rfl,B⟩,⟨_,_,rfl,⟨rfl,C⟩,⟨_,_,rfl,⟨rfl,D⟩,⟨_,_,rfl,⟨rfl,E⟩,⟨_,_,rfl,⟨rfl,F⟩,⟨_,_,rfl,⟨rfl,G⟩,⟨_,_,rfl,⟨rfl,H⟩,⟨_,_,rfl,⟨rfl,I⟩,⟨_,_,rfl,⟨rfl,J⟩,⟨_,_,rfl,⟨rfl,K⟩,⟨rfl,A⟩⟩⟩⟩⟩⟩⟩⟩⟩⟩⟩:=h
  exact⟨trivial,q,⟨B,C,D,E,F,G,H,I,J,K,A⟩⟩
theorem IE {w:World} {Q:Nat→Prop} {x:cr} (c0:cr.ok x):KQ.oC w Q (x.cells) x :=
  ⟨_,_,q,⟨q,c0.1⟩,⟨_,_,q,⟨q,c0.2.1⟩,⟨_,_,q,⟨q,c0.2.2.1⟩,⟨_,_,q,⟨q,c0.2.2.2.1⟩,⟨_,_,q,⟨q,c0.2.2.2.2.1⟩,⟨_,_,q,⟨q,c0.2.2.2.2.2.1⟩,⟨_,_,q,⟨q,c0.2.2.2.2.2.2.1⟩,⟨_,_,q,⟨q,c0.2.2.2.2.2.2.2.1⟩,⟨_,_,q,⟨q,c0.2.2.2.2.2.2.2.2.1⟩,⟨_,_,q,⟨q,c0.2.2.2.2.2.2.2.2.2.1⟩,⟨q,c0.2.2.2.2.2.2.2.2.2.2⟩⟩⟩⟩⟩⟩⟩⟩⟩⟩⟩
theorem cr.one {x:cr}:(x.cells).all (fun u=>u.oneCell')=true:=(dn q (dn q (dn q (dn (jX _) (dn (jX _) (dn (jX _) (dn (jX _) (dn q (dn q (dn q q))))))))))
structure cA where
  eW:Nat
  bY:Nat
  state:Nat
  cZ:List UInt8
  dP:List UInt8
  cg:List UInt8
  seq:List UInt8
  n:List Nat
  cT:Nat
  cW:Nat
  dx:Nat
def cA.cells (x:cA):List Value :=
  [(.int .u32 x.eW)] ++ ([(.int .u32 x.bY)] ++ ([(.int .i64 x.state)] ++ ((gH x.cZ) ++ ((gH x.dP) ++ ((gH x.cg) ++ ((gH x.seq) ++ ((oH x.n) ++ ([(.int .u32 x.cT)] ++ ([(.int .u32 x.cW)] ++ ([(.int .u64 x.dx)]))))))))))
def SH:Dt cA:=sx (fun x=>(x.eW,x.bY,x.state,x.cZ,x.dP,x.cg,x.seq,x.n,x.cT,x.cW,x.dx)) (fZ tU32 (fZ tU32 (fZ jB (fZ ZV (fZ ZV (fZ ZV (fZ ZV (fZ (aeP) (fZ tU32 (fZ tU32 er))))))))))
def cA.ok (x:cA):Prop:=x.eW<4294967296∧x.bY<4294967296∧x.state<9223372036854775808∧x.cZ.length=16∧x.dP.length=16∧x.cg.length=16∧x.seq.length=16∧(x.n.length=21∧∀y∈x.n,y<18446744073709551616)∧x.cT<4294967296∧x.cW<4294967296∧x.dx<18446744073709551616
theorem ZG {w:World} {Q:Nat→Prop} {cs:List Value} {x:cA} (h:SH.oC w Q cs x):∃(_:True),cs=x.cells∧cA.ok x:=by
  obtain⟨_,_,rfl,⟨rfl,B⟩,⟨_,_,rfl,⟨rfl,C⟩,⟨_,_,rfl,⟨rfl,D⟩,⟨_,_,rfl,⟨rfl,E⟩,⟨_,_,rfl,⟨rfl,F⟩,⟨_,_,rfl,⟨rfl,G⟩,⟨_,_,rfl,⟨rfl,H⟩,⟨_,_,rfl,⟨rfl,I⟩,⟨_,_,rfl,⟨rfl,J⟩,⟨_,_,rfl,⟨rfl,K⟩,⟨rfl,A⟩⟩⟩⟩⟩⟩⟩⟩⟩⟩⟩:=h
  exact⟨trivial,q,⟨B,C,D,E,F,G,H,I,J,K,A⟩⟩
theorem ZF {w:World} {Q:Nat→Prop} {x:cA} (c0:cA.ok x):SH.oC w Q (x.cells) x :=
  ⟨_,_,q,⟨q,c0.1⟩,⟨_,_,q,⟨q,c0.2.1⟩,⟨_,_,q,⟨q,c0.2.2.1⟩,⟨_,_,q,⟨q,c0.2.2.2.1⟩,⟨_,_,q,⟨q,c0.2.2.2.2.1⟩,⟨_,_,q,⟨q,c0.2.2.2.2.2.1⟩,⟨_,_,q,⟨q,c0.2.2.2.2.2.2.1⟩,⟨_,_,q,⟨q,c0.2.2.2.2.2.2.2.1⟩,⟨_,_,q,⟨q,c0.2.2.2.2.2.2.2.2.1⟩,⟨_,_,q,⟨q,c0.2.2.2.2.2.2.2.2.2.1⟩,⟨q,c0.2.2.2.2.2.2.2.2.2.2⟩⟩⟩⟩⟩⟩⟩⟩⟩⟩⟩
theorem cA.one {x:cA}:(x.cells).all (fun u=>u.oneCell')=true:=(dn q (dn q (dn q (dn (jX _) (dn (jX _) (dn (jX _) (dn (jX _) (dn q (dn q (dn q q))))))))))
structure fp where
  b:List UInt8
  h:cA
def fp.cells (x:fp) (v0:Value):List Value :=
  [v0] ++ ((cA.cells x.h))
def iv:Dt fp:=sx (fun x=>(x.b,x.h)) (fZ (EG eV) SH)
def fp.ok (x:fp):Prop:=cA.ok x.h
theorem iU {w:World} {Q:Nat→Prop} {cs:List Value} {x:fp} (h:iv.oC w Q cs x):∃v0,cs=x.cells v0∧fp.ok x∧Ls eV w Q v0 x.b:=by
  obtain⟨_,_,rfl,⟨v0,rfl,B⟩,C⟩:=h
  obtain⟨_,rfl,A⟩:=ZG C
  exact⟨v0,q,A,B⟩
theorem gI {w:World} {Q:Nat→Prop} {x:fp} {v0:Value} (c0:fp.ok x) (c1:Ls eV w Q v0 x.b):iv.oC w Q (x.cells v0) x :=
  ⟨_,_,q,⟨_,q,c1⟩,(ZF c0)⟩
structure gJ where
  h:cr
  depth:Nat
  b:List UInt8
def gJ.cells (x:gJ) (v0:Value):List Value :=
  (cr.cells x.h) ++ ([(.int .u64 x.depth)] ++ ([v0]))
def kg:Dt gJ:=sx (fun x=>(x.h,x.depth,x.b)) (fZ KQ (fZ er (EG eV)))
def gJ.ok (x:gJ):Prop:=cr.ok x.h∧x.depth<18446744073709551616
theorem ki {w:World} {Q:Nat→Prop} {cs:List Value} {x:gJ} (h:kg.oC w Q cs x):∃v0,cs=x.cells v0∧gJ.ok x∧Ls eV w Q v0 x.b:=by
  obtain⟨_,_,rfl,B,⟨_,_,rfl,⟨rfl,C⟩,⟨v0,rfl,D⟩⟩⟩:=h
  obtain⟨_,rfl,A⟩:=IG B
  exact⟨v0,q,⟨A,C⟩,D⟩
theorem iV {w:World} {Q:Nat→Prop} {x:gJ} {v0:Value} (c0:gJ.ok x) (c1:Ls eV w Q v0 x.b):kg.oC w Q (x.cells v0) x :=
  ⟨_,_,q,(IE c0.1),⟨_,_,q,⟨q,c0.2⟩,⟨_,q,c1⟩⟩⟩
structure nB where
  cZ:List UInt8
  dP:List UInt8
  seq:List UInt8
  aU:Nat
  aS:Nat
  cH:Nat
  dO:Bool
def nB.cells (x:nB):List Value :=
  (gH x.cZ) ++ ((gH x.dP) ++ ((gH x.seq) ++ ([(.int .i64 x.aU)] ++ ([(.int .i64 x.aS)] ++ ([(.int .i64 x.cH)] ++ ([(.bool x.dO)]))))))
def agE:Dt nB:=sx (fun x=>(x.cZ,x.dP,x.seq,x.aU,x.aS,x.cH,x.dO)) (fZ ZV (fZ ZV (fZ ZV (fZ jB (fZ jB (fZ jB ai9))))))
def nB.ok (x:nB):Prop:=x.cZ.length=16∧x.dP.length=16∧x.seq.length=16∧x.aU<9223372036854775808∧x.aS<9223372036854775808∧x.cH<9223372036854775808
theorem aeN {w:World} {Q:Nat→Prop} {cs:List Value} {x:nB} (h:agE.oC w Q cs x):∃(_:True),cs=x.cells∧nB.ok x:=by
  obtain⟨_,_,rfl,⟨rfl,A⟩,⟨_,_,rfl,⟨rfl,B⟩,⟨_,_,rfl,⟨rfl,C⟩,⟨_,_,rfl,⟨rfl,D⟩,⟨_,_,rfl,⟨rfl,E⟩,⟨_,_,rfl,⟨rfl,F⟩,⟨rfl,_⟩⟩⟩⟩⟩⟩⟩:=h
  exact⟨trivial,q,⟨A,B,C,D,E,F⟩⟩
theorem aeM {w:World} {Q:Nat→Prop} {x:nB} (c0:nB.ok x):agE.oC w Q (x.cells) x :=
  ⟨_,_,q,⟨q,c0.1⟩,⟨_,_,q,⟨q,c0.2.1⟩,⟨_,_,q,⟨q,c0.2.2.1⟩,⟨_,_,q,⟨q,c0.2.2.2.1⟩,⟨_,_,q,⟨q,c0.2.2.2.2.1⟩,⟨_,_,q,⟨q,c0.2.2.2.2.2⟩,⟨q,tV⟩⟩⟩⟩⟩⟩⟩
theorem nB.one {x:nB}:(x.cells).all (fun u=>u.oneCell')=true:=(dn (jX _) (dn (jX _) (dn (jX _) (dn q (dn q (dn q q))))))
structure bT where
  dD:List UInt8
  cC:Nat
  dS:Nat
  ck:Nat
  bh:List Nat
def bT.cells (x:bT) (v0:Value):List Value :=
  [(str x.dD)] ++ ([(.int .u64 x.cC)] ++ ([(.int .i64 x.dS)] ++ ([(.int .i64 x.ck)] ++ ([v0]))))
def dN:Dt bT:=sx (fun x=>(x.dD,x.cC,x.dS,x.ck,x.bh)) (fZ SI (fZ er (fZ jB (fZ jB (EG er)))))
def bT.ok (x:bT):Prop:=x.cC<18446744073709551616∧x.dS<9223372036854775808∧x.ck<9223372036854775808
theorem jq {w:World} {Q:Nat→Prop} {cs:List Value} {x:bT} (h:dN.oC w Q cs x):∃v0,cs=x.cells v0∧bT.ok x∧Ls er w Q v0 x.bh:=by
  obtain⟨_,_,rfl,⟨rfl,_⟩,⟨_,_,rfl,⟨rfl,A⟩,⟨_,_,rfl,⟨rfl,B⟩,⟨_,_,rfl,⟨rfl,C⟩,⟨v0,rfl,D⟩⟩⟩⟩⟩:=h
  exact⟨v0,q,⟨A,B,C⟩,D⟩
theorem rz {w:World} {Q:Nat→Prop} {x:bT} {v0:Value} (c0:bT.ok x) (c1:Ls er w Q v0 x.bh):dN.oC w Q (x.cells v0) x :=
  ⟨_,_,q,⟨q,tV⟩,⟨_,_,q,⟨q,c0.1⟩,⟨_,_,q,⟨q,c0.2.1⟩,⟨_,_,q,⟨q,c0.2.2⟩,⟨_,q,c1⟩⟩⟩⟩⟩
theorem bT.one {x:bT} {v0:Value} (h0:v0.oneCell'=true):(x.cells v0).all (fun u=>u.oneCell')=true:=(dn q (dn q (dn q (dn q (qx h0)))))
structure Mk where
  c:nB
  h:cr
  depth:Nat
  b:List UInt8
  ai:List bT
  au:List bT
  main:List Nat
def Mk.cells (x:Mk) (v0:Value) (v1:Value) (v2:Value) (v3:Value):List Value :=
  (nB.cells x.c) ++ ((cr.cells x.h) ++ ([(.int .u64 x.depth)] ++ ([v0] ++ ([v1] ++ ([v2] ++ ([v3]))))))
def tMk:Dt Mk:=sx (fun x=>(x.c,x.h,x.depth,x.b,x.ai,x.au,x.main)) (fZ agE (fZ KQ (fZ er (fZ (EG eV) (fZ (EG dN) (fZ (EG dN) (EG er)))))))
def Mk.ok (x:Mk):Prop:=nB.ok x.c∧cr.ok x.h∧x.depth<18446744073709551616
theorem agF {w:World} {Q:Nat→Prop} {cs:List Value} {x:Mk} (h:tMk.oC w Q cs x):∃v0 v1 v2 v3,cs=x.cells v0 v1 v2 v3∧Mk.ok x∧Ls eV w Q v0 x.b∧Ls dN w Q v1 x.ai∧Ls dN w Q v2 x.au∧Ls er w Q v3 x.main:=by
  obtain⟨_,_,rfl,C,⟨_,_,rfl,D,⟨_,_,rfl,⟨rfl,E⟩,⟨_,_,rfl,⟨v0,rfl,F⟩,⟨_,_,rfl,⟨v1,rfl,G⟩,⟨_,_,rfl,⟨v2,rfl,H⟩,⟨v3,rfl,I⟩⟩⟩⟩⟩⟩⟩:=h
  obtain⟨_,rfl,A⟩:=aeN C
  obtain⟨_,rfl,B⟩:=IG D
  exact⟨v0,v1,v2,v3,q,⟨A,B,E⟩,F,G,H,I⟩
theorem acS {w:World} {Q:Nat→Prop} {x:Mk} {v0:Value} {v1:Value} {v2:Value} {v3:Value} (c0:Mk.ok x) (c1:Ls eV w Q v0 x.b) (c2:Ls dN w Q v1 x.ai) (c3:Ls dN w Q v2 x.au) (c4:Ls er w Q v3 x.main):tMk.oC w Q (x.cells v0 v1 v2 v3) x :=
  ⟨_,_,q,(aeM c0.1),⟨_,_,q,(IE c0.2.1),⟨_,_,q,⟨q,c0.2.2⟩,⟨_,_,q,⟨_,q,c1⟩,⟨_,_,q,⟨_,q,c2⟩,⟨_,_,q,⟨_,q,c3⟩,⟨_,q,c4⟩⟩⟩⟩⟩⟩⟩
theorem Mk.one {x:Mk} {v0:Value} {v1:Value} {v2:Value} {v3:Value} (h0:v0.oneCell'=true) (h1:v1.oneCell'=true) (h2:v2.oneCell'=true) (h3:v3.oneCell'=true):(x.cells v0 v1 v2 v3).all (fun u=>u.oneCell')=true:=(dn (nB.one) (dn (cr.one) (dn q (dn (qx h0) (dn (qx h1) (dn (qx h2) (qx h3)))))))
structure Sq where
  l:List Int
  cC:Nat
def Sq.cells (x:Sq) (v0:Value):List Value :=
  [v0] ++ ([(.int .i64 x.cC)])
def Sq.ok (x:Sq):Prop:=x.cC<9223372036854775808
end Go.Wk
namespace Go.Wk
open Go Go.RowKit
def low:Nat→Nat→List UInt8
  | _,0=>[]
  | v,n+1=>UInt8.ofNat (v%256) :: low (v/256) n
theorem iw (v n:Nat):(low v n).length=n:=by
  induction n generalizing v with
  | zero=>rfl
  | succ n ih=>simp[low,ih]
def nums:List Nat→List UInt8
  | []=>[]
  | v :: r=>low v 8 ++ nums r
theorem eR (l:List Nat):(nums l).length=8*l.length:=by
  induction l with
  | nil=>rfl
  | cons v r ih=>simp[nums,iw,ih];omega
theorem MS (v:Nat) {n i:Nat} (h:i<n):low v (n-i)=UInt8.ofNat (v%256) :: low (v/256) (n-(i+1)):=by
  rw[show n-i=(n-(i+1))+1 by omega];rfl
theorem UD (v:Nat) {n i:Nat} (h:¬i<n):low v (n-i)=[]:=by
  rw[show n-i=0 by omega];rfl
theorem XU {l:List Nat} {i x:Nat} (h:l[i]? = some x):nums (l.drop i)=low x 8 ++ nums (l.drop (i+1)):=by rw[gC h];rfl
theorem MZ {l:List Nat} {i:Nat} (h:¬i<l.length):nums (l.drop i)=[]:=by rw[iY Jy];rfl
def DC (l:Ly):List UInt8:=l ++ List.replicate ((8-l.length%8)%8) 0
theorem YI {l:Ly} (h:l.length%8≠0):DC l=DC (l ++ [0]):=by
  unfold DC
  rw[List.append_assoc,List.length_append]
  congr 1
  rw[show(8-l.length%8)%8=(8-(l.length+[(0:UInt8)].length)%8)%8+1 by simp;omega,List.replicate_succ]
  rfl
theorem acd {l:Ly} (h:l.length%8=0):DC l=l:=by simp[DC,h]
theorem ace (l:Ly):(DC l).length=(l.length+7)/8*8:=by simp[DC];omega
def rj (kind:Nat) (body:Ly):List UInt8 :=
  if kind<1∨7<kind then[]else DC ([UInt8.ofNat kind,0,0,0,0,0,0,0] ++ nums [16+body.length] ++ body)
def jb (d:gq):List UInt8:=rj 1 (nums [d.dH,d.cP,d.dR,d.entry,d.array,d.ck] ++ d.aR)
def iq (d:SX):List UInt8:=rj 2 (nums [d.dH,d.cP,d.dat] ++ d.aR)
def fe (a:fq):List UInt8:=rj 6 (nums [a.next] ++ nums a.ax)
def pS:List xg→List UInt8
  | []=>[]
  | s :: r=>nums [s.first,s.tail] ++ pS r
def eU (kind:Nat) (l:List xg):List UInt8:=if kind≠4∧kind≠5 then[]else rj kind (pS l)
def lF:List jO→List UInt8
  | []=>[]
  | s :: r=>nums [s.cC,s.dH] ++ lF r
def dZ (e:eB):List UInt8:=rj 3 (nums [e.seq,e.cK,e.mono] ++ e.cg ++ nums [e.xor] ++ lF e.ax)
def vO (h:cr) (depth:Nat):List UInt8 :=
  [76,80,75,83,72,72,82,72] ++ low h.eW 4 ++ low h.bY 4 ++ [UInt8.ofNat h.state,0,0,0,0,0,0,0] ++ h.cZ ++ h.dP ++ h.cg ++ h.seq ++ nums h.n ++ nums [depth] ++ low h.cT 4 ++ low h.cW 4 ++ nums [h.dx]
theorem tf {k:Nat} {b:Ly} (h:1≤k∧k≤7):(rj k b).length=(16+b.length+7)/8*8:=by
  unfold rj
  rw[if_neg Jy,ace]
  simp[eR]
  omega
theorem SC {l:List xg} {i:Nat} {x:xg} (h:l[i]? = some x):pS (l.drop i)=nums [x.first,x.tail] ++ pS (l.drop (i+1)):=by rw[gC h];rfl
theorem HZ {l:List xg} {i:Nat} (h:¬i<l.length):pS (l.drop i)=[]:=by rw[iY Jy];rfl
theorem ZB (l:List xg):(pS l).length=16*l.length:=by
  induction l with
  | nil=>rfl
  | cons v r ih=>simp[pS,eR,ih];omega
theorem Qo {l:List jO} {i:Nat} {x:jO} (h:l[i]? = some x):lF (l.drop i)=nums [x.cC,x.dH] ++ lF (l.drop (i+1)):=by rw[gC h];rfl
theorem FO {l:List jO} {i:Nat} (h:¬i<l.length):lF (l.drop i)=[]:=by rw[iY Jy];rfl
theorem ug (l:List jO):(lF l).length=16*l.length:=by
  induction l with
  | nil=>rfl
  | cons v r ih=>simp[lF,eR,ih];omega
theorem wO (d:gq):(jb d).length=(16+(48+d.aR.length)+7)/8*8:=by unfold jb;rw[tf Jy];simp[eR]
theorem uL (d:SX):(iq d).length=(16+(24+d.aR.length)+7)/8*8:=by unfold iq;rw[tf Jy];simp[eR]
theorem qy (a:fq):(fe a).length=(16+(8+8*a.ax.length)+7)/8*8:=by unfold fe;rw[tf Jy];simp[eR]
theorem mA (e:eB) (h:e.cg.length=16):(dZ e).length=(16+(48+16*e.ax.length)+7)/8*8:=by unfold dZ;rw[tf Jy];simp[eR,ug,h];omega
theorem uM (kind:Nat) (l:List xg) (h:kind=4∨kind=5):(eU kind l).length=(16+16*l.length+7)/8*8:=by unfold eU;rw[if_neg Jy,tf Jy,ZB]
theorem nj (kind:Nat) (l:List xg):(eU kind l).length≤24+16*l.length∧(kind=4∨kind=5→(eU kind l).length=(16+16*l.length+7)/8*8):=by
  refine⟨?_,fun h=>uM kind l h⟩
  by_cases h:kind=4∨kind=5
  · rw[uM kind l h];omega
  unfold eU;rw[if_pos Jy];simp
theorem HE {h:cr} {j v:Nat} (hn:h.n.length=20) (hj:j<20):(cr.cells h).set (67+j) (.int .u64 v)=cr.cells {h with n:=h.n.set j v}:=by
  have e:∀(m:List Nat) (t:cr),t.n=m→cr.cells t=([(.int .u32 t.eW)] ++ ([(.int .u32 t.bY)] ++ ([(.int .i64 t.state)] ++ ((gH t.cZ) ++ ((gH t.dP) ++ ((gH t.cg) ++ (gH t.seq))))))) ++ (oG m ++ ([(.int .u32 t.cT)] ++ ([(.int .u32 t.cW)] ++ [(.int .u64 t.dx)]))):=by
    intro m t C;subst C;simp only[cr.cells,List.append_assoc]
  rw[e h.n h q,e (h.n.set j v) {h with n:=h.n.set j v} q,CN hn hj]
  have B:([(.int .u32 h.eW)] ++ ([(.int .u32 h.bY)] ++ ([(.int .i64 h.state)] ++ ((gH h.cZ) ++ ((gH h.dP) ++ ((gH h.cg) ++ (gH h.seq)))))):List Value).length=67:=rfl
  have A:(oG h.n).length=20:=rfl
  rw[List.set_append_right _ _ Jy,B,Nat.add_sub_cancel_left,List.set_append_left _ _ Jy]
end Go.Wk
namespace Go.Wk
open Go Go.RowKit
theorem EU (op:BinOp) (a b:Int):0≤bits op .u64 a b∧bits op .u64 a b<18446744073709551616:=by
  unfold bits
  cases op <;> simp only[KS] <;> omega
theorem UX (t:T3):0≤pack t∧pack t<18446744073709551616:=EU _ _ _
theorem abn:∀(k:Nat) (t:T3) (l:Ly),0≤TY k t l∧TY k t l<18446744073709551616
  | 0,t,l=>by unfold TY;split<;>exact UX _
  | k+1,t,l=>by
    unfold TY
    split
    · exact abn k _ _
    · split<;>exact UX _
theorem uj (l:Ly):0≤lookup l∧lookup l<18446744073709551616:=abn _ _ _
theorem acL (key l:Ly):0≤sip key l∧sip key l<18446744073709551616:=by
  unfold sip DY S4.all lX
  exact EU _ _ _
def qQ (l:Ly):Nat:=(lookup l).toNat
def ej (k:Bool) (key l:Ly):Nat:=if k then(sip key l).toNat else qQ l
theorem BJ (k:Bool) (key l:Ly):((ej k key l:Nat):Int)=if k then sip key l else lookup l:=by
  unfold ej qQ
  have A:=uj l
  have B:=acL key l
  cases k <;> simp <;> omega
theorem BK (k:Bool) (key l:Ly):ej k key l<18446744073709551616:=by
  have B:=uj l
  have C:=acL key l
  have A:=BJ k key l
  cases k <;> simp at A <;> omega
theorem MR (l:Ly):((qQ l:Nat):Int)=lookup l:=by have A:=uj l;unfold qQ;omega
theorem BX (l:Ly):qQ l<18446744073709551616:=by have A:=uj l;unfold qQ;omega
def ny (v:Nat):List (List UInt8)→Nat
  | []=>v
  | b :: r=>ny (v ^^^ qQ b) r
theorem Pq {v:Nat} {l:List (List UInt8)} {i:Nat} {x:Ly} (h:l[i]? = some x):ny v (l.drop i)=ny (v ^^^ qQ x) (l.drop (i+1)):=by rw[gC h];rfl
theorem zP {v:Nat} {l:List (List UInt8)} {i:Nat} (h:¬i<l.length):ny v (l.drop i)=v:=by rw[iY Jy];rfl
theorem EC {a b:Nat} (ha:a<18446744073709551616) (hb:b<18446744073709551616):a ^^^ b<18446744073709551616:=Nat.xor_lt_two_pow (n:=64) ha hb
def aR (p:Pr):List UInt8:=p.name ++ [61] ++ p.value
theorem lI (p:Pr):(aR p).length=p.name.length+1+p.value.length:=by simp[aR];omega
end Go.Wk
namespace Go.Wk
open Go Go.RowKit
def ez (k:Int):Nat:=if k<0 then 0 else if 6<k then 256 else min (4*2 ^ k.toNat) 256
def EK:Nat→List UInt8→Nat→Nat→Nat→List UInt8
  | 0,b,_,_,_=>b
  | n+1,b,p,v,i=>EK n (b.set (p+i) (UInt8.ofNat (v/2 ^ (8*i)))) p v (i+1)
def jH (b:Ly) (p v:Nat):List UInt8:=EK 8 b p v 0
theorem ack (n:Nat) (b:Ly) (p v i:Nat):(EK n b p v i).length=b.length:=by
  induction n generalizing b i with
  | zero=>rfl
  | succ n ih=>simp[EK,ih]
theorem jc (b:Ly) (p v:Nat):(jH b p v).length=b.length:=ack 8 b p v 0
def Mk.put (m:Mk) (p v:Nat):Mk:={m with b:=jH m.b p v}
theorem iR (m:Mk) (p v:Nat):(m.put p v).b.length=m.b.length:=jc _ _ _
theorem YM {n i:Nat} {b:Ly} {p v:Nat} (h:i<n):EK (n-i) b p v i=EK (n-(i+1)) (b.set (p+i) (UInt8.ofNat (v/2 ^ (8*i)))) p v (i+1):=by
  rw[show n-i=(n-(i+1))+1 by omega];rfl
theorem acj {n i:Nat} {b:Ly} {p v:Nat} (h:¬i<n):EK (n-i) b p v i=b:=by rw[show n-i=0 by omega];rfl
def Mk.ea (m:Mk) (k v:Nat):Mk:={m with h:={m.h with n:=m.h.n.set k v}}
def Mk.dG (m:Mk) (k:Nat):Nat:=m.h.n.getD k 0
def Mk.d9 (m:Mk) (o:Ly):Nat × Mk :=
  let m1:={m with b:=m.b ++ o}
  let m29:=m1.ea 6 m.b.length
  (m.b.length,m29.ea 7 ((m29.dG 7+1)%18446744073709551616))
def oQ (dS:Nat):List bT→Nat→Nat→Nat × Nat
  | [],n,q=>(n,q)
  | k :: r,n,q=>if k.dS=dS then oQ dS r (n+1) k.cC else oQ dS r n q
def Mk.hang (m:Mk) (l:List bT) (table p dS:Nat):Nat × Mk :=
  match oQ dS l 0 0 with
  | (n,q)=>(n,(if n=0 then m.put (table+16*dS) p else m.put (q+24) p).put (table+16*dS+8) p)
def rW (name:Ly):List bT→Option Nat
  | []=>none
  | k :: r=>if k.dD=name then some k.cC else rW name r
def nG (s:Ly):List bT→Nat→Option Nat
  | [],_=>none
  | k :: r,i=>if k.dD=s then some i else nG s r (i+1)
def Mk.field (m:Mk) (name:Ly):Nat × Mk :=
  match rW name m.au with
  | some p=>(p,m)
  | none =>
    match m.d9 (iq {dH:=ej m.c.dO m.c.cZ name,cP:=0,dat:=0,aR:=name})with
    | (p,m1)=>match m1.hang m1.au (m1.dG 4) p (ej m.c.dO m.c.cZ name%m1.c.aS)with
      | (n,m29) =>
        let m3:={m29 with depth:=max m1.depth n}
        let m4:=m3.ea 16 ((m3.dG 16+1)%18446744073709551616)
        (p,{m4 with au:=m4.au ++ [({dD:=name,cC:=p,dS:=ej m.c.dO m.c.cZ name%m1.c.aS,ck:=0,bh:=[]}:bT)]})
def Mk.data (m:Mk) (x:Pr):Nat × Mk :=
  match nG (aR x) m.ai 0 with
  | some i=>(i,m)
  | none =>
    match m.d9 (jb {dH:=ej m.c.dO m.c.cZ (aR x),cP:=0,dR:=0,entry:=0,array:=0,ck:=0,aR:=aR x})with
    | (p,m1)=>match m1.hang m1.ai (m1.dG 2) p (ej m.c.dO m.c.cZ (aR x)%m1.c.aU)with
      | (n,m29) =>
        let m3:=m29.ea 19 (max (m29.dG 19) n)
        let m4:=m3.ea 15 ((m3.dG 15+1)%18446744073709551616)
        let m5:={m4 with ai:=m4.ai ++ [({dD:=aR x,cC:=p,dS:=ej m.c.dO m.c.cZ (aR x)%m1.c.aU,ck:=0,bh:=[]}:bT)]}
        match m5.field x.name with
        | (k,m6) =>
          let m7:=m6.put (p+32) (pu m6.b (k+32:Nat) 8).1
          let m8:=m7.put (k+32) p
          (m8.ai.length-1,m8)
theorem yw (m:Mk) (k v:Nat):(m.ea k v).b=m.b∧(m.ea k v).c=m.c∧(m.ea k v).ai=m.ai∧(m.ea k v).au=m.au∧(m.ea k v).main=m.main:=⟨q,q,q,q,q⟩
theorem cu {l:List Nat} {i j v:Nat} (h:i≠j):(l.set i v).getD j 0=l.getD j 0:=by simp[List.getD,List.getElem?_set_ne h]
theorem fB {m:Mk} {k v j:Nat} (h:k≠j):(m.ea k v).dG j=m.dG j:=cu h
theorem ir (m:Mk) (o:Ly):(m.d9 o).1=m.b.length∧(m.d9 o).2.b.length=m.b.length+o.length∧(m.d9 o).2.c.aU=m.c.aU∧(m.d9 o).2.c.aS=m.c.aS∧(m.d9 o).2.ai.length=m.ai.length∧(m.d9 o).2.au.length=m.au.length ∧
    (m.d9 o).2.h.n.getD 2 0=m.h.n.getD 2 0∧(m.d9 o).2.h.n.getD 4 0=m.h.n.getD 4 0 :=
  ⟨q,by simp[Mk.d9,Mk.ea],q,q,q,q,by simp only[Mk.d9,Mk.ea];rw[cu Kq,cu Kq],by simp only[Mk.d9,Mk.ea];rw[cu Kq,cu Kq]⟩
theorem eK (m:Mk) (o:Ly):(m.d9 o).2.c=m.c∧(m.d9 o).2.ai=m.ai∧(m.d9 o).2.au=m.au∧(m.d9 o).2.main=m.main:=⟨q,q,q,q⟩
theorem jI (m:Mk) (p v:Nat):(m.put p v).b.length=m.b.length∧(m.put p v).c.aU=m.c.aU∧(m.put p v).c.aS=m.c.aS∧(m.put p v).ai.length=m.ai.length∧(m.put p v).au.length=m.au.length ∧
    (m.put p v).h.n.getD 2 0=m.h.n.getD 2 0∧(m.put p v).h.n.getD 4 0=m.h.n.getD 4 0:=⟨jc _ _ _,q,q,q,q,q,q⟩
theorem zw (m:Mk) (l:List bT) (table p dS:Nat):(m.hang l table p dS).2={m with b:=(m.hang l table p dS).2.b}∧(m.hang l table p dS).2.b.length=m.b.length:=by
  unfold Mk.hang
  generalize oQ dS l 0 0=r
  obtain⟨n,q⟩:=r
  simp only
  split
  · exact⟨rfl,by rw[iR,iR]⟩
  exact⟨rfl,by rw[iR,iR]⟩
theorem uf (m:Mk) (l:List bT) (table p dS:Nat):(m.hang l table p dS).2.b.length=m.b.length∧(m.hang l table p dS).2.c.aU=m.c.aU∧(m.hang l table p dS).2.c.aS=m.c.aS∧(m.hang l table p dS).2.ai.length=m.ai.length∧(m.hang l table p dS).2.au.length=m.au.length ∧
    (m.hang l table p dS).2.h.n.getD 2 0=m.h.n.getD 2 0∧(m.hang l table p dS).2.h.n.getD 4 0=m.h.n.getD 4 0:=by
  obtain⟨A,B⟩:=zw m l table p dS
  refine⟨B,?_,?_,?_,?_,?_,?_⟩ <;> rw[A]
theorem iP (m:Mk) (l:List bT) (table p dS:Nat):(m.hang l table p dS).2.c=m.c∧(m.hang l table p dS).2.ai=m.ai∧(m.hang l table p dS).2.au=m.au∧(m.hang l table p dS).2.main=m.main∧(m.hang l table p dS).2.depth=m.depth∧(m.hang l table p dS).2.h=m.h:=by
  have A:=(zw m l table p dS).1
  refine⟨?_,?_,?_,?_,?_,?_⟩ <;> rw[A]
theorem FM {dS i n q:Nat} {l:List bT} {x:bT} (h:l[i]? = some x):oQ dS (l.drop i) n q=if x.dS=dS then oQ dS (l.drop (i+1)) (n+1) x.cC else oQ dS (l.drop (i+1)) n q:=by rw[gC h];rfl
theorem vN {dS i n q:Nat} {l:List bT} (h:¬i<l.length):oQ dS (l.drop i) n q=(n,q):=by rw[iY Jy];rfl
theorem AW {s:Ly} {i:Nat} {l:List bT} {x:bT} (h:l[i]? = some x):rW s (l.drop i)=if x.dD=s then some x.cC else rW s (l.drop (i+1)):=by rw[gC h];rfl
theorem xC {s:Ly} {i:Nat} {l:List bT} (h:¬i<l.length):rW s (l.drop i)=none:=by rw[iY Jy];rfl
theorem AV {s:Ly} {i j:Nat} {l:List bT} {x:bT} (h:l[i]? = some x):nG s (l.drop i) j=if x.dD=s then some j else nG s (l.drop (i+1)) (j+1):=by rw[gC h];rfl
theorem xB {s:Ly} {i j:Nat} {l:List bT} (h:¬i<l.length):nG s (l.drop i) j=none:=by rw[iY Jy];rfl
def Mk.fit (m:Mk):Prop:=1≤m.c.aU∧m.c.aU≤64∧1≤m.c.aS∧m.c.aS≤64∧m.h.n.getD 2 0+16*m.c.aU≤m.b.length∧m.h.n.getD 4 0+16*m.c.aS≤m.b.length ∧
  (∀k∈m.ai,k.cC+64≤m.b.length)∧(∀k∈m.au,k.cC+40≤m.b.length)
theorem pK {m m':Mk} (h:m.fit) (h1:m'.c.aU=m.c.aU∧m'.c.aS=m.c.aS∧m'.h.n.getD 2 0=m.h.n.getD 2 0∧m'.h.n.getD 4 0=m.h.n.getD 4 0∧m.b.length≤m'.b.length)
    (hd:∀k∈m'.ai,k∈m.ai∨k.cC+64≤m'.b.length) (hf:∀k∈m'.au,k∈m.au∨k.cC+40≤m'.b.length):m'.fit:=by
  obtain⟨G,H,I,J,K,L,A,B⟩:=h
  obtain⟨C,D,E,F,M⟩:=h1
  refine⟨by omega,by omega,by omega,by omega,by rw[C,E];omega,by rw[D,F];omega,fun k hk=>?_,fun k hk=>?_⟩
  · rcases hd k hk with h|h
    · have:=A k h;omega
    exact h
  rcases hf k hk with h|h
  · have:=B k h;omega
  exact h
theorem FJ {s:Ly} {l:List bT} {p:Nat} (h:rW s l=some p):∃k∈l,k.cC=p∧k.dD=s:=by
  induction l with
  | nil=>simp[rW]at h
  | cons x l ih =>
    simp only[rW]at h
    split at h
    · rename_i hx;exact⟨x,by simp,by simpa using h,hx⟩
    · obtain⟨k,hk,A⟩:=ih h;exact⟨k,by simp[hk],A⟩
theorem aaF {s:Ly} {l:List bT} {j i:Nat} (h:nG s l j=some i):j≤i∧i<j+l.length:=by
  induction l generalizing j with
  | nil=>simp[nG]at h
  | cons x l ih =>
    simp only[nG]at h
    split at h
    · simp at h;simp;omega
    · have:=ih h;simp;omega
theorem tZ (m:Mk) (name:Ly) (h:m.fit):((m.field name).1+40≤(m.field name).2.b.length∧m.b.length≤(m.field name).2.b.length∧(m.field name).2.b.length≤m.b.length+(48+name.length)∧(m.field name).2.ai.length=m.ai.length∧(m.field name).2.au.length≤m.au.length+1 ∧
    (m.field name).2.c.aU=m.c.aU∧(m.field name).2.c.aS=m.c.aS∧(m.field name).2.h.n.getD 2 0=m.h.n.getD 2 0∧(m.field name).2.h.n.getD 4 0=m.h.n.getD 4 0∧(m.field name).2.h.n.getD 8 0=m.h.n.getD 8 0) ∧
    ((m.field name).2.c=m.c∧(m.field name).2.ai=m.ai∧(m.field name).2.main=m.main)∧(m.field name).2.fit:=by
  unfold Mk.field
  cases hk:rW name m.au with
  | some p =>
    obtain⟨k,D,U,_⟩:=FJ hk
    have:=h.2.2.2.2.2.2.2 k D
    exact⟨⟨by simp only;omega,Nat.le_refl _,by simp only;omega,q,by simp only;omega,q,q,q,q,q⟩,⟨q,q,q⟩,h⟩
  | none =>
    simp only
    have C:=ir m (iq {dH:=ej m.c.dO m.c.cZ name,cP:=0,dat:=0,aR:=name})
    have I:=eK m (iq {dH:=ej m.c.dO m.c.cZ name,cP:=0,dat:=0,aR:=name})
    have J:(m.d9 (iq {dH:=ej m.c.dO m.c.cZ name,cP:=0,dat:=0,aR:=name})).2.h.n.getD 8 0=m.h.n.getD 8 0:=by
      simp only[Mk.d9,Mk.ea];rw[cu Kq,cu Kq]
    rw[uL]at C
    simp only at C
    generalize m.d9 (iq {dH:=ej m.c.dO m.c.cZ name,cP:=0,dat:=0,aR:=name})=r at *
    obtain⟨p,A⟩:=r
    simp only at C I J ⊢
    have K:=uf A A.au (A.dG 4) p (ej m.c.dO m.c.cZ name%A.c.aS)
    have L:=iP A A.au (A.dG 4) p (ej m.c.dO m.c.cZ name%A.c.aS)
    generalize A.hang A.au (A.dG 4) p (ej m.c.dO m.c.cZ name%A.c.aS)=r at *
    obtain⟨n,B⟩:=r
    simp only at K L ⊢
    obtain⟨V,W,X,Y,Z,a,d,e⟩:=C
    obtain⟨M,E,N,O⟩:=I
    obtain⟨f,g,i,j,l,o,t⟩:=K
    obtain⟨P,F,Q,R,u,S⟩:=L
    simp only[Mk.ea,List.length_append,List.length_singleton]
    have G:(B.h.n.set 16 ((B.dG 16+1)%18446744073709551616)).getD 2 0=m.h.n.getD 2 0:=by rw[cu Kq];omega
    have H:(B.h.n.set 16 ((B.dG 16+1)%18446744073709551616)).getD 4 0=m.h.n.getD 4 0:=by rw[cu Kq];omega
    have T:(B.h.n.set 16 ((B.dG 16+1)%18446744073709551616)).getD 8 0=m.h.n.getD 8 0:=by rw[cu Kq,S,J]
    refine⟨⟨by omega,by omega,by omega,by omega,by omega,by omega,by omega,G,H,T⟩,⟨by rw[P,M],by rw[F,E],by rw[R,O]⟩,?_⟩
    refine pK h ⟨by simp only;omega,by simp only;omega,G,H,by simp only;omega⟩ (fun k hk=>?_) (fun k hk=>?_)
    · simp only[F,E]at hk;exact .inl hk
    · simp only[Q,N,List.mem_append,List.mem_singleton]at hk
      rcases hk with hk|rfl
      · exact .inl hk
      · right;simp only;omega
theorem PS (m:Mk) (name:Ly) (h:m.fit):(m.field name).1+40≤(m.field name).2.b.length∧m.b.length≤(m.field name).2.b.length∧(m.field name).2.b.length≤m.b.length+(48+name.length)∧(m.field name).2.ai.length=m.ai.length∧(m.field name).2.au.length≤m.au.length+1 ∧
    (m.field name).2.c.aU=m.c.aU∧(m.field name).2.c.aS=m.c.aS∧(m.field name).2.h.n.getD 2 0=m.h.n.getD 2 0∧(m.field name).2.h.n.getD 4 0=m.h.n.getD 4 0∧(m.field name).2.h.n.getD 8 0=m.h.n.getD 8 0:=(tZ m name h).1
theorem PO (m:Mk) (name:Ly) (h:m.fit):(m.field name).2.c=m.c∧(m.field name).2.ai=m.ai∧(m.field name).2.main=m.main:=(tZ m name h).2.1
theorem WR (m:Mk) (name:Ly) (h:m.fit):(m.field name).2.fit:=(tZ m name h).2.2
section
variable {m y:Mk} {v1 v2 v3 v4:Value} {w:World} {b t i v j:Nat}
theorem agb (hn:m.h.n.length=20) (hi:i<20):(Mk.cells m v1 v2 v3 v4).set (119+i) (.int .u64 v)=Mk.cells {m with h:={m.h with n:=m.h.n.set i v}} v1 v2 v3 v4:=by
  have A:(nB.cells m.c).length=52:=rfl
  have B:(cr.cells m.h).length=90:=rfl
  show(nB.cells m.c ++ (cr.cells m.h ++ _)).set _ _=nB.cells m.c ++ (cr.cells _ ++ _)
  rw[List.set_append_right _ _ Jy,A,show 119+i-52=67+i by omega,List.set_append_left _ _ Jy,HE hn hi]
theorem JO (B:cG w b ((Mk.cells m v1 v2 v3 v4).set j (.int .u64 v)) t) (ok:Mk.ok m) (hv:v<18446744073709551616) (hj:j=119+i) (hi:i<20):∃y,y=({m with h:={m.h with n:=m.h.n.set i v}}:Mk)∧cG w b (Mk.cells y v1 v2 v3 v4) t∧Mk.ok y:=by
  subst hj
  rw[agb ok.2.1.2.2.2.2.2.2.2.1.1 hi]at B
  obtain⟨A,⟨a,b,c,d,e,f,g,h,k⟩,C⟩:=ok
  exact⟨_,q,B,A,⟨a,b,c,d,e,f,g,oh h hv,k⟩,C⟩
theorem gY (B:cG w b ((Mk.cells m v1 v2 v3 v4).set j (.int .u64 v)) t) (ok:Mk.ok m) (hv:v<18446744073709551616) (hj:j=119+i:=by rfl) (hi:i<20:=by decide) (h2:i≠2:=by decide) (h4:i≠4:=by decide):∃y,y=({m with h:={m.h with n:=m.h.n.set i v}}:Mk)∧cG w b (Mk.cells y v1 v2 v3 v4) t∧Mk.ok y∧y.b.length=m.b.length∧y.ai.length=m.ai.length∧y.au.length=m.au.length∧y.c.aU=m.c.aU∧y.c.aS=m.c.aS∧y.h.n.getD 2 0=m.h.n.getD 2 0∧y.h.n.getD 4 0=m.h.n.getD 4 0:=by
  obtain⟨y,rfl,h,k⟩:=JO B ok hv hj hi
  exact⟨_,q,h,k,q,q,q,q,q,cu Jy,cu Jy⟩
theorem UH (B:cG w b ((Mk.cells m v1 v2 v3 v4).set j (.int .u64 v)) t) (ok:Mk.ok m) (hv:v<18446744073709551616) (hj:j=119+i:=by rfl) (hi:i<20:=by decide) (h4:i≠4:=by decide):∃y,y=({m with h:={m.h with n:=m.h.n.set i v}}:Mk)∧cG w b (Mk.cells y v1 v2 v3 v4) t∧Mk.ok y∧y.b.length=m.b.length∧y.ai.length=m.ai.length∧y.au.length=m.au.length∧y.c.aU=m.c.aU∧y.c.aS=m.c.aS∧y.h.n.getD 4 0=m.h.n.getD 4 0:=by
  obtain⟨y,rfl,h,k⟩:=JO B ok hv hj hi
  exact⟨_,q,h,k,q,q,q,q,q,cu Jy⟩
theorem UI (B:cG w b ((Mk.cells m v1 v2 v3 v4).set j (.int .u64 v)) t) (ok:Mk.ok m) (hv:v<18446744073709551616) (hj:j=119+i:=by rfl) (hi:i<20:=by decide) (h2:i≠2:=by decide):∃y,y=({m with h:={m.h with n:=m.h.n.set i v}}:Mk)∧cG w b (Mk.cells y v1 v2 v3 v4) t∧Mk.ok y∧y.b.length=m.b.length∧y.ai.length=m.ai.length∧y.au.length=m.au.length∧y.c.aU=m.c.aU∧y.c.aS=m.c.aS∧y.h.n.getD 2 0=m.h.n.getD 2 0:=by
  obtain⟨y,rfl,h,k⟩:=JO B ok hv hj hi
  exact⟨_,q,h,k,q,q,q,q,q,cu Jy⟩
theorem adW {x:Ly} (e:y={m with b:=x}):y.ai.length=m.ai.length∧y.au.length=m.au.length∧y.c.aU=m.c.aU∧y.c.aS=m.c.aS∧y.h.n.getD 2 0=m.h.n.getD 2 0∧y.h.n.getD 4 0=m.h.n.getD 4 0:=by subst e;exact⟨q,q,q,q,q,q⟩
theorem sU {x:List bT} (e:y={m with ai:=x}):y.b.length=m.b.length∧y.au.length=m.au.length∧y.c.aU=m.c.aU∧y.c.aS=m.c.aS∧y.h.n.getD 2 0=m.h.n.getD 2 0∧y.h.n.getD 4 0=m.h.n.getD 4 0:=by subst e;exact⟨q,q,q,q,q,q⟩
theorem xP {x:List bT} (e:y={m with au:=x}):y.b.length=m.b.length∧y.ai.length=m.ai.length∧y.c.aU=m.c.aU∧y.c.aS=m.c.aS∧y.h.n.getD 2 0=m.h.n.getD 2 0∧y.h.n.getD 4 0=m.h.n.getD 4 0:=by subst e;exact⟨q,q,q,q,q,q⟩
theorem UG {x:List Nat} (e:y={m with main:=x}):y.b.length=m.b.length∧y.ai.length=m.ai.length∧y.au.length=m.au.length∧y.c.aU=m.c.aU∧y.c.aS=m.c.aS∧y.h.n.getD 2 0=m.h.n.getD 2 0∧y.h.n.getD 4 0=m.h.n.getD 4 0:=by subst e;exact⟨q,q,q,q,q,q,q⟩
theorem abw {x:Nat} (e:y={m with depth:=x}):y.b.length=m.b.length∧y.ai.length=m.ai.length∧y.au.length=m.au.length∧y.c.aU=m.c.aU∧y.c.aS=m.c.aS∧y.h.n.getD 2 0=m.h.n.getD 2 0∧y.h.n.getD 4 0=m.h.n.getD 4 0:=by subst e;exact⟨q,q,q,q,q,q,q⟩
theorem MV {x:cr} (e:y={m with h:=x}):y.b.length=m.b.length∧y.ai.length=m.ai.length∧y.au.length=m.au.length∧y.c.aU=m.c.aU∧y.c.aS=m.c.aS:=by subst e;exact⟨q,q,q,q,q⟩
end
section
variable {P:Program}
theorem afF {c:Code} {Q:Exit→Act→World→Prop} {a:Act} {w:World} (R:Act→World→Prop) (h:c.wp P (fun e a w'=>e = .normal∧R a w') a w) (k:∀a w',R a w'→Q .normal a w'):c.wp P Q a w:=by
  refine wp_mono h ?_
  rintro e a w' ⟨rfl,A⟩
  exact k a w' A
end
end Go.Wk
namespace Go.Wk
open Go Go.RowKit
theorem tG (k:Int):ez k≤256:=by unfold ez;split;omega;split<;>omega
def eM:List Nat→Nat→Nat→Nat→Nat × Nat
  | [],_,a,r=>(a,r)
  | _ :: l,k,_,r=>eM l (k+1) r (r+ez (k:Int))
def jU (l:List Nat):Nat:=l.getD (l.length-1) 0
def Mk.link (m:Mk) (bh:List Nat) (n src gL:Nat):List Nat × Nat × Mk :=
  match eM bh 0 0 0 with
  | (ahead,room) =>
    if n=room then
      match m.d9 (fe {next:=0,ax:=List.replicate (ez (bh.length:Int)) 0})with
      | (p,m1) =>
        let m29:=m1.ea 18 ((m1.dG 18+1)%18446744073709551616)
        (bh ++ [p],n-room+1,(if bh.length=0 then m29.put src p else m29.put (jU bh+16) p).put (jU (bh ++ [p])+24+8*(n-room)) gL)
    else(bh,n-ahead+1,m.put (jU bh+24+8*(n-ahead)) gL)
theorem rM {l:List Nat} {i k a r:Nat} (h:i<l.length):eM (l.drop i) k a r=eM (l.drop (i+1)) (k+1) r (r+ez (k:Int)):=by
  obtain⟨x,A⟩:=eP h
  rw[gC A];rfl
theorem ru {l:List Nat} {i k a r:Nat} (h:¬i<l.length):eM (l.drop i) k a r=(a,r):=by rw[iY Jy];rfl
theorem tF {k:Int} (h:0≤k):4≤ez k:=by
  unfold ez
  rw[if_neg Jy]
  split
  · omega
  have:1≤2 ^ k.toNat:=Nat.one_le_two_pow
  omega
theorem HJ (k:Int):k<0∨4≤ez k:=by by_cases h:0≤k;exact .inr (tF h);exact .inl Jy
theorem lG {l:List Nat} {x:Nat} (h:l[l.length-1]? = some x):jU l=x:=by simp[jU,List.getD,h]
theorem FV {α} {l:List α} {p x:α} (h:(l ++ [p])[(l ++ [p]).length-1]? = some x):x=p:=by simpa using h.symm
theorem RO (l:List Nat) (k a r:Nat) (h:l≠[]):(eM l k a r).2=(eM l k a r).1+ez ((k+l.length-1:Nat):Int):=by
  induction l generalizing k a r with
  | nil=>exact absurd q h
  | cons x l ih =>
    by_cases hl:l=[]
    · subst hl;simp[eM]
    · simp only[eM,List.length_cons]
      rw[ih (k+1) r (r+ez (k:Int)) hl,show k+1+l.length-1=k+(l.length+1)-1 by omega]
theorem RP {l:List Nat} {n:Nat} (h2:(eM l 0 0 0).1≤n) (h3:n≤(eM l 0 0 0).2) (h:n≠(eM l 0 0 0).2):1≤l.length∧n<(eM l 0 0 0).1+ez ((l.length-1:Nat):Int):=by
  cases l with
  | nil=>simp[eM]at h3 h;omega
  | cons x l =>
    have:=RO (x :: l) 0 0 0 Oq
    simp only[Nat.zero_add]at this
    refine⟨by simp,?_⟩
    omega
def jR (len:Nat) (bh:List Nat) (n:Nat):Prop :=
  (∀(k a:Nat),bh[k]? = some a→a+24+8*ez (k:Int)≤len)∧(eM bh 0 0 0).1≤n∧n≤(eM bh 0 0 0).2
def gZ (c:nB) (tail:Nat):Mk :=
  let b1:=List.replicate 272 0 ++ eU 4 (List.replicate c.aU {first:=0,tail:=0})
  let b2:=b1 ++ eU 5 (List.replicate c.aS {first:=0,tail:=0})
  {c:=c,depth:=0,b:=b2,ai:=[],au:=[],main:=[],
    h:={eW:=2,bY:=if c.dO then 4 else 0,state:=1,cZ:=c.cZ,dP:=c.dP,cg:=List.replicate 16 0,seq:=c.seq,cT:=0,cW:=0,dx:=0,
           n:=(((((((((List.replicate 20 0).set 0 272).set 2 288).set 3 (16*c.aU)).set 4 (b1.length+16)).set 5 (16*c.aS)).set 6 b1.length).set 7 2).set 9 tail)}}
theorem acV {α} {l:List α} {i:Nat} (h:¬i<l.length):l.take i=l:=List.take_of_length_le Jy
theorem zU {v:Value} {b:Nat} (h:∀x,ah v=some x→x≠b):b∉(ah v).toList:=by
  cases hv:ah v with
  | none=>simp
  | some c=>simp;exact fun e=>h c hv e.symm
theorem e7 {v:Value} {b:Nat} (h:∀x,ah v=some x→x≠b):∀x,ah v=some x→x∉[b]:=fun x hx hh=>h x hx (by simpa using hh)
def mY (m:Mk) (st:Nat):List UInt8:=vO {m.h with state:=st,n:=m.h.n.set 1 (m.b.length-272)} m.depth ++ m.b.drop 272
theorem xK (h:cr) (depth:Nat) (ok:cr.ok h):(vO h depth).length=272:=by
  obtain⟨_,_,_,A,B,C,D,E,_⟩:=ok
  simp[vO,iw,eR,A,B,C,D,E.1]
end Go.Wk
namespace Go.Wk
open Go Go.RowKit
def Pr.pb (p:Pr):yE:=(p.name,p.value)
section
variable {P:Program} {n:Nat} {A:Fr n} {D:List Deferred} {l:List (Nat × Value)} {w:World} {d:Option Tmp} {ty:TypeId} {ps:String} {af:Array Edge} {g:Option (Nat × Bool)}
theorem VF {x y:Operand} {t f u:TypeId} {p q:Pr} (hp:pairT P t f=true) (hf:P.underlying f=some .string) (hx:ev n l x=some (.agg (Pr.cells p).toArray)) (hy:ev n l y=some (.agg (Pr.cells q).toArray)) :
    dr P ⟨d,.binOp .eql t x y u,ty,ps,af,g⟩ (b9 A D l).eval w (.bool (decide (p.pb=q.pb))):=ags (p:=p.pb) (q:=q.pb) hp hf hx hy
end
def rY (p:Pr):List UInt8 × Nat:=if fu p.name=false then([],1)else if 256<p.value.length then([],21)else(aR p,0)
theorem abi {p:Pr} (h:(rY p).2=0):p.name.length≤1000000∧p.value.length≤1000000:=by
  unfold rY at h
  split at h
  · cases h
  rename_i h1
  split at h
  · cases h
  have:=(gM (s:=p.name) (by simpa using h1)).2;omega
theorem yL {p:Pr}:(rY p).2=0↔right p.pb=true:=by
  unfold rY right Pr.pb
  by_cases h1:fu p.name=false
  · simp[h1]
  rw[if_neg h1]
  have A:fu p.name=true:=by simpa using h1
  rw[A]
  by_cases h3:256<p.value.length
  · simp[h3]
  simp[h3];omega
def lM (t:Ly):List Pr→Nat→Nat
  | [],k=>k
  | q :: r,k=>if Op.bytesLess (aR q) t=true then lM t r (k+1)else k
theorem GY {t:Ly} {o:List Pr} {k:Nat} {q:Pr} (h:o[k]? = some q):lM t (o.drop k) k=if Op.bytesLess (aR q) t=true then lM t (o.drop (k+1)) (k+1)else k:=by
  rw[gC h];rfl
theorem ac5 {t:Ly} {o:List Pr} {k:Nat} (h:¬k<o.length):lM t (o.drop k) k=k:=by rw[iY Jy];rfl
theorem qh {l:List Pr} {i:Nat} {x:Pr} (h:l[i]? = some x):l.getD i {name:=[],value:=[]}=x:=by simp[List.getD,h]
def jA:Nat→Nat→List Pr→List Pr
  | 0,_,o=>o
  | n+1,j,o=>jA n (j-1) (o.set j (o.getD (j-1) {name:=[],value:=[]}))
theorem rP {j k:Nat} {o:List Pr} (h:k<j):jA (j-k) j o=jA (j-1-k) (j-1) (o.set j (o.getD (j-1) {name:=[],value:=[]})):=by
  rw[show j-k=(j-1-k)+1 by omega];rfl
theorem uo {j k:Nat} {o:List Pr} (h:¬k<j):jA (j-k) j o=o:=by rw[show j-k=0 by omega];rfl
def sC (p:Pr) (o:List Pr):List Pr :=
  let k:=lM (aR p) o 0
  if k<o.length∧(o.getD k {name:=[],value:=[]}).pb=p.pb then o else(jA (o.length-k) o.length (o ++ [{name:=[],value:=[]}])).set k p
def WU:List Pr→List Pr→List Pr × Nat
  | [],o=>if 16<o.length then([],21)else(o,0)
  | p :: r,o=>if(rY p).2≠0 then([],(rY p).2)else WU r (sC p o)
def kW (l:List Pr):List Pr × Nat:=if l.length=0 then([],16)else WU l []
theorem JI {l o:List Pr} {i:Nat} (h:¬i<l.length):WU (l.drop i) o=if 16<o.length then([],21)else(o,0):=by rw[iY Jy];rfl
theorem LU {l o:List Pr} {i:Nat} {p:Pr} (h:l[i]? = some p):WU (l.drop i) o=if(rY p).2≠0 then([],(rY p).2)else WU (l.drop (i+1)) (sC p o):=by
  rw[gC h];rfl
end Go.Wk
namespace Go.Wk
open Go Go.RowKit
section
variable {P:Program} {n:Nat} {A:Fr n} {D:List Deferred} {l:List (Nat × Value)} {w:World} {d:Option Tmp} {ty:TypeId} {ps:String} {af:Array Edge} {g:Option (Nat × Bool)}
theorem ac3 {x y:Operand} {t u:TypeId} {k:IntKind} {a b:Int} (hx:ev n l x=some (.int k a)) (hy:ev n l y=some (.int k b)) (h:b≠0) :
    dr P ⟨d,.binOp .rem t x y u,ty,ps,af,g⟩ (b9 A D l).eval w (.int k (a.tmod b)):=ac2 hx hy h
end
def MW (k:Int) (n:Nat):Nat:=if n<1 then 0 else((k.tmod n+n).tmod n).toNat
theorem z6 (k:Int) (n:Nat):n<1∨MW k n<n:=by
  unfold MW
  by_cases h:n<1
  · exact .inl h
  rw[if_neg h]
  have A:=Int.tmod_lt_of_pos (k.tmod n+n) (show(0:Int)<n by omega)
  right;omega
theorem agf {k:Int} {n:Nat} (h:¬n<1):0≤k.tmod n+n∧k.tmod n+n<2*n:=by
  have A:=Int.tmod_lt_of_pos k (show(0:Int)<n by omega)
  have B:=Int.lt_tmod_of_pos k (show(0:Int)<n by omega)
  omega
def Sq.dG (s:Sq) (n:Nat):Nat × Sq:=if s.l.length≤s.cC then(0,s)else(MW (s.l.getD s.cC 0) n,{s with cC:=s.cC+1})
def Sq.more (s:Sq):Bool × Sq:=(decide (s.cC<s.l.length),s)
def xR:List (List UInt8):=[[65],[66],[77,69,83,83,65,71,69],[95,80,73,68],[88,95,49],[80,82,73,79,82,73,84,89]]
def uy:List (List UInt8):=[[],[48],[49],[50,50],[97,61,98],[111,110,101,10,116,119,111],[0,255],[116,97,98,9,104,101,114,101],[108,111,110,103,32,108,111,110,103,32,108,111,110,103,32,108,111,110,103,32,108,111,110,103,32,108,111,110,103,32,108,111,110,103],[126,127,128]]
theorem QK:xR.length=6:=rfl
theorem OZ:uy.length=10:=rfl
def idF (k:Int):List UInt8:=((List.replicate 16 0).set 0 94).set 15 (UInt8.ofNat (MW k 5))
def Sq.pair (s:Sq):Pr × Sq :=
  match s.dG 6 with
  | (a,s1) =>
    match s1.dG 10 with
    | (b,s2)=>({name:=xR.getD a [],value:=uy.getD b []},s2)
theorem Sq.mg (s:Sq) (n:Nat):(s.dG n).1≤n-1:=by
  unfold Sq.dG
  split
  · simp
  simp only
  rcases z6 (s.l.getD s.cC 0) n with h|h
  · simp[MW,h]
  omega
def oJ:Nat→Sq→List Pr→List Pr × Sq
  | 0,s,o=>(o,s)
  | n+1,s,o=>match s.pair with
    | (p,s1)=>oJ n s1 (o ++ [p])
def Sq.pairs (s:Sq) (cH:Nat):List Pr × Sq :=
  match s.dG cH with
  | (n,s1)=>oJ (n+1) s1 []
theorem YK {n:Nat} {s:Sq} {o:List Pr} (h:¬0<n):oJ n s o=(o,s):=by rw[show n=0 by omega];rfl
theorem QU {n:Nat} {s:Sq} {o:List Pr} (h:0<n):oJ n s o=oJ (n-1) s.pair.2 (o ++ [s.pair.1]):=by
  obtain⟨k,rfl⟩:∃k,n=k+1:=⟨n-1,by omega⟩
  rfl
theorem ab0 (a:Nat):(xR.getD a []).length≤64:=by
  match a with
  | 0|1|2|3|4|5=>decide
  | n+6=>simp[xR]
theorem ZO (a:Nat):(uy.getD a []).length≤256:=by
  match a with
  | 0|1|2|3|4|5|6|7|8|9=>decide
  | n+10=>simp[uy]
theorem aek (s:Sq):s.pair.1.name.length≤64∧s.pair.1.value.length≤256:=⟨ab0 _,ZO _⟩
theorem YJ (n:Nat):∀(s:Sq) (o:List Pr),(∀q∈o,q.name.length≤64∧q.value.length≤256)→(∀q∈(oJ n s o).1,q.name.length≤64∧q.value.length≤256)∧(oJ n s o).1.length=o.length+n:=by
  induction n with
  | zero=>exact fun s o h=>⟨h,rfl⟩
  | succ n ih =>
    intro s o h
    have:=ih s.pair.2 (o ++ [s.pair.1]) (fun q A=>by
      rcases List.mem_append.1 A with A|A
      · exact h q A
      · rw[List.mem_singleton.1 A];exact aek s)
    refine⟨this.1,?_⟩
    have B:=this.2
    rw[List.length_append,List.length_singleton]at B
    rw[show oJ (n+1) s o=oJ n s.pair.2 (o ++ [s.pair.1])from rfl,B];omega
theorem acg (s:Sq) (cH:Nat):(∀q∈(s.pairs cH).1,q.name.length≤1000000∧q.value.length≤1000000)∧(s.pairs cH).1.length≤cH+1:=by
  have h:=YJ ((s.dG cH).1+1) (s.dG cH).2 [] Oq
  have B:=s.mg cH
  have e:s.pairs cH=oJ ((s.dG cH).1+1) (s.dG cH).2 []:=rfl
  rw[e]
  refine⟨fun q A=>⟨by have:=(h.1 q A).1;omega,by have:=(h.1 q A).2;omega⟩,?_⟩
  rw[h.2];simp;omega
def Sq.config (s:Sq):nB × Sq :=
  match s.dG 5 with
  | (a,s1)=>match s1.dG 5 with
    | (b,s2)=>match s2.dG 5 with
      | (c,s3)=>match s3.dG 7 with
        | (d,s4)=>match s4.dG 4 with
          | (e,s5)=>match s5.dG 2 with
            | (f,s6)=>({cZ:=idF a,dP:=idF b,seq:=idF c,aU:=d+1,aS:=e+1,cH:=32768,dO:=decide (f=1)},s6)
def Sq.record (s:Sq) (seq:Nat):Rec × Sq :=
  match s.pairs 4 with
  | (ps,s1)=>match s1.dG 40 with
    | (a,s2)=>match s2.dG 9 with
      | (b,s3)=>match s3.dG 3 with
        | (c,s4)=>({seq:=seq,cK:=a,mono:=b,cg:=idF c,au:=(kW ps).1},s4)
end Go.Wk
namespace Go.Wk
open Go Go.RowKit
section
variable {P:Program} {Q:Exit→Act→World→Prop} {n:Nat} {A:Fr n} {D:List Deferred} {l:List (Nat × Value)} {w:World}
def afd {X0 X1 X2 X3 X4 X5 X6 X7 X8:Type} (n:Nat) (D:List Deferred) (inv:X0→X1→X2→X3→X4→X5→X6→X7→X8→List (Nat × Value)) (W:X0→X1→X2→X3→X4→X5→X6→X7→X8→World→Prop) (mu:X0→X1→X2→X3→X4→X5→X6→X7→X8→Nat) (m:Nat) (a:Act) (w:World):Prop :=
  ∃y0:X0,∃y1:X1,∃y2:X2,∃y3:X3,∃y4:X4,∃y5:X5,∃y6:X6,∃y7:X7,∃y8:X8,∃B:Fr n,a=b9 B D (inv y0 y1 y2 y3 y4 y5 y6 y7 y8)∧W y0 y1 y2 y3 y4 y5 y6 y7 y8 w∧mu y0 y1 y2 y3 y4 y5 y6 y7 y8<m
theorem aif {X0 X1 X2 X3 X4 X5 X6 X7 X8:Type} {c:Code} (inv:X0→X1→X2→X3→X4→X5→X6→X7→X8→List (Nat × Value)) (W:X0→X1→X2→X3→X4→X5→X6→X7→X8→World→Prop) (mu:X0→X1→X2→X3→X4→X5→X6→X7→X8→Nat) (x0:X0) (x1:X1) (x2:X2) (x3:X3) (x4:X4) (x5:X5) (x6:X6) (x7:X7) (x8:X8) (h0:Fits n l (inv x0 x1 x2 x3 x4 x5 x6 x7 x8)) (hw:W x0 x1 x2 x3 x4 x5 x6 x7 x8 w)
    (round:∀(x0:X0) (x1:X1) (x2:X2) (x3:X3) (x4:X4) (x5:X5) (x6:X6) (x7:X7) (x8:X8) (B:Fr n) (w':World),W x0 x1 x2 x3 x4 x5 x6 x7 x8 w'→c.wp P (Exit.then (afd n D inv W mu (mu x0 x1 x2 x3 x4 x5 x6 x7 x8)) Q) (b9 B D (inv x0 x1 x2 x3 x4 x5 x6 x7 x8)) w') :
    (Code.loop c).wp P Q (b9 A D l) w:=by
  refine jQ (X:=X0 × X1 × X2 × X3 × X4 × X5 × X6 × X7 × X8) (fun p=>inv p.1 p.2.1 p.2.2.1 p.2.2.2.1 p.2.2.2.2.1 p.2.2.2.2.2.1 p.2.2.2.2.2.2.1 p.2.2.2.2.2.2.2.1 p.2.2.2.2.2.2.2.2) (fun p w=>W p.1 p.2.1 p.2.2.1 p.2.2.2.1 p.2.2.2.2.1 p.2.2.2.2.2.1 p.2.2.2.2.2.2.1 p.2.2.2.2.2.2.2.1 p.2.2.2.2.2.2.2.2 w) (fun p=>mu p.1 p.2.1 p.2.2.1 p.2.2.2.1 p.2.2.2.2.1 p.2.2.2.2.2.1 p.2.2.2.2.2.2.1 p.2.2.2.2.2.2.2.1 p.2.2.2.2.2.2.2.2) (x0,x1,x2,x3,x4,x5,x6,x7,x8) h0 hw (fun p B w' h=>wp_mono (round (p.1) (p.2.1) (p.2.2.1) (p.2.2.2.1) (p.2.2.2.2.1) (p.2.2.2.2.2.1) (p.2.2.2.2.2.2.1) (p.2.2.2.2.2.2.2.1) (p.2.2.2.2.2.2.2.2) B w' h) ?_)
  intro e S T h
  cases e with
  | normal=>obtain⟨H,I,J,K,L,M,N,O,R,C,E,F,G⟩:=h;exact⟨(H,I,J,K,L,M,N,O,R),C,E,F,G⟩
  | _=>exact h
theorem aik {X0 X1 X2 X3 X4 X5 X6 X7 X8:Type} {inv:X0→X1→X2→X3→X4→X5→X6→X7→X8→List (Nat × Value)} {W:X0→X1→X2→X3→X4→X5→X6→X7→X8→World→Prop} {mu:X0→X1→X2→X3→X4→X5→X6→X7→X8→Nat} {m:Nat} (x0:X0) (x1:X1) (x2:X2) (x3:X3) (x4:X4) (x5:X5) (x6:X6) (x7:X7) (x8:X8) (hm:mu x0 x1 x2 x3 x4 x5 x6 x7 x8<m) (hf:Fits n l (inv x0 x1 x2 x3 x4 x5 x6 x7 x8)) (hw:W x0 x1 x2 x3 x4 x5 x6 x7 x8 w) :
    afd n D inv W mu m (b9 A D l) w:=⟨x0,x1,x2,x3,x4,x5,x6,x7,x8,_,(ec (A:=A) (D:=D) hf).symm,hw,hm⟩
def ZY {X0 X1 X2 X3 X4 X5 X6 X7 X8 X9:Type} (n:Nat) (D:List Deferred) (inv:X0→X1→X2→X3→X4→X5→X6→X7→X8→X9→List (Nat × Value)) (W:X0→X1→X2→X3→X4→X5→X6→X7→X8→X9→World→Prop) (mu:X0→X1→X2→X3→X4→X5→X6→X7→X8→X9→Nat) (m:Nat) (a:Act) (w:World):Prop :=
  ∃y0:X0,∃y1:X1,∃y2:X2,∃y3:X3,∃y4:X4,∃y5:X5,∃y6:X6,∃y7:X7,∃y8:X8,∃y9:X9,∃B:Fr n,a=b9 B D (inv y0 y1 y2 y3 y4 y5 y6 y7 y8 y9)∧W y0 y1 y2 y3 y4 y5 y6 y7 y8 y9 w∧mu y0 y1 y2 y3 y4 y5 y6 y7 y8 y9<m
theorem aga {X0 X1 X2 X3 X4 X5 X6 X7 X8 X9:Type} {c:Code} (inv:X0→X1→X2→X3→X4→X5→X6→X7→X8→X9→List (Nat × Value)) (W:X0→X1→X2→X3→X4→X5→X6→X7→X8→X9→World→Prop) (mu:X0→X1→X2→X3→X4→X5→X6→X7→X8→X9→Nat) (x0:X0) (x1:X1) (x2:X2) (x3:X3) (x4:X4) (x5:X5) (x6:X6) (x7:X7) (x8:X8) (x9:X9) (h0:Fits n l (inv x0 x1 x2 x3 x4 x5 x6 x7 x8 x9)) (hw:W x0 x1 x2 x3 x4 x5 x6 x7 x8 x9 w)
    (round:∀(x0:X0) (x1:X1) (x2:X2) (x3:X3) (x4:X4) (x5:X5) (x6:X6) (x7:X7) (x8:X8) (x9:X9) (B:Fr n) (w':World),W x0 x1 x2 x3 x4 x5 x6 x7 x8 x9 w'→c.wp P (Exit.then (ZY n D inv W mu (mu x0 x1 x2 x3 x4 x5 x6 x7 x8 x9)) Q) (b9 B D (inv x0 x1 x2 x3 x4 x5 x6 x7 x8 x9)) w') :
    (Code.loop c).wp P Q (b9 A D l) w:=by
  refine jQ (X:=X0 × X1 × X2 × X3 × X4 × X5 × X6 × X7 × X8 × X9) (fun p=>inv p.1 p.2.1 p.2.2.1 p.2.2.2.1 p.2.2.2.2.1 p.2.2.2.2.2.1 p.2.2.2.2.2.2.1 p.2.2.2.2.2.2.2.1 p.2.2.2.2.2.2.2.2.1 p.2.2.2.2.2.2.2.2.2) (fun p w=>W p.1 p.2.1 p.2.2.1 p.2.2.2.1 p.2.2.2.2.1 p.2.2.2.2.2.1 p.2.2.2.2.2.2.1 p.2.2.2.2.2.2.2.1 p.2.2.2.2.2.2.2.2.1 p.2.2.2.2.2.2.2.2.2 w) (fun p=>mu p.1 p.2.1 p.2.2.1 p.2.2.2.1 p.2.2.2.2.1 p.2.2.2.2.2.1 p.2.2.2.2.2.2.1 p.2.2.2.2.2.2.2.1 p.2.2.2.2.2.2.2.2.1 p.2.2.2.2.2.2.2.2.2) (x0,x1,x2,x3,x4,x5,x6,x7,x8,x9) h0 hw (fun p B w' h=>wp_mono (round (p.1) (p.2.1) (p.2.2.1) (p.2.2.2.1) (p.2.2.2.2.1) (p.2.2.2.2.2.1) (p.2.2.2.2.2.2.1) (p.2.2.2.2.2.2.2.1) (p.2.2.2.2.2.2.2.2.1) (p.2.2.2.2.2.2.2.2.2) B w' h) ?_)
  intro e T U h
  cases e with
  | normal=>obtain⟨H,I,J,K,L,M,N,O,R,S,C,E,F,G⟩:=h;exact⟨(H,I,J,K,L,M,N,O,R,S),C,E,F,G⟩
  | _=>exact h
theorem ab2 {X0 X1 X2 X3 X4 X5 X6 X7 X8 X9:Type} {inv:X0→X1→X2→X3→X4→X5→X6→X7→X8→X9→List (Nat × Value)} {W:X0→X1→X2→X3→X4→X5→X6→X7→X8→X9→World→Prop} {mu:X0→X1→X2→X3→X4→X5→X6→X7→X8→X9→Nat} {m:Nat} (x0:X0) (x1:X1) (x2:X2) (x3:X3) (x4:X4) (x5:X5) (x6:X6) (x7:X7) (x8:X8) (x9:X9) (hm:mu x0 x1 x2 x3 x4 x5 x6 x7 x8 x9<m) (hf:Fits n l (inv x0 x1 x2 x3 x4 x5 x6 x7 x8 x9)) (hw:W x0 x1 x2 x3 x4 x5 x6 x7 x8 x9 w) :
    ZY n D inv W mu m (b9 A D l) w:=⟨x0,x1,x2,x3,x4,x5,x6,x7,x8,x9,_,(ec (A:=A) (D:=D) hf).symm,hw,hm⟩
end
end Go.Wk
namespace Go.Wk
open Go Go.RowKit
def known0:bT:={dD:=[],cC:=0,dS:=0,ck:=0,bh:=[]}
def gQ (ds:List bT) (i:Nat):Nat:=(ds.getD i known0).cC
def lS (ds:List bT) (p:Nat) (order:List Nat):Nat→Nat
  | 0=>0
  | n+1=>if p<gQ ds (order.getD n 0)then lS ds p order n else n+1
def ni (ds:List bT) (k:Nat) (order:List Nat):List Nat :=
  let n:=lS ds (gQ ds k) order order.length
  order.take n ++ [k] ++ order.drop n
def iu:List Pr→Mk→List (List UInt8)→List Nat→List (List UInt8) × List Nat × Mk
  | [],m,ps,od=>(ps,od,m)
  | x :: r,m,ps,od =>
    match m.data x with
    | (k,m1)=>iu r m1 (ps ++ [(m1.ai.getD k known0).dD]) (ni m1.ai k od)
def js (m:Mk) (od:List Nat):List jO:=od.map fun i=>{cC:=gQ m.ai i,dH:=ej m.c.dO m.c.cZ (m.ai.getD i known0).dD}
def jr (e:Nat):List Nat→Mk→Mk
  | [],m=>m
  | i :: r,m =>
    let k:=m.ai.getD i known0
    if k.ck=0 then
      let m29:=(m.put (k.cC+40) e).put (k.cC+56) 1
      jr e r {m29 with ai:=m29.ai.set i {k with ck:=1}}
    else
      match m.link k.bh (k.ck-1) (k.cC+48) e with
      | (a,_,m1) =>
        let m29:=m1.put (k.cC+56) (k.ck+1)
        jr e r {m29 with ai:=m29.ai.set i {k with bh:=a,ck:=k.ck+1}}
def Mk.append (m:Mk) (au:List Pr) (cK mono:Nat) (cg:Ly):Nat × Nat × Mk :=
  match kW au with
  | (l,c) =>
    if c≠0 then(0,c,m)
    else if m.dG 9=18446744073709551615 then(0,1,m)
    else
      match iu l m [] []with
      | (ps,od,m1) =>
        let seq:=(m1.dG 9+1)%18446744073709551616
        match m1.d9 (dZ {seq:=seq,cK:=cK,mono:=mono,cg:=cg,xor:=ny 0 ps,ax:=js m1 od})with
        | (e,m29) =>
          let n:=m29.dG 8
          match m29.link m29.main n 176 e with
          | (a,t,m3) =>
            let m4:=({m3 with main:=a}:Mk).ea 11 (a.getD 0 0)
            let m5:={m4 with h:={m4.h with cT:=jU a%4294967296,cW:=t%4294967296}}
            let m6:=jr e od m5
            if m6.c.cH<m6.b.length then(0,15,m)
            else
              let m7:=if n=0 then(m6.ea 10 seq).ea 12 cK else m6
              let m8:=m7.ea 8 ((m7.dG 8+1)%18446744073709551616)
              let m9:=((m8.ea 9 seq).ea 13 cK).ea 14 mono
              (seq,0,{m9 with h:={m9.h with cg:=cg,dx:=e}})
def nK:Nat→Sq→Mk→List Rec→Mk × List Rec × Sq
  | 0,s,m,rs=>(m,rs,s)
  | n+1,s,m,rs =>
    if s.cC<s.l.length then
      match s.record ((m.dG 9+1)%18446744073709551616)with
      | (r,s1) =>
        match m.append r.au r.cK r.mono r.cg with
        | (_,c,m1)=>if c≠0 then(m1,rs,s1)else nK n s1 m1 (rs ++ [r])
    else(m,rs,s)
def Sq.sR (s:Sq) (cH:Nat):Mk × List Rec × Sq :=
  match s.config with
  | (c,s1) =>
    match s1.dG 6 with
    | (t,s2)=>nK cH s2 (gZ c t) []
def nT (l:List Int) (cH:Nat):List UInt8:=mY ((Sq.mk l 0).sR cH).1 1
end Go.Wk
namespace Go.Wk
open Go Go.RowKit
structure af5 (m m':Mk) (k len:Nat):Prop where
  lt:k<m'.ai.length
  ge:m.b.length≤m'.b.length
  le:m'.b.length≤m.b.length+len
  c:m'.c=m.c
  main:m'.main=m.main
  pre:m'.ai=m.ai∨∃x:bT,m'.ai=m.ai ++ [x]∧x.ck=0∧x.bh=[]∧x.cC+64≤m'.b.length
  fl:m'.au.length≤m.au.length+1
  fit:m'.fit
  n8:m'.h.n.getD 8 0=m.h.n.getD 8 0
theorem lJ (m:Mk) (p v:Nat):(m.put p v).c=m.c∧(m.put p v).ai=m.ai∧(m.put p v).au=m.au∧(m.put p v).main=m.main∧(m.put p v).h=m.h∧(m.put p v).depth=m.depth:=⟨q,q,q,q,q,q⟩
theorem JG (m:Mk) (x:Pr) (h:m.fit):af5 m (m.data x).2 (m.data x).1 (400+x.name.length+(aR x).length):=by
  unfold Mk.data
  cases hk:nG (aR x) m.ai 0 with
  | some i =>
    have:=aaF hk
    exact⟨by simp only;omega,Nat.le_refl _,by simp only;omega,q,q,.inl q,by simp only;omega,h,q⟩
  | none =>
    simp only
    have D:=ir m (jb {dH:=ej m.c.dO m.c.cZ (aR x),cP:=0,dR:=0,entry:=0,array:=0,ck:=0,aR:=aR x})
    have Q:=eK m (jb {dH:=ej m.c.dO m.c.cZ (aR x),cP:=0,dR:=0,entry:=0,array:=0,ck:=0,aR:=aR x})
    have R:(m.d9 (jb {dH:=ej m.c.dO m.c.cZ (aR x),cP:=0,dR:=0,entry:=0,array:=0,ck:=0,aR:=aR x})).2.h.n.getD 8 0=m.h.n.getD 8 0:=by
      simp only[Mk.d9,Mk.ea];rw[cu Kq,cu Kq]
    rw[wO]at D
    simp only at D
    generalize m.d9 (jb {dH:=ej m.c.dO m.c.cZ (aR x),cP:=0,dR:=0,entry:=0,array:=0,ck:=0,aR:=aR x})=r at *
    obtain⟨p,A⟩:=r
    simp only at D Q R ⊢
    have S:=uf A A.ai (A.dG 2) p (ej m.c.dO m.c.cZ (aR x)%A.c.aU)
    have T:=iP A A.ai (A.dG 2) p (ej m.c.dO m.c.cZ (aR x)%A.c.aU)
    generalize A.hang A.ai (A.dG 2) p (ej m.c.dO m.c.cZ (aR x)%A.c.aU)=r at *
    obtain⟨n,B⟩:=r
    simp only at S T ⊢
    obtain⟨a1,a2,a3,a4,a5,a6,a7,a8⟩:=D
    obtain⟨Z,J,K,a⟩:=Q
    obtain⟨c1,c2,c3,c4,c5,c6,c7⟩:=S
    obtain⟨d,L,M,e,d5,f⟩:=T
    generalize hx5:({(B.ea 19 (max (B.dG 19) n)).ea 15 (((B.ea 19 (max (B.dG 19) n)).dG 15+1)%18446744073709551616)with ai:=((B.ea 19 (max (B.dG 19) n)).ea 15 (((B.ea 19 (max (B.dG 19) n)).dG 15+1)%18446744073709551616)).ai ++ [({dD:=aR x,cC:=p,dS:=ej m.c.dO m.c.cZ (aR x)%A.c.aU,ck:=0,bh:=[]}:bT)]}:Mk)=m5
    have j:m5.b=B.b∧m5.c=B.c∧m5.ai=B.ai ++ [({dD:=aR x,cC:=p,dS:=ej m.c.dO m.c.cZ (aR x)%A.c.aU,ck:=0,bh:=[]}:bT)]∧m5.au=B.au∧m5.main=B.main:=by subst hx5;exact⟨q,q,q,q,q⟩
    have v:m5.h.n.getD 2 0=m.h.n.getD 2 0:=by subst hx5;simp only[Mk.ea];rw[cu Kq,cu Kq];omega
    have w:m5.h.n.getD 4 0=m.h.n.getD 4 0:=by subst hx5;simp only[Mk.ea];rw[cu Kq,cu Kq];omega
    have g8:m5.h.n.getD 8 0=m.h.n.getD 8 0:=by subst hx5;simp only[Mk.ea];rw[cu Kq,cu Kq,f,R]
    clear hx5
    obtain⟨g,E,O,P,l⟩:=j
    have l5:m5.b.length=A.b.length:=by rw[g];omega
    have u:m5.fit:=by
      refine pK h ⟨by rw[E];omega,by rw[E];omega,v,w,by omega⟩ (fun k hk=>?_) (fun k hk=>?_)
      · rw[O,L,J,List.mem_append,List.mem_singleton]at hk
        rcases hk with hk|rfl
        · exact .inl hk
        · right;simp only;omega
      · rw[P,M,K]at hk;exact .inl hk
    have U:=tZ m5 x.name u
    generalize m5.field x.name=r at *
    obtain⟨k,C⟩:=r
    simp only at U ⊢
    obtain⟨⟨q1,q2,q3,q4,q5,q6,q7,q8,q9,y⟩,⟨z,s2,s3⟩,s4⟩:=U
    have l8:((C.put (p+32) (pu C.b (k+32:Nat) 8).1).put (k+32) p).b.length=C.b.length:=by rw[iR,iR]
    have o:=lJ C (p+32) (pu C.b (k+32:Nat) 8).1
    have t:=lJ (C.put (p+32) (pu C.b (k+32:Nat) 8).1) (k+32) p
    generalize C.put (p+32) (pu C.b (k+32:Nat) 8).1=m7 at *
    generalize m7.put (k+32) p=m8 at *
    obtain⟨F,V,W,v4,G,_⟩:=o
    obtain⟨H,X,Y,w4,I,_⟩:=t
    have N:m8.ai=m.ai ++ [({dD:=aR x,cC:=p,dS:=ej m.c.dO m.c.cZ (aR x)%A.c.aU,ck:=0,bh:=[]}:bT)]:=by rw[X,V,s2,O,L,J]
    refine⟨by rw[N];simp,by omega,by omega,by rw[H,F,z,E,d,Z],by rw[w4,v4,s3,l,e,a],.inr ⟨_,N,q,q,by simp only;omega⟩,?_,?_,by rw[I,G];omega⟩
    · have:=congrArg List.length P;rw[M,K]at this;rw[Y,W];omega
    · refine pK s4 ⟨by rw[H,F],by rw[H,F],by rw[I,G],by rw[I,G],by omega⟩ (fun k hk=>.inl (by rw[X,V]at hk;exact hk)) (fun k hk=>.inl (by rw[Y,W]at hk;exact hk))
theorem Z0 (l:List Nat) (p k a r:Nat):eM (l ++ [p]) k a r=((eM l k a r).2,(eM l k a r).2+ez ((k+l.length:Nat):Int)):=by
  induction l generalizing k a r with
  | nil=>rfl
  | cons x l ih =>
    show eM (l ++ [p]) (k+1) r (r+ez (k:Int))=_
    rw[ih]
    show _=((eM l (k+1) r (r+ez (k:Int))).2,(eM l (k+1) r (r+ez (k:Int))).2+ez ((k+(l.length+1):Nat):Int))
    rw[show k+1+l.length=k+(l.length+1)by omega]
theorem acD (l:List Nat) (k a r:Nat):r+4*l.length≤(eM l k a r).2∧(l≠[]→r+4*(l.length-1)≤(eM l k a r).1):=by
  induction l generalizing k a r with
  | nil=>simp[eM]
  | cons x l ih =>
    have C:=tF (k:=(k:Int)) Jy
    obtain⟨B,A⟩:=ih (k+1) r (r+ez (k:Int))
    refine⟨?_,fun _=>?_⟩
    · show r+4*(l.length+1)≤(eM l (k+1) r (r+ez (k:Int))).2;omega
    · show r+4*(l.length+1-1)≤(eM l (k+1) r (r+ez (k:Int))).1
      by_cases hl:l=[]
      · subst hl;simp[eM]
      · have:=A hl
        have:0<l.length:=by cases l with|nil=>exact absurd q hl|cons _ _=>simp
        omega
theorem tX {len n:Nat} {a:List Nat} (h:jR len a n):a.length≤n+1:=by
  obtain⟨_,B,_⟩:=h
  have A:=(acD a 0 0 0).2
  by_cases ha:a=[]
  · subst ha;simp
  have:=A ha;omega
theorem pI {len len' n:Nat} {a:List Nat} (h:jR len a n) (hl:len≤len'):jR len' a n :=
  ⟨fun k x hx=>lj (h.1 k x hx) hl,h.2⟩
theorem chain_nil (len:Nat):jR len [] 0:=⟨by simp,by simp[eM],by simp[eM]⟩
structure ZX (m m':Mk) (a:List Nat) (n:Nat):Prop where
  ge:m.b.length≤m'.b.length
  le:m'.b.length≤m.b.length+2100
  c:m'.c=m.c
  ai:m'.ai=m.ai
  au:m'.au=m.au
  main:m'.main=m.main
  chain:jR m'.b.length a (n+1)
  ne:a≠[]
  n8:m'.h.n.getD 8 0=m.h.n.getD 8 0
  n2:m'.h.n.getD 2 0=m.h.n.getD 2 0
  n4:m'.h.n.getD 4 0=m.h.n.getD 4 0
theorem vW (m:Mk) (bh:List Nat) (n src gL:Nat) (h:jR m.b.length bh n):ZX m (m.link bh n src gL).2.2 (m.link bh n src gL).1 n:=by
  obtain⟨R,S,T⟩:=h
  unfold Mk.link
  have F:=fun p=>Z0 bh p 0 0 0
  rcases hq:eM bh 0 0 0 with⟨A,B⟩
  rw[hq]at S T F
  simp only at S T F ⊢
  rw[Nat.zero_add]at F
  split
  · rename_i hn
    have G:=ir m (fe {next:=0,ax:=List.replicate (ez (bh.length:Int)) 0})
    have Q:=eK m (fe {next:=0,ax:=List.replicate (ez (bh.length:Int)) 0})
    have o:(m.d9 (fe {next:=0,ax:=List.replicate (ez (bh.length:Int)) 0})).2.h.n.getD 8 0=m.h.n.getD 8 0:=by
      simp only[Mk.d9,Mk.ea];rw[cu Kq,cu Kq]
    rw[qy]at G
    simp only[List.length_replicate]at G
    generalize m.d9 (fe {next:=0,ax:=List.replicate (ez (bh.length:Int)) 0})=r at *
    obtain⟨p,C⟩:=r
    simp only at G Q o ⊢
    obtain⟨w,y,z,a4,a5,a6,a7,a8⟩:=G
    obtain⟨U,V,W,X⟩:=Q
    have O:=tG (bh.length:Int)
    have H:=tF (k:=(bh.length:Int)) Jy
    generalize hx2:C.ea 18 ((C.dG 18+1)%18446744073709551616)=m29
    have u:m29.b=C.b∧m29.c=C.c∧m29.ai=C.ai∧m29.au=C.au∧m29.main=C.main:=by subst hx2;exact yw _ _ _
    have t8:m29.h.n.getD 8 0=C.h.n.getD 8 0:=by subst hx2;exact fB Kq
    have t2:m29.h.n.getD 2 0=C.h.n.getD 2 0:=by subst hx2;exact fB Kq
    have t4:m29.h.n.getD 4 0=C.h.n.getD 4 0:=by subst hx2;exact fB Kq
    clear hx2
    generalize hx3:(if bh.length=0 then m29.put src p else m29.put (jU bh+16) p)=m3
    have v:m3.b.length=m29.b.length∧m3.c=m29.c∧m3.ai=m29.ai∧m3.au=m29.au∧m3.main=m29.main∧m3.h=m29.h:=by
      subst hx3
      split
      · exact⟨iR _ _ _,q,q,q,q,q⟩
      · exact⟨iR _ _ _,q,q,q,q,q⟩
    clear hx3
    have t:=iR m3 (jU (bh ++ [p])+24+8*(n-B)) gL
    have P:=lJ m3 (jU (bh ++ [p])+24+8*(n-B)) gL
    generalize m3.put (jU (bh ++ [p])+24+8*(n-B)) gL=m4 at *
    obtain⟨Y,Z,d,e,f⟩:=u
    obtain⟨d1,g,i,j,l,I⟩:=v
    obtain⟨J,K,L,M,E,_⟩:=P
    have l2:=congrArg List.length Y
    have ll:m4.b.length=m.b.length+(16+(8+8*ez (bh.length:Int))+7)/8*8:=by omega
    refine⟨by omega,by omega,by rw[J,g,Z,U],by rw[K,i,d,V],by rw[L,j,e,W],by rw[M,l,f,X],⟨fun k x D=>?_,?_,?_⟩,by simp,by rw[E,I];omega,by rw[E,I];omega,by rw[E,I];omega⟩
    · rcases Nat.lt_or_ge k bh.length with hk|hk
      · rw[List.getElem?_append_left hk]at D
        have:=R k x D;omega
      have N:=(List.getElem?_eq_some_iff.1 D).1
      simp at N
      have:k=bh.length:=by omega
      subst this
      rw[List.getElem?_append_right (Nat.le_refl _)]at D
      simp at D
      subst D
      omega
    · rw[F];simp only;omega
    rw[F];simp only;omega
  rename_i hn
  have t:=iR m (jU bh+24+8*(n-A)) gL
  have P:=lJ m (jU bh+24+8*(n-A)) gL
  generalize m.put (jU bh+24+8*(n-A)) gL=m4 at *
  obtain⟨J,K,L,M,E,_⟩:=P
  show ZX m m4 bh n
  refine⟨by omega,by omega,J,K,L,M,⟨fun k x D=>by have:=R k x D;omega,by rw[hq];simp only;omega,by rw[hq];simp only;omega⟩,?_,by rw[E],by rw[E],by rw[E]⟩
  rintro rfl
  simp[eM]at hq
  omega
def Mk.n8 (m:Mk):Nat:=m.h.n.getD 8 0
def LH (m:Mk) (cH:Nat):Prop:=∀k∈m.ai,jR m.b.length k.bh (k.ck-1)∧(k.ck=0→k.bh=[])∧k.dD.length≤400∧k.ck≤cH
structure vC (m:Mk):Prop where
  fit:m.fit
  main:jR m.b.length m.main m.n8
  chains:LH m (16*m.n8)
  nd:m.ai.length≤16*m.n8
  nf:m.au.length≤16*m.n8
  nb:64*m.n8≤m.b.length
  small:m.b.length≤40000
  cH:m.c.cH≤40000
  hd:272≤m.b.length
structure l7 (m0 m:Mk) (d e:Nat) (j:Nat):Prop where
  fit:m.fit
  c:m.c=m0.c
  n8:m.n8=m0.n8
  chains:LH m (16*m0.n8+j)
  nd:m.ai.length≤m0.ai.length+d
  nf:m.au.length≤m0.au.length+d
  ge:m0.b.length≤m.b.length
  le:m.b.length≤m0.b.length+e
theorem WB {m:Mk} (h:vC m):l7 m m 0 0 0:=⟨h.fit,q,q,h.chains,Nat.le_refl _,Nat.le_refl _,Nat.le_refl _,Nat.le_refl _⟩
theorem EY {m:Mk} {x:Pr} (y:bT) (h:y∈(m.data x).2.ai):y∈m.ai∨y.dD=aR x:=by
  unfold Mk.data at h
  split at h
  · exact .inl h
  simp only at h
  have F:=eK m (jb {dH:=ej m.c.dO m.c.cZ (aR x),cP:=0,dR:=0,entry:=0,array:=0,ck:=0,aR:=aR x})
  generalize m.d9 (jb {dH:=ej m.c.dO m.c.cZ (aR x),cP:=0,dR:=0,entry:=0,array:=0,ck:=0,aR:=aR x})=r at *
  obtain⟨p,B⟩:=r
  simp only at h F
  have G:=iP B B.ai (B.dG 2) p (ej m.c.dO m.c.cZ (aR x)%B.c.aU)
  generalize B.hang B.ai (B.dG 2) p (ej m.c.dO m.c.cZ (aR x)%B.c.aU)=r at *
  obtain⟨n,C⟩:=r
  simp only at h G
  generalize hx5:({(C.ea 19 (max (C.dG 19) n)).ea 15 (((C.ea 19 (max (C.dG 19) n)).dG 15+1)%18446744073709551616)with ai:=((C.ea 19 (max (C.dG 19) n)).ea 15 (((C.ea 19 (max (C.dG 19) n)).dG 15+1)%18446744073709551616)).ai ++ [({dD:=aR x,cC:=p,dS:=ej m.c.dO m.c.cZ (aR x)%B.c.aU,ck:=0,bh:=[]}:bT)]}:Mk)=m5 at h
  have I:m5.ai=C.ai ++ [({dD:=aR x,cC:=p,dS:=ej m.c.dO m.c.cZ (aR x)%B.c.aU,ck:=0,bh:=[]}:bT)]:=by subst hx5;rfl
  clear hx5
  have H:(m5.field x.name).2.ai=m5.ai:=by
    unfold Mk.field
    split
    · rfl
    · simp only
      have D:=eK m5 (iq {dH:=ej m5.c.dO m5.c.cZ x.name,cP:=0,dat:=0,aR:=x.name})
      generalize m5.d9 (iq {dH:=ej m5.c.dO m5.c.cZ x.name,cP:=0,dat:=0,aR:=x.name})=r at *
      obtain⟨q,A⟩:=r
      simp only at D ⊢
      have E:=iP A A.au (A.dG 4) q (ej m5.c.dO m5.c.cZ x.name%A.c.aS)
      generalize A.hang A.au (A.dG 4) q (ej m5.c.dO m5.c.cZ x.name%A.c.aS)=r at *
      obtain⟨M,L⟩:=r
      simp only at E ⊢
      show L.ai=m5.ai
      rw[E.2.1,D.2.1]
  generalize m5.field x.name=r at *
  obtain⟨k,A⟩:=r
  simp only at h H
  have J:=(lJ A (p+32) (pu A.b (k+32:Nat) 8).1).2.1
  have K:=(lJ (A.put (p+32) (pu A.b (k+32:Nat) 8).1) (k+32) p).2.1
  rw[K,J,H,I,List.mem_append,List.mem_singleton,G.2.1,F.2.1]at h
  rcases h with h|rfl
  · exact .inl h
  exact .inr rfl
theorem zW {m0 m:Mk} {d e j:Nat} {x:Pr} (h:l7 m0 m d e j) (hx:x.name.length≤64∧x.value.length≤256):l7 m0 (m.data x).2 (d+1) (e+900) j∧(m.data x).1<(m.data x).2.ai.length∧(m.data x).2.main=m.main:=by
  have g:=JG m x h.fit
  have G:=fun y=>EY (m:=m) (x:=x) y
  have U:=lI x
  generalize m.data x=r at *
  obtain⟨k,H⟩:=r
  simp only at g G ⊢
  have D:=g.ge;have I:=g.le;have O:=h.ge;have P:=h.le;have Q:=h.nd;have R:=h.nf;have S:=g.fl
  have T:H.ai.length≤m.ai.length+1:=by
    rcases g.pre with e|⟨x,e,_⟩ <;> rw[e] <;> simp
  refine⟨⟨g.fit,g.c.trans h.c,(show H.h.n.getD 8 0=m0.n8 from g.n8.trans h.n8),fun y A=>?_,by omega,by omega,by omega,by omega⟩,g.lt,g.main⟩
  have F:y∈m.ai∨(y.ck=0∧y.bh=[]):=by
    rcases g.pre with e|⟨x,e,C,B,_⟩
    · rw[e]at A;exact .inl A
    · rw[e,List.mem_append,List.mem_singleton]at A
      rcases A with A|rfl
      · exact .inl A
      · exact .inr ⟨C,B⟩
  rcases F with E|⟨C,B⟩
  · obtain⟨K,L,M,N⟩:=h.chains y E
    exact⟨pI K D,L,M,N⟩
  refine⟨by rw[C,B];exact chain_nil _,fun _=>B,?_,by omega⟩
  rcases G y A with E|J
  · exact(h.chains y E).2.2.1
  rw[J];omega
theorem AA {m0 m m':Mk} {d e e' j j':Nat} (h:l7 m0 m d e j) (hc:m'.c=m.c) (h8:m'.n8=m.n8) (h2:m'.h.n.getD 2 0=m.h.n.getD 2 0) (h4:m'.h.n.getD 4 0=m.h.n.getD 4 0) (hd:m'.ai=m.ai) (hf:m'.au=m.au)
    (hg:m.b.length≤m'.b.length) (hl:m'.b.length≤m.b.length+e') (hj:j≤j'):l7 m0 m' d (e+e') j':=by
  have:=h.ge;have:=h.le
  refine⟨pK h.fit ⟨by rw[hc],by rw[hc],h2,h4,hg⟩ (fun k hk=>.inl (hd ▸ hk)) (fun k hk=>.inl (hf ▸ hk)),hc.trans h.c,h8.trans h.n8,fun k hk=>?_,by rw[hd];exact h.nd,by rw[hf];exact h.nf,by omega,by omega⟩
  rw[hd]at hk
  obtain⟨A,B,C,D⟩:=h.chains k hk
  exact⟨pI A hg,B,C,by omega⟩
theorem zZ {m0 m:Mk} {d e j L:Nat} {o:Ly} (h:l7 m0 m d e j) (ho:o.length≤L):l7 m0 (m.d9 o).2 d (e+L) j:=by
  have A:=ir m o
  have B:=eK m o
  have C:(m.d9 o).2.h.n.getD 8 0=m.h.n.getD 8 0:=by simp only[Mk.d9,Mk.ea];rw[cu Kq,cu Kq]
  exact AA h B.1 C A.2.2.2.2.2.2.1 A.2.2.2.2.2.2.2 B.2.1 B.2.2.1 (by rw[A.2.1];omega) (by rw[A.2.1];omega) (Nat.le_refl _)
theorem IQ {m0 m:Mk} {d e j:Nat} (p v:Nat) (h:l7 m0 m d e j):l7 m0 (m.put p v) d e j :=
  AA (e':=0) h q q q q q q (by rw[iR];exact Nat.le_refl _) (by rw[iR];exact Nat.le_refl _) (Nat.le_refl _)
theorem zY {m0 m:Mk} {d e j n src gL:Nat} {bh:List Nat} (h:l7 m0 m d e j) (hc:jR m.b.length bh n):l7 m0 (m.link bh n src gL).2.2 d (e+2100) j:=by
  have g:=vW m bh n src gL hc
  exact AA h g.c g.n8 g.n2 g.n4 g.ai g.au g.ge g.le (Nat.le_refl _)
theorem TA {m0 m:Mk} {d e j i:Nat} {k:bT} (h:l7 m0 m d e j) (hi:i<m.ai.length) (hp:k.cC=(m.ai.getD i known0).cC) (ht:k.dD=(m.ai.getD i known0).dD)
    (hk:jR m.b.length k.bh (k.ck-1)∧(k.ck=0→k.bh=[])∧k.ck≤16*m0.n8+(j+1)):l7 m0 {m with ai:=m.ai.set i k} d e (j+1):=by
  have C:m.ai[i]? = some (m.ai.getD i known0):=by simp[List.getD,hi]
  have B:=List.mem_of_getElem? C
  refine⟨pK h.fit ⟨q,q,q,q,Nat.le_refl _⟩ (fun y A=>?_) (fun y A=>.inl A),h.c,h.n8,fun y A=>?_,by simpa using h.nd,h.nf,h.ge,h.le⟩
  · rcases List.mem_or_eq_of_mem_set A with A|rfl
    · exact .inl A
    right;have:=h.fit.2.2.2.2.2.2.1 _ B;simp only;omega
  rcases List.mem_or_eq_of_mem_set A with A|rfl
  · obtain⟨D,E,F,G⟩:=h.chains y A;exact⟨D,E,F,by omega⟩
  exact⟨hk.1,hk.2.1,by rw[ht];exact(h.chains _ B).2.2.1,hk.2.2⟩
def lD (e:Nat) (i:Nat) (m:Mk):Mk :=
  let k:=m.ai.getD i known0
  if k.ck=0 then
    let m29:=(m.put (k.cC+40) e).put (k.cC+56) 1
    {m29 with ai:=m29.ai.set i {k with ck:=1}}
  else
    match m.link k.bh (k.ck-1) (k.cC+48) e with
    | (a,_,m1) =>
      let m29:=m1.put (k.cC+56) (k.ck+1)
      {m29 with ai:=m29.ai.set i {k with bh:=a,ck:=k.ck+1}}
theorem pL (e i:Nat) (r:List Nat) (m:Mk):jr e (i :: r) m=jr e r (lD e i m):=by
  unfold lD
  rw[jr]
  simp only
  split
  · rfl
  rfl
theorem BF {m0 m:Mk} {d e j i en:Nat} (h:l7 m0 m d e j) (hi:i<m.ai.length):l7 m0 (lD en i m) d (e+2100) (j+1)∧(lD en i m).main=m.main∧(lD en i m).ai.length=m.ai.length:=by
  have K:m.ai[i]? = some (m.ai.getD i known0):=by simp[List.getD,hi]
  have M:=List.mem_of_getElem? K
  obtain⟨I,N,O,P⟩:=h.chains _ M
  unfold lD
  simp only
  generalize hk:m.ai.getD i known0=k at *
  split
  · rename_i h0
    have g:=IQ (k.cC+56) 1 (IQ (k.cC+40) en h)
    have J:=lJ m (k.cC+40) en
    have D:=lJ (m.put (k.cC+40) en) (k.cC+56) 1
    have H:((m.put (k.cC+40) en).put (k.cC+56) 1).b.length=m.b.length:=by rw[iR,iR]
    generalize m.put (k.cC+40) en=C at *
    generalize C.put (k.cC+56) 1=m29 at *
    have B:m29.ai=m.ai:=D.2.1.trans J.2.1
    have A:=TA (i:=i) (k:={k with ck:=1}) g (by rw[B];exact hi) (by rw[B,hk]) (by rw[B,hk]) ⟨by simp only;rw[N h0];exact chain_nil _,fun F=>by simp at F,by simp only;omega⟩
    refine⟨⟨A.fit,A.c,A.n8,A.chains,A.nd,A.nf,A.ge,lj A.le Jy⟩,D.2.2.2.1.trans J.2.2.2.1,by simp[B]⟩
  rename_i h0
  have g:=zY (src:=k.cC+48) (gL:=en) h I
  have E:=vW m k.bh (k.ck-1) (k.cC+48) en I
  generalize m.link k.bh (k.ck-1) (k.cC+48) en=r at *
  obtain⟨a,Q,C⟩:=r
  simp only at g E ⊢
  have L:=IQ (k.cC+56) (k.ck+1) g
  have D:=lJ C (k.cC+56) (k.ck+1)
  have H:=iR C (k.cC+56) (k.ck+1)
  generalize C.put (k.cC+56) (k.ck+1)=m29 at *
  have B:m29.ai=m.ai:=D.2.1.trans E.ai
  have G:=E.chain
  rw[show k.ck-1+1=k.ck by omega,← H]at G
  have A:=TA (i:=i) (k:={k with bh:=a,ck:=k.ck+1}) L (by rw[B];exact hi) (by rw[B,hk]) (by rw[B,hk]) ⟨G,fun F=>by simp at F,by simp only;omega⟩
  exact⟨A,D.2.2.2.1.trans E.main,by simp[B]⟩
theorem BG {m0:Mk} {d en:Nat}:∀(od:List Nat) (m:Mk) (e j:Nat),l7 m0 m d e j→(∀i∈od,i<m.ai.length) →
    l7 m0 (jr en od m) d (e+2100*od.length) (j+od.length)∧(jr en od m).main=m.main∧(jr en od m).ai.length=m.ai.length
  | [],m,e,j,h,_=>⟨h,q,q⟩
  | i :: r,m,e,j,h,hi=>by
    obtain⟨h1,h2,h3⟩:=BF (en:=en) h (hi i Oq)
    obtain⟨g1,g2,g3⟩:=BG r (lD en i m) (e+2100) (j+1) h1 fun x hx=>by rw[h3];exact hi x (by simp[hx])
    rw[pL]
    refine⟨?_,g2.trans h2,g3.trans h3⟩
    have e1:e+2100*(i :: r).length=e+2100+2100*r.length:=by simp;omega
    have A:j+(i :: r).length=j+1+r.length:=by simp;omega
    rw[e1,A];exact g1
def BD (q:Pr):Prop:=q.name.length≤64∧q.value.length≤256
theorem OJ:∀(n j:Nat) (o:List Pr),(∀q∈o,BD q)→∀q∈jA n j o,BD q
  | 0,_,_,h=>h
  | n+1,j,o,h=>by
    unfold jA
    refine OJ n (j-1) _ fun q hq=>?_
    rcases List.mem_or_eq_of_mem_set hq with hq|rfl
    · exact h q hq
    · rw[List.getD_eq_getElem?_getD]
      cases hg:o[j-1]? with
      | none=>exact⟨by simp,by simp⟩
      | some y=>exact h y (List.mem_of_getElem? hg)
theorem afT {p:Pr} {o:List Pr} (hp:BD p) (h:∀q∈o,BD q):∀q∈sC p o,BD q:=by
  unfold sC
  simp only
  split
  · exact h
  intro q B
  rcases List.mem_or_eq_of_mem_set B with B|rfl
  · refine OJ _ _ _ (fun y A=>?_) q B
    rcases List.mem_append.1 A with A|A
    · exact h y A
    simp at A;subst A;exact⟨by simp,by simp⟩
  exact hp
theorem aaP:∀(l o:List Pr),(∀q∈o,BD q)→∀(x:List Pr) (c:Nat),WU l o=(x,c)→(∀q∈x,BD q)∧x.length≤16
  | [],o,ho,x,c,h=>by
    unfold WU at h
    split at h
    · obtain⟨rfl,_⟩:=Prod.mk.inj h;simp
    · obtain⟨rfl,_⟩:=Prod.mk.inj h;exact⟨ho,by omega⟩
  | p :: r,o,ho,x,c,h=>by
    unfold WU at h
    split at h
    · obtain⟨rfl,_⟩:=Prod.mk.inj h;simp
    · rename_i h1
      have hr:=yL.1 (Classical.not_not.1 h1)
      simp only[right,Pr.pb,Bool.and_eq_true]at hr
      exact aaP r _ (afT ⟨(gM hr.1).2,dT hr.2⟩ ho) x c h
theorem vX {l x:List Pr} {c:Nat} (h:kW l=(x,c)):(∀q∈x,BD q)∧x.length≤16:=by
  unfold kW at h
  split at h
  · obtain⟨rfl,_⟩:=Prod.mk.inj h;simp
  exact aaP l [] Oq x c h
theorem GR {ds:List bT} {k i:Nat} {od:List Nat} (h:i∈ni ds k od):i=k∨i∈od:=by
  unfold ni at h
  simp only[List.mem_append,List.mem_singleton]at h
  rcases h with(h|h)|h
  · exact .inr (List.mem_of_mem_take h)
  · exact .inl h
  exact .inr (List.mem_of_mem_drop h)
theorem AB (ds:List bT) (p:Nat) (od:List Nat):∀n,lS ds p od n≤n
  | 0=>Nat.le_refl _
  | n+1=>by
    unfold lS
    split
    · have:=AB ds p od n;omega
    · exact Nat.le_refl _
theorem YL (ds:List bT) (k:Nat) (od:List Nat):(ni ds k od).length=od.length+1:=by
  have:=AB ds (gQ ds k) od od.length
  unfold ni;simp;omega
structure pY (m0 m:Mk) (ps:List (List UInt8)) (od:List Nat) (n:Nat):Prop where
  app:l7 m0 m n (900*n) 0
  main:m.main=m0.main
  idx:∀i∈od,i<m.ai.length
  len:od.length=n∧ps.length=n
  ps:∀t∈ps,t.length≤400
theorem AO {m0 m:Mk} {ps:List (List UInt8)} {od:List Nat} {n:Nat} {x:Pr} (h:pY m0 m ps od n) (hx:BD x) :
    pY m0 (m.data x).2 (ps ++ [((m.data x).2.ai.getD (m.data x).1 known0).dD]) (ni (m.data x).2.ai (m.data x).1 od) (n+1):=by
  obtain⟨C,D,F⟩:=zW h.app hx
  have G:=JG m x h.app.fit
  refine⟨by rw[show 900*(n+1)=900*n+900 by omega];exact C,F.trans h.main,fun i B=>?_,⟨by rw[YL,h.len.1],by simpa using h.len.2⟩,fun t A=>?_⟩
  · rcases GR B with rfl|B
    · exact D
    have:=h.idx i B
    have H:m.ai.length≤(m.data x).2.ai.length:=by
      rcases G.pre with e|⟨y,e,_⟩ <;> rw[e] <;> simp
    omega
  rcases List.mem_append.1 A with A|A
  · exact h.ps t A
  simp at A
  subst A
  have E:(m.data x).2.ai[(m.data x).1]? = some ((m.data x).2.ai.getD (m.data x).1 known0):=by simp[List.getD,D]
  exact(C.chains _ (List.mem_of_getElem? E)).2.2.1
theorem xq {m0:Mk}:∀(l:List Pr) (m:Mk) (ps:List (List UInt8)) (od:List Nat) (n:Nat),pY m0 m ps od n→(∀q∈l,BD q) →
    pY m0 (iu l m ps od).2.2 (iu l m ps od).1 (iu l m ps od).2.1 (n+l.length)
  | [],m,ps,od,n,h,_=>h
  | x :: r,m,ps,od,n,h,hb=>by
    have h1:=AO h (hb x Oq)
    have h2:=xq r _ _ _ _ h1 fun q hq=>hb q (by simp[hq])
    rw[show n+(x :: r).length=n+1+r.length by simp;omega]
    exact h2
theorem sK {m:Mk} (h:vC m):pY m m [] [] 0:=⟨WB h,q,by simp,⟨q,q⟩,by simp⟩
end Go.Wk
namespace Go.Wk
open Go Go.RowKit
section
variable {P:Program} {ops:Array Oper} {md:Region.Mode} {C:World→Prop} {Q:Exit→Act→World→Prop} {QN:Act→World→Prop}
variable {n:Nat} {A:Fr n} {D:List Deferred} {l:List (Nat × Value)} {w:World} {f:Nat} {listed:Array Bool}
theorem xk {R:Act→World→Prop} {id:Nat} {lo:List Oper} {a:Act} (C:World→Prop) (hm:P.follows .mixedOrders=true) (hk:∀a' w',R a' w'→Q .normal a' w')
  (h:∀w',Md [] w w'→mq P .any lo.toArray C R lo.length (Array.replicate lo.length false) a w'):(Code.region id lo.toArray true).wp P Q a w:=by
 refine wp_region_any hm (pV (C:=C) (QN:=R) hk _ _ _ _ ?_)
 have:=h _ (Md.drew w)
 simpa using this
theorem oP {a:Act} (hr:(Region.ready md ops listed).isEmpty=true) (h:QN a w):mq P md ops C QN 0 listed a w:=⟨by simpa using hr,h⟩
theorem fI {i d:Nat} {op:Op} {ty:TypeId} {ps:String} {af:Array Edge} (v:Value) (hi:ops[i]? = some ⟨some d,op,ty,ps,af,none⟩) (hs:Region.noSelect ops=true) (hB:((Region.ready md ops listed).contains i && Region.free md ops listed i)=true) (hC:C w)
    (hv:∀w',C w'→dr P ⟨some d,op,ty,ps,af,none⟩ (b9 A D l).eval w' v) (k:mq P md ops C QN f (listed.setIfInBounds i true) (b9 A D ((d,v) :: l)) w):mq P md ops C QN (f+1) listed (b9 A D l) w:=by
  simp only[Bool.and_eq_true]at hB
  exact rT hi (Region.noSelect_spec hs) f listed _ w (Region.free_spec hi hB.2) (by simpa using hB.1) hC (.inl ⟨by simp[Region.wanted],fun w' B=>hv w' B⟩) k
theorem QO {i:Nat} {o:Oper} {a:Act} {K:Act→World→Prop} (hi:ops[i]? = some o) (hg:o.guard=none) (h:wpList P ops (fun e a' w'=>e = .normal∧C w'∧K a' w') [o] a w):opC P ops C i K a w:=by
  have D:Region.wanted o (yielded ops a.tmps)=true:=by unfold Region.wanted;rw[hg]
  unfold opC
  simp only[hi]
  rw[if_pos D]
  unfold wpList at h
  rw[if_pos D]at h
  rcases h with h|h
  · unfold Oper.wp at *
    generalize (execOp a.eval o).run P w=r at *
    cases r with
    | ok x w' =>
      cases x <;> simp only[Oper.upon]at h ⊢
      case value v=>exact(show _∧_ from h).2
      case skip=>exact(show _∧_ from h).2
      case defer d=>exact(show _∧_ from h).2
      case enter f args =>
        refine h.mono fun e B A=>?_
        cases e with
        | returned v=>exact(show _∧_ from A).2
        | panicked c=>exact absurd A.1 Oq
        | outgrown=>obtain⟨_,_,A⟩:=A;exact absurd A.1 Oq
      case row r args=>exact h.mono fun v B A=>(show _∧_ from A).2
    | halt x w' =>
      cases x <;> simp only[Oper.upon]at h ⊢
      exact absurd h.1 Oq
  obtain⟨_,_,_,A⟩:=h;exact absurd A.1 Oq
theorem eJ {i:Nat} {o:Oper} {a:Act} (hr:decide (Region.ready md ops listed=[i])=true) (hi:ops[i]? = some o) (hg:o.guard=none)
    (h:wpList P ops (fun e a' w'=>e = .normal∧C w'∧mq P md ops C QN f (listed.setIfInBounds i true) a' w') [o] a w):mq P md ops C QN (f+1) listed a w:=by
  have hr:=dT hr
  refine⟨fun A=>(by rw[hr]at A;cases A),fun k hk=>?_⟩
  rw[hr]at hk
  have:k=i:=by simpa using hk
  subst this
  exact QO hi hg h
theorem uI {i j:Nat} {o o':Oper} {a:Act} (hr:decide (Region.ready md ops listed=[i,j])=true) (hi:ops[i]? = some o) (hg:o.guard=none) (hj:ops[j]? = some o') (hg':o'.guard=none)
    (h:wpList P ops (fun e a' w'=>e = .normal∧C w'∧mq P md ops C QN f (listed.setIfInBounds i true) a' w') [o] a w)
    (h':wpList P ops (fun e a' w'=>e = .normal∧C w'∧mq P md ops C QN f (listed.setIfInBounds j true) a' w') [o'] a w):mq P md ops C QN (f+1) listed a w:=by
  have hr:=dT hr
  refine⟨fun A=>(by rw[hr]at A;cases A),fun k hk=>?_⟩
  rw[hr]at hk
  have:k=i∨k=j:=by simpa using hk
  rcases this with rfl|rfl
  · exact QO hi hg h
  exact QO hj hg' h'
end
theorem TI {β:Type} {f:β→Value} {h1:∀x,(f x).oneCell'=true} {ok:β→Prop} {w w':World} {R R':Nat→Prop}:∀{xs:List β} {cs:List Value},rV (uH f h1 ok) w R cs xs→rV (uH f h1 ok) w' R' cs xs
 | [],_,h=>h
 | _ :: _,_,⟨c,r,h0,h1,h2⟩=>⟨c,r,h0,h1,TI h2⟩
theorem CB {β:Type} {f:β→Value} {h1:∀x,(f x).oneCell'=true} {ok:β→Prop} {w w':World} {R R':Nat→Prop} {v:Value} {xs:List β} (h:Lz (uH f h1 ok) w R v xs) (m:Md [] w w'):Lz (uH f h1 ok) w' R' v xs:=by
 obtain⟨a,A,B,C,h1,D,E,F,G⟩:=h
 exact⟨a,A,B,C,h1,D,E,fun p I j u H=>m.cell (F p I j u H) Oq,TI G⟩
theorem xO {β:Type} {f:β→Value} {h1:∀x,(f x).oneCell'=true} {ok:β→Prop} {w:World} {R:Nat→Prop} {b e:Nat} {x:β} (h:cG w b [f x] e) (hx:ok x):Lz (uH f h1 ok) w R (.slice (some ⟨b,0,none⟩) 1 1) [x]:=by
  have B:Ls (uH f h1 ok) w (fun _=>True) (.slice (some ⟨b,0,none⟩) 1 1) [x]:=Ls.dM (cs:=[f x]) h ⟨[f x],[],q,⟨q,hx⟩,q⟩ q Kq trivial
  exact CB B.lz (Md.refl _ _)
structure uW {α:Type} (T:Dt α) (w0:World) (Q0:Nat→Prop) (e:TypeId) (w:World) (R:Nat→Prop) (v:Value) (xs:List α):Prop where
  md:Md [] w0 w
  s:∀b,Q0 b→b<w0.heap.size→R b
  t:∀b,R b→Q0 b
  up:Up w R
  ow:Ow T e (cB [] w0) w R v xs
section
variable {α:Type} {T:Dt α} {P:Program} {ops:Array Oper} {Q:Exit→Act→World→Prop} {n:Nat} {A:Fr n} {D:List Deferred} {l:List (Nat × Value)} {w:World} {rest:List Oper}
theorem uW.mk0 {w0 w1 w:World} {Q0:Nat→Prop} {e b:Nat} (uQ:Up w0 Q0) (h1:Md [] w0 w1) (h2:w1.heap.size≤b) (h3:b<w.heap.size) (hm:Md [] w1 w) (hB:cG w b [] e) :
    ∃R,uW T w0 Q0 e w R (.slice (some ⟨b,0,none⟩) 0 0) []:=by
  obtain⟨R,s,t,C,u⟩:=jD (uQ.md h1) h2 h3 hm
  exact⟨R,h1.k hm,fun b A B=>s b A (lq B h1.size),t,u,Ow.dM hB q q Kq (.inr (lj h1.size h2)) C⟩
theorem uW.o {w0 w w':World} {Q0 R:Nat→Prop} {e:TypeId} {v:Value} {xs:List α} (h:uW T w0 Q0 e w R v xs) (m:Md [] w w'):uW T w0 Q0 e w' R v xs :=
  ⟨h.md.k m,h.s,h.t,h.up.md m,h.ow.o m⟩
instance ajC {w0 w w':World} {Q0 R:Nat→Prop} {e:TypeId} {v:Value} {xs:List α}:Tp w w' (uW T w0 Q0 e w R v xs) (uW T w0 Q0 e w' R v xs ):=⟨fun m h=>h.o m⟩
theorem kT {d:Nat} {x y:Operand} {ty:TypeId} {ps:String} {af:Array Edge} {t e:TypeId} {sz by':Nat} {v u:Value} {xs ys:List α} {w0:World} {Q0 R:Nat→Prop} (hn:T.n=sz) (ht:P.underlying t=some (.slice e)) (hE:yH P e sz by'=true) (hx:ev n l x=some v) (hy:ev n l y=some u)
    (F:uW T w0 Q0 e w R v xs) (hY:Lz T w R u ys) (h63:xs.length+ys.length≤100000) (hb:by'≤1000)
    (k:∀v' w' R',uW T w0 Q0 e w' R' v' (xs ++ ys)→Md (ah v).toList w w'→wpList P ops Q rest (b9 A D ((d,v') :: l)) w') :
    wpList P ops Q (⟨some d,.call {callee:=.builtin .append,args:=#[x,y],argTypes:=#[t,t]},ty,ps,af,none⟩ :: rest) (b9 A D l) w:=by
  refine tK hn ht hE hx hy F.ow hY F.up (fun b hb=>.inr (lj F.md.size hb)) Jy ?_ ?_
  · exact lj (Nat.mul_le_mul h63 hb) Kq
  intro v' w' R' E G H I B J K L
  refine k v' w' R' ⟨F.md.dK B fun b hb=>(F.ow.2 b hb).1,fun b hb C=>E b (F.s b hb C) (lq C F.md.size),fun b hb=>F.t b (G b hb),H,I⟩ B
end
theorem afg {ds:List bT} {p q:Nat} {od:List Nat} (h:0<q):lS ds p od q=if p<gQ ds (od.getD (q-1) 0)then lS ds p od (q-1)else q:=by
  obtain⟨n,rfl⟩:∃n,q=n+1:=⟨q-1,by omega⟩
  rfl
theorem agS {ds:List bT} {p q:Nat} {od:List Nat} (h:¬0<q):lS ds p od q=q:=by
  obtain rfl:q=0:=by omega
  rfl
theorem p9 {ds:List bT} {i:Nat} {x:bT} (h:ds[i]? = some x):gQ ds i=x.cC:=by simp[gQ,List.getD,h]
theorem sV {l:List Nat} {i x:Nat} (h:l[i]? = some x):l.getD i 0=x:=by simp[List.getD,h]
theorem qO {ds:List bT} {i:Nat} {x:bT} (h:ds[i]? = some x):ds.getD i known0=x:=by simp[List.getD,h]
theorem WK (m:Mk) (x:Pr) (h:m.fit):m.ai.length≤(m.data x).2.ai.length:=by
  rcases(JG m x h).pre with e|⟨y,e,_⟩ <;> rw[e] <;> simp
theorem vf {l:List Pr} {m:Mk} {ps:List (List UInt8)} {od:List Nat} {i:Nat} (h:¬i<l.length):iu (l.drop i) m ps od=(ps,od,m):=by rw[iY Jy];rfl
theorem yG {l:List Pr} {m m':Mk} {ps:List (List UInt8)} {od:List Nat} {i k:Nat} {x:Pr} {y:bT} {q:Nat} (h:l[i]? = some x) (hd:m.data x=(k,m')) (hy:m'.ai[k]? = some y) (hq:lS m'.ai (gQ m'.ai k) od od.length=q) :
    iu (l.drop i) m ps od=iu (l.drop (i+1)) m' (ps ++ [y.dD]) (od.take q ++ [k] ++ od.drop q):=by
  rw[gC h]
  show(match m.data x with|(k,m1)=>iu (l.drop (i+1)) m1 (ps ++ [(m1.ai.getD k known0).dD]) (ni m1.ai k od))=_
  rw[hd]
  simp only[qO hy]
  unfold ni
  rw[hq]
theorem AL {m0 m m':Mk} {ps:List (List UInt8)} {od:List Nat} {n k q:Nat} {x:Pr} {y:bT} (h:pY m0 m ps od n) (hx:BD x) (hd:m.data x=(k,m')) (hy:m'.ai[k]? = some y) (hq:lS m'.ai (gQ m'.ai k) od od.length=q) :
    pY m0 m' (ps ++ [y.dD]) (od.take q ++ [k] ++ od.drop q) (n+1):=by
  have:=AO h hx
  rw[hd]at this
  simp only[qO hy]at this
  unfold ni at this
  rw[hq]at this
  exact this
theorem vm {m:Mk} {od:List Nat} {j:Nat} {its:List jO} (h:¬j<od.length):its ++ js m (od.drop j)=its:=by rw[iY Jy];simp[js]
theorem MA {m:Mk} {od:List Nat} {j i:Nat} {its:List jO} {x:bT} (h:od[j]? = some i) (hx:m.ai[i]? = some x) :
    its ++ js m (od.drop j)=(its ++ [{cC:=x.cC,dH:=ej m.c.dO m.c.cZ x.dD}]) ++ js m (od.drop (j+1)):=by
  rw[gC h]
  simp only[js,List.map_cons,p9 hx,qO hx,List.append_assoc,List.singleton_append]
theorem xI {m:Mk} {od:List Nat} {j e:Nat} (h:¬j<od.length):jr e (od.drop j) m=m:=by rw[iY Jy];rfl
theorem BH {m:Mk} {od:List Nat} {j i e:Nat} (h:od[j]? = some i):jr e (od.drop j) m=jr e (od.drop (j+1)) (lD e i m):=by rw[gC h,pL]
theorem P7 {m0 m:Mk} {d e e' j:Nat} (h:l7 m0 m d e j) (he:e≤e'):l7 m0 m d e' j:=⟨h.fit,h.c,h.n8,h.chains,h.nd,h.nf,h.ge,lj h.le Jy⟩
theorem adJ {m:Mk} {e i:Nat} {k:bT} (hk:m.ai[i]? = some k) (h0:k.ck=0) :
    lD e i m={(m.put (k.cC+40) e).put (k.cC+56) 1 with ai:=m.ai.set i {k with ck:=1}}:=by
  unfold lD
  simp only[qO hk]
  rw[if_pos h0]
  rfl
theorem adK {m m1:Mk} {e i t:Nat} {a:List Nat} {k:bT} (hk:m.ai[i]? = some k) (h0:¬k.ck=0) (hl:m.link k.bh (k.ck-1) (k.cC+48) e=(a,t,m1)) :
    lD e i m={m1.put (k.cC+56) (k.ck+1)with ai:=m1.ai.set i {k with bh:=a,ck:=k.ck+1}}:=by
  unfold lD
  simp only[qO hk]
  rw[if_neg h0,hl]
  rfl
theorem ku {m x m29 m3 z:Mk} {raw l:List Pr} {c cK mono e t:Nat} {cg:Ly} {ps:List (List UInt8)} {od a:List Nat} (h1:kW raw=(l,c)) (h2:¬c≠0) (h3:¬m.dG 9=18446744073709551615) (h4:iu l m [] []=(ps,od,x))
    (h5:x.d9 (dZ {seq:=(x.dG 9+1)%18446744073709551616,cK:=cK,mono:=mono,cg:=cg,xor:=ny 0 ps,ax:=js x od})=(e,m29)) (h6:m29.link m29.main (m29.dG 8) 176 e=(a,t,m3))
    (h7:jr e od (let m4:=({m3 with main:=a}:Mk).ea 11 (a.getD 0 0);{m4 with h:={m4.h with cT:=jU a%4294967296,cW:=t%4294967296}})=z) :
    m.append raw cK mono cg=if z.c.cH<z.b.length then(0,15,m)else
      (let seq:=(x.dG 9+1)%18446744073709551616
      let m7:=if m29.dG 8=0 then(z.ea 10 seq).ea 12 cK else z
      let m8:=m7.ea 8 ((m7.dG 8+1)%18446744073709551616)
      let m9:=((m8.ea 9 seq).ea 13 cK).ea 14 mono
      (seq,0,{m9 with h:={m9.h with cg:=cg,dx:=e}})):=by
  unfold Mk.append
  simp only[h1]
  rw[if_neg h2,if_neg h3]
  simp only[h4,h5,h6]
  simp only at h7
  rw[h7]
end Go.Wk
namespace Go.Wk
open Go Go.Op
theorem aap:∀a:List UInt8,bytesLess a a=false
  | []=>rfl
  | x :: a=>by simp[bytesLess,aap a]
theorem LF:∀{a b c:Ly},bytesLess a b=true→bytesLess b c=true→bytesLess a c=true
  | _,[],_,h,_=>by unfold bytesLess at h;cases h
  | _,_ :: _,[],_,h=>by unfold bytesLess at h;cases h
  | [],_ :: _,_ :: _,_,_=>rfl
  | x :: a,y :: b,z :: c,h1,h2=>by
    simp only[bytesLess,Bool.or_eq_true,decide_eq_true_eq,Bool.and_eq_true,beq_iff_eq]at *
    rcases h1 with h1|⟨rfl,h1⟩<;>rcases h2 with h2|⟨rfl,h2⟩
    · exact .inl (UInt8.lt_trans h1 h2)
    · exact .inl h1
    · exact .inl h2
    · exact .inr ⟨q,LF h1 h2⟩
theorem aaq:∀{a b:Ly},bytesLess a b=false→bytesLess b a=false→a=b
  | [],[],_,_=>rfl
  | [],_ :: _,h,_=>by unfold bytesLess at h;cases h
  | _ :: _,[],_,h=>by unfold bytesLess at h;cases h
  | x :: a,y :: b,h1,h2=>by
    simp only[bytesLess,Bool.or_eq_false_iff,decide_eq_false_iff_not,Bool.and_eq_false_iff,beq_eq_false_iff_ne]at *
    have hxy:x=y:=by
      have A:=h1.1;have B:=h2.1
      exact UInt8.le_antisymm (UInt8.not_lt.1 B) (UInt8.not_lt.1 A)
    subst hxy
    have A:=h1.2.resolve_left Oq
    have B:=h2.2.resolve_left Oq
    rw[aaq A B]
theorem ZQ {p q:yE} (hp:right p=true) (hq:right q=true) (h:whole p=whole q):p=q:=by
  have A:=(o9 ((mR p).2 hp)).2
  have B:=(o9 ((mR q).2 hq)).2
  rw[← A,h,B]
end Go.Wk
namespace Go.Wk
open Go Go.RowKit
section
variable {P:Program} {n:Nat} {A:Fr n} {D:List Deferred} {l:List (Nat × Value)} {w:World} {d:Option Tmp} {ty:TypeId} {ps:String} {af:Array Edge} {g:Option (Nat × Bool)}
end
def aaT (p:Pr):List Pr→Bool
  | []=>false
  | q :: r=>if p.pb=q.pb then true else aaT p r
def allIn (b:List Pr):List Pr→Bool
  | []=>true
  | p :: r=>if aaT p b=true then allIn b r else false
theorem ye {p q:Pr}:p.pb=q.pb↔p=q:=by
  cases p;cases q;simp[Pr.pb]
theorem aaU {p:Pr} {l:List Pr}:aaT p l=true↔p∈l:=by
  induction l with
  | nil=>simp[aaT]
  | cons q r ih =>
    unfold aaT
    split
    · rename_i h;rw[ye]at h;simp[h]
    · rename_i h;rw[ye]at h;simp[h,ih]
end Go.Wk
namespace Go.Wk
open Go Go.RowKit
section
variable {P:Program} {ops:Array Oper} {Q:Exit→Act→World→Prop} {rest:List Oper}
variable {n:Nat} {A:Fr n} {D:List Deferred} {l:List (Nat × Value)} {w:World}
variable {d:Tmp} {op:Op} {ty:TypeId} {ps:String} {af:Array Edge} {g:Option (Nat × Bool)}
end
section
variable {P:Program} {n:Nat} {A:Fr n} {D:List Deferred} {l:List (Nat × Value)} {w:World} {d:Option Tmp} {ty:TypeId} {ps:String} {af:Array Edge} {g:Option (Nat × Bool)}
theorem VG {x:Operand} {t u e:TypeId} {a:Option Addr} {m c:Nat} (hx:ev n l x=some (.slice a m c)) (hT:P.underlying t=some (.slice e)) :
    dr P ⟨d,.binOp .eql t x (.const (.slice none 0 0)) u,ty,ps,af,g⟩ (b9 A D l).eval w (.bool a.isNone):=by
  have h:=Go.Lib.run_eql_slice_nil (P:=P) w t e a m c 0 0 hT
  have B:(b9 A D l).eval (.const (.slice none 0 0)) = .slice none 0 0:=rfl
  have C:(eqGuard .eql t x (.const (.slice none 0 0)) (.slice a m c) (.slice none 0 0)).run P w = .ok () w:=by unfold eqGuard;simp
  simp[dr,execOp,cO hx,B,C,h]
end
section
variable {w w':World} {b cap:Nat} {xs:List Pr}
end
end Go.Wk
namespace Go.Wk
open Go Go.RowKit
theorem acI {v:Nat} {x:UInt8} (h:v<72057594037927936):v*2 ^ 8%18446744073709551616 ||| x.toNat=x.toNat+256*v:=by
  have A:=UInt8.toNat_lt x
  rw[Nat.mod_eq_of_lt Jy,Nat.mul_comm,← Nat.two_pow_add_eq_or_of_lt (by simpa using A)]
  omega
theorem vM {l:Ly} {a k:Nat} (hk:k=4∨k=8) (h:a+k≤l.length):pu l a k=(BP ((l.drop a).take k),true):=by
  unfold pu
  rw[if_pos ⟨by rw[fH];omega,by omega,by omega⟩];simp
def at4 (l:Ly) (a:Nat):Nat:=BP ((l.drop a).take 4)
def fJ (l:Ly) (a:Nat):Nat:=BP ((l.drop a).take 8)
theorem xj (l:Ly) (a:Nat):at4 l a<4294967296:=uh (k:=4) Zy
theorem PD (l:Ly) (a:Nat):fJ l a<18446744073709551616:=uh (k:=8) Zy
section
variable {P:Program} {ops:Array Oper} {Q:Exit→Act→World→Prop} {rest:List Oper}
variable {n:Nat} {A:Fr n} {D:List Deferred} {l:List (Nat × Value)} {w:World}
variable {d:Tmp} {op:Op} {ty:TypeId} {ps:String} {af:Array Edge} {g:Option (Nat × Bool)}
theorem wX {f:FuncId} {c:Operand} {xs:List Operand} {ts:Array TypeId} {vs cs:List Value} {R:Ending→World→Prop} (hc:ev n l c=some (.func (.func f) #[] cs.toArray)) (hf:dJ P f=true) (ha:evs n l xs=some vs) (hr:Calls P f (vs ++ cs).toArray w R)
    (k:∀e w',R e w'→∃v,e = .returned v∧wpList P ops Q rest (b9 A D ((d,v) :: l)) w') :
    wpList P ops Q (⟨some d,.call {callee:=.value c,args:=xs.toArray,argTypes:=ts},ty,ps,af,none⟩ :: rest) (b9 A D l) w:=by
  refine gO q ?_
  unfold Oper.wp
  have E:=mX (A:=A) (D:=D) ha
  have B:(execOp (b9 A D l).eval ⟨some d,.call {callee:=.value c,args:=xs.toArray,argTypes:=ts},ty,ps,af,none⟩).run P w = .ok (.enter f (vs ++ cs).toArray) w:=by
    simp only[execOp,resolve,cO hc,Deferred.ofValue,List.map_toArray,E]
    simp[invoke,pz hf]
  rw[B]
  refine hr.mono fun e w' C=>?_
  obtain⟨v,rfl,hk⟩:=k e w' C
  exact hk
theorem RD {f:FuncId} {x:Operand} {v:Value} {d':Option Tmp} (hx:ev n l x=some v) :
    dr P ⟨d',.makeFunc (.func f) #[] #[x],ty,ps,af,g⟩ (b9 A D l).eval w (.func (.func f) #[] #[v]):=by
  simp[dr,execOp,cO hx,Instr.makeFunc]
end
def z16:List UInt8:=List.replicate 16 0
def jK (b:Ly) (c i k j:Nat):cA :=
  {eW:=c,bY:=i,state:=(b.getD 16 0).toNat,cZ:=if 0<k then(b.drop 24).take 16 else z16,dP:=if 1<k then(b.drop 40).take 16 else z16,cg:=if 2<k then(b.drop 56).take 16 else z16,seq:=if 3<k then(b.drop 72).take 16 else z16,
    n:=(List.range 21).map fun q=>if q<j then fJ b (88+8*q)else 0,cT:=0,cW:=0,dx:=0}
def gB (b:Ly):cA:={jK b (at4 b 8) (at4 b 12) 4 21 with cT:=at4 b 256,cW:=at4 b 260,dx:=fJ b 264}
theorem EA {b:Ly} {o:Nat} (h:o+16≤b.length):((b.drop o).take 16).length=16:=by simp;omega
theorem pM {x:Ly} (h:x.length=16) (a c:List Value) (z:Ly):gm (a ++ (gH z ++ c)) a.length (x.map b8)=a ++ (gH x ++ c):=by
  unfold gm
  have B:(gH z).length=16:=rfl
  have A:(x.map b8).length=16:=by simp[h]
  rw[List.take_left,A,← List.append_assoc a,List.drop_left' (by simp[B]),← lQ h,List.append_assoc]
theorem aaZ {b:Ly} {c i k:Nat} (hk:k<4) (hl:272≤b.length):gm (cA.cells (jK b c i k 0)) (3+k*16) (((b.drop (24+16*k)).take 16).map b8)=cA.cells (jK b c i (k+1) 0):=by
  have A:((b.drop (24+16*k)).take 16).length=16:=EA Jy
  rcases(show k=0∨k=1∨k=2∨k=3 by omega)with rfl|rfl|rfl|rfl
  · exact pM A [.int .u32 c,.int .u32 i,.int .i64 (((b.getD 16 0).toNat:Nat):Int)] _ z16
  · exact pM A ([.int .u32 c,.int .u32 i,.int .i64 (((b.getD 16 0).toNat:Nat):Int)] ++ gH ((b.drop 24).take 16)) _ z16
  · exact pM A ([.int .u32 c,.int .u32 i,.int .i64 (((b.getD 16 0).toNat:Nat):Int)] ++ gH ((b.drop 24).take 16) ++ gH ((b.drop 40).take 16)) _ z16
  exact pM A ([.int .u32 c,.int .u32 i,.int .i64 (((b.getD 16 0).toNat:Nat):Int)] ++ gH ((b.drop 24).take 16) ++ gH ((b.drop 40).take 16) ++ gH ((b.drop 56).take 16)) _ z16
theorem aaW {h:cA} {j v:Nat} (hn:h.n.length=21) (hj:j<21):(cA.cells h).set (67+j) (.int .u64 v)=cA.cells {h with n:=h.n.set j v}:=by
  have e:∀(m:List Nat) (t:cA),t.n=m→cA.cells t=([(.int .u32 t.eW)] ++ ([(.int .u32 t.bY)] ++ ([(.int .i64 t.state)] ++ ((gH t.cZ) ++ ((gH t.dP) ++ ((gH t.cg) ++ (gH t.seq))))))) ++ (oH m ++ ([(.int .u32 t.cT)] ++ ([(.int .u32 t.cW)] ++ [(.int .u64 t.dx)]))):=by
    intro m t C;subst C;simp only[cA.cells,List.append_assoc]
  rw[e h.n h q,e (h.n.set j v) {h with n:=h.n.set j v} q,QL hn hj]
  have B:([(.int .u32 h.eW)] ++ ([(.int .u32 h.bY)] ++ ([(.int .i64 h.state)] ++ ((gH h.cZ) ++ ((gH h.dP) ++ ((gH h.cg) ++ (gH h.seq)))))):List Value).length=67:=rfl
  have A:(oH h.n).length=21:=rfl
  rw[List.set_append_right _ _ Jy,B,Nat.add_sub_cancel_left,List.set_append_left _ _ Jy]
theorem agc {b:Ly} {j:Nat} (hj:j<21):((List.range 21).map fun q=>if q<j then fJ b (88+8*q)else 0).set j (fJ b (88+8*j))=(List.range 21).map fun q=>if q<j+1 then fJ b (88+8*q)else 0:=by
  apply List.ext_getElem
  · simp
  intro q A B
  simp at A
  by_cases h:q=j
  · subst h;simp
  rw[List.getElem_set_ne (Ne.symm h)]
  simp only[List.getElem_map,List.getElem_range]
  by_cases h3:q<j
  · rw[if_pos h3,if_pos Jy]
  rw[if_neg h3,if_neg Jy]
theorem XL {b:Ly} {c i j:Nat} (hj:j<21):(cA.cells (jK b c i 4 j)).set (67+j) (.int .u64 ((fJ b (88+8*j):Nat):Int))=cA.cells (jK b c i 4 (j+1)):=by
  rw[aaW (by simp[jK]) hj]
  unfold jK
  simp only[agc hj]
theorem wK {b:Ly} (h:272≤b.length):cA.ok (gB b):=by
  refine⟨xj _ _,xj _ _,?_,EA Jy,EA Jy,EA Jy,EA Jy,⟨by simp[gB,jK],?_⟩,xj _ _,xj _ _,PD _ _⟩
  · have:=UInt8.toNat_lt (b.getD 16 0);show(b.getD 16 0).toNat<_;omega
  intro y A
  simp only[gB,jK,List.mem_map,List.mem_range]at A
  obtain⟨q,B,rfl⟩:=A
  rw[if_pos B];exact PD _ _
def ptrs (b o sz:Nat) (n:Nat):List Value:=(List.range n).map fun k=>.pointer (some ⟨b,o+k*sz,none⟩)
theorem NN {b o sz n k:Nat} (h:k<n):(ptrs b o sz n)[k]? = some (.pointer (some ⟨b,o+k*sz,none⟩)):=by
  simp[ptrs,h]
end Go.Wk
namespace Go.Wk
open Go Go.RowKit
def andNot (a b:Nat):Nat:=(BitVec.ofNat 32 a &&& ~~~(BitVec.ofNat 32 b)).toNat
section
variable {P:Program} {n:Nat} {A:Fr n} {D:List Deferred} {l:List (Nat × Value)} {w:World} {d:Option Tmp} {ty:TypeId} {ps:String} {af:Array Edge} {g:Option (Nat × Bool)}
theorem GX {x y:Operand} {t u:TypeId} {a b:Nat} (L:Nat) (hL:lim .u32=L) (hk:IntKind.u32.signed=false) (hx:ev n l x=some (.int .u32 (a:Int))) (hy:ev n l y=some (.int .u32 (b:Int))) (h:a<L∧b<L) :
    dr P ⟨d,.binOp .andNot t x y u,ty,ps,af,g⟩ (b9 A D l).eval w (.int .u32 ((andNot a b:Nat):Int)):=(acz hx hy).jF (by
  unfold bits andNot
  simp only[BitVec.ofInt_natCast]
  exact wrapN .u32 _ (show(BitVec.ofNat 32 a &&& ~~~(BitVec.ofNat 32 b)).toNat<4294967296 from(BitVec.ofNat 32 a &&& ~~~(BitVec.ofNat 32 b)).isLt))
end
def hz0:cA:={eW:=0,bY:=0,state:=0,cZ:=jT,dP:=jT,cg:=jT,seq:=jT,n:=List.replicate 21 0,cT:=0,cW:=0,dx:=0}
def uT:List UInt8:=[76,80,75,83,72,72,82,72]
def ri (b p:Ly):Bool:=if p.length≤b.length then decide (b.take p.length=p)else false
def uE (h:cA):Nat × Bool:=if(h.n.getD 0 0+h.n.getD 1 0)%18446744073709551616<h.n.getD 0 0 then(0,false)else((h.n.getD 0 0+h.n.getD 1 0)%18446744073709551616,true)
def kU (h:cA) (at_ size end_:Nat):Nat :=
  if at_%8≠0 then 3
  else if size=0∨size%16≠0 then 5
  else if at_<h.n.getD 0 0∨at_-h.n.getD 0 0<16∨end_<at_∨end_-at_<size then 2 else 0
def oE (h:cA) (len:Nat):Nat :=
  if andNot h.bY 4≠0 then 7
  else if 2<h.state then 8
  else if h.n.getD 0 0<272∨h.n.getD 0 0%8≠0∨h.n.getD 1 0%8≠0 then 5
  else if(uE h).2=false∨len<(uE h).1 then 2
  else if kU h (h.n.getD 2 0) (h.n.getD 3 0) (uE h).1≠0 then kU h (h.n.getD 2 0) (h.n.getD 3 0) (uE h).1
  else kU h (h.n.getD 4 0) (h.n.getD 5 0) (uE h).1
def jJ (b:Ly):cA × Nat :=
  if b.length<272 then(hz0,22)
  else if ri b uT=false then(hz0,6)
  else if oE (gB b) b.length≠0 then(hz0,oE (gB b) b.length)else(gB b,0)
theorem l9 {h:cA} {len r:Nat} {s:Bool} (he:uE h=(r,s)):oE h len=(if andNot h.bY 4≠0 then 7 else if 2<h.state then 8 else if h.n.getD 0 0<272∨h.n.getD 0 0%8≠0∨h.n.getD 1 0%8≠0 then 5
    else if s=false∨len<r then 2 else if kU h (h.n.getD 2 0) (h.n.getD 3 0) r≠0 then kU h (h.n.getD 2 0) (h.n.getD 3 0) r else kU h (h.n.getD 4 0) (h.n.getD 5 0) r):=by
  unfold oE;rw[he]
theorem mC {b:Ly} {h:cA} {p:Bool} {c:Nat} (h1:¬b.length<272) (h2:ri b [76,80,75,83,72,72,82,72]=p) (h3:¬p=false) (h4:gB b=h) (h5:oE h b.length=c) (h6:c≠0):jJ b=(hz0,c):=by
  subst h4;subst h5
  unfold jJ;rw[if_neg h1,if_neg (by rw[show uT=[76,80,75,83,72,72,82,72]from rfl,h2];exact h3),if_pos h6]
theorem Oo {b:Ly} {h:cA} {p:Bool} (h1:¬b.length<272) (h2:ri b [76,80,75,83,72,72,82,72]=p) (h3:¬p=false) (h4:gB b=h) (h5:oE h b.length=0):jJ b=(h,0):=by
  subst h4
  unfold jJ;rw[if_neg h1,if_neg (by rw[show uT=[76,80,75,83,72,72,82,72]from rfl,h2];exact h3),if_neg Jy]
theorem yR {b:Ly} (h:b.length<272):jJ b=(hz0,22):=by unfold jJ;rw[if_pos h]
theorem DN {b:Ly} (h1:¬b.length<272) (h2:ri b [76,80,75,83,72,72,82,72]=false):jJ b=(hz0,6):=by unfold jJ;rw[if_neg h1,if_pos (show ri b uT=false from h2)]
def Po {α:Type} (T:Dt α) (ty:TypeId) (w:World) (Q:Nat→Prop) (v:Value):Option α→Prop
  | none=>v = .pointer none
  | some x=>Pt T ty w Q v x
section
variable {α:Type} {T:Dt α} {ty:TypeId} {w w':World} {Q Q':Nat→Prop} {v:Value} {ox:Option α}
variable {P:Program} {n:Nat} {A:Fr n} {D:List Deferred} {l:List (Nat × Value)} {d:Option Tmp} {ty2:TypeId} {ps:String} {af:Array Edge} {g:Option (Nat × Bool)}
end
def iE (b:Ly):Option fp × Nat:=if(jJ b).2≠0 then(none,(jJ b).2)else(some {b:=b.take (uE (jJ b).1).1,h:=(jJ b).1},0)
theorem yq {b:Ly} {h:cA} (hr:jJ b=(h,0)):272≤b.length∧gB b=h∧oE h b.length=0:=by
  unfold jJ at hr
  split at hr
  · have:=congrArg Prod.snd hr;simp at this
  rename_i h1
  split at hr
  · have:=congrArg Prod.snd hr;simp at this
  split at hr
  · rename_i h2;have:=congrArg Prod.snd hr;exact absurd this h2
  rename_i h2
  have e:=congrArg Prod.fst hr
  simp only at e
  subst e
  exact⟨by omega,q,by omega⟩
theorem O1 {b:Ly} {h:cA} {e:Nat} {s:Bool} (hr:jJ b=(h,0)) (he:uE h=(e,s)):e≤b.length∧s=true:=by
  obtain⟨_,_,A⟩:=yq hr
  rw[l9 he]at A
  split at A
  · omega
  split at A
  · omega
  split at A
  · omega
  split at A
  · omega
  rename_i h4;rw[not_or]at h4
  exact⟨by omega,by simpa using h4.1⟩
theorem xY {b:Ly} {x:Option fp} (h:iE b=(x,0)):∃y,x=some y∧cA.ok y.h∧y.b.length≤b.length:=by
  unfold iE at h
  split at h
  · rename_i h1;exact absurd (congrArg Prod.snd h) h1
  rename_i h1
  have C:jJ b=((jJ b).1,0):=by rw[← Classical.not_not.1 h1]
  obtain⟨A,B,_⟩:=yq C
  exact⟨_,(congrArg Prod.fst h).symm,by rw[← B];exact wK A,by simp;omega⟩
end Go.Wk
namespace Go.Wk
open Go Go.RowKit
theorem Ow.lsB {e:TypeId} {w w':World} {Q Q':Nat→Prop} {v:Value} {xs:Ly} (h:Ow eV e (cB [] w) w' Q' v xs) (uQ:Up w Q):Ls eV w' Q v xs :=
  Ls.of_by h.read.by fun b hb _=>cB.up uQ b (h.2 b hb).1
theorem JD (s:Sq):s.config.1.aU≤10∧s.config.1.aS≤10:=by
  rcases h1:s.dG 5 with⟨a,E⟩
  rcases h2:E.dG 5 with⟨b,F⟩
  rcases h3:F.dG 5 with⟨c,C⟩
  rcases h4:C.dG 7 with⟨d,D⟩
  rcases h5:D.dG 4 with⟨e,G⟩
  rcases h6:G.dG 2 with⟨f,H⟩
  have A:=C.mg 7
  have B:=D.mg 4
  rw[h4]at A;rw[h5]at B
  simp only[Sq.config,h1,h2,h3,h4,h5,h6]
  simp only at A B
  omega
end Go.Wk
namespace Go.Wk
open Go Go.RowKit
theorem pq {l:List Nat} {i v:Nat} (h:i<l.length):(l.set i v).getD i 0=v:=by simp[List.getD,h]
def pn (z:Mk) (n seq cK mono e:Nat) (cg:Ly):Mk :=
  let m7:=if n=0 then(z.ea 10 seq).ea 12 cK else z
  let m8:=m7.ea 8 ((m7.dG 8+1)%18446744073709551616)
  let m9:=((m8.ea 9 seq).ea 13 cK).ea 14 mono
  {m9 with h:={m9.h with cg:=cg,dx:=e}}
theorem uc (z:Mk) (n seq cK mono e:Nat) (cg:Ly):(pn z n seq cK mono e cg).b=z.b∧(pn z n seq cK mono e cg).c=z.c∧(pn z n seq cK mono e cg).ai=z.ai∧(pn z n seq cK mono e cg).au=z.au∧(pn z n seq cK mono e cg).main=z.main ∧
    (pn z n seq cK mono e cg).h.n.getD 2 0=z.h.n.getD 2 0∧(pn z n seq cK mono e cg).h.n.getD 4 0=z.h.n.getD 4 0∧(pn z n seq cK mono e cg).h.n.length=z.h.n.length ∧
    (z.h.n.length=20→(pn z n seq cK mono e cg).n8=(z.n8+1)%18446744073709551616∧(pn z n seq cK mono e cg).dG 9=seq):=by
  unfold pn
  simp only
  generalize hm7:(if n=0 then(z.ea 10 seq).ea 12 cK else z)=m7
  have A:m7.b=z.b∧m7.c=z.c∧m7.ai=z.ai∧m7.au=z.au∧m7.main=z.main∧m7.h.n.getD 8 0=z.h.n.getD 8 0∧m7.h.n.getD 2 0=z.h.n.getD 2 0∧m7.h.n.getD 4 0=z.h.n.getD 4 0∧m7.h.n.length=z.h.n.length:=by
    subst hm7
    split
    · exact⟨q,q,q,q,q,(cu Kq).trans (cu Kq),(cu Kq).trans (cu Kq),(cu Kq).trans (cu Kq),by simp[Mk.ea]⟩
    · exact⟨q,q,q,q,q,q,q,q,q⟩
  obtain⟨C,D,E,F,G,H,I,J,K⟩:=A
  clear hm7
  refine⟨C,D,E,F,G,?_,?_,?_,fun B=>⟨?_,?_⟩⟩
  · rw[← I]
    exact(cu Kq).trans ((cu Kq).trans ((cu Kq).trans (cu Kq)))
  · rw[← J]
    exact(cu Kq).trans ((cu Kq).trans ((cu Kq).trans (cu Kq)))
  · rw[← K];simp[Mk.ea]
  · have e:m7.dG 8=z.n8:=H
    rw[e]
    exact(cu Kq).trans ((cu Kq).trans ((cu Kq).trans (pq Jy)))
  exact(cu Kq).trans ((cu Kq).trans (pq (by simp[Mk.ea];omega)))
theorem xh {m:Mk} (h:vC m) {raw:List Pr} {cK mono:Nat} {cg:Ly} (hb:cg.length=16) (h20:(m.append raw cK mono cg).2.2.h.n.length=20):vC (m.append raw cK mono cg).2.2:=by
  rcases hl:kW raw with⟨l,c⟩
  by_cases h2:c≠0
  · have e:m.append raw cK mono cg=(0,c,m):=by unfold Mk.append;simp only[hl];rw[if_pos h2]
    rw[e];exact h
  by_cases h3:m.dG 9=18446744073709551615
  · have e:m.append raw cK mono cg=(0,1,m):=by unfold Mk.append;simp only[hl];rw[if_neg h2,if_pos h3]
    rw[e];exact h
  obtain⟨w,ll⟩:=vX hl
  have D:=xq l m [] [] 0 (sK h) w
  rcases hd:iu l m [] []with⟨ps,M,x⟩
  rw[hd,Nat.zero_add]at D
  simp only at D
  have s1:=h.small
  have s4:=h.nb
  have d1:=D.app.ge
  have d2:=D.app.le
  have d5:=D.len.1
  have Ad:=D.app.n8
  generalize hE:({seq:=(x.dG 9+1)%18446744073709551616,cK:=cK,mono:=mono,cg:=cg,xor:=ny 0 ps,ax:=js x M}:eB)=E
  have eb:E.cg.length=16:=by subst hE;exact hb
  have ei:E.ax.length=M.length:=by subst hE;simp[js]
  have el:=mA E eb
  have C:=zZ (L:=400) (o:=dZ E) D.app Jy
  have d:=(ir x (dZ E)).2.1
  have S:=(eK x (dZ E)).2.2.2
  have O:=(eK x (dZ E)).2.1
  rcases ho:x.d9 (dZ E)with⟨e,B⟩
  rw[ho]at C d S O
  simp only at C d S O
  have N:B.h.n.getD 8 0=m.n8:=C.n8
  have Z:jR B.b.length B.main (B.dG 8):=by
    rw[show B.dG 8=m.n8 from N,S,D.main];exact pI h.main C.ge
  have K:=vW B B.main (B.dG 8) 176 e Z
  have G:=zY (src:=176) (gL:=e) C Z
  rcases hk:B.link B.main (B.dG 8) 176 e with⟨a,t,P⟩
  rw[hk]at K G
  simp only at K G
  generalize hY:(let m4:=({P with main:=a}:Mk).ea 11 (a.getD 0 0);({m4 with h:={m4.h with cT:=jU a%4294967296,cW:=t%4294967296}}:Mk))=Y
  have F:l7 m Y l.length (900*l.length+400+2100+0) 0:=by
    subst hY
    exact AA (e':=0) G q (cu Kq) (cu Kq) (cu Kq) q q (Nat.le_refl _) (Nat.le_refl _) (Nat.le_refl _)
  have u:Y.b=P.b:=by subst hY;rfl
  have X:Y.ai=P.ai:=by subst hY;rfl
  have v:Y.main=a:=by subst hY;rfl
  obtain⟨A,zm,zd⟩:=BG (en:=e) M Y _ _ F (fun i T=>by rw[X,K.ai,O];exact D.idx i T)
  have y8:Y.n8=m.n8:=F.n8
  have Q:=(BG (en:=e) M Y 0 0 ⟨F.fit,q,q,by rw[y8];exact F.chains,Nat.le_add_right _ 0,Nat.le_add_right _ 0,Nat.le_refl _,Nat.le_refl _⟩ (fun i T=>by rw[X,K.ai,O];exact D.idx i T)).1
  have U:=ku (cK:=cK) (mono:=mono) (cg:=cg) hl h2 h3 hd (by rw[hE];exact ho) hk (z:=jr e M Y) (by rw[hY])
  generalize jr e M Y=z at *
  replace U:m.append raw cK mono cg=if z.c.cH<z.b.length then(0,15,m)else((x.dG 9+1)%18446744073709551616,0,pn z (B.dG 8) ((x.dG 9+1)%18446744073709551616) cK mono e cg):=U
  rw[U]at h20 ⊢
  split at h20
  · rename_i hm
    rw[if_pos hm];exact h
  rename_i hm
  rw[if_neg hm]
  have q1:=A.ge
  have q2:=A.le
  have q3:=A.nd
  have q4:=A.nf
  have j:=A.c
  have z8:z.n8=m.n8:=A.n8
  have H:=h.cH
  have r1:=h.nd
  have r2:=h.nf
  have g3:=K.ge
  have y:P.b.length≤z.b.length:=by have h:=Q.ge;rw[u]at h;exact h
  obtain⟨J,V,W,g,kz5,p,r,kl,kz8⟩:=uc z (B.dG 8) ((x.dG 9+1)%18446744073709551616) cK mono e cg
  simp only at h20 ⊢
  generalize pn z (B.dG 8) ((x.dG 9+1)%18446744073709551616) cK mono e cg=R at *
  have I:=(kz8 Jy).1
  rw[z8,Nat.mod_eq_of_lt Jy]at I
  refine⟨pK A.fit ⟨by rw[V],by rw[V],p,r,by rw[J];exact Nat.le_refl _⟩ (fun k hk=>.inl (W ▸ hk)) (fun k hk=>.inl (g ▸ hk)),?_,?_,?_,?_,?_,?_,?_,?_⟩
  · rw[I,J,kz5,zm,v]
    have f:=K.chain
    rw[show B.dG 8=m.n8 from N]at f
    exact pI f y
  · intro k hk
    rw[W]at hk
    obtain⟨u1,u2,u3,u4⟩:=A.chains k hk
    rw[J,I]
    exact⟨u1,u2,u3,by omega⟩
  · rw[W,I];omega
  · rw[g,I];omega
  · rw[J,I];omega
  · rw[J];rw[j]at hm;omega
  · rw[V,j];exact H
  rw[J];have:=h.hd;omega
theorem CI {c:nB} {t:Nat} (h:c.aU≤10∧c.aS≤10) (h1:1≤c.aU∧1≤c.aS) (h2:c.cH≤40000):vC (gZ c t):=by
  have D:=(nj 4 (List.replicate c.aU {first:=0,tail:=0})).2 (.inl q)
  have E:=(nj 5 (List.replicate c.aS {first:=0,tail:=0})).2 (.inr q)
  have e:(gZ c t).b=List.replicate 272 0 ++ eU 4 (List.replicate c.aU {first:=0,tail:=0}) ++ eU 5 (List.replicate c.aS {first:=0,tail:=0}):=rfl
  have A:=congrArg List.length e
  simp only[List.length_append,List.length_replicate]at D E A
  have B:(gZ c t).n8=0:=rfl
  have C:(gZ c t).ai=[]:=rfl
  have F:(gZ c t).au=[]:=rfl
  refine⟨⟨h1.1,by show c.aU≤64;omega,h1.2,by show c.aS≤64;omega,?_,?_,(fun k hk=>by rw[C]at hk;simp at hk),(fun k hk=>by rw[F]at hk;simp at hk)⟩,by rw[B];exact chain_nil _,(fun k hk=>by rw[C]at hk;simp at hk),by rw[B];exact Nat.le_refl _,by rw[B];exact Nat.le_refl _,by omega,by omega,h2,by omega⟩
  · have:(gZ c t).h.n.getD 2 0=288:=rfl
    rw[this,A];show 288+16*c.aU≤_;omega
  have:(gZ c t).h.n.getD 4 0=(List.replicate 272 (0:UInt8) ++ eU 4 (List.replicate c.aU {first:=0,tail:=0})).length+16:=rfl
  rw[this,A,List.length_append,List.length_replicate];show _+16*c.aS≤_;omega
theorem EX (s:Sq):(s.config.1.aU≤10∧s.config.1.aS≤10)∧(1≤s.config.1.aU∧1≤s.config.1.aS)∧s.config.1.cH≤40000:=by
  refine⟨JD s,?_⟩
  rcases h1:s.dG 5 with⟨a,A⟩
  rcases h2:A.dG 5 with⟨b,B⟩
  rcases h3:B.dG 5 with⟨c,C⟩
  rcases h4:C.dG 7 with⟨d,D⟩
  rcases h5:D.dG 4 with⟨e,E⟩
  rcases h6:E.dG 2 with⟨f,F⟩
  simp only[Sq.config,h1,h2,h3,h4,h5,h6]
  omega
theorem Zl (s:Sq) (n:Nat):(∀q∈(s.record n).1.au,BD q)∧(s.record n).1.au.length≤16:=by
  rcases h1:s.pairs 4 with⟨A,B⟩
  rcases h2:B.dG 40 with⟨a,C⟩
  rcases h3:C.dG 9 with⟨b,D⟩
  rcases h4:D.dG 3 with⟨c,E⟩
  simp only[Sq.record,h1,h2,h3,h4]
  exact vX (show kW A=((kW A).1,(kW A).2)from rfl)
theorem O3 (s:Sq) (n:Nat):(s.record n).1.cg.length=16:=by
  rcases h1:s.pairs 4 with⟨D,A⟩
  rcases h2:A.dG 40 with⟨a,B⟩
  rcases h3:B.dG 9 with⟨b,C⟩
  rcases h4:C.dG 3 with⟨c,E⟩
  simp only[Sq.record,h1,h2,h3,h4]
  simp[idF]
theorem CC {cH:Nat} {s:Sq} {m:Mk} {rs:List Rec} (h:¬(rs.length<cH∧s.cC<s.l.length)):nK (cH-rs.length) s m rs=(m,rs,s):=by
  by_cases h1:rs.length<cH
  · obtain⟨n,B⟩:∃n,cH-rs.length=n+1:=⟨cH-rs.length-1,by omega⟩
    rw[B]
    show(if s.cC<s.l.length then _ else(m,rs,s))=_
    rw[if_neg (fun A=>h ⟨h1,A⟩)]
  rw[show cH-rs.length=0 by omega];rfl
theorem XP {cH c e:Nat} {s s1:Sq} {m m1:Mk} {rs:List Rec} {r:Rec} (h:rs.length<cH) (h2:s.cC<s.l.length) (hr:s.record ((m.dG 9+1)%18446744073709551616)=(r,s1)) (ha:m.append r.au r.cK r.mono r.cg=(e,c,m1)) (hc:c≠0) :
    nK (cH-rs.length) s m rs=(m1,rs,s1):=by
  obtain⟨n,A⟩:∃n,cH-rs.length=n+1:=⟨cH-rs.length-1,by omega⟩
  rw[A]
  unfold nK
  rw[if_pos h2]
  simp only[hr,ha]
  rw[if_pos hc]
theorem XQ {cH c e:Nat} {s s1:Sq} {m m1:Mk} {rs:List Rec} {r:Rec} (h:rs.length<cH) (h2:s.cC<s.l.length) (hr:s.record ((m.dG 9+1)%18446744073709551616)=(r,s1)) (ha:m.append r.au r.cK r.mono r.cg=(e,c,m1)) (hc:¬c≠0) :
    nK (cH-rs.length) s m rs=nK (cH-(rs ++ [r]).length) s1 m1 (rs ++ [r]):=by
  obtain⟨n,A⟩:∃n,cH-rs.length=n+1:=⟨cH-rs.length-1,by omega⟩
  rw[A]
  rw[nK,if_pos h2]
  simp only[hr,ha]
  rw[if_neg hc,show cH-(rs ++ [r]).length=n by simp;omega]
theorem qS (m:Mk) (o:Ly):(m.d9 o).2.h.n.length=m.h.n.length:=by simp[Mk.d9,Mk.ea]
theorem UK (m:Mk) (l:List bT) (t p s:Nat):(m.hang l t p s).2.h=m.h:=by rw[(zw m l t p s).1]
theorem ab5 (m:Mk) (x:Ly):(m.field x).2.h.n.length=m.h.n.length:=by
  unfold Mk.field
  split
  · rfl
  simp only
  have B:=qS m (iq {dH:=ej m.c.dO m.c.cZ x,cP:=0,dat:=0,aR:=x})
  generalize m.d9 (iq {dH:=ej m.c.dO m.c.cZ x,cP:=0,dat:=0,aR:=x})=r at *
  obtain⟨p,A⟩:=r
  simp only at B ⊢
  have C:=UK A A.au (A.dG 4) p (ej m.c.dO m.c.cZ x%A.c.aS)
  generalize A.hang A.au (A.dG 4) p (ej m.c.dO m.c.cZ x%A.c.aS)=r at *
  obtain⟨n,D⟩:=r
  simp only at C ⊢
  simp only[Mk.ea,List.length_set,C]
  exact B
theorem adY (m:Mk) (x:Pr):(m.data x).2.h.n.length=m.h.n.length:=by
  unfold Mk.data
  split
  · rfl
  simp only
  have C:=qS m (jb {dH:=ej m.c.dO m.c.cZ (aR x),cP:=0,dR:=0,entry:=0,array:=0,ck:=0,aR:=aR x})
  generalize m.d9 (jb {dH:=ej m.c.dO m.c.cZ (aR x),cP:=0,dR:=0,entry:=0,array:=0,ck:=0,aR:=aR x})=r at *
  obtain⟨p,A⟩:=r
  simp only at C ⊢
  have D:=UK A A.ai (A.dG 2) p (ej m.c.dO m.c.cZ (aR x)%A.c.aU)
  generalize A.hang A.ai (A.dG 2) p (ej m.c.dO m.c.cZ (aR x)%A.c.aU)=r at *
  obtain⟨n,B⟩:=r
  simp only at D ⊢
  generalize hx5:({(B.ea 19 (max (B.dG 19) n)).ea 15 (((B.ea 19 (max (B.dG 19) n)).dG 15+1)%18446744073709551616)with ai:=((B.ea 19 (max (B.dG 19) n)).ea 15 (((B.ea 19 (max (B.dG 19) n)).dG 15+1)%18446744073709551616)).ai ++ [({dD:=aR x,cC:=p,dS:=ej m.c.dO m.c.cZ (aR x)%A.c.aU,ck:=0,bh:=[]}:bT)]}:Mk)=m5
  have E:m5.h.n.length=m.h.n.length:=by subst hx5;simp only[Mk.ea,List.length_set,D];exact C
  have F:=ab5 m5 x.name
  generalize m5.field x.name=r at *
  obtain⟨k,G⟩:=r
  exact F.trans E
theorem xS:∀(l:List Pr) (m:Mk) (ps:List (List UInt8)) (od:List Nat),(iu l m ps od).2.2.h.n.length=m.h.n.length
  | [],_,_,_=>rfl
  | x :: r,m,ps,od=>(xS r _ _ _).trans (adY m x)
theorem JP (m:Mk) (a:List Nat) (n src gL:Nat):(m.link a n src gL).2.2.h.n.length=m.h.n.length:=by
  unfold Mk.link
  generalize eM a 0 0 0=r
  obtain⟨A,D⟩:=r
  simp only
  split
  · have B:=qS m (fe {next:=0,ax:=List.replicate (ez (a.length:Int)) 0})
    generalize m.d9 (fe {next:=0,ax:=List.replicate (ez (a.length:Int)) 0})=r at *
    obtain⟨p,C⟩:=r
    simp only at B ⊢
    split
    · show(C.ea 18 _).h.n.length=_
      simp only[Mk.ea,List.length_set];exact B
    show(C.ea 18 _).h.n.length=_
    simp only[Mk.ea,List.length_set];exact B
  rfl
theorem CJ (e:Nat):∀(od:List Nat) (m:Mk),(jr e od m).h.n.length=m.h.n.length
  | [],_=>rfl
  | i :: r,m=>by
    rw[pL,CJ e r]
    unfold lD
    simp only
    split
    · rfl
    · exact JP m _ _ _ _
theorem GF (m:Mk) (raw:List Pr) (cK mono:Nat) (cg:Ly):(m.append raw cK mono cg).2.2.h.n.length=m.h.n.length:=by
  rcases hl:kW raw with⟨l,c⟩
  by_cases h2:c≠0
  · have e:m.append raw cK mono cg=(0,c,m):=by unfold Mk.append;simp only[hl];rw[if_pos h2]
    rw[e]
  by_cases h3:m.dG 9=18446744073709551615
  · have e:m.append raw cK mono cg=(0,1,m):=by unfold Mk.append;simp only[hl];rw[if_neg h2,if_pos h3]
    rw[e]
  have D:=xS l m [] []
  rcases hd:iu l m [] []with⟨I,C,x⟩
  rw[hd]at D
  have E:=qS x (dZ {seq:=(x.dG 9+1)%18446744073709551616,cK:=cK,mono:=mono,cg:=cg,xor:=ny 0 I,ax:=js x C})
  rcases ho:x.d9 (dZ {seq:=(x.dG 9+1)%18446744073709551616,cK:=cK,mono:=mono,cg:=cg,xor:=ny 0 I,ax:=js x C})with⟨e,A⟩
  rw[ho]at E
  have F:=JP A A.main (A.dG 8) 176 e
  rcases hk:A.link A.main (A.dG 8) 176 e with⟨a,t,H⟩
  rw[hk]at F
  simp only at D E F
  have B:m.append raw cK mono cg=_:=ku (cK:=cK) (mono:=mono) (cg:=cg) hl h2 h3 hd ho hk q
  have G:=CJ e C (let m4:=({H with main:=a}:Mk).ea 11 (a.getD 0 0);{m4 with h:={m4.h with cT:=jU a%4294967296,cW:=t%4294967296}})
  generalize jr e C (let m4:=({H with main:=a}:Mk).ea 11 (a.getD 0 0);{m4 with h:={m4.h with cT:=jU a%4294967296,cW:=t%4294967296}})=z at B G
  replace B:m.append raw cK mono cg=if z.c.cH<z.b.length then(0,15,m)else((x.dG 9+1)%18446744073709551616,0,pn z (A.dG 8) ((x.dG 9+1)%18446744073709551616) cK mono e cg):=B
  rw[B]
  split
  · rfl
  show(pn _ _ _ _ _ _ _).h.n.length=_
  rw[(uc _ _ _ _ _ _ _).2.2.2.2.2.2.2.1,G]
  simp only[Mk.ea,List.length_set]
  omega
theorem FY:∀(n:Nat) (s:Sq) (m:Mk) (rs:List Rec),vC m→m.h.n.length=20→vC (nK n s m rs).1∧(nK n s m rs).1.h.n.length=20
  | 0,_,_,_,h,h2=>⟨h,h2⟩
  | n+1,s,m,rs,h,h2=>by
    unfold nK
    split
    · rcases hr:s.record ((m.dG 9+1)%18446744073709551616)with⟨r,s1⟩
      have hb:r.cg.length=16:=by
        have:=O3 s ((m.dG 9+1)%18446744073709551616)
        rw[hr]at this;exact this
      have A:=GF m r.au r.cK r.mono r.cg
      have B:=xh (raw:=r.au) (cK:=r.cK) (mono:=r.mono) h hb (A.trans h2)
      rcases ha:m.append r.au r.cK r.mono r.cg with⟨e,c,C⟩
      rw[ha]at A B
      simp only[ha]
      split
      · exact⟨B,A.trans h2⟩
      · exact FY n s1 C _ B (A.trans h2)
    · exact⟨h,h2⟩
theorem abr {s s':Sq} {cH:Nat} {m:Mk} {rs:List Rec} (h:s.sR cH=(m,rs,s')):vC m∧m.h.n.length=20:=by
  have A:=EX s
  rcases h1:s.config with⟨c,B⟩
  rcases h2:B.dG 6 with⟨t,C⟩
  rw[h1]at A
  simp only[Sq.sR,h1,h2]at h
  have:=FY cH C (gZ c t) [] (CI A.1 A.2.1 A.2.2) q
  rw[h]at this
  exact this
theorem Qe {m:Mk} (ok:cr.ok m.h) (hb:m.b.length≤40000):(mY m 1).length≤100000:=by
  unfold mY
  rw[List.length_append,xK {m.h with state:=1,n:=m.h.n.set 1 (m.b.length-272)} m.depth ⟨ok.1,ok.2.1,(by decide:(1:Nat)<9223372036854775808),ok.2.2.2.1,ok.2.2.2.2.1,ok.2.2.2.2.2.1,ok.2.2.2.2.2.2.1,oh ok.2.2.2.2.2.2.2.1 Jy,ok.2.2.2.2.2.2.2.2⟩,List.length_drop]
  omega
end Go.Wk
namespace Go.Wk
open Go Go.RowKit
section
variable {P:Program} {n:Nat} {A:Fr n} {D:List Deferred} {l:List (Nat × Value)} {w:World} {ops:Array Oper} {rest:List Oper} {Q:Exit→Act→World→Prop}
variable {d:Tmp} {op:Op} {ty:TypeId} {ps:String} {af:Array Edge}
theorem mv {x:Operand} {v:Value} (h:ev n l x=some v) (k:wpList P ops Q rest (b9 A D ((d,v) :: l)) w):wpList P ops Q (⟨some d,.move x,ty,ps,af,none⟩ :: rest) (b9 A D l) w:=st v (bg h) k
theorem di {x:Operand} {v:Value} (h:ev n l x=some v) (k:wpList P ops Q rest (b9 A D ((d,v) :: l)) w):wpList P ops Q (⟨some d,.assign x,ty,ps,af,none⟩ :: rest) (b9 A D l) w:=st v (fC h) k
theorem nt {K:Act→World→Prop} {a:Act} (h:K a w):wpList P ops (Exit.then K Q) [] a w:=ay (aj h)
theorem mz {C:World→Prop} {QN:Act→World→Prop} {rest:List (Bool × Oper)} {v:Value} (hr:∀w',C w'→dr P ⟨some d,op,ty,ps,af,none⟩ (b9 A D l).eval w' v) (k:gw P ops C QN rest (b9 A D ((d,v) :: l)) w):gw P ops C QN ((true,⟨some d,op,ty,ps,af,none⟩) :: rest) (b9 A D l) w:=Go.Wk.m v hr k
theorem sk {j t:Nat} {o:Oper} {b want:Bool} (hb:b = !want) (k:wpList P ops Q rest (b9 A D ((d,undef) :: l)) w) (ho:ops[j]? = some o:=by rfl) (ht:o.dst=some t:=by rfl) (hy:ev n l (.tmp t)=some (.bool b):=by rfl) :
    wpList P ops Q (⟨some d,op,ty,ps,af,some (j,want)⟩ :: rest) (b9 A D l) w:=aeK ho ht hy hb k
theorem sg {j t:Nat} {o:Oper} {b want:Bool} {v:Value} (hb:b=want) (hr:dr P ⟨some d,op,ty,ps,af,some (j,want)⟩ (b9 A D l).eval w v) (k:wpList P ops Q rest (b9 A D ((d,v) :: l)) w) (ho:ops[j]? = some o:=by rfl) (ht:o.dst=some t:=by rfl) (hy:ev n l (.tmp t)=some (.bool b):=by rfl) :
    wpList P ops Q (⟨some d,op,ty,ps,af,some (j,want)⟩ :: rest) (b9 A D l) w:=acQ v ho ht hy hb hr k
theorem sf {x:Operand} {s:TypeId} {f b o off:Nat} (hx:ev n l x=some (.pointer (some ⟨b,o,none⟩))) (hf:bw P s f=some off) (k:wpList P ops Q rest (b9 A D ((d,.pointer (some ⟨b,o+off,none⟩)) :: l)) w):wpList P ops Q (⟨some d,.fieldAddr s x f,ty,ps,af,none⟩ :: rest) (b9 A D l) w:=st _ (aP hx hf) k
theorem sl {x:Operand} {t ty':TypeId} {b j:Nat} {cs:List Value} {u:Value} (hx:ev n l x=some (.pointer (some ⟨b,j,none⟩))) (hT:iZ P t=true) (hB:cG w b cs ty') (hj:cs[j]? = some u) (k:wpList P ops Q rest (b9 A D ((d,u) :: l)) w):wpList P ops Q (⟨some d,.load t x,ty,ps,af,none⟩ :: rest) (b9 A D l) w:=st _ (aG hx hT hB hj) k
theorem sn {x:Operand} {p:Addr} (h:ev n l x=some (.pointer (some p))) (k:wpList P ops Q rest (b9 A D ((d,.pointer (some p)) :: l)) w):wpList P ops Q (⟨some d,.nilCheck x,ty,ps,af,none⟩ :: rest) (b9 A D l) w:=st _ (dc h) k
theorem se {x:Operand} {i:Nat} {vs:Array Value} {v:Value} (h:ev n l x=some (.tuple vs)) (hv:vs[i]? = some v) (k:wpList P ops Q rest (b9 A D ((d,v) :: l)) w):wpList P ops Q (⟨some d,.extract x i,ty,ps,af,none⟩ :: rest) (b9 A D l) w:=st _ (lR h hv) k
theorem sL {x:Operand} {v:Value} {m:Nat} {t e:TypeId} (hx:ev n l x=some v) (hT:P.underlying t=some (.slice e)) (hS:VY v m) (k:wpList P ops Q rest (b9 A D ((d,.int .i64 m) :: l)) w):wpList P ops Q (⟨some d,.call {callee:=.builtin .len,args:=#[x],argTypes:=#[t]},ty,ps,af,none⟩ :: rest) (b9 A D l) w:=st _ (ji hx hT hS) k
theorem mo {C:World→Prop} {QN:Act→World→Prop} {rest:List (Bool × Oper)} {x:Operand} {v:Value} (h:ev n l x=some v) (k:gw P ops C QN rest (b9 A D ((d,v) :: l)) w):gw P ops C QN ((true,⟨some d,.move x,ty,ps,af,none⟩) :: rest) (b9 A D l) w:=Go.Wk.m v (fun _ _=>bg h) k
theorem ns {id:Nat} {lo:List Oper} {y:Code} {a:Act} (h:wpList P lo.toArray (Exit.then (fun a w=>y.wp P Q a w) Q) lo a w):(Code.seq (.region id lo.toArray false) y).wp P Q a w:=aH (aQ h)
theorem an {x:Operand} {v:Value} {K:Act→World→Prop} (h:ev n l x=some v) (k:K (b9 A D ((d,v)::l)) w):wpList P ops (Exit.then K Q) [⟨some d,.assign x,ty,ps,af,none⟩] (b9 A D l) w:=di h (nt k)
theorem ar {x:Operand} {v:Value} {R:Exit→Act→World→Prop} (h:ev n l x=some v) (k:R .ret (b9 A D ((d,v)::l)) w):wpList P ops (Exit.then (fun a w=>Code.ret.wp P R a w) Q) [⟨some d,.assign x,ty,ps,af,none⟩] (b9 A D l) w:=di h (nt (jL k))
theorem m2 {x y:Operand} {v u:Value} {e:Tmp} {ty' ps' af'} (h:ev n l x=some v) (h2:ev n ((d,v)::l) y=some u) (k:wpList P ops Q rest (b9 A D ((e,u)::(d,v)::l)) w):wpList P ops Q (⟨some d,.move x,ty,ps,af,none⟩::⟨some e,.move y,ty',ps',af',none⟩::rest) (b9 A D l) w:=mv h (mv h2 k)
theorem nm {id:Nat} {lo:List Oper} {y:Code} {x:Operand} {v:Value} (h:ev n l x=some v) (k:wpList P (⟨some d,.move x,ty,ps,af,none⟩::lo).toArray (Exit.then (fun a w=>y.wp P Q a w) Q) lo (b9 A D ((d,v)::l)) w):(Code.seq (.region id (⟨some d,.move x,ty,ps,af,none⟩::lo).toArray false) y).wp P Q (b9 A D l) w:=ns (mv h k)
theorem rv {v:Value} {p:Value→Prop} (h:p v):∃u,Ending.returned v=.returned u∧p u:=⟨v,q,h⟩
theorem rA {d:Option Tmp} {g:Option (Nat × Bool)} {x y:Operand} {t u:TypeId} {a b:Nat} (hx:ev n l x=some (.int .i64 (a:Int))) (hy:ev n l y=some (.int .i64 (b:Int))) (h:a+b<9223372036854775808):dr P ⟨d,.binOp .add t x y u,ty,ps,af,g⟩ (b9 A D l).eval w (.int .i64 ((a+b:Nat):Int)):=fK 9223372036854775808 q hx hy h
theorem rS {d:Option Tmp} {g:Option (Nat × Bool)} {x y:Operand} {t u:TypeId} {a b:Nat} (hx:ev n l x=some (.int .i64 (a:Int))) (hy:ev n l y=some (.int .i64 (b:Int))) (h:b≤a∧a<9223372036854775808):dr P ⟨d,.binOp .sub t x y u,ty,ps,af,g⟩ (b9 A D l).eval w (.int .i64 ((a-b:Nat):Int)):=lK 9223372036854775808 q hx hy h
abbrev SN:Value:=.slice none 0 0
theorem tT {Q R S:Nat→Prop} (a:∀b,Q b→R b) (c:∀b,S b→Q b):∀b,S b→R b:=fun b h=>a b (c b h)
theorem sS {S:List Nat} {u w:World} {Q R T:Nat→Prop} (a:∀b,R b→b<w.heap.size→T b) (c:∀b,Q b→b<u.heap.size→R b) (M:Md S u w):∀b,Q b→b<u.heap.size→T b:=fun b h hl=>a b (c b h hl) (Nat.lt_of_lt_of_le hl M.size)
theorem nQ {Q R:Nat→Prop} {b:Nat} (h:¬Q b) (c:∀b,R b→Q b):¬R b:=fun x=>h (c _ x)
theorem rF {α:Type} {T:Dt α} {e:TypeId} {lo:Nat→Prop} {w:World} {Q:Nat→Prop} {v:Value} {xs:List α} (h:Ow T e lo w Q v xs):∀i∈(ah v).toList,lo i:=jy fun x hx=>(h.2 x hx).1
theorem rN {α:Type} {T:Dt α} {e:TypeId} {lo:Nat→Prop} {w:World} {Q:Nat→Prop} {v:Value} {xs:List α} (h:Ow T e lo w Q v xs):∀i∈(ah v).toList,¬Q i:=jy fun x hx=>(h.2 x hx).2
theorem hI {p:Nat→Prop} {b:Nat} (h:p b):∀x∈[b],p x:=by intro x hx;simp at hx;subst hx;exact h
end
end Go.Wk
namespace Go.Wk
open Go Go.RowKit
structure Stop where
  code:Nat
def Stop.cells (x:Stop):List Value :=
  [(.int .i64 x.code)]
structure fw where
  kind:Nat
  flags:Nat
  size:Nat
def fw.cells (x:fw):List Value :=
  [(.int .i64 x.kind)] ++ ([(.int .i64 x.flags)] ++ ([(.int .u64 x.size)]))
def fw.ok (x:fw):Prop:=x.kind<9223372036854775808∧x.flags<9223372036854775808∧x.size<18446744073709551616
theorem fw.one {x:fw}:(x.cells).all (fun u=>u.oneCell')=true:=(dn q (dn q q))
def ZT:fw:={kind:=0,flags:=0,size:=0}
def lZ (b:Ly) (p:Nat):Nat:=(b.getD p 0).toNat
theorem eZ {b:Ly} {p:Nat} {x:UInt8} (h:b[p]? = some x):lZ b p=x.toNat:=by simp[lZ,List.getD,h]
theorem r8 {b:Ly} {p v:Nat} {s:Bool} {i:Int} (h:pu b i 8=(v,s)) (hi:i=(p:Int)) (hb:p+8≤b.length):fJ b p=v:=by
  subst hi;have A:=vM (k:=8) (.inr q) hb;rw[show((8:Nat):Int)=8 from rfl]at A;rw[A]at h;exact congrArg Prod.fst h
theorem EV (b:Ly) (p:Nat):lZ b p<256:=UInt8.toNat_lt _
def d8 (b:Ly) (p:Nat):fw × Nat :=
  if p%8≠0 then(ZT,3)
  else if b.length<p∨b.length-p<16 then(ZT,2)
  else if lZ b p<1∨7<lZ b p then(ZT,4)
  else if lZ b (p+1)≠0 then(ZT,7)
  else if fJ b (p+8)<16 then(ZT,5)
  else if b.length-p<fJ b (p+8)then(ZT,2)
  else({kind:=lZ b p,flags:=0,size:=fJ b (p+8)},0)
theorem LP {b:Ly} {p:Nat} (h:p%8≠0):d8 b p=(ZT,3):=by unfold d8;rw[if_pos h]
theorem vL {b:Ly} {p:Nat} (h:¬p%8≠0) (h2:b.length<p∨b.length-p<16):d8 b p=(ZT,2):=by unfold d8;rw[if_neg h,if_pos h2]
theorem qM {b:Ly} {p:Nat} {x y:UInt8} {z:Nat} {s:fw} (es:s={kind:=x.toNat,flags:=y.toNat,size:=z}) (h:¬p%8≠0) (h2:¬(b.length<p∨b.length-p<16)) (e1:lZ b p=x.toNat) (e2:lZ b (p+1)=y.toNat) (e3:fJ b (p+8)=z) :
    d8 b p=if s.kind<1∨7<s.kind then(ZT,4)else if s.flags≠0 then(ZT,7)else if s.size<16 then(ZT,5)else if b.length-p<s.size then(ZT,2)else(s,0):=by
  subst es;unfold d8;rw[if_neg h,if_neg h2,e1,e2,e3];by_cases hf:y.toNat=0
  · rw[hf]
  simp only[if_pos (show y.toNat≠0 from hf)]
theorem PV {b:Ly} {p:Nat} {f:fw} (h:d8 b p=(f,0)):16≤f.size∧p+f.size≤b.length∧f.kind<256∧f.flags=0:=by
  unfold d8 at h;have:=EV b p
  repeat' split at h
  all_goals first|(have:=congrArg Prod.snd h;simp at this;done)|skip
  have:=congrArg Prod.fst h;simp only at this;subst this;refine⟨?_,?_,?_,q⟩ <;> (simp only;omega)
def ve:gq:={dH:=0,cP:=0,dR:=0,entry:=0,array:=0,ck:=0,aR:=[]}
def uD:fq:={next:=0,ax:=[]}
def gg (b:Ly) (p n:Nat):List Nat:=(List.range n).map fun i=>fJ b (p+8*i)
theorem mM (b:Ly) (p n:Nat):(gg b p n).length=n:=by simp[gg]
theorem og (b:Ly) (p n:Nat):gg b p (n+1)=gg b p n ++ [fJ b (p+8*n)]:=by simp[gg,List.range_succ]
theorem MX (b:Ly) (p n:Nat):gg b p (n+1)=fJ b p :: gg b (p+8) n:=by
  induction n generalizing p with
  | zero=>simp[gg]
  | succ n ih =>
    rw[og,ih,List.cons_append,og,show p+8*(n+1)=p+8+8*n by omega]
def iL (b:Ly) (p:Nat):gq × Nat :=
  if(d8 b p).2≠0 then(ve,(d8 b p).2)
  else if(d8 b p).1.kind≠1 then(ve,4)
  else if(d8 b p).1.size≤64 then(ve,5)
  else({dH:=fJ b (p+16),cP:=fJ b (p+24),dR:=fJ b (p+32),entry:=fJ b (p+40),array:=fJ b (p+48),ck:=fJ b (p+56),aR:=(b.drop (p+64)).take ((d8 b p).1.size-64)},0)
def ig (b:Ly) (p:Nat):fq × Nat :=
  if(d8 b p).2≠0 then(uD,(d8 b p).2)
  else if(d8 b p).1.kind≠6 then(uD,4)
  else if(d8 b p).1.size≤24∨((d8 b p).1.size-24)%8≠0 then(uD,5)
  else({next:=fJ b (p+16),ax:=gg b (p+24) (((d8 b p).1.size-24)/8)},0)
def kO (s:Nat) (b:Ly) (p:Nat):gq × Nat:=if p<s∨b.length≤p then(ve,2)else iL b p
def iO (s:Nat) (b:Ly) (p:Nat):fq × Nat:=if p<s∨b.length≤p then(uD,2)else ig b p
def qw (s:Nat) (b:Ly) (p:Nat):Nat:=if p<s∨b.length≤p then 2 else 0
theorem lC {b:Ly} {p c:Nat} {f:fw} (h:d8 b p=(f,c)) (hc:¬c≠0):16≤f.size∧p+f.size≤b.length∧f.kind<256∧f.flags=0:=PV (by rw[h,Classical.not_not.1 hc])
def kN (b:Ly) (p kind ahead gL:Nat):List UInt8 × Nat :=
  if(d8 b p).2≠0 then([],(d8 b p).2)
  else if(d8 b p).1.kind≠kind then([],4)
  else if(d8 b p).1.size≤16+ahead∨((d8 b p).1.size-(16+ahead))%gL≠0 then([],5)
  else((b.take (p+(d8 b p).1.size)).drop (p+16),0)
theorem AF {b x:Ly} {p kind ahead gL c:Nat} (h:kN b p kind ahead gL=(x,c)) (hc:c=0):(d8 b p).2=0∧(d8 b p).1.kind=kind∧16+ahead<(d8 b p).1.size∧((d8 b p).1.size-(16+ahead))%gL=0∧x=(b.take (p+(d8 b p).1.size)).drop (p+16)∧x.length=(d8 b p).1.size-16∧p+(d8 b p).1.size≤b.length:=by
  subst hc;unfold kN at h
  split at h
  · have:=congrArg Prod.snd h;simp at this;contradiction
  rename_i h1
  have A:16≤(d8 b p).1.size∧p+(d8 b p).1.size≤b.length∧(d8 b p).1.kind<256∧(d8 b p).1.flags=0:=lC (f:=(d8 b p).1) (c:=(d8 b p).2) q h1
  split at h
  · have:=congrArg Prod.snd h;simp at this
  rename_i h2
  split at h
  · have:=congrArg Prod.snd h;simp at this
  rename_i h3
  rw[not_or]at h3;have e:=congrArg Prod.fst h;simp only at e;subst e;refine⟨by omega,by omega,by omega,by omega,q,?_,A.2.1⟩;simp only[List.length_drop,List.length_take];omega
theorem IZ {b:Ly} {o e i:Nat} (h:i+8≤e-o) (he:e≤b.length):fJ ((b.take e).drop o) i=fJ b (o+i):=by
  unfold fJ
  congr 1
  apply List.ext_getElem?;intro j;simp only[List.getElem?_take,List.getElem?_drop];by_cases hj:j<8
  · rw[if_pos hj,if_pos hj,if_pos (show o+(i+j)<e by omega),Nat.add_assoc]
  rw[if_neg hj,if_neg hj]
theorem wj {b:Ly} {o e n i:Nat} (h:i+8*n≤e-o) (he:e≤b.length):gg ((b.take e).drop o) i n=gg b (o+i) n:=by
  unfold gg
  apply List.map_congr_left;intro k hk;have:=List.mem_range.1 hk;rw[IZ Jy he,Nat.add_assoc]
theorem MY {b:Ly} {l:List Nat} {i v:Nat} {s:Bool} (hl:l=gg b 0 (i/8)) (hi:i%8=0) (hb:i+8≤b.length) (h:pu b (i:Int) 8=(v,s)):l ++ [v]=gg b 0 ((i+8)/8):=by
  rw[show(i+8)/8=i/8+1 by omega,og,hl,← r8 h q hb]
  congr 3
  omega
theorem RH {b x:Ly} {p c:Nat} (h:kN b p 6 8 8=(x,c)) (hc:c≠0):ig b p=(uD,c):=by
  unfold kN at h;unfold ig
  split at h
  · rename_i h1;rw[if_pos h1,show(d8 b p).2=c from congrArg Prod.snd h]
  rename_i h1;rw[if_neg h1]
  split at h
  · rename_i h2;rw[if_pos h2,show 4=c from congrArg Prod.snd h]
  rename_i h2;rw[if_neg h2]
  split at h
  · rename_i h3;rw[if_pos (by simpa using h3),show 5=c from congrArg Prod.snd h]
  exact absurd (congrArg Prod.snd h).symm hc
theorem RI {b x:Ly} {p c:Nat} {l:List Nat} (h:kN b p 6 8 8=(x,c)) (hc:¬c≠0) (hl:gg x 0 (x.length/8)=l):l.length=x.length/8∧1<l.length∧ig b p=({next:=l.getD 0 0,ax:=l.drop 1},0):=by
  obtain⟨E,F,G,H,A,B,C⟩:=AF h (Classical.not_not.1 hc)
  have e:l=gg b (p+16) (((d8 b p).1.size-16)/8):=by
    rw[← hl,B,A,wj Jy C]
  have D:((d8 b p).1.size-16)/8=((d8 b p).1.size-24)/8+1:=Jy;refine⟨by rw[← hl,mM],by rw[e,mM];omega,?_⟩;unfold ig;rw[if_neg Jy,if_neg Jy,if_neg Jy,e,D,MX]
  rfl
theorem aai {s p c:Nat} {b:Ly} (h:qw s b p=c) (hc:c≠0):(iO s b p).2=c:=by
  unfold qw at h;unfold iO
  split at h
  · rename_i h1;rw[if_pos h1];exact h
  exact absurd h.symm hc
theorem sI {s p c:Nat} {b:Ly} {x:fq} (h0:qw s b p=0) (h:ig b p=(x,c)):iO s b p=(x,c):=by
  unfold qw at h0;unfold iO
  split at h0
  · cases h0
  rename_i h1;rw[if_neg h1];exact h
theorem YZ (b:Ly) (p:Nat) (h:(ig b p).2≠0):(ig b p).1=uD:=by
  unfold ig at h ⊢
  split
  · rfl
  split
  · rfl
  split
  · rfl
  rename_i h1 h2 h3;rw[if_neg h1,if_neg h2,if_neg h3]at h;exact absurd q h
theorem aaj {s p c:Nat} {b:Ly} (h:(iO s b p).2=c) (hc:c≠0):iO s b p=(uD,c):=by
  refine Prod.ext ?_ h;rw[← h]at hc;unfold iO at hc ⊢
  split
  · rfl
  rename_i h1;rw[if_neg h1]at hc;exact YZ b p hc
theorem aau {s p c:Nat} {b:Ly} (h:qw s b p=c) (hc:c≠0):(kO s b p).2=c:=by
  unfold qw at h;unfold kO
  split at h
  · rename_i h1;rw[if_pos h1];exact h
  exact absurd h.symm hc
theorem PG {s p c:Nat} {b:Ly} {x:gq} (h0:qw s b p=0) (h:iL b p=(x,c)):kO s b p=(x,c):=by
  unfold qw at h0;unfold kO
  split at h0
  · cases h0
  rename_i h1;rw[if_neg h1];exact h
theorem Zc (b:Ly) (p:Nat) (h:(iL b p).2≠0):(iL b p).1=ve:=by
  unfold iL at h ⊢
  split
  · rfl
  split
  · rfl
  split
  · rfl
  rename_i h1 h2 h3;rw[if_neg h1,if_neg h2,if_neg h3]at h;exact absurd q h
theorem afG {s p c:Nat} {b:Ly} (h:(kO s b p).2=c) (hc:c≠0):kO s b p=(ve,c):=by
  refine Prod.ext ?_ h;rw[← h]at hc;unfold kO at hc ⊢
  split
  · rfl
  rename_i h1;rw[if_neg h1]at hc;exact Zc b p hc
def nu (b:Ly) (p kind n:Nat):List Nat × List UInt8 × Nat :=
  if(d8 b p).2≠0 then([],[],(d8 b p).2)
  else if(d8 b p).1.kind≠kind then([],[],4)
  else if(d8 b p).1.size≤16+8*n then([],[],5)
  else(gg b (p+16) n,(b.drop (p+16+8*n)).take ((d8 b p).1.size-(16+8*n)),0)
theorem yS {b:Ly} {p n c:Nat} {f:fw} {l:List Nat} {kind:Nat} (h:d8 b p=(f,c)) (hc:¬c≠0) (h2:¬f.kind≠kind) (h3:¬f.size≤16+8*n) (hl:l=gg ((b.take (p+f.size)).drop (p+16)) 0 n):nu b p kind n=(l,((b.take (p+f.size)).drop (p+16)).drop (8*n),0):=by
  have A:=lC h hc;unfold nu;rw[h];simp only;rw[if_neg hc,if_neg h2,if_neg h3,hl,wj Jy A.2.1];refine Prod.ext q (Prod.ext ?_ q);simp only
  apply List.ext_getElem?;intro j;simp only[List.getElem?_take,List.getElem?_drop];by_cases hj:j<f.size-(16+8*n)
  · rw[if_pos hj,if_pos Jy];congr 1;omega
  rw[if_neg hj,if_neg Jy]
theorem JQ {b:Ly} {l:List Nat} {i v:Nat} {s:Bool} (hl:l=gg b 0 i) (hb:8*i+8≤b.length) (h:pu b ((8*i:Nat):Int) 8=(v,s)):l ++ [v]=gg b 0 (i+1):=by
  rw[og,hl,← r8 h q hb,Nat.zero_add]
theorem vv {b x:Ly} {p c:Nat} {l:List Nat} (h:nu b p 1 6=(l,x,c)):(c≠0→iL b p=(ve,c))∧(¬c≠0→l.length=6∧iL b p=({dH:=l.getD 0 0,cP:=l.getD 1 0,dR:=l.getD 2 0,entry:=l.getD 3 0,array:=l.getD 4 0,ck:=l.getD 5 0,aR:=x},0)):=by
  unfold nu at h;unfold iL
  split at h
  · rename_i h1
    simp only[Prod.mk.injEq]at h;refine⟨fun _=>by rw[if_pos h1,h.2.2],fun A=>absurd (h.2.2 ▸ h1) A⟩
  rename_i h1
  rw[if_neg h1]
  split at h
  · rename_i h2
    simp only[Prod.mk.injEq]at h;exact⟨fun _=>by rw[if_pos h2,h.2.2],fun A=>absurd (h.2.2 ▸ (by decide:(4:Nat)≠0)) A⟩
  rename_i h2
  rw[if_neg h2]
  split at h
  · rename_i h3
    simp only[Prod.mk.injEq]at h;exact⟨fun _=>by rw[if_pos Jy,h.2.2],fun A=>absurd (h.2.2 ▸ (by decide:(5:Nat)≠0)) A⟩
  rename_i h3
  simp only[Prod.mk.injEq]at h;obtain⟨rfl,rfl,rfl⟩:=h;refine⟨fun A=>absurd q A,fun _=>⟨mM _ _ _,?_⟩⟩;rw[if_neg Jy];simp[gg,List.range_succ]
end Go.Wk
namespace Go.Wk
open Go Go.RowKit
theorem qU {b:Ly} {p n i v:Nat} (h:(gg b p n)[i]? = some v):v=fJ b (p+8*i)∧i<n:=by
  unfold gg at h
  rw[List.getElem?_map]at h
  by_cases hi:i<n
  · rw[List.getElem?_range hi]at h
    exact⟨(Option.some.inj h).symm,hi⟩
  rw[List.getElem?_eq_none (by simpa using hi)]at h;cases h
def j4 (b:Ly) (p n:Nat):List jO:=(List.range n).map fun i=>{cC:=fJ b (p+16*i),dH:=fJ b (p+16*i+8)}
theorem sN (b:Ly) (p n:Nat):(j4 b p n).length=n:=by simp[j4]
theorem vQ (b:Ly) (p n:Nat):j4 b p (n+1)=j4 b p n ++ [{cC:=fJ b (p+16*n),dH:=fJ b (p+16*n+8)}]:=by simp[j4,List.range_succ]
def oU:List jO→Bool
  | a :: b :: r=>decide (a.cC<b.cC) && oU (b :: r)
  | _=>true
theorem pB:∀l:List jO,oU l=true↔∀j x y,l[j]? = some x→l[j+1]? = some y→x.cC<y.cC
  | []=>by simp[oU]
  | [a]=>by simp[oU]
  | a :: b :: r=>by
    rw[oU,Bool.and_eq_true,decide_eq_true_eq,pB (b :: r)]
    constructor
    · rintro⟨h1,h2⟩ j x y hx hy
      cases j with
      | zero=>simp at hx hy;subst hx;subst hy;exact h1
      | succ j=>exact h2 j x y (by simpa using hx) (by simpa using hy)
    · intro h
      exact⟨h 0 a b q q,fun j x y hx hy=>h (j+1) x y (by simpa using hx) (by simpa using hy)⟩
def xu:eB:={seq:=0,cK:=0,mono:=0,cg:=jT,xor:=0,ax:=[]}
def vG (x:Ly):eB:={seq:=fJ x 0,cK:=fJ x 8,mono:=fJ x 16,cg:=(x.drop 24).take 16,xor:=fJ x 40,ax:=j4 x 48 ((x.length-48)/16)}
def vh (x:Ly):eB × Nat:=if fJ x 0=0 then(xu,13)else if oU (vG x).ax=false then(xu,11)else(vG x,0)
def ij (b:Ly) (p:Nat):eB × Nat :=
  if(kN b p 3 48 16).2≠0 then(xu,(kN b p 3 48 16).2)else vh (kN b p 3 48 16).1
theorem PL {b x:Ly} {p c:Nat} (h:kN b p 3 48 16=(x,c)) (hc:c≠0):ij b p=(xu,c):=by
  unfold ij;rw[h,if_pos hc]
theorem zu {b x:Ly} {p c:Nat} (h:kN b p 3 48 16=(x,c)) (hc:¬c≠0):ij b p=vh x:=by
  unfold ij;rw[h,if_neg hc]
structure zR (x:Ly) (e:eB) (i:Nat):Prop where
  seq:e.seq=fJ x 0
  cK:e.cK=fJ x 8
  mono:e.mono=fJ x 16
  cg:e.cg=(x.drop 24).take 16
  xor:e.xor=fJ x 40
  ax:e.ax=j4 x 48 ((i-6)/2)
theorem zR.eq {x:Ly} {e:eB} {i:Nat} (h:zR x e i) (hi:i=x.length/8) (h6:x.length%8=0) (h48:48≤x.length):e=vG x:=by
  obtain⟨s,r,m,G,I,H⟩:=e
  obtain⟨A,B,C,D,E,F⟩:=h
  simp only at A B C D E F
  subst hi
  unfold vG
  rw[A,B,C,D,E,F,show(x.length/8-6)/2=(x.length-48)/16 by omega]
theorem zR.step {x:Ly} {e e':eB} {i n v u:Nat} {l:List Nat} (h:zR x e i) (hi:i%2=0) (h6:6≤i) (hl:l=gg x 0 n) (hv:l[i]? = some v) (hu:l[i+1]? = some u) (he:e'={e with ax:=e.ax ++ [{cC:=v,dH:=u}]}):zR x e' (i+2):=by
  subst hl;subst he
  have hv':=(qU hv).1
  have hu':=(qU hu).1
  refine⟨h.seq,h.cK,h.mono,h.cg,h.xor,?_⟩
  show e.ax ++ _=_
  rw[show(i+2-6)/2=(i-6)/2+1 by omega,vQ,h.ax,hv',hu',show 48+16*((i-6)/2)=0+8*i by omega,show 0+8*(i+1)=0+8*i+8 by omega]
theorem afM {x:Ly} (h:fJ x 0=0):vh x=(xu,13):=by unfold vh;rw[if_pos h]
theorem afL {x:Ly} {e:eB} {i:Nat} {y z:jO} (he:e=vG x) (h:¬e.seq=0) (h0:1≤i) (hy:e.ax[i]? = some y) (hz:e.ax[i-1]? = some z) (hl:y.cC≤z.cC):vh x=(xu,11):=by
  subst he
  unfold vh
  rw[if_neg (show ¬fJ x 0=0 from h),if_pos]
  cases hr:oU (vG x).ax with
  | false=>rfl
  | true =>
    have:=(pB _).1 hr (i-1) z y hz (by rw[Nat.sub_add_cancel h0];exact hy)
    omega
theorem aa8 {x:Ly} {e:eB} {i:Nat} (he:e=vG x) (h:¬e.seq=0) (hi:e.ax.length≤i) (hr:∀j,1≤j→j<i→∀y z,e.ax[j]? = some y→e.ax[j-1]? = some z→z.cC<y.cC):vh x=(e,0):=by
  have B:oU e.ax=true:=by
    rw[pB]
    intro j a c C A
    have D:=(List.getElem?_eq_some_iff.1 A).1
    exact hr (j+1) Jy Jy c a A (by simpa using C)
  subst he
  unfold vh
  rw[if_neg (show ¬fJ x 0=0 from h),if_neg (by rw[B];simp)]
theorem aa6 {e:eB} {v:Value} {ys:Ly} (hy:ys.length=16):gm (eB.cells e v) 3 (ys.map b8)=eB.cells {e with cg:=ys} v :=
  pM hy [.int .u64 e.seq,.int .u64 e.cK,.int .u64 e.mono] _ e.cg
theorem WG {x:Ly} (h:40≤x.length):(((x.take 40).drop 24).map b8).take 16=((x.drop 24).take 16).map b8∧((x.drop 24).take 16).length=16:=by
  have e:(x.take 40).drop 24=(x.drop 24).take 16:=by rw[List.drop_take]
  have A:((x.drop 24).take 16).length=16:=by simp;omega
  refine⟨?_,A⟩
  rw[e,List.take_of_length_le Zy]
theorem WO {x:Ly} {e s:eB} {a b c d:Nat} {n:Nat} {l:List Nat} (hl:l=gg x 0 n) (h0:l[0]? = some a) (h1:l[1]? = some b) (h2:l[2]? = some c) (h5:l[5]? = some d) (he:e={seq:=a,cK:=b,mono:=c,cg:=jT,xor:=d,ax:=[]}) (hs:s={e with cg:=(x.drop 24).take 16}):zR x s 6:=by
  subst hl;subst he;subst hs
  exact⟨(qU h0).1,(qU h1).1,(qU h2).1,q,(qU h5).1,q⟩
def iJ (s:Nat) (b:Ly) (p:Nat):eB × Nat:=if p<s∨b.length≤p then(xu,2)else ij b p
theorem aaA {s p c:Nat} {b:Ly} (h:qw s b p=c) (hc:c≠0):(iJ s b p).2=c:=by
  unfold qw at h
  unfold iJ
  split at h
  · rename_i h1;rw[if_pos h1];exact h
  exact absurd h.symm hc
theorem PK {s p c:Nat} {b:Ly} {x:eB} (h0:qw s b p=0) (h:ij b p=(x,c)):iJ s b p=(x,c):=by
  unfold qw at h0
  unfold iJ
  split at h0
  · cases h0
  rename_i h1;rw[if_neg h1];exact h
theorem Zg (b:Ly) (p:Nat) (h:(ij b p).2≠0):(ij b p).1=xu:=by
  unfold ij at h ⊢
  split
  · rfl
  rename_i h1
  rw[if_neg h1]at h
  unfold vh at h ⊢
  split
  · rfl
  split
  · rfl
  rename_i h2 h3;rw[if_neg h2,if_neg h3]at h;exact absurd q h
theorem ad8 {s p c:Nat} {b:Ly} (h:(iJ s b p).2=c) (hc:c≠0):iJ s b p=(xu,c):=by
  refine Prod.ext ?_ h
  rw[← h]at hc
  unfold iJ at hc ⊢
  split
  · rfl
  rename_i h1;rw[if_neg h1]at hc;exact Zg b p hc
end Go.Wk
namespace Go.Wk
open Go Go.RowKit
theorem JE {s p c:Nat} {b:Ly} {d:gq} (h:kO s b p=(d,c)):d.aR.length≤b.length:=by
  unfold kO at h
  split at h
  · cases h;simp[ve]
  unfold iL at h
  repeat' split at h
  all_goals (cases h;simp[ve];try omega)
def iK (k:Bool) (f:Ly) (s:Nat) (b:Ly) (p:Nat):gq × Nat :=
  if(kO s b p).2≠0 then(ve,(kO s b p).2)
  else if(kO s b p).1.dH=ej k f (kO s b p).1.aR then kO s b p
  else(ve,9)
theorem agn {k:Bool} {f b:Ly} {s p c:Nat} (h:(kO s b p).2=c) (hc:c≠0):(iK k f s b p).2=c:=by
  unfold iK;rw[h,if_pos hc]
theorem Vb {k:Bool} {f b:Ly} {s p n:Nat} {d:gq} (h:kO s b p=(d,0)) (hh:ej k f d.aR=n) (e:d.dH=n):iK k f s b p=(d,0):=by
  unfold iK;rw[h,if_neg Oq,if_pos (e.trans hh.symm)]
theorem ain {k:Bool} {f b:Ly} {s p n:Nat} {d:gq} (h:kO s b p=(d,0)) (hh:ej k f d.aR=n) (e:¬d.dH=n):(iK k f s b p).2=9:=by
  unfold iK;rw[h,if_neg Oq,if_neg (fun h=>e (h.trans hh))]
theorem UZ {k:Bool} {f b:Ly} {s p c:Nat} {d:gq} (h:iK k f s b p=(d,c)):d.aR.length≤b.length:=by
  unfold iK at h
  split at h
  · cases h;simp[ve]
  split at h
  · exact JE h
  cases h;simp[ve]
def lN (l:Ly):Pr × Nat:=({name:=(nP l).1,value:=(nP l).2},(gT l).toNat)
theorem IA (l:Ly):0≤gT l∧gT l<100:=by
  unfold gT
  repeat' split
  all_goals omega
theorem E2 (l:Ly):gT l=(((gT l).toNat:Nat):Int):=(Int.toNat_of_nonneg (IA l).1).symm
theorem IB (l:Ly):(gT l).toNat<9223372036854775808:=by have:=IA l;omega
end Go.Wk
namespace Go.Wk
open Go Go.RowKit
def tE:Rec:={seq:=0,cK:=0,mono:=0,cg:=jT,au:=[]}
def jd (k:Bool) (f:Ly) (s:Nat) (b:Ly):List jO→List Pr→List (List UInt8)→(List Pr × List (List UInt8)) × Nat
  | [],fs,all=>((fs,all),0)
  | x :: r,fs,all =>
    if(iK k f s b x.cC).2≠0 then(([],[]),(iK k f s b x.cC).2)
    else if(iK k f s b x.cC).1.dH≠x.dH then(([],[]),9)
    else if(lN (iK k f s b x.cC).1.aR).2≠0 then(([],[]),(lN (iK k f s b x.cC).1.aR).2)
    else jd k f s b r (fs ++ [(lN (iK k f s b x.cC).1.aR).1]) (all ++ [(iK k f s b x.cC).1.aR])
section
variable {k:Bool} {f b:Ly} {s p i c:Nat} {l:List jO} {x:jO} {d:gq} {fs:List Pr} {all:List (List UInt8)} {q:Pr} {e:eB} {r:Rec}
theorem um (h:¬i<l.length):jd k f s b (l.drop i) fs all=((fs,all),0):=by rw[iY Jy];rfl
theorem HB (h:l[i]? = some x) (hp:(iK k f s b x.cC).2=c) (hc:c≠0):jd k f s b (l.drop i) fs all=(([],[]),c):=by
  rw[gC h];unfold jd;rw[hp,if_pos hc]
theorem VI (h:l[i]? = some x) (hp:iK k f s b x.cC=(d,0)) (hn:¬d.dH=x.dH):jd k f s b (l.drop i) fs all=(([],[]),9):=by
  rw[gC h];unfold jd;rw[hp,if_neg Oq,if_pos hn]
theorem yT (h:l[i]? = some x) (hp:iK k f s b x.cC=(d,0)) (hn:d.dH=x.dH) (hs:lN d.aR=(q,c)) (hc:c≠0):jd k f s b (l.drop i) fs all=(([],[]),c):=by
  rw[gC h];unfold jd;rw[hp,if_neg Oq,if_neg (by simpa using hn),hs,if_pos hc]
theorem DO (h:l[i]? = some x) (hp:iK k f s b x.cC=(d,0)) (hn:d.dH=x.dH) (hs:lN d.aR=(q,0)):jd k f s b (l.drop i) fs all=jd k f s b (l.drop (i+1)) (fs ++ [q]) (all ++ [d.aR]):=by
  rw[gC h];conv=>lhs;unfold jd
  rw[hp,if_neg Oq,if_neg (by simpa using hn),hs,if_neg Oq]
def mD (k:Bool) (f:Ly) (s:Nat) (b:Ly) (p:Nat):Rec × Nat :=
  if(iJ s b p).2≠0 then(tE,(iJ s b p).2)
  else if 16<(iJ s b p).1.ax.length then(tE,21)
  else if(jd k f s b (iJ s b p).1.ax [] []).2≠0 then(tE,(jd k f s b (iJ s b p).1.ax [] []).2)
  else if(iJ s b p).1.xor=ny 0 (jd k f s b (iJ s b p).1.ax [] []).1.2 then({seq:=(iJ s b p).1.seq,cK:=(iJ s b p).1.cK,mono:=(iJ s b p).1.mono,cg:=(iJ s b p).1.cg,au:=(jd k f s b (iJ s b p).1.ax [] []).1.1},0)
  else(tE,10)
theorem acA (h:(iJ s b p).2=c) (hc:c≠0):(mD k f s b p).2=c:=by unfold mD;rw[h,if_pos hc]
theorem ac9 (h:iJ s b p=(e,0)) (hl:16<e.ax.length):(mD k f s b p).2=21:=by unfold mD;rw[h,if_neg Oq,if_pos hl]
theorem yt {y:List Pr × List (List UInt8)} (h:iJ s b p=(e,0)) (hl:¬16<e.ax.length) (hg:jd k f s b e.ax [] []=(y,c)) (hc:c≠0):(mD k f s b p).2=c:=by
  unfold mD;rw[h,if_neg Oq,if_neg hl,hg,if_pos hc]
theorem ac8 {n:Nat} (h:iJ s b p=(e,0)) (hl:¬16<e.ax.length) (hg:jd k f s b e.ax [] []=((fs,all),0)) (hx:ny 0 all=n) (hn:¬e.xor=n):(mD k f s b p).2=10:=by
  unfold mD;rw[h,if_neg Oq,if_neg hl,hg,if_neg Oq,if_neg (by rw[hx];exact hn)]
structure aac (e:eB) (r:Rec):Prop where
  seq:r.seq=e.seq
  cK:r.cK=e.cK
  mono:r.mono=e.mono
  cg:r.cg=e.cg
theorem RJ {n:Nat} (h:iJ s b p=(e,0)) (hl:¬16<e.ax.length) (hr:aac e r) (hg:jd k f s b e.ax [] []=((r.au,all),0)) (hx:ny 0 all=n) (hn:e.xor=n):mD k f s b p=(r,0):=by
  unfold mD;rw[h,if_neg Oq,if_neg hl,hg,if_neg Oq,if_pos (by rw[hx];exact hn)]
  obtain⟨E,F,G,H,I⟩:=r
  obtain⟨A,B,C,D⟩:=hr
  simp only at A B C D
  subst A;subst B;subst C;subst D
  rfl
theorem SZ {n:Nat} {y:Ly} (h:∀x∈all,x.length≤n) (hy:y.length≤n):∀x∈all ++ [y],x.length≤n:=by
  intro x B
  rcases List.mem_append.1 B with A|A
  · exact h x A
  simp at A;subst A;exact hy
theorem ai1 (h:(mD k f s b p).2≠0):(mD k f s b p).1=tE:=by
  unfold mD at h ⊢
  split
  · rfl
  split
  · rfl
  split
  · rfl
  split
  · rename_i h1 h2 h3 h4;rw[if_neg h1,if_neg h2,if_neg h3,if_pos h4]at h;exact absurd rfl h
  rfl
theorem rK (h:(mD k f s b p).2=c) (hc:c≠0):mD k f s b p=(tE,c):=by
  refine Prod.ext ?_ h
  exact ai1 (by rw[h];exact hc)
end
end Go.Wk
namespace Go.Wk
open Go Go.RowKit
def seg (b:Ly) (p n:Nat):List UInt8:=(b.drop p).take n
theorem zN {b:Ly} {p n i:Nat} (h:i<n):(seg b p n)[i]? = b[p+i]?:=by
  unfold seg;rw[List.getElem?_take,if_pos h,List.getElem?_drop]
theorem aeC {b:Ly} {p n:Nat} (h:p+n≤b.length):(seg b p n).length=n:=by unfold seg;simp;omega
theorem VP {b c:Ly} {p n:Nat} (h:∀i,i<n→c[p+i]? = b[p+i]?):seg c p n=seg b p n:=by
  apply List.ext_getElem?
  intro i
  by_cases hi:i<n
  · rw[zN hi,zN hi,h i hi]
  unfold seg;rw[List.getElem?_take,List.getElem?_take,if_neg hi,if_neg hi]
theorem mH (b:Ly) (p:Nat):fJ b p=BP (seg b p 8):=rfl
theorem aeD {b:Ly} {p n q k:Nat} (h:q+k≤n):seg (seg b p n) q k=seg b (p+q) k:=by
  unfold seg
  rw[List.drop_take,List.take_take,List.drop_drop,Nat.min_eq_left Jy]
theorem OI {b l:Ly} {p n q k:Nat} (h:seg b p n=l) (hq:q+k≤n):seg b (p+q) k=seg l q k:=by rw[← h,aeD hq]
theorem VO {b o:Ly} {p n:Nat} (h:p+n≤b.length):seg (b ++ o) p n=seg b p n :=
  VP fun i hi=>List.getElem?_append_left Jy
theorem seg_new (b o:Ly):seg (b ++ o) b.length o.length=o:=by unfold seg;rw[List.drop_left,List.take_length]
theorem mE (x y:Ly) {n:Nat} (h:n=x.length):seg (x ++ y) 0 n=x:=by subst h;simp[seg]
theorem iN {x y:Ly} {p n:Nat} (h:x.length≤p):seg (x ++ y) p n=seg y (p-x.length) n:=by
  unfold seg;rw[List.drop_append,List.drop_eq_nil_of_le h,List.nil_append]
theorem JM (v n:Nat):BP (low v n)=v%256 ^ n:=by
  induction n generalizing v with
  | zero=>simp[low,BP,Nat.mod_one]
  | succ n ih =>
    simp only[low,BP,ih]
    rw[UInt8.toNat_ofNat',show 2 ^ 8=256 from rfl,Nat.mod_mod,Nat.pow_succ,Nat.mul_comm (256 ^ n) 256,Nat.mod_mul]
theorem adw {v:Nat} (r:Ly) (h:v<18446744073709551616):fJ (low v 8 ++ r) 0=v:=by
  rw[mH,mE _ _ (by rw[iw]),JM]
  exact Nat.mod_eq_of_lt h
theorem iH {x y:Ly} {p:Nat} (h:x.length≤p):fJ (x ++ y) p=fJ y (p-x.length):=by rw[mH,mH,iN h]
theorem IY {b o:Ly} {p:Nat} (h:p+8≤b.length):fJ (b ++ o) p=fJ b p:=by rw[mH,mH,VO h]
theorem aam {b l:Ly} {p n q:Nat} (h:seg b p n=l) (hq:q+8≤n):fJ b (p+q)=fJ l q:=by rw[mH,mH,OI h hq]
theorem mr:∀{l:List Nat} {r:Ly} {i v:Nat},l[i]? = some v→v<18446744073709551616→fJ (nums l ++ r) (8*i)=v
  | [],_,_,_,h,_=>by simp at h
  | x :: l,r,0,v,h,hv=>by
    simp at h;subst h
    rw[nums,List.append_assoc]
    exact adw _ hv
  | x :: l,r,i+1,v,h,hv=>by
    rw[nums,List.append_assoc,iH (by rw[iw];omega),iw,show 8*(i+1)-8=8*i by omega]
    exact mr (by simpa using h) hv
theorem ET {l:List Nat} {i v:Nat} (h:l[i]? = some v) (hv:v<18446744073709551616):fJ (nums l) (8*i)=v:=by
  have:=mr (r:=[]) h hv
  rwa [List.append_nil]at this
theorem NQ:∀(n:Nat) (b:Ly) (p v i q:Nat),(EK n b p v i)[q]? = if p+i≤q∧q<p+i+n∧q<b.length then some (UInt8.ofNat (v/2 ^ (8*(q-p))))else b[q]?
  | 0,b,p,v,i,q=>by rw[if_neg Jy];rfl
  | n+1,b,p,v,i,q=>by
    rw[EK,NQ n]
    simp only[List.length_set]
    by_cases h:p+(i+1)≤q∧q<p+(i+1)+n∧q<b.length
    · rw[if_pos h,if_pos Jy]
    · rw[if_neg h]
      by_cases hq:q=p+i
      · subst hq
        by_cases hl:p+i<b.length
        · rw[if_pos Jy,List.getElem?_set_self hl,show p+i-p=i by omega]
        · rw[if_neg Jy,List.getElem?_eq_none Zy,List.getElem?_eq_none Jy]
      · rw[if_neg Jy,List.getElem?_set_ne Jy]
theorem NR (b:Ly) (p v q:Nat):(jH b p v)[q]? = if p≤q∧q<p+8∧q<b.length then some (UInt8.ofNat (v/2 ^ (8*(q-p))))else b[q]?:=NQ 8 b p v 0 q
theorem VQ {b:Ly} {p v q n:Nat} (h:p+8≤q∨q+n≤p):seg (jH b p v) q n=seg b q n :=
  VP fun i hi=>by rw[NR,if_neg Jy]
theorem UE:∀(n v i:Nat),i<n→(low v n)[i]? = some (UInt8.ofNat (v/2 ^ (8*i)))
  | n+1,v,0,_=>by
    simp only[low,List.getElem?_cons_zero,Nat.mul_zero,Nat.pow_zero,Nat.div_one,Option.some.injEq]
    apply UInt8.toNat.inj;simp
  | n+1,v,i+1,h=>by
    simp only[low,List.getElem?_cons_succ]
    rw[UE n (v/256) i Jy,Nat.div_div_eq_div_mul,show 256*2 ^ (8*i)=2 ^ (8*(i+1))by rw[Nat.mul_add,Nat.pow_add,Nat.mul_comm]]
theorem KM {b:Ly} {p v:Nat} (h:p+8≤b.length):seg (jH b p v) p 8=low v 8:=by
  apply List.ext_getElem?
  intro i
  by_cases hi:i<8
  · rw[zN hi,NR,if_pos Jy,UE 8 v i hi,show p+i-p=i by omega]
  rw[List.getElem?_eq_none (by rw[aeC (by rw[jc];omega)];omega),List.getElem?_eq_none (by rw[iw];omega)]
theorem pZ {b:Ly} {p v q:Nat} (h:p+8≤q∨q+8≤p):fJ (jH b p v) q=fJ b q:=by rw[mH,mH,VQ h]
theorem mW {b:Ly} {p v:Nat} (h:p+8≤b.length) (hv:v<18446744073709551616):fJ (jH b p v) p=v:=by
  rw[mH,KM h,JM]
  exact Nat.mod_eq_of_lt hv
theorem AH {b:Ly} {p i n:Nat} (h:i<n):lZ b (p+i)=((seg b p n).getD i 0).toNat:=by
  unfold lZ
  rw[List.getD_eq_getElem?_getD,List.getD_eq_getElem?_getD,zN h]
structure Eff (S:Nat→Prop) (b c:Ly):Prop where
  len:b.length≤c.length
  seg:∀q n,q+n≤b.length→(∀a,S a→a+8≤q∨q+n≤a)→seg c q n=seg b q n
theorem Eff.refl (S:Nat→Prop) (b:Ly):Eff S b b:=⟨Nat.le_refl _,fun _ _ _ _=>rfl⟩
theorem Eff.trans {S:Nat→Prop} {a b c:Ly} (h:Eff S a b) (k:Eff S b c):Eff S a c :=
  ⟨lj h.len k.len,fun q n hq hs=>(k.seg q n (lj hq h.len) hs).trans (h.seg q n hq hs)⟩
theorem Eff.mono {S T:Nat→Prop} {a b:Ly} (h:Eff S a b) (hs:∀x,S x→T x):Eff T a b:=⟨h.len,fun q n hq ht=>h.seg q n hq fun x hx=>ht x (hs x hx)⟩
theorem Eff.put (b:Ly) (p v:Nat):Eff (fun a=>a=p) b (jH b p v):=⟨by rw[jc];exact Nat.le_refl _,fun q n _ hs=>VQ (hs p rfl)⟩
theorem Eff.app (S:Nat→Prop) (b o:Ly):Eff S b (b ++ o):=⟨by simp,fun q n hq _=>VO hq⟩
theorem Eff.fJ {S:Nat→Prop} {b c:Ly} {q:Nat} (h:Eff S b c) (hq:q+8≤b.length) (hs:∀a,S a→a+8≤q∨q+8≤a):fJ c q=fJ b q:=by
  rw[mH,mH,h.seg q 8 hq hs]
end Go.Wk
namespace Go.Wk
open Go Go.RowKit
structure Ob where
  cC:Nat
  kind:Nat
  size:Nat
def sA (n:Nat):Nat:=(n+7)/8*8
theorem fR (n:Nat):n≤sA n∧sA n<n+8∧sA n%8=0:=by unfold sA;omega
def Pu (kind size:Nat):List UInt8:=[UInt8.ofNat kind,0,0,0,0,0,0,0] ++ nums [size]
theorem kF (k s:Nat):(Pu k s).length=16:=by simp[Pu,eR]
theorem wP {k:Nat} {body:Ly} (h:1≤k∧k≤7):rj k body=(Pu k (16+body.length) ++ body) ++ List.replicate ((8-(16+body.length)%8)%8) 0:=by
  unfold rj
  rw[if_neg Jy,DC]
  have:([UInt8.ofNat k,0,0,0,0,0,0,0] ++ nums [16+body.length] ++ body).length=16+body.length:=by simp[eR];omega
  rw[this]
  rfl
def gu (b:Ly):Nat→List Ob→Nat→Prop
  | p,[],e=>p=e
  | p,o :: r,e=>o.cC=p∧1≤o.kind∧o.kind≤7∧16≤o.size∧o.size<18446744073709551616∧seg b p 16=Pu o.kind o.size∧gu b (p+sA o.size) r e
theorem gu.le {b:Ly}:∀{l:List Ob} {p e:Nat},gu b p l e→p≤e∧(p%8=0→e%8=0)
  | [],_,_,h=>by cases h;exact⟨Nat.le_refl _,id⟩
  | o :: r,p,e,h=>by
    have:=h.2.2.2.2.2.2.le
    have:=fR o.size
    omega
structure adp (b:Ly) (p e:Nat) (o:Ob):Prop where
  ge:p≤o.cC
  le:o.cC+sA o.size≤e
  al:p%8=0→o.cC%8=0
  kind:1≤o.kind∧o.kind≤7
  size:16≤o.size∧o.size<18446744073709551616
  hd:seg b o.cC 16=Pu o.kind o.size
theorem gu.mem {b:Ly}:∀{l:List Ob} {p e:Nat} {o:Ob},gu b p l e→o∈l→adp b p e o
  | [],_,_,_,_,h=>by simp at h
  | x :: r,p,e,o,h,ho=>by
    obtain⟨h1,h2,h3,h4,h5,h6,h7⟩:=h
    have hl:=h7.le
    have hu:=fR x.size
    rcases List.mem_cons.1 ho with rfl|ho
    · subst h1
      exact⟨Nat.le_refl _,hl.1,id,⟨h2,h3⟩,⟨h4,h5⟩,h6⟩
    · obtain⟨g1,g2,g3,g4,g5,g6⟩:=h7.mem ho
      exact⟨by omega,g2,fun hp=>g3 Jy,g4,g5,g6⟩
theorem gu.sep {b:Ly}:∀{l:List Ob} {p e:Nat} {o x:Ob},gu b p l e→o∈l→x∈l→o=x∨o.cC+sA o.size≤x.cC∨x.cC+sA x.size≤o.cC
  | [],_,_,_,_,_,h,_=>by simp at h
  | y :: r,p,e,o,x,h,ho,hx=>by
    obtain⟨h1,h2,h3,h4,h5,h6,h7⟩:=h
    rcases List.mem_cons.1 ho with e1|e1
    · rcases List.mem_cons.1 hx with e2|e2
      · exact .inl (e1.trans e2.symm)
      · have:=(h7.mem e2).ge;subst e1;exact .inr (.inl Jy)
    · rcases List.mem_cons.1 hx with e2|e2
      · have:=(h7.mem e1).ge;subst e2;exact .inr (.inr Jy)
      · exact h7.sep e1 e2
theorem gu.app {b:Ly}:∀{l:List Ob} {p e:Nat} {o:Ob},gu b p l e→o.cC=e→1≤o.kind→o.kind≤7→16≤o.size→o.size<18446744073709551616→seg b e 16=Pu o.kind o.size→gu b p (l ++ [o]) (e+sA o.size)
  | [],p,e,o,h,h1,h2,h3,h4,h5,h6=>by cases h;exact⟨h1,h2,h3,h4,h5,h6,q⟩
  | x :: r,p,e,o,h,h1,h2,h3,h4,h5,h6=>by
    obtain⟨g1,g2,g3,g4,g5,g6,g7⟩:=h
    exact⟨g1,g2,g3,g4,g5,g6,g7.app h1 h2 h3 h4 h5 h6⟩
def Body (l:List Ob) (a:Nat):Prop:=a+8≤272∨∃o∈l,o.cC+16≤a∧a+8≤o.cC+sA o.size
theorem gu.mV {b c:Ly} {S:Nat→Prop} {l:List Ob} {p e:Nat} (h:gu b p l e) (k:Eff S b c) (hb:e≤b.length) (hs:∀o∈l,∀a,S a→a+8≤o.cC∨o.cC+16≤a):gu c p l e:=by
  induction l generalizing p with
  | nil=>exact h
  | cons o r ih =>
    have K:=gu.mem (o:=o) h Oq
    obtain⟨A,C,D,E,F,G,B⟩:=h
    have L:=fR o.size
    have J:=B.le
    refine⟨A,C,D,E,F,?_,ih B fun x I=>hs x (by simp[I])⟩
    rw[k.seg p 16 Jy fun a H=>A ▸ hs o Oq a H,G]
theorem gu.body {b:Ly} {l:List Ob} {e:Nat} (h:gu b 272 l e) {a:Nat} (ha:Body l a) {o:Ob} (ho:o∈l):a+8≤o.cC∨o.cC+16≤a:=by
  have B:=h.mem ho
  rcases ha with ha|⟨x,C,D,E⟩
  · have:=B.ge;omega
  have:=fR o.size
  have:=fR x.size
  rcases h.sep ho C with rfl|A|A <;> omega
theorem AX {b:Ly} {p e:Nat} {o:Ob} (h:adp b p e o) (hp:p%8=0) (hb:o.cC+o.size≤b.length):d8 b o.cC=({kind:=o.kind,flags:=0,size:=o.size},0):=by
  have A:=h.size.1
  have B:lZ b o.cC=o.kind:=by
    have:=AH (b:=b) (p:=o.cC) (i:=0) (n:=16) Jy
    rw[Nat.add_zero,h.hd]at this
    rw[this]
    show(UInt8.ofNat o.kind).toNat=_
    have:=h.kind
    rw[UInt8.toNat_ofNat',Nat.mod_eq_of_lt Jy]
  have C:lZ b (o.cC+1)=0:=by
    have:=AH (b:=b) (p:=o.cC) (i:=1) (n:=16) Jy
    rw[h.hd]at this
    rw[this];rfl
  have D:fJ b (o.cC+8)=o.size:=by
    rw[aam h.hd Jy,Pu,iH Oq]
    exact ET (l:=[o.size]) (i:=0) q h.size.2
  have hk:=h.kind
  have E:=h.al hp
  unfold d8
  rw[if_neg Jy,if_neg Jy,B,C,D,if_neg Jy,if_neg Jy,if_neg Jy,if_neg Jy]
theorem ad1 {b:Ly} {p e k ahead gL:Nat} {o:Ob} (h:adp b p e o) (hp:p%8=0) (hb:o.cC+o.size≤b.length) (hk:o.kind=k) (h1:16+ahead<o.size) (h2:(o.size-(16+ahead))%gL=0):kN b o.cC k ahead gL=(seg b (o.cC+16) (o.size-16),0):=by
  unfold kN
  rw[AX h hp hb]
  simp only
  rw[if_neg Oq,if_neg Jy,if_neg Jy]
  congr 1
  unfold seg
  rw[List.drop_take,show o.cC+o.size-(o.cC+16)=o.size-16 by omega]
theorem agi {b:Ly} {p e k n:Nat} {o:Ob} (h:adp b p e o) (hp:p%8=0) (hb:o.cC+o.size≤b.length) (hk:o.kind=k) (h1:16+8*n<o.size):nu b o.cC k n=(gg b (o.cC+16) n,seg b (o.cC+16+8*n) (o.size-(16+8*n)),0):=by
  have A:=yS (b:=b) (p:=o.cC) (n:=n) (kind:=k) (AX h hp hb) Oq Zk Zk q
  rw[A,wj Zk Zk,Nat.add_zero]
  congr 2
  unfold seg
  simp only
  rw[List.drop_take,List.drop_take,List.drop_drop,show o.cC+o.size-(o.cC+16)-8*n=o.size-(16+8*n)by omega]
end Go.Wk
namespace Go.Wk
open Go Go.RowKit
def p7:Nat→Nat
  | 0=>0
  | k+1=>p7 k+ez (k:Int)
theorem HM:∀(l:List Nat) (k a:Nat),eM l k a (p7 k)=(if l=[]then a else p7 (k+l.length-1),p7 (k+l.length))
  | [],_,_=>rfl
  | x :: l,k,a=>by
    have:=HM l (k+1) (p7 k)
    rw[show eM (x :: l) k a (p7 k)=eM l (k+1) (p7 k) (p7 (k+1))from rfl,this]
    have h1:k+1+l.length=k+(l.length+1):=by omega
    simp only[List.length_cons,h1,reduceCtorEq,if_false,Prod.mk.injEq,and_true]
    split
    · rename_i h;subst h;rfl
    · rfl
theorem Zu (l:List Nat):eM l 0 0 0=(p7 (l.length-1),p7 l.length):=by
  have:=HM l 0 0
  simp only[p7,Nat.zero_add]at this
  rw[this]
  congr 1
  split
  · rename_i h;subst h;rfl
  rfl
theorem aas {i j:Nat} (h:i≤j):p7 i≤p7 j:=by
  induction j with
  | zero=>rw[Nat.le_zero.1 h];exact Nat.le_refl _
  | succ j ih =>
    rcases Nat.lt_or_ge i (j+1)with A|A
    · have:=ih Jy;simp only[p7];omega
    · rw[show i=j+1 by omega];exact Nat.le_refl _
theorem aat {i j:Nat} (h:i<j):p7 i+ez (i:Int)≤p7 j:=aas (show i+1≤j from h)
theorem qN (l:List Nat) (x i:Nat):(l ++ [x]).getD i 0=if i=l.length then x else l.getD i 0:=by
  simp only[List.getD_eq_getElem?_getD]
  by_cases h:i<l.length
  · rw[List.getElem?_append_left h,if_neg Jy]
  rw[List.getElem?_append_right Jy]
  by_cases h2:i=l.length
  · subst h2;simp
  rw[if_neg h2,List.getElem?_eq_none Zy,List.getElem?_eq_none Jy]
theorem getD_some {l:List Nat} {i x:Nat} (h:l[i]? = some x):l.getD i 0=x:=by simp[List.getD,h]
structure Chain (b:Ly) (l:List Ob) (src:Nat) (av ax:List Nat):Prop where
  word:fJ b src=av.getD 0 0
  ob:∀k a:Nat,av[k]? = some a→(⟨a,6,24+8*ez (k:Int)⟩:Ob)∈l
  next:∀k a:Nat,av[k]? = some a→fJ b (a+16)=av.getD (k+1) 0
  gL:∀k a j:Nat,av[k]? = some a→j<ez (k:Int)→fJ b (a+24+8*j)=ax.getD (p7 k+j) 0
  ES:∀k a c:Nat,av[k]? = some a→av[k+1]? = some c→a<c
  lo:p7 (av.length-1)≤ax.length
  hi:ax.length≤p7 av.length
theorem PC {av:List Nat} (h:∀k a c:Nat,av[k]? = some a→av[k+1]? = some c→a<c):∀(d k a c:Nat),av[k]? = some a→av[k+d+1]? = some c→a<c
  | 0,k,a,c,h1,h2=>h k a c h1 h2
  | d+1,k,a,c,h1,h2=>by
    obtain⟨y,hy⟩:∃y,av[k+d+1]? = some y:=⟨_,List.getElem?_eq_getElem (by have:=(List.getElem?_eq_some_iff.1 h2).1;omega)⟩
    have:=PC h d k a y h1 hy
    have:=h (k+d+1) y c hy h2
    omega
def Src (l:List Ob) (a:Nat):Prop:=a+8≤272∨∃o∈l,o.kind≠6∧o.cC+16≤a∧a+8≤o.cC+sA o.size
theorem Src.body {l:List Ob} {a:Nat} (h:Src l a):Body l a:=h.imp id fun⟨o,h1,_,h2⟩=>⟨o,h1,h2⟩
theorem Src.apart {b:Ly} {l:List Ob} {a e:Nat} (h:Src l a) (hO:gu b 272 l e) {o:Ob} (ho:o∈l) (hk:o.kind=6):a+8≤o.cC∨o.cC+sA o.size≤a:=by
  rcases h with h|⟨x,C,A,D,E⟩
  · have:=(hO.mem ho).ge;omega
  rcases hO.sep ho C with rfl|B|B
  · exact absurd hk A
  · omega
  omega
theorem Src.mono {l r:List Ob} {a:Nat} (h:Src l a) (hs:∀o∈l,o∈r):Src r a:=h.imp id fun⟨o,h1,h2⟩=>⟨o,hs o h1,h2⟩
theorem Src.lt {b:Ly} {l:List Ob} {a e:Nat} (h:Src l a) (hO:gu b 272 l e):a+8≤e:=by
  rcases h with h|⟨x,A,B,C,D⟩
  · have:=hO.le;omega
  have:=(hO.mem A).le;omega
def zS (src:Nat) (av:List Nat) (a:Nat):Prop:=a=src∨∃k c:Nat,av[k]? = some c∧c+16≤a∧a+8≤c+24+8*ez (k:Int)
theorem iW (r:Nat):sA (24+8*r)=24+8*r:=by unfold sA;omega
section
variable {b c:Ly} {l:List Ob} {src e:Nat} {av ax:List Nat}
theorem Chain.apart (h:Chain b l src av ax) (hO:gu b 272 l e) {k k' a a':Nat} (ha:av[k]? = some a) (ha':av[k']? = some a') (hk:k≠k'):a+24+8*ez (k:Int)≤a'∨a'+24+8*ez (k':Int)≤a:=by
  have B:a≠a':=by
    rcases Nat.lt_or_ge k k' with A|A
    · have:=PC h.ES (k'-k-1) k a a' ha (by rw[show k+(k'-k-1)+1=k' by omega];exact ha');omega
    · have:=PC h.ES (k-k'-1) k' a' a ha' (by rw[show k'+(k-k'-1)+1=k by omega];exact ha);omega
  rcases hO.sep (h.ob k a ha) (h.ob k' a' ha')with A|A|A
  · exact absurd (congrArg Ob.cC A) B
  · rw[iW]at A;simp only at A;omega
  rw[iW]at A;simp only at A;omega
theorem Chain.le (h:Chain b l src av ax) (hO:gu b 272 l e) {k a:Nat} (ha:av[k]? = some a):272≤a∧a+24+8*ez (k:Int)≤e:=by
  have:=hO.mem (h.ob k a ha)
  have B:=this.le
  have C:=this.ge
  rw[iW]at B
  simp only at B C
  omega
theorem Chain.mV {S:Nat→Prop} {r:List Ob} (h:Chain b l src av ax) (hO:gu b 272 l e) (hs:Src l src) (he:e≤b.length) (k:Eff S b c) (hr:∀o∈l,o∈r) (h1:∀a,S a→a+8≤src∨src+8≤a) (h2:∀k x:Nat,av[k]? = some x→∀a,S a→a+8≤x+16∨x+24+8*ez (k:Int)≤a):Chain c r src av ax:=by
  have D:=hs.lt hO
  refine⟨(k.fJ Jy h1).trans h.word,fun i a A=>hr _ (h.ob i a A),fun i a A=>?_,fun i a j A C=>?_,h.ES,h.lo,h.hi⟩
  · have:=h.le hO A
    rw[k.fJ Jy fun x B=>by have:=h2 i a A x B;omega]
    exact h.next i a A
  have:=h.le hO A
  rw[k.fJ Jy fun x B=>by have:=h2 i a A x B;omega]
  exact h.gL i a j A C
theorem Chain.put (h:Chain b l src av ax) (hO:gu b 272 l e) (hs:Src l src) (he:e≤b.length) {x p:Nat} (hx:x<18446744073709551616) (hn:av≠[]) (hp:av[av.length-1]? = some p) (hr:ax.length<p7 av.length) :
    Chain (jH b (p+24+8*(ax.length-p7 (av.length-1))) x) l src av (ax ++ [x]):=by
  have D:0<av.length:=List.length_pos_iff.2 hn
  have H:p7 av.length=p7 (av.length-1)+ez ((av.length-1:Nat):Int):=by rw[show av.length=(av.length-1)+1 by omega];rfl
  have F:=h.lo
  have G:=h.le hO hp
  generalize hq:p+24+8*(ax.length-p7 (av.length-1))=q
  have B:=hs.apart hO (h.ob _ _ hp) rfl
  rw[iW]at B
  simp only at B
  refine⟨?_,h.ob,fun i a A=>?_,fun i a j A C=>?_,h.ES,?_,?_⟩
  · rw[pZ Jy];exact h.word
  · have:q+8≤a+16∨a+16+8≤q:=by
      by_cases hi:i=av.length-1
      · subst hi;rw[hp]at A;cases A;omega
      · have:=h.apart hO A hp hi;omega
    rw[pZ this];exact h.next i a A
  · rw[qN]
    by_cases hi:i=av.length-1
    · subst hi
      rw[hp]at A;cases A
      by_cases hj2:j=ax.length-p7 (av.length-1)
      · rw[if_pos Jy,show p+24+8*j=q by omega]
        exact mW Jy hx
      rw[if_neg Jy,pZ Jy]
      exact h.gL _ _ j hp C
    have E:i<av.length:=(List.getElem?_eq_some_iff.1 A).1
    have:=aat (show i<av.length-1 by omega)
    have:=h.apart hO A hp hi
    rw[if_neg Jy,pZ Jy]
    exact h.gL i a j A C
  · rw[List.length_append];simp only[List.length_singleton];omega
  rw[List.length_append];simp only[List.length_singleton];omega
end
theorem tO {av:List Nat} {p k a:Nat} (h:(av ++ [p])[k]? = some a):(k<av.length∧av[k]? = some a)∨(k=av.length∧a=p):=by
  rcases Nat.lt_or_ge k av.length with hk|hk
  · rw[List.getElem?_append_left hk]at h;exact .inl ⟨hk,h⟩
  have A:=(List.getElem?_eq_some_iff.1 h).1
  simp at A
  rw[List.getElem?_append_right hk,show k-av.length=0 by omega]at h
  exact .inr ⟨by omega,by simpa using h.symm⟩
def IU (r:Nat):List UInt8:=fe {next:=0,ax:=List.replicate r 0}
theorem IV (r:Nat):IU r=Pu 6 (24+8*r) ++ nums (0 :: List.replicate r 0):=by
  unfold IU fe
  rw[wP Jy]
  have:(nums [0] ++ nums (List.replicate r 0)).length=8+8*r:=by simp[eR]
  simp only[this]
  rw[show(8-(16+(8+8*r))%8)%8=0 by omega,show 16+(8+8*r)=24+8*r by omega]
  simp[nums]
theorem LA (r:Nat):(IU r).length=24+8*r:=by rw[IV];simp[kF,eR];omega
theorem WC {r i:Nat} (h:i≤r):fJ (IU r) (16+8*i)=0:=by
  rw[IV,iH (by rw[kF];omega),kF,show 16+8*i-16=8*i by omega]
  refine ET (v:=0) ?_ Kq
  cases i with
  | zero=>rfl
  | succ i=>simp only[List.getElem?_cons_succ];rw[List.getElem?_replicate,if_pos Jy]
theorem adt (r:Nat):seg (IU r) 0 16=Pu 6 (24+8*r):=by rw[IV];exact mE _ _ (kF _ _).symm
theorem Chain.grow {b:Ly} {l:List Ob} {src:Nat} {av ax:List Nat} (h:Chain b l src av ax) (hO:gu b 272 l b.length) (hs:Src l src) (hb:b.length<1000000) (hr:ax.length=p7 av.length) :
    let b1:=b ++ IU (ez (av.length:Int))
    let l1:=l ++ [(⟨b.length,6,24+8*ez (av.length:Int)⟩:Ob)]
    gu b1 272 l1 b1.length∧Chain (jH b1 (if av.length=0 then src else jU av+16) b.length) l1 src (av ++ [b.length]) ax:=by
  intro b1 l1
  have R:=tG (av.length:Int)
  have P:b1.length=b.length+(24+8*ez (av.length:Int)):=by simp[b1,LA]
  have G:Eff (fun _=>False) b b1:=Eff.app _ _ _
  have U:=hO.le
  have M:gu b1 272 l1 b1.length:=by
    have:=(hO.mV G (Nat.le_refl _) (fun _ _ _ Y=>Y.elim)).app (o:=⟨b.length,6,24+8*ez (av.length:Int)⟩) rfl Oq Oq Zy Zy ?_
    · rw[iW]at this;rw[P];exact this
    · have L:=iN (x:=b) (y:=IU (ez (av.length:Int))) (p:=b.length) (n:=16) (Nat.le_refl _)
      rw[Nat.sub_self,adt]at L
      exact L
  refine⟨M,?_⟩
  have I:∀i,i≤ez (av.length:Int)→fJ b1 (b.length+16+8*i)=0:=fun i O=>by
    have:=iH (x:=b) (y:=IU (ez (av.length:Int))) (p:=b.length+16+8*i) Jy
    rw[show b.length+16+8*i-b.length=16+8*i by omega,WC O]at this
    exact this
  have J:=hs.lt hO
  have S:∀q,q+8≤b.length→fJ b1 q=fJ b q:=fun q E=>IY E
  have X:p7 (av.length+1)=p7 av.length+ez (av.length:Int):=rfl
  -- the place that leads to the new one
  have E:∃q,(if av.length=0 then src else jU av+16)=q∧q+8≤b.length∧(av=[]∧q=src∨∃p,av[av.length-1]? = some p∧0<av.length∧q=p+16):=by
    by_cases hz:av.length=0
    · exact⟨src,by rw[if_pos hz],J,.inl ⟨List.eq_nil_of_length_eq_zero hz,rfl⟩⟩
    · obtain⟨p,B⟩:∃p,av[av.length-1]? = some p:=⟨_,List.getElem?_eq_getElem Jy⟩
      have:=h.le hO B
      exact⟨p+16,by rw[if_neg hz,lG B],by omega,.inr ⟨p,B,by omega,rfl⟩⟩
  obtain⟨q,V,d,E⟩:=E
  rw[V]
  have D:∀F,F+8≤b.length→(q+8≤F∨F+8≤q)→fJ (jH b1 q b.length) F=fJ b F:=fun F W L=>(pZ L).trans (S F W)
  have C:fJ (jH b1 q b.length) q=b.length:=mW Jy Jy
  have H:∀i,i≤ez (av.length:Int)→fJ (jH b1 q b.length) (b.length+16+8*i)=0:=fun i O=>(pZ Jy).trans (I i O)
  refine⟨?_,fun k a A=>?_,fun k a A=>?_,fun k a j A Z=>?_,fun k a c A N=>?_,?_,?_⟩
  · rcases E with⟨rfl,rfl⟩|⟨p,B,T,rfl⟩
    · exact C
    have K:=hs.apart hO (h.ob _ _ B) rfl
    rw[iW]at K
    simp only at K
    rw[D src J Jy,h.word,qN,if_neg Jy]
  · rcases tO A with⟨_,A⟩|⟨rfl,rfl⟩
    · exact List.mem_append_left _ (h.ob k a A)
    exact List.mem_append_right _ Oq
  · rcases tO A with⟨hk,A⟩|⟨rfl,rfl⟩
    · have Q:=h.le hO A
      rcases E with⟨rfl,_⟩|⟨p,B,T,rfl⟩
      · simp at hk
      by_cases hk2:k=av.length-1
      · subst hk2;rw[B]at A;cases A
        rw[C,qN,if_pos Jy]
      have:=h.apart hO A B hk2
      rw[D _ Jy Jy,h.next k a A,qN,if_neg Jy]
    have:=H 0 Jy
    rw[Nat.mul_zero,Nat.add_zero]at this
    rw[this,qN,if_neg Jy]
    simp
  · rcases tO A with⟨hk,A⟩|⟨rfl,rfl⟩
    · have Q:=h.le hO A
      have:q+8≤a+24+8*j∨a+24+8*j+8≤q:=by
        rcases E with⟨rfl,_⟩|⟨p,B,T,rfl⟩
        · simp at hk
        · by_cases hk2:k=av.length-1
          · subst hk2;rw[B]at A;cases A;omega
          · have:=h.apart hO A B hk2;omega
      rw[D _ Jy this]
      exact h.gL k a j A Z
    have:=H (j+1) Jy
    rw[show b.length+16+8*(j+1)=b.length+24+8*j by omega]at this
    rw[this]
    symm
    simp only[List.getD_eq_getElem?_getD]
    rw[List.getElem?_eq_none Jy]
    rfl
  · rcases tO N with⟨hk,N⟩|⟨hk,rfl⟩
    · rcases tO A with⟨_,A⟩|⟨rfl,_⟩
      · exact h.ES k a c A N
      omega
    rcases tO A with⟨_,A⟩|⟨rfl,_⟩
    · have:=h.le hO A;omega
    omega
  · simp only[List.length_append,List.length_singleton,Nat.add_sub_cancel];omega
  simp only[List.length_append,List.length_singleton];omega
end Go.Wk
namespace Go.Wk
open Go Go.RowKit
structure Linked (m m':Mk) (l l':List Ob) (src:Nat) (av av' ax:List Nat) (x:Nat):Prop where
  gy:gu m'.b 272 l' m'.b.length
  sub:l'=l∨l'=l ++ [(⟨m.b.length,6,24+8*ez (av.length:Int)⟩:Ob)]
  arr:av'=av∨av'=av ++ [m.b.length]
  chain:Chain m'.b l' src av' (ax ++ [x])
  mV:Eff (zS src av') m.b m'.b
  ne:av'≠[]
  top:m'.b.length≤m.b.length+2100
  same:m'.c=m.c∧m'.ai=m.ai∧m'.au=m.au∧m'.main=m.main∧m'.depth=m.depth∧∀i,i≠6→i≠7→i≠18→m'.dG i=m.dG i
theorem TX {m:Mk} {l:List Ob} {src x:Nat} {av ax:List Nat} (hO:gu m.b 272 l m.b.length) (h:Chain m.b l src av ax) (hs:Src l src) (hb:m.b.length<900000) (hx:x<18446744073709551616) :
    ∃l',Linked m (m.link av ax.length src x).2.2 l l' src av (m.link av ax.length src x).1 ax x:=by
  unfold Mk.link
  rw[Zu]
  simp only
  split
  · rename_i hn
    have g:=h.grow hO hs Jy hn
    simp only at g
    obtain⟨U,V⟩:=g
    generalize hl1:l ++ [(⟨m.b.length,6,24+8*ez (av.length:Int)⟩:Ob)]=l1 at *
    generalize hq:(if av.length=0 then src else jU av+16)=qv at V
    have E:(m.d9 (fe {next:=0,ax:=List.replicate (ez (av.length:Int)) 0})).2.b=m.b ++ IU (ez (av.length:Int)):=rfl
    have N:(m.d9 (fe {next:=0,ax:=List.replicate (ez (av.length:Int)) 0})).1=m.b.length:=rfl
    have B:=eK m (fe {next:=0,ax:=List.replicate (ez (av.length:Int)) 0})
    have H:(m.d9 (fe {next:=0,ax:=List.replicate (ez (av.length:Int)) 0})).2.depth=m.depth:=rfl
    have I:∀i,i≠6→i≠7→(m.d9 (fe {next:=0,ax:=List.replicate (ez (av.length:Int)) 0})).2.dG i=m.dG i:=fun i j n=>by
      simp only[Mk.d9]
      rw[fB Jy,fB Jy];rfl
    generalize m.d9 (fe {next:=0,ax:=List.replicate (ez (av.length:Int)) 0})=r at *
    obtain⟨p,A⟩:=r
    simp only at E N B H I ⊢
    subst N
    have Z:=tG (av.length:Int)
    have R:=tF (k:=(av.length:Int)) Jy
    have z:A.b.length=m.b.length+(24+8*ez (av.length:Int)):=by rw[E];simp[LA]
    have X:p7 (av ++ [m.b.length]).length=p7 av.length+ez (av.length:Int):=by simp[p7]
    have P:Src l1 src:=hs.mono fun o F=>by rw[← hl1];exact List.mem_append_left _ F
    have O:Body l1 qv∧(qv=src∨∃k c:Nat,(av ++ [m.b.length])[k]? = some c∧qv=c+16):=by
      rw[← hq]
      split
      · exact⟨P.body,.inl q⟩
      · rename_i u
        obtain⟨p,G⟩:∃p,av[av.length-1]? = some p:=⟨_,List.getElem?_eq_getElem Jy⟩
        rw[lG G]
        have F:=h.ob _ _ G
        refine⟨.inr ⟨⟨p,6,24+8*ez ((av.length-1:Nat):Int)⟩,?_,Nat.le_refl _,?_⟩,.inr ⟨av.length-1,p,by rw[List.getElem?_append_left Jy];exact G,q⟩⟩
        · rw[← hl1];exact List.mem_append_left _ F
        · rw[iW];simp only;omega
    rw[E.symm]at U V
    have f:Eff (fun a=>a=qv) A.b (jH A.b qv m.b.length):=Eff.put _ _ _
    have T:gu (jH A.b qv m.b.length) 272 l1 (jH A.b qv m.b.length).length:=by
      rw[jc]
      exact U.mV f (Nat.le_refl _) fun o F a C=>by subst C;exact U.body O.1 F
    have D:(av ++ [m.b.length])[(av ++ [m.b.length]).length-1]? = some m.b.length:=by simp
    have L:=V.put (x:=x) (p:=m.b.length) T P (Nat.le_refl _) hx Oq D (by rw[X];omega)
    have W:ax.length-p7 ((av ++ [m.b.length]).length-1)=0:=by simp;omega
    rw[W]at L
    have K:Eff (fun a=>a=m.b.length+24+8*0) (jH A.b qv m.b.length) (jH (jH A.b qv m.b.length) (m.b.length+24+8*0) x):=Eff.put _ _ _
    have e:gu (jH (jH A.b qv m.b.length) (m.b.length+24+8*0) x) 272 l1 (jH (jH A.b qv m.b.length) (m.b.length+24+8*0) x).length:=by
      rw[jc]
      refine T.mV K (Nat.le_refl _) fun o F a C=>?_
      subst C
      refine T.body (.inr ⟨⟨m.b.length,6,24+8*ez (av.length:Int)⟩,?_,?_,?_⟩) F
      · rw[← hl1];simp
      · simp only;omega
      · rw[iW];simp only;omega
    have Q:∀M:Mk,M=(if av.length=0 then(A.ea 18 ((A.dG 18+1)%18446744073709551616)).put src m.b.length else(A.ea 18 ((A.dG 18+1)%18446744073709551616)).put (jU av+16) m.b.length)→M.b=jH A.b qv m.b.length∧M.c=A.c∧M.ai=A.ai∧M.au=A.au∧M.main=A.main∧M.depth=A.depth∧∀i,i≠18→M.dG i=A.dG i:=by
      intro M y
      subst y
      rw[← hq]
      split
      · exact⟨q,q,q,q,q,q,fun i hi=>fB (m:=A) Jy⟩
      · exact⟨q,q,q,q,q,q,fun i hi=>fB (m:=A) Jy⟩
    have d:=Q _ q
    clear Q
    generalize (if av.length=0 then(A.ea 18 ((A.dG 18+1)%18446744073709551616)).put src m.b.length else(A.ea 18 ((A.dG 18+1)%18446744073709551616)).put (jU av+16) m.b.length)=M at *
    obtain⟨S,d,kz3,kz4,kz5,kz6,kz7⟩:=d
    rw[lG D,show ax.length-p7 av.length=0 by omega]
    rw[← S]at e L K
    have ml:(M.put (m.b.length+24+8*0) x).b=jH M.b (m.b.length+24+8*0) x:=rfl
    refine⟨l1,⟨by rw[ml];exact e,.inr hl1.symm,.inr q,by rw[ml];exact L,?_,by simp,?_,⟨d.trans B.1,kz3.trans B.2.1,kz4.trans B.2.2.1,kz5.trans B.2.2.2,kz6.trans H,fun i j n w=>(kz7 i w).trans (I i j n)⟩⟩⟩
    · rw[ml,S]
      have t:Eff (zS src (av ++ [m.b.length])) m.b A.b:=by rw[E];exact Eff.app _ _ _
      refine t.trans ((f.mono fun a C=>?_).trans ((S ▸ K).mono fun a C=>?_))
      · subst C
        rcases O.2 with h|⟨k,c,N,v⟩
        · exact .inl h
        exact .inr ⟨k,c,N,by omega,by omega⟩
      subst C
      exact .inr ⟨av.length,m.b.length,by simp,by omega,by omega⟩
    rw[ml,jc,S,jc];omega
  rename_i hn
  have Ac:=h.lo
  have Y:=h.hi
  have J:av≠[]:=by rintro rfl;have N:ax.length≤0:=Y;have v:¬ax.length=0:=hn;omega
  have u:=List.length_pos_iff.2 J
  obtain⟨p,G⟩:∃p,av[av.length-1]? = some p:=⟨_,List.getElem?_eq_getElem Jy⟩
  rw[lG G]
  have L:=h.put hO hs (Nat.le_refl _) hx J G Jy
  have Ab:=h.le hO G
  have hc:p7 av.length=p7 (av.length-1)+ez ((av.length-1:Nat):Int):=by
    have:av.length=(av.length-1)+1:=by omega
    rw[this];rfl
  generalize hq:p+24+8*(ax.length-p7 (av.length-1))=qv at *
  have K:Eff (fun a=>a=qv) m.b (jH m.b qv x):=Eff.put _ _ _
  refine⟨l,⟨?_,.inl q,.inl q,L,K.mono fun a C=>?_,J,?_,⟨q,q,q,q,q,fun _ _ _ _=>rfl⟩⟩⟩
  · show gu (jH m.b qv x) 272 l (jH m.b qv x).length
    rw[jc]
    refine hO.mV K (Nat.le_refl _) fun o F a C=>?_
    subst C
    refine hO.body (.inr ⟨_,h.ob _ _ G,?_,?_⟩) F
    · simp only;omega
    rw[iW];simp only;omega
  · subst C
    exact .inr ⟨av.length-1,p,G,by omega,by omega⟩
  show(jH m.b qv x).length≤_
  rw[jc];omega
end Go.Wk
namespace Go.Wk
open Go Go.RowKit
def sB (l:List Ob) (a:Nat):Prop:=∀o∈l,(a+8≤o.cC∨o.cC+16≤a) ∧
  (o.kind=1→a+8≤o.cC+16∨o.cC+24≤a∧a+8≤o.cC+64∨o.cC+sA o.size≤a) ∧
  (o.kind=2→a+8≤o.cC+16∨o.cC+24≤a∧a+8≤o.cC+40∨o.cC+sA o.size≤a) ∧
  (o.kind=3→a+8≤o.cC∨o.cC+sA o.size≤a)
theorem zy {b:Ly} {l:List Ob} {e a:Nat} (hO:gu b 272 l e) {x:Ob} (hx:x∈l) (h1:x.cC+16≤a) (h2:a+8≤x.cC+sA x.size) (h3:x.kind≠3) (h4:x.kind=1→x.cC+24≤a∧a+8≤x.cC+64) (h5:x.kind=2→x.cC+24≤a∧a+8≤x.cC+40):sB l a:=by
  intro o A
  have:=fR o.size
  have:=fR x.size
  have:=(hO.mem A).size.1
  rcases hO.sep A hx with rfl|B|B
  · refine⟨by omega,fun h=>.inr (.inl (h4 h)),fun h=>.inr (.inl (h5 h)),fun h=>absurd h h3⟩
  · exact⟨by omega,fun _=>by omega,fun _=>by omega,fun _=>by omega⟩
  exact⟨by omega,fun _=>by omega,fun _=>by omega,fun _=>by omega⟩
theorem GB {b:Ly} {l:List Ob} {e a:Nat} (hO:gu b 272 l e) (h:a+8≤272):sB l a:=fun o ho=>by
  have:=(hO.mem ho).ge
  exact⟨by omega,fun _=>by omega,fun _=>by omega,fun _=>by omega⟩
theorem sB.mono {l r:List Ob} {a:Nat} (h:sB r a) (hs:∀o∈l,o∈r):sB l a:=fun o ho=>h o (hs o ho)
def oW (l:List Ob) (a:Nat):Prop:=∃o∈l,((o.kind=4∨o.kind=5)∧o.cC+16≤a∧a+8≤o.cC+sA o.size)∨(((o.kind=1∧64≤o.size)∨(o.kind=2∧40≤o.size))∧(a=o.cC+24∨a=o.cC+32))
theorem oW.mono {l r:List Ob} {a:Nat} (h:oW l a) (hs:∀o∈l,o∈r):oW r a:=by obtain⟨o,A,h⟩:=h;exact⟨o,hs o A,h⟩
theorem oW.abt {b:Ly} {l:List Ob} {e a:Nat} (h:oW l a) (hO:gu b 272 l e):sB l a:=by
  obtain⟨o,B,⟨C,A,D⟩|⟨C,A⟩⟩:=h
  · exact zy hO B A D Jy Jy Jy
  have:=fR o.size
  exact zy hO B Jy Jy Jy Jy Jy
theorem oW.at {b:Ly} {l:List Ob} {e a:Nat} (h:oW l a) (hO:gu b 272 l e):272≤a∧a+8≤e∧∀o∈l,(o.kind=1→a+8≤o.cC+40∨o.cC+sA o.size≤a)∧(o.kind=6→a+8≤o.cC∨o.cC+sA o.size≤a):=by
  obtain⟨x,D,h⟩:=h
  have C:=hO.mem D
  have hk:=C.le
  have G:=C.ge
  have J:=fR x.size
  have B:x.cC+16≤a∧a+8≤x.cC+sA x.size∧x.kind≠6∧(x.kind=1→a+8≤x.cC+40):=by
    rcases h with⟨E,A,F⟩|⟨E,A⟩
    · exact⟨A,F,by omega,by omega⟩
    · exact⟨by omega,by omega,by omega,by omega⟩
  refine⟨by omega,by omega,fun o I=>?_⟩
  have:=fR o.size
  rcases hO.sep I D with rfl|H|H
  · exact⟨fun h=>.inl (B.2.2.2 h),fun h=>absurd h B.2.2.1⟩
  · exact⟨fun _=>by omega,fun _=>by omega⟩
  exact⟨fun _=>by omega,fun _=>by omega⟩
def jM (m:Mk) (s:Ly):Nat:=ej m.c.dO m.c.cZ s
structure sF (b:Ly) (l:List Ob) (h:Nat) (k:bT):Prop where
  ob:(⟨k.cC,1,64+k.dD.length⟩:Ob)∈l
  dH:fJ b (k.cC+16)=h
  dD:seg b (k.cC+64) k.dD.length=k.dD
structure EQ (b:Ly) (l:List Ob) (h:Nat) (k:bT):Prop where
  ob:(⟨k.cC,2,40+k.dD.length⟩:Ob)∈l
  dH:fJ b (k.cC+16)=h
  dD:seg b (k.cC+40) k.dD.length=k.dD
theorem sF.mV {b c:Ly} {l r:List Ob} {n:Nat} {k:bT} {S:Nat→Prop} (h:sF b l n k) (hO:gu b 272 l b.length) (he:Eff S b c) (hs:∀a,S a→sB l a) (hr:∀o∈l,o∈r):sF c r n k:=by
  have B:=(hO.mem h.ob).le
  have C:=fR (64+k.dD.length)
  refine⟨hr _ h.ob,(he.fJ (by simp only at B;omega) fun a A=>?_).trans h.dH,(he.seg _ _ (by simp only at B;omega) fun a A=>?_).trans h.dD⟩
  · have:=(hs a A _ h.ob).2.1 rfl;simp only at this;omega
  have:=(hs a A _ h.ob).2.1 rfl;simp only at this;omega
theorem EQ.mV {b c:Ly} {l r:List Ob} {n:Nat} {k:bT} {S:Nat→Prop} (h:EQ b l n k) (hO:gu b 272 l b.length) (he:Eff S b c) (hs:∀a,S a→sB l a) (hr:∀o∈l,o∈r):EQ c r n k:=by
  have B:=(hO.mem h.ob).le
  have C:=fR (40+k.dD.length)
  refine⟨hr _ h.ob,(he.fJ (by simp only at B;omega) fun a A=>?_).trans h.dH,(he.seg _ _ (by simp only at B;omega) fun a A=>?_).trans h.dD⟩
  · have:=(hs a A _ h.ob).2.2.1 rfl;simp only at this;omega
  have:=(hs a A _ h.ob).2.2.1 rfl;simp only at this;omega
structure Stat (m:Mk) (l:List Ob):Prop where
  gy:gu m.b 272 l m.b.length
  acT:(⟨272,4,16+16*m.c.aU⟩:Ob)∈l
  acU:(⟨288+16*m.c.aU,5,16+16*m.c.aS⟩:Ob)∈l
  n2:m.dG 2=288
  n4:m.dG 4=304+16*m.c.aU
  slots:1≤m.c.aU∧1≤m.c.aS
  data:∀k∈m.ai,sF m.b l (jM m k.dD) k
  fld:∀k∈m.au,EQ m.b l (jM m k.dD) k
  one:∀i j:Nat,∀k k':bT,m.ai[i]? = some k→m.ai[j]? = some k'→k.cC=k'.cC∨k.dD=k'.dD→i=j
  all:∀o∈l,o.kind=1→∃k∈m.ai,k.cC=o.cC
structure eG (m m':Mk) (l l':List Ob):Prop where
  gy:gu m'.b 272 l' m'.b.length
  sub:∃t,l'=l ++ t∧∀o∈t,(o.kind=1∨o.kind=2)∧m.b.length≤o.cC
  mV:Eff (oW l') m.b m'.b
  same:m'.c=m.c∧m'.main=m.main∧∀i,i≠6→i≠7→i<15→m'.dG i=m.dG i
theorem eG.mem {m m':Mk} {l l':List Ob} (h:eG m m' l l'):∀o∈l,o∈l':=by obtain⟨t,e,_⟩:=h.sub;intro o A;rw[e];exact List.mem_append_left _ A
theorem eG.refl {m:Mk} {l:List Ob} (h:gu m.b 272 l m.b.length):eG m m l l:=⟨h,⟨[],by simp,by simp⟩,Eff.refl _ _,q,q,fun _ _ _ _=>rfl⟩
theorem eG.trans {m m' m'':Mk} {l l' l'':List Ob} (h:eG m m' l l') (k:eG m' m'' l' l''):eG m m'' l l'':=by
  obtain⟨t,e,F⟩:=h.sub
  obtain⟨u,f,G⟩:=k.sub
  have H:=h.mV.len
  refine⟨k.gy,⟨t ++ u,by rw[f,e,List.append_assoc],fun o A=>?_⟩,(h.mV.mono fun a E=>E.mono k.mem).trans k.mV,k.same.1.trans h.same.1,k.same.2.1.trans h.same.2.1,fun i B C D=>(k.same.2.2 i B C D).trans (h.same.2.2 i B C D)⟩
  rcases List.mem_append.1 A with A|A
  · exact F o A
  have:=G o A;exact⟨this.1,by omega⟩
theorem eG.to {m m' m'':Mk} {l l':List Ob} (h:eG m m' l l') (hb:m''.b=m'.b) (hc:m''.c=m'.c) (hm:m''.main=m'.main) (hn:∀i,i≠6→i≠7→i<15→m''.dG i=m'.dG i):eG m m'' l l' :=
  ⟨by rw[hb];exact h.gy,h.sub,by rw[hb];exact h.mV,hc.trans h.same.1,hm.trans h.same.2.1,fun i h1 h2 h3=>(hn i h1 h2 h3).trans (h.same.2.2 i h1 h2 h3)⟩
theorem eG.put {m:Mk} {l:List Ob} {a:Nat} (v:Nat) (hO:gu m.b 272 l m.b.length) (ha:oW l a):eG m (m.put a v) l l:=by
  have B:=ha.abt hO
  refine⟨?_,⟨[],by simp,by simp⟩,(Eff.put m.b a v).mono fun x A=>A ▸ ha,q,q,fun _ _ _ _=>rfl⟩
  show gu (jH m.b a v) 272 l (jH m.b a v).length
  rw[jc]
  exact hO.mV (Eff.put m.b a v) (Nat.le_refl _) fun o C x A=>by subst A;exact(B o C).1
theorem aaV {o h r:Ly} (e:o=(h ++ r)) (hl:h.length=16):seg o 0 16=h:=by subst e;exact mE _ _ hl.symm
theorem eG.obj {m:Mk} {l:List Ob} {o r:Ly} {k s:Nat} (hO:gu m.b 272 l m.b.length) (hk:k=1∨k=2) (he:o=Pu k s ++ r) (hl:o.length=sA s) (h16:16≤s) (hs:s<1000000):eG m (m.d9 o).2 l (l ++ [⟨m.b.length,k,s⟩]):=by
  have B:(m.d9 o).2.b=m.b ++ o:=rfl
  refine⟨?_,⟨_,q,fun x C=>?_⟩,by rw[B];exact Eff.app _ _ _,q,q,fun i F A G=>?_⟩
  · have D:=(hO.mV (Eff.app (fun _=>False) m.b o) (Nat.le_refl _) (fun _ _ _ E=>E.elim)).app (o:=⟨m.b.length,k,s⟩) q Zk Zk h16 Zk ?_
    · rw[B,List.length_append,hl];exact D
    have A:=iN (x:=m.b) (y:=o) (p:=m.b.length) (n:=16) (Nat.le_refl _)
    rw[Nat.sub_self,aaV he (kF _ _)]at A
    exact A
  · simp at C;subst C;exact⟨hk,Nat.le_refl _⟩
  simp only[Mk.d9]
  rw[fB Jy,fB Jy];rfl
theorem xJ {dS:Nat}:∀(l:List bT) (n q:Nat),(oQ dS l n q).1=n∧(oQ dS l n q).2=q∨n<(oQ dS l n q).1∧∃k∈l,(oQ dS l n q).2=k.cC
  | [],_,_=>.inl ⟨rfl,rfl⟩
  | k :: r,n,q=>by
    simp only[oQ]
    split
    · rcases xJ (dS:=dS) r (n+1) k.cC with⟨h1,h2⟩|⟨h1,y,hy,h2⟩
      · exact .inr ⟨by omega,k,by simp,h2⟩
      · exact .inr ⟨by omega,y,by simp[hy],h2⟩
    · rcases xJ (dS:=dS) r n q with h|⟨h1,y,hy,h2⟩
      · exact .inl h
      · exact .inr ⟨h1,y,by simp[hy],h2⟩
theorem eG.hang {m:Mk} {l:List Ob} {ks:List bT} {table p dS:Nat} (hO:gu m.b 272 l m.b.length) (ht:oW l (table+16*dS)∧oW l (table+16*dS+8)) (hk:∀k∈ks,oW l (k.cC+24)):eG m (m.hang ks table p dS).2 l l:=by
  unfold Mk.hang
  have C:=xJ (dS:=dS) ks 0 0
  generalize oQ dS ks 0 0=r at *
  obtain⟨n,q⟩:=r
  simp only at C ⊢
  split
  · have A:=eG.put (m:=m) p hO ht.1
    exact A.trans (eG.put (m:=m.put (table+16*dS) p) p A.gy ht.2)
  rename_i hn
  have E:oW l (q+24):=by
    rcases C with⟨A,_⟩|⟨_,k,B,D⟩
    · omega
    · rw[D];exact hk k B
  have A:=eG.put (m:=m) p hO E
  exact A.trans (eG.put (m:=m.put (q+24) p) p A.gy ht.2)
end Go.Wk
namespace Go.Wk
open Go Go.RowKit
theorem vE (b o:Ly) (q:Nat):fJ (b ++ o) (b.length+q)=fJ o q:=by rw[iH Jy,Nat.add_sub_cancel_left]
theorem OH (b o:Ly) (q n:Nat):seg (b ++ o) (b.length+q) n=seg o q n:=by rw[iN Jy,Nat.add_sub_cancel_left]
theorem agh {k:Nat} (hk:1≤k∧k≤7) (ns:List Nat) (t:Ly) (hn:∀v∈ns,v<18446744073709551616) :
    (∃r,rj k (nums ns ++ t)=Pu k (16+8*ns.length+t.length) ++ r)∧(rj k (nums ns ++ t)).length=sA (16+8*ns.length+t.length) ∧
    (∀i v:Nat,ns[i]? = some v→fJ (rj k (nums ns ++ t)) (16+8*i)=v)∧seg (rj k (nums ns ++ t)) (16+8*ns.length) t.length=t:=by
  have A:(nums ns ++ t).length=8*ns.length+t.length:=by simp[eR]
  rw[wP hk,A,show 16+(8*ns.length+t.length)=16+8*ns.length+t.length by omega]
  refine⟨⟨_,List.append_assoc _ _ _⟩,?_,fun i v h=>?_,?_⟩
  · rw[List.length_append,List.length_append,kF,A,List.length_replicate];unfold sA;omega
  · rw[List.append_assoc,iH (by rw[kF];omega),kF,Nat.add_sub_cancel_left,List.append_assoc]
    exact mr h (hn v (List.mem_of_getElem? h))
  rw[List.append_assoc,iN (by rw[kF];omega),kF,show 16+8*ns.length-16=8*ns.length by omega,List.append_assoc,iN (by rw[eR];omega),eR,Nat.sub_self]
  exact mE _ _ q
theorem BI (m:Mk) (s:Ly):jM m s<18446744073709551616:=BK _ _ _
theorem Stat.step {m m':Mk} {l l':List Ob} (h:Stat m l) (s:eG m m' l l') (hd:∀k∈m'.ai,k∈m.ai∨sF m'.b l' (jM m k.dD) k) (hf:∀k∈m'.au,k∈m.au∨EQ m'.b l' (jM m k.dD) k)
    (h1:∀i j:Nat,∀k k':bT,m'.ai[i]? = some k→m'.ai[j]? = some k'→k.cC=k'.cC∨k.dD=k'.dD→i=j) (h2:∀o∈l',o.kind=1→∃k∈m'.ai,k.cC=o.cC):Stat m' l':=by
  have B:=s.mem
  have D:∀a,oW l' a→sB l a:=fun a F=>(F.abt s.gy).mono B
  obtain⟨A,G,C⟩:=s.same
  have E:∀t,jM m' t=jM m t:=fun t=>by unfold jM;rw[A]
  refine⟨s.gy,by rw[A];exact B _ h.acT,by rw[A];exact B _ h.acU,(C 2 Kq Kq Kq).trans h.n2,by rw[A];exact(C 4 Kq Kq Kq).trans h.n4,by rw[A];exact h.slots,fun k hk=>?_,fun k hk=>?_,h1,h2⟩
  · rw[E]
    rcases hd k hk with hk|hk
    · exact(h.data k hk).mV h.gy s.mV D B
    exact hk
  rw[E]
  rcases hf k hk with hk|hk
  · exact(h.fld k hk).mV h.gy s.mV D B
  exact hk
theorem Stat.soft {m m':Mk} {l l':List Ob} (h:Stat m l) (s:eG m m' l l') (hd:m'.ai=m.ai) (hf:m'.au=m.au) (hl:l'=l):Stat m' l' :=
  h.step s (fun k hk=>.inl (hd ▸ hk)) (fun k hk=>.inl (hf ▸ hk)) (by rw[hd];exact h.one) (by rw[hd,hl];exact h.all)
theorem ai7 {m:Mk} {l:List Ob} (h:Stat m l) {s:Nat} (hs:s<m.c.aU):oW l (m.dG 2+16*s)∧oW l (m.dG 2+16*s+8):=by
  have:=fR (16+16*m.c.aU)
  rw[h.n2]
  exact⟨⟨_,h.acT,.inl ⟨.inl q,by simp only;omega,by simp only;omega⟩⟩,⟨_,h.acT,.inl ⟨.inl q,by simp only;omega,by simp only;omega⟩⟩⟩
theorem ai8 {m:Mk} {l:List Ob} (h:Stat m l) {s:Nat} (hs:s<m.c.aS):oW l (m.dG 4+16*s)∧oW l (m.dG 4+16*s+8):=by
  have:=fR (16+16*m.c.aS)
  rw[h.n4]
  exact⟨⟨_,h.acU,.inl ⟨.inr q,by simp only;omega,by simp only;omega⟩⟩,⟨_,h.acU,.inl ⟨.inr q,by simp only;omega,by simp only;omega⟩⟩⟩
theorem aaD {m:Mk} {l:List Ob} (h:Stat m l) (name:Ly) (hn:name.length≤1000) :
    ∃l',eG m (m.field name).2 l l'∧Stat (m.field name).2 l'∧(∃k∈(m.field name).2.au,k.cC=(m.field name).1)∧(m.field name).2.ai=m.ai:=by
  unfold Mk.field
  cases hk:rW name m.au with
  | some p =>
    obtain⟨k,P,Q,_⟩:=FJ hk
    exact⟨l,eG.refl h.gy,h,⟨k,P,Q⟩,q⟩
  | none =>
    simp only
    generalize hF:iq {dH:=ej m.c.dO m.c.cZ name,cP:=0,dat:=0,aR:=name}=o
    have N:o=rj 2 (nums [jM m name,0,0] ++ name):=hF.symm
    obtain⟨⟨r,K⟩,L,T,M⟩:=agh (k:=2) Kq [jM m name,0,0] name (by have:=BI m name;intro v g;simp at g;omega)
    rw[← N]at K L T M
    simp only[List.length_cons,List.length_nil,Nat.zero_add,Nat.reduceAdd,Nat.reduceMul]at K L M
    have G:=eG.obj (m:=m) (o:=o) h.gy (.inr q) K L Jy Jy
    have O:(m.d9 o).2.b=m.b ++ o:=rfl
    have U:(m.d9 o).1=m.b.length:=rfl
    have H:=eK m o
    have V:(m.d9 o).2.dG 4=m.dG 4:=by simp only[Mk.d9];rw[fB Jy,fB Jy];rfl
    generalize m.d9 o=z at *
    obtain⟨p,A⟩:=z
    simp only at G O U H V ⊢
    subst U
    have f:ej m.c.dO m.c.cZ name%A.c.aS<m.c.aS:=by rw[H.1];exact Nat.mod_lt _ (by have:=h.slots;omega)
    have R:=ai8 h f
    rw[← V]at R
    have I:=eG.hang (m:=A) (p:=m.b.length) (ks:=A.au) G.gy ⟨R.1.mono G.mem,R.2.mono G.mem⟩ (fun k hk=>by
      rw[H.2.2.1]at hk
      have:=(h.fld k hk).ob
      exact⟨_,G.mem _ this,.inr ⟨.inr ⟨q,by simp only;omega⟩,.inl q⟩⟩)
    have D:=iP A A.au (A.dG 4) m.b.length (ej m.c.dO m.c.cZ name%A.c.aS)
    generalize A.hang A.au (A.dG 4) m.b.length (ej m.c.dO m.c.cZ name%A.c.aS)=z at *
    obtain⟨n,B⟩:=z
    simp only at I D ⊢
    obtain⟨w,Z,d,y,d5,d6⟩:=D
    have W:=G.trans I
    obtain⟨F,E⟩:∃F,F=({({B with depth:=max A.depth n}:Mk).ea 16 ((({B with depth:=max A.depth n}:Mk).dG 16+1)%18446744073709551616)with au:=(({B with depth:=max A.depth n}:Mk).ea 16 ((({B with depth:=max A.depth n}:Mk).dG 16+1)%18446744073709551616)).au ++ [({dD:=name,cC:=m.b.length,dS:=ej m.c.dO m.c.cZ name%A.c.aS,ck:=0,bh:=[]}:bT)]}:Mk):=⟨_,q⟩
    show ∃l',eG m ({({B with depth:=max A.depth n}:Mk).ea 16 ((({B with depth:=max A.depth n}:Mk).dG 16+1)%18446744073709551616)with au:=(({B with depth:=max A.depth n}:Mk).ea 16 ((({B with depth:=max A.depth n}:Mk).dG 16+1)%18446744073709551616)).au ++ [({dD:=name,cC:=m.b.length,dS:=ej m.c.dO m.c.cZ name%A.c.aS,ck:=0,bh:=[]}:bT)]}:Mk) l l'∧Stat ({({B with depth:=max A.depth n}:Mk).ea 16 ((({B with depth:=max A.depth n}:Mk).dG 16+1)%18446744073709551616)with au:=(({B with depth:=max A.depth n}:Mk).ea 16 ((({B with depth:=max A.depth n}:Mk).dG 16+1)%18446744073709551616)).au ++ [({dD:=name,cC:=m.b.length,dS:=ej m.c.dO m.c.cZ name%A.c.aS,ck:=0,bh:=[]}:bT)]}:Mk) l'∧(∃k∈({({B with depth:=max A.depth n}:Mk).ea 16 ((({B with depth:=max A.depth n}:Mk).dG 16+1)%18446744073709551616)with au:=(({B with depth:=max A.depth n}:Mk).ea 16 ((({B with depth:=max A.depth n}:Mk).dG 16+1)%18446744073709551616)).au ++ [({dD:=name,cC:=m.b.length,dS:=ej m.c.dO m.c.cZ name%A.c.aS,ck:=0,bh:=[]}:bT)]}:Mk).au,k.cC=m.b.length)∧({({B with depth:=max A.depth n}:Mk).ea 16 ((({B with depth:=max A.depth n}:Mk).dG 16+1)%18446744073709551616)with au:=(({B with depth:=max A.depth n}:Mk).ea 16 ((({B with depth:=max A.depth n}:Mk).dG 16+1)%18446744073709551616)).au ++ [({dD:=name,cC:=m.b.length,dS:=ej m.c.dO m.c.cZ name%A.c.aS,ck:=0,bh:=[]}:bT)]}:Mk).ai=m.ai
    rw[← E]
    have J:F.b=B.b∧F.c=B.c∧F.main=B.main∧F.ai=B.ai∧F.au=B.au ++ [({dD:=name,cC:=m.b.length,dS:=ej m.c.dO m.c.cZ name%A.c.aS,ck:=0,bh:=[]}:bT)]:=by subst E;exact⟨q,q,q,q,q⟩
    have S4:=W.to (m'':=F) J.1 J.2.1 J.2.2.1 (fun i _ _ h3=>by
      subst E
      exact(fB (m:={B with depth:=max A.depth n}) Jy))
    clear E
    obtain⟨X,t,u,Y,S⟩:=J
    have C:F.ai=m.ai:=by rw[Y,Z,H.2.1]
    refine⟨_,S4,h.step S4 (fun k hk=>.inl (C ▸ hk)) (fun k hk=>?_) (by rw[C];exact h.one) (fun x E hk=>?_),?_,C⟩
    · rw[S,d,H.2.2.1,List.mem_append,List.mem_singleton]at hk
      rcases hk with hk|rfl
      · exact .inl hk
      · right
        have j:EQ A.b (l ++ [⟨m.b.length,2,40+name.length⟩]) (jM m name) ({dD:=name,cC:=m.b.length,dS:=ej m.c.dO m.c.cZ name%A.c.aS,ck:=0,bh:=[]}:bT):=by
          refine⟨by simp,?_,?_⟩
          · rw[O,vE];exact T 0 _ q
          · rw[O,OH];exact M
        rw[X]
        exact j.mV G.gy I.mV (fun a e=>e.abt I.gy) fun _ h=>h
    · rcases List.mem_append.1 E with E|E
      · rw[C];exact h.all x E hk
      · simp at E;subst E;simp at hk
    · exact⟨({dD:=name,cC:=m.b.length,dS:=ej m.c.dO m.c.cZ name%A.c.aS,ck:=0,bh:=[]}:bT),by rw[S];simp,q⟩
theorem FI:∀{s:Ly} {l:List bT} {j i:Nat},nG s l j=some i→∃k,l[i-j]? = some k∧k.dD=s∧j≤i
  | s,[],j,i,h=>by simp[nG]at h
  | s,x :: l,j,i,h=>by
    simp only[nG]at h
    split at h
    · rename_i hx;simp at h;subst h;exact⟨x,by simp,hx,Nat.le_refl _⟩
    · obtain⟨k,h1,h2,h3⟩:=FI h
      exact⟨k,by rw[show i-j=(i-(j+1))+1 by omega];simpa using h1,h2,by omega⟩
theorem AU:∀{s:Ly} {l:List bT} {j:Nat},nG s l j=none→∀k∈l,k.dD≠s
  | s,[],j,_,k,hk=>by simp at hk
  | s,x :: l,j,h,k,hk=>by
    simp only[nG]at h
    split at h
    · cases h
    · rename_i hx
      rcases List.mem_cons.1 hk with rfl|hk
      · exact hx
      · exact AU h k hk
structure yD (b:Ly) (p:Nat):Prop where
  ent:fJ b (p+40)=0
  arr:fJ b (p+48)=0
  cnt:fJ b (p+56)=0
theorem yD.mV {b c:Ly} {l l':List Ob} {p s:Nat} (h:yD b p) (ho:(⟨p,1,s⟩:Ob)∈l) (hs:64≤s) (hO:gu b 272 l b.length) (hO':gu c 272 l' c.length) (hm:∀o∈l,o∈l') (he:Eff (oW l') b c):yD c p:=by
  have B:=(hO.mem ho).le
  have E:=fR s
  simp only at B
  have A:∀q,40≤q→q≤56→fJ c (p+q)=fJ b (p+q):=fun q F D=>he.fJ Jy fun a C=>by
    have:=((C.at hO').2.2 _ (hm _ ho)).1 rfl;simp only at this;omega
  exact⟨(A 40 Jy Jy).trans h.ent,(A 48 Jy Jy).trans h.arr,(A 56 Jy Jy).trans h.cnt⟩
structure zQ (m m':Mk) (l l':List Ob) (i:Nat) (t:Ly):Prop where
  step:eG m m' l l'
  iB:Stat m' l'
  got:∃k,m'.ai[i]? = some k∧k.dD=t
  new:m'.ai=m.ai∨∃s p,m'.ai=m.ai ++ [({dD:=t,cC:=p,dS:=s,ck:=0,bh:=[]}:bT)]∧yD m'.b p∧m.b.length≤p
theorem ad4 {m:Mk} {l:List Ob} (h:Stat m l) (x:Pr) (hx:x.name.length≤64∧x.value.length≤256):∃l',zQ m (m.data x).2 l l' (m.data x).1 (aR x):=by
  unfold Mk.data
  cases hk:nG (aR x) m.ai 0 with
  | some i =>
    obtain⟨k,L,H,_⟩:=FI hk
    exact⟨l,eG.refl h.gy,h,⟨k,by simpa using L,H⟩,.inl q⟩
  | none =>
    simp only
    have Ak:=AU hk
    have A3:=lI x
    generalize hF:jb {dH:=ej m.c.dO m.c.cZ (aR x),cP:=0,dR:=0,entry:=0,array:=0,ck:=0,aR:=aR x}=o
    have Af:o=rj 1 (nums [jM m (aR x),0,0,0,0,0] ++ aR x):=hF.symm
    obtain⟨⟨r,w⟩,f2,S,f4⟩:=agh (k:=1) Kq [jM m (aR x),0,0,0,0,0] (aR x) (by have:=BI m (aR x);intro v hv;simp at hv;omega)
    rw[← Af]at w f2 S f4
    simp only[List.length_cons,List.length_nil,Nat.zero_add,Nat.reduceAdd,Nat.reduceMul]at w f2 f4
    have J:=eG.obj (m:=m) (o:=o) h.gy (.inl q) w f2 Jy Jy
    have P:(m.d9 o).2.b=m.b ++ o:=rfl
    have g1:(m.d9 o).1=m.b.length:=rfl
    have T:=eK m o
    have g4:(m.d9 o).2.dG 2=m.dG 2:=by simp only[Mk.d9];rw[fB Jy,fB Jy];rfl
    generalize m.d9 o=z at *
    obtain⟨p,D⟩:=z
    simp only at J P g1 T g4 ⊢
    subst g1
    have hs:ej m.c.dO m.c.cZ (aR x)%D.c.aU<m.c.aU:=by rw[T.1];exact Nat.mod_lt _ (by have:=h.slots;omega)
    have tt:=ai7 h hs
    rw[← g4]at tt
    have K:=eG.hang (m:=D) (p:=m.b.length) (ks:=D.ai) J.gy ⟨tt.1.mono J.mem,tt.2.mono J.mem⟩ (fun k hk=>by
      rw[T.2.1]at hk
      have:=(h.data k hk).ob
      exact⟨_,J.mem _ this,.inr ⟨.inl ⟨q,by simp only;omega⟩,.inl q⟩⟩)
    have F:=iP D D.ai (D.dG 2) m.b.length (ej m.c.dO m.c.cZ (aR x)%D.c.aU)
    generalize hsl:ej m.c.dO m.c.cZ (aR x)%D.c.aU=dS at *
    generalize D.hang D.ai (D.dG 2) m.b.length dS=z at *
    obtain⟨n,B⟩:=z
    simp only at K F ⊢
    obtain⟨d1,d2,d3,d4,d5,d6⟩:=F
    have S3:=J.trans K
    generalize hx5:({(B.ea 19 (max (B.dG 19) n)).ea 15 (((B.ea 19 (max (B.dG 19) n)).dG 15+1)%18446744073709551616)with ai:=((B.ea 19 (max (B.dG 19) n)).ea 15 (((B.ea 19 (max (B.dG 19) n)).dG 15+1)%18446744073709551616)).ai ++ [({dD:=aR x,cC:=m.b.length,dS:=dS,ck:=0,bh:=[]}:bT)]}:Mk)=m5
    have f:m5.b=B.b∧m5.c=B.c∧m5.main=B.main∧m5.au=B.au∧m5.ai=B.ai ++ [({dD:=aR x,cC:=m.b.length,dS:=dS,ck:=0,bh:=[]}:bT)]:=by subst hx5;exact⟨q,q,q,q,q⟩
    have t:=S3.to (m'':=m5) f.1 f.2.1 f.2.2.1 (fun i _ _ h3=>by
      subst hx5
      exact(fB (m:=B.ea 19 (max (B.dG 19) n)) Jy).trans (fB Jy))
    clear hx5
    obtain⟨a1,a2,a3,a4,a5⟩:=f
    have I:m5.ai=m.ai ++ [({dD:=aR x,cC:=m.b.length,dS:=dS,ck:=0,bh:=[]}:bT)]:=by rw[a5,d2,T.2.1]
    have Ag:m5.au=m.au:=by rw[a4,d3,T.2.2.1]
    have C:(⟨m.b.length,1,64+(aR x).length⟩:Ob)∈l ++ [⟨m.b.length,1,64+(aR x).length⟩]:=by simp
    have Am:Stat m5 (l ++ [⟨m.b.length,1,64+(aR x).length⟩]):=by
      refine h.step t (fun k hk=>?_) (fun k hk=>.inl (Ag ▸ hk)) (fun i j k g G hj E=>?_) (fun y Q hk=>?_)
      · rw[I,List.mem_append,List.mem_singleton]at hk
        rcases hk with hk|rfl
        · exact .inl hk
        · right
          have k0:sF D.b (l ++ [⟨m.b.length,1,64+(aR x).length⟩]) (jM m (aR x)) ({dD:=aR x,cC:=m.b.length,dS:=dS,ck:=0,bh:=[]}:bT):=by
            refine⟨C,?_,?_⟩
            · rw[P,vE];exact S 0 _ q
            · rw[P,OH];exact f4
          rw[a1]
          exact k0.mV J.gy K.mV (fun a ha=>ha.abt K.gy) fun _ h=>h
      · rw[I]at G hj
        have Z:∀(i:Nat) (k:bT),m.ai[i]? = some k→k.cC+16≤m.b.length∧k.dD≠aR x:=fun i k G=>by
          have hm:=List.mem_of_getElem? G
          have:=(h.gy.mem (h.data k hm).ob).le
          have:=fR (64+k.dD.length)
          simp only at *
          exact⟨by omega,Ak k hm⟩
        have A:∀(i:Nat) (k:bT),(m.ai ++ [({dD:=aR x,cC:=m.b.length,dS:=dS,ck:=0,bh:=[]}:bT)])[i]? = some k→(m.ai[i]? = some k)∨i=m.ai.length∧k={dD:=aR x,cC:=m.b.length,dS:=dS,ck:=0,bh:=[]}:=fun i k G=>by
          rcases Nat.lt_or_ge i m.ai.length with hl|hl
          · rw[List.getElem?_append_left hl]at G;exact .inl G
          · have Aj:=(List.getElem?_eq_some_iff.1 G).1
            simp at Aj
            rw[List.getElem?_append_right hl,show i-m.ai.length=0 by omega]at G
            exact .inr ⟨by omega,by simpa using G.symm⟩
        rcases A i k G with L|⟨L,rfl⟩
        · rcases A j g hj with H|⟨H,rfl⟩
          · exact h.one i j k g L H E
          · have:=Z i k L
            rcases E with E|E
            · simp only at E;omega
            · exact absurd E this.2
        · rcases A j g hj with H|⟨H,rfl⟩
          · have:=Z j g H
            rcases E with E|E
            · simp only at E;omega
            · exact absurd E.symm this.2
          · omega
      · rw[I]
        rcases List.mem_append.1 Q with Q|Q
        · obtain⟨k,L,H⟩:=h.all y Q hk
          exact⟨k,List.mem_append_left _ L,H⟩
        · simp at Q;subst Q
          exact⟨({dD:=aR x,cC:=m.b.length,dS:=dS,ck:=0,bh:=[]}:bT),List.mem_append_right _ Oq,q⟩
    have Ac:yD D.b m.b.length:=⟨by rw[P,vE];exact S 3 _ q,by rw[P,vE];exact S 4 _ q,by rw[P,vE];exact S 5 _ q⟩
    have Ad:yD m5.b m.b.length:=by
      rw[a1];exact Ac.mV C Jy J.gy K.gy K.mem K.mV
    obtain⟨l6,d,O,⟨R,X,Y⟩,U⟩:=aaD Am x.name Jy
    have W:=(O.fld R X).ob
    generalize m5.field x.name=z at *
    obtain⟨k,N⟩:=z
    simp only at d O Y U X W ⊢
    subst Y
    have M:=d.mem _ C
    have sp:oW l6 (m.b.length+32):=⟨_,M,.inr ⟨.inl ⟨q,by simp only;omega⟩,.inr q⟩⟩
    have sk:oW l6 (R.cC+32):=⟨_,W,.inr ⟨.inr ⟨q,by simp only;omega⟩,.inr q⟩⟩
    have u:=eG.put (m:=N) (pu N.b (R.cC+32:Nat) 8).1 d.gy sp
    have Ao:=O.soft u q q q
    have S8:=eG.put (m:=N.put (m.b.length+32) (pu N.b (R.cC+32:Nat) 8).1) m.b.length u.gy sk
    have Ap:=Ao.soft S8 q q q
    have e:=d.trans (u.trans S8)
    have V:((N.put (m.b.length+32) (pu N.b (R.cC+32:Nat) 8).1).put (R.cC+32) m.b.length).ai=m.ai ++ [({dD:=aR x,cC:=m.b.length,dS:=dS,ck:=0,bh:=[]}:bT)]:=by
      show N.ai=_
      rw[U,I]
    have Ae:=Ad.mV C Jy t.gy e.gy e.mem e.mV
    refine⟨l6,t.trans e,Ap,⟨({dD:=aR x,cC:=m.b.length,dS:=dS,ck:=0,bh:=[]}:bT),by rw[V];simp,q⟩,.inr ⟨dS,m.b.length,V,Ae,Nat.le_refl _⟩⟩
end Go.Wk
namespace Go.Wk
open Go Go.RowKit
structure uV (b:Ly) (l:List Ob) (k:bT) (ps:List Nat):Prop where
  cnt:k.ck=ps.length
  word:fJ b (k.cC+56)=ps.length
  ent:fJ b (k.cC+40)=ps.getD 0 0
  chain:Chain b l (k.cC+48) k.bh (ps.drop 1)
theorem zq {b:Ly} {l:List Ob} {n:Nat} {k:bT} (h:sF b l n k):Src l (k.cC+48):=by
  have:=fR (64+k.dD.length)
  exact .inr ⟨_,h.ob,by simp,by simp only;omega,by simp only;omega⟩
theorem vY (l:List Ob):Src l 176:=.inl Kq
theorem uV.mV {b c:Ly} {l r:List Ob} {n:Nat} {k:bT} {ps:List Nat} {S:Nat→Prop} (h:uV b l k ps) (hs:sF b l n k) (hO:gu b 272 l b.length) (he:Eff S b c) (hr:∀o∈l,o∈r)
    (h1:∀a,S a→a+8≤k.cC+40∨k.cC+64≤a) (h2:∀i x:Nat,k.bh[i]? = some x→∀a,S a→a+8≤x+16∨x+24+8*ez (i:Int)≤a):uV c r k ps:=by
  have B:=(hO.mem hs.ob).le
  have C:=fR (64+k.dD.length)
  simp only at B
  refine⟨h.cnt,(he.fJ Jy fun a A=>?_).trans h.word,(he.fJ Jy fun a A=>?_).trans h.ent,h.chain.mV hO (zq hs) (Nat.le_refl _) he hr (fun a A=>?_) h2⟩
  · have:=h1 a A;omega
  · have:=h1 a A;omega
  have:=h1 a A;omega
theorem Chain.sI {b b':Ly} {l l':List Ob} {src e:Nat} {av ax:List Nat} (h:Chain b l src av ax) (hO:gu b' 272 l' e) (hm:∀o∈l,o∈l') {i x a:Nat} (hx:av[i]? = some x) (ha:∀o∈l',o.kind=6→a+8≤o.cC∨o.cC+sA o.size≤a):a+8≤x+16∨x+24+8*ez (i:Int)≤a:=by
  have:=ha _ (hm _ (h.ob i x hx)) q
  rw[iW]at this
  simp only at this
  omega
theorem uV.soft {b c:Ly} {l r:List Ob} {n:Nat} {k:bT} {ps:List Nat} (h:uV b l k ps) (hs:sF b l n k) (hO:gu b 272 l b.length) (hO':gu c 272 r c.length) (he:Eff (oW r) b c) (hr:∀o∈l,o∈r):uV c r k ps:=by
  have D:=fR (64+k.dD.length)
  refine h.mV hs hO he hr (fun a A=>?_) (fun i x C a A=>?_)
  · have:=((A.at hO').2.2 _ (hr _ hs.ob)).1 q
    simp only at this;omega
  exact h.chain.sI hO' hr C fun o B hk=>((A.at hO').2.2 o B).2 hk
theorem XO {b c:Ly} {l r:List Ob} {av ax:List Nat} (h:Chain b l 176 av ax) (hO:gu b 272 l b.length) (hO':gu c 272 r c.length) (he:Eff (oW r) b c) (hr:∀o∈l,o∈r):Chain c r 176 av ax:=by
  refine h.mV hO (vY l) (Nat.le_refl _) he hr (fun a B=>?_) (fun i x D a B=>?_)
  · have:=(B.at hO').1;omega
  exact h.sI hO' hr D fun o C hk=>((B.at hO').2.2 o C).2 hk
theorem uV.new {b:Ly} {l:List Ob} {k:bT} (h:yD b k.cC) (hc:k.ck=0) (ha:k.bh=[]):uV b l k []:=by
  refine⟨hc,h.cnt,h.ent,?_⟩
  rw[ha]
  exact⟨h.arr,by simp,by simp,by simp,by simp,Nat.le_refl _,Nat.le_refl _⟩
def adm (k:bT) (av:List Nat) (a:Nat):Prop:=a=k.cC+40∨a=k.cC+56∨zS (k.cC+48) av a
structure adn (m m':Mk) (l l':List Ob) (i e:Nat) (k k':bT) (ps:List Nat):Prop where
  gy:gu m'.b 272 l' m'.b.length
  sub:∃t,l'=l ++ t∧∀o∈t,o.kind=6∧m.b.length≤o.cC
  dat:m'.ai=m.ai.set i k'
  cC:k'.cC=k.cC∧k'.dD=k.dD∧k'.dS=k.dS
  arr:k'.bh=k.bh∨k'.bh=k.bh ++ [m.b.length]
  more:uV m'.b l' k' (ps ++ [e])
  mV:Eff (adm k k'.bh) m.b m'.b
  top:m'.b.length≤m.b.length+2100
  same:m'.c=m.c∧m'.au=m.au∧m'.main=m.main∧m'.depth=m.depth∧∀i,i≠6→i≠7→i≠18→m'.dG i=m.dG i
theorem TH {b:Ly} {l r:List Ob} {e n:Nat} {k:bT} (hO:gu b 272 r e) (hm:∀o∈l,o∈r) {c:Ly} (hs:sF c l n k):∀o∈r,o.kind=6→k.cC+64≤o.cC∨o.cC+sA o.size≤k.cC:=fun o ho h6=>by
  have hu:=fR (64+k.dD.length)
  rcases hO.sep ho (hm _ hs.ob)with rfl|hh|hh
  · simp at h6
  · exact .inr hh
  · simp only at hh;exact .inl Jy
theorem JF {b c:Ly} {l r:List Ob} {n:Nat} {k:bT} (hs:sF c l n k) (hm:∀o∈l,o∈r) (hO:gu b 272 r b.length) {q:Nat} (v:Nat) (hq:q=k.cC+40∨q=k.cC+56):gu (jH b q v) 272 r (jH b q v).length:=by
  have C:=fR (64+k.dD.length)
  rw[jc]
  exact hO.mV (Eff.put b q v) (Nat.le_refl _) fun o B a A=>by subst A;exact hO.body (.inr ⟨_,hm _ hs.ob,by simp only;omega,by simp only;omega⟩) B
theorem XE {m:Mk} {l:List Ob} {i e n:Nat} {k:bT} {ps:List Nat} (hO:gu m.b 272 l m.b.length) (hk:m.ai[i]? = some k) (hs:sF m.b l n k) (hd:uV m.b l k ps) (hb:m.b.length<900000) (he:e<18446744073709551616) (h0:k.ck=0) :
    ∃l' k',adn m (lD e i m) l l' i e k k' ps:=by
  have E:m.ai.getD i known0=k:=by simp[List.getD,hk]
  have V:=(hO.mem hs.ob).le
  have Z:=fR (64+k.dD.length)
  simp only at V
  have J:=hd.cnt
  unfold lD
  simp only[E]
  rw[if_pos h0]
  have F:ps=[]:=List.eq_nil_of_length_eq_zero Jy
  subst F
  have R:=JF hs (fun _ h=>h) hO e (q:=k.cC+40) (.inl rfl)
  have S:=JF hs (fun _ h=>h) R 1 (q:=k.cC+56) (.inr rfl)
  have I:Eff (fun a=>a=k.cC+40∨a=k.cC+56) m.b (jH (jH m.b (k.cC+40) e) (k.cC+56) 1):=((Eff.put _ _ _).mono fun a A=>.inl A).trans ((Eff.put _ _ _).mono fun a A=>.inr A)
  have U:(jH (jH m.b (k.cC+40) e) (k.cC+56) 1).length=m.b.length:=by rw[jc,jc]
  have D:((m.put (k.cC+40) e).put (k.cC+56) 1).b=jH (jH m.b (k.cC+40) e) (k.cC+56) 1:=rfl
  have C:=lJ m (k.cC+40) e
  have Y:=lJ (m.put (k.cC+40) e) (k.cC+56) 1
  generalize (m.put (k.cC+40) e).put (k.cC+56) 1=M at *
  obtain⟨L,K,N,O,Q,P⟩:=Y
  rw[C.1]at L;rw[C.2.1]at K;rw[C.2.2.1]at N;rw[C.2.2.2.1]at O;rw[C.2.2.2.2.1]at Q;rw[C.2.2.2.2.2]at P
  clear C
  generalize hB:jH (jH m.b (k.cC+40) e) (k.cC+56) 1=B at *
  subst D
  have H:fJ M.b (k.cC+56)=1:=by rw[← hB];exact mW (by rw[jc];omega) Kq
  have G:fJ M.b (k.cC+40)=e:=by rw[← hB];exact(pZ Jy).trans (mW Jy he)
  clear hB
  refine⟨l,{k with ck:=1},S,⟨[],(List.append_nil l).symm,by simp⟩,?_,⟨rfl,rfl,rfl⟩,.inl rfl,⟨rfl,H,G,?_⟩,I.mono fun a A=>A.elim .inl fun h=>.inr (.inl h),?_,⟨L,N,O,P,fun j _ _ _=>?_⟩⟩
  · show M.ai.set i _=_
    rw[K]
  · refine hd.chain.mV hO (zq hs) (Nat.le_refl _) I (fun _ h=>h) (fun a A=>by omega) (fun j x X a A=>?_)
    exact hd.chain.sI hO (fun _ h=>h) X fun o W T=>by have:=TH hO (fun _ h=>h) hs o W T;omega
  · show M.b.length≤_
    omega
  show M.h.n.getD j 0=_
  rw[Q];rfl
theorem XD {m:Mk} {l:List Ob} {i e n:Nat} {k:bT} {ps:List Nat} (hO:gu m.b 272 l m.b.length) (hk:m.ai[i]? = some k) (hs:sF m.b l n k) (hd:uV m.b l k ps) (hb:m.b.length<900000) (he:e<18446744073709551616) (hp:ps.length<1000000) (h0:¬k.ck=0) :
    ∃l' k',adn m (lD e i m) l l' i e k k' ps:=by
  have H:m.ai.getD i known0=k:=by simp[List.getD,hk]
  have P:=(hO.mem hs.ob).le
  have U:=fR (64+k.dD.length)
  simp only at P
  have A:=hd.cnt
  unfold lD
  simp only[H]
  rw[if_neg h0]
  have N:k.ck-1=(ps.drop 1).length:=by simp;omega
  rw[N]
  obtain⟨l',L⟩:=TX (x:=e) hO hd.chain (zq hs) hb he
  have O:=L.mV.len
  have B:∀o∈l,o∈l':=by
    rcases L.sub with h|h
    · rw[h];exact fun _ h=>h
    · rw[h];exact fun o E=>List.mem_append_left _ E
  have R:=PD m.b (k.cC+40)
  generalize m.link k.bh (ps.drop 1).length (k.cC+48) e=r at *
  obtain⟨a,t,F⟩:=r
  simp only at L O ⊢
  have J:=JF hs B L.gy (k.ck+1) (q:=k.cC+56) (.inr rfl)
  have I:Eff (fun a=>a=k.cC+56) F.b (jH F.b (k.cC+56) (k.ck+1)):=Eff.put _ _ _
  have Q:⟨k.cC,1,64+k.dD.length⟩∈l':=B _ hs.ob
  have D:Src l' (k.cC+48):=(zq hs).mono B
  have hsep':=TH L.gy B hs
  have G:fJ F.b (k.cC+40)=fJ m.b (k.cC+40):=L.mV.fJ Jy fun x C=>by
    rcases C with rfl|⟨j,c,K,S,T⟩
    · omega
    · have:=hsep' _ (L.chain.ob j c K) rfl
      rw[iW]at this;simp only at this;omega
  refine⟨l',{k with bh:=a,ck:=k.ck+1},J,?_,?_,⟨rfl,rfl,rfl⟩,L.arr,⟨?_,?_,?_,?_⟩,?_,?_,⟨L.same.1,L.same.2.2.1,L.same.2.2.2.1,L.same.2.2.2.2.1,L.same.2.2.2.2.2⟩⟩
  · rcases L.sub with h|h
    · exact⟨[],by simp[h],by simp⟩
    exact⟨_,h,by intro o E;simp at E;subst E;exact⟨rfl,Nat.le_refl _⟩⟩
  · show F.ai.set i _=_
    rw[L.same.2.1]
  · show k.ck+1=_
    simp;omega
  · refine(mW Jy Jy).trans ?_
    simp;omega
  · show fJ (jH F.b (k.cC+56) (k.ck+1)) (k.cC+40)=_
    rw[pZ Jy,G,hd.ent]
    cases ps with
    | nil=>simp at A;exact absurd A h0
    | cons y r=>rfl
  · have:(ps ++ [e]).drop 1=ps.drop 1 ++ [e]:=by
      cases ps with
      | nil=>simp at A;exact absurd A h0
      | cons y r=>rfl
    rw[this]
    refine L.chain.mV L.gy D (Nat.le_refl _) I (fun _ h=>h) (fun x C=>by omega) (fun j x C y V=>?_)
    exact L.chain.sI L.gy (fun _ h=>h) C fun o E M=>by have:=hsep' o E M;omega
  · exact(L.mV.mono fun x C=>.inr (.inr C)).trans (I.mono fun x C=>.inr (.inl C))
  show(jH F.b (k.cC+56) (k.ck+1)).length≤_
  rw[jc];exact L.top
theorem aaS {m:Mk} {l:List Ob} {i e n:Nat} {k:bT} {ps:List Nat} (hO:gu m.b 272 l m.b.length) (hk:m.ai[i]? = some k) (hs:sF m.b l n k) (hd:uV m.b l k ps) (hb:m.b.length<900000) (he:e<18446744073709551616) (hp:ps.length<1000000) :
    ∃l' k',adn m (lD e i m) l l' i e k k' ps:=by
  by_cases h0:k.ck=0
  · exact XE hO hk hs hd hb he h0
  exact XD hO hk hs hd hb he hp h0
end Go.Wk
