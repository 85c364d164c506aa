/- Part 2 of what the walk of a law stands on: Types, RefP, HashN, MakerP, MakerQ, FldR, SeqP, Loops2, MakerR, MakerS, Anys, FieldQ, FldS, CompR, HeadR, HeadQ, ImgP, MakeP, ViewP, AtP, AtQ, AtR, ImT1, ImT2, ImT3, ImT4, ImT5, ImT6, ImT7. No statement is proved here. -/
import Derived.Test.YtbmmkbejcnalcaaGreatRAI1
set_option linter.unusedVariables false
set_option linter.unusedSimpArgs false
namespace Go.Wk
open Go Go.RowKit
def oL (l:List Nat):List Value:=[.int .u64 ((l.getD 0 0:Nat):Int),.int .u64 ((l.getD 1 0:Nat):Int),.int .u64 ((l.getD 2 0:Nat):Int),.int .u64 ((l.getD 3 0:Nat):Int),.int .u64 ((l.getD 4 0:Nat):Int),.int .u64 ((l.getD 5 0:Nat):Int),.int .u64 ((l.getD 6 0:Nat):Int),.int .u64 ((l.getD 7 0:Nat):Int),.int .u64 ((l.getD 8 0:Nat):Int),.int .u64 ((l.getD 9 0:Nat):Int),.int .u64 ((l.getD 10 0:Nat):Int),.int .u64 ((l.getD 11 0:Nat):Int),.int .u64 ((l.getD 12 0:Nat):Int),.int .u64 ((l.getD 13 0:Nat):Int),.int .u64 ((l.getD 14 0:Nat):Int),.int .u64 ((l.getD 15 0:Nat):Int),.int .u64 ((l.getD 16 0:Nat):Int),.int .u64 ((l.getD 17 0:Nat):Int),.int .u64 ((l.getD 18 0:Nat):Int),.int .u64 ((l.getD 19 0:Nat):Int)]
theorem rH {l:List Nat} (h:l.length=20):oL l=l.map fun x=>.int .u64 (x:Int):=by
  apply List.ext_getElem
  · simp[oL,h]
  intro i C E
  simp[oL]at C
  simp only[List.getElem_map]
  have B:i<l.length:=by omega
  rcases Nat.lt_or_ge i 7 with D|D
  · rcases(show i=0∨i=1∨i=2∨i=3∨i=4∨i=5∨i=6 by omega)with rfl|rfl|rfl|rfl|rfl|rfl|rfl <;> simp[oL,List.getD,B]
  skip
  rcases Nat.lt_or_ge i 14 with A|A
  · rcases(show i=7∨i=8∨i=9∨i=10∨i=11∨i=12∨i=13 by omega)with rfl|rfl|rfl|rfl|rfl|rfl|rfl <;> simp[oL,List.getD,B]
  skip
  rcases(show i=14∨i=15∨i=16∨i=17∨i=18∨i=19 by omega)with rfl|rfl|rfl|rfl|rfl|rfl <;> simp[oL,List.getD,B]
theorem CV {l:List Nat} {k v:Nat} (h:l.length=20) (hk:k<20):oL (l.set k v)=(oL l).set k (.int .u64 (v:Int)):=by
  rw[rH h,rH (by simpa using h),List.map_set]
def aeX:Dt (List Nat) where
  n:=20
  cC:=by decide
  oH _ _ cs x:=cs=oL x∧x.length=20∧∀y∈x,y<18446744073709551616
  len:=by rintro _ _ _ _ ⟨rfl,_⟩;rfl
  one:=by
    rintro _ _ _ _ ⟨rfl,h,_⟩ u hu
    rw[rH h]at hu
    obtain⟨x,_,rfl⟩:=List.mem_map.1 hu
    rfl
  md:=fun h _ _=>h
  sub:=fun h _=>h
def oM (l:List Nat):List Value:=[.int .u64 ((l.getD 0 0:Nat):Int),.int .u64 ((l.getD 1 0:Nat):Int),.int .u64 ((l.getD 2 0:Nat):Int),.int .u64 ((l.getD 3 0:Nat):Int),.int .u64 ((l.getD 4 0:Nat):Int),.int .u64 ((l.getD 5 0:Nat):Int),.int .u64 ((l.getD 6 0:Nat):Int),.int .u64 ((l.getD 7 0:Nat):Int),.int .u64 ((l.getD 8 0:Nat):Int),.int .u64 ((l.getD 9 0:Nat):Int),.int .u64 ((l.getD 10 0:Nat):Int),.int .u64 ((l.getD 11 0:Nat):Int),.int .u64 ((l.getD 12 0:Nat):Int),.int .u64 ((l.getD 13 0:Nat):Int),.int .u64 ((l.getD 14 0:Nat):Int),.int .u64 ((l.getD 15 0:Nat):Int),.int .u64 ((l.getD 16 0:Nat):Int),.int .u64 ((l.getD 17 0:Nat):Int),.int .u64 ((l.getD 18 0:Nat):Int),.int .u64 ((l.getD 19 0:Nat):Int),.int .u64 ((l.getD 20 0:Nat):Int)]
theorem vr {l:List Nat} (h:l.length=21):oM l=l.map fun x=>.int .u64 (x:Int):=by
  apply List.ext_getElem
  · simp[oM,h]
  intro i C E
  simp[oM]at C
  simp only[List.getElem_map]
  have B:i<l.length:=by omega
  rcases Nat.lt_or_ge i 7 with D|D
  · rcases(show i=0∨i=1∨i=2∨i=3∨i=4∨i=5∨i=6 by omega)with rfl|rfl|rfl|rfl|rfl|rfl|rfl <;> simp[oM,List.getD,B]
  skip
  rcases Nat.lt_or_ge i 14 with A|A
  · rcases(show i=7∨i=8∨i=9∨i=10∨i=11∨i=12∨i=13 by omega)with rfl|rfl|rfl|rfl|rfl|rfl|rfl <;> simp[oM,List.getD,B]
  skip
  rcases(show i=14∨i=15∨i=16∨i=17∨i=18∨i=19∨i=20 by omega)with rfl|rfl|rfl|rfl|rfl|rfl|rfl <;> simp[oM,List.getD,B]
theorem RB {l:List Nat} {k v:Nat} (h:l.length=21) (hk:k<21):oM (l.set k v)=(oM l).set k (.int .u64 (v:Int)):=by
  rw[vr h,vr (by simpa using h),List.map_set]
def aeY:Dt (List Nat) where
  n:=21
  cC:=by decide
  oH _ _ cs x:=cs=oM x∧x.length=21∧∀y∈x,y<18446744073709551616
  len:=by rintro _ _ _ _ ⟨rfl,_⟩;rfl
  one:=by
    rintro _ _ _ _ ⟨rfl,h,_⟩ u hu
    rw[vr h]at hu
    obtain⟨x,_,rfl⟩:=List.mem_map.1 hu
    rfl
  md:=fun h _ _=>h
  sub:=fun h _=>h
theorem di {a b:List Value} (h:a.all (fun u=>u.oneCell')=true) (h2:b.all (fun u=>u.oneCell')=true):(a ++ b).all (fun u=>u.oneCell')=true:=by rw[List.all_append,h,h2];rfl
theorem qD {v:Value} (h:v.oneCell'=true):[v].all (fun u=>u.oneCell')=true:=by simp[h]
theorem jX (l:Ly):(gC l).all (fun u=>u.oneCell')=true:=List.all_eq_true.2 (wK l)
theorem iQ (n:Nat):(List.replicate n 0).length=n∧∀y∈List.replicate n 0,y<18446744073709551616:=⟨by simp,by simp⟩
theorem ou {l:List Nat} {n k v:Nat} (h:l.length=n∧∀y∈l,y<18446744073709551616) (hv:v<18446744073709551616):(l.set k v).length=n∧∀y∈l.set k v,y<18446744073709551616 :=
  ⟨by simpa using h.1,fun y hy=>(List.mem_or_eq_of_mem_set hy).elim (h.2 y) (fun e=>e ▸ hv)⟩
theorem eP {l:List Nat} {n:Nat} (h:l.length=n∧∀y∈l,y<18446744073709551616) (k:Nat):l.getD k 0<18446744073709551616:=by
  rw[List.getD_eq_getElem?_getD]
  cases hk:l[k]? with
  | none=>simp
  | some y=>simpa using h.2 y (List.mem_of_getElem? hk)
structure Pr where
  name:List UInt8
  value:List UInt8
def Pr.cells (x:Pr):List Value :=
  [(str x.name)] ++ ([(str x.value)])
def lV:Dt Pr:=sF (fun x=>(x.name,x.value)) (gg TG TG)
theorem iN {w:World} {Q:Nat→Prop} {cs:List Value} {x:Pr} (h:lV.oH w Q cs x):∃(_:True),cs=x.cells:=by
  obtain⟨_,_,rfl,⟨rfl,_⟩,⟨rfl,_⟩⟩:=h
  exact⟨trivial,q⟩
theorem mN {w:World} {Q:Nat→Prop} {x:Pr}:lV.oH w Q (x.cells) x :=
  ⟨_,_,q,⟨q,tV⟩,⟨q,tV⟩⟩
theorem Pr.one {x:Pr}:(x.cells).all (fun u=>u.oneCell')=true:=(di q q)
structure Rec where
  seq:Nat
  cH:Nat
  mono:Nat
  bZ:List UInt8
  ak:List Pr
def Rec.cells (x:Rec) (v0:Value):List Value :=
  [(.int .u64 x.seq)] ++ ([(.int .u64 x.cH)] ++ ([(.int .u64 x.mono)] ++ ((gC x.bZ) ++ ([v0]))))
def rW:Dt Rec:=sF (fun x=>(x.seq,x.cH,x.mono,x.bZ,x.ak)) (gg ep (gg ep (gg ep (gg tId (EN lV)))))
def Rec.ok (x:Rec):Prop:=x.seq<18446744073709551616∧x.cH<18446744073709551616∧x.mono<18446744073709551616∧x.bZ.length=16
theorem zV {w:World} {Q:Nat→Prop} {cs:List Value} {x:Rec} (h:rW.oH w Q cs x):∃v0,cs=x.cells v0∧Rec.ok x∧Ls lV w Q v0 x.ak:=by
  obtain⟨_,_,rfl,⟨rfl,A⟩,⟨_,_,rfl,⟨rfl,B⟩,⟨_,_,rfl,⟨rfl,C⟩,⟨_,_,rfl,⟨rfl,D⟩,⟨v0,rfl,E⟩⟩⟩⟩⟩:=h
  exact⟨v0,q,⟨A,B,C,D⟩,E⟩
theorem LC {w:World} {Q:Nat→Prop} {x:Rec} {v0:Value} (c0:Rec.ok x) (c1:Ls lV w Q v0 x.ak):rW.oH w Q (x.cells v0) x :=
  ⟨_,_,q,⟨q,c0.1⟩,⟨_,_,q,⟨q,c0.2.1⟩,⟨_,_,q,⟨q,c0.2.2.1⟩,⟨_,_,q,⟨q,c0.2.2.2⟩,⟨_,q,c1⟩⟩⟩⟩⟩
theorem Rec.one {x:Rec} {v0:Value} (h0:v0.oneCell'=true):(x.cells v0).all (fun u=>u.oneCell')=true:=(di q (di q (di q (di (jX _) (qD h0)))))
structure Frame where
  kind:Nat
  flags:Nat
  size:Nat
structure gy where
  dH:Nat
  cP:Nat
  dR:Nat
  entry:Nat
  array:Nat
  cr:Nat
  aR:List UInt8
def gy.cells (x:gy) (v0:Value):List Value :=
  [(.int .u64 x.dH)] ++ ([(.int .u64 x.cP)] ++ ([(.int .u64 x.dR)] ++ ([(.int .u64 x.entry)] ++ ([(.int .u64 x.array)] ++ ([(.int .u64 x.cr)] ++ ([v0]))))))
def gy.ok (x:gy):Prop:=x.dH<18446744073709551616∧x.cP<18446744073709551616∧x.dR<18446744073709551616∧x.entry<18446744073709551616∧x.array<18446744073709551616∧x.cr<18446744073709551616
theorem gy.one {x:gy} {v0:Value} (h0:v0.oneCell'=true):(x.cells v0).all (fun u=>u.oneCell')=true:=(di q (di q (di q (di q (di q (di q (qD h0)))))))
structure TN where
  dH:Nat
  cP:Nat
  dat:Nat
  aR:List UInt8
def TN.cells (x:TN) (v0:Value):List Value :=
  [(.int .u64 x.dH)] ++ ([(.int .u64 x.cP)] ++ ([(.int .u64 x.dat)] ++ ([v0])))
def TN.ok (x:TN):Prop:=x.dH<18446744073709551616∧x.cP<18446744073709551616∧x.dat<18446744073709551616
structure jO where
  cC:Nat
  dH:Nat
def jO.cells (x:jO):List Value :=
  [(.int .u64 x.cC)] ++ ([(.int .u64 x.dH)])
def tK:Dt jO:=sF (fun x=>(x.cC,x.dH)) (gg ep ep)
def jO.ok (x:jO):Prop:=x.cC<18446744073709551616∧x.dH<18446744073709551616
theorem p9 {w:World} {Q:Nat→Prop} {cs:List Value} {x:jO} (h:tK.oH w Q cs x):∃(_:True),cs=x.cells∧jO.ok x:=by
  obtain⟨_,_,rfl,⟨rfl,A⟩,⟨rfl,B⟩⟩:=h
  exact⟨trivial,q,⟨A,B⟩⟩
theorem LA {w:World} {Q:Nat→Prop} {x:jO} (c0:jO.ok x):tK.oH w Q (x.cells) x :=
  ⟨_,_,q,⟨q,c0.1⟩,⟨q,c0.2⟩⟩
theorem jO.one {x:jO}:(x.cells).all (fun u=>u.oneCell')=true:=(di q q)
structure eA where
  seq:Nat
  cH:Nat
  mono:Nat
  bZ:List UInt8
  xor:Nat
  ay:List jO
def eA.cells (x:eA) (v0:Value):List Value :=
  [(.int .u64 x.seq)] ++ ([(.int .u64 x.cH)] ++ ([(.int .u64 x.mono)] ++ ((gC x.bZ) ++ ([(.int .u64 x.xor)] ++ ([v0])))))
def eA.ok (x:eA):Prop:=x.seq<18446744073709551616∧x.cH<18446744073709551616∧x.mono<18446744073709551616∧x.bZ.length=16∧x.xor<18446744073709551616
theorem eA.one {x:eA} {v0:Value} (h0:v0.oneCell'=true):(x.cells v0).all (fun u=>u.oneCell')=true:=(di q (di q (di q (di (jX _) (di q (qD h0))))))
structure fo where
  next:Nat
  ay:List Nat
def fo.cells (x:fo) (v0:Value):List Value :=
  [(.int .u64 x.next)] ++ ([v0])
def fo.ok (x:fo):Prop:=x.next<18446744073709551616
theorem fo.one {x:fo} {v0:Value} (h0:v0.oneCell'=true):(x.cells v0).all (fun u=>u.oneCell')=true:=(di q (qD h0))
structure xg where
  first:Nat
  tail:Nat
def xg.cells (x:xg):List Value :=
  [(.int .u64 x.first)] ++ ([(.int .u64 x.tail)])
def aad:Dt xg:=sF (fun x=>(x.first,x.tail)) (gg ep ep)
def xg.ok (x:xg):Prop:=x.first<18446744073709551616∧x.tail<18446744073709551616
theorem WJ {w:World} {Q:Nat→Prop} {cs:List Value} {x:xg} (h:aad.oH w Q cs x):∃(_:True),cs=x.cells∧xg.ok x:=by
  obtain⟨_,_,rfl,⟨rfl,A⟩,⟨rfl,B⟩⟩:=h
  exact⟨trivial,q,⟨A,B⟩⟩
theorem WI {w:World} {Q:Nat→Prop} {x:xg} (c0:xg.ok x):aad.oH w Q (x.cells) x :=
  ⟨_,_,q,⟨q,c0.1⟩,⟨q,c0.2⟩⟩
structure cg where
  eU:Nat
  bX:Nat
  state:Nat
  dc:List UInt8
  dW:List UInt8
  bZ:List UInt8
  seq:List UInt8
  n:List Nat
  cT:Nat
  cZ:Nat
  dw:Nat
def cg.cells (x:cg):List Value :=
  [(.int .u32 x.eU)] ++ ([(.int .u32 x.bX)] ++ ([(.int .i64 x.state)] ++ ((gC x.dc) ++ ((gC x.dW) ++ ((gC x.bZ) ++ ((gC x.seq) ++ ((oL x.n) ++ ([(.int .u32 x.cT)] ++ ([(.int .u32 x.cZ)] ++ ([(.int .u64 x.dw)]))))))))))
def LB:Dt cg:=sF (fun x=>(x.eU,x.bX,x.state,x.dc,x.dW,x.bZ,x.seq,x.n,x.cT,x.cZ,x.dw)) (gg tU32 (gg tU32 (gg jB (gg tId (gg tId (gg tId (gg tId (gg (aeX) (gg tU32 (gg tU32 ep))))))))))
def cg.ok (x:cg):Prop:=x.eU<4294967296∧x.bX<4294967296∧x.state<9223372036854775808∧x.dc.length=16∧x.dW.length=16∧x.bZ.length=16∧x.seq.length=16∧(x.n.length=20∧∀y∈x.n,y<18446744073709551616)∧x.cT<4294967296∧x.cZ<4294967296∧x.dw<18446744073709551616
theorem IL {w:World} {Q:Nat→Prop} {cs:List Value} {x:cg} (h:LB.oH w Q cs x):∃(_:True),cs=x.cells∧cg.ok x:=by
  obtain⟨_,_,rfl,⟨rfl,B⟩,⟨_,_,rfl,⟨rfl,C⟩,⟨_,_,rfl,⟨rfl,D⟩,⟨_,_,rfl,⟨rfl,E⟩,⟨_,_,rfl,⟨rfl,F⟩,⟨_,_,rfl,⟨rfl,G⟩,⟨_,_,rfl,⟨rfl,H⟩,⟨_,_,rfl,⟨rfl,I⟩,⟨_,_,rfl,⟨rfl,J⟩,⟨_,_,rfl,⟨rfl,K⟩,⟨rfl,A⟩⟩⟩⟩⟩⟩⟩⟩⟩⟩⟩:=h
  exact⟨trivial,q,⟨B,C,D,E,F,G,H,I,J,K,A⟩⟩
theorem IK {w:World} {Q:Nat→Prop} {x:cg} (c0:cg.ok x):LB.oH w Q (x.cells) x :=
  ⟨_,_,q,⟨q,c0.1⟩,⟨_,_,q,⟨q,c0.2.1⟩,⟨_,_,q,⟨q,c0.2.2.1⟩,⟨_,_,q,⟨q,c0.2.2.2.1⟩,⟨_,_,q,⟨q,c0.2.2.2.2.1⟩,⟨_,_,q,⟨q,c0.2.2.2.2.2.1⟩,⟨_,_,q,⟨q,c0.2.2.2.2.2.2.1⟩,⟨_,_,q,⟨q,c0.2.2.2.2.2.2.2.1⟩,⟨_,_,q,⟨q,c0.2.2.2.2.2.2.2.2.1⟩,⟨_,_,q,⟨q,c0.2.2.2.2.2.2.2.2.2.1⟩,⟨q,c0.2.2.2.2.2.2.2.2.2.2⟩⟩⟩⟩⟩⟩⟩⟩⟩⟩⟩
theorem cg.one {x:cg}:(x.cells).all (fun u=>u.oneCell')=true:=(di q (di q (di q (di (jX _) (di (jX _) (di (jX _) (di (jX _) (di q (di q (di q q))))))))))
structure cA where
  eU:Nat
  bX:Nat
  state:Nat
  dc:List UInt8
  dW:List UInt8
  bZ:List UInt8
  seq:List UInt8
  n:List Nat
  cT:Nat
  cZ:Nat
  dw:Nat
def cA.cells (x:cA):List Value :=
  [(.int .u32 x.eU)] ++ ([(.int .u32 x.bX)] ++ ([(.int .i64 x.state)] ++ ((gC x.dc) ++ ((gC x.dW) ++ ((gC x.bZ) ++ ((gC x.seq) ++ ((oM x.n) ++ ([(.int .u32 x.cT)] ++ ([(.int .u32 x.cZ)] ++ ([(.int .u64 x.dw)]))))))))))
def TF:Dt cA:=sF (fun x=>(x.eU,x.bX,x.state,x.dc,x.dW,x.bZ,x.seq,x.n,x.cT,x.cZ,x.dw)) (gg tU32 (gg tU32 (gg jB (gg tId (gg tId (gg tId (gg tId (gg (aeY) (gg tU32 (gg tU32 ep))))))))))
def cA.ok (x:cA):Prop:=x.eU<4294967296∧x.bX<4294967296∧x.state<9223372036854775808∧x.dc.length=16∧x.dW.length=16∧x.bZ.length=16∧x.seq.length=16∧(x.n.length=21∧∀y∈x.n,y<18446744073709551616)∧x.cT<4294967296∧x.cZ<4294967296∧x.dw<18446744073709551616
theorem aac {w:World} {Q:Nat→Prop} {cs:List Value} {x:cA} (h:TF.oH w Q cs x):∃(_:True),cs=x.cells∧cA.ok x:=by
  obtain⟨_,_,rfl,⟨rfl,B⟩,⟨_,_,rfl,⟨rfl,C⟩,⟨_,_,rfl,⟨rfl,D⟩,⟨_,_,rfl,⟨rfl,E⟩,⟨_,_,rfl,⟨rfl,F⟩,⟨_,_,rfl,⟨rfl,G⟩,⟨_,_,rfl,⟨rfl,H⟩,⟨_,_,rfl,⟨rfl,I⟩,⟨_,_,rfl,⟨rfl,J⟩,⟨_,_,rfl,⟨rfl,K⟩,⟨rfl,A⟩⟩⟩⟩⟩⟩⟩⟩⟩⟩⟩:=h
  exact⟨trivial,q,⟨B,C,D,E,F,G,H,I,J,K,A⟩⟩
theorem ZY {w:World} {Q:Nat→Prop} {x:cA} (c0:cA.ok x):TF.oH w Q (x.cells) x :=
  ⟨_,_,q,⟨q,c0.1⟩,⟨_,_,q,⟨q,c0.2.1⟩,⟨_,_,q,⟨q,c0.2.2.1⟩,⟨_,_,q,⟨q,c0.2.2.2.1⟩,⟨_,_,q,⟨q,c0.2.2.2.2.1⟩,⟨_,_,q,⟨q,c0.2.2.2.2.2.1⟩,⟨_,_,q,⟨q,c0.2.2.2.2.2.2.1⟩,⟨_,_,q,⟨q,c0.2.2.2.2.2.2.2.1⟩,⟨_,_,q,⟨q,c0.2.2.2.2.2.2.2.2.1⟩,⟨_,_,q,⟨q,c0.2.2.2.2.2.2.2.2.2.1⟩,⟨q,c0.2.2.2.2.2.2.2.2.2.2⟩⟩⟩⟩⟩⟩⟩⟩⟩⟩⟩
theorem cA.one {x:cA}:(x.cells).all (fun u=>u.oneCell')=true:=(di q (di q (di q (di (jX _) (di (jX _) (di (jX _) (di (jX _) (di q (di q (di q q))))))))))
structure fe where
  b:List UInt8
  h:cA
def fe.cells (x:fe) (v0:Value):List Value :=
  [v0] ++ ((cA.cells x.h))
def ij:Dt fe:=sF (fun x=>(x.b,x.h)) (gg (EN eT) TF)
def fe.ok (x:fe):Prop:=cA.ok x.h
theorem iW {w:World} {Q:Nat→Prop} {cs:List Value} {x:fe} (h:ij.oH w Q cs x):∃v0,cs=x.cells v0∧fe.ok x∧Ls eT w Q v0 x.b:=by
  obtain⟨_,_,rfl,⟨v0,rfl,B⟩,C⟩:=h
  obtain⟨_,rfl,A⟩:=aac C
  exact⟨v0,q,A,B⟩
theorem gJ {w:World} {Q:Nat→Prop} {x:fe} {v0:Value} (c0:fe.ok x) (c1:Ls eT w Q v0 x.b):ij.oH w Q (x.cells v0) x :=
  ⟨_,_,q,⟨_,q,c1⟩,(ZY c0)⟩
structure gK where
  h:cg
  depth:Nat
  b:List UInt8
def gK.cells (x:gK) (v0:Value):List Value :=
  (cg.cells x.h) ++ ([(.int .u64 x.depth)] ++ ([v0]))
def jZ:Dt gK:=sF (fun x=>(x.h,x.depth,x.b)) (gg LB (gg ep (EN eT)))
def gK.ok (x:gK):Prop:=cg.ok x.h∧x.depth<18446744073709551616
theorem kg {w:World} {Q:Nat→Prop} {cs:List Value} {x:gK} (h:jZ.oH w Q cs x):∃v0,cs=x.cells v0∧gK.ok x∧Ls eT w Q v0 x.b:=by
  obtain⟨_,_,rfl,B,⟨_,_,rfl,⟨rfl,C⟩,⟨v0,rfl,D⟩⟩⟩:=h
  obtain⟨_,rfl,A⟩:=IL B
  exact⟨v0,q,⟨A,C⟩,D⟩
theorem iX {w:World} {Q:Nat→Prop} {x:gK} {v0:Value} (c0:gK.ok x) (c1:Ls eT w Q v0 x.b):jZ.oH w Q (x.cells v0) x :=
  ⟨_,_,q,(IK c0.1),⟨_,_,q,⟨q,c0.2⟩,⟨_,q,c1⟩⟩⟩
structure nT where
  dc:List UInt8
  dW:List UInt8
  seq:List UInt8
  aT:Nat
  aS:Nat
  cJ:Nat
  dU:Bool
def nT.cells (x:nT):List Value :=
  (gC x.dc) ++ ((gC x.dW) ++ ((gC x.seq) ++ ([(.int .i64 x.aT)] ++ ([(.int .i64 x.aS)] ++ ([(.int .i64 x.cJ)] ++ ([(.bool x.dU)]))))))
def agK:Dt nT:=sF (fun x=>(x.dc,x.dW,x.seq,x.aT,x.aS,x.cJ,x.dU)) (gg tId (gg tId (gg tId (gg jB (gg jB (gg jB aiB))))))
def nT.ok (x:nT):Prop:=x.dc.length=16∧x.dW.length=16∧x.seq.length=16∧x.aT<9223372036854775808∧x.aS<9223372036854775808∧x.cJ<9223372036854775808
theorem aeW {w:World} {Q:Nat→Prop} {cs:List Value} {x:nT} (h:agK.oH w Q cs x):∃(_:True),cs=x.cells∧nT.ok x:=by
  obtain⟨_,_,rfl,⟨rfl,A⟩,⟨_,_,rfl,⟨rfl,B⟩,⟨_,_,rfl,⟨rfl,C⟩,⟨_,_,rfl,⟨rfl,D⟩,⟨_,_,rfl,⟨rfl,E⟩,⟨_,_,rfl,⟨rfl,F⟩,⟨rfl,_⟩⟩⟩⟩⟩⟩⟩:=h
  exact⟨trivial,q,⟨A,B,C,D,E,F⟩⟩
theorem aeV {w:World} {Q:Nat→Prop} {x:nT} (c0:nT.ok x):agK.oH w Q (x.cells) x :=
  ⟨_,_,q,⟨q,c0.1⟩,⟨_,_,q,⟨q,c0.2.1⟩,⟨_,_,q,⟨q,c0.2.2.1⟩,⟨_,_,q,⟨q,c0.2.2.2.1⟩,⟨_,_,q,⟨q,c0.2.2.2.2.1⟩,⟨_,_,q,⟨q,c0.2.2.2.2.2⟩,⟨q,tV⟩⟩⟩⟩⟩⟩⟩
theorem nT.one {x:nT}:(x.cells).all (fun u=>u.oneCell')=true:=(di (jX _) (di (jX _) (di (jX _) (di q (di q (di q q))))))
structure bT where
  dO:List UInt8
  cC:Nat
  dS:Nat
  cr:Nat
  b9:List Nat
def bT.cells (x:bT) (v0:Value):List Value :=
  [(str x.dO)] ++ ([(.int .u64 x.cC)] ++ ([(.int .i64 x.dS)] ++ ([(.int .i64 x.cr)] ++ ([v0]))))
def dP:Dt bT:=sF (fun x=>(x.dO,x.cC,x.dS,x.cr,x.b9)) (gg TG (gg ep (gg jB (gg jB (EN ep)))))
def bT.ok (x:bT):Prop:=x.cC<18446744073709551616∧x.dS<9223372036854775808∧x.cr<9223372036854775808
theorem jo {w:World} {Q:Nat→Prop} {cs:List Value} {x:bT} (h:dP.oH w Q cs x):∃v0,cs=x.cells v0∧bT.ok x∧Ls ep w Q v0 x.b9:=by
  obtain⟨_,_,rfl,⟨rfl,_⟩,⟨_,_,rfl,⟨rfl,A⟩,⟨_,_,rfl,⟨rfl,B⟩,⟨_,_,rfl,⟨rfl,C⟩,⟨v0,rfl,D⟩⟩⟩⟩⟩:=h
  exact⟨v0,q,⟨A,B,C⟩,D⟩
theorem r8 {w:World} {Q:Nat→Prop} {x:bT} {v0:Value} (c0:bT.ok x) (c1:Ls ep w Q v0 x.b9):dP.oH w Q (x.cells v0) x :=
  ⟨_,_,q,⟨q,tV⟩,⟨_,_,q,⟨q,c0.1⟩,⟨_,_,q,⟨q,c0.2.1⟩,⟨_,_,q,⟨q,c0.2.2⟩,⟨_,q,c1⟩⟩⟩⟩⟩
theorem bT.one {x:bT} {v0:Value} (h0:v0.oneCell'=true):(x.cells v0).all (fun u=>u.oneCell')=true:=(di q (di q (di q (di q (qD h0)))))
structure Mk where
  c:nT
  h:cg
  depth:Nat
  b:List UInt8
  aj:List bT
  ak:List bT
  main:List Nat
def Mk.cells (x:Mk) (v0:Value) (v1:Value) (v2:Value) (v3:Value):List Value :=
  (nT.cells x.c) ++ ((cg.cells x.h) ++ ([(.int .u64 x.depth)] ++ ([v0] ++ ([v1] ++ ([v2] ++ ([v3]))))))
def tMk:Dt Mk:=sF (fun x=>(x.c,x.h,x.depth,x.b,x.aj,x.ak,x.main)) (gg agK (gg LB (gg ep (gg (EN eT) (gg (EN dP) (gg (EN dP) (EN ep)))))))
def Mk.ok (x:Mk):Prop:=nT.ok x.c∧cg.ok x.h∧x.depth<18446744073709551616
theorem agL {w:World} {Q:Nat→Prop} {cs:List Value} {x:Mk} (h:tMk.oH w Q cs x):∃v0 v1 v2 v3,cs=x.cells v0 v1 v2 v3∧Mk.ok x∧Ls eT w Q v0 x.b∧Ls dP w Q v1 x.aj∧Ls dP w Q v2 x.ak∧Ls ep w Q v3 x.main:=by
  obtain⟨_,_,rfl,C,⟨_,_,rfl,D,⟨_,_,rfl,⟨rfl,E⟩,⟨_,_,rfl,⟨v0,rfl,F⟩,⟨_,_,rfl,⟨v1,rfl,G⟩,⟨_,_,rfl,⟨v2,rfl,H⟩,⟨v3,rfl,I⟩⟩⟩⟩⟩⟩⟩:=h
  obtain⟨_,rfl,A⟩:=aeW C
  obtain⟨_,rfl,B⟩:=IL D
  exact⟨v0,v1,v2,v3,q,⟨A,B,E⟩,F,G,H,I⟩
theorem adg {w:World} {Q:Nat→Prop} {x:Mk} {v0:Value} {v1:Value} {v2:Value} {v3:Value} (c0:Mk.ok x) (c1:Ls eT w Q v0 x.b) (c2:Ls dP w Q v1 x.aj) (c3:Ls dP w Q v2 x.ak) (c4:Ls ep w Q v3 x.main):tMk.oH w Q (x.cells v0 v1 v2 v3) x :=
  ⟨_,_,q,(aeV c0.1),⟨_,_,q,(IK c0.2.1),⟨_,_,q,⟨q,c0.2.2⟩,⟨_,_,q,⟨_,q,c1⟩,⟨_,_,q,⟨_,q,c2⟩,⟨_,_,q,⟨_,q,c3⟩,⟨_,q,c4⟩⟩⟩⟩⟩⟩⟩
theorem Mk.one {x:Mk} {v0:Value} {v1:Value} {v2:Value} {v3:Value} (h0:v0.oneCell'=true) (h1:v1.oneCell'=true) (h2:v2.oneCell'=true) (h3:v3.oneCell'=true):(x.cells v0 v1 v2 v3).all (fun u=>u.oneCell')=true:=(di (nT.one) (di (cg.one) (di q (di (qD h0) (di (qD h1) (di (qD h2) (qD h3)))))))
structure Sq where
  l:List Int
  cC:Nat
def Sq.cells (x:Sq) (v0:Value):List Value :=
  [v0] ++ ([(.int .i64 x.cC)])
def Sq.ok (x:Sq):Prop:=x.cC<9223372036854775808
end Go.Wk
namespace Go.Wk
open Go Go.RowKit
def low:Nat→Nat→List UInt8
  | _,0=>[]
  | v,n+1=>UInt8.ofNat (v%256) :: low (v/256) n
theorem iq (v n:Nat):(low v n).length=n:=by
  induction n generalizing v with
  | zero=>rfl
  | succ n ih=>simp[low,ih]
def nums:List Nat→List UInt8
  | []=>[]
  | v :: r=>low v 8 ++ nums r
theorem eN (l:List Nat):(nums l).length=8*l.length:=by
  induction l with
  | nil=>rfl
  | cons v r ih=>simp[nums,iq,ih];omega
theorem NC (v:Nat) {n i:Nat} (h:i<n):low v (n-i)=UInt8.ofNat (v%256) :: low (v/256) (n-(i+1)):=by
  rw[show n-i=(n-(i+1))+1 by omega];rfl
theorem UU (v:Nat) {n i:Nat} (h:¬i<n):low v (n-i)=[]:=by
  rw[show n-i=0 by omega];rfl
theorem Y7 {l:List Nat} {i x:Nat} (h:l[i]? = some x):nums (l.drop i)=low x 8 ++ nums (l.drop (i+1)):=by rw[fw h];rfl
theorem NK {l:List Nat} {i:Nat} (h:¬i<l.length):nums (l.drop i)=[]:=by rw[ir Jy];rfl
def DR (l:Ly):List UInt8:=l ++ List.replicate ((8-l.length%8)%8) 0
theorem YZ {l:Ly} (h:l.length%8≠0):DR l=DR (l ++ [0]):=by
  unfold DR
  rw[List.append_assoc,List.length_append]
  congr 1
  rw[show(8-l.length%8)%8=(8-(l.length+[(0:UInt8)].length)%8)%8+1 by simp;omega,List.replicate_succ]
  rfl
theorem acu {l:Ly} (h:l.length%8=0):DR l=l:=by simp[DR,h]
theorem acv (l:Ly):(DR l).length=(l.length+7)/8*8:=by simp[DR];omega
def ru (kind:Nat) (body:Ly):List UInt8 :=
  if kind<1∨7<kind then[]else DR ([UInt8.ofNat kind,0,0,0,0,0,0,0] ++ nums [16+body.length] ++ body)
def jb (d:gy):List UInt8:=ru 1 (nums [d.dH,d.cP,d.dR,d.entry,d.array,d.cr] ++ d.aR)
def ig (d:TN):List UInt8:=ru 2 (nums [d.dH,d.cP,d.dat] ++ d.aR)
def fP (a:fo):List UInt8:=ru 6 (nums [a.next] ++ nums a.ay)
def pX:List xg→List UInt8
  | []=>[]
  | s :: r=>nums [s.first,s.tail] ++ pX r
def eS (kind:Nat) (l:List xg):List UInt8:=if kind≠4∧kind≠5 then[]else ru kind (pX l)
def lI:List jO→List UInt8
  | []=>[]
  | s :: r=>nums [s.cC,s.dH] ++ lI r
def ew (e:eA):List UInt8:=ru 3 (nums [e.seq,e.cH,e.mono] ++ e.bZ ++ nums [e.xor] ++ lI e.ay)
def vQ (h:cg) (depth:Nat):List UInt8 :=
  [76,80,75,83,72,72,82,72] ++ low h.eU 4 ++ low h.bX 4 ++ [UInt8.ofNat h.state,0,0,0,0,0,0,0] ++ h.dc ++ h.dW ++ h.bZ ++ h.seq ++ nums h.n ++ nums [depth] ++ low h.cT 4 ++ low h.cZ 4 ++ nums [h.dw]
theorem tr {k:Nat} {b:Ly} (h:1≤k∧k≤7):(ru k b).length=(16+b.length+7)/8*8:=by
  unfold ru
  rw[if_neg Jy,acv]
  simp[eN]
  omega
theorem SY {l:List xg} {i:Nat} {x:xg} (h:l[i]? = some x):pX (l.drop i)=nums [x.first,x.tail] ++ pX (l.drop (i+1)):=by rw[fw h];rfl
theorem IE {l:List xg} {i:Nat} (h:¬i<l.length):pX (l.drop i)=[]:=by rw[ir Jy];rfl
theorem ZU (l:List xg):(pX l).length=16*l.length:=by
  induction l with
  | nil=>rfl
  | cons v r ih=>simp[pX,eN,ih];omega
theorem QM {l:List jO} {i:Nat} {x:jO} (h:l[i]? = some x):lI (l.drop i)=nums [x.cC,x.dH] ++ lI (l.drop (i+1)):=by rw[fw h];rfl
theorem FW {l:List jO} {i:Nat} (h:¬i<l.length):lI (l.drop i)=[]:=by rw[ir Jy];rfl
theorem uf (l:List jO):(lI l).length=16*l.length:=by
  induction l with
  | nil=>rfl
  | cons v r ih=>simp[lI,eN,ih];omega
theorem wP (d:gy):(jb d).length=(16+(48+d.aR.length)+7)/8*8:=by unfold jb;rw[tr Jy];simp[eN]
theorem uK (d:TN):(ig d).length=(16+(24+d.aR.length)+7)/8*8:=by unfold ig;rw[tr Jy];simp[eN]
theorem uJ (a:fo):(fP a).length=(16+(8+8*a.ay.length)+7)/8*8:=by unfold fP;rw[tr Jy];simp[eN]
theorem nY (e:eA) (h:e.bZ.length=16):(ew e).length=(16+(48+16*e.ay.length)+7)/8*8:=by unfold ew;rw[tr Jy];simp[eN,uf,h];omega
theorem uL (kind:Nat) (l:List xg) (h:kind=4∨kind=5):(eS kind l).length=(16+16*l.length+7)/8*8:=by unfold eS;rw[if_neg Jy,tr Jy,ZU]
theorem nv (kind:Nat) (l:List xg):(eS kind l).length≤24+16*l.length∧(kind=4∨kind=5→(eS kind l).length=(16+16*l.length+7)/8*8):=by
  refine⟨?_,fun h=>uL kind l h⟩
  by_cases h:kind=4∨kind=5
  · rw[uL kind l h];omega
  unfold eS;rw[if_pos Jy];simp
theorem HM {h:cg} {j v:Nat} (hn:h.n.length=20) (hj:j<20):(cg.cells h).set (67+j) (.int .u64 v)=cg.cells {h with n:=h.n.set j v}:=by
  have e:∀(m:List Nat) (t:cg),t.n=m→cg.cells t=([(.int .u32 t.eU)] ++ ([(.int .u32 t.bX)] ++ ([(.int .i64 t.state)] ++ ((gC t.dc) ++ ((gC t.dW) ++ ((gC t.bZ) ++ (gC t.seq))))))) ++ (oL m ++ ([(.int .u32 t.cT)] ++ ([(.int .u32 t.cZ)] ++ [(.int .u64 t.dw)]))):=by
    intro m t C;subst C;simp only[cg.cells,List.append_assoc]
  rw[e h.n h q,e (h.n.set j v) {h with n:=h.n.set j v} q,CV hn hj]
  have B:([(.int .u32 h.eU)] ++ ([(.int .u32 h.bX)] ++ ([(.int .i64 h.state)] ++ ((gC h.dc) ++ ((gC h.dW) ++ ((gC h.bZ) ++ (gC h.seq)))))):List Value).length=67:=rfl
  have A:(oL h.n).length=20:=rfl
  rw[List.set_append_right _ _ Jy,B,Nat.add_sub_cancel_left,List.set_append_left _ _ Jy]
end Go.Wk
namespace Go.Wk
open Go Go.RowKit
theorem FB (op:BinOp) (a b:Int):0≤bits op .u64 a b∧bits op .u64 a b<18446744073709551616:=by
  unfold bits
  cases op <;> simp only[LD] <;> omega
theorem VK (t:T3):0≤pack t∧pack t<18446744073709551616:=FB _ _ _
theorem ab4:∀(k:Nat) (t:T3) (l:Ly),0≤UN k t l∧UN k t l<18446744073709551616
  | 0,t,l=>by unfold UN;split<;>exact VK _
  | k+1,t,l=>by
    unfold UN
    split
    · exact ab4 k _ _
    · split<;>exact VK _
theorem uh (l:Ly):0≤lookup l∧lookup l<18446744073709551616:=ab4 _ _ _
theorem acY (key l:Ly):0≤sip key l∧sip key l<18446744073709551616:=by
  unfold sip EF S4.all me
  exact FB _ _ _
def qS (l:Ly):Nat:=(lookup l).toNat
def ec (k:Bool) (key l:Ly):Nat:=if k then(sip key l).toNat else qS l
theorem BQ (k:Bool) (key l:Ly):((ec k key l:Nat):Int)=if k then sip key l else lookup l:=by
  unfold ec qS
  have A:=uh l
  have B:=acY key l
  cases k <;> simp <;> omega
theorem BR (k:Bool) (key l:Ly):ec k key l<18446744073709551616:=by
  have B:=uh l
  have C:=acY key l
  have A:=BQ k key l
  cases k <;> simp at A <;> omega
theorem NA (l:Ly):((qS l:Nat):Int)=lookup l:=by have A:=uh l;unfold qS;omega
theorem CJ (l:Ly):qS l<18446744073709551616:=by have A:=uh l;unfold qS;omega
def nH (v:Nat):List (List UInt8)→Nat
  | []=>v
  | b :: r=>nH (v ^^^ qS b) r
theorem PL {v:Nat} {l:List (List UInt8)} {i:Nat} {x:Ly} (h:l[i]? = some x):nH v (l.drop i)=nH (v ^^^ qS x) (l.drop (i+1)):=by rw[fw h];rfl
theorem zW {v:Nat} {l:List (List UInt8)} {i:Nat} (h:¬i<l.length):nH v (l.drop i)=v:=by rw[ir Jy];rfl
theorem EL {a b:Nat} (ha:a<18446744073709551616) (hb:b<18446744073709551616):a ^^^ b<18446744073709551616:=Nat.xor_lt_two_pow (n:=64) ha hb
def aR (p:Pr):List UInt8:=p.name ++ [61] ++ p.value
theorem lM (p:Pr):(aR p).length=p.name.length+1+p.value.length:=by simp[aR];omega
end Go.Wk
namespace Go.Wk
open Go Go.RowKit
def e6 (k:Int):Nat:=if k<0 then 0 else if 6<k then 256 else min (4*2 ^ k.toNat) 256
def ES:Nat→List UInt8→Nat→Nat→Nat→List UInt8
  | 0,b,_,_,_=>b
  | n+1,b,p,v,i=>ES n (b.set (p+i) (UInt8.ofNat (v/2 ^ (8*i)))) p v (i+1)
def jG (b:Ly) (p v:Nat):List UInt8:=ES 8 b p v 0
theorem ac1 (n:Nat) (b:Ly) (p v i:Nat):(ES n b p v i).length=b.length:=by
  induction n generalizing b i with
  | zero=>rfl
  | succ n ih=>simp[ES,ih]
theorem jc (b:Ly) (p v:Nat):(jG b p v).length=b.length:=ac1 8 b p v 0
def Mk.put (m:Mk) (p v:Nat):Mk:={m with b:=jG m.b p v}
theorem kI (m:Mk) (p v:Nat):(m.put p v).b.length=m.b.length:=jc _ _ _
theorem Zr {n i:Nat} {b:Ly} {p v:Nat} (h:i<n):ES (n-i) b p v i=ES (n-(i+1)) (b.set (p+i) (UInt8.ofNat (v/2 ^ (8*i)))) p v (i+1):=by
  rw[show n-i=(n-(i+1))+1 by omega];rfl
theorem ac0 {n i:Nat} {b:Ly} {p v:Nat} (h:¬i<n):ES (n-i) b p v i=b:=by rw[show n-i=0 by omega];rfl
def Mk.dZ (m:Mk) (k v:Nat):Mk:={m with h:={m.h with n:=m.h.n.set k v}}
def Mk.dI (m:Mk) (k:Nat):Nat:=m.h.n.getD k 0
def Mk.dD (m:Mk) (o:Ly):Nat × Mk :=
  let m1:={m with b:=m.b ++ o}
  let m29:=m1.dZ 6 m.b.length
  (m.b.length,m29.dZ 7 ((m29.dI 7+1)%18446744073709551616))
def pn (dS:Nat):List bT→Nat→Nat→Nat × Nat
  | [],n,q=>(n,q)
  | k :: r,n,q=>if k.dS=dS then pn dS r (n+1) k.cC else pn dS r n q
def Mk.hang (m:Mk) (l:List bT) (table p dS:Nat):Nat × Mk :=
  match pn dS l 0 0 with
  | (n,q)=>(n,(if n=0 then m.put (table+16*dS) p else m.put (q+24) p).put (table+16*dS+8) p)
def sj (name:Ly):List bT→Option Nat
  | []=>none
  | k :: r=>if k.dO=name then some k.cC else sj name r
def oo (s:Ly):List bT→Nat→Option Nat
  | [],_=>none
  | k :: r,i=>if k.dO=s then some i else oo s r (i+1)
def Mk.field (m:Mk) (name:Ly):Nat × Mk :=
  match sj name m.ak with
  | some p=>(p,m)
  | none =>
    match m.dD (ig {dH:=ec m.c.dU m.c.dc name,cP:=0,dat:=0,aR:=name})with
    | (p,m1)=>match m1.hang m1.ak (m1.dI 4) p (ec m.c.dU m.c.dc name%m1.c.aS)with
      | (n,m29) =>
        let m3:={m29 with depth:=max m1.depth n}
        let m4:=m3.dZ 16 ((m3.dI 16+1)%18446744073709551616)
        (p,{m4 with ak:=m4.ak ++ [({dO:=name,cC:=p,dS:=ec m.c.dU m.c.dc name%m1.c.aS,cr:=0,b9:=[]}:bT)]})
def Mk.data (m:Mk) (x:Pr):Nat × Mk :=
  match oo (aR x) m.aj 0 with
  | some i=>(i,m)
  | none =>
    match m.dD (jb {dH:=ec m.c.dU m.c.dc (aR x),cP:=0,dR:=0,entry:=0,array:=0,cr:=0,aR:=aR x})with
    | (p,m1)=>match m1.hang m1.aj (m1.dI 2) p (ec m.c.dU m.c.dc (aR x)%m1.c.aT)with
      | (n,m29) =>
        let m3:=m29.dZ 19 (max (m29.dI 19) n)
        let m4:=m3.dZ 15 ((m3.dI 15+1)%18446744073709551616)
        let m5:={m4 with aj:=m4.aj ++ [({dO:=aR x,cC:=p,dS:=ec m.c.dU m.c.dc (aR x)%m1.c.aT,cr:=0,b9:=[]}:bT)]}
        match m5.field x.name with
        | (k,m6) =>
          let m7:=m6.put (p+32) (p5 m6.b (k+32:Nat) 8).1
          let m8:=m7.put (k+32) p
          (m8.aj.length-1,m8)
theorem ZR (m:Mk) (k v:Nat):(m.dZ k v).b=m.b∧(m.dZ k v).c=m.c∧(m.dZ k v).aj=m.aj∧(m.dZ k v).ak=m.ak∧(m.dZ k v).main=m.main:=⟨q,q,q,q,q⟩
theorem cw {l:List Nat} {i j v:Nat} (h:i≠j):(l.set i v).getD j 0=l.getD j 0:=by simp[List.getD,List.getElem?_set_ne h]
theorem fA {m:Mk} {k v j:Nat} (h:k≠j):(m.dZ k v).dI j=m.dI j:=cw h
theorem ji (m:Mk) (o:Ly):(m.dD o).1=m.b.length∧(m.dD o).2.b.length=m.b.length+o.length∧(m.dD o).2.c.aT=m.c.aT∧(m.dD o).2.c.aS=m.c.aS∧(m.dD o).2.aj.length=m.aj.length∧(m.dD o).2.ak.length=m.ak.length ∧
    (m.dD o).2.h.n.getD 2 0=m.h.n.getD 2 0∧(m.dD o).2.h.n.getD 4 0=m.h.n.getD 4 0 :=
  ⟨q,by simp[Mk.dD,Mk.dZ],q,q,q,q,by simp only[Mk.dD,Mk.dZ];rw[cw Kq,cw Kq],by simp only[Mk.dD,Mk.dZ];rw[cw Kq,cw Kq]⟩
theorem eV (m:Mk) (o:Ly):(m.dD o).2.c=m.c∧(m.dD o).2.aj=m.aj∧(m.dD o).2.ak=m.ak∧(m.dD o).2.main=m.main:=⟨q,q,q,q⟩
theorem jH (m:Mk) (p v:Nat):(m.put p v).b.length=m.b.length∧(m.put p v).c.aT=m.c.aT∧(m.put p v).c.aS=m.c.aS∧(m.put p v).aj.length=m.aj.length∧(m.put p v).ak.length=m.ak.length ∧
    (m.put p v).h.n.getD 2 0=m.h.n.getD 2 0∧(m.put p v).h.n.getD 4 0=m.h.n.getD 4 0:=⟨jc _ _ _,q,q,q,q,q,q⟩
theorem zD (m:Mk) (l:List bT) (table p dS:Nat):(m.hang l table p dS).2={m with b:=(m.hang l table p dS).2.b}∧(m.hang l table p dS).2.b.length=m.b.length:=by
  unfold Mk.hang
  generalize pn dS l 0 0=r
  obtain⟨n,q⟩:=r
  simp only
  split
  · exact⟨rfl,by rw[kI,kI]⟩
  exact⟨rfl,by rw[kI,kI]⟩
theorem ud (m:Mk) (l:List bT) (table p dS:Nat):(m.hang l table p dS).2.b.length=m.b.length∧(m.hang l table p dS).2.c.aT=m.c.aT∧(m.hang l table p dS).2.c.aS=m.c.aS∧(m.hang l table p dS).2.aj.length=m.aj.length∧(m.hang l table p dS).2.ak.length=m.ak.length ∧
    (m.hang l table p dS).2.h.n.getD 2 0=m.h.n.getD 2 0∧(m.hang l table p dS).2.h.n.getD 4 0=m.h.n.getD 4 0:=by
  obtain⟨A,B⟩:=zD m l table p dS
  refine⟨B,?_,?_,?_,?_,?_,?_⟩ <;> rw[A]
theorem iP (m:Mk) (l:List bT) (table p dS:Nat):(m.hang l table p dS).2.c=m.c∧(m.hang l table p dS).2.aj=m.aj∧(m.hang l table p dS).2.ak=m.ak∧(m.hang l table p dS).2.main=m.main∧(m.hang l table p dS).2.depth=m.depth∧(m.hang l table p dS).2.h=m.h:=by
  have A:=(zD m l table p dS).1
  refine⟨?_,?_,?_,?_,?_,?_⟩ <;> rw[A]
theorem FT {dS i n q:Nat} {l:List bT} {x:bT} (h:l[i]? = some x):pn dS (l.drop i) n q=if x.dS=dS then pn dS (l.drop (i+1)) (n+1) x.cC else pn dS (l.drop (i+1)) n q:=by rw[fw h];rfl
theorem vO {dS i n q:Nat} {l:List bT} (h:¬i<l.length):pn dS (l.drop i) n q=(n,q):=by rw[ir Jy];rfl
theorem BF {s:Ly} {i:Nat} {l:List bT} {x:bT} (h:l[i]? = some x):sj s (l.drop i)=if x.dO=s then some x.cC else sj s (l.drop (i+1)):=by rw[fw h];rfl
theorem xF {s:Ly} {i:Nat} {l:List bT} (h:¬i<l.length):sj s (l.drop i)=none:=by rw[ir Jy];rfl
theorem BB {s:Ly} {i j:Nat} {l:List bT} {x:bT} (h:l[i]? = some x):oo s (l.drop i) j=if x.dO=s then some j else oo s (l.drop (i+1)) (j+1):=by rw[fw h];rfl
theorem xE {s:Ly} {i j:Nat} {l:List bT} (h:¬i<l.length):oo s (l.drop i) j=none:=by rw[ir Jy];rfl
def Mk.fit (m:Mk):Prop:=1≤m.c.aT∧m.c.aT≤64∧1≤m.c.aS∧m.c.aS≤64∧m.h.n.getD 2 0+16*m.c.aT≤m.b.length∧m.h.n.getD 4 0+16*m.c.aS≤m.b.length ∧
  (∀k∈m.aj,k.cC+64≤m.b.length)∧(∀k∈m.ak,k.cC+40≤m.b.length)
theorem pN {m m':Mk} (h:m.fit) (h1:m'.c.aT=m.c.aT∧m'.c.aS=m.c.aS∧m'.h.n.getD 2 0=m.h.n.getD 2 0∧m'.h.n.getD 4 0=m.h.n.getD 4 0∧m.b.length≤m'.b.length)
    (hd:∀k∈m'.aj,k∈m.aj∨k.cC+64≤m'.b.length) (hf:∀k∈m'.ak,k∈m.ak∨k.cC+40≤m'.b.length):m'.fit:=by
  obtain⟨G,H,I,J,K,L,A,B⟩:=h
  obtain⟨C,D,E,F,M⟩:=h1
  refine⟨by omega,by omega,by omega,by omega,by rw[C,E];omega,by rw[D,F];omega,fun k hk=>?_,fun k hk=>?_⟩
  · rcases hd k hk with h|h
    · have:=A k h;omega
    exact h
  rcases hf k hk with h|h
  · have:=B k h;omega
  exact h
theorem FP {s:Ly} {l:List bT} {p:Nat} (h:sj s l=some p):∃k∈l,k.cC=p∧k.dO=s:=by
  induction l with
  | nil=>simp[sj]at h
  | cons x l ih =>
    simp only[sj]at h
    split at h
    · rename_i hx;exact⟨x,by simp,by simpa using h,hx⟩
    · obtain⟨k,hk,A⟩:=ih h;exact⟨k,by simp[hk],A⟩
theorem aaX {s:Ly} {l:List bT} {j i:Nat} (h:oo s l j=some i):j≤i∧i<j+l.length:=by
  induction l generalizing j with
  | nil=>simp[oo]at h
  | cons x l ih =>
    simp only[oo]at h
    split at h
    · simp at h;simp;omega
    · have:=ih h;simp;omega
theorem tZ (m:Mk) (name:Ly) (h:m.fit):((m.field name).1+40≤(m.field name).2.b.length∧m.b.length≤(m.field name).2.b.length∧(m.field name).2.b.length≤m.b.length+(48+name.length)∧(m.field name).2.aj.length=m.aj.length∧(m.field name).2.ak.length≤m.ak.length+1 ∧
    (m.field name).2.c.aT=m.c.aT∧(m.field name).2.c.aS=m.c.aS∧(m.field name).2.h.n.getD 2 0=m.h.n.getD 2 0∧(m.field name).2.h.n.getD 4 0=m.h.n.getD 4 0∧(m.field name).2.h.n.getD 8 0=m.h.n.getD 8 0) ∧
    ((m.field name).2.c=m.c∧(m.field name).2.aj=m.aj∧(m.field name).2.main=m.main)∧(m.field name).2.fit:=by
  unfold Mk.field
  cases hk:sj name m.ak with
  | some p =>
    obtain⟨k,D,U,_⟩:=FP hk
    have:=h.2.2.2.2.2.2.2 k D
    exact⟨⟨by simp only;omega,Nat.le_refl _,by simp only;omega,q,by simp only;omega,q,q,q,q,q⟩,⟨q,q,q⟩,h⟩
  | none =>
    simp only
    have C:=ji m (ig {dH:=ec m.c.dU m.c.dc name,cP:=0,dat:=0,aR:=name})
    have I:=eV m (ig {dH:=ec m.c.dU m.c.dc name,cP:=0,dat:=0,aR:=name})
    have J:(m.dD (ig {dH:=ec m.c.dU m.c.dc name,cP:=0,dat:=0,aR:=name})).2.h.n.getD 8 0=m.h.n.getD 8 0:=by
      simp only[Mk.dD,Mk.dZ];rw[cw Kq,cw Kq]
    rw[uK]at C
    simp only at C
    generalize m.dD (ig {dH:=ec m.c.dU m.c.dc name,cP:=0,dat:=0,aR:=name})=r at *
    obtain⟨p,A⟩:=r
    simp only at C I J ⊢
    have K:=ud A A.ak (A.dI 4) p (ec m.c.dU m.c.dc name%A.c.aS)
    have L:=iP A A.ak (A.dI 4) p (ec m.c.dU m.c.dc name%A.c.aS)
    generalize A.hang A.ak (A.dI 4) p (ec m.c.dU m.c.dc name%A.c.aS)=r at *
    obtain⟨n,B⟩:=r
    simp only at K L ⊢
    obtain⟨V,W,X,Y,Z,a,d,e⟩:=C
    obtain⟨M,E,N,O⟩:=I
    obtain⟨f,g,i,j,l,o,t⟩:=K
    obtain⟨P,F,Q,R,u,S⟩:=L
    simp only[Mk.dZ,List.length_append,List.length_singleton]
    have G:(B.h.n.set 16 ((B.dI 16+1)%18446744073709551616)).getD 2 0=m.h.n.getD 2 0:=by rw[cw Kq];omega
    have H:(B.h.n.set 16 ((B.dI 16+1)%18446744073709551616)).getD 4 0=m.h.n.getD 4 0:=by rw[cw Kq];omega
    have T:(B.h.n.set 16 ((B.dI 16+1)%18446744073709551616)).getD 8 0=m.h.n.getD 8 0:=by rw[cw Kq,S,J]
    refine⟨⟨by omega,by omega,by omega,by omega,by omega,by omega,by omega,G,H,T⟩,⟨by rw[P,M],by rw[F,E],by rw[R,O]⟩,?_⟩
    refine pN h ⟨by simp only;omega,by simp only;omega,G,H,by simp only;omega⟩ (fun k hk=>?_) (fun k hk=>?_)
    · simp only[F,E]at hk;exact .inl hk
    · simp only[Q,N,List.mem_append,List.mem_singleton]at hk
      rcases hk with hk|rfl
      · exact .inl hk
      · right;simp only;omega
theorem QC (m:Mk) (name:Ly) (h:m.fit):(m.field name).1+40≤(m.field name).2.b.length∧m.b.length≤(m.field name).2.b.length∧(m.field name).2.b.length≤m.b.length+(48+name.length)∧(m.field name).2.aj.length=m.aj.length∧(m.field name).2.ak.length≤m.ak.length+1 ∧
    (m.field name).2.c.aT=m.c.aT∧(m.field name).2.c.aS=m.c.aS∧(m.field name).2.h.n.getD 2 0=m.h.n.getD 2 0∧(m.field name).2.h.n.getD 4 0=m.h.n.getD 4 0∧(m.field name).2.h.n.getD 8 0=m.h.n.getD 8 0:=(tZ m name h).1
theorem QB (m:Mk) (name:Ly) (h:m.fit):(m.field name).2.c=m.c∧(m.field name).2.aj=m.aj∧(m.field name).2.main=m.main:=(tZ m name h).2.1
theorem XG (m:Mk) (name:Ly) (h:m.fit):(m.field name).2.fit:=(tZ m name h).2.2
section
variable {m y:Mk} {v1 v2 v3 v4:Value} {w:World} {b t i v j:Nat}
theorem agk (hn:m.h.n.length=20) (hi:i<20):(Mk.cells m v1 v2 v3 v4).set (119+i) (.int .u64 v)=Mk.cells {m with h:={m.h with n:=m.h.n.set i v}} v1 v2 v3 v4:=by
  have A:(nT.cells m.c).length=52:=rfl
  have B:(cg.cells m.h).length=90:=rfl
  show(nT.cells m.c ++ (cg.cells m.h ++ _)).set _ _=nT.cells m.c ++ (cg.cells _ ++ _)
  rw[List.set_append_right _ _ Jy,A,show 119+i-52=67+i by omega,List.set_append_left _ _ Jy,HM hn hi]
theorem JV (B:cF w b ((Mk.cells m v1 v2 v3 v4).set j (.int .u64 v)) t) (ok:Mk.ok m) (hv:v<18446744073709551616) (hj:j=119+i) (hi:i<20):∃y,y=({m with h:={m.h with n:=m.h.n.set i v}}:Mk)∧cF w b (Mk.cells y v1 v2 v3 v4) t∧Mk.ok y:=by
  subst hj
  rw[agk ok.2.1.2.2.2.2.2.2.2.1.1 hi]at B
  obtain⟨A,⟨a,b,c,d,e,f,g,h,k⟩,C⟩:=ok
  exact⟨_,q,B,A,⟨a,b,c,d,e,f,g,ou h hv,k⟩,C⟩
theorem gY (B:cF w b ((Mk.cells m v1 v2 v3 v4).set j (.int .u64 v)) t) (ok:Mk.ok m) (hv:v<18446744073709551616) (hj:j=119+i:=by rfl) (hi:i<20:=by decide) (h2:i≠2:=by decide) (h4:i≠4:=by decide):∃y,y=({m with h:={m.h with n:=m.h.n.set i v}}:Mk)∧cF w b (Mk.cells y v1 v2 v3 v4) t∧Mk.ok y∧y.b.length=m.b.length∧y.aj.length=m.aj.length∧y.ak.length=m.ak.length∧y.c.aT=m.c.aT∧y.c.aS=m.c.aS∧y.h.n.getD 2 0=m.h.n.getD 2 0∧y.h.n.getD 4 0=m.h.n.getD 4 0:=by
  obtain⟨y,rfl,h,k⟩:=JV B ok hv hj hi
  exact⟨_,q,h,k,q,q,q,q,q,cw Jy,cw Jy⟩
theorem UZ (B:cF w b ((Mk.cells m v1 v2 v3 v4).set j (.int .u64 v)) t) (ok:Mk.ok m) (hv:v<18446744073709551616) (hj:j=119+i:=by rfl) (hi:i<20:=by decide) (h4:i≠4:=by decide):∃y,y=({m with h:={m.h with n:=m.h.n.set i v}}:Mk)∧cF w b (Mk.cells y v1 v2 v3 v4) t∧Mk.ok y∧y.b.length=m.b.length∧y.aj.length=m.aj.length∧y.ak.length=m.ak.length∧y.c.aT=m.c.aT∧y.c.aS=m.c.aS∧y.h.n.getD 4 0=m.h.n.getD 4 0:=by
  obtain⟨y,rfl,h,k⟩:=JV B ok hv hj hi
  exact⟨_,q,h,k,q,q,q,q,q,cw Jy⟩
theorem Vb (B:cF w b ((Mk.cells m v1 v2 v3 v4).set j (.int .u64 v)) t) (ok:Mk.ok m) (hv:v<18446744073709551616) (hj:j=119+i:=by rfl) (hi:i<20:=by decide) (h2:i≠2:=by decide):∃y,y=({m with h:={m.h with n:=m.h.n.set i v}}:Mk)∧cF w b (Mk.cells y v1 v2 v3 v4) t∧Mk.ok y∧y.b.length=m.b.length∧y.aj.length=m.aj.length∧y.ak.length=m.ak.length∧y.c.aT=m.c.aT∧y.c.aS=m.c.aS∧y.h.n.getD 2 0=m.h.n.getD 2 0:=by
  obtain⟨y,rfl,h,k⟩:=JV B ok hv hj hi
  exact⟨_,q,h,k,q,q,q,q,q,cw Jy⟩
theorem aeg {x:Ly} (e:y={m with b:=x}):y.aj.length=m.aj.length∧y.ak.length=m.ak.length∧y.c.aT=m.c.aT∧y.c.aS=m.c.aS∧y.h.n.getD 2 0=m.h.n.getD 2 0∧y.h.n.getD 4 0=m.h.n.getD 4 0:=by subst e;exact⟨q,q,q,q,q,q⟩
theorem sY {x:List bT} (e:y={m with aj:=x}):y.b.length=m.b.length∧y.ak.length=m.ak.length∧y.c.aT=m.c.aT∧y.c.aS=m.c.aS∧y.h.n.getD 2 0=m.h.n.getD 2 0∧y.h.n.getD 4 0=m.h.n.getD 4 0:=by subst e;exact⟨q,q,q,q,q,q⟩
theorem xV {x:List bT} (e:y={m with ak:=x}):y.b.length=m.b.length∧y.aj.length=m.aj.length∧y.c.aT=m.c.aT∧y.c.aS=m.c.aS∧y.h.n.getD 2 0=m.h.n.getD 2 0∧y.h.n.getD 4 0=m.h.n.getD 4 0:=by subst e;exact⟨q,q,q,q,q,q⟩
theorem UY {x:List Nat} (e:y={m with main:=x}):y.b.length=m.b.length∧y.aj.length=m.aj.length∧y.ak.length=m.ak.length∧y.c.aT=m.c.aT∧y.c.aS=m.c.aS∧y.h.n.getD 2 0=m.h.n.getD 2 0∧y.h.n.getD 4 0=m.h.n.getD 4 0:=by subst e;exact⟨q,q,q,q,q,q,q⟩
theorem abB {x:Nat} (e:y={m with depth:=x}):y.b.length=m.b.length∧y.aj.length=m.aj.length∧y.ak.length=m.ak.length∧y.c.aT=m.c.aT∧y.c.aS=m.c.aS∧y.h.n.getD 2 0=m.h.n.getD 2 0∧y.h.n.getD 4 0=m.h.n.getD 4 0:=by subst e;exact⟨q,q,q,q,q,q,q⟩
theorem NG {x:cg} (e:y={m with h:=x}):y.b.length=m.b.length∧y.aj.length=m.aj.length∧y.ak.length=m.ak.length∧y.c.aT=m.c.aT∧y.c.aS=m.c.aS:=by subst e;exact⟨q,q,q,q,q⟩
end
section
variable {P:Program}
theorem afN {c:Code} {Q:Exit→Act→World→Prop} {a:Act} {w:World} (R:Act→World→Prop) (h:c.wp P (fun e a w'=>e = .normal∧R a w') a w) (k:∀a w',R a w'→Q .normal a w'):c.wp P Q a w:=by
  refine wp_mono h ?_
  rintro e a w' ⟨rfl,A⟩
  exact k a w' A
end
end Go.Wk
namespace Go.Wk
open Go Go.RowKit
theorem tG (k:Int):e6 k≤256:=by unfold e6;split;omega;split<;>omega
def fu:List Nat→Nat→Nat→Nat→Nat × Nat
  | [],_,a,r=>(a,r)
  | _ :: l,k,_,r=>fu l (k+1) r (r+e6 (k:Int))
def kr (l:List Nat):Nat:=l.getD (l.length-1) 0
def Mk.link (m:Mk) (b9:List Nat) (n src gX:Nat):List Nat × Nat × Mk :=
  match fu b9 0 0 0 with
  | (ahead,room) =>
    if n=room then
      match m.dD (fP {next:=0,ay:=List.replicate (e6 (b9.length:Int)) 0})with
      | (p,m1) =>
        let m29:=m1.dZ 18 ((m1.dI 18+1)%18446744073709551616)
        (b9 ++ [p],n-room+1,(if b9.length=0 then m29.put src p else m29.put (kr b9+16) p).put (kr (b9 ++ [p])+24+8*(n-room)) gX)
    else(b9,n-ahead+1,m.put (kr b9+24+8*(n-ahead)) gX)
theorem rR {l:List Nat} {i k a r:Nat} (h:i<l.length):fu (l.drop i) k a r=fu (l.drop (i+1)) (k+1) r (r+e6 (k:Int)):=by
  obtain⟨x,A⟩:=eI h
  rw[fw A];rfl
theorem r7 {l:List Nat} {i k a r:Nat} (h:¬i<l.length):fu (l.drop i) k a r=(a,r):=by rw[ir Jy];rfl
theorem tF {k:Int} (h:0≤k):4≤e6 k:=by
  unfold e6
  rw[if_neg Jy]
  split
  · omega
  have:1≤2 ^ k.toNat:=Nat.one_le_two_pow
  omega
theorem HS (k:Int):k<0∨4≤e6 k:=by by_cases h:0≤k;exact .inr (tF h);exact .inl Jy
theorem lJ {l:List Nat} {x:Nat} (h:l[l.length-1]? = some x):kr l=x:=by simp[kr,List.getD,h]
theorem GC {α} {l:List α} {p x:α} (h:(l ++ [p])[(l ++ [p]).length-1]? = some x):x=p:=by simpa using h.symm
theorem SB (l:List Nat) (k a r:Nat) (h:l≠[]):(fu l k a r).2=(fu l k a r).1+e6 ((k+l.length-1:Nat):Int):=by
  induction l generalizing k a r with
  | nil=>exact absurd q h
  | cons x l ih =>
    by_cases hl:l=[]
    · subst hl;simp[fu]
    · simp only[fu,List.length_cons]
      rw[ih (k+1) r (r+e6 (k:Int)) hl,show k+1+l.length-1=k+(l.length+1)-1 by omega]
theorem SC {l:List Nat} {n:Nat} (h2:(fu l 0 0 0).1≤n) (h3:n≤(fu l 0 0 0).2) (h:n≠(fu l 0 0 0).2):1≤l.length∧n<(fu l 0 0 0).1+e6 ((l.length-1:Nat):Int):=by
  cases l with
  | nil=>simp[fu]at h3 h;omega
  | cons x l =>
    have:=SB (x :: l) 0 0 0 Oq
    simp only[Nat.zero_add]at this
    refine⟨by simp,?_⟩
    omega
def jT (len:Nat) (b9:List Nat) (n:Nat):Prop :=
  (∀(k a:Nat),b9[k]? = some a→a+24+8*e6 (k:Int)≤len)∧(fu b9 0 0 0).1≤n∧n≤(fu b9 0 0 0).2
def j5 (c:nT) (tail:Nat):Mk :=
  let b1:=List.replicate 272 0 ++ eS 4 (List.replicate c.aT {first:=0,tail:=0})
  let b2:=b1 ++ eS 5 (List.replicate c.aS {first:=0,tail:=0})
  {c:=c,depth:=0,b:=b2,aj:=[],ak:=[],main:=[],
    h:={eU:=2,bX:=if c.dU then 4 else 0,state:=1,dc:=c.dc,dW:=c.dW,bZ:=List.replicate 16 0,seq:=c.seq,cT:=0,cZ:=0,dw:=0,
           n:=(((((((((List.replicate 20 0).set 0 272).set 2 288).set 3 (16*c.aT)).set 4 (b1.length+16)).set 5 (16*c.aS)).set 6 b1.length).set 7 2).set 9 tail)}}
theorem adj {α} {l:List α} {i:Nat} (h:¬i<l.length):l.take i=l:=List.take_of_length_le Jy
theorem AB {v:Value} {b:Nat} (h:∀x,ah v=some x→x≠b):b∉(ah v).toList:=by
  cases hv:ah v with
  | none=>simp
  | some c=>simp;exact fun e=>h c hv e.symm
theorem eu {v:Value} {b:Nat} (h:∀x,ah v=some x→x≠b):∀x,ah v=some x→x∉[b]:=fun x hx hh=>h x hx (by simpa using hh)
def ni (m:Mk) (st:Nat):List UInt8:=vQ {m.h with state:=st,n:=m.h.n.set 1 (m.b.length-272)} m.depth ++ m.b.drop 272
theorem xO (h:cg) (depth:Nat) (ok:cg.ok h):(vQ h depth).length=272:=by
  obtain⟨_,_,_,A,B,C,D,E,_⟩:=ok
  simp[vQ,iq,eN,A,B,C,D,E.1]
end Go.Wk
namespace Go.Wk
open Go Go.RowKit
def Pr.pb (p:Pr):yH:=(p.name,p.value)
section
variable {P:Program} {n:Nat} {A:Fr n} {D:List Deferred} {l:List (Nat × Value)} {w:World} {d:Option Tmp} {ty:TypeId} {ps:String} {af:Array Edge} {g:Option (Nat × Bool)}
theorem KS {x y:Operand} {t f u:TypeId} {p q:Pr} (hp:pairT P t f=true) (hf:P.underlying f=some .string) (hx:ev n l x=some (.agg (Pr.cells p).toArray)) (hy:ev n l y=some (.agg (Pr.cells q).toArray)) :
    dn P ⟨d,.binOp .eql t x y u,ty,ps,af,g⟩ (bA A D l).eval w (.bool (decide (p.pb=q.pb))):=agz (p:=p.pb) (q:=q.pb) hp hf hx hy
end
def sw (p:Pr):List UInt8 × Nat:=if fp p.name=false then([],1)else if 256<p.value.length then([],21)else(aR p,0)
theorem abz {p:Pr} (h:(sw p).2=0):p.name.length≤1000000∧p.value.length≤1000000:=by
  unfold sw at h
  split at h
  · cases h
  rename_i h1
  split at h
  · cases h
  have:=(gL (s:=p.name) (by simpa using h1)).2;omega
theorem yP {p:Pr}:(sw p).2=0↔right p.pb=true:=by
  unfold sw right Pr.pb
  by_cases h1:fp p.name=false
  · simp[h1]
  rw[if_neg h1]
  have A:fp p.name=true:=by simpa using h1
  rw[A]
  by_cases h3:256<p.value.length
  · simp[h3]
  simp[h3];omega
def lR (t:Ly):List Pr→Nat→Nat
  | [],k=>k
  | q :: r,k=>if Op.bytesLess (aR q) t=true then lR t r (k+1)else k
theorem HC {t:Ly} {o:List Pr} {k:Nat} {q:Pr} (h:o[k]? = some q):lR t (o.drop k) k=if Op.bytesLess (aR q) t=true then lR t (o.drop (k+1)) (k+1)else k:=by
  rw[fw h];rfl
theorem acJ {t:Ly} {o:List Pr} {k:Nat} (h:¬k<o.length):lR t (o.drop k) k=k:=by rw[ir Jy];rfl
theorem nX {l:List Pr} {i:Nat} {x:Pr} (h:l[i]? = some x):l.getD i {name:=[],value:=[]}=x:=by simp[List.getD,h]
def jA:Nat→Nat→List Pr→List Pr
  | 0,_,o=>o
  | n+1,j,o=>jA n (j-1) (o.set j (o.getD (j-1) {name:=[],value:=[]}))
theorem rU {j k:Nat} {o:List Pr} (h:k<j):jA (j-k) j o=jA (j-1-k) (j-1) (o.set j (o.getD (j-1) {name:=[],value:=[]})):=by
  rw[show j-k=(j-1-k)+1 by omega];rfl
theorem um {j k:Nat} {o:List Pr} (h:¬k<j):jA (j-k) j o=o:=by rw[show j-k=0 by omega];rfl
def sI (p:Pr) (o:List Pr):List Pr :=
  let k:=lR (aR p) o 0
  if k<o.length∧(o.getD k {name:=[],value:=[]}).pb=p.pb then o else(jA (o.length-k) o.length (o ++ [{name:=[],value:=[]}])).set k p
def PO:List Pr→List Pr→List Pr × Nat
  | [],o=>if 16<o.length then([],21)else(o,0)
  | p :: r,o=>if(sw p).2≠0 then([],(sw p).2)else PO r (sI p o)
def kW (l:List Pr):List Pr × Nat:=if l.length=0 then([],16)else PO l []
theorem JN {l o:List Pr} {i:Nat} (h:¬i<l.length):PO (l.drop i) o=if 16<o.length then([],21)else(o,0):=by rw[ir Jy];rfl
theorem MH {l o:List Pr} {i:Nat} {p:Pr} (h:l[i]? = some p):PO (l.drop i) o=if(sw p).2≠0 then([],(sw p).2)else PO (l.drop (i+1)) (sI p o):=by
  rw[fw h];rfl
end Go.Wk
namespace Go.Wk
open Go Go.RowKit
section
variable {P:Program} {n:Nat} {A:Fr n} {D:List Deferred} {l:List (Nat × Value)} {w:World} {d:Option Tmp} {ty:TypeId} {ps:String} {af:Array Edge} {g:Option (Nat × Bool)}
theorem acH {x y:Operand} {t u:TypeId} {k:IntKind} {a b:Int} (hx:ev n l x=some (.int k a)) (hy:ev n l y=some (.int k b)) (h:b≠0) :
    dn P ⟨d,.binOp .rem t x y u,ty,ps,af,g⟩ (bA A D l).eval w (.int k (a.tmod b)):=acG hx hy h
end
def NH (k:Int) (n:Nat):Nat:=if n<1 then 0 else((k.tmod n+n).tmod n).toNat
theorem JX (k:Int) (n:Nat):n<1∨NH k n<n:=by
  unfold NH
  by_cases h:n<1
  · exact .inl h
  rw[if_neg h]
  have A:=Int.tmod_lt_of_pos (k.tmod n+n) (show(0:Int)<n by omega)
  right;omega
theorem agn {k:Int} {n:Nat} (h:¬n<1):0≤k.tmod n+n∧k.tmod n+n<2*n:=by
  have A:=Int.tmod_lt_of_pos k (show(0:Int)<n by omega)
  have B:=Int.lt_tmod_of_pos k (show(0:Int)<n by omega)
  omega
def Sq.dI (s:Sq) (n:Nat):Nat × Sq:=if s.l.length≤s.cC then(0,s)else(NH (s.l.getD s.cC 0) n,{s with cC:=s.cC+1})
def Sq.more (s:Sq):Bool × Sq:=(decide (s.cC<s.l.length),s)
def xX:List (List UInt8):=[[65],[66],[77,69,83,83,65,71,69],[95,80,73,68],[88,95,49],[80,82,73,79,82,73,84,89]]
def ux:List (List UInt8):=[[],[48],[49],[50,50],[97,61,98],[111,110,101,10,116,119,111],[0,255],[116,97,98,9,104,101,114,101],[108,111,110,103,32,108,111,110,103,32,108,111,110,103,32,108,111,110,103,32,108,111,110,103,32,108,111,110,103,32,108,111,110,103],[126,127,128]]
theorem RA:xX.length=6:=rfl
theorem PG:ux.length=10:=rfl
def idF (k:Int):List UInt8:=((List.replicate 16 0).set 0 94).set 15 (UInt8.ofNat (NH k 5))
def Sq.pair (s:Sq):Pr × Sq :=
  match s.dI 6 with
  | (a,s1) =>
    match s1.dI 10 with
    | (b,s2)=>({name:=xX.getD a [],value:=ux.getD b []},s2)
theorem Sq.kG (s:Sq) (n:Nat):(s.dI n).1≤n-1:=by
  unfold Sq.dI
  split
  · simp
  simp only
  rcases JX (s.l.getD s.cC 0) n with h|h
  · simp[NH,h]
  omega
def oO:Nat→Sq→List Pr→List Pr × Sq
  | 0,s,o=>(o,s)
  | n+1,s,o=>match s.pair with
    | (p,s1)=>oO n s1 (o ++ [p])
def Sq.pairs (s:Sq) (cJ:Nat):List Pr × Sq :=
  match s.dI cJ with
  | (n,s1)=>oO (n+1) s1 []
theorem Zi {n:Nat} {s:Sq} {o:List Pr} (h:¬0<n):oO n s o=(o,s):=by rw[show n=0 by omega];rfl
theorem RJ {n:Nat} {s:Sq} {o:List Pr} (h:0<n):oO n s o=oO (n-1) s.pair.2 (o ++ [s.pair.1]):=by
  obtain⟨k,rfl⟩:∃k,n=k+1:=⟨n-1,by omega⟩
  rfl
theorem abF (a:Nat):(xX.getD a []).length≤64:=by
  match a with
  | 0|1|2|3|4|5=>decide
  | n+6=>simp[xX]
theorem aak (a:Nat):(ux.getD a []).length≤256:=by
  match a with
  | 0|1|2|3|4|5|6|7|8|9=>decide
  | n+10=>simp[ux]
theorem aes (s:Sq):s.pair.1.name.length≤64∧s.pair.1.value.length≤256:=⟨abF _,aak _⟩
theorem Zf (n:Nat):∀(s:Sq) (o:List Pr),(∀q∈o,q.name.length≤64∧q.value.length≤256)→(∀q∈(oO n s o).1,q.name.length≤64∧q.value.length≤256)∧(oO n s o).1.length=o.length+n:=by
  induction n with
  | zero=>exact fun s o h=>⟨h,rfl⟩
  | succ n ih =>
    intro s o h
    have:=ih s.pair.2 (o ++ [s.pair.1]) (fun q A=>by
      rcases List.mem_append.1 A with A|A
      · exact h q A
      · rw[List.mem_singleton.1 A];exact aes s)
    refine⟨this.1,?_⟩
    have B:=this.2
    rw[List.length_append,List.length_singleton]at B
    rw[show oO (n+1) s o=oO n s.pair.2 (o ++ [s.pair.1])from rfl,B];omega
theorem acw (s:Sq) (cJ:Nat):(∀q∈(s.pairs cJ).1,q.name.length≤1000000∧q.value.length≤1000000)∧(s.pairs cJ).1.length≤cJ+1:=by
  have h:=Zf ((s.dI cJ).1+1) (s.dI cJ).2 [] Oq
  have B:=s.kG cJ
  have e:s.pairs cJ=oO ((s.dI cJ).1+1) (s.dI cJ).2 []:=rfl
  rw[e]
  refine⟨fun q A=>⟨by have:=(h.1 q A).1;omega,by have:=(h.1 q A).2;omega⟩,?_⟩
  rw[h.2];simp;omega
def Sq.config (s:Sq):nT × Sq :=
  match s.dI 5 with
  | (a,s1)=>match s1.dI 5 with
    | (b,s2)=>match s2.dI 5 with
      | (c,s3)=>match s3.dI 7 with
        | (d,s4)=>match s4.dI 4 with
          | (e,s5)=>match s5.dI 2 with
            | (f,s6)=>({dc:=idF a,dW:=idF b,seq:=idF c,aT:=d+1,aS:=e+1,cJ:=32768,dU:=decide (f=1)},s6)
def Sq.record (s:Sq) (seq:Nat):Rec × Sq :=
  match s.pairs 4 with
  | (ps,s1)=>match s1.dI 40 with
    | (a,s2)=>match s2.dI 9 with
      | (b,s3)=>match s3.dI 3 with
        | (c,s4)=>({seq:=seq,cH:=a,mono:=b,bZ:=idF c,ak:=(kW ps).1},s4)
end Go.Wk
namespace Go.Wk
open Go Go.RowKit
section
variable {P:Program} {Q:Exit→Act→World→Prop} {n:Nat} {A:Fr n} {D:List Deferred} {l:List (Nat × Value)} {w:World}
def afl {X0 X1 X2 X3 X4 X5 X6 X7 X8:Type} (n:Nat) (D:List Deferred) (inv:X0→X1→X2→X3→X4→X5→X6→X7→X8→List (Nat × Value)) (W:X0→X1→X2→X3→X4→X5→X6→X7→X8→World→Prop) (mu:X0→X1→X2→X3→X4→X5→X6→X7→X8→Nat) (m:Nat) (a:Act) (w:World):Prop :=
  ∃y0:X0,∃y1:X1,∃y2:X2,∃y3:X3,∃y4:X4,∃y5:X5,∃y6:X6,∃y7:X7,∃y8:X8,∃B:Fr n,a=bA B D (inv y0 y1 y2 y3 y4 y5 y6 y7 y8)∧W y0 y1 y2 y3 y4 y5 y6 y7 y8 w∧mu y0 y1 y2 y3 y4 y5 y6 y7 y8<m
theorem ail {X0 X1 X2 X3 X4 X5 X6 X7 X8:Type} {c:Code} (inv:X0→X1→X2→X3→X4→X5→X6→X7→X8→List (Nat × Value)) (W:X0→X1→X2→X3→X4→X5→X6→X7→X8→World→Prop) (mu:X0→X1→X2→X3→X4→X5→X6→X7→X8→Nat) (x0:X0) (x1:X1) (x2:X2) (x3:X3) (x4:X4) (x5:X5) (x6:X6) (x7:X7) (x8:X8) (h0:Fits n l (inv x0 x1 x2 x3 x4 x5 x6 x7 x8)) (hw:W x0 x1 x2 x3 x4 x5 x6 x7 x8 w)
    (round:∀(x0:X0) (x1:X1) (x2:X2) (x3:X3) (x4:X4) (x5:X5) (x6:X6) (x7:X7) (x8:X8) (B:Fr n) (w':World),W x0 x1 x2 x3 x4 x5 x6 x7 x8 w'→c.wp P (Exit.then (afl n D inv W mu (mu x0 x1 x2 x3 x4 x5 x6 x7 x8)) Q) (bA B D (inv x0 x1 x2 x3 x4 x5 x6 x7 x8)) w') :
    (Code.loop c).wp P Q (bA A D l) w:=by
  refine jS (X:=X0 × X1 × X2 × X3 × X4 × X5 × X6 × X7 × X8) (fun p=>inv p.1 p.2.1 p.2.2.1 p.2.2.2.1 p.2.2.2.2.1 p.2.2.2.2.2.1 p.2.2.2.2.2.2.1 p.2.2.2.2.2.2.2.1 p.2.2.2.2.2.2.2.2) (fun p w=>W p.1 p.2.1 p.2.2.1 p.2.2.2.1 p.2.2.2.2.1 p.2.2.2.2.2.1 p.2.2.2.2.2.2.1 p.2.2.2.2.2.2.2.1 p.2.2.2.2.2.2.2.2 w) (fun p=>mu p.1 p.2.1 p.2.2.1 p.2.2.2.1 p.2.2.2.2.1 p.2.2.2.2.2.1 p.2.2.2.2.2.2.1 p.2.2.2.2.2.2.2.1 p.2.2.2.2.2.2.2.2) (x0,x1,x2,x3,x4,x5,x6,x7,x8) h0 hw (fun p B w' h=>wp_mono (round (p.1) (p.2.1) (p.2.2.1) (p.2.2.2.1) (p.2.2.2.2.1) (p.2.2.2.2.2.1) (p.2.2.2.2.2.2.1) (p.2.2.2.2.2.2.2.1) (p.2.2.2.2.2.2.2.2) B w' h) ?_)
  intro e S T h
  cases e with
  | normal=>obtain⟨H,I,J,K,L,M,N,O,R,C,E,F,G⟩:=h;exact⟨(H,I,J,K,L,M,N,O,R),C,E,F,G⟩
  | _=>exact h
theorem ain {X0 X1 X2 X3 X4 X5 X6 X7 X8:Type} {inv:X0→X1→X2→X3→X4→X5→X6→X7→X8→List (Nat × Value)} {W:X0→X1→X2→X3→X4→X5→X6→X7→X8→World→Prop} {mu:X0→X1→X2→X3→X4→X5→X6→X7→X8→Nat} {m:Nat} (x0:X0) (x1:X1) (x2:X2) (x3:X3) (x4:X4) (x5:X5) (x6:X6) (x7:X7) (x8:X8) (hm:mu x0 x1 x2 x3 x4 x5 x6 x7 x8<m) (hf:Fits n l (inv x0 x1 x2 x3 x4 x5 x6 x7 x8)) (hw:W x0 x1 x2 x3 x4 x5 x6 x7 x8 w) :
    afl n D inv W mu m (bA A D l) w:=⟨x0,x1,x2,x3,x4,x5,x6,x7,x8,_,(ea (A:=A) (D:=D) hf).symm,hw,hm⟩
def aau {X0 X1 X2 X3 X4 X5 X6 X7 X8 X9:Type} (n:Nat) (D:List Deferred) (inv:X0→X1→X2→X3→X4→X5→X6→X7→X8→X9→List (Nat × Value)) (W:X0→X1→X2→X3→X4→X5→X6→X7→X8→X9→World→Prop) (mu:X0→X1→X2→X3→X4→X5→X6→X7→X8→X9→Nat) (m:Nat) (a:Act) (w:World):Prop :=
  ∃y0:X0,∃y1:X1,∃y2:X2,∃y3:X3,∃y4:X4,∃y5:X5,∃y6:X6,∃y7:X7,∃y8:X8,∃y9:X9,∃B:Fr n,a=bA B D (inv y0 y1 y2 y3 y4 y5 y6 y7 y8 y9)∧W y0 y1 y2 y3 y4 y5 y6 y7 y8 y9 w∧mu y0 y1 y2 y3 y4 y5 y6 y7 y8 y9<m
theorem agj {X0 X1 X2 X3 X4 X5 X6 X7 X8 X9:Type} {c:Code} (inv:X0→X1→X2→X3→X4→X5→X6→X7→X8→X9→List (Nat × Value)) (W:X0→X1→X2→X3→X4→X5→X6→X7→X8→X9→World→Prop) (mu:X0→X1→X2→X3→X4→X5→X6→X7→X8→X9→Nat) (x0:X0) (x1:X1) (x2:X2) (x3:X3) (x4:X4) (x5:X5) (x6:X6) (x7:X7) (x8:X8) (x9:X9) (h0:Fits n l (inv x0 x1 x2 x3 x4 x5 x6 x7 x8 x9)) (hw:W x0 x1 x2 x3 x4 x5 x6 x7 x8 x9 w)
    (round:∀(x0:X0) (x1:X1) (x2:X2) (x3:X3) (x4:X4) (x5:X5) (x6:X6) (x7:X7) (x8:X8) (x9:X9) (B:Fr n) (w':World),W x0 x1 x2 x3 x4 x5 x6 x7 x8 x9 w'→c.wp P (Exit.then (aau n D inv W mu (mu x0 x1 x2 x3 x4 x5 x6 x7 x8 x9)) Q) (bA B D (inv x0 x1 x2 x3 x4 x5 x6 x7 x8 x9)) w') :
    (Code.loop c).wp P Q (bA A D l) w:=by
  refine jS (X:=X0 × X1 × X2 × X3 × X4 × X5 × X6 × X7 × X8 × X9) (fun p=>inv p.1 p.2.1 p.2.2.1 p.2.2.2.1 p.2.2.2.2.1 p.2.2.2.2.2.1 p.2.2.2.2.2.2.1 p.2.2.2.2.2.2.2.1 p.2.2.2.2.2.2.2.2.1 p.2.2.2.2.2.2.2.2.2) (fun p w=>W p.1 p.2.1 p.2.2.1 p.2.2.2.1 p.2.2.2.2.1 p.2.2.2.2.2.1 p.2.2.2.2.2.2.1 p.2.2.2.2.2.2.2.1 p.2.2.2.2.2.2.2.2.1 p.2.2.2.2.2.2.2.2.2 w) (fun p=>mu p.1 p.2.1 p.2.2.1 p.2.2.2.1 p.2.2.2.2.1 p.2.2.2.2.2.1 p.2.2.2.2.2.2.1 p.2.2.2.2.2.2.2.1 p.2.2.2.2.2.2.2.2.1 p.2.2.2.2.2.2.2.2.2) (x0,x1,x2,x3,x4,x5,x6,x7,x8,x9) h0 hw (fun p B w' h=>wp_mono (round (p.1) (p.2.1) (p.2.2.1) (p.2.2.2.1) (p.2.2.2.2.1) (p.2.2.2.2.2.1) (p.2.2.2.2.2.2.1) (p.2.2.2.2.2.2.2.1) (p.2.2.2.2.2.2.2.2.1) (p.2.2.2.2.2.2.2.2.2) B w' h) ?_)
  intro e T U h
  cases e with
  | normal=>obtain⟨H,I,J,K,L,M,N,O,R,S,C,E,F,G⟩:=h;exact⟨(H,I,J,K,L,M,N,O,R,S),C,E,F,G⟩
  | _=>exact h
theorem abH {X0 X1 X2 X3 X4 X5 X6 X7 X8 X9:Type} {inv:X0→X1→X2→X3→X4→X5→X6→X7→X8→X9→List (Nat × Value)} {W:X0→X1→X2→X3→X4→X5→X6→X7→X8→X9→World→Prop} {mu:X0→X1→X2→X3→X4→X5→X6→X7→X8→X9→Nat} {m:Nat} (x0:X0) (x1:X1) (x2:X2) (x3:X3) (x4:X4) (x5:X5) (x6:X6) (x7:X7) (x8:X8) (x9:X9) (hm:mu x0 x1 x2 x3 x4 x5 x6 x7 x8 x9<m) (hf:Fits n l (inv x0 x1 x2 x3 x4 x5 x6 x7 x8 x9)) (hw:W x0 x1 x2 x3 x4 x5 x6 x7 x8 x9 w) :
    aau n D inv W mu m (bA A D l) w:=⟨x0,x1,x2,x3,x4,x5,x6,x7,x8,x9,_,(ea (A:=A) (D:=D) hf).symm,hw,hm⟩
end
end Go.Wk
namespace Go.Wk
open Go Go.RowKit
def known0:bT:={dO:=[],cC:=0,dS:=0,cr:=0,b9:=[]}
def gP (ds:List bT) (i:Nat):Nat:=(ds.getD i known0).cC
def lX (ds:List bT) (p:Nat) (order:List Nat):Nat→Nat
  | 0=>0
  | n+1=>if p<gP ds (order.getD n 0)then lX ds p order n else n+1
def nu (ds:List bT) (k:Nat) (order:List Nat):List Nat :=
  let n:=lX ds (gP ds k) order order.length
  order.take n ++ [k] ++ order.drop n
def iG:List Pr→Mk→List (List UInt8)→List Nat→List (List UInt8) × List Nat × Mk
  | [],m,ps,od=>(ps,od,m)
  | x :: r,m,ps,od =>
    match m.data x with
    | (k,m1)=>iG r m1 (ps ++ [(m1.aj.getD k known0).dO]) (nu m1.aj k od)
def jL (m:Mk) (od:List Nat):List jO:=od.map fun i=>{cC:=gP m.aj i,dH:=ec m.c.dU m.c.dc (m.aj.getD i known0).dO}
def lH (e:Nat):List Nat→Mk→Mk
  | [],m=>m
  | i :: r,m =>
    let k:=m.aj.getD i known0
    if k.cr=0 then
      let m29:=(m.put (k.cC+40) e).put (k.cC+56) 1
      lH e r {m29 with aj:=m29.aj.set i {k with cr:=1}}
    else
      match m.link k.b9 (k.cr-1) (k.cC+48) e with
      | (a,_,m1) =>
        let m29:=m1.put (k.cC+56) (k.cr+1)
        lH e r {m29 with aj:=m29.aj.set i {k with b9:=a,cr:=k.cr+1}}
def Mk.append (m:Mk) (ak:List Pr) (cH mono:Nat) (bZ:Ly):Nat × Nat × Mk :=
  match kW ak with
  | (l,c) =>
    if c≠0 then(0,c,m)
    else if m.dI 9=18446744073709551615 then(0,1,m)
    else
      match iG l m [] []with
      | (ps,od,m1) =>
        let seq:=(m1.dI 9+1)%18446744073709551616
        match m1.dD (ew {seq:=seq,cH:=cH,mono:=mono,bZ:=bZ,xor:=nH 0 ps,ay:=jL m1 od})with
        | (e,m29) =>
          let n:=m29.dI 8
          match m29.link m29.main n 176 e with
          | (a,t,m3) =>
            let m4:=({m3 with main:=a}:Mk).dZ 11 (a.getD 0 0)
            let m5:={m4 with h:={m4.h with cT:=kr a%4294967296,cZ:=t%4294967296}}
            let m6:=lH e od m5
            if m6.c.cJ<m6.b.length then(0,15,m)
            else
              let m7:=if n=0 then(m6.dZ 10 seq).dZ 12 cH else m6
              let m8:=m7.dZ 8 ((m7.dI 8+1)%18446744073709551616)
              let m9:=((m8.dZ 9 seq).dZ 13 cH).dZ 14 mono
              (seq,0,{m9 with h:={m9.h with bZ:=bZ,dw:=e}})
def kF:Nat→Sq→Mk→List Rec→Mk × List Rec × Sq
  | 0,s,m,rs=>(m,rs,s)
  | n+1,s,m,rs =>
    if s.cC<s.l.length then
      match s.record ((m.dI 9+1)%18446744073709551616)with
      | (r,s1) =>
        match m.append r.ak r.cH r.mono r.bZ with
        | (_,c,m1)=>if c≠0 then(m1,rs,s1)else kF n s1 m1 (rs ++ [r])
    else(m,rs,s)
def Sq.qT (s:Sq) (cJ:Nat):Mk × List Rec × Sq :=
  match s.config with
  | (c,s1) =>
    match s1.dI 6 with
    | (t,s2)=>kF cJ s2 (j5 c t) []
def nV (l:List Int) (cJ:Nat):List UInt8:=ni ((Sq.mk l 0).qT cJ).1 1
end Go.Wk
namespace Go.Wk
open Go Go.RowKit
structure afD (m m':Mk) (k len:Nat):Prop where
  lt:k<m'.aj.length
  ge:m.b.length≤m'.b.length
  le:m'.b.length≤m.b.length+len
  c:m'.c=m.c
  main:m'.main=m.main
  pre:m'.aj=m.aj∨∃x:bT,m'.aj=m.aj ++ [x]∧x.cr=0∧x.b9=[]∧x.cC+64≤m'.b.length
  fl:m'.ak.length≤m.ak.length+1
  fit:m'.fit
  n8:m'.h.n.getD 8 0=m.h.n.getD 8 0
theorem lN (m:Mk) (p v:Nat):(m.put p v).c=m.c∧(m.put p v).aj=m.aj∧(m.put p v).ak=m.ak∧(m.put p v).main=m.main∧(m.put p v).h=m.h∧(m.put p v).depth=m.depth:=⟨q,q,q,q,q,q⟩
theorem JL (m:Mk) (x:Pr) (h:m.fit):afD m (m.data x).2 (m.data x).1 (400+x.name.length+(aR x).length):=by
  unfold Mk.data
  cases hk:oo (aR x) m.aj 0 with
  | some i =>
    have:=aaX hk
    exact⟨by simp only;omega,Nat.le_refl _,by simp only;omega,q,q,.inl q,by simp only;omega,h,q⟩
  | none =>
    simp only
    have D:=ji m (jb {dH:=ec m.c.dU m.c.dc (aR x),cP:=0,dR:=0,entry:=0,array:=0,cr:=0,aR:=aR x})
    have Q:=eV m (jb {dH:=ec m.c.dU m.c.dc (aR x),cP:=0,dR:=0,entry:=0,array:=0,cr:=0,aR:=aR x})
    have R:(m.dD (jb {dH:=ec m.c.dU m.c.dc (aR x),cP:=0,dR:=0,entry:=0,array:=0,cr:=0,aR:=aR x})).2.h.n.getD 8 0=m.h.n.getD 8 0:=by
      simp only[Mk.dD,Mk.dZ];rw[cw Kq,cw Kq]
    rw[wP]at D
    simp only at D
    generalize m.dD (jb {dH:=ec m.c.dU m.c.dc (aR x),cP:=0,dR:=0,entry:=0,array:=0,cr:=0,aR:=aR x})=r at *
    obtain⟨p,A⟩:=r
    simp only at D Q R ⊢
    have S:=ud A A.aj (A.dI 2) p (ec m.c.dU m.c.dc (aR x)%A.c.aT)
    have T:=iP A A.aj (A.dI 2) p (ec m.c.dU m.c.dc (aR x)%A.c.aT)
    generalize A.hang A.aj (A.dI 2) p (ec m.c.dU m.c.dc (aR x)%A.c.aT)=r at *
    obtain⟨n,B⟩:=r
    simp only at S T ⊢
    obtain⟨a1,a2,a3,a4,a5,a6,a7,a8⟩:=D
    obtain⟨Z,J,K,a⟩:=Q
    obtain⟨c1,c2,c3,c4,c5,c6,c7⟩:=S
    obtain⟨d,L,M,e,d5,f⟩:=T
    generalize hx5:({(B.dZ 19 (max (B.dI 19) n)).dZ 15 (((B.dZ 19 (max (B.dI 19) n)).dI 15+1)%18446744073709551616)with aj:=((B.dZ 19 (max (B.dI 19) n)).dZ 15 (((B.dZ 19 (max (B.dI 19) n)).dI 15+1)%18446744073709551616)).aj ++ [({dO:=aR x,cC:=p,dS:=ec m.c.dU m.c.dc (aR x)%A.c.aT,cr:=0,b9:=[]}:bT)]}:Mk)=m5
    have j:m5.b=B.b∧m5.c=B.c∧m5.aj=B.aj ++ [({dO:=aR x,cC:=p,dS:=ec m.c.dU m.c.dc (aR x)%A.c.aT,cr:=0,b9:=[]}:bT)]∧m5.ak=B.ak∧m5.main=B.main:=by subst hx5;exact⟨q,q,q,q,q⟩
    have v:m5.h.n.getD 2 0=m.h.n.getD 2 0:=by subst hx5;simp only[Mk.dZ];rw[cw Kq,cw Kq];omega
    have w:m5.h.n.getD 4 0=m.h.n.getD 4 0:=by subst hx5;simp only[Mk.dZ];rw[cw Kq,cw Kq];omega
    have g8:m5.h.n.getD 8 0=m.h.n.getD 8 0:=by subst hx5;simp only[Mk.dZ];rw[cw Kq,cw Kq,f,R]
    clear hx5
    obtain⟨g,E,O,P,l⟩:=j
    have l5:m5.b.length=A.b.length:=by rw[g];omega
    have u:m5.fit:=by
      refine pN h ⟨by rw[E];omega,by rw[E];omega,v,w,by omega⟩ (fun k hk=>?_) (fun k hk=>?_)
      · rw[O,L,J,List.mem_append,List.mem_singleton]at hk
        rcases hk with hk|rfl
        · exact .inl hk
        · right;simp only;omega
      · rw[P,M,K]at hk;exact .inl hk
    have U:=tZ m5 x.name u
    generalize m5.field x.name=r at *
    obtain⟨k,C⟩:=r
    simp only at U ⊢
    obtain⟨⟨q1,q2,q3,q4,q5,q6,q7,q8,q9,y⟩,⟨z,s2,s3⟩,s4⟩:=U
    have l8:((C.put (p+32) (p5 C.b (k+32:Nat) 8).1).put (k+32) p).b.length=C.b.length:=by rw[kI,kI]
    have o:=lN C (p+32) (p5 C.b (k+32:Nat) 8).1
    have t:=lN (C.put (p+32) (p5 C.b (k+32:Nat) 8).1) (k+32) p
    generalize C.put (p+32) (p5 C.b (k+32:Nat) 8).1=m7 at *
    generalize m7.put (k+32) p=m8 at *
    obtain⟨F,V,W,v4,G,_⟩:=o
    obtain⟨H,X,Y,w4,I,_⟩:=t
    have N:m8.aj=m.aj ++ [({dO:=aR x,cC:=p,dS:=ec m.c.dU m.c.dc (aR x)%A.c.aT,cr:=0,b9:=[]}:bT)]:=by rw[X,V,s2,O,L,J]
    refine⟨by rw[N];simp,by omega,by omega,by rw[H,F,z,E,d,Z],by rw[w4,v4,s3,l,e,a],.inr ⟨_,N,q,q,by simp only;omega⟩,?_,?_,by rw[I,G];omega⟩
    · have:=congrArg List.length P;rw[M,K]at this;rw[Y,W];omega
    · refine pN s4 ⟨by rw[H,F],by rw[H,F],by rw[I,G],by rw[I,G],by omega⟩ (fun k hk=>.inl (by rw[X,V]at hk;exact hk)) (fun k hk=>.inl (by rw[Y,W]at hk;exact hk))
theorem ZO (l:List Nat) (p k a r:Nat):fu (l ++ [p]) k a r=((fu l k a r).2,(fu l k a r).2+e6 ((k+l.length:Nat):Int)):=by
  induction l generalizing k a r with
  | nil=>rfl
  | cons x l ih =>
    show fu (l ++ [p]) (k+1) r (r+e6 (k:Int))=_
    rw[ih]
    show _=((fu l (k+1) r (r+e6 (k:Int))).2,(fu l (k+1) r (r+e6 (k:Int))).2+e6 ((k+(l.length+1):Nat):Int))
    rw[show k+1+l.length=k+(l.length+1)by omega]
theorem acR (l:List Nat) (k a r:Nat):r+4*l.length≤(fu l k a r).2∧(l≠[]→r+4*(l.length-1)≤(fu l k a r).1):=by
  induction l generalizing k a r with
  | nil=>simp[fu]
  | cons x l ih =>
    have C:=tF (k:=(k:Int)) Jy
    obtain⟨B,A⟩:=ih (k+1) r (r+e6 (k:Int))
    refine⟨?_,fun _=>?_⟩
    · show r+4*(l.length+1)≤(fu l (k+1) r (r+e6 (k:Int))).2;omega
    · show r+4*(l.length+1-1)≤(fu l (k+1) r (r+e6 (k:Int))).1
      by_cases hl:l=[]
      · subst hl;simp[fu]
      · have:=A hl
        have:0<l.length:=by cases l with|nil=>exact absurd q hl|cons _ _=>simp
        omega
theorem tX {len n:Nat} {a:List Nat} (h:jT len a n):a.length≤n+1:=by
  obtain⟨_,B,_⟩:=h
  have A:=(acR a 0 0 0).2
  by_cases ha:a=[]
  · subst ha;simp
  have:=A ha;omega
theorem pL {len len' n:Nat} {a:List Nat} (h:jT len a n) (hl:len≤len'):jT len' a n :=
  ⟨fun k x hx=>lj (h.1 k x hx) hl,h.2⟩
theorem chain_nil (len:Nat):jT len [] 0:=⟨by simp,by simp[fu],by simp[fu]⟩
structure aat (m m':Mk) (a:List Nat) (n:Nat):Prop where
  ge:m.b.length≤m'.b.length
  le:m'.b.length≤m.b.length+2100
  c:m'.c=m.c
  aj:m'.aj=m.aj
  ak:m'.ak=m.ak
  main:m'.main=m.main
  chain:jT m'.b.length a (n+1)
  ne:a≠[]
  n8:m'.h.n.getD 8 0=m.h.n.getD 8 0
  n2:m'.h.n.getD 2 0=m.h.n.getD 2 0
  n4:m'.h.n.getD 4 0=m.h.n.getD 4 0
theorem vZ (m:Mk) (b9:List Nat) (n src gX:Nat) (h:jT m.b.length b9 n):aat m (m.link b9 n src gX).2.2 (m.link b9 n src gX).1 n:=by
  obtain⟨R,S,T⟩:=h
  unfold Mk.link
  have F:=fun p=>ZO b9 p 0 0 0
  rcases hq:fu b9 0 0 0 with⟨A,B⟩
  rw[hq]at S T F
  simp only at S T F ⊢
  rw[Nat.zero_add]at F
  split
  · rename_i hn
    have G:=ji m (fP {next:=0,ay:=List.replicate (e6 (b9.length:Int)) 0})
    have Q:=eV m (fP {next:=0,ay:=List.replicate (e6 (b9.length:Int)) 0})
    have o:(m.dD (fP {next:=0,ay:=List.replicate (e6 (b9.length:Int)) 0})).2.h.n.getD 8 0=m.h.n.getD 8 0:=by
      simp only[Mk.dD,Mk.dZ];rw[cw Kq,cw Kq]
    rw[uJ]at G
    simp only[List.length_replicate]at G
    generalize m.dD (fP {next:=0,ay:=List.replicate (e6 (b9.length:Int)) 0})=r at *
    obtain⟨p,C⟩:=r
    simp only at G Q o ⊢
    obtain⟨w,y,z,a4,a5,a6,a7,a8⟩:=G
    obtain⟨U,V,W,X⟩:=Q
    have O:=tG (b9.length:Int)
    have H:=tF (k:=(b9.length:Int)) Jy
    generalize hx2:C.dZ 18 ((C.dI 18+1)%18446744073709551616)=m29
    have u:m29.b=C.b∧m29.c=C.c∧m29.aj=C.aj∧m29.ak=C.ak∧m29.main=C.main:=by subst hx2;exact ZR _ _ _
    have t8:m29.h.n.getD 8 0=C.h.n.getD 8 0:=by subst hx2;exact fA Kq
    have t2:m29.h.n.getD 2 0=C.h.n.getD 2 0:=by subst hx2;exact fA Kq
    have t4:m29.h.n.getD 4 0=C.h.n.getD 4 0:=by subst hx2;exact fA Kq
    clear hx2
    generalize hx3:(if b9.length=0 then m29.put src p else m29.put (kr b9+16) p)=m3
    have v:m3.b.length=m29.b.length∧m3.c=m29.c∧m3.aj=m29.aj∧m3.ak=m29.ak∧m3.main=m29.main∧m3.h=m29.h:=by
      subst hx3
      split
      · exact⟨kI _ _ _,q,q,q,q,q⟩
      · exact⟨kI _ _ _,q,q,q,q,q⟩
    clear hx3
    have t:=kI m3 (kr (b9 ++ [p])+24+8*(n-B)) gX
    have P:=lN m3 (kr (b9 ++ [p])+24+8*(n-B)) gX
    generalize m3.put (kr (b9 ++ [p])+24+8*(n-B)) gX=m4 at *
    obtain⟨Y,Z,d,e,f⟩:=u
    obtain⟨d1,g,i,j,l,I⟩:=v
    obtain⟨J,K,L,M,E,_⟩:=P
    have l2:=congrArg List.length Y
    have ll:m4.b.length=m.b.length+(16+(8+8*e6 (b9.length:Int))+7)/8*8:=by omega
    refine⟨by omega,by omega,by rw[J,g,Z,U],by rw[K,i,d,V],by rw[L,j,e,W],by rw[M,l,f,X],⟨fun k x D=>?_,?_,?_⟩,by simp,by rw[E,I];omega,by rw[E,I];omega,by rw[E,I];omega⟩
    · rcases Nat.lt_or_ge k b9.length with hk|hk
      · rw[List.getElem?_append_left hk]at D
        have:=R k x D;omega
      have N:=(List.getElem?_eq_some_iff.1 D).1
      simp at N
      have:k=b9.length:=by omega
      subst this
      rw[List.getElem?_append_right (Nat.le_refl _)]at D
      simp at D
      subst D
      omega
    · rw[F];simp only;omega
    rw[F];simp only;omega
  rename_i hn
  have t:=kI m (kr b9+24+8*(n-A)) gX
  have P:=lN m (kr b9+24+8*(n-A)) gX
  generalize m.put (kr b9+24+8*(n-A)) gX=m4 at *
  obtain⟨J,K,L,M,E,_⟩:=P
  show aat m m4 b9 n
  refine⟨by omega,by omega,J,K,L,M,⟨fun k x D=>by have:=R k x D;omega,by rw[hq];simp only;omega,by rw[hq];simp only;omega⟩,?_,by rw[E],by rw[E],by rw[E]⟩
  rintro rfl
  simp[fu]at hq
  omega
def Mk.n8 (m:Mk):Nat:=m.h.n.getD 8 0
def M0 (m:Mk) (cJ:Nat):Prop:=∀k∈m.aj,jT m.b.length k.b9 (k.cr-1)∧(k.cr=0→k.b9=[])∧k.dO.length≤400∧k.cr≤cJ
structure vD (m:Mk):Prop where
  fit:m.fit
  main:jT m.b.length m.main m.n8
  chains:M0 m (16*m.n8)
  nd:m.aj.length≤16*m.n8
  nf:m.ak.length≤16*m.n8
  nb:64*m.n8≤m.b.length
  small:m.b.length≤40000
  cJ:m.c.cJ≤40000
  hd:272≤m.b.length
structure l9 (m0 m:Mk) (d e:Nat) (j:Nat):Prop where
  fit:m.fit
  c:m.c=m0.c
  n8:m.n8=m0.n8
  chains:M0 m (16*m0.n8+j)
  nd:m.aj.length≤m0.aj.length+d
  nf:m.ak.length≤m0.ak.length+d
  ge:m0.b.length≤m.b.length
  le:m.b.length≤m0.b.length+e
theorem WR {m:Mk} (h:vD m):l9 m m 0 0 0:=⟨h.fit,q,q,h.chains,Nat.le_refl _,Nat.le_refl _,Nat.le_refl _,Nat.le_refl _⟩
theorem FE {m:Mk} {x:Pr} (y:bT) (h:y∈(m.data x).2.aj):y∈m.aj∨y.dO=aR x:=by
  unfold Mk.data at h
  split at h
  · exact .inl h
  simp only at h
  have F:=eV m (jb {dH:=ec m.c.dU m.c.dc (aR x),cP:=0,dR:=0,entry:=0,array:=0,cr:=0,aR:=aR x})
  generalize m.dD (jb {dH:=ec m.c.dU m.c.dc (aR x),cP:=0,dR:=0,entry:=0,array:=0,cr:=0,aR:=aR x})=r at *
  obtain⟨p,B⟩:=r
  simp only at h F
  have G:=iP B B.aj (B.dI 2) p (ec m.c.dU m.c.dc (aR x)%B.c.aT)
  generalize B.hang B.aj (B.dI 2) p (ec m.c.dU m.c.dc (aR x)%B.c.aT)=r at *
  obtain⟨n,C⟩:=r
  simp only at h G
  generalize hx5:({(C.dZ 19 (max (C.dI 19) n)).dZ 15 (((C.dZ 19 (max (C.dI 19) n)).dI 15+1)%18446744073709551616)with aj:=((C.dZ 19 (max (C.dI 19) n)).dZ 15 (((C.dZ 19 (max (C.dI 19) n)).dI 15+1)%18446744073709551616)).aj ++ [({dO:=aR x,cC:=p,dS:=ec m.c.dU m.c.dc (aR x)%B.c.aT,cr:=0,b9:=[]}:bT)]}:Mk)=m5 at h
  have I:m5.aj=C.aj ++ [({dO:=aR x,cC:=p,dS:=ec m.c.dU m.c.dc (aR x)%B.c.aT,cr:=0,b9:=[]}:bT)]:=by subst hx5;rfl
  clear hx5
  have H:(m5.field x.name).2.aj=m5.aj:=by
    unfold Mk.field
    split
    · rfl
    · simp only
      have D:=eV m5 (ig {dH:=ec m5.c.dU m5.c.dc x.name,cP:=0,dat:=0,aR:=x.name})
      generalize m5.dD (ig {dH:=ec m5.c.dU m5.c.dc x.name,cP:=0,dat:=0,aR:=x.name})=r at *
      obtain⟨q,A⟩:=r
      simp only at D ⊢
      have E:=iP A A.ak (A.dI 4) q (ec m5.c.dU m5.c.dc x.name%A.c.aS)
      generalize A.hang A.ak (A.dI 4) q (ec m5.c.dU m5.c.dc x.name%A.c.aS)=r at *
      obtain⟨M,L⟩:=r
      simp only at E ⊢
      show L.aj=m5.aj
      rw[E.2.1,D.2.1]
  generalize m5.field x.name=r at *
  obtain⟨k,A⟩:=r
  simp only at h H
  have J:=(lN A (p+32) (p5 A.b (k+32:Nat) 8).1).2.1
  have K:=(lN (A.put (p+32) (p5 A.b (k+32:Nat) 8).1) (k+32) p).2.1
  rw[K,J,H,I,List.mem_append,List.mem_singleton,G.2.1,F.2.1]at h
  rcases h with h|rfl
  · exact .inl h
  exact .inr rfl
theorem AF {m0 m:Mk} {d e j:Nat} {x:Pr} (h:l9 m0 m d e j) (hx:x.name.length≤64∧x.value.length≤256):l9 m0 (m.data x).2 (d+1) (e+900) j∧(m.data x).1<(m.data x).2.aj.length∧(m.data x).2.main=m.main:=by
  have g:=JL m x h.fit
  have G:=fun y=>FE (m:=m) (x:=x) y
  have U:=lM x
  generalize m.data x=r at *
  obtain⟨k,H⟩:=r
  simp only at g G ⊢
  have D:=g.ge;have I:=g.le;have O:=h.ge;have P:=h.le;have Q:=h.nd;have R:=h.nf;have S:=g.fl
  have T:H.aj.length≤m.aj.length+1:=by
    rcases g.pre with e|⟨x,e,_⟩ <;> rw[e] <;> simp
  refine⟨⟨g.fit,g.c.trans h.c,(show H.h.n.getD 8 0=m0.n8 from g.n8.trans h.n8),fun y A=>?_,by omega,by omega,by omega,by omega⟩,g.lt,g.main⟩
  have F:y∈m.aj∨(y.cr=0∧y.b9=[]):=by
    rcases g.pre with e|⟨x,e,C,B,_⟩
    · rw[e]at A;exact .inl A
    · rw[e,List.mem_append,List.mem_singleton]at A
      rcases A with A|rfl
      · exact .inl A
      · exact .inr ⟨C,B⟩
  rcases F with E|⟨C,B⟩
  · obtain⟨K,L,M,N⟩:=h.chains y E
    exact⟨pL K D,L,M,N⟩
  refine⟨by rw[C,B];exact chain_nil _,fun _=>B,?_,by omega⟩
  rcases G y A with E|J
  · exact(h.chains y E).2.2.1
  rw[J];omega
theorem AJ {m0 m m':Mk} {d e e' j j':Nat} (h:l9 m0 m d e j) (hc:m'.c=m.c) (h8:m'.n8=m.n8) (h2:m'.h.n.getD 2 0=m.h.n.getD 2 0) (h4:m'.h.n.getD 4 0=m.h.n.getD 4 0) (hd:m'.aj=m.aj) (hf:m'.ak=m.ak)
    (hg:m.b.length≤m'.b.length) (hl:m'.b.length≤m.b.length+e') (hj:j≤j'):l9 m0 m' d (e+e') j':=by
  have:=h.ge;have:=h.le
  refine⟨pN h.fit ⟨by rw[hc],by rw[hc],h2,h4,hg⟩ (fun k hk=>.inl (hd ▸ hk)) (fun k hk=>.inl (hf ▸ hk)),hc.trans h.c,h8.trans h.n8,fun k hk=>?_,by rw[hd];exact h.nd,by rw[hf];exact h.nf,by omega,by omega⟩
  rw[hd]at hk
  obtain⟨A,B,C,D⟩:=h.chains k hk
  exact⟨pL A hg,B,C,by omega⟩
theorem AI {m0 m:Mk} {d e j L:Nat} {o:Ly} (h:l9 m0 m d e j) (ho:o.length≤L):l9 m0 (m.dD o).2 d (e+L) j:=by
  have A:=ji m o
  have B:=eV m o
  have C:(m.dD o).2.h.n.getD 8 0=m.h.n.getD 8 0:=by simp only[Mk.dD,Mk.dZ];rw[cw Kq,cw Kq]
  exact AJ h B.1 C A.2.2.2.2.2.2.1 A.2.2.2.2.2.2.2 B.2.1 B.2.2.1 (by rw[A.2.1];omega) (by rw[A.2.1];omega) (Nat.le_refl _)
theorem IX {m0 m:Mk} {d e j:Nat} (p v:Nat) (h:l9 m0 m d e j):l9 m0 (m.put p v) d e j :=
  AJ (e':=0) h q q q q q q (by rw[kI];exact Nat.le_refl _) (by rw[kI];exact Nat.le_refl _) (Nat.le_refl _)
theorem AH {m0 m:Mk} {d e j n src gX:Nat} {b9:List Nat} (h:l9 m0 m d e j) (hc:jT m.b.length b9 n):l9 m0 (m.link b9 n src gX).2.2 d (e+2100) j:=by
  have g:=vZ m b9 n src gX hc
  exact AJ h g.c g.n8 g.n2 g.n4 g.aj g.ak g.ge g.le (Nat.le_refl _)
theorem TR {m0 m:Mk} {d e j i:Nat} {k:bT} (h:l9 m0 m d e j) (hi:i<m.aj.length) (hp:k.cC=(m.aj.getD i known0).cC) (ht:k.dO=(m.aj.getD i known0).dO)
    (hk:jT m.b.length k.b9 (k.cr-1)∧(k.cr=0→k.b9=[])∧k.cr≤16*m0.n8+(j+1)):l9 m0 {m with aj:=m.aj.set i k} d e (j+1):=by
  have C:m.aj[i]? = some (m.aj.getD i known0):=by simp[List.getD,hi]
  have B:=List.mem_of_getElem? C
  refine⟨pN h.fit ⟨q,q,q,q,Nat.le_refl _⟩ (fun y A=>?_) (fun y A=>.inl A),h.c,h.n8,fun y A=>?_,by simpa using h.nd,h.nf,h.ge,h.le⟩
  · rcases List.mem_or_eq_of_mem_set A with A|rfl
    · exact .inl A
    right;have:=h.fit.2.2.2.2.2.2.1 _ B;simp only;omega
  rcases List.mem_or_eq_of_mem_set A with A|rfl
  · obtain⟨D,E,F,G⟩:=h.chains y A;exact⟨D,E,F,by omega⟩
  exact⟨hk.1,hk.2.1,by rw[ht];exact(h.chains _ B).2.2.1,hk.2.2⟩
def lG (e:Nat) (i:Nat) (m:Mk):Mk :=
  let k:=m.aj.getD i known0
  if k.cr=0 then
    let m29:=(m.put (k.cC+40) e).put (k.cC+56) 1
    {m29 with aj:=m29.aj.set i {k with cr:=1}}
  else
    match m.link k.b9 (k.cr-1) (k.cC+48) e with
    | (a,_,m1) =>
      let m29:=m1.put (k.cC+56) (k.cr+1)
      {m29 with aj:=m29.aj.set i {k with b9:=a,cr:=k.cr+1}}
theorem pO (e i:Nat) (r:List Nat) (m:Mk):lH e (i :: r) m=lH e r (lG e i m):=by
  unfold lG
  rw[lH]
  simp only
  split
  · rfl
  rfl
theorem BL {m0 m:Mk} {d e j i en:Nat} (h:l9 m0 m d e j) (hi:i<m.aj.length):l9 m0 (lG en i m) d (e+2100) (j+1)∧(lG en i m).main=m.main∧(lG en i m).aj.length=m.aj.length:=by
  have K:m.aj[i]? = some (m.aj.getD i known0):=by simp[List.getD,hi]
  have M:=List.mem_of_getElem? K
  obtain⟨I,N,O,P⟩:=h.chains _ M
  unfold lG
  simp only
  generalize hk:m.aj.getD i known0=k at *
  split
  · rename_i h0
    have g:=IX (k.cC+56) 1 (IX (k.cC+40) en h)
    have J:=lN m (k.cC+40) en
    have D:=lN (m.put (k.cC+40) en) (k.cC+56) 1
    have H:((m.put (k.cC+40) en).put (k.cC+56) 1).b.length=m.b.length:=by rw[kI,kI]
    generalize m.put (k.cC+40) en=C at *
    generalize C.put (k.cC+56) 1=m29 at *
    have B:m29.aj=m.aj:=D.2.1.trans J.2.1
    have A:=TR (i:=i) (k:={k with cr:=1}) g (by rw[B];exact hi) (by rw[B,hk]) (by rw[B,hk]) ⟨by simp only;rw[N h0];exact chain_nil _,fun F=>by simp at F,by simp only;omega⟩
    refine⟨⟨A.fit,A.c,A.n8,A.chains,A.nd,A.nf,A.ge,lj A.le Jy⟩,D.2.2.2.1.trans J.2.2.2.1,by simp[B]⟩
  rename_i h0
  have g:=AH (src:=k.cC+48) (gX:=en) h I
  have E:=vZ m k.b9 (k.cr-1) (k.cC+48) en I
  generalize m.link k.b9 (k.cr-1) (k.cC+48) en=r at *
  obtain⟨a,Q,C⟩:=r
  simp only at g E ⊢
  have L:=IX (k.cC+56) (k.cr+1) g
  have D:=lN C (k.cC+56) (k.cr+1)
  have H:=kI C (k.cC+56) (k.cr+1)
  generalize C.put (k.cC+56) (k.cr+1)=m29 at *
  have B:m29.aj=m.aj:=D.2.1.trans E.aj
  have G:=E.chain
  rw[show k.cr-1+1=k.cr by omega,← H]at G
  have A:=TR (i:=i) (k:={k with b9:=a,cr:=k.cr+1}) L (by rw[B];exact hi) (by rw[B,hk]) (by rw[B,hk]) ⟨G,fun F=>by simp at F,by simp only;omega⟩
  exact⟨A,D.2.2.2.1.trans E.main,by simp[B]⟩
theorem BM {m0:Mk} {d en:Nat}:∀(od:List Nat) (m:Mk) (e j:Nat),l9 m0 m d e j→(∀i∈od,i<m.aj.length) →
    l9 m0 (lH en od m) d (e+2100*od.length) (j+od.length)∧(lH en od m).main=m.main∧(lH en od m).aj.length=m.aj.length
  | [],m,e,j,h,_=>⟨h,q,q⟩
  | i :: r,m,e,j,h,hi=>by
    obtain⟨h1,h2,h3⟩:=BL (en:=en) h (hi i Oq)
    obtain⟨g1,g2,g3⟩:=BM r (lG en i m) (e+2100) (j+1) h1 fun x hx=>by rw[h3];exact hi x (by simp[hx])
    rw[pO]
    refine⟨?_,g2.trans h2,g3.trans h3⟩
    have e1:e+2100*(i :: r).length=e+2100+2100*r.length:=by simp;omega
    have A:j+(i :: r).length=j+1+r.length:=by simp;omega
    rw[e1,A];exact g1
def BD (q:Pr):Prop:=q.name.length≤64∧q.value.length≤256
theorem Pk:∀(n j:Nat) (o:List Pr),(∀q∈o,BD q)→∀q∈jA n j o,BD q
  | 0,_,_,h=>h
  | n+1,j,o,h=>by
    unfold jA
    refine Pk n (j-1) _ fun q hq=>?_
    rcases List.mem_or_eq_of_mem_set hq with hq|rfl
    · exact h q hq
    · rw[List.getD_eq_getElem?_getD]
      cases hg:o[j-1]? with
      | none=>exact⟨by simp,by simp⟩
      | some y=>exact h y (List.mem_of_getElem? hg)
theorem aga {p:Pr} {o:List Pr} (hp:BD p) (h:∀q∈o,BD q):∀q∈sI p o,BD q:=by
  unfold sI
  simp only
  split
  · exact h
  intro q B
  rcases List.mem_or_eq_of_mem_set B with B|rfl
  · refine Pk _ _ _ (fun y A=>?_) q B
    rcases List.mem_append.1 A with A|A
    · exact h y A
    simp at A;subst A;exact⟨by simp,by simp⟩
  exact hp
theorem abj:∀(l o:List Pr),(∀q∈o,BD q)→∀(x:List Pr) (c:Nat),PO l o=(x,c)→(∀q∈x,BD q)∧x.length≤16
  | [],o,ho,x,c,h=>by
    unfold PO at h
    split at h
    · obtain⟨rfl,_⟩:=Prod.mk.inj h;simp
    · obtain⟨rfl,_⟩:=Prod.mk.inj h;exact⟨ho,by omega⟩
  | p :: r,o,ho,x,c,h=>by
    unfold PO at h
    split at h
    · obtain⟨rfl,_⟩:=Prod.mk.inj h;simp
    · rename_i h1
      have hr:=yP.1 (Classical.not_not.1 h1)
      simp only[right,Pr.pb,Bool.and_eq_true]at hr
      exact abj r _ (aga ⟨(gL hr.1).2,dT hr.2⟩ ho) x c h
theorem wi {l x:List Pr} {c:Nat} (h:kW l=(x,c)):(∀q∈x,BD q)∧x.length≤16:=by
  unfold kW at h
  split at h
  · obtain⟨rfl,_⟩:=Prod.mk.inj h;simp
  exact abj l [] Oq x c h
theorem GX {ds:List bT} {k i:Nat} {od:List Nat} (h:i∈nu ds k od):i=k∨i∈od:=by
  unfold nu at h
  simp only[List.mem_append,List.mem_singleton]at h
  rcases h with(h|h)|h
  · exact .inr (List.mem_of_mem_take h)
  · exact .inl h
  exact .inr (List.mem_of_mem_drop h)
theorem AK (ds:List bT) (p:Nat) (od:List Nat):∀n,lX ds p od n≤n
  | 0=>Nat.le_refl _
  | n+1=>by
    unfold lX
    split
    · have:=AK ds p od n;omega
    · exact Nat.le_refl _
theorem Zl (ds:List bT) (k:Nat) (od:List Nat):(nu ds k od).length=od.length+1:=by
  have:=AK ds (gP ds k) od od.length
  unfold nu;simp;omega
structure qg (m0 m:Mk) (ps:List (List UInt8)) (od:List Nat) (n:Nat):Prop where
  app:l9 m0 m n (900*n) 0
  main:m.main=m0.main
  idx:∀i∈od,i<m.aj.length
  len:od.length=n∧ps.length=n
  ps:∀t∈ps,t.length≤400
theorem AV {m0 m:Mk} {ps:List (List UInt8)} {od:List Nat} {n:Nat} {x:Pr} (h:qg m0 m ps od n) (hx:BD x) :
    qg m0 (m.data x).2 (ps ++ [((m.data x).2.aj.getD (m.data x).1 known0).dO]) (nu (m.data x).2.aj (m.data x).1 od) (n+1):=by
  obtain⟨C,D,F⟩:=AF h.app hx
  have G:=JL m x h.app.fit
  refine⟨by rw[show 900*(n+1)=900*n+900 by omega];exact C,F.trans h.main,fun i B=>?_,⟨by rw[Zl,h.len.1],by simpa using h.len.2⟩,fun t A=>?_⟩
  · rcases GX B with rfl|B
    · exact D
    have:=h.idx i B
    have H:m.aj.length≤(m.data x).2.aj.length:=by
      rcases G.pre with e|⟨y,e,_⟩ <;> rw[e] <;> simp
    omega
  rcases List.mem_append.1 A with A|A
  · exact h.ps t A
  simp at A
  subst A
  have E:(m.data x).2.aj[(m.data x).1]? = some ((m.data x).2.aj.getD (m.data x).1 known0):=by simp[List.getD,D]
  exact(C.chains _ (List.mem_of_getElem? E)).2.2.1
theorem xw {m0:Mk}:∀(l:List Pr) (m:Mk) (ps:List (List UInt8)) (od:List Nat) (n:Nat),qg m0 m ps od n→(∀q∈l,BD q) →
    qg m0 (iG l m ps od).2.2 (iG l m ps od).1 (iG l m ps od).2.1 (n+l.length)
  | [],m,ps,od,n,h,_=>h
  | x :: r,m,ps,od,n,h,hb=>by
    have h1:=AV h (hb x Oq)
    have h2:=xw r _ _ _ _ h1 fun q hq=>hb q (by simp[hq])
    rw[show n+(x :: r).length=n+1+r.length by simp;omega]
    exact h2
theorem sR {m:Mk} (h:vD m):qg m m [] [] 0:=⟨WR h,q,by simp,⟨q,q⟩,by simp⟩
end Go.Wk
namespace Go.Wk
open Go Go.RowKit
section
variable {P:Program} {ops:Array Oper} {md:Region.Mode} {C:World→Prop} {Q:Exit→Act→World→Prop} {QN:Act→World→Prop}
variable {n:Nat} {A:Fr n} {D:List Deferred} {l:List (Nat × Value)} {w:World} {f:Nat} {listed:Array Bool}
theorem xo {R:Act→World→Prop} {id:Nat} {lo:List Oper} {a:Act} (C:World→Prop) (hm:P.follows .mixedOrders=true) (hk:∀a' w',R a' w'→Q .normal a' w')
  (h:∀w',Md [] w w'→mr P .any lo.toArray C R lo.length (Array.replicate lo.length false) a w'):(Code.region id lo.toArray true).wp P Q a w:=by
 refine wp_region_any hm (qc (C:=C) (QN:=R) hk _ _ _ _ ?_)
 have:=h _ (Md.drew w)
 simpa using this
theorem oW {a:Act} (hr:(Region.ready md ops listed).isEmpty=true) (h:QN a w):mr P md ops C QN 0 listed a w:=⟨by simpa using hr,h⟩
theorem fH {i d:Nat} {op:Op} {ty:TypeId} {ps:String} {af:Array Edge} (v:Value) (hi:ops[i]? = some ⟨some d,op,ty,ps,af,none⟩) (hs:Region.noSelect ops=true) (hB:((Region.ready md ops listed).contains i && Region.free md ops listed i)=true) (hC:C w)
    (hv:∀w',C w'→dn P ⟨some d,op,ty,ps,af,none⟩ (bA A D l).eval w' v) (k:mr P md ops C QN f (listed.setIfInBounds i true) (bA A D ((d,v) :: l)) w):mr P md ops C QN (f+1) listed (bA A D l) w:=by
  simp only[Bool.and_eq_true]at hB
  exact rZ hi (Region.noSelect_spec hs) f listed _ w (Region.free_spec hi hB.2) (by simpa using hB.1) hC (.inl ⟨by simp[Region.wanted],fun w' B=>hv w' B⟩) k
theorem RE {i:Nat} {o:Oper} {a:Act} {K:Act→World→Prop} (hi:ops[i]? = some o) (hg:o.guard=none) (h:wpList P ops (fun e a' w'=>e = .normal∧C w'∧K a' w') [o] a w):opC P ops C i K a w:=by
  have D:Region.wanted o (yielded ops a.tmps)=true:=by unfold Region.wanted;rw[hg]
  unfold opC
  simp only[hi]
  rw[if_pos D]
  unfold wpList at h
  rw[if_pos D]at h
  rcases h with h|h
  · unfold Oper.wp at *
    generalize (execOp a.eval o).run P w=r at *
    cases r with
    | ok x w' =>
      cases x <;> simp only[Oper.upon]at h ⊢
      case value v=>exact(show _∧_ from h).2
      case skip=>exact(show _∧_ from h).2
      case defer d=>exact(show _∧_ from h).2
      case enter f args =>
        refine h.mono fun e B A=>?_
        cases e with
        | returned v=>exact(show _∧_ from A).2
        | panicked c=>exact absurd A.1 Oq
        | outgrown=>obtain⟨_,_,A⟩:=A;exact absurd A.1 Oq
      case row r args=>exact h.mono fun v B A=>(show _∧_ from A).2
    | halt x w' =>
      cases x <;> simp only[Oper.upon]at h ⊢
      exact absurd h.1 Oq
  obtain⟨_,_,_,A⟩:=h;exact absurd A.1 Oq
theorem eG {i:Nat} {o:Oper} {a:Act} (hr:decide (Region.ready md ops listed=[i])=true) (hi:ops[i]? = some o) (hg:o.guard=none)
    (h:wpList P ops (fun e a' w'=>e = .normal∧C w'∧mr P md ops C QN f (listed.setIfInBounds i true) a' w') [o] a w):mr P md ops C QN (f+1) listed a w:=by
  have hr:=dT hr
  refine⟨fun A=>(by rw[hr]at A;cases A),fun k hk=>?_⟩
  rw[hr]at hk
  have:k=i:=by simpa using hk
  subst this
  exact RE hi hg h
theorem uG {i j:Nat} {o o':Oper} {a:Act} (hr:decide (Region.ready md ops listed=[i,j])=true) (hi:ops[i]? = some o) (hg:o.guard=none) (hj:ops[j]? = some o') (hg':o'.guard=none)
    (h:wpList P ops (fun e a' w'=>e = .normal∧C w'∧mr P md ops C QN f (listed.setIfInBounds i true) a' w') [o] a w)
    (h':wpList P ops (fun e a' w'=>e = .normal∧C w'∧mr P md ops C QN f (listed.setIfInBounds j true) a' w') [o'] a w):mr P md ops C QN (f+1) listed a w:=by
  have hr:=dT hr
  refine⟨fun A=>(by rw[hr]at A;cases A),fun k hk=>?_⟩
  rw[hr]at hk
  have:k=i∨k=j:=by simpa using hk
  rcases this with rfl|rfl
  · exact RE hi hg h
  exact RE hj hg' h'
end
theorem TW {β:Type} {f:β→Value} {h1:∀x,(f x).oneCell'=true} {ok:β→Prop} {w w':World} {R R':Nat→Prop}:∀{xs:List β} {cs:List Value},si (uF f h1 ok) w R cs xs→si (uF f h1 ok) w' R' cs xs
 | [],_,h=>h
 | _ :: _,_,⟨c,r,h0,h1,h2⟩=>⟨c,r,h0,h1,TW h2⟩
theorem CN {β:Type} {f:β→Value} {h1:∀x,(f x).oneCell'=true} {ok:β→Prop} {w w':World} {R R':Nat→Prop} {v:Value} {xs:List β} (h:Lz (uF f h1 ok) w R v xs) (m:Md [] w w'):Lz (uF f h1 ok) w' R' v xs:=by
 obtain⟨a,A,B,C,h1,D,E,F,G⟩:=h
 exact⟨a,A,B,C,h1,D,E,fun p I j u H=>m.cell (F p I j u H) Oq,TW G⟩
theorem xU {β:Type} {f:β→Value} {h1:∀x,(f x).oneCell'=true} {ok:β→Prop} {w:World} {R:Nat→Prop} {b e:Nat} {x:β} (h:cF w b [f x] e) (hx:ok x):Lz (uF f h1 ok) w R (.slice (some ⟨b,0,none⟩) 1 1) [x]:=by
  have B:Ls (uF f h1 ok) w (fun _=>True) (.slice (some ⟨b,0,none⟩) 1 1) [x]:=Ls.dK (cs:=[f x]) h ⟨[f x],[],q,⟨q,hx⟩,q⟩ q Kq trivial
  exact CN B.lz (Md.refl _ _)
structure uV {α:Type} (T:Dt α) (w0:World) (Q0:Nat→Prop) (e:TypeId) (w:World) (R:Nat→Prop) (v:Value) (xs:List α):Prop where
  md:Md [] w0 w
  s:∀b,Q0 b→b<w0.heap.size→R b
  t:∀b,R b→Q0 b
  up:Up w R
  ow:Ow T e (cE [] w0) w R v xs
section
variable {α:Type} {T:Dt α} {P:Program} {ops:Array Oper} {Q:Exit→Act→World→Prop} {n:Nat} {A:Fr n} {D:List Deferred} {l:List (Nat × Value)} {w:World} {rest:List Oper}
theorem uV.mk0 {w0 w1 w:World} {Q0:Nat→Prop} {e b:Nat} (uQ:Up w0 Q0) (h1:Md [] w0 w1) (h2:w1.heap.size≤b) (h3:b<w.heap.size) (hm:Md [] w1 w) (hB:cF w b [] e) :
    ∃R,uV T w0 Q0 e w R (.slice (some ⟨b,0,none⟩) 0 0) []:=by
  obtain⟨R,s,t,C,u⟩:=jq (uQ.md h1) h2 h3 hm
  exact⟨R,h1.k hm,fun b A B=>s b A (lq B h1.size),t,u,Ow.dK hB q q Kq (.inr (lj h1.size h2)) C⟩
theorem uV.o {w0 w w':World} {Q0 R:Nat→Prop} {e:TypeId} {v:Value} {xs:List α} (h:uV T w0 Q0 e w R v xs) (m:Md [] w w'):uV T w0 Q0 e w' R v xs :=
  ⟨h.md.k m,h.s,h.t,h.up.md m,h.ow.o m⟩
instance ajF {w0 w w':World} {Q0 R:Nat→Prop} {e:TypeId} {v:Value} {xs:List α}:Tp w w' (uV T w0 Q0 e w R v xs) (uV T w0 Q0 e w' R v xs ):=⟨fun m h=>h.o m⟩
theorem kT {d:Nat} {x y:Operand} {ty:TypeId} {ps:String} {af:Array Edge} {t e:TypeId} {sz by':Nat} {v u:Value} {xs ys:List α} {w0:World} {Q0 R:Nat→Prop} (hn:T.n=sz) (ht:P.underlying t=some (.slice e)) (hE:yL P e sz by'=true) (hx:ev n l x=some v) (hy:ev n l y=some u)
    (F:uV T w0 Q0 e w R v xs) (hY:Lz T w R u ys) (h63:xs.length+ys.length≤100000) (hb:by'≤1000)
    (k:∀v' w' R',uV T w0 Q0 e w' R' v' (xs ++ ys)→Md (ah v).toList w w'→wpList P ops Q rest (bA A D ((d,v') :: l)) w') :
    wpList P ops Q (⟨some d,.call {callee:=.builtin .append,args:=#[x,y],argTypes:=#[t,t]},ty,ps,af,none⟩ :: rest) (bA A D l) w:=by
  refine rV hn ht hE hx hy F.ow hY F.up (fun b hb=>.inr (lj F.md.size hb)) Jy ?_ ?_
  · exact lj (Nat.mul_le_mul h63 hb) Kq
  intro v' w' R' E G H I B J K L
  refine k v' w' R' ⟨F.md.dJ B fun b hb=>(F.ow.2 b hb).1,fun b hb C=>E b (F.s b hb C) (lq C F.md.size),fun b hb=>F.t b (G b hb),H,I⟩ B
end
theorem afm {ds:List bT} {p q:Nat} {od:List Nat} (h:0<q):lX ds p od q=if p<gP ds (od.getD (q-1) 0)then lX ds p od (q-1)else q:=by
  obtain⟨n,rfl⟩:∃n,q=n+1:=⟨q-1,by omega⟩
  rfl
theorem agX {ds:List bT} {p q:Nat} {od:List Nat} (h:¬0<q):lX ds p od q=q:=by
  obtain rfl:q=0:=by omega
  rfl
theorem pC {ds:List bT} {i:Nat} {x:bT} (h:ds[i]? = some x):gP ds i=x.cC:=by simp[gP,List.getD,h]
theorem sZ {l:List Nat} {i x:Nat} (h:l[i]? = some x):l.getD i 0=x:=by simp[List.getD,h]
theorem qQ {ds:List bT} {i:Nat} {x:bT} (h:ds[i]? = some x):ds.getD i known0=x:=by simp[List.getD,h]
theorem XA (m:Mk) (x:Pr) (h:m.fit):m.aj.length≤(m.data x).2.aj.length:=by
  rcases(JL m x h).pre with e|⟨y,e,_⟩ <;> rw[e] <;> simp
theorem ve {l:List Pr} {m:Mk} {ps:List (List UInt8)} {od:List Nat} {i:Nat} (h:¬i<l.length):iG (l.drop i) m ps od=(ps,od,m):=by rw[ir Jy];rfl
theorem yK {l:List Pr} {m m':Mk} {ps:List (List UInt8)} {od:List Nat} {i k:Nat} {x:Pr} {y:bT} {q:Nat} (h:l[i]? = some x) (hd:m.data x=(k,m')) (hy:m'.aj[k]? = some y) (hq:lX m'.aj (gP m'.aj k) od od.length=q) :
    iG (l.drop i) m ps od=iG (l.drop (i+1)) m' (ps ++ [y.dO]) (od.take q ++ [k] ++ od.drop q):=by
  rw[fw h]
  show(match m.data x with|(k,m1)=>iG (l.drop (i+1)) m1 (ps ++ [(m1.aj.getD k known0).dO]) (nu m1.aj k od))=_
  rw[hd]
  simp only[qQ hy]
  unfold nu
  rw[hq]
theorem AU {m0 m m':Mk} {ps:List (List UInt8)} {od:List Nat} {n k q:Nat} {x:Pr} {y:bT} (h:qg m0 m ps od n) (hx:BD x) (hd:m.data x=(k,m')) (hy:m'.aj[k]? = some y) (hq:lX m'.aj (gP m'.aj k) od od.length=q) :
    qg m0 m' (ps ++ [y.dO]) (od.take q ++ [k] ++ od.drop q) (n+1):=by
  have:=AV h hx
  rw[hd]at this
  simp only[qQ hy]at this
  unfold nu at this
  rw[hq]at this
  exact this
theorem vm {m:Mk} {od:List Nat} {j:Nat} {its:List jO} (h:¬j<od.length):its ++ jL m (od.drop j)=its:=by rw[ir Jy];simp[jL]
theorem MQ {m:Mk} {od:List Nat} {j i:Nat} {its:List jO} {x:bT} (h:od[j]? = some i) (hx:m.aj[i]? = some x) :
    its ++ jL m (od.drop j)=(its ++ [{cC:=x.cC,dH:=ec m.c.dU m.c.dc x.dO}]) ++ jL m (od.drop (j+1)):=by
  rw[fw h]
  simp only[jL,List.map_cons,pC hx,qQ hx,List.append_assoc,List.singleton_append]
theorem xM {m:Mk} {od:List Nat} {j e:Nat} (h:¬j<od.length):lH e (od.drop j) m=m:=by rw[ir Jy];rfl
theorem BN {m:Mk} {od:List Nat} {j i e:Nat} (h:od[j]? = some i):lH e (od.drop j) m=lH e (od.drop (j+1)) (lG e i m):=by rw[fw h,pO]
theorem PX {m0 m:Mk} {d e e' j:Nat} (h:l9 m0 m d e j) (he:e≤e'):l9 m0 m d e' j:=⟨h.fit,h.c,h.n8,h.chains,h.nd,h.nf,h.ge,lj h.le Jy⟩
theorem adR {m:Mk} {e i:Nat} {k:bT} (hk:m.aj[i]? = some k) (h0:k.cr=0) :
    lG e i m={(m.put (k.cC+40) e).put (k.cC+56) 1 with aj:=m.aj.set i {k with cr:=1}}:=by
  unfold lG
  simp only[qQ hk]
  rw[if_pos h0]
  rfl
theorem adS {m m1:Mk} {e i t:Nat} {a:List Nat} {k:bT} (hk:m.aj[i]? = some k) (h0:¬k.cr=0) (hl:m.link k.b9 (k.cr-1) (k.cC+48) e=(a,t,m1)) :
    lG e i m={m1.put (k.cC+56) (k.cr+1)with aj:=m1.aj.set i {k with b9:=a,cr:=k.cr+1}}:=by
  unfold lG
  simp only[qQ hk]
  rw[if_neg h0,hl]
  rfl
theorem lD {m x m29 m3 z:Mk} {raw l:List Pr} {c cH mono e t:Nat} {bZ:Ly} {ps:List (List UInt8)} {od a:List Nat} (h1:kW raw=(l,c)) (h2:¬c≠0) (h3:¬m.dI 9=18446744073709551615) (h4:iG l m [] []=(ps,od,x))
    (h5:x.dD (ew {seq:=(x.dI 9+1)%18446744073709551616,cH:=cH,mono:=mono,bZ:=bZ,xor:=nH 0 ps,ay:=jL x od})=(e,m29)) (h6:m29.link m29.main (m29.dI 8) 176 e=(a,t,m3))
    (h7:lH e od (let m4:=({m3 with main:=a}:Mk).dZ 11 (a.getD 0 0);{m4 with h:={m4.h with cT:=kr a%4294967296,cZ:=t%4294967296}})=z) :
    m.append raw cH mono bZ=if z.c.cJ<z.b.length then(0,15,m)else
      (let seq:=(x.dI 9+1)%18446744073709551616
      let m7:=if m29.dI 8=0 then(z.dZ 10 seq).dZ 12 cH else z
      let m8:=m7.dZ 8 ((m7.dI 8+1)%18446744073709551616)
      let m9:=((m8.dZ 9 seq).dZ 13 cH).dZ 14 mono
      (seq,0,{m9 with h:={m9.h with bZ:=bZ,dw:=e}})):=by
  unfold Mk.append
  simp only[h1]
  rw[if_neg h2,if_neg h3]
  simp only[h4,h5,h6]
  simp only at h7
  rw[h7]
end Go.Wk
namespace Go.Wk
open Go Go.Op
theorem aa8:∀a:List UInt8,bytesLess a a=false
  | []=>rfl
  | x :: a=>by simp[bytesLess,aa8 a]
theorem LY:∀{a b c:Ly},bytesLess a b=true→bytesLess b c=true→bytesLess a c=true
  | _,[],_,h,_=>by unfold bytesLess at h;cases h
  | _,_ :: _,[],_,h=>by unfold bytesLess at h;cases h
  | [],_ :: _,_ :: _,_,_=>rfl
  | x :: a,y :: b,z :: c,h1,h2=>by
    simp only[bytesLess,Bool.or_eq_true,decide_eq_true_eq,Bool.and_eq_true,beq_iff_eq]at *
    rcases h1 with h1|⟨rfl,h1⟩<;>rcases h2 with h2|⟨rfl,h2⟩
    · exact .inl (UInt8.lt_trans h1 h2)
    · exact .inl h1
    · exact .inl h2
    · exact .inr ⟨q,LY h1 h2⟩
theorem aa9:∀{a b:Ly},bytesLess a b=false→bytesLess b a=false→a=b
  | [],[],_,_=>rfl
  | [],_ :: _,h,_=>by unfold bytesLess at h;cases h
  | _ :: _,[],_,h=>by unfold bytesLess at h;cases h
  | x :: a,y :: b,h1,h2=>by
    simp only[bytesLess,Bool.or_eq_false_iff,decide_eq_false_iff_not,Bool.and_eq_false_iff,beq_eq_false_iff_ne]at *
    have hxy:x=y:=by
      have A:=h1.1;have B:=h2.1
      exact UInt8.le_antisymm (UInt8.not_lt.1 B) (UInt8.not_lt.1 A)
    subst hxy
    have A:=h1.2.resolve_left Oq
    have B:=h2.2.resolve_left Oq
    rw[aa9 A B]
theorem aam {p q:yH} (hp:right p=true) (hq:right q=true) (h:whole p=whole q):p=q:=by
  have A:=(oF ((mS p).2 hp)).2
  have B:=(oF ((mS q).2 hq)).2
  rw[← A,h,B]
end Go.Wk
namespace Go.Wk
open Go Go.RowKit
section
variable {P:Program} {n:Nat} {A:Fr n} {D:List Deferred} {l:List (Nat × Value)} {w:World} {d:Option Tmp} {ty:TypeId} {ps:String} {af:Array Edge} {g:Option (Nat × Bool)}
end
def vP (p:Pr):List Pr→Bool
  | []=>false
  | q :: r=>if p.pb=q.pb then true else vP p r
theorem BO {p:Pr} {l:List Pr} {i:Nat} (h:¬i<l.length):vP p (l.drop i)=false:=by rw[ir Jy];rfl
theorem XU {p q:Pr} {l:List Pr} {i:Nat} (h:l[i]? = some q):vP p (l.drop i)=if p.pb=q.pb then true else vP p (l.drop (i+1)):=by rw[fw h];rfl
theorem LQ {a b:List Pr} {i j:Nat} {p q:Pr} (h:a[i]? = some p) (k:b[j]? = some q):vP (a.getD i {name:=[],value:=[]}) (b.drop j)=(decide (p.pb=q.pb) || vP (a.getD i {name:=[],value:=[]}) (b.drop (j+1))):=by
  rw[nX h,XU k];by_cases e:p.pb=q.pb <;> simp[e]
def allIn (b:List Pr):List Pr→Bool
  | []=>true
  | p :: r=>if vP p b=true then allIn b r else false
theorem WQ {b l:List Pr} {i:Nat} (h:¬i<l.length):allIn b (l.drop i)=true:=by rw[ir Jy];rfl
theorem PW {b l:List Pr} {i:Nat} {p:Pr} (h:l[i]? = some p):allIn b (l.drop i)=if vP p b=true then allIn b (l.drop (i+1))else false:=by rw[fw h];rfl
theorem yJ {b l:List Pr} {i:Nat} (h:i<l.length):allIn b (l.drop i)=if vP (l.getD i {name:=[],value:=[]}) b=true then allIn b (l.drop (i+1))else false:=by
  have e:l[i]? = some (l[i]'h):=List.getElem?_eq_getElem h
  rw[PW e,nX e]
theorem yo {p q:Pr}:p.pb=q.pb↔p=q:=by
  cases p;cases q;simp[Pr.pb]
theorem abn {p:Pr} {l:List Pr}:vP p l=true↔p∈l:=by
  induction l with
  | nil=>simp[vP]
  | cons q r ih =>
    unfold vP
    split
    · rename_i h;rw[yo]at h;simp[h]
    · rename_i h;rw[yo]at h;simp[h,ih]
end Go.Wk
namespace Go.Wk
open Go Go.RowKit
section
variable {P:Program} {ops:Array Oper} {Q:Exit→Act→World→Prop} {rest:List Oper}
variable {n:Nat} {A:Fr n} {D:List Deferred} {l:List (Nat × Value)} {w:World}
variable {d:Tmp} {op:Op} {ty:TypeId} {ps:String} {af:Array Edge} {g:Option (Nat × Bool)}
end
section
variable {P:Program} {n:Nat} {A:Fr n} {D:List Deferred} {l:List (Nat × Value)} {w:World} {d:Option Tmp} {ty:TypeId} {ps:String} {af:Array Edge} {g:Option (Nat × Bool)}
theorem KT {x:Operand} {t u e:TypeId} {a:Option Addr} {m c:Nat} (hx:ev n l x=some (.slice a m c)) (hT:P.underlying t=some (.slice e)) :
    dn P ⟨d,.binOp .eql t x (.const (.slice none 0 0)) u,ty,ps,af,g⟩ (bA A D l).eval w (.bool a.isNone):=by
  have h:=Go.Lib.run_eql_slice_nil (P:=P) w t e a m c 0 0 hT
  have B:(bA A D l).eval (.const (.slice none 0 0)) = .slice none 0 0:=rfl
  have C:(eqGuard .eql t x (.const (.slice none 0 0)) (.slice a m c) (.slice none 0 0)).run P w = .ok () w:=by unfold eqGuard;simp
  simp[dn,execOp,cL hx,B,C,h]
end
section
variable {w w':World} {b cap:Nat} {xs:List Pr}
end
end Go.Wk
namespace Go.Wk
open Go Go.RowKit
theorem acV {v:Nat} {x:UInt8} (h:v<72057594037927936):v*2 ^ 8%18446744073709551616 ||| x.toNat=x.toNat+256*v:=by
  have A:=UInt8.toNat_lt x
  rw[Nat.mod_eq_of_lt Jy,Nat.mul_comm,← Nat.two_pow_add_eq_or_of_lt (by simpa using A)]
  omega
theorem vN {l:Ly} {a k:Nat} (hk:k=4∨k=8) (h:a+k≤l.length):p5 l a k=(BZ ((l.drop a).take k),true):=by
  unfold p5
  rw[if_pos ⟨by rw[fG];omega,by omega,by omega⟩];simp
def at4 (l:Ly) (a:Nat):Nat:=BZ ((l.drop a).take 4)
def fI (l:Ly) (a:Nat):Nat:=BZ ((l.drop a).take 8)
theorem xk (l:Ly) (a:Nat):at4 l a<4294967296:=ug (k:=4) Zz
theorem Qe (l:Ly) (a:Nat):fI l a<18446744073709551616:=ug (k:=8) Zz
section
variable {P:Program} {ops:Array Oper} {Q:Exit→Act→World→Prop} {rest:List Oper}
variable {n:Nat} {A:Fr n} {D:List Deferred} {l:List (Nat × Value)} {w:World}
variable {d:Tmp} {op:Op} {ty:TypeId} {ps:String} {af:Array Edge} {g:Option (Nat × Bool)}
theorem wX {f:FuncId} {c:Operand} {xs:List Operand} {ts:Array TypeId} {vs cs:List Value} {R:Ending→World→Prop} (hc:ev n l c=some (.func (.func f) #[] cs.toArray)) (hf:dA P f=true) (ha:evs n l xs=some vs) (hr:Calls P f (vs ++ cs).toArray w R)
    (k:∀e w',R e w'→∃v,e = .returned v∧wpList P ops Q rest (bA A D ((d,v) :: l)) w') :
    wpList P ops Q (⟨some d,.call {callee:=.value c,args:=xs.toArray,argTypes:=ts},ty,ps,af,none⟩ :: rest) (bA A D l) w:=by
  refine gM q ?_
  unfold Oper.wp
  have E:=ng (A:=A) (D:=D) ha
  have B:(execOp (bA A D l).eval ⟨some d,.call {callee:=.value c,args:=xs.toArray,argTypes:=ts},ty,ps,af,none⟩).run P w = .ok (.enter f (vs ++ cs).toArray) w:=by
    simp only[execOp,resolve,cL hc,Deferred.ofValue,List.map_toArray,E]
    simp[invoke,p7 hf]
  rw[B]
  refine hr.mono fun e w' C=>?_
  obtain⟨v,rfl,hk⟩:=k e w' C
  exact hk
theorem RZ {f:FuncId} {x:Operand} {v:Value} {d':Option Tmp} (hx:ev n l x=some v) :
    dn P ⟨d',.makeFunc (.func f) #[] #[x],ty,ps,af,g⟩ (bA A D l).eval w (.func (.func f) #[] #[v]):=by
  simp[dn,execOp,cL hx,Instr.makeFunc]
end
def z16:List UInt8:=List.replicate 16 0
def jK (b:Ly) (c i k j:Nat):cA :=
  {eU:=c,bX:=i,state:=(b.getD 16 0).toNat,dc:=if 0<k then(b.drop 24).take 16 else z16,dW:=if 1<k then(b.drop 40).take 16 else z16,bZ:=if 2<k then(b.drop 56).take 16 else z16,seq:=if 3<k then(b.drop 72).take 16 else z16,
    n:=(List.range 21).map fun q=>if q<j then fI b (88+8*q)else 0,cT:=0,cZ:=0,dw:=0}
def gF (b:Ly):cA:={jK b (at4 b 8) (at4 b 12) 4 21 with cT:=at4 b 256,cZ:=at4 b 260,dw:=fI b 264}
theorem EJ {b:Ly} {o:Nat} (h:o+16≤b.length):((b.drop o).take 16).length=16:=by simp;omega
theorem pP {x:Ly} (h:x.length=16) (a c:List Value) (z:Ly):gu (a ++ (gC z ++ c)) a.length (x.map b8)=a ++ (gC x ++ c):=by
  unfold gu
  have B:(gC z).length=16:=rfl
  have A:(x.map b8).length=16:=by simp[h]
  rw[List.take_left,A,← List.append_assoc a,List.drop_left' (by simp[B]),← kD h,List.append_assoc]
theorem abt {b:Ly} {c i k:Nat} (hk:k<4) (hl:272≤b.length):gu (cA.cells (jK b c i k 0)) (3+k*16) (((b.drop (24+16*k)).take 16).map b8)=cA.cells (jK b c i (k+1) 0):=by
  have A:((b.drop (24+16*k)).take 16).length=16:=EJ Jy
  rcases(show k=0∨k=1∨k=2∨k=3 by omega)with rfl|rfl|rfl|rfl
  · exact pP A [.int .u32 c,.int .u32 i,.int .i64 (((b.getD 16 0).toNat:Nat):Int)] _ z16
  · exact pP A ([.int .u32 c,.int .u32 i,.int .i64 (((b.getD 16 0).toNat:Nat):Int)] ++ gC ((b.drop 24).take 16)) _ z16
  · exact pP A ([.int .u32 c,.int .u32 i,.int .i64 (((b.getD 16 0).toNat:Nat):Int)] ++ gC ((b.drop 24).take 16) ++ gC ((b.drop 40).take 16)) _ z16
  exact pP A ([.int .u32 c,.int .u32 i,.int .i64 (((b.getD 16 0).toNat:Nat):Int)] ++ gC ((b.drop 24).take 16) ++ gC ((b.drop 40).take 16) ++ gC ((b.drop 56).take 16)) _ z16
theorem abp {h:cA} {j v:Nat} (hn:h.n.length=21) (hj:j<21):(cA.cells h).set (67+j) (.int .u64 v)=cA.cells {h with n:=h.n.set j v}:=by
  have e:∀(m:List Nat) (t:cA),t.n=m→cA.cells t=([(.int .u32 t.eU)] ++ ([(.int .u32 t.bX)] ++ ([(.int .i64 t.state)] ++ ((gC t.dc) ++ ((gC t.dW) ++ ((gC t.bZ) ++ (gC t.seq))))))) ++ (oM m ++ ([(.int .u32 t.cT)] ++ ([(.int .u32 t.cZ)] ++ [(.int .u64 t.dw)]))):=by
    intro m t C;subst C;simp only[cA.cells,List.append_assoc]
  rw[e h.n h q,e (h.n.set j v) {h with n:=h.n.set j v} q,RB hn hj]
  have B:([(.int .u32 h.eU)] ++ ([(.int .u32 h.bX)] ++ ([(.int .i64 h.state)] ++ ((gC h.dc) ++ ((gC h.dW) ++ ((gC h.bZ) ++ (gC h.seq)))))):List Value).length=67:=rfl
  have A:(oM h.n).length=21:=rfl
  rw[List.set_append_right _ _ Jy,B,Nat.add_sub_cancel_left,List.set_append_left _ _ Jy]
theorem agl {b:Ly} {j:Nat} (hj:j<21):((List.range 21).map fun q=>if q<j then fI b (88+8*q)else 0).set j (fI b (88+8*j))=(List.range 21).map fun q=>if q<j+1 then fI b (88+8*q)else 0:=by
  apply List.ext_getElem
  · simp
  intro q A B
  simp at A
  by_cases h:q=j
  · subst h;simp
  rw[List.getElem_set_ne (Ne.symm h)]
  simp only[List.getElem_map,List.getElem_range]
  by_cases h3:q<j
  · rw[if_pos h3,if_pos Jy]
  rw[if_neg h3,if_neg Jy]
theorem Yn {b:Ly} {c i j:Nat} (hj:j<21):(cA.cells (jK b c i 4 j)).set (67+j) (.int .u64 ((fI b (88+8*j):Nat):Int))=cA.cells (jK b c i 4 (j+1)):=by
  rw[abp (by simp[jK]) hj]
  unfold jK
  simp only[agl hj]
theorem wL {b:Ly} (h:272≤b.length):cA.ok (gF b):=by
  refine⟨xk _ _,xk _ _,?_,EJ Jy,EJ Jy,EJ Jy,EJ Jy,⟨by simp[gF,jK],?_⟩,xk _ _,xk _ _,Qe _ _⟩
  · have:=UInt8.toNat_lt (b.getD 16 0);show(b.getD 16 0).toNat<_;omega
  intro y A
  simp only[gF,jK,List.mem_map,List.mem_range]at A
  obtain⟨q,B,rfl⟩:=A
  rw[if_pos B];exact Qe _ _
def ptrs (b o sz:Nat) (n:Nat):List Value:=(List.range n).map fun k=>.pointer (some ⟨b,o+k*sz,none⟩)
theorem NZ {b o sz n k:Nat} (h:k<n):(ptrs b o sz n)[k]? = some (.pointer (some ⟨b,o+k*sz,none⟩)):=by
  simp[ptrs,h]
end Go.Wk
namespace Go.Wk
open Go Go.RowKit
def andNot (a b:Nat):Nat:=(BitVec.ofNat 32 a &&& ~~~(BitVec.ofNat 32 b)).toNat
section
variable {P:Program} {n:Nat} {A:Fr n} {D:List Deferred} {l:List (Nat × Value)} {w:World} {d:Option Tmp} {ty:TypeId} {ps:String} {af:Array Edge} {g:Option (Nat × Bool)}
theorem HB {x y:Operand} {t u:TypeId} {a b:Nat} (L:Nat) (hL:lim .u32=L) (hk:IntKind.u32.signed=false) (hx:ev n l x=some (.int .u32 (a:Int))) (hy:ev n l y=some (.int .u32 (b:Int))) (h:a<L∧b<L) :
    dn P ⟨d,.binOp .andNot t x y u,ty,ps,af,g⟩ (bA A D l).eval w (.int .u32 ((andNot a b:Nat):Int)):=(acB hx hy).jE (by
  unfold bits andNot
  simp only[BitVec.ofInt_natCast]
  exact wrapN .u32 _ (show(BitVec.ofNat 32 a &&& ~~~(BitVec.ofNat 32 b)).toNat<4294967296 from(BitVec.ofNat 32 a &&& ~~~(BitVec.ofNat 32 b)).isLt))
end
def hz0:cA:={eU:=0,bX:=0,state:=0,dc:=nU,dW:=nU,bZ:=nU,seq:=nU,n:=List.replicate 21 0,cT:=0,cZ:=0,dw:=0}
def uS:List UInt8:=[76,80,75,83,72,72,82,72]
def rq (b p:Ly):Bool:=if p.length≤b.length then decide (b.take p.length=p)else false
def u7 (h:cA):Nat × Bool:=if(h.n.getD 0 0+h.n.getD 1 0)%18446744073709551616<h.n.getD 0 0 then(0,false)else((h.n.getD 0 0+h.n.getD 1 0)%18446744073709551616,true)
def kU (h:cA) (at_ size end_:Nat):Nat :=
  if at_%8≠0 then 3
  else if size=0∨size%16≠0 then 5
  else if at_<h.n.getD 0 0∨at_-h.n.getD 0 0<16∨end_<at_∨end_-at_<size then 2 else 0
def oJ (h:cA) (len:Nat):Nat :=
  if andNot h.bX 4≠0 then 7
  else if 2<h.state then 8
  else if h.n.getD 0 0<272∨h.n.getD 0 0%8≠0∨h.n.getD 1 0%8≠0 then 5
  else if(u7 h).2=false∨len<(u7 h).1 then 2
  else if kU h (h.n.getD 2 0) (h.n.getD 3 0) (u7 h).1≠0 then kU h (h.n.getD 2 0) (h.n.getD 3 0) (u7 h).1
  else kU h (h.n.getD 4 0) (h.n.getD 5 0) (u7 h).1
def jJ (b:Ly):cA × Nat :=
  if b.length<272 then(hz0,22)
  else if rq b uS=false then(hz0,6)
  else if oJ (gF b) b.length≠0 then(hz0,oJ (gF b) b.length)else(gF b,0)
theorem lC {h:cA} {len r:Nat} {s:Bool} (he:u7 h=(r,s)):oJ h len=(if andNot h.bX 4≠0 then 7 else if 2<h.state then 8 else if h.n.getD 0 0<272∨h.n.getD 0 0%8≠0∨h.n.getD 1 0%8≠0 then 5
    else if s=false∨len<r then 2 else if kU h (h.n.getD 2 0) (h.n.getD 3 0) r≠0 then kU h (h.n.getD 2 0) (h.n.getD 3 0) r else kU h (h.n.getD 4 0) (h.n.getD 5 0) r):=by
  unfold oJ;rw[he]
theorem mB {b:Ly} {h:cA} {p:Bool} {c:Nat} (h1:¬b.length<272) (h2:rq b [76,80,75,83,72,72,82,72]=p) (h3:¬p=false) (h4:gF b=h) (h5:oJ h b.length=c) (h6:c≠0):jJ b=(hz0,c):=by
  subst h4;subst h5
  unfold jJ;rw[if_neg h1,if_neg (by rw[show uS=[76,80,75,83,72,72,82,72]from rfl,h2];exact h3),if_pos h6]
theorem OJ {b:Ly} {h:cA} {p:Bool} (h1:¬b.length<272) (h2:rq b [76,80,75,83,72,72,82,72]=p) (h3:¬p=false) (h4:gF b=h) (h5:oJ h b.length=0):jJ b=(h,0):=by
  subst h4
  unfold jJ;rw[if_neg h1,if_neg (by rw[show uS=[76,80,75,83,72,72,82,72]from rfl,h2];exact h3),if_neg Jy]
theorem yX {b:Ly} (h:b.length<272):jJ b=(hz0,22):=by unfold jJ;rw[if_pos h]
theorem DZ {b:Ly} (h1:¬b.length<272) (h2:rq b [76,80,75,83,72,72,82,72]=false):jJ b=(hz0,6):=by unfold jJ;rw[if_neg h1,if_pos (show rq b uS=false from h2)]
def Po {α:Type} (T:Dt α) (ty:TypeId) (w:World) (Q:Nat→Prop) (v:Value):Option α→Prop
  | none=>v = .pointer none
  | some x=>Pt T ty w Q v x
section
variable {α:Type} {T:Dt α} {ty:TypeId} {w w':World} {Q Q':Nat→Prop} {v:Value} {ox:Option α}
variable {P:Program} {n:Nat} {A:Fr n} {D:List Deferred} {l:List (Nat × Value)} {d:Option Tmp} {ty2:TypeId} {ps:String} {af:Array Edge} {g:Option (Nat × Bool)}
end
def iC (b:Ly):Option fe × Nat:=if(jJ b).2≠0 then(none,(jJ b).2)else(some {b:=b.take (u7 (jJ b).1).1,h:=(jJ b).1},0)
theorem yA {b:Ly} {h:cA} (hr:jJ b=(h,0)):272≤b.length∧gF b=h∧oJ h b.length=0:=by
  unfold jJ at hr
  split at hr
  · have:=congrArg Prod.snd hr;simp at this
  rename_i h1
  split at hr
  · have:=congrArg Prod.snd hr;simp at this
  split at hr
  · rename_i h2;have:=congrArg Prod.snd hr;exact absurd this h2
  rename_i h2
  have e:=congrArg Prod.fst hr
  simp only at e
  subst e
  exact⟨by omega,q,by omega⟩
theorem OL {b:Ly} {h:cA} {e:Nat} {s:Bool} (hr:jJ b=(h,0)) (he:u7 h=(e,s)):e≤b.length∧s=true:=by
  obtain⟨_,_,A⟩:=yA hr
  rw[lC he]at A
  split at A
  · omega
  split at A
  · omega
  split at A
  · omega
  split at A
  · omega
  rename_i h4;rw[not_or]at h4
  exact⟨by omega,by simpa using h4.1⟩
theorem yh {b:Ly} {x:Option fe} (h:iC b=(x,0)):∃y,x=some y∧cA.ok y.h∧y.b.length≤b.length:=by
  unfold iC at h
  split at h
  · rename_i h1;exact absurd (congrArg Prod.snd h) h1
  rename_i h1
  have C:jJ b=((jJ b).1,0):=by rw[← Classical.not_not.1 h1]
  obtain⟨A,B,_⟩:=yA C
  exact⟨_,(congrArg Prod.fst h).symm,by rw[← B];exact wL A,by simp;omega⟩
end Go.Wk
namespace Go.Wk
open Go Go.RowKit
theorem Ow.lsB {e:TypeId} {w w':World} {Q Q':Nat→Prop} {v:Value} {xs:Ly} (h:Ow eT e (cE [] w) w' Q' v xs) (uQ:Up w Q):Ls eT w' Q v xs :=
  Ls.of_by h.read.by fun b hb _=>cE.up uQ b (h.2 b hb).1
theorem JI (s:Sq):s.config.1.aT≤10∧s.config.1.aS≤10:=by
  rcases h1:s.dI 5 with⟨a,E⟩
  rcases h2:E.dI 5 with⟨b,F⟩
  rcases h3:F.dI 5 with⟨c,C⟩
  rcases h4:C.dI 7 with⟨d,D⟩
  rcases h5:D.dI 4 with⟨e,G⟩
  rcases h6:G.dI 2 with⟨f,H⟩
  have A:=C.kG 7
  have B:=D.kG 4
  rw[h4]at A;rw[h5]at B
  simp only[Sq.config,h1,h2,h3,h4,h5,h6]
  simp only at A B
  omega
end Go.Wk
namespace Go.Wk
open Go Go.RowKit
theorem pz {l:List Nat} {i v:Nat} (h:i<l.length):(l.set i v).getD i 0=v:=by simp[List.getD,h]
def pM (z:Mk) (n seq cH mono e:Nat) (bZ:Ly):Mk :=
  let m7:=if n=0 then(z.dZ 10 seq).dZ 12 cH else z
  let m8:=m7.dZ 8 ((m7.dI 8+1)%18446744073709551616)
  let m9:=((m8.dZ 9 seq).dZ 13 cH).dZ 14 mono
  {m9 with h:={m9.h with bZ:=bZ,dw:=e}}
theorem xD (z:Mk) (n seq cH mono e:Nat) (bZ:Ly):(pM z n seq cH mono e bZ).b=z.b∧(pM z n seq cH mono e bZ).c=z.c∧(pM z n seq cH mono e bZ).aj=z.aj∧(pM z n seq cH mono e bZ).ak=z.ak∧(pM z n seq cH mono e bZ).main=z.main ∧
    (pM z n seq cH mono e bZ).h.n.getD 2 0=z.h.n.getD 2 0∧(pM z n seq cH mono e bZ).h.n.getD 4 0=z.h.n.getD 4 0∧(pM z n seq cH mono e bZ).h.n.length=z.h.n.length ∧
    (z.h.n.length=20→(pM z n seq cH mono e bZ).n8=(z.n8+1)%18446744073709551616∧(pM z n seq cH mono e bZ).dI 9=seq):=by
  unfold pM
  simp only
  generalize hm7:(if n=0 then(z.dZ 10 seq).dZ 12 cH else z)=m7
  have A:m7.b=z.b∧m7.c=z.c∧m7.aj=z.aj∧m7.ak=z.ak∧m7.main=z.main∧m7.h.n.getD 8 0=z.h.n.getD 8 0∧m7.h.n.getD 2 0=z.h.n.getD 2 0∧m7.h.n.getD 4 0=z.h.n.getD 4 0∧m7.h.n.length=z.h.n.length:=by
    subst hm7
    split
    · exact⟨q,q,q,q,q,(cw Kq).trans (cw Kq),(cw Kq).trans (cw Kq),(cw Kq).trans (cw Kq),by simp[Mk.dZ]⟩
    · exact⟨q,q,q,q,q,q,q,q,q⟩
  obtain⟨C,D,E,F,G,H,I,J,K⟩:=A
  clear hm7
  refine⟨C,D,E,F,G,?_,?_,?_,fun B=>⟨?_,?_⟩⟩
  · rw[← I]
    exact(cw Kq).trans ((cw Kq).trans ((cw Kq).trans (cw Kq)))
  · rw[← J]
    exact(cw Kq).trans ((cw Kq).trans ((cw Kq).trans (cw Kq)))
  · rw[← K];simp[Mk.dZ]
  · have e:m7.dI 8=z.n8:=H
    rw[e]
    exact(cw Kq).trans ((cw Kq).trans ((cw Kq).trans (pz Jy)))
  exact(cw Kq).trans ((cw Kq).trans (pz (by simp[Mk.dZ];omega)))
theorem xj {m:Mk} (h:vD m) {raw:List Pr} {cH mono:Nat} {bZ:Ly} (hb:bZ.length=16) (h20:(m.append raw cH mono bZ).2.2.h.n.length=20):vD (m.append raw cH mono bZ).2.2:=by
  rcases hl:kW raw with⟨l,c⟩
  by_cases h2:c≠0
  · have e:m.append raw cH mono bZ=(0,c,m):=by unfold Mk.append;simp only[hl];rw[if_pos h2]
    rw[e];exact h
  by_cases h3:m.dI 9=18446744073709551615
  · have e:m.append raw cH mono bZ=(0,1,m):=by unfold Mk.append;simp only[hl];rw[if_neg h2,if_pos h3]
    rw[e];exact h
  obtain⟨w,ll⟩:=wi hl
  have D:=xw l m [] [] 0 (sR h) w
  rcases hd:iG l m [] []with⟨ps,M,x⟩
  rw[hd,Nat.zero_add]at D
  simp only at D
  have s1:=h.small
  have s4:=h.nb
  have d1:=D.app.ge
  have d2:=D.app.le
  have d5:=D.len.1
  have Ad:=D.app.n8
  generalize hE:({seq:=(x.dI 9+1)%18446744073709551616,cH:=cH,mono:=mono,bZ:=bZ,xor:=nH 0 ps,ay:=jL x M}:eA)=E
  have eb:E.bZ.length=16:=by subst hE;exact hb
  have ei:E.ay.length=M.length:=by subst hE;simp[jL]
  have el:=nY E eb
  have C:=AI (L:=400) (o:=ew E) D.app Jy
  have d:=(ji x (ew E)).2.1
  have S:=(eV x (ew E)).2.2.2
  have O:=(eV x (ew E)).2.1
  rcases ho:x.dD (ew E)with⟨e,B⟩
  rw[ho]at C d S O
  simp only at C d S O
  have N:B.h.n.getD 8 0=m.n8:=C.n8
  have Z:jT B.b.length B.main (B.dI 8):=by
    rw[show B.dI 8=m.n8 from N,S,D.main];exact pL h.main C.ge
  have K:=vZ B B.main (B.dI 8) 176 e Z
  have G:=AH (src:=176) (gX:=e) C Z
  rcases hk:B.link B.main (B.dI 8) 176 e with⟨a,t,P⟩
  rw[hk]at K G
  simp only at K G
  generalize hY:(let m4:=({P with main:=a}:Mk).dZ 11 (a.getD 0 0);({m4 with h:={m4.h with cT:=kr a%4294967296,cZ:=t%4294967296}}:Mk))=Y
  have F:l9 m Y l.length (900*l.length+400+2100+0) 0:=by
    subst hY
    exact AJ (e':=0) G q (cw Kq) (cw Kq) (cw Kq) q q (Nat.le_refl _) (Nat.le_refl _) (Nat.le_refl _)
  have u:Y.b=P.b:=by subst hY;rfl
  have X:Y.aj=P.aj:=by subst hY;rfl
  have v:Y.main=a:=by subst hY;rfl
  obtain⟨A,zm,zd⟩:=BM (en:=e) M Y _ _ F (fun i T=>by rw[X,K.aj,O];exact D.idx i T)
  have y8:Y.n8=m.n8:=F.n8
  have Q:=(BM (en:=e) M Y 0 0 ⟨F.fit,q,q,by rw[y8];exact F.chains,Nat.le_add_right _ 0,Nat.le_add_right _ 0,Nat.le_refl _,Nat.le_refl _⟩ (fun i T=>by rw[X,K.aj,O];exact D.idx i T)).1
  have U:=lD (cH:=cH) (mono:=mono) (bZ:=bZ) hl h2 h3 hd (by rw[hE];exact ho) hk (z:=lH e M Y) (by rw[hY])
  generalize lH e M Y=z at *
  replace U:m.append raw cH mono bZ=if z.c.cJ<z.b.length then(0,15,m)else((x.dI 9+1)%18446744073709551616,0,pM z (B.dI 8) ((x.dI 9+1)%18446744073709551616) cH mono e bZ):=U
  rw[U]at h20 ⊢
  split at h20
  · rename_i hm
    rw[if_pos hm];exact h
  rename_i hm
  rw[if_neg hm]
  have q1:=A.ge
  have q2:=A.le
  have q3:=A.nd
  have q4:=A.nf
  have j:=A.c
  have z8:z.n8=m.n8:=A.n8
  have H:=h.cJ
  have r1:=h.nd
  have r2:=h.nf
  have g3:=K.ge
  have y:P.b.length≤z.b.length:=by have h:=Q.ge;rw[u]at h;exact h
  obtain⟨J,V,W,g,kz5,p,r,kl,kz8⟩:=xD z (B.dI 8) ((x.dI 9+1)%18446744073709551616) cH mono e bZ
  simp only at h20 ⊢
  generalize pM z (B.dI 8) ((x.dI 9+1)%18446744073709551616) cH mono e bZ=R at *
  have I:=(kz8 Jy).1
  rw[z8,Nat.mod_eq_of_lt Jy]at I
  refine⟨pN A.fit ⟨by rw[V],by rw[V],p,r,by rw[J];exact Nat.le_refl _⟩ (fun k hk=>.inl (W ▸ hk)) (fun k hk=>.inl (g ▸ hk)),?_,?_,?_,?_,?_,?_,?_,?_⟩
  · rw[I,J,kz5,zm,v]
    have f:=K.chain
    rw[show B.dI 8=m.n8 from N]at f
    exact pL f y
  · intro k hk
    rw[W]at hk
    obtain⟨u1,u2,u3,u4⟩:=A.chains k hk
    rw[J,I]
    exact⟨u1,u2,u3,by omega⟩
  · rw[W,I];omega
  · rw[g,I];omega
  · rw[J,I];omega
  · rw[J];rw[j]at hm;omega
  · rw[V,j];exact H
  rw[J];have:=h.hd;omega
theorem CR {c:nT} {t:Nat} (h:c.aT≤10∧c.aS≤10) (h1:1≤c.aT∧1≤c.aS) (h2:c.cJ≤40000):vD (j5 c t):=by
  have D:=(nv 4 (List.replicate c.aT {first:=0,tail:=0})).2 (.inl q)
  have E:=(nv 5 (List.replicate c.aS {first:=0,tail:=0})).2 (.inr q)
  have e:(j5 c t).b=List.replicate 272 0 ++ eS 4 (List.replicate c.aT {first:=0,tail:=0}) ++ eS 5 (List.replicate c.aS {first:=0,tail:=0}):=rfl
  have A:=congrArg List.length e
  simp only[List.length_append,List.length_replicate]at D E A
  have B:(j5 c t).n8=0:=rfl
  have C:(j5 c t).aj=[]:=rfl
  have F:(j5 c t).ak=[]:=rfl
  refine⟨⟨h1.1,by show c.aT≤64;omega,h1.2,by show c.aS≤64;omega,?_,?_,(fun k hk=>by rw[C]at hk;simp at hk),(fun k hk=>by rw[F]at hk;simp at hk)⟩,by rw[B];exact chain_nil _,(fun k hk=>by rw[C]at hk;simp at hk),by rw[B];exact Nat.le_refl _,by rw[B];exact Nat.le_refl _,by omega,by omega,h2,by omega⟩
  · have:(j5 c t).h.n.getD 2 0=288:=rfl
    rw[this,A];show 288+16*c.aT≤_;omega
  have:(j5 c t).h.n.getD 4 0=(List.replicate 272 (0:UInt8) ++ eS 4 (List.replicate c.aT {first:=0,tail:=0})).length+16:=rfl
  rw[this,A,List.length_append,List.length_replicate];show _+16*c.aS≤_;omega
theorem xu (s:Sq):(s.config.1.aT≤10∧s.config.1.aS≤10)∧(1≤s.config.1.aT∧1≤s.config.1.aS)∧s.config.1.cJ≤40000:=by
  refine⟨JI s,?_⟩
  rcases h1:s.dI 5 with⟨a,A⟩
  rcases h2:A.dI 5 with⟨b,B⟩
  rcases h3:B.dI 5 with⟨c,C⟩
  rcases h4:C.dI 7 with⟨d,D⟩
  rcases h5:D.dI 4 with⟨e,E⟩
  rcases h6:E.dI 2 with⟨f,F⟩
  simp only[Sq.config,h1,h2,h3,h4,h5,h6]
  omega
theorem ZJ (s:Sq) (n:Nat):(∀q∈(s.record n).1.ak,BD q)∧(s.record n).1.ak.length≤16:=by
  rcases h1:s.pairs 4 with⟨A,B⟩
  rcases h2:B.dI 40 with⟨a,C⟩
  rcases h3:C.dI 9 with⟨b,D⟩
  rcases h4:D.dI 3 with⟨c,E⟩
  simp only[Sq.record,h1,h2,h3,h4]
  exact wi (show kW A=((kW A).1,(kW A).2)from rfl)
theorem za (s:Sq) (n:Nat):(s.record n).1.bZ.length=16:=by
  rcases h1:s.pairs 4 with⟨D,A⟩
  rcases h2:A.dI 40 with⟨a,B⟩
  rcases h3:B.dI 9 with⟨b,C⟩
  rcases h4:C.dI 3 with⟨c,E⟩
  simp only[Sq.record,h1,h2,h3,h4]
  simp[idF]
theorem CO {cJ:Nat} {s:Sq} {m:Mk} {rs:List Rec} (h:¬(rs.length<cJ∧s.cC<s.l.length)):kF (cJ-rs.length) s m rs=(m,rs,s):=by
  by_cases h1:rs.length<cJ
  · obtain⟨n,B⟩:∃n,cJ-rs.length=n+1:=⟨cJ-rs.length-1,by omega⟩
    rw[B]
    show(if s.cC<s.l.length then _ else(m,rs,s))=_
    rw[if_neg (fun A=>h ⟨h1,A⟩)]
  rw[show cJ-rs.length=0 by omega];rfl
theorem Y3 {cJ c e:Nat} {s s1:Sq} {m m1:Mk} {rs:List Rec} {r:Rec} (h:rs.length<cJ) (h2:s.cC<s.l.length) (hr:s.record ((m.dI 9+1)%18446744073709551616)=(r,s1)) (ha:m.append r.ak r.cH r.mono r.bZ=(e,c,m1)) (hc:c≠0) :
    kF (cJ-rs.length) s m rs=(m1,rs,s1):=by
  obtain⟨n,A⟩:∃n,cJ-rs.length=n+1:=⟨cJ-rs.length-1,by omega⟩
  rw[A]
  unfold kF
  rw[if_pos h2]
  simp only[hr,ha]
  rw[if_pos hc]
theorem Y4 {cJ c e:Nat} {s s1:Sq} {m m1:Mk} {rs:List Rec} {r:Rec} (h:rs.length<cJ) (h2:s.cC<s.l.length) (hr:s.record ((m.dI 9+1)%18446744073709551616)=(r,s1)) (ha:m.append r.ak r.cH r.mono r.bZ=(e,c,m1)) (hc:¬c≠0) :
    kF (cJ-rs.length) s m rs=kF (cJ-(rs ++ [r]).length) s1 m1 (rs ++ [r]):=by
  obtain⟨n,A⟩:∃n,cJ-rs.length=n+1:=⟨cJ-rs.length-1,by omega⟩
  rw[A]
  rw[kF,if_pos h2]
  simp only[hr,ha]
  rw[if_neg hc,show cJ-(rs ++ [r]).length=n by simp;omega]
theorem qU (m:Mk) (o:Ly):(m.dD o).2.h.n.length=m.h.n.length:=by simp[Mk.dD,Mk.dZ]
theorem VA (m:Mk) (l:List bT) (t p s:Nat):(m.hang l t p s).2.h=m.h:=by rw[(zD m l t p s).1]
theorem abJ (m:Mk) (x:Ly):(m.field x).2.h.n.length=m.h.n.length:=by
  unfold Mk.field
  split
  · rfl
  simp only
  have B:=qU m (ig {dH:=ec m.c.dU m.c.dc x,cP:=0,dat:=0,aR:=x})
  generalize m.dD (ig {dH:=ec m.c.dU m.c.dc x,cP:=0,dat:=0,aR:=x})=r at *
  obtain⟨p,A⟩:=r
  simp only at B ⊢
  have C:=VA A A.ak (A.dI 4) p (ec m.c.dU m.c.dc x%A.c.aS)
  generalize A.hang A.ak (A.dI 4) p (ec m.c.dU m.c.dc x%A.c.aS)=r at *
  obtain⟨n,D⟩:=r
  simp only at C ⊢
  simp only[Mk.dZ,List.length_set,C]
  exact B
theorem aei (m:Mk) (x:Pr):(m.data x).2.h.n.length=m.h.n.length:=by
  unfold Mk.data
  split
  · rfl
  simp only
  have C:=qU m (jb {dH:=ec m.c.dU m.c.dc (aR x),cP:=0,dR:=0,entry:=0,array:=0,cr:=0,aR:=aR x})
  generalize m.dD (jb {dH:=ec m.c.dU m.c.dc (aR x),cP:=0,dR:=0,entry:=0,array:=0,cr:=0,aR:=aR x})=r at *
  obtain⟨p,A⟩:=r
  simp only at C ⊢
  have D:=VA A A.aj (A.dI 2) p (ec m.c.dU m.c.dc (aR x)%A.c.aT)
  generalize A.hang A.aj (A.dI 2) p (ec m.c.dU m.c.dc (aR x)%A.c.aT)=r at *
  obtain⟨n,B⟩:=r
  simp only at D ⊢
  generalize hx5:({(B.dZ 19 (max (B.dI 19) n)).dZ 15 (((B.dZ 19 (max (B.dI 19) n)).dI 15+1)%18446744073709551616)with aj:=((B.dZ 19 (max (B.dI 19) n)).dZ 15 (((B.dZ 19 (max (B.dI 19) n)).dI 15+1)%18446744073709551616)).aj ++ [({dO:=aR x,cC:=p,dS:=ec m.c.dU m.c.dc (aR x)%A.c.aT,cr:=0,b9:=[]}:bT)]}:Mk)=m5
  have E:m5.h.n.length=m.h.n.length:=by subst hx5;simp only[Mk.dZ,List.length_set,D];exact C
  have F:=abJ m5 x.name
  generalize m5.field x.name=r at *
  obtain⟨k,G⟩:=r
  exact F.trans E
theorem xY:∀(l:List Pr) (m:Mk) (ps:List (List UInt8)) (od:List Nat),(iG l m ps od).2.2.h.n.length=m.h.n.length
  | [],_,_,_=>rfl
  | x :: r,m,ps,od=>(xY r _ _ _).trans (aei m x)
theorem JW (m:Mk) (a:List Nat) (n src gX:Nat):(m.link a n src gX).2.2.h.n.length=m.h.n.length:=by
  unfold Mk.link
  generalize fu a 0 0 0=r
  obtain⟨A,D⟩:=r
  simp only
  split
  · have B:=qU m (fP {next:=0,ay:=List.replicate (e6 (a.length:Int)) 0})
    generalize m.dD (fP {next:=0,ay:=List.replicate (e6 (a.length:Int)) 0})=r at *
    obtain⟨p,C⟩:=r
    simp only at B ⊢
    split
    · show(C.dZ 18 _).h.n.length=_
      simp only[Mk.dZ,List.length_set];exact B
    show(C.dZ 18 _).h.n.length=_
    simp only[Mk.dZ,List.length_set];exact B
  rfl
theorem CS (e:Nat):∀(od:List Nat) (m:Mk),(lH e od m).h.n.length=m.h.n.length
  | [],_=>rfl
  | i :: r,m=>by
    rw[pO,CS e r]
    unfold lG
    simp only
    split
    · rfl
    · exact JW m _ _ _ _
theorem GL (m:Mk) (raw:List Pr) (cH mono:Nat) (bZ:Ly):(m.append raw cH mono bZ).2.2.h.n.length=m.h.n.length:=by
  rcases hl:kW raw with⟨l,c⟩
  by_cases h2:c≠0
  · have e:m.append raw cH mono bZ=(0,c,m):=by unfold Mk.append;simp only[hl];rw[if_pos h2]
    rw[e]
  by_cases h3:m.dI 9=18446744073709551615
  · have e:m.append raw cH mono bZ=(0,1,m):=by unfold Mk.append;simp only[hl];rw[if_neg h2,if_pos h3]
    rw[e]
  have D:=xY l m [] []
  rcases hd:iG l m [] []with⟨I,C,x⟩
  rw[hd]at D
  have E:=qU x (ew {seq:=(x.dI 9+1)%18446744073709551616,cH:=cH,mono:=mono,bZ:=bZ,xor:=nH 0 I,ay:=jL x C})
  rcases ho:x.dD (ew {seq:=(x.dI 9+1)%18446744073709551616,cH:=cH,mono:=mono,bZ:=bZ,xor:=nH 0 I,ay:=jL x C})with⟨e,A⟩
  rw[ho]at E
  have F:=JW A A.main (A.dI 8) 176 e
  rcases hk:A.link A.main (A.dI 8) 176 e with⟨a,t,H⟩
  rw[hk]at F
  simp only at D E F
  have B:m.append raw cH mono bZ=_:=lD (cH:=cH) (mono:=mono) (bZ:=bZ) hl h2 h3 hd ho hk q
  have G:=CS e C (let m4:=({H with main:=a}:Mk).dZ 11 (a.getD 0 0);{m4 with h:={m4.h with cT:=kr a%4294967296,cZ:=t%4294967296}})
  generalize lH e C (let m4:=({H with main:=a}:Mk).dZ 11 (a.getD 0 0);{m4 with h:={m4.h with cT:=kr a%4294967296,cZ:=t%4294967296}})=z at B G
  replace B:m.append raw cH mono bZ=if z.c.cJ<z.b.length then(0,15,m)else((x.dI 9+1)%18446744073709551616,0,pM z (A.dI 8) ((x.dI 9+1)%18446744073709551616) cH mono e bZ):=B
  rw[B]
  split
  · rfl
  show(pM _ _ _ _ _ _ _).h.n.length=_
  rw[(xD _ _ _ _ _ _ _).2.2.2.2.2.2.2.1,G]
  simp only[Mk.dZ,List.length_set]
  omega
theorem GF:∀(n:Nat) (s:Sq) (m:Mk) (rs:List Rec),vD m→m.h.n.length=20→vD (kF n s m rs).1∧(kF n s m rs).1.h.n.length=20
  | 0,_,_,_,h,h2=>⟨h,h2⟩
  | n+1,s,m,rs,h,h2=>by
    unfold kF
    split
    · rcases hr:s.record ((m.dI 9+1)%18446744073709551616)with⟨r,s1⟩
      have hb:r.bZ.length=16:=by
        have:=za s ((m.dI 9+1)%18446744073709551616)
        rw[hr]at this;exact this
      have A:=GL m r.ak r.cH r.mono r.bZ
      have B:=xj (raw:=r.ak) (cH:=r.cH) (mono:=r.mono) h hb (A.trans h2)
      rcases ha:m.append r.ak r.cH r.mono r.bZ with⟨e,c,C⟩
      rw[ha]at A B
      simp only[ha]
      split
      · exact⟨B,A.trans h2⟩
      · exact GF n s1 C _ B (A.trans h2)
    · exact⟨h,h2⟩
theorem ND {s s':Sq} {cJ:Nat} {m:Mk} {rs:List Rec} (h:s.qT cJ=(m,rs,s')):vD m∧m.h.n.length=20:=by
  have A:=xu s
  rcases h1:s.config with⟨c,B⟩
  rcases h2:B.dI 6 with⟨t,C⟩
  rw[h1]at A
  simp only[Sq.qT,h1,h2]at h
  have:=GF cJ C (j5 c t) [] (CR A.1 A.2.1 A.2.2) q
  rw[h]at this
  exact this
theorem QK {m:Mk} (ok:cg.ok m.h) (hb:m.b.length≤40000):(ni m 1).length≤100000:=by
  unfold ni
  rw[List.length_append,xO {m.h with state:=1,n:=m.h.n.set 1 (m.b.length-272)} m.depth ⟨ok.1,ok.2.1,(by decide:(1:Nat)<9223372036854775808),ok.2.2.2.1,ok.2.2.2.2.1,ok.2.2.2.2.2.1,ok.2.2.2.2.2.2.1,ou ok.2.2.2.2.2.2.2.1 Jy,ok.2.2.2.2.2.2.2.2⟩,List.length_drop]
  omega
end Go.Wk
namespace Go.Wk
open Go Go.RowKit
section
variable {P:Program} {n:Nat} {A:Fr n} {D:List Deferred} {l:List (Nat × Value)} {w:World} {ops:Array Oper} {rest:List Oper} {Q:Exit→Act→World→Prop}
variable {d:Tmp} {op:Op} {ty:TypeId} {ps:String} {af:Array Edge}
theorem mv {x:Operand} {v:Value} (h:ev n l x=some v) (k:wpList P ops Q rest (bA A D ((d,v) :: l)) w):wpList P ops Q (⟨some d,.move x,ty,ps,af,none⟩ :: rest) (bA A D l) w:=st v (bg h) k
theorem dh {x:Operand} {v:Value} (h:ev n l x=some v) (k:wpList P ops Q rest (bA A D ((d,v) :: l)) w):wpList P ops Q (⟨some d,.assign x,ty,ps,af,none⟩ :: rest) (bA A D l) w:=st v (fB h) k
theorem nt {K:Act→World→Prop} {a:Act} (h:K a w):wpList P ops (Exit.then K Q) [] a w:=aA (ai h)
theorem mz {C:World→Prop} {QN:Act→World→Prop} {rest:List (Bool × Oper)} {v:Value} (hr:∀w',C w'→dn P ⟨some d,op,ty,ps,af,none⟩ (bA A D l).eval w' v) (k:gD P ops C QN rest (bA A D ((d,v) :: l)) w):gD P ops C QN ((true,⟨some d,op,ty,ps,af,none⟩) :: rest) (bA A D l) w:=Go.Wk.m v hr k
theorem sk {j t:Nat} {o:Oper} {b want:Bool} (hb:b = !want) (k:wpList P ops Q rest (bA A D ((d,undef) :: l)) w) (ho:ops[j]? = some o:=by rfl) (ht:o.dst=some t:=by rfl) (hy:ev n l (.tmp t)=some (.bool b):=by rfl) :
    wpList P ops Q (⟨some d,op,ty,ps,af,some (j,want)⟩ :: rest) (bA A D l) w:=aeT ho ht hy hb k
theorem sg {j t:Nat} {o:Oper} {b want:Bool} {v:Value} (hb:b=want) (hr:dn P ⟨some d,op,ty,ps,af,some (j,want)⟩ (bA A D l).eval w v) (k:wpList P ops Q rest (bA A D ((d,v) :: l)) w) (ho:ops[j]? = some o:=by rfl) (ht:o.dst=some t:=by rfl) (hy:ev n l (.tmp t)=some (.bool b):=by rfl) :
    wpList P ops Q (⟨some d,op,ty,ps,af,some (j,want)⟩ :: rest) (bA A D l) w:=adf v ho ht hy hb hr k
theorem sf {x:Operand} {s:TypeId} {f b o off:Nat} (hx:ev n l x=some (.pointer (some ⟨b,o,none⟩))) (hf:bn P s f=some off) (k:wpList P ops Q rest (bA A D ((d,.pointer (some ⟨b,o+off,none⟩)) :: l)) w):wpList P ops Q (⟨some d,.fieldAddr s x f,ty,ps,af,none⟩ :: rest) (bA A D l) w:=st _ (aG hx hf) k
theorem sl {x:Operand} {t ty':TypeId} {b j:Nat} {cs:List Value} {u:Value} (hx:ev n l x=some (.pointer (some ⟨b,j,none⟩))) (hT:iI P t=true) (hB:cF w b cs ty') (hj:cs[j]? = some u) (k:wpList P ops Q rest (bA A D ((d,u) :: l)) w):wpList P ops Q (⟨some d,.load t x,ty,ps,af,none⟩ :: rest) (bA A D l) w:=st _ (aF hx hT hB hj) k
theorem sn {x:Operand} {p:Addr} (h:ev n l x=some (.pointer (some p))) (k:wpList P ops Q rest (bA A D ((d,.pointer (some p)) :: l)) w):wpList P ops Q (⟨some d,.nilCheck x,ty,ps,af,none⟩ :: rest) (bA A D l) w:=st _ (cW h) k
theorem se {x:Operand} {i:Nat} {vs:Array Value} {v:Value} (h:ev n l x=some (.tuple vs)) (hv:vs[i]? = some v) (k:wpList P ops Q rest (bA A D ((d,v) :: l)) w):wpList P ops Q (⟨some d,.extract x i,ty,ps,af,none⟩ :: rest) (bA A D l) w:=st _ (lW h hv) k
theorem sL {x:Operand} {v:Value} {m:Nat} {t e:TypeId} (hx:ev n l x=some v) (hT:P.underlying t=some (.slice e)) (hS:WL v m) (k:wpList P ops Q rest (bA A D ((d,.int .i64 m) :: l)) w):wpList P ops Q (⟨some d,.call {callee:=.builtin .len,args:=#[x],argTypes:=#[t]},ty,ps,af,none⟩ :: rest) (bA A D l) w:=st _ (iK hx hT hS) k
theorem mo {C:World→Prop} {QN:Act→World→Prop} {rest:List (Bool × Oper)} {x:Operand} {v:Value} (h:ev n l x=some v) (k:gD P ops C QN rest (bA A D ((d,v) :: l)) w):gD P ops C QN ((true,⟨some d,.move x,ty,ps,af,none⟩) :: rest) (bA A D l) w:=Go.Wk.m v (fun _ _=>bg h) k
theorem ns {id:Nat} {lo:List Oper} {y:Code} {a:Act} (h:wpList P lo.toArray (Exit.then (fun a w=>y.wp P Q a w) Q) lo a w):(Code.seq (.region id lo.toArray false) y).wp P Q a w:=aN (aQ h)
theorem an {x:Operand} {v:Value} {K:Act→World→Prop} (h:ev n l x=some v) (k:K (bA A D ((d,v)::l)) w):wpList P ops (Exit.then K Q) [⟨some d,.assign x,ty,ps,af,none⟩] (bA A D l) w:=dh h (nt k)
theorem ar {x:Operand} {v:Value} {R:Exit→Act→World→Prop} (h:ev n l x=some v) (k:R .ret (bA A D ((d,v)::l)) w):wpList P ops (Exit.then (fun a w=>Code.ret.wp P R a w) Q) [⟨some d,.assign x,ty,ps,af,none⟩] (bA A D l) w:=dh h (nt (j4 k))
theorem m2 {x y:Operand} {v u:Value} {e:Tmp} {ty' ps' af'} (h:ev n l x=some v) (h2:ev n ((d,v)::l) y=some u) (k:wpList P ops Q rest (bA A D ((e,u)::(d,v)::l)) w):wpList P ops Q (⟨some d,.move x,ty,ps,af,none⟩::⟨some e,.move y,ty',ps',af',none⟩::rest) (bA A D l) w:=mv h (mv h2 k)
theorem nm {id:Nat} {lo:List Oper} {y:Code} {x:Operand} {v:Value} (h:ev n l x=some v) (k:wpList P (⟨some d,.move x,ty,ps,af,none⟩::lo).toArray (Exit.then (fun a w=>y.wp P Q a w) Q) lo (bA A D ((d,v)::l)) w):(Code.seq (.region id (⟨some d,.move x,ty,ps,af,none⟩::lo).toArray false) y).wp P Q (bA A D l) w:=ns (mv h k)
theorem rv {v:Value} {p:Value→Prop} (h:p v):∃u,Ending.returned v=.returned u∧p u:=⟨v,q,h⟩
theorem rA {d:Option Tmp} {g:Option (Nat × Bool)} {x y:Operand} {t u:TypeId} {a b:Nat} (hx:ev n l x=some (.int .i64 (a:Int))) (hy:ev n l y=some (.int .i64 (b:Int))) (h:a+b<9223372036854775808):dn P ⟨d,.binOp .add t x y u,ty,ps,af,g⟩ (bA A D l).eval w (.int .i64 ((a+b:Nat):Int)):=fK 9223372036854775808 q hx hy h
theorem rS {d:Option Tmp} {g:Option (Nat × Bool)} {x y:Operand} {t u:TypeId} {a b:Nat} (hx:ev n l x=some (.int .i64 (a:Int))) (hy:ev n l y=some (.int .i64 (b:Int))) (h:b≤a∧a<9223372036854775808):dn P ⟨d,.binOp .sub t x y u,ty,ps,af,g⟩ (bA A D l).eval w (.int .i64 ((a-b:Nat):Int)):=lQ 9223372036854775808 q hx hy h
abbrev SN:Value:=.slice none 0 0
theorem tT {Q R S:Nat→Prop} (a:∀b,Q b→R b) (c:∀b,S b→Q b):∀b,S b→R b:=fun b h=>a b (c b h)
theorem sS {S:List Nat} {u w:World} {Q R T:Nat→Prop} (a:∀b,R b→b<w.heap.size→T b) (c:∀b,Q b→b<u.heap.size→R b) (M:Md S u w):∀b,Q b→b<u.heap.size→T b:=fun b h hl=>a b (c b h hl) (Nat.lt_of_lt_of_le hl M.size)
theorem nQ {Q R:Nat→Prop} {b:Nat} (h:¬Q b) (c:∀b,R b→Q b):¬R b:=fun x=>h (c _ x)
theorem rF {α:Type} {T:Dt α} {e:TypeId} {lo:Nat→Prop} {w:World} {Q:Nat→Prop} {v:Value} {xs:List α} (h:Ow T e lo w Q v xs):∀i∈(ah v).toList,lo i:=jw fun x hx=>(h.2 x hx).1
theorem rN {α:Type} {T:Dt α} {e:TypeId} {lo:Nat→Prop} {w:World} {Q:Nat→Prop} {v:Value} {xs:List α} (h:Ow T e lo w Q v xs):∀i∈(ah v).toList,¬Q i:=jw fun x hx=>(h.2 x hx).2
theorem hI {p:Nat→Prop} {b:Nat} (h:p b):∀x∈[b],p x:=by intro x hx;simp at hx;subst hx;exact h
end
end Go.Wk
namespace Go.Wk
open Go Go.RowKit
structure Stop where
  code:Nat
def Stop.cells (x:Stop):List Value :=
  [(.int .i64 x.code)]
structure fq where
  kind:Nat
  flags:Nat
  size:Nat
def fq.cells (x:fq):List Value :=
  [(.int .i64 x.kind)] ++ ([(.int .i64 x.flags)] ++ ([(.int .u64 x.size)]))
def fq.ok (x:fq):Prop:=x.kind<9223372036854775808∧x.flags<9223372036854775808∧x.size<18446744073709551616
theorem fq.one {x:fq}:(x.cells).all (fun u=>u.oneCell')=true:=(di q (di q q))
def fr0:fq:={kind:=0,flags:=0,size:=0}
def mh (b:Ly) (p:Nat):Nat:=(b.getD p 0).toNat
theorem eX {b:Ly} {p:Nat} {x:UInt8} (h:b[p]? = some x):mh b p=x.toNat:=by simp[mh,List.getD,h]
theorem rD {b:Ly} {p v:Nat} {s:Bool} {i:Int} (h:p5 b i 8=(v,s)) (hi:i=(p:Int)) (hb:p+8≤b.length):fI b p=v:=by
  subst hi;have A:=vN (k:=8) (.inr q) hb;rw[show((8:Nat):Int)=8 from rfl]at A;rw[A]at h;exact congrArg Prod.fst h
theorem FC (b:Ly) (p:Nat):mh b p<256:=UInt8.toNat_lt _
def dz (b:Ly) (p:Nat):fq × Nat :=
  if p%8≠0 then(fr0,3)
  else if b.length<p∨b.length-p<16 then(fr0,2)
  else if mh b p<1∨7<mh b p then(fr0,4)
  else if mh b (p+1)≠0 then(fr0,7)
  else if fI b (p+8)<16 then(fr0,5)
  else if b.length-p<fI b (p+8)then(fr0,2)
  else({kind:=mh b p,flags:=0,size:=fI b (p+8)},0)
theorem ME {b:Ly} {p:Nat} (h:p%8≠0):dz b p=(fr0,3):=by unfold dz;rw[if_pos h]
theorem vM {b:Ly} {p:Nat} (h:¬p%8≠0) (h2:b.length<p∨b.length-p<16):dz b p=(fr0,2):=by unfold dz;rw[if_neg h,if_pos h2]
theorem qO {b:Ly} {p:Nat} {x y:UInt8} {z:Nat} {s:fq} (es:s={kind:=x.toNat,flags:=y.toNat,size:=z}) (h:¬p%8≠0) (h2:¬(b.length<p∨b.length-p<16)) (e1:mh b p=x.toNat) (e2:mh b (p+1)=y.toNat) (e3:fI b (p+8)=z) :
    dz b p=if s.kind<1∨7<s.kind then(fr0,4)else if s.flags≠0 then(fr0,7)else if s.size<16 then(fr0,5)else if b.length-p<s.size then(fr0,2)else(s,0):=by
  subst es;unfold dz;rw[if_neg h,if_neg h2,e1,e2,e3];by_cases hf:y.toNat=0
  · rw[hf]
  simp only[if_pos (show y.toNat≠0 from hf)]
theorem QE {b:Ly} {p:Nat} {f:fq} (h:dz b p=(f,0)):16≤f.size∧p+f.size≤b.length∧f.kind<256∧f.flags=0:=by
  unfold dz at h;have:=FC b p
  repeat' split at h
  all_goals first|(have:=congrArg Prod.snd h;simp at this;done)|skip
  have:=congrArg Prod.fst h;simp only at this;subst this;refine⟨?_,?_,?_,q⟩ <;> (simp only;omega)
def uZ:gy:={dH:=0,cP:=0,dR:=0,entry:=0,array:=0,cr:=0,aR:=[]}
def uz:fo:={next:=0,ay:=[]}
def gm (b:Ly) (p n:Nat):List Nat:=(List.range n).map fun i=>fI b (p+8*i)
theorem mM (b:Ly) (p n:Nat):(gm b p n).length=n:=by simp[gm]
theorem ot (b:Ly) (p n:Nat):gm b p (n+1)=gm b p n ++ [fI b (p+8*n)]:=by simp[gm,List.range_succ]
theorem NI (b:Ly) (p n:Nat):gm b p (n+1)=fI b p :: gm b (p+8) n:=by
  induction n generalizing p with
  | zero=>simp[gm]
  | succ n ih =>
    rw[ot,ih,List.cons_append,ot,show p+8*(n+1)=p+8+8*n by omega]
def iL (b:Ly) (p:Nat):gy × Nat :=
  if(dz b p).2≠0 then(uZ,(dz b p).2)
  else if(dz b p).1.kind≠1 then(uZ,4)
  else if(dz b p).1.size≤64 then(uZ,5)
  else({dH:=fI b (p+16),cP:=fI b (p+24),dR:=fI b (p+32),entry:=fI b (p+40),array:=fI b (p+48),cr:=fI b (p+56),aR:=(b.drop (p+64)).take ((dz b p).1.size-64)},0)
def gZ (b:Ly) (p:Nat):fo × Nat :=
  if(dz b p).2≠0 then(uz,(dz b p).2)
  else if(dz b p).1.kind≠6 then(uz,4)
  else if(dz b p).1.size≤24∨((dz b p).1.size-24)%8≠0 then(uz,5)
  else({next:=fI b (p+16),ay:=gm b (p+24) (((dz b p).1.size-24)/8)},0)
def kM (s:Nat) (b:Ly) (p:Nat):gy × Nat:=if p<s∨b.length≤p then(uZ,2)else iL b p
def iO (s:Nat) (b:Ly) (p:Nat):fo × Nat:=if p<s∨b.length≤p then(uz,2)else gZ b p
def qC (s:Nat) (b:Ly) (p:Nat):Nat:=if p<s∨b.length≤p then 2 else 0
theorem lF {b:Ly} {p c:Nat} {f:fq} (h:dz b p=(f,c)) (hc:¬c≠0):16≤f.size∧p+f.size≤b.length∧f.kind<256∧f.flags=0:=QE (by rw[h,Classical.not_not.1 hc])
def kL (b:Ly) (p kind ahead gX:Nat):List UInt8 × Nat :=
  if(dz b p).2≠0 then([],(dz b p).2)
  else if(dz b p).1.kind≠kind then([],4)
  else if(dz b p).1.size≤16+ahead∨((dz b p).1.size-(16+ahead))%gX≠0 then([],5)
  else((b.take (p+(dz b p).1.size)).drop (p+16),0)
theorem AO {b x:Ly} {p kind ahead gX c:Nat} (h:kL b p kind ahead gX=(x,c)) (hc:c=0):(dz b p).2=0∧(dz b p).1.kind=kind∧16+ahead<(dz b p).1.size∧((dz b p).1.size-(16+ahead))%gX=0∧x=(b.take (p+(dz b p).1.size)).drop (p+16)∧x.length=(dz b p).1.size-16∧p+(dz b p).1.size≤b.length:=by
  subst hc;unfold kL at h
  split at h
  · have:=congrArg Prod.snd h;simp at this;contradiction
  rename_i h1
  have A:16≤(dz b p).1.size∧p+(dz b p).1.size≤b.length∧(dz b p).1.kind<256∧(dz b p).1.flags=0:=lF (f:=(dz b p).1) (c:=(dz b p).2) q h1
  split at h
  · have:=congrArg Prod.snd h;simp at this
  rename_i h2
  split at h
  · have:=congrArg Prod.snd h;simp at this
  rename_i h3
  rw[not_or]at h3;have e:=congrArg Prod.fst h;simp only at e;subst e;refine⟨by omega,by omega,by omega,by omega,q,?_,A.2.1⟩;simp only[List.length_drop,List.length_take];omega
theorem JE {b:Ly} {o e i:Nat} (h:i+8≤e-o) (he:e≤b.length):fI ((b.take e).drop o) i=fI b (o+i):=by
  unfold fI
  congr 1
  apply List.ext_getElem?;intro j;simp only[List.getElem?_take,List.getElem?_drop];by_cases hj:j<8
  · rw[if_pos hj,if_pos hj,if_pos (show o+(i+j)<e by omega),Nat.add_assoc]
  rw[if_neg hj,if_neg hj]
theorem wu {b:Ly} {o e n i:Nat} (h:i+8*n≤e-o) (he:e≤b.length):gm ((b.take e).drop o) i n=gm b (o+i) n:=by
  unfold gm
  apply List.map_congr_left;intro k hk;have:=List.mem_range.1 hk;rw[JE Jy he,Nat.add_assoc]
theorem NJ {b:Ly} {l:List Nat} {i v:Nat} {s:Bool} (hl:l=gm b 0 (i/8)) (hi:i%8=0) (hb:i+8≤b.length) (h:p5 b (i:Int) 8=(v,s)):l ++ [v]=gm b 0 ((i+8)/8):=by
  rw[show(i+8)/8=i/8+1 by omega,ot,hl,← rD h q hb]
  congr 3
  omega
theorem S1 {b x:Ly} {p c:Nat} (h:kL b p 6 8 8=(x,c)) (hc:c≠0):gZ b p=(uz,c):=by
  unfold kL at h;unfold gZ
  split at h
  · rename_i h1;rw[if_pos h1,show(dz b p).2=c from congrArg Prod.snd h]
  rename_i h1;rw[if_neg h1]
  split at h
  · rename_i h2;rw[if_pos h2,show 4=c from congrArg Prod.snd h]
  rename_i h2;rw[if_neg h2]
  split at h
  · rename_i h3;rw[if_pos (by simpa using h3),show 5=c from congrArg Prod.snd h]
  exact absurd (congrArg Prod.snd h).symm hc
theorem S2 {b x:Ly} {p c:Nat} {l:List Nat} (h:kL b p 6 8 8=(x,c)) (hc:¬c≠0) (hl:gm x 0 (x.length/8)=l):l.length=x.length/8∧1<l.length∧gZ b p=({next:=l.getD 0 0,ay:=l.drop 1},0):=by
  obtain⟨E,F,G,H,A,B,C⟩:=AO h (Classical.not_not.1 hc)
  have e:l=gm b (p+16) (((dz b p).1.size-16)/8):=by
    rw[← hl,B,A,wu Jy C]
  have D:((dz b p).1.size-16)/8=((dz b p).1.size-24)/8+1:=Jy;refine⟨by rw[← hl,mM],by rw[e,mM];omega,?_⟩;unfold gZ;rw[if_neg Jy,if_neg Jy,if_neg Jy,e,D,NI]
  rfl
theorem aa1 {s p c:Nat} {b:Ly} (h:qC s b p=c) (hc:c≠0):(iO s b p).2=c:=by
  unfold qC at h;unfold iO
  split at h
  · rename_i h1;rw[if_pos h1];exact h
  exact absurd h.symm hc
theorem sO {s p c:Nat} {b:Ly} {x:fo} (h0:qC s b p=0) (h:gZ b p=(x,c)):iO s b p=(x,c):=by
  unfold qC at h0;unfold iO
  split at h0
  · cases h0
  rename_i h1;rw[if_neg h1];exact h
theorem ZF (b:Ly) (p:Nat) (h:(gZ b p).2≠0):(gZ b p).1=uz:=by
  unfold gZ at h ⊢
  split
  · rfl
  split
  · rfl
  split
  · rfl
  rename_i h1 h2 h3;rw[if_neg h1,if_neg h2,if_neg h3]at h;exact absurd q h
theorem aa2 {s p c:Nat} {b:Ly} (h:(iO s b p).2=c) (hc:c≠0):iO s b p=(uz,c):=by
  refine Prod.ext ?_ h;rw[← h]at hc;unfold iO at hc ⊢
  split
  · rfl
  rename_i h1;rw[if_neg h1]at hc;exact ZF b p hc
theorem aaD {s p c:Nat} {b:Ly} (h:qC s b p=c) (hc:c≠0):(kM s b p).2=c:=by
  unfold qC at h;unfold kM
  split at h
  · rename_i h1;rw[if_pos h1];exact h
  exact absurd h.symm hc
theorem Qp {s p c:Nat} {b:Ly} {x:gy} (h0:qC s b p=0) (h:iL b p=(x,c)):kM s b p=(x,c):=by
  unfold qC at h0;unfold kM
  split at h0
  · cases h0
  rename_i h1;rw[if_neg h1];exact h
theorem ZG (b:Ly) (p:Nat) (h:(iL b p).2≠0):(iL b p).1=uZ:=by
  unfold iL at h ⊢
  split
  · rfl
  split
  · rfl
  split
  · rfl
  rename_i h1 h2 h3;rw[if_neg h1,if_neg h2,if_neg h3]at h;exact absurd q h
theorem afO {s p c:Nat} {b:Ly} (h:(kM s b p).2=c) (hc:c≠0):kM s b p=(uZ,c):=by
  refine Prod.ext ?_ h;rw[← h]at hc;unfold kM at hc ⊢
  split
  · rfl
  rename_i h1;rw[if_neg h1]at hc;exact ZG b p hc
def nB (b:Ly) (p kind n:Nat):List Nat × List UInt8 × Nat :=
  if(dz b p).2≠0 then([],[],(dz b p).2)
  else if(dz b p).1.kind≠kind then([],[],4)
  else if(dz b p).1.size≤16+8*n then([],[],5)
  else(gm b (p+16) n,(b.drop (p+16+8*n)).take ((dz b p).1.size-(16+8*n)),0)
theorem yY {b:Ly} {p n c:Nat} {f:fq} {l:List Nat} {kind:Nat} (h:dz b p=(f,c)) (hc:¬c≠0) (h2:¬f.kind≠kind) (h3:¬f.size≤16+8*n) (hl:l=gm ((b.take (p+f.size)).drop (p+16)) 0 n):nB b p kind n=(l,((b.take (p+f.size)).drop (p+16)).drop (8*n),0):=by
  have A:=lF h hc;unfold nB;rw[h];simp only;rw[if_neg hc,if_neg h2,if_neg h3,hl,wu Jy A.2.1];refine Prod.ext q (Prod.ext ?_ q);simp only
  apply List.ext_getElem?;intro j;simp only[List.getElem?_take,List.getElem?_drop];by_cases hj:j<f.size-(16+8*n)
  · rw[if_pos hj,if_pos Jy];congr 1;omega
  rw[if_neg hj,if_neg Jy]
theorem JY {b:Ly} {l:List Nat} {i v:Nat} {s:Bool} (hl:l=gm b 0 i) (hb:8*i+8≤b.length) (h:p5 b ((8*i:Nat):Int) 8=(v,s)):l ++ [v]=gm b 0 (i+1):=by
  rw[ot,hl,← rD h q hb,Nat.zero_add]
theorem vv {b x:Ly} {p c:Nat} {l:List Nat} (h:nB b p 1 6=(l,x,c)):(c≠0→iL b p=(uZ,c))∧(¬c≠0→l.length=6∧iL b p=({dH:=l.getD 0 0,cP:=l.getD 1 0,dR:=l.getD 2 0,entry:=l.getD 3 0,array:=l.getD 4 0,cr:=l.getD 5 0,aR:=x},0)):=by
  unfold nB at h;unfold iL
  split at h
  · rename_i h1
    simp only[Prod.mk.injEq]at h;refine⟨fun _=>by rw[if_pos h1,h.2.2],fun A=>absurd (h.2.2 ▸ h1) A⟩
  rename_i h1
  rw[if_neg h1]
  split at h
  · rename_i h2
    simp only[Prod.mk.injEq]at h;exact⟨fun _=>by rw[if_pos h2,h.2.2],fun A=>absurd (h.2.2 ▸ (by decide:(4:Nat)≠0)) A⟩
  rename_i h2
  rw[if_neg h2]
  split at h
  · rename_i h3
    simp only[Prod.mk.injEq]at h;exact⟨fun _=>by rw[if_pos Jy,h.2.2],fun A=>absurd (h.2.2 ▸ (by decide:(5:Nat)≠0)) A⟩
  rename_i h3
  simp only[Prod.mk.injEq]at h;obtain⟨rfl,rfl,rfl⟩:=h;refine⟨fun A=>absurd q A,fun _=>⟨mM _ _ _,?_⟩⟩;rw[if_neg Jy];simp[gm,List.range_succ]
end Go.Wk
namespace Go.Wk
open Go Go.RowKit
theorem qW {b:Ly} {p n i v:Nat} (h:(gm b p n)[i]? = some v):v=fI b (p+8*i)∧i<n:=by
  unfold gm at h
  rw[List.getElem?_map]at h
  by_cases hi:i<n
  · rw[List.getElem?_range hi]at h
    exact⟨(Option.some.inj h).symm,hi⟩
  rw[List.getElem?_eq_none (by simpa using hi)]at h;cases h
def jx (b:Ly) (p n:Nat):List jO:=(List.range n).map fun i=>{cC:=fI b (p+16*i),dH:=fI b (p+16*i+8)}
theorem sV (b:Ly) (p n:Nat):(jx b p n).length=n:=by simp[jx]
theorem vT (b:Ly) (p n:Nat):jx b p (n+1)=jx b p n ++ [{cC:=fI b (p+16*n),dH:=fI b (p+16*n+8)}]:=by simp[jx,List.range_succ]
def pq:List jO→Bool
  | a :: b :: r=>decide (a.cC<b.cC) && pq (b :: r)
  | _=>true
theorem pD:∀l:List jO,pq l=true↔∀j x y,l[j]? = some x→l[j+1]? = some y→x.cC<y.cC
  | []=>by simp[pq]
  | [a]=>by simp[pq]
  | a :: b :: r=>by
    rw[pq,Bool.and_eq_true,decide_eq_true_eq,pD (b :: r)]
    constructor
    · rintro⟨h1,h2⟩ j x y hx hy
      cases j with
      | zero=>simp at hx hy;subst hx;subst hy;exact h1
      | succ j=>exact h2 j x y (by simpa using hx) (by simpa using hy)
    · intro h
      exact⟨h 0 a b q q,fun j x y hx hy=>h (j+1) x y (by simpa using hx) (by simpa using hy)⟩
def xA:eA:={seq:=0,cH:=0,mono:=0,bZ:=nU,xor:=0,ay:=[]}
def vH (x:Ly):eA:={seq:=fI x 0,cH:=fI x 8,mono:=fI x 16,bZ:=(x.drop 24).take 16,xor:=fI x 40,ay:=jx x 48 ((x.length-48)/16)}
def vg (x:Ly):eA × Nat:=if fI x 0=0 then(xA,13)else if pq (vH x).ay=false then(xA,11)else(vH x,0)
def ic (b:Ly) (p:Nat):eA × Nat :=
  if(kL b p 3 48 16).2≠0 then(xA,(kL b p 3 48 16).2)else vg (kL b p 3 48 16).1
theorem Qu {b x:Ly} {p c:Nat} (h:kL b p 3 48 16=(x,c)) (hc:c≠0):ic b p=(xA,c):=by
  unfold ic;rw[h,if_pos hc]
theorem zB {b x:Ly} {p c:Nat} (h:kL b p 3 48 16=(x,c)) (hc:¬c≠0):ic b p=vg x:=by
  unfold ic;rw[h,if_neg hc]
structure zY (x:Ly) (e:eA) (i:Nat):Prop where
  seq:e.seq=fI x 0
  cH:e.cH=fI x 8
  mono:e.mono=fI x 16
  bZ:e.bZ=(x.drop 24).take 16
  xor:e.xor=fI x 40
  ay:e.ay=jx x 48 ((i-6)/2)
theorem zY.eq {x:Ly} {e:eA} {i:Nat} (h:zY x e i) (hi:i=x.length/8) (h6:x.length%8=0) (h48:48≤x.length):e=vH x:=by
  obtain⟨s,r,m,G,I,H⟩:=e
  obtain⟨A,B,C,D,E,F⟩:=h
  simp only at A B C D E F
  subst hi
  unfold vH
  rw[A,B,C,D,E,F,show(x.length/8-6)/2=(x.length-48)/16 by omega]
theorem zY.step {x:Ly} {e e':eA} {i n v u:Nat} {l:List Nat} (h:zY x e i) (hi:i%2=0) (h6:6≤i) (hl:l=gm x 0 n) (hv:l[i]? = some v) (hu:l[i+1]? = some u) (he:e'={e with ay:=e.ay ++ [{cC:=v,dH:=u}]}):zY x e' (i+2):=by
  subst hl;subst he
  have hv':=(qW hv).1
  have hu':=(qW hu).1
  refine⟨h.seq,h.cH,h.mono,h.bZ,h.xor,?_⟩
  show e.ay ++ _=_
  rw[show(i+2-6)/2=(i-6)/2+1 by omega,vT,h.ay,hv',hu',show 48+16*((i-6)/2)=0+8*i by omega,show 0+8*(i+1)=0+8*i+8 by omega]
theorem afU {x:Ly} (h:fI x 0=0):vg x=(xA,13):=by unfold vg;rw[if_pos h]
theorem afT {x:Ly} {e:eA} {i:Nat} {y z:jO} (he:e=vH x) (h:¬e.seq=0) (h0:1≤i) (hy:e.ay[i]? = some y) (hz:e.ay[i-1]? = some z) (hl:y.cC≤z.cC):vg x=(xA,11):=by
  subst he
  unfold vg
  rw[if_neg (show ¬fI x 0=0 from h),if_pos]
  cases hr:pq (vH x).ay with
  | false=>rfl
  | true =>
    have:=(pD _).1 hr (i-1) z y hz (by rw[Nat.sub_add_cancel h0];exact hy)
    omega
theorem aaQ {x:Ly} {e:eA} {i:Nat} (he:e=vH x) (h:¬e.seq=0) (hi:e.ay.length≤i) (hr:∀j,1≤j→j<i→∀y z,e.ay[j]? = some y→e.ay[j-1]? = some z→z.cC<y.cC):vg x=(e,0):=by
  have B:pq e.ay=true:=by
    rw[pD]
    intro j a c C A
    have D:=(List.getElem?_eq_some_iff.1 A).1
    exact hr (j+1) Jy Jy c a A (by simpa using C)
  subst he
  unfold vg
  rw[if_neg (show ¬fI x 0=0 from h),if_neg (by rw[B];simp)]
theorem aaO {e:eA} {v:Value} {ys:Ly} (hy:ys.length=16):gu (eA.cells e v) 3 (ys.map b8)=eA.cells {e with bZ:=ys} v :=
  pP hy [.int .u64 e.seq,.int .u64 e.cH,.int .u64 e.mono] _ e.bZ
theorem WV {x:Ly} (h:40≤x.length):(((x.take 40).drop 24).map b8).take 16=((x.drop 24).take 16).map b8∧((x.drop 24).take 16).length=16:=by
  have e:(x.take 40).drop 24=(x.drop 24).take 16:=by rw[List.drop_take]
  have A:((x.drop 24).take 16).length=16:=by simp;omega
  refine⟨?_,A⟩
  rw[e,List.take_of_length_le Zz]
theorem XE {x:Ly} {e s:eA} {a b c d:Nat} {n:Nat} {l:List Nat} (hl:l=gm x 0 n) (h0:l[0]? = some a) (h1:l[1]? = some b) (h2:l[2]? = some c) (h5:l[5]? = some d) (he:e={seq:=a,cH:=b,mono:=c,bZ:=nU,xor:=d,ay:=[]}) (hs:s={e with bZ:=(x.drop 24).take 16}):zY x s 6:=by
  subst hl;subst he;subst hs
  exact⟨(qW h0).1,(qW h1).1,(qW h2).1,q,(qW h5).1,q⟩
def iH (s:Nat) (b:Ly) (p:Nat):eA × Nat:=if p<s∨b.length≤p then(xA,2)else ic b p
theorem aaS {s p c:Nat} {b:Ly} (h:qC s b p=c) (hc:c≠0):(iH s b p).2=c:=by
  unfold qC at h
  unfold iH
  split at h
  · rename_i h1;rw[if_pos h1];exact h
  exact absurd h.symm hc
theorem Qq {s p c:Nat} {b:Ly} {x:eA} (h0:qC s b p=0) (h:ic b p=(x,c)):iH s b p=(x,c):=by
  unfold qC at h0
  unfold iH
  split at h0
  · cases h0
  rename_i h1;rw[if_neg h1];exact h
theorem ZH (b:Ly) (p:Nat) (h:(ic b p).2≠0):(ic b p).1=xA:=by
  unfold ic at h ⊢
  split
  · rfl
  rename_i h1
  rw[if_neg h1]at h
  unfold vg at h ⊢
  split
  · rfl
  split
  · rfl
  rename_i h2 h3;rw[if_neg h2,if_neg h3]at h;exact absurd q h
theorem adH {s p c:Nat} {b:Ly} (h:(iH s b p).2=c) (hc:c≠0):iH s b p=(xA,c):=by
  refine Prod.ext ?_ h
  rw[← h]at hc
  unfold iH at hc ⊢
  split
  · rfl
  rename_i h1;rw[if_neg h1]at hc;exact ZH b p hc
end Go.Wk
namespace Go.Wk
open Go Go.RowKit
theorem JJ {s p c:Nat} {b:Ly} {d:gy} (h:kM s b p=(d,c)):d.aR.length≤b.length:=by
  unfold kM at h
  split at h
  · cases h;simp[uZ]
  unfold iL at h
  repeat' split at h
  all_goals (cases h;simp[uZ];try omega)
def iJ (k:Bool) (f:Ly) (s:Nat) (b:Ly) (p:Nat):gy × Nat :=
  if(kM s b p).2≠0 then(uZ,(kM s b p).2)
  else if(kM s b p).1.dH=ec k f (kM s b p).1.aR then kM s b p
  else(uZ,9)
theorem agu {k:Bool} {f b:Ly} {s p c:Nat} (h:(kM s b p).2=c) (hc:c≠0):(iJ k f s b p).2=c:=by
  unfold iJ;rw[h,if_pos hc]
theorem VO {k:Bool} {f b:Ly} {s p n:Nat} {d:gy} (h:kM s b p=(d,0)) (hh:ec k f d.aR=n) (e:d.dH=n):iJ k f s b p=(d,0):=by
  unfold iJ;rw[h,if_neg Oq,if_pos (e.trans hh.symm)]
theorem aip {k:Bool} {f b:Ly} {s p n:Nat} {d:gy} (h:kM s b p=(d,0)) (hh:ec k f d.aR=n) (e:¬d.dH=n):(iJ k f s b p).2=9:=by
  unfold iJ;rw[h,if_neg Oq,if_neg (fun h=>e (h.trans hh))]
theorem VN {k:Bool} {f b:Ly} {s p c:Nat} {d:gy} (h:iJ k f s b p=(d,c)):d.aR.length≤b.length:=by
  unfold iJ at h
  split at h
  · cases h;simp[uZ]
  split at h
  · exact JJ h
  cases h;simp[uZ]
def lT (l:Ly):Pr × Nat:=({name:=(nP l).1,value:=(nP l).2},(gR l).toNat)
theorem IG (l:Ly):0≤gR l∧gR l<100:=by
  unfold gR
  repeat' split
  all_goals omega
theorem EI (l:Ly):gR l=(((gR l).toNat:Nat):Int):=(Int.toNat_of_nonneg (IG l).1).symm
theorem II (l:Ly):(gR l).toNat<9223372036854775808:=by have:=IG l;omega
end Go.Wk
namespace Go.Wk
open Go Go.RowKit
def r5:Rec:={seq:=0,cH:=0,mono:=0,bZ:=nU,ak:=[]}
def jd (k:Bool) (f:Ly) (s:Nat) (b:Ly):List jO→List Pr→List (List UInt8)→(List Pr × List (List UInt8)) × Nat
  | [],fs,all=>((fs,all),0)
  | x :: r,fs,all =>
    if(iJ k f s b x.cC).2≠0 then(([],[]),(iJ k f s b x.cC).2)
    else if(iJ k f s b x.cC).1.dH≠x.dH then(([],[]),9)
    else if(lT (iJ k f s b x.cC).1.aR).2≠0 then(([],[]),(lT (iJ k f s b x.cC).1.aR).2)
    else jd k f s b r (fs ++ [(lT (iJ k f s b x.cC).1.aR).1]) (all ++ [(iJ k f s b x.cC).1.aR])
section
variable {k:Bool} {f b:Ly} {s p i c:Nat} {l:List jO} {x:jO} {d:gy} {fs:List Pr} {all:List (List UInt8)} {q:Pr} {e:eA} {r:Rec}
theorem ul (h:¬i<l.length):jd k f s b (l.drop i) fs all=((fs,all),0):=by rw[ir Jy];rfl
theorem HG (h:l[i]? = some x) (hp:(iJ k f s b x.cC).2=c) (hc:c≠0):jd k f s b (l.drop i) fs all=(([],[]),c):=by
  rw[fw h];unfold jd;rw[hp,if_pos hc]
theorem VW (h:l[i]? = some x) (hp:iJ k f s b x.cC=(d,0)) (hn:¬d.dH=x.dH):jd k f s b (l.drop i) fs all=(([],[]),9):=by
  rw[fw h];unfold jd;rw[hp,if_neg Oq,if_pos hn]
theorem yZ (h:l[i]? = some x) (hp:iJ k f s b x.cC=(d,0)) (hn:d.dH=x.dH) (hs:lT d.aR=(q,c)) (hc:c≠0):jd k f s b (l.drop i) fs all=(([],[]),c):=by
  rw[fw h];unfold jd;rw[hp,if_neg Oq,if_neg (by simpa using hn),hs,if_pos hc]
theorem E1 (h:l[i]? = some x) (hp:iJ k f s b x.cC=(d,0)) (hn:d.dH=x.dH) (hs:lT d.aR=(q,0)):jd k f s b (l.drop i) fs all=jd k f s b (l.drop (i+1)) (fs ++ [q]) (all ++ [d.aR]):=by
  rw[fw h];conv=>lhs;unfold jd
  rw[hp,if_neg Oq,if_neg (by simpa using hn),hs,if_neg Oq]
def mC (k:Bool) (f:Ly) (s:Nat) (b:Ly) (p:Nat):Rec × Nat :=
  if(iH s b p).2≠0 then(r5,(iH s b p).2)
  else if 16<(iH s b p).1.ay.length then(r5,21)
  else if(jd k f s b (iH s b p).1.ay [] []).2≠0 then(r5,(jd k f s b (iH s b p).1.ay [] []).2)
  else if(iH s b p).1.xor=nH 0 (jd k f s b (iH s b p).1.ay [] []).1.2 then({seq:=(iH s b p).1.seq,cH:=(iH s b p).1.cH,mono:=(iH s b p).1.mono,bZ:=(iH s b p).1.bZ,ak:=(jd k f s b (iH s b p).1.ay [] []).1.1},0)
  else(r5,10)
theorem acN (h:(iH s b p).2=c) (hc:c≠0):(mC k f s b p).2=c:=by unfold mC;rw[h,if_pos hc]
theorem acM (h:iH s b p=(e,0)) (hl:16<e.ay.length):(mC k f s b p).2=21:=by unfold mC;rw[h,if_neg Oq,if_pos hl]
theorem yB {y:List Pr × List (List UInt8)} (h:iH s b p=(e,0)) (hl:¬16<e.ay.length) (hg:jd k f s b e.ay [] []=(y,c)) (hc:c≠0):(mC k f s b p).2=c:=by
  unfold mC;rw[h,if_neg Oq,if_neg hl,hg,if_pos hc]
theorem acL {n:Nat} (h:iH s b p=(e,0)) (hl:¬16<e.ay.length) (hg:jd k f s b e.ay [] []=((fs,all),0)) (hx:nH 0 all=n) (hn:¬e.xor=n):(mC k f s b p).2=10:=by
  unfold mC;rw[h,if_neg Oq,if_neg hl,hg,if_neg Oq,if_neg (by rw[hx];exact hn)]
structure aav (e:eA) (r:Rec):Prop where
  seq:r.seq=e.seq
  cH:r.cH=e.cH
  mono:r.mono=e.mono
  bZ:r.bZ=e.bZ
theorem S5 {n:Nat} (h:iH s b p=(e,0)) (hl:¬16<e.ay.length) (hr:aav e r) (hg:jd k f s b e.ay [] []=((r.ak,all),0)) (hx:nH 0 all=n) (hn:e.xor=n):mC k f s b p=(r,0):=by
  unfold mC;rw[h,if_neg Oq,if_neg hl,hg,if_neg Oq,if_pos (by rw[hx];exact hn)]
  obtain⟨E,F,G,H,I⟩:=r
  obtain⟨A,B,C,D⟩:=hr
  simp only at A B C D
  subst A;subst B;subst C;subst D
  rfl
theorem TQ {n:Nat} {y:Ly} (h:∀x∈all,x.length≤n) (hy:y.length≤n):∀x∈all ++ [y],x.length≤n:=by
  intro x B
  rcases List.mem_append.1 B with A|A
  · exact h x A
  simp at A;subst A;exact hy
theorem ai3 (h:(mC k f s b p).2≠0):(mC k f s b p).1=r5:=by
  unfold mC at h ⊢
  split
  · rfl
  split
  · rfl
  split
  · rfl
  split
  · rename_i h1 h2 h3 h4;rw[if_neg h1,if_neg h2,if_neg h3,if_pos h4]at h;exact absurd rfl h
  rfl
theorem rQ (h:(mC k f s b p).2=c) (hc:c≠0):mC k f s b p=(r5,c):=by
  refine Prod.ext ?_ h
  exact ai3 (by rw[h];exact hc)
end
end Go.Wk
namespace Go.Wk
open Go Go.RowKit
def seg (b:Ly) (p n:Nat):List UInt8:=(b.drop p).take n
theorem zT {b:Ly} {p n i:Nat} (h:i<n):(seg b p n)[i]? = b[p+i]?:=by
  unfold seg;rw[List.getElem?_take,if_pos h,List.getElem?_drop]
theorem aeK {b:Ly} {p n:Nat} (h:p+n≤b.length):(seg b p n).length=n:=by unfold seg;simp;omega
theorem WB {b c:Ly} {p n:Nat} (h:∀i,i<n→c[p+i]? = b[p+i]?):seg c p n=seg b p n:=by
  apply List.ext_getElem?
  intro i
  by_cases hi:i<n
  · rw[zT hi,zT hi,h i hi]
  unfold seg;rw[List.getElem?_take,List.getElem?_take,if_neg hi,if_neg hi]
theorem mH (b:Ly) (p:Nat):fI b p=BZ (seg b p 8):=rfl
theorem aeL {b:Ly} {p n q k:Nat} (h:q+k≤n):seg (seg b p n) q k=seg b (p+q) k:=by
  unfold seg
  rw[List.drop_take,List.take_take,List.drop_drop,Nat.min_eq_left Jy]
theorem OZ {b l:Ly} {p n q k:Nat} (h:seg b p n=l) (hq:q+k≤n):seg b (p+q) k=seg l q k:=by rw[← h,aeL hq]
theorem WA {b o:Ly} {p n:Nat} (h:p+n≤b.length):seg (b ++ o) p n=seg b p n :=
  WB fun i hi=>List.getElem?_append_left Jy
theorem seg_new (b o:Ly):seg (b ++ o) b.length o.length=o:=by unfold seg;rw[List.drop_left,List.take_length]
theorem mE (x y:Ly) {n:Nat} (h:n=x.length):seg (x ++ y) 0 n=x:=by subst h;simp[seg]
theorem iM {x y:Ly} {p n:Nat} (h:x.length≤p):seg (x ++ y) p n=seg y (p-x.length) n:=by
  unfold seg;rw[List.drop_append,List.drop_eq_nil_of_le h,List.nil_append]
theorem JS (v n:Nat):BZ (low v n)=v%256 ^ n:=by
  induction n generalizing v with
  | zero=>simp[low,BZ,Nat.mod_one]
  | succ n ih =>
    simp only[low,BZ,ih]
    rw[UInt8.toNat_ofNat',show 2 ^ 8=256 from rfl,Nat.mod_mod,Nat.pow_succ,Nat.mul_comm (256 ^ n) 256,Nat.mod_mul]
theorem ad6 {v:Nat} (r:Ly) (h:v<18446744073709551616):fI (low v 8 ++ r) 0=v:=by
  rw[mH,mE _ _ (by rw[iq]),JS]
  exact Nat.mod_eq_of_lt h
theorem iE {x y:Ly} {p:Nat} (h:x.length≤p):fI (x ++ y) p=fI y (p-x.length):=by rw[mH,mH,iM h]
theorem JD {b o:Ly} {p:Nat} (h:p+8≤b.length):fI (b ++ o) p=fI b p:=by rw[mH,mH,WA h]
theorem aa5 {b l:Ly} {p n q:Nat} (h:seg b p n=l) (hq:q+8≤n):fI b (p+q)=fI l q:=by rw[mH,mH,OZ h hq]
theorem mA:∀{l:List Nat} {r:Ly} {i v:Nat},l[i]? = some v→v<18446744073709551616→fI (nums l ++ r) (8*i)=v
  | [],_,_,_,h,_=>by simp at h
  | x :: l,r,0,v,h,hv=>by
    simp at h;subst h
    rw[nums,List.append_assoc]
    exact ad6 _ hv
  | x :: l,r,i+1,v,h,hv=>by
    rw[nums,List.append_assoc,iE (by rw[iq];omega),iq,show 8*(i+1)-8=8*i by omega]
    exact mA (by simpa using h) hv
theorem FA {l:List Nat} {i v:Nat} (h:l[i]? = some v) (hv:v<18446744073709551616):fI (nums l) (8*i)=v:=by
  have:=mA (r:=[]) h hv
  rwa [List.append_nil]at this
theorem Oo:∀(n:Nat) (b:Ly) (p v i q:Nat),(ES n b p v i)[q]? = if p+i≤q∧q<p+i+n∧q<b.length then some (UInt8.ofNat (v/2 ^ (8*(q-p))))else b[q]?
  | 0,b,p,v,i,q=>by rw[if_neg Jy];rfl
  | n+1,b,p,v,i,q=>by
    rw[ES,Oo n]
    simp only[List.length_set]
    by_cases h:p+(i+1)≤q∧q<p+(i+1)+n∧q<b.length
    · rw[if_pos h,if_pos Jy]
    · rw[if_neg h]
      by_cases hq:q=p+i
      · subst hq
        by_cases hl:p+i<b.length
        · rw[if_pos Jy,List.getElem?_set_self hl,show p+i-p=i by omega]
        · rw[if_neg Jy,List.getElem?_eq_none Zz,List.getElem?_eq_none Jy]
      · rw[if_neg Jy,List.getElem?_set_ne Jy]
theorem O1 (b:Ly) (p v q:Nat):(jG b p v)[q]? = if p≤q∧q<p+8∧q<b.length then some (UInt8.ofNat (v/2 ^ (8*(q-p))))else b[q]?:=Oo 8 b p v 0 q
theorem WC {b:Ly} {p v q n:Nat} (h:p+8≤q∨q+n≤p):seg (jG b p v) q n=seg b q n :=
  WB fun i hi=>by rw[O1,if_neg Jy]
theorem UW:∀(n v i:Nat),i<n→(low v n)[i]? = some (UInt8.ofNat (v/2 ^ (8*i)))
  | n+1,v,0,_=>by
    simp only[low,List.getElem?_cons_zero,Nat.mul_zero,Nat.pow_zero,Nat.div_one,Option.some.injEq]
    apply UInt8.toNat.inj;simp
  | n+1,v,i+1,h=>by
    simp only[low,List.getElem?_cons_succ]
    rw[UW n (v/256) i Jy,Nat.div_div_eq_div_mul,show 256*2 ^ (8*i)=2 ^ (8*(i+1))by rw[Nat.mul_add,Nat.pow_add,Nat.mul_comm]]
theorem KY {b:Ly} {p v:Nat} (h:p+8≤b.length):seg (jG b p v) p 8=low v 8:=by
  apply List.ext_getElem?
  intro i
  by_cases hi:i<8
  · rw[zT hi,O1,if_pos Jy,UW 8 v i hi,show p+i-p=i by omega]
  rw[List.getElem?_eq_none (by rw[aeK (by rw[jc];omega)];omega),List.getElem?_eq_none (by rw[iq];omega)]
theorem qh {b:Ly} {p v q:Nat} (h:p+8≤q∨q+8≤p):fI (jG b p v) q=fI b q:=by rw[mH,mH,WC h]
theorem mZ {b:Ly} {p v:Nat} (h:p+8≤b.length) (hv:v<18446744073709551616):fI (jG b p v) p=v:=by
  rw[mH,KY h,JS]
  exact Nat.mod_eq_of_lt hv
theorem AP {b:Ly} {p i n:Nat} (h:i<n):mh b (p+i)=((seg b p n).getD i 0).toNat:=by
  unfold mh
  rw[List.getD_eq_getElem?_getD,List.getD_eq_getElem?_getD,zT h]
structure Eff (S:Nat→Prop) (b c:Ly):Prop where
  len:b.length≤c.length
  seg:∀q n,q+n≤b.length→(∀a,S a→a+8≤q∨q+n≤a)→seg c q n=seg b q n
theorem Eff.refl (S:Nat→Prop) (b:Ly):Eff S b b:=⟨Nat.le_refl _,fun _ _ _ _=>rfl⟩
theorem Eff.trans {S:Nat→Prop} {a b c:Ly} (h:Eff S a b) (k:Eff S b c):Eff S a c :=
  ⟨lj h.len k.len,fun q n hq hs=>(k.seg q n (lj hq h.len) hs).trans (h.seg q n hq hs)⟩
theorem Eff.mono {S T:Nat→Prop} {a b:Ly} (h:Eff S a b) (hs:∀x,S x→T x):Eff T a b:=⟨h.len,fun q n hq ht=>h.seg q n hq fun x hx=>ht x (hs x hx)⟩
theorem Eff.put (b:Ly) (p v:Nat):Eff (fun a=>a=p) b (jG b p v):=⟨by rw[jc];exact Nat.le_refl _,fun q n _ hs=>WC (hs p rfl)⟩
theorem Eff.app (S:Nat→Prop) (b o:Ly):Eff S b (b ++ o):=⟨by simp,fun q n hq _=>WA hq⟩
theorem Eff.fI {S:Nat→Prop} {b c:Ly} {q:Nat} (h:Eff S b c) (hq:q+8≤b.length) (hs:∀a,S a→a+8≤q∨q+8≤a):fI c q=fI b q:=by
  rw[mH,mH,h.seg q 8 hq hs]
end Go.Wk
namespace Go.Wk
open Go Go.RowKit
structure Ob where
  cC:Nat
  kind:Nat
  size:Nat
def sG (n:Nat):Nat:=(n+7)/8*8
theorem fW (n:Nat):n≤sG n∧sG n<n+8∧sG n%8=0:=by unfold sG;omega
def PS (kind size:Nat):List UInt8:=[UInt8.ofNat kind,0,0,0,0,0,0,0] ++ nums [size]
theorem kC (k s:Nat):(PS k s).length=16:=by simp[PS,eN]
theorem wQ {k:Nat} {body:Ly} (h:1≤k∧k≤7):ru k body=(PS k (16+body.length) ++ body) ++ List.replicate ((8-(16+body.length)%8)%8) 0:=by
  unfold ru
  rw[if_neg Jy,DR]
  have:([UInt8.ofNat k,0,0,0,0,0,0,0] ++ nums [16+body.length] ++ body).length=16+body.length:=by simp[eN];omega
  rw[this]
  rfl
def gB (b:Ly):Nat→List Ob→Nat→Prop
  | p,[],e=>p=e
  | p,o :: r,e=>o.cC=p∧1≤o.kind∧o.kind≤7∧16≤o.size∧o.size<18446744073709551616∧seg b p 16=PS o.kind o.size∧gB b (p+sG o.size) r e
theorem gB.le {b:Ly}:∀{l:List Ob} {p e:Nat},gB b p l e→p≤e∧(p%8=0→e%8=0)
  | [],_,_,h=>by cases h;exact⟨Nat.le_refl _,id⟩
  | o :: r,p,e,h=>by
    have:=h.2.2.2.2.2.2.le
    have:=fW o.size
    omega
structure ady (b:Ly) (p e:Nat) (o:Ob):Prop where
  ge:p≤o.cC
  le:o.cC+sG o.size≤e
  al:p%8=0→o.cC%8=0
  kind:1≤o.kind∧o.kind≤7
  size:16≤o.size∧o.size<18446744073709551616
  hd:seg b o.cC 16=PS o.kind o.size
theorem gB.mem {b:Ly}:∀{l:List Ob} {p e:Nat} {o:Ob},gB b p l e→o∈l→ady b p e o
  | [],_,_,_,_,h=>by simp at h
  | x :: r,p,e,o,h,ho=>by
    obtain⟨h1,h2,h3,h4,h5,h6,h7⟩:=h
    have hl:=h7.le
    have hu:=fW x.size
    rcases List.mem_cons.1 ho with rfl|ho
    · subst h1
      exact⟨Nat.le_refl _,hl.1,id,⟨h2,h3⟩,⟨h4,h5⟩,h6⟩
    · obtain⟨g1,g2,g3,g4,g5,g6⟩:=h7.mem ho
      exact⟨by omega,g2,fun hp=>g3 Jy,g4,g5,g6⟩
theorem gB.sep {b:Ly}:∀{l:List Ob} {p e:Nat} {o x:Ob},gB b p l e→o∈l→x∈l→o=x∨o.cC+sG o.size≤x.cC∨x.cC+sG x.size≤o.cC
  | [],_,_,_,_,_,h,_=>by simp at h
  | y :: r,p,e,o,x,h,ho,hx=>by
    obtain⟨h1,h2,h3,h4,h5,h6,h7⟩:=h
    rcases List.mem_cons.1 ho with e1|e1
    · rcases List.mem_cons.1 hx with e2|e2
      · exact .inl (e1.trans e2.symm)
      · have:=(h7.mem e2).ge;subst e1;exact .inr (.inl Jy)
    · rcases List.mem_cons.1 hx with e2|e2
      · have:=(h7.mem e1).ge;subst e2;exact .inr (.inr Jy)
      · exact h7.sep e1 e2
theorem gB.app {b:Ly}:∀{l:List Ob} {p e:Nat} {o:Ob},gB b p l e→o.cC=e→1≤o.kind→o.kind≤7→16≤o.size→o.size<18446744073709551616→seg b e 16=PS o.kind o.size→gB b p (l ++ [o]) (e+sG o.size)
  | [],p,e,o,h,h1,h2,h3,h4,h5,h6=>by cases h;exact⟨h1,h2,h3,h4,h5,h6,q⟩
  | x :: r,p,e,o,h,h1,h2,h3,h4,h5,h6=>by
    obtain⟨g1,g2,g3,g4,g5,g6,g7⟩:=h
    exact⟨g1,g2,g3,g4,g5,g6,g7.app h1 h2 h3 h4 h5 h6⟩
def Body (l:List Ob) (a:Nat):Prop:=a+8≤272∨∃o∈l,o.cC+16≤a∧a+8≤o.cC+sG o.size
theorem gB.mX {b c:Ly} {S:Nat→Prop} {l:List Ob} {p e:Nat} (h:gB b p l e) (k:Eff S b c) (hb:e≤b.length) (hs:∀o∈l,∀a,S a→a+8≤o.cC∨o.cC+16≤a):gB c p l e:=by
  induction l generalizing p with
  | nil=>exact h
  | cons o r ih =>
    have K:=gB.mem (o:=o) h Oq
    obtain⟨A,C,D,E,F,G,B⟩:=h
    have L:=fW o.size
    have J:=B.le
    refine⟨A,C,D,E,F,?_,ih B fun x I=>hs x (by simp[I])⟩
    rw[k.seg p 16 Jy fun a H=>A ▸ hs o Oq a H,G]
theorem gB.body {b:Ly} {l:List Ob} {e:Nat} (h:gB b 272 l e) {a:Nat} (ha:Body l a) {o:Ob} (ho:o∈l):a+8≤o.cC∨o.cC+16≤a:=by
  have B:=h.mem ho
  rcases ha with ha|⟨x,C,D,E⟩
  · have:=B.ge;omega
  have:=fW o.size
  have:=fW x.size
  rcases h.sep ho C with rfl|A|A <;> omega
theorem BG {b:Ly} {p e:Nat} {o:Ob} (h:ady b p e o) (hp:p%8=0) (hb:o.cC+o.size≤b.length):dz b o.cC=({kind:=o.kind,flags:=0,size:=o.size},0):=by
  have A:=h.size.1
  have B:mh b o.cC=o.kind:=by
    have:=AP (b:=b) (p:=o.cC) (i:=0) (n:=16) Jy
    rw[Nat.add_zero,h.hd]at this
    rw[this]
    show(UInt8.ofNat o.kind).toNat=_
    have:=h.kind
    rw[UInt8.toNat_ofNat',Nat.mod_eq_of_lt Jy]
  have C:mh b (o.cC+1)=0:=by
    have:=AP (b:=b) (p:=o.cC) (i:=1) (n:=16) Jy
    rw[h.hd]at this
    rw[this];rfl
  have D:fI b (o.cC+8)=o.size:=by
    rw[aa5 h.hd Jy,PS,iE Oq]
    exact FA (l:=[o.size]) (i:=0) q h.size.2
  have hk:=h.kind
  have E:=h.al hp
  unfold dz
  rw[if_neg Jy,if_neg Jy,B,C,D,if_neg Jy,if_neg Jy,if_neg Jy,if_neg Jy]
theorem adA {b:Ly} {p e k ahead gX:Nat} {o:Ob} (h:ady b p e o) (hp:p%8=0) (hb:o.cC+o.size≤b.length) (hk:o.kind=k) (h1:16+ahead<o.size) (h2:(o.size-(16+ahead))%gX=0):kL b o.cC k ahead gX=(seg b (o.cC+16) (o.size-16),0):=by
  unfold kL
  rw[BG h hp hb]
  simp only
  rw[if_neg Oq,if_neg Jy,if_neg Jy]
  congr 1
  unfold seg
  rw[List.drop_take,show o.cC+o.size-(o.cC+16)=o.size-16 by omega]
theorem agp {b:Ly} {p e k n:Nat} {o:Ob} (h:ady b p e o) (hp:p%8=0) (hb:o.cC+o.size≤b.length) (hk:o.kind=k) (h1:16+8*n<o.size):nB b o.cC k n=(gm b (o.cC+16) n,seg b (o.cC+16+8*n) (o.size-(16+8*n)),0):=by
  have A:=yY (b:=b) (p:=o.cC) (n:=n) (kind:=k) (BG h hp hb) Oq Zw Zw q
  rw[A,wu Zw Zw,Nat.add_zero]
  congr 2
  unfold seg
  simp only
  rw[List.drop_take,List.drop_take,List.drop_drop,show o.cC+o.size-(o.cC+16)-8*n=o.size-(16+8*n)by omega]
end Go.Wk
namespace Go.Wk
open Go Go.RowKit
def pA:Nat→Nat
  | 0=>0
  | k+1=>pA k+e6 (k:Int)
theorem HU:∀(l:List Nat) (k a:Nat),fu l k a (pA k)=(if l=[]then a else pA (k+l.length-1),pA (k+l.length))
  | [],_,_=>rfl
  | x :: l,k,a=>by
    have:=HU l (k+1) (pA k)
    rw[show fu (x :: l) k a (pA k)=fu l (k+1) (pA k) (pA (k+1))from rfl,this]
    have h1:k+1+l.length=k+(l.length+1):=by omega
    simp only[List.length_cons,h1,reduceCtorEq,if_false,Prod.mk.injEq,and_true]
    split
    · rename_i h;subst h;rfl
    · rfl
theorem ZN (l:List Nat):fu l 0 0 0=(pA (l.length-1),pA l.length):=by
  have:=HU l 0 0
  simp only[pA,Nat.zero_add]at this
  rw[this]
  congr 1
  split
  · rename_i h;subst h;rfl
  rfl
theorem aaB {i j:Nat} (h:i≤j):pA i≤pA j:=by
  induction j with
  | zero=>rw[Nat.le_zero.1 h];exact Nat.le_refl _
  | succ j ih =>
    rcases Nat.lt_or_ge i (j+1)with A|A
    · have:=ih Jy;simp only[pA];omega
    · rw[show i=j+1 by omega];exact Nat.le_refl _
theorem aaC {i j:Nat} (h:i<j):pA i+e6 (i:Int)≤pA j:=aaB (show i+1≤j from h)
theorem qP (l:List Nat) (x i:Nat):(l ++ [x]).getD i 0=if i=l.length then x else l.getD i 0:=by
  simp only[List.getD_eq_getElem?_getD]
  by_cases h:i<l.length
  · rw[List.getElem?_append_left h,if_neg Jy]
  rw[List.getElem?_append_right Jy]
  by_cases h2:i=l.length
  · subst h2;simp
  rw[if_neg h2,List.getElem?_eq_none Zz,List.getElem?_eq_none Jy]
theorem getD_some {l:List Nat} {i x:Nat} (h:l[i]? = some x):l.getD i 0=x:=by simp[List.getD,h]
structure Chain (b:Ly) (l:List Ob) (src:Nat) (av ay:List Nat):Prop where
  word:fI b src=av.getD 0 0
  ob:∀k a:Nat,av[k]? = some a→(⟨a,6,24+8*e6 (k:Int)⟩:Ob)∈l
  next:∀k a:Nat,av[k]? = some a→fI b (a+16)=av.getD (k+1) 0
  gX:∀k a j:Nat,av[k]? = some a→j<e6 (k:Int)→fI b (a+24+8*j)=ay.getD (pA k+j) 0
  EZ:∀k a c:Nat,av[k]? = some a→av[k+1]? = some c→a<c
  lo:pA (av.length-1)≤ay.length
  hi:ay.length≤pA av.length
theorem PZ {av:List Nat} (h:∀k a c:Nat,av[k]? = some a→av[k+1]? = some c→a<c):∀(d k a c:Nat),av[k]? = some a→av[k+d+1]? = some c→a<c
  | 0,k,a,c,h1,h2=>h k a c h1 h2
  | d+1,k,a,c,h1,h2=>by
    obtain⟨y,hy⟩:∃y,av[k+d+1]? = some y:=⟨_,List.getElem?_eq_getElem (by have:=(List.getElem?_eq_some_iff.1 h2).1;omega)⟩
    have:=PZ h d k a y h1 hy
    have:=h (k+d+1) y c hy h2
    omega
def Src (l:List Ob) (a:Nat):Prop:=a+8≤272∨∃o∈l,o.kind≠6∧o.cC+16≤a∧a+8≤o.cC+sG o.size
theorem Src.body {l:List Ob} {a:Nat} (h:Src l a):Body l a:=h.imp id fun⟨o,h1,_,h2⟩=>⟨o,h1,h2⟩
theorem Src.apart {b:Ly} {l:List Ob} {a e:Nat} (h:Src l a) (hO:gB b 272 l e) {o:Ob} (ho:o∈l) (hk:o.kind=6):a+8≤o.cC∨o.cC+sG o.size≤a:=by
  rcases h with h|⟨x,C,A,D,E⟩
  · have:=(hO.mem ho).ge;omega
  rcases hO.sep ho C with rfl|B|B
  · exact absurd hk A
  · omega
  omega
theorem Src.mono {l r:List Ob} {a:Nat} (h:Src l a) (hs:∀o∈l,o∈r):Src r a:=h.imp id fun⟨o,h1,h2⟩=>⟨o,hs o h1,h2⟩
theorem Src.lt {b:Ly} {l:List Ob} {a e:Nat} (h:Src l a) (hO:gB b 272 l e):a+8≤e:=by
  rcases h with h|⟨x,A,B,C,D⟩
  · have:=hO.le;omega
  have:=(hO.mem A).le;omega
def zZ (src:Nat) (av:List Nat) (a:Nat):Prop:=a=src∨∃k c:Nat,av[k]? = some c∧c+16≤a∧a+8≤c+24+8*e6 (k:Int)
theorem iY (r:Nat):sG (24+8*r)=24+8*r:=by unfold sG;omega
section
variable {b c:Ly} {l:List Ob} {src e:Nat} {av ay:List Nat}
theorem Chain.apart (h:Chain b l src av ay) (hO:gB b 272 l e) {k k' a a':Nat} (ha:av[k]? = some a) (ha':av[k']? = some a') (hk:k≠k'):a+24+8*e6 (k:Int)≤a'∨a'+24+8*e6 (k':Int)≤a:=by
  have B:a≠a':=by
    rcases Nat.lt_or_ge k k' with A|A
    · have:=PZ h.EZ (k'-k-1) k a a' ha (by rw[show k+(k'-k-1)+1=k' by omega];exact ha');omega
    · have:=PZ h.EZ (k-k'-1) k' a' a ha' (by rw[show k'+(k-k'-1)+1=k by omega];exact ha);omega
  rcases hO.sep (h.ob k a ha) (h.ob k' a' ha')with A|A|A
  · exact absurd (congrArg Ob.cC A) B
  · rw[iY]at A;simp only at A;omega
  rw[iY]at A;simp only at A;omega
theorem Chain.le (h:Chain b l src av ay) (hO:gB b 272 l e) {k a:Nat} (ha:av[k]? = some a):272≤a∧a+24+8*e6 (k:Int)≤e:=by
  have:=hO.mem (h.ob k a ha)
  have B:=this.le
  have C:=this.ge
  rw[iY]at B
  simp only at B C
  omega
theorem Chain.mX {S:Nat→Prop} {r:List Ob} (h:Chain b l src av ay) (hO:gB b 272 l e) (hs:Src l src) (he:e≤b.length) (k:Eff S b c) (hr:∀o∈l,o∈r) (h1:∀a,S a→a+8≤src∨src+8≤a) (h2:∀k x:Nat,av[k]? = some x→∀a,S a→a+8≤x+16∨x+24+8*e6 (k:Int)≤a):Chain c r src av ay:=by
  have D:=hs.lt hO
  refine⟨(k.fI Jy h1).trans h.word,fun i a A=>hr _ (h.ob i a A),fun i a A=>?_,fun i a j A C=>?_,h.EZ,h.lo,h.hi⟩
  · have:=h.le hO A
    rw[k.fI Jy fun x B=>by have:=h2 i a A x B;omega]
    exact h.next i a A
  have:=h.le hO A
  rw[k.fI Jy fun x B=>by have:=h2 i a A x B;omega]
  exact h.gX i a j A C
theorem Chain.put (h:Chain b l src av ay) (hO:gB b 272 l e) (hs:Src l src) (he:e≤b.length) {x p:Nat} (hx:x<18446744073709551616) (hn:av≠[]) (hp:av[av.length-1]? = some p) (hr:ay.length<pA av.length) :
    Chain (jG b (p+24+8*(ay.length-pA (av.length-1))) x) l src av (ay ++ [x]):=by
  have D:0<av.length:=List.length_pos_iff.2 hn
  have H:pA av.length=pA (av.length-1)+e6 ((av.length-1:Nat):Int):=by rw[show av.length=(av.length-1)+1 by omega];rfl
  have F:=h.lo
  have G:=h.le hO hp
  generalize hq:p+24+8*(ay.length-pA (av.length-1))=q
  have B:=hs.apart hO (h.ob _ _ hp) rfl
  rw[iY]at B
  simp only at B
  refine⟨?_,h.ob,fun i a A=>?_,fun i a j A C=>?_,h.EZ,?_,?_⟩
  · rw[qh Jy];exact h.word
  · have:q+8≤a+16∨a+16+8≤q:=by
      by_cases hi:i=av.length-1
      · subst hi;rw[hp]at A;cases A;omega
      · have:=h.apart hO A hp hi;omega
    rw[qh this];exact h.next i a A
  · rw[qP]
    by_cases hi:i=av.length-1
    · subst hi
      rw[hp]at A;cases A
      by_cases hj2:j=ay.length-pA (av.length-1)
      · rw[if_pos Jy,show p+24+8*j=q by omega]
        exact mZ Jy hx
      rw[if_neg Jy,qh Jy]
      exact h.gX _ _ j hp C
    have E:i<av.length:=(List.getElem?_eq_some_iff.1 A).1
    have:=aaC (show i<av.length-1 by omega)
    have:=h.apart hO A hp hi
    rw[if_neg Jy,qh Jy]
    exact h.gX i a j A C
  · rw[List.length_append];simp only[List.length_singleton];omega
  rw[List.length_append];simp only[List.length_singleton];omega
end
theorem tO {av:List Nat} {p k a:Nat} (h:(av ++ [p])[k]? = some a):(k<av.length∧av[k]? = some a)∨(k=av.length∧a=p):=by
  rcases Nat.lt_or_ge k av.length with hk|hk
  · rw[List.getElem?_append_left hk]at h;exact .inl ⟨hk,h⟩
  have A:=(List.getElem?_eq_some_iff.1 h).1
  simp at A
  rw[List.getElem?_append_right hk,show k-av.length=0 by omega]at h
  exact .inr ⟨by omega,by simpa using h.symm⟩
def IZ (r:Nat):List UInt8:=fP {next:=0,ay:=List.replicate r 0}
theorem JA (r:Nat):IZ r=PS 6 (24+8*r) ++ nums (0 :: List.replicate r 0):=by
  unfold IZ fP
  rw[wQ Jy]
  have:(nums [0] ++ nums (List.replicate r 0)).length=8+8*r:=by simp[eN]
  simp only[this]
  rw[show(8-(16+(8+8*r))%8)%8=0 by omega,show 16+(8+8*r)=24+8*r by omega]
  simp[nums]
theorem LU (r:Nat):(IZ r).length=24+8*r:=by rw[JA];simp[kC,eN];omega
theorem WT {r i:Nat} (h:i≤r):fI (IZ r) (16+8*i)=0:=by
  rw[JA,iE (by rw[kC];omega),kC,show 16+8*i-16=8*i by omega]
  refine FA (v:=0) ?_ Kq
  cases i with
  | zero=>rfl
  | succ i=>simp only[List.getElem?_cons_succ];rw[List.getElem?_replicate,if_pos Jy]
theorem ad3 (r:Nat):seg (IZ r) 0 16=PS 6 (24+8*r):=by rw[JA];exact mE _ _ (kC _ _).symm
theorem Chain.grow {b:Ly} {l:List Ob} {src:Nat} {av ay:List Nat} (h:Chain b l src av ay) (hO:gB b 272 l b.length) (hs:Src l src) (hb:b.length<1000000) (hr:ay.length=pA av.length) :
    let b1:=b ++ IZ (e6 (av.length:Int))
    let l1:=l ++ [(⟨b.length,6,24+8*e6 (av.length:Int)⟩:Ob)]
    gB b1 272 l1 b1.length∧Chain (jG b1 (if av.length=0 then src else kr av+16) b.length) l1 src (av ++ [b.length]) ay:=by
  intro b1 l1
  have R:=tG (av.length:Int)
  have P:b1.length=b.length+(24+8*e6 (av.length:Int)):=by simp[b1,LU]
  have G:Eff (fun _=>False) b b1:=Eff.app _ _ _
  have U:=hO.le
  have M:gB b1 272 l1 b1.length:=by
    have:=(hO.mX G (Nat.le_refl _) (fun _ _ _ Y=>Y.elim)).app (o:=⟨b.length,6,24+8*e6 (av.length:Int)⟩) rfl Oq Oq Zz Zz ?_
    · rw[iY]at this;rw[P];exact this
    · have L:=iM (x:=b) (y:=IZ (e6 (av.length:Int))) (p:=b.length) (n:=16) (Nat.le_refl _)
      rw[Nat.sub_self,ad3]at L
      exact L
  refine⟨M,?_⟩
  have I:∀i,i≤e6 (av.length:Int)→fI b1 (b.length+16+8*i)=0:=fun i O=>by
    have:=iE (x:=b) (y:=IZ (e6 (av.length:Int))) (p:=b.length+16+8*i) Jy
    rw[show b.length+16+8*i-b.length=16+8*i by omega,WT O]at this
    exact this
  have J:=hs.lt hO
  have S:∀q,q+8≤b.length→fI b1 q=fI b q:=fun q E=>JD E
  have X:pA (av.length+1)=pA av.length+e6 (av.length:Int):=rfl
  -- the place that leads to the new one
  have E:∃q,(if av.length=0 then src else kr av+16)=q∧q+8≤b.length∧(av=[]∧q=src∨∃p,av[av.length-1]? = some p∧0<av.length∧q=p+16):=by
    by_cases hz:av.length=0
    · exact⟨src,by rw[if_pos hz],J,.inl ⟨List.eq_nil_of_length_eq_zero hz,rfl⟩⟩
    · obtain⟨p,B⟩:∃p,av[av.length-1]? = some p:=⟨_,List.getElem?_eq_getElem Jy⟩
      have:=h.le hO B
      exact⟨p+16,by rw[if_neg hz,lJ B],by omega,.inr ⟨p,B,by omega,rfl⟩⟩
  obtain⟨q,V,d,E⟩:=E
  rw[V]
  have D:∀F,F+8≤b.length→(q+8≤F∨F+8≤q)→fI (jG b1 q b.length) F=fI b F:=fun F W L=>(qh L).trans (S F W)
  have C:fI (jG b1 q b.length) q=b.length:=mZ Jy Jy
  have H:∀i,i≤e6 (av.length:Int)→fI (jG b1 q b.length) (b.length+16+8*i)=0:=fun i O=>(qh Jy).trans (I i O)
  refine⟨?_,fun k a A=>?_,fun k a A=>?_,fun k a j A Z=>?_,fun k a c A N=>?_,?_,?_⟩
  · rcases E with⟨rfl,rfl⟩|⟨p,B,T,rfl⟩
    · exact C
    have K:=hs.apart hO (h.ob _ _ B) rfl
    rw[iY]at K
    simp only at K
    rw[D src J Jy,h.word,qP,if_neg Jy]
  · rcases tO A with⟨_,A⟩|⟨rfl,rfl⟩
    · exact List.mem_append_left _ (h.ob k a A)
    exact List.mem_append_right _ Oq
  · rcases tO A with⟨hk,A⟩|⟨rfl,rfl⟩
    · have Q:=h.le hO A
      rcases E with⟨rfl,_⟩|⟨p,B,T,rfl⟩
      · simp at hk
      by_cases hk2:k=av.length-1
      · subst hk2;rw[B]at A;cases A
        rw[C,qP,if_pos Jy]
      have:=h.apart hO A B hk2
      rw[D _ Jy Jy,h.next k a A,qP,if_neg Jy]
    have:=H 0 Jy
    rw[Nat.mul_zero,Nat.add_zero]at this
    rw[this,qP,if_neg Jy]
    simp
  · rcases tO A with⟨hk,A⟩|⟨rfl,rfl⟩
    · have Q:=h.le hO A
      have:q+8≤a+24+8*j∨a+24+8*j+8≤q:=by
        rcases E with⟨rfl,_⟩|⟨p,B,T,rfl⟩
        · simp at hk
        · by_cases hk2:k=av.length-1
          · subst hk2;rw[B]at A;cases A;omega
          · have:=h.apart hO A B hk2;omega
      rw[D _ Jy this]
      exact h.gX k a j A Z
    have:=H (j+1) Jy
    rw[show b.length+16+8*(j+1)=b.length+24+8*j by omega]at this
    rw[this]
    symm
    simp only[List.getD_eq_getElem?_getD]
    rw[List.getElem?_eq_none Jy]
    rfl
  · rcases tO N with⟨hk,N⟩|⟨hk,rfl⟩
    · rcases tO A with⟨_,A⟩|⟨rfl,_⟩
      · exact h.EZ k a c A N
      omega
    rcases tO A with⟨_,A⟩|⟨rfl,_⟩
    · have:=h.le hO A;omega
    omega
  · simp only[List.length_append,List.length_singleton,Nat.add_sub_cancel];omega
  simp only[List.length_append,List.length_singleton];omega
end Go.Wk
namespace Go.Wk
open Go Go.RowKit
structure Linked (m m':Mk) (l l':List Ob) (src:Nat) (av av' ay:List Nat) (x:Nat):Prop where
  gE:gB m'.b 272 l' m'.b.length
  sub:l'=l∨l'=l ++ [(⟨m.b.length,6,24+8*e6 (av.length:Int)⟩:Ob)]
  arr:av'=av∨av'=av ++ [m.b.length]
  chain:Chain m'.b l' src av' (ay ++ [x])
  mX:Eff (zZ src av') m.b m'.b
  ne:av'≠[]
  top:m'.b.length≤m.b.length+2100
  same:m'.c=m.c∧m'.aj=m.aj∧m'.ak=m.ak∧m'.main=m.main∧m'.depth=m.depth∧∀i,i≠6→i≠7→i≠18→m'.dI i=m.dI i
theorem UM {m:Mk} {l:List Ob} {src x:Nat} {av ay:List Nat} (hO:gB m.b 272 l m.b.length) (h:Chain m.b l src av ay) (hs:Src l src) (hb:m.b.length<900000) (hx:x<18446744073709551616) :
    ∃l',Linked m (m.link av ay.length src x).2.2 l l' src av (m.link av ay.length src x).1 ay x:=by
  unfold Mk.link
  rw[ZN]
  simp only
  split
  · rename_i hn
    have g:=h.grow hO hs Jy hn
    simp only at g
    obtain⟨U,V⟩:=g
    generalize hl1:l ++ [(⟨m.b.length,6,24+8*e6 (av.length:Int)⟩:Ob)]=l1 at *
    generalize hq:(if av.length=0 then src else kr av+16)=q at V
    have E:(m.dD (fP {next:=0,ay:=List.replicate (e6 (av.length:Int)) 0})).2.b=m.b ++ IZ (e6 (av.length:Int)):=rfl
    have N:(m.dD (fP {next:=0,ay:=List.replicate (e6 (av.length:Int)) 0})).1=m.b.length:=rfl
    have B:=eV m (fP {next:=0,ay:=List.replicate (e6 (av.length:Int)) 0})
    have H:(m.dD (fP {next:=0,ay:=List.replicate (e6 (av.length:Int)) 0})).2.depth=m.depth:=rfl
    have I:∀i,i≠6→i≠7→(m.dD (fP {next:=0,ay:=List.replicate (e6 (av.length:Int)) 0})).2.dI i=m.dI i:=fun i j n=>by
      simp only[Mk.dD]
      rw[fA Jy,fA Jy];rfl
    generalize m.dD (fP {next:=0,ay:=List.replicate (e6 (av.length:Int)) 0})=r at *
    obtain⟨p,A⟩:=r
    simp only at E N B H I ⊢
    subst N
    have Z:=tG (av.length:Int)
    have R:=tF (k:=(av.length:Int)) Jy
    have z:A.b.length=m.b.length+(24+8*e6 (av.length:Int)):=by rw[E];simp[LU]
    have X:pA (av ++ [m.b.length]).length=pA av.length+e6 (av.length:Int):=by simp[pA]
    have P:Src l1 src:=hs.mono fun o F=>by rw[← hl1];exact List.mem_append_left _ F
    have O:Body l1 q∧(q=src∨∃k c:Nat,(av ++ [m.b.length])[k]? = some c∧q=c+16):=by
      rw[← hq]
      split
      · exact⟨P.body,.inl rfl⟩
      · rename_i u
        obtain⟨p,G⟩:∃p,av[av.length-1]? = some p:=⟨_,List.getElem?_eq_getElem Jy⟩
        rw[lJ G]
        have F:=h.ob _ _ G
        refine⟨.inr ⟨⟨p,6,24+8*e6 ((av.length-1:Nat):Int)⟩,?_,Nat.le_refl _,?_⟩,.inr ⟨av.length-1,p,by rw[List.getElem?_append_left Jy];exact G,rfl⟩⟩
        · rw[← hl1];exact List.mem_append_left _ F
        · rw[iY];simp only;omega
    rw[E.symm]at U V
    have f:Eff (fun a=>a=q) A.b (jG A.b q m.b.length):=Eff.put _ _ _
    have T:gB (jG A.b q m.b.length) 272 l1 (jG A.b q m.b.length).length:=by
      rw[jc]
      exact U.mX f (Nat.le_refl _) fun o F a C=>by subst C;exact U.body O.1 F
    have D:(av ++ [m.b.length])[(av ++ [m.b.length]).length-1]? = some m.b.length:=by simp
    have L:=V.put (x:=x) (p:=m.b.length) T P (Nat.le_refl _) hx Oq D (by rw[X];omega)
    have W:ay.length-pA ((av ++ [m.b.length]).length-1)=0:=by simp;omega
    rw[W]at L
    have K:Eff (fun a=>a=m.b.length+24+8*0) (jG A.b q m.b.length) (jG (jG A.b q m.b.length) (m.b.length+24+8*0) x):=Eff.put _ _ _
    have e:gB (jG (jG A.b q m.b.length) (m.b.length+24+8*0) x) 272 l1 (jG (jG A.b q m.b.length) (m.b.length+24+8*0) x).length:=by
      rw[jc]
      refine T.mX K (Nat.le_refl _) fun o F a C=>?_
      subst C
      refine T.body (.inr ⟨⟨m.b.length,6,24+8*e6 (av.length:Int)⟩,?_,?_,?_⟩) F
      · rw[← hl1];simp
      · simp only;omega
      · rw[iY];simp only;omega
    have Q:∀M:Mk,M=(if av.length=0 then(A.dZ 18 ((A.dI 18+1)%18446744073709551616)).put src m.b.length else(A.dZ 18 ((A.dI 18+1)%18446744073709551616)).put (kr av+16) m.b.length)→M.b=jG A.b q m.b.length∧M.c=A.c∧M.aj=A.aj∧M.ak=A.ak∧M.main=A.main∧M.depth=A.depth∧∀i,i≠18→M.dI i=A.dI i:=by
      intro M y
      subst y
      rw[← hq]
      split
      · exact⟨rfl,rfl,rfl,rfl,rfl,rfl,fun i hi=>fA (m:=A) Jy⟩
      · exact⟨rfl,rfl,rfl,rfl,rfl,rfl,fun i hi=>fA (m:=A) Jy⟩
    have d:=Q _ rfl
    clear Q
    generalize (if av.length=0 then(A.dZ 18 ((A.dI 18+1)%18446744073709551616)).put src m.b.length else(A.dZ 18 ((A.dI 18+1)%18446744073709551616)).put (kr av+16) m.b.length)=M at *
    obtain⟨S,d,kz3,kz4,kz5,kz6,kz7⟩:=d
    rw[lJ D,show ay.length-pA av.length=0 by omega]
    rw[← S]at e L K
    have ml:(M.put (m.b.length+24+8*0) x).b=jG M.b (m.b.length+24+8*0) x:=rfl
    refine⟨l1,⟨by rw[ml];exact e,.inr hl1.symm,.inr rfl,by rw[ml];exact L,?_,by simp,?_,⟨d.trans B.1,kz3.trans B.2.1,kz4.trans B.2.2.1,kz5.trans B.2.2.2,kz6.trans H,fun i j n w=>(kz7 i w).trans (I i j n)⟩⟩⟩
    · rw[ml,S]
      have t:Eff (zZ src (av ++ [m.b.length])) m.b A.b:=by rw[E];exact Eff.app _ _ _
      refine t.trans ((f.mono fun a C=>?_).trans ((S ▸ K).mono fun a C=>?_))
      · subst C
        rcases O.2 with h|⟨k,c,N,v⟩
        · exact .inl h
        exact .inr ⟨k,c,N,by omega,by omega⟩
      subst C
      exact .inr ⟨av.length,m.b.length,by simp,by omega,by omega⟩
    rw[ml,jc,S,jc];omega
  rename_i hn
  have Ac:=h.lo
  have Y:=h.hi
  have J:av≠[]:=by rintro rfl;have N:ay.length≤0:=Y;have v:¬ay.length=0:=hn;omega
  have u:=List.length_pos_iff.2 J
  obtain⟨p,G⟩:∃p,av[av.length-1]? = some p:=⟨_,List.getElem?_eq_getElem Jy⟩
  rw[lJ G]
  have L:=h.put hO hs (Nat.le_refl _) hx J G Jy
  have Ab:=h.le hO G
  have hc:pA av.length=pA (av.length-1)+e6 ((av.length-1:Nat):Int):=by
    have:av.length=(av.length-1)+1:=by omega
    rw[this];rfl
  generalize hq:p+24+8*(ay.length-pA (av.length-1))=q at *
  have K:Eff (fun a=>a=q) m.b (jG m.b q x):=Eff.put _ _ _
  refine⟨l,⟨?_,.inl rfl,.inl rfl,L,K.mono fun a C=>?_,J,?_,⟨rfl,rfl,rfl,rfl,rfl,fun _ _ _ _=>rfl⟩⟩⟩
  · show gB (jG m.b q x) 272 l (jG m.b q x).length
    rw[jc]
    refine hO.mX K (Nat.le_refl _) fun o F a C=>?_
    subst C
    refine hO.body (.inr ⟨_,h.ob _ _ G,?_,?_⟩) F
    · simp only;omega
    rw[iY];simp only;omega
  · subst C
    exact .inr ⟨av.length-1,p,G,by omega,by omega⟩
  show(jG m.b q x).length≤_
  rw[jc];omega
end Go.Wk
namespace Go.Wk
open Go Go.RowKit
def sH (l:List Ob) (a:Nat):Prop:=∀o∈l,(a+8≤o.cC∨o.cC+16≤a) ∧
  (o.kind=1→a+8≤o.cC+16∨o.cC+24≤a∧a+8≤o.cC+64∨o.cC+sG o.size≤a) ∧
  (o.kind=2→a+8≤o.cC+16∨o.cC+24≤a∧a+8≤o.cC+40∨o.cC+sG o.size≤a) ∧
  (o.kind=3→a+8≤o.cC∨o.cC+sG o.size≤a)
theorem zG {b:Ly} {l:List Ob} {e a:Nat} (hO:gB b 272 l e) {x:Ob} (hx:x∈l) (h1:x.cC+16≤a) (h2:a+8≤x.cC+sG x.size) (h3:x.kind≠3) (h4:x.kind=1→x.cC+24≤a∧a+8≤x.cC+64) (h5:x.kind=2→x.cC+24≤a∧a+8≤x.cC+40):sH l a:=by
  intro o A
  have:=fW o.size
  have:=fW x.size
  have:=(hO.mem A).size.1
  rcases hO.sep A hx with rfl|B|B
  · refine⟨by omega,fun h=>.inr (.inl (h4 h)),fun h=>.inr (.inl (h5 h)),fun h=>absurd h h3⟩
  · exact⟨by omega,fun _=>by omega,fun _=>by omega,fun _=>by omega⟩
  exact⟨by omega,fun _=>by omega,fun _=>by omega,fun _=>by omega⟩
theorem GJ {b:Ly} {l:List Ob} {e a:Nat} (hO:gB b 272 l e) (h:a+8≤272):sH l a:=fun o ho=>by
  have:=(hO.mem ho).ge
  exact⟨by omega,fun _=>by omega,fun _=>by omega,fun _=>by omega⟩
theorem sH.mono {l r:List Ob} {a:Nat} (h:sH r a) (hs:∀o∈l,o∈r):sH l a:=fun o ho=>h o (hs o ho)
def pu (l:List Ob) (a:Nat):Prop:=∃o∈l,((o.kind=4∨o.kind=5)∧o.cC+16≤a∧a+8≤o.cC+sG o.size)∨(((o.kind=1∧64≤o.size)∨(o.kind=2∧40≤o.size))∧(a=o.cC+24∨a=o.cC+32))
theorem pu.mono {l r:List Ob} {a:Nat} (h:pu l a) (hs:∀o∈l,o∈r):pu r a:=by obtain⟨o,A,h⟩:=h;exact⟨o,hs o A,h⟩
theorem pu.ab8 {b:Ly} {l:List Ob} {e a:Nat} (h:pu l a) (hO:gB b 272 l e):sH l a:=by
  obtain⟨o,B,⟨C,A,D⟩|⟨C,A⟩⟩:=h
  · exact zG hO B A D Jy Jy Jy
  have:=fW o.size
  exact zG hO B Jy Jy Jy Jy Jy
theorem pu.at {b:Ly} {l:List Ob} {e a:Nat} (h:pu l a) (hO:gB b 272 l e):272≤a∧a+8≤e∧∀o∈l,(o.kind=1→a+8≤o.cC+40∨o.cC+sG o.size≤a)∧(o.kind=6→a+8≤o.cC∨o.cC+sG o.size≤a):=by
  obtain⟨x,D,h⟩:=h
  have C:=hO.mem D
  have hk:=C.le
  have G:=C.ge
  have J:=fW x.size
  have B:x.cC+16≤a∧a+8≤x.cC+sG x.size∧x.kind≠6∧(x.kind=1→a+8≤x.cC+40):=by
    rcases h with⟨E,A,F⟩|⟨E,A⟩
    · exact⟨A,F,by omega,by omega⟩
    · exact⟨by omega,by omega,by omega,by omega⟩
  refine⟨by omega,by omega,fun o I=>?_⟩
  have:=fW o.size
  rcases hO.sep I D with rfl|H|H
  · exact⟨fun h=>.inl (B.2.2.2 h),fun h=>absurd h B.2.2.1⟩
  · exact⟨fun _=>by omega,fun _=>by omega⟩
  exact⟨fun _=>by omega,fun _=>by omega⟩
def jM (m:Mk) (s:Ly):Nat:=ec m.c.dU m.c.dc s
structure sK (b:Ly) (l:List Ob) (h:Nat) (k:bT):Prop where
  ob:(⟨k.cC,1,64+k.dO.length⟩:Ob)∈l
  dH:fI b (k.cC+16)=h
  dO:seg b (k.cC+64) k.dO.length=k.dO
structure EY (b:Ly) (l:List Ob) (h:Nat) (k:bT):Prop where
  ob:(⟨k.cC,2,40+k.dO.length⟩:Ob)∈l
  dH:fI b (k.cC+16)=h
  dO:seg b (k.cC+40) k.dO.length=k.dO
theorem sK.mX {b c:Ly} {l r:List Ob} {n:Nat} {k:bT} {S:Nat→Prop} (h:sK b l n k) (hO:gB b 272 l b.length) (he:Eff S b c) (hs:∀a,S a→sH l a) (hr:∀o∈l,o∈r):sK c r n k:=by
  have B:=(hO.mem h.ob).le
  have C:=fW (64+k.dO.length)
  refine⟨hr _ h.ob,(he.fI (by simp only at B;omega) fun a A=>?_).trans h.dH,(he.seg _ _ (by simp only at B;omega) fun a A=>?_).trans h.dO⟩
  · have:=(hs a A _ h.ob).2.1 rfl;simp only at this;omega
  have:=(hs a A _ h.ob).2.1 rfl;simp only at this;omega
theorem EY.mX {b c:Ly} {l r:List Ob} {n:Nat} {k:bT} {S:Nat→Prop} (h:EY b l n k) (hO:gB b 272 l b.length) (he:Eff S b c) (hs:∀a,S a→sH l a) (hr:∀o∈l,o∈r):EY c r n k:=by
  have B:=(hO.mem h.ob).le
  have C:=fW (40+k.dO.length)
  refine⟨hr _ h.ob,(he.fI (by simp only at B;omega) fun a A=>?_).trans h.dH,(he.seg _ _ (by simp only at B;omega) fun a A=>?_).trans h.dO⟩
  · have:=(hs a A _ h.ob).2.2.1 rfl;simp only at this;omega
  have:=(hs a A _ h.ob).2.2.1 rfl;simp only at this;omega
structure Stat (m:Mk) (l:List Ob):Prop where
  gE:gB m.b 272 l m.b.length
  adh:(⟨272,4,16+16*m.c.aT⟩:Ob)∈l
  adi:(⟨288+16*m.c.aT,5,16+16*m.c.aS⟩:Ob)∈l
  n2:m.dI 2=288
  n4:m.dI 4=304+16*m.c.aT
  slots:1≤m.c.aT∧1≤m.c.aS
  data:∀k∈m.aj,sK m.b l (jM m k.dO) k
  fld:∀k∈m.ak,EY m.b l (jM m k.dO) k
  one:∀i j:Nat,∀k k':bT,m.aj[i]? = some k→m.aj[j]? = some k'→k.cC=k'.cC∨k.dO=k'.dO→i=j
  all:∀o∈l,o.kind=1→∃k∈m.aj,k.cC=o.cC
structure eC (m m':Mk) (l l':List Ob):Prop where
  gE:gB m'.b 272 l' m'.b.length
  sub:∃t,l'=l ++ t∧∀o∈t,(o.kind=1∨o.kind=2)∧m.b.length≤o.cC
  mX:Eff (pu l') m.b m'.b
  same:m'.c=m.c∧m'.main=m.main∧∀i,i≠6→i≠7→i<15→m'.dI i=m.dI i
theorem eC.mem {m m':Mk} {l l':List Ob} (h:eC m m' l l'):∀o∈l,o∈l':=by obtain⟨t,e,_⟩:=h.sub;intro o A;rw[e];exact List.mem_append_left _ A
theorem eC.refl {m:Mk} {l:List Ob} (h:gB m.b 272 l m.b.length):eC m m l l:=⟨h,⟨[],by simp,by simp⟩,Eff.refl _ _,q,q,fun _ _ _ _=>rfl⟩
theorem eC.trans {m m' m'':Mk} {l l' l'':List Ob} (h:eC m m' l l') (k:eC m' m'' l' l''):eC m m'' l l'':=by
  obtain⟨t,e,F⟩:=h.sub
  obtain⟨u,f,G⟩:=k.sub
  have H:=h.mX.len
  refine⟨k.gE,⟨t ++ u,by rw[f,e,List.append_assoc],fun o A=>?_⟩,(h.mX.mono fun a E=>E.mono k.mem).trans k.mX,k.same.1.trans h.same.1,k.same.2.1.trans h.same.2.1,fun i B C D=>(k.same.2.2 i B C D).trans (h.same.2.2 i B C D)⟩
  rcases List.mem_append.1 A with A|A
  · exact F o A
  have:=G o A;exact⟨this.1,by omega⟩
theorem eC.to {m m' m'':Mk} {l l':List Ob} (h:eC m m' l l') (hb:m''.b=m'.b) (hc:m''.c=m'.c) (hm:m''.main=m'.main) (hn:∀i,i≠6→i≠7→i<15→m''.dI i=m'.dI i):eC m m'' l l' :=
  ⟨by rw[hb];exact h.gE,h.sub,by rw[hb];exact h.mX,hc.trans h.same.1,hm.trans h.same.2.1,fun i h1 h2 h3=>(hn i h1 h2 h3).trans (h.same.2.2 i h1 h2 h3)⟩
theorem eC.put {m:Mk} {l:List Ob} {a:Nat} (v:Nat) (hO:gB m.b 272 l m.b.length) (ha:pu l a):eC m (m.put a v) l l:=by
  have B:=ha.ab8 hO
  refine⟨?_,⟨[],by simp,by simp⟩,(Eff.put m.b a v).mono fun x A=>A ▸ ha,q,q,fun _ _ _ _=>rfl⟩
  show gB (jG m.b a v) 272 l (jG m.b a v).length
  rw[jc]
  exact hO.mX (Eff.put m.b a v) (Nat.le_refl _) fun o C x A=>by subst A;exact(B o C).1
theorem abo {o h r:Ly} (e:o=(h ++ r)) (hl:h.length=16):seg o 0 16=h:=by subst e;exact mE _ _ hl.symm
theorem eC.obj {m:Mk} {l:List Ob} {o r:Ly} {k s:Nat} (hO:gB m.b 272 l m.b.length) (hk:k=1∨k=2) (he:o=PS k s ++ r) (hl:o.length=sG s) (h16:16≤s) (hs:s<1000000):eC m (m.dD o).2 l (l ++ [⟨m.b.length,k,s⟩]):=by
  have B:(m.dD o).2.b=m.b ++ o:=rfl
  refine⟨?_,⟨_,q,fun x C=>?_⟩,by rw[B];exact Eff.app _ _ _,q,q,fun i F A G=>?_⟩
  · have D:=(hO.mX (Eff.app (fun _=>False) m.b o) (Nat.le_refl _) (fun _ _ _ E=>E.elim)).app (o:=⟨m.b.length,k,s⟩) q Zw Zw h16 Zw ?_
    · rw[B,List.length_append,hl];exact D
    have A:=iM (x:=m.b) (y:=o) (p:=m.b.length) (n:=16) (Nat.le_refl _)
    rw[Nat.sub_self,abo he (kC _ _)]at A
    exact A
  · simp at C;subst C;exact⟨hk,Nat.le_refl _⟩
  simp only[Mk.dD]
  rw[fA Jy,fA Jy];rfl
theorem xN {dS:Nat}:∀(l:List bT) (n q:Nat),(pn dS l n q).1=n∧(pn dS l n q).2=q∨n<(pn dS l n q).1∧∃k∈l,(pn dS l n q).2=k.cC
  | [],_,_=>.inl ⟨rfl,rfl⟩
  | k :: r,n,q=>by
    simp only[pn]
    split
    · rcases xN (dS:=dS) r (n+1) k.cC with⟨h1,h2⟩|⟨h1,y,hy,h2⟩
      · exact .inr ⟨by omega,k,by simp,h2⟩
      · exact .inr ⟨by omega,y,by simp[hy],h2⟩
    · rcases xN (dS:=dS) r n q with h|⟨h1,y,hy,h2⟩
      · exact .inl h
      · exact .inr ⟨h1,y,by simp[hy],h2⟩
theorem eC.hang {m:Mk} {l:List Ob} {ks:List bT} {table p dS:Nat} (hO:gB m.b 272 l m.b.length) (ht:pu l (table+16*dS)∧pu l (table+16*dS+8)) (hk:∀k∈ks,pu l (k.cC+24)):eC m (m.hang ks table p dS).2 l l:=by
  unfold Mk.hang
  have C:=xN (dS:=dS) ks 0 0
  generalize pn dS ks 0 0=r at *
  obtain⟨n,q⟩:=r
  simp only at C ⊢
  split
  · have A:=eC.put (m:=m) p hO ht.1
    exact A.trans (eC.put (m:=m.put (table+16*dS) p) p A.gE ht.2)
  rename_i hn
  have E:pu l (q+24):=by
    rcases C with⟨A,_⟩|⟨_,k,B,D⟩
    · omega
    · rw[D];exact hk k B
  have A:=eC.put (m:=m) p hO E
  exact A.trans (eC.put (m:=m.put (q+24) p) p A.gE ht.2)
end Go.Wk
namespace Go.Wk
open Go Go.RowKit
theorem vF (b o:Ly) (q:Nat):fI (b ++ o) (b.length+q)=fI o q:=by rw[iE Jy,Nat.add_sub_cancel_left]
theorem OY (b o:Ly) (q n:Nat):seg (b ++ o) (b.length+q) n=seg o q n:=by rw[iM Jy,Nat.add_sub_cancel_left]
theorem ago {k:Nat} (hk:1≤k∧k≤7) (ns:List Nat) (t:Ly) (hn:∀v∈ns,v<18446744073709551616) :
    (∃r,ru k (nums ns ++ t)=PS k (16+8*ns.length+t.length) ++ r)∧(ru k (nums ns ++ t)).length=sG (16+8*ns.length+t.length) ∧
    (∀i v:Nat,ns[i]? = some v→fI (ru k (nums ns ++ t)) (16+8*i)=v)∧seg (ru k (nums ns ++ t)) (16+8*ns.length) t.length=t:=by
  have A:(nums ns ++ t).length=8*ns.length+t.length:=by simp[eN]
  rw[wQ hk,A,show 16+(8*ns.length+t.length)=16+8*ns.length+t.length by omega]
  refine⟨⟨_,List.append_assoc _ _ _⟩,?_,fun i v h=>?_,?_⟩
  · rw[List.length_append,List.length_append,kC,A,List.length_replicate];unfold sG;omega
  · rw[List.append_assoc,iE (by rw[kC];omega),kC,Nat.add_sub_cancel_left,List.append_assoc]
    exact mA h (hn v (List.mem_of_getElem? h))
  rw[List.append_assoc,iM (by rw[kC];omega),kC,show 16+8*ns.length-16=8*ns.length by omega,List.append_assoc,iM (by rw[eN];omega),eN,Nat.sub_self]
  exact mE _ _ q
theorem BP (m:Mk) (s:Ly):jM m s<18446744073709551616:=BR _ _ _
theorem Stat.step {m m':Mk} {l l':List Ob} (h:Stat m l) (s:eC m m' l l') (hd:∀k∈m'.aj,k∈m.aj∨sK m'.b l' (jM m k.dO) k) (hf:∀k∈m'.ak,k∈m.ak∨EY m'.b l' (jM m k.dO) k)
    (h1:∀i j:Nat,∀k k':bT,m'.aj[i]? = some k→m'.aj[j]? = some k'→k.cC=k'.cC∨k.dO=k'.dO→i=j) (h2:∀o∈l',o.kind=1→∃k∈m'.aj,k.cC=o.cC):Stat m' l':=by
  have B:=s.mem
  have D:∀a,pu l' a→sH l a:=fun a F=>(F.ab8 s.gE).mono B
  obtain⟨A,G,C⟩:=s.same
  have E:∀t,jM m' t=jM m t:=fun t=>by unfold jM;rw[A]
  refine⟨s.gE,by rw[A];exact B _ h.adh,by rw[A];exact B _ h.adi,(C 2 Kq Kq Kq).trans h.n2,by rw[A];exact(C 4 Kq Kq Kq).trans h.n4,by rw[A];exact h.slots,fun k hk=>?_,fun k hk=>?_,h1,h2⟩
  · rw[E]
    rcases hd k hk with hk|hk
    · exact(h.data k hk).mX h.gE s.mX D B
    exact hk
  rw[E]
  rcases hf k hk with hk|hk
  · exact(h.fld k hk).mX h.gE s.mX D B
  exact hk
theorem Stat.soft {m m':Mk} {l l':List Ob} (h:Stat m l) (s:eC m m' l l') (hd:m'.aj=m.aj) (hf:m'.ak=m.ak) (hl:l'=l):Stat m' l' :=
  h.step s (fun k hk=>.inl (hd ▸ hk)) (fun k hk=>.inl (hf ▸ hk)) (by rw[hd];exact h.one) (by rw[hd,hl];exact h.all)
theorem ai9 {m:Mk} {l:List Ob} (h:Stat m l) {s:Nat} (hs:s<m.c.aT):pu l (m.dI 2+16*s)∧pu l (m.dI 2+16*s+8):=by
  have:=fW (16+16*m.c.aT)
  rw[h.n2]
  exact⟨⟨_,h.adh,.inl ⟨.inl q,by simp only;omega,by simp only;omega⟩⟩,⟨_,h.adh,.inl ⟨.inl q,by simp only;omega,by simp only;omega⟩⟩⟩
theorem aiA {m:Mk} {l:List Ob} (h:Stat m l) {s:Nat} (hs:s<m.c.aS):pu l (m.dI 4+16*s)∧pu l (m.dI 4+16*s+8):=by
  have:=fW (16+16*m.c.aS)
  rw[h.n4]
  exact⟨⟨_,h.adi,.inl ⟨.inr q,by simp only;omega,by simp only;omega⟩⟩,⟨_,h.adi,.inl ⟨.inr q,by simp only;omega,by simp only;omega⟩⟩⟩
theorem aaV {m:Mk} {l:List Ob} (h:Stat m l) (name:Ly) (hn:name.length≤1000) :
    ∃l',eC m (m.field name).2 l l'∧Stat (m.field name).2 l'∧(∃k∈(m.field name).2.ak,k.cC=(m.field name).1)∧(m.field name).2.aj=m.aj:=by
  unfold Mk.field
  cases hk:sj name m.ak with
  | some p =>
    obtain⟨k,P,Q,_⟩:=FP hk
    exact⟨l,eC.refl h.gE,h,⟨k,P,Q⟩,q⟩
  | none =>
    simp only
    generalize hF:ig {dH:=ec m.c.dU m.c.dc name,cP:=0,dat:=0,aR:=name}=o
    have N:o=ru 2 (nums [jM m name,0,0] ++ name):=hF.symm
    obtain⟨⟨r,K⟩,L,T,M⟩:=ago (k:=2) Kq [jM m name,0,0] name (by have:=BP m name;intro v g;simp at g;omega)
    rw[← N]at K L T M
    simp only[List.length_cons,List.length_nil,Nat.zero_add,Nat.reduceAdd,Nat.reduceMul]at K L M
    have G:=eC.obj (m:=m) (o:=o) h.gE (.inr q) K L Jy Jy
    have O:(m.dD o).2.b=m.b ++ o:=rfl
    have U:(m.dD o).1=m.b.length:=rfl
    have H:=eV m o
    have V:(m.dD o).2.dI 4=m.dI 4:=by simp only[Mk.dD];rw[fA Jy,fA Jy];rfl
    generalize m.dD o=z at *
    obtain⟨p,A⟩:=z
    simp only at G O U H V ⊢
    subst U
    have f:ec m.c.dU m.c.dc name%A.c.aS<m.c.aS:=by rw[H.1];exact Nat.mod_lt _ (by have:=h.slots;omega)
    have R:=aiA h f
    rw[← V]at R
    have I:=eC.hang (m:=A) (p:=m.b.length) (ks:=A.ak) G.gE ⟨R.1.mono G.mem,R.2.mono G.mem⟩ (fun k hk=>by
      rw[H.2.2.1]at hk
      have:=(h.fld k hk).ob
      exact⟨_,G.mem _ this,.inr ⟨.inr ⟨q,by simp only;omega⟩,.inl q⟩⟩)
    have D:=iP A A.ak (A.dI 4) m.b.length (ec m.c.dU m.c.dc name%A.c.aS)
    generalize A.hang A.ak (A.dI 4) m.b.length (ec m.c.dU m.c.dc name%A.c.aS)=z at *
    obtain⟨n,B⟩:=z
    simp only at I D ⊢
    obtain⟨w,Z,d,y,d5,d6⟩:=D
    have W:=G.trans I
    obtain⟨F,E⟩:∃F,F=({({B with depth:=max A.depth n}:Mk).dZ 16 ((({B with depth:=max A.depth n}:Mk).dI 16+1)%18446744073709551616)with ak:=(({B with depth:=max A.depth n}:Mk).dZ 16 ((({B with depth:=max A.depth n}:Mk).dI 16+1)%18446744073709551616)).ak ++ [({dO:=name,cC:=m.b.length,dS:=ec m.c.dU m.c.dc name%A.c.aS,cr:=0,b9:=[]}:bT)]}:Mk):=⟨_,q⟩
    show ∃l',eC m ({({B with depth:=max A.depth n}:Mk).dZ 16 ((({B with depth:=max A.depth n}:Mk).dI 16+1)%18446744073709551616)with ak:=(({B with depth:=max A.depth n}:Mk).dZ 16 ((({B with depth:=max A.depth n}:Mk).dI 16+1)%18446744073709551616)).ak ++ [({dO:=name,cC:=m.b.length,dS:=ec m.c.dU m.c.dc name%A.c.aS,cr:=0,b9:=[]}:bT)]}:Mk) l l'∧Stat ({({B with depth:=max A.depth n}:Mk).dZ 16 ((({B with depth:=max A.depth n}:Mk).dI 16+1)%18446744073709551616)with ak:=(({B with depth:=max A.depth n}:Mk).dZ 16 ((({B with depth:=max A.depth n}:Mk).dI 16+1)%18446744073709551616)).ak ++ [({dO:=name,cC:=m.b.length,dS:=ec m.c.dU m.c.dc name%A.c.aS,cr:=0,b9:=[]}:bT)]}:Mk) l'∧(∃k∈({({B with depth:=max A.depth n}:Mk).dZ 16 ((({B with depth:=max A.depth n}:Mk).dI 16+1)%18446744073709551616)with ak:=(({B with depth:=max A.depth n}:Mk).dZ 16 ((({B with depth:=max A.depth n}:Mk).dI 16+1)%18446744073709551616)).ak ++ [({dO:=name,cC:=m.b.length,dS:=ec m.c.dU m.c.dc name%A.c.aS,cr:=0,b9:=[]}:bT)]}:Mk).ak,k.cC=m.b.length)∧({({B with depth:=max A.depth n}:Mk).dZ 16 ((({B with depth:=max A.depth n}:Mk).dI 16+1)%18446744073709551616)with ak:=(({B with depth:=max A.depth n}:Mk).dZ 16 ((({B with depth:=max A.depth n}:Mk).dI 16+1)%18446744073709551616)).ak ++ [({dO:=name,cC:=m.b.length,dS:=ec m.c.dU m.c.dc name%A.c.aS,cr:=0,b9:=[]}:bT)]}:Mk).aj=m.aj
    rw[← E]
    have J:F.b=B.b∧F.c=B.c∧F.main=B.main∧F.aj=B.aj∧F.ak=B.ak ++ [({dO:=name,cC:=m.b.length,dS:=ec m.c.dU m.c.dc name%A.c.aS,cr:=0,b9:=[]}:bT)]:=by subst E;exact⟨q,q,q,q,q⟩
    have S4:=W.to (m'':=F) J.1 J.2.1 J.2.2.1 (fun i _ _ h3=>by
      subst E
      exact(fA (m:={B with depth:=max A.depth n}) Jy))
    clear E
    obtain⟨X,t,u,Y,S⟩:=J
    have C:F.aj=m.aj:=by rw[Y,Z,H.2.1]
    refine⟨_,S4,h.step S4 (fun k hk=>.inl (C ▸ hk)) (fun k hk=>?_) (by rw[C];exact h.one) (fun x E hk=>?_),?_,C⟩
    · rw[S,d,H.2.2.1,List.mem_append,List.mem_singleton]at hk
      rcases hk with hk|rfl
      · exact .inl hk
      · right
        have j:EY A.b (l ++ [⟨m.b.length,2,40+name.length⟩]) (jM m name) ({dO:=name,cC:=m.b.length,dS:=ec m.c.dU m.c.dc name%A.c.aS,cr:=0,b9:=[]}:bT):=by
          refine⟨by simp,?_,?_⟩
          · rw[O,vF];exact T 0 _ q
          · rw[O,OY];exact M
        rw[X]
        exact j.mX G.gE I.mX (fun a e=>e.ab8 I.gE) fun _ h=>h
    · rcases List.mem_append.1 E with E|E
      · rw[C];exact h.all x E hk
      · simp at E;subst E;simp at hk
    · exact⟨({dO:=name,cC:=m.b.length,dS:=ec m.c.dU m.c.dc name%A.c.aS,cr:=0,b9:=[]}:bT),by rw[S];simp,q⟩
theorem FO:∀{s:Ly} {l:List bT} {j i:Nat},oo s l j=some i→∃k,l[i-j]? = some k∧k.dO=s∧j≤i
  | s,[],j,i,h=>by simp[oo]at h
  | s,x :: l,j,i,h=>by
    simp only[oo]at h
    split at h
    · rename_i hx;simp at h;subst h;exact⟨x,by simp,hx,Nat.le_refl _⟩
    · obtain⟨k,h1,h2,h3⟩:=FO h
      exact⟨k,by rw[show i-j=(i-(j+1))+1 by omega];simpa using h1,h2,by omega⟩
theorem BA:∀{s:Ly} {l:List bT} {j:Nat},oo s l j=none→∀k∈l,k.dO≠s
  | s,[],j,_,k,hk=>by simp at hk
  | s,x :: l,j,h,k,hk=>by
    simp only[oo]at h
    split at h
    · cases h
    · rename_i hx
      rcases List.mem_cons.1 hk with rfl|hk
      · exact hx
      · exact BA h k hk
structure yG (b:Ly) (p:Nat):Prop where
  ent:fI b (p+40)=0
  arr:fI b (p+48)=0
  cnt:fI b (p+56)=0
theorem yG.mX {b c:Ly} {l l':List Ob} {p s:Nat} (h:yG b p) (ho:(⟨p,1,s⟩:Ob)∈l) (hs:64≤s) (hO:gB b 272 l b.length) (hO':gB c 272 l' c.length) (hm:∀o∈l,o∈l') (he:Eff (pu l') b c):yG c p:=by
  have B:=(hO.mem ho).le
  have E:=fW s
  simp only at B
  have A:∀q,40≤q→q≤56→fI c (p+q)=fI b (p+q):=fun q F D=>he.fI Jy fun a C=>by
    have:=((C.at hO').2.2 _ (hm _ ho)).1 rfl;simp only at this;omega
  exact⟨(A 40 Jy Jy).trans h.ent,(A 48 Jy Jy).trans h.arr,(A 56 Jy Jy).trans h.cnt⟩
structure zX (m m':Mk) (l l':List Ob) (i:Nat) (t:Ly):Prop where
  step:eC m m' l l'
  i7:Stat m' l'
  got:∃k,m'.aj[i]? = some k∧k.dO=t
  new:m'.aj=m.aj∨∃s p,m'.aj=m.aj ++ [({dO:=t,cC:=p,dS:=s,cr:=0,b9:=[]}:bT)]∧yG m'.b p∧m.b.length≤p
theorem adD {m:Mk} {l:List Ob} (h:Stat m l) (x:Pr) (hx:x.name.length≤64∧x.value.length≤256):∃l',zX m (m.data x).2 l l' (m.data x).1 (aR x):=by
  unfold Mk.data
  cases hk:oo (aR x) m.aj 0 with
  | some i =>
    obtain⟨k,L,H,_⟩:=FO hk
    exact⟨l,eC.refl h.gE,h,⟨k,by simpa using L,H⟩,.inl q⟩
  | none =>
    simp only
    have Ak:=BA hk
    have A3:=lM x
    generalize hF:jb {dH:=ec m.c.dU m.c.dc (aR x),cP:=0,dR:=0,entry:=0,array:=0,cr:=0,aR:=aR x}=o
    have Af:o=ru 1 (nums [jM m (aR x),0,0,0,0,0] ++ aR x):=hF.symm
    obtain⟨⟨r,w⟩,f2,S,f4⟩:=ago (k:=1) Kq [jM m (aR x),0,0,0,0,0] (aR x) (by have:=BP m (aR x);intro v hv;simp at hv;omega)
    rw[← Af]at w f2 S f4
    simp only[List.length_cons,List.length_nil,Nat.zero_add,Nat.reduceAdd,Nat.reduceMul]at w f2 f4
    have J:=eC.obj (m:=m) (o:=o) h.gE (.inl q) w f2 Jy Jy
    have P:(m.dD o).2.b=m.b ++ o:=rfl
    have g1:(m.dD o).1=m.b.length:=rfl
    have T:=eV m o
    have g4:(m.dD o).2.dI 2=m.dI 2:=by simp only[Mk.dD];rw[fA Jy,fA Jy];rfl
    generalize m.dD o=z at *
    obtain⟨p,D⟩:=z
    simp only at J P g1 T g4 ⊢
    subst g1
    have hs:ec m.c.dU m.c.dc (aR x)%D.c.aT<m.c.aT:=by rw[T.1];exact Nat.mod_lt _ (by have:=h.slots;omega)
    have tt:=ai9 h hs
    rw[← g4]at tt
    have K:=eC.hang (m:=D) (p:=m.b.length) (ks:=D.aj) J.gE ⟨tt.1.mono J.mem,tt.2.mono J.mem⟩ (fun k hk=>by
      rw[T.2.1]at hk
      have:=(h.data k hk).ob
      exact⟨_,J.mem _ this,.inr ⟨.inl ⟨q,by simp only;omega⟩,.inl q⟩⟩)
    have F:=iP D D.aj (D.dI 2) m.b.length (ec m.c.dU m.c.dc (aR x)%D.c.aT)
    generalize hsl:ec m.c.dU m.c.dc (aR x)%D.c.aT=dS at *
    generalize D.hang D.aj (D.dI 2) m.b.length dS=z at *
    obtain⟨n,B⟩:=z
    simp only at K F ⊢
    obtain⟨d1,d2,d3,d4,d5,d6⟩:=F
    have S3:=J.trans K
    generalize hx5:({(B.dZ 19 (max (B.dI 19) n)).dZ 15 (((B.dZ 19 (max (B.dI 19) n)).dI 15+1)%18446744073709551616)with aj:=((B.dZ 19 (max (B.dI 19) n)).dZ 15 (((B.dZ 19 (max (B.dI 19) n)).dI 15+1)%18446744073709551616)).aj ++ [({dO:=aR x,cC:=m.b.length,dS:=dS,cr:=0,b9:=[]}:bT)]}:Mk)=m5
    have f:m5.b=B.b∧m5.c=B.c∧m5.main=B.main∧m5.ak=B.ak∧m5.aj=B.aj ++ [({dO:=aR x,cC:=m.b.length,dS:=dS,cr:=0,b9:=[]}:bT)]:=by subst hx5;exact⟨q,q,q,q,q⟩
    have t:=S3.to (m'':=m5) f.1 f.2.1 f.2.2.1 (fun i _ _ h3=>by
      subst hx5
      exact(fA (m:=B.dZ 19 (max (B.dI 19) n)) Jy).trans (fA Jy))
    clear hx5
    obtain⟨a1,a2,a3,a4,a5⟩:=f
    have I:m5.aj=m.aj ++ [({dO:=aR x,cC:=m.b.length,dS:=dS,cr:=0,b9:=[]}:bT)]:=by rw[a5,d2,T.2.1]
    have Ag:m5.ak=m.ak:=by rw[a4,d3,T.2.2.1]
    have C:(⟨m.b.length,1,64+(aR x).length⟩:Ob)∈l ++ [⟨m.b.length,1,64+(aR x).length⟩]:=by simp
    have Am:Stat m5 (l ++ [⟨m.b.length,1,64+(aR x).length⟩]):=by
      refine h.step t (fun k hk=>?_) (fun k hk=>.inl (Ag ▸ hk)) (fun i j k g G hj E=>?_) (fun y Q hk=>?_)
      · rw[I,List.mem_append,List.mem_singleton]at hk
        rcases hk with hk|rfl
        · exact .inl hk
        · right
          have k0:sK D.b (l ++ [⟨m.b.length,1,64+(aR x).length⟩]) (jM m (aR x)) ({dO:=aR x,cC:=m.b.length,dS:=dS,cr:=0,b9:=[]}:bT):=by
            refine⟨C,?_,?_⟩
            · rw[P,vF];exact S 0 _ q
            · rw[P,OY];exact f4
          rw[a1]
          exact k0.mX J.gE K.mX (fun a ha=>ha.ab8 K.gE) fun _ h=>h
      · rw[I]at G hj
        have Z:∀(i:Nat) (k:bT),m.aj[i]? = some k→k.cC+16≤m.b.length∧k.dO≠aR x:=fun i k G=>by
          have hm:=List.mem_of_getElem? G
          have:=(h.gE.mem (h.data k hm).ob).le
          have:=fW (64+k.dO.length)
          simp only at *
          exact⟨by omega,Ak k hm⟩
        have A:∀(i:Nat) (k:bT),(m.aj ++ [({dO:=aR x,cC:=m.b.length,dS:=dS,cr:=0,b9:=[]}:bT)])[i]? = some k→(m.aj[i]? = some k)∨i=m.aj.length∧k={dO:=aR x,cC:=m.b.length,dS:=dS,cr:=0,b9:=[]}:=fun i k G=>by
          rcases Nat.lt_or_ge i m.aj.length with hl|hl
          · rw[List.getElem?_append_left hl]at G;exact .inl G
          · have Aj:=(List.getElem?_eq_some_iff.1 G).1
            simp at Aj
            rw[List.getElem?_append_right hl,show i-m.aj.length=0 by omega]at G
            exact .inr ⟨by omega,by simpa using G.symm⟩
        rcases A i k G with L|⟨L,rfl⟩
        · rcases A j g hj with H|⟨H,rfl⟩
          · exact h.one i j k g L H E
          · have:=Z i k L
            rcases E with E|E
            · simp only at E;omega
            · exact absurd E this.2
        · rcases A j g hj with H|⟨H,rfl⟩
          · have:=Z j g H
            rcases E with E|E
            · simp only at E;omega
            · exact absurd E.symm this.2
          · omega
      · rw[I]
        rcases List.mem_append.1 Q with Q|Q
        · obtain⟨k,L,H⟩:=h.all y Q hk
          exact⟨k,List.mem_append_left _ L,H⟩
        · simp at Q;subst Q
          exact⟨({dO:=aR x,cC:=m.b.length,dS:=dS,cr:=0,b9:=[]}:bT),List.mem_append_right _ Oq,q⟩
    have Ac:yG D.b m.b.length:=⟨by rw[P,vF];exact S 3 _ q,by rw[P,vF];exact S 4 _ q,by rw[P,vF];exact S 5 _ q⟩
    have Ad:yG m5.b m.b.length:=by
      rw[a1];exact Ac.mX C Jy J.gE K.gE K.mem K.mX
    obtain⟨l6,d,O,⟨R,X,Y⟩,U⟩:=aaV Am x.name Jy
    have W:=(O.fld R X).ob
    generalize m5.field x.name=z at *
    obtain⟨k,N⟩:=z
    simp only at d O Y U X W ⊢
    subst Y
    have M:=d.mem _ C
    have sp:pu l6 (m.b.length+32):=⟨_,M,.inr ⟨.inl ⟨q,by simp only;omega⟩,.inr q⟩⟩
    have sk:pu l6 (R.cC+32):=⟨_,W,.inr ⟨.inr ⟨q,by simp only;omega⟩,.inr q⟩⟩
    have u:=eC.put (m:=N) (p5 N.b (R.cC+32:Nat) 8).1 d.gE sp
    have Ao:=O.soft u q q q
    have S8:=eC.put (m:=N.put (m.b.length+32) (p5 N.b (R.cC+32:Nat) 8).1) m.b.length u.gE sk
    have Ap:=Ao.soft S8 q q q
    have e:=d.trans (u.trans S8)
    have V:((N.put (m.b.length+32) (p5 N.b (R.cC+32:Nat) 8).1).put (R.cC+32) m.b.length).aj=m.aj ++ [({dO:=aR x,cC:=m.b.length,dS:=dS,cr:=0,b9:=[]}:bT)]:=by
      show N.aj=_
      rw[U,I]
    have Ae:=Ad.mX C Jy t.gE e.gE e.mem e.mX
    refine⟨l6,t.trans e,Ap,⟨({dO:=aR x,cC:=m.b.length,dS:=dS,cr:=0,b9:=[]}:bT),by rw[V];simp,q⟩,.inr ⟨dS,m.b.length,V,Ae,Nat.le_refl _⟩⟩
end Go.Wk
namespace Go.Wk
open Go Go.RowKit
structure uU (b:Ly) (l:List Ob) (k:bT) (ps:List Nat):Prop where
  cnt:k.cr=ps.length
  word:fI b (k.cC+56)=ps.length
  ent:fI b (k.cC+40)=ps.getD 0 0
  chain:Chain b l (k.cC+48) k.b9 (ps.drop 1)
theorem zA {b:Ly} {l:List Ob} {n:Nat} {k:bT} (h:sK b l n k):Src l (k.cC+48):=by
  have:=fW (64+k.dO.length)
  exact .inr ⟨_,h.ob,by simp,by simp only;omega,by simp only;omega⟩
theorem wj (l:List Ob):Src l 176:=.inl Kq
theorem uU.mX {b c:Ly} {l r:List Ob} {n:Nat} {k:bT} {ps:List Nat} {S:Nat→Prop} (h:uU b l k ps) (hs:sK b l n k) (hO:gB b 272 l b.length) (he:Eff S b c) (hr:∀o∈l,o∈r)
    (h1:∀a,S a→a+8≤k.cC+40∨k.cC+64≤a) (h2:∀i x:Nat,k.b9[i]? = some x→∀a,S a→a+8≤x+16∨x+24+8*e6 (i:Int)≤a):uU c r k ps:=by
  have B:=(hO.mem hs.ob).le
  have C:=fW (64+k.dO.length)
  simp only at B
  refine⟨h.cnt,(he.fI Jy fun a A=>?_).trans h.word,(he.fI Jy fun a A=>?_).trans h.ent,h.chain.mX hO (zA hs) (Nat.le_refl _) he hr (fun a A=>?_) h2⟩
  · have:=h1 a A;omega
  · have:=h1 a A;omega
  have:=h1 a A;omega
theorem Chain.sO {b b':Ly} {l l':List Ob} {src e:Nat} {av ay:List Nat} (h:Chain b l src av ay) (hO:gB b' 272 l' e) (hm:∀o∈l,o∈l') {i x a:Nat} (hx:av[i]? = some x) (ha:∀o∈l',o.kind=6→a+8≤o.cC∨o.cC+sG o.size≤a):a+8≤x+16∨x+24+8*e6 (i:Int)≤a:=by
  have:=ha _ (hm _ (h.ob i x hx)) q
  rw[iY]at this
  simp only at this
  omega
theorem uU.soft {b c:Ly} {l r:List Ob} {n:Nat} {k:bT} {ps:List Nat} (h:uU b l k ps) (hs:sK b l n k) (hO:gB b 272 l b.length) (hO':gB c 272 r c.length) (he:Eff (pu r) b c) (hr:∀o∈l,o∈r):uU c r k ps:=by
  have D:=fW (64+k.dO.length)
  refine h.mX hs hO he hr (fun a A=>?_) (fun i x C a A=>?_)
  · have:=((A.at hO').2.2 _ (hr _ hs.ob)).1 q
    simp only at this;omega
  exact h.chain.sO hO' hr C fun o B hk=>((A.at hO').2.2 o B).2 hk
theorem Y2 {b c:Ly} {l r:List Ob} {av ay:List Nat} (h:Chain b l 176 av ay) (hO:gB b 272 l b.length) (hO':gB c 272 r c.length) (he:Eff (pu r) b c) (hr:∀o∈l,o∈r):Chain c r 176 av ay:=by
  refine h.mX hO (wj l) (Nat.le_refl _) he hr (fun a B=>?_) (fun i x D a B=>?_)
  · have:=(B.at hO').1;omega
  exact h.sO hO' hr D fun o C hk=>((B.at hO').2.2 o C).2 hk
theorem uU.new {b:Ly} {l:List Ob} {k:bT} (h:yG b k.cC) (hc:k.cr=0) (ha:k.b9=[]):uU b l k []:=by
  refine⟨hc,h.cnt,h.ent,?_⟩
  rw[ha]
  exact⟨h.arr,by simp,by simp,by simp,by simp,Nat.le_refl _,Nat.le_refl _⟩
def adw (k:bT) (av:List Nat) (a:Nat):Prop:=a=k.cC+40∨a=k.cC+56∨zZ (k.cC+48) av a
structure adx (m m':Mk) (l l':List Ob) (i e:Nat) (k k':bT) (ps:List Nat):Prop where
  gE:gB m'.b 272 l' m'.b.length
  sub:∃t,l'=l ++ t∧∀o∈t,o.kind=6∧m.b.length≤o.cC
  dat:m'.aj=m.aj.set i k'
  cC:k'.cC=k.cC∧k'.dO=k.dO∧k'.dS=k.dS
  arr:k'.b9=k.b9∨k'.b9=k.b9 ++ [m.b.length]
  more:uU m'.b l' k' (ps ++ [e])
  mX:Eff (adw k k'.b9) m.b m'.b
  top:m'.b.length≤m.b.length+2100
  same:m'.c=m.c∧m'.ak=m.ak∧m'.main=m.main∧m'.depth=m.depth∧∀i,i≠6→i≠7→i≠18→m'.dI i=m.dI i
theorem TV {b:Ly} {l r:List Ob} {e n:Nat} {k:bT} (hO:gB b 272 r e) (hm:∀o∈l,o∈r) {c:Ly} (hs:sK c l n k):∀o∈r,o.kind=6→k.cC+64≤o.cC∨o.cC+sG o.size≤k.cC:=fun o ho h6=>by
  have hu:=fW (64+k.dO.length)
  rcases hO.sep ho (hm _ hs.ob)with rfl|hh|hh
  · simp at h6
  · exact .inr hh
  · simp only at hh;exact .inl Jy
theorem JK {b c:Ly} {l r:List Ob} {n:Nat} {k:bT} (hs:sK c l n k) (hm:∀o∈l,o∈r) (hO:gB b 272 r b.length) {q:Nat} (v:Nat) (hq:q=k.cC+40∨q=k.cC+56):gB (jG b q v) 272 r (jG b q v).length:=by
  have C:=fW (64+k.dO.length)
  rw[jc]
  exact hO.mX (Eff.put b q v) (Nat.le_refl _) fun o B a A=>by subst A;exact hO.body (.inr ⟨_,hm _ hs.ob,by simp only;omega,by simp only;omega⟩) B
theorem XT {m:Mk} {l:List Ob} {i e n:Nat} {k:bT} {ps:List Nat} (hO:gB m.b 272 l m.b.length) (hk:m.aj[i]? = some k) (hs:sK m.b l n k) (hd:uU m.b l k ps) (hb:m.b.length<900000) (he:e<18446744073709551616) (h0:k.cr=0) :
    ∃l' k',adx m (lG e i m) l l' i e k k' ps:=by
  have E:m.aj.getD i known0=k:=by simp[List.getD,hk]
  have V:=(hO.mem hs.ob).le
  have Z:=fW (64+k.dO.length)
  simp only at V
  have J:=hd.cnt
  unfold lG
  simp only[E]
  rw[if_pos h0]
  have F:ps=[]:=List.eq_nil_of_length_eq_zero Jy
  subst F
  have R:=JK hs (fun _ h=>h) hO e (q:=k.cC+40) (.inl rfl)
  have S:=JK hs (fun _ h=>h) R 1 (q:=k.cC+56) (.inr rfl)
  have I:Eff (fun a=>a=k.cC+40∨a=k.cC+56) m.b (jG (jG m.b (k.cC+40) e) (k.cC+56) 1):=((Eff.put _ _ _).mono fun a A=>.inl A).trans ((Eff.put _ _ _).mono fun a A=>.inr A)
  have U:(jG (jG m.b (k.cC+40) e) (k.cC+56) 1).length=m.b.length:=by rw[jc,jc]
  have D:((m.put (k.cC+40) e).put (k.cC+56) 1).b=jG (jG m.b (k.cC+40) e) (k.cC+56) 1:=rfl
  have C:=lN m (k.cC+40) e
  have Y:=lN (m.put (k.cC+40) e) (k.cC+56) 1
  generalize (m.put (k.cC+40) e).put (k.cC+56) 1=M at *
  obtain⟨L,K,N,O,Q,P⟩:=Y
  rw[C.1]at L;rw[C.2.1]at K;rw[C.2.2.1]at N;rw[C.2.2.2.1]at O;rw[C.2.2.2.2.1]at Q;rw[C.2.2.2.2.2]at P
  clear C
  generalize hB:jG (jG m.b (k.cC+40) e) (k.cC+56) 1=B at *
  subst D
  have H:fI M.b (k.cC+56)=1:=by rw[← hB];exact mZ (by rw[jc];omega) Kq
  have G:fI M.b (k.cC+40)=e:=by rw[← hB];exact(qh Jy).trans (mZ Jy he)
  clear hB
  refine⟨l,{k with cr:=1},S,⟨[],(List.append_nil l).symm,by simp⟩,?_,⟨rfl,rfl,rfl⟩,.inl rfl,⟨rfl,H,G,?_⟩,I.mono fun a A=>A.elim .inl fun h=>.inr (.inl h),?_,⟨L,N,O,P,fun j _ _ _=>?_⟩⟩
  · show M.aj.set i _=_
    rw[K]
  · refine hd.chain.mX hO (zA hs) (Nat.le_refl _) I (fun _ h=>h) (fun a A=>by omega) (fun j x X a A=>?_)
    exact hd.chain.sO hO (fun _ h=>h) X fun o W T=>by have:=TV hO (fun _ h=>h) hs o W T;omega
  · show M.b.length≤_
    omega
  show M.h.n.getD j 0=_
  rw[Q];rfl
theorem XR {m:Mk} {l:List Ob} {i e n:Nat} {k:bT} {ps:List Nat} (hO:gB m.b 272 l m.b.length) (hk:m.aj[i]? = some k) (hs:sK m.b l n k) (hd:uU m.b l k ps) (hb:m.b.length<900000) (he:e<18446744073709551616) (hp:ps.length<1000000) (h0:¬k.cr=0) :
    ∃l' k',adx m (lG e i m) l l' i e k k' ps:=by
  have H:m.aj.getD i known0=k:=by simp[List.getD,hk]
  have P:=(hO.mem hs.ob).le
  have U:=fW (64+k.dO.length)
  simp only at P
  have A:=hd.cnt
  unfold lG
  simp only[H]
  rw[if_neg h0]
  have N:k.cr-1=(ps.drop 1).length:=by simp;omega
  rw[N]
  obtain⟨l',L⟩:=UM (x:=e) hO hd.chain (zA hs) hb he
  have O:=L.mX.len
  have B:∀o∈l,o∈l':=by
    rcases L.sub with h|h
    · rw[h];exact fun _ h=>h
    · rw[h];exact fun o E=>List.mem_append_left _ E
  have R:=Qe m.b (k.cC+40)
  generalize m.link k.b9 (ps.drop 1).length (k.cC+48) e=r at *
  obtain⟨a,t,F⟩:=r
  simp only at L O ⊢
  have J:=JK hs B L.gE (k.cr+1) (q:=k.cC+56) (.inr rfl)
  have I:Eff (fun a=>a=k.cC+56) F.b (jG F.b (k.cC+56) (k.cr+1)):=Eff.put _ _ _
  have Q:⟨k.cC,1,64+k.dO.length⟩∈l':=B _ hs.ob
  have D:Src l' (k.cC+48):=(zA hs).mono B
  have hsep':=TV L.gE B hs
  have G:fI F.b (k.cC+40)=fI m.b (k.cC+40):=L.mX.fI Jy fun x C=>by
    rcases C with rfl|⟨j,c,K,S,T⟩
    · omega
    · have:=hsep' _ (L.chain.ob j c K) rfl
      rw[iY]at this;simp only at this;omega
  refine⟨l',{k with b9:=a,cr:=k.cr+1},J,?_,?_,⟨rfl,rfl,rfl⟩,L.arr,⟨?_,?_,?_,?_⟩,?_,?_,⟨L.same.1,L.same.2.2.1,L.same.2.2.2.1,L.same.2.2.2.2.1,L.same.2.2.2.2.2⟩⟩
  · rcases L.sub with h|h
    · exact⟨[],by simp[h],by simp⟩
    exact⟨_,h,by intro o E;simp at E;subst E;exact⟨rfl,Nat.le_refl _⟩⟩
  · show F.aj.set i _=_
    rw[L.same.2.1]
  · show k.cr+1=_
    simp;omega
  · refine(mZ Jy Jy).trans ?_
    simp;omega
  · show fI (jG F.b (k.cC+56) (k.cr+1)) (k.cC+40)=_
    rw[qh Jy,G,hd.ent]
    cases ps with
    | nil=>simp at A;exact absurd A h0
    | cons y r=>rfl
  · have:(ps ++ [e]).drop 1=ps.drop 1 ++ [e]:=by
      cases ps with
      | nil=>simp at A;exact absurd A h0
      | cons y r=>rfl
    rw[this]
    refine L.chain.mX L.gE D (Nat.le_refl _) I (fun _ h=>h) (fun x C=>by omega) (fun j x C y V=>?_)
    exact L.chain.sO L.gE (fun _ h=>h) C fun o E M=>by have:=hsep' o E M;omega
  · exact(L.mX.mono fun x C=>.inr (.inr C)).trans (I.mono fun x C=>.inr (.inl C))
  show(jG F.b (k.cC+56) (k.cr+1)).length≤_
  rw[jc];exact L.top
theorem abm {m:Mk} {l:List Ob} {i e n:Nat} {k:bT} {ps:List Nat} (hO:gB m.b 272 l m.b.length) (hk:m.aj[i]? = some k) (hs:sK m.b l n k) (hd:uU m.b l k ps) (hb:m.b.length<900000) (he:e<18446744073709551616) (hp:ps.length<1000000) :
    ∃l' k',adx m (lG e i m) l l' i e k k' ps:=by
  by_cases h0:k.cr=0
  · exact XT hO hk hs hd hb he h0
  exact XR hO hk hs hd hb he hp h0
end Go.Wk
