/- Part 2 of the walk of a law. No statement is proved here. -/
import Derived.Test.YtfadcpfgenjbeaaGreatNPP1
import Derived.Test.YtfadcpfgenjbeaaGreatRows
set_option linter.unusedVariables false
set_option linter.unusedSimpArgs false
namespace Go.Wk
open Go Go.RowKit
def nU (l:List Nat):List Value:=[.int .u64 ((l.getD 0 0:Nat):Int),.int .u64 ((l.getD 1 0:Nat):Int),.int .u64 ((l.getD 2 0:Nat):Int),.int .u64 ((l.getD 3 0:Nat):Int),.int .u64 ((l.getD 4 0:Nat):Int),.int .u64 ((l.getD 5 0:Nat):Int),.int .u64 ((l.getD 6 0:Nat):Int),.int .u64 ((l.getD 7 0:Nat):Int),.int .u64 ((l.getD 8 0:Nat):Int),.int .u64 ((l.getD 9 0:Nat):Int),.int .u64 ((l.getD 10 0:Nat):Int),.int .u64 ((l.getD 11 0:Nat):Int),.int .u64 ((l.getD 12 0:Nat):Int),.int .u64 ((l.getD 13 0:Nat):Int),.int .u64 ((l.getD 14 0:Nat):Int),.int .u64 ((l.getD 15 0:Nat):Int),.int .u64 ((l.getD 16 0:Nat):Int),.int .u64 ((l.getD 17 0:Nat):Int),.int .u64 ((l.getD 18 0:Nat):Int),.int .u64 ((l.getD 19 0:Nat):Int)]
theorem rj {l:List Nat} (h:l.length=20):nU l=l.map fun x=>.int .u64 (x:Int):=by
  apply List.ext_getElem
  · simp[nU,h]
  intro i C E;simp[nU]at C;simp only[List.getElem_map];have B:i<l.length:=by omega
  rcases Nat.lt_or_ge i 7 with D|D
  · rcases(show i=0\/i=1\/i=2\/i=3\/i=4\/i=5\/i=6 by omega)with rfl|rfl|rfl|rfl|rfl|rfl|rfl <;> simp[nU,List.getD,B]
  skip
  rcases Nat.lt_or_ge i 14 with A|A
  · rcases(show i=7\/i=8\/i=9\/i=10\/i=11\/i=12\/i=13 by omega)with rfl|rfl|rfl|rfl|rfl|rfl|rfl <;> simp[nU,List.getD,B]
  skip
  rcases(show i=14\/i=15\/i=16\/i=17\/i=18\/i=19 by omega)with rfl|rfl|rfl|rfl|rfl|rfl <;> simp[nU,List.getD,B]
theorem ED {l:List Nat} {k v:Nat} (h:l.length=20) (hk:k<20):nU (l.set k v)=(nU l).set k (.int .u64 (v:Int)):=by rw[rj h,rj (by simpa using h),List.map_set]
def agb:Dt (List Nat) where
  n:=20
  pos:=by decide
  nN _ _ cs x:=cs=nU x/\x.length=20/\∀y∈x,y<18446744073709551616
  len:=by rintro _ _ _ _ ⟨rfl,_⟩;rfl
  one:=by rintro _ _ _ _ ⟨rfl,h,_⟩ u hu;rw[rj h]at hu;obtain⟨x,_,rfl⟩:=List.mem_map.1 hu;rfl
  md:=fun h _ _=>h
  sub:=fun h _=>h
def pZ (l:List Nat):List Value:=[.int .u64 ((l.getD 0 0:Nat):Int),.int .u64 ((l.getD 1 0:Nat):Int),.int .u64 ((l.getD 2 0:Nat):Int),.int .u64 ((l.getD 3 0:Nat):Int),.int .u64 ((l.getD 4 0:Nat):Int),.int .u64 ((l.getD 5 0:Nat):Int),.int .u64 ((l.getD 6 0:Nat):Int),.int .u64 ((l.getD 7 0:Nat):Int),.int .u64 ((l.getD 8 0:Nat):Int),.int .u64 ((l.getD 9 0:Nat):Int),.int .u64 ((l.getD 10 0:Nat):Int),.int .u64 ((l.getD 11 0:Nat):Int),.int .u64 ((l.getD 12 0:Nat):Int),.int .u64 ((l.getD 13 0:Nat):Int),.int .u64 ((l.getD 14 0:Nat):Int),.int .u64 ((l.getD 15 0:Nat):Int),.int .u64 ((l.getD 16 0:Nat):Int),.int .u64 ((l.getD 17 0:Nat):Int),.int .u64 ((l.getD 18 0:Nat):Int),.int .u64 ((l.getD 19 0:Nat):Int),.int .u64 ((l.getD 20 0:Nat):Int)]
theorem rq {l:List Nat} (h:l.length=21):pZ l=l.map fun x=>.int .u64 (x:Int):=by
  apply List.ext_getElem
  · simp[pZ,h]
  intro i C E;simp[pZ]at C;simp only[List.getElem_map];have B:i<l.length:=by omega
  rcases Nat.lt_or_ge i 7 with D|D
  · rcases(show i=0\/i=1\/i=2\/i=3\/i=4\/i=5\/i=6 by omega)with rfl|rfl|rfl|rfl|rfl|rfl|rfl <;> simp[pZ,List.getD,B]
  skip
  rcases Nat.lt_or_ge i 14 with A|A
  · rcases(show i=7\/i=8\/i=9\/i=10\/i=11\/i=12\/i=13 by omega)with rfl|rfl|rfl|rfl|rfl|rfl|rfl <;> simp[pZ,List.getD,B]
  skip
  rcases(show i=14\/i=15\/i=16\/i=17\/i=18\/i=19\/i=20 by omega)with rfl|rfl|rfl|rfl|rfl|rfl|rfl <;> simp[pZ,List.getD,B]
theorem eu {l:List Nat} {k v:Nat} (h:l.length=21) (hk:k<21):pZ (l.set k v)=(pZ l).set k (.int .u64 (v:Int)):=by rw[rq h,rq (by simpa using h),List.map_set]
def agc:Dt (List Nat) where
  n:=21
  pos:=by decide
  nN _ _ cs x:=cs=pZ x/\x.length=21/\∀y∈x,y<18446744073709551616
  len:=by rintro _ _ _ _ ⟨rfl,_⟩;rfl
  one:=by rintro _ _ _ _ ⟨rfl,h,_⟩ u hu;rw[rq h]at hu;obtain⟨x,_,rfl⟩:=List.mem_map.1 hu;rfl
  md:=fun h _ _=>h
  sub:=fun h _=>h
theorem cQ {a b:List Value} (h:a.all (fun c=>c.oneCell')=true) (d:b.all (fun c=>c.oneCell')=true):(a ++ b).all (fun c=>c.oneCell')=true:=by rw[List.all_append,h,d];rfl
theorem vU {v:Value} (h:v.oneCell'=true):[v].all (fun u=>u.oneCell')=true:=by simp[h]
theorem jB (l:Ly):(iD l).all (fun u=>u.oneCell')=true:=List.all_eq_true.2<|xG l
theorem oL (n:Nat):(List.replicate n 0).length=n/\∀y∈List.replicate n 0,y<18446744073709551616:=⟨by simp,by simp⟩
theorem eO {l:List Nat} {n k v:Nat} (h:l.length=n/\∀y∈l,y<18446744073709551616) (b:v<18446744073709551616):(l.set k v).length=n/\∀y∈l.set k v,y<18446744073709551616 :=
  ⟨by simpa using h.1,fun y c=>(List.mem_or_eq_of_mem_set c).elim (h.2 y)<|fun a=>a ▸ b⟩
theorem gm {l:List Nat} {n:Nat} (h:l.length=n/\∀y∈l,y<18446744073709551616) (k:Nat):l.getD k 0<18446744073709551616:=by
  rw[List.getD_eq_getElem?_getD];cases hk:l[k]? with
  | none=>simp
  | some y=>simpa using h.2 y (List.mem_of_getElem? hk)
structure Pr where
  name:List UInt8
  value:List UInt8
def Pr.cells (x:Pr):List Value :=
  [(str x.name)] ++ ([(str x.value)])
def mq:Dt Pr:=sw (fun x=>(x.name,x.value))<|fC AI AI
theorem kP {w:World} {Q:Nat->Prop} {cs:List Value} {x:Pr} (h:mq.nN w Q cs x):∃(_:True),cs=x.cells:=by obtain⟨_,_,rfl,⟨rfl,_⟩,⟨rfl,_⟩⟩:=h;exact⟨trivial,q⟩
theorem zu {w:World} {Q:Nat->Prop} {x:Pr}:mq.nN w Q (x.cells) x :=
  ⟨_,_,q,⟨q,tV⟩,⟨q,tV⟩⟩
theorem Pr.one {x:Pr}:(x.cells).all (fun u=>u.oneCell')=true:=cQ q q
structure Rec where
  seq:Nat
  aY:Nat
  mono:Nat
  aR:List UInt8
  aC:List Pr
structure Frame where
  kind:Nat
  flags:Nat
  size:Nat
structure FO where
  bZ:Nat
  bF:Nat
  cH:Nat
  entry:Nat
  array:Nat
  aZ:Nat
  ay:List UInt8
def FO.cells (x:FO) (v0:Value):List Value :=
  [(.int .u64 x.bZ)] ++ ([(.int .u64 x.bF)] ++ ([(.int .u64 x.cH)] ++ ([(.int .u64 x.entry)] ++ ([(.int .u64 x.array)] ++ ([(.int .u64 x.aZ)] ++ ([v0]))))))
def FO.ok (x:FO):Prop:=x.bZ<18446744073709551616/\x.bF<18446744073709551616/\x.cH<18446744073709551616/\x.entry<18446744073709551616/\x.array<18446744073709551616/\x.aZ<18446744073709551616
structure FR where
  bZ:Nat
  bF:Nat
  dat:Nat
  ay:List UInt8
def FR.cells (x:FR) (v0:Value):List Value :=
  [(.int .u64 x.bZ)] ++ ([(.int .u64 x.bF)] ++ ([(.int .u64 x.dat)] ++ ([v0])))
def FR.ok (x:FR):Prop:=x.bZ<18446744073709551616/\x.bF<18446744073709551616/\x.dat<18446744073709551616
structure eG where
  pos:Nat
  bZ:Nat
def eG.cells (x:eG):List Value :=
  [(.int .u64 x.pos)] ++ ([(.int .u64 x.bZ)])
def rM:Dt eG:=sw (fun x=>(x.pos,x.bZ))<|fC dQ dQ
def eG.ok (x:eG):Prop:=x.pos<18446744073709551616/\x.bZ<18446744073709551616
theorem xS {w:World} {Q:Nat->Prop} {cs:List Value} {x:eG} (h:rM.nN w Q cs x):∃(_:True),cs=x.cells/\eG.ok x:=by obtain⟨_,_,rfl,⟨rfl,A⟩,⟨rfl,B⟩⟩:=h;exact⟨trivial,q,⟨A,B⟩⟩
theorem MF {w:World} {Q:Nat->Prop} {x:eG} (c0:eG.ok x):rM.nN w Q (x.cells) x :=
  ⟨_,_,q,⟨q,c0.1⟩,⟨q,c0.2⟩⟩
theorem eG.one {x:eG}:(x.cells).all (fun u=>u.oneCell')=true:=cQ q q
structure lu where
  seq:Nat
  aY:Nat
  mono:Nat
  aR:List UInt8
  xor:Nat
  bg:List eG
def lu.cells (x:lu) (v0:Value):List Value :=
  [(.int .u64 x.seq)] ++ ([(.int .u64 x.aY)] ++ ([(.int .u64 x.mono)] ++ ((iD x.aR) ++ ([(.int .u64 x.xor)] ++ ([v0])))))
def lu.ok (x:lu):Prop:=x.seq<18446744073709551616/\x.aY<18446744073709551616/\x.mono<18446744073709551616/\x.aR.length=16/\x.xor<18446744073709551616
structure BP where
  next:Nat
  bg:List Nat
def BP.cells (x:BP) (v0:Value):List Value :=
  [(.int .u64 x.next)] ++ ([v0])
def BP.ok (x:BP):Prop:=x.next<18446744073709551616
structure sF where
  first:Nat
  tail:Nat
def sF.cells (x:sF):List Value :=
  [(.int .u64 x.first)] ++ ([(.int .u64 x.tail)])
def GC:Dt sF:=sw (fun x=>(x.first,x.tail))<|fC dQ dQ
def sF.ok (x:sF):Prop:=x.first<18446744073709551616/\x.tail<18446744073709551616
theorem MG {w:World} {Q:Nat->Prop} {cs:List Value} {x:sF} (h:GC.nN w Q cs x):∃(_:True),cs=x.cells/\sF.ok x:=by obtain⟨_,_,rfl,⟨rfl,A⟩,⟨rfl,B⟩⟩:=h;exact⟨trivial,q,⟨A,B⟩⟩
theorem BM {w:World} {Q:Nat->Prop} {x:sF} (c0:sF.ok x):GC.nN w Q (x.cells) x :=
  ⟨_,_,q,⟨q,c0.1⟩,⟨q,c0.2⟩⟩
theorem sF.one {x:sF}:(x.cells).all (fun u=>u.oneCell')=true:=cQ q q
structure eI where
  eS:Nat
  cr:Nat
  state:Nat
  bE:List UInt8
  bO:List UInt8
  aR:List UInt8
  seq:List UInt8
  n:List Nat
  bP:Nat
  bR:Nat
  cF:Nat
def eI.cells (x:eI):List Value :=
  [(.int .u32 x.eS)] ++ ([(.int .u32 x.cr)] ++ ([(.int .i64 x.state)] ++ ((iD x.bE) ++ ((iD x.bO) ++ ((iD x.aR) ++ ((iD x.seq) ++ ((nU x.n) ++ ([(.int .u32 x.bP)] ++ ([(.int .u32 x.bR)] ++ ([(.int .u64 x.cF)]))))))))))
def UH:Dt eI:=sw (fun x=>(x.eS,x.cr,x.state,x.bE,x.bO,x.aR,x.seq,x.n,x.bP,x.bR,x.cF))<|fC tU32<|fC tU32<|fC qf<|fC tId<|fC tId<|fC tId<|fC tId<|fC (agb)<|fC tU32<|fC tU32 dQ
def eI.ok (x:eI):Prop:=x.eS<4294967296/\x.cr<4294967296/\x.state<9223372036854775808/\x.bE.length=16/\x.bO.length=16/\x.aR.length=16/\x.seq.length=16/\(x.n.length=20/\∀y∈x.n,y<18446744073709551616)/\x.bP<4294967296/\x.bR<4294967296/\x.cF<18446744073709551616
theorem aa1 {w:World} {Q:Nat->Prop} {cs:List Value} {x:eI} (h:UH.nN w Q cs x):∃(_:True),cs=x.cells/\eI.ok x:=by obtain⟨_,_,rfl,⟨rfl,B⟩,⟨_,_,rfl,⟨rfl,C⟩,⟨_,_,rfl,⟨rfl,D⟩,⟨_,_,rfl,⟨rfl,E⟩,⟨_,_,rfl,⟨rfl,F⟩,⟨_,_,rfl,⟨rfl,G⟩,⟨_,_,rfl,⟨rfl,H⟩,⟨_,_,rfl,⟨rfl,I⟩,⟨_,_,rfl,⟨rfl,J⟩,⟨_,_,rfl,⟨rfl,K⟩,⟨rfl,A⟩⟩⟩⟩⟩⟩⟩⟩⟩⟩⟩:=h;exact⟨trivial,q,⟨B,C,D,E,F,G,H,I,J,K,A⟩⟩
theorem aa0 {w:World} {Q:Nat->Prop} {x:eI} (c0:eI.ok x):UH.nN w Q (x.cells) x :=
  ⟨_,_,q,⟨q,c0.1⟩,⟨_,_,q,⟨q,c0.2.1⟩,⟨_,_,q,⟨q,c0.2.2.1⟩,⟨_,_,q,⟨q,c0.2.2.2.1⟩,⟨_,_,q,⟨q,c0.2.2.2.2.1⟩,⟨_,_,q,⟨q,c0.2.2.2.2.2.1⟩,⟨_,_,q,⟨q,c0.2.2.2.2.2.2.1⟩,⟨_,_,q,⟨q,c0.2.2.2.2.2.2.2.1⟩,⟨_,_,q,⟨q,c0.2.2.2.2.2.2.2.2.1⟩,⟨_,_,q,⟨q,c0.2.2.2.2.2.2.2.2.2.1⟩,⟨q,c0.2.2.2.2.2.2.2.2.2.2⟩⟩⟩⟩⟩⟩⟩⟩⟩⟩⟩
theorem eI.one {x:eI}:(x.cells).all (fun u=>u.oneCell')=true:=cQ q<|cQ q<|cQ q<|cQ (jB _)<|cQ (jB _)<|cQ (jB _)<|cQ (jB _)<|cQ q<|cQ q<|cQ q q
structure d9 where
  eS:Nat
  cr:Nat
  state:Nat
  bE:List UInt8
  bO:List UInt8
  aR:List UInt8
  seq:List UInt8
  n:List Nat
  bP:Nat
  bR:Nat
  cF:Nat
def d9.cells (x:d9):List Value :=
  [(.int .u32 x.eS)] ++ ([(.int .u32 x.cr)] ++ ([(.int .i64 x.state)] ++ ((iD x.bE) ++ ((iD x.bO) ++ ((iD x.aR) ++ ((iD x.seq) ++ ((pZ x.n) ++ ([(.int .u32 x.bP)] ++ ([(.int .u32 x.bR)] ++ ([(.int .u64 x.cF)]))))))))))
def UG:Dt d9:=sw (fun x=>(x.eS,x.cr,x.state,x.bE,x.bO,x.aR,x.seq,x.n,x.bP,x.bR,x.cF))<|fC tU32<|fC tU32<|fC qf<|fC tId<|fC tId<|fC tId<|fC tId<|fC (agc)<|fC tU32<|fC tU32 dQ
def d9.ok (x:d9):Prop:=x.eS<4294967296/\x.cr<4294967296/\x.state<9223372036854775808/\x.bE.length=16/\x.bO.length=16/\x.aR.length=16/\x.seq.length=16/\(x.n.length=21/\∀y∈x.n,y<18446744073709551616)/\x.bP<4294967296/\x.bR<4294967296/\x.cF<18446744073709551616
theorem aaz {w:World} {Q:Nat->Prop} {cs:List Value} {x:d9} (h:UG.nN w Q cs x):∃(_:True),cs=x.cells/\d9.ok x:=by obtain⟨_,_,rfl,⟨rfl,B⟩,⟨_,_,rfl,⟨rfl,C⟩,⟨_,_,rfl,⟨rfl,D⟩,⟨_,_,rfl,⟨rfl,E⟩,⟨_,_,rfl,⟨rfl,F⟩,⟨_,_,rfl,⟨rfl,G⟩,⟨_,_,rfl,⟨rfl,H⟩,⟨_,_,rfl,⟨rfl,I⟩,⟨_,_,rfl,⟨rfl,J⟩,⟨_,_,rfl,⟨rfl,K⟩,⟨rfl,A⟩⟩⟩⟩⟩⟩⟩⟩⟩⟩⟩:=h;exact⟨trivial,q,⟨B,C,D,E,F,G,H,I,J,K,A⟩⟩
theorem aay {w:World} {Q:Nat->Prop} {x:d9} (c0:d9.ok x):UG.nN w Q (x.cells) x :=
  ⟨_,_,q,⟨q,c0.1⟩,⟨_,_,q,⟨q,c0.2.1⟩,⟨_,_,q,⟨q,c0.2.2.1⟩,⟨_,_,q,⟨q,c0.2.2.2.1⟩,⟨_,_,q,⟨q,c0.2.2.2.2.1⟩,⟨_,_,q,⟨q,c0.2.2.2.2.2.1⟩,⟨_,_,q,⟨q,c0.2.2.2.2.2.2.1⟩,⟨_,_,q,⟨q,c0.2.2.2.2.2.2.2.1⟩,⟨_,_,q,⟨q,c0.2.2.2.2.2.2.2.2.1⟩,⟨_,_,q,⟨q,c0.2.2.2.2.2.2.2.2.2.1⟩,⟨q,c0.2.2.2.2.2.2.2.2.2.2⟩⟩⟩⟩⟩⟩⟩⟩⟩⟩⟩
theorem d9.one {x:d9}:(x.cells).all (fun u=>u.oneCell')=true:=cQ q<|cQ q<|cQ q<|cQ (jB _)<|cQ (jB _)<|cQ (jB _)<|cQ (jB _)<|cQ q<|cQ q<|cQ q q
structure gZ where
  bE:List UInt8
  bO:List UInt8
  seq:List UInt8
  aj:Nat
  ak:Nat
  cK:Nat
  bL:Bool
def gZ.cells (x:gZ):List Value :=
  (iD x.bE) ++ ((iD x.bO) ++ ((iD x.seq) ++ ([(.int .i64 x.aj)] ++ ([(.int .i64 x.ak)] ++ ([(.int .i64 x.cK)] ++ ([(.bool x.bL)]))))))
def aiy:Dt gZ:=sw (fun x=>(x.bE,x.bO,x.seq,x.aj,x.ak,x.cK,x.bL))<|fC tId<|fC tId<|fC tId<|fC qf<|fC qf<|fC qf ak0
def gZ.ok (x:gZ):Prop:=x.bE.length=16/\x.bO.length=16/\x.seq.length=16/\x.aj<9223372036854775808/\x.ak<9223372036854775808/\x.cK<9223372036854775808
theorem afY {w:World} {Q:Nat->Prop} {cs:List Value} {x:gZ} (h:aiy.nN w Q cs x):∃(_:True),cs=x.cells/\gZ.ok x:=by obtain⟨_,_,rfl,⟨rfl,A⟩,⟨_,_,rfl,⟨rfl,B⟩,⟨_,_,rfl,⟨rfl,C⟩,⟨_,_,rfl,⟨rfl,D⟩,⟨_,_,rfl,⟨rfl,E⟩,⟨_,_,rfl,⟨rfl,F⟩,⟨rfl,_⟩⟩⟩⟩⟩⟩⟩:=h;exact⟨trivial,q,⟨A,B,C,D,E,F⟩⟩
theorem afX {w:World} {Q:Nat->Prop} {x:gZ} (c0:gZ.ok x):aiy.nN w Q (x.cells) x :=
  ⟨_,_,q,⟨q,c0.1⟩,⟨_,_,q,⟨q,c0.2.1⟩,⟨_,_,q,⟨q,c0.2.2.1⟩,⟨_,_,q,⟨q,c0.2.2.2.1⟩,⟨_,_,q,⟨q,c0.2.2.2.2.1⟩,⟨_,_,q,⟨q,c0.2.2.2.2.2⟩,⟨q,tV⟩⟩⟩⟩⟩⟩⟩
theorem gZ.one {x:gZ}:(x.cells).all (fun u=>u.oneCell')=true:=cQ (jB _)<|cQ (jB _)<|cQ (jB _)<|cQ q<|cQ q<|cQ q q
structure aK where
  bI:List UInt8
  pos:Nat
  bn:Nat
  aZ:Nat
  aL:List Nat
def aK.cells (x:aK) (v0:Value):List Value :=
  [(str x.bI)] ++ ([(.int .u64 x.pos)] ++ ([(.int .i64 x.bn)] ++ ([(.int .i64 x.aZ)] ++ ([v0]))))
def bY:Dt aK:=sw (fun x=>(x.bI,x.pos,x.bn,x.aZ,x.aL))<|fC AI<|fC dQ<|fC qf<|fC qf<|FI dQ
def aK.ok (x:aK):Prop:=x.pos<18446744073709551616/\x.bn<9223372036854775808/\x.aZ<9223372036854775808
theorem iP {w:World} {Q:Nat->Prop} {cs:List Value} {x:aK} (h:bY.nN w Q cs x):∃a,cs=x.cells a/\aK.ok x/\Ls dQ w Q a x.aL:=by obtain⟨_,_,rfl,⟨rfl,_⟩,⟨_,_,rfl,⟨rfl,b⟩,⟨_,_,rfl,⟨rfl,c⟩,⟨_,_,rfl,⟨rfl,C⟩,⟨a,rfl,D⟩⟩⟩⟩⟩:=h;exact⟨a,q,⟨b,c,C⟩,D⟩
theorem uS {w:World} {Q:Nat->Prop} {x:aK} {a:Value} (c0:aK.ok x) (c1:Ls dQ w Q a x.aL):bY.nN w Q (x.cells a) x :=
  ⟨_,_,q,⟨q,tV⟩,⟨_,_,q,⟨q,c0.1⟩,⟨_,_,q,⟨q,c0.2.1⟩,⟨_,_,q,⟨q,c0.2.2⟩,⟨_,q,c1⟩⟩⟩⟩⟩
theorem aK.one {x:aK} {a:Value} (b:a.oneCell'=true):(x.cells a).all (fun c=>c.oneCell')=true:=cQ q<|cQ q<|cQ q<|cQ q<|vU b
structure Mk where
  c:gZ
  h:eI
  depth:Nat
  b:List UInt8
  ai:List aK
  aC:List aK
  main:List Nat
def Mk.cells (x:Mk) (v0:Value) (v1:Value) (v2:Value) (v3:Value):List Value :=
  (gZ.cells x.c) ++ ((eI.cells x.h) ++ ([(.int .u64 x.depth)] ++ ([v0] ++ ([v1] ++ ([v2] ++ ([v3]))))))
def tMk:Dt Mk:=sw (fun x=>(x.c,x.h,x.depth,x.b,x.ai,x.aC,x.main))<|fC aiy<|fC UH<|fC dQ<|fC (FI dh)<|fC (FI bY)<|fC (FI bY)<|FI dQ
def Mk.ok (x:Mk):Prop:=gZ.ok x.c/\eI.ok x.h/\x.depth<18446744073709551616
theorem aiz {w:World} {Q:Nat->Prop} {cs:List Value} {x:Mk} (h:tMk.nN w Q cs x):∃a c d e,cs=x.cells a c d e/\Mk.ok x/\Ls dh w Q a x.b/\Ls bY w Q c x.ai/\Ls bY w Q d x.aC/\Ls dQ w Q e x.main:=by obtain⟨_,_,rfl,C,⟨_,_,rfl,D,⟨_,_,rfl,⟨rfl,i⟩,⟨_,_,rfl,⟨a,rfl,j⟩,⟨_,_,rfl,⟨c,rfl,G⟩,⟨_,_,rfl,⟨d,rfl,H⟩,⟨e,rfl,k⟩⟩⟩⟩⟩⟩⟩:=h;obtain⟨_,rfl,f⟩:=afY C;obtain⟨_,rfl,g⟩:=aa1 D;exact⟨a,c,d,e,q,⟨f,g,i⟩,j,G,H,k⟩
theorem zq {w:World} {Q:Nat->Prop} {x:Mk} {a:Value} {c:Value} {d:Value} {e:Value} (c0:Mk.ok x) (c1:Ls dh w Q a x.b) (c2:Ls bY w Q c x.ai) (c3:Ls bY w Q d x.aC) (c4:Ls dQ w Q e x.main):tMk.nN w Q (x.cells a c d e) x :=
  ⟨_,_,q,(afX c0.1),⟨_,_,q,(aa0 c0.2.1),⟨_,_,q,⟨q,c0.2.2⟩,⟨_,_,q,⟨_,q,c1⟩,⟨_,_,q,⟨_,q,c2⟩,⟨_,_,q,⟨_,q,c3⟩,⟨_,q,c4⟩⟩⟩⟩⟩⟩⟩
theorem Mk.one {x:Mk} {a:Value} {b:Value} {c:Value} {d:Value} (e:a.oneCell'=true) (h1:b.oneCell'=true) (f:c.oneCell'=true) (g:d.oneCell'=true):(x.cells a b c d).all (fun h=>h.oneCell')=true:=cQ (gZ.one)<|cQ (eI.one)<|cQ q<|cQ (vU e)<|cQ (vU h1)<|cQ (vU f)<|vU g
structure Sq where
  l:List Int
  pos:Nat
def Sq.cells (x:Sq) (v0:Value):List Value :=
  [v0] ++ ([(.int .i64 x.pos)])
def Sq.ok (x:Sq):Prop:=x.pos<9223372036854775808
def low:Nat->Nat->List UInt8
  | _,0=>[]
  | v,n+1=>UInt8.ofNat (v%256) :: low (v/256) n
theorem eM (v n:Nat):(low v n).length=n:=by
  induction n generalizing v with
  | zero=>rfl
  | succ n ih=>simp[low,ih]
def nums:List Nat->List UInt8
  | []=>[]
  | v :: r=>low v 8 ++ nums r
theorem cP (l:List Nat):(nums l).length=8*l.length:=by
  induction l with
  | nil=>rfl
  | cons v r ih=>simp[nums,eM,ih];omega
theorem OH (v:Nat) {n i:Nat} (h:i<n):low v (n-i)=UInt8.ofNat (v%256) :: low (v/256) (n-(i+1)):=by rw[show n-i=(n-(i+1))+1 by omega];rfl
theorem Wt (v:Nat) {n i:Nat} (h:¬i<n):low v (n-i)=[]:=by rw[show n-i=0 by omega];rfl
theorem uI {l:List Nat} {i x:Nat} (h:l[i]? = some x):nums (l.drop i)=low x 8 ++ nums (l.drop<|i+1):=by rw[fP h];rfl
theorem td {l:List Nat} {i:Nat} (h:¬i<l.length):nums (l.drop i)=[]:=by rw[gN Xx];rfl
def AG (l:Ly):List UInt8:=l ++ List.replicate ((8-l.length%8)%8) 0
theorem ZO {l:Ly} (h:l.length%8≠0):AG l=AG (l ++ [0]):=by unfold AG;rw[List.append_assoc,List.length_append];congr 1;rw[show(8-l.length%8)%8=(8-(l.length+[(0:UInt8)].length)%8)%8+1 by simp;omega,List.replicate_succ];rfl
theorem adF {l:Ly} (h:l.length%8=0):AG l=l:=by simp[AG,h]
theorem adG (l:Ly):(AG l).length=(l.length+7)/8*8:=by simp[AG];omega
def lW (kind:Nat) (body:Ly):List UInt8 :=
  if kind<1\/7<kind then[]else AG ([UInt8.ofNat kind,0,0,0,0,0,0,0] ++ nums [16+body.length] ++ body)
def ej (d:FO):List UInt8:=lW 1<|nums [d.bZ,d.bF,d.cH,d.entry,d.array,d.aZ] ++ d.ay
def dD (d:FR):List UInt8:=lW 2<|nums [d.bZ,d.bF,d.dat] ++ d.ay
def dw (a:BP):List UInt8:=lW 6<|nums [a.next] ++ nums a.bg
def mV:List sF->List UInt8
  | []=>[]
  | s :: r=>nums [s.first,s.tail] ++ mV r
def dc (kind:Nat) (l:List sF):List UInt8:=if kind≠4/\kind≠5 then[]else lW kind (mV l)
def nT:List eG->List UInt8
  | []=>[]
  | s :: r=>nums [s.pos,s.bZ] ++ nT r
def bT (e:lu):List UInt8:=lW 3<|nums [e.seq,e.aY,e.mono] ++ e.aR ++ nums [e.xor] ++ nT e.bg
def zH (h:eI) (depth:Nat):List UInt8 :=
  [76,80,75,83,72,72,82,72] ++ low h.eS 4 ++ low h.cr 4 ++ [UInt8.ofNat h.state,0,0,0,0,0,0,0] ++ h.bE ++ h.bO ++ h.aR ++ h.seq ++ nums h.n ++ nums [depth] ++ low h.bP 4 ++ low h.bR 4 ++ nums [h.cF]
theorem tC {k:Nat} {b:Ly} (h:1<=k/\k<=7):(lW k b).length=(16+b.length+7)/8*8:=by unfold lW;rw[if_neg Xx,adG];simp[cP];omega
theorem FG {l:List sF} {i:Nat} {x:sF} (h:l[i]? = some x):mV (l.drop i)=nums [x.first,x.tail] ++ mV (l.drop<|i+1):=by rw[fP h];rfl
theorem zk {l:List sF} {i:Nat} (h:¬i<l.length):mV (l.drop i)=[]:=by rw[gN Xx];rfl
theorem aap (l:List sF):(mV l).length=16*l.length:=by
  induction l with
  | nil=>rfl
  | cons v r ih=>simp[mV,cP,ih];omega
theorem DN {l:List eG} {i:Nat} {x:eG} (h:l[i]? = some x):nT (l.drop i)=nums [x.pos,x.bZ] ++ nT (l.drop<|i+1):=by rw[fP h];rfl
theorem yw {l:List eG} {i:Nat} (h:¬i<l.length):nT (l.drop i)=[]:=by rw[gN Xx];rfl
theorem HO (l:List eG):(nT l).length=16*l.length:=by
  induction l with
  | nil=>rfl
  | cons v r ih=>simp[nT,cP,ih];omega
theorem rD (d:FO):(ej d).length=(16+(48+d.ay.length)+7)/8*8:=by unfold ej;rw[tC Xx];simp[cP]
theorem ng (d:FR):(dD d).length=(16+(24+d.ay.length)+7)/8*8:=by unfold dD;rw[tC Xx];simp[cP]
theorem kX (a:BP):(dw a).length=(16+(8+8*a.bg.length)+7)/8*8:=by unfold dw;rw[tC Xx];simp[cP]
theorem iB (e:lu) (h:e.aR.length=16):(bT e).length=(16+(48+16*e.bg.length)+7)/8*8:=by unfold bT;rw[tC Xx];simp[cP,HO,h];omega
theorem vq (kind:Nat) (l:List sF) (h:kind=4\/kind=5):(dc kind l).length=(16+16*l.length+7)/8*8:=by unfold dc;rw[if_neg Xx,tC Xx,aap]
theorem gd (kind:Nat) (l:List sF):(dc kind l).length<=24+16*l.length/\(kind=4\/kind=5->(dc kind l).length=(16+16*l.length+7)/8*8):=by
  refine⟨?_,fun h=>vq kind l h⟩
  by_cases h:kind=4\/kind=5
  · rw[vq kind l h];omega
  unfold dc;rw[if_pos Xx];simp
theorem aac {h:eI} {j v:Nat} (d:h.n.length=20) (c:j<20):(eI.cells h).set (67+j) (.int .u64 v)=eI.cells {h with n:=h.n.set j v}:=by
  have a:∀(m:List Nat) (t:eI),t.n=m->eI.cells t=([(.int .u32 t.eS)] ++ ([(.int .u32 t.cr)] ++ ([(.int .i64 t.state)] ++ ((iD t.bE) ++ ((iD t.bO) ++ ((iD t.aR) ++ (iD t.seq))))))) ++ (nU m ++ ([(.int .u32 t.bP)] ++ ([(.int .u32 t.bR)] ++ [(.int .u64 t.cF)]))):=by intro m t C;subst C;simp only[eI.cells,List.append_assoc]
  rw[a h.n h q,a (h.n.set j v) {h with n:=h.n.set j v} q,ED d c];have b:([(.int .u32 h.eS)] ++ ([(.int .u32 h.cr)] ++ ([(.int .i64 h.state)] ++ ((iD h.bE) ++ ((iD h.bO) ++ ((iD h.aR) ++ (iD h.seq)))))):List Value).length=67:=rfl;have e:(nU h.n).length=20:=rfl;rw[List.set_append_right _ _ Xx,b,Nat.add_sub_cancel_left,List.set_append_left _ _ Xx]
theorem GL (c:BinOp) (a b:Int):0<=bits c .u64 a b/\bits c .u64 a b<18446744073709551616:=by unfold bits;cases c <;> simp only[ML] <;> omega
theorem WW (t:T3):0<=pack t/\pack t<18446744073709551616:=GL _ _ _
theorem acp:∀(k:Nat) (t:T3) (l:Ly),0<=Wm k t l/\Wm k t l<18446744073709551616
  | 0,t,l=>by unfold Wm;split<;>exact WW _
  | k+1,t,l=>by
    unfold Wm;split
    · exact acp k _ _
    · split<;>exact WW _
theorem uE (l:Ly):0<=lookup l/\lookup l<18446744073709551616:=acp _ _ _
theorem ael (key l:Ly):0<=sip key l/\sip key l<18446744073709551616:=by unfold sip FD S4.all kL;exact GL _ _ _
def qD (l:Ly):Nat:=(lookup l).toNat
def cu (k:Bool) (key l:Ly):Nat:=if k then(sip key l).toNat else qD l
theorem DI (k:Bool) (key l:Ly):((cu k key l:Nat):Int)=if k then sip key l else lookup l:=by unfold cu qD;have A:=uE l;have B:=ael key l;cases k <;> simp <;> omega
theorem DJ (k:Bool) (key l:Ly):cu k key l<18446744073709551616:=by have B:=uE l;have C:=ael key l;have A:=DI k key l;cases k <;> simp at A <;> omega
theorem OG (l:Ly):((qD l:Nat):Int)=lookup l:=by have A:=uE l;unfold qD;omega
theorem EA (l:Ly):qD l<18446744073709551616:=by have A:=uE l;unfold qD;omega
def lH (v:Nat):List (List UInt8)->Nat
  | []=>v
  | b :: r=>lH (v ^^^ qD b) r
theorem Rf {v:Nat} {l:List (List UInt8)} {i:Nat} {x:Ly} (h:l[i]? = some x):lH v (l.drop i)=lH (v ^^^ qD x) (l.drop<|i+1):=by rw[fP h];rfl
theorem BO {v:Nat} {l:List (List UInt8)} {i:Nat} (h:¬i<l.length):lH v (l.drop i)=v:=by rw[gN Xx];rfl
theorem FM {a b:Nat} (c:a<18446744073709551616) (hb:b<18446744073709551616):a ^^^ b<18446744073709551616:=Nat.xor_lt_two_pow (n:=64) c hb
def ay (p:Pr):List UInt8:=p.name ++ [61] ++ p.value
theorem ga (p:Pr):(ay p).length=p.name.length+1+p.value.length:=by simp[ay];omega
def cB (k:Int):Nat:=if k<0 then 0 else if 6<k then 256 else min (4*2 ^ k.toNat) 256
def AH:Nat->List UInt8->Nat->Nat->Nat->List UInt8
  | 0,b,_,_,_=>b
  | n+1,b,p,v,i=>AH n (b.set (p+i)<|UInt8.ofNat<|v/2 ^ (8*i)) p v<|i+1
def gq (b:Ly) (p v:Nat):List UInt8:=AH 8 b p v 0
theorem adM (n:Nat) (b:Ly) (p v i:Nat):(AH n b p v i).length=b.length:=by
  induction n generalizing b i with
  | zero=>rfl
  | succ n ih=>simp[AH,ih]
theorem dV (b:Ly) (p v:Nat):(gq b p v).length=b.length:=adM 8 b p v 0
def Mk.put (m:Mk) (p v:Nat):Mk:={m with b:=gq m.b p v}
theorem gM (m:Mk) (p v:Nat):(m.put p v).b.length=m.b.length:=dV _ _ _
theorem ZR {n i:Nat} {b:Ly} {p v:Nat} (h:i<n):AH (n-i) b p v i=AH (n-(i+1)) (b.set (p+i)<|UInt8.ofNat<|v/2 ^ (8*i)) p v (i+1):=by rw[show n-i=(n-(i+1))+1 by omega];rfl
theorem adL {n i:Nat} {b:Ly} {p v:Nat} (h:¬i<n):AH (n-i) b p v i=b:=by rw[show n-i=0 by omega];rfl
def Mk.bD (m:Mk) (k v:Nat):Mk:={m with h:={m.h with n:=m.h.n.set k v}}
def Mk.aT (m:Mk) (k:Nat):Nat:=m.h.n.getD k 0
def Mk.bJ (m:Mk) (o:Ly):Nat × Mk :=
  let m1:={m with b:=m.b ++ o}
  let m29:=m1.bD 6 m.b.length
  (m.b.length,m29.bD 7 ((m29.aT 7+1)%18446744073709551616))
def iM (bn:Nat):List aK->Nat->Nat->Nat × Nat
  | [],n,q=>(n,q)
  | k :: r,n,q=>if k.bn=bn then iM bn r (n+1) k.pos else iM bn r n q
def Mk.hang (m:Mk) (l:List aK) (table p bn:Nat):Nat × Mk :=
  match iM bn l 0 0 with
  | (n,q)=>(n,(if n=0 then m.put (table+16*bn) p else m.put (q+24) p).put (table+16*bn+8) p)
def nk (name:Ly):List aK->Option Nat
  | []=>none
  | k :: r=>if k.bI=name then some k.pos else nk name r
def kU (s:Ly):List aK->Nat->Option Nat
  | [],_=>none
  | k :: r,i=>if k.bI=s then some i else kU s r (i+1)
def Mk.field (m:Mk) (name:Ly):Nat × Mk :=
  match nk name m.aC with
  | some p=>(p,m)
  | none =>
    match m.bJ (dD {bZ:=cu m.c.bL m.c.bE name,bF:=0,dat:=0,ay:=name})with
    | (p,m1)=>match m1.hang m1.aC (m1.aT 4) p (cu m.c.bL m.c.bE name%m1.c.ak)with
      | (n,m29) =>
        let m3:={m29 with depth:=max m1.depth n}
        let m4:=m3.bD 16<|(m3.aT 16+1)%18446744073709551616
        (p,{m4 with aC:=m4.aC ++ [({bI:=name,pos:=p,bn:=cu m.c.bL m.c.bE name%m1.c.ak,aZ:=0,aL:=[]}:aK)]})
def Mk.data (m:Mk) (x:Pr):Nat × Mk :=
  match kU (ay x) m.ai 0 with
  | some i=>(i,m)
  | none =>
    match m.bJ (ej {bZ:=cu m.c.bL m.c.bE (ay x),bF:=0,cH:=0,entry:=0,array:=0,aZ:=0,ay:=ay x})with
    | (p,m1)=>match m1.hang m1.ai (m1.aT 2) p (cu m.c.bL m.c.bE (ay x)%m1.c.aj)with
      | (n,m29) =>
        let m3:=m29.bD 19<|max (m29.aT 19) n
        let m4:=m3.bD 15<|(m3.aT 15+1)%18446744073709551616
        let m5:={m4 with ai:=m4.ai ++ [({bI:=ay x,pos:=p,bn:=cu m.c.bL m.c.bE (ay x)%m1.c.aj,aZ:=0,aL:=[]}:aK)]}
        match m5.field x.name with
        | (k,m6) =>
          let m7:=m6.put (p+32) (mA m6.b (k+32:Nat) 8).1
          let m8:=m7.put (k+32) p
          (m8.ai.length-1,m8)
theorem aak (m:Mk) (k v:Nat):(m.bD k v).b=m.b/\(m.bD k v).c=m.c/\(m.bD k v).ai=m.ai/\(m.bD k v).aC=m.aC/\(m.bD k v).main=m.main:=⟨q,q,q,q,q⟩
theorem au {l:List Nat} {i j v:Nat} (h:i≠j):(l.set i v).getD j 0=l.getD j 0:=by simp[List.getD,List.getElem?_set_ne h]
theorem cg {m:Mk} {k v j:Nat} (h:k≠j):(m.bD k v).aT j=m.aT j:=au h
theorem eW (m:Mk) (o:Ly):(m.bJ o).1=m.b.length/\(m.bJ o).2.b.length=m.b.length+o.length/\(m.bJ o).2.c.aj=m.c.aj/\(m.bJ o).2.c.ak=m.c.ak/\(m.bJ o).2.ai.length=m.ai.length/\(m.bJ o).2.aC.length=m.aC.length /\
    (m.bJ o).2.h.n.getD 2 0=m.h.n.getD 2 0/\(m.bJ o).2.h.n.getD 4 0=m.h.n.getD 4 0 :=
  ⟨q,by simp[Mk.bJ,Mk.bD],q,q,q,q,by simp only[Mk.bJ,Mk.bD];rw[au Xz,au Xz],by simp only[Mk.bJ,Mk.bD];rw[au Xz,au Xz]⟩
theorem dn (m:Mk) (o:Ly):(m.bJ o).2.c=m.c/\(m.bJ o).2.ai=m.ai/\(m.bJ o).2.aC=m.aC/\(m.bJ o).2.main=m.main:=⟨q,q,q,q⟩
theorem jD (m:Mk) (p v:Nat):(m.put p v).b.length=m.b.length/\(m.put p v).c.aj=m.c.aj/\(m.put p v).c.ak=m.c.ak/\(m.put p v).ai.length=m.ai.length/\(m.put p v).aC.length=m.aC.length /\
    (m.put p v).h.n.getD 2 0=m.h.n.getD 2 0/\(m.put p v).h.n.getD 4 0=m.h.n.getD 4 0:=⟨dV _ _ _,q,q,q,q,q,q⟩
theorem AR (m:Mk) (l:List aK) (table p bn:Nat):(m.hang l table p bn).2={m with b:=(m.hang l table p bn).2.b}/\(m.hang l table p bn).2.b.length=m.b.length:=by
  unfold Mk.hang;generalize iM bn l 0 0=r;obtain⟨n,q⟩:=r;simp only;split
  · exact⟨rfl,by rw[gM,gM]⟩
  exact⟨rfl,by rw[gM,gM]⟩
theorem uy (m:Mk) (l:List aK) (table p bn:Nat):(m.hang l table p bn).2.b.length=m.b.length/\(m.hang l table p bn).2.c.aj=m.c.aj/\(m.hang l table p bn).2.c.ak=m.c.ak/\(m.hang l table p bn).2.ai.length=m.ai.length/\(m.hang l table p bn).2.aC.length=m.aC.length /\
    (m.hang l table p bn).2.h.n.getD 2 0=m.h.n.getD 2 0/\(m.hang l table p bn).2.h.n.getD 4 0=m.h.n.getD 4 0:=by
  obtain⟨A,B⟩:=AR m l table p bn;refine⟨B,?_,?_,?_,?_,?_,?_⟩ <;> rw[A]
theorem gA (m:Mk) (l:List aK) (table p bn:Nat):(m.hang l table p bn).2.c=m.c/\(m.hang l table p bn).2.ai=m.ai/\(m.hang l table p bn).2.aC=m.aC/\(m.hang l table p bn).2.main=m.main/\(m.hang l table p bn).2.depth=m.depth/\(m.hang l table p bn).2.h=m.h:=by have A:=(AR m l table p bn).1;refine⟨?_,?_,?_,?_,?_,?_⟩ <;> rw[A]
theorem HK {bn i n q:Nat} {l:List aK} {x:aK} (h:l[i]? = some x):iM bn (l.drop i) n q=if x.bn=bn then iM bn (l.drop<|i+1) (n+1) x.pos else iM bn (l.drop<|i+1) n q:=by rw[fP h];rfl
theorem wL {bn i n q:Nat} {l:List aK} (h:¬i<l.length):iM bn (l.drop i) n q=(n,q):=by rw[gN Xx];rfl
theorem CV {s:Ly} {i:Nat} {l:List aK} {x:aK} (h:l[i]? = some x):nk s (l.drop i)=if x.bI=s then some x.pos else nk s (l.drop<|i+1):=by rw[fP h];rfl
theorem yo {s:Ly} {i:Nat} {l:List aK} (h:¬i<l.length):nk s (l.drop i)=none:=by rw[gN Xx];rfl
theorem CU {s:Ly} {i j:Nat} {l:List aK} {x:aK} (h:l[i]? = some x):kU s (l.drop i) j=if x.bI=s then some j else kU s (l.drop<|i+1) (j+1):=by rw[fP h];rfl
theorem yj {s:Ly} {i j:Nat} {l:List aK} (h:¬i<l.length):kU s (l.drop i) j=none:=by rw[gN Xx];rfl
def Mk.fit (m:Mk):Prop:=1<=m.c.aj/\m.c.aj<=64/\1<=m.c.ak/\m.c.ak<=64/\m.h.n.getD 2 0+16*m.c.aj<=m.b.length/\m.h.n.getD 4 0+16*m.c.ak<=m.b.length /\
  (∀k∈m.ai,k.pos+64<=m.b.length)/\(∀k∈m.aC,k.pos+40<=m.b.length)
theorem oU {m m':Mk} (h:m.fit) (h1:m'.c.aj=m.c.aj/\m'.c.ak=m.c.ak/\m'.h.n.getD 2 0=m.h.n.getD 2 0/\m'.h.n.getD 4 0=m.h.n.getD 4 0/\m.b.length<=m'.b.length)
    (hd:∀k∈m'.ai,k∈m.ai\/k.pos+64<=m'.b.length) (hf:∀k∈m'.aC,k∈m.aC\/k.pos+40<=m'.b.length):m'.fit:=by
  obtain⟨G,H,I,J,K,L,A,B⟩:=h;obtain⟨C,D,E,F,M⟩:=h1;refine⟨by omega,by omega,by omega,by omega,by rw[C,E];omega,by rw[D,F];omega,fun k hk=>?_,fun k hk=>?_⟩
  · rcases hd k hk with h|h
    · have:=A k h;omega
    exact h
  rcases hf k hk with h|h
  · have:=B k h;omega
  exact h
theorem uh {s:Ly} {l:List aK} {p:Nat} (h:nk s l=some p):∃k∈l,k.pos=p/\k.bI=s:=by
  induction l with
  | nil=>simp[nk]at h
  | cons x l ih =>
    simp only[nk]at h;split at h
    · rename_i hx;exact⟨x,by simp,by simpa using h,hx⟩
    · obtain⟨k,hk,A⟩:=ih h;exact⟨k,by simp[hk],A⟩
theorem abC {s:Ly} {l:List aK} {j i:Nat} (h:kU s l j=some i):j<=i/\i<j+l.length:=by
  induction l generalizing j with
  | nil=>simp[kU]at h
  | cons x l ih =>
    simp only[kU]at h;split at h
    · simp at h;simp;omega
    · have:=ih h;simp;omega
theorem uf (m:Mk) (name:Ly) (h:m.fit):((m.field name).1+40<=(m.field name).2.b.length/\m.b.length<=(m.field name).2.b.length/\(m.field name).2.b.length<=m.b.length+(48+name.length)/\(m.field name).2.ai.length=m.ai.length/\(m.field name).2.aC.length<=m.aC.length+1 /\
    (m.field name).2.c.aj=m.c.aj/\(m.field name).2.c.ak=m.c.ak/\(m.field name).2.h.n.getD 2 0=m.h.n.getD 2 0/\(m.field name).2.h.n.getD 4 0=m.h.n.getD 4 0/\(m.field name).2.h.n.getD 8 0=m.h.n.getD 8 0) /\
    ((m.field name).2.c=m.c/\(m.field name).2.ai=m.ai/\(m.field name).2.main=m.main)/\(m.field name).2.fit:=by
  unfold Mk.field;cases hk:nk name m.aC with
  | some p =>
    obtain⟨k,D,U,_⟩:=uh hk;have:=h.2.2.2.2.2.2.2 k D;exact⟨⟨by simp only;omega,Nat.le_refl _,by simp only;omega,q,by simp only;omega,q,q,q,q,q⟩,⟨q,q,q⟩,h⟩
  | none =>
    simp only;have C:=eW m<|dD {bZ:=cu m.c.bL m.c.bE name,bF:=0,dat:=0,ay:=name};have I:=dn m<|dD {bZ:=cu m.c.bL m.c.bE name,bF:=0,dat:=0,ay:=name};have J:(m.bJ<|dD {bZ:=cu m.c.bL m.c.bE name,bF:=0,dat:=0,ay:=name}).2.h.n.getD 8 0=m.h.n.getD 8 0:=(by simp only[Mk.bJ,Mk.bD];rw[au Xz,au Xz]);rw[ng]at C;simp only at C;generalize m.bJ (dD {bZ:=cu m.c.bL m.c.bE name,bF:=0,dat:=0,ay:=name})=r at *;obtain⟨p,A⟩:=r;simp only at C I J ⊢;have K:=uy A A.aC (A.aT 4) p<|cu m.c.bL m.c.bE name%A.c.ak;have L:=gA A A.aC (A.aT 4) p<|cu m.c.bL m.c.bE name%A.c.ak;generalize A.hang A.aC (A.aT 4) p (cu m.c.bL m.c.bE name%A.c.ak)=r at *;obtain⟨n,B⟩:=r;simp only at K L ⊢;obtain⟨V,W,X,Y,Z,a,d,e⟩:=C;obtain⟨M,E,N,O⟩:=I;obtain⟨f,g,i,j,l,o,t⟩:=K;obtain⟨P,F,Q,R,u,S⟩:=L;simp only[Mk.bD,List.length_append,List.length_singleton];have G:(B.h.n.set 16<|(B.aT 16+1)%18446744073709551616).getD 2 0=m.h.n.getD 2 0:=(by rw[au Xz];omega);have H:(B.h.n.set 16<|(B.aT 16+1)%18446744073709551616).getD 4 0=m.h.n.getD 4 0:=(by rw[au Xz];omega);have T:(B.h.n.set 16<|(B.aT 16+1)%18446744073709551616).getD 8 0=m.h.n.getD 8 0:=(by rw[au Xz,S,J]);refine⟨⟨by omega,by omega,by omega,by omega,by omega,by omega,by omega,G,H,T⟩,⟨by rw[P,M],by rw[F,E],by rw[R,O]⟩,?_⟩;refine oU h ⟨by simp only;omega,by simp only;omega,G,H,by simp only;omega⟩ (fun k hk=>?_)<|fun k hk=>?_
    · simp only[F,E]at hk;exact .inl hk
    · simp only[Q,N,List.mem_append,List.mem_singleton]at hk
      rcases hk with hk|rfl
      · exact .inl hk
      · right;simp only;omega
theorem SB (m:Mk) (name:Ly) (h:m.fit):(m.field name).1+40<=(m.field name).2.b.length/\m.b.length<=(m.field name).2.b.length/\(m.field name).2.b.length<=m.b.length+(48+name.length)/\(m.field name).2.ai.length=m.ai.length/\(m.field name).2.aC.length<=m.aC.length+1 /\
    (m.field name).2.c.aj=m.c.aj/\(m.field name).2.c.ak=m.c.ak/\(m.field name).2.h.n.getD 2 0=m.h.n.getD 2 0/\(m.field name).2.h.n.getD 4 0=m.h.n.getD 4 0/\(m.field name).2.h.n.getD 8 0=m.h.n.getD 8 0:=(uf m name h).1
theorem SA (m:Mk) (name:Ly) (h:m.fit):(m.field name).2.c=m.c/\(m.field name).2.ai=m.ai/\(m.field name).2.main=m.main:=(uf m name h).2.1
theorem YH (m:Mk) (name:Ly) (h:m.fit):(m.field name).2.fit:=(uf m name h).2.2
section
variable {m y:Mk} {v1 v2 v3 v4:Value} {w:World} {b t i v j:Nat}
theorem ahT (b:m.h.n.length=20) (hi:i<20):(Mk.cells m v1 v2 v3 v4).set (119+i) (.int .u64 v)=Mk.cells {m with h:={m.h with n:=m.h.n.set i v}} v1 v2 v3 v4:=by have a:(gZ.cells m.c).length=52:=rfl;have d:(eI.cells m.h).length=90:=rfl;show(gZ.cells m.c ++ (eI.cells m.h ++ _)).set _ _=gZ.cells m.c ++ (eI.cells _ ++ _);rw[List.set_append_right _ _ Xx,a,show 119+i-52=67+i by omega,List.set_append_left _ _ Xx,aac b hi]
theorem L4 (a:bK w b ((Mk.cells m v1 v2 v3 v4).set j<|.int .u64 v) t) (ok:Mk.ok m) (r:v<18446744073709551616) (p:j=119+i) (hi:i<20):∃y,y=({m with h:={m.h with n:=m.h.n.set i v}}:Mk)/\bK w b (Mk.cells y v1 v2 v3 v4) t/\Mk.ok y:=by subst p;rw[ahT ok.2.1.2.2.2.2.2.2.2.1.1 hi]at a;obtain⟨e,⟨l,b,c,d,o,f,g,h,k⟩,C⟩:=ok;exact⟨_,q,a,e,⟨l,b,c,d,o,f,g,eO h r,k⟩,C⟩
theorem jx (a:bK w b ((Mk.cells m v1 v2 v3 v4).set j<|.int .u64 v) t) (ok:Mk.ok m) (e:v<18446744073709551616) (d:j=119+i:=by rfl) (hi:i<20:=by decide) (f:i≠2:=by decide) (g:i≠4:=by decide):∃y,y=({m with h:={m.h with n:=m.h.n.set i v}}:Mk)/\bK w b (Mk.cells y v1 v2 v3 v4) t/\Mk.ok y/\y.b.length=m.b.length/\y.ai.length=m.ai.length/\y.aC.length=m.aC.length/\y.c.aj=m.c.aj/\y.c.ak=m.c.ak/\y.h.n.getD 2 0=m.h.n.getD 2 0/\y.h.n.getD 4 0=m.h.n.getD 4 0:=by obtain⟨y,rfl,h,k⟩:=L4 a ok e d hi;exact⟨_,q,h,k,q,q,q,q,q,au Xx,au Xx⟩
theorem af3 (a:bK w b ((Mk.cells m v1 v2 v3 v4).set j<|.int .u64 v) t) (ok:Mk.ok m) (e:v<18446744073709551616) (d:j=119+i:=by rfl) (hi:i<20:=by decide) (f:i≠4:=by decide):∃y,y=({m with h:={m.h with n:=m.h.n.set i v}}:Mk)/\bK w b (Mk.cells y v1 v2 v3 v4) t/\Mk.ok y/\y.b.length=m.b.length/\y.ai.length=m.ai.length/\y.aC.length=m.aC.length/\y.c.aj=m.c.aj/\y.c.ak=m.c.ak/\y.h.n.getD 4 0=m.h.n.getD 4 0:=by obtain⟨y,rfl,h,k⟩:=L4 a ok e d hi;exact⟨_,q,h,k,q,q,q,q,q,au Xx⟩
theorem af4 (a:bK w b ((Mk.cells m v1 v2 v3 v4).set j<|.int .u64 v) t) (ok:Mk.ok m) (e:v<18446744073709551616) (d:j=119+i:=by rfl) (hi:i<20:=by decide) (f:i≠2:=by decide):∃y,y=({m with h:={m.h with n:=m.h.n.set i v}}:Mk)/\bK w b (Mk.cells y v1 v2 v3 v4) t/\Mk.ok y/\y.b.length=m.b.length/\y.ai.length=m.ai.length/\y.aC.length=m.aC.length/\y.c.aj=m.c.aj/\y.c.ak=m.c.ak/\y.h.n.getD 2 0=m.h.n.getD 2 0:=by obtain⟨y,rfl,h,k⟩:=L4 a ok e d hi;exact⟨_,q,h,k,q,q,q,q,q,au Xx⟩
theorem af2 {x:Ly} (e:y={m with b:=x}):y.ai.length=m.ai.length/\y.aC.length=m.aC.length/\y.c.aj=m.c.aj/\y.c.ak=m.c.ak/\y.h.n.getD 2 0=m.h.n.getD 2 0/\y.h.n.getD 4 0=m.h.n.getD 4 0:=by subst e;exact⟨q,q,q,q,q,q⟩
theorem wZ {x:List aK} (e:y={m with ai:=x}):y.b.length=m.b.length/\y.aC.length=m.aC.length/\y.c.aj=m.c.aj/\y.c.ak=m.c.ak/\y.h.n.getD 2 0=m.h.n.getD 2 0/\y.h.n.getD 4 0=m.h.n.getD 4 0:=by subst e;exact⟨q,q,q,q,q,q⟩
theorem yE {x:List aK} (e:y={m with aC:=x}):y.b.length=m.b.length/\y.ai.length=m.ai.length/\y.c.aj=m.c.aj/\y.c.ak=m.c.ak/\y.h.n.getD 2 0=m.h.n.getD 2 0/\y.h.n.getD 4 0=m.h.n.getD 4 0:=by subst e;exact⟨q,q,q,q,q,q⟩
theorem WA {x:List Nat} (e:y={m with main:=x}):y.b.length=m.b.length/\y.ai.length=m.ai.length/\y.aC.length=m.aC.length/\y.c.aj=m.c.aj/\y.c.ak=m.c.ak/\y.h.n.getD 2 0=m.h.n.getD 2 0/\y.h.n.getD 4 0=m.h.n.getD 4 0:=by subst e;exact⟨q,q,q,q,q,q,q⟩
theorem ac3 {x:Nat} (e:y={m with depth:=x}):y.b.length=m.b.length/\y.ai.length=m.ai.length/\y.aC.length=m.aC.length/\y.c.aj=m.c.aj/\y.c.ak=m.c.ak/\y.h.n.getD 2 0=m.h.n.getD 2 0/\y.h.n.getD 4 0=m.h.n.getD 4 0:=by subst e;exact⟨q,q,q,q,q,q,q⟩
theorem TG {x:eI} (e:y={m with h:=x}):y.b.length=m.b.length/\y.ai.length=m.ai.length/\y.aC.length=m.aC.length/\y.c.aj=m.c.aj/\y.c.ak=m.c.ak:=by subst e;exact⟨q,q,q,q,q⟩
end
section
variable {P:Program}
end
theorem lZ (k:Int):cB k<=256:=by unfold cB;split;omega;split<;>omega
def eK:List Nat->Nat->Nat->Nat->Nat × Nat
  | [],_,a,r=>(a,r)
  | _ :: l,k,_,r=>eK l (k+1) r<|r+cB (k:Int)
def eY (l:List Nat):Nat:=l.getD (l.length-1) 0
def Mk.link (m:Mk) (aL:List Nat) (n src ij:Nat):List Nat × Nat × Mk :=
  match eK aL 0 0 0 with
  | (ahead,room) =>
    if n=room then
      match m.bJ (dw {next:=0,bg:=List.replicate (cB (aL.length:Int)) 0})with
      | (p,m1) =>
        let m29:=m1.bD 18<|(m1.aT 18+1)%18446744073709551616
        (aL ++ [p],n-room+1,(if aL.length=0 then m29.put src p else m29.put (eY aL+16) p).put (eY (aL ++ [p])+24+8*(n-room)) ij)
    else(aL,n-ahead+1,m.put (eY aL+24+8*(n-ahead)) ij)
theorem vY {l:List Nat} {i k a r:Nat} (h:i<l.length):eK (l.drop i) k a r=eK (l.drop<|i+1) (k+1) r (r+cB (k:Int)):=by obtain⟨x,A⟩:=gF h;rw[fP A];rfl
theorem uM {l:List Nat} {i k a r:Nat} (h:¬i<l.length):eK (l.drop i) k a r=(a,r):=by rw[gN Xx];rfl
theorem pu {k:Int} (h:0<=k):4<=cB k:=by
  unfold cB;rw[if_neg Xx];split
  · omega
  have:1<=2 ^ k.toNat:=Nat.one_le_two_pow;omega
theorem oN (k:Int):k<0\/4<=cB k:=by by_cases h:0<=k;exact .inr<|pu h;exact .inl Xx
theorem jY {l:List Nat} {x:Nat} (h:l[l.length-1]? = some x):eY l=x:=by simp[eY,List.getD,h]
theorem Zz {α} {l:List α} {p x:α} (h:(l ++ [p])[(l ++ [p]).length-1]? = some x):x=p:=by simpa using h.symm
theorem TY (l:List Nat) (k a r:Nat) (h:l≠[]):(eK l k a r).2=(eK l k a r).1+cB ((k+l.length-1:Nat):Int):=by
  induction l generalizing k a r with
  | nil=>exact absurd q h
  | cons x l ih =>
    by_cases hl:l=[]
    · subst hl;simp[eK]
    · simp only[eK,List.length_cons]
      rw[ih (k+1) r (r+cB (k:Int)) hl,show k+1+l.length-1=k+(l.length+1)-1 by omega]
theorem Uk {l:List Nat} {n:Nat} (b:(eK l 0 0 0).1<=n) (a:n<=(eK l 0 0 0).2) (h:n≠(eK l 0 0 0).2):1<=l.length/\n<(eK l 0 0 0).1+cB ((l.length-1:Nat):Int):=by
  cases l with
  | nil=>simp[eK]at a h;omega
  | cons x l =>
    have:=TY (x :: l) 0 0 0 Oj;simp only[Nat.zero_add]at this;refine⟨by simp,?_⟩;omega
def jk (len:Nat) (aL:List Nat) (n:Nat):Prop :=
  (∀(k a:Nat),aL[k]? = some a->a+24+8*cB (k:Int)<=len)/\(eK aL 0 0 0).1<=n/\n<=(eK aL 0 0 0).2
def eC (c:gZ) (tail:Nat):Mk :=
  let b1:=List.replicate 272 0 ++ dc 4 (List.replicate c.aj {first:=0,tail:=0})
  let b2:=b1 ++ dc 5 (List.replicate c.ak {first:=0,tail:=0})
  {c:=c,depth:=0,b:=b2,ai:=[],aC:=[],main:=[],
    h:={eS:=2,cr:=if c.bL then 4 else 0,state:=1,bE:=c.bE,bO:=c.bO,aR:=List.replicate 16 0,seq:=c.seq,bP:=0,bR:=0,cF:=0,
           n:=(((((((((List.replicate 20 0).set 0 272).set 2 288).set 3<|16*c.aj).set 4<|b1.length+16).set 5<|16*c.ak).set 6 b1.length).set 7 2).set 9 tail)}}
theorem aew {α} {l:List α} {i:Nat} (h:¬i<l.length):l.take i=l:=List.take_of_length_le Xx
theorem MY {v:Value} {b:Nat} (h:∀x,ah v=some x->x≠b):b∉(ah v).toList:=by
  cases hv:ah v with
  | none=>simp
  | some c=>simp;exact fun e=>h c hv e.symm
theorem eP {v:Value} {b:Nat} (h:∀x,ah v=some x->x≠b):∀x,ah v=some x->x∉[b]:=fun x c a=>h x c (by simpa using a)
def jl (m:Mk) (st:Nat):List UInt8:=zH {m.h with state:=st,n:=m.h.n.set 1 (m.b.length-272)} m.depth ++ m.b.drop 272
theorem Zs (h:eI) (depth:Nat) (ok:eI.ok h):(zH h depth).length=272:=by obtain⟨_,_,_,A,B,C,D,E,_⟩:=ok;simp[zH,eM,cP,A,B,C,D,E.1]
def Pr.pb (p:Pr):sE:=(p.name,p.value)
section
variable {P:Program} {n:Nat} {A:Fr n} {D:List Deferred} {l:List (Nat × Value)} {w:World} {d:Option Tmp} {ty:TypeId} {ps:String} {af:Array Edge} {g:Option (Nat × Bool)}
theorem Xb {x y:Operand} {t f u:TypeId} {p q:Pr} (a:pairT P t f=true) (hf:P.underlying f=some .string) (b:ev n l x=some (.agg (Pr.cells p).toArray)) (c:ev n l y=some (.agg (Pr.cells q).toArray)) :
    cw P ⟨d,.binOp .eql t x y u,ty,ps,af,g⟩ (aN A D l).eval w (.bool<|decide (p.pb=q.pb)):=aif (p:=p.pb) (q:=q.pb) a hf b c
end
def ez (p:Pr):List UInt8 × Nat:=if eo p.name=false then([],1)else if 256<p.value.length then([],21)else(ay p,0)
theorem ach {p:Pr} (h:(ez p).2=0):p.name.length<=1000000/\p.value.length<=1000000:=by
  unfold ez at h;split at h
  · cases h
  rename_i h1;split at h
  · cases h
  have:=(fH (s:=p.name) (by simpa using h1)).2;omega
theorem jX {p:Pr}:(ez p).2=0↔right p.pb=true:=by
  unfold ez right Pr.pb
  by_cases h1:eo p.name=false
  · simp[h1]
  rw[if_neg h1];have A:eo p.name=true:=by simpa using h1
  rw[A]
  by_cases h3:256<p.value.length
  · simp[h3]
  simp[h3];omega
def kJ (t:Ly):List Pr->Nat->Nat
  | [],k=>k
  | q :: r,k=>if Op.bytesLess (ay q) t=true then kJ t r (k+1)else k
theorem JB {t:Ly} {o:List Pr} {k:Nat} {q:Pr} (h:o[k]? = some q):kJ t (o.drop k) k=if Op.bytesLess (ay q) t=true then kJ t (o.drop<|k+1) (k+1)else k:=by rw[fP h];rfl
theorem aea {t:Ly} {o:List Pr} {k:Nat} (h:¬k<o.length):kJ t (o.drop k) k=k:=by rw[gN Xx];rfl
theorem o7 {l:List Pr} {i:Nat} {x:Pr} (h:l[i]? = some x):l.getD i {name:=[],value:=[]}=x:=by simp[List.getD,h]
def kO:Nat->Nat->List Pr->List Pr
  | 0,_,o=>o
  | n+1,j,o=>kO n (j-1)<|o.set j<|o.getD (j-1) {name:=[],value:=[]}
theorem Uv {j k:Nat} {o:List Pr} (h:k<j):kO (j-k) j o=kO (j-1-k) (j-1) (o.set j<|o.getD (j-1) {name:=[],value:=[]}):=by rw[show j-k=(j-1-k)+1 by omega];rfl
theorem aal {j k:Nat} {o:List Pr} (h:¬k<j):kO (j-k) j o=o:=by rw[show j-k=0 by omega];rfl
def AA (p:Pr) (o:List Pr):List Pr :=
  let k:=kJ (ay p) o 0
  if k<o.length/\(o.getD k {name:=[],value:=[]}).pb=p.pb then o else(kO (o.length-k) o.length<|o ++ [{name:=[],value:=[]}]).set k p
def KU:List Pr->List Pr->List Pr × Nat
  | [],o=>if 16<o.length then([],21)else(o,0)
  | p :: r,o=>if(ez p).2≠0 then([],(ez p).2)else KU r (AA p o)
def jN (l:List Pr):List Pr × Nat:=if l.length=0 then([],16)else KU l []
theorem KV {l o:List Pr} {i:Nat} (h:¬i<l.length):KU (l.drop i) o=if 16<o.length then([],21)else(o,0):=by rw[gN Xx];rfl
theorem NU {l o:List Pr} {i:Nat} {p:Pr} (h:l[i]? = some p):KU (l.drop i) o=if(ez p).2≠0 then([],(ez p).2)else KU (l.drop<|i+1) (AA p o):=by rw[fP h];rfl
section
variable {P:Program} {n:Nat} {A:Fr n} {D:List Deferred} {l:List (Nat × Value)} {w:World} {d:Option Tmp} {ty:TypeId} {ps:String} {af:Array Edge} {g:Option (Nat × Bool)}
theorem TW {x y:Operand} {t u:TypeId} {k:IntKind} {a b:Int} (c:ev n l x=some (.int k a)) (e:ev n l y=some (.int k b)) (h:b≠0) :
    cw P ⟨d,.binOp .rem t x y u,ty,ps,af,g⟩ (aN A D l).eval w (.int k<|a.tmod b):=adW c e h
end
def OV (k:Int) (n:Nat):Nat:=if n<1 then 0 else((k.tmod n+n).tmod n).toNat
theorem uH (k:Int) (n:Nat):n<1\/OV k n<n:=by
  unfold OV
  by_cases h:n<1
  · exact .inl h
  rw[if_neg h];have A:=Int.tmod_lt_of_pos (k.tmod n+n) (show(0:Int)<n by omega);right;omega
theorem ahW {k:Int} {n:Nat} (h:¬n<1):0<=k.tmod n+n/\k.tmod n+n<2*n:=by have A:=Int.tmod_lt_of_pos k (show(0:Int)<n by omega);have B:=Int.lt_tmod_of_pos k (show(0:Int)<n by omega);omega
def Sq.aT (s:Sq) (n:Nat):Nat × Sq:=if s.l.length<=s.pos then(0,s)else(OV (s.l.getD s.pos 0) n,{s with pos:=s.pos+1})
def vP:List (List UInt8):=[[65],[66],[77,69,83,83,65,71,69],[95,80,73,68],[88,95,49],[80,82,73,79,82,73,84,89]]
def rO:List (List UInt8):=[[],[48],[49],[50,50],[97,61,98],[111,110,101,10,116,119,111],[0,255],[116,97,98,9,104,101,114,101],[108,111,110,103,32,108,111,110,103,32,108,111,110,103,32,108,111,110,103,32,108,111,110,103,32,108,111,110,103,32,108,111,110,103],[126,127,128]]
theorem TH:vP.length=6:=rfl
theorem QU:rO.length=10:=rfl
def idF (k:Int):List UInt8:=((List.replicate 16 0).set 0 94).set 15<|UInt8.ofNat<|OV k 5
def Sq.pair (s:Sq):Pr × Sq :=
  match s.aT 6 with
  | (a,s1) =>
    match s1.aT 10 with
    | (b,s2)=>({name:=vP.getD a [],value:=rO.getD b []},s2)
theorem Sq.lB (s:Sq) (n:Nat):(s.aT n).1<=n-1:=by
  unfold Sq.aT;split
  · simp
  simp only
  rcases uH (s.l.getD s.pos 0) n with h|h
  · simp[OV,h]
  omega
def lV:Nat->Sq->List Pr->List Pr × Sq
  | 0,s,o=>(o,s)
  | n+1,s,o=>match s.pair with
    | (p,s1)=>lV n s1<|o ++ [p]
def Sq.pairs (s:Sq) (cK:Nat):List Pr × Sq :=
  match s.aT cK with
  | (n,s1)=>lV (n+1) s1 []
theorem ZP {n:Nat} {s:Sq} {o:List Pr} (h:¬0<n):lV n s o=(o,s):=by rw[show n=0 by omega];rfl
theorem TS {n:Nat} {s:Sq} {o:List Pr} (h:0<n):lV n s o=lV (n-1) s.pair.2 (o ++ [s.pair.1]):=by obtain⟨k,rfl⟩:∃k,n=k+1:=⟨n-1,by omega⟩;rfl
theorem ac7 (a:Nat):(vP.getD a []).length<=64:=by
  match a with
  | 0|1|2|3|4|5=>decide
  | n+6=>simp[vP]
theorem aa6 (a:Nat):(rO.getD a []).length<=256:=by
  match a with
  | 0|1|2|3|4|5|6|7|8|9=>decide
  | n+10=>simp[rO]
theorem afE (s:Sq):s.pair.1.name.length<=64/\s.pair.1.value.length<=256:=⟨ac7 _,aa6 _⟩
theorem IQ (n:Nat):∀(s:Sq) (o:List Pr),(∀q∈o,q.name.length<=64/\q.value.length<=256)->(∀q∈(lV n s o).1,q.name.length<=64/\q.value.length<=256)/\(lV n s o).1.length=o.length+n:=by
  induction n with
  | zero=>exact fun s o h=>⟨h,rfl⟩
  | succ n ih =>
    intro s o h;have:=ih s.pair.2 (o ++ [s.pair.1]) (fun q A=>by
      rcases List.mem_append.1 A with A|A
      · exact h q A
      · rw[List.mem_singleton.1 A];exact afE s)
    refine⟨this.1,?_⟩;have B:=this.2;rw[List.length_append,List.length_singleton]at B;rw[show lV (n+1) s o=lV n s.pair.2 (o ++ [s.pair.1])from rfl,B];omega
theorem adH (s:Sq) (cK:Nat):(∀q∈(s.pairs cK).1,q.name.length<=1000000/\q.value.length<=1000000)/\(s.pairs cK).1.length<=cK+1:=by have h:=IQ ((s.aT cK).1+1) (s.aT cK).2 [] Oj;have B:=s.lB cK;have e:s.pairs cK=lV ((s.aT cK).1+1) (s.aT cK).2 []:=rfl;rw[e];refine⟨fun q A=>⟨by have:=(h.1 q A).1;omega,by have:=(h.1 q A).2;omega⟩,?_⟩;rw[h.2];simp;omega
def Sq.config (s:Sq):gZ × Sq :=
  match s.aT 5 with
  | (a,s1)=>match s1.aT 5 with
    | (b,s2)=>match s2.aT 5 with
      | (c,s3)=>match s3.aT 7 with
        | (d,s4)=>match s4.aT 4 with
          | (e,s5)=>match s5.aT 2 with
            | (f,s6)=>({bE:=idF a,bO:=idF b,seq:=idF c,aj:=d+1,ak:=e+1,cK:=32768,bL:=decide (f=1)},s6)
section
variable {P:Program} {Q:Exit->Act->World->Prop} {n:Nat} {A:Fr n} {D:List Deferred} {l:List (Nat × Value)} {w:World}
def aaI {X0 X1 X2 X3 X4 X5 X6 X7 X8 X9:Type} (n:Nat) (D:List Deferred) (inv:X0->X1->X2->X3->X4->X5->X6->X7->X8->X9->List (Nat × Value)) (W:X0->X1->X2->X3->X4->X5->X6->X7->X8->X9->World->Prop) (mu:X0->X1->X2->X3->X4->X5->X6->X7->X8->X9->Nat) (m:Nat) (a:Act) (w:World):Prop :=
  ∃y0:X0,∃y1:X1,∃y2:X2,∃y3:X3,∃y4:X4,∃y5:X5,∃y6:X6,∃y7:X7,∃y8:X8,∃y9:X9,∃B:Fr n,a=aN B D (inv y0 y1 y2 y3 y4 y5 y6 y7 y8 y9)/\W y0 y1 y2 y3 y4 y5 y6 y7 y8 y9 w/\mu y0 y1 y2 y3 y4 y5 y6 y7 y8 y9<m
theorem ahN {j k m o q r s t u v:Type} {c:Code} (inv:j->k->m->o->q->r->s->t->u->v->List (Nat × Value)) (W:j->k->m->o->q->r->s->t->u->v->World->Prop) (z:j->k->m->o->q->r->s->t->u->v->Nat) (x0:j) (x1:k) (x2:m) (a:o) (b:q) (d:r) (e:s) (f:t) (g:u) (i:v) (U:Fits n l (inv x0 x1 x2 a b d e f g i)) (V:W x0 x1 x2 a b d e f g i w)
    (round:∀(x0:j) (x1:k) (x2:m) (a:o) (b:q) (d:r) (e:s) (f:t) (g:u) (i:v) (y:Fr n) (x:World),W x0 x1 x2 a b d e f g i x->c.wp P (Exit.then (aaI n D inv W z<|z x0 x1 x2 a b d e f g i) Q) (aN y D<|inv x0 x1 x2 a b d e f g i) x) :
    (Code.loop c).wp P Q (aN A D l) w:=by
  refine jv (X:=j × k × m × o × q × r × s × t × u × v) (fun p=>inv p.1 p.2.1 p.2.2.1 p.2.2.2.1 p.2.2.2.2.1 p.2.2.2.2.2.1 p.2.2.2.2.2.2.1 p.2.2.2.2.2.2.2.1 p.2.2.2.2.2.2.2.2.1 p.2.2.2.2.2.2.2.2.2) (fun p w=>W p.1 p.2.1 p.2.2.1 p.2.2.2.1 p.2.2.2.2.1 p.2.2.2.2.2.1 p.2.2.2.2.2.2.1 p.2.2.2.2.2.2.2.1 p.2.2.2.2.2.2.2.2.1 p.2.2.2.2.2.2.2.2.2 w) (fun p=>z p.1 p.2.1 p.2.2.1 p.2.2.2.1 p.2.2.2.2.1 p.2.2.2.2.2.1 p.2.2.2.2.2.2.1 p.2.2.2.2.2.2.2.1 p.2.2.2.2.2.2.2.2.1 p.2.2.2.2.2.2.2.2.2) (x0,x1,x2,a,b,d,e,f,g,i) U V<|fun p y x h=>wp_mono (round (p.1) (p.2.1) (p.2.2.1) (p.2.2.2.1) (p.2.2.2.2.1) (p.2.2.2.2.2.1) (p.2.2.2.2.2.2.1) (p.2.2.2.2.2.2.2.1) (p.2.2.2.2.2.2.2.2.1) (p.2.2.2.2.2.2.2.2.2) y x h) ?_;intro S T Y h;cases S with
  | normal=>obtain⟨H,F,I,J,K,L,M,N,R,O,C,B,E,G⟩:=h;exact⟨(H,F,I,J,K,L,M,N,R,O),C,B,E,G⟩
  | _=>exact h
theorem ahV {a b c d e f g h i j:Type} {inv:a->b->c->d->e->f->g->h->i->j->List (Nat × Value)} {W:a->b->c->d->e->f->g->h->i->j->World->Prop} {u:a->b->c->d->e->f->g->h->i->j->Nat} {m:Nat} (x0:a) (x1:b) (x2:c) (k:d) (o:e) (p:f) (q:g) (r:h) (s:i) (t:j) (v:u x0 x1 x2 k o p q r s t<m) (hf:Fits n l (inv x0 x1 x2 k o p q r s t)) (x:W x0 x1 x2 k o p q r s t w) :
    aaI n D inv W u m (aN A D l) w:=⟨x0,x1,x2,k,o,p,q,r,s,t,_,(ec (A:=A) (D:=D) hf).symm,x,v⟩
def aaJ {X0 X1 X2 X3 X4 X5 X6 X7 X8 X9 X10 X11:Type} (n:Nat) (D:List Deferred) (inv:X0->X1->X2->X3->X4->X5->X6->X7->X8->X9->X10->X11->List (Nat × Value)) (W:X0->X1->X2->X3->X4->X5->X6->X7->X8->X9->X10->X11->World->Prop) (mu:X0->X1->X2->X3->X4->X5->X6->X7->X8->X9->X10->X11->Nat) (m:Nat) (a:Act) (w:World):Prop :=
  ∃y0:X0,∃y1:X1,∃y2:X2,∃y3:X3,∃y4:X4,∃y5:X5,∃y6:X6,∃y7:X7,∃y8:X8,∃y9:X9,∃y10:X10,∃y11:X11,∃B:Fr n,a=aN B D (inv y0 y1 y2 y3 y4 y5 y6 y7 y8 y9 y10 y11)/\W y0 y1 y2 y3 y4 y5 y6 y7 y8 y9 y10 y11 w/\mu y0 y1 y2 y3 y4 y5 y6 y7 y8 y9 y10 y11<m
theorem ahO {m o s t u v x y z B q r:Type} {c:Code} (inv:m->o->s->t->u->v->x->y->z->B->q->r->List (Nat × Value)) (W:m->o->s->t->u->v->x->y->z->B->q->r->World->Prop) (I:m->o->s->t->u->v->x->y->z->B->q->r->Nat) (x0:m) (x1:o) (x2:s) (d:t) (e:u) (f:v) (g:x) (i:y) (j:z) (k:B) (a:q) (b:r) (ad:Fits n l (inv x0 x1 x2 d e f g i j k a b)) (ae:W x0 x1 x2 d e f g i j k a b w)
    (round:∀(x0:m) (x1:o) (x2:s) (d:t) (e:u) (f:v) (g:x) (i:y) (j:z) (k:B) (a:q) (b:r) (F:Fr n) (E:World),W x0 x1 x2 d e f g i j k a b E->c.wp P (Exit.then (aaJ n D inv W I<|I x0 x1 x2 d e f g i j k a b) Q) (aN F D<|inv x0 x1 x2 d e f g i j k a b) E) :
    (Code.loop c).wp P Q (aN A D l) w:=by
  refine jv (X:=m × o × s × t × u × v × x × y × z × B × q × r) (fun p=>inv p.1 p.2.1 p.2.2.1 p.2.2.2.1 p.2.2.2.2.1 p.2.2.2.2.2.1 p.2.2.2.2.2.2.1 p.2.2.2.2.2.2.2.1 p.2.2.2.2.2.2.2.2.1 p.2.2.2.2.2.2.2.2.2.1 p.2.2.2.2.2.2.2.2.2.2.1 p.2.2.2.2.2.2.2.2.2.2.2) (fun p w=>W p.1 p.2.1 p.2.2.1 p.2.2.2.1 p.2.2.2.2.1 p.2.2.2.2.2.1 p.2.2.2.2.2.2.1 p.2.2.2.2.2.2.2.1 p.2.2.2.2.2.2.2.2.1 p.2.2.2.2.2.2.2.2.2.1 p.2.2.2.2.2.2.2.2.2.2.1 p.2.2.2.2.2.2.2.2.2.2.2 w) (fun p=>I p.1 p.2.1 p.2.2.1 p.2.2.2.1 p.2.2.2.2.1 p.2.2.2.2.2.1 p.2.2.2.2.2.2.1 p.2.2.2.2.2.2.2.1 p.2.2.2.2.2.2.2.2.1 p.2.2.2.2.2.2.2.2.2.1 p.2.2.2.2.2.2.2.2.2.2.1 p.2.2.2.2.2.2.2.2.2.2.2) (x0,x1,x2,d,e,f,g,i,j,k,a,b) ad ae<|fun p F E h=>wp_mono (round (p.1) (p.2.1) (p.2.2.1) (p.2.2.2.1) (p.2.2.2.2.1) (p.2.2.2.2.2.1) (p.2.2.2.2.2.2.1) (p.2.2.2.2.2.2.2.1) (p.2.2.2.2.2.2.2.2.1) (p.2.2.2.2.2.2.2.2.2.1) (p.2.2.2.2.2.2.2.2.2.2.1) (p.2.2.2.2.2.2.2.2.2.2.2) F E h) ?_;intro ab V af h;cases ab with
  | normal=>obtain⟨M,N,O,S,U,Y,R,Z,T,aa,C,J,K,G,H,L⟩:=h;exact⟨(M,N,O,S,U,Y,R,Z,T,aa,C,J),K,G,H,L⟩
  | _=>exact h
theorem acB {a b e f g h i j k o c d:Type} {inv:a->b->e->f->g->h->i->j->k->o->c->d->List (Nat × Value)} {W:a->b->e->f->g->h->i->j->k->o->c->d->World->Prop} {z:a->b->e->f->g->h->i->j->k->o->c->d->Nat} {m:Nat} (x0:a) (x1:b) (x2:e) (r:f) (s:g) (t:h) (u:i) (v:j) (x:k) (y:o) (p:c) (q:d) (B:z x0 x1 x2 r s t u v x y p q<m) (hf:Fits n l (inv x0 x1 x2 r s t u v x y p q)) (C:W x0 x1 x2 r s t u v x y p q w) :
    aaJ n D inv W z m (aN A D l) w:=⟨x0,x1,x2,r,s,t,u,v,x,y,p,q,_,(ec (A:=A) (D:=D) hf).symm,C,B⟩
end
def known0:aK:={bI:=[],pos:=0,bn:=0,aZ:=0,aL:=[]}
def fR (ds:List aK) (i:Nat):Nat:=(ds.getD i known0).pos
def kT (ds:List aK) (p:Nat) (order:List Nat):Nat->Nat
  | 0=>0
  | n+1=>if p<fR ds (order.getD n 0)then kT ds p order n else n+1
def jK (ds:List aK) (k:Nat) (order:List Nat):List Nat :=
  let n:=kT ds (fR ds k) order order.length
  order.take n ++ [k] ++ order.drop n
def eN:List Pr->Mk->List (List UInt8)->List Nat->List (List UInt8) × List Nat × Mk
  | [],m,ps,od=>(ps,od,m)
  | x :: r,m,ps,od =>
    match m.data x with
    | (k,m1)=>eN r m1 (ps ++ [(m1.ai.getD k known0).bI])<|jK m1.ai k od
def dG (m:Mk) (od:List Nat):List eG:=od.map fun i=>{pos:=fR m.ai i,bZ:=cu m.c.bL m.c.bE (m.ai.getD i known0).bI}
def iL (e:Nat):List Nat->Mk->Mk
  | [],m=>m
  | i :: r,m =>
    let k:=m.ai.getD i known0
    if k.aZ=0 then
      let m29:=(m.put (k.pos+40) e).put (k.pos+56) 1
      iL e r {m29 with ai:=m29.ai.set i {k with aZ:=1}}
    else
      match m.link k.aL (k.aZ-1) (k.pos+48) e with
      | (a,_,m1) =>
        let m29:=m1.put (k.pos+56)<|k.aZ+1
        iL e r {m29 with ai:=m29.ai.set i {k with aL:=a,aZ:=k.aZ+1}}
def Mk.append (m:Mk) (aC:List Pr) (aY mono:Nat) (aR:Ly):Nat × Nat × Mk :=
  match jN aC with
  | (l,c) =>
    if c≠0 then(0,c,m)
    else if m.aT 9=18446744073709551615 then(0,1,m)
    else
      match eN l m [] []with
      | (ps,od,m1) =>
        let seq:=(m1.aT 9+1)%18446744073709551616
        match m1.bJ (bT {seq:=seq,aY:=aY,mono:=mono,aR:=aR,xor:=lH 0 ps,bg:=dG m1 od})with
        | (e,m29) =>
          let n:=m29.aT 8
          match m29.link m29.main n 176 e with
          | (a,t,m3) =>
            let m4:=({m3 with main:=a}:Mk).bD 11<|a.getD 0 0
            let m5:={m4 with h:={m4.h with bP:=eY a%4294967296,bR:=t%4294967296}}
            let m6:=iL e od m5
            if m6.c.cK<m6.b.length then(0,15,m)
            else
              let m7:=if n=0 then(m6.bD 10 seq).bD 12 aY else m6
              let m8:=m7.bD 8<|(m7.aT 8+1)%18446744073709551616
              let m9:=((m8.bD 9 seq).bD 13 aY).bD 14 mono
              (seq,0,{m9 with h:={m9.h with aR:=aR,cF:=e}})
structure ahl (m m':Mk) (k len:Nat):Prop where
  lt:k<m'.ai.length
  ge:m.b.length<=m'.b.length
  le:m'.b.length<=m.b.length+len
  c:m'.c=m.c
  main:m'.main=m.main
  pre:m'.ai=m.ai\/∃x:aK,m'.ai=m.ai ++ [x]/\x.aZ=0/\x.aL=[]/\x.pos+64<=m'.b.length
  fl:m'.aC.length<=m.aC.length+1
  fit:m'.fit
  n8:m'.h.n.getD 8 0=m.h.n.getD 8 0
theorem ki (m:Mk) (p v:Nat):(m.put p v).c=m.c/\(m.put p v).ai=m.ai/\(m.put p v).aC=m.aC/\(m.put p v).main=m.main/\(m.put p v).h=m.h/\(m.put p v).depth=m.depth:=⟨q,q,q,q,q,q⟩
theorem tZ (m:Mk) (x:Pr) (h:m.fit):ahl m (m.data x).2 (m.data x).1 (400+x.name.length+(ay x).length):=by
  unfold Mk.data;cases hk:kU (ay x) m.ai 0 with
  | some i =>
    have:=abC hk;exact⟨by simp only;omega,Nat.le_refl _,by simp only;omega,q,q,.inl q,by simp only;omega,h,q⟩
  | none =>
    simp only;have D:=eW m<|ej {bZ:=cu m.c.bL m.c.bE (ay x),bF:=0,cH:=0,entry:=0,array:=0,aZ:=0,ay:=ay x};have Q:=dn m<|ej {bZ:=cu m.c.bL m.c.bE (ay x),bF:=0,cH:=0,entry:=0,array:=0,aZ:=0,ay:=ay x};have R:(m.bJ<|ej {bZ:=cu m.c.bL m.c.bE (ay x),bF:=0,cH:=0,entry:=0,array:=0,aZ:=0,ay:=ay x}).2.h.n.getD 8 0=m.h.n.getD 8 0:=(by simp only[Mk.bJ,Mk.bD];rw[au Xz,au Xz]);rw[rD]at D;simp only at D;generalize m.bJ (ej {bZ:=cu m.c.bL m.c.bE (ay x),bF:=0,cH:=0,entry:=0,array:=0,aZ:=0,ay:=ay x})=r at *;obtain⟨p,a⟩:=r;simp only at D Q R ⊢;have K:=uy a a.ai (a.aT 2) p<|cu m.c.bL m.c.bE (ay x)%a.c.aj;have T:=gA a a.ai (a.aT 2) p<|cu m.c.bL m.c.bE (ay x)%a.c.aj;generalize a.hang a.ai (a.aT 2) p (cu m.c.bL m.c.bE (ay x)%a.c.aj)=r at *;obtain⟨n,e⟩:=r;simp only at K T ⊢;obtain⟨ae,af,ag,a4,a5,ah,ak,al⟩:=D;obtain⟨O,A,B,S⟩:=Q;obtain⟨c1,c2,c3,c4,am,an,ao⟩:=K;obtain⟨d,E,F,U,ap,f⟩:=T;generalize hx5:({(e.bD 19<|max (e.aT 19) n).bD 15 (((e.bD 19<|max (e.aT 19) n).aT 15+1)%18446744073709551616)with ai:=((e.bD 19<|max (e.aT 19) n).bD 15<|((e.bD 19<|max (e.aT 19) n).aT 15+1)%18446744073709551616).ai ++ [({bI:=ay x,pos:=p,bn:=cu m.c.bL m.c.bE (ay x)%a.c.aj,aZ:=0,aL:=[]}:aK)]}:Mk)=m5;have X:m5.b=e.b/\m5.c=e.c/\m5.ai=e.ai ++ [({bI:=ay x,pos:=p,bn:=cu m.c.bL m.c.bE (ay x)%a.c.aj,aZ:=0,aL:=[]}:aK)]/\m5.aC=e.aC/\m5.main=e.main:=(by subst hx5;exact⟨q,q,q,q,q⟩);have v:m5.h.n.getD 2 0=m.h.n.getD 2 0:=(by subst hx5;simp only[Mk.bD];rw[au Xz,au Xz];omega);have w:m5.h.n.getD 4 0=m.h.n.getD 4 0:=(by subst hx5;simp only[Mk.bD];rw[au Xz,au Xz];omega);have aq:m5.h.n.getD 8 0=m.h.n.getD 8 0:=(by subst hx5;simp only[Mk.bD];rw[au Xz,au Xz,f,R]);clear hx5;obtain⟨g,j,J,P,l⟩:=X;have ar:m5.b.length=a.b.length:=(by rw[g];omega);have aa:m5.fit:=by
      refine oU h ⟨by rw[j];omega,by rw[j];omega,v,w,by omega⟩ (fun k hk=>?_)<|fun k hk=>?_
      · rw[J,E,A,List.mem_append,List.mem_singleton]at hk
        rcases hk with hk|rfl
        · exact .inl hk
        · right;simp only;omega
      · rw[P,F,B]at hk;exact .inl hk
    have L:=uf m5 x.name aa;generalize m5.field x.name=r at *;obtain⟨k,C⟩:=r;simp only at L ⊢;obtain⟨⟨aw,ax,az,aA,aB,aD,aE,aF,aG,y⟩,⟨z,Y,Z⟩,s4⟩:=L;have av:((C.put (p+32) (mA C.b (k+32:Nat) 8).1).put (k+32) p).b.length=C.b.length:=(by rw[gM,gM]);have o:=ki C (p+32) (mA C.b (k+32:Nat) 8).1;have t:=ki (C.put (p+32) (mA C.b (k+32:Nat) 8).1) (k+32) p;generalize C.put (p+32) (mA C.b (k+32:Nat) 8).1=m7 at *;generalize m7.put (k+32) p=m8 at *;obtain⟨s,V,W,ab,G,_⟩:=o;obtain⟨H,M,N,ad,u,_⟩:=t;have I:m8.ai=m.ai ++ [({bI:=ay x,pos:=p,bn:=cu m.c.bL m.c.bE (ay x)%a.c.aj,aZ:=0,aL:=[]}:aK)]:=(by rw[M,V,Y,J,E,A]);refine⟨by rw[I];simp,by omega,by omega,by rw[H,s,z,j,d,O],by rw[ad,ab,Z,l,U,S],.inr ⟨_,I,q,q,by simp only;omega⟩,?_,?_,by rw[u,G];omega⟩
    · have:=congrArg List.length P;rw[F,B]at this;rw[N,W];omega
    · refine oU s4 ⟨by rw[H,s],by rw[H,s],by rw[u,G],by rw[u,G],by omega⟩ (fun k hk=>.inl (by rw[M,V]at hk;exact hk))<|fun k hk=>.inl (by rw[N,W]at hk;exact hk)
theorem aah (l:List Nat) (p k a r:Nat):eK (l ++ [p]) k a r=((eK l k a r).2,(eK l k a r).2+cB ((k+l.length:Nat):Int)):=by
  induction l generalizing k a r with
  | nil=>rfl
  | cons x l ih =>
    show eK (l ++ [p]) (k+1) r (r+cB (k:Int))=_;rw[ih];show _=((eK l (k+1) r<|r+cB (k:Int)).2,(eK l (k+1) r<|r+cB (k:Int)).2+cB ((k+(l.length+1):Nat):Int));rw[show k+1+l.length=k+(l.length+1)by omega]
theorem aeb (l:List Nat) (k a r:Nat):r+4*l.length<=(eK l k a r).2/\(l≠[]->r+4*(l.length-1)<=(eK l k a r).1):=by
  induction l generalizing k a r with
  | nil=>simp[eK]
  | cons x l ih =>
    have C:=pu (k:=(k:Int)) Xx;obtain⟨B,A⟩:=ih (k+1) r<|r+cB (k:Int);refine⟨?_,fun _=>?_⟩
    · show r+4*(l.length+1)<=(eK l (k+1) r<|r+cB (k:Int)).2;omega
    · show r+4*(l.length+1-1)<=(eK l (k+1) r<|r+cB (k:Int)).1
      by_cases hl:l=[]
      · subst hl;simp[eK]
      · have:=A hl
        have:0<l.length:=(by cases l with|nil=>exact absurd q hl|cons _ _=>simp);omega
theorem tN {len n:Nat} {a:List Nat} (h:jk len a n):a.length<=n+1:=by
  obtain⟨_,B,_⟩:=h;have A:=(aeb a 0 0 0).2
  by_cases ha:a=[]
  · subst ha;simp
  have:=A ha;omega
theorem oQ {len b n:Nat} {a:List Nat} (h:jk len a n) (hl:len<=b):jk b a n :=
  ⟨fun k x c=>lv (h.1 k x c) hl,h.2⟩
theorem chain_nil (len:Nat):jk len [] 0:=⟨by simp,by simp[eK],by simp[eK]⟩
structure aaH (m m':Mk) (a:List Nat) (n:Nat):Prop where
  ge:m.b.length<=m'.b.length
  le:m'.b.length<=m.b.length+2100
  c:m'.c=m.c
  ai:m'.ai=m.ai
  aC:m'.aC=m.aC
  main:m'.main=m.main
  chain:jk m'.b.length a (n+1)
  ne:a≠[]
  n8:m'.h.n.getD 8 0=m.h.n.getD 8 0
  n2:m'.h.n.getD 2 0=m.h.n.getD 2 0
  n4:m'.h.n.getD 4 0=m.h.n.getD 4 0
theorem wU (m:Mk) (aL:List Nat) (n src ij:Nat) (h:jk m.b.length aL n):aaH m (m.link aL n src ij).2.2 (m.link aL n src ij).1 n:=by
  obtain⟨R,I,T⟩:=h;unfold Mk.link;have e:=fun p=>aah aL p 0 0 0
  rcases hq:eK aL 0 0 0 with⟨A,B⟩
  rw[hq]at I T e;simp only at I T e ⊢;rw[Nat.zero_add]at e;split
  · rename_i hn
    have G:=eW m<|dw {next:=0,bg:=List.replicate (cB (aL.length:Int)) 0};have Q:=dn m<|dw {next:=0,bg:=List.replicate (cB (aL.length:Int)) 0};have o:(m.bJ<|dw {next:=0,bg:=List.replicate (cB (aL.length:Int)) 0}).2.h.n.getD 8 0=m.h.n.getD 8 0:=(by simp only[Mk.bJ,Mk.bD];rw[au Xz,au Xz]);rw[kX]at G;simp only[List.length_replicate]at G;generalize m.bJ (dw {next:=0,bg:=List.replicate (cB (aL.length:Int)) 0})=r at *;obtain⟨p,C⟩:=r;simp only at G Q o ⊢;obtain⟨w,y,z,a4,a5,Y,Z,aa⟩:=G;obtain⟨K,V,W,L⟩:=Q;have X:=lZ (aL.length:Int);have H:=pu (k:=(aL.length:Int)) Xx;generalize hx2:C.bD 18 ((C.aT 18+1)%18446744073709551616)=m29;have U:m29.b=C.b/\m29.c=C.c/\m29.ai=C.ai/\m29.aC=C.aC/\m29.main=C.main:=(by subst hx2;exact aak _ _ _);have ah:m29.h.n.getD 8 0=C.h.n.getD 8 0:=(by subst hx2;exact cg Xz);have af:m29.h.n.getD 2 0=C.h.n.getD 2 0:=(by subst hx2;exact cg Xz);have ag:m29.h.n.getD 4 0=C.h.n.getD 4 0:=(by subst hx2;exact cg Xz);clear hx2;generalize hx3:(if aL.length=0 then m29.put src p else m29.put (eY aL+16) p)=m3;have v:m3.b.length=m29.b.length/\m3.c=m29.c/\m3.ai=m29.ai/\m3.aC=m29.aC/\m3.main=m29.main/\m3.h=m29.h:=by
      subst hx3;split
      · exact⟨gM _ _ _,q,q,q,q,q⟩
      · exact⟨gM _ _ _,q,q,q,q,q⟩
    clear hx3;have t:=gM m3 (eY (aL ++ [p])+24+8*(n-B)) ij;have P:=ki m3 (eY (aL ++ [p])+24+8*(n-B)) ij;generalize m3.put (eY (aL ++ [p])+24+8*(n-B)) ij=m4 at *;obtain⟨M,N,d,O,f⟩:=U;obtain⟨ab,g,i,S,l,j⟩:=v;obtain⟨s,u,E,F,a,_⟩:=P;have ad:=congrArg List.length M;have ae:m4.b.length=m.b.length+(16+(8+8*cB (aL.length:Int))+7)/8*8:=(by omega);refine⟨by omega,by omega,by rw[s,g,N,K],by rw[u,i,d,V],by rw[E,S,O,W],by rw[F,l,f,L],⟨fun k x D=>?_,?_,?_⟩,by simp,by rw[a,j];omega,by rw[a,j];omega,by rw[a,j];omega⟩
    · rcases Nat.lt_or_ge k aL.length with hk|hk
      · rw[List.getElem?_append_left hk]at D
        have:=R k x D;omega
      have J:=(List.getElem?_eq_some_iff.1 D).1;simp at J;have:k=aL.length:=(by omega);subst this;rw[List.getElem?_append_right (Nat.le_refl _)]at D;simp at D;subst D;omega
    · rw[e];simp only;omega
    rw[e];simp only;omega
  rename_i hn;have t:=gM m (eY aL+24+8*(n-A)) ij;have P:=ki m (eY aL+24+8*(n-A)) ij;generalize m.put (eY aL+24+8*(n-A)) ij=m4 at *;obtain⟨s,u,E,F,a,_⟩:=P;show aaH m m4 aL n;refine⟨by omega,by omega,s,u,E,F,⟨fun k x D=>by have:=R k x D;omega,by rw[hq];simp only;omega,by rw[hq];simp only;omega⟩,?_,by rw[a],by rw[a],by rw[a]⟩;rintro rfl;simp[eK]at hq;omega
def Mk.n8 (m:Mk):Nat:=m.h.n.getD 8 0
def NF (m:Mk) (cK:Nat):Prop:=∀k∈m.ai,jk m.b.length k.aL (k.aZ-1)/\(k.aZ=0->k.aL=[])/\k.bI.length<=400/\k.aZ<=cK
structure xX (m:Mk):Prop where
  fit:m.fit
  main:jk m.b.length m.main m.n8
  chains:NF m (16*m.n8)
  nd:m.ai.length<=16*m.n8
  nf:m.aC.length<=16*m.n8
  nb:64*m.n8<=m.b.length
  small:m.b.length<=40000
  cK:m.c.cK<=40000
  hd:272<=m.b.length
structure jS (m0 m:Mk) (d e:Nat) (j:Nat):Prop where
  fit:m.fit
  c:m.c=m0.c
  n8:m.n8=m0.n8
  chains:NF m (16*m0.n8+j)
  nd:m.ai.length<=m0.ai.length+d
  nf:m.aC.length<=m0.aC.length+d
  ge:m0.b.length<=m.b.length
  le:m.b.length<=m0.b.length+e
theorem XV {m:Mk} (h:xX m):jS m m 0 0 0:=⟨h.fit,q,q,h.chains,Nat.le_refl _,Nat.le_refl _,Nat.le_refl _,Nat.le_refl _⟩
theorem GW {m:Mk} {x:Pr} (y:aK) (h:y∈(m.data x).2.ai):y∈m.ai\/y.bI=ay x:=by
  unfold Mk.data at h;split at h
  · exact .inl h
  simp only at h;have F:=dn m<|ej {bZ:=cu m.c.bL m.c.bE (ay x),bF:=0,cH:=0,entry:=0,array:=0,aZ:=0,ay:=ay x};generalize m.bJ (ej {bZ:=cu m.c.bL m.c.bE (ay x),bF:=0,cH:=0,entry:=0,array:=0,aZ:=0,ay:=ay x})=r at *;obtain⟨p,B⟩:=r;simp only at h F;have G:=gA B B.ai (B.aT 2) p<|cu m.c.bL m.c.bE (ay x)%B.c.aj;generalize B.hang B.ai (B.aT 2) p (cu m.c.bL m.c.bE (ay x)%B.c.aj)=r at *;obtain⟨n,C⟩:=r;simp only at h G;generalize hx5:({(C.bD 19<|max (C.aT 19) n).bD 15 (((C.bD 19<|max (C.aT 19) n).aT 15+1)%18446744073709551616)with ai:=((C.bD 19<|max (C.aT 19) n).bD 15<|((C.bD 19<|max (C.aT 19) n).aT 15+1)%18446744073709551616).ai ++ [({bI:=ay x,pos:=p,bn:=cu m.c.bL m.c.bE (ay x)%B.c.aj,aZ:=0,aL:=[]}:aK)]}:Mk)=m5 at h;have I:m5.ai=C.ai ++ [({bI:=ay x,pos:=p,bn:=cu m.c.bL m.c.bE (ay x)%B.c.aj,aZ:=0,aL:=[]}:aK)]:=by subst hx5;rfl
  clear hx5;have H:(m5.field x.name).2.ai=m5.ai:=by
    unfold Mk.field;split
    · rfl
    · simp only
      have D:=dn m5<|dD {bZ:=cu m5.c.bL m5.c.bE x.name,bF:=0,dat:=0,ay:=x.name};generalize m5.bJ (dD {bZ:=cu m5.c.bL m5.c.bE x.name,bF:=0,dat:=0,ay:=x.name})=r at *;obtain⟨q,A⟩:=r;simp only at D ⊢;have E:=gA A A.aC (A.aT 4) q<|cu m5.c.bL m5.c.bE x.name%A.c.ak;generalize A.hang A.aC (A.aT 4) q (cu m5.c.bL m5.c.bE x.name%A.c.ak)=r at *;obtain⟨M,L⟩:=r;simp only at E ⊢;show L.ai=m5.ai;rw[E.2.1,D.2.1]
  generalize m5.field x.name=r at *;obtain⟨k,A⟩:=r;simp only at h H;have J:=(ki A (p+32) (mA A.b (k+32:Nat) 8).1).2.1;have K:=(ki (A.put (p+32) (mA A.b (k+32:Nat) 8).1) (k+32) p).2.1;rw[K,J,H,I,List.mem_append,List.mem_singleton,G.2.1,F.2.1]at h
  rcases h with h|rfl
  · exact .inl h
  exact .inr rfl
theorem BS {b m:Mk} {d e j:Nat} {x:Pr} (h:jS b m d e j) (v:x.name.length<=64/\x.value.length<=256):jS b (m.data x).2 (d+1) (e+900) j/\(m.data x).1<(m.data x).2.ai.length/\(m.data x).2.main=m.main:=by
  have g:=tZ m x h.fit;have G:=fun y=>GW (m:=m) (x:=x) y;have u:=ga x;generalize m.data x=r at *;obtain⟨k,H⟩:=r;simp only at g G ⊢;have D:=g.ge;have q:=g.le;have s:=h.ge;have P:=h.le;have Q:=h.nd;have R:=h.nf;have t:=g.fl;have T:H.ai.length<=m.ai.length+1:=by rcases g.pre with e|⟨x,e,_⟩ <;> rw[e] <;> simp
  refine⟨⟨g.fit,g.c.trans h.c,(show H.h.n.getD 8 0=b.n8 from g.n8.trans h.n8),fun y a=>?_,by omega,by omega,by omega,by omega⟩,g.lt,g.main⟩;have f:y∈m.ai\/(y.aZ=0/\y.aL=[]):=by
    rcases g.pre with e|⟨x,e,C,B,_⟩
    · rw[e]at a;exact .inl a
    · rw[e,List.mem_append,List.mem_singleton]at a
      rcases a with a|rfl
      · exact .inl a
      · exact .inr ⟨C,B⟩
  rcases f with E|⟨C,B⟩
  · obtain⟨i,l,o,p⟩:=h.chains y E
    exact⟨oQ i D,l,o,p⟩
  refine⟨by rw[C,B];exact chain_nil _,fun _=>B,?_,by omega⟩
  rcases G y a with E|J
  · exact(h.chains y E).2.2.1
  rw[J];omega
theorem BW {f m m':Mk} {d e e' j j':Nat} (h:jS f m d e j) (a:m'.c=m.c) (p:m'.n8=m.n8) (l:m'.h.n.getD 2 0=m.h.n.getD 2 0) (o:m'.h.n.getD 4 0=m.h.n.getD 4 0) (hd:m'.ai=m.ai) (hf:m'.aC=m.aC)
    (hg:m.b.length<=m'.b.length) (hl:m'.b.length<=m.b.length+e') (hj:j<=j'):jS f m' d (e+e') j':=by
  have:=h.ge;have:=h.le;refine⟨oU h.fit ⟨by rw[a],by rw[a],l,o,hg⟩ (fun k hk=>.inl<|hd ▸ hk)<|fun k hk=>.inl<|hf ▸ hk,a.trans h.c,p.trans h.n8,fun k hk=>?_,by rw[hd];exact h.nd,by rw[hf];exact h.nf,by omega,by omega⟩;rw[hd]at hk;obtain⟨g,i,C,D⟩:=h.chains k hk;exact⟨oQ g hg,i,C,by omega⟩
theorem BV {c m:Mk} {d e j L:Nat} {o:Ly} (h:jS c m d e j) (f:o.length<=L):jS c (m.bJ o).2 d (e+L) j:=by
  have a:=eW m o;have b:=dn m o;have C:(m.bJ o).2.h.n.getD 8 0=m.h.n.getD 8 0:=by simp only[Mk.bJ,Mk.bD];rw[au Xz,au Xz]
  exact BW h b.1 C a.2.2.2.2.2.2.1 a.2.2.2.2.2.2.2 b.2.1 b.2.2.1 (by rw[a.2.1];omega) (by rw[a.2.1];omega)<|Nat.le_refl _
theorem KD {a m:Mk} {d e j:Nat} (p v:Nat) (h:jS a m d e j):jS a (m.put p v) d e j :=
  BW (e':=0) h q q q q q q (by rw[gM];exact Nat.le_refl _) (by rw[gM];exact Nat.le_refl _)<|Nat.le_refl _
theorem BU {a m:Mk} {d e j n src ij:Nat} {aL:List Nat} (h:jS a m d e j) (f:jk m.b.length aL n):jS a (m.link aL n src ij).2.2 d (e+2100) j:=by have g:=wU m aL n src ij f;exact BW h g.c g.n8 g.n2 g.n4 g.ai g.aC g.ge g.le<|Nat.le_refl _
theorem UU {f m:Mk} {d e j i:Nat} {k:aK} (h:jS f m d e j) (hi:i<m.ai.length) (p:k.pos=(m.ai.getD i known0).pos) (o:k.bI=(m.ai.getD i known0).bI)
    (hk:jk m.b.length k.aL (k.aZ-1)/\(k.aZ=0->k.aL=[])/\k.aZ<=16*f.n8+(j+1)):jS f {m with ai:=m.ai.set i k} d e (j+1):=by
  have C:m.ai[i]? = some (m.ai.getD i known0):=by simp[List.getD,hi]
  have g:=List.mem_of_getElem? C;refine⟨oU h.fit ⟨q,q,q,q,Nat.le_refl _⟩ (fun y a=>?_)<|fun y a=>.inl a,h.c,h.n8,fun y a=>?_,by simpa using h.nd,h.nf,h.ge,h.le⟩
  · rcases List.mem_or_eq_of_mem_set a with a|rfl
    · exact .inl a
    right;have:=h.fit.2.2.2.2.2.2.1 _ g;simp only;omega
  rcases List.mem_or_eq_of_mem_set a with a|rfl
  · obtain⟨D,l,n,G⟩:=h.chains y a;exact⟨D,l,n,by omega⟩
  exact⟨hk.1,hk.2.1,by rw[o];exact(h.chains _ g).2.2.1,hk.2.2⟩
def gO (e:Nat) (i:Nat) (m:Mk):Mk :=
  let k:=m.ai.getD i known0
  if k.aZ=0 then
    let m29:=(m.put (k.pos+40) e).put (k.pos+56) 1
    {m29 with ai:=m29.ai.set i {k with aZ:=1}}
  else
    match m.link k.aL (k.aZ-1) (k.pos+48) e with
    | (a,_,m1) =>
      let m29:=m1.put (k.pos+56)<|k.aZ+1
      {m29 with ai:=m29.ai.set i {k with aL:=a,aZ:=k.aZ+1}}
theorem jW (e i:Nat) (r:List Nat) (m:Mk):iL e (i :: r) m=iL e r (gO e i m):=by
  unfold gO;rw[iL];simp only;split
  · rfl
  rfl
theorem NW {q m:Mk} {d e j i en:Nat} (h:jS q m d e j) (hi:i<m.ai.length):jS q (gO en i m) d (e+2100) (j+1)/\(gO en i m).main=m.main/\(gO en i m).ai.length=m.ai.length:=by
  have s:m.ai[i]? = some (m.ai.getD i known0):=by simp[List.getD,hi]
  have u:=List.mem_of_getElem? s;obtain⟨o,v,x,P⟩:=h.chains _ u;unfold gO;simp only;generalize hk:m.ai.getD i known0=k at *;split
  · rename_i h0
    have g:=KD (k.pos+56) 1<|KD (k.pos+40) en h;have p:=ki m (k.pos+40) en;have D:=ki (m.put (k.pos+40) en) (k.pos+56) 1;have H:((m.put (k.pos+40) en).put (k.pos+56) 1).b.length=m.b.length:=(by rw[gM,gM]);generalize m.put (k.pos+40) en=C at *;generalize C.put (k.pos+56) 1=m29 at *;have f:m29.ai=m.ai:=D.2.1.trans p.2.1;have a:=UU (i:=i) (k:={k with aZ:=1}) g (by rw[f];exact hi) (by rw[f,hk]) (by rw[f,hk]) ⟨by simp only;rw[v h0];exact chain_nil _,fun n=>by simp at n,by simp only;omega⟩;refine⟨⟨a.fit,a.c,a.n8,a.chains,a.nd,a.nf,a.ge,lv a.le Xx⟩,D.2.2.2.1.trans p.2.2.2.1,by simp[f]⟩
  rename_i h0;have g:=BU (src:=k.pos+48) (ij:=en) h o;have l:=wU m k.aL (k.aZ-1) (k.pos+48) en o;generalize m.link k.aL (k.aZ-1) (k.pos+48) en=r at *;obtain⟨w,Q,C⟩:=r;simp only at g l ⊢;have t:=KD (k.pos+56) (k.aZ+1) g;have D:=ki C (k.pos+56)<|k.aZ+1;have H:=gM C (k.pos+56)<|k.aZ+1;generalize C.put (k.pos+56) (k.aZ+1)=m29 at *;have f:m29.ai=m.ai:=D.2.1.trans l.ai;have G:=l.chain;rw[show k.aZ-1+1=k.aZ by omega,<- H]at G;have a:=UU (i:=i) (k:={k with aL:=w,aZ:=k.aZ+1}) t (by rw[f];exact hi) (by rw[f,hk]) (by rw[f,hk]) ⟨G,fun n=>by simp at n,by simp only;omega⟩;exact⟨a,D.2.2.2.1.trans l.main,by simp[f]⟩
theorem DG {c:Mk} {d en:Nat}:∀(a:List Nat) (m:Mk) (e j:Nat),jS c m d e j->(∀i∈a,i<m.ai.length) ->
    jS c (iL en a m) d (e+2100*a.length) (j+a.length)/\(iL en a m).main=m.main/\(iL en a m).ai.length=m.ai.length
  | [],m,e,j,h,_=>⟨h,q,q⟩
  | i :: r,m,e,j,h,hi=>by
    obtain⟨o,p,b⟩:=NW (en:=en) h<|hi i Oj;obtain⟨k,l,n⟩:=DG r (gO en i m) (e+2100) (j+1) o fun x s=>by rw[b];exact hi x (by simp[s])
    rw[jW];refine⟨?_,l.trans p,n.trans b⟩;have g:e+2100*(i :: r).length=e+2100+2100*r.length:=(by simp;omega);have f:j+(i :: r).length=j+1+r.length:=(by simp;omega);rw[g,f];exact k
def BD (q:Pr):Prop:=q.name.length<=64/\q.value.length<=256
theorem QI:∀(n j:Nat) (o:List Pr),(∀q∈o,BD q)->∀q∈kO n j o,BD q
  | 0,_,_,h=>h
  | n+1,j,o,h=>by
    unfold kO;refine QI n (j-1) _ fun q a=>?_
    rcases List.mem_or_eq_of_mem_set a with a|rfl
    · exact h q a
    · rw[List.getD_eq_getElem?_getD]
      cases hg:o[j-1]? with
      | none=>exact⟨by simp,by simp⟩
      | some y=>exact h y<|List.mem_of_getElem? hg
theorem ahI {p:Pr} {o:List Pr} (c:BD p) (h:∀q∈o,BD q):∀q∈AA p o,BD q:=by
  unfold AA;simp only;split
  · exact h
  intro q b
  rcases List.mem_or_eq_of_mem_set b with b|rfl
  · refine QI _ _ _ (fun y a=>?_) q b
    rcases List.mem_append.1 a with a|a
    · exact h y a
    simp at a;subst a;exact⟨by simp,by simp⟩
  exact c
theorem abT:∀(l o:List Pr),(∀q∈o,BD q)->∀(x:List Pr) (c:Nat),KU l o=(x,c)->(∀q∈x,BD q)/\x.length<=16
  | [],o,ho,x,c,h=>by
    unfold KU at h;split at h
    · obtain⟨rfl,_⟩:=Prod.mk.inj h;simp
    · obtain⟨rfl,_⟩:=Prod.mk.inj h;exact⟨ho,by omega⟩
  | p :: r,o,ho,x,c,h=>by
    unfold KU at h;split at h
    · obtain⟨rfl,_⟩:=Prod.mk.inj h;simp
    · rename_i h1
      have a:=jX.1<|Classical.not_not.1 h1;simp only[right,Pr.pb,Bool.and_eq_true]at a;exact abT r _ (ahI ⟨(fH a.1).2,dq a.2⟩ ho) x c h
theorem oV {l x:List Pr} {c:Nat} (h:jN l=(x,c)):(∀q∈x,BD q)/\x.length<=16:=by
  unfold jN at h;split at h
  · obtain⟨rfl,_⟩:=Prod.mk.inj h;simp
  exact abT l [] Oj x c h
theorem IW {ds:List aK} {k i:Nat} {a:List Nat} (h:i∈jK ds k a):i=k\/i∈a:=by
  unfold jK at h;simp only[List.mem_append,List.mem_singleton]at h
  rcases h with(h|h)|h
  · exact .inr<|List.mem_of_mem_take h
  · exact .inl h
  exact .inr<|List.mem_of_mem_drop h
theorem CB (ds:List aK) (p:Nat) (a:List Nat):∀n,kT ds p a n<=n
  | 0=>Nat.le_refl _
  | n+1=>by
    unfold kT;split
    · have:=CB ds p a n;omega
    · exact Nat.le_refl _
theorem ZQ (ds:List aK) (k:Nat) (a:List Nat):(jK ds k a).length=a.length+1:=by have:=CB ds (fR ds k) a a.length;unfold jK;simp;omega
structure oh (m0 m:Mk) (ps:List (List UInt8)) (od:List Nat) (n:Nat):Prop where
  app:jS m0 m n (900*n) 0
  main:m.main=m0.main
  idx:∀i∈od,i<m.ai.length
  len:od.length=n/\ps.length=n
  ps:∀t∈ps,t.length<=400
theorem vD {c m:Mk} {ps:List (List UInt8)} {d:List Nat} {n:Nat} {x:Pr} (h:oh c m ps d n) (j:BD x) :
    oh c (m.data x).2 (ps ++ [((m.data x).2.ai.getD (m.data x).1 known0).bI]) (jK (m.data x).2.ai (m.data x).1 d) (n+1):=by
  obtain⟨C,D,g⟩:=BS h.app j;have G:=tZ m x h.app.fit;refine⟨by rw[show 900*(n+1)=900*n+900 by omega];exact C,g.trans h.main,fun i b=>?_,⟨by rw[ZQ,h.len.1],by simpa using h.len.2⟩,fun t a=>?_⟩
  · rcases IW b with rfl|b
    · exact D
    have:=h.idx i b;have H:m.ai.length<=(m.data x).2.ai.length:=(by rcases G.pre with e|⟨y,e,_⟩ <;> rw[e] <;> simp);omega
  rcases List.mem_append.1 a with a|a
  · exact h.ps t a
  simp at a;subst a;have f:(m.data x).2.ai[(m.data x).1]? = some ((m.data x).2.ai.getD (m.data x).1 known0):=by simp[List.getD,D]
  exact(C.chains _<|List.mem_of_getElem? f).2.2.1
theorem oG {b:Mk}:∀(l:List Pr) (m:Mk) (ps:List (List UInt8)) (a:List Nat) (n:Nat),oh b m ps a n->(∀q∈l,BD q) ->
    oh b (eN l m ps a).2.2 (eN l m ps a).1 (eN l m ps a).2.1 (n+l.length)
  | [],m,ps,a,n,h,_=>h
  | x :: r,m,ps,a,n,h,hb=>by have c:=vD h<|hb x Oj;have d:=oG r _ _ _ _ c fun q e=>hb q (by simp[e]);rw[show n+(x :: r).length=n+1+r.length by simp;omega];exact d
theorem jT {m:Mk} (h:xX m):oh m m [] [] 0:=⟨XV h,q,by simp,⟨q,q⟩,by simp⟩
section
variable {P:Program} {ops:Array Oper} {md:Region.Mode} {C:World->Prop} {Q:Exit->Act->World->Prop} {QN:Act->World->Prop}
variable {n:Nat} {A:Fr n} {D:List Deferred} {l:List (Nat × Value)} {w:World} {f:Nat} {listed:Array Bool}
theorem CI {R:Act->World->Prop} {id:Nat} {lo:List Oper} {a:Act} (C:World->Prop) (d:P.follows .mixedOrders=true) (hk:∀c b,R c b->Q .normal c b)
  (h:∀b,Md [] w b->kR P .any lo.toArray C R lo.length (Array.replicate lo.length false) a b):(Code.region id lo.toArray true).wp P Q a w:=by
 refine wp_region_any d<|mY (C:=C) (QN:=R) hk _ _ _ _ ?_;have:=h _<|Md.drew w;simpa using this
theorem sH {a:Act} (b:(Region.ready md ops listed).isEmpty=true) (h:QN a w):kR P md ops C QN 0 listed a w:=⟨by simpa using b,h⟩
theorem gu {i d:Nat} {c:Op} {ty:TypeId} {ps:String} {af:Array Edge} (v:Value) (hi:ops[i]? = some ⟨some d,c,ty,ps,af,none⟩) (hs:Region.noSelect ops=true) (b:((Region.ready md ops listed).contains i && Region.free md ops listed i)=true) (g:C w)
    (hv:∀a,C a->cw P ⟨some d,c,ty,ps,af,none⟩ (aN A D l).eval a v) (k:kR P md ops C QN f (listed.setIfInBounds i true) (aN A D ((d,v) :: l)) w):kR P md ops C QN (f+1) listed (aN A D l) w:=by
  simp only[Bool.and_eq_true]at b;exact rP hi (Region.noSelect_spec hs) f listed _ w (Region.free_spec hi b.2) (by simpa using b.1) g (.inl ⟨by simp[Region.wanted],fun a e=>hv a e⟩) k
theorem TL {i:Nat} {o:Oper} {a:Act} {j:Act->World->Prop} (hi:ops[i]? = some o) (m:o.guard=none) (h:wpList P ops (fun g l e=>g = .normal/\C e/\j l e) [o] a w):opC P ops C i j a w:=by
  have D:Region.wanted o (yielded ops a.tmps)=true:=by unfold Region.wanted;rw[m]
  unfold opC;simp only[hi];rw[if_pos D];unfold wpList at h;rw[if_pos D]at h
  rcases h with h|h
  · unfold Oper.wp at *
    generalize (execOp a.eval o).run P w=r at *;cases r with
    | ok x e =>
      cases x <;> simp only[Oper.upon]at h ⊢
      case value v=>exact(show _/\_ from h).2
      case skip=>exact(show _/\_ from h).2
      case defer d=>exact(show _/\_ from h).2
      case enter f args =>
        refine h.mono fun g k b=>?_;cases g with
        | returned v=>exact(show _/\_ from b).2
        | panicked c=>exact absurd b.1 Oj
        | outgrown=>obtain⟨_,_,b⟩:=b;exact absurd b.1 Oj
      case row r args=>exact h.mono fun v k b=>(show _/\_ from b).2
    | halt x e =>
      cases x <;> simp only[Oper.upon]at h ⊢
      exact absurd h.1 Oj
  obtain⟨_,_,_,b⟩:=h;exact absurd b.1 Oj
theorem iF {i:Nat} {o:Oper} {a:Act} (b:decide (Region.ready md ops listed=[i])=true) (hi:ops[i]? = some o) (j:o.guard=none)
    (h:wpList P ops (fun g e d=>g = .normal/\C d/\kR P md ops C QN f (listed.setIfInBounds i true) e d) [o] a w):kR P md ops C QN (f+1) listed a w:=by
  have b:=dq b;refine⟨fun c=>(by rw[b]at c;cases c),fun k hk=>?_⟩;rw[b]at hk;have:k=i:=by simpa using hk
  subst this;exact TL hi j h
theorem GI {i j:Nat} {o g:Oper} {a:Act} (c:decide (Region.ready md ops listed=[i,j])=true) (hi:ops[i]? = some o) (m:o.guard=none) (p:ops[j]? = some g) (n:g.guard=none)
    (h:wpList P ops (fun e d b=>e = .normal/\C b/\kR P md ops C QN f (listed.setIfInBounds i true) d b) [o] a w)
    (h':wpList P ops (fun e d b=>e = .normal/\C b/\kR P md ops C QN f (listed.setIfInBounds j true) d b) [g] a w):kR P md ops C QN (f+1) listed a w:=by
  have c:=dq c;refine⟨fun l=>(by rw[c]at l;cases l),fun k hk=>?_⟩;rw[c]at hk;have:k=i\/k=j:=by simpa using hk
  rcases this with rfl|rfl
  · exact TL hi m h
  exact TL p n h'
end
theorem VI {a:Type} {f:a->Value} {h1:∀x,(f x).oneCell'=true} {ok:a->Prop} {w d:World} {R b:Nat->Prop}:∀{xs:List a} {cs:List Value},qi (qg f h1 ok) w R cs xs->qi (qg f h1 ok) d b cs xs
 | [],_,h=>h
 | _ :: _,_,⟨c,r,h0,h1,h2⟩=>⟨c,r,h0,h1,VI h2⟩
theorem SX {a:Type} {f:a->Value} {h1:∀x,(f x).oneCell'=true} {ok:a->Prop} {w b:World} {R j:Nat->Prop} {v:Value} {xs:List a} (h:Lz (qg f h1 ok) w R v xs) (m:Md [] w b):Lz (qg f h1 ok) b j v xs:=by obtain⟨k,c,d,C,h1,D,e,g,G⟩:=h;exact⟨k,c,d,C,h1,D,e,fun p i l n H=>m.cell (g p i l n H) Oj,VI G⟩
theorem SZ {a:Type} {f:a->Value} {h1:∀x,(f x).oneCell'=true} {ok:a->Prop} {w:World} {R:Nat->Prop} {b e:Nat} {x:a} (h:bK w b [f x] e) (d:ok x):Lz (qg f h1 ok) w R (.slice (some ⟨b,0,none⟩) 1 1) [x]:=by have c:Ls (qg f h1 ok) w (fun _=>True) (.slice (some ⟨b,0,none⟩) 1 1) [x]:=Ls.cL (cs:=[f x]) h ⟨[f x],[],q,⟨q,d⟩,q⟩ q Xz trivial;exact SX c.lz<|Md.refl _ _
structure p9 {α:Type} (T:Dt α) (w0:World) (Q0:Nat->Prop) (e:TypeId) (w:World) (R:Nat->Prop) (v:Value) (xs:List α):Prop where
  md:Md [] w0 w
  s:∀b,Q0 b->b<w0.heap.size->R b
  t:∀b,R b->Q0 b
  up:Up w R
  ow:Ow T e (aX [] w0) w R v xs
section
variable {α:Type} {T:Dt α} {P:Program} {ops:Array Oper} {Q:Exit->Act->World->Prop} {n:Nat} {A:Fr n} {D:List Deferred} {l:List (Nat × Value)} {w:World} {rest:List Oper}
theorem p9.mk0 {a c w:World} {d:Nat->Prop} {e b:Nat} (n:Up a d) (h1:Md [] a c) (f:c.heap.size<=b) (j:b<w.heap.size) (g:Md [] c w) (l:bK w b [] e) :
    ∃R,p9 T a d e w R (.slice (some ⟨b,0,none⟩) 0 0) []:=by
  obtain⟨R,s,t,C,m⟩:=oI (n.md h1) f j g;exact⟨R,h1.k g,fun b h i=>s b h<|ly i h1.size,t,m,Ow.cL l q q Xz (.inr<|lv h1.size f) C⟩
theorem p9.o {c w b:World} {a R:Nat->Prop} {e:TypeId} {v:Value} {xs:List α} (h:p9 T c a e w R v xs) (m:Md [] w b):p9 T c a e b R v xs :=
  ⟨h.md.k m,h.s,h.t,h.up.md m,h.ow.o m⟩
instance al8 {w0 w w':World} {Q0 R:Nat->Prop} {e:TypeId} {v:Value} {xs:List α}:Tp w w' (p9 T w0 Q0 e w R v xs) (p9 T w0 Q0 e w' R v xs ):=⟨fun m h=>h.o m⟩
theorem rJ {d:Nat} {x y:Operand} {ty:TypeId} {ps:String} {af:Array Edge} {t e:TypeId} {sz i:Nat} {v u:Value} {xs ys:List α} {j:World} {h R:Nat->Prop} (q:T.n=sz) (r:P.underlying t=some (.slice e)) (p:vF P e sz i=true) (z:ev n l x=some v) (B:ev n l y=some u)
    (F:p9 T j h e w R v xs) (hY:Lz T w R u ys) (h63:xs.length+ys.length<=100000) (hb:i<=1000)
    (k:∀c a f,p9 T j h e a f c (xs ++ ys)->Md (ah v).toList w a->wpList P ops Q rest (aN A D ((d,c) :: l)) a) :
    wpList P ops Q (⟨some d,.call {callee:=.builtin .append,args:=#[x,y],argTypes:=#[t,t]},ty,ps,af,none⟩ :: rest) (aN A D l) w:=by
  refine qd q r p z B F.ow hY F.up (fun b hb=>.inr<|lv F.md.size hb) Xx ?_ ?_
  · exact lv (Nat.mul_le_mul h63 hb) Xz
  intro c a f m G H o g E I J;refine k c a f ⟨F.md.cE g fun b hb=>(F.ow.2 b hb).1,Sx m F.s F.md.size,fun b hb=>F.t b<|G b hb,H,o⟩ g
end
theorem ag2 {ds:List aK} {p q:Nat} {a:List Nat} (h:0<q):kT ds p a q=if p<fR ds (a.getD (q-1) 0)then kT ds p a (q-1)else q:=by obtain⟨n,rfl⟩:∃n,q=n+1:=⟨q-1,by omega⟩;rfl
theorem aiK {ds:List aK} {p q:Nat} {a:List Nat} (h:¬0<q):kT ds p a q=q:=by
  obtain rfl:q=0:=by omega
  rfl
theorem oM {ds:List aK} {i:Nat} {x:aK} (h:ds[i]? = some x):fR ds i=x.pos:=by simp[fR,List.getD,h]
theorem xe {l:List Nat} {i x:Nat} (h:l[i]? = some x):l.getD i 0=x:=by simp[List.getD,h]
theorem qC {ds:List aK} {i:Nat} {x:aK} (h:ds[i]? = some x):ds.getD i known0=x:=by simp[List.getD,h]
theorem YC (m:Mk) (x:Pr) (h:m.fit):m.ai.length<=(m.data x).2.ai.length:=by rcases(tZ m x h).pre with e|⟨y,e,_⟩ <;> rw[e] <;> simp
theorem CO {l:List Pr} {m:Mk} {ps:List (List UInt8)} {a:List Nat} {i:Nat} (h:¬i<l.length):eN (l.drop i) m ps a=(ps,a,m):=by rw[gN Xx];rfl
theorem NM {l:List Pr} {m m':Mk} {ps:List (List UInt8)} {a:List Nat} {i k:Nat} {x:Pr} {y:aK} {q:Nat} (h:l[i]? = some x) (hd:m.data x=(k,m')) (c:m'.ai[k]? = some y) (b:kT m'.ai (fR m'.ai k) a a.length=q) :
    eN (l.drop i) m ps a=eN (l.drop<|i+1) m' (ps ++ [y.bI]) (a.take q ++ [k] ++ a.drop q):=by
  rw[fP h];show(match m.data x with|(k,m1)=>eN (l.drop<|i+1) m1 (ps ++ [(m1.ai.getD k known0).bI])<|jK m1.ai k a)=_;rw[hd];simp only[qC c];unfold jK;rw[b]
theorem RV {b m m':Mk} {ps:List (List UInt8)} {a:List Nat} {n k q:Nat} {x:Pr} {y:aK} (h:oh b m ps a n) (d:BD x) (hd:m.data x=(k,m')) (e:m'.ai[k]? = some y) (c:kT m'.ai (fR m'.ai k) a a.length=q) :
    oh b m' (ps ++ [y.bI]) (a.take q ++ [k] ++ a.drop q) (n+1):=by
  have:=vD h d;rw[hd]at this;simp only[qC e]at this;unfold jK at this;rw[c]at this;exact this
theorem DL {m:Mk} {b:List Nat} {j:Nat} {a:List eG} (h:¬j<b.length):a ++ dG m (b.drop j)=a:=by rw[gN Xx];simp[dG]
theorem NY {m:Mk} {a:List Nat} {j i:Nat} {d:List eG} {x:aK} (h:a[j]? = some i) (b:m.ai[i]? = some x) :
    d ++ dG m (a.drop j)=(d ++ [{pos:=x.pos,bZ:=cu m.c.bL m.c.bE x.bI}]) ++ dG m (a.drop<|j+1):=by
  rw[fP h];simp only[dG,List.map_cons,oM b,qC b,List.append_assoc,List.singleton_append]
theorem HG {m:Mk} {a:List Nat} {j e:Nat} (h:¬j<a.length):iL e (a.drop j) m=m:=by rw[gN Xx];rfl
theorem SE {m:Mk} {a:List Nat} {j i e:Nat} (h:a[j]? = some i):iL e (a.drop j) m=iL e (a.drop<|j+1) (gO e i m):=by rw[fP h,jW]
theorem aaW {a m:Mk} {d e e' j:Nat} (h:jS a m d e j) (b:e<=e'):jS a m d e' j:=⟨h.fit,h.c,h.n8,h.chains,h.nd,h.nf,h.ge,lv h.le Xx⟩
theorem afq {m:Mk} {e i:Nat} {k:aK} (hk:m.ai[i]? = some k) (a:k.aZ=0) :
    gO e i m={(m.put (k.pos+40) e).put (k.pos+56) 1 with ai:=m.ai.set i {k with aZ:=1}}:=by
  unfold gO;simp only[qC hk];rw[if_pos a];rfl
theorem afr {m b:Mk} {e i t:Nat} {a:List Nat} {k:aK} (hk:m.ai[i]? = some k) (c:¬k.aZ=0) (hl:m.link k.aL (k.aZ-1) (k.pos+48) e=(a,t,b)) :
    gO e i m={b.put (k.pos+56) (k.aZ+1)with ai:=b.ai.set i {k with aL:=a,aZ:=k.aZ+1}}:=by
  unfold gO;simp only[qC hk];rw[if_neg c,hl];rfl
theorem iU {m x d g z:Mk} {raw l:List Pr} {c aY mono e t:Nat} {aR:Ly} {ps:List (List UInt8)} {f a:List Nat} (h1:jN raw=(l,c)) (n:¬c≠0) (o:¬m.aT 9=18446744073709551615) (p:eN l m [] []=(ps,f,x))
    (h5:x.bJ (bT {seq:=(x.aT 9+1)%18446744073709551616,aY:=aY,mono:=mono,aR:=aR,xor:=lH 0 ps,bg:=dG x f})=(e,d)) (h6:d.link d.main (d.aT 8) 176 e=(a,t,g))
    (h7:iL e f (let i:=({g with main:=a}:Mk).bD 11<|a.getD 0 0;{i with h:={i.h with bP:=eY a%4294967296,bR:=t%4294967296}})=z) :
    m.append raw aY mono aR=if z.c.cK<z.b.length then(0,15,m)else
      (let seq:=(x.aT 9+1)%18446744073709551616
      let j:=if d.aT 8=0 then(z.bD 10 seq).bD 12 aY else z
      let q:=j.bD 8 ((j.aT 8+1)%18446744073709551616)
      let k:=((q.bD 9 seq).bD 13 aY).bD 14 mono
      (seq,0,{k with h:={k.h with aR:=aR,cF:=e}})):=by
  unfold Mk.append;simp only[h1];rw[if_neg n,if_neg o];simp only[p,h5,h6];simp only at h7;rw[h7]
end Go.Wk
namespace Go.Wk
open Go Go.Op
theorem KL:∀a:List UInt8,bytesLess a a=false
  | []=>rfl
  | x :: a=>by simp[bytesLess,KL a]
theorem qn:∀{a b c:Ly},bytesLess a b=true->bytesLess b c=true->bytesLess a c=true
  | _,[],_,h,_=>by unfold bytesLess at h;cases h
  | _,_ :: _,[],_,h=>by unfold bytesLess at h;cases h
  | [],_ :: _,_ :: _,_,_=>rfl
  | x :: a,y :: b,z :: c,h1,h2=>by
    simp only[bytesLess,Bool.or_eq_true,decide_eq_true_eq,Bool.and_eq_true,beq_iff_eq]at *
    rcases h1 with h1|⟨rfl,h1⟩<;>rcases h2 with h2|⟨rfl,h2⟩
    · exact .inl<|UInt8.lt_trans h1 h2
    · exact .inl h1
    · exact .inl h2
    · exact .inr ⟨q,qn h1 h2⟩
theorem aeV {a b:Ly} (h:bytesLess a b=true):bytesLess b a=false:=by
  cases h2:bytesLess b a with
  | false=>rfl
  | true=>have:=qn h h2;rw[KL]at this;cases this
theorem CF:∀{a b:Ly},bytesLess a b=false->bytesLess b a=false->a=b
  | [],[],_,_=>rfl
  | [],_ :: _,h,_=>by unfold bytesLess at h;cases h
  | _ :: _,[],_,h=>by unfold bytesLess at h;cases h
  | x :: a,y :: b,h1,h2=>by
    simp only[bytesLess,Bool.or_eq_false_iff,decide_eq_false_iff_not,Bool.and_eq_false_iff,beq_eq_false_iff_ne]at *;have e:x=y:=(by have c:=h1.1;have d:=h2.1;exact UInt8.le_antisymm (UInt8.not_lt.1 d)<|UInt8.not_lt.1 c);subst e;have c:=h1.2.resolve_left Oj;have d:=h2.2.resolve_left Oj;rw[CF c d]
theorem JR {p q:sE} (c:right p=true) (d:right q=true) (h:whole p=whole q):p=q:=by have a:=(pQ<|(nu p).2 c).2;have b:=(pQ<|(nu q).2 d).2;rw[<- a,h,b]
theorem JE {p:sE} (h:right p=true):p.1.length<=64/\p.2.length<=256:=by simp only[right,Bool.and_eq_true,decide_eq_true_eq]at h;exact⟨(fH h.1).2,h.2⟩
end Go.Wk
namespace Go.Wk
open Go Go.RowKit
section
variable {P:Program} {n:Nat} {A:Fr n} {D:List Deferred} {l:List (Nat × Value)} {w:World} {d:Option Tmp} {ty:TypeId} {ps:String} {af:Array Edge} {g:Option (Nat × Bool)}
theorem afK {x y:Operand} {t f u:TypeId} {p q:Pr} (a:pairT P t f=true) (hf:P.underlying f=some .string) (b:ev n l x=some (.agg (Pr.cells p).toArray)) (c:ev n l y=some (.agg (Pr.cells q).toArray)) :
    cw P ⟨d,.binOp .neq t x y u,ty,ps,af,g⟩ (aN A D l).eval w (.bool<|!decide (p.pb=q.pb)):=aik (p:=p.pb) (q:=q.pb) a hf b c
end
theorem t7 {p q:Pr}:p.pb=q.pb↔p=q:=by cases p;cases q;simp[Pr.pb]
structure Gr (w w':World):Prop where
  md:Md [] w w'
  dr:w.drawn<=w'.drawn
theorem Gr.refl (w:World):Gr w w:=⟨Md.refl [] w,Nat.le_refl _⟩
theorem Gr.k {a b c:World} (h:Gr a b) (k:Gr b c):Gr a c:=⟨h.md.k k.md,lv h.dr k.dr⟩
theorem Gr.grown {w a:World} (h:Gr w a):∃q os,a=Go.Sort.grow (w.drewN q) os:=by
  refine⟨a.drawn-w.drawn,a.heap.extract w.heap.size a.heap.size,?_⟩;have d:a.heap=w.heap ++ a.heap.extract w.heap.size a.heap.size:=by
    apply Array.ext_getElem?;intro k
    rcases Nat.lt_or_ge k w.heap.size with hk|hk
    · rw[Array.getElem?_append_left hk];exact h.md.block k hk Oj
    · rw[Array.getElem?_append_right hk,Array.getElem?_extract]
      have:=h.md.size;split
      · congr 1;omega
      · rw[Array.getElem?_eq_none Xx]
  have D:=h.dr;have b:=h.md.os;have c:=h.md.tape;have C:=h.md.output;cases a;cases w;simp only[Go.Sort.grow,World.drewN]at *;subst b c C;simp only[World.mk.injEq,and_true,true_and];exact⟨d,by omega⟩
section
variable {P:Program} {ops:Array Oper} {Q:Exit->Act->World->Prop} {rest:List Oper}
variable {n:Nat} {A:Fr n} {D:List Deferred} {l:List (Nat × Value)} {w:World}
variable {d:Tmp} {op:Op} {ty:TypeId} {ps:String} {af:Array Edge} {g:Option (Nat × Bool)}
theorem xQ {t:TypeId} {x:Operand} {v:Value} {cs:List Value} (f:ev n l x=some v) (e:v.cells=cs.toArray)
    (k:∀b a,w.heap.size<=b->b<a.heap.size->Gr w a->bK a b cs t->wpList P ops Q rest (aN A D ((d,.pointer (some ⟨b,0,none⟩)) :: l)) a) :
    wpList P ops Q (⟨some d,.box t x,ty,ps,af,none⟩ :: rest) (aN A D l) w:=by
  refine gI q ?_;have c:(execOp (aN A D l).eval ⟨some d,.box t x,ty,ps,af,none⟩).run P w = .ok (.value<|.pointer<|some ⟨w.heap.size,0,none⟩) (w.alloc<|.cells cs.toArray t):=by simp[execOp,Instr.box,newVar,newRow,bM f,e]
  unfold Oper.wp;rw[c];exact k _ _ (Nat.le_refl _) Oj ⟨Md.alloc w _,Nat.le_refl _⟩<|bK.new w cs t
theorem ahx {id:Nat} {lo:List Oper} {a:Act} {w:World} (b:List (Nat × Bool)) (C:World->Prop) (i:P.follows .mixedOrders=true) (d:W9 .any lo.toArray b=true)
    (h:∀c,Gr w c->C c/\eF P lo.toArray C (fun a w=>Q .normal a w) (qa lo b) a c):(Code.region id lo.toArray true).wp P Q a w:=by
  simp only[W9,Bool.and_eq_true,decide_eq_true_eq]at d;obtain⟨⟨e,D⟩,f⟩:=d;obtain⟨g,hk⟩:=h _ ⟨Md.drew w,Nat.le_succ _⟩;refine wp_region_any i<|mY (C:=C) (QN:=fun a w=>Q .normal a w) (fun _ _ G=>G) _ _ _ _ ?_;have:=jI (md:=.any) (C:=C) (QN:=fun a w=>Q .normal a w) e b _ a _ g f hk
  rwa [D]at this
theorem aer {x:Operand} {t e:TypeId} {b o m c:Nat} {cs zs:List Value} (B:P.underlying t=some (.slice e)) (a:dX P e=some zs) (h1:∀d∈zs,d.oneCell'=true) (E:ev n l x=some (.slice (some ⟨b,o,none⟩) m c)) (F:0<m)
    (hB:bK w b cs e) (hj:o+m*zs.length<=cs.length) (k:∀j us,Md [b] w j->us.length=m*zs.length->bK j b (dZ cs o us) e->wpList P ops Q rest (aN A D l) j) :
    wpList P ops Q (⟨none,.call {callee:=.builtin .clear,args:=#[x],argTypes:=#[t]},ty,ps,af,none⟩ :: rest) (aN A D l) w:=by
  refine gI q ?_;unfold dX at a;split at a
  · rename_i i hi
    split at a
    · rename_i z hzz
      simp only[Option.some.injEq]at a;subst a;have p:(Builtin.zeroCells z.cells m).toList.length=m*z.cells.toList.length:=(by simp[Builtin.zeroCells]);have y:∀d∈(Builtin.zeroCells z.cells m).toList,d.oneCell'=true:=by
        intro d r;simp only[Builtin.zeroCells,Array.toList_map,List.mem_map]at r;obtain⟨g,u,rfl⟩:=r;have G:g<m*z.cells.size:=(by simpa using u);have v:0<z.cells.size:=by
          rcases Nat.eq_zero_or_pos z.cells.size with h|h
          · rw[h]at G;omega
          · exact h
        have H:=Nat.mod_lt g v;rw[getElem!_pos z.cells (g%z.cells.size) H];exact h1 _ Oj
      have C:=run_storeCells_at P b o e (Builtin.zeroCells z.cells m).toList 0 cs.toArray w hB (by simp only[p];simpa using hj) y;obtain⟨f,rfl⟩:∃f,m=f+1:=⟨m-1,by omega⟩;have s:(execOp (aN A D l).eval ⟨none,.call {callee:=.builtin .clear,args:=#[x],argTypes:=#[t]},ty,ps,af,none⟩).run P w = .ok (.value<|.tuple #[]) (w.setRow b (dZ cs o (Builtin.zeroCells z.cells<|f+1).toList).toArray):=(by simp[execOp,resolve,invoke,builtin,bM E,Builtin.clear_,run_underlying B,zeroValue,typeInfo,hi,hzz,dZ]at C ⊢;simp[C]);unfold Oper.wp;rw[s];exact k _ _ (Md.setRow w b _) p hB.setRow
    cases a
  cases a
end
section
variable {P:Program} {n:Nat} {A:Fr n} {D:List Deferred} {l:List (Nat × Value)} {w:World} {d:Option Tmp} {ty:TypeId} {ps:String} {af:Array Edge} {g:Option (Nat × Bool)}
theorem LX {x:Operand} {t u e:TypeId} {a:Option Addr} {m c:Nat} (i:ev n l x=some (.slice a m c)) (f:P.underlying t=some (.slice e)) :
    cw P ⟨d,.binOp .eql t x (.const<|.slice none 0 0) u,ty,ps,af,g⟩ (aN A D l).eval w (.bool a.isNone):=by
  have h:=Go.Lib.run_eql_slice_nil (P:=P) w t e a m c 0 0 f;have b:(aN A D l).eval (.const<|.slice none 0 0) = .slice none 0 0:=rfl;have C:(eqGuard .eql t x (.const<|.slice none 0 0) (.slice a m c)<|.slice none 0 0).run P w = .ok () w:=by unfold eqGuard;simp
  simp[cw,execOp,bM i,b,C,h]
end
def Rw (w:World) (b cap:Nat) (xs:List Pr):Prop :=
  ∃cur,bK w b cur 91/\cur.length=cap*2/\xs.length<=cap/\cur.take (xs.length*2)=xs.flatMap Pr.cells
theorem abG (xs:List Pr):(xs.flatMap Pr.cells).length=xs.length*2:=by
  induction xs with
  | nil=>rfl
  | cons x r ih=>simp[List.flatMap_cons,ih,Pr.cells];omega
theorem flat_get {xs:List Pr} {i j:Nat} {x:Pr} {u:Value} (h:xs[i]? = some x) (k:(Pr.cells x)[j]? = some u):(xs.flatMap Pr.cells)[i*2+j]? = some u:=by
  induction xs generalizing i with
  | nil=>simp at h
  | cons y r ih =>
    cases i with
    | zero =>
      simp at h;subst h;rw[List.flatMap_cons,Nat.zero_mul,Nat.zero_add,List.getElem?_append_left (List.getElem?_eq_some_iff.1 k).1];exact k
    | succ i =>
      rw[List.flatMap_cons,show(i+1)*2+j=2+(i*2+j)by omega,List.getElem?_append_right (by simp[Pr.cells])];have:=ih (i:=i) (by simpa using h);simpa [Pr.cells]using this
theorem abH (xs:List Pr) (i:Nat) (z:Pr) (h:i<xs.length):(xs.set i z).flatMap Pr.cells=dZ (xs.flatMap Pr.cells) (i*2) (Pr.cells z):=by
  induction xs generalizing i with
  | nil=>simp at h
  | cons y r ih =>
    cases i with
    | zero=>simp[dZ,List.flatMap_cons,Pr.cells]
    | succ i =>
      have:=ih i (by simpa using h);rw[List.set_cons_succ,List.flatMap_cons,this,List.flatMap_cons];have e:(i+1)*2=i*2+1+1:=(by omega);have A:(i+1)*2+2=i*2+2+1+1:=(by omega);simp only[dZ,Pr.cells,List.cons_append,List.nil_append,e,A,List.take_succ_cons,List.drop_succ_cons,List.length_cons,List.length_nil]
theorem YQ (xs:List Pr) (k:Nat):(xs.flatMap Pr.cells).take (k*2)=(xs.take k).flatMap Pr.cells:=by
  induction xs generalizing k with
  | nil=>simp
  | cons y r ih =>
    cases k with
    | zero=>simp
    | succ k =>
      rw[List.take_succ_cons,List.flatMap_cons,List.flatMap_cons,<- ih,show(k+1)*2=k*2+1+1 by omega];simp[Pr.cells]
section
variable {w w':World} {b cap:Nat} {xs:List Pr}
theorem Rw.md {S:List Nat} (h:Rw w b cap xs) (m:Md S w w') (hs:b∉S):Rw w' b cap xs:=by obtain⟨A,B,C,D,E⟩:=h;exact⟨A,B.md m hs,C,D,E⟩
theorem Rw.o (h:Rw w b cap xs) (m:Md [] w w'):Rw w' b cap xs:=h.md m Oj
instance ams:Tp w w' (Rw w b cap xs) (Rw w' b cap xs):=⟨fun m h=>h.o m⟩
theorem Rw.at_ {i k o n c:Nat} {x:Pr} (h:Rw w b cap xs) (hi:xs[i]? = some x) (e:o+k=i*2):At w (.slice (some ⟨b,o,none⟩) n c) k (Pr.cells x):=by
  obtain⟨C,D,I,J,E⟩:=h;refine⟨_,_,_,q,fun j u B=>?_⟩;have A:=flat_get hi B;have G:=(List.getElem?_eq_some_iff.1 B).1;have F:=(List.getElem?_eq_some_iff.1 hi).1;have H:j<2:=by simpa [Pr.cells]using G
  rw[Addr.jj,D.cell,<- Nat.add_assoc,e];rw[<- E,List.getElem?_take,if_pos Xx]at A;exact A
theorem Rw.into (h:Rw w b cap xs) {i:Nat} {z:Pr} (hi:i<xs.length):∃a,bK w b a 91/\i*2+(Pr.cells z).length<=a.length/\∀d,bK d b (dZ a (i*2)<|Pr.cells z) 91->Rw d b cap (xs.set i z):=by
  obtain⟨a,e,C,D,f⟩:=h;have c:(Pr.cells z).length=2:=rfl;refine⟨a,e,by rw[c];omega,fun d g=>⟨_,g,?_,by simpa using D,?_⟩⟩
  · rw[mW (by rw[c];omega),C]
  rw[abH _ _ _ hi,<- f,List.length_set];unfold dZ;rw[c,List.take_append,List.take_of_length_le (by simp[Pr.cells];omega),List.take_take,Nat.min_eq_left Xx,List.drop_take];congr 2;simp[Pr.cells];omega
theorem Rw.clear (h:Rw w b cap xs) {i m:Nat} (hi:i<=xs.length) (k:i+m<=cap):∃a,bK w b a 91/\i*2+m*2<=a.length/\∀d c,c.length=m*2->bK d b (dZ a (i*2) c) 91->Rw d b cap (xs.take i):=by
  obtain⟨a,e,f,j,C⟩:=h;refine⟨a,e,by omega,fun d c g D=>⟨_,D,?_,by simp;omega,?_⟩⟩
  · rw[mW (by rw[g];omega),f]
  rw[<- YQ,<- C,List.take_take,List.length_take];unfold dZ;rw[List.append_assoc,List.take_append_of_le_length Xh,List.take_take];congr 1;omega
theorem Ow.rw_ {lo:Nat->Prop} {Q:Nat->Prop} {v:Value} (h:Ow mq 91 lo w Q v xs) (g:0<xs.length):∃b cap,v = .slice (some ⟨b,0,none⟩) xs.length cap/\cap<=maxLen/\Rw w b cap xs/\lo b/\¬Q b:=by
  obtain⟨⟨j,a,C⟩,D⟩:=h;obtain⟨b,cap,i,rfl,f,d,e,G,H⟩:=a.blk g;refine⟨b,cap,q,e,⟨i,f,G,d,?_⟩,D b q⟩;rw[show xs.length*2=xs.length*mq.n from rfl,H];clear a D f d e G H g
  induction xs generalizing j with
  | nil=>exact C
  | cons x r ih =>
    obtain⟨c,s,rfl,k,l⟩:=C;obtain⟨_,rfl⟩:=kP k;rw[List.flatMap_cons,ih _ l]
theorem ah5 {Q:Nat->Prop} (xs:List Pr):qi mq w Q (xs.flatMap Pr.cells) xs:=by
  induction xs with
  | nil=>rfl
  | cons x r ih=>exact⟨_,_,by rw[List.flatMap_cons],zu,ih⟩
theorem Rw.ow {lo:Nat->Prop} {Q:Nat->Prop} (h:Rw w b cap xs) (e:cap<=maxLen) (hl:lo b) (f:¬Q b):Ow mq 91 lo w Q (.slice (some ⟨b,0,none⟩) xs.length cap) xs:=by obtain⟨g,C,D,c,d⟩:=h;refine⟨⟨xs.flatMap Pr.cells,?_,ah5 xs⟩,fun G a=>by simp[ah]at a;subst a;exact⟨hl,f⟩⟩;have:=Own.cL (sz:=2) (m:=xs.length) C c e D;rw[d]at this;exact this
end
def KO (p:Pr):List Pr->List Pr
  | []=>[]
  | q :: r=>if q.pb=p.pb then KO q r else q :: KO q r
def iu:List Pr->List Pr
  | []=>[]
  | p :: r=>p :: KO p r
theorem abp {p:Pr} {l:List Pr} {i:Nat} (h:¬i<l.length):KO p (l.drop i)=[]:=by rw[gN Xx];rfl
theorem VG {p q:Pr} {l:List Pr} {i:Nat} (h:l[i]? = some q):KO p (l.drop i)=if q.pb=p.pb then KO q (l.drop<|i+1)else q :: KO q (l.drop<|i+1):=by rw[fP h];rfl
theorem ahz (p:Pr) (l:List Pr):(KO p l).length<=l.length:=by
  induction l generalizing p with
  | nil=>simp[KO]
  | cons q r ih =>
    unfold KO;have:=ih q;split <;> simp <;> omega
theorem NJ (l:List Pr):(iu l).length<=l.length:=by
  cases l with
  | nil=>simp[iu]
  | cons p r=>have:=ahz p r;simp[iu];omega
theorem FU {l:List Pr} (h:l.length<2):iu l=l:=by
  match l,h with
  | [],_=>rfl
  | [_],_=>rfl
  | _ :: _ :: _,h=>simp at h;omega
theorem FV {l:List Pr} (h:1<=l.length):l.take 1 ++ KO (l.getD (1-1) {name:=[],value:=[]}) (l.drop 1)=iu l:=by
  cases l with
  | nil=>simp at h
  | cons p r=>rfl
theorem GD {l:List Pr} {j:Nat} {s:Pr} (h:j<l.length):(l.set j s).take (j+1)=l.take j ++ [s]:=by rw[List.take_add_one,List.getElem?_set_self h,List.take_set_of_le (Nat.le_refl _)];rfl
theorem JM {b n cap i:Nat} (h:i<cap):rK 2 (.slice (some ⟨b,0,none⟩) n cap) i n = .slice (some ⟨b,i*2,none⟩) (n-i) (cap-i):=by
  have:¬cap=i:=by omega
  simp[rK,this,Addr.jj]
theorem aaw {b n cap j:Nat} (h:0<cap):rK 2 (.slice (some ⟨b,0,none⟩) n cap) 0 j = .slice (some ⟨b,0,none⟩) j cap:=by
  have:¬cap=0:=by omega
  simp[rK,this,Addr.jj]
theorem aei {v:Nat} {x:UInt8} (h:v<72057594037927936):v*2 ^ 8%18446744073709551616 ||| x.toNat=x.toNat+256*v:=by have A:=UInt8.toNat_lt x;rw[Nat.mod_eq_of_lt Xx,Nat.mul_comm,<- Nat.two_pow_add_eq_or_of_lt (by simpa using A)];omega
theorem afn {l:Ly} {a k:Nat} (hk:k=4\/k=8) (h:a+k<=l.length):mA l a k=(wT ((l.drop a).take k),true):=by unfold mA;rw[if_pos ⟨by rw[eL];omega,by omega,by omega⟩];simp
def at4 (l:Ly) (a:Nat):Nat:=wT<|(l.drop a).take 4
def d8 (l:Ly) (a:Nat):Nat:=wT<|(l.drop a).take 8
theorem RJ (l:Ly) (a:Nat):d8 l a<18446744073709551616:=yC (k:=8) Xh
section
variable {P:Program} {ops:Array Oper} {Q:Exit->Act->World->Prop} {rest:List Oper}
variable {n:Nat} {A:Fr n} {D:List Deferred} {l:List (Nat × Value)} {w:World}
variable {d:Tmp} {op:Op} {ty:TypeId} {ps:String} {af:Array Edge} {g:Option (Nat × Bool)}
end
def ptrs (b o sz:Nat) (n:Nat):List Value:=(List.range n).map fun k=>.pointer<|some ⟨b,o+k*sz,none⟩
theorem PY {b o sz n k:Nat} (h:k<n):(ptrs b o sz n)[k]? = some (.pointer<|some ⟨b,o+k*sz,none⟩):=by simp[ptrs,h]
def andNot (a b:Nat):Nat:=(BitVec.ofNat 32 a &&& ~~~(BitVec.ofNat 32 b)).toNat
section
variable {P:Program} {n:Nat} {A:Fr n} {D:List Deferred} {l:List (Nat × Value)} {w:World} {d:Option Tmp} {ty:TypeId} {ps:String} {af:Array Edge} {g:Option (Nat × Bool)}
end
def zS:List UInt8:=[76,80,75,83,72,72,82,72]
section
variable {α:Type} {T:Dt α} {ty:TypeId} {w w':World} {Q Q':Nat->Prop} {v:Value} {ox:Option α}
variable {P:Program} {n:Nat} {A:Fr n} {D:List Deferred} {l:List (Nat × Value)} {d:Option Tmp} {ty2:TypeId} {ps:String} {af:Array Edge} {g:Option (Nat × Bool)}
end
theorem sY:∀(n v i:Nat),i<n->(low v n)[i]? = some (UInt8.ofNat<|v/2 ^ (8*i))
  | n+1,v,0,_=>by simp only[low,List.getElem?_cons_zero,Nat.mul_zero,Nat.pow_zero,Nat.div_one,Option.some.injEq];apply UInt8.toNat.inj;simp
  | n+1,v,i+1,h=>by simp only[low,List.getElem?_cons_succ];rw[sY n (v/256) i Xx,Nat.div_div_eq_div_mul,show 256*2 ^ (8*i)=2 ^ (8*(i+1))by rw[Nat.mul_add,Nat.pow_add,Nat.mul_comm]]
theorem acu (v i:Nat):low v i ++ [UInt8.ofNat (v/2 ^ (8*i))]=low v (i+1):=by
  apply List.ext_getElem?;intro j
  by_cases h:j<i
  · rw[List.getElem?_append_left (by rw[eM];exact h),sY i v j h,sY (i+1) v j Xx]
  by_cases h2:j=i
  · subst h2
    rw[List.getElem?_append_right (by rw[eM];omega),eM,Nat.sub_self,sY (j+1) v j Xx];rfl
  rw[List.getElem?_eq_none (by simp[eM];omega),List.getElem?_eq_none (by rw[eM];omega)]
def JX (b:Ly) (n v:Nat):List UInt8:=if n=1\/n=2\/n=4\/n=8 then b ++ low v n else b
theorem FE {n:Nat} {r:Bool} (h:mU (n:Int)=r):(r=true↔n=1\/n=2\/n=4\/n=8):=by rw[<- h,eL];omega
def rE (h:d9):List UInt8:=zS ++ (low h.eS 4 ++ (low h.cr 4 ++ ([UInt8.ofNat h.state,0,0,0,0,0,0,0] ++ (h.bE ++ (h.bO ++ (h.aR ++ (h.seq ++ (nums h.n ++ (low h.bP 4 ++ (low h.bR 4 ++ low h.cF 8))))))))))
theorem JY (b:Ly) (v:Nat):JX b 4 v=b ++ low v 4:=by unfold JX;rw[if_pos Xx]
theorem nO (b:Ly) (v:Nat):JX b 8 v=b ++ low v 8:=by unfold JX;rw[if_pos Xx]
theorem EX {h:d9} (ok:d9.ok h):(rE h).length=272:=by obtain⟨_,_,_,A,B,C,D,⟨E,_⟩,_,_,_⟩:=ok;have:zS.length=8:=rfl;simp only[rE,List.length_append,eM,cP,this,A,B,C,D,E,List.length_cons,List.length_nil]
theorem HX (a b:List Nat):nums (a ++ b)=nums a ++ nums b:=by
  induction a with
  | nil=>rfl
  | cons x r ih=>rw[List.cons_append,nums,ih,nums,List.append_assoc]
section
variable {α:Type} {T:Dt α} {P:Program} {ops:Array Oper} {Q:Exit->Act->World->Prop} {n:Nat} {A:Fr n} {D:List Deferred} {l:List (Nat × Value)} {w:World} {rest:List Oper}
theorem aep {d:Nat} {x y:Operand} {ty:TypeId} {ps:String} {af:Array Edge} {t e:TypeId} {sz i:Nat} {v u:Value} {xs ys:List α} {j:World} {h R:Nat->Prop} (r:T.n=sz) (z:P.underlying t=some (.slice e)) (q:vF P e sz i=true) (B:ev n l x=some v) (E:ev n l y=some u)
    (F:p9 T j h e w R v xs) (hY:Lz T w R u ys) (h63:xs.length+ys.length<=100000) (hb:i<=1000)
    (k:∀a c f,p9 T j h e c f a (xs ++ ys)->Md (ah v).toList w c->(∀b,ah a=some b->ah v=some b\/w.heap.size<=b)->wpList P ops Q rest (aN A D ((d,a) :: l)) c) :
    wpList P ops Q (⟨some d,.call {callee:=.builtin .append,args:=#[x,y],argTypes:=#[t,t]},ty,ps,af,none⟩ :: rest) (aN A D l) w:=by
  refine qd r z q B E F.ow hY F.up (fun b hb=>.inr<|lv F.md.size hb) Xx ?_ ?_
  · exact lv (Nat.mul_le_mul h63 hb) Xz
  intro a c f m G H o g I J p;exact k a c f ⟨F.md.cE g fun b hb=>(F.ow.2 b hb).1,Sx m F.s F.md.size,fun b hb=>F.t b<|G b hb,H,o⟩ g p
theorem p9.call {f w a:World} {d R Q':Nat->Prop} {e:TypeId} {v u:Value} {xs ys:List α} (c:p9 T f d e w R v xs) (g:Md [] w a) (kq:iQ w a d Q') (h:Ow T e (aX [] w) a Q' u ys):p9 T f d e a Q' u ys :=
  ⟨c.md.k g,fun b hb hl=>kq.1 b hb<|ly hl c.md.size,kq.2.1,kq.2.2,h.lower<|aX.lift c.md⟩
theorem p9.lsx {c w:World} {a R:Nat->Prop} {e:TypeId} {v:Value} {xs:List α} (b:p9 T c a e w R v xs) (d:Up c a):Ls T w a v xs:=b.ow.ls b.t<|aX.up d
end
theorem afy {w:World} {R:Nat->Prop} {b off:Nat} {cs:List Value} {ty:TypeId} {ys:Ly} (e:bK w b cs ty) (hl:ys.length=16) (f:∀j a,(ys.map b8)[j]? = some a->cs[off+j]? = some a):Lz dh w R (.slice (some ⟨b,off,none⟩) 16 16) ys:=by refine⟨some ⟨b,off,none⟩,16,ys.map b8,by rw[hl],by omega,by decide,fun h=>(by cases h),fun p d j a c=>?_,uc fun _ _=>trivial⟩;cases d;have h:=e.cell (j:=off+j);rw[f j a c]at h;simpa [Addr.jj]using h
def zZ (h:d9):List (List UInt8):=[h.bE,h.bO,h.aR,h.seq]
theorem zB {h:d9} (ok:d9.ok h):d9.cells h=[(.int .u32 h.eS),(.int .u32 h.cr),(.int .i64 h.state)] ++ (h.bE.map b8 ++ (h.bO.map b8 ++ (h.aR.map b8 ++ (h.seq.map b8 ++ (h.n.map (fun x=>.int .u64 x) ++ [(.int .u32 h.bP),(.int .u32 h.bR),(.int .u64 h.cF)]))))):=by obtain⟨F,G,H,A,B,C,D,⟨E,I⟩,_⟩:=ok;unfold d9.cells;rw[jM A,jM B,jM C,jM D,rq E];simp only[List.append_assoc,List.cons_append,List.nil_append]
theorem abX {h:d9} (ok:d9.ok h) {k:Nat} (hk:k<4):∃y,(zZ h)[k]? = some y/\y.length=16/\∀j u,(y.map b8)[j]? = some u->(d9.cells h)[3+k*16+j]? = some u:=by
  have e:=zB ok;obtain⟨L,M,N,F,G,H,I,_⟩:=ok;have D:(h.bE.map b8).length=16:=by simpa using F
  have E:(h.bO.map b8).length=16:=by simpa using G
  have J:(h.aR.map b8).length=16:=by simpa using H
  have K:(h.seq.map b8).length=16:=by simpa using I
  have B:([(.int .u32 h.eS),(.int .u32 h.cr),(.int .i64 h.state)]:List Value).length=3:=rfl;rw[e]
  rcases(show k=0\/k=1\/k=2\/k=3 by omega)with rfl|rfl|rfl|rfl
  · refine⟨h.bE,q,F,fun j u A=>?_⟩
    have C:=(List.getElem?_eq_some_iff.1 A).1;rw[List.getElem?_append_right Xx,B,List.getElem?_append_left Xx,show 3+0*16+j-3=j by omega];exact A
  · refine⟨h.bO,q,G,fun j u A=>?_⟩
    have C:=(List.getElem?_eq_some_iff.1 A).1;rw[List.getElem?_append_right Xx,B,List.getElem?_append_right Xx,D,List.getElem?_append_left Xx,show 3+1*16+j-3-16=j by omega];exact A
  · refine⟨h.aR,q,H,fun j u A=>?_⟩
    have C:=(List.getElem?_eq_some_iff.1 A).1;rw[List.getElem?_append_right Xx,B,List.getElem?_append_right Xx,D,List.getElem?_append_right Xx,E,List.getElem?_append_left Xx,show 3+2*16+j-3-16-16=j by omega];exact A
  refine⟨h.seq,q,I,fun j u A=>?_⟩;have C:=(List.getElem?_eq_some_iff.1 A).1;rw[List.getElem?_append_right Xx,B,List.getElem?_append_right Xx,D,List.getElem?_append_right Xx,E,List.getElem?_append_right Xx,J,List.getElem?_append_left Xx,show 3+3*16+j-3-16-16-16=j by omega];exact A
theorem abY {h:d9} (ok:d9.ok h) {j:Nat} (p:j<21):(d9.cells h)[67+j*1]? = some (.int .u64 ((h.n.getD j 0:Nat):Int))/\h.n.getD j 0<18446744073709551616/\h.n.take (j+1)=h.n.take j ++ [h.n.getD j 0]:=by
  have i:=zB ok;obtain⟨k,l,m,G,H,e,f,⟨o,g⟩,_⟩:=ok;have C:(h.bE.map b8).length=16:=by simpa using G
  have D:(h.bO.map b8).length=16:=by simpa using H
  have c:(h.aR.map b8).length=16:=by simpa using e
  have d:(h.seq.map b8).length=16:=by simpa using f
  have b:([(.int .u32 h.eS),(.int .u32 h.cr),(.int .i64 h.state)]:List Value).length=3:=rfl;have a:h.n[j]? = some (h.n.getD j 0):=by simp[List.getD,List.getElem?_eq_getElem (show j<h.n.length by omega)]
  refine⟨?_,g _<|List.mem_of_getElem? a,?_⟩
  · rw[i,List.getElem?_append_right Xx,b,List.getElem?_append_right Xx,C,List.getElem?_append_right Xx,D,List.getElem?_append_right Xx,c,List.getElem?_append_right Xx,d,List.getElem?_append_left Xh,show 67+j*1-3-16-16-16-16=j by omega,List.getElem?_map,a];rfl
  rw[List.take_add_one,a];rfl
theorem ZH {l:List Nat} {j x:Nat} (h:l.take (j+1)=l.take j ++ [x]):nums (l.take<|j+1)=nums (l.take j) ++ low x 8:=by rw[h,HX];simp[nums]
theorem ace {h:d9} {k:Nat} {y:Ly} (a:(zZ h)[k]? = some y):((zZ h).take<|k+1).flatten=((zZ h).take k).flatten ++ y:=by rw[List.take_add_one,a];simp
theorem aff {h:d9} (ok:d9.ok h) (k:Nat):(((zZ h).take k).flatten).length<=64:=by
  obtain⟨E,F,G,A,B,C,D,_⟩:=ok;have e:(((zZ h).take k).flatten).length+(((zZ h).drop k).flatten).length=64:=by rw[<- List.length_append,<- List.flatten_append,List.take_append_drop];simp[zZ,A,B,C,D]
  omega
theorem abe {s:Nat} (h:s<256):b8 (UInt8.ofNat s) = .int .u8 s:=by show Value.int .u8 (((UInt8.ofNat s).toNat:Nat):Int)=_;rw[UInt8.toNat_ofNat',Nat.mod_eq_of_lt Xx]
theorem aeQ (a:Nat) (h:a<18446744073709551616):(BitVec.ofNat 64 a &&& ~~~(BitVec.ofNat 64 7)).toNat=a/8*8:=by
  have e:(BitVec.ofNat 64 a &&& ~~~(BitVec.ofNat 64 7))=((BitVec.ofNat 64 a) >>> 3) <<< 3:=by
    apply BitVec.eq_of_getLsbD_eq;intro i A;have B:Nat.testBit 7 i=decide (i<3):=Nat.testBit_two_pow_sub_one (n:=3) (i:=i);simp only[BitVec.getLsbD_and,BitVec.getLsbD_not,BitVec.getLsbD_shiftLeft,BitVec.getLsbD_ushiftRight,BitVec.getLsbD_ofNat,B,A,decide_true,Bool.true_and]
    by_cases h3:i<3
    · simp[h3]
    · simp[h3,show 3+(i-3)=i by omega,A]
  rw[e,BitVec.toNat_shiftLeft,BitVec.toNat_ushiftRight,BitVec.toNat_ofNat,Nat.shiftLeft_eq,Nat.shiftRight_eq_div_pow,Nat.mod_eq_of_lt h];exact Nat.mod_eq_of_lt Xx
theorem aks {P:Program} {n:Nat} {A:Fr n} {D:List Deferred} {l:List (Nat × Value)} {w:World} {d:Option Tmp} {ty:TypeId} {ps:String} {af:Array Edge} {g:Option (Nat × Bool)} {x y:Operand} {t u:TypeId} {a:Nat} (c:ev n l x=some (.int .u64 (a:Int))) (e:ev n l y=some (.int .u64<|((7:Nat):Int))) (h:a<18446744073709551616) :
    cw P ⟨d,.binOp .andNot t x y u,ty,ps,af,g⟩ (aN A D l).eval w (.int .u64 ((a/8*8:Nat):Int)):=(adO c e).jf (by
  have b:=aeQ a h;unfold bits;simp only[BitVec.ofInt_natCast];exact(wrapN .u64 _ (show(BitVec.ofNat 64 a &&& ~~~(BitVec.ofNat 64 7)).toNat<18446744073709551616 by rw[b];omega)).trans<|congrArg (fun z:Nat=>(z:Int)) b)
structure bw where
  b:List UInt8
  h:d9
def bw.cells (x:bw) (v0:Value):List Value :=
  [v0] ++ ((d9.cells x.h))
def qP:Dt bw:=sw (fun x=>(x.b,x.h))<|fC (FI dh) UG
def bw.ok (x:bw):Prop:=d9.ok x.h
theorem pS {w:World} {Q:Nat->Prop} {cs:List Value} {x:bw} (h:qP.nN w Q cs x):∃a,cs=x.cells a/\bw.ok x/\Ls dh w Q a x.b:=by obtain⟨_,_,rfl,⟨a,rfl,d⟩,C⟩:=h;obtain⟨_,rfl,c⟩:=aaz C;exact⟨a,q,c,d⟩
theorem xR {w:World} {Q:Nat->Prop} {x:bw} {a:Value} (c0:bw.ok x) (c1:Ls dh w Q a x.b):qP.nN w Q (x.cells a) x :=
  ⟨_,_,q,⟨_,q,c1⟩,(aay c0)⟩
structure ja where
  bn:Nat
  found:Nat
  last:Nat
  many:Nat
def ja.cells (x:ja):List Value :=
  [(.int .u64 x.bn)] ++ ([(.int .u64 x.found)] ++ ([(.int .u64 x.last)] ++ ([(.int .u64 x.many)])))
def ja.ok (x:ja):Prop:=x.bn<18446744073709551616/\x.found<18446744073709551616/\x.last<18446744073709551616/\x.many<18446744073709551616
theorem ja.one {x:ja}:(x.cells).all (fun u=>u.oneCell')=true:=cQ q<|cQ q<|cQ q q
theorem Ls.ahg {c:Type} {T:Dt c} {w a:World} {Q Q':Nat->Prop} {S:List Nat} {v:Value} {xs:List c} (h:Ls T w Q v xs) (m:Md S w a) (hs:∀b∈S,¬Q b) (s:∀b,Q b->b<w.heap.size->Q' b):Ls T a Q' v xs :=
  ((h.sub (Q':=fun b=>Q b/\b<w.heap.size) fun b hb hl=>⟨hb,hl⟩).md m fun b hb d=>hs b hb d.1).sub fun b hb _=>s b hb.1 hb.2
theorem afF {k n:Nat} {b x:Ly} (h:1<=k/\k<=7) (a:JX ([UInt8.ofNat k] ++ List.replicate 7 0) 8 (16+b.length)=x) (al:(x.length+b.length+7)/8*8=n) :
    lW k b=x ++ b ++ List.replicate (n-(x ++ b).length) 0:=by
  rw[nO]at a;have c:[UInt8.ofNat k,0,0,0,0,0,0,0] ++ nums [16+b.length]=x:=by rw[<- a];simp[nums,List.replicate]
  unfold lW AG;rw[if_neg Xx,c,show(8-(x ++ b).length%8)%8=n-(x ++ b).length by rw[List.length_append];omega]
theorem IY:∀(n:Nat) (b:Ly) (p v i q:Nat),(AH n b p v i)[q]? = if p+i<=q/\q<p+i+n/\q<b.length then some (UInt8.ofNat<|v/2 ^ (8*(q-p)))else b[q]?
  | 0,b,p,v,i,q=>by rw[if_neg Xx];rfl
  | n+1,b,p,v,i,q=>by
    rw[AH,IY n];simp only[List.length_set]
    by_cases h:p+(i+1)<=q/\q<p+(i+1)+n/\q<b.length
    · rw[if_pos h,if_pos Xx]
    · rw[if_neg h]
      by_cases hq:q=p+i
      · subst hq
        by_cases hl:p+i<b.length
        · rw[if_pos Xx,List.getElem?_set_self hl,show p+i-p=i by omega]
        · rw[if_neg Xx,List.getElem?_eq_none Xh,List.getElem?_eq_none Xx]
      · rw[if_neg Xx,List.getElem?_set_ne Xx]
theorem yX (b:Ly) (p v q:Nat):(gq b p v)[q]? = if p<=q/\q<p+8/\q<b.length then some (UInt8.ofNat<|v/2 ^ (8*(q-p)))else b[q]?:=IY 8 b p v 0 q
theorem QA {b:Ly} {p v:Nat} (h:p+8<=b.length):gq b p v=b.take p ++ low v 8 ++ b.drop (p+(low v 8).length):=by
  have A:(low v 8).length=8:=eM v 8;have B:(b.take p).length=p:=by rw[List.length_take];omega
  rw[A];apply List.ext_getElem?;intro q;rw[yX,List.append_assoc]
  by_cases h1:q<p
  · rw[if_neg Xx,List.getElem?_append_left Xx,List.getElem?_take,if_pos h1]
  rw[List.getElem?_append_right Xx,B]
  by_cases h2:q<p+8
  · rw[if_pos Xx,List.getElem?_append_left Xx,sY 8 v (q-p) Xx]
  rw[if_neg Xx,List.getElem?_append_right Xx,A,List.getElem?_drop];congr 1;omega
def bw.aT (d:bw) (k:Nat):Nat:=d.h.n.getD k 0
def bw.bD (d:bw) (k v:Nat):bw:={d with h:={d.h with n:=d.h.n.set k v}}
def bw.put (d:bw) (p v:Nat):bw:={d with b:=gq d.b p v}
def bw.bZ (d:bw) (t:Ly):Nat:=cu (decide (d.h.cr=4)) d.h.bE t
def bw.add (d:bw) (o:Ly):Nat × bw :=
  let d1:bw:={d with b:=d.b ++ o}
  let d2:=d1.bD 1<|d1.b.length-d1.aT 0
  let d3:=d2.bD 6 d.b.length
  (d.b.length,d3.bD 7 ((d3.aT 7+1)%18446744073709551616))
def nv (b:Ly) (h:Nat) (t:Ly) (k:Nat):Nat->Nat->Nat->Nat->Nat->Nat × Nat × Nat
  | 0,_,f,l,m=>(f,l,m)
  | n+1,a,f,l,m=>if a=0 then(f,l,m)else nv b h t k n (d8 b<|a+24) (if d8 b (a+16)=h/\(b.take<|a+d8 b (a+8)).drop (a+k)=t then a else f) a (m+1)
def okG (b:Ly) (k:Nat):Nat->Nat->Bool
  | 0,a=>decide (a=0)
  | n+1,a=>decide (a=0) || (decide (a+40<=b.length/\k<=d8 b (a+8)/\a+d8 b (a+8)<=b.length) && okG b k n (d8 b<|a+24))
def bw.bn (d:bw) (table size:Nat) (t:Ly):Nat:=table+d.bZ t%(size/16)*16
def bw.look (d:bw) (table size:Nat) (t:Ly) (k:Nat):ja :=
  match nv d.b (d.bZ t) t k d.b.length (d8 d.b<|d.bn table size t) 0 0 0 with
  | (f,l,m)=>{bn:=d.bn table size t,found:=f,last:=l,many:=m}
def bw.okL (d:bw) (table size:Nat) (t:Ly) (k:Nat):Prop :=
  16<=size/\table+size<=d.b.length/\okG d.b k d.b.length (d8 d.b<|d.bn table size t)=true
def bw.join (d:bw) (c:ja) (p:Nat):bw:=(if c.last=0 then d.put c.bn p else d.put (c.last+24) p).put (c.bn+8) p
def bw.name (d:bw) (s:Ly):Nat × bw :=
  let c:=d.look (d.aT 4) (d.aT 5) s 40
  if c.found≠0 then(c.found,d)else
  match d.add (dD {bZ:=d.bZ s,bF:=0,dat:=0,ay:=s})with
  | (p,d1) =>
    let d2:=d1.join c p
    let d3:=d2.bD 16<|(d2.aT 16+1)%18446744073709551616
    (p,d3.bD 20 (max (d3.aT 20) c.many))
def bw.kD (d:bw) (t:Ly):Nat × bw :=
  let c:=d.look (d.aT 2) (d.aT 3) t 64
  match d.add (ej {bZ:=d.bZ t,bF:=0,cH:=0,entry:=0,array:=0,aZ:=0,ay:=t})with
  | (p,d1) =>
    let d2:=d1.join c p
    let d3:=d2.bD 15<|(d2.aT 15+1)%18446744073709551616
    (p,d3.bD 19 (max (d3.aT 19) c.many))
def bw.data (d:bw) (n t:Ly):eG × bw :=
  let c:=d.look (d.aT 2) (d.aT 3) t 64
  if c.found≠0 then({pos:=c.found,bZ:=d.bZ t},d)else
  match d.kD t with
  | (p,d4)=>match d4.name n with
    | (f,d5)=>({pos:=p,bZ:=d.bZ t},(d5.put (p+32)<|d8 d5.b<|f+32).put (f+32) p)
def vA (b:Ly):Nat->Nat->Nat->Nat->Nat × Nat × Nat
  | 0,k,a,n=>(a,n,k)
  | f+1,k,a,n=>if n<cB (k:Int)then(a,n,k)else vA b f (k+1) (d8 b a+16) (n-cB (k:Int))
def TJ (b:Ly):Nat->Nat->Nat->Nat->Bool
  | 0,k,a,n=>decide (n<cB (k:Int)/\a+8<=b.length)
  | f+1,k,a,n=>decide (a+8<=b.length) && (decide (n<cB (k:Int)) || TJ b f (k+1) (d8 b a+16) (n-cB (k:Int)))
def bw.list (d:bw) (a n ij:Nat):Nat × Nat × bw :=
  match vA d.b n 0 a n with
  | (q,r,k) =>
    let d1:=if r=0 then
      match d.add (dw {next:=0,bg:=List.replicate (cB (k:Int)) 0})with
      | (p,d2)=>(d2.bD 18<|(d2.aT 18+1)%18446744073709551616).put q p
      else d
    (d8 d1.b q,r+1,d1.put (d8 d1.b q+24+8*r) ij)
def bw.sW (d:bw) (p x:Nat):bw :=
  let c:=d8 d.b<|x+56
  (if c=0 then d.put (x+40) p else(d.list (x+48) (c-1) p).2.2).put (x+56)<|(c+1)%18446744073709551616
def bw.rW (p:Nat):List eG->bw->bw
  | [],d=>d
  | x :: r,d=>bw.rW p r<|d.sW p x.pos
def bw.sX (d:bw) (a n:Nat):bw :=
  let d1:=d.bD 11<|d8 d.b 176
  let d2:bw:={d1 with h:={d1.h with bP:=a%4294967296}}
  let d3:bw:={d2 with h:={d2.h with bR:=n%4294967296}}
  d3.bD 8<|(d3.aT 8+1)%18446744073709551616
def bw.link (d:bw) (p:Nat) (l:List eG):bw :=
  match d.list 176 (d.aT 8) p with
  | (a,n,d1)=>bw.rW p l<|d1.sX a n
def bw.hput (d:bw):bw:={d with b:=rE d.h ++ d.b.drop 272}
section
variable {P:Program} {ops:Array Oper} {Q:Exit->Act->World->Prop} {rest:List Oper}
variable {n:Nat} {A:Fr n} {D:List Deferred} {l:List (Nat × Value)} {w:World}
variable {d:Tmp} {op:Op} {ty:TypeId} {ps:String} {af:Array Edge} {g:Option (Nat × Bool)}
end
section
variable {P:Program} {ops:Array Oper} {QS:Exit->Act->List Go.Frame->World->Prop} {cs:List Go.Frame} {rest:List Nat}
variable {n:Nat} {A:Fr n} {D:List Deferred} {l:List (Nat × Value)} {w:World}
end
section
variable {P:Program} {n:Nat} {A:Fr n} {l:List (Nat × Value)} {w:World}
end
section
variable {P:Program} {n:Nat} {A:Fr n} {D:List Deferred} {l:List (Nat × Value)} {w:World} {d:Option Tmp} {ty:TypeId} {ps:String} {af:Array Edge} {g:Option (Nat × Bool)}
end
section
variable {P:Program} {n:Nat} {A:Fr n} {D:List Deferred} {l:List (Nat × Value)} {w:World} {ops:Array Oper} {rest:List Oper} {Q:Exit->Act->World->Prop} {d:Tmp} {ty:TypeId} {ps:String} {af:Array Edge} {R R':Nat->Prop}
theorem uP {x y:Operand} {t Y e:TypeId} {lo:Nat->Prop} {i:Nat} {v u:Value} {xs ys:Ly} (S:P.underlying t=some (.slice e)) (O:fW P e 1=true) (U:ev n l x=some (rK 1 v i xs.length)) (X:ev n l y=some u)
    (hO:Ow dh e lo w R v xs) (hS:Ls dh w R' u ys) (h0:0<ys.length) (hfit:i+ys.length<=xs.length)
    (k:∀a,Md (ah v).toList w a->(∀b∈(ah v).toList,¬R b)->Ow dh e lo a R v (xs.take i ++ ys ++ xs.drop (i+ys.length))->wpList P ops Q rest (aN A D ((d,.int .i64 ys.length) :: l)) a) :
    wpList P ops Q (⟨some d,.call {callee:=.builtin .copy,args:=#[x,y],argTypes:=#[t,Y]},ty,ps,af,none⟩ :: rest) (aN A D l) w:=by
  obtain⟨⟨c,J,H⟩,j⟩:=hO;obtain⟨b,C,f,rfl,T,F,I,r,h⟩:=J.blk Xx;obtain⟨rfl,_⟩:=qV H;obtain⟨s,_⟩:=hS.sl;have L:dh.n=1:=rfl;rw[L]at r h;refine MD (g:=b) (o:=i) (dLen:=xs.length-i) (dCap:=C-i) S O (by rw[U];simp[rK,show ¬C=i by omega,Addr.jj]) X T s (fun u M=>by obtain⟨z,_,rfl⟩:=List.mem_map.1 M;rfl) (by rw[List.length_map];omega) fun a W K=>?_;rw[List.length_map,Nat.min_eq_left Xx];have G:=Own.cL (sz:=1) (m:=xs.length) K F I (by rw[mW Xh,r]);have B:(dZ f i<|(ys.map b8).take<|xs.length-i).take (xs.length*1)=(xs.take i ++ ys ++ xs.drop (i+ys.length)).map b8:=by rw[Nat.mul_one]at h ⊢;have E:(ys.map b8).take (xs.length-i)=ys.map b8:=List.take_of_length_le (by rw[List.length_map];omega);have N:(f.take i ++ ys.map b8).length=i+ys.length:=(by rw[List.length_append,List.length_take,List.length_map];omega);rw[E];unfold dZ;rw[List.map_append,List.map_append,List.map_take,List.map_drop,<- h,List.take_append,List.take_of_length_le (by omega:(f.take i ++ ys.map b8).length<=xs.length),N,List.take_take,Nat.min_eq_left (by omega:i<=xs.length),List.drop_take,List.length_map]
  rw[B]at G;have V:(xs.take i ++ ys ++ xs.drop (i+ys.length)).length=xs.length:=by simp;omega
  refine k a (by simpa [ah]using W) (fun Z p=>by simp[ah]at p;subst p;exact(j _ q).2) ⟨⟨_,by rw[V];exact G,uc<|fun _ _=>trivial⟩,j⟩
end
def jr (b:Ly) (p:Nat) (x:Ly):List UInt8 :=
  (b ++ List.replicate (p+x.length-b.length) 0).take p ++ x ++ (b ++ List.replicate (p+x.length-b.length) 0).drop (p+x.length)
theorem aeA {b x:Ly} {p:Nat} (h:p+x.length<=b.length):jr b p x=b.take p ++ x ++ b.drop (p+x.length):=by unfold jr;rw[show p+x.length-b.length=0 by omega];simp
theorem UM {b x:Ly} {p n:Nat} (h:n=p+x.length-b.length):jr b p x=(b ++ List.replicate n 0).take p ++ x ++ (b ++ List.replicate n 0).drop (p+x.length):=by subst h;rfl
section
variable {P:Program} {n:Nat} {A:Fr n} {D:List Deferred} {l:List (Nat × Value)} {w:World} {ops:Array Oper} {rest:List Oper} {Q:Exit->Act->World->Prop} {d:Tmp} {ty:TypeId} {ps:String} {af:Array Edge} {R R':Nat->Prop}
theorem aiu {e:TypeId} {lo:Nat->Prop} {v:Value} {xs:Ly} (d:Ow dh e lo w R v xs) (h:0<xs.length):v=rK 1 v 0 xs.length:=by obtain⟨⟨g,c,C⟩,D⟩:=d;obtain⟨b,a,f,rfl,k,G,H,i,j⟩:=c.blk Xx;simp[rK,show ¬a=0 by omega,Addr.jj]
theorem UC {x y:Operand} {t j e:TypeId} {lo:Nat->Prop} {v u:Value} {xs ys:Ly} (f:P.underlying t=some (.slice e)) (c:fW P e 1=true) (g:ev n l x=some v) (h:ev n l y=some u)
    (hO:Ow dh e lo w R v xs) (hS:Ls dh w R' u ys) (h0:0<ys.length) (hfit:0+ys.length<=xs.length)
    (k:∀a,Md (ah v).toList w a->(∀b∈(ah v).toList,¬R b)->Ow dh e lo a R v (xs.take 0 ++ ys ++ xs.drop (0+ys.length))->wpList P ops Q rest (aN A D ((d,.int .i64 ys.length) :: l)) a) :
    wpList P ops Q (⟨some d,.call {callee:=.builtin .copy,args:=#[x,y],argTypes:=#[t,j]},ty,ps,af,none⟩ :: rest) (aN A D l) w :=
  uP (i:=0) f c (g.trans<|congrArg some<|aiu hO Xx) h hO hS h0 hfit k
end
theorem PN {b:Ly} {k n a:Nat} (h:okG b k n a=true) (c:a≠0):0<n/\(a+40<=b.length/\k<=d8 b (a+8)/\a+d8 b (a+8)<=b.length)/\okG b k (n-1) (d8 b<|a+24)=true:=by
  cases n with
  | zero=>simp[okG,c]at h
  | succ n =>
    simp only[okG,c,decide_false,Bool.false_or,Bool.and_eq_true,decide_eq_true_eq]at h;exact⟨by omega,h.1,h.2⟩
theorem yD {b:Ly} {h:Nat} {t:Ly} {k n f l m:Nat}:nv b h t k n 0 f l m=(f,l,m):=by cases n<;>simp[nv]
theorem oZ {b:Ly} {h:Nat} {t:Ly} {k n a f l m:Nat} (d:0<n) (c:a≠0) :
    nv b h t k n a f l m=nv b h t k (n-1) (d8 b<|a+24) (if d8 b (a+16)=h/\(b.take<|a+d8 b (a+8)).drop (a+k)=t then a else f) a (m+1):=by
  cases n with
  | zero=>omega
  | succ n=>simp[nv,c]
theorem OD {b:Ly} {h:Nat} {t:Ly} {k:Nat}:∀(n a f l m:Nat),okG b k n a=true->(f=0\/f+40<=b.length/\f+k<=b.length)->(l=0\/l+40<=b.length) ->
    ((nv b h t k n a f l m).1=0\/(nv b h t k n a f l m).1+40<=b.length/\(nv b h t k n a f l m).1+k<=b.length)/\((nv b h t k n a f l m).2.1=0\/(nv b h t k n a f l m).2.1+40<=b.length)/\(nv b h t k n a f l m).2.2<=m+n
  | 0,a,f,l,m,_,hf,hl=>⟨hf,hl,Nat.le_refl _⟩
  | n+1,a,f,l,m,ho,hf,hl=>by
    by_cases ha:a=0
    · subst ha;rw[yD];exact⟨hf,hl,by simp only;omega⟩
    · obtain⟨_,c,d⟩:=PN ho ha
      rw[oZ Xx ha];have:=OD (h:=h) (t:=t) (k:=k) n (d8 b<|a+24) (if d8 b (a+16)=h/\(b.take<|a+d8 b (a+8)).drop (a+k)=t then a else f) a (m+1) d (by split;exact .inr ⟨c.1,by omega⟩;exact hf)<|.inr c.1;exact⟨this.1,this.2.1,by have:=this.2.2;simp only[Nat.add_sub_cancel]at this ⊢;omega⟩
theorem look_ok {d:bw} {table size k:Nat} {t:Ly} (h:d.okL table size t k):(d.look table size t k).bn+16<=d.b.length /\
    ((d.look table size t k).found=0\/(d.look table size t k).found+40<=d.b.length/\(d.look table size t k).found+k<=d.b.length)/\((d.look table size t k).last=0\/(d.look table size t k).last+40<=d.b.length)/\(d.look table size t k).many<=d.b.length:=by
  obtain⟨B,C,A⟩:=h;have:=OD (h:=d.bZ t) (t:=t) d.b.length _ 0 0 0 A (.inl q)<|.inl q;have D:d.bZ t%(size/16)<size/16:=Nat.mod_lt _ Xx;refine⟨?_,this.1,this.2.1,by have:=this.2.2;unfold bw.look;simpa using this⟩;show d.bn table size t+16<=_;unfold bw.bn;omega
theorem nI (d:bw) (p v:Nat):(d.put p v).b.length=d.b.length:=dV _ _ _
theorem jC (d:bw) (p v:Nat):(d.put p v).b.length=d.b.length/\(d.put p v).h=d.h:=⟨dV _ _ _,q⟩
theorem KX (d:bw) (c:ja) (p:Nat):(d.join c p).h=d.h/\(d.join c p).b.length=d.b.length:=by unfold bw.join;split <;> exact⟨q,by rw[nI,nI]⟩
theorem k9 {l:List Nat} {i j v:Nat} (h:i≠j):(l.set i v).getD j 0=l.getD j 0:=by simp[List.getD,List.getElem?_set_ne h]
theorem sG (d:bw) (o:Ly):(d.add o).1=d.b.length/\(d.add o).2.b=d.b ++ o/\(d.add o).2.h.bE=d.h.bE/\(d.add o).2.h.cr=d.h.cr/\(d.add o).2.h.n.length=d.h.n.length/\(d.add o).2.h.state=d.h.state/\∀j,j≠1->j≠6->j≠7->(d.add o).2.h.n.getD j 0=d.h.n.getD j 0:=by refine⟨q,q,q,q,by simp[bw.add,bw.bD],q,fun j A B C=>?_⟩;simp only[bw.add,bw.bD];rw[k9 Xx,k9 Xx,k9 Xx]
theorem abq (d:bw) (s:Ly) (h:d.okL (d.aT 4) (d.aT 5) s 40):(d.name s).1+40<=(d.name s).2.b.length/\d.b.length<=(d.name s).2.b.length/\(d.name s).2.b.length<=d.b.length+(47+s.length) /\
    (d.name s).2.h.bE=d.h.bE/\(d.name s).2.h.cr=d.h.cr/\(d.name s).2.h.state=d.h.state/\∀j,j≠1->j≠6->j≠7->j≠16->j≠20->(d.name s).2.h.n.getD j 0=d.h.n.getD j 0:=by
  obtain⟨S,P,T,_⟩:=look_ok h;unfold bw.name;simp only
  by_cases hf:(d.look (d.aT 4) (d.aT 5) s 40).found≠0
  · rw[if_pos hf]
    refine⟨by rcases P with h|h;exact absurd h hf;exact h.1,Nat.le_refl _,by simp only;omega,q,q,q,fun _ _ _ _ _ _=>rfl⟩
  rw[if_neg hf];have C:=sG d<|dD {bZ:=d.bZ s,bF:=0,dat:=0,ay:=s};have Q:(dD {bZ:=d.bZ s,bF:=0,dat:=0,ay:=s}).length=(16+(24+s.length)+7)/8*8:=ng _;generalize d.add (dD {bZ:=d.bZ s,bF:=0,dat:=0,ay:=s})=r at *;obtain⟨p,O⟩:=r;simp only at C ⊢;obtain⟨D,E,F,G,R,I,H⟩:=C;have B:=KX O (d.look (d.aT 4) (d.aT 5) s 40) p;have A:=congrArg List.length E;rw[List.length_append,Q]at A;simp only[bw.bD,B.1];refine⟨by rw[B.2,A,D];omega,by rw[B.2,A];omega,by rw[B.2,A];omega,F,G,I,fun j J M N K L=>?_⟩;rw[k9 Xx,k9 Xx];exact H j J M N
theorem ad8 {b:Ly} {f k a n:Nat} (h:TJ b f k a n=true):a+8<=b.length:=by
  cases f with
  | zero=>simp only[TJ,decide_eq_true_eq]at h;exact h.2
  | succ f=>simp only[TJ,Bool.and_eq_true,decide_eq_true_eq]at h;exact h.1
theorem ad9 {b:Ly} {f k a n:Nat} (h:TJ b f k a n=true) (c:¬n<cB (k:Int)):0<f/\TJ b (f-1) (k+1) (d8 b a+16) (n-cB (k:Int))=true:=by
  cases f with
  | zero=>simp only[TJ,decide_eq_true_eq]at h;exact absurd h.1 c
  | succ f=>simp only[TJ,Bool.and_eq_true,Bool.or_eq_true,decide_eq_true_eq]at h;exact⟨by omega,h.2.resolve_left c⟩
theorem GJ {b:Ly} {f k a n:Nat} (hf:0<f) (c:¬n<cB (k:Int)):vA b f k a n=vA b (f-1) (k+1) (d8 b a+16) (n-cB (k:Int)):=by
  cases f with
  | zero=>omega
  | succ f=>rw[vA,if_neg c];rfl
theorem N3 {b:Ly} {f k a n:Nat} (c:n<cB (k:Int)):vA b f k a n=(a,n,k):=by
  cases f with
  | zero=>rfl
  | succ f=>rw[vA,if_pos c]
theorem aag {k:Int} (h:k<0):cB k=0:=by unfold cB;rw[if_pos h]
theorem aae {k:Int} (h:6<=k):cB k=256:=by
  unfold cB;rw[if_neg Xx]
  by_cases h6:6<k
  · rw[if_pos h6]
  obtain rfl:k=6:=by omega
  decide
theorem aaf {k:Int} (a:0<=k) (h:k<6):cB k=4*2 ^ k.toNat:=by have:=Nat.pow_le_pow_right (n:=2) Xz (show k.toNat<=6 by omega);unfold cB;rw[if_neg Xx,if_neg Xx,Nat.min_eq_left Xx]
theorem O3:∀(n v:Nat),wT (low v n)=v%256 ^ n
  | 0,v=>by simp[low,wT,Nat.mod_one]
  | n+1,v=>by simp only[low,wT,O3 n];rw[UInt8.toNat_ofNat',show 2 ^ 8=256 from rfl,Nat.mod_mod,Nat.pow_succ,Nat.mul_comm (256 ^ n) 256,Nat.mod_mul]
theorem NC {b:Ly} {p v:Nat} (h:p+8<=b.length) (c:v<18446744073709551616):d8 (gq b p v) p=v:=by
  rw[QA h];unfold d8;have a:(b.take p).length=p:=by rw[List.length_take];omega
  rw[List.append_assoc,List.drop_left' a,List.take_left' (eM v 8),O3];exact Nat.mod_eq_of_lt c
def bw.nV (d:bw) (a n:Nat):Prop :=
  TJ d.b n 0 a n=true/\((vA d.b n 0 a n).2.1≠0->d8 d.b (vA d.b n 0 a n).1+24+8*(vA d.b n 0 a n).2.1+8<=d.b.length)
theorem Wl (d:bw) (a n ij:Nat):d.b.length<=(d.list a n ij).2.2.b.length/\(d.list a n ij).2.2.h.n.getD 0 0=d.h.n.getD 0 0/\(d.list a n ij).2.2.b.length<=d.b.length+2080:=by
  unfold bw.list;generalize vA d.b n 0 a n=g;obtain⟨q,r,k⟩:=g;simp only;split
  · have B:=sG d<|dw {next:=0,bg:=List.replicate (cB (k:Int)) 0}
    generalize d.add (dw {next:=0,bg:=List.replicate (cB (k:Int)) 0})=e at *;obtain⟨p,A⟩:=e;simp only at B ⊢;have C:=congrArg List.length B.2.1;rw[List.length_append,kX]at C;simp only[List.length_replicate]at C;have D:=lZ (k:Int);refine⟨by rw[nI,nI];show _<=A.b.length;omega,?_,by rw[nI,nI];show A.b.length<=_;omega⟩;show(A.h.n.set 18 _).getD 0 0=_;rw[k9 Xz];exact B.2.2.2.2.2.2 0 Xz Xz Xz
  exact⟨by rw[nI];exact Nat.le_refl _,rfl,by rw[nI];omega⟩
def bw.rB (p:Nat):List eG->bw->Prop
  | [],_=>True
  | x :: r,d=>(x.pos+64<=d.b.length/\(d8 d.b (x.pos+56)≠0->d.nV (x.pos+48) (d8 d.b (x.pos+56)-1))/\d8 d.b (x.pos+56)<=1000000/\d.b.length<=800000/\d.h.n.getD 0 0<=d.b.length)/\bw.rB p r (d.sW p x.pos)
def bw.vR (d:bw) (p:Nat) (l:List eG):Prop :=
  d.nV 176 (d.aT 8)/\184<=d.b.length/\bw.rB p l ((d.list 176 (d.aT 8) p).2.2.sX (d.list 176 (d.aT 8) p).1 (d.list 176 (d.aT 8) p).2.1)
theorem LF {p i:Nat} {l:List eG} {x:eG} {d:bw} (a:l[i]? = some x) (h:bw.rB p (l.drop i) d):(x.pos+64<=d.b.length/\(d8 d.b (x.pos+56)≠0->d.nV (x.pos+48) (d8 d.b (x.pos+56)-1))/\d8 d.b (x.pos+56)<=1000000/\d.b.length<=800000/\d.h.n.getD 0 0<=d.b.length)/\bw.rB p (l.drop<|i+1) (d.sW p x.pos):=by rw[fP a]at h;exact h
theorem DX {p i:Nat} {l:List eG} {x:eG} {d:bw} (a:l[i]? = some x):bw.rW p (l.drop i) d=bw.rW p (l.drop<|i+1) (d.sW p x.pos):=by rw[fP a];rfl
theorem Z6 {p i:Nat} {l:List eG} {d:bw} (h:¬i<l.length):bw.rW p (l.drop i) d=d:=by rw[gN Xx];rfl
def headW (c:gZ) (after:Nat):d9:={eS:=2,cr:=0,state:=1,bE:=c.bE,bO:=c.bO,aR:=pB,seq:=c.seq,n:=((List.replicate 21 0).set 0 272).set 9 after,bP:=0,bR:=0,cF:=0}
def iG (c:gZ) (after:Nat):bw :=
  let d0:bw:={b:=List.replicate 272 0,h:={headW c after with cr:=if c.bL=true then 4 else 0}}
  match d0.add (dc 4<|List.replicate c.aj {first:=0,tail:=0})with
  | (p,d1)=>match (d1.bD 2<|p+16).add (dc 5<|List.replicate c.ak {first:=0,tail:=0})with
    | (q,d3)=>(((d3.bD 4<|q+16).bD 3<|16*c.aj).bD 5<|16*c.ak).hput
def leP (x y:Pr):Bool:=!(Op.bytesLess (whole y.pb)<|whole x.pb)
def nZ (l:List Pr):List Pr:=l.mergeSort leP
def vp (l:List Pr):List Pr:=iu<|nZ l
def CJ:List Pr->List Pr × Nat->List Pr × Nat
  | [],r=>r
  | p :: t,r=>if(ez p).2≠0 then([],(ez p).2)else CJ t r
theorem VB {l:List Pr} {i:Nat} {r:List Pr × Nat} (h:¬i<l.length):CJ (l.drop i) r=r:=by rw[gN Xx];rfl
theorem NG {l:List Pr} {i:Nat} {p:Pr} {r:List Pr × Nat} (h:l[i]? = some p):CJ (l.drop i) r=if(ez p).2≠0 then([],(ez p).2)else CJ (l.drop<|i+1) r:=by rw[fP h];rfl
def EQ (l:List Pr):List Pr × Nat:=if 16<(vp l).length then([],21)else(vp l,0)
def gX (l:List Pr):List Pr × Nat:=if l.length=0 then([],16)else CJ l (EQ l)
def bw.jg:List Pr->bw->List eG->List eG × bw
  | [],d,o=>(o,d)
  | x :: r,d,o=>match d.data x.name (ez x).1 with|(i,d1)=>bw.jg r d1<|o ++ [i]
def bw.EO (d:bw) (x:Pr):Prop :=
  d.okL (d.aT 2) (d.aT 3) (ez x).1 64/\d.b.length<=800000/\d.h.n.getD 0 0<=d.b.length/\(ez x).1.length<=1000/\x.name.length<=1000 /\
  ((d.look (d.aT 2) (d.aT 3) (ez x).1 64).found≠0\/(d.kD (ez x).1).2.okL ((d.kD (ez x).1).2.aT 4) ((d.kD (ez x).1).2.aT 5) x.name 40)
def bw.yS:List Pr->bw->Prop
  | [],_=>True
  | x :: r,d=>d.EO x/\bw.yS r (d.data x.name (ez x).1).2
theorem zJ {i:Nat} {l:List Pr} {x:Pr} {d:bw} (a:l[i]? = some x) (h:bw.yS (l.drop i) d):d.EO x/\bw.yS (l.drop<|i+1) (d.data x.name (ez x).1).2:=by rw[fP a]at h;exact h
theorem RU {i:Nat} {l:List Pr} {x:Pr} {d a:bw} {o:List eG} {t:Ly} {y:eG} (c:l[i]? = some x) (b:(ez x).1=t) (h:d.data x.name t=(y,a)):bw.jg (l.drop i) d o=bw.jg (l.drop<|i+1) a (o ++ [y]):=by rw[fP c,bw.jg,b,h]
theorem YA {i:Nat} {l:List Pr} {d:bw} {o:List eG} (h:¬i<l.length):bw.jg (l.drop i) d o=(o,d):=by rw[gN Xx];rfl
def bw.mark (d:bw) (p seq aY mono:Nat) (aR:Ly):bw :=
  let d4:=if d.aT 8=1 then(d.bD 10 seq).bD 12 aY else d
  let d5:=((d4.bD 9 seq).bD 13 aY).bD 14 mono
  bw.hput {d5 with h:={d5.h with aR:=aR,cF:=p}}
def leI (x y:eG):Bool:=!(decide (y.pos<x.pos))
def kK (l:List eG):List eG:=l.mergeSort leI
theorem wi (l:List eG):(kK l).Perm l:=List.mergeSort_perm _ _
theorem aat (l:List eG):(kK l).length=l.length:=(wi l).length_eq
def SG (l:List eG) (p:Nat):Nat:=((l.find? fun x=>decide (x.pos=p)).map eG.bZ).getD 0
theorem HM:∀(l:List eG),(l.map eG.pos).Nodup->∀x∈l,SG l x.pos=x.bZ
  | [],_,_,h=>by simp at h
  | y :: r,hn,x,hx=>by
    rw[List.map_cons,List.nodup_cons]at hn;unfold SG
    rcases List.mem_cons.1 hx with rfl|hx
    · rw[List.find?_cons_of_pos Oj];rfl
    · rw[List.find?_cons_of_neg (by simpa using fun e:y.pos=x.pos=>hn.1<|e ▸ List.mem_map.2 ⟨x,hx,q⟩)]
      exact HM r hn.2 x hx
def bw.zC (e:lu) (l:List Pr) (o:List eG):lu:={seq:=e.seq,aY:=e.aY,mono:=e.mono,aR:=e.aR,xor:=lH 0 (l.map fun q=>(ez q).1),bg:=kK o}
def bw.entry (d:bw) (l:List Pr) (e:lu):bw :=
  match bw.jg l d []with
  | (o,d1)=>match d1.add (bT<|bw.zC e l o)with
    | (p,d2)=>(d2.link p<|kK o).mark p e.seq e.aY e.mono e.aR
def bw.IJ (d:bw) (l:List Pr) (e:lu):Prop :=
  bw.yS l d/\((bw.jg l d []).1.map eG.pos).Nodup/\(bw.jg l d []).2.b.length<=700000/\(bw.jg l d []).2.h.n.getD 0 0<=(bw.jg l d []).2.b.length /\
  (match (bw.jg l d []).2.add (bT<|bw.zC e l (bw.jg l d []).1)with
    | (p,d2)=>d2.vR p (kK (bw.jg l d []).1)/\d2.b.length<=800000/\d2.h.n.getD 0 0<=d2.b.length/\d2.h.n.getD 8 0<=1000000 /\
      272<=(d2.link p<|kK (bw.jg l d []).1).b.length/\(d2.link p<|kK (bw.jg l d []).1).b.length<=1000000/\(d2.link p<|kK (bw.jg l d []).1).h.state<256)
theorem aie {α:Type} {T:Dt α} {ty:TypeId} {w:World} {Q:Nat->Prop} {v:Value} {x:α} (h:Pt T ty w Q v x):v.oneCell'=true:=by obtain⟨b,c,rfl,_⟩:=h;rfl
section
variable {P:Program} {n:Nat} {A:Fr n} {D:List Deferred} {l:List (Nat × Value)} {w:World} {ops:Array Oper} {rest:List Oper} {Q:Exit->Act->World->Prop}
variable {d:Tmp} {op:Op} {ty:TypeId} {ps:String} {af:Array Edge}
theorem mv {x:Operand} {v:Value} (h:ev n l x=some v) (k:wpList P ops Q rest (aN A D ((d,v) :: l)) w):wpList P ops Q (⟨some d,.move x,ty,ps,af,none⟩ :: rest) (aN A D l) w:=st v (aP h) k
theorem cV {x:Operand} {v:Value} (h:ev n l x=some v) (k:wpList P ops Q rest (aN A D ((d,v) :: l)) w):wpList P ops Q (⟨some d,.assign x,ty,ps,af,none⟩ :: rest) (aN A D l) w:=st v (gg h) k
theorem nt {K:Act->World->Prop} {a:Act} (h:K a w):wpList P ops (Exit.then K Q) [] a w:=aG<|aA h
theorem mz {C:World->Prop} {QN:Act->World->Prop} {rest:List (Bool × Oper)} {v:Value} (b:∀a,C a->cw P ⟨some d,op,ty,ps,af,none⟩ (aN A D l).eval a v) (k:eF P ops C QN rest (aN A D ((d,v) :: l)) w):eF P ops C QN ((true,⟨some d,op,ty,ps,af,none⟩) :: rest) (aN A D l) w:=Go.Wk.m v b k
theorem sk {j t:Nat} {o:Oper} {b a:Bool} (hb:b = !a) (k:wpList P ops Q rest (aN A D ((d,undef) :: l)) w) (c:ops[j]? = some o:=by rfl) (e:o.dst=some t:=by rfl) (f:ev n l (.tmp t)=some (.bool b):=by rfl) :
    wpList P ops Q (⟨some d,op,ty,ps,af,some (j,a)⟩ :: rest) (aN A D l) w:=afW c e f hb k
theorem sg {j t:Nat} {o:Oper} {b a:Bool} {v:Value} (hb:b=a) (e:cw P ⟨some d,op,ty,ps,af,some (j,a)⟩ (aN A D l).eval w v) (k:wpList P ops Q rest (aN A D ((d,v) :: l)) w) (c:ops[j]? = some o:=by rfl) (f:o.dst=some t:=by rfl) (g:ev n l (.tmp t)=some (.bool b):=by rfl) :
    wpList P ops Q (⟨some d,op,ty,ps,af,some (j,a)⟩ :: rest) (aN A D l) w:=aes v c f g hb e k
theorem sf {x:Operand} {s:TypeId} {f b o off:Nat} (a:ev n l x=some (.pointer<|some ⟨b,o,none⟩)) (hf:aJ P s f=some off) (k:wpList P ops Q rest (aN A D ((d,.pointer (some ⟨b,o+off,none⟩)) :: l)) w):wpList P ops Q (⟨some d,.fieldAddr s x f,ty,ps,af,none⟩ :: rest) (aN A D l) w:=st _ (aF a hf) k
theorem sl {x:Operand} {t ty':TypeId} {b j:Nat} {cs:List Value} {u:Value} (f:ev n l x=some (.pointer<|some ⟨b,j,none⟩)) (c:iv P t=true) (a:bK w b cs ty') (e:cs[j]? = some u) (k:wpList P ops Q rest (aN A D ((d,u) :: l)) w):wpList P ops Q (⟨some d,.load t x,ty,ps,af,none⟩ :: rest) (aN A D l) w:=st _ (aD f c a e) k
theorem sn {x:Operand} {p:Addr} (h:ev n l x=some (.pointer<|some p)) (k:wpList P ops Q rest (aN A D ((d,.pointer (some p)) :: l)) w):wpList P ops Q (⟨some d,.nilCheck x,ty,ps,af,none⟩ :: rest) (aN A D l) w:=st _ (bN h) k
theorem se {x:Operand} {i:Nat} {vs:Array Value} {v:Value} (h:ev n l x=some (.tuple vs)) (a:vs[i]? = some v) (k:wpList P ops Q rest (aN A D ((d,v) :: l)) w):wpList P ops Q (⟨some d,.extract x i,ty,ps,af,none⟩ :: rest) (aN A D l) w:=st _ (mQ h a) k
theorem sL {x:Operand} {v:Value} {m:Nat} {t e:TypeId} (c:ev n l x=some v) (b:P.underlying t=some (.slice e)) (a:R3 v m) (k:wpList P ops Q rest (aN A D ((d,.int .i64 m) :: l)) w):wpList P ops Q (⟨some d,.call {callee:=.builtin .len,args:=#[x],argTypes:=#[t]},ty,ps,af,none⟩ :: rest) (aN A D l) w:=st _ (jR c b a) k
theorem mo {C:World->Prop} {QN:Act->World->Prop} {rest:List (Bool × Oper)} {x:Operand} {v:Value} (h:ev n l x=some v) (k:eF P ops C QN rest (aN A D ((d,v) :: l)) w):eF P ops C QN ((true,⟨some d,.move x,ty,ps,af,none⟩) :: rest) (aN A D l) w:=Go.Wk.m v (fun _ _=>aP h) k
theorem ns {id:Nat} {lo:List Oper} {y:Code} {a:Act} (h:wpList P lo.toArray (Exit.then (fun a w=>y.wp P Q a w) Q) lo a w):(Code.seq (.region id lo.toArray false) y).wp P Q a w:=aH<|aI h
theorem an {x:Operand} {v:Value} {K:Act->World->Prop} (h:ev n l x=some v) (k:K (aN A D ((d,v)::l)) w):wpList P ops (Exit.then K Q) [⟨some d,.assign x,ty,ps,af,none⟩] (aN A D l) w:=cV h<|nt k
theorem ar {x:Operand} {v:Value} {R:Exit->Act->World->Prop} (h:ev n l x=some v) (k:R .ret (aN A D ((d,v)::l)) w):wpList P ops (Exit.then (fun a w=>Code.ret.wp P R a w) Q) [⟨some d,.assign x,ty,ps,af,none⟩] (aN A D l) w:=cV h<|nt<|lO k
theorem m2 {x y:Operand} {v u:Value} {e:Tmp} {ty' c a} (h:ev n l x=some v) (b:ev n ((d,v)::l) y=some u) (k:wpList P ops Q rest (aN A D ((e,u)::(d,v)::l)) w):wpList P ops Q (⟨some d,.move x,ty,ps,af,none⟩::⟨some e,.move y,ty',c,a,none⟩::rest) (aN A D l) w:=mv h<|mv b k
theorem nM {id:Nat} {lo:List Oper} {y:Code} {x:Operand} {v:Value} (h:ev n l x=some v) (k:wpList P (⟨some d,.move x,ty,ps,af,none⟩::lo).toArray (Exit.then (fun a w=>y.wp P Q a w) Q) lo (aN A D ((d,v)::l)) w):(Code.seq (.region id (⟨some d,.move x,ty,ps,af,none⟩::lo).toArray false) y).wp P Q (aN A D l) w:=ns<|mv h k
theorem rv {v:Value} {p:Value->Prop} (h:p v):∃u,Ending.returned v=.returned u/\p u:=⟨v,q,h⟩
theorem rA {d:Option Tmp} {g:Option (Nat × Bool)} {x y:Operand} {t u:TypeId} {a b:Nat} (c:ev n l x=some (.int .i64 (a:Int))) (e:ev n l y=some (.int .i64 (b:Int))) (h:a+b<9223372036854775808):cw P ⟨d,.binOp .add t x y u,ty,ps,af,g⟩ (aN A D l).eval w (.int .i64 ((a+b:Nat):Int)):=dH 9223372036854775808 q c e h
theorem rS {d:Option Tmp} {g:Option (Nat × Bool)} {x y:Operand} {t u:TypeId} {a b:Nat} (c:ev n l x=some (.int .i64 (a:Int))) (e:ev n l y=some (.int .i64 (b:Int))) (h:b<=a/\a<9223372036854775808):cw P ⟨d,.binOp .sub t x y u,ty,ps,af,g⟩ (aN A D l).eval w (.int .i64 ((a-b:Nat):Int)):=vW 9223372036854775808 q c e h
abbrev SN:Value:=.slice none 0 0
theorem tT {Q R S:Nat->Prop} (a:∀b,Q b->R b) (c:∀b,S b->Q b):∀b,S b->R b:=fun b h=>a b<|c b h
theorem sS {S:List Nat} {u w:World} {Q R T:Nat->Prop} (a:∀b,R b->b<w.heap.size->T b) (c:∀b,Q b->b<u.heap.size->R b) (M:Md S u w):∀b,Q b->b<u.heap.size->T b:=fun b h hl=>a b (c b h hl)<|Nat.lt_of_lt_of_le hl M.size
theorem nQ {Q R:Nat->Prop} {b:Nat} (h:¬Q b) (c:∀b,R b->Q b):¬R b:=fun x=>h<|c _ x
theorem rF {a:Type} {T:Dt a} {e:TypeId} {lo:Nat->Prop} {w:World} {Q:Nat->Prop} {v:Value} {xs:List a} (h:Ow T e lo w Q v xs):∀i∈(ah v).toList,lo i:=gL fun x b=>(h.2 x b).1
theorem rN {a:Type} {T:Dt a} {e:TypeId} {lo:Nat->Prop} {w:World} {Q:Nat->Prop} {v:Value} {xs:List a} (h:Ow T e lo w Q v xs):∀i∈(ah v).toList,¬Q i:=gL fun x b=>(h.2 x b).2
theorem hI {p:Nat->Prop} {b:Nat} (h:p b):∀x∈[b],p x:=by intro x a;simp at a;subst a;exact h
end
section
variable {P:Program} {n:Nat} {A:Fr n} {D:List Deferred} {l:List (Nat × Value)} {w:World} {ops:Array Oper} {rest:List Oper} {Q:Exit->Act->World->Prop}
variable {d:Tmp} {op:Op} {ty:TypeId} {ps:String} {af:Array Edge}
theorem kS {c:Operand} {x y:Code} {p:Prop} [Decidable p] (hc:ev n l c=some (.bool<|decide p)) (h1:p->x.wp P Q (aN A D l) w) (h0:¬p->y.wp P Q (aN A D l) w):(Code.cond c x y).wp P Q (aN A D l) w:=cJ hc (fun h=>h1<|of_decide_eq_true h)<|fun h=>h0<|of_decide_eq_false h
theorem zK {a:Func} {R:Ending->World->Prop} {e:Exit} {b:List ResultVar} (vs:List Value) (f:a.results=b.toArray) (c:R (.returned<|.tuple vs.toArray) w) (h:vf P w n l b vs:=by first | exact ⟨rfl,rfl,trivial⟩ | exact ⟨rfl,rfl,rfl,trivial⟩ | exact ⟨rfl,rfl,rfl,rfl,trivial⟩ | exact trivial) (d:vl e:=by trivial) (hl:Nat.beq vs.length 1=false:=by rfl):bodyPost P a R e (aN A [] l) w:=kM d f h hl c
theorem gB {a:Func} {R:Ending->World->Prop} {e:Exit} {b:List ResultVar} (v:Value) (f:a.results=b.toArray) (c:R (.returned v) w) (h:vf P w n l b [v]:=by exact ⟨rfl,trivial⟩) (d:vl e:=by trivial):bodyPost P a R e (aN A [] l) w:=kY d f h c
theorem nL {id:Nat} {lo:List Oper} {a:Act} (c:List (Nat × Bool)) (tl:List Nat) (e:P.follows .mixedOrders=true) (k:∀b,Md [] w b->eF P lo.toArray (fun x=>Md [] w x) (fun a w=>wpList P lo.toArray Q (oD lo tl) a w) (qa lo c) a b) (d:TF .any lo.toArray c tl=true:=by kernel_rfl):(Code.region id lo.toArray true).wp P Q a w:=iy c tl (fun x=>Md [] w x) e d fun b h=>⟨h,k b h⟩
theorem nR {f:FuncId} {d:Func} {c:Code} {vs:List Value} {R:Ending->World->Prop} {a:Nat->Prop} (S:List Nat) (u:Up w a) (hf:P.funcs[f]? = some d) (hb:d.body=some c) (i:d.ntmps=n) (g:Nat.ble vs.length n=true) (h:∀e:Fr n,Md S w w->(∀b,a b->a b)->(∀b,a b->b<w.heap.size->a b)->c.wp P (bodyPost P d R) (aN e []<|xZ 0 vs) w):Calls P f vs.toArray w R:=enter hf hb i g fun e=>h e (Md.refl S w) (fun _ h=>h)<|fun _ h _=>h
def LQ (Z:Nat->Prop) (w:World) (S:List Nat) (w':World) (p:(Nat->Prop)->Prop):Prop:=∃Q':Nat->Prop,(∀b,Q' b->Z b)/\(∀b,Z b->b<w.heap.size->Q' b)/\Up w' Q'/\Md S w w'/\p Q'
theorem my {C:World->Prop} {QN:Act->World->Prop} {rest:List (Bool × Oper)} {v:Value} (a:∀{u:World},cw P ⟨some d,op,ty,ps,af,none⟩ (aN A D l).eval u v) (k:eF P ops C QN rest (aN A D ((d,v) :: l)) w):eF P ops C QN ((true,⟨some d,op,ty,ps,af,none⟩) :: rest) (aN A D l) w:=Go.Wk.m v (fun _ _=>a) k
theorem su {v:Value} (a:cw P ⟨some d,op,ty,ps,af,none⟩ (aN A D l).eval w v) (k:wpList P ops Q rest (aN A D ((d,v) :: l)) w):wpList P ops Q (⟨some d,op,ty,ps,af,none⟩ :: rest) (aN A D l) w:=st v a k
abbrev iZ (z:Int):Value:=.int .i64 z
abbrev uZ (z:Int):Value:=.int .u64 z
abbrev iN (z:Nat):Value:=.int .i64 z
abbrev uN (z:Nat):Value:=.int .u64 z
end
end Go.Wk
namespace Go.Proofs.YtfadcpfgenjbeaaGreat
open Go Go.Wk Go.RowKit
set_option linter.unusedVariables false
set_option linter.unusedSimpArgs false
attribute [local irreducible] wpList wpQuiet wpStill eF Code.wp Calls bodyPost
variable {w:World} {Q:Nat->Prop}
noncomputable abbrev Zp:=Tryz.prog
theorem qs:fW Zp 5 1=true:=Xj
theorem PS:iv Zp 5=true:=Xj
theorem mr:Zp.underlying 23=some (.int .u64):=Xj
theorem fM:Zp.underlying 45=some (.slice 5):=Xj
theorem u5:Zp.underlying 5=some (.int .u8):=Xj
theorem DU (i:Up w Q) (n:Int) (l:(-9223372036854775808<=n/\n<9223372036854775808)) :
  Calls Zp 223 #[(iZ (n:Int))] w fun h j=>∃e:Bool,h = .returned (.bool e)/\Md [] w j/\mU n=e:=by
 have d:=Md.refl [] w;have H:=i;refine enter (n:=17) Tryz.func223 q q q fun k=>ns<|an q<|nM q<|su (mB (a:=n) (b:=1) q q)<|mv q ?_;refine ck (t:=5) q (fun C=>?_)<|fun C=>?_
 ·have g:=dq C;refine sk C<|sk C<|su (bC q C q)<|mv q<|sk q<|sk q<|su (bC q q q)<|mv q<|sk q<|sk q<|su (bC q q q)<|ar q ?_;exact gB (.bool true) q ⟨true,q,d,(by simp only[mU];exact decide_eq_true Xx)⟩
 have g:=dF C;refine sg C (aP q)<|sg C (mB (a:=n) (b:=2) q q)<|su (aU q C q)<|mv q ?_;refine ck (t:=9) q (fun D=>?_)<|fun D=>?_
 ·have G:=dq D;refine sk D<|sk D<|su (bC q D q)<|mv q<|sk q<|sk q<|su (bC q q q)<|ar q ?_;exact gB (.bool true) q ⟨true,q,d,(by simp only[mU];exact decide_eq_true Xx)⟩
 have G:=dF D;refine sg D (aP q)<|sg D (mB (a:=n) (b:=4) q q)<|su (aU q D q)<|mv q ?_;refine ck (t:=13) q (fun c=>?_)<|fun c=>?_
 ·have f:=dq c;refine sk c<|sk c<|su (bC q c q)<|ar q ?_;exact gB (.bool true) q ⟨true,q,d,(by simp only[mU];exact decide_eq_true Xx)⟩
 have f:=dF c;refine sg c (aP q)<|sg c (mB (a:=n) (b:=8) q q)<|su (aU q c q)<|ar q ?_;exact gB (.bool<|(decide (n=8))) q ⟨(decide (n=8)),q,d,(by simp only[mU];exact(decide_eq_decide.2 Xx))⟩
theorem TX (I:Up w Q) {J:Value} {l:Ly} (h:Ls dh w Q J l) (a:Int) (ad:(-9223372036854775808<=a/\a<9223372036854775808)) (n:Int) (ae:(-9223372036854775808<=n/\n<9223372036854775808)) :
  Calls Zp 119 #[J,(iZ (a:Int)),(iZ (n:Int))] w fun aa K=>∃O:Nat,∃U:Bool,aa = .returned (.tuple #[(uZ O),(.bool U)])/\Md [] w K/\O<18446744073709551616/\mA l a n=(O,U):=by
 have ag:=h.eJ;have p:=I;refine nR (n:=59) [] I Tryz.func119 q q q fun R E M P=>ns<|cV q<|an q<|aH<|aH ?_;refine RN (fun b=>[(41,.bool b),(0,J),(1,(iZ (a:Int))),(2,(iZ (n:Int))),(6,(uN 0)),(7,(.bool false))]) (fun b K=>w=K/\(b=true↔¬(mU n=true/\0<=a/\a+n<=l.length))) ?_ ?_
 ·refine mv q<|su (ZW (a:=n) (b:=1) q q)<|mv q ?_;refine ck (t:=12) q (fun H=>?_)<|fun H=>?_
  ·have T:=dq H;refine sg H (aP q)<|sg H (ZW (a:=n) (b:=2) q q)<|su (bC q H q)<|mv q ?_;refine ck (t:=16) q (fun j=>?_)<|fun j=>?_
   ·have Y:=dq j;refine sg j (aP q)<|sg j (ZW (a:=n) (b:=4) q q)<|su (bC q j q)<|mv q ?_;refine ck (t:=20) q (fun m=>?_)<|fun m=>?_
    ·have V:=dq m;refine sg m (aP q)<|sg m (ZW (a:=n) (b:=8) q q)<|su (bC q m q)<|mv q ?_;refine ck (t:=24) q (fun s=>?_)<|fun s=>?_
     ·have W:=dq s;refine sk s<|sk s<|su (bC q s q)<|mv q<|sk q<|sk q<|sk q<|sk q<|su (bC q q q)<|mv q<|sk q<|sk q<|sk q<|sk q ?_;refine sk q<|sk q<|su (bC q q q)<|aG ?_;refine⟨q,jn true ?_ ?_⟩
      ·exact Fz
      ·exact⟨q,by rw[eL];simp;omega⟩
     ·have W:=dF s;refine sg s (aP q)<|sg s (oA (a:=a) (b:=0) q q)<|su (aU q s q)<|mv q ?_;refine ck (t:=28) q (fun C=>?_)<|fun C=>?_
      ·have u:=dq C;refine sk C<|sk C<|sk C<|sk C<|su (bC q C q)<|mv q<|sk q<|sk q<|sk q<|sk q<|sk q<|sk q<|su (bC q q q)<|aG ?_;refine⟨q,jn true ?_ ?_⟩
       ·exact Fz
       ·exact⟨q,by rw[eL];simp;omega⟩
      ·have u:=dF C;refine sg C (aP q)<|sg C (aP q)<|sg C (jR q fM h.eA)<|sg C (qb (a:=a) (b:=((l.length:Nat):Int)) q q)<|su (aU q C q)<|mv q ?_;refine ck (t:=34) q (fun e=>?_)<|fun e=>?_
       ·have A:=dq e;refine sk e<|sk e<|sk e<|sk e<|sk e<|sk e<|su (bC q e q)<|aG ?_;refine⟨q,jn true ?_ ?_⟩
        ·exact Fz
        ·exact⟨q,by rw[eL];simp;omega⟩
       ·have A:=dF e;refine sg e (aP q)<|sg e (jR q fM h.eA)<|sg e (aP q)<|sg e (iO (a:=((l.length:Nat):Int)) (b:=a) q q Xx)<|sg e (aP q)<|sg e (oA (a:=((l.length:Nat):Int)-a) (b:=n) q q)<|su (aU q e q) ?_;refine ck (t:=41) q (fun D=>?_)<|fun D=>?_
        ·have G:=dq D;refine aG ?_;refine⟨q,jn true ?_ ?_⟩
         ·exact⟨sN q D,q,q,q,q,q,tV⟩
         ·exact⟨q,by rw[eL];simp;omega⟩
        ·have G:=dF D;refine aG ?_;refine⟨q,jn false ?_ ?_⟩
         ·exact⟨sN q D,q,q,q,q,q,tV⟩
         ·exact⟨q,by rw[eL];simp;omega⟩
    ·have V:=dF m;refine sk m<|sk m<|su (aU q m q)<|mv q<|sg q (aP q)<|sg q (oA (a:=a) (b:=0) q q)<|su (aU q q q)<|mv q ?_;refine ck (t:=28) q (fun C=>?_)<|fun C=>?_
     ·have u:=dq C;refine sk C<|sk C<|sk C<|sk C<|su (bC q C q)<|mv q<|sk q<|sk q<|sk q<|sk q<|sk q<|sk q<|su (bC q q q)<|aG ?_;refine⟨q,jn true ?_ ?_⟩
      ·exact Fz
      ·exact⟨q,by rw[eL];simp;omega⟩
     ·have u:=dF C;refine sg C (aP q)<|sg C (aP q)<|sg C (jR q fM h.eA)<|sg C (qb (a:=a) (b:=((l.length:Nat):Int)) q q)<|su (aU q C q)<|mv q ?_;refine ck (t:=34) q (fun e=>?_)<|fun e=>?_
      ·have A:=dq e;refine sk e<|sk e<|sk e<|sk e<|sk e<|sk e<|su (bC q e q)<|aG ?_;refine⟨q,jn true ?_ ?_⟩
       ·exact Fz
       ·exact⟨q,by rw[eL];simp;omega⟩
      ·have A:=dF e;refine sg e (aP q)<|sg e (jR q fM h.eA)<|sg e (aP q)<|sg e (iO (a:=((l.length:Nat):Int)) (b:=a) q q Xx)<|sg e (aP q)<|sg e (oA (a:=((l.length:Nat):Int)-a) (b:=n) q q)<|su (aU q e q) ?_;refine ck (t:=41) q (fun D=>?_)<|fun D=>?_
       ·have G:=dq D;refine aG ?_;refine⟨q,jn true ?_ ?_⟩
        ·exact⟨sN q D,q,q,q,q,q,tV⟩
        ·exact⟨q,by rw[eL];simp;omega⟩
       ·have G:=dF D;refine aG ?_;refine⟨q,jn false ?_ ?_⟩
        ·exact⟨sN q D,q,q,q,q,q,tV⟩
        ·exact⟨q,by rw[eL];simp;omega⟩
   ·have Y:=dF j;refine sk j<|sk j<|su (aU q j q)<|mv q<|sk q<|sk q<|su (aU q q q)<|mv q<|sg q (aP q)<|sg q (oA (a:=a) (b:=0) q q)<|su (aU q q q)<|mv q ?_;refine ck (t:=28) q (fun C=>?_)<|fun C=>?_
    ·have u:=dq C;refine sk C<|sk C<|sk C<|sk C<|su (bC q C q)<|mv q<|sk q<|sk q<|sk q<|sk q<|sk q<|sk q<|su (bC q q q)<|aG ?_;refine⟨q,jn true ?_ ?_⟩
     ·exact Fz
     ·exact⟨q,by rw[eL];simp;omega⟩
    ·have u:=dF C;refine sg C (aP q)<|sg C (aP q)<|sg C (jR q fM h.eA)<|sg C (qb (a:=a) (b:=((l.length:Nat):Int)) q q)<|su (aU q C q)<|mv q ?_;refine ck (t:=34) q (fun e=>?_)<|fun e=>?_
     ·have A:=dq e;refine sk e<|sk e<|sk e<|sk e<|sk e<|sk e<|su (bC q e q)<|aG ?_;refine⟨q,jn true ?_ ?_⟩
      ·exact Fz
      ·exact⟨q,by rw[eL];simp;omega⟩
     ·have A:=dF e;refine sg e (aP q)<|sg e (jR q fM h.eA)<|sg e (aP q)<|sg e (iO (a:=((l.length:Nat):Int)) (b:=a) q q Xx)<|sg e (aP q)<|sg e (oA (a:=((l.length:Nat):Int)-a) (b:=n) q q)<|su (aU q e q) ?_;refine ck (t:=41) q (fun D=>?_)<|fun D=>?_
      ·have G:=dq D;refine aG ?_;refine⟨q,jn true ?_ ?_⟩
       ·exact⟨sN q D,q,q,q,q,q,tV⟩
       ·exact⟨q,by rw[eL];simp;omega⟩
      ·have G:=dF D;refine aG ?_;refine⟨q,jn false ?_ ?_⟩
       ·exact⟨sN q D,q,q,q,q,q,tV⟩
       ·exact⟨q,by rw[eL];simp;omega⟩
  ·have T:=dF H;refine sk H<|sk H<|su (aU q H q)<|mv q<|sk q<|sk q<|su (aU q q q)<|mv q<|sk q<|sk q<|su (aU q q q)<|mv q<|sg q (aP q)<|sg q (oA (a:=a) (b:=0) q q) ?_;refine su (aU q q q)<|mv q ?_;refine ck (t:=28) q (fun C=>?_)<|fun C=>?_
   ·have u:=dq C;refine sk C<|sk C<|sk C<|sk C<|su (bC q C q)<|mv q<|sk q<|sk q<|sk q<|sk q<|sk q<|sk q<|su (bC q q q)<|aG ?_;refine⟨q,jn true ?_ ?_⟩
    ·exact Fz
    ·exact⟨q,by rw[eL];simp;omega⟩
   ·have u:=dF C;refine sg C (aP q)<|sg C (aP q)<|sg C (jR q fM h.eA)<|sg C (qb (a:=a) (b:=((l.length:Nat):Int)) q q)<|su (aU q C q)<|mv q ?_;refine ck (t:=34) q (fun e=>?_)<|fun e=>?_
    ·have A:=dq e;refine sk e<|sk e<|sk e<|sk e<|sk e<|sk e<|su (bC q e q)<|aG ?_;refine⟨q,jn true ?_ ?_⟩
     ·exact Fz
     ·exact⟨q,by rw[eL];simp;omega⟩
    ·have A:=dF e;refine sg e (aP q)<|sg e (jR q fM h.eA)<|sg e (aP q)<|sg e (iO (a:=((l.length:Nat):Int)) (b:=a) q q Xx)<|sg e (aP q)<|sg e (oA (a:=((l.length:Nat):Int)-a) (b:=n) q q)<|su (aU q e q) ?_;refine ck (t:=41) q (fun D=>?_)<|fun D=>?_
     ·have G:=dq D;refine aG ?_;refine⟨q,jn true ?_ ?_⟩
      ·exact⟨sN q D,q,q,q,q,q,tV⟩
      ·exact⟨q,by rw[eL];simp;omega⟩
     ·have G:=dF D;refine aG ?_;refine⟨q,jn false ?_ ?_⟩
      ·exact⟨sN q D,q,q,q,q,q,tV⟩
      ·exact⟨q,by rw[eL];simp;omega⟩
 ·rintro c R _ ⟨rfl,B⟩;refine vC c (fun D=>?_)<|fun D=>?_
  ·have B:=B.1 D;refine aA<|jJ q D<|ns<|cV q<|ar q<|aS ?_;exact zK [(uN 0),(.bool false)] q ⟨0,false,q,E,Xx,(AQ Xx)⟩
  ·have B:=mt B.2 (by rw[D];simp);refine aA<|gV q D<|aM<|aA<|aH ?_;have B:=Classical.not_not.1 B;have y:=zi B.1;refine aI<|an q<|aH<|nM q<|su (iO (a:=n) (b:=1) q q Xx)<|cV q<|nt<|bf ?_;refine wV (fun(v:Nat) (i:Int)=>[(8,(uZ v)),(9,(iZ (i:Int))),(0,J),(1,(iZ (a:Int)))]) (fun v i K=>LQ Q w [] K fun X=>Ls dh K X J l/\(-1<=i/\i<n)/\v=wT ((l.drop (a+(i+1)).toNat).take (n-1-i).toNat)/\v<18446744073709551616) (fun v i=>(i+1).toNat) 0 (n-1) ?_ ?_ ?_
   ·exact Fz
   ·exact⟨Q,M,P,I,E,h,Xx,(by simp[show n-1-(n-1)=0 by omega,wT]),Xx⟩
   ·clear E I M P h;rintro v i R z ⟨g,M,P,I,E,h,af,N,f⟩;refine aH<|nM q<|su (rG (a:=i) (b:=0) q q)<|nt ?_;refine kS q ?_ ?_
    ·intro Z;have ab:=yC (l:=(l.drop (a+(i+1)).toNat).take (n-1-i).toNat) (k:=7) Xh;rw[<- N]at ab;refine aM<|aA<|aH<|bf<|aI<|mv q<|su (mR (a:=v) (b:=256) 18446744073709551616 q q q Xx)<|m2 q q<|mv q<|su (eB (a:=a) (b:=i) q q Xx)<|su (xK (i:=a+i) 1 q q fM qs h.eA Xx) ?_;obtain⟨F,S⟩:=gF (l:=l) (i:=(a+i).toNat) Xx;obtain⟨x,d,L⟩:=h.get S;obtain⟨rfl,_⟩:=d;have r:=UInt8.toNat_lt F;have L:At _ J (((a+i).toNat)*1) [(b8 F)]:=L;refine su ((dS (kk:=((a+i).toNat)*1) 0 q q PS L q).to (b:=(b8 F)) q)<|su (dR (a:=F.toNat) 18446744073709551616 q (by rw[u5];rfl) mr q<|ly (UInt8.toNat_lt _) Xz)<|su (dH (a:=(v*256)) (b:=F.toNat) 18446744073709551616 q q q Xx)<|cV q<|aG ?_;refine bG<|aA<|aI<|mv q<|su (iO (a:=i) (b:=1) q q Xx)<|an q ?_;refine tc ((v*256)+F.toNat) (i-1) Xx ⟨(cW q (by rfl)),(cW q Xx),q,q,tV⟩ ⟨g,M,P,I,E,h,Xx,(by rw[N];have o:=O9 (k:=(n-1-i).toNat) S;rw[show(n-1-(i-1)).toNat=(n-1-i).toNat+1 by omega,show(a+(i-1+1)).toNat=(a+i).toNat by omega,o,show(a+i).toNat+1=(a+(i+1)).toNat by omega];omega),Xx⟩
    ·intro Z;refine cM<|bB<|bB<|dJ<|aA<|nM q<|cV q<|ar q ?_;exact zK [(uZ v),(.bool true)] q ⟨v,true,q,E,Xk,(by rw[mA,if_pos Xx,N,show i = -1 by omega];simp)⟩
theorem abL:cO Zp 223=true:=Xj
theorem Z0 (m:Up w Q) {u:Value} {l:Ly} (j:Ls dh w Q u l) (a:Int) (Z:(-9223372036854775808<=a/\a<9223372036854775808)) (n:Int) (aa:(-9223372036854775808<=n/\n<9223372036854775808)) :
  Calls Zp 208 #[u,(iZ (a:Int)),(iZ (n:Int))] w fun G A=>∃B:Nat,∃H:Bool,G = .returned (.tuple #[(uZ B),(.bool H)])/\Md [] w A/\B<18446744073709551616/\mA l a n=(B,H):=by
 have p:=j.eJ;have ab:=m;refine nR (n:=42) [] m Tryz.func208 q q q fun I h P z=>ns<|cV q<|an q<|aH<|nM q<|Rz abL q (DU m (n) Xx) ?_;rintro G ad ⟨Y,rfl,R,d⟩;obtain⟨j,m,h⟩:=k3 R j m h;refine su (jo q)<|mv q ?_;refine ck (t:=13) q (fun C=>?_)<|fun C=>?_
 ·have J:=ir C;refine sk C<|sk C<|su (bC q C q)<|mv q<|sk q<|sk q<|sk q<|sk q<|sk q<|sk q<|su (bC q q q)<|nt<|jJ q q<|ns ?_;refine cV q<|ar q<|aS ?_;exact zK [(uN 0),(.bool false)] q ⟨0,false,q,h,Xx,(AQ (by rintro⟨F,V,W⟩;simp_all))⟩
 ·have J:=iq C;refine sg C (aP q)<|sg C (oA (a:=a) (b:=0) q q)<|su (aU q C q)<|mv q ?_;refine ck (t:=17) q (fun e=>?_)<|fun e=>?_
  ·have K:=dq e;refine sk e<|sk e<|sk e<|sk e<|sk e<|sk e<|su (bC q e q)<|nt<|jJ q q<|ns<|cV q<|ar q ?_;refine aS ?_;exact zK [(uN 0),(.bool false)] q ⟨0,false,q,h,Xx,(AQ (by rintro⟨F,V,W⟩;omega))⟩
  ·have K:=dF e;have S:=zi (n:=n) (by simp_all);refine sg e (aP q)<|sg e (aP q)<|sg e (jR q fM j.eA)<|sg e (aP q)<|sg e (iO (a:=((l.length:Nat):Int)) (b:=n) q q Xx)<|sg e (qb (a:=a) (b:=((l.length:Nat):Int)-n) q q)<|su (aU q e q)<|nt ?_;refine kS q ?_ ?_
   ·intro L;refine ns<|cV q<|ar q<|aS ?_;exact zK [(uN 0),(.bool false)] q ⟨0,false,q,h,Xx,(AQ (by rintro⟨F,V,W⟩;omega))⟩
   ·intro L;refine aM<|aA<|aH ?_;have T:mU n=true/\0<=a/\a+n<=l.length:=⟨by simp_all,by omega,by omega⟩;have S:=zi T.1;refine aI<|an q<|aH<|nM q<|su (iO (a:=n) (b:=1) q q Xx)<|cV q<|nt<|bf ?_;refine wV (fun(v:Nat) (i:Int)=>[(8,(uZ v)),(9,(iZ (i:Int))),(0,u),(1,(iZ (a:Int)))]) (fun v i A=>LQ Q w [] A fun N=>Ls dh A N u l/\(-1<=i/\i<n)/\v=wT ((l.drop (a+(i+1)).toNat).take (n-1-i).toNat)/\v<18446744073709551616) (fun v i=>(i+1).toNat) 0 (n-1) ?_ ?_ ?_
    ·exact Fz
    ·exact⟨Q,P,z,m,h,j,Xx,(by simp[show n-1-(n-1)=0 by omega,wT]),Xx⟩
    ·clear h m P z j;rintro v i I x ⟨c,P,z,m,h,j,U,D,X⟩;refine aH<|nM q<|su (rG (a:=i) (b:=0) q q)<|nt ?_;refine kS q ?_ ?_
     ·intro M;have f:=yC (l:=(l.drop (a+(i+1)).toNat).take (n-1-i).toNat) (k:=7) Xh;rw[<- D]at f;refine aM<|aA<|aH<|bf<|aI<|mv q<|su (aim (a:=v) (b:=8) 18446744073709551616 q q 64 q q q Xx)<|m2 q q<|mv q<|su (eB (a:=a) (b:=i) q q Xx)<|su (xK (i:=a+i) 1 q q fM qs j.eA Xx) ?_;obtain⟨s,E⟩:=gF (l:=l) (i:=(a+i).toNat) Xx;obtain⟨r,O,y⟩:=j.get E;obtain⟨rfl,_⟩:=O;have o:=UInt8.toNat_lt s;have y:At _ u (((a+i).toNat)*1) [(b8 s)]:=y;refine su ((dS (kk:=((a+i).toNat)*1) 0 q q PS y q).to (b:=(b8 s)) q)<|su (dR (a:=s.toNat) 18446744073709551616 q (by rw[u5];rfl) mr q<|ly (UInt8.toNat_lt _) Xz)<|su (aku (a:=(v*2 ^ 8%18446744073709551616)) (b:=s.toNat) 18446744073709551616 q q q q Xx)<|cV q<|aG ?_;refine bG<|aA<|aI<|mv q<|su (iO (a:=i) (b:=1) q q Xx)<|an q ?_;refine tc ((v*2 ^ 8%18446744073709551616) ||| s.toNat) (i-1) Xx ⟨(cW q (by rfl)),(cW q Xx),q,q,tV⟩ ⟨c,P,z,m,h,j,Xx,(by rw[aei Xx,D];have g:=O9 (k:=(n-1-i).toNat) E;rw[show(n-1-(i-1)).toNat=(n-1-i).toNat+1 by omega,show(a+(i-1+1)).toNat=(a+i).toNat by omega,g,show(a+i).toNat+1=(a+(i+1)).toNat by omega]),(by rw[aei Xx];have:=UInt8.toNat_lt s;omega)⟩
     ·intro M;refine cM<|bB<|bB<|dJ<|aA<|nM q<|cV q<|ar q ?_;exact zK [(uZ v),(.bool true)] q ⟨v,true,q,h,Xk,(by rw[mA,if_pos Xx,D,show i = -1 by omega];simp)⟩
end Go.Proofs.YtfadcpfgenjbeaaGreat
namespace Go.Wk
open Go Go.RowKit
section
variable {P:Program}
theorem FN (k:Nat):(Builtin.zeroCells (Value.int .u8 0).cells k).toList=(List.replicate k (0:UInt8)).map b8:=by
  apply List.ext_getElem?;intro j;simp only[Builtin.zeroCells,Array.toList_map,Array.toList_range,List.getElem?_map,Value.cells]
  by_cases h:j<k
  · simp[h,List.getElem?_range,List.getElem?_replicate,b8,Nat.mod_one]
  simp[h,List.getElem?_replicate,List.getElem?_eq_none]
theorem FB {t b ty e:TypeId} {i:TypeInfo} {kq kn:IntKind} {w:World} {g m cap k:Nat} {cur:Array Value} (l:P.underlying t=some (.slice e)) (n:P.underlying b=some (.int kn)) (hi:P.info? e=some i) (o:i.zero=some (.int .u8 0)) (j:i.size=1) (h:i.bytes=1)
    (hg:w.heap[g]? = some (.cells cur e (0,0))) (hk:0<k) (hroom:m+k<=cap) (hc:cap<=cur.size) (h63:m+k<=1000000000) :
    (Builtin.append_ #[t,b] ty #[.slice (some ⟨g,0,none⟩) m cap,.int kq k]).run P w = .ok (.slice (some ⟨g,0,none⟩) (m+k) cap) (w.setRow g (dZ cur.toList m<|(List.replicate k (0:UInt8)).map b8).toArray):=by
  have a:=run_storeCells_at (P:=P) g m e ((List.replicate k (0:UInt8)).map b8) 0 cur w hg Xh (fun p f=>by obtain⟨z,_,rfl⟩:=List.mem_map.1 f;rfl);simp only[Nat.add_zero]at a;have G:IntKind.i64.wrap (k:Int)=k:=by rw[IntKind.wrap_i64];omega
  have c:¬((k:Int)<0):=by omega
  have d:¬k=0:=by omega
  have D:¬(281474976710656<(k:Int)):=by omega
  have C:(Builtin.zeroCells (Value.int .u8 0).cells k).toList=(List.replicate k (0:UInt8)).map b8:=FN k;rw[List.map_replicate]at a C ⊢;rw[List.length_replicate]at a;simp[Builtin.append_,run_underlying l,run_underlying n,sizeOf,typeInfo,zeroValue,hi,o,j,h,asInt,asIntOf,G,hroom,c,d,D,C,Addr.add_lit,a,dZ]
theorem zQ {t b ty e:TypeId} {i:TypeInfo} {kq kn:IntKind} {w:World} {a:Option Addr} {m cap:Nat} (f:P.underlying t=some (.slice e)) (g:P.underlying b=some (.int kn)) (hi:P.info? e=some i) (d:m<=cap) :
    (Builtin.append_ #[t,b] ty #[.slice a m cap,.int kq (0:Nat)]).run P w = .ok (.slice a m cap) w:=by
  have c:IntKind.i64.wrap ((0:Nat):Int)=0:=by rw[IntKind.wrap_i64];omega
  cases a <;> simp[Builtin.append_,run_underlying f,run_underlying g,sizeOf,typeInfo,zeroValue,hi,asInt,asIntOf,c,d,storeCells,IntKind.wrap_i64]
variable {n:Nat} {A:Fr n} {D:List Deferred} {l:List (Nat × Value)} {w:World} {ops:Array Oper} {rest:List Oper} {Q:Exit->Act->World->Prop} {d:Tmp} {ty:TypeId} {ps:String} {af:Array Edge} {R:Nat->Prop}
theorem M2 {t o ty' e:TypeId} {kq kn:IntKind} (h:P.underlying t=some (.slice e)) (j:P.underlying o=some (.int kn)) (F:vF P e 1 1=true) (s:(P.info? e).bind (·.zero)=some (.int .u8 0)) {v:Value} {m k:Nat} {xs:List Value} (d:Own w e 1 v m xs) (E:m+k<=1000000000) :
    ∃u x,(Builtin.append_ #[t,o] ty' #[v,.int kq k]).run P w = .ok u x/\Own x e 1 u (m+k) (xs ++ (List.replicate k (0:UInt8)).map b8)/\Md (ah v).toList w x/\(∀b,ah u=some b->ah v=some b\/w.heap.size<=b):=by
  obtain⟨i,z,G,l,V,a,D⟩:=oS F;have A:z = .int .u8 0:=by rw[G]at s;simp[l]at s;exact s
  subst A
  rcases Nat.eq_zero_or_pos k with rfl|hk
  · rcases d.2 with⟨rfl,rfl⟩|⟨g,cap,cur,rfl,R,S,K,C,J,B⟩
    · exact⟨_,w,zQ h j G<|Nat.le_refl _,by simpa using d,Md.refl _ _,fun b a=>.inl a⟩
    exact⟨_,w,zQ h j G K,by simpa using d,Md.refl _ _,fun b a=>.inl a⟩
  rcases d.2 with⟨rfl,rfl⟩|⟨g,cap,cur,rfl,R,S,K,C,J,B⟩
  · have f:=Lib.run_append_nil_zeros (P:=P) w t o ty' e i (.int .u8 0) kq kn h j G l k hk Xx Xx (by rw[a];omega)
    have p:=grownCap_ge w k 0 e;have C:=grownCap_le_maxLen w k 0 e (by simp only[maxLen];omega);refine⟨_,_,f,?_,⟨q,q,q,by simp,fun k hk _=>heap_alloc_old w.drew _ hk⟩,fun b a=>.inr (by simp[ah]at a;omega)⟩;have r:=heap_alloc_new w.drew<|.cells (Builtin.zeroCells (Value.int .u8 0).cells k ++ Builtin.zeroCells (Value.int .u8 0).cells (grownCap w k 0 e-k)) e;have c:=Own.cL (sz:=1) (m:=k) (b:=w.heap.size) (cap:=grownCap w k 0 e) (cur:=(Builtin.zeroCells (Value.int .u8 0).cells k ++ Builtin.zeroCells (Value.int .u8 0).cells (grownCap w k 0 e-k)).toList) (e:=e) (by unfold bK;rw[Array.toArray_toList];exact r) p C (by simp only[Array.length_toList,Array.size_append,size_zeroCells,D];omega);have H:((Builtin.zeroCells (Value.int .u8 0).cells k ++ Builtin.zeroCells (Value.int .u8 0).cells (grownCap w k 0 e-k)).toList).take (k*1)=(List.replicate k (0:UInt8)).map b8:=(by rw[Array.toList_append,List.take_append,<- FN,List.take_of_length_le (by simp only[Array.length_toList,size_zeroCells,D];omega)];have:k*1-(Builtin.zeroCells (Value.int .u8 0).cells k).toList.length=0:=(by simp only[Array.length_toList,size_zeroCells,D];omega);rw[this];simp);rw[H]at c;have W:xs=[]:=List.eq_nil_of_length_eq_zero (by simpa using d.1);subst W;rw[Nat.zero_add,List.nil_append];exact c
  have r:bK w g cur.toList e:=by unfold bK;rw[Array.toArray_toList];exact S
  by_cases hroom:m+k<=cap
  · have f:=FB (P:=P) (ty:=ty') (kq:=kq) h j G l V a S hk hroom Xx E
    refine⟨_,_,f,?_,by simpa [ah]using Md.setRow w g _,fun b a=>.inl (by simpa [ah]using a)⟩;have c:=Own.cL (sz:=1) (m:=m+k) (r.setRow (us:=dZ cur.toList m<|(List.replicate k (0:UInt8)).map b8)) hroom C (by rw[mW Xh,Array.length_toList];exact J);have H:(dZ cur.toList m<|(List.replicate k (0:UInt8)).map b8).take ((m+k)*1)=xs ++ (List.replicate k (0:UInt8)).map b8:=(by have n:(cur.toList.take m ++ (List.replicate k (0:UInt8)).map b8).length=m+k:=(by rw[List.length_append,List.length_take,List.length_map,List.length_replicate,Array.length_toList];omega);unfold dZ;rw[Nat.mul_one,List.take_append,List.take_of_length_le Xx,n,Nat.sub_self,List.take_zero,List.append_nil];congr 1;simpa using B);rw[H]at c;exact c
  have f:=Lib.run_append_grow_zeros (P:=P) w t o ty' e i (.int .u8 0) kq kn h j G l (some ⟨g,0,none⟩) m cap xs (by rw[V];exact run_firstCells_some (w:=w.drew) 1 m _ m cap xs d.1<|World.ownsRow.cells d (g:=g) q) k hk Xx Xx Xx (by rw[a];omega)<|growslice_fits Xx (by rw[a];omega);have p:=grownCap_ge w (m+k) cap e;have y:=grownCap_le_maxLen w (m+k) cap e (by simp only[maxLen];omega);have T:xs.length=m:=by simpa using d.1
  refine⟨_,_,f,?_,⟨q,q,q,by simp,fun k hk _=>heap_alloc_old w.drew _ hk⟩,fun b a=>.inr (by simp[ah]at a;omega)⟩;have Q:=heap_alloc_new w.drew<|.cells (xs.toArray ++ Builtin.zeroCells (Value.int .u8 0).cells k ++ Builtin.zeroCells (Value.int .u8 0).cells (grownCap w (m+k) cap e-(m+k))) e;have c:=Own.cL (sz:=1) (m:=m+k) (b:=w.heap.size) (cap:=grownCap w (m+k) cap e) (cur:=(xs.toArray ++ Builtin.zeroCells (Value.int .u8 0).cells k ++ Builtin.zeroCells (Value.int .u8 0).cells (grownCap w (m+k) cap e-(m+k))).toList) (e:=e) (by unfold bK;rw[Array.toArray_toList];exact Q) p y (by simp only[Array.length_toList,Array.size_append,List.size_toArray,size_zeroCells,D];omega);have H:((xs.toArray ++ Builtin.zeroCells (Value.int .u8 0).cells k ++ Builtin.zeroCells (Value.int .u8 0).cells (grownCap w (m+k) cap e-(m+k))).toList).take ((m+k)*1)=xs ++ (List.replicate k (0:UInt8)).map b8:=by have n:(xs ++ (List.replicate k (0:UInt8)).map b8).length=m+k:=(by rw[List.length_append,List.length_map,List.length_replicate,T]);rw[Array.toList_append,Array.toList_append,FN,Nat.mul_one,List.take_append,show xs.toArray.toList=xs from rfl,List.take_of_length_le (by rw[n];exact Nat.le_refl _),n,Nat.sub_self,List.take_zero,List.append_nil]
  rw[H]at c;exact c
theorem UA {x y:Operand} {t o e:TypeId} {kq kn:IntKind} {lo:Nat->Prop} {v:Value} {xs:Ly} {k:Nat} (K:P.underlying t=some (.slice e)) (L:P.underlying o=some (.int kn)) (I:vF P e 1 1=true) (O:(P.info? e).bind (·.zero)=some (.int .u8 0)) (M:ev n l x=some v) (N:ev n l y=some (.int kq ((k:Nat):Int)))
    (hO:Ow dh e lo w R v xs) (uR:Up w R) (hlo:∀b,w.heap.size<=b->lo b) (h63:xs.length+k<=1000000000)
    (kk:∀f g j,(∀b,R b->b<w.heap.size->j b)->(∀b,j b->R b)->Up g j->Ow dh e lo g j f (xs ++ List.replicate k (0:UInt8))->Md (ah v).toList w g->(∀b∈(ah v).toList,¬j b)->(∀b,ah v=some b->b<w.heap.size) ->
      (∀b,ah f=some b->ah v=some b\/w.heap.size<=b)->wpList P ops Q rest (aN A D ((d,f) :: l)) g) :
    wpList P ops Q (⟨some d,.call {callee:=.builtin .append,args:=#[x,y],argTypes:=#[t,o]},ty,ps,af,none⟩ :: rest) (aN A D l) w:=by
  refine gI q ?_;have J:=hO;obtain⟨⟨S,r,H⟩,C⟩:=J;obtain⟨rfl,_⟩:=qV H;obtain⟨f,g,E,z,p,G⟩:=M2 (P:=P) (w:=w) (ty':=ty) (kq:=kq) (k:=k) K L I O r h63;have u:(execOp (aN A D l).eval ⟨some d,.call {callee:=.builtin .append,args:=#[x,y],argTypes:=#[t,o]},ty,ps,af,none⟩).run P w = .ok (.value f) g:=by simp[execOp,resolve,invoke,builtin,bM M,bM N,E]
  unfold Oper.wp;rw[u];have F:∀b,R b->b<w.heap.size->(R b/\ah f≠some b):=fun b a T=>⟨a,fun i=>by
    rcases G b i with h|h
    · exact(C b h).2 a
    · omega⟩
  have B:∀b∈(ah v).toList,¬(R b/\ah f≠some b):=fun b a m=>by
    cases i:ah v with
    | none=>rw[i]at a;simp at a
    | some c=>rw[i]at a;simp at a;subst a;exact(C _ i).2 m.1
  have s:Own g e 1 f (xs ++ List.replicate k (0:UInt8)).length ((xs ++ List.replicate k (0:UInt8)).map b8):=by rw[List.map_append,List.length_append,List.length_replicate];exact z
  refine kk f g (fun b=>R b/\ah f≠some b) F (fun b a=>a.1) (fun b a=>⟨uR b<|lv p.size a,fun i=>by have:=s.lt b i;omega⟩) ⟨⟨_,s,uc<|fun _ _=>trivial⟩,fun b a=>⟨?_,fun m=>m.2 a⟩⟩ p B r.lt G
  rcases G b a with h|h
  · exact(C b h).1
  exact hlo b h
end
end Go.Wk
namespace Go.Proofs.YtfadcpfgenjbeaaGreat
open Go Go.Wk Go.RowKit
set_option linter.unusedVariables false
set_option linter.unusedSimpArgs false
attribute [local irreducible] wpList wpQuiet wpStill eF Code.wp Calls bodyPost
variable {w:World} {Q:Nat->Prop}
theorem lU:aJ Zp 203 0=some 0:=Xj
theorem eH:iv Zp 45=true:=Xj
theorem agZ:fG Zp 203=some [(0,1),(1,1)]:=Xj
theorem z203:dX Zp 203=some [.slice none 0 0,.slice none 0 0]:=Xj
structure mD where
  b:List UInt8
  safe:List UInt8
def mD.cells (x:mD) (v0:Value) (v1:Value):List Value :=
  [v0] ++ ([v1])
theorem aeg (c:Up w Q)  :
  Calls Zp 75 #[] w fun v d=>∃g:Nat,∃s:Value,∃t:Value,∃h:mD,∃f:Nat->Prop,v = .returned (.pointer<|some ⟨g,0,none⟩)/\Md [] w d/\iQ w d Q f/\bK d g (mD.cells h s t) 203/\¬f g/\w.heap.size<=g/\Ls dh d f s h.b/\Ls dh d f t h.safe/\({b:=[],safe:=[]}:mD)=h:=by
 have R:=c;refine nR (n:=3) [] c Tryz.func75 q q q fun x a i D=>ns<|an q<|ns<|su (dI (us:=[]) (cs:=(mD.cells (({b:=[],safe:=[]}:mD)) SN SN)) [] z203 agZ q q trivial trivial q q)<|e7 (cs:=(mD.cells (({b:=[],safe:=[]}:mD)) SN SN)) q q ?_;intro j y e u m G;obtain⟨P,p,r,C,l⟩:=oI c e u m;have i:=tT i r;have D:=Sx p D a.size;have e:=lv a.size e;have a:=a.k m;have c:=l;refine ar q ?_;exact gB (.pointer<|some ⟨j,0,none⟩) q ⟨j,_,_,(({b:=[],safe:=[]}:mD)),P,q,a,⟨D,i,c⟩,G,C,e,(by first|exact Ls.nil _ _ _|(simp only[];exact Ls.nil _ _ _)),(by first|exact Ls.nil _ _ _|(simp only[];exact Ls.nil _ _ _)),q⟩
theorem xP (k:Up w Q) {a:Nat} {d:Value} {g:Value} (f:mD) (j:bK w a (mD.cells f d g) 203) (n0:¬Q a) (e:Ls dh w Q d f.b) (p:Ls dh w Q g f.safe) :
  Calls Zp 76 #[.pointer (some ⟨a,0,none⟩)] w fun i l=>∃c:Nat,i = .returned (iZ c)/\Md [] w l/\c<9223372036854775808/\f.b.length=c:=by
 have m:=n0;have h:=Md.refl [] w;have C:=k;refine enter (n:=8) Tryz.func76 q q q fun o=>ns<|an q<|nM q<|sn q<|sf q lU<|sl (u:=d) q eH j q ?_;have D:=e.eJ;refine sL q fM e.eA<|ar q ?_;exact gB (iZ f.b.length) q ⟨f.b.length,q,h,Yy,q⟩
theorem gK:vF Zp 5 1 1=true:=Xj
theorem NR:cO Zp 125=true:=Xj
theorem mixed:Zp.follows .mixedOrders=true:=Xj
theorem PK:aJ Zp 203 1=some 1:=Xj
theorem vB (B:Up w Q) {s:Value} {l:Ly} (j:Ls dh w Q s l) (ad:l.length<=140737488355328) :
  Calls Zp 125 #[s] w fun Y t=>∃A:Value,∃z:List UInt8,∃y:Nat->Prop,Y = .returned (A)/\Md [] w t/\iQ w t Q y/\Ow dh 5 (aX [] w) t y A z/\l=z:=by
 obtain⟨a,e,T,R,V⟩:∃a e,s = .slice a l.length e/\l.length<=e/\(a=none->l=[]):=by obtain⟨a,e,ab,X,K,k,L,_⟩:=j;exact⟨a,e,X,K,fun h=>List.eq_nil_of_length_eq_zero (by have:=L h;omega)⟩
 refine enter (n:=8) Tryz.func125 q q q fun Z=>ns<|an q<|aH<|nM q<|st (.bool a.isNone) (by exact LX (a:=a) (m:=l.length) (c:=e) (by rw[<- T];rfl) fM)<|nt ?_;refine cJ q (fun H=>?_)<|fun H=>?_
 ·have N:l=[]:=V<|Option.isNone_iff_eq_none.1 H;refine ns<|ar q<|aS ?_;exact gh trivial q q ⟨_,[],Q,q,Md.refl [] w,⟨fun x h _=>h,fun x h=>h,B⟩,Ow.nil _ _ _ _ _,N⟩
 refine aM ?_;refine aA<|ns<|kF fM gK ?_;intro b i D W C M;obtain⟨I,v,U,O,f⟩:=oI B D W C;have P:Ow dh 5 (aX [] w) i I (.slice (some ⟨b,0,none⟩) 0 0) []:=Ow.cL (m:=0) M q q (by simp[maxLen]) (.inr D) O;have j:=(j.sub v).o C;refine mv q<|qd (sz:=1) q fM gK q q P j.lz f (aX.new C) Xh Xh ?_;intro p r J S d g E F o _ aa;refine ar q ?_;exact gh trivial q q ⟨_,_,J,q,C.gD F D,⟨Sx S v C.size,fun x G=>U x<|d x G,g⟩,E,by simp⟩
theorem pY (e:Up w Q) {f:Value} {l:Ly} (g:Ls dh w Q f l) (h:l.length<=140737488355328) :
  Calls Zp 125 #[f] w fun d c=>∃b:Value,∃a:List UInt8,d = .returned (b)/\Md [] w c/\Ls dh c Q b a/\l=a :=
 (vB e g h).mono fun d c ⟨b,a,Q2,he,hm,kq,k0,hF⟩=>⟨b,a,he,hm,k0.ls kq.2.1<|aX.up e,hF⟩
theorem aef (d:Up w Q) {c:Nat} {e:Value} {j:Value} (f:mD) (s:bK w c (mD.cells f e j) 203) (n0:¬Q c) (r:Ls dh w Q e f.b) (z:Ls dh w Q j f.safe) (A:f.b.length<=100000000) :
  Calls Zp 71 #[.pointer (some ⟨c,0,none⟩)] w fun g l=>∃i:Value,∃h:List UInt8,g = .returned (i)/\Md [] w l/\Ls dh l Q i h/\f.b=h:=by
 have v:=n0;have x:=d;refine nR (n:=8) [] d Tryz.func71 q q q fun t a p _=>ns<|an q<|nM q<|sn q<|sf q lU<|sl (u:=e) q eH s q<|Rz NR q (pY d r Ym) ?_;rintro g y ⟨C,D,rfl,H,m,o⟩;have a:=a.k H;refine ar q ?_;exact gB C q ⟨_,D,q,a,(m.sub<|fun b G _=>p b G),o⟩
theorem aaj (p:Up w Q) {c:Nat} {j:Value} {x:Value} (f:mD) (a:bK w c (mD.cells f j x) 203) (n0:¬Q c) (d:Ls dh w Q j f.b) (I:Ls dh w Q x f.safe) (J:f.b.length<=100000000) :
  Calls Zp 96 #[.pointer (some ⟨c,0,none⟩)] w fun s k=>∃i:mD,∃t:Value,∃v:Value,s = .returned (.tuple #[])/\Md [c] w k/\bK k c (mD.cells i t v) 203/\¬Q c/\Ls dh k Q t i.b/\Ls dh k Q v i.safe/\({b:=f.b,safe:=f.b}:mD)=i:=by
 have G:=n0;have H:aX [c] w c:=.inl Oj;have P:=p;refine nR (n:=10) [c] p Tryz.func96 q q q ?_;intro E h r _;refine aI<|m2 q q<|sn q<|sf q lU<|sl (u:=j) q eH a q<|Rz NR q (pY p d Ym) ?_;rintro s R ⟨z,C,rfl,g,e,B⟩;obtain⟨d,a,h⟩:=k3 g d a h;refine sn q<|sf q PK<|aQ q q eH e.cZ a (lq q) ?_;have A:=a;intro F g a;have m:∀b∈[c],¬Q b:=hI G;have d:=d.md g m;have e:=e.md g m;have h:=h.step g<|hI H;obtain⟨o,D⟩:∃y,y=({f with safe:=C}:mD):=⟨_,q⟩;have a:bK _ _ (mD.cells ({f with safe:=C}) j z) _:=a;rw[<- D]at a;rw[show f.b=o.b by rw[D]]at d;rw[show C=o.safe by rw[D]]at e;refine aG ?_;exact kM (vs:=[]) trivial q trivial q ⟨o,_,_,q,h,a,n0,(d.sub<|fun b l _=>r b l),(e.sub<|fun b l _=>r b l),(by rw[D,<- B])⟩
theorem u9:Zp.underlying 9=some (.string):=Xj
theorem aai (e:Up w Q) {F:Nat} {U:Value} {X:Value} (f:mD) (s:bK w F (mD.cells f U X) 203) (n0:¬Q F) (S:Ls dh w Q U f.b) (A:Ls dh w Q X f.safe) (ai:f.b.length<=1000000) (aj:f.safe.length<=1000000) :
  Calls Zp 77 #[.pointer (some ⟨F,0,none⟩)] w fun T u=>∃I:Nat,∃Z:Value,∃aa:Value,∃J:mD,∃E:Nat->Prop,T = .returned (.pointer<|some ⟨I,0,none⟩)/\Md [] w u/\iQ w u Q E/\bK u I (mD.cells J Z aa) 203/\¬E I/\w.heap.size<=I/\Ow dh 5 (aX [] w) u E Z J.b/\Ls dh u E aa J.safe/\({b:=f.b,safe:=f.safe}:mD)=J:=by
 have i:=n0;have k:=e;refine nR (n:=15) [] e Tryz.func77 q q q fun ag a z v=>ns<|an q<|aH ?_;have K:=s;refine nL [(0,true),(1,true),(2,true),(3,true),(5,true),(6,true),(7,true),(8,true),(4,false)] [9,10,11,12] mixed ?_;intro o Y;have W:=Y;refine mo q<|my (bN q)<|my (aF q lU)<|mz (fun u O=>(aD q eH (K.o O) q).to (b:=U) q)<|mo q<|my (bN q)<|my (aF q PK)<|mz (fun u O=>(aD q eH (K.o O) q).to (b:=X) q) ?_;obtain⟨S,A,s,e,a⟩:=k5 Y S A s e a;refine jc ?_ rfl;refine Rz NR q (vB e S Ym) ?_;rintro T p ⟨G,M,l,rfl,D,⟨m,V,x⟩,j,ae⟩;have c:∀b,ah G=some b->b∈[]\/_:=fun b P=>Or.inr<|lv W.size<|(j.2 b P).1.elim (fun h=>by simp at h) id;have z:=tT z V;have v:=Sx m v a.size;have j:=j.lower<|aX.lift (S':=[]) a;have A:=(A.sub m).o D;obtain⟨s,a,W⟩:=k3 D s a W;have e:=x;refine aG ⟨q,W,?_⟩;refine di ?_;refine Rz NR q (pY e A Ym) ?_;rintro T r ⟨L,N,rfl,D,C,g⟩;obtain⟨s,j⟩:=k2 D s j;obtain⟨e,a⟩:=k2 D e a;refine su (dI (us:=[[G],[L]]) (cs:=(mD.cells (({b:=M,safe:=N}:mD)) G L)) [(0,0,1),(1,1,1)] z203 agZ q q ⟨(gb j.cZ),(gb C.cZ),tV⟩ Fz q q)<|e7 (cs:=(mD.cells (({b:=M,safe:=N}:mD)) G L)) q q ?_;intro H t B ad D ab;have d:F≠H:=(by have:=s.lt;omega);obtain⟨af,m,V,R,x⟩:=oI e B ad D;have z:=tT z V;have v:=Sx m v a.size;have B:=lv a.size B;have j:=(j.sub m V).o D;have C:=(C.sub m).o D;have a:=a.k D;have e:=x;refine ar q ?_;exact gB (.pointer<|some ⟨H,0,none⟩) q ⟨H,_,_,(({b:=M,safe:=N}:mD)),af,q,a,⟨v,z,e⟩,ab,R,B,j,C,(by rw[<- ae,<- g])⟩
theorem SD (i:Up w Q) {e:Value} {a:Ly} (c:Ls dh w Q e a) {f:Value} {b:Ly} (h1:Ls dh w Q f b) :
  Calls Zp 130 #[e,f] w fun h j=>∃d:Bool,h = .returned (.bool d)/\Md [] w j/\decide (a=b)=d:=by
 have C:=c.eJ;have D:=h1.eJ;have g:=Md.refl [] w;have k:=i;refine enter (n:=10) Tryz.func130 q q q fun l=>ns<|an q<|nM q<|su (xJ (s:=a) fM u5 u9 q c.by)<|mv q<|su (xJ (s:=b) fM u5 u9 q h1.by)<|su (EY (a:=a) (b:=b) q q)<|ar q ?_;exact gB (.bool<|(decide (a=b))) q ⟨(decide (a=b)),q,g,(by simp(disch:=first|omega|assumption|simp) only [SS,reduceIte])⟩
theorem vH:vF Zp 3 1 8=true:=Xj
theorem ajo:cO Zp 130=true:=Xj
theorem wu:Zp.underlying 22=some (.slice 3):=Xj
theorem el3:fW Zp 3 1=true:=Xj
theorem gQ:iv Zp 3=true:=Xj
theorem aln:cO Zp 96=true:=Xj
theorem vT:iv Zp 4=true:=Xj
theorem u3:Zp.underlying 3=some (.int .i64):=Xj
def zV (f:mD) (p:Int) (x:Ly):Nat × mD :=
  if p<0 then(1,f)else if 32768<p\/32768-p<((x.length:Nat):Int)then(15,f)else if x.length=0 then(0,f)
  else(0,{f with b:=jr f.b p.toNat x})
theorem alB {f:mD} {p:Int} {x:Ly} (h:p<0):zV f p x=(1,f):=by unfold zV;rw[if_pos h]
theorem ahh {f:mD} {p:Int} {x:Ly} (h:¬p<0) (a:32768<p\/32768-p<((x.length:Nat):Int)):zV f p x=(15,f):=by unfold zV;rw[if_neg h,if_pos a]
theorem ak3 {f:mD} {p:Int} {x:Ly} (h:¬p<0) (a:¬(32768<p\/32768-p<((x.length:Nat):Int))) (b:x.length=0):zV f p x=(0,f):=by unfold zV;rw[if_neg h,if_neg a,if_pos b]
theorem XL {f:mD} {p:Int} {x:Ly} (h:¬p<0) (a:¬(32768<p\/32768-p<((x.length:Nat):Int))) (c:¬x.length=0):zV f p x=(0,{f with b:=jr f.b p.toNat x}):=by unfold zV;rw[if_neg h,if_neg a,if_neg c]
set_option maxRecDepth 100000 in
theorem Un (B:Up w Q) {I:Nat} {K:Value} {ab:Value} (f:mD) (e:bK w I (mD.cells f K ab) 203) (n0:¬Q I) (s:Ow dh 5 (fun _=>True) w Q K f.b) (A:Ls dh w Q ab f.safe) (p:Int) (aE:(-9223372036854775808<=p/\p<9223372036854775808)) {aa:Value} {x:Ly} (L:Ls dh w Q aa x) (aF:f.b.length<=1000000) :
  Calls Zp 78 #[.pointer (some ⟨I,0,none⟩),(iZ (p:Int)),aa] w fun aw ad=>∃aj:Nat,∃ai:mD,∃ao:Value,∃ap:Value,∃ae:Nat->Prop,aw = .returned (iZ aj)/\Md (I :: (ah K).toList) w ad/\iQ w ad Q ae/\aj<9223372036854775808/\bK ad I (mD.cells ai ao ap) 203/\¬ae I/\Ow dh 5 (aX (I :: (ah K).toList) w) ad ae ao ai.b/\Ls dh ad ae ap ai.safe/\zV f p x=(aj,ai):=by
 have aD:=L.eJ;have C:=n0;have k:aX (I :: (ah K).toList) w I:=.inl Oj;have s:=s.cT (lo':=aX (I :: (ah K).toList) w)<|fun b T=>.inl (by simp[T]);have E:=Md.refl (I :: (ah K).toList) w;have az:=B;have X:∀b,Q b->Q b:=fun _ h=>h;have U:∀b,Q b->b<w.heap.size->Q b:=fun _ h _=>h;refine enter (n:=54) Tryz.func78 q q q fun aC=>ns<|an q<|aH<|bf<|nM q<|su (oA (a:=p) (b:=0) q q)<|cV q<|nt ?_;refine cJ q (fun S=>?_)<|fun S=>?_
 ·(first|(have P:=dq S)|(have P:=dF<|ir S)|(have P:=ir S)|(have P:=S));refine ns<|ar q<|bS<|aS ?_;exact kY (v:=(iN 1)) trivial q ⟨q,tV⟩ ⟨1,f,_,_,Q,q,E,⟨U,X,B⟩,Yy,e,C,s,A,(alB Xx)⟩
 (first|(have P:=dF S)|(have P:=dq<|iq S)|(have P:=iq S)|(have P:=S));refine nM q<|su (qb (a:=p) (b:=32768) q q)<|mv q ?_;refine ck (t:=14) q (fun j=>?_)<|fun j=>?_
 ·(first|(have G:=dq j)|(have G:=dF<|ir j)|(have G:=ir j)|(have G:=j));refine sk j<|sk j<|sk j<|sk j<|sk j<|su (bC q j q)<|an q<|jJ q q<|ns<|ar q<|bS ?_;refine aS ?_;exact kY (v:=(iN 15)) trivial q ⟨q,tV⟩ ⟨15,f,_,_,Q,q,E,⟨U,X,B⟩,Yy,e,C,s,A,(ahh Xx Xx)⟩
 (first|(have G:=dF j)|(have G:=dq<|iq j)|(have G:=iq j)|(have G:=j));refine sg j (aP q)<|sg j (jR q fM L.eA)<|sg j (aP q)<|sg j (iO (a:=32768) (b:=p) q q Xx)<|sg j (qb (a:=((x.length:Nat):Int)) (b:=32768-p) q q)<|su (aU q j q)<|an q ?_;refine cJ q (fun M=>?_)<|fun M=>?_
 ·(first|(have Y:=dq M)|(have Y:=dF<|ir M)|(have Y:=ir M)|(have Y:=M));refine ns<|ar q<|bS<|aS ?_;exact kY (v:=(iN 15)) trivial q ⟨q,tV⟩ ⟨15,f,_,_,Q,q,E,⟨U,X,B⟩,Yy,e,C,s,A,(ahh Xx Xx)⟩
 (first|(have Y:=dF M)|(have Y:=dq<|iq M)|(have Y:=iq M)|(have Y:=M));refine nM q<|sL q fM L.eA<|su (fD (a:=x.length) (b:=0) q q)<|an q ?_;refine cJ q (fun N=>?_)<|fun N=>?_
 ·(first|(have H:=dq N)|(have H:=dF<|ir N)|(have H:=ir N)|(have H:=N));refine ns<|ar q<|bS<|aS ?_;exact kY (v:=(iN 0)) trivial q ⟨q,tV⟩ ⟨0,f,_,_,Q,q,E,⟨U,X,B⟩,Yy,e,C,s,A,(ak3 Xx Xx Xx)⟩
 (first|(have H:=dF N)|(have H:=dq<|iq N)|(have H:=iq N)|(have H:=N));refine aM<|bG<|aA<|aH<|ns<|m2 q q<|sL q fM L.eA<|su (eB (a:=p) (b:=((x.length:Nat):Int)) q q Xx)<|mv q<|sn q<|sf q lU<|sl (u:=K) q eH e q<|sL q fM s.eA ?_;refine su (iO (a:=p+((x.length:Nat):Int)) (b:=((f.b.length:Nat):Int)) q q Xx)<|an q<|nM q<|su (qb (a:=p+((x.length:Nat):Int)-((f.b.length:Nat):Int)) (b:=0) q q)<|nt ?_;refine cJ q (fun O=>?_)<|fun O=>?_
 ·(first|(have Z:=dq O)|(have Z:=dF<|ir O)|(have Z:=ir O)|(have Z:=O));refine aI<|m2 q q<|sn q<|sf q lU<|sl (u:=K) q eH e q<|mv q<|UA fM u3 gK Xj q (cW q (show(p+((x.length:Nat):Int)-((f.b.length:Nat):Int):Int)=(((p+((x.length:Nat):Int)-((f.b.length:Nat):Int)).toNat:Nat):Int)from by omega)) s B (aX.new E) Ym ?_;intro aa aG al r ak l J m F _ aq;have D:=s;have C:=nQ C ak;have X:=tT X ak;have U:=Sx r U E.size;have A:=(A.sub r).md m F;have e:=e.md m<|aW D e;have L:=(L.sub r).md m F;have B:=B.md m;have E:=E.cE m<|Sy D;have B:=l;clear l r ak F aq;refine sn q<|sf q lU<|aQ q q eH J.cZ e (lq q) ?_;have g:=e;intro aJ m e;have F:∀b∈[I],¬al b:=hI C;have A:=A.md m F;have L:=L.md m F;have J:=J.md m (aB g J) F;have B:=B.md m;have E:=E.step m<|hI k;obtain⟨c,V⟩:∃y,y=({f with b:=f.b ++ (List.replicate (p+((x.length:Nat):Int)-((f.b.length:Nat):Int)).toNat (0:UInt8))}:mD):=⟨_,q⟩;have e:bK _ _ (mD.cells ({f with b:=f.b ++ (List.replicate (p+((x.length:Nat):Int)-((f.b.length:Nat):Int)).toNat (0:UInt8))}) aa ab) _:=e;rw[<- V]at e;rw[show f.b ++ (List.replicate (p+((x.length:Nat):Int)-((f.b.length:Nat):Int)).toNat (0:UInt8))=c.b by rw[V]]at J;rw[show f.safe=c.safe by rw[V]]at A;refine nt<|nM q<|sn q<|sf q lU<|sl (u:=aa) q eH e q ?_;have au:=congrArg (fun qv:mD=>qv.b.length) V
  simp only[List.length_append,List.length_replicate]at au;refine su (((show cw _ _ _ _ (iZ<|p)from aP q).jf (Int.toNat_of_nonneg Xx).symm))<|su (jE 1 ((p).toNat) c.b.length fM qs q J.eA Xx Xx ⟨_,q⟩ q) ?_;have z:=J.read.tail (lo:=(p).toNat) Xx;refine mv q ?_;refine uP (i:=(p).toNat) fM qs q q J L Xx (by first|omega|(simp at *;omega)) ?_;intro ay m F d;have W:=J;have J:=d;have A:=A.md m F;have e:=e.md m<|aW W e;have B:=B.md m;have E:=E.cE m<|Sy W;obtain⟨o,af⟩:∃y,y=({c with b:=c.b.take (p).toNat ++ x ++ c.b.drop ((p).toNat+x.length)}:mD):=⟨_,q⟩;have e:bK ay I (mD.cells o aa ab) 203:=(by rw[af];exact e);rw[show c.b.take (p).toNat ++ x ++ c.b.drop ((p).toNat+x.length)=o.b by rw[af]]at J;rw[show c.safe=o.safe by rw[af]]at A;refine nt<|ns<|ar q ?_;exact kY (v:=(iN 0)) trivial q ⟨q,tV⟩ ⟨0,o,_,_,al,q,E,⟨U,X,B⟩,Yy,e,C,J,A,(by rw[XL Xx Xx Xx];rw[af,V];exact congrArg (fun qv:List UInt8=>((0:Nat),({f with b:=qv}:mD)))<|UM Xx)⟩
 (first|(have Z:=dF O)|(have Z:=dq<|iq O)|(have Z:=iq O)|(have Z:=O));refine aM<|aA<|nM q<|sn q<|sf q lU<|sl (u:=K) q eH e q<|su (((show cw _ _ _ _ (iZ<|p)from aP q).jf (Int.toNat_of_nonneg Xx).symm))<|su (jE 1 ((p).toNat) f.b.length fM qs q s.eA Xx Xx ⟨_,q⟩ q) ?_;have ax:=s.read.tail (lo:=(p).toNat) Xx;refine mv q ?_;refine uP (i:=(p).toNat) fM qs q q s L Xx (by first|omega|(simp at *;omega)) ?_;intro av m F am;have D:=s;have s:=am;have A:=A.md m F;have e:=e.md m<|aW D e;have B:=B.md m;have E:=E.cE m<|Sy D;obtain⟨ag,R⟩:∃y,y=({f with b:=f.b.take (p).toNat ++ x ++ f.b.drop ((p).toNat+x.length)}:mD):=⟨_,q⟩;have e:bK av I (mD.cells ag K ab) 203:=(by rw[R];exact e);rw[show f.b.take (p).toNat ++ x ++ f.b.drop ((p).toNat+x.length)=ag.b by rw[R]]at s;rw[show f.safe=ag.safe by rw[R]]at A;refine nt<|ns<|ar q ?_;exact kY (v:=(iN 0)) trivial q ⟨q,tV⟩ ⟨0,ag,_,_,Q,q,E,⟨U,X,B⟩,Yy,e,C,s,A,(by rw[XL Xx Xx Xx];rw[R];exact congrArg (fun qv:List UInt8=>((0:Nat),({f with b:=qv}:mD)))<|aeA Xx)⟩
end Go.Proofs.YtfadcpfgenjbeaaGreat
