/- Part 2 of what the walk of a law stands on: Types, RefP, HashN, MakerP, MakerQ, FldR, SeqP, Loops2, MakerR, MakerS, Anys, AnyI, FieldQ, FldS, CompR, HeadR, HeadQ, ViewP, RefV, RefV2, AtP, AtQ, AtR, RatP, ImgP, LinkP, LinkQ, LinkV, MakeP, LastP, RecP, AtT, RawP, RawT, ChP, ImT1, ImT2, CkA. No statement is proved here. -/
import Derived.Test.YtmobbnpkkmeoiaaGreatSRI1
set_option linter.unusedVariables false
set_option linter.unusedSimpArgs false
namespace Go.Wk
open Go Go.RowKit
def oZ (l:List Nat):List Value:=[.int .u64 ((l.getD 0 0:Nat):Int),.int .u64 ((l.getD 1 0:Nat):Int),.int .u64 ((l.getD 2 0:Nat):Int),.int .u64 ((l.getD 3 0:Nat):Int),.int .u64 ((l.getD 4 0:Nat):Int),.int .u64 ((l.getD 5 0:Nat):Int),.int .u64 ((l.getD 6 0:Nat):Int),.int .u64 ((l.getD 7 0:Nat):Int),.int .u64 ((l.getD 8 0:Nat):Int),.int .u64 ((l.getD 9 0:Nat):Int),.int .u64 ((l.getD 10 0:Nat):Int),.int .u64 ((l.getD 11 0:Nat):Int),.int .u64 ((l.getD 12 0:Nat):Int),.int .u64 ((l.getD 13 0:Nat):Int),.int .u64 ((l.getD 14 0:Nat):Int),.int .u64 ((l.getD 15 0:Nat):Int),.int .u64 ((l.getD 16 0:Nat):Int),.int .u64 ((l.getD 17 0:Nat):Int),.int .u64 ((l.getD 18 0:Nat):Int),.int .u64 ((l.getD 19 0:Nat):Int)]
theorem sB {l:List Nat} (h:l.length=20):oZ l=l.map fun x=>.int .u64 (x:Int):=by
  apply List.ext_getElem
  · simp[oZ,h]
  intro i C E
  simp[oZ]at C
  simp only[List.getElem_map]
  have B:i<l.length:=by omega
  rcases Nat.lt_or_ge i 7 with D|D
  · rcases(show i=0∨i=1∨i=2∨i=3∨i=4∨i=5∨i=6 by omega)with rfl|rfl|rfl|rfl|rfl|rfl|rfl <;> simp[oZ,List.getD,B]
  skip
  rcases Nat.lt_or_ge i 14 with A|A
  · rcases(show i=7∨i=8∨i=9∨i=10∨i=11∨i=12∨i=13 by omega)with rfl|rfl|rfl|rfl|rfl|rfl|rfl <;> simp[oZ,List.getD,B]
  skip
  rcases(show i=14∨i=15∨i=16∨i=17∨i=18∨i=19 by omega)with rfl|rfl|rfl|rfl|rfl|rfl <;> simp[oZ,List.getD,B]
theorem EL {l:List Nat} {k v:Nat} (h:l.length=20) (hk:k<20):oZ (l.set k v)=(oZ l).set k (.int .u64 (v:Int)):=by
  rw[sB h,sB (by simpa using h),List.map_set]
def ag0:Dt (List Nat) where
  n:=20
  b9:=by decide
  qg _ _ cs x:=cs=oZ x∧x.length=20∧∀y∈x,y<18446744073709551616
  len:=by rintro _ _ _ _ ⟨rfl,_⟩;rfl
  one:=by
    rintro _ _ _ _ ⟨rfl,h,_⟩ u hu
    rw[sB h]at hu
    obtain⟨x,_,rfl⟩:=List.mem_map.1 hu
    rfl
  md:=fun h _ _=>h
  sub:=fun h _=>h
def pn (l:List Nat):List Value:=[.int .u64 ((l.getD 0 0:Nat):Int),.int .u64 ((l.getD 1 0:Nat):Int),.int .u64 ((l.getD 2 0:Nat):Int),.int .u64 ((l.getD 3 0:Nat):Int),.int .u64 ((l.getD 4 0:Nat):Int),.int .u64 ((l.getD 5 0:Nat):Int),.int .u64 ((l.getD 6 0:Nat):Int),.int .u64 ((l.getD 7 0:Nat):Int),.int .u64 ((l.getD 8 0:Nat):Int),.int .u64 ((l.getD 9 0:Nat):Int),.int .u64 ((l.getD 10 0:Nat):Int),.int .u64 ((l.getD 11 0:Nat):Int),.int .u64 ((l.getD 12 0:Nat):Int),.int .u64 ((l.getD 13 0:Nat):Int),.int .u64 ((l.getD 14 0:Nat):Int),.int .u64 ((l.getD 15 0:Nat):Int),.int .u64 ((l.getD 16 0:Nat):Int),.int .u64 ((l.getD 17 0:Nat):Int),.int .u64 ((l.getD 18 0:Nat):Int),.int .u64 ((l.getD 19 0:Nat):Int),.int .u64 ((l.getD 20 0:Nat):Int)]
theorem wC {l:List Nat} (h:l.length=21):pn l=l.map fun x=>.int .u64 (x:Int):=by
  apply List.ext_getElem
  · simp[pn,h]
  intro i C E
  simp[pn]at C
  simp only[List.getElem_map]
  have B:i<l.length:=by omega
  rcases Nat.lt_or_ge i 7 with D|D
  · rcases(show i=0∨i=1∨i=2∨i=3∨i=4∨i=5∨i=6 by omega)with rfl|rfl|rfl|rfl|rfl|rfl|rfl <;> simp[pn,List.getD,B]
  skip
  rcases Nat.lt_or_ge i 14 with A|A
  · rcases(show i=7∨i=8∨i=9∨i=10∨i=11∨i=12∨i=13 by omega)with rfl|rfl|rfl|rfl|rfl|rfl|rfl <;> simp[pn,List.getD,B]
  skip
  rcases(show i=14∨i=15∨i=16∨i=17∨i=18∨i=19∨i=20 by omega)with rfl|rfl|rfl|rfl|rfl|rfl|rfl <;> simp[pn,List.getD,B]
theorem TA {l:List Nat} {k v:Nat} (h:l.length=21) (hk:k<21):pn (l.set k v)=(pn l).set k (.int .u64 (v:Int)):=by
  rw[wC h,wC (by simpa using h),List.map_set]
def ag1:Dt (List Nat) where
  n:=21
  b9:=by decide
  qg _ _ cs x:=cs=pn x∧x.length=21∧∀y∈x,y<18446744073709551616
  len:=by rintro _ _ _ _ ⟨rfl,_⟩;rfl
  one:=by
    rintro _ _ _ _ ⟨rfl,h,_⟩ u hu
    rw[wC h]at hu
    obtain⟨x,_,rfl⟩:=List.mem_map.1 hu
    rfl
  md:=fun h _ _=>h
  sub:=fun h _=>h
theorem dn {a b:List Value} (h:a.all (fun u=>u.oneCell')=true) (h2:b.all (fun u=>u.oneCell')=true):(a ++ b).all (fun u=>u.oneCell')=true:=by rw[List.all_append,h,h2];rfl
theorem pq {v:Value} (h:v.oneCell'=true):[v].all (fun u=>u.oneCell')=true:=by simp[h]
theorem kF (l:Ly):(jS l).all (fun u=>u.oneCell')=true:=List.all_eq_true.2 (AX l)
theorem lu (n:Nat):(List.replicate n 0).length=n∧∀y∈List.replicate n 0,y<18446744073709551616:=⟨by simp,by simp⟩
theorem xk {l:List Nat} {n k v:Nat} (h:l.length=n∧∀y∈l,y<18446744073709551616) (hv:v<18446744073709551616):(l.set k v).length=n∧∀y∈l.set k v,y<18446744073709551616 :=
  ⟨by simpa using h.1,fun y hy=>(List.mem_or_eq_of_mem_set hy).elim (h.2 y) (fun e=>e ▸ hv)⟩
theorem eT {l:List Nat} {n:Nat} (h:l.length=n∧∀y∈l,y<18446744073709551616) (k:Nat):l.getD k 0<18446744073709551616:=by
  rw[List.getD_eq_getElem?_getD]
  cases hk:l[k]? with
  | none=>simp
  | some y=>simpa using h.2 y (List.mem_of_getElem? hk)
structure Pr where
  name:List UInt8
  value:List UInt8
def Pr.cells (x:Pr):List Value :=
  [(str x.name)] ++ ([(str x.value)])
def p9:Dt Pr:=uJ (fun x=>(x.name,x.value)) (gP UN UN)
theorem jC {w:World} {Q:Nat→Prop} {cs:List Value} {x:Pr} (h:p9.qg w Q cs x):∃(_:True),cs=x.cells:=by
  obtain⟨_,_,rfl,⟨rfl,_⟩,⟨rfl,_⟩⟩:=h
  exact⟨trivial,q⟩
theorem nT {w:World} {Q:Nat→Prop} {x:Pr}:p9.qg w Q (x.cells) x :=
  ⟨_,_,q,⟨q,tV⟩,⟨q,tV⟩⟩
theorem Pr.one {x:Pr}:(x.cells).all (fun u=>u.oneCell')=true:=(dn q q)
structure Rec where
  seq:Nat
  cu:Nat
  mono:Nat
  bV:List UInt8
  aj:List Pr
def Rec.cells (x:Rec) (v0:Value):List Value :=
  [(.int .u64 x.seq)] ++ ([(.int .u64 x.cu)] ++ ([(.int .u64 x.mono)] ++ ((jS x.bV) ++ ([v0]))))
def ag2:Dt Rec:=uJ (fun x=>(x.seq,x.cu,x.mono,x.bV,x.aj)) (gP dY (gP dY (gP dY (gP tId (yY p9)))))
def Rec.ok (x:Rec):Prop:=x.seq<18446744073709551616∧x.cu<18446744073709551616∧x.mono<18446744073709551616∧x.bV.length=16
theorem ag3 {w:World} {Q:Nat→Prop} {x:Rec} {v0:Value} (c0:Rec.ok x) (c1:Ls p9 w Q v0 x.aj):ag2.qg w Q (x.cells v0) x :=
  ⟨_,_,q,⟨q,c0.1⟩,⟨_,_,q,⟨q,c0.2.1⟩,⟨_,_,q,⟨q,c0.2.2.1⟩,⟨_,_,q,⟨q,c0.2.2.2⟩,⟨_,q,c1⟩⟩⟩⟩⟩
theorem Rec.one {x:Rec} {v0:Value} (h0:v0.oneCell'=true):(x.cells v0).all (fun u=>u.oneCell')=true:=(dn q (dn q (dn q (dn (kF _) (pq h0)))))
structure Frame where
  kind:Nat
  flags:Nat
  size:Nat
structure gQ where
  cQ:Nat
  bT:Nat
  eH:Nat
  entry:Nat
  array:Nat
  bQ:Nat
  ak:List UInt8
def gQ.cells (x:gQ) (v0:Value):List Value :=
  [(.int .u64 x.cQ)] ++ ([(.int .u64 x.bT)] ++ ([(.int .u64 x.eH)] ++ ([(.int .u64 x.entry)] ++ ([(.int .u64 x.array)] ++ ([(.int .u64 x.bQ)] ++ ([v0]))))))
def gQ.ok (x:gQ):Prop:=x.cQ<18446744073709551616∧x.bT<18446744073709551616∧x.eH<18446744073709551616∧x.entry<18446744073709551616∧x.array<18446744073709551616∧x.bQ<18446744073709551616
theorem gQ.one {x:gQ} {v0:Value} (h0:v0.oneCell'=true):(x.cells v0).all (fun u=>u.oneCell')=true:=(dn q (dn q (dn q (dn q (dn q (dn q (pq h0)))))))
structure jw where
  cQ:Nat
  bT:Nat
  dat:Nat
  ak:List UInt8
def jw.cells (x:jw) (v0:Value):List Value :=
  [(.int .u64 x.cQ)] ++ ([(.int .u64 x.bT)] ++ ([(.int .u64 x.dat)] ++ ([v0])))
def jw.ok (x:jw):Prop:=x.cQ<18446744073709551616∧x.bT<18446744073709551616∧x.dat<18446744073709551616
theorem jw.one {x:jw} {v0:Value} (h0:v0.oneCell'=true):(x.cells v0).all (fun u=>u.oneCell')=true:=(dn q (dn q (dn q (pq h0))))
structure kV where
  b9:Nat
  cQ:Nat
def kV.cells (x:kV):List Value :=
  [(.int .u64 x.b9)] ++ ([(.int .u64 x.cQ)])
def sN:Dt kV:=uJ (fun x=>(x.b9,x.cQ)) (gP dY dY)
def kV.ok (x:kV):Prop:=x.b9<18446744073709551616∧x.cQ<18446744073709551616
theorem vq {w:World} {Q:Nat→Prop} {cs:List Value} {x:kV} (h:sN.qg w Q cs x):∃(_:True),cs=x.cells∧kV.ok x:=by
  obtain⟨_,_,rfl,⟨rfl,A⟩,⟨rfl,B⟩⟩:=h
  exact⟨trivial,q,⟨A,B⟩⟩
theorem XY {w:World} {Q:Nat→Prop} {x:kV} (c0:kV.ok x):sN.qg w Q (x.cells) x :=
  ⟨_,_,q,⟨q,c0.1⟩,⟨q,c0.2⟩⟩
theorem kV.one {x:kV}:(x.cells).all (fun u=>u.oneCell')=true:=(dn q q)
structure gI where
  seq:Nat
  cu:Nat
  mono:Nat
  bV:List UInt8
  xor:Nat
  aD:List kV
def gI.cells (x:gI) (v0:Value):List Value :=
  [(.int .u64 x.seq)] ++ ([(.int .u64 x.cu)] ++ ([(.int .u64 x.mono)] ++ ((jS x.bV) ++ ([(.int .u64 x.xor)] ++ ([v0])))))
def gI.ok (x:gI):Prop:=x.seq<18446744073709551616∧x.cu<18446744073709551616∧x.mono<18446744073709551616∧x.bV.length=16∧x.xor<18446744073709551616
theorem gI.one {x:gI} {v0:Value} (h0:v0.oneCell'=true):(x.cells v0).all (fun u=>u.oneCell')=true:=(dn q (dn q (dn q (dn (kF _) (dn q (pq h0))))))
structure j5 where
  next:Nat
  aD:List Nat
def j5.cells (x:j5) (v0:Value):List Value :=
  [(.int .u64 x.next)] ++ ([v0])
def j5.ok (x:j5):Prop:=x.next<18446744073709551616
theorem j5.one {x:j5} {v0:Value} (h0:v0.oneCell'=true):(x.cells v0).all (fun u=>u.oneCell')=true:=(dn q (pq h0))
structure oQ where
  first:Nat
  tail:Nat
def oQ.cells (x:oQ):List Value :=
  [(.int .u64 x.first)] ++ ([(.int .u64 x.tail)])
def HD:Dt oQ:=uJ (fun x=>(x.first,x.tail)) (gP dY dY)
def oQ.ok (x:oQ):Prop:=x.first<18446744073709551616∧x.tail<18446744073709551616
theorem NI {w:World} {Q:Nat→Prop} {cs:List Value} {x:oQ} (h:HD.qg w Q cs x):∃(_:True),cs=x.cells∧oQ.ok x:=by
  obtain⟨_,_,rfl,⟨rfl,A⟩,⟨rfl,B⟩⟩:=h
  exact⟨trivial,q,⟨A,B⟩⟩
theorem NH {w:World} {Q:Nat→Prop} {x:oQ} (c0:oQ.ok x):HD.qg w Q (x.cells) x :=
  ⟨_,_,q,⟨q,c0.1⟩,⟨q,c0.2⟩⟩
structure fP where
  iF:Nat
  bX:Nat
  state:Nat
  dh:List UInt8
  eR:List UInt8
  bV:List UInt8
  seq:List UInt8
  n:List Nat
  er:Nat
  eB:Nat
  eN:Nat
def fP.cells (x:fP):List Value :=
  [(.int .u32 x.iF)] ++ ([(.int .u32 x.bX)] ++ ([(.int .i64 x.state)] ++ ((jS x.dh) ++ ((jS x.eR) ++ ((jS x.bV) ++ ((jS x.seq) ++ ((oZ x.n) ++ ([(.int .u32 x.er)] ++ ([(.int .u32 x.eB)] ++ ([(.int .u64 x.eN)]))))))))))
def UM:Dt fP:=uJ (fun x=>(x.iF,x.bX,x.state,x.dh,x.eR,x.bV,x.seq,x.n,x.er,x.eB,x.eN)) (gP tU32 (gP tU32 (gP jQ (gP tId (gP tId (gP tId (gP tId (gP (ag0) (gP tU32 (gP tU32 dY))))))))))
def fP.ok (x:fP):Prop:=x.iF<4294967296∧x.bX<4294967296∧x.state<9223372036854775808∧x.dh.length=16∧x.eR.length=16∧x.bV.length=16∧x.seq.length=16∧(x.n.length=20∧∀y∈x.n,y<18446744073709551616)∧x.er<4294967296∧x.eB<4294967296∧x.eN<18446744073709551616
theorem aa5 {w:World} {Q:Nat→Prop} {cs:List Value} {x:fP} (h:UM.qg w Q cs x):∃(_:True),cs=x.cells∧fP.ok x:=by
  obtain⟨_,_,rfl,⟨rfl,B⟩,⟨_,_,rfl,⟨rfl,C⟩,⟨_,_,rfl,⟨rfl,D⟩,⟨_,_,rfl,⟨rfl,E⟩,⟨_,_,rfl,⟨rfl,F⟩,⟨_,_,rfl,⟨rfl,G⟩,⟨_,_,rfl,⟨rfl,H⟩,⟨_,_,rfl,⟨rfl,I⟩,⟨_,_,rfl,⟨rfl,J⟩,⟨_,_,rfl,⟨rfl,K⟩,⟨rfl,A⟩⟩⟩⟩⟩⟩⟩⟩⟩⟩⟩:=h
  exact⟨trivial,q,⟨B,C,D,E,F,G,H,I,J,K,A⟩⟩
theorem aa4 {w:World} {Q:Nat→Prop} {x:fP} (c0:fP.ok x):UM.qg w Q (x.cells) x :=
  ⟨_,_,q,⟨q,c0.1⟩,⟨_,_,q,⟨q,c0.2.1⟩,⟨_,_,q,⟨q,c0.2.2.1⟩,⟨_,_,q,⟨q,c0.2.2.2.1⟩,⟨_,_,q,⟨q,c0.2.2.2.2.1⟩,⟨_,_,q,⟨q,c0.2.2.2.2.2.1⟩,⟨_,_,q,⟨q,c0.2.2.2.2.2.2.1⟩,⟨_,_,q,⟨q,c0.2.2.2.2.2.2.2.1⟩,⟨_,_,q,⟨q,c0.2.2.2.2.2.2.2.2.1⟩,⟨_,_,q,⟨q,c0.2.2.2.2.2.2.2.2.2.1⟩,⟨q,c0.2.2.2.2.2.2.2.2.2.2⟩⟩⟩⟩⟩⟩⟩⟩⟩⟩⟩
theorem fP.one {x:fP}:(x.cells).all (fun u=>u.oneCell')=true:=(dn q (dn q (dn q (dn (kF _) (dn (kF _) (dn (kF _) (dn (kF _) (dn q (dn q (dn q q))))))))))
structure bS where
  iF:Nat
  bX:Nat
  state:Nat
  dh:List UInt8
  eR:List UInt8
  bV:List UInt8
  seq:List UInt8
  n:List Nat
  er:Nat
  eB:Nat
  eN:Nat
def bS.cells (x:bS):List Value :=
  [(.int .u32 x.iF)] ++ ([(.int .u32 x.bX)] ++ ([(.int .i64 x.state)] ++ ((jS x.dh) ++ ((jS x.eR) ++ ((jS x.bV) ++ ((jS x.seq) ++ ((pn x.n) ++ ([(.int .u32 x.er)] ++ ([(.int .u32 x.eB)] ++ ([(.int .u64 x.eN)]))))))))))
def NG:Dt bS:=uJ (fun x=>(x.iF,x.bX,x.state,x.dh,x.eR,x.bV,x.seq,x.n,x.er,x.eB,x.eN)) (gP tU32 (gP tU32 (gP jQ (gP tId (gP tId (gP tId (gP tId (gP (ag1) (gP tU32 (gP tU32 dY))))))))))
def bS.ok (x:bS):Prop:=x.iF<4294967296∧x.bX<4294967296∧x.state<9223372036854775808∧x.dh.length=16∧x.eR.length=16∧x.bV.length=16∧x.seq.length=16∧(x.n.length=21∧∀y∈x.n,y<18446744073709551616)∧x.er<4294967296∧x.eB<4294967296∧x.eN<18446744073709551616
theorem aa3 {w:World} {Q:Nat→Prop} {cs:List Value} {x:bS} (h:NG.qg w Q cs x):∃(_:True),cs=x.cells∧bS.ok x:=by
  obtain⟨_,_,rfl,⟨rfl,B⟩,⟨_,_,rfl,⟨rfl,C⟩,⟨_,_,rfl,⟨rfl,D⟩,⟨_,_,rfl,⟨rfl,E⟩,⟨_,_,rfl,⟨rfl,F⟩,⟨_,_,rfl,⟨rfl,G⟩,⟨_,_,rfl,⟨rfl,H⟩,⟨_,_,rfl,⟨rfl,I⟩,⟨_,_,rfl,⟨rfl,J⟩,⟨_,_,rfl,⟨rfl,K⟩,⟨rfl,A⟩⟩⟩⟩⟩⟩⟩⟩⟩⟩⟩:=h
  exact⟨trivial,q,⟨B,C,D,E,F,G,H,I,J,K,A⟩⟩
theorem aa2 {w:World} {Q:Nat→Prop} {x:bS} (c0:bS.ok x):NG.qg w Q (x.cells) x :=
  ⟨_,_,q,⟨q,c0.1⟩,⟨_,_,q,⟨q,c0.2.1⟩,⟨_,_,q,⟨q,c0.2.2.1⟩,⟨_,_,q,⟨q,c0.2.2.2.1⟩,⟨_,_,q,⟨q,c0.2.2.2.2.1⟩,⟨_,_,q,⟨q,c0.2.2.2.2.2.1⟩,⟨_,_,q,⟨q,c0.2.2.2.2.2.2.1⟩,⟨_,_,q,⟨q,c0.2.2.2.2.2.2.2.1⟩,⟨_,_,q,⟨q,c0.2.2.2.2.2.2.2.2.1⟩,⟨_,_,q,⟨q,c0.2.2.2.2.2.2.2.2.2.1⟩,⟨q,c0.2.2.2.2.2.2.2.2.2.2⟩⟩⟩⟩⟩⟩⟩⟩⟩⟩⟩
theorem bS.one {x:bS}:(x.cells).all (fun u=>u.oneCell')=true:=(dn q (dn q (dn q (dn (kF _) (dn (kF _) (dn (kF _) (dn (kF _) (dn q (dn q (dn q q))))))))))
structure eW where
  b:List UInt8
  h:bS
def eW.cells (x:eW) (v0:Value):List Value :=
  [v0] ++ ((bS.cells x.h))
def fE:Dt eW:=uJ (fun x=>(x.b,x.h)) (gP (yY fI) NG)
def eW.ok (x:eW):Prop:=bS.ok x.h
theorem eM {w:World} {Q:Nat→Prop} {cs:List Value} {x:eW} (h:fE.qg w Q cs x):∃v0,cs=x.cells v0∧eW.ok x∧Ls fI w Q v0 x.b:=by
  obtain⟨_,_,rfl,⟨v0,rfl,B⟩,C⟩:=h
  obtain⟨_,rfl,A⟩:=aa3 C
  exact⟨v0,q,A,B⟩
theorem dU {w:World} {Q:Nat→Prop} {x:eW} {v0:Value} (c0:eW.ok x) (c1:Ls fI w Q v0 x.b):fE.qg w Q (x.cells v0) x :=
  ⟨_,_,q,⟨_,q,c1⟩,(aa2 c0)⟩
structure nZ where
  dh:List UInt8
  eR:List UInt8
  seq:List UInt8
  ay:Nat
  aA:Nat
  bY:Nat
  dS:Bool
def nZ.cells (x:nZ):List Value :=
  (jS x.dh) ++ ((jS x.eR) ++ ((jS x.seq) ++ ([(.int .i64 x.ay)] ++ ([(.int .i64 x.aA)] ++ ([(.int .i64 x.bY)] ++ ([(.bool x.dS)]))))))
def aiP:Dt nZ:=uJ (fun x=>(x.dh,x.eR,x.seq,x.ay,x.aA,x.bY,x.dS)) (gP tId (gP tId (gP tId (gP jQ (gP jQ (gP jQ akF))))))
def nZ.ok (x:nZ):Prop:=x.dh.length=16∧x.eR.length=16∧x.seq.length=16∧x.ay<9223372036854775808∧x.aA<9223372036854775808∧x.bY<9223372036854775808
theorem agz {w:World} {Q:Nat→Prop} {cs:List Value} {x:nZ} (h:aiP.qg w Q cs x):∃(_:True),cs=x.cells∧nZ.ok x:=by
  obtain⟨_,_,rfl,⟨rfl,A⟩,⟨_,_,rfl,⟨rfl,B⟩,⟨_,_,rfl,⟨rfl,C⟩,⟨_,_,rfl,⟨rfl,D⟩,⟨_,_,rfl,⟨rfl,E⟩,⟨_,_,rfl,⟨rfl,F⟩,⟨rfl,_⟩⟩⟩⟩⟩⟩⟩:=h
  exact⟨trivial,q,⟨A,B,C,D,E,F⟩⟩
theorem agy {w:World} {Q:Nat→Prop} {x:nZ} (c0:nZ.ok x):aiP.qg w Q (x.cells) x :=
  ⟨_,_,q,⟨q,c0.1⟩,⟨_,_,q,⟨q,c0.2.1⟩,⟨_,_,q,⟨q,c0.2.2.1⟩,⟨_,_,q,⟨q,c0.2.2.2.1⟩,⟨_,_,q,⟨q,c0.2.2.2.2.1⟩,⟨_,_,q,⟨q,c0.2.2.2.2.2⟩,⟨q,tV⟩⟩⟩⟩⟩⟩⟩
theorem nZ.one {x:nZ}:(x.cells).all (fun u=>u.oneCell')=true:=(dn (kF _) (dn (kF _) (dn (kF _) (dn q (dn q (dn q q))))))
structure aY where
  cM:List UInt8
  b9:Nat
  cF:Nat
  bQ:Nat
  bn:List Nat
def aY.cells (x:aY) (v0:Value):List Value :=
  [(str x.cM)] ++ ([(.int .u64 x.b9)] ++ ([(.int .i64 x.cF)] ++ ([(.int .i64 x.bQ)] ++ ([v0]))))
def ea:Dt aY:=uJ (fun x=>(x.cM,x.b9,x.cF,x.bQ,x.bn)) (gP UN (gP dY (gP jQ (gP jQ (yY dY)))))
def aY.ok (x:aY):Prop:=x.b9<18446744073709551616∧x.cF<9223372036854775808∧x.bQ<9223372036854775808
theorem jI {w:World} {Q:Nat→Prop} {cs:List Value} {x:aY} (h:ea.qg w Q cs x):∃v0,cs=x.cells v0∧aY.ok x∧Ls dY w Q v0 x.bn:=by
  obtain⟨_,_,rfl,⟨rfl,_⟩,⟨_,_,rfl,⟨rfl,A⟩,⟨_,_,rfl,⟨rfl,B⟩,⟨_,_,rfl,⟨rfl,C⟩,⟨v0,rfl,D⟩⟩⟩⟩⟩:=h
  exact⟨v0,q,⟨A,B,C⟩,D⟩
theorem rW {w:World} {Q:Nat→Prop} {x:aY} {v0:Value} (c0:aY.ok x) (c1:Ls dY w Q v0 x.bn):ea.qg w Q (x.cells v0) x :=
  ⟨_,_,q,⟨q,tV⟩,⟨_,_,q,⟨q,c0.1⟩,⟨_,_,q,⟨q,c0.2.1⟩,⟨_,_,q,⟨q,c0.2.2⟩,⟨_,q,c1⟩⟩⟩⟩⟩
theorem aY.one {x:aY} {v0:Value} (h0:v0.oneCell'=true):(x.cells v0).all (fun u=>u.oneCell')=true:=(dn q (dn q (dn q (dn q (pq h0)))))
structure Mk where
  c:nZ
  h:fP
  depth:Nat
  b:List UInt8
  ai:List aY
  aj:List aY
  main:List Nat
def Mk.cells (x:Mk) (v0:Value) (v1:Value) (v2:Value) (v3:Value):List Value :=
  (nZ.cells x.c) ++ ((fP.cells x.h) ++ ([(.int .u64 x.depth)] ++ ([v0] ++ ([v1] ++ ([v2] ++ ([v3]))))))
def tMk:Dt Mk:=uJ (fun x=>(x.c,x.h,x.depth,x.b,x.ai,x.aj,x.main)) (gP aiP (gP UM (gP dY (gP (yY fI) (gP (yY ea) (gP (yY ea) (yY dY)))))))
def Mk.ok (x:Mk):Prop:=nZ.ok x.c∧fP.ok x.h∧x.depth<18446744073709551616
theorem aiR {w:World} {Q:Nat→Prop} {cs:List Value} {x:Mk} (h:tMk.qg w Q cs x):∃v0 v1 v2 v3,cs=x.cells v0 v1 v2 v3∧Mk.ok x∧Ls fI w Q v0 x.b∧Ls ea w Q v1 x.ai∧Ls ea w Q v2 x.aj∧Ls dY w Q v3 x.main:=by
  obtain⟨_,_,rfl,C,⟨_,_,rfl,D,⟨_,_,rfl,⟨rfl,E⟩,⟨_,_,rfl,⟨v0,rfl,F⟩,⟨_,_,rfl,⟨v1,rfl,G⟩,⟨_,_,rfl,⟨v2,rfl,H⟩,⟨v3,rfl,I⟩⟩⟩⟩⟩⟩⟩:=h
  obtain⟨_,rfl,A⟩:=agz C
  obtain⟨_,rfl,B⟩:=aa5 D
  exact⟨v0,v1,v2,v3,q,⟨A,B,E⟩,F,G,H,I⟩
theorem aiQ {w:World} {Q:Nat→Prop} {x:Mk} {v0:Value} {v1:Value} {v2:Value} {v3:Value} (c0:Mk.ok x) (c1:Ls fI w Q v0 x.b) (c2:Ls ea w Q v1 x.ai) (c3:Ls ea w Q v2 x.aj) (c4:Ls dY w Q v3 x.main):tMk.qg w Q (x.cells v0 v1 v2 v3) x :=
  ⟨_,_,q,(agy c0.1),⟨_,_,q,(aa4 c0.2.1),⟨_,_,q,⟨q,c0.2.2⟩,⟨_,_,q,⟨_,q,c1⟩,⟨_,_,q,⟨_,q,c2⟩,⟨_,_,q,⟨_,q,c3⟩,⟨_,q,c4⟩⟩⟩⟩⟩⟩⟩
theorem Mk.one {x:Mk} {v0:Value} {v1:Value} {v2:Value} {v3:Value} (h0:v0.oneCell'=true) (h1:v1.oneCell'=true) (h2:v2.oneCell'=true) (h3:v3.oneCell'=true):(x.cells v0 v1 v2 v3).all (fun u=>u.oneCell')=true:=(dn (nZ.one) (dn (fP.one) (dn q (dn (pq h0) (dn (pq h1) (dn (pq h2) (pq h3)))))))
structure Sq where
  l:List Int
  b9:Nat
def Sq.cells (x:Sq) (v0:Value):List Value :=
  [v0] ++ ([(.int .i64 x.b9)])
def Sq.ok (x:Sq):Prop:=x.b9<9223372036854775808
end Go.Wk
namespace Go.Wk
open Go Go.RowKit
def low:Nat→Nat→List UInt8
  | _,0=>[]
  | v,n+1=>UInt8.ofNat (v%256) :: low (v/256) n
theorem jc (v n:Nat):(low v n).length=n:=by
  induction n generalizing v with
  | zero=>rfl
  | succ n ih=>simp[low,ih]
def nums:List Nat→List UInt8
  | []=>[]
  | v :: r=>low v 8 ++ nums r
theorem fV (l:List Nat):(nums l).length=8*l.length:=by
  induction l with
  | nil=>rfl
  | cons v r ih=>simp[nums,jc,ih];omega
theorem PX (v:Nat) {n i:Nat} (h:i<n):low v (n-i)=UInt8.ofNat (v%256) :: low (v/256) (n-(i+1)):=by
  rw[show n-i=(n-(i+1))+1 by omega];rfl
theorem WK (v:Nat) {n i:Nat} (h:¬i<n):low v (n-i)=[]:=by
  rw[show n-i=0 by omega];rfl
theorem ZM {l:List Nat} {i x:Nat} (h:l[i]? = some x):nums (l.drop i)=low x 8 ++ nums (l.drop (i+1)):=by rw[eP h];rfl
theorem QA {l:List Nat} {i:Nat} (h:¬i<l.length):nums (l.drop i)=[]:=by rw[iI Oh];rfl
def FH (l:Ly):List UInt8:=l ++ List.replicate ((8-l.length%8)%8) 0
theorem ZT {l:Ly} (h:l.length%8≠0):FH l=FH (l ++ [0]):=by
  unfold FH
  rw[List.append_assoc,List.length_append]
  congr 1
  rw[show(8-l.length%8)%8=(8-(l.length+[(0:UInt8)].length)%8)%8+1 by simp;omega,List.replicate_succ]
  rfl
theorem ad7 {l:Ly} (h:l.length%8=0):FH l=l:=by simp[FH,h]
theorem ad8 (l:Ly):(FH l).length=(l.length+7)/8*8:=by simp[FH];omega
def qu (kind:Nat) (body:Ly):List UInt8 :=
  if kind<1∨7<kind then[]else FH ([UInt8.ofNat kind,0,0,0,0,0,0,0] ++ nums [16+body.length] ++ body)
def jf (d:gQ):List UInt8:=qu 1 (nums [d.cQ,d.bT,d.eH,d.entry,d.array,d.bQ] ++ d.ak)
def ir (d:jw):List UInt8:=qu 2 (nums [d.cQ,d.bT,d.dat] ++ d.ak)
def gD (a:j5):List UInt8:=qu 6 (nums [a.next] ++ nums a.aD)
def qh:List oQ→List UInt8
  | []=>[]
  | s :: r=>nums [s.first,s.tail] ++ qh r
def fG (kind:Nat) (l:List oQ):List UInt8:=if kind≠4∧kind≠5 then[]else qu kind (qh l)
def lO:List kV→List UInt8
  | []=>[]
  | s :: r=>nums [s.b9,s.cQ] ++ lO r
def e6 (e:gI):List UInt8:=qu 3 (nums [e.seq,e.cu,e.mono] ++ e.bV ++ nums [e.xor] ++ lO e.aD)
def wU (h:fP) (depth:Nat):List UInt8 :=
  [76,80,75,83,72,72,82,72] ++ low h.iF 4 ++ low h.bX 4 ++ [UInt8.ofNat h.state,0,0,0,0,0,0,0] ++ h.dh ++ h.eR ++ h.bV ++ h.seq ++ nums h.n ++ nums [depth] ++ low h.er 4 ++ low h.eB 4 ++ nums [h.eN]
theorem uD {k:Nat} {b:Ly} (h:1≤k∧k≤7):(qu k b).length=(16+b.length+7)/8*8:=by
  unfold qu
  rw[if_neg Oh,ad8]
  simp[fV]
  omega
theorem UF {l:List oQ} {i:Nat} {x:oQ} (h:l[i]? = some x):qh (l.drop i)=nums [x.first,x.tail] ++ qh (l.drop (i+1)):=by rw[eP h];rfl
theorem KC {l:List oQ} {i:Nat} (h:¬i<l.length):qh (l.drop i)=[]:=by rw[iI Oh];rfl
theorem aaw (l:List oQ):(qh l).length=16*l.length:=by
  induction l with
  | nil=>rfl
  | cons v r ih=>simp[qh,fV,ih];omega
theorem SJ {l:List kV} {i:Nat} {x:kV} (h:l[i]? = some x):lO (l.drop i)=nums [x.b9,x.cQ] ++ lO (l.drop (i+1)):=by rw[eP h];rfl
theorem IX {l:List kV} {i:Nat} (h:¬i<l.length):lO (l.drop i)=[]:=by rw[iI Oh];rfl
theorem vf (l:List kV):(lO l).length=16*l.length:=by
  induction l with
  | nil=>rfl
  | cons v r ih=>simp[lO,fV,ih];omega
theorem xH (d:gQ):(jf d).length=(16+(48+d.ak.length)+7)/8*8:=by unfold jf;rw[uD Oh];simp[fV]
theorem vM (d:jw):(ir d).length=(16+(24+d.ak.length)+7)/8*8:=by unfold ir;rw[uD Oh];simp[fV]
theorem vL (a:j5):(gD a).length=(16+(8+8*a.aD.length)+7)/8*8:=by unfold gD;rw[uD Oh];simp[fV]
theorem mO (e:gI) (h:e.bV.length=16):(e6 e).length=(16+(48+16*e.aD.length)+7)/8*8:=by unfold e6;rw[uD Oh];simp[fV,vf,h];omega
theorem vN (kind:Nat) (l:List oQ) (h:kind=4∨kind=5):(fG kind l).length=(16+16*l.length+7)/8*8:=by unfold fG;rw[if_neg Oh,uD Oh,aaw]
theorem nK (kind:Nat) (l:List oQ):(fG kind l).length≤24+16*l.length∧(kind=4∨kind=5→(fG kind l).length=(16+16*l.length+7)/8*8):=by
  refine⟨?_,fun h=>vN kind l h⟩
  by_cases h:kind=4∨kind=5
  · rw[vN kind l h];omega
  unfold fG;rw[if_pos Oh];simp
theorem aao {h:fP} {j v:Nat} (hn:h.n.length=20) (hj:j<20):(fP.cells h).set (67+j) (.int .u64 v)=fP.cells {h with n:=h.n.set j v}:=by
  have e:∀(m:List Nat) (t:fP),t.n=m→fP.cells t=([(.int .u32 t.iF)] ++ ([(.int .u32 t.bX)] ++ ([(.int .i64 t.state)] ++ ((jS t.dh) ++ ((jS t.eR) ++ ((jS t.bV) ++ (jS t.seq))))))) ++ (oZ m ++ ([(.int .u32 t.er)] ++ ([(.int .u32 t.eB)] ++ [(.int .u64 t.eN)]))):=by
    intro m t C;subst C;simp only[fP.cells,List.append_assoc]
  rw[e h.n h q,e (h.n.set j v) {h with n:=h.n.set j v} q,EL hn hj]
  have B:([(.int .u32 h.iF)] ++ ([(.int .u32 h.bX)] ++ ([(.int .i64 h.state)] ++ ((jS h.dh) ++ ((jS h.eR) ++ ((jS h.bV) ++ (jS h.seq)))))):List Value).length=67:=rfl
  have A:(oZ h.n).length=20:=rfl
  rw[List.set_append_right _ _ Oh,B,Nat.add_sub_cancel_left,List.set_append_left _ _ Oh]
end Go.Wk
namespace Go.Wk
open Go Go.RowKit
theorem HN (op:BinOp) (a b:Int):0≤bits op .u64 a b∧bits op .u64 a b<18446744073709551616:=by
  unfold bits
  cases op <;> simp only[NN] <;> omega
theorem XC (t:T3):0≤pack t∧pack t<18446744073709551616:=HN _ _ _
theorem acw:∀(k:Nat) (t:T3) (l:Ly),0≤oW k t l∧oW k t l<18446744073709551616
  | 0,t,l=>by unfold oW;split<;>exact XC _
  | k+1,t,l=>by
    unfold oW
    split
    · exact acw k _ _
    · split<;>exact XC _
theorem vi (l:Ly):0≤lookup l∧lookup l<18446744073709551616:=acw _ _ _
theorem aeb (key l:Ly):0≤sip key l∧sip key l<18446744073709551616:=by
  unfold sip FW S4.all mF
  exact HN _ _ _
def rC (l:Ly):Nat:=(lookup l).toNat
def eu (k:Bool) (key l:Ly):Nat:=if k then(sip key l).toNat else rC l
theorem DJ (k:Bool) (key l:Ly):((eu k key l:Nat):Int)=if k then sip key l else lookup l:=by
  unfold eu rC
  have A:=vi l
  have B:=aeb key l
  cases k <;> simp <;> omega
theorem DK (k:Bool) (key l:Ly):eu k key l<18446744073709551616:=by
  have B:=vi l
  have C:=aeb key l
  have A:=DJ k key l
  cases k <;> simp at A <;> omega
theorem PW (l:Ly):((rC l:Nat):Int)=lookup l:=by have A:=vi l;unfold rC;omega
theorem ED (l:Ly):rC l<18446744073709551616:=by have A:=vi l;unfold rC;omega
def nU (v:Nat):List (List UInt8)→Nat
  | []=>v
  | b :: r=>nU (v ^^^ rC b) r
theorem RL {v:Nat} {l:List (List UInt8)} {i:Nat} {x:Ly} (h:l[i]? = some x):nU v (l.drop i)=nU (v ^^^ rC x) (l.drop (i+1)):=by rw[eP h];rfl
theorem BB {v:Nat} {l:List (List UInt8)} {i:Nat} (h:¬i<l.length):nU v (l.drop i)=v:=by rw[iI Oh];rfl
theorem GL {a b:Nat} (ha:a<18446744073709551616) (hb:b<18446744073709551616):a ^^^ b<18446744073709551616:=Nat.xor_lt_two_pow (n:=64) ha hb
def ak (p:Pr):List UInt8:=p.name ++ [61] ++ p.value
theorem kK (p:Pr):(ak p).length=p.name.length+1+p.value.length:=by simp[ak];omega
end Go.Wk
namespace Go.Wk
open Go Go.RowKit
def eL (k:Int):Nat:=if k<0 then 0 else if 6<k then 256 else min (4*2 ^ k.toNat) 256
def HA:Nat→List UInt8→Nat→Nat→Nat→List UInt8
  | 0,b,_,_,_=>b
  | n+1,b,p,v,i=>HA n (b.set (p+i) (UInt8.ofNat (v/2 ^ (8*i)))) p v (i+1)
def ja (b:Ly) (p v:Nat):List UInt8:=HA 8 b p v 0
theorem adE (n:Nat) (b:Ly) (p v i:Nat):(HA n b p v i).length=b.length:=by
  induction n generalizing b i with
  | zero=>rfl
  | succ n ih=>simp[HA,ih]
theorem gu (b:Ly) (p v:Nat):(ja b p v).length=b.length:=adE 8 b p v 0
def Mk.put (m:Mk) (p v:Nat):Mk:={m with b:=ja m.b p v}
theorem kR (m:Mk) (p v:Nat):(m.put p v).b.length=m.b.length:=gu _ _ _
theorem ZX {n i:Nat} {b:Ly} {p v:Nat} (h:i<n):HA (n-i) b p v i=HA (n-(i+1)) (b.set (p+i) (UInt8.ofNat (v/2 ^ (8*i)))) p v (i+1):=by
  rw[show n-i=(n-(i+1))+1 by omega];rfl
theorem adD {n i:Nat} {b:Ly} {p v:Nat} (h:¬i<n):HA (n-i) b p v i=b:=by rw[show n-i=0 by omega];rfl
def Mk.dV (m:Mk) (k v:Nat):Mk:={m with h:={m.h with n:=m.h.n.set k v}}
def Mk.cP (m:Mk) (k:Nat):Nat:=m.h.n.getD k 0
def Mk.di (m:Mk) (o:Ly):Nat × Mk :=
  let m1:={m with b:=m.b ++ o}
  let m29:=m1.dV 6 m.b.length
  (m.b.length,m29.dV 7 ((m29.cP 7+1)%18446744073709551616))
def nY (cF:Nat):List aY→Nat→Nat→Nat × Nat
  | [],n,q=>(n,q)
  | k :: r,n,q=>if k.cF=cF then nY cF r (n+1) k.b9 else nY cF r n q
def Mk.hang (m:Mk) (l:List aY) (table p cF:Nat):Nat × Mk :=
  match nY cF l 0 0 with
  | (n,q)=>(n,(if n=0 then m.put (table+16*cF) p else m.put (q+24) p).put (table+16*cF+8) p)
def p8 (name:Ly):List aY→Option Nat
  | []=>none
  | k :: r=>if k.cM=name then some k.b9 else p8 name r
def nH (s:Ly):List aY→Nat→Option Nat
  | [],_=>none
  | k :: r,i=>if k.cM=s then some i else nH s r (i+1)
def Mk.field (m:Mk) (name:Ly):Nat × Mk :=
  match p8 name m.aj with
  | some p=>(p,m)
  | none =>
    match m.di (ir {cQ:=eu m.c.dS m.c.dh name,bT:=0,dat:=0,ak:=name})with
    | (p,m1)=>match m1.hang m1.aj (m1.cP 4) p (eu m.c.dS m.c.dh name%m1.c.aA)with
      | (n,m29) =>
        let m3:={m29 with depth:=max m1.depth n}
        let m4:=m3.dV 16 ((m3.cP 16+1)%18446744073709551616)
        (p,{m4 with aj:=m4.aj ++ [({cM:=name,b9:=p,cF:=eu m.c.dS m.c.dh name%m1.c.aA,bQ:=0,bn:=[]}:aY)]})
def Mk.data (m:Mk) (x:Pr):Nat × Mk :=
  match nH (ak x) m.ai 0 with
  | some i=>(i,m)
  | none =>
    match m.di (jf {cQ:=eu m.c.dS m.c.dh (ak x),bT:=0,eH:=0,entry:=0,array:=0,bQ:=0,ak:=ak x})with
    | (p,m1)=>match m1.hang m1.ai (m1.cP 2) p (eu m.c.dS m.c.dh (ak x)%m1.c.ay)with
      | (n,m29) =>
        let m3:=m29.dV 19 (max (m29.cP 19) n)
        let m4:=m3.dV 15 ((m3.cP 15+1)%18446744073709551616)
        let m5:={m4 with ai:=m4.ai ++ [({cM:=ak x,b9:=p,cF:=eu m.c.dS m.c.dh (ak x)%m1.c.ay,bQ:=0,bn:=[]}:aY)]}
        match m5.field x.name with
        | (k,m6) =>
          let m7:=m6.put (p+32) (mM m6.b (k+32:Nat) 8).1
          let m8:=m7.put (k+32) p
          (m8.ai.length-1,m8)
theorem aas (m:Mk) (k v:Nat):(m.dV k v).b=m.b∧(m.dV k v).c=m.c∧(m.dV k v).ai=m.ai∧(m.dV k v).aj=m.aj∧(m.dV k v).main=m.main:=⟨q,q,q,q,q⟩
theorem bD {l:List Nat} {i j v:Nat} (h:i≠j):(l.set i v).getD j 0=l.getD j 0:=by simp[List.getD,List.getElem?_set_ne h]
theorem ej {m:Mk} {k v j:Nat} (h:k≠j):(m.dV k v).cP j=m.cP j:=bD h
theorem iK (m:Mk) (o:Ly):(m.di o).1=m.b.length∧(m.di o).2.b.length=m.b.length+o.length∧(m.di o).2.c.ay=m.c.ay∧(m.di o).2.c.aA=m.c.aA∧(m.di o).2.ai.length=m.ai.length∧(m.di o).2.aj.length=m.aj.length ∧
    (m.di o).2.h.n.getD 2 0=m.h.n.getD 2 0∧(m.di o).2.h.n.getD 4 0=m.h.n.getD 4 0 :=
  ⟨q,by simp[Mk.di,Mk.dV],q,q,q,q,by simp only[Mk.di,Mk.dV];rw[bD Om,bD Om],by simp only[Mk.di,Mk.dV];rw[bD Om,bD Om]⟩
theorem fD (m:Mk) (o:Ly):(m.di o).2.c=m.c∧(m.di o).2.ai=m.ai∧(m.di o).2.aj=m.aj∧(m.di o).2.main=m.main:=⟨q,q,q,q⟩
theorem jZ (m:Mk) (p v:Nat):(m.put p v).b.length=m.b.length∧(m.put p v).c.ay=m.c.ay∧(m.put p v).c.aA=m.c.aA∧(m.put p v).ai.length=m.ai.length∧(m.put p v).aj.length=m.aj.length ∧
    (m.put p v).h.n.getD 2 0=m.h.n.getD 2 0∧(m.put p v).h.n.getD 4 0=m.h.n.getD 4 0:=⟨gu _ _ _,q,q,q,q,q,q⟩
theorem AK (m:Mk) (l:List aY) (table p cF:Nat):(m.hang l table p cF).2={m with b:=(m.hang l table p cF).2.b}∧(m.hang l table p cF).2.b.length=m.b.length:=by
  unfold Mk.hang
  generalize nY cF l 0 0=r
  obtain⟨n,q⟩:=r
  simp only
  split
  · exact⟨rfl,by rw[kR,kR]⟩
  exact⟨rfl,by rw[kR,kR]⟩
theorem ve (m:Mk) (l:List aY) (table p cF:Nat):(m.hang l table p cF).2.b.length=m.b.length∧(m.hang l table p cF).2.c.ay=m.c.ay∧(m.hang l table p cF).2.c.aA=m.c.aA∧(m.hang l table p cF).2.ai.length=m.ai.length∧(m.hang l table p cF).2.aj.length=m.aj.length ∧
    (m.hang l table p cF).2.h.n.getD 2 0=m.h.n.getD 2 0∧(m.hang l table p cF).2.h.n.getD 4 0=m.h.n.getD 4 0:=by
  obtain⟨A,B⟩:=AK m l table p cF
  refine⟨B,?_,?_,?_,?_,?_,?_⟩ <;> rw[A]
theorem iY (m:Mk) (l:List aY) (table p cF:Nat):(m.hang l table p cF).2.c=m.c∧(m.hang l table p cF).2.ai=m.ai∧(m.hang l table p cF).2.aj=m.aj∧(m.hang l table p cF).2.main=m.main∧(m.hang l table p cF).2.depth=m.depth∧(m.hang l table p cF).2.h=m.h:=by
  have A:=(AK m l table p cF).1
  refine⟨?_,?_,?_,?_,?_,?_⟩ <;> rw[A]
theorem IU {cF i n q:Nat} {l:List aY} {x:aY} (h:l[i]? = some x):nY cF (l.drop i) n q=if x.cF=cF then nY cF (l.drop (i+1)) (n+1) x.b9 else nY cF (l.drop (i+1)) n q:=by rw[eP h];rfl
theorem wT {cF i n q:Nat} {l:List aY} (h:¬i<l.length):nY cF (l.drop i) n q=(n,q):=by rw[iI Oh];rfl
theorem CU {s:Ly} {i:Nat} {l:List aY} {x:aY} (h:l[i]? = some x):p8 s (l.drop i)=if x.cM=s then some x.b9 else p8 s (l.drop (i+1)):=by rw[eP h];rfl
theorem yh {s:Ly} {i:Nat} {l:List aY} (h:¬i<l.length):p8 s (l.drop i)=none:=by rw[iI Oh];rfl
theorem CR {s:Ly} {i j:Nat} {l:List aY} {x:aY} (h:l[i]? = some x):nH s (l.drop i) j=if x.cM=s then some j else nH s (l.drop (i+1)) (j+1):=by rw[eP h];rfl
theorem ye {s:Ly} {i j:Nat} {l:List aY} (h:¬i<l.length):nH s (l.drop i) j=none:=by rw[iI Oh];rfl
def Mk.fit (m:Mk):Prop:=1≤m.c.ay∧m.c.ay≤64∧1≤m.c.aA∧m.c.aA≤64∧m.h.n.getD 2 0+16*m.c.ay≤m.b.length∧m.h.n.getD 4 0+16*m.c.aA≤m.b.length ∧
  (∀k∈m.ai,k.b9+64≤m.b.length)∧(∀k∈m.aj,k.b9+40≤m.b.length)
theorem pU {m m':Mk} (h:m.fit) (h1:m'.c.ay=m.c.ay∧m'.c.aA=m.c.aA∧m'.h.n.getD 2 0=m.h.n.getD 2 0∧m'.h.n.getD 4 0=m.h.n.getD 4 0∧m.b.length≤m'.b.length)
    (hd:∀k∈m'.ai,k∈m.ai∨k.b9+64≤m'.b.length) (hf:∀k∈m'.aj,k∈m.aj∨k.b9+40≤m'.b.length):m'.fit:=by
  obtain⟨G,H,I,J,K,L,A,B⟩:=h
  obtain⟨C,D,E,F,M⟩:=h1
  refine⟨by omega,by omega,by omega,by omega,by rw[C,E];omega,by rw[D,F];omega,fun k hk=>?_,fun k hk=>?_⟩
  · rcases hd k hk with h|h
    · have:=A k h;omega
    exact h
  rcases hf k hk with h|h
  · have:=B k h;omega
  exact h
theorem yj {s:Ly} {l:List aY} {p:Nat} (h:p8 s l=some p):∃k∈l,k.b9=p∧k.cM=s:=by
  induction l with
  | nil=>simp[p8]at h
  | cons x l ih =>
    simp only[p8]at h
    split at h
    · rename_i hx;exact⟨x,by simp,by simpa using h,hx⟩
    · obtain⟨k,hk,A⟩:=ih h;exact⟨k,by simp[hk],A⟩
theorem abO {s:Ly} {l:List aY} {j i:Nat} (h:nH s l j=some i):j≤i∧i<j+l.length:=by
  induction l generalizing j with
  | nil=>simp[nH]at h
  | cons x l ih =>
    simp only[nH]at h
    split at h
    · simp at h;simp;omega
    · have:=ih h;simp;omega
theorem uV (m:Mk) (name:Ly) (h:m.fit):((m.field name).1+40≤(m.field name).2.b.length∧m.b.length≤(m.field name).2.b.length∧(m.field name).2.b.length≤m.b.length+(48+name.length)∧(m.field name).2.ai.length=m.ai.length∧(m.field name).2.aj.length≤m.aj.length+1 ∧
    (m.field name).2.c.ay=m.c.ay∧(m.field name).2.c.aA=m.c.aA∧(m.field name).2.h.n.getD 2 0=m.h.n.getD 2 0∧(m.field name).2.h.n.getD 4 0=m.h.n.getD 4 0∧(m.field name).2.h.n.getD 8 0=m.h.n.getD 8 0) ∧
    ((m.field name).2.c=m.c∧(m.field name).2.ai=m.ai∧(m.field name).2.main=m.main)∧(m.field name).2.fit:=by
  unfold Mk.field
  cases hk:p8 name m.aj with
  | some p =>
    obtain⟨k,D,U,_⟩:=yj hk
    have:=h.2.2.2.2.2.2.2 k D
    exact⟨⟨by simp only;omega,Nat.le_refl _,by simp only;omega,q,by simp only;omega,q,q,q,q,q⟩,⟨q,q,q⟩,h⟩
  | none =>
    simp only
    have C:=iK m (ir {cQ:=eu m.c.dS m.c.dh name,bT:=0,dat:=0,ak:=name})
    have I:=fD m (ir {cQ:=eu m.c.dS m.c.dh name,bT:=0,dat:=0,ak:=name})
    have J:(m.di (ir {cQ:=eu m.c.dS m.c.dh name,bT:=0,dat:=0,ak:=name})).2.h.n.getD 8 0=m.h.n.getD 8 0:=by
      simp only[Mk.di,Mk.dV];rw[bD Om,bD Om]
    rw[vM]at C
    simp only at C
    generalize m.di (ir {cQ:=eu m.c.dS m.c.dh name,bT:=0,dat:=0,ak:=name})=r at *
    obtain⟨p,A⟩:=r
    simp only at C I J ⊢
    have K:=ve A A.aj (A.cP 4) p (eu m.c.dS m.c.dh name%A.c.aA)
    have L:=iY A A.aj (A.cP 4) p (eu m.c.dS m.c.dh name%A.c.aA)
    generalize A.hang A.aj (A.cP 4) p (eu m.c.dS m.c.dh name%A.c.aA)=r at *
    obtain⟨n,B⟩:=r
    simp only at K L ⊢
    obtain⟨V,W,X,Y,Z,a,d,e⟩:=C
    obtain⟨M,E,N,O⟩:=I
    obtain⟨f,g,i,j,l,o,t⟩:=K
    obtain⟨P,F,Q,R,u,S⟩:=L
    simp only[Mk.dV,List.length_append,List.length_singleton]
    have G:(B.h.n.set 16 ((B.cP 16+1)%18446744073709551616)).getD 2 0=m.h.n.getD 2 0:=by rw[bD Om];omega
    have H:(B.h.n.set 16 ((B.cP 16+1)%18446744073709551616)).getD 4 0=m.h.n.getD 4 0:=by rw[bD Om];omega
    have T:(B.h.n.set 16 ((B.cP 16+1)%18446744073709551616)).getD 8 0=m.h.n.getD 8 0:=by rw[bD Om,S,J]
    refine⟨⟨by omega,by omega,by omega,by omega,by omega,by omega,by omega,G,H,T⟩,⟨by rw[P,M],by rw[F,E],by rw[R,O]⟩,?_⟩
    refine pU h ⟨by simp only;omega,by simp only;omega,G,H,by simp only;omega⟩ (fun k hk=>?_) (fun k hk=>?_)
    · simp only[F,E]at hk;exact .inl hk
    · simp only[Q,N,List.mem_append,List.mem_singleton]at hk
      rcases hk with hk|rfl
      · exact .inl hk
      · right;simp only;omega
theorem SB (m:Mk) (name:Ly) (h:m.fit):(m.field name).1+40≤(m.field name).2.b.length∧m.b.length≤(m.field name).2.b.length∧(m.field name).2.b.length≤m.b.length+(48+name.length)∧(m.field name).2.ai.length=m.ai.length∧(m.field name).2.aj.length≤m.aj.length+1 ∧
    (m.field name).2.c.ay=m.c.ay∧(m.field name).2.c.aA=m.c.aA∧(m.field name).2.h.n.getD 2 0=m.h.n.getD 2 0∧(m.field name).2.h.n.getD 4 0=m.h.n.getD 4 0∧(m.field name).2.h.n.getD 8 0=m.h.n.getD 8 0:=(uV m name h).1
theorem SA (m:Mk) (name:Ly) (h:m.fit):(m.field name).2.c=m.c∧(m.field name).2.ai=m.ai∧(m.field name).2.main=m.main:=(uV m name h).2.1
theorem YR (m:Mk) (name:Ly) (h:m.fit):(m.field name).2.fit:=(uV m name h).2.2
section
variable {m y:Mk} {v1 v2 v3 v4:Value} {w:World} {b t i v j:Nat}
theorem aio (hn:m.h.n.length=20) (hi:i<20):(Mk.cells m v1 v2 v3 v4).set (119+i) (.int .u64 v)=Mk.cells {m with h:={m.h with n:=m.h.n.set i v}} v1 v2 v3 v4:=by
  have A:(nZ.cells m.c).length=52:=rfl
  have B:(fP.cells m.h).length=90:=rfl
  show(nZ.cells m.c ++ (fP.cells m.h ++ _)).set _ _=nZ.cells m.c ++ (fP.cells _ ++ _)
  rw[List.set_append_right _ _ Oh,A,show 119+i-52=67+i by omega,List.set_append_left _ _ Oh,aao hn hi]
theorem LU (B:ck w b ((Mk.cells m v1 v2 v3 v4).set j (.int .u64 v)) t) (ok:Mk.ok m) (hv:v<18446744073709551616) (hj:j=119+i) (hi:i<20):∃y,y=({m with h:={m.h with n:=m.h.n.set i v}}:Mk)∧ck w b (Mk.cells y v1 v2 v3 v4) t∧Mk.ok y:=by
  subst hj
  rw[aio ok.2.1.2.2.2.2.2.2.2.1.1 hi]at B
  obtain⟨A,⟨a,b,c,d,e,f,g,h,k⟩,C⟩:=ok
  exact⟨_,q,B,A,⟨a,b,c,d,e,f,g,xk h hv,k⟩,C⟩
theorem iW (B:ck w b ((Mk.cells m v1 v2 v3 v4).set j (.int .u64 v)) t) (ok:Mk.ok m) (hv:v<18446744073709551616) (hj:j=119+i:=by rfl) (hi:i<20:=by decide) (h2:i≠2:=by decide) (h4:i≠4:=by decide):∃y,y=({m with h:={m.h with n:=m.h.n.set i v}}:Mk)∧ck w b (Mk.cells y v1 v2 v3 v4) t∧Mk.ok y∧y.b.length=m.b.length∧y.ai.length=m.ai.length∧y.aj.length=m.aj.length∧y.c.ay=m.c.ay∧y.c.aA=m.c.aA∧y.h.n.getD 2 0=m.h.n.getD 2 0∧y.h.n.getD 4 0=m.h.n.getD 4 0:=by
  obtain⟨y,rfl,h,k⟩:=LU B ok hv hj hi
  exact⟨_,q,h,k,q,q,q,q,q,bD Oh,bD Oh⟩
theorem WO (B:ck w b ((Mk.cells m v1 v2 v3 v4).set j (.int .u64 v)) t) (ok:Mk.ok m) (hv:v<18446744073709551616) (hj:j=119+i:=by rfl) (hi:i<20:=by decide) (h4:i≠4:=by decide):∃y,y=({m with h:={m.h with n:=m.h.n.set i v}}:Mk)∧ck w b (Mk.cells y v1 v2 v3 v4) t∧Mk.ok y∧y.b.length=m.b.length∧y.ai.length=m.ai.length∧y.aj.length=m.aj.length∧y.c.ay=m.c.ay∧y.c.aA=m.c.aA∧y.h.n.getD 4 0=m.h.n.getD 4 0:=by
  obtain⟨y,rfl,h,k⟩:=LU B ok hv hj hi
  exact⟨_,q,h,k,q,q,q,q,q,bD Oh⟩
theorem WQ (B:ck w b ((Mk.cells m v1 v2 v3 v4).set j (.int .u64 v)) t) (ok:Mk.ok m) (hv:v<18446744073709551616) (hj:j=119+i:=by rfl) (hi:i<20:=by decide) (h2:i≠2:=by decide):∃y,y=({m with h:={m.h with n:=m.h.n.set i v}}:Mk)∧ck w b (Mk.cells y v1 v2 v3 v4) t∧Mk.ok y∧y.b.length=m.b.length∧y.ai.length=m.ai.length∧y.aj.length=m.aj.length∧y.c.ay=m.c.ay∧y.c.aA=m.c.aA∧y.h.n.getD 2 0=m.h.n.getD 2 0:=by
  obtain⟨y,rfl,h,k⟩:=LU B ok hv hj hi
  exact⟨_,q,h,k,q,q,q,q,q,bD Oh⟩
theorem af6 {x:Ly} (e:y={m with b:=x}):y.ai.length=m.ai.length∧y.aj.length=m.aj.length∧y.c.ay=m.c.ay∧y.c.aA=m.c.aA∧y.h.n.getD 2 0=m.h.n.getD 2 0∧y.h.n.getD 4 0=m.h.n.getD 4 0:=by subst e;exact⟨q,q,q,q,q,q⟩
theorem um {x:List aY} (e:y={m with ai:=x}):y.b.length=m.b.length∧y.aj.length=m.aj.length∧y.c.ay=m.c.ay∧y.c.aA=m.c.aA∧y.h.n.getD 2 0=m.h.n.getD 2 0∧y.h.n.getD 4 0=m.h.n.getD 4 0:=by subst e;exact⟨q,q,q,q,q,q⟩
theorem yF {x:List aY} (e:y={m with aj:=x}):y.b.length=m.b.length∧y.ai.length=m.ai.length∧y.c.ay=m.c.ay∧y.c.aA=m.c.aA∧y.h.n.getD 2 0=m.h.n.getD 2 0∧y.h.n.getD 4 0=m.h.n.getD 4 0:=by subst e;exact⟨q,q,q,q,q,q⟩
theorem WN {x:List Nat} (e:y={m with main:=x}):y.b.length=m.b.length∧y.ai.length=m.ai.length∧y.aj.length=m.aj.length∧y.c.ay=m.c.ay∧y.c.aA=m.c.aA∧y.h.n.getD 2 0=m.h.n.getD 2 0∧y.h.n.getD 4 0=m.h.n.getD 4 0:=by subst e;exact⟨q,q,q,q,q,q,q⟩
theorem ac6 {x:Nat} (e:y={m with depth:=x}):y.b.length=m.b.length∧y.ai.length=m.ai.length∧y.aj.length=m.aj.length∧y.c.ay=m.c.ay∧y.c.aA=m.c.aA∧y.h.n.getD 2 0=m.h.n.getD 2 0∧y.h.n.getD 4 0=m.h.n.getD 4 0:=by subst e;exact⟨q,q,q,q,q,q,q⟩
theorem Qf {x:fP} (e:y={m with h:=x}):y.b.length=m.b.length∧y.ai.length=m.ai.length∧y.aj.length=m.aj.length∧y.c.ay=m.c.ay∧y.c.aA=m.c.aA:=by subst e;exact⟨q,q,q,q,q⟩
end
section
variable {P:Program}
end
end Go.Wk
namespace Go.Wk
open Go Go.RowKit
theorem uF (k:Int):eL k≤256:=by unfold eL;split;omega;split<;>omega
def gy:List Nat→Nat→Nat→Nat→Nat × Nat
  | [],_,a,r=>(a,r)
  | _ :: l,k,_,r=>gy l (k+1) r (r+eL (k:Int))
def jX (l:List Nat):Nat:=l.getD (l.length-1) 0
def Mk.link (m:Mk) (bn:List Nat) (n src iJ:Nat):List Nat × Nat × Mk :=
  match gy bn 0 0 0 with
  | (ahead,room) =>
    if n=room then
      match m.di (gD {next:=0,aD:=List.replicate (eL (bn.length:Int)) 0})with
      | (p,m1) =>
        let m29:=m1.dV 18 ((m1.cP 18+1)%18446744073709551616)
        (bn ++ [p],n-room+1,(if bn.length=0 then m29.put src p else m29.put (jX bn+16) p).put (jX (bn ++ [p])+24+8*(n-room)) iJ)
    else(bn,n-ahead+1,m.put (jX bn+24+8*(n-ahead)) iJ)
theorem sJ {l:List Nat} {i k a r:Nat} (h:i<l.length):gy (l.drop i) k a r=gy (l.drop (i+1)) (k+1) r (r+eL (k:Int)):=by
  obtain⟨x,A⟩:=fM h
  rw[eP A];rfl
theorem rV {l:List Nat} {i k a r:Nat} (h:¬i<l.length):gy (l.drop i) k a r=(a,r):=by rw[iI Oh];rfl
theorem rU {k:Int} (h:0≤k):4≤eL k:=by
  unfold eL
  rw[if_neg Oh]
  split
  · omega
  have:1≤2 ^ k.toNat:=Nat.one_le_two_pow
  omega
theorem JW (k:Int):k<0∨4≤eL k:=by by_cases h:0≤k;exact .inr (rU h);exact .inl Oh
theorem kX {l:List Nat} {x:Nat} (h:l[l.length-1]? = some x):jX l=x:=by simp[jX,List.getD,h]
theorem IZ {α} {l:List α} {p x:α} (h:(l ++ [p])[(l ++ [p]).length-1]? = some x):x=p:=by simpa using h.symm
theorem TX (l:List Nat) (k a r:Nat) (h:l≠[]):(gy l k a r).2=(gy l k a r).1+eL ((k+l.length-1:Nat):Int):=by
  induction l generalizing k a r with
  | nil=>exact absurd q h
  | cons x l ih =>
    by_cases hl:l=[]
    · subst hl;simp[gy]
    · simp only[gy,List.length_cons]
      rw[ih (k+1) r (r+eL (k:Int)) hl,show k+1+l.length-1=k+(l.length+1)-1 by omega]
theorem TY {l:List Nat} {n:Nat} (h2:(gy l 0 0 0).1≤n) (h3:n≤(gy l 0 0 0).2) (h:n≠(gy l 0 0 0).2):1≤l.length∧n<(gy l 0 0 0).1+eL ((l.length-1:Nat):Int):=by
  cases l with
  | nil=>simp[gy]at h3 h;omega
  | cons x l =>
    have:=TX (x :: l) 0 0 0 Oq
    simp only[Nat.zero_add]at this
    refine⟨by simp,?_⟩
    omega
def k9 (len:Nat) (bn:List Nat) (n:Nat):Prop :=
  (∀(k a:Nat),bn[k]? = some a→a+24+8*eL (k:Int)≤len)∧(gy bn 0 0 0).1≤n∧n≤(gy bn 0 0 0).2
def je (c:nZ) (tail:Nat):Mk :=
  let b1:=List.replicate 272 0 ++ fG 4 (List.replicate c.ay {first:=0,tail:=0})
  let b2:=b1 ++ fG 5 (List.replicate c.aA {first:=0,tail:=0})
  {c:=c,depth:=0,b:=b2,ai:=[],aj:=[],main:=[],
    h:={iF:=2,bX:=if c.dS then 4 else 0,state:=1,dh:=c.dh,eR:=c.eR,bV:=List.replicate 16 0,seq:=c.seq,er:=0,eB:=0,eN:=0,
           n:=(((((((((List.replicate 20 0).set 0 272).set 2 288).set 3 (16*c.ay)).set 4 (b1.length+16)).set 5 (16*c.aA)).set 6 b1.length).set 7 2).set 9 tail)}}
theorem aei {α} {l:List α} {i:Nat} (h:¬i<l.length):l.take i=l:=List.take_of_length_le Oh
theorem NZ {v:Value} {b:Nat} (h:∀x,ah v=some x→x≠b):b∉(ah v).toList:=by
  cases hv:ah v with
  | none=>simp
  | some c=>simp;exact fun e=>h c hv e.symm
theorem fF {v:Value} {b:Nat} (h:∀x,ah v=some x→x≠b):∀x,ah v=some x→x∉[b]:=fun x hx hh=>h x hx (by simpa using hh)
def mG (m:Mk) (st:Nat):List UInt8:=wU {m.h with state:=st,n:=m.h.n.set 1 (m.b.length-272)} m.depth ++ m.b.drop 272
theorem yw (h:fP) (depth:Nat) (ok:fP.ok h):(wU h depth).length=272:=by
  obtain⟨_,_,_,A,B,C,D,E,_⟩:=ok
  simp[wU,jc,fV,A,B,C,D,E.1]
end Go.Wk
namespace Go.Wk
open Go Go.RowKit
def Pr.pb (p:Pr):zi:=(p.name,p.value)
section
variable {P:Program} {n:Nat} {A:Fr n} {D:List Deferred} {l:List (Nat × Value)} {w:World} {d:Option Tmp} {ty:TypeId} {ps:String} {af:Array Edge} {g:Option (Nat × Bool)}
theorem XL {x y:Operand} {t f u:TypeId} {p q:Pr} (hp:pairT P t f=true) (hf:P.underlying f=some .string) (hx:ev n l x=some (.agg (Pr.cells p).toArray)) (hy:ev n l y=some (.agg (Pr.cells q).toArray)) :
    dQ P ⟨d,.binOp .eql t x y u,ty,ps,af,g⟩ (bw A D l).eval w (.bool (decide (p.pb=q.pb))):=ai6 (p:=p.pb) (q:=q.pb) hp hf hx hy
end
def sY (p:Pr):List UInt8 × Nat:=if fC p.name=false then([],1)else if 256<p.value.length then([],21)else(ak p,0)
theorem acs {p:Pr} (h:(sY p).2=0):p.name.length≤1000000∧p.value.length≤1000000:=by
  unfold sY at h
  split at h
  · cases h
  rename_i h1
  split at h
  · cases h
  have:=(iw (s:=p.name) (by simpa using h1)).2;omega
theorem zA {p:Pr}:(sY p).2=0↔right p.pb=true:=by
  unfold sY right Pr.pb
  by_cases h1:fC p.name=false
  · simp[h1]
  rw[if_neg h1]
  have A:fC p.name=true:=by simpa using h1
  rw[A]
  by_cases h3:256<p.value.length
  · simp[h3]
  simp[h3];omega
def lV (t:Ly):List Pr→Nat→Nat
  | [],k=>k
  | q :: r,k=>if Op.bytesLess (ak q) t=true then lV t r (k+1)else k
theorem JP {t:Ly} {o:List Pr} {k:Nat} {q:Pr} (h:o[k]? = some q):lV t (o.drop k) k=if Op.bytesLess (ak q) t=true then lV t (o.drop (k+1)) (k+1)else k:=by
  rw[eP h];rfl
theorem adO {t:Ly} {o:List Pr} {k:Nat} (h:¬k<o.length):lV t (o.drop k) k=k:=by rw[iI Oh];rfl
theorem qM {l:List Pr} {i:Nat} {x:Pr} (h:l[i]? = some x):l.getD i {name:=[],value:=[]}=x:=by simp[List.getD,h]
def jT:Nat→Nat→List Pr→List Pr
  | 0,_,o=>o
  | n+1,j,o=>jT n (j-1) (o.set j (o.getD (j-1) {name:=[],value:=[]}))
theorem sM {j k:Nat} {o:List Pr} (h:k<j):jT (j-k) j o=jT (j-1-k) (j-1) (o.set j (o.getD (j-1) {name:=[],value:=[]})):=by
  rw[show j-k=(j-1-k)+1 by omega];rfl
theorem vn {j k:Nat} {o:List Pr} (h:¬k<j):jT (j-k) j o=o:=by rw[show j-k=0 by omega];rfl
def tq (p:Pr) (o:List Pr):List Pr :=
  let k:=lV (ak p) o 0
  if k<o.length∧(o.getD k {name:=[],value:=[]}).pb=p.pb then o else(jT (o.length-k) o.length (o ++ [{name:=[],value:=[]}])).set k p
def RN:List Pr→List Pr→List Pr × Nat
  | [],o=>if 16<o.length then([],21)else(o,0)
  | p :: r,o=>if(sY p).2≠0 then([],(sY p).2)else RN r (tq p o)
def kY (l:List Pr):List Pr × Nat:=if l.length=0 then([],16)else RN l []
theorem LH {l o:List Pr} {i:Nat} (h:¬i<l.length):RN (l.drop i) o=if 16<o.length then([],21)else(o,0):=by rw[iI Oh];rfl
theorem OW {l o:List Pr} {i:Nat} {p:Pr} (h:l[i]? = some p):RN (l.drop i) o=if(sY p).2≠0 then([],(sY p).2)else RN (l.drop (i+1)) (tq p o):=by
  rw[eP h];rfl
end Go.Wk
namespace Go.Wk
open Go Go.RowKit
section
variable {P:Program} {n:Nat} {A:Fr n} {D:List Deferred} {l:List (Nat × Value)} {w:World} {d:Option Tmp} {ty:TypeId} {ps:String} {af:Array Edge} {g:Option (Nat × Bool)}
theorem adM {x y:Operand} {t u:TypeId} {k:IntKind} {a b:Int} (hx:ev n l x=some (.int k a)) (hy:ev n l y=some (.int k b)) (h:b≠0) :
    dQ P ⟨d,.binOp .rem t x y u,ty,ps,af,g⟩ (bw A D l).eval w (.int k (a.tmod b)):=adL hx hy h
end
def Ql (k:Int) (n:Nat):Nat:=if n<1 then 0 else((k.tmod n+n).tmod n).toNat
theorem LX (k:Int) (n:Nat):n<1∨Ql k n<n:=by
  unfold Ql
  by_cases h:n<1
  · exact .inl h
  rw[if_neg h]
  have A:=Int.tmod_lt_of_pos (k.tmod n+n) (show(0:Int)<n by omega)
  right;omega
theorem air {k:Int} {n:Nat} (h:¬n<1):0≤k.tmod n+n∧k.tmod n+n<2*n:=by
  have A:=Int.tmod_lt_of_pos k (show(0:Int)<n by omega)
  have B:=Int.lt_tmod_of_pos k (show(0:Int)<n by omega)
  omega
def Sq.cP (s:Sq) (n:Nat):Nat × Sq:=if s.l.length≤s.b9 then(0,s)else(Ql (s.l.getD s.b9 0) n,{s with b9:=s.b9+1})
def Sq.more (s:Sq):Bool × Sq:=(decide (s.b9<s.l.length),s)
def yI:List (List UInt8):=[[65],[66],[77,69,83,83,65,71,69],[95,80,73,68],[88,95,49],[80,82,73,79,82,73,84,89]]
def vr:List (List UInt8):=[[],[48],[49],[50,50],[97,61,98],[111,110,101,10,116,119,111],[0,255],[116,97,98,9,104,101,114,101],[108,111,110,103,32,108,111,110,103,32,108,111,110,103,32,108,111,110,103,32,108,111,110,103,32,108,111,110,103,32,108,111,110,103],[126,127,128]]
theorem Tc:yI.length=6:=rfl
theorem RG:vr.length=10:=rfl
def idF (k:Int):List UInt8:=((List.replicate 16 0).set 0 94).set 15 (UInt8.ofNat (Ql k 5))
def Sq.pair (s:Sq):Pr × Sq :=
  match s.cP 6 with
  | (a,s1) =>
    match s1.cP 10 with
    | (b,s2)=>({name:=yI.getD a [],value:=vr.getD b []},s2)
theorem Sq.kE (s:Sq) (n:Nat):(s.cP n).1≤n-1:=by
  unfold Sq.cP
  split
  · simp
  simp only
  rcases LX (s.l.getD s.b9 0) n with h|h
  · simp[Ql,h]
  omega
def pu:Nat→Sq→List Pr→List Pr × Sq
  | 0,s,o=>(o,s)
  | n+1,s,o=>match s.pair with
    | (p,s1)=>pu n s1 (o ++ [p])
def Sq.pairs (s:Sq) (bY:Nat):List Pr × Sq :=
  match s.cP bY with
  | (n,s1)=>pu (n+1) s1 []
theorem ZV {n:Nat} {s:Sq} {o:List Pr} (h:¬0<n):pu n s o=(o,s):=by rw[show n=0 by omega];rfl
theorem TG {n:Nat} {s:Sq} {o:List Pr} (h:0<n):pu n s o=pu (n-1) s.pair.2 (o ++ [s.pair.1]):=by
  obtain⟨k,rfl⟩:∃k,n=k+1:=⟨n-1,by omega⟩
  rfl
theorem ac9 (a:Nat):(yI.getD a []).length≤64:=by
  match a with
  | 0|1|2|3|4|5=>decide
  | n+6=>simp[yI]
theorem aaG (a:Nat):(vr.getD a []).length≤256:=by
  match a with
  | 0|1|2|3|4|5|6|7|8|9=>decide
  | n+10=>simp[vr]
theorem afX (s:Sq):s.pair.1.name.length≤64∧s.pair.1.value.length≤256:=⟨ac9 _,aaG _⟩
theorem ZU (n:Nat):∀(s:Sq) (o:List Pr),(∀q∈o,q.name.length≤64∧q.value.length≤256)→(∀q∈(pu n s o).1,q.name.length≤64∧q.value.length≤256)∧(pu n s o).1.length=o.length+n:=by
  induction n with
  | zero=>exact fun s o h=>⟨h,rfl⟩
  | succ n ih =>
    intro s o h
    have:=ih s.pair.2 (o ++ [s.pair.1]) (fun q A=>by
      rcases List.mem_append.1 A with A|A
      · exact h q A
      · rw[List.mem_singleton.1 A];exact afX s)
    refine⟨this.1,?_⟩
    have B:=this.2
    rw[List.length_append,List.length_singleton]at B
    rw[show pu (n+1) s o=pu n s.pair.2 (o ++ [s.pair.1])from rfl,B];omega
theorem ad9 (s:Sq) (bY:Nat):(∀q∈(s.pairs bY).1,q.name.length≤1000000∧q.value.length≤1000000)∧(s.pairs bY).1.length≤bY+1:=by
  have h:=ZU ((s.cP bY).1+1) (s.cP bY).2 [] Oq
  have B:=s.kE bY
  have e:s.pairs bY=pu ((s.cP bY).1+1) (s.cP bY).2 []:=rfl
  rw[e]
  refine⟨fun q A=>⟨by have:=(h.1 q A).1;omega,by have:=(h.1 q A).2;omega⟩,?_⟩
  rw[h.2];simp;omega
def Sq.config (s:Sq):nZ × Sq :=
  match s.cP 5 with
  | (a,s1)=>match s1.cP 5 with
    | (b,s2)=>match s2.cP 5 with
      | (c,s3)=>match s3.cP 7 with
        | (d,s4)=>match s4.cP 4 with
          | (e,s5)=>match s5.cP 2 with
            | (f,s6)=>({dh:=idF a,eR:=idF b,seq:=idF c,ay:=d+1,aA:=e+1,bY:=32768,dS:=decide (f=1)},s6)
def Sq.record (s:Sq) (seq:Nat):Rec × Sq :=
  match s.pairs 4 with
  | (ps,s1)=>match s1.cP 40 with
    | (a,s2)=>match s2.cP 9 with
      | (b,s3)=>match s3.cP 3 with
        | (c,s4)=>({seq:=seq,cu:=a,mono:=b,bV:=idF c,aj:=(kY ps).1},s4)
end Go.Wk
namespace Go.Wk
open Go Go.RowKit
section
variable {P:Program} {Q:Exit→Act→World→Prop} {n:Nat} {A:Fr n} {D:List Deferred} {l:List (Nat × Value)} {w:World}
def agM {X0 X1 X2 X3 X4 X5 X6 X7 X8:Type} (n:Nat) (D:List Deferred) (inv:X0→X1→X2→X3→X4→X5→X6→X7→X8→List (Nat × Value)) (W:X0→X1→X2→X3→X4→X5→X6→X7→X8→World→Prop) (mu:X0→X1→X2→X3→X4→X5→X6→X7→X8→Nat) (m:Nat) (a:Act) (w:World):Prop :=
  ∃y0:X0,∃y1:X1,∃y2:X2,∃y3:X3,∃y4:X4,∃y5:X5,∃y6:X6,∃y7:X7,∃y8:X8,∃B:Fr n,a=bw B D (inv y0 y1 y2 y3 y4 y5 y6 y7 y8)∧W y0 y1 y2 y3 y4 y5 y6 y7 y8 w∧mu y0 y1 y2 y3 y4 y5 y6 y7 y8<m
theorem akl {X0 X1 X2 X3 X4 X5 X6 X7 X8:Type} {c:Code} (inv:X0→X1→X2→X3→X4→X5→X6→X7→X8→List (Nat × Value)) (W:X0→X1→X2→X3→X4→X5→X6→X7→X8→World→Prop) (mu:X0→X1→X2→X3→X4→X5→X6→X7→X8→Nat) (x0:X0) (x1:X1) (x2:X2) (x3:X3) (x4:X4) (x5:X5) (x6:X6) (x7:X7) (x8:X8) (h0:Fits n l (inv x0 x1 x2 x3 x4 x5 x6 x7 x8)) (hw:W x0 x1 x2 x3 x4 x5 x6 x7 x8 w)
    (round:∀(x0:X0) (x1:X1) (x2:X2) (x3:X3) (x4:X4) (x5:X5) (x6:X6) (x7:X7) (x8:X8) (B:Fr n) (w':World),W x0 x1 x2 x3 x4 x5 x6 x7 x8 w'→c.wp P (Exit.then (agM n D inv W mu (mu x0 x1 x2 x3 x4 x5 x6 x7 x8)) Q) (bw B D (inv x0 x1 x2 x3 x4 x5 x6 x7 x8)) w') :
    (Code.loop c).wp P Q (bw A D l) w:=by
  refine kL (X:=X0 × X1 × X2 × X3 × X4 × X5 × X6 × X7 × X8) (fun p=>inv p.1 p.2.1 p.2.2.1 p.2.2.2.1 p.2.2.2.2.1 p.2.2.2.2.2.1 p.2.2.2.2.2.2.1 p.2.2.2.2.2.2.2.1 p.2.2.2.2.2.2.2.2) (fun p w=>W p.1 p.2.1 p.2.2.1 p.2.2.2.1 p.2.2.2.2.1 p.2.2.2.2.2.1 p.2.2.2.2.2.2.1 p.2.2.2.2.2.2.2.1 p.2.2.2.2.2.2.2.2 w) (fun p=>mu p.1 p.2.1 p.2.2.1 p.2.2.2.1 p.2.2.2.2.1 p.2.2.2.2.2.1 p.2.2.2.2.2.2.1 p.2.2.2.2.2.2.2.1 p.2.2.2.2.2.2.2.2) (x0,x1,x2,x3,x4,x5,x6,x7,x8) h0 hw (fun p B w' h=>wp_mono (round (p.1) (p.2.1) (p.2.2.1) (p.2.2.2.1) (p.2.2.2.2.1) (p.2.2.2.2.2.1) (p.2.2.2.2.2.2.1) (p.2.2.2.2.2.2.2.1) (p.2.2.2.2.2.2.2.2) B w' h) ?_)
  intro e S T h
  cases e with
  | normal=>obtain⟨H,I,J,K,L,M,N,O,R,C,E,F,G⟩:=h;exact⟨(H,I,J,K,L,M,N,O,R),C,E,F,G⟩
  | _=>exact h
theorem akn {X0 X1 X2 X3 X4 X5 X6 X7 X8:Type} {inv:X0→X1→X2→X3→X4→X5→X6→X7→X8→List (Nat × Value)} {W:X0→X1→X2→X3→X4→X5→X6→X7→X8→World→Prop} {mu:X0→X1→X2→X3→X4→X5→X6→X7→X8→Nat} {m:Nat} (x0:X0) (x1:X1) (x2:X2) (x3:X3) (x4:X4) (x5:X5) (x6:X6) (x7:X7) (x8:X8) (hm:mu x0 x1 x2 x3 x4 x5 x6 x7 x8<m) (hf:Fits n l (inv x0 x1 x2 x3 x4 x5 x6 x7 x8)) (hw:W x0 x1 x2 x3 x4 x5 x6 x7 x8 w) :
    agM n D inv W mu m (bw A D l) w:=⟨x0,x1,x2,x3,x4,x5,x6,x7,x8,_,(ga (A:=A) (D:=D) hf).symm,hw,hm⟩
def aaR {X0 X1 X2 X3 X4 X5 X6 X7 X8 X9:Type} (n:Nat) (D:List Deferred) (inv:X0→X1→X2→X3→X4→X5→X6→X7→X8→X9→List (Nat × Value)) (W:X0→X1→X2→X3→X4→X5→X6→X7→X8→X9→World→Prop) (mu:X0→X1→X2→X3→X4→X5→X6→X7→X8→X9→Nat) (m:Nat) (a:Act) (w:World):Prop :=
  ∃y0:X0,∃y1:X1,∃y2:X2,∃y3:X3,∃y4:X4,∃y5:X5,∃y6:X6,∃y7:X7,∃y8:X8,∃y9:X9,∃B:Fr n,a=bw B D (inv y0 y1 y2 y3 y4 y5 y6 y7 y8 y9)∧W y0 y1 y2 y3 y4 y5 y6 y7 y8 y9 w∧mu y0 y1 y2 y3 y4 y5 y6 y7 y8 y9<m
theorem ain {X0 X1 X2 X3 X4 X5 X6 X7 X8 X9:Type} {c:Code} (inv:X0→X1→X2→X3→X4→X5→X6→X7→X8→X9→List (Nat × Value)) (W:X0→X1→X2→X3→X4→X5→X6→X7→X8→X9→World→Prop) (mu:X0→X1→X2→X3→X4→X5→X6→X7→X8→X9→Nat) (x0:X0) (x1:X1) (x2:X2) (x3:X3) (x4:X4) (x5:X5) (x6:X6) (x7:X7) (x8:X8) (x9:X9) (h0:Fits n l (inv x0 x1 x2 x3 x4 x5 x6 x7 x8 x9)) (hw:W x0 x1 x2 x3 x4 x5 x6 x7 x8 x9 w)
    (round:∀(x0:X0) (x1:X1) (x2:X2) (x3:X3) (x4:X4) (x5:X5) (x6:X6) (x7:X7) (x8:X8) (x9:X9) (B:Fr n) (w':World),W x0 x1 x2 x3 x4 x5 x6 x7 x8 x9 w'→c.wp P (Exit.then (aaR n D inv W mu (mu x0 x1 x2 x3 x4 x5 x6 x7 x8 x9)) Q) (bw B D (inv x0 x1 x2 x3 x4 x5 x6 x7 x8 x9)) w') :
    (Code.loop c).wp P Q (bw A D l) w:=by
  refine kL (X:=X0 × X1 × X2 × X3 × X4 × X5 × X6 × X7 × X8 × X9) (fun p=>inv p.1 p.2.1 p.2.2.1 p.2.2.2.1 p.2.2.2.2.1 p.2.2.2.2.2.1 p.2.2.2.2.2.2.1 p.2.2.2.2.2.2.2.1 p.2.2.2.2.2.2.2.2.1 p.2.2.2.2.2.2.2.2.2) (fun p w=>W p.1 p.2.1 p.2.2.1 p.2.2.2.1 p.2.2.2.2.1 p.2.2.2.2.2.1 p.2.2.2.2.2.2.1 p.2.2.2.2.2.2.2.1 p.2.2.2.2.2.2.2.2.1 p.2.2.2.2.2.2.2.2.2 w) (fun p=>mu p.1 p.2.1 p.2.2.1 p.2.2.2.1 p.2.2.2.2.1 p.2.2.2.2.2.1 p.2.2.2.2.2.2.1 p.2.2.2.2.2.2.2.1 p.2.2.2.2.2.2.2.2.1 p.2.2.2.2.2.2.2.2.2) (x0,x1,x2,x3,x4,x5,x6,x7,x8,x9) h0 hw (fun p B w' h=>wp_mono (round (p.1) (p.2.1) (p.2.2.1) (p.2.2.2.1) (p.2.2.2.2.1) (p.2.2.2.2.2.1) (p.2.2.2.2.2.2.1) (p.2.2.2.2.2.2.2.1) (p.2.2.2.2.2.2.2.2.1) (p.2.2.2.2.2.2.2.2.2) B w' h) ?_)
  intro e T U h
  cases e with
  | normal=>obtain⟨H,I,J,K,L,M,N,O,R,S,C,E,F,G⟩:=h;exact⟨(H,I,J,K,L,M,N,O,R,S),C,E,F,G⟩
  | _=>exact h
theorem acB {X0 X1 X2 X3 X4 X5 X6 X7 X8 X9:Type} {inv:X0→X1→X2→X3→X4→X5→X6→X7→X8→X9→List (Nat × Value)} {W:X0→X1→X2→X3→X4→X5→X6→X7→X8→X9→World→Prop} {mu:X0→X1→X2→X3→X4→X5→X6→X7→X8→X9→Nat} {m:Nat} (x0:X0) (x1:X1) (x2:X2) (x3:X3) (x4:X4) (x5:X5) (x6:X6) (x7:X7) (x8:X8) (x9:X9) (hm:mu x0 x1 x2 x3 x4 x5 x6 x7 x8 x9<m) (hf:Fits n l (inv x0 x1 x2 x3 x4 x5 x6 x7 x8 x9)) (hw:W x0 x1 x2 x3 x4 x5 x6 x7 x8 x9 w) :
    aaR n D inv W mu m (bw A D l) w:=⟨x0,x1,x2,x3,x4,x5,x6,x7,x8,x9,_,(ga (A:=A) (D:=D) hf).symm,hw,hm⟩
end
end Go.Wk
namespace Go.Wk
open Go Go.RowKit
def known0:aY:={cM:=[],b9:=0,cF:=0,bQ:=0,bn:=[]}
def gZ (ds:List aY) (i:Nat):Nat:=(ds.getD i known0).b9
def mA (ds:List aY) (p:Nat) (order:List Nat):Nat→Nat
  | 0=>0
  | n+1=>if p<gZ ds (order.getD n 0)then mA ds p order n else n+1
def mW (ds:List aY) (k:Nat) (order:List Nat):List Nat :=
  let n:=mA ds (gZ ds k) order order.length
  order.take n ++ [k] ++ order.drop n
def iG:List Pr→Mk→List (List UInt8)→List Nat→List (List UInt8) × List Nat × Mk
  | [],m,ps,od=>(ps,od,m)
  | x :: r,m,ps,od =>
    match m.data x with
    | (k,m1)=>iG r m1 (ps ++ [(m1.ai.getD k known0).cM]) (mW m1.ai k od)
def jK (m:Mk) (od:List Nat):List kV:=od.map fun i=>{b9:=gZ m.ai i,cQ:=eu m.c.dS m.c.dh (m.ai.getD i known0).cM}
def kW (e:Nat):List Nat→Mk→Mk
  | [],m=>m
  | i :: r,m =>
    let k:=m.ai.getD i known0
    if k.bQ=0 then
      let m29:=(m.put (k.b9+40) e).put (k.b9+56) 1
      kW e r {m29 with ai:=m29.ai.set i {k with bQ:=1}}
    else
      match m.link k.bn (k.bQ-1) (k.b9+48) e with
      | (a,_,m1) =>
        let m29:=m1.put (k.b9+56) (k.bQ+1)
        kW e r {m29 with ai:=m29.ai.set i {k with bn:=a,bQ:=k.bQ+1}}
def Mk.append (m:Mk) (aj:List Pr) (cu mono:Nat) (bV:Ly):Nat × Nat × Mk :=
  match kY aj with
  | (l,c) =>
    if c≠0 then(0,c,m)
    else if m.cP 9=18446744073709551615 then(0,1,m)
    else
      match iG l m [] []with
      | (ps,od,m1) =>
        let seq:=(m1.cP 9+1)%18446744073709551616
        match m1.di (e6 {seq:=seq,cu:=cu,mono:=mono,bV:=bV,xor:=nU 0 ps,aD:=jK m1 od})with
        | (e,m29) =>
          let n:=m29.cP 8
          match m29.link m29.main n 176 e with
          | (a,t,m3) =>
            let m4:=({m3 with main:=a}:Mk).dV 11 (a.getD 0 0)
            let m5:={m4 with h:={m4.h with er:=jX a%4294967296,eB:=t%4294967296}}
            let m6:=kW e od m5
            if m6.c.bY<m6.b.length then(0,15,m)
            else
              let m7:=if n=0 then(m6.dV 10 seq).dV 12 cu else m6
              let m8:=m7.dV 8 ((m7.cP 8+1)%18446744073709551616)
              let m9:=((m8.dV 9 seq).dV 13 cu).dV 14 mono
              (seq,0,{m9 with h:={m9.h with bV:=bV,eN:=e}})
def jL:Nat→Sq→Mk→List Rec→Mk × List Rec × Sq
  | 0,s,m,rs=>(m,rs,s)
  | n+1,s,m,rs =>
    if s.b9<s.l.length then
      match s.record ((m.cP 9+1)%18446744073709551616)with
      | (r,s1) =>
        match m.append r.aj r.cu r.mono r.bV with
        | (_,c,m1)=>if c≠0 then(m1,rs,s1)else jL n s1 m1 (rs ++ [r])
    else(m,rs,s)
def Sq.pY (s:Sq) (bY:Nat):Mk × List Rec × Sq :=
  match s.config with
  | (c,s1) =>
    match s1.cP 6 with
    | (t,s2)=>jL bY s2 (je c t) []
def wV (l:List Int) (bY:Nat):List UInt8:=mG ((Sq.mk l 0).pY bY).1 1
end Go.Wk
namespace Go.Wk
open Go Go.RowKit
structure ahx (m m':Mk) (k len:Nat):Prop where
  lt:k<m'.ai.length
  ge:m.b.length≤m'.b.length
  le:m'.b.length≤m.b.length+len
  c:m'.c=m.c
  main:m'.main=m.main
  pre:m'.ai=m.ai∨∃x:aY,m'.ai=m.ai ++ [x]∧x.bQ=0∧x.bn=[]∧x.b9+64≤m'.b.length
  fl:m'.aj.length≤m.aj.length+1
  fit:m'.fit
  n8:m'.h.n.getD 8 0=m.h.n.getD 8 0
theorem lT (m:Mk) (p v:Nat):(m.put p v).c=m.c∧(m.put p v).ai=m.ai∧(m.put p v).aj=m.aj∧(m.put p v).main=m.main∧(m.put p v).h=m.h∧(m.put p v).depth=m.depth:=⟨q,q,q,q,q,q⟩
theorem LF (m:Mk) (x:Pr) (h:m.fit):ahx m (m.data x).2 (m.data x).1 (400+x.name.length+(ak x).length):=by
  unfold Mk.data
  cases hk:nH (ak x) m.ai 0 with
  | some i =>
    have:=abO hk
    exact⟨by simp only;omega,Nat.le_refl _,by simp only;omega,q,q,.inl q,by simp only;omega,h,q⟩
  | none =>
    simp only
    have D:=iK m (jf {cQ:=eu m.c.dS m.c.dh (ak x),bT:=0,eH:=0,entry:=0,array:=0,bQ:=0,ak:=ak x})
    have Q:=fD m (jf {cQ:=eu m.c.dS m.c.dh (ak x),bT:=0,eH:=0,entry:=0,array:=0,bQ:=0,ak:=ak x})
    have R:(m.di (jf {cQ:=eu m.c.dS m.c.dh (ak x),bT:=0,eH:=0,entry:=0,array:=0,bQ:=0,ak:=ak x})).2.h.n.getD 8 0=m.h.n.getD 8 0:=by
      simp only[Mk.di,Mk.dV];rw[bD Om,bD Om]
    rw[xH]at D
    simp only at D
    generalize m.di (jf {cQ:=eu m.c.dS m.c.dh (ak x),bT:=0,eH:=0,entry:=0,array:=0,bQ:=0,ak:=ak x})=r at *
    obtain⟨p,A⟩:=r
    simp only at D Q R ⊢
    have S:=ve A A.ai (A.cP 2) p (eu m.c.dS m.c.dh (ak x)%A.c.ay)
    have T:=iY A A.ai (A.cP 2) p (eu m.c.dS m.c.dh (ak x)%A.c.ay)
    generalize A.hang A.ai (A.cP 2) p (eu m.c.dS m.c.dh (ak x)%A.c.ay)=r at *
    obtain⟨n,B⟩:=r
    simp only at S T ⊢
    obtain⟨a1,a2,a3,a4,a5,a6,a7,a8⟩:=D
    obtain⟨Z,J,K,a⟩:=Q
    obtain⟨c1,c2,c3,c4,c5,c6,c7⟩:=S
    obtain⟨d,L,M,e,d5,f⟩:=T
    generalize hx5:({(B.dV 19 (max (B.cP 19) n)).dV 15 (((B.dV 19 (max (B.cP 19) n)).cP 15+1)%18446744073709551616)with ai:=((B.dV 19 (max (B.cP 19) n)).dV 15 (((B.dV 19 (max (B.cP 19) n)).cP 15+1)%18446744073709551616)).ai ++ [({cM:=ak x,b9:=p,cF:=eu m.c.dS m.c.dh (ak x)%A.c.ay,bQ:=0,bn:=[]}:aY)]}:Mk)=m5
    have j:m5.b=B.b∧m5.c=B.c∧m5.ai=B.ai ++ [({cM:=ak x,b9:=p,cF:=eu m.c.dS m.c.dh (ak x)%A.c.ay,bQ:=0,bn:=[]}:aY)]∧m5.aj=B.aj∧m5.main=B.main:=by subst hx5;exact⟨q,q,q,q,q⟩
    have v:m5.h.n.getD 2 0=m.h.n.getD 2 0:=by subst hx5;simp only[Mk.dV];rw[bD Om,bD Om];omega
    have w:m5.h.n.getD 4 0=m.h.n.getD 4 0:=by subst hx5;simp only[Mk.dV];rw[bD Om,bD Om];omega
    have g8:m5.h.n.getD 8 0=m.h.n.getD 8 0:=by subst hx5;simp only[Mk.dV];rw[bD Om,bD Om,f,R]
    clear hx5
    obtain⟨g,E,O,P,l⟩:=j
    have l5:m5.b.length=A.b.length:=by rw[g];omega
    have u:m5.fit:=by
      refine pU h ⟨by rw[E];omega,by rw[E];omega,v,w,by omega⟩ (fun k hk=>?_) (fun k hk=>?_)
      · rw[O,L,J,List.mem_append,List.mem_singleton]at hk
        rcases hk with hk|rfl
        · exact .inl hk
        · right;simp only;omega
      · rw[P,M,K]at hk;exact .inl hk
    have U:=uV m5 x.name u
    generalize m5.field x.name=r at *
    obtain⟨k,C⟩:=r
    simp only at U ⊢
    obtain⟨⟨q1,q2,q3,q4,q5,q6,q7,q8,q9,y⟩,⟨z,s2,s3⟩,s4⟩:=U
    have l8:((C.put (p+32) (mM C.b (k+32:Nat) 8).1).put (k+32) p).b.length=C.b.length:=by rw[kR,kR]
    have o:=lT C (p+32) (mM C.b (k+32:Nat) 8).1
    have t:=lT (C.put (p+32) (mM C.b (k+32:Nat) 8).1) (k+32) p
    generalize C.put (p+32) (mM C.b (k+32:Nat) 8).1=m7 at *
    generalize m7.put (k+32) p=m8 at *
    obtain⟨F,V,W,v4,G,_⟩:=o
    obtain⟨H,X,Y,w4,I,_⟩:=t
    have N:m8.ai=m.ai ++ [({cM:=ak x,b9:=p,cF:=eu m.c.dS m.c.dh (ak x)%A.c.ay,bQ:=0,bn:=[]}:aY)]:=by rw[X,V,s2,O,L,J]
    refine⟨by rw[N];simp,by omega,by omega,by rw[H,F,z,E,d,Z],by rw[w4,v4,s3,l,e,a],.inr ⟨_,N,q,q,by simp only;omega⟩,?_,?_,by rw[I,G];omega⟩
    · have:=congrArg List.length P;rw[M,K]at this;rw[Y,W];omega
    · refine pU s4 ⟨by rw[H,F],by rw[H,F],by rw[I,G],by rw[I,G],by omega⟩ (fun k hk=>.inl (by rw[X,V]at hk;exact hk)) (fun k hk=>.inl (by rw[Y,W]at hk;exact hk))
theorem aar (l:List Nat) (p k a r:Nat):gy (l ++ [p]) k a r=((gy l k a r).2,(gy l k a r).2+eL ((k+l.length:Nat):Int)):=by
  induction l generalizing k a r with
  | nil=>rfl
  | cons x l ih =>
    show gy (l ++ [p]) (k+1) r (r+eL (k:Int))=_
    rw[ih]
    show _=((gy l (k+1) r (r+eL (k:Int))).2,(gy l (k+1) r (r+eL (k:Int))).2+eL ((k+(l.length+1):Nat):Int))
    rw[show k+1+l.length=k+(l.length+1)by omega]
theorem adU (l:List Nat) (k a r:Nat):r+4*l.length≤(gy l k a r).2∧(l≠[]→r+4*(l.length-1)≤(gy l k a r).1):=by
  induction l generalizing k a r with
  | nil=>simp[gy]
  | cons x l ih =>
    have C:=rU (k:=(k:Int)) Oh
    obtain⟨B,A⟩:=ih (k+1) r (r+eL (k:Int))
    refine⟨?_,fun _=>?_⟩
    · show r+4*(l.length+1)≤(gy l (k+1) r (r+eL (k:Int))).2;omega
    · show r+4*(l.length+1-1)≤(gy l (k+1) r (r+eL (k:Int))).1
      by_cases hl:l=[]
      · subst hl;simp[gy]
      · have:=A hl
        have:0<l.length:=by cases l with|nil=>exact absurd q hl|cons _ _=>simp
        omega
theorem uP {len n:Nat} {a:List Nat} (h:k9 len a n):a.length≤n+1:=by
  obtain⟨_,B,_⟩:=h
  have A:=(adU a 0 0 0).2
  by_cases ha:a=[]
  · subst ha;simp
  have:=A ha;omega
theorem pQ {len len' n:Nat} {a:List Nat} (h:k9 len a n) (hl:len≤len'):k9 len' a n :=
  ⟨fun k x hx=>ly (h.1 k x hx) hl,h.2⟩
theorem chain_nil (len:Nat):k9 len [] 0:=⟨by simp,by simp[gy],by simp[gy]⟩
structure aaQ (m m':Mk) (a:List Nat) (n:Nat):Prop where
  ge:m.b.length≤m'.b.length
  le:m'.b.length≤m.b.length+2100
  c:m'.c=m.c
  ai:m'.ai=m.ai
  aj:m'.aj=m.aj
  main:m'.main=m.main
  chain:k9 m'.b.length a (n+1)
  ne:a≠[]
  n8:m'.h.n.getD 8 0=m.h.n.getD 8 0
  n2:m'.h.n.getD 2 0=m.h.n.getD 2 0
  n4:m'.h.n.getD 4 0=m.h.n.getD 4 0
theorem xe (m:Mk) (bn:List Nat) (n src iJ:Nat) (h:k9 m.b.length bn n):aaQ m (m.link bn n src iJ).2.2 (m.link bn n src iJ).1 n:=by
  obtain⟨R,S,T⟩:=h
  unfold Mk.link
  have F:=fun p=>aar bn p 0 0 0
  rcases hq:gy bn 0 0 0 with⟨A,B⟩
  rw[hq]at S T F
  simp only at S T F ⊢
  rw[Nat.zero_add]at F
  split
  · rename_i hn
    have G:=iK m (gD {next:=0,aD:=List.replicate (eL (bn.length:Int)) 0})
    have Q:=fD m (gD {next:=0,aD:=List.replicate (eL (bn.length:Int)) 0})
    have o:(m.di (gD {next:=0,aD:=List.replicate (eL (bn.length:Int)) 0})).2.h.n.getD 8 0=m.h.n.getD 8 0:=by
      simp only[Mk.di,Mk.dV];rw[bD Om,bD Om]
    rw[vL]at G
    simp only[List.length_replicate]at G
    generalize m.di (gD {next:=0,aD:=List.replicate (eL (bn.length:Int)) 0})=r at *
    obtain⟨p,C⟩:=r
    simp only at G Q o ⊢
    obtain⟨w,y,z,a4,a5,a6,a7,a8⟩:=G
    obtain⟨U,V,W,X⟩:=Q
    have O:=uF (bn.length:Int)
    have H:=rU (k:=(bn.length:Int)) Oh
    generalize hx2:C.dV 18 ((C.cP 18+1)%18446744073709551616)=m29
    have u:m29.b=C.b∧m29.c=C.c∧m29.ai=C.ai∧m29.aj=C.aj∧m29.main=C.main:=by subst hx2;exact aas _ _ _
    have t8:m29.h.n.getD 8 0=C.h.n.getD 8 0:=by subst hx2;exact ej Om
    have t2:m29.h.n.getD 2 0=C.h.n.getD 2 0:=by subst hx2;exact ej Om
    have t4:m29.h.n.getD 4 0=C.h.n.getD 4 0:=by subst hx2;exact ej Om
    clear hx2
    generalize hx3:(if bn.length=0 then m29.put src p else m29.put (jX bn+16) p)=m3
    have v:m3.b.length=m29.b.length∧m3.c=m29.c∧m3.ai=m29.ai∧m3.aj=m29.aj∧m3.main=m29.main∧m3.h=m29.h:=by
      subst hx3
      split
      · exact⟨kR _ _ _,q,q,q,q,q⟩
      · exact⟨kR _ _ _,q,q,q,q,q⟩
    clear hx3
    have t:=kR m3 (jX (bn ++ [p])+24+8*(n-B)) iJ
    have P:=lT m3 (jX (bn ++ [p])+24+8*(n-B)) iJ
    generalize m3.put (jX (bn ++ [p])+24+8*(n-B)) iJ=m4 at *
    obtain⟨Y,Z,d,e,f⟩:=u
    obtain⟨d1,g,i,j,l,I⟩:=v
    obtain⟨J,K,L,M,E,_⟩:=P
    have l2:=congrArg List.length Y
    have ll:m4.b.length=m.b.length+(16+(8+8*eL (bn.length:Int))+7)/8*8:=by omega
    refine⟨by omega,by omega,by rw[J,g,Z,U],by rw[K,i,d,V],by rw[L,j,e,W],by rw[M,l,f,X],⟨fun k x D=>?_,?_,?_⟩,by simp,by rw[E,I];omega,by rw[E,I];omega,by rw[E,I];omega⟩
    · rcases Nat.lt_or_ge k bn.length with hk|hk
      · rw[List.getElem?_append_left hk]at D
        have:=R k x D;omega
      have N:=(List.getElem?_eq_some_iff.1 D).1
      simp at N
      have:k=bn.length:=by omega
      subst this
      rw[List.getElem?_append_right (Nat.le_refl _)]at D
      simp at D
      subst D
      omega
    · rw[F];simp only;omega
    rw[F];simp only;omega
  rename_i hn
  have t:=kR m (jX bn+24+8*(n-A)) iJ
  have P:=lT m (jX bn+24+8*(n-A)) iJ
  generalize m.put (jX bn+24+8*(n-A)) iJ=m4 at *
  obtain⟨J,K,L,M,E,_⟩:=P
  show aaQ m m4 bn n
  refine⟨by omega,by omega,J,K,L,M,⟨fun k x D=>by have:=R k x D;omega,by rw[hq];simp only;omega,by rw[hq];simp only;omega⟩,?_,by rw[E],by rw[E],by rw[E]⟩
  rintro rfl
  simp[gy]at hq
  omega
def Mk.n8 (m:Mk):Nat:=m.h.n.getD 8 0
def OD (m:Mk) (bY:Nat):Prop:=∀k∈m.ai,k9 m.b.length k.bn (k.bQ-1)∧(k.bQ=0→k.bn=[])∧k.cM.length≤400∧k.bQ≤bY
structure vV (m:Mk):Prop where
  fit:m.fit
  main:k9 m.b.length m.main m.n8
  chains:OD m (16*m.n8)
  nd:m.ai.length≤16*m.n8
  nf:m.aj.length≤16*m.n8
  nb:64*m.n8≤m.b.length
  small:m.b.length≤40000
  bY:m.c.bY≤40000
  hd:272≤m.b.length
structure lJ (m0 m:Mk) (d e:Nat) (j:Nat):Prop where
  fit:m.fit
  c:m.c=m0.c
  n8:m.n8=m0.n8
  chains:OD m (16*m0.n8+j)
  nd:m.ai.length≤m0.ai.length+d
  nf:m.aj.length≤m0.aj.length+d
  ge:m0.b.length≤m.b.length
  le:m.b.length≤m0.b.length+e
theorem YA {m:Mk} (h:vV m):lJ m m 0 0 0:=⟨h.fit,q,q,h.chains,Nat.le_refl _,Nat.le_refl _,Nat.le_refl _,Nat.le_refl _⟩
theorem IA {m:Mk} {x:Pr} (y:aY) (h:y∈(m.data x).2.ai):y∈m.ai∨y.cM=ak x:=by
  unfold Mk.data at h
  split at h
  · exact .inl h
  simp only at h
  have F:=fD m (jf {cQ:=eu m.c.dS m.c.dh (ak x),bT:=0,eH:=0,entry:=0,array:=0,bQ:=0,ak:=ak x})
  generalize m.di (jf {cQ:=eu m.c.dS m.c.dh (ak x),bT:=0,eH:=0,entry:=0,array:=0,bQ:=0,ak:=ak x})=r at *
  obtain⟨p,B⟩:=r
  simp only at h F
  have G:=iY B B.ai (B.cP 2) p (eu m.c.dS m.c.dh (ak x)%B.c.ay)
  generalize B.hang B.ai (B.cP 2) p (eu m.c.dS m.c.dh (ak x)%B.c.ay)=r at *
  obtain⟨n,C⟩:=r
  simp only at h G
  generalize hx5:({(C.dV 19 (max (C.cP 19) n)).dV 15 (((C.dV 19 (max (C.cP 19) n)).cP 15+1)%18446744073709551616)with ai:=((C.dV 19 (max (C.cP 19) n)).dV 15 (((C.dV 19 (max (C.cP 19) n)).cP 15+1)%18446744073709551616)).ai ++ [({cM:=ak x,b9:=p,cF:=eu m.c.dS m.c.dh (ak x)%B.c.ay,bQ:=0,bn:=[]}:aY)]}:Mk)=m5 at h
  have I:m5.ai=C.ai ++ [({cM:=ak x,b9:=p,cF:=eu m.c.dS m.c.dh (ak x)%B.c.ay,bQ:=0,bn:=[]}:aY)]:=by subst hx5;rfl
  clear hx5
  have H:(m5.field x.name).2.ai=m5.ai:=by
    unfold Mk.field
    split
    · rfl
    · simp only
      have D:=fD m5 (ir {cQ:=eu m5.c.dS m5.c.dh x.name,bT:=0,dat:=0,ak:=x.name})
      generalize m5.di (ir {cQ:=eu m5.c.dS m5.c.dh x.name,bT:=0,dat:=0,ak:=x.name})=r at *
      obtain⟨q,A⟩:=r
      simp only at D ⊢
      have E:=iY A A.aj (A.cP 4) q (eu m5.c.dS m5.c.dh x.name%A.c.aA)
      generalize A.hang A.aj (A.cP 4) q (eu m5.c.dS m5.c.dh x.name%A.c.aA)=r at *
      obtain⟨M,L⟩:=r
      simp only at E ⊢
      show L.ai=m5.ai
      rw[E.2.1,D.2.1]
  generalize m5.field x.name=r at *
  obtain⟨k,A⟩:=r
  simp only at h H
  have J:=(lT A (p+32) (mM A.b (k+32:Nat) 8).1).2.1
  have K:=(lT (A.put (p+32) (mM A.b (k+32:Nat) 8).1) (k+32) p).2.1
  rw[K,J,H,I,List.mem_append,List.mem_singleton,G.2.1,F.2.1]at h
  rcases h with h|rfl
  · exact .inl h
  exact .inr rfl
theorem BL {m0 m:Mk} {d e j:Nat} {x:Pr} (h:lJ m0 m d e j) (hx:x.name.length≤64∧x.value.length≤256):lJ m0 (m.data x).2 (d+1) (e+900) j∧(m.data x).1<(m.data x).2.ai.length∧(m.data x).2.main=m.main:=by
  have g:=LF m x h.fit
  have G:=fun y=>IA (m:=m) (x:=x) y
  have U:=kK x
  generalize m.data x=r at *
  obtain⟨k,H⟩:=r
  simp only at g G ⊢
  have D:=g.ge;have I:=g.le;have O:=h.ge;have P:=h.le;have Q:=h.nd;have R:=h.nf;have S:=g.fl
  have T:H.ai.length≤m.ai.length+1:=by
    rcases g.pre with e|⟨x,e,_⟩ <;> rw[e] <;> simp
  refine⟨⟨g.fit,g.c.trans h.c,(show H.h.n.getD 8 0=m0.n8 from g.n8.trans h.n8),fun y A=>?_,by omega,by omega,by omega,by omega⟩,g.lt,g.main⟩
  have F:y∈m.ai∨(y.bQ=0∧y.bn=[]):=by
    rcases g.pre with e|⟨x,e,C,B,_⟩
    · rw[e]at A;exact .inl A
    · rw[e,List.mem_append,List.mem_singleton]at A
      rcases A with A|rfl
      · exact .inl A
      · exact .inr ⟨C,B⟩
  rcases F with E|⟨C,B⟩
  · obtain⟨K,L,M,N⟩:=h.chains y E
    exact⟨pQ K D,L,M,N⟩
  refine⟨by rw[C,B];exact chain_nil _,fun _=>B,?_,by omega⟩
  rcases G y A with E|J
  · exact(h.chains y E).2.2.1
  rw[J];omega
theorem BP {m0 m m':Mk} {d e e' j j':Nat} (h:lJ m0 m d e j) (hc:m'.c=m.c) (h8:m'.n8=m.n8) (h2:m'.h.n.getD 2 0=m.h.n.getD 2 0) (h4:m'.h.n.getD 4 0=m.h.n.getD 4 0) (hd:m'.ai=m.ai) (hf:m'.aj=m.aj)
    (hg:m.b.length≤m'.b.length) (hl:m'.b.length≤m.b.length+e') (hj:j≤j'):lJ m0 m' d (e+e') j':=by
  have:=h.ge;have:=h.le
  refine⟨pU h.fit ⟨by rw[hc],by rw[hc],h2,h4,hg⟩ (fun k hk=>.inl (hd ▸ hk)) (fun k hk=>.inl (hf ▸ hk)),hc.trans h.c,h8.trans h.n8,fun k hk=>?_,by rw[hd];exact h.nd,by rw[hf];exact h.nf,by omega,by omega⟩
  rw[hd]at hk
  obtain⟨A,B,C,D⟩:=h.chains k hk
  exact⟨pQ A hg,B,C,by omega⟩
theorem BO {m0 m:Mk} {d e j L:Nat} {o:Ly} (h:lJ m0 m d e j) (ho:o.length≤L):lJ m0 (m.di o).2 d (e+L) j:=by
  have A:=iK m o
  have B:=fD m o
  have C:(m.di o).2.h.n.getD 8 0=m.h.n.getD 8 0:=by simp only[Mk.di,Mk.dV];rw[bD Om,bD Om]
  exact BP h B.1 C A.2.2.2.2.2.2.1 A.2.2.2.2.2.2.2 B.2.1 B.2.2.1 (by rw[A.2.1];omega) (by rw[A.2.1];omega) (Nat.le_refl _)
theorem KN {m0 m:Mk} {d e j:Nat} (p v:Nat) (h:lJ m0 m d e j):lJ m0 (m.put p v) d e j :=
  BP (e':=0) h q q q q q q (by rw[kR];exact Nat.le_refl _) (by rw[kR];exact Nat.le_refl _) (Nat.le_refl _)
theorem BN {m0 m:Mk} {d e j n src iJ:Nat} {bn:List Nat} (h:lJ m0 m d e j) (hc:k9 m.b.length bn n):lJ m0 (m.link bn n src iJ).2.2 d (e+2100) j:=by
  have g:=xe m bn n src iJ hc
  exact BP h g.c g.n8 g.n2 g.n4 g.ai g.aj g.ge g.le (Nat.le_refl _)
theorem V4 {m0 m:Mk} {d e j i:Nat} {k:aY} (h:lJ m0 m d e j) (hi:i<m.ai.length) (hp:k.b9=(m.ai.getD i known0).b9) (ht:k.cM=(m.ai.getD i known0).cM)
    (hk:k9 m.b.length k.bn (k.bQ-1)∧(k.bQ=0→k.bn=[])∧k.bQ≤16*m0.n8+(j+1)):lJ m0 {m with ai:=m.ai.set i k} d e (j+1):=by
  have C:m.ai[i]? = some (m.ai.getD i known0):=by simp[List.getD,hi]
  have B:=List.mem_of_getElem? C
  refine⟨pU h.fit ⟨q,q,q,q,Nat.le_refl _⟩ (fun y A=>?_) (fun y A=>.inl A),h.c,h.n8,fun y A=>?_,by simpa using h.nd,h.nf,h.ge,h.le⟩
  · rcases List.mem_or_eq_of_mem_set A with A|rfl
    · exact .inl A
    right;have:=h.fit.2.2.2.2.2.2.1 _ B;simp only;omega
  rcases List.mem_or_eq_of_mem_set A with A|rfl
  · obtain⟨D,E,F,G⟩:=h.chains y A;exact⟨D,E,F,by omega⟩
  exact⟨hk.1,hk.2.1,by rw[ht];exact(h.chains _ B).2.2.1,hk.2.2⟩
def kJ (e:Nat) (i:Nat) (m:Mk):Mk :=
  let k:=m.ai.getD i known0
  if k.bQ=0 then
    let m29:=(m.put (k.b9+40) e).put (k.b9+56) 1
    {m29 with ai:=m29.ai.set i {k with bQ:=1}}
  else
    match m.link k.bn (k.bQ-1) (k.b9+48) e with
    | (a,_,m1) =>
      let m29:=m1.put (k.b9+56) (k.bQ+1)
      {m29 with ai:=m29.ai.set i {k with bn:=a,bQ:=k.bQ+1}}
theorem om (e i:Nat) (r:List Nat) (m:Mk):kW e (i :: r) m=kW e r (kJ e i m):=by
  unfold kJ
  rw[kW]
  simp only
  split
  · rfl
  rfl
theorem CY {m0 m:Mk} {d e j i en:Nat} (h:lJ m0 m d e j) (hi:i<m.ai.length):lJ m0 (kJ en i m) d (e+2100) (j+1)∧(kJ en i m).main=m.main∧(kJ en i m).ai.length=m.ai.length:=by
  have K:m.ai[i]? = some (m.ai.getD i known0):=by simp[List.getD,hi]
  have M:=List.mem_of_getElem? K
  obtain⟨I,N,O,P⟩:=h.chains _ M
  unfold kJ
  simp only
  generalize hk:m.ai.getD i known0=k at *
  split
  · rename_i h0
    have g:=KN (k.b9+56) 1 (KN (k.b9+40) en h)
    have J:=lT m (k.b9+40) en
    have D:=lT (m.put (k.b9+40) en) (k.b9+56) 1
    have H:((m.put (k.b9+40) en).put (k.b9+56) 1).b.length=m.b.length:=by rw[kR,kR]
    generalize m.put (k.b9+40) en=C at *
    generalize C.put (k.b9+56) 1=m29 at *
    have B:m29.ai=m.ai:=D.2.1.trans J.2.1
    have A:=V4 (i:=i) (k:={k with bQ:=1}) g (by rw[B];exact hi) (by rw[B,hk]) (by rw[B,hk]) ⟨by simp only;rw[N h0];exact chain_nil _,fun F=>by simp at F,by simp only;omega⟩
    refine⟨⟨A.fit,A.c,A.n8,A.chains,A.nd,A.nf,A.ge,ly A.le Oh⟩,D.2.2.2.1.trans J.2.2.2.1,by simp[B]⟩
  rename_i h0
  have g:=BN (src:=k.b9+48) (iJ:=en) h I
  have E:=xe m k.bn (k.bQ-1) (k.b9+48) en I
  generalize m.link k.bn (k.bQ-1) (k.b9+48) en=r at *
  obtain⟨a,Q,C⟩:=r
  simp only at g E ⊢
  have L:=KN (k.b9+56) (k.bQ+1) g
  have D:=lT C (k.b9+56) (k.bQ+1)
  have H:=kR C (k.b9+56) (k.bQ+1)
  generalize C.put (k.b9+56) (k.bQ+1)=m29 at *
  have B:m29.ai=m.ai:=D.2.1.trans E.ai
  have G:=E.chain
  rw[show k.bQ-1+1=k.bQ by omega,← H]at G
  have A:=V4 (i:=i) (k:={k with bn:=a,bQ:=k.bQ+1}) L (by rw[B];exact hi) (by rw[B,hk]) (by rw[B,hk]) ⟨G,fun F=>by simp at F,by simp only;omega⟩
  exact⟨A,D.2.2.2.1.trans E.main,by simp[B]⟩
theorem DF {m0:Mk} {d en:Nat}:∀(od:List Nat) (m:Mk) (e j:Nat),lJ m0 m d e j→(∀i∈od,i<m.ai.length) →
    lJ m0 (kW en od m) d (e+2100*od.length) (j+od.length)∧(kW en od m).main=m.main∧(kW en od m).ai.length=m.ai.length
  | [],m,e,j,h,_=>⟨h,q,q⟩
  | i :: r,m,e,j,h,hi=>by
    obtain⟨h1,h2,h3⟩:=CY (en:=en) h (hi i Oq)
    obtain⟨g1,g2,g3⟩:=DF r (kJ en i m) (e+2100) (j+1) h1 fun x hx=>by rw[h3];exact hi x (by simp[hx])
    rw[om]
    refine⟨?_,g2.trans h2,g3.trans h3⟩
    have e1:e+2100*(i :: r).length=e+2100+2100*r.length:=by simp;omega
    have A:j+(i :: r).length=j+1+r.length:=by simp;omega
    rw[e1,A];exact g1
def BD (q:Pr):Prop:=q.name.length≤64∧q.value.length≤256
theorem Rx:∀(n j:Nat) (o:List Pr),(∀q∈o,BD q)→∀q∈jT n j o,BD q
  | 0,_,_,h=>h
  | n+1,j,o,h=>by
    unfold jT
    refine Rx n (j-1) _ fun q hq=>?_
    rcases List.mem_or_eq_of_mem_set hq with hq|rfl
    · exact h q hq
    · rw[List.getD_eq_getElem?_getD]
      cases hg:o[j-1]? with
      | none=>exact⟨by simp,by simp⟩
      | some y=>exact h y (List.mem_of_getElem? hg)
theorem aic {p:Pr} {o:List Pr} (hp:BD p) (h:∀q∈o,BD q):∀q∈tq p o,BD q:=by
  unfold tq
  simp only
  split
  · exact h
  intro q B
  rcases List.mem_or_eq_of_mem_set B with B|rfl
  · refine Rx _ _ _ (fun y A=>?_) q B
    rcases List.mem_append.1 A with A|A
    · exact h y A
    simp at A;subst A;exact⟨by simp,by simp⟩
  exact hp
theorem abY:∀(l o:List Pr),(∀q∈o,BD q)→∀(x:List Pr) (c:Nat),RN l o=(x,c)→(∀q∈x,BD q)∧x.length≤16
  | [],o,ho,x,c,h=>by
    unfold RN at h
    split at h
    · obtain⟨rfl,_⟩:=Prod.mk.inj h;simp
    · obtain⟨rfl,_⟩:=Prod.mk.inj h;exact⟨ho,by omega⟩
  | p :: r,o,ho,x,c,h=>by
    unfold RN at h
    split at h
    · obtain⟨rfl,_⟩:=Prod.mk.inj h;simp
    · rename_i h1
      have hr:=zA.1 (Classical.not_not.1 h1)
      simp only[right,Pr.pb,Bool.and_eq_true]at hr
      exact abY r _ (aic ⟨(iw hr.1).2,dT hr.2⟩ ho) x c h
theorem ug {l x:List Pr} {c:Nat} (h:kY l=(x,c)):(∀q∈x,BD q)∧x.length≤16:=by
  unfold kY at h
  split at h
  · obtain⟨rfl,_⟩:=Prod.mk.inj h;simp
  exact abY l [] Oq x c h
theorem JL {ds:List aY} {k i:Nat} {od:List Nat} (h:i∈mW ds k od):i=k∨i∈od:=by
  unfold mW at h
  simp only[List.mem_append,List.mem_singleton]at h
  rcases h with(h|h)|h
  · exact .inr (List.mem_of_mem_take h)
  · exact .inl h
  exact .inr (List.mem_of_mem_drop h)
theorem BS (ds:List aY) (p:Nat) (od:List Nat):∀n,mA ds p od n≤n
  | 0=>Nat.le_refl _
  | n+1=>by
    unfold mA
    split
    · have:=BS ds p od n;omega
    · exact Nat.le_refl _
theorem ZW (ds:List aY) (k:Nat) (od:List Nat):(mW ds k od).length=od.length+1:=by
  have:=BS ds (gZ ds k) od od.length
  unfold mW;simp;omega
structure qx (m0 m:Mk) (ps:List (List UInt8)) (od:List Nat) (n:Nat):Prop where
  app:lJ m0 m n (900*n) 0
  main:m.main=m0.main
  idx:∀i∈od,i<m.ai.length
  len:od.length=n∧ps.length=n
  ps:∀t∈ps,t.length≤400
theorem CK {m0 m:Mk} {ps:List (List UInt8)} {od:List Nat} {n:Nat} {x:Pr} (h:qx m0 m ps od n) (hx:BD x) :
    qx m0 (m.data x).2 (ps ++ [((m.data x).2.ai.getD (m.data x).1 known0).cM]) (mW (m.data x).2.ai (m.data x).1 od) (n+1):=by
  obtain⟨C,D,F⟩:=BL h.app hx
  have G:=LF m x h.app.fit
  refine⟨by rw[show 900*(n+1)=900*n+900 by omega];exact C,F.trans h.main,fun i B=>?_,⟨by rw[ZW,h.len.1],by simpa using h.len.2⟩,fun t A=>?_⟩
  · rcases JL B with rfl|B
    · exact D
    have:=h.idx i B
    have H:m.ai.length≤(m.data x).2.ai.length:=by
      rcases G.pre with e|⟨y,e,_⟩ <;> rw[e] <;> simp
    omega
  rcases List.mem_append.1 A with A|A
  · exact h.ps t A
  simp at A
  subst A
  have E:(m.data x).2.ai[(m.data x).1]? = some ((m.data x).2.ai.getD (m.data x).1 known0):=by simp[List.getD,D]
  exact(C.chains _ (List.mem_of_getElem? E)).2.2.1
theorem uT {m0:Mk}:∀(l:List Pr) (m:Mk) (ps:List (List UInt8)) (od:List Nat) (n:Nat),qx m0 m ps od n→(∀q∈l,BD q) →
    qx m0 (iG l m ps od).2.2 (iG l m ps od).1 (iG l m ps od).2.1 (n+l.length)
  | [],m,ps,od,n,h,_=>h
  | x :: r,m,ps,od,n,h,hb=>by
    have h1:=CK h (hb x Oq)
    have h2:=uT r _ _ _ _ h1 fun q hq=>hb q (by simp[hq])
    rw[show n+(x :: r).length=n+1+r.length by simp;omega]
    exact h2
theorem qC {m:Mk} (h:vV m):qx m m [] [] 0:=⟨YA h,q,by simp,⟨q,q⟩,by simp⟩
end Go.Wk
namespace Go.Wk
open Go Go.RowKit
section
variable {P:Program} {ops:Array Oper} {md:Region.Mode} {C:World→Prop} {Q:Exit→Act→World→Prop} {QN:Act→World→Prop}
variable {n:Nat} {A:Fr n} {D:List Deferred} {l:List (Nat × Value)} {w:World} {f:Nat} {listed:Array Bool}
theorem BW {R:Act→World→Prop} {id:Nat} {lo:List Oper} {a:Act} (C:World→Prop) (hm:P.follows .mixedOrders=true) (hk:∀a' w',R a' w'→Q .normal a' w')
  (h:∀w',Md [] w w'→mH P .any lo.toArray C R lo.length (Array.replicate lo.length false) a w'):(Code.region id lo.toArray true).wp P Q a w:=by
 refine wp_region_any hm (qn (C:=C) (QN:=R) hk _ _ _ _ ?_)
 have:=h _ (Md.drew w)
 simpa using this
theorem tE {a:Act} (hr:(Region.ready md ops listed).isEmpty=true) (h:QN a w):mH P md ops C QN 0 listed a w:=⟨by simpa using hr,h⟩
theorem iu {i d:Nat} {op:Op} {ty:TypeId} {ps:String} {af:Array Edge} (v:Value) (hi:ops[i]? = some ⟨some d,op,ty,ps,af,none⟩) (hs:Region.noSelect ops=true) (hB:((Region.ready md ops listed).contains i && Region.free md ops listed i)=true) (hC:C w)
    (hv:∀w',C w'→dQ P ⟨some d,op,ty,ps,af,none⟩ (bw A D l).eval w' v) (k:mH P md ops C QN f (listed.setIfInBounds i true) (bw A D ((d,v) :: l)) w):mH P md ops C QN (f+1) listed (bw A D l) w:=by
  simp only[Bool.and_eq_true]at hB
  exact sO hi (Region.noSelect_spec hs) f listed _ w (Region.free_spec hi hB.2) (by simpa using hB.1) hC (.inl ⟨by simp[Region.wanted],fun w' B=>hv w' B⟩) k
theorem yO {i:Nat} {o:Oper} {a:Act} {K:Act→World→Prop} (hi:ops[i]? = some o) (hg:o.guard=none) (h:wpList P ops (fun e a' w'=>e = .normal∧C w'∧K a' w') [o] a w):opC P ops C i K a w:=by
  have D:Region.wanted o (yielded ops a.tmps)=true:=by unfold Region.wanted;rw[hg]
  unfold opC
  simp only[hi]
  rw[if_pos D]
  unfold wpList at h
  rw[if_pos D]at h
  rcases h with h|h
  · unfold Oper.wp at *
    generalize (execOp a.eval o).run P w=r at *
    cases r with
    | ok x w' =>
      cases x <;> simp only[Oper.upon]at h ⊢
      case value v=>exact(show _∧_ from h).2
      case skip=>exact(show _∧_ from h).2
      case defer d=>exact(show _∧_ from h).2
      case enter f args =>
        refine h.mono fun e B A=>?_
        cases e with
        | returned v=>exact(show _∧_ from A).2
        | panicked c=>exact absurd A.1 Oq
        | outgrown=>obtain⟨_,_,A⟩:=A;exact absurd A.1 Oq
      case row r args=>exact h.mono fun v B A=>(show _∧_ from A).2
    | halt x w' =>
      cases x <;> simp only[Oper.upon]at h ⊢
      exact absurd h.1 Oq
  obtain⟨_,_,_,A⟩:=h;exact absurd A.1 Oq
theorem gY {i:Nat} {o:Oper} {a:Act} (hr:decide (Region.ready md ops listed=[i])=true) (hi:ops[i]? = some o) (hg:o.guard=none)
    (h:wpList P ops (fun e a' w'=>e = .normal∧C w'∧mH P md ops C QN f (listed.setIfInBounds i true) a' w') [o] a w):mH P md ops C QN (f+1) listed a w:=by
  have hr:=dT hr
  refine⟨fun A=>(by rw[hr]at A;cases A),fun k hk=>?_⟩
  rw[hr]at hk
  have:k=i:=by simpa using hk
  subst this
  exact yO hi hg h
theorem HG {i j:Nat} {o o':Oper} {a:Act} (hr:decide (Region.ready md ops listed=[i,j])=true) (hi:ops[i]? = some o) (hg:o.guard=none) (hj:ops[j]? = some o') (hg':o'.guard=none)
    (h:wpList P ops (fun e a' w'=>e = .normal∧C w'∧mH P md ops C QN f (listed.setIfInBounds i true) a' w') [o] a w)
    (h':wpList P ops (fun e a' w'=>e = .normal∧C w'∧mH P md ops C QN f (listed.setIfInBounds j true) a' w') [o'] a w):mH P md ops C QN (f+1) listed a w:=by
  have hr:=dT hr
  refine⟨fun A=>(by rw[hr]at A;cases A),fun k hk=>?_⟩
  rw[hr]at hk
  have:k=i∨k=j:=by simpa using hk
  rcases this with rfl|rfl
  · exact yO hi hg h
  exact yO hj hg' h'
end
theorem VN {β:Type} {f:β→Value} {h1:∀x,(f x).oneCell'=true} {ok:β→Prop} {w w':World} {R R':Nat→Prop}:∀{xs:List β} {cs:List Value},sU (vB f h1 ok) w R cs xs→sU (vB f h1 ok) w' R' cs xs
 | [],_,h=>h
 | _ :: _,_,⟨c,r,h0,h1,h2⟩=>⟨c,r,h0,h1,VN h2⟩
theorem EG {β:Type} {f:β→Value} {h1:∀x,(f x).oneCell'=true} {ok:β→Prop} {w w':World} {R R':Nat→Prop} {v:Value} {xs:List β} (h:Lz (vB f h1 ok) w R v xs) (m:Md [] w w'):Lz (vB f h1 ok) w' R' v xs:=by
 obtain⟨a,A,B,C,h1,D,E,F,G⟩:=h
 exact⟨a,A,B,C,h1,D,E,fun p I j u H=>m.cell (F p I j u H) Oq,VN G⟩
theorem yE {β:Type} {f:β→Value} {h1:∀x,(f x).oneCell'=true} {ok:β→Prop} {w:World} {R:Nat→Prop} {b e:Nat} {x:β} (h:ck w b [f x] e) (hx:ok x):Lz (vB f h1 ok) w R (.slice (some ⟨b,0,none⟩) 1 1) [x]:=by
  have B:Ls (vB f h1 ok) w (fun _=>True) (.slice (some ⟨b,0,none⟩) 1 1) [x]:=Ls.e5 (cs:=[f x]) h ⟨[f x],[],q,⟨q,hx⟩,q⟩ q Om trivial
  exact EG B.lz (Md.refl _ _)
structure vW {α:Type} (T:Dt α) (w0:World) (Q0:Nat→Prop) (e:TypeId) (w:World) (R:Nat→Prop) (v:Value) (xs:List α):Prop where
  md:Md [] w0 w
  s:∀b,Q0 b→b<w0.heap.size→R b
  t:∀b,R b→Q0 b
  up:Up w R
  ow:Ow T e (cr [] w0) w R v xs
section
variable {α:Type} {T:Dt α} {P:Program} {ops:Array Oper} {Q:Exit→Act→World→Prop} {n:Nat} {A:Fr n} {D:List Deferred} {l:List (Nat × Value)} {w:World} {rest:List Oper}
theorem vW.mk0 {w0 w1 w:World} {Q0:Nat→Prop} {e b:Nat} (uQ:Up w0 Q0) (h1:Md [] w0 w1) (h2:w1.heap.size≤b) (h3:b<w.heap.size) (hm:Md [] w1 w) (hB:ck w b [] e) :
    ∃R,vW T w0 Q0 e w R (.slice (some ⟨b,0,none⟩) 0 0) []:=by
  obtain⟨R,s,t,C,u⟩:=kM (uQ.md h1) h2 h3 hm
  exact⟨R,h1.k hm,fun b A B=>s b A (lj B h1.size),t,u,Ow.e5 hB q q Om (.inr (ly h1.size h2)) C⟩
theorem vW.o {w0 w w':World} {Q0 R:Nat→Prop} {e:TypeId} {v:Value} {xs:List α} (h:vW T w0 Q0 e w R v xs) (m:Md [] w w'):vW T w0 Q0 e w' R v xs :=
  ⟨h.md.k m,h.s,h.t,h.up.md m,h.ow.o m⟩
instance alH {w0 w w':World} {Q0 R:Nat→Prop} {e:TypeId} {v:Value} {xs:List α}:Tp w w' (vW T w0 Q0 e w R v xs) (vW T w0 Q0 e w' R v xs ):=⟨fun m h=>h.o m⟩
theorem lD {d:Nat} {x y:Operand} {ty:TypeId} {ps:String} {af:Array Edge} {t e:TypeId} {sz by':Nat} {v u:Value} {xs ys:List α} {w0:World} {Q0 R:Nat→Prop} (hn:T.n=sz) (ht:P.underlying t=some (.slice e)) (hE:xQ P e sz by'=true) (hx:ev n l x=some v) (hy:ev n l y=some u)
    (F:vW T w0 Q0 e w R v xs) (hY:Lz T w R u ys) (h63:xs.length+ys.length≤100000) (hb:by'≤1000)
    (k:∀v' w' R',vW T w0 Q0 e w' R' v' (xs ++ ys)→Md (ah v).toList w w'→wpList P ops Q rest (bw A D ((d,v') :: l)) w') :
    wpList P ops Q (⟨some d,.call {callee:=.builtin .append,args:=#[x,y],argTypes:=#[t,t]},ty,ps,af,none⟩ :: rest) (bw A D l) w:=by
  refine qi hn ht hE hx hy F.ow hY F.up (fun b hb=>.inr (ly F.md.size hb)) Oh ?_ ?_
  · exact ly (Nat.mul_le_mul h63 hb) Om
  intro v' w' R' E G H I B J K L
  refine k v' w' R' ⟨F.md.eD B fun b hb=>(F.ow.2 b hb).1,fun b hb C=>E b (F.s b hb C) (lj C F.md.size),fun b hb=>F.t b (G b hb),H,I⟩ B
end
theorem agO {ds:List aY} {p q:Nat} {od:List Nat} (h:0<q):mA ds p od q=if p<gZ ds (od.getD (q-1) 0)then mA ds p od (q-1)else q:=by
  obtain⟨n,rfl⟩:∃n,q=n+1:=⟨q-1,by omega⟩
  rfl
theorem ajh {ds:List aY} {p q:Nat} {od:List Nat} (h:¬0<q):mA ds p od q=q:=by
  obtain rfl:q=0:=by omega
  rfl
theorem pL {ds:List aY} {i:Nat} {x:aY} (h:ds[i]? = some x):gZ ds i=x.b9:=by simp[gZ,List.getD,h]
theorem uq {l:List Nat} {i x:Nat} (h:l[i]? = some x):l.getD i 0=x:=by simp[List.getD,h]
theorem r9 {ds:List aY} {i:Nat} {x:aY} (h:ds[i]? = some x):ds.getD i known0=x:=by simp[List.getD,h]
theorem YL (m:Mk) (x:Pr) (h:m.fit):m.ai.length≤(m.data x).2.ai.length:=by
  rcases(LF m x h).pre with e|⟨y,e,_⟩ <;> rw[e] <;> simp
theorem vZ {l:List Pr} {m:Mk} {ps:List (List UInt8)} {od:List Nat} {i:Nat} (h:¬i<l.length):iG (l.drop i) m ps od=(ps,od,m):=by rw[iI Oh];rfl
theorem zu {l:List Pr} {m m':Mk} {ps:List (List UInt8)} {od:List Nat} {i k:Nat} {x:Pr} {y:aY} {q:Nat} (h:l[i]? = some x) (hd:m.data x=(k,m')) (hy:m'.ai[k]? = some y) (hq:mA m'.ai (gZ m'.ai k) od od.length=q) :
    iG (l.drop i) m ps od=iG (l.drop (i+1)) m' (ps ++ [y.cM]) (od.take q ++ [k] ++ od.drop q):=by
  rw[eP h]
  show(match m.data x with|(k,m1)=>iG (l.drop (i+1)) m1 (ps ++ [(m1.ai.getD k known0).cM]) (mW m1.ai k od))=_
  rw[hd]
  simp only[r9 hy]
  unfold mW
  rw[hq]
theorem CJ {m0 m m':Mk} {ps:List (List UInt8)} {od:List Nat} {n k q:Nat} {x:Pr} {y:aY} (h:qx m0 m ps od n) (hx:BD x) (hd:m.data x=(k,m')) (hy:m'.ai[k]? = some y) (hq:mA m'.ai (gZ m'.ai k) od od.length=q) :
    qx m0 m' (ps ++ [y.cM]) (od.take q ++ [k] ++ od.drop q) (n+1):=by
  have:=CK h hx
  rw[hd]at this
  simp only[r9 hy]at this
  unfold mW at this
  rw[hq]at this
  exact this
theorem wz {m:Mk} {od:List Nat} {j:Nat} {its:List kV} (h:¬j<od.length):its ++ jK m (od.drop j)=its:=by rw[iI Oh];simp[jK]
theorem PE {m:Mk} {od:List Nat} {j i:Nat} {its:List kV} {x:aY} (h:od[j]? = some i) (hx:m.ai[i]? = some x) :
    its ++ jK m (od.drop j)=(its ++ [{b9:=x.b9,cQ:=eu m.c.dS m.c.dh x.cM}]) ++ jK m (od.drop (j+1)):=by
  rw[eP h]
  simp only[jK,List.map_cons,pL hx,r9 hx,List.append_assoc,List.singleton_append]
theorem yt {m:Mk} {od:List Nat} {j e:Nat} (h:¬j<od.length):kW e (od.drop j) m=m:=by rw[iI Oh];rfl
theorem DG {m:Mk} {od:List Nat} {j i e:Nat} (h:od[j]? = some i):kW e (od.drop j) m=kW e (od.drop (j+1)) (kJ e i m):=by rw[eP h,om]
theorem RV {m0 m:Mk} {d e e' j:Nat} (h:lJ m0 m d e j) (he:e≤e'):lJ m0 m d e' j:=⟨h.fit,h.c,h.n8,h.chains,h.nd,h.nf,h.ge,ly h.le Oh⟩
theorem afp {m:Mk} {e i:Nat} {k:aY} (hk:m.ai[i]? = some k) (h0:k.bQ=0) :
    kJ e i m={(m.put (k.b9+40) e).put (k.b9+56) 1 with ai:=m.ai.set i {k with bQ:=1}}:=by
  unfold kJ
  simp only[r9 hk]
  rw[if_pos h0]
  rfl
theorem afq {m m1:Mk} {e i t:Nat} {a:List Nat} {k:aY} (hk:m.ai[i]? = some k) (h0:¬k.bQ=0) (hl:m.link k.bn (k.bQ-1) (k.b9+48) e=(a,t,m1)) :
    kJ e i m={m1.put (k.b9+56) (k.bQ+1)with ai:=m1.ai.set i {k with bn:=a,bQ:=k.bQ+1}}:=by
  unfold kJ
  simp only[r9 hk]
  rw[if_neg h0,hl]
  rfl
theorem kI {m x m29 m3 z:Mk} {raw l:List Pr} {c cu mono e t:Nat} {bV:Ly} {ps:List (List UInt8)} {od a:List Nat} (h1:kY raw=(l,c)) (h2:¬c≠0) (h3:¬m.cP 9=18446744073709551615) (h4:iG l m [] []=(ps,od,x))
    (h5:x.di (e6 {seq:=(x.cP 9+1)%18446744073709551616,cu:=cu,mono:=mono,bV:=bV,xor:=nU 0 ps,aD:=jK x od})=(e,m29)) (h6:m29.link m29.main (m29.cP 8) 176 e=(a,t,m3))
    (h7:kW e od (let m4:=({m3 with main:=a}:Mk).dV 11 (a.getD 0 0);{m4 with h:={m4.h with er:=jX a%4294967296,eB:=t%4294967296}})=z) :
    m.append raw cu mono bV=if z.c.bY<z.b.length then(0,15,m)else
      (let seq:=(x.cP 9+1)%18446744073709551616
      let m7:=if m29.cP 8=0 then(z.dV 10 seq).dV 12 cu else z
      let m8:=m7.dV 8 ((m7.cP 8+1)%18446744073709551616)
      let m9:=((m8.dV 9 seq).dV 13 cu).dV 14 mono
      (seq,0,{m9 with h:={m9.h with bV:=bV,eN:=e}})):=by
  unfold Mk.append
  simp only[h1]
  rw[if_neg h2,if_neg h3]
  simp only[h4,h5,h6]
  simp only at h7
  rw[h7]
end Go.Wk
namespace Go.Wk
open Go Go.RowKit
def o7 (P:Program) (md:Region.Mode) (ops:Array Oper) (C:Array Bool→World→Prop) (Q:Act→World→Prop):Nat→Array Bool→Act→World→Prop
  | 0,listed,a,w=>Region.ready md ops listed=[]∧Q a w
  | f+1,listed,a,w=>(Region.ready md ops listed=[]→Q a w)∧∀i∈Region.ready md ops listed,opC P ops (C (listed.setIfInBounds i true)) i (o7 P md ops C Q f (listed.setIfInBounds i true)) a w
section
variable {P:Program} {ops:Array Oper} {md:Region.Mode} {C:Array Bool→World→Prop} {Q:Exit→Act→World→Prop} {QN:Act→World→Prop}
variable {n:Nat} {A:Fr n} {D:List Deferred} {l:List (Nat × Value)} {w:World} {f:Nat} {listed:Array Bool}
theorem sP (hQ:∀a w,QN a w→Q .normal a w):∀(f:Nat) (listed:Array Bool) (a:Act) (w:World),o7 P md ops C QN f listed a w→wpAny P md ops Q f listed a w
  | 0,_,_,_,h=>⟨h.1,hQ _ _ h.2⟩
  | f+1,listed,a,w,h=>⟨fun h0=>hQ _ _ (h.1 h0),fun i hi=>by
      have h1:=h.2 i hi
      unfold opC at h1
      unfold wpOp
      split
      · rename_i ho;rw[ho]at h1;exact sP hQ f _ a w h1
      · rename_i o ho
        rw[ho]at h1
        simp only at h1
        split
        · rename_i hw;rw[if_pos hw]at h1;exact .inl (GK (fun a' w' hx=>sP hQ f _ a' w' hx.2) h1)
        · rename_i hw;rw[if_neg hw]at h1;exact sP hQ f _ _ w h1⟩
theorem MK {i:Nat} {C C':World→Prop} {K:Act→World→Prop} {a:Act} (hC:∀x,C x→C' x) (h:opC P ops C i K a w):opC P ops C' i K a w:=by
  unfold opC at *
  split
  · rename_i ho;rw[ho]at h;exact h
  rename_i o ho
  rw[ho]at h
  simp only at h
  split
  · rename_i hw;rw[if_pos hw]at h;exact GK (Q:=QF) (fun B D A=>⟨hC _ A.1,A.2⟩) h
  rename_i hw;rw[if_neg hw]at h;exact h
def Wt (md:Region.Mode) (ops:Array Oper) (i:Nat) (L:Array Bool):Prop:=∀j oj,ops[j]? = some oj→(∃e∈oj.after,Region.binds md e=true∧e.on=i)→L.getD j true=false
theorem NM {i:Nat} {oi:Oper} {v:Value} (hi:ops[i]? = some oi) (hsel:∀(j:Nat) (o:Oper) cs b,ops[j]? = some o→o.op≠.select cs b) (hind:∀L x,C (L.setIfInBounds i true) x→C L x) (hmono:∀L j x,C L x→C (L.setIfInBounds j true) x) :
    ∀(f:Nat) (listed:Array Bool) (a:Act) (w:World),
      (∀j oj,ops[j]? = some oj→j≠i→listed.getD j true=false→(∀e∈oj.after,Region.binds md e=true→e.on≠i)→oi.apart ops oj=true) →
      i∈Region.ready md ops listed→C listed w→Wt md ops i listed→(∀L,Wt md ops i L→Qv P ops (C L) oi v a) →
      o7 P md ops C QN f (listed.setIfInBounds i true) (a.put oi.dst v) w→o7 P md ops C QN (f+1) listed a w:=by
  intro f
  induction f with
  | zero =>
    intro listed a w _ F Q R W H
    refine⟨fun h=>(by rw[h]at F;cases F),fun j V=>?_⟩
    by_cases hji:j=i
    · subst hji;exact MK (fun x O=>hmono _ _ _ O) ((W listed R).opC hi Q H)
    · have:=ready_mono V hji
      rw[H.1]at this
      cases this
  | succ f ih =>
    intro listed a w A F Q R W H
    refine⟨fun h=>(by rw[h]at F;cases F),fun j V=>?_⟩
    by_cases hji:j=i
    · subst hji;exact MK (fun x O=>hmono _ _ _ O) ((W listed R).opC hi Q H)
    · have l:=H.2 j (ready_mono V hji)
      obtain⟨D,oj,B,K⟩:=mem_ready.1 V
      have E:∀e∈oj.after,Region.binds md e=true→e.on≠i:=fun e U I Z=>by
        have J:=K e U I
        have g:=(mem_ready.1 F).1
        rw[Z]at J
        rcases Nat.lt_or_ge i listed.size with X|X
        · simp[X]at g J;rw[g]at J;cases J
        · simp[Array.getElem?_eq_none X]at J
      have M:=A j oj B hji D E
      obtain⟨_,_,n⟩:=Oper.apart_spec M
      have hfree':∀k G,ops[k]? = some G→k≠i→(listed.setIfInBounds j true).getD k true=false →
          (∀e∈G.after,Region.binds md e=true→e.on≠i)→oi.apart ops G=true:=fun k G hk c N d=>by
        refine A k G hk c ?_ d
        by_cases hjk:j=k
        · subst hjk;exact D
        · rw[getD_set_ne true hjk]at N;exact N
      have hW':Wt md ops i (listed.setIfInBounds j true):=fun k G hk ⟨e,U,I,ho⟩=>by
        by_cases hjk:j=k
        · subst hjk;rw[B]at hk;cases hk;exact absurd ho (E e U I)
        · rw[getD_set_ne true hjk];exact R k G hk ⟨e,U,I,ho⟩
      rw[Array.setIfInBounds_comm _ _ (Ne.symm hji)]at l
      have h1':=MK (fun x O=>hind _ _ O) l
      refine ML B M (fun cs b=>hsel j oj cs b B) (fun b u t I Y p=>?_) (hmono _ _ _ Q) h1'
      have hk:∀L,Wt md ops i L→Qv P ops (C L) oi v (b.put oj.dst u):=fun L r=>((W L r).same I).keep (fun cs b=>hsel i oi cs b hi) n
      exact ih (listed.setIfInBounds j true) _ t hfree' (ready_mono F (Ne.symm hji)) Y hW' hk p
def CI (k:Nat) (S T:List Nat) (w:World) (L:Array Bool) (w':World):Prop:=Md S w w'∧(L.getD k true=false→Md T w w')
theorem CI.mono {k:Nat} {S T:List Nat} {w0:World} (L:Array Bool) (j:Nat) (x:World) (h:CI k S T w0 L x):CI k S T w0 (L.setIfInBounds j true) x:=⟨h.1,fun hk=>h.2 (by
  by_cases hj:j=k
  · subst hj
    rcases Nat.lt_or_ge j L.size with h'|h'
    · simp[h']at hk
    · simp[Array.getElem?_eq_none h']at hk
  · rwa [getD_set_ne true hj]at hk)⟩
theorem CI.ind {k i:Nat} {S T:List Nat} {w0:World} (hi:i≠k) (L:Array Bool) (x:World) (h:CI k S T w0 (L.setIfInBounds i true) x):CI k S T w0 L x:=⟨h.1,fun hk=>h.2 (by rwa [getD_set_ne true hi])⟩
def wtB (md:Region.Mode) (ops:Array Oper) (i:Nat) (L:Array Bool):Bool:=(List.range ops.size).all fun j=>match ops[j]? with|some oj=>!(oj.after.any fun e=>Region.binds md e && e.on == i) || !(L.getD j true)|none=>true
theorem akI {i:Nat} {L:Array Bool} (h:wtB md ops i L=true):Wt md ops i L:=fun j oj hj ⟨e,he,hb,ho⟩=>by
  have hs:j<ops.size:=by
    rcases Nat.lt_or_ge j ops.size with A|A
    · exact A
    · rw[Array.getElem?_eq_none A]at hj;cases hj
  have:=List.all_eq_true.1 h j (List.mem_range.2 hs)
  rw[hj]at this
  simp only[Bool.or_eq_true,Bool.not_eq_true',Array.any_eq_false']at this
  rcases this with B|B
  · exact absurd (by rw[hb,Bool.true_and];simpa using ho) (B e he)
  · exact B
def aeo (md:Region.Mode) (ops:Array Oper) (i k:Nat):Bool:=match ops[k]? with|some oj=>oj.after.any fun e=>Region.binds md e && e.on == i|none=>false
theorem agB {i k:Nat} {L:Array Bool} (h:aeo md ops i k=true) (hW:Wt md ops i L):L.getD k true=false:=by
  unfold aeo at h
  split at h
  · rename_i oj hj
    obtain⟨e,B,A⟩:=Array.any_eq_true'.1 h
    simp only[Bool.and_eq_true,beq_iff_eq]at A
    exact hW k oj hj ⟨e,B,A.1,A.2⟩
  cases h
variable {k:Nat} {S T:List Nat} {w0:World}
theorem RU {a:Act} (hr:(Region.ready md ops listed).isEmpty=true) (h:QN a w):o7 P md ops C QN 0 listed a w:=⟨by simpa using hr,h⟩
theorem oe {i d:Nat} {op:Op} {ty:TypeId} {ps:String} {af:Array Edge} (v:Value) (hi:ops[i]? = some ⟨some d,op,ty,ps,af,none⟩) (hs:Region.noSelect ops=true) (hB:((Region.ready md ops listed).contains i && Region.free md ops listed i && wtB md ops i listed && !(i == k))=true) (hC:CI k S T w0 listed w)
    (hv:∀w',Md S w0 w'→(aeo md ops i k=true→Md T w0 w')→dQ P ⟨some d,op,ty,ps,af,none⟩ (bw A D l).eval w' v) (q:o7 P md ops (CI k S T w0) QN f (listed.setIfInBounds i true) (bw A D ((d,v) :: l)) w):o7 P md ops (CI k S T w0) QN (f+1) listed (bw A D l) w:=by
  simp only[Bool.and_eq_true,Bool.not_eq_true',beq_eq_false_iff_ne]at hB
  obtain⟨⟨⟨C,E⟩,F⟩,G⟩:=hB
  exact NM hi (Region.noSelect_spec hs) (CI.ind G) CI.mono f listed _ w (Region.free_spec hi E) (by simpa using C) hC (akI F) (fun L H=>.inl ⟨by simp[Region.wanted],fun w' B=>hv w' B.1 fun I=>B.2 (agB I H)⟩) q
theorem jy {i:Nat} {o:Oper} {a:Act} (hr:decide (Region.ready md ops listed=[i])=true) (hi:ops[i]? = some o) (hg:o.guard=none)
    (h:wpList P ops (fun e a' w'=>e = .normal∧C (listed.setIfInBounds i true) w'∧o7 P md ops C QN f (listed.setIfInBounds i true) a' w') [o] a w):o7 P md ops C QN (f+1) listed a w:=by
  have hr:=dT hr
  refine⟨fun A=>(by rw[hr]at A;cases A),fun k hk=>?_⟩
  rw[hr]at hk
  have:k=i:=by simpa using hk
  subst this
  exact yO hi hg h
theorem aaV {i j:Nat} {o o':Oper} {a:Act} (hr:decide (Region.ready md ops listed=[i,j])=true) (hi:ops[i]? = some o) (hg:o.guard=none) (hj:ops[j]? = some o') (hg':o'.guard=none)
    (h:wpList P ops (fun e a' w'=>e = .normal∧C (listed.setIfInBounds i true) w'∧o7 P md ops C QN f (listed.setIfInBounds i true) a' w') [o] a w)
    (h':wpList P ops (fun e a' w'=>e = .normal∧C (listed.setIfInBounds j true) w'∧o7 P md ops C QN f (listed.setIfInBounds j true) a' w') [o'] a w):o7 P md ops C QN (f+1) listed a w:=by
  have hr:=dT hr
  refine⟨fun A=>(by rw[hr]at A;cases A),fun k hk=>?_⟩
  rw[hr]at hk
  have:k=i∨k=j:=by simpa using hk
  rcases this with rfl|rfl
  · exact yO hi hg h
  exact yO hj hg' h'
theorem ah8 {R:Act→World→Prop} {id:Nat} {lo:List Oper} {a:Act} (k:Nat) (S T:List Nat) (hm:P.follows .mixedOrders=true) (hk:∀a' w',R a' w'→Q .normal a' w')
  (h:∀w',Md [] w w'→o7 P .any lo.toArray (CI k S T w) R lo.length (Array.replicate lo.length false) a w'):(Code.region id lo.toArray true).wp P Q a w:=by
 refine wp_region_any hm (sP (C:=CI k S T w) (QN:=R) hk _ _ _ _ ?_)
 have:=h _ (Md.drew w)
 simpa using this
end
end Go.Wk
namespace Go.Wk
open Go Go.Op
theorem abi:∀a:List UInt8,bytesLess a a=false
  | []=>rfl
  | x :: a=>by simp[bytesLess,abi a]
theorem O6:∀{a b c:Ly},bytesLess a b=true→bytesLess b c=true→bytesLess a c=true
  | _,[],_,h,_=>by unfold bytesLess at h;cases h
  | _,_ :: _,[],_,h=>by unfold bytesLess at h;cases h
  | [],_ :: _,_ :: _,_,_=>rfl
  | x :: a,y :: b,z :: c,h1,h2=>by
    simp only[bytesLess,Bool.or_eq_true,decide_eq_true_eq,Bool.and_eq_true,beq_iff_eq]at *
    rcases h1 with h1|⟨rfl,h1⟩<;>rcases h2 with h2|⟨rfl,h2⟩
    · exact .inl (UInt8.lt_trans h1 h2)
    · exact .inl h1
    · exact .inl h2
    · exact .inr ⟨q,O6 h1 h2⟩
theorem abj:∀{a b:Ly},bytesLess a b=false→bytesLess b a=false→a=b
  | [],[],_,_=>rfl
  | [],_ :: _,h,_=>by unfold bytesLess at h;cases h
  | _ :: _,[],_,h=>by unfold bytesLess at h;cases h
  | x :: a,y :: b,h1,h2=>by
    simp only[bytesLess,Bool.or_eq_false_iff,decide_eq_false_iff_not,Bool.and_eq_false_iff,beq_eq_false_iff_ne]at *
    have hxy:x=y:=by
      have A:=h1.1;have B:=h2.1
      exact UInt8.le_antisymm (UInt8.not_lt.1 B) (UInt8.not_lt.1 A)
    subst hxy
    have A:=h1.2.resolve_left Oq
    have B:=h2.2.resolve_left Oq
    rw[abj A B]
theorem aaH {p q:zi} (hp:right p=true) (hq:right q=true) (h:whole p=whole q):p=q:=by
  have A:=(oO ((nk p).2 hp)).2
  have B:=(oO ((nk q).2 hq)).2
  rw[← A,h,B]
end Go.Wk
namespace Go.Wk
open Go Go.RowKit
section
variable {P:Program} {n:Nat} {A:Fr n} {D:List Deferred} {l:List (Nat × Value)} {w:World} {d:Option Tmp} {ty:TypeId} {ps:String} {af:Array Edge} {g:Option (Nat × Bool)}
end
def ace (p:Pr):List Pr→Bool
  | []=>false
  | q :: r=>if p.pb=q.pb then true else ace p r
def allIn (b:List Pr):List Pr→Bool
  | []=>true
  | p :: r=>if ace p b=true then allIn b r else false
theorem yR {p q:Pr}:p.pb=q.pb↔p=q:=by
  cases p;cases q;simp[Pr.pb]
theorem acf {p:Pr} {l:List Pr}:ace p l=true↔p∈l:=by
  induction l with
  | nil=>simp[ace]
  | cons q r ih =>
    unfold ace
    split
    · rename_i h;rw[yR]at h;simp[h]
    · rename_i h;rw[yR]at h;simp[h,ih]
end Go.Wk
namespace Go.Wk
open Go Go.RowKit
section
variable {P:Program} {ops:Array Oper} {Q:Exit→Act→World→Prop} {rest:List Oper}
variable {n:Nat} {A:Fr n} {D:List Deferred} {l:List (Nat × Value)} {w:World}
variable {d:Tmp} {op:Op} {ty:TypeId} {ps:String} {af:Array Edge} {g:Option (Nat × Bool)}
end
section
variable {P:Program} {n:Nat} {A:Fr n} {D:List Deferred} {l:List (Nat × Value)} {w:World} {d:Option Tmp} {ty:TypeId} {ps:String} {af:Array Edge} {g:Option (Nat × Bool)}
theorem agf {x:Operand} {t u e:TypeId} {a:Option Addr} {m c:Nat} (hx:ev n l x=some (.slice a m c)) (hT:P.underlying t=some (.slice e)) :
    dQ P ⟨d,.binOp .eql t x (.const (.slice none 0 0)) u,ty,ps,af,g⟩ (bw A D l).eval w (.bool a.isNone):=by
  have h:=Go.Lib.run_eql_slice_nil (P:=P) w t e a m c 0 0 hT
  have B:(bw A D l).eval (.const (.slice none 0 0)) = .slice none 0 0:=rfl
  have C:(eqGuard .eql t x (.const (.slice none 0 0)) (.slice a m c) (.slice none 0 0)).run P w = .ok () w:=by unfold eqGuard;simp
  simp[dQ,execOp,cE hx,B,C,h]
end
section
variable {w w':World} {b cap:Nat} {xs:List Pr}
end
end Go.Wk
namespace Go.Wk
open Go Go.RowKit
theorem adY {v:Nat} {x:UInt8} (h:v<72057594037927936):v*2 ^ 8%18446744073709551616 ||| x.toNat=x.toNat+256*v:=by
  have A:=UInt8.toNat_lt x
  rw[Nat.mod_eq_of_lt Oh,Nat.mul_comm,← Nat.two_pow_add_eq_or_of_lt (by simpa using A)]
  omega
theorem AI {l:Ly} {a k:Nat} (hk:k=4∨k=8) (h:a+k≤l.length):mM l a k=(DW ((l.drop a).take k),true):=by
  unfold mM
  rw[if_pos ⟨by rw[gF];omega,by omega,by omega⟩];simp
def at4 (l:Ly) (a:Nat):Nat:=DW ((l.drop a).take 4)
def fA (l:Ly) (a:Nat):Nat:=DW ((l.drop a).take 8)
theorem BR (l:Ly) (a:Nat):at4 l a<4294967296:=vg (k:=4) Vw
theorem KT (l:Ly) (a:Nat):fA l a<18446744073709551616:=vg (k:=8) Vw
section
variable {P:Program} {ops:Array Oper} {Q:Exit→Act→World→Prop} {rest:List Oper}
variable {n:Nat} {A:Fr n} {D:List Deferred} {l:List (Nat × Value)} {w:World}
variable {d:Tmp} {op:Op} {ty:TypeId} {ps:String} {af:Array Edge} {g:Option (Nat × Bool)}
theorem uI {f:FuncId} {c:Operand} {xs:List Operand} {ts:Array TypeId} {vs cs:List Value} {R:Ending→World→Prop} (hc:ev n l c=some (.func (.func f) #[] cs.toArray)) (hf:dZ P f=true) (ha:evs n l xs=some vs) (hr:Calls P f (vs ++ cs).toArray w R)
    (k:∀e w',R e w'→∃v,e = .returned v∧wpList P ops Q rest (bw A D ((d,v) :: l)) w') :
    wpList P ops Q (⟨some d,.call {callee:=.value c,args:=xs.toArray,argTypes:=ts},ty,ps,af,none⟩ :: rest) (bw A D l) w:=by
  refine iB q ?_
  unfold Oper.wp
  have E:=nG (A:=A) (D:=D) ha
  have B:(execOp (bw A D l).eval ⟨some d,.call {callee:=.value c,args:=xs.toArray,argTypes:=ts},ty,ps,af,none⟩).run P w = .ok (.enter f (vs ++ cs).toArray) w:=by
    simp only[execOp,resolve,cE hc,Deferred.ofValue,List.map_toArray,E]
    simp[invoke,pI hf]
  rw[B]
  refine hr.mono fun e w' C=>?_
  obtain⟨v,rfl,hk⟩:=k e w' C
  exact hk
theorem FQ {f:FuncId} {x:Operand} {v:Value} {d':Option Tmp} (hx:ev n l x=some v) :
    dQ P ⟨d',.makeFunc (.func f) #[] #[x],ty,ps,af,g⟩ (bw A D l).eval w (.func (.func f) #[] #[v]):=by
  simp[dQ,execOp,cE hx,Instr.makeFunc]
end
def z16:List UInt8:=List.replicate 16 0
def kP (b:Ly) (c i k j:Nat):bS :=
  {iF:=c,bX:=i,state:=(b.getD 16 0).toNat,dh:=if 0<k then(b.drop 24).take 16 else z16,eR:=if 1<k then(b.drop 40).take 16 else z16,bV:=if 2<k then(b.drop 56).take 16 else z16,seq:=if 3<k then(b.drop 72).take 16 else z16,
    n:=(List.range 21).map fun q=>if q<j then fA b (88+8*q)else 0,er:=0,eB:=0,eN:=0}
def iN (b:Ly):bS:={kP b (at4 b 8) (at4 b 12) 4 21 with er:=at4 b 256,eB:=at4 b 260,eN:=fA b 264}
theorem GB {b:Ly} {o:Nat} (h:o+16≤b.length):((b.drop o).take 16).length=16:=by simp;omega
theorem pW {x:Ly} (h:x.length=16) (a c:List Value) (z:Ly):ij (a ++ (jS z ++ c)) a.length (x.map b8)=a ++ (jS x ++ c):=by
  unfold ij
  have B:(jS z).length=16:=rfl
  have A:(x.map b8).length=16:=by simp[h]
  rw[List.take_left,A,← List.append_assoc a,List.drop_left' (by simp[B]),← pD h,List.append_assoc]
theorem ack {b:Ly} {c i k:Nat} (hk:k<4) (hl:272≤b.length):ij (bS.cells (kP b c i k 0)) (3+k*16) (((b.drop (24+16*k)).take 16).map b8)=bS.cells (kP b c i (k+1) 0):=by
  have A:((b.drop (24+16*k)).take 16).length=16:=GB Oh
  rcases(show k=0∨k=1∨k=2∨k=3 by omega)with rfl|rfl|rfl|rfl
  · exact pW A [.int .u32 c,.int .u32 i,.int .i64 (((b.getD 16 0).toNat:Nat):Int)] _ z16
  · exact pW A ([.int .u32 c,.int .u32 i,.int .i64 (((b.getD 16 0).toNat:Nat):Int)] ++ jS ((b.drop 24).take 16)) _ z16
  · exact pW A ([.int .u32 c,.int .u32 i,.int .i64 (((b.getD 16 0).toNat:Nat):Int)] ++ jS ((b.drop 24).take 16) ++ jS ((b.drop 40).take 16)) _ z16
  exact pW A ([.int .u32 c,.int .u32 i,.int .i64 (((b.getD 16 0).toNat:Nat):Int)] ++ jS ((b.drop 24).take 16) ++ jS ((b.drop 40).take 16) ++ jS ((b.drop 56).take 16)) _ z16
theorem ach {h:bS} {j v:Nat} (hn:h.n.length=21) (hj:j<21):(bS.cells h).set (67+j) (.int .u64 v)=bS.cells {h with n:=h.n.set j v}:=by
  have e:∀(m:List Nat) (t:bS),t.n=m→bS.cells t=([(.int .u32 t.iF)] ++ ([(.int .u32 t.bX)] ++ ([(.int .i64 t.state)] ++ ((jS t.dh) ++ ((jS t.eR) ++ ((jS t.bV) ++ (jS t.seq))))))) ++ (pn m ++ ([(.int .u32 t.er)] ++ ([(.int .u32 t.eB)] ++ [(.int .u64 t.eN)]))):=by
    intro m t C;subst C;simp only[bS.cells,List.append_assoc]
  rw[e h.n h q,e (h.n.set j v) {h with n:=h.n.set j v} q,TA hn hj]
  have B:([(.int .u32 h.iF)] ++ ([(.int .u32 h.bX)] ++ ([(.int .i64 h.state)] ++ ((jS h.dh) ++ ((jS h.eR) ++ ((jS h.bV) ++ (jS h.seq)))))):List Value).length=67:=rfl
  have A:(pn h.n).length=21:=rfl
  rw[List.set_append_right _ _ Oh,B,Nat.add_sub_cancel_left,List.set_append_left _ _ Oh]
theorem aip {b:Ly} {j:Nat} (hj:j<21):((List.range 21).map fun q=>if q<j then fA b (88+8*q)else 0).set j (fA b (88+8*j))=(List.range 21).map fun q=>if q<j+1 then fA b (88+8*q)else 0:=by
  apply List.ext_getElem
  · simp
  intro q A B
  simp at A
  by_cases h:q=j
  · subst h;simp
  rw[List.getElem_set_ne (Ne.symm h)]
  simp only[List.getElem_map,List.getElem_range]
  by_cases h3:q<j
  · rw[if_pos h3,if_pos Oh]
  rw[if_neg h3,if_neg Oh]
theorem ZF {b:Ly} {c i j:Nat} (hj:j<21):(bS.cells (kP b c i 4 j)).set (67+j) (.int .u64 ((fA b (88+8*j):Nat):Int))=bS.cells (kP b c i 4 (j+1)):=by
  rw[ach (by simp[kP]) hj]
  unfold kP
  simp only[aip hj]
theorem QK {b:Ly} (h:272≤b.length):bS.ok (iN b):=by
  refine⟨BR _ _,BR _ _,?_,GB Oh,GB Oh,GB Oh,GB Oh,⟨by simp[iN,kP],?_⟩,BR _ _,BR _ _,KT _ _⟩
  · have:=UInt8.toNat_lt (b.getD 16 0);show(b.getD 16 0).toNat<_;omega
  intro y A
  simp only[iN,kP,List.mem_map,List.mem_range]at A
  obtain⟨q,B,rfl⟩:=A
  rw[if_pos B];exact KT _ _
def ptrs (b o sz:Nat) (n:Nat):List Value:=(List.range n).map fun k=>.pointer (some ⟨b,o+k*sz,none⟩)
theorem QM {b o sz n k:Nat} (h:k<n):(ptrs b o sz n)[k]? = some (.pointer (some ⟨b,o+k*sz,none⟩)):=by
  simp[ptrs,h]
end Go.Wk
namespace Go.Wk
open Go Go.RowKit
def andNot (a b:Nat):Nat:=(BitVec.ofNat 32 a &&& ~~~(BitVec.ofNat 32 b)).toNat
section
variable {P:Program} {n:Nat} {A:Fr n} {D:List Deferred} {l:List (Nat × Value)} {w:World} {d:Option Tmp} {ty:TypeId} {ps:String} {af:Array Edge} {g:Option (Nat × Bool)}
theorem aae {x y:Operand} {t u:TypeId} {a b:Nat} (L:Nat) (hL:lim .u32=L) (hk:IntKind.u32.signed=false) (hx:ev n l x=some (.int .u32 (a:Int))) (hy:ev n l y=some (.int .u32 (b:Int))) (h:a<L∧b<L) :
    dQ P ⟨d,.binOp .andNot t x y u,ty,ps,af,g⟩ (bw A D l).eval w (.int .u32 ((andNot a b:Nat):Int)):=(QV hx hy).ki (by
  unfold bits andNot
  simp only[BitVec.ofInt_natCast]
  exact wrapN .u32 _ (show(BitVec.ofNat 32 a &&& ~~~(BitVec.ofNat 32 b)).toNat<4294967296 from(BitVec.ofNat 32 a &&& ~~~(BitVec.ofNat 32 b)).isLt))
end
def hz0:bS:={iF:=0,bX:=0,state:=0,dh:=pV,eR:=pV,bV:=pV,seq:=pV,n:=List.replicate 21 0,er:=0,eB:=0,eN:=0}
def KA:List UInt8:=[76,80,75,83,72,72,82,72]
def vK (b p:Ly):Bool:=if p.length≤b.length then decide (b.take p.length=p)else false
def xZ (h:bS):Nat × Bool:=if(h.n.getD 0 0+h.n.getD 1 0)%18446744073709551616<h.n.getD 0 0 then(0,false)else((h.n.getD 0 0+h.n.getD 1 0)%18446744073709551616,true)
def mg (h:bS) (at_ size end_:Nat):Nat :=
  if at_%8≠0 then 3
  else if size=0∨size%16≠0 then 5
  else if at_<h.n.getD 0 0∨at_-h.n.getD 0 0<16∨end_<at_∨end_-at_<size then 2 else 0
def si (h:bS) (len:Nat):Nat :=
  if andNot h.bX 4≠0 then 7
  else if 2<h.state then 8
  else if h.n.getD 0 0<272∨h.n.getD 0 0%8≠0∨h.n.getD 1 0%8≠0 then 5
  else if(xZ h).2=false∨len<(xZ h).1 then 2
  else if mg h (h.n.getD 2 0) (h.n.getD 3 0) (xZ h).1≠0 then mg h (h.n.getD 2 0) (h.n.getD 3 0) (xZ h).1
  else mg h (h.n.getD 4 0) (h.n.getD 5 0) (xZ h).1
def mD (b:Ly):bS × Nat :=
  if b.length<272 then(hz0,22)
  else if vK b KA=false then(hz0,6)
  else if si (iN b) b.length≠0 then(hz0,si (iN b) b.length)else(iN b,0)
theorem lK {h:bS} {len r:Nat} {s:Bool} (he:xZ h=(r,s)):si h len=(if andNot h.bX 4≠0 then 7 else if 2<h.state then 8 else if h.n.getD 0 0<272∨h.n.getD 0 0%8≠0∨h.n.getD 1 0%8≠0 then 5
    else if s=false∨len<r then 2 else if mg h (h.n.getD 2 0) (h.n.getD 3 0) r≠0 then mg h (h.n.getD 2 0) (h.n.getD 3 0) r else mg h (h.n.getD 4 0) (h.n.getD 5 0) r):=by
  unfold si;rw[he]
theorem nO {b:Ly} {h:bS} {p:Bool} {c:Nat} (h1:¬b.length<272) (h2:vK b [76,80,75,83,72,72,82,72]=p) (h3:¬p=false) (h4:iN b=h) (h5:si h b.length=c) (h6:c≠0):mD b=(hz0,c):=by
  subst h4;subst h5
  unfold mD;rw[if_neg h1,if_neg (by rw[show KA=[76,80,75,83,72,72,82,72]from rfl,h2];exact h3),if_pos h6]
theorem adP {b:Ly} {h:bS} {p:Bool} (h1:¬b.length<272) (h2:vK b [76,80,75,83,72,72,82,72]=p) (h3:¬p=false) (h4:iN b=h) (h5:si h b.length=0):mD b=(h,0):=by
  subst h4
  unfold mD;rw[if_neg h1,if_neg (by rw[show KA=[76,80,75,83,72,72,82,72]from rfl,h2];exact h3),if_neg Oh]
theorem QY {b:Ly} (h:b.length<272):mD b=(hz0,22):=by unfold mD;rw[if_pos h]
theorem TP {b:Ly} (h1:¬b.length<272) (h2:vK b [76,80,75,83,72,72,82,72]=false):mD b=(hz0,6):=by unfold mD;rw[if_neg h1,if_pos (show vK b KA=false from h2)]
def Po {α:Type} (T:Dt α) (ty:TypeId) (w:World) (Q:Nat→Prop) (v:Value):Option α→Prop
  | none=>v = .pointer none
  | some x=>Pt T ty w Q v x
section
variable {α:Type} {T:Dt α} {ty:TypeId} {w w':World} {Q Q':Nat→Prop} {v:Value} {ox:Option α}
variable {P:Program} {n:Nat} {A:Fr n} {D:List Deferred} {l:List (Nat × Value)} {d:Option Tmp} {ty2:TypeId} {ps:String} {af:Array Edge} {g:Option (Nat × Bool)}
end
def lS (b:Ly):Option eW × Nat:=if(mD b).2≠0 then(none,(mD b).2)else(some {b:=b.take (xZ (mD b).1).1,h:=(mD b).1},0)
theorem JR {b:Ly} {h:bS} (hr:mD b=(h,0)):272≤b.length∧iN b=h∧si h b.length=0:=by
  unfold mD at hr
  split at hr
  · have:=congrArg Prod.snd hr;simp at this
  rename_i h1
  split at hr
  · have:=congrArg Prod.snd hr;simp at this
  split at hr
  · rename_i h2;have:=congrArg Prod.snd hr;exact absurd this h2
  rename_i h2
  have e:=congrArg Prod.fst hr
  simp only at e
  subst e
  exact⟨by omega,q,by omega⟩
theorem adQ {b:Ly} {h:bS} {e:Nat} {s:Bool} (hr:mD b=(h,0)) (he:xZ h=(e,s)):e≤b.length∧s=true:=by
  obtain⟨_,_,A⟩:=JR hr
  rw[lK he]at A
  split at A
  · omega
  split at A
  · omega
  split at A
  · omega
  split at A
  · omega
  rename_i h4;rw[not_or]at h4
  exact⟨by omega,by simpa using h4.1⟩
theorem ZO {b:Ly} {x:Option eW} (h:lS b=(x,0)):∃y,x=some y∧bS.ok y.h∧y.b.length≤b.length:=by
  unfold lS at h
  split at h
  · rename_i h1;exact absurd (congrArg Prod.snd h) h1
  rename_i h1
  have C:mD b=((mD b).1,0):=by rw[← Classical.not_not.1 h1]
  obtain⟨A,B,_⟩:=JR C
  exact⟨_,(congrArg Prod.fst h).symm,by rw[← B];exact QK A,by simp;omega⟩
end Go.Wk
namespace Go.Wk
open Go Go.RowKit
section
variable {P:Program} {n:Nat} {A:Fr n} {D:List Deferred} {l:List (Nat × Value)} {w:World} {ops:Array Oper} {rest:List Oper} {Q:Exit→Act→World→Prop}
variable {d:Tmp} {op:Op} {ty:TypeId} {ps:String} {af:Array Edge}
theorem mv {x:Operand} {v:Value} (h:ev n l x=some v) (k:wpList P ops Q rest (bw A D ((d,v) :: l)) w):wpList P ops Q (⟨some d,.move x,ty,ps,af,none⟩ :: rest) (bw A D l) w:=st v (bf h) k
theorem d9 {x:Operand} {v:Value} (h:ev n l x=some v) (k:wpList P ops Q rest (bw A D ((d,v) :: l)) w):wpList P ops Q (⟨some d,.assign x,ty,ps,af,none⟩ :: rest) (bw A D l) w:=st v (eK h) k
theorem nt {K:Act→World→Prop} {a:Act} (h:K a w):wpList P ops (Exit.then K Q) [] a w:=aH (au h)
theorem mz {C:World→Prop} {QN:Act→World→Prop} {rest:List (Bool × Oper)} {v:Value} (hr:∀w',C w'→dQ P ⟨some d,op,ty,ps,af,none⟩ (bw A D l).eval w' v) (k:ic P ops C QN rest (bw A D ((d,v) :: l)) w):ic P ops C QN ((true,⟨some d,op,ty,ps,af,none⟩) :: rest) (bw A D l) w:=Go.Wk.m v hr k
theorem sk {j t:Nat} {o:Oper} {b want:Bool} (hb:b = !want) (k:wpList P ops Q rest (bw A D ((d,undef) :: l)) w) (ho:ops[j]? = some o:=by rfl) (ht:o.dst=some t:=by rfl) (hy:ev n l (.tmp t)=some (.bool b):=by rfl) :
    wpList P ops Q (⟨some d,op,ty,ps,af,some (j,want)⟩ :: rest) (bw A D l) w:=agx ho ht hy hb k
theorem sg {j t:Nat} {o:Oper} {b want:Bool} {v:Value} (hb:b=want) (hr:dQ P ⟨some d,op,ty,ps,af,some (j,want)⟩ (bw A D l).eval w v) (k:wpList P ops Q rest (bw A D ((d,v) :: l)) w) (ho:ops[j]? = some o:=by rfl) (ht:o.dst=some t:=by rfl) (hy:ev n l (.tmp t)=some (.bool b):=by rfl) :
    wpList P ops Q (⟨some d,op,ty,ps,af,some (j,want)⟩ :: rest) (bw A D l) w:=aeg v ho ht hy hb hr k
theorem sf {x:Operand} {s:TypeId} {f b o off:Nat} (hx:ev n l x=some (.pointer (some ⟨b,o,none⟩))) (hf:bg P s f=some off) (k:wpList P ops Q rest (bw A D ((d,.pointer (some ⟨b,o+off,none⟩)) :: l)) w):wpList P ops Q (⟨some d,.fieldAddr s x f,ty,ps,af,none⟩ :: rest) (bw A D l) w:=st _ (aL hx hf) k
theorem sl {x:Operand} {t ty':TypeId} {b j:Nat} {cs:List Value} {u:Value} (hx:ev n l x=some (.pointer (some ⟨b,j,none⟩))) (hT:jJ P t=true) (hB:ck w b cs ty') (hj:cs[j]? = some u) (k:wpList P ops Q rest (bw A D ((d,u) :: l)) w):wpList P ops Q (⟨some d,.load t x,ty,ps,af,none⟩ :: rest) (bw A D l) w:=st _ (aC hx hT hB hj) k
theorem sn {x:Operand} {p:Addr} (h:ev n l x=some (.pointer (some p))) (k:wpList P ops Q rest (bw A D ((d,.pointer (some p)) :: l)) w):wpList P ops Q (⟨some d,.nilCheck x,ty,ps,af,none⟩ :: rest) (bw A D l) w:=st _ (dr h) k
theorem se {x:Operand} {i:Nat} {vs:Array Value} {v:Value} (h:ev n l x=some (.tuple vs)) (hv:vs[i]? = some v) (k:wpList P ops Q rest (bw A D ((d,v) :: l)) w):wpList P ops Q (⟨some d,.extract x i,ty,ps,af,none⟩ :: rest) (bw A D l) w:=st _ (jG h hv) k
theorem sL {x:Operand} {v:Value} {m:Nat} {t e:TypeId} (hx:ev n l x=some v) (hT:P.underlying t=some (.slice e)) (hS:Yb v m) (k:wpList P ops Q rest (bw A D ((d,.int .i64 m) :: l)) w):wpList P ops Q (⟨some d,.call {callee:=.builtin .len,args:=#[x],argTypes:=#[t]},ty,ps,af,none⟩ :: rest) (bw A D l) w:=st _ (jq hx hT hS) k
theorem mo {C:World→Prop} {QN:Act→World→Prop} {rest:List (Bool × Oper)} {x:Operand} {v:Value} (h:ev n l x=some v) (k:ic P ops C QN rest (bw A D ((d,v) :: l)) w):ic P ops C QN ((true,⟨some d,.move x,ty,ps,af,none⟩) :: rest) (bw A D l) w:=Go.Wk.m v (fun _ _=>bf h) k
theorem ns {id:Nat} {lo:List Oper} {y:Code} {a:Act} (h:wpList P lo.toArray (Exit.then (fun a w=>y.wp P Q a w) Q) lo a w):(Code.seq (.region id lo.toArray false) y).wp P Q a w:=aP (aQ h)
theorem an {x:Operand} {v:Value} {K:Act→World→Prop} (h:ev n l x=some v) (k:K (bw A D ((d,v)::l)) w):wpList P ops (Exit.then K Q) [⟨some d,.assign x,ty,ps,af,none⟩] (bw A D l) w:=d9 h (nt k)
theorem ar {x:Operand} {v:Value} {R:Exit→Act→World→Prop} (h:ev n l x=some v) (k:R .ret (bw A D ((d,v)::l)) w):wpList P ops (Exit.then (fun a w=>Code.ret.wp P R a w) Q) [⟨some d,.assign x,ty,ps,af,none⟩] (bw A D l) w:=d9 h (nt (iO k))
theorem m2 {x y:Operand} {v u:Value} {e:Tmp} {ty' ps' af'} (h:ev n l x=some v) (h2:ev n ((d,v)::l) y=some u) (k:wpList P ops Q rest (bw A D ((e,u)::(d,v)::l)) w):wpList P ops Q (⟨some d,.move x,ty,ps,af,none⟩::⟨some e,.move y,ty',ps',af',none⟩::rest) (bw A D l) w:=mv h (mv h2 k)
theorem nm {id:Nat} {lo:List Oper} {y:Code} {x:Operand} {v:Value} (h:ev n l x=some v) (k:wpList P (⟨some d,.move x,ty,ps,af,none⟩::lo).toArray (Exit.then (fun a w=>y.wp P Q a w) Q) lo (bw A D ((d,v)::l)) w):(Code.seq (.region id (⟨some d,.move x,ty,ps,af,none⟩::lo).toArray false) y).wp P Q (bw A D l) w:=ns (mv h k)
theorem rv {v:Value} {p:Value→Prop} (h:p v):∃u,Ending.returned v=.returned u∧p u:=⟨v,q,h⟩
theorem rA {d:Option Tmp} {g:Option (Nat × Bool)} {x y:Operand} {t u:TypeId} {a b:Nat} (hx:ev n l x=some (.int .i64 (a:Int))) (hy:ev n l y=some (.int .i64 (b:Int))) (h:a+b<9223372036854775808):dQ P ⟨d,.binOp .add t x y u,ty,ps,af,g⟩ (bw A D l).eval w (.int .i64 ((a+b:Nat):Int)):=gU 9223372036854775808 q hx hy h
theorem rS {d:Option Tmp} {g:Option (Nat × Bool)} {x y:Operand} {t u:TypeId} {a b:Nat} (hx:ev n l x=some (.int .i64 (a:Int))) (hy:ev n l y=some (.int .i64 (b:Int))) (h:b≤a∧a<9223372036854775808):dQ P ⟨d,.binOp .sub t x y u,ty,ps,af,g⟩ (bw A D l).eval w (.int .i64 ((a-b:Nat):Int)):=nN 9223372036854775808 q hx hy h
abbrev SN:Value:=.slice none 0 0
theorem tT {Q R S:Nat→Prop} (a:∀b,Q b→R b) (c:∀b,S b→Q b):∀b,S b→R b:=fun b h=>a b (c b h)
theorem sS {S:List Nat} {u w:World} {Q R T:Nat→Prop} (a:∀b,R b→b<w.heap.size→T b) (c:∀b,Q b→b<u.heap.size→R b) (M:Md S u w):∀b,Q b→b<u.heap.size→T b:=fun b h hl=>a b (c b h hl) (Nat.lt_of_lt_of_le hl M.size)
theorem nQ {Q R:Nat→Prop} {b:Nat} (h:¬Q b) (c:∀b,R b→Q b):¬R b:=fun x=>h (c _ x)
theorem rF {α:Type} {T:Dt α} {e:TypeId} {lo:Nat→Prop} {w:World} {Q:Nat→Prop} {v:Value} {xs:List α} (h:Ow T e lo w Q v xs):∀i∈(ah v).toList,lo i:=jb fun x hx=>(h.2 x hx).1
theorem rN {α:Type} {T:Dt α} {e:TypeId} {lo:Nat→Prop} {w:World} {Q:Nat→Prop} {v:Value} {xs:List α} (h:Ow T e lo w Q v xs):∀i∈(ah v).toList,¬Q i:=jb fun x hx=>(h.2 x hx).2
theorem hI {p:Nat→Prop} {b:Nat} (h:p b):∀x∈[b],p x:=by intro x hx;simp at hx;subst hx;exact h
end
end Go.Wk
namespace Go.Wk
open Go Go.RowKit
structure Stop where
  code:Nat
def Stop.cells (x:Stop):List Value :=
  [(.int .i64 x.code)]
structure jm where
  kind:Nat
  flags:Nat
  size:Nat
def jm.cells (x:jm):List Value :=
  [(.int .i64 x.kind)] ++ ([(.int .i64 x.flags)] ++ ([(.int .u64 x.size)]))
def jm.ok (x:jm):Prop:=x.kind<9223372036854775808∧x.flags<9223372036854775808∧x.size<18446744073709551616
theorem jm.one {x:jm}:(x.cells).all (fun u=>u.oneCell')=true:=(dn q (dn q q))
def fr0:jm:={kind:=0,flags:=0,size:=0}
def og (b:Ly) (p:Nat):Nat:=(b.getD p 0).toNat
theorem jW {b:Ly} {p:Nat} {x:UInt8} (h:b[p]? = some x):og b p=x.toNat:=by simp[og,List.getD,h]
theorem tG {b:Ly} {p v:Nat} {s:Bool} {i:Int} (h:mM b i 8=(v,s)) (hi:i=(p:Int)) (hb:p+8≤b.length):fA b p=v:=by
  subst hi;have A:=AI (k:=8) (.inr q) hb;rw[show((8:Nat):Int)=8 from rfl]at A;rw[A]at h;exact congrArg Prod.fst h
theorem YG (b:Ly) (p:Nat):og b p<256:=UInt8.toNat_lt _
def ey (b:Ly) (p:Nat):jm × Nat :=
  if p%8≠0 then(fr0,3)
  else if b.length<p∨b.length-p<16 then(fr0,2)
  else if og b p<1∨7<og b p then(fr0,4)
  else if og b (p+1)≠0 then(fr0,7)
  else if fA b (p+8)<16 then(fr0,5)
  else if b.length-p<fA b (p+8)then(fr0,2)
  else({kind:=og b p,flags:=0,size:=fA b (p+8)},0)
theorem abW {b:Ly} {p:Nat} (h:p%8≠0):ey b p=(fr0,3):=by unfold ey;rw[if_pos h]
theorem OT {b:Ly} {p:Nat} (h:¬p%8≠0) (h2:b.length<p∨b.length-p<16):ey b p=(fr0,2):=by unfold ey;rw[if_neg h,if_pos h2]
theorem r7 {b:Ly} {p:Nat} {x y:UInt8} {z:Nat} {s:jm} (es:s={kind:=x.toNat,flags:=y.toNat,size:=z}) (h:¬p%8≠0) (h2:¬(b.length<p∨b.length-p<16)) (e1:og b p=x.toNat) (e2:og b (p+1)=y.toNat) (e3:fA b (p+8)=z) :
    ey b p=if s.kind<1∨7<s.kind then(fr0,4)else if s.flags≠0 then(fr0,7)else if s.size<16 then(fr0,5)else if b.length-p<s.size then(fr0,2)else(s,0):=by
  subst es;unfold ey;rw[if_neg h,if_neg h2,e1,e2,e3];by_cases hf:y.toNat=0
  · rw[hf]
  simp only[if_pos (show y.toNat≠0 from hf)]
theorem SD {b:Ly} {p:Nat} {f:jm} (h:ey b p=(f,0)):16≤f.size∧p+f.size≤b.length∧f.kind<256∧f.flags=0:=by
  unfold ey at h;have:=YG b p
  repeat' split at h
  all_goals first|(have:=congrArg Prod.snd h;simp at this;done)|skip
  have:=congrArg Prod.fst h;simp only at this;subst this;refine⟨?_,?_,?_,q⟩ <;> (simp only;omega)
def qW:gQ:={cQ:=0,bT:=0,eH:=0,entry:=0,array:=0,bQ:=0,ak:=[]}
def wK:j5:={next:=0,aD:=[]}
def gX (b:Ly) (p n:Nat):List Nat:=(List.range n).map fun i=>fA b (p+8*i)
theorem lQ (b:Ly) (p n:Nat):(gX b p n).length=n:=by simp[gX]
theorem qH (b:Ly) (p n:Nat):gX b p (n+1)=gX b p n ++ [fA b (p+8*n)]:=by simp[gX,List.range_succ]
theorem Qy (b:Ly) (p n:Nat):gX b p (n+1)=fA b p :: gX b (p+8) n:=by
  induction n generalizing p with
  | zero=>simp[gX]
  | succ n ih =>
    rw[qH,ih,List.cons_append,qH,show p+8*(n+1)=p+8+8*n by omega]
def mP (b:Ly) (p:Nat):gQ × Nat :=
  if(ey b p).2≠0 then(qW,(ey b p).2)
  else if(ey b p).1.kind≠1 then(qW,4)
  else if(ey b p).1.size≤64 then(qW,5)
  else({cQ:=fA b (p+16),bT:=fA b (p+24),eH:=fA b (p+32),entry:=fA b (p+40),array:=fA b (p+48),bQ:=fA b (p+56),ak:=(b.drop (p+64)).take ((ey b p).1.size-64)},0)
def kG (b:Ly) (p:Nat):j5 × Nat :=
  if(ey b p).2≠0 then(wK,(ey b p).2)
  else if(ey b p).1.kind≠6 then(wK,4)
  else if(ey b p).1.size≤24∨((ey b p).1.size-24)%8≠0 then(wK,5)
  else({next:=fA b (p+16),aD:=gX b (p+24) (((ey b p).1.size-24)/8)},0)
def gB (s:Nat) (b:Ly) (p:Nat):gQ × Nat:=if p<s∨b.length≤p then(qW,2)else mP b p
def iQ (s:Nat) (b:Ly) (p:Nat):j5 × Nat:=if p<s∨b.length≤p then(wK,2)else kG b p
def qX (s:Nat) (b:Ly) (p:Nat):Nat:=if p<s∨b.length≤p then 2 else 0
theorem lN {b:Ly} {p c:Nat} {f:jm} (h:ey b p=(f,c)) (hc:¬c≠0):16≤f.size∧p+f.size≤b.length∧f.kind<256∧f.flags=0:=SD (by rw[h,Classical.not_not.1 hc])
def kz (b:Ly) (p kind ahead iJ:Nat):List UInt8 × Nat :=
  if(ey b p).2≠0 then([],(ey b p).2)
  else if(ey b p).1.kind≠kind then([],4)
  else if(ey b p).1.size≤16+ahead∨((ey b p).1.size-(16+ahead))%iJ≠0 then([],5)
  else((b.take (p+(ey b p).1.size)).drop (p+16),0)
theorem tJ {b x:Ly} {p kind ahead iJ c:Nat} (h:kz b p kind ahead iJ=(x,c)) (hc:c=0):(ey b p).2=0∧(ey b p).1.kind=kind∧16+ahead<(ey b p).1.size∧((ey b p).1.size-(16+ahead))%iJ=0∧x=(b.take (p+(ey b p).1.size)).drop (p+16)∧x.length=(ey b p).1.size-16∧p+(ey b p).1.size≤b.length:=by
  subst hc;unfold kz at h
  split at h
  · have:=congrArg Prod.snd h;simp at this;contradiction
  rename_i h1
  have A:16≤(ey b p).1.size∧p+(ey b p).1.size≤b.length∧(ey b p).1.kind<256∧(ey b p).1.flags=0:=lN (f:=(ey b p).1) (c:=(ey b p).2) q h1
  split at h
  · have:=congrArg Prod.snd h;simp at this
  rename_i h2
  split at h
  · have:=congrArg Prod.snd h;simp at this
  rename_i h3
  rw[not_or]at h3;have e:=congrArg Prod.fst h;simp only at e;subst e;refine⟨by omega,by omega,by omega,by omega,q,?_,A.2.1⟩;simp only[List.length_drop,List.length_take];omega
theorem aeE {b:Ly} {o e i:Nat} (h:i+8≤e-o) (he:e≤b.length):fA ((b.take e).drop o) i=fA b (o+i):=by
  unfold fA
  congr 1
  apply List.ext_getElem?;intro j;simp only[List.getElem?_take,List.getElem?_drop];by_cases hj:j<8
  · rw[if_pos hj,if_pos hj,if_pos (show o+(i+j)<e by omega),Nat.add_assoc]
  rw[if_neg hj,if_neg hj]
theorem EM {b:Ly} {o e n i:Nat} (h:i+8*n≤e-o) (he:e≤b.length):gX ((b.take e).drop o) i n=gX b (o+i) n:=by
  unfold gX
  apply List.map_congr_left;intro k hk;have:=List.mem_range.1 hk;rw[aeE Oh he,Nat.add_assoc]
theorem Qz {b:Ly} {l:List Nat} {i v:Nat} {s:Bool} (hl:l=gX b 0 (i/8)) (hi:i%8=0) (hb:i+8≤b.length) (h:mM b (i:Int) 8=(v,s)):l ++ [v]=gX b 0 ((i+8)/8):=by
  rw[show(i+8)/8=i/8+1 by omega,qH,hl,← tG h q hb]
  congr 3
  omega
theorem TM {b x:Ly} {p c:Nat} (h:kz b p 6 8 8=(x,c)) (hc:c≠0):kG b p=(wK,c):=by
  unfold kz at h;unfold kG
  split at h
  · rename_i h1;rw[if_pos h1,show(ey b p).2=c from congrArg Prod.snd h]
  rename_i h1;rw[if_neg h1]
  split at h
  · rename_i h2;rw[if_pos h2,show 4=c from congrArg Prod.snd h]
  rename_i h2;rw[if_neg h2]
  split at h
  · rename_i h3;rw[if_pos (by simpa using h3),show 5=c from congrArg Prod.snd h]
  exact absurd (congrArg Prod.snd h).symm hc
theorem TN {b x:Ly} {p c:Nat} {l:List Nat} (h:kz b p 6 8 8=(x,c)) (hc:¬c≠0) (hl:gX x 0 (x.length/8)=l):l.length=x.length/8∧1<l.length∧kG b p=({next:=l.getD 0 0,aD:=l.drop 1},0):=by
  obtain⟨E,F,G,H,A,B,C⟩:=tJ h (Classical.not_not.1 hc)
  have e:l=gX b (p+16) (((ey b p).1.size-16)/8):=by
    rw[← hl,B,A,EM Oh C]
  have D:((ey b p).1.size-16)/8=((ey b p).1.size-24)/8+1:=Oh;refine⟨by rw[← hl,lQ],by rw[e,lQ];omega,?_⟩;unfold kG;rw[if_neg Oh,if_neg Oh,if_neg Oh,e,D,Qy]
  rfl
theorem ah2 {s p c:Nat} {b:Ly} (h:qX s b p=c) (hc:c≠0):(iQ s b p).2=c:=by
  unfold qX at h;unfold iQ
  split at h
  · rename_i h1;rw[if_pos h1];exact h
  exact absurd h.symm hc
theorem vX {s p c:Nat} {b:Ly} {x:j5} (h0:qX s b p=0) (h:kG b p=(x,c)):iQ s b p=(x,c):=by
  unfold qX at h0;unfold iQ
  split at h0
  · cases h0
  rename_i h1;rw[if_neg h1];exact h
theorem aah (b:Ly) (p:Nat) (h:(kG b p).2≠0):(kG b p).1=wK:=by
  unfold kG at h ⊢
  split
  · rfl
  split
  · rfl
  split
  · rfl
  rename_i h1 h2 h3;rw[if_neg h1,if_neg h2,if_neg h3]at h;exact absurd q h
theorem ah3 {s p c:Nat} {b:Ly} (h:(iQ s b p).2=c) (hc:c≠0):iQ s b p=(wK,c):=by
  refine Prod.ext ?_ h;rw[← h]at hc;unfold iQ at hc ⊢
  split
  · rfl
  rename_i h1;rw[if_neg h1]at hc;exact aah b p hc
theorem ahE {s p c:Nat} {b:Ly} (h:qX s b p=c) (hc:c≠0):(gB s b p).2=c:=by
  unfold qX at h;unfold gB
  split at h
  · rename_i h1;rw[if_pos h1];exact h
  exact absurd h.symm hc
theorem ab2 {s p c:Nat} {b:Ly} {x:gQ} (h0:qX s b p=0) (h:mP b p=(x,c)):gB s b p=(x,c):=by
  unfold qX at h0;unfold gB
  split at h0
  · cases h0
  rename_i h1;rw[if_neg h1];exact h
theorem aai (b:Ly) (p:Nat) (h:(mP b p).2≠0):(mP b p).1=qW:=by
  unfold mP at h ⊢
  split
  · rfl
  split
  · rfl
  split
  · rfl
  rename_i h1 h2 h3;rw[if_neg h1,if_neg h2,if_neg h3]at h;exact absurd q h
theorem ahF {s p c:Nat} {b:Ly} (h:(gB s b p).2=c) (hc:c≠0):gB s b p=(qW,c):=by
  refine Prod.ext ?_ h;rw[← h]at hc;unfold gB at hc ⊢
  split
  · rfl
  rename_i h1;rw[if_neg h1]at hc;exact aai b p hc
def lY (b:Ly) (p kind n:Nat):List Nat × List UInt8 × Nat :=
  if(ey b p).2≠0 then([],[],(ey b p).2)
  else if(ey b p).1.kind≠kind then([],[],4)
  else if(ey b p).1.size≤16+8*n then([],[],5)
  else(gX b (p+16) n,(b.drop (p+16+8*n)).take ((ey b p).1.size-(16+8*n)),0)
theorem zG {b:Ly} {p n c:Nat} {f:jm} {l:List Nat} {kind:Nat} (h:ey b p=(f,c)) (hc:¬c≠0) (h2:¬f.kind≠kind) (h3:¬f.size≤16+8*n) (hl:l=gX ((b.take (p+f.size)).drop (p+16)) 0 n):lY b p kind n=(l,((b.take (p+f.size)).drop (p+16)).drop (8*n),0):=by
  have A:=lN h hc;unfold lY;rw[h];simp only;rw[if_neg hc,if_neg h2,if_neg h3,hl,EM Oh A.2.1];refine Prod.ext q (Prod.ext ?_ q);simp only
  apply List.ext_getElem?;intro j;simp only[List.getElem?_take,List.getElem?_drop];by_cases hj:j<f.size-(16+8*n)
  · rw[if_pos hj,if_pos Oh];congr 1;omega
  rw[if_neg hj,if_neg Oh]
theorem LY {b:Ly} {l:List Nat} {i v:Nat} {s:Bool} (hl:l=gX b 0 i) (hb:8*i+8≤b.length) (h:mM b ((8*i:Nat):Int) 8=(v,s)):l ++ [v]=gX b 0 (i+1):=by
  rw[qH,hl,← tG h q hb,Nat.zero_add]
theorem wG {b x:Ly} {p c:Nat} {l:List Nat} (h:lY b p 1 6=(l,x,c)):(c≠0→mP b p=(qW,c))∧(¬c≠0→l.length=6∧mP b p=({cQ:=l.getD 0 0,bT:=l.getD 1 0,eH:=l.getD 2 0,entry:=l.getD 3 0,array:=l.getD 4 0,bQ:=l.getD 5 0,ak:=x},0)):=by
  unfold lY at h;unfold mP
  split at h
  · rename_i h1
    simp only[Prod.mk.injEq]at h;refine⟨fun _=>by rw[if_pos h1,h.2.2],fun A=>absurd (h.2.2 ▸ h1) A⟩
  rename_i h1
  rw[if_neg h1]
  split at h
  · rename_i h2
    simp only[Prod.mk.injEq]at h;exact⟨fun _=>by rw[if_pos h2,h.2.2],fun A=>absurd (h.2.2 ▸ (by decide:(4:Nat)≠0)) A⟩
  rename_i h2
  rw[if_neg h2]
  split at h
  · rename_i h3
    simp only[Prod.mk.injEq]at h;exact⟨fun _=>by rw[if_pos Oh,h.2.2],fun A=>absurd (h.2.2 ▸ (by decide:(5:Nat)≠0)) A⟩
  rename_i h3
  simp only[Prod.mk.injEq]at h;obtain⟨rfl,rfl,rfl⟩:=h;refine⟨fun A=>absurd q A,fun _=>⟨lQ _ _ _,?_⟩⟩;rw[if_neg Oh];simp[gX,List.range_succ]
end Go.Wk
namespace Go.Wk
open Go Go.RowKit
def qo:fP:={iF:=0,bX:=0,state:=0,dh:=pV,eR:=pV,bV:=pV,seq:=pV,n:=List.replicate 20 0,er:=0,eB:=0,eN:=0}
end Go.Wk
namespace Go.Wk
open Go Go.RowKit
end Go.Wk
namespace Go.Wk
open Go Go.RowKit
def vw:jw:={cQ:=0,bT:=0,dat:=0,ak:=[]}
def lX (b:Ly) (p:Nat):jw × Nat :=
  if(ey b p).2≠0 then(vw,(ey b p).2)
  else if(ey b p).1.kind≠2 then(vw,4)
  else if(ey b p).1.size≤40 then(vw,5)
  else({cQ:=fA b (p+16),bT:=fA b (p+24),dat:=fA b (p+32),ak:=(b.drop (p+40)).take ((ey b p).1.size-40)},0)
def iV (s:Nat) (b:Ly) (p:Nat):jw × Nat:=if p<s∨b.length≤p then(vw,2)else lX b p
theorem ahP {s p c:Nat} {b:Ly} (h:qX s b p=c) (hc:c≠0):(iV s b p).2=c:=by
  unfold qX at h
  unfold iV
  split at h
  · rename_i h1;rw[if_pos h1];exact h
  exact absurd h.symm hc
theorem abQ {s p c:Nat} {b:Ly} {x:jw} (h0:qX s b p=0) (h:lX b p=(x,c)):iV s b p=(x,c):=by
  unfold qX at h0
  unfold iV
  split at h0
  · cases h0
  rename_i h1;rw[if_neg h1];exact h
theorem aak (b:Ly) (p:Nat) (h:(lX b p).2≠0):(lX b p).1=vw:=by
  unfold lX at h ⊢
  split
  · rfl
  split
  · rfl
  split
  · rfl
  rename_i h1 h2 h3;rw[if_neg h1,if_neg h2,if_neg h3]at h;exact absurd q h
theorem ahQ {s p c:Nat} {b:Ly} (h:(iV s b p).2=c) (hc:c≠0):iV s b p=(vw,c):=by
  refine Prod.ext ?_ h
  rw[← h]at hc
  unfold iV at hc ⊢
  split
  · rfl
  rename_i h1;rw[if_neg h1]at hc;exact aak b p hc
theorem wH {b x:Ly} {p c:Nat} {l:List Nat} (h:lY b p 2 3=(l,x,c)):(c≠0→lX b p=(vw,c))∧(¬c≠0→l.length=3∧lX b p=({cQ:=l.getD 0 0,bT:=l.getD 1 0,dat:=l.getD 2 0,ak:=x},0)):=by
  unfold lY at h
  unfold lX
  split at h
  · rename_i h1
    simp only[Prod.mk.injEq]at h
    refine⟨fun _=>by rw[if_pos h1,h.2.2],fun A=>absurd (h.2.2 ▸ h1) A⟩
  rename_i h1
  rw[if_neg h1]
  split at h
  · rename_i h2
    simp only[Prod.mk.injEq]at h
    exact⟨fun _=>by rw[if_pos h2,h.2.2],fun A=>absurd (h.2.2 ▸ (by decide:(4:Nat)≠0)) A⟩
  rename_i h2
  rw[if_neg h2]
  split at h
  · rename_i h3
    simp only[Prod.mk.injEq]at h
    exact⟨fun _=>by rw[if_pos Oh,h.2.2],fun A=>absurd (h.2.2 ▸ (by decide:(5:Nat)≠0)) A⟩
  rename_i h3
  simp only[Prod.mk.injEq]at h
  obtain⟨rfl,rfl,rfl⟩:=h
  refine⟨fun A=>absurd q A,fun _=>⟨lQ _ _ _,?_⟩⟩
  rw[if_neg Oh]
  simp[gX,List.range_succ]
theorem oI {b:Ly} {p n i v:Nat} (h:(gX b p n)[i]? = some v):v=fA b (p+8*i)∧i<n:=by
  unfold gX at h
  rw[List.getElem?_map]at h
  by_cases hi:i<n
  · rw[List.getElem?_range hi]at h
    exact⟨(Option.some.inj h).symm,hi⟩
  rw[List.getElem?_eq_none (by simpa using hi)]at h;cases h
def pE (b:Ly) (p n:Nat):List kV:=(List.range n).map fun i=>{b9:=fA b (p+16*i),cQ:=fA b (p+16*i+8)}
theorem zy (b:Ly) (p n:Nat):(pE b p n).length=n:=by simp[pE]
theorem LK (b:Ly) (p n:Nat):pE b p (n+1)=pE b p n ++ [{b9:=fA b (p+16*n),cQ:=fA b (p+16*n+8)}]:=by simp[pE,List.range_succ]
def xM:List kV→Bool
  | a :: b :: r=>decide (a.b9<b.b9) && xM (b :: r)
  | _=>true
theorem vm:∀l:List kV,xM l=true↔∀j x y,l[j]? = some x→l[j+1]? = some y→x.b9<y.b9
  | []=>by simp[xM]
  | [a]=>by simp[xM]
  | a :: b :: r=>by
    rw[xM,Bool.and_eq_true,decide_eq_true_eq,vm (b :: r)]
    constructor
    · rintro⟨h1,h2⟩ j x y hx hy
      cases j with
      | zero=>simp at hx hy;subst hx;subst hy;exact h1
      | succ j=>exact h2 j x y (by simpa using hx) (by simpa using hy)
    · intro h
      exact⟨h 0 a b q q,fun j x y hx hy=>h (j+1) x y (by simpa using hx) (by simpa using hy)⟩
def wj:gI:={seq:=0,cu:=0,mono:=0,bV:=pV,xor:=0,aD:=[]}
def GU (x:Ly):gI:={seq:=fA x 0,cu:=fA x 8,mono:=fA x 16,bV:=(x.drop 24).take 16,xor:=fA x 40,aD:=pE x 48 ((x.length-48)/16)}
def GV (x:Ly):gI × Nat:=if fA x 0=0 then(wj,13)else if xM (GU x).aD=false then(wj,11)else(GU x,0)
def lW (b:Ly) (p:Nat):gI × Nat :=
  if(kz b p 3 48 16).2≠0 then(wj,(kz b p 3 48 16).2)else GV (kz b p 3 48 16).1
theorem ahM {b x:Ly} {p c:Nat} (h:kz b p 3 48 16=(x,c)) (hc:c≠0):lW b p=(wj,c):=by
  unfold lW;rw[h,if_pos hc]
theorem LG {b x:Ly} {p c:Nat} (h:kz b p 3 48 16=(x,c)) (hc:¬c≠0):lW b p=GV x:=by
  unfold lW;rw[h,if_neg hc]
structure BH (x:Ly) (e:gI) (i:Nat):Prop where
  seq:e.seq=fA x 0
  cu:e.cu=fA x 8
  mono:e.mono=fA x 16
  bV:e.bV=(x.drop 24).take 16
  xor:e.xor=fA x 40
  aD:e.aD=pE x 48 ((i-6)/2)
theorem BH.eq {x:Ly} {e:gI} {i:Nat} (h:BH x e i) (hi:i=x.length/8) (h6:x.length%8=0) (h48:48≤x.length):e=GU x:=by
  obtain⟨s,r,m,G,I,H⟩:=e
  obtain⟨A,B,C,D,E,F⟩:=h
  simp only at A B C D E F
  subst hi
  unfold GU
  rw[A,B,C,D,E,F,show(x.length/8-6)/2=(x.length-48)/16 by omega]
theorem BH.step {x:Ly} {e e':gI} {i n v u:Nat} {l:List Nat} (h:BH x e i) (hi:i%2=0) (h6:6≤i) (hl:l=gX x 0 n) (hv:l[i]? = some v) (hu:l[i+1]? = some u) (he:e'={e with aD:=e.aD ++ [{b9:=v,cQ:=u}]}):BH x e' (i+2):=by
  subst hl;subst he
  have hv':=(oI hv).1
  have hu':=(oI hu).1
  refine⟨h.seq,h.cu,h.mono,h.bV,h.xor,?_⟩
  show e.aD ++ _=_
  rw[show(i+2-6)/2=(i-6)/2+1 by omega,LK,h.aD,hv',hu',show 48+16*((i-6)/2)=0+8*i by omega,show 0+8*(i+1)=0+8*i+8 by omega]
theorem ahK {x:Ly} (h:fA x 0=0):GV x=(wj,13):=by unfold GV;rw[if_pos h]
theorem ahJ {x:Ly} {e:gI} {i:Nat} {y z:kV} (he:e=GU x) (h:¬e.seq=0) (h0:1≤i) (hy:e.aD[i]? = some y) (hz:e.aD[i-1]? = some z) (hl:y.b9≤z.b9):GV x=(wj,11):=by
  subst he
  unfold GV
  rw[if_neg (show ¬fA x 0=0 from h),if_pos]
  cases hr:xM (GU x).aD with
  | false=>rfl
  | true =>
    have:=(vm _).1 hr (i-1) z y hz (by rw[Nat.sub_add_cancel h0];exact hy)
    omega
theorem abI {x:Ly} {e:gI} {i:Nat} (he:e=GU x) (h:¬e.seq=0) (hi:e.aD.length≤i) (hr:∀j,1≤j→j<i→∀y z,e.aD[j]? = some y→e.aD[j-1]? = some z→z.b9<y.b9):GV x=(e,0):=by
  have B:xM e.aD=true:=by
    rw[vm]
    intro j a c C A
    have D:=(List.getElem?_eq_some_iff.1 A).1
    exact hr (j+1) Oh Oh c a A (by simpa using C)
  subst he
  unfold GV
  rw[if_neg (show ¬fA x 0=0 from h),if_neg (by rw[B];simp)]
theorem abH {e:gI} {v:Value} {ys:Ly} (hy:ys.length=16):ij (gI.cells e v) 3 (ys.map b8)=gI.cells {e with bV:=ys} v :=
  pW hy [.int .u64 e.seq,.int .u64 e.cu,.int .u64 e.mono] _ e.bV
theorem YD {x:Ly} (h:40≤x.length):(((x.take 40).drop 24).map b8).take 16=((x.drop 24).take 16).map b8∧((x.drop 24).take 16).length=16:=by
  have e:(x.take 40).drop 24=(x.drop 24).take 16:=by rw[List.drop_take]
  have A:((x.drop 24).take 16).length=16:=by simp;omega
  refine⟨?_,A⟩
  rw[e,List.take_of_length_le Vw]
theorem YQ {x:Ly} {e s:gI} {a b c d:Nat} {n:Nat} {l:List Nat} (hl:l=gX x 0 n) (h0:l[0]? = some a) (h1:l[1]? = some b) (h2:l[2]? = some c) (h5:l[5]? = some d) (he:e={seq:=a,cu:=b,mono:=c,bV:=pV,xor:=d,aD:=[]}) (hs:s={e with bV:=(x.drop 24).take 16}):BH x s 6:=by
  subst hl;subst he;subst hs
  exact⟨(oI h0).1,(oI h1).1,(oI h2).1,q,(oI h5).1,q⟩
def iv (s:Nat) (b:Ly) (p:Nat):gI × Nat:=if p<s∨b.length≤p then(wj,2)else lW b p
theorem ahL {s p c:Nat} {b:Ly} (h:qX s b p=c) (hc:c≠0):(iv s b p).2=c:=by
  unfold qX at h
  unfold iv
  split at h
  · rename_i h1;rw[if_pos h1];exact h
  exact absurd h.symm hc
theorem abG {s p c:Nat} {b:Ly} {x:gI} (h0:qX s b p=0) (h:lW b p=(x,c)):iv s b p=(x,c):=by
  unfold qX at h0
  unfold iv
  split at h0
  · cases h0
  rename_i h1;rw[if_neg h1];exact h
theorem aaj (b:Ly) (p:Nat) (h:(lW b p).2≠0):(lW b p).1=wj:=by
  unfold lW at h ⊢
  split
  · rfl
  rename_i h1
  rw[if_neg h1]at h
  unfold GV at h ⊢
  split
  · rfl
  split
  · rfl
  rename_i h2 h3;rw[if_neg h2,if_neg h3]at h;exact absurd q h
theorem afa {s p c:Nat} {b:Ly} (h:(iv s b p).2=c) (hc:c≠0):iv s b p=(wj,c):=by
  refine Prod.ext ?_ h
  rw[← h]at hc
  unfold iv at hc ⊢
  split
  · rfl
  rename_i h1;rw[if_neg h1]at hc;exact aaj b p hc
end Go.Wk
namespace Go.Wk
open Go Go.RowKit
theorem VI {s p c:Nat} {b:Ly} {d:gQ} (h:gB s b p=(d,c)):d.ak.length≤b.length:=by
  unfold gB at h
  split at h
  · cases h;simp[qW]
  unfold mP at h
  repeat' split at h
  all_goals (cases h;simp[qW];try omega)
def iZ (k:Bool) (f:Ly) (s:Nat) (b:Ly) (p:Nat):gQ × Nat :=
  if(gB s b p).2≠0 then(qW,(gB s b p).2)
  else if(gB s b p).1.cQ=eu k f (gB s b p).1.ak then gB s b p
  else(qW,9)
theorem ai3 {k:Bool} {f b:Ly} {s p c:Nat} (h:(gB s b p).2=c) (hc:c≠0):(iZ k f s b p).2=c:=by
  unfold iZ;rw[h,if_pos hc]
theorem XG {k:Bool} {f b:Ly} {s p n:Nat} {d:gQ} (h:gB s b p=(d,0)) (hh:eu k f d.ak=n) (e:d.cQ=n):iZ k f s b p=(d,0):=by
  unfold iZ;rw[h,if_neg Oq,if_pos (e.trans hh.symm)]
theorem aks {k:Bool} {f b:Ly} {s p n:Nat} {d:gQ} (h:gB s b p=(d,0)) (hh:eu k f d.ak=n) (e:¬d.cQ=n):(iZ k f s b p).2=9:=by
  unfold iZ;rw[h,if_neg Oq,if_neg (fun h=>e (h.trans hh))]
theorem XF {k:Bool} {f b:Ly} {s p c:Nat} {d:gQ} (h:iZ k f s b p=(d,c)):d.ak.length≤b.length:=by
  unfold iZ at h
  split at h
  · cases h;simp[qW]
  split at h
  · exact VI h
  cases h;simp[qW]
theorem akt {k:Bool} {f b:Ly} {s p:Nat} (h:(iZ k f s b p).2≠0):(iZ k f s b p).1=qW:=by
  unfold iZ at h ⊢
  split
  · rfl
  rename_i h1
  rw[if_neg h1]at h
  split
  · rename_i h2;rw[if_pos h2]at h;exact absurd h h1
  rfl
def vA (k:Bool) (f:Ly) (s:Nat) (b:Ly) (p:Nat):List UInt8 × Nat:=((iZ k f s b p).1.ak,(iZ k f s b p).2)
theorem afY {k:Bool} {f b:Ly} {s p c:Nat} (h:(iZ k f s b p).2=c) (hc:c≠0):vA k f s b p=([],c):=by
  unfold vA
  rw[akt (by rw[h];exact hc),h]
  rfl
def nR (l:Ly):Pr × Nat:=({name:=(qY l).1,value:=(qY l).2},(jU l).toNat)
theorem KD (l:Ly):0≤jU l∧jU l<100:=by
  unfold jU
  repeat' split
  all_goals omega
theorem UH (l:Ly):jU l=(((jU l).toNat:Nat):Int):=(Int.toNat_of_nonneg (KD l).1).symm
theorem aay (l:Ly):(jU l).toNat<9223372036854775808:=by have:=KD l;omega
end Go.Wk
namespace Go.Wk
open Go Go.RowKit
def zS:Rec:={seq:=0,cu:=0,mono:=0,bV:=pV,aj:=[]}
def lZ (k:Bool) (f:Ly) (s:Nat) (b:Ly):List kV→List Pr→List (List UInt8)→(List Pr × List (List UInt8)) × Nat
  | [],fs,all=>((fs,all),0)
  | x :: r,fs,all =>
    if(iZ k f s b x.b9).2≠0 then(([],[]),(iZ k f s b x.b9).2)
    else if(iZ k f s b x.b9).1.cQ≠x.cQ then(([],[]),9)
    else if(nR (iZ k f s b x.b9).1.ak).2≠0 then(([],[]),(nR (iZ k f s b x.b9).1.ak).2)
    else lZ k f s b r (fs ++ [(nR (iZ k f s b x.b9).1.ak).1]) (all ++ [(iZ k f s b x.b9).1.ak])
section
variable {k:Bool} {f b:Ly} {s p i c:Nat} {l:List kV} {x:kV} {d:gQ} {fs:List Pr} {all:List (List UInt8)} {q:Pr} {e:gI} {r:Rec}
theorem JS (h:¬i<l.length):lZ k f s b (l.drop i) fs all=((fs,all),0):=by rw[iI Oh];rfl
theorem aal (h:l[i]? = some x) (hp:(iZ k f s b x.b9).2=c) (hc:c≠0):lZ k f s b (l.drop i) fs all=(([],[]),c):=by
  rw[eP h];unfold lZ;rw[hp,if_pos hc]
theorem agk (h:l[i]? = some x) (hp:iZ k f s b x.b9=(d,0)) (hn:¬d.cQ=x.cQ):lZ k f s b (l.drop i) fs all=(([],[]),9):=by
  rw[eP h];unfold lZ;rw[hp,if_neg Oq,if_pos hn]
theorem Ra (h:l[i]? = some x) (hp:iZ k f s b x.b9=(d,0)) (hn:d.cQ=x.cQ) (hs:nR d.ak=(q,c)) (hc:c≠0):lZ k f s b (l.drop i) fs all=(([],[]),c):=by
  rw[eP h];unfold lZ;rw[hp,if_neg Oq,if_neg (by simpa using hn),hs,if_pos hc]
theorem TS (h:l[i]? = some x) (hp:iZ k f s b x.b9=(d,0)) (hn:d.cQ=x.cQ) (hs:nR d.ak=(q,0)):lZ k f s b (l.drop i) fs all=lZ k f s b (l.drop (i+1)) (fs ++ [q]) (all ++ [d.ak]):=by
  rw[eP h];conv=>lhs;unfold lZ
  rw[hp,if_neg Oq,if_neg (by simpa using hn),hs,if_neg Oq]
def nW (k:Bool) (f:Ly) (s:Nat) (b:Ly) (p:Nat):Rec × Nat :=
  if(iv s b p).2≠0 then(zS,(iv s b p).2)
  else if 16<(iv s b p).1.aD.length then(zS,21)
  else if(lZ k f s b (iv s b p).1.aD [] []).2≠0 then(zS,(lZ k f s b (iv s b p).1.aD [] []).2)
  else if(iv s b p).1.xor=nU 0 (lZ k f s b (iv s b p).1.aD [] []).1.2 then({seq:=(iv s b p).1.seq,cu:=(iv s b p).1.cu,mono:=(iv s b p).1.mono,bV:=(iv s b p).1.bV,aj:=(lZ k f s b (iv s b p).1.aD [] []).1.1},0)
  else(zS,10)
theorem aiG (h:(iv s b p).2=c) (hc:c≠0):(nW k f s b p).2=c:=by unfold nW;rw[h,if_pos hc]
theorem aiF (h:iv s b p=(e,0)) (hl:16<e.aD.length):(nW k f s b p).2=21:=by unfold nW;rw[h,if_neg Oq,if_pos hl]
theorem TT {y:List Pr × List (List UInt8)} (h:iv s b p=(e,0)) (hl:¬16<e.aD.length) (hg:lZ k f s b e.aD [] []=(y,c)) (hc:c≠0):(nW k f s b p).2=c:=by
  unfold nW;rw[h,if_neg Oq,if_neg hl,hg,if_pos hc]
theorem aiE {n:Nat} (h:iv s b p=(e,0)) (hl:¬16<e.aD.length) (hg:lZ k f s b e.aD [] []=((fs,all),0)) (hx:nU 0 all=n) (hn:¬e.xor=n):(nW k f s b p).2=10:=by
  unfold nW;rw[h,if_neg Oq,if_neg hl,hg,if_neg Oq,if_neg (by rw[hx];exact hn)]
structure agN (e:gI) (r:Rec):Prop where
  seq:r.seq=e.seq
  cu:r.cu=e.cu
  mono:r.mono=e.mono
  bV:r.bV=e.bV
theorem adR {n:Nat} (h:iv s b p=(e,0)) (hl:¬16<e.aD.length) (hr:agN e r) (hg:lZ k f s b e.aD [] []=((r.aj,all),0)) (hx:nU 0 all=n) (hn:e.xor=n):nW k f s b p=(r,0):=by
  unfold nW;rw[h,if_neg Oq,if_neg hl,hg,if_neg Oq,if_pos (by rw[hx];exact hn)]
  obtain⟨E,F,G,H,I⟩:=r
  obtain⟨A,B,C,D⟩:=hr
  simp only at A B C D
  subst A;subst B;subst C;subst D
  rfl
theorem ae6 {n:Nat} {y:Ly} (h:∀x∈all,x.length≤n) (hy:y.length≤n):∀x∈all ++ [y],x.length≤n:=by
  intro x B
  rcases List.mem_append.1 B with A|A
  · exact h x A
  simp at A;subst A;exact hy
theorem ak8 (h:(nW k f s b p).2≠0):(nW k f s b p).1=zS:=by
  unfold nW at h ⊢
  split
  · rfl
  split
  · rfl
  split
  · rfl
  split
  · rename_i h1 h2 h3 h4;rw[if_neg h1,if_neg h2,if_neg h3,if_pos h4]at h;exact absurd rfl h
  rfl
theorem agm (h:(nW k f s b p).2=c) (hc:c≠0):nW k f s b p=(zS,c):=by
  refine Prod.ext ?_ h
  exact ak8 (by rw[h];exact hc)
end
end Go.Wk
namespace Go.Wk
open Go Go.RowKit
section
variable {b x:Ly} {p c:Nat}
end
section
variable {k:Bool} {f b:Ly} {s p c n:Nat} {d:gQ}
end
section
variable {k:Bool} {f b:Ly} {s p i c n m:Nat} {l:List kV} {x:kV} {fs:List Pr} {all:List (List UInt8)} {q:Ly} {w:Pr}
end
end Go.Wk
namespace Go.Wk
open Go Go.RowKit
theorem Ow.lsB {e:TypeId} {w w':World} {Q Q':Nat→Prop} {v:Value} {xs:Ly} (h:Ow fI e (cr [] w) w' Q' v xs) (uQ:Up w Q):Ls fI w' Q v xs :=
  Ls.of_by h.read.by fun b hb _=>cr.up uQ b (h.2 b hb).1
theorem LA (s:Sq):s.config.1.ay≤10∧s.config.1.aA≤10:=by
  rcases h1:s.cP 5 with⟨a,E⟩
  rcases h2:E.cP 5 with⟨b,F⟩
  rcases h3:F.cP 5 with⟨c,C⟩
  rcases h4:C.cP 7 with⟨d,D⟩
  rcases h5:D.cP 4 with⟨e,G⟩
  rcases h6:G.cP 2 with⟨f,H⟩
  have A:=C.kE 7
  have B:=D.kE 4
  rw[h4]at A;rw[h5]at B
  simp only[Sq.config,h1,h2,h3,h4,h5,h6]
  simp only at A B
  omega
end Go.Wk
namespace Go.Wk
open Go Go.RowKit
def tY (P:Program) (s:TypeId) (f:Nat):Option Nat :=
  match P.underlying s with
  | some (.struct fs)=>match fs[f]? with
    | some x=>cond (jJ P x.type) (some x.offset) none
    | none=>none
  | _=>none
section
variable {P:Program} {n:Nat} {A:Fr n} {D:List Deferred} {l:List (Nat × Value)} {w:World} {d:Option Tmp} {ty:TypeId} {ps:String} {af:Array Edge} {g:Option (Nat × Bool)}
theorem FO {x:Operand} {s:TypeId} {f off:Nat} {cs:List Value} {u:Value} (hf:tY P s f=some off) (hx:ev n l x=some (.agg cs.toArray)) (hc:cs[off]? = some u) :
    dQ P ⟨d,.field s x f,ty,ps,af,g⟩ (bw A D l).eval w u:=by
  unfold tY at hf
  split at hf
  · rename_i fs hu
    split at hf
    · rename_i y hy
      cases h1:jJ P y.type with
      | false=>rw[h1]at hf;cases hf
      | true =>
        rw[h1]at hf
        simp only[cond_true,Option.some.injEq]at hf
        subst hf
        simp[dQ,execOp,cE hx,Instr.field,run_underlying hu,hy,part,oD h1,asAgg,hc]
    cases hf
  cases hf
end
structure jD where
  out:List Nat
  cur:Nat
  ahead:Nat
def jD.cells (x:jD) (v0:Value):List Value :=
  [v0] ++ ([(.int .u64 x.cur)] ++ ([(.int .u64 x.ahead)]))
def jD.ok (x:jD):Prop:=x.cur<18446744073709551616∧x.ahead<18446744073709551616
theorem jD.one {x:jD} {v0:Value} (h0:v0.oneCell'=true):(x.cells v0).all (fun u=>u.oneCell')=true:=(dn (pq h0) (dn q q))
section
variable {P:Program} {n:Nat} {A:Fr n} {D:List Deferred} {l:List (Nat × Value)} {w:World} {d:Option Tmp} {ty:TypeId} {ps:String} {af:Array Edge} {g:Option (Nat × Bool)}
end
end Go.Wk
namespace Go.Wk
open Go Go.RowKit
def ud (out:List Nat):Nat:=out.getLast?.getD 0
def qE (out:List Nat) (x:Nat):Nat:=if out≠[]∧x≤ud out then 13 else 0
def nE (b:Ly) (bY:Nat):List Nat→List Nat→List Nat × Nat
  | [],out=>(out,0)
  | x :: r,out=>if bY≤out.length then(out,0)else if x=0∨b.length≤x then(out,2)else if qE out x≠0 then(out,13)else nE b bY r (out ++ [x])
def tj (s:Nat) (b:Ly) (bY p ahead:Nat) (out:List Nat):List Nat × Nat :=
  if bY≤out.length then(out,0)
  else if p=0∨b.length≤p then(out,14)
  else if p≤ahead then(out,12)
  else if(iQ s b p).2≠0 then(out,(iQ s b p).2)
  else if(nE b bY (iQ s b p).1.aD out).2≠0 then nE b bY (iQ s b p).1.aD out
  else tj s b bY (iQ s b p).1.next p (nE b bY (iQ s b p).1.aD out).1
termination_by b.length-ahead
decreasing_by omega
def wD (b:Ly) (bY:Nat):List Nat→List Nat→List Nat × Nat × Bool
  | [],out=>(out,0,false)
  | x :: r,out=>if bY≤out.length then(out,0,true)else if x=0∨b.length≤x then(out,0,true)else if qE out x≠0 then(out,13,true)else wD b bY r (out ++ [x])
def M0 (s:Nat) (b:Ly) (bY p ahead:Nat) (out:List Nat):List Nat × Nat :=
  if bY≤out.length then(out,0)
  else if p=0∨b.length≤p then(out,0)
  else if p≤ahead then(out,12)
  else if(iQ s b p).2≠0 then(out,(iQ s b p).2)
  else if(wD b bY (iQ s b p).1.aD out).2.2=true then((wD b bY (iQ s b p).1.aD out).1,(wD b bY (iQ s b p).1.aD out).2.1)
  else M0 s b bY (iQ s b p).1.next p (wD b bY (iQ s b p).1.aD out).1
termination_by b.length-ahead
decreasing_by omega
def NR (s:Nat) (b:Ly) (p:Nat):List Nat × Nat :=
  if(gB s b p).2≠0 then([],(gB s b p).2)
  else if(gB s b p).1.bQ=0∨(gB s b p).1.entry=0∨b.length≤(gB s b p).1.entry then([],0)
  else M0 s b (gB s b p).1.bQ (gB s b p).1.array 0 [(gB s b p).1.entry]
def iX (b:Ly) (x:Nat):Bool:=decide (x=0∨b.length≤x)
def lM (s:Nat) (b:Ly) (l:jD):List Nat × Nat × jD :=
  if l.cur≤l.ahead then([],12,l)else((iQ s b l.cur).1.aD,(iQ s b l.cur).2,{l with cur:=(iQ s b l.cur).1.next,ahead:=l.cur})
def WB (l:jD) (x:Nat):Nat × jD:=if qE l.out x≠0 then(13,l)else(0,{l with out:=l.out ++ [x]})
theorem afw {out:List Nat} {x y:Nat} (h:out[out.length-1]? = some y) (hx:x≤y):qE out x≠0:=by
  unfold qE ud
  have A:out≠[]:=by rintro rfl;simp at h
  rw[List.getLast?_eq_getElem?,h,if_pos ⟨A,hx⟩]
  decide
theorem aie {out:List Nat} {x y:Nat} (h:out[out.length-1]? = some y) (hx:¬x≤y):qE out x=0:=by
  unfold qE ud
  rw[List.getLast?_eq_getElem?,h,if_neg (fun h=>hx h.2)]
theorem aif {out:List Nat} {x:Nat} (h:¬0<out.length):qE out x=0:=by
  unfold qE
  rw[if_neg (fun A=>A.1 (List.eq_nil_of_length_eq_zero Oh))]
def GP (b:Ly) (out:List Nat):Prop:=out.length≤ud out∧ud out<b.length+1
theorem adS (b:Ly):GP b []:=⟨Nat.le_refl _,Nat.succ_pos _⟩
theorem Rb {b:Ly} {out:List Nat} (h:GP b out):out.length≤b.length:=by have:=h.1;have:=h.2;omega
theorem lI {b:Ly} {x:Nat} (h:iX b x=false):x≠0∧x<b.length:=by
  unfold iX at h
  have:=dF h
  omega
theorem PO (out:List Nat) (x:Nat):ud (out ++ [x])=x:=by simp[ud]
theorem JV {b:Ly} {l l':jD} {x c:Nat} (h:GP b l.out) (hi:WB l x=(c,l')) (hc:¬c≠0) (hn:iX b x=false):GP b l'.out∧l'.out=l.out ++ [x]∧l'.cur=l.cur∧l'.ahead=l.ahead∧qE l.out x=0:=by
  have D:=lI hn
  unfold WB at hi
  split at hi
  · exact absurd (congrArg Prod.fst hi) Oh
  rename_i h2
  have e:=congrArg Prod.snd hi
  simp only at e
  subst e
  refine⟨⟨?_,?_⟩,q,q,q,by omega⟩
  · simp only[PO,List.length_append,List.length_singleton]
    have A:qE l.out x=0:=by omega
    unfold qE at A
    have C:=h.1
    by_cases hn:l.out=[]
    · rw[hn];simp;omega
    have:¬x≤ud l.out:=fun B=>by rw[if_pos ⟨hn,B⟩]at A;cases A
    omega
  simp only[PO];omega
theorem BQ {s c:Nat} {b:Ly} {l l':jD} {aD:List Nat} (ha:lM s b l=(aD,c,l')) (hc:¬c≠0):l.ahead<l.cur∧l'.out=l.out∧l'.ahead=l.cur∧l'.cur=(iQ s b l.cur).1.next∧aD=(iQ s b l.cur).1.aD∧(iQ s b l.cur).2=0:=by
  unfold lM at ha
  split at ha
  · exact absurd (congrArg (fun x=>x.2.1) ha) Vw
  rename_i h
  simp only[Prod.mk.injEq]at ha
  obtain⟨rfl,A,rfl⟩:=ha
  exact⟨by omega,q,q,q,q,by omega⟩
theorem o9 {s c:Nat} {b:Ly} {l l':jD} {aD:List Nat} (ha:lM s b l=(aD,c,l')):l'.out=l.out:=by
  unfold lM at ha
  split at ha <;> (simp only[Prod.mk.injEq]at ha;obtain⟨_,_,rfl⟩:=ha;rfl)
theorem abE {s bY p a:Nat} {b:Ly} {out:List Nat} (h:¬out.length<bY):tj s b bY p a out=(out,0):=by rw[tj,if_pos Oh]
theorem aeZ {s bY p a:Nat} {b:Ly} {out:List Nat} (h:out.length<bY) (hn:iX b p=true):tj s b bY p a out=(out,14):=by
  rw[tj,if_neg Oh,if_pos (by simpa [iX]using hn)]
theorem abF {s bY c:Nat} {b:Ly} {l l':jD} {aD:List Nat} (h:l.out.length<bY) (hn:iX b l.cur=false) (ha:lM s b l=(aD,c,l')) (hc:c≠0):tj s b bY l.cur l.ahead l.out=(l'.out,c):=by
  have A:=lI hn
  rw[o9 ha]
  rw[tj,if_neg Oh,if_neg Oh]
  unfold lM at ha
  split at ha
  · rename_i h1;rw[if_pos h1];simp only[Prod.mk.injEq]at ha;rw[ha.2.1]
  rename_i h1;rw[if_neg h1];simp only[Prod.mk.injEq]at ha;rw[← ha.2.1]at hc ⊢;rw[if_pos hc]
theorem VP {s bY c:Nat} {b:Ly} {l l':jD} {aD:List Nat} (h:l.out.length<bY) (hn:iX b l.cur=false) (ha:lM s b l=(aD,c,l')) (hc:¬c≠0) :
    tj s b bY l.cur l.ahead l.out=if(nE b bY aD l.out).2≠0 then nE b bY aD l.out else tj s b bY l'.cur l'.ahead (nE b bY aD l.out).1:=by
  have G:=lI hn
  obtain⟨D,E,A,B,C,F⟩:=BQ ha hc
  rw[tj,if_neg Oh,if_neg Oh,if_neg Oh,if_neg Oh,A,B,C]
theorem abJ {s bY c i:Nat} {b:Ly} {l l':jD} {aD out2:List Nat} {r r1:List Nat × Nat} (h0:tj s b bY l.cur l.ahead l.out=r) (h:l.out.length<bY) (hn:iX b l.cur=false) (ha:lM s b l=(aD,c,l')) (hc:¬c≠0)
    (h1o:nE b bY (aD.drop 0) l'.out=r1) (h1:nE b bY (aD.drop i) out2=r1) (he:nE b bY (aD.drop i) out2=(out2,0)):tj s b bY l'.cur l'.ahead out2=r:=by
  have A:nE b bY aD l.out=(out2,0):=by rw[← o9 ha];exact h1o.trans (h1.symm.trans he)
  rw[VP h hn ha hc,A,if_neg Oq]at h0
  exact h0
theorem OO {s bY c i k:Nat} {b:Ly} {l l':jD} {aD out2 out3:List Nat} {r r1:List Nat × Nat} (h0:tj s b bY l.cur l.ahead l.out=r) (h:l.out.length<bY) (hn:iX b l.cur=false) (ha:lM s b l=(aD,c,l')) (hc:¬c≠0)
    (h1o:nE b bY (aD.drop 0) l'.out=r1) (h1:nE b bY (aD.drop i) out2=r1) (he:nE b bY (aD.drop i) out2=(out3,k)) (hk:k≠0):r=(out3,k):=by
  have A:nE b bY aD l.out=(out3,k):=by rw[← o9 ha];exact h1o.trans (h1.symm.trans he)
  rw[VP h hn ha hc,A,if_pos hk]at h0
  exact h0.symm
theorem abD {bY i:Nat} {b:Ly} {aD out:List Nat} (h:¬i<aD.length):nE b bY (aD.drop i) out=(out,0):=by rw[List.drop_eq_nil_of_le Oh];rfl
theorem YN {bY:Nat} {b:Ly} {aD out:List Nat} (h:bY≤out.length):nE b bY aD out=(out,0):=by
  cases aD with
  | nil=>rfl
  | cons x r=>unfold nE;rw[if_pos h]
theorem drop_cons {aD:List Nat} {i x:Nat} (h:aD[i]? = some x):aD.drop i=x :: aD.drop (i+1):=by
  obtain⟨A,B⟩:=List.getElem?_eq_some_iff.1 h
  rw[← B];exact(List.drop_eq_getElem_cons A)
theorem ahI {bY i x:Nat} {b:Ly} {aD out:List Nat} (h:aD[i]? = some x) (hm:¬bY≤out.length) (hn:iX b x=true):nE b bY (aD.drop i) out=(out,2):=by
  rw[drop_cons h,nE,if_neg hm,if_pos (by simpa [iX]using hn)]
theorem aeY {bY i x c:Nat} {b:Ly} {aD:List Nat} {l l':jD} (h:aD[i]? = some x) (hm:¬bY≤l.out.length) (hn:iX b x=false) (hi:WB l x=(c,l')) (hc:c≠0):nE b bY (aD.drop i) l.out=(l'.out,c):=by
  have A:=lI hn
  rw[drop_cons h,nE,if_neg hm,if_neg Oh]
  unfold WB at hi
  split at hi
  · rename_i h2;rw[if_pos h2];simp only[Prod.mk.injEq]at hi;rw[← hi.1,← hi.2]
  exact absurd (congrArg Prod.fst hi).symm hc
theorem YO {bY i x c:Nat} {b:Ly} {aD:List Nat} {l l':jD} (h:aD[i]? = some x) (hm:¬bY≤l.out.length) (hn:iX b x=false) (hi:WB l x=(c,l')) (hc:¬c≠0):nE b bY (aD.drop i) l.out=nE b bY (aD.drop (i+1)) l'.out:=by
  have A:=lI hn
  rw[drop_cons h,nE,if_neg hm,if_neg Oh]
  unfold WB at hi
  split at hi
  · exact absurd (congrArg Prod.fst hi) Oh
  rename_i h2;rw[if_neg h2];simp only[Prod.mk.injEq]at hi;rw[← hi.2]
def VQ (s:Nat) (b:Ly) (bY p:Nat):List Nat × Nat:=tj s b bY p 0 []
theorem ait {s bY p a:Nat} {b:Ly} {out:List Nat} (h:¬out.length<bY):M0 s b bY p a out=(out,0):=by rw[M0,if_pos Oh]
theorem aiu {s bY p a:Nat} {b:Ly} {out:List Nat} (h:out.length<bY) (hn:iX b p=true):M0 s b bY p a out=(out,0):=by
  rw[M0,if_neg Oh,if_pos (by simpa [iX]using hn)]
theorem afB {s bY c:Nat} {b:Ly} {l l':jD} {aD:List Nat} (h:l.out.length<bY) (hn:iX b l.cur=false) (ha:lM s b l=(aD,c,l')) (hc:c≠0):M0 s b bY l.cur l.ahead l.out=(l'.out,c):=by
  have A:=lI hn
  rw[o9 ha]
  rw[M0,if_neg Oh,if_neg Oh]
  unfold lM at ha
  split at ha
  · rename_i h1;rw[if_pos h1];simp only[Prod.mk.injEq]at ha;rw[ha.2.1]
  rename_i h1;rw[if_neg h1];simp only[Prod.mk.injEq]at ha;rw[← ha.2.1]at hc ⊢;rw[if_pos hc]
theorem acM {s bY c:Nat} {b:Ly} {l l':jD} {aD:List Nat} (h:l.out.length<bY) (hn:iX b l.cur=false) (ha:lM s b l=(aD,c,l')) (hc:¬c≠0) :
    M0 s b bY l.cur l.ahead l.out=if(wD b bY aD l.out).2.2=true then((wD b bY aD l.out).1,(wD b bY aD l.out).2.1)else M0 s b bY l'.cur l'.ahead (wD b bY aD l.out).1:=by
  have G:=lI hn
  obtain⟨D,E,A,B,C,F⟩:=BQ ha hc
  rw[M0,if_neg Oh,if_neg Oh,if_neg Oh,if_neg Oh,A,B,C]
theorem akr {s bY c i:Nat} {b:Ly} {l l':jD} {aD out2:List Nat} {r:List Nat × Nat} {r1:List Nat × Nat × Bool} (h0:M0 s b bY l.cur l.ahead l.out=r) (h:l.out.length<bY) (hn:iX b l.cur=false) (ha:lM s b l=(aD,c,l')) (hc:¬c≠0)
    (h1o:wD b bY (aD.drop 0) l'.out=r1) (h1:wD b bY (aD.drop i) out2=r1) (he:wD b bY (aD.drop i) out2=(out2,0,false)):M0 s b bY l'.cur l'.ahead out2=r:=by
  have A:wD b bY aD l.out=(out2,0,false):=by rw[← o9 ha];exact h1o.trans (h1.symm.trans he)
  rw[acM h hn ha hc,A,if_neg Oq]at h0
  exact h0
theorem MA {s bY c i k:Nat} {b:Ly} {l l':jD} {aD out2 out3:List Nat} {r:List Nat × Nat} {r1:List Nat × Nat × Bool} (h0:M0 s b bY l.cur l.ahead l.out=r) (h:l.out.length<bY) (hn:iX b l.cur=false) (ha:lM s b l=(aD,c,l')) (hc:¬c≠0)
    (h1o:wD b bY (aD.drop 0) l'.out=r1) (h1:wD b bY (aD.drop i) out2=r1) (he:wD b bY (aD.drop i) out2=(out3,k,true)):r=(out3,k):=by
  have A:wD b bY aD l.out=(out3,k,true):=by rw[← o9 ha];exact h1o.trans (h1.symm.trans he)
  rw[acM h hn ha hc,A,if_pos q]at h0
  exact h0.symm
theorem afA {bY i:Nat} {b:Ly} {aD out:List Nat} (h:¬i<aD.length):wD b bY (aD.drop i) out=(out,0,false):=by rw[List.drop_eq_nil_of_le Oh];rfl
theorem acK {bY i x:Nat} {b:Ly} {aD out:List Nat} (h:aD[i]? = some x) (hm:bY≤out.length):wD b bY (aD.drop i) out=(out,0,true):=by
  rw[drop_cons h,wD,if_pos hm]
theorem akq {bY i x:Nat} {b:Ly} {aD out:List Nat} (h:aD[i]? = some x) (hm:¬bY≤out.length) (hn:iX b x=true):wD b bY (aD.drop i) out=(out,0,true):=by
  rw[drop_cons h,wD,if_neg hm,if_pos (by simpa [iX]using hn)]
theorem ais {bY i x c:Nat} {b:Ly} {aD:List Nat} {l l':jD} (h:aD[i]? = some x) (hm:¬bY≤l.out.length) (hn:iX b x=false) (hi:WB l x=(c,l')) (hc:c≠0):wD b bY (aD.drop i) l.out=(l'.out,c,true):=by
  have A:=lI hn
  rw[drop_cons h,wD,if_neg hm,if_neg Oh]
  unfold WB at hi
  split at hi
  · rename_i h2;rw[if_pos h2];simp only[Prod.mk.injEq]at hi;rw[← hi.1,← hi.2]
  exact absurd (congrArg Prod.fst hi).symm hc
theorem acL {bY i x c:Nat} {b:Ly} {aD:List Nat} {l l':jD} (h:aD[i]? = some x) (hm:¬bY≤l.out.length) (hn:iX b x=false) (hi:WB l x=(c,l')) (hc:¬c≠0):wD b bY (aD.drop i) l.out=wD b bY (aD.drop (i+1)) l'.out:=by
  have A:=lI hn
  rw[drop_cons h,wD,if_neg hm,if_neg Oh]
  unfold WB at hi
  split at hi
  · exact absurd (congrArg Prod.fst hi) Oh
  rename_i h2;rw[if_neg h2];simp only[Prod.mk.injEq]at hi;rw[← hi.2]
theorem af9 {s p c:Nat} {b:Ly} {d:gQ} (h:gB s b p=(d,c)) (hc:c≠0):NR s b p=([],c):=by unfold NR;rw[h];simp only;rw[if_pos hc]
theorem EP {s p c:Nat} {b:Ly} {d:gQ} (h:gB s b p=(d,c)) (hc:¬c≠0) (h0:d.bQ=0∨iX b d.entry=true):NR s b p=([],0):=by
  unfold NR;rw[h];simp only
  rw[if_neg hc,if_pos]
  rcases h0 with h0|h0
  · exact .inl h0
  unfold iX at h0;have:=dT h0;omega
theorem sC {s p c:Nat} {b:Ly} {d:gQ} (h:gB s b p=(d,c)) (hc:¬c≠0) (h0:¬d.bQ=0) (hn:iX b d.entry=false):NR s b p=M0 s b d.bQ d.array 0 [d.entry]:=by
  have A:=lI hn
  unfold NR;rw[h];simp only
  rw[if_neg hc,if_neg Oh]
theorem adT {b:Ly} {x:Nat} (hn:iX b x=false):GP b [x]:=by
  have A:=lI hn
  unfold GP ud;simp;omega
end Go.Wk
namespace Go.Wk
open Go Go.RowKit
end Go.Wk
namespace Go.Wk
open Go Go.RowKit
theorem nI {l:List Nat} {i v:Nat} (h:i<l.length):(l.set i v).getD i 0=v:=by simp[List.getD,h]
def oh (z:Mk) (n seq cu mono e:Nat) (bV:Ly):Mk :=
  let m7:=if n=0 then(z.dV 10 seq).dV 12 cu else z
  let m8:=m7.dV 8 ((m7.cP 8+1)%18446744073709551616)
  let m9:=((m8.dV 9 seq).dV 13 cu).dV 14 mono
  {m9 with h:={m9.h with bV:=bV,eN:=e}}
theorem uW (z:Mk) (n seq cu mono e:Nat) (bV:Ly):(oh z n seq cu mono e bV).b=z.b∧(oh z n seq cu mono e bV).c=z.c∧(oh z n seq cu mono e bV).ai=z.ai∧(oh z n seq cu mono e bV).aj=z.aj∧(oh z n seq cu mono e bV).main=z.main ∧
    (oh z n seq cu mono e bV).h.n.getD 2 0=z.h.n.getD 2 0∧(oh z n seq cu mono e bV).h.n.getD 4 0=z.h.n.getD 4 0∧(oh z n seq cu mono e bV).h.n.length=z.h.n.length ∧
    (z.h.n.length=20→(oh z n seq cu mono e bV).n8=(z.n8+1)%18446744073709551616∧(oh z n seq cu mono e bV).cP 9=seq):=by
  unfold oh
  simp only
  generalize hm7:(if n=0 then(z.dV 10 seq).dV 12 cu else z)=m7
  have A:m7.b=z.b∧m7.c=z.c∧m7.ai=z.ai∧m7.aj=z.aj∧m7.main=z.main∧m7.h.n.getD 8 0=z.h.n.getD 8 0∧m7.h.n.getD 2 0=z.h.n.getD 2 0∧m7.h.n.getD 4 0=z.h.n.getD 4 0∧m7.h.n.length=z.h.n.length:=by
    subst hm7
    split
    · exact⟨q,q,q,q,q,(bD Om).trans (bD Om),(bD Om).trans (bD Om),(bD Om).trans (bD Om),by simp[Mk.dV]⟩
    · exact⟨q,q,q,q,q,q,q,q,q⟩
  obtain⟨C,D,E,F,G,H,I,J,K⟩:=A
  clear hm7
  refine⟨C,D,E,F,G,?_,?_,?_,fun B=>⟨?_,?_⟩⟩
  · rw[← I]
    exact(bD Om).trans ((bD Om).trans ((bD Om).trans (bD Om)))
  · rw[← J]
    exact(bD Om).trans ((bD Om).trans ((bD Om).trans (bD Om)))
  · rw[← K];simp[Mk.dV]
  · have e:m7.cP 8=z.n8:=H
    rw[e]
    exact(bD Om).trans ((bD Om).trans ((bD Om).trans (nI Oh)))
  exact(bD Om).trans ((bD Om).trans (nI (by simp[Mk.dV];omega)))
theorem xS {m:Mk} (h:vV m) {raw:List Pr} {cu mono:Nat} {bV:Ly} (hb:bV.length=16) (h20:(m.append raw cu mono bV).2.2.h.n.length=20):vV (m.append raw cu mono bV).2.2:=by
  rcases hl:kY raw with⟨l,c⟩
  by_cases h2:c≠0
  · have e:m.append raw cu mono bV=(0,c,m):=by unfold Mk.append;simp only[hl];rw[if_pos h2]
    rw[e];exact h
  by_cases h3:m.cP 9=18446744073709551615
  · have e:m.append raw cu mono bV=(0,1,m):=by unfold Mk.append;simp only[hl];rw[if_neg h2,if_pos h3]
    rw[e];exact h
  obtain⟨w,ll⟩:=ug hl
  have D:=uT l m [] [] 0 (qC h) w
  rcases hd:iG l m [] []with⟨ps,M,x⟩
  rw[hd,Nat.zero_add]at D
  simp only at D
  have s1:=h.small
  have s4:=h.nb
  have d1:=D.app.ge
  have d2:=D.app.le
  have d5:=D.len.1
  have Ad:=D.app.n8
  generalize hE:({seq:=(x.cP 9+1)%18446744073709551616,cu:=cu,mono:=mono,bV:=bV,xor:=nU 0 ps,aD:=jK x M}:gI)=E
  have eb:E.bV.length=16:=by subst hE;exact hb
  have ei:E.aD.length=M.length:=by subst hE;simp[jK]
  have el:=mO E eb
  have C:=BO (L:=400) (o:=e6 E) D.app Oh
  have d:=(iK x (e6 E)).2.1
  have S:=(fD x (e6 E)).2.2.2
  have O:=(fD x (e6 E)).2.1
  rcases ho:x.di (e6 E)with⟨e,B⟩
  rw[ho]at C d S O
  simp only at C d S O
  have N:B.h.n.getD 8 0=m.n8:=C.n8
  have Z:k9 B.b.length B.main (B.cP 8):=by
    rw[show B.cP 8=m.n8 from N,S,D.main];exact pQ h.main C.ge
  have K:=xe B B.main (B.cP 8) 176 e Z
  have G:=BN (src:=176) (iJ:=e) C Z
  rcases hk:B.link B.main (B.cP 8) 176 e with⟨a,t,P⟩
  rw[hk]at K G
  simp only at K G
  generalize hY:(let m4:=({P with main:=a}:Mk).dV 11 (a.getD 0 0);({m4 with h:={m4.h with er:=jX a%4294967296,eB:=t%4294967296}}:Mk))=Y
  have F:lJ m Y l.length (900*l.length+400+2100+0) 0:=by
    subst hY
    exact BP (e':=0) G q (bD Om) (bD Om) (bD Om) q q (Nat.le_refl _) (Nat.le_refl _) (Nat.le_refl _)
  have u:Y.b=P.b:=by subst hY;rfl
  have X:Y.ai=P.ai:=by subst hY;rfl
  have v:Y.main=a:=by subst hY;rfl
  obtain⟨A,zm,zd⟩:=DF (en:=e) M Y _ _ F (fun i T=>by rw[X,K.ai,O];exact D.idx i T)
  have y8:Y.n8=m.n8:=F.n8
  have Q:=(DF (en:=e) M Y 0 0 ⟨F.fit,q,q,by rw[y8];exact F.chains,Nat.le_add_right _ 0,Nat.le_add_right _ 0,Nat.le_refl _,Nat.le_refl _⟩ (fun i T=>by rw[X,K.ai,O];exact D.idx i T)).1
  have U:=kI (cu:=cu) (mono:=mono) (bV:=bV) hl h2 h3 hd (by rw[hE];exact ho) hk (z:=kW e M Y) (by rw[hY])
  generalize kW e M Y=z at *
  replace U:m.append raw cu mono bV=if z.c.bY<z.b.length then(0,15,m)else((x.cP 9+1)%18446744073709551616,0,oh z (B.cP 8) ((x.cP 9+1)%18446744073709551616) cu mono e bV):=U
  rw[U]at h20 ⊢
  split at h20
  · rename_i hm
    rw[if_pos hm];exact h
  rename_i hm
  rw[if_neg hm]
  have q1:=A.ge
  have q2:=A.le
  have q3:=A.nd
  have q4:=A.nf
  have j:=A.c
  have z8:z.n8=m.n8:=A.n8
  have H:=h.bY
  have r1:=h.nd
  have r2:=h.nf
  have g3:=K.ge
  have y:P.b.length≤z.b.length:=by have h:=Q.ge;rw[u]at h;exact h
  obtain⟨J,V,W,g,kz5,p,r,kl,kz8⟩:=uW z (B.cP 8) ((x.cP 9+1)%18446744073709551616) cu mono e bV
  simp only at h20 ⊢
  generalize oh z (B.cP 8) ((x.cP 9+1)%18446744073709551616) cu mono e bV=R at *
  have I:=(kz8 Oh).1
  rw[z8,Nat.mod_eq_of_lt Oh]at I
  refine⟨pU A.fit ⟨by rw[V],by rw[V],p,r,by rw[J];exact Nat.le_refl _⟩ (fun k hk=>.inl (W ▸ hk)) (fun k hk=>.inl (g ▸ hk)),?_,?_,?_,?_,?_,?_,?_,?_⟩
  · rw[I,J,kz5,zm,v]
    have f:=K.chain
    rw[show B.cP 8=m.n8 from N]at f
    exact pQ f y
  · intro k hk
    rw[W]at hk
    obtain⟨u1,u2,u3,u4⟩:=A.chains k hk
    rw[J,I]
    exact⟨u1,u2,u3,by omega⟩
  · rw[W,I];omega
  · rw[g,I];omega
  · rw[J,I];omega
  · rw[J];rw[j]at hm;omega
  · rw[V,j];exact H
  rw[J];have:=h.hd;omega
theorem xh {c:nZ} {t:Nat} (h:c.ay≤10∧c.aA≤10) (h1:1≤c.ay∧1≤c.aA) (h2:c.bY≤40000):vV (je c t):=by
  have D:=(nK 4 (List.replicate c.ay {first:=0,tail:=0})).2 (.inl q)
  have E:=(nK 5 (List.replicate c.aA {first:=0,tail:=0})).2 (.inr q)
  have e:(je c t).b=List.replicate 272 0 ++ fG 4 (List.replicate c.ay {first:=0,tail:=0}) ++ fG 5 (List.replicate c.aA {first:=0,tail:=0}):=rfl
  have A:=congrArg List.length e
  simp only[List.length_append,List.length_replicate]at D E A
  have B:(je c t).n8=0:=rfl
  have C:(je c t).ai=[]:=rfl
  have F:(je c t).aj=[]:=rfl
  refine⟨⟨h1.1,by show c.ay≤64;omega,h1.2,by show c.aA≤64;omega,?_,?_,(fun k hk=>by rw[C]at hk;simp at hk),(fun k hk=>by rw[F]at hk;simp at hk)⟩,by rw[B];exact chain_nil _,(fun k hk=>by rw[C]at hk;simp at hk),by rw[B];exact Nat.le_refl _,by rw[B];exact Nat.le_refl _,by omega,by omega,h2,by omega⟩
  · have:(je c t).h.n.getD 2 0=288:=rfl
    rw[this,A];show 288+16*c.ay≤_;omega
  have:(je c t).h.n.getD 4 0=(List.replicate 272 (0:UInt8) ++ fG 4 (List.replicate c.ay {first:=0,tail:=0})).length+16:=rfl
  rw[this,A,List.length_append,List.length_replicate];show _+16*c.aA≤_;omega
theorem uS (s:Sq):(s.config.1.ay≤10∧s.config.1.aA≤10)∧(1≤s.config.1.ay∧1≤s.config.1.aA)∧s.config.1.bY≤40000:=by
  refine⟨LA s,?_⟩
  rcases h1:s.cP 5 with⟨a,A⟩
  rcases h2:A.cP 5 with⟨b,B⟩
  rcases h3:B.cP 5 with⟨c,C⟩
  rcases h4:C.cP 7 with⟨d,D⟩
  rcases h5:D.cP 4 with⟨e,E⟩
  rcases h6:E.cP 2 with⟨f,F⟩
  simp only[Sq.config,h1,h2,h3,h4,h5,h6]
  omega
theorem aam (s:Sq) (n:Nat):(∀q∈(s.record n).1.aj,BD q)∧(s.record n).1.aj.length≤16:=by
  rcases h1:s.pairs 4 with⟨A,B⟩
  rcases h2:B.cP 40 with⟨a,C⟩
  rcases h3:C.cP 9 with⟨b,D⟩
  rcases h4:D.cP 3 with⟨c,E⟩
  simp only[Sq.record,h1,h2,h3,h4]
  exact ug (show kY A=((kY A).1,(kY A).2)from rfl)
theorem zH (s:Sq) (n:Nat):(s.record n).1.bV.length=16:=by
  rcases h1:s.pairs 4 with⟨D,A⟩
  rcases h2:A.cP 40 with⟨a,B⟩
  rcases h3:B.cP 9 with⟨b,C⟩
  rcases h4:C.cP 3 with⟨c,E⟩
  simp only[Sq.record,h1,h2,h3,h4]
  simp[idF]
theorem EH {bY:Nat} {s:Sq} {m:Mk} {rs:List Rec} (h:¬(rs.length<bY∧s.b9<s.l.length)):jL (bY-rs.length) s m rs=(m,rs,s):=by
  by_cases h1:rs.length<bY
  · obtain⟨n,B⟩:∃n,bY-rs.length=n+1:=⟨bY-rs.length-1,by omega⟩
    rw[B]
    show(if s.b9<s.l.length then _ else(m,rs,s))=_
    rw[if_neg (fun A=>h ⟨h1,A⟩)]
  rw[show bY-rs.length=0 by omega];rfl
theorem ZI {bY c e:Nat} {s s1:Sq} {m m1:Mk} {rs:List Rec} {r:Rec} (h:rs.length<bY) (h2:s.b9<s.l.length) (hr:s.record ((m.cP 9+1)%18446744073709551616)=(r,s1)) (ha:m.append r.aj r.cu r.mono r.bV=(e,c,m1)) (hc:c≠0) :
    jL (bY-rs.length) s m rs=(m1,rs,s1):=by
  obtain⟨n,A⟩:∃n,bY-rs.length=n+1:=⟨bY-rs.length-1,by omega⟩
  rw[A]
  unfold jL
  rw[if_pos h2]
  simp only[hr,ha]
  rw[if_pos hc]
theorem ZJ {bY c e:Nat} {s s1:Sq} {m m1:Mk} {rs:List Rec} {r:Rec} (h:rs.length<bY) (h2:s.b9<s.l.length) (hr:s.record ((m.cP 9+1)%18446744073709551616)=(r,s1)) (ha:m.append r.aj r.cu r.mono r.bV=(e,c,m1)) (hc:¬c≠0) :
    jL (bY-rs.length) s m rs=jL (bY-(rs ++ [r]).length) s1 m1 (rs ++ [r]):=by
  obtain⟨n,A⟩:∃n,bY-rs.length=n+1:=⟨bY-rs.length-1,by omega⟩
  rw[A]
  rw[jL,if_pos h2]
  simp only[hr,ha]
  rw[if_neg hc,show bY-(rs ++ [r]).length=n by simp;omega]
theorem rE (m:Mk) (o:Ly):(m.di o).2.h.n.length=m.h.n.length:=by simp[Mk.di,Mk.dV]
theorem WS (m:Mk) (l:List aY) (t p s:Nat):(m.hang l t p s).2.h=m.h:=by rw[(AK m l t p s).1]
theorem acD (m:Mk) (x:Ly):(m.field x).2.h.n.length=m.h.n.length:=by
  unfold Mk.field
  split
  · rfl
  simp only
  have B:=rE m (ir {cQ:=eu m.c.dS m.c.dh x,bT:=0,dat:=0,ak:=x})
  generalize m.di (ir {cQ:=eu m.c.dS m.c.dh x,bT:=0,dat:=0,ak:=x})=r at *
  obtain⟨p,A⟩:=r
  simp only at B ⊢
  have C:=WS A A.aj (A.cP 4) p (eu m.c.dS m.c.dh x%A.c.aA)
  generalize A.hang A.aj (A.cP 4) p (eu m.c.dS m.c.dh x%A.c.aA)=r at *
  obtain⟨n,D⟩:=r
  simp only at C ⊢
  simp only[Mk.dV,List.length_set,C]
  exact B
theorem af8 (m:Mk) (x:Pr):(m.data x).2.h.n.length=m.h.n.length:=by
  unfold Mk.data
  split
  · rfl
  simp only
  have C:=rE m (jf {cQ:=eu m.c.dS m.c.dh (ak x),bT:=0,eH:=0,entry:=0,array:=0,bQ:=0,ak:=ak x})
  generalize m.di (jf {cQ:=eu m.c.dS m.c.dh (ak x),bT:=0,eH:=0,entry:=0,array:=0,bQ:=0,ak:=ak x})=r at *
  obtain⟨p,A⟩:=r
  simp only at C ⊢
  have D:=WS A A.ai (A.cP 2) p (eu m.c.dS m.c.dh (ak x)%A.c.ay)
  generalize A.hang A.ai (A.cP 2) p (eu m.c.dS m.c.dh (ak x)%A.c.ay)=r at *
  obtain⟨n,B⟩:=r
  simp only at D ⊢
  generalize hx5:({(B.dV 19 (max (B.cP 19) n)).dV 15 (((B.dV 19 (max (B.cP 19) n)).cP 15+1)%18446744073709551616)with ai:=((B.dV 19 (max (B.cP 19) n)).dV 15 (((B.dV 19 (max (B.cP 19) n)).cP 15+1)%18446744073709551616)).ai ++ [({cM:=ak x,b9:=p,cF:=eu m.c.dS m.c.dh (ak x)%A.c.ay,bQ:=0,bn:=[]}:aY)]}:Mk)=m5
  have E:m5.h.n.length=m.h.n.length:=by subst hx5;simp only[Mk.dV,List.length_set,D];exact C
  have F:=acD m5 x.name
  generalize m5.field x.name=r at *
  obtain⟨k,G⟩:=r
  exact F.trans E
theorem yK:∀(l:List Pr) (m:Mk) (ps:List (List UInt8)) (od:List Nat),(iG l m ps od).2.2.h.n.length=m.h.n.length
  | [],_,_,_=>rfl
  | x :: r,m,ps,od=>(yK r _ _ _).trans (af8 m x)
theorem LW (m:Mk) (a:List Nat) (n src iJ:Nat):(m.link a n src iJ).2.2.h.n.length=m.h.n.length:=by
  unfold Mk.link
  generalize gy a 0 0 0=r
  obtain⟨A,D⟩:=r
  simp only
  split
  · have B:=rE m (gD {next:=0,aD:=List.replicate (eL (a.length:Int)) 0})
    generalize m.di (gD {next:=0,aD:=List.replicate (eL (a.length:Int)) 0})=r at *
    obtain⟨p,C⟩:=r
    simp only at B ⊢
    split
    · show(C.dV 18 _).h.n.length=_
      simp only[Mk.dV,List.length_set];exact B
    show(C.dV 18 _).h.n.length=_
    simp only[Mk.dV,List.length_set];exact B
  rfl
theorem EJ (e:Nat):∀(od:List Nat) (m:Mk),(kW e od m).h.n.length=m.h.n.length
  | [],_=>rfl
  | i :: r,m=>by
    rw[om,EJ e r]
    unfold kJ
    simp only
    split
    · rfl
    · exact LW m _ _ _ _
theorem yJ (m:Mk) (raw:List Pr) (cu mono:Nat) (bV:Ly):(m.append raw cu mono bV).2.2.h.n.length=m.h.n.length:=by
  rcases hl:kY raw with⟨l,c⟩
  by_cases h2:c≠0
  · have e:m.append raw cu mono bV=(0,c,m):=by unfold Mk.append;simp only[hl];rw[if_pos h2]
    rw[e]
  by_cases h3:m.cP 9=18446744073709551615
  · have e:m.append raw cu mono bV=(0,1,m):=by unfold Mk.append;simp only[hl];rw[if_neg h2,if_pos h3]
    rw[e]
  have D:=yK l m [] []
  rcases hd:iG l m [] []with⟨I,C,x⟩
  rw[hd]at D
  have E:=rE x (e6 {seq:=(x.cP 9+1)%18446744073709551616,cu:=cu,mono:=mono,bV:=bV,xor:=nU 0 I,aD:=jK x C})
  rcases ho:x.di (e6 {seq:=(x.cP 9+1)%18446744073709551616,cu:=cu,mono:=mono,bV:=bV,xor:=nU 0 I,aD:=jK x C})with⟨e,A⟩
  rw[ho]at E
  have F:=LW A A.main (A.cP 8) 176 e
  rcases hk:A.link A.main (A.cP 8) 176 e with⟨a,t,H⟩
  rw[hk]at F
  simp only at D E F
  have B:m.append raw cu mono bV=_:=kI (cu:=cu) (mono:=mono) (bV:=bV) hl h2 h3 hd ho hk q
  have G:=EJ e C (let m4:=({H with main:=a}:Mk).dV 11 (a.getD 0 0);{m4 with h:={m4.h with er:=jX a%4294967296,eB:=t%4294967296}})
  generalize kW e C (let m4:=({H with main:=a}:Mk).dV 11 (a.getD 0 0);{m4 with h:={m4.h with er:=jX a%4294967296,eB:=t%4294967296}})=z at B G
  replace B:m.append raw cu mono bV=if z.c.bY<z.b.length then(0,15,m)else((x.cP 9+1)%18446744073709551616,0,oh z (A.cP 8) ((x.cP 9+1)%18446744073709551616) cu mono e bV):=B
  rw[B]
  split
  · rfl
  show(oh _ _ _ _ _ _ _).h.n.length=_
  rw[(uW _ _ _ _ _ _ _).2.2.2.2.2.2.2.1,G]
  simp only[Mk.dV,List.length_set]
  omega
theorem JC:∀(n:Nat) (s:Sq) (m:Mk) (rs:List Rec),vV m→m.h.n.length=20→vV (jL n s m rs).1∧(jL n s m rs).1.h.n.length=20
  | 0,_,_,_,h,h2=>⟨h,h2⟩
  | n+1,s,m,rs,h,h2=>by
    unfold jL
    split
    · rcases hr:s.record ((m.cP 9+1)%18446744073709551616)with⟨r,s1⟩
      have hb:r.bV.length=16:=by
        have:=zH s ((m.cP 9+1)%18446744073709551616)
        rw[hr]at this;exact this
      have A:=yJ m r.aj r.cu r.mono r.bV
      have B:=xS (raw:=r.aj) (cu:=r.cu) (mono:=r.mono) h hb (A.trans h2)
      rcases ha:m.append r.aj r.cu r.mono r.bV with⟨e,c,C⟩
      rw[ha]at A B
      simp only[ha]
      split
      · exact⟨B,A.trans h2⟩
      · exact JC n s1 C _ B (A.trans h2)
    · exact⟨h,h2⟩
theorem ac2 {s s':Sq} {bY:Nat} {m:Mk} {rs:List Rec} (h:s.pY bY=(m,rs,s')):vV m∧m.h.n.length=20:=by
  have A:=uS s
  rcases h1:s.config with⟨c,B⟩
  rcases h2:B.cP 6 with⟨t,C⟩
  rw[h1]at A
  simp only[Sq.pY,h1,h2]at h
  have:=JC bY C (je c t) [] (xh A.1 A.2.1 A.2.2) q
  rw[h]at this
  exact this
theorem SH {m:Mk} (ok:fP.ok m.h) (hb:m.b.length≤40000):(mG m 1).length≤100000:=by
  unfold mG
  rw[List.length_append,yw {m.h with state:=1,n:=m.h.n.set 1 (m.b.length-272)} m.depth ⟨ok.1,ok.2.1,(by decide:(1:Nat)<9223372036854775808),ok.2.2.2.1,ok.2.2.2.2.1,ok.2.2.2.2.2.1,ok.2.2.2.2.2.2.1,xk ok.2.2.2.2.2.2.2.1 Oh,ok.2.2.2.2.2.2.2.2⟩,List.length_drop]
  omega
end Go.Wk
namespace Go.Wk
open Go Go.RowKit
section
variable {P:Program} {n:Nat} {A:Fr n} {D:List Deferred} {l:List (Nat × Value)} {w:World} {d:Option Tmp} {ty:TypeId} {ps:String} {af:Array Edge} {g:Option (Nat × Bool)}
end
def PC (l:List Int) (bY:Nat):List UInt8:=if(wV l bY).length≤100000 then wV l bY else[]
theorem afu {l:List Int} {bY:Nat} {r:Ly} (h:wV l bY=r) (hl:r.length≤100000):PC l bY=r:=by unfold PC;rw[h,if_pos hl]
theorem aco (l:List Int) (bY:Nat):(PC l bY).length≤100000:=by unfold PC;split<;>simp_all
end Go.Wk
namespace Go.Wk
open Go Go.RowKit
end Go.Wk
namespace Go.Wk
open Go Go.RowKit
def jv (b:Ly) (p n:Nat):List oQ:=(List.range n).map fun i=>{first:=fA b (p+16*i),tail:=fA b (p+16*i+8)}
theorem me (b:Ly) (p n:Nat):(jv b p n).length=n:=by simp[jv]
theorem NE (b:Ly) (p n:Nat):jv b p (n+1)=jv b p n ++ [{first:=fA b (p+16*n),tail:=fA b (p+16*n+8)}]:=by simp[jv,List.range_succ]
def jg (b:Ly) (p:Nat) (k:Int):List oQ × Nat :=
  if ¬(k=4∨k=5)then([],1)
  else if(kz b p k.toNat 0 16).2≠0 then([],(kz b p k.toNat 0 16).2)
  else(jv (kz b p k.toNat 0 16).1 0 ((kz b p k.toNat 0 16).1.length/16),0)
theorem akG {b:Ly} {p:Nat} {k:Int} (h:¬(k=4∨k=5)):jg b p k=([],1):=by unfold jg;rw[if_pos h]
theorem aiT {b x:Ly} {p k c:Nat} (hk:(k:Int)=4∨(k:Int)=5) (h:kz b p k 0 16=(x,c)) (hc:c≠0):jg b p (k:Int)=([],c):=by
  unfold jg;rw[if_neg (fun h=>h hk),Int.toNat_natCast,h,if_pos hc]
theorem aeh {b x:Ly} {p k c:Nat} {l:List oQ} (hk:(k:Int)=4∨(k:Int)=5) (h:kz b p k 0 16=(x,c)) (hc:¬c≠0) (hl:l=jv x 0 (x.length/16)):jg b p (k:Int)=(l,0):=by
  unfold jg;rw[if_neg (fun h=>h hk),Int.toNat_natCast,h,if_neg hc,hl]
theorem aav {x:Ly} {l:List oQ} {m:List Nat} {i n v u:Nat} (hl:l=jv x 0 (i/2)) (hi:i%2=0) (hm:m=gX x 0 n) (hv:m[i]? = some v) (hu:m[i+1]? = some u):l ++ [{first:=v,tail:=u}]=jv x 0 ((i+2)/2):=by
  subst hm
  rw[show(i+2)/2=i/2+1 by omega,NE,hl,(oI hv).1,(oI hu).1,show 0+16*(i/2)=0+8*i by omega,show 0+8*(i+1)=0+8*i+8 by omega]
def nA (n:List Nat) (b:Ly) (k:Int):List oQ × Nat :=
  if(jg b ((if k=4 then n.getD 2 0 else n.getD 4 0)-16) k).2≠0 then([],(jg b ((if k=4 then n.getD 2 0 else n.getD 4 0)-16) k).2)
  else if(jg b ((if k=4 then n.getD 2 0 else n.getD 4 0)-16) k).1.length≠(if k=4 then n.getD 3 0 else n.getD 5 0)/16 then([],14)
  else jg b ((if k=4 then n.getD 2 0 else n.getD 4 0)-16) k
end Go.Wk
namespace Go.Wk
open Go Go.RowKit
end Go.Wk
namespace Go.Wk
open Go Go.RowKit
end Go.Wk
namespace Go.Wk
open Go Go.RowKit
def acE (s:Nat) (b:Ly) (k:Int) (p:Nat):Nat:=if k=4 then(gB s b p).1.cQ else(iV s b p).1.cQ
def tr (s:Nat) (b:Ly) (k:Int) (p:Nat):Nat:=if k=4 then(gB s b p).1.bT else(iV s b p).1.bT
def acF (s:Nat) (b:Ly) (k:Int) (p:Nat):List UInt8:=if k=4 then(gB s b p).1.ak else(iV s b p).1.ak
def uy (s:Nat) (b:Ly) (k:Int) (p:Nat):Nat:=if k=4 then(gB s b p).2 else(iV s b p).2
def bkL (nx cd:Nat→Nat) (len:Nat):Nat→Nat→Nat→List Nat→List Nat × Nat
  | 0,_,_,o=>(o,0)
  | k+1,p,a,o=>if p=0∨len≤p then(o,0)else if p≤a then(o,12)else if cd p≠0 then(o,cd p)else bkL nx cd len k (nx p) p (o ++ [p])
section
variable {nx cd:Nat→Nat} {is:Nat→Bool} {len p a c:Nat} {o:List Nat}
theorem VB (m:Nat):∀(k p a:Nat) (o:List Nat),len-a<k→bkL nx cd len (k+m) p a o=bkL nx cd len k p a o
 | 0,_,_,_,h=>by omega
 | k+1,p,a,o,h=>by
  rw[show k+1+m=(k+m)+1 by omega,bkL,bkL]
  split
  ·rfl
  ·split
   ·rfl
   ·split
    ·rfl
    ·exact VB m k _ _ _ Oh
def KV (nx cd:Nat→Nat) (len p a:Nat) (o:List Nat):List Nat × Nat:=bkL nx cd len (len-a+1) p a o
theorem abh (h:p=0∨len≤p):KV nx cd len p a o=(o,0):=by unfold KV;rw[bkL,if_pos h]
theorem aeH (h:¬(p=0∨len≤p)) (h1:p≤a):KV nx cd len p a o=(o,12):=by unfold KV;rw[bkL,if_neg h,if_pos h1]
theorem ah5 (h:¬(p=0∨len≤p)) (h1:¬p≤a) (h2:cd p=c) (hc:c≠0):KV nx cd len p a o=(o,c):=by subst h2;unfold KV;rw[bkL,if_neg h,if_neg h1,if_pos hc]
theorem agP (h:¬(p=0∨len≤p)) (h1:¬p≤a) (h2:cd p=0) {n:Nat} (hn:nx p=n):KV nx cd len p a o=KV nx cd len n p (o ++ [p]):=by
  subst hn
  unfold KV;rw[bkL,if_neg h,if_neg h1,if_neg Oh]
  rw[show len-a=(len-p+1)+(len-a-(len-p+1))by omega]
  exact VB _ _ _ _ _ Oh
end
def agv:oQ:={first:=0,tail:=0}
theorem ag6 {n:List Nat} {b:Ly} {k:Int} {l:List oQ} {c:Nat} (h:nA n b k=(l,c)) (hc:c=0):0<l.length:=by
  subst hc
  unfold nA at h
  generalize ((if k=4 then n.getD 2 0 else n.getD 4 0)-16)=a at h
  generalize (if k=4 then n.getD 3 0 else n.getD 5 0)/16=m at h
  split at h
  · rename_i h1;exact absurd (congrArg Prod.snd h) h1
  split at h
  · cases h
  unfold jg at h
  split at h
  · cases h
  split at h
  · rename_i h1;exact absurd (congrArg Prod.snd h) h1
  rename_i h1
  rcases hb:kz b a k.toNat 0 16 with⟨x,d⟩
  rw[hb]at h h1
  obtain⟨_,_,A,B,_,C,_⟩:=tJ hb (Classical.not_not.1 h1)
  have e:=congrArg Prod.fst h
  simp only at e
  rw[← e,me]
  omega
theorem ako {s p:Nat} {b:Ly} {k:Int} (h:k=4):acE s b k p=(gB s b p).1.cQ∧tr s b k p=(gB s b p).1.bT∧acF s b k p=(gB s b p).1.ak∧uy s b k p=(gB s b p).2:=by
  unfold acE tr acF uy;rw[if_pos h,if_pos h,if_pos h,if_pos h];exact⟨q,q,q,q⟩
theorem akp {s p:Nat} {b:Ly} {k:Int} (h:¬k=4):acE s b k p=(iV s b p).1.cQ∧tr s b k p=(iV s b p).1.bT∧acF s b k p=(iV s b p).1.ak∧uy s b k p=(iV s b p).2:=by
  unfold acE tr acF uy;rw[if_neg h,if_neg h,if_neg h,if_neg h];exact⟨q,q,q,q⟩
def pP (n:List Nat) (b:Ly) (k cF:Int):List Nat × Nat :=
  if(nA n b k).2≠0 then([],(nA n b k).2)else if cF<0∨((nA n b k).1.length:Int)≤cF then([],2)
  else if(KV (tr (n.getD 0 0) b k) (uy (n.getD 0 0) b k) b.length ((nA n b k).1.getD cF.toNat agv).first 0 []).2≠0 then([],(KV (tr (n.getD 0 0) b k) (uy (n.getD 0 0) b k) b.length ((nA n b k).1.getD cF.toNat agv).first 0 []).2)
  else((KV (tr (n.getD 0 0) b k) (uy (n.getD 0 0) b k) b.length ((nA n b k).1.getD cF.toNat agv).first 0 []).1,0)
section
variable {n:List Nat} {b o nm9 pl:Ly} {k cF:Int} {l:List oQ} {c d h p:Nat} {t:oQ} {x:List Nat}
theorem abk (ht:nA n b k=(l,c)) (hc:c≠0):pP n b k cF=([],c):=by unfold pP;rw[ht];rw[if_pos hc]
theorem O8 (ht:nA n b k=(l,c)) (hc:c=0) (hs:cF<0∨(l.length:Int)≤cF):pP n b k cF=([],2):=by
  subst hc;unfold pP;rw[ht];rw[if_neg Oq,if_pos hs]
theorem AB (ht:nA n b k=(l,c)) (hc:c=0) (h0:0≤cF) (hs:l[cF.toNat]? = some t) (hb:KV (tr (n.getD 0 0) b k) (uy (n.getD 0 0) b k) b.length t.first 0 []=(x,d)):pP n b k cF=if d≠0 then([],d)else(x,0):=by
  have A:=(List.getElem?_eq_some_iff.1 hs).1
  subst hc;unfold pP;rw[ht]
  rw[if_neg Oq,if_neg (by simp only[];omega)]
  have e:l.getD cF.toNat agv=t:=by rw[List.getD_eq_getElem?_getD,hs];rfl
  simp only[e,hb]
end
section
variable {n m:List Nat} (hn:∀i,i<20→m.getD i 0=n.getD i 0) (b:Ly) (k cF:Int) (h:Nat) (pl:Ly)
include hn
end
end Go.Wk
namespace Go.Wk
open Go Go.RowKit
def seg (b:Ly) (p n:Nat):List UInt8:=(b.drop p).take n
theorem AZ {b:Ly} {p n i:Nat} (h:i<n):(seg b p n)[i]? = b[p+i]?:=by
  unfold seg;rw[List.getElem?_take,if_pos h,List.getElem?_drop]
theorem XQ {b:Ly} {p n:Nat} (h:p+n≤b.length):(seg b p n).length=n:=by unfold seg;simp;omega
theorem XP {b c:Ly} {p n:Nat} (h:∀i,i<n→c[p+i]? = b[p+i]?):seg c p n=seg b p n:=by
  apply List.ext_getElem?
  intro i
  by_cases hi:i<n
  · rw[AZ hi,AZ hi,h i hi]
  unfold seg;rw[List.getElem?_take,List.getElem?_take,if_neg hi,if_neg hi]
theorem kr (b:Ly) (p:Nat):fA b p=DW (seg b p 8):=rfl
theorem ND {b:Ly} {p n q k:Nat} (h:q+k≤n):seg (seg b p n) q k=seg b (p+q) k:=by
  unfold seg
  rw[List.drop_take,List.take_take,List.drop_drop,Nat.min_eq_left Oh]
theorem Rw {b l:Ly} {p n q k:Nat} (h:seg b p n=l) (hq:q+k≤n):seg b (p+q) k=seg l q k:=by rw[← h,ND hq]
theorem XO {b o:Ly} {p n:Nat} (h:p+n≤b.length):seg (b ++ o) p n=seg b p n :=
  XP fun i hi=>List.getElem?_append_left Oh
theorem seg_new (b o:Ly):seg (b ++ o) b.length o.length=o:=by unfold seg;rw[List.drop_left,List.take_length]
theorem mQ (x y:Ly) {n:Nat} (h:n=x.length):seg (x ++ y) 0 n=x:=by subst h;simp[seg]
theorem jr {x y:Ly} {p n:Nat} (h:x.length≤p):seg (x ++ y) p n=seg y (p-x.length) n:=by
  unfold seg;rw[List.drop_append,List.drop_eq_nil_of_le h,List.nil_append]
theorem LP (v n:Nat):DW (low v n)=v%256 ^ n:=by
  induction n generalizing v with
  | zero=>simp[low,DW,Nat.mod_one]
  | succ n ih =>
    simp only[low,DW,ih]
    rw[UInt8.toNat_ofNat',show 2 ^ 8=256 from rfl,Nat.mod_mod,Nat.pow_succ,Nat.mul_comm (256 ^ n) 256,Nat.mod_mul]
theorem aeD {v:Nat} (r:Ly) (h:v<18446744073709551616):fA (low v 8 ++ r) 0=v:=by
  rw[kr,mQ _ _ (by rw[jc]),LP]
  exact Nat.mod_eq_of_lt h
theorem iR {x y:Ly} {p:Nat} (h:x.length≤p):fA (x ++ y) p=fA y (p-x.length):=by rw[kr,kr,jr h]
theorem uO {b o:Ly} {p:Nat} (h:p+8≤b.length):fA (b ++ o) p=fA b p:=by rw[kr,kr,XO h]
theorem abd {b l:Ly} {p n q:Nat} (h:seg b p n=l) (hq:q+8≤n):fA b (p+q)=fA l q:=by rw[kr,kr,Rw h hq]
theorem mK:∀{l:List Nat} {r:Ly} {i v:Nat},l[i]? = some v→v<18446744073709551616→fA (nums l ++ r) (8*i)=v
  | [],_,_,_,h,_=>by simp at h
  | x :: l,r,0,v,h,hv=>by
    simp at h;subst h
    rw[nums,List.append_assoc]
    exact aeD _ hv
  | x :: l,r,i+1,v,h,hv=>by
    rw[nums,List.append_assoc,iR (by rw[jc];omega),jc,show 8*(i+1)-8=8*i by omega]
    exact mK (by simpa using h) hv
theorem HM {l:List Nat} {i v:Nat} (h:l[i]? = some v) (hv:v<18446744073709551616):fA (nums l) (8*i)=v:=by
  have:=mK (r:=[]) h hv
  rwa [List.append_nil]at this
theorem QR:∀(n:Nat) (b:Ly) (p v i q:Nat),(HA n b p v i)[q]? = if p+i≤q∧q<p+i+n∧q<b.length then some (UInt8.ofNat (v/2 ^ (8*(q-p))))else b[q]?
  | 0,b,p,v,i,q=>by rw[if_neg Oh];rfl
  | n+1,b,p,v,i,q=>by
    rw[HA,QR n]
    simp only[List.length_set]
    by_cases h:p+(i+1)≤q∧q<p+(i+1)+n∧q<b.length
    · rw[if_pos h,if_pos Oh]
    · rw[if_neg h]
      by_cases hq:q=p+i
      · subst hq
        by_cases hl:p+i<b.length
        · rw[if_pos Oh,List.getElem?_set_self hl,show p+i-p=i by omega]
        · rw[if_neg Oh,List.getElem?_eq_none Vw,List.getElem?_eq_none Oh]
      · rw[if_neg Oh,List.getElem?_set_ne Oh]
theorem QT (b:Ly) (p v q:Nat):(ja b p v)[q]? = if p≤q∧q<p+8∧q<b.length then some (UInt8.ofNat (v/2 ^ (8*(q-p))))else b[q]?:=QR 8 b p v 0 q
theorem XR {b:Ly} {p v q n:Nat} (h:p+8≤q∨q+n≤p):seg (ja b p v) q n=seg b q n :=
  XP fun i hi=>by rw[QT,if_neg Oh]
theorem WL:∀(n v i:Nat),i<n→(low v n)[i]? = some (UInt8.ofNat (v/2 ^ (8*i)))
  | n+1,v,0,_=>by
    simp only[low,List.getElem?_cons_zero,Nat.mul_zero,Nat.pow_zero,Nat.div_one,Option.some.injEq]
    apply UInt8.toNat.inj;simp
  | n+1,v,i+1,h=>by
    simp only[low,List.getElem?_cons_succ]
    rw[WL n (v/256) i Oh,Nat.div_div_eq_div_mul,show 256*2 ^ (8*i)=2 ^ (8*(i+1))by rw[Nat.mul_add,Nat.pow_add,Nat.mul_comm]]
theorem NC {b:Ly} {p v:Nat} (h:p+8≤b.length):seg (ja b p v) p 8=low v 8:=by
  apply List.ext_getElem?
  intro i
  by_cases hi:i<8
  · rw[AZ hi,QT,if_pos Oh,WL 8 v i hi,show p+i-p=i by omega]
  rw[List.getElem?_eq_none (by rw[XQ (by rw[gu];omega)];omega),List.getElem?_eq_none (by rw[jc];omega)]
theorem gJ {b:Ly} {p v q:Nat} (h:p+8≤q∨q+8≤p):fA (ja b p v) q=fA b q:=by rw[kr,kr,XR h]
theorem j9 {b:Ly} {p v:Nat} (h:p+8≤b.length) (hv:v<18446744073709551616):fA (ja b p v) p=v:=by
  rw[kr,NC h,LP]
  exact Nat.mod_eq_of_lt hv
theorem BV {b:Ly} {p i n:Nat} (h:i<n):og b (p+i)=((seg b p n).getD i 0).toNat:=by
  unfold og
  rw[List.getD_eq_getElem?_getD,List.getD_eq_getElem?_getD,AZ h]
structure Eff (S:Nat→Prop) (b c:Ly):Prop where
  len:b.length≤c.length
  seg:∀q n,q+n≤b.length→(∀a,S a→a+8≤q∨q+n≤a)→seg c q n=seg b q n
theorem Eff.refl (S:Nat→Prop) (b:Ly):Eff S b b:=⟨Nat.le_refl _,fun _ _ _ _=>rfl⟩
theorem Eff.trans {S:Nat→Prop} {a b c:Ly} (h:Eff S a b) (k:Eff S b c):Eff S a c :=
  ⟨ly h.len k.len,fun q n hq hs=>(k.seg q n (ly hq h.len) hs).trans (h.seg q n hq hs)⟩
theorem Eff.mono {S T:Nat→Prop} {a b:Ly} (h:Eff S a b) (hs:∀x,S x→T x):Eff T a b:=⟨h.len,fun q n hq ht=>h.seg q n hq fun x hx=>ht x (hs x hx)⟩
theorem Eff.put (b:Ly) (p v:Nat):Eff (fun a=>a=p) b (ja b p v):=⟨by rw[gu];exact Nat.le_refl _,fun q n _ hs=>XR (hs p rfl)⟩
theorem Eff.app (S:Nat→Prop) (b o:Ly):Eff S b (b ++ o):=⟨by simp,fun q n hq _=>XO hq⟩
theorem Eff.fA {S:Nat→Prop} {b c:Ly} {q:Nat} (h:Eff S b c) (hq:q+8≤b.length) (hs:∀a,S a→a+8≤q∨q+8≤a):fA c q=fA b q:=by
  rw[kr,kr,h.seg q 8 hq hs]
end Go.Wk
namespace Go.Wk
open Go Go.RowKit
structure Ob where
  b9:Nat
  kind:Nat
  size:Nat
def mI (n:Nat):Nat:=(n+7)/8*8
theorem eO (n:Nat):n≤mI n∧mI n<n+8∧mI n%8=0:=by unfold mI;omega
def RO (kind size:Nat):List UInt8:=[UInt8.ofNat kind,0,0,0,0,0,0,0] ++ nums [size]
theorem kO (k s:Nat):(RO k s).length=16:=by simp[RO,fV]
theorem xI {k:Nat} {body:Ly} (h:1≤k∧k≤7):qu k body=(RO k (16+body.length) ++ body) ++ List.replicate ((8-(16+body.length)%8)%8) 0:=by
  unfold qu
  rw[if_neg Oh,FH]
  have:([UInt8.ofNat k,0,0,0,0,0,0,0] ++ nums [16+body.length] ++ body).length=16+body.length:=by simp[fV];omega
  rw[this]
  rfl
def gd (b:Ly):Nat→List Ob→Nat→Prop
  | p,[],e=>p=e
  | p,o :: r,e=>o.b9=p∧1≤o.kind∧o.kind≤7∧16≤o.size∧o.size<18446744073709551616∧seg b p 16=RO o.kind o.size∧gd b (p+mI o.size) r e
theorem gd.le {b:Ly}:∀{l:List Ob} {p e:Nat},gd b p l e→p≤e∧(p%8=0→e%8=0)
  | [],_,_,h=>by cases h;exact⟨Nat.le_refl _,id⟩
  | o :: r,p,e,h=>by
    have:=h.2.2.2.2.2.2.le
    have:=eO o.size
    omega
structure ae2 (b:Ly) (p e:Nat) (o:Ob):Prop where
  ge:p≤o.b9
  le:o.b9+mI o.size≤e
  al:p%8=0→o.b9%8=0
  kind:1≤o.kind∧o.kind≤7
  size:16≤o.size∧o.size<18446744073709551616
  hd:seg b o.b9 16=RO o.kind o.size
theorem gd.mem {b:Ly}:∀{l:List Ob} {p e:Nat} {o:Ob},gd b p l e→o∈l→ae2 b p e o
  | [],_,_,_,_,h=>by simp at h
  | x :: r,p,e,o,h,ho=>by
    obtain⟨h1,h2,h3,h4,h5,h6,h7⟩:=h
    have hl:=h7.le
    have hu:=eO x.size
    rcases List.mem_cons.1 ho with rfl|ho
    · subst h1
      exact⟨Nat.le_refl _,hl.1,id,⟨h2,h3⟩,⟨h4,h5⟩,h6⟩
    · obtain⟨g1,g2,g3,g4,g5,g6⟩:=h7.mem ho
      exact⟨by omega,g2,fun hp=>g3 Oh,g4,g5,g6⟩
theorem gd.sep {b:Ly}:∀{l:List Ob} {p e:Nat} {o x:Ob},gd b p l e→o∈l→x∈l→o=x∨o.b9+mI o.size≤x.b9∨x.b9+mI x.size≤o.b9
  | [],_,_,_,_,_,h,_=>by simp at h
  | y :: r,p,e,o,x,h,ho,hx=>by
    obtain⟨h1,h2,h3,h4,h5,h6,h7⟩:=h
    rcases List.mem_cons.1 ho with e1|e1
    · rcases List.mem_cons.1 hx with e2|e2
      · exact .inl (e1.trans e2.symm)
      · have:=(h7.mem e2).ge;subst e1;exact .inr (.inl Oh)
    · rcases List.mem_cons.1 hx with e2|e2
      · have:=(h7.mem e1).ge;subst e2;exact .inr (.inr Oh)
      · exact h7.sep e1 e2
theorem gd.app {b:Ly}:∀{l:List Ob} {p e:Nat} {o:Ob},gd b p l e→o.b9=e→1≤o.kind→o.kind≤7→16≤o.size→o.size<18446744073709551616→seg b e 16=RO o.kind o.size→gd b p (l ++ [o]) (e+mI o.size)
  | [],p,e,o,h,h1,h2,h3,h4,h5,h6=>by cases h;exact⟨h1,h2,h3,h4,h5,h6,q⟩
  | x :: r,p,e,o,h,h1,h2,h3,h4,h5,h6=>by
    obtain⟨g1,g2,g3,g4,g5,g6,g7⟩:=h
    exact⟨g1,g2,g3,g4,g5,g6,g7.app h1 h2 h3 h4 h5 h6⟩
def Body (l:List Ob) (a:Nat):Prop:=a+8≤272∨∃o∈l,o.b9+16≤a∧a+8≤o.b9+mI o.size
theorem gd.mB {b c:Ly} {S:Nat→Prop} {l:List Ob} {p e:Nat} (h:gd b p l e) (k:Eff S b c) (hb:e≤b.length) (hs:∀o∈l,∀a,S a→a+8≤o.b9∨o.b9+16≤a):gd c p l e:=by
  induction l generalizing p with
  | nil=>exact h
  | cons o r ih =>
    have K:=gd.mem (o:=o) h Oq
    obtain⟨A,C,D,E,F,G,B⟩:=h
    have L:=eO o.size
    have J:=B.le
    refine⟨A,C,D,E,F,?_,ih B fun x I=>hs x (by simp[I])⟩
    rw[k.seg p 16 Oh fun a H=>A ▸ hs o Oq a H,G]
theorem gd.body {b:Ly} {l:List Ob} {e:Nat} (h:gd b 272 l e) {a:Nat} (ha:Body l a) {o:Ob} (ho:o∈l):a+8≤o.b9∨o.b9+16≤a:=by
  have B:=h.mem ho
  rcases ha with ha|⟨x,C,D,E⟩
  · have:=B.ge;omega
  have:=eO o.size
  have:=eO x.size
  rcases h.sep ho C with rfl|A|A <;> omega
theorem r6 {b:Ly} {p e:Nat} {o:Ob} (h:ae2 b p e o) (hp:p%8=0) (hb:o.b9+o.size≤b.length):ey b o.b9=({kind:=o.kind,flags:=0,size:=o.size},0):=by
  have A:=h.size.1
  have B:og b o.b9=o.kind:=by
    have:=BV (b:=b) (p:=o.b9) (i:=0) (n:=16) Oh
    rw[Nat.add_zero,h.hd]at this
    rw[this]
    show(UInt8.ofNat o.kind).toNat=_
    have:=h.kind
    rw[UInt8.toNat_ofNat',Nat.mod_eq_of_lt Oh]
  have C:og b (o.b9+1)=0:=by
    have:=BV (b:=b) (p:=o.b9) (i:=1) (n:=16) Oh
    rw[h.hd]at this
    rw[this];rfl
  have D:fA b (o.b9+8)=o.size:=by
    rw[abd h.hd Oh,RO,iR Oq]
    exact HM (l:=[o.size]) (i:=0) q h.size.2
  have hk:=h.kind
  have E:=h.al hp
  unfold ey
  rw[if_neg Oh,if_neg Oh,B,C,D,if_neg Oh,if_neg Oh,if_neg Oh,if_neg Oh]
theorem VD {b:Ly} {p e k ahead iJ:Nat} {o:Ob} (h:ae2 b p e o) (hp:p%8=0) (hb:o.b9+o.size≤b.length) (hk:o.kind=k) (h1:16+ahead<o.size) (h2:(o.size-(16+ahead))%iJ=0):kz b o.b9 k ahead iJ=(seg b (o.b9+16) (o.size-16),0):=by
  unfold kz
  rw[r6 h hp hb]
  simp only
  rw[if_neg Oq,if_neg Oh,if_neg Oh]
  congr 1
  unfold seg
  rw[List.drop_take,show o.b9+o.size-(o.b9+16)=o.size-16 by omega]
theorem acI {b:Ly} {p e k n:Nat} {o:Ob} (h:ae2 b p e o) (hp:p%8=0) (hb:o.b9+o.size≤b.length) (hk:o.kind=k) (h1:16+8*n<o.size):lY b o.b9 k n=(gX b (o.b9+16) n,seg b (o.b9+16+8*n) (o.size-(16+8*n)),0):=by
  have A:=zG (b:=b) (p:=o.b9) (n:=n) (kind:=k) (r6 h hp hb) Oq Lw Lw q
  rw[A,EM Lw Lw,Nat.add_zero]
  congr 2
  unfold seg
  simp only
  rw[List.drop_take,List.drop_take,List.drop_drop,show o.b9+o.size-(o.b9+16)-8*n=o.size-(16+8*n)by omega]
end Go.Wk
namespace Go.Wk
open Go Go.RowKit
def NQ (b:Ly):Nat→Nat→List Nat→List Nat→(List Nat × List Nat) × Nat
  | 0,_,o,k=>((o,k),0)
  | n+1,a,o,k=>if b.length≤a then((o,k),0)else if(ey b a).2≠0 then(([],[]),(ey b a).2)else NQ b n (a+mI (ey b a).1.size) (o ++ [a]) (k ++ [(ey b a).1.kind])
def HV (b:Ly) (a:Nat) (o k:List Nat):(List Nat × List Nat) × Nat:=NQ b (b.length-a+1) a o k
section
variable {b:Ly} {a c:Nat} {o k:List Nat} {f:jm}
theorem OJ:∀(n m a:Nat) (o k:List Nat),b.length<a+n→b.length<a+m→NQ b n a o k=NQ b m a o k
  | 0,0,_,_,_,_,_=>rfl
  | 0,m+1,a,o,k,h,_=>by rw[NQ,NQ,if_pos Oh]
  | n+1,0,a,o,k,_,h=>by rw[NQ,NQ,if_pos Oh]
  | n+1,m+1,a,o,k,h1,h2=>by
    rw[NQ,NQ]
    split
    · rfl
    · split
      · rfl
      · rename_i hb hc
        have:=lN (b:=b) (p:=a) (f:=(ey b a).1) (c:=(ey b a).2) q Oh
        have hu:=eO (ey b a).1.size
        exact OJ n m _ _ _ Oh Oh
theorem abx (h:b.length≤a):HV b a o k=((o,k),0):=by unfold HV;rw[NQ,if_pos h]
theorem ahC (h:¬b.length≤a) (hf:ey b a=(f,c)) (hc:c≠0):HV b a o k=(([],[]),c):=by unfold HV;rw[NQ,if_neg h,hf,if_pos hc]
theorem agQ (h:¬b.length≤a) (hf:ey b a=(f,c)) (hc:¬c≠0):HV b a o k=HV b (a+mI f.size) (o ++ [a]) (k ++ [f.kind]):=by
  have:=lN hf Oh
  have A:=eO f.size
  unfold HV
  rw[NQ,if_neg h,hf,if_neg hc]
  show NQ b (b.length-a) (a+mI f.size) (o ++ [a]) (k ++ [f.kind])=_
  exact OJ _ _ _ _ _ Oh Oh
end
def HT (v:eW) (p:Nat):Nat :=
  if(vA (decide (v.h.bX &&& 4≠0)) v.h.dh (v.h.n.getD 0 0) v.b p).2=0 then(nR (vA (decide (v.h.bX &&& 4≠0)) v.h.dh (v.h.n.getD 0 0) v.b p).1).2 else(vA (decide (v.h.bX &&& 4≠0)) v.h.dh (v.h.n.getD 0 0) v.b p).2
def zo (v:eW) (p:Nat):Nat :=
  if(iV (v.h.n.getD 0 0) v.b p).2≠0 then(iV (v.h.n.getD 0 0) v.b p).2 else if(iV (v.h.n.getD 0 0) v.b p).1.cQ≠eu (decide (v.h.bX &&& 4≠0)) v.h.dh (iV (v.h.n.getD 0 0) v.b p).1.ak then 9 else if fC (iV (v.h.n.getD 0 0) v.b p).1.ak=true then 0 else 20
def qB (b:Ly) (v:eW) (p k:Nat):Nat :=
  if k=1 then HT v p else if k=2 then zo v p else if k=3 then(iv (v.h.n.getD 0 0) v.b p).2 else if k=6 then(iQ (v.h.n.getD 0 0) v.b p).2
  else if k=4∨k=5 then(jg b p ((k:Nat):Int)).2 else 0
theorem adA {k:Bool} {f b:Ly} {s p c:Nat} {x:Ly} (h:vA k f s b p=(x,c)):x.length≤b.length:=by
  have e:=congrArg Prod.fst h
  simp only[vA]at e
  rw[← e]
  exact XF (Prod.ext q rfl:iZ k f s b p=((iZ k f s b p).1,(iZ k f s b p).2))
theorem BZ {v:eW} {p c d:Nat} {x:Ly} {q:Pr} (h:vA (decide (v.h.bX &&& 4≠0)) v.h.dh (v.h.n.getD 0 0) v.b p=(x,c)):(c≠0→HT v p=c)∧(c=0→nR x=(q,d)→HT v p=d):=by
  unfold HT
  rw[h]
  exact⟨fun A=>if_neg A,fun A B=>by simp only;rw[if_pos A,B]⟩
theorem tL {v:eW} {p c:Nat} {f:jw} (h:iV (v.h.n.getD 0 0) v.b p=(f,c)):(c≠0→zo v p=c)∧(c=0→f.cQ≠eu (decide (v.h.bX &&& 4≠0)) v.h.dh f.ak→zo v p=9) ∧
    (c=0→f.cQ=eu (decide (v.h.bX &&& 4≠0)) v.h.dh f.ak→fC f.ak=true→zo v p=0)∧(c=0→f.cQ=eu (decide (v.h.bX &&& 4≠0)) v.h.dh f.ak→fC f.ak=false→zo v p=20):=by
  unfold zo
  rw[h]
  refine⟨fun A=>if_pos A,fun A B=>?_,fun A B C=>?_,fun A B C=>?_⟩
  · simp only;rw[if_neg (by simp[A]),if_pos B]
  · simp only;rw[if_neg (by simp[A]),if_neg (by simp[B]),if_pos C]
  simp only;rw[if_neg (by simp[A]),if_neg (by simp[B]),if_neg (by simp[C])]
def tN (b:Ly) (v:eW):List Nat→List Nat→Nat × Nat
  | p :: ps,k :: ks=>if qB b v p k≠0 then(p,qB b v p k)else tN b v ps ks
  | _,_=>(0,0)
def qq (k:Nat) (l:List Nat):Nat:=(l.filter fun x=>decide (x=k)).length
def OB (n:List Nat) (b:Ly) (k:Int):Nat→Nat→List (List Nat)→List (List Nat) × Nat
  | 0,_,o=>(o,0)
  | m+1,i,o=>if(pP n b k i).2≠0 then([],(pP n b k i).2)else OB n b k m (i+1) (o ++ [(pP n b k i).1])
def nD (n:List Nat) (b:Ly) (k:Int):List (List Nat) × Nat :=
  if(nA n b k).2≠0 then([],(nA n b k).2)else OB n b k (nA n b k).1.length 0 []
def inF (l:List (List Nat)) (h p:Nat):Bool:=decide (p∈l.getD (h%l.length) [])
def sj (v:eW) (ds fs:List (List Nat)):List Nat→List Nat→Nat × Nat
  | p :: ps,k :: ks =>
    if k=1 then(if inF ds (gB (v.h.n.getD 0 0) v.b p).1.cQ p=true then sj v ds fs ps ks else(p,16))
    else if k=2 then(if inF fs (iV (v.h.n.getD 0 0) v.b p).1.cQ p=true then sj v ds fs ps ks else(p,16))
    else sj v ds fs ps ks
  | _,_=>(0,0)
def pR (s:Nat) (b:Ly) (p:Nat):List kV→Nat
  | []=>0
  | x :: r=>if(NR s b x.b9).2≠0 then(NR s b x.b9).2 else if p∈(NR s b x.b9).1 then pR s b p r else 16
def KZ (v:eW) (p:Nat):Nat:=pR (v.h.n.getD 0 0) v.b p (iv (v.h.n.getD 0 0) v.b p).1.aD
def ixG (x:Nat):List Nat→Nat→Int
  | [],_=>-1
  | y :: r,i=>if x=y then((i:Nat):Int)else ixG x r (i+1)
def ixU (l:List Nat) (x:Nat):Int:=ixG x l 0
section
variable {l:List Nat} {x y i:Nat} {z:Int}
theorem afx (h:¬i<l.length):ixG x (l.drop i) i = -1:=by rw[iI Oh];rfl
theorem afz (h:l[i]? = some y) (e:x=y):ixG x (l.drop i) i=((i:Nat):Int):=by rw[eP h,ixG,if_pos e]
theorem aij (h:l[i]? = some y) (e:¬x=y):ixG x (l.drop i) i=ixG x (l.drop (i+1)) (i+1):=by rw[eP h,ixG,if_neg e]
theorem WE:∀(l:List Nat) (i:Nat),(0≤ixG x l i↔x∈l)
  | [],_=>by simp[ixG]
  | y :: r,i=>by
    rw[ixG]
    split
    · rename_i h;subst h;simp
    · rename_i h
      rw[WE r (i+1)]
      simp[h]
theorem afy (h:ixU l x=z):decide (0≤z)=decide (x∈l):=by subst h;exact decide_eq_decide.2 (WE l 0)
end
theorem YT {s p c:Nat} {b:Ly} {f:jw} (h:iV s b p=(f,c)):f.ak.length≤b.length:=by
  have A:∀{d:Nat},(vw,d)=(f,c)→f.ak.length≤b.length:=fun h=>by
    have e:vw=f:=congrArg Prod.fst h
    rw[← e];exact Nat.zero_le _
  unfold iV at h
  split at h
  · exact A h
  unfold lX at h
  split at h
  · exact A h
  split at h
  · exact A h
  split at h
  · exact A h
  have e:=congrArg Prod.fst h
  simp only at e
  rw[← e]
  simp only[List.length_take,List.length_drop]
  omega
section
variable {l:List Nat} {x k i:Nat}
theorem aby (h:¬i<l.length):qq k (l.drop i)=0:=by rw[iI Oh];rfl
theorem abz (h:l[i]? = some x) (e:x=k):qq k (l.drop i)=qq k (l.drop (i+1))+1:=by unfold qq;rw[eP h,List.filter_cons_of_pos (by simpa using e),List.length_cons]
theorem aeV (h:l[i]? = some x) (e:¬x=k):qq k (l.drop i)=qq k (l.drop (i+1)):=by unfold qq;rw[eP h,List.filter_cons_of_neg (by simpa using e)]
theorem aib {c:List (List Nat)} {h p:Nat} {y:List Nat} {r:Bool} (hx:c[h%c.length]? = some y) (hr:decide (p∈y)=r):inF c h p=r:=by
  unfold inF
  rw[List.getD_eq_getElem?_getD,hx]
  exact hr
end
section
variable {n:List Nat} {b:Ly} {k:Int} {l:List oQ} {c m i:Nat} {o:List (List Nat)} {x:List Nat}
theorem HW (h:nA n b k=(l,c)) (hc:c≠0):nD n b k=([],c):=by unfold nD;rw[h,if_pos hc]
theorem tO (h:nA n b k=(l,c)) (hc:c=0):nD n b k=OB n b k l.length 0 []:=by subst hc;unfold nD;rw[h,if_neg Oq]
theorem aeK (h:¬i<m):OB n b k (m-i) i o=(o,0):=by rw[show m-i=0 by omega];rfl
theorem aeJ (h:i<m) (hb:pP n b k ((i:Nat):Int)=(x,c)) (hc:c≠0):OB n b k (m-i) i o=([],c):=by
  rw[show m-i=(m-i-1)+1 by omega,OB,hb,if_pos hc]
theorem ah9 (h:i<m) (hb:pP n b k ((i:Nat):Int)=(x,c)) (hc:c=0):OB n b k (m-i) i o=OB n b k (m-(i+1)) (i+1) (o ++ [x]):=by
  rw[show m-i=(m-(i+1))+1 by omega,OB,hb,if_neg (by simp[hc])]
end
theorem aeI (b:Ly) (p kind ahead iJ:Nat):(kz b p kind ahead iJ).1.length≤b.length:=by
  unfold kz
  split
  · exact Nat.zero_le _
  split
  · exact Nat.zero_le _
  split
  · exact Nat.zero_le _
  simp only[List.length_drop,List.length_take];omega
theorem TQ (b:Ly) (p:Nat) (k:Int):(jg b p k).1.length≤b.length:=by
  unfold jg
  split
  · exact Nat.zero_le _
  split
  · exact Nat.zero_le _
  have:=aeI b p k.toNat 0 16
  simp only[me]
  omega
theorem ag5 {n:List Nat} {b:Ly} {k:Int} {l:List oQ} {c:Nat} (h:nA n b k=(l,c)):l.length≤b.length:=by
  have e:=congrArg Prod.fst h
  simp only at e
  rw[← e]
  unfold nA
  generalize ((if k=4 then n.getD 2 0 else n.getD 4 0)-16)=a
  generalize (if k=4 then n.getD 3 0 else n.getD 5 0)/16=m
  split
  · exact Nat.zero_le _
  split
  · exact Nat.zero_le _
  exact TQ _ _ _
def zT (v:eW) (p:Nat):Rec × Nat:=nW (decide (v.h.bX &&& 4≠0)) v.h.dh (v.h.n.getD 0 0) v.b p
def tP (v:eW) (ats kinds:List Nat):Nat × Nat :=
  if(nD v.h.n v.b 4).2≠0 then(0,(nD v.h.n v.b 4).2)else if(nD v.h.n v.b 5).2≠0 then(0,(nD v.h.n v.b 5).2)else sj v (nD v.h.n v.b 4).1 (nD v.h.n v.b 5).1 ats kinds
def NP (v:eW):List Nat→Nat→Nat→Nat→(Nat × Nat) × Nat × Nat
  | [],_,f,l=>((0,0),f,l)
  | p :: r,i,f,l =>
    if(zT v p).2≠0 then((p,(zT v p).2),f,l)else if(zT v p).1.seq≤l then((p,13),f,l)else if KZ v p≠0 then((p,KZ v p),f,l)
    else NP v r (i+1) (if i=0 then(zT v p).1.seq else f) (zT v p).1.seq
def vE (n:List Nat) (x:(Nat × Nat) × Nat × Nat):Nat × Nat:=if x.1.2≠0 then x.1 else if n.getD 10 0≠x.2.1∨n.getD 9 0<x.2.2 then(0,13)else(0,0)
def YP (v:eW):List Nat × Nat:=VQ (v.h.n.getD 0 0) v.b (v.h.n.getD 8 0) (v.h.n.getD 11 0)
def tK (v:eW) (n:List Nat):Nat × Nat:=if(YP v).2≠0 then(0,(YP v).2)else vE n (NP v (YP v).1 0 0 0)
section
variable {s:Nat} {b:Ly} {p c i:Nat} {l:List kV} {x:kV} {y:List Nat}
theorem YK (h:¬i<l.length):pR s b p (l.drop i)=0:=by rw[iI Oh];rfl
theorem YJ (h:l[i]? = some x) (hf:NR s b x.b9=(y,c)) (hc:c≠0):pR s b p (l.drop i)=c:=by rw[eP h,pR,hf,if_pos hc]
theorem S5 (h:l[i]? = some x) (hf:NR s b x.b9=(y,c)) (hc:c=0) (hp:¬p∈y):pR s b p (l.drop i)=16:=by rw[eP h,pR,hf,if_neg (by simp[hc]),if_neg hp]
theorem abv (h:l[i]? = some x) (hf:NR s b x.b9=(y,c)) (hc:c=0) (hp:p∈y):pR s b p (l.drop i)=pR s b p (l.drop (i+1)):=by rw[eP h,pR,hf,if_neg (by simp[hc]),if_pos hp]
theorem AF {v:eW} {e:gI} (h:iv (v.h.n.getD 0 0) v.b p=(e,c)):KZ v p=pR (v.h.n.getD 0 0) v.b p e.aD:=by unfold KZ;rw[h]
end
section
variable {v:eW} {ds fs:List (List Nat)} {a k:List Nat} {p q c i:Nat} {d:gQ} {f:jw} {r:Bool}
theorem abt (h:¬i<a.length):sj v ds fs (a.drop i) (k.drop i)=(0,0):=by rw[iI Oh];rfl
theorem abr (h:a[i]? = some p) (g:k[i]? = some q) (hq:q=1) (hd:gB (v.h.n.getD 0 0) v.b p=(d,c)) (hr:inF ds d.cQ p=r):sj v ds fs (a.drop i) (k.drop i)=if r=true then sj v ds fs (a.drop (i+1)) (k.drop (i+1))else(p,16):=by
  subst hq;rw[eP h,eP g,sj,if_pos rfl,hd,hr]
theorem abu (h:a[i]? = some p) (g:k[i]? = some q) (h1:¬q=1) (hq:q=2) (hd:iV (v.h.n.getD 0 0) v.b p=(f,c)) (hr:inF fs f.cQ p=r):sj v ds fs (a.drop i) (k.drop i)=if r=true then sj v ds fs (a.drop (i+1)) (k.drop (i+1))else(p,16):=by
  subst hq;rw[eP h,eP g,sj,if_neg h1,if_pos rfl,hd,hr]
theorem ahB (h:a[i]? = some p) (g:k[i]? = some q) (h1:¬q=1) (h2:¬q=2):sj v ds fs (a.drop i) (k.drop i)=sj v ds fs (a.drop (i+1)) (k.drop (i+1)):=by
  rw[eP h,eP g,sj,if_neg h1,if_neg h2]
theorem aeT {x:List (List Nat)} (h:nD v.h.n v.b 4=(x,c)) (hc:c≠0):tP v a k=(0,c):=by unfold tP;rw[h,if_pos hc]
theorem aeU {x y:List (List Nat)} {z:Nat} (h:nD v.h.n v.b 4=(x,c)) (hc:c=0) (h5:nD v.h.n v.b 5=(y,z)) (hz:z≠0):tP v a k=(0,z):=by unfold tP;rw[h,if_neg (by simp[hc]),h5,if_pos hz]
theorem wN {x y:List (List Nat)} {z:Nat} (h:nD v.h.n v.b 4=(x,c)) (hc:c=0) (h5:nD v.h.n v.b 5=(y,z)) (hz:z=0):tP v a k=sj v x y a k:=by unfold tP;rw[h,if_neg (by simp[hc]),h5,if_neg (by simp[hz])]
theorem VE {n:List Nat} {b:Ly} {k:Int}:∀(m i:Nat) (o:List (List Nat)),(OB n b k m i o).2=0→(OB n b k m i o).1.length=o.length+m
  | 0,_,_,_=>rfl
  | m+1,i,o,h=>by
    rw[OB]at h ⊢
    split at h
    · rename_i hc;exact absurd h hc
    · rename_i hc
      rw[if_neg hc,VE m _ _ h,List.length_append,List.length_singleton];omega
theorem HX {n:List Nat} {b:Ly} {k:Int} {x:List (List Nat)} (h:nD n b k=(x,c)) (hc:c=0):0<x.length:=by
  subst hc
  rcases ht:nA n b k with⟨t,e⟩
  by_cases he:e=0
  · rw[tO ht he]at h
    have A:=VE t.length 0 [] (by rw[h])
    rw[h]at A
    have:=ag6 ht he
    simp only[List.length_nil]at A;omega
  rw[HW ht he]at h
  exact absurd (congrArg Prod.snd h) he
end
section
variable {v:eW} {a:List Nat} {p c i f l d:Nat} {r:Rec}
theorem KY (h:¬i<a.length):NP v (a.drop i) i f l=((0,0),f,l):=by rw[iI Oh];rfl
theorem aeM (h:a[i]? = some p) (hr:zT v p=(r,c)) (hc:c≠0):NP v (a.drop i) i f l=((p,c),f,l):=by rw[eP h,NP,hr,if_pos hc]
theorem aeN (h:a[i]? = some p) (hr:zT v p=(r,c)) (hc:c=0) (hl:r.seq≤l):NP v (a.drop i) i f l=((p,13),f,l):=by rw[eP h,NP,hr,if_neg (by simp[hc]),if_pos hl]
theorem abm (h:a[i]? = some p) (hr:zT v p=(r,c)) (hc:c=0) (hl:¬r.seq≤l) (hd:KZ v p=d) (h0:d≠0):NP v (a.drop i) i f l=((p,d),f,l):=by rw[eP h,NP,hr,if_neg (by simp[hc]),if_neg hl,hd,if_pos h0]
theorem abo (h:a[i]? = some p) (hr:zT v p=(r,c)) (hc:c=0) (hl:¬r.seq≤l) (hd:KZ v p=d) (h0:d=0):NP v (a.drop i) i f l=NP v (a.drop (i+1)) (i+1) (if i=0 then r.seq else f) r.seq:=by
  rw[eP h,NP,hr,if_neg (by simp[hc]),if_neg hl,hd,if_neg (by simp[h0])]
theorem S2 {n:List Nat} (h:YP v=(a,c)) (hc:c≠0):tK v n=(0,c):=by unfold tK;rw[h,if_pos hc]
theorem ni {n:List Nat} {x:(Nat × Nat) × Nat × Nat} (h:YP v=(a,c)) (hc:c=0) (hx:NP v a 0 0 0=x):tK v n=vE n x:=by unfold tK;rw[h,if_neg (by simp[hc]),hx]
end
def wA (l:List Nat):Nat:=l.getD (l.length-1) 0
def mL (n ats kinds:List Nat):Bool:=decide (n.getD 7 0=ats.length) && decide (n.getD 8 0=qq 3 kinds) && decide (n.getD 15 0=qq 1 kinds) && decide (n.getD 16 0=qq 2 kinds) && decide (n.getD 17 0=qq 7 kinds) && decide (n.getD 18 0=qq 6 kinds) && decide (n.getD 6 0=wA ats)
theorem nu {l:List Nat} {x:Nat} (h0:0<l.length) (h:l[(((l.length:Nat):Int)-1).toNat]? = some x):wA l=x:=by
  unfold wA
  rw[show(((l.length:Nat):Int)-1).toNat=l.length-1 by omega]at h
  rw[List.getD_eq_getElem?_getD,h];rfl
theorem ot {l:List Nat} (h:¬0<l.length):wA l=0:=by
  have:l=[]:=List.eq_nil_of_length_eq_zero Oh
  subst this;rfl
theorem ZP {b:Ly} {y:eW} (h:lS b=(some y,0)):y.b=b.take y.b.length:=by
  unfold lS at h
  split at h
  · have:=congrArg Prod.fst h;cases this
  have e:=Option.some.inj (congrArg Prod.fst h)
  rw[← e]
  simp only[List.length_take]
  rw[List.take_eq_take_iff]
  omega
theorem ae9 (a:Nat) (h:a<18446744073709551616):(BitVec.ofNat 64 a &&& ~~~(BitVec.ofNat 64 7)).toNat=a/8*8:=by
  have e:(BitVec.ofNat 64 a &&& ~~~(BitVec.ofNat 64 7))=((BitVec.ofNat 64 a) >>> 3) <<< 3:=by
    apply BitVec.eq_of_getLsbD_eq
    intro i A
    have B:Nat.testBit 7 i=decide (i<3):=Nat.testBit_two_pow_sub_one (n:=3) (i:=i)
    simp only[BitVec.getLsbD_and,BitVec.getLsbD_not,BitVec.getLsbD_shiftLeft,BitVec.getLsbD_ushiftRight,BitVec.getLsbD_ofNat,B,A,decide_true,Bool.true_and]
    by_cases h3:i<3
    · simp[h3]
    · simp[h3,show 3+(i-3)=i by omega,A]
  rw[e,BitVec.toNat_shiftLeft,BitVec.toNat_ushiftRight,BitVec.toNat_ofNat,Nat.shiftLeft_eq,Nat.shiftRight_eq_div_pow,Nat.mod_eq_of_lt h]
  exact Nat.mod_eq_of_lt Oh
theorem ak3 {P:Program} {n:Nat} {A:Fr n} {D:List Deferred} {l:List (Nat × Value)} {w:World} {d:Option Tmp} {ty:TypeId} {ps:String} {af:Array Edge} {g:Option (Nat × Bool)} {x y:Operand} {t u:TypeId} {a:Nat} (hx:ev n l x=some (.int .u64 (a:Int))) (hy:ev n l y=some (.int .u64 (((7:Nat):Int)))) (h:a<18446744073709551616) :
    dQ P ⟨d,.binOp .andNot t x y u,ty,ps,af,g⟩ (bw A D l).eval w (.int .u64 ((a/8*8:Nat):Int)):=(QV hx hy).ki (by
  have e:=ae9 a h
  unfold bits
  simp only[BitVec.ofInt_natCast]
  exact(wrapN .u64 _ (show(BitVec.ofNat 64 a &&& ~~~(BitVec.ofNat 64 7)).toNat<18446744073709551616 by rw[e];omega)).trans (congrArg (fun z:Nat=>(z:Int)) e))
theorem ai4 {α:Type} {T:Dt α} {ty:TypeId} {w:World} {Q:Nat→Prop} {v:Value} {x:α} (h:Pt T ty w Q v x):v.oneCell'=true:=by obtain⟨b,c,rfl,_⟩:=h;rfl
section
variable {b c:Ly} {v:eW} {a k:List Nat} {p q i d:Nat}
theorem CB (h:¬i<a.length):tN b v (a.drop i) (k.drop i)=(0,0):=by rw[iI Oh];rfl
theorem abq (h:a[i]? = some p) (g:k[i]? = some q) (hd:qB b v p q=d) (h0:d≠0):tN b v (a.drop i) (k.drop i)=(p,d):=by rw[eP h,eP g,tN,hd,if_pos h0]
theorem aeR (h:a[i]? = some p) (g:k[i]? = some q) (hd:qB b v p q=d) (h0:d=0):tN b v (a.drop i) (k.drop i)=tN b v (a.drop (i+1)) (k.drop (i+1)):=by rw[eP h,eP g,tN,hd,if_neg (by simp[h0])]
theorem VG:∀(n a:Nat) (o k:List Nat),o.length=k.length→(NQ b n a o k).1.1.length=(NQ b n a o k).1.2.length∧(NQ b n a o k).1.1.length≤o.length+n
  | 0,_,_,_,h=>⟨h,Nat.le_refl _⟩
  | n+1,a,o,k,h=>by
    rw[NQ]
    split
    · exact⟨h,Nat.le_add_right _ _⟩
    · split
      · exact⟨rfl,Nat.zero_le _⟩
      · obtain⟨h1,h2⟩:=VG n (a+mI (ey b a).1.size) (o ++ [a]) (k ++ [(ey b a).1.kind]) (by simp[h])
        exact⟨h1,by rw[List.length_append,List.length_singleton]at h2;omega⟩
theorem aeS (b:Ly) (a:Nat):(HV b a [] []).1.1.length=(HV b a [] []).1.2.length∧(HV b a [] []).1.1.length≤b.length+1:=by
  obtain⟨A,B⟩:=VG (b:=b) (b.length-a+1) a [] [] rfl
  exact⟨A,by simp only[List.length_nil]at B;unfold HV;omega⟩
end
end Go.Wk
