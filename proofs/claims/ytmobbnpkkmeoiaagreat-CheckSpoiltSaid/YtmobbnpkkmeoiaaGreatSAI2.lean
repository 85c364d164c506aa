/- Part 2 of what the walk of a law stands on: Types, RefP, HashN, MakerP, MakerQ, FldR, SeqP, Loops2, MakerR, MakerS, Anys, AnyI, FieldQ, FldS, CompR, HeadR, HeadQ, ViewP, RefV, RefV2, AtP, AtQ, AtR, RatP, ImgP, LinkP, LinkQ, LinkV, MakeP, LastP, RecP, AtT, RawP, RawT, ChP, ImT1, ImT2, CkA. No statement is proved here. -/
import Derived.Test.YtmobbnpkkmeoiaaGreatSAI1
set_option linter.unusedVariables false
set_option linter.unusedSimpArgs false
namespace Go.Wk
open Go Go.RowKit
def oZ (l:List Nat):List Value:=[.int .u64 ((l.getD 0 0:Nat):Int),.int .u64 ((l.getD 1 0:Nat):Int),.int .u64 ((l.getD 2 0:Nat):Int),.int .u64 ((l.getD 3 0:Nat):Int),.int .u64 ((l.getD 4 0:Nat):Int),.int .u64 ((l.getD 5 0:Nat):Int),.int .u64 ((l.getD 6 0:Nat):Int),.int .u64 ((l.getD 7 0:Nat):Int),.int .u64 ((l.getD 8 0:Nat):Int),.int .u64 ((l.getD 9 0:Nat):Int),.int .u64 ((l.getD 10 0:Nat):Int),.int .u64 ((l.getD 11 0:Nat):Int),.int .u64 ((l.getD 12 0:Nat):Int),.int .u64 ((l.getD 13 0:Nat):Int),.int .u64 ((l.getD 14 0:Nat):Int),.int .u64 ((l.getD 15 0:Nat):Int),.int .u64 ((l.getD 16 0:Nat):Int),.int .u64 ((l.getD 17 0:Nat):Int),.int .u64 ((l.getD 18 0:Nat):Int),.int .u64 ((l.getD 19 0:Nat):Int)]
theorem sH {l:List Nat} (h:l.length=20):oZ l=l.map fun x=>.int .u64 (x:Int):=by
  apply List.ext_getElem
  · simp[oZ,h]
  intro i C E
  simp[oZ]at C
  simp only[List.getElem_map]
  have B:i<l.length:=by omega
  rcases Nat.lt_or_ge i 7 with D|D
  · rcases(show i=0∨i=1∨i=2∨i=3∨i=4∨i=5∨i=6 by omega)with rfl|rfl|rfl|rfl|rfl|rfl|rfl <;> simp[oZ,List.getD,B]
  skip
  rcases Nat.lt_or_ge i 14 with A|A
  · rcases(show i=7∨i=8∨i=9∨i=10∨i=11∨i=12∨i=13 by omega)with rfl|rfl|rfl|rfl|rfl|rfl|rfl <;> simp[oZ,List.getD,B]
  skip
  rcases(show i=14∨i=15∨i=16∨i=17∨i=18∨i=19 by omega)with rfl|rfl|rfl|rfl|rfl|rfl <;> simp[oZ,List.getD,B]
theorem EJ {l:List Nat} {k v:Nat} (h:l.length=20) (hk:k<20):oZ (l.set k v)=(oZ l).set k (.int .u64 (v:Int)):=by
  rw[sH h,sH (by simpa using h),List.map_set]
def ag3:Dt (List Nat) where
  n:=20
  bn:=by decide
  qd _ _ cs x:=cs=oZ x∧x.length=20∧∀y∈x,y<18446744073709551616
  len:=by rintro _ _ _ _ ⟨rfl,_⟩;rfl
  one:=by
    rintro _ _ _ _ ⟨rfl,h,_⟩ u hu
    rw[sH h]at hu
    obtain⟨x,_,rfl⟩:=List.mem_map.1 hu
    rfl
  md:=fun h _ _=>h
  sub:=fun h _=>h
def pn (l:List Nat):List Value:=[.int .u64 ((l.getD 0 0:Nat):Int),.int .u64 ((l.getD 1 0:Nat):Int),.int .u64 ((l.getD 2 0:Nat):Int),.int .u64 ((l.getD 3 0:Nat):Int),.int .u64 ((l.getD 4 0:Nat):Int),.int .u64 ((l.getD 5 0:Nat):Int),.int .u64 ((l.getD 6 0:Nat):Int),.int .u64 ((l.getD 7 0:Nat):Int),.int .u64 ((l.getD 8 0:Nat):Int),.int .u64 ((l.getD 9 0:Nat):Int),.int .u64 ((l.getD 10 0:Nat):Int),.int .u64 ((l.getD 11 0:Nat):Int),.int .u64 ((l.getD 12 0:Nat):Int),.int .u64 ((l.getD 13 0:Nat):Int),.int .u64 ((l.getD 14 0:Nat):Int),.int .u64 ((l.getD 15 0:Nat):Int),.int .u64 ((l.getD 16 0:Nat):Int),.int .u64 ((l.getD 17 0:Nat):Int),.int .u64 ((l.getD 18 0:Nat):Int),.int .u64 ((l.getD 19 0:Nat):Int),.int .u64 ((l.getD 20 0:Nat):Int)]
theorem wM {l:List Nat} (h:l.length=21):pn l=l.map fun x=>.int .u64 (x:Int):=by
  apply List.ext_getElem
  · simp[pn,h]
  intro i C E
  simp[pn]at C
  simp only[List.getElem_map]
  have B:i<l.length:=by omega
  rcases Nat.lt_or_ge i 7 with D|D
  · rcases(show i=0∨i=1∨i=2∨i=3∨i=4∨i=5∨i=6 by omega)with rfl|rfl|rfl|rfl|rfl|rfl|rfl <;> simp[pn,List.getD,B]
  skip
  rcases Nat.lt_or_ge i 14 with A|A
  · rcases(show i=7∨i=8∨i=9∨i=10∨i=11∨i=12∨i=13 by omega)with rfl|rfl|rfl|rfl|rfl|rfl|rfl <;> simp[pn,List.getD,B]
  skip
  rcases(show i=14∨i=15∨i=16∨i=17∨i=18∨i=19∨i=20 by omega)with rfl|rfl|rfl|rfl|rfl|rfl|rfl <;> simp[pn,List.getD,B]
theorem SI {l:List Nat} {k v:Nat} (h:l.length=21) (hk:k<21):pn (l.set k v)=(pn l).set k (.int .u64 (v:Int)):=by
  rw[wM h,wM (by simpa using h),List.map_set]
def ag4:Dt (List Nat) where
  n:=21
  bn:=by decide
  qd _ _ cs x:=cs=pn x∧x.length=21∧∀y∈x,y<18446744073709551616
  len:=by rintro _ _ _ _ ⟨rfl,_⟩;rfl
  one:=by
    rintro _ _ _ _ ⟨rfl,h,_⟩ u hu
    rw[wM h]at hu
    obtain⟨x,_,rfl⟩:=List.mem_map.1 hu
    rfl
  md:=fun h _ _=>h
  sub:=fun h _=>h
theorem dn {a b:List Value} (h:a.all (fun u=>u.oneCell')=true) (h2:b.all (fun u=>u.oneCell')=true):(a ++ b).all (fun u=>u.oneCell')=true:=by rw[List.all_append,h,h2];rfl
theorem po {v:Value} (h:v.oneCell'=true):[v].all (fun u=>u.oneCell')=true:=by simp[h]
theorem kH (l:Ly):(jS l).all (fun u=>u.oneCell')=true:=List.all_eq_true.2 (AV l)
theorem mh (n:Nat):(List.replicate n 0).length=n∧∀y∈List.replicate n 0,y<18446744073709551616:=⟨by simp,by simp⟩
theorem xD {l:List Nat} {n k v:Nat} (h:l.length=n∧∀y∈l,y<18446744073709551616) (hv:v<18446744073709551616):(l.set k v).length=n∧∀y∈l.set k v,y<18446744073709551616 :=
  ⟨by simpa using h.1,fun y hy=>(List.mem_or_eq_of_mem_set hy).elim (h.2 y) (fun e=>e ▸ hv)⟩
theorem eW {l:List Nat} {n:Nat} (h:l.length=n∧∀y∈l,y<18446744073709551616) (k:Nat):l.getD k 0<18446744073709551616:=by
  rw[List.getD_eq_getElem?_getD]
  cases hk:l[k]? with
  | none=>simp
  | some y=>simpa using h.2 y (List.mem_of_getElem? hk)
structure Pr where
  name:List UInt8
  value:List UInt8
def Pr.cells (x:Pr):List Value :=
  [(str x.name)] ++ ([(str x.value)])
def p8:Dt Pr:=uT (fun x=>(x.name,x.value)) (gQ TT TT)
theorem j8 {w:World} {Q:Nat→Prop} {cs:List Value} {x:Pr} (h:p8.qd w Q cs x):∃(_:True),cs=x.cells:=by
  obtain⟨_,_,rfl,⟨rfl,_⟩,⟨rfl,_⟩⟩:=h
  exact⟨trivial,q⟩
theorem nR {w:World} {Q:Nat→Prop} {x:Pr}:p8.qd w Q (x.cells) x :=
  ⟨_,_,q,⟨q,tV⟩,⟨q,tV⟩⟩
theorem Pr.one {x:Pr}:(x.cells).all (fun u=>u.oneCell')=true:=(dn q q)
structure Rec where
  seq:Nat
  cr:Nat
  mono:Nat
  bV:List UInt8
  aj:List Pr
def Rec.cells (x:Rec) (v0:Value):List Value :=
  [(.int .u64 x.seq)] ++ ([(.int .u64 x.cr)] ++ ([(.int .u64 x.mono)] ++ ((jS x.bV) ++ ([v0]))))
def ag5:Dt Rec:=uT (fun x=>(x.seq,x.cr,x.mono,x.bV,x.aj)) (gQ ec (gQ ec (gQ ec (gQ tId (zh p8)))))
def Rec.ok (x:Rec):Prop:=x.seq<18446744073709551616∧x.cr<18446744073709551616∧x.mono<18446744073709551616∧x.bV.length=16
theorem ag6 {w:World} {Q:Nat→Prop} {x:Rec} {v0:Value} (c0:Rec.ok x) (c1:Ls p8 w Q v0 x.aj):ag5.qd w Q (x.cells v0) x :=
  ⟨_,_,q,⟨q,c0.1⟩,⟨_,_,q,⟨q,c0.2.1⟩,⟨_,_,q,⟨q,c0.2.2.1⟩,⟨_,_,q,⟨q,c0.2.2.2⟩,⟨_,q,c1⟩⟩⟩⟩⟩
theorem Rec.one {x:Rec} {v0:Value} (h0:v0.oneCell'=true):(x.cells v0).all (fun u=>u.oneCell')=true:=(dn q (dn q (dn q (dn (kH _) (po h0)))))
structure Frame where
  kind:Nat
  flags:Nat
  size:Nat
structure gT where
  cQ:Nat
  bT:Nat
  eH:Nat
  entry:Nat
  array:Nat
  bR:Nat
  ak:List UInt8
def gT.cells (x:gT) (v0:Value):List Value :=
  [(.int .u64 x.cQ)] ++ ([(.int .u64 x.bT)] ++ ([(.int .u64 x.eH)] ++ ([(.int .u64 x.entry)] ++ ([(.int .u64 x.array)] ++ ([(.int .u64 x.bR)] ++ ([v0]))))))
def gT.ok (x:gT):Prop:=x.cQ<18446744073709551616∧x.bT<18446744073709551616∧x.eH<18446744073709551616∧x.entry<18446744073709551616∧x.array<18446744073709551616∧x.bR<18446744073709551616
theorem gT.one {x:gT} {v0:Value} (h0:v0.oneCell'=true):(x.cells v0).all (fun u=>u.oneCell')=true:=(dn q (dn q (dn q (dn q (dn q (dn q (po h0)))))))
structure js where
  cQ:Nat
  bT:Nat
  dat:Nat
  ak:List UInt8
def js.cells (x:js) (v0:Value):List Value :=
  [(.int .u64 x.cQ)] ++ ([(.int .u64 x.bT)] ++ ([(.int .u64 x.dat)] ++ ([v0])))
def js.ok (x:js):Prop:=x.cQ<18446744073709551616∧x.bT<18446744073709551616∧x.dat<18446744073709551616
theorem js.one {x:js} {v0:Value} (h0:v0.oneCell'=true):(x.cells v0).all (fun u=>u.oneCell')=true:=(dn q (dn q (dn q (po h0))))
structure kg where
  bn:Nat
  cQ:Nat
def kg.cells (x:kg):List Value :=
  [(.int .u64 x.bn)] ++ ([(.int .u64 x.cQ)])
def sZ:Dt kg:=uT (fun x=>(x.bn,x.cQ)) (gQ ec ec)
def kg.ok (x:kg):Prop:=x.bn<18446744073709551616∧x.cQ<18446744073709551616
theorem vD {w:World} {Q:Nat→Prop} {cs:List Value} {x:kg} (h:sZ.qd w Q cs x):∃(_:True),cs=x.cells∧kg.ok x:=by
  obtain⟨_,_,rfl,⟨rfl,A⟩,⟨rfl,B⟩⟩:=h
  exact⟨trivial,q,⟨A,B⟩⟩
theorem XI {w:World} {Q:Nat→Prop} {x:kg} (c0:kg.ok x):sZ.qd w Q (x.cells) x :=
  ⟨_,_,q,⟨q,c0.1⟩,⟨q,c0.2⟩⟩
theorem kg.one {x:kg}:(x.cells).all (fun u=>u.oneCell')=true:=(dn q q)
structure gH where
  seq:Nat
  cr:Nat
  mono:Nat
  bV:List UInt8
  xor:Nat
  aD:List kg
def gH.cells (x:gH) (v0:Value):List Value :=
  [(.int .u64 x.seq)] ++ ([(.int .u64 x.cr)] ++ ([(.int .u64 x.mono)] ++ ((jS x.bV) ++ ([(.int .u64 x.xor)] ++ ([v0])))))
def gH.ok (x:gH):Prop:=x.seq<18446744073709551616∧x.cr<18446744073709551616∧x.mono<18446744073709551616∧x.bV.length=16∧x.xor<18446744073709551616
theorem gH.one {x:gH} {v0:Value} (h0:v0.oneCell'=true):(x.cells v0).all (fun u=>u.oneCell')=true:=(dn q (dn q (dn q (dn (kH _) (dn q (po h0))))))
structure jv where
  next:Nat
  aD:List Nat
def jv.cells (x:jv) (v0:Value):List Value :=
  [(.int .u64 x.next)] ++ ([v0])
def jv.ok (x:jv):Prop:=x.next<18446744073709551616
theorem jv.one {x:jv} {v0:Value} (h0:v0.oneCell'=true):(x.cells v0).all (fun u=>u.oneCell')=true:=(dn q (po h0))
structure oS where
  first:Nat
  tail:Nat
def oS.cells (x:oS):List Value :=
  [(.int .u64 x.first)] ++ ([(.int .u64 x.tail)])
def HB:Dt oS:=uT (fun x=>(x.first,x.tail)) (gQ ec ec)
def oS.ok (x:oS):Prop:=x.first<18446744073709551616∧x.tail<18446744073709551616
theorem MX {w:World} {Q:Nat→Prop} {cs:List Value} {x:oS} (h:HB.qd w Q cs x):∃(_:True),cs=x.cells∧oS.ok x:=by
  obtain⟨_,_,rfl,⟨rfl,A⟩,⟨rfl,B⟩⟩:=h
  exact⟨trivial,q,⟨A,B⟩⟩
theorem MW {w:World} {Q:Nat→Prop} {x:oS} (c0:oS.ok x):HB.qd w Q (x.cells) x :=
  ⟨_,_,q,⟨q,c0.1⟩,⟨q,c0.2⟩⟩
structure fR where
  iG:Nat
  bW:Nat
  state:Nat
  cG:List UInt8
  eO:List UInt8
  bV:List UInt8
  seq:List UInt8
  n:List Nat
  eu:Nat
  eC:Nat
  eM:Nat
def fR.cells (x:fR):List Value :=
  [(.int .u32 x.iG)] ++ ([(.int .u32 x.bW)] ++ ([(.int .i64 x.state)] ++ ((jS x.cG) ++ ((jS x.eO) ++ ((jS x.bV) ++ ((jS x.seq) ++ ((oZ x.n) ++ ([(.int .u32 x.eu)] ++ ([(.int .u32 x.eC)] ++ ([(.int .u64 x.eM)]))))))))))
def TS:Dt fR:=uT (fun x=>(x.iG,x.bW,x.state,x.cG,x.eO,x.bV,x.seq,x.n,x.eu,x.eC,x.eM)) (gQ tU32 (gQ tU32 (gQ jQ (gQ tId (gQ tId (gQ tId (gQ tId (gQ (ag3) (gQ tU32 (gQ tU32 ec))))))))))
def fR.ok (x:fR):Prop:=x.iG<4294967296∧x.bW<4294967296∧x.state<9223372036854775808∧x.cG.length=16∧x.eO.length=16∧x.bV.length=16∧x.seq.length=16∧(x.n.length=20∧∀y∈x.n,y<18446744073709551616)∧x.eu<4294967296∧x.eC<4294967296∧x.eM<18446744073709551616
theorem aa3 {w:World} {Q:Nat→Prop} {cs:List Value} {x:fR} (h:TS.qd w Q cs x):∃(_:True),cs=x.cells∧fR.ok x:=by
  obtain⟨_,_,rfl,⟨rfl,B⟩,⟨_,_,rfl,⟨rfl,C⟩,⟨_,_,rfl,⟨rfl,D⟩,⟨_,_,rfl,⟨rfl,E⟩,⟨_,_,rfl,⟨rfl,F⟩,⟨_,_,rfl,⟨rfl,G⟩,⟨_,_,rfl,⟨rfl,H⟩,⟨_,_,rfl,⟨rfl,I⟩,⟨_,_,rfl,⟨rfl,J⟩,⟨_,_,rfl,⟨rfl,K⟩,⟨rfl,A⟩⟩⟩⟩⟩⟩⟩⟩⟩⟩⟩:=h
  exact⟨trivial,q,⟨B,C,D,E,F,G,H,I,J,K,A⟩⟩
theorem aa2 {w:World} {Q:Nat→Prop} {x:fR} (c0:fR.ok x):TS.qd w Q (x.cells) x :=
  ⟨_,_,q,⟨q,c0.1⟩,⟨_,_,q,⟨q,c0.2.1⟩,⟨_,_,q,⟨q,c0.2.2.1⟩,⟨_,_,q,⟨q,c0.2.2.2.1⟩,⟨_,_,q,⟨q,c0.2.2.2.2.1⟩,⟨_,_,q,⟨q,c0.2.2.2.2.2.1⟩,⟨_,_,q,⟨q,c0.2.2.2.2.2.2.1⟩,⟨_,_,q,⟨q,c0.2.2.2.2.2.2.2.1⟩,⟨_,_,q,⟨q,c0.2.2.2.2.2.2.2.2.1⟩,⟨_,_,q,⟨q,c0.2.2.2.2.2.2.2.2.2.1⟩,⟨q,c0.2.2.2.2.2.2.2.2.2.2⟩⟩⟩⟩⟩⟩⟩⟩⟩⟩⟩
theorem fR.one {x:fR}:(x.cells).all (fun u=>u.oneCell')=true:=(dn q (dn q (dn q (dn (kH _) (dn (kH _) (dn (kH _) (dn (kH _) (dn q (dn q (dn q q))))))))))
structure bS where
  iG:Nat
  bW:Nat
  state:Nat
  cG:List UInt8
  eO:List UInt8
  bV:List UInt8
  seq:List UInt8
  n:List Nat
  eu:Nat
  eC:Nat
  eM:Nat
def bS.cells (x:bS):List Value :=
  [(.int .u32 x.iG)] ++ ([(.int .u32 x.bW)] ++ ([(.int .i64 x.state)] ++ ((jS x.cG) ++ ((jS x.eO) ++ ((jS x.bV) ++ ((jS x.seq) ++ ((pn x.n) ++ ([(.int .u32 x.eu)] ++ ([(.int .u32 x.eC)] ++ ([(.int .u64 x.eM)]))))))))))
def MV:Dt bS:=uT (fun x=>(x.iG,x.bW,x.state,x.cG,x.eO,x.bV,x.seq,x.n,x.eu,x.eC,x.eM)) (gQ tU32 (gQ tU32 (gQ jQ (gQ tId (gQ tId (gQ tId (gQ tId (gQ (ag4) (gQ tU32 (gQ tU32 ec))))))))))
def bS.ok (x:bS):Prop:=x.iG<4294967296∧x.bW<4294967296∧x.state<9223372036854775808∧x.cG.length=16∧x.eO.length=16∧x.bV.length=16∧x.seq.length=16∧(x.n.length=21∧∀y∈x.n,y<18446744073709551616)∧x.eu<4294967296∧x.eC<4294967296∧x.eM<18446744073709551616
theorem aa1 {w:World} {Q:Nat→Prop} {cs:List Value} {x:bS} (h:MV.qd w Q cs x):∃(_:True),cs=x.cells∧bS.ok x:=by
  obtain⟨_,_,rfl,⟨rfl,B⟩,⟨_,_,rfl,⟨rfl,C⟩,⟨_,_,rfl,⟨rfl,D⟩,⟨_,_,rfl,⟨rfl,E⟩,⟨_,_,rfl,⟨rfl,F⟩,⟨_,_,rfl,⟨rfl,G⟩,⟨_,_,rfl,⟨rfl,H⟩,⟨_,_,rfl,⟨rfl,I⟩,⟨_,_,rfl,⟨rfl,J⟩,⟨_,_,rfl,⟨rfl,K⟩,⟨rfl,A⟩⟩⟩⟩⟩⟩⟩⟩⟩⟩⟩:=h
  exact⟨trivial,q,⟨B,C,D,E,F,G,H,I,J,K,A⟩⟩
theorem aa0 {w:World} {Q:Nat→Prop} {x:bS} (c0:bS.ok x):MV.qd w Q (x.cells) x :=
  ⟨_,_,q,⟨q,c0.1⟩,⟨_,_,q,⟨q,c0.2.1⟩,⟨_,_,q,⟨q,c0.2.2.1⟩,⟨_,_,q,⟨q,c0.2.2.2.1⟩,⟨_,_,q,⟨q,c0.2.2.2.2.1⟩,⟨_,_,q,⟨q,c0.2.2.2.2.2.1⟩,⟨_,_,q,⟨q,c0.2.2.2.2.2.2.1⟩,⟨_,_,q,⟨q,c0.2.2.2.2.2.2.2.1⟩,⟨_,_,q,⟨q,c0.2.2.2.2.2.2.2.2.1⟩,⟨_,_,q,⟨q,c0.2.2.2.2.2.2.2.2.2.1⟩,⟨q,c0.2.2.2.2.2.2.2.2.2.2⟩⟩⟩⟩⟩⟩⟩⟩⟩⟩⟩
theorem bS.one {x:bS}:(x.cells).all (fun u=>u.oneCell')=true:=(dn q (dn q (dn q (dn (kH _) (dn (kH _) (dn (kH _) (dn (kH _) (dn q (dn q (dn q q))))))))))
structure eR where
  b:List UInt8
  h:bS
def eR.cells (x:eR) (v0:Value):List Value :=
  [v0] ++ ((bS.cells x.h))
def fA:Dt eR:=uT (fun x=>(x.b,x.h)) (gQ (zh fF) MV)
def eR.ok (x:eR):Prop:=bS.ok x.h
theorem eL {w:World} {Q:Nat→Prop} {cs:List Value} {x:eR} (h:fA.qd w Q cs x):∃v0,cs=x.cells v0∧eR.ok x∧Ls fF w Q v0 x.b:=by
  obtain⟨_,_,rfl,⟨v0,rfl,B⟩,C⟩:=h
  obtain⟨_,rfl,A⟩:=aa1 C
  exact⟨v0,q,A,B⟩
theorem dV {w:World} {Q:Nat→Prop} {x:eR} {v0:Value} (c0:eR.ok x) (c1:Ls fF w Q v0 x.b):fA.qd w Q (x.cells v0) x :=
  ⟨_,_,q,⟨_,q,c1⟩,(aa0 c0)⟩
structure nV where
  cG:List UInt8
  eO:List UInt8
  seq:List UInt8
  ay:Nat
  aA:Nat
  bY:Nat
  dx:Bool
def nV.cells (x:nV):List Value :=
  (jS x.cG) ++ ((jS x.eO) ++ ((jS x.seq) ++ ([(.int .i64 x.ay)] ++ ([(.int .i64 x.aA)] ++ ([(.int .i64 x.bY)] ++ ([(.bool x.dx)]))))))
def aiM:Dt nV:=uT (fun x=>(x.cG,x.eO,x.seq,x.ay,x.aA,x.bY,x.dx)) (gQ tId (gQ tId (gQ tId (gQ jQ (gQ jQ (gQ jQ ak7))))))
def nV.ok (x:nV):Prop:=x.cG.length=16∧x.eO.length=16∧x.seq.length=16∧x.ay<9223372036854775808∧x.aA<9223372036854775808∧x.bY<9223372036854775808
theorem ag2 {w:World} {Q:Nat→Prop} {cs:List Value} {x:nV} (h:aiM.qd w Q cs x):∃(_:True),cs=x.cells∧nV.ok x:=by
  obtain⟨_,_,rfl,⟨rfl,A⟩,⟨_,_,rfl,⟨rfl,B⟩,⟨_,_,rfl,⟨rfl,C⟩,⟨_,_,rfl,⟨rfl,D⟩,⟨_,_,rfl,⟨rfl,E⟩,⟨_,_,rfl,⟨rfl,F⟩,⟨rfl,_⟩⟩⟩⟩⟩⟩⟩:=h
  exact⟨trivial,q,⟨A,B,C,D,E,F⟩⟩
theorem ag1 {w:World} {Q:Nat→Prop} {x:nV} (c0:nV.ok x):aiM.qd w Q (x.cells) x :=
  ⟨_,_,q,⟨q,c0.1⟩,⟨_,_,q,⟨q,c0.2.1⟩,⟨_,_,q,⟨q,c0.2.2.1⟩,⟨_,_,q,⟨q,c0.2.2.2.1⟩,⟨_,_,q,⟨q,c0.2.2.2.2.1⟩,⟨_,_,q,⟨q,c0.2.2.2.2.2⟩,⟨q,tV⟩⟩⟩⟩⟩⟩⟩
theorem nV.one {x:nV}:(x.cells).all (fun u=>u.oneCell')=true:=(dn (kH _) (dn (kH _) (dn (kH _) (dn q (dn q (dn q q))))))
structure aZ where
  cA:List UInt8
  bn:Nat
  cO:Nat
  bR:Nat
  bw:List Nat
def aZ.cells (x:aZ) (v0:Value):List Value :=
  [(str x.cA)] ++ ([(.int .u64 x.bn)] ++ ([(.int .i64 x.cO)] ++ ([(.int .i64 x.bR)] ++ ([v0]))))
def ep:Dt aZ:=uT (fun x=>(x.cA,x.bn,x.cO,x.bR,x.bw)) (gQ TT (gQ ec (gQ jQ (gQ jQ (zh ec)))))
def aZ.ok (x:aZ):Prop:=x.bn<18446744073709551616∧x.cO<9223372036854775808∧x.bR<9223372036854775808
theorem jE {w:World} {Q:Nat→Prop} {cs:List Value} {x:aZ} (h:ep.qd w Q cs x):∃v0,cs=x.cells v0∧aZ.ok x∧Ls ec w Q v0 x.bw:=by
  obtain⟨_,_,rfl,⟨rfl,_⟩,⟨_,_,rfl,⟨rfl,A⟩,⟨_,_,rfl,⟨rfl,B⟩,⟨_,_,rfl,⟨rfl,C⟩,⟨v0,rfl,D⟩⟩⟩⟩⟩:=h
  exact⟨v0,q,⟨A,B,C⟩,D⟩
theorem su {w:World} {Q:Nat→Prop} {x:aZ} {v0:Value} (c0:aZ.ok x) (c1:Ls ec w Q v0 x.bw):ep.qd w Q (x.cells v0) x :=
  ⟨_,_,q,⟨q,tV⟩,⟨_,_,q,⟨q,c0.1⟩,⟨_,_,q,⟨q,c0.2.1⟩,⟨_,_,q,⟨q,c0.2.2⟩,⟨_,q,c1⟩⟩⟩⟩⟩
theorem aZ.one {x:aZ} {v0:Value} (h0:v0.oneCell'=true):(x.cells v0).all (fun u=>u.oneCell')=true:=(dn q (dn q (dn q (dn q (po h0)))))
structure Mk where
  c:nV
  h:fR
  depth:Nat
  b:List UInt8
  ai:List aZ
  aj:List aZ
  main:List Nat
def Mk.cells (x:Mk) (v0:Value) (v1:Value) (v2:Value) (v3:Value):List Value :=
  (nV.cells x.c) ++ ((fR.cells x.h) ++ ([(.int .u64 x.depth)] ++ ([v0] ++ ([v1] ++ ([v2] ++ ([v3]))))))
def tMk:Dt Mk:=uT (fun x=>(x.c,x.h,x.depth,x.b,x.ai,x.aj,x.main)) (gQ aiM (gQ TS (gQ ec (gQ (zh fF) (gQ (zh ep) (gQ (zh ep) (zh ec)))))))
def Mk.ok (x:Mk):Prop:=nV.ok x.c∧fR.ok x.h∧x.depth<18446744073709551616
theorem aiO {w:World} {Q:Nat→Prop} {cs:List Value} {x:Mk} (h:tMk.qd w Q cs x):∃v0 v1 v2 v3,cs=x.cells v0 v1 v2 v3∧Mk.ok x∧Ls fF w Q v0 x.b∧Ls ep w Q v1 x.ai∧Ls ep w Q v2 x.aj∧Ls ec w Q v3 x.main:=by
  obtain⟨_,_,rfl,C,⟨_,_,rfl,D,⟨_,_,rfl,⟨rfl,E⟩,⟨_,_,rfl,⟨v0,rfl,F⟩,⟨_,_,rfl,⟨v1,rfl,G⟩,⟨_,_,rfl,⟨v2,rfl,H⟩,⟨v3,rfl,I⟩⟩⟩⟩⟩⟩⟩:=h
  obtain⟨_,rfl,A⟩:=ag2 C
  obtain⟨_,rfl,B⟩:=aa3 D
  exact⟨v0,v1,v2,v3,q,⟨A,B,E⟩,F,G,H,I⟩
theorem aiN {w:World} {Q:Nat→Prop} {x:Mk} {v0:Value} {v1:Value} {v2:Value} {v3:Value} (c0:Mk.ok x) (c1:Ls fF w Q v0 x.b) (c2:Ls ep w Q v1 x.ai) (c3:Ls ep w Q v2 x.aj) (c4:Ls ec w Q v3 x.main):tMk.qd w Q (x.cells v0 v1 v2 v3) x :=
  ⟨_,_,q,(ag1 c0.1),⟨_,_,q,(aa2 c0.2.1),⟨_,_,q,⟨q,c0.2.2⟩,⟨_,_,q,⟨_,q,c1⟩,⟨_,_,q,⟨_,q,c2⟩,⟨_,_,q,⟨_,q,c3⟩,⟨_,q,c4⟩⟩⟩⟩⟩⟩⟩
theorem Mk.one {x:Mk} {v0:Value} {v1:Value} {v2:Value} {v3:Value} (h0:v0.oneCell'=true) (h1:v1.oneCell'=true) (h2:v2.oneCell'=true) (h3:v3.oneCell'=true):(x.cells v0 v1 v2 v3).all (fun u=>u.oneCell')=true:=(dn (nV.one) (dn (fR.one) (dn q (dn (po h0) (dn (po h1) (dn (po h2) (po h3)))))))
structure Sq where
  l:List Int
  bn:Nat
def Sq.cells (x:Sq) (v0:Value):List Value :=
  [v0] ++ ([(.int .i64 x.bn)])
def Sq.ok (x:Sq):Prop:=x.bn<9223372036854775808
end Go.Wk
namespace Go.Wk
open Go Go.RowKit
def low:Nat→Nat→List UInt8
  | _,0=>[]
  | v,n+1=>UInt8.ofNat (v%256) :: low (v/256) n
theorem iX (v n:Nat):(low v n).length=n:=by
  induction n generalizing v with
  | zero=>rfl
  | succ n ih=>simp[low,ih]
def nums:List Nat→List UInt8
  | []=>[]
  | v :: r=>low v 8 ++ nums r
theorem fV (l:List Nat):(nums l).length=8*l.length:=by
  induction l with
  | nil=>rfl
  | cons v r ih=>simp[nums,iX,ih];omega
theorem PD (v:Nat) {n i:Nat} (h:i<n):low v (n-i)=UInt8.ofNat (v%256) :: low (v/256) (n-(i+1)):=by
  rw[show n-i=(n-(i+1))+1 by omega];rfl
theorem VT (v:Nat) {n i:Nat} (h:¬i<n):low v (n-i)=[]:=by
  rw[show n-i=0 by omega];rfl
theorem ZH {l:List Nat} {i x:Nat} (h:l[i]? = some x):nums (l.drop i)=low x 8 ++ nums (l.drop (i+1)):=by rw[eN h];rfl
theorem PU {l:List Nat} {i:Nat} (h:¬i<l.length):nums (l.drop i)=[]:=by rw[iL Oh];rfl
def FE (l:Ly):List UInt8:=l ++ List.replicate ((8-l.length%8)%8) 0
theorem ZP {l:Ly} (h:l.length%8≠0):FE l=FE (l ++ [0]):=by
  unfold FE
  rw[List.append_assoc,List.length_append]
  congr 1
  rw[show(8-l.length%8)%8=(8-(l.length+[(0:UInt8)].length)%8)%8+1 by simp;omega,List.replicate_succ]
  rfl
theorem ad3 {l:Ly} (h:l.length%8=0):FE l=l:=by simp[FE,h]
theorem ad4 (l:Ly):(FE l).length=(l.length+7)/8*8:=by simp[FE];omega
def qp (kind:Nat) (body:Ly):List UInt8 :=
  if kind<1∨7<kind then[]else FE ([UInt8.ofNat kind,0,0,0,0,0,0,0] ++ nums [16+body.length] ++ body)
def jc (d:gT):List UInt8:=qp 1 (nums [d.cQ,d.bT,d.eH,d.entry,d.array,d.bR] ++ d.ak)
def iv (d:js):List UInt8:=qp 2 (nums [d.cQ,d.bT,d.dat] ++ d.ak)
def gE (a:jv):List UInt8:=qp 6 (nums [a.next] ++ nums a.aD)
def qg:List oS→List UInt8
  | []=>[]
  | s :: r=>nums [s.first,s.tail] ++ qg r
def fE (kind:Nat) (l:List oS):List UInt8:=if kind≠4∧kind≠5 then[]else qp kind (qg l)
def lQ:List kg→List UInt8
  | []=>[]
  | s :: r=>nums [s.bn,s.cQ] ++ lQ r
def eA (e:gH):List UInt8:=qp 3 (nums [e.seq,e.cr,e.mono] ++ e.bV ++ nums [e.xor] ++ lQ e.aD)
def xg (h:fR) (depth:Nat):List UInt8 :=
  [76,80,75,83,72,72,82,72] ++ low h.iG 4 ++ low h.bW 4 ++ [UInt8.ofNat h.state,0,0,0,0,0,0,0] ++ h.cG ++ h.eO ++ h.bV ++ h.seq ++ nums h.n ++ nums [depth] ++ low h.eu 4 ++ low h.eC 4 ++ nums [h.eM]
theorem uK {k:Nat} {b:Ly} (h:1≤k∧k≤7):(qp k b).length=(16+b.length+7)/8*8:=by
  unfold qp
  rw[if_neg Oh,ad4]
  simp[fV]
  omega
theorem TL {l:List oS} {i:Nat} {x:oS} (h:l[i]? = some x):qg (l.drop i)=nums [x.first,x.tail] ++ qg (l.drop (i+1)):=by rw[eN h];rfl
theorem JX {l:List oS} {i:Nat} (h:¬i<l.length):qg (l.drop i)=[]:=by rw[iL Oh];rfl
theorem aav (l:List oS):(qg l).length=16*l.length:=by
  induction l with
  | nil=>rfl
  | cons v r ih=>simp[qg,fV,ih];omega
theorem S5 {l:List kg} {i:Nat} {x:kg} (h:l[i]? = some x):lQ (l.drop i)=nums [x.bn,x.cQ] ++ lQ (l.drop (i+1)):=by rw[eN h];rfl
theorem IK {l:List kg} {i:Nat} (h:¬i<l.length):lQ (l.drop i)=[]:=by rw[iL Oh];rfl
theorem vr (l:List kg):(lQ l).length=16*l.length:=by
  induction l with
  | nil=>rfl
  | cons v r ih=>simp[lQ,fV,ih];omega
theorem xN (d:gT):(jc d).length=(16+(48+d.ak.length)+7)/8*8:=by unfold jc;rw[uK Oh];simp[fV]
theorem vX (d:js):(iv d).length=(16+(24+d.ak.length)+7)/8*8:=by unfold iv;rw[uK Oh];simp[fV]
theorem vW (a:jv):(gE a).length=(16+(8+8*a.aD.length)+7)/8*8:=by unfold gE;rw[uK Oh];simp[fV]
theorem mH (e:gH) (h:e.bV.length=16):(eA e).length=(16+(48+16*e.aD.length)+7)/8*8:=by unfold eA;rw[uK Oh];simp[fV,vr,h];omega
theorem vY (kind:Nat) (l:List oS) (h:kind=4∨kind=5):(fE kind l).length=(16+16*l.length+7)/8*8:=by unfold fE;rw[if_neg Oh,uK Oh,aav]
theorem nI (kind:Nat) (l:List oS):(fE kind l).length≤24+16*l.length∧(kind=4∨kind=5→(fE kind l).length=(16+16*l.length+7)/8*8):=by
  refine⟨?_,fun h=>vY kind l h⟩
  by_cases h:kind=4∨kind=5
  · rw[vY kind l h];omega
  unfold fE;rw[if_pos Oh];simp
theorem aal {h:fR} {j v:Nat} (hn:h.n.length=20) (hj:j<20):(fR.cells h).set (67+j) (.int .u64 v)=fR.cells {h with n:=h.n.set j v}:=by
  have e:∀(m:List Nat) (t:fR),t.n=m→fR.cells t=([(.int .u32 t.iG)] ++ ([(.int .u32 t.bW)] ++ ([(.int .i64 t.state)] ++ ((jS t.cG) ++ ((jS t.eO) ++ ((jS t.bV) ++ (jS t.seq))))))) ++ (oZ m ++ ([(.int .u32 t.eu)] ++ ([(.int .u32 t.eC)] ++ [(.int .u64 t.eM)]))):=by
    intro m t C;subst C;simp only[fR.cells,List.append_assoc]
  rw[e h.n h q,e (h.n.set j v) {h with n:=h.n.set j v} q,EJ hn hj]
  have B:([(.int .u32 h.iG)] ++ ([(.int .u32 h.bW)] ++ ([(.int .i64 h.state)] ++ ((jS h.cG) ++ ((jS h.eO) ++ ((jS h.bV) ++ (jS h.seq)))))):List Value).length=67:=rfl
  have A:(oZ h.n).length=20:=rfl
  rw[List.set_append_right _ _ Oh,B,Nat.add_sub_cancel_left,List.set_append_left _ _ Oh]
end Go.Wk
namespace Go.Wk
open Go Go.RowKit
theorem HM (op:BinOp) (a b:Int):0≤bits op .u64 a b∧bits op .u64 a b<18446744073709551616:=by
  unfold bits
  cases op <;> simp only[NA] <;> omega
theorem WO (t:T3):0≤pack t∧pack t<18446744073709551616:=HM _ _ _
theorem aco:∀(k:Nat) (t:T3) (l:Ly),0≤ng k t l∧ng k t l<18446744073709551616
  | 0,t,l=>by unfold ng;split<;>exact WO _
  | k+1,t,l=>by
    unfold ng
    split
    · exact aco k _ _
    · split<;>exact WO _
theorem vv (l:Ly):0≤lookup l∧lookup l<18446744073709551616:=aco _ _ _
theorem adY (key l:Ly):0≤sip key l∧sip key l<18446744073709551616:=by
  unfold sip FZ S4.all mA
  exact HM _ _ _
def rI (l:Ly):Nat:=(lookup l).toNat
def dW (k:Bool) (key l:Ly):Nat:=if k then(sip key l).toNat else rI l
theorem DI (k:Bool) (key l:Ly):((dW k key l:Nat):Int)=if k then sip key l else lookup l:=by
  unfold dW rI
  have A:=vv l
  have B:=adY key l
  cases k <;> simp <;> omega
theorem DJ (k:Bool) (key l:Ly):dW k key l<18446744073709551616:=by
  have B:=vv l
  have C:=adY key l
  have A:=DI k key l
  cases k <;> simp at A <;> omega
theorem PC (l:Ly):((rI l:Nat):Int)=lookup l:=by have A:=vv l;unfold rI;omega
theorem EB (l:Ly):rI l<18446744073709551616:=by have A:=vv l;unfold rI;omega
def nk (v:Nat):List (List UInt8)→Nat
  | []=>v
  | b :: r=>nk (v ^^^ rI b) r
theorem Rx {v:Nat} {l:List (List UInt8)} {i:Nat} {x:Ly} (h:l[i]? = some x):nk v (l.drop i)=nk (v ^^^ rI x) (l.drop (i+1)):=by rw[eN h];rfl
theorem AZ {v:Nat} {l:List (List UInt8)} {i:Nat} (h:¬i<l.length):nk v (l.drop i)=v:=by rw[iL Oh];rfl
theorem GN {a b:Nat} (ha:a<18446744073709551616) (hb:b<18446744073709551616):a ^^^ b<18446744073709551616:=Nat.xor_lt_two_pow (n:=64) ha hb
def ak (p:Pr):List UInt8:=p.name ++ [61] ++ p.value
theorem kP (p:Pr):(ak p).length=p.name.length+1+p.value.length:=by simp[ak];omega
end Go.Wk
namespace Go.Wk
open Go Go.RowKit
def eP (k:Int):Nat:=if k<0 then 0 else if 6<k then 256 else min (4*2 ^ k.toNat) 256
def GY:Nat→List UInt8→Nat→Nat→Nat→List UInt8
  | 0,b,_,_,_=>b
  | n+1,b,p,v,i=>GY n (b.set (p+i) (UInt8.ofNat (v/2 ^ (8*i)))) p v (i+1)
def iV (b:Ly) (p v:Nat):List UInt8:=GY 8 b p v 0
theorem adA (n:Nat) (b:Ly) (p v i:Nat):(GY n b p v i).length=b.length:=by
  induction n generalizing b i with
  | zero=>rfl
  | succ n ih=>simp[GY,ih]
theorem gq (b:Ly) (p v:Nat):(iV b p v).length=b.length:=adA 8 b p v 0
def Mk.put (m:Mk) (p v:Nat):Mk:={m with b:=iV m.b p v}
theorem kU (m:Mk) (p v:Nat):(m.put p v).b.length=m.b.length:=gq _ _ _
theorem ZU {n i:Nat} {b:Ly} {p v:Nat} (h:i<n):GY (n-i) b p v i=GY (n-(i+1)) (b.set (p+i) (UInt8.ofNat (v/2 ^ (8*i)))) p v (i+1):=by
  rw[show n-i=(n-(i+1))+1 by omega];rfl
theorem ad9 {n i:Nat} {b:Ly} {p v:Nat} (h:¬i<n):GY (n-i) b p v i=b:=by rw[show n-i=0 by omega];rfl
def Mk.dX (m:Mk) (k v:Nat):Mk:={m with h:={m.h with n:=m.h.n.set k v}}
def Mk.cT (m:Mk) (k:Nat):Nat:=m.h.n.getD k 0
def Mk.di (m:Mk) (o:Ly):Nat × Mk :=
  let m1:={m with b:=m.b ++ o}
  let m29:=m1.dX 6 m.b.length
  (m.b.length,m29.dX 7 ((m29.cT 7+1)%18446744073709551616))
def nU (cO:Nat):List aZ→Nat→Nat→Nat × Nat
  | [],n,q=>(n,q)
  | k :: r,n,q=>if k.cO=cO then nU cO r (n+1) k.bn else nU cO r n q
def Mk.hang (m:Mk) (l:List aZ) (table p cO:Nat):Nat × Mk :=
  match nU cO l 0 0 with
  | (n,q)=>(n,(if n=0 then m.put (table+16*cO) p else m.put (q+24) p).put (table+16*cO+8) p)
def p7 (name:Ly):List aZ→Option Nat
  | []=>none
  | k :: r=>if k.cA=name then some k.bn else p7 name r
def nC (s:Ly):List aZ→Nat→Option Nat
  | [],_=>none
  | k :: r,i=>if k.cA=s then some i else nC s r (i+1)
def Mk.field (m:Mk) (name:Ly):Nat × Mk :=
  match p7 name m.aj with
  | some p=>(p,m)
  | none =>
    match m.di (iv {cQ:=dW m.c.dx m.c.cG name,bT:=0,dat:=0,ak:=name})with
    | (p,m1)=>match m1.hang m1.aj (m1.cT 4) p (dW m.c.dx m.c.cG name%m1.c.aA)with
      | (n,m29) =>
        let m3:={m29 with depth:=max m1.depth n}
        let m4:=m3.dX 16 ((m3.cT 16+1)%18446744073709551616)
        (p,{m4 with aj:=m4.aj ++ [({cA:=name,bn:=p,cO:=dW m.c.dx m.c.cG name%m1.c.aA,bR:=0,bw:=[]}:aZ)]})
def Mk.data (m:Mk) (x:Pr):Nat × Mk :=
  match nC (ak x) m.ai 0 with
  | some i=>(i,m)
  | none =>
    match m.di (jc {cQ:=dW m.c.dx m.c.cG (ak x),bT:=0,eH:=0,entry:=0,array:=0,bR:=0,ak:=ak x})with
    | (p,m1)=>match m1.hang m1.ai (m1.cT 2) p (dW m.c.dx m.c.cG (ak x)%m1.c.ay)with
      | (n,m29) =>
        let m3:=m29.dX 19 (max (m29.cT 19) n)
        let m4:=m3.dX 15 ((m3.cT 15+1)%18446744073709551616)
        let m5:={m4 with ai:=m4.ai ++ [({cA:=ak x,bn:=p,cO:=dW m.c.dx m.c.cG (ak x)%m1.c.ay,bR:=0,bw:=[]}:aZ)]}
        match m5.field x.name with
        | (k,m6) =>
          let m7:=m6.put (p+32) (mE m6.b (k+32:Nat) 8).1
          let m8:=m7.put (k+32) p
          (m8.ai.length-1,m8)
theorem aaq (m:Mk) (k v:Nat):(m.dX k v).b=m.b∧(m.dX k v).c=m.c∧(m.dX k v).ai=m.ai∧(m.dX k v).aj=m.aj∧(m.dX k v).main=m.main:=⟨q,q,q,q,q⟩
theorem bB {l:List Nat} {i j v:Nat} (h:i≠j):(l.set i v).getD j 0=l.getD j 0:=by simp[List.getD,List.getElem?_set_ne h]
theorem er {m:Mk} {k v j:Nat} (h:k≠j):(m.dX k v).cT j=m.cT j:=bB h
theorem iM (m:Mk) (o:Ly):(m.di o).1=m.b.length∧(m.di o).2.b.length=m.b.length+o.length∧(m.di o).2.c.ay=m.c.ay∧(m.di o).2.c.aA=m.c.aA∧(m.di o).2.ai.length=m.ai.length∧(m.di o).2.aj.length=m.aj.length ∧
    (m.di o).2.h.n.getD 2 0=m.h.n.getD 2 0∧(m.di o).2.h.n.getD 4 0=m.h.n.getD 4 0 :=
  ⟨q,by simp[Mk.di,Mk.dX],q,q,q,q,by simp only[Mk.di,Mk.dX];rw[bB Om,bB Om],by simp only[Mk.di,Mk.dX];rw[bB Om,bB Om]⟩
theorem fC (m:Mk) (o:Ly):(m.di o).2.c=m.c∧(m.di o).2.ai=m.ai∧(m.di o).2.aj=m.aj∧(m.di o).2.main=m.main:=⟨q,q,q,q⟩
theorem jZ (m:Mk) (p v:Nat):(m.put p v).b.length=m.b.length∧(m.put p v).c.ay=m.c.ay∧(m.put p v).c.aA=m.c.aA∧(m.put p v).ai.length=m.ai.length∧(m.put p v).aj.length=m.aj.length ∧
    (m.put p v).h.n.getD 2 0=m.h.n.getD 2 0∧(m.put p v).h.n.getD 4 0=m.h.n.getD 4 0:=⟨gq _ _ _,q,q,q,q,q,q⟩
theorem AI (m:Mk) (l:List aZ) (table p cO:Nat):(m.hang l table p cO).2={m with b:=(m.hang l table p cO).2.b}∧(m.hang l table p cO).2.b.length=m.b.length:=by
  unfold Mk.hang
  generalize nU cO l 0 0=r
  obtain⟨n,q⟩:=r
  simp only
  split
  · exact⟨rfl,by rw[kU,kU]⟩
  exact⟨rfl,by rw[kU,kU]⟩
theorem vq (m:Mk) (l:List aZ) (table p cO:Nat):(m.hang l table p cO).2.b.length=m.b.length∧(m.hang l table p cO).2.c.ay=m.c.ay∧(m.hang l table p cO).2.c.aA=m.c.aA∧(m.hang l table p cO).2.ai.length=m.ai.length∧(m.hang l table p cO).2.aj.length=m.aj.length ∧
    (m.hang l table p cO).2.h.n.getD 2 0=m.h.n.getD 2 0∧(m.hang l table p cO).2.h.n.getD 4 0=m.h.n.getD 4 0:=by
  obtain⟨A,B⟩:=AI m l table p cO
  refine⟨B,?_,?_,?_,?_,?_,?_⟩ <;> rw[A]
theorem iU (m:Mk) (l:List aZ) (table p cO:Nat):(m.hang l table p cO).2.c=m.c∧(m.hang l table p cO).2.ai=m.ai∧(m.hang l table p cO).2.aj=m.aj∧(m.hang l table p cO).2.main=m.main∧(m.hang l table p cO).2.depth=m.depth∧(m.hang l table p cO).2.h=m.h:=by
  have A:=(AI m l table p cO).1
  refine⟨?_,?_,?_,?_,?_,?_⟩ <;> rw[A]
theorem II {cO i n q:Nat} {l:List aZ} {x:aZ} (h:l[i]? = some x):nU cO (l.drop i) n q=if x.cO=cO then nU cO (l.drop (i+1)) (n+1) x.bn else nU cO (l.drop (i+1)) n q:=by rw[eN h];rfl
theorem xf {cO i n q:Nat} {l:List aZ} (h:¬i<l.length):nU cO (l.drop i) n q=(n,q):=by rw[iL Oh];rfl
theorem CS {s:Ly} {i:Nat} {l:List aZ} {x:aZ} (h:l[i]? = some x):p7 s (l.drop i)=if x.cA=s then some x.bn else p7 s (l.drop (i+1)):=by rw[eN h];rfl
theorem yt {s:Ly} {i:Nat} {l:List aZ} (h:¬i<l.length):p7 s (l.drop i)=none:=by rw[iL Oh];rfl
theorem CQ {s:Ly} {i j:Nat} {l:List aZ} {x:aZ} (h:l[i]? = some x):nC s (l.drop i) j=if x.cA=s then some j else nC s (l.drop (i+1)) (j+1):=by rw[eN h];rfl
theorem yo {s:Ly} {i j:Nat} {l:List aZ} (h:¬i<l.length):nC s (l.drop i) j=none:=by rw[iL Oh];rfl
def Mk.fit (m:Mk):Prop:=1≤m.c.ay∧m.c.ay≤64∧1≤m.c.aA∧m.c.aA≤64∧m.h.n.getD 2 0+16*m.c.ay≤m.b.length∧m.h.n.getD 4 0+16*m.c.aA≤m.b.length ∧
  (∀k∈m.ai,k.bn+64≤m.b.length)∧(∀k∈m.aj,k.bn+40≤m.b.length)
theorem pU {m m':Mk} (h:m.fit) (h1:m'.c.ay=m.c.ay∧m'.c.aA=m.c.aA∧m'.h.n.getD 2 0=m.h.n.getD 2 0∧m'.h.n.getD 4 0=m.h.n.getD 4 0∧m.b.length≤m'.b.length)
    (hd:∀k∈m'.ai,k∈m.ai∨k.bn+64≤m'.b.length) (hf:∀k∈m'.aj,k∈m.aj∨k.bn+40≤m'.b.length):m'.fit:=by
  obtain⟨G,H,I,J,K,L,A,B⟩:=h
  obtain⟨C,D,E,F,M⟩:=h1
  refine⟨by omega,by omega,by omega,by omega,by rw[C,E];omega,by rw[D,F];omega,fun k hk=>?_,fun k hk=>?_⟩
  · rcases hd k hk with h|h
    · have:=A k h;omega
    exact h
  rcases hf k hk with h|h
  · have:=B k h;omega
  exact h
theorem yu {s:Ly} {l:List aZ} {p:Nat} (h:p7 s l=some p):∃k∈l,k.bn=p∧k.cA=s:=by
  induction l with
  | nil=>simp[p7]at h
  | cons x l ih =>
    simp only[p7]at h
    split at h
    · rename_i hx;exact⟨x,by simp,by simpa using h,hx⟩
    · obtain⟨k,hk,A⟩:=ih h;exact⟨k,by simp[hk],A⟩
theorem abK {s:Ly} {l:List aZ} {j i:Nat} (h:nC s l j=some i):j≤i∧i<j+l.length:=by
  induction l generalizing j with
  | nil=>simp[nC]at h
  | cons x l ih =>
    simp only[nC]at h
    split at h
    · simp at h;simp;omega
    · have:=ih h;simp;omega
theorem vl (m:Mk) (name:Ly) (h:m.fit):((m.field name).1+40≤(m.field name).2.b.length∧m.b.length≤(m.field name).2.b.length∧(m.field name).2.b.length≤m.b.length+(48+name.length)∧(m.field name).2.ai.length=m.ai.length∧(m.field name).2.aj.length≤m.aj.length+1 ∧
    (m.field name).2.c.ay=m.c.ay∧(m.field name).2.c.aA=m.c.aA∧(m.field name).2.h.n.getD 2 0=m.h.n.getD 2 0∧(m.field name).2.h.n.getD 4 0=m.h.n.getD 4 0∧(m.field name).2.h.n.getD 8 0=m.h.n.getD 8 0) ∧
    ((m.field name).2.c=m.c∧(m.field name).2.ai=m.ai∧(m.field name).2.main=m.main)∧(m.field name).2.fit:=by
  unfold Mk.field
  cases hk:p7 name m.aj with
  | some p =>
    obtain⟨k,D,U,_⟩:=yu hk
    have:=h.2.2.2.2.2.2.2 k D
    exact⟨⟨by simp only;omega,Nat.le_refl _,by simp only;omega,q,by simp only;omega,q,q,q,q,q⟩,⟨q,q,q⟩,h⟩
  | none =>
    simp only
    have C:=iM m (iv {cQ:=dW m.c.dx m.c.cG name,bT:=0,dat:=0,ak:=name})
    have I:=fC m (iv {cQ:=dW m.c.dx m.c.cG name,bT:=0,dat:=0,ak:=name})
    have J:(m.di (iv {cQ:=dW m.c.dx m.c.cG name,bT:=0,dat:=0,ak:=name})).2.h.n.getD 8 0=m.h.n.getD 8 0:=by
      simp only[Mk.di,Mk.dX];rw[bB Om,bB Om]
    rw[vX]at C
    simp only at C
    generalize m.di (iv {cQ:=dW m.c.dx m.c.cG name,bT:=0,dat:=0,ak:=name})=r at *
    obtain⟨p,A⟩:=r
    simp only at C I J ⊢
    have K:=vq A A.aj (A.cT 4) p (dW m.c.dx m.c.cG name%A.c.aA)
    have L:=iU A A.aj (A.cT 4) p (dW m.c.dx m.c.cG name%A.c.aA)
    generalize A.hang A.aj (A.cT 4) p (dW m.c.dx m.c.cG name%A.c.aA)=r at *
    obtain⟨n,B⟩:=r
    simp only at K L ⊢
    obtain⟨V,W,X,Y,Z,a,d,e⟩:=C
    obtain⟨M,E,N,O⟩:=I
    obtain⟨f,g,i,j,l,o,t⟩:=K
    obtain⟨P,F,Q,R,u,S⟩:=L
    simp only[Mk.dX,List.length_append,List.length_singleton]
    have G:(B.h.n.set 16 ((B.cT 16+1)%18446744073709551616)).getD 2 0=m.h.n.getD 2 0:=by rw[bB Om];omega
    have H:(B.h.n.set 16 ((B.cT 16+1)%18446744073709551616)).getD 4 0=m.h.n.getD 4 0:=by rw[bB Om];omega
    have T:(B.h.n.set 16 ((B.cT 16+1)%18446744073709551616)).getD 8 0=m.h.n.getD 8 0:=by rw[bB Om,S,J]
    refine⟨⟨by omega,by omega,by omega,by omega,by omega,by omega,by omega,G,H,T⟩,⟨by rw[P,M],by rw[F,E],by rw[R,O]⟩,?_⟩
    refine pU h ⟨by simp only;omega,by simp only;omega,G,H,by simp only;omega⟩ (fun k hk=>?_) (fun k hk=>?_)
    · simp only[F,E]at hk;exact .inl hk
    · simp only[Q,N,List.mem_append,List.mem_singleton]at hk
      rcases hk with hk|rfl
      · exact .inl hk
      · right;simp only;omega
theorem RV (m:Mk) (name:Ly) (h:m.fit):(m.field name).1+40≤(m.field name).2.b.length∧m.b.length≤(m.field name).2.b.length∧(m.field name).2.b.length≤m.b.length+(48+name.length)∧(m.field name).2.ai.length=m.ai.length∧(m.field name).2.aj.length≤m.aj.length+1 ∧
    (m.field name).2.c.ay=m.c.ay∧(m.field name).2.c.aA=m.c.aA∧(m.field name).2.h.n.getD 2 0=m.h.n.getD 2 0∧(m.field name).2.h.n.getD 4 0=m.h.n.getD 4 0∧(m.field name).2.h.n.getD 8 0=m.h.n.getD 8 0:=(vl m name h).1
theorem RU (m:Mk) (name:Ly) (h:m.fit):(m.field name).2.c=m.c∧(m.field name).2.ai=m.ai∧(m.field name).2.main=m.main:=(vl m name h).2.1
theorem YE (m:Mk) (name:Ly) (h:m.fit):(m.field name).2.fit:=(vl m name h).2.2
section
variable {m y:Mk} {v1 v2 v3 v4:Value} {w:World} {b t i v j:Nat}
theorem aip (hn:m.h.n.length=20) (hi:i<20):(Mk.cells m v1 v2 v3 v4).set (119+i) (.int .u64 v)=Mk.cells {m with h:={m.h with n:=m.h.n.set i v}} v1 v2 v3 v4:=by
  have A:(nV.cells m.c).length=52:=rfl
  have B:(fR.cells m.h).length=90:=rfl
  show(nV.cells m.c ++ (fR.cells m.h ++ _)).set _ _=nV.cells m.c ++ (fR.cells _ ++ _)
  rw[List.set_append_right _ _ Oh,A,show 119+i-52=67+i by omega,List.set_append_left _ _ Oh,aal hn hi]
theorem LH (B:cg w b ((Mk.cells m v1 v2 v3 v4).set j (.int .u64 v)) t) (ok:Mk.ok m) (hv:v<18446744073709551616) (hj:j=119+i) (hi:i<20):∃y,y=({m with h:={m.h with n:=m.h.n.set i v}}:Mk)∧cg w b (Mk.cells y v1 v2 v3 v4) t∧Mk.ok y:=by
  subst hj
  rw[aip ok.2.1.2.2.2.2.2.2.2.1.1 hi]at B
  obtain⟨A,⟨a,b,c,d,e,f,g,h,k⟩,C⟩:=ok
  exact⟨_,q,B,A,⟨a,b,c,d,e,f,g,xD h hv,k⟩,C⟩
theorem iT (B:cg w b ((Mk.cells m v1 v2 v3 v4).set j (.int .u64 v)) t) (ok:Mk.ok m) (hv:v<18446744073709551616) (hj:j=119+i:=by rfl) (hi:i<20:=by decide) (h2:i≠2:=by decide) (h4:i≠4:=by decide):∃y,y=({m with h:={m.h with n:=m.h.n.set i v}}:Mk)∧cg w b (Mk.cells y v1 v2 v3 v4) t∧Mk.ok y∧y.b.length=m.b.length∧y.ai.length=m.ai.length∧y.aj.length=m.aj.length∧y.c.ay=m.c.ay∧y.c.aA=m.c.aA∧y.h.n.getD 2 0=m.h.n.getD 2 0∧y.h.n.getD 4 0=m.h.n.getD 4 0:=by
  obtain⟨y,rfl,h,k⟩:=LH B ok hv hj hi
  exact⟨_,q,h,k,q,q,q,q,q,bB Oh,bB Oh⟩
theorem VY (B:cg w b ((Mk.cells m v1 v2 v3 v4).set j (.int .u64 v)) t) (ok:Mk.ok m) (hv:v<18446744073709551616) (hj:j=119+i:=by rfl) (hi:i<20:=by decide) (h4:i≠4:=by decide):∃y,y=({m with h:={m.h with n:=m.h.n.set i v}}:Mk)∧cg w b (Mk.cells y v1 v2 v3 v4) t∧Mk.ok y∧y.b.length=m.b.length∧y.ai.length=m.ai.length∧y.aj.length=m.aj.length∧y.c.ay=m.c.ay∧y.c.aA=m.c.aA∧y.h.n.getD 4 0=m.h.n.getD 4 0:=by
  obtain⟨y,rfl,h,k⟩:=LH B ok hv hj hi
  exact⟨_,q,h,k,q,q,q,q,q,bB Oh⟩
theorem VZ (B:cg w b ((Mk.cells m v1 v2 v3 v4).set j (.int .u64 v)) t) (ok:Mk.ok m) (hv:v<18446744073709551616) (hj:j=119+i:=by rfl) (hi:i<20:=by decide) (h2:i≠2:=by decide):∃y,y=({m with h:={m.h with n:=m.h.n.set i v}}:Mk)∧cg w b (Mk.cells y v1 v2 v3 v4) t∧Mk.ok y∧y.b.length=m.b.length∧y.ai.length=m.ai.length∧y.aj.length=m.aj.length∧y.c.ay=m.c.ay∧y.c.aA=m.c.aA∧y.h.n.getD 2 0=m.h.n.getD 2 0:=by
  obtain⟨y,rfl,h,k⟩:=LH B ok hv hj hi
  exact⟨_,q,h,k,q,q,q,q,q,bB Oh⟩
theorem af6 {x:Ly} (e:y={m with b:=x}):y.ai.length=m.ai.length∧y.aj.length=m.aj.length∧y.c.ay=m.c.ay∧y.c.aA=m.c.aA∧y.h.n.getD 2 0=m.h.n.getD 2 0∧y.h.n.getD 4 0=m.h.n.getD 4 0:=by subst e;exact⟨q,q,q,q,q,q⟩
theorem uE {x:List aZ} (e:y={m with ai:=x}):y.b.length=m.b.length∧y.aj.length=m.aj.length∧y.c.ay=m.c.ay∧y.c.aA=m.c.aA∧y.h.n.getD 2 0=m.h.n.getD 2 0∧y.h.n.getD 4 0=m.h.n.getD 4 0:=by subst e;exact⟨q,q,q,q,q,q⟩
theorem yJ {x:List aZ} (e:y={m with aj:=x}):y.b.length=m.b.length∧y.ai.length=m.ai.length∧y.c.ay=m.c.ay∧y.c.aA=m.c.aA∧y.h.n.getD 2 0=m.h.n.getD 2 0∧y.h.n.getD 4 0=m.h.n.getD 4 0:=by subst e;exact⟨q,q,q,q,q,q⟩
theorem VX {x:List Nat} (e:y={m with main:=x}):y.b.length=m.b.length∧y.ai.length=m.ai.length∧y.aj.length=m.aj.length∧y.c.ay=m.c.ay∧y.c.aA=m.c.aA∧y.h.n.getD 2 0=m.h.n.getD 2 0∧y.h.n.getD 4 0=m.h.n.getD 4 0:=by subst e;exact⟨q,q,q,q,q,q,q⟩
theorem ac0 {x:Nat} (e:y={m with depth:=x}):y.b.length=m.b.length∧y.ai.length=m.ai.length∧y.aj.length=m.aj.length∧y.c.ay=m.c.ay∧y.c.aA=m.c.aA∧y.h.n.getD 2 0=m.h.n.getD 2 0∧y.h.n.getD 4 0=m.h.n.getD 4 0:=by subst e;exact⟨q,q,q,q,q,q,q⟩
theorem PG {x:fR} (e:y={m with h:=x}):y.b.length=m.b.length∧y.ai.length=m.ai.length∧y.aj.length=m.aj.length∧y.c.ay=m.c.ay∧y.c.aA=m.c.aA:=by subst e;exact⟨q,q,q,q,q⟩
end
section
variable {P:Program}
end
end Go.Wk
namespace Go.Wk
open Go Go.RowKit
theorem uM (k:Int):eP k≤256:=by unfold eP;split;omega;split<;>omega
def gC:List Nat→Nat→Nat→Nat→Nat × Nat
  | [],_,a,r=>(a,r)
  | _ :: l,k,_,r=>gC l (k+1) r (r+eP (k:Int))
def jX (l:List Nat):Nat:=l.getD (l.length-1) 0
def Mk.link (m:Mk) (bw:List Nat) (n src iI:Nat):List Nat × Nat × Mk :=
  match gC bw 0 0 0 with
  | (ahead,room) =>
    if n=room then
      match m.di (gE {next:=0,aD:=List.replicate (eP (bw.length:Int)) 0})with
      | (p,m1) =>
        let m29:=m1.dX 18 ((m1.cT 18+1)%18446744073709551616)
        (bw ++ [p],n-room+1,(if bw.length=0 then m29.put src p else m29.put (jX bw+16) p).put (jX (bw ++ [p])+24+8*(n-room)) iI)
    else(bw,n-ahead+1,m.put (jX bw+24+8*(n-ahead)) iI)
theorem sP {l:List Nat} {i k a r:Nat} (h:i<l.length):gC (l.drop i) k a r=gC (l.drop (i+1)) (k+1) r (r+eP (k:Int)):=by
  obtain⟨x,A⟩:=fK h
  rw[eN A];rfl
theorem sj {l:List Nat} {i k a r:Nat} (h:¬i<l.length):gC (l.drop i) k a r=(a,r):=by rw[iL Oh];rfl
theorem si {k:Int} (h:0≤k):4≤eP k:=by
  unfold eP
  rw[if_neg Oh]
  split
  · omega
  have:1≤2 ^ k.toNat:=Nat.one_le_two_pow
  omega
theorem JO (k:Int):k<0∨4≤eP k:=by by_cases h:0≤k;exact .inr (si h);exact .inl Oh
theorem kY {l:List Nat} {x:Nat} (h:l[l.length-1]? = some x):jX l=x:=by simp[jX,List.getD,h]
theorem IQ {α} {l:List α} {p x:α} (h:(l ++ [p])[(l ++ [p]).length-1]? = some x):x=p:=by simpa using h.symm
theorem TD (l:List Nat) (k a r:Nat) (h:l≠[]):(gC l k a r).2=(gC l k a r).1+eP ((k+l.length-1:Nat):Int):=by
  induction l generalizing k a r with
  | nil=>exact absurd q h
  | cons x l ih =>
    by_cases hl:l=[]
    · subst hl;simp[gC]
    · simp only[gC,List.length_cons]
      rw[ih (k+1) r (r+eP (k:Int)) hl,show k+1+l.length-1=k+(l.length+1)-1 by omega]
theorem TF {l:List Nat} {n:Nat} (h2:(gC l 0 0 0).1≤n) (h3:n≤(gC l 0 0 0).2) (h:n≠(gC l 0 0 0).2):1≤l.length∧n<(gC l 0 0 0).1+eP ((l.length-1:Nat):Int):=by
  cases l with
  | nil=>simp[gC]at h3 h;omega
  | cons x l =>
    have:=TD (x :: l) 0 0 0 Oq
    simp only[Nat.zero_add]at this
    refine⟨by simp,?_⟩
    omega
def kD (len:Nat) (bw:List Nat) (n:Nat):Prop :=
  (∀(k a:Nat),bw[k]? = some a→a+24+8*eP (k:Int)≤len)∧(gC bw 0 0 0).1≤n∧n≤(gC bw 0 0 0).2
def ja (c:nV) (tail:Nat):Mk :=
  let b1:=List.replicate 272 0 ++ fE 4 (List.replicate c.ay {first:=0,tail:=0})
  let b2:=b1 ++ fE 5 (List.replicate c.aA {first:=0,tail:=0})
  {c:=c,depth:=0,b:=b2,ai:=[],aj:=[],main:=[],
    h:={iG:=2,bW:=if c.dx then 4 else 0,state:=1,cG:=c.cG,eO:=c.eO,bV:=List.replicate 16 0,seq:=c.seq,eu:=0,eC:=0,eM:=0,
           n:=(((((((((List.replicate 20 0).set 0 272).set 2 288).set 3 (16*c.ay)).set 4 (b1.length+16)).set 5 (16*c.aA)).set 6 b1.length).set 7 2).set 9 tail)}}
theorem aee {α} {l:List α} {i:Nat} (h:¬i<l.length):l.take i=l:=List.take_of_length_le Oh
theorem NM {v:Value} {b:Nat} (h:∀x,ah v=some x→x≠b):b∉(ah v).toList:=by
  cases hv:ah v with
  | none=>simp
  | some c=>simp;exact fun e=>h c hv e.symm
theorem fD {v:Value} {b:Nat} (h:∀x,ah v=some x→x≠b):∀x,ah v=some x→x∉[b]:=fun x hx hh=>h x hx (by simpa using hh)
def nE (m:Mk) (st:Nat):List UInt8:=xg {m.h with state:=st,n:=m.h.n.set 1 (m.b.length-272)} m.depth ++ m.b.drop 272
theorem yC (h:fR) (depth:Nat) (ok:fR.ok h):(xg h depth).length=272:=by
  obtain⟨_,_,_,A,B,C,D,E,_⟩:=ok
  simp[xg,iX,fV,A,B,C,D,E.1]
end Go.Wk
namespace Go.Wk
open Go Go.RowKit
def Pr.pb (p:Pr):zu:=(p.name,p.value)
section
variable {P:Program} {n:Nat} {A:Fr n} {D:List Deferred} {l:List (Nat × Value)} {w:World} {d:Option Tmp} {ty:TypeId} {ps:String} {af:Array Edge} {g:Option (Nat × Bool)}
theorem WZ {x y:Operand} {t f u:TypeId} {p q:Pr} (hp:pairT P t f=true) (hf:P.underlying f=some .string) (hx:ev n l x=some (.agg (Pr.cells p).toArray)) (hy:ev n l y=some (.agg (Pr.cells q).toArray)) :
    dS P ⟨d,.binOp .eql t x y u,ty,ps,af,g⟩ (b9 A D l).eval w (.bool (decide (p.pb=q.pb))):=ai4 (p:=p.pb) (q:=q.pb) hp hf hx hy
end
def t7 (p:Pr):List UInt8 × Nat:=if fH p.name=false then([],1)else if 256<p.value.length then([],21)else(ak p,0)
theorem acj {p:Pr} (h:(t7 p).2=0):p.name.length≤1000000∧p.value.length≤1000000:=by
  unfold t7 at h
  split at h
  · cases h
  rename_i h1
  split at h
  · cases h
  have:=(iy (s:=p.name) (by simpa using h1)).2;omega
theorem zC {p:Pr}:(t7 p).2=0↔right p.pb=true:=by
  unfold t7 right Pr.pb
  by_cases h1:fH p.name=false
  · simp[h1]
  rw[if_neg h1]
  have A:fH p.name=true:=by simpa using h1
  rw[A]
  by_cases h3:256<p.value.length
  · simp[h3]
  simp[h3];omega
def lW (t:Ly):List Pr→Nat→Nat
  | [],k=>k
  | q :: r,k=>if Op.bytesLess (ak q) t=true then lW t r (k+1)else k
theorem JI {t:Ly} {o:List Pr} {k:Nat} {q:Pr} (h:o[k]? = some q):lW t (o.drop k) k=if Op.bytesLess (ak q) t=true then lW t (o.drop (k+1)) (k+1)else k:=by
  rw[eN h];rfl
theorem adJ {t:Ly} {o:List Pr} {k:Nat} (h:¬k<o.length):lW t (o.drop k) k=k:=by rw[iL Oh];rfl
theorem qL {l:List Pr} {i:Nat} {x:Pr} (h:l[i]? = some x):l.getD i {name:=[],value:=[]}=x:=by simp[List.getD,h]
def jT:Nat→Nat→List Pr→List Pr
  | 0,_,o=>o
  | n+1,j,o=>jT n (j-1) (o.set j (o.getD (j-1) {name:=[],value:=[]}))
theorem sV {j k:Nat} {o:List Pr} (h:k<j):jT (j-k) j o=jT (j-1-k) (j-1) (o.set j (o.getD (j-1) {name:=[],value:=[]})):=by
  rw[show j-k=(j-1-k)+1 by omega];rfl
theorem vB {j k:Nat} {o:List Pr} (h:¬k<j):jT (j-k) j o=o:=by rw[show j-k=0 by omega];rfl
def tK (p:Pr) (o:List Pr):List Pr :=
  let k:=lW (ak p) o 0
  if k<o.length∧(o.getD k {name:=[],value:=[]}).pb=p.pb then o else(jT (o.length-k) o.length (o ++ [{name:=[],value:=[]}])).set k p
def Ry:List Pr→List Pr→List Pr × Nat
  | [],o=>if 16<o.length then([],21)else(o,0)
  | p :: r,o=>if(t7 p).2≠0 then([],(t7 p).2)else Ry r (tK p o)
def kZ (l:List Pr):List Pr × Nat:=if l.length=0 then([],16)else Ry l []
theorem KZ {l o:List Pr} {i:Nat} (h:¬i<l.length):Ry (l.drop i) o=if 16<o.length then([],21)else(o,0):=by rw[iL Oh];rfl
theorem OD {l o:List Pr} {i:Nat} {p:Pr} (h:l[i]? = some p):Ry (l.drop i) o=if(t7 p).2≠0 then([],(t7 p).2)else Ry (l.drop (i+1)) (tK p o):=by
  rw[eN h];rfl
end Go.Wk
namespace Go.Wk
open Go Go.RowKit
section
variable {P:Program} {n:Nat} {A:Fr n} {D:List Deferred} {l:List (Nat × Value)} {w:World} {d:Option Tmp} {ty:TypeId} {ps:String} {af:Array Edge} {g:Option (Nat × Bool)}
theorem adI {x y:Operand} {t u:TypeId} {k:IntKind} {a b:Int} (hx:ev n l x=some (.int k a)) (hy:ev n l y=some (.int k b)) (h:b≠0) :
    dS P ⟨d,.binOp .rem t x y u,ty,ps,af,g⟩ (b9 A D l).eval w (.int k (a.tmod b)):=adH hx hy h
end
def PL (k:Int) (n:Nat):Nat:=if n<1 then 0 else((k.tmod n+n).tmod n).toNat
theorem sG (k:Int) (n:Nat):n<1∨PL k n<n:=by
  unfold PL
  by_cases h:n<1
  · exact .inl h
  rw[if_neg h]
  have A:=Int.tmod_lt_of_pos (k.tmod n+n) (show(0:Int)<n by omega)
  right;omega
theorem ais {k:Int} {n:Nat} (h:¬n<1):0≤k.tmod n+n∧k.tmod n+n<2*n:=by
  have A:=Int.tmod_lt_of_pos k (show(0:Int)<n by omega)
  have B:=Int.lt_tmod_of_pos k (show(0:Int)<n by omega)
  omega
def Sq.cT (s:Sq) (n:Nat):Nat × Sq:=if s.l.length≤s.bn then(0,s)else(PL (s.l.getD s.bn 0) n,{s with bn:=s.bn+1})
def Sq.more (s:Sq):Bool × Sq:=(decide (s.bn<s.l.length),s)
def yL:List (List UInt8):=[[65],[66],[77,69,83,83,65,71,69],[95,80,73,68],[88,95,49],[80,82,73,79,82,73,84,89]]
def vE:List (List UInt8):=[[],[48],[49],[50,50],[97,61,98],[111,110,101,10,116,119,111],[0,255],[116,97,98,9,104,101,114,101],[108,111,110,103,32,108,111,110,103,32,108,111,110,103,32,108,111,110,103,32,108,111,110,103,32,108,111,110,103,32,108,111,110,103],[126,127,128]]
theorem SH:yL.length=6:=rfl
theorem Rc:vE.length=10:=rfl
def idF (k:Int):List UInt8:=((List.replicate 16 0).set 0 94).set 15 (UInt8.ofNat (PL k 5))
def Sq.pair (s:Sq):Pr × Sq :=
  match s.cT 6 with
  | (a,s1) =>
    match s1.cT 10 with
    | (b,s2)=>({name:=yL.getD a [],value:=vE.getD b []},s2)
theorem Sq.kG (s:Sq) (n:Nat):(s.cT n).1≤n-1:=by
  unfold Sq.cT
  split
  · simp
  simp only
  rcases sG (s.l.getD s.bn 0) n with h|h
  · simp[PL,h]
  omega
def pq:Nat→Sq→List Pr→List Pr × Sq
  | 0,s,o=>(o,s)
  | n+1,s,o=>match s.pair with
    | (p,s1)=>pq n s1 (o ++ [p])
def Sq.pairs (s:Sq) (bY:Nat):List Pr × Sq :=
  match s.cT bY with
  | (n,s1)=>pq (n+1) s1 []
theorem ZR {n:Nat} {s:Sq} {o:List Pr} (h:¬0<n):pq n s o=(o,s):=by rw[show n=0 by omega];rfl
theorem SL {n:Nat} {s:Sq} {o:List Pr} (h:0<n):pq n s o=pq (n-1) s.pair.2 (o ++ [s.pair.1]):=by
  obtain⟨k,rfl⟩:∃k,n=k+1:=⟨n-1,by omega⟩
  rfl
theorem ac3 (a:Nat):(yL.getD a []).length≤64:=by
  match a with
  | 0|1|2|3|4|5=>decide
  | n+6=>simp[yL]
theorem aaE (a:Nat):(vE.getD a []).length≤256:=by
  match a with
  | 0|1|2|3|4|5|6|7|8|9=>decide
  | n+10=>simp[vE]
theorem afX (s:Sq):s.pair.1.name.length≤64∧s.pair.1.value.length≤256:=⟨ac3 _,aaE _⟩
theorem ZQ (n:Nat):∀(s:Sq) (o:List Pr),(∀q∈o,q.name.length≤64∧q.value.length≤256)→(∀q∈(pq n s o).1,q.name.length≤64∧q.value.length≤256)∧(pq n s o).1.length=o.length+n:=by
  induction n with
  | zero=>exact fun s o h=>⟨h,rfl⟩
  | succ n ih =>
    intro s o h
    have:=ih s.pair.2 (o ++ [s.pair.1]) (fun q A=>by
      rcases List.mem_append.1 A with A|A
      · exact h q A
      · rw[List.mem_singleton.1 A];exact afX s)
    refine⟨this.1,?_⟩
    have B:=this.2
    rw[List.length_append,List.length_singleton]at B
    rw[show pq (n+1) s o=pq n s.pair.2 (o ++ [s.pair.1])from rfl,B];omega
theorem ad5 (s:Sq) (bY:Nat):(∀q∈(s.pairs bY).1,q.name.length≤1000000∧q.value.length≤1000000)∧(s.pairs bY).1.length≤bY+1:=by
  have h:=ZQ ((s.cT bY).1+1) (s.cT bY).2 [] Oq
  have B:=s.kG bY
  have e:s.pairs bY=pq ((s.cT bY).1+1) (s.cT bY).2 []:=rfl
  rw[e]
  refine⟨fun q A=>⟨by have:=(h.1 q A).1;omega,by have:=(h.1 q A).2;omega⟩,?_⟩
  rw[h.2];simp;omega
def Sq.config (s:Sq):nV × Sq :=
  match s.cT 5 with
  | (a,s1)=>match s1.cT 5 with
    | (b,s2)=>match s2.cT 5 with
      | (c,s3)=>match s3.cT 7 with
        | (d,s4)=>match s4.cT 4 with
          | (e,s5)=>match s5.cT 2 with
            | (f,s6)=>({cG:=idF a,eO:=idF b,seq:=idF c,ay:=d+1,aA:=e+1,bY:=32768,dx:=decide (f=1)},s6)
def Sq.record (s:Sq) (seq:Nat):Rec × Sq :=
  match s.pairs 4 with
  | (ps,s1)=>match s1.cT 40 with
    | (a,s2)=>match s2.cT 9 with
      | (b,s3)=>match s3.cT 3 with
        | (c,s4)=>({seq:=seq,cr:=a,mono:=b,bV:=idF c,aj:=(kZ ps).1},s4)
end Go.Wk
namespace Go.Wk
open Go Go.RowKit
section
variable {P:Program} {Q:Exit→Act→World→Prop} {n:Nat} {A:Fr n} {D:List Deferred} {l:List (Nat × Value)} {w:World}
def agP {X0 X1 X2 X3 X4 X5 X6 X7 X8:Type} (n:Nat) (D:List Deferred) (inv:X0→X1→X2→X3→X4→X5→X6→X7→X8→List (Nat × Value)) (W:X0→X1→X2→X3→X4→X5→X6→X7→X8→World→Prop) (mu:X0→X1→X2→X3→X4→X5→X6→X7→X8→Nat) (m:Nat) (a:Act) (w:World):Prop :=
  ∃y0:X0,∃y1:X1,∃y2:X2,∃y3:X3,∃y4:X4,∃y5:X5,∃y6:X6,∃y7:X7,∃y8:X8,∃B:Fr n,a=b9 B D (inv y0 y1 y2 y3 y4 y5 y6 y7 y8)∧W y0 y1 y2 y3 y4 y5 y6 y7 y8 w∧mu y0 y1 y2 y3 y4 y5 y6 y7 y8<m
theorem akf {X0 X1 X2 X3 X4 X5 X6 X7 X8:Type} {c:Code} (inv:X0→X1→X2→X3→X4→X5→X6→X7→X8→List (Nat × Value)) (W:X0→X1→X2→X3→X4→X5→X6→X7→X8→World→Prop) (mu:X0→X1→X2→X3→X4→X5→X6→X7→X8→Nat) (x0:X0) (x1:X1) (x2:X2) (x3:X3) (x4:X4) (x5:X5) (x6:X6) (x7:X7) (x8:X8) (h0:Fits n l (inv x0 x1 x2 x3 x4 x5 x6 x7 x8)) (hw:W x0 x1 x2 x3 x4 x5 x6 x7 x8 w)
    (round:∀(x0:X0) (x1:X1) (x2:X2) (x3:X3) (x4:X4) (x5:X5) (x6:X6) (x7:X7) (x8:X8) (B:Fr n) (w':World),W x0 x1 x2 x3 x4 x5 x6 x7 x8 w'→c.wp P (Exit.then (agP n D inv W mu (mu x0 x1 x2 x3 x4 x5 x6 x7 x8)) Q) (b9 B D (inv x0 x1 x2 x3 x4 x5 x6 x7 x8)) w') :
    (Code.loop c).wp P Q (b9 A D l) w:=by
  refine kQ (X:=X0 × X1 × X2 × X3 × X4 × X5 × X6 × X7 × X8) (fun p=>inv p.1 p.2.1 p.2.2.1 p.2.2.2.1 p.2.2.2.2.1 p.2.2.2.2.2.1 p.2.2.2.2.2.2.1 p.2.2.2.2.2.2.2.1 p.2.2.2.2.2.2.2.2) (fun p w=>W p.1 p.2.1 p.2.2.1 p.2.2.2.1 p.2.2.2.2.1 p.2.2.2.2.2.1 p.2.2.2.2.2.2.1 p.2.2.2.2.2.2.2.1 p.2.2.2.2.2.2.2.2 w) (fun p=>mu p.1 p.2.1 p.2.2.1 p.2.2.2.1 p.2.2.2.2.1 p.2.2.2.2.2.1 p.2.2.2.2.2.2.1 p.2.2.2.2.2.2.2.1 p.2.2.2.2.2.2.2.2) (x0,x1,x2,x3,x4,x5,x6,x7,x8) h0 hw (fun p B w' h=>wp_mono (round (p.1) (p.2.1) (p.2.2.1) (p.2.2.2.1) (p.2.2.2.2.1) (p.2.2.2.2.2.1) (p.2.2.2.2.2.2.1) (p.2.2.2.2.2.2.2.1) (p.2.2.2.2.2.2.2.2) B w' h) ?_)
  intro e S T h
  cases e with
  | normal=>obtain⟨H,I,J,K,L,M,N,O,R,C,E,F,G⟩:=h;exact⟨(H,I,J,K,L,M,N,O,R),C,E,F,G⟩
  | _=>exact h
theorem akh {X0 X1 X2 X3 X4 X5 X6 X7 X8:Type} {inv:X0→X1→X2→X3→X4→X5→X6→X7→X8→List (Nat × Value)} {W:X0→X1→X2→X3→X4→X5→X6→X7→X8→World→Prop} {mu:X0→X1→X2→X3→X4→X5→X6→X7→X8→Nat} {m:Nat} (x0:X0) (x1:X1) (x2:X2) (x3:X3) (x4:X4) (x5:X5) (x6:X6) (x7:X7) (x8:X8) (hm:mu x0 x1 x2 x3 x4 x5 x6 x7 x8<m) (hf:Fits n l (inv x0 x1 x2 x3 x4 x5 x6 x7 x8)) (hw:W x0 x1 x2 x3 x4 x5 x6 x7 x8 w) :
    agP n D inv W mu m (b9 A D l) w:=⟨x0,x1,x2,x3,x4,x5,x6,x7,x8,_,(ga (A:=A) (D:=D) hf).symm,hw,hm⟩
def aaP {X0 X1 X2 X3 X4 X5 X6 X7 X8 X9:Type} (n:Nat) (D:List Deferred) (inv:X0→X1→X2→X3→X4→X5→X6→X7→X8→X9→List (Nat × Value)) (W:X0→X1→X2→X3→X4→X5→X6→X7→X8→X9→World→Prop) (mu:X0→X1→X2→X3→X4→X5→X6→X7→X8→X9→Nat) (m:Nat) (a:Act) (w:World):Prop :=
  ∃y0:X0,∃y1:X1,∃y2:X2,∃y3:X3,∃y4:X4,∃y5:X5,∃y6:X6,∃y7:X7,∃y8:X8,∃y9:X9,∃B:Fr n,a=b9 B D (inv y0 y1 y2 y3 y4 y5 y6 y7 y8 y9)∧W y0 y1 y2 y3 y4 y5 y6 y7 y8 y9 w∧mu y0 y1 y2 y3 y4 y5 y6 y7 y8 y9<m
theorem aio {X0 X1 X2 X3 X4 X5 X6 X7 X8 X9:Type} {c:Code} (inv:X0→X1→X2→X3→X4→X5→X6→X7→X8→X9→List (Nat × Value)) (W:X0→X1→X2→X3→X4→X5→X6→X7→X8→X9→World→Prop) (mu:X0→X1→X2→X3→X4→X5→X6→X7→X8→X9→Nat) (x0:X0) (x1:X1) (x2:X2) (x3:X3) (x4:X4) (x5:X5) (x6:X6) (x7:X7) (x8:X8) (x9:X9) (h0:Fits n l (inv x0 x1 x2 x3 x4 x5 x6 x7 x8 x9)) (hw:W x0 x1 x2 x3 x4 x5 x6 x7 x8 x9 w)
    (round:∀(x0:X0) (x1:X1) (x2:X2) (x3:X3) (x4:X4) (x5:X5) (x6:X6) (x7:X7) (x8:X8) (x9:X9) (B:Fr n) (w':World),W x0 x1 x2 x3 x4 x5 x6 x7 x8 x9 w'→c.wp P (Exit.then (aaP n D inv W mu (mu x0 x1 x2 x3 x4 x5 x6 x7 x8 x9)) Q) (b9 B D (inv x0 x1 x2 x3 x4 x5 x6 x7 x8 x9)) w') :
    (Code.loop c).wp P Q (b9 A D l) w:=by
  refine kQ (X:=X0 × X1 × X2 × X3 × X4 × X5 × X6 × X7 × X8 × X9) (fun p=>inv p.1 p.2.1 p.2.2.1 p.2.2.2.1 p.2.2.2.2.1 p.2.2.2.2.2.1 p.2.2.2.2.2.2.1 p.2.2.2.2.2.2.2.1 p.2.2.2.2.2.2.2.2.1 p.2.2.2.2.2.2.2.2.2) (fun p w=>W p.1 p.2.1 p.2.2.1 p.2.2.2.1 p.2.2.2.2.1 p.2.2.2.2.2.1 p.2.2.2.2.2.2.1 p.2.2.2.2.2.2.2.1 p.2.2.2.2.2.2.2.2.1 p.2.2.2.2.2.2.2.2.2 w) (fun p=>mu p.1 p.2.1 p.2.2.1 p.2.2.2.1 p.2.2.2.2.1 p.2.2.2.2.2.1 p.2.2.2.2.2.2.1 p.2.2.2.2.2.2.2.1 p.2.2.2.2.2.2.2.2.1 p.2.2.2.2.2.2.2.2.2) (x0,x1,x2,x3,x4,x5,x6,x7,x8,x9) h0 hw (fun p B w' h=>wp_mono (round (p.1) (p.2.1) (p.2.2.1) (p.2.2.2.1) (p.2.2.2.2.1) (p.2.2.2.2.2.1) (p.2.2.2.2.2.2.1) (p.2.2.2.2.2.2.2.1) (p.2.2.2.2.2.2.2.2.1) (p.2.2.2.2.2.2.2.2.2) B w' h) ?_)
  intro e T U h
  cases e with
  | normal=>obtain⟨H,I,J,K,L,M,N,O,R,S,C,E,F,G⟩:=h;exact⟨(H,I,J,K,L,M,N,O,R,S),C,E,F,G⟩
  | _=>exact h
theorem ac5 {X0 X1 X2 X3 X4 X5 X6 X7 X8 X9:Type} {inv:X0→X1→X2→X3→X4→X5→X6→X7→X8→X9→List (Nat × Value)} {W:X0→X1→X2→X3→X4→X5→X6→X7→X8→X9→World→Prop} {mu:X0→X1→X2→X3→X4→X5→X6→X7→X8→X9→Nat} {m:Nat} (x0:X0) (x1:X1) (x2:X2) (x3:X3) (x4:X4) (x5:X5) (x6:X6) (x7:X7) (x8:X8) (x9:X9) (hm:mu x0 x1 x2 x3 x4 x5 x6 x7 x8 x9<m) (hf:Fits n l (inv x0 x1 x2 x3 x4 x5 x6 x7 x8 x9)) (hw:W x0 x1 x2 x3 x4 x5 x6 x7 x8 x9 w) :
    aaP n D inv W mu m (b9 A D l) w:=⟨x0,x1,x2,x3,x4,x5,x6,x7,x8,x9,_,(ga (A:=A) (D:=D) hf).symm,hw,hm⟩
end
end Go.Wk
namespace Go.Wk
open Go Go.RowKit
def known0:aZ:={cA:=[],bn:=0,cO:=0,bR:=0,bw:=[]}
def ij (ds:List aZ) (i:Nat):Nat:=(ds.getD i known0).bn
def mr (ds:List aZ) (p:Nat) (order:List Nat):Nat→Nat
  | 0=>0
  | n+1=>if p<ij ds (order.getD n 0)then mr ds p order n else n+1
def mR (ds:List aZ) (k:Nat) (order:List Nat):List Nat :=
  let n:=mr ds (ij ds k) order order.length
  order.take n ++ [k] ++ order.drop n
def iH:List Pr→Mk→List (List UInt8)→List Nat→List (List UInt8) × List Nat × Mk
  | [],m,ps,od=>(ps,od,m)
  | x :: r,m,ps,od =>
    match m.data x with
    | (k,m1)=>iH r m1 (ps ++ [(m1.ai.getD k known0).cA]) (mR m1.ai k od)
def jG (m:Mk) (od:List Nat):List kg:=od.map fun i=>{bn:=ij m.ai i,cQ:=dW m.c.dx m.c.cG (m.ai.getD i known0).cA}
def kX (e:Nat):List Nat→Mk→Mk
  | [],m=>m
  | i :: r,m =>
    let k:=m.ai.getD i known0
    if k.bR=0 then
      let m29:=(m.put (k.bn+40) e).put (k.bn+56) 1
      kX e r {m29 with ai:=m29.ai.set i {k with bR:=1}}
    else
      match m.link k.bw (k.bR-1) (k.bn+48) e with
      | (a,_,m1) =>
        let m29:=m1.put (k.bn+56) (k.bR+1)
        kX e r {m29 with ai:=m29.ai.set i {k with bw:=a,bR:=k.bR+1}}
def Mk.append (m:Mk) (aj:List Pr) (cr mono:Nat) (bV:Ly):Nat × Nat × Mk :=
  match kZ aj with
  | (l,c) =>
    if c≠0 then(0,c,m)
    else if m.cT 9=18446744073709551615 then(0,1,m)
    else
      match iH l m [] []with
      | (ps,od,m1) =>
        let seq:=(m1.cT 9+1)%18446744073709551616
        match m1.di (eA {seq:=seq,cr:=cr,mono:=mono,bV:=bV,xor:=nk 0 ps,aD:=jG m1 od})with
        | (e,m29) =>
          let n:=m29.cT 8
          match m29.link m29.main n 176 e with
          | (a,t,m3) =>
            let m4:=({m3 with main:=a}:Mk).dX 11 (a.getD 0 0)
            let m5:={m4 with h:={m4.h with eu:=jX a%4294967296,eC:=t%4294967296}}
            let m6:=kX e od m5
            if m6.c.bY<m6.b.length then(0,15,m)
            else
              let m7:=if n=0 then(m6.dX 10 seq).dX 12 cr else m6
              let m8:=m7.dX 8 ((m7.cT 8+1)%18446744073709551616)
              let m9:=((m8.dX 9 seq).dX 13 cr).dX 14 mono
              (seq,0,{m9 with h:={m9.h with bV:=bV,eM:=e}})
def jH:Nat→Sq→Mk→List Rec→Mk × List Rec × Sq
  | 0,s,m,rs=>(m,rs,s)
  | n+1,s,m,rs =>
    if s.bn<s.l.length then
      match s.record ((m.cT 9+1)%18446744073709551616)with
      | (r,s1) =>
        match m.append r.aj r.cr r.mono r.bV with
        | (_,c,m1)=>if c≠0 then(m1,rs,s1)else jH n s1 m1 (rs ++ [r])
    else(m,rs,s)
def Sq.pZ (s:Sq) (bY:Nat):Mk × List Rec × Sq :=
  match s.config with
  | (c,s1) =>
    match s1.cT 6 with
    | (t,s2)=>jH bY s2 (ja c t) []
def xh (l:List Int) (bY:Nat):List UInt8:=nE ((Sq.mk l 0).pZ bY).1 1
end Go.Wk
namespace Go.Wk
open Go Go.RowKit
structure ahx (m m':Mk) (k len:Nat):Prop where
  lt:k<m'.ai.length
  ge:m.b.length≤m'.b.length
  le:m'.b.length≤m.b.length+len
  c:m'.c=m.c
  main:m'.main=m.main
  pre:m'.ai=m.ai∨∃x:aZ,m'.ai=m.ai ++ [x]∧x.bR=0∧x.bw=[]∧x.bn+64≤m'.b.length
  fl:m'.aj.length≤m.aj.length+1
  fit:m'.fit
  n8:m'.h.n.getD 8 0=m.h.n.getD 8 0
theorem lT (m:Mk) (p v:Nat):(m.put p v).c=m.c∧(m.put p v).ai=m.ai∧(m.put p v).aj=m.aj∧(m.put p v).main=m.main∧(m.put p v).h=m.h∧(m.put p v).depth=m.depth:=⟨q,q,q,q,q,q⟩
theorem KW (m:Mk) (x:Pr) (h:m.fit):ahx m (m.data x).2 (m.data x).1 (400+x.name.length+(ak x).length):=by
  unfold Mk.data
  cases hk:nC (ak x) m.ai 0 with
  | some i =>
    have:=abK hk
    exact⟨by simp only;omega,Nat.le_refl _,by simp only;omega,q,q,.inl q,by simp only;omega,h,q⟩
  | none =>
    simp only
    have D:=iM m (jc {cQ:=dW m.c.dx m.c.cG (ak x),bT:=0,eH:=0,entry:=0,array:=0,bR:=0,ak:=ak x})
    have Q:=fC m (jc {cQ:=dW m.c.dx m.c.cG (ak x),bT:=0,eH:=0,entry:=0,array:=0,bR:=0,ak:=ak x})
    have R:(m.di (jc {cQ:=dW m.c.dx m.c.cG (ak x),bT:=0,eH:=0,entry:=0,array:=0,bR:=0,ak:=ak x})).2.h.n.getD 8 0=m.h.n.getD 8 0:=by
      simp only[Mk.di,Mk.dX];rw[bB Om,bB Om]
    rw[xN]at D
    simp only at D
    generalize m.di (jc {cQ:=dW m.c.dx m.c.cG (ak x),bT:=0,eH:=0,entry:=0,array:=0,bR:=0,ak:=ak x})=r at *
    obtain⟨p,A⟩:=r
    simp only at D Q R ⊢
    have S:=vq A A.ai (A.cT 2) p (dW m.c.dx m.c.cG (ak x)%A.c.ay)
    have T:=iU A A.ai (A.cT 2) p (dW m.c.dx m.c.cG (ak x)%A.c.ay)
    generalize A.hang A.ai (A.cT 2) p (dW m.c.dx m.c.cG (ak x)%A.c.ay)=r at *
    obtain⟨n,B⟩:=r
    simp only at S T ⊢
    obtain⟨a1,a2,a3,a4,a5,a6,a7,a8⟩:=D
    obtain⟨Z,J,K,a⟩:=Q
    obtain⟨c1,c2,c3,c4,c5,c6,c7⟩:=S
    obtain⟨d,L,M,e,d5,f⟩:=T
    generalize hx5:({(B.dX 19 (max (B.cT 19) n)).dX 15 (((B.dX 19 (max (B.cT 19) n)).cT 15+1)%18446744073709551616)with ai:=((B.dX 19 (max (B.cT 19) n)).dX 15 (((B.dX 19 (max (B.cT 19) n)).cT 15+1)%18446744073709551616)).ai ++ [({cA:=ak x,bn:=p,cO:=dW m.c.dx m.c.cG (ak x)%A.c.ay,bR:=0,bw:=[]}:aZ)]}:Mk)=m5
    have j:m5.b=B.b∧m5.c=B.c∧m5.ai=B.ai ++ [({cA:=ak x,bn:=p,cO:=dW m.c.dx m.c.cG (ak x)%A.c.ay,bR:=0,bw:=[]}:aZ)]∧m5.aj=B.aj∧m5.main=B.main:=by subst hx5;exact⟨q,q,q,q,q⟩
    have v:m5.h.n.getD 2 0=m.h.n.getD 2 0:=by subst hx5;simp only[Mk.dX];rw[bB Om,bB Om];omega
    have w:m5.h.n.getD 4 0=m.h.n.getD 4 0:=by subst hx5;simp only[Mk.dX];rw[bB Om,bB Om];omega
    have g8:m5.h.n.getD 8 0=m.h.n.getD 8 0:=by subst hx5;simp only[Mk.dX];rw[bB Om,bB Om,f,R]
    clear hx5
    obtain⟨g,E,O,P,l⟩:=j
    have l5:m5.b.length=A.b.length:=by rw[g];omega
    have u:m5.fit:=by
      refine pU h ⟨by rw[E];omega,by rw[E];omega,v,w,by omega⟩ (fun k hk=>?_) (fun k hk=>?_)
      · rw[O,L,J,List.mem_append,List.mem_singleton]at hk
        rcases hk with hk|rfl
        · exact .inl hk
        · right;simp only;omega
      · rw[P,M,K]at hk;exact .inl hk
    have U:=vl m5 x.name u
    generalize m5.field x.name=r at *
    obtain⟨k,C⟩:=r
    simp only at U ⊢
    obtain⟨⟨q1,q2,q3,q4,q5,q6,q7,q8,q9,y⟩,⟨z,s2,s3⟩,s4⟩:=U
    have l8:((C.put (p+32) (mE C.b (k+32:Nat) 8).1).put (k+32) p).b.length=C.b.length:=by rw[kU,kU]
    have o:=lT C (p+32) (mE C.b (k+32:Nat) 8).1
    have t:=lT (C.put (p+32) (mE C.b (k+32:Nat) 8).1) (k+32) p
    generalize C.put (p+32) (mE C.b (k+32:Nat) 8).1=m7 at *
    generalize m7.put (k+32) p=m8 at *
    obtain⟨F,V,W,v4,G,_⟩:=o
    obtain⟨H,X,Y,w4,I,_⟩:=t
    have N:m8.ai=m.ai ++ [({cA:=ak x,bn:=p,cO:=dW m.c.dx m.c.cG (ak x)%A.c.ay,bR:=0,bw:=[]}:aZ)]:=by rw[X,V,s2,O,L,J]
    refine⟨by rw[N];simp,by omega,by omega,by rw[H,F,z,E,d,Z],by rw[w4,v4,s3,l,e,a],.inr ⟨_,N,q,q,by simp only;omega⟩,?_,?_,by rw[I,G];omega⟩
    · have:=congrArg List.length P;rw[M,K]at this;rw[Y,W];omega
    · refine pU s4 ⟨by rw[H,F],by rw[H,F],by rw[I,G],by rw[I,G],by omega⟩ (fun k hk=>.inl (by rw[X,V]at hk;exact hk)) (fun k hk=>.inl (by rw[Y,W]at hk;exact hk))
theorem aao (l:List Nat) (p k a r:Nat):gC (l ++ [p]) k a r=((gC l k a r).2,(gC l k a r).2+eP ((k+l.length:Nat):Int)):=by
  induction l generalizing k a r with
  | nil=>rfl
  | cons x l ih =>
    show gC (l ++ [p]) (k+1) r (r+eP (k:Int))=_
    rw[ih]
    show _=((gC l (k+1) r (r+eP (k:Int))).2,(gC l (k+1) r (r+eP (k:Int))).2+eP ((k+(l.length+1):Nat):Int))
    rw[show k+1+l.length=k+(l.length+1)by omega]
theorem adQ (l:List Nat) (k a r:Nat):r+4*l.length≤(gC l k a r).2∧(l≠[]→r+4*(l.length-1)≤(gC l k a r).1):=by
  induction l generalizing k a r with
  | nil=>simp[gC]
  | cons x l ih =>
    have C:=si (k:=(k:Int)) Oh
    obtain⟨B,A⟩:=ih (k+1) r (r+eP (k:Int))
    refine⟨?_,fun _=>?_⟩
    · show r+4*(l.length+1)≤(gC l (k+1) r (r+eP (k:Int))).2;omega
    · show r+4*(l.length+1-1)≤(gC l (k+1) r (r+eP (k:Int))).1
      by_cases hl:l=[]
      · subst hl;simp[gC]
      · have:=A hl
        have:0<l.length:=by cases l with|nil=>exact absurd q hl|cons _ _=>simp
        omega
theorem vf {len n:Nat} {a:List Nat} (h:kD len a n):a.length≤n+1:=by
  obtain⟨_,B,_⟩:=h
  have A:=(adQ a 0 0 0).2
  by_cases ha:a=[]
  · subst ha;simp
  have:=A ha;omega
theorem pR {len len' n:Nat} {a:List Nat} (h:kD len a n) (hl:len≤len'):kD len' a n :=
  ⟨fun k x hx=>ly (h.1 k x hx) hl,h.2⟩
theorem chain_nil (len:Nat):kD len [] 0:=⟨by simp,by simp[gC],by simp[gC]⟩
structure aaO (m m':Mk) (a:List Nat) (n:Nat):Prop where
  ge:m.b.length≤m'.b.length
  le:m'.b.length≤m.b.length+2100
  c:m'.c=m.c
  ai:m'.ai=m.ai
  aj:m'.aj=m.aj
  main:m'.main=m.main
  chain:kD m'.b.length a (n+1)
  ne:a≠[]
  n8:m'.h.n.getD 8 0=m.h.n.getD 8 0
  n2:m'.h.n.getD 2 0=m.h.n.getD 2 0
  n4:m'.h.n.getD 4 0=m.h.n.getD 4 0
theorem xq (m:Mk) (bw:List Nat) (n src iI:Nat) (h:kD m.b.length bw n):aaO m (m.link bw n src iI).2.2 (m.link bw n src iI).1 n:=by
  obtain⟨R,S,T⟩:=h
  unfold Mk.link
  have F:=fun p=>aao bw p 0 0 0
  rcases hq:gC bw 0 0 0 with⟨A,B⟩
  rw[hq]at S T F
  simp only at S T F ⊢
  rw[Nat.zero_add]at F
  split
  · rename_i hn
    have G:=iM m (gE {next:=0,aD:=List.replicate (eP (bw.length:Int)) 0})
    have Q:=fC m (gE {next:=0,aD:=List.replicate (eP (bw.length:Int)) 0})
    have o:(m.di (gE {next:=0,aD:=List.replicate (eP (bw.length:Int)) 0})).2.h.n.getD 8 0=m.h.n.getD 8 0:=by
      simp only[Mk.di,Mk.dX];rw[bB Om,bB Om]
    rw[vW]at G
    simp only[List.length_replicate]at G
    generalize m.di (gE {next:=0,aD:=List.replicate (eP (bw.length:Int)) 0})=r at *
    obtain⟨p,C⟩:=r
    simp only at G Q o ⊢
    obtain⟨w,y,z,a4,a5,a6,a7,a8⟩:=G
    obtain⟨U,V,W,X⟩:=Q
    have O:=uM (bw.length:Int)
    have H:=si (k:=(bw.length:Int)) Oh
    generalize hx2:C.dX 18 ((C.cT 18+1)%18446744073709551616)=m29
    have u:m29.b=C.b∧m29.c=C.c∧m29.ai=C.ai∧m29.aj=C.aj∧m29.main=C.main:=by subst hx2;exact aaq _ _ _
    have t8:m29.h.n.getD 8 0=C.h.n.getD 8 0:=by subst hx2;exact er Om
    have t2:m29.h.n.getD 2 0=C.h.n.getD 2 0:=by subst hx2;exact er Om
    have t4:m29.h.n.getD 4 0=C.h.n.getD 4 0:=by subst hx2;exact er Om
    clear hx2
    generalize hx3:(if bw.length=0 then m29.put src p else m29.put (jX bw+16) p)=m3
    have v:m3.b.length=m29.b.length∧m3.c=m29.c∧m3.ai=m29.ai∧m3.aj=m29.aj∧m3.main=m29.main∧m3.h=m29.h:=by
      subst hx3
      split
      · exact⟨kU _ _ _,q,q,q,q,q⟩
      · exact⟨kU _ _ _,q,q,q,q,q⟩
    clear hx3
    have t:=kU m3 (jX (bw ++ [p])+24+8*(n-B)) iI
    have P:=lT m3 (jX (bw ++ [p])+24+8*(n-B)) iI
    generalize m3.put (jX (bw ++ [p])+24+8*(n-B)) iI=m4 at *
    obtain⟨Y,Z,d,e,f⟩:=u
    obtain⟨d1,g,i,j,l,I⟩:=v
    obtain⟨J,K,L,M,E,_⟩:=P
    have l2:=congrArg List.length Y
    have ll:m4.b.length=m.b.length+(16+(8+8*eP (bw.length:Int))+7)/8*8:=by omega
    refine⟨by omega,by omega,by rw[J,g,Z,U],by rw[K,i,d,V],by rw[L,j,e,W],by rw[M,l,f,X],⟨fun k x D=>?_,?_,?_⟩,by simp,by rw[E,I];omega,by rw[E,I];omega,by rw[E,I];omega⟩
    · rcases Nat.lt_or_ge k bw.length with hk|hk
      · rw[List.getElem?_append_left hk]at D
        have:=R k x D;omega
      have N:=(List.getElem?_eq_some_iff.1 D).1
      simp at N
      have:k=bw.length:=by omega
      subst this
      rw[List.getElem?_append_right (Nat.le_refl _)]at D
      simp at D
      subst D
      omega
    · rw[F];simp only;omega
    rw[F];simp only;omega
  rename_i hn
  have t:=kU m (jX bw+24+8*(n-A)) iI
  have P:=lT m (jX bw+24+8*(n-A)) iI
  generalize m.put (jX bw+24+8*(n-A)) iI=m4 at *
  obtain⟨J,K,L,M,E,_⟩:=P
  show aaO m m4 bw n
  refine⟨by omega,by omega,J,K,L,M,⟨fun k x D=>by have:=R k x D;omega,by rw[hq];simp only;omega,by rw[hq];simp only;omega⟩,?_,by rw[E],by rw[E],by rw[E]⟩
  rintro rfl
  simp[gC]at hq
  omega
def Mk.n8 (m:Mk):Nat:=m.h.n.getD 8 0
def NY (m:Mk) (bY:Nat):Prop:=∀k∈m.ai,kD m.b.length k.bw (k.bR-1)∧(k.bR=0→k.bw=[])∧k.cA.length≤400∧k.bR≤bY
structure wu (m:Mk):Prop where
  fit:m.fit
  main:kD m.b.length m.main m.n8
  chains:NY m (16*m.n8)
  nd:m.ai.length≤16*m.n8
  nf:m.aj.length≤16*m.n8
  nb:64*m.n8≤m.b.length
  small:m.b.length≤40000
  bY:m.c.bY≤40000
  hd:272≤m.b.length
structure lK (m0 m:Mk) (d e:Nat) (j:Nat):Prop where
  fit:m.fit
  c:m.c=m0.c
  n8:m.n8=m0.n8
  chains:NY m (16*m0.n8+j)
  nd:m.ai.length≤m0.ai.length+d
  nf:m.aj.length≤m0.aj.length+d
  ge:m0.b.length≤m.b.length
  le:m.b.length≤m0.b.length+e
theorem XP {m:Mk} (h:wu m):lK m m 0 0 0:=⟨h.fit,q,q,h.chains,Nat.le_refl _,Nat.le_refl _,Nat.le_refl _,Nat.le_refl _⟩
theorem HY {m:Mk} {x:Pr} (y:aZ) (h:y∈(m.data x).2.ai):y∈m.ai∨y.cA=ak x:=by
  unfold Mk.data at h
  split at h
  · exact .inl h
  simp only at h
  have F:=fC m (jc {cQ:=dW m.c.dx m.c.cG (ak x),bT:=0,eH:=0,entry:=0,array:=0,bR:=0,ak:=ak x})
  generalize m.di (jc {cQ:=dW m.c.dx m.c.cG (ak x),bT:=0,eH:=0,entry:=0,array:=0,bR:=0,ak:=ak x})=r at *
  obtain⟨p,B⟩:=r
  simp only at h F
  have G:=iU B B.ai (B.cT 2) p (dW m.c.dx m.c.cG (ak x)%B.c.ay)
  generalize B.hang B.ai (B.cT 2) p (dW m.c.dx m.c.cG (ak x)%B.c.ay)=r at *
  obtain⟨n,C⟩:=r
  simp only at h G
  generalize hx5:({(C.dX 19 (max (C.cT 19) n)).dX 15 (((C.dX 19 (max (C.cT 19) n)).cT 15+1)%18446744073709551616)with ai:=((C.dX 19 (max (C.cT 19) n)).dX 15 (((C.dX 19 (max (C.cT 19) n)).cT 15+1)%18446744073709551616)).ai ++ [({cA:=ak x,bn:=p,cO:=dW m.c.dx m.c.cG (ak x)%B.c.ay,bR:=0,bw:=[]}:aZ)]}:Mk)=m5 at h
  have I:m5.ai=C.ai ++ [({cA:=ak x,bn:=p,cO:=dW m.c.dx m.c.cG (ak x)%B.c.ay,bR:=0,bw:=[]}:aZ)]:=by subst hx5;rfl
  clear hx5
  have H:(m5.field x.name).2.ai=m5.ai:=by
    unfold Mk.field
    split
    · rfl
    · simp only
      have D:=fC m5 (iv {cQ:=dW m5.c.dx m5.c.cG x.name,bT:=0,dat:=0,ak:=x.name})
      generalize m5.di (iv {cQ:=dW m5.c.dx m5.c.cG x.name,bT:=0,dat:=0,ak:=x.name})=r at *
      obtain⟨q,A⟩:=r
      simp only at D ⊢
      have E:=iU A A.aj (A.cT 4) q (dW m5.c.dx m5.c.cG x.name%A.c.aA)
      generalize A.hang A.aj (A.cT 4) q (dW m5.c.dx m5.c.cG x.name%A.c.aA)=r at *
      obtain⟨M,L⟩:=r
      simp only at E ⊢
      show L.ai=m5.ai
      rw[E.2.1,D.2.1]
  generalize m5.field x.name=r at *
  obtain⟨k,A⟩:=r
  simp only at h H
  have J:=(lT A (p+32) (mE A.b (k+32:Nat) 8).1).2.1
  have K:=(lT (A.put (p+32) (mE A.b (k+32:Nat) 8).1) (k+32) p).2.1
  rw[K,J,H,I,List.mem_append,List.mem_singleton,G.2.1,F.2.1]at h
  rcases h with h|rfl
  · exact .inl h
  exact .inr rfl
theorem BJ {m0 m:Mk} {d e j:Nat} {x:Pr} (h:lK m0 m d e j) (hx:x.name.length≤64∧x.value.length≤256):lK m0 (m.data x).2 (d+1) (e+900) j∧(m.data x).1<(m.data x).2.ai.length∧(m.data x).2.main=m.main:=by
  have g:=KW m x h.fit
  have G:=fun y=>HY (m:=m) (x:=x) y
  have U:=kP x
  generalize m.data x=r at *
  obtain⟨k,H⟩:=r
  simp only at g G ⊢
  have D:=g.ge;have I:=g.le;have O:=h.ge;have P:=h.le;have Q:=h.nd;have R:=h.nf;have S:=g.fl
  have T:H.ai.length≤m.ai.length+1:=by
    rcases g.pre with e|⟨x,e,_⟩ <;> rw[e] <;> simp
  refine⟨⟨g.fit,g.c.trans h.c,(show H.h.n.getD 8 0=m0.n8 from g.n8.trans h.n8),fun y A=>?_,by omega,by omega,by omega,by omega⟩,g.lt,g.main⟩
  have F:y∈m.ai∨(y.bR=0∧y.bw=[]):=by
    rcases g.pre with e|⟨x,e,C,B,_⟩
    · rw[e]at A;exact .inl A
    · rw[e,List.mem_append,List.mem_singleton]at A
      rcases A with A|rfl
      · exact .inl A
      · exact .inr ⟨C,B⟩
  rcases F with E|⟨C,B⟩
  · obtain⟨K,L,M,N⟩:=h.chains y E
    exact⟨pR K D,L,M,N⟩
  refine⟨by rw[C,B];exact chain_nil _,fun _=>B,?_,by omega⟩
  rcases G y A with E|J
  · exact(h.chains y E).2.2.1
  rw[J];omega
theorem BN {m0 m m':Mk} {d e e' j j':Nat} (h:lK m0 m d e j) (hc:m'.c=m.c) (h8:m'.n8=m.n8) (h2:m'.h.n.getD 2 0=m.h.n.getD 2 0) (h4:m'.h.n.getD 4 0=m.h.n.getD 4 0) (hd:m'.ai=m.ai) (hf:m'.aj=m.aj)
    (hg:m.b.length≤m'.b.length) (hl:m'.b.length≤m.b.length+e') (hj:j≤j'):lK m0 m' d (e+e') j':=by
  have:=h.ge;have:=h.le
  refine⟨pU h.fit ⟨by rw[hc],by rw[hc],h2,h4,hg⟩ (fun k hk=>.inl (hd ▸ hk)) (fun k hk=>.inl (hf ▸ hk)),hc.trans h.c,h8.trans h.n8,fun k hk=>?_,by rw[hd];exact h.nd,by rw[hf];exact h.nf,by omega,by omega⟩
  rw[hd]at hk
  obtain⟨A,B,C,D⟩:=h.chains k hk
  exact⟨pR A hg,B,C,by omega⟩
theorem BM {m0 m:Mk} {d e j L:Nat} {o:Ly} (h:lK m0 m d e j) (ho:o.length≤L):lK m0 (m.di o).2 d (e+L) j:=by
  have A:=iM m o
  have B:=fC m o
  have C:(m.di o).2.h.n.getD 8 0=m.h.n.getD 8 0:=by simp only[Mk.di,Mk.dX];rw[bB Om,bB Om]
  exact BN h B.1 C A.2.2.2.2.2.2.1 A.2.2.2.2.2.2.2 B.2.1 B.2.2.1 (by rw[A.2.1];omega) (by rw[A.2.1];omega) (Nat.le_refl _)
theorem KE {m0 m:Mk} {d e j:Nat} (p v:Nat) (h:lK m0 m d e j):lK m0 (m.put p v) d e j :=
  BN (e':=0) h q q q q q q (by rw[kU];exact Nat.le_refl _) (by rw[kU];exact Nat.le_refl _) (Nat.le_refl _)
theorem BL {m0 m:Mk} {d e j n src iI:Nat} {bw:List Nat} (h:lK m0 m d e j) (hc:kD m.b.length bw n):lK m0 (m.link bw n src iI).2.2 d (e+2100) j:=by
  have g:=xq m bw n src iI hc
  exact BN h g.c g.n8 g.n2 g.n4 g.ai g.aj g.ge g.le (Nat.le_refl _)
theorem UE {m0 m:Mk} {d e j i:Nat} {k:aZ} (h:lK m0 m d e j) (hi:i<m.ai.length) (hp:k.bn=(m.ai.getD i known0).bn) (ht:k.cA=(m.ai.getD i known0).cA)
    (hk:kD m.b.length k.bw (k.bR-1)∧(k.bR=0→k.bw=[])∧k.bR≤16*m0.n8+(j+1)):lK m0 {m with ai:=m.ai.set i k} d e (j+1):=by
  have C:m.ai[i]? = some (m.ai.getD i known0):=by simp[List.getD,hi]
  have B:=List.mem_of_getElem? C
  refine⟨pU h.fit ⟨q,q,q,q,Nat.le_refl _⟩ (fun y A=>?_) (fun y A=>.inl A),h.c,h.n8,fun y A=>?_,by simpa using h.nd,h.nf,h.ge,h.le⟩
  · rcases List.mem_or_eq_of_mem_set A with A|rfl
    · exact .inl A
    right;have:=h.fit.2.2.2.2.2.2.1 _ B;simp only;omega
  rcases List.mem_or_eq_of_mem_set A with A|rfl
  · obtain⟨D,E,F,G⟩:=h.chains y A;exact⟨D,E,F,by omega⟩
  exact⟨hk.1,hk.2.1,by rw[ht];exact(h.chains _ B).2.2.1,hk.2.2⟩
def kM (e:Nat) (i:Nat) (m:Mk):Mk :=
  let k:=m.ai.getD i known0
  if k.bR=0 then
    let m29:=(m.put (k.bn+40) e).put (k.bn+56) 1
    {m29 with ai:=m29.ai.set i {k with bR:=1}}
  else
    match m.link k.bw (k.bR-1) (k.bn+48) e with
    | (a,_,m1) =>
      let m29:=m1.put (k.bn+56) (k.bR+1)
      {m29 with ai:=m29.ai.set i {k with bw:=a,bR:=k.bR+1}}
theorem oe (e i:Nat) (r:List Nat) (m:Mk):kX e (i :: r) m=kX e r (kM e i m):=by
  unfold kM
  rw[kX]
  simp only
  split
  · rfl
  rfl
theorem CX {m0 m:Mk} {d e j i en:Nat} (h:lK m0 m d e j) (hi:i<m.ai.length):lK m0 (kM en i m) d (e+2100) (j+1)∧(kM en i m).main=m.main∧(kM en i m).ai.length=m.ai.length:=by
  have K:m.ai[i]? = some (m.ai.getD i known0):=by simp[List.getD,hi]
  have M:=List.mem_of_getElem? K
  obtain⟨I,N,O,P⟩:=h.chains _ M
  unfold kM
  simp only
  generalize hk:m.ai.getD i known0=k at *
  split
  · rename_i h0
    have g:=KE (k.bn+56) 1 (KE (k.bn+40) en h)
    have J:=lT m (k.bn+40) en
    have D:=lT (m.put (k.bn+40) en) (k.bn+56) 1
    have H:((m.put (k.bn+40) en).put (k.bn+56) 1).b.length=m.b.length:=by rw[kU,kU]
    generalize m.put (k.bn+40) en=C at *
    generalize C.put (k.bn+56) 1=m29 at *
    have B:m29.ai=m.ai:=D.2.1.trans J.2.1
    have A:=UE (i:=i) (k:={k with bR:=1}) g (by rw[B];exact hi) (by rw[B,hk]) (by rw[B,hk]) ⟨by simp only;rw[N h0];exact chain_nil _,fun F=>by simp at F,by simp only;omega⟩
    refine⟨⟨A.fit,A.c,A.n8,A.chains,A.nd,A.nf,A.ge,ly A.le Oh⟩,D.2.2.2.1.trans J.2.2.2.1,by simp[B]⟩
  rename_i h0
  have g:=BL (src:=k.bn+48) (iI:=en) h I
  have E:=xq m k.bw (k.bR-1) (k.bn+48) en I
  generalize m.link k.bw (k.bR-1) (k.bn+48) en=r at *
  obtain⟨a,Q,C⟩:=r
  simp only at g E ⊢
  have L:=KE (k.bn+56) (k.bR+1) g
  have D:=lT C (k.bn+56) (k.bR+1)
  have H:=kU C (k.bn+56) (k.bR+1)
  generalize C.put (k.bn+56) (k.bR+1)=m29 at *
  have B:m29.ai=m.ai:=D.2.1.trans E.ai
  have G:=E.chain
  rw[show k.bR-1+1=k.bR by omega,← H]at G
  have A:=UE (i:=i) (k:={k with bw:=a,bR:=k.bR+1}) L (by rw[B];exact hi) (by rw[B,hk]) (by rw[B,hk]) ⟨G,fun F=>by simp at F,by simp only;omega⟩
  exact⟨A,D.2.2.2.1.trans E.main,by simp[B]⟩
theorem DC {m0:Mk} {d en:Nat}:∀(od:List Nat) (m:Mk) (e j:Nat),lK m0 m d e j→(∀i∈od,i<m.ai.length) →
    lK m0 (kX en od m) d (e+2100*od.length) (j+od.length)∧(kX en od m).main=m.main∧(kX en od m).ai.length=m.ai.length
  | [],m,e,j,h,_=>⟨h,q,q⟩
  | i :: r,m,e,j,h,hi=>by
    obtain⟨h1,h2,h3⟩:=CX (en:=en) h (hi i Oq)
    obtain⟨g1,g2,g3⟩:=DC r (kM en i m) (e+2100) (j+1) h1 fun x hx=>by rw[h3];exact hi x (by simp[hx])
    rw[oe]
    refine⟨?_,g2.trans h2,g3.trans h3⟩
    have e1:e+2100*(i :: r).length=e+2100+2100*r.length:=by simp;omega
    have A:j+(i :: r).length=j+1+r.length:=by simp;omega
    rw[e1,A];exact g1
def BD (q:Pr):Prop:=q.name.length≤64∧q.value.length≤256
theorem QT:∀(n j:Nat) (o:List Pr),(∀q∈o,BD q)→∀q∈jT n j o,BD q
  | 0,_,_,h=>h
  | n+1,j,o,h=>by
    unfold jT
    refine QT n (j-1) _ fun q hq=>?_
    rcases List.mem_or_eq_of_mem_set hq with hq|rfl
    · exact h q hq
    · rw[List.getD_eq_getElem?_getD]
      cases hg:o[j-1]? with
      | none=>exact⟨by simp,by simp⟩
      | some y=>exact h y (List.mem_of_getElem? hg)
theorem aid {p:Pr} {o:List Pr} (hp:BD p) (h:∀q∈o,BD q):∀q∈tK p o,BD q:=by
  unfold tK
  simp only
  split
  · exact h
  intro q B
  rcases List.mem_or_eq_of_mem_set B with B|rfl
  · refine QT _ _ _ (fun y A=>?_) q B
    rcases List.mem_append.1 A with A|A
    · exact h y A
    simp at A;subst A;exact⟨by simp,by simp⟩
  exact hp
theorem abT:∀(l o:List Pr),(∀q∈o,BD q)→∀(x:List Pr) (c:Nat),Ry l o=(x,c)→(∀q∈x,BD q)∧x.length≤16
  | [],o,ho,x,c,h=>by
    unfold Ry at h
    split at h
    · obtain⟨rfl,_⟩:=Prod.mk.inj h;simp
    · obtain⟨rfl,_⟩:=Prod.mk.inj h;exact⟨ho,by omega⟩
  | p :: r,o,ho,x,c,h=>by
    unfold Ry at h
    split at h
    · obtain⟨rfl,_⟩:=Prod.mk.inj h;simp
    · rename_i h1
      have hr:=zC.1 (Classical.not_not.1 h1)
      simp only[right,Pr.pb,Bool.and_eq_true]at hr
      exact abT r _ (aid ⟨(iy hr.1).2,dT hr.2⟩ ho) x c h
theorem uz {l x:List Pr} {c:Nat} (h:kZ l=(x,c)):(∀q∈x,BD q)∧x.length≤16:=by
  unfold kZ at h
  split at h
  · obtain⟨rfl,_⟩:=Prod.mk.inj h;simp
  exact abT l [] Oq x c h
theorem JE {ds:List aZ} {k i:Nat} {od:List Nat} (h:i∈mR ds k od):i=k∨i∈od:=by
  unfold mR at h
  simp only[List.mem_append,List.mem_singleton]at h
  rcases h with(h|h)|h
  · exact .inr (List.mem_of_mem_take h)
  · exact .inl h
  exact .inr (List.mem_of_mem_drop h)
theorem BQ (ds:List aZ) (p:Nat) (od:List Nat):∀n,mr ds p od n≤n
  | 0=>Nat.le_refl _
  | n+1=>by
    unfold mr
    split
    · have:=BQ ds p od n;omega
    · exact Nat.le_refl _
theorem ZT (ds:List aZ) (k:Nat) (od:List Nat):(mR ds k od).length=od.length+1:=by
  have:=BQ ds (ij ds k) od od.length
  unfold mR;simp;omega
structure qu (m0 m:Mk) (ps:List (List UInt8)) (od:List Nat) (n:Nat):Prop where
  app:lK m0 m n (900*n) 0
  main:m.main=m0.main
  idx:∀i∈od,i<m.ai.length
  len:od.length=n∧ps.length=n
  ps:∀t∈ps,t.length≤400
theorem CK {m0 m:Mk} {ps:List (List UInt8)} {od:List Nat} {n:Nat} {x:Pr} (h:qu m0 m ps od n) (hx:BD x) :
    qu m0 (m.data x).2 (ps ++ [((m.data x).2.ai.getD (m.data x).1 known0).cA]) (mR (m.data x).2.ai (m.data x).1 od) (n+1):=by
  obtain⟨C,D,F⟩:=BJ h.app hx
  have G:=KW m x h.app.fit
  refine⟨by rw[show 900*(n+1)=900*n+900 by omega];exact C,F.trans h.main,fun i B=>?_,⟨by rw[ZT,h.len.1],by simpa using h.len.2⟩,fun t A=>?_⟩
  · rcases JE B with rfl|B
    · exact D
    have:=h.idx i B
    have H:m.ai.length≤(m.data x).2.ai.length:=by
      rcases G.pre with e|⟨y,e,_⟩ <;> rw[e] <;> simp
    omega
  rcases List.mem_append.1 A with A|A
  · exact h.ps t A
  simp at A
  subst A
  have E:(m.data x).2.ai[(m.data x).1]? = some ((m.data x).2.ai.getD (m.data x).1 known0):=by simp[List.getD,D]
  exact(C.chains _ (List.mem_of_getElem? E)).2.2.1
theorem vh {m0:Mk}:∀(l:List Pr) (m:Mk) (ps:List (List UInt8)) (od:List Nat) (n:Nat),qu m0 m ps od n→(∀q∈l,BD q) →
    qu m0 (iH l m ps od).2.2 (iH l m ps od).1 (iH l m ps od).2.1 (n+l.length)
  | [],m,ps,od,n,h,_=>h
  | x :: r,m,ps,od,n,h,hb=>by
    have h1:=CK h (hb x Oq)
    have h2:=vh r _ _ _ _ h1 fun q hq=>hb q (by simp[hq])
    rw[show n+(x :: r).length=n+1+r.length by simp;omega]
    exact h2
theorem qx {m:Mk} (h:wu m):qu m m [] [] 0:=⟨XP h,q,by simp,⟨q,q⟩,by simp⟩
end Go.Wk
namespace Go.Wk
open Go Go.RowKit
section
variable {P:Program} {ops:Array Oper} {md:Region.Mode} {C:World→Prop} {Q:Exit→Act→World→Prop} {QN:Act→World→Prop}
variable {n:Nat} {A:Fr n} {D:List Deferred} {l:List (Nat × Value)} {w:World} {f:Nat} {listed:Array Bool}
theorem BU {R:Act→World→Prop} {id:Nat} {lo:List Oper} {a:Act} (C:World→Prop) (hm:P.follows .mixedOrders=true) (hk:∀a' w',R a' w'→Q .normal a' w')
  (h:∀w',Md [] w w'→mC P .any lo.toArray C R lo.length (Array.replicate lo.length false) a w'):(Code.region id lo.toArray true).wp P Q a w:=by
 refine wp_region_any hm (qm (C:=C) (QN:=R) hk _ _ _ _ ?_)
 have:=h _ (Md.drew w)
 simpa using this
theorem tX {a:Act} (hr:(Region.ready md ops listed).isEmpty=true) (h:QN a w):mC P md ops C QN 0 listed a w:=⟨by simpa using hr,h⟩
theorem iw {i d:Nat} {op:Op} {ty:TypeId} {ps:String} {af:Array Edge} (v:Value) (hi:ops[i]? = some ⟨some d,op,ty,ps,af,none⟩) (hs:Region.noSelect ops=true) (hB:((Region.ready md ops listed).contains i && Region.free md ops listed i)=true) (hC:C w)
    (hv:∀w',C w'→dS P ⟨some d,op,ty,ps,af,none⟩ (b9 A D l).eval w' v) (k:mC P md ops C QN f (listed.setIfInBounds i true) (b9 A D ((d,v) :: l)) w):mC P md ops C QN (f+1) listed (b9 A D l) w:=by
  simp only[Bool.and_eq_true]at hB
  exact tc hi (Region.noSelect_spec hs) f listed _ w (Region.free_spec hi hB.2) (by simpa using hB.1) hC (.inl ⟨by simp[Region.wanted],fun w' B=>hv w' B⟩) k
theorem yS {i:Nat} {o:Oper} {a:Act} {K:Act→World→Prop} (hi:ops[i]? = some o) (hg:o.guard=none) (h:wpList P ops (fun e a' w'=>e = .normal∧C w'∧K a' w') [o] a w):opC P ops C i K a w:=by
  have D:Region.wanted o (yielded ops a.tmps)=true:=by unfold Region.wanted;rw[hg]
  unfold opC
  simp only[hi]
  rw[if_pos D]
  unfold wpList at h
  rw[if_pos D]at h
  rcases h with h|h
  · unfold Oper.wp at *
    generalize (execOp a.eval o).run P w=r at *
    cases r with
    | ok x w' =>
      cases x <;> simp only[Oper.upon]at h ⊢
      case value v=>exact(show _∧_ from h).2
      case skip=>exact(show _∧_ from h).2
      case defer d=>exact(show _∧_ from h).2
      case enter f args =>
        refine h.mono fun e B A=>?_
        cases e with
        | returned v=>exact(show _∧_ from A).2
        | panicked c=>exact absurd A.1 Oq
        | outgrown=>obtain⟨_,_,A⟩:=A;exact absurd A.1 Oq
      case row r args=>exact h.mono fun v B A=>(show _∧_ from A).2
    | halt x w' =>
      cases x <;> simp only[Oper.upon]at h ⊢
      exact absurd h.1 Oq
  obtain⟨_,_,_,A⟩:=h;exact absurd A.1 Oq
theorem ic {i:Nat} {o:Oper} {a:Act} (hr:decide (Region.ready md ops listed=[i])=true) (hi:ops[i]? = some o) (hg:o.guard=none)
    (h:wpList P ops (fun e a' w'=>e = .normal∧C w'∧mC P md ops C QN f (listed.setIfInBounds i true) a' w') [o] a w):mC P md ops C QN (f+1) listed a w:=by
  have hr:=dT hr
  refine⟨fun A=>(by rw[hr]at A;cases A),fun k hk=>?_⟩
  rw[hr]at hk
  have:k=i:=by simpa using hk
  subst this
  exact yS hi hg h
theorem HE {i j:Nat} {o o':Oper} {a:Act} (hr:decide (Region.ready md ops listed=[i,j])=true) (hi:ops[i]? = some o) (hg:o.guard=none) (hj:ops[j]? = some o') (hg':o'.guard=none)
    (h:wpList P ops (fun e a' w'=>e = .normal∧C w'∧mC P md ops C QN f (listed.setIfInBounds i true) a' w') [o] a w)
    (h':wpList P ops (fun e a' w'=>e = .normal∧C w'∧mC P md ops C QN f (listed.setIfInBounds j true) a' w') [o'] a w):mC P md ops C QN (f+1) listed a w:=by
  have hr:=dT hr
  refine⟨fun A=>(by rw[hr]at A;cases A),fun k hk=>?_⟩
  rw[hr]at hk
  have:k=i∨k=j:=by simpa using hk
  rcases this with rfl|rfl
  · exact yS hi hg h
  exact yS hj hg' h'
end
theorem UZ {β:Type} {f:β→Value} {h1:∀x,(f x).oneCell'=true} {ok:β→Prop} {w w':World} {R R':Nat→Prop}:∀{xs:List β} {cs:List Value},tq (vN f h1 ok) w R cs xs→tq (vN f h1 ok) w' R' cs xs
 | [],_,h=>h
 | _ :: _,_,⟨c,r,h0,h1,h2⟩=>⟨c,r,h0,h1,UZ h2⟩
theorem ED {β:Type} {f:β→Value} {h1:∀x,(f x).oneCell'=true} {ok:β→Prop} {w w':World} {R R':Nat→Prop} {v:Value} {xs:List β} (h:Lz (vN f h1 ok) w R v xs) (m:Md [] w w'):Lz (vN f h1 ok) w' R' v xs:=by
 obtain⟨a,A,B,C,h1,D,E,F,G⟩:=h
 exact⟨a,A,B,C,h1,D,E,fun p I j u H=>m.cell (F p I j u H) Oq,UZ G⟩
theorem yI {β:Type} {f:β→Value} {h1:∀x,(f x).oneCell'=true} {ok:β→Prop} {w:World} {R:Nat→Prop} {b e:Nat} {x:β} (h:cg w b [f x] e) (hx:ok x):Lz (vN f h1 ok) w R (.slice (some ⟨b,0,none⟩) 1 1) [x]:=by
  have B:Ls (vN f h1 ok) w (fun _=>True) (.slice (some ⟨b,0,none⟩) 1 1) [x]:=Ls.e5 (cs:=[f x]) h ⟨[f x],[],q,⟨q,hx⟩,q⟩ q Om trivial
  exact ED B.lz (Md.refl _ _)
structure wz {α:Type} (T:Dt α) (w0:World) (Q0:Nat→Prop) (e:TypeId) (w:World) (R:Nat→Prop) (v:Value) (xs:List α):Prop where
  md:Md [] w0 w
  s:∀b,Q0 b→b<w0.heap.size→R b
  t:∀b,R b→Q0 b
  up:Up w R
  ow:Ow T e (ck [] w0) w R v xs
section
variable {α:Type} {T:Dt α} {P:Program} {ops:Array Oper} {Q:Exit→Act→World→Prop} {n:Nat} {A:Fr n} {D:List Deferred} {l:List (Nat × Value)} {w:World} {rest:List Oper}
theorem wz.mk0 {w0 w1 w:World} {Q0:Nat→Prop} {e b:Nat} (uQ:Up w0 Q0) (h1:Md [] w0 w1) (h2:w1.heap.size≤b) (h3:b<w.heap.size) (hm:Md [] w1 w) (hB:cg w b [] e) :
    ∃R,wz T w0 Q0 e w R (.slice (some ⟨b,0,none⟩) 0 0) []:=by
  obtain⟨R,s,t,C,u⟩:=kR (uQ.md h1) h2 h3 hm
  exact⟨R,h1.k hm,fun b A B=>s b A (lj B h1.size),t,u,Ow.e5 hB q q Om (.inr (ly h1.size h2)) C⟩
theorem wz.o {w0 w w':World} {Q0 R:Nat→Prop} {e:TypeId} {v:Value} {xs:List α} (h:wz T w0 Q0 e w R v xs) (m:Md [] w w'):wz T w0 Q0 e w' R v xs :=
  ⟨h.md.k m,h.s,h.t,h.up.md m,h.ow.o m⟩
instance alH {w0 w w':World} {Q0 R:Nat→Prop} {e:TypeId} {v:Value} {xs:List α}:Tp w w' (wz T w0 Q0 e w R v xs) (wz T w0 Q0 e w' R v xs ):=⟨fun m h=>h.o m⟩
theorem lD {d:Nat} {x y:Operand} {ty:TypeId} {ps:String} {af:Array Edge} {t e:TypeId} {sz by':Nat} {v u:Value} {xs ys:List α} {w0:World} {Q0 R:Nat→Prop} (hn:T.n=sz) (ht:P.underlying t=some (.slice e)) (hE:xW P e sz by'=true) (hx:ev n l x=some v) (hy:ev n l y=some u)
    (F:wz T w0 Q0 e w R v xs) (hY:Lz T w R u ys) (h63:xs.length+ys.length≤100000) (hb:by'≤1000)
    (k:∀v' w' R',wz T w0 Q0 e w' R' v' (xs ++ ys)→Md (ah v).toList w w'→wpList P ops Q rest (b9 A D ((d,v') :: l)) w') :
    wpList P ops Q (⟨some d,.call {callee:=.builtin .append,args:=#[x,y],argTypes:=#[t,t]},ty,ps,af,none⟩ :: rest) (b9 A D l) w:=by
  refine qh hn ht hE hx hy F.ow hY F.up (fun b hb=>.inr (ly F.md.size hb)) Oh ?_ ?_
  · exact ly (Nat.mul_le_mul h63 hb) Om
  intro v' w' R' E G H I B J K L
  refine k v' w' R' ⟨F.md.ez B fun b hb=>(F.ow.2 b hb).1,fun b hb C=>E b (F.s b hb C) (lj C F.md.size),fun b hb=>F.t b (G b hb),H,I⟩ B
end
theorem agR {ds:List aZ} {p q:Nat} {od:List Nat} (h:0<q):mr ds p od q=if p<ij ds (od.getD (q-1) 0)then mr ds p od (q-1)else q:=by
  obtain⟨n,rfl⟩:∃n,q=n+1:=⟨q-1,by omega⟩
  rfl
theorem aje {ds:List aZ} {p q:Nat} {od:List Nat} (h:¬0<q):mr ds p od q=q:=by
  obtain rfl:q=0:=by omega
  rfl
theorem pK {ds:List aZ} {i:Nat} {x:aZ} (h:ds[i]? = some x):ij ds i=x.bn:=by simp[ij,List.getD,h]
theorem uF {l:List Nat} {i x:Nat} (h:l[i]? = some x):l.getD i 0=x:=by simp[List.getD,h]
theorem rG {ds:List aZ} {i:Nat} {x:aZ} (h:ds[i]? = some x):ds.getD i known0=x:=by simp[List.getD,h]
theorem Yn (m:Mk) (x:Pr) (h:m.fit):m.ai.length≤(m.data x).2.ai.length:=by
  rcases(KW m x h).pre with e|⟨y,e,_⟩ <;> rw[e] <;> simp
theorem wE {l:List Pr} {m:Mk} {ps:List (List UInt8)} {od:List Nat} {i:Nat} (h:¬i<l.length):iH (l.drop i) m ps od=(ps,od,m):=by rw[iL Oh];rfl
theorem zy {l:List Pr} {m m':Mk} {ps:List (List UInt8)} {od:List Nat} {i k:Nat} {x:Pr} {y:aZ} {q:Nat} (h:l[i]? = some x) (hd:m.data x=(k,m')) (hy:m'.ai[k]? = some y) (hq:mr m'.ai (ij m'.ai k) od od.length=q) :
    iH (l.drop i) m ps od=iH (l.drop (i+1)) m' (ps ++ [y.cA]) (od.take q ++ [k] ++ od.drop q):=by
  rw[eN h]
  show(match m.data x with|(k,m1)=>iH (l.drop (i+1)) m1 (ps ++ [(m1.ai.getD k known0).cA]) (mR m1.ai k od))=_
  rw[hd]
  simp only[rG hy]
  unfold mR
  rw[hq]
theorem CJ {m0 m m':Mk} {ps:List (List UInt8)} {od:List Nat} {n k q:Nat} {x:Pr} {y:aZ} (h:qu m0 m ps od n) (hx:BD x) (hd:m.data x=(k,m')) (hy:m'.ai[k]? = some y) (hq:mr m'.ai (ij m'.ai k) od od.length=q) :
    qu m0 m' (ps ++ [y.cA]) (od.take q ++ [k] ++ od.drop q) (n+1):=by
  have:=CK h hx
  rw[hd]at this
  simp only[rG hy]at this
  unfold mR at this
  rw[hq]at this
  exact this
theorem wK {m:Mk} {od:List Nat} {j:Nat} {its:List kg} (h:¬j<od.length):its ++ jG m (od.drop j)=its:=by rw[iL Oh];simp[jG]
theorem OO {m:Mk} {od:List Nat} {j i:Nat} {its:List kg} {x:aZ} (h:od[j]? = some i) (hx:m.ai[i]? = some x) :
    its ++ jG m (od.drop j)=(its ++ [{bn:=x.bn,cQ:=dW m.c.dx m.c.cG x.cA}]) ++ jG m (od.drop (j+1)):=by
  rw[eN h]
  simp only[jG,List.map_cons,pK hx,rG hx,List.append_assoc,List.singleton_append]
theorem yA {m:Mk} {od:List Nat} {j e:Nat} (h:¬j<od.length):kX e (od.drop j) m=m:=by rw[iL Oh];rfl
theorem DF {m:Mk} {od:List Nat} {j i e:Nat} (h:od[j]? = some i):kX e (od.drop j) m=kX e (od.drop (j+1)) (kM e i m):=by rw[eN h,oe]
theorem RD {m0 m:Mk} {d e e' j:Nat} (h:lK m0 m d e j) (he:e≤e'):lK m0 m d e' j:=⟨h.fit,h.c,h.n8,h.chains,h.nd,h.nf,h.ge,ly h.le Oh⟩
theorem afo {m:Mk} {e i:Nat} {k:aZ} (hk:m.ai[i]? = some k) (h0:k.bR=0) :
    kM e i m={(m.put (k.bn+40) e).put (k.bn+56) 1 with ai:=m.ai.set i {k with bR:=1}}:=by
  unfold kM
  simp only[rG hk]
  rw[if_pos h0]
  rfl
theorem afp {m m1:Mk} {e i t:Nat} {a:List Nat} {k:aZ} (hk:m.ai[i]? = some k) (h0:¬k.bR=0) (hl:m.link k.bw (k.bR-1) (k.bn+48) e=(a,t,m1)) :
    kM e i m={m1.put (k.bn+56) (k.bR+1)with ai:=m1.ai.set i {k with bw:=a,bR:=k.bR+1}}:=by
  unfold kM
  simp only[rG hk]
  rw[if_neg h0,hl]
  rfl
theorem kL {m x m29 m3 z:Mk} {raw l:List Pr} {c cr mono e t:Nat} {bV:Ly} {ps:List (List UInt8)} {od a:List Nat} (h1:kZ raw=(l,c)) (h2:¬c≠0) (h3:¬m.cT 9=18446744073709551615) (h4:iH l m [] []=(ps,od,x))
    (h5:x.di (eA {seq:=(x.cT 9+1)%18446744073709551616,cr:=cr,mono:=mono,bV:=bV,xor:=nk 0 ps,aD:=jG x od})=(e,m29)) (h6:m29.link m29.main (m29.cT 8) 176 e=(a,t,m3))
    (h7:kX e od (let m4:=({m3 with main:=a}:Mk).dX 11 (a.getD 0 0);{m4 with h:={m4.h with eu:=jX a%4294967296,eC:=t%4294967296}})=z) :
    m.append raw cr mono bV=if z.c.bY<z.b.length then(0,15,m)else
      (let seq:=(x.cT 9+1)%18446744073709551616
      let m7:=if m29.cT 8=0 then(z.dX 10 seq).dX 12 cr else z
      let m8:=m7.dX 8 ((m7.cT 8+1)%18446744073709551616)
      let m9:=((m8.dX 9 seq).dX 13 cr).dX 14 mono
      (seq,0,{m9 with h:={m9.h with bV:=bV,eM:=e}})):=by
  unfold Mk.append
  simp only[h1]
  rw[if_neg h2,if_neg h3]
  simp only[h4,h5,h6]
  simp only at h7
  rw[h7]
end Go.Wk
namespace Go.Wk
open Go Go.RowKit
def o6 (P:Program) (md:Region.Mode) (ops:Array Oper) (C:Array Bool→World→Prop) (Q:Act→World→Prop):Nat→Array Bool→Act→World→Prop
  | 0,listed,a,w=>Region.ready md ops listed=[]∧Q a w
  | f+1,listed,a,w=>(Region.ready md ops listed=[]→Q a w)∧∀i∈Region.ready md ops listed,opC P ops (C (listed.setIfInBounds i true)) i (o6 P md ops C Q f (listed.setIfInBounds i true)) a w
section
variable {P:Program} {ops:Array Oper} {md:Region.Mode} {C:Array Bool→World→Prop} {Q:Exit→Act→World→Prop} {QN:Act→World→Prop}
variable {n:Nat} {A:Fr n} {D:List Deferred} {l:List (Nat × Value)} {w:World} {f:Nat} {listed:Array Bool}
theorem td (hQ:∀a w,QN a w→Q .normal a w):∀(f:Nat) (listed:Array Bool) (a:Act) (w:World),o6 P md ops C QN f listed a w→wpAny P md ops Q f listed a w
  | 0,_,_,_,h=>⟨h.1,hQ _ _ h.2⟩
  | f+1,listed,a,w,h=>⟨fun h0=>hQ _ _ (h.1 h0),fun i hi=>by
      have h1:=h.2 i hi
      unfold opC at h1
      unfold wpOp
      split
      · rename_i ho;rw[ho]at h1;exact td hQ f _ a w h1
      · rename_i o ho
        rw[ho]at h1
        simp only at h1
        split
        · rename_i hw;rw[if_pos hw]at h1;exact .inl (GL (fun a' w' hx=>td hQ f _ a' w' hx.2) h1)
        · rename_i hw;rw[if_neg hw]at h1;exact td hQ f _ _ w h1⟩
theorem MA {i:Nat} {C C':World→Prop} {K:Act→World→Prop} {a:Act} (hC:∀x,C x→C' x) (h:opC P ops C i K a w):opC P ops C' i K a w:=by
  unfold opC at *
  split
  · rename_i ho;rw[ho]at h;exact h
  rename_i o ho
  rw[ho]at h
  simp only at h
  split
  · rename_i hw;rw[if_pos hw]at h;exact GL (Q:=QF) (fun B D A=>⟨hC _ A.1,A.2⟩) h
  rename_i hw;rw[if_neg hw]at h;exact h
def Wt (md:Region.Mode) (ops:Array Oper) (i:Nat) (L:Array Bool):Prop:=∀j oj,ops[j]? = some oj→(∃e∈oj.after,Region.binds md e=true∧e.on=i)→L.getD j true=false
theorem Nb {i:Nat} {oi:Oper} {v:Value} (hi:ops[i]? = some oi) (hsel:∀(j:Nat) (o:Oper) cs b,ops[j]? = some o→o.op≠.select cs b) (hind:∀L x,C (L.setIfInBounds i true) x→C L x) (hmono:∀L j x,C L x→C (L.setIfInBounds j true) x) :
    ∀(f:Nat) (listed:Array Bool) (a:Act) (w:World),
      (∀j oj,ops[j]? = some oj→j≠i→listed.getD j true=false→(∀e∈oj.after,Region.binds md e=true→e.on≠i)→oi.apart ops oj=true) →
      i∈Region.ready md ops listed→C listed w→Wt md ops i listed→(∀L,Wt md ops i L→Qv P ops (C L) oi v a) →
      o6 P md ops C QN f (listed.setIfInBounds i true) (a.put oi.dst v) w→o6 P md ops C QN (f+1) listed a w:=by
  intro f
  induction f with
  | zero =>
    intro listed a w _ F Q R W H
    refine⟨fun h=>(by rw[h]at F;cases F),fun j V=>?_⟩
    by_cases hji:j=i
    · subst hji;exact MA (fun x O=>hmono _ _ _ O) ((W listed R).opC hi Q H)
    · have:=ready_mono V hji
      rw[H.1]at this
      cases this
  | succ f ih =>
    intro listed a w A F Q R W H
    refine⟨fun h=>(by rw[h]at F;cases F),fun j V=>?_⟩
    by_cases hji:j=i
    · subst hji;exact MA (fun x O=>hmono _ _ _ O) ((W listed R).opC hi Q H)
    · have l:=H.2 j (ready_mono V hji)
      obtain⟨D,oj,B,K⟩:=mem_ready.1 V
      have E:∀e∈oj.after,Region.binds md e=true→e.on≠i:=fun e U I Z=>by
        have J:=K e U I
        have g:=(mem_ready.1 F).1
        rw[Z]at J
        rcases Nat.lt_or_ge i listed.size with X|X
        · simp[X]at g J;rw[g]at J;cases J
        · simp[Array.getElem?_eq_none X]at J
      have M:=A j oj B hji D E
      obtain⟨_,_,n⟩:=Oper.apart_spec M
      have hfree':∀k G,ops[k]? = some G→k≠i→(listed.setIfInBounds j true).getD k true=false →
          (∀e∈G.after,Region.binds md e=true→e.on≠i)→oi.apart ops G=true:=fun k G hk c N d=>by
        refine A k G hk c ?_ d
        by_cases hjk:j=k
        · subst hjk;exact D
        · rw[getD_set_ne true hjk]at N;exact N
      have hW':Wt md ops i (listed.setIfInBounds j true):=fun k G hk ⟨e,U,I,ho⟩=>by
        by_cases hjk:j=k
        · subst hjk;rw[B]at hk;cases hk;exact absurd ho (E e U I)
        · rw[getD_set_ne true hjk];exact R k G hk ⟨e,U,I,ho⟩
      rw[Array.setIfInBounds_comm _ _ (Ne.symm hji)]at l
      have h1':=MA (fun x O=>hind _ _ O) l
      refine MB B M (fun cs b=>hsel j oj cs b B) (fun b u t I Y p=>?_) (hmono _ _ _ Q) h1'
      have hk:∀L,Wt md ops i L→Qv P ops (C L) oi v (b.put oj.dst u):=fun L r=>((W L r).same I).keep (fun cs b=>hsel i oi cs b hi) n
      exact ih (listed.setIfInBounds j true) _ t hfree' (ready_mono F (Ne.symm hji)) Y hW' hk p
def CI (k:Nat) (S T:List Nat) (w:World) (L:Array Bool) (w':World):Prop:=Md S w w'∧(L.getD k true=false→Md T w w')
theorem CI.mono {k:Nat} {S T:List Nat} {w0:World} (L:Array Bool) (j:Nat) (x:World) (h:CI k S T w0 L x):CI k S T w0 (L.setIfInBounds j true) x:=⟨h.1,fun hk=>h.2 (by
  by_cases hj:j=k
  · subst hj
    rcases Nat.lt_or_ge j L.size with h'|h'
    · simp[h']at hk
    · simp[Array.getElem?_eq_none h']at hk
  · rwa [getD_set_ne true hj]at hk)⟩
theorem CI.ind {k i:Nat} {S T:List Nat} {w0:World} (hi:i≠k) (L:Array Bool) (x:World) (h:CI k S T w0 (L.setIfInBounds i true) x):CI k S T w0 L x:=⟨h.1,fun hk=>h.2 (by rwa [getD_set_ne true hi])⟩
def wtB (md:Region.Mode) (ops:Array Oper) (i:Nat) (L:Array Bool):Bool:=(List.range ops.size).all fun j=>match ops[j]? with|some oj=>!(oj.after.any fun e=>Region.binds md e && e.on == i) || !(L.getD j true)|none=>true
theorem akB {i:Nat} {L:Array Bool} (h:wtB md ops i L=true):Wt md ops i L:=fun j oj hj ⟨e,he,hb,ho⟩=>by
  have hs:j<ops.size:=by
    rcases Nat.lt_or_ge j ops.size with A|A
    · exact A
    · rw[Array.getElem?_eq_none A]at hj;cases hj
  have:=List.all_eq_true.1 h j (List.mem_range.2 hs)
  rw[hj]at this
  simp only[Bool.or_eq_true,Bool.not_eq_true',Array.any_eq_false']at this
  rcases this with B|B
  · exact absurd (by rw[hb,Bool.true_and];simpa using ho) (B e he)
  · exact B
def aeo (md:Region.Mode) (ops:Array Oper) (i k:Nat):Bool:=match ops[k]? with|some oj=>oj.after.any fun e=>Region.binds md e && e.on == i|none=>false
theorem agE {i k:Nat} {L:Array Bool} (h:aeo md ops i k=true) (hW:Wt md ops i L):L.getD k true=false:=by
  unfold aeo at h
  split at h
  · rename_i oj hj
    obtain⟨e,B,A⟩:=Array.any_eq_true'.1 h
    simp only[Bool.and_eq_true,beq_iff_eq]at A
    exact hW k oj hj ⟨e,B,A.1,A.2⟩
  cases h
variable {k:Nat} {S T:List Nat} {w0:World}
theorem RB {a:Act} (hr:(Region.ready md ops listed).isEmpty=true) (h:QN a w):o6 P md ops C QN 0 listed a w:=⟨by simpa using hr,h⟩
theorem nX {i d:Nat} {op:Op} {ty:TypeId} {ps:String} {af:Array Edge} (v:Value) (hi:ops[i]? = some ⟨some d,op,ty,ps,af,none⟩) (hs:Region.noSelect ops=true) (hB:((Region.ready md ops listed).contains i && Region.free md ops listed i && wtB md ops i listed && !(i == k))=true) (hC:CI k S T w0 listed w)
    (hv:∀w',Md S w0 w'→(aeo md ops i k=true→Md T w0 w')→dS P ⟨some d,op,ty,ps,af,none⟩ (b9 A D l).eval w' v) (q:o6 P md ops (CI k S T w0) QN f (listed.setIfInBounds i true) (b9 A D ((d,v) :: l)) w):o6 P md ops (CI k S T w0) QN (f+1) listed (b9 A D l) w:=by
  simp only[Bool.and_eq_true,Bool.not_eq_true',beq_eq_false_iff_ne]at hB
  obtain⟨⟨⟨C,E⟩,F⟩,G⟩:=hB
  exact Nb hi (Region.noSelect_spec hs) (CI.ind G) CI.mono f listed _ w (Region.free_spec hi E) (by simpa using C) hC (akB F) (fun L H=>.inl ⟨by simp[Region.wanted],fun w' B=>hv w' B.1 fun I=>B.2 (agE I H)⟩) q
theorem jo {i:Nat} {o:Oper} {a:Act} (hr:decide (Region.ready md ops listed=[i])=true) (hi:ops[i]? = some o) (hg:o.guard=none)
    (h:wpList P ops (fun e a' w'=>e = .normal∧C (listed.setIfInBounds i true) w'∧o6 P md ops C QN f (listed.setIfInBounds i true) a' w') [o] a w):o6 P md ops C QN (f+1) listed a w:=by
  have hr:=dT hr
  refine⟨fun A=>(by rw[hr]at A;cases A),fun k hk=>?_⟩
  rw[hr]at hk
  have:k=i:=by simpa using hk
  subst this
  exact yS hi hg h
theorem aaU {i j:Nat} {o o':Oper} {a:Act} (hr:decide (Region.ready md ops listed=[i,j])=true) (hi:ops[i]? = some o) (hg:o.guard=none) (hj:ops[j]? = some o') (hg':o'.guard=none)
    (h:wpList P ops (fun e a' w'=>e = .normal∧C (listed.setIfInBounds i true) w'∧o6 P md ops C QN f (listed.setIfInBounds i true) a' w') [o] a w)
    (h':wpList P ops (fun e a' w'=>e = .normal∧C (listed.setIfInBounds j true) w'∧o6 P md ops C QN f (listed.setIfInBounds j true) a' w') [o'] a w):o6 P md ops C QN (f+1) listed a w:=by
  have hr:=dT hr
  refine⟨fun A=>(by rw[hr]at A;cases A),fun k hk=>?_⟩
  rw[hr]at hk
  have:k=i∨k=j:=by simpa using hk
  rcases this with rfl|rfl
  · exact yS hi hg h
  exact yS hj hg' h'
theorem ah9 {R:Act→World→Prop} {id:Nat} {lo:List Oper} {a:Act} (k:Nat) (S T:List Nat) (hm:P.follows .mixedOrders=true) (hk:∀a' w',R a' w'→Q .normal a' w')
  (h:∀w',Md [] w w'→o6 P .any lo.toArray (CI k S T w) R lo.length (Array.replicate lo.length false) a w'):(Code.region id lo.toArray true).wp P Q a w:=by
 refine wp_region_any hm (td (C:=CI k S T w) (QN:=R) hk _ _ _ _ ?_)
 have:=h _ (Md.drew w)
 simpa using this
end
end Go.Wk
namespace Go.Wk
open Go Go.Op
theorem abf:∀a:List UInt8,bytesLess a a=false
  | []=>rfl
  | x :: a=>by simp[bytesLess,abf a]
theorem NT:∀{a b c:Ly},bytesLess a b=true→bytesLess b c=true→bytesLess a c=true
  | _,[],_,h,_=>by unfold bytesLess at h;cases h
  | _,_ :: _,[],_,h=>by unfold bytesLess at h;cases h
  | [],_ :: _,_ :: _,_,_=>rfl
  | x :: a,y :: b,z :: c,h1,h2=>by
    simp only[bytesLess,Bool.or_eq_true,decide_eq_true_eq,Bool.and_eq_true,beq_iff_eq]at *
    rcases h1 with h1|⟨rfl,h1⟩<;>rcases h2 with h2|⟨rfl,h2⟩
    · exact .inl (UInt8.lt_trans h1 h2)
    · exact .inl h1
    · exact .inl h2
    · exact .inr ⟨q,NT h1 h2⟩
theorem abg:∀{a b:Ly},bytesLess a b=false→bytesLess b a=false→a=b
  | [],[],_,_=>rfl
  | [],_ :: _,h,_=>by unfold bytesLess at h;cases h
  | _ :: _,[],_,h=>by unfold bytesLess at h;cases h
  | x :: a,y :: b,h1,h2=>by
    simp only[bytesLess,Bool.or_eq_false_iff,decide_eq_false_iff_not,Bool.and_eq_false_iff,beq_eq_false_iff_ne]at *
    have hxy:x=y:=by
      have A:=h1.1;have B:=h2.1
      exact UInt8.le_antisymm (UInt8.not_lt.1 B) (UInt8.not_lt.1 A)
    subst hxy
    have A:=h1.2.resolve_left Oq
    have B:=h2.2.resolve_left Oq
    rw[abg A B]
theorem aaF {p q:zu} (hp:right p=true) (hq:right q=true) (h:whole p=whole q):p=q:=by
  have A:=(oO ((mY p).2 hp)).2
  have B:=(oO ((mY q).2 hq)).2
  rw[← A,h,B]
end Go.Wk
namespace Go.Wk
open Go Go.RowKit
section
variable {P:Program} {n:Nat} {A:Fr n} {D:List Deferred} {l:List (Nat × Value)} {w:World} {d:Option Tmp} {ty:TypeId} {ps:String} {af:Array Edge} {g:Option (Nat × Bool)}
end
def abW (p:Pr):List Pr→Bool
  | []=>false
  | q :: r=>if p.pb=q.pb then true else abW p r
def allIn (b:List Pr):List Pr→Bool
  | []=>true
  | p :: r=>if abW p b=true then allIn b r else false
theorem yW {p q:Pr}:p.pb=q.pb↔p=q:=by
  cases p;cases q;simp[Pr.pb]
theorem abX {p:Pr} {l:List Pr}:abW p l=true↔p∈l:=by
  induction l with
  | nil=>simp[abW]
  | cons q r ih =>
    unfold abW
    split
    · rename_i h;rw[yW]at h;simp[h]
    · rename_i h;rw[yW]at h;simp[h,ih]
end Go.Wk
namespace Go.Wk
open Go Go.RowKit
section
variable {P:Program} {ops:Array Oper} {Q:Exit→Act→World→Prop} {rest:List Oper}
variable {n:Nat} {A:Fr n} {D:List Deferred} {l:List (Nat × Value)} {w:World}
variable {d:Tmp} {op:Op} {ty:TypeId} {ps:String} {af:Array Edge} {g:Option (Nat × Bool)}
end
section
variable {P:Program} {n:Nat} {A:Fr n} {D:List Deferred} {l:List (Nat × Value)} {w:World} {d:Option Tmp} {ty:TypeId} {ps:String} {af:Array Edge} {g:Option (Nat × Bool)}
theorem agf {x:Operand} {t u e:TypeId} {a:Option Addr} {m c:Nat} (hx:ev n l x=some (.slice a m c)) (hT:P.underlying t=some (.slice e)) :
    dS P ⟨d,.binOp .eql t x (.const (.slice none 0 0)) u,ty,ps,af,g⟩ (b9 A D l).eval w (.bool a.isNone):=by
  have h:=Go.Lib.run_eql_slice_nil (P:=P) w t e a m c 0 0 hT
  have B:(b9 A D l).eval (.const (.slice none 0 0)) = .slice none 0 0:=rfl
  have C:(eqGuard .eql t x (.const (.slice none 0 0)) (.slice a m c) (.slice none 0 0)).run P w = .ok () w:=by unfold eqGuard;simp
  simp[dS,execOp,cF hx,B,C,h]
end
section
variable {w w':World} {b cap:Nat} {xs:List Pr}
end
end Go.Wk
namespace Go.Wk
open Go Go.RowKit
theorem adV {v:Nat} {x:UInt8} (h:v<72057594037927936):v*2 ^ 8%18446744073709551616 ||| x.toNat=x.toNat+256*v:=by
  have A:=UInt8.toNat_lt x
  rw[Nat.mod_eq_of_lt Oh,Nat.mul_comm,← Nat.two_pow_add_eq_or_of_lt (by simpa using A)]
  omega
theorem AG {l:Ly} {a k:Nat} (hk:k=4∨k=8) (h:a+k≤l.length):mE l a k=(vM ((l.drop a).take k),true):=by
  unfold mE
  rw[if_pos ⟨by rw[gG];omega,by omega,by omega⟩];simp
def at4 (l:Ly) (a:Nat):Nat:=vM ((l.drop a).take 4)
def eY (l:Ly) (a:Nat):Nat:=vM ((l.drop a).take 8)
theorem BP (l:Ly) (a:Nat):at4 l a<4294967296:=vt (k:=4) Vw
theorem KI (l:Ly) (a:Nat):eY l a<18446744073709551616:=vt (k:=8) Vw
section
variable {P:Program} {ops:Array Oper} {Q:Exit→Act→World→Prop} {rest:List Oper}
variable {n:Nat} {A:Fr n} {D:List Deferred} {l:List (Nat × Value)} {w:World}
variable {d:Tmp} {op:Op} {ty:TypeId} {ps:String} {af:Array Edge} {g:Option (Nat × Bool)}
theorem uS {f:FuncId} {c:Operand} {xs:List Operand} {ts:Array TypeId} {vs cs:List Value} {R:Ending→World→Prop} (hc:ev n l c=some (.func (.func f) #[] cs.toArray)) (hf:ea P f=true) (ha:evs n l xs=some vs) (hr:Calls P f (vs ++ cs).toArray w R)
    (k:∀e w',R e w'→∃v,e = .returned v∧wpList P ops Q rest (b9 A D ((d,v) :: l)) w') :
    wpList P ops Q (⟨some d,.call {callee:=.value c,args:=xs.toArray,argTypes:=ts},ty,ps,af,none⟩ :: rest) (b9 A D l) w:=by
  refine iC q ?_
  unfold Oper.wp
  have E:=nB (A:=A) (D:=D) ha
  have B:(execOp (b9 A D l).eval ⟨some d,.call {callee:=.value c,args:=xs.toArray,argTypes:=ts},ty,ps,af,none⟩).run P w = .ok (.enter f (vs ++ cs).toArray) w:=by
    simp only[execOp,resolve,cF hc,Deferred.ofValue,List.map_toArray,E]
    simp[invoke,pG hf]
  rw[B]
  refine hr.mono fun e w' C=>?_
  obtain⟨v,rfl,hk⟩:=k e w' C
  exact hk
theorem FO {f:FuncId} {x:Operand} {v:Value} {d':Option Tmp} (hx:ev n l x=some v) :
    dS P ⟨d',.makeFunc (.func f) #[] #[x],ty,ps,af,g⟩ (b9 A D l).eval w (.func (.func f) #[] #[v]):=by
  simp[dS,execOp,cF hx,Instr.makeFunc]
end
def z16:List UInt8:=List.replicate 16 0
def kE (b:Ly) (c i k j:Nat):bS :=
  {iG:=c,bW:=i,state:=(b.getD 16 0).toNat,cG:=if 0<k then(b.drop 24).take 16 else z16,eO:=if 1<k then(b.drop 40).take 16 else z16,bV:=if 2<k then(b.drop 56).take 16 else z16,seq:=if 3<k then(b.drop 72).take 16 else z16,
    n:=(List.range 21).map fun q=>if q<j then eY b (88+8*q)else 0,eu:=0,eC:=0,eM:=0}
def fO (b:Ly):bS:={kE b (at4 b 8) (at4 b 12) 4 21 with eu:=at4 b 256,eC:=at4 b 260,eM:=eY b 264}
theorem GD {b:Ly} {o:Nat} (h:o+16≤b.length):((b.drop o).take 16).length=16:=by simp;omega
theorem pW {x:Ly} (h:x.length=16) (a c:List Value) (z:Ly):iu (a ++ (jS z ++ c)) a.length (x.map b8)=a ++ (jS x ++ c):=by
  unfold iu
  have B:(jS z).length=16:=rfl
  have A:(x.map b8).length=16:=by simp[h]
  rw[List.take_left,A,← List.append_assoc a,List.drop_left' (by simp[B]),← pC h,List.append_assoc]
theorem acf {b:Ly} {c i k:Nat} (hk:k<4) (hl:272≤b.length):iu (bS.cells (kE b c i k 0)) (3+k*16) (((b.drop (24+16*k)).take 16).map b8)=bS.cells (kE b c i (k+1) 0):=by
  have A:((b.drop (24+16*k)).take 16).length=16:=GD Oh
  rcases(show k=0∨k=1∨k=2∨k=3 by omega)with rfl|rfl|rfl|rfl
  · exact pW A [.int .u32 c,.int .u32 i,.int .i64 (((b.getD 16 0).toNat:Nat):Int)] _ z16
  · exact pW A ([.int .u32 c,.int .u32 i,.int .i64 (((b.getD 16 0).toNat:Nat):Int)] ++ jS ((b.drop 24).take 16)) _ z16
  · exact pW A ([.int .u32 c,.int .u32 i,.int .i64 (((b.getD 16 0).toNat:Nat):Int)] ++ jS ((b.drop 24).take 16) ++ jS ((b.drop 40).take 16)) _ z16
  exact pW A ([.int .u32 c,.int .u32 i,.int .i64 (((b.getD 16 0).toNat:Nat):Int)] ++ jS ((b.drop 24).take 16) ++ jS ((b.drop 40).take 16) ++ jS ((b.drop 56).take 16)) _ z16
theorem abZ {h:bS} {j v:Nat} (hn:h.n.length=21) (hj:j<21):(bS.cells h).set (67+j) (.int .u64 v)=bS.cells {h with n:=h.n.set j v}:=by
  have e:∀(m:List Nat) (t:bS),t.n=m→bS.cells t=([(.int .u32 t.iG)] ++ ([(.int .u32 t.bW)] ++ ([(.int .i64 t.state)] ++ ((jS t.cG) ++ ((jS t.eO) ++ ((jS t.bV) ++ (jS t.seq))))))) ++ (pn m ++ ([(.int .u32 t.eu)] ++ ([(.int .u32 t.eC)] ++ [(.int .u64 t.eM)]))):=by
    intro m t C;subst C;simp only[bS.cells,List.append_assoc]
  rw[e h.n h q,e (h.n.set j v) {h with n:=h.n.set j v} q,SI hn hj]
  have B:([(.int .u32 h.iG)] ++ ([(.int .u32 h.bW)] ++ ([(.int .i64 h.state)] ++ ((jS h.cG) ++ ((jS h.eO) ++ ((jS h.bV) ++ (jS h.seq)))))):List Value).length=67:=rfl
  have A:(pn h.n).length=21:=rfl
  rw[List.set_append_right _ _ Oh,B,Nat.add_sub_cancel_left,List.set_append_left _ _ Oh]
theorem aiq {b:Ly} {j:Nat} (hj:j<21):((List.range 21).map fun q=>if q<j then eY b (88+8*q)else 0).set j (eY b (88+8*j))=(List.range 21).map fun q=>if q<j+1 then eY b (88+8*q)else 0:=by
  apply List.ext_getElem
  · simp
  intro q A B
  simp at A
  by_cases h:q=j
  · subst h;simp
  rw[List.getElem_set_ne (Ne.symm h)]
  simp only[List.getElem_map,List.getElem_range]
  by_cases h3:q<j
  · rw[if_pos h3,if_pos Oh]
  rw[if_neg h3,if_neg Oh]
theorem Z9 {b:Ly} {c i j:Nat} (hj:j<21):(bS.cells (kE b c i 4 j)).set (67+j) (.int .u64 ((eY b (88+8*j):Nat):Int))=bS.cells (kE b c i 4 (j+1)):=by
  rw[abZ (by simp[kE]) hj]
  unfold kE
  simp only[aiq hj]
theorem Ql {b:Ly} (h:272≤b.length):bS.ok (fO b):=by
  refine⟨BP _ _,BP _ _,?_,GD Oh,GD Oh,GD Oh,GD Oh,⟨by simp[fO,kE],?_⟩,BP _ _,BP _ _,KI _ _⟩
  · have:=UInt8.toNat_lt (b.getD 16 0);show(b.getD 16 0).toNat<_;omega
  intro y A
  simp only[fO,kE,List.mem_map,List.mem_range]at A
  obtain⟨q,B,rfl⟩:=A
  rw[if_pos B];exact KI _ _
def ptrs (b o sz:Nat) (n:Nat):List Value:=(List.range n).map fun k=>.pointer (some ⟨b,o+k*sz,none⟩)
theorem Qy {b o sz n k:Nat} (h:k<n):(ptrs b o sz n)[k]? = some (.pointer (some ⟨b,o+k*sz,none⟩)):=by
  simp[ptrs,h]
end Go.Wk
namespace Go.Wk
open Go Go.RowKit
def andNot (a b:Nat):Nat:=(BitVec.ofNat 32 a &&& ~~~(BitVec.ofNat 32 b)).toNat
section
variable {P:Program} {n:Nat} {A:Fr n} {D:List Deferred} {l:List (Nat × Value)} {w:World} {d:Option Tmp} {ty:TypeId} {ps:String} {af:Array Edge} {g:Option (Nat × Bool)}
theorem ZY {x y:Operand} {t u:TypeId} {a b:Nat} (L:Nat) (hL:lim .u32=L) (hk:IntKind.u32.signed=false) (hx:ev n l x=some (.int .u32 (a:Int))) (hy:ev n l y=some (.int .u32 (b:Int))) (h:a<L∧b<L) :
    dS P ⟨d,.binOp .andNot t x y u,ty,ps,af,g⟩ (b9 A D l).eval w (.int .u32 ((andNot a b:Nat):Int)):=(QD hx hy).kr (by
  unfold bits andNot
  simp only[BitVec.ofInt_natCast]
  exact wrapN .u32 _ (show(BitVec.ofNat 32 a &&& ~~~(BitVec.ofNat 32 b)).toNat<4294967296 from(BitVec.ofNat 32 a &&& ~~~(BitVec.ofNat 32 b)).isLt))
end
def hz0:bS:={iG:=0,bW:=0,state:=0,cG:=pV,eO:=pV,bV:=pV,seq:=pV,n:=List.replicate 21 0,eu:=0,eC:=0,eM:=0}
def wj:List UInt8:=[76,80,75,83,72,72,82,72]
def qM (b p:Ly):Bool:=if p.length≤b.length then decide (b.take p.length=p)else false
def vJ (h:bS):Nat × Bool:=if(h.n.getD 0 0+h.n.getD 1 0)%18446744073709551616<h.n.getD 0 0 then(0,false)else((h.n.getD 0 0+h.n.getD 1 0)%18446744073709551616,true)
def lY (h:bS) (at_ size end_:Nat):Nat :=
  if at_%8≠0 then 3
  else if size=0∨size%16≠0 then 5
  else if at_<h.n.getD 0 0∨at_-h.n.getD 0 0<16∨end_<at_∨end_-at_<size then 2 else 0
def sC (h:bS) (len:Nat):Nat :=
  if andNot h.bW 4≠0 then 7
  else if 2<h.state then 8
  else if h.n.getD 0 0<272∨h.n.getD 0 0%8≠0∨h.n.getD 1 0%8≠0 then 5
  else if(vJ h).2=false∨len<(vJ h).1 then 2
  else if lY h (h.n.getD 2 0) (h.n.getD 3 0) (vJ h).1≠0 then lY h (h.n.getD 2 0) (h.n.getD 3 0) (vJ h).1
  else lY h (h.n.getD 4 0) (h.n.getD 5 0) (vJ h).1
def lp (b:Ly):bS × Nat :=
  if b.length<272 then(hz0,22)
  else if qM b wj=false then(hz0,6)
  else if sC (fO b) b.length≠0 then(hz0,sC (fO b) b.length)else(fO b,0)
theorem lM {h:bS} {len r:Nat} {s:Bool} (he:vJ h=(r,s)):sC h len=(if andNot h.bW 4≠0 then 7 else if 2<h.state then 8 else if h.n.getD 0 0<272∨h.n.getD 0 0%8≠0∨h.n.getD 1 0%8≠0 then 5
    else if s=false∨len<r then 2 else if lY h (h.n.getD 2 0) (h.n.getD 3 0) r≠0 then lY h (h.n.getD 2 0) (h.n.getD 3 0) r else lY h (h.n.getD 4 0) (h.n.getD 5 0) r):=by
  unfold sC;rw[he]
theorem nM {b:Ly} {h:bS} {p:Bool} {c:Nat} (h1:¬b.length<272) (h2:qM b [76,80,75,83,72,72,82,72]=p) (h3:¬p=false) (h4:fO b=h) (h5:sC h b.length=c) (h6:c≠0):lp b=(hz0,c):=by
  subst h4;subst h5
  unfold lp;rw[if_neg h1,if_neg (by rw[show wj=[76,80,75,83,72,72,82,72]from rfl,h2];exact h3),if_pos h6]
theorem adK {b:Ly} {h:bS} {p:Bool} (h1:¬b.length<272) (h2:qM b [76,80,75,83,72,72,82,72]=p) (h3:¬p=false) (h4:fO b=h) (h5:sC h b.length=0):lp b=(h,0):=by
  subst h4
  unfold lp;rw[if_neg h1,if_neg (by rw[show wj=[76,80,75,83,72,72,82,72]from rfl,h2];exact h3),if_neg Oh]
theorem QG {b:Ly} (h:b.length<272):lp b=(hz0,22):=by unfold lp;rw[if_pos h]
theorem FT {b:Ly} (h1:¬b.length<272) (h2:qM b [76,80,75,83,72,72,82,72]=false):lp b=(hz0,6):=by unfold lp;rw[if_neg h1,if_pos (show qM b wj=false from h2)]
def Po {α:Type} (T:Dt α) (ty:TypeId) (w:World) (Q:Nat→Prop) (v:Value):Option α→Prop
  | none=>v = .pointer none
  | some x=>Pt T ty w Q v x
section
variable {α:Type} {T:Dt α} {ty:TypeId} {w w':World} {Q Q':Nat→Prop} {v:Value} {ox:Option α}
variable {P:Program} {n:Nat} {A:Fr n} {D:List Deferred} {l:List (Nat × Value)} {d:Option Tmp} {ty2:TypeId} {ps:String} {af:Array Edge} {g:Option (Nat × Bool)}
theorem Po.ptr (h:Po T ty w Q v ox):∃p,v = .pointer p∧p.isNone=ox.isNone:=by
  cases ox with
  | none=>exact⟨none,h,q⟩
  | some x=>obtain⟨b,c,rfl,_⟩:=h;exact⟨_,q,q⟩
theorem WY {x:Operand} {t u e:TypeId} (h:Po T ty w Q v ox) (hx:ev n l x=some v) (hT:P.underlying t=some (.pointer e)) :
    dS P ⟨d,.binOp .eql t x (.const (.pointer none)) u,ty2,ps,af,g⟩ (b9 A D l).eval w (.bool ox.isNone):=by
  obtain⟨p,rfl,B⟩:=h.ptr
  have F:P.underlying t=some (.pointer (P.pointee t)):=by rw[hT];simp[Program.pointee,hT]
  have h:=run_eql_pointer_nil (P:=P) w t p F
  have C:(b9 A D l).eval (.const (.pointer none)) = .pointer none:=rfl
  have E:(eqGuard .eql t x (.const (.pointer none)) (.pointer p) (.pointer none)).run P w = .ok () w:=by unfold eqGuard;simp
  simp[dS,execOp,cF hx,C,E,h,← B]
end
def kO (b:Ly):Option eR × Nat:=if(lp b).2≠0 then(none,(lp b).2)else(some {b:=b.take (vJ (lp b).1).1,h:=(lp b).1},0)
theorem yZ {b:Ly} {h:bS} (hr:lp b=(h,0)):272≤b.length∧fO b=h∧sC h b.length=0:=by
  unfold lp at hr
  split at hr
  · have:=congrArg Prod.snd hr;simp at this
  rename_i h1
  split at hr
  · have:=congrArg Prod.snd hr;simp at this
  split at hr
  · rename_i h2;have:=congrArg Prod.snd hr;exact absurd this h2
  rename_i h2
  have e:=congrArg Prod.fst hr
  simp only at e
  subst e
  exact⟨by omega,q,by omega⟩
theorem QH {b:Ly} {h:bS} {e:Nat} {s:Bool} (hr:lp b=(h,0)) (he:vJ h=(e,s)):e≤b.length∧s=true:=by
  obtain⟨_,_,A⟩:=yZ hr
  rw[lM he]at A
  split at A
  · omega
  split at A
  · omega
  split at A
  · omega
  split at A
  · omega
  rename_i h4;rw[not_or]at h4
  exact⟨by omega,by simpa using h4.1⟩
theorem ZK {b:Ly} {x:Option eR} (h:kO b=(x,0)):∃y,x=some y∧bS.ok y.h∧y.b.length≤b.length:=by
  unfold kO at h
  split at h
  · rename_i h1;exact absurd (congrArg Prod.snd h) h1
  rename_i h1
  have C:lp b=((lp b).1,0):=by rw[← Classical.not_not.1 h1]
  obtain⟨A,B,_⟩:=yZ C
  exact⟨_,(congrArg Prod.fst h).symm,by rw[← B];exact Ql A,by simp;omega⟩
end Go.Wk
namespace Go.Wk
open Go Go.RowKit
section
variable {P:Program} {n:Nat} {A:Fr n} {D:List Deferred} {l:List (Nat × Value)} {w:World} {ops:Array Oper} {rest:List Oper} {Q:Exit→Act→World→Prop}
variable {d:Tmp} {op:Op} {ty:TypeId} {ps:String} {af:Array Edge}
theorem mv {x:Operand} {v:Value} (h:ev n l x=some v) (k:wpList P ops Q rest (b9 A D ((d,v) :: l)) w):wpList P ops Q (⟨some d,.move x,ty,ps,af,none⟩ :: rest) (b9 A D l) w:=st v (bf h) k
theorem dP {x:Operand} {v:Value} (h:ev n l x=some v) (k:wpList P ops Q rest (b9 A D ((d,v) :: l)) w):wpList P ops Q (⟨some d,.assign x,ty,ps,af,none⟩ :: rest) (b9 A D l) w:=st v (eI h) k
theorem nt {K:Act→World→Prop} {a:Act} (h:K a w):wpList P ops (Exit.then K Q) [] a w:=aI (au h)
theorem mz {C:World→Prop} {QN:Act→World→Prop} {rest:List (Bool × Oper)} {v:Value} (hr:∀w',C w'→dS P ⟨some d,op,ty,ps,af,none⟩ (b9 A D l).eval w' v) (k:iq P ops C QN rest (b9 A D ((d,v) :: l)) w):iq P ops C QN ((true,⟨some d,op,ty,ps,af,none⟩) :: rest) (b9 A D l) w:=Go.Wk.m v hr k
theorem sk {j t:Nat} {o:Oper} {b want:Bool} (hb:b = !want) (k:wpList P ops Q rest (b9 A D ((d,undef) :: l)) w) (ho:ops[j]? = some o:=by rfl) (ht:o.dst=some t:=by rfl) (hy:ev n l (.tmp t)=some (.bool b):=by rfl) :
    wpList P ops Q (⟨some d,op,ty,ps,af,some (j,want)⟩ :: rest) (b9 A D l) w:=ag0 ho ht hy hb k
theorem sg {j t:Nat} {o:Oper} {b want:Bool} {v:Value} (hb:b=want) (hr:dS P ⟨some d,op,ty,ps,af,some (j,want)⟩ (b9 A D l).eval w v) (k:wpList P ops Q rest (b9 A D ((d,v) :: l)) w) (ho:ops[j]? = some o:=by rfl) (ht:o.dst=some t:=by rfl) (hy:ev n l (.tmp t)=some (.bool b):=by rfl) :
    wpList P ops Q (⟨some d,op,ty,ps,af,some (j,want)⟩ :: rest) (b9 A D l) w:=aed v ho ht hy hb hr k
theorem sf {x:Operand} {s:TypeId} {f b o off:Nat} (hx:ev n l x=some (.pointer (some ⟨b,o,none⟩))) (hf:bg P s f=some off) (k:wpList P ops Q rest (b9 A D ((d,.pointer (some ⟨b,o+off,none⟩)) :: l)) w):wpList P ops Q (⟨some d,.fieldAddr s x f,ty,ps,af,none⟩ :: rest) (b9 A D l) w:=st _ (aM hx hf) k
theorem sl {x:Operand} {t ty':TypeId} {b j:Nat} {cs:List Value} {u:Value} (hx:ev n l x=some (.pointer (some ⟨b,j,none⟩))) (hT:jF P t=true) (hB:cg w b cs ty') (hj:cs[j]? = some u) (k:wpList P ops Q rest (b9 A D ((d,u) :: l)) w):wpList P ops Q (⟨some d,.load t x,ty,ps,af,none⟩ :: rest) (b9 A D l) w:=st _ (aC hx hT hB hj) k
theorem sn {x:Operand} {p:Addr} (h:ev n l x=some (.pointer (some p))) (k:wpList P ops Q rest (b9 A D ((d,.pointer (some p)) :: l)) w):wpList P ops Q (⟨some d,.nilCheck x,ty,ps,af,none⟩ :: rest) (b9 A D l) w:=st _ (dr h) k
theorem se {x:Operand} {i:Nat} {vs:Array Value} {v:Value} (h:ev n l x=some (.tuple vs)) (hv:vs[i]? = some v) (k:wpList P ops Q rest (b9 A D ((d,v) :: l)) w):wpList P ops Q (⟨some d,.extract x i,ty,ps,af,none⟩ :: rest) (b9 A D l) w:=st _ (jC h hv) k
theorem sL {x:Operand} {v:Value} {m:Nat} {t e:TypeId} (hx:ev n l x=some v) (hT:P.underlying t=some (.slice e)) (hS:XK v m) (k:wpList P ops Q rest (b9 A D ((d,.int .i64 m) :: l)) w):wpList P ops Q (⟨some d,.call {callee:=.builtin .len,args:=#[x],argTypes:=#[t]},ty,ps,af,none⟩ :: rest) (b9 A D l) w:=st _ (jK hx hT hS) k
theorem mo {C:World→Prop} {QN:Act→World→Prop} {rest:List (Bool × Oper)} {x:Operand} {v:Value} (h:ev n l x=some v) (k:iq P ops C QN rest (b9 A D ((d,v) :: l)) w):iq P ops C QN ((true,⟨some d,.move x,ty,ps,af,none⟩) :: rest) (b9 A D l) w:=Go.Wk.m v (fun _ _=>bf h) k
theorem ns {id:Nat} {lo:List Oper} {y:Code} {a:Act} (h:wpList P lo.toArray (Exit.then (fun a w=>y.wp P Q a w) Q) lo a w):(Code.seq (.region id lo.toArray false) y).wp P Q a w:=aP (aQ h)
theorem an {x:Operand} {v:Value} {K:Act→World→Prop} (h:ev n l x=some v) (k:K (b9 A D ((d,v)::l)) w):wpList P ops (Exit.then K Q) [⟨some d,.assign x,ty,ps,af,none⟩] (b9 A D l) w:=dP h (nt k)
theorem ar {x:Operand} {v:Value} {R:Exit→Act→World→Prop} (h:ev n l x=some v) (k:R .ret (b9 A D ((d,v)::l)) w):wpList P ops (Exit.then (fun a w=>Code.ret.wp P R a w) Q) [⟨some d,.assign x,ty,ps,af,none⟩] (b9 A D l) w:=dP h (nt (iP k))
theorem m2 {x y:Operand} {v u:Value} {e:Tmp} {ty' ps' af'} (h:ev n l x=some v) (h2:ev n ((d,v)::l) y=some u) (k:wpList P ops Q rest (b9 A D ((e,u)::(d,v)::l)) w):wpList P ops Q (⟨some d,.move x,ty,ps,af,none⟩::⟨some e,.move y,ty',ps',af',none⟩::rest) (b9 A D l) w:=mv h (mv h2 k)
theorem nm {id:Nat} {lo:List Oper} {y:Code} {x:Operand} {v:Value} (h:ev n l x=some v) (k:wpList P (⟨some d,.move x,ty,ps,af,none⟩::lo).toArray (Exit.then (fun a w=>y.wp P Q a w) Q) lo (b9 A D ((d,v)::l)) w):(Code.seq (.region id (⟨some d,.move x,ty,ps,af,none⟩::lo).toArray false) y).wp P Q (b9 A D l) w:=ns (mv h k)
theorem rv {v:Value} {p:Value→Prop} (h:p v):∃u,Ending.returned v=.returned u∧p u:=⟨v,q,h⟩
theorem rA {d:Option Tmp} {g:Option (Nat × Bool)} {x y:Operand} {t u:TypeId} {a b:Nat} (hx:ev n l x=some (.int .i64 (a:Int))) (hy:ev n l y=some (.int .i64 (b:Int))) (h:a+b<9223372036854775808):dS P ⟨d,.binOp .add t x y u,ty,ps,af,g⟩ (b9 A D l).eval w (.int .i64 ((a+b:Nat):Int)):=gW 9223372036854775808 q hx hy h
theorem rS {d:Option Tmp} {g:Option (Nat × Bool)} {x y:Operand} {t u:TypeId} {a b:Nat} (hx:ev n l x=some (.int .i64 (a:Int))) (hy:ev n l y=some (.int .i64 (b:Int))) (h:b≤a∧a<9223372036854775808):dS P ⟨d,.binOp .sub t x y u,ty,ps,af,g⟩ (b9 A D l).eval w (.int .i64 ((a-b:Nat):Int)):=nL 9223372036854775808 q hx hy h
abbrev SN:Value:=.slice none 0 0
theorem tT {Q R S:Nat→Prop} (a:∀b,Q b→R b) (c:∀b,S b→Q b):∀b,S b→R b:=fun b h=>a b (c b h)
theorem sS {S:List Nat} {u w:World} {Q R T:Nat→Prop} (a:∀b,R b→b<w.heap.size→T b) (c:∀b,Q b→b<u.heap.size→R b) (M:Md S u w):∀b,Q b→b<u.heap.size→T b:=fun b h hl=>a b (c b h hl) (Nat.lt_of_lt_of_le hl M.size)
theorem nQ {Q R:Nat→Prop} {b:Nat} (h:¬Q b) (c:∀b,R b→Q b):¬R b:=fun x=>h (c _ x)
theorem rF {α:Type} {T:Dt α} {e:TypeId} {lo:Nat→Prop} {w:World} {Q:Nat→Prop} {v:Value} {xs:List α} (h:Ow T e lo w Q v xs):∀i∈(ah v).toList,lo i:=iW fun x hx=>(h.2 x hx).1
theorem rN {α:Type} {T:Dt α} {e:TypeId} {lo:Nat→Prop} {w:World} {Q:Nat→Prop} {v:Value} {xs:List α} (h:Ow T e lo w Q v xs):∀i∈(ah v).toList,¬Q i:=iW fun x hx=>(h.2 x hx).2
theorem hI {p:Nat→Prop} {b:Nat} (h:p b):∀x∈[b],p x:=by intro x hx;simp at hx;subst hx;exact h
end
end Go.Wk
namespace Go.Wk
open Go Go.RowKit
structure Stop where
  code:Nat
def Stop.cells (x:Stop):List Value :=
  [(.int .i64 x.code)]
structure jf where
  kind:Nat
  flags:Nat
  size:Nat
def jf.cells (x:jf):List Value :=
  [(.int .i64 x.kind)] ++ ([(.int .i64 x.flags)] ++ ([(.int .u64 x.size)]))
def jf.ok (x:jf):Prop:=x.kind<9223372036854775808∧x.flags<9223372036854775808∧x.size<18446744073709551616
theorem jf.one {x:jf}:(x.cells).all (fun u=>u.oneCell')=true:=(dn q (dn q q))
def fr0:jf:={kind:=0,flags:=0,size:=0}
def nY (b:Ly) (p:Nat):Nat:=(b.getD p 0).toNat
theorem jW {b:Ly} {p:Nat} {x:UInt8} (h:b[p]? = some x):nY b p=x.toNat:=by simp[nY,List.getD,h]
theorem tZ {b:Ly} {p v:Nat} {s:Bool} {i:Int} (h:mE b i 8=(v,s)) (hi:i=(p:Int)) (hb:p+8≤b.length):eY b p=v:=by
  subst hi;have A:=AG (k:=8) (.inr q) hb;rw[show((8:Nat):Int)=8 from rfl]at A;rw[A]at h;exact congrArg Prod.fst h
theorem XW (b:Ly) (p:Nat):nY b p<256:=UInt8.toNat_lt _
def e6 (b:Ly) (p:Nat):jf × Nat :=
  if p%8≠0 then(fr0,3)
  else if b.length<p∨b.length-p<16 then(fr0,2)
  else if nY b p<1∨7<nY b p then(fr0,4)
  else if nY b (p+1)≠0 then(fr0,7)
  else if eY b (p+8)<16 then(fr0,5)
  else if b.length-p<eY b (p+8)then(fr0,2)
  else({kind:=nY b p,flags:=0,size:=eY b (p+8)},0)
theorem abR {b:Ly} {p:Nat} (h:p%8≠0):e6 b p=(fr0,3):=by unfold e6;rw[if_pos h]
theorem OA {b:Ly} {p:Nat} (h:¬p%8≠0) (h2:b.length<p∨b.length-p<16):e6 b p=(fr0,2):=by unfold e6;rw[if_neg h,if_pos h2]
theorem rD {b:Ly} {p:Nat} {x y:UInt8} {z:Nat} {s:jf} (es:s={kind:=x.toNat,flags:=y.toNat,size:=z}) (h:¬p%8≠0) (h2:¬(b.length<p∨b.length-p<16)) (e1:nY b p=x.toNat) (e2:nY b (p+1)=y.toNat) (e3:eY b (p+8)=z) :
    e6 b p=if s.kind<1∨7<s.kind then(fr0,4)else if s.flags≠0 then(fr0,7)else if s.size<16 then(fr0,5)else if b.length-p<s.size then(fr0,2)else(s,0):=by
  subst es;unfold e6;rw[if_neg h,if_neg h2,e1,e2,e3];by_cases hf:y.toNat=0
  · rw[hf]
  simp only[if_pos (show y.toNat≠0 from hf)]
theorem RY {b:Ly} {p:Nat} {f:jf} (h:e6 b p=(f,0)):16≤f.size∧p+f.size≤b.length∧f.kind<256∧f.flags=0:=by
  unfold e6 at h;have:=XW b p
  repeat' split at h
  all_goals first|(have:=congrArg Prod.snd h;simp at this;done)|skip
  have:=congrArg Prod.fst h;simp only at this;subst this;refine⟨?_,?_,?_,q⟩ <;> (simp only;omega)
def qX:gT:={cQ:=0,bT:=0,eH:=0,entry:=0,array:=0,bR:=0,ak:=[]}
def wS:jv:={next:=0,aD:=[]}
def gN (b:Ly) (p n:Nat):List Nat:=(List.range n).map fun i=>eY b (p+8*i)
theorem lR (b:Ly) (p n:Nat):(gN b p n).length=n:=by simp[gN]
theorem qF (b:Ly) (p n:Nat):gN b p (n+1)=gN b p n ++ [eY b (p+8*n)]:=by simp[gN,List.range_succ]
theorem PO (b:Ly) (p n:Nat):gN b p (n+1)=eY b p :: gN b (p+8) n:=by
  induction n generalizing p with
  | zero=>simp[gN]
  | succ n ih =>
    rw[qF,ih,List.cons_append,qF,show p+8*(n+1)=p+8+8*n by omega]
def mI (b:Ly) (p:Nat):gT × Nat :=
  if(e6 b p).2≠0 then(qX,(e6 b p).2)
  else if(e6 b p).1.kind≠1 then(qX,4)
  else if(e6 b p).1.size≤64 then(qX,5)
  else({cQ:=eY b (p+16),bT:=eY b (p+24),eH:=eY b (p+32),entry:=eY b (p+40),array:=eY b (p+48),bR:=eY b (p+56),ak:=(b.drop (p+64)).take ((e6 b p).1.size-64)},0)
def lg (b:Ly) (p:Nat):jv × Nat :=
  if(e6 b p).2≠0 then(wS,(e6 b p).2)
  else if(e6 b p).1.kind≠6 then(wS,4)
  else if(e6 b p).1.size≤24∨((e6 b p).1.size-24)%8≠0 then(wS,5)
  else({next:=eY b (p+16),aD:=gN b (p+24) (((e6 b p).1.size-24)/8)},0)
def gm (s:Nat) (b:Ly) (p:Nat):gT × Nat:=if p<s∨b.length≤p then(qX,2)else mI b p
def iY (s:Nat) (b:Ly) (p:Nat):jv × Nat:=if p<s∨b.length≤p then(wS,2)else lg b p
def qY (s:Nat) (b:Ly) (p:Nat):Nat:=if p<s∨b.length≤p then 2 else 0
theorem lO {b:Ly} {p c:Nat} {f:jf} (h:e6 b p=(f,c)) (hc:¬c≠0):16≤f.size∧p+f.size≤b.length∧f.kind<256∧f.flags=0:=RY (by rw[h,Classical.not_not.1 hc])
def k9 (b:Ly) (p kind ahead iI:Nat):List UInt8 × Nat :=
  if(e6 b p).2≠0 then([],(e6 b p).2)
  else if(e6 b p).1.kind≠kind then([],4)
  else if(e6 b p).1.size≤16+ahead∨((e6 b p).1.size-(16+ahead))%iI≠0 then([],5)
  else((b.take (p+(e6 b p).1.size)).drop (p+16),0)
theorem ud {b x:Ly} {p kind ahead iI c:Nat} (h:k9 b p kind ahead iI=(x,c)) (hc:c=0):(e6 b p).2=0∧(e6 b p).1.kind=kind∧16+ahead<(e6 b p).1.size∧((e6 b p).1.size-(16+ahead))%iI=0∧x=(b.take (p+(e6 b p).1.size)).drop (p+16)∧x.length=(e6 b p).1.size-16∧p+(e6 b p).1.size≤b.length:=by
  subst hc;unfold k9 at h
  split at h
  · have:=congrArg Prod.snd h;simp at this;contradiction
  rename_i h1
  have A:16≤(e6 b p).1.size∧p+(e6 b p).1.size≤b.length∧(e6 b p).1.kind<256∧(e6 b p).1.flags=0:=lO (f:=(e6 b p).1) (c:=(e6 b p).2) q h1
  split at h
  · have:=congrArg Prod.snd h;simp at this
  rename_i h2
  split at h
  · have:=congrArg Prod.snd h;simp at this
  rename_i h3
  rw[not_or]at h3;have e:=congrArg Prod.fst h;simp only at e;subst e;refine⟨by omega,by omega,by omega,by omega,q,?_,A.2.1⟩;simp only[List.length_drop,List.length_take];omega
theorem aeD {b:Ly} {o e i:Nat} (h:i+8≤e-o) (he:e≤b.length):eY ((b.take e).drop o) i=eY b (o+i):=by
  unfold eY
  congr 1
  apply List.ext_getElem?;intro j;simp only[List.getElem?_take,List.getElem?_drop];by_cases hj:j<8
  · rw[if_pos hj,if_pos hj,if_pos (show o+(i+j)<e by omega),Nat.add_assoc]
  rw[if_neg hj,if_neg hj]
theorem EK {b:Ly} {o e n i:Nat} (h:i+8*n≤e-o) (he:e≤b.length):gN ((b.take e).drop o) i n=gN b (o+i) n:=by
  unfold gN
  apply List.map_congr_left;intro k hk;have:=List.mem_range.1 hk;rw[aeD Oh he,Nat.add_assoc]
theorem PS {b:Ly} {l:List Nat} {i v:Nat} {s:Bool} (hl:l=gN b 0 (i/8)) (hi:i%8=0) (hb:i+8≤b.length) (h:mE b (i:Int) 8=(v,s)):l ++ [v]=gN b 0 ((i+8)/8):=by
  rw[show(i+8)/8=i/8+1 by omega,qF,hl,← tZ h q hb]
  congr 3
  omega
theorem SY {b x:Ly} {p c:Nat} (h:k9 b p 6 8 8=(x,c)) (hc:c≠0):lg b p=(wS,c):=by
  unfold k9 at h;unfold lg
  split at h
  · rename_i h1;rw[if_pos h1,show(e6 b p).2=c from congrArg Prod.snd h]
  rename_i h1;rw[if_neg h1]
  split at h
  · rename_i h2;rw[if_pos h2,show 4=c from congrArg Prod.snd h]
  rename_i h2;rw[if_neg h2]
  split at h
  · rename_i h3;rw[if_pos (by simpa using h3),show 5=c from congrArg Prod.snd h]
  exact absurd (congrArg Prod.snd h).symm hc
theorem SZ {b x:Ly} {p c:Nat} {l:List Nat} (h:k9 b p 6 8 8=(x,c)) (hc:¬c≠0) (hl:gN x 0 (x.length/8)=l):l.length=x.length/8∧1<l.length∧lg b p=({next:=l.getD 0 0,aD:=l.drop 1},0):=by
  obtain⟨E,F,G,H,A,B,C⟩:=ud h (Classical.not_not.1 hc)
  have e:l=gN b (p+16) (((e6 b p).1.size-16)/8):=by
    rw[← hl,B,A,EK Oh C]
  have D:((e6 b p).1.size-16)/8=((e6 b p).1.size-24)/8+1:=Oh;refine⟨by rw[← hl,lR],by rw[e,lR];omega,?_⟩;unfold lg;rw[if_neg Oh,if_neg Oh,if_neg Oh,e,D,PO]
  rfl
theorem ah3 {s p c:Nat} {b:Ly} (h:qY s b p=c) (hc:c≠0):(iY s b p).2=c:=by
  unfold qY at h;unfold iY
  split at h
  · rename_i h1;rw[if_pos h1];exact h
  exact absurd h.symm hc
theorem wA {s p c:Nat} {b:Ly} {x:jv} (h0:qY s b p=0) (h:lg b p=(x,c)):iY s b p=(x,c):=by
  unfold qY at h0;unfold iY
  split at h0
  · cases h0
  rename_i h1;rw[if_neg h1];exact h
theorem aae (b:Ly) (p:Nat) (h:(lg b p).2≠0):(lg b p).1=wS:=by
  unfold lg at h ⊢
  split
  · rfl
  split
  · rfl
  split
  · rfl
  rename_i h1 h2 h3;rw[if_neg h1,if_neg h2,if_neg h3]at h;exact absurd q h
theorem ah4 {s p c:Nat} {b:Ly} (h:(iY s b p).2=c) (hc:c≠0):iY s b p=(wS,c):=by
  refine Prod.ext ?_ h;rw[← h]at hc;unfold iY at hc ⊢
  split
  · rfl
  rename_i h1;rw[if_neg h1]at hc;exact aae b p hc
theorem ahE {s p c:Nat} {b:Ly} (h:qY s b p=c) (hc:c≠0):(gm s b p).2=c:=by
  unfold qY at h;unfold gm
  split at h
  · rename_i h1;rw[if_pos h1];exact h
  exact absurd h.symm hc
theorem abw {s p c:Nat} {b:Ly} {x:gT} (h0:qY s b p=0) (h:mI b p=(x,c)):gm s b p=(x,c):=by
  unfold qY at h0;unfold gm
  split at h0
  · cases h0
  rename_i h1;rw[if_neg h1];exact h
theorem aaf (b:Ly) (p:Nat) (h:(mI b p).2≠0):(mI b p).1=qX:=by
  unfold mI at h ⊢
  split
  · rfl
  split
  · rfl
  split
  · rfl
  rename_i h1 h2 h3;rw[if_neg h1,if_neg h2,if_neg h3]at h;exact absurd q h
theorem ahF {s p c:Nat} {b:Ly} (h:(gm s b p).2=c) (hc:c≠0):gm s b p=(qX,c):=by
  refine Prod.ext ?_ h;rw[← h]at hc;unfold gm at hc ⊢
  split
  · rfl
  rename_i h1;rw[if_neg h1]at hc;exact aaf b p hc
def lX (b:Ly) (p kind n:Nat):List Nat × List UInt8 × Nat :=
  if(e6 b p).2≠0 then([],[],(e6 b p).2)
  else if(e6 b p).1.kind≠kind then([],[],4)
  else if(e6 b p).1.size≤16+8*n then([],[],5)
  else(gN b (p+16) n,(b.drop (p+16+8*n)).take ((e6 b p).1.size-(16+8*n)),0)
theorem zI {b:Ly} {p n c:Nat} {f:jf} {l:List Nat} {kind:Nat} (h:e6 b p=(f,c)) (hc:¬c≠0) (h2:¬f.kind≠kind) (h3:¬f.size≤16+8*n) (hl:l=gN ((b.take (p+f.size)).drop (p+16)) 0 n):lX b p kind n=(l,((b.take (p+f.size)).drop (p+16)).drop (8*n),0):=by
  have A:=lO h hc;unfold lX;rw[h];simp only;rw[if_neg hc,if_neg h2,if_neg h3,hl,EK Oh A.2.1];refine Prod.ext q (Prod.ext ?_ q);simp only
  apply List.ext_getElem?;intro j;simp only[List.getElem?_take,List.getElem?_drop];by_cases hj:j<f.size-(16+8*n)
  · rw[if_pos hj,if_pos Oh];congr 1;omega
  rw[if_neg hj,if_neg Oh]
theorem LJ {b:Ly} {l:List Nat} {i v:Nat} {s:Bool} (hl:l=gN b 0 i) (hb:8*i+8≤b.length) (h:mE b ((8*i:Nat):Int) 8=(v,s)):l ++ [v]=gN b 0 (i+1):=by
  rw[qF,hl,← tZ h q hb,Nat.zero_add]
theorem ou {b x:Ly} {p c:Nat} {l:List Nat} (h:lX b p 1 6=(l,x,c)):(c≠0→mI b p=(qX,c))∧(¬c≠0→l.length=6∧mI b p=({cQ:=l.getD 0 0,bT:=l.getD 1 0,eH:=l.getD 2 0,entry:=l.getD 3 0,array:=l.getD 4 0,bR:=l.getD 5 0,ak:=x},0)):=by
  unfold lX at h;unfold mI
  split at h
  · rename_i h1
    simp only[Prod.mk.injEq]at h;refine⟨fun _=>by rw[if_pos h1,h.2.2],fun A=>absurd (h.2.2 ▸ h1) A⟩
  rename_i h1
  rw[if_neg h1]
  split at h
  · rename_i h2
    simp only[Prod.mk.injEq]at h;exact⟨fun _=>by rw[if_pos h2,h.2.2],fun A=>absurd (h.2.2 ▸ (by decide:(4:Nat)≠0)) A⟩
  rename_i h2
  rw[if_neg h2]
  split at h
  · rename_i h3
    simp only[Prod.mk.injEq]at h;exact⟨fun _=>by rw[if_pos Oh,h.2.2],fun A=>absurd (h.2.2 ▸ (by decide:(5:Nat)≠0)) A⟩
  rename_i h3
  simp only[Prod.mk.injEq]at h;obtain⟨rfl,rfl,rfl⟩:=h;refine⟨fun A=>absurd q A,fun _=>⟨lR _ _ _,?_⟩⟩;rw[if_neg Oh];simp[gN,List.range_succ]
end Go.Wk
namespace Go.Wk
open Go Go.RowKit
def qn:fR:={iG:=0,bW:=0,state:=0,cG:=pV,eO:=pV,bV:=pV,seq:=pV,n:=List.replicate 20 0,eu:=0,eC:=0,eM:=0}
end Go.Wk
namespace Go.Wk
open Go Go.RowKit
end Go.Wk
namespace Go.Wk
open Go Go.RowKit
def vK:js:={cQ:=0,bT:=0,dat:=0,ak:=[]}
def lu (b:Ly) (p:Nat):js × Nat :=
  if(e6 b p).2≠0 then(vK,(e6 b p).2)
  else if(e6 b p).1.kind≠2 then(vK,4)
  else if(e6 b p).1.size≤40 then(vK,5)
  else({cQ:=eY b (p+16),bT:=eY b (p+24),dat:=eY b (p+32),ak:=(b.drop (p+40)).take ((e6 b p).1.size-40)},0)
def ji (s:Nat) (b:Ly) (p:Nat):js × Nat:=if p<s∨b.length≤p then(vK,2)else lu b p
theorem ahQ {s p c:Nat} {b:Ly} (h:qY s b p=c) (hc:c≠0):(ji s b p).2=c:=by
  unfold qY at h
  unfold ji
  split at h
  · rename_i h1;rw[if_pos h1];exact h
  exact absurd h.symm hc
theorem abL {s p c:Nat} {b:Ly} {x:js} (h0:qY s b p=0) (h:lu b p=(x,c)):ji s b p=(x,c):=by
  unfold qY at h0
  unfold ji
  split at h0
  · cases h0
  rename_i h1;rw[if_neg h1];exact h
theorem aah (b:Ly) (p:Nat) (h:(lu b p).2≠0):(lu b p).1=vK:=by
  unfold lu at h ⊢
  split
  · rfl
  split
  · rfl
  split
  · rfl
  rename_i h1 h2 h3;rw[if_neg h1,if_neg h2,if_neg h3]at h;exact absurd q h
theorem ahR {s p c:Nat} {b:Ly} (h:(ji s b p).2=c) (hc:c≠0):ji s b p=(vK,c):=by
  refine Prod.ext ?_ h
  rw[← h]at hc
  unfold ji at hc ⊢
  split
  · rfl
  rename_i h1;rw[if_neg h1]at hc;exact aah b p hc
theorem FU {b x:Ly} {p c:Nat} {l:List Nat} (h:lX b p 2 3=(l,x,c)):(c≠0→lu b p=(vK,c))∧(¬c≠0→l.length=3∧lu b p=({cQ:=l.getD 0 0,bT:=l.getD 1 0,dat:=l.getD 2 0,ak:=x},0)):=by
  unfold lX at h
  unfold lu
  split at h
  · rename_i h1
    simp only[Prod.mk.injEq]at h
    refine⟨fun _=>by rw[if_pos h1,h.2.2],fun A=>absurd (h.2.2 ▸ h1) A⟩
  rename_i h1
  rw[if_neg h1]
  split at h
  · rename_i h2
    simp only[Prod.mk.injEq]at h
    exact⟨fun _=>by rw[if_pos h2,h.2.2],fun A=>absurd (h.2.2 ▸ (by decide:(4:Nat)≠0)) A⟩
  rename_i h2
  rw[if_neg h2]
  split at h
  · rename_i h3
    simp only[Prod.mk.injEq]at h
    exact⟨fun _=>by rw[if_pos Oh,h.2.2],fun A=>absurd (h.2.2 ▸ (by decide:(5:Nat)≠0)) A⟩
  rename_i h3
  simp only[Prod.mk.injEq]at h
  obtain⟨rfl,rfl,rfl⟩:=h
  refine⟨fun A=>absurd q A,fun _=>⟨lR _ _ _,?_⟩⟩
  rw[if_neg Oh]
  simp[gN,List.range_succ]
theorem oI {b:Ly} {p n i v:Nat} (h:(gN b p n)[i]? = some v):v=eY b (p+8*i)∧i<n:=by
  unfold gN at h
  rw[List.getElem?_map]at h
  by_cases hi:i<n
  · rw[List.getElem?_range hi]at h
    exact⟨(Option.some.inj h).symm,hi⟩
  rw[List.getElem?_eq_none (by simpa using hi)]at h;cases h
def jg (b:Ly) (p n:Nat):List kg:=(List.range n).map fun i=>{bn:=eY b (p+16*i),cQ:=eY b (p+16*i+8)}
theorem qC (b:Ly) (p n:Nat):(jg b p n).length=n:=by simp[jg]
theorem LA (b:Ly) (p n:Nat):jg b p (n+1)=jg b p n ++ [{bn:=eY b (p+16*n),cQ:=eY b (p+16*n+8)}]:=by simp[jg,List.range_succ]
def qf:List kg→Bool
  | a :: b :: r=>decide (a.bn<b.bn) && qf (b :: r)
  | _=>true
theorem vA:∀l:List kg,qf l=true↔∀j x y,l[j]? = some x→l[j+1]? = some y→x.bn<y.bn
  | []=>by simp[qf]
  | [a]=>by simp[qf]
  | a :: b :: r=>by
    rw[qf,Bool.and_eq_true,decide_eq_true_eq,vA (b :: r)]
    constructor
    · rintro⟨h1,h2⟩ j x y hx hy
      cases j with
      | zero=>simp at hx hy;subst hx;subst hy;exact h1
      | succ j=>exact h2 j x y (by simpa using hx) (by simpa using hy)
    · intro h
      exact⟨h 0 a b q q,fun j x y hx hy=>h (j+1) x y (by simpa using hx) (by simpa using hy)⟩
def wG:gH:={seq:=0,cr:=0,mono:=0,bV:=pV,xor:=0,aD:=[]}
def r7 (x:Ly):gH:={seq:=eY x 0,cr:=eY x 8,mono:=eY x 16,bV:=(x.drop 24).take 16,xor:=eY x 40,aD:=jg x 48 ((x.length-48)/16)}
def r8 (x:Ly):gH × Nat:=if eY x 0=0 then(wG,13)else if qf (r7 x).aD=false then(wG,11)else(r7 x,0)
def kI (b:Ly) (p:Nat):gH × Nat :=
  if(k9 b p 3 48 16).2≠0 then(wG,(k9 b p 3 48 16).2)else r8 (k9 b p 3 48 16).1
theorem ahN {b x:Ly} {p c:Nat} (h:k9 b p 3 48 16=(x,c)) (hc:c≠0):kI b p=(wG,c):=by
  unfold kI;rw[h,if_pos hc]
theorem KY {b x:Ly} {p c:Nat} (h:k9 b p 3 48 16=(x,c)) (hc:¬c≠0):kI b p=r8 x:=by
  unfold kI;rw[h,if_neg hc]
structure BF (x:Ly) (e:gH) (i:Nat):Prop where
  seq:e.seq=eY x 0
  cr:e.cr=eY x 8
  mono:e.mono=eY x 16
  bV:e.bV=(x.drop 24).take 16
  xor:e.xor=eY x 40
  aD:e.aD=jg x 48 ((i-6)/2)
theorem BF.eq {x:Ly} {e:gH} {i:Nat} (h:BF x e i) (hi:i=x.length/8) (h6:x.length%8=0) (h48:48≤x.length):e=r7 x:=by
  obtain⟨s,r,m,G,I,H⟩:=e
  obtain⟨A,B,C,D,E,F⟩:=h
  simp only at A B C D E F
  subst hi
  unfold r7
  rw[A,B,C,D,E,F,show(x.length/8-6)/2=(x.length-48)/16 by omega]
theorem BF.step {x:Ly} {e e':gH} {i n v u:Nat} {l:List Nat} (h:BF x e i) (hi:i%2=0) (h6:6≤i) (hl:l=gN x 0 n) (hv:l[i]? = some v) (hu:l[i+1]? = some u) (he:e'={e with aD:=e.aD ++ [{bn:=v,cQ:=u}]}):BF x e' (i+2):=by
  subst hl;subst he
  have hv':=(oI hv).1
  have hu':=(oI hu).1
  refine⟨h.seq,h.cr,h.mono,h.bV,h.xor,?_⟩
  show e.aD ++ _=_
  rw[show(i+2-6)/2=(i-6)/2+1 by omega,LA,h.aD,hv',hu',show 48+16*((i-6)/2)=0+8*i by omega,show 0+8*(i+1)=0+8*i+8 by omega]
theorem ahL {x:Ly} (h:eY x 0=0):r8 x=(wG,13):=by unfold r8;rw[if_pos h]
theorem ahK {x:Ly} {e:gH} {i:Nat} {y z:kg} (he:e=r7 x) (h:¬e.seq=0) (h0:1≤i) (hy:e.aD[i]? = some y) (hz:e.aD[i-1]? = some z) (hl:y.bn≤z.bn):r8 x=(wG,11):=by
  subst he
  unfold r8
  rw[if_neg (show ¬eY x 0=0 from h),if_pos]
  cases hr:qf (r7 x).aD with
  | false=>rfl
  | true =>
    have:=(vA _).1 hr (i-1) z y hz (by rw[Nat.sub_add_cancel h0];exact hy)
    omega
theorem abE {x:Ly} {e:gH} {i:Nat} (he:e=r7 x) (h:¬e.seq=0) (hi:e.aD.length≤i) (hr:∀j,1≤j→j<i→∀y z,e.aD[j]? = some y→e.aD[j-1]? = some z→z.bn<y.bn):r8 x=(e,0):=by
  have B:qf e.aD=true:=by
    rw[vA]
    intro j a c C A
    have D:=(List.getElem?_eq_some_iff.1 A).1
    exact hr (j+1) Oh Oh c a A (by simpa using C)
  subst he
  unfold r8
  rw[if_neg (show ¬eY x 0=0 from h),if_neg (by rw[B];simp)]
theorem abD {e:gH} {v:Value} {ys:Ly} (hy:ys.length=16):iu (gH.cells e v) 3 (ys.map b8)=gH.cells {e with bV:=ys} v :=
  pW hy [.int .u64 e.seq,.int .u64 e.cr,.int .u64 e.mono] _ e.bV
theorem XT {x:Ly} (h:40≤x.length):(((x.take 40).drop 24).map b8).take 16=((x.drop 24).take 16).map b8∧((x.drop 24).take 16).length=16:=by
  have e:(x.take 40).drop 24=(x.drop 24).take 16:=by rw[List.drop_take]
  have A:((x.drop 24).take 16).length=16:=by simp;omega
  refine⟨?_,A⟩
  rw[e,List.take_of_length_le Vw]
theorem YD {x:Ly} {e s:gH} {a b c d:Nat} {n:Nat} {l:List Nat} (hl:l=gN x 0 n) (h0:l[0]? = some a) (h1:l[1]? = some b) (h2:l[2]? = some c) (h5:l[5]? = some d) (he:e={seq:=a,cr:=b,mono:=c,bV:=pV,xor:=d,aD:=[]}) (hs:s={e with bV:=(x.drop 24).take 16}):BF x s 6:=by
  subst hl;subst he;subst hs
  exact⟨(oI h0).1,(oI h1).1,(oI h2).1,q,(oI h5).1,q⟩
def ig (s:Nat) (b:Ly) (p:Nat):gH × Nat:=if p<s∨b.length≤p then(wG,2)else kI b p
theorem ahM {s p c:Nat} {b:Ly} (h:qY s b p=c) (hc:c≠0):(ig s b p).2=c:=by
  unfold qY at h
  unfold ig
  split at h
  · rename_i h1;rw[if_pos h1];exact h
  exact absurd h.symm hc
theorem abC {s p c:Nat} {b:Ly} {x:gH} (h0:qY s b p=0) (h:kI b p=(x,c)):ig s b p=(x,c):=by
  unfold qY at h0
  unfold ig
  split at h0
  · cases h0
  rename_i h1;rw[if_neg h1];exact h
theorem aag (b:Ly) (p:Nat) (h:(kI b p).2≠0):(kI b p).1=wG:=by
  unfold kI at h ⊢
  split
  · rfl
  rename_i h1
  rw[if_neg h1]at h
  unfold r8 at h ⊢
  split
  · rfl
  split
  · rfl
  rename_i h2 h3;rw[if_neg h2,if_neg h3]at h;exact absurd q h
theorem aeZ {s p c:Nat} {b:Ly} (h:(ig s b p).2=c) (hc:c≠0):ig s b p=(wG,c):=by
  refine Prod.ext ?_ h
  rw[← h]at hc
  unfold ig at hc ⊢
  split
  · rfl
  rename_i h1;rw[if_neg h1]at hc;exact aag b p hc
end Go.Wk
namespace Go.Wk
open Go Go.RowKit
theorem UU {s p c:Nat} {b:Ly} {d:gT} (h:gm s b p=(d,c)):d.ak.length≤b.length:=by
  unfold gm at h
  split at h
  · cases h;simp[qX]
  unfold mI at h
  repeat' split at h
  all_goals (cases h;simp[qX];try omega)
def gP (k:Bool) (f:Ly) (s:Nat) (b:Ly) (p:Nat):gT × Nat :=
  if(gm s b p).2≠0 then(qX,(gm s b p).2)
  else if(gm s b p).1.cQ=dW k f (gm s b p).1.ak then gm s b p
  else(qX,9)
theorem ai0 {k:Bool} {f b:Ly} {s p c:Nat} (h:(gm s b p).2=c) (hc:c≠0):(gP k f s b p).2=c:=by
  unfold gP;rw[h,if_pos hc]
theorem WT {k:Bool} {f b:Ly} {s p n:Nat} {d:gT} (h:gm s b p=(d,0)) (hh:dW k f d.ak=n) (e:d.cQ=n):gP k f s b p=(d,0):=by
  unfold gP;rw[h,if_neg Oq,if_pos (e.trans hh.symm)]
theorem ahm {k:Bool} {f b:Ly} {s p n:Nat} {d:gT} (h:gm s b p=(d,0)) (hh:dW k f d.ak=n) (e:¬d.cQ=n):(gP k f s b p).2=9:=by
  unfold gP;rw[h,if_neg Oq,if_neg (fun h=>e (h.trans hh))]
theorem WS {k:Bool} {f b:Ly} {s p c:Nat} {d:gT} (h:gP k f s b p=(d,c)):d.ak.length≤b.length:=by
  unfold gP at h
  split at h
  · cases h;simp[qX]
  split at h
  · exact UU h
  cases h;simp[qX]
theorem akm {k:Bool} {f b:Ly} {s p:Nat} (h:(gP k f s b p).2≠0):(gP k f s b p).1=qX:=by
  unfold gP at h ⊢
  split
  · rfl
  rename_i h1
  rw[if_neg h1]at h
  split
  · rename_i h2;rw[if_pos h2]at h;exact absurd h h1
  rfl
def yV (k:Bool) (f:Ly) (s:Nat) (b:Ly) (p:Nat):List UInt8 × Nat:=((gP k f s b p).1.ak,(gP k f s b p).2)
theorem afY {k:Bool} {f b:Ly} {s p c:Nat} (h:(gP k f s b p).2=c) (hc:c≠0):yV k f s b p=([],c):=by
  unfold yV
  rw[akm (by rw[h];exact hc),h]
  rfl
def nO (l:Ly):Pr × Nat:=({name:=(qZ l).1,value:=(qZ l).2},(jU l).toNat)
theorem JY (l:Ly):0≤jU l∧jU l<100:=by
  unfold jU
  repeat' split
  all_goals omega
theorem TN (l:Ly):jU l=(((jU l).toNat:Nat):Int):=(Int.toNat_of_nonneg (JY l).1).symm
theorem aaw (l:Ly):(jU l).toNat<9223372036854775808:=by have:=JY l;omega
end Go.Wk
namespace Go.Wk
open Go Go.RowKit
def zT:Rec:={seq:=0,cr:=0,mono:=0,bV:=pV,aj:=[]}
def jM (k:Bool) (f:Ly) (s:Nat) (b:Ly):List kg→List Pr→List (List UInt8)→(List Pr × List (List UInt8)) × Nat
  | [],fs,all=>((fs,all),0)
  | x :: r,fs,all =>
    if(gP k f s b x.bn).2≠0 then(([],[]),(gP k f s b x.bn).2)
    else if(gP k f s b x.bn).1.cQ≠x.cQ then(([],[]),9)
    else if(nO (gP k f s b x.bn).1.ak).2≠0 then(([],[]),(nO (gP k f s b x.bn).1.ak).2)
    else jM k f s b r (fs ++ [(nO (gP k f s b x.bn).1.ak).1]) (all ++ [(gP k f s b x.bn).1.ak])
section
variable {k:Bool} {f b:Ly} {s p i c:Nat} {l:List kg} {x:kg} {d:gT} {fs:List Pr} {all:List (List UInt8)} {q:Pr} {e:gH} {r:Rec}
theorem JK (h:¬i<l.length):jM k f s b (l.drop i) fs all=((fs,all),0):=by rw[iL Oh];rfl
theorem aai (h:l[i]? = some x) (hp:(gP k f s b x.bn).2=c) (hc:c≠0):jM k f s b (l.drop i) fs all=(([],[]),c):=by
  rw[eN h];unfold jM;rw[hp,if_pos hc]
theorem agl (h:l[i]? = some x) (hp:gP k f s b x.bn=(d,0)) (hn:¬d.cQ=x.cQ):jM k f s b (l.drop i) fs all=(([],[]),9):=by
  rw[eN h];unfold jM;rw[hp,if_neg Oq,if_pos hn]
theorem QJ (h:l[i]? = some x) (hp:gP k f s b x.bn=(d,0)) (hn:d.cQ=x.cQ) (hs:nO d.ak=(q,c)) (hc:c≠0):jM k f s b (l.drop i) fs all=(([],[]),c):=by
  rw[eN h];unfold jM;rw[hp,if_neg Oq,if_neg (by simpa using hn),hs,if_pos hc]
theorem Td (h:l[i]? = some x) (hp:gP k f s b x.bn=(d,0)) (hn:d.cQ=x.cQ) (hs:nO d.ak=(q,0)):jM k f s b (l.drop i) fs all=jM k f s b (l.drop (i+1)) (fs ++ [q]) (all ++ [d.ak]):=by
  rw[eN h];conv=>lhs;unfold jM
  rw[hp,if_neg Oq,if_neg (by simpa using hn),hs,if_neg Oq]
def mS (k:Bool) (f:Ly) (s:Nat) (b:Ly) (p:Nat):Rec × Nat :=
  if(ig s b p).2≠0 then(zT,(ig s b p).2)
  else if 16<(ig s b p).1.aD.length then(zT,21)
  else if(jM k f s b (ig s b p).1.aD [] []).2≠0 then(zT,(jM k f s b (ig s b p).1.aD [] []).2)
  else if(ig s b p).1.xor=nk 0 (jM k f s b (ig s b p).1.aD [] []).1.2 then({seq:=(ig s b p).1.seq,cr:=(ig s b p).1.cr,mono:=(ig s b p).1.mono,bV:=(ig s b p).1.bV,aj:=(jM k f s b (ig s b p).1.aD [] []).1.1},0)
  else(zT,10)
theorem aiD (h:(ig s b p).2=c) (hc:c≠0):(mS k f s b p).2=c:=by unfold mS;rw[h,if_pos hc]
theorem aiC (h:ig s b p=(e,0)) (hl:16<e.aD.length):(mS k f s b p).2=21:=by unfold mS;rw[h,if_neg Oq,if_pos hl]
theorem MP {y:List Pr × List (List UInt8)} (h:ig s b p=(e,0)) (hl:¬16<e.aD.length) (hg:jM k f s b e.aD [] []=(y,c)) (hc:c≠0):(mS k f s b p).2=c:=by
  unfold mS;rw[h,if_neg Oq,if_neg hl,hg,if_pos hc]
theorem adM {n:Nat} (h:ig s b p=(e,0)) (hl:¬16<e.aD.length) (hg:jM k f s b e.aD [] []=((fs,all),0)) (hx:nk 0 all=n) (hn:¬e.xor=n):(mS k f s b p).2=10:=by
  unfold mS;rw[h,if_neg Oq,if_neg hl,hg,if_neg Oq,if_neg (by rw[hx];exact hn)]
structure agQ (e:gH) (r:Rec):Prop where
  seq:r.seq=e.seq
  cr:r.cr=e.cr
  mono:r.mono=e.mono
  bV:r.bV=e.bV
theorem adN {n:Nat} (h:ig s b p=(e,0)) (hl:¬16<e.aD.length) (hr:agQ e r) (hg:jM k f s b e.aD [] []=((r.aj,all),0)) (hx:nk 0 all=n) (hn:e.xor=n):mS k f s b p=(r,0):=by
  unfold mS;rw[h,if_neg Oq,if_neg hl,hg,if_neg Oq,if_pos (by rw[hx];exact hn)]
  obtain⟨E,F,G,H,I⟩:=r
  obtain⟨A,B,C,D⟩:=hr
  simp only at A B C D
  subst A;subst B;subst C;subst D
  rfl
theorem ae7 {n:Nat} {y:Ly} (h:∀x∈all,x.length≤n) (hy:y.length≤n):∀x∈all ++ [y],x.length≤n:=by
  intro x B
  rcases List.mem_append.1 B with A|A
  · exact h x A
  simp at A;subst A;exact hy
theorem ak0 (h:(mS k f s b p).2≠0):(mS k f s b p).1=zT:=by
  unfold mS at h ⊢
  split
  · rfl
  split
  · rfl
  split
  · rfl
  split
  · rename_i h1 h2 h3 h4;rw[if_neg h1,if_neg h2,if_neg h3,if_pos h4]at h;exact absurd rfl h
  rfl
theorem agn (h:(mS k f s b p).2=c) (hc:c≠0):mS k f s b p=(zT,c):=by
  refine Prod.ext ?_ h
  exact ak0 (by rw[h];exact hc)
end
end Go.Wk
namespace Go.Wk
open Go Go.RowKit
section
variable {b x:Ly} {p c:Nat}
end
section
variable {k:Bool} {f b:Ly} {s p c n:Nat} {d:gT}
end
section
variable {k:Bool} {f b:Ly} {s p i c n m:Nat} {l:List kg} {x:kg} {fs:List Pr} {all:List (List UInt8)} {q:Ly} {w:Pr}
end
end Go.Wk
namespace Go.Wk
open Go Go.RowKit
theorem Ow.lsB {e:TypeId} {w w':World} {Q Q':Nat→Prop} {v:Value} {xs:Ly} (h:Ow fF e (ck [] w) w' Q' v xs) (uQ:Up w Q):Ls fF w' Q v xs :=
  Ls.of_by h.read.by fun b hb _=>ck.up uQ b (h.2 b hb).1
theorem KT (s:Sq):s.config.1.ay≤10∧s.config.1.aA≤10:=by
  rcases h1:s.cT 5 with⟨a,E⟩
  rcases h2:E.cT 5 with⟨b,F⟩
  rcases h3:F.cT 5 with⟨c,C⟩
  rcases h4:C.cT 7 with⟨d,D⟩
  rcases h5:D.cT 4 with⟨e,G⟩
  rcases h6:G.cT 2 with⟨f,H⟩
  have A:=C.kG 7
  have B:=D.kG 4
  rw[h4]at A;rw[h5]at B
  simp only[Sq.config,h1,h2,h3,h4,h5,h6]
  simp only at A B
  omega
end Go.Wk
namespace Go.Wk
open Go Go.RowKit
def ul (P:Program) (s:TypeId) (f:Nat):Option Nat :=
  match P.underlying s with
  | some (.struct fs)=>match fs[f]? with
    | some x=>cond (jF P x.type) (some x.offset) none
    | none=>none
  | _=>none
section
variable {P:Program} {n:Nat} {A:Fr n} {D:List Deferred} {l:List (Nat × Value)} {w:World} {d:Option Tmp} {ty:TypeId} {ps:String} {af:Array Edge} {g:Option (Nat × Bool)}
theorem FM {x:Operand} {s:TypeId} {f off:Nat} {cs:List Value} {u:Value} (hf:ul P s f=some off) (hx:ev n l x=some (.agg cs.toArray)) (hc:cs[off]? = some u) :
    dS P ⟨d,.field s x f,ty,ps,af,g⟩ (b9 A D l).eval w u:=by
  unfold ul at hf
  split at hf
  · rename_i fs hu
    split at hf
    · rename_i y hy
      cases h1:jF P y.type with
      | false=>rw[h1]at hf;cases hf
      | true =>
        rw[h1]at hf
        simp only[cond_true,Option.some.injEq]at hf
        subst hf
        simp[dS,execOp,cF hx,Instr.field,run_underlying hu,hy,part,oA h1,asAgg,hc]
    cases hf
  cases hf
end
structure j9 where
  out:List Nat
  cur:Nat
  ahead:Nat
def j9.cells (x:j9) (v0:Value):List Value :=
  [v0] ++ ([(.int .u64 x.cur)] ++ ([(.int .u64 x.ahead)]))
def j9.ok (x:j9):Prop:=x.cur<18446744073709551616∧x.ahead<18446744073709551616
theorem j9.one {x:j9} {v0:Value} (h0:v0.oneCell'=true):(x.cells v0).all (fun u=>u.oneCell')=true:=(dn (po h0) (dn q q))
section
variable {P:Program} {n:Nat} {A:Fr n} {D:List Deferred} {l:List (Nat × Value)} {w:World} {d:Option Tmp} {ty:TypeId} {ps:String} {af:Array Edge} {g:Option (Nat × Bool)}
end
end Go.Wk
namespace Go.Wk
open Go Go.RowKit
def uw (out:List Nat):Nat:=out.getLast?.getD 0
def qB (out:List Nat) (x:Nat):Nat:=if out≠[]∧x≤uw out then 13 else 0
def nA (b:Ly) (bY:Nat):List Nat→List Nat→List Nat × Nat
  | [],out=>(out,0)
  | x :: r,out=>if bY≤out.length then(out,0)else if x=0∨b.length≤x then(out,2)else if qB out x≠0 then(out,13)else nA b bY r (out ++ [x])
def tJ (s:Nat) (b:Ly) (bY p ahead:Nat) (out:List Nat):List Nat × Nat :=
  if bY≤out.length then(out,0)
  else if p=0∨b.length≤p then(out,14)
  else if p≤ahead then(out,12)
  else if(iY s b p).2≠0 then(out,(iY s b p).2)
  else if(nA b bY (iY s b p).1.aD out).2≠0 then nA b bY (iY s b p).1.aD out
  else tJ s b bY (iY s b p).1.next p (nA b bY (iY s b p).1.aD out).1
termination_by b.length-ahead
decreasing_by omega
def xE (b:Ly) (bY:Nat):List Nat→List Nat→List Nat × Nat × Bool
  | [],out=>(out,0,false)
  | x :: r,out=>if bY≤out.length then(out,0,true)else if x=0∨b.length≤x then(out,0,true)else if qB out x≠0 then(out,13,true)else xE b bY r (out ++ [x])
def PX (s:Nat) (b:Ly) (bY p ahead:Nat) (out:List Nat):List Nat × Nat :=
  if bY≤out.length then(out,0)
  else if p=0∨b.length≤p then(out,0)
  else if p≤ahead then(out,12)
  else if(iY s b p).2≠0 then(out,(iY s b p).2)
  else if(xE b bY (iY s b p).1.aD out).2.2=true then((xE b bY (iY s b p).1.aD out).1,(xE b bY (iY s b p).1.aD out).2.1)
  else PX s b bY (iY s b p).1.next p (xE b bY (iY s b p).1.aD out).1
termination_by b.length-ahead
decreasing_by omega
def ZI (s:Nat) (b:Ly) (p:Nat):List Nat × Nat :=
  if(gm s b p).2≠0 then([],(gm s b p).2)
  else if(gm s b p).1.bR=0∨(gm s b p).1.entry=0∨b.length≤(gm s b p).1.entry then([],0)
  else PX s b (gm s b p).1.bR (gm s b p).1.array 0 [(gm s b p).1.entry]
def jb (b:Ly) (x:Nat):Bool:=decide (x=0∨b.length≤x)
def lN (s:Nat) (b:Ly) (l:j9):List Nat × Nat × j9 :=
  if l.cur≤l.ahead then([],12,l)else((iY s b l.cur).1.aD,(iY s b l.cur).2,{l with cur:=(iY s b l.cur).1.next,ahead:=l.cur})
def VL (l:j9) (x:Nat):Nat × j9:=if qB l.out x≠0 then(13,l)else(0,{l with out:=l.out ++ [x]})
theorem afv {out:List Nat} {x y:Nat} (h:out[out.length-1]? = some y) (hx:x≤y):qB out x≠0:=by
  unfold qB uw
  have A:out≠[]:=by rintro rfl;simp at h
  rw[List.getLast?_eq_getElem?,h,if_pos ⟨A,hx⟩]
  decide
theorem aif {out:List Nat} {x y:Nat} (h:out[out.length-1]? = some y) (hx:¬x≤y):qB out x=0:=by
  unfold qB uw
  rw[List.getLast?_eq_getElem?,h,if_neg (fun h=>hx h.2)]
theorem aii {out:List Nat} {x:Nat} (h:¬0<out.length):qB out x=0:=by
  unfold qB
  rw[if_neg (fun A=>A.1 (List.eq_nil_of_length_eq_zero Oh))]
def GP (b:Ly) (out:List Nat):Prop:=out.length≤uw out∧uw out<b.length+1
theorem adO (b:Ly):GP b []:=⟨Nat.le_refl _,Nat.succ_pos _⟩
theorem QK {b:Ly} {out:List Nat} (h:GP b out):out.length≤b.length:=by have:=h.1;have:=h.2;omega
theorem lI {b:Ly} {x:Nat} (h:jb b x=false):x≠0∧x<b.length:=by
  unfold jb at h
  have:=dF h
  omega
theorem OX (out:List Nat) (x:Nat):uw (out ++ [x])=x:=by simp[uw]
theorem JN {b:Ly} {l l':j9} {x c:Nat} (h:GP b l.out) (hi:VL l x=(c,l')) (hc:¬c≠0) (hn:jb b x=false):GP b l'.out∧l'.out=l.out ++ [x]∧l'.cur=l.cur∧l'.ahead=l.ahead∧qB l.out x=0:=by
  have D:=lI hn
  unfold VL at hi
  split at hi
  · exact absurd (congrArg Prod.fst hi) Oh
  rename_i h2
  have e:=congrArg Prod.snd hi
  simp only at e
  subst e
  refine⟨⟨?_,?_⟩,q,q,q,by omega⟩
  · simp only[OX,List.length_append,List.length_singleton]
    have A:qB l.out x=0:=by omega
    unfold qB at A
    have C:=h.1
    by_cases hn:l.out=[]
    · rw[hn];simp;omega
    have:¬x≤uw l.out:=fun B=>by rw[if_pos ⟨hn,B⟩]at A;cases A
    omega
  simp only[OX];omega
theorem BO {s c:Nat} {b:Ly} {l l':j9} {aD:List Nat} (ha:lN s b l=(aD,c,l')) (hc:¬c≠0):l.ahead<l.cur∧l'.out=l.out∧l'.ahead=l.cur∧l'.cur=(iY s b l.cur).1.next∧aD=(iY s b l.cur).1.aD∧(iY s b l.cur).2=0:=by
  unfold lN at ha
  split at ha
  · exact absurd (congrArg (fun x=>x.2.1) ha) Vw
  rename_i h
  simp only[Prod.mk.injEq]at ha
  obtain⟨rfl,A,rfl⟩:=ha
  exact⟨by omega,q,q,q,q,by omega⟩
theorem o8 {s c:Nat} {b:Ly} {l l':j9} {aD:List Nat} (ha:lN s b l=(aD,c,l')):l'.out=l.out:=by
  unfold lN at ha
  split at ha <;> (simp only[Prod.mk.injEq]at ha;obtain⟨_,_,rfl⟩:=ha;rfl)
theorem ab7 {s bY p a:Nat} {b:Ly} {out:List Nat} (h:¬out.length<bY):tJ s b bY p a out=(out,0):=by rw[tJ,if_pos Oh]
theorem aeY {s bY p a:Nat} {b:Ly} {out:List Nat} (h:out.length<bY) (hn:jb b p=true):tJ s b bY p a out=(out,14):=by
  rw[tJ,if_neg Oh,if_pos (by simpa [jb]using hn)]
theorem ab8 {s bY c:Nat} {b:Ly} {l l':j9} {aD:List Nat} (h:l.out.length<bY) (hn:jb b l.cur=false) (ha:lN s b l=(aD,c,l')) (hc:c≠0):tJ s b bY l.cur l.ahead l.out=(l'.out,c):=by
  have A:=lI hn
  rw[o8 ha]
  rw[tJ,if_neg Oh,if_neg Oh]
  unfold lN at ha
  split at ha
  · rename_i h1;rw[if_pos h1];simp only[Prod.mk.injEq]at ha;rw[ha.2.1]
  rename_i h1;rw[if_neg h1];simp only[Prod.mk.injEq]at ha;rw[← ha.2.1]at hc ⊢;rw[if_pos hc]
theorem V6 {s bY c:Nat} {b:Ly} {l l':j9} {aD:List Nat} (h:l.out.length<bY) (hn:jb b l.cur=false) (ha:lN s b l=(aD,c,l')) (hc:¬c≠0) :
    tJ s b bY l.cur l.ahead l.out=if(nA b bY aD l.out).2≠0 then nA b bY aD l.out else tJ s b bY l'.cur l'.ahead (nA b bY aD l.out).1:=by
  have G:=lI hn
  obtain⟨D,E,A,B,C,F⟩:=BO ha hc
  rw[tJ,if_neg Oh,if_neg Oh,if_neg Oh,if_neg Oh,A,B,C]
theorem abF {s bY c i:Nat} {b:Ly} {l l':j9} {aD out2:List Nat} {r r1:List Nat × Nat} (h0:tJ s b bY l.cur l.ahead l.out=r) (h:l.out.length<bY) (hn:jb b l.cur=false) (ha:lN s b l=(aD,c,l')) (hc:¬c≠0)
    (h1o:nA b bY (aD.drop 0) l'.out=r1) (h1:nA b bY (aD.drop i) out2=r1) (he:nA b bY (aD.drop i) out2=(out2,0)):tJ s b bY l'.cur l'.ahead out2=r:=by
  have A:nA b bY aD l.out=(out2,0):=by rw[← o8 ha];exact h1o.trans (h1.symm.trans he)
  rw[V6 h hn ha hc,A,if_neg Oq]at h0
  exact h0
theorem O6 {s bY c i k:Nat} {b:Ly} {l l':j9} {aD out2 out3:List Nat} {r r1:List Nat × Nat} (h0:tJ s b bY l.cur l.ahead l.out=r) (h:l.out.length<bY) (hn:jb b l.cur=false) (ha:lN s b l=(aD,c,l')) (hc:¬c≠0)
    (h1o:nA b bY (aD.drop 0) l'.out=r1) (h1:nA b bY (aD.drop i) out2=r1) (he:nA b bY (aD.drop i) out2=(out3,k)) (hk:k≠0):r=(out3,k):=by
  have A:nA b bY aD l.out=(out3,k):=by rw[← o8 ha];exact h1o.trans (h1.symm.trans he)
  rw[V6 h hn ha hc,A,if_pos hk]at h0
  exact h0.symm
theorem ab6 {bY i:Nat} {b:Ly} {aD out:List Nat} (h:¬i<aD.length):nA b bY (aD.drop i) out=(out,0):=by rw[List.drop_eq_nil_of_le Oh];rfl
theorem YB {bY:Nat} {b:Ly} {aD out:List Nat} (h:bY≤out.length):nA b bY aD out=(out,0):=by
  cases aD with
  | nil=>rfl
  | cons x r=>unfold nA;rw[if_pos h]
theorem drop_cons {aD:List Nat} {i x:Nat} (h:aD[i]? = some x):aD.drop i=x :: aD.drop (i+1):=by
  obtain⟨A,B⟩:=List.getElem?_eq_some_iff.1 h
  rw[← B];exact(List.drop_eq_getElem_cons A)
theorem ahJ {bY i x:Nat} {b:Ly} {aD out:List Nat} (h:aD[i]? = some x) (hm:¬bY≤out.length) (hn:jb b x=true):nA b bY (aD.drop i) out=(out,2):=by
  rw[drop_cons h,nA,if_neg hm,if_pos (by simpa [jb]using hn)]
theorem aeX {bY i x c:Nat} {b:Ly} {aD:List Nat} {l l':j9} (h:aD[i]? = some x) (hm:¬bY≤l.out.length) (hn:jb b x=false) (hi:VL l x=(c,l')) (hc:c≠0):nA b bY (aD.drop i) l.out=(l'.out,c):=by
  have A:=lI hn
  rw[drop_cons h,nA,if_neg hm,if_neg Oh]
  unfold VL at hi
  split at hi
  · rename_i h2;rw[if_pos h2];simp only[Prod.mk.injEq]at hi;rw[← hi.1,← hi.2]
  exact absurd (congrArg Prod.fst hi).symm hc
theorem YC {bY i x c:Nat} {b:Ly} {aD:List Nat} {l l':j9} (h:aD[i]? = some x) (hm:¬bY≤l.out.length) (hn:jb b x=false) (hi:VL l x=(c,l')) (hc:¬c≠0):nA b bY (aD.drop i) l.out=nA b bY (aD.drop (i+1)) l'.out:=by
  have A:=lI hn
  rw[drop_cons h,nA,if_neg hm,if_neg Oh]
  unfold VL at hi
  split at hi
  · exact absurd (congrArg Prod.fst hi) Oh
  rename_i h2;rw[if_neg h2];simp only[Prod.mk.injEq]at hi;rw[← hi.2]
def VA (s:Nat) (b:Ly) (bY p:Nat):List Nat × Nat:=tJ s b bY p 0 []
theorem aiu {s bY p a:Nat} {b:Ly} {out:List Nat} (h:¬out.length<bY):PX s b bY p a out=(out,0):=by rw[PX,if_pos Oh]
theorem aiv {s bY p a:Nat} {b:Ly} {out:List Nat} (h:out.length<bY) (hn:jb b p=true):PX s b bY p a out=(out,0):=by
  rw[PX,if_neg Oh,if_pos (by simpa [jb]using hn)]
theorem afB {s bY c:Nat} {b:Ly} {l l':j9} {aD:List Nat} (h:l.out.length<bY) (hn:jb b l.cur=false) (ha:lN s b l=(aD,c,l')) (hc:c≠0):PX s b bY l.cur l.ahead l.out=(l'.out,c):=by
  have A:=lI hn
  rw[o8 ha]
  rw[PX,if_neg Oh,if_neg Oh]
  unfold lN at ha
  split at ha
  · rename_i h1;rw[if_pos h1];simp only[Prod.mk.injEq]at ha;rw[ha.2.1]
  rename_i h1;rw[if_neg h1];simp only[Prod.mk.injEq]at ha;rw[← ha.2.1]at hc ⊢;rw[if_pos hc]
theorem acG {s bY c:Nat} {b:Ly} {l l':j9} {aD:List Nat} (h:l.out.length<bY) (hn:jb b l.cur=false) (ha:lN s b l=(aD,c,l')) (hc:¬c≠0) :
    PX s b bY l.cur l.ahead l.out=if(xE b bY aD l.out).2.2=true then((xE b bY aD l.out).1,(xE b bY aD l.out).2.1)else PX s b bY l'.cur l'.ahead (xE b bY aD l.out).1:=by
  have G:=lI hn
  obtain⟨D,E,A,B,C,F⟩:=BO ha hc
  rw[PX,if_neg Oh,if_neg Oh,if_neg Oh,if_neg Oh,A,B,C]
theorem akl {s bY c i:Nat} {b:Ly} {l l':j9} {aD out2:List Nat} {r:List Nat × Nat} {r1:List Nat × Nat × Bool} (h0:PX s b bY l.cur l.ahead l.out=r) (h:l.out.length<bY) (hn:jb b l.cur=false) (ha:lN s b l=(aD,c,l')) (hc:¬c≠0)
    (h1o:xE b bY (aD.drop 0) l'.out=r1) (h1:xE b bY (aD.drop i) out2=r1) (he:xE b bY (aD.drop i) out2=(out2,0,false)):PX s b bY l'.cur l'.ahead out2=r:=by
  have A:xE b bY aD l.out=(out2,0,false):=by rw[← o8 ha];exact h1o.trans (h1.symm.trans he)
  rw[acG h hn ha hc,A,if_neg Oq]at h0
  exact h0
theorem LQ {s bY c i k:Nat} {b:Ly} {l l':j9} {aD out2 out3:List Nat} {r:List Nat × Nat} {r1:List Nat × Nat × Bool} (h0:PX s b bY l.cur l.ahead l.out=r) (h:l.out.length<bY) (hn:jb b l.cur=false) (ha:lN s b l=(aD,c,l')) (hc:¬c≠0)
    (h1o:xE b bY (aD.drop 0) l'.out=r1) (h1:xE b bY (aD.drop i) out2=r1) (he:xE b bY (aD.drop i) out2=(out3,k,true)):r=(out3,k):=by
  have A:xE b bY aD l.out=(out3,k,true):=by rw[← o8 ha];exact h1o.trans (h1.symm.trans he)
  rw[acG h hn ha hc,A,if_pos q]at h0
  exact h0.symm
theorem afA {bY i:Nat} {b:Ly} {aD out:List Nat} (h:¬i<aD.length):xE b bY (aD.drop i) out=(out,0,false):=by rw[List.drop_eq_nil_of_le Oh];rfl
theorem acE {bY i x:Nat} {b:Ly} {aD out:List Nat} (h:aD[i]? = some x) (hm:bY≤out.length):xE b bY (aD.drop i) out=(out,0,true):=by
  rw[drop_cons h,xE,if_pos hm]
theorem akk {bY i x:Nat} {b:Ly} {aD out:List Nat} (h:aD[i]? = some x) (hm:¬bY≤out.length) (hn:jb b x=true):xE b bY (aD.drop i) out=(out,0,true):=by
  rw[drop_cons h,xE,if_neg hm,if_pos (by simpa [jb]using hn)]
theorem ait {bY i x c:Nat} {b:Ly} {aD:List Nat} {l l':j9} (h:aD[i]? = some x) (hm:¬bY≤l.out.length) (hn:jb b x=false) (hi:VL l x=(c,l')) (hc:c≠0):xE b bY (aD.drop i) l.out=(l'.out,c,true):=by
  have A:=lI hn
  rw[drop_cons h,xE,if_neg hm,if_neg Oh]
  unfold VL at hi
  split at hi
  · rename_i h2;rw[if_pos h2];simp only[Prod.mk.injEq]at hi;rw[← hi.1,← hi.2]
  exact absurd (congrArg Prod.fst hi).symm hc
theorem acF {bY i x c:Nat} {b:Ly} {aD:List Nat} {l l':j9} (h:aD[i]? = some x) (hm:¬bY≤l.out.length) (hn:jb b x=false) (hi:VL l x=(c,l')) (hc:¬c≠0):xE b bY (aD.drop i) l.out=xE b bY (aD.drop (i+1)) l'.out:=by
  have A:=lI hn
  rw[drop_cons h,xE,if_neg hm,if_neg Oh]
  unfold VL at hi
  split at hi
  · exact absurd (congrArg Prod.fst hi) Oh
  rename_i h2;rw[if_neg h2];simp only[Prod.mk.injEq]at hi;rw[← hi.2]
theorem af9 {s p c:Nat} {b:Ly} {d:gT} (h:gm s b p=(d,c)) (hc:c≠0):ZI s b p=([],c):=by unfold ZI;rw[h];simp only;rw[if_pos hc]
theorem PW {s p c:Nat} {b:Ly} {d:gT} (h:gm s b p=(d,c)) (hc:¬c≠0) (h0:d.bR=0∨jb b d.entry=true):ZI s b p=([],0):=by
  unfold ZI;rw[h];simp only
  rw[if_neg hc,if_pos]
  rcases h0 with h0|h0
  · exact .inl h0
  unfold jb at h0;have:=dT h0;omega
theorem vz {s p c:Nat} {b:Ly} {d:gT} (h:gm s b p=(d,c)) (hc:¬c≠0) (h0:¬d.bR=0) (hn:jb b d.entry=false):ZI s b p=PX s b d.bR d.array 0 [d.entry]:=by
  have A:=lI hn
  unfold ZI;rw[h];simp only
  rw[if_neg hc,if_neg Oh]
theorem adP {b:Ly} {x:Nat} (hn:jb b x=false):GP b [x]:=by
  have A:=lI hn
  unfold GP uw;simp;omega
end Go.Wk
namespace Go.Wk
open Go Go.RowKit
end Go.Wk
namespace Go.Wk
open Go Go.RowKit
theorem nD {l:List Nat} {i v:Nat} (h:i<l.length):(l.set i v).getD i 0=v:=by simp[List.getD,h]
def oc (z:Mk) (n seq cr mono e:Nat) (bV:Ly):Mk :=
  let m7:=if n=0 then(z.dX 10 seq).dX 12 cr else z
  let m8:=m7.dX 8 ((m7.cT 8+1)%18446744073709551616)
  let m9:=((m8.dX 9 seq).dX 13 cr).dX 14 mono
  {m9 with h:={m9.h with bV:=bV,eM:=e}}
theorem vm (z:Mk) (n seq cr mono e:Nat) (bV:Ly):(oc z n seq cr mono e bV).b=z.b∧(oc z n seq cr mono e bV).c=z.c∧(oc z n seq cr mono e bV).ai=z.ai∧(oc z n seq cr mono e bV).aj=z.aj∧(oc z n seq cr mono e bV).main=z.main ∧
    (oc z n seq cr mono e bV).h.n.getD 2 0=z.h.n.getD 2 0∧(oc z n seq cr mono e bV).h.n.getD 4 0=z.h.n.getD 4 0∧(oc z n seq cr mono e bV).h.n.length=z.h.n.length ∧
    (z.h.n.length=20→(oc z n seq cr mono e bV).n8=(z.n8+1)%18446744073709551616∧(oc z n seq cr mono e bV).cT 9=seq):=by
  unfold oc
  simp only
  generalize hm7:(if n=0 then(z.dX 10 seq).dX 12 cr else z)=m7
  have A:m7.b=z.b∧m7.c=z.c∧m7.ai=z.ai∧m7.aj=z.aj∧m7.main=z.main∧m7.h.n.getD 8 0=z.h.n.getD 8 0∧m7.h.n.getD 2 0=z.h.n.getD 2 0∧m7.h.n.getD 4 0=z.h.n.getD 4 0∧m7.h.n.length=z.h.n.length:=by
    subst hm7
    split
    · exact⟨q,q,q,q,q,(bB Om).trans (bB Om),(bB Om).trans (bB Om),(bB Om).trans (bB Om),by simp[Mk.dX]⟩
    · exact⟨q,q,q,q,q,q,q,q,q⟩
  obtain⟨C,D,E,F,G,H,I,J,K⟩:=A
  clear hm7
  refine⟨C,D,E,F,G,?_,?_,?_,fun B=>⟨?_,?_⟩⟩
  · rw[← I]
    exact(bB Om).trans ((bB Om).trans ((bB Om).trans (bB Om)))
  · rw[← J]
    exact(bB Om).trans ((bB Om).trans ((bB Om).trans (bB Om)))
  · rw[← K];simp[Mk.dX]
  · have e:m7.cT 8=z.n8:=H
    rw[e]
    exact(bB Om).trans ((bB Om).trans ((bB Om).trans (nD Oh)))
  exact(bB Om).trans ((bB Om).trans (nD (by simp[Mk.dX];omega)))
theorem xY {m:Mk} (h:wu m) {raw:List Pr} {cr mono:Nat} {bV:Ly} (hb:bV.length=16) (h20:(m.append raw cr mono bV).2.2.h.n.length=20):wu (m.append raw cr mono bV).2.2:=by
  rcases hl:kZ raw with⟨l,c⟩
  by_cases h2:c≠0
  · have e:m.append raw cr mono bV=(0,c,m):=by unfold Mk.append;simp only[hl];rw[if_pos h2]
    rw[e];exact h
  by_cases h3:m.cT 9=18446744073709551615
  · have e:m.append raw cr mono bV=(0,1,m):=by unfold Mk.append;simp only[hl];rw[if_neg h2,if_pos h3]
    rw[e];exact h
  obtain⟨w,ll⟩:=uz hl
  have D:=vh l m [] [] 0 (qx h) w
  rcases hd:iH l m [] []with⟨ps,M,x⟩
  rw[hd,Nat.zero_add]at D
  simp only at D
  have s1:=h.small
  have s4:=h.nb
  have d1:=D.app.ge
  have d2:=D.app.le
  have d5:=D.len.1
  have Ad:=D.app.n8
  generalize hE:({seq:=(x.cT 9+1)%18446744073709551616,cr:=cr,mono:=mono,bV:=bV,xor:=nk 0 ps,aD:=jG x M}:gH)=E
  have eb:E.bV.length=16:=by subst hE;exact hb
  have ei:E.aD.length=M.length:=by subst hE;simp[jG]
  have el:=mH E eb
  have C:=BM (L:=400) (o:=eA E) D.app Oh
  have d:=(iM x (eA E)).2.1
  have S:=(fC x (eA E)).2.2.2
  have O:=(fC x (eA E)).2.1
  rcases ho:x.di (eA E)with⟨e,B⟩
  rw[ho]at C d S O
  simp only at C d S O
  have N:B.h.n.getD 8 0=m.n8:=C.n8
  have Z:kD B.b.length B.main (B.cT 8):=by
    rw[show B.cT 8=m.n8 from N,S,D.main];exact pR h.main C.ge
  have K:=xq B B.main (B.cT 8) 176 e Z
  have G:=BL (src:=176) (iI:=e) C Z
  rcases hk:B.link B.main (B.cT 8) 176 e with⟨a,t,P⟩
  rw[hk]at K G
  simp only at K G
  generalize hY:(let m4:=({P with main:=a}:Mk).dX 11 (a.getD 0 0);({m4 with h:={m4.h with eu:=jX a%4294967296,eC:=t%4294967296}}:Mk))=Y
  have F:lK m Y l.length (900*l.length+400+2100+0) 0:=by
    subst hY
    exact BN (e':=0) G q (bB Om) (bB Om) (bB Om) q q (Nat.le_refl _) (Nat.le_refl _) (Nat.le_refl _)
  have u:Y.b=P.b:=by subst hY;rfl
  have X:Y.ai=P.ai:=by subst hY;rfl
  have v:Y.main=a:=by subst hY;rfl
  obtain⟨A,zm,zd⟩:=DC (en:=e) M Y _ _ F (fun i T=>by rw[X,K.ai,O];exact D.idx i T)
  have y8:Y.n8=m.n8:=F.n8
  have Q:=(DC (en:=e) M Y 0 0 ⟨F.fit,q,q,by rw[y8];exact F.chains,Nat.le_add_right _ 0,Nat.le_add_right _ 0,Nat.le_refl _,Nat.le_refl _⟩ (fun i T=>by rw[X,K.ai,O];exact D.idx i T)).1
  have U:=kL (cr:=cr) (mono:=mono) (bV:=bV) hl h2 h3 hd (by rw[hE];exact ho) hk (z:=kX e M Y) (by rw[hY])
  generalize kX e M Y=z at *
  replace U:m.append raw cr mono bV=if z.c.bY<z.b.length then(0,15,m)else((x.cT 9+1)%18446744073709551616,0,oc z (B.cT 8) ((x.cT 9+1)%18446744073709551616) cr mono e bV):=U
  rw[U]at h20 ⊢
  split at h20
  · rename_i hm
    rw[if_pos hm];exact h
  rename_i hm
  rw[if_neg hm]
  have q1:=A.ge
  have q2:=A.le
  have q3:=A.nd
  have q4:=A.nf
  have j:=A.c
  have z8:z.n8=m.n8:=A.n8
  have H:=h.bY
  have r1:=h.nd
  have r2:=h.nf
  have g3:=K.ge
  have y:P.b.length≤z.b.length:=by have h:=Q.ge;rw[u]at h;exact h
  obtain⟨J,V,W,g,kz5,p,r,kl,kz8⟩:=vm z (B.cT 8) ((x.cT 9+1)%18446744073709551616) cr mono e bV
  simp only at h20 ⊢
  generalize oc z (B.cT 8) ((x.cT 9+1)%18446744073709551616) cr mono e bV=R at *
  have I:=(kz8 Oh).1
  rw[z8,Nat.mod_eq_of_lt Oh]at I
  refine⟨pU A.fit ⟨by rw[V],by rw[V],p,r,by rw[J];exact Nat.le_refl _⟩ (fun k hk=>.inl (W ▸ hk)) (fun k hk=>.inl (g ▸ hk)),?_,?_,?_,?_,?_,?_,?_,?_⟩
  · rw[I,J,kz5,zm,v]
    have f:=K.chain
    rw[show B.cT 8=m.n8 from N]at f
    exact pR f y
  · intro k hk
    rw[W]at hk
    obtain⟨u1,u2,u3,u4⟩:=A.chains k hk
    rw[J,I]
    exact⟨u1,u2,u3,by omega⟩
  · rw[W,I];omega
  · rw[g,I];omega
  · rw[J,I];omega
  · rw[J];rw[j]at hm;omega
  · rw[V,j];exact H
  rw[J];have:=h.hd;omega
theorem xB {c:nV} {t:Nat} (h:c.ay≤10∧c.aA≤10) (h1:1≤c.ay∧1≤c.aA) (h2:c.bY≤40000):wu (ja c t):=by
  have D:=(nI 4 (List.replicate c.ay {first:=0,tail:=0})).2 (.inl q)
  have E:=(nI 5 (List.replicate c.aA {first:=0,tail:=0})).2 (.inr q)
  have e:(ja c t).b=List.replicate 272 0 ++ fE 4 (List.replicate c.ay {first:=0,tail:=0}) ++ fE 5 (List.replicate c.aA {first:=0,tail:=0}):=rfl
  have A:=congrArg List.length e
  simp only[List.length_append,List.length_replicate]at D E A
  have B:(ja c t).n8=0:=rfl
  have C:(ja c t).ai=[]:=rfl
  have F:(ja c t).aj=[]:=rfl
  refine⟨⟨h1.1,by show c.ay≤64;omega,h1.2,by show c.aA≤64;omega,?_,?_,(fun k hk=>by rw[C]at hk;simp at hk),(fun k hk=>by rw[F]at hk;simp at hk)⟩,by rw[B];exact chain_nil _,(fun k hk=>by rw[C]at hk;simp at hk),by rw[B];exact Nat.le_refl _,by rw[B];exact Nat.le_refl _,by omega,by omega,h2,by omega⟩
  · have:(ja c t).h.n.getD 2 0=288:=rfl
    rw[this,A];show 288+16*c.ay≤_;omega
  have:(ja c t).h.n.getD 4 0=(List.replicate 272 (0:UInt8) ++ fE 4 (List.replicate c.ay {first:=0,tail:=0})).length+16:=rfl
  rw[this,A,List.length_append,List.length_replicate];show _+16*c.aA≤_;omega
theorem vg (s:Sq):(s.config.1.ay≤10∧s.config.1.aA≤10)∧(1≤s.config.1.ay∧1≤s.config.1.aA)∧s.config.1.bY≤40000:=by
  refine⟨KT s,?_⟩
  rcases h1:s.cT 5 with⟨a,A⟩
  rcases h2:A.cT 5 with⟨b,B⟩
  rcases h3:B.cT 5 with⟨c,C⟩
  rcases h4:C.cT 7 with⟨d,D⟩
  rcases h5:D.cT 4 with⟨e,E⟩
  rcases h6:E.cT 2 with⟨f,F⟩
  simp only[Sq.config,h1,h2,h3,h4,h5,h6]
  omega
theorem aaj (s:Sq) (n:Nat):(∀q∈(s.record n).1.aj,BD q)∧(s.record n).1.aj.length≤16:=by
  rcases h1:s.pairs 4 with⟨A,B⟩
  rcases h2:B.cT 40 with⟨a,C⟩
  rcases h3:C.cT 9 with⟨b,D⟩
  rcases h4:D.cT 3 with⟨c,E⟩
  simp only[Sq.record,h1,h2,h3,h4]
  exact uz (show kZ A=((kZ A).1,(kZ A).2)from rfl)
theorem zJ (s:Sq) (n:Nat):(s.record n).1.bV.length=16:=by
  rcases h1:s.pairs 4 with⟨D,A⟩
  rcases h2:A.cT 40 with⟨a,B⟩
  rcases h3:B.cT 9 with⟨b,C⟩
  rcases h4:C.cT 3 with⟨c,E⟩
  simp only[Sq.record,h1,h2,h3,h4]
  simp[idF]
theorem EF {bY:Nat} {s:Sq} {m:Mk} {rs:List Rec} (h:¬(rs.length<bY∧s.bn<s.l.length)):jH (bY-rs.length) s m rs=(m,rs,s):=by
  by_cases h1:rs.length<bY
  · obtain⟨n,B⟩:∃n,bY-rs.length=n+1:=⟨bY-rs.length-1,by omega⟩
    rw[B]
    show(if s.bn<s.l.length then _ else(m,rs,s))=_
    rw[if_neg (fun A=>h ⟨h1,A⟩)]
  rw[show bY-rs.length=0 by omega];rfl
theorem ZC {bY c e:Nat} {s s1:Sq} {m m1:Mk} {rs:List Rec} {r:Rec} (h:rs.length<bY) (h2:s.bn<s.l.length) (hr:s.record ((m.cT 9+1)%18446744073709551616)=(r,s1)) (ha:m.append r.aj r.cr r.mono r.bV=(e,c,m1)) (hc:c≠0) :
    jH (bY-rs.length) s m rs=(m1,rs,s1):=by
  obtain⟨n,A⟩:∃n,bY-rs.length=n+1:=⟨bY-rs.length-1,by omega⟩
  rw[A]
  unfold jH
  rw[if_pos h2]
  simp only[hr,ha]
  rw[if_pos hc]
theorem ZD {bY c e:Nat} {s s1:Sq} {m m1:Mk} {rs:List Rec} {r:Rec} (h:rs.length<bY) (h2:s.bn<s.l.length) (hr:s.record ((m.cT 9+1)%18446744073709551616)=(r,s1)) (ha:m.append r.aj r.cr r.mono r.bV=(e,c,m1)) (hc:¬c≠0) :
    jH (bY-rs.length) s m rs=jH (bY-(rs ++ [r]).length) s1 m1 (rs ++ [r]):=by
  obtain⟨n,A⟩:∃n,bY-rs.length=n+1:=⟨bY-rs.length-1,by omega⟩
  rw[A]
  rw[jH,if_pos h2]
  simp only[hr,ha]
  rw[if_neg hc,show bY-(rs ++ [r]).length=n by simp;omega]
theorem rM (m:Mk) (o:Ly):(m.di o).2.h.n.length=m.h.n.length:=by simp[Mk.di,Mk.dX]
theorem WC (m:Mk) (l:List aZ) (t p s:Nat):(m.hang l t p s).2.h=m.h:=by rw[(AI m l t p s).1]
theorem ac7 (m:Mk) (x:Ly):(m.field x).2.h.n.length=m.h.n.length:=by
  unfold Mk.field
  split
  · rfl
  simp only
  have B:=rM m (iv {cQ:=dW m.c.dx m.c.cG x,bT:=0,dat:=0,ak:=x})
  generalize m.di (iv {cQ:=dW m.c.dx m.c.cG x,bT:=0,dat:=0,ak:=x})=r at *
  obtain⟨p,A⟩:=r
  simp only at B ⊢
  have C:=WC A A.aj (A.cT 4) p (dW m.c.dx m.c.cG x%A.c.aA)
  generalize A.hang A.aj (A.cT 4) p (dW m.c.dx m.c.cG x%A.c.aA)=r at *
  obtain⟨n,D⟩:=r
  simp only at C ⊢
  simp only[Mk.dX,List.length_set,C]
  exact B
theorem af8 (m:Mk) (x:Pr):(m.data x).2.h.n.length=m.h.n.length:=by
  unfold Mk.data
  split
  · rfl
  simp only
  have C:=rM m (jc {cQ:=dW m.c.dx m.c.cG (ak x),bT:=0,eH:=0,entry:=0,array:=0,bR:=0,ak:=ak x})
  generalize m.di (jc {cQ:=dW m.c.dx m.c.cG (ak x),bT:=0,eH:=0,entry:=0,array:=0,bR:=0,ak:=ak x})=r at *
  obtain⟨p,A⟩:=r
  simp only at C ⊢
  have D:=WC A A.ai (A.cT 2) p (dW m.c.dx m.c.cG (ak x)%A.c.ay)
  generalize A.hang A.ai (A.cT 2) p (dW m.c.dx m.c.cG (ak x)%A.c.ay)=r at *
  obtain⟨n,B⟩:=r
  simp only at D ⊢
  generalize hx5:({(B.dX 19 (max (B.cT 19) n)).dX 15 (((B.dX 19 (max (B.cT 19) n)).cT 15+1)%18446744073709551616)with ai:=((B.dX 19 (max (B.cT 19) n)).dX 15 (((B.dX 19 (max (B.cT 19) n)).cT 15+1)%18446744073709551616)).ai ++ [({cA:=ak x,bn:=p,cO:=dW m.c.dx m.c.cG (ak x)%A.c.ay,bR:=0,bw:=[]}:aZ)]}:Mk)=m5
  have E:m5.h.n.length=m.h.n.length:=by subst hx5;simp only[Mk.dX,List.length_set,D];exact C
  have F:=ac7 m5 x.name
  generalize m5.field x.name=r at *
  obtain⟨k,G⟩:=r
  exact F.trans E
theorem yN:∀(l:List Pr) (m:Mk) (ps:List (List UInt8)) (od:List Nat),(iH l m ps od).2.2.h.n.length=m.h.n.length
  | [],_,_,_=>rfl
  | x :: r,m,ps,od=>(yN r _ _ _).trans (af8 m x)
theorem LI (m:Mk) (a:List Nat) (n src iI:Nat):(m.link a n src iI).2.2.h.n.length=m.h.n.length:=by
  unfold Mk.link
  generalize gC a 0 0 0=r
  obtain⟨A,D⟩:=r
  simp only
  split
  · have B:=rM m (gE {next:=0,aD:=List.replicate (eP (a.length:Int)) 0})
    generalize m.di (gE {next:=0,aD:=List.replicate (eP (a.length:Int)) 0})=r at *
    obtain⟨p,C⟩:=r
    simp only at B ⊢
    split
    · show(C.dX 18 _).h.n.length=_
      simp only[Mk.dX,List.length_set];exact B
    show(C.dX 18 _).h.n.length=_
    simp only[Mk.dX,List.length_set];exact B
  rfl
theorem EH (e:Nat):∀(od:List Nat) (m:Mk),(kX e od m).h.n.length=m.h.n.length
  | [],_=>rfl
  | i :: r,m=>by
    rw[oe,EH e r]
    unfold kM
    simp only
    split
    · rfl
    · exact LI m _ _ _ _
theorem yM (m:Mk) (raw:List Pr) (cr mono:Nat) (bV:Ly):(m.append raw cr mono bV).2.2.h.n.length=m.h.n.length:=by
  rcases hl:kZ raw with⟨l,c⟩
  by_cases h2:c≠0
  · have e:m.append raw cr mono bV=(0,c,m):=by unfold Mk.append;simp only[hl];rw[if_pos h2]
    rw[e]
  by_cases h3:m.cT 9=18446744073709551615
  · have e:m.append raw cr mono bV=(0,1,m):=by unfold Mk.append;simp only[hl];rw[if_neg h2,if_pos h3]
    rw[e]
  have D:=yN l m [] []
  rcases hd:iH l m [] []with⟨I,C,x⟩
  rw[hd]at D
  have E:=rM x (eA {seq:=(x.cT 9+1)%18446744073709551616,cr:=cr,mono:=mono,bV:=bV,xor:=nk 0 I,aD:=jG x C})
  rcases ho:x.di (eA {seq:=(x.cT 9+1)%18446744073709551616,cr:=cr,mono:=mono,bV:=bV,xor:=nk 0 I,aD:=jG x C})with⟨e,A⟩
  rw[ho]at E
  have F:=LI A A.main (A.cT 8) 176 e
  rcases hk:A.link A.main (A.cT 8) 176 e with⟨a,t,H⟩
  rw[hk]at F
  simp only at D E F
  have B:m.append raw cr mono bV=_:=kL (cr:=cr) (mono:=mono) (bV:=bV) hl h2 h3 hd ho hk q
  have G:=EH e C (let m4:=({H with main:=a}:Mk).dX 11 (a.getD 0 0);{m4 with h:={m4.h with eu:=jX a%4294967296,eC:=t%4294967296}})
  generalize kX e C (let m4:=({H with main:=a}:Mk).dX 11 (a.getD 0 0);{m4 with h:={m4.h with eu:=jX a%4294967296,eC:=t%4294967296}})=z at B G
  replace B:m.append raw cr mono bV=if z.c.bY<z.b.length then(0,15,m)else((x.cT 9+1)%18446744073709551616,0,oc z (A.cT 8) ((x.cT 9+1)%18446744073709551616) cr mono e bV):=B
  rw[B]
  split
  · rfl
  show(oc _ _ _ _ _ _ _).h.n.length=_
  rw[(vm _ _ _ _ _ _ _).2.2.2.2.2.2.2.1,G]
  simp only[Mk.dX,List.length_set]
  omega
theorem IW:∀(n:Nat) (s:Sq) (m:Mk) (rs:List Rec),wu m→m.h.n.length=20→wu (jH n s m rs).1∧(jH n s m rs).1.h.n.length=20
  | 0,_,_,_,h,h2=>⟨h,h2⟩
  | n+1,s,m,rs,h,h2=>by
    unfold jH
    split
    · rcases hr:s.record ((m.cT 9+1)%18446744073709551616)with⟨r,s1⟩
      have hb:r.bV.length=16:=by
        have:=zJ s ((m.cT 9+1)%18446744073709551616)
        rw[hr]at this;exact this
      have A:=yM m r.aj r.cr r.mono r.bV
      have B:=xY (raw:=r.aj) (cr:=r.cr) (mono:=r.mono) h hb (A.trans h2)
      rcases ha:m.append r.aj r.cr r.mono r.bV with⟨e,c,C⟩
      rw[ha]at A B
      simp only[ha]
      split
      · exact⟨B,A.trans h2⟩
      · exact IW n s1 C _ B (A.trans h2)
    · exact⟨h,h2⟩
theorem acv {s s':Sq} {bY:Nat} {m:Mk} {rs:List Rec} (h:s.pZ bY=(m,rs,s')):wu m∧m.h.n.length=20:=by
  have A:=vg s
  rcases h1:s.config with⟨c,B⟩
  rcases h2:B.cT 6 with⟨t,C⟩
  rw[h1]at A
  simp only[Sq.pZ,h1,h2]at h
  have:=IW bY C (ja c t) [] (xB A.1 A.2.1 A.2.2) q
  rw[h]at this
  exact this
theorem S1 {m:Mk} (ok:fR.ok m.h) (hb:m.b.length≤40000):(nE m 1).length≤100000:=by
  unfold nE
  rw[List.length_append,yC {m.h with state:=1,n:=m.h.n.set 1 (m.b.length-272)} m.depth ⟨ok.1,ok.2.1,(by decide:(1:Nat)<9223372036854775808),ok.2.2.2.1,ok.2.2.2.2.1,ok.2.2.2.2.2.1,ok.2.2.2.2.2.2.1,xD ok.2.2.2.2.2.2.2.1 Oh,ok.2.2.2.2.2.2.2.2⟩,List.length_drop]
  omega
end Go.Wk
namespace Go.Wk
open Go Go.RowKit
theorem TY (x y:UInt8):Value.int .u8 ((x.toNat ^^^ y.toNat:Nat):Int)=b8 (x ^^^ y):=by simp[b8,UInt8.toNat_xor]
section
variable {P:Program} {n:Nat} {A:Fr n} {D:List Deferred} {l:List (Nat × Value)} {w:World} {d:Option Tmp} {ty:TypeId} {ps:String} {af:Array Edge} {g:Option (Nat × Bool)}
end
def OL (l:List Int) (bY:Nat):List UInt8:=if(xh l bY).length≤100000 then xh l bY else[]
theorem aft {l:List Int} {bY:Nat} {r:Ly} (h:xh l bY=r) (hl:r.length≤100000):OL l bY=r:=by unfold OL;rw[h,if_pos hl]
theorem acg (l:List Int) (bY:Nat):(OL l bY).length≤100000:=by unfold OL;split<;>simp_all
theorem akA {z:Int} (h:(Lit.int .u8 z).wf=true):Value.int .u8 z=b8 (UInt8.ofNat z.toNat):=by
  simp[Lit.wf,IntKind.min,IntKind.max,IntKind.signed,IntKind.bits]at h
  unfold b8
  rw[UInt8.toNat_ofNat',Nat.mod_eq_of_lt Oh,Int.toNat_of_nonneg Oh]
end Go.Wk
namespace Go.Wk
open Go Go.RowKit
end Go.Wk
namespace Go.Wk
open Go Go.RowKit
def oC (b:Ly) (p n:Nat):List oS:=(List.range n).map fun i=>{first:=eY b (p+16*i),tail:=eY b (p+16*i+8)}
theorem uP (b:Ly) (p n:Nat):(oC b p n).length=n:=by simp[oC]
theorem MS (b:Ly) (p n:Nat):oC b p (n+1)=oC b p n ++ [{first:=eY b (p+16*n),tail:=eY b (p+16*n+8)}]:=by simp[oC,List.range_succ]
def jL (b:Ly) (p:Nat) (k:Int):List oS × Nat :=
  if ¬(k=4∨k=5)then([],1)
  else if(k9 b p k.toNat 0 16).2≠0 then([],(k9 b p k.toNat 0 16).2)
  else(oC (k9 b p k.toNat 0 16).1 0 ((k9 b p k.toNat 0 16).1.length/16),0)
theorem ak8 {b:Ly} {p:Nat} {k:Int} (h:¬(k=4∨k=5)):jL b p k=([],1):=by unfold jL;rw[if_pos h]
theorem aiQ {b x:Ly} {p k c:Nat} (hk:(k:Int)=4∨(k:Int)=5) (h:k9 b p k 0 16=(x,c)) (hc:c≠0):jL b p (k:Int)=([],c):=by
  unfold jL;rw[if_neg (fun h=>h hk),Int.toNat_natCast,h,if_pos hc]
theorem aiR {b x:Ly} {p k c:Nat} {l:List oS} (hk:(k:Int)=4∨(k:Int)=5) (h:k9 b p k 0 16=(x,c)) (hc:¬c≠0) (hl:l=oC x 0 (x.length/16)):jL b p (k:Int)=(l,0):=by
  unfold jL;rw[if_neg (fun h=>h hk),Int.toNat_natCast,h,if_neg hc,hl]
theorem aau {x:Ly} {l:List oS} {m:List Nat} {i n v u:Nat} (hl:l=oC x 0 (i/2)) (hi:i%2=0) (hm:m=gN x 0 n) (hv:m[i]? = some v) (hu:m[i+1]? = some u):l ++ [{first:=v,tail:=u}]=oC x 0 ((i+2)/2):=by
  subst hm
  rw[show(i+2)/2=i/2+1 by omega,MS,hl,(oI hv).1,(oI hu).1,show 0+16*(i/2)=0+8*i by omega,show 0+8*(i+1)=0+8*i+8 by omega]
def oP (n:List Nat) (b:Ly) (k:Int):List oS × Nat :=
  if(jL b ((if k=4 then n.getD 2 0 else n.getD 4 0)-16) k).2≠0 then([],(jL b ((if k=4 then n.getD 2 0 else n.getD 4 0)-16) k).2)
  else if(jL b ((if k=4 then n.getD 2 0 else n.getD 4 0)-16) k).1.length≠(if k=4 then n.getD 3 0 else n.getD 5 0)/16 then([],14)
  else jL b ((if k=4 then n.getD 2 0 else n.getD 4 0)-16) k
end Go.Wk
namespace Go.Wk
open Go Go.RowKit
end Go.Wk
namespace Go.Wk
open Go Go.RowKit
end Go.Wk
namespace Go.Wk
open Go Go.RowKit
def ac8 (s:Nat) (b:Ly) (k:Int) (p:Nat):Nat:=if k=4 then(gm s b p).1.cQ else(ji s b p).1.cQ
def xC (s:Nat) (b:Ly) (k:Int) (p:Nat):Nat:=if k=4 then(gm s b p).1.bT else(ji s b p).1.bT
def ac9 (s:Nat) (b:Ly) (k:Int) (p:Nat):List UInt8:=if k=4 then(gm s b p).1.ak else(ji s b p).1.ak
def yO (s:Nat) (b:Ly) (k:Int) (p:Nat):Nat:=if k=4 then(gm s b p).2 else(ji s b p).2
def bkL (nx cd:Nat→Nat) (len:Nat):Nat→Nat→Nat→List Nat→List Nat × Nat
  | 0,_,_,o=>(o,0)
  | k+1,p,a,o=>if p=0∨len≤p then(o,0)else if p≤a then(o,12)else if cd p≠0 then(o,cd p)else bkL nx cd len k (nx p) p (o ++ [p])
section
variable {nx cd:Nat→Nat} {is:Nat→Bool} {len p a c:Nat} {o:List Nat}
theorem UH (m:Nat):∀(k p a:Nat) (o:List Nat),len-a<k→bkL nx cd len (k+m) p a o=bkL nx cd len k p a o
 | 0,_,_,_,h=>by omega
 | k+1,p,a,o,h=>by
  rw[show k+1+m=(k+m)+1 by omega,bkL,bkL]
  split
  ·rfl
  ·split
   ·rfl
   ·split
    ·rfl
    ·exact UH m k _ _ _ Oh
def NS (nx cd:Nat→Nat) (len p a:Nat) (o:List Nat):List Nat × Nat:=bkL nx cd len (len-a+1) p a o
theorem ah8 (h:p=0∨len≤p):NS nx cd len p a o=(o,0):=by unfold NS;rw[bkL,if_pos h]
theorem aeG (h:¬(p=0∨len≤p)) (h1:p≤a):NS nx cd len p a o=(o,12):=by unfold NS;rw[bkL,if_neg h,if_pos h1]
theorem ah7 (h:¬(p=0∨len≤p)) (h1:¬p≤a) (h2:cd p=c) (hc:c≠0):NS nx cd len p a o=(o,c):=by subst h2;unfold NS;rw[bkL,if_neg h,if_neg h1,if_pos hc]
theorem ajf (h:¬(p=0∨len≤p)) (h1:¬p≤a) (h2:cd p=0) {n:Nat} (hn:nx p=n):NS nx cd len p a o=NS nx cd len n p (o ++ [p]):=by
  subst hn
  unfold NS;rw[bkL,if_neg h,if_neg h1,if_neg Oh]
  rw[show len-a=(len-p+1)+(len-a-(len-p+1))by omega]
  exact UH _ _ _ _ _ Oh
end
def agy:oS:={first:=0,tail:=0}
theorem ag9 {n:List Nat} {b:Ly} {k:Int} {l:List oS} {c:Nat} (h:oP n b k=(l,c)) (hc:c=0):0<l.length:=by
  subst hc
  unfold oP at h
  generalize ((if k=4 then n.getD 2 0 else n.getD 4 0)-16)=a at h
  generalize (if k=4 then n.getD 3 0 else n.getD 5 0)/16=m at h
  split at h
  · rename_i h1;exact absurd (congrArg Prod.snd h) h1
  split at h
  · cases h
  unfold jL at h
  split at h
  · cases h
  split at h
  · rename_i h1;exact absurd (congrArg Prod.snd h) h1
  rename_i h1
  rcases hb:k9 b a k.toNat 0 16 with⟨x,d⟩
  rw[hb]at h h1
  obtain⟨_,_,A,B,_,C,_⟩:=ud hb (Classical.not_not.1 h1)
  have e:=congrArg Prod.fst h
  simp only at e
  rw[← e,uP]
  omega
theorem aki {s p:Nat} {b:Ly} {k:Int} (h:k=4):ac8 s b k p=(gm s b p).1.cQ∧xC s b k p=(gm s b p).1.bT∧ac9 s b k p=(gm s b p).1.ak∧yO s b k p=(gm s b p).2:=by
  unfold ac8 xC ac9 yO;rw[if_pos h,if_pos h,if_pos h,if_pos h];exact⟨q,q,q,q⟩
theorem akj {s p:Nat} {b:Ly} {k:Int} (h:¬k=4):ac8 s b k p=(ji s b p).1.cQ∧xC s b k p=(ji s b p).1.bT∧ac9 s b k p=(ji s b p).1.ak∧yO s b k p=(ji s b p).2:=by
  unfold ac8 xC ac9 yO;rw[if_neg h,if_neg h,if_neg h,if_neg h];exact⟨q,q,q,q⟩
def tr (n:List Nat) (b:Ly) (k cO:Int):List Nat × Nat :=
  if(oP n b k).2≠0 then([],(oP n b k).2)else if cO<0∨((oP n b k).1.length:Int)≤cO then([],2)
  else if(NS (xC (n.getD 0 0) b k) (yO (n.getD 0 0) b k) b.length ((oP n b k).1.getD cO.toNat agy).first 0 []).2≠0 then([],(NS (xC (n.getD 0 0) b k) (yO (n.getD 0 0) b k) b.length ((oP n b k).1.getD cO.toNat agy).first 0 []).2)
  else((NS (xC (n.getD 0 0) b k) (yO (n.getD 0 0) b k) b.length ((oP n b k).1.getD cO.toNat agy).first 0 []).1,0)
section
variable {n:List Nat} {b o nm9 pl:Ly} {k cO:Int} {l:List oS} {c d h p:Nat} {t:oS} {x:List Nat}
theorem abh (ht:oP n b k=(l,c)) (hc:c≠0):tr n b k cO=([],c):=by unfold tr;rw[ht];rw[if_pos hc]
theorem NV (ht:oP n b k=(l,c)) (hc:c=0) (hs:cO<0∨(l.length:Int)≤cO):tr n b k cO=([],2):=by
  subst hc;unfold tr;rw[ht];rw[if_neg Oq,if_pos hs]
theorem UI (ht:oP n b k=(l,c)) (hc:c=0) (h0:0≤cO) (hs:l[cO.toNat]? = some t) (hb:NS (xC (n.getD 0 0) b k) (yO (n.getD 0 0) b k) b.length t.first 0 []=(x,d)):tr n b k cO=if d≠0 then([],d)else(x,0):=by
  have A:=(List.getElem?_eq_some_iff.1 hs).1
  subst hc;unfold tr;rw[ht]
  rw[if_neg Oq,if_neg (by simp only[];omega)]
  have e:l.getD cO.toNat agy=t:=by rw[List.getD_eq_getElem?_getD,hs];rfl
  simp only[e,hb]
end
section
variable {n m:List Nat} (hn:∀i,i<20→m.getD i 0=n.getD i 0) (b:Ly) (k cO:Int) (h:Nat) (pl:Ly)
include hn
end
end Go.Wk
namespace Go.Wk
open Go Go.RowKit
def seg (b:Ly) (p n:Nat):List UInt8:=(b.drop p).take n
theorem qP {b:Ly} {p n i:Nat} (h:i<n):(seg b p n)[i]? = b[p+i]?:=by
  unfold seg;rw[List.getElem?_take,if_pos h,List.getElem?_drop]
theorem agr {b:Ly} {p n:Nat} (h:p+n≤b.length):(seg b p n).length=n:=by unfold seg;simp;omega
theorem XC {b c:Ly} {p n:Nat} (h:∀i,i<n→c[p+i]? = b[p+i]?):seg c p n=seg b p n:=by
  apply List.ext_getElem?
  intro i
  by_cases hi:i<n
  · rw[qP hi,qP hi,h i hi]
  unfold seg;rw[List.getElem?_take,List.getElem?_take,if_neg hi,if_neg hi]
theorem mM (b:Ly) (p:Nat):eY b p=vM (seg b p 8):=rfl
theorem ags {b:Ly} {p n q k:Nat} (h:q+k≤n):seg (seg b p n) q k=seg b (p+q) k:=by
  unfold seg
  rw[List.drop_take,List.take_take,List.drop_drop,Nat.min_eq_left Oh]
theorem QR {b l:Ly} {p n q k:Nat} (h:seg b p n=l) (hq:q+k≤n):seg b (p+q) k=seg l q k:=by rw[← h,ags hq]
theorem XB {b o:Ly} {p n:Nat} (h:p+n≤b.length):seg (b ++ o) p n=seg b p n :=
  XC fun i hi=>List.getElem?_append_left Oh
theorem seg_new (b o:Ly):seg (b ++ o) b.length o.length=o:=by unfold seg;rw[List.drop_left,List.take_length]
theorem mJ (x y:Ly) {n:Nat} (h:n=x.length):seg (x ++ y) 0 n=x:=by subst h;simp[seg]
theorem jk {x y:Ly} {p n:Nat} (h:x.length≤p):seg (x ++ y) p n=seg y (p-x.length) n:=by
  unfold seg;rw[List.drop_append,List.drop_eq_nil_of_le h,List.nil_append]
theorem LD (v n:Nat):vM (low v n)=v%256 ^ n:=by
  induction n generalizing v with
  | zero=>simp[low,vM,Nat.mod_one]
  | succ n ih =>
    simp only[low,vM,ih]
    rw[UInt8.toNat_ofNat',show 2 ^ 8=256 from rfl,Nat.mod_mod,Nat.pow_succ,Nat.mul_comm (256 ^ n) 256,Nat.mod_mul]
theorem aeC {v:Nat} (r:Ly) (h:v<18446744073709551616):eY (low v 8 ++ r) 0=v:=by
  rw[mM,mJ _ _ (by rw[iX]),LD]
  exact Nat.mod_eq_of_lt h
theorem iQ {x y:Ly} {p:Nat} (h:x.length≤p):eY (x ++ y) p=eY y (p-x.length):=by rw[mM,mM,jk h]
theorem ve {b o:Ly} {p:Nat} (h:p+8≤b.length):eY (b ++ o) p=eY b p:=by rw[mM,mM,XB h]
theorem abb {b l:Ly} {p n q:Nat} (h:seg b p n=l) (hq:q+8≤n):eY b (p+q)=eY l q:=by rw[mM,mM,QR h hq]
theorem mD:∀{l:List Nat} {r:Ly} {i v:Nat},l[i]? = some v→v<18446744073709551616→eY (nums l ++ r) (8*i)=v
  | [],_,_,_,h,_=>by simp at h
  | x :: l,r,0,v,h,hv=>by
    simp at h;subst h
    rw[nums,List.append_assoc]
    exact aeC _ hv
  | x :: l,r,i+1,v,h,hv=>by
    rw[nums,List.append_assoc,iQ (by rw[iX];omega),iX,show 8*(i+1)-8=8*i by omega]
    exact mD (by simpa using h) hv
theorem HK {l:List Nat} {i v:Nat} (h:l[i]? = some v) (hv:v<18446744073709551616):eY (nums l) (8*i)=v:=by
  have:=mD (r:=[]) h hv
  rwa [List.append_nil]at this
theorem QA:∀(n:Nat) (b:Ly) (p v i q:Nat),(GY n b p v i)[q]? = if p+i≤q∧q<p+i+n∧q<b.length then some (UInt8.ofNat (v/2 ^ (8*(q-p))))else b[q]?
  | 0,b,p,v,i,q=>by rw[if_neg Oh];rfl
  | n+1,b,p,v,i,q=>by
    rw[GY,QA n]
    simp only[List.length_set]
    by_cases h:p+(i+1)≤q∧q<p+(i+1)+n∧q<b.length
    · rw[if_pos h,if_pos Oh]
    · rw[if_neg h]
      by_cases hq:q=p+i
      · subst hq
        by_cases hl:p+i<b.length
        · rw[if_pos Oh,List.getElem?_set_self hl,show p+i-p=i by omega]
        · rw[if_neg Oh,List.getElem?_eq_none Vw,List.getElem?_eq_none Oh]
      · rw[if_neg Oh,List.getElem?_set_ne Oh]
theorem QB (b:Ly) (p v q:Nat):(iV b p v)[q]? = if p≤q∧q<p+8∧q<b.length then some (UInt8.ofNat (v/2 ^ (8*(q-p))))else b[q]?:=QA 8 b p v 0 q
theorem XD {b:Ly} {p v q n:Nat} (h:p+8≤q∨q+n≤p):seg (iV b p v) q n=seg b q n :=
  XC fun i hi=>by rw[QB,if_neg Oh]
theorem VU:∀(n v i:Nat),i<n→(low v n)[i]? = some (UInt8.ofNat (v/2 ^ (8*i)))
  | n+1,v,0,_=>by
    simp only[low,List.getElem?_cons_zero,Nat.mul_zero,Nat.pow_zero,Nat.div_one,Option.some.injEq]
    apply UInt8.toNat.inj;simp
  | n+1,v,i+1,h=>by
    simp only[low,List.getElem?_cons_succ]
    rw[VU n (v/256) i Oh,Nat.div_div_eq_div_mul,show 256*2 ^ (8*i)=2 ^ (8*(i+1))by rw[Nat.mul_add,Nat.pow_add,Nat.mul_comm]]
theorem MR {b:Ly} {p v:Nat} (h:p+8≤b.length):seg (iV b p v) p 8=low v 8:=by
  apply List.ext_getElem?
  intro i
  by_cases hi:i<8
  · rw[qP hi,QB,if_pos Oh,VU 8 v i hi,show p+i-p=i by omega]
  rw[List.getElem?_eq_none (by rw[agr (by rw[gq];omega)];omega),List.getElem?_eq_none (by rw[iX];omega)]
theorem gJ {b:Ly} {p v q:Nat} (h:p+8≤q∨q+8≤p):eY (iV b p v) q=eY b q:=by rw[mM,mM,XD h]
theorem j5 {b:Ly} {p v:Nat} (h:p+8≤b.length) (hv:v<18446744073709551616):eY (iV b p v) p=v:=by
  rw[mM,MR h,LD]
  exact Nat.mod_eq_of_lt hv
theorem BS {b:Ly} {p i n:Nat} (h:i<n):nY b (p+i)=((seg b p n).getD i 0).toNat:=by
  unfold nY
  rw[List.getD_eq_getElem?_getD,List.getD_eq_getElem?_getD,qP h]
structure Eff (S:Nat→Prop) (b c:Ly):Prop where
  len:b.length≤c.length
  seg:∀q n,q+n≤b.length→(∀a,S a→a+8≤q∨q+n≤a)→seg c q n=seg b q n
theorem Eff.refl (S:Nat→Prop) (b:Ly):Eff S b b:=⟨Nat.le_refl _,fun _ _ _ _=>rfl⟩
theorem Eff.trans {S:Nat→Prop} {a b c:Ly} (h:Eff S a b) (k:Eff S b c):Eff S a c :=
  ⟨ly h.len k.len,fun q n hq hs=>(k.seg q n (ly hq h.len) hs).trans (h.seg q n hq hs)⟩
theorem Eff.mono {S T:Nat→Prop} {a b:Ly} (h:Eff S a b) (hs:∀x,S x→T x):Eff T a b:=⟨h.len,fun q n hq ht=>h.seg q n hq fun x hx=>ht x (hs x hx)⟩
theorem Eff.put (b:Ly) (p v:Nat):Eff (fun a=>a=p) b (iV b p v):=⟨by rw[gq];exact Nat.le_refl _,fun q n _ hs=>XD (hs p rfl)⟩
theorem Eff.app (S:Nat→Prop) (b o:Ly):Eff S b (b ++ o):=⟨by simp,fun q n hq _=>XB hq⟩
theorem Eff.eY {S:Nat→Prop} {b c:Ly} {q:Nat} (h:Eff S b c) (hq:q+8≤b.length) (hs:∀a,S a→a+8≤q∨q+8≤a):eY c q=eY b q:=by
  rw[mM,mM,h.seg q 8 hq hs]
end Go.Wk
namespace Go.Wk
open Go Go.RowKit
structure Ob where
  bn:Nat
  kind:Nat
  size:Nat
def mO (n:Nat):Nat:=(n+7)/8*8
theorem eF (n:Nat):n≤mO n∧mO n<n+8∧mO n%8=0:=by unfold mO;omega
def Rz (kind size:Nat):List UInt8:=[UInt8.ofNat kind,0,0,0,0,0,0,0] ++ nums [size]
theorem kS (k s:Nat):(Rz k s).length=16:=by simp[Rz,fV]
theorem xO {k:Nat} {body:Ly} (h:1≤k∧k≤7):qp k body=(Rz k (16+body.length) ++ body) ++ List.replicate ((8-(16+body.length)%8)%8) 0:=by
  unfold qp
  rw[if_neg Oh,FE]
  have:([UInt8.ofNat k,0,0,0,0,0,0,0] ++ nums [16+body.length] ++ body).length=16+body.length:=by simp[fV];omega
  rw[this]
  rfl
def gB (b:Ly):Nat→List Ob→Nat→Prop
  | p,[],e=>p=e
  | p,o :: r,e=>o.bn=p∧1≤o.kind∧o.kind≤7∧16≤o.size∧o.size<18446744073709551616∧seg b p 16=Rz o.kind o.size∧gB b (p+mO o.size) r e
theorem gB.le {b:Ly}:∀{l:List Ob} {p e:Nat},gB b p l e→p≤e∧(p%8=0→e%8=0)
  | [],_,_,h=>by cases h;exact⟨Nat.le_refl _,id⟩
  | o :: r,p,e,h=>by
    have:=h.2.2.2.2.2.2.le
    have:=eF o.size
    omega
structure ae3 (b:Ly) (p e:Nat) (o:Ob):Prop where
  ge:p≤o.bn
  le:o.bn+mO o.size≤e
  al:p%8=0→o.bn%8=0
  kind:1≤o.kind∧o.kind≤7
  size:16≤o.size∧o.size<18446744073709551616
  hd:seg b o.bn 16=Rz o.kind o.size
theorem gB.mem {b:Ly}:∀{l:List Ob} {p e:Nat} {o:Ob},gB b p l e→o∈l→ae3 b p e o
  | [],_,_,_,_,h=>by simp at h
  | x :: r,p,e,o,h,ho=>by
    obtain⟨h1,h2,h3,h4,h5,h6,h7⟩:=h
    have hl:=h7.le
    have hu:=eF x.size
    rcases List.mem_cons.1 ho with rfl|ho
    · subst h1
      exact⟨Nat.le_refl _,hl.1,id,⟨h2,h3⟩,⟨h4,h5⟩,h6⟩
    · obtain⟨g1,g2,g3,g4,g5,g6⟩:=h7.mem ho
      exact⟨by omega,g2,fun hp=>g3 Oh,g4,g5,g6⟩
theorem gB.sep {b:Ly}:∀{l:List Ob} {p e:Nat} {o x:Ob},gB b p l e→o∈l→x∈l→o=x∨o.bn+mO o.size≤x.bn∨x.bn+mO x.size≤o.bn
  | [],_,_,_,_,_,h,_=>by simp at h
  | y :: r,p,e,o,x,h,ho,hx=>by
    obtain⟨h1,h2,h3,h4,h5,h6,h7⟩:=h
    rcases List.mem_cons.1 ho with e1|e1
    · rcases List.mem_cons.1 hx with e2|e2
      · exact .inl (e1.trans e2.symm)
      · have:=(h7.mem e2).ge;subst e1;exact .inr (.inl Oh)
    · rcases List.mem_cons.1 hx with e2|e2
      · have:=(h7.mem e1).ge;subst e2;exact .inr (.inr Oh)
      · exact h7.sep e1 e2
theorem gB.app {b:Ly}:∀{l:List Ob} {p e:Nat} {o:Ob},gB b p l e→o.bn=e→1≤o.kind→o.kind≤7→16≤o.size→o.size<18446744073709551616→seg b e 16=Rz o.kind o.size→gB b p (l ++ [o]) (e+mO o.size)
  | [],p,e,o,h,h1,h2,h3,h4,h5,h6=>by cases h;exact⟨h1,h2,h3,h4,h5,h6,q⟩
  | x :: r,p,e,o,h,h1,h2,h3,h4,h5,h6=>by
    obtain⟨g1,g2,g3,g4,g5,g6,g7⟩:=h
    exact⟨g1,g2,g3,g4,g5,g6,g7.app h1 h2 h3 h4 h5 h6⟩
def Body (l:List Ob) (a:Nat):Prop:=a+8≤272∨∃o∈l,o.bn+16≤a∧a+8≤o.bn+mO o.size
theorem gB.me {b c:Ly} {S:Nat→Prop} {l:List Ob} {p e:Nat} (h:gB b p l e) (k:Eff S b c) (hb:e≤b.length) (hs:∀o∈l,∀a,S a→a+8≤o.bn∨o.bn+16≤a):gB c p l e:=by
  induction l generalizing p with
  | nil=>exact h
  | cons o r ih =>
    have K:=gB.mem (o:=o) h Oq
    obtain⟨A,C,D,E,F,G,B⟩:=h
    have L:=eF o.size
    have J:=B.le
    refine⟨A,C,D,E,F,?_,ih B fun x I=>hs x (by simp[I])⟩
    rw[k.seg p 16 Oh fun a H=>A ▸ hs o Oq a H,G]
theorem gB.body {b:Ly} {l:List Ob} {e:Nat} (h:gB b 272 l e) {a:Nat} (ha:Body l a) {o:Ob} (ho:o∈l):a+8≤o.bn∨o.bn+16≤a:=by
  have B:=h.mem ho
  rcases ha with ha|⟨x,C,D,E⟩
  · have:=B.ge;omega
  have:=eF o.size
  have:=eF x.size
  rcases h.sep ho C with rfl|A|A <;> omega
theorem rC {b:Ly} {p e:Nat} {o:Ob} (h:ae3 b p e o) (hp:p%8=0) (hb:o.bn+o.size≤b.length):e6 b o.bn=({kind:=o.kind,flags:=0,size:=o.size},0):=by
  have A:=h.size.1
  have B:nY b o.bn=o.kind:=by
    have:=BS (b:=b) (p:=o.bn) (i:=0) (n:=16) Oh
    rw[Nat.add_zero,h.hd]at this
    rw[this]
    show(UInt8.ofNat o.kind).toNat=_
    have:=h.kind
    rw[UInt8.toNat_ofNat',Nat.mod_eq_of_lt Oh]
  have C:nY b (o.bn+1)=0:=by
    have:=BS (b:=b) (p:=o.bn) (i:=1) (n:=16) Oh
    rw[h.hd]at this
    rw[this];rfl
  have D:eY b (o.bn+8)=o.size:=by
    rw[abb h.hd Oh,Rz,iQ Oq]
    exact HK (l:=[o.size]) (i:=0) q h.size.2
  have hk:=h.kind
  have E:=h.al hp
  unfold e6
  rw[if_neg Oh,if_neg Oh,B,C,D,if_neg Oh,if_neg Oh,if_neg Oh,if_neg Oh]
theorem KL {b:Ly} {p e k ahead iI:Nat} {o:Ob} (h:ae3 b p e o) (hp:p%8=0) (hb:o.bn+o.size≤b.length) (hk:o.kind=k) (h1:16+ahead<o.size) (h2:(o.size-(16+ahead))%iI=0):k9 b o.bn k ahead iI=(seg b (o.bn+16) (o.size-16),0):=by
  unfold k9
  rw[rC h hp hb]
  simp only
  rw[if_neg Oq,if_neg Oh,if_neg Oh]
  congr 1
  unfold seg
  rw[List.drop_take,show o.bn+o.size-(o.bn+16)=o.size-16 by omega]
theorem LP {b:Ly} {p e k n:Nat} {o:Ob} (h:ae3 b p e o) (hp:p%8=0) (hb:o.bn+o.size≤b.length) (hk:o.kind=k) (h1:16+8*n<o.size):lX b o.bn k n=(gN b (o.bn+16) n,seg b (o.bn+16+8*n) (o.size-(16+8*n)),0):=by
  have A:=zI (b:=b) (p:=o.bn) (n:=n) (kind:=k) (rC h hp hb) Oq Lw Lw q
  rw[A,EK Lw Lw,Nat.add_zero]
  congr 2
  unfold seg
  simp only
  rw[List.drop_take,List.drop_take,List.drop_drop,show o.bn+o.size-(o.bn+16)-8*n=o.size-(16+8*n)by omega]
end Go.Wk
namespace Go.Wk
open Go Go.RowKit
def ND (b:Ly):Nat→Nat→List Nat→List Nat→(List Nat × List Nat) × Nat
  | 0,_,o,k=>((o,k),0)
  | n+1,a,o,k=>if b.length≤a then((o,k),0)else if(e6 b a).2≠0 then(([],[]),(e6 b a).2)else ND b n (a+mO (e6 b a).1.size) (o ++ [a]) (k ++ [(e6 b a).1.kind])
def HT (b:Ly) (a:Nat) (o k:List Nat):(List Nat × List Nat) × Nat:=ND b (b.length-a+1) a o k
section
variable {b:Ly} {a c:Nat} {o k:List Nat} {f:jf}
theorem O2:∀(n m a:Nat) (o k:List Nat),b.length<a+n→b.length<a+m→ND b n a o k=ND b m a o k
  | 0,0,_,_,_,_,_=>rfl
  | 0,m+1,a,o,k,h,_=>by rw[ND,ND,if_pos Oh]
  | n+1,0,a,o,k,_,h=>by rw[ND,ND,if_pos Oh]
  | n+1,m+1,a,o,k,h1,h2=>by
    rw[ND,ND]
    split
    · rfl
    · split
      · rfl
      · rename_i hb hc
        have:=lO (b:=b) (p:=a) (f:=(e6 b a).1) (c:=(e6 b a).2) q Oh
        have hu:=eF (e6 b a).1.size
        exact O2 n m _ _ _ Oh Oh
theorem abq (h:b.length≤a):HT b a o k=((o,k),0):=by unfold HT;rw[ND,if_pos h]
theorem ahD (h:¬b.length≤a) (hf:e6 b a=(f,c)) (hc:c≠0):HT b a o k=(([],[]),c):=by unfold HT;rw[ND,if_neg h,hf,if_pos hc]
theorem agS (h:¬b.length≤a) (hf:e6 b a=(f,c)) (hc:¬c≠0):HT b a o k=HT b (a+mO f.size) (o ++ [a]) (k ++ [f.kind]):=by
  have:=lO hf Oh
  have A:=eF f.size
  unfold HT
  rw[ND,if_neg h,hf,if_neg hc]
  show ND b (b.length-a) (a+mO f.size) (o ++ [a]) (k ++ [f.kind])=_
  exact O2 _ _ _ _ _ Oh Oh
end
def BV (v:eR) (p:Nat):Nat :=
  if(yV (decide (v.h.bW &&& 4≠0)) v.h.cG (v.h.n.getD 0 0) v.b p).2=0 then(nO (yV (decide (v.h.bW &&& 4≠0)) v.h.cG (v.h.n.getD 0 0) v.b p).1).2 else(yV (decide (v.h.bW &&& 4≠0)) v.h.cG (v.h.n.getD 0 0) v.b p).2
def wT (v:eR) (p:Nat):Nat :=
  if(ji (v.h.n.getD 0 0) v.b p).2≠0 then(ji (v.h.n.getD 0 0) v.b p).2 else if(ji (v.h.n.getD 0 0) v.b p).1.cQ≠dW (decide (v.h.bW &&& 4≠0)) v.h.cG (ji (v.h.n.getD 0 0) v.b p).1.ak then 9 else if fH (ji (v.h.n.getD 0 0) v.b p).1.ak=true then 0 else 20
def pS (b:Ly) (v:eR) (p k:Nat):Nat :=
  if k=1 then BV v p else if k=2 then wT v p else if k=3 then(ig (v.h.n.getD 0 0) v.b p).2 else if k=6 then(iY (v.h.n.getD 0 0) v.b p).2
  else if k=4∨k=5 then(jL b p ((k:Nat):Int)).2 else 0
theorem ad6 {k:Bool} {f b:Ly} {s p c:Nat} {x:Ly} (h:yV k f s b p=(x,c)):x.length≤b.length:=by
  have e:=congrArg Prod.fst h
  simp only[yV]at e
  rw[← e]
  exact WS (Prod.ext q rfl:gP k f s b p=((gP k f s b p).1,(gP k f s b p).2))
theorem NZ {v:eR} {p c d:Nat} {x:Ly} {q:Pr} (h:yV (decide (v.h.bW &&& 4≠0)) v.h.cG (v.h.n.getD 0 0) v.b p=(x,c)):(c≠0→BV v p=c)∧(c=0→nO x=(q,d)→BV v p=d):=by
  unfold BV
  rw[h]
  exact⟨fun A=>if_neg A,fun A B=>by simp only;rw[if_pos A,B]⟩
theorem wU {v:eR} {p c:Nat} {f:js} (h:ji (v.h.n.getD 0 0) v.b p=(f,c)):(c≠0→wT v p=c)∧(c=0→f.cQ≠dW (decide (v.h.bW &&& 4≠0)) v.h.cG f.ak→wT v p=9) ∧
    (c=0→f.cQ=dW (decide (v.h.bW &&& 4≠0)) v.h.cG f.ak→fH f.ak=true→wT v p=0)∧(c=0→f.cQ=dW (decide (v.h.bW &&& 4≠0)) v.h.cG f.ak→fH f.ak=false→wT v p=20):=by
  unfold wT
  rw[h]
  refine⟨fun A=>if_pos A,fun A B=>?_,fun A B C=>?_,fun A B C=>?_⟩
  · simp only;rw[if_neg (by simp[A]),if_pos B]
  · simp only;rw[if_neg (by simp[A]),if_neg (by simp[B]),if_pos C]
  simp only;rw[if_neg (by simp[A]),if_neg (by simp[B]),if_neg (by simp[C])]
def tH (b:Ly) (v:eR):List Nat→List Nat→Nat × Nat
  | p :: ps,k :: ks=>if pS b v p k≠0 then(p,pS b v p k)else tH b v ps ks
  | _,_=>(0,0)
def wD (k:Nat) (l:List Nat):Nat:=(l.filter fun x=>decide (x=k)).length
def UJ (n:List Nat) (b:Ly) (k:Int):Nat→Nat→List (List Nat)→List (List Nat) × Nat
  | 0,_,o=>(o,0)
  | m+1,i,o=>if(tr n b k i).2≠0 then([],(tr n b k i).2)else UJ n b k m (i+1) (o ++ [(tr n b k i).1])
def oG (n:List Nat) (b:Ly) (k:Int):List (List Nat) × Nat :=
  if(oP n b k).2≠0 then([],(oP n b k).2)else UJ n b k (oP n b k).1.length 0 []
def inF (l:List (List Nat)) (h p:Nat):Bool:=decide (p∈l.getD (h%l.length) [])
def uh (v:eR) (ds fs:List (List Nat)):List Nat→List Nat→Nat × Nat
  | p :: ps,k :: ks =>
    if k=1 then(if inF ds (gm (v.h.n.getD 0 0) v.b p).1.cQ p=true then uh v ds fs ps ks else(p,16))
    else if k=2 then(if inF fs (ji (v.h.n.getD 0 0) v.b p).1.cQ p=true then uh v ds fs ps ks else(p,16))
    else uh v ds fs ps ks
  | _,_=>(0,0)
def ru (s:Nat) (b:Ly) (p:Nat):List kg→Nat
  | []=>0
  | x :: r=>if(ZI s b x.bn).2≠0 then(ZI s b x.bn).2 else if p∈(ZI s b x.bn).1 then ru s b p r else 16
def RO (v:eR) (p:Nat):Nat:=ru (v.h.n.getD 0 0) v.b p (ig (v.h.n.getD 0 0) v.b p).1.aD
def ixG (x:Nat):List Nat→Nat→Int
  | [],_=>-1
  | y :: r,i=>if x=y then((i:Nat):Int)else ixG x r (i+1)
def ixU (l:List Nat) (x:Nat):Int:=ixG x l 0
section
variable {l:List Nat} {x y i:Nat} {z:Int}
theorem afx (h:¬i<l.length):ixG x (l.drop i) i = -1:=by rw[iL Oh];rfl
theorem afz (h:l[i]? = some y) (e:x=y):ixG x (l.drop i) i=((i:Nat):Int):=by rw[eN h,ixG,if_pos e]
theorem aik (h:l[i]? = some y) (e:¬x=y):ixG x (l.drop i) i=ixG x (l.drop (i+1)) (i+1):=by rw[eN h,ixG,if_neg e]
theorem VN:∀(l:List Nat) (i:Nat),(0≤ixG x l i↔x∈l)
  | [],_=>by simp[ixG]
  | y :: r,i=>by
    rw[ixG]
    split
    · rename_i h;subst h;simp
    · rename_i h
      rw[VN r (i+1)]
      simp[h]
theorem afy (h:ixU l x=z):decide (0≤z)=decide (x∈l):=by subst h;exact decide_eq_decide.2 (VN l 0)
end
theorem YI {s p c:Nat} {b:Ly} {f:js} (h:ji s b p=(f,c)):f.ak.length≤b.length:=by
  have A:∀{d:Nat},(vK,d)=(f,c)→f.ak.length≤b.length:=fun h=>by
    have e:vK=f:=congrArg Prod.fst h
    rw[← e];exact Nat.zero_le _
  unfold ji at h
  split at h
  · exact A h
  unfold lu at h
  split at h
  · exact A h
  split at h
  · exact A h
  split at h
  · exact A h
  have e:=congrArg Prod.fst h
  simp only at e
  rw[← e]
  simp only[List.length_take,List.length_drop]
  omega
section
variable {l:List Nat} {x k i:Nat}
theorem abr (h:¬i<l.length):wD k (l.drop i)=0:=by rw[iL Oh];rfl
theorem abt (h:l[i]? = some x) (e:x=k):wD k (l.drop i)=wD k (l.drop (i+1))+1:=by unfold wD;rw[eN h,List.filter_cons_of_pos (by simpa using e),List.length_cons]
theorem aeU (h:l[i]? = some x) (e:¬x=k):wD k (l.drop i)=wD k (l.drop (i+1)):=by unfold wD;rw[eN h,List.filter_cons_of_neg (by simpa using e)]
theorem aic {c:List (List Nat)} {h p:Nat} {y:List Nat} {r:Bool} (hx:c[h%c.length]? = some y) (hr:decide (p∈y)=r):inF c h p=r:=by
  unfold inF
  rw[List.getD_eq_getElem?_getD,hx]
  exact hr
end
section
variable {n:List Nat} {b:Ly} {k:Int} {l:List oS} {c m i:Nat} {o:List (List Nat)} {x:List Nat}
theorem HU (h:oP n b k=(l,c)) (hc:c≠0):oG n b k=([],c):=by unfold oG;rw[h,if_pos hc]
theorem CB (h:oP n b k=(l,c)) (hc:c=0):oG n b k=UJ n b k l.length 0 []:=by subst hc;unfold oG;rw[h,if_neg Oq]
theorem aeJ (h:¬i<m):UJ n b k (m-i) i o=(o,0):=by rw[show m-i=0 by omega];rfl
theorem aeI (h:i<m) (hb:tr n b k ((i:Nat):Int)=(x,c)) (hc:c≠0):UJ n b k (m-i) i o=([],c):=by
  rw[show m-i=(m-i-1)+1 by omega,UJ,hb,if_pos hc]
theorem ahA (h:i<m) (hb:tr n b k ((i:Nat):Int)=(x,c)) (hc:c=0):UJ n b k (m-i) i o=UJ n b k (m-(i+1)) (i+1) (o ++ [x]):=by
  rw[show m-i=(m-(i+1))+1 by omega,UJ,hb,if_neg (by simp[hc])]
end
theorem aeH (b:Ly) (p kind ahead iI:Nat):(k9 b p kind ahead iI).1.length≤b.length:=by
  unfold k9
  split
  · exact Nat.zero_le _
  split
  · exact Nat.zero_le _
  split
  · exact Nat.zero_le _
  simp only[List.length_drop,List.length_take];omega
theorem Ta (b:Ly) (p:Nat) (k:Int):(jL b p k).1.length≤b.length:=by
  unfold jL
  split
  · exact Nat.zero_le _
  split
  · exact Nat.zero_le _
  have:=aeH b p k.toNat 0 16
  simp only[uP]
  omega
theorem ag8 {n:List Nat} {b:Ly} {k:Int} {l:List oS} {c:Nat} (h:oP n b k=(l,c)):l.length≤b.length:=by
  have e:=congrArg Prod.fst h
  simp only at e
  rw[← e]
  unfold oP
  generalize ((if k=4 then n.getD 2 0 else n.getD 4 0)-16)=a
  generalize (if k=4 then n.getD 3 0 else n.getD 5 0)/16=m
  split
  · exact Nat.zero_le _
  split
  · exact Nat.zero_le _
  exact Ta _ _ _
def zU (v:eR) (p:Nat):Rec × Nat:=mS (decide (v.h.bW &&& 4≠0)) v.h.cG (v.h.n.getD 0 0) v.b p
def uj (v:eR) (ats kinds:List Nat):Nat × Nat :=
  if(oG v.h.n v.b 4).2≠0 then(0,(oG v.h.n v.b 4).2)else if(oG v.h.n v.b 5).2≠0 then(0,(oG v.h.n v.b 5).2)else uh v (oG v.h.n v.b 4).1 (oG v.h.n v.b 5).1 ats kinds
def Oi (v:eR):List Nat→Nat→Nat→Nat→(Nat × Nat) × Nat × Nat
  | [],_,f,l=>((0,0),f,l)
  | p :: r,i,f,l =>
    if(zU v p).2≠0 then((p,(zU v p).2),f,l)else if(zU v p).1.seq≤l then((p,13),f,l)else if RO v p≠0 then((p,RO v p),f,l)
    else Oi v r (i+1) (if i=0 then(zU v p).1.seq else f) (zU v p).1.seq
def vQ (n:List Nat) (x:(Nat × Nat) × Nat × Nat):Nat × Nat:=if x.1.2≠0 then x.1 else if n.getD 10 0≠x.2.1∨n.getD 9 0<x.2.2 then(0,13)else(0,0)
def RP (v:eR):List Nat × Nat:=VA (v.h.n.getD 0 0) v.b (v.h.n.getD 8 0) (v.h.n.getD 11 0)
def ug (v:eR) (n:List Nat):Nat × Nat:=if(RP v).2≠0 then(0,(RP v).2)else vQ n (Oi v (RP v).1 0 0 0)
section
variable {s:Nat} {b:Ly} {p c i:Nat} {l:List kg} {x:kg} {y:List Nat}
theorem Yd (h:¬i<l.length):ru s b p (l.drop i)=0:=by rw[iL Oh];rfl
theorem Yb (h:l[i]? = some x) (hf:ZI s b x.bn=(y,c)) (hc:c≠0):ru s b p (l.drop i)=c:=by rw[eN h,ru,hf,if_pos hc]
theorem RN (h:l[i]? = some x) (hf:ZI s b x.bn=(y,c)) (hc:c=0) (hp:¬p∈y):ru s b p (l.drop i)=16:=by rw[eN h,ru,hf,if_neg (by simp[hc]),if_neg hp]
theorem abp (h:l[i]? = some x) (hf:ZI s b x.bn=(y,c)) (hc:c=0) (hp:p∈y):ru s b p (l.drop i)=ru s b p (l.drop (i+1)):=by rw[eN h,ru,hf,if_neg (by simp[hc]),if_pos hp]
theorem KP {v:eR} {e:gH} (h:ig (v.h.n.getD 0 0) v.b p=(e,c)):RO v p=ru (v.h.n.getD 0 0) v.b p e.aD:=by unfold RO;rw[h]
end
section
variable {v:eR} {ds fs:List (List Nat)} {a k:List Nat} {p q c i:Nat} {d:gT} {f:js} {r:Bool}
theorem abn (h:¬i<a.length):uh v ds fs (a.drop i) (k.drop i)=(0,0):=by rw[iL Oh];rfl
theorem abm (h:a[i]? = some p) (g:k[i]? = some q) (hq:q=1) (hd:gm (v.h.n.getD 0 0) v.b p=(d,c)) (hr:inF ds d.cQ p=r):uh v ds fs (a.drop i) (k.drop i)=if r=true then uh v ds fs (a.drop (i+1)) (k.drop (i+1))else(p,16):=by
  subst hq;rw[eN h,eN g,uh,if_pos rfl,hd,hr]
theorem abo (h:a[i]? = some p) (g:k[i]? = some q) (h1:¬q=1) (hq:q=2) (hd:ji (v.h.n.getD 0 0) v.b p=(f,c)) (hr:inF fs f.cQ p=r):uh v ds fs (a.drop i) (k.drop i)=if r=true then uh v ds fs (a.drop (i+1)) (k.drop (i+1))else(p,16):=by
  subst hq;rw[eN h,eN g,uh,if_neg h1,if_pos rfl,hd,hr]
theorem ahC (h:a[i]? = some p) (g:k[i]? = some q) (h1:¬q=1) (h2:¬q=2):uh v ds fs (a.drop i) (k.drop i)=uh v ds fs (a.drop (i+1)) (k.drop (i+1)):=by
  rw[eN h,eN g,uh,if_neg h1,if_neg h2]
theorem aeS {x:List (List Nat)} (h:oG v.h.n v.b 4=(x,c)) (hc:c≠0):uj v a k=(0,c):=by unfold uj;rw[h,if_pos hc]
theorem aeT {x y:List (List Nat)} {z:Nat} (h:oG v.h.n v.b 4=(x,c)) (hc:c=0) (h5:oG v.h.n v.b 5=(y,z)) (hz:z≠0):uj v a k=(0,z):=by unfold uj;rw[h,if_neg (by simp[hc]),h5,if_pos hz]
theorem CC {x y:List (List Nat)} {z:Nat} (h:oG v.h.n v.b 4=(x,c)) (hc:c=0) (h5:oG v.h.n v.b 5=(y,z)) (hz:z=0):uj v a k=uh v x y a k:=by unfold uj;rw[h,if_neg (by simp[hc]),h5,if_neg (by simp[hz])]
theorem UK {n:List Nat} {b:Ly} {k:Int}:∀(m i:Nat) (o:List (List Nat)),(UJ n b k m i o).2=0→(UJ n b k m i o).1.length=o.length+m
  | 0,_,_,_=>rfl
  | m+1,i,o,h=>by
    rw[UJ]at h ⊢
    split at h
    · rename_i hc;exact absurd h hc
    · rename_i hc
      rw[if_neg hc,UK m _ _ h,List.length_append,List.length_singleton];omega
theorem HV {n:List Nat} {b:Ly} {k:Int} {x:List (List Nat)} (h:oG n b k=(x,c)) (hc:c=0):0<x.length:=by
  subst hc
  rcases ht:oP n b k with⟨t,e⟩
  by_cases he:e=0
  · rw[CB ht he]at h
    have A:=UK t.length 0 [] (by rw[h])
    rw[h]at A
    have:=ag9 ht he
    simp only[List.length_nil]at A;omega
  rw[HU ht he]at h
  exact absurd (congrArg Prod.snd h) he
end
section
variable {v:eR} {a:List Nat} {p c i f l d:Nat} {r:Rec}
theorem KO (h:¬i<a.length):Oi v (a.drop i) i f l=((0,0),f,l):=by rw[iL Oh];rfl
theorem aeK (h:a[i]? = some p) (hr:zU v p=(r,c)) (hc:c≠0):Oi v (a.drop i) i f l=((p,c),f,l):=by rw[eN h,Oi,hr,if_pos hc]
theorem aeL (h:a[i]? = some p) (hr:zU v p=(r,c)) (hc:c=0) (hl:r.seq≤l):Oi v (a.drop i) i f l=((p,13),f,l):=by rw[eN h,Oi,hr,if_neg (by simp[hc]),if_pos hl]
theorem abj (h:a[i]? = some p) (hr:zU v p=(r,c)) (hc:c=0) (hl:¬r.seq≤l) (hd:RO v p=d) (h0:d≠0):Oi v (a.drop i) i f l=((p,d),f,l):=by rw[eN h,Oi,hr,if_neg (by simp[hc]),if_neg hl,hd,if_pos h0]
theorem abk (h:a[i]? = some p) (hr:zU v p=(r,c)) (hc:c=0) (hl:¬r.seq≤l) (hd:RO v p=d) (h0:d=0):Oi v (a.drop i) i f l=Oi v (a.drop (i+1)) (i+1) (if i=0 then r.seq else f) r.seq:=by
  rw[eN h,Oi,hr,if_neg (by simp[hc]),if_neg hl,hd,if_neg (by simp[h0])]
theorem RL {n:List Nat} (h:RP v=(a,c)) (hc:c≠0):ug v n=(0,c):=by unfold ug;rw[h,if_pos hc]
theorem nZ {n:List Nat} {x:(Nat × Nat) × Nat × Nat} (h:RP v=(a,c)) (hc:c=0) (hx:Oi v a 0 0 0=x):ug v n=vQ n x:=by unfold ug;rw[h,if_neg (by simp[hc]),hx]
end
def LC (l:List Nat):Nat:=l.getD (l.length-1) 0
def ny (n ats kinds:List Nat):Bool:=decide (n.getD 7 0=ats.length) && decide (n.getD 8 0=wD 3 kinds) && decide (n.getD 15 0=wD 1 kinds) && decide (n.getD 16 0=wD 2 kinds) && decide (n.getD 17 0=wD 7 kinds) && decide (n.getD 18 0=wD 6 kinds) && decide (n.getD 6 0=LC ats)
theorem om {l:List Nat} {x:Nat} (h0:0<l.length) (h:l[(((l.length:Nat):Int)-1).toNat]? = some x):LC l=x:=by
  unfold LC
  rw[show(((l.length:Nat):Int)-1).toNat=l.length-1 by omega]at h
  rw[List.getD_eq_getElem?_getD,h];rfl
theorem oo {l:List Nat} (h:¬0<l.length):LC l=0:=by
  have:l=[]:=List.eq_nil_of_length_eq_zero Oh
  subst this;rfl
theorem ZL {b:Ly} {y:eR} (h:kO b=(some y,0)):y.b=b.take y.b.length:=by
  unfold kO at h
  split at h
  · have:=congrArg Prod.fst h;cases this
  have e:=Option.some.inj (congrArg Prod.fst h)
  rw[← e]
  simp only[List.length_take]
  rw[List.take_eq_take_iff]
  omega
theorem ae8 (a:Nat) (h:a<18446744073709551616):(BitVec.ofNat 64 a &&& ~~~(BitVec.ofNat 64 7)).toNat=a/8*8:=by
  have e:(BitVec.ofNat 64 a &&& ~~~(BitVec.ofNat 64 7))=((BitVec.ofNat 64 a) >>> 3) <<< 3:=by
    apply BitVec.eq_of_getLsbD_eq
    intro i A
    have B:Nat.testBit 7 i=decide (i<3):=Nat.testBit_two_pow_sub_one (n:=3) (i:=i)
    simp only[BitVec.getLsbD_and,BitVec.getLsbD_not,BitVec.getLsbD_shiftLeft,BitVec.getLsbD_ushiftRight,BitVec.getLsbD_ofNat,B,A,decide_true,Bool.true_and]
    by_cases h3:i<3
    · simp[h3]
    · simp[h3,show 3+(i-3)=i by omega,A]
  rw[e,BitVec.toNat_shiftLeft,BitVec.toNat_ushiftRight,BitVec.toNat_ofNat,Nat.shiftLeft_eq,Nat.shiftRight_eq_div_pow,Nat.mod_eq_of_lt h]
  exact Nat.mod_eq_of_lt Oh
theorem akw {P:Program} {n:Nat} {A:Fr n} {D:List Deferred} {l:List (Nat × Value)} {w:World} {d:Option Tmp} {ty:TypeId} {ps:String} {af:Array Edge} {g:Option (Nat × Bool)} {x y:Operand} {t u:TypeId} {a:Nat} (hx:ev n l x=some (.int .u64 (a:Int))) (hy:ev n l y=some (.int .u64 (((7:Nat):Int)))) (h:a<18446744073709551616) :
    dS P ⟨d,.binOp .andNot t x y u,ty,ps,af,g⟩ (b9 A D l).eval w (.int .u64 ((a/8*8:Nat):Int)):=(QD hx hy).kr (by
  have e:=ae8 a h
  unfold bits
  simp only[BitVec.ofInt_natCast]
  exact(wrapN .u64 _ (show(BitVec.ofNat 64 a &&& ~~~(BitVec.ofNat 64 7)).toNat<18446744073709551616 by rw[e];omega)).trans (congrArg (fun z:Nat=>(z:Int)) e))
theorem ai2 {α:Type} {T:Dt α} {ty:TypeId} {w:World} {Q:Nat→Prop} {v:Value} {x:α} (h:Pt T ty w Q v x):v.oneCell'=true:=by obtain⟨b,c,rfl,_⟩:=h;rfl
section
variable {b c:Ly} {v:eR} {a k:List Nat} {p q i d:Nat}
theorem BX (h:¬i<a.length):tH b v (a.drop i) (k.drop i)=(0,0):=by rw[iL Oh];rfl
theorem abl (h:a[i]? = some p) (g:k[i]? = some q) (hd:pS b v p q=d) (h0:d≠0):tH b v (a.drop i) (k.drop i)=(p,d):=by rw[eN h,eN g,tH,hd,if_pos h0]
theorem aeQ (h:a[i]? = some p) (g:k[i]? = some q) (hd:pS b v p q=d) (h0:d=0):tH b v (a.drop i) (k.drop i)=tH b v (a.drop (i+1)) (k.drop (i+1)):=by rw[eN h,eN g,tH,hd,if_neg (by simp[h0])]
theorem UO:∀(n a:Nat) (o k:List Nat),o.length=k.length→(ND b n a o k).1.1.length=(ND b n a o k).1.2.length∧(ND b n a o k).1.1.length≤o.length+n
  | 0,_,_,_,h=>⟨h,Nat.le_refl _⟩
  | n+1,a,o,k,h=>by
    rw[ND]
    split
    · exact⟨h,Nat.le_add_right _ _⟩
    · split
      · exact⟨rfl,Nat.zero_le _⟩
      · obtain⟨h1,h2⟩:=UO n (a+mO (e6 b a).1.size) (o ++ [a]) (k ++ [(e6 b a).1.kind]) (by simp[h])
        exact⟨h1,by rw[List.length_append,List.length_singleton]at h2;omega⟩
theorem aeR (b:Ly) (a:Nat):(HT b a [] []).1.1.length=(HT b a [] []).1.2.length∧(HT b a [] []).1.1.length≤b.length+1:=by
  obtain⟨A,B⟩:=UO (b:=b) (b.length-a+1) a [] [] rfl
  exact⟨A,by simp only[List.length_nil]at B;unfold HT;omega⟩
end
end Go.Wk
