/- Part 2 of what the walk of a law stands on: Types, RefP, HashN, MakerP, MakerQ, FldR, SeqP, FieldQ, FldS, CompR, HeadR, HeadQ, ViewP, RefV, RefV2, AtP, AtQ, AtR, RatP, Loops2, MakerR, ImgP, LinkP, LinkQ, LinkV, MakerS, Anys, MakeP, LastP, RecP, AtT, RawP, RawT, ChP, ImT1, ImT2, ImT3, ImT4, ImT5, ImT6, ImT7. No statement is proved here. -/
import Derived.Test.YtllaambooilnlaaGreatCYH1
set_option linter.unusedVariables false
set_option linter.unusedSimpArgs false
namespace Go.Wk
open Go Go.RowKit
def nums20 (l:List Nat):List Value:=[.int .u64 ((l.getD 0 0:Nat):Int),.int .u64 ((l.getD 1 0:Nat):Int),.int .u64 ((l.getD 2 0:Nat):Int),.int .u64 ((l.getD 3 0:Nat):Int),.int .u64 ((l.getD 4 0:Nat):Int),.int .u64 ((l.getD 5 0:Nat):Int),.int .u64 ((l.getD 6 0:Nat):Int),.int .u64 ((l.getD 7 0:Nat):Int),.int .u64 ((l.getD 8 0:Nat):Int),.int .u64 ((l.getD 9 0:Nat):Int),.int .u64 ((l.getD 10 0:Nat):Int),.int .u64 ((l.getD 11 0:Nat):Int),.int .u64 ((l.getD 12 0:Nat):Int),.int .u64 ((l.getD 13 0:Nat):Int),.int .u64 ((l.getD 14 0:Nat):Int),.int .u64 ((l.getD 15 0:Nat):Int),.int .u64 ((l.getD 16 0:Nat):Int),.int .u64 ((l.getD 17 0:Nat):Int),.int .u64 ((l.getD 18 0:Nat):Int),.int .u64 ((l.getD 19 0:Nat):Int)]
theorem nums20_map {l:List Nat} (h:l.length=20):nums20 l=l.map fun x=>.int .u64 (x:Int):=by
  apply List.ext_getElem
  · simp[nums20,h]
  intro i C E
  simp[nums20]at C
  simp only[List.getElem_map]
  have B:i<l.length:=by omega
  rcases Nat.lt_or_ge i 7 with D|D
  · rcases(show i=0∨i=1∨i=2∨i=3∨i=4∨i=5∨i=6 by omega)with rfl|rfl|rfl|rfl|rfl|rfl|rfl <;> simp[nums20,List.getD,B]
  skip
  rcases Nat.lt_or_ge i 14 with A|A
  · rcases(show i=7∨i=8∨i=9∨i=10∨i=11∨i=12∨i=13 by omega)with rfl|rfl|rfl|rfl|rfl|rfl|rfl <;> simp[nums20,List.getD,B]
  skip
  rcases(show i=14∨i=15∨i=16∨i=17∨i=18∨i=19 by omega)with rfl|rfl|rfl|rfl|rfl|rfl <;> simp[nums20,List.getD,B]
theorem nums20_set {l:List Nat} {k v:Nat} (h:l.length=20) (hk:k<20):nums20 (l.set k v)=(nums20 l).set k (.int .u64 (v:Int)):=by
  rw[nums20_map h,nums20_map (by simpa using h),List.map_set]
def tNums20:Dt (List Nat) where
  n:=20
  pos:=by decide
  rep _ _ cs x:=cs=nums20 x∧x.length=20∧∀y∈x,y<18446744073709551616
  len:=by rintro _ _ _ _ ⟨rfl,_⟩;rfl
  one:=by
    rintro _ _ _ _ ⟨rfl,h,_⟩ u hu
    rw[nums20_map h]at hu
    obtain⟨x,_,rfl⟩:=List.mem_map.1 hu
    rfl
  md:=fun h _ _=>h
  sub:=fun h _=>h
def nums21 (l:List Nat):List Value:=[.int .u64 ((l.getD 0 0:Nat):Int),.int .u64 ((l.getD 1 0:Nat):Int),.int .u64 ((l.getD 2 0:Nat):Int),.int .u64 ((l.getD 3 0:Nat):Int),.int .u64 ((l.getD 4 0:Nat):Int),.int .u64 ((l.getD 5 0:Nat):Int),.int .u64 ((l.getD 6 0:Nat):Int),.int .u64 ((l.getD 7 0:Nat):Int),.int .u64 ((l.getD 8 0:Nat):Int),.int .u64 ((l.getD 9 0:Nat):Int),.int .u64 ((l.getD 10 0:Nat):Int),.int .u64 ((l.getD 11 0:Nat):Int),.int .u64 ((l.getD 12 0:Nat):Int),.int .u64 ((l.getD 13 0:Nat):Int),.int .u64 ((l.getD 14 0:Nat):Int),.int .u64 ((l.getD 15 0:Nat):Int),.int .u64 ((l.getD 16 0:Nat):Int),.int .u64 ((l.getD 17 0:Nat):Int),.int .u64 ((l.getD 18 0:Nat):Int),.int .u64 ((l.getD 19 0:Nat):Int),.int .u64 ((l.getD 20 0:Nat):Int)]
theorem nums21_map {l:List Nat} (h:l.length=21):nums21 l=l.map fun x=>.int .u64 (x:Int):=by
  apply List.ext_getElem
  · simp[nums21,h]
  intro i C E
  simp[nums21]at C
  simp only[List.getElem_map]
  have B:i<l.length:=by omega
  rcases Nat.lt_or_ge i 7 with D|D
  · rcases(show i=0∨i=1∨i=2∨i=3∨i=4∨i=5∨i=6 by omega)with rfl|rfl|rfl|rfl|rfl|rfl|rfl <;> simp[nums21,List.getD,B]
  skip
  rcases Nat.lt_or_ge i 14 with A|A
  · rcases(show i=7∨i=8∨i=9∨i=10∨i=11∨i=12∨i=13 by omega)with rfl|rfl|rfl|rfl|rfl|rfl|rfl <;> simp[nums21,List.getD,B]
  skip
  rcases(show i=14∨i=15∨i=16∨i=17∨i=18∨i=19∨i=20 by omega)with rfl|rfl|rfl|rfl|rfl|rfl|rfl <;> simp[nums21,List.getD,B]
theorem nums21_set {l:List Nat} {k v:Nat} (h:l.length=21) (hk:k<21):nums21 (l.set k v)=(nums21 l).set k (.int .u64 (v:Int)):=by
  rw[nums21_map h,nums21_map (by simpa using h),List.map_set]
def tNums21:Dt (List Nat) where
  n:=21
  pos:=by decide
  rep _ _ cs x:=cs=nums21 x∧x.length=21∧∀y∈x,y<18446744073709551616
  len:=by rintro _ _ _ _ ⟨rfl,_⟩;rfl
  one:=by
    rintro _ _ _ _ ⟨rfl,h,_⟩ u hu
    rw[nums21_map h]at hu
    obtain⟨x,_,rfl⟩:=List.mem_map.1 hu
    rfl
  md:=fun h _ _=>h
  sub:=fun h _=>h
theorem ones_app {a b:List Value} (h:a.all (fun u=>u.oneCell')=true) (h2:b.all (fun u=>u.oneCell')=true):(a ++ b).all (fun u=>u.oneCell')=true:=by rw[List.all_append,h,h2];rfl
theorem ones_1 {v:Value} (h:v.oneCell'=true):[v].all (fun u=>u.oneCell')=true:=by simp[h]
theorem ones_idc (l:Ly):(idc l).all (fun u=>u.oneCell')=true:=List.all_eq_true.2 (one_idc l)
theorem nums_zero (n:Nat):(List.replicate n 0).length=n∧∀y∈List.replicate n 0,y<18446744073709551616:=⟨by simp,by simp⟩
theorem nums_set {l:List Nat} {n k v:Nat} (h:l.length=n∧∀y∈l,y<18446744073709551616) (hv:v<18446744073709551616):(l.set k v).length=n∧∀y∈l.set k v,y<18446744073709551616 :=
  ⟨by simpa using h.1,fun y hy=>(List.mem_or_eq_of_mem_set hy).elim (h.2 y) (fun e=>e ▸ hv)⟩
theorem nums_bd {l:List Nat} {n:Nat} (h:l.length=n∧∀y∈l,y<18446744073709551616) (k:Nat):l.getD k 0<18446744073709551616:=by
  rw[List.getD_eq_getElem?_getD]
  cases hk:l[k]? with
  | none=>simp
  | some y=>simpa using h.2 y (List.mem_of_getElem? hk)
structure Pr where
  name:List UInt8
  value:List UInt8
def Pr.cells (x:Pr):List Value :=
  [(str x.name)] ++ ([(str x.value)])
def tPr:Dt Pr:=tPull (fun x=>(x.name,x.value)) (tProd tStr tStr)
theorem tPr_un {w:World} {Q:Nat→Prop} {cs:List Value} {x:Pr} (h:tPr.rep w Q cs x):∃(_:True),cs=x.cells:=by
  obtain⟨_,_,rfl,⟨rfl,_⟩,⟨rfl,_⟩⟩:=h
  exact⟨trivial,q⟩
theorem tPr_mk {w:World} {Q:Nat→Prop} {x:Pr}:tPr.rep w Q (x.cells) x :=
  ⟨_,_,q,⟨q,tV⟩,⟨q,tV⟩⟩
theorem Pr.one {x:Pr}:(x.cells).all (fun u=>u.oneCell')=true:=(ones_app q q)
structure Rec where
  seq:Nat
  real:Nat
  mono:Nat
  boot:List UInt8
  fields:List Pr
def Rec.cells (x:Rec) (v0:Value):List Value :=
  [(.int .u64 x.seq)] ++ ([(.int .u64 x.real)] ++ ([(.int .u64 x.mono)] ++ ((idc x.boot) ++ ([v0]))))
def tRec:Dt Rec:=tPull (fun x=>(x.seq,x.real,x.mono,x.boot,x.fields)) (tProd tU64 (tProd tU64 (tProd tU64 (tProd tId (tSl tPr)))))
def Rec.ok (x:Rec):Prop:=x.seq<18446744073709551616∧x.real<18446744073709551616∧x.mono<18446744073709551616∧x.boot.length=16
theorem tRec_un {w:World} {Q:Nat→Prop} {cs:List Value} {x:Rec} (h:tRec.rep w Q cs x):∃v0,cs=x.cells v0∧Rec.ok x∧Ls tPr w Q v0 x.fields:=by
  obtain⟨_,_,rfl,⟨rfl,A⟩,⟨_,_,rfl,⟨rfl,B⟩,⟨_,_,rfl,⟨rfl,C⟩,⟨_,_,rfl,⟨rfl,D⟩,⟨v0,rfl,E⟩⟩⟩⟩⟩:=h
  exact⟨v0,q,⟨A,B,C,D⟩,E⟩
theorem tRec_mk {w:World} {Q:Nat→Prop} {x:Rec} {v0:Value} (c0:Rec.ok x) (c1:Ls tPr w Q v0 x.fields):tRec.rep w Q (x.cells v0) x :=
  ⟨_,_,q,⟨q,c0.1⟩,⟨_,_,q,⟨q,c0.2.1⟩,⟨_,_,q,⟨q,c0.2.2.1⟩,⟨_,_,q,⟨q,c0.2.2.2⟩,⟨_,q,c1⟩⟩⟩⟩⟩
theorem Rec.one {x:Rec} {v0:Value} (h0:v0.oneCell'=true):(x.cells v0).all (fun u=>u.oneCell')=true:=(ones_app q (ones_app q (ones_app q (ones_app (ones_idc _) (ones_1 h0)))))
structure Frame where
  kind:Nat
  flags:Nat
  size:Nat
structure Dat where
  hash:Nat
  nextHash:Nat
  nextField:Nat
  entry:Nat
  array:Nat
  count:Nat
  payload:List UInt8
def Dat.cells (x:Dat) (v0:Value):List Value :=
  [(.int .u64 x.hash)] ++ ([(.int .u64 x.nextHash)] ++ ([(.int .u64 x.nextField)] ++ ([(.int .u64 x.entry)] ++ ([(.int .u64 x.array)] ++ ([(.int .u64 x.count)] ++ ([v0]))))))
def Dat.ok (x:Dat):Prop:=x.hash<18446744073709551616∧x.nextHash<18446744073709551616∧x.nextField<18446744073709551616∧x.entry<18446744073709551616∧x.array<18446744073709551616∧x.count<18446744073709551616
theorem Dat.one {x:Dat} {v0:Value} (h0:v0.oneCell'=true):(x.cells v0).all (fun u=>u.oneCell')=true:=(ones_app q (ones_app q (ones_app q (ones_app q (ones_app q (ones_app q (ones_1 h0)))))))
structure Fld where
  hash:Nat
  nextHash:Nat
  dat:Nat
  payload:List UInt8
def Fld.cells (x:Fld) (v0:Value):List Value :=
  [(.int .u64 x.hash)] ++ ([(.int .u64 x.nextHash)] ++ ([(.int .u64 x.dat)] ++ ([v0])))
def Fld.ok (x:Fld):Prop:=x.hash<18446744073709551616∧x.nextHash<18446744073709551616∧x.dat<18446744073709551616
theorem Fld.one {x:Fld} {v0:Value} (h0:v0.oneCell'=true):(x.cells v0).all (fun u=>u.oneCell')=true:=(ones_app q (ones_app q (ones_app q (ones_1 h0))))
structure Itm where
  pos:Nat
  hash:Nat
def Itm.cells (x:Itm):List Value :=
  [(.int .u64 x.pos)] ++ ([(.int .u64 x.hash)])
def tItm:Dt Itm:=tPull (fun x=>(x.pos,x.hash)) (tProd tU64 tU64)
def Itm.ok (x:Itm):Prop:=x.pos<18446744073709551616∧x.hash<18446744073709551616
theorem tItm_un {w:World} {Q:Nat→Prop} {cs:List Value} {x:Itm} (h:tItm.rep w Q cs x):∃(_:True),cs=x.cells∧Itm.ok x:=by
  obtain⟨_,_,rfl,⟨rfl,A⟩,⟨rfl,B⟩⟩:=h
  exact⟨trivial,q,⟨A,B⟩⟩
theorem tItm_mk {w:World} {Q:Nat→Prop} {x:Itm} (c0:Itm.ok x):tItm.rep w Q (x.cells) x :=
  ⟨_,_,q,⟨q,c0.1⟩,⟨q,c0.2⟩⟩
structure Ent where
  seq:Nat
  real:Nat
  mono:Nat
  boot:List UInt8
  xor:Nat
  items:List Itm
def Ent.cells (x:Ent) (v0:Value):List Value :=
  [(.int .u64 x.seq)] ++ ([(.int .u64 x.real)] ++ ([(.int .u64 x.mono)] ++ ((idc x.boot) ++ ([(.int .u64 x.xor)] ++ ([v0])))))
def Ent.ok (x:Ent):Prop:=x.seq<18446744073709551616∧x.real<18446744073709551616∧x.mono<18446744073709551616∧x.boot.length=16∧x.xor<18446744073709551616
structure Arr where
  next:Nat
  items:List Nat
def Arr.cells (x:Arr) (v0:Value):List Value :=
  [(.int .u64 x.next)] ++ ([v0])
def Arr.ok (x:Arr):Prop:=x.next<18446744073709551616
structure Slt where
  first:Nat
  tail:Nat
def Slt.cells (x:Slt):List Value :=
  [(.int .u64 x.first)] ++ ([(.int .u64 x.tail)])
def tSlt:Dt Slt:=tPull (fun x=>(x.first,x.tail)) (tProd tU64 tU64)
def Slt.ok (x:Slt):Prop:=x.first<18446744073709551616∧x.tail<18446744073709551616
theorem tSlt_un {w:World} {Q:Nat→Prop} {cs:List Value} {x:Slt} (h:tSlt.rep w Q cs x):∃(_:True),cs=x.cells∧Slt.ok x:=by
  obtain⟨_,_,rfl,⟨rfl,A⟩,⟨rfl,B⟩⟩:=h
  exact⟨trivial,q,⟨A,B⟩⟩
theorem tSlt_mk {w:World} {Q:Nat→Prop} {x:Slt} (c0:Slt.ok x):tSlt.rep w Q (x.cells) x :=
  ⟨_,_,q,⟨q,c0.1⟩,⟨q,c0.2⟩⟩
structure RHead where
  compat:Nat
  incompat:Nat
  state:Nat
  file:List UInt8
  machine:List UInt8
  boot:List UInt8
  seq:List UInt8
  n:List Nat
  tailArray:Nat
  tailItems:Nat
  tailEntry:Nat
def RHead.cells (x:RHead):List Value :=
  [(.int .u32 x.compat)] ++ ([(.int .u32 x.incompat)] ++ ([(.int .i64 x.state)] ++ ((idc x.file) ++ ((idc x.machine) ++ ((idc x.boot) ++ ((idc x.seq) ++ ((nums20 x.n) ++ ([(.int .u32 x.tailArray)] ++ ([(.int .u32 x.tailItems)] ++ ([(.int .u64 x.tailEntry)]))))))))))
def tRHead:Dt RHead:=tPull (fun x=>(x.compat,x.incompat,x.state,x.file,x.machine,x.boot,x.seq,x.n,x.tailArray,x.tailItems,x.tailEntry)) (tProd tU32 (tProd tU32 (tProd tNat (tProd tId (tProd tId (tProd tId (tProd tId (tProd (tNums20) (tProd tU32 (tProd tU32 tU64))))))))))
def RHead.ok (x:RHead):Prop:=x.compat<4294967296∧x.incompat<4294967296∧x.state<9223372036854775808∧x.file.length=16∧x.machine.length=16∧x.boot.length=16∧x.seq.length=16∧(x.n.length=20∧∀y∈x.n,y<18446744073709551616)∧x.tailArray<4294967296∧x.tailItems<4294967296∧x.tailEntry<18446744073709551616
theorem tRHead_un {w:World} {Q:Nat→Prop} {cs:List Value} {x:RHead} (h:tRHead.rep w Q cs x):∃(_:True),cs=x.cells∧RHead.ok x:=by
  obtain⟨_,_,rfl,⟨rfl,B⟩,⟨_,_,rfl,⟨rfl,C⟩,⟨_,_,rfl,⟨rfl,D⟩,⟨_,_,rfl,⟨rfl,E⟩,⟨_,_,rfl,⟨rfl,F⟩,⟨_,_,rfl,⟨rfl,G⟩,⟨_,_,rfl,⟨rfl,H⟩,⟨_,_,rfl,⟨rfl,I⟩,⟨_,_,rfl,⟨rfl,J⟩,⟨_,_,rfl,⟨rfl,K⟩,⟨rfl,A⟩⟩⟩⟩⟩⟩⟩⟩⟩⟩⟩:=h
  exact⟨trivial,q,⟨B,C,D,E,F,G,H,I,J,K,A⟩⟩
theorem tRHead_mk {w:World} {Q:Nat→Prop} {x:RHead} (c0:RHead.ok x):tRHead.rep w Q (x.cells) x :=
  ⟨_,_,q,⟨q,c0.1⟩,⟨_,_,q,⟨q,c0.2.1⟩,⟨_,_,q,⟨q,c0.2.2.1⟩,⟨_,_,q,⟨q,c0.2.2.2.1⟩,⟨_,_,q,⟨q,c0.2.2.2.2.1⟩,⟨_,_,q,⟨q,c0.2.2.2.2.2.1⟩,⟨_,_,q,⟨q,c0.2.2.2.2.2.2.1⟩,⟨_,_,q,⟨q,c0.2.2.2.2.2.2.2.1⟩,⟨_,_,q,⟨q,c0.2.2.2.2.2.2.2.2.1⟩,⟨_,_,q,⟨q,c0.2.2.2.2.2.2.2.2.2.1⟩,⟨q,c0.2.2.2.2.2.2.2.2.2.2⟩⟩⟩⟩⟩⟩⟩⟩⟩⟩⟩
theorem RHead.one {x:RHead}:(x.cells).all (fun u=>u.oneCell')=true:=(ones_app q (ones_app q (ones_app q (ones_app (ones_idc _) (ones_app (ones_idc _) (ones_app (ones_idc _) (ones_app (ones_idc _) (ones_app q (ones_app q (ones_app q q))))))))))
structure PHead where
  compat:Nat
  incompat:Nat
  state:Nat
  file:List UInt8
  machine:List UInt8
  boot:List UInt8
  seq:List UInt8
  n:List Nat
  tailArray:Nat
  tailItems:Nat
  tailEntry:Nat
def PHead.cells (x:PHead):List Value :=
  [(.int .u32 x.compat)] ++ ([(.int .u32 x.incompat)] ++ ([(.int .i64 x.state)] ++ ((idc x.file) ++ ((idc x.machine) ++ ((idc x.boot) ++ ((idc x.seq) ++ ((nums21 x.n) ++ ([(.int .u32 x.tailArray)] ++ ([(.int .u32 x.tailItems)] ++ ([(.int .u64 x.tailEntry)]))))))))))
def tPHead:Dt PHead:=tPull (fun x=>(x.compat,x.incompat,x.state,x.file,x.machine,x.boot,x.seq,x.n,x.tailArray,x.tailItems,x.tailEntry)) (tProd tU32 (tProd tU32 (tProd tNat (tProd tId (tProd tId (tProd tId (tProd tId (tProd (tNums21) (tProd tU32 (tProd tU32 tU64))))))))))
def PHead.ok (x:PHead):Prop:=x.compat<4294967296∧x.incompat<4294967296∧x.state<9223372036854775808∧x.file.length=16∧x.machine.length=16∧x.boot.length=16∧x.seq.length=16∧(x.n.length=21∧∀y∈x.n,y<18446744073709551616)∧x.tailArray<4294967296∧x.tailItems<4294967296∧x.tailEntry<18446744073709551616
theorem tPHead_un {w:World} {Q:Nat→Prop} {cs:List Value} {x:PHead} (h:tPHead.rep w Q cs x):∃(_:True),cs=x.cells∧PHead.ok x:=by
  obtain⟨_,_,rfl,⟨rfl,B⟩,⟨_,_,rfl,⟨rfl,C⟩,⟨_,_,rfl,⟨rfl,D⟩,⟨_,_,rfl,⟨rfl,E⟩,⟨_,_,rfl,⟨rfl,F⟩,⟨_,_,rfl,⟨rfl,G⟩,⟨_,_,rfl,⟨rfl,H⟩,⟨_,_,rfl,⟨rfl,I⟩,⟨_,_,rfl,⟨rfl,J⟩,⟨_,_,rfl,⟨rfl,K⟩,⟨rfl,A⟩⟩⟩⟩⟩⟩⟩⟩⟩⟩⟩:=h
  exact⟨trivial,q,⟨B,C,D,E,F,G,H,I,J,K,A⟩⟩
theorem tPHead_mk {w:World} {Q:Nat→Prop} {x:PHead} (c0:PHead.ok x):tPHead.rep w Q (x.cells) x :=
  ⟨_,_,q,⟨q,c0.1⟩,⟨_,_,q,⟨q,c0.2.1⟩,⟨_,_,q,⟨q,c0.2.2.1⟩,⟨_,_,q,⟨q,c0.2.2.2.1⟩,⟨_,_,q,⟨q,c0.2.2.2.2.1⟩,⟨_,_,q,⟨q,c0.2.2.2.2.2.1⟩,⟨_,_,q,⟨q,c0.2.2.2.2.2.2.1⟩,⟨_,_,q,⟨q,c0.2.2.2.2.2.2.2.1⟩,⟨_,_,q,⟨q,c0.2.2.2.2.2.2.2.2.1⟩,⟨_,_,q,⟨q,c0.2.2.2.2.2.2.2.2.2.1⟩,⟨q,c0.2.2.2.2.2.2.2.2.2.2⟩⟩⟩⟩⟩⟩⟩⟩⟩⟩⟩
theorem PHead.one {x:PHead}:(x.cells).all (fun u=>u.oneCell')=true:=(ones_app q (ones_app q (ones_app q (ones_app (ones_idc _) (ones_app (ones_idc _) (ones_app (ones_idc _) (ones_app (ones_idc _) (ones_app q (ones_app q (ones_app q q))))))))))
structure PView where
  b:List UInt8
  h:PHead
def PView.cells (x:PView) (v0:Value):List Value :=
  [v0] ++ ((PHead.cells x.h))
def tPView:Dt PView:=tPull (fun x=>(x.b,x.h)) (tProd (tSl tB8) tPHead)
def PView.ok (x:PView):Prop:=PHead.ok x.h
theorem tPView_un {w:World} {Q:Nat→Prop} {cs:List Value} {x:PView} (h:tPView.rep w Q cs x):∃v0,cs=x.cells v0∧PView.ok x∧Ls tB8 w Q v0 x.b:=by
  obtain⟨_,_,rfl,⟨v0,rfl,B⟩,C⟩:=h
  obtain⟨_,rfl,A⟩:=tPHead_un C
  exact⟨v0,q,A,B⟩
theorem tPView_mk {w:World} {Q:Nat→Prop} {x:PView} {v0:Value} (c0:PView.ok x) (c1:Ls tB8 w Q v0 x.b):tPView.rep w Q (x.cells v0) x :=
  ⟨_,_,q,⟨_,q,c1⟩,(tPHead_mk c0)⟩
structure Cfg where
  file:List UInt8
  machine:List UInt8
  seq:List UInt8
  dataSlots:Nat
  fieldSlots:Nat
  most:Nat
  keyed:Bool
def Cfg.cells (x:Cfg):List Value :=
  (idc x.file) ++ ((idc x.machine) ++ ((idc x.seq) ++ ([(.int .i64 x.dataSlots)] ++ ([(.int .i64 x.fieldSlots)] ++ ([(.int .i64 x.most)] ++ ([(.bool x.keyed)]))))))
def tCfg:Dt Cfg:=tPull (fun x=>(x.file,x.machine,x.seq,x.dataSlots,x.fieldSlots,x.most,x.keyed)) (tProd tId (tProd tId (tProd tId (tProd tNat (tProd tNat (tProd tNat tBool))))))
def Cfg.ok (x:Cfg):Prop:=x.file.length=16∧x.machine.length=16∧x.seq.length=16∧x.dataSlots<9223372036854775808∧x.fieldSlots<9223372036854775808∧x.most<9223372036854775808
theorem tCfg_un {w:World} {Q:Nat→Prop} {cs:List Value} {x:Cfg} (h:tCfg.rep w Q cs x):∃(_:True),cs=x.cells∧Cfg.ok x:=by
  obtain⟨_,_,rfl,⟨rfl,A⟩,⟨_,_,rfl,⟨rfl,B⟩,⟨_,_,rfl,⟨rfl,C⟩,⟨_,_,rfl,⟨rfl,D⟩,⟨_,_,rfl,⟨rfl,E⟩,⟨_,_,rfl,⟨rfl,F⟩,⟨rfl,_⟩⟩⟩⟩⟩⟩⟩:=h
  exact⟨trivial,q,⟨A,B,C,D,E,F⟩⟩
theorem tCfg_mk {w:World} {Q:Nat→Prop} {x:Cfg} (c0:Cfg.ok x):tCfg.rep w Q (x.cells) x :=
  ⟨_,_,q,⟨q,c0.1⟩,⟨_,_,q,⟨q,c0.2.1⟩,⟨_,_,q,⟨q,c0.2.2.1⟩,⟨_,_,q,⟨q,c0.2.2.2.1⟩,⟨_,_,q,⟨q,c0.2.2.2.2.1⟩,⟨_,_,q,⟨q,c0.2.2.2.2.2⟩,⟨q,tV⟩⟩⟩⟩⟩⟩⟩
theorem Cfg.one {x:Cfg}:(x.cells).all (fun u=>u.oneCell')=true:=(ones_app (ones_idc _) (ones_app (ones_idc _) (ones_app (ones_idc _) (ones_app q (ones_app q (ones_app q q))))))
structure Known where
  text:List UInt8
  pos:Nat
  slot:Nat
  count:Nat
  arrays:List Nat
def Known.cells (x:Known) (v0:Value):List Value :=
  [(str x.text)] ++ ([(.int .u64 x.pos)] ++ ([(.int .i64 x.slot)] ++ ([(.int .i64 x.count)] ++ ([v0]))))
def tKnown:Dt Known:=tPull (fun x=>(x.text,x.pos,x.slot,x.count,x.arrays)) (tProd tStr (tProd tU64 (tProd tNat (tProd tNat (tSl tU64)))))
def Known.ok (x:Known):Prop:=x.pos<18446744073709551616∧x.slot<9223372036854775808∧x.count<9223372036854775808
theorem tKnown_un {w:World} {Q:Nat→Prop} {cs:List Value} {x:Known} (h:tKnown.rep w Q cs x):∃v0,cs=x.cells v0∧Known.ok x∧Ls tU64 w Q v0 x.arrays:=by
  obtain⟨_,_,rfl,⟨rfl,_⟩,⟨_,_,rfl,⟨rfl,A⟩,⟨_,_,rfl,⟨rfl,B⟩,⟨_,_,rfl,⟨rfl,C⟩,⟨v0,rfl,D⟩⟩⟩⟩⟩:=h
  exact⟨v0,q,⟨A,B,C⟩,D⟩
theorem tKnown_mk {w:World} {Q:Nat→Prop} {x:Known} {v0:Value} (c0:Known.ok x) (c1:Ls tU64 w Q v0 x.arrays):tKnown.rep w Q (x.cells v0) x :=
  ⟨_,_,q,⟨q,tV⟩,⟨_,_,q,⟨q,c0.1⟩,⟨_,_,q,⟨q,c0.2.1⟩,⟨_,_,q,⟨q,c0.2.2⟩,⟨_,q,c1⟩⟩⟩⟩⟩
theorem Known.one {x:Known} {v0:Value} (h0:v0.oneCell'=true):(x.cells v0).all (fun u=>u.oneCell')=true:=(ones_app q (ones_app q (ones_app q (ones_app q (ones_1 h0)))))
structure Mk where
  c:Cfg
  h:RHead
  depth:Nat
  b:List UInt8
  datas:List Known
  fields:List Known
  main:List Nat
def Mk.cells (x:Mk) (v0:Value) (v1:Value) (v2:Value) (v3:Value):List Value :=
  (Cfg.cells x.c) ++ ((RHead.cells x.h) ++ ([(.int .u64 x.depth)] ++ ([v0] ++ ([v1] ++ ([v2] ++ ([v3]))))))
def tMk:Dt Mk:=tPull (fun x=>(x.c,x.h,x.depth,x.b,x.datas,x.fields,x.main)) (tProd tCfg (tProd tRHead (tProd tU64 (tProd (tSl tB8) (tProd (tSl tKnown) (tProd (tSl tKnown) (tSl tU64)))))))
def Mk.ok (x:Mk):Prop:=Cfg.ok x.c∧RHead.ok x.h∧x.depth<18446744073709551616
theorem tMk_un {w:World} {Q:Nat→Prop} {cs:List Value} {x:Mk} (h:tMk.rep w Q cs x):∃v0 v1 v2 v3,cs=x.cells v0 v1 v2 v3∧Mk.ok x∧Ls tB8 w Q v0 x.b∧Ls tKnown w Q v1 x.datas∧Ls tKnown w Q v2 x.fields∧Ls tU64 w Q v3 x.main:=by
  obtain⟨_,_,rfl,C,⟨_,_,rfl,D,⟨_,_,rfl,⟨rfl,E⟩,⟨_,_,rfl,⟨v0,rfl,F⟩,⟨_,_,rfl,⟨v1,rfl,G⟩,⟨_,_,rfl,⟨v2,rfl,H⟩,⟨v3,rfl,I⟩⟩⟩⟩⟩⟩⟩:=h
  obtain⟨_,rfl,A⟩:=tCfg_un C
  obtain⟨_,rfl,B⟩:=tRHead_un D
  exact⟨v0,v1,v2,v3,q,⟨A,B,E⟩,F,G,H,I⟩
theorem tMk_mk {w:World} {Q:Nat→Prop} {x:Mk} {v0:Value} {v1:Value} {v2:Value} {v3:Value} (c0:Mk.ok x) (c1:Ls tB8 w Q v0 x.b) (c2:Ls tKnown w Q v1 x.datas) (c3:Ls tKnown w Q v2 x.fields) (c4:Ls tU64 w Q v3 x.main):tMk.rep w Q (x.cells v0 v1 v2 v3) x :=
  ⟨_,_,q,(tCfg_mk c0.1),⟨_,_,q,(tRHead_mk c0.2.1),⟨_,_,q,⟨q,c0.2.2⟩,⟨_,_,q,⟨_,q,c1⟩,⟨_,_,q,⟨_,q,c2⟩,⟨_,_,q,⟨_,q,c3⟩,⟨_,q,c4⟩⟩⟩⟩⟩⟩⟩
theorem Mk.one {x:Mk} {v0:Value} {v1:Value} {v2:Value} {v3:Value} (h0:v0.oneCell'=true) (h1:v1.oneCell'=true) (h2:v2.oneCell'=true) (h3:v3.oneCell'=true):(x.cells v0 v1 v2 v3).all (fun u=>u.oneCell')=true:=(ones_app (Cfg.one) (ones_app (RHead.one) (ones_app q (ones_app (ones_1 h0) (ones_app (ones_1 h1) (ones_app (ones_1 h2) (ones_1 h3)))))))
structure Sq where
  l:List Int
  pos:Nat
def Sq.cells (x:Sq) (v0:Value):List Value :=
  [v0] ++ ([(.int .i64 x.pos)])
def Sq.ok (x:Sq):Prop:=x.pos<9223372036854775808
end Go.Wk
namespace Go.Wk
open Go Go.RowKit
def low:Nat→Nat→List UInt8
  | _,0=>[]
  | v,n+1=>UInt8.ofNat (v%256) :: low (v/256) n
theorem low_len (v n:Nat):(low v n).length=n:=by
  induction n generalizing v with
  | zero=>rfl
  | succ n ih=>simp[low,ih]
def nums:List Nat→List UInt8
  | []=>[]
  | v :: r=>low v 8 ++ nums r
theorem nums_len (l:List Nat):(nums l).length=8*l.length:=by
  induction l with
  | nil=>rfl
  | cons v r ih=>simp[nums,low_len,ih];omega
theorem low_step (v:Nat) {n i:Nat} (h:i<n):low v (n-i)=UInt8.ofNat (v%256) :: low (v/256) (n-(i+1)):=by
  rw[show n-i=(n-(i+1))+1 by omega];rfl
theorem low_end (v:Nat) {n i:Nat} (h:¬i<n):low v (n-i)=[]:=by
  rw[show n-i=0 by omega];rfl
theorem nums_step {l:List Nat} {i x:Nat} (h:l[i]? = some x):nums (l.drop i)=low x 8 ++ nums (l.drop (i+1)):=by rw[drop_get h];rfl
theorem nums_end {l:List Nat} {i:Nat} (h:¬i<l.length):nums (l.drop i)=[]:=by rw[drop_end (by omega)];rfl
def pad8 (l:Ly):List UInt8:=l ++ List.replicate ((8-l.length%8)%8) 0
theorem pad8_step {l:Ly} (h:l.length%8≠0):pad8 l=pad8 (l ++ [0]):=by
  unfold pad8
  rw[List.append_assoc,List.length_append]
  congr 1
  rw[show(8-l.length%8)%8=(8-(l.length+[(0:UInt8)].length)%8)%8+1 by simp;omega,List.replicate_succ]
  rfl
theorem pad8_end {l:Ly} (h:l.length%8=0):pad8 l=l:=by simp[pad8,h]
theorem pad8_len (l:Ly):(pad8 l).length=(l.length+7)/8*8:=by simp[pad8];omega
def putF (kind:Nat) (body:Ly):List UInt8 :=
  if kind<1∨7<kind then[]else pad8 ([UInt8.ofNat kind,0,0,0,0,0,0,0] ++ nums [16+body.length] ++ body)
def putDataF (d:Dat):List UInt8:=putF 1 (nums [d.hash,d.nextHash,d.nextField,d.entry,d.array,d.count] ++ d.payload)
def putFieldF (d:Fld):List UInt8:=putF 2 (nums [d.hash,d.nextHash,d.dat] ++ d.payload)
def putArrayF (a:Arr):List UInt8:=putF 6 (nums [a.next] ++ nums a.items)
def slotsF:List Slt→List UInt8
  | []=>[]
  | s :: r=>nums [s.first,s.tail] ++ slotsF r
def putTableF (kind:Nat) (l:List Slt):List UInt8:=if kind≠4∧kind≠5 then[]else putF kind (slotsF l)
def itemsF:List Itm→List UInt8
  | []=>[]
  | s :: r=>nums [s.pos,s.hash] ++ itemsF r
def putEntryF (e:Ent):List UInt8:=putF 3 (nums [e.seq,e.real,e.mono] ++ e.boot ++ nums [e.xor] ++ itemsF e.items)
def headF (h:RHead) (depth:Nat):List UInt8 :=
  [76,80,75,83,72,72,82,72] ++ low h.compat 4 ++ low h.incompat 4 ++ [UInt8.ofNat h.state,0,0,0,0,0,0,0] ++ h.file ++ h.machine ++ h.boot ++ h.seq ++ nums h.n ++ nums [depth] ++ low h.tailArray 4 ++ low h.tailItems 4 ++ nums [h.tailEntry]
theorem putF_len {k:Nat} {b:Ly} (h:1≤k∧k≤7):(putF k b).length=(16+b.length+7)/8*8:=by
  unfold putF
  rw[if_neg (by omega),pad8_len]
  simp[nums_len]
  omega
theorem slots_step {l:List Slt} {i:Nat} {x:Slt} (h:l[i]? = some x):slotsF (l.drop i)=nums [x.first,x.tail] ++ slotsF (l.drop (i+1)):=by rw[drop_get h];rfl
theorem slots_end {l:List Slt} {i:Nat} (h:¬i<l.length):slotsF (l.drop i)=[]:=by rw[drop_end (by omega)];rfl
theorem slots_len (l:List Slt):(slotsF l).length=16*l.length:=by
  induction l with
  | nil=>rfl
  | cons v r ih=>simp[slotsF,nums_len,ih];omega
theorem items_step {l:List Itm} {i:Nat} {x:Itm} (h:l[i]? = some x):itemsF (l.drop i)=nums [x.pos,x.hash] ++ itemsF (l.drop (i+1)):=by rw[drop_get h];rfl
theorem items_end {l:List Itm} {i:Nat} (h:¬i<l.length):itemsF (l.drop i)=[]:=by rw[drop_end (by omega)];rfl
theorem items_len (l:List Itm):(itemsF l).length=16*l.length:=by
  induction l with
  | nil=>rfl
  | cons v r ih=>simp[itemsF,nums_len,ih];omega
theorem putDataF_len (d:Dat):(putDataF d).length=(16+(48+d.payload.length)+7)/8*8:=by unfold putDataF;rw[putF_len (by omega)];simp[nums_len]
theorem putFieldF_len (d:Fld):(putFieldF d).length=(16+(24+d.payload.length)+7)/8*8:=by unfold putFieldF;rw[putF_len (by omega)];simp[nums_len]
theorem putArrayF_len (a:Arr):(putArrayF a).length=(16+(8+8*a.items.length)+7)/8*8:=by unfold putArrayF;rw[putF_len (by omega)];simp[nums_len]
theorem putEntryF_len (e:Ent) (h:e.boot.length=16):(putEntryF e).length=(16+(48+16*e.items.length)+7)/8*8:=by unfold putEntryF;rw[putF_len (by omega)];simp[nums_len,items_len,h];omega
theorem putTableF_len (kind:Nat) (l:List Slt) (h:kind=4∨kind=5):(putTableF kind l).length=(16+16*l.length+7)/8*8:=by unfold putTableF;rw[if_neg (by omega),putF_len (by omega),slots_len]
theorem putTableF_lenA (kind:Nat) (l:List Slt):(putTableF kind l).length≤24+16*l.length∧(kind=4∨kind=5→(putTableF kind l).length=(16+16*l.length+7)/8*8):=by
  refine⟨?_,fun h=>putTableF_len kind l h⟩
  by_cases h:kind=4∨kind=5
  · rw[putTableF_len kind l h];omega
  unfold putTableF;rw[if_pos (by omega)];simp
theorem rhead_set {h:RHead} {j v:Nat} (hn:h.n.length=20) (hj:j<20):(RHead.cells h).set (67+j) (.int .u64 v)=RHead.cells {h with n:=h.n.set j v}:=by
  have e:∀(m:List Nat) (t:RHead),t.n=m→RHead.cells t=([(.int .u32 t.compat)] ++ ([(.int .u32 t.incompat)] ++ ([(.int .i64 t.state)] ++ ((idc t.file) ++ ((idc t.machine) ++ ((idc t.boot) ++ (idc t.seq))))))) ++ (nums20 m ++ ([(.int .u32 t.tailArray)] ++ ([(.int .u32 t.tailItems)] ++ [(.int .u64 t.tailEntry)]))):=by
    intro m t C;subst C;simp only[RHead.cells,List.append_assoc]
  rw[e h.n h q,e (h.n.set j v) {h with n:=h.n.set j v} q,nums20_set hn hj]
  have B:([(.int .u32 h.compat)] ++ ([(.int .u32 h.incompat)] ++ ([(.int .i64 h.state)] ++ ((idc h.file) ++ ((idc h.machine) ++ ((idc h.boot) ++ (idc h.seq)))))):List Value).length=67:=rfl
  have A:(nums20 h.n).length=20:=rfl
  rw[List.set_append_right _ _ (by omega),B,Nat.add_sub_cancel_left,List.set_append_left _ _ (by omega)]
end Go.Wk
namespace Go.Wk
open Go Go.RowKit
theorem bits_bd64 (op:BinOp) (a b:Int):0≤bits op .u64 a b∧bits op .u64 a b<18446744073709551616:=by
  unfold bits
  cases op <;> simp only[wrap_u64_mod] <;> omega
theorem pack_bd (t:T3):0≤pack t∧pack t<18446744073709551616:=bits_bd64 _ _ _
theorem lkF_bd:∀(k:Nat) (t:T3) (l:Ly),0≤lkF k t l∧lkF k t l<18446744073709551616
  | 0,t,l=>by unfold lkF;split<;>exact pack_bd _
  | k+1,t,l=>by
    unfold lkF
    split
    · exact lkF_bd k _ _
    · split<;>exact pack_bd _
theorem lookup_bd (l:Ly):0≤lookup l∧lookup l<18446744073709551616:=lkF_bd _ _ _
theorem sip_bd (key l:Ly):0≤sip key l∧sip key l<18446744073709551616:=by
  unfold sip sipEnd S4.all xor64
  exact bits_bd64 _ _ _
def lookN (l:Ly):Nat:=(lookup l).toNat
def hashN (k:Bool) (key l:Ly):Nat:=if k then(sip key l).toNat else lookN l
theorem hashN_eq (k:Bool) (key l:Ly):((hashN k key l:Nat):Int)=if k then sip key l else lookup l:=by
  unfold hashN lookN
  have A:=lookup_bd l
  have B:=sip_bd key l
  cases k <;> simp <;> omega
theorem hashN_lt (k:Bool) (key l:Ly):hashN k key l<18446744073709551616:=by
  have B:=lookup_bd l
  have C:=sip_bd key l
  have A:=hashN_eq k key l
  cases k <;> simp at A <;> omega
theorem lookN_eq (l:Ly):((lookN l:Nat):Int)=lookup l:=by have A:=lookup_bd l;unfold lookN;omega
theorem lookN_lt (l:Ly):lookN l<18446744073709551616:=by have A:=lookup_bd l;unfold lookN;omega
def xorF (v:Nat):List (List UInt8)→Nat
  | []=>v
  | b :: r=>xorF (v ^^^ lookN b) r
theorem xor_step {v:Nat} {l:List (List UInt8)} {i:Nat} {x:Ly} (h:l[i]? = some x):xorF v (l.drop i)=xorF (v ^^^ lookN x) (l.drop (i+1)):=by rw[drop_get h];rfl
theorem xor_end {v:Nat} {l:List (List UInt8)} {i:Nat} (h:¬i<l.length):xorF v (l.drop i)=v:=by rw[drop_end (by omega)];rfl
theorem xor64_lt {a b:Nat} (ha:a<18446744073709551616) (hb:b<18446744073709551616):a ^^^ b<18446744073709551616:=Nat.xor_lt_two_pow (n:=64) ha hb
def payload (p:Pr):List UInt8:=p.name ++ [61] ++ p.value
theorem payload_len (p:Pr):(payload p).length=p.name.length+1+p.value.length:=by simp[payload];omega
end Go.Wk
namespace Go.Wk
open Go Go.RowKit
def roomF (k:Int):Nat:=if k<0 then 0 else if 6<k then 256 else min (4*2 ^ k.toNat) 256
def putG:Nat→List UInt8→Nat→Nat→Nat→List UInt8
  | 0,b,_,_,_=>b
  | n+1,b,p,v,i=>putG n (b.set (p+i) (UInt8.ofNat (v/2 ^ (8*i)))) p v (i+1)
def putN (b:Ly) (p v:Nat):List UInt8:=putG 8 b p v 0
theorem putG_len (n:Nat) (b:Ly) (p v i:Nat):(putG n b p v i).length=b.length:=by
  induction n generalizing b i with
  | zero=>rfl
  | succ n ih=>simp[putG,ih]
theorem putN_len (b:Ly) (p v:Nat):(putN b p v).length=b.length:=putG_len 8 b p v 0
def Mk.put (m:Mk) (p v:Nat):Mk:={m with b:=putN m.b p v}
theorem put_len (m:Mk) (p v:Nat):(m.put p v).b.length=m.b.length:=putN_len _ _ _
theorem putG_step {n i:Nat} {b:Ly} {p v:Nat} (h:i<n):putG (n-i) b p v i=putG (n-(i+1)) (b.set (p+i) (UInt8.ofNat (v/2 ^ (8*i)))) p v (i+1):=by
  rw[show n-i=(n-(i+1))+1 by omega];rfl
theorem putG_end {n i:Nat} {b:Ly} {p v:Nat} (h:¬i<n):putG (n-i) b p v i=b:=by rw[show n-i=0 by omega];rfl
def Mk.setN (m:Mk) (k v:Nat):Mk:={m with h:={m.h with n:=m.h.n.set k v}}
def Mk.num (m:Mk) (k:Nat):Nat:=m.h.n.getD k 0
def Mk.object (m:Mk) (o:Ly):Nat × Mk :=
  let m1:={m with b:=m.b ++ o}
  let m29:=m1.setN 6 m.b.length
  (m.b.length,m29.setN 7 ((m29.num 7+1)%18446744073709551616))
def hangL (slot:Nat):List Known→Nat→Nat→Nat × Nat
  | [],n,q=>(n,q)
  | k :: r,n,q=>if k.slot=slot then hangL slot r (n+1) k.pos else hangL slot r n q
def Mk.hang (m:Mk) (l:List Known) (table p slot:Nat):Nat × Mk :=
  match hangL slot l 0 0 with
  | (n,q)=>(n,(if n=0 then m.put (table+16*slot) p else m.put (q+24) p).put (table+16*slot+8) p)
def findK (name:Ly):List Known→Option Nat
  | []=>none
  | k :: r=>if k.text=name then some k.pos else findK name r
def findI (s:Ly):List Known→Nat→Option Nat
  | [],_=>none
  | k :: r,i=>if k.text=s then some i else findI s r (i+1)
def Mk.field (m:Mk) (name:Ly):Nat × Mk :=
  match findK name m.fields with
  | some p=>(p,m)
  | none =>
    match m.object (putFieldF {hash:=hashN m.c.keyed m.c.file name,nextHash:=0,dat:=0,payload:=name})with
    | (p,m1)=>match m1.hang m1.fields (m1.num 4) p (hashN m.c.keyed m.c.file name%m1.c.fieldSlots)with
      | (n,m29) =>
        let m3:={m29 with depth:=max m1.depth n}
        let m4:=m3.setN 16 ((m3.num 16+1)%18446744073709551616)
        (p,{m4 with fields:=m4.fields ++ [({text:=name,pos:=p,slot:=hashN m.c.keyed m.c.file name%m1.c.fieldSlots,count:=0,arrays:=[]}:Known)]})
def Mk.data (m:Mk) (x:Pr):Nat × Mk :=
  match findI (payload x) m.datas 0 with
  | some i=>(i,m)
  | none =>
    match m.object (putDataF {hash:=hashN m.c.keyed m.c.file (payload x),nextHash:=0,nextField:=0,entry:=0,array:=0,count:=0,payload:=payload x})with
    | (p,m1)=>match m1.hang m1.datas (m1.num 2) p (hashN m.c.keyed m.c.file (payload x)%m1.c.dataSlots)with
      | (n,m29) =>
        let m3:=m29.setN 19 (max (m29.num 19) n)
        let m4:=m3.setN 15 ((m3.num 15+1)%18446744073709551616)
        let m5:={m4 with datas:=m4.datas ++ [({text:=payload x,pos:=p,slot:=hashN m.c.keyed m.c.file (payload x)%m1.c.dataSlots,count:=0,arrays:=[]}:Known)]}
        match m5.field x.name with
        | (k,m6) =>
          let m7:=m6.put (p+32) (getF m6.b (k+32:Nat) 8).1
          let m8:=m7.put (k+32) p
          (m8.datas.length-1,m8)
theorem setN_same (m:Mk) (k v:Nat):(m.setN k v).b=m.b∧(m.setN k v).c=m.c∧(m.setN k v).datas=m.datas∧(m.setN k v).fields=m.fields∧(m.setN k v).main=m.main:=⟨q,q,q,q,q⟩
theorem getD_set_ne' {l:List Nat} {i j v:Nat} (h:i≠j):(l.set i v).getD j 0=l.getD j 0:=by simp[List.getD,List.getElem?_set_ne h]
theorem num_setN {m:Mk} {k v j:Nat} (h:k≠j):(m.setN k v).num j=m.num j:=getD_set_ne' h
theorem object_spec (m:Mk) (o:Ly):(m.object o).1=m.b.length∧(m.object o).2.b.length=m.b.length+o.length∧(m.object o).2.c.dataSlots=m.c.dataSlots∧(m.object o).2.c.fieldSlots=m.c.fieldSlots∧(m.object o).2.datas.length=m.datas.length∧(m.object o).2.fields.length=m.fields.length ∧
    (m.object o).2.h.n.getD 2 0=m.h.n.getD 2 0∧(m.object o).2.h.n.getD 4 0=m.h.n.getD 4 0 :=
  ⟨q,by simp[Mk.object,Mk.setN],q,q,q,q,by simp only[Mk.object,Mk.setN];rw[getD_set_ne' (by decide),getD_set_ne' (by decide)],by simp only[Mk.object,Mk.setN];rw[getD_set_ne' (by decide),getD_set_ne' (by decide)]⟩
theorem object_same (m:Mk) (o:Ly):(m.object o).2.c=m.c∧(m.object o).2.datas=m.datas∧(m.object o).2.fields=m.fields∧(m.object o).2.main=m.main:=⟨q,q,q,q⟩
theorem put_spec (m:Mk) (p v:Nat):(m.put p v).b.length=m.b.length∧(m.put p v).c.dataSlots=m.c.dataSlots∧(m.put p v).c.fieldSlots=m.c.fieldSlots∧(m.put p v).datas.length=m.datas.length∧(m.put p v).fields.length=m.fields.length ∧
    (m.put p v).h.n.getD 2 0=m.h.n.getD 2 0∧(m.put p v).h.n.getD 4 0=m.h.n.getD 4 0:=⟨putN_len _ _ _,q,q,q,q,q,q⟩
theorem hang_eq (m:Mk) (l:List Known) (table p slot:Nat):(m.hang l table p slot).2={m with b:=(m.hang l table p slot).2.b}∧(m.hang l table p slot).2.b.length=m.b.length:=by
  unfold Mk.hang
  generalize hangL slot l 0 0=r
  obtain⟨n,q⟩:=r
  simp only
  split
  · exact⟨rfl,by rw[put_len,put_len]⟩
  exact⟨rfl,by rw[put_len,put_len]⟩
theorem hang_spec (m:Mk) (l:List Known) (table p slot:Nat):(m.hang l table p slot).2.b.length=m.b.length∧(m.hang l table p slot).2.c.dataSlots=m.c.dataSlots∧(m.hang l table p slot).2.c.fieldSlots=m.c.fieldSlots∧(m.hang l table p slot).2.datas.length=m.datas.length∧(m.hang l table p slot).2.fields.length=m.fields.length ∧
    (m.hang l table p slot).2.h.n.getD 2 0=m.h.n.getD 2 0∧(m.hang l table p slot).2.h.n.getD 4 0=m.h.n.getD 4 0:=by
  obtain⟨A,B⟩:=hang_eq m l table p slot
  refine⟨B,?_,?_,?_,?_,?_,?_⟩ <;> rw[A]
theorem hang_same (m:Mk) (l:List Known) (table p slot:Nat):(m.hang l table p slot).2.c=m.c∧(m.hang l table p slot).2.datas=m.datas∧(m.hang l table p slot).2.fields=m.fields∧(m.hang l table p slot).2.main=m.main∧(m.hang l table p slot).2.depth=m.depth∧(m.hang l table p slot).2.h=m.h:=by
  have A:=(hang_eq m l table p slot).1
  refine⟨?_,?_,?_,?_,?_,?_⟩ <;> rw[A]
theorem hang_step {slot i n q:Nat} {l:List Known} {x:Known} (h:l[i]? = some x):hangL slot (l.drop i) n q=if x.slot=slot then hangL slot (l.drop (i+1)) (n+1) x.pos else hangL slot (l.drop (i+1)) n q:=by rw[drop_get h];rfl
theorem hang_end {slot i n q:Nat} {l:List Known} (h:¬i<l.length):hangL slot (l.drop i) n q=(n,q):=by rw[drop_end (by omega)];rfl
theorem findK_step {s:Ly} {i:Nat} {l:List Known} {x:Known} (h:l[i]? = some x):findK s (l.drop i)=if x.text=s then some x.pos else findK s (l.drop (i+1)):=by rw[drop_get h];rfl
theorem findK_end {s:Ly} {i:Nat} {l:List Known} (h:¬i<l.length):findK s (l.drop i)=none:=by rw[drop_end (by omega)];rfl
theorem findI_step {s:Ly} {i j:Nat} {l:List Known} {x:Known} (h:l[i]? = some x):findI s (l.drop i) j=if x.text=s then some j else findI s (l.drop (i+1)) (j+1):=by rw[drop_get h];rfl
theorem findI_end {s:Ly} {i j:Nat} {l:List Known} (h:¬i<l.length):findI s (l.drop i) j=none:=by rw[drop_end (by omega)];rfl
def Mk.fit (m:Mk):Prop:=1≤m.c.dataSlots∧m.c.dataSlots≤64∧1≤m.c.fieldSlots∧m.c.fieldSlots≤64∧m.h.n.getD 2 0+16*m.c.dataSlots≤m.b.length∧m.h.n.getD 4 0+16*m.c.fieldSlots≤m.b.length ∧
  (∀k∈m.datas,k.pos+64≤m.b.length)∧(∀k∈m.fields,k.pos+40≤m.b.length)
theorem fit_mono {m m':Mk} (h:m.fit) (h1:m'.c.dataSlots=m.c.dataSlots∧m'.c.fieldSlots=m.c.fieldSlots∧m'.h.n.getD 2 0=m.h.n.getD 2 0∧m'.h.n.getD 4 0=m.h.n.getD 4 0∧m.b.length≤m'.b.length)
    (hd:∀k∈m'.datas,k∈m.datas∨k.pos+64≤m'.b.length) (hf:∀k∈m'.fields,k∈m.fields∨k.pos+40≤m'.b.length):m'.fit:=by
  obtain⟨G,H,I,J,K,L,A,B⟩:=h
  obtain⟨C,D,E,F,M⟩:=h1
  refine⟨by omega,by omega,by omega,by omega,by rw[C,E];omega,by rw[D,F];omega,fun k hk=>?_,fun k hk=>?_⟩
  · rcases hd k hk with h|h
    · have:=A k h;omega
    exact h
  rcases hf k hk with h|h
  · have:=B k h;omega
  exact h
theorem findK_mem {s:Ly} {l:List Known} {p:Nat} (h:findK s l=some p):∃k∈l,k.pos=p∧k.text=s:=by
  induction l with
  | nil=>simp[findK]at h
  | cons x l ih =>
    simp only[findK]at h
    split at h
    · rename_i hx;exact⟨x,by simp,by simpa using h,hx⟩
    · obtain⟨k,hk,A⟩:=ih h;exact⟨k,by simp[hk],A⟩
theorem findI_lt {s:Ly} {l:List Known} {j i:Nat} (h:findI s l j=some i):j≤i∧i<j+l.length:=by
  induction l generalizing j with
  | nil=>simp[findI]at h
  | cons x l ih =>
    simp only[findI]at h
    split at h
    · simp at h;simp;omega
    · have:=ih h;simp;omega
theorem field_all (m:Mk) (name:Ly) (h:m.fit):((m.field name).1+40≤(m.field name).2.b.length∧m.b.length≤(m.field name).2.b.length∧(m.field name).2.b.length≤m.b.length+(48+name.length)∧(m.field name).2.datas.length=m.datas.length∧(m.field name).2.fields.length≤m.fields.length+1 ∧
    (m.field name).2.c.dataSlots=m.c.dataSlots∧(m.field name).2.c.fieldSlots=m.c.fieldSlots∧(m.field name).2.h.n.getD 2 0=m.h.n.getD 2 0∧(m.field name).2.h.n.getD 4 0=m.h.n.getD 4 0∧(m.field name).2.h.n.getD 8 0=m.h.n.getD 8 0) ∧
    ((m.field name).2.c=m.c∧(m.field name).2.datas=m.datas∧(m.field name).2.main=m.main)∧(m.field name).2.fit:=by
  unfold Mk.field
  cases hk:findK name m.fields with
  | some p =>
    obtain⟨k,D,U,_⟩:=findK_mem hk
    have:=h.2.2.2.2.2.2.2 k D
    exact⟨⟨by simp only;omega,Nat.le_refl _,by simp only;omega,q,by simp only;omega,q,q,q,q,q⟩,⟨q,q,q⟩,h⟩
  | none =>
    simp only
    have C:=object_spec m (putFieldF {hash:=hashN m.c.keyed m.c.file name,nextHash:=0,dat:=0,payload:=name})
    have I:=object_same m (putFieldF {hash:=hashN m.c.keyed m.c.file name,nextHash:=0,dat:=0,payload:=name})
    have J:(m.object (putFieldF {hash:=hashN m.c.keyed m.c.file name,nextHash:=0,dat:=0,payload:=name})).2.h.n.getD 8 0=m.h.n.getD 8 0:=by
      simp only[Mk.object,Mk.setN];rw[getD_set_ne' (by decide),getD_set_ne' (by decide)]
    rw[putFieldF_len]at C
    simp only at C
    generalize m.object (putFieldF {hash:=hashN m.c.keyed m.c.file name,nextHash:=0,dat:=0,payload:=name})=r at *
    obtain⟨p,A⟩:=r
    simp only at C I J ⊢
    have K:=hang_spec A A.fields (A.num 4) p (hashN m.c.keyed m.c.file name%A.c.fieldSlots)
    have L:=hang_same A A.fields (A.num 4) p (hashN m.c.keyed m.c.file name%A.c.fieldSlots)
    generalize A.hang A.fields (A.num 4) p (hashN m.c.keyed m.c.file name%A.c.fieldSlots)=r at *
    obtain⟨n,B⟩:=r
    simp only at K L ⊢
    obtain⟨V,W,X,Y,Z,a,d,e⟩:=C
    obtain⟨M,E,N,O⟩:=I
    obtain⟨f,g,i,j,l,o,t⟩:=K
    obtain⟨P,F,Q,R,u,S⟩:=L
    simp only[Mk.setN,List.length_append,List.length_singleton]
    have G:(B.h.n.set 16 ((B.num 16+1)%18446744073709551616)).getD 2 0=m.h.n.getD 2 0:=by rw[getD_set_ne' (by decide)];omega
    have H:(B.h.n.set 16 ((B.num 16+1)%18446744073709551616)).getD 4 0=m.h.n.getD 4 0:=by rw[getD_set_ne' (by decide)];omega
    have T:(B.h.n.set 16 ((B.num 16+1)%18446744073709551616)).getD 8 0=m.h.n.getD 8 0:=by rw[getD_set_ne' (by decide),S,J]
    refine⟨⟨by omega,by omega,by omega,by omega,by omega,by omega,by omega,G,H,T⟩,⟨by rw[P,M],by rw[F,E],by rw[R,O]⟩,?_⟩
    refine fit_mono h ⟨by simp only;omega,by simp only;omega,G,H,by simp only;omega⟩ (fun k hk=>?_) (fun k hk=>?_)
    · simp only[F,E]at hk;exact .inl hk
    · simp only[Q,N,List.mem_append,List.mem_singleton]at hk
      rcases hk with hk|rfl
      · exact .inl hk
      · right;simp only;omega
theorem field_spec (m:Mk) (name:Ly) (h:m.fit):(m.field name).1+40≤(m.field name).2.b.length∧m.b.length≤(m.field name).2.b.length∧(m.field name).2.b.length≤m.b.length+(48+name.length)∧(m.field name).2.datas.length=m.datas.length∧(m.field name).2.fields.length≤m.fields.length+1 ∧
    (m.field name).2.c.dataSlots=m.c.dataSlots∧(m.field name).2.c.fieldSlots=m.c.fieldSlots∧(m.field name).2.h.n.getD 2 0=m.h.n.getD 2 0∧(m.field name).2.h.n.getD 4 0=m.h.n.getD 4 0∧(m.field name).2.h.n.getD 8 0=m.h.n.getD 8 0:=(field_all m name h).1
theorem field_same (m:Mk) (name:Ly) (h:m.fit):(m.field name).2.c=m.c∧(m.field name).2.datas=m.datas∧(m.field name).2.main=m.main:=(field_all m name h).2.1
theorem field_fit (m:Mk) (name:Ly) (h:m.fit):(m.field name).2.fit:=(field_all m name h).2.2
section
variable {m y:Mk} {v1 v2 v3 v4:Value} {w:World} {b t i v j:Nat}
theorem mk_set (hn:m.h.n.length=20) (hi:i<20):(Mk.cells m v1 v2 v3 v4).set (119+i) (.int .u64 v)=Mk.cells {m with h:={m.h with n:=m.h.n.set i v}} v1 v2 v3 v4:=by
  have A:(Cfg.cells m.c).length=52:=rfl
  have B:(RHead.cells m.h).length=90:=rfl
  show(Cfg.cells m.c ++ (RHead.cells m.h ++ _)).set _ _=Cfg.cells m.c ++ (RHead.cells _ ++ _)
  rw[List.set_append_right _ _ (by omega),A,show 119+i-52=67+i by omega,List.set_append_left _ _ (by omega),rhead_set hn hi]
theorem mk_numA (B:Blk w b ((Mk.cells m v1 v2 v3 v4).set j (.int .u64 v)) t) (ok:Mk.ok m) (hv:v<18446744073709551616) (hj:j=119+i) (hi:i<20):∃y,y=({m with h:={m.h with n:=m.h.n.set i v}}:Mk)∧Blk w b (Mk.cells y v1 v2 v3 v4) t∧Mk.ok y:=by
  subst hj
  rw[mk_set ok.2.1.2.2.2.2.2.2.2.1.1 hi]at B
  obtain⟨A,⟨a,b,c,d,e,f,g,h,k⟩,C⟩:=ok
  exact⟨_,q,B,A,⟨a,b,c,d,e,f,g,nums_set h hv,k⟩,C⟩
theorem mk_num (B:Blk w b ((Mk.cells m v1 v2 v3 v4).set j (.int .u64 v)) t) (ok:Mk.ok m) (hv:v<18446744073709551616) (hj:j=119+i:=by rfl) (hi:i<20:=by decide) (h2:i≠2:=by decide) (h4:i≠4:=by decide):∃y,y=({m with h:={m.h with n:=m.h.n.set i v}}:Mk)∧Blk w b (Mk.cells y v1 v2 v3 v4) t∧Mk.ok y∧y.b.length=m.b.length∧y.datas.length=m.datas.length∧y.fields.length=m.fields.length∧y.c.dataSlots=m.c.dataSlots∧y.c.fieldSlots=m.c.fieldSlots∧y.h.n.getD 2 0=m.h.n.getD 2 0∧y.h.n.getD 4 0=m.h.n.getD 4 0:=by
  obtain⟨y,rfl,h,k⟩:=mk_numA B ok hv hj hi
  exact⟨_,q,h,k,q,q,q,q,q,getD_set_ne' (by omega),getD_set_ne' (by omega)⟩
theorem mk_num2 (B:Blk w b ((Mk.cells m v1 v2 v3 v4).set j (.int .u64 v)) t) (ok:Mk.ok m) (hv:v<18446744073709551616) (hj:j=119+i:=by rfl) (hi:i<20:=by decide) (h4:i≠4:=by decide):∃y,y=({m with h:={m.h with n:=m.h.n.set i v}}:Mk)∧Blk w b (Mk.cells y v1 v2 v3 v4) t∧Mk.ok y∧y.b.length=m.b.length∧y.datas.length=m.datas.length∧y.fields.length=m.fields.length∧y.c.dataSlots=m.c.dataSlots∧y.c.fieldSlots=m.c.fieldSlots∧y.h.n.getD 4 0=m.h.n.getD 4 0:=by
  obtain⟨y,rfl,h,k⟩:=mk_numA B ok hv hj hi
  exact⟨_,q,h,k,q,q,q,q,q,getD_set_ne' (by omega)⟩
theorem mk_num4 (B:Blk w b ((Mk.cells m v1 v2 v3 v4).set j (.int .u64 v)) t) (ok:Mk.ok m) (hv:v<18446744073709551616) (hj:j=119+i:=by rfl) (hi:i<20:=by decide) (h2:i≠2:=by decide):∃y,y=({m with h:={m.h with n:=m.h.n.set i v}}:Mk)∧Blk w b (Mk.cells y v1 v2 v3 v4) t∧Mk.ok y∧y.b.length=m.b.length∧y.datas.length=m.datas.length∧y.fields.length=m.fields.length∧y.c.dataSlots=m.c.dataSlots∧y.c.fieldSlots=m.c.fieldSlots∧y.h.n.getD 2 0=m.h.n.getD 2 0:=by
  obtain⟨y,rfl,h,k⟩:=mk_numA B ok hv hj hi
  exact⟨_,q,h,k,q,q,q,q,q,getD_set_ne' (by omega)⟩
theorem mk_b {x:Ly} (e:y={m with b:=x}):y.datas.length=m.datas.length∧y.fields.length=m.fields.length∧y.c.dataSlots=m.c.dataSlots∧y.c.fieldSlots=m.c.fieldSlots∧y.h.n.getD 2 0=m.h.n.getD 2 0∧y.h.n.getD 4 0=m.h.n.getD 4 0:=by subst e;exact⟨q,q,q,q,q,q⟩
theorem mk_datas {x:List Known} (e:y={m with datas:=x}):y.b.length=m.b.length∧y.fields.length=m.fields.length∧y.c.dataSlots=m.c.dataSlots∧y.c.fieldSlots=m.c.fieldSlots∧y.h.n.getD 2 0=m.h.n.getD 2 0∧y.h.n.getD 4 0=m.h.n.getD 4 0:=by subst e;exact⟨q,q,q,q,q,q⟩
theorem mk_fields {x:List Known} (e:y={m with fields:=x}):y.b.length=m.b.length∧y.datas.length=m.datas.length∧y.c.dataSlots=m.c.dataSlots∧y.c.fieldSlots=m.c.fieldSlots∧y.h.n.getD 2 0=m.h.n.getD 2 0∧y.h.n.getD 4 0=m.h.n.getD 4 0:=by subst e;exact⟨q,q,q,q,q,q⟩
theorem mk_main {x:List Nat} (e:y={m with main:=x}):y.b.length=m.b.length∧y.datas.length=m.datas.length∧y.fields.length=m.fields.length∧y.c.dataSlots=m.c.dataSlots∧y.c.fieldSlots=m.c.fieldSlots∧y.h.n.getD 2 0=m.h.n.getD 2 0∧y.h.n.getD 4 0=m.h.n.getD 4 0:=by subst e;exact⟨q,q,q,q,q,q,q⟩
theorem mk_depth {x:Nat} (e:y={m with depth:=x}):y.b.length=m.b.length∧y.datas.length=m.datas.length∧y.fields.length=m.fields.length∧y.c.dataSlots=m.c.dataSlots∧y.c.fieldSlots=m.c.fieldSlots∧y.h.n.getD 2 0=m.h.n.getD 2 0∧y.h.n.getD 4 0=m.h.n.getD 4 0:=by subst e;exact⟨q,q,q,q,q,q,q⟩
theorem mk_h {x:RHead} (e:y={m with h:=x}):y.b.length=m.b.length∧y.datas.length=m.datas.length∧y.fields.length=m.fields.length∧y.c.dataSlots=m.c.dataSlots∧y.c.fieldSlots=m.c.fieldSlots:=by subst e;exact⟨q,q,q,q,q⟩
end
section
variable {P:Program}
end
end Go.Wk
namespace Go.Wk
open Go Go.RowKit
theorem roomF_le (k:Int):roomF k≤256:=by unfold roomF;split;omega;split<;>omega
def roomsL:List Nat→Nat→Nat→Nat→Nat × Nat
  | [],_,a,r=>(a,r)
  | _ :: l,k,_,r=>roomsL l (k+1) r (r+roomF (k:Int))
def lastN (l:List Nat):Nat:=l.getD (l.length-1) 0
def Mk.link (m:Mk) (arrays:List Nat) (n src item:Nat):List Nat × Nat × Mk :=
  match roomsL arrays 0 0 0 with
  | (ahead,room) =>
    if n=room then
      match m.object (putArrayF {next:=0,items:=List.replicate (roomF (arrays.length:Int)) 0})with
      | (p,m1) =>
        let m29:=m1.setN 18 ((m1.num 18+1)%18446744073709551616)
        (arrays ++ [p],n-room+1,(if arrays.length=0 then m29.put src p else m29.put (lastN arrays+16) p).put (lastN (arrays ++ [p])+24+8*(n-room)) item)
    else(arrays,n-ahead+1,m.put (lastN arrays+24+8*(n-ahead)) item)
theorem rooms_step {l:List Nat} {i k a r:Nat} (h:i<l.length):roomsL (l.drop i) k a r=roomsL (l.drop (i+1)) (k+1) r (r+roomF (k:Int)):=by
  obtain⟨x,A⟩:=getE h
  rw[drop_get A];rfl
theorem rooms_end {l:List Nat} {i k a r:Nat} (h:¬i<l.length):roomsL (l.drop i) k a r=(a,r):=by rw[drop_end (by omega)];rfl
theorem roomF_ge {k:Int} (h:0≤k):4≤roomF k:=by
  unfold roomF
  rw[if_neg (by omega)]
  split
  · omega
  have:1≤2 ^ k.toNat:=Nat.one_le_two_pow
  omega
theorem roomF_ge4 (k:Int):k<0∨4≤roomF k:=by by_cases h:0≤k;exact .inr (roomF_ge h);exact .inl (by omega)
theorem lastN_eq {l:List Nat} {x:Nat} (h:l[l.length-1]? = some x):lastN l=x:=by simp[lastN,List.getD,h]
theorem lastN_app {α} {l:List α} {p x:α} (h:(l ++ [p])[(l ++ [p]).length-1]? = some x):x=p:=by simpa using h.symm
theorem rooms_last (l:List Nat) (k a r:Nat) (h:l≠[]):(roomsL l k a r).2=(roomsL l k a r).1+roomF ((k+l.length-1:Nat):Int):=by
  induction l generalizing k a r with
  | nil=>exact absurd q h
  | cons x l ih =>
    by_cases hl:l=[]
    · subst hl;simp[roomsL]
    · simp only[roomsL,List.length_cons]
      rw[ih (k+1) r (r+roomF (k:Int)) hl,show k+1+l.length-1=k+(l.length+1)-1 by omega]
theorem rooms_nil' {l:List Nat} {n:Nat} (h2:(roomsL l 0 0 0).1≤n) (h3:n≤(roomsL l 0 0 0).2) (h:n≠(roomsL l 0 0 0).2):1≤l.length∧n<(roomsL l 0 0 0).1+roomF ((l.length-1:Nat):Int):=by
  cases l with
  | nil=>simp[roomsL]at h3 h;omega
  | cons x l =>
    have:=rooms_last (x :: l) 0 0 0 (by simp)
    simp only[Nat.zero_add]at this
    refine⟨by simp,?_⟩
    omega
def chainFit (len:Nat) (arrays:List Nat) (n:Nat):Prop :=
  (∀(k a:Nat),arrays[k]? = some a→a+24+8*roomF (k:Int)≤len)∧(roomsL arrays 0 0 0).1≤n∧n≤(roomsL arrays 0 0 0).2
def newMk (c:Cfg) (tail:Nat):Mk :=
  let b1:=List.replicate 272 0 ++ putTableF 4 (List.replicate c.dataSlots {first:=0,tail:=0})
  let b2:=b1 ++ putTableF 5 (List.replicate c.fieldSlots {first:=0,tail:=0})
  {c:=c,depth:=0,b:=b2,datas:=[],fields:=[],main:=[],
    h:={compat:=2,incompat:=if c.keyed then 4 else 0,state:=1,file:=c.file,machine:=c.machine,boot:=List.replicate 16 0,seq:=c.seq,tailArray:=0,tailItems:=0,tailEntry:=0,
           n:=(((((((((List.replicate 20 0).set 0 272).set 2 288).set 3 (16*c.dataSlots)).set 4 (b1.length+16)).set 5 (16*c.fieldSlots)).set 6 b1.length).set 7 2).set 9 tail)}}
theorem take_all {α} {l:List α} {i:Nat} (h:¬i<l.length):l.take i=l:=List.take_of_length_le (by omega)
theorem apart_nb {v:Value} {b:Nat} (h:∀x,vblock v=some x→x≠b):b∉(vblock v).toList:=by
  cases hv:vblock v with
  | none=>simp
  | some c=>simp;exact fun e=>h c hv e.symm
theorem apart_nb2 {v:Value} {b:Nat} (h:∀x,vblock v=some x→x≠b):∀x,vblock v=some x→x∉[b]:=fun x hx hh=>h x hx (by simpa using hh)
def imageM (m:Mk) (st:Nat):List UInt8:=headF {m.h with state:=st,n:=m.h.n.set 1 (m.b.length-272)} m.depth ++ m.b.drop 272
theorem headF_len (h:RHead) (depth:Nat) (ok:RHead.ok h):(headF h depth).length=272:=by
  obtain⟨_,_,_,A,B,C,D,E,_⟩:=ok
  simp[headF,low_len,nums_len,A,B,C,D,E.1]
end Go.Wk
namespace Go.Wk
open Go Go.RowKit
def Pr.pb (p:Pr):PairB:=(p.name,p.value)
section
variable {P:Program} {n:Nat} {A:Fr n} {D:List Deferred} {l:List (Nat × Value)} {w:World} {d:Option Tmp} {ty:TypeId} {ps:String} {af:Array Edge} {g:Option (Nat × Bool)}
theorem r_eqlPr {x y:Operand} {t f u:TypeId} {p q:Pr} (hp:pairT P t f=true) (hf:P.underlying f=some .string) (hx:ev n l x=some (.agg (Pr.cells p).toArray)) (hy:ev n l y=some (.agg (Pr.cells q).toArray)) :
    RunV P ⟨d,.binOp .eql t x y u,ty,ps,af,g⟩ (over A D l).eval w (.bool (decide (p.pb=q.pb))):=r_eqlP (p:=p.pb) (q:=q.pb) hp hf hx hy
end
def joinF (p:Pr):List UInt8 × Nat:=if isName p.name=false then([],1)else if 256<p.value.length then([],21)else(payload p,0)
theorem joinF_bd {p:Pr} (h:(joinF p).2=0):p.name.length≤1000000∧p.value.length≤1000000:=by
  unfold joinF at h
  split at h
  · cases h
  rename_i h1
  split at h
  · cases h
  have:=(name_len (s:=p.name) (by simpa using h1)).2;omega
theorem joinF_right {p:Pr}:(joinF p).2=0↔right p.pb=true:=by
  unfold joinF right Pr.pb
  by_cases h1:isName p.name=false
  · simp[h1]
  rw[if_neg h1]
  have A:isName p.name=true:=by simpa using h1
  rw[A]
  by_cases h3:256<p.value.length
  · simp[h3]
  simp[h3];omega
def rankF (t:Ly):List Pr→Nat→Nat
  | [],k=>k
  | q :: r,k=>if Op.bytesLess (payload q) t=true then rankF t r (k+1)else k
theorem rank_step {t:Ly} {o:List Pr} {k:Nat} {q:Pr} (h:o[k]? = some q):rankF t (o.drop k) k=if Op.bytesLess (payload q) t=true then rankF t (o.drop (k+1)) (k+1)else k:=by
  rw[drop_get h];rfl
theorem rank_end {t:Ly} {o:List Pr} {k:Nat} (h:¬k<o.length):rankF t (o.drop k) k=k:=by rw[drop_end (by omega)];rfl
theorem pr_getD {l:List Pr} {i:Nat} {x:Pr} (h:l[i]? = some x):l.getD i {name:=[],value:=[]}=x:=by simp[List.getD,h]
def shiftF:Nat→Nat→List Pr→List Pr
  | 0,_,o=>o
  | n+1,j,o=>shiftF n (j-1) (o.set j (o.getD (j-1) {name:=[],value:=[]}))
theorem shift_step {j k:Nat} {o:List Pr} (h:k<j):shiftF (j-k) j o=shiftF (j-1-k) (j-1) (o.set j (o.getD (j-1) {name:=[],value:=[]})):=by
  rw[show j-k=(j-1-k)+1 by omega];rfl
theorem shift_end {j k:Nat} {o:List Pr} (h:¬k<j):shiftF (j-k) j o=o:=by rw[show j-k=0 by omega];rfl
def insF (p:Pr) (o:List Pr):List Pr :=
  let k:=rankF (payload p) o 0
  if k<o.length∧(o.getD k {name:=[],value:=[]}).pb=p.pb then o else(shiftF (o.length-k) o.length (o ++ [{name:=[],value:=[]}])).set k p
def goL:List Pr→List Pr→List Pr × Nat
  | [],o=>if 16<o.length then([],21)else(o,0)
  | p :: r,o=>if(joinF p).2≠0 then([],(joinF p).2)else goL r (insF p o)
def listF (l:List Pr):List Pr × Nat:=if l.length=0 then([],16)else goL l []
theorem goL_end {l o:List Pr} {i:Nat} (h:¬i<l.length):goL (l.drop i) o=if 16<o.length then([],21)else(o,0):=by rw[drop_end (by omega)];rfl
theorem goL_step {l o:List Pr} {i:Nat} {p:Pr} (h:l[i]? = some p):goL (l.drop i) o=if(joinF p).2≠0 then([],(joinF p).2)else goL (l.drop (i+1)) (insF p o):=by
  rw[drop_get h];rfl
end Go.Wk
namespace Go.Wk
open Go Go.RowKit
section
variable {P:Program} {n:Nat} {A:Fr n} {D:List Deferred} {l:List (Nat × Value)} {w:World} {d:Option Tmp} {ty:TypeId} {ps:String} {af:Array Edge} {g:Option (Nat × Bool)}
theorem r_remZ {x y:Operand} {t u:TypeId} {k:IntKind} {a b:Int} (hx:ev n l x=some (.int k a)) (hy:ev n l y=some (.int k b)) (h:b≠0) :
    RunV P ⟨d,.binOp .rem t x y u,ty,ps,af,g⟩ (over A D l).eval w (.int k (a.tmod b)):=r_rem hx hy h
end
def numF (k:Int) (n:Nat):Nat:=if n<1 then 0 else((k.tmod n+n).tmod n).toNat
theorem numF_lt (k:Int) (n:Nat):n<1∨numF k n<n:=by
  unfold numF
  by_cases h:n<1
  · exact .inl h
  rw[if_neg h]
  have A:=Int.tmod_lt_of_pos (k.tmod n+n) (show(0:Int)<n by omega)
  right;omega
theorem num_ge {k:Int} {n:Nat} (h:¬n<1):0≤k.tmod n+n∧k.tmod n+n<2*n:=by
  have A:=Int.tmod_lt_of_pos k (show(0:Int)<n by omega)
  have B:=Int.lt_tmod_of_pos k (show(0:Int)<n by omega)
  omega
def Sq.num (s:Sq) (n:Nat):Nat × Sq:=if s.l.length≤s.pos then(0,s)else(numF (s.l.getD s.pos 0) n,{s with pos:=s.pos+1})
def Sq.more (s:Sq):Bool × Sq:=(decide (s.pos<s.l.length),s)
def namesF:List (List UInt8):=[[65],[66],[77,69,83,83,65,71,69],[95,80,73,68],[88,95,49],[80,82,73,79,82,73,84,89]]
def valuesF:List (List UInt8):=[[],[48],[49],[50,50],[97,61,98],[111,110,101,10,116,119,111],[0,255],[116,97,98,9,104,101,114,101],[108,111,110,103,32,108,111,110,103,32,108,111,110,103,32,108,111,110,103,32,108,111,110,103,32,108,111,110,103,32,108,111,110,103],[126,127,128]]
theorem namesF_len:namesF.length=6:=rfl
theorem valuesF_len:valuesF.length=10:=rfl
def idF (k:Int):List UInt8:=((List.replicate 16 0).set 0 94).set 15 (UInt8.ofNat (numF k 5))
def Sq.pair (s:Sq):Pr × Sq :=
  match s.num 6 with
  | (a,s1) =>
    match s1.num 10 with
    | (b,s2)=>({name:=namesF.getD a [],value:=valuesF.getD b []},s2)
theorem Sq.num_le (s:Sq) (n:Nat):(s.num n).1≤n-1:=by
  unfold Sq.num
  split
  · simp
  simp only
  rcases numF_lt (s.l.getD s.pos 0) n with h|h
  · simp[numF,h]
  omega
def pairsL:Nat→Sq→List Pr→List Pr × Sq
  | 0,s,o=>(o,s)
  | n+1,s,o=>match s.pair with
    | (p,s1)=>pairsL n s1 (o ++ [p])
def Sq.pairs (s:Sq) (most:Nat):List Pr × Sq :=
  match s.num most with
  | (n,s1)=>pairsL (n+1) s1 []
theorem pairs_end {n:Nat} {s:Sq} {o:List Pr} (h:¬0<n):pairsL n s o=(o,s):=by rw[show n=0 by omega];rfl
theorem pairs_step {n:Nat} {s:Sq} {o:List Pr} (h:0<n):pairsL n s o=pairsL (n-1) s.pair.2 (o ++ [s.pair.1]):=by
  obtain⟨k,rfl⟩:∃k,n=k+1:=⟨n-1,by omega⟩
  rfl
theorem names_bd (a:Nat):(namesF.getD a []).length≤64:=by
  match a with
  | 0|1|2|3|4|5=>decide
  | n+6=>simp[namesF]
theorem values_bd (a:Nat):(valuesF.getD a []).length≤256:=by
  match a with
  | 0|1|2|3|4|5|6|7|8|9=>decide
  | n+10=>simp[valuesF]
theorem pair_bd (s:Sq):s.pair.1.name.length≤64∧s.pair.1.value.length≤256:=⟨names_bd _,values_bd _⟩
theorem pairsL_bd (n:Nat):∀(s:Sq) (o:List Pr),(∀q∈o,q.name.length≤64∧q.value.length≤256)→(∀q∈(pairsL n s o).1,q.name.length≤64∧q.value.length≤256)∧(pairsL n s o).1.length=o.length+n:=by
  induction n with
  | zero=>exact fun s o h=>⟨h,rfl⟩
  | succ n ih =>
    intro s o h
    have:=ih s.pair.2 (o ++ [s.pair.1]) (fun q A=>by
      rcases List.mem_append.1 A with A|A
      · exact h q A
      · rw[List.mem_singleton.1 A];exact pair_bd s)
    refine⟨this.1,?_⟩
    have B:=this.2
    rw[List.length_append,List.length_singleton]at B
    rw[show pairsL (n+1) s o=pairsL n s.pair.2 (o ++ [s.pair.1])from rfl,B];omega
theorem pairs_bd (s:Sq) (most:Nat):(∀q∈(s.pairs most).1,q.name.length≤1000000∧q.value.length≤1000000)∧(s.pairs most).1.length≤most+1:=by
  have h:=pairsL_bd ((s.num most).1+1) (s.num most).2 [] (by simp)
  have B:=s.num_le most
  have e:s.pairs most=pairsL ((s.num most).1+1) (s.num most).2 []:=rfl
  rw[e]
  refine⟨fun q A=>⟨by have:=(h.1 q A).1;omega,by have:=(h.1 q A).2;omega⟩,?_⟩
  rw[h.2];simp;omega
def Sq.config (s:Sq):Cfg × Sq :=
  match s.num 5 with
  | (a,s1)=>match s1.num 5 with
    | (b,s2)=>match s2.num 5 with
      | (c,s3)=>match s3.num 7 with
        | (d,s4)=>match s4.num 4 with
          | (e,s5)=>match s5.num 2 with
            | (f,s6)=>({file:=idF a,machine:=idF b,seq:=idF c,dataSlots:=d+1,fieldSlots:=e+1,most:=32768,keyed:=decide (f=1)},s6)
def Sq.record (s:Sq) (seq:Nat):Rec × Sq :=
  match s.pairs 4 with
  | (ps,s1)=>match s1.num 40 with
    | (a,s2)=>match s2.num 9 with
      | (b,s3)=>match s3.num 3 with
        | (c,s4)=>({seq:=seq,real:=a,mono:=b,boot:=idF c,fields:=(listF ps).1},s4)
end Go.Wk
namespace Go.Wk
open Go Go.Op
theorem bl_irr:∀a:List UInt8,bytesLess a a=false
  | []=>rfl
  | x :: a=>by simp[bytesLess,bl_irr a]
theorem bl_trans:∀{a b c:Ly},bytesLess a b=true→bytesLess b c=true→bytesLess a c=true
  | _,[],_,h,_=>by unfold bytesLess at h;cases h
  | _,_ :: _,[],_,h=>by unfold bytesLess at h;cases h
  | [],_ :: _,_ :: _,_,_=>rfl
  | x :: a,y :: b,z :: c,h1,h2=>by
    simp only[bytesLess,Bool.or_eq_true,decide_eq_true_eq,Bool.and_eq_true,beq_iff_eq]at *
    rcases h1 with h1|⟨rfl,h1⟩<;>rcases h2 with h2|⟨rfl,h2⟩
    · exact .inl (UInt8.lt_trans h1 h2)
    · exact .inl h1
    · exact .inl h2
    · exact .inr ⟨q,bl_trans h1 h2⟩
theorem bl_tri:∀{a b:Ly},bytesLess a b=false→bytesLess b a=false→a=b
  | [],[],_,_=>rfl
  | [],_ :: _,h,_=>by unfold bytesLess at h;cases h
  | _ :: _,[],_,h=>by unfold bytesLess at h;cases h
  | x :: a,y :: b,h1,h2=>by
    simp only[bytesLess,Bool.or_eq_false_iff,decide_eq_false_iff_not,Bool.and_eq_false_iff,beq_eq_false_iff_ne]at *
    have hxy:x=y:=by
      have A:=h1.1;have B:=h2.1
      exact UInt8.le_antisymm (UInt8.not_lt.1 B) (UInt8.not_lt.1 A)
    subst hxy
    have A:=h1.2.resolve_left (by simp)
    have B:=h2.2.resolve_left (by simp)
    rw[bl_tri A B]
theorem whole_inj {p q:PairB} (hp:right p=true) (hq:right q=true) (h:whole p=whole q):p=q:=by
  have A:=(split_whole ((joinC_right p).2 hp)).2
  have B:=(split_whole ((joinC_right q).2 hq)).2
  rw[← A,h,B]
end Go.Wk
namespace Go.Wk
open Go Go.RowKit
section
variable {P:Program} {n:Nat} {A:Fr n} {D:List Deferred} {l:List (Nat × Value)} {w:World} {d:Option Tmp} {ty:TypeId} {ps:String} {af:Array Edge} {g:Option (Nat × Bool)}
end
def hasP (p:Pr):List Pr→Bool
  | []=>false
  | q :: r=>if p.pb=q.pb then true else hasP p r
theorem hasP_end {p:Pr} {l:List Pr} {i:Nat} (h:¬i<l.length):hasP p (l.drop i)=false:=by rw[drop_end (by omega)];rfl
theorem hasP_step {p q:Pr} {l:List Pr} {i:Nat} (h:l[i]? = some q):hasP p (l.drop i)=if p.pb=q.pb then true else hasP p (l.drop (i+1)):=by rw[drop_get h];rfl
theorem any_step {a b:List Pr} {i j:Nat} {p q:Pr} (h:a[i]? = some p) (k:b[j]? = some q):hasP (a.getD i {name:=[],value:=[]}) (b.drop j)=(decide (p.pb=q.pb) || hasP (a.getD i {name:=[],value:=[]}) (b.drop (j+1))):=by
  rw[pr_getD h,hasP_step k];by_cases e:p.pb=q.pb <;> simp[e]
def allIn (b:List Pr):List Pr→Bool
  | []=>true
  | p :: r=>if hasP p b=true then allIn b r else false
theorem allIn_end {b l:List Pr} {i:Nat} (h:¬i<l.length):allIn b (l.drop i)=true:=by rw[drop_end (by omega)];rfl
theorem allIn_step {b l:List Pr} {i:Nat} {p:Pr} (h:l[i]? = some p):allIn b (l.drop i)=if hasP p b=true then allIn b (l.drop (i+1))else false:=by rw[drop_get h];rfl
theorem allIn_stepD {b l:List Pr} {i:Nat} (h:i<l.length):allIn b (l.drop i)=if hasP (l.getD i {name:=[],value:=[]}) b=true then allIn b (l.drop (i+1))else false:=by
  have e:l[i]? = some (l[i]'h):=List.getElem?_eq_getElem h
  rw[allIn_step e,pr_getD e]
theorem pb_inj {p q:Pr}:p.pb=q.pb↔p=q:=by
  cases p;cases q;simp[Pr.pb]
theorem hasP_iff {p:Pr} {l:List Pr}:hasP p l=true↔p∈l:=by
  induction l with
  | nil=>simp[hasP]
  | cons q r ih =>
    unfold hasP
    split
    · rename_i h;rw[pb_inj]at h;simp[h]
    · rename_i h;rw[pb_inj]at h;simp[h,ih]
end Go.Wk
namespace Go.Wk
open Go Go.RowKit
section
variable {P:Program} {ops:Array Oper} {Q:Exit→Act→World→Prop} {rest:List Oper}
variable {n:Nat} {A:Fr n} {D:List Deferred} {l:List (Nat × Value)} {w:World}
variable {d:Tmp} {op:Op} {ty:TypeId} {ps:String} {af:Array Edge} {g:Option (Nat × Bool)}
end
section
variable {P:Program} {n:Nat} {A:Fr n} {D:List Deferred} {l:List (Nat × Value)} {w:World} {d:Option Tmp} {ty:TypeId} {ps:String} {af:Array Edge} {g:Option (Nat × Bool)}
theorem r_eqlSN {x:Operand} {t u e:TypeId} {a:Option Addr} {m c:Nat} (hx:ev n l x=some (.slice a m c)) (hT:P.underlying t=some (.slice e)) :
    RunV P ⟨d,.binOp .eql t x (.const (.slice none 0 0)) u,ty,ps,af,g⟩ (over A D l).eval w (.bool a.isNone):=by
  have h:=Go.Lib.run_eql_slice_nil (P:=P) w t e a m c 0 0 hT
  have B:(over A D l).eval (.const (.slice none 0 0)) = .slice none 0 0:=rfl
  have C:(eqGuard .eql t x (.const (.slice none 0 0)) (.slice a m c) (.slice none 0 0)).run P w = .ok () w:=by unfold eqGuard;simp
  simp[RunV,execOp,ev_eval hx,B,C,h]
end
section
variable {w w':World} {b cap:Nat} {xs:List Pr}
end
end Go.Wk
namespace Go.Wk
open Go Go.RowKit
theorem shl_or {v:Nat} {x:UInt8} (h:v<72057594037927936):v*2 ^ 8%18446744073709551616 ||| x.toNat=x.toNat+256*v:=by
  have A:=UInt8.toNat_lt x
  rw[Nat.mod_eq_of_lt (by omega),Nat.mul_comm,← Nat.two_pow_add_eq_or_of_lt (by simpa using A)]
  omega
theorem getF_at {l:Ly} {a k:Nat} (hk:k=4∨k=8) (h:a+k≤l.length):getF l a k=(leN ((l.drop a).take k),true):=by
  unfold getF
  rw[if_pos ⟨by rw[sizeOk_iff];omega,by omega,by omega⟩];simp
def at4 (l:Ly) (a:Nat):Nat:=leN ((l.drop a).take 4)
def at8 (l:Ly) (a:Nat):Nat:=leN ((l.drop a).take 8)
theorem at4_lt (l:Ly) (a:Nat):at4 l a<4294967296:=leN_lt_of (k:=4) (by simp;omega)
theorem at8_lt (l:Ly) (a:Nat):at8 l a<18446744073709551616:=leN_lt_of (k:=8) (by simp;omega)
section
variable {P:Program} {ops:Array Oper} {Q:Exit→Act→World→Prop} {rest:List Oper}
variable {n:Nat} {A:Fr n} {D:List Deferred} {l:List (Nat × Value)} {w:World}
variable {d:Tmp} {op:Op} {ty:TypeId} {ps:String} {af:Array Edge} {g:Option (Nat × Bool)}
theorem st_callV {f:FuncId} {c:Operand} {xs:List Operand} {ts:Array TypeId} {vs cs:List Value} {R:Ending→World→Prop} (hc:ev n l c=some (.func (.func f) #[] cs.toArray)) (hf:isFn P f=true) (ha:evs n l xs=some vs) (hr:Calls P f (vs ++ cs).toArray w R)
    (k:∀e w',R e w'→∃v,e = .returned v∧wpList P ops Q rest (over A D ((d,v) :: l)) w') :
    wpList P ops Q (⟨some d,.call {callee:=.value c,args:=xs.toArray,argTypes:=ts},ty,ps,af,none⟩ :: rest) (over A D l) w:=by
  refine wl_plain q ?_
  unfold Oper.wp
  have E:=evs_eval (A:=A) (D:=D) ha
  have B:(execOp (over A D l).eval ⟨some d,.call {callee:=.value c,args:=xs.toArray,argTypes:=ts},ty,ps,af,none⟩).run P w = .ok (.enter f (vs ++ cs).toArray) w:=by
    simp only[execOp,resolve,ev_eval hc,Deferred.ofValue,List.map_toArray,E]
    simp[invoke,run_callFunc hf]
  rw[B]
  refine hr.mono fun e w' C=>?_
  obtain⟨v,rfl,hk⟩:=k e w' C
  exact hk
theorem r_makeFunc {f:FuncId} {x:Operand} {v:Value} {d':Option Tmp} (hx:ev n l x=some v) :
    RunV P ⟨d',.makeFunc (.func f) #[] #[x],ty,ps,af,g⟩ (over A D l).eval w (.func (.func f) #[] #[v]):=by
  simp[RunV,execOp,ev_eval hx,Instr.makeFunc]
end
def z16:List UInt8:=List.replicate 16 0
def headUp (b:Ly) (c i k j:Nat):PHead :=
  {compat:=c,incompat:=i,state:=(b.getD 16 0).toNat,file:=if 0<k then(b.drop 24).take 16 else z16,machine:=if 1<k then(b.drop 40).take 16 else z16,boot:=if 2<k then(b.drop 56).take 16 else z16,seq:=if 3<k then(b.drop 72).take 16 else z16,
    n:=(List.range 21).map fun q=>if q<j then at8 b (88+8*q)else 0,tailArray:=0,tailItems:=0,tailEntry:=0}
def parseF (b:Ly):PHead:={headUp b (at4 b 8) (at4 b 12) 4 21 with tailArray:=at4 b 256,tailItems:=at4 b 260,tailEntry:=at8 b 264}
theorem take16 {b:Ly} {o:Nat} (h:o+16≤b.length):((b.drop o).take 16).length=16:=by simp;omega
theorem idc_splice {x:Ly} (h:x.length=16) (a c:List Value) (z:Ly):splice (a ++ (idc z ++ c)) a.length (x.map b8)=a ++ (idc x ++ c):=by
  unfold splice
  have B:(idc z).length=16:=rfl
  have A:(x.map b8).length=16:=by simp[h]
  rw[List.take_left,A,← List.append_assoc a,List.drop_left' (by simp[B]),← idc_map h,List.append_assoc]
theorem ids_step {b:Ly} {c i k:Nat} (hk:k<4) (hl:272≤b.length):splice (PHead.cells (headUp b c i k 0)) (3+k*16) (((b.drop (24+16*k)).take 16).map b8)=PHead.cells (headUp b c i (k+1) 0):=by
  have A:((b.drop (24+16*k)).take 16).length=16:=take16 (by omega)
  rcases(show k=0∨k=1∨k=2∨k=3 by omega)with rfl|rfl|rfl|rfl
  · exact idc_splice A [.int .u32 c,.int .u32 i,.int .i64 (((b.getD 16 0).toNat:Nat):Int)] _ z16
  · exact idc_splice A ([.int .u32 c,.int .u32 i,.int .i64 (((b.getD 16 0).toNat:Nat):Int)] ++ idc ((b.drop 24).take 16)) _ z16
  · exact idc_splice A ([.int .u32 c,.int .u32 i,.int .i64 (((b.getD 16 0).toNat:Nat):Int)] ++ idc ((b.drop 24).take 16) ++ idc ((b.drop 40).take 16)) _ z16
  exact idc_splice A ([.int .u32 c,.int .u32 i,.int .i64 (((b.getD 16 0).toNat:Nat):Int)] ++ idc ((b.drop 24).take 16) ++ idc ((b.drop 40).take 16) ++ idc ((b.drop 56).take 16)) _ z16
theorem head_set {h:PHead} {j v:Nat} (hn:h.n.length=21) (hj:j<21):(PHead.cells h).set (67+j) (.int .u64 v)=PHead.cells {h with n:=h.n.set j v}:=by
  have e:∀(m:List Nat) (t:PHead),t.n=m→PHead.cells t=([(.int .u32 t.compat)] ++ ([(.int .u32 t.incompat)] ++ ([(.int .i64 t.state)] ++ ((idc t.file) ++ ((idc t.machine) ++ ((idc t.boot) ++ (idc t.seq))))))) ++ (nums21 m ++ ([(.int .u32 t.tailArray)] ++ ([(.int .u32 t.tailItems)] ++ [(.int .u64 t.tailEntry)]))):=by
    intro m t C;subst C;simp only[PHead.cells,List.append_assoc]
  rw[e h.n h q,e (h.n.set j v) {h with n:=h.n.set j v} q,nums21_set hn hj]
  have B:([(.int .u32 h.compat)] ++ ([(.int .u32 h.incompat)] ++ ([(.int .i64 h.state)] ++ ((idc h.file) ++ ((idc h.machine) ++ ((idc h.boot) ++ (idc h.seq)))))):List Value).length=67:=rfl
  have A:(nums21 h.n).length=21:=rfl
  rw[List.set_append_right _ _ (by omega),B,Nat.add_sub_cancel_left,List.set_append_left _ _ (by omega)]
theorem n_step {b:Ly} {j:Nat} (hj:j<21):((List.range 21).map fun q=>if q<j then at8 b (88+8*q)else 0).set j (at8 b (88+8*j))=(List.range 21).map fun q=>if q<j+1 then at8 b (88+8*q)else 0:=by
  apply List.ext_getElem
  · simp
  intro q A B
  simp at A
  by_cases h:q=j
  · subst h;simp
  rw[List.getElem_set_ne (Ne.symm h)]
  simp only[List.getElem_map,List.getElem_range]
  by_cases h3:q<j
  · rw[if_pos h3,if_pos (by omega)]
  rw[if_neg h3,if_neg (by omega)]
theorem long_step {b:Ly} {c i j:Nat} (hj:j<21):(PHead.cells (headUp b c i 4 j)).set (67+j) (.int .u64 ((at8 b (88+8*j):Nat):Int))=PHead.cells (headUp b c i 4 (j+1)):=by
  rw[head_set (by simp[headUp]) hj]
  unfold headUp
  simp only[n_step hj]
theorem parse_ok {b:Ly} (h:272≤b.length):PHead.ok (parseF b):=by
  refine⟨at4_lt _ _,at4_lt _ _,?_,take16 (by omega),take16 (by omega),take16 (by omega),take16 (by omega),⟨by simp[parseF,headUp],?_⟩,at4_lt _ _,at4_lt _ _,at8_lt _ _⟩
  · have:=UInt8.toNat_lt (b.getD 16 0);show(b.getD 16 0).toNat<_;omega
  intro y A
  simp only[parseF,headUp,List.mem_map,List.mem_range]at A
  obtain⟨q,B,rfl⟩:=A
  rw[if_pos B];exact at8_lt _ _
def ptrs (b o sz:Nat) (n:Nat):List Value:=(List.range n).map fun k=>.pointer (some ⟨b,o+k*sz,none⟩)
theorem ptrs_get {b o sz n k:Nat} (h:k<n):(ptrs b o sz n)[k]? = some (.pointer (some ⟨b,o+k*sz,none⟩)):=by
  simp[ptrs,h]
end Go.Wk
namespace Go.Wk
open Go Go.RowKit
def andNot (a b:Nat):Nat:=(BitVec.ofNat 32 a &&& ~~~(BitVec.ofNat 32 b)).toNat
section
variable {P:Program} {n:Nat} {A:Fr n} {D:List Deferred} {l:List (Nat × Value)} {w:World} {d:Option Tmp} {ty:TypeId} {ps:String} {af:Array Edge} {g:Option (Nat × Bool)}
theorem r_andNotN {x y:Operand} {t u:TypeId} {a b:Nat} (L:Nat) (hL:lim .u32=L) (hk:IntKind.u32.signed=false) (hx:ev n l x=some (.int .u32 (a:Int))) (hy:ev n l y=some (.int .u32 (b:Int))) (h:a<L∧b<L) :
    RunV P ⟨d,.binOp .andNot t x y u,ty,ps,af,g⟩ (over A D l).eval w (.int .u32 ((andNot a b:Nat):Int)):=(r_andNot hx hy).castI (by
  unfold bits andNot
  simp only[BitVec.ofInt_natCast]
  exact wrapN .u32 _ (show(BitVec.ofNat 32 a &&& ~~~(BitVec.ofNat 32 b)).toNat<4294967296 from(BitVec.ofNat 32 a &&& ~~~(BitVec.ofNat 32 b)).isLt))
end
def hz0:PHead:={compat:=0,incompat:=0,state:=0,file:=idZ,machine:=idZ,boot:=idZ,seq:=idZ,n:=List.replicate 21 0,tailArray:=0,tailItems:=0,tailEntry:=0}
def signF:List UInt8:=[76,80,75,83,72,72,82,72]
def prefF (b p:Ly):Bool:=if p.length≤b.length then decide (b.take p.length=p)else false
def endF (h:PHead):Nat × Bool:=if(h.n.getD 0 0+h.n.getD 1 0)%18446744073709551616<h.n.getD 0 0 then(0,false)else((h.n.getD 0 0+h.n.getD 1 0)%18446744073709551616,true)
def tableF (h:PHead) (at_ size end_:Nat):Nat :=
  if at_%8≠0 then 3
  else if size=0∨size%16≠0 then 5
  else if at_<h.n.getD 0 0∨at_-h.n.getD 0 0<16∨end_<at_∨end_-at_<size then 2 else 0
def amissF (h:PHead) (len:Nat):Nat :=
  if andNot h.incompat 4≠0 then 7
  else if 2<h.state then 8
  else if h.n.getD 0 0<272∨h.n.getD 0 0%8≠0∨h.n.getD 1 0%8≠0 then 5
  else if(endF h).2=false∨len<(endF h).1 then 2
  else if tableF h (h.n.getD 2 0) (h.n.getD 3 0) (endF h).1≠0 then tableF h (h.n.getD 2 0) (h.n.getD 3 0) (endF h).1
  else tableF h (h.n.getD 4 0) (h.n.getD 5 0) (endF h).1
def readF (b:Ly):PHead × Nat :=
  if b.length<272 then(hz0,22)
  else if prefF b signF=false then(hz0,6)
  else if amissF (parseF b) b.length≠0 then(hz0,amissF (parseF b) b.length)else(parseF b,0)
theorem amiss_at {h:PHead} {len r:Nat} {s:Bool} (he:endF h=(r,s)):amissF h len=(if andNot h.incompat 4≠0 then 7 else if 2<h.state then 8 else if h.n.getD 0 0<272∨h.n.getD 0 0%8≠0∨h.n.getD 1 0%8≠0 then 5
    else if s=false∨len<r then 2 else if tableF h (h.n.getD 2 0) (h.n.getD 3 0) r≠0 then tableF h (h.n.getD 2 0) (h.n.getD 3 0) r else tableF h (h.n.getD 4 0) (h.n.getD 5 0) r):=by
  unfold amissF;rw[he]
theorem readF_no {b:Ly} {h:PHead} {p:Bool} {c:Nat} (h1:¬b.length<272) (h2:prefF b [76,80,75,83,72,72,82,72]=p) (h3:¬p=false) (h4:parseF b=h) (h5:amissF h b.length=c) (h6:c≠0):readF b=(hz0,c):=by
  subst h4;subst h5
  unfold readF;rw[if_neg h1,if_neg (by rw[show signF=[76,80,75,83,72,72,82,72]from rfl,h2];exact h3),if_pos h6]
theorem readF_ok {b:Ly} {h:PHead} {p:Bool} (h1:¬b.length<272) (h2:prefF b [76,80,75,83,72,72,82,72]=p) (h3:¬p=false) (h4:parseF b=h) (h5:amissF h b.length=0):readF b=(h,0):=by
  subst h4
  unfold readF;rw[if_neg h1,if_neg (by rw[show signF=[76,80,75,83,72,72,82,72]from rfl,h2];exact h3),if_neg (by omega)]
theorem readF_short {b:Ly} (h:b.length<272):readF b=(hz0,22):=by unfold readF;rw[if_pos h]
theorem readF_sign {b:Ly} (h1:¬b.length<272) (h2:prefF b [76,80,75,83,72,72,82,72]=false):readF b=(hz0,6):=by unfold readF;rw[if_neg h1,if_pos (show prefF b signF=false from h2)]
def Po {α:Type} (T:Dt α) (ty:TypeId) (w:World) (Q:Nat→Prop) (v:Value):Option α→Prop
  | none=>v = .pointer none
  | some x=>Pt T ty w Q v x
section
variable {α:Type} {T:Dt α} {ty:TypeId} {w w':World} {Q Q':Nat→Prop} {v:Value} {ox:Option α}
variable {P:Program} {n:Nat} {A:Fr n} {D:List Deferred} {l:List (Nat × Value)} {d:Option Tmp} {ty2:TypeId} {ps:String} {af:Array Edge} {g:Option (Nat × Bool)}
theorem Po.ptr (h:Po T ty w Q v ox):∃p,v = .pointer p∧p.isNone=ox.isNone:=by
  cases ox with
  | none=>exact⟨none,h,q⟩
  | some x=>obtain⟨b,c,rfl,_⟩:=h;exact⟨_,q,q⟩
theorem r_eqlPO {x:Operand} {t u e:TypeId} (h:Po T ty w Q v ox) (hx:ev n l x=some v) (hT:P.underlying t=some (.pointer e)) :
    RunV P ⟨d,.binOp .eql t x (.const (.pointer none)) u,ty2,ps,af,g⟩ (over A D l).eval w (.bool ox.isNone):=by
  obtain⟨p,rfl,B⟩:=h.ptr
  have F:P.underlying t=some (.pointer (P.pointee t)):=by rw[hT];simp[Program.pointee,hT]
  have h:=run_eql_pointer_nil (P:=P) w t p F
  have C:(over A D l).eval (.const (.pointer none)) = .pointer none:=rfl
  have E:(eqGuard .eql t x (.const (.pointer none)) (.pointer p) (.pointer none)).run P w = .ok () w:=by unfold eqGuard;simp
  simp[RunV,execOp,ev_eval hx,C,E,h,← B]
end
def openF (b:Ly):Option PView × Nat:=if(readF b).2≠0 then(none,(readF b).2)else(some {b:=b.take (endF (readF b).1).1,h:=(readF b).1},0)
theorem read_fine {b:Ly} {h:PHead} (hr:readF b=(h,0)):272≤b.length∧parseF b=h∧amissF h b.length=0:=by
  unfold readF at hr
  split at hr
  · have:=congrArg Prod.snd hr;simp at this
  rename_i h1
  split at hr
  · have:=congrArg Prod.snd hr;simp at this
  split at hr
  · rename_i h2;have:=congrArg Prod.snd hr;exact absurd this h2
  rename_i h2
  have e:=congrArg Prod.fst hr
  simp only at e
  subst e
  exact⟨by omega,q,by omega⟩
theorem read_end {b:Ly} {h:PHead} {e:Nat} {s:Bool} (hr:readF b=(h,0)) (he:endF h=(e,s)):e≤b.length∧s=true:=by
  obtain⟨_,_,A⟩:=read_fine hr
  rw[amiss_at he]at A
  split at A
  · omega
  split at A
  · omega
  split at A
  · omega
  split at A
  · omega
  rename_i h4;rw[not_or]at h4
  exact⟨by omega,by simpa using h4.1⟩
end Go.Wk
namespace Go.Wk
open Go Go.RowKit
section
variable {P:Program} {n:Nat} {A:Fr n} {D:List Deferred} {l:List (Nat × Value)} {w:World} {ops:Array Oper} {rest:List Oper} {Q:Exit→Act→World→Prop}
variable {d:Tmp} {op:Op} {ty:TypeId} {ps:String} {af:Array Edge}
theorem mv {x:Operand} {v:Value} (h:ev n l x=some v) (k:wpList P ops Q rest (over A D ((d,v) :: l)) w):wpList P ops Q (⟨some d,.move x,ty,ps,af,none⟩ :: rest) (over A D l) w:=st v (r_move h) k
theorem asg {x:Operand} {v:Value} (h:ev n l x=some v) (k:wpList P ops Q rest (over A D ((d,v) :: l)) w):wpList P ops Q (⟨some d,.assign x,ty,ps,af,none⟩ :: rest) (over A D l) w:=st v (r_assign h) k
theorem nt {K:Act→World→Prop} {a:Act} (h:K a w):wpList P ops (Exit.then K Q) [] a w:=st_nil (c_then h)
theorem mz {C:World→Prop} {QN:Act→World→Prop} {rest:List (Bool × Oper)} {v:Value} (hr:∀w',C w'→RunV P ⟨some d,op,ty,ps,af,none⟩ (over A D l).eval w' v) (k:wpMix P ops C QN rest (over A D ((d,v) :: l)) w):wpMix P ops C QN ((true,⟨some d,op,ty,ps,af,none⟩) :: rest) (over A D l) w:=Go.Wk.m v hr k
theorem sk {j t:Nat} {o:Oper} {b want:Bool} (hb:b = !want) (k:wpList P ops Q rest (over A D ((d,undef) :: l)) w) (ho:ops[j]? = some o:=by rfl) (ht:o.dst=some t:=by rfl) (hy:ev n l (.tmp t)=some (.bool b):=by rfl) :
    wpList P ops Q (⟨some d,op,ty,ps,af,some (j,want)⟩ :: rest) (over A D l) w:=st_skip ho ht hy hb k
theorem sg {j t:Nat} {o:Oper} {b want:Bool} {v:Value} (hb:b=want) (hr:RunV P ⟨some d,op,ty,ps,af,some (j,want)⟩ (over A D l).eval w v) (k:wpList P ops Q rest (over A D ((d,v) :: l)) w) (ho:ops[j]? = some o:=by rfl) (ht:o.dst=some t:=by rfl) (hy:ev n l (.tmp t)=some (.bool b):=by rfl) :
    wpList P ops Q (⟨some d,op,ty,ps,af,some (j,want)⟩ :: rest) (over A D l) w:=st_g v ho ht hy hb hr k
theorem sf {x:Operand} {s:TypeId} {f b o off:Nat} (hx:ev n l x=some (.pointer (some ⟨b,o,none⟩))) (hf:fieldOff P s f=some off) (k:wpList P ops Q rest (over A D ((d,.pointer (some ⟨b,o+off,none⟩)) :: l)) w):wpList P ops Q (⟨some d,.fieldAddr s x f,ty,ps,af,none⟩ :: rest) (over A D l) w:=st _ (r_field hx hf) k
theorem sl {x:Operand} {t ty':TypeId} {b j:Nat} {cs:List Value} {u:Value} (hx:ev n l x=some (.pointer (some ⟨b,j,none⟩))) (hT:isOne P t=true) (hB:Blk w b cs ty') (hj:cs[j]? = some u) (k:wpList P ops Q rest (over A D ((d,u) :: l)) w):wpList P ops Q (⟨some d,.load t x,ty,ps,af,none⟩ :: rest) (over A D l) w:=st _ (r_loadBlk hx hT hB hj) k
theorem sn {x:Operand} {p:Addr} (h:ev n l x=some (.pointer (some p))) (k:wpList P ops Q rest (over A D ((d,.pointer (some p)) :: l)) w):wpList P ops Q (⟨some d,.nilCheck x,ty,ps,af,none⟩ :: rest) (over A D l) w:=st _ (r_nil h) k
theorem se {x:Operand} {i:Nat} {vs:Array Value} {v:Value} (h:ev n l x=some (.tuple vs)) (hv:vs[i]? = some v) (k:wpList P ops Q rest (over A D ((d,v) :: l)) w):wpList P ops Q (⟨some d,.extract x i,ty,ps,af,none⟩ :: rest) (over A D l) w:=st _ (r_extract h hv) k
theorem sL {x:Operand} {v:Value} {m:Nat} {t e:TypeId} (hx:ev n l x=some v) (hT:P.underlying t=some (.slice e)) (hS:Shp v m) (k:wpList P ops Q rest (over A D ((d,.int .i64 m) :: l)) w):wpList P ops Q (⟨some d,.call {callee:=.builtin .len,args:=#[x],argTypes:=#[t]},ty,ps,af,none⟩ :: rest) (over A D l) w:=st _ (r_len hx hT hS) k
theorem mo {C:World→Prop} {QN:Act→World→Prop} {rest:List (Bool × Oper)} {x:Operand} {v:Value} (h:ev n l x=some v) (k:wpMix P ops C QN rest (over A D ((d,v) :: l)) w):wpMix P ops C QN ((true,⟨some d,.move x,ty,ps,af,none⟩) :: rest) (over A D l) w:=Go.Wk.m v (fun _ _=>r_move h) k
theorem ns {id:Nat} {lo:List Oper} {y:Code} {a:Act} (h:wpList P lo.toArray (Exit.then (fun a w=>y.wp P Q a w) Q) lo a w):(Code.seq (.region id lo.toArray false) y).wp P Q a w:=c_seq (c_region h)
theorem an {x:Operand} {v:Value} {K:Act→World→Prop} (h:ev n l x=some v) (k:K (over A D ((d,v)::l)) w):wpList P ops (Exit.then K Q) [⟨some d,.assign x,ty,ps,af,none⟩] (over A D l) w:=asg h (nt k)
theorem ar {x:Operand} {v:Value} {R:Exit→Act→World→Prop} (h:ev n l x=some v) (k:R .ret (over A D ((d,v)::l)) w):wpList P ops (Exit.then (fun a w=>Code.ret.wp P R a w) Q) [⟨some d,.assign x,ty,ps,af,none⟩] (over A D l) w:=asg h (nt (c_ret k))
theorem m2 {x y:Operand} {v u:Value} {e:Tmp} {ty' ps' af'} (h:ev n l x=some v) (h2:ev n ((d,v)::l) y=some u) (k:wpList P ops Q rest (over A D ((e,u)::(d,v)::l)) w):wpList P ops Q (⟨some d,.move x,ty,ps,af,none⟩::⟨some e,.move y,ty',ps',af',none⟩::rest) (over A D l) w:=mv h (mv h2 k)
theorem nm {id:Nat} {lo:List Oper} {y:Code} {x:Operand} {v:Value} (h:ev n l x=some v) (k:wpList P (⟨some d,.move x,ty,ps,af,none⟩::lo).toArray (Exit.then (fun a w=>y.wp P Q a w) Q) lo (over A D ((d,v)::l)) w):(Code.seq (.region id (⟨some d,.move x,ty,ps,af,none⟩::lo).toArray false) y).wp P Q (over A D l) w:=ns (mv h k)
theorem rv {v:Value} {p:Value→Prop} (h:p v):∃u,Ending.returned v=.returned u∧p u:=⟨v,q,h⟩
theorem rA {d:Option Tmp} {g:Option (Nat × Bool)} {x y:Operand} {t u:TypeId} {a b:Nat} (hx:ev n l x=some (.int .i64 (a:Int))) (hy:ev n l y=some (.int .i64 (b:Int))) (h:a+b<9223372036854775808):RunV P ⟨d,.binOp .add t x y u,ty,ps,af,g⟩ (over A D l).eval w (.int .i64 ((a+b:Nat):Int)):=r_addN 9223372036854775808 q hx hy h
theorem rS {d:Option Tmp} {g:Option (Nat × Bool)} {x y:Operand} {t u:TypeId} {a b:Nat} (hx:ev n l x=some (.int .i64 (a:Int))) (hy:ev n l y=some (.int .i64 (b:Int))) (h:b≤a∧a<9223372036854775808):RunV P ⟨d,.binOp .sub t x y u,ty,ps,af,g⟩ (over A D l).eval w (.int .i64 ((a-b:Nat):Int)):=r_subN 9223372036854775808 q hx hy h
abbrev SN:Value:=.slice none 0 0
theorem tT {Q R S:Nat→Prop} (a:∀b,Q b→R b) (c:∀b,S b→Q b):∀b,S b→R b:=fun b h=>a b (c b h)
theorem sS {S:List Nat} {u w:World} {Q R T:Nat→Prop} (a:∀b,R b→b<w.heap.size→T b) (c:∀b,Q b→b<u.heap.size→R b) (M:Md S u w):∀b,Q b→b<u.heap.size→T b:=fun b h hl=>a b (c b h hl) (Nat.lt_of_lt_of_le hl M.size)
theorem nQ {Q R:Nat→Prop} {b:Nat} (h:¬Q b) (c:∀b,R b→Q b):¬R b:=fun x=>h (c _ x)
theorem rF {α:Type} {T:Dt α} {e:TypeId} {lo:Nat→Prop} {w:World} {Q:Nat→Prop} {v:Value} {xs:List α} (h:Ow T e lo w Q v xs):∀i∈(vblock v).toList,lo i:=all_row fun x hx=>(h.2 x hx).1
theorem rN {α:Type} {T:Dt α} {e:TypeId} {lo:Nat→Prop} {w:World} {Q:Nat→Prop} {v:Value} {xs:List α} (h:Ow T e lo w Q v xs):∀i∈(vblock v).toList,¬Q i:=all_row fun x hx=>(h.2 x hx).2
theorem hI {p:Nat→Prop} {b:Nat} (h:p b):∀x∈[b],p x:=by intro x hx;simp at hx;subst hx;exact h
end
end Go.Wk
namespace Go.Wk
open Go Go.RowKit
structure Stop where
  code:Nat
def Stop.cells (x:Stop):List Value :=
  [(.int .i64 x.code)]
structure Frm where
  kind:Nat
  flags:Nat
  size:Nat
def Frm.cells (x:Frm):List Value :=
  [(.int .i64 x.kind)] ++ ([(.int .i64 x.flags)] ++ ([(.int .u64 x.size)]))
def Frm.ok (x:Frm):Prop:=x.kind<9223372036854775808∧x.flags<9223372036854775808∧x.size<18446744073709551616
theorem Frm.one {x:Frm}:(x.cells).all (fun u=>u.oneCell')=true:=(ones_app q (ones_app q q))
def fr0:Frm:={kind:=0,flags:=0,size:=0}
def byteAt (b:Ly) (p:Nat):Nat:=(b.getD p 0).toNat
theorem byteAt_of {b:Ly} {p:Nat} {x:UInt8} (h:b[p]? = some x):byteAt b p=x.toNat:=by simp[byteAt,List.getD,h]
theorem at8_of {b:Ly} {p v:Nat} {s:Bool} {i:Int} (h:getF b i 8=(v,s)) (hi:i=(p:Int)) (hb:p+8≤b.length):at8 b p=v:=by
  subst hi;have A:=getF_at (k:=8) (.inr q) hb;rw[show((8:Nat):Int)=8 from rfl]at A;rw[A]at h;exact congrArg Prod.fst h
theorem byteAt_lt (b:Ly) (p:Nat):byteAt b p<256:=UInt8.toNat_lt _
def frameF (b:Ly) (p:Nat):Frm × Nat :=
  if p%8≠0 then(fr0,3)
  else if b.length<p∨b.length-p<16 then(fr0,2)
  else if byteAt b p<1∨7<byteAt b p then(fr0,4)
  else if byteAt b (p+1)≠0 then(fr0,7)
  else if at8 b (p+8)<16 then(fr0,5)
  else if b.length-p<at8 b (p+8)then(fr0,2)
  else({kind:=byteAt b p,flags:=0,size:=at8 b (p+8)},0)
theorem frame_al {b:Ly} {p:Nat} (h:p%8≠0):frameF b p=(fr0,3):=by unfold frameF;rw[if_pos h]
theorem frame_sh {b:Ly} {p:Nat} (h:¬p%8≠0) (h2:b.length<p∨b.length-p<16):frameF b p=(fr0,2):=by unfold frameF;rw[if_neg h,if_pos h2]
theorem frame_of {b:Ly} {p:Nat} {x y:UInt8} {z:Nat} {s:Frm} (es:s={kind:=x.toNat,flags:=y.toNat,size:=z}) (h:¬p%8≠0) (h2:¬(b.length<p∨b.length-p<16)) (e1:byteAt b p=x.toNat) (e2:byteAt b (p+1)=y.toNat) (e3:at8 b (p+8)=z) :
    frameF b p=if s.kind<1∨7<s.kind then(fr0,4)else if s.flags≠0 then(fr0,7)else if s.size<16 then(fr0,5)else if b.length-p<s.size then(fr0,2)else(s,0):=by
  subst es;unfold frameF;rw[if_neg h,if_neg h2,e1,e2,e3];by_cases hf:y.toNat=0
  · rw[hf]
  simp only[if_pos (show y.toNat≠0 from hf)]
theorem frame_fine {b:Ly} {p:Nat} {f:Frm} (h:frameF b p=(f,0)):16≤f.size∧p+f.size≤b.length∧f.kind<256∧f.flags=0:=by
  unfold frameF at h;have:=byteAt_lt b p
  repeat' split at h
  all_goals first|(have:=congrArg Prod.snd h;simp at this;done)|skip
  have:=congrArg Prod.fst h;simp only at this;subst this;refine⟨?_,?_,?_,q⟩ <;> (simp only;omega)
def dat0:Dat:={hash:=0,nextHash:=0,nextField:=0,entry:=0,array:=0,count:=0,payload:=[]}
def numsAt (b:Ly) (p n:Nat):List Nat:=(List.range n).map fun i=>at8 b (p+8*i)
theorem numsAt_len (b:Ly) (p n:Nat):(numsAt b p n).length=n:=by simp[numsAt]
theorem numsAt_succ (b:Ly) (p n:Nat):numsAt b p (n+1)=numsAt b p n ++ [at8 b (p+8*n)]:=by simp[numsAt,List.range_succ]
def readDatF (b:Ly) (p:Nat):Dat × Nat :=
  if(frameF b p).2≠0 then(dat0,(frameF b p).2)
  else if(frameF b p).1.kind≠1 then(dat0,4)
  else if(frameF b p).1.size≤64 then(dat0,5)
  else({hash:=at8 b (p+16),nextHash:=at8 b (p+24),nextField:=at8 b (p+32),entry:=at8 b (p+40),array:=at8 b (p+48),count:=at8 b (p+56),payload:=(b.drop (p+64)).take ((frameF b p).1.size-64)},0)
def datAt (s:Nat) (b:Ly) (p:Nat):Dat × Nat:=if p<s∨b.length≤p then(dat0,2)else readDatF b p
def inAt (s:Nat) (b:Ly) (p:Nat):Nat:=if p<s∨b.length≤p then 2 else 0
theorem frame_fine0 {b:Ly} {p c:Nat} {f:Frm} (h:frameF b p=(f,c)) (hc:¬c≠0):16≤f.size∧p+f.size≤b.length∧f.kind<256∧f.flags=0:=frame_fine (by rw[h,Classical.not_not.1 hc])
def bodyF (b:Ly) (p kind ahead item:Nat):List UInt8 × Nat :=
  if(frameF b p).2≠0 then([],(frameF b p).2)
  else if(frameF b p).1.kind≠kind then([],4)
  else if(frameF b p).1.size≤16+ahead∨((frameF b p).1.size-(16+ahead))%item≠0 then([],5)
  else((b.take (p+(frameF b p).1.size)).drop (p+16),0)
theorem bodyF_ok {b x:Ly} {p kind ahead item c:Nat} (h:bodyF b p kind ahead item=(x,c)) (hc:c=0):(frameF b p).2=0∧(frameF b p).1.kind=kind∧16+ahead<(frameF b p).1.size∧((frameF b p).1.size-(16+ahead))%item=0∧x=(b.take (p+(frameF b p).1.size)).drop (p+16)∧x.length=(frameF b p).1.size-16∧p+(frameF b p).1.size≤b.length:=by
  subst hc;unfold bodyF at h
  split at h
  · have:=congrArg Prod.snd h;simp at this;contradiction
  rename_i h1
  have A:16≤(frameF b p).1.size∧p+(frameF b p).1.size≤b.length∧(frameF b p).1.kind<256∧(frameF b p).1.flags=0:=frame_fine0 (f:=(frameF b p).1) (c:=(frameF b p).2) q h1
  split at h
  · have:=congrArg Prod.snd h;simp at this
  rename_i h2
  split at h
  · have:=congrArg Prod.snd h;simp at this
  rename_i h3
  rw[not_or]at h3;have e:=congrArg Prod.fst h;simp only at e;subst e;refine⟨by omega,by omega,by omega,by omega,q,?_,A.2.1⟩;simp only[List.length_drop,List.length_take];omega
theorem at8_sub {b:Ly} {o e i:Nat} (h:i+8≤e-o) (he:e≤b.length):at8 ((b.take e).drop o) i=at8 b (o+i):=by
  unfold at8
  congr 1
  apply List.ext_getElem?;intro j;simp only[List.getElem?_take,List.getElem?_drop];by_cases hj:j<8
  · rw[if_pos hj,if_pos hj,if_pos (show o+(i+j)<e by omega),Nat.add_assoc]
  rw[if_neg hj,if_neg hj]
theorem nums_sub {b:Ly} {o e n i:Nat} (h:i+8*n≤e-o) (he:e≤b.length):numsAt ((b.take e).drop o) i n=numsAt b (o+i) n:=by
  unfold numsAt
  apply List.map_congr_left;intro k hk;have:=List.mem_range.1 hk;rw[at8_sub (by omega) he,Nat.add_assoc]
theorem numsAt_step {b:Ly} {l:List Nat} {i v:Nat} {s:Bool} (hl:l=numsAt b 0 (i/8)) (hi:i%8=0) (hb:i+8≤b.length) (h:getF b (i:Int) 8=(v,s)):l ++ [v]=numsAt b 0 ((i+8)/8):=by
  rw[show(i+8)/8=i/8+1 by omega,numsAt_succ,hl,← at8_of h q hb]
  congr 3
  omega
theorem dat_in {s p c:Nat} {b:Ly} (h:inAt s b p=c) (hc:c≠0):(datAt s b p).2=c:=by
  unfold inAt at h;unfold datAt
  split at h
  · rename_i h1;rw[if_pos h1];exact h
  exact absurd h.symm hc
theorem dat_at {s p c:Nat} {b:Ly} {x:Dat} (h0:inAt s b p=0) (h:readDatF b p=(x,c)):datAt s b p=(x,c):=by
  unfold inAt at h0;unfold datAt
  split at h0
  · cases h0
  rename_i h1;rw[if_neg h1];exact h
theorem readDat_z (b:Ly) (p:Nat) (h:(readDatF b p).2≠0):(readDatF b p).1=dat0:=by
  unfold readDatF at h ⊢
  split
  · rfl
  split
  · rfl
  split
  · rfl
  rename_i h1 h2 h3;rw[if_neg h1,if_neg h2,if_neg h3]at h;exact absurd q h
theorem dat_no {s p c:Nat} {b:Ly} (h:(datAt s b p).2=c) (hc:c≠0):datAt s b p=(dat0,c):=by
  refine Prod.ext ?_ h;rw[← h]at hc;unfold datAt at hc ⊢
  split
  · rfl
  rename_i h1;rw[if_neg h1]at hc;exact readDat_z b p hc
def readObjF (b:Ly) (p kind n:Nat):List Nat × List UInt8 × Nat :=
  if(frameF b p).2≠0 then([],[],(frameF b p).2)
  else if(frameF b p).1.kind≠kind then([],[],4)
  else if(frameF b p).1.size≤16+8*n then([],[],5)
  else(numsAt b (p+16) n,(b.drop (p+16+8*n)).take ((frameF b p).1.size-(16+8*n)),0)
theorem readObj_end {b:Ly} {p n c:Nat} {f:Frm} {l:List Nat} {kind:Nat} (h:frameF b p=(f,c)) (hc:¬c≠0) (h2:¬f.kind≠kind) (h3:¬f.size≤16+8*n) (hl:l=numsAt ((b.take (p+f.size)).drop (p+16)) 0 n):readObjF b p kind n=(l,((b.take (p+f.size)).drop (p+16)).drop (8*n),0):=by
  have A:=frame_fine0 h hc;unfold readObjF;rw[h];simp only;rw[if_neg hc,if_neg h2,if_neg h3,hl,nums_sub (by omega) A.2.1];refine Prod.ext q (Prod.ext ?_ q);simp only
  apply List.ext_getElem?;intro j;simp only[List.getElem?_take,List.getElem?_drop];by_cases hj:j<f.size-(16+8*n)
  · rw[if_pos hj,if_pos (by omega)];congr 1;omega
  rw[if_neg hj,if_neg (by omega)]
theorem numsAt_step1 {b:Ly} {l:List Nat} {i v:Nat} {s:Bool} (hl:l=numsAt b 0 i) (hb:8*i+8≤b.length) (h:getF b ((8*i:Nat):Int) 8=(v,s)):l ++ [v]=numsAt b 0 (i+1):=by
  rw[numsAt_succ,hl,← at8_of h q hb,Nat.zero_add]
theorem readDat_of {b x:Ly} {p c:Nat} {l:List Nat} (h:readObjF b p 1 6=(l,x,c)):(c≠0→readDatF b p=(dat0,c))∧(¬c≠0→l.length=6∧readDatF b p=({hash:=l.getD 0 0,nextHash:=l.getD 1 0,nextField:=l.getD 2 0,entry:=l.getD 3 0,array:=l.getD 4 0,count:=l.getD 5 0,payload:=x},0)):=by
  unfold readObjF at h;unfold readDatF
  split at h
  · rename_i h1
    simp only[Prod.mk.injEq]at h;refine⟨fun _=>by rw[if_pos h1,h.2.2],fun A=>absurd (h.2.2 ▸ h1) A⟩
  rename_i h1
  rw[if_neg h1]
  split at h
  · rename_i h2
    simp only[Prod.mk.injEq]at h;exact⟨fun _=>by rw[if_pos h2,h.2.2],fun A=>absurd (h.2.2 ▸ (by decide:(4:Nat)≠0)) A⟩
  rename_i h2
  rw[if_neg h2]
  split at h
  · rename_i h3
    simp only[Prod.mk.injEq]at h;exact⟨fun _=>by rw[if_pos (by omega),h.2.2],fun A=>absurd (h.2.2 ▸ (by decide:(5:Nat)≠0)) A⟩
  rename_i h3
  simp only[Prod.mk.injEq]at h;obtain⟨rfl,rfl,rfl⟩:=h;refine⟨fun A=>absurd q A,fun _=>⟨numsAt_len _ _ _,?_⟩⟩;rw[if_neg (by omega)];simp[numsAt,List.range_succ]
end Go.Wk
namespace Go.Wk
open Go Go.RowKit
def rh0:RHead:={compat:=0,incompat:=0,state:=0,file:=idZ,machine:=idZ,boot:=idZ,seq:=idZ,n:=List.replicate 20 0,tailArray:=0,tailItems:=0,tailEntry:=0}
end Go.Wk
namespace Go.Wk
open Go Go.RowKit
end Go.Wk
namespace Go.Wk
open Go Go.RowKit
def fld0:Fld:={hash:=0,nextHash:=0,dat:=0,payload:=[]}
def readFldF (b:Ly) (p:Nat):Fld × Nat :=
  if(frameF b p).2≠0 then(fld0,(frameF b p).2)
  else if(frameF b p).1.kind≠2 then(fld0,4)
  else if(frameF b p).1.size≤40 then(fld0,5)
  else({hash:=at8 b (p+16),nextHash:=at8 b (p+24),dat:=at8 b (p+32),payload:=(b.drop (p+40)).take ((frameF b p).1.size-40)},0)
def fldAt (s:Nat) (b:Ly) (p:Nat):Fld × Nat:=if p<s∨b.length≤p then(fld0,2)else readFldF b p
theorem fld_in {s p c:Nat} {b:Ly} (h:inAt s b p=c) (hc:c≠0):(fldAt s b p).2=c:=by
  unfold inAt at h
  unfold fldAt
  split at h
  · rename_i h1;rw[if_pos h1];exact h
  exact absurd h.symm hc
theorem fld_at {s p c:Nat} {b:Ly} {x:Fld} (h0:inAt s b p=0) (h:readFldF b p=(x,c)):fldAt s b p=(x,c):=by
  unfold inAt at h0
  unfold fldAt
  split at h0
  · cases h0
  rename_i h1;rw[if_neg h1];exact h
theorem readFld_z (b:Ly) (p:Nat) (h:(readFldF b p).2≠0):(readFldF b p).1=fld0:=by
  unfold readFldF at h ⊢
  split
  · rfl
  split
  · rfl
  split
  · rfl
  rename_i h1 h2 h3;rw[if_neg h1,if_neg h2,if_neg h3]at h;exact absurd q h
theorem fld_no {s p c:Nat} {b:Ly} (h:(fldAt s b p).2=c) (hc:c≠0):fldAt s b p=(fld0,c):=by
  refine Prod.ext ?_ h
  rw[← h]at hc
  unfold fldAt at hc ⊢
  split
  · rfl
  rename_i h1;rw[if_neg h1]at hc;exact readFld_z b p hc
theorem readFld_of {b x:Ly} {p c:Nat} {l:List Nat} (h:readObjF b p 2 3=(l,x,c)):(c≠0→readFldF b p=(fld0,c))∧(¬c≠0→l.length=3∧readFldF b p=({hash:=l.getD 0 0,nextHash:=l.getD 1 0,dat:=l.getD 2 0,payload:=x},0)):=by
  unfold readObjF at h
  unfold readFldF
  split at h
  · rename_i h1
    simp only[Prod.mk.injEq]at h
    refine⟨fun _=>by rw[if_pos h1,h.2.2],fun A=>absurd (h.2.2 ▸ h1) A⟩
  rename_i h1
  rw[if_neg h1]
  split at h
  · rename_i h2
    simp only[Prod.mk.injEq]at h
    exact⟨fun _=>by rw[if_pos h2,h.2.2],fun A=>absurd (h.2.2 ▸ (by decide:(4:Nat)≠0)) A⟩
  rename_i h2
  rw[if_neg h2]
  split at h
  · rename_i h3
    simp only[Prod.mk.injEq]at h
    exact⟨fun _=>by rw[if_pos (by omega),h.2.2],fun A=>absurd (h.2.2 ▸ (by decide:(5:Nat)≠0)) A⟩
  rename_i h3
  simp only[Prod.mk.injEq]at h
  obtain⟨rfl,rfl,rfl⟩:=h
  refine⟨fun A=>absurd q A,fun _=>⟨numsAt_len _ _ _,?_⟩⟩
  rw[if_neg (by omega)]
  simp[numsAt,List.range_succ]
theorem nums_get {b:Ly} {p n i v:Nat} (h:(numsAt b p n)[i]? = some v):v=at8 b (p+8*i)∧i<n:=by
  unfold numsAt at h
  rw[List.getElem?_map]at h
  by_cases hi:i<n
  · rw[List.getElem?_range hi]at h
    exact⟨(Option.some.inj h).symm,hi⟩
  rw[List.getElem?_eq_none (by simpa using hi)]at h;cases h
end Go.Wk
namespace Go.Wk
open Go Go.RowKit
end Go.Wk
namespace Go.Wk
open Go Go.RowKit
section
variable {k:Bool} {f b:Ly} {s p i c:Nat} {l:List Itm} {x:Itm} {d:Dat} {fs:List Pr} {all:List (List UInt8)} {q:Pr} {e:Ent} {r:Rec}
end
end Go.Wk
namespace Go.Wk
open Go Go.RowKit
section
variable {b x:Ly} {p c:Nat}
end
section
variable {k:Bool} {f b:Ly} {s p c n:Nat} {d:Dat}
end
section
variable {k:Bool} {f b:Ly} {s p i c n m:Nat} {l:List Itm} {x:Itm} {fs:List Pr} {all:List (List UInt8)} {q:Ly} {w:Pr}
end
end Go.Wk
namespace Go.Wk
open Go Go.RowKit
section
variable {P:Program} {Q:Exit→Act→World→Prop} {n:Nat} {A:Fr n} {D:List Deferred} {l:List (Nat × Value)} {w:World}
def Next9 {X0 X1 X2 X3 X4 X5 X6 X7 X8:Type} (n:Nat) (D:List Deferred) (inv:X0→X1→X2→X3→X4→X5→X6→X7→X8→List (Nat × Value)) (W:X0→X1→X2→X3→X4→X5→X6→X7→X8→World→Prop) (mu:X0→X1→X2→X3→X4→X5→X6→X7→X8→Nat) (m:Nat) (a:Act) (w:World):Prop :=
  ∃y0:X0,∃y1:X1,∃y2:X2,∃y3:X3,∃y4:X4,∃y5:X5,∃y6:X6,∃y7:X7,∃y8:X8,∃B:Fr n,a=over B D (inv y0 y1 y2 y3 y4 y5 y6 y7 y8)∧W y0 y1 y2 y3 y4 y5 y6 y7 y8 w∧mu y0 y1 y2 y3 y4 y5 y6 y7 y8<m
theorem loop9 {X0 X1 X2 X3 X4 X5 X6 X7 X8:Type} {c:Code} (inv:X0→X1→X2→X3→X4→X5→X6→X7→X8→List (Nat × Value)) (W:X0→X1→X2→X3→X4→X5→X6→X7→X8→World→Prop) (mu:X0→X1→X2→X3→X4→X5→X6→X7→X8→Nat) (x0:X0) (x1:X1) (x2:X2) (x3:X3) (x4:X4) (x5:X5) (x6:X6) (x7:X7) (x8:X8) (h0:Fits n l (inv x0 x1 x2 x3 x4 x5 x6 x7 x8)) (hw:W x0 x1 x2 x3 x4 x5 x6 x7 x8 w)
    (round:∀(x0:X0) (x1:X1) (x2:X2) (x3:X3) (x4:X4) (x5:X5) (x6:X6) (x7:X7) (x8:X8) (B:Fr n) (w':World),W x0 x1 x2 x3 x4 x5 x6 x7 x8 w'→c.wp P (Exit.then (Next9 n D inv W mu (mu x0 x1 x2 x3 x4 x5 x6 x7 x8)) Q) (over B D (inv x0 x1 x2 x3 x4 x5 x6 x7 x8)) w') :
    (Code.loop c).wp P Q (over A D l) w:=by
  refine c_loop (X:=X0 × X1 × X2 × X3 × X4 × X5 × X6 × X7 × X8) (fun p=>inv p.1 p.2.1 p.2.2.1 p.2.2.2.1 p.2.2.2.2.1 p.2.2.2.2.2.1 p.2.2.2.2.2.2.1 p.2.2.2.2.2.2.2.1 p.2.2.2.2.2.2.2.2) (fun p w=>W p.1 p.2.1 p.2.2.1 p.2.2.2.1 p.2.2.2.2.1 p.2.2.2.2.2.1 p.2.2.2.2.2.2.1 p.2.2.2.2.2.2.2.1 p.2.2.2.2.2.2.2.2 w) (fun p=>mu p.1 p.2.1 p.2.2.1 p.2.2.2.1 p.2.2.2.2.1 p.2.2.2.2.2.1 p.2.2.2.2.2.2.1 p.2.2.2.2.2.2.2.1 p.2.2.2.2.2.2.2.2) (x0,x1,x2,x3,x4,x5,x6,x7,x8) h0 hw (fun p B w' h=>wp_mono (round (p.1) (p.2.1) (p.2.2.1) (p.2.2.2.1) (p.2.2.2.2.1) (p.2.2.2.2.2.1) (p.2.2.2.2.2.2.1) (p.2.2.2.2.2.2.2.1) (p.2.2.2.2.2.2.2.2) B w' h) ?_)
  intro e S T h
  cases e with
  | normal=>obtain⟨H,I,J,K,L,M,N,O,R,C,E,F,G⟩:=h;exact⟨(H,I,J,K,L,M,N,O,R),C,E,F,G⟩
  | _=>exact h
theorem next9 {X0 X1 X2 X3 X4 X5 X6 X7 X8:Type} {inv:X0→X1→X2→X3→X4→X5→X6→X7→X8→List (Nat × Value)} {W:X0→X1→X2→X3→X4→X5→X6→X7→X8→World→Prop} {mu:X0→X1→X2→X3→X4→X5→X6→X7→X8→Nat} {m:Nat} (x0:X0) (x1:X1) (x2:X2) (x3:X3) (x4:X4) (x5:X5) (x6:X6) (x7:X7) (x8:X8) (hm:mu x0 x1 x2 x3 x4 x5 x6 x7 x8<m) (hf:Fits n l (inv x0 x1 x2 x3 x4 x5 x6 x7 x8)) (hw:W x0 x1 x2 x3 x4 x5 x6 x7 x8 w) :
    Next9 n D inv W mu m (over A D l) w:=⟨x0,x1,x2,x3,x4,x5,x6,x7,x8,_,(over_fits (A:=A) (D:=D) hf).symm,hw,hm⟩
def Next10 {X0 X1 X2 X3 X4 X5 X6 X7 X8 X9:Type} (n:Nat) (D:List Deferred) (inv:X0→X1→X2→X3→X4→X5→X6→X7→X8→X9→List (Nat × Value)) (W:X0→X1→X2→X3→X4→X5→X6→X7→X8→X9→World→Prop) (mu:X0→X1→X2→X3→X4→X5→X6→X7→X8→X9→Nat) (m:Nat) (a:Act) (w:World):Prop :=
  ∃y0:X0,∃y1:X1,∃y2:X2,∃y3:X3,∃y4:X4,∃y5:X5,∃y6:X6,∃y7:X7,∃y8:X8,∃y9:X9,∃B:Fr n,a=over B D (inv y0 y1 y2 y3 y4 y5 y6 y7 y8 y9)∧W y0 y1 y2 y3 y4 y5 y6 y7 y8 y9 w∧mu y0 y1 y2 y3 y4 y5 y6 y7 y8 y9<m
theorem loop10 {X0 X1 X2 X3 X4 X5 X6 X7 X8 X9:Type} {c:Code} (inv:X0→X1→X2→X3→X4→X5→X6→X7→X8→X9→List (Nat × Value)) (W:X0→X1→X2→X3→X4→X5→X6→X7→X8→X9→World→Prop) (mu:X0→X1→X2→X3→X4→X5→X6→X7→X8→X9→Nat) (x0:X0) (x1:X1) (x2:X2) (x3:X3) (x4:X4) (x5:X5) (x6:X6) (x7:X7) (x8:X8) (x9:X9) (h0:Fits n l (inv x0 x1 x2 x3 x4 x5 x6 x7 x8 x9)) (hw:W x0 x1 x2 x3 x4 x5 x6 x7 x8 x9 w)
    (round:∀(x0:X0) (x1:X1) (x2:X2) (x3:X3) (x4:X4) (x5:X5) (x6:X6) (x7:X7) (x8:X8) (x9:X9) (B:Fr n) (w':World),W x0 x1 x2 x3 x4 x5 x6 x7 x8 x9 w'→c.wp P (Exit.then (Next10 n D inv W mu (mu x0 x1 x2 x3 x4 x5 x6 x7 x8 x9)) Q) (over B D (inv x0 x1 x2 x3 x4 x5 x6 x7 x8 x9)) w') :
    (Code.loop c).wp P Q (over A D l) w:=by
  refine c_loop (X:=X0 × X1 × X2 × X3 × X4 × X5 × X6 × X7 × X8 × X9) (fun p=>inv p.1 p.2.1 p.2.2.1 p.2.2.2.1 p.2.2.2.2.1 p.2.2.2.2.2.1 p.2.2.2.2.2.2.1 p.2.2.2.2.2.2.2.1 p.2.2.2.2.2.2.2.2.1 p.2.2.2.2.2.2.2.2.2) (fun p w=>W p.1 p.2.1 p.2.2.1 p.2.2.2.1 p.2.2.2.2.1 p.2.2.2.2.2.1 p.2.2.2.2.2.2.1 p.2.2.2.2.2.2.2.1 p.2.2.2.2.2.2.2.2.1 p.2.2.2.2.2.2.2.2.2 w) (fun p=>mu p.1 p.2.1 p.2.2.1 p.2.2.2.1 p.2.2.2.2.1 p.2.2.2.2.2.1 p.2.2.2.2.2.2.1 p.2.2.2.2.2.2.2.1 p.2.2.2.2.2.2.2.2.1 p.2.2.2.2.2.2.2.2.2) (x0,x1,x2,x3,x4,x5,x6,x7,x8,x9) h0 hw (fun p B w' h=>wp_mono (round (p.1) (p.2.1) (p.2.2.1) (p.2.2.2.1) (p.2.2.2.2.1) (p.2.2.2.2.2.1) (p.2.2.2.2.2.2.1) (p.2.2.2.2.2.2.2.1) (p.2.2.2.2.2.2.2.2.1) (p.2.2.2.2.2.2.2.2.2) B w' h) ?_)
  intro e T U h
  cases e with
  | normal=>obtain⟨H,I,J,K,L,M,N,O,R,S,C,E,F,G⟩:=h;exact⟨(H,I,J,K,L,M,N,O,R,S),C,E,F,G⟩
  | _=>exact h
theorem next10 {X0 X1 X2 X3 X4 X5 X6 X7 X8 X9:Type} {inv:X0→X1→X2→X3→X4→X5→X6→X7→X8→X9→List (Nat × Value)} {W:X0→X1→X2→X3→X4→X5→X6→X7→X8→X9→World→Prop} {mu:X0→X1→X2→X3→X4→X5→X6→X7→X8→X9→Nat} {m:Nat} (x0:X0) (x1:X1) (x2:X2) (x3:X3) (x4:X4) (x5:X5) (x6:X6) (x7:X7) (x8:X8) (x9:X9) (hm:mu x0 x1 x2 x3 x4 x5 x6 x7 x8 x9<m) (hf:Fits n l (inv x0 x1 x2 x3 x4 x5 x6 x7 x8 x9)) (hw:W x0 x1 x2 x3 x4 x5 x6 x7 x8 x9 w) :
    Next10 n D inv W mu m (over A D l) w:=⟨x0,x1,x2,x3,x4,x5,x6,x7,x8,x9,_,(over_fits (A:=A) (D:=D) hf).symm,hw,hm⟩
end
end Go.Wk
namespace Go.Wk
open Go Go.RowKit
def known0:Known:={text:=[],pos:=0,slot:=0,count:=0,arrays:=[]}
def posAt (ds:List Known) (i:Nat):Nat:=(ds.getD i known0).pos
def backF (ds:List Known) (p:Nat) (order:List Nat):Nat→Nat
  | 0=>0
  | n+1=>if p<posAt ds (order.getD n 0)then backF ds p order n else n+1
def placeF (ds:List Known) (k:Nat) (order:List Nat):List Nat :=
  let n:=backF ds (posAt ds k) order order.length
  order.take n ++ [k] ++ order.drop n
def datasL:List Pr→Mk→List (List UInt8)→List Nat→List (List UInt8) × List Nat × Mk
  | [],m,ps,od=>(ps,od,m)
  | x :: r,m,ps,od =>
    match m.data x with
    | (k,m1)=>datasL r m1 (ps ++ [(m1.datas.getD k known0).text]) (placeF m1.datas k od)
def itemsL (m:Mk) (od:List Nat):List Itm:=od.map fun i=>{pos:=posAt m.datas i,hash:=hashN m.c.keyed m.c.file (m.datas.getD i known0).text}
def hangE (e:Nat):List Nat→Mk→Mk
  | [],m=>m
  | i :: r,m =>
    let k:=m.datas.getD i known0
    if k.count=0 then
      let m29:=(m.put (k.pos+40) e).put (k.pos+56) 1
      hangE e r {m29 with datas:=m29.datas.set i {k with count:=1}}
    else
      match m.link k.arrays (k.count-1) (k.pos+48) e with
      | (a,_,m1) =>
        let m29:=m1.put (k.pos+56) (k.count+1)
        hangE e r {m29 with datas:=m29.datas.set i {k with arrays:=a,count:=k.count+1}}
def Mk.append (m:Mk) (fields:List Pr) (real mono:Nat) (boot:Ly):Nat × Nat × Mk :=
  match listF fields with
  | (l,c) =>
    if c≠0 then(0,c,m)
    else if m.num 9=18446744073709551615 then(0,1,m)
    else
      match datasL l m [] []with
      | (ps,od,m1) =>
        let seq:=(m1.num 9+1)%18446744073709551616
        match m1.object (putEntryF {seq:=seq,real:=real,mono:=mono,boot:=boot,xor:=xorF 0 ps,items:=itemsL m1 od})with
        | (e,m29) =>
          let n:=m29.num 8
          match m29.link m29.main n 176 e with
          | (a,t,m3) =>
            let m4:=({m3 with main:=a}:Mk).setN 11 (a.getD 0 0)
            let m5:={m4 with h:={m4.h with tailArray:=lastN a%4294967296,tailItems:=t%4294967296}}
            let m6:=hangE e od m5
            if m6.c.most<m6.b.length then(0,15,m)
            else
              let m7:=if n=0 then(m6.setN 10 seq).setN 12 real else m6
              let m8:=m7.setN 8 ((m7.num 8+1)%18446744073709551616)
              let m9:=((m8.setN 9 seq).setN 13 real).setN 14 mono
              (seq,0,{m9 with h:={m9.h with boot:=boot,tailEntry:=e}})
def makerL:Nat→Sq→Mk→List Rec→Mk × List Rec × Sq
  | 0,s,m,rs=>(m,rs,s)
  | n+1,s,m,rs =>
    if s.pos<s.l.length then
      match s.record ((m.num 9+1)%18446744073709551616)with
      | (r,s1) =>
        match m.append r.fields r.real r.mono r.boot with
        | (_,c,m1)=>if c≠0 then(m1,rs,s1)else makerL n s1 m1 (rs ++ [r])
    else(m,rs,s)
def Sq.maker (s:Sq) (most:Nat):Mk × List Rec × Sq :=
  match s.config with
  | (c,s1) =>
    match s1.num 6 with
    | (t,s2)=>makerL most s2 (newMk c t) []
def imageOf (l:List Int) (most:Nat):List UInt8:=imageM ((Sq.mk l 0).maker most).1 1
end Go.Wk
namespace Go.Wk
open Go Go.RowKit
theorem Ow.lsB {e:TypeId} {w w':World} {Q Q':Nat→Prop} {v:Value} {xs:Ly} (h:Ow tB8 e (Fsh [] w) w' Q' v xs) (uQ:Up w Q):Ls tB8 w' Q v xs :=
  Ls.of_by h.read.by fun b hb _=>Fsh.up uQ b (h.2 b hb).1
theorem config_slots (s:Sq):s.config.1.dataSlots≤10∧s.config.1.fieldSlots≤10:=by
  rcases h1:s.num 5 with⟨a,E⟩
  rcases h2:E.num 5 with⟨b,F⟩
  rcases h3:F.num 5 with⟨c,C⟩
  rcases h4:C.num 7 with⟨d,D⟩
  rcases h5:D.num 4 with⟨e,G⟩
  rcases h6:G.num 2 with⟨f,H⟩
  have A:=C.num_le 7
  have B:=D.num_le 4
  rw[h4]at A;rw[h5]at B
  simp only[Sq.config,h1,h2,h3,h4,h5,h6]
  simp only at A B
  omega
end Go.Wk
namespace Go.Wk
open Go Go.RowKit
section
variable {P:Program} {n:Nat} {A:Fr n} {D:List Deferred} {l:List (Nat × Value)} {w:World} {d:Option Tmp} {ty:TypeId} {ps:String} {af:Array Edge} {g:Option (Nat × Bool)}
end
theorem open_empty:(openF (imageOf [] 0)).2=0∧((openF (imageOf [] 0)).1.map fun y=>y.h.n.getD 8 0)=some 0:=by decide +kernel
theorem open_emptyE {x:Option PView} {c:Nat} (h:openF (imageOf [] 0)=(x,c)):c=0∧∃y,x=some y∧y.h.n.getD 8 0=0:=by
  have A:=open_empty
  rw[h]at A
  obtain⟨C,B⟩:=A
  cases x with
  | none=>simp at B
  | some y=>exact⟨C,y,q,by simpa using B⟩
theorem img_len:(imageOf [] 0).length≤1000:=by decide +kernel
section
variable {P:Program} {n:Nat} {A:Fr n} {D:List Deferred} {l:List (Nat × Value)} {w:World} {d:Option Tmp} {ty:TypeId} {ps:String} {af:Array Edge} {g:Option (Nat × Bool)}
end
end Go.Wk
namespace Go.Wk
open Go Go.RowKit
def nothF (b:Ly) (x:Nat):Bool:=decide (x=0∨b.length≤x)
end Go.Wk
namespace Go.Wk
open Go Go.RowKit
end Go.Wk
namespace Go.Wk
open Go Go.RowKit
structure DataOk (m m':Mk) (k len:Nat):Prop where
  lt:k<m'.datas.length
  ge:m.b.length≤m'.b.length
  le:m'.b.length≤m.b.length+len
  c:m'.c=m.c
  main:m'.main=m.main
  pre:m'.datas=m.datas∨∃x:Known,m'.datas=m.datas ++ [x]∧x.count=0∧x.arrays=[]∧x.pos+64≤m'.b.length
  fl:m'.fields.length≤m.fields.length+1
  fit:m'.fit
  n8:m'.h.n.getD 8 0=m.h.n.getD 8 0
theorem put_same (m:Mk) (p v:Nat):(m.put p v).c=m.c∧(m.put p v).datas=m.datas∧(m.put p v).fields=m.fields∧(m.put p v).main=m.main∧(m.put p v).h=m.h∧(m.put p v).depth=m.depth:=⟨q,q,q,q,q,q⟩
theorem data_ok (m:Mk) (x:Pr) (h:m.fit):DataOk m (m.data x).2 (m.data x).1 (400+x.name.length+(payload x).length):=by
  unfold Mk.data
  cases hk:findI (payload x) m.datas 0 with
  | some i =>
    have:=findI_lt hk
    exact⟨by simp only;omega,Nat.le_refl _,by simp only;omega,q,q,.inl q,by simp only;omega,h,q⟩
  | none =>
    simp only
    have D:=object_spec m (putDataF {hash:=hashN m.c.keyed m.c.file (payload x),nextHash:=0,nextField:=0,entry:=0,array:=0,count:=0,payload:=payload x})
    have Q:=object_same m (putDataF {hash:=hashN m.c.keyed m.c.file (payload x),nextHash:=0,nextField:=0,entry:=0,array:=0,count:=0,payload:=payload x})
    have R:(m.object (putDataF {hash:=hashN m.c.keyed m.c.file (payload x),nextHash:=0,nextField:=0,entry:=0,array:=0,count:=0,payload:=payload x})).2.h.n.getD 8 0=m.h.n.getD 8 0:=by
      simp only[Mk.object,Mk.setN];rw[getD_set_ne' (by decide),getD_set_ne' (by decide)]
    rw[putDataF_len]at D
    simp only at D
    generalize m.object (putDataF {hash:=hashN m.c.keyed m.c.file (payload x),nextHash:=0,nextField:=0,entry:=0,array:=0,count:=0,payload:=payload x})=r at *
    obtain⟨p,A⟩:=r
    simp only at D Q R ⊢
    have S:=hang_spec A A.datas (A.num 2) p (hashN m.c.keyed m.c.file (payload x)%A.c.dataSlots)
    have T:=hang_same A A.datas (A.num 2) p (hashN m.c.keyed m.c.file (payload x)%A.c.dataSlots)
    generalize A.hang A.datas (A.num 2) p (hashN m.c.keyed m.c.file (payload x)%A.c.dataSlots)=r at *
    obtain⟨n,B⟩:=r
    simp only at S T ⊢
    obtain⟨a1,a2,a3,a4,a5,a6,a7,a8⟩:=D
    obtain⟨Z,J,K,a⟩:=Q
    obtain⟨c1,c2,c3,c4,c5,c6,c7⟩:=S
    obtain⟨d,L,M,e,d5,f⟩:=T
    generalize hx5:({(B.setN 19 (max (B.num 19) n)).setN 15 (((B.setN 19 (max (B.num 19) n)).num 15+1)%18446744073709551616)with datas:=((B.setN 19 (max (B.num 19) n)).setN 15 (((B.setN 19 (max (B.num 19) n)).num 15+1)%18446744073709551616)).datas ++ [({text:=payload x,pos:=p,slot:=hashN m.c.keyed m.c.file (payload x)%A.c.dataSlots,count:=0,arrays:=[]}:Known)]}:Mk)=m5
    have j:m5.b=B.b∧m5.c=B.c∧m5.datas=B.datas ++ [({text:=payload x,pos:=p,slot:=hashN m.c.keyed m.c.file (payload x)%A.c.dataSlots,count:=0,arrays:=[]}:Known)]∧m5.fields=B.fields∧m5.main=B.main:=by subst hx5;exact⟨q,q,q,q,q⟩
    have v:m5.h.n.getD 2 0=m.h.n.getD 2 0:=by subst hx5;simp only[Mk.setN];rw[getD_set_ne' (by decide),getD_set_ne' (by decide)];omega
    have w:m5.h.n.getD 4 0=m.h.n.getD 4 0:=by subst hx5;simp only[Mk.setN];rw[getD_set_ne' (by decide),getD_set_ne' (by decide)];omega
    have g8:m5.h.n.getD 8 0=m.h.n.getD 8 0:=by subst hx5;simp only[Mk.setN];rw[getD_set_ne' (by decide),getD_set_ne' (by decide),f,R]
    clear hx5
    obtain⟨g,E,O,P,l⟩:=j
    have l5:m5.b.length=A.b.length:=by rw[g];omega
    have u:m5.fit:=by
      refine fit_mono h ⟨by rw[E];omega,by rw[E];omega,v,w,by omega⟩ (fun k hk=>?_) (fun k hk=>?_)
      · rw[O,L,J,List.mem_append,List.mem_singleton]at hk
        rcases hk with hk|rfl
        · exact .inl hk
        · right;simp only;omega
      · rw[P,M,K]at hk;exact .inl hk
    have U:=field_all m5 x.name u
    generalize m5.field x.name=r at *
    obtain⟨k,C⟩:=r
    simp only at U ⊢
    obtain⟨⟨q1,q2,q3,q4,q5,q6,q7,q8,q9,y⟩,⟨z,s2,s3⟩,s4⟩:=U
    have l8:((C.put (p+32) (getF C.b (k+32:Nat) 8).1).put (k+32) p).b.length=C.b.length:=by rw[put_len,put_len]
    have o:=put_same C (p+32) (getF C.b (k+32:Nat) 8).1
    have t:=put_same (C.put (p+32) (getF C.b (k+32:Nat) 8).1) (k+32) p
    generalize C.put (p+32) (getF C.b (k+32:Nat) 8).1=m7 at *
    generalize m7.put (k+32) p=m8 at *
    obtain⟨F,V,W,v4,G,_⟩:=o
    obtain⟨H,X,Y,w4,I,_⟩:=t
    have N:m8.datas=m.datas ++ [({text:=payload x,pos:=p,slot:=hashN m.c.keyed m.c.file (payload x)%A.c.dataSlots,count:=0,arrays:=[]}:Known)]:=by rw[X,V,s2,O,L,J]
    refine⟨by rw[N];simp,by omega,by omega,by rw[H,F,z,E,d,Z],by rw[w4,v4,s3,l,e,a],.inr ⟨_,N,q,q,by simp only;omega⟩,?_,?_,by rw[I,G];omega⟩
    · have:=congrArg List.length P;rw[M,K]at this;rw[Y,W];omega
    · refine fit_mono s4 ⟨by rw[H,F],by rw[H,F],by rw[I,G],by rw[I,G],by omega⟩ (fun k hk=>.inl (by rw[X,V]at hk;exact hk)) (fun k hk=>.inl (by rw[Y,W]at hk;exact hk))
theorem rooms_app (l:List Nat) (p k a r:Nat):roomsL (l ++ [p]) k a r=((roomsL l k a r).2,(roomsL l k a r).2+roomF ((k+l.length:Nat):Int)):=by
  induction l generalizing k a r with
  | nil=>rfl
  | cons x l ih =>
    show roomsL (l ++ [p]) (k+1) r (r+roomF (k:Int))=_
    rw[ih]
    show _=((roomsL l (k+1) r (r+roomF (k:Int))).2,(roomsL l (k+1) r (r+roomF (k:Int))).2+roomF ((k+(l.length+1):Nat):Int))
    rw[show k+1+l.length=k+(l.length+1)by omega]
theorem rooms_ge (l:List Nat) (k a r:Nat):r+4*l.length≤(roomsL l k a r).2∧(l≠[]→r+4*(l.length-1)≤(roomsL l k a r).1):=by
  induction l generalizing k a r with
  | nil=>simp[roomsL]
  | cons x l ih =>
    have C:=roomF_ge (k:=(k:Int)) (by omega)
    obtain⟨B,A⟩:=ih (k+1) r (r+roomF (k:Int))
    refine⟨?_,fun _=>?_⟩
    · show r+4*(l.length+1)≤(roomsL l (k+1) r (r+roomF (k:Int))).2;omega
    · show r+4*(l.length+1-1)≤(roomsL l (k+1) r (r+roomF (k:Int))).1
      by_cases hl:l=[]
      · subst hl;simp[roomsL]
      · have:=A hl
        have:0<l.length:=by cases l with|nil=>exact absurd q hl|cons _ _=>simp
        omega
theorem chain_len {len n:Nat} {a:List Nat} (h:chainFit len a n):a.length≤n+1:=by
  obtain⟨_,B,_⟩:=h
  have A:=(rooms_ge a 0 0 0).2
  by_cases ha:a=[]
  · subst ha;simp
  have:=A ha;omega
theorem chain_mono {len len' n:Nat} {a:List Nat} (h:chainFit len a n) (hl:len≤len'):chainFit len' a n :=
  ⟨fun k x hx=>ly (h.1 k x hx) hl,h.2⟩
theorem chain_nil (len:Nat):chainFit len [] 0:=⟨by simp,by simp[roomsL],by simp[roomsL]⟩
structure LinkOk (m m':Mk) (a:List Nat) (n:Nat):Prop where
  ge:m.b.length≤m'.b.length
  le:m'.b.length≤m.b.length+2100
  c:m'.c=m.c
  datas:m'.datas=m.datas
  fields:m'.fields=m.fields
  main:m'.main=m.main
  chain:chainFit m'.b.length a (n+1)
  ne:a≠[]
  n8:m'.h.n.getD 8 0=m.h.n.getD 8 0
  n2:m'.h.n.getD 2 0=m.h.n.getD 2 0
  n4:m'.h.n.getD 4 0=m.h.n.getD 4 0
theorem link_ok (m:Mk) (arrays:List Nat) (n src item:Nat) (h:chainFit m.b.length arrays n):LinkOk m (m.link arrays n src item).2.2 (m.link arrays n src item).1 n:=by
  obtain⟨R,S,T⟩:=h
  unfold Mk.link
  have F:=fun p=>rooms_app arrays p 0 0 0
  rcases hq:roomsL arrays 0 0 0 with⟨A,B⟩
  rw[hq]at S T F
  simp only at S T F ⊢
  rw[Nat.zero_add]at F
  split
  · rename_i hn
    have G:=object_spec m (putArrayF {next:=0,items:=List.replicate (roomF (arrays.length:Int)) 0})
    have Q:=object_same m (putArrayF {next:=0,items:=List.replicate (roomF (arrays.length:Int)) 0})
    have o:(m.object (putArrayF {next:=0,items:=List.replicate (roomF (arrays.length:Int)) 0})).2.h.n.getD 8 0=m.h.n.getD 8 0:=by
      simp only[Mk.object,Mk.setN];rw[getD_set_ne' (by decide),getD_set_ne' (by decide)]
    rw[putArrayF_len]at G
    simp only[List.length_replicate]at G
    generalize m.object (putArrayF {next:=0,items:=List.replicate (roomF (arrays.length:Int)) 0})=r at *
    obtain⟨p,C⟩:=r
    simp only at G Q o ⊢
    obtain⟨w,y,z,a4,a5,a6,a7,a8⟩:=G
    obtain⟨U,V,W,X⟩:=Q
    have O:=roomF_le (arrays.length:Int)
    have H:=roomF_ge (k:=(arrays.length:Int)) (by omega)
    generalize hx2:C.setN 18 ((C.num 18+1)%18446744073709551616)=m29
    have u:m29.b=C.b∧m29.c=C.c∧m29.datas=C.datas∧m29.fields=C.fields∧m29.main=C.main:=by subst hx2;exact setN_same _ _ _
    have t8:m29.h.n.getD 8 0=C.h.n.getD 8 0:=by subst hx2;exact num_setN (by decide)
    have t2:m29.h.n.getD 2 0=C.h.n.getD 2 0:=by subst hx2;exact num_setN (by decide)
    have t4:m29.h.n.getD 4 0=C.h.n.getD 4 0:=by subst hx2;exact num_setN (by decide)
    clear hx2
    generalize hx3:(if arrays.length=0 then m29.put src p else m29.put (lastN arrays+16) p)=m3
    have v:m3.b.length=m29.b.length∧m3.c=m29.c∧m3.datas=m29.datas∧m3.fields=m29.fields∧m3.main=m29.main∧m3.h=m29.h:=by
      subst hx3
      split
      · exact⟨put_len _ _ _,q,q,q,q,q⟩
      · exact⟨put_len _ _ _,q,q,q,q,q⟩
    clear hx3
    have t:=put_len m3 (lastN (arrays ++ [p])+24+8*(n-B)) item
    have P:=put_same m3 (lastN (arrays ++ [p])+24+8*(n-B)) item
    generalize m3.put (lastN (arrays ++ [p])+24+8*(n-B)) item=m4 at *
    obtain⟨Y,Z,d,e,f⟩:=u
    obtain⟨d1,g,i,j,l,I⟩:=v
    obtain⟨J,K,L,M,E,_⟩:=P
    have l2:=congrArg List.length Y
    have ll:m4.b.length=m.b.length+(16+(8+8*roomF (arrays.length:Int))+7)/8*8:=by omega
    refine⟨by omega,by omega,by rw[J,g,Z,U],by rw[K,i,d,V],by rw[L,j,e,W],by rw[M,l,f,X],⟨fun k x D=>?_,?_,?_⟩,by simp,by rw[E,I];omega,by rw[E,I];omega,by rw[E,I];omega⟩
    · rcases Nat.lt_or_ge k arrays.length with hk|hk
      · rw[List.getElem?_append_left hk]at D
        have:=R k x D;omega
      have N:=(List.getElem?_eq_some_iff.1 D).1
      simp at N
      have:k=arrays.length:=by omega
      subst this
      rw[List.getElem?_append_right (Nat.le_refl _)]at D
      simp at D
      subst D
      omega
    · rw[F];simp only;omega
    rw[F];simp only;omega
  rename_i hn
  have t:=put_len m (lastN arrays+24+8*(n-A)) item
  have P:=put_same m (lastN arrays+24+8*(n-A)) item
  generalize m.put (lastN arrays+24+8*(n-A)) item=m4 at *
  obtain⟨J,K,L,M,E,_⟩:=P
  show LinkOk m m4 arrays n
  refine⟨by omega,by omega,J,K,L,M,⟨fun k x D=>by have:=R k x D;omega,by rw[hq];simp only;omega,by rw[hq];simp only;omega⟩,?_,by rw[E],by rw[E],by rw[E]⟩
  rintro rfl
  simp[roomsL]at hq
  omega
def Mk.n8 (m:Mk):Nat:=m.h.n.getD 8 0
def chainsOk (m:Mk) (most:Nat):Prop:=∀k∈m.datas,chainFit m.b.length k.arrays (k.count-1)∧(k.count=0→k.arrays=[])∧k.text.length≤400∧k.count≤most
structure MkOk (m:Mk):Prop where
  fit:m.fit
  main:chainFit m.b.length m.main m.n8
  chains:chainsOk m (16*m.n8)
  nd:m.datas.length≤16*m.n8
  nf:m.fields.length≤16*m.n8
  nb:64*m.n8≤m.b.length
  small:m.b.length≤40000
  most:m.c.most≤40000
  hd:272≤m.b.length
structure AppOk (m0 m:Mk) (d e:Nat) (j:Nat):Prop where
  fit:m.fit
  c:m.c=m0.c
  n8:m.n8=m0.n8
  chains:chainsOk m (16*m0.n8+j)
  nd:m.datas.length≤m0.datas.length+d
  nf:m.fields.length≤m0.fields.length+d
  ge:m0.b.length≤m.b.length
  le:m.b.length≤m0.b.length+e
theorem app_start {m:Mk} (h:MkOk m):AppOk m m 0 0 0:=⟨h.fit,q,q,h.chains,Nat.le_refl _,Nat.le_refl _,Nat.le_refl _,Nat.le_refl _⟩
theorem data_text {m:Mk} {x:Pr} (y:Known) (h:y∈(m.data x).2.datas):y∈m.datas∨y.text=payload x:=by
  unfold Mk.data at h
  split at h
  · exact .inl h
  simp only at h
  have F:=object_same m (putDataF {hash:=hashN m.c.keyed m.c.file (payload x),nextHash:=0,nextField:=0,entry:=0,array:=0,count:=0,payload:=payload x})
  generalize m.object (putDataF {hash:=hashN m.c.keyed m.c.file (payload x),nextHash:=0,nextField:=0,entry:=0,array:=0,count:=0,payload:=payload x})=r at *
  obtain⟨p,B⟩:=r
  simp only at h F
  have G:=hang_same B B.datas (B.num 2) p (hashN m.c.keyed m.c.file (payload x)%B.c.dataSlots)
  generalize B.hang B.datas (B.num 2) p (hashN m.c.keyed m.c.file (payload x)%B.c.dataSlots)=r at *
  obtain⟨n,C⟩:=r
  simp only at h G
  generalize hx5:({(C.setN 19 (max (C.num 19) n)).setN 15 (((C.setN 19 (max (C.num 19) n)).num 15+1)%18446744073709551616)with datas:=((C.setN 19 (max (C.num 19) n)).setN 15 (((C.setN 19 (max (C.num 19) n)).num 15+1)%18446744073709551616)).datas ++ [({text:=payload x,pos:=p,slot:=hashN m.c.keyed m.c.file (payload x)%B.c.dataSlots,count:=0,arrays:=[]}:Known)]}:Mk)=m5 at h
  have I:m5.datas=C.datas ++ [({text:=payload x,pos:=p,slot:=hashN m.c.keyed m.c.file (payload x)%B.c.dataSlots,count:=0,arrays:=[]}:Known)]:=by subst hx5;rfl
  clear hx5
  have H:(m5.field x.name).2.datas=m5.datas:=by
    unfold Mk.field
    split
    · rfl
    · simp only
      have D:=object_same m5 (putFieldF {hash:=hashN m5.c.keyed m5.c.file x.name,nextHash:=0,dat:=0,payload:=x.name})
      generalize m5.object (putFieldF {hash:=hashN m5.c.keyed m5.c.file x.name,nextHash:=0,dat:=0,payload:=x.name})=r at *
      obtain⟨q,A⟩:=r
      simp only at D ⊢
      have E:=hang_same A A.fields (A.num 4) q (hashN m5.c.keyed m5.c.file x.name%A.c.fieldSlots)
      generalize A.hang A.fields (A.num 4) q (hashN m5.c.keyed m5.c.file x.name%A.c.fieldSlots)=r at *
      obtain⟨M,L⟩:=r
      simp only at E ⊢
      show L.datas=m5.datas
      rw[E.2.1,D.2.1]
  generalize m5.field x.name=r at *
  obtain⟨k,A⟩:=r
  simp only at h H
  have J:=(put_same A (p+32) (getF A.b (k+32:Nat) 8).1).2.1
  have K:=(put_same (A.put (p+32) (getF A.b (k+32:Nat) 8).1) (k+32) p).2.1
  rw[K,J,H,I,List.mem_append,List.mem_singleton,G.2.1,F.2.1]at h
  rcases h with h|rfl
  · exact .inl h
  exact .inr rfl
theorem app_data {m0 m:Mk} {d e j:Nat} {x:Pr} (h:AppOk m0 m d e j) (hx:x.name.length≤64∧x.value.length≤256):AppOk m0 (m.data x).2 (d+1) (e+900) j∧(m.data x).1<(m.data x).2.datas.length∧(m.data x).2.main=m.main:=by
  have g:=data_ok m x h.fit
  have G:=fun y=>data_text (m:=m) (x:=x) y
  have U:=payload_len x
  generalize m.data x=r at *
  obtain⟨k,H⟩:=r
  simp only at g G ⊢
  have D:=g.ge;have I:=g.le;have O:=h.ge;have P:=h.le;have Q:=h.nd;have R:=h.nf;have S:=g.fl
  have T:H.datas.length≤m.datas.length+1:=by
    rcases g.pre with e|⟨x,e,_⟩ <;> rw[e] <;> simp
  refine⟨⟨g.fit,g.c.trans h.c,(show H.h.n.getD 8 0=m0.n8 from g.n8.trans h.n8),fun y A=>?_,by omega,by omega,by omega,by omega⟩,g.lt,g.main⟩
  have F:y∈m.datas∨(y.count=0∧y.arrays=[]):=by
    rcases g.pre with e|⟨x,e,C,B,_⟩
    · rw[e]at A;exact .inl A
    · rw[e,List.mem_append,List.mem_singleton]at A
      rcases A with A|rfl
      · exact .inl A
      · exact .inr ⟨C,B⟩
  rcases F with E|⟨C,B⟩
  · obtain⟨K,L,M,N⟩:=h.chains y E
    exact⟨chain_mono K D,L,M,N⟩
  refine⟨by rw[C,B];exact chain_nil _,fun _=>B,?_,by omega⟩
  rcases G y A with E|J
  · exact(h.chains y E).2.2.1
  rw[J];omega
theorem app_of {m0 m m':Mk} {d e e' j j':Nat} (h:AppOk m0 m d e j) (hc:m'.c=m.c) (h8:m'.n8=m.n8) (h2:m'.h.n.getD 2 0=m.h.n.getD 2 0) (h4:m'.h.n.getD 4 0=m.h.n.getD 4 0) (hd:m'.datas=m.datas) (hf:m'.fields=m.fields)
    (hg:m.b.length≤m'.b.length) (hl:m'.b.length≤m.b.length+e') (hj:j≤j'):AppOk m0 m' d (e+e') j':=by
  have:=h.ge;have:=h.le
  refine⟨fit_mono h.fit ⟨by rw[hc],by rw[hc],h2,h4,hg⟩ (fun k hk=>.inl (hd ▸ hk)) (fun k hk=>.inl (hf ▸ hk)),hc.trans h.c,h8.trans h.n8,fun k hk=>?_,by rw[hd];exact h.nd,by rw[hf];exact h.nf,by omega,by omega⟩
  rw[hd]at hk
  obtain⟨A,B,C,D⟩:=h.chains k hk
  exact⟨chain_mono A hg,B,C,by omega⟩
theorem app_object {m0 m:Mk} {d e j L:Nat} {o:Ly} (h:AppOk m0 m d e j) (ho:o.length≤L):AppOk m0 (m.object o).2 d (e+L) j:=by
  have A:=object_spec m o
  have B:=object_same m o
  have C:(m.object o).2.h.n.getD 8 0=m.h.n.getD 8 0:=by simp only[Mk.object,Mk.setN];rw[getD_set_ne' (by decide),getD_set_ne' (by decide)]
  exact app_of h B.1 C A.2.2.2.2.2.2.1 A.2.2.2.2.2.2.2 B.2.1 B.2.2.1 (by rw[A.2.1];omega) (by rw[A.2.1];omega) (Nat.le_refl _)
theorem app_put {m0 m:Mk} {d e j:Nat} (p v:Nat) (h:AppOk m0 m d e j):AppOk m0 (m.put p v) d e j :=
  app_of (e':=0) h q q q q q q (by rw[put_len];exact Nat.le_refl _) (by rw[put_len];exact Nat.le_refl _) (Nat.le_refl _)
theorem app_link {m0 m:Mk} {d e j n src item:Nat} {arrays:List Nat} (h:AppOk m0 m d e j) (hc:chainFit m.b.length arrays n):AppOk m0 (m.link arrays n src item).2.2 d (e+2100) j:=by
  have g:=link_ok m arrays n src item hc
  exact app_of h g.c g.n8 g.n2 g.n4 g.datas g.fields g.ge g.le (Nat.le_refl _)
theorem app_set {m0 m:Mk} {d e j i:Nat} {k:Known} (h:AppOk m0 m d e j) (hi:i<m.datas.length) (hp:k.pos=(m.datas.getD i known0).pos) (ht:k.text=(m.datas.getD i known0).text)
    (hk:chainFit m.b.length k.arrays (k.count-1)∧(k.count=0→k.arrays=[])∧k.count≤16*m0.n8+(j+1)):AppOk m0 {m with datas:=m.datas.set i k} d e (j+1):=by
  have C:m.datas[i]? = some (m.datas.getD i known0):=by simp[List.getD,hi]
  have B:=List.mem_of_getElem? C
  refine⟨fit_mono h.fit ⟨q,q,q,q,Nat.le_refl _⟩ (fun y A=>?_) (fun y A=>.inl A),h.c,h.n8,fun y A=>?_,by simpa using h.nd,h.nf,h.ge,h.le⟩
  · rcases List.mem_or_eq_of_mem_set A with A|rfl
    · exact .inl A
    right;have:=h.fit.2.2.2.2.2.2.1 _ B;simp only;omega
  rcases List.mem_or_eq_of_mem_set A with A|rfl
  · obtain⟨D,E,F,G⟩:=h.chains y A;exact⟨D,E,F,by omega⟩
  exact⟨hk.1,hk.2.1,by rw[ht];exact(h.chains _ B).2.2.1,hk.2.2⟩
def hang1 (e:Nat) (i:Nat) (m:Mk):Mk :=
  let k:=m.datas.getD i known0
  if k.count=0 then
    let m29:=(m.put (k.pos+40) e).put (k.pos+56) 1
    {m29 with datas:=m29.datas.set i {k with count:=1}}
  else
    match m.link k.arrays (k.count-1) (k.pos+48) e with
    | (a,_,m1) =>
      let m29:=m1.put (k.pos+56) (k.count+1)
      {m29 with datas:=m29.datas.set i {k with arrays:=a,count:=k.count+1}}
theorem hangE_cons (e i:Nat) (r:List Nat) (m:Mk):hangE e (i :: r) m=hangE e r (hang1 e i m):=by
  unfold hang1
  rw[hangE]
  simp only
  split
  · rfl
  rfl
theorem hang1_ok {m0 m:Mk} {d e j i en:Nat} (h:AppOk m0 m d e j) (hi:i<m.datas.length):AppOk m0 (hang1 en i m) d (e+2100) (j+1)∧(hang1 en i m).main=m.main∧(hang1 en i m).datas.length=m.datas.length:=by
  have K:m.datas[i]? = some (m.datas.getD i known0):=by simp[List.getD,hi]
  have M:=List.mem_of_getElem? K
  obtain⟨I,N,O,P⟩:=h.chains _ M
  unfold hang1
  simp only
  generalize hk:m.datas.getD i known0=k at *
  split
  · rename_i h0
    have g:=app_put (k.pos+56) 1 (app_put (k.pos+40) en h)
    have J:=put_same m (k.pos+40) en
    have D:=put_same (m.put (k.pos+40) en) (k.pos+56) 1
    have H:((m.put (k.pos+40) en).put (k.pos+56) 1).b.length=m.b.length:=by rw[put_len,put_len]
    generalize m.put (k.pos+40) en=C at *
    generalize C.put (k.pos+56) 1=m29 at *
    have B:m29.datas=m.datas:=D.2.1.trans J.2.1
    have A:=app_set (i:=i) (k:={k with count:=1}) g (by rw[B];exact hi) (by rw[B,hk]) (by rw[B,hk]) ⟨by simp only;rw[N h0];exact chain_nil _,fun F=>by simp at F,by simp only;omega⟩
    refine⟨⟨A.fit,A.c,A.n8,A.chains,A.nd,A.nf,A.ge,ly A.le (by omega)⟩,D.2.2.2.1.trans J.2.2.2.1,by simp[B]⟩
  rename_i h0
  have g:=app_link (src:=k.pos+48) (item:=en) h I
  have E:=link_ok m k.arrays (k.count-1) (k.pos+48) en I
  generalize m.link k.arrays (k.count-1) (k.pos+48) en=r at *
  obtain⟨a,Q,C⟩:=r
  simp only at g E ⊢
  have L:=app_put (k.pos+56) (k.count+1) g
  have D:=put_same C (k.pos+56) (k.count+1)
  have H:=put_len C (k.pos+56) (k.count+1)
  generalize C.put (k.pos+56) (k.count+1)=m29 at *
  have B:m29.datas=m.datas:=D.2.1.trans E.datas
  have G:=E.chain
  rw[show k.count-1+1=k.count by omega,← H]at G
  have A:=app_set (i:=i) (k:={k with arrays:=a,count:=k.count+1}) L (by rw[B];exact hi) (by rw[B,hk]) (by rw[B,hk]) ⟨G,fun F=>by simp at F,by simp only;omega⟩
  exact⟨A,D.2.2.2.1.trans E.main,by simp[B]⟩
theorem hangE_ok {m0:Mk} {d en:Nat}:∀(od:List Nat) (m:Mk) (e j:Nat),AppOk m0 m d e j→(∀i∈od,i<m.datas.length) →
    AppOk m0 (hangE en od m) d (e+2100*od.length) (j+od.length)∧(hangE en od m).main=m.main∧(hangE en od m).datas.length=m.datas.length
  | [],m,e,j,h,_=>⟨h,q,q⟩
  | i :: r,m,e,j,h,hi=>by
    obtain⟨h1,h2,h3⟩:=hang1_ok (en:=en) h (hi i (by simp))
    obtain⟨g1,g2,g3⟩:=hangE_ok r (hang1 en i m) (e+2100) (j+1) h1 fun x hx=>by rw[h3];exact hi x (by simp[hx])
    rw[hangE_cons]
    refine⟨?_,g2.trans h2,g3.trans h3⟩
    have e1:e+2100*(i :: r).length=e+2100+2100*r.length:=by simp;omega
    have A:j+(i :: r).length=j+1+r.length:=by simp;omega
    rw[e1,A];exact g1
def BD (q:Pr):Prop:=q.name.length≤64∧q.value.length≤256
theorem shift_bd:∀(n j:Nat) (o:List Pr),(∀q∈o,BD q)→∀q∈shiftF n j o,BD q
  | 0,_,_,h=>h
  | n+1,j,o,h=>by
    unfold shiftF
    refine shift_bd n (j-1) _ fun q hq=>?_
    rcases List.mem_or_eq_of_mem_set hq with hq|rfl
    · exact h q hq
    · rw[List.getD_eq_getElem?_getD]
      cases hg:o[j-1]? with
      | none=>exact⟨by simp,by simp⟩
      | some y=>exact h y (List.mem_of_getElem? hg)
theorem ins_bd {p:Pr} {o:List Pr} (hp:BD p) (h:∀q∈o,BD q):∀q∈insF p o,BD q:=by
  unfold insF
  simp only
  split
  · exact h
  intro q B
  rcases List.mem_or_eq_of_mem_set B with B|rfl
  · refine shift_bd _ _ _ (fun y A=>?_) q B
    rcases List.mem_append.1 A with A|A
    · exact h y A
    simp at A;subst A;exact⟨by simp,by simp⟩
  exact hp
theorem goL_bd:∀(l o:List Pr),(∀q∈o,BD q)→∀(x:List Pr) (c:Nat),goL l o=(x,c)→(∀q∈x,BD q)∧x.length≤16
  | [],o,ho,x,c,h=>by
    unfold goL at h
    split at h
    · obtain⟨rfl,_⟩:=Prod.mk.inj h;simp
    · obtain⟨rfl,_⟩:=Prod.mk.inj h;exact⟨ho,by omega⟩
  | p :: r,o,ho,x,c,h=>by
    unfold goL at h
    split at h
    · obtain⟨rfl,_⟩:=Prod.mk.inj h;simp
    · rename_i h1
      have hr:=joinF_right.1 (Classical.not_not.1 h1)
      simp only[right,Pr.pb,Bool.and_eq_true]at hr
      exact goL_bd r _ (ins_bd ⟨(name_len hr.1).2,dT hr.2⟩ ho) x c h
theorem listF_bd {l x:List Pr} {c:Nat} (h:listF l=(x,c)):(∀q∈x,BD q)∧x.length≤16:=by
  unfold listF at h
  split at h
  · obtain⟨rfl,_⟩:=Prod.mk.inj h;simp
  exact goL_bd l [] (by simp) x c h
theorem place_mem {ds:List Known} {k i:Nat} {od:List Nat} (h:i∈placeF ds k od):i=k∨i∈od:=by
  unfold placeF at h
  simp only[List.mem_append,List.mem_singleton]at h
  rcases h with(h|h)|h
  · exact .inr (List.mem_of_mem_take h)
  · exact .inl h
  exact .inr (List.mem_of_mem_drop h)
theorem backF_le (ds:List Known) (p:Nat) (od:List Nat):∀n,backF ds p od n≤n
  | 0=>Nat.le_refl _
  | n+1=>by
    unfold backF
    split
    · have:=backF_le ds p od n;omega
    · exact Nat.le_refl _
theorem place_len (ds:List Known) (k:Nat) (od:List Nat):(placeF ds k od).length=od.length+1:=by
  have:=backF_le ds (posAt ds k) od od.length
  unfold placeF;simp;omega
structure DatasOk (m0 m:Mk) (ps:List (List UInt8)) (od:List Nat) (n:Nat):Prop where
  app:AppOk m0 m n (900*n) 0
  main:m.main=m0.main
  idx:∀i∈od,i<m.datas.length
  len:od.length=n∧ps.length=n
  ps:∀t∈ps,t.length≤400
theorem datas_step {m0 m:Mk} {ps:List (List UInt8)} {od:List Nat} {n:Nat} {x:Pr} (h:DatasOk m0 m ps od n) (hx:BD x) :
    DatasOk m0 (m.data x).2 (ps ++ [((m.data x).2.datas.getD (m.data x).1 known0).text]) (placeF (m.data x).2.datas (m.data x).1 od) (n+1):=by
  obtain⟨C,D,F⟩:=app_data h.app hx
  have G:=data_ok m x h.app.fit
  refine⟨by rw[show 900*(n+1)=900*n+900 by omega];exact C,F.trans h.main,fun i B=>?_,⟨by rw[place_len,h.len.1],by simpa using h.len.2⟩,fun t A=>?_⟩
  · rcases place_mem B with rfl|B
    · exact D
    have:=h.idx i B
    have H:m.datas.length≤(m.data x).2.datas.length:=by
      rcases G.pre with e|⟨y,e,_⟩ <;> rw[e] <;> simp
    omega
  rcases List.mem_append.1 A with A|A
  · exact h.ps t A
  simp at A
  subst A
  have E:(m.data x).2.datas[(m.data x).1]? = some ((m.data x).2.datas.getD (m.data x).1 known0):=by simp[List.getD,D]
  exact(C.chains _ (List.mem_of_getElem? E)).2.2.1
theorem datasL_ok {m0:Mk}:∀(l:List Pr) (m:Mk) (ps:List (List UInt8)) (od:List Nat) (n:Nat),DatasOk m0 m ps od n→(∀q∈l,BD q) →
    DatasOk m0 (datasL l m ps od).2.2 (datasL l m ps od).1 (datasL l m ps od).2.1 (n+l.length)
  | [],m,ps,od,n,h,_=>h
  | x :: r,m,ps,od,n,h,hb=>by
    have h1:=datas_step h (hb x (by simp))
    have h2:=datasL_ok r _ _ _ _ h1 fun q hq=>hb q (by simp[hq])
    rw[show n+(x :: r).length=n+1+r.length by simp;omega]
    exact h2
theorem datas_start {m:Mk} (h:MkOk m):DatasOk m m [] [] 0:=⟨app_start h,q,by simp,⟨q,q⟩,by simp⟩
end Go.Wk
namespace Go.Wk
open Go Go.RowKit
section
variable {P:Program} {ops:Array Oper} {md:Region.Mode} {C:World→Prop} {Q:Exit→Act→World→Prop} {QN:Act→World→Prop}
variable {n:Nat} {A:Fr n} {D:List Deferred} {l:List (Nat × Value)} {w:World} {f:Nat} {listed:Array Bool}
theorem c_anyR {R:Act→World→Prop} {id:Nat} {lo:List Oper} {a:Act} (C:World→Prop) (hm:P.follows .mixedOrders=true) (hk:∀a' w',R a' w'→Q .normal a' w')
  (h:∀w',Md [] w w'→wpAnyC P .any lo.toArray C R lo.length (Array.replicate lo.length false) a w'):(Code.region id lo.toArray true).wp P Q a w:=by
 refine wp_region_any hm (wpAny_of_C (C:=C) (QN:=R) hk _ _ _ _ ?_)
 have:=h _ (Md.drew w)
 simpa using this
theorem any_0 {a:Act} (hr:(Region.ready md ops listed).isEmpty=true) (h:QN a w):wpAnyC P md ops C QN 0 listed a w:=⟨by simpa using hr,h⟩
theorem any_q {i d:Nat} {op:Op} {ty:TypeId} {ps:String} {af:Array Edge} (v:Value) (hi:ops[i]? = some ⟨some d,op,ty,ps,af,none⟩) (hs:Region.noSelect ops=true) (hB:((Region.ready md ops listed).contains i && Region.free md ops listed i)=true) (hC:C w)
    (hv:∀w',C w'→RunV P ⟨some d,op,ty,ps,af,none⟩ (over A D l).eval w' v) (k:wpAnyC P md ops C QN f (listed.setIfInBounds i true) (over A D ((d,v) :: l)) w):wpAnyC P md ops C QN (f+1) listed (over A D l) w:=by
  simp only[Bool.and_eq_true]at hB
  exact wpAnyC_first hi (Region.noSelect_spec hs) f listed _ w (Region.free_spec hi hB.2) (by simpa using hB.1) hC (.inl ⟨by simp[Region.wanted],fun w' B=>hv w' B⟩) k
theorem opC_of {i:Nat} {o:Oper} {a:Act} {K:Act→World→Prop} (hi:ops[i]? = some o) (hg:o.guard=none) (h:wpList P ops (fun e a' w'=>e = .normal∧C w'∧K a' w') [o] a w):opC P ops C i K a w:=by
  have D:Region.wanted o (yielded ops a.tmps)=true:=by unfold Region.wanted;rw[hg]
  unfold opC
  simp only[hi]
  rw[if_pos D]
  unfold wpList at h
  rw[if_pos D]at h
  rcases h with h|h
  · unfold Oper.wp at *
    generalize (execOp a.eval o).run P w=r at *
    cases r with
    | ok x w' =>
      cases x <;> simp only[Oper.upon]at h ⊢
      case value v=>exact(show _∧_ from h).2
      case skip=>exact(show _∧_ from h).2
      case defer d=>exact(show _∧_ from h).2
      case enter f args =>
        refine h.mono fun e B A=>?_
        cases e with
        | returned v=>exact(show _∧_ from A).2
        | panicked c=>exact absurd A.1 (by simp)
        | outgrown=>obtain⟨_,_,A⟩:=A;exact absurd A.1 (by simp)
      case row r args=>exact h.mono fun v B A=>(show _∧_ from A).2
    | halt x w' =>
      cases x <;> simp only[Oper.upon]at h ⊢
      exact absurd h.1 (by simp)
  obtain⟨_,_,_,A⟩:=h;exact absurd A.1 (by simp)
theorem any_1 {i:Nat} {o:Oper} {a:Act} (hr:decide (Region.ready md ops listed=[i])=true) (hi:ops[i]? = some o) (hg:o.guard=none)
    (h:wpList P ops (fun e a' w'=>e = .normal∧C w'∧wpAnyC P md ops C QN f (listed.setIfInBounds i true) a' w') [o] a w):wpAnyC P md ops C QN (f+1) listed a w:=by
  have hr:=dT hr
  refine⟨fun A=>(by rw[hr]at A;cases A),fun k hk=>?_⟩
  rw[hr]at hk
  have:k=i:=by simpa using hk
  subst this
  exact opC_of hi hg h
theorem any_2 {i j:Nat} {o o':Oper} {a:Act} (hr:decide (Region.ready md ops listed=[i,j])=true) (hi:ops[i]? = some o) (hg:o.guard=none) (hj:ops[j]? = some o') (hg':o'.guard=none)
    (h:wpList P ops (fun e a' w'=>e = .normal∧C w'∧wpAnyC P md ops C QN f (listed.setIfInBounds i true) a' w') [o] a w)
    (h':wpList P ops (fun e a' w'=>e = .normal∧C w'∧wpAnyC P md ops C QN f (listed.setIfInBounds j true) a' w') [o'] a w):wpAnyC P md ops C QN (f+1) listed a w:=by
  have hr:=dT hr
  refine⟨fun A=>(by rw[hr]at A;cases A),fun k hk=>?_⟩
  rw[hr]at hk
  have:k=i∨k=j:=by simpa using hk
  rcases this with rfl|rfl
  · exact opC_of hi hg h
  exact opC_of hj hg' h'
end
theorem els_any {β:Type} {f:β→Value} {h1:∀x,(f x).oneCell'=true} {ok:β→Prop} {w w':World} {R R':Nat→Prop}:∀{xs:List β} {cs:List Value},Els (tOne f h1 ok) w R cs xs→Els (tOne f h1 ok) w' R' cs xs
 | [],_,h=>h
 | _ :: _,_,⟨c,r,h0,h1,h2⟩=>⟨c,r,h0,h1,els_any h2⟩
theorem lz_any {β:Type} {f:β→Value} {h1:∀x,(f x).oneCell'=true} {ok:β→Prop} {w w':World} {R R':Nat→Prop} {v:Value} {xs:List β} (h:Lz (tOne f h1 ok) w R v xs) (m:Md [] w w'):Lz (tOne f h1 ok) w' R' v xs:=by
 obtain⟨a,A,B,C,h1,D,E,F,G⟩:=h
 exact⟨a,A,B,C,h1,D,E,fun p I j u H=>m.cell (F p I j u H) (by simp),els_any G⟩
theorem lz_one {β:Type} {f:β→Value} {h1:∀x,(f x).oneCell'=true} {ok:β→Prop} {w:World} {R:Nat→Prop} {b e:Nat} {x:β} (h:Blk w b [f x] e) (hx:ok x):Lz (tOne f h1 ok) w R (.slice (some ⟨b,0,none⟩) 1 1) [x]:=by
  have B:Ls (tOne f h1 ok) w (fun _=>True) (.slice (some ⟨b,0,none⟩) 1 1) [x]:=Ls.of_blk (cs:=[f x]) h ⟨[f x],[],q,⟨q,hx⟩,q⟩ q (by decide) trivial
  exact lz_any B.lz (Md.refl _ _)
structure New1 {α:Type} (T:Dt α) (w0:World) (Q0:Nat→Prop) (e:TypeId) (w:World) (R:Nat→Prop) (v:Value) (xs:List α):Prop where
  md:Md [] w0 w
  s:∀b,Q0 b→b<w0.heap.size→R b
  t:∀b,R b→Q0 b
  up:Up w R
  ow:Ow T e (Fsh [] w0) w R v xs
section
variable {α:Type} {T:Dt α} {P:Program} {ops:Array Oper} {Q:Exit→Act→World→Prop} {n:Nat} {A:Fr n} {D:List Deferred} {l:List (Nat × Value)} {w:World} {rest:List Oper}
theorem New1.mk0 {w0 w1 w:World} {Q0:Nat→Prop} {e b:Nat} (uQ:Up w0 Q0) (h1:Md [] w0 w1) (h2:w1.heap.size≤b) (h3:b<w.heap.size) (hm:Md [] w1 w) (hB:Blk w b [] e) :
    ∃R,New1 T w0 Q0 e w R (.slice (some ⟨b,0,none⟩) 0 0) []:=by
  obtain⟨R,s,t,C,u⟩:=exQ (uQ.md h1) h2 h3 hm
  exact⟨R,h1.k hm,fun b A B=>s b A (lj B h1.size),t,u,Ow.of_blk hB q q (by decide) (.inr (ly h1.size h2)) C⟩
theorem New1.o {w0 w w':World} {Q0 R:Nat→Prop} {e:TypeId} {v:Value} {xs:List α} (h:New1 T w0 Q0 e w R v xs) (m:Md [] w w'):New1 T w0 Q0 e w' R v xs :=
  ⟨h.md.k m,h.s,h.t,h.up.md m,h.ow.o m⟩
instance tpNew1 {w0 w w':World} {Q0 R:Nat→Prop} {e:TypeId} {v:Value} {xs:List α}:Tp w w' (New1 T w0 Q0 e w R v xs) (New1 T w0 Q0 e w' R v xs ):=⟨fun m h=>h.o m⟩
theorem st_apF {d:Nat} {x y:Operand} {ty:TypeId} {ps:String} {af:Array Edge} {t e:TypeId} {sz by':Nat} {v u:Value} {xs ys:List α} {w0:World} {Q0 R:Nat→Prop} (hn:T.n=sz) (ht:P.underlying t=some (.slice e)) (hE:elT P e sz by'=true) (hx:ev n l x=some v) (hy:ev n l y=some u)
    (F:New1 T w0 Q0 e w R v xs) (hY:Lz T w R u ys) (h63:xs.length+ys.length≤100000) (hb:by'≤1000)
    (k:∀v' w' R',New1 T w0 Q0 e w' R' v' (xs ++ ys)→Md (vblock v).toList w w'→wpList P ops Q rest (over A D ((d,v') :: l)) w') :
    wpList P ops Q (⟨some d,.call {callee:=.builtin .append,args:=#[x,y],argTypes:=#[t,t]},ty,ps,af,none⟩ :: rest) (over A D l) w:=by
  refine st_apZ hn ht hE hx hy F.ow hY F.up (fun b hb=>.inr (ly F.md.size hb)) (by omega) ?_ ?_
  · exact ly (Nat.mul_le_mul h63 hb) (by decide)
  intro v' w' R' E G H I B J K L
  refine k v' w' R' ⟨F.md.stepO B fun b hb=>(F.ow.2 b hb).1,fun b hb C=>E b (F.s b hb C) (lj C F.md.size),fun b hb=>F.t b (G b hb),H,I⟩ B
end
theorem back1 {ds:List Known} {p q:Nat} {od:List Nat} (h:0<q):backF ds p od q=if p<posAt ds (od.getD (q-1) 0)then backF ds p od (q-1)else q:=by
  obtain⟨n,rfl⟩:∃n,q=n+1:=⟨q-1,by omega⟩
  rfl
theorem back0 {ds:List Known} {p q:Nat} {od:List Nat} (h:¬0<q):backF ds p od q=q:=by
  obtain rfl:q=0:=by omega
  rfl
theorem posAt_get {ds:List Known} {i:Nat} {x:Known} (h:ds[i]? = some x):posAt ds i=x.pos:=by simp[posAt,List.getD,h]
theorem natD_get {l:List Nat} {i x:Nat} (h:l[i]? = some x):l.getD i 0=x:=by simp[List.getD,h]
theorem known_get {ds:List Known} {i:Nat} {x:Known} (h:ds[i]? = some x):ds.getD i known0=x:=by simp[List.getD,h]
theorem data_mono (m:Mk) (x:Pr) (h:m.fit):m.datas.length≤(m.data x).2.datas.length:=by
  rcases(data_ok m x h).pre with e|⟨y,e,_⟩ <;> rw[e] <;> simp
theorem datasL_end {l:List Pr} {m:Mk} {ps:List (List UInt8)} {od:List Nat} {i:Nat} (h:¬i<l.length):datasL (l.drop i) m ps od=(ps,od,m):=by rw[drop_end (by omega)];rfl
theorem datasL_step {l:List Pr} {m m':Mk} {ps:List (List UInt8)} {od:List Nat} {i k:Nat} {x:Pr} {y:Known} {q:Nat} (h:l[i]? = some x) (hd:m.data x=(k,m')) (hy:m'.datas[k]? = some y) (hq:backF m'.datas (posAt m'.datas k) od od.length=q) :
    datasL (l.drop i) m ps od=datasL (l.drop (i+1)) m' (ps ++ [y.text]) (od.take q ++ [k] ++ od.drop q):=by
  rw[drop_get h]
  show(match m.data x with|(k,m1)=>datasL (l.drop (i+1)) m1 (ps ++ [(m1.datas.getD k known0).text]) (placeF m1.datas k od))=_
  rw[hd]
  simp only[known_get hy]
  unfold placeF
  rw[hq]
theorem datas_next {m0 m m':Mk} {ps:List (List UInt8)} {od:List Nat} {n k q:Nat} {x:Pr} {y:Known} (h:DatasOk m0 m ps od n) (hx:BD x) (hd:m.data x=(k,m')) (hy:m'.datas[k]? = some y) (hq:backF m'.datas (posAt m'.datas k) od od.length=q) :
    DatasOk m0 m' (ps ++ [y.text]) (od.take q ++ [k] ++ od.drop q) (n+1):=by
  have:=datas_step h hx
  rw[hd]at this
  simp only[known_get hy]at this
  unfold placeF at this
  rw[hq]at this
  exact this
theorem itemsL_end {m:Mk} {od:List Nat} {j:Nat} {its:List Itm} (h:¬j<od.length):its ++ itemsL m (od.drop j)=its:=by rw[drop_end (by omega)];simp[itemsL]
theorem itemsL_step {m:Mk} {od:List Nat} {j i:Nat} {its:List Itm} {x:Known} (h:od[j]? = some i) (hx:m.datas[i]? = some x) :
    its ++ itemsL m (od.drop j)=(its ++ [{pos:=x.pos,hash:=hashN m.c.keyed m.c.file x.text}]) ++ itemsL m (od.drop (j+1)):=by
  rw[drop_get h]
  simp only[itemsL,List.map_cons,posAt_get hx,known_get hx,List.append_assoc,List.singleton_append]
theorem hangE_end {m:Mk} {od:List Nat} {j e:Nat} (h:¬j<od.length):hangE e (od.drop j) m=m:=by rw[drop_end (by omega)];rfl
theorem hangE_step {m:Mk} {od:List Nat} {j i e:Nat} (h:od[j]? = some i):hangE e (od.drop j) m=hangE e (od.drop (j+1)) (hang1 e i m):=by rw[drop_get h,hangE_cons]
theorem app_le {m0 m:Mk} {d e e' j:Nat} (h:AppOk m0 m d e j) (he:e≤e'):AppOk m0 m d e' j:=⟨h.fit,h.c,h.n8,h.chains,h.nd,h.nf,h.ge,ly h.le (by omega)⟩
theorem hang1_a {m:Mk} {e i:Nat} {k:Known} (hk:m.datas[i]? = some k) (h0:k.count=0) :
    hang1 e i m={(m.put (k.pos+40) e).put (k.pos+56) 1 with datas:=m.datas.set i {k with count:=1}}:=by
  unfold hang1
  simp only[known_get hk]
  rw[if_pos h0]
  rfl
theorem hang1_b {m m1:Mk} {e i t:Nat} {a:List Nat} {k:Known} (hk:m.datas[i]? = some k) (h0:¬k.count=0) (hl:m.link k.arrays (k.count-1) (k.pos+48) e=(a,t,m1)) :
    hang1 e i m={m1.put (k.pos+56) (k.count+1)with datas:=m1.datas.set i {k with arrays:=a,count:=k.count+1}}:=by
  unfold hang1
  simp only[known_get hk]
  rw[if_neg h0,hl]
  rfl
theorem append_done {m x m29 m3 z:Mk} {raw l:List Pr} {c real mono e t:Nat} {boot:Ly} {ps:List (List UInt8)} {od a:List Nat} (h1:listF raw=(l,c)) (h2:¬c≠0) (h3:¬m.num 9=18446744073709551615) (h4:datasL l m [] []=(ps,od,x))
    (h5:x.object (putEntryF {seq:=(x.num 9+1)%18446744073709551616,real:=real,mono:=mono,boot:=boot,xor:=xorF 0 ps,items:=itemsL x od})=(e,m29)) (h6:m29.link m29.main (m29.num 8) 176 e=(a,t,m3))
    (h7:hangE e od (let m4:=({m3 with main:=a}:Mk).setN 11 (a.getD 0 0);{m4 with h:={m4.h with tailArray:=lastN a%4294967296,tailItems:=t%4294967296}})=z) :
    m.append raw real mono boot=if z.c.most<z.b.length then(0,15,m)else
      (let seq:=(x.num 9+1)%18446744073709551616
      let m7:=if m29.num 8=0 then(z.setN 10 seq).setN 12 real else z
      let m8:=m7.setN 8 ((m7.num 8+1)%18446744073709551616)
      let m9:=((m8.setN 9 seq).setN 13 real).setN 14 mono
      (seq,0,{m9 with h:={m9.h with boot:=boot,tailEntry:=e}})):=by
  unfold Mk.append
  simp only[h1]
  rw[if_neg h2,if_neg h3]
  simp only[h4,h5,h6]
  simp only at h7
  rw[h7]
end Go.Wk
namespace Go.Wk
open Go Go.RowKit
theorem getD_set_eq' {l:List Nat} {i v:Nat} (h:i<l.length):(l.set i v).getD i 0=v:=by simp[List.getD,h]
def finM (z:Mk) (n seq real mono e:Nat) (boot:Ly):Mk :=
  let m7:=if n=0 then(z.setN 10 seq).setN 12 real else z
  let m8:=m7.setN 8 ((m7.num 8+1)%18446744073709551616)
  let m9:=((m8.setN 9 seq).setN 13 real).setN 14 mono
  {m9 with h:={m9.h with boot:=boot,tailEntry:=e}}
theorem finM_spec (z:Mk) (n seq real mono e:Nat) (boot:Ly):(finM z n seq real mono e boot).b=z.b∧(finM z n seq real mono e boot).c=z.c∧(finM z n seq real mono e boot).datas=z.datas∧(finM z n seq real mono e boot).fields=z.fields∧(finM z n seq real mono e boot).main=z.main ∧
    (finM z n seq real mono e boot).h.n.getD 2 0=z.h.n.getD 2 0∧(finM z n seq real mono e boot).h.n.getD 4 0=z.h.n.getD 4 0∧(finM z n seq real mono e boot).h.n.length=z.h.n.length ∧
    (z.h.n.length=20→(finM z n seq real mono e boot).n8=(z.n8+1)%18446744073709551616∧(finM z n seq real mono e boot).num 9=seq):=by
  unfold finM
  simp only
  generalize hm7:(if n=0 then(z.setN 10 seq).setN 12 real else z)=m7
  have A:m7.b=z.b∧m7.c=z.c∧m7.datas=z.datas∧m7.fields=z.fields∧m7.main=z.main∧m7.h.n.getD 8 0=z.h.n.getD 8 0∧m7.h.n.getD 2 0=z.h.n.getD 2 0∧m7.h.n.getD 4 0=z.h.n.getD 4 0∧m7.h.n.length=z.h.n.length:=by
    subst hm7
    split
    · exact⟨q,q,q,q,q,(getD_set_ne' (by decide)).trans (getD_set_ne' (by decide)),(getD_set_ne' (by decide)).trans (getD_set_ne' (by decide)),(getD_set_ne' (by decide)).trans (getD_set_ne' (by decide)),by simp[Mk.setN]⟩
    · exact⟨q,q,q,q,q,q,q,q,q⟩
  obtain⟨C,D,E,F,G,H,I,J,K⟩:=A
  clear hm7
  refine⟨C,D,E,F,G,?_,?_,?_,fun B=>⟨?_,?_⟩⟩
  · rw[← I]
    exact(getD_set_ne' (by decide)).trans ((getD_set_ne' (by decide)).trans ((getD_set_ne' (by decide)).trans (getD_set_ne' (by decide))))
  · rw[← J]
    exact(getD_set_ne' (by decide)).trans ((getD_set_ne' (by decide)).trans ((getD_set_ne' (by decide)).trans (getD_set_ne' (by decide))))
  · rw[← K];simp[Mk.setN]
  · have e:m7.num 8=z.n8:=H
    rw[e]
    exact(getD_set_ne' (by decide)).trans ((getD_set_ne' (by decide)).trans ((getD_set_ne' (by decide)).trans (getD_set_eq' (by omega))))
  exact(getD_set_ne' (by decide)).trans ((getD_set_ne' (by decide)).trans (getD_set_eq' (by simp[Mk.setN];omega)))
theorem append_ok {m:Mk} (h:MkOk m) {raw:List Pr} {real mono:Nat} {boot:Ly} (hb:boot.length=16) (h20:(m.append raw real mono boot).2.2.h.n.length=20):MkOk (m.append raw real mono boot).2.2:=by
  rcases hl:listF raw with⟨l,c⟩
  by_cases h2:c≠0
  · have e:m.append raw real mono boot=(0,c,m):=by unfold Mk.append;simp only[hl];rw[if_pos h2]
    rw[e];exact h
  by_cases h3:m.num 9=18446744073709551615
  · have e:m.append raw real mono boot=(0,1,m):=by unfold Mk.append;simp only[hl];rw[if_neg h2,if_pos h3]
    rw[e];exact h
  obtain⟨w,ll⟩:=listF_bd hl
  have D:=datasL_ok l m [] [] 0 (datas_start h) w
  rcases hd:datasL l m [] []with⟨ps,M,x⟩
  rw[hd,Nat.zero_add]at D
  simp only at D
  have s1:=h.small
  have s4:=h.nb
  have d1:=D.app.ge
  have d2:=D.app.le
  have d5:=D.len.1
  have Ad:=D.app.n8
  generalize hE:({seq:=(x.num 9+1)%18446744073709551616,real:=real,mono:=mono,boot:=boot,xor:=xorF 0 ps,items:=itemsL x M}:Ent)=E
  have eb:E.boot.length=16:=by subst hE;exact hb
  have ei:E.items.length=M.length:=by subst hE;simp[itemsL]
  have el:=putEntryF_len E eb
  have C:=app_object (L:=400) (o:=putEntryF E) D.app (by omega)
  have d:=(object_spec x (putEntryF E)).2.1
  have S:=(object_same x (putEntryF E)).2.2.2
  have O:=(object_same x (putEntryF E)).2.1
  rcases ho:x.object (putEntryF E)with⟨e,B⟩
  rw[ho]at C d S O
  simp only at C d S O
  have N:B.h.n.getD 8 0=m.n8:=C.n8
  have Z:chainFit B.b.length B.main (B.num 8):=by
    rw[show B.num 8=m.n8 from N,S,D.main];exact chain_mono h.main C.ge
  have K:=link_ok B B.main (B.num 8) 176 e Z
  have G:=app_link (src:=176) (item:=e) C Z
  rcases hk:B.link B.main (B.num 8) 176 e with⟨a,t,P⟩
  rw[hk]at K G
  simp only at K G
  generalize hY:(let m4:=({P with main:=a}:Mk).setN 11 (a.getD 0 0);({m4 with h:={m4.h with tailArray:=lastN a%4294967296,tailItems:=t%4294967296}}:Mk))=Y
  have F:AppOk m Y l.length (900*l.length+400+2100+0) 0:=by
    subst hY
    exact app_of (e':=0) G q (getD_set_ne' (by decide)) (getD_set_ne' (by decide)) (getD_set_ne' (by decide)) q q (Nat.le_refl _) (Nat.le_refl _) (Nat.le_refl _)
  have u:Y.b=P.b:=by subst hY;rfl
  have X:Y.datas=P.datas:=by subst hY;rfl
  have v:Y.main=a:=by subst hY;rfl
  obtain⟨A,zm,zd⟩:=hangE_ok (en:=e) M Y _ _ F (fun i T=>by rw[X,K.datas,O];exact D.idx i T)
  have y8:Y.n8=m.n8:=F.n8
  have Q:=(hangE_ok (en:=e) M Y 0 0 ⟨F.fit,q,q,by rw[y8];exact F.chains,Nat.le_add_right _ 0,Nat.le_add_right _ 0,Nat.le_refl _,Nat.le_refl _⟩ (fun i T=>by rw[X,K.datas,O];exact D.idx i T)).1
  have U:=append_done (real:=real) (mono:=mono) (boot:=boot) hl h2 h3 hd (by rw[hE];exact ho) hk (z:=hangE e M Y) (by rw[hY])
  generalize hangE e M Y=z at *
  replace U:m.append raw real mono boot=if z.c.most<z.b.length then(0,15,m)else((x.num 9+1)%18446744073709551616,0,finM z (B.num 8) ((x.num 9+1)%18446744073709551616) real mono e boot):=U
  rw[U]at h20 ⊢
  split at h20
  · rename_i hm
    rw[if_pos hm];exact h
  rename_i hm
  rw[if_neg hm]
  have q1:=A.ge
  have q2:=A.le
  have q3:=A.nd
  have q4:=A.nf
  have j:=A.c
  have z8:z.n8=m.n8:=A.n8
  have H:=h.most
  have r1:=h.nd
  have r2:=h.nf
  have g3:=K.ge
  have y:P.b.length≤z.b.length:=by have h:=Q.ge;rw[u]at h;exact h
  obtain⟨J,V,W,g,kz5,p,r,kl,kz8⟩:=finM_spec z (B.num 8) ((x.num 9+1)%18446744073709551616) real mono e boot
  simp only at h20 ⊢
  generalize finM z (B.num 8) ((x.num 9+1)%18446744073709551616) real mono e boot=R at *
  have I:=(kz8 (by omega)).1
  rw[z8,Nat.mod_eq_of_lt (by omega)]at I
  refine⟨fit_mono A.fit ⟨by rw[V],by rw[V],p,r,by rw[J];exact Nat.le_refl _⟩ (fun k hk=>.inl (W ▸ hk)) (fun k hk=>.inl (g ▸ hk)),?_,?_,?_,?_,?_,?_,?_,?_⟩
  · rw[I,J,kz5,zm,v]
    have f:=K.chain
    rw[show B.num 8=m.n8 from N]at f
    exact chain_mono f y
  · intro k hk
    rw[W]at hk
    obtain⟨u1,u2,u3,u4⟩:=A.chains k hk
    rw[J,I]
    exact⟨u1,u2,u3,by omega⟩
  · rw[W,I];omega
  · rw[g,I];omega
  · rw[J,I];omega
  · rw[J];rw[j]at hm;omega
  · rw[V,j];exact H
  rw[J];have:=h.hd;omega
theorem newMk_ok {c:Cfg} {t:Nat} (h:c.dataSlots≤10∧c.fieldSlots≤10) (h1:1≤c.dataSlots∧1≤c.fieldSlots) (h2:c.most≤40000):MkOk (newMk c t):=by
  have D:=(putTableF_lenA 4 (List.replicate c.dataSlots {first:=0,tail:=0})).2 (.inl q)
  have E:=(putTableF_lenA 5 (List.replicate c.fieldSlots {first:=0,tail:=0})).2 (.inr q)
  have e:(newMk c t).b=List.replicate 272 0 ++ putTableF 4 (List.replicate c.dataSlots {first:=0,tail:=0}) ++ putTableF 5 (List.replicate c.fieldSlots {first:=0,tail:=0}):=rfl
  have A:=congrArg List.length e
  simp only[List.length_append,List.length_replicate]at D E A
  have B:(newMk c t).n8=0:=rfl
  have C:(newMk c t).datas=[]:=rfl
  have F:(newMk c t).fields=[]:=rfl
  refine⟨⟨h1.1,by show c.dataSlots≤64;omega,h1.2,by show c.fieldSlots≤64;omega,?_,?_,(fun k hk=>by rw[C]at hk;simp at hk),(fun k hk=>by rw[F]at hk;simp at hk)⟩,by rw[B];exact chain_nil _,(fun k hk=>by rw[C]at hk;simp at hk),by rw[B];exact Nat.le_refl _,by rw[B];exact Nat.le_refl _,by omega,by omega,h2,by omega⟩
  · have:(newMk c t).h.n.getD 2 0=288:=rfl
    rw[this,A];show 288+16*c.dataSlots≤_;omega
  have:(newMk c t).h.n.getD 4 0=(List.replicate 272 (0:UInt8) ++ putTableF 4 (List.replicate c.dataSlots {first:=0,tail:=0})).length+16:=rfl
  rw[this,A,List.length_append,List.length_replicate];show _+16*c.fieldSlots≤_;omega
theorem config_ok (s:Sq):(s.config.1.dataSlots≤10∧s.config.1.fieldSlots≤10)∧(1≤s.config.1.dataSlots∧1≤s.config.1.fieldSlots)∧s.config.1.most≤40000:=by
  refine⟨config_slots s,?_⟩
  rcases h1:s.num 5 with⟨a,A⟩
  rcases h2:A.num 5 with⟨b,B⟩
  rcases h3:B.num 5 with⟨c,C⟩
  rcases h4:C.num 7 with⟨d,D⟩
  rcases h5:D.num 4 with⟨e,E⟩
  rcases h6:E.num 2 with⟨f,F⟩
  simp only[Sq.config,h1,h2,h3,h4,h5,h6]
  omega
theorem record_ok (s:Sq) (n:Nat):(∀q∈(s.record n).1.fields,BD q)∧(s.record n).1.fields.length≤16:=by
  rcases h1:s.pairs 4 with⟨A,B⟩
  rcases h2:B.num 40 with⟨a,C⟩
  rcases h3:C.num 9 with⟨b,D⟩
  rcases h4:D.num 3 with⟨c,E⟩
  simp only[Sq.record,h1,h2,h3,h4]
  exact listF_bd (show listF A=((listF A).1,(listF A).2)from rfl)
theorem record_boot (s:Sq) (n:Nat):(s.record n).1.boot.length=16:=by
  rcases h1:s.pairs 4 with⟨D,A⟩
  rcases h2:A.num 40 with⟨a,B⟩
  rcases h3:B.num 9 with⟨b,C⟩
  rcases h4:C.num 3 with⟨c,E⟩
  simp only[Sq.record,h1,h2,h3,h4]
  simp[idF]
theorem makerL_end {most:Nat} {s:Sq} {m:Mk} {rs:List Rec} (h:¬(rs.length<most∧s.pos<s.l.length)):makerL (most-rs.length) s m rs=(m,rs,s):=by
  by_cases h1:rs.length<most
  · obtain⟨n,B⟩:∃n,most-rs.length=n+1:=⟨most-rs.length-1,by omega⟩
    rw[B]
    show(if s.pos<s.l.length then _ else(m,rs,s))=_
    rw[if_neg (fun A=>h ⟨h1,A⟩)]
  rw[show most-rs.length=0 by omega];rfl
theorem makerL_no {most c e:Nat} {s s1:Sq} {m m1:Mk} {rs:List Rec} {r:Rec} (h:rs.length<most) (h2:s.pos<s.l.length) (hr:s.record ((m.num 9+1)%18446744073709551616)=(r,s1)) (ha:m.append r.fields r.real r.mono r.boot=(e,c,m1)) (hc:c≠0) :
    makerL (most-rs.length) s m rs=(m1,rs,s1):=by
  obtain⟨n,A⟩:∃n,most-rs.length=n+1:=⟨most-rs.length-1,by omega⟩
  rw[A]
  unfold makerL
  rw[if_pos h2]
  simp only[hr,ha]
  rw[if_pos hc]
theorem makerL_on {most c e:Nat} {s s1:Sq} {m m1:Mk} {rs:List Rec} {r:Rec} (h:rs.length<most) (h2:s.pos<s.l.length) (hr:s.record ((m.num 9+1)%18446744073709551616)=(r,s1)) (ha:m.append r.fields r.real r.mono r.boot=(e,c,m1)) (hc:¬c≠0) :
    makerL (most-rs.length) s m rs=makerL (most-(rs ++ [r]).length) s1 m1 (rs ++ [r]):=by
  obtain⟨n,A⟩:∃n,most-rs.length=n+1:=⟨most-rs.length-1,by omega⟩
  rw[A]
  rw[makerL,if_pos h2]
  simp only[hr,ha]
  rw[if_neg hc,show most-(rs ++ [r]).length=n by simp;omega]
theorem nl_object (m:Mk) (o:Ly):(m.object o).2.h.n.length=m.h.n.length:=by simp[Mk.object,Mk.setN]
theorem nl_hang (m:Mk) (l:List Known) (t p s:Nat):(m.hang l t p s).2.h=m.h:=by rw[(hang_eq m l t p s).1]
theorem nl_field (m:Mk) (x:Ly):(m.field x).2.h.n.length=m.h.n.length:=by
  unfold Mk.field
  split
  · rfl
  simp only
  have B:=nl_object m (putFieldF {hash:=hashN m.c.keyed m.c.file x,nextHash:=0,dat:=0,payload:=x})
  generalize m.object (putFieldF {hash:=hashN m.c.keyed m.c.file x,nextHash:=0,dat:=0,payload:=x})=r at *
  obtain⟨p,A⟩:=r
  simp only at B ⊢
  have C:=nl_hang A A.fields (A.num 4) p (hashN m.c.keyed m.c.file x%A.c.fieldSlots)
  generalize A.hang A.fields (A.num 4) p (hashN m.c.keyed m.c.file x%A.c.fieldSlots)=r at *
  obtain⟨n,D⟩:=r
  simp only at C ⊢
  simp only[Mk.setN,List.length_set,C]
  exact B
theorem nl_data (m:Mk) (x:Pr):(m.data x).2.h.n.length=m.h.n.length:=by
  unfold Mk.data
  split
  · rfl
  simp only
  have C:=nl_object m (putDataF {hash:=hashN m.c.keyed m.c.file (payload x),nextHash:=0,nextField:=0,entry:=0,array:=0,count:=0,payload:=payload x})
  generalize m.object (putDataF {hash:=hashN m.c.keyed m.c.file (payload x),nextHash:=0,nextField:=0,entry:=0,array:=0,count:=0,payload:=payload x})=r at *
  obtain⟨p,A⟩:=r
  simp only at C ⊢
  have D:=nl_hang A A.datas (A.num 2) p (hashN m.c.keyed m.c.file (payload x)%A.c.dataSlots)
  generalize A.hang A.datas (A.num 2) p (hashN m.c.keyed m.c.file (payload x)%A.c.dataSlots)=r at *
  obtain⟨n,B⟩:=r
  simp only at D ⊢
  generalize hx5:({(B.setN 19 (max (B.num 19) n)).setN 15 (((B.setN 19 (max (B.num 19) n)).num 15+1)%18446744073709551616)with datas:=((B.setN 19 (max (B.num 19) n)).setN 15 (((B.setN 19 (max (B.num 19) n)).num 15+1)%18446744073709551616)).datas ++ [({text:=payload x,pos:=p,slot:=hashN m.c.keyed m.c.file (payload x)%A.c.dataSlots,count:=0,arrays:=[]}:Known)]}:Mk)=m5
  have E:m5.h.n.length=m.h.n.length:=by subst hx5;simp only[Mk.setN,List.length_set,D];exact C
  have F:=nl_field m5 x.name
  generalize m5.field x.name=r at *
  obtain⟨k,G⟩:=r
  exact F.trans E
theorem nl_datasL:∀(l:List Pr) (m:Mk) (ps:List (List UInt8)) (od:List Nat),(datasL l m ps od).2.2.h.n.length=m.h.n.length
  | [],_,_,_=>rfl
  | x :: r,m,ps,od=>(nl_datasL r _ _ _).trans (nl_data m x)
theorem nl_link (m:Mk) (a:List Nat) (n src item:Nat):(m.link a n src item).2.2.h.n.length=m.h.n.length:=by
  unfold Mk.link
  generalize roomsL a 0 0 0=r
  obtain⟨A,D⟩:=r
  simp only
  split
  · have B:=nl_object m (putArrayF {next:=0,items:=List.replicate (roomF (a.length:Int)) 0})
    generalize m.object (putArrayF {next:=0,items:=List.replicate (roomF (a.length:Int)) 0})=r at *
    obtain⟨p,C⟩:=r
    simp only at B ⊢
    split
    · show(C.setN 18 _).h.n.length=_
      simp only[Mk.setN,List.length_set];exact B
    show(C.setN 18 _).h.n.length=_
    simp only[Mk.setN,List.length_set];exact B
  rfl
theorem nl_hangE (e:Nat):∀(od:List Nat) (m:Mk),(hangE e od m).h.n.length=m.h.n.length
  | [],_=>rfl
  | i :: r,m=>by
    rw[hangE_cons,nl_hangE e r]
    unfold hang1
    simp only
    split
    · rfl
    · exact nl_link m _ _ _ _
theorem nl_append (m:Mk) (raw:List Pr) (real mono:Nat) (boot:Ly):(m.append raw real mono boot).2.2.h.n.length=m.h.n.length:=by
  rcases hl:listF raw with⟨l,c⟩
  by_cases h2:c≠0
  · have e:m.append raw real mono boot=(0,c,m):=by unfold Mk.append;simp only[hl];rw[if_pos h2]
    rw[e]
  by_cases h3:m.num 9=18446744073709551615
  · have e:m.append raw real mono boot=(0,1,m):=by unfold Mk.append;simp only[hl];rw[if_neg h2,if_pos h3]
    rw[e]
  have D:=nl_datasL l m [] []
  rcases hd:datasL l m [] []with⟨I,C,x⟩
  rw[hd]at D
  have E:=nl_object x (putEntryF {seq:=(x.num 9+1)%18446744073709551616,real:=real,mono:=mono,boot:=boot,xor:=xorF 0 I,items:=itemsL x C})
  rcases ho:x.object (putEntryF {seq:=(x.num 9+1)%18446744073709551616,real:=real,mono:=mono,boot:=boot,xor:=xorF 0 I,items:=itemsL x C})with⟨e,A⟩
  rw[ho]at E
  have F:=nl_link A A.main (A.num 8) 176 e
  rcases hk:A.link A.main (A.num 8) 176 e with⟨a,t,H⟩
  rw[hk]at F
  simp only at D E F
  have B:m.append raw real mono boot=_:=append_done (real:=real) (mono:=mono) (boot:=boot) hl h2 h3 hd ho hk q
  have G:=nl_hangE e C (let m4:=({H with main:=a}:Mk).setN 11 (a.getD 0 0);{m4 with h:={m4.h with tailArray:=lastN a%4294967296,tailItems:=t%4294967296}})
  generalize hangE e C (let m4:=({H with main:=a}:Mk).setN 11 (a.getD 0 0);{m4 with h:={m4.h with tailArray:=lastN a%4294967296,tailItems:=t%4294967296}})=z at B G
  replace B:m.append raw real mono boot=if z.c.most<z.b.length then(0,15,m)else((x.num 9+1)%18446744073709551616,0,finM z (A.num 8) ((x.num 9+1)%18446744073709551616) real mono e boot):=B
  rw[B]
  split
  · rfl
  show(finM _ _ _ _ _ _ _).h.n.length=_
  rw[(finM_spec _ _ _ _ _ _ _).2.2.2.2.2.2.2.1,G]
  simp only[Mk.setN,List.length_set]
  omega
theorem makerL_ok:∀(n:Nat) (s:Sq) (m:Mk) (rs:List Rec),MkOk m→m.h.n.length=20→MkOk (makerL n s m rs).1∧(makerL n s m rs).1.h.n.length=20
  | 0,_,_,_,h,h2=>⟨h,h2⟩
  | n+1,s,m,rs,h,h2=>by
    unfold makerL
    split
    · rcases hr:s.record ((m.num 9+1)%18446744073709551616)with⟨r,s1⟩
      have hb:r.boot.length=16:=by
        have:=record_boot s ((m.num 9+1)%18446744073709551616)
        rw[hr]at this;exact this
      have A:=nl_append m r.fields r.real r.mono r.boot
      have B:=append_ok (raw:=r.fields) (real:=r.real) (mono:=r.mono) h hb (A.trans h2)
      rcases ha:m.append r.fields r.real r.mono r.boot with⟨e,c,C⟩
      rw[ha]at A B
      simp only[ha]
      split
      · exact⟨B,A.trans h2⟩
      · exact makerL_ok n s1 C _ B (A.trans h2)
    · exact⟨h,h2⟩
theorem maker_ok {s s':Sq} {most:Nat} {m:Mk} {rs:List Rec} (h:s.maker most=(m,rs,s')):MkOk m∧m.h.n.length=20:=by
  have A:=config_ok s
  rcases h1:s.config with⟨c,B⟩
  rcases h2:B.num 6 with⟨t,C⟩
  rw[h1]at A
  simp only[Sq.maker,h1,h2]at h
  have:=makerL_ok most C (newMk c t) [] (newMk_ok A.1 A.2.1 A.2.2) q
  rw[h]at this
  exact this
theorem imageM_len {m:Mk} (ok:RHead.ok m.h) (hb:m.b.length≤40000):(imageM m 1).length≤100000:=by
  unfold imageM
  rw[List.length_append,headF_len {m.h with state:=1,n:=m.h.n.set 1 (m.b.length-272)} m.depth ⟨ok.1,ok.2.1,(by decide:(1:Nat)<9223372036854775808),ok.2.2.2.1,ok.2.2.2.2.1,ok.2.2.2.2.2.1,ok.2.2.2.2.2.2.1,nums_set ok.2.2.2.2.2.2.2.1 (by omega),ok.2.2.2.2.2.2.2.2⟩,List.length_drop]
  omega
end Go.Wk
namespace Go.Wk
open Go Go.RowKit
section
variable {P:Program} {n:Nat} {A:Fr n} {D:List Deferred} {l:List (Nat × Value)} {w:World} {d:Option Tmp} {ty:TypeId} {ps:String} {af:Array Edge} {g:Option (Nat × Bool)}
end
theorem open_len {b:Ly} {x:Option PView} {c:Nat} {y:PView} (h:openF b=(x,c)) (e:x=some y):y.b.length≤b.length:=by
  subst e
  unfold openF at h
  split at h
  · cases congrArg Prod.fst h
  have:=Option.some.inj (congrArg Prod.fst h)
  rw[← this];simp;omega
end Go.Wk
namespace Go.Wk
open Go Go.RowKit
end Go.Wk
namespace Go.Wk
open Go Go.RowKit
def slotsAt (b:Ly) (p n:Nat):List Slt:=(List.range n).map fun i=>{first:=at8 b (p+16*i),tail:=at8 b (p+16*i+8)}
theorem slotsAt_len (b:Ly) (p n:Nat):(slotsAt b p n).length=n:=by simp[slotsAt]
theorem slotsAt_succ (b:Ly) (p n:Nat):slotsAt b p (n+1)=slotsAt b p n ++ [{first:=at8 b (p+16*n),tail:=at8 b (p+16*n+8)}]:=by simp[slotsAt,List.range_succ]
def readTabF (b:Ly) (p:Nat) (k:Int):List Slt × Nat :=
  if ¬(k=4∨k=5)then([],1)
  else if(bodyF b p k.toNat 0 16).2≠0 then([],(bodyF b p k.toNat 0 16).2)
  else(slotsAt (bodyF b p k.toNat 0 16).1 0 ((bodyF b p k.toNat 0 16).1.length/16),0)
theorem tab_1 {b:Ly} {p:Nat} {k:Int} (h:¬(k=4∨k=5)):readTabF b p k=([],1):=by unfold readTabF;rw[if_pos h]
theorem tab_no {b x:Ly} {p k c:Nat} (hk:(k:Int)=4∨(k:Int)=5) (h:bodyF b p k 0 16=(x,c)) (hc:c≠0):readTabF b p (k:Int)=([],c):=by
  unfold readTabF;rw[if_neg (fun h=>h hk),Int.toNat_natCast,h,if_pos hc]
theorem tab_ok {b x:Ly} {p k c:Nat} {l:List Slt} (hk:(k:Int)=4∨(k:Int)=5) (h:bodyF b p k 0 16=(x,c)) (hc:¬c≠0) (hl:l=slotsAt x 0 (x.length/16)):readTabF b p (k:Int)=(l,0):=by
  unfold readTabF;rw[if_neg (fun h=>h hk),Int.toNat_natCast,h,if_neg hc,hl]
theorem slots_add {x:Ly} {l:List Slt} {m:List Nat} {i n v u:Nat} (hl:l=slotsAt x 0 (i/2)) (hi:i%2=0) (hm:m=numsAt x 0 n) (hv:m[i]? = some v) (hu:m[i+1]? = some u):l ++ [{first:=v,tail:=u}]=slotsAt x 0 ((i+2)/2):=by
  subst hm
  rw[show(i+2)/2=i/2+1 by omega,slotsAt_succ,hl,(nums_get hv).1,(nums_get hu).1,show 0+16*(i/2)=0+8*i by omega,show 0+8*(i+1)=0+8*i+8 by omega]
def tabF (n:List Nat) (b:Ly) (k:Int):List Slt × Nat :=
  if(readTabF b ((if k=4 then n.getD 2 0 else n.getD 4 0)-16) k).2≠0 then([],(readTabF b ((if k=4 then n.getD 2 0 else n.getD 4 0)-16) k).2)
  else if(readTabF b ((if k=4 then n.getD 2 0 else n.getD 4 0)-16) k).1.length≠(if k=4 then n.getD 3 0 else n.getD 5 0)/16 then([],14)
  else readTabF b ((if k=4 then n.getD 2 0 else n.getD 4 0)-16) k
end Go.Wk
namespace Go.Wk
open Go Go.RowKit
end Go.Wk
namespace Go.Wk
open Go Go.RowKit
theorem table_ge {h:PHead} {a s e:Nat} (ht:tableF h a s e=0):16≤a:=by
  unfold tableF at ht
  repeat' split at ht
  all_goals omega
theorem open_tab {b:Ly} {y:PView} {x:Option PView} {c:Nat} (h:openF b=(x,c)) (hy:x=some y):272≤b.length∧16≤y.h.n.getD 2 0∧16≤y.h.n.getD 4 0:=by
  subst hy
  unfold openF at h
  split at h
  · cases h
  rename_i h1
  have C:readF b=((readF b).1,0):=by rw[← Classical.not_not.1 h1]
  obtain⟨B,D,A⟩:=read_fine C
  have e:y.h=(readF b).1:=by
    have:=congrArg Prod.fst h
    simp only[Option.some.injEq]at this
    rw[← this]
  rw[e]
  refine⟨B,?_⟩
  unfold amissF at A
  repeat' split at A
  all_goals first|omega|skip
  rename_i h7
  exact⟨table_ge (Classical.not_not.1 h7),table_ge A⟩
end Go.Wk
namespace Go.Wk
open Go Go.RowKit
def nodH (s:Nat) (b:Ly) (k:Int) (p:Nat):Nat:=if k=4 then(datAt s b p).1.hash else(fldAt s b p).1.hash
def nodN (s:Nat) (b:Ly) (k:Int) (p:Nat):Nat:=if k=4 then(datAt s b p).1.nextHash else(fldAt s b p).1.nextHash
def nodP (s:Nat) (b:Ly) (k:Int) (p:Nat):List UInt8:=if k=4 then(datAt s b p).1.payload else(fldAt s b p).1.payload
def nodC (s:Nat) (b:Ly) (k:Int) (p:Nat):Nat:=if k=4 then(datAt s b p).2 else(fldAt s b p).2
def fdL (nx cd:Nat→Nat) (is:Nat→Bool) (len:Nat):Nat→Nat→Nat→Nat × Nat
  | 0,_,_=>(0,0)
  | k+1,p,a=>if p=0∨len≤p then(0,0)else if p≤a then(0,12)else if cd p≠0 then(0,cd p)else if is p=true then(p,0)else fdL nx cd is len k (nx p) p
def dsL (nx cd:Nat→Nat) (len:Nat):Nat→Nat→Nat→List Nat→List Nat × Nat
  | 0,_,_,o=>(o,0)
  | k+1,p,a,o=>if p=0∨len≤p then(o,0)else if a≤p then(o,12)else if cd p≠0 then(o,cd p)else dsL nx cd len k (nx p) p (o ++ [p])
section
variable {nx cd:Nat→Nat} {is:Nat→Bool} {len p a c:Nat} {o:List Nat}
theorem fdL_any (m:Nat):∀(k p a:Nat),len-a<k→fdL nx cd is len (k+m) p a=fdL nx cd is len k p a
 | 0,_,_,h=>by omega
 | k+1,p,a,h=>by
  rw[show k+1+m=(k+m)+1 by omega,fdL,fdL]
  split
  ·rfl
  ·split
   ·rfl
   ·split
    ·rfl
    ·split
     ·rfl
     ·exact fdL_any m k _ _ (by omega)
theorem dsL_any (m:Nat):∀(k p a:Nat) (o:List Nat),a<k∨len<k→dsL nx cd len (k+m) p a o=dsL nx cd len k p a o
 | 0,_,_,_,h=>by omega
 | k+1,p,a,o,h=>by
  rw[show k+1+m=(k+m)+1 by omega,dsL,dsL]
  split
  ·rfl
  ·split
   ·rfl
   ·split
    ·rfl
    ·exact dsL_any m k _ _ _ (by omega)
def fdF (nx cd:Nat→Nat) (is:Nat→Bool) (len p a:Nat):Nat × Nat:=fdL nx cd is len (len-a+1) p a
def dsF (nx cd:Nat→Nat) (len p a:Nat) (o:List Nat):List Nat × Nat:=dsL nx cd len (len+1) p a o
theorem fd_end (h:p=0∨len≤p):fdF nx cd is len p a=(0,0):=by unfold fdF;rw[fdL,if_pos h]
theorem fd_loop (h:¬(p=0∨len≤p)) (h1:p≤a):fdF nx cd is len p a=(0,12):=by unfold fdF;rw[fdL,if_neg h,if_pos h1]
theorem fd_bad (h:¬(p=0∨len≤p)) (h1:¬p≤a) (h2:cd p=c) (hc:c≠0):fdF nx cd is len p a=(0,c):=by subst h2;unfold fdF;rw[fdL,if_neg h,if_neg h1,if_pos hc]
theorem fd_yes (h:¬(p=0∨len≤p)) (h1:¬p≤a) (h2:cd p=0) (hi:is p=true):fdF nx cd is len p a=(p,0):=by unfold fdF;rw[fdL,if_neg h,if_neg h1,if_neg (by omega),if_pos hi]
theorem fd_no (h:¬(p=0∨len≤p)) (h1:¬p≤a) (h2:cd p=0) (hi:¬is p=true) {n:Nat} (hn:nx p=n):fdF nx cd is len p a=fdF nx cd is len n p:=by
  subst hn
  unfold fdF;rw[fdL,if_neg h,if_neg h1,if_neg (by omega),if_neg hi]
  rw[show len-a=(len-p+1)+(len-a-(len-p+1))by omega]
  exact fdL_any _ _ _ _ (by omega)
theorem ds_end (h:p=0∨len≤p):dsF nx cd len p a o=(o,0):=by unfold dsF;rw[dsL,if_pos h]
theorem ds_loop (h:¬(p=0∨len≤p)) (h1:a≤p):dsF nx cd len p a o=(o,12):=by unfold dsF;rw[dsL,if_neg h,if_pos h1]
theorem ds_bad (h:¬(p=0∨len≤p)) (h1:¬a≤p) (h2:cd p=c) (hc:c≠0):dsF nx cd len p a o=(o,c):=by subst h2;unfold dsF;rw[dsL,if_neg h,if_neg h1,if_pos hc]
theorem ds_on (h:¬(p=0∨len≤p)) (h1:¬a≤p) (h2:cd p=0) {n:Nat} (hn:nx p=n):dsF nx cd len p a o=dsF nx cd len n p (o ++ [p]):=by
  subst hn
  unfold dsF
  rw[dsL,if_neg h,if_neg h1,if_neg (by omega)]
  exact(dsL_any 1 len (nx p) p (o ++ [p]) (.inl (by omega))).symm
end
def slt0:Slt:={first:=0,tail:=0}
theorem tab_pos {n:List Nat} {b:Ly} {k:Int} {l:List Slt} {c:Nat} (h:tabF n b k=(l,c)) (hc:c=0):0<l.length:=by
  subst hc
  unfold tabF at h
  generalize ((if k=4 then n.getD 2 0 else n.getD 4 0)-16)=a at h
  generalize (if k=4 then n.getD 3 0 else n.getD 5 0)/16=m at h
  split at h
  · rename_i h1;exact absurd (congrArg Prod.snd h) h1
  split at h
  · cases h
  unfold readTabF at h
  split at h
  · cases h
  split at h
  · rename_i h1;exact absurd (congrArg Prod.snd h) h1
  rename_i h1
  rcases hb:bodyF b a k.toNat 0 16 with⟨x,d⟩
  rw[hb]at h h1
  obtain⟨_,_,A,B,_,C,_⟩:=bodyF_ok hb (Classical.not_not.1 h1)
  have e:=congrArg Prod.fst h
  simp only at e
  rw[← e,slotsAt_len]
  omega
theorem nod_4 {s p:Nat} {b:Ly} {k:Int} (h:k=4):nodH s b k p=(datAt s b p).1.hash∧nodN s b k p=(datAt s b p).1.nextHash∧nodP s b k p=(datAt s b p).1.payload∧nodC s b k p=(datAt s b p).2:=by
  unfold nodH nodN nodP nodC;rw[if_pos h,if_pos h,if_pos h,if_pos h];exact⟨q,q,q,q⟩
theorem nod_5 {s p:Nat} {b:Ly} {k:Int} (h:¬k=4):nodH s b k p=(fldAt s b p).1.hash∧nodN s b k p=(fldAt s b p).1.nextHash∧nodP s b k p=(fldAt s b p).1.payload∧nodC s b k p=(fldAt s b p).2:=by
  unfold nodH nodN nodP nodC;rw[if_neg h,if_neg h,if_neg h,if_neg h];exact⟨q,q,q,q⟩
def findF (n:List Nat) (b:Ly) (k:Int) (h:Nat) (pl:Ly):Nat × Nat :=
  if(tabF n b k).2≠0 then(0,(tabF n b k).2)
  else if(fdF (nodN (n.getD 0 0) b k) (nodC (n.getD 0 0) b k) (fun p=>decide (nodH (n.getD 0 0) b k p=h) && decide (nodP (n.getD 0 0) b k p=pl)) b.length ((tabF n b k).1.getD (h%(tabF n b k).1.length) slt0).first 0)=(0,0)then(0,16)
  else(fdF (nodN (n.getD 0 0) b k) (nodC (n.getD 0 0) b k) (fun p=>decide (nodH (n.getD 0 0) b k p=h) && decide (nodP (n.getD 0 0) b k p=pl)) b.length ((tabF n b k).1.getD (h%(tabF n b k).1.length) slt0).first 0)
def dataF (n:List Nat) (b:Ly) (h:Nat) (nm9:Ly):List Nat × Nat :=
  if(findF n b 5 h nm9).2≠0 then([],(findF n b 5 h nm9).2)
  else if(dsF (fun p=>(datAt (n.getD 0 0) b p).1.nextField) (fun p=>(datAt (n.getD 0 0) b p).2) b.length (fldAt (n.getD 0 0) b (findF n b 5 h nm9).1).1.dat 18446744073709551615 []).2≠0 then([],(dsF (fun p=>(datAt (n.getD 0 0) b p).1.nextField) (fun p=>(datAt (n.getD 0 0) b p).2) b.length (fldAt (n.getD 0 0) b (findF n b 5 h nm9).1).1.dat 18446744073709551615 []).2)
  else((dsF (fun p=>(datAt (n.getD 0 0) b p).1.nextField) (fun p=>(datAt (n.getD 0 0) b p).2) b.length (fldAt (n.getD 0 0) b (findF n b 5 h nm9).1).1.dat 18446744073709551615 []).1,0)
section
variable {n:List Nat} {b o nm9 pl:Ly} {k slot:Int} {l:List Slt} {c d h p:Nat} {t:Slt} {x:List Nat}
theorem find_bad (ht:tabF n b k=(l,c)) (hc:c≠0):findF n b k h pl=(0,c):=by unfold findF;rw[ht];rw[if_pos hc]
theorem find_in (ht:tabF n b k=(l,c)) (hc:c=0) (hs:l[h%l.length]? = some t) (hb:fdF (nodN (n.getD 0 0) b k) (nodC (n.getD 0 0) b k) (fun p=>decide (nodH (n.getD 0 0) b k p=h) && decide (nodP (n.getD 0 0) b k p=pl)) b.length t.first 0=(p,d)):findF n b k h pl=if(p,d)=(0,0)then(0,16)else(p,d):=by
  subst hc;unfold findF;rw[ht]
  rw[if_neg (by simp)]
  have e:l.getD (h%l.length) slt0=t:=by rw[List.getD_eq_getElem?_getD,hs];rfl
  simp only[e,hb]
theorem data_bad (ht:findF n b 5 h nm9=(p,c)) (hc:c≠0):dataF n b h nm9=([],c):=by unfold dataF;rw[ht];rw[if_pos hc]
theorem data_in (ht:findF n b 5 h nm9=(p,c)) (hc:c=0) (hb:dsF (fun p=>(datAt (n.getD 0 0) b p).1.nextField) (fun p=>(datAt (n.getD 0 0) b p).2) b.length (fldAt (n.getD 0 0) b p).1.dat 18446744073709551615 []=(x,d)):dataF n b h nm9=if d≠0 then([],d)else(x,0):=by
  subst hc;unfold dataF;rw[ht]
  rw[if_neg (by simp)]
  simp only[hb]
end
section
variable {n m:List Nat} (hn:∀i,i<20→m.getD i 0=n.getD i 0) (b:Ly) (k slot:Int) (h:Nat) (pl:Ly)
include hn
end
end Go.Wk
namespace Go.Wk
open Go Go.RowKit
def seg (b:Ly) (p n:Nat):List UInt8:=(b.drop p).take n
theorem seg_get {b:Ly} {p n i:Nat} (h:i<n):(seg b p n)[i]? = b[p+i]?:=by
  unfold seg;rw[List.getElem?_take,if_pos h,List.getElem?_drop]
theorem seg_len {b:Ly} {p n:Nat} (h:p+n≤b.length):(seg b p n).length=n:=by unfold seg;simp;omega
theorem seg_ext {b c:Ly} {p n:Nat} (h:∀i,i<n→c[p+i]? = b[p+i]?):seg c p n=seg b p n:=by
  apply List.ext_getElem?
  intro i
  by_cases hi:i<n
  · rw[seg_get hi,seg_get hi,h i hi]
  unfold seg;rw[List.getElem?_take,List.getElem?_take,if_neg hi,if_neg hi]
theorem at8_seg (b:Ly) (p:Nat):at8 b p=leN (seg b p 8):=rfl
theorem seg_seg {b:Ly} {p n q k:Nat} (h:q+k≤n):seg (seg b p n) q k=seg b (p+q) k:=by
  unfold seg
  rw[List.drop_take,List.take_take,List.drop_drop,Nat.min_eq_left (by omega)]
theorem seg_part {b l:Ly} {p n q k:Nat} (h:seg b p n=l) (hq:q+k≤n):seg b (p+q) k=seg l q k:=by rw[← h,seg_seg hq]
theorem seg_app {b o:Ly} {p n:Nat} (h:p+n≤b.length):seg (b ++ o) p n=seg b p n :=
  seg_ext fun i hi=>List.getElem?_append_left (by omega)
theorem seg_new (b o:Ly):seg (b ++ o) b.length o.length=o:=by unfold seg;rw[List.drop_left,List.take_length]
theorem seg_take (x y:Ly) {n:Nat} (h:n=x.length):seg (x ++ y) 0 n=x:=by subst h;simp[seg]
theorem seg_skip {x y:Ly} {p n:Nat} (h:x.length≤p):seg (x ++ y) p n=seg y (p-x.length) n:=by
  unfold seg;rw[List.drop_append,List.drop_eq_nil_of_le h,List.nil_append]
theorem leN_low (v n:Nat):leN (low v n)=v%256 ^ n:=by
  induction n generalizing v with
  | zero=>simp[low,leN,Nat.mod_one]
  | succ n ih =>
    simp only[low,leN,ih]
    rw[UInt8.toNat_ofNat',show 2 ^ 8=256 from rfl,Nat.mod_mod,Nat.pow_succ,Nat.mul_comm (256 ^ n) 256,Nat.mod_mul]
theorem at8_low {v:Nat} (r:Ly) (h:v<18446744073709551616):at8 (low v 8 ++ r) 0=v:=by
  rw[at8_seg,seg_take _ _ (by rw[low_len]),leN_low]
  exact Nat.mod_eq_of_lt h
theorem at8_skip {x y:Ly} {p:Nat} (h:x.length≤p):at8 (x ++ y) p=at8 y (p-x.length):=by rw[at8_seg,at8_seg,seg_skip h]
theorem at8_app {b o:Ly} {p:Nat} (h:p+8≤b.length):at8 (b ++ o) p=at8 b p:=by rw[at8_seg,at8_seg,seg_app h]
theorem at8_part {b l:Ly} {p n q:Nat} (h:seg b p n=l) (hq:q+8≤n):at8 b (p+q)=at8 l q:=by rw[at8_seg,at8_seg,seg_part h hq]
theorem at8_nums:∀{l:List Nat} {r:Ly} {i v:Nat},l[i]? = some v→v<18446744073709551616→at8 (nums l ++ r) (8*i)=v
  | [],_,_,_,h,_=>by simp at h
  | x :: l,r,0,v,h,hv=>by
    simp at h;subst h
    rw[nums,List.append_assoc]
    exact at8_low _ hv
  | x :: l,r,i+1,v,h,hv=>by
    rw[nums,List.append_assoc,at8_skip (by rw[low_len];omega),low_len,show 8*(i+1)-8=8*i by omega]
    exact at8_nums (by simpa using h) hv
theorem at8_nums' {l:List Nat} {i v:Nat} (h:l[i]? = some v) (hv:v<18446744073709551616):at8 (nums l) (8*i)=v:=by
  have:=at8_nums (r:=[]) h hv
  rwa [List.append_nil]at this
theorem putG_get:∀(n:Nat) (b:Ly) (p v i q:Nat),(putG n b p v i)[q]? = if p+i≤q∧q<p+i+n∧q<b.length then some (UInt8.ofNat (v/2 ^ (8*(q-p))))else b[q]?
  | 0,b,p,v,i,q=>by rw[if_neg (by omega)];rfl
  | n+1,b,p,v,i,q=>by
    rw[putG,putG_get n]
    simp only[List.length_set]
    by_cases h:p+(i+1)≤q∧q<p+(i+1)+n∧q<b.length
    · rw[if_pos h,if_pos (by omega)]
    · rw[if_neg h]
      by_cases hq:q=p+i
      · subst hq
        by_cases hl:p+i<b.length
        · rw[if_pos (by omega),List.getElem?_set_self hl,show p+i-p=i by omega]
        · rw[if_neg (by omega),List.getElem?_eq_none (by simp;omega),List.getElem?_eq_none (by omega)]
      · rw[if_neg (by omega),List.getElem?_set_ne (by omega)]
theorem putN_get (b:Ly) (p v q:Nat):(putN b p v)[q]? = if p≤q∧q<p+8∧q<b.length then some (UInt8.ofNat (v/2 ^ (8*(q-p))))else b[q]?:=putG_get 8 b p v 0 q
theorem seg_put {b:Ly} {p v q n:Nat} (h:p+8≤q∨q+n≤p):seg (putN b p v) q n=seg b q n :=
  seg_ext fun i hi=>by rw[putN_get,if_neg (by omega)]
theorem low_get:∀(n v i:Nat),i<n→(low v n)[i]? = some (UInt8.ofNat (v/2 ^ (8*i)))
  | n+1,v,0,_=>by
    simp only[low,List.getElem?_cons_zero,Nat.mul_zero,Nat.pow_zero,Nat.div_one,Option.some.injEq]
    apply UInt8.toNat.inj;simp
  | n+1,v,i+1,h=>by
    simp only[low,List.getElem?_cons_succ]
    rw[low_get n (v/256) i (by omega),Nat.div_div_eq_div_mul,show 256*2 ^ (8*i)=2 ^ (8*(i+1))by rw[Nat.mul_add,Nat.pow_add,Nat.mul_comm]]
theorem seg_put_same {b:Ly} {p v:Nat} (h:p+8≤b.length):seg (putN b p v) p 8=low v 8:=by
  apply List.ext_getElem?
  intro i
  by_cases hi:i<8
  · rw[seg_get hi,putN_get,if_pos (by omega),low_get 8 v i hi,show p+i-p=i by omega]
  rw[List.getElem?_eq_none (by rw[seg_len (by rw[putN_len];omega)];omega),List.getElem?_eq_none (by rw[low_len];omega)]
theorem at8_put {b:Ly} {p v q:Nat} (h:p+8≤q∨q+8≤p):at8 (putN b p v) q=at8 b q:=by rw[at8_seg,at8_seg,seg_put h]
theorem at8_put_same {b:Ly} {p v:Nat} (h:p+8≤b.length) (hv:v<18446744073709551616):at8 (putN b p v) p=v:=by
  rw[at8_seg,seg_put_same h,leN_low]
  exact Nat.mod_eq_of_lt hv
theorem byteAt_seg {b:Ly} {p i n:Nat} (h:i<n):byteAt b (p+i)=((seg b p n).getD i 0).toNat:=by
  unfold byteAt
  rw[List.getD_eq_getElem?_getD,List.getD_eq_getElem?_getD,seg_get h]
structure Eff (S:Nat→Prop) (b c:Ly):Prop where
  len:b.length≤c.length
  seg:∀q n,q+n≤b.length→(∀a,S a→a+8≤q∨q+n≤a)→seg c q n=seg b q n
theorem Eff.refl (S:Nat→Prop) (b:Ly):Eff S b b:=⟨Nat.le_refl _,fun _ _ _ _=>rfl⟩
theorem Eff.trans {S:Nat→Prop} {a b c:Ly} (h:Eff S a b) (k:Eff S b c):Eff S a c :=
  ⟨ly h.len k.len,fun q n hq hs=>(k.seg q n (ly hq h.len) hs).trans (h.seg q n hq hs)⟩
theorem Eff.mono {S T:Nat→Prop} {a b:Ly} (h:Eff S a b) (hs:∀x,S x→T x):Eff T a b:=⟨h.len,fun q n hq ht=>h.seg q n hq fun x hx=>ht x (hs x hx)⟩
theorem Eff.put (b:Ly) (p v:Nat):Eff (fun a=>a=p) b (putN b p v):=⟨by rw[putN_len];exact Nat.le_refl _,fun q n _ hs=>seg_put (hs p rfl)⟩
theorem Eff.app (S:Nat→Prop) (b o:Ly):Eff S b (b ++ o):=⟨by simp,fun q n hq _=>seg_app hq⟩
theorem Eff.at8 {S:Nat→Prop} {b c:Ly} {q:Nat} (h:Eff S b c) (hq:q+8≤b.length) (hs:∀a,S a→a+8≤q∨q+8≤a):at8 c q=at8 b q:=by
  rw[at8_seg,at8_seg,h.seg q 8 hq hs]
end Go.Wk
namespace Go.Wk
open Go Go.RowKit
structure Ob where
  pos:Nat
  kind:Nat
  size:Nat
def up8 (n:Nat):Nat:=(n+7)/8*8
theorem up8_ge (n:Nat):n≤up8 n∧up8 n<n+8∧up8 n%8=0:=by unfold up8;omega
def hdr (kind size:Nat):List UInt8:=[UInt8.ofNat kind,0,0,0,0,0,0,0] ++ nums [size]
theorem hdr_len (k s:Nat):(hdr k s).length=16:=by simp[hdr,nums_len]
theorem putF_hdr {k:Nat} {body:Ly} (h:1≤k∧k≤7):putF k body=(hdr k (16+body.length) ++ body) ++ List.replicate ((8-(16+body.length)%8)%8) 0:=by
  unfold putF
  rw[if_neg (by omega),pad8]
  have:([UInt8.ofNat k,0,0,0,0,0,0,0] ++ nums [16+body.length] ++ body).length=16+body.length:=by simp[nums_len];omega
  rw[this]
  rfl
def Objs (b:Ly):Nat→List Ob→Nat→Prop
  | p,[],e=>p=e
  | p,o :: r,e=>o.pos=p∧1≤o.kind∧o.kind≤7∧16≤o.size∧o.size<18446744073709551616∧seg b p 16=hdr o.kind o.size∧Objs b (p+up8 o.size) r e
theorem Objs.le {b:Ly}:∀{l:List Ob} {p e:Nat},Objs b p l e→p≤e∧(p%8=0→e%8=0)
  | [],_,_,h=>by cases h;exact⟨Nat.le_refl _,id⟩
  | o :: r,p,e,h=>by
    have:=h.2.2.2.2.2.2.le
    have:=up8_ge o.size
    omega
structure ObOk (b:Ly) (p e:Nat) (o:Ob):Prop where
  ge:p≤o.pos
  le:o.pos+up8 o.size≤e
  al:p%8=0→o.pos%8=0
  kind:1≤o.kind∧o.kind≤7
  size:16≤o.size∧o.size<18446744073709551616
  hd:seg b o.pos 16=hdr o.kind o.size
theorem Objs.mem {b:Ly}:∀{l:List Ob} {p e:Nat} {o:Ob},Objs b p l e→o∈l→ObOk b p e o
  | [],_,_,_,_,h=>by simp at h
  | x :: r,p,e,o,h,ho=>by
    obtain⟨h1,h2,h3,h4,h5,h6,h7⟩:=h
    have hl:=h7.le
    have hu:=up8_ge x.size
    rcases List.mem_cons.1 ho with rfl|ho
    · subst h1
      exact⟨Nat.le_refl _,hl.1,id,⟨h2,h3⟩,⟨h4,h5⟩,h6⟩
    · obtain⟨g1,g2,g3,g4,g5,g6⟩:=h7.mem ho
      exact⟨by omega,g2,fun hp=>g3 (by omega),g4,g5,g6⟩
theorem Objs.sep {b:Ly}:∀{l:List Ob} {p e:Nat} {o x:Ob},Objs b p l e→o∈l→x∈l→o=x∨o.pos+up8 o.size≤x.pos∨x.pos+up8 x.size≤o.pos
  | [],_,_,_,_,_,h,_=>by simp at h
  | y :: r,p,e,o,x,h,ho,hx=>by
    obtain⟨h1,h2,h3,h4,h5,h6,h7⟩:=h
    rcases List.mem_cons.1 ho with e1|e1
    · rcases List.mem_cons.1 hx with e2|e2
      · exact .inl (e1.trans e2.symm)
      · have:=(h7.mem e2).ge;subst e1;exact .inr (.inl (by omega))
    · rcases List.mem_cons.1 hx with e2|e2
      · have:=(h7.mem e1).ge;subst e2;exact .inr (.inr (by omega))
      · exact h7.sep e1 e2
theorem Objs.app {b:Ly}:∀{l:List Ob} {p e:Nat} {o:Ob},Objs b p l e→o.pos=e→1≤o.kind→o.kind≤7→16≤o.size→o.size<18446744073709551616→seg b e 16=hdr o.kind o.size→Objs b p (l ++ [o]) (e+up8 o.size)
  | [],p,e,o,h,h1,h2,h3,h4,h5,h6=>by cases h;exact⟨h1,h2,h3,h4,h5,h6,q⟩
  | x :: r,p,e,o,h,h1,h2,h3,h4,h5,h6=>by
    obtain⟨g1,g2,g3,g4,g5,g6,g7⟩:=h
    exact⟨g1,g2,g3,g4,g5,g6,g7.app h1 h2 h3 h4 h5 h6⟩
def Body (l:List Ob) (a:Nat):Prop:=a+8≤272∨∃o∈l,o.pos+16≤a∧a+8≤o.pos+up8 o.size
theorem Objs.eff {b c:Ly} {S:Nat→Prop} {l:List Ob} {p e:Nat} (h:Objs b p l e) (k:Eff S b c) (hb:e≤b.length) (hs:∀o∈l,∀a,S a→a+8≤o.pos∨o.pos+16≤a):Objs c p l e:=by
  induction l generalizing p with
  | nil=>exact h
  | cons o r ih =>
    have K:=Objs.mem (o:=o) h (by simp)
    obtain⟨A,C,D,E,F,G,B⟩:=h
    have L:=up8_ge o.size
    have J:=B.le
    refine⟨A,C,D,E,F,?_,ih B fun x I=>hs x (by simp[I])⟩
    rw[k.seg p 16 (by omega) fun a H=>A ▸ hs o (by simp) a H,G]
theorem Objs.body {b:Ly} {l:List Ob} {e:Nat} (h:Objs b 272 l e) {a:Nat} (ha:Body l a) {o:Ob} (ho:o∈l):a+8≤o.pos∨o.pos+16≤a:=by
  have B:=h.mem ho
  rcases ha with ha|⟨x,C,D,E⟩
  · have:=B.ge;omega
  have:=up8_ge o.size
  have:=up8_ge x.size
  rcases h.sep ho C with rfl|A|A <;> omega
theorem frame_ob {b:Ly} {p e:Nat} {o:Ob} (h:ObOk b p e o) (hp:p%8=0) (hb:o.pos+o.size≤b.length):frameF b o.pos=({kind:=o.kind,flags:=0,size:=o.size},0):=by
  have A:=h.size.1
  have B:byteAt b o.pos=o.kind:=by
    have:=byteAt_seg (b:=b) (p:=o.pos) (i:=0) (n:=16) (by omega)
    rw[Nat.add_zero,h.hd]at this
    rw[this]
    show(UInt8.ofNat o.kind).toNat=_
    have:=h.kind
    rw[UInt8.toNat_ofNat',Nat.mod_eq_of_lt (by omega)]
  have C:byteAt b (o.pos+1)=0:=by
    have:=byteAt_seg (b:=b) (p:=o.pos) (i:=1) (n:=16) (by omega)
    rw[h.hd]at this
    rw[this];rfl
  have D:at8 b (o.pos+8)=o.size:=by
    rw[at8_part h.hd (by omega),hdr,at8_skip (by simp)]
    exact at8_nums' (l:=[o.size]) (i:=0) q h.size.2
  have hk:=h.kind
  have E:=h.al hp
  unfold frameF
  rw[if_neg (by omega),if_neg (by omega),B,C,D,if_neg (by omega),if_neg (by omega),if_neg (by omega),if_neg (by omega)]
theorem body_ob {b:Ly} {p e k ahead item:Nat} {o:Ob} (h:ObOk b p e o) (hp:p%8=0) (hb:o.pos+o.size≤b.length) (hk:o.kind=k) (h1:16+ahead<o.size) (h2:(o.size-(16+ahead))%item=0):bodyF b o.pos k ahead item=(seg b (o.pos+16) (o.size-16),0):=by
  unfold bodyF
  rw[frame_ob h hp hb]
  simp only
  rw[if_neg (by simp),if_neg (by omega),if_neg (by omega)]
  congr 1
  unfold seg
  rw[List.drop_take,show o.pos+o.size-(o.pos+16)=o.size-16 by omega]
theorem obj_ob {b:Ly} {p e k n:Nat} {o:Ob} (h:ObOk b p e o) (hp:p%8=0) (hb:o.pos+o.size≤b.length) (hk:o.kind=k) (h1:16+8*n<o.size):readObjF b o.pos k n=(numsAt b (o.pos+16) n,seg b (o.pos+16+8*n) (o.size-(16+8*n)),0):=by
  have A:=readObj_end (b:=b) (p:=o.pos) (n:=n) (kind:=k) (frame_ob h hp hb) (by simp) (by simp only;omega) (by simp only;omega) q
  rw[A,nums_sub (by simp only;omega) (by simp only;omega),Nat.add_zero]
  congr 2
  unfold seg
  simp only
  rw[List.drop_take,List.drop_take,List.drop_drop,show o.pos+o.size-(o.pos+16)-8*n=o.size-(16+8*n)by omega]
end Go.Wk
namespace Go.Wk
open Go Go.RowKit
def cum:Nat→Nat
  | 0=>0
  | k+1=>cum k+roomF (k:Int)
theorem rooms_cum:∀(l:List Nat) (k a:Nat),roomsL l k a (cum k)=(if l=[]then a else cum (k+l.length-1),cum (k+l.length))
  | [],_,_=>rfl
  | x :: l,k,a=>by
    have:=rooms_cum l (k+1) (cum k)
    rw[show roomsL (x :: l) k a (cum k)=roomsL l (k+1) (cum k) (cum (k+1))from rfl,this]
    have h1:k+1+l.length=k+(l.length+1):=by omega
    simp only[List.length_cons,h1,reduceCtorEq,if_false,Prod.mk.injEq,and_true]
    split
    · rename_i h;subst h;rfl
    · rfl
theorem rooms_all (l:List Nat):roomsL l 0 0 0=(cum (l.length-1),cum l.length):=by
  have:=rooms_cum l 0 0
  simp only[cum,Nat.zero_add]at this
  rw[this]
  congr 1
  split
  · rename_i h;subst h;rfl
  rfl
theorem cum_mono {i j:Nat} (h:i≤j):cum i≤cum j:=by
  induction j with
  | zero=>rw[Nat.le_zero.1 h];exact Nat.le_refl _
  | succ j ih =>
    rcases Nat.lt_or_ge i (j+1)with A|A
    · have:=ih (by omega);simp only[cum];omega
    · rw[show i=j+1 by omega];exact Nat.le_refl _
theorem cum_step {i j:Nat} (h:i<j):cum i+roomF (i:Int)≤cum j:=cum_mono (show i+1≤j from h)
theorem getD_app1 (l:List Nat) (x i:Nat):(l ++ [x]).getD i 0=if i=l.length then x else l.getD i 0:=by
  simp only[List.getD_eq_getElem?_getD]
  by_cases h:i<l.length
  · rw[List.getElem?_append_left h,if_neg (by omega)]
  rw[List.getElem?_append_right (by omega)]
  by_cases h2:i=l.length
  · subst h2;simp
  rw[if_neg h2,List.getElem?_eq_none (by simp;omega),List.getElem?_eq_none (by omega)]
structure Chain (b:Ly) (l:List Ob) (src:Nat) (av items:List Nat):Prop where
  word:at8 b src=av.getD 0 0
  ob:∀k a:Nat,av[k]? = some a→(⟨a,6,24+8*roomF (k:Int)⟩:Ob)∈l
  next:∀k a:Nat,av[k]? = some a→at8 b (a+16)=av.getD (k+1) 0
  item:∀k a j:Nat,av[k]? = some a→j<roomF (k:Int)→at8 b (a+24+8*j)=items.getD (cum k+j) 0
  asc:∀k a c:Nat,av[k]? = some a→av[k+1]? = some c→a<c
  lo:cum (av.length-1)≤items.length
  hi:items.length≤cum av.length
theorem asc_lt {av:List Nat} (h:∀k a c:Nat,av[k]? = some a→av[k+1]? = some c→a<c):∀(d k a c:Nat),av[k]? = some a→av[k+d+1]? = some c→a<c
  | 0,k,a,c,h1,h2=>h k a c h1 h2
  | d+1,k,a,c,h1,h2=>by
    obtain⟨y,hy⟩:∃y,av[k+d+1]? = some y:=⟨_,List.getElem?_eq_getElem (by have:=(List.getElem?_eq_some_iff.1 h2).1;omega)⟩
    have:=asc_lt h d k a y h1 hy
    have:=h (k+d+1) y c hy h2
    omega
def Src (l:List Ob) (a:Nat):Prop:=a+8≤272∨∃o∈l,o.kind≠6∧o.pos+16≤a∧a+8≤o.pos+up8 o.size
theorem Src.body {l:List Ob} {a:Nat} (h:Src l a):Body l a:=h.imp id fun⟨o,h1,_,h2⟩=>⟨o,h1,h2⟩
theorem Src.apart {b:Ly} {l:List Ob} {a e:Nat} (h:Src l a) (hO:Objs b 272 l e) {o:Ob} (ho:o∈l) (hk:o.kind=6):a+8≤o.pos∨o.pos+up8 o.size≤a:=by
  rcases h with h|⟨x,C,A,D,E⟩
  · have:=(hO.mem ho).ge;omega
  rcases hO.sep ho C with rfl|B|B
  · exact absurd hk A
  · omega
  omega
theorem Src.mono {l r:List Ob} {a:Nat} (h:Src l a) (hs:∀o∈l,o∈r):Src r a:=h.imp id fun⟨o,h1,h2⟩=>⟨o,hs o h1,h2⟩
theorem Src.lt {b:Ly} {l:List Ob} {a e:Nat} (h:Src l a) (hO:Objs b 272 l e):a+8≤e:=by
  rcases h with h|⟨x,A,B,C,D⟩
  · have:=hO.le;omega
  have:=(hO.mem A).le;omega
def LinkS (src:Nat) (av:List Nat) (a:Nat):Prop:=a=src∨∃k c:Nat,av[k]? = some c∧c+16≤a∧a+8≤c+24+8*roomF (k:Int)
theorem up8_arr (r:Nat):up8 (24+8*r)=24+8*r:=by unfold up8;omega
section
variable {b c:Ly} {l:List Ob} {src e:Nat} {av items:List Nat}
theorem Chain.apart (h:Chain b l src av items) (hO:Objs b 272 l e) {k k' a a':Nat} (ha:av[k]? = some a) (ha':av[k']? = some a') (hk:k≠k'):a+24+8*roomF (k:Int)≤a'∨a'+24+8*roomF (k':Int)≤a:=by
  have B:a≠a':=by
    rcases Nat.lt_or_ge k k' with A|A
    · have:=asc_lt h.asc (k'-k-1) k a a' ha (by rw[show k+(k'-k-1)+1=k' by omega];exact ha');omega
    · have:=asc_lt h.asc (k-k'-1) k' a' a ha' (by rw[show k'+(k-k'-1)+1=k by omega];exact ha);omega
  rcases hO.sep (h.ob k a ha) (h.ob k' a' ha')with A|A|A
  · exact absurd (congrArg Ob.pos A) B
  · rw[up8_arr]at A;simp only at A;omega
  rw[up8_arr]at A;simp only at A;omega
theorem Chain.le (h:Chain b l src av items) (hO:Objs b 272 l e) {k a:Nat} (ha:av[k]? = some a):272≤a∧a+24+8*roomF (k:Int)≤e:=by
  have:=hO.mem (h.ob k a ha)
  have B:=this.le
  have C:=this.ge
  rw[up8_arr]at B
  simp only at B C
  omega
theorem Chain.eff {S:Nat→Prop} {r:List Ob} (h:Chain b l src av items) (hO:Objs b 272 l e) (hs:Src l src) (he:e≤b.length) (k:Eff S b c) (hr:∀o∈l,o∈r) (h1:∀a,S a→a+8≤src∨src+8≤a) (h2:∀k x:Nat,av[k]? = some x→∀a,S a→a+8≤x+16∨x+24+8*roomF (k:Int)≤a):Chain c r src av items:=by
  have D:=hs.lt hO
  refine⟨(k.at8 (by omega) h1).trans h.word,fun i a A=>hr _ (h.ob i a A),fun i a A=>?_,fun i a j A C=>?_,h.asc,h.lo,h.hi⟩
  · have:=h.le hO A
    rw[k.at8 (by omega) fun x B=>by have:=h2 i a A x B;omega]
    exact h.next i a A
  have:=h.le hO A
  rw[k.at8 (by omega) fun x B=>by have:=h2 i a A x B;omega]
  exact h.item i a j A C
theorem Chain.put (h:Chain b l src av items) (hO:Objs b 272 l e) (hs:Src l src) (he:e≤b.length) {x p:Nat} (hx:x<18446744073709551616) (hn:av≠[]) (hp:av[av.length-1]? = some p) (hr:items.length<cum av.length) :
    Chain (putN b (p+24+8*(items.length-cum (av.length-1))) x) l src av (items ++ [x]):=by
  have D:0<av.length:=List.length_pos_iff.2 hn
  have H:cum av.length=cum (av.length-1)+roomF ((av.length-1:Nat):Int):=by rw[show av.length=(av.length-1)+1 by omega];rfl
  have F:=h.lo
  have G:=h.le hO hp
  generalize hq:p+24+8*(items.length-cum (av.length-1))=q
  have B:=hs.apart hO (h.ob _ _ hp) rfl
  rw[up8_arr]at B
  simp only at B
  refine⟨?_,h.ob,fun i a A=>?_,fun i a j A C=>?_,h.asc,?_,?_⟩
  · rw[at8_put (by omega)];exact h.word
  · have:q+8≤a+16∨a+16+8≤q:=by
      by_cases hi:i=av.length-1
      · subst hi;rw[hp]at A;cases A;omega
      · have:=h.apart hO A hp hi;omega
    rw[at8_put this];exact h.next i a A
  · rw[getD_app1]
    by_cases hi:i=av.length-1
    · subst hi
      rw[hp]at A;cases A
      by_cases hj2:j=items.length-cum (av.length-1)
      · rw[if_pos (by omega),show p+24+8*j=q by omega]
        exact at8_put_same (by omega) hx
      rw[if_neg (by omega),at8_put (by omega)]
      exact h.item _ _ j hp C
    have E:i<av.length:=(List.getElem?_eq_some_iff.1 A).1
    have:=cum_step (show i<av.length-1 by omega)
    have:=h.apart hO A hp hi
    rw[if_neg (by omega),at8_put (by omega)]
    exact h.item i a j A C
  · rw[List.length_append];simp only[List.length_singleton];omega
  rw[List.length_append];simp only[List.length_singleton];omega
end
theorem app_get {av:List Nat} {p k a:Nat} (h:(av ++ [p])[k]? = some a):(k<av.length∧av[k]? = some a)∨(k=av.length∧a=p):=by
  rcases Nat.lt_or_ge k av.length with hk|hk
  · rw[List.getElem?_append_left hk]at h;exact .inl ⟨hk,h⟩
  have A:=(List.getElem?_eq_some_iff.1 h).1
  simp at A
  rw[List.getElem?_append_right hk,show k-av.length=0 by omega]at h
  exact .inr ⟨by omega,by simpa using h.symm⟩
def arrB (r:Nat):List UInt8:=putArrayF {next:=0,items:=List.replicate r 0}
theorem arrB_eq (r:Nat):arrB r=hdr 6 (24+8*r) ++ nums (0 :: List.replicate r 0):=by
  unfold arrB putArrayF
  rw[putF_hdr (by omega)]
  have:(nums [0] ++ nums (List.replicate r 0)).length=8+8*r:=by simp[nums_len]
  simp only[this]
  rw[show(8-(16+(8+8*r))%8)%8=0 by omega,show 16+(8+8*r)=24+8*r by omega]
  simp[nums]
theorem arrB_len (r:Nat):(arrB r).length=24+8*r:=by rw[arrB_eq];simp[hdr_len,nums_len];omega
theorem arrB_word {r i:Nat} (h:i≤r):at8 (arrB r) (16+8*i)=0:=by
  rw[arrB_eq,at8_skip (by rw[hdr_len];omega),hdr_len,show 16+8*i-16=8*i by omega]
  refine at8_nums' (v:=0) ?_ (by decide)
  cases i with
  | zero=>rfl
  | succ i=>simp only[List.getElem?_cons_succ];rw[List.getElem?_replicate,if_pos (by omega)]
theorem arrB_hd (r:Nat):seg (arrB r) 0 16=hdr 6 (24+8*r):=by rw[arrB_eq];exact seg_take _ _ (hdr_len _ _).symm
theorem Chain.grow {b:Ly} {l:List Ob} {src:Nat} {av items:List Nat} (h:Chain b l src av items) (hO:Objs b 272 l b.length) (hs:Src l src) (hb:b.length<1000000) (hr:items.length=cum av.length) :
    let b1:=b ++ arrB (roomF (av.length:Int))
    let l1:=l ++ [(⟨b.length,6,24+8*roomF (av.length:Int)⟩:Ob)]
    Objs b1 272 l1 b1.length∧Chain (putN b1 (if av.length=0 then src else lastN av+16) b.length) l1 src (av ++ [b.length]) items:=by
  intro b1 l1
  have R:=roomF_le (av.length:Int)
  have P:b1.length=b.length+(24+8*roomF (av.length:Int)):=by simp[b1,arrB_len]
  have G:Eff (fun _=>False) b b1:=Eff.app _ _ _
  have U:=hO.le
  have M:Objs b1 272 l1 b1.length:=by
    have:=(hO.eff G (Nat.le_refl _) (fun _ _ _ Y=>Y.elim)).app (o:=⟨b.length,6,24+8*roomF (av.length:Int)⟩) rfl (by simp) (by simp) (by simp;omega) (by simp;omega) ?_
    · rw[up8_arr]at this;rw[P];exact this
    · have L:=seg_skip (x:=b) (y:=arrB (roomF (av.length:Int))) (p:=b.length) (n:=16) (Nat.le_refl _)
      rw[Nat.sub_self,arrB_hd]at L
      exact L
  refine⟨M,?_⟩
  have I:∀i,i≤roomF (av.length:Int)→at8 b1 (b.length+16+8*i)=0:=fun i O=>by
    have:=at8_skip (x:=b) (y:=arrB (roomF (av.length:Int))) (p:=b.length+16+8*i) (by omega)
    rw[show b.length+16+8*i-b.length=16+8*i by omega,arrB_word O]at this
    exact this
  have J:=hs.lt hO
  have S:∀q,q+8≤b.length→at8 b1 q=at8 b q:=fun q E=>at8_app E
  have X:cum (av.length+1)=cum av.length+roomF (av.length:Int):=rfl
  -- the place that leads to the new one
  have E:∃q,(if av.length=0 then src else lastN av+16)=q∧q+8≤b.length∧(av=[]∧q=src∨∃p,av[av.length-1]? = some p∧0<av.length∧q=p+16):=by
    by_cases hz:av.length=0
    · exact⟨src,by rw[if_pos hz],J,.inl ⟨List.eq_nil_of_length_eq_zero hz,rfl⟩⟩
    · obtain⟨p,B⟩:∃p,av[av.length-1]? = some p:=⟨_,List.getElem?_eq_getElem (by omega)⟩
      have:=h.le hO B
      exact⟨p+16,by rw[if_neg hz,lastN_eq B],by omega,.inr ⟨p,B,by omega,rfl⟩⟩
  obtain⟨q,V,d,E⟩:=E
  rw[V]
  have D:∀F,F+8≤b.length→(q+8≤F∨F+8≤q)→at8 (putN b1 q b.length) F=at8 b F:=fun F W L=>(at8_put L).trans (S F W)
  have C:at8 (putN b1 q b.length) q=b.length:=at8_put_same (by omega) (by omega)
  have H:∀i,i≤roomF (av.length:Int)→at8 (putN b1 q b.length) (b.length+16+8*i)=0:=fun i O=>(at8_put (by omega)).trans (I i O)
  refine⟨?_,fun k a A=>?_,fun k a A=>?_,fun k a j A Z=>?_,fun k a c A N=>?_,?_,?_⟩
  · rcases E with⟨rfl,rfl⟩|⟨p,B,T,rfl⟩
    · exact C
    have K:=hs.apart hO (h.ob _ _ B) rfl
    rw[up8_arr]at K
    simp only at K
    rw[D src J (by omega),h.word,getD_app1,if_neg (by omega)]
  · rcases app_get A with⟨_,A⟩|⟨rfl,rfl⟩
    · exact List.mem_append_left _ (h.ob k a A)
    exact List.mem_append_right _ (by simp)
  · rcases app_get A with⟨hk,A⟩|⟨rfl,rfl⟩
    · have Q:=h.le hO A
      rcases E with⟨rfl,_⟩|⟨p,B,T,rfl⟩
      · simp at hk
      by_cases hk2:k=av.length-1
      · subst hk2;rw[B]at A;cases A
        rw[C,getD_app1,if_pos (by omega)]
      have:=h.apart hO A B hk2
      rw[D _ (by omega) (by omega),h.next k a A,getD_app1,if_neg (by omega)]
    have:=H 0 (by omega)
    rw[Nat.mul_zero,Nat.add_zero]at this
    rw[this,getD_app1,if_neg (by omega)]
    simp
  · rcases app_get A with⟨hk,A⟩|⟨rfl,rfl⟩
    · have Q:=h.le hO A
      have:q+8≤a+24+8*j∨a+24+8*j+8≤q:=by
        rcases E with⟨rfl,_⟩|⟨p,B,T,rfl⟩
        · simp at hk
        · by_cases hk2:k=av.length-1
          · subst hk2;rw[B]at A;cases A;omega
          · have:=h.apart hO A B hk2;omega
      rw[D _ (by omega) this]
      exact h.item k a j A Z
    have:=H (j+1) (by omega)
    rw[show b.length+16+8*(j+1)=b.length+24+8*j by omega]at this
    rw[this]
    symm
    simp only[List.getD_eq_getElem?_getD]
    rw[List.getElem?_eq_none (by omega)]
    rfl
  · rcases app_get N with⟨hk,N⟩|⟨hk,rfl⟩
    · rcases app_get A with⟨_,A⟩|⟨rfl,_⟩
      · exact h.asc k a c A N
      omega
    rcases app_get A with⟨_,A⟩|⟨rfl,_⟩
    · have:=h.le hO A;omega
    omega
  · simp only[List.length_append,List.length_singleton,Nat.add_sub_cancel];omega
  simp only[List.length_append,List.length_singleton];omega
end Go.Wk
namespace Go.Wk
open Go Go.RowKit
structure Linked (m m':Mk) (l l':List Ob) (src:Nat) (av av' items:List Nat) (x:Nat):Prop where
  objs:Objs m'.b 272 l' m'.b.length
  sub:l'=l∨l'=l ++ [(⟨m.b.length,6,24+8*roomF (av.length:Int)⟩:Ob)]
  arr:av'=av∨av'=av ++ [m.b.length]
  chain:Chain m'.b l' src av' (items ++ [x])
  eff:Eff (LinkS src av') m.b m'.b
  ne:av'≠[]
  top:m'.b.length≤m.b.length+2100
  same:m'.c=m.c∧m'.datas=m.datas∧m'.fields=m.fields∧m'.main=m.main∧m'.depth=m.depth∧∀i,i≠6→i≠7→i≠18→m'.num i=m.num i
theorem link_im {m:Mk} {l:List Ob} {src x:Nat} {av items:List Nat} (hO:Objs m.b 272 l m.b.length) (h:Chain m.b l src av items) (hs:Src l src) (hb:m.b.length<900000) (hx:x<18446744073709551616) :
    ∃l',Linked m (m.link av items.length src x).2.2 l l' src av (m.link av items.length src x).1 items x:=by
  unfold Mk.link
  rw[rooms_all]
  simp only
  split
  · rename_i hn
    have g:=h.grow hO hs (by omega) hn
    simp only at g
    obtain⟨U,V⟩:=g
    generalize hl1:l ++ [(⟨m.b.length,6,24+8*roomF (av.length:Int)⟩:Ob)]=l1 at *
    generalize hq:(if av.length=0 then src else lastN av+16)=q at V
    have E:(m.object (putArrayF {next:=0,items:=List.replicate (roomF (av.length:Int)) 0})).2.b=m.b ++ arrB (roomF (av.length:Int)):=rfl
    have N:(m.object (putArrayF {next:=0,items:=List.replicate (roomF (av.length:Int)) 0})).1=m.b.length:=rfl
    have B:=object_same m (putArrayF {next:=0,items:=List.replicate (roomF (av.length:Int)) 0})
    have H:(m.object (putArrayF {next:=0,items:=List.replicate (roomF (av.length:Int)) 0})).2.depth=m.depth:=rfl
    have I:∀i,i≠6→i≠7→(m.object (putArrayF {next:=0,items:=List.replicate (roomF (av.length:Int)) 0})).2.num i=m.num i:=fun i j n=>by
      simp only[Mk.object]
      rw[num_setN (by omega),num_setN (by omega)];rfl
    generalize m.object (putArrayF {next:=0,items:=List.replicate (roomF (av.length:Int)) 0})=r at *
    obtain⟨p,A⟩:=r
    simp only at E N B H I ⊢
    subst N
    have Z:=roomF_le (av.length:Int)
    have R:=roomF_ge (k:=(av.length:Int)) (by omega)
    have z:A.b.length=m.b.length+(24+8*roomF (av.length:Int)):=by rw[E];simp[arrB_len]
    have X:cum (av ++ [m.b.length]).length=cum av.length+roomF (av.length:Int):=by simp[cum]
    have P:Src l1 src:=hs.mono fun o F=>by rw[← hl1];exact List.mem_append_left _ F
    have O:Body l1 q∧(q=src∨∃k c:Nat,(av ++ [m.b.length])[k]? = some c∧q=c+16):=by
      rw[← hq]
      split
      · exact⟨P.body,.inl rfl⟩
      · rename_i u
        obtain⟨p,G⟩:∃p,av[av.length-1]? = some p:=⟨_,List.getElem?_eq_getElem (by omega)⟩
        rw[lastN_eq G]
        have F:=h.ob _ _ G
        refine⟨.inr ⟨⟨p,6,24+8*roomF ((av.length-1:Nat):Int)⟩,?_,Nat.le_refl _,?_⟩,.inr ⟨av.length-1,p,by rw[List.getElem?_append_left (by omega)];exact G,rfl⟩⟩
        · rw[← hl1];exact List.mem_append_left _ F
        · rw[up8_arr];simp only;omega
    rw[E.symm]at U V
    have f:Eff (fun a=>a=q) A.b (putN A.b q m.b.length):=Eff.put _ _ _
    have T:Objs (putN A.b q m.b.length) 272 l1 (putN A.b q m.b.length).length:=by
      rw[putN_len]
      exact U.eff f (Nat.le_refl _) fun o F a C=>by subst C;exact U.body O.1 F
    have D:(av ++ [m.b.length])[(av ++ [m.b.length]).length-1]? = some m.b.length:=by simp
    have L:=V.put (x:=x) (p:=m.b.length) T P (Nat.le_refl _) hx (by simp) D (by rw[X];omega)
    have W:items.length-cum ((av ++ [m.b.length]).length-1)=0:=by simp;omega
    rw[W]at L
    have K:Eff (fun a=>a=m.b.length+24+8*0) (putN A.b q m.b.length) (putN (putN A.b q m.b.length) (m.b.length+24+8*0) x):=Eff.put _ _ _
    have e:Objs (putN (putN A.b q m.b.length) (m.b.length+24+8*0) x) 272 l1 (putN (putN A.b q m.b.length) (m.b.length+24+8*0) x).length:=by
      rw[putN_len]
      refine T.eff K (Nat.le_refl _) fun o F a C=>?_
      subst C
      refine T.body (.inr ⟨⟨m.b.length,6,24+8*roomF (av.length:Int)⟩,?_,?_,?_⟩) F
      · rw[← hl1];simp
      · simp only;omega
      · rw[up8_arr];simp only;omega
    have Q:∀M:Mk,M=(if av.length=0 then(A.setN 18 ((A.num 18+1)%18446744073709551616)).put src m.b.length else(A.setN 18 ((A.num 18+1)%18446744073709551616)).put (lastN av+16) m.b.length)→M.b=putN A.b q m.b.length∧M.c=A.c∧M.datas=A.datas∧M.fields=A.fields∧M.main=A.main∧M.depth=A.depth∧∀i,i≠18→M.num i=A.num i:=by
      intro M y
      subst y
      rw[← hq]
      split
      · exact⟨rfl,rfl,rfl,rfl,rfl,rfl,fun i hi=>num_setN (m:=A) (by omega)⟩
      · exact⟨rfl,rfl,rfl,rfl,rfl,rfl,fun i hi=>num_setN (m:=A) (by omega)⟩
    have d:=Q _ rfl
    clear Q
    generalize (if av.length=0 then(A.setN 18 ((A.num 18+1)%18446744073709551616)).put src m.b.length else(A.setN 18 ((A.num 18+1)%18446744073709551616)).put (lastN av+16) m.b.length)=M at *
    obtain⟨S,d,kz3,kz4,kz5,kz6,kz7⟩:=d
    rw[lastN_eq D,show items.length-cum av.length=0 by omega]
    rw[← S]at e L K
    have ml:(M.put (m.b.length+24+8*0) x).b=putN M.b (m.b.length+24+8*0) x:=rfl
    refine⟨l1,⟨by rw[ml];exact e,.inr hl1.symm,.inr rfl,by rw[ml];exact L,?_,by simp,?_,⟨d.trans B.1,kz3.trans B.2.1,kz4.trans B.2.2.1,kz5.trans B.2.2.2,kz6.trans H,fun i j n w=>(kz7 i w).trans (I i j n)⟩⟩⟩
    · rw[ml,S]
      have t:Eff (LinkS src (av ++ [m.b.length])) m.b A.b:=by rw[E];exact Eff.app _ _ _
      refine t.trans ((f.mono fun a C=>?_).trans ((S ▸ K).mono fun a C=>?_))
      · subst C
        rcases O.2 with h|⟨k,c,N,v⟩
        · exact .inl h
        exact .inr ⟨k,c,N,by omega,by omega⟩
      subst C
      exact .inr ⟨av.length,m.b.length,by simp,by omega,by omega⟩
    rw[ml,putN_len,S,putN_len];omega
  rename_i hn
  have Ac:=h.lo
  have Y:=h.hi
  have J:av≠[]:=by rintro rfl;have N:items.length≤0:=Y;have v:¬items.length=0:=hn;omega
  have u:=List.length_pos_iff.2 J
  obtain⟨p,G⟩:∃p,av[av.length-1]? = some p:=⟨_,List.getElem?_eq_getElem (by omega)⟩
  rw[lastN_eq G]
  have L:=h.put hO hs (Nat.le_refl _) hx J G (by omega)
  have Ab:=h.le hO G
  have hc:cum av.length=cum (av.length-1)+roomF ((av.length-1:Nat):Int):=by
    have:av.length=(av.length-1)+1:=by omega
    rw[this];rfl
  generalize hq:p+24+8*(items.length-cum (av.length-1))=q at *
  have K:Eff (fun a=>a=q) m.b (putN m.b q x):=Eff.put _ _ _
  refine⟨l,⟨?_,.inl rfl,.inl rfl,L,K.mono fun a C=>?_,J,?_,⟨rfl,rfl,rfl,rfl,rfl,fun _ _ _ _=>rfl⟩⟩⟩
  · show Objs (putN m.b q x) 272 l (putN m.b q x).length
    rw[putN_len]
    refine hO.eff K (Nat.le_refl _) fun o F a C=>?_
    subst C
    refine hO.body (.inr ⟨_,h.ob _ _ G,?_,?_⟩) F
    · simp only;omega
    rw[up8_arr];simp only;omega
  · subst C
    exact .inr ⟨av.length-1,p,G,by omega,by omega⟩
  show(putN m.b q x).length≤_
  rw[putN_len];omega
end Go.Wk
namespace Go.Wk
open Go Go.RowKit
def Mild (l:List Ob) (a:Nat):Prop:=∀o∈l,(a+8≤o.pos∨o.pos+16≤a) ∧
  (o.kind=1→a+8≤o.pos+16∨o.pos+24≤a∧a+8≤o.pos+64∨o.pos+up8 o.size≤a) ∧
  (o.kind=2→a+8≤o.pos+16∨o.pos+24≤a∧a+8≤o.pos+40∨o.pos+up8 o.size≤a) ∧
  (o.kind=3→a+8≤o.pos∨o.pos+up8 o.size≤a)
theorem mild_of {b:Ly} {l:List Ob} {e a:Nat} (hO:Objs b 272 l e) {x:Ob} (hx:x∈l) (h1:x.pos+16≤a) (h2:a+8≤x.pos+up8 x.size) (h3:x.kind≠3) (h4:x.kind=1→x.pos+24≤a∧a+8≤x.pos+64) (h5:x.kind=2→x.pos+24≤a∧a+8≤x.pos+40):Mild l a:=by
  intro o A
  have:=up8_ge o.size
  have:=up8_ge x.size
  have:=(hO.mem A).size.1
  rcases hO.sep A hx with rfl|B|B
  · refine⟨by omega,fun h=>.inr (.inl (h4 h)),fun h=>.inr (.inl (h5 h)),fun h=>absurd h h3⟩
  · exact⟨by omega,fun _=>by omega,fun _=>by omega,fun _=>by omega⟩
  exact⟨by omega,fun _=>by omega,fun _=>by omega,fun _=>by omega⟩
theorem mild_head {b:Ly} {l:List Ob} {e a:Nat} (hO:Objs b 272 l e) (h:a+8≤272):Mild l a:=fun o ho=>by
  have:=(hO.mem ho).ge
  exact⟨by omega,fun _=>by omega,fun _=>by omega,fun _=>by omega⟩
theorem Mild.mono {l r:List Ob} {a:Nat} (h:Mild r a) (hs:∀o∈l,o∈r):Mild l a:=fun o ho=>h o (hs o ho)
def Soft (l:List Ob) (a:Nat):Prop:=∃o∈l,((o.kind=4∨o.kind=5)∧o.pos+16≤a∧a+8≤o.pos+up8 o.size)∨(((o.kind=1∧64≤o.size)∨(o.kind=2∧40≤o.size))∧(a=o.pos+24∨a=o.pos+32))
theorem Soft.mono {l r:List Ob} {a:Nat} (h:Soft l a) (hs:∀o∈l,o∈r):Soft r a:=by obtain⟨o,A,h⟩:=h;exact⟨o,hs o A,h⟩
theorem Soft.mild {b:Ly} {l:List Ob} {e a:Nat} (h:Soft l a) (hO:Objs b 272 l e):Mild l a:=by
  obtain⟨o,B,⟨C,A,D⟩|⟨C,A⟩⟩:=h
  · exact mild_of hO B A D (by omega) (by omega) (by omega)
  have:=up8_ge o.size
  exact mild_of hO B (by omega) (by omega) (by omega) (by omega) (by omega)
theorem Soft.at {b:Ly} {l:List Ob} {e a:Nat} (h:Soft l a) (hO:Objs b 272 l e):272≤a∧a+8≤e∧∀o∈l,(o.kind=1→a+8≤o.pos+40∨o.pos+up8 o.size≤a)∧(o.kind=6→a+8≤o.pos∨o.pos+up8 o.size≤a):=by
  obtain⟨x,D,h⟩:=h
  have C:=hO.mem D
  have hk:=C.le
  have G:=C.ge
  have J:=up8_ge x.size
  have B:x.pos+16≤a∧a+8≤x.pos+up8 x.size∧x.kind≠6∧(x.kind=1→a+8≤x.pos+40):=by
    rcases h with⟨E,A,F⟩|⟨E,A⟩
    · exact⟨A,F,by omega,by omega⟩
    · exact⟨by omega,by omega,by omega,by omega⟩
  refine⟨by omega,by omega,fun o I=>?_⟩
  have:=up8_ge o.size
  rcases hO.sep I D with rfl|H|H
  · exact⟨fun h=>.inl (B.2.2.2 h),fun h=>absurd h B.2.2.1⟩
  · exact⟨fun _=>by omega,fun _=>by omega⟩
  exact⟨fun _=>by omega,fun _=>by omega⟩
def hashM (m:Mk) (s:Ly):Nat:=hashN m.c.keyed m.c.file s
structure DatS (b:Ly) (l:List Ob) (h:Nat) (k:Known):Prop where
  ob:(⟨k.pos,1,64+k.text.length⟩:Ob)∈l
  hash:at8 b (k.pos+16)=h
  text:seg b (k.pos+64) k.text.length=k.text
structure FldS' (b:Ly) (l:List Ob) (h:Nat) (k:Known):Prop where
  ob:(⟨k.pos,2,40+k.text.length⟩:Ob)∈l
  hash:at8 b (k.pos+16)=h
  text:seg b (k.pos+40) k.text.length=k.text
theorem DatS.eff {b c:Ly} {l r:List Ob} {n:Nat} {k:Known} {S:Nat→Prop} (h:DatS b l n k) (hO:Objs b 272 l b.length) (he:Eff S b c) (hs:∀a,S a→Mild l a) (hr:∀o∈l,o∈r):DatS c r n k:=by
  have B:=(hO.mem h.ob).le
  have C:=up8_ge (64+k.text.length)
  refine⟨hr _ h.ob,(he.at8 (by simp only at B;omega) fun a A=>?_).trans h.hash,(he.seg _ _ (by simp only at B;omega) fun a A=>?_).trans h.text⟩
  · have:=(hs a A _ h.ob).2.1 rfl;simp only at this;omega
  have:=(hs a A _ h.ob).2.1 rfl;simp only at this;omega
theorem FldS'.eff {b c:Ly} {l r:List Ob} {n:Nat} {k:Known} {S:Nat→Prop} (h:FldS' b l n k) (hO:Objs b 272 l b.length) (he:Eff S b c) (hs:∀a,S a→Mild l a) (hr:∀o∈l,o∈r):FldS' c r n k:=by
  have B:=(hO.mem h.ob).le
  have C:=up8_ge (40+k.text.length)
  refine⟨hr _ h.ob,(he.at8 (by simp only at B;omega) fun a A=>?_).trans h.hash,(he.seg _ _ (by simp only at B;omega) fun a A=>?_).trans h.text⟩
  · have:=(hs a A _ h.ob).2.2.1 rfl;simp only at this;omega
  have:=(hs a A _ h.ob).2.2.1 rfl;simp only at this;omega
structure Stat (m:Mk) (l:List Ob):Prop where
  objs:Objs m.b 272 l m.b.length
  tab4:(⟨272,4,16+16*m.c.dataSlots⟩:Ob)∈l
  tab5:(⟨288+16*m.c.dataSlots,5,16+16*m.c.fieldSlots⟩:Ob)∈l
  n2:m.num 2=288
  n4:m.num 4=304+16*m.c.dataSlots
  slots:1≤m.c.dataSlots∧1≤m.c.fieldSlots
  data:∀k∈m.datas,DatS m.b l (hashM m k.text) k
  fld:∀k∈m.fields,FldS' m.b l (hashM m k.text) k
  one:∀i j:Nat,∀k k':Known,m.datas[i]? = some k→m.datas[j]? = some k'→k.pos=k'.pos∨k.text=k'.text→i=j
  all:∀o∈l,o.kind=1→∃k∈m.datas,k.pos=o.pos
structure SoftStep (m m':Mk) (l l':List Ob):Prop where
  objs:Objs m'.b 272 l' m'.b.length
  sub:∃t,l'=l ++ t∧∀o∈t,(o.kind=1∨o.kind=2)∧m.b.length≤o.pos
  eff:Eff (Soft l') m.b m'.b
  same:m'.c=m.c∧m'.main=m.main∧∀i,i≠6→i≠7→i<15→m'.num i=m.num i
theorem SoftStep.mem {m m':Mk} {l l':List Ob} (h:SoftStep m m' l l'):∀o∈l,o∈l':=by obtain⟨t,e,_⟩:=h.sub;intro o A;rw[e];exact List.mem_append_left _ A
theorem SoftStep.refl {m:Mk} {l:List Ob} (h:Objs m.b 272 l m.b.length):SoftStep m m l l:=⟨h,⟨[],by simp,by simp⟩,Eff.refl _ _,q,q,fun _ _ _ _=>rfl⟩
theorem SoftStep.trans {m m' m'':Mk} {l l' l'':List Ob} (h:SoftStep m m' l l') (k:SoftStep m' m'' l' l''):SoftStep m m'' l l'':=by
  obtain⟨t,e,F⟩:=h.sub
  obtain⟨u,f,G⟩:=k.sub
  have H:=h.eff.len
  refine⟨k.objs,⟨t ++ u,by rw[f,e,List.append_assoc],fun o A=>?_⟩,(h.eff.mono fun a E=>E.mono k.mem).trans k.eff,k.same.1.trans h.same.1,k.same.2.1.trans h.same.2.1,fun i B C D=>(k.same.2.2 i B C D).trans (h.same.2.2 i B C D)⟩
  rcases List.mem_append.1 A with A|A
  · exact F o A
  have:=G o A;exact⟨this.1,by omega⟩
theorem SoftStep.to {m m' m'':Mk} {l l':List Ob} (h:SoftStep m m' l l') (hb:m''.b=m'.b) (hc:m''.c=m'.c) (hm:m''.main=m'.main) (hn:∀i,i≠6→i≠7→i<15→m''.num i=m'.num i):SoftStep m m'' l l' :=
  ⟨by rw[hb];exact h.objs,h.sub,by rw[hb];exact h.eff,hc.trans h.same.1,hm.trans h.same.2.1,fun i h1 h2 h3=>(hn i h1 h2 h3).trans (h.same.2.2 i h1 h2 h3)⟩
theorem SoftStep.put {m:Mk} {l:List Ob} {a:Nat} (v:Nat) (hO:Objs m.b 272 l m.b.length) (ha:Soft l a):SoftStep m (m.put a v) l l:=by
  have B:=ha.mild hO
  refine⟨?_,⟨[],by simp,by simp⟩,(Eff.put m.b a v).mono fun x A=>A ▸ ha,q,q,fun _ _ _ _=>rfl⟩
  show Objs (putN m.b a v) 272 l (putN m.b a v).length
  rw[putN_len]
  exact hO.eff (Eff.put m.b a v) (Nat.le_refl _) fun o C x A=>by subst A;exact(B o C).1
theorem hdr_of {o h r:Ly} (e:o=(h ++ r)) (hl:h.length=16):seg o 0 16=h:=by subst e;exact seg_take _ _ hl.symm
theorem SoftStep.obj {m:Mk} {l:List Ob} {o r:Ly} {k s:Nat} (hO:Objs m.b 272 l m.b.length) (hk:k=1∨k=2) (he:o=hdr k s ++ r) (hl:o.length=up8 s) (h16:16≤s) (hs:s<1000000):SoftStep m (m.object o).2 l (l ++ [⟨m.b.length,k,s⟩]):=by
  have B:(m.object o).2.b=m.b ++ o:=rfl
  refine⟨?_,⟨_,q,fun x C=>?_⟩,by rw[B];exact Eff.app _ _ _,q,q,fun i F A G=>?_⟩
  · have D:=(hO.eff (Eff.app (fun _=>False) m.b o) (Nat.le_refl _) (fun _ _ _ E=>E.elim)).app (o:=⟨m.b.length,k,s⟩) q (by simp only;omega) (by simp only;omega) h16 (by simp only;omega) ?_
    · rw[B,List.length_append,hl];exact D
    have A:=seg_skip (x:=m.b) (y:=o) (p:=m.b.length) (n:=16) (Nat.le_refl _)
    rw[Nat.sub_self,hdr_of he (hdr_len _ _)]at A
    exact A
  · simp at C;subst C;exact⟨hk,Nat.le_refl _⟩
  simp only[Mk.object]
  rw[num_setN (by omega),num_setN (by omega)];rfl
theorem hangL_pos {slot:Nat}:∀(l:List Known) (n q:Nat),(hangL slot l n q).1=n∧(hangL slot l n q).2=q∨n<(hangL slot l n q).1∧∃k∈l,(hangL slot l n q).2=k.pos
  | [],_,_=>.inl ⟨rfl,rfl⟩
  | k :: r,n,q=>by
    simp only[hangL]
    split
    · rcases hangL_pos (slot:=slot) r (n+1) k.pos with⟨h1,h2⟩|⟨h1,y,hy,h2⟩
      · exact .inr ⟨by omega,k,by simp,h2⟩
      · exact .inr ⟨by omega,y,by simp[hy],h2⟩
    · rcases hangL_pos (slot:=slot) r n q with h|⟨h1,y,hy,h2⟩
      · exact .inl h
      · exact .inr ⟨h1,y,by simp[hy],h2⟩
theorem SoftStep.hang {m:Mk} {l:List Ob} {ks:List Known} {table p slot:Nat} (hO:Objs m.b 272 l m.b.length) (ht:Soft l (table+16*slot)∧Soft l (table+16*slot+8)) (hk:∀k∈ks,Soft l (k.pos+24)):SoftStep m (m.hang ks table p slot).2 l l:=by
  unfold Mk.hang
  have C:=hangL_pos (slot:=slot) ks 0 0
  generalize hangL slot ks 0 0=r at *
  obtain⟨n,q⟩:=r
  simp only at C ⊢
  split
  · have A:=SoftStep.put (m:=m) p hO ht.1
    exact A.trans (SoftStep.put (m:=m.put (table+16*slot) p) p A.objs ht.2)
  rename_i hn
  have E:Soft l (q+24):=by
    rcases C with⟨A,_⟩|⟨_,k,B,D⟩
    · omega
    · rw[D];exact hk k B
  have A:=SoftStep.put (m:=m) p hO E
  exact A.trans (SoftStep.put (m:=m.put (q+24) p) p A.objs ht.2)
end Go.Wk
namespace Go.Wk
open Go Go.RowKit
theorem at8_new (b o:Ly) (q:Nat):at8 (b ++ o) (b.length+q)=at8 o q:=by rw[at8_skip (by omega),Nat.add_sub_cancel_left]
theorem seg_new' (b o:Ly) (q n:Nat):seg (b ++ o) (b.length+q) n=seg o q n:=by rw[seg_skip (by omega),Nat.add_sub_cancel_left]
theorem objB {k:Nat} (hk:1≤k∧k≤7) (ns:List Nat) (t:Ly) (hn:∀v∈ns,v<18446744073709551616) :
    (∃r,putF k (nums ns ++ t)=hdr k (16+8*ns.length+t.length) ++ r)∧(putF k (nums ns ++ t)).length=up8 (16+8*ns.length+t.length) ∧
    (∀i v:Nat,ns[i]? = some v→at8 (putF k (nums ns ++ t)) (16+8*i)=v)∧seg (putF k (nums ns ++ t)) (16+8*ns.length) t.length=t:=by
  have A:(nums ns ++ t).length=8*ns.length+t.length:=by simp[nums_len]
  rw[putF_hdr hk,A,show 16+(8*ns.length+t.length)=16+8*ns.length+t.length by omega]
  refine⟨⟨_,List.append_assoc _ _ _⟩,?_,fun i v h=>?_,?_⟩
  · rw[List.length_append,List.length_append,hdr_len,A,List.length_replicate];unfold up8;omega
  · rw[List.append_assoc,at8_skip (by rw[hdr_len];omega),hdr_len,Nat.add_sub_cancel_left,List.append_assoc]
    exact at8_nums h (hn v (List.mem_of_getElem? h))
  rw[List.append_assoc,seg_skip (by rw[hdr_len];omega),hdr_len,show 16+8*ns.length-16=8*ns.length by omega,List.append_assoc,seg_skip (by rw[nums_len];omega),nums_len,Nat.sub_self]
  exact seg_take _ _ q
theorem hashM_lt (m:Mk) (s:Ly):hashM m s<18446744073709551616:=hashN_lt _ _ _
theorem Stat.step {m m':Mk} {l l':List Ob} (h:Stat m l) (s:SoftStep m m' l l') (hd:∀k∈m'.datas,k∈m.datas∨DatS m'.b l' (hashM m k.text) k) (hf:∀k∈m'.fields,k∈m.fields∨FldS' m'.b l' (hashM m k.text) k)
    (h1:∀i j:Nat,∀k k':Known,m'.datas[i]? = some k→m'.datas[j]? = some k'→k.pos=k'.pos∨k.text=k'.text→i=j) (h2:∀o∈l',o.kind=1→∃k∈m'.datas,k.pos=o.pos):Stat m' l':=by
  have B:=s.mem
  have D:∀a,Soft l' a→Mild l a:=fun a F=>(F.mild s.objs).mono B
  obtain⟨A,G,C⟩:=s.same
  have E:∀t,hashM m' t=hashM m t:=fun t=>by unfold hashM;rw[A]
  refine⟨s.objs,by rw[A];exact B _ h.tab4,by rw[A];exact B _ h.tab5,(C 2 (by decide) (by decide) (by decide)).trans h.n2,by rw[A];exact(C 4 (by decide) (by decide) (by decide)).trans h.n4,by rw[A];exact h.slots,fun k hk=>?_,fun k hk=>?_,h1,h2⟩
  · rw[E]
    rcases hd k hk with hk|hk
    · exact(h.data k hk).eff h.objs s.eff D B
    exact hk
  rw[E]
  rcases hf k hk with hk|hk
  · exact(h.fld k hk).eff h.objs s.eff D B
  exact hk
theorem Stat.soft {m m':Mk} {l l':List Ob} (h:Stat m l) (s:SoftStep m m' l l') (hd:m'.datas=m.datas) (hf:m'.fields=m.fields) (hl:l'=l):Stat m' l' :=
  h.step s (fun k hk=>.inl (hd ▸ hk)) (fun k hk=>.inl (hf ▸ hk)) (by rw[hd];exact h.one) (by rw[hd,hl];exact h.all)
theorem soft4 {m:Mk} {l:List Ob} (h:Stat m l) {s:Nat} (hs:s<m.c.dataSlots):Soft l (m.num 2+16*s)∧Soft l (m.num 2+16*s+8):=by
  have:=up8_ge (16+16*m.c.dataSlots)
  rw[h.n2]
  exact⟨⟨_,h.tab4,.inl ⟨.inl q,by simp only;omega,by simp only;omega⟩⟩,⟨_,h.tab4,.inl ⟨.inl q,by simp only;omega,by simp only;omega⟩⟩⟩
theorem soft5 {m:Mk} {l:List Ob} (h:Stat m l) {s:Nat} (hs:s<m.c.fieldSlots):Soft l (m.num 4+16*s)∧Soft l (m.num 4+16*s+8):=by
  have:=up8_ge (16+16*m.c.fieldSlots)
  rw[h.n4]
  exact⟨⟨_,h.tab5,.inl ⟨.inr q,by simp only;omega,by simp only;omega⟩⟩,⟨_,h.tab5,.inl ⟨.inr q,by simp only;omega,by simp only;omega⟩⟩⟩
theorem field_im {m:Mk} {l:List Ob} (h:Stat m l) (name:Ly) (hn:name.length≤1000) :
    ∃l',SoftStep m (m.field name).2 l l'∧Stat (m.field name).2 l'∧(∃k∈(m.field name).2.fields,k.pos=(m.field name).1)∧(m.field name).2.datas=m.datas:=by
  unfold Mk.field
  cases hk:findK name m.fields with
  | some p =>
    obtain⟨k,P,Q,_⟩:=findK_mem hk
    exact⟨l,SoftStep.refl h.objs,h,⟨k,P,Q⟩,q⟩
  | none =>
    simp only
    generalize hF:putFieldF {hash:=hashN m.c.keyed m.c.file name,nextHash:=0,dat:=0,payload:=name}=o
    have N:o=putF 2 (nums [hashM m name,0,0] ++ name):=hF.symm
    obtain⟨⟨r,K⟩,L,T,M⟩:=objB (k:=2) (by decide) [hashM m name,0,0] name (by have:=hashM_lt m name;intro v g;simp at g;omega)
    rw[← N]at K L T M
    simp only[List.length_cons,List.length_nil,Nat.zero_add,Nat.reduceAdd,Nat.reduceMul]at K L M
    have G:=SoftStep.obj (m:=m) (o:=o) h.objs (.inr q) K L (by omega) (by omega)
    have O:(m.object o).2.b=m.b ++ o:=rfl
    have U:(m.object o).1=m.b.length:=rfl
    have H:=object_same m o
    have V:(m.object o).2.num 4=m.num 4:=by simp only[Mk.object];rw[num_setN (by omega),num_setN (by omega)];rfl
    generalize m.object o=z at *
    obtain⟨p,A⟩:=z
    simp only at G O U H V ⊢
    subst U
    have f:hashN m.c.keyed m.c.file name%A.c.fieldSlots<m.c.fieldSlots:=by rw[H.1];exact Nat.mod_lt _ (by have:=h.slots;omega)
    have R:=soft5 h f
    rw[← V]at R
    have I:=SoftStep.hang (m:=A) (p:=m.b.length) (ks:=A.fields) G.objs ⟨R.1.mono G.mem,R.2.mono G.mem⟩ (fun k hk=>by
      rw[H.2.2.1]at hk
      have:=(h.fld k hk).ob
      exact⟨_,G.mem _ this,.inr ⟨.inr ⟨q,by simp only;omega⟩,.inl q⟩⟩)
    have D:=hang_same A A.fields (A.num 4) m.b.length (hashN m.c.keyed m.c.file name%A.c.fieldSlots)
    generalize A.hang A.fields (A.num 4) m.b.length (hashN m.c.keyed m.c.file name%A.c.fieldSlots)=z at *
    obtain⟨n,B⟩:=z
    simp only at I D ⊢
    obtain⟨w,Z,d,y,d5,d6⟩:=D
    have W:=G.trans I
    obtain⟨F,E⟩:∃F,F=({({B with depth:=max A.depth n}:Mk).setN 16 ((({B with depth:=max A.depth n}:Mk).num 16+1)%18446744073709551616)with fields:=(({B with depth:=max A.depth n}:Mk).setN 16 ((({B with depth:=max A.depth n}:Mk).num 16+1)%18446744073709551616)).fields ++ [({text:=name,pos:=m.b.length,slot:=hashN m.c.keyed m.c.file name%A.c.fieldSlots,count:=0,arrays:=[]}:Known)]}:Mk):=⟨_,q⟩
    show ∃l',SoftStep m ({({B with depth:=max A.depth n}:Mk).setN 16 ((({B with depth:=max A.depth n}:Mk).num 16+1)%18446744073709551616)with fields:=(({B with depth:=max A.depth n}:Mk).setN 16 ((({B with depth:=max A.depth n}:Mk).num 16+1)%18446744073709551616)).fields ++ [({text:=name,pos:=m.b.length,slot:=hashN m.c.keyed m.c.file name%A.c.fieldSlots,count:=0,arrays:=[]}:Known)]}:Mk) l l'∧Stat ({({B with depth:=max A.depth n}:Mk).setN 16 ((({B with depth:=max A.depth n}:Mk).num 16+1)%18446744073709551616)with fields:=(({B with depth:=max A.depth n}:Mk).setN 16 ((({B with depth:=max A.depth n}:Mk).num 16+1)%18446744073709551616)).fields ++ [({text:=name,pos:=m.b.length,slot:=hashN m.c.keyed m.c.file name%A.c.fieldSlots,count:=0,arrays:=[]}:Known)]}:Mk) l'∧(∃k∈({({B with depth:=max A.depth n}:Mk).setN 16 ((({B with depth:=max A.depth n}:Mk).num 16+1)%18446744073709551616)with fields:=(({B with depth:=max A.depth n}:Mk).setN 16 ((({B with depth:=max A.depth n}:Mk).num 16+1)%18446744073709551616)).fields ++ [({text:=name,pos:=m.b.length,slot:=hashN m.c.keyed m.c.file name%A.c.fieldSlots,count:=0,arrays:=[]}:Known)]}:Mk).fields,k.pos=m.b.length)∧({({B with depth:=max A.depth n}:Mk).setN 16 ((({B with depth:=max A.depth n}:Mk).num 16+1)%18446744073709551616)with fields:=(({B with depth:=max A.depth n}:Mk).setN 16 ((({B with depth:=max A.depth n}:Mk).num 16+1)%18446744073709551616)).fields ++ [({text:=name,pos:=m.b.length,slot:=hashN m.c.keyed m.c.file name%A.c.fieldSlots,count:=0,arrays:=[]}:Known)]}:Mk).datas=m.datas
    rw[← E]
    have J:F.b=B.b∧F.c=B.c∧F.main=B.main∧F.datas=B.datas∧F.fields=B.fields ++ [({text:=name,pos:=m.b.length,slot:=hashN m.c.keyed m.c.file name%A.c.fieldSlots,count:=0,arrays:=[]}:Known)]:=by subst E;exact⟨q,q,q,q,q⟩
    have S4:=W.to (m'':=F) J.1 J.2.1 J.2.2.1 (fun i _ _ h3=>by
      subst E
      exact(num_setN (m:={B with depth:=max A.depth n}) (by omega)))
    clear E
    obtain⟨X,t,u,Y,S⟩:=J
    have C:F.datas=m.datas:=by rw[Y,Z,H.2.1]
    refine⟨_,S4,h.step S4 (fun k hk=>.inl (C ▸ hk)) (fun k hk=>?_) (by rw[C];exact h.one) (fun x E hk=>?_),?_,C⟩
    · rw[S,d,H.2.2.1,List.mem_append,List.mem_singleton]at hk
      rcases hk with hk|rfl
      · exact .inl hk
      · right
        have j:FldS' A.b (l ++ [⟨m.b.length,2,40+name.length⟩]) (hashM m name) ({text:=name,pos:=m.b.length,slot:=hashN m.c.keyed m.c.file name%A.c.fieldSlots,count:=0,arrays:=[]}:Known):=by
          refine⟨by simp,?_,?_⟩
          · rw[O,at8_new];exact T 0 _ q
          · rw[O,seg_new'];exact M
        rw[X]
        exact j.eff G.objs I.eff (fun a e=>e.mild I.objs) fun _ h=>h
    · rcases List.mem_append.1 E with E|E
      · rw[C];exact h.all x E hk
      · simp at E;subst E;simp at hk
    · exact⟨({text:=name,pos:=m.b.length,slot:=hashN m.c.keyed m.c.file name%A.c.fieldSlots,count:=0,arrays:=[]}:Known),by rw[S];simp,q⟩
theorem findI_get:∀{s:Ly} {l:List Known} {j i:Nat},findI s l j=some i→∃k,l[i-j]? = some k∧k.text=s∧j≤i
  | s,[],j,i,h=>by simp[findI]at h
  | s,x :: l,j,i,h=>by
    simp only[findI]at h
    split at h
    · rename_i hx;simp at h;subst h;exact⟨x,by simp,hx,Nat.le_refl _⟩
    · obtain⟨k,h1,h2,h3⟩:=findI_get h
      exact⟨k,by rw[show i-j=(i-(j+1))+1 by omega];simpa using h1,h2,by omega⟩
theorem findI_none:∀{s:Ly} {l:List Known} {j:Nat},findI s l j=none→∀k∈l,k.text≠s
  | s,[],j,_,k,hk=>by simp at hk
  | s,x :: l,j,h,k,hk=>by
    simp only[findI]at h
    split at h
    · cases h
    · rename_i hx
      rcases List.mem_cons.1 hk with rfl|hk
      · exact hx
      · exact findI_none h k hk
structure Fresh (b:Ly) (p:Nat):Prop where
  ent:at8 b (p+40)=0
  arr:at8 b (p+48)=0
  cnt:at8 b (p+56)=0
theorem Fresh.eff {b c:Ly} {l l':List Ob} {p s:Nat} (h:Fresh b p) (ho:(⟨p,1,s⟩:Ob)∈l) (hs:64≤s) (hO:Objs b 272 l b.length) (hO':Objs c 272 l' c.length) (hm:∀o∈l,o∈l') (he:Eff (Soft l') b c):Fresh c p:=by
  have B:=(hO.mem ho).le
  have E:=up8_ge s
  simp only at B
  have A:∀q,40≤q→q≤56→at8 c (p+q)=at8 b (p+q):=fun q F D=>he.at8 (by omega) fun a C=>by
    have:=((C.at hO').2.2 _ (hm _ ho)).1 rfl;simp only at this;omega
  exact⟨(A 40 (by omega) (by omega)).trans h.ent,(A 48 (by omega) (by omega)).trans h.arr,(A 56 (by omega) (by omega)).trans h.cnt⟩
structure DataIm (m m':Mk) (l l':List Ob) (i:Nat) (t:Ly):Prop where
  step:SoftStep m m' l l'
  stat:Stat m' l'
  got:∃k,m'.datas[i]? = some k∧k.text=t
  new:m'.datas=m.datas∨∃s p,m'.datas=m.datas ++ [({text:=t,pos:=p,slot:=s,count:=0,arrays:=[]}:Known)]∧Fresh m'.b p∧m.b.length≤p
theorem data_im {m:Mk} {l:List Ob} (h:Stat m l) (x:Pr) (hx:x.name.length≤64∧x.value.length≤256):∃l',DataIm m (m.data x).2 l l' (m.data x).1 (payload x):=by
  unfold Mk.data
  cases hk:findI (payload x) m.datas 0 with
  | some i =>
    obtain⟨k,L,H,_⟩:=findI_get hk
    exact⟨l,SoftStep.refl h.objs,h,⟨k,by simpa using L,H⟩,.inl q⟩
  | none =>
    simp only
    have Ak:=findI_none hk
    have A3:=payload_len x
    generalize hF:putDataF {hash:=hashN m.c.keyed m.c.file (payload x),nextHash:=0,nextField:=0,entry:=0,array:=0,count:=0,payload:=payload x}=o
    have Af:o=putF 1 (nums [hashM m (payload x),0,0,0,0,0] ++ payload x):=hF.symm
    obtain⟨⟨r,w⟩,f2,S,f4⟩:=objB (k:=1) (by decide) [hashM m (payload x),0,0,0,0,0] (payload x) (by have:=hashM_lt m (payload x);intro v hv;simp at hv;omega)
    rw[← Af]at w f2 S f4
    simp only[List.length_cons,List.length_nil,Nat.zero_add,Nat.reduceAdd,Nat.reduceMul]at w f2 f4
    have J:=SoftStep.obj (m:=m) (o:=o) h.objs (.inl q) w f2 (by omega) (by omega)
    have P:(m.object o).2.b=m.b ++ o:=rfl
    have g1:(m.object o).1=m.b.length:=rfl
    have T:=object_same m o
    have g4:(m.object o).2.num 2=m.num 2:=by simp only[Mk.object];rw[num_setN (by omega),num_setN (by omega)];rfl
    generalize m.object o=z at *
    obtain⟨p,D⟩:=z
    simp only at J P g1 T g4 ⊢
    subst g1
    have hs:hashN m.c.keyed m.c.file (payload x)%D.c.dataSlots<m.c.dataSlots:=by rw[T.1];exact Nat.mod_lt _ (by have:=h.slots;omega)
    have tt:=soft4 h hs
    rw[← g4]at tt
    have K:=SoftStep.hang (m:=D) (p:=m.b.length) (ks:=D.datas) J.objs ⟨tt.1.mono J.mem,tt.2.mono J.mem⟩ (fun k hk=>by
      rw[T.2.1]at hk
      have:=(h.data k hk).ob
      exact⟨_,J.mem _ this,.inr ⟨.inl ⟨q,by simp only;omega⟩,.inl q⟩⟩)
    have F:=hang_same D D.datas (D.num 2) m.b.length (hashN m.c.keyed m.c.file (payload x)%D.c.dataSlots)
    generalize hsl:hashN m.c.keyed m.c.file (payload x)%D.c.dataSlots=slot at *
    generalize D.hang D.datas (D.num 2) m.b.length slot=z at *
    obtain⟨n,B⟩:=z
    simp only at K F ⊢
    obtain⟨d1,d2,d3,d4,d5,d6⟩:=F
    have S3:=J.trans K
    generalize hx5:({(B.setN 19 (max (B.num 19) n)).setN 15 (((B.setN 19 (max (B.num 19) n)).num 15+1)%18446744073709551616)with datas:=((B.setN 19 (max (B.num 19) n)).setN 15 (((B.setN 19 (max (B.num 19) n)).num 15+1)%18446744073709551616)).datas ++ [({text:=payload x,pos:=m.b.length,slot:=slot,count:=0,arrays:=[]}:Known)]}:Mk)=m5
    have f:m5.b=B.b∧m5.c=B.c∧m5.main=B.main∧m5.fields=B.fields∧m5.datas=B.datas ++ [({text:=payload x,pos:=m.b.length,slot:=slot,count:=0,arrays:=[]}:Known)]:=by subst hx5;exact⟨q,q,q,q,q⟩
    have t:=S3.to (m'':=m5) f.1 f.2.1 f.2.2.1 (fun i _ _ h3=>by
      subst hx5
      exact(num_setN (m:=B.setN 19 (max (B.num 19) n)) (by omega)).trans (num_setN (by omega)))
    clear hx5
    obtain⟨a1,a2,a3,a4,a5⟩:=f
    have I:m5.datas=m.datas ++ [({text:=payload x,pos:=m.b.length,slot:=slot,count:=0,arrays:=[]}:Known)]:=by rw[a5,d2,T.2.1]
    have Ag:m5.fields=m.fields:=by rw[a4,d3,T.2.2.1]
    have C:(⟨m.b.length,1,64+(payload x).length⟩:Ob)∈l ++ [⟨m.b.length,1,64+(payload x).length⟩]:=by simp
    have Am:Stat m5 (l ++ [⟨m.b.length,1,64+(payload x).length⟩]):=by
      refine h.step t (fun k hk=>?_) (fun k hk=>.inl (Ag ▸ hk)) (fun i j k g G hj E=>?_) (fun y Q hk=>?_)
      · rw[I,List.mem_append,List.mem_singleton]at hk
        rcases hk with hk|rfl
        · exact .inl hk
        · right
          have k0:DatS D.b (l ++ [⟨m.b.length,1,64+(payload x).length⟩]) (hashM m (payload x)) ({text:=payload x,pos:=m.b.length,slot:=slot,count:=0,arrays:=[]}:Known):=by
            refine⟨C,?_,?_⟩
            · rw[P,at8_new];exact S 0 _ q
            · rw[P,seg_new'];exact f4
          rw[a1]
          exact k0.eff J.objs K.eff (fun a ha=>ha.mild K.objs) fun _ h=>h
      · rw[I]at G hj
        have Z:∀(i:Nat) (k:Known),m.datas[i]? = some k→k.pos+16≤m.b.length∧k.text≠payload x:=fun i k G=>by
          have hm:=List.mem_of_getElem? G
          have:=(h.objs.mem (h.data k hm).ob).le
          have:=up8_ge (64+k.text.length)
          simp only at *
          exact⟨by omega,Ak k hm⟩
        have A:∀(i:Nat) (k:Known),(m.datas ++ [({text:=payload x,pos:=m.b.length,slot:=slot,count:=0,arrays:=[]}:Known)])[i]? = some k→(m.datas[i]? = some k)∨i=m.datas.length∧k={text:=payload x,pos:=m.b.length,slot:=slot,count:=0,arrays:=[]}:=fun i k G=>by
          rcases Nat.lt_or_ge i m.datas.length with hl|hl
          · rw[List.getElem?_append_left hl]at G;exact .inl G
          · have Aj:=(List.getElem?_eq_some_iff.1 G).1
            simp at Aj
            rw[List.getElem?_append_right hl,show i-m.datas.length=0 by omega]at G
            exact .inr ⟨by omega,by simpa using G.symm⟩
        rcases A i k G with L|⟨L,rfl⟩
        · rcases A j g hj with H|⟨H,rfl⟩
          · exact h.one i j k g L H E
          · have:=Z i k L
            rcases E with E|E
            · simp only at E;omega
            · exact absurd E this.2
        · rcases A j g hj with H|⟨H,rfl⟩
          · have:=Z j g H
            rcases E with E|E
            · simp only at E;omega
            · exact absurd E.symm this.2
          · omega
      · rw[I]
        rcases List.mem_append.1 Q with Q|Q
        · obtain⟨k,L,H⟩:=h.all y Q hk
          exact⟨k,List.mem_append_left _ L,H⟩
        · simp at Q;subst Q
          exact⟨({text:=payload x,pos:=m.b.length,slot:=slot,count:=0,arrays:=[]}:Known),List.mem_append_right _ (by simp),q⟩
    have Ac:Fresh D.b m.b.length:=⟨by rw[P,at8_new];exact S 3 _ q,by rw[P,at8_new];exact S 4 _ q,by rw[P,at8_new];exact S 5 _ q⟩
    have Ad:Fresh m5.b m.b.length:=by
      rw[a1];exact Ac.eff C (by omega) J.objs K.objs K.mem K.eff
    obtain⟨l6,d,O,⟨R,X,Y⟩,U⟩:=field_im Am x.name (by omega)
    have W:=(O.fld R X).ob
    generalize m5.field x.name=z at *
    obtain⟨k,N⟩:=z
    simp only at d O Y U X W ⊢
    subst Y
    have M:=d.mem _ C
    have sp:Soft l6 (m.b.length+32):=⟨_,M,.inr ⟨.inl ⟨q,by simp only;omega⟩,.inr q⟩⟩
    have sk:Soft l6 (R.pos+32):=⟨_,W,.inr ⟨.inr ⟨q,by simp only;omega⟩,.inr q⟩⟩
    have u:=SoftStep.put (m:=N) (getF N.b (R.pos+32:Nat) 8).1 d.objs sp
    have Ao:=O.soft u q q q
    have S8:=SoftStep.put (m:=N.put (m.b.length+32) (getF N.b (R.pos+32:Nat) 8).1) m.b.length u.objs sk
    have Ap:=Ao.soft S8 q q q
    have e:=d.trans (u.trans S8)
    have V:((N.put (m.b.length+32) (getF N.b (R.pos+32:Nat) 8).1).put (R.pos+32) m.b.length).datas=m.datas ++ [({text:=payload x,pos:=m.b.length,slot:=slot,count:=0,arrays:=[]}:Known)]:=by
      show N.datas=_
      rw[U,I]
    have Ae:=Ad.eff C (by omega) t.objs e.objs e.mem e.eff
    refine⟨l6,t.trans e,Ap,⟨({text:=payload x,pos:=m.b.length,slot:=slot,count:=0,arrays:=[]}:Known),by rw[V];simp,q⟩,.inr ⟨slot,m.b.length,V,Ae,Nat.le_refl _⟩⟩
end Go.Wk
namespace Go.Wk
open Go Go.RowKit
structure DatD (b:Ly) (l:List Ob) (k:Known) (ps:List Nat):Prop where
  cnt:k.count=ps.length
  word:at8 b (k.pos+56)=ps.length
  ent:at8 b (k.pos+40)=ps.getD 0 0
  chain:Chain b l (k.pos+48) k.arrays (ps.drop 1)
theorem dat_src {b:Ly} {l:List Ob} {n:Nat} {k:Known} (h:DatS b l n k):Src l (k.pos+48):=by
  have:=up8_ge (64+k.text.length)
  exact .inr ⟨_,h.ob,by simp,by simp only;omega,by simp only;omega⟩
theorem main_src (l:List Ob):Src l 176:=.inl (by decide)
theorem DatD.eff {b c:Ly} {l r:List Ob} {n:Nat} {k:Known} {ps:List Nat} {S:Nat→Prop} (h:DatD b l k ps) (hs:DatS b l n k) (hO:Objs b 272 l b.length) (he:Eff S b c) (hr:∀o∈l,o∈r)
    (h1:∀a,S a→a+8≤k.pos+40∨k.pos+64≤a) (h2:∀i x:Nat,k.arrays[i]? = some x→∀a,S a→a+8≤x+16∨x+24+8*roomF (i:Int)≤a):DatD c r k ps:=by
  have B:=(hO.mem hs.ob).le
  have C:=up8_ge (64+k.text.length)
  simp only at B
  refine⟨h.cnt,(he.at8 (by omega) fun a A=>?_).trans h.word,(he.at8 (by omega) fun a A=>?_).trans h.ent,h.chain.eff hO (dat_src hs) (Nat.le_refl _) he hr (fun a A=>?_) h2⟩
  · have:=h1 a A;omega
  · have:=h1 a A;omega
  have:=h1 a A;omega
theorem Chain.arr_at {b b':Ly} {l l':List Ob} {src e:Nat} {av items:List Nat} (h:Chain b l src av items) (hO:Objs b' 272 l' e) (hm:∀o∈l,o∈l') {i x a:Nat} (hx:av[i]? = some x) (ha:∀o∈l',o.kind=6→a+8≤o.pos∨o.pos+up8 o.size≤a):a+8≤x+16∨x+24+8*roomF (i:Int)≤a:=by
  have:=ha _ (hm _ (h.ob i x hx)) q
  rw[up8_arr]at this
  simp only at this
  omega
theorem DatD.soft {b c:Ly} {l r:List Ob} {n:Nat} {k:Known} {ps:List Nat} (h:DatD b l k ps) (hs:DatS b l n k) (hO:Objs b 272 l b.length) (hO':Objs c 272 r c.length) (he:Eff (Soft r) b c) (hr:∀o∈l,o∈r):DatD c r k ps:=by
  have D:=up8_ge (64+k.text.length)
  refine h.eff hs hO he hr (fun a A=>?_) (fun i x C a A=>?_)
  · have:=((A.at hO').2.2 _ (hr _ hs.ob)).1 q
    simp only at this;omega
  exact h.chain.arr_at hO' hr C fun o B hk=>((A.at hO').2.2 o B).2 hk
theorem main_soft {b c:Ly} {l r:List Ob} {av items:List Nat} (h:Chain b l 176 av items) (hO:Objs b 272 l b.length) (hO':Objs c 272 r c.length) (he:Eff (Soft r) b c) (hr:∀o∈l,o∈r):Chain c r 176 av items:=by
  refine h.eff hO (main_src l) (Nat.le_refl _) he hr (fun a B=>?_) (fun i x D a B=>?_)
  · have:=(B.at hO').1;omega
  exact h.arr_at hO' hr D fun o C hk=>((B.at hO').2.2 o C).2 hk
theorem DatD.new {b:Ly} {l:List Ob} {k:Known} (h:Fresh b k.pos) (hc:k.count=0) (ha:k.arrays=[]):DatD b l k []:=by
  refine⟨hc,h.cnt,h.ent,?_⟩
  rw[ha]
  exact⟨h.arr,by simp,by simp,by simp,by simp,Nat.le_refl _,Nat.le_refl _⟩
def Hard (k:Known) (av:List Nat) (a:Nat):Prop:=a=k.pos+40∨a=k.pos+56∨LinkS (k.pos+48) av a
structure Hung (m m':Mk) (l l':List Ob) (i e:Nat) (k k':Known) (ps:List Nat):Prop where
  objs:Objs m'.b 272 l' m'.b.length
  sub:∃t,l'=l ++ t∧∀o∈t,o.kind=6∧m.b.length≤o.pos
  dat:m'.datas=m.datas.set i k'
  pos:k'.pos=k.pos∧k'.text=k.text∧k'.slot=k.slot
  arr:k'.arrays=k.arrays∨k'.arrays=k.arrays ++ [m.b.length]
  more:DatD m'.b l' k' (ps ++ [e])
  eff:Eff (Hard k k'.arrays) m.b m'.b
  top:m'.b.length≤m.b.length+2100
  same:m'.c=m.c∧m'.fields=m.fields∧m'.main=m.main∧m'.depth=m.depth∧∀i,i≠6→i≠7→i≠18→m'.num i=m.num i
theorem dat_sep {b:Ly} {l r:List Ob} {e n:Nat} {k:Known} (hO:Objs b 272 r e) (hm:∀o∈l,o∈r) {c:Ly} (hs:DatS c l n k):∀o∈r,o.kind=6→k.pos+64≤o.pos∨o.pos+up8 o.size≤k.pos:=fun o ho h6=>by
  have hu:=up8_ge (64+k.text.length)
  rcases hO.sep ho (hm _ hs.ob)with rfl|hh|hh
  · simp at h6
  · exact .inr hh
  · simp only at hh;exact .inl (by omega)
theorem dat_put {b c:Ly} {l r:List Ob} {n:Nat} {k:Known} (hs:DatS c l n k) (hm:∀o∈l,o∈r) (hO:Objs b 272 r b.length) {q:Nat} (v:Nat) (hq:q=k.pos+40∨q=k.pos+56):Objs (putN b q v) 272 r (putN b q v).length:=by
  have C:=up8_ge (64+k.text.length)
  rw[putN_len]
  exact hO.eff (Eff.put b q v) (Nat.le_refl _) fun o B a A=>by subst A;exact hO.body (.inr ⟨_,hm _ hs.ob,by simp only;omega,by simp only;omega⟩) B
theorem hang_zero {m:Mk} {l:List Ob} {i e n:Nat} {k:Known} {ps:List Nat} (hO:Objs m.b 272 l m.b.length) (hk:m.datas[i]? = some k) (hs:DatS m.b l n k) (hd:DatD m.b l k ps) (hb:m.b.length<900000) (he:e<18446744073709551616) (h0:k.count=0) :
    ∃l' k',Hung m (hang1 e i m) l l' i e k k' ps:=by
  have E:m.datas.getD i known0=k:=by simp[List.getD,hk]
  have V:=(hO.mem hs.ob).le
  have Z:=up8_ge (64+k.text.length)
  simp only at V
  have J:=hd.cnt
  unfold hang1
  simp only[E]
  rw[if_pos h0]
  have F:ps=[]:=List.eq_nil_of_length_eq_zero (by omega)
  subst F
  have R:=dat_put hs (fun _ h=>h) hO e (q:=k.pos+40) (.inl rfl)
  have S:=dat_put hs (fun _ h=>h) R 1 (q:=k.pos+56) (.inr rfl)
  have I:Eff (fun a=>a=k.pos+40∨a=k.pos+56) m.b (putN (putN m.b (k.pos+40) e) (k.pos+56) 1):=((Eff.put _ _ _).mono fun a A=>.inl A).trans ((Eff.put _ _ _).mono fun a A=>.inr A)
  have U:(putN (putN m.b (k.pos+40) e) (k.pos+56) 1).length=m.b.length:=by rw[putN_len,putN_len]
  have D:((m.put (k.pos+40) e).put (k.pos+56) 1).b=putN (putN m.b (k.pos+40) e) (k.pos+56) 1:=rfl
  have C:=put_same m (k.pos+40) e
  have Y:=put_same (m.put (k.pos+40) e) (k.pos+56) 1
  generalize (m.put (k.pos+40) e).put (k.pos+56) 1=M at *
  obtain⟨L,K,N,O,Q,P⟩:=Y
  rw[C.1]at L;rw[C.2.1]at K;rw[C.2.2.1]at N;rw[C.2.2.2.1]at O;rw[C.2.2.2.2.1]at Q;rw[C.2.2.2.2.2]at P
  clear C
  generalize hB:putN (putN m.b (k.pos+40) e) (k.pos+56) 1=B at *
  subst D
  have H:at8 M.b (k.pos+56)=1:=by rw[← hB];exact at8_put_same (by rw[putN_len];omega) (by decide)
  have G:at8 M.b (k.pos+40)=e:=by rw[← hB];exact(at8_put (by omega)).trans (at8_put_same (by omega) he)
  clear hB
  refine⟨l,{k with count:=1},S,⟨[],(List.append_nil l).symm,by simp⟩,?_,⟨rfl,rfl,rfl⟩,.inl rfl,⟨rfl,H,G,?_⟩,I.mono fun a A=>A.elim .inl fun h=>.inr (.inl h),?_,⟨L,N,O,P,fun j _ _ _=>?_⟩⟩
  · show M.datas.set i _=_
    rw[K]
  · refine hd.chain.eff hO (dat_src hs) (Nat.le_refl _) I (fun _ h=>h) (fun a A=>by omega) (fun j x X a A=>?_)
    exact hd.chain.arr_at hO (fun _ h=>h) X fun o W T=>by have:=dat_sep hO (fun _ h=>h) hs o W T;omega
  · show M.b.length≤_
    omega
  show M.h.n.getD j 0=_
  rw[Q];rfl
theorem hang_more {m:Mk} {l:List Ob} {i e n:Nat} {k:Known} {ps:List Nat} (hO:Objs m.b 272 l m.b.length) (hk:m.datas[i]? = some k) (hs:DatS m.b l n k) (hd:DatD m.b l k ps) (hb:m.b.length<900000) (he:e<18446744073709551616) (hp:ps.length<1000000) (h0:¬k.count=0) :
    ∃l' k',Hung m (hang1 e i m) l l' i e k k' ps:=by
  have H:m.datas.getD i known0=k:=by simp[List.getD,hk]
  have P:=(hO.mem hs.ob).le
  have U:=up8_ge (64+k.text.length)
  simp only at P
  have A:=hd.cnt
  unfold hang1
  simp only[H]
  rw[if_neg h0]
  have N:k.count-1=(ps.drop 1).length:=by simp;omega
  rw[N]
  obtain⟨l',L⟩:=link_im (x:=e) hO hd.chain (dat_src hs) hb he
  have O:=L.eff.len
  have B:∀o∈l,o∈l':=by
    rcases L.sub with h|h
    · rw[h];exact fun _ h=>h
    · rw[h];exact fun o E=>List.mem_append_left _ E
  have R:=at8_lt m.b (k.pos+40)
  generalize m.link k.arrays (ps.drop 1).length (k.pos+48) e=r at *
  obtain⟨a,t,F⟩:=r
  simp only at L O ⊢
  have J:=dat_put hs B L.objs (k.count+1) (q:=k.pos+56) (.inr rfl)
  have I:Eff (fun a=>a=k.pos+56) F.b (putN F.b (k.pos+56) (k.count+1)):=Eff.put _ _ _
  have Q:⟨k.pos,1,64+k.text.length⟩∈l':=B _ hs.ob
  have D:Src l' (k.pos+48):=(dat_src hs).mono B
  have hsep':=dat_sep L.objs B hs
  have G:at8 F.b (k.pos+40)=at8 m.b (k.pos+40):=L.eff.at8 (by omega) fun x C=>by
    rcases C with rfl|⟨j,c,K,S,T⟩
    · omega
    · have:=hsep' _ (L.chain.ob j c K) rfl
      rw[up8_arr]at this;simp only at this;omega
  refine⟨l',{k with arrays:=a,count:=k.count+1},J,?_,?_,⟨rfl,rfl,rfl⟩,L.arr,⟨?_,?_,?_,?_⟩,?_,?_,⟨L.same.1,L.same.2.2.1,L.same.2.2.2.1,L.same.2.2.2.2.1,L.same.2.2.2.2.2⟩⟩
  · rcases L.sub with h|h
    · exact⟨[],by simp[h],by simp⟩
    exact⟨_,h,by intro o E;simp at E;subst E;exact⟨rfl,Nat.le_refl _⟩⟩
  · show F.datas.set i _=_
    rw[L.same.2.1]
  · show k.count+1=_
    simp;omega
  · refine(at8_put_same (by omega) (by omega)).trans ?_
    simp;omega
  · show at8 (putN F.b (k.pos+56) (k.count+1)) (k.pos+40)=_
    rw[at8_put (by omega),G,hd.ent]
    cases ps with
    | nil=>simp at A;exact absurd A h0
    | cons y r=>rfl
  · have:(ps ++ [e]).drop 1=ps.drop 1 ++ [e]:=by
      cases ps with
      | nil=>simp at A;exact absurd A h0
      | cons y r=>rfl
    rw[this]
    refine L.chain.eff L.objs D (Nat.le_refl _) I (fun _ h=>h) (fun x C=>by omega) (fun j x C y V=>?_)
    exact L.chain.arr_at L.objs (fun _ h=>h) C fun o E M=>by have:=hsep' o E M;omega
  · exact(L.eff.mono fun x C=>.inr (.inr C)).trans (I.mono fun x C=>.inr (.inl C))
  show(putN F.b (k.pos+56) (k.count+1)).length≤_
  rw[putN_len];exact L.top
theorem hang_one {m:Mk} {l:List Ob} {i e n:Nat} {k:Known} {ps:List Nat} (hO:Objs m.b 272 l m.b.length) (hk:m.datas[i]? = some k) (hs:DatS m.b l n k) (hd:DatD m.b l k ps) (hb:m.b.length<900000) (he:e<18446744073709551616) (hp:ps.length<1000000) :
    ∃l' k',Hung m (hang1 e i m) l l' i e k k' ps:=by
  by_cases h0:k.count=0
  · exact hang_zero hO hk hs hd hb he h0
  exact hang_more hO hk hs hd hb he hp h0
end Go.Wk
