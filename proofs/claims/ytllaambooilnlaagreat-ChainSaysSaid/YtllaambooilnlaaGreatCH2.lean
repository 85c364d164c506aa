/- Part 2 of what the walk of a law stands on: Types, RefP, HashN, MakerP, MakerQ, FldR, SeqP, FieldQ, FldS, CompR, HeadR, HeadQ, ViewP, RefV, RefV2, AtP, AtQ, AtR, RatP, Loops2, MakerR, ImgP, LinkP, LinkQ, LinkV, MakerS, Anys, MakeP, LastP, RecP, AtT, RawP, RawT, ChP, ImT1, ImT2, ImT3, ImT4, ImT5, ImT6, ImT7, ImT8, ImT9, GoLP, ImT10, ImT11, ImT12, ImT13, ImT14, ImT15, ImT16, ImT17, LwP, ChQ, GuardR, VLe, VGet. No statement is proved here. -/
import Derived.Test.YtllaambooilnlaaGreatCH1
import Derived.Test.YtllaambooilnlaaGreatRows
set_option linter.unusedVariables false
set_option linter.unusedSimpArgs false
namespace Go.Wk
open Go Go.RowKit
def nums20 (l:List Nat):List Value:=[.int .u64 ((l.getD 0 0:Nat):Int),.int .u64 ((l.getD 1 0:Nat):Int),.int .u64 ((l.getD 2 0:Nat):Int),.int .u64 ((l.getD 3 0:Nat):Int),.int .u64 ((l.getD 4 0:Nat):Int),.int .u64 ((l.getD 5 0:Nat):Int),.int .u64 ((l.getD 6 0:Nat):Int),.int .u64 ((l.getD 7 0:Nat):Int),.int .u64 ((l.getD 8 0:Nat):Int),.int .u64 ((l.getD 9 0:Nat):Int),.int .u64 ((l.getD 10 0:Nat):Int),.int .u64 ((l.getD 11 0:Nat):Int),.int .u64 ((l.getD 12 0:Nat):Int),.int .u64 ((l.getD 13 0:Nat):Int),.int .u64 ((l.getD 14 0:Nat):Int),.int .u64 ((l.getD 15 0:Nat):Int),.int .u64 ((l.getD 16 0:Nat):Int),.int .u64 ((l.getD 17 0:Nat):Int),.int .u64 ((l.getD 18 0:Nat):Int),.int .u64 ((l.getD 19 0:Nat):Int)]
theorem nums20_map {l:List Nat} (h:l.length=20):nums20 l=l.map fun x=>.int .u64 (x:Int):=by
  apply List.ext_getElem
  · simp[nums20,h]
  intro i C E
  simp[nums20]at C
  simp only[List.getElem_map]
  have B:i<l.length:=by omega
  rcases Nat.lt_or_ge i 7 with D|D
  · rcases(show i=0∨i=1∨i=2∨i=3∨i=4∨i=5∨i=6 by omega)with rfl|rfl|rfl|rfl|rfl|rfl|rfl <;> simp[nums20,List.getD,B]
  skip
  rcases Nat.lt_or_ge i 14 with A|A
  · rcases(show i=7∨i=8∨i=9∨i=10∨i=11∨i=12∨i=13 by omega)with rfl|rfl|rfl|rfl|rfl|rfl|rfl <;> simp[nums20,List.getD,B]
  skip
  rcases(show i=14∨i=15∨i=16∨i=17∨i=18∨i=19 by omega)with rfl|rfl|rfl|rfl|rfl|rfl <;> simp[nums20,List.getD,B]
theorem nums20_set {l:List Nat} {k v:Nat} (h:l.length=20) (hk:k<20):nums20 (l.set k v)=(nums20 l).set k (.int .u64 (v:Int)):=by
  rw[nums20_map h,nums20_map (by simpa using h),List.map_set]
def tNums20:Dt (List Nat) where
  n:=20
  pos:=by decide
  rep _ _ cs x:=cs=nums20 x∧x.length=20∧∀y∈x,y<18446744073709551616
  len:=by rintro _ _ _ _ ⟨rfl,_⟩;rfl
  one:=by
    rintro _ _ _ _ ⟨rfl,h,_⟩ u hu
    rw[nums20_map h]at hu
    obtain⟨x,_,rfl⟩:=List.mem_map.1 hu
    rfl
  md:=fun h _ _=>h
  sub:=fun h _=>h
def nums21 (l:List Nat):List Value:=[.int .u64 ((l.getD 0 0:Nat):Int),.int .u64 ((l.getD 1 0:Nat):Int),.int .u64 ((l.getD 2 0:Nat):Int),.int .u64 ((l.getD 3 0:Nat):Int),.int .u64 ((l.getD 4 0:Nat):Int),.int .u64 ((l.getD 5 0:Nat):Int),.int .u64 ((l.getD 6 0:Nat):Int),.int .u64 ((l.getD 7 0:Nat):Int),.int .u64 ((l.getD 8 0:Nat):Int),.int .u64 ((l.getD 9 0:Nat):Int),.int .u64 ((l.getD 10 0:Nat):Int),.int .u64 ((l.getD 11 0:Nat):Int),.int .u64 ((l.getD 12 0:Nat):Int),.int .u64 ((l.getD 13 0:Nat):Int),.int .u64 ((l.getD 14 0:Nat):Int),.int .u64 ((l.getD 15 0:Nat):Int),.int .u64 ((l.getD 16 0:Nat):Int),.int .u64 ((l.getD 17 0:Nat):Int),.int .u64 ((l.getD 18 0:Nat):Int),.int .u64 ((l.getD 19 0:Nat):Int),.int .u64 ((l.getD 20 0:Nat):Int)]
theorem nums21_map {l:List Nat} (h:l.length=21):nums21 l=l.map fun x=>.int .u64 (x:Int):=by
  apply List.ext_getElem
  · simp[nums21,h]
  intro i C E
  simp[nums21]at C
  simp only[List.getElem_map]
  have B:i<l.length:=by omega
  rcases Nat.lt_or_ge i 7 with D|D
  · rcases(show i=0∨i=1∨i=2∨i=3∨i=4∨i=5∨i=6 by omega)with rfl|rfl|rfl|rfl|rfl|rfl|rfl <;> simp[nums21,List.getD,B]
  skip
  rcases Nat.lt_or_ge i 14 with A|A
  · rcases(show i=7∨i=8∨i=9∨i=10∨i=11∨i=12∨i=13 by omega)with rfl|rfl|rfl|rfl|rfl|rfl|rfl <;> simp[nums21,List.getD,B]
  skip
  rcases(show i=14∨i=15∨i=16∨i=17∨i=18∨i=19∨i=20 by omega)with rfl|rfl|rfl|rfl|rfl|rfl|rfl <;> simp[nums21,List.getD,B]
theorem nums21_set {l:List Nat} {k v:Nat} (h:l.length=21) (hk:k<21):nums21 (l.set k v)=(nums21 l).set k (.int .u64 (v:Int)):=by
  rw[nums21_map h,nums21_map (by simpa using h),List.map_set]
def tNums21:Dt (List Nat) where
  n:=21
  pos:=by decide
  rep _ _ cs x:=cs=nums21 x∧x.length=21∧∀y∈x,y<18446744073709551616
  len:=by rintro _ _ _ _ ⟨rfl,_⟩;rfl
  one:=by
    rintro _ _ _ _ ⟨rfl,h,_⟩ u hu
    rw[nums21_map h]at hu
    obtain⟨x,_,rfl⟩:=List.mem_map.1 hu
    rfl
  md:=fun h _ _=>h
  sub:=fun h _=>h
theorem ones_app {a b:List Value} (h:a.all (fun u=>u.oneCell')=true) (h2:b.all (fun u=>u.oneCell')=true):(a ++ b).all (fun u=>u.oneCell')=true:=by rw[List.all_append,h,h2];rfl
theorem ones_1 {v:Value} (h:v.oneCell'=true):[v].all (fun u=>u.oneCell')=true:=by simp[h]
theorem ones_idc (l:Ly):(idc l).all (fun u=>u.oneCell')=true:=List.all_eq_true.2 (one_idc l)
theorem nums_zero (n:Nat):(List.replicate n 0).length=n∧∀y∈List.replicate n 0,y<18446744073709551616:=⟨by simp,by simp⟩
theorem nums_set {l:List Nat} {n k v:Nat} (h:l.length=n∧∀y∈l,y<18446744073709551616) (hv:v<18446744073709551616):(l.set k v).length=n∧∀y∈l.set k v,y<18446744073709551616 :=
  ⟨by simpa using h.1,fun y hy=>(List.mem_or_eq_of_mem_set hy).elim (h.2 y) (fun e=>e ▸ hv)⟩
theorem nums_bd {l:List Nat} {n:Nat} (h:l.length=n∧∀y∈l,y<18446744073709551616) (k:Nat):l.getD k 0<18446744073709551616:=by
  rw[List.getD_eq_getElem?_getD]
  cases hk:l[k]? with
  | none=>simp
  | some y=>simpa using h.2 y (List.mem_of_getElem? hk)
structure Pr where
  name:List UInt8
  value:List UInt8
def Pr.cells (x:Pr):List Value :=
  [(str x.name)] ++ ([(str x.value)])
def tPr:Dt Pr:=tPull (fun x=>(x.name,x.value)) (tProd tStr tStr)
theorem tPr_un {w:World} {Q:Nat→Prop} {cs:List Value} {x:Pr} (h:tPr.rep w Q cs x):∃(_:True),cs=x.cells:=by
  obtain⟨_,_,rfl,⟨rfl,_⟩,⟨rfl,_⟩⟩:=h
  exact⟨trivial,q⟩
theorem tPr_mk {w:World} {Q:Nat→Prop} {x:Pr}:tPr.rep w Q (x.cells) x :=
  ⟨_,_,q,⟨q,tV⟩,⟨q,tV⟩⟩
theorem Pr.one {x:Pr}:(x.cells).all (fun u=>u.oneCell')=true:=(ones_app q q)
structure Rec where
  seq:Nat
  real:Nat
  mono:Nat
  boot:List UInt8
  fields:List Pr
def Rec.cells (x:Rec) (v0:Value):List Value :=
  [(.int .u64 x.seq)] ++ ([(.int .u64 x.real)] ++ ([(.int .u64 x.mono)] ++ ((idc x.boot) ++ ([v0]))))
def tRec:Dt Rec:=tPull (fun x=>(x.seq,x.real,x.mono,x.boot,x.fields)) (tProd tU64 (tProd tU64 (tProd tU64 (tProd tId (tSl tPr)))))
def Rec.ok (x:Rec):Prop:=x.seq<18446744073709551616∧x.real<18446744073709551616∧x.mono<18446744073709551616∧x.boot.length=16
theorem tRec_mk {w:World} {Q:Nat→Prop} {x:Rec} {v0:Value} (c0:Rec.ok x) (c1:Ls tPr w Q v0 x.fields):tRec.rep w Q (x.cells v0) x :=
  ⟨_,_,q,⟨q,c0.1⟩,⟨_,_,q,⟨q,c0.2.1⟩,⟨_,_,q,⟨q,c0.2.2.1⟩,⟨_,_,q,⟨q,c0.2.2.2⟩,⟨_,q,c1⟩⟩⟩⟩⟩
theorem Rec.one {x:Rec} {v0:Value} (h0:v0.oneCell'=true):(x.cells v0).all (fun u=>u.oneCell')=true:=(ones_app q (ones_app q (ones_app q (ones_app (ones_idc _) (ones_1 h0)))))
structure Frame where
  kind:Nat
  flags:Nat
  size:Nat
structure Dat where
  hash:Nat
  nextHash:Nat
  nextField:Nat
  entry:Nat
  array:Nat
  count:Nat
  payload:List UInt8
def Dat.cells (x:Dat) (v0:Value):List Value :=
  [(.int .u64 x.hash)] ++ ([(.int .u64 x.nextHash)] ++ ([(.int .u64 x.nextField)] ++ ([(.int .u64 x.entry)] ++ ([(.int .u64 x.array)] ++ ([(.int .u64 x.count)] ++ ([v0]))))))
def Dat.ok (x:Dat):Prop:=x.hash<18446744073709551616∧x.nextHash<18446744073709551616∧x.nextField<18446744073709551616∧x.entry<18446744073709551616∧x.array<18446744073709551616∧x.count<18446744073709551616
theorem Dat.one {x:Dat} {v0:Value} (h0:v0.oneCell'=true):(x.cells v0).all (fun u=>u.oneCell')=true:=(ones_app q (ones_app q (ones_app q (ones_app q (ones_app q (ones_app q (ones_1 h0)))))))
structure Fld where
  hash:Nat
  nextHash:Nat
  dat:Nat
  payload:List UInt8
def Fld.cells (x:Fld) (v0:Value):List Value :=
  [(.int .u64 x.hash)] ++ ([(.int .u64 x.nextHash)] ++ ([(.int .u64 x.dat)] ++ ([v0])))
def Fld.ok (x:Fld):Prop:=x.hash<18446744073709551616∧x.nextHash<18446744073709551616∧x.dat<18446744073709551616
theorem Fld.one {x:Fld} {v0:Value} (h0:v0.oneCell'=true):(x.cells v0).all (fun u=>u.oneCell')=true:=(ones_app q (ones_app q (ones_app q (ones_1 h0))))
structure Itm where
  pos:Nat
  hash:Nat
def Itm.cells (x:Itm):List Value :=
  [(.int .u64 x.pos)] ++ ([(.int .u64 x.hash)])
def tItm:Dt Itm:=tPull (fun x=>(x.pos,x.hash)) (tProd tU64 tU64)
def Itm.ok (x:Itm):Prop:=x.pos<18446744073709551616∧x.hash<18446744073709551616
theorem tItm_un {w:World} {Q:Nat→Prop} {cs:List Value} {x:Itm} (h:tItm.rep w Q cs x):∃(_:True),cs=x.cells∧Itm.ok x:=by
  obtain⟨_,_,rfl,⟨rfl,A⟩,⟨rfl,B⟩⟩:=h
  exact⟨trivial,q,⟨A,B⟩⟩
theorem tItm_mk {w:World} {Q:Nat→Prop} {x:Itm} (c0:Itm.ok x):tItm.rep w Q (x.cells) x :=
  ⟨_,_,q,⟨q,c0.1⟩,⟨q,c0.2⟩⟩
structure Ent where
  seq:Nat
  real:Nat
  mono:Nat
  boot:List UInt8
  xor:Nat
  items:List Itm
def Ent.cells (x:Ent) (v0:Value):List Value :=
  [(.int .u64 x.seq)] ++ ([(.int .u64 x.real)] ++ ([(.int .u64 x.mono)] ++ ((idc x.boot) ++ ([(.int .u64 x.xor)] ++ ([v0])))))
def Ent.ok (x:Ent):Prop:=x.seq<18446744073709551616∧x.real<18446744073709551616∧x.mono<18446744073709551616∧x.boot.length=16∧x.xor<18446744073709551616
structure Arr where
  next:Nat
  items:List Nat
def Arr.cells (x:Arr) (v0:Value):List Value :=
  [(.int .u64 x.next)] ++ ([v0])
def Arr.ok (x:Arr):Prop:=x.next<18446744073709551616
structure Slt where
  first:Nat
  tail:Nat
def Slt.cells (x:Slt):List Value :=
  [(.int .u64 x.first)] ++ ([(.int .u64 x.tail)])
def tSlt:Dt Slt:=tPull (fun x=>(x.first,x.tail)) (tProd tU64 tU64)
def Slt.ok (x:Slt):Prop:=x.first<18446744073709551616∧x.tail<18446744073709551616
theorem tSlt_un {w:World} {Q:Nat→Prop} {cs:List Value} {x:Slt} (h:tSlt.rep w Q cs x):∃(_:True),cs=x.cells∧Slt.ok x:=by
  obtain⟨_,_,rfl,⟨rfl,A⟩,⟨rfl,B⟩⟩:=h
  exact⟨trivial,q,⟨A,B⟩⟩
theorem tSlt_mk {w:World} {Q:Nat→Prop} {x:Slt} (c0:Slt.ok x):tSlt.rep w Q (x.cells) x :=
  ⟨_,_,q,⟨q,c0.1⟩,⟨q,c0.2⟩⟩
structure RHead where
  compat:Nat
  incompat:Nat
  state:Nat
  file:List UInt8
  machine:List UInt8
  boot:List UInt8
  seq:List UInt8
  n:List Nat
  tailArray:Nat
  tailItems:Nat
  tailEntry:Nat
def RHead.cells (x:RHead):List Value :=
  [(.int .u32 x.compat)] ++ ([(.int .u32 x.incompat)] ++ ([(.int .i64 x.state)] ++ ((idc x.file) ++ ((idc x.machine) ++ ((idc x.boot) ++ ((idc x.seq) ++ ((nums20 x.n) ++ ([(.int .u32 x.tailArray)] ++ ([(.int .u32 x.tailItems)] ++ ([(.int .u64 x.tailEntry)]))))))))))
def tRHead:Dt RHead:=tPull (fun x=>(x.compat,x.incompat,x.state,x.file,x.machine,x.boot,x.seq,x.n,x.tailArray,x.tailItems,x.tailEntry)) (tProd tU32 (tProd tU32 (tProd tNat (tProd tId (tProd tId (tProd tId (tProd tId (tProd (tNums20) (tProd tU32 (tProd tU32 tU64))))))))))
def RHead.ok (x:RHead):Prop:=x.compat<4294967296∧x.incompat<4294967296∧x.state<9223372036854775808∧x.file.length=16∧x.machine.length=16∧x.boot.length=16∧x.seq.length=16∧(x.n.length=20∧∀y∈x.n,y<18446744073709551616)∧x.tailArray<4294967296∧x.tailItems<4294967296∧x.tailEntry<18446744073709551616
theorem tRHead_un {w:World} {Q:Nat→Prop} {cs:List Value} {x:RHead} (h:tRHead.rep w Q cs x):∃(_:True),cs=x.cells∧RHead.ok x:=by
  obtain⟨_,_,rfl,⟨rfl,B⟩,⟨_,_,rfl,⟨rfl,C⟩,⟨_,_,rfl,⟨rfl,D⟩,⟨_,_,rfl,⟨rfl,E⟩,⟨_,_,rfl,⟨rfl,F⟩,⟨_,_,rfl,⟨rfl,G⟩,⟨_,_,rfl,⟨rfl,H⟩,⟨_,_,rfl,⟨rfl,I⟩,⟨_,_,rfl,⟨rfl,J⟩,⟨_,_,rfl,⟨rfl,K⟩,⟨rfl,A⟩⟩⟩⟩⟩⟩⟩⟩⟩⟩⟩:=h
  exact⟨trivial,q,⟨B,C,D,E,F,G,H,I,J,K,A⟩⟩
theorem tRHead_mk {w:World} {Q:Nat→Prop} {x:RHead} (c0:RHead.ok x):tRHead.rep w Q (x.cells) x :=
  ⟨_,_,q,⟨q,c0.1⟩,⟨_,_,q,⟨q,c0.2.1⟩,⟨_,_,q,⟨q,c0.2.2.1⟩,⟨_,_,q,⟨q,c0.2.2.2.1⟩,⟨_,_,q,⟨q,c0.2.2.2.2.1⟩,⟨_,_,q,⟨q,c0.2.2.2.2.2.1⟩,⟨_,_,q,⟨q,c0.2.2.2.2.2.2.1⟩,⟨_,_,q,⟨q,c0.2.2.2.2.2.2.2.1⟩,⟨_,_,q,⟨q,c0.2.2.2.2.2.2.2.2.1⟩,⟨_,_,q,⟨q,c0.2.2.2.2.2.2.2.2.2.1⟩,⟨q,c0.2.2.2.2.2.2.2.2.2.2⟩⟩⟩⟩⟩⟩⟩⟩⟩⟩⟩
theorem RHead.one {x:RHead}:(x.cells).all (fun u=>u.oneCell')=true:=(ones_app q (ones_app q (ones_app q (ones_app (ones_idc _) (ones_app (ones_idc _) (ones_app (ones_idc _) (ones_app (ones_idc _) (ones_app q (ones_app q (ones_app q q))))))))))
structure PHead where
  compat:Nat
  incompat:Nat
  state:Nat
  file:List UInt8
  machine:List UInt8
  boot:List UInt8
  seq:List UInt8
  n:List Nat
  tailArray:Nat
  tailItems:Nat
  tailEntry:Nat
def PHead.cells (x:PHead):List Value :=
  [(.int .u32 x.compat)] ++ ([(.int .u32 x.incompat)] ++ ([(.int .i64 x.state)] ++ ((idc x.file) ++ ((idc x.machine) ++ ((idc x.boot) ++ ((idc x.seq) ++ ((nums21 x.n) ++ ([(.int .u32 x.tailArray)] ++ ([(.int .u32 x.tailItems)] ++ ([(.int .u64 x.tailEntry)]))))))))))
def tPHead:Dt PHead:=tPull (fun x=>(x.compat,x.incompat,x.state,x.file,x.machine,x.boot,x.seq,x.n,x.tailArray,x.tailItems,x.tailEntry)) (tProd tU32 (tProd tU32 (tProd tNat (tProd tId (tProd tId (tProd tId (tProd tId (tProd (tNums21) (tProd tU32 (tProd tU32 tU64))))))))))
def PHead.ok (x:PHead):Prop:=x.compat<4294967296∧x.incompat<4294967296∧x.state<9223372036854775808∧x.file.length=16∧x.machine.length=16∧x.boot.length=16∧x.seq.length=16∧(x.n.length=21∧∀y∈x.n,y<18446744073709551616)∧x.tailArray<4294967296∧x.tailItems<4294967296∧x.tailEntry<18446744073709551616
theorem tPHead_un {w:World} {Q:Nat→Prop} {cs:List Value} {x:PHead} (h:tPHead.rep w Q cs x):∃(_:True),cs=x.cells∧PHead.ok x:=by
  obtain⟨_,_,rfl,⟨rfl,B⟩,⟨_,_,rfl,⟨rfl,C⟩,⟨_,_,rfl,⟨rfl,D⟩,⟨_,_,rfl,⟨rfl,E⟩,⟨_,_,rfl,⟨rfl,F⟩,⟨_,_,rfl,⟨rfl,G⟩,⟨_,_,rfl,⟨rfl,H⟩,⟨_,_,rfl,⟨rfl,I⟩,⟨_,_,rfl,⟨rfl,J⟩,⟨_,_,rfl,⟨rfl,K⟩,⟨rfl,A⟩⟩⟩⟩⟩⟩⟩⟩⟩⟩⟩:=h
  exact⟨trivial,q,⟨B,C,D,E,F,G,H,I,J,K,A⟩⟩
theorem tPHead_mk {w:World} {Q:Nat→Prop} {x:PHead} (c0:PHead.ok x):tPHead.rep w Q (x.cells) x :=
  ⟨_,_,q,⟨q,c0.1⟩,⟨_,_,q,⟨q,c0.2.1⟩,⟨_,_,q,⟨q,c0.2.2.1⟩,⟨_,_,q,⟨q,c0.2.2.2.1⟩,⟨_,_,q,⟨q,c0.2.2.2.2.1⟩,⟨_,_,q,⟨q,c0.2.2.2.2.2.1⟩,⟨_,_,q,⟨q,c0.2.2.2.2.2.2.1⟩,⟨_,_,q,⟨q,c0.2.2.2.2.2.2.2.1⟩,⟨_,_,q,⟨q,c0.2.2.2.2.2.2.2.2.1⟩,⟨_,_,q,⟨q,c0.2.2.2.2.2.2.2.2.2.1⟩,⟨q,c0.2.2.2.2.2.2.2.2.2.2⟩⟩⟩⟩⟩⟩⟩⟩⟩⟩⟩
theorem PHead.one {x:PHead}:(x.cells).all (fun u=>u.oneCell')=true:=(ones_app q (ones_app q (ones_app q (ones_app (ones_idc _) (ones_app (ones_idc _) (ones_app (ones_idc _) (ones_app (ones_idc _) (ones_app q (ones_app q (ones_app q q))))))))))
structure PView where
  b:List UInt8
  h:PHead
def PView.cells (x:PView) (v0:Value):List Value :=
  [v0] ++ ((PHead.cells x.h))
def tPView:Dt PView:=tPull (fun x=>(x.b,x.h)) (tProd (tSl tB8) tPHead)
def PView.ok (x:PView):Prop:=PHead.ok x.h
theorem tPView_un {w:World} {Q:Nat→Prop} {cs:List Value} {x:PView} (h:tPView.rep w Q cs x):∃v0,cs=x.cells v0∧PView.ok x∧Ls tB8 w Q v0 x.b:=by
  obtain⟨_,_,rfl,⟨v0,rfl,B⟩,C⟩:=h
  obtain⟨_,rfl,A⟩:=tPHead_un C
  exact⟨v0,q,A,B⟩
theorem tPView_mk {w:World} {Q:Nat→Prop} {x:PView} {v0:Value} (c0:PView.ok x) (c1:Ls tB8 w Q v0 x.b):tPView.rep w Q (x.cells v0) x :=
  ⟨_,_,q,⟨_,q,c1⟩,(tPHead_mk c0)⟩
structure RView where
  h:RHead
  depth:Nat
  b:List UInt8
def RView.cells (x:RView) (v0:Value):List Value :=
  (RHead.cells x.h) ++ ([(.int .u64 x.depth)] ++ ([v0]))
def tRView:Dt RView:=tPull (fun x=>(x.h,x.depth,x.b)) (tProd tRHead (tProd tU64 (tSl tB8)))
def RView.ok (x:RView):Prop:=RHead.ok x.h∧x.depth<18446744073709551616
theorem tRView_un {w:World} {Q:Nat→Prop} {cs:List Value} {x:RView} (h:tRView.rep w Q cs x):∃v0,cs=x.cells v0∧RView.ok x∧Ls tB8 w Q v0 x.b:=by
  obtain⟨_,_,rfl,B,⟨_,_,rfl,⟨rfl,C⟩,⟨v0,rfl,D⟩⟩⟩:=h
  obtain⟨_,rfl,A⟩:=tRHead_un B
  exact⟨v0,q,⟨A,C⟩,D⟩
theorem tRView_mk {w:World} {Q:Nat→Prop} {x:RView} {v0:Value} (c0:RView.ok x) (c1:Ls tB8 w Q v0 x.b):tRView.rep w Q (x.cells v0) x :=
  ⟨_,_,q,(tRHead_mk c0.1),⟨_,_,q,⟨q,c0.2⟩,⟨_,q,c1⟩⟩⟩
structure Cfg where
  file:List UInt8
  machine:List UInt8
  seq:List UInt8
  dataSlots:Nat
  fieldSlots:Nat
  most:Nat
  keyed:Bool
def Cfg.cells (x:Cfg):List Value :=
  (idc x.file) ++ ((idc x.machine) ++ ((idc x.seq) ++ ([(.int .i64 x.dataSlots)] ++ ([(.int .i64 x.fieldSlots)] ++ ([(.int .i64 x.most)] ++ ([(.bool x.keyed)]))))))
def tCfg:Dt Cfg:=tPull (fun x=>(x.file,x.machine,x.seq,x.dataSlots,x.fieldSlots,x.most,x.keyed)) (tProd tId (tProd tId (tProd tId (tProd tNat (tProd tNat (tProd tNat tBool))))))
def Cfg.ok (x:Cfg):Prop:=x.file.length=16∧x.machine.length=16∧x.seq.length=16∧x.dataSlots<9223372036854775808∧x.fieldSlots<9223372036854775808∧x.most<9223372036854775808
theorem tCfg_un {w:World} {Q:Nat→Prop} {cs:List Value} {x:Cfg} (h:tCfg.rep w Q cs x):∃(_:True),cs=x.cells∧Cfg.ok x:=by
  obtain⟨_,_,rfl,⟨rfl,A⟩,⟨_,_,rfl,⟨rfl,B⟩,⟨_,_,rfl,⟨rfl,C⟩,⟨_,_,rfl,⟨rfl,D⟩,⟨_,_,rfl,⟨rfl,E⟩,⟨_,_,rfl,⟨rfl,F⟩,⟨rfl,_⟩⟩⟩⟩⟩⟩⟩:=h
  exact⟨trivial,q,⟨A,B,C,D,E,F⟩⟩
theorem tCfg_mk {w:World} {Q:Nat→Prop} {x:Cfg} (c0:Cfg.ok x):tCfg.rep w Q (x.cells) x :=
  ⟨_,_,q,⟨q,c0.1⟩,⟨_,_,q,⟨q,c0.2.1⟩,⟨_,_,q,⟨q,c0.2.2.1⟩,⟨_,_,q,⟨q,c0.2.2.2.1⟩,⟨_,_,q,⟨q,c0.2.2.2.2.1⟩,⟨_,_,q,⟨q,c0.2.2.2.2.2⟩,⟨q,tV⟩⟩⟩⟩⟩⟩⟩
theorem Cfg.one {x:Cfg}:(x.cells).all (fun u=>u.oneCell')=true:=(ones_app (ones_idc _) (ones_app (ones_idc _) (ones_app (ones_idc _) (ones_app q (ones_app q (ones_app q q))))))
structure Known where
  text:List UInt8
  pos:Nat
  slot:Nat
  count:Nat
  arrays:List Nat
def Known.cells (x:Known) (v0:Value):List Value :=
  [(str x.text)] ++ ([(.int .u64 x.pos)] ++ ([(.int .i64 x.slot)] ++ ([(.int .i64 x.count)] ++ ([v0]))))
def tKnown:Dt Known:=tPull (fun x=>(x.text,x.pos,x.slot,x.count,x.arrays)) (tProd tStr (tProd tU64 (tProd tNat (tProd tNat (tSl tU64)))))
def Known.ok (x:Known):Prop:=x.pos<18446744073709551616∧x.slot<9223372036854775808∧x.count<9223372036854775808
theorem tKnown_un {w:World} {Q:Nat→Prop} {cs:List Value} {x:Known} (h:tKnown.rep w Q cs x):∃v0,cs=x.cells v0∧Known.ok x∧Ls tU64 w Q v0 x.arrays:=by
  obtain⟨_,_,rfl,⟨rfl,_⟩,⟨_,_,rfl,⟨rfl,A⟩,⟨_,_,rfl,⟨rfl,B⟩,⟨_,_,rfl,⟨rfl,C⟩,⟨v0,rfl,D⟩⟩⟩⟩⟩:=h
  exact⟨v0,q,⟨A,B,C⟩,D⟩
theorem tKnown_mk {w:World} {Q:Nat→Prop} {x:Known} {v0:Value} (c0:Known.ok x) (c1:Ls tU64 w Q v0 x.arrays):tKnown.rep w Q (x.cells v0) x :=
  ⟨_,_,q,⟨q,tV⟩,⟨_,_,q,⟨q,c0.1⟩,⟨_,_,q,⟨q,c0.2.1⟩,⟨_,_,q,⟨q,c0.2.2⟩,⟨_,q,c1⟩⟩⟩⟩⟩
theorem Known.one {x:Known} {v0:Value} (h0:v0.oneCell'=true):(x.cells v0).all (fun u=>u.oneCell')=true:=(ones_app q (ones_app q (ones_app q (ones_app q (ones_1 h0)))))
structure Mk where
  c:Cfg
  h:RHead
  depth:Nat
  b:List UInt8
  datas:List Known
  fields:List Known
  main:List Nat
def Mk.cells (x:Mk) (v0:Value) (v1:Value) (v2:Value) (v3:Value):List Value :=
  (Cfg.cells x.c) ++ ((RHead.cells x.h) ++ ([(.int .u64 x.depth)] ++ ([v0] ++ ([v1] ++ ([v2] ++ ([v3]))))))
def tMk:Dt Mk:=tPull (fun x=>(x.c,x.h,x.depth,x.b,x.datas,x.fields,x.main)) (tProd tCfg (tProd tRHead (tProd tU64 (tProd (tSl tB8) (tProd (tSl tKnown) (tProd (tSl tKnown) (tSl tU64)))))))
def Mk.ok (x:Mk):Prop:=Cfg.ok x.c∧RHead.ok x.h∧x.depth<18446744073709551616
theorem tMk_un {w:World} {Q:Nat→Prop} {cs:List Value} {x:Mk} (h:tMk.rep w Q cs x):∃v0 v1 v2 v3,cs=x.cells v0 v1 v2 v3∧Mk.ok x∧Ls tB8 w Q v0 x.b∧Ls tKnown w Q v1 x.datas∧Ls tKnown w Q v2 x.fields∧Ls tU64 w Q v3 x.main:=by
  obtain⟨_,_,rfl,C,⟨_,_,rfl,D,⟨_,_,rfl,⟨rfl,E⟩,⟨_,_,rfl,⟨v0,rfl,F⟩,⟨_,_,rfl,⟨v1,rfl,G⟩,⟨_,_,rfl,⟨v2,rfl,H⟩,⟨v3,rfl,I⟩⟩⟩⟩⟩⟩⟩:=h
  obtain⟨_,rfl,A⟩:=tCfg_un C
  obtain⟨_,rfl,B⟩:=tRHead_un D
  exact⟨v0,v1,v2,v3,q,⟨A,B,E⟩,F,G,H,I⟩
theorem tMk_mk {w:World} {Q:Nat→Prop} {x:Mk} {v0:Value} {v1:Value} {v2:Value} {v3:Value} (c0:Mk.ok x) (c1:Ls tB8 w Q v0 x.b) (c2:Ls tKnown w Q v1 x.datas) (c3:Ls tKnown w Q v2 x.fields) (c4:Ls tU64 w Q v3 x.main):tMk.rep w Q (x.cells v0 v1 v2 v3) x :=
  ⟨_,_,q,(tCfg_mk c0.1),⟨_,_,q,(tRHead_mk c0.2.1),⟨_,_,q,⟨q,c0.2.2⟩,⟨_,_,q,⟨_,q,c1⟩,⟨_,_,q,⟨_,q,c2⟩,⟨_,_,q,⟨_,q,c3⟩,⟨_,q,c4⟩⟩⟩⟩⟩⟩⟩
theorem Mk.one {x:Mk} {v0:Value} {v1:Value} {v2:Value} {v3:Value} (h0:v0.oneCell'=true) (h1:v1.oneCell'=true) (h2:v2.oneCell'=true) (h3:v3.oneCell'=true):(x.cells v0 v1 v2 v3).all (fun u=>u.oneCell')=true:=(ones_app (Cfg.one) (ones_app (RHead.one) (ones_app q (ones_app (ones_1 h0) (ones_app (ones_1 h1) (ones_app (ones_1 h2) (ones_1 h3)))))))
structure Sq where
  l:List Int
  pos:Nat
def Sq.cells (x:Sq) (v0:Value):List Value :=
  [v0] ++ ([(.int .i64 x.pos)])
def Sq.ok (x:Sq):Prop:=x.pos<9223372036854775808
end Go.Wk
namespace Go.Wk
open Go Go.RowKit
def low:Nat→Nat→List UInt8
  | _,0=>[]
  | v,n+1=>UInt8.ofNat (v%256) :: low (v/256) n
theorem low_len (v n:Nat):(low v n).length=n:=by
  induction n generalizing v with
  | zero=>rfl
  | succ n ih=>simp[low,ih]
def nums:List Nat→List UInt8
  | []=>[]
  | v :: r=>low v 8 ++ nums r
theorem nums_len (l:List Nat):(nums l).length=8*l.length:=by
  induction l with
  | nil=>rfl
  | cons v r ih=>simp[nums,low_len,ih];omega
theorem low_step (v:Nat) {n i:Nat} (h:i<n):low v (n-i)=UInt8.ofNat (v%256) :: low (v/256) (n-(i+1)):=by
  rw[show n-i=(n-(i+1))+1 by omega];rfl
theorem low_end (v:Nat) {n i:Nat} (h:¬i<n):low v (n-i)=[]:=by
  rw[show n-i=0 by omega];rfl
theorem nums_step {l:List Nat} {i x:Nat} (h:l[i]? = some x):nums (l.drop i)=low x 8 ++ nums (l.drop (i+1)):=by rw[drop_get h];rfl
theorem nums_end {l:List Nat} {i:Nat} (h:¬i<l.length):nums (l.drop i)=[]:=by rw[drop_end (by omega)];rfl
def pad8 (l:Ly):List UInt8:=l ++ List.replicate ((8-l.length%8)%8) 0
theorem pad8_step {l:Ly} (h:l.length%8≠0):pad8 l=pad8 (l ++ [0]):=by
  unfold pad8
  rw[List.append_assoc,List.length_append]
  congr 1
  rw[show(8-l.length%8)%8=(8-(l.length+[(0:UInt8)].length)%8)%8+1 by simp;omega,List.replicate_succ]
  rfl
theorem pad8_end {l:Ly} (h:l.length%8=0):pad8 l=l:=by simp[pad8,h]
theorem pad8_len (l:Ly):(pad8 l).length=(l.length+7)/8*8:=by simp[pad8];omega
def putF (kind:Nat) (body:Ly):List UInt8 :=
  if kind<1∨7<kind then[]else pad8 ([UInt8.ofNat kind,0,0,0,0,0,0,0] ++ nums [16+body.length] ++ body)
def putDataF (d:Dat):List UInt8:=putF 1 (nums [d.hash,d.nextHash,d.nextField,d.entry,d.array,d.count] ++ d.payload)
def putFieldF (d:Fld):List UInt8:=putF 2 (nums [d.hash,d.nextHash,d.dat] ++ d.payload)
def putArrayF (a:Arr):List UInt8:=putF 6 (nums [a.next] ++ nums a.items)
def slotsF:List Slt→List UInt8
  | []=>[]
  | s :: r=>nums [s.first,s.tail] ++ slotsF r
def putTableF (kind:Nat) (l:List Slt):List UInt8:=if kind≠4∧kind≠5 then[]else putF kind (slotsF l)
def itemsF:List Itm→List UInt8
  | []=>[]
  | s :: r=>nums [s.pos,s.hash] ++ itemsF r
def putEntryF (e:Ent):List UInt8:=putF 3 (nums [e.seq,e.real,e.mono] ++ e.boot ++ nums [e.xor] ++ itemsF e.items)
def headF (h:RHead) (depth:Nat):List UInt8 :=
  [76,80,75,83,72,72,82,72] ++ low h.compat 4 ++ low h.incompat 4 ++ [UInt8.ofNat h.state,0,0,0,0,0,0,0] ++ h.file ++ h.machine ++ h.boot ++ h.seq ++ nums h.n ++ nums [depth] ++ low h.tailArray 4 ++ low h.tailItems 4 ++ nums [h.tailEntry]
theorem putF_len {k:Nat} {b:Ly} (h:1≤k∧k≤7):(putF k b).length=(16+b.length+7)/8*8:=by
  unfold putF
  rw[if_neg (by omega),pad8_len]
  simp[nums_len]
  omega
theorem slots_step {l:List Slt} {i:Nat} {x:Slt} (h:l[i]? = some x):slotsF (l.drop i)=nums [x.first,x.tail] ++ slotsF (l.drop (i+1)):=by rw[drop_get h];rfl
theorem slots_end {l:List Slt} {i:Nat} (h:¬i<l.length):slotsF (l.drop i)=[]:=by rw[drop_end (by omega)];rfl
theorem slots_len (l:List Slt):(slotsF l).length=16*l.length:=by
  induction l with
  | nil=>rfl
  | cons v r ih=>simp[slotsF,nums_len,ih];omega
theorem items_step {l:List Itm} {i:Nat} {x:Itm} (h:l[i]? = some x):itemsF (l.drop i)=nums [x.pos,x.hash] ++ itemsF (l.drop (i+1)):=by rw[drop_get h];rfl
theorem items_end {l:List Itm} {i:Nat} (h:¬i<l.length):itemsF (l.drop i)=[]:=by rw[drop_end (by omega)];rfl
theorem items_len (l:List Itm):(itemsF l).length=16*l.length:=by
  induction l with
  | nil=>rfl
  | cons v r ih=>simp[itemsF,nums_len,ih];omega
theorem putDataF_len (d:Dat):(putDataF d).length=(16+(48+d.payload.length)+7)/8*8:=by unfold putDataF;rw[putF_len (by omega)];simp[nums_len]
theorem putFieldF_len (d:Fld):(putFieldF d).length=(16+(24+d.payload.length)+7)/8*8:=by unfold putFieldF;rw[putF_len (by omega)];simp[nums_len]
theorem putArrayF_len (a:Arr):(putArrayF a).length=(16+(8+8*a.items.length)+7)/8*8:=by unfold putArrayF;rw[putF_len (by omega)];simp[nums_len]
theorem putEntryF_len (e:Ent) (h:e.boot.length=16):(putEntryF e).length=(16+(48+16*e.items.length)+7)/8*8:=by unfold putEntryF;rw[putF_len (by omega)];simp[nums_len,items_len,h];omega
theorem putTableF_len (kind:Nat) (l:List Slt) (h:kind=4∨kind=5):(putTableF kind l).length=(16+16*l.length+7)/8*8:=by unfold putTableF;rw[if_neg (by omega),putF_len (by omega),slots_len]
theorem putTableF_lenA (kind:Nat) (l:List Slt):(putTableF kind l).length≤24+16*l.length∧(kind=4∨kind=5→(putTableF kind l).length=(16+16*l.length+7)/8*8):=by
  refine⟨?_,fun h=>putTableF_len kind l h⟩
  by_cases h:kind=4∨kind=5
  · rw[putTableF_len kind l h];omega
  unfold putTableF;rw[if_pos (by omega)];simp
theorem rhead_set {h:RHead} {j v:Nat} (hn:h.n.length=20) (hj:j<20):(RHead.cells h).set (67+j) (.int .u64 v)=RHead.cells {h with n:=h.n.set j v}:=by
  have e:∀(m:List Nat) (t:RHead),t.n=m→RHead.cells t=([(.int .u32 t.compat)] ++ ([(.int .u32 t.incompat)] ++ ([(.int .i64 t.state)] ++ ((idc t.file) ++ ((idc t.machine) ++ ((idc t.boot) ++ (idc t.seq))))))) ++ (nums20 m ++ ([(.int .u32 t.tailArray)] ++ ([(.int .u32 t.tailItems)] ++ [(.int .u64 t.tailEntry)]))):=by
    intro m t C;subst C;simp only[RHead.cells,List.append_assoc]
  rw[e h.n h q,e (h.n.set j v) {h with n:=h.n.set j v} q,nums20_set hn hj]
  have B:([(.int .u32 h.compat)] ++ ([(.int .u32 h.incompat)] ++ ([(.int .i64 h.state)] ++ ((idc h.file) ++ ((idc h.machine) ++ ((idc h.boot) ++ (idc h.seq)))))):List Value).length=67:=rfl
  have A:(nums20 h.n).length=20:=rfl
  rw[List.set_append_right _ _ (by omega),B,Nat.add_sub_cancel_left,List.set_append_left _ _ (by omega)]
end Go.Wk
namespace Go.Wk
open Go Go.RowKit
theorem bits_bd64 (op:BinOp) (a b:Int):0≤bits op .u64 a b∧bits op .u64 a b<18446744073709551616:=by
  unfold bits
  cases op <;> simp only[wrap_u64_mod] <;> omega
theorem pack_bd (t:T3):0≤pack t∧pack t<18446744073709551616:=bits_bd64 _ _ _
theorem lkF_bd:∀(k:Nat) (t:T3) (l:Ly),0≤lkF k t l∧lkF k t l<18446744073709551616
  | 0,t,l=>by unfold lkF;split<;>exact pack_bd _
  | k+1,t,l=>by
    unfold lkF
    split
    · exact lkF_bd k _ _
    · split<;>exact pack_bd _
theorem lookup_bd (l:Ly):0≤lookup l∧lookup l<18446744073709551616:=lkF_bd _ _ _
theorem sip_bd (key l:Ly):0≤sip key l∧sip key l<18446744073709551616:=by
  unfold sip sipEnd S4.all xor64
  exact bits_bd64 _ _ _
def lookN (l:Ly):Nat:=(lookup l).toNat
def hashN (k:Bool) (key l:Ly):Nat:=if k then(sip key l).toNat else lookN l
theorem hashN_eq (k:Bool) (key l:Ly):((hashN k key l:Nat):Int)=if k then sip key l else lookup l:=by
  unfold hashN lookN
  have A:=lookup_bd l
  have B:=sip_bd key l
  cases k <;> simp <;> omega
theorem hashN_lt (k:Bool) (key l:Ly):hashN k key l<18446744073709551616:=by
  have B:=lookup_bd l
  have C:=sip_bd key l
  have A:=hashN_eq k key l
  cases k <;> simp at A <;> omega
theorem lookN_eq (l:Ly):((lookN l:Nat):Int)=lookup l:=by have A:=lookup_bd l;unfold lookN;omega
theorem lookN_lt (l:Ly):lookN l<18446744073709551616:=by have A:=lookup_bd l;unfold lookN;omega
def xorF (v:Nat):List (List UInt8)→Nat
  | []=>v
  | b :: r=>xorF (v ^^^ lookN b) r
theorem xor_step {v:Nat} {l:List (List UInt8)} {i:Nat} {x:Ly} (h:l[i]? = some x):xorF v (l.drop i)=xorF (v ^^^ lookN x) (l.drop (i+1)):=by rw[drop_get h];rfl
theorem xor_end {v:Nat} {l:List (List UInt8)} {i:Nat} (h:¬i<l.length):xorF v (l.drop i)=v:=by rw[drop_end (by omega)];rfl
theorem xor64_lt {a b:Nat} (ha:a<18446744073709551616) (hb:b<18446744073709551616):a ^^^ b<18446744073709551616:=Nat.xor_lt_two_pow (n:=64) ha hb
def payload (p:Pr):List UInt8:=p.name ++ [61] ++ p.value
theorem payload_len (p:Pr):(payload p).length=p.name.length+1+p.value.length:=by simp[payload];omega
end Go.Wk
namespace Go.Wk
open Go Go.RowKit
def roomF (k:Int):Nat:=if k<0 then 0 else if 6<k then 256 else min (4*2 ^ k.toNat) 256
def putG:Nat→List UInt8→Nat→Nat→Nat→List UInt8
  | 0,b,_,_,_=>b
  | n+1,b,p,v,i=>putG n (b.set (p+i) (UInt8.ofNat (v/2 ^ (8*i)))) p v (i+1)
def putN (b:Ly) (p v:Nat):List UInt8:=putG 8 b p v 0
theorem putG_len (n:Nat) (b:Ly) (p v i:Nat):(putG n b p v i).length=b.length:=by
  induction n generalizing b i with
  | zero=>rfl
  | succ n ih=>simp[putG,ih]
theorem putN_len (b:Ly) (p v:Nat):(putN b p v).length=b.length:=putG_len 8 b p v 0
def Mk.put (m:Mk) (p v:Nat):Mk:={m with b:=putN m.b p v}
theorem put_len (m:Mk) (p v:Nat):(m.put p v).b.length=m.b.length:=putN_len _ _ _
theorem putG_step {n i:Nat} {b:Ly} {p v:Nat} (h:i<n):putG (n-i) b p v i=putG (n-(i+1)) (b.set (p+i) (UInt8.ofNat (v/2 ^ (8*i)))) p v (i+1):=by
  rw[show n-i=(n-(i+1))+1 by omega];rfl
theorem putG_end {n i:Nat} {b:Ly} {p v:Nat} (h:¬i<n):putG (n-i) b p v i=b:=by rw[show n-i=0 by omega];rfl
def Mk.setN (m:Mk) (k v:Nat):Mk:={m with h:={m.h with n:=m.h.n.set k v}}
def Mk.num (m:Mk) (k:Nat):Nat:=m.h.n.getD k 0
def Mk.object (m:Mk) (o:Ly):Nat × Mk :=
  let m1:={m with b:=m.b ++ o}
  let m29:=m1.setN 6 m.b.length
  (m.b.length,m29.setN 7 ((m29.num 7+1)%18446744073709551616))
def hangL (slot:Nat):List Known→Nat→Nat→Nat × Nat
  | [],n,q=>(n,q)
  | k :: r,n,q=>if k.slot=slot then hangL slot r (n+1) k.pos else hangL slot r n q
def Mk.hang (m:Mk) (l:List Known) (table p slot:Nat):Nat × Mk :=
  match hangL slot l 0 0 with
  | (n,q)=>(n,(if n=0 then m.put (table+16*slot) p else m.put (q+24) p).put (table+16*slot+8) p)
def findK (name:Ly):List Known→Option Nat
  | []=>none
  | k :: r=>if k.text=name then some k.pos else findK name r
def findI (s:Ly):List Known→Nat→Option Nat
  | [],_=>none
  | k :: r,i=>if k.text=s then some i else findI s r (i+1)
def Mk.field (m:Mk) (name:Ly):Nat × Mk :=
  match findK name m.fields with
  | some p=>(p,m)
  | none =>
    match m.object (putFieldF {hash:=hashN m.c.keyed m.c.file name,nextHash:=0,dat:=0,payload:=name})with
    | (p,m1)=>match m1.hang m1.fields (m1.num 4) p (hashN m.c.keyed m.c.file name%m1.c.fieldSlots)with
      | (n,m29) =>
        let m3:={m29 with depth:=max m1.depth n}
        let m4:=m3.setN 16 ((m3.num 16+1)%18446744073709551616)
        (p,{m4 with fields:=m4.fields ++ [({text:=name,pos:=p,slot:=hashN m.c.keyed m.c.file name%m1.c.fieldSlots,count:=0,arrays:=[]}:Known)]})
def Mk.data (m:Mk) (x:Pr):Nat × Mk :=
  match findI (payload x) m.datas 0 with
  | some i=>(i,m)
  | none =>
    match m.object (putDataF {hash:=hashN m.c.keyed m.c.file (payload x),nextHash:=0,nextField:=0,entry:=0,array:=0,count:=0,payload:=payload x})with
    | (p,m1)=>match m1.hang m1.datas (m1.num 2) p (hashN m.c.keyed m.c.file (payload x)%m1.c.dataSlots)with
      | (n,m29) =>
        let m3:=m29.setN 19 (max (m29.num 19) n)
        let m4:=m3.setN 15 ((m3.num 15+1)%18446744073709551616)
        let m5:={m4 with datas:=m4.datas ++ [({text:=payload x,pos:=p,slot:=hashN m.c.keyed m.c.file (payload x)%m1.c.dataSlots,count:=0,arrays:=[]}:Known)]}
        match m5.field x.name with
        | (k,m6) =>
          let m7:=m6.put (p+32) (getF m6.b (k+32:Nat) 8).1
          let m8:=m7.put (k+32) p
          (m8.datas.length-1,m8)
theorem setN_same (m:Mk) (k v:Nat):(m.setN k v).b=m.b∧(m.setN k v).c=m.c∧(m.setN k v).datas=m.datas∧(m.setN k v).fields=m.fields∧(m.setN k v).main=m.main:=⟨q,q,q,q,q⟩
theorem getD_set_ne' {l:List Nat} {i j v:Nat} (h:i≠j):(l.set i v).getD j 0=l.getD j 0:=by simp[List.getD,List.getElem?_set_ne h]
theorem num_setN {m:Mk} {k v j:Nat} (h:k≠j):(m.setN k v).num j=m.num j:=getD_set_ne' h
theorem object_spec (m:Mk) (o:Ly):(m.object o).1=m.b.length∧(m.object o).2.b.length=m.b.length+o.length∧(m.object o).2.c.dataSlots=m.c.dataSlots∧(m.object o).2.c.fieldSlots=m.c.fieldSlots∧(m.object o).2.datas.length=m.datas.length∧(m.object o).2.fields.length=m.fields.length ∧
    (m.object o).2.h.n.getD 2 0=m.h.n.getD 2 0∧(m.object o).2.h.n.getD 4 0=m.h.n.getD 4 0 :=
  ⟨q,by simp[Mk.object,Mk.setN],q,q,q,q,by simp only[Mk.object,Mk.setN];rw[getD_set_ne' (by decide),getD_set_ne' (by decide)],by simp only[Mk.object,Mk.setN];rw[getD_set_ne' (by decide),getD_set_ne' (by decide)]⟩
theorem object_same (m:Mk) (o:Ly):(m.object o).2.c=m.c∧(m.object o).2.datas=m.datas∧(m.object o).2.fields=m.fields∧(m.object o).2.main=m.main:=⟨q,q,q,q⟩
theorem put_spec (m:Mk) (p v:Nat):(m.put p v).b.length=m.b.length∧(m.put p v).c.dataSlots=m.c.dataSlots∧(m.put p v).c.fieldSlots=m.c.fieldSlots∧(m.put p v).datas.length=m.datas.length∧(m.put p v).fields.length=m.fields.length ∧
    (m.put p v).h.n.getD 2 0=m.h.n.getD 2 0∧(m.put p v).h.n.getD 4 0=m.h.n.getD 4 0:=⟨putN_len _ _ _,q,q,q,q,q,q⟩
theorem hang_eq (m:Mk) (l:List Known) (table p slot:Nat):(m.hang l table p slot).2={m with b:=(m.hang l table p slot).2.b}∧(m.hang l table p slot).2.b.length=m.b.length:=by
  unfold Mk.hang
  generalize hangL slot l 0 0=r
  obtain⟨n,q⟩:=r
  simp only
  split
  · exact⟨rfl,by rw[put_len,put_len]⟩
  exact⟨rfl,by rw[put_len,put_len]⟩
theorem hang_spec (m:Mk) (l:List Known) (table p slot:Nat):(m.hang l table p slot).2.b.length=m.b.length∧(m.hang l table p slot).2.c.dataSlots=m.c.dataSlots∧(m.hang l table p slot).2.c.fieldSlots=m.c.fieldSlots∧(m.hang l table p slot).2.datas.length=m.datas.length∧(m.hang l table p slot).2.fields.length=m.fields.length ∧
    (m.hang l table p slot).2.h.n.getD 2 0=m.h.n.getD 2 0∧(m.hang l table p slot).2.h.n.getD 4 0=m.h.n.getD 4 0:=by
  obtain⟨A,B⟩:=hang_eq m l table p slot
  refine⟨B,?_,?_,?_,?_,?_,?_⟩ <;> rw[A]
theorem hang_same (m:Mk) (l:List Known) (table p slot:Nat):(m.hang l table p slot).2.c=m.c∧(m.hang l table p slot).2.datas=m.datas∧(m.hang l table p slot).2.fields=m.fields∧(m.hang l table p slot).2.main=m.main∧(m.hang l table p slot).2.depth=m.depth∧(m.hang l table p slot).2.h=m.h:=by
  have A:=(hang_eq m l table p slot).1
  refine⟨?_,?_,?_,?_,?_,?_⟩ <;> rw[A]
theorem hang_step {slot i n q:Nat} {l:List Known} {x:Known} (h:l[i]? = some x):hangL slot (l.drop i) n q=if x.slot=slot then hangL slot (l.drop (i+1)) (n+1) x.pos else hangL slot (l.drop (i+1)) n q:=by rw[drop_get h];rfl
theorem hang_end {slot i n q:Nat} {l:List Known} (h:¬i<l.length):hangL slot (l.drop i) n q=(n,q):=by rw[drop_end (by omega)];rfl
theorem findK_step {s:Ly} {i:Nat} {l:List Known} {x:Known} (h:l[i]? = some x):findK s (l.drop i)=if x.text=s then some x.pos else findK s (l.drop (i+1)):=by rw[drop_get h];rfl
theorem findK_end {s:Ly} {i:Nat} {l:List Known} (h:¬i<l.length):findK s (l.drop i)=none:=by rw[drop_end (by omega)];rfl
theorem findI_step {s:Ly} {i j:Nat} {l:List Known} {x:Known} (h:l[i]? = some x):findI s (l.drop i) j=if x.text=s then some j else findI s (l.drop (i+1)) (j+1):=by rw[drop_get h];rfl
theorem findI_end {s:Ly} {i j:Nat} {l:List Known} (h:¬i<l.length):findI s (l.drop i) j=none:=by rw[drop_end (by omega)];rfl
def Mk.fit (m:Mk):Prop:=1≤m.c.dataSlots∧m.c.dataSlots≤64∧1≤m.c.fieldSlots∧m.c.fieldSlots≤64∧m.h.n.getD 2 0+16*m.c.dataSlots≤m.b.length∧m.h.n.getD 4 0+16*m.c.fieldSlots≤m.b.length ∧
  (∀k∈m.datas,k.pos+64≤m.b.length)∧(∀k∈m.fields,k.pos+40≤m.b.length)
theorem fit_mono {m m':Mk} (h:m.fit) (h1:m'.c.dataSlots=m.c.dataSlots∧m'.c.fieldSlots=m.c.fieldSlots∧m'.h.n.getD 2 0=m.h.n.getD 2 0∧m'.h.n.getD 4 0=m.h.n.getD 4 0∧m.b.length≤m'.b.length)
    (hd:∀k∈m'.datas,k∈m.datas∨k.pos+64≤m'.b.length) (hf:∀k∈m'.fields,k∈m.fields∨k.pos+40≤m'.b.length):m'.fit:=by
  obtain⟨G,H,I,J,K,L,A,B⟩:=h
  obtain⟨C,D,E,F,M⟩:=h1
  refine⟨by omega,by omega,by omega,by omega,by rw[C,E];omega,by rw[D,F];omega,fun k hk=>?_,fun k hk=>?_⟩
  · rcases hd k hk with h|h
    · have:=A k h;omega
    exact h
  rcases hf k hk with h|h
  · have:=B k h;omega
  exact h
theorem findK_mem {s:Ly} {l:List Known} {p:Nat} (h:findK s l=some p):∃k∈l,k.pos=p∧k.text=s:=by
  induction l with
  | nil=>simp[findK]at h
  | cons x l ih =>
    simp only[findK]at h
    split at h
    · rename_i hx;exact⟨x,by simp,by simpa using h,hx⟩
    · obtain⟨k,hk,A⟩:=ih h;exact⟨k,by simp[hk],A⟩
theorem findI_lt {s:Ly} {l:List Known} {j i:Nat} (h:findI s l j=some i):j≤i∧i<j+l.length:=by
  induction l generalizing j with
  | nil=>simp[findI]at h
  | cons x l ih =>
    simp only[findI]at h
    split at h
    · simp at h;simp;omega
    · have:=ih h;simp;omega
theorem field_all (m:Mk) (name:Ly) (h:m.fit):((m.field name).1+40≤(m.field name).2.b.length∧m.b.length≤(m.field name).2.b.length∧(m.field name).2.b.length≤m.b.length+(48+name.length)∧(m.field name).2.datas.length=m.datas.length∧(m.field name).2.fields.length≤m.fields.length+1 ∧
    (m.field name).2.c.dataSlots=m.c.dataSlots∧(m.field name).2.c.fieldSlots=m.c.fieldSlots∧(m.field name).2.h.n.getD 2 0=m.h.n.getD 2 0∧(m.field name).2.h.n.getD 4 0=m.h.n.getD 4 0∧(m.field name).2.h.n.getD 8 0=m.h.n.getD 8 0) ∧
    ((m.field name).2.c=m.c∧(m.field name).2.datas=m.datas∧(m.field name).2.main=m.main)∧(m.field name).2.fit:=by
  unfold Mk.field
  cases hk:findK name m.fields with
  | some p =>
    obtain⟨k,D,U,_⟩:=findK_mem hk
    have:=h.2.2.2.2.2.2.2 k D
    exact⟨⟨by simp only;omega,Nat.le_refl _,by simp only;omega,q,by simp only;omega,q,q,q,q,q⟩,⟨q,q,q⟩,h⟩
  | none =>
    simp only
    have C:=object_spec m (putFieldF {hash:=hashN m.c.keyed m.c.file name,nextHash:=0,dat:=0,payload:=name})
    have I:=object_same m (putFieldF {hash:=hashN m.c.keyed m.c.file name,nextHash:=0,dat:=0,payload:=name})
    have J:(m.object (putFieldF {hash:=hashN m.c.keyed m.c.file name,nextHash:=0,dat:=0,payload:=name})).2.h.n.getD 8 0=m.h.n.getD 8 0:=by
      simp only[Mk.object,Mk.setN];rw[getD_set_ne' (by decide),getD_set_ne' (by decide)]
    rw[putFieldF_len]at C
    simp only at C
    generalize m.object (putFieldF {hash:=hashN m.c.keyed m.c.file name,nextHash:=0,dat:=0,payload:=name})=r at *
    obtain⟨p,A⟩:=r
    simp only at C I J ⊢
    have K:=hang_spec A A.fields (A.num 4) p (hashN m.c.keyed m.c.file name%A.c.fieldSlots)
    have L:=hang_same A A.fields (A.num 4) p (hashN m.c.keyed m.c.file name%A.c.fieldSlots)
    generalize A.hang A.fields (A.num 4) p (hashN m.c.keyed m.c.file name%A.c.fieldSlots)=r at *
    obtain⟨n,B⟩:=r
    simp only at K L ⊢
    obtain⟨V,W,X,Y,Z,a,d,e⟩:=C
    obtain⟨M,E,N,O⟩:=I
    obtain⟨f,g,i,j,l,o,t⟩:=K
    obtain⟨P,F,Q,R,u,S⟩:=L
    simp only[Mk.setN,List.length_append,List.length_singleton]
    have G:(B.h.n.set 16 ((B.num 16+1)%18446744073709551616)).getD 2 0=m.h.n.getD 2 0:=by rw[getD_set_ne' (by decide)];omega
    have H:(B.h.n.set 16 ((B.num 16+1)%18446744073709551616)).getD 4 0=m.h.n.getD 4 0:=by rw[getD_set_ne' (by decide)];omega
    have T:(B.h.n.set 16 ((B.num 16+1)%18446744073709551616)).getD 8 0=m.h.n.getD 8 0:=by rw[getD_set_ne' (by decide),S,J]
    refine⟨⟨by omega,by omega,by omega,by omega,by omega,by omega,by omega,G,H,T⟩,⟨by rw[P,M],by rw[F,E],by rw[R,O]⟩,?_⟩
    refine fit_mono h ⟨by simp only;omega,by simp only;omega,G,H,by simp only;omega⟩ (fun k hk=>?_) (fun k hk=>?_)
    · simp only[F,E]at hk;exact .inl hk
    · simp only[Q,N,List.mem_append,List.mem_singleton]at hk
      rcases hk with hk|rfl
      · exact .inl hk
      · right;simp only;omega
theorem field_spec (m:Mk) (name:Ly) (h:m.fit):(m.field name).1+40≤(m.field name).2.b.length∧m.b.length≤(m.field name).2.b.length∧(m.field name).2.b.length≤m.b.length+(48+name.length)∧(m.field name).2.datas.length=m.datas.length∧(m.field name).2.fields.length≤m.fields.length+1 ∧
    (m.field name).2.c.dataSlots=m.c.dataSlots∧(m.field name).2.c.fieldSlots=m.c.fieldSlots∧(m.field name).2.h.n.getD 2 0=m.h.n.getD 2 0∧(m.field name).2.h.n.getD 4 0=m.h.n.getD 4 0∧(m.field name).2.h.n.getD 8 0=m.h.n.getD 8 0:=(field_all m name h).1
theorem field_same (m:Mk) (name:Ly) (h:m.fit):(m.field name).2.c=m.c∧(m.field name).2.datas=m.datas∧(m.field name).2.main=m.main:=(field_all m name h).2.1
theorem field_fit (m:Mk) (name:Ly) (h:m.fit):(m.field name).2.fit:=(field_all m name h).2.2
section
variable {m y:Mk} {v1 v2 v3 v4:Value} {w:World} {b t i v j:Nat}
theorem mk_set (hn:m.h.n.length=20) (hi:i<20):(Mk.cells m v1 v2 v3 v4).set (119+i) (.int .u64 v)=Mk.cells {m with h:={m.h with n:=m.h.n.set i v}} v1 v2 v3 v4:=by
  have A:(Cfg.cells m.c).length=52:=rfl
  have B:(RHead.cells m.h).length=90:=rfl
  show(Cfg.cells m.c ++ (RHead.cells m.h ++ _)).set _ _=Cfg.cells m.c ++ (RHead.cells _ ++ _)
  rw[List.set_append_right _ _ (by omega),A,show 119+i-52=67+i by omega,List.set_append_left _ _ (by omega),rhead_set hn hi]
theorem mk_numA (B:Blk w b ((Mk.cells m v1 v2 v3 v4).set j (.int .u64 v)) t) (ok:Mk.ok m) (hv:v<18446744073709551616) (hj:j=119+i) (hi:i<20):∃y,y=({m with h:={m.h with n:=m.h.n.set i v}}:Mk)∧Blk w b (Mk.cells y v1 v2 v3 v4) t∧Mk.ok y:=by
  subst hj
  rw[mk_set ok.2.1.2.2.2.2.2.2.2.1.1 hi]at B
  obtain⟨A,⟨a,b,c,d,e,f,g,h,k⟩,C⟩:=ok
  exact⟨_,q,B,A,⟨a,b,c,d,e,f,g,nums_set h hv,k⟩,C⟩
theorem mk_num (B:Blk w b ((Mk.cells m v1 v2 v3 v4).set j (.int .u64 v)) t) (ok:Mk.ok m) (hv:v<18446744073709551616) (hj:j=119+i:=by rfl) (hi:i<20:=by decide) (h2:i≠2:=by decide) (h4:i≠4:=by decide):∃y,y=({m with h:={m.h with n:=m.h.n.set i v}}:Mk)∧Blk w b (Mk.cells y v1 v2 v3 v4) t∧Mk.ok y∧y.b.length=m.b.length∧y.datas.length=m.datas.length∧y.fields.length=m.fields.length∧y.c.dataSlots=m.c.dataSlots∧y.c.fieldSlots=m.c.fieldSlots∧y.h.n.getD 2 0=m.h.n.getD 2 0∧y.h.n.getD 4 0=m.h.n.getD 4 0:=by
  obtain⟨y,rfl,h,k⟩:=mk_numA B ok hv hj hi
  exact⟨_,q,h,k,q,q,q,q,q,getD_set_ne' (by omega),getD_set_ne' (by omega)⟩
theorem mk_num2 (B:Blk w b ((Mk.cells m v1 v2 v3 v4).set j (.int .u64 v)) t) (ok:Mk.ok m) (hv:v<18446744073709551616) (hj:j=119+i:=by rfl) (hi:i<20:=by decide) (h4:i≠4:=by decide):∃y,y=({m with h:={m.h with n:=m.h.n.set i v}}:Mk)∧Blk w b (Mk.cells y v1 v2 v3 v4) t∧Mk.ok y∧y.b.length=m.b.length∧y.datas.length=m.datas.length∧y.fields.length=m.fields.length∧y.c.dataSlots=m.c.dataSlots∧y.c.fieldSlots=m.c.fieldSlots∧y.h.n.getD 4 0=m.h.n.getD 4 0:=by
  obtain⟨y,rfl,h,k⟩:=mk_numA B ok hv hj hi
  exact⟨_,q,h,k,q,q,q,q,q,getD_set_ne' (by omega)⟩
theorem mk_num4 (B:Blk w b ((Mk.cells m v1 v2 v3 v4).set j (.int .u64 v)) t) (ok:Mk.ok m) (hv:v<18446744073709551616) (hj:j=119+i:=by rfl) (hi:i<20:=by decide) (h2:i≠2:=by decide):∃y,y=({m with h:={m.h with n:=m.h.n.set i v}}:Mk)∧Blk w b (Mk.cells y v1 v2 v3 v4) t∧Mk.ok y∧y.b.length=m.b.length∧y.datas.length=m.datas.length∧y.fields.length=m.fields.length∧y.c.dataSlots=m.c.dataSlots∧y.c.fieldSlots=m.c.fieldSlots∧y.h.n.getD 2 0=m.h.n.getD 2 0:=by
  obtain⟨y,rfl,h,k⟩:=mk_numA B ok hv hj hi
  exact⟨_,q,h,k,q,q,q,q,q,getD_set_ne' (by omega)⟩
theorem mk_b {x:Ly} (e:y={m with b:=x}):y.datas.length=m.datas.length∧y.fields.length=m.fields.length∧y.c.dataSlots=m.c.dataSlots∧y.c.fieldSlots=m.c.fieldSlots∧y.h.n.getD 2 0=m.h.n.getD 2 0∧y.h.n.getD 4 0=m.h.n.getD 4 0:=by subst e;exact⟨q,q,q,q,q,q⟩
theorem mk_datas {x:List Known} (e:y={m with datas:=x}):y.b.length=m.b.length∧y.fields.length=m.fields.length∧y.c.dataSlots=m.c.dataSlots∧y.c.fieldSlots=m.c.fieldSlots∧y.h.n.getD 2 0=m.h.n.getD 2 0∧y.h.n.getD 4 0=m.h.n.getD 4 0:=by subst e;exact⟨q,q,q,q,q,q⟩
theorem mk_fields {x:List Known} (e:y={m with fields:=x}):y.b.length=m.b.length∧y.datas.length=m.datas.length∧y.c.dataSlots=m.c.dataSlots∧y.c.fieldSlots=m.c.fieldSlots∧y.h.n.getD 2 0=m.h.n.getD 2 0∧y.h.n.getD 4 0=m.h.n.getD 4 0:=by subst e;exact⟨q,q,q,q,q,q⟩
theorem mk_main {x:List Nat} (e:y={m with main:=x}):y.b.length=m.b.length∧y.datas.length=m.datas.length∧y.fields.length=m.fields.length∧y.c.dataSlots=m.c.dataSlots∧y.c.fieldSlots=m.c.fieldSlots∧y.h.n.getD 2 0=m.h.n.getD 2 0∧y.h.n.getD 4 0=m.h.n.getD 4 0:=by subst e;exact⟨q,q,q,q,q,q,q⟩
theorem mk_depth {x:Nat} (e:y={m with depth:=x}):y.b.length=m.b.length∧y.datas.length=m.datas.length∧y.fields.length=m.fields.length∧y.c.dataSlots=m.c.dataSlots∧y.c.fieldSlots=m.c.fieldSlots∧y.h.n.getD 2 0=m.h.n.getD 2 0∧y.h.n.getD 4 0=m.h.n.getD 4 0:=by subst e;exact⟨q,q,q,q,q,q,q⟩
theorem mk_h {x:RHead} (e:y={m with h:=x}):y.b.length=m.b.length∧y.datas.length=m.datas.length∧y.fields.length=m.fields.length∧y.c.dataSlots=m.c.dataSlots∧y.c.fieldSlots=m.c.fieldSlots:=by subst e;exact⟨q,q,q,q,q⟩
end
section
variable {P:Program}
theorem c_meet {c:Code} {Q:Exit→Act→World→Prop} {a:Act} {w:World} (R:Act→World→Prop) (h:c.wp P (fun e a w'=>e = .normal∧R a w') a w) (k:∀a w',R a w'→Q .normal a w'):c.wp P Q a w:=by
  refine wp_mono h ?_
  rintro e a w' ⟨rfl,A⟩
  exact k a w' A
end
end Go.Wk
namespace Go.Wk
open Go Go.RowKit
theorem roomF_le (k:Int):roomF k≤256:=by unfold roomF;split;omega;split<;>omega
def roomsL:List Nat→Nat→Nat→Nat→Nat × Nat
  | [],_,a,r=>(a,r)
  | _ :: l,k,_,r=>roomsL l (k+1) r (r+roomF (k:Int))
def lastN (l:List Nat):Nat:=l.getD (l.length-1) 0
def Mk.link (m:Mk) (arrays:List Nat) (n src item:Nat):List Nat × Nat × Mk :=
  match roomsL arrays 0 0 0 with
  | (ahead,room) =>
    if n=room then
      match m.object (putArrayF {next:=0,items:=List.replicate (roomF (arrays.length:Int)) 0})with
      | (p,m1) =>
        let m29:=m1.setN 18 ((m1.num 18+1)%18446744073709551616)
        (arrays ++ [p],n-room+1,(if arrays.length=0 then m29.put src p else m29.put (lastN arrays+16) p).put (lastN (arrays ++ [p])+24+8*(n-room)) item)
    else(arrays,n-ahead+1,m.put (lastN arrays+24+8*(n-ahead)) item)
theorem rooms_step {l:List Nat} {i k a r:Nat} (h:i<l.length):roomsL (l.drop i) k a r=roomsL (l.drop (i+1)) (k+1) r (r+roomF (k:Int)):=by
  obtain⟨x,A⟩:=getE h
  rw[drop_get A];rfl
theorem rooms_end {l:List Nat} {i k a r:Nat} (h:¬i<l.length):roomsL (l.drop i) k a r=(a,r):=by rw[drop_end (by omega)];rfl
theorem roomF_ge {k:Int} (h:0≤k):4≤roomF k:=by
  unfold roomF
  rw[if_neg (by omega)]
  split
  · omega
  have:1≤2 ^ k.toNat:=Nat.one_le_two_pow
  omega
theorem roomF_ge4 (k:Int):k<0∨4≤roomF k:=by by_cases h:0≤k;exact .inr (roomF_ge h);exact .inl (by omega)
theorem lastN_eq {l:List Nat} {x:Nat} (h:l[l.length-1]? = some x):lastN l=x:=by simp[lastN,List.getD,h]
theorem lastN_app {α} {l:List α} {p x:α} (h:(l ++ [p])[(l ++ [p]).length-1]? = some x):x=p:=by simpa using h.symm
theorem rooms_last (l:List Nat) (k a r:Nat) (h:l≠[]):(roomsL l k a r).2=(roomsL l k a r).1+roomF ((k+l.length-1:Nat):Int):=by
  induction l generalizing k a r with
  | nil=>exact absurd q h
  | cons x l ih =>
    by_cases hl:l=[]
    · subst hl;simp[roomsL]
    · simp only[roomsL,List.length_cons]
      rw[ih (k+1) r (r+roomF (k:Int)) hl,show k+1+l.length-1=k+(l.length+1)-1 by omega]
theorem rooms_nil' {l:List Nat} {n:Nat} (h2:(roomsL l 0 0 0).1≤n) (h3:n≤(roomsL l 0 0 0).2) (h:n≠(roomsL l 0 0 0).2):1≤l.length∧n<(roomsL l 0 0 0).1+roomF ((l.length-1:Nat):Int):=by
  cases l with
  | nil=>simp[roomsL]at h3 h;omega
  | cons x l =>
    have:=rooms_last (x :: l) 0 0 0 (by simp)
    simp only[Nat.zero_add]at this
    refine⟨by simp,?_⟩
    omega
def chainFit (len:Nat) (arrays:List Nat) (n:Nat):Prop :=
  (∀(k a:Nat),arrays[k]? = some a→a+24+8*roomF (k:Int)≤len)∧(roomsL arrays 0 0 0).1≤n∧n≤(roomsL arrays 0 0 0).2
def newMk (c:Cfg) (tail:Nat):Mk :=
  let b1:=List.replicate 272 0 ++ putTableF 4 (List.replicate c.dataSlots {first:=0,tail:=0})
  let b2:=b1 ++ putTableF 5 (List.replicate c.fieldSlots {first:=0,tail:=0})
  {c:=c,depth:=0,b:=b2,datas:=[],fields:=[],main:=[],
    h:={compat:=2,incompat:=if c.keyed then 4 else 0,state:=1,file:=c.file,machine:=c.machine,boot:=List.replicate 16 0,seq:=c.seq,tailArray:=0,tailItems:=0,tailEntry:=0,
           n:=(((((((((List.replicate 20 0).set 0 272).set 2 288).set 3 (16*c.dataSlots)).set 4 (b1.length+16)).set 5 (16*c.fieldSlots)).set 6 b1.length).set 7 2).set 9 tail)}}
theorem take_all {α} {l:List α} {i:Nat} (h:¬i<l.length):l.take i=l:=List.take_of_length_le (by omega)
theorem apart_nb {v:Value} {b:Nat} (h:∀x,vblock v=some x→x≠b):b∉(vblock v).toList:=by
  cases hv:vblock v with
  | none=>simp
  | some c=>simp;exact fun e=>h c hv e.symm
theorem apart_nb2 {v:Value} {b:Nat} (h:∀x,vblock v=some x→x≠b):∀x,vblock v=some x→x∉[b]:=fun x hx hh=>h x hx (by simpa using hh)
def imageM (m:Mk) (st:Nat):List UInt8:=headF {m.h with state:=st,n:=m.h.n.set 1 (m.b.length-272)} m.depth ++ m.b.drop 272
theorem headF_len (h:RHead) (depth:Nat) (ok:RHead.ok h):(headF h depth).length=272:=by
  obtain⟨_,_,_,A,B,C,D,E,_⟩:=ok
  simp[headF,low_len,nums_len,A,B,C,D,E.1]
end Go.Wk
namespace Go.Wk
open Go Go.RowKit
def Pr.pb (p:Pr):PairB:=(p.name,p.value)
section
variable {P:Program} {n:Nat} {A:Fr n} {D:List Deferred} {l:List (Nat × Value)} {w:World} {d:Option Tmp} {ty:TypeId} {ps:String} {af:Array Edge} {g:Option (Nat × Bool)}
theorem r_eqlPr {x y:Operand} {t f u:TypeId} {p q:Pr} (hp:pairT P t f=true) (hf:P.underlying f=some .string) (hx:ev n l x=some (.agg (Pr.cells p).toArray)) (hy:ev n l y=some (.agg (Pr.cells q).toArray)) :
    RunV P ⟨d,.binOp .eql t x y u,ty,ps,af,g⟩ (over A D l).eval w (.bool (decide (p.pb=q.pb))):=r_eqlP (p:=p.pb) (q:=q.pb) hp hf hx hy
end
def joinF (p:Pr):List UInt8 × Nat:=if isName p.name=false then([],1)else if 256<p.value.length then([],21)else(payload p,0)
theorem joinF_bd {p:Pr} (h:(joinF p).2=0):p.name.length≤1000000∧p.value.length≤1000000:=by
  unfold joinF at h
  split at h
  · cases h
  rename_i h1
  split at h
  · cases h
  have:=(name_len (s:=p.name) (by simpa using h1)).2;omega
theorem joinF_right {p:Pr}:(joinF p).2=0↔right p.pb=true:=by
  unfold joinF right Pr.pb
  by_cases h1:isName p.name=false
  · simp[h1]
  rw[if_neg h1]
  have A:isName p.name=true:=by simpa using h1
  rw[A]
  by_cases h3:256<p.value.length
  · simp[h3]
  simp[h3];omega
def rankF (t:Ly):List Pr→Nat→Nat
  | [],k=>k
  | q :: r,k=>if Op.bytesLess (payload q) t=true then rankF t r (k+1)else k
theorem rank_step {t:Ly} {o:List Pr} {k:Nat} {q:Pr} (h:o[k]? = some q):rankF t (o.drop k) k=if Op.bytesLess (payload q) t=true then rankF t (o.drop (k+1)) (k+1)else k:=by
  rw[drop_get h];rfl
theorem rank_end {t:Ly} {o:List Pr} {k:Nat} (h:¬k<o.length):rankF t (o.drop k) k=k:=by rw[drop_end (by omega)];rfl
theorem pr_getD {l:List Pr} {i:Nat} {x:Pr} (h:l[i]? = some x):l.getD i {name:=[],value:=[]}=x:=by simp[List.getD,h]
def shiftF:Nat→Nat→List Pr→List Pr
  | 0,_,o=>o
  | n+1,j,o=>shiftF n (j-1) (o.set j (o.getD (j-1) {name:=[],value:=[]}))
theorem shift_step {j k:Nat} {o:List Pr} (h:k<j):shiftF (j-k) j o=shiftF (j-1-k) (j-1) (o.set j (o.getD (j-1) {name:=[],value:=[]})):=by
  rw[show j-k=(j-1-k)+1 by omega];rfl
theorem shift_end {j k:Nat} {o:List Pr} (h:¬k<j):shiftF (j-k) j o=o:=by rw[show j-k=0 by omega];rfl
def insF (p:Pr) (o:List Pr):List Pr :=
  let k:=rankF (payload p) o 0
  if k<o.length∧(o.getD k {name:=[],value:=[]}).pb=p.pb then o else(shiftF (o.length-k) o.length (o ++ [{name:=[],value:=[]}])).set k p
def goL:List Pr→List Pr→List Pr × Nat
  | [],o=>if 16<o.length then([],21)else(o,0)
  | p :: r,o=>if(joinF p).2≠0 then([],(joinF p).2)else goL r (insF p o)
def listF (l:List Pr):List Pr × Nat:=if l.length=0 then([],16)else goL l []
theorem goL_end {l o:List Pr} {i:Nat} (h:¬i<l.length):goL (l.drop i) o=if 16<o.length then([],21)else(o,0):=by rw[drop_end (by omega)];rfl
theorem goL_step {l o:List Pr} {i:Nat} {p:Pr} (h:l[i]? = some p):goL (l.drop i) o=if(joinF p).2≠0 then([],(joinF p).2)else goL (l.drop (i+1)) (insF p o):=by
  rw[drop_get h];rfl
end Go.Wk
namespace Go.Wk
open Go Go.RowKit
section
variable {P:Program} {n:Nat} {A:Fr n} {D:List Deferred} {l:List (Nat × Value)} {w:World} {d:Option Tmp} {ty:TypeId} {ps:String} {af:Array Edge} {g:Option (Nat × Bool)}
theorem r_remZ {x y:Operand} {t u:TypeId} {k:IntKind} {a b:Int} (hx:ev n l x=some (.int k a)) (hy:ev n l y=some (.int k b)) (h:b≠0) :
    RunV P ⟨d,.binOp .rem t x y u,ty,ps,af,g⟩ (over A D l).eval w (.int k (a.tmod b)):=r_rem hx hy h
end
def numF (k:Int) (n:Nat):Nat:=if n<1 then 0 else((k.tmod n+n).tmod n).toNat
theorem numF_lt (k:Int) (n:Nat):n<1∨numF k n<n:=by
  unfold numF
  by_cases h:n<1
  · exact .inl h
  rw[if_neg h]
  have A:=Int.tmod_lt_of_pos (k.tmod n+n) (show(0:Int)<n by omega)
  right;omega
theorem num_ge {k:Int} {n:Nat} (h:¬n<1):0≤k.tmod n+n∧k.tmod n+n<2*n:=by
  have A:=Int.tmod_lt_of_pos k (show(0:Int)<n by omega)
  have B:=Int.lt_tmod_of_pos k (show(0:Int)<n by omega)
  omega
def Sq.num (s:Sq) (n:Nat):Nat × Sq:=if s.l.length≤s.pos then(0,s)else(numF (s.l.getD s.pos 0) n,{s with pos:=s.pos+1})
def Sq.more (s:Sq):Bool × Sq:=(decide (s.pos<s.l.length),s)
def namesF:List (List UInt8):=[[65],[66],[77,69,83,83,65,71,69],[95,80,73,68],[88,95,49],[80,82,73,79,82,73,84,89]]
def valuesF:List (List UInt8):=[[],[48],[49],[50,50],[97,61,98],[111,110,101,10,116,119,111],[0,255],[116,97,98,9,104,101,114,101],[108,111,110,103,32,108,111,110,103,32,108,111,110,103,32,108,111,110,103,32,108,111,110,103,32,108,111,110,103,32,108,111,110,103],[126,127,128]]
theorem namesF_len:namesF.length=6:=rfl
theorem valuesF_len:valuesF.length=10:=rfl
def idF (k:Int):List UInt8:=((List.replicate 16 0).set 0 94).set 15 (UInt8.ofNat (numF k 5))
def Sq.pair (s:Sq):Pr × Sq :=
  match s.num 6 with
  | (a,s1) =>
    match s1.num 10 with
    | (b,s2)=>({name:=namesF.getD a [],value:=valuesF.getD b []},s2)
theorem Sq.num_le (s:Sq) (n:Nat):(s.num n).1≤n-1:=by
  unfold Sq.num
  split
  · simp
  simp only
  rcases numF_lt (s.l.getD s.pos 0) n with h|h
  · simp[numF,h]
  omega
def pairsL:Nat→Sq→List Pr→List Pr × Sq
  | 0,s,o=>(o,s)
  | n+1,s,o=>match s.pair with
    | (p,s1)=>pairsL n s1 (o ++ [p])
def Sq.pairs (s:Sq) (most:Nat):List Pr × Sq :=
  match s.num most with
  | (n,s1)=>pairsL (n+1) s1 []
theorem pairs_end {n:Nat} {s:Sq} {o:List Pr} (h:¬0<n):pairsL n s o=(o,s):=by rw[show n=0 by omega];rfl
theorem pairs_step {n:Nat} {s:Sq} {o:List Pr} (h:0<n):pairsL n s o=pairsL (n-1) s.pair.2 (o ++ [s.pair.1]):=by
  obtain⟨k,rfl⟩:∃k,n=k+1:=⟨n-1,by omega⟩
  rfl
theorem names_bd (a:Nat):(namesF.getD a []).length≤64:=by
  match a with
  | 0|1|2|3|4|5=>decide
  | n+6=>simp[namesF]
theorem values_bd (a:Nat):(valuesF.getD a []).length≤256:=by
  match a with
  | 0|1|2|3|4|5|6|7|8|9=>decide
  | n+10=>simp[valuesF]
theorem pair_bd (s:Sq):s.pair.1.name.length≤64∧s.pair.1.value.length≤256:=⟨names_bd _,values_bd _⟩
theorem pairsL_bd (n:Nat):∀(s:Sq) (o:List Pr),(∀q∈o,q.name.length≤64∧q.value.length≤256)→(∀q∈(pairsL n s o).1,q.name.length≤64∧q.value.length≤256)∧(pairsL n s o).1.length=o.length+n:=by
  induction n with
  | zero=>exact fun s o h=>⟨h,rfl⟩
  | succ n ih =>
    intro s o h
    have:=ih s.pair.2 (o ++ [s.pair.1]) (fun q A=>by
      rcases List.mem_append.1 A with A|A
      · exact h q A
      · rw[List.mem_singleton.1 A];exact pair_bd s)
    refine⟨this.1,?_⟩
    have B:=this.2
    rw[List.length_append,List.length_singleton]at B
    rw[show pairsL (n+1) s o=pairsL n s.pair.2 (o ++ [s.pair.1])from rfl,B];omega
theorem pairs_bd (s:Sq) (most:Nat):(∀q∈(s.pairs most).1,q.name.length≤1000000∧q.value.length≤1000000)∧(s.pairs most).1.length≤most+1:=by
  have h:=pairsL_bd ((s.num most).1+1) (s.num most).2 [] (by simp)
  have B:=s.num_le most
  have e:s.pairs most=pairsL ((s.num most).1+1) (s.num most).2 []:=rfl
  rw[e]
  refine⟨fun q A=>⟨by have:=(h.1 q A).1;omega,by have:=(h.1 q A).2;omega⟩,?_⟩
  rw[h.2];simp;omega
def Sq.config (s:Sq):Cfg × Sq :=
  match s.num 5 with
  | (a,s1)=>match s1.num 5 with
    | (b,s2)=>match s2.num 5 with
      | (c,s3)=>match s3.num 7 with
        | (d,s4)=>match s4.num 4 with
          | (e,s5)=>match s5.num 2 with
            | (f,s6)=>({file:=idF a,machine:=idF b,seq:=idF c,dataSlots:=d+1,fieldSlots:=e+1,most:=32768,keyed:=decide (f=1)},s6)
def Sq.record (s:Sq) (seq:Nat):Rec × Sq :=
  match s.pairs 4 with
  | (ps,s1)=>match s1.num 40 with
    | (a,s2)=>match s2.num 9 with
      | (b,s3)=>match s3.num 3 with
        | (c,s4)=>({seq:=seq,real:=a,mono:=b,boot:=idF c,fields:=(listF ps).1},s4)
end Go.Wk
namespace Go.Wk
open Go Go.Op
end Go.Wk
namespace Go.Wk
open Go Go.RowKit
section
variable {P:Program} {n:Nat} {A:Fr n} {D:List Deferred} {l:List (Nat × Value)} {w:World} {d:Option Tmp} {ty:TypeId} {ps:String} {af:Array Edge} {g:Option (Nat × Bool)}
end
end Go.Wk
namespace Go.Wk
open Go Go.RowKit
section
variable {P:Program} {ops:Array Oper} {Q:Exit→Act→World→Prop} {rest:List Oper}
variable {n:Nat} {A:Fr n} {D:List Deferred} {l:List (Nat × Value)} {w:World}
variable {d:Tmp} {op:Op} {ty:TypeId} {ps:String} {af:Array Edge} {g:Option (Nat × Bool)}
end
section
variable {P:Program} {n:Nat} {A:Fr n} {D:List Deferred} {l:List (Nat × Value)} {w:World} {d:Option Tmp} {ty:TypeId} {ps:String} {af:Array Edge} {g:Option (Nat × Bool)}
theorem r_eqlSN {x:Operand} {t u e:TypeId} {a:Option Addr} {m c:Nat} (hx:ev n l x=some (.slice a m c)) (hT:P.underlying t=some (.slice e)) :
    RunV P ⟨d,.binOp .eql t x (.const (.slice none 0 0)) u,ty,ps,af,g⟩ (over A D l).eval w (.bool a.isNone):=by
  have h:=Go.Lib.run_eql_slice_nil (P:=P) w t e a m c 0 0 hT
  have B:(over A D l).eval (.const (.slice none 0 0)) = .slice none 0 0:=rfl
  have C:(eqGuard .eql t x (.const (.slice none 0 0)) (.slice a m c) (.slice none 0 0)).run P w = .ok () w:=by unfold eqGuard;simp
  simp[RunV,execOp,ev_eval hx,B,C,h]
end
section
variable {w w':World} {b cap:Nat} {xs:List Pr}
end
end Go.Wk
namespace Go.Wk
open Go Go.RowKit
theorem shl_or {v:Nat} {x:UInt8} (h:v<72057594037927936):v*2 ^ 8%18446744073709551616 ||| x.toNat=x.toNat+256*v:=by
  have A:=UInt8.toNat_lt x
  rw[Nat.mod_eq_of_lt (by omega),Nat.mul_comm,← Nat.two_pow_add_eq_or_of_lt (by simpa using A)]
  omega
theorem getF_at {l:Ly} {a k:Nat} (hk:k=4∨k=8) (h:a+k≤l.length):getF l a k=(leN ((l.drop a).take k),true):=by
  unfold getF
  rw[if_pos ⟨by rw[sizeOk_iff];omega,by omega,by omega⟩];simp
def at4 (l:Ly) (a:Nat):Nat:=leN ((l.drop a).take 4)
def at8 (l:Ly) (a:Nat):Nat:=leN ((l.drop a).take 8)
theorem at4_lt (l:Ly) (a:Nat):at4 l a<4294967296:=leN_lt_of (k:=4) (by simp;omega)
theorem at8_lt (l:Ly) (a:Nat):at8 l a<18446744073709551616:=leN_lt_of (k:=8) (by simp;omega)
section
variable {P:Program} {ops:Array Oper} {Q:Exit→Act→World→Prop} {rest:List Oper}
variable {n:Nat} {A:Fr n} {D:List Deferred} {l:List (Nat × Value)} {w:World}
variable {d:Tmp} {op:Op} {ty:TypeId} {ps:String} {af:Array Edge} {g:Option (Nat × Bool)}
theorem st_callV {f:FuncId} {c:Operand} {xs:List Operand} {ts:Array TypeId} {vs cs:List Value} {R:Ending→World→Prop} (hc:ev n l c=some (.func (.func f) #[] cs.toArray)) (hf:isFn P f=true) (ha:evs n l xs=some vs) (hr:Calls P f (vs ++ cs).toArray w R)
    (k:∀e w',R e w'→∃v,e = .returned v∧wpList P ops Q rest (over A D ((d,v) :: l)) w') :
    wpList P ops Q (⟨some d,.call {callee:=.value c,args:=xs.toArray,argTypes:=ts},ty,ps,af,none⟩ :: rest) (over A D l) w:=by
  refine wl_plain q ?_
  unfold Oper.wp
  have E:=evs_eval (A:=A) (D:=D) ha
  have B:(execOp (over A D l).eval ⟨some d,.call {callee:=.value c,args:=xs.toArray,argTypes:=ts},ty,ps,af,none⟩).run P w = .ok (.enter f (vs ++ cs).toArray) w:=by
    simp only[execOp,resolve,ev_eval hc,Deferred.ofValue,List.map_toArray,E]
    simp[invoke,run_callFunc hf]
  rw[B]
  refine hr.mono fun e w' C=>?_
  obtain⟨v,rfl,hk⟩:=k e w' C
  exact hk
theorem r_makeFunc {f:FuncId} {x:Operand} {v:Value} {d':Option Tmp} (hx:ev n l x=some v) :
    RunV P ⟨d',.makeFunc (.func f) #[] #[x],ty,ps,af,g⟩ (over A D l).eval w (.func (.func f) #[] #[v]):=by
  simp[RunV,execOp,ev_eval hx,Instr.makeFunc]
end
def z16:List UInt8:=List.replicate 16 0
def headUp (b:Ly) (c i k j:Nat):PHead :=
  {compat:=c,incompat:=i,state:=(b.getD 16 0).toNat,file:=if 0<k then(b.drop 24).take 16 else z16,machine:=if 1<k then(b.drop 40).take 16 else z16,boot:=if 2<k then(b.drop 56).take 16 else z16,seq:=if 3<k then(b.drop 72).take 16 else z16,
    n:=(List.range 21).map fun q=>if q<j then at8 b (88+8*q)else 0,tailArray:=0,tailItems:=0,tailEntry:=0}
def parseF (b:Ly):PHead:={headUp b (at4 b 8) (at4 b 12) 4 21 with tailArray:=at4 b 256,tailItems:=at4 b 260,tailEntry:=at8 b 264}
theorem take16 {b:Ly} {o:Nat} (h:o+16≤b.length):((b.drop o).take 16).length=16:=by simp;omega
theorem idc_splice {x:Ly} (h:x.length=16) (a c:List Value) (z:Ly):splice (a ++ (idc z ++ c)) a.length (x.map b8)=a ++ (idc x ++ c):=by
  unfold splice
  have B:(idc z).length=16:=rfl
  have A:(x.map b8).length=16:=by simp[h]
  rw[List.take_left,A,← List.append_assoc a,List.drop_left' (by simp[B]),← idc_map h,List.append_assoc]
theorem ids_step {b:Ly} {c i k:Nat} (hk:k<4) (hl:272≤b.length):splice (PHead.cells (headUp b c i k 0)) (3+k*16) (((b.drop (24+16*k)).take 16).map b8)=PHead.cells (headUp b c i (k+1) 0):=by
  have A:((b.drop (24+16*k)).take 16).length=16:=take16 (by omega)
  rcases(show k=0∨k=1∨k=2∨k=3 by omega)with rfl|rfl|rfl|rfl
  · exact idc_splice A [.int .u32 c,.int .u32 i,.int .i64 (((b.getD 16 0).toNat:Nat):Int)] _ z16
  · exact idc_splice A ([.int .u32 c,.int .u32 i,.int .i64 (((b.getD 16 0).toNat:Nat):Int)] ++ idc ((b.drop 24).take 16)) _ z16
  · exact idc_splice A ([.int .u32 c,.int .u32 i,.int .i64 (((b.getD 16 0).toNat:Nat):Int)] ++ idc ((b.drop 24).take 16) ++ idc ((b.drop 40).take 16)) _ z16
  exact idc_splice A ([.int .u32 c,.int .u32 i,.int .i64 (((b.getD 16 0).toNat:Nat):Int)] ++ idc ((b.drop 24).take 16) ++ idc ((b.drop 40).take 16) ++ idc ((b.drop 56).take 16)) _ z16
theorem head_set {h:PHead} {j v:Nat} (hn:h.n.length=21) (hj:j<21):(PHead.cells h).set (67+j) (.int .u64 v)=PHead.cells {h with n:=h.n.set j v}:=by
  have e:∀(m:List Nat) (t:PHead),t.n=m→PHead.cells t=([(.int .u32 t.compat)] ++ ([(.int .u32 t.incompat)] ++ ([(.int .i64 t.state)] ++ ((idc t.file) ++ ((idc t.machine) ++ ((idc t.boot) ++ (idc t.seq))))))) ++ (nums21 m ++ ([(.int .u32 t.tailArray)] ++ ([(.int .u32 t.tailItems)] ++ [(.int .u64 t.tailEntry)]))):=by
    intro m t C;subst C;simp only[PHead.cells,List.append_assoc]
  rw[e h.n h q,e (h.n.set j v) {h with n:=h.n.set j v} q,nums21_set hn hj]
  have B:([(.int .u32 h.compat)] ++ ([(.int .u32 h.incompat)] ++ ([(.int .i64 h.state)] ++ ((idc h.file) ++ ((idc h.machine) ++ ((idc h.boot) ++ (idc h.seq)))))):List Value).length=67:=rfl
  have A:(nums21 h.n).length=21:=rfl
  rw[List.set_append_right _ _ (by omega),B,Nat.add_sub_cancel_left,List.set_append_left _ _ (by omega)]
theorem n_step {b:Ly} {j:Nat} (hj:j<21):((List.range 21).map fun q=>if q<j then at8 b (88+8*q)else 0).set j (at8 b (88+8*j))=(List.range 21).map fun q=>if q<j+1 then at8 b (88+8*q)else 0:=by
  apply List.ext_getElem
  · simp
  intro q A B
  simp at A
  by_cases h:q=j
  · subst h;simp
  rw[List.getElem_set_ne (Ne.symm h)]
  simp only[List.getElem_map,List.getElem_range]
  by_cases h3:q<j
  · rw[if_pos h3,if_pos (by omega)]
  rw[if_neg h3,if_neg (by omega)]
theorem long_step {b:Ly} {c i j:Nat} (hj:j<21):(PHead.cells (headUp b c i 4 j)).set (67+j) (.int .u64 ((at8 b (88+8*j):Nat):Int))=PHead.cells (headUp b c i 4 (j+1)):=by
  rw[head_set (by simp[headUp]) hj]
  unfold headUp
  simp only[n_step hj]
theorem parse_ok {b:Ly} (h:272≤b.length):PHead.ok (parseF b):=by
  refine⟨at4_lt _ _,at4_lt _ _,?_,take16 (by omega),take16 (by omega),take16 (by omega),take16 (by omega),⟨by simp[parseF,headUp],?_⟩,at4_lt _ _,at4_lt _ _,at8_lt _ _⟩
  · have:=UInt8.toNat_lt (b.getD 16 0);show(b.getD 16 0).toNat<_;omega
  intro y A
  simp only[parseF,headUp,List.mem_map,List.mem_range]at A
  obtain⟨q,B,rfl⟩:=A
  rw[if_pos B];exact at8_lt _ _
def ptrs (b o sz:Nat) (n:Nat):List Value:=(List.range n).map fun k=>.pointer (some ⟨b,o+k*sz,none⟩)
theorem ptrs_get {b o sz n k:Nat} (h:k<n):(ptrs b o sz n)[k]? = some (.pointer (some ⟨b,o+k*sz,none⟩)):=by
  simp[ptrs,h]
end Go.Wk
namespace Go.Wk
open Go Go.RowKit
def andNot (a b:Nat):Nat:=(BitVec.ofNat 32 a &&& ~~~(BitVec.ofNat 32 b)).toNat
section
variable {P:Program} {n:Nat} {A:Fr n} {D:List Deferred} {l:List (Nat × Value)} {w:World} {d:Option Tmp} {ty:TypeId} {ps:String} {af:Array Edge} {g:Option (Nat × Bool)}
theorem r_andNotN {x y:Operand} {t u:TypeId} {a b:Nat} (L:Nat) (hL:lim .u32=L) (hk:IntKind.u32.signed=false) (hx:ev n l x=some (.int .u32 (a:Int))) (hy:ev n l y=some (.int .u32 (b:Int))) (h:a<L∧b<L) :
    RunV P ⟨d,.binOp .andNot t x y u,ty,ps,af,g⟩ (over A D l).eval w (.int .u32 ((andNot a b:Nat):Int)):=(r_andNot hx hy).castI (by
  unfold bits andNot
  simp only[BitVec.ofInt_natCast]
  exact wrapN .u32 _ (show(BitVec.ofNat 32 a &&& ~~~(BitVec.ofNat 32 b)).toNat<4294967296 from(BitVec.ofNat 32 a &&& ~~~(BitVec.ofNat 32 b)).isLt))
end
def hz0:PHead:={compat:=0,incompat:=0,state:=0,file:=idZ,machine:=idZ,boot:=idZ,seq:=idZ,n:=List.replicate 21 0,tailArray:=0,tailItems:=0,tailEntry:=0}
def signF:List UInt8:=[76,80,75,83,72,72,82,72]
def prefF (b p:Ly):Bool:=if p.length≤b.length then decide (b.take p.length=p)else false
def endF (h:PHead):Nat × Bool:=if(h.n.getD 0 0+h.n.getD 1 0)%18446744073709551616<h.n.getD 0 0 then(0,false)else((h.n.getD 0 0+h.n.getD 1 0)%18446744073709551616,true)
def tableF (h:PHead) (at_ size end_:Nat):Nat :=
  if at_%8≠0 then 3
  else if size=0∨size%16≠0 then 5
  else if at_<h.n.getD 0 0∨at_-h.n.getD 0 0<16∨end_<at_∨end_-at_<size then 2 else 0
def amissF (h:PHead) (len:Nat):Nat :=
  if andNot h.incompat 4≠0 then 7
  else if 2<h.state then 8
  else if h.n.getD 0 0<272∨h.n.getD 0 0%8≠0∨h.n.getD 1 0%8≠0 then 5
  else if(endF h).2=false∨len<(endF h).1 then 2
  else if tableF h (h.n.getD 2 0) (h.n.getD 3 0) (endF h).1≠0 then tableF h (h.n.getD 2 0) (h.n.getD 3 0) (endF h).1
  else tableF h (h.n.getD 4 0) (h.n.getD 5 0) (endF h).1
def readF (b:Ly):PHead × Nat :=
  if b.length<272 then(hz0,22)
  else if prefF b signF=false then(hz0,6)
  else if amissF (parseF b) b.length≠0 then(hz0,amissF (parseF b) b.length)else(parseF b,0)
theorem amiss_at {h:PHead} {len r:Nat} {s:Bool} (he:endF h=(r,s)):amissF h len=(if andNot h.incompat 4≠0 then 7 else if 2<h.state then 8 else if h.n.getD 0 0<272∨h.n.getD 0 0%8≠0∨h.n.getD 1 0%8≠0 then 5
    else if s=false∨len<r then 2 else if tableF h (h.n.getD 2 0) (h.n.getD 3 0) r≠0 then tableF h (h.n.getD 2 0) (h.n.getD 3 0) r else tableF h (h.n.getD 4 0) (h.n.getD 5 0) r):=by
  unfold amissF;rw[he]
theorem readF_no {b:Ly} {h:PHead} {p:Bool} {c:Nat} (h1:¬b.length<272) (h2:prefF b [76,80,75,83,72,72,82,72]=p) (h3:¬p=false) (h4:parseF b=h) (h5:amissF h b.length=c) (h6:c≠0):readF b=(hz0,c):=by
  subst h4;subst h5
  unfold readF;rw[if_neg h1,if_neg (by rw[show signF=[76,80,75,83,72,72,82,72]from rfl,h2];exact h3),if_pos h6]
theorem readF_ok {b:Ly} {h:PHead} {p:Bool} (h1:¬b.length<272) (h2:prefF b [76,80,75,83,72,72,82,72]=p) (h3:¬p=false) (h4:parseF b=h) (h5:amissF h b.length=0):readF b=(h,0):=by
  subst h4
  unfold readF;rw[if_neg h1,if_neg (by rw[show signF=[76,80,75,83,72,72,82,72]from rfl,h2];exact h3),if_neg (by omega)]
theorem readF_short {b:Ly} (h:b.length<272):readF b=(hz0,22):=by unfold readF;rw[if_pos h]
theorem readF_sign {b:Ly} (h1:¬b.length<272) (h2:prefF b [76,80,75,83,72,72,82,72]=false):readF b=(hz0,6):=by unfold readF;rw[if_neg h1,if_pos (show prefF b signF=false from h2)]
def Po {α:Type} (T:Dt α) (ty:TypeId) (w:World) (Q:Nat→Prop) (v:Value):Option α→Prop
  | none=>v = .pointer none
  | some x=>Pt T ty w Q v x
section
variable {α:Type} {T:Dt α} {ty:TypeId} {w w':World} {Q Q':Nat→Prop} {v:Value} {ox:Option α}
theorem Po.md {S:List Nat} (h:Po T ty w Q v ox) (m:Md S w w') (hs:∀b∈S,¬Q b):Po T ty w' Q v ox:=by
  cases ox with
  | none=>exact h
  | some x=>exact Pt.md h m hs
theorem Po.o (h:Po T ty w Q v ox) (m:Md [] w w'):Po T ty w' Q v ox:=h.md m (by simp)
instance tpPo:Tp w w' (Po T ty w Q v ox) (Po T ty w' Q v ox):=⟨fun m h=>h.o m⟩
variable {P:Program} {n:Nat} {A:Fr n} {D:List Deferred} {l:List (Nat × Value)} {d:Option Tmp} {ty2:TypeId} {ps:String} {af:Array Edge} {g:Option (Nat × Bool)}
theorem Po.ptr (h:Po T ty w Q v ox):∃p,v = .pointer p∧p.isNone=ox.isNone:=by
  cases ox with
  | none=>exact⟨none,h,q⟩
  | some x=>obtain⟨b,c,rfl,_⟩:=h;exact⟨_,q,q⟩
theorem r_eqlPO {x:Operand} {t u e:TypeId} (h:Po T ty w Q v ox) (hx:ev n l x=some v) (hT:P.underlying t=some (.pointer e)) :
    RunV P ⟨d,.binOp .eql t x (.const (.pointer none)) u,ty2,ps,af,g⟩ (over A D l).eval w (.bool ox.isNone):=by
  obtain⟨p,rfl,B⟩:=h.ptr
  have F:P.underlying t=some (.pointer (P.pointee t)):=by rw[hT];simp[Program.pointee,hT]
  have h:=run_eql_pointer_nil (P:=P) w t p F
  have C:(over A D l).eval (.const (.pointer none)) = .pointer none:=rfl
  have E:(eqGuard .eql t x (.const (.pointer none)) (.pointer p) (.pointer none)).run P w = .ok () w:=by unfold eqGuard;simp
  simp[RunV,execOp,ev_eval hx,C,E,h,← B]
end
def openF (b:Ly):Option PView × Nat:=if(readF b).2≠0 then(none,(readF b).2)else(some {b:=b.take (endF (readF b).1).1,h:=(readF b).1},0)
theorem read_fine {b:Ly} {h:PHead} (hr:readF b=(h,0)):272≤b.length∧parseF b=h∧amissF h b.length=0:=by
  unfold readF at hr
  split at hr
  · have:=congrArg Prod.snd hr;simp at this
  rename_i h1
  split at hr
  · have:=congrArg Prod.snd hr;simp at this
  split at hr
  · rename_i h2;have:=congrArg Prod.snd hr;exact absurd this h2
  rename_i h2
  have e:=congrArg Prod.fst hr
  simp only at e
  subst e
  exact⟨by omega,q,by omega⟩
theorem read_end {b:Ly} {h:PHead} {e:Nat} {s:Bool} (hr:readF b=(h,0)) (he:endF h=(e,s)):e≤b.length∧s=true:=by
  obtain⟨_,_,A⟩:=read_fine hr
  rw[amiss_at he]at A
  split at A
  · omega
  split at A
  · omega
  split at A
  · omega
  split at A
  · omega
  rename_i h4;rw[not_or]at h4
  exact⟨by omega,by simpa using h4.1⟩
theorem open_some {b:Ly} {x:Option PView} (h:openF b=(x,0)):∃y,x=some y∧PHead.ok y.h∧y.b.length≤b.length:=by
  unfold openF at h
  split at h
  · rename_i h1;exact absurd (congrArg Prod.snd h) h1
  rename_i h1
  have C:readF b=((readF b).1,0):=by rw[← Classical.not_not.1 h1]
  obtain⟨A,B,_⟩:=read_fine C
  exact⟨_,(congrArg Prod.fst h).symm,by rw[← B];exact parse_ok A,by simp;omega⟩
end Go.Wk
namespace Go.Wk
open Go Go.RowKit
section
variable {P:Program} {n:Nat} {A:Fr n} {D:List Deferred} {l:List (Nat × Value)} {w:World} {ops:Array Oper} {rest:List Oper} {Q:Exit→Act→World→Prop}
variable {d:Tmp} {op:Op} {ty:TypeId} {ps:String} {af:Array Edge}
theorem mv {x:Operand} {v:Value} (h:ev n l x=some v) (k:wpList P ops Q rest (over A D ((d,v) :: l)) w):wpList P ops Q (⟨some d,.move x,ty,ps,af,none⟩ :: rest) (over A D l) w:=st v (r_move h) k
theorem asg {x:Operand} {v:Value} (h:ev n l x=some v) (k:wpList P ops Q rest (over A D ((d,v) :: l)) w):wpList P ops Q (⟨some d,.assign x,ty,ps,af,none⟩ :: rest) (over A D l) w:=st v (r_assign h) k
theorem nt {K:Act→World→Prop} {a:Act} (h:K a w):wpList P ops (Exit.then K Q) [] a w:=st_nil (c_then h)
theorem mz {C:World→Prop} {QN:Act→World→Prop} {rest:List (Bool × Oper)} {v:Value} (hr:∀w',C w'→RunV P ⟨some d,op,ty,ps,af,none⟩ (over A D l).eval w' v) (k:wpMix P ops C QN rest (over A D ((d,v) :: l)) w):wpMix P ops C QN ((true,⟨some d,op,ty,ps,af,none⟩) :: rest) (over A D l) w:=Go.Wk.m v hr k
theorem sk {j t:Nat} {o:Oper} {b want:Bool} (hb:b = !want) (k:wpList P ops Q rest (over A D ((d,undef) :: l)) w) (ho:ops[j]? = some o:=by rfl) (ht:o.dst=some t:=by rfl) (hy:ev n l (.tmp t)=some (.bool b):=by rfl) :
    wpList P ops Q (⟨some d,op,ty,ps,af,some (j,want)⟩ :: rest) (over A D l) w:=st_skip ho ht hy hb k
theorem sg {j t:Nat} {o:Oper} {b want:Bool} {v:Value} (hb:b=want) (hr:RunV P ⟨some d,op,ty,ps,af,some (j,want)⟩ (over A D l).eval w v) (k:wpList P ops Q rest (over A D ((d,v) :: l)) w) (ho:ops[j]? = some o:=by rfl) (ht:o.dst=some t:=by rfl) (hy:ev n l (.tmp t)=some (.bool b):=by rfl) :
    wpList P ops Q (⟨some d,op,ty,ps,af,some (j,want)⟩ :: rest) (over A D l) w:=st_g v ho ht hy hb hr k
theorem sf {x:Operand} {s:TypeId} {f b o off:Nat} (hx:ev n l x=some (.pointer (some ⟨b,o,none⟩))) (hf:fieldOff P s f=some off) (k:wpList P ops Q rest (over A D ((d,.pointer (some ⟨b,o+off,none⟩)) :: l)) w):wpList P ops Q (⟨some d,.fieldAddr s x f,ty,ps,af,none⟩ :: rest) (over A D l) w:=st _ (r_field hx hf) k
theorem sl {x:Operand} {t ty':TypeId} {b j:Nat} {cs:List Value} {u:Value} (hx:ev n l x=some (.pointer (some ⟨b,j,none⟩))) (hT:isOne P t=true) (hB:Blk w b cs ty') (hj:cs[j]? = some u) (k:wpList P ops Q rest (over A D ((d,u) :: l)) w):wpList P ops Q (⟨some d,.load t x,ty,ps,af,none⟩ :: rest) (over A D l) w:=st _ (r_loadBlk hx hT hB hj) k
theorem sn {x:Operand} {p:Addr} (h:ev n l x=some (.pointer (some p))) (k:wpList P ops Q rest (over A D ((d,.pointer (some p)) :: l)) w):wpList P ops Q (⟨some d,.nilCheck x,ty,ps,af,none⟩ :: rest) (over A D l) w:=st _ (r_nil h) k
theorem se {x:Operand} {i:Nat} {vs:Array Value} {v:Value} (h:ev n l x=some (.tuple vs)) (hv:vs[i]? = some v) (k:wpList P ops Q rest (over A D ((d,v) :: l)) w):wpList P ops Q (⟨some d,.extract x i,ty,ps,af,none⟩ :: rest) (over A D l) w:=st _ (r_extract h hv) k
theorem sL {x:Operand} {v:Value} {m:Nat} {t e:TypeId} (hx:ev n l x=some v) (hT:P.underlying t=some (.slice e)) (hS:Shp v m) (k:wpList P ops Q rest (over A D ((d,.int .i64 m) :: l)) w):wpList P ops Q (⟨some d,.call {callee:=.builtin .len,args:=#[x],argTypes:=#[t]},ty,ps,af,none⟩ :: rest) (over A D l) w:=st _ (r_len hx hT hS) k
theorem mo {C:World→Prop} {QN:Act→World→Prop} {rest:List (Bool × Oper)} {x:Operand} {v:Value} (h:ev n l x=some v) (k:wpMix P ops C QN rest (over A D ((d,v) :: l)) w):wpMix P ops C QN ((true,⟨some d,.move x,ty,ps,af,none⟩) :: rest) (over A D l) w:=Go.Wk.m v (fun _ _=>r_move h) k
theorem ns {id:Nat} {lo:List Oper} {y:Code} {a:Act} (h:wpList P lo.toArray (Exit.then (fun a w=>y.wp P Q a w) Q) lo a w):(Code.seq (.region id lo.toArray false) y).wp P Q a w:=c_seq (c_region h)
theorem an {x:Operand} {v:Value} {K:Act→World→Prop} (h:ev n l x=some v) (k:K (over A D ((d,v)::l)) w):wpList P ops (Exit.then K Q) [⟨some d,.assign x,ty,ps,af,none⟩] (over A D l) w:=asg h (nt k)
theorem ar {x:Operand} {v:Value} {R:Exit→Act→World→Prop} (h:ev n l x=some v) (k:R .ret (over A D ((d,v)::l)) w):wpList P ops (Exit.then (fun a w=>Code.ret.wp P R a w) Q) [⟨some d,.assign x,ty,ps,af,none⟩] (over A D l) w:=asg h (nt (c_ret k))
theorem m2 {x y:Operand} {v u:Value} {e:Tmp} {ty' ps' af'} (h:ev n l x=some v) (h2:ev n ((d,v)::l) y=some u) (k:wpList P ops Q rest (over A D ((e,u)::(d,v)::l)) w):wpList P ops Q (⟨some d,.move x,ty,ps,af,none⟩::⟨some e,.move y,ty',ps',af',none⟩::rest) (over A D l) w:=mv h (mv h2 k)
theorem nm {id:Nat} {lo:List Oper} {y:Code} {x:Operand} {v:Value} (h:ev n l x=some v) (k:wpList P (⟨some d,.move x,ty,ps,af,none⟩::lo).toArray (Exit.then (fun a w=>y.wp P Q a w) Q) lo (over A D ((d,v)::l)) w):(Code.seq (.region id (⟨some d,.move x,ty,ps,af,none⟩::lo).toArray false) y).wp P Q (over A D l) w:=ns (mv h k)
theorem rv {v:Value} {p:Value→Prop} (h:p v):∃u,Ending.returned v=.returned u∧p u:=⟨v,q,h⟩
theorem rA {d:Option Tmp} {g:Option (Nat × Bool)} {x y:Operand} {t u:TypeId} {a b:Nat} (hx:ev n l x=some (.int .i64 (a:Int))) (hy:ev n l y=some (.int .i64 (b:Int))) (h:a+b<9223372036854775808):RunV P ⟨d,.binOp .add t x y u,ty,ps,af,g⟩ (over A D l).eval w (.int .i64 ((a+b:Nat):Int)):=r_addN 9223372036854775808 q hx hy h
theorem rS {d:Option Tmp} {g:Option (Nat × Bool)} {x y:Operand} {t u:TypeId} {a b:Nat} (hx:ev n l x=some (.int .i64 (a:Int))) (hy:ev n l y=some (.int .i64 (b:Int))) (h:b≤a∧a<9223372036854775808):RunV P ⟨d,.binOp .sub t x y u,ty,ps,af,g⟩ (over A D l).eval w (.int .i64 ((a-b:Nat):Int)):=r_subN 9223372036854775808 q hx hy h
abbrev SN:Value:=.slice none 0 0
theorem tT {Q R S:Nat→Prop} (a:∀b,Q b→R b) (c:∀b,S b→Q b):∀b,S b→R b:=fun b h=>a b (c b h)
theorem sS {S:List Nat} {u w:World} {Q R T:Nat→Prop} (a:∀b,R b→b<w.heap.size→T b) (c:∀b,Q b→b<u.heap.size→R b) (M:Md S u w):∀b,Q b→b<u.heap.size→T b:=fun b h hl=>a b (c b h hl) (Nat.lt_of_lt_of_le hl M.size)
theorem nQ {Q R:Nat→Prop} {b:Nat} (h:¬Q b) (c:∀b,R b→Q b):¬R b:=fun x=>h (c _ x)
theorem rF {α:Type} {T:Dt α} {e:TypeId} {lo:Nat→Prop} {w:World} {Q:Nat→Prop} {v:Value} {xs:List α} (h:Ow T e lo w Q v xs):∀i∈(vblock v).toList,lo i:=all_row fun x hx=>(h.2 x hx).1
theorem rN {α:Type} {T:Dt α} {e:TypeId} {lo:Nat→Prop} {w:World} {Q:Nat→Prop} {v:Value} {xs:List α} (h:Ow T e lo w Q v xs):∀i∈(vblock v).toList,¬Q i:=all_row fun x hx=>(h.2 x hx).2
theorem hI {p:Nat→Prop} {b:Nat} (h:p b):∀x∈[b],p x:=by intro x hx;simp at hx;subst hx;exact h
end
end Go.Wk
namespace Go.Wk
open Go Go.RowKit
structure Stop where
  code:Nat
def Stop.cells (x:Stop):List Value :=
  [(.int .i64 x.code)]
structure Frm where
  kind:Nat
  flags:Nat
  size:Nat
def Frm.cells (x:Frm):List Value :=
  [(.int .i64 x.kind)] ++ ([(.int .i64 x.flags)] ++ ([(.int .u64 x.size)]))
def Frm.ok (x:Frm):Prop:=x.kind<9223372036854775808∧x.flags<9223372036854775808∧x.size<18446744073709551616
theorem Frm.one {x:Frm}:(x.cells).all (fun u=>u.oneCell')=true:=(ones_app q (ones_app q q))
def fr0:Frm:={kind:=0,flags:=0,size:=0}
def byteAt (b:Ly) (p:Nat):Nat:=(b.getD p 0).toNat
theorem byteAt_of {b:Ly} {p:Nat} {x:UInt8} (h:b[p]? = some x):byteAt b p=x.toNat:=by simp[byteAt,List.getD,h]
theorem at8_of {b:Ly} {p v:Nat} {s:Bool} {i:Int} (h:getF b i 8=(v,s)) (hi:i=(p:Int)) (hb:p+8≤b.length):at8 b p=v:=by
  subst hi;have A:=getF_at (k:=8) (.inr q) hb;rw[show((8:Nat):Int)=8 from rfl]at A;rw[A]at h;exact congrArg Prod.fst h
theorem byteAt_lt (b:Ly) (p:Nat):byteAt b p<256:=UInt8.toNat_lt _
def frameF (b:Ly) (p:Nat):Frm × Nat :=
  if p%8≠0 then(fr0,3)
  else if b.length<p∨b.length-p<16 then(fr0,2)
  else if byteAt b p<1∨7<byteAt b p then(fr0,4)
  else if byteAt b (p+1)≠0 then(fr0,7)
  else if at8 b (p+8)<16 then(fr0,5)
  else if b.length-p<at8 b (p+8)then(fr0,2)
  else({kind:=byteAt b p,flags:=0,size:=at8 b (p+8)},0)
theorem frame_al {b:Ly} {p:Nat} (h:p%8≠0):frameF b p=(fr0,3):=by unfold frameF;rw[if_pos h]
theorem frame_sh {b:Ly} {p:Nat} (h:¬p%8≠0) (h2:b.length<p∨b.length-p<16):frameF b p=(fr0,2):=by unfold frameF;rw[if_neg h,if_pos h2]
theorem frame_of {b:Ly} {p:Nat} {x y:UInt8} {z:Nat} {s:Frm} (es:s={kind:=x.toNat,flags:=y.toNat,size:=z}) (h:¬p%8≠0) (h2:¬(b.length<p∨b.length-p<16)) (e1:byteAt b p=x.toNat) (e2:byteAt b (p+1)=y.toNat) (e3:at8 b (p+8)=z) :
    frameF b p=if s.kind<1∨7<s.kind then(fr0,4)else if s.flags≠0 then(fr0,7)else if s.size<16 then(fr0,5)else if b.length-p<s.size then(fr0,2)else(s,0):=by
  subst es;unfold frameF;rw[if_neg h,if_neg h2,e1,e2,e3];by_cases hf:y.toNat=0
  · rw[hf]
  simp only[if_pos (show y.toNat≠0 from hf)]
theorem frame_fine {b:Ly} {p:Nat} {f:Frm} (h:frameF b p=(f,0)):16≤f.size∧p+f.size≤b.length∧f.kind<256∧f.flags=0:=by
  unfold frameF at h;have:=byteAt_lt b p
  repeat' split at h
  all_goals first|(have:=congrArg Prod.snd h;simp at this;done)|skip
  have:=congrArg Prod.fst h;simp only at this;subst this;refine⟨?_,?_,?_,q⟩ <;> (simp only;omega)
def dat0:Dat:={hash:=0,nextHash:=0,nextField:=0,entry:=0,array:=0,count:=0,payload:=[]}
def numsAt (b:Ly) (p n:Nat):List Nat:=(List.range n).map fun i=>at8 b (p+8*i)
theorem numsAt_len (b:Ly) (p n:Nat):(numsAt b p n).length=n:=by simp[numsAt]
theorem numsAt_succ (b:Ly) (p n:Nat):numsAt b p (n+1)=numsAt b p n ++ [at8 b (p+8*n)]:=by simp[numsAt,List.range_succ]
def readDatF (b:Ly) (p:Nat):Dat × Nat :=
  if(frameF b p).2≠0 then(dat0,(frameF b p).2)
  else if(frameF b p).1.kind≠1 then(dat0,4)
  else if(frameF b p).1.size≤64 then(dat0,5)
  else({hash:=at8 b (p+16),nextHash:=at8 b (p+24),nextField:=at8 b (p+32),entry:=at8 b (p+40),array:=at8 b (p+48),count:=at8 b (p+56),payload:=(b.drop (p+64)).take ((frameF b p).1.size-64)},0)
def datAt (s:Nat) (b:Ly) (p:Nat):Dat × Nat:=if p<s∨b.length≤p then(dat0,2)else readDatF b p
def inAt (s:Nat) (b:Ly) (p:Nat):Nat:=if p<s∨b.length≤p then 2 else 0
theorem frame_fine0 {b:Ly} {p c:Nat} {f:Frm} (h:frameF b p=(f,c)) (hc:¬c≠0):16≤f.size∧p+f.size≤b.length∧f.kind<256∧f.flags=0:=frame_fine (by rw[h,Classical.not_not.1 hc])
def bodyF (b:Ly) (p kind ahead item:Nat):List UInt8 × Nat :=
  if(frameF b p).2≠0 then([],(frameF b p).2)
  else if(frameF b p).1.kind≠kind then([],4)
  else if(frameF b p).1.size≤16+ahead∨((frameF b p).1.size-(16+ahead))%item≠0 then([],5)
  else((b.take (p+(frameF b p).1.size)).drop (p+16),0)
theorem bodyF_ok {b x:Ly} {p kind ahead item c:Nat} (h:bodyF b p kind ahead item=(x,c)) (hc:c=0):(frameF b p).2=0∧(frameF b p).1.kind=kind∧16+ahead<(frameF b p).1.size∧((frameF b p).1.size-(16+ahead))%item=0∧x=(b.take (p+(frameF b p).1.size)).drop (p+16)∧x.length=(frameF b p).1.size-16∧p+(frameF b p).1.size≤b.length:=by
  subst hc;unfold bodyF at h
  split at h
  · have:=congrArg Prod.snd h;simp at this;contradiction
  rename_i h1
  have A:16≤(frameF b p).1.size∧p+(frameF b p).1.size≤b.length∧(frameF b p).1.kind<256∧(frameF b p).1.flags=0:=frame_fine0 (f:=(frameF b p).1) (c:=(frameF b p).2) q h1
  split at h
  · have:=congrArg Prod.snd h;simp at this
  rename_i h2
  split at h
  · have:=congrArg Prod.snd h;simp at this
  rename_i h3
  rw[not_or]at h3;have e:=congrArg Prod.fst h;simp only at e;subst e;refine⟨by omega,by omega,by omega,by omega,q,?_,A.2.1⟩;simp only[List.length_drop,List.length_take];omega
theorem at8_sub {b:Ly} {o e i:Nat} (h:i+8≤e-o) (he:e≤b.length):at8 ((b.take e).drop o) i=at8 b (o+i):=by
  unfold at8
  congr 1
  apply List.ext_getElem?;intro j;simp only[List.getElem?_take,List.getElem?_drop];by_cases hj:j<8
  · rw[if_pos hj,if_pos hj,if_pos (show o+(i+j)<e by omega),Nat.add_assoc]
  rw[if_neg hj,if_neg hj]
theorem nums_sub {b:Ly} {o e n i:Nat} (h:i+8*n≤e-o) (he:e≤b.length):numsAt ((b.take e).drop o) i n=numsAt b (o+i) n:=by
  unfold numsAt
  apply List.map_congr_left;intro k hk;have:=List.mem_range.1 hk;rw[at8_sub (by omega) he,Nat.add_assoc]
theorem numsAt_step {b:Ly} {l:List Nat} {i v:Nat} {s:Bool} (hl:l=numsAt b 0 (i/8)) (hi:i%8=0) (hb:i+8≤b.length) (h:getF b (i:Int) 8=(v,s)):l ++ [v]=numsAt b 0 ((i+8)/8):=by
  rw[show(i+8)/8=i/8+1 by omega,numsAt_succ,hl,← at8_of h q hb]
  congr 3
  omega
theorem dat_in {s p c:Nat} {b:Ly} (h:inAt s b p=c) (hc:c≠0):(datAt s b p).2=c:=by
  unfold inAt at h;unfold datAt
  split at h
  · rename_i h1;rw[if_pos h1];exact h
  exact absurd h.symm hc
theorem dat_at {s p c:Nat} {b:Ly} {x:Dat} (h0:inAt s b p=0) (h:readDatF b p=(x,c)):datAt s b p=(x,c):=by
  unfold inAt at h0;unfold datAt
  split at h0
  · cases h0
  rename_i h1;rw[if_neg h1];exact h
theorem readDat_z (b:Ly) (p:Nat) (h:(readDatF b p).2≠0):(readDatF b p).1=dat0:=by
  unfold readDatF at h ⊢
  split
  · rfl
  split
  · rfl
  split
  · rfl
  rename_i h1 h2 h3;rw[if_neg h1,if_neg h2,if_neg h3]at h;exact absurd q h
theorem dat_no {s p c:Nat} {b:Ly} (h:(datAt s b p).2=c) (hc:c≠0):datAt s b p=(dat0,c):=by
  refine Prod.ext ?_ h;rw[← h]at hc;unfold datAt at hc ⊢
  split
  · rfl
  rename_i h1;rw[if_neg h1]at hc;exact readDat_z b p hc
def readObjF (b:Ly) (p kind n:Nat):List Nat × List UInt8 × Nat :=
  if(frameF b p).2≠0 then([],[],(frameF b p).2)
  else if(frameF b p).1.kind≠kind then([],[],4)
  else if(frameF b p).1.size≤16+8*n then([],[],5)
  else(numsAt b (p+16) n,(b.drop (p+16+8*n)).take ((frameF b p).1.size-(16+8*n)),0)
theorem readObj_end {b:Ly} {p n c:Nat} {f:Frm} {l:List Nat} {kind:Nat} (h:frameF b p=(f,c)) (hc:¬c≠0) (h2:¬f.kind≠kind) (h3:¬f.size≤16+8*n) (hl:l=numsAt ((b.take (p+f.size)).drop (p+16)) 0 n):readObjF b p kind n=(l,((b.take (p+f.size)).drop (p+16)).drop (8*n),0):=by
  have A:=frame_fine0 h hc;unfold readObjF;rw[h];simp only;rw[if_neg hc,if_neg h2,if_neg h3,hl,nums_sub (by omega) A.2.1];refine Prod.ext q (Prod.ext ?_ q);simp only
  apply List.ext_getElem?;intro j;simp only[List.getElem?_take,List.getElem?_drop];by_cases hj:j<f.size-(16+8*n)
  · rw[if_pos hj,if_pos (by omega)];congr 1;omega
  rw[if_neg hj,if_neg (by omega)]
theorem numsAt_step1 {b:Ly} {l:List Nat} {i v:Nat} {s:Bool} (hl:l=numsAt b 0 i) (hb:8*i+8≤b.length) (h:getF b ((8*i:Nat):Int) 8=(v,s)):l ++ [v]=numsAt b 0 (i+1):=by
  rw[numsAt_succ,hl,← at8_of h q hb,Nat.zero_add]
theorem readDat_of {b x:Ly} {p c:Nat} {l:List Nat} (h:readObjF b p 1 6=(l,x,c)):(c≠0→readDatF b p=(dat0,c))∧(¬c≠0→l.length=6∧readDatF b p=({hash:=l.getD 0 0,nextHash:=l.getD 1 0,nextField:=l.getD 2 0,entry:=l.getD 3 0,array:=l.getD 4 0,count:=l.getD 5 0,payload:=x},0)):=by
  unfold readObjF at h;unfold readDatF
  split at h
  · rename_i h1
    simp only[Prod.mk.injEq]at h;refine⟨fun _=>by rw[if_pos h1,h.2.2],fun A=>absurd (h.2.2 ▸ h1) A⟩
  rename_i h1
  rw[if_neg h1]
  split at h
  · rename_i h2
    simp only[Prod.mk.injEq]at h;exact⟨fun _=>by rw[if_pos h2,h.2.2],fun A=>absurd (h.2.2 ▸ (by decide:(4:Nat)≠0)) A⟩
  rename_i h2
  rw[if_neg h2]
  split at h
  · rename_i h3
    simp only[Prod.mk.injEq]at h;exact⟨fun _=>by rw[if_pos (by omega),h.2.2],fun A=>absurd (h.2.2 ▸ (by decide:(5:Nat)≠0)) A⟩
  rename_i h3
  simp only[Prod.mk.injEq]at h;obtain⟨rfl,rfl,rfl⟩:=h;refine⟨fun A=>absurd q A,fun _=>⟨numsAt_len _ _ _,?_⟩⟩;rw[if_neg (by omega)];simp[numsAt,List.range_succ]
end Go.Wk
namespace Go.Wk
open Go Go.RowKit
theorem idc_set {x:Ly} {i:Nat} {c:UInt8} (h:x.length=16):(idc x).set i (b8 c)=idc (x.set i c):=by
  rw[idc_map h,idc_map (by simpa using h),List.map_set]
theorem take_set {x y:Ly} {k:Nat} {c:UInt8} (hx:x.length=16) (hk:k<16) (h:x.take k=y.take k) (hc:y[k]? = some c):(x.set k c).take (k+1)=y.take (k+1):=by
  rw[List.take_add_one,List.take_add_one,hc,← h]
  congr 1
  · apply List.ext_getElem?
    intro j
    simp only[List.getElem?_take]
    split
    · rw[List.getElem?_set_ne (by omega)]
    rfl
  simp[hx,hk]
def rhead (h:PHead):RHead:={compat:=h.compat,incompat:=h.incompat,state:=h.state,file:=h.file,machine:=h.machine,boot:=h.boot,seq:=h.seq,n:=h.n.take 20,tailArray:=h.tailArray,tailItems:=h.tailItems,tailEntry:=h.tailEntry}
def rview (v:PView):RView:={h:=rhead v.h,depth:=v.h.n.getD 20 0,b:=v.b}
theorem rhead_n {h:PHead} {i:Nat} (hi:i<20):(rhead h).n.getD i 0=h.n.getD i 0:=by
  simp only[rhead,List.getD_eq_getElem?_getD,List.getElem?_take,if_pos hi]
def rn (b:Ly) (j:Nat):List Nat:=(List.range 20).map fun q=>if q<j then at8 b (88+8*q)else 0
theorem rn_zero (b:Ly):rn b 0=List.replicate 20 0:=by
  unfold rn
  simp only[Nat.not_lt_zero,if_false]
  rfl
theorem rn_step {b:Ly} {j:Nat} (hj:j<20):(rn b j).set j (at8 b (88+8*j))=rn b (j+1):=by
  apply List.ext_getElem
  · simp[rn]
  intro q A B
  simp[rn]at A
  by_cases h:q=j
  · subst h;simp[rn]
  rw[List.getElem_set_ne (Ne.symm h)]
  simp only[rn,List.getElem_map,List.getElem_range]
  by_cases h3:q<j
  · rw[if_pos h3,if_pos (by omega)]
  rw[if_neg h3,if_neg (by omega)]
theorem rn_full (b:Ly):rn b 20=(parseF b).n.take 20:=by
  apply List.ext_getElem?
  intro i
  simp only[rn,parseF,headUp,List.getElem?_map,List.getElem?_take]
  by_cases h:i<20
  · rw[if_pos h,List.getElem?_range h,List.getElem?_range (show i<21 by omega)]
    simp[h,show i<21 by omega]
  rw[if_neg h,List.getElem?_eq_none (by simpa using h)];rfl
def rawH (b:Ly) (j:Nat):RHead :=
  {compat:=at4 b 8,incompat:=at4 b 12,state:=byteAt b 16,file:=(b.drop 24).take 16,machine:=(b.drop 40).take 16,boot:=(b.drop 56).take 16,seq:=(b.drop 72).take 16,n:=rn b j,tailArray:=0,tailItems:=0,tailEntry:=0}
def rawF (b:Ly):RHead:={rawH b 20 with tailArray:=at4 b 256,tailItems:=at4 b 260,tailEntry:=at8 b 264}
theorem rawF_eq (b:Ly):rawF b=rhead (parseF b):=by
  unfold rawF rawH rhead
  rw[rn_full]
  rfl
theorem raw_depth (b:Ly):(parseF b).n.getD 20 0=at8 b 248:=by
  simp[parseF,headUp,List.getD]
theorem at4_of {b:Ly} {p v:Nat} {s:Bool} {i:Int} (h:getF b i 4=(v,s)) (hi:i=(p:Int)) (hb:p+4≤b.length):at4 b p=v∧v<4294967296:=by
  subst hi
  have A:=getF_at (k:=4) (.inl q) hb
  rw[show((4:Nat):Int)=4 from rfl]at A
  rw[A]at h
  have e:at4 b p=v:=congrArg Prod.fst h
  exact⟨e,e ▸ at4_lt b p⟩
theorem rhead_ok_set {h:RHead} {j v:Nat} (ok:RHead.ok h) (hv:v<18446744073709551616):RHead.ok {h with n:=h.n.set j v} :=
  ⟨ok.1,ok.2.1,ok.2.2.1,ok.2.2.2.1,ok.2.2.2.2.1,ok.2.2.2.2.2.1,ok.2.2.2.2.2.2.1,nums_set ok.2.2.2.2.2.2.2.1 hv,ok.2.2.2.2.2.2.2.2⟩
theorem rawH_step {b:Ly} {j x:Nat} (hj:j<20) (hx:at8 b (88+8*j)=x):{rawH b j with n:=(rawH b j).n.set j x}=rawH b (j+1):=by
  subst hx
  unfold rawH
  simp only[rn_step hj]
def raw0 (b:Ly):RHead:={rawH b 0 with compat:=0,incompat:=0}
theorem raw0_of {b:Ly} {k:Nat} (h:byteAt b 16=k):raw0 b={compat:=0,incompat:=0,state:=k,file:=(b.drop 24).take 16,machine:=(b.drop 40).take 16,boot:=(b.drop 56).take 16,seq:=(b.drop 72).take 16,n:=List.replicate 20 0,tailArray:=0,tailItems:=0,tailEntry:=0}:=by
  subst h;unfold raw0 rawH;rw[rn_zero]
theorem take_len16 {b:Ly} {o:Nat} (h:o+16≤b.length):((b.drop o).take 16).length=16:=by simp;omega
theorem raw0_ok {b:Ly} (h:272≤b.length):RHead.ok (raw0 b):=by
  have:=byteAt_lt b 16
  refine⟨show(0:Nat)<_ by decide,show(0:Nat)<_ by decide,?_,take_len16 (by omega),take_len16 (by omega),take_len16 (by omega),take_len16 (by omega),?_,show(0:Nat)<_ by decide,show(0:Nat)<_ by decide,show(0:Nat)<_ by decide⟩
  · show byteAt b 16<_;omega
  show(rn b 0).length=20∧∀y∈rn b 0,y<18446744073709551616
  rw[rn_zero];exact nums_zero 20
theorem raw_up {b:Ly} {s1 s2:RHead} {x y:Nat} (e1:s1={raw0 b with compat:=x}) (e2:s2={s1 with incompat:=y}) (hx:at4 b 8=x) (hy:at4 b 12=y):s2=rawH b 0:=by
  subst hx;subst hy;subst e1;subst e2;rfl
theorem raw_end {b:Ly} {h s1 s2 s3:RHead} {i x y z:Nat} (h0:h=rawH b i) (hi:i=20) (e1:s1={h with tailArray:=x}) (e2:s2={s1 with tailItems:=y}) (e3:s3={s2 with tailEntry:=z}) (hx:at4 b 256=x) (hy:at4 b 260=y) (hz:at8 b 264=z):rawF b=s3:=by
  subst hx;subst hy;subst hz;subst hi;subst e3;subst e2;subst e1;subst h0;rfl
def rEndF (h:RHead):Nat × Bool:=if 18446744073709551615-h.n.getD 0 0<h.n.getD 1 0 then(0,false)else(h.n.getD 0 0+h.n.getD 1 0,true)
theorem rEnd_eq {h:PHead} (h0:h.n.getD 0 0<18446744073709551616) (h1:h.n.getD 1 0<18446744073709551616):rEndF (rhead h)=endF h:=by
  unfold rEndF endF
  rw[rhead_n (by omega),rhead_n (by omega)]
  by_cases hc:18446744073709551615-h.n.getD 0 0<h.n.getD 1 0
  · rw[if_pos hc,if_pos (by omega)]
  rw[if_neg hc,if_neg (by omega),Nat.mod_eq_of_lt (by omega)]
def rTabF (p size o e:Nat):Nat:=if p%8≠0 then 3 else if size=0∨size%16≠0 then 5 else if p<o∨p-o<16∨e<p∨e-p<size then 2 else 0
theorem rTab_eq (h:PHead) (p size e:Nat):rTabF p size (h.n.getD 0 0) e=tableF h p size e:=rfl
def rAmF (h:RHead) (len:Nat):Nat :=
  if andNot h.incompat 4≠0 then 7
  else if 2<h.state then 8
  else if h.n.getD 0 0<272∨h.n.getD 0 0%8≠0∨h.n.getD 1 0%8≠0 then 5
  else if(rEndF h).2=false∨len<(rEndF h).1 then 2
  else if rTabF (h.n.getD 2 0) (h.n.getD 3 0) (h.n.getD 0 0) (rEndF h).1≠0 then rTabF (h.n.getD 2 0) (h.n.getD 3 0) (h.n.getD 0 0) (rEndF h).1
  else rTabF (h.n.getD 4 0) (h.n.getD 5 0) (h.n.getD 0 0) (rEndF h).1
theorem rAm_eq {h:PHead} (ok:PHead.ok h) (len:Nat):rAmF (rhead h) len=amissF h len:=by
  have b:=nums_bd ok.2.2.2.2.2.2.2.1
  unfold rAmF amissF
  rw[rEnd_eq (b 0) (b 1)]
  simp only[rhead_n (h:=h) (show 0<20 by omega),rhead_n (h:=h) (show 1<20 by omega),rhead_n (h:=h) (show 2<20 by omega),rhead_n (h:=h) (show 3<20 by omega),rhead_n (h:=h) (show 4<20 by omega),rhead_n (h:=h) (show 5<20 by omega),rTab_eq]
  rfl
theorem rAm_at {h:RHead} {len r:Nat} {s:Bool} (he:rEndF h=(r,s)):rAmF h len=(if andNot h.incompat 4≠0 then 7 else if 2<h.state then 8 else if h.n.getD 0 0<272∨h.n.getD 0 0%8≠0∨h.n.getD 1 0%8≠0 then 5
    else if s=false∨len<r then 2 else if rTabF (h.n.getD 2 0) (h.n.getD 3 0) (h.n.getD 0 0) r≠0 then rTabF (h.n.getD 2 0) (h.n.getD 3 0) (h.n.getD 0 0) r else rTabF (h.n.getD 4 0) (h.n.getD 5 0) (h.n.getD 0 0) r):=by
  unfold rAmF;rw[he]
def rReadF (b:Ly):RHead × Nat × Nat:=(rhead (readF b).1,(readF b).1.n.getD 20 0,(readF b).2)
def rh0:RHead:={compat:=0,incompat:=0,state:=0,file:=idZ,machine:=idZ,boot:=idZ,seq:=idZ,n:=List.replicate 20 0,tailArray:=0,tailItems:=0,tailEntry:=0}
theorem rRead_short {b:Ly} (h:b.length<272):rReadF b=(rh0,0,22):=by unfold rReadF;rw[readF_short h];rfl
theorem pref_of {b:Ly} (h:¬b.length<272):prefF b signF=decide (b.take 8=signF):=by
  unfold prefF
  rw[if_pos (by show 8≤_;omega)];rfl
theorem rRead_sign {b:Ly} (h:¬b.length<272) (h2:b.take 8≠[76,80,75,83,72,72,82,72]):rReadF b=(rh0,0,6):=by
  unfold rReadF
  rw[readF_sign h (by have e:=pref_of h;rw[show signF=[76,80,75,83,72,72,82,72]from rfl]at e;rw[e];exact decide_eq_false h2)];rfl
theorem rRead_of {b:Ly} {x:RHead} {d e:Nat} (h:¬b.length<272) (h2:b.take 8=[76,80,75,83,72,72,82,72]) (hr:(rawF b,at8 b 248)=(x,d)) (he:rAmF x b.length=e):rReadF b=if e≠0 then(rh0,0,e)else(x,d,0):=by
  have A:prefF b [76,80,75,83,72,72,82,72]=true:=by have e:=pref_of h;rw[show signF=[76,80,75,83,72,72,82,72]from rfl]at e;rw[e];exact decide_eq_true h2
  simp only[Prod.mk.injEq]at hr
  have B:amissF (parseF b) b.length=e:=by rw[← rAm_eq (parse_ok (by omega)),← rawF_eq,hr.1];exact he
  by_cases hc:e≠0
  · rw[if_pos hc]
    unfold rReadF
    rw[readF_no h A (by simp) q B hc];rfl
  rw[if_neg hc]
  unfold rReadF
  rw[readF_ok h A (by simp) q (by omega),← hr.1,← hr.2,rawF_eq,raw_depth]
end Go.Wk
namespace Go.Wk
open Go Go.RowKit
def rOpenF (b:Ly):Option RView × Nat:=((openF b).1.map rview,(openF b).2)
theorem rOpen_no {b:Ly} {x:RHead} {d e:Nat} (h:rReadF b=(x,d,e)) (he:e≠0):rOpenF b=(none,e):=by
  simp only[rReadF,Prod.mk.injEq]at h
  unfold rOpenF openF
  rw[if_pos (by rw[h.2.2];exact he),h.2.2]
  rfl
theorem rOpen_ok {b:Ly} {x:RHead} {d e r:Nat} {s:Bool} (h:rReadF b=(x,d,e)) (he:¬e≠0) (h2:rEndF x=(r,s)):r≤b.length∧rOpenF b=(some {h:=x,depth:=d,b:=b.take r},0):=by
  simp only[rReadF,Prod.mk.injEq]at h
  have A:readF b=((readF b).1,0):=by rw[← Classical.not_not.1 he,← h.2.2]
  obtain⟨C,D,_⟩:=read_fine A
  have E:PHead.ok (readF b).1:=by rw[← D];exact parse_ok C
  have b':=nums_bd E.2.2.2.2.2.2.2.1
  have B:endF (readF b).1=(r,s):=by rw[← rEnd_eq (b' 0) (b' 1),h.1];exact h2
  refine⟨(read_end A B).1,?_⟩
  unfold rOpenF openF
  rw[if_neg (by rw[A];simp),B]
  simp only[Option.map_some,rview,h.1,h.2.1]
def rbodyF (b:Ly) (p kind:Nat):List UInt8 × Nat :=
  if(frameF b p).2≠0 then([],(frameF b p).2)
  else if(frameF b p).1.kind≠kind then([],4)
  else((b.take (p+(frameF b p).1.size)).drop (p+16),0)
theorem rbody_ok {b x:Ly} {p kind c:Nat} (h:rbodyF b p kind=(x,c)) (hc:¬c≠0):(frameF b p).2=0∧(frameF b p).1.kind=kind∧x=(b.take (p+(frameF b p).1.size)).drop (p+16)∧x.length=(frameF b p).1.size-16∧p+(frameF b p).1.size≤b.length∧16≤(frameF b p).1.size:=by
  unfold rbodyF at h
  split at h
  · rename_i h1;have:=congrArg Prod.snd h;simp at this;omega
  rename_i h1
  have A:16≤(frameF b p).1.size∧p+(frameF b p).1.size≤b.length∧(frameF b p).1.kind<256∧(frameF b p).1.flags=0:=frame_fine0 (f:=(frameF b p).1) (c:=(frameF b p).2) q h1
  split at h
  · have:=congrArg Prod.snd h;simp at this;omega
  rename_i h2
  have e:=congrArg Prod.fst h
  simp only at e
  subst e
  refine⟨by omega,by omega,q,?_,A.2.1,A.1⟩
  simp only[List.length_drop,List.length_take]
  omega
theorem rDat_no {b x:Ly} {p c:Nat} (h:rbodyF b p 1=(x,c)) (hc:c≠0):readDatF b p=(dat0,c):=by
  unfold rbodyF at h
  unfold readDatF
  split at h
  · rename_i h1;rw[if_pos h1,show(frameF b p).2=c from congrArg Prod.snd h]
  rename_i h1;rw[if_neg h1]
  split at h
  · rename_i h2;rw[if_pos h2,show 4=c from congrArg Prod.snd h]
  exact absurd (congrArg Prod.snd h).symm hc
theorem rDat_5 {b x:Ly} {p c:Nat} (h:rbodyF b p 1=(x,c)) (hc:¬c≠0) (hx:x.length≤48):readDatF b p=(dat0,5):=by
  obtain⟨A,B,C,D,E,F⟩:=rbody_ok h hc
  unfold readDatF
  rw[if_neg (by omega),if_neg (by omega),if_pos (by omega)]
theorem rDat_ok {b x:Ly} {p c:Nat} (h:rbodyF b p 1=(x,c)) (hc:¬c≠0) (hx:¬x.length≤48):readDatF b p=({hash:=at8 x 0,nextHash:=at8 x 8,nextField:=at8 x 16,entry:=at8 x 24,array:=at8 x 32,count:=at8 x 40,payload:=x.drop 48},0):=by
  obtain⟨C,D,A,E,B,F⟩:=rbody_ok h hc
  have e:∀i,i+8≤48→at8 x i=at8 b (p+16+i):=fun i G=>by rw[A,at8_sub (by omega) B]
  unfold readDatF
  rw[if_neg (by omega),if_neg (by omega),if_neg (by omega),e 0 (by omega),e 8 (by omega),e 16 (by omega),e 24 (by omega),e 32 (by omega),e 40 (by omega)]
  refine Prod.ext ?_ q
  simp only[Dat.mk.injEq,true_and]
  rw[A]
  apply List.ext_getElem?
  intro j
  simp only[List.getElem?_take,List.getElem?_drop]
  by_cases hj:j<(frameF b p).1.size-64
  · rw[if_pos hj,if_pos (by omega)];congr 1;omega
  rw[if_neg hj,if_neg (by omega)]
end Go.Wk
namespace Go.Wk
open Go Go.RowKit
def fld0:Fld:={hash:=0,nextHash:=0,dat:=0,payload:=[]}
def readFldF (b:Ly) (p:Nat):Fld × Nat :=
  if(frameF b p).2≠0 then(fld0,(frameF b p).2)
  else if(frameF b p).1.kind≠2 then(fld0,4)
  else if(frameF b p).1.size≤40 then(fld0,5)
  else({hash:=at8 b (p+16),nextHash:=at8 b (p+24),dat:=at8 b (p+32),payload:=(b.drop (p+40)).take ((frameF b p).1.size-40)},0)
def fldAt (s:Nat) (b:Ly) (p:Nat):Fld × Nat:=if p<s∨b.length≤p then(fld0,2)else readFldF b p
theorem fld_in {s p c:Nat} {b:Ly} (h:inAt s b p=c) (hc:c≠0):(fldAt s b p).2=c:=by
  unfold inAt at h
  unfold fldAt
  split at h
  · rename_i h1;rw[if_pos h1];exact h
  exact absurd h.symm hc
theorem fld_at {s p c:Nat} {b:Ly} {x:Fld} (h0:inAt s b p=0) (h:readFldF b p=(x,c)):fldAt s b p=(x,c):=by
  unfold inAt at h0
  unfold fldAt
  split at h0
  · cases h0
  rename_i h1;rw[if_neg h1];exact h
theorem readFld_z (b:Ly) (p:Nat) (h:(readFldF b p).2≠0):(readFldF b p).1=fld0:=by
  unfold readFldF at h ⊢
  split
  · rfl
  split
  · rfl
  split
  · rfl
  rename_i h1 h2 h3;rw[if_neg h1,if_neg h2,if_neg h3]at h;exact absurd q h
theorem fld_no {s p c:Nat} {b:Ly} (h:(fldAt s b p).2=c) (hc:c≠0):fldAt s b p=(fld0,c):=by
  refine Prod.ext ?_ h
  rw[← h]at hc
  unfold fldAt at hc ⊢
  split
  · rfl
  rename_i h1;rw[if_neg h1]at hc;exact readFld_z b p hc
theorem readFld_of {b x:Ly} {p c:Nat} {l:List Nat} (h:readObjF b p 2 3=(l,x,c)):(c≠0→readFldF b p=(fld0,c))∧(¬c≠0→l.length=3∧readFldF b p=({hash:=l.getD 0 0,nextHash:=l.getD 1 0,dat:=l.getD 2 0,payload:=x},0)):=by
  unfold readObjF at h
  unfold readFldF
  split at h
  · rename_i h1
    simp only[Prod.mk.injEq]at h
    refine⟨fun _=>by rw[if_pos h1,h.2.2],fun A=>absurd (h.2.2 ▸ h1) A⟩
  rename_i h1
  rw[if_neg h1]
  split at h
  · rename_i h2
    simp only[Prod.mk.injEq]at h
    exact⟨fun _=>by rw[if_pos h2,h.2.2],fun A=>absurd (h.2.2 ▸ (by decide:(4:Nat)≠0)) A⟩
  rename_i h2
  rw[if_neg h2]
  split at h
  · rename_i h3
    simp only[Prod.mk.injEq]at h
    exact⟨fun _=>by rw[if_pos (by omega),h.2.2],fun A=>absurd (h.2.2 ▸ (by decide:(5:Nat)≠0)) A⟩
  rename_i h3
  simp only[Prod.mk.injEq]at h
  obtain⟨rfl,rfl,rfl⟩:=h
  refine⟨fun A=>absurd q A,fun _=>⟨numsAt_len _ _ _,?_⟩⟩
  rw[if_neg (by omega)]
  simp[numsAt,List.range_succ]
theorem nums_get {b:Ly} {p n i v:Nat} (h:(numsAt b p n)[i]? = some v):v=at8 b (p+8*i)∧i<n:=by
  unfold numsAt at h
  rw[List.getElem?_map]at h
  by_cases hi:i<n
  · rw[List.getElem?_range hi]at h
    exact⟨(Option.some.inj h).symm,hi⟩
  rw[List.getElem?_eq_none (by simpa using hi)]at h;cases h
end Go.Wk
namespace Go.Wk
open Go Go.RowKit
end Go.Wk
namespace Go.Wk
open Go Go.RowKit
section
variable {k:Bool} {f b:Ly} {s p i c:Nat} {l:List Itm} {x:Itm} {d:Dat} {fs:List Pr} {all:List (List UInt8)} {q:Pr} {e:Ent} {r:Rec}
end
end Go.Wk
namespace Go.Wk
open Go Go.RowKit
section
variable {b x:Ly} {p c:Nat}
end
section
variable {k:Bool} {f b:Ly} {s p c n:Nat} {d:Dat}
end
section
variable {k:Bool} {f b:Ly} {s p i c n m:Nat} {l:List Itm} {x:Itm} {fs:List Pr} {all:List (List UInt8)} {q:Ly} {w:Pr}
theorem rFld_no {b x:Ly} {p c:Nat} (h:rbodyF b p 2=(x,c)) (hc:c≠0):readFldF b p=(fld0,c):=by
  unfold rbodyF at h
  unfold readFldF
  split at h
  · rename_i h1;rw[if_pos h1,show(frameF b p).2=c from congrArg Prod.snd h]
  rename_i h1;rw[if_neg h1]
  split at h
  · rename_i h2;rw[if_pos h2,show 4=c from congrArg Prod.snd h]
  exact absurd (congrArg Prod.snd h).symm hc
theorem rFld_5 {b x:Ly} {p c:Nat} (h:rbodyF b p 2=(x,c)) (hc:¬c≠0) (hx:x.length≤24):readFldF b p=(fld0,5):=by
  obtain⟨A,B,C,D,E,F⟩:=rbody_ok h hc
  unfold readFldF
  rw[if_neg (by omega),if_neg (by omega),if_pos (by omega)]
theorem rFld_ok {b x:Ly} {p c:Nat} (h:rbodyF b p 2=(x,c)) (hc:¬c≠0) (hx:¬x.length≤24):readFldF b p=({hash:=at8 x 0,nextHash:=at8 x 8,dat:=at8 x 16,payload:=x.drop 24},0):=by
  obtain⟨C,D,A,E,B,F⟩:=rbody_ok h hc
  have e:∀i,i+8≤24→at8 x i=at8 b (p+16+i):=fun i G=>by rw[A,at8_sub (by omega) B]
  unfold readFldF
  rw[if_neg (by omega),if_neg (by omega),if_neg (by omega),e 0 (by omega),e 8 (by omega),e 16 (by omega)]
  refine Prod.ext ?_ rfl
  simp only[Fld.mk.injEq,true_and]
  rw[A]
  apply List.ext_getElem?
  intro j
  simp only[List.getElem?_take,List.getElem?_drop]
  by_cases hj:j<(frameF b p).1.size-40
  · rw[if_pos hj,if_pos (by omega)];congr 1;omega
  rw[if_neg hj,if_neg (by omega)]
end
end Go.Wk
namespace Go.Wk
open Go Go.RowKit
section
variable {P:Program} {Q:Exit→Act→World→Prop} {n:Nat} {A:Fr n} {D:List Deferred} {l:List (Nat × Value)} {w:World}
def Next9 {X0 X1 X2 X3 X4 X5 X6 X7 X8:Type} (n:Nat) (D:List Deferred) (inv:X0→X1→X2→X3→X4→X5→X6→X7→X8→List (Nat × Value)) (W:X0→X1→X2→X3→X4→X5→X6→X7→X8→World→Prop) (mu:X0→X1→X2→X3→X4→X5→X6→X7→X8→Nat) (m:Nat) (a:Act) (w:World):Prop :=
  ∃y0:X0,∃y1:X1,∃y2:X2,∃y3:X3,∃y4:X4,∃y5:X5,∃y6:X6,∃y7:X7,∃y8:X8,∃B:Fr n,a=over B D (inv y0 y1 y2 y3 y4 y5 y6 y7 y8)∧W y0 y1 y2 y3 y4 y5 y6 y7 y8 w∧mu y0 y1 y2 y3 y4 y5 y6 y7 y8<m
theorem loop9 {X0 X1 X2 X3 X4 X5 X6 X7 X8:Type} {c:Code} (inv:X0→X1→X2→X3→X4→X5→X6→X7→X8→List (Nat × Value)) (W:X0→X1→X2→X3→X4→X5→X6→X7→X8→World→Prop) (mu:X0→X1→X2→X3→X4→X5→X6→X7→X8→Nat) (x0:X0) (x1:X1) (x2:X2) (x3:X3) (x4:X4) (x5:X5) (x6:X6) (x7:X7) (x8:X8) (h0:Fits n l (inv x0 x1 x2 x3 x4 x5 x6 x7 x8)) (hw:W x0 x1 x2 x3 x4 x5 x6 x7 x8 w)
    (round:∀(x0:X0) (x1:X1) (x2:X2) (x3:X3) (x4:X4) (x5:X5) (x6:X6) (x7:X7) (x8:X8) (B:Fr n) (w':World),W x0 x1 x2 x3 x4 x5 x6 x7 x8 w'→c.wp P (Exit.then (Next9 n D inv W mu (mu x0 x1 x2 x3 x4 x5 x6 x7 x8)) Q) (over B D (inv x0 x1 x2 x3 x4 x5 x6 x7 x8)) w') :
    (Code.loop c).wp P Q (over A D l) w:=by
  refine c_loop (X:=X0 × X1 × X2 × X3 × X4 × X5 × X6 × X7 × X8) (fun p=>inv p.1 p.2.1 p.2.2.1 p.2.2.2.1 p.2.2.2.2.1 p.2.2.2.2.2.1 p.2.2.2.2.2.2.1 p.2.2.2.2.2.2.2.1 p.2.2.2.2.2.2.2.2) (fun p w=>W p.1 p.2.1 p.2.2.1 p.2.2.2.1 p.2.2.2.2.1 p.2.2.2.2.2.1 p.2.2.2.2.2.2.1 p.2.2.2.2.2.2.2.1 p.2.2.2.2.2.2.2.2 w) (fun p=>mu p.1 p.2.1 p.2.2.1 p.2.2.2.1 p.2.2.2.2.1 p.2.2.2.2.2.1 p.2.2.2.2.2.2.1 p.2.2.2.2.2.2.2.1 p.2.2.2.2.2.2.2.2) (x0,x1,x2,x3,x4,x5,x6,x7,x8) h0 hw (fun p B w' h=>wp_mono (round (p.1) (p.2.1) (p.2.2.1) (p.2.2.2.1) (p.2.2.2.2.1) (p.2.2.2.2.2.1) (p.2.2.2.2.2.2.1) (p.2.2.2.2.2.2.2.1) (p.2.2.2.2.2.2.2.2) B w' h) ?_)
  intro e S T h
  cases e with
  | normal=>obtain⟨H,I,J,K,L,M,N,O,R,C,E,F,G⟩:=h;exact⟨(H,I,J,K,L,M,N,O,R),C,E,F,G⟩
  | _=>exact h
theorem next9 {X0 X1 X2 X3 X4 X5 X6 X7 X8:Type} {inv:X0→X1→X2→X3→X4→X5→X6→X7→X8→List (Nat × Value)} {W:X0→X1→X2→X3→X4→X5→X6→X7→X8→World→Prop} {mu:X0→X1→X2→X3→X4→X5→X6→X7→X8→Nat} {m:Nat} (x0:X0) (x1:X1) (x2:X2) (x3:X3) (x4:X4) (x5:X5) (x6:X6) (x7:X7) (x8:X8) (hm:mu x0 x1 x2 x3 x4 x5 x6 x7 x8<m) (hf:Fits n l (inv x0 x1 x2 x3 x4 x5 x6 x7 x8)) (hw:W x0 x1 x2 x3 x4 x5 x6 x7 x8 w) :
    Next9 n D inv W mu m (over A D l) w:=⟨x0,x1,x2,x3,x4,x5,x6,x7,x8,_,(over_fits (A:=A) (D:=D) hf).symm,hw,hm⟩
def Next10 {X0 X1 X2 X3 X4 X5 X6 X7 X8 X9:Type} (n:Nat) (D:List Deferred) (inv:X0→X1→X2→X3→X4→X5→X6→X7→X8→X9→List (Nat × Value)) (W:X0→X1→X2→X3→X4→X5→X6→X7→X8→X9→World→Prop) (mu:X0→X1→X2→X3→X4→X5→X6→X7→X8→X9→Nat) (m:Nat) (a:Act) (w:World):Prop :=
  ∃y0:X0,∃y1:X1,∃y2:X2,∃y3:X3,∃y4:X4,∃y5:X5,∃y6:X6,∃y7:X7,∃y8:X8,∃y9:X9,∃B:Fr n,a=over B D (inv y0 y1 y2 y3 y4 y5 y6 y7 y8 y9)∧W y0 y1 y2 y3 y4 y5 y6 y7 y8 y9 w∧mu y0 y1 y2 y3 y4 y5 y6 y7 y8 y9<m
theorem loop10 {X0 X1 X2 X3 X4 X5 X6 X7 X8 X9:Type} {c:Code} (inv:X0→X1→X2→X3→X4→X5→X6→X7→X8→X9→List (Nat × Value)) (W:X0→X1→X2→X3→X4→X5→X6→X7→X8→X9→World→Prop) (mu:X0→X1→X2→X3→X4→X5→X6→X7→X8→X9→Nat) (x0:X0) (x1:X1) (x2:X2) (x3:X3) (x4:X4) (x5:X5) (x6:X6) (x7:X7) (x8:X8) (x9:X9) (h0:Fits n l (inv x0 x1 x2 x3 x4 x5 x6 x7 x8 x9)) (hw:W x0 x1 x2 x3 x4 x5 x6 x7 x8 x9 w)
    (round:∀(x0:X0) (x1:X1) (x2:X2) (x3:X3) (x4:X4) (x5:X5) (x6:X6) (x7:X7) (x8:X8) (x9:X9) (B:Fr n) (w':World),W x0 x1 x2 x3 x4 x5 x6 x7 x8 x9 w'→c.wp P (Exit.then (Next10 n D inv W mu (mu x0 x1 x2 x3 x4 x5 x6 x7 x8 x9)) Q) (over B D (inv x0 x1 x2 x3 x4 x5 x6 x7 x8 x9)) w') :
    (Code.loop c).wp P Q (over A D l) w:=by
  refine c_loop (X:=X0 × X1 × X2 × X3 × X4 × X5 × X6 × X7 × X8 × X9) (fun p=>inv p.1 p.2.1 p.2.2.1 p.2.2.2.1 p.2.2.2.2.1 p.2.2.2.2.2.1 p.2.2.2.2.2.2.1 p.2.2.2.2.2.2.2.1 p.2.2.2.2.2.2.2.2.1 p.2.2.2.2.2.2.2.2.2) (fun p w=>W p.1 p.2.1 p.2.2.1 p.2.2.2.1 p.2.2.2.2.1 p.2.2.2.2.2.1 p.2.2.2.2.2.2.1 p.2.2.2.2.2.2.2.1 p.2.2.2.2.2.2.2.2.1 p.2.2.2.2.2.2.2.2.2 w) (fun p=>mu p.1 p.2.1 p.2.2.1 p.2.2.2.1 p.2.2.2.2.1 p.2.2.2.2.2.1 p.2.2.2.2.2.2.1 p.2.2.2.2.2.2.2.1 p.2.2.2.2.2.2.2.2.1 p.2.2.2.2.2.2.2.2.2) (x0,x1,x2,x3,x4,x5,x6,x7,x8,x9) h0 hw (fun p B w' h=>wp_mono (round (p.1) (p.2.1) (p.2.2.1) (p.2.2.2.1) (p.2.2.2.2.1) (p.2.2.2.2.2.1) (p.2.2.2.2.2.2.1) (p.2.2.2.2.2.2.2.1) (p.2.2.2.2.2.2.2.2.1) (p.2.2.2.2.2.2.2.2.2) B w' h) ?_)
  intro e T U h
  cases e with
  | normal=>obtain⟨H,I,J,K,L,M,N,O,R,S,C,E,F,G⟩:=h;exact⟨(H,I,J,K,L,M,N,O,R,S),C,E,F,G⟩
  | _=>exact h
theorem next10 {X0 X1 X2 X3 X4 X5 X6 X7 X8 X9:Type} {inv:X0→X1→X2→X3→X4→X5→X6→X7→X8→X9→List (Nat × Value)} {W:X0→X1→X2→X3→X4→X5→X6→X7→X8→X9→World→Prop} {mu:X0→X1→X2→X3→X4→X5→X6→X7→X8→X9→Nat} {m:Nat} (x0:X0) (x1:X1) (x2:X2) (x3:X3) (x4:X4) (x5:X5) (x6:X6) (x7:X7) (x8:X8) (x9:X9) (hm:mu x0 x1 x2 x3 x4 x5 x6 x7 x8 x9<m) (hf:Fits n l (inv x0 x1 x2 x3 x4 x5 x6 x7 x8 x9)) (hw:W x0 x1 x2 x3 x4 x5 x6 x7 x8 x9 w) :
    Next10 n D inv W mu m (over A D l) w:=⟨x0,x1,x2,x3,x4,x5,x6,x7,x8,x9,_,(over_fits (A:=A) (D:=D) hf).symm,hw,hm⟩
end
end Go.Wk
namespace Go.Wk
open Go Go.RowKit
def known0:Known:={text:=[],pos:=0,slot:=0,count:=0,arrays:=[]}
def posAt (ds:List Known) (i:Nat):Nat:=(ds.getD i known0).pos
def backF (ds:List Known) (p:Nat) (order:List Nat):Nat→Nat
  | 0=>0
  | n+1=>if p<posAt ds (order.getD n 0)then backF ds p order n else n+1
def placeF (ds:List Known) (k:Nat) (order:List Nat):List Nat :=
  let n:=backF ds (posAt ds k) order order.length
  order.take n ++ [k] ++ order.drop n
def datasL:List Pr→Mk→List (List UInt8)→List Nat→List (List UInt8) × List Nat × Mk
  | [],m,ps,od=>(ps,od,m)
  | x :: r,m,ps,od =>
    match m.data x with
    | (k,m1)=>datasL r m1 (ps ++ [(m1.datas.getD k known0).text]) (placeF m1.datas k od)
def itemsL (m:Mk) (od:List Nat):List Itm:=od.map fun i=>{pos:=posAt m.datas i,hash:=hashN m.c.keyed m.c.file (m.datas.getD i known0).text}
def hangE (e:Nat):List Nat→Mk→Mk
  | [],m=>m
  | i :: r,m =>
    let k:=m.datas.getD i known0
    if k.count=0 then
      let m29:=(m.put (k.pos+40) e).put (k.pos+56) 1
      hangE e r {m29 with datas:=m29.datas.set i {k with count:=1}}
    else
      match m.link k.arrays (k.count-1) (k.pos+48) e with
      | (a,_,m1) =>
        let m29:=m1.put (k.pos+56) (k.count+1)
        hangE e r {m29 with datas:=m29.datas.set i {k with arrays:=a,count:=k.count+1}}
def Mk.append (m:Mk) (fields:List Pr) (real mono:Nat) (boot:Ly):Nat × Nat × Mk :=
  match listF fields with
  | (l,c) =>
    if c≠0 then(0,c,m)
    else if m.num 9=18446744073709551615 then(0,1,m)
    else
      match datasL l m [] []with
      | (ps,od,m1) =>
        let seq:=(m1.num 9+1)%18446744073709551616
        match m1.object (putEntryF {seq:=seq,real:=real,mono:=mono,boot:=boot,xor:=xorF 0 ps,items:=itemsL m1 od})with
        | (e,m29) =>
          let n:=m29.num 8
          match m29.link m29.main n 176 e with
          | (a,t,m3) =>
            let m4:=({m3 with main:=a}:Mk).setN 11 (a.getD 0 0)
            let m5:={m4 with h:={m4.h with tailArray:=lastN a%4294967296,tailItems:=t%4294967296}}
            let m6:=hangE e od m5
            if m6.c.most<m6.b.length then(0,15,m)
            else
              let m7:=if n=0 then(m6.setN 10 seq).setN 12 real else m6
              let m8:=m7.setN 8 ((m7.num 8+1)%18446744073709551616)
              let m9:=((m8.setN 9 seq).setN 13 real).setN 14 mono
              (seq,0,{m9 with h:={m9.h with boot:=boot,tailEntry:=e}})
def makerL:Nat→Sq→Mk→List Rec→Mk × List Rec × Sq
  | 0,s,m,rs=>(m,rs,s)
  | n+1,s,m,rs =>
    if s.pos<s.l.length then
      match s.record ((m.num 9+1)%18446744073709551616)with
      | (r,s1) =>
        match m.append r.fields r.real r.mono r.boot with
        | (_,c,m1)=>if c≠0 then(m1,rs,s1)else makerL n s1 m1 (rs ++ [r])
    else(m,rs,s)
def Sq.maker (s:Sq) (most:Nat):Mk × List Rec × Sq :=
  match s.config with
  | (c,s1) =>
    match s1.num 6 with
    | (t,s2)=>makerL most s2 (newMk c t) []
def imageOf (l:List Int) (most:Nat):List UInt8:=imageM ((Sq.mk l 0).maker most).1 1
end Go.Wk
namespace Go.Wk
open Go Go.RowKit
theorem Ow.lsB {e:TypeId} {w w':World} {Q Q':Nat→Prop} {v:Value} {xs:Ly} (h:Ow tB8 e (Fsh [] w) w' Q' v xs) (uQ:Up w Q):Ls tB8 w' Q v xs :=
  Ls.of_by h.read.by fun b hb _=>Fsh.up uQ b (h.2 b hb).1
theorem config_slots (s:Sq):s.config.1.dataSlots≤10∧s.config.1.fieldSlots≤10:=by
  rcases h1:s.num 5 with⟨a,E⟩
  rcases h2:E.num 5 with⟨b,F⟩
  rcases h3:F.num 5 with⟨c,C⟩
  rcases h4:C.num 7 with⟨d,D⟩
  rcases h5:D.num 4 with⟨e,G⟩
  rcases h6:G.num 2 with⟨f,H⟩
  have A:=C.num_le 7
  have B:=D.num_le 4
  rw[h4]at A;rw[h5]at B
  simp only[Sq.config,h1,h2,h3,h4,h5,h6]
  simp only at A B
  omega
end Go.Wk
namespace Go.Wk
open Go Go.RowKit
section
variable {P:Program} {n:Nat} {A:Fr n} {D:List Deferred} {l:List (Nat × Value)} {w:World} {d:Option Tmp} {ty:TypeId} {ps:String} {af:Array Edge} {g:Option (Nat × Bool)}
end
theorem open_empty:(openF (imageOf [] 0)).2=0∧((openF (imageOf [] 0)).1.map fun y=>y.h.n.getD 8 0)=some 0:=by decide +kernel
theorem open_emptyE {x:Option PView} {c:Nat} (h:openF (imageOf [] 0)=(x,c)):c=0∧∃y,x=some y∧y.h.n.getD 8 0=0:=by
  have A:=open_empty
  rw[h]at A
  obtain⟨C,B⟩:=A
  cases x with
  | none=>simp at B
  | some y=>exact⟨C,y,q,by simpa using B⟩
theorem img_len:(imageOf [] 0).length≤1000:=by decide +kernel
section
variable {P:Program} {n:Nat} {A:Fr n} {D:List Deferred} {l:List (Nat × Value)} {w:World} {d:Option Tmp} {ty:TypeId} {ps:String} {af:Array Edge} {g:Option (Nat × Bool)}
end
end Go.Wk
namespace Go.Wk
open Go Go.RowKit
def nothF (b:Ly) (x:Nat):Bool:=decide (x=0∨b.length≤x)
end Go.Wk
namespace Go.Wk
open Go Go.RowKit
theorem same_len {a b:List Nat} (h:a.length≠b.length):decide (a=b)=false:=decide_eq_false (fun e=>h (by rw[e]))
theorem same_no {a b:List Nat} {i x y:Nat} (h:a[i]? = some x) (h2:b[i]? = some y) (hn:x≠y):decide (a=b)=false:=decide_eq_false (fun e=>hn (by subst e;rw[h]at h2;exact Option.some.inj h2))
theorem same_yes {a b:List Nat} {i:Nat} (h:a.take i=b.take i) (h1:a.length≤i) (h2:a.length=b.length):decide (a=b)=true:=decide_eq_true (by rw[← List.take_of_length_le h1,h,List.take_of_length_le (by omega)])
theorem same_step {a b:List Nat} {i x y:Nat} (h:a.take i=b.take i) (h1:a[i]? = some x) (h2:b[i]? = some y) (he:x=y):a.take (i+1)=b.take (i+1):=by rw[List.take_add_one,List.take_add_one,h,h1,h2,he]
end Go.Wk
namespace Go.Wk
open Go Go.RowKit
structure DataOk (m m':Mk) (k len:Nat):Prop where
  lt:k<m'.datas.length
  ge:m.b.length≤m'.b.length
  le:m'.b.length≤m.b.length+len
  c:m'.c=m.c
  main:m'.main=m.main
  pre:m'.datas=m.datas∨∃x:Known,m'.datas=m.datas ++ [x]∧x.count=0∧x.arrays=[]∧x.pos+64≤m'.b.length
  fl:m'.fields.length≤m.fields.length+1
  fit:m'.fit
  n8:m'.h.n.getD 8 0=m.h.n.getD 8 0
theorem put_same (m:Mk) (p v:Nat):(m.put p v).c=m.c∧(m.put p v).datas=m.datas∧(m.put p v).fields=m.fields∧(m.put p v).main=m.main∧(m.put p v).h=m.h∧(m.put p v).depth=m.depth:=⟨q,q,q,q,q,q⟩
theorem data_ok (m:Mk) (x:Pr) (h:m.fit):DataOk m (m.data x).2 (m.data x).1 (400+x.name.length+(payload x).length):=by
  unfold Mk.data
  cases hk:findI (payload x) m.datas 0 with
  | some i =>
    have:=findI_lt hk
    exact⟨by simp only;omega,Nat.le_refl _,by simp only;omega,q,q,.inl q,by simp only;omega,h,q⟩
  | none =>
    simp only
    have D:=object_spec m (putDataF {hash:=hashN m.c.keyed m.c.file (payload x),nextHash:=0,nextField:=0,entry:=0,array:=0,count:=0,payload:=payload x})
    have Q:=object_same m (putDataF {hash:=hashN m.c.keyed m.c.file (payload x),nextHash:=0,nextField:=0,entry:=0,array:=0,count:=0,payload:=payload x})
    have R:(m.object (putDataF {hash:=hashN m.c.keyed m.c.file (payload x),nextHash:=0,nextField:=0,entry:=0,array:=0,count:=0,payload:=payload x})).2.h.n.getD 8 0=m.h.n.getD 8 0:=by
      simp only[Mk.object,Mk.setN];rw[getD_set_ne' (by decide),getD_set_ne' (by decide)]
    rw[putDataF_len]at D
    simp only at D
    generalize m.object (putDataF {hash:=hashN m.c.keyed m.c.file (payload x),nextHash:=0,nextField:=0,entry:=0,array:=0,count:=0,payload:=payload x})=r at *
    obtain⟨p,A⟩:=r
    simp only at D Q R ⊢
    have S:=hang_spec A A.datas (A.num 2) p (hashN m.c.keyed m.c.file (payload x)%A.c.dataSlots)
    have T:=hang_same A A.datas (A.num 2) p (hashN m.c.keyed m.c.file (payload x)%A.c.dataSlots)
    generalize A.hang A.datas (A.num 2) p (hashN m.c.keyed m.c.file (payload x)%A.c.dataSlots)=r at *
    obtain⟨n,B⟩:=r
    simp only at S T ⊢
    obtain⟨a1,a2,a3,a4,a5,a6,a7,a8⟩:=D
    obtain⟨Z,J,K,a⟩:=Q
    obtain⟨c1,c2,c3,c4,c5,c6,c7⟩:=S
    obtain⟨d,L,M,e,d5,f⟩:=T
    generalize hx5:({(B.setN 19 (max (B.num 19) n)).setN 15 (((B.setN 19 (max (B.num 19) n)).num 15+1)%18446744073709551616)with datas:=((B.setN 19 (max (B.num 19) n)).setN 15 (((B.setN 19 (max (B.num 19) n)).num 15+1)%18446744073709551616)).datas ++ [({text:=payload x,pos:=p,slot:=hashN m.c.keyed m.c.file (payload x)%A.c.dataSlots,count:=0,arrays:=[]}:Known)]}:Mk)=m5
    have j:m5.b=B.b∧m5.c=B.c∧m5.datas=B.datas ++ [({text:=payload x,pos:=p,slot:=hashN m.c.keyed m.c.file (payload x)%A.c.dataSlots,count:=0,arrays:=[]}:Known)]∧m5.fields=B.fields∧m5.main=B.main:=by subst hx5;exact⟨q,q,q,q,q⟩
    have v:m5.h.n.getD 2 0=m.h.n.getD 2 0:=by subst hx5;simp only[Mk.setN];rw[getD_set_ne' (by decide),getD_set_ne' (by decide)];omega
    have w:m5.h.n.getD 4 0=m.h.n.getD 4 0:=by subst hx5;simp only[Mk.setN];rw[getD_set_ne' (by decide),getD_set_ne' (by decide)];omega
    have g8:m5.h.n.getD 8 0=m.h.n.getD 8 0:=by subst hx5;simp only[Mk.setN];rw[getD_set_ne' (by decide),getD_set_ne' (by decide),f,R]
    clear hx5
    obtain⟨g,E,O,P,l⟩:=j
    have l5:m5.b.length=A.b.length:=by rw[g];omega
    have u:m5.fit:=by
      refine fit_mono h ⟨by rw[E];omega,by rw[E];omega,v,w,by omega⟩ (fun k hk=>?_) (fun k hk=>?_)
      · rw[O,L,J,List.mem_append,List.mem_singleton]at hk
        rcases hk with hk|rfl
        · exact .inl hk
        · right;simp only;omega
      · rw[P,M,K]at hk;exact .inl hk
    have U:=field_all m5 x.name u
    generalize m5.field x.name=r at *
    obtain⟨k,C⟩:=r
    simp only at U ⊢
    obtain⟨⟨q1,q2,q3,q4,q5,q6,q7,q8,q9,y⟩,⟨z,s2,s3⟩,s4⟩:=U
    have l8:((C.put (p+32) (getF C.b (k+32:Nat) 8).1).put (k+32) p).b.length=C.b.length:=by rw[put_len,put_len]
    have o:=put_same C (p+32) (getF C.b (k+32:Nat) 8).1
    have t:=put_same (C.put (p+32) (getF C.b (k+32:Nat) 8).1) (k+32) p
    generalize C.put (p+32) (getF C.b (k+32:Nat) 8).1=m7 at *
    generalize m7.put (k+32) p=m8 at *
    obtain⟨F,V,W,v4,G,_⟩:=o
    obtain⟨H,X,Y,w4,I,_⟩:=t
    have N:m8.datas=m.datas ++ [({text:=payload x,pos:=p,slot:=hashN m.c.keyed m.c.file (payload x)%A.c.dataSlots,count:=0,arrays:=[]}:Known)]:=by rw[X,V,s2,O,L,J]
    refine⟨by rw[N];simp,by omega,by omega,by rw[H,F,z,E,d,Z],by rw[w4,v4,s3,l,e,a],.inr ⟨_,N,q,q,by simp only;omega⟩,?_,?_,by rw[I,G];omega⟩
    · have:=congrArg List.length P;rw[M,K]at this;rw[Y,W];omega
    · refine fit_mono s4 ⟨by rw[H,F],by rw[H,F],by rw[I,G],by rw[I,G],by omega⟩ (fun k hk=>.inl (by rw[X,V]at hk;exact hk)) (fun k hk=>.inl (by rw[Y,W]at hk;exact hk))
theorem rooms_app (l:List Nat) (p k a r:Nat):roomsL (l ++ [p]) k a r=((roomsL l k a r).2,(roomsL l k a r).2+roomF ((k+l.length:Nat):Int)):=by
  induction l generalizing k a r with
  | nil=>rfl
  | cons x l ih =>
    show roomsL (l ++ [p]) (k+1) r (r+roomF (k:Int))=_
    rw[ih]
    show _=((roomsL l (k+1) r (r+roomF (k:Int))).2,(roomsL l (k+1) r (r+roomF (k:Int))).2+roomF ((k+(l.length+1):Nat):Int))
    rw[show k+1+l.length=k+(l.length+1)by omega]
theorem rooms_ge (l:List Nat) (k a r:Nat):r+4*l.length≤(roomsL l k a r).2∧(l≠[]→r+4*(l.length-1)≤(roomsL l k a r).1):=by
  induction l generalizing k a r with
  | nil=>simp[roomsL]
  | cons x l ih =>
    have C:=roomF_ge (k:=(k:Int)) (by omega)
    obtain⟨B,A⟩:=ih (k+1) r (r+roomF (k:Int))
    refine⟨?_,fun _=>?_⟩
    · show r+4*(l.length+1)≤(roomsL l (k+1) r (r+roomF (k:Int))).2;omega
    · show r+4*(l.length+1-1)≤(roomsL l (k+1) r (r+roomF (k:Int))).1
      by_cases hl:l=[]
      · subst hl;simp[roomsL]
      · have:=A hl
        have:0<l.length:=by cases l with|nil=>exact absurd q hl|cons _ _=>simp
        omega
theorem chain_len {len n:Nat} {a:List Nat} (h:chainFit len a n):a.length≤n+1:=by
  obtain⟨_,B,_⟩:=h
  have A:=(rooms_ge a 0 0 0).2
  by_cases ha:a=[]
  · subst ha;simp
  have:=A ha;omega
theorem chain_mono {len len' n:Nat} {a:List Nat} (h:chainFit len a n) (hl:len≤len'):chainFit len' a n :=
  ⟨fun k x hx=>ly (h.1 k x hx) hl,h.2⟩
theorem chain_nil (len:Nat):chainFit len [] 0:=⟨by simp,by simp[roomsL],by simp[roomsL]⟩
structure LinkOk (m m':Mk) (a:List Nat) (n:Nat):Prop where
  ge:m.b.length≤m'.b.length
  le:m'.b.length≤m.b.length+2100
  c:m'.c=m.c
  datas:m'.datas=m.datas
  fields:m'.fields=m.fields
  main:m'.main=m.main
  chain:chainFit m'.b.length a (n+1)
  ne:a≠[]
  n8:m'.h.n.getD 8 0=m.h.n.getD 8 0
  n2:m'.h.n.getD 2 0=m.h.n.getD 2 0
  n4:m'.h.n.getD 4 0=m.h.n.getD 4 0
theorem link_ok (m:Mk) (arrays:List Nat) (n src item:Nat) (h:chainFit m.b.length arrays n):LinkOk m (m.link arrays n src item).2.2 (m.link arrays n src item).1 n:=by
  obtain⟨R,S,T⟩:=h
  unfold Mk.link
  have F:=fun p=>rooms_app arrays p 0 0 0
  rcases hq:roomsL arrays 0 0 0 with⟨A,B⟩
  rw[hq]at S T F
  simp only at S T F ⊢
  rw[Nat.zero_add]at F
  split
  · rename_i hn
    have G:=object_spec m (putArrayF {next:=0,items:=List.replicate (roomF (arrays.length:Int)) 0})
    have Q:=object_same m (putArrayF {next:=0,items:=List.replicate (roomF (arrays.length:Int)) 0})
    have o:(m.object (putArrayF {next:=0,items:=List.replicate (roomF (arrays.length:Int)) 0})).2.h.n.getD 8 0=m.h.n.getD 8 0:=by
      simp only[Mk.object,Mk.setN];rw[getD_set_ne' (by decide),getD_set_ne' (by decide)]
    rw[putArrayF_len]at G
    simp only[List.length_replicate]at G
    generalize m.object (putArrayF {next:=0,items:=List.replicate (roomF (arrays.length:Int)) 0})=r at *
    obtain⟨p,C⟩:=r
    simp only at G Q o ⊢
    obtain⟨w,y,z,a4,a5,a6,a7,a8⟩:=G
    obtain⟨U,V,W,X⟩:=Q
    have O:=roomF_le (arrays.length:Int)
    have H:=roomF_ge (k:=(arrays.length:Int)) (by omega)
    generalize hx2:C.setN 18 ((C.num 18+1)%18446744073709551616)=m29
    have u:m29.b=C.b∧m29.c=C.c∧m29.datas=C.datas∧m29.fields=C.fields∧m29.main=C.main:=by subst hx2;exact setN_same _ _ _
    have t8:m29.h.n.getD 8 0=C.h.n.getD 8 0:=by subst hx2;exact num_setN (by decide)
    have t2:m29.h.n.getD 2 0=C.h.n.getD 2 0:=by subst hx2;exact num_setN (by decide)
    have t4:m29.h.n.getD 4 0=C.h.n.getD 4 0:=by subst hx2;exact num_setN (by decide)
    clear hx2
    generalize hx3:(if arrays.length=0 then m29.put src p else m29.put (lastN arrays+16) p)=m3
    have v:m3.b.length=m29.b.length∧m3.c=m29.c∧m3.datas=m29.datas∧m3.fields=m29.fields∧m3.main=m29.main∧m3.h=m29.h:=by
      subst hx3
      split
      · exact⟨put_len _ _ _,q,q,q,q,q⟩
      · exact⟨put_len _ _ _,q,q,q,q,q⟩
    clear hx3
    have t:=put_len m3 (lastN (arrays ++ [p])+24+8*(n-B)) item
    have P:=put_same m3 (lastN (arrays ++ [p])+24+8*(n-B)) item
    generalize m3.put (lastN (arrays ++ [p])+24+8*(n-B)) item=m4 at *
    obtain⟨Y,Z,d,e,f⟩:=u
    obtain⟨d1,g,i,j,l,I⟩:=v
    obtain⟨J,K,L,M,E,_⟩:=P
    have l2:=congrArg List.length Y
    have ll:m4.b.length=m.b.length+(16+(8+8*roomF (arrays.length:Int))+7)/8*8:=by omega
    refine⟨by omega,by omega,by rw[J,g,Z,U],by rw[K,i,d,V],by rw[L,j,e,W],by rw[M,l,f,X],⟨fun k x D=>?_,?_,?_⟩,by simp,by rw[E,I];omega,by rw[E,I];omega,by rw[E,I];omega⟩
    · rcases Nat.lt_or_ge k arrays.length with hk|hk
      · rw[List.getElem?_append_left hk]at D
        have:=R k x D;omega
      have N:=(List.getElem?_eq_some_iff.1 D).1
      simp at N
      have:k=arrays.length:=by omega
      subst this
      rw[List.getElem?_append_right (Nat.le_refl _)]at D
      simp at D
      subst D
      omega
    · rw[F];simp only;omega
    rw[F];simp only;omega
  rename_i hn
  have t:=put_len m (lastN arrays+24+8*(n-A)) item
  have P:=put_same m (lastN arrays+24+8*(n-A)) item
  generalize m.put (lastN arrays+24+8*(n-A)) item=m4 at *
  obtain⟨J,K,L,M,E,_⟩:=P
  show LinkOk m m4 arrays n
  refine⟨by omega,by omega,J,K,L,M,⟨fun k x D=>by have:=R k x D;omega,by rw[hq];simp only;omega,by rw[hq];simp only;omega⟩,?_,by rw[E],by rw[E],by rw[E]⟩
  rintro rfl
  simp[roomsL]at hq
  omega
def Mk.n8 (m:Mk):Nat:=m.h.n.getD 8 0
def chainsOk (m:Mk) (most:Nat):Prop:=∀k∈m.datas,chainFit m.b.length k.arrays (k.count-1)∧(k.count=0→k.arrays=[])∧k.text.length≤400∧k.count≤most
structure MkOk (m:Mk):Prop where
  fit:m.fit
  main:chainFit m.b.length m.main m.n8
  chains:chainsOk m (16*m.n8)
  nd:m.datas.length≤16*m.n8
  nf:m.fields.length≤16*m.n8
  nb:64*m.n8≤m.b.length
  small:m.b.length≤40000
  most:m.c.most≤40000
  hd:272≤m.b.length
structure AppOk (m0 m:Mk) (d e:Nat) (j:Nat):Prop where
  fit:m.fit
  c:m.c=m0.c
  n8:m.n8=m0.n8
  chains:chainsOk m (16*m0.n8+j)
  nd:m.datas.length≤m0.datas.length+d
  nf:m.fields.length≤m0.fields.length+d
  ge:m0.b.length≤m.b.length
  le:m.b.length≤m0.b.length+e
theorem app_start {m:Mk} (h:MkOk m):AppOk m m 0 0 0:=⟨h.fit,q,q,h.chains,Nat.le_refl _,Nat.le_refl _,Nat.le_refl _,Nat.le_refl _⟩
theorem data_text {m:Mk} {x:Pr} (y:Known) (h:y∈(m.data x).2.datas):y∈m.datas∨y.text=payload x:=by
  unfold Mk.data at h
  split at h
  · exact .inl h
  simp only at h
  have F:=object_same m (putDataF {hash:=hashN m.c.keyed m.c.file (payload x),nextHash:=0,nextField:=0,entry:=0,array:=0,count:=0,payload:=payload x})
  generalize m.object (putDataF {hash:=hashN m.c.keyed m.c.file (payload x),nextHash:=0,nextField:=0,entry:=0,array:=0,count:=0,payload:=payload x})=r at *
  obtain⟨p,B⟩:=r
  simp only at h F
  have G:=hang_same B B.datas (B.num 2) p (hashN m.c.keyed m.c.file (payload x)%B.c.dataSlots)
  generalize B.hang B.datas (B.num 2) p (hashN m.c.keyed m.c.file (payload x)%B.c.dataSlots)=r at *
  obtain⟨n,C⟩:=r
  simp only at h G
  generalize hx5:({(C.setN 19 (max (C.num 19) n)).setN 15 (((C.setN 19 (max (C.num 19) n)).num 15+1)%18446744073709551616)with datas:=((C.setN 19 (max (C.num 19) n)).setN 15 (((C.setN 19 (max (C.num 19) n)).num 15+1)%18446744073709551616)).datas ++ [({text:=payload x,pos:=p,slot:=hashN m.c.keyed m.c.file (payload x)%B.c.dataSlots,count:=0,arrays:=[]}:Known)]}:Mk)=m5 at h
  have I:m5.datas=C.datas ++ [({text:=payload x,pos:=p,slot:=hashN m.c.keyed m.c.file (payload x)%B.c.dataSlots,count:=0,arrays:=[]}:Known)]:=by subst hx5;rfl
  clear hx5
  have H:(m5.field x.name).2.datas=m5.datas:=by
    unfold Mk.field
    split
    · rfl
    · simp only
      have D:=object_same m5 (putFieldF {hash:=hashN m5.c.keyed m5.c.file x.name,nextHash:=0,dat:=0,payload:=x.name})
      generalize m5.object (putFieldF {hash:=hashN m5.c.keyed m5.c.file x.name,nextHash:=0,dat:=0,payload:=x.name})=r at *
      obtain⟨q,A⟩:=r
      simp only at D ⊢
      have E:=hang_same A A.fields (A.num 4) q (hashN m5.c.keyed m5.c.file x.name%A.c.fieldSlots)
      generalize A.hang A.fields (A.num 4) q (hashN m5.c.keyed m5.c.file x.name%A.c.fieldSlots)=r at *
      obtain⟨M,L⟩:=r
      simp only at E ⊢
      show L.datas=m5.datas
      rw[E.2.1,D.2.1]
  generalize m5.field x.name=r at *
  obtain⟨k,A⟩:=r
  simp only at h H
  have J:=(put_same A (p+32) (getF A.b (k+32:Nat) 8).1).2.1
  have K:=(put_same (A.put (p+32) (getF A.b (k+32:Nat) 8).1) (k+32) p).2.1
  rw[K,J,H,I,List.mem_append,List.mem_singleton,G.2.1,F.2.1]at h
  rcases h with h|rfl
  · exact .inl h
  exact .inr rfl
theorem app_data {m0 m:Mk} {d e j:Nat} {x:Pr} (h:AppOk m0 m d e j) (hx:x.name.length≤64∧x.value.length≤256):AppOk m0 (m.data x).2 (d+1) (e+900) j∧(m.data x).1<(m.data x).2.datas.length∧(m.data x).2.main=m.main:=by
  have g:=data_ok m x h.fit
  have G:=fun y=>data_text (m:=m) (x:=x) y
  have U:=payload_len x
  generalize m.data x=r at *
  obtain⟨k,H⟩:=r
  simp only at g G ⊢
  have D:=g.ge;have I:=g.le;have O:=h.ge;have P:=h.le;have Q:=h.nd;have R:=h.nf;have S:=g.fl
  have T:H.datas.length≤m.datas.length+1:=by
    rcases g.pre with e|⟨x,e,_⟩ <;> rw[e] <;> simp
  refine⟨⟨g.fit,g.c.trans h.c,(show H.h.n.getD 8 0=m0.n8 from g.n8.trans h.n8),fun y A=>?_,by omega,by omega,by omega,by omega⟩,g.lt,g.main⟩
  have F:y∈m.datas∨(y.count=0∧y.arrays=[]):=by
    rcases g.pre with e|⟨x,e,C,B,_⟩
    · rw[e]at A;exact .inl A
    · rw[e,List.mem_append,List.mem_singleton]at A
      rcases A with A|rfl
      · exact .inl A
      · exact .inr ⟨C,B⟩
  rcases F with E|⟨C,B⟩
  · obtain⟨K,L,M,N⟩:=h.chains y E
    exact⟨chain_mono K D,L,M,N⟩
  refine⟨by rw[C,B];exact chain_nil _,fun _=>B,?_,by omega⟩
  rcases G y A with E|J
  · exact(h.chains y E).2.2.1
  rw[J];omega
theorem app_of {m0 m m':Mk} {d e e' j j':Nat} (h:AppOk m0 m d e j) (hc:m'.c=m.c) (h8:m'.n8=m.n8) (h2:m'.h.n.getD 2 0=m.h.n.getD 2 0) (h4:m'.h.n.getD 4 0=m.h.n.getD 4 0) (hd:m'.datas=m.datas) (hf:m'.fields=m.fields)
    (hg:m.b.length≤m'.b.length) (hl:m'.b.length≤m.b.length+e') (hj:j≤j'):AppOk m0 m' d (e+e') j':=by
  have:=h.ge;have:=h.le
  refine⟨fit_mono h.fit ⟨by rw[hc],by rw[hc],h2,h4,hg⟩ (fun k hk=>.inl (hd ▸ hk)) (fun k hk=>.inl (hf ▸ hk)),hc.trans h.c,h8.trans h.n8,fun k hk=>?_,by rw[hd];exact h.nd,by rw[hf];exact h.nf,by omega,by omega⟩
  rw[hd]at hk
  obtain⟨A,B,C,D⟩:=h.chains k hk
  exact⟨chain_mono A hg,B,C,by omega⟩
theorem app_object {m0 m:Mk} {d e j L:Nat} {o:Ly} (h:AppOk m0 m d e j) (ho:o.length≤L):AppOk m0 (m.object o).2 d (e+L) j:=by
  have A:=object_spec m o
  have B:=object_same m o
  have C:(m.object o).2.h.n.getD 8 0=m.h.n.getD 8 0:=by simp only[Mk.object,Mk.setN];rw[getD_set_ne' (by decide),getD_set_ne' (by decide)]
  exact app_of h B.1 C A.2.2.2.2.2.2.1 A.2.2.2.2.2.2.2 B.2.1 B.2.2.1 (by rw[A.2.1];omega) (by rw[A.2.1];omega) (Nat.le_refl _)
theorem app_put {m0 m:Mk} {d e j:Nat} (p v:Nat) (h:AppOk m0 m d e j):AppOk m0 (m.put p v) d e j :=
  app_of (e':=0) h q q q q q q (by rw[put_len];exact Nat.le_refl _) (by rw[put_len];exact Nat.le_refl _) (Nat.le_refl _)
theorem app_link {m0 m:Mk} {d e j n src item:Nat} {arrays:List Nat} (h:AppOk m0 m d e j) (hc:chainFit m.b.length arrays n):AppOk m0 (m.link arrays n src item).2.2 d (e+2100) j:=by
  have g:=link_ok m arrays n src item hc
  exact app_of h g.c g.n8 g.n2 g.n4 g.datas g.fields g.ge g.le (Nat.le_refl _)
theorem app_set {m0 m:Mk} {d e j i:Nat} {k:Known} (h:AppOk m0 m d e j) (hi:i<m.datas.length) (hp:k.pos=(m.datas.getD i known0).pos) (ht:k.text=(m.datas.getD i known0).text)
    (hk:chainFit m.b.length k.arrays (k.count-1)∧(k.count=0→k.arrays=[])∧k.count≤16*m0.n8+(j+1)):AppOk m0 {m with datas:=m.datas.set i k} d e (j+1):=by
  have C:m.datas[i]? = some (m.datas.getD i known0):=by simp[List.getD,hi]
  have B:=List.mem_of_getElem? C
  refine⟨fit_mono h.fit ⟨q,q,q,q,Nat.le_refl _⟩ (fun y A=>?_) (fun y A=>.inl A),h.c,h.n8,fun y A=>?_,by simpa using h.nd,h.nf,h.ge,h.le⟩
  · rcases List.mem_or_eq_of_mem_set A with A|rfl
    · exact .inl A
    right;have:=h.fit.2.2.2.2.2.2.1 _ B;simp only;omega
  rcases List.mem_or_eq_of_mem_set A with A|rfl
  · obtain⟨D,E,F,G⟩:=h.chains y A;exact⟨D,E,F,by omega⟩
  exact⟨hk.1,hk.2.1,by rw[ht];exact(h.chains _ B).2.2.1,hk.2.2⟩
def hang1 (e:Nat) (i:Nat) (m:Mk):Mk :=
  let k:=m.datas.getD i known0
  if k.count=0 then
    let m29:=(m.put (k.pos+40) e).put (k.pos+56) 1
    {m29 with datas:=m29.datas.set i {k with count:=1}}
  else
    match m.link k.arrays (k.count-1) (k.pos+48) e with
    | (a,_,m1) =>
      let m29:=m1.put (k.pos+56) (k.count+1)
      {m29 with datas:=m29.datas.set i {k with arrays:=a,count:=k.count+1}}
theorem hangE_cons (e i:Nat) (r:List Nat) (m:Mk):hangE e (i :: r) m=hangE e r (hang1 e i m):=by
  unfold hang1
  rw[hangE]
  simp only
  split
  · rfl
  rfl
theorem hang1_ok {m0 m:Mk} {d e j i en:Nat} (h:AppOk m0 m d e j) (hi:i<m.datas.length):AppOk m0 (hang1 en i m) d (e+2100) (j+1)∧(hang1 en i m).main=m.main∧(hang1 en i m).datas.length=m.datas.length:=by
  have K:m.datas[i]? = some (m.datas.getD i known0):=by simp[List.getD,hi]
  have M:=List.mem_of_getElem? K
  obtain⟨I,N,O,P⟩:=h.chains _ M
  unfold hang1
  simp only
  generalize hk:m.datas.getD i known0=k at *
  split
  · rename_i h0
    have g:=app_put (k.pos+56) 1 (app_put (k.pos+40) en h)
    have J:=put_same m (k.pos+40) en
    have D:=put_same (m.put (k.pos+40) en) (k.pos+56) 1
    have H:((m.put (k.pos+40) en).put (k.pos+56) 1).b.length=m.b.length:=by rw[put_len,put_len]
    generalize m.put (k.pos+40) en=C at *
    generalize C.put (k.pos+56) 1=m29 at *
    have B:m29.datas=m.datas:=D.2.1.trans J.2.1
    have A:=app_set (i:=i) (k:={k with count:=1}) g (by rw[B];exact hi) (by rw[B,hk]) (by rw[B,hk]) ⟨by simp only;rw[N h0];exact chain_nil _,fun F=>by simp at F,by simp only;omega⟩
    refine⟨⟨A.fit,A.c,A.n8,A.chains,A.nd,A.nf,A.ge,ly A.le (by omega)⟩,D.2.2.2.1.trans J.2.2.2.1,by simp[B]⟩
  rename_i h0
  have g:=app_link (src:=k.pos+48) (item:=en) h I
  have E:=link_ok m k.arrays (k.count-1) (k.pos+48) en I
  generalize m.link k.arrays (k.count-1) (k.pos+48) en=r at *
  obtain⟨a,Q,C⟩:=r
  simp only at g E ⊢
  have L:=app_put (k.pos+56) (k.count+1) g
  have D:=put_same C (k.pos+56) (k.count+1)
  have H:=put_len C (k.pos+56) (k.count+1)
  generalize C.put (k.pos+56) (k.count+1)=m29 at *
  have B:m29.datas=m.datas:=D.2.1.trans E.datas
  have G:=E.chain
  rw[show k.count-1+1=k.count by omega,← H]at G
  have A:=app_set (i:=i) (k:={k with arrays:=a,count:=k.count+1}) L (by rw[B];exact hi) (by rw[B,hk]) (by rw[B,hk]) ⟨G,fun F=>by simp at F,by simp only;omega⟩
  exact⟨A,D.2.2.2.1.trans E.main,by simp[B]⟩
theorem hangE_ok {m0:Mk} {d en:Nat}:∀(od:List Nat) (m:Mk) (e j:Nat),AppOk m0 m d e j→(∀i∈od,i<m.datas.length) →
    AppOk m0 (hangE en od m) d (e+2100*od.length) (j+od.length)∧(hangE en od m).main=m.main∧(hangE en od m).datas.length=m.datas.length
  | [],m,e,j,h,_=>⟨h,q,q⟩
  | i :: r,m,e,j,h,hi=>by
    obtain⟨h1,h2,h3⟩:=hang1_ok (en:=en) h (hi i (by simp))
    obtain⟨g1,g2,g3⟩:=hangE_ok r (hang1 en i m) (e+2100) (j+1) h1 fun x hx=>by rw[h3];exact hi x (by simp[hx])
    rw[hangE_cons]
    refine⟨?_,g2.trans h2,g3.trans h3⟩
    have e1:e+2100*(i :: r).length=e+2100+2100*r.length:=by simp;omega
    have A:j+(i :: r).length=j+1+r.length:=by simp;omega
    rw[e1,A];exact g1
def BD (q:Pr):Prop:=q.name.length≤64∧q.value.length≤256
theorem shift_bd:∀(n j:Nat) (o:List Pr),(∀q∈o,BD q)→∀q∈shiftF n j o,BD q
  | 0,_,_,h=>h
  | n+1,j,o,h=>by
    unfold shiftF
    refine shift_bd n (j-1) _ fun q hq=>?_
    rcases List.mem_or_eq_of_mem_set hq with hq|rfl
    · exact h q hq
    · rw[List.getD_eq_getElem?_getD]
      cases hg:o[j-1]? with
      | none=>exact⟨by simp,by simp⟩
      | some y=>exact h y (List.mem_of_getElem? hg)
theorem ins_bd {p:Pr} {o:List Pr} (hp:BD p) (h:∀q∈o,BD q):∀q∈insF p o,BD q:=by
  unfold insF
  simp only
  split
  · exact h
  intro q B
  rcases List.mem_or_eq_of_mem_set B with B|rfl
  · refine shift_bd _ _ _ (fun y A=>?_) q B
    rcases List.mem_append.1 A with A|A
    · exact h y A
    simp at A;subst A;exact⟨by simp,by simp⟩
  exact hp
theorem goL_bd:∀(l o:List Pr),(∀q∈o,BD q)→∀(x:List Pr) (c:Nat),goL l o=(x,c)→(∀q∈x,BD q)∧x.length≤16
  | [],o,ho,x,c,h=>by
    unfold goL at h
    split at h
    · obtain⟨rfl,_⟩:=Prod.mk.inj h;simp
    · obtain⟨rfl,_⟩:=Prod.mk.inj h;exact⟨ho,by omega⟩
  | p :: r,o,ho,x,c,h=>by
    unfold goL at h
    split at h
    · obtain⟨rfl,_⟩:=Prod.mk.inj h;simp
    · rename_i h1
      have hr:=joinF_right.1 (Classical.not_not.1 h1)
      simp only[right,Pr.pb,Bool.and_eq_true]at hr
      exact goL_bd r _ (ins_bd ⟨(name_len hr.1).2,dT hr.2⟩ ho) x c h
theorem listF_bd {l x:List Pr} {c:Nat} (h:listF l=(x,c)):(∀q∈x,BD q)∧x.length≤16:=by
  unfold listF at h
  split at h
  · obtain⟨rfl,_⟩:=Prod.mk.inj h;simp
  exact goL_bd l [] (by simp) x c h
theorem place_mem {ds:List Known} {k i:Nat} {od:List Nat} (h:i∈placeF ds k od):i=k∨i∈od:=by
  unfold placeF at h
  simp only[List.mem_append,List.mem_singleton]at h
  rcases h with(h|h)|h
  · exact .inr (List.mem_of_mem_take h)
  · exact .inl h
  exact .inr (List.mem_of_mem_drop h)
theorem backF_le (ds:List Known) (p:Nat) (od:List Nat):∀n,backF ds p od n≤n
  | 0=>Nat.le_refl _
  | n+1=>by
    unfold backF
    split
    · have:=backF_le ds p od n;omega
    · exact Nat.le_refl _
theorem place_len (ds:List Known) (k:Nat) (od:List Nat):(placeF ds k od).length=od.length+1:=by
  have:=backF_le ds (posAt ds k) od od.length
  unfold placeF;simp;omega
structure DatasOk (m0 m:Mk) (ps:List (List UInt8)) (od:List Nat) (n:Nat):Prop where
  app:AppOk m0 m n (900*n) 0
  main:m.main=m0.main
  idx:∀i∈od,i<m.datas.length
  len:od.length=n∧ps.length=n
  ps:∀t∈ps,t.length≤400
theorem datas_step {m0 m:Mk} {ps:List (List UInt8)} {od:List Nat} {n:Nat} {x:Pr} (h:DatasOk m0 m ps od n) (hx:BD x) :
    DatasOk m0 (m.data x).2 (ps ++ [((m.data x).2.datas.getD (m.data x).1 known0).text]) (placeF (m.data x).2.datas (m.data x).1 od) (n+1):=by
  obtain⟨C,D,F⟩:=app_data h.app hx
  have G:=data_ok m x h.app.fit
  refine⟨by rw[show 900*(n+1)=900*n+900 by omega];exact C,F.trans h.main,fun i B=>?_,⟨by rw[place_len,h.len.1],by simpa using h.len.2⟩,fun t A=>?_⟩
  · rcases place_mem B with rfl|B
    · exact D
    have:=h.idx i B
    have H:m.datas.length≤(m.data x).2.datas.length:=by
      rcases G.pre with e|⟨y,e,_⟩ <;> rw[e] <;> simp
    omega
  rcases List.mem_append.1 A with A|A
  · exact h.ps t A
  simp at A
  subst A
  have E:(m.data x).2.datas[(m.data x).1]? = some ((m.data x).2.datas.getD (m.data x).1 known0):=by simp[List.getD,D]
  exact(C.chains _ (List.mem_of_getElem? E)).2.2.1
theorem datasL_ok {m0:Mk}:∀(l:List Pr) (m:Mk) (ps:List (List UInt8)) (od:List Nat) (n:Nat),DatasOk m0 m ps od n→(∀q∈l,BD q) →
    DatasOk m0 (datasL l m ps od).2.2 (datasL l m ps od).1 (datasL l m ps od).2.1 (n+l.length)
  | [],m,ps,od,n,h,_=>h
  | x :: r,m,ps,od,n,h,hb=>by
    have h1:=datas_step h (hb x (by simp))
    have h2:=datasL_ok r _ _ _ _ h1 fun q hq=>hb q (by simp[hq])
    rw[show n+(x :: r).length=n+1+r.length by simp;omega]
    exact h2
theorem datas_start {m:Mk} (h:MkOk m):DatasOk m m [] [] 0:=⟨app_start h,q,by simp,⟨q,q⟩,by simp⟩
end Go.Wk
namespace Go.Wk
open Go Go.RowKit
section
variable {P:Program} {ops:Array Oper} {md:Region.Mode} {C:World→Prop} {Q:Exit→Act→World→Prop} {QN:Act→World→Prop}
variable {n:Nat} {A:Fr n} {D:List Deferred} {l:List (Nat × Value)} {w:World} {f:Nat} {listed:Array Bool}
theorem c_anyR {R:Act→World→Prop} {id:Nat} {lo:List Oper} {a:Act} (C:World→Prop) (hm:P.follows .mixedOrders=true) (hk:∀a' w',R a' w'→Q .normal a' w')
  (h:∀w',Md [] w w'→wpAnyC P .any lo.toArray C R lo.length (Array.replicate lo.length false) a w'):(Code.region id lo.toArray true).wp P Q a w:=by
 refine wp_region_any hm (wpAny_of_C (C:=C) (QN:=R) hk _ _ _ _ ?_)
 have:=h _ (Md.drew w)
 simpa using this
theorem any_0 {a:Act} (hr:(Region.ready md ops listed).isEmpty=true) (h:QN a w):wpAnyC P md ops C QN 0 listed a w:=⟨by simpa using hr,h⟩
theorem any_q {i d:Nat} {op:Op} {ty:TypeId} {ps:String} {af:Array Edge} (v:Value) (hi:ops[i]? = some ⟨some d,op,ty,ps,af,none⟩) (hs:Region.noSelect ops=true) (hB:((Region.ready md ops listed).contains i && Region.free md ops listed i)=true) (hC:C w)
    (hv:∀w',C w'→RunV P ⟨some d,op,ty,ps,af,none⟩ (over A D l).eval w' v) (k:wpAnyC P md ops C QN f (listed.setIfInBounds i true) (over A D ((d,v) :: l)) w):wpAnyC P md ops C QN (f+1) listed (over A D l) w:=by
  simp only[Bool.and_eq_true]at hB
  exact wpAnyC_first hi (Region.noSelect_spec hs) f listed _ w (Region.free_spec hi hB.2) (by simpa using hB.1) hC (.inl ⟨by simp[Region.wanted],fun w' B=>hv w' B⟩) k
theorem opC_of {i:Nat} {o:Oper} {a:Act} {K:Act→World→Prop} (hi:ops[i]? = some o) (hg:o.guard=none) (h:wpList P ops (fun e a' w'=>e = .normal∧C w'∧K a' w') [o] a w):opC P ops C i K a w:=by
  have D:Region.wanted o (yielded ops a.tmps)=true:=by unfold Region.wanted;rw[hg]
  unfold opC
  simp only[hi]
  rw[if_pos D]
  unfold wpList at h
  rw[if_pos D]at h
  rcases h with h|h
  · unfold Oper.wp at *
    generalize (execOp a.eval o).run P w=r at *
    cases r with
    | ok x w' =>
      cases x <;> simp only[Oper.upon]at h ⊢
      case value v=>exact(show _∧_ from h).2
      case skip=>exact(show _∧_ from h).2
      case defer d=>exact(show _∧_ from h).2
      case enter f args =>
        refine h.mono fun e B A=>?_
        cases e with
        | returned v=>exact(show _∧_ from A).2
        | panicked c=>exact absurd A.1 (by simp)
        | outgrown=>obtain⟨_,_,A⟩:=A;exact absurd A.1 (by simp)
      case row r args=>exact h.mono fun v B A=>(show _∧_ from A).2
    | halt x w' =>
      cases x <;> simp only[Oper.upon]at h ⊢
      exact absurd h.1 (by simp)
  obtain⟨_,_,_,A⟩:=h;exact absurd A.1 (by simp)
theorem any_1 {i:Nat} {o:Oper} {a:Act} (hr:decide (Region.ready md ops listed=[i])=true) (hi:ops[i]? = some o) (hg:o.guard=none)
    (h:wpList P ops (fun e a' w'=>e = .normal∧C w'∧wpAnyC P md ops C QN f (listed.setIfInBounds i true) a' w') [o] a w):wpAnyC P md ops C QN (f+1) listed a w:=by
  have hr:=dT hr
  refine⟨fun A=>(by rw[hr]at A;cases A),fun k hk=>?_⟩
  rw[hr]at hk
  have:k=i:=by simpa using hk
  subst this
  exact opC_of hi hg h
theorem any_2 {i j:Nat} {o o':Oper} {a:Act} (hr:decide (Region.ready md ops listed=[i,j])=true) (hi:ops[i]? = some o) (hg:o.guard=none) (hj:ops[j]? = some o') (hg':o'.guard=none)
    (h:wpList P ops (fun e a' w'=>e = .normal∧C w'∧wpAnyC P md ops C QN f (listed.setIfInBounds i true) a' w') [o] a w)
    (h':wpList P ops (fun e a' w'=>e = .normal∧C w'∧wpAnyC P md ops C QN f (listed.setIfInBounds j true) a' w') [o'] a w):wpAnyC P md ops C QN (f+1) listed a w:=by
  have hr:=dT hr
  refine⟨fun A=>(by rw[hr]at A;cases A),fun k hk=>?_⟩
  rw[hr]at hk
  have:k=i∨k=j:=by simpa using hk
  rcases this with rfl|rfl
  · exact opC_of hi hg h
  exact opC_of hj hg' h'
end
theorem els_any {β:Type} {f:β→Value} {h1:∀x,(f x).oneCell'=true} {ok:β→Prop} {w w':World} {R R':Nat→Prop}:∀{xs:List β} {cs:List Value},Els (tOne f h1 ok) w R cs xs→Els (tOne f h1 ok) w' R' cs xs
 | [],_,h=>h
 | _ :: _,_,⟨c,r,h0,h1,h2⟩=>⟨c,r,h0,h1,els_any h2⟩
theorem lz_any {β:Type} {f:β→Value} {h1:∀x,(f x).oneCell'=true} {ok:β→Prop} {w w':World} {R R':Nat→Prop} {v:Value} {xs:List β} (h:Lz (tOne f h1 ok) w R v xs) (m:Md [] w w'):Lz (tOne f h1 ok) w' R' v xs:=by
 obtain⟨a,A,B,C,h1,D,E,F,G⟩:=h
 exact⟨a,A,B,C,h1,D,E,fun p I j u H=>m.cell (F p I j u H) (by simp),els_any G⟩
theorem lz_one {β:Type} {f:β→Value} {h1:∀x,(f x).oneCell'=true} {ok:β→Prop} {w:World} {R:Nat→Prop} {b e:Nat} {x:β} (h:Blk w b [f x] e) (hx:ok x):Lz (tOne f h1 ok) w R (.slice (some ⟨b,0,none⟩) 1 1) [x]:=by
  have B:Ls (tOne f h1 ok) w (fun _=>True) (.slice (some ⟨b,0,none⟩) 1 1) [x]:=Ls.of_blk (cs:=[f x]) h ⟨[f x],[],q,⟨q,hx⟩,q⟩ q (by decide) trivial
  exact lz_any B.lz (Md.refl _ _)
structure New1 {α:Type} (T:Dt α) (w0:World) (Q0:Nat→Prop) (e:TypeId) (w:World) (R:Nat→Prop) (v:Value) (xs:List α):Prop where
  md:Md [] w0 w
  s:∀b,Q0 b→b<w0.heap.size→R b
  t:∀b,R b→Q0 b
  up:Up w R
  ow:Ow T e (Fsh [] w0) w R v xs
section
variable {α:Type} {T:Dt α} {P:Program} {ops:Array Oper} {Q:Exit→Act→World→Prop} {n:Nat} {A:Fr n} {D:List Deferred} {l:List (Nat × Value)} {w:World} {rest:List Oper}
theorem New1.mk0 {w0 w1 w:World} {Q0:Nat→Prop} {e b:Nat} (uQ:Up w0 Q0) (h1:Md [] w0 w1) (h2:w1.heap.size≤b) (h3:b<w.heap.size) (hm:Md [] w1 w) (hB:Blk w b [] e) :
    ∃R,New1 T w0 Q0 e w R (.slice (some ⟨b,0,none⟩) 0 0) []:=by
  obtain⟨R,s,t,C,u⟩:=exQ (uQ.md h1) h2 h3 hm
  exact⟨R,h1.k hm,fun b A B=>s b A (lj B h1.size),t,u,Ow.of_blk hB q q (by decide) (.inr (ly h1.size h2)) C⟩
theorem New1.o {w0 w w':World} {Q0 R:Nat→Prop} {e:TypeId} {v:Value} {xs:List α} (h:New1 T w0 Q0 e w R v xs) (m:Md [] w w'):New1 T w0 Q0 e w' R v xs :=
  ⟨h.md.k m,h.s,h.t,h.up.md m,h.ow.o m⟩
instance tpNew1 {w0 w w':World} {Q0 R:Nat→Prop} {e:TypeId} {v:Value} {xs:List α}:Tp w w' (New1 T w0 Q0 e w R v xs) (New1 T w0 Q0 e w' R v xs ):=⟨fun m h=>h.o m⟩
theorem st_apF {d:Nat} {x y:Operand} {ty:TypeId} {ps:String} {af:Array Edge} {t e:TypeId} {sz by':Nat} {v u:Value} {xs ys:List α} {w0:World} {Q0 R:Nat→Prop} (hn:T.n=sz) (ht:P.underlying t=some (.slice e)) (hE:elT P e sz by'=true) (hx:ev n l x=some v) (hy:ev n l y=some u)
    (F:New1 T w0 Q0 e w R v xs) (hY:Lz T w R u ys) (h63:xs.length+ys.length≤100000) (hb:by'≤1000)
    (k:∀v' w' R',New1 T w0 Q0 e w' R' v' (xs ++ ys)→Md (vblock v).toList w w'→wpList P ops Q rest (over A D ((d,v') :: l)) w') :
    wpList P ops Q (⟨some d,.call {callee:=.builtin .append,args:=#[x,y],argTypes:=#[t,t]},ty,ps,af,none⟩ :: rest) (over A D l) w:=by
  refine st_apZ hn ht hE hx hy F.ow hY F.up (fun b hb=>.inr (ly F.md.size hb)) (by omega) ?_ ?_
  · exact ly (Nat.mul_le_mul h63 hb) (by decide)
  intro v' w' R' E G H I B J K L
  refine k v' w' R' ⟨F.md.stepO B fun b hb=>(F.ow.2 b hb).1,fun b hb C=>E b (F.s b hb C) (lj C F.md.size),fun b hb=>F.t b (G b hb),H,I⟩ B
end
theorem back1 {ds:List Known} {p q:Nat} {od:List Nat} (h:0<q):backF ds p od q=if p<posAt ds (od.getD (q-1) 0)then backF ds p od (q-1)else q:=by
  obtain⟨n,rfl⟩:∃n,q=n+1:=⟨q-1,by omega⟩
  rfl
theorem back0 {ds:List Known} {p q:Nat} {od:List Nat} (h:¬0<q):backF ds p od q=q:=by
  obtain rfl:q=0:=by omega
  rfl
theorem posAt_get {ds:List Known} {i:Nat} {x:Known} (h:ds[i]? = some x):posAt ds i=x.pos:=by simp[posAt,List.getD,h]
theorem natD_get {l:List Nat} {i x:Nat} (h:l[i]? = some x):l.getD i 0=x:=by simp[List.getD,h]
theorem known_get {ds:List Known} {i:Nat} {x:Known} (h:ds[i]? = some x):ds.getD i known0=x:=by simp[List.getD,h]
theorem data_mono (m:Mk) (x:Pr) (h:m.fit):m.datas.length≤(m.data x).2.datas.length:=by
  rcases(data_ok m x h).pre with e|⟨y,e,_⟩ <;> rw[e] <;> simp
theorem datasL_end {l:List Pr} {m:Mk} {ps:List (List UInt8)} {od:List Nat} {i:Nat} (h:¬i<l.length):datasL (l.drop i) m ps od=(ps,od,m):=by rw[drop_end (by omega)];rfl
theorem datasL_step {l:List Pr} {m m':Mk} {ps:List (List UInt8)} {od:List Nat} {i k:Nat} {x:Pr} {y:Known} {q:Nat} (h:l[i]? = some x) (hd:m.data x=(k,m')) (hy:m'.datas[k]? = some y) (hq:backF m'.datas (posAt m'.datas k) od od.length=q) :
    datasL (l.drop i) m ps od=datasL (l.drop (i+1)) m' (ps ++ [y.text]) (od.take q ++ [k] ++ od.drop q):=by
  rw[drop_get h]
  show(match m.data x with|(k,m1)=>datasL (l.drop (i+1)) m1 (ps ++ [(m1.datas.getD k known0).text]) (placeF m1.datas k od))=_
  rw[hd]
  simp only[known_get hy]
  unfold placeF
  rw[hq]
theorem datas_next {m0 m m':Mk} {ps:List (List UInt8)} {od:List Nat} {n k q:Nat} {x:Pr} {y:Known} (h:DatasOk m0 m ps od n) (hx:BD x) (hd:m.data x=(k,m')) (hy:m'.datas[k]? = some y) (hq:backF m'.datas (posAt m'.datas k) od od.length=q) :
    DatasOk m0 m' (ps ++ [y.text]) (od.take q ++ [k] ++ od.drop q) (n+1):=by
  have:=datas_step h hx
  rw[hd]at this
  simp only[known_get hy]at this
  unfold placeF at this
  rw[hq]at this
  exact this
theorem itemsL_end {m:Mk} {od:List Nat} {j:Nat} {its:List Itm} (h:¬j<od.length):its ++ itemsL m (od.drop j)=its:=by rw[drop_end (by omega)];simp[itemsL]
theorem itemsL_step {m:Mk} {od:List Nat} {j i:Nat} {its:List Itm} {x:Known} (h:od[j]? = some i) (hx:m.datas[i]? = some x) :
    its ++ itemsL m (od.drop j)=(its ++ [{pos:=x.pos,hash:=hashN m.c.keyed m.c.file x.text}]) ++ itemsL m (od.drop (j+1)):=by
  rw[drop_get h]
  simp only[itemsL,List.map_cons,posAt_get hx,known_get hx,List.append_assoc,List.singleton_append]
theorem hangE_end {m:Mk} {od:List Nat} {j e:Nat} (h:¬j<od.length):hangE e (od.drop j) m=m:=by rw[drop_end (by omega)];rfl
theorem hangE_step {m:Mk} {od:List Nat} {j i e:Nat} (h:od[j]? = some i):hangE e (od.drop j) m=hangE e (od.drop (j+1)) (hang1 e i m):=by rw[drop_get h,hangE_cons]
theorem app_le {m0 m:Mk} {d e e' j:Nat} (h:AppOk m0 m d e j) (he:e≤e'):AppOk m0 m d e' j:=⟨h.fit,h.c,h.n8,h.chains,h.nd,h.nf,h.ge,ly h.le (by omega)⟩
theorem hang1_a {m:Mk} {e i:Nat} {k:Known} (hk:m.datas[i]? = some k) (h0:k.count=0) :
    hang1 e i m={(m.put (k.pos+40) e).put (k.pos+56) 1 with datas:=m.datas.set i {k with count:=1}}:=by
  unfold hang1
  simp only[known_get hk]
  rw[if_pos h0]
  rfl
theorem hang1_b {m m1:Mk} {e i t:Nat} {a:List Nat} {k:Known} (hk:m.datas[i]? = some k) (h0:¬k.count=0) (hl:m.link k.arrays (k.count-1) (k.pos+48) e=(a,t,m1)) :
    hang1 e i m={m1.put (k.pos+56) (k.count+1)with datas:=m1.datas.set i {k with arrays:=a,count:=k.count+1}}:=by
  unfold hang1
  simp only[known_get hk]
  rw[if_neg h0,hl]
  rfl
theorem append_done {m x m29 m3 z:Mk} {raw l:List Pr} {c real mono e t:Nat} {boot:Ly} {ps:List (List UInt8)} {od a:List Nat} (h1:listF raw=(l,c)) (h2:¬c≠0) (h3:¬m.num 9=18446744073709551615) (h4:datasL l m [] []=(ps,od,x))
    (h5:x.object (putEntryF {seq:=(x.num 9+1)%18446744073709551616,real:=real,mono:=mono,boot:=boot,xor:=xorF 0 ps,items:=itemsL x od})=(e,m29)) (h6:m29.link m29.main (m29.num 8) 176 e=(a,t,m3))
    (h7:hangE e od (let m4:=({m3 with main:=a}:Mk).setN 11 (a.getD 0 0);{m4 with h:={m4.h with tailArray:=lastN a%4294967296,tailItems:=t%4294967296}})=z) :
    m.append raw real mono boot=if z.c.most<z.b.length then(0,15,m)else
      (let seq:=(x.num 9+1)%18446744073709551616
      let m7:=if m29.num 8=0 then(z.setN 10 seq).setN 12 real else z
      let m8:=m7.setN 8 ((m7.num 8+1)%18446744073709551616)
      let m9:=((m8.setN 9 seq).setN 13 real).setN 14 mono
      (seq,0,{m9 with h:={m9.h with boot:=boot,tailEntry:=e}})):=by
  unfold Mk.append
  simp only[h1]
  rw[if_neg h2,if_neg h3]
  simp only[h4,h5,h6]
  simp only at h7
  rw[h7]
end Go.Wk
namespace Go.Wk
open Go Go.RowKit
theorem getD_set_eq' {l:List Nat} {i v:Nat} (h:i<l.length):(l.set i v).getD i 0=v:=by simp[List.getD,h]
def finM (z:Mk) (n seq real mono e:Nat) (boot:Ly):Mk :=
  let m7:=if n=0 then(z.setN 10 seq).setN 12 real else z
  let m8:=m7.setN 8 ((m7.num 8+1)%18446744073709551616)
  let m9:=((m8.setN 9 seq).setN 13 real).setN 14 mono
  {m9 with h:={m9.h with boot:=boot,tailEntry:=e}}
theorem finM_spec (z:Mk) (n seq real mono e:Nat) (boot:Ly):(finM z n seq real mono e boot).b=z.b∧(finM z n seq real mono e boot).c=z.c∧(finM z n seq real mono e boot).datas=z.datas∧(finM z n seq real mono e boot).fields=z.fields∧(finM z n seq real mono e boot).main=z.main ∧
    (finM z n seq real mono e boot).h.n.getD 2 0=z.h.n.getD 2 0∧(finM z n seq real mono e boot).h.n.getD 4 0=z.h.n.getD 4 0∧(finM z n seq real mono e boot).h.n.length=z.h.n.length ∧
    (z.h.n.length=20→(finM z n seq real mono e boot).n8=(z.n8+1)%18446744073709551616∧(finM z n seq real mono e boot).num 9=seq):=by
  unfold finM
  simp only
  generalize hm7:(if n=0 then(z.setN 10 seq).setN 12 real else z)=m7
  have A:m7.b=z.b∧m7.c=z.c∧m7.datas=z.datas∧m7.fields=z.fields∧m7.main=z.main∧m7.h.n.getD 8 0=z.h.n.getD 8 0∧m7.h.n.getD 2 0=z.h.n.getD 2 0∧m7.h.n.getD 4 0=z.h.n.getD 4 0∧m7.h.n.length=z.h.n.length:=by
    subst hm7
    split
    · exact⟨q,q,q,q,q,(getD_set_ne' (by decide)).trans (getD_set_ne' (by decide)),(getD_set_ne' (by decide)).trans (getD_set_ne' (by decide)),(getD_set_ne' (by decide)).trans (getD_set_ne' (by decide)),by simp[Mk.setN]⟩
    · exact⟨q,q,q,q,q,q,q,q,q⟩
  obtain⟨C,D,E,F,G,H,I,J,K⟩:=A
  clear hm7
  refine⟨C,D,E,F,G,?_,?_,?_,fun B=>⟨?_,?_⟩⟩
  · rw[← I]
    exact(getD_set_ne' (by decide)).trans ((getD_set_ne' (by decide)).trans ((getD_set_ne' (by decide)).trans (getD_set_ne' (by decide))))
  · rw[← J]
    exact(getD_set_ne' (by decide)).trans ((getD_set_ne' (by decide)).trans ((getD_set_ne' (by decide)).trans (getD_set_ne' (by decide))))
  · rw[← K];simp[Mk.setN]
  · have e:m7.num 8=z.n8:=H
    rw[e]
    exact(getD_set_ne' (by decide)).trans ((getD_set_ne' (by decide)).trans ((getD_set_ne' (by decide)).trans (getD_set_eq' (by omega))))
  exact(getD_set_ne' (by decide)).trans ((getD_set_ne' (by decide)).trans (getD_set_eq' (by simp[Mk.setN];omega)))
theorem append_ok {m:Mk} (h:MkOk m) {raw:List Pr} {real mono:Nat} {boot:Ly} (hb:boot.length=16) (h20:(m.append raw real mono boot).2.2.h.n.length=20):MkOk (m.append raw real mono boot).2.2:=by
  rcases hl:listF raw with⟨l,c⟩
  by_cases h2:c≠0
  · have e:m.append raw real mono boot=(0,c,m):=by unfold Mk.append;simp only[hl];rw[if_pos h2]
    rw[e];exact h
  by_cases h3:m.num 9=18446744073709551615
  · have e:m.append raw real mono boot=(0,1,m):=by unfold Mk.append;simp only[hl];rw[if_neg h2,if_pos h3]
    rw[e];exact h
  obtain⟨w,ll⟩:=listF_bd hl
  have D:=datasL_ok l m [] [] 0 (datas_start h) w
  rcases hd:datasL l m [] []with⟨ps,M,x⟩
  rw[hd,Nat.zero_add]at D
  simp only at D
  have s1:=h.small
  have s4:=h.nb
  have d1:=D.app.ge
  have d2:=D.app.le
  have d5:=D.len.1
  have Ad:=D.app.n8
  generalize hE:({seq:=(x.num 9+1)%18446744073709551616,real:=real,mono:=mono,boot:=boot,xor:=xorF 0 ps,items:=itemsL x M}:Ent)=E
  have eb:E.boot.length=16:=by subst hE;exact hb
  have ei:E.items.length=M.length:=by subst hE;simp[itemsL]
  have el:=putEntryF_len E eb
  have C:=app_object (L:=400) (o:=putEntryF E) D.app (by omega)
  have d:=(object_spec x (putEntryF E)).2.1
  have S:=(object_same x (putEntryF E)).2.2.2
  have O:=(object_same x (putEntryF E)).2.1
  rcases ho:x.object (putEntryF E)with⟨e,B⟩
  rw[ho]at C d S O
  simp only at C d S O
  have N:B.h.n.getD 8 0=m.n8:=C.n8
  have Z:chainFit B.b.length B.main (B.num 8):=by
    rw[show B.num 8=m.n8 from N,S,D.main];exact chain_mono h.main C.ge
  have K:=link_ok B B.main (B.num 8) 176 e Z
  have G:=app_link (src:=176) (item:=e) C Z
  rcases hk:B.link B.main (B.num 8) 176 e with⟨a,t,P⟩
  rw[hk]at K G
  simp only at K G
  generalize hY:(let m4:=({P with main:=a}:Mk).setN 11 (a.getD 0 0);({m4 with h:={m4.h with tailArray:=lastN a%4294967296,tailItems:=t%4294967296}}:Mk))=Y
  have F:AppOk m Y l.length (900*l.length+400+2100+0) 0:=by
    subst hY
    exact app_of (e':=0) G q (getD_set_ne' (by decide)) (getD_set_ne' (by decide)) (getD_set_ne' (by decide)) q q (Nat.le_refl _) (Nat.le_refl _) (Nat.le_refl _)
  have u:Y.b=P.b:=by subst hY;rfl
  have X:Y.datas=P.datas:=by subst hY;rfl
  have v:Y.main=a:=by subst hY;rfl
  obtain⟨A,zm,zd⟩:=hangE_ok (en:=e) M Y _ _ F (fun i T=>by rw[X,K.datas,O];exact D.idx i T)
  have y8:Y.n8=m.n8:=F.n8
  have Q:=(hangE_ok (en:=e) M Y 0 0 ⟨F.fit,q,q,by rw[y8];exact F.chains,Nat.le_add_right _ 0,Nat.le_add_right _ 0,Nat.le_refl _,Nat.le_refl _⟩ (fun i T=>by rw[X,K.datas,O];exact D.idx i T)).1
  have U:=append_done (real:=real) (mono:=mono) (boot:=boot) hl h2 h3 hd (by rw[hE];exact ho) hk (z:=hangE e M Y) (by rw[hY])
  generalize hangE e M Y=z at *
  replace U:m.append raw real mono boot=if z.c.most<z.b.length then(0,15,m)else((x.num 9+1)%18446744073709551616,0,finM z (B.num 8) ((x.num 9+1)%18446744073709551616) real mono e boot):=U
  rw[U]at h20 ⊢
  split at h20
  · rename_i hm
    rw[if_pos hm];exact h
  rename_i hm
  rw[if_neg hm]
  have q1:=A.ge
  have q2:=A.le
  have q3:=A.nd
  have q4:=A.nf
  have j:=A.c
  have z8:z.n8=m.n8:=A.n8
  have H:=h.most
  have r1:=h.nd
  have r2:=h.nf
  have g3:=K.ge
  have y:P.b.length≤z.b.length:=by have h:=Q.ge;rw[u]at h;exact h
  obtain⟨J,V,W,g,kz5,p,r,kl,kz8⟩:=finM_spec z (B.num 8) ((x.num 9+1)%18446744073709551616) real mono e boot
  simp only at h20 ⊢
  generalize finM z (B.num 8) ((x.num 9+1)%18446744073709551616) real mono e boot=R at *
  have I:=(kz8 (by omega)).1
  rw[z8,Nat.mod_eq_of_lt (by omega)]at I
  refine⟨fit_mono A.fit ⟨by rw[V],by rw[V],p,r,by rw[J];exact Nat.le_refl _⟩ (fun k hk=>.inl (W ▸ hk)) (fun k hk=>.inl (g ▸ hk)),?_,?_,?_,?_,?_,?_,?_,?_⟩
  · rw[I,J,kz5,zm,v]
    have f:=K.chain
    rw[show B.num 8=m.n8 from N]at f
    exact chain_mono f y
  · intro k hk
    rw[W]at hk
    obtain⟨u1,u2,u3,u4⟩:=A.chains k hk
    rw[J,I]
    exact⟨u1,u2,u3,by omega⟩
  · rw[W,I];omega
  · rw[g,I];omega
  · rw[J,I];omega
  · rw[J];rw[j]at hm;omega
  · rw[V,j];exact H
  rw[J];have:=h.hd;omega
theorem newMk_ok {c:Cfg} {t:Nat} (h:c.dataSlots≤10∧c.fieldSlots≤10) (h1:1≤c.dataSlots∧1≤c.fieldSlots) (h2:c.most≤40000):MkOk (newMk c t):=by
  have D:=(putTableF_lenA 4 (List.replicate c.dataSlots {first:=0,tail:=0})).2 (.inl q)
  have E:=(putTableF_lenA 5 (List.replicate c.fieldSlots {first:=0,tail:=0})).2 (.inr q)
  have e:(newMk c t).b=List.replicate 272 0 ++ putTableF 4 (List.replicate c.dataSlots {first:=0,tail:=0}) ++ putTableF 5 (List.replicate c.fieldSlots {first:=0,tail:=0}):=rfl
  have A:=congrArg List.length e
  simp only[List.length_append,List.length_replicate]at D E A
  have B:(newMk c t).n8=0:=rfl
  have C:(newMk c t).datas=[]:=rfl
  have F:(newMk c t).fields=[]:=rfl
  refine⟨⟨h1.1,by show c.dataSlots≤64;omega,h1.2,by show c.fieldSlots≤64;omega,?_,?_,(fun k hk=>by rw[C]at hk;simp at hk),(fun k hk=>by rw[F]at hk;simp at hk)⟩,by rw[B];exact chain_nil _,(fun k hk=>by rw[C]at hk;simp at hk),by rw[B];exact Nat.le_refl _,by rw[B];exact Nat.le_refl _,by omega,by omega,h2,by omega⟩
  · have:(newMk c t).h.n.getD 2 0=288:=rfl
    rw[this,A];show 288+16*c.dataSlots≤_;omega
  have:(newMk c t).h.n.getD 4 0=(List.replicate 272 (0:UInt8) ++ putTableF 4 (List.replicate c.dataSlots {first:=0,tail:=0})).length+16:=rfl
  rw[this,A,List.length_append,List.length_replicate];show _+16*c.fieldSlots≤_;omega
theorem config_ok (s:Sq):(s.config.1.dataSlots≤10∧s.config.1.fieldSlots≤10)∧(1≤s.config.1.dataSlots∧1≤s.config.1.fieldSlots)∧s.config.1.most≤40000:=by
  refine⟨config_slots s,?_⟩
  rcases h1:s.num 5 with⟨a,A⟩
  rcases h2:A.num 5 with⟨b,B⟩
  rcases h3:B.num 5 with⟨c,C⟩
  rcases h4:C.num 7 with⟨d,D⟩
  rcases h5:D.num 4 with⟨e,E⟩
  rcases h6:E.num 2 with⟨f,F⟩
  simp only[Sq.config,h1,h2,h3,h4,h5,h6]
  omega
theorem record_ok (s:Sq) (n:Nat):(∀q∈(s.record n).1.fields,BD q)∧(s.record n).1.fields.length≤16:=by
  rcases h1:s.pairs 4 with⟨A,B⟩
  rcases h2:B.num 40 with⟨a,C⟩
  rcases h3:C.num 9 with⟨b,D⟩
  rcases h4:D.num 3 with⟨c,E⟩
  simp only[Sq.record,h1,h2,h3,h4]
  exact listF_bd (show listF A=((listF A).1,(listF A).2)from rfl)
theorem record_boot (s:Sq) (n:Nat):(s.record n).1.boot.length=16:=by
  rcases h1:s.pairs 4 with⟨D,A⟩
  rcases h2:A.num 40 with⟨a,B⟩
  rcases h3:B.num 9 with⟨b,C⟩
  rcases h4:C.num 3 with⟨c,E⟩
  simp only[Sq.record,h1,h2,h3,h4]
  simp[idF]
theorem makerL_end {most:Nat} {s:Sq} {m:Mk} {rs:List Rec} (h:¬(rs.length<most∧s.pos<s.l.length)):makerL (most-rs.length) s m rs=(m,rs,s):=by
  by_cases h1:rs.length<most
  · obtain⟨n,B⟩:∃n,most-rs.length=n+1:=⟨most-rs.length-1,by omega⟩
    rw[B]
    show(if s.pos<s.l.length then _ else(m,rs,s))=_
    rw[if_neg (fun A=>h ⟨h1,A⟩)]
  rw[show most-rs.length=0 by omega];rfl
theorem makerL_no {most c e:Nat} {s s1:Sq} {m m1:Mk} {rs:List Rec} {r:Rec} (h:rs.length<most) (h2:s.pos<s.l.length) (hr:s.record ((m.num 9+1)%18446744073709551616)=(r,s1)) (ha:m.append r.fields r.real r.mono r.boot=(e,c,m1)) (hc:c≠0) :
    makerL (most-rs.length) s m rs=(m1,rs,s1):=by
  obtain⟨n,A⟩:∃n,most-rs.length=n+1:=⟨most-rs.length-1,by omega⟩
  rw[A]
  unfold makerL
  rw[if_pos h2]
  simp only[hr,ha]
  rw[if_pos hc]
theorem makerL_on {most c e:Nat} {s s1:Sq} {m m1:Mk} {rs:List Rec} {r:Rec} (h:rs.length<most) (h2:s.pos<s.l.length) (hr:s.record ((m.num 9+1)%18446744073709551616)=(r,s1)) (ha:m.append r.fields r.real r.mono r.boot=(e,c,m1)) (hc:¬c≠0) :
    makerL (most-rs.length) s m rs=makerL (most-(rs ++ [r]).length) s1 m1 (rs ++ [r]):=by
  obtain⟨n,A⟩:∃n,most-rs.length=n+1:=⟨most-rs.length-1,by omega⟩
  rw[A]
  rw[makerL,if_pos h2]
  simp only[hr,ha]
  rw[if_neg hc,show most-(rs ++ [r]).length=n by simp;omega]
theorem nl_object (m:Mk) (o:Ly):(m.object o).2.h.n.length=m.h.n.length:=by simp[Mk.object,Mk.setN]
theorem nl_hang (m:Mk) (l:List Known) (t p s:Nat):(m.hang l t p s).2.h=m.h:=by rw[(hang_eq m l t p s).1]
theorem nl_field (m:Mk) (x:Ly):(m.field x).2.h.n.length=m.h.n.length:=by
  unfold Mk.field
  split
  · rfl
  simp only
  have B:=nl_object m (putFieldF {hash:=hashN m.c.keyed m.c.file x,nextHash:=0,dat:=0,payload:=x})
  generalize m.object (putFieldF {hash:=hashN m.c.keyed m.c.file x,nextHash:=0,dat:=0,payload:=x})=r at *
  obtain⟨p,A⟩:=r
  simp only at B ⊢
  have C:=nl_hang A A.fields (A.num 4) p (hashN m.c.keyed m.c.file x%A.c.fieldSlots)
  generalize A.hang A.fields (A.num 4) p (hashN m.c.keyed m.c.file x%A.c.fieldSlots)=r at *
  obtain⟨n,D⟩:=r
  simp only at C ⊢
  simp only[Mk.setN,List.length_set,C]
  exact B
theorem nl_data (m:Mk) (x:Pr):(m.data x).2.h.n.length=m.h.n.length:=by
  unfold Mk.data
  split
  · rfl
  simp only
  have C:=nl_object m (putDataF {hash:=hashN m.c.keyed m.c.file (payload x),nextHash:=0,nextField:=0,entry:=0,array:=0,count:=0,payload:=payload x})
  generalize m.object (putDataF {hash:=hashN m.c.keyed m.c.file (payload x),nextHash:=0,nextField:=0,entry:=0,array:=0,count:=0,payload:=payload x})=r at *
  obtain⟨p,A⟩:=r
  simp only at C ⊢
  have D:=nl_hang A A.datas (A.num 2) p (hashN m.c.keyed m.c.file (payload x)%A.c.dataSlots)
  generalize A.hang A.datas (A.num 2) p (hashN m.c.keyed m.c.file (payload x)%A.c.dataSlots)=r at *
  obtain⟨n,B⟩:=r
  simp only at D ⊢
  generalize hx5:({(B.setN 19 (max (B.num 19) n)).setN 15 (((B.setN 19 (max (B.num 19) n)).num 15+1)%18446744073709551616)with datas:=((B.setN 19 (max (B.num 19) n)).setN 15 (((B.setN 19 (max (B.num 19) n)).num 15+1)%18446744073709551616)).datas ++ [({text:=payload x,pos:=p,slot:=hashN m.c.keyed m.c.file (payload x)%A.c.dataSlots,count:=0,arrays:=[]}:Known)]}:Mk)=m5
  have E:m5.h.n.length=m.h.n.length:=by subst hx5;simp only[Mk.setN,List.length_set,D];exact C
  have F:=nl_field m5 x.name
  generalize m5.field x.name=r at *
  obtain⟨k,G⟩:=r
  exact F.trans E
theorem nl_datasL:∀(l:List Pr) (m:Mk) (ps:List (List UInt8)) (od:List Nat),(datasL l m ps od).2.2.h.n.length=m.h.n.length
  | [],_,_,_=>rfl
  | x :: r,m,ps,od=>(nl_datasL r _ _ _).trans (nl_data m x)
theorem nl_link (m:Mk) (a:List Nat) (n src item:Nat):(m.link a n src item).2.2.h.n.length=m.h.n.length:=by
  unfold Mk.link
  generalize roomsL a 0 0 0=r
  obtain⟨A,D⟩:=r
  simp only
  split
  · have B:=nl_object m (putArrayF {next:=0,items:=List.replicate (roomF (a.length:Int)) 0})
    generalize m.object (putArrayF {next:=0,items:=List.replicate (roomF (a.length:Int)) 0})=r at *
    obtain⟨p,C⟩:=r
    simp only at B ⊢
    split
    · show(C.setN 18 _).h.n.length=_
      simp only[Mk.setN,List.length_set];exact B
    show(C.setN 18 _).h.n.length=_
    simp only[Mk.setN,List.length_set];exact B
  rfl
theorem nl_hangE (e:Nat):∀(od:List Nat) (m:Mk),(hangE e od m).h.n.length=m.h.n.length
  | [],_=>rfl
  | i :: r,m=>by
    rw[hangE_cons,nl_hangE e r]
    unfold hang1
    simp only
    split
    · rfl
    · exact nl_link m _ _ _ _
theorem nl_append (m:Mk) (raw:List Pr) (real mono:Nat) (boot:Ly):(m.append raw real mono boot).2.2.h.n.length=m.h.n.length:=by
  rcases hl:listF raw with⟨l,c⟩
  by_cases h2:c≠0
  · have e:m.append raw real mono boot=(0,c,m):=by unfold Mk.append;simp only[hl];rw[if_pos h2]
    rw[e]
  by_cases h3:m.num 9=18446744073709551615
  · have e:m.append raw real mono boot=(0,1,m):=by unfold Mk.append;simp only[hl];rw[if_neg h2,if_pos h3]
    rw[e]
  have D:=nl_datasL l m [] []
  rcases hd:datasL l m [] []with⟨I,C,x⟩
  rw[hd]at D
  have E:=nl_object x (putEntryF {seq:=(x.num 9+1)%18446744073709551616,real:=real,mono:=mono,boot:=boot,xor:=xorF 0 I,items:=itemsL x C})
  rcases ho:x.object (putEntryF {seq:=(x.num 9+1)%18446744073709551616,real:=real,mono:=mono,boot:=boot,xor:=xorF 0 I,items:=itemsL x C})with⟨e,A⟩
  rw[ho]at E
  have F:=nl_link A A.main (A.num 8) 176 e
  rcases hk:A.link A.main (A.num 8) 176 e with⟨a,t,H⟩
  rw[hk]at F
  simp only at D E F
  have B:m.append raw real mono boot=_:=append_done (real:=real) (mono:=mono) (boot:=boot) hl h2 h3 hd ho hk q
  have G:=nl_hangE e C (let m4:=({H with main:=a}:Mk).setN 11 (a.getD 0 0);{m4 with h:={m4.h with tailArray:=lastN a%4294967296,tailItems:=t%4294967296}})
  generalize hangE e C (let m4:=({H with main:=a}:Mk).setN 11 (a.getD 0 0);{m4 with h:={m4.h with tailArray:=lastN a%4294967296,tailItems:=t%4294967296}})=z at B G
  replace B:m.append raw real mono boot=if z.c.most<z.b.length then(0,15,m)else((x.num 9+1)%18446744073709551616,0,finM z (A.num 8) ((x.num 9+1)%18446744073709551616) real mono e boot):=B
  rw[B]
  split
  · rfl
  show(finM _ _ _ _ _ _ _).h.n.length=_
  rw[(finM_spec _ _ _ _ _ _ _).2.2.2.2.2.2.2.1,G]
  simp only[Mk.setN,List.length_set]
  omega
theorem makerL_ok:∀(n:Nat) (s:Sq) (m:Mk) (rs:List Rec),MkOk m→m.h.n.length=20→MkOk (makerL n s m rs).1∧(makerL n s m rs).1.h.n.length=20
  | 0,_,_,_,h,h2=>⟨h,h2⟩
  | n+1,s,m,rs,h,h2=>by
    unfold makerL
    split
    · rcases hr:s.record ((m.num 9+1)%18446744073709551616)with⟨r,s1⟩
      have hb:r.boot.length=16:=by
        have:=record_boot s ((m.num 9+1)%18446744073709551616)
        rw[hr]at this;exact this
      have A:=nl_append m r.fields r.real r.mono r.boot
      have B:=append_ok (raw:=r.fields) (real:=r.real) (mono:=r.mono) h hb (A.trans h2)
      rcases ha:m.append r.fields r.real r.mono r.boot with⟨e,c,C⟩
      rw[ha]at A B
      simp only[ha]
      split
      · exact⟨B,A.trans h2⟩
      · exact makerL_ok n s1 C _ B (A.trans h2)
    · exact⟨h,h2⟩
theorem maker_ok {s s':Sq} {most:Nat} {m:Mk} {rs:List Rec} (h:s.maker most=(m,rs,s')):MkOk m∧m.h.n.length=20:=by
  have A:=config_ok s
  rcases h1:s.config with⟨c,B⟩
  rcases h2:B.num 6 with⟨t,C⟩
  rw[h1]at A
  simp only[Sq.maker,h1,h2]at h
  have:=makerL_ok most C (newMk c t) [] (newMk_ok A.1 A.2.1 A.2.2) q
  rw[h]at this
  exact this
theorem imageM_len {m:Mk} (ok:RHead.ok m.h) (hb:m.b.length≤40000):(imageM m 1).length≤100000:=by
  unfold imageM
  rw[List.length_append,headF_len {m.h with state:=1,n:=m.h.n.set 1 (m.b.length-272)} m.depth ⟨ok.1,ok.2.1,(by decide:(1:Nat)<9223372036854775808),ok.2.2.2.1,ok.2.2.2.2.1,ok.2.2.2.2.2.1,ok.2.2.2.2.2.2.1,nums_set ok.2.2.2.2.2.2.2.1 (by omega),ok.2.2.2.2.2.2.2.2⟩,List.length_drop]
  omega
end Go.Wk
namespace Go.Wk
open Go Go.RowKit
theorem xor_b8 (x y:UInt8):Value.int .u8 ((x.toNat ^^^ y.toNat:Nat):Int)=b8 (x ^^^ y):=by simp[b8,UInt8.toNat_xor]
def spoilF (y:UInt8):List Int→List UInt8→List UInt8
  | [],o=>o
  | a :: r,o=>if o.length=0 then o else spoilF y r (o.set (numF a o.length) (o.getD (numF a o.length) 0 ^^^ y))
theorem spoil_len (y:UInt8):∀(l:List Int) (o:Ly),(spoilF y l o).length=o.length
  | [],_=>rfl
  | a :: r,o=>by
    unfold spoilF
    split
    · rfl
    · rw[spoil_len y r];simp
theorem spoil_end {y:UInt8} {l:List Int} {i:Nat} {o:Ly} (h:¬i<l.length):spoilF y (l.drop i) o=o:=by rw[List.drop_eq_nil_of_le (by omega)];rfl
theorem spoil_e {y:UInt8} {l:List Int} {o:Ly} (h:¬0<o.length):spoilF y l o=o:=by
  cases l with
  | nil=>rfl
  | cons a r=>unfold spoilF;rw[if_pos (by omega)]
theorem spoil_step {y x:UInt8} {l:List Int} {i k:Nat} {a:Int} {o:Ly} (h:l[i]? = some a) (ho:0<o.length) (hk:numF a o.length=k) (hx:o[k]? = some x):spoilF y (l.drop i) o=spoilF y (l.drop (i+1)) (o.set k (x ^^^ y)):=by
  obtain⟨A,B⟩:=List.getElem?_eq_some_iff.1 h
  rw[List.drop_eq_getElem_cons A,B,spoilF,if_neg (by omega),hk]
  simp[List.getD,hx]
section
variable {P:Program} {n:Nat} {A:Fr n} {D:List Deferred} {l:List (Nat × Value)} {w:World} {d:Option Tmp} {ty:TypeId} {ps:String} {af:Array Edge} {g:Option (Nat × Bool)}
theorem r_neqBool {x y:Operand} {t u:TypeId} {a b:Bool} (hT:P.underlying t=some .bool) (hx:ev n l x=some (.bool a)) (hy:ev n l y=some (.bool b)) :
    RunV P ⟨d,.binOp .neq t x y u,ty,ps,af,g⟩ (over A D l).eval w (.bool (a != b)):=by
  have B:(binOp .neq t (.bool a) (.bool b)).run P w = .ok (.bool (a != b)) w:=by
    simp only[binOp,Op.equal,Op.maxDepth,Sem.run_bind,run_equalIn_bool' w 9999 t a b hT,Result.andThen_ok,Sem.run_pure]
    rfl
  have C:(eqGuard .neq t x y (.bool a) (.bool b)).run P w = .ok () w:=by unfold eqGuard;simp
  simp[RunV,execOp,ev_eval hx,ev_eval hy,C,B]
end
theorem open_same {b:Ly} {x:Option PView} {z:Option RView} {c d:Nat} (h:openF b=(x,c)) (h2:rOpenF b=(z,d)):d=c∧z=x.map rview:=by
  unfold rOpenF at h2
  rw[h]at h2
  simp only[Prod.mk.injEq]at h2
  exact⟨h2.2.symm,h2.1.symm⟩
theorem open_fine {b:Ly} {x:Option PView} {z:Option RView} {c d:Nat} (h:openF b=(x,c)) (h2:rOpenF b=(z,d)) (hc:c=0):∃y q,x=some y∧z=some q∧q=rview y∧y.b.length≤b.length:=by
  subst hc
  obtain⟨y,A,_,B⟩:=open_some h
  obtain⟨_,C⟩:=open_same h h2
  exact⟨y,rview y,A,by rw[C,A];rfl,rfl,B⟩
theorem open_len {b:Ly} {x:Option PView} {c:Nat} {y:PView} (h:openF b=(x,c)) (e:x=some y):y.b.length≤b.length:=by
  subst e
  unfold openF at h
  split at h
  · cases congrArg Prod.fst h
  have:=Option.some.inj (congrArg Prod.fst h)
  rw[← this];simp;omega
def imgF (l:List Int) (most:Nat):List UInt8:=if(imageOf l most).length≤100000 then imageOf l most else[]
theorem imgF_of {l:List Int} {most:Nat} {r:Ly} (h:imageOf l most=r) (hl:r.length≤100000):imgF l most=r:=by unfold imgF;rw[h,if_pos hl]
theorem imgF_len (l:List Int) (most:Nat):(imgF l most).length≤100000:=by unfold imgF;split<;>simp_all
theorem u8_of {z:Int} (h:(Lit.int .u8 z).wf=true):Value.int .u8 z=b8 (UInt8.ofNat z.toNat):=by
  simp[Lit.wf,IntKind.min,IntKind.max,IntKind.signed,IntKind.bits]at h
  unfold b8
  rw[UInt8.toNat_ofNat',Nat.mod_eq_of_lt (by omega),Int.toNat_of_nonneg (by omega)]
end Go.Wk
namespace Go.Wk
open Go Go.RowKit
end Go.Wk
namespace Go.Wk
open Go Go.RowKit
def slotsAt (b:Ly) (p n:Nat):List Slt:=(List.range n).map fun i=>{first:=at8 b (p+16*i),tail:=at8 b (p+16*i+8)}
theorem slotsAt_len (b:Ly) (p n:Nat):(slotsAt b p n).length=n:=by simp[slotsAt]
theorem slotsAt_succ (b:Ly) (p n:Nat):slotsAt b p (n+1)=slotsAt b p n ++ [{first:=at8 b (p+16*n),tail:=at8 b (p+16*n+8)}]:=by simp[slotsAt,List.range_succ]
def readTabF (b:Ly) (p:Nat) (k:Int):List Slt × Nat :=
  if ¬(k=4∨k=5)then([],1)
  else if(bodyF b p k.toNat 0 16).2≠0 then([],(bodyF b p k.toNat 0 16).2)
  else(slotsAt (bodyF b p k.toNat 0 16).1 0 ((bodyF b p k.toNat 0 16).1.length/16),0)
theorem tab_1 {b:Ly} {p:Nat} {k:Int} (h:¬(k=4∨k=5)):readTabF b p k=([],1):=by unfold readTabF;rw[if_pos h]
theorem tab_no {b x:Ly} {p k c:Nat} (hk:(k:Int)=4∨(k:Int)=5) (h:bodyF b p k 0 16=(x,c)) (hc:c≠0):readTabF b p (k:Int)=([],c):=by
  unfold readTabF;rw[if_neg (fun h=>h hk),Int.toNat_natCast,h,if_pos hc]
theorem tab_ok {b x:Ly} {p k c:Nat} {l:List Slt} (hk:(k:Int)=4∨(k:Int)=5) (h:bodyF b p k 0 16=(x,c)) (hc:¬c≠0) (hl:l=slotsAt x 0 (x.length/16)):readTabF b p (k:Int)=(l,0):=by
  unfold readTabF;rw[if_neg (fun h=>h hk),Int.toNat_natCast,h,if_neg hc,hl]
theorem slots_add {x:Ly} {l:List Slt} {m:List Nat} {i n v u:Nat} (hl:l=slotsAt x 0 (i/2)) (hi:i%2=0) (hm:m=numsAt x 0 n) (hv:m[i]? = some v) (hu:m[i+1]? = some u):l ++ [{first:=v,tail:=u}]=slotsAt x 0 ((i+2)/2):=by
  subst hm
  rw[show(i+2)/2=i/2+1 by omega,slotsAt_succ,hl,(nums_get hv).1,(nums_get hu).1,show 0+16*(i/2)=0+8*i by omega,show 0+8*(i+1)=0+8*i+8 by omega]
def tabF (n:List Nat) (b:Ly) (k:Int):List Slt × Nat :=
  if(readTabF b ((if k=4 then n.getD 2 0 else n.getD 4 0)-16) k).2≠0 then([],(readTabF b ((if k=4 then n.getD 2 0 else n.getD 4 0)-16) k).2)
  else if(readTabF b ((if k=4 then n.getD 2 0 else n.getD 4 0)-16) k).1.length≠(if k=4 then n.getD 3 0 else n.getD 5 0)/16 then([],14)
  else readTabF b ((if k=4 then n.getD 2 0 else n.getD 4 0)-16) k
end Go.Wk
namespace Go.Wk
open Go Go.RowKit
theorem rv_all {v:PView} {q:RView} (h:q=rview v):q.b=v.b∧q.h.n.getD 0 0=v.h.n.getD 0 0∧q.h.incompat=v.h.incompat∧q.h.file=v.h.file:=by
  subst h
  exact⟨rfl,rhead_n (by omega),rfl,rfl⟩
end Go.Wk
namespace Go.Wk
open Go Go.RowKit
theorem rTab_body {b x:Ly} {p c k:Nat} (h:rbodyF b p k=(x,c)):bodyF b p k 0 16=if c≠0 then([],c)else if x.length<16∨x.length%16≠0 then([],5)else(x,0):=by
  by_cases hc:c≠0
  · rw[if_pos hc]
    unfold rbodyF at h
    unfold bodyF
    split at h
    · rename_i A;rw[if_pos A];cases h;rfl
    rename_i A
    rw[if_neg A]
    split at h
    · rename_i B;rw[if_pos B];cases h;rfl
    cases h;exact absurd q hc
  rw[if_neg hc]
  obtain⟨A,B,C,D,E,F⟩:=rbody_ok h hc
  unfold bodyF
  rw[if_neg (by omega),if_neg (by omega)]
  by_cases hx:x.length<16∨x.length%16≠0
  · rw[if_pos hx,if_pos (by omega)]
  rw[if_neg hx,if_neg (by omega),← C]
theorem rslots {x:Ly} {l:List Slt} {k u v:Nat} (hl:l=slotsAt x 0 (k/16)) (hk:k%16=0) (hu:at8 x k=u) (hv:at8 x (k+8)=v):l ++ [{first:=u,tail:=v}]=slotsAt x 0 ((k+16)/16):=by
  rw[show(k+16)/16=k/16+1 by omega,slotsAt_succ,hl,show 0+16*(k/16)=k by omega,hu,hv]
theorem table_ge {h:PHead} {a s e:Nat} (ht:tableF h a s e=0):16≤a:=by
  unfold tableF at ht
  repeat' split at ht
  all_goals omega
theorem open_tab {b:Ly} {y:PView} {x:Option PView} {c:Nat} (h:openF b=(x,c)) (hy:x=some y):272≤b.length∧16≤y.h.n.getD 2 0∧16≤y.h.n.getD 4 0:=by
  subst hy
  unfold openF at h
  split at h
  · cases h
  rename_i h1
  have C:readF b=((readF b).1,0):=by rw[← Classical.not_not.1 h1]
  obtain⟨B,D,A⟩:=read_fine C
  have e:y.h=(readF b).1:=by
    have:=congrArg Prod.fst h
    simp only[Option.some.injEq]at this
    rw[← this]
  rw[e]
  refine⟨B,?_⟩
  unfold amissF at A
  repeat' split at A
  all_goals first|omega|skip
  rename_i h7
  exact⟨table_ge (Classical.not_not.1 h7),table_ge A⟩
theorem tab_n {n m:List Nat} (h:∀i,i<20→m.getD i 0=n.getD i 0) (b:Ly) (k:Int):tabF m b k=tabF n b k:=by
  unfold tabF
  rw[h 2 (by omega),h 3 (by omega),h 4 (by omega),h 5 (by omega)]
theorem rv_n {v:PView} {q:RView} (h:q=rview v):∀i,i<20→q.h.n.getD i 0=v.h.n.getD i 0:=by
  subst h
  exact fun i A=>rhead_n A
theorem tab_bad {n:List Nat} {b:Ly} {k:Int} (h:¬(k=4∨k=5)):tabF n b k=([],1):=by
  unfold tabF
  rw[tab_1 h]
  simp
end Go.Wk
namespace Go.Wk
open Go Go.RowKit
def nodH (s:Nat) (b:Ly) (k:Int) (p:Nat):Nat:=if k=4 then(datAt s b p).1.hash else(fldAt s b p).1.hash
def nodN (s:Nat) (b:Ly) (k:Int) (p:Nat):Nat:=if k=4 then(datAt s b p).1.nextHash else(fldAt s b p).1.nextHash
def nodP (s:Nat) (b:Ly) (k:Int) (p:Nat):List UInt8:=if k=4 then(datAt s b p).1.payload else(fldAt s b p).1.payload
def nodC (s:Nat) (b:Ly) (k:Int) (p:Nat):Nat:=if k=4 then(datAt s b p).2 else(fldAt s b p).2
def bkL (nx cd:Nat→Nat) (len:Nat):Nat→Nat→Nat→List Nat→List Nat × Nat
  | 0,_,_,o=>(o,0)
  | k+1,p,a,o=>if p=0∨len≤p then(o,0)else if p≤a then(o,12)else if cd p≠0 then(o,cd p)else bkL nx cd len k (nx p) p (o ++ [p])
def fdL (nx cd:Nat→Nat) (is:Nat→Bool) (len:Nat):Nat→Nat→Nat→Nat × Nat
  | 0,_,_=>(0,0)
  | k+1,p,a=>if p=0∨len≤p then(0,0)else if p≤a then(0,12)else if cd p≠0 then(0,cd p)else if is p=true then(p,0)else fdL nx cd is len k (nx p) p
def dsL (nx cd:Nat→Nat) (len:Nat):Nat→Nat→Nat→List Nat→List Nat × Nat
  | 0,_,_,o=>(o,0)
  | k+1,p,a,o=>if p=0∨len≤p then(o,0)else if a≤p then(o,12)else if cd p≠0 then(o,cd p)else dsL nx cd len k (nx p) p (o ++ [p])
section
variable {nx cd:Nat→Nat} {is:Nat→Bool} {len p a c:Nat} {o:List Nat}
theorem bkL_any (m:Nat):∀(k p a:Nat) (o:List Nat),len-a<k→bkL nx cd len (k+m) p a o=bkL nx cd len k p a o
 | 0,_,_,_,h=>by omega
 | k+1,p,a,o,h=>by
  rw[show k+1+m=(k+m)+1 by omega,bkL,bkL]
  split
  ·rfl
  ·split
   ·rfl
   ·split
    ·rfl
    ·exact bkL_any m k _ _ _ (by omega)
theorem fdL_any (m:Nat):∀(k p a:Nat),len-a<k→fdL nx cd is len (k+m) p a=fdL nx cd is len k p a
 | 0,_,_,h=>by omega
 | k+1,p,a,h=>by
  rw[show k+1+m=(k+m)+1 by omega,fdL,fdL]
  split
  ·rfl
  ·split
   ·rfl
   ·split
    ·rfl
    ·split
     ·rfl
     ·exact fdL_any m k _ _ (by omega)
theorem dsL_any (m:Nat):∀(k p a:Nat) (o:List Nat),a<k∨len<k→dsL nx cd len (k+m) p a o=dsL nx cd len k p a o
 | 0,_,_,_,h=>by omega
 | k+1,p,a,o,h=>by
  rw[show k+1+m=(k+m)+1 by omega,dsL,dsL]
  split
  ·rfl
  ·split
   ·rfl
   ·split
    ·rfl
    ·exact dsL_any m k _ _ _ (by omega)
def bkF (nx cd:Nat→Nat) (len p a:Nat) (o:List Nat):List Nat × Nat:=bkL nx cd len (len-a+1) p a o
def fdF (nx cd:Nat→Nat) (is:Nat→Bool) (len p a:Nat):Nat × Nat:=fdL nx cd is len (len-a+1) p a
def dsF (nx cd:Nat→Nat) (len p a:Nat) (o:List Nat):List Nat × Nat:=dsL nx cd len (len+1) p a o
theorem bk_end (h:p=0∨len≤p):bkF nx cd len p a o=(o,0):=by unfold bkF;rw[bkL,if_pos h]
theorem bk_loop (h:¬(p=0∨len≤p)) (h1:p≤a):bkF nx cd len p a o=(o,12):=by unfold bkF;rw[bkL,if_neg h,if_pos h1]
theorem bk_bad (h:¬(p=0∨len≤p)) (h1:¬p≤a) (h2:cd p=c) (hc:c≠0):bkF nx cd len p a o=(o,c):=by subst h2;unfold bkF;rw[bkL,if_neg h,if_neg h1,if_pos hc]
theorem bk_on (h:¬(p=0∨len≤p)) (h1:¬p≤a) (h2:cd p=0) {n:Nat} (hn:nx p=n):bkF nx cd len p a o=bkF nx cd len n p (o ++ [p]):=by
  subst hn
  unfold bkF;rw[bkL,if_neg h,if_neg h1,if_neg (by omega)]
  rw[show len-a=(len-p+1)+(len-a-(len-p+1))by omega]
  exact bkL_any _ _ _ _ _ (by omega)
theorem fd_end (h:p=0∨len≤p):fdF nx cd is len p a=(0,0):=by unfold fdF;rw[fdL,if_pos h]
theorem fd_loop (h:¬(p=0∨len≤p)) (h1:p≤a):fdF nx cd is len p a=(0,12):=by unfold fdF;rw[fdL,if_neg h,if_pos h1]
theorem fd_bad (h:¬(p=0∨len≤p)) (h1:¬p≤a) (h2:cd p=c) (hc:c≠0):fdF nx cd is len p a=(0,c):=by subst h2;unfold fdF;rw[fdL,if_neg h,if_neg h1,if_pos hc]
theorem fd_yes (h:¬(p=0∨len≤p)) (h1:¬p≤a) (h2:cd p=0) (hi:is p=true):fdF nx cd is len p a=(p,0):=by unfold fdF;rw[fdL,if_neg h,if_neg h1,if_neg (by omega),if_pos hi]
theorem fd_no (h:¬(p=0∨len≤p)) (h1:¬p≤a) (h2:cd p=0) (hi:¬is p=true) {n:Nat} (hn:nx p=n):fdF nx cd is len p a=fdF nx cd is len n p:=by
  subst hn
  unfold fdF;rw[fdL,if_neg h,if_neg h1,if_neg (by omega),if_neg hi]
  rw[show len-a=(len-p+1)+(len-a-(len-p+1))by omega]
  exact fdL_any _ _ _ _ (by omega)
theorem ds_end (h:p=0∨len≤p):dsF nx cd len p a o=(o,0):=by unfold dsF;rw[dsL,if_pos h]
theorem ds_loop (h:¬(p=0∨len≤p)) (h1:a≤p):dsF nx cd len p a o=(o,12):=by unfold dsF;rw[dsL,if_neg h,if_pos h1]
theorem ds_bad (h:¬(p=0∨len≤p)) (h1:¬a≤p) (h2:cd p=c) (hc:c≠0):dsF nx cd len p a o=(o,c):=by subst h2;unfold dsF;rw[dsL,if_neg h,if_neg h1,if_pos hc]
theorem ds_on (h:¬(p=0∨len≤p)) (h1:¬a≤p) (h2:cd p=0) {n:Nat} (hn:nx p=n):dsF nx cd len p a o=dsF nx cd len n p (o ++ [p]):=by
  subst hn
  unfold dsF
  rw[dsL,if_neg h,if_neg h1,if_neg (by omega)]
  exact(dsL_any 1 len (nx p) p (o ++ [p]) (.inl (by omega))).symm
end
def slt0:Slt:={first:=0,tail:=0}
theorem tab_pos {n:List Nat} {b:Ly} {k:Int} {l:List Slt} {c:Nat} (h:tabF n b k=(l,c)) (hc:c=0):0<l.length:=by
  subst hc
  unfold tabF at h
  generalize ((if k=4 then n.getD 2 0 else n.getD 4 0)-16)=a at h
  generalize (if k=4 then n.getD 3 0 else n.getD 5 0)/16=m at h
  split at h
  · rename_i h1;exact absurd (congrArg Prod.snd h) h1
  split at h
  · cases h
  unfold readTabF at h
  split at h
  · cases h
  split at h
  · rename_i h1;exact absurd (congrArg Prod.snd h) h1
  rename_i h1
  rcases hb:bodyF b a k.toNat 0 16 with⟨x,d⟩
  rw[hb]at h h1
  obtain⟨_,_,A,B,_,C,_⟩:=bodyF_ok hb (Classical.not_not.1 h1)
  have e:=congrArg Prod.fst h
  simp only at e
  rw[← e,slotsAt_len]
  omega
theorem nod_4 {s p:Nat} {b:Ly} {k:Int} (h:k=4):nodH s b k p=(datAt s b p).1.hash∧nodN s b k p=(datAt s b p).1.nextHash∧nodP s b k p=(datAt s b p).1.payload∧nodC s b k p=(datAt s b p).2:=by
  unfold nodH nodN nodP nodC;rw[if_pos h,if_pos h,if_pos h,if_pos h];exact⟨q,q,q,q⟩
theorem nod_5 {s p:Nat} {b:Ly} {k:Int} (h:¬k=4):nodH s b k p=(fldAt s b p).1.hash∧nodN s b k p=(fldAt s b p).1.nextHash∧nodP s b k p=(fldAt s b p).1.payload∧nodC s b k p=(fldAt s b p).2:=by
  unfold nodH nodN nodP nodC;rw[if_neg h,if_neg h,if_neg h,if_neg h];exact⟨q,q,q,q⟩
def lastA (o:List Nat):Nat:=(o[o.length-1]?).getD 18446744073709551615
theorem lastA_no {o:List Nat} (h:¬0<o.length):lastA o=18446744073709551615:=by
  have:o=[]:=List.eq_nil_of_length_eq_zero (by omega)
  subst this;rfl
theorem lastA_get {o:List Nat} {x:Nat} (h:o[o.length-1]? = some x):lastA o=x:=by unfold lastA;rw[h];rfl
theorem lastA_get' {o:List Nat} {x:Nat} (h0:0<o.length) (h:o[(((o.length:Nat):Int)-1).toNat]? = some x):lastA o=x:=lastA_get (by rw[← h];congr 1;omega)
theorem lastA_app {o:List Nat} {x:Nat}:lastA (o ++ [x])=x:=by unfold lastA;simp
def buckF (n:List Nat) (b:Ly) (k slot:Int):List Nat × Nat :=
  if(tabF n b k).2≠0 then([],(tabF n b k).2)else if slot<0∨((tabF n b k).1.length:Int)≤slot then([],2)
  else if(bkF (nodN (n.getD 0 0) b k) (nodC (n.getD 0 0) b k) b.length ((tabF n b k).1.getD slot.toNat slt0).first 0 []).2≠0 then([],(bkF (nodN (n.getD 0 0) b k) (nodC (n.getD 0 0) b k) b.length ((tabF n b k).1.getD slot.toNat slt0).first 0 []).2)
  else((bkF (nodN (n.getD 0 0) b k) (nodC (n.getD 0 0) b k) b.length ((tabF n b k).1.getD slot.toNat slt0).first 0 []).1,0)
def findF (n:List Nat) (b:Ly) (k:Int) (h:Nat) (pl:Ly):Nat × Nat :=
  if(tabF n b k).2≠0 then(0,(tabF n b k).2)
  else if(fdF (nodN (n.getD 0 0) b k) (nodC (n.getD 0 0) b k) (fun p=>decide (nodH (n.getD 0 0) b k p=h) && decide (nodP (n.getD 0 0) b k p=pl)) b.length ((tabF n b k).1.getD (h%(tabF n b k).1.length) slt0).first 0)=(0,0)then(0,16)
  else(fdF (nodN (n.getD 0 0) b k) (nodC (n.getD 0 0) b k) (fun p=>decide (nodH (n.getD 0 0) b k p=h) && decide (nodP (n.getD 0 0) b k p=pl)) b.length ((tabF n b k).1.getD (h%(tabF n b k).1.length) slt0).first 0)
def dataF (n:List Nat) (b:Ly) (h:Nat) (nm9:Ly):List Nat × Nat :=
  if(findF n b 5 h nm9).2≠0 then([],(findF n b 5 h nm9).2)
  else if(dsF (fun p=>(datAt (n.getD 0 0) b p).1.nextField) (fun p=>(datAt (n.getD 0 0) b p).2) b.length (fldAt (n.getD 0 0) b (findF n b 5 h nm9).1).1.dat 18446744073709551615 []).2≠0 then([],(dsF (fun p=>(datAt (n.getD 0 0) b p).1.nextField) (fun p=>(datAt (n.getD 0 0) b p).2) b.length (fldAt (n.getD 0 0) b (findF n b 5 h nm9).1).1.dat 18446744073709551615 []).2)
  else((dsF (fun p=>(datAt (n.getD 0 0) b p).1.nextField) (fun p=>(datAt (n.getD 0 0) b p).2) b.length (fldAt (n.getD 0 0) b (findF n b 5 h nm9).1).1.dat 18446744073709551615 []).1,0)
section
variable {n:List Nat} {b o nm9 pl:Ly} {k slot:Int} {l:List Slt} {c d h p:Nat} {t:Slt} {x:List Nat}
theorem buck_bad (ht:tabF n b k=(l,c)) (hc:c≠0):buckF n b k slot=([],c):=by unfold buckF;rw[ht];rw[if_pos hc]
theorem buck_out (ht:tabF n b k=(l,c)) (hc:c=0) (hs:slot<0∨(l.length:Int)≤slot):buckF n b k slot=([],2):=by
  subst hc;unfold buckF;rw[ht];rw[if_neg (by simp),if_pos hs]
theorem buck_in (ht:tabF n b k=(l,c)) (hc:c=0) (h0:0≤slot) (hs:l[slot.toNat]? = some t) (hb:bkF (nodN (n.getD 0 0) b k) (nodC (n.getD 0 0) b k) b.length t.first 0 []=(x,d)):buckF n b k slot=if d≠0 then([],d)else(x,0):=by
  have A:=(List.getElem?_eq_some_iff.1 hs).1
  subst hc;unfold buckF;rw[ht]
  rw[if_neg (by simp),if_neg (by simp only[];omega)]
  have e:l.getD slot.toNat slt0=t:=by rw[List.getD_eq_getElem?_getD,hs];rfl
  simp only[e,hb]
theorem find_bad (ht:tabF n b k=(l,c)) (hc:c≠0):findF n b k h pl=(0,c):=by unfold findF;rw[ht];rw[if_pos hc]
theorem find_in (ht:tabF n b k=(l,c)) (hc:c=0) (hs:l[h%l.length]? = some t) (hb:fdF (nodN (n.getD 0 0) b k) (nodC (n.getD 0 0) b k) (fun p=>decide (nodH (n.getD 0 0) b k p=h) && decide (nodP (n.getD 0 0) b k p=pl)) b.length t.first 0=(p,d)):findF n b k h pl=if(p,d)=(0,0)then(0,16)else(p,d):=by
  subst hc;unfold findF;rw[ht]
  rw[if_neg (by simp)]
  have e:l.getD (h%l.length) slt0=t:=by rw[List.getD_eq_getElem?_getD,hs];rfl
  simp only[e,hb]
theorem data_bad (ht:findF n b 5 h nm9=(p,c)) (hc:c≠0):dataF n b h nm9=([],c):=by unfold dataF;rw[ht];rw[if_pos hc]
theorem data_in (ht:findF n b 5 h nm9=(p,c)) (hc:c=0) (hb:dsF (fun p=>(datAt (n.getD 0 0) b p).1.nextField) (fun p=>(datAt (n.getD 0 0) b p).2) b.length (fldAt (n.getD 0 0) b p).1.dat 18446744073709551615 []=(x,d)):dataF n b h nm9=if d≠0 then([],d)else(x,0):=by
  subst hc;unfold dataF;rw[ht]
  rw[if_neg (by simp)]
  simp only[hb]
end
section
variable {n m:List Nat} (hn:∀i,i<20→m.getD i 0=n.getD i 0) (b:Ly) (k slot:Int) (h:Nat) (pl:Ly)
include hn
theorem buck_n:buckF m b k slot=buckF n b k slot:=by unfold buckF;rw[tab_n hn,hn 0 (by omega)]
theorem find_n:findF m b k h pl=findF n b k h pl:=by unfold findF;rw[tab_n hn,hn 0 (by omega)]
theorem data_n:dataF m b h pl=dataF n b h pl:=by unfold dataF;rw[find_n hn,hn 0 (by omega)]
end
theorem buck_1 {n:List Nat} {b:Ly} {k slot:Int} (h:¬(k=4∨k=5)):buckF n b k slot=([],1):=buck_bad (tab_bad h) (by decide)
end Go.Wk
namespace Go.Wk
open Go Go.RowKit
end Go.Wk
namespace Go.Wk
open Go Go.RowKit
structure Ob where
  pos:Nat
  kind:Nat
  size:Nat
end Go.Wk
namespace Go.Wk
open Go Go.RowKit
section
variable {b c:Ly} {l:List Ob} {src e:Nat} {av items:List Nat}
end
end Go.Wk
namespace Go.Wk
open Go Go.RowKit
end Go.Wk
namespace Go.Wk
open Go Go.RowKit
end Go.Wk
namespace Go.Wk
open Go Go.RowKit
end Go.Wk
namespace Go.Wk
open Go Go.RowKit
end Go.Wk
namespace Go.Wk
open Go Go.RowKit
structure EntG where
  pos:Nat
  ent:Ent
  who:List Nat
end Go.Wk
namespace Go.Wk
open Go Go.RowKit
end Go.Wk
namespace Go.Wk
open Go
end Go.Wk
namespace Go.Wk
open Go Go.RowKit
end Go.Wk
namespace Go.Wk
open Go Go.RowKit
end Go.Wk
namespace Go.Wk
open Go Go.RowKit
end Go.Wk
namespace Go.Wk
open Go Go.RowKit
def hk (m:Mk):Nat × Nat × Nat × List UInt8:=(m.h.compat,m.h.incompat,m.h.state,m.h.file)
end Go.Wk
namespace Go.Wk
open Go Go.RowKit
end Go.Wk
namespace Go.Wk
open Go Go.RowKit
end Go.Wk
namespace Go.Wk
open Go Go.RowKit
end Go.Wk
namespace Go.Wk
open Go Go.RowKit
end Go.Wk
namespace Go.Wk
open Go Go.RowKit
section
variable {m:Mk} {B:Ly} {H:PHead} {l:List Ob} {es:List EntG} {rs:List Rec}
def n3 (l:List Ob):Nat:=(l.filter fun o=>decide (o.kind=3)).length
end
end Go.Wk
namespace Go.Wk
open Go Go.RowKit
def fst11 (b:Ly):Nat × Nat:=match (openF b).1 with|some y=>findF y.h.n y.b 4 (hashN (decide (y.h.incompat &&& 4≠0)) y.h.file [65,61,49]) [65,61,49]|none=>(1,1)
set_option maxRecDepth 1000000 in
theorem fst11_0:fst11 (imageOf [] 0)=(0,16):=by decide +kernel
theorem fst11_y {b:Ly} {y:PView} {c:Nat} (h:openF b=(some y,c)):fst11 b=findF y.h.n y.b 4 (hashN (decide (y.h.incompat &&& 4≠0)) y.h.file [65,61,49]) [65,61,49]:=by unfold fst11;rw[h]
theorem open_e11:∃y,openF (imageOf [] 0)=(some y,0)∧y.h.n.getD 8 0=0:=by
  rcases h:openF (imageOf [] 0)with⟨x,c⟩
  obtain⟨rfl,y,rfl,A⟩:=open_emptyE h
  exact⟨y,q,A⟩
theorem names_small:∀s∈namesF,s.length≤100:=by decide
theorem values_small:∀s∈valuesF,s.length≤100:=by decide
end Go.Wk
namespace Go.Wk
open Go Go.RowKit
def pan (v:Value):List PanicEntry:=[{v,recovered:=false}]
def isIfT (P:Program) (t:TypeId):Bool:=match P.underlying t with|some (.interface _)=>true|_=>false
def notIfT (P:Program) (t:TypeId):Bool:=match P.underlying t with|some (.interface _)=>false|some _=>true|none=>false
theorem notIfT_spec {P:Program} {t:TypeId} (h:notIfT P t=true):∃X,P.underlying t=some X∧∀Y,X≠.interface Y:=by
  unfold notIfT at h
  split at h
  · cases h
  · rename_i X h1 h2;exact⟨X,h2,fun Y e=>h1 Y e⟩
  cases h
theorem isIfT_spec {P:Program} {t:TypeId} (h:isIfT P t=true):∃X,P.underlying t=some (.interface X):=by
  unfold isIfT at h
  split at h
  · exact⟨_,by assumption⟩
  cases h
section
variable {P:Program} {ops:Array Oper} {Q:Exit→Act→World→Prop} {rest:List Oper}
variable {n:Nat} {A:Fr n} {D:List Deferred} {l:List (Nat × Value)} {w:World}
variable {d:Tmp} {op:Op} {ty:TypeId} {ps:String} {af:Array Edge} {g:Option (Nat × Bool)}
theorem door {vs:List Value} {m:Nat} (hn:m=n) (hle:Nat.ble vs.length n=true) :
    ∃B:Fr n,over B [] (argsAt 0 vs)={tmps:=vs.toArray ++ Array.replicate (m-vs.toArray.size) undef,defers:=[]}:=by
  have hle':vs.length≤n:=lB hle
  have D:(vs.toArray ++ Array.replicate (m-vs.toArray.size) undef).size=n:=by simp[hn];omega
  refine⟨⟨_,D⟩,over_same ?_⟩
  intro p G
  obtain⟨j,E,F⟩:=mem_argsAt G
  obtain⟨A,C⟩:=List.getElem?_eq_some_iff.1 F
  simp only[E,Nat.zero_add,Array.getD]
  rw[dif_pos (by simp;omega)]
  show(vs.toArray ++ _)[j]'_=_
  rw[Array.getElem_append_left (by simpa using A)]
  simpa using C
theorem enterD {f:FuncId} {fn:Func} {c:Code} {vs:List Value} {R:Ending→World→Prop} (hf:P.funcs[f]? = some fn) (hb:fn.body=some c) (hn:fn.ntmps=n) (hle:Nat.ble vs.length n=true)
    (h:∀B:Fr n,c.wp P (bodyPostD P fn R) (over B [] (argsAt 0 vs)) w):Calls P f vs.toArray w R:=by
  refine calls_of_wp_defers hf hb ?_
  obtain⟨B,A⟩:=door hn hle
  rw[← A];exact h B
theorem enterS {f:FuncId} {fn:Func} {c:Code} {vs:List Value} {u:FrameMode} {R:Ending→FrameMode→World→Prop} (hf:P.funcs[f]? = some fn) (hb:fn.body=some c) (hn:fn.ntmps=n) (hle:Nat.ble vs.length n=true)
    (h:∀(B:Fr n) (c₀:Go.Frame) (cs:List Go.Frame),c₀.mode=u→c.wpS P (bodyPostS P fn c₀ cs R) (over B [] (argsAt 0 vs)) (c₀ :: cs) w):CallsD P f vs.toArray u w R:=by
  refine callsD_of_wpS hf hb fun c₀ cs C=>?_
  obtain⟨B,A⟩:=door hn hle
  rw[← A];exact h B c₀ cs C
theorem r_makeFuncs {f:FuncId} {xs:List Operand} {vs:List Value} {d':Option Tmp} (hx:evs n l xs=some vs) :
    RunV P ⟨d',.makeFunc (.func f) #[] xs.toArray,ty,ps,af,g⟩ (over A D l).eval w (.func (.func f) #[] vs.toArray):=by
  have B:=evs_eval (A:=A) (D:=D) hx
  simp[RunV,execOp,Instr.makeFunc,B]
theorem over_cons (dd:Deferred) (v:Option Tmp) (x:Value):({over A D l with defers:=dd :: (over A D l).defers}.put v x)=match v with|some t=>over A (dd :: D) ((t,x) :: l)|none=>over A (dd :: D) l:=by
  have B:∀l:List (Nat × Value),({over A D l with defers:=dd :: (over A D l).defers}:Act)=over A (dd :: D) l:=by
    intro l
    rw[over_defers]
    induction l with
    | nil=>rfl
    | cons p r ih=>simp only[over,Act.put]at ih ⊢;simp only[← ih]
  rw[B]
  cases v <;> rfl
theorem st_defer {f:FuncId} {c:Operand} {ts:Array TypeId} {cs:List Value} {d':Option Tmp} (hc:ev n l c=some (.func (.func f) #[] cs.toArray))
    (k:wpList P ops Q rest (match d' with|some t=>over A (⟨.fn (.func f) cs.toArray,#[]⟩ :: D) ((t,undef) :: l)|none=>over A (⟨.fn (.func f) cs.toArray,#[]⟩ :: D) l) w) :
    wpList P ops Q (⟨d',.defer {callee:=.value c,args:=#[],argTypes:=ts},ty,ps,af,none⟩ :: rest) (over A D l) w:=by
  refine wl_plain q ?_
  unfold Oper.wp
  have B:(execOp (over A D l).eval ⟨d',.defer {callee:=.value c,args:=#[],argTypes:=ts},ty,ps,af,none⟩).run P w = .ok (.defer ⟨.fn (.func f) cs.toArray,#[]⟩) w:=by
    simp[execOp,resolve,ev_eval hc,Deferred.ofValue]
  rw[B]
  show wpList P ops Q rest ({over A D l with defers:=_ :: (over A D l).defers}.put d' undef) w
  rw[over_cons]
  cases d' <;> exact k
theorem st_callVP {f:FuncId} {c:Operand} {xs:List Operand} {ts:Array TypeId} {vs cs:List Value} {R:Ending→World→Prop} {d':Option Tmp} (hc:ev n l c=some (.func (.func f) #[] cs.toArray)) (hf:isFn P f=true) (ha:evs n l xs=some vs) (hr:Calls P f (vs ++ cs).toArray w R)
    (k:∀e w',R e w'→(∃v,e = .returned v∧wpList P ops Q rest ((over A D l).put d' v) w')∨∃ch,e = .panicked ch∧Q (.panic ch) (over A D l) w') :
    wpList P ops Q (⟨d',.call {callee:=.value c,args:=xs.toArray,argTypes:=ts},ty,ps,af,none⟩ :: rest) (over A D l) w:=by
  refine wl_plain q ?_
  unfold Oper.wp
  have E:=evs_eval (A:=A) (D:=D) ha
  have B:(execOp (over A D l).eval ⟨d',.call {callee:=.value c,args:=xs.toArray,argTypes:=ts},ty,ps,af,none⟩).run P w = .ok (.enter f (vs ++ cs).toArray) w:=by
    simp only[execOp,resolve,ev_eval hc,Deferred.ofValue,List.map_toArray,E]
    simp[invoke,run_callFunc hf]
  rw[B]
  refine hr.mono fun e w' C=>?_
  rcases k e w' C with⟨v,rfl,hk⟩|⟨ch,rfl,hk⟩
  · exact hk
  exact hk
theorem st_callP {f:FuncId} {xs:List Operand} {ts:Array TypeId} {vs:List Value} {R:Ending→World→Prop} (hf:isFn P f=true) (ha:evs n l xs=some vs) (hr:Calls P f vs.toArray w R)
    (k:∀e w',R e w'→(∃v,e = .returned v∧wpList P ops Q rest (over A D ((d,v) :: l)) w')∨∃ch,e = .panicked ch∧Q (.panic ch) (over A D l) w') :
    wpList P ops Q (⟨some d,.call {callee:=.value (.func f),args:=xs.toArray,argTypes:=ts},ty,ps,af,none⟩ :: rest) (over A D l) w:=by
  refine wl_plain q ?_
  unfold Oper.wp
  rw[exec_call hf ha]
  refine hr.mono fun e w' B=>?_
  rcases k e w' B with⟨v,rfl,hk⟩|⟨ch,rfl,hk⟩
  · exact hk
  exact hk
theorem r_mkIface {x:Operand} {t:TypeId} {v:Value} {d':Option Tmp} (hT:notIfT P t=true) (hx:ev n l x=some v) :
    RunV P ⟨d',.makeInterface t x,ty,ps,af,g⟩ (over A D l).eval w (.iface t v):=by
  obtain⟨X,hT,B⟩:=notIfT_spec hT
  cases X <;> simp_all [RunV,execOp,ev_eval hx,Instr.makeInterface,run_underlying hT]
theorem st_panic {x:Operand} {t:TypeId} {v:Value} {d':Option Tmp} (hx:ev n l x=some (.iface t v)) (k:Q (.panic (pan (.iface t v))) (over A D l) w) :
    wpList P ops Q (⟨d',.panic x,ty,ps,af,none⟩ :: rest) (over A D l) w:=by
  refine wl_plain q ?_
  unfold Oper.wp
  have B:(execOp (over A D l).eval ⟨d',.panic x,ty,ps,af,none⟩).run P w = .halt (.panic (.iface t v)) w:=by
    simp[execOp,ev_eval hx,Instr.panic,goPanic]
  rw[B];exact k
theorem pan_post {fn:Func} {R:Ending→World→Prop} {ch:List PanicEntry} (h:R (.panicked ch) w):bodyPost P fn R (.panic ch) (over A [] l) w:=⟨over_defers,h⟩
theorem eqIn_in {t s:TypeId} {v:Value} {X} (w:World) (dd:Nat) (hT:P.underlying t=some (.interface X)):(Op.equalIn (dd+1) t (.iface s v) .nilIface).run P w = .ok false w:=by
  simp only[Op.equalIn,Sem.run_bind,run_underlying hT,Result.andThen_ok,Sem.run_pure]
theorem eqIn_ii {t:TypeId} {X} (w:World) (dd:Nat) (hT:P.underlying t=some (.interface X)):(Op.equalIn (dd+1) t .nilIface .nilIface).run P w = .ok true w:=by
  simp only[Op.equalIn,Sem.run_bind,run_underlying hT,Result.andThen_ok,Sem.run_pure]
theorem r_neqIN {x:Operand} {t u s:TypeId} {v:Value} (hx:ev n l x=some (.iface s v)) (hT:isIfT P t=true) :
    RunV P ⟨some d,.binOp .neq t x (.const .nilIface) u,ty,ps,af,g⟩ (over A D l).eval w (.bool true):=by
  obtain⟨X,hT⟩:=isIfT_spec hT
  have C:(over A D l).eval (.const .nilIface) = .nilIface:=rfl
  have E:(eqGuard .neq t x (.const .nilIface) (.iface s v) .nilIface).run P w = .ok () w:=by unfold eqGuard;simp
  have B:(binOp .neq t (.iface s v) .nilIface).run P w = .ok (.bool true) w:=by
    simp only[binOp,Op.equal,Op.maxDepth,Sem.run_bind,eqIn_in w 9999 hT,Result.andThen_ok,Sem.run_pure,Bool.not_false]
  simp[RunV,execOp,ev_eval hx,C,E,B]
theorem r_neqNN {x:Operand} {t u:TypeId} (hx:ev n l x=some .nilIface) (hT:isIfT P t=true) :
    RunV P ⟨some d,.binOp .neq t x (.const .nilIface) u,ty,ps,af,g⟩ (over A D l).eval w (.bool false):=by
  obtain⟨X,hT⟩:=isIfT_spec hT
  have C:(over A D l).eval (.const .nilIface) = .nilIface:=rfl
  have E:(eqGuard .neq t x (.const .nilIface) .nilIface .nilIface).run P w = .ok () w:=by unfold eqGuard;simp
  have B:(binOp .neq t .nilIface .nilIface).run P w = .ok (.bool false) w:=by
    simp only[binOp,Op.equal,Op.maxDepth,Sem.run_bind,eqIn_ii w 9999 hT,Result.andThen_ok,Sem.run_pure,Bool.not_true]
  simp[RunV,execOp,ev_eval hx,C,E,B]
end
section
variable {P:Program} {ops:Array Oper} {QS:Exit→Act→List Go.Frame→World→Prop} {cs:List Go.Frame} {rest:List Nat}
variable {n:Nat} {A:Fr n} {D:List Deferred} {l:List (Nat × Value)} {w:World}
theorem sr_run {i d:Nat} {o:Oper} (v:Value) (ho:ops[i]? = some o) (hg:o.guard=none) (hd:o.dst=some d) (hr:RunV P o (over A D l).eval w v) (k:wpOpsS P ops QS rest (over A D ((d,v) :: l)) cs w) :
    wpOpsS P ops QS (i :: rest) (over A D l) cs w:=by
  have B:Region.wanted o (yielded ops (over A D l).tmps)=true:=by simp[Region.wanted,hg]
  unfold RunV at hr
  simp only[wpOpsS,ho,B,if_true,hr,Oper.upon,hd]
  exact k
theorem sr_rec {i d:Nat} {o:Oper} {ts:Array TypeId} (ho:ops[i]? = some o) (hg:o.guard=none) (hd:o.dst=some d) (hop:o.op = .call {callee:=.builtin .recover,args:=#[],argTypes:=ts}) {v:Value} {older:List PanicEntry} {c:Go.Frame} {cs':List Go.Frame} (hcs:cs=c :: cs')
    (hm:c.mode = .panicking ({v,recovered:=false} :: older)) (k:wpOpsS P ops QS rest (over A D ((d,v) :: l)) ({c with mode:=.panicking ({v,recovered:=true} :: older)} :: cs') w) :
    wpOpsS P ops QS (i :: rest) (over A D l) cs w:=by
  have E:Region.wanted o (yielded ops (over A D l).tmps)=true:=by simp[Region.wanted,hg]
  have C:(execOp (over A D l).eval o).run P w = .ok .recover w:=by
    simp[execOp,hop,resolve,invoke,builtin]
  subst hcs
  have B:recoverD (c :: cs')=some (v,{c with mode:=.panicking ({v,recovered:=true} :: older)} :: cs'):=by simp[recoverD,hm]
  simp only[wpOpsS,ho,E,if_true,C,B,hd]
  exact k
theorem sr_rec0 {i d:Nat} {o:Oper} {ts:Array TypeId} (ho:ops[i]? = some o) (hg:o.guard=none) (hd:o.dst=some d) (hop:o.op = .call {callee:=.builtin .recover,args:=#[],argTypes:=ts}) {c:Go.Frame} {cs':List Go.Frame} (hcs:cs=c :: cs')
    (hm:c.mode = .returning) (k:wpOpsS P ops QS rest (over A D ((d,.nilIface) :: l)) cs w) :
    wpOpsS P ops QS (i :: rest) (over A D l) cs w:=by
  have E:Region.wanted o (yielded ops (over A D l).tmps)=true:=by simp[Region.wanted,hg]
  have C:(execOp (over A D l).eval o).run P w = .ok .recover w:=by
    simp[execOp,hop,resolve,invoke,builtin]
  subst hcs
  have B:recoverD (c :: cs')=none:=by simp[recoverD,hm]
  simp only[wpOpsS,ho,E,if_true,C,B,hd]
  exact k
theorem sr_nil (k:QS .normal (over A D l) cs w):wpOpsS P ops QS [] (over A D l) cs w:=k
end
section
variable {P:Program} {n:Nat} {A:Fr n} {l:List (Nat × Value)} {w:World}
theorem retS {fn:Func} {c₀:Go.Frame} {cs:List Go.Frame} {R:Ending→FrameMode→World→Prop} {u':FrameMode} {e:Exit} (he:isEnd e) (hr:fn.results = #[]) (hR:R (.returned (.tuple #[])) u' w) :
    bodyPostS P fn c₀ cs R e (over A [] l) ({c₀ with mode:=u'} :: cs) w:=by
  have h:=results_run (P:=P) (w:=w) (A:=A) (D:=[]) (l:=l) (fn:=fn) (rs:=[]) (vs:=[]) hr trivial
  cases e with
  | normal=>exact⟨over_defers,u',q,_,h,hR⟩
  | ret=>exact⟨over_defers,u',q,_,h,hR⟩
  | _=>exact he.elim
theorem retS0 {fn:Func} {c₀:Go.Frame} {cs:List Go.Frame} {R:Ending→FrameMode→World→Prop} {u:FrameMode} {e:Exit} (hc:c₀.mode=u) (he:isEnd e) (hr:fn.results = #[]) (hR:R (.returned (.tuple #[])) u w) :
    bodyPostS P fn c₀ cs R e (over A [] l) (c₀ :: cs) w:=by
  have h:({c₀ with mode:=u}:Go.Frame)=c₀:=by subst hc;rfl
  have:=retS (P:=P) (A:=A) (l:=l) (c₀:=c₀) (cs:=cs) (u':=u) he hr hR
  rwa [h]at this
theorem leave1 {fn:Func} {R:Ending→World→Prop} {t ty:Nat} {d:Deferred} {u:FrameMode} {f:FuncId} {cs:List Value} (hu:u≠.run) (hd:d=⟨.fn (.func f) cs.toArray,#[]⟩) (hf:isFn P f=true) (hr:fn.results = #[.cell t ty]) {p:Addr} (ht:ev n l (.tmp t)=some (.pointer (some p)))
    (h:CallsD P f cs.toArray u w fun e u' w'=>e = .returned (.tuple #[])∧settle u' = .returning∧∃v,(loadVar ty p).run P w' = .ok v w'∧R (.returned v) w') :
    Leaves P fn (over A [d] l).tmps R [d] u w:=by
  subst hd
  refine leaves_cons hu (f:=f) (args:=cs.toArray) (by simp[invoke,run_callFunc hf]) (h.mono ?_)
  rintro e u' w' ⟨rfl,C,v,D,B⟩
  show Leaves P fn _ R [] (settle u') w'
  rw[C]
  exact⟨v,results_run (A:=A) (rs:=[.cell t ty]) (vs:=[v]) hr ⟨⟨p,ht,D⟩,tV⟩,B⟩
end
section
variable {P:Program} {n:Nat} {A:Fr n} {D:List Deferred} {l:List (Nat × Value)} {w:World} {d:Option Tmp} {ty:TypeId} {ps:String} {af:Array Edge} {g:Option (Nat × Bool)}
theorem r_assertT {x:Operand} {t a:TypeId} {v:Value} (hT:notIfT P a=true) (hx:ev n l x=some (.iface a v)) :
    RunV P ⟨d,.typeAssert x t a true,ty,ps,af,g⟩ (over A D l).eval w (.tuple #[v,.bool true]):=by
  obtain⟨X,hT,B⟩:=notIfT_spec hT
  cases X <;> simp_all [RunV,execOp,ev_eval hx,Instr.typeAssert,run_underlying hT]
end
end Go.Wk
namespace Go.Proofs.YtllaambooilnlaaGreat
open Go Go.Wk Go.RowKit
set_option linter.unusedVariables false
set_option linter.unusedSimpArgs false
attribute [local irreducible] wpList wpQuiet wpStill wpMix Code.wp Calls bodyPost
variable {w:World} {Q:Nat→Prop}
noncomputable abbrev Zp:=Tryz.prog
theorem el5:elemIs Zp 5 1=true:=by kernel_rfl
theorem one5:isOne Zp 5=true:=by kernel_rfl
theorem u34:Zp.underlying 34=some (.slice 5):=by kernel_rfl
theorem u42:Zp.underlying 42=some (.int .u64):=by kernel_rfl
theorem u5:Zp.underlying 5=some (.int .u8):=by kernel_rfl
theorem leSize_any (uQ:Up w Q) (n:Int) (a0:(-9223372036854775808≤n∧n<9223372036854775808)) :
  Calls Zp 126 #[(.int .i64 (n:Int))] w fun en w'=>∃r0:Bool,en = .returned (.bool r0)∧Md [] w w'∧sizeOk n=r0:=by
 have M:=Md.refl [] w;have H:=uQ;refine enter (n:=17) Tryz.func126 q q q fun B=>ns (an q (nm q (st _ (r_eq (a:=n) (b:=1) q q) (mv q ?_))));refine part_n (t:=5) q (fun C=>?_) (fun C=>?_)
 ·(have F:=dT C);refine sk C (sk C (st _ (r_pick_t q C q) (mv q (sk q (sk q (st _ (r_pick_t q q q) (mv q (sk q (sk q (st _ (r_pick_t q q q) (ar q ?_)))))))))));exact ret1L (v:=(.bool true)) trivial q ⟨q,tV⟩ ⟨true,q,M,(by simp only[sizeOk];exact decide_eq_true (by omega))⟩
 (have F:=dF C);refine sg C (r_move q) (sg C (r_eq (a:=n) (b:=2) q q) (st _ (r_pick_f q C q) (mv q ?_)));refine part_n (t:=9) q (fun D=>?_) (fun D=>?_)
 ·(have G:=dT D);refine sk D (sk D (st _ (r_pick_t q D q) (mv q (sk q (sk q (st _ (r_pick_t q q q) (ar q ?_)))))));exact ret1L (v:=(.bool true)) trivial q ⟨q,tV⟩ ⟨true,q,M,(by simp only[sizeOk];exact decide_eq_true (by omega))⟩
 (have G:=dF D);refine sg D (r_move q) (sg D (r_eq (a:=n) (b:=4) q q) (st _ (r_pick_f q D q) (mv q ?_)));refine part_n (t:=13) q (fun A=>?_) (fun A=>?_)
 ·(have E:=dT A);refine sk A (sk A (st _ (r_pick_t q A q) (ar q ?_)));exact ret1L (v:=(.bool true)) trivial q ⟨q,tV⟩ ⟨true,q,M,(by simp only[sizeOk];exact decide_eq_true (by omega))⟩
 (have E:=dF A);refine sg A (r_move q) (sg A (r_eq (a:=n) (b:=8) q q) (st _ (r_pick_f q A q) (ar q ?_)));exact ret1L (v:=(.bool ((decide (n=8))))) trivial q ⟨q,tV⟩ ⟨(decide (n=8)),q,M,(by simp only[sizeOk];exact(decide_eq_decide.2 (by omega)))⟩
theorem refGet_any (uQ:Up w Q) {v0:Value} {l:Ly} (h0:Ls tB8 w Q v0 l) (a:Int) (a1:(-9223372036854775808≤a∧a<9223372036854775808)) (n:Int) (a2:(-9223372036854775808≤n∧n<9223372036854775808)) :
  Calls Zp 106 #[v0,(.int .i64 (a:Int)),(.int .i64 (n:Int))] w fun en w'=>∃r0:Nat,∃r1:Bool,en = .returned (.tuple #[(.int .u64 r0),(.bool r1)])∧Md [] w w'∧r0<18446744073709551616∧getF l a n=(r0,r1):=by
 have u:=h0.len63;have M:=Md.refl [] w;have p:=uQ;have Z:∀b,Q b→Q b:=fun _ h=>h;have P:∀b,Q b→b<w.heap.size→Q b:=fun _ h _=>h;refine enter (n:=59) Tryz.func106 q q q fun B=>ns (asg q (an q (c_seq (c_seq ?_))));refine c_join (fun b=>[(41,.bool b),(0,v0),(1,(.int .i64 (a:Int))),(2,(.int .i64 (n:Int))),(6,(.int .u64 ((0:Nat):Int))),(7,(.bool false))]) (fun b w'=>w=w'∧(b=true↔¬(sizeOk n=true∧0≤a∧a+n≤l.length))) ?_ ?_
 ·refine mv q (st _ (r_ne (a:=n) (b:=1) q q) (mv q ?_));refine part_n (t:=12) q (fun H=>?_) (fun H=>?_)
  ·(have T:=dT H);refine sg H (r_move q) (sg H (r_ne (a:=n) (b:=2) q q) (st _ (r_pick_t q H q) (mv q ?_)));refine part_n (t:=16) q (fun I=>?_) (fun I=>?_)
   ·(have U:=dT I);refine sg I (r_move q) (sg I (r_ne (a:=n) (b:=4) q q) (st _ (r_pick_t q I q) (mv q ?_)));refine part_n (t:=20) q (fun J=>?_) (fun J=>?_)
    ·(have V:=dT J);refine sg J (r_move q) (sg J (r_ne (a:=n) (b:=8) q q) (st _ (r_pick_t q J q) (mv q ?_)));refine part_n (t:=24) q (fun K=>?_) (fun K=>?_)
     ·(have W:=dT K);refine sk K (sk K (st _ (r_pick_t q K q) (mv q (sk q (sk q (sk q (sk q (st _ (r_pick_t q q q) (mv q (sk q (sk q (sk q (sk q ?_)))))))))))));refine sk q (sk q (st _ (r_pick_t q q q) (st_nil ?_)));refine⟨q,jn true ?_ ?_⟩
      ·exact⟨q,q,q,q,q,q,tV⟩
      ·exact⟨q,by rw[sizeOk_iff];simp;omega⟩
     ·(have W:=dF K);refine sg K (r_move q) (sg K (r_lt (a:=a) (b:=0) q q) (st _ (r_pick_f q K q) (mv q ?_)));refine part_n (t:=28) q (fun C=>?_) (fun C=>?_)
      ·(have E:=dT C);refine sk C (sk C (sk C (sk C (st _ (r_pick_t q C q) (mv q (sk q (sk q (sk q (sk q (sk q (sk q (st _ (r_pick_t q q q) (st_nil ?_)))))))))))));refine⟨q,jn true ?_ ?_⟩
       ·exact⟨q,q,q,q,q,q,tV⟩
       ·exact⟨q,by rw[sizeOk_iff];simp;omega⟩
      ·(have E:=dF C);refine sg C (r_move q) (sg C (r_move q) (sg C (r_len q u34 h0.shp) (sg C (r_gt (a:=a) (b:=((l.length:Nat):Int)) q q) (st _ (r_pick_f q C q) (mv q ?_)))));refine part_n (t:=34) q (fun A=>?_) (fun A=>?_)
       ·(have F:=dT A);refine sk A (sk A (sk A (sk A (sk A (sk A (st _ (r_pick_t q A q) (st_nil ?_)))))));refine⟨q,jn true ?_ ?_⟩
        ·exact⟨q,q,q,q,q,q,tV⟩
        ·exact⟨q,by rw[sizeOk_iff];simp;omega⟩
       ·(have F:=dF A);refine sg A (r_move q) (sg A (r_len q u34 h0.shp) (sg A (r_move q) (sg A (r_subI (a:=((l.length:Nat):Int)) (b:=a) q q (by omega)) (sg A (r_move q) (sg A (r_lt (a:=((l.length:Nat):Int)-a) (b:=n) q q) (st _ (r_pick_f q A q) ?_))))));refine part_n (t:=41) q (fun D=>?_) (fun D=>?_)
        ·(have G:=dT D);refine st_nil ?_;refine⟨q,jn true ?_ ?_⟩
         ·exact⟨fitB q D,q,q,q,q,q,tV⟩
         ·exact⟨q,by rw[sizeOk_iff];simp;omega⟩
        ·(have G:=dF D);refine st_nil ?_;refine⟨q,jn false ?_ ?_⟩
         ·exact⟨fitB q D,q,q,q,q,q,tV⟩
         ·exact⟨q,by rw[sizeOk_iff];simp;omega⟩
    ·(have V:=dF J);refine sk J (sk J (st _ (r_pick_f q J q) (mv q (sg q (r_move q) (sg q (r_lt (a:=a) (b:=0) q q) (st _ (r_pick_f q q q) (mv q ?_)))))));refine part_n (t:=28) q (fun C=>?_) (fun C=>?_)
     ·(have E:=dT C);refine sk C (sk C (sk C (sk C (st _ (r_pick_t q C q) (mv q (sk q (sk q (sk q (sk q (sk q (sk q (st _ (r_pick_t q q q) (st_nil ?_)))))))))))));refine⟨q,jn true ?_ ?_⟩
      ·exact⟨q,q,q,q,q,q,tV⟩
      ·exact⟨q,by rw[sizeOk_iff];simp;omega⟩
     ·(have E:=dF C);refine sg C (r_move q) (sg C (r_move q) (sg C (r_len q u34 h0.shp) (sg C (r_gt (a:=a) (b:=((l.length:Nat):Int)) q q) (st _ (r_pick_f q C q) (mv q ?_)))));refine part_n (t:=34) q (fun A=>?_) (fun A=>?_)
      ·(have F:=dT A);refine sk A (sk A (sk A (sk A (sk A (sk A (st _ (r_pick_t q A q) (st_nil ?_)))))));refine⟨q,jn true ?_ ?_⟩
       ·exact⟨q,q,q,q,q,q,tV⟩
       ·exact⟨q,by rw[sizeOk_iff];simp;omega⟩
      ·(have F:=dF A);refine sg A (r_move q) (sg A (r_len q u34 h0.shp) (sg A (r_move q) (sg A (r_subI (a:=((l.length:Nat):Int)) (b:=a) q q (by omega)) (sg A (r_move q) (sg A (r_lt (a:=((l.length:Nat):Int)-a) (b:=n) q q) (st _ (r_pick_f q A q) ?_))))));refine part_n (t:=41) q (fun D=>?_) (fun D=>?_)
       ·(have G:=dT D);refine st_nil ?_;refine⟨q,jn true ?_ ?_⟩
        ·exact⟨fitB q D,q,q,q,q,q,tV⟩
        ·exact⟨q,by rw[sizeOk_iff];simp;omega⟩
       ·(have G:=dF D);refine st_nil ?_;refine⟨q,jn false ?_ ?_⟩
        ·exact⟨fitB q D,q,q,q,q,q,tV⟩
        ·exact⟨q,by rw[sizeOk_iff];simp;omega⟩
   ·(have U:=dF I);refine sk I (sk I (st _ (r_pick_f q I q) (mv q (sk q (sk q (st _ (r_pick_f q q q) (mv q (sg q (r_move q) (sg q (r_lt (a:=a) (b:=0) q q) (st _ (r_pick_f q q q) (mv q ?_)))))))))));refine part_n (t:=28) q (fun C=>?_) (fun C=>?_)
    ·(have E:=dT C);refine sk C (sk C (sk C (sk C (st _ (r_pick_t q C q) (mv q (sk q (sk q (sk q (sk q (sk q (sk q (st _ (r_pick_t q q q) (st_nil ?_)))))))))))));refine⟨q,jn true ?_ ?_⟩
     ·exact⟨q,q,q,q,q,q,tV⟩
     ·exact⟨q,by rw[sizeOk_iff];simp;omega⟩
    ·(have E:=dF C);refine sg C (r_move q) (sg C (r_move q) (sg C (r_len q u34 h0.shp) (sg C (r_gt (a:=a) (b:=((l.length:Nat):Int)) q q) (st _ (r_pick_f q C q) (mv q ?_)))));refine part_n (t:=34) q (fun A=>?_) (fun A=>?_)
     ·(have F:=dT A);refine sk A (sk A (sk A (sk A (sk A (sk A (st _ (r_pick_t q A q) (st_nil ?_)))))));refine⟨q,jn true ?_ ?_⟩
      ·exact⟨q,q,q,q,q,q,tV⟩
      ·exact⟨q,by rw[sizeOk_iff];simp;omega⟩
     ·(have F:=dF A);refine sg A (r_move q) (sg A (r_len q u34 h0.shp) (sg A (r_move q) (sg A (r_subI (a:=((l.length:Nat):Int)) (b:=a) q q (by omega)) (sg A (r_move q) (sg A (r_lt (a:=((l.length:Nat):Int)-a) (b:=n) q q) (st _ (r_pick_f q A q) ?_))))));refine part_n (t:=41) q (fun D=>?_) (fun D=>?_)
      ·(have G:=dT D);refine st_nil ?_;refine⟨q,jn true ?_ ?_⟩
       ·exact⟨fitB q D,q,q,q,q,q,tV⟩
       ·exact⟨q,by rw[sizeOk_iff];simp;omega⟩
      ·(have G:=dF D);refine st_nil ?_;refine⟨q,jn false ?_ ?_⟩
       ·exact⟨fitB q D,q,q,q,q,q,tV⟩
       ·exact⟨q,by rw[sizeOk_iff];simp;omega⟩
  ·(have T:=dF H);refine sk H (sk H (st _ (r_pick_f q H q) (mv q (sk q (sk q (st _ (r_pick_f q q q) (mv q (sk q (sk q (st _ (r_pick_f q q q) (mv q (sg q (r_move q) (sg q (r_lt (a:=a) (b:=0) q q) ?_)))))))))))));refine st _ (r_pick_f q q q) (mv q ?_);refine part_n (t:=28) q (fun C=>?_) (fun C=>?_)
   ·(have E:=dT C);refine sk C (sk C (sk C (sk C (st _ (r_pick_t q C q) (mv q (sk q (sk q (sk q (sk q (sk q (sk q (st _ (r_pick_t q q q) (st_nil ?_)))))))))))));refine⟨q,jn true ?_ ?_⟩
    ·exact⟨q,q,q,q,q,q,tV⟩
    ·exact⟨q,by rw[sizeOk_iff];simp;omega⟩
   ·(have E:=dF C);refine sg C (r_move q) (sg C (r_move q) (sg C (r_len q u34 h0.shp) (sg C (r_gt (a:=a) (b:=((l.length:Nat):Int)) q q) (st _ (r_pick_f q C q) (mv q ?_)))));refine part_n (t:=34) q (fun A=>?_) (fun A=>?_)
    ·(have F:=dT A);refine sk A (sk A (sk A (sk A (sk A (sk A (st _ (r_pick_t q A q) (st_nil ?_)))))));refine⟨q,jn true ?_ ?_⟩
     ·exact⟨q,q,q,q,q,q,tV⟩
     ·exact⟨q,by rw[sizeOk_iff];simp;omega⟩
    ·(have F:=dF A);refine sg A (r_move q) (sg A (r_len q u34 h0.shp) (sg A (r_move q) (sg A (r_subI (a:=((l.length:Nat):Int)) (b:=a) q q (by omega)) (sg A (r_move q) (sg A (r_lt (a:=((l.length:Nat):Int)-a) (b:=n) q q) (st _ (r_pick_f q A q) ?_))))));refine part_n (t:=41) q (fun D=>?_) (fun D=>?_)
     ·(have G:=dT D);refine st_nil ?_;refine⟨q,jn true ?_ ?_⟩
      ·exact⟨fitB q D,q,q,q,q,q,tV⟩
      ·exact⟨q,by rw[sizeOk_iff];simp;omega⟩
     ·(have G:=dF D);refine st_nil ?_;refine⟨q,jn false ?_ ?_⟩
      ·exact⟨fitB q D,q,q,q,q,q,tV⟩
      ·exact⟨q,by rw[sizeOk_iff];simp;omega⟩
 ·rintro c B _ ⟨rfl,L⟩
  refine c_boolcase c (fun D=>?_) (fun D=>?_)
  ·replace L:=L.1 D;refine c_then (c_if_t q D (ns (asg q (ar q (r_then ?_)))));exact retL (vs:=[(.int .u64 ((0:Nat):Int)),(.bool false)]) trivial q ⟨q,q,tV⟩ q ⟨0,false,q,M,(by omega),(getF_no (by omega))⟩
  ·replace L:=mt L.2 (by rw[D];simp);refine c_then (c_if_f q D (c_skip (c_then (c_seq ?_))));replace L:=Classical.not_not.1 L;have y:=sizeOk_le L.1;refine c_region (an q (c_seq (nm q (st _ (r_subI (a:=n) (b:=1) q q (by omega)) (asg q (nt (c_block ?_)))))))
   refine loop2 (fun(v:Nat) (i:Int)=>[(8,(.int .u64 v)),(9,(.int .i64 (i:Int))),(0,v0),(1,(.int .i64 (a:Int))),(6,(.int .u64 ((0:Nat):Int))),(7,(.bool false))]) (fun(v:Nat) (i:Int) w'=>∃Q':Nat→Prop,(∀b,Q' b→Q b)∧(∀b,Q b→b<w.heap.size→Q' b)∧Up w' Q'∧Md [] w w'∧Ls tB8 w' Q' v0 l∧(-1≤i∧i<n)∧v=leN ((l.drop (a+(i+1)).toNat).take (n-1-i).toNat)∧v<18446744073709551616) (fun(v:Nat) (i:Int)=>(i+1).toNat) (x0:=0) (x1:=(n-1)) ?_ ?_ ?_
   ·exact⟨q,q,q,q,q,q,tV⟩
   ·exact⟨Q,Z,P,uQ,M,h0,(by omega),(by simp[show n-1-(n-1)=0 by omega,leN]),(by omega)⟩
   ·clear M uQ Z P h0
    rintro v i B z ⟨g,Z,P,uQ,M,h0,e,N,f⟩;refine c_seq (nm q (st _ (r_ge (a:=i) (b:=0) q q) (nt ?_)));refine c_if q (fun R=>?_) (fun R=>?_)
    ·(have X:=dT R);have j:=leN_lt_of (l:=(l.drop (a+(i+1)).toNat).take (n-1-i).toNat) (k:=7) (by simp;omega);rw[← N]at j;refine c_skip (c_then (c_seq (c_block (c_region (mv q (st _ (r_mulN (a:=v) (b:=256) 18446744073709551616 q q q (by omega)) (m2 q q (mv q (st _ (r_addI (a:=a) (b:=i) q q (by omega)) (st _ (r_indexZ (i:=a+i) 1 q q u34 el5 h0.shp (by omega)) ?_))))))))));obtain⟨S,Y⟩:=getE (l:=l) (i:=(a+i).toNat) (by omega);obtain⟨x,d,O⟩:=h0.get Y;obtain⟨rfl,_⟩:=d;have r:=UInt8.toNat_lt S;replace O:At _ v0 (((a+i).toNat)*1) [(b8 S)]:=O;refine st _ ((r_loadE (kk:=((a+i).toNat)*1) 0 q q one5 O q).to (b:=(b8 S)) q) (st _ (r_convN (a:=S.toNat) 18446744073709551616 q (by rw[u5];rfl) u42 q (lj (UInt8.toNat_lt _) (by decide))) (st _ (r_addN (a:=(v*256)) (b:=S.toNat) 18446744073709551616 q q q (by omega)) (asg q (st_nil ?_))));clear O;refine n_block (c_then (c_region (mv q (st _ (r_subI (a:=i) (b:=1) q q (by omega)) (an q ?_)))));refine next2 (x0:=((v*256)+S.toNat)) (x1:=(i-1)) (by omega) ⟨(fitI q (by rfl)),(fitI q (by omega)),q,q,q,q,tV⟩ ⟨g,Z,P,uQ,M,h0,(by omega),(by rw[N];have o:=leN_step (k:=(n-1-i).toNat) Y;rw[show(n-1-(i-1)).toNat=(n-1-i).toNat+1 by omega,show(a+(i-1+1)).toNat=(a+i).toNat by omega,o,show(a+i).toNat+1=(a+(i+1)).toNat by omega];omega),(by omega)⟩
    ·(have X:=dF R);refine c_exit (x_then (x_then (x_hit (c_then (nm q (asg q (ar q ?_)))))));exact retL (vs:=[(.int .u64 v),(.bool true)]) trivial q ⟨q,q,tV⟩ q ⟨v,true,q,M,(by assumption),(by rw[getF,if_pos (by omega),N,show i = -1 by omega];simp)⟩
theorem fn126:isFn Zp 126=true:=by kernel_rfl
theorem leGet_any (uQ:Up w Q) {v0:Value} {l:Ly} (h0:Ls tB8 w Q v0 l) (a:Int) (a1:(-9223372036854775808≤a∧a<9223372036854775808)) (n:Int) (a2:(-9223372036854775808≤n∧n<9223372036854775808)) :
  Calls Zp 112 #[v0,(.int .i64 (a:Int)),(.int .i64 (n:Int))] w fun en w'=>∃r0:Nat,∃r1:Bool,en = .returned (.tuple #[(.int .u64 r0),(.bool r1)])∧Md [] w w'∧r0<18446744073709551616∧getF l a n=(r0,r1):=by
 have p:=h0.len63;have M:=Md.refl [] w;have j:=uQ;have P:∀b,Q b→Q b:=fun _ h=>h;have F:∀b,Q b→b<w.heap.size→Q b:=fun _ h _=>h;refine enter (n:=42) Tryz.func112 q q q fun B=>ns (asg q (an q (c_seq (nm q (st_call fn126 q (leSize_any uQ (n) (by omega)) ?_)))));rintro en u ⟨Z,rfl,R,d⟩;refine rv ?_;obtain⟨h0,uQ,M⟩:=k3 R h0 uQ M;refine st _ (r_not q) (mv q ?_);refine part_n (t:=13) q (fun C=>?_) (fun C=>?_)
 ·(have J:=bnt C);refine sk C (sk C (st _ (r_pick_t q C q) (mv q (sk q (sk q (sk q (sk q (sk q (sk q (st _ (r_pick_t q q q) (nt (c_if_t q q (ns ?_)))))))))))));refine asg q (ar q (r_then ?_));exact retL (vs:=[(.int .u64 ((0:Nat):Int)),(.bool false)]) trivial q ⟨q,q,tV⟩ q ⟨0,false,q,M,(by omega),(getF_no (by rintro⟨U,V,W⟩;simp_all))⟩
 ·(have J:=bnf C);refine sg C (r_move q) (sg C (r_lt (a:=a) (b:=0) q q) (st _ (r_pick_f q C q) (mv q ?_)));refine part_n (t:=17) q (fun A=>?_) (fun A=>?_)
  ·(have K:=dT A);refine sk A (sk A (sk A (sk A (sk A (sk A (st _ (r_pick_t q A q) (nt (c_if_t q q (ns (asg q (ar q ?_)))))))))));refine r_then ?_;exact retL (vs:=[(.int .u64 ((0:Nat):Int)),(.bool false)]) trivial q ⟨q,q,tV⟩ q ⟨0,false,q,M,(by omega),(getF_no (by rintro⟨U,V,W⟩;omega))⟩
  ·(have K:=dF A);have e:=sizeOk_le (n:=n) (by simp_all);refine sg A (r_move q) (sg A (r_move q) (sg A (r_len q u34 h0.shp) (sg A (r_move q) (sg A (r_subI (a:=((l.length:Nat):Int)) (b:=n) q q (by omega)) (sg A (r_gt (a:=a) (b:=((l.length:Nat):Int)-n) q q) (st _ (r_pick_f q A q) (nt ?_)))))));refine c_if q (fun G=>?_) (fun G=>?_)
   ·(have L:=dT G);refine ns (asg q (ar q (r_then ?_)));exact retL (vs:=[(.int .u64 ((0:Nat):Int)),(.bool false)]) trivial q ⟨q,q,tV⟩ q ⟨0,false,q,M,(by omega),(getF_no (by rintro⟨U,V,W⟩;omega))⟩
   ·(have L:=dF G);refine c_skip (c_then (c_seq ?_));have T:sizeOk n=true∧0≤a∧a+n≤l.length:=⟨by simp_all,by omega,by omega⟩;have e:=sizeOk_le T.1;refine c_region (an q (c_seq (nm q (st _ (r_subI (a:=n) (b:=1) q q (by omega)) (asg q (nt (c_block ?_)))))))
    refine loop2 (fun(v:Nat) (i:Int)=>[(8,(.int .u64 v)),(9,(.int .i64 (i:Int))),(0,v0),(1,(.int .i64 (a:Int))),(6,(.int .u64 ((0:Nat):Int))),(7,(.bool false))]) (fun(v:Nat) (i:Int) w'=>∃Q':Nat→Prop,(∀b,Q' b→Q b)∧(∀b,Q b→b<w.heap.size→Q' b)∧Up w' Q'∧Md [] w w'∧Ls tB8 w' Q' v0 l∧(-1≤i∧i<n)∧v=leN ((l.drop (a+(i+1)).toNat).take (n-1-i).toNat)∧v<18446744073709551616) (fun(v:Nat) (i:Int)=>(i+1).toNat) (x0:=0) (x1:=(n-1)) ?_ ?_ ?_
    ·exact⟨q,q,q,q,q,q,tV⟩
    ·exact⟨Q,P,F,uQ,M,h0,(by omega),(by simp[show n-1-(n-1)=0 by omega,leN]),(by omega)⟩
    ·clear M uQ P F h0
     rintro v i B x ⟨c,P,F,uQ,M,h0,X,D,Y⟩;refine c_seq (nm q (st _ (r_ge (a:=i) (b:=0) q q) (nt ?_)));refine c_if q (fun H=>?_) (fun H=>?_)
     ·(have N:=dT H);have f:=leN_lt_of (l:=(l.drop (a+(i+1)).toNat).take (n-1-i).toNat) (k:=7) (by simp;omega);rw[← D]at f;refine c_skip (c_then (c_seq (c_block (c_region (mv q (st _ (r_shlW (a:=v) (b:=8) 18446744073709551616 q q 64 q q q (by omega)) (m2 q q (mv q (st _ (r_addI (a:=a) (b:=i) q q (by omega)) (st _ (r_indexZ (i:=a+i) 1 q q u34 el5 h0.shp (by omega)) ?_))))))))));obtain⟨I,O⟩:=getE (l:=l) (i:=(a+i).toNat) (by omega);obtain⟨r,S,E⟩:=h0.get O;obtain⟨rfl,_⟩:=S;have o:=UInt8.toNat_lt I;replace E:At _ v0 (((a+i).toNat)*1) [(b8 I)]:=E;refine st _ ((r_loadE (kk:=((a+i).toNat)*1) 0 q q one5 E q).to (b:=(b8 I)) q) (st _ (r_convN (a:=I.toNat) 18446744073709551616 q (by rw[u5];rfl) u42 q (lj (UInt8.toNat_lt _) (by decide))) (st _ (r_orN (a:=(v*2 ^ 8%18446744073709551616)) (b:=I.toNat) 18446744073709551616 q q q q (by omega)) (asg q (st_nil ?_))));clear E;refine n_block (c_then (c_region (mv q (st _ (r_subI (a:=i) (b:=1) q q (by omega)) (an q ?_)))));refine next2 (x0:=((v*2 ^ 8%18446744073709551616) ||| I.toNat)) (x1:=(i-1)) (by omega) ⟨(fitI q (by rfl)),(fitI q (by omega)),q,q,q,q,tV⟩ ⟨c,P,F,uQ,M,h0,(by omega),(by rw[shl_or (by omega),D];have g:=leN_step (k:=(n-1-i).toNat) O;rw[show(n-1-(i-1)).toNat=(n-1-i).toNat+1 by omega,show(a+(i-1+1)).toNat=(a+i).toNat by omega,g,show(a+i).toNat+1=(a+(i+1)).toNat by omega]),(by rw[shl_or (by omega)];have:=UInt8.toNat_lt I;omega)⟩
     ·(have N:=dF H);refine c_exit (x_then (x_then (x_hit (c_then (nm q (asg q (ar q ?_)))))));exact retL (vs:=[(.int .u64 v),(.bool true)]) trivial q ⟨q,q,tV⟩ q ⟨v,true,q,M,(by assumption),(by rw[getF,if_pos (by omega),D,show i = -1 by omega];simp)⟩
end Go.Proofs.YtllaambooilnlaaGreat
