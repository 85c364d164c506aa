/- Part 2 of what the walk of a law stands on: SeqP, Loops2, MakerR, MakerS, Anys, FieldQ, FldS, CompR, HeadR, HeadQ, HdP, DrP, GuardR, SectP, DrQ, PlsP, DrS, VLe, VGet, ZeroP, VSf, VSf2, VSf3, VSf4, VSf5, VSf6, VSf7, VWa, VWb, VWc, VWd, VWe, VWf, VWh, VWg, VWi. No statement is proved here. -/
import Derived.Test.YtfadcpfgenjbeaaGreatNFD1
import Derived.Test.YtfadcpfgenjbeaaGreatRows
set_option linter.unusedSimpArgs false
set_option linter.unusedVariables false
set_option linter.unusedSimpArgs false
namespace Go.Wk
open Go Go.RowKit
section
variable {P:Program} {n:Nat} {A:Fr n} {D:List Deferred} {l:List (Nat × Value)} {w:World} {d:Option Tmp} {ty:TypeId} {ps:String} {af:Array Edge} {g:Option (Nat × Bool)}
theorem r_remZ {x y:Operand} {t u:TypeId} {k:IntKind} {a b:Int} (hx:ev n l x=some (.int k a)) (hy:ev n l y=some (.int k b)) (h:b≠0) :
    RunV P ⟨d,.binOp .rem t x y u,ty,ps,af,g⟩ (over A D l).eval w (.int k (a.tmod b)):=r_rem hx hy h
end
def numF (k:Int) (n:Nat):Nat:=if n<1 then 0 else((k.tmod n+n).tmod n).toNat
theorem numF_lt (k:Int) (n:Nat):n<1∨numF k n<n:=by
  unfold numF
  by_cases h:n<1
  · exact .inl h
  · rw[if_neg h]
    have A:=Int.tmod_lt_of_pos (k.tmod n+n) (show(0:Int)<n by omega)
    right;omega
theorem num_ge {k:Int} {n:Nat} (h:¬n<1):0≤k.tmod n+n∧k.tmod n+n<2*n:=by
  have A:=Int.tmod_lt_of_pos k (show(0:Int)<n by omega)
  have B:=Int.lt_tmod_of_pos k (show(0:Int)<n by omega)
  omega
def Sq.num (s:Sq) (n:Nat):Nat × Sq:=if s.l.length≤s.pos then(0,s)else(numF (s.l.getD s.pos 0) n,{s with pos:=s.pos+1})
def Sq.more (s:Sq):Bool × Sq:=(decide (s.pos<s.l.length),s)
def namesF:List (List UInt8):=[[65],[66],[77,69,83,83,65,71,69],[95,80,73,68],[88,95,49],[80,82,73,79,82,73,84,89]]
def valuesF:List (List UInt8):=[[],[48],[49],[50,50],[97,61,98],[111,110,101,10,116,119,111],[0,255],[116,97,98,9,104,101,114,101],[108,111,110,103,32,108,111,110,103,32,108,111,110,103,32,108,111,110,103,32,108,111,110,103,32,108,111,110,103,32,108,111,110,103],[126,127,128]]
theorem namesF_len:namesF.length=6:=rfl
theorem valuesF_len:valuesF.length=10:=rfl
def idF (k:Int):List UInt8:=((List.replicate 16 0).set 0 94).set 15 (UInt8.ofNat (numF k 5))
def Sq.pair (s:Sq):Pr × Sq :=
  match s.num 6 with
  | (a,s1) =>
    match s1.num 10 with
    | (b,s2)=>({name:=namesF.getD a [],value:=valuesF.getD b []},s2)
theorem Sq.num_le (s:Sq) (n:Nat):(s.num n).1≤n-1:=by
  unfold Sq.num
  split
  · simp
  · simp only
    rcases numF_lt (s.l.getD s.pos 0) n with h|h
    · simp[numF,h]
    · omega
def pairsL:Nat→Sq→List Pr→List Pr × Sq
  | 0,s,o=>(o,s)
  | n+1,s,o=>match s.pair with
    | (p,s1)=>pairsL n s1 (o ++ [p])
def Sq.pairs (s:Sq) (most:Nat):List Pr × Sq :=
  match s.num most with
  | (n,s1)=>pairsL (n+1) s1 []
theorem pairs_end {n:Nat} {s:Sq} {o:List Pr} (h:¬0<n):pairsL n s o=(o,s):=by rw[show n=0 by omega];rfl
theorem pairs_step {n:Nat} {s:Sq} {o:List Pr} (h:0<n):pairsL n s o=pairsL (n-1) s.pair.2 (o ++ [s.pair.1]):=by
  obtain⟨k,rfl⟩:∃k,n=k+1:=⟨n-1,by omega⟩
  rfl
theorem names_bd (a:Nat):(namesF.getD a []).length≤64:=by
  match a with
  | 0|1|2|3|4|5=>decide
  | n+6=>simp[namesF]
theorem values_bd (a:Nat):(valuesF.getD a []).length≤256:=by
  match a with
  | 0|1|2|3|4|5|6|7|8|9=>decide
  | n+10=>simp[valuesF]
theorem pair_bd (s:Sq):s.pair.1.name.length≤64∧s.pair.1.value.length≤256:=⟨names_bd _,values_bd _⟩
theorem pairsL_bd (n:Nat):∀(s:Sq) (o:List Pr),(∀q∈o,q.name.length≤64∧q.value.length≤256)→(∀q∈(pairsL n s o).1,q.name.length≤64∧q.value.length≤256)∧(pairsL n s o).1.length=o.length+n:=by
  induction n with
  | zero=>exact fun s o h=>⟨h,rfl⟩
  | succ n ih =>
    intro s o h
    have:=ih s.pair.2 (o ++ [s.pair.1]) (fun q A=>by
      rcases List.mem_append.1 A with A|A
      · exact h q A
      · rw[List.mem_singleton.1 A];exact pair_bd s)
    refine⟨this.1,?_⟩
    have B:=this.2
    rw[List.length_append,List.length_singleton]at B
    rw[show pairsL (n+1) s o=pairsL n s.pair.2 (o ++ [s.pair.1])from rfl,B];omega
theorem pairs_bd (s:Sq) (most:Nat):(∀q∈(s.pairs most).1,q.name.length≤1000000∧q.value.length≤1000000)∧(s.pairs most).1.length≤most+1:=by
  have h:=pairsL_bd ((s.num most).1+1) (s.num most).2 [] (by simp)
  have B:=s.num_le most
  have e:s.pairs most=pairsL ((s.num most).1+1) (s.num most).2 []:=rfl
  rw[e]
  refine⟨fun q A=>⟨by have:=(h.1 q A).1;omega,by have:=(h.1 q A).2;omega⟩,?_⟩
  rw[h.2];simp;omega
def Sq.config (s:Sq):Cfg × Sq :=
  match s.num 5 with
  | (a,s1)=>match s1.num 5 with
    | (b,s2)=>match s2.num 5 with
      | (c,s3)=>match s3.num 7 with
        | (d,s4)=>match s4.num 4 with
          | (e,s5)=>match s5.num 2 with
            | (f,s6)=>({file:=idF a,machine:=idF b,seq:=idF c,dataSlots:=d+1,fieldSlots:=e+1,most:=32768,keyed:=decide (f=1)},s6)
def Sq.record (s:Sq) (seq:Nat):Rec × Sq :=
  match s.pairs 4 with
  | (ps,s1)=>match s1.num 40 with
    | (a,s2)=>match s2.num 9 with
      | (b,s3)=>match s3.num 3 with
        | (c,s4)=>({seq:=seq,real:=a,mono:=b,boot:=idF c,fields:=(listF ps).1},s4)
end Go.Wk
namespace Go.Wk
open Go Go.RowKit
section
variable {P:Program} {Q:Exit→Act→World→Prop} {n:Nat} {A:Fr n} {D:List Deferred} {l:List (Nat × Value)} {w:World}

end
end Go.Wk
namespace Go.Wk
open Go Go.RowKit
def known0:Known:={text:=[],pos:=0,slot:=0,count:=0,arrays:=[]}
def posAt (ds:List Known) (i:Nat):Nat:=(ds.getD i known0).pos
def backF (ds:List Known) (p:Nat) (order:List Nat):Nat→Nat
  | 0=>0
  | n+1=>if p<posAt ds (order.getD n 0)then backF ds p order n else n+1
/-- A datum's place among the others, by its place in the file. -/
def placeF (ds:List Known) (k:Nat) (order:List Nat):List Nat :=
  let n:=backF ds (posAt ds k) order order.length
  order.take n ++ [k] ++ order.drop n
def datasL:List Pr→Mk→List (List UInt8)→List Nat→List (List UInt8) × List Nat × Mk
  | [],m,ps,od=>(ps,od,m)
  | x :: r,m,ps,od =>
    match m.data x with
    | (k,m1)=>datasL r m1 (ps ++ [(m1.datas.getD k known0).text]) (placeF m1.datas k od)
def itemsL (m:Mk) (od:List Nat):List Itm:=od.map fun i=>{pos:=posAt m.datas i,hash:=hashN m.c.keyed m.c.file (m.datas.getD i known0).text}
/-- The entry is named by each of its data. -/
def hangE (e:Nat):List Nat→Mk→Mk
  | [],m=>m
  | i :: r,m =>
    let k:=m.datas.getD i known0
    if k.count=0 then
      let m2:=(m.put (k.pos+40) e).put (k.pos+56) 1
      hangE e r {m2 with datas:=m2.datas.set i {k with count:=1}}
    else
      match m.link k.arrays (k.count-1) (k.pos+48) e with
      | (a,_,m1) =>
        let m2:=m1.put (k.pos+56) (k.count+1)
        hangE e r {m2 with datas:=m2.datas.set i {k with arrays:=a,count:=k.count+1}}
/-- A record behind the others: its number, or a refusal; the maker is then as it was. -/
def Mk.append (m:Mk) (fields:List Pr) (real mono:Nat) (boot:Ly):Nat × Nat × Mk :=
  match listF fields with
  | (l,c) =>
    if c≠0 then(0,c,m)
    else if m.num 9=18446744073709551615 then(0,1,m)
    else
      match datasL l m [] []with
      | (ps,od,m1) =>
        let seq:=(m1.num 9+1)%18446744073709551616
        match m1.object (putEntryF {seq:=seq,real:=real,mono:=mono,boot:=boot,xor:=xorF 0 ps,items:=itemsL m1 od})with
        | (e,m2) =>
          let n:=m2.num 8
          match m2.link m2.main n 176 e with
          | (a,t,m3) =>
            let m4:=({m3 with main:=a}:Mk).setN 11 (a.getD 0 0)
            let m5:={m4 with h:={m4.h with tailArray:=lastN a%4294967296,tailItems:=t%4294967296}}
            let m6:=hangE e od m5
            if m6.c.most<m6.b.length then(0,15,m)
            else
              let m7:=if n=0 then(m6.setN 10 seq).setN 12 real else m6
              let m8:=m7.setN 8 ((m7.num 8+1)%18446744073709551616)
              let m9:=((m8.setN 9 seq).setN 13 real).setN 14 mono
              (seq,0,{m9 with h:={m9.h with boot:=boot,tailEntry:=e}})
end Go.Wk
namespace Go.Wk
open Go Go.RowKit
/-- What 'data' leaves, and what it makes. -/
structure DataOk (m m':Mk) (k len:Nat):Prop where
  lt:k<m'.datas.length
  ge:m.b.length≤m'.b.length
  le:m'.b.length≤m.b.length+len
  c:m'.c=m.c
  main:m'.main=m.main
  pre:m'.datas=m.datas∨∃x:Known,m'.datas=m.datas ++ [x]∧x.count=0∧x.arrays=[]∧x.pos+64≤m'.b.length
  fl:m'.fields.length≤m.fields.length+1
  fit:m'.fit
  n8:m'.h.n.getD 8 0=m.h.n.getD 8 0
theorem put_same (m:Mk) (p v:Nat):(m.put p v).c=m.c∧(m.put p v).datas=m.datas∧(m.put p v).fields=m.fields∧(m.put p v).main=m.main∧(m.put p v).h=m.h∧(m.put p v).depth=m.depth:=⟨rfl,rfl,rfl,rfl,rfl,rfl⟩
theorem data_ok (m:Mk) (x:Pr) (h:m.fit):DataOk m (m.data x).2 (m.data x).1 (400+x.name.length+(payload x).length):=by
  unfold Mk.data
  cases hk:findI (payload x) m.datas 0 with
  | some i =>
    have:=findI_lt hk
    exact⟨by simp only;omega,Nat.le_refl _,by simp only;omega,rfl,rfl,.inl rfl,by simp only;omega,h,rfl⟩
  | none =>
    simp only
    have D:=object_spec m (putDataF {hash:=hashN m.c.keyed m.c.file (payload x),nextHash:=0,nextField:=0,entry:=0,array:=0,count:=0,payload:=payload x})
    have Q:=object_same m (putDataF {hash:=hashN m.c.keyed m.c.file (payload x),nextHash:=0,nextField:=0,entry:=0,array:=0,count:=0,payload:=payload x})
    have R:(m.object (putDataF {hash:=hashN m.c.keyed m.c.file (payload x),nextHash:=0,nextField:=0,entry:=0,array:=0,count:=0,payload:=payload x})).2.h.n.getD 8 0=m.h.n.getD 8 0:=by
      simp only[Mk.object,Mk.setN];rw[getD_set_ne' (by decide),getD_set_ne' (by decide)]
    rw[putDataF_len]at D
    simp only at D
    generalize m.object (putDataF {hash:=hashN m.c.keyed m.c.file (payload x),nextHash:=0,nextField:=0,entry:=0,array:=0,count:=0,payload:=payload x})=r at *
    obtain⟨p,A⟩:=r
    simp only at D Q R ⊢
    have S:=hang_spec A A.datas (A.num 2) p (hashN m.c.keyed m.c.file (payload x)%A.c.dataSlots)
    have T:=hang_same A A.datas (A.num 2) p (hashN m.c.keyed m.c.file (payload x)%A.c.dataSlots)
    generalize A.hang A.datas (A.num 2) p (hashN m.c.keyed m.c.file (payload x)%A.c.dataSlots)=r at *
    obtain⟨n,B⟩:=r
    simp only at S T ⊢
    obtain⟨a1,a2,a3,a4,a5,a6,a7,a8⟩:=D
    obtain⟨Z,J,K,a⟩:=Q
    obtain⟨c1,c2,c3,c4,c5,c6,c7⟩:=S
    obtain⟨d,L,M,e,d5,f⟩:=T
    generalize hx5:({(B.setN 19 (max (B.num 19) n)).setN 15 (((B.setN 19 (max (B.num 19) n)).num 15+1)%18446744073709551616)with datas:=((B.setN 19 (max (B.num 19) n)).setN 15 (((B.setN 19 (max (B.num 19) n)).num 15+1)%18446744073709551616)).datas ++ [({text:=payload x,pos:=p,slot:=hashN m.c.keyed m.c.file (payload x)%A.c.dataSlots,count:=0,arrays:=[]}:Known)]}:Mk)=m5
    have j:m5.b=B.b∧m5.c=B.c∧m5.datas=B.datas ++ [({text:=payload x,pos:=p,slot:=hashN m.c.keyed m.c.file (payload x)%A.c.dataSlots,count:=0,arrays:=[]}:Known)]∧m5.fields=B.fields∧m5.main=B.main:=by subst hx5;exact⟨rfl,rfl,rfl,rfl,rfl⟩
    have v:m5.h.n.getD 2 0=m.h.n.getD 2 0:=by subst hx5;simp only[Mk.setN];rw[getD_set_ne' (by decide),getD_set_ne' (by decide)];omega
    have w:m5.h.n.getD 4 0=m.h.n.getD 4 0:=by subst hx5;simp only[Mk.setN];rw[getD_set_ne' (by decide),getD_set_ne' (by decide)];omega
    have g8:m5.h.n.getD 8 0=m.h.n.getD 8 0:=by subst hx5;simp only[Mk.setN];rw[getD_set_ne' (by decide),getD_set_ne' (by decide),f,R]
    clear hx5
    obtain⟨g,E,O,P,l⟩:=j
    have l5:m5.b.length=A.b.length:=by rw[g];omega
    have u:m5.fit:=by
      refine fit_mono h ⟨by rw[E];omega,by rw[E];omega,v,w,by omega⟩ (fun k hk=>?_) (fun k hk=>?_)
      · rw[O,L,J,List.mem_append,List.mem_singleton]at hk
        rcases hk with hk|rfl
        · exact .inl hk
        · right;simp only;omega
      · rw[P,M,K]at hk;exact .inl hk
    have U:=field_all m5 x.name u
    generalize m5.field x.name=r at *
    obtain⟨k,C⟩:=r
    simp only at U ⊢
    obtain⟨⟨q1,q2,q3,q4,q5,q6,q7,q8,q9,y⟩,⟨z,s2,s3⟩,s4⟩:=U
    have l8:((C.put (p+32) (getF C.b (k+32:Nat) 8).1).put (k+32) p).b.length=C.b.length:=by rw[put_len,put_len]
    have o:=put_same C (p+32) (getF C.b (k+32:Nat) 8).1
    have t:=put_same (C.put (p+32) (getF C.b (k+32:Nat) 8).1) (k+32) p
    generalize C.put (p+32) (getF C.b (k+32:Nat) 8).1=m7 at *
    generalize m7.put (k+32) p=m8 at *
    obtain⟨F,V,W,v4,G,_⟩:=o
    obtain⟨H,X,Y,w4,I,_⟩:=t
    have N:m8.datas=m.datas ++ [({text:=payload x,pos:=p,slot:=hashN m.c.keyed m.c.file (payload x)%A.c.dataSlots,count:=0,arrays:=[]}:Known)]:=by rw[X,V,s2,O,L,J]
    refine⟨by rw[N];simp,by omega,by omega,by rw[H,F,z,E,d,Z],by rw[w4,v4,s3,l,e,a],.inr ⟨_,N,rfl,rfl,by simp only;omega⟩,?_,?_,by rw[I,G];omega⟩
    · have:=congrArg List.length P;rw[M,K]at this;rw[Y,W];omega
    · refine fit_mono s4 ⟨by rw[H,F],by rw[H,F],by rw[I,G],by rw[I,G],by omega⟩ (fun k hk=>.inl (by rw[X,V]at hk;exact hk)) (fun k hk=>.inl (by rw[Y,W]at hk;exact hk))
/-! chains -/
theorem rooms_app (l:List Nat) (p k a r:Nat):roomsL (l ++ [p]) k a r=((roomsL l k a r).2,(roomsL l k a r).2+roomF ((k+l.length:Nat):Int)):=by
  induction l generalizing k a r with
  | nil=>rfl
  | cons x l ih =>
    show roomsL (l ++ [p]) (k+1) r (r+roomF (k:Int))=_
    rw[ih]
    show _=((roomsL l (k+1) r (r+roomF (k:Int))).2,(roomsL l (k+1) r (r+roomF (k:Int))).2+roomF ((k+(l.length+1):Nat):Int))
    rw[show k+1+l.length=k+(l.length+1)by omega]
theorem chain_mono {len len' n:Nat} {a:List Nat} (h:chainFit len a n) (hl:len≤len'):chainFit len' a n :=
  ⟨fun k x hx=>lv (h.1 k x hx) hl,h.2⟩
theorem chain_nil (len:Nat):chainFit len [] 0:=⟨by simp,by simp[roomsL],by simp[roomsL]⟩
structure LinkOk (m m':Mk) (a:List Nat) (n:Nat):Prop where
  ge:m.b.length≤m'.b.length
  le:m'.b.length≤m.b.length+2100
  c:m'.c=m.c
  datas:m'.datas=m.datas
  fields:m'.fields=m.fields
  main:m'.main=m.main
  chain:chainFit m'.b.length a (n+1)
  ne:a≠[]
  n8:m'.h.n.getD 8 0=m.h.n.getD 8 0
  n2:m'.h.n.getD 2 0=m.h.n.getD 2 0
  n4:m'.h.n.getD 4 0=m.h.n.getD 4 0
theorem link_ok (m:Mk) (arrays:List Nat) (n src item:Nat) (h:chainFit m.b.length arrays n):LinkOk m (m.link arrays n src item).2.2 (m.link arrays n src item).1 n:=by
  obtain⟨R,S,T⟩:=h
  unfold Mk.link
  have F:=fun p=>rooms_app arrays p 0 0 0
  rcases hq:roomsL arrays 0 0 0 with⟨A,B⟩
  rw[hq]at S T F
  simp only at S T F ⊢
  rw[Nat.zero_add]at F
  split
  · rename_i hn
    have G:=object_spec m (putArrayF {next:=0,items:=List.replicate (roomF (arrays.length:Int)) 0})
    have Q:=object_same m (putArrayF {next:=0,items:=List.replicate (roomF (arrays.length:Int)) 0})
    have o:(m.object (putArrayF {next:=0,items:=List.replicate (roomF (arrays.length:Int)) 0})).2.h.n.getD 8 0=m.h.n.getD 8 0:=by
      simp only[Mk.object,Mk.setN];rw[getD_set_ne' (by decide),getD_set_ne' (by decide)]
    rw[putArrayF_len]at G
    simp only[List.length_replicate]at G
    generalize m.object (putArrayF {next:=0,items:=List.replicate (roomF (arrays.length:Int)) 0})=r at *
    obtain⟨p,C⟩:=r
    simp only at G Q o ⊢
    obtain⟨w,y,z,a4,a5,a6,a7,a8⟩:=G
    obtain⟨U,V,W,X⟩:=Q
    have O:=roomF_le (arrays.length:Int)
    have H:=roomF_ge (k:=(arrays.length:Int)) (by omega)
    generalize hx2:C.setN 18 ((C.num 18+1)%18446744073709551616)=m2
    have u:m2.b=C.b∧m2.c=C.c∧m2.datas=C.datas∧m2.fields=C.fields∧m2.main=C.main:=by subst hx2;exact setN_same _ _ _
    have t8:m2.h.n.getD 8 0=C.h.n.getD 8 0:=by subst hx2;exact num_setN (by decide)
    have t2:m2.h.n.getD 2 0=C.h.n.getD 2 0:=by subst hx2;exact num_setN (by decide)
    have t4:m2.h.n.getD 4 0=C.h.n.getD 4 0:=by subst hx2;exact num_setN (by decide)
    clear hx2
    generalize hx3:(if arrays.length=0 then m2.put src p else m2.put (lastN arrays+16) p)=m3
    have v:m3.b.length=m2.b.length∧m3.c=m2.c∧m3.datas=m2.datas∧m3.fields=m2.fields∧m3.main=m2.main∧m3.h=m2.h:=by
      subst hx3
      split
      · exact⟨put_len _ _ _,rfl,rfl,rfl,rfl,rfl⟩
      · exact⟨put_len _ _ _,rfl,rfl,rfl,rfl,rfl⟩
    clear hx3
    have t:=put_len m3 (lastN (arrays ++ [p])+24+8*(n-B)) item
    have P:=put_same m3 (lastN (arrays ++ [p])+24+8*(n-B)) item
    generalize m3.put (lastN (arrays ++ [p])+24+8*(n-B)) item=m4 at *
    obtain⟨Y,Z,d,e,f⟩:=u
    obtain⟨d1,g,i,j,l,I⟩:=v
    obtain⟨J,K,L,M,E,_⟩:=P
    have l2:=congrArg List.length Y
    have ll:m4.b.length=m.b.length+(16+(8+8*roomF (arrays.length:Int))+7)/8*8:=by omega
    refine⟨by omega,by omega,by rw[J,g,Z,U],by rw[K,i,d,V],by rw[L,j,e,W],by rw[M,l,f,X],⟨fun k x D=>?_,?_,?_⟩,by simp,by rw[E,I];omega,by rw[E,I];omega,by rw[E,I];omega⟩
    · rcases Nat.lt_or_ge k arrays.length with hk|hk
      · rw[List.getElem?_append_left hk]at D
        have:=R k x D;omega
      · have N:=(List.getElem?_eq_some_iff.1 D).1
        simp at N
        have:k=arrays.length:=by omega
        subst this
        rw[List.getElem?_append_right (Nat.le_refl _)]at D
        simp at D
        subst D
        omega
    · rw[F];simp only;omega
    · rw[F];simp only;omega
  · rename_i hn
    have t:=put_len m (lastN arrays+24+8*(n-A)) item
    have P:=put_same m (lastN arrays+24+8*(n-A)) item
    generalize m.put (lastN arrays+24+8*(n-A)) item=m4 at *
    obtain⟨J,K,L,M,E,_⟩:=P
    show LinkOk m m4 arrays n
    refine⟨by omega,by omega,J,K,L,M,⟨fun k x D=>by have:=R k x D;omega,by rw[hq];simp only;omega,by rw[hq];simp only;omega⟩,?_,by rw[E],by rw[E],by rw[E]⟩
    rintro rfl
    simp[roomsL]at hq
    omega
/-! what holds of a maker, and while a record is put behind the others -/
def Mk.n8 (m:Mk):Nat:=m.h.n.getD 8 0
def chainsOk (m:Mk) (most:Nat):Prop:=∀k∈m.datas,chainFit m.b.length k.arrays (k.count-1)∧(k.count=0→k.arrays=[])∧k.text.length≤400∧k.count≤most
structure MkOk (m:Mk):Prop where
  fit:m.fit
  main:chainFit m.b.length m.main m.n8
  chains:chainsOk m (16*m.n8)
  nd:m.datas.length≤16*m.n8
  nf:m.fields.length≤16*m.n8
  nb:64*m.n8≤m.b.length
  small:m.b.length≤40000
  most:m.c.most≤40000
  hd:272≤m.b.length
structure AppOk (m0 m:Mk) (d e:Nat) (j:Nat):Prop where
  fit:m.fit
  c:m.c=m0.c
  n8:m.n8=m0.n8
  chains:chainsOk m (16*m0.n8+j)
  nd:m.datas.length≤m0.datas.length+d
  nf:m.fields.length≤m0.fields.length+d
  ge:m0.b.length≤m.b.length
  le:m.b.length≤m0.b.length+e
theorem app_start {m:Mk} (h:MkOk m):AppOk m m 0 0 0:=⟨h.fit,rfl,rfl,h.chains,Nat.le_refl _,Nat.le_refl _,Nat.le_refl _,Nat.le_refl _⟩
theorem data_text {m:Mk} {x:Pr} (y:Known) (h:y∈(m.data x).2.datas):y∈m.datas∨y.text=payload x:=by
  unfold Mk.data at h
  split at h
  · exact .inl h
  · simp only at h
    have F:=object_same m (putDataF {hash:=hashN m.c.keyed m.c.file (payload x),nextHash:=0,nextField:=0,entry:=0,array:=0,count:=0,payload:=payload x})
    generalize m.object (putDataF {hash:=hashN m.c.keyed m.c.file (payload x),nextHash:=0,nextField:=0,entry:=0,array:=0,count:=0,payload:=payload x})=r at *
    obtain⟨p,B⟩:=r
    simp only at h F
    have G:=hang_same B B.datas (B.num 2) p (hashN m.c.keyed m.c.file (payload x)%B.c.dataSlots)
    generalize B.hang B.datas (B.num 2) p (hashN m.c.keyed m.c.file (payload x)%B.c.dataSlots)=r at *
    obtain⟨n,C⟩:=r
    simp only at h G
    generalize hx5:({(C.setN 19 (max (C.num 19) n)).setN 15 (((C.setN 19 (max (C.num 19) n)).num 15+1)%18446744073709551616)with datas:=((C.setN 19 (max (C.num 19) n)).setN 15 (((C.setN 19 (max (C.num 19) n)).num 15+1)%18446744073709551616)).datas ++ [({text:=payload x,pos:=p,slot:=hashN m.c.keyed m.c.file (payload x)%B.c.dataSlots,count:=0,arrays:=[]}:Known)]}:Mk)=m5 at h
    have I:m5.datas=C.datas ++ [({text:=payload x,pos:=p,slot:=hashN m.c.keyed m.c.file (payload x)%B.c.dataSlots,count:=0,arrays:=[]}:Known)]:=by subst hx5;rfl
    clear hx5
    have H:(m5.field x.name).2.datas=m5.datas:=by
      unfold Mk.field
      split
      · rfl
      · simp only
        have D:=object_same m5 (putFieldF {hash:=hashN m5.c.keyed m5.c.file x.name,nextHash:=0,dat:=0,payload:=x.name})
        generalize m5.object (putFieldF {hash:=hashN m5.c.keyed m5.c.file x.name,nextHash:=0,dat:=0,payload:=x.name})=r at *
        obtain⟨q,A⟩:=r
        simp only at D ⊢
        have E:=hang_same A A.fields (A.num 4) q (hashN m5.c.keyed m5.c.file x.name%A.c.fieldSlots)
        generalize A.hang A.fields (A.num 4) q (hashN m5.c.keyed m5.c.file x.name%A.c.fieldSlots)=r at *
        obtain⟨M,L⟩:=r
        simp only at E ⊢
        show L.datas=m5.datas
        rw[E.2.1,D.2.1]
    generalize m5.field x.name=r at *
    obtain⟨k,A⟩:=r
    simp only at h H
    have J:=(put_same A (p+32) (getF A.b (k+32:Nat) 8).1).2.1
    have K:=(put_same (A.put (p+32) (getF A.b (k+32:Nat) 8).1) (k+32) p).2.1
    rw[K,J,H,I,List.mem_append,List.mem_singleton,G.2.1,F.2.1]at h
    rcases h with h|rfl
    · exact .inl h
    · exact .inr rfl
theorem app_data {m0 m:Mk} {d e j:Nat} {x:Pr} (h:AppOk m0 m d e j) (hx:x.name.length≤64∧x.value.length≤256):AppOk m0 (m.data x).2 (d+1) (e+900) j∧(m.data x).1<(m.data x).2.datas.length∧(m.data x).2.main=m.main:=by
  have g:=data_ok m x h.fit
  have G:=fun y=>data_text (m:=m) (x:=x) y
  have U:=payload_len x
  generalize m.data x=r at *
  obtain⟨k,H⟩:=r
  simp only at g G ⊢
  have D:=g.ge;have I:=g.le;have O:=h.ge;have P:=h.le;have Q:=h.nd;have R:=h.nf;have S:=g.fl
  have T:H.datas.length≤m.datas.length+1:=by
    rcases g.pre with e|⟨x,e,_⟩ <;> rw[e] <;> simp
  refine⟨⟨g.fit,g.c.trans h.c,(show H.h.n.getD 8 0=m0.n8 from g.n8.trans h.n8),fun y A=>?_,by omega,by omega,by omega,by omega⟩,g.lt,g.main⟩
  have F:y∈m.datas∨(y.count=0∧y.arrays=[]):=by
    rcases g.pre with e|⟨x,e,C,B,_⟩
    · rw[e]at A;exact .inl A
    · rw[e,List.mem_append,List.mem_singleton]at A
      rcases A with A|rfl
      · exact .inl A
      · exact .inr ⟨C,B⟩
  rcases F with E|⟨C,B⟩
  · obtain⟨K,L,M,N⟩:=h.chains y E
    exact⟨chain_mono K D,L,M,N⟩
  · refine⟨by rw[C,B];exact chain_nil _,fun _=>B,?_,by omega⟩
    rcases G y A with E|J
    · exact(h.chains y E).2.2.1
    · rw[J];omega
theorem app_of {m0 m m':Mk} {d e e' j j':Nat} (h:AppOk m0 m d e j) (hc:m'.c=m.c) (h8:m'.n8=m.n8) (h2:m'.h.n.getD 2 0=m.h.n.getD 2 0) (h4:m'.h.n.getD 4 0=m.h.n.getD 4 0) (hd:m'.datas=m.datas) (hf:m'.fields=m.fields)
    (hg:m.b.length≤m'.b.length) (hl:m'.b.length≤m.b.length+e') (hj:j≤j'):AppOk m0 m' d (e+e') j':=by
  have:=h.ge;have:=h.le
  refine⟨fit_mono h.fit ⟨by rw[hc],by rw[hc],h2,h4,hg⟩ (fun k hk=>.inl (hd ▸ hk)) (fun k hk=>.inl (hf ▸ hk)),hc.trans h.c,h8.trans h.n8,fun k hk=>?_,by rw[hd];exact h.nd,by rw[hf];exact h.nf,by omega,by omega⟩
  rw[hd]at hk
  obtain⟨A,B,C,D⟩:=h.chains k hk
  exact⟨chain_mono A hg,B,C,by omega⟩
theorem app_object {m0 m:Mk} {d e j L:Nat} {o:Ly} (h:AppOk m0 m d e j) (ho:o.length≤L):AppOk m0 (m.object o).2 d (e+L) j:=by
  have A:=object_spec m o
  have B:=object_same m o
  have C:(m.object o).2.h.n.getD 8 0=m.h.n.getD 8 0:=by simp only[Mk.object,Mk.setN];rw[getD_set_ne' (by decide),getD_set_ne' (by decide)]
  exact app_of h B.1 C A.2.2.2.2.2.2.1 A.2.2.2.2.2.2.2 B.2.1 B.2.2.1 (by rw[A.2.1];omega) (by rw[A.2.1];omega) (Nat.le_refl _)
theorem app_put {m0 m:Mk} {d e j:Nat} (p v:Nat) (h:AppOk m0 m d e j):AppOk m0 (m.put p v) d e j :=
  app_of (e':=0) h rfl rfl rfl rfl rfl rfl (by rw[put_len];exact Nat.le_refl _) (by rw[put_len];exact Nat.le_refl _) (Nat.le_refl _)
theorem app_link {m0 m:Mk} {d e j n src item:Nat} {arrays:List Nat} (h:AppOk m0 m d e j) (hc:chainFit m.b.length arrays n):AppOk m0 (m.link arrays n src item).2.2 d (e+2100) j:=by
  have g:=link_ok m arrays n src item hc
  exact app_of h g.c g.n8 g.n2 g.n4 g.datas g.fields g.ge g.le (Nat.le_refl _)
theorem app_set {m0 m:Mk} {d e j i:Nat} {k:Known} (h:AppOk m0 m d e j) (hi:i<m.datas.length) (hp:k.pos=(m.datas.getD i known0).pos) (ht:k.text=(m.datas.getD i known0).text)
    (hk:chainFit m.b.length k.arrays (k.count-1)∧(k.count=0→k.arrays=[])∧k.count≤16*m0.n8+(j+1)):AppOk m0 {m with datas:=m.datas.set i k} d e (j+1):=by
  have C:m.datas[i]? = some (m.datas.getD i known0):=by simp[List.getD,hi]
  have B:=List.mem_of_getElem? C
  refine⟨fit_mono h.fit ⟨rfl,rfl,rfl,rfl,Nat.le_refl _⟩ (fun y A=>?_) (fun y A=>.inl A),h.c,h.n8,fun y A=>?_,by simpa using h.nd,h.nf,h.ge,h.le⟩
  · rcases List.mem_or_eq_of_mem_set A with A|rfl
    · exact .inl A
    · right;have:=h.fit.2.2.2.2.2.2.1 _ B;simp only;omega
  · rcases List.mem_or_eq_of_mem_set A with A|rfl
    · obtain⟨D,E,F,G⟩:=h.chains y A;exact⟨D,E,F,by omega⟩
    · exact⟨hk.1,hk.2.1,by rw[ht];exact(h.chains _ B).2.2.1,hk.2.2⟩
/-- One datum of the entry. -/
def hang1 (e:Nat) (i:Nat) (m:Mk):Mk :=
  let k:=m.datas.getD i known0
  if k.count=0 then
    let m2:=(m.put (k.pos+40) e).put (k.pos+56) 1
    {m2 with datas:=m2.datas.set i {k with count:=1}}
  else
    match m.link k.arrays (k.count-1) (k.pos+48) e with
    | (a,_,m1) =>
      let m2:=m1.put (k.pos+56) (k.count+1)
      {m2 with datas:=m2.datas.set i {k with arrays:=a,count:=k.count+1}}
theorem hangE_cons (e i:Nat) (r:List Nat) (m:Mk):hangE e (i :: r) m=hangE e r (hang1 e i m):=by
  unfold hang1
  rw[hangE]
  simp only
  split
  · rfl
  · rfl
theorem hang1_ok {m0 m:Mk} {d e j i en:Nat} (h:AppOk m0 m d e j) (hi:i<m.datas.length):AppOk m0 (hang1 en i m) d (e+2100) (j+1)∧(hang1 en i m).main=m.main∧(hang1 en i m).datas.length=m.datas.length:=by
  have K:m.datas[i]? = some (m.datas.getD i known0):=by simp[List.getD,hi]
  have M:=List.mem_of_getElem? K
  obtain⟨I,N,O,P⟩:=h.chains _ M
  unfold hang1
  simp only
  generalize hk:m.datas.getD i known0=k at *
  split
  · rename_i h0
    have g:=app_put (k.pos+56) 1 (app_put (k.pos+40) en h)
    have J:=put_same m (k.pos+40) en
    have D:=put_same (m.put (k.pos+40) en) (k.pos+56) 1
    have H:((m.put (k.pos+40) en).put (k.pos+56) 1).b.length=m.b.length:=by rw[put_len,put_len]
    generalize m.put (k.pos+40) en=C at *
    generalize C.put (k.pos+56) 1=m2 at *
    have B:m2.datas=m.datas:=D.2.1.trans J.2.1
    have A:=app_set (i:=i) (k:={k with count:=1}) g (by rw[B];exact hi) (by rw[B,hk]) (by rw[B,hk]) ⟨by simp only;rw[N h0];exact chain_nil _,fun F=>by simp at F,by simp only;omega⟩
    refine⟨⟨A.fit,A.c,A.n8,A.chains,A.nd,A.nf,A.ge,lv A.le (by omega)⟩,D.2.2.2.1.trans J.2.2.2.1,by simp[B]⟩
  · rename_i h0
    have g:=app_link (src:=k.pos+48) (item:=en) h I
    have E:=link_ok m k.arrays (k.count-1) (k.pos+48) en I
    generalize m.link k.arrays (k.count-1) (k.pos+48) en=r at *
    obtain⟨a,Q,C⟩:=r
    simp only at g E ⊢
    have L:=app_put (k.pos+56) (k.count+1) g
    have D:=put_same C (k.pos+56) (k.count+1)
    have H:=put_len C (k.pos+56) (k.count+1)
    generalize C.put (k.pos+56) (k.count+1)=m2 at *
    have B:m2.datas=m.datas:=D.2.1.trans E.datas
    have G:=E.chain
    rw[show k.count-1+1=k.count by omega,← H]at G
    have A:=app_set (i:=i) (k:={k with arrays:=a,count:=k.count+1}) L (by rw[B];exact hi) (by rw[B,hk]) (by rw[B,hk]) ⟨G,fun F=>by simp at F,by simp only;omega⟩
    exact⟨A,D.2.2.2.1.trans E.main,by simp[B]⟩
theorem hangE_ok {m0:Mk} {d en:Nat}:∀(od:List Nat) (m:Mk) (e j:Nat),AppOk m0 m d e j→(∀i∈od,i<m.datas.length) →
    AppOk m0 (hangE en od m) d (e+2100*od.length) (j+od.length)∧(hangE en od m).main=m.main∧(hangE en od m).datas.length=m.datas.length
  | [],m,e,j,h,_=>⟨h,rfl,rfl⟩
  | i :: r,m,e,j,h,hi=>by
    obtain⟨h1,h2,h3⟩:=hang1_ok (en:=en) h (hi i (by simp))
    obtain⟨g1,g2,g3⟩:=hangE_ok r (hang1 en i m) (e+2100) (j+1) h1 fun x hx=>by rw[h3];exact hi x (by simp[hx])
    rw[hangE_cons]
    refine⟨?_,g2.trans h2,g3.trans h3⟩
    have e1:e+2100*(i :: r).length=e+2100+2100*r.length:=by simp;omega
    have A:j+(i :: r).length=j+1+r.length:=by simp;omega
    rw[e1,A];exact g1
/-! the list of fields -/
def BD (q:Pr):Prop:=q.name.length≤64∧q.value.length≤256
theorem shift_bd:∀(n j:Nat) (o:List Pr),(∀q∈o,BD q)→∀q∈shiftF n j o,BD q
  | 0,_,_,h=>h
  | n+1,j,o,h=>by
    unfold shiftF
    refine shift_bd n (j-1) _ fun q hq=>?_
    rcases List.mem_or_eq_of_mem_set hq with hq|rfl
    · exact h q hq
    · rw[List.getD_eq_getElem?_getD]
      cases hg:o[j-1]? with
      | none=>exact⟨by simp,by simp⟩
      | some y=>exact h y (List.mem_of_getElem? hg)
theorem ins_bd {p:Pr} {o:List Pr} (hp:BD p) (h:∀q∈o,BD q):∀q∈insF p o,BD q:=by
  unfold insF
  simp only
  split
  · exact h
  · intro q B
    rcases List.mem_or_eq_of_mem_set B with B|rfl
    · refine shift_bd _ _ _ (fun y A=>?_) q B
      rcases List.mem_append.1 A with A|A
      · exact h y A
      · simp at A;subst A;exact⟨by simp,by simp⟩
    · exact hp
theorem goL_bd:∀(l o:List Pr),(∀q∈o,BD q)→∀(x:List Pr) (c:Nat),goL l o=(x,c)→(∀q∈x,BD q)∧x.length≤16
  | [],o,ho,x,c,h=>by
    unfold goL at h
    split at h
    · obtain⟨rfl,_⟩:=Prod.mk.inj h;simp
    · obtain⟨rfl,_⟩:=Prod.mk.inj h;exact⟨ho,by omega⟩
  | p :: r,o,ho,x,c,h=>by
    unfold goL at h
    split at h
    · obtain⟨rfl,_⟩:=Prod.mk.inj h;simp
    · rename_i h1
      have hr:=joinF_right.1 (Classical.not_not.1 h1)
      simp only[right,Pr.pb,Bool.and_eq_true]at hr
      exact goL_bd r _ (ins_bd ⟨(name_len hr.1).2,dq hr.2⟩ ho) x c h
theorem listF_bd {l x:List Pr} {c:Nat} (h:listF l=(x,c)):(∀q∈x,BD q)∧x.length≤16:=by
  unfold listF at h
  split at h
  · obtain⟨rfl,_⟩:=Prod.mk.inj h;simp
  · exact goL_bd l [] (by simp) x c h
/-! the data of a record -/
theorem place_mem {ds:List Known} {k i:Nat} {od:List Nat} (h:i∈placeF ds k od):i=k∨i∈od:=by
  unfold placeF at h
  simp only[List.mem_append,List.mem_singleton]at h
  rcases h with(h|h)|h
  · exact .inr (List.mem_of_mem_take h)
  · exact .inl h
  · exact .inr (List.mem_of_mem_drop h)
theorem backF_le (ds:List Known) (p:Nat) (od:List Nat):∀n,backF ds p od n≤n
  | 0=>Nat.le_refl _
  | n+1=>by
    unfold backF
    split
    · have:=backF_le ds p od n;omega
    · exact Nat.le_refl _
theorem place_len (ds:List Known) (k:Nat) (od:List Nat):(placeF ds k od).length=od.length+1:=by
  have:=backF_le ds (posAt ds k) od od.length
  unfold placeF;simp;omega
structure DatasOk (m0 m:Mk) (ps:List (List UInt8)) (od:List Nat) (n:Nat):Prop where
  app:AppOk m0 m n (900*n) 0
  main:m.main=m0.main
  idx:∀i∈od,i<m.datas.length
  len:od.length=n∧ps.length=n
  ps:∀t∈ps,t.length≤400
theorem datas_step {m0 m:Mk} {ps:List (List UInt8)} {od:List Nat} {n:Nat} {x:Pr} (h:DatasOk m0 m ps od n) (hx:BD x) :
    DatasOk m0 (m.data x).2 (ps ++ [((m.data x).2.datas.getD (m.data x).1 known0).text]) (placeF (m.data x).2.datas (m.data x).1 od) (n+1):=by
  obtain⟨C,D,F⟩:=app_data h.app hx
  have G:=data_ok m x h.app.fit
  refine⟨by rw[show 900*(n+1)=900*n+900 by omega];exact C,F.trans h.main,fun i B=>?_,⟨by rw[place_len,h.len.1],by simpa using h.len.2⟩,fun t A=>?_⟩
  · rcases place_mem B with rfl|B
    · exact D
    · have:=h.idx i B
      have H:m.datas.length≤(m.data x).2.datas.length:=by
        rcases G.pre with e|⟨y,e,_⟩ <;> rw[e] <;> simp
      omega
  · rcases List.mem_append.1 A with A|A
    · exact h.ps t A
    · simp at A
      subst A
      have E:(m.data x).2.datas[(m.data x).1]? = some ((m.data x).2.datas.getD (m.data x).1 known0):=by simp[List.getD,D]
      exact(C.chains _ (List.mem_of_getElem? E)).2.2.1
theorem datasL_ok {m0:Mk}:∀(l:List Pr) (m:Mk) (ps:List (List UInt8)) (od:List Nat) (n:Nat),DatasOk m0 m ps od n→(∀q∈l,BD q) →
    DatasOk m0 (datasL l m ps od).2.2 (datasL l m ps od).1 (datasL l m ps od).2.1 (n+l.length)
  | [],m,ps,od,n,h,_=>h
  | x :: r,m,ps,od,n,h,hb=>by
    have h1:=datas_step h (hb x (by simp))
    have h2:=datasL_ok r _ _ _ _ h1 fun q hq=>hb q (by simp[hq])
    rw[show n+(x :: r).length=n+1+r.length by simp;omega]
    exact h2
theorem datas_start {m:Mk} (h:MkOk m):DatasOk m m [] [] 0:=⟨app_start h,rfl,by simp,⟨rfl,rfl⟩,by simp⟩
end Go.Wk
namespace Go.Wk
open Go Go.RowKit
section
variable {P:Program} {ops:Array Oper} {md:Region.Mode} {C:World→Prop} {Q:Exit→Act→World→Prop} {QN:Act→World→Prop}
variable {n:Nat} {A:Fr n} {D:List Deferred} {l:List (Nat × Value)} {w:World} {f:Nat} {listed:Array Bool}
theorem c_anyR {R:Act→World→Prop} {id:Nat} {lo:List Oper} {a:Act} (C:World→Prop) (hm:P.follows .mixedOrders=true) (hk:∀a' w',R a' w'→Q .normal a' w')
    (h:∀w',Md [] w w'→wpAnyC P .any lo.toArray C R lo.length (Array.replicate lo.length false) a w'):(Code.region id lo.toArray true).wp P Q a w:=by
  refine wp_region_any hm (wpAny_of_C (C:=C) (QN:=R) hk _ _ _ _ ?_)
  have:=h _ (Md.drew w)
  simpa using this
theorem any_0 {a:Act} (hr:(Region.ready md ops listed).isEmpty=true) (h:QN a w):wpAnyC P md ops C QN 0 listed a w:=⟨by simpa using hr,h⟩
theorem any_q {i d:Nat} {op:Op} {ty:TypeId} {ps:String} {af:Array Edge} (v:Value) (hi:ops[i]? = some ⟨some d,op,ty,ps,af,none⟩) (hs:Region.noSelect ops=true) (hB:((Region.ready md ops listed).contains i && Region.free md ops listed i)=true) (hC:C w)
    (hv:∀w',C w'→RunV P ⟨some d,op,ty,ps,af,none⟩ (over A D l).eval w' v) (k:wpAnyC P md ops C QN f (listed.setIfInBounds i true) (over A D ((d,v) :: l)) w):wpAnyC P md ops C QN (f+1) listed (over A D l) w:=by
  simp only[Bool.and_eq_true]at hB
  exact wpAnyC_first hi (Region.noSelect_spec hs) f listed _ w (Region.free_spec hi hB.2) (by simpa using hB.1) hC (.inl ⟨by simp[Region.wanted],fun w' B=>hv w' B⟩) k
theorem opC_of {i:Nat} {o:Oper} {a:Act} {K:Act→World→Prop} (hi:ops[i]? = some o) (hg:o.guard=none) (h:wpList P ops (fun e a' w'=>e = .normal∧C w'∧K a' w') [o] a w):opC P ops C i K a w:=by
  have D:Region.wanted o (yielded ops a.tmps)=true:=by unfold Region.wanted;rw[hg]
  unfold opC
  simp only[hi]
  rw[if_pos D]
  unfold wpList at h
  rw[if_pos D]at h
  rcases h with h|h
  · unfold Oper.wp at *
    generalize (execOp a.eval o).run P w=r at *
    cases r with
    | ok x w' =>
      cases x <;> simp only[Oper.upon]at h ⊢
      case value v=>exact(show _∧_ from h).2
      case skip=>exact(show _∧_ from h).2
      case defer d=>exact(show _∧_ from h).2
      case enter f args =>
        refine h.mono fun e B A=>?_
        cases e with
        | returned v=>exact(show _∧_ from A).2
        | panicked c=>exact absurd A.1 (by simp)
        | outgrown=>obtain⟨_,_,A⟩:=A;exact absurd A.1 (by simp)
      case row r args=>exact h.mono fun v B A=>(show _∧_ from A).2
    | halt x w' =>
      cases x <;> simp only[Oper.upon]at h ⊢
      exact absurd h.1 (by simp)
  · obtain⟨_,_,_,A⟩:=h;exact absurd A.1 (by simp)
theorem any_1 {i:Nat} {o:Oper} {a:Act} (hr:decide (Region.ready md ops listed=[i])=true) (hi:ops[i]? = some o) (hg:o.guard=none)
    (h:wpList P ops (fun e a' w'=>e = .normal∧C w'∧wpAnyC P md ops C QN f (listed.setIfInBounds i true) a' w') [o] a w):wpAnyC P md ops C QN (f+1) listed a w:=by
  have hr:=dq hr
  refine⟨fun A=>(by rw[hr]at A;cases A),fun k hk=>?_⟩
  rw[hr]at hk
  have:k=i:=by simpa using hk
  subst this
  exact opC_of hi hg h
theorem any_2 {i j:Nat} {o o':Oper} {a:Act} (hr:decide (Region.ready md ops listed=[i,j])=true) (hi:ops[i]? = some o) (hg:o.guard=none) (hj:ops[j]? = some o') (hg':o'.guard=none)
    (h:wpList P ops (fun e a' w'=>e = .normal∧C w'∧wpAnyC P md ops C QN f (listed.setIfInBounds i true) a' w') [o] a w)
    (h':wpList P ops (fun e a' w'=>e = .normal∧C w'∧wpAnyC P md ops C QN f (listed.setIfInBounds j true) a' w') [o'] a w):wpAnyC P md ops C QN (f+1) listed a w:=by
  have hr:=dq hr
  refine⟨fun A=>(by rw[hr]at A;cases A),fun k hk=>?_⟩
  rw[hr]at hk
  have:k=i∨k=j:=by simpa using hk
  rcases this with rfl|rfl
  · exact opC_of hi hg h
  · exact opC_of hj hg' h'
end
/-! a row that is made anew in a region of left-open order -/
/-- A row of the run's own that is newer than a world. -/
structure New1 {α:Type} (T:Dt α) (w0:World) (Q0:Nat→Prop) (e:TypeId) (w:World) (R:Nat→Prop) (v:Value) (xs:List α):Prop where
  md:Md [] w0 w
  s:∀b,Q0 b→b<w0.heap.size→R b
  t:∀b,R b→Q0 b
  up:Up w R
  ow:Ow T e (Fsh [] w0) w R v xs
section
variable {α:Type} {T:Dt α} {P:Program} {ops:Array Oper} {Q:Exit→Act→World→Prop} {n:Nat} {A:Fr n} {D:List Deferred} {l:List (Nat × Value)} {w:World} {rest:List Oper}
theorem New1.md0 {w0 w w':World} {Q0 R:Nat→Prop} {e:TypeId} {v:Value} {xs:List α} (h:New1 T w0 Q0 e w R v xs) (m:Md [] w w'):New1 T w0 Q0 e w' R v xs :=
  ⟨h.md.step0 m,h.s,h.t,h.up.md m,h.ow.md0 m⟩
end
/-! slots of a frame -/
/-! Append's own steps -/
theorem append_done {m x m2 m3 z:Mk} {raw l:List Pr} {c real mono e t:Nat} {boot:Ly} {ps:List (List UInt8)} {od a:List Nat} (h1:listF raw=(l,c)) (h2:¬c≠0) (h3:¬m.num 9=18446744073709551615) (h4:datasL l m [] []=(ps,od,x))
    (h5:x.object (putEntryF {seq:=(x.num 9+1)%18446744073709551616,real:=real,mono:=mono,boot:=boot,xor:=xorF 0 ps,items:=itemsL x od})=(e,m2)) (h6:m2.link m2.main (m2.num 8) 176 e=(a,t,m3))
    (h7:hangE e od (let m4:=({m3 with main:=a}:Mk).setN 11 (a.getD 0 0);{m4 with h:={m4.h with tailArray:=lastN a%4294967296,tailItems:=t%4294967296}})=z) :
    m.append raw real mono boot=if z.c.most<z.b.length then(0,15,m)else
      (let seq:=(x.num 9+1)%18446744073709551616
      let m7:=if m2.num 8=0 then(z.setN 10 seq).setN 12 real else z
      let m8:=m7.setN 8 ((m7.num 8+1)%18446744073709551616)
      let m9:=((m8.setN 9 seq).setN 13 real).setN 14 mono
      (seq,0,{m9 with h:={m9.h with boot:=boot,tailEntry:=e}})):=by
  unfold Mk.append
  simp only[h1]
  rw[if_neg h2,if_neg h3]
  simp only[h4,h5,h6]
  simp only at h7
  rw[h7]
end Go.Wk
namespace Go.Wk
open Go Go.Op

theorem bl_irr:∀a:List UInt8,bytesLess a a=false
  | []=>rfl
  | x :: a=>by simp[bytesLess,bl_irr a]
theorem bl_trans:∀{a b c:Ly},bytesLess a b=true→bytesLess b c=true→bytesLess a c=true
  | _,[],_,h,_=>by unfold bytesLess at h;cases h
  | _,_ :: _,[],_,h=>by unfold bytesLess at h;cases h
  | [],_ :: _,_ :: _,_,_=>rfl
  | x :: a,y :: b,z :: c,h1,h2=>by
    simp only[bytesLess,Bool.or_eq_true,decide_eq_true_eq,Bool.and_eq_true,beq_iff_eq]at *
    rcases h1 with h1|⟨rfl,h1⟩<;>rcases h2 with h2|⟨rfl,h2⟩
    · exact .inl (UInt8.lt_trans h1 h2)
    · exact .inl h1
    · exact .inl h2
    · exact .inr ⟨rfl,bl_trans h1 h2⟩
theorem bl_asym {a b:Ly} (h:bytesLess a b=true):bytesLess b a=false:=by
  cases h2:bytesLess b a with
  | false=>rfl
  | true=>have:=bl_trans h h2;rw[bl_irr]at this;cases this
theorem bl_tri:∀{a b:Ly},bytesLess a b=false→bytesLess b a=false→a=b
  | [],[],_,_=>rfl
  | [],_ :: _,h,_=>by unfold bytesLess at h;cases h
  | _ :: _,[],_,h=>by unfold bytesLess at h;cases h
  | x :: a,y :: b,h1,h2=>by
    simp only[bytesLess,Bool.or_eq_false_iff,decide_eq_false_iff_not,Bool.and_eq_false_iff,beq_eq_false_iff_ne]at *
    have hxy:x=y:=by
      have A:=h1.1;have B:=h2.1
      exact UInt8.le_antisymm (UInt8.not_lt.1 B) (UInt8.not_lt.1 A)
    subst hxy
    have A:=h1.2.resolve_left (by simp)
    have B:=h2.2.resolve_left (by simp)
    rw[bl_tri A B]
theorem whole_inj {p q:PairB} (hp:right p=true) (hq:right q=true) (h:whole p=whole q):p=q:=by
  have A:=(split_whole ((joinC_right p).2 hp)).2
  have B:=(split_whole ((joinC_right q).2 hq)).2
  rw[← A,h,B]
theorem right_len {p:PairB} (h:right p=true):p.1.length≤64∧p.2.length≤256:=by
  simp only[right,Bool.and_eq_true,decide_eq_true_eq]at h
  exact⟨(name_len h.1).2,h.2⟩
end Go.Wk
namespace Go.Wk
open Go Go.RowKit
section
variable {P:Program} {n:Nat} {A:Fr n} {D:List Deferred} {l:List (Nat × Value)} {w:World} {d:Option Tmp} {ty:TypeId} {ps:String} {af:Array Edge} {g:Option (Nat × Bool)}
theorem r_neqPr {x y:Operand} {t f u:TypeId} {p q:Pr} (hp:pairT P t f=true) (hf:P.underlying f=some .string) (hx:ev n l x=some (.agg (Pr.cells p).toArray)) (hy:ev n l y=some (.agg (Pr.cells q).toArray)) :
    RunV P ⟨d,.binOp .neq t x y u,ty,ps,af,g⟩ (over A D l).eval w (.bool (!decide (p.pb=q.pb))):=r_neqP (p:=p.pb) (q:=q.pb) hp hf hx hy
end
theorem pb_inj {p q:Pr}:p.pb=q.pb↔p=q:=by
  cases p;cases q;simp[Pr.pb]
end Go.Wk
namespace Go.Wk
open Go Go.RowKit

/-! ### Worlds that draw and grow -/
structure Gr (w w':World):Prop where
  md:Md [] w w'
  dr:w.drawn≤w'.drawn
theorem Gr.refl (w:World):Gr w w:=⟨Md.refl [] w,Nat.le_refl _⟩
theorem Gr.step0 {a b c:World} (h:Gr a b) (k:Gr b c):Gr a c:=⟨h.md.step0 k.md,lv h.dr k.dr⟩
theorem Gr.grown {w w':World} (h:Gr w w'):∃q os,w'=Go.Sort.grow (w.drewN q) os:=by
  refine⟨w'.drawn-w.drawn,w'.heap.extract w.heap.size w'.heap.size,?_⟩
  have e:w'.heap=w.heap ++ w'.heap.extract w.heap.size w'.heap.size:=by
    apply Array.ext_getElem?
    intro k
    rcases Nat.lt_or_ge k w.heap.size with hk|hk
    · rw[Array.getElem?_append_left hk];exact h.md.block k hk (by simp)
    · rw[Array.getElem?_append_right hk,Array.getElem?_extract]
      have:=h.md.size
      split
      · congr 1;omega
      · rw[Array.getElem?_eq_none (by omega)]
  have D:=h.dr
  have A:=h.md.os;have B:=h.md.tape;have C:=h.md.output
  cases w';cases w
  simp only[Go.Sort.grow,World.drewN]at *
  subst A B C
  simp only[World.mk.injEq,and_true,true_and]
  exact⟨e,by omega⟩
section
variable {P:Program} {ops:Array Oper} {Q:Exit→Act→World→Prop} {rest:List Oper}
variable {n:Nat} {A:Fr n} {D:List Deferred} {l:List (Nat × Value)} {w:World}
variable {d:Tmp} {op:Op} {ty:TypeId} {ps:String} {af:Array Edge} {g:Option (Nat × Bool)}
theorem st_boxG {t:TypeId} {x:Operand} {v:Value} {cs:List Value} (hx:ev n l x=some v) (hv:v.cells=cs.toArray)
    (k:∀b w',w.heap.size≤b→b<w'.heap.size→Gr w w'→Blk w' b cs t→wpList P ops Q rest (over A D ((d,.pointer (some ⟨b,0,none⟩)) :: l)) w') :
    wpList P ops Q (⟨some d,.box t x,ty,ps,af,none⟩ :: rest) (over A D l) w:=by
  refine wl_plain rfl ?_
  have B:(execOp (over A D l).eval ⟨some d,.box t x,ty,ps,af,none⟩).run P w = .ok (.value (.pointer (some ⟨w.heap.size,0,none⟩))) (w.alloc (.cells cs.toArray t)):=by
    simp[execOp,Instr.box,newVar,newRow,ev_eval hx,hv]
  unfold Oper.wp
  rw[B]
  exact k _ _ (Nat.le_refl _) (by simp) ⟨Md.alloc w _,Nat.le_refl _⟩ (Blk.new w cs t)
theorem c_mixG {id:Nat} {lo:List Oper} {a:Act} {w:World} (ord:List (Nat × Bool)) (C:World→Prop) (hm:P.follows .mixedOrders=true) (hB:mixOk .any lo.toArray ord=true)
    (h:∀w',Gr w w'→C w'∧wpMix P lo.toArray C (fun a w=>Q .normal a w) (ordOps lo ord) a w'):(Code.region id lo.toArray true).wp P Q a w:=by
  simp only[mixOk,Bool.and_eq_true,decide_eq_true_eq]at hB
  obtain⟨⟨B,D⟩,E⟩:=hB
  obtain⟨F,hk⟩:=h _ ⟨Md.drew w,Nat.le_succ _⟩
  refine wp_region_any hm (wpAny_of_C (C:=C) (QN:=fun a w=>Q .normal a w) (fun _ _ G=>G) _ _ _ _ ?_)
  have:=wpAnyC_of_mix (md:=.any) (C:=C) (QN:=fun a w=>Q .normal a w) B ord _ a _ F E hk
  rwa [D]at this

/-! ### A row that is cleared -/
theorem st_clear {x:Operand} {t e:TypeId} {b o m c:Nat} {cs zs:List Value} (ht:P.underlying t=some (.slice e)) (hz:zcells P e=some zs) (h1:∀u∈zs,u.oneCell'=true) (hx:ev n l x=some (.slice (some ⟨b,o,none⟩) m c)) (h0:0<m)
    (hB:Blk w b cs e) (hj:o+m*zs.length≤cs.length) (k:∀w' us,Md [b] w w'→us.length=m*zs.length→Blk w' b (splice cs o us) e→wpList P ops Q rest (over A D l) w') :
    wpList P ops Q (⟨none,.call {callee:=.builtin .clear,args:=#[x],argTypes:=#[t]},ty,ps,af,none⟩ :: rest) (over A D l) w:=by
  refine wl_plain rfl ?_
  unfold zcells at hz
  split at hz
  · rename_i i hi
    split at hz
    · rename_i z hzz
      simp only[Option.some.injEq]at hz
      subst hz
      have E:(Builtin.zeroCells z.cells m).toList.length=m*z.cells.toList.length:=by simp[Builtin.zeroCells]
      have h1':∀u∈(Builtin.zeroCells z.cells m).toList,u.oneCell'=true:=by
        intro u J
        simp only[Builtin.zeroCells,Array.toList_map,List.mem_map]at J
        obtain⟨j,F,rfl⟩:=J
        have G:j<m*z.cells.size:=by simpa using F
        have K:0<z.cells.size:=by
          rcases Nat.eq_zero_or_pos z.cells.size with h|h
          · rw[h]at G;omega
          · exact h
        have H:=Nat.mod_lt j K
        rw[getElem!_pos z.cells (j%z.cells.size) H]
        exact h1 _ (by simp)
      have C:=run_storeCells_at P b o e (Builtin.zeroCells z.cells m).toList 0 cs.toArray w hB (by simp only[E];simpa using hj) h1'
      obtain⟨I,rfl⟩:∃I,m=I+1:=⟨m-1,by omega⟩
      have B:(execOp (over A D l).eval ⟨none,.call {callee:=.builtin .clear,args:=#[x],argTypes:=#[t]},ty,ps,af,none⟩).run P w = .ok (.value (.tuple #[])) (w.setRow b (splice cs o (Builtin.zeroCells z.cells (I+1)).toList).toArray):=by
        simp[execOp,resolve,invoke,builtin,ev_eval hx,Builtin.clear_,run_underlying ht,zeroValue,typeInfo,hi,hzz,splice]at C ⊢
        simp[C]
      unfold Oper.wp
      rw[B]
      exact k _ _ (Md.setRow w b _) E hB.setRow
    · cases hz
  · cases hz
end

section
variable {P:Program} {n:Nat} {A:Fr n} {D:List Deferred} {l:List (Nat × Value)} {w:World} {d:Option Tmp} {ty:TypeId} {ps:String} {af:Array Edge} {g:Option (Nat × Bool)}
theorem r_eqlSN {x:Operand} {t u e:TypeId} {a:Option Addr} {m c:Nat} (hx:ev n l x=some (.slice a m c)) (hT:P.underlying t=some (.slice e)) :
    RunV P ⟨d,.binOp .eql t x (.const (.slice none 0 0)) u,ty,ps,af,g⟩ (over A D l).eval w (.bool a.isNone):=by
  have h:=Go.Lib.run_eql_slice_nil (P:=P) w t e a m c 0 0 hT
  have B:(over A D l).eval (.const (.slice none 0 0)) = .slice none 0 0:=rfl
  have C:(eqGuard .eql t x (.const (.slice none 0 0)) (.slice a m c) (.slice none 0 0)).run P w = .ok () w:=by unfold eqGuard;simp
  simp[RunV,execOp,ev_eval hx,B,C,h]
end

/-! ### A row of pairs in a block -/
def Rw (w:World) (b cap:Nat) (xs:List Pr):Prop :=
  ∃cur,Blk w b cur 91∧cur.length=cap*2∧xs.length≤cap∧cur.take (xs.length*2)=xs.flatMap Pr.cells
theorem flat_len (xs:List Pr):(xs.flatMap Pr.cells).length=xs.length*2:=by
  induction xs with
  | nil=>rfl
  | cons x r ih=>simp[List.flatMap_cons,ih,Pr.cells];omega
theorem flat_get {xs:List Pr} {i j:Nat} {x:Pr} {u:Value} (h:xs[i]? = some x) (k:(Pr.cells x)[j]? = some u):(xs.flatMap Pr.cells)[i*2+j]? = some u:=by
  induction xs generalizing i with
  | nil=>simp at h
  | cons y r ih =>
    cases i with
    | zero =>
      simp at h;subst h
      rw[List.flatMap_cons,Nat.zero_mul,Nat.zero_add,List.getElem?_append_left (List.getElem?_eq_some_iff.1 k).1]
      exact k
    | succ i =>
      rw[List.flatMap_cons,show(i+1)*2+j=2+(i*2+j)by omega,List.getElem?_append_right (by simp[Pr.cells])]
      have:=ih (i:=i) (by simpa using h)
      simpa [Pr.cells]using this
theorem flat_set (xs:List Pr) (i:Nat) (z:Pr) (h:i<xs.length):(xs.set i z).flatMap Pr.cells=splice (xs.flatMap Pr.cells) (i*2) (Pr.cells z):=by
  induction xs generalizing i with
  | nil=>simp at h
  | cons y r ih =>
    cases i with
    | zero=>simp[splice,List.flatMap_cons,Pr.cells]
    | succ i =>
      have:=ih i (by simpa using h)
      rw[List.set_cons_succ,List.flatMap_cons,this,List.flatMap_cons]
      have e:(i+1)*2=i*2+1+1:=by omega
      have A:(i+1)*2+2=i*2+2+1+1:=by omega
      simp only[splice,Pr.cells,List.cons_append,List.nil_append,e,A,List.take_succ_cons,List.drop_succ_cons,List.length_cons,List.length_nil]
theorem flat_take (xs:List Pr) (k:Nat):(xs.flatMap Pr.cells).take (k*2)=(xs.take k).flatMap Pr.cells:=by
  induction xs generalizing k with
  | nil=>simp
  | cons y r ih =>
    cases k with
    | zero=>simp
    | succ k =>
      rw[List.take_succ_cons,List.flatMap_cons,List.flatMap_cons,← ih,show(k+1)*2=k*2+1+1 by omega]
      simp[Pr.cells]
section
variable {w w':World} {b cap:Nat} {xs:List Pr}
theorem Rw.md {S:List Nat} (h:Rw w b cap xs) (m:Md S w w') (hs:b∉S):Rw w' b cap xs:=by
  obtain⟨A,B,C,D,E⟩:=h;exact⟨A,B.md m hs,C,D,E⟩
theorem Rw.md0 (h:Rw w b cap xs) (m:Md [] w w'):Rw w' b cap xs:=h.md m (by simp)
theorem Rw.at_ {i k o n c:Nat} {x:Pr} (h:Rw w b cap xs) (hi:xs[i]? = some x) (e:o+k=i*2):At w (.slice (some ⟨b,o,none⟩) n c) k (Pr.cells x):=by
  obtain⟨C,D,I,J,E⟩:=h
  refine⟨_,_,_,rfl,fun j u B=>?_⟩
  have A:=flat_get hi B
  have G:=(List.getElem?_eq_some_iff.1 B).1
  have F:=(List.getElem?_eq_some_iff.1 hi).1
  have H:j<2:=by simpa [Pr.cells]using G
  rw[Addr.add_mk,D.cell,← Nat.add_assoc,e]
  rw[← E,List.getElem?_take,if_pos (by omega)]at A
  exact A
theorem Rw.into (h:Rw w b cap xs) {i:Nat} {z:Pr} (hi:i<xs.length):∃cur,Blk w b cur 91∧i*2+(Pr.cells z).length≤cur.length∧∀w',Blk w' b (splice cur (i*2) (Pr.cells z)) 91→Rw w' b cap (xs.set i z):=by
  obtain⟨cur,B,C,D,E⟩:=h
  have A:(Pr.cells z).length=2:=rfl
  refine⟨cur,B,by rw[A];omega,fun w' F=>⟨_,F,?_,by simpa using D,?_⟩⟩
  · rw[splice_len (by rw[A];omega),C]
  · rw[flat_set _ _ _ hi,← E,List.length_set]
    unfold splice
    rw[A,List.take_append,List.take_of_length_le (by simp[Pr.cells];omega),List.take_take,Nat.min_eq_left (by omega),List.drop_take]
    congr 2
    simp[Pr.cells];omega
theorem Rw.clear (h:Rw w b cap xs) {i m:Nat} (hi:i≤xs.length) (hm:i+m≤cap):∃cur,Blk w b cur 91∧i*2+m*2≤cur.length∧∀w' us,us.length=m*2→Blk w' b (splice cur (i*2) us) 91→Rw w' b cap (xs.take i):=by
  obtain⟨cur,A,B,F,C⟩:=h
  refine⟨cur,A,by omega,fun w' us E D=>⟨_,D,?_,by simp;omega,?_⟩⟩
  · rw[splice_len (by rw[E];omega),B]
  · rw[← flat_take,← C,List.take_take,List.length_take]
    unfold splice
    rw[List.append_assoc,List.take_append_of_le_length (by simp;omega),List.take_take]
    congr 1;omega
theorem Ow.rw_ {lo:Nat→Prop} {Q:Nat→Prop} {v:Value} (h:Ow tPr 91 lo w Q v xs) (h0:0<xs.length):∃b cap,v = .slice (some ⟨b,0,none⟩) xs.length cap∧cap≤maxLen∧Rw w b cap xs∧lo b∧¬Q b:=by
  obtain⟨⟨J,B,C⟩,D⟩:=h
  obtain⟨b,cap,A,rfl,I,E,F,G,H⟩:=B.blk h0
  refine⟨b,cap,rfl,F,⟨A,I,G,E,?_⟩,D b rfl⟩
  rw[show xs.length*2=xs.length*tPr.n from rfl,H]
  clear B D I E F G H h0
  induction xs generalizing J with
  | nil=>exact C
  | cons x r ih =>
    obtain⟨c,s,rfl,K,L⟩:=C
    obtain⟨_,rfl⟩:=tPr_un K
    rw[List.flatMap_cons,ih _ L]
theorem els_pr {Q:Nat→Prop} (xs:List Pr):Els tPr w Q (xs.flatMap Pr.cells) xs:=by
  induction xs with
  | nil=>rfl
  | cons x r ih=>exact⟨_,_,by rw[List.flatMap_cons],tPr_mk,ih⟩
theorem Rw.ow {lo:Nat→Prop} {Q:Nat→Prop} (h:Rw w b cap xs) (hc:cap≤maxLen) (hl:lo b) (hq:¬Q b):Ow tPr 91 lo w Q (.slice (some ⟨b,0,none⟩) xs.length cap) xs:=by
  obtain⟨B,C,D,E,F⟩:=h
  refine⟨⟨xs.flatMap Pr.cells,?_,els_pr xs⟩,fun G A=>by simp[vblock]at A;subst A;exact⟨hl,hq⟩⟩
  have:=Own.of_blk (sz:=2) (m:=xs.length) C E hc D
  rw[F]at this
  exact this
end

/-! ### What is twice is once -/
def ddF (p:Pr):List Pr→List Pr
  | []=>[]
  | q :: r=>if q.pb=p.pb then ddF q r else q :: ddF q r
def compactF:List Pr→List Pr
  | []=>[]
  | p :: r=>p :: ddF p r
theorem dd_end {p:Pr} {l:List Pr} {i:Nat} (h:¬i<l.length):ddF p (l.drop i)=[]:=by rw[drop_end (by omega)];rfl
theorem dd_step {p q:Pr} {l:List Pr} {i:Nat} (h:l[i]? = some q):ddF p (l.drop i)=if q.pb=p.pb then ddF q (l.drop (i+1))else q :: ddF q (l.drop (i+1)):=by rw[drop_get h];rfl
theorem dd_len (p:Pr) (l:List Pr):(ddF p l).length≤l.length:=by
  induction l generalizing p with
  | nil=>simp[ddF]
  | cons q r ih =>
    unfold ddF
    have:=ih q
    split <;> simp <;> omega
theorem compact_len (l:List Pr):(compactF l).length≤l.length:=by
  cases l with
  | nil=>simp[compactF]
  | cons p r=>have:=dd_len p r;simp[compactF];omega
theorem compact_short {l:List Pr} (h:l.length<2):compactF l=l:=by
  match l,h with
  | [],_=>rfl
  | [_],_=>rfl
  | _ :: _ :: _,h=>simp at h;omega
theorem compact_start {l:List Pr} (h:1≤l.length):l.take 1 ++ ddF (l.getD (1-1) {name:=[],value:=[]}) (l.drop 1)=compactF l:=by
  cases l with
  | nil=>simp at h
  | cons p r=>rfl
theorem take_set_succ {l:List Pr} {j:Nat} {s:Pr} (h:j<l.length):(l.set j s).take (j+1)=l.take j ++ [s]:=by
  rw[List.take_add_one,List.getElem?_set_self h,List.take_set_of_le (Nat.le_refl _)];rfl
theorem subz_tail {b n cap i:Nat} (h:i<cap):subz 2 (.slice (some ⟨b,0,none⟩) n cap) i n = .slice (some ⟨b,i*2,none⟩) (n-i) (cap-i):=by
  have:¬cap=i:=by omega
  simp[subz,this,Addr.add_mk]
theorem subz_head {b n cap j:Nat} (h:0<cap):subz 2 (.slice (some ⟨b,0,none⟩) n cap) 0 j = .slice (some ⟨b,0,none⟩) j cap:=by
  have:¬cap=0:=by omega
  simp[subz,this,Addr.add_mk]
end Go.Wk
namespace Go.Wk
open Go Go.RowKit
theorem shl_or {v:Nat} {x:UInt8} (h:v<72057594037927936):v*2 ^ 8%18446744073709551616 ||| x.toNat=x.toNat+256*v:=by
  have A:=UInt8.toNat_lt x
  rw[Nat.mod_eq_of_lt (by omega),Nat.mul_comm,← Nat.two_pow_add_eq_or_of_lt (by simpa using A)]
  omega
theorem getF_at {l:Ly} {a k:Nat} (hk:k=4∨k=8) (h:a+k≤l.length):getF l a k=(leN ((l.drop a).take k),true):=by
  unfold getF
  rw[if_pos ⟨by rw[sizeOk_iff];omega,by omega,by omega⟩];simp
def at4 (l:Ly) (a:Nat):Nat:=leN ((l.drop a).take 4)
def at8 (l:Ly) (a:Nat):Nat:=leN ((l.drop a).take 8)
theorem at8_lt (l:Ly) (a:Nat):at8 l a<18446744073709551616:=leN_lt_of (k:=8) (by simp;omega)
section
variable {P:Program} {ops:Array Oper} {Q:Exit→Act→World→Prop} {rest:List Oper}
variable {n:Nat} {A:Fr n} {D:List Deferred} {l:List (Nat × Value)} {w:World}
variable {d:Tmp} {op:Op} {ty:TypeId} {ps:String} {af:Array Edge} {g:Option (Nat × Bool)}
end

/-! ### The head's bytes -/
def ptrs (b o sz:Nat) (n:Nat):List Value:=(List.range n).map fun k=>.pointer (some ⟨b,o+k*sz,none⟩)
theorem ptrs_get {b o sz n k:Nat} (h:k<n):(ptrs b o sz n)[k]? = some (.pointer (some ⟨b,o+k*sz,none⟩)):=by
  simp[ptrs,h]
end Go.Wk
namespace Go.Wk
open Go Go.RowKit
/-- a &^ b of numbers of 32 bits. -/
def andNot (a b:Nat):Nat:=(BitVec.ofNat 32 a &&& ~~~(BitVec.ofNat 32 b)).toNat
section
variable {P:Program} {n:Nat} {A:Fr n} {D:List Deferred} {l:List (Nat × Value)} {w:World} {d:Option Tmp} {ty:TypeId} {ps:String} {af:Array Edge} {g:Option (Nat × Bool)}
end
def signF:List UInt8:=[76,80,75,83,72,72,82,72]
/-! ### A pointer that may be nil -/
section
variable {α:Type} {T:Dt α} {ty:TypeId} {w w':World} {Q Q':Nat→Prop} {v:Value} {ox:Option α}
variable {P:Program} {n:Nat} {A:Fr n} {D:List Deferred} {l:List (Nat × Value)} {d:Option Tmp} {ty2:TypeId} {ps:String} {af:Array Edge} {g:Option (Nat × Bool)}
end

/-! ### A view -/
end Go.Wk
namespace Go.Wk
open Go Go.RowKit
theorem low_getW:∀(n v i:Nat),i<n→(low v n)[i]? = some (UInt8.ofNat (v/2 ^ (8*i)))
  | n+1,v,0,_=>by
    simp only[low,List.getElem?_cons_zero,Nat.mul_zero,Nat.pow_zero,Nat.div_one,Option.some.injEq]
    apply UInt8.toNat.inj;simp
  | n+1,v,i+1,h=>by
    simp only[low,List.getElem?_cons_succ]
    rw[low_getW n (v/256) i (by omega),Nat.div_div_eq_div_mul,show 256*2 ^ (8*i)=2 ^ (8*(i+1))by rw[Nat.mul_add,Nat.pow_add,Nat.mul_comm]]
theorem low_snoc (v i:Nat):low v i ++ [UInt8.ofNat (v/2 ^ (8*i))]=low v (i+1):=by
  apply List.ext_getElem?
  intro j
  by_cases h:j<i
  · rw[List.getElem?_append_left (by rw[low_len];exact h),low_getW i v j h,low_getW (i+1) v j (by omega)]
  · by_cases h2:j=i
    · subst h2
      rw[List.getElem?_append_right (by rw[low_len];omega),low_len,Nat.sub_self,low_getW (j+1) v j (by omega)];rfl
    · rw[List.getElem?_eq_none (by simp[low_len];omega),List.getElem?_eq_none (by rw[low_len];omega)]
def addF (b:Ly) (n v:Nat):List UInt8:=if n=1∨n=2∨n=4∨n=8 then b ++ low v n else b
theorem sizeOk_nat {n:Nat} {r:Bool} (h:sizeOk (n:Int)=r):(r=true↔n=1∨n=2∨n=4∨n=8):=by
  rw[← h,sizeOk_iff];omega
def putH (h:PHead):List UInt8:=signF ++ (low h.compat 4 ++ (low h.incompat 4 ++ ([UInt8.ofNat h.state,0,0,0,0,0,0,0] ++ (h.file ++ (h.machine ++ (h.boot ++ (h.seq ++ (nums h.n ++ (low h.tailArray 4 ++ (low h.tailItems 4 ++ low h.tailEntry 8))))))))))
theorem addF_4 (b:Ly) (v:Nat):addF b 4 v=b ++ low v 4:=by unfold addF;rw[if_pos (by omega)]
theorem addF_8 (b:Ly) (v:Nat):addF b 8 v=b ++ low v 8:=by unfold addF;rw[if_pos (by omega)]
theorem putH_len {h:PHead} (ok:PHead.ok h):(putH h).length=272:=by
  obtain⟨_,_,_,A,B,C,D,⟨E,_⟩,_,_,_⟩:=ok
  have:signF.length=8:=rfl
  simp only[putH,List.length_append,low_len,nums_len,this,A,B,C,D,E,List.length_cons,List.length_nil]
theorem nums_appW (a b:List Nat):nums (a ++ b)=nums a ++ nums b:=by
  induction a with
  | nil=>rfl
  | cons x r ih=>rw[List.cons_append,nums,ih,nums,List.append_assoc]
section
variable {α:Type} {T:Dt α} {P:Program} {ops:Array Oper} {Q:Exit→Act→World→Prop} {n:Nat} {A:Fr n} {D:List Deferred} {l:List (Nat × Value)} {w:World} {rest:List Oper}
theorem st_apN {d:Nat} {x y:Operand} {ty:TypeId} {ps:String} {af:Array Edge} {t e:TypeId} {sz by':Nat} {v u:Value} {xs ys:List α} {w0:World} {Q0 R:Nat→Prop} (hn:T.n=sz) (ht:P.underlying t=some (.slice e)) (hE:elT P e sz by'=true) (hx:ev n l x=some v) (hy:ev n l y=some u)
    (F:New1 T w0 Q0 e w R v xs) (hY:Lz T w R u ys) (h63:xs.length+ys.length≤100000) (hb:by'≤1000)
    (k:∀v' w' R',New1 T w0 Q0 e w' R' v' (xs ++ ys)→Md (vblock v).toList w w'→(∀b,vblock v'=some b→vblock v=some b∨w.heap.size≤b)→wpList P ops Q rest (over A D ((d,v') :: l)) w') :
    wpList P ops Q (⟨some d,.call {callee:=.builtin .append,args:=#[x,y],argTypes:=#[t,t]},ty,ps,af,none⟩ :: rest) (over A D l) w:=by
  refine st_apZ hn ht hE hx hy F.ow hY F.up (fun b hb=>.inr (lv F.md.size hb)) (by omega) ?_ ?_
  · exact lv (Nat.mul_le_mul h63 hb) (by decide)
  · intro v' w' R' E G H I B K L J
    exact k v' w' R' ⟨F.md.stepO B fun b hb=>(F.ow.2 b hb).1,fun b hb C=>E b (F.s b hb C) (ly C F.md.size),fun b hb=>F.t b (G b hb),H,I⟩ B J
theorem New1.call {w0 w w':World} {Q0 R Q':Nat→Prop} {e:TypeId} {v u:Value} {xs ys:List α} (F:New1 T w0 Q0 e w R v xs) (hm:Md [] w w') (kq:NewQ w w' Q0 Q') (h:Ow T e (Fsh [] w) w' Q' u ys):New1 T w0 Q0 e w' Q' u ys :=
  ⟨F.md.step0 hm,fun b hb hl=>kq.1 b hb (ly hl F.md.size),kq.2.1,kq.2.2,h.lower (Fsh.lift F.md)⟩
theorem New1.lsx {w0 w:World} {Q0 R:Nat→Prop} {e:TypeId} {v:Value} {xs:List α} (F:New1 T w0 Q0 e w R v xs) (u0:Up w0 Q0):Ls T w Q0 v xs:=F.ow.ls F.t (Fsh.up u0)
end
theorem lz_part {w:World} {R:Nat→Prop} {b off:Nat} {cs:List Value} {ty:TypeId} {ys:Ly} (hB:Blk w b cs ty) (hl:ys.length=16) (hc:∀j u,(ys.map b8)[j]? = some u→cs[off+j]? = some u):Lz tB8 w R (.slice (some ⟨b,off,none⟩) 16 16) ys:=by
  refine⟨some ⟨b,off,none⟩,16,ys.map b8,by rw[hl],by omega,by decide,fun h=>(by cases h),fun p B j u A=>?_,els_one fun _ _=>trivial⟩
  cases B
  have h:=hB.cell (j:=off+j)
  rw[hc j u A]at h
  simpa [Addr.add_mk]using h
def ids4 (h:PHead):List (List UInt8):=[h.file,h.machine,h.boot,h.seq]
theorem cells_parts {h:PHead} (ok:PHead.ok h):PHead.cells h=[(.int .u32 h.compat),(.int .u32 h.incompat),(.int .i64 h.state)] ++ (h.file.map b8 ++ (h.machine.map b8 ++ (h.boot.map b8 ++ (h.seq.map b8 ++ (h.n.map (fun x=>(.int .u64 x)) ++ [(.int .u32 h.tailArray),(.int .u32 h.tailItems),(.int .u64 h.tailEntry)]))))):=by
  obtain⟨F,G,H,A,B,C,D,⟨E,I⟩,_⟩:=ok
  unfold PHead.cells
  rw[idc_map A,idc_map B,idc_map C,idc_map D,nums21_map E]
  simp only[List.append_assoc,List.cons_append,List.nil_append]
theorem head_ids {h:PHead} (ok:PHead.ok h) {k:Nat} (hk:k<4):∃y,(ids4 h)[k]? = some y∧y.length=16∧∀j u,(y.map b8)[j]? = some u→(PHead.cells h)[3+k*16+j]? = some u:=by
  have e:=cells_parts ok
  obtain⟨L,M,N,F,G,H,I,_⟩:=ok
  have D:(h.file.map b8).length=16:=by simpa using F
  have E:(h.machine.map b8).length=16:=by simpa using G
  have J:(h.boot.map b8).length=16:=by simpa using H
  have K:(h.seq.map b8).length=16:=by simpa using I
  have B:([(.int .u32 h.compat),(.int .u32 h.incompat),(.int .i64 h.state)]:List Value).length=3:=rfl
  rw[e]
  rcases(show k=0∨k=1∨k=2∨k=3 by omega)with rfl|rfl|rfl|rfl
  · refine⟨h.file,rfl,F,fun j u A=>?_⟩
    have C:=(List.getElem?_eq_some_iff.1 A).1
    rw[List.getElem?_append_right (by omega),B,List.getElem?_append_left (by omega),show 3+0*16+j-3=j by omega];exact A
  · refine⟨h.machine,rfl,G,fun j u A=>?_⟩
    have C:=(List.getElem?_eq_some_iff.1 A).1
    rw[List.getElem?_append_right (by omega),B,List.getElem?_append_right (by omega),D,List.getElem?_append_left (by omega),show 3+1*16+j-3-16=j by omega];exact A
  · refine⟨h.boot,rfl,H,fun j u A=>?_⟩
    have C:=(List.getElem?_eq_some_iff.1 A).1
    rw[List.getElem?_append_right (by omega),B,List.getElem?_append_right (by omega),D,List.getElem?_append_right (by omega),E,List.getElem?_append_left (by omega),show 3+2*16+j-3-16-16=j by omega];exact A
  · refine⟨h.seq,rfl,I,fun j u A=>?_⟩
    have C:=(List.getElem?_eq_some_iff.1 A).1
    rw[List.getElem?_append_right (by omega),B,List.getElem?_append_right (by omega),D,List.getElem?_append_right (by omega),E,List.getElem?_append_right (by omega),J,List.getElem?_append_left (by omega),show 3+3*16+j-3-16-16-16=j by omega];exact A
theorem head_num {h:PHead} (ok:PHead.ok h) {j:Nat} (hj:j<21):(PHead.cells h)[67+j*1]? = some (.int .u64 ((h.n.getD j 0:Nat):Int))∧h.n.getD j 0<18446744073709551616∧h.n.take (j+1)=h.n.take j ++ [h.n.getD j 0]:=by
  have e:=cells_parts ok
  obtain⟨L,M,N,G,H,I,J,⟨O,K⟩,_⟩:=ok
  have C:(h.file.map b8).length=16:=by simpa using G
  have D:(h.machine.map b8).length=16:=by simpa using H
  have E:(h.boot.map b8).length=16:=by simpa using I
  have F:(h.seq.map b8).length=16:=by simpa using J
  have B:([(.int .u32 h.compat),(.int .u32 h.incompat),(.int .i64 h.state)]:List Value).length=3:=rfl
  have A:h.n[j]? = some (h.n.getD j 0):=by simp[List.getD,List.getElem?_eq_getElem (show j<h.n.length by omega)]
  refine⟨?_,K _ (List.mem_of_getElem? A),?_⟩
  · rw[e,List.getElem?_append_right (by omega),B,List.getElem?_append_right (by omega),C,List.getElem?_append_right (by omega),D,List.getElem?_append_right (by omega),E,List.getElem?_append_right (by omega),F,List.getElem?_append_left (by simp;omega),show 67+j*1-3-16-16-16-16=j by omega,List.getElem?_map,A];rfl
  · rw[List.take_add_one,A];rfl
theorem nums_take {l:List Nat} {j x:Nat} (h:l.take (j+1)=l.take j ++ [x]):nums (l.take (j+1))=nums (l.take j) ++ low x 8:=by rw[h,nums_appW];simp[nums]
theorem ids_take {h:PHead} {k:Nat} {y:Ly} (hy:(ids4 h)[k]? = some y):((ids4 h).take (k+1)).flatten=((ids4 h).take k).flatten ++ y:=by rw[List.take_add_one,hy];simp
theorem flat_le {h:PHead} (ok:PHead.ok h) (k:Nat):(((ids4 h).take k).flatten).length≤64:=by
  obtain⟨E,F,G,A,B,C,D,_⟩:=ok
  have e:(((ids4 h).take k).flatten).length+(((ids4 h).drop k).flatten).length=64:=by
    rw[← List.length_append,← List.flatten_append,List.take_append_drop]
    simp[ids4,A,B,C,D]
  omega
theorem b8_state {s:Nat} (h:s<256):b8 (UInt8.ofNat s) = .int .u8 s:=by
  show Value.int .u8 (((UInt8.ofNat s).toNat:Nat):Int)=_
  rw[UInt8.toNat_ofNat',Nat.mod_eq_of_lt (by omega)]
theorem an7_nat (a:Nat) (h:a<18446744073709551616):(BitVec.ofNat 64 a &&& ~~~(BitVec.ofNat 64 7)).toNat=a/8*8:=by
  have e:(BitVec.ofNat 64 a &&& ~~~(BitVec.ofNat 64 7))=((BitVec.ofNat 64 a) >>> 3) <<< 3:=by
    apply BitVec.eq_of_getLsbD_eq
    intro i A
    have B:Nat.testBit 7 i=decide (i<3):=Nat.testBit_two_pow_sub_one (n:=3) (i:=i)
    simp only[BitVec.getLsbD_and,BitVec.getLsbD_not,BitVec.getLsbD_shiftLeft,BitVec.getLsbD_ushiftRight,BitVec.getLsbD_ofNat,B,A,decide_true,Bool.true_and]
    by_cases h3:i<3
    · simp[h3]
    · simp[h3,show 3+(i-3)=i by omega,A]
  rw[e,BitVec.toNat_shiftLeft,BitVec.toNat_ushiftRight,BitVec.toNat_ofNat,Nat.shiftLeft_eq,Nat.shiftRight_eq_div_pow,Nat.mod_eq_of_lt h]
  exact Nat.mod_eq_of_lt (by omega)
theorem r_an7 {P:Program} {n:Nat} {A:Fr n} {D:List Deferred} {l:List (Nat × Value)} {w:World} {d:Option Tmp} {ty:TypeId} {ps:String} {af:Array Edge} {g:Option (Nat × Bool)} {x y:Operand} {t u:TypeId} {a:Nat} (hx:ev n l x=some (.int .u64 (a:Int))) (hy:ev n l y=some (.int .u64 (((7:Nat):Int)))) (h:a<18446744073709551616) :
    RunV P ⟨d,.binOp .andNot t x y u,ty,ps,af,g⟩ (over A D l).eval w (.int .u64 ((a/8*8:Nat):Int)):=(r_andNot hx hy).castI (by
  have e:=an7_nat a h
  unfold bits
  simp only[BitVec.ofInt_natCast]
  exact(wrapN .u64 _ (show(BitVec.ofNat 64 a &&& ~~~(BitVec.ofNat 64 7)).toNat<18446744073709551616 by rw[e];omega)).trans (congrArg (fun z:Nat=>(z:Int)) e))
end Go.Wk
namespace Go.Wk
open Go Go.RowKit
structure Drf where
  b:List UInt8
  h:PHead
def Drf.cells (x:Drf) (v0:Value):List Value :=
  [v0] ++ ((PHead.cells x.h))
def tDrf:Dt Drf:=tPull (fun x=>(x.b,x.h)) (tProd (tSl tB8) tPHead)
def Drf.ok (x:Drf):Prop:=PHead.ok x.h
theorem tDrf_un {w:World} {Q:Nat→Prop} {cs:List Value} {x:Drf} (h:tDrf.rep w Q cs x):∃v0,cs=x.cells v0∧Drf.ok x∧Ls tB8 w Q v0 x.b:=by
  obtain⟨_,_,rfl,⟨v0,rfl,B⟩,C⟩:=h
  obtain⟨_,rfl,A⟩:=tPHead_un C
  exact⟨v0,rfl,A,B⟩
theorem tDrf_mk {w:World} {Q:Nat→Prop} {x:Drf} {v0:Value} (c0:Drf.ok x) (c1:Ls tB8 w Q v0 x.b):tDrf.rep w Q (x.cells v0) x :=
  ⟨_,_,rfl,⟨_,rfl,c1⟩,(tPHead_mk c0)⟩
structure Chn where
  slot:Nat
  found:Nat
  last:Nat
  many:Nat
def Chn.cells (x:Chn):List Value :=
  [(.int .u64 x.slot)] ++ ([(.int .u64 x.found)] ++ ([(.int .u64 x.last)] ++ ([(.int .u64 x.many)])))
def Chn.ok (x:Chn):Prop:=x.slot<18446744073709551616∧x.found<18446744073709551616∧x.last<18446744073709551616∧x.many<18446744073709551616
theorem Chn.one {x:Chn}:(x.cells).all (fun u=>u.oneCell')=true:=(ones_app rfl (ones_app rfl (ones_app rfl rfl)))
theorem Ls.subMd {α:Type} {T:Dt α} {w w':World} {Q Q':Nat→Prop} {S:List Nat} {v:Value} {xs:List α} (h:Ls T w Q v xs) (m:Md S w w') (hs:∀b∈S,¬Q b) (s:∀b,Q b→b<w.heap.size→Q' b):Ls T w' Q' v xs :=
  ((h.sub (Q':=fun b=>Q b∧b<w.heap.size) fun b hb hl=>⟨hb,hl⟩).md m fun b hb hq=>hs b hb hq.1).sub fun b hb _=>s b hb.1 hb.2
theorem putF_of {k n:Nat} {b x:Ly} (h:1≤k∧k≤7) (hF:addF ([UInt8.ofNat k] ++ List.replicate 7 0) 8 (16+b.length)=x) (al:(x.length+b.length+7)/8*8=n) :
    putF k b=x ++ b ++ List.replicate (n-(x ++ b).length) 0:=by
  rw[addF_8]at hF
  have e:[UInt8.ofNat k,0,0,0,0,0,0,0] ++ nums [16+b.length]=x:=by rw[← hF];simp[nums,List.replicate]
  unfold putF pad8
  rw[if_neg (by omega),e,show(8-(x ++ b).length%8)%8=n-(x ++ b).length by rw[List.length_append];omega]
theorem putG_getW:∀(n:Nat) (b:Ly) (p v i q:Nat),(putG n b p v i)[q]? = if p+i≤q∧q<p+i+n∧q<b.length then some (UInt8.ofNat (v/2 ^ (8*(q-p))))else b[q]?
  | 0,b,p,v,i,q=>by rw[if_neg (by omega)];rfl
  | n+1,b,p,v,i,q=>by
    rw[putG,putG_getW n]
    simp only[List.length_set]
    by_cases h:p+(i+1)≤q∧q<p+(i+1)+n∧q<b.length
    · rw[if_pos h,if_pos (by omega)]
    · rw[if_neg h]
      by_cases hq:q=p+i
      · subst hq
        by_cases hl:p+i<b.length
        · rw[if_pos (by omega),List.getElem?_set_self hl,show p+i-p=i by omega]
        · rw[if_neg (by omega),List.getElem?_eq_none (by simp;omega),List.getElem?_eq_none (by omega)]
      · rw[if_neg (by omega),List.getElem?_set_ne (by omega)]
theorem putN_getW (b:Ly) (p v q:Nat):(putN b p v)[q]? = if p≤q∧q<p+8∧q<b.length then some (UInt8.ofNat (v/2 ^ (8*(q-p))))else b[q]?:=putG_getW 8 b p v 0 q
theorem putN_cut {b:Ly} {p v:Nat} (h:p+8≤b.length):putN b p v=b.take p ++ low v 8 ++ b.drop (p+(low v 8).length):=by
  have A:(low v 8).length=8:=low_len v 8
  have B:(b.take p).length=p:=by rw[List.length_take];omega
  rw[A]
  apply List.ext_getElem?
  intro q
  rw[putN_getW,List.append_assoc]
  by_cases h1:q<p
  · rw[if_neg (by omega),List.getElem?_append_left (by omega),List.getElem?_take,if_pos h1]
  · rw[List.getElem?_append_right (by omega),B]
    by_cases h2:q<p+8
    · rw[if_pos (by omega),List.getElem?_append_left (by omega),low_getW 8 v (q-p) (by omega)]
    · rw[if_neg (by omega),List.getElem?_append_right (by omega),A,List.getElem?_drop]
      congr 1;omega
/-! ### What a draft's functions compute -/
def Drf.num (d:Drf) (k:Nat):Nat:=d.h.n.getD k 0
def Drf.setN (d:Drf) (k v:Nat):Drf:={d with h:={d.h with n:=d.h.n.set k v}}
def Drf.put (d:Drf) (p v:Nat):Drf:={d with b:=putN d.b p v}
def Drf.hash (d:Drf) (t:Ly):Nat:=hashN (decide (d.h.incompat=4)) d.h.file t
/-- An object behind all others: its place. -/
def Drf.add (d:Drf) (o:Ly):Nat × Drf :=
  let d1:Drf:={d with b:=d.b ++ o}
  let d2:=d1.setN 1 (d1.b.length-d1.num 0)
  let d3:=d2.setN 6 d.b.length
  (d.b.length,d3.setN 7 ((d3.num 7+1)%18446744073709551616))
/-- A chain from a place on: the last one of a payload, the last one, how many. -/
def lookG (b:Ly) (h:Nat) (t:Ly) (k:Nat):Nat→Nat→Nat→Nat→Nat→Nat × Nat × Nat
  | 0,_,f,l,m=>(f,l,m)
  | n+1,a,f,l,m=>if a=0 then(f,l,m)else lookG b h t k n (at8 b (a+24)) (if at8 b (a+16)=h∧(b.take (a+at8 b (a+8))).drop (a+k)=t then a else f) a (m+1)
/-- The chain comes to its end, and its objects lie within the bytes. -/
def okG (b:Ly) (k:Nat):Nat→Nat→Bool
  | 0,a=>decide (a=0)
  | n+1,a=>decide (a=0) || (decide (a+40≤b.length∧k≤at8 b (a+8)∧a+at8 b (a+8)≤b.length) && okG b k n (at8 b (a+24)))
def Drf.slot (d:Drf) (table size:Nat) (t:Ly):Nat:=table+d.hash t%(size/16)*16
def Drf.look (d:Drf) (table size:Nat) (t:Ly) (k:Nat):Chn :=
  match lookG d.b (d.hash t) t k d.b.length (at8 d.b (d.slot table size t)) 0 0 0 with
  | (f,l,m)=>{slot:=d.slot table size t,found:=f,last:=l,many:=m}
def Drf.okL (d:Drf) (table size:Nat) (t:Ly) (k:Nat):Prop :=
  16≤size∧table+size≤d.b.length∧okG d.b k d.b.length (at8 d.b (d.slot table size t))=true
def Drf.join (d:Drf) (c:Chn) (p:Nat):Drf:=(if c.last=0 then d.put c.slot p else d.put (c.last+24) p).put (c.slot+8) p
def Drf.name (d:Drf) (s:Ly):Nat × Drf :=
  let c:=d.look (d.num 4) (d.num 5) s 40
  if c.found≠0 then(c.found,d)else
  match d.add (putFieldF {hash:=d.hash s,nextHash:=0,dat:=0,payload:=s})with
  | (p,d1) =>
    let d2:=d1.join c p
    let d3:=d2.setN 16 ((d2.num 16+1)%18446744073709551616)
    (p,d3.setN 20 (max (d3.num 20) c.many))
/-- A new payload's object, in its chain; the name comes next. -/
def Drf.newData (d:Drf) (t:Ly):Nat × Drf :=
  let c:=d.look (d.num 2) (d.num 3) t 64
  match d.add (putDataF {hash:=d.hash t,nextHash:=0,nextField:=0,entry:=0,array:=0,count:=0,payload:=t})with
  | (p,d1) =>
    let d2:=d1.join c p
    let d3:=d2.setN 15 ((d2.num 15+1)%18446744073709551616)
    (p,d3.setN 19 (max (d3.num 19) c.many))
def Drf.data (d:Drf) (n t:Ly):Itm × Drf :=
  let c:=d.look (d.num 2) (d.num 3) t 64
  if c.found≠0 then({pos:=c.found,hash:=d.hash t},d)else
  match d.newData t with
  | (p,d4)=>match d4.name n with
    | (f,d5)=>({pos:=p,hash:=d.hash t},(d5.put (p+32) (at8 d5.b (f+32))).put (f+32) p)
/-- Along a chain of arrays: where the place of the one stands that the n-th item goes into, which it is there, which array it is. -/
def arrG (b:Ly):Nat→Nat→Nat→Nat→Nat × Nat × Nat
  | 0,k,a,n=>(a,n,k)
  | f+1,k,a,n=>if n<roomF (k:Int)then(a,n,k)else arrG b f (k+1) (at8 b a+16) (n-roomF (k:Int))
def okA (b:Ly):Nat→Nat→Nat→Nat→Bool
  | 0,k,a,n=>decide (n<roomF (k:Int)∧a+8≤b.length)
  | f+1,k,a,n=>decide (a+8≤b.length) && (decide (n<roomF (k:Int)) || okA b f (k+1) (at8 b a+16) (n-roomF (k:Int)))
def Drf.list (d:Drf) (a n item:Nat):Nat × Nat × Drf :=
  match arrG d.b n 0 a n with
  | (q,r,k) =>
    let d1:=if r=0 then
      match d.add (putArrayF {next:=0,items:=List.replicate (roomF (k:Int)) 0})with
      | (p,d2)=>((d2.setN 18 ((d2.num 18+1)%18446744073709551616)).put q p)
      else d
    (at8 d1.b q,r+1,d1.put (at8 d1.b q+24+8*r) item)
def Drf.link1 (d:Drf) (p x:Nat):Drf :=
  let c:=at8 d.b (x+56)
  (if c=0 then d.put (x+40) p else(d.list (x+48) (c-1) p).2.2).put (x+56) ((c+1)%18446744073709551616)
def Drf.linkL (p:Nat):List Itm→Drf→Drf
  | [],d=>d
  | x :: r,d=>Drf.linkL p r (d.link1 p x.pos)
def Drf.linkH (d:Drf) (a n:Nat):Drf :=
  let d1:=d.setN 11 (at8 d.b 176)
  let d2:Drf:={d1 with h:={d1.h with tailArray:=a%4294967296}}
  let d3:Drf:={d2 with h:={d2.h with tailItems:=n%4294967296}}
  d3.setN 8 ((d3.num 8+1)%18446744073709551616)
def Drf.link (d:Drf) (p:Nat) (l:List Itm):Drf :=
  match d.list 176 (d.num 8) p with
  | (a,n,d1)=>Drf.linkL p l (d1.linkH a n)
def Drf.hput (d:Drf):Drf:={d with b:=putH d.h ++ d.b.drop 272}
end Go.Wk
namespace Go.Wk
open Go Go.RowKit
section
variable {P:Program} {ops:Array Oper} {Q:Exit→Act→World→Prop} {rest:List Oper}
variable {n:Nat} {A:Fr n} {D:List Deferred} {l:List (Nat × Value)} {w:World}
variable {d:Tmp} {op:Op} {ty:TypeId} {ps:String} {af:Array Edge} {g:Option (Nat × Bool)}
end
section
variable {P:Program} {ops:Array Oper} {QS:Exit→Act→List Go.Frame→World→Prop} {cs:List Go.Frame} {rest:List Nat}
variable {n:Nat} {A:Fr n} {D:List Deferred} {l:List (Nat × Value)} {w:World}
end
section
variable {P:Program} {n:Nat} {A:Fr n} {l:List (Nat × Value)} {w:World}
end
section
variable {P:Program} {n:Nat} {A:Fr n} {D:List Deferred} {l:List (Nat × Value)} {w:World} {d:Option Tmp} {ty:TypeId} {ps:String} {af:Array Edge} {g:Option (Nat × Bool)}
end
end Go.Wk
namespace Go.Wk
open Go Go.RowKit
section
variable {P:Program} {n:Nat} {A:Fr n} {D:List Deferred} {l:List (Nat × Value)} {w:World} {ops:Array Oper} {rest:List Oper} {Q:Exit→Act→World→Prop} {d:Tmp} {ty:TypeId} {ps:String} {af:Array Edge} {R R':Nat→Prop}
theorem st_copyOw {x y:Operand} {t t' e:TypeId} {lo:Nat→Prop} {i:Nat} {v u:Value} {xs ys:Ly} (ht:P.underlying t=some (.slice e)) (hE:elemIs P e 1=true) (hx:ev n l x=some (subz 1 v i xs.length)) (hy:ev n l y=some u)
    (hO:Ow tB8 e lo w R v xs) (hS:Ls tB8 w R' u ys) (h0:0<ys.length) (hfit:i+ys.length≤xs.length)
    (k:∀w',Md (vblock v).toList w w'→(∀b∈(vblock v).toList,¬R b)→Ow tB8 e lo w' R v (xs.take i ++ ys ++ xs.drop (i+ys.length))→wpList P ops Q rest (over A D ((d,.int .i64 ys.length) :: l)) w') :
    wpList P ops Q (⟨some d,.call {callee:=.builtin .copy,args:=#[x,y],argTypes:=#[t,t']},ty,ps,af,none⟩ :: rest) (over A D l) w:=by
  obtain⟨⟨c,S,H⟩,E⟩:=hO
  obtain⟨b,C,B,rfl,T,N,O,K,I⟩:=S.blk (by omega)
  obtain⟨rfl,_⟩:=els_one_eq H
  obtain⟨J,_⟩:=hS.sl
  have X:tB8.n=1:=rfl
  rw[X]at K I
  refine st_copy (g:=b) (o:=i) (dLen:=xs.length-i) (dCap:=C-i) ht hE (by rw[hx];simp[subz,show ¬C=i by omega,Addr.add_mk]) hy T J (fun u Y=>by obtain⟨z,_,rfl⟩:=List.mem_map.1 Y;rfl) (by rw[List.length_map];omega) fun w' W U=>?_
  rw[List.length_map,Nat.min_eq_left (by omega)]
  have G:=Own.of_blk (sz:=1) (m:=xs.length) U N O (by rw[splice_len (by simp;omega),K])
  have L:(splice B i ((ys.map b8).take (xs.length-i))).take (xs.length*1)=(xs.take i ++ ys ++ xs.drop (i+ys.length)).map b8:=by
    rw[Nat.mul_one]at I ⊢
    have M:(ys.map b8).take (xs.length-i)=ys.map b8:=List.take_of_length_le (by rw[List.length_map];omega)
    have Z:(B.take i ++ ys.map b8).length=i+ys.length:=by rw[List.length_append,List.length_take,List.length_map];omega
    rw[M]
    unfold splice
    rw[List.map_append,List.map_append,List.map_take,List.map_drop,← I,List.take_append,List.take_of_length_le (by omega:(B.take i ++ ys.map b8).length≤xs.length),Z,List.take_take,Nat.min_eq_left (by omega:i≤xs.length),List.drop_take,List.length_map]
  rw[L]at G
  have V:(xs.take i ++ ys ++ xs.drop (i+ys.length)).length=xs.length:=by simp;omega
  refine k w' (by simpa [vblock]using W) (fun a F=>by simp[vblock]at F;subst F;exact(E _ rfl).2) ⟨⟨_,by rw[V];exact G,els_one (fun _ _=>trivial)⟩,E⟩
end
/-- Bytes with others at a place. -/
def writeF (b:Ly) (p:Nat) (x:Ly):List UInt8 :=
  (b ++ List.replicate (p+x.length-b.length) 0).take p ++ x ++ (b ++ List.replicate (p+x.length-b.length) 0).drop (p+x.length)
theorem write_in {b x:Ly} {p:Nat} (h:p+x.length≤b.length):writeF b p x=b.take p ++ x ++ b.drop (p+x.length):=by
  unfold writeF;rw[show p+x.length-b.length=0 by omega];simp
theorem write_more {b x:Ly} {p n:Nat} (h:n=p+x.length-b.length):writeF b p x=(b ++ List.replicate n 0).take p ++ x ++ (b ++ List.replicate n 0).drop (p+x.length):=by
  subst h;rfl
end Go.Wk
namespace Go.Wk
open Go Go.RowKit
section
variable {P:Program} {n:Nat} {A:Fr n} {D:List Deferred} {l:List (Nat × Value)} {w:World} {ops:Array Oper} {rest:List Oper} {Q:Exit→Act→World→Prop} {d:Tmp} {ty:TypeId} {ps:String} {af:Array Edge} {R R':Nat→Prop}
theorem subz_0 {e:TypeId} {lo:Nat→Prop} {v:Value} {xs:Ly} (hO:Ow tB8 e lo w R v xs) (h:0<xs.length):v=subz 1 v 0 xs.length:=by
  obtain⟨⟨F,E,C⟩,D⟩:=hO
  obtain⟨b,A,B,rfl,K,G,H,I,J⟩:=E.blk (by omega)
  simp[subz,show ¬A=0 by omega,Addr.add_mk]
theorem st_copyOw0 {x y:Operand} {t t' e:TypeId} {lo:Nat→Prop} {v u:Value} {xs ys:Ly} (ht:P.underlying t=some (.slice e)) (hE:elemIs P e 1=true) (hx:ev n l x=some v) (hy:ev n l y=some u)
    (hO:Ow tB8 e lo w R v xs) (hS:Ls tB8 w R' u ys) (h0:0<ys.length) (hfit:0+ys.length≤xs.length)
    (k:∀w',Md (vblock v).toList w w'→(∀b∈(vblock v).toList,¬R b)→Ow tB8 e lo w' R v (xs.take 0 ++ ys ++ xs.drop (0+ys.length))→wpList P ops Q rest (over A D ((d,.int .i64 ys.length) :: l)) w') :
    wpList P ops Q (⟨some d,.call {callee:=.builtin .copy,args:=#[x,y],argTypes:=#[t,t']},ty,ps,af,none⟩ :: rest) (over A D l) w :=
  st_copyOw (i:=0) ht hE (hx.trans (congrArg some (subz_0 hO (by omega)))) hy hO hS h0 hfit k
end
theorem okG_step {b:Ly} {k n a:Nat} (h:okG b k n a=true) (ha:a≠0):0<n∧(a+40≤b.length∧k≤at8 b (a+8)∧a+at8 b (a+8)≤b.length)∧okG b k (n-1) (at8 b (a+24))=true:=by
  cases n with
  | zero=>simp[okG,ha]at h
  | succ n =>
    simp only[okG,ha,decide_false,Bool.false_or,Bool.and_eq_true,decide_eq_true_eq]at h
    exact⟨by omega,h.1,h.2⟩
theorem lookG_end {b:Ly} {h:Nat} {t:Ly} {k n f l m:Nat}:lookG b h t k n 0 f l m=(f,l,m):=by cases n<;>simp[lookG]
theorem lookG_step {b:Ly} {h:Nat} {t:Ly} {k n a f l m:Nat} (hn:0<n) (ha:a≠0) :
    lookG b h t k n a f l m=lookG b h t k (n-1) (at8 b (a+24)) (if at8 b (a+16)=h∧(b.take (a+at8 b (a+8))).drop (a+k)=t then a else f) a (m+1):=by
  cases n with
  | zero=>omega
  | succ n=>simp[lookG,ha]
theorem lookG_ok {b:Ly} {h:Nat} {t:Ly} {k:Nat}:∀(n a f l m:Nat),okG b k n a=true→(f=0∨f+40≤b.length∧f+k≤b.length)→(l=0∨l+40≤b.length) →
    ((lookG b h t k n a f l m).1=0∨(lookG b h t k n a f l m).1+40≤b.length∧(lookG b h t k n a f l m).1+k≤b.length)∧((lookG b h t k n a f l m).2.1=0∨(lookG b h t k n a f l m).2.1+40≤b.length)∧(lookG b h t k n a f l m).2.2≤m+n
  | 0,a,f,l,m,_,hf,hl=>⟨hf,hl,Nat.le_refl _⟩
  | n+1,a,f,l,m,ho,hf,hl=>by
    by_cases ha:a=0
    · subst ha;rw[lookG_end];exact⟨hf,hl,by simp only;omega⟩
    · obtain⟨_,h2,h3⟩:=okG_step ho ha
      rw[lookG_step (by omega) ha]
      have:=lookG_ok (h:=h) (t:=t) (k:=k) n (at8 b (a+24)) (if at8 b (a+16)=h∧(b.take (a+at8 b (a+8))).drop (a+k)=t then a else f) a (m+1) h3 (by split;exact .inr ⟨h2.1,by omega⟩;exact hf) (.inr h2.1)
      exact⟨this.1,this.2.1,by have:=this.2.2;simp only[Nat.add_sub_cancel]at this ⊢;omega⟩
theorem look_ok {d:Drf} {table size k:Nat} {t:Ly} (h:d.okL table size t k):(d.look table size t k).slot+16≤d.b.length ∧
    ((d.look table size t k).found=0∨(d.look table size t k).found+40≤d.b.length∧(d.look table size t k).found+k≤d.b.length)∧((d.look table size t k).last=0∨(d.look table size t k).last+40≤d.b.length)∧(d.look table size t k).many≤d.b.length:=by
  obtain⟨B,C,A⟩:=h
  have:=lookG_ok (h:=d.hash t) (t:=t) d.b.length _ 0 0 0 A (.inl rfl) (.inl rfl)
  have D:d.hash t%(size/16)<size/16:=Nat.mod_lt _ (by omega)
  refine⟨?_,this.1,this.2.1,by have:=this.2.2;unfold Drf.look;simpa using this⟩
  show d.slot table size t+16≤_
  unfold Drf.slot;omega
theorem put_len' (d:Drf) (p v:Nat):(d.put p v).b.length=d.b.length:=putN_len _ _ _
theorem put_lenD (d:Drf) (p v:Nat):(d.put p v).b.length=d.b.length∧(d.put p v).h=d.h:=⟨putN_len _ _ _,rfl⟩
theorem join_h (d:Drf) (c:Chn) (p:Nat):(d.join c p).h=d.h∧(d.join c p).b.length=d.b.length:=by
  unfold Drf.join;split <;> exact⟨rfl,by rw[put_len',put_len']⟩
theorem getD_setW {l:List Nat} {i j v:Nat} (h:i≠j):(l.set i v).getD j 0=l.getD j 0:=by simp[List.getD,List.getElem?_set_ne h]
theorem add_at (d:Drf) (o:Ly):(d.add o).1=d.b.length∧(d.add o).2.b=d.b ++ o∧(d.add o).2.h.file=d.h.file∧(d.add o).2.h.incompat=d.h.incompat∧(d.add o).2.h.n.length=d.h.n.length∧(d.add o).2.h.state=d.h.state∧∀j,j≠1→j≠6→j≠7→(d.add o).2.h.n.getD j 0=d.h.n.getD j 0:=by
  refine⟨rfl,rfl,rfl,rfl,by simp[Drf.add,Drf.setN],rfl,fun j A B C=>?_⟩
  simp only[Drf.add,Drf.setN]
  rw[getD_setW (by omega),getD_setW (by omega),getD_setW (by omega)]
theorem dname_at (d:Drf) (s:Ly) (h:d.okL (d.num 4) (d.num 5) s 40):(d.name s).1+40≤(d.name s).2.b.length∧d.b.length≤(d.name s).2.b.length∧(d.name s).2.b.length≤d.b.length+(47+s.length) ∧
    (d.name s).2.h.file=d.h.file∧(d.name s).2.h.incompat=d.h.incompat∧(d.name s).2.h.state=d.h.state∧∀j,j≠1→j≠6→j≠7→j≠16→j≠20→(d.name s).2.h.n.getD j 0=d.h.n.getD j 0:=by
  obtain⟨S,P,T,_⟩:=look_ok h
  unfold Drf.name
  simp only
  by_cases hf:(d.look (d.num 4) (d.num 5) s 40).found≠0
  · rw[if_pos hf]
    refine⟨by rcases P with h|h;exact absurd h hf;exact h.1,Nat.le_refl _,by simp only;omega,rfl,rfl,rfl,fun _ _ _ _ _ _=>rfl⟩
  · rw[if_neg hf]
    have C:=add_at d (putFieldF {hash:=d.hash s,nextHash:=0,dat:=0,payload:=s})
    have Q:(putFieldF {hash:=d.hash s,nextHash:=0,dat:=0,payload:=s}).length=(16+(24+s.length)+7)/8*8:=putFieldF_len _
    generalize d.add (putFieldF {hash:=d.hash s,nextHash:=0,dat:=0,payload:=s})=r at *
    obtain⟨p,O⟩:=r
    simp only at C ⊢
    obtain⟨D,E,F,G,R,I,H⟩:=C
    have B:=join_h O (d.look (d.num 4) (d.num 5) s 40) p
    have A:=congrArg List.length E
    rw[List.length_append,Q]at A
    simp only[Drf.setN,B.1]
    refine⟨by rw[B.2,A,D];omega,by rw[B.2,A];omega,by rw[B.2,A];omega,F,G,I,fun j J M N K L=>?_⟩
    rw[getD_setW (by omega),getD_setW (by omega)];exact H j J M N
theorem okA_at {b:Ly} {f k a n:Nat} (h:okA b f k a n=true):a+8≤b.length:=by
  cases f with
  | zero=>simp only[okA,decide_eq_true_eq]at h;exact h.2
  | succ f=>simp only[okA,Bool.and_eq_true,decide_eq_true_eq]at h;exact h.1
theorem okA_step {b:Ly} {f k a n:Nat} (h:okA b f k a n=true) (hn:¬n<roomF (k:Int)):0<f∧okA b (f-1) (k+1) (at8 b a+16) (n-roomF (k:Int))=true:=by
  cases f with
  | zero=>simp only[okA,decide_eq_true_eq]at h;exact absurd h.1 hn
  | succ f=>simp only[okA,Bool.and_eq_true,Bool.or_eq_true,decide_eq_true_eq]at h;exact⟨by omega,h.2.resolve_left hn⟩
theorem arrG_step {b:Ly} {f k a n:Nat} (hf:0<f) (hn:¬n<roomF (k:Int)):arrG b f k a n=arrG b (f-1) (k+1) (at8 b a+16) (n-roomF (k:Int)):=by
  cases f with
  | zero=>omega
  | succ f=>rw[arrG,if_neg hn];rfl
theorem arrG_end {b:Ly} {f k a n:Nat} (hn:n<roomF (k:Int)):arrG b f k a n=(a,n,k):=by
  cases f with
  | zero=>rfl
  | succ f=>rw[arrG,if_pos hn]
theorem roomW_neg {k:Int} (h:k<0):roomF k=0:=by unfold roomF;rw[if_pos h]
theorem roomW_big {k:Int} (h:6≤k):roomF k=256:=by
  unfold roomF;rw[if_neg (by omega)]
  by_cases h6:6<k
  · rw[if_pos h6]
  · obtain rfl:k=6:=by omega
    decide
theorem roomW_mid {k:Int} (h0:0≤k) (h:k<6):roomF k=4*2 ^ k.toNat:=by
  have:=Nat.pow_le_pow_right (n:=2) (by decide) (show k.toNat≤6 by omega)
  unfold roomF;rw[if_neg (by omega),if_neg (by omega),Nat.min_eq_left (by omega)]
theorem leN_lowW:∀(n v:Nat),leN (low v n)=v%256 ^ n
  | 0,v=>by simp[low,leN,Nat.mod_one]
  | n+1,v=>by
    simp only[low,leN,leN_lowW n]
    rw[UInt8.toNat_ofNat',show 2 ^ 8=256 from rfl,Nat.mod_mod,Nat.pow_succ,Nat.mul_comm (256 ^ n) 256,Nat.mod_mul]
theorem at8_putW {b:Ly} {p v:Nat} (h:p+8≤b.length) (hv:v<18446744073709551616):at8 (putN b p v) p=v:=by
  rw[putN_cut h]
  unfold at8
  have A:(b.take p).length=p:=by rw[List.length_take];omega
  rw[List.append_assoc,List.drop_left' A,List.take_left' (low_len v 8),leN_lowW]
  exact Nat.mod_eq_of_lt hv
/-- An item more can be put into a chain of arrays. -/
def Drf.okList (d:Drf) (a n:Nat):Prop :=
  okA d.b n 0 a n=true∧((arrG d.b n 0 a n).2.1≠0→at8 d.b (arrG d.b n 0 a n).1+24+8*(arrG d.b n 0 a n).2.1+8≤d.b.length)
theorem list_ge (d:Drf) (a n item:Nat):d.b.length≤(d.list a n item).2.2.b.length∧(d.list a n item).2.2.h.n.getD 0 0=d.h.n.getD 0 0∧(d.list a n item).2.2.b.length≤d.b.length+2080:=by
  unfold Drf.list
  generalize arrG d.b n 0 a n=g
  obtain⟨q,r,k⟩:=g
  simp only
  split
  · have B:=add_at d (putArrayF {next:=0,items:=List.replicate (roomF (k:Int)) 0})
    generalize d.add (putArrayF {next:=0,items:=List.replicate (roomF (k:Int)) 0})=e at *
    obtain⟨p,A⟩:=e
    simp only at B ⊢
    have C:=congrArg List.length B.2.1
    rw[List.length_append,putArrayF_len]at C
    simp only[List.length_replicate]at C
    have D:=roomF_le (k:Int)
    refine⟨by rw[put_len',put_len'];show _≤A.b.length;omega,?_,by rw[put_len',put_len'];show A.b.length≤_;omega⟩
    show(A.h.n.set 18 _).getD 0 0=_
    rw[getD_setW (by decide)]
    exact B.2.2.2.2.2.2 0 (by decide) (by decide) (by decide)
  · exact⟨by rw[put_len'];exact Nat.le_refl _,rfl,by rw[put_len'];omega⟩
/-- The entry can be linked to each of its items. -/
def Drf.okLinkL (p:Nat):List Itm→Drf→Prop
  | [],_=>True
  | x :: r,d=>(x.pos+64≤d.b.length∧(at8 d.b (x.pos+56)≠0→d.okList (x.pos+48) (at8 d.b (x.pos+56)-1))∧at8 d.b (x.pos+56)≤1000000∧d.b.length≤800000∧d.h.n.getD 0 0≤d.b.length)∧Drf.okLinkL p r (d.link1 p x.pos)
def Drf.okLink (d:Drf) (p:Nat) (l:List Itm):Prop :=
  d.okList 176 (d.num 8)∧184≤d.b.length∧Drf.okLinkL p l ((d.list 176 (d.num 8) p).2.2.linkH (d.list 176 (d.num 8) p).1 (d.list 176 (d.num 8) p).2.1)
theorem okLinkL_step {p i:Nat} {l:List Itm} {x:Itm} {d:Drf} (hx:l[i]? = some x) (h:Drf.okLinkL p (l.drop i) d):(x.pos+64≤d.b.length∧(at8 d.b (x.pos+56)≠0→d.okList (x.pos+48) (at8 d.b (x.pos+56)-1))∧at8 d.b (x.pos+56)≤1000000∧d.b.length≤800000∧d.h.n.getD 0 0≤d.b.length)∧Drf.okLinkL p (l.drop (i+1)) (d.link1 p x.pos):=by
  rw[drop_get hx]at h;exact h
theorem linkL_step {p i:Nat} {l:List Itm} {x:Itm} {d:Drf} (hx:l[i]? = some x):Drf.linkL p (l.drop i) d=Drf.linkL p (l.drop (i+1)) (d.link1 p x.pos):=by rw[drop_get hx];rfl
theorem linkL_end {p i:Nat} {l:List Itm} {d:Drf} (h:¬i<l.length):Drf.linkL p (l.drop i) d=d:=by rw[drop_end (by omega)];rfl
def headW (c:Cfg) (after:Nat):PHead:={compat:=2,incompat:=0,state:=1,file:=c.file,machine:=c.machine,boot:=idZ,seq:=c.seq,n:=((List.replicate 21 0).set 0 272).set 9 after,tailArray:=0,tailItems:=0,tailEntry:=0}
/-- A journal without entries. -/
def blankF (c:Cfg) (after:Nat):Drf :=
  let d0:Drf:={b:=List.replicate 272 0,h:={headW c after with incompat:=if c.keyed=true then 4 else 0}}
  match d0.add (putTableF 4 (List.replicate c.dataSlots {first:=0,tail:=0}))with
  | (p,d1)=>match (d1.setN 2 (p+16)).add (putTableF 5 (List.replicate c.fieldSlots {first:=0,tail:=0}))with
    | (q,d3)=>(((d3.setN 4 (q+16)).setN 3 (16*c.dataSlots)).setN 5 (16*c.fieldSlots)).hput
end Go.Wk
namespace Go.Wk
open Go Go.RowKit
def leP (x y:Pr):Bool:=!(Op.bytesLess (whole y.pb) (whole x.pb))
def sortF (l:List Pr):List Pr:=l.mergeSort leP
/-! ### The package's list of pairs -/
def packF (l:List Pr):List Pr:=compactF (sortF l)
def chkL:List Pr→List Pr × Nat→List Pr × Nat
  | [],r=>r
  | p :: t,r=>if(joinF p).2≠0 then([],(joinF p).2)else chkL t r
theorem chk_end {l:List Pr} {i:Nat} {r:List Pr × Nat} (h:¬i<l.length):chkL (l.drop i) r=r:=by rw[drop_end (by omega)];rfl
theorem chk_step {l:List Pr} {i:Nat} {p:Pr} {r:List Pr × Nat} (h:l[i]? = some p):chkL (l.drop i) r=if(joinF p).2≠0 then([],(joinF p).2)else chkL (l.drop (i+1)) r:=by rw[drop_get h];rfl
def packE (l:List Pr):List Pr × Nat:=if 16<(packF l).length then([],21)else(packF l,0)
def plistF (l:List Pr):List Pr × Nat:=if l.length=0 then([],16)else chkL l (packE l)
end Go.Wk
namespace Go.Wk
open Go Go.RowKit
/-- The items of pairs, each put or found in its turn. -/
def Drf.dataL:List Pr→Drf→List Itm→List Itm × Drf
  | [],d,o=>(o,d)
  | x :: r,d,o=>match d.data x.name (joinF x).1 with|(i,d1)=>Drf.dataL r d1 (o ++ [i])
/-- A pair's datum can be put. -/
def Drf.okDat (d:Drf) (x:Pr):Prop :=
  d.okL (d.num 2) (d.num 3) (joinF x).1 64∧d.b.length≤800000∧d.h.n.getD 0 0≤d.b.length∧(joinF x).1.length≤1000∧x.name.length≤1000 ∧
  ((d.look (d.num 2) (d.num 3) (joinF x).1 64).found≠0∨(d.newData (joinF x).1).2.okL ((d.newData (joinF x).1).2.num 4) ((d.newData (joinF x).1).2.num 5) x.name 40)
def Drf.okDatL:List Pr→Drf→Prop
  | [],_=>True
  | x :: r,d=>d.okDat x∧Drf.okDatL r (d.data x.name (joinF x).1).2
theorem okDatL_step {i:Nat} {l:List Pr} {x:Pr} {d:Drf} (hx:l[i]? = some x) (h:Drf.okDatL (l.drop i) d):d.okDat x∧Drf.okDatL (l.drop (i+1)) (d.data x.name (joinF x).1).2:=by
  rw[drop_get hx]at h;exact h
theorem dataL_step {i:Nat} {l:List Pr} {x:Pr} {d d1:Drf} {o:List Itm} {t:Ly} {y:Itm} (hx:l[i]? = some x) (ht:(joinF x).1=t) (h:d.data x.name t=(y,d1)):Drf.dataL (l.drop i) d o=Drf.dataL (l.drop (i+1)) d1 (o ++ [y]):=by
  rw[drop_get hx,Drf.dataL,ht,h]
theorem dataL_end {i:Nat} {l:List Pr} {d:Drf} {o:List Itm} (h:¬i<l.length):Drf.dataL (l.drop i) d o=(o,d):=by rw[drop_end (by omega)];rfl
/-- The head's numbers behind an entry, and the head put. -/
def Drf.mark (d:Drf) (p seq real mono:Nat) (boot:Ly):Drf :=
  let d4:=if d.num 8=1 then(d.setN 10 seq).setN 12 real else d
  let d5:=((d4.setN 9 seq).setN 13 real).setN 14 mono
  Drf.hput {d5 with h:={d5.h with boot:=boot,tailEntry:=p}}
def leI (x y:Itm):Bool:=!(decide (y.pos<x.pos))
def sortI (l:List Itm):List Itm:=l.mergeSort leI
theorem sortI_perm (l:List Itm):(sortI l).Perm l:=List.mergeSort_perm _ _
theorem sortI_len (l:List Itm):(sortI l).length=l.length:=(sortI_perm l).length_eq
/-- Places that are unlike give each hash by its place. -/
def hashAt (l:List Itm) (p:Nat):Nat:=((l.find? fun x=>decide (x.pos=p)).map Itm.hash).getD 0
theorem hashAt_of:∀(l:List Itm),(l.map Itm.pos).Nodup→∀x∈l,hashAt l x.pos=x.hash
  | [],_,_,h=>by simp at h
  | y :: r,hn,x,hx=>by
    rw[List.map_cons,List.nodup_cons]at hn
    unfold hashAt
    rcases List.mem_cons.1 hx with rfl|hx
    · rw[List.find?_cons_of_pos (by simp)];rfl
    · rw[List.find?_cons_of_neg (by simpa using fun e:y.pos=x.pos=>hn.1 (e ▸ List.mem_map.2 ⟨x,hx,rfl⟩))]
      exact hashAt_of r hn.2 x hx
def Drf.entOf (e:Ent) (l:List Pr) (o:List Itm):Ent:={seq:=e.seq,real:=e.real,mono:=e.mono,boot:=e.boot,xor:=xorF 0 (l.map fun q=>(joinF q).1),items:=sortI o}
/-- An entry of these pairs, put behind all, linked; the head is put. -/
def Drf.entry (d:Drf) (l:List Pr) (e:Ent):Drf :=
  match Drf.dataL l d []with
  | (o,d1)=>match d1.add (putEntryF (Drf.entOf e l o))with
    | (p,d2)=>(d2.link p (sortI o)).mark p e.seq e.real e.mono e.boot
/-- An entry can be put. -/
def Drf.okEnt (d:Drf) (l:List Pr) (e:Ent):Prop :=
  Drf.okDatL l d∧((Drf.dataL l d []).1.map Itm.pos).Nodup∧(Drf.dataL l d []).2.b.length≤700000∧(Drf.dataL l d []).2.h.n.getD 0 0≤(Drf.dataL l d []).2.b.length ∧
  (match (Drf.dataL l d []).2.add (putEntryF (Drf.entOf e l (Drf.dataL l d []).1))with
    | (p,d2)=>d2.okLink p (sortI (Drf.dataL l d []).1)∧d2.b.length≤800000∧d2.h.n.getD 0 0≤d2.b.length∧d2.h.n.getD 8 0≤1000000 ∧
      272≤(d2.link p (sortI (Drf.dataL l d []).1)).b.length∧(d2.link p (sortI (Drf.dataL l d []).1)).b.length≤1000000∧(d2.link p (sortI (Drf.dataL l d []).1)).h.state<256)
theorem pt_one {α:Type} {T:Dt α} {ty:TypeId} {w:World} {Q:Nat→Prop} {v:Value} {x:α} (h:Pt T ty w Q v x):v.oneCell'=true:=by obtain⟨b,c,rfl,_⟩:=h;rfl
end Go.Wk
namespace Go.Wk
open Go Go.RowKit
section
variable {P:Program} {n:Nat} {A:Fr n} {D:List Deferred} {l:List (Nat × Value)} {w:World} {ops:Array Oper} {rest:List Oper} {Q:Exit→Act→World→Prop}
variable {d:Tmp} {op:Op} {ty:TypeId} {ps:String} {af:Array Edge}
theorem mv {x:Operand} {v:Value} (h:ev n l x=some v) (k:wpList P ops Q rest (over A D ((d,v) :: l)) w):wpList P ops Q (⟨some d,.move x,ty,ps,af,none⟩ :: rest) (over A D l) w:=st v (r_move h) k
theorem asg {x:Operand} {v:Value} (h:ev n l x=some v) (k:wpList P ops Q rest (over A D ((d,v) :: l)) w):wpList P ops Q (⟨some d,.assign x,ty,ps,af,none⟩ :: rest) (over A D l) w:=st v (r_assign h) k
theorem nt {K:Act→World→Prop} {a:Act} (h:K a w):wpList P ops (Exit.then K Q) [] a w:=st_nil (c_then h)
theorem mz {C:World→Prop} {QN:Act→World→Prop} {rest:List (Bool × Oper)} {v:Value} (hr:∀w',C w'→RunV P ⟨some d,op,ty,ps,af,none⟩ (over A D l).eval w' v) (k:wpMix P ops C QN rest (over A D ((d,v) :: l)) w):wpMix P ops C QN ((true,⟨some d,op,ty,ps,af,none⟩) :: rest) (over A D l) w:=Go.Wk.m v hr k
theorem sk {j t:Nat} {o:Oper} {b want:Bool} (hb:b = !want) (k:wpList P ops Q rest (over A D ((d,undef) :: l)) w) (ho:ops[j]? = some o:=by rfl) (ht:o.dst=some t:=by rfl) (hy:ev n l (.tmp t)=some (.bool b):=by rfl) :
    wpList P ops Q (⟨some d,op,ty,ps,af,some (j,want)⟩ :: rest) (over A D l) w:=st_skip ho ht hy hb k
theorem sg {j t:Nat} {o:Oper} {b want:Bool} {v:Value} (hb:b=want) (hr:RunV P ⟨some d,op,ty,ps,af,some (j,want)⟩ (over A D l).eval w v) (k:wpList P ops Q rest (over A D ((d,v) :: l)) w) (ho:ops[j]? = some o:=by rfl) (ht:o.dst=some t:=by rfl) (hy:ev n l (.tmp t)=some (.bool b):=by rfl) :
    wpList P ops Q (⟨some d,op,ty,ps,af,some (j,want)⟩ :: rest) (over A D l) w:=st_g v ho ht hy hb hr k
theorem sf {x:Operand} {s:TypeId} {f b o off:Nat} (hx:ev n l x=some (.pointer (some ⟨b,o,none⟩))) (hf:fieldOff P s f=some off) (k:wpList P ops Q rest (over A D ((d,.pointer (some ⟨b,o+off,none⟩)) :: l)) w):wpList P ops Q (⟨some d,.fieldAddr s x f,ty,ps,af,none⟩ :: rest) (over A D l) w:=st _ (r_field hx hf) k
theorem sl {x:Operand} {t ty':TypeId} {b j:Nat} {cs:List Value} {u:Value} (hx:ev n l x=some (.pointer (some ⟨b,j,none⟩))) (hT:isOne P t=true) (hB:Blk w b cs ty') (hj:cs[j]? = some u) (k:wpList P ops Q rest (over A D ((d,u) :: l)) w):wpList P ops Q (⟨some d,.load t x,ty,ps,af,none⟩ :: rest) (over A D l) w:=st _ (r_loadBlk hx hT hB hj) k
theorem sn {x:Operand} {p:Addr} (h:ev n l x=some (.pointer (some p))) (k:wpList P ops Q rest (over A D ((d,.pointer (some p)) :: l)) w):wpList P ops Q (⟨some d,.nilCheck x,ty,ps,af,none⟩ :: rest) (over A D l) w:=st _ (r_nil h) k
theorem se {x:Operand} {i:Nat} {vs:Array Value} {v:Value} (h:ev n l x=some (.tuple vs)) (hv:vs[i]? = some v) (k:wpList P ops Q rest (over A D ((d,v) :: l)) w):wpList P ops Q (⟨some d,.extract x i,ty,ps,af,none⟩ :: rest) (over A D l) w:=st _ (r_extract h hv) k
theorem sL {x:Operand} {v:Value} {m:Nat} {t e:TypeId} (hx:ev n l x=some v) (hT:P.underlying t=some (.slice e)) (hS:Shp v m) (k:wpList P ops Q rest (over A D ((d,.int .i64 m) :: l)) w):wpList P ops Q (⟨some d,.call {callee:=.builtin .len,args:=#[x],argTypes:=#[t]},ty,ps,af,none⟩ :: rest) (over A D l) w:=st _ (r_len hx hT hS) k
theorem mo {C:World→Prop} {QN:Act→World→Prop} {rest:List (Bool × Oper)} {x:Operand} {v:Value} (h:ev n l x=some v) (k:wpMix P ops C QN rest (over A D ((d,v) :: l)) w):wpMix P ops C QN ((true,⟨some d,.move x,ty,ps,af,none⟩) :: rest) (over A D l) w:=Go.Wk.m v (fun _ _=>r_move h) k
theorem ns {id:Nat} {lo:List Oper} {y:Code} {a:Act} (h:wpList P lo.toArray (Exit.then (fun a w=>y.wp P Q a w) Q) lo a w):(Code.seq (.region id lo.toArray false) y).wp P Q a w:=c_seq (c_region h)
end
end Go.Wk
namespace Go.Proofs.YtfadcpfgenjbeaaGreat
open Go Go.Wk Go.RowKit
set_option linter.unusedVariables false
set_option linter.unusedSimpArgs false
attribute [local irreducible] wpList wpQuiet wpStill wpMix Code.wp Calls bodyPost
theorem el5:elemIs Tryz.prog 5 1=true:=by kernel_rfl
theorem one5:isOne Tryz.prog 5=true:=by kernel_rfl
theorem u23:Tryz.prog.underlying 23=some (.int .u64):=by kernel_rfl
theorem u45:Tryz.prog.underlying 45=some (.slice 5):=by kernel_rfl
theorem u5:Tryz.prog.underlying 5=some (.int .u8):=by kernel_rfl

theorem leSize_any {w:World} {Q:Nat→Prop} (uQ:Up w Q) (n:Int) (a0:(-9223372036854775808≤n∧n<9223372036854775808)) :
    Calls Tryz.prog 223 #[(.int .i64 (n:Int))] w fun en w'=>∃r0:Bool,en = .returned (.bool r0)∧Md [] w w'∧sizeOk n=r0:=by
  have M:=Md.refl [] w;have H:=uQ;refine enter (n:=17) Tryz.func223 rfl rfl rfl ?_;intro B;refine ns (asg rfl (nt (ns (mv rfl (st _ (r_eq (a:=n) (b:=1) rfl rfl) (mv rfl ?_))))));refine part_n (t:=5) rfl (fun C=>?_) (fun C=>?_)
  · (have F:=dq C);refine sk C (sk C (st _ (r_pick_t rfl C rfl) (mv rfl (sk rfl (sk rfl (st _ (r_pick_t rfl rfl rfl) (mv rfl (sk rfl (sk rfl (st _ (r_pick_t rfl rfl rfl) (asg rfl (nt (c_ret ?_)))))))))))));exact ret1L (v:=(.bool true)) trivial rfl ⟨rfl,tV⟩ ⟨true,rfl,M,(by simp only[sizeOk];exact decide_eq_true (by omega))⟩
  · (have F:=dF C);refine sg C (r_move rfl) (sg C (r_eq (a:=n) (b:=2) rfl rfl) (st _ (r_pick_f rfl C rfl) (mv rfl ?_)));refine part_n (t:=9) rfl (fun D=>?_) (fun D=>?_)
    · (have G:=dq D);refine sk D (sk D (st _ (r_pick_t rfl D rfl) (mv rfl (sk rfl (sk rfl (st _ (r_pick_t rfl rfl rfl) (asg rfl (nt (c_ret ?_)))))))));exact ret1L (v:=(.bool true)) trivial rfl ⟨rfl,tV⟩ ⟨true,rfl,M,(by simp only[sizeOk];exact decide_eq_true (by omega))⟩
    · (have G:=dF D);refine sg D (r_move rfl) (sg D (r_eq (a:=n) (b:=4) rfl rfl) (st _ (r_pick_f rfl D rfl) (mv rfl ?_)));refine part_n (t:=13) rfl (fun A=>?_) (fun A=>?_)
      · (have E:=dq A);refine sk A (sk A (st _ (r_pick_t rfl A rfl) (asg rfl (nt (c_ret ?_)))));exact ret1L (v:=(.bool true)) trivial rfl ⟨rfl,tV⟩ ⟨true,rfl,M,(by simp only[sizeOk];exact decide_eq_true (by omega))⟩
      · (have E:=dF A);refine sg A (r_move rfl) (sg A (r_eq (a:=n) (b:=8) rfl rfl) (st _ (r_pick_f rfl A rfl) (asg rfl (nt (c_ret ?_)))));exact ret1L (v:=(.bool ((decide (n=8))))) trivial rfl ⟨rfl,tV⟩ ⟨(decide (n=8)),rfl,M,(by simp only[sizeOk];exact(decide_eq_decide.2 (by omega)))⟩
theorem fn223:isFn Tryz.prog 223=true:=by kernel_rfl

theorem leGet_any {w:World} {Q:Nat→Prop} (uQ:Up w Q) {v0:Value} {l:Ly} (h0:Ls tB8 w Q v0 l) (a:Int) (a1:(-9223372036854775808≤a∧a<9223372036854775808)) (n:Int) (a2:(-9223372036854775808≤n∧n<9223372036854775808)) :
    Calls Tryz.prog 208 #[v0,(.int .i64 (a:Int)),(.int .i64 (n:Int))] w fun en w'=>∃r0:Nat,∃r1:Bool,en = .returned (.tuple #[(.int .u64 r0),(.bool r1)])∧Md [] w w'∧r0<18446744073709551616∧getF l a n=(r0,r1):=by
  have p:=h0.len63;have M:=Md.refl [] w;have j:=uQ;have P:∀b,Q b→Q b:=fun _ h=>h;have F:∀b,Q b→b<w.heap.size→Q b:=fun _ h _=>h;refine enter (n:=42) Tryz.func208 rfl rfl rfl ?_;intro B;refine ns (asg rfl (asg rfl (nt (c_seq (ns (mv rfl (st_call fn223 rfl (leSize_any uQ (n) (by omega)) ?_)))))));rintro en u ⟨Z,rfl,R,d⟩;refine⟨_,rfl,?_⟩;replace h0:=h0.md0 R;replace uQ:=uQ.md R;replace M:=M.step0 R;refine st _ (r_not rfl) (mv rfl ?_);refine part_n (t:=13) rfl (fun C=>?_) (fun C=>?_)
  · (have J:=bnt C);refine sk C (sk C (st _ (r_pick_t rfl C rfl) (mv rfl (sk rfl (sk rfl (sk rfl (sk rfl (sk rfl (sk rfl (st _ (r_pick_t rfl rfl rfl) (nt (c_if_t rfl rfl (ns ?_)))))))))))));refine asg rfl (asg rfl (nt (c_ret (r_then ?_))));exact retL (vs:=[(.int .u64 ((0:Nat):Int)),(.bool false)]) trivial rfl ⟨rfl,rfl,tV⟩ rfl ⟨0,false,rfl,M,(by omega),(getF_no (by rintro⟨U,V,W⟩;simp_all))⟩
  · (have J:=bnf C);refine sg C (r_move rfl) (sg C (r_lt (a:=a) (b:=0) rfl rfl) (st _ (r_pick_f rfl C rfl) (mv rfl ?_)));refine part_n (t:=17) rfl (fun A=>?_) (fun A=>?_)
    · (have K:=dq A);refine sk A (sk A (sk A (sk A (sk A (sk A (st _ (r_pick_t rfl A rfl) (nt (c_if_t rfl rfl (ns (asg rfl (asg rfl (nt (c_ret ?_)))))))))))));refine r_then ?_;exact retL (vs:=[(.int .u64 ((0:Nat):Int)),(.bool false)]) trivial rfl ⟨rfl,rfl,tV⟩ rfl ⟨0,false,rfl,M,(by omega),(getF_no (by rintro⟨U,V,W⟩;omega))⟩
    · (have K:=dF A);have e:=sizeOk_le (n:=n) (by simp_all);refine sg A (r_move rfl) (sg A (r_move rfl) (sg A (r_len rfl u45 h0.shp) (sg A (r_move rfl) (sg A (r_subI (a:=((l.length:Nat):Int)) (b:=n) rfl rfl (by omega)) (sg A (r_gt (a:=a) (b:=((l.length:Nat):Int)-n) rfl rfl) (st _ (r_pick_f rfl A rfl) (nt ?_)))))));refine c_if rfl (fun G=>?_) (fun G=>?_)
      · (have L:=dq G);refine ns (asg rfl (asg rfl (nt (c_ret (r_then ?_)))));exact retL (vs:=[(.int .u64 ((0:Nat):Int)),(.bool false)]) trivial rfl ⟨rfl,rfl,tV⟩ rfl ⟨0,false,rfl,M,(by omega),(getF_no (by rintro⟨U,V,W⟩;omega))⟩
      · (have L:=dF G);refine c_skip (c_then (c_seq ?_));have T:sizeOk n=true∧0≤a∧a+n≤l.length:=⟨by simp_all,by omega,by omega⟩;have e:=sizeOk_le T.1;refine c_region (asg rfl (nt (c_seq (ns (mv rfl (st _ (r_subI (a:=n) (b:=1) rfl rfl (by omega)) (asg rfl (nt (c_block ?_)))))))))

        refine loop2 (fun(v:Nat) (i:Int)=>[(8,(.int .u64 v)),(9,(.int .i64 (i:Int))),(0,v0),(1,(.int .i64 (a:Int)))]) (fun(v:Nat) (i:Int) w'=>∃Q':Nat→Prop,(∀b,Q' b→Q b)∧(∀b,Q b→b<w.heap.size→Q' b)∧Up w' Q'∧Md [] w w'∧Ls tB8 w' Q' v0 l∧(-1≤i∧i<n)∧v=leN ((l.drop (a+(i+1)).toNat).take (n-1-i).toNat)∧v<18446744073709551616) (fun(v:Nat) (i:Int)=>(i+1).toNat) (x0:=0) (x1:=(n-1)) ?_ ?_ ?_
        · exact⟨rfl,rfl,rfl,rfl,tV⟩
        · exact⟨Q,P,F,uQ,M,h0,(by omega),(by simp[show n-1-(n-1)=0 by omega,leN]),(by omega)⟩
        · clear M uQ P F h0
          rintro v i B x ⟨c,P,F,uQ,M,h0,X,D,Y⟩;refine c_seq (ns (mv rfl (st _ (r_ge (a:=i) (b:=0) rfl rfl) (nt ?_))));refine c_if rfl (fun H=>?_) (fun H=>?_)
          · (have N:=dq H);have f:=leN_lt_of (l:=(l.drop (a+(i+1)).toNat).take (n-1-i).toNat) (k:=7) (by simp;omega);rw[← D]at f;refine c_skip (c_then (c_seq (c_block (c_region (mv rfl (st _ (r_shlW (a:=v) (b:=8) 18446744073709551616 rfl rfl 64 rfl rfl rfl (by omega)) (mv rfl (mv rfl (mv rfl (st _ (r_addI (a:=a) (b:=i) rfl rfl (by omega)) (st _ (r_indexZ (i:=a+i) 1 rfl rfl u45 el5 h0.shp (by omega)) ?_)))))))))));obtain⟨I,O⟩:=getE (l:=l) (i:=(a+i).toNat) (by omega);obtain⟨r,S,E⟩:=h0.get O;obtain⟨rfl,_⟩:=S;have o:=UInt8.toNat_lt I;replace E:At _ v0 (((a+i).toNat)*1) [(b8 I)]:=E;refine st _ ((r_loadE (kk:=((a+i).toNat)*1) 0 rfl rfl one5 E rfl).to (b:=(b8 I)) rfl) (st _ (r_convN (a:=I.toNat) 18446744073709551616 rfl (by rw[u5];rfl) u23 rfl (ly (UInt8.toNat_lt _) (by decide))) (st _ (r_orN (a:=(v*2 ^ 8%18446744073709551616)) (b:=I.toNat) 18446744073709551616 rfl rfl rfl rfl (by omega)) (asg rfl (st_nil ?_))));clear E;refine n_block (c_then (c_region (mv rfl (st _ (r_subI (a:=i) (b:=1) rfl rfl (by omega)) (asg rfl (nt ?_))))));refine next2 (x0:=((v*2 ^ 8%18446744073709551616) ||| I.toNat)) (x1:=(i-1)) (by omega) ⟨(fitI rfl (by rfl)),(fitI rfl (by omega)),rfl,rfl,tV⟩ ⟨c,P,F,uQ,M,h0,(by omega),(by rw[shl_or (by omega),D];have g:=leN_step (k:=(n-1-i).toNat) O;rw[show(n-1-(i-1)).toNat=(n-1-i).toNat+1 by omega,show(a+(i-1+1)).toNat=(a+i).toNat by omega,g,show(a+i).toNat+1=(a+(i+1)).toNat by omega]),(by rw[shl_or (by omega)];have:=UInt8.toNat_lt I;omega)⟩
          · (have N:=dF H);refine c_exit (x_then (x_then (x_hit (c_then (ns (mv rfl (asg rfl (asg rfl (nt (c_ret ?_))))))))));exact retL (vs:=[(.int .u64 v),(.bool true)]) trivial rfl ⟨rfl,rfl,tV⟩ rfl ⟨v,true,rfl,M,(by assumption),(by rw[getF,if_pos (by omega),D,show i = -1 by omega];simp)⟩
end Go.Proofs.YtfadcpfgenjbeaaGreat
namespace Go.Wk
open Go Go.RowKit
section
variable {P:Program}
theorem zeros_b8 (k:Nat):(Builtin.zeroCells (Value.int .u8 0).cells k).toList=(List.replicate k (0:UInt8)).map b8:=by
  apply List.ext_getElem?
  intro j
  simp only[Builtin.zeroCells,Array.toList_map,Array.toList_range,List.getElem?_map,Value.cells]
  by_cases h:j<k
  · simp[h,List.getElem?_range,List.getElem?_replicate,b8,Nat.mod_one]
  · simp[h,List.getElem?_replicate,List.getElem?_eq_none]
theorem run_zeros_room {t tn ty e:TypeId} {i:TypeInfo} {kq kn:IntKind} {w:World} {g m cap k:Nat} {cur:Array Value} (ht:P.underlying t=some (.slice e)) (htn:P.underlying tn=some (.int kn)) (hi:P.info? e=some i) (hz:i.zero=some (.int .u8 0)) (hsz:i.size=1) (hby:i.bytes=1)
    (hg:w.heap[g]? = some (.cells cur e (0,0))) (hk:0<k) (hroom:m+k≤cap) (hc:cap≤cur.size) (h63:m+k≤1000000000) :
    (Builtin.append_ #[t,tn] ty #[.slice (some ⟨g,0,none⟩) m cap,.int kq k]).run P w = .ok (.slice (some ⟨g,0,none⟩) (m+k) cap) (w.setRow g (splice cur.toList m ((List.replicate k (0:UInt8)).map b8)).toArray):=by
  have A:=run_storeCells_at (P:=P) g m e ((List.replicate k (0:UInt8)).map b8) 0 cur w hg (by simp;omega) (fun u F=>by obtain⟨z,_,rfl⟩:=List.mem_map.1 F;rfl)
  simp only[Nat.add_zero]at A
  have G:IntKind.i64.wrap (k:Int)=k:=by rw[IntKind.wrap_i64];omega
  have B:¬((k:Int)<0):=by omega
  have E:¬k=0:=by omega
  have D:¬(281474976710656<(k:Int)):=by omega
  have C:(Builtin.zeroCells (Value.int .u8 0).cells k).toList=(List.replicate k (0:UInt8)).map b8:=zeros_b8 k
  rw[List.map_replicate]at A C ⊢
  rw[List.length_replicate]at A
  simp[Builtin.append_,run_underlying ht,run_underlying htn,sizeOf,typeInfo,zeroValue,hi,hz,hsz,hby,asInt,asIntOf,G,hroom,B,E,D,C,Addr.add_lit,A,splice]
theorem run_zeros_0 {t tn ty e:TypeId} {i:TypeInfo} {kq kn:IntKind} {w:World} {a:Option Addr} {m cap:Nat} (ht:P.underlying t=some (.slice e)) (htn:P.underlying tn=some (.int kn)) (hi:P.info? e=some i) (hm:m≤cap) :
    (Builtin.append_ #[t,tn] ty #[.slice a m cap,.int kq (0:Nat)]).run P w = .ok (.slice a m cap) w:=by
  have A:IntKind.i64.wrap ((0:Nat):Int)=0:=by rw[IntKind.wrap_i64];omega
  cases a <;> simp[Builtin.append_,run_underlying ht,run_underlying htn,sizeOf,typeInfo,zeroValue,hi,asInt,asIntOf,A,hm,storeCells,IntKind.wrap_i64]
variable {n:Nat} {A:Fr n} {D:List Deferred} {l:List (Nat × Value)} {w:World} {ops:Array Oper} {rest:List Oper} {Q:Exit→Act→World→Prop} {d:Tmp} {ty:TypeId} {ps:String} {af:Array Edge} {R:Nat→Prop}
theorem run_zeros_ex {t tn ty' e:TypeId} {kq kn:IntKind} (ht:P.underlying t=some (.slice e)) (htn:P.underlying tn=some (.int kn)) (hE:elT P e 1 1=true) (hz8:(P.info? e).bind (·.zero)=some (.int .u8 0)) {v:Value} {m k:Nat} {xs:List Value} (hO:Own w e 1 v m xs) (h63:m+k≤1000000000) :
    ∃v' w',(Builtin.append_ #[t,tn] ty' #[v,.int kq k]).run P w = .ok v' w'∧Own w' e 1 v' (m+k) (xs ++ (List.replicate k (0:UInt8)).map b8)∧Md (vblock v).toList w w'∧(∀b,vblock v'=some b→vblock v=some b∨w.heap.size≤b):=by
  obtain⟨i,z,G,M,V,A,D⟩:=elT_spec hE
  have U:z = .int .u8 0:=by rw[G]at hz8;simp[M]at hz8;exact hz8
  subst U
  rcases Nat.eq_zero_or_pos k with rfl|hk
  · rcases hO.2 with⟨rfl,rfl⟩|⟨g,cap,cur,rfl,R,S,K,C,J,B⟩
    · exact⟨_,w,run_zeros_0 ht htn G (Nat.le_refl _),by simpa using hO,Md.refl _ _,fun b A=>.inl A⟩
    · exact⟨_,w,run_zeros_0 ht htn G K,by simpa using hO,Md.refl _ _,fun b A=>.inl A⟩
  · rcases hO.2 with⟨rfl,rfl⟩|⟨g,cap,cur,rfl,R,S,K,C,J,B⟩
    · have L:=Lib.run_append_nil_zeros (P:=P) w t tn ty' e i (.int .u8 0) kq kn ht htn G M k hk (by omega) (by omega) (by rw[A];omega)
      have F:=grownCap_ge w k 0 e
      have C:=grownCap_le_maxLen w k 0 e (by simp only[maxLen];omega)
      refine⟨_,_,L,?_,⟨rfl,rfl,rfl,by simp,fun k hk _=>heap_alloc_old w.drew _ hk⟩,fun b A=>.inr (by simp[vblock]at A;omega)⟩
      have O:=heap_alloc_new w.drew (.cells (Builtin.zeroCells (Value.int .u8 0).cells k ++ Builtin.zeroCells (Value.int .u8 0).cells (grownCap w k 0 e-k)) e)
      have E:=Own.of_blk (sz:=1) (m:=k) (b:=w.heap.size) (cap:=grownCap w k 0 e) (cur:=(Builtin.zeroCells (Value.int .u8 0).cells k ++ Builtin.zeroCells (Value.int .u8 0).cells (grownCap w k 0 e-k)).toList) (e:=e) (by unfold Blk;rw[Array.toArray_toList];exact O) F C (by simp only[Array.length_toList,Array.size_append,size_zeroCells,D];omega)
      have H:((Builtin.zeroCells (Value.int .u8 0).cells k ++ Builtin.zeroCells (Value.int .u8 0).cells (grownCap w k 0 e-k)).toList).take (k*1)=(List.replicate k (0:UInt8)).map b8:=by
        rw[Array.toList_append,List.take_append,← zeros_b8,List.take_of_length_le (by simp only[Array.length_toList,size_zeroCells,D];omega)]
        have:k*1-(Builtin.zeroCells (Value.int .u8 0).cells k).toList.length=0:=by simp only[Array.length_toList,size_zeroCells,D];omega
        rw[this];simp
      rw[H]at E
      have W:xs=[]:=List.eq_nil_of_length_eq_zero (by simpa using hO.1)
      subst W
      rw[Nat.zero_add,List.nil_append]
      exact E
    · have O:Blk w g cur.toList e:=by unfold Blk;rw[Array.toArray_toList];exact S
      by_cases hroom:m+k≤cap
      · have L:=run_zeros_room (P:=P) (ty:=ty') (kq:=kq) ht htn G M V A S hk hroom (by omega) h63
        refine⟨_,_,L,?_,by simpa [vblock]using Md.setRow w g _,fun b A=>.inl (by simpa [vblock]using A)⟩
        have E:=Own.of_blk (sz:=1) (m:=m+k) (O.setRow (us:=splice cur.toList m ((List.replicate k (0:UInt8)).map b8))) hroom C (by rw[splice_len (by simp;omega),Array.length_toList];exact J)
        have H:(splice cur.toList m ((List.replicate k (0:UInt8)).map b8)).take ((m+k)*1)=xs ++ (List.replicate k (0:UInt8)).map b8:=by
          have N:(cur.toList.take m ++ (List.replicate k (0:UInt8)).map b8).length=m+k:=by rw[List.length_append,List.length_take,List.length_map,List.length_replicate,Array.length_toList];omega
          unfold splice
          rw[Nat.mul_one,List.take_append,List.take_of_length_le (by omega),N,Nat.sub_self,List.take_zero,List.append_nil]
          congr 1
          simpa using B
        rw[H]at E
        exact E
      · have L:=Lib.run_append_grow_zeros (P:=P) w t tn ty' e i (.int .u8 0) kq kn ht htn G M (some ⟨g,0,none⟩) m cap xs (by rw[V];exact run_firstCells_some (w:=w.drew) 1 m _ m cap xs hO.1 (World.ownsRow.cells hO (g:=g) rfl)) k hk (by omega) (by omega) (by omega) (by rw[A];omega) (growslice_fits (by omega) (by rw[A];omega))
        have F:=grownCap_ge w (m+k) cap e
        have I:=grownCap_le_maxLen w (m+k) cap e (by simp only[maxLen];omega)
        have T:xs.length=m:=by simpa using hO.1
        refine⟨_,_,L,?_,⟨rfl,rfl,rfl,by simp,fun k hk _=>heap_alloc_old w.drew _ hk⟩,fun b A=>.inr (by simp[vblock]at A;omega)⟩
        have Q:=heap_alloc_new w.drew (.cells (xs.toArray ++ Builtin.zeroCells (Value.int .u8 0).cells k ++ Builtin.zeroCells (Value.int .u8 0).cells (grownCap w (m+k) cap e-(m+k))) e)
        have E:=Own.of_blk (sz:=1) (m:=m+k) (b:=w.heap.size) (cap:=grownCap w (m+k) cap e) (cur:=(xs.toArray ++ Builtin.zeroCells (Value.int .u8 0).cells k ++ Builtin.zeroCells (Value.int .u8 0).cells (grownCap w (m+k) cap e-(m+k))).toList) (e:=e) (by unfold Blk;rw[Array.toArray_toList];exact Q) F I (by simp only[Array.length_toList,Array.size_append,List.size_toArray,size_zeroCells,D];omega)
        have H:((xs.toArray ++ Builtin.zeroCells (Value.int .u8 0).cells k ++ Builtin.zeroCells (Value.int .u8 0).cells (grownCap w (m+k) cap e-(m+k))).toList).take ((m+k)*1)=xs ++ (List.replicate k (0:UInt8)).map b8:=by
          have N:(xs ++ (List.replicate k (0:UInt8)).map b8).length=m+k:=by rw[List.length_append,List.length_map,List.length_replicate,T]
          rw[Array.toList_append,Array.toList_append,zeros_b8,Nat.mul_one,List.take_append,show xs.toArray.toList=xs from rfl,List.take_of_length_le (by rw[N];exact Nat.le_refl _),N,Nat.sub_self,List.take_zero,List.append_nil]
        rw[H]at E
        exact E
/-- append(x, make([]byte, k)...), x the run's own. -/
theorem st_apK {x y:Operand} {t tn e:TypeId} {kq kn:IntKind} {lo:Nat→Prop} {v:Value} {xs:Ly} {k:Nat} (ht:P.underlying t=some (.slice e)) (htn:P.underlying tn=some (.int kn)) (hE:elT P e 1 1=true) (hz8:(P.info? e).bind (·.zero)=some (.int .u8 0)) (hx:ev n l x=some v) (hy:ev n l y=some (.int kq ((k:Nat):Int)))
    (hO:Ow tB8 e lo w R v xs) (uR:Up w R) (hlo:∀b,w.heap.size≤b→lo b) (h63:xs.length+k≤1000000000)
    (kk:∀v' w' R'',(∀b,R b→b<w.heap.size→R'' b)→(∀b,R'' b→R b)→Up w' R''→Ow tB8 e lo w' R'' v' (xs ++ List.replicate k (0:UInt8))→Md (vblock v).toList w w'→(∀b∈(vblock v).toList,¬R'' b)→(∀b,vblock v=some b→b<w.heap.size) →
      (∀b,vblock v'=some b→vblock v=some b∨w.heap.size≤b)→wpList P ops Q rest (over A D ((d,v') :: l)) w') :
    wpList P ops Q (⟨some d,.call {callee:=.builtin .append,args:=#[x,y],argTypes:=#[t,tn]},ty,ps,af,none⟩ :: rest) (over A D l) w:=by
  refine wl_plain rfl ?_
  have hO':=hO
  obtain⟨⟨S,K,H⟩,C⟩:=hO'
  obtain⟨rfl,_⟩:=els_one_eq H
  obtain⟨v',w',N,L,J,G⟩:=run_zeros_ex (P:=P) (w:=w) (ty':=ty) (kq:=kq) (k:=k) ht htn hE hz8 K h63
  have F:(execOp (over A D l).eval ⟨some d,.call {callee:=.builtin .append,args:=#[x,y],argTypes:=#[t,tn]},ty,ps,af,none⟩).run P w = .ok (.value v') w':=by
    simp[execOp,resolve,invoke,builtin,ev_eval hx,ev_eval hy,N]
  unfold Oper.wp
  rw[F]
  have O:∀b,R b→b<w.heap.size→(R b∧vblock v'≠some b):=fun b B T=>⟨B,fun E=>by
    rcases G b E with h|h
    · exact(C b h).2 B
    · omega⟩
  have M:∀b∈(vblock v).toList,¬(R b∧vblock v'≠some b):=fun b B I=>by
    cases E:vblock v with
    | none=>rw[E]at B;simp at B
    | some c=>rw[E]at B;simp at B;subst B;exact(C _ E).2 I.1
  have g1':Own w' e 1 v' (xs ++ List.replicate k (0:UInt8)).length ((xs ++ List.replicate k (0:UInt8)).map b8):=by rw[List.map_append,List.length_append,List.length_replicate];exact L
  refine kk v' w' (fun b=>R b∧vblock v'≠some b) O (fun b B=>B.1) (fun b B=>⟨uR b (lv J.size B),fun E=>by have:=g1'.lt b E;omega⟩) ⟨⟨_,g1',els_one (fun _ _=>trivial)⟩,fun b B=>⟨?_,fun I=>I.2 B⟩⟩ J M K.lt G
  rcases G b B with h|h
  · exact(C b h).1
  · exact hlo b h
end
end Go.Wk
namespace Go.Proofs.YtfadcpfgenjbeaaGreat
open Go Go.Wk Go.RowKit
set_option linter.unusedVariables false
set_option linter.unusedSimpArgs false
attribute [local irreducible] wpList wpQuiet wpStill wpMix Code.wp Calls bodyPost
theorem off203_0:fieldOff Tryz.prog 203 0=some 0:=by kernel_rfl
theorem one45:isOne Tryz.prog 45=true:=by kernel_rfl
theorem pl203:bplace Tryz.prog 203=some [(0,1),(1,1)]:=by kernel_rfl
theorem z203:zcells Tryz.prog 203=some [.slice none 0 0,.slice none 0 0]:=by kernel_rfl

structure SFl where
  b:List UInt8
  safe:List UInt8
def SFl.cells (x:SFl) (v0:Value) (v1:Value):List Value :=
  [v0] ++ ([v1])
theorem sNew_any {w:World} {Q:Nat→Prop} (uQ:Up w Q)  :
    Calls Tryz.prog 75 #[] w fun en w'=>∃o0:Nat,∃u0_0:Value,∃u0_1:Value,∃r0:SFl,∃Q':Nat→Prop,en = .returned (.pointer (some ⟨o0,0,none⟩))∧Md [] w w'∧NewQ w w' Q Q'∧Blk w' o0 (SFl.cells r0 u0_0 u0_1) 203∧¬Q' o0∧w.heap.size≤o0∧Ls tB8 w' Q' u0_0 r0.b∧Ls tB8 w' Q' u0_1 r0.safe∧({b:=[],safe:=[]}:SFl)=r0:=by
  have M:=Md.refl [] w;have R:=uQ;have K:∀b,Q b→Q b:=fun _ h=>h;have D:∀b,Q b→b<w.heap.size→Q b:=fun _ h _=>h;refine enter (n:=3) Tryz.func75 rfl rfl rfl ?_;intro B;refine ns (asg rfl (nt (ns (st _ (r_buildG (us:=[]) (cs:=(SFl.cells (({b:=[],safe:=[]}:SFl)) (.slice none 0 0) (.slice none 0 0))) [] z203 pl203 rfl rfl trivial trivial rfl rfl) (st_box (cs:=(SFl.cells (({b:=[],safe:=[]}:SFl)) (.slice none 0 0) (.slice none 0 0))) rfl rfl ?_)))));intro E S A J I G;obtain⟨P,N,O,C,F⟩:=exQ uQ A J I;replace K:=fun b H=>K b (O b H);replace D:=fun b H L=>N b (D b H L) (ly L M.size);replace A:=lv M.size A;replace uQ:=uQ.md I;replace M:=M.step0 I;replace uQ:=F;clear F N O;refine asg rfl (nt (c_ret ?_));exact ret1L (v:=(.pointer (some ⟨E,0,none⟩))) trivial rfl ⟨rfl,tV⟩ ⟨E,_,_,(({b:=[],safe:=[]}:SFl)),P,rfl,M,⟨D,K,uQ⟩,G,C,A,(by first|exact Ls.nil _ _ _|(simp only[];exact Ls.nil _ _ _)),(by first|exact Ls.nil _ _ _|(simp only[];exact Ls.nil _ _ _)),rfl⟩
theorem sLen_any {w:World} {Q:Nat→Prop} (uQ:Up w Q) {b0:Nat} {v0_0:Value} {v0_1:Value} (f:SFl) (h0:Blk w b0 (SFl.cells f v0_0 v0_1) 203) (n0:¬Q b0) (a0_0:Ls tB8 w Q v0_0 f.b) (a0_1:Ls tB8 w Q v0_1 f.safe) :
    Calls Tryz.prog 76 #[.pointer (some ⟨b0,0,none⟩)] w fun en w'=>∃r0:Nat,en = .returned (.int .i64 r0)∧Md [] w w'∧r0<9223372036854775808∧f.b.length=r0:=by
  have A:=n0;have M:=Md.refl [] w;have C:=uQ;refine enter (n:=8) Tryz.func76 rfl rfl rfl ?_;intro B;refine ns (asg rfl (nt (ns (mv rfl (sn rfl (sf rfl off203_0 (sl (u:=v0_0) rfl one45 h0 rfl ?_)))))));have D:=a0_0.len63;refine sL rfl u45 a0_0.shp (asg rfl (nt (c_ret ?_)));exact ret1L (v:=(.int .i64 f.b.length)) trivial rfl ⟨rfl,tV⟩ ⟨f.b.length,rfl,M,(by first|assumption|omega|simp_all),rfl⟩
theorem elT5:elT Tryz.prog 5 1 1=true:=by kernel_rfl
theorem fn125:isFn Tryz.prog 125=true:=by kernel_rfl
theorem mixed:Tryz.prog.follows .mixedOrders=true:=by kernel_rfl
theorem off203_1:fieldOff Tryz.prog 203 1=some 1:=by kernel_rfl

theorem bClone_any {w:World} {Q:Nat→Prop} (uQ:Up w Q) {v0:Value} {l:Ly} (h0:Ls tB8 w Q v0 l) (p0:l.length≤140737488355328) :
    Calls Tryz.prog 125 #[v0] w fun en w'=>∃u0:Value,∃r0:List UInt8,∃Q':Nat→Prop,en = .returned (u0)∧Md [] w w'∧NewQ w w' Q Q'∧Ow tB8 5 (Fsh [] w) w' Q' u0 r0∧l=r0:=by
  obtain⟨a,A,T,R,V⟩:∃a A,v0 = .slice a l.length A∧l.length≤A∧(a=none→l=[]):=by
    obtain⟨a,A,j,e,M,k,N,_⟩:=h0;exact⟨a,A,e,M,fun h=>List.eq_nil_of_length_eq_zero (by have:=N h;omega)⟩
  refine enter (n:=8) Tryz.func125 rfl rfl rfl ?_;intro B;refine ns (asg rfl (nt (c_seq (ns (mv rfl (st (.bool a.isNone) (by exact r_eqlSN (a:=a) (m:=l.length) (c:=A) (by rw[← T];rfl) u45) (nt ?_)))))));refine c_if rfl (fun H=>?_) (fun H=>?_)
  · have S:l=[]:=V (Option.isNone_iff_eq_none.1 H)
    refine ns (asg rfl (nt (c_ret (r_then ?_))));exact ret1 trivial rfl rfl ⟨_,[],Q,rfl,Md.refl [] w,⟨fun x h _=>h,fun x h=>h,uQ⟩,Ow.nil _ _ _ _ _,S⟩
  · refine c_skip ?_
    refine c_then (ns (st_build0 u45 elT5 ?_));intro b i D W C O;obtain⟨K,J,Z,X,f⟩:=exQ uQ D W C;have P:Ow tB8 5 (Fsh [] w) i K (.slice (some ⟨b,0,none⟩) 0 0) []:=Ow.of_blk (m:=0) O rfl rfl (by simp[maxLen]) (.inr D) X;replace h0:=(h0.sub J).md0 C;refine mv rfl (st_apZ (sz:=1) rfl u45 elT5 rfl rfl P h0.lz f (Fsh.new C) (by simp;omega) (by simp;omega) ?_);intro p r L Y d g E F o _ U;refine asg rfl (nt (c_ret ?_));exact ret1 trivial rfl rfl ⟨_,_,L,rfl,C.step1 F D,⟨fun x G I=>Y x (J x G I) (ly I C.size),fun x G=>Z x (d x G),g⟩,E,by simp⟩
theorem bClone_any_ls {w:World} {Q:Nat→Prop} (uQ:Up w Q) {v0:Value} {l:Ly} (h0:Ls tB8 w Q v0 l) (p0:l.length≤140737488355328) :
    Calls Tryz.prog 125 #[v0] w fun en w'=>∃u0:Value,∃r0:List UInt8,en = .returned (u0)∧Md [] w w'∧Ls tB8 w' Q u0 r0∧l=r0 :=
  (bClone_any uQ h0 p0).mono fun en w' ⟨u0,r0,Q2,he,hm,kq,k0,hF⟩=>⟨u0,r0,he,hm,k0.ls kq.2.1 (Fsh.up uQ),hF⟩
theorem sAll_any {w:World} {Q:Nat→Prop} (uQ:Up w Q) {b0:Nat} {v0_0:Value} {v0_1:Value} (f:SFl) (h0:Blk w b0 (SFl.cells f v0_0 v0_1) 203) (n0:¬Q b0) (a0_0:Ls tB8 w Q v0_0 f.b) (a0_1:Ls tB8 w Q v0_1 f.safe) (p0:f.b.length≤100000000) :
    Calls Tryz.prog 71 #[.pointer (some ⟨b0,0,none⟩)] w fun en w'=>∃u0:Value,∃r0:List UInt8,en = .returned (u0)∧Md [] w w'∧Ls tB8 w' Q u0 r0∧f.b=r0:=by
  have F:=n0;have M:=Md.refl [] w;have J:=uQ;have I:∀b,Q b→Q b:=fun _ h=>h;refine enter (n:=8) Tryz.func71 rfl rfl rfl ?_;intro B;refine ns (asg rfl (nt (ns (mv rfl (sn rfl (sf rfl off203_0 (sl (u:=v0_0) rfl one45 h0 rfl (st_call fn125 rfl (bClone_any_ls uQ a0_0 (by first|omega|(simp<;>omega)|(simp at *<;>omega))) ?_))))))));rintro en K ⟨C,D,rfl,H,A,E⟩;refine⟨_,rfl,?_⟩;replace M:=M.step0 H;refine asg rfl (nt (c_ret ?_));exact ret1L (v:=C) trivial rfl ⟨rfl,tV⟩ ⟨_,D,rfl,M,(A.sub (fun b G _=>I b G)),E⟩
theorem sSync_any {w:World} {Q:Nat→Prop} (uQ:Up w Q) {b0:Nat} {v0_0:Value} {v0_1:Value} (f:SFl) (h0:Blk w b0 (SFl.cells f v0_0 v0_1) 203) (n0:¬Q b0) (a0_0:Ls tB8 w Q v0_0 f.b) (a0_1:Ls tB8 w Q v0_1 f.safe) (p0:f.b.length≤100000000) :
    Calls Tryz.prog 96 #[.pointer (some ⟨b0,0,none⟩)] w fun en w'=>∃m0:SFl,∃u50_0:Value,∃u50_1:Value,en = .returned (.tuple #[])∧Md [b0] w w'∧Blk w' b0 (SFl.cells m0 u50_0 u50_1) 203∧¬Q b0∧Ls tB8 w' Q u50_0 m0.b∧Ls tB8 w' Q u50_1 m0.safe∧({b:=f.b,safe:=f.b}:SFl)=m0:=by
  have G:=n0;have H:Fsh [b0] w b0:=.inl (by simp);have M:=Md.refl [b0] w;have P:=uQ;have O:∀b,Q b→Q b:=fun _ h=>h;refine enter (n:=10) Tryz.func96 rfl rfl rfl ?_;intro B;refine c_region (mv rfl (mv rfl (sn rfl (sf rfl off203_0 (sl (u:=v0_0) rfl one45 h0 rfl (st_call fn125 rfl (bClone_any_ls uQ a0_0 (by first|omega|(simp<;>omega)|(simp at *<;>omega))) ?_))))));rintro en R ⟨I,C,rfl,E,A,K⟩;refine⟨_,rfl,?_⟩;replace a0_0:=a0_0.md0 E;replace h0:=h0.md0 E;replace M:=M.step0 E;refine sn rfl (sf rfl off203_1 (st_store rfl rfl one45 A.oneCell h0 (lq rfl) ?_));have J:=h0;clear h0;intro S E h0;have L:∀b∈[b0],¬Q b:=(by intro b F;simp at F;subst F;exact G);replace a0_0:=a0_0.md E L;replace A:=A.md E L;replace M:=M.step E (all_cons H all_nil);clear J L;obtain⟨N,D⟩:∃y,y=({f with safe:=C}:SFl):=⟨_,rfl⟩;replace h0:Blk _ _ (SFl.cells ({f with safe:=C}) v0_0 I) _:=h0;rw[← D]at h0;rw[show f.b=N.b by rw[D]]at a0_0;rw[show C=N.safe by rw[D]]at A;refine st_nil ?_;exact retL (vs:=[]) trivial rfl trivial rfl ⟨N,_,_,rfl,M,h0,n0,(a0_0.sub (fun b F _=>O b F)),(A.sub (fun b F _=>O b F)),(by rw[D,← K])⟩
theorem u9:Tryz.prog.underlying 9=some (.string):=by kernel_rfl

theorem sCopy_any {w:World} {Q:Nat→Prop} (uQ:Up w Q) {b0:Nat} {v0_0:Value} {v0_1:Value} (f:SFl) (h0:Blk w b0 (SFl.cells f v0_0 v0_1) 203) (n0:¬Q b0) (a0_0:Ls tB8 w Q v0_0 f.b) (a0_1:Ls tB8 w Q v0_1 f.safe) (p0:f.b.length≤1000000) (p1:f.safe.length≤1000000) :
    Calls Tryz.prog 77 #[.pointer (some ⟨b0,0,none⟩)] w fun en w'=>∃o0:Nat,∃u0_0:Value,∃u0_1:Value,∃r0:SFl,∃Q':Nat→Prop,en = .returned (.pointer (some ⟨o0,0,none⟩))∧Md [] w w'∧NewQ w w' Q Q'∧Blk w' o0 (SFl.cells r0 u0_0 u0_1) 203∧¬Q' o0∧w.heap.size≤o0∧Ow tB8 5 (Fsh [] w) w' Q' u0_0 r0.b∧Ls tB8 w' Q' u0_1 r0.safe∧({b:=f.b,safe:=f.safe}:SFl)=r0:=by
  have i:=n0;have M:=Md.refl [] w;have k:=uQ;have a:∀b,Q b→Q b:=fun _ h=>h;have J:∀b,Q b→b<w.heap.size→Q b:=fun _ h _=>h;refine enter (n:=15) Tryz.func77 rfl rfl rfl ?_;intro B;refine ns (asg rfl (nt (c_seq ?_)));have I:=h0;refine c_mixT [(0,true),(1,true),(2,true),(3,true),(5,true),(6,true),(7,true),(8,true),(4,false)] [9,10,11,12] (fun w'=>Md [] w w') mixed (by kernel_rfl) ?_;intro o E;refine⟨E.mono (by simp),?_⟩;have W:=E.mono (T:=[]) (by simp);refine mo rfl (mz (fun w' U=>r_nil rfl) (mz (fun w' U=>r_field rfl off203_0) (mz (fun w' U=>(r_loadBlk rfl one45 (I.md0 U) rfl).to (b:=v0_0) rfl) (mo rfl (mz (fun w' U=>r_nil rfl) (mz (fun w' U=>r_field rfl off203_1) (mz (fun w' U=>(r_loadBlk rfl one45 (I.md0 U) rfl).to (b:=v0_1) rfl) ?_)))))));replace a0_0:=a0_0.md0 E;replace a0_1:=a0_1.md0 E;replace h0:=h0.md0 E;replace uQ:=uQ.md E;replace M:=M.step0 E;refine m_e ?_ rfl;refine st_call fn125 rfl (bClone_any uQ a0_0 (by first|omega|(simp<;>omega)|(simp at *<;>omega))) ?_;rintro en p ⟨G,N,l,rfl,D,⟨S,V,K⟩,A,e⟩;refine⟨_,rfl,?_⟩;have c:∀b,vblock G=some b→b∈[]∨_:=fun b P=>Or.inr (lv W.size ((A.2 b P).1.elim (fun h=>by simp at h) id));replace a0_1:=a0_1.sub S;replace a:=fun b P=>a b (V b P);replace J:=fun b P Y=>S b (J b P Y) (ly Y M.size);replace A:=A.lower (Fsh.lift (S':=[]) M);replace a0_1:=a0_1.md0 D;replace h0:=h0.md0 D;replace uQ:=uQ.md D;replace M:=M.step0 D;replace W:=W.step0 D;replace uQ:=K;clear K S V;refine st_nil ⟨rfl,W,?_⟩;refine m_nil ?_;clear I;clear W;refine st_call fn125 rfl (bClone_any_ls uQ a0_1 (by first|omega|(simp<;>omega)|(simp at *<;>omega))) ?_;rintro en r ⟨L,O,rfl,D,C,g⟩;refine⟨_,rfl,?_⟩;replace h0:=h0.md0 D;replace A:=A.md0 D
  replace uQ:=uQ.md D;replace M:=M.step0 D;refine st _ (r_buildG (us:=[[G],[L]]) (cs:=(SFl.cells (({b:=N,safe:=O}:SFl)) G L)) [(0,0,1),(1,1,1)] z203 pl203 rfl rfl ⟨(cells_one A.oneCell),(cells_one C.oneCell),tV⟩ ⟨rfl,rfl,tV⟩ rfl rfl) (st_box (cs:=(SFl.cells (({b:=N,safe:=O}:SFl)) G L)) rfl rfl ?_);intro H t F Z D X;have d:b0≠H:=(by have:=h0.lt;omega);obtain⟨j,S,V,R,K⟩:=exQ uQ F Z D;replace A:=A.sub S V;replace C:=C.sub S;replace a:=fun b P=>a b (V b P);replace J:=fun b P Y=>S b (J b P Y) (ly Y M.size);replace F:=lv M.size F;replace A:=A.md0 D;replace C:=C.md0 D;replace uQ:=uQ.md D;replace M:=M.step0 D;replace uQ:=K;clear K S V;refine asg rfl (nt (c_ret ?_));exact ret1L (v:=(.pointer (some ⟨H,0,none⟩))) trivial rfl ⟨rfl,tV⟩ ⟨H,_,_,(({b:=N,safe:=O}:SFl)),j,rfl,M,⟨J,a,uQ⟩,X,R,F,A,C,(by rw[← e,← g])⟩
theorem hEqual_any {w:World} {Q:Nat→Prop} (uQ:Up w Q) {v0:Value} {a:Ly} (h0:Ls tB8 w Q v0 a) {v1:Value} {b:Ly} (h1:Ls tB8 w Q v1 b) :
    Calls Tryz.prog 130 #[v0,v1] w fun en w'=>∃r0:Bool,en = .returned (.bool r0)∧Md [] w w'∧decide (a=b)=r0:=by
  have C:=h0.len63;have D:=h1.len63;have M:=Md.refl [] w;have A:=uQ;refine enter (n:=10) Tryz.func130 rfl rfl rfl ?_;intro B;refine ns (asg rfl (nt (ns (mv rfl (st _ (r_convBS (s:=a) u45 u5 u9 rfl h0.by) (mv rfl (st _ (r_convBS (s:=b) u45 u5 u9 rfl h1.by) (st _ (r_eqlS (a:=a) (b:=b) rfl rfl) (asg rfl (nt (c_ret ?_)))))))))));exact ret1L (v:=(.bool ((decide (a=b))))) trivial rfl ⟨rfl,tV⟩ ⟨(decide (a=b)),rfl,M,(by simp(disch:=first|omega|assumption|(simp;done)|fail) only [SS,reduceIte])⟩
theorem elT3:elT Tryz.prog 3 1 8=true:=by kernel_rfl
theorem fn130:isFn Tryz.prog 130=true:=by kernel_rfl
theorem u22:Tryz.prog.underlying 22=some (.slice 3):=by kernel_rfl

theorem el3:elemIs Tryz.prog 3 1=true:=by kernel_rfl
theorem one3:isOne Tryz.prog 3=true:=by kernel_rfl

theorem fn96:isFn Tryz.prog 96=true:=by kernel_rfl
theorem one4:isOne Tryz.prog 4=true:=by kernel_rfl
theorem u3:Tryz.prog.underlying 3=some (.int .i64):=by kernel_rfl

def wrF (f:SFl) (p:Int) (x:Ly):Nat × SFl :=
  if p<0 then(1,f)else if 32768<p∨32768-p<((x.length:Nat):Int)then(15,f)else if x.length=0 then(0,f)
  else(0,{f with b:=writeF f.b p.toNat x})
theorem wr_1 {f:SFl} {p:Int} {x:Ly} (h:p<0):wrF f p x=(1,f):=by unfold wrF;rw[if_pos h]
theorem wr_15 {f:SFl} {p:Int} {x:Ly} (h:¬p<0) (h2:32768<p∨32768-p<((x.length:Nat):Int)):wrF f p x=(15,f):=by unfold wrF;rw[if_neg h,if_pos h2]
theorem wr_0 {f:SFl} {p:Int} {x:Ly} (h:¬p<0) (h2:¬(32768<p∨32768-p<((x.length:Nat):Int))) (h3:x.length=0):wrF f p x=(0,f):=by unfold wrF;rw[if_neg h,if_neg h2,if_pos h3]
theorem wr_ok {f:SFl} {p:Int} {x:Ly} (h:¬p<0) (h2:¬(32768<p∨32768-p<((x.length:Nat):Int))) (h3:¬x.length=0):wrF f p x=(0,{f with b:=writeF f.b p.toNat x}):=by unfold wrF;rw[if_neg h,if_neg h2,if_neg h3]
set_option maxRecDepth 100000 in
theorem sWrite_any {w:World} {Q:Nat→Prop} (uQ:Up w Q) {b0:Nat} {v0_0:Value} {v0_1:Value} (f:SFl) (h0:Blk w b0 (SFl.cells f v0_0 v0_1) 203) (n0:¬Q b0) (a0_0:Ow tB8 5 (fun _=>True) w Q v0_0 f.b) (a0_1:Ls tB8 w Q v0_1 f.safe) (p:Int) (a1:(-9223372036854775808≤p∧p<9223372036854775808)) {v2:Value} {x:Ly} (h2:Ls tB8 w Q v2 x) (p0:f.b.length≤1000000) :
    Calls Tryz.prog 78 #[.pointer (some ⟨b0,0,none⟩),(.int .i64 (p:Int)),v2] w fun en w'=>∃r0:Nat,∃m0:SFl,∃u50_0:Value,∃u50_1:Value,∃Q':Nat→Prop,en = .returned (.int .i64 r0)∧Md (b0 :: (vblock v0_0).toList) w w'∧NewQ w w' Q Q'∧r0<9223372036854775808∧Blk w' b0 (SFl.cells m0 u50_0 u50_1) 203∧¬Q' b0∧Ow tB8 5 (Fsh (b0 :: (vblock v0_0).toList) w) w' Q' u50_0 m0.b∧Ls tB8 w' Q' u50_1 m0.safe∧wrF f p x=(r0,m0):=by
  have L2:=h2.len63;have C:=n0;have k:Fsh (b0 :: (vblock v0_0).toList) w b0:=.inl (by simp);replace a0_0:=a0_0.reP (lo':=Fsh (b0 :: (vblock v0_0).toList) w) (fun b T=>.inl (by simp[T]));have M:=Md.refl (b0 :: (vblock v0_0).toList) w;have Ah:=uQ;have e:∀b,Q b→Q b:=fun _ h=>h;have O:∀b,Q b→b<w.heap.size→Q b:=fun _ h _=>h;refine enter (n:=54) Tryz.func78 rfl rfl rfl ?_;intro B;refine ns (asg rfl (nt (c_seq (c_block (ns (mv rfl (st _ (r_lt (a:=p) (b:=0) rfl rfl) (asg rfl (nt ?_)))))))));refine c_if rfl (fun Y=>?_) (fun Y=>?_)
  · (first|(have P:=dq Y)|(have P:=dF (bnt Y))|(have P:=bnt Y)|(have P:=Y));refine ns (asg rfl (nt (c_ret (r_block (r_then ?_)))));exact ret1L (v:=(.int .i64 ((1:Nat):Int))) trivial rfl ⟨rfl,tV⟩ ⟨1,f,_,_,Q,rfl,M,⟨O,e,uQ⟩,(by first|assumption|omega|simp_all),h0,C,a0_0,a0_1,(wr_1 (by omega))⟩
  · (first|(have P:=dF Y)|(have P:=dq (bnf Y))|(have P:=bnf Y)|(have P:=Y));refine ns (mv rfl (st _ (r_gt (a:=p) (b:=32768) rfl rfl) (mv rfl ?_)));refine part_n (t:=14) rfl (fun A=>?_) (fun A=>?_)
    · (first|(have G:=dq A)|(have G:=dF (bnt A))|(have G:=bnt A)|(have G:=A));refine sk A (sk A (sk A (sk A (sk A (st _ (r_pick_t rfl A rfl) (asg rfl (nt (c_if_t rfl rfl (ns (asg rfl (nt (c_ret (r_block ?_)))))))))))));refine r_then ?_;exact ret1L (v:=(.int .i64 ((15:Nat):Int))) trivial rfl ⟨rfl,tV⟩ ⟨15,f,_,_,Q,rfl,M,⟨O,e,uQ⟩,(by first|assumption|omega|simp_all),h0,C,a0_0,a0_1,(wr_15 (by omega) (by omega))⟩
    · (first|(have G:=dF A)|(have G:=dq (bnf A))|(have G:=bnf A)|(have G:=A));refine sg A (r_move rfl) (sg A (r_len rfl u45 h2.shp) (sg A (r_move rfl) (sg A (r_subI (a:=32768) (b:=p) rfl rfl (by omega)) (sg A (r_gt (a:=((x.length:Nat):Int)) (b:=32768-p) rfl rfl) (st _ (r_pick_f rfl A rfl) (asg rfl (nt ?_)))))));refine c_if rfl (fun K=>?_) (fun K=>?_)
      · (first|(have F:=dq K)|(have F:=dF (bnt K))|(have F:=bnt K)|(have F:=K));refine ns (asg rfl (nt (c_ret (r_block (r_then ?_)))));exact ret1L (v:=(.int .i64 ((15:Nat):Int))) trivial rfl ⟨rfl,tV⟩ ⟨15,f,_,_,Q,rfl,M,⟨O,e,uQ⟩,(by first|assumption|omega|simp_all),h0,C,a0_0,a0_1,(wr_15 (by omega) (by omega))⟩
      · (first|(have F:=dF K)|(have F:=dq (bnf K))|(have F:=bnf K)|(have F:=K));refine ns (mv rfl (sL rfl u45 h2.shp (st _ (r_eqN (a:=x.length) (b:=0) rfl rfl) (asg rfl (nt ?_)))));refine c_if rfl (fun L=>?_) (fun L=>?_)
        · (first|(have H:=dq L)|(have H:=dF (bnt L))|(have H:=bnt L)|(have H:=L));refine ns (asg rfl (nt (c_ret (r_block (r_then ?_)))));exact ret1L (v:=(.int .i64 ((0:Nat):Int))) trivial rfl ⟨rfl,tV⟩ ⟨0,f,_,_,Q,rfl,M,⟨O,e,uQ⟩,(by first|assumption|omega|simp_all),h0,C,a0_0,a0_1,(wr_0 (by omega) (by omega) (by omega))⟩
        · (first|(have H:=dF L)|(have H:=dq (bnf L))|(have H:=bnf L)|(have H:=L));refine c_skip (n_block (c_then (c_seq (ns (mv rfl (mv rfl (sL rfl u45 h2.shp (st _ (r_addI (a:=p) (b:=((x.length:Nat):Int)) rfl rfl (by omega)) (mv rfl (sn rfl (sf rfl off203_0 (sl (u:=v0_0) rfl one45 h0 rfl (sL rfl u45 a0_0.shp ?_)))))))))))));refine st _ (r_subI (a:=p+((x.length:Nat):Int)) (b:=((f.b.length:Nat):Int)) rfl rfl (by omega)) (asg rfl (nt (ns (mv rfl (st _ (r_gt (a:=p+((x.length:Nat):Int)-((f.b.length:Nat):Int)) (b:=0) rfl rfl) (nt ?_))))));refine c_if rfl (fun N=>?_) (fun N=>?_)
          · (first|(have I:=dq N)|(have I:=dF (bnt N))|(have I:=bnt N)|(have I:=N));refine c_region (mv rfl (mv rfl (sn rfl (sf rfl off203_0 (sl (u:=v0_0) rfl one45 h0 rfl (mv rfl (st_apK u45 u3 elT5 (by kernel_rfl) rfl (fitI rfl (show(p+((x.length:Nat):Int)-((f.b.length:Nat):Int):Int)=(((p+((x.length:Nat):Int)-((f.b.length:Nat):Int)).toNat:Nat):Int)from by omega)) a0_0 uQ (Fsh.new M) (by first|omega|(simp<;>omega)|(simp at *<;>omega)) ?_)))))));intro v2 w3 Q4 r sT l E J S _ Aa;have D:=a0_0;clear a0_0;replace a0_1:=a0_1.sub r;replace C:=fun hh=>C (sT _ hh);replace h2:=h2.sub r;replace e:=fun b T=>e b (sT b T);replace O:=fun b T hl=>r b (O b T hl) (ly hl M.size);replace a0_1:=a0_1.md J S;replace h0:=h0.md J (apart_ow D h0 (by decide));replace h2:=h2.md J S;replace uQ:=uQ.md J;replace M:=M.stepO J (fun b T=>(D.2 b T).1);replace uQ:=l;clear l r sT S Aa;refine sn rfl (sf rfl off203_0 (st_store rfl rfl one45 E.oneCell h0 (lq rfl) ?_));have g:=h0;clear h0;intro w5 J h0;have S:∀b∈[b0],¬Q4 b:=(by intro b T;simp at T;subst T;exact C);replace a0_1:=a0_1.md J S;replace h2:=h2.md J S;replace E:=E.md J (apart_bo g E (by decide)) S;replace uQ:=uQ.md J;replace M:=M.step J (all_cons k all_nil);clear g S;obtain⟨c,V⟩:∃y,y=({f with b:=f.b ++ (List.replicate (p+((x.length:Nat):Int)-((f.b.length:Nat):Int)).toNat (0:UInt8))}:SFl):=⟨_,rfl⟩;replace h0:Blk _ _ (SFl.cells ({f with b:=f.b ++ (List.replicate (p+((x.length:Nat):Int)-((f.b.length:Nat):Int)).toNat (0:UInt8))}) v2 v0_1) _:=h0;rw[← V]at h0;rw[show f.b ++ (List.replicate (p+((x.length:Nat):Int)-((f.b.length:Nat):Int)).toNat (0:UInt8))=c.b by rw[V]]at E;rw[show f.safe=c.safe by rw[V]]at a0_1;refine nt (ns (mv rfl (sn rfl (sf rfl off203_0 (sl (u:=v2) rfl one45 h0 rfl ?_)))));have Ac:=congrArg (fun q:SFl=>q.b.length) V
            simp only[List.length_append,List.length_replicate]at Ac;refine st _ (((show RunV _ _ _ _ (.int .i64 (p))from r_move rfl).castI (Int.toNat_of_nonneg (by omega)).symm)) (st _ (r_sliceZ 1 ((p).toNat) c.b.length u45 el5 rfl E.shp (by omega) (by omega) ⟨_,rfl⟩ rfl) ?_);have z:=E.read.tail (lo:=(p).toNat) (by omega);refine mv rfl ?_;clear z;refine st_copyOw (i:=(p).toNat) u45 el5 rfl rfl E h2 (by omega) (by first|omega|(simp at *;omega)) ?_;intro w8 J S d;have W:=E;replace E:=d;clear d;replace a0_1:=a0_1.md J S;replace h0:=h0.md J (apart_ow W h0 (by decide));replace uQ:=uQ.md J;replace M:=M.stepO J (fun b T=>(W.2 b T).1);clear W S;obtain⟨o,X⟩:∃y,y=({c with b:=c.b.take (p).toNat ++ x ++ c.b.drop ((p).toNat+x.length)}:SFl):=⟨_,rfl⟩;replace h0:Blk w8 b0 (SFl.cells o v2 v0_1) 203:=(by rw[X];exact h0);rw[show c.b.take (p).toNat ++ x ++ c.b.drop ((p).toNat+x.length)=o.b by rw[X]]at E;rw[show c.safe=o.safe by rw[X]]at a0_1;refine nt (ns (asg rfl (nt (c_ret ?_))));exact ret1L (v:=(.int .i64 ((0:Nat):Int))) trivial rfl ⟨rfl,tV⟩ ⟨0,o,_,_,Q4,rfl,M,⟨O,e,uQ⟩,(by first|assumption|omega|simp_all),h0,C,E,a0_1,(by rw[wr_ok (by omega) (by omega) (by omega)];rw[X,V];exact congrArg (fun q:List UInt8=>((0:Nat),({f with b:=q}:SFl))) (write_more (by omega)))⟩
          · (first|(have I:=dF N)|(have I:=dq (bnf N))|(have I:=bnf N)|(have I:=N));refine c_skip (c_then (ns (mv rfl (sn rfl (sf rfl off203_0 (sl (u:=v0_0) rfl one45 h0 rfl (st _ (((show RunV _ _ _ _ (.int .i64 (p))from r_move rfl).castI (Int.toNat_of_nonneg (by omega)).symm)) (st _ (r_sliceZ 1 ((p).toNat) f.b.length u45 el5 rfl a0_0.shp (by omega) (by omega) ⟨_,rfl⟩ rfl) ?_))))))));have j:=a0_0.read.tail (lo:=(p).toNat) (by omega);refine mv rfl ?_;clear j;refine st_copyOw (i:=(p).toNat) u45 el5 rfl rfl a0_0 h2 (by omega) (by first|omega|(simp at *;omega)) ?_;intro Ad J S U;have D:=a0_0;replace a0_0:=U;clear U;replace a0_1:=a0_1.md J S;replace h0:=h0.md J (apart_ow D h0 (by decide));replace uQ:=uQ.md J;replace M:=M.stepO J (fun b T=>(D.2 b T).1);clear D S;obtain⟨Z,R⟩:∃y,y=({f with b:=f.b.take (p).toNat ++ x ++ f.b.drop ((p).toNat+x.length)}:SFl):=⟨_,rfl⟩;replace h0:Blk Ad b0 (SFl.cells Z v0_0 v0_1) 203:=(by rw[R];exact h0);rw[show f.b.take (p).toNat ++ x ++ f.b.drop ((p).toNat+x.length)=Z.b by rw[R]]at a0_0;rw[show f.safe=Z.safe by rw[R]]at a0_1;refine nt (ns (asg rfl (nt (c_ret ?_))));exact ret1L (v:=(.int .i64 ((0:Nat):Int))) trivial rfl ⟨rfl,tV⟩ ⟨0,Z,_,_,Q,rfl,M,⟨O,e,uQ⟩,(by first|assumption|omega|simp_all),h0,C,a0_0,a0_1,(by rw[wr_ok (by omega) (by omega) (by omega)];rw[R];exact congrArg (fun q:List UInt8=>((0:Nat),({f with b:=q}:SFl))) (write_in (by omega)))⟩
theorem el23:elemIs Tryz.prog 23 1=true:=by kernel_rfl
theorem fn169:isFn Tryz.prog 169=true:=by kernel_rfl
theorem one23:isOne Tryz.prog 23=true:=by kernel_rfl
theorem u80:Tryz.prog.underlying 80=some (.slice 23):=by kernel_rfl

theorem leAdd_any {w:World} {Q:Nat→Prop} (uQ:Up w Q) {v0:Value} {b:Ly} (h0:Ls tB8 w Q v0 b) (n:Nat) (a1:n<9223372036854775808) (v:Nat) (a2:v<18446744073709551616) (p0:b.length≤1000000) :
    Calls Tryz.prog 169 #[v0,(.int .i64 n),(.int .u64 v)] w fun en w'=>∃u0:Value,∃r0:List UInt8,∃Q':Nat→Prop,en = .returned (u0)∧Md [] w w'∧NewQ w w' Q Q'∧Ow tB8 5 (Fsh [] w) w' Q' u0 r0∧addF b n v=r0:=by
  have L0:=h0.len63;have M:=Md.refl [] w;have z:=uQ;have I:∀b,Q b→Q b:=fun _ h=>h;have C:∀b,Q b→b<w.heap.size→Q b:=fun _ h _=>h;refine enter (n:=29) Tryz.func169 rfl rfl rfl ?_;intro B;refine ns (asg rfl (nt (ns (mv rfl (st_call fn125 rfl (bClone_any uQ h0 (by omega)) ?_)))));rintro en w1 ⟨K,L,k,rfl,E,⟨c,d,H⟩,A,X⟩;refine⟨_,rfl,?_⟩;replace I:=fun b J=>I b (d b J);replace C:=fun b J Z=>c b (C b J Z) (ly Z M.size);replace A:=A.lower (Fsh.lift (S':=[]) M);replace uQ:=uQ.md E;replace M:=M.step0 E;replace uQ:=H;clear H c d;refine asg rfl (nt (c_seq (ns (mv rfl (st_call fn223 rfl (leSize_any uQ (((n:Nat):Int)) (by omega)) ?_)))));rintro en w3 ⟨u,rfl,E,Y⟩;refine⟨_,rfl,?_⟩;replace A:=A.md0 E;replace uQ:=uQ.md E;replace M:=M.step0 E;refine st _ (r_not rfl) (nt ?_);refine c_if rfl (fun N=>?_) (fun N=>?_)
  · (have V:=bnt N);refine ns (mv rfl (asg rfl (nt (c_ret (r_then ?_)))));exact ret1L (v:=K) trivial rfl ⟨rfl,tV⟩ ⟨_,L,k,rfl,M,⟨C,I,uQ⟩,A,(by unfold addF;rw[if_neg (fun h=>by have:=(sizeOk_nat Y).2 h;simp_all)];exact X)⟩
  · (have V:=bnf N);refine c_skip (c_then (c_seq (ns ?_)));have y:=(sizeOk_nat Y).1 (by simp_all);refine mv rfl (mv rfl (nt (c_block ?_)));refine loop3 (fun(P:Value) (o:Ly) (i:Nat)=>[(7,P),(16,(.int .i64 i)),(2,(.int .u64 v)),(15,(.int .i64 n))]) (fun(P:Value) (o:Ly) (i:Nat) w'=>∃Q':Nat→Prop,(∀b,Q' b→Q b)∧(∀b,Q b→b<w.heap.size→Q' b)∧Up w' Q'∧Md [] w w'∧Ow tB8 5 (Fsh [] w) w' Q' P o∧i≤n∧o=b ++ low v i) (fun(P:Value) (o:Ly) (i:Nat)=>n-i) (x0:=K) (x1:=L) (x2:=0) ?_ ?_ ?_
    · exact⟨rfl,rfl,rfl,rfl,tV⟩
    · exact⟨k,I,C,uQ,M,A,(by omega),(by rw[← X];simp[low])⟩
    · clear M uQ I C h0 A
      rintro P o i B w4 ⟨l,I,C,uQ,M,D,r,G⟩;refine ns (st _ (r_ltN (a:=i) (b:=n) rfl rfl) (nt (c_seq ?_)));refine c_if rfl (fun O=>?_) (fun O=>?_)
      · (have W:=dq O);refine c_skip (c_then (c_seq (c_block (ns (mv rfl (asg rfl (nt (c_region ?_))))))));have ol:o.length=b.length+i:=(by rw[G];simp[low_len]);refine mv rfl (mv rfl (mv rfl (st _ (r_mulN (a:=8) (b:=i) 9223372036854775808 rfl rfl rfl (by omega)) (st _ (r_shrN (a:=v) (b:=(8*i)) 64 rfl rfl rfl (by omega)) (st _ ((r_convW (a:=v/2 ^ (8*i)) 256 rfl rfl (by rw[u23];rfl) u5 rfl).to (b8_of _)) (st_buildSliceG [[(b8 (UInt8.ofNat (v/2 ^ (8*i))))]] u45 elT5 (by decide) (by decide) rfl rfl ⟨rfl,tV⟩ ⟨rfl,tV⟩ rfl (by decide) ?_))))));intro p w6 U t E F;have e:=uQ _ U;replace D:=D.md0 E;replace uQ:=uQ.md E;replace M:=M.step0 E;replace F:=Ls.of_blk (m:=1) (R:=l) (T:=tB8) (xs:=[UInt8.ofNat (v/2 ^ (8*i))]) F ⟨_,_,rfl,⟨rfl,tV⟩,rfl⟩ rfl (by decide) e;refine st_ap (sz:=1) (by rfl) u45 elT5 rfl rfl D F (fun _ h _=>h) uQ (Fsh.new M) (by(simp<;>omega)) (by(simp<;>omega)) ?_;intro v8 w9 f c d H g E x _ j;have S:=D;clear D;replace I:=fun b J=>I b (d b J);replace C:=fun b J Z=>c b (C b J Z) (ly Z M.size);replace uQ:=uQ.md E;replace M:=M.stepO E (fun b J=>(S.2 b J).1);replace uQ:=H;clear H c d x j;refine asg rfl (st_nil (n_block (c_then (c_region (st _ (r_addN (a:=i) (b:=1) 9223372036854775808 rfl rfl rfl (by omega)) (mv rfl (nt ?_)))))));refine next3 (x0:=v8) (x1:=(o ++ ([UInt8.ofNat (v/2 ^ (8*i))]))) (x2:=(i+1)) (by omega) ⟨rfl,(fitI rfl (by omega)),rfl,rfl,tV⟩ ⟨f,I,C,uQ,M,g,(by omega),(by rw[G,List.append_assoc,low_snoc])⟩
      · (have W:=dF O);refine c_exit (x_then (x_then (x_hit (c_then (ns (mv rfl (asg rfl (nt (c_ret ?_)))))))));exact ret1L (v:=P) trivial rfl ⟨rfl,tV⟩ ⟨_,o,l,rfl,M,⟨C,I,uQ⟩,D,(by unfold addF;rw[if_pos y,G,show i=n by omega])⟩
theorem leAdd_any_ls {w:World} {Q:Nat→Prop} (uQ:Up w Q) {v0:Value} {b:Ly} (h0:Ls tB8 w Q v0 b) (n:Nat) (a1:n<9223372036854775808) (v:Nat) (a2:v<18446744073709551616) (p0:b.length≤1000000) :
    Calls Tryz.prog 169 #[v0,(.int .i64 n),(.int .u64 v)] w fun en w'=>∃u0:Value,∃r0:List UInt8,en = .returned (u0)∧Md [] w w'∧Ls tB8 w' Q u0 r0∧addF b n v=r0 :=
  (leAdd_any uQ h0 n a1 v a2 p0).mono fun en w' ⟨u0,r0,Q2,he,hm,kq,k0,hF⟩=>⟨u0,r0,he,hm,k0.ls kq.2.1 (Fsh.up uQ),hF⟩
theorem pAlign_any {w:World} {Q:Nat→Prop} (uQ:Up w Q) (n:Nat) (a0:n<18446744073709551616) (p0:n≤9223372036854775807) :
    Calls Tryz.prog 195 #[(.int .u64 n)] w fun en w'=>∃r0:Nat,∃r1:Bool,en = .returned (.tuple #[(.int .u64 r0),(.bool r1)])∧Md [] w w'∧r0<18446744073709551616∧((n+7)/8*8,true)=(r0,r1):=by
  have M:=Md.refl [] w;have D:=uQ;refine enter (n:=9) Tryz.func195 rfl rfl rfl ?_;intro B;refine ns (asg rfl (asg rfl (nt (c_seq (ns (mv rfl (st _ (r_gtN (a:=n) (b:=18446744073709551608) rfl rfl) (nt ?_))))))));refine c_if rfl (fun A=>?_) (fun A=>?_)
  · (have C:=dq A);exfalso;omega
  · (have C:=dF A);refine c_skip (c_then (ns (mv rfl (st _ (r_addN (a:=n) (b:=7) 18446744073709551616 rfl rfl rfl (by omega)) (st _ (r_an7 (a:=(n+7)) rfl rfl (by omega)) (asg rfl (asg rfl (nt (c_ret ?_)))))))));exact retL (vs:=[(.int .u64 ((((n+7))/8*8:Nat):Int)),(.bool true)]) trivial rfl ⟨rfl,rfl,tV⟩ rfl ⟨((n+7))/8*8,true,rfl,M,(by omega),rfl⟩
theorem oNums_any {w:World} {Q:Nat→Prop} (uQ:Up w Q) {v0:Value} {b:Ly} (h0:Ls tB8 w Q v0 b) {v1:Value} {l:List Nat} (h1:Ls tU64 w Q v1 l) (p0:l.length≤1000) (p1:b.length≤900000) :
    Calls Tryz.prog 206 #[v0,v1] w fun en w'=>∃u0:Value,∃r0:List UInt8,∃Q':Nat→Prop,en = .returned (u0)∧Md [] w w'∧NewQ w w' Q Q'∧Ow tB8 5 (Fsh [] w) w' Q' u0 r0∧nums l ++ b=r0:=by
  have L0:=h0.len63;have L1:=h1.len63;have M:=Md.refl [] w;have f:=uQ;have F:∀b,Q b→Q b:=fun _ h=>h;have A:∀b,Q b→b<w.heap.size→Q b:=fun _ h _=>h;refine enter (n:=21) Tryz.func206 rfl rfl rfl ?_;intro B;refine ns (asg rfl (nt (ns (asg rfl (nt (c_seq (ns (mv rfl (sL rfl u80 h1.shp (mv rfl (nt (c_block ?_))))))))))));refine loop3 (fun(X:Value) (o:Ly) (i:Nat)=>[(5,X),(10,(.int .i64 i)),(0,v0),(8,v1),(9,(.int .i64 l.length))]) (fun(X:Value) (o:Ly) (i:Nat) w'=>∃Q':Nat→Prop,(∀b,Q' b→Q b)∧(∀b,Q b→b<w.heap.size→Q' b)∧Up w' Q'∧Md [] w w'∧Ow tB8 5 (Fsh [] w) w' Q' X o∧Ls tB8 w' Q' v0 b∧Ls tU64 w' Q' v1 l∧i≤l.length∧o.length=8*i∧o ++ nums (l.drop i)=nums l) (fun(X:Value) (o:Ly) (i:Nat)=>l.length-i) (x0:=(.slice none 0 0)) (x1:=([]:Ly)) (x2:=0) ?_ ?_ ?_
  · exact⟨rfl,rfl,rfl,rfl,rfl,tV⟩
  · exact⟨Q,F,A,uQ,M,(Ow.nil _ _ _ _ _),h0,h1,(by omega),(by simp),(by simp)⟩
  · clear M uQ F A h0 h1
    rintro X o i B w1 ⟨Q2,F,A,uQ,M,D,h0,h1,p,r,J⟩;refine ns (st _ (r_ltN (a:=i) (b:=l.length) rfl rfl) (nt (c_seq ?_)));refine c_if rfl (fun K=>?_) (fun K=>?_)
    · (have S:=dq K);refine c_skip (c_then (c_seq (c_block (ns (st _ (r_indexN (i:=i) 1 rfl rfl u80 el23 h1.shp (by omega)) ?_)))));obtain⟨g,U⟩:=getE (l:=l) (i:=i) (by omega);obtain⟨c4,d,H⟩:=h1.get U;obtain⟨rfl,k⟩:=d;replace H:At _ v1 (i*1) [(.int .u64 g)]:=H;refine st _ ((r_loadE (kk:=i*1) 0 rfl rfl one23 H rfl).to (b:=(.int .u64 g)) rfl) (asg rfl (st_nil ?_));clear H;refine c_then (c_region (mv rfl (mv rfl ?_)));obtain⟨t,P,j,I⟩:=D.freeze;replace h0:=h0.sub (fun b C _=>P b C);replace h1:=h1.sub (fun b C _=>P b C);replace F:=fun b C=>(j b C).elim (F b) (fun y=>Fsh.up f b (D.2 b y).1);replace A:=fun b C L=>P b (A b C L);replace uQ:Up w1 t:=fun b C=>P b (uQ b C);clear D P j;have D:=I;clear I;refine st_call fn169 rfl (leAdd_any uQ D 8 (by omega) g (by omega) (by omega)) ?_;rintro en w6 ⟨W,Y,u,rfl,N,⟨O,V,G⟩,E,T⟩;refine⟨_,rfl,?_⟩;replace h0:=h0.sub O;replace h1:=h1.sub O;replace F:=fun b C=>F b (V b C);replace A:=fun b C L=>O b (A b C L) (ly L M.size);replace E:=E.lower (Fsh.lift (S':=[]) M);replace h0:=h0.md0 N;replace h1:=h1.md0 N;replace uQ:=uQ.md N;replace M:=M.step0 N;replace uQ:=G;clear G O V;refine asg rfl (st_nil (n_block (c_then (c_region (st _ (r_addN (a:=i) (b:=1) 9223372036854775808 rfl rfl rfl (by omega)) (mv rfl (nt ?_)))))));refine next3 (x0:=W) (x1:=Y) (x2:=(i+1)) (by omega) ⟨rfl,(fitI rfl (by omega)),rfl,rfl,rfl,tV⟩ ⟨u,F,A,uQ,M,E,h0,h1,(by omega),(by rw[← T,addF_8];simp[low_len];omega),(by rw[← J,nums_step U,← T,addF_8,List.append_assoc])⟩
    · (have S:=dF K);refine c_exit (x_then (x_then (x_hit (c_then (ns (mv rfl (mv rfl (st_ap (sz:=1) (by rfl) u45 elT5 rfl rfl D h0 (fun _ h _=>h) uQ (Fsh.new M) (by omega) (by omega) ?_))))))));intro z Ab Z O V G c N x _ e;have R:=D;clear D;replace F:=fun b C=>F b (V b C);replace A:=fun b C L=>O b (A b C L) (ly L M.size);replace uQ:=uQ.md N;replace M:=M.stepO N (fun b C=>(R.2 b C).1);replace uQ:=G;clear G O V x e;refine asg rfl (nt (c_ret ?_));exact ret1L (v:=z) trivial rfl ⟨rfl,tV⟩ ⟨_,(o ++ b),Z,rfl,M,⟨A,F,uQ⟩,c,(by rw[← J,nums_end (by omega),List.append_nil])⟩
theorem oNums_any_ls {w:World} {Q:Nat→Prop} (uQ:Up w Q) {v0:Value} {b:Ly} (h0:Ls tB8 w Q v0 b) {v1:Value} {l:List Nat} (h1:Ls tU64 w Q v1 l) (p0:l.length≤1000) (p1:b.length≤900000) :
    Calls Tryz.prog 206 #[v0,v1] w fun en w'=>∃u0:Value,∃r0:List UInt8,en = .returned (u0)∧Md [] w w'∧Ls tB8 w' Q u0 r0∧nums l ++ b=r0 :=
  (oNums_any uQ h0 h1 p0 p1).mono fun en w' ⟨u0,r0,Q2,he,hm,kq,k0,hF⟩=>⟨u0,r0,he,hm,k0.ls kq.2.1 (Fsh.up uQ),hF⟩

theorem eNums_any {w:World} {Q:Nat→Prop} (uQ:Up w Q) {v0:Value} {b:Ly} (h0:Ls tB8 w Q v0 b) {v1:Value} {l:List Nat} (h1:Ls tU64 w Q v1 l) (p0:l.length≤1000) (p1:b.length≤900000) :
    Calls Tryz.prog 144 #[v0,v1] w fun en w'=>∃u0:Value,∃r0:List UInt8,en = .returned (u0)∧Md [] w w'∧Ls tB8 w' Q u0 r0∧b ++ nums l=r0:=by
  have Z:=h0.len63;have c:=h1.len63;have M:=Md.refl [] w;have Y:=uQ;have L:∀b,Q b→Q b:=fun _ h=>h;have C:∀b,Q b→b<w.heap.size→Q b:=fun _ h _=>h;refine enter (n:=18) Tryz.func144 rfl rfl rfl ?_;intro B;refine ns (asg rfl (nt (c_seq (ns (mv rfl (sL rfl u80 h1.shp (mv rfl (nt (c_block ?_)))))))));refine loop3 (fun(F:Value) (o:Ly) (i:Nat)=>[(0,F),(9,(.int .i64 i)),(7,v1),(8,(.int .i64 l.length))]) (fun(F:Value) (o:Ly) (i:Nat) w'=>∃Q':Nat→Prop,(∀b,Q' b→Q b)∧(∀b,Q b→b<w.heap.size→Q' b)∧Up w' Q'∧Md [] w w'∧Ls tB8 w' Q' F o∧Ls tU64 w' Q' v1 l∧i≤l.length∧o.length=b.length+8*i∧o ++ nums (l.drop i)=b ++ nums l) (fun(F:Value) (o:Ly) (i:Nat)=>l.length-i) (x0:=v0) (x1:=b) (x2:=0) ?_ ?_ ?_
  · exact⟨rfl,rfl,rfl,rfl,tV⟩
  · exact⟨Q,L,C,uQ,M,h0,h1,(by omega),(by simp),(by simp)⟩
  · clear M uQ L C h0 h1
    rintro F o i B e ⟨W,L,C,uQ,M,G,h1,U,V,D⟩;refine ns (st _ (r_ltN (a:=i) (b:=l.length) rfl rfl) (nt (c_seq ?_)));refine c_if rfl (fun E=>?_) (fun E=>?_)
    · (have H:=dq E);refine c_skip (c_then (c_seq (c_block (ns (st _ (r_indexN (i:=i) 1 rfl rfl u80 el23 h1.shp (by omega)) ?_)))));obtain⟨S,K⟩:=getE (l:=l) (i:=i) (by omega);obtain⟨d,R,A⟩:=h1.get K;obtain⟨rfl,T⟩:=R;replace A:At _ v1 (i*1) [(.int .u64 S)]:=A;refine st _ ((r_loadE (kk:=i*1) 0 rfl rfl one23 A rfl).to (b:=(.int .u64 S)) rfl) (asg rfl (st_nil ?_));clear A;refine c_then (c_region (mv rfl (mv rfl (st_call fn169 rfl (leAdd_any_ls uQ G 8 (by omega) S (by omega) (by omega)) ?_))));rintro en f ⟨N,O,rfl,P,I,J⟩;refine⟨_,rfl,?_⟩;replace h1:=h1.md0 P;replace uQ:=uQ.md P;replace M:=M.step0 P;refine asg rfl (st_nil (n_block (c_then (c_region (st _ (r_addN (a:=i) (b:=1) 9223372036854775808 rfl rfl rfl (by omega)) (mv rfl (nt ?_)))))));refine next3 (x0:=N) (x1:=O) (x2:=(i+1)) (by omega) ⟨rfl,(fitI rfl (by omega)),rfl,rfl,tV⟩ ⟨W,L,C,uQ,M,I,h1,(by omega),(by rw[← J,addF_8];simp[low_len];omega),(by rw[← D,nums_step K,← J,addF_8,List.append_assoc])⟩
    · (have H:=dF E);refine c_exit (x_then (x_then (x_hit (c_then (ns (mv rfl (asg rfl (nt (c_ret ?_)))))))));exact ret1L (v:=F) trivial rfl ⟨rfl,tV⟩ ⟨_,o,rfl,M,(G.sub (fun b X _=>L b X)),(by rw[← D,nums_end (by omega),List.append_nil])⟩
theorem fn195:isFn Tryz.prog 195=true:=by kernel_rfl

theorem oPut_any {w:World} {Q:Nat→Prop} (uQ:Up w Q) (kind:Nat) (a0:kind<9223372036854775808) {v1:Value} {body:Ly} (h1:Ls tB8 w Q v1 body) (p0:body.length≤900000) :
    Calls Tryz.prog 145 #[(.int .i64 kind),v1] w fun en w'=>∃u0:Value,∃r0:List UInt8,∃Q':Nat→Prop,en = .returned (u0)∧Md [] w w'∧NewQ w w' Q Q'∧Ow tB8 5 (Fsh [] w) w' Q' u0 r0∧putF kind body=r0:=by
  have L1:=h1.len63;have M:=Md.refl [] w;have y:=uQ;have N:∀b,Q b→Q b:=fun _ h=>h;have C:∀b,Q b→b<w.heap.size→Q b:=fun _ h _=>h;refine enter (n:=40) Tryz.func145 rfl rfl rfl ?_;intro B;refine ns (asg rfl (nt (c_seq (ns (mv rfl (st _ (r_ltN (a:=kind) (b:=1) rfl rfl) (mv rfl ?_)))))));refine part_n (t:=10) rfl (fun H=>?_) (fun H=>?_)
  · (have i:=dq H);refine sk H (sk H (st _ (r_pick_t rfl H rfl) (nt (c_if_t rfl rfl (ns (asg rfl (nt (c_ret (r_then ?_)))))))));exact ret1L (v:=(.slice none 0 0)) trivial rfl ⟨rfl,tV⟩ ⟨_,[],Q,rfl,M,⟨C,N,uQ⟩,(Ow.nil _ _ _ _ _),(by unfold putF;rw[if_pos (by omega)])⟩
  · (have i:=dF H);refine sg H (r_move rfl) (sg H (r_gtN (a:=kind) (b:=7) rfl rfl) (st _ (r_pick_f rfl H rfl) (nt ?_)));refine c_if rfl (fun Z=>?_) (fun Z=>?_)
    · (have j:=dq Z);refine ns (asg rfl (nt (c_ret (r_then ?_))));exact ret1L (v:=(.slice none 0 0)) trivial rfl ⟨rfl,tV⟩ ⟨_,[],Q,rfl,M,⟨C,N,uQ⟩,(Ow.nil _ _ _ _ _),(by unfold putF;rw[if_pos (by omega)])⟩
    · (have j:=dF Z);refine c_skip (c_then (ns (mv rfl (st _ ((r_convW (a:=kind) 256 rfl rfl (by rw[u3];rfl) u5 rfl).to (b8_of _)) (st_buildSliceG [[(b8 (UInt8.ofNat kind))]] u45 elT5 (by decide) (by decide) rfl rfl ⟨rfl,tV⟩ ⟨rfl,tV⟩ rfl (by decide) ?_)))));intro g w1 X p F J;have W:Fsh [] w g:=Fsh.new M _ X;obtain⟨Q2,K,P,V,D⟩:=exQ uQ X p F;replace h1:=h1.sub K;replace N:=fun b A=>N b (P b A);replace C:=fun b A L=>K b (C b A L) (ly L M.size);replace h1:=h1.md0 F;replace uQ:=uQ.md F;replace M:=M.step0 F;replace uQ:=D;clear D K P;replace J:=Ow.of_blk (m:=1) (lo:=Fsh [] w) (R:=Q2) (T:=tB8) (xs:=[UInt8.ofNat kind]) J ⟨_,_,rfl,⟨rfl,tV⟩,rfl⟩ rfl (by decide) W V;refine st_apK u45 u3 elT5 (by kernel_rfl) rfl rfl J uQ (Fsh.new M) (by(simp<;>omega)) ?_;intro v4 w5 Q6 K P D S F f _ U;have e:=J;clear J;replace h1:=h1.sub K;replace N:=fun b A=>N b (P b A);replace C:=fun b A L=>K b (C b A L) (ly L M.size);replace h1:=h1.md F f;replace uQ:=uQ.md F;replace M:=M.stepO F (fun b A=>(e.2 b A).1);replace uQ:=D;clear D K P f U;refine mv rfl (sL rfl u45 h1.shp (st _ (r_addN (a:=16) (b:=body.length) 9223372036854775808 rfl rfl rfl (by omega)) (st _ (r_convN (a:=16+body.length) 18446744073709551616 rfl (by rw[u3];rfl) u23 rfl (by omega)) ?_)));obtain⟨Q7,r,fT,Y⟩:=S.freeze;replace h1:=h1.sub (fun b A _=>r b A);replace N:=fun b A=>(fT b A).elim (N b) (fun hv=>Fsh.up y b (S.2 b hv).1);replace C:=fun b A L=>r b (C b A L);replace uQ:Up w5 Q7:=fun b A=>r b (uQ b A);clear S r fT;have S:=Y;clear Y;refine st_call fn169 rfl (leAdd_any uQ S 8 (by omega) (16+body.length) (by omega) (by(simp<;>omega))) ?_;rintro en w8 ⟨Ae,G,Q9,rfl,F,⟨K,P,D⟩,I,l⟩;refine⟨_,rfl,?_⟩;replace h1:=h1.sub K
      replace N:=fun b A=>N b (P b A);replace C:=fun b A L=>K b (C b A L) (ly L M.size);replace I:=I.lower (Fsh.lift (S':=[]) M);replace h1:=h1.md0 F;replace uQ:=uQ.md F;replace M:=M.step0 F;replace uQ:=D;clear D K P;have l8:=congrArg List.length l;rw[addF_8]at l8;simp only[List.length_append,low_len,List.length_replicate,List.length_cons,List.length_nil]at l8;refine asg rfl (nt (ns (mv rfl (mv rfl (st_ap (sz:=1) (by rfl) u45 elT5 rfl rfl I h1 (fun _ h _=>h) uQ (Fsh.new M) (by omega) (by omega) ?_)))));intro Aj Ak Af K P D E F f _ U;have c:=I;clear I;replace N:=fun b A=>N b (P b A);replace C:=fun b A L=>K b (C b A L) (ly L M.size);replace uQ:=uQ.md F;replace M:=M.stepO F (fun b A=>(c.2 b A).1);replace uQ:=D;clear D K P f U;refine asg rfl (nt (ns ?_));have la:(G ++ body).length=_:=List.length_append;have ll:16+body.length<18446744073709551616:=(by omega);refine mv rfl (sL rfl u45 E.shp (st _ (r_convN (a:=(G ++ body).length) 18446744073709551616 rfl (by rw[u3];rfl) u23 rfl (by omega)) (st_call fn195 rfl (pAlign_any uQ ((G ++ body).length) (by omega) (by omega)) ?_)));rintro en Al ⟨O,Aa,rfl,F,x,k⟩;refine⟨_,rfl,?_⟩;replace E:=E.md0 F;replace uQ:=uQ.md F;replace M:=M.step0 F;have al:=congrArg Prod.fst k;simp only[List.length_append]at al;refine mv rfl (se rfl rfl (se rfl rfl (asg rfl (asg rfl (nt (ns (mv rfl (mv rfl ?_))))))))
      refine st _ (r_convN (a:=O) 9223372036854775808 rfl (by rw[u23];rfl) u3 rfl (by omega)) (mv rfl (sL rfl u45 E.shp (st _ (r_subN (a:=O) (b:=((G ++ body).length)) 9223372036854775808 rfl rfl rfl (by omega)) (st_apK u45 u3 elT5 (by kernel_rfl) rfl rfl E uQ (Fsh.new M) (by omega) ?_))));intro z Am u K P D o F f _ U;have d:=E;clear E;replace N:=fun b A=>N b (P b A);replace C:=fun b A L=>K b (C b A L) (ly L M.size);replace uQ:=uQ.md F;replace M:=M.stepO F (fun b A=>(d.2 b A).1);replace uQ:=D;clear D K P f U;refine asg rfl (nt (c_ret ?_));exact ret1L (v:=z) trivial rfl ⟨rfl,tV⟩ ⟨_,((G ++ body) ++ (List.replicate (O-((G ++ body).length)) (0:UInt8))),u,rfl,M,⟨C,N,uQ⟩,o,(putF_of (by omega) l al)⟩
theorem oPut_any_ls {w:World} {Q:Nat→Prop} (uQ:Up w Q) (kind:Nat) (a0:kind<9223372036854775808) {v1:Value} {body:Ly} (h1:Ls tB8 w Q v1 body) (p0:body.length≤900000) :
    Calls Tryz.prog 145 #[(.int .i64 kind),v1] w fun en w'=>∃u0:Value,∃r0:List UInt8,en = .returned (u0)∧Md [] w w'∧Ls tB8 w' Q u0 r0∧putF kind body=r0 :=
  (oPut_any uQ kind a0 h1 p0).mono fun en w' ⟨u0,r0,Q2,he,hm,kq,k0,hF⟩=>⟨u0,r0,he,hm,k0.ls kq.2.1 (Fsh.up uQ),hF⟩
theorem elT23:elT Tryz.prog 23 1 8=true:=by kernel_rfl
theorem fn145:isFn Tryz.prog 145=true:=by kernel_rfl
theorem fn206:isFn Tryz.prog 206=true:=by kernel_rfl
theorem off229_0:fieldOff Tryz.prog 229 0=some 0:=by kernel_rfl
theorem off229_1:fieldOff Tryz.prog 229 1=some 1:=by kernel_rfl
theorem off229_2:fieldOff Tryz.prog 229 2=some 2:=by kernel_rfl
theorem off229_3:fieldOff Tryz.prog 229 3=some 3:=by kernel_rfl
theorem off229_4:fieldOff Tryz.prog 229 4=some 4:=by kernel_rfl
theorem off229_5:fieldOff Tryz.prog 229 5=some 5:=by kernel_rfl
theorem off229_6:fieldOff Tryz.prog 229 6=some 6:=by kernel_rfl
theorem off283_0:fieldOff Tryz.prog 283 0=some 0:=by kernel_rfl
theorem off283_1:fieldOff Tryz.prog 283 1=some 1:=by kernel_rfl
theorem off283_2:fieldOff Tryz.prog 283 2=some 2:=by kernel_rfl
theorem off283_3:fieldOff Tryz.prog 283 3=some 3:=by kernel_rfl

theorem oPutData_any {w:World} {Q:Nat→Prop} (uQ:Up w Q) {v0_0:Value} (d:Dat) (a0_0:Dat.ok d) (a0_1:Ls tB8 w Q v0_0 d.payload) (p0:d.payload.length≤800000) :
    Calls Tryz.prog 152 #[.agg (Dat.cells d v0_0).toArray] w fun en w'=>∃u0:Value,∃r0:List UInt8,en = .returned (u0)∧Md [] w w'∧Ls tB8 w' Q u0 r0∧putDataF d=r0:=by
  have M:=Md.refl [] w;have c:=uQ;have a:∀b,Q b→Q b:=fun _ h=>h;refine enter (n:=20) Tryz.func152 rfl rfl rfl ?_;intro B;refine ns (st_box (cs:=(Dat.cells d v0_0)) rfl rfl ?_);intro X o E Z C A;have P:=uQ _ E;replace E:=lv M.size E;replace a0_1:=a0_1.md0 C;replace uQ:=uQ.md C;replace M:=M.step0 C;refine asg rfl (nt (ns (sf rfl off229_6 (sl (u:=v0_0) rfl one45 A rfl (sf rfl off229_0 (sl (u:=(.int .u64 d.hash)) rfl one23 A rfl ?_))))));have f:d.hash<18446744073709551616:=a0_0.1;refine sf rfl off229_1 (sl (u:=(.int .u64 d.nextHash)) rfl one23 A rfl ?_);have g:d.nextHash<18446744073709551616:=a0_0.2.1;refine sf rfl off229_2 (sl (u:=(.int .u64 d.nextField)) rfl one23 A rfl ?_);have i:d.nextField<18446744073709551616:=a0_0.2.2.1;refine sf rfl off229_3 (sl (u:=(.int .u64 d.entry)) rfl one23 A rfl ?_);have j:d.entry<18446744073709551616:=a0_0.2.2.2.1;refine sf rfl off229_4 (sl (u:=(.int .u64 d.array)) rfl one23 A rfl ?_);have k:d.array<18446744073709551616:=a0_0.2.2.2.2.1;refine sf rfl off229_5 (sl (u:=(.int .u64 d.count)) rfl one23 A rfl ?_);have l:d.count<18446744073709551616:=a0_0.2.2.2.2.2;refine st_buildSliceG [[(.int .u64 d.hash)],[(.int .u64 d.nextHash)],[(.int .u64 d.nextField)],[(.int .u64 d.entry)],[(.int .u64 d.array)],[(.int .u64 d.count)]] u80 elT23 (by decide) (by decide) rfl rfl ⟨rfl,rfl,rfl,rfl,rfl,rfl,tV⟩ ⟨rfl,rfl,rfl,rfl,rfl,rfl,tV⟩ rfl (by decide) ?_;intro S p I U C D;have N:=uQ _ I;replace a0_1:=a0_1.md0 C;replace uQ:=uQ.md C;replace M:=M.step0 C;replace D:=Ls.of_blk (m:=6) (R:=Q) (T:=tU64) (xs:=[d.hash,d.nextHash,d.nextField,d.entry,d.array,d.count]) D ⟨_,_,rfl,⟨rfl,(by omega)⟩,⟨_,_,rfl,⟨rfl,(by omega)⟩,⟨_,_,rfl,⟨rfl,(by omega)⟩,⟨_,_,rfl,⟨rfl,(by omega)⟩,⟨_,_,rfl,⟨rfl,(by omega)⟩,⟨_,_,rfl,⟨rfl,(by omega)⟩,rfl⟩⟩⟩⟩⟩⟩ rfl (by decide) N
  refine st_call fn206 rfl (oNums_any_ls uQ a0_1 D (by(simp<;>omega)) (by omega)) ?_;rintro en r ⟨V,W,rfl,C,J,L⟩;refine⟨_,rfl,?_⟩;replace uQ:=uQ.md C;replace M:=M.step0 C;have O:=congrArg List.length L;simp only[List.length_append,nums_len,List.length_cons,List.length_nil]at O;refine st_call fn145 rfl (oPut_any_ls uQ 1 (by omega) J (by omega)) ?_;rintro en e ⟨G,H,rfl,C,F,K⟩;refine⟨_,rfl,?_⟩;replace M:=M.step0 C;refine asg rfl (nt (c_ret ?_));exact ret1L (v:=G) trivial rfl ⟨rfl,tV⟩ ⟨_,H,rfl,M,(F.sub (fun b Y _=>a b Y)),(by unfold putDataF;rw[← K,← L])⟩
theorem oPutField_any {w:World} {Q:Nat→Prop} (uQ:Up w Q) {v0_0:Value} (d:Fld) (a0_0:Fld.ok d) (a0_1:Ls tB8 w Q v0_0 d.payload) (p0:d.payload.length≤800000) :
    Calls Tryz.prog 207 #[.agg (Fld.cells d v0_0).toArray] w fun en w'=>∃u0:Value,∃r0:List UInt8,en = .returned (u0)∧Md [] w w'∧Ls tB8 w' Q u0 r0∧putFieldF d=r0:=by
  have M:=Md.refl [] w;have c:=uQ;have a:∀b,Q b→Q b:=fun _ h=>h;refine enter (n:=14) Tryz.func207 rfl rfl rfl ?_;intro B;refine ns (st_box (cs:=(Fld.cells d v0_0)) rfl rfl ?_);intro W i E Z A D;have O:=uQ _ E;replace E:=lv M.size E;replace a0_1:=a0_1.md0 A;replace uQ:=uQ.md A;replace M:=M.step0 A;refine asg rfl (nt (ns (sf rfl off283_3 (sl (u:=v0_0) rfl one45 D rfl (sf rfl off283_0 (sl (u:=(.int .u64 d.hash)) rfl one23 D rfl ?_))))));have e:d.hash<18446744073709551616:=a0_0.1;refine sf rfl off283_1 (sl (u:=(.int .u64 d.nextHash)) rfl one23 D rfl ?_);have f:d.nextHash<18446744073709551616:=a0_0.2.1;refine sf rfl off283_2 (sl (u:=(.int .u64 d.dat)) rfl one23 D rfl ?_);have g:d.dat<18446744073709551616:=a0_0.2.2;refine st_buildSliceG [[(.int .u64 d.hash)],[(.int .u64 d.nextHash)],[(.int .u64 d.dat)]] u80 elT23 (by decide) (by decide) rfl rfl ⟨rfl,rfl,rfl,tV⟩ ⟨rfl,rfl,rfl,tV⟩ rfl (by decide) ?_;intro P j F S A C;have L:=uQ _ F;replace a0_1:=a0_1.md0 A;replace uQ:=uQ.md A;replace M:=M.step0 A;replace C:=Ls.of_blk (m:=3) (R:=Q) (T:=tU64) (xs:=[d.hash,d.nextHash,d.dat]) C ⟨_,_,rfl,⟨rfl,(by omega)⟩,⟨_,_,rfl,⟨rfl,(by omega)⟩,⟨_,_,rfl,⟨rfl,(by omega)⟩,rfl⟩⟩⟩ rfl (by decide) L;refine st_call fn206 rfl (oNums_any_ls uQ a0_1 C (by(simp<;>omega)) (by omega)) ?_;rintro en k ⟨U,V,rfl,A,G,I⟩;refine⟨_,rfl,?_⟩;replace uQ:=uQ.md A;replace M:=M.step0 A;have Y:=congrArg List.length I;simp only[List.length_append,nums_len,List.length_cons,List.length_nil]at Y;refine st_call fn145 rfl (oPut_any_ls uQ 2 (by omega) G (by omega)) ?_
  rintro en l ⟨J,K,rfl,A,H,N⟩;refine⟨_,rfl,?_⟩;replace M:=M.step0 A;refine asg rfl (nt (c_ret ?_));exact ret1L (v:=J) trivial rfl ⟨rfl,tV⟩ ⟨_,K,rfl,M,(H.sub (fun b X _=>a b X)),(by unfold putFieldF;rw[← N,← I])⟩
theorem fn144:isFn Tryz.prog 144=true:=by kernel_rfl
theorem off294_0:fieldOff Tryz.prog 294 0=some 0:=by kernel_rfl
theorem off294_1:fieldOff Tryz.prog 294 1=some 1:=by kernel_rfl
theorem one80:isOne Tryz.prog 80=true:=by kernel_rfl

theorem eTable_any {w:World} {Q:Nat→Prop} (uQ:Up w Q) (k:Int) (a0:(-9223372036854775808≤k∧k<9223372036854775808)) :
    Calls Tryz.prog 143 #[(.int .i64 (k:Int))] w fun en w'=>∃r0:Bool,en = .returned (.bool r0)∧Md [] w w'∧decide (k=4∨k=5)=r0:=by
  have M:=Md.refl [] w;have D:=uQ;refine enter (n:=9) Tryz.func143 rfl rfl rfl ?_;intro B;refine ns (asg rfl (nt (ns (mv rfl (st _ (r_eq (a:=k) (b:=4) rfl rfl) (mv rfl ?_))))));refine part_n (t:=5) rfl (fun A=>?_) (fun A=>?_)
  · (have C:=dq A);refine sk A (sk A (st _ (r_pick_t rfl A rfl) (asg rfl (nt (c_ret ?_)))));exact ret1L (v:=(.bool true)) trivial rfl ⟨rfl,tV⟩ ⟨true,rfl,M,(by simp_all)⟩
  · (have C:=dF A);refine sg A (r_move rfl) (sg A (r_eq (a:=k) (b:=5) rfl rfl) (st _ (r_pick_f rfl A rfl) (asg rfl (nt (c_ret ?_)))));exact ret1L (v:=(.bool ((decide (k=5))))) trivial rfl ⟨rfl,tV⟩ ⟨(decide (k=5)),rfl,M,(by simp_all)⟩
theorem ePutArray_any {w:World} {Q:Nat→Prop} (uQ:Up w Q) {v0_0:Value} (a:Arr) (a0_0:Arr.ok a) (a0_1:Ls tU64 w Q v0_0 a.items) (p0:a.items.length≤1000) :
    Calls Tryz.prog 221 #[.agg (Arr.cells a v0_0).toArray] w fun en w'=>∃u0:Value,∃r0:List UInt8,en = .returned (u0)∧Md [] w w'∧Ls tB8 w' Q u0 r0∧putArrayF a=r0:=by
  have M:=Md.refl [] w;have p:=uQ;have o:∀b,Q b→Q b:=fun _ h=>h;refine enter (n:=11) Tryz.func221 rfl rfl rfl ?_;intro B;refine ns (st_box (cs:=(Arr.cells a v0_0)) rfl rfl ?_);intro e r F k A V;have W:=uQ _ F;replace F:=lv M.size F;replace a0_1:=a0_1.md0 A;replace uQ:=uQ.md A;replace M:=M.step0 A;refine asg rfl (nt (c_seq ?_));have C:=V;refine c_mixT [(0,true),(1,true),(4,true),(5,true),(2,false),(3,false)] [6,7,8] (fun w'=>Md [] r w') mixed (by kernel_rfl) ?_;intro u D;refine⟨D.mono (by simp),?_⟩;have E:=D.mono (T:=[]) (by simp);refine mz (fun w' N=>r_field rfl off294_0) (mz (fun w' N=>(r_loadBlk rfl one23 (C.md0 N) rfl).to (b:=(.int .u64 a.next)) rfl) ?_);have t:a.next<18446744073709551616:=a0_0;refine mz (fun w' N=>r_field rfl off294_1) (mz (fun w' N=>(r_loadBlk rfl one80 (C.md0 N) rfl).to (b:=v0_0) rfl) ?_);replace a0_1:=a0_1.md0 D;replace uQ:=uQ.md D;replace M:=M.step0 D;refine m_e ?_ rfl;refine st_buildSliceG [[(.int .u64 a.next)]] u80 elT23 (by decide) (by decide) rfl rfl ⟨rfl,tV⟩ ⟨rfl,tV⟩ rfl (by decide) ?_;intro f x S l A G;have X:=uQ _ S;replace a0_1:=a0_1.md0 A;replace uQ:=uQ.md A;replace M:=M.step0 A;replace E:=E.step0 A;replace G:=Ls.of_blk (m:=1) (R:=Q) (T:=tU64) (xs:=[a.next]) G ⟨_,_,rfl,⟨rfl,(by omega)⟩,rfl⟩ rfl (by decide) X;refine st_nil ⟨rfl,E,?_⟩;refine m_e ?_ rfl;refine st_call fn144 rfl (eNums_any uQ (Ls.nil tB8 _ _) G (by(simp<;>omega)) (by(simp<;>omega))) ?_;rintro en y ⟨Y,c,rfl,A,H,K⟩;refine⟨_,rfl,?_⟩;replace a0_1:=a0_1.md0 A;replace uQ:=uQ.md A;replace M:=M.step0 A;replace E:=E.step0 A;have i:=congrArg List.length K;simp only[List.length_append,nums_len,List.length_cons,List.length_nil]at i;refine st_nil ⟨rfl,E,?_⟩;refine m_nil ?_;clear C;clear E
  refine st_call fn144 rfl (eNums_any uQ H a0_1 (by omega) (by omega)) ?_;rintro en z ⟨Z,d,rfl,A,I,L⟩;refine⟨_,rfl,?_⟩;replace uQ:=uQ.md A;replace M:=M.step0 A;have j:=congrArg List.length L;simp only[List.length_append,nums_len,List.length_cons,List.length_nil]at j;refine st_call fn145 rfl (oPut_any_ls uQ 6 (by omega) I (by omega)) ?_;rintro en w9 ⟨O,P,rfl,A,J,U⟩;refine⟨_,rfl,?_⟩;replace M:=M.step0 A;refine asg rfl (nt (c_ret ?_));exact ret1L (v:=O) trivial rfl ⟨rfl,tV⟩ ⟨_,P,rfl,M,(J.sub (fun b g _=>o b g)),(by unfold putArrayF;rw[← U,← L,← K];rfl)⟩

theorem eNums0_any {w:World} {Q:Nat→Prop} (uQ:Up w Q) {b:Value} {v1:Value} {l:List Nat} (h1:Ls tU64 w Q v1 l) (p0:b = .slice none 0 0) (p1:l.length≤1000) :
    Calls Tryz.prog 144 #[b,v1] w fun en w'=>∃u0:Value,∃r0:List UInt8,∃Q':Nat→Prop,en = .returned (u0)∧Md [] w w'∧NewQ w w' Q Q'∧Ow tB8 5 (Fsh [] w) w' Q' u0 r0∧nums l=r0:=by
  have u:=h1.len63;subst p0;have M:=Md.refl [] w;have Y:=uQ;have G:∀b,Q b→Q b:=fun _ h=>h;have A:∀b,Q b→b<w.heap.size→Q b:=fun _ h _=>h;refine enter (n:=18) Tryz.func144 rfl rfl rfl ?_;intro B;refine ns (asg rfl (nt (c_seq (ns (mv rfl (sL rfl u80 h1.shp (mv rfl (nt (c_block ?_)))))))));refine loop3 (fun(K:Value) (o:Ly) (i:Nat)=>[(0,K),(9,(.int .i64 i)),(7,v1),(8,(.int .i64 l.length))]) (fun(K:Value) (o:Ly) (i:Nat) w'=>∃Q':Nat→Prop,(∀b,Q' b→Q b)∧(∀b,Q b→b<w.heap.size→Q' b)∧Up w' Q'∧Md [] w w'∧Ow tB8 5 (Fsh [] w) w' Q' K o∧Ls tU64 w' Q' v1 l∧i≤l.length∧o.length=8*i∧o ++ nums (l.drop i)=nums l) (fun(K:Value) (o:Ly) (i:Nat)=>l.length-i) (x0:=(.slice none 0 0)) (x1:=([]:Ly)) (x2:=0) ?_ ?_ ?_
  · exact⟨rfl,rfl,rfl,rfl,tV⟩
  · exact⟨Q,G,A,uQ,M,(Ow.nil _ _ _ _ _),h1,(by omega),(by simp),(by simp)⟩
  · clear M uQ G A h1
    rintro K o i B t ⟨j,G,A,uQ,M,C,h1,e,f,I⟩;refine ns (st _ (r_ltN (a:=i) (b:=l.length) rfl rfl) (nt (c_seq ?_)));refine c_if rfl (fun J=>?_) (fun J=>?_)
    · (have L:=dq J);refine c_skip (c_then (c_seq (c_block (ns (st _ (r_indexN (i:=i) 1 rfl rfl u80 el23 h1.shp (by omega)) ?_)))));obtain⟨Z,O⟩:=getE (l:=l) (i:=i) (by omega);obtain⟨x,W,F⟩:=h1.get O;obtain⟨rfl,d⟩:=W;replace F:At _ v1 (i*1) [(.int .u64 Z)]:=F;refine st _ ((r_loadE (kk:=i*1) 0 rfl rfl one23 F rfl).to (b:=(.int .u64 Z)) rfl) (asg rfl (st_nil ?_));clear F;refine c_then (c_region (mv rfl (mv rfl ?_)));obtain⟨k,T,c,H⟩:=C.freeze;replace h1:=h1.sub (fun b E _=>T b E);replace G:=fun b E=>(c b E).elim (G b) (fun r=>Fsh.up Y b (C.2 b r).1);replace A:=fun b E U=>T b (A b E U);replace uQ:Up t k:=fun b E=>T b (uQ b E);clear C T c;have C:=H;clear H;refine st_call fn169 rfl (leAdd_any uQ C 8 (by omega) Z (by omega) (by omega)) ?_;rintro en y ⟨R,S,p,rfl,V,⟨X,g,P⟩,D,N⟩;refine⟨_,rfl,?_⟩;replace h1:=h1.sub X;replace G:=fun b E=>G b (g b E);replace A:=fun b E U=>X b (A b E U) (ly U M.size);replace D:=D.lower (Fsh.lift (S':=[]) M);replace h1:=h1.md0 V;replace uQ:=uQ.md V;replace M:=M.step0 V;replace uQ:=P;clear P X g;refine asg rfl (st_nil (n_block (c_then (c_region (st _ (r_addN (a:=i) (b:=1) 9223372036854775808 rfl rfl rfl (by omega)) (mv rfl (nt ?_)))))));refine next3 (x0:=R) (x1:=S) (x2:=(i+1)) (by omega) ⟨rfl,(fitI rfl (by omega)),rfl,rfl,tV⟩ ⟨p,G,A,uQ,M,D,h1,(by omega),(by rw[← N,addF_8];simp[low_len];omega),(by rw[← I,nums_step O,← N,addF_8,List.append_assoc])⟩
    · (have L:=dF J);refine c_exit (x_then (x_then (x_hit (c_then (ns (mv rfl (asg rfl (nt (c_ret ?_)))))))));exact ret1L (v:=K) trivial rfl ⟨rfl,tV⟩ ⟨_,o,j,rfl,M,⟨A,G,uQ⟩,C,(by rw[← I,nums_end (by omega),List.append_nil])⟩
theorem agg222:isAggN Tryz.prog 222 2=true:=by kernel_rfl
theorem el222:elemIs Tryz.prog 222 2=true:=by kernel_rfl
theorem fn143:isFn Tryz.prog 143=true:=by kernel_rfl
theorem off222_0:fieldOff Tryz.prog 222 0=some 0:=by kernel_rfl
theorem off222_1:fieldOff Tryz.prog 222 1=some 1:=by kernel_rfl
theorem u170:Tryz.prog.underlying 170=some (.slice 222):=by kernel_rfl
theorem z222:zcells Tryz.prog 222=some [.int .u64 0,.int .u64 0]:=by kernel_rfl

theorem ePutTable_any {w:World} {Q:Nat→Prop} (uQ:Up w Q) (kind:Nat) (a0:kind<9223372036854775808) {v1:Value} {l:List Slt} (h1:Ls tSlt w Q v1 l) (p0:l.length≤10000) (p1:kind≤7) :
    Calls Tryz.prog 95 #[(.int .i64 kind),v1] w fun en w'=>∃u0:Value,∃r0:List UInt8,en = .returned (u0)∧Md [] w w'∧Ls tB8 w' Q u0 r0∧putTableF kind l=r0:=by
  have L1:=h1.len63;have M:=Md.refl [] w;have Au:=uQ;have W:∀b,Q b→Q b:=fun _ h=>h;have E:∀b,Q b→b<w.heap.size→Q b:=fun _ h _=>h;refine enter (n:=28) Tryz.func95 rfl rfl rfl ?_;intro B;refine ns (asg rfl (nt (c_seq (ns (mv rfl (st_call fn143 rfl (eTable_any uQ (((kind:Nat):Int)) (by omega)) ?_))))));rintro en w1 ⟨Ap,rfl,A,k⟩;refine⟨_,rfl,?_⟩;replace h1:=h1.md0 A;replace uQ:=uQ.md A;replace M:=M.step0 A;refine st _ (r_not rfl) (nt ?_);refine c_if rfl (fun N=>?_) (fun N=>?_)
  · (have g:=bnt N);refine ns (asg rfl (nt (c_ret (r_then ?_))));exact ret1L (v:=(.slice none 0 0)) trivial rfl ⟨rfl,tV⟩ ⟨_,[],rfl,M,(Ls.nil _ _ _),(by have e:=k;unfold putTableF;rw[if_pos (by simp_all;omega)])⟩
  · (have g:=bnf N);refine c_skip (c_then (ns (asg rfl (nt (c_seq (ns (mv rfl (sL rfl u170 h1.shp (mv rfl (nt (c_block ?_)))))))))));refine loop3 (fun(y:Value) (o:Ly) (i:Nat)=>[(5,y),(13,(.int .i64 i)),(0,(.int .i64 kind)),(11,v1),(12,(.int .i64 l.length))]) (fun(y:Value) (o:Ly) (i:Nat) w'=>∃Q':Nat→Prop,(∀b,Q' b→Q b)∧(∀b,Q b→b<w.heap.size→Q' b)∧Up w' Q'∧Md [] w w'∧Ls tB8 w' Q' y o∧Ls tSlt w' Q' v1 l∧i≤l.length∧o.length=16*i∧o ++ slotsF (l.drop i)=slotsF l) (fun(y:Value) (o:Ly) (i:Nat)=>l.length-i) (x0:=(.slice none 0 0)) (x1:=([]:Ly)) (x2:=0) ?_ ?_ ?_
    · exact⟨rfl,rfl,rfl,rfl,rfl,tV⟩
    · exact⟨Q,W,E,uQ,M,(Ls.nil _ _ _),h1,(by omega),(by simp),(by simp)⟩
    · clear M uQ W E h1
      rintro y o i B w2 ⟨Q3,W,E,uQ,M,C,h1,Ai,Aj,L⟩;refine ns (st _ (r_ltN (a:=i) (b:=l.length) rfl rfl) (nt (c_seq ?_)));refine c_if rfl (fun O=>?_) (fun O=>?_)
      · (have j:=dq O);refine c_skip (c_then (c_seq (c_block (ns (st _ (r_indexN (i:=i) 2 rfl rfl u170 el222 h1.shp (by omega)) ?_)))));obtain⟨F,t⟩:=getE (l:=l) (i:=i) (by omega);obtain⟨c5,Ad,I⟩:=h1.get t;obtain⟨_,rfl,q6⟩:=tSlt_un Ad;replace I:At _ v1 (i*2) (Slt.cells F):=I;refine st _ (r_loadEA (kk:=i*2) (Slt.cells F) 0 rfl rfl (by exact agg222) I rfl) (st_alloc z222 ?_);intro d w7 H Af A D;obtain⟨Q8,sQ,sT,U,x⟩:=exQ uQ H Af A;replace C:=C.sub sQ;replace h1:=h1.sub sQ;replace W:=fun b K=>W b (sT b K);replace E:=fun b K hl=>sQ b (E b K hl) (ly hl M.size);replace H:=lv M.size H;replace C:=C.md0 A;replace h1:=h1.md0 A;replace uQ:=uQ.md A;replace M:=M.step0 A;replace uQ:=x;clear x sQ sT;have V:Fsh [] w d:=.inr H;replace D:Blk _ _ (Slt.cells (({first:=0,tail:=0}:Slt))) _:=D;have Al:Slt.ok (({first:=0,tail:=0}:Slt)):=(by exact⟨(by decide),(by decide)⟩);refine st_storeAgg (us:=(Slt.cells F)) rfl rfl (by exact agg222) (by exact fun u hu=>one_cells (Slt.one) u hu) D (lq rfl) ?_;have r:=D;clear D;intro Av A D;have hS:∀b∈[d],¬Q8 b:=(by intro b K;simp at K;subst K;exact U);replace C:=C.md A hS;replace h1:=h1.md A hS;clear I;replace uQ:=uQ.md A;replace M:=M.step A (all_cons V all_nil);clear r hS;replace D:Blk _ _ (Slt.cells F) _:=D;refine nt (c_region (mv rfl (sf rfl off222_0 (sl (u:=(.int .u64 F.first)) rfl one23 D rfl ?_))));have Ar:F.first<18446744073709551616:=q6.1;refine sf rfl off222_1 (sl (u:=(.int .u64 F.tail)) rfl one23 D rfl ?_);have As:F.tail<18446744073709551616:=q6.2;refine st_buildSliceG [[(.int .u64 F.first)],[(.int .u64 F.tail)]] u80 elT23 (by decide) (by decide) rfl rfl ⟨rfl,rfl,tV⟩ ⟨rfl,rfl,tV⟩ rfl (by decide) ?_
        intro Ag Aw f Ak A G;have z:=uQ _ f;replace C:=C.md0 A;replace h1:=h1.md0 A;replace uQ:=uQ.md A;replace M:=M.step0 A;replace G:=Ls.of_blk (m:=2) (R:=Q8) (T:=tU64) (xs:=[F.first,F.tail]) G ⟨_,_,rfl,⟨rfl,(by omega)⟩,⟨_,_,rfl,⟨rfl,(by omega)⟩,rfl⟩⟩ rfl (by decide) z;refine st_call fn144 rfl (eNums_any uQ C G (by(simp<;>omega)) (by omega)) ?_;rintro en Ax ⟨X,Z,rfl,A,P,J⟩;refine⟨_,rfl,?_⟩;replace h1:=h1.md0 A;replace uQ:=uQ.md A;replace M:=M.step0 A;have Ae:=congrArg List.length J;simp only[List.length_append,nums_len,List.length_cons,List.length_nil]at Ae;refine asg rfl (st_nil (n_block (c_then (c_region (st _ (r_addN (a:=i) (b:=1) 9223372036854775808 rfl rfl rfl (by omega)) (mv rfl (nt ?_)))))));refine next3 (x0:=X) (x1:=Z) (x2:=(i+1)) (by omega) ⟨rfl,(fitI rfl (by omega)),rfl,rfl,rfl,tV⟩ ⟨Q8,W,E,uQ,M,P,h1,(by omega),(by omega),(by rw[← L,slots_step t,← J,List.append_assoc])⟩
      · (have j:=dF O);refine c_exit (x_then (x_then (x_hit (c_then (ns (mv rfl (mv rfl (st_call fn145 rfl (oPut_any_ls uQ kind (by omega) C (by omega)) ?_))))))));rintro en Ay ⟨Y,c,rfl,A,S,p⟩;refine⟨_,rfl,?_⟩;replace M:=M.step0 A;refine asg rfl (nt (c_ret ?_));exact ret1L (v:=Y) trivial rfl ⟨rfl,tV⟩ ⟨_,c,rfl,M,(S.sub (fun b K _=>W b K)),(by have e:=k;unfold putTableF;rw[← L,slots_end (by omega),List.append_nil,if_neg (by simp_all;omega)];exact p)⟩
theorem agg181:isAggN Tryz.prog 181 2=true:=by kernel_rfl
theorem el181:elemIs Tryz.prog 181 2=true:=by kernel_rfl
theorem off123_0:fieldOff Tryz.prog 123 0=some 0:=by kernel_rfl
theorem off123_1:fieldOff Tryz.prog 123 1=some 1:=by kernel_rfl
theorem off123_2:fieldOff Tryz.prog 123 2=some 2:=by kernel_rfl
theorem off123_3:fieldOff Tryz.prog 123 3=some 3:=by kernel_rfl
theorem off123_4:fieldOff Tryz.prog 123 4=some 19:=by kernel_rfl
theorem off123_5:fieldOff Tryz.prog 123 5=some 20:=by kernel_rfl
theorem off181_0:fieldOff Tryz.prog 181 0=some 0:=by kernel_rfl
theorem off181_1:fieldOff Tryz.prog 181 1=some 1:=by kernel_rfl
theorem one121:isOne Tryz.prog 121=true:=by kernel_rfl
theorem u121:Tryz.prog.underlying 121=some (.slice 181):=by kernel_rfl
theorem u27:Tryz.prog.underlying 27=some (.array 16 5):=by kernel_rfl
theorem z181:zcells Tryz.prog 181=some [.int .u64 0,.int .u64 0]:=by kernel_rfl

theorem ePut_any {w:World} {Q:Nat→Prop} (uQ:Up w Q) {v0_0:Value} (e:Ent) (a0_0:Ent.ok e) (a0_1:Ls tItm w Q v0_0 e.items) (p0:e.items.length≤1000) :
    Calls Tryz.prog 111 #[.agg (Ent.cells e v0_0).toArray] w fun en w'=>∃u0:Value,∃r0:List UInt8,en = .returned (u0)∧Md [] w w'∧Ls tB8 w' Q u0 r0∧putEntryF e=r0:=by
  have M:=Md.refl [] w;have Br:=uQ;have c:∀b,Q b→Q b:=fun _ h=>h;have K:∀b,Q b→b<w.heap.size→Q b:=fun _ h _=>h;refine enter (n:=39) Tryz.func111 rfl rfl rfl ?_;intro B;refine ns (st_box (cs:=(Ent.cells e v0_0)) rfl rfl ?_);intro Ab w1 Ac Cg A E;have O:=uQ _ Ac;replace Ac:=lv M.size Ac;replace a0_1:=a0_1.md0 A;replace uQ:=uQ.md A;replace M:=M.step0 A;refine asg rfl (nt (ns (sf rfl off123_0 (sl (u:=(.int .u64 e.seq)) rfl one23 E rfl ?_))));have q2:e.seq<18446744073709551616:=a0_0.1;refine sf rfl off123_1 (sl (u:=(.int .u64 e.real)) rfl one23 E rfl ?_);have q3:e.real<18446744073709551616:=a0_0.2.1;refine sf rfl off123_2 (sl (u:=(.int .u64 e.mono)) rfl one23 E rfl ?_);have q4:e.mono<18446744073709551616:=a0_0.2.2.1;refine st_buildSliceG [[(.int .u64 e.seq)],[(.int .u64 e.real)],[(.int .u64 e.mono)]] u80 elT23 (by decide) (by decide) rfl rfl ⟨rfl,rfl,rfl,tV⟩ ⟨rfl,rfl,rfl,tV⟩ rfl (by decide) ?_;intro Bw w5 Aw B4 A F;have Ba:=uQ _ Aw;replace a0_1:=a0_1.md0 A;replace E:=E.md0 A;replace uQ:=uQ.md A;replace M:=M.step0 A;replace F:=Ls.of_blk (m:=3) (R:=Q) (T:=tU64) (xs:=[e.seq,e.real,e.mono]) F ⟨_,_,rfl,⟨rfl,(by omega)⟩,⟨_,_,rfl,⟨rfl,(by omega)⟩,⟨_,_,rfl,⟨rfl,(by omega)⟩,rfl⟩⟩⟩ rfl (by decide) Ba;refine st_call fn144 rfl (eNums0_any uQ F (by rfl) (by(simp<;>omega))) ?_;rintro en w6 ⟨W,d,Q7,rfl,A,⟨U,y,S⟩,D,A3⟩;refine⟨_,rfl,?_⟩;replace a0_1:=a0_1.sub U;replace O:=U _ O E.lt;replace F:=F.sub U;replace c:=fun b C=>c b (y b C);replace K:=fun b C X=>U b (K b C X) (ly X M.size);replace D:=D.lower (Fsh.lift (S':=[]) M);replace a0_1:=a0_1.md0 A;replace E:=E.md0 A;replace F:=F.md0 A;replace uQ:=uQ.md A;replace M:=M.step0 A;replace uQ:=S;clear S U y;have l8:=congrArg List.length A3;simp only[List.length_append,nums_len,List.length_cons,List.length_nil]at l8
  refine asg rfl (nt (c_seq ?_));have Ah:∀b∈(vblock W).toList,¬Q7 b:=fun b C=>(D.2 b (by simpa using C)).2;have k:e.boot.length=16:=a0_0.2.2.2.1;have seg:Ls tB8 w6 Q7 (.slice (some ⟨Ab,3,none⟩) 16 16) e.boot:=Ls.of_seg (h1:=fun _=>rfl) (R:=Q7) (xs:=e.boot) (m:=16) (o:=3) E O k (by decide) (idc_map k) (fun _ _=>trivial);refine c_anyR (fun w'=>Blk w' Ab (Ent.cells e v0_0) 123) (R:=fun a' w'=>∃(A':Fr 39) (v:Value) (Q':Nat→Prop),a'=over A' [] [(3,v),(1,(.pointer (some ⟨Ab,0,none⟩)))]∧Md (vblock W).toList w6 w'∧(∀b,Q7 b→b<w6.heap.size→Q' b)∧(∀b,Q' b→Q7 b∨vblock W=some b)∧Up w' Q'∧Ls tB8 w' Q' v (d ++ e.boot ++ nums [e.xor])) mixed ?_ ?_
  · rintro _ w9 ⟨A',Bs,Be,rfl,A,U,y,S,r⟩
    replace a0_1:=Ls.subMd a0_1 A Ah U;replace E:=E.md A (apart_ow D E (by decide));replace F:=Ls.subMd F A Ah U;replace c:=fun b C=>(y b C).elim (c b) (fun hv=>Fsh.up Br b (D.2 b hv).1);replace K:=fun b C X=>U b (K b C X) (ly X M.size);replace M:=M.stepO A (fun b C=>(D.2 b C).1);replace uQ:=S;clear S U y Ah seg D;have l2:(d ++ e.boot ++ nums [e.xor]).length=48:=(by simp only[List.length_append,nums_len,k,List.length_cons,List.length_nil];omega);refine c_then (c_seq (ns (sf rfl off123_5 (sl (u:=v0_0) rfl one121 E rfl (sL rfl u121 a0_1.shp (mv rfl (nt (c_block ?_))))))));refine loop3 (fun(vo:Value) (o:Ly) (i:Nat)=>[(3,vo),(25,(.int .i64 i)),(23,v0_0),(24,(.int .i64 e.items.length))]) (fun(vo:Value) (o:Ly) (i:Nat) w'=>∃Q':Nat→Prop,(∀b,Q' b→Q b)∧(∀b,Q b→b<w.heap.size→Q' b)∧Up w' Q'∧Md [] w w'∧Ls tB8 w' Q' vo o∧Ls tItm w' Q' v0_0 e.items∧i≤e.items.length∧o.length=48+16*i∧o ++ itemsF (e.items.drop i)=nums [e.seq,e.real,e.mono] ++ e.boot ++ nums [e.xor] ++ itemsF e.items) (fun(vo:Value) (o:Ly) (i:Nat)=>e.items.length-i) (x0:=Bs) (x1:=((d ++ e.boot ++ nums [e.xor]))) (x2:=0) ?_ ?_ ?_
    · exact⟨rfl,rfl,rfl,rfl,tV⟩
    · exact⟨Be,c,K,uQ,M,r,a0_1,(by omega),(by omega),(by rw[← A3];rfl)⟩
    · clear M uQ c K O a0_1 E F r
      rintro vo o i B Co ⟨B8,c,K,uQ,M,I,a0_1,Bz,B0,x⟩;refine ns (st _ (r_ltN (a:=i) (b:=e.items.length) rfl rfl) (nt (c_seq ?_)));refine c_if rfl (fun Ae=>?_) (fun Ae=>?_)
      · (have Ay:=dq Ae);refine c_skip (c_then (c_seq (c_block (ns (st _ (r_indexN (i:=i) 2 rfl rfl u121 el181 a0_1.shp (by omega)) ?_)))));obtain⟨H,t⟩:=getE (l:=e.items) (i:=i) (by omega);obtain⟨Cc,A7,V⟩:=a0_1.get t;obtain⟨_,rfl,A8⟩:=tItm_un A7;replace V:At _ v0_0 (i*2) (Itm.cells H):=V;refine st _ (r_loadEA (kk:=i*2) (Itm.cells H) 0 rfl rfl (by exact agg181) V rfl) (st_alloc z181 ?_);intro Av Cp g Bo A J;obtain⟨z,U,y,Ak,S⟩:=exQ uQ g Bo A;replace I:=I.sub U;replace a0_1:=a0_1.sub U;replace c:=fun b C=>c b (y b C);replace K:=fun b C X=>U b (K b C X) (ly X M.size);replace g:=lv M.size g;replace I:=I.md0 A;replace a0_1:=a0_1.md0 A;replace uQ:=uQ.md A;replace M:=M.step0 A;replace uQ:=S;clear S U y;have Am:Fsh [] w Av:=.inr g;replace J:Blk _ _ (Itm.cells (({pos:=0,hash:=0}:Itm))) _:=J;have Bp:Itm.ok (({pos:=0,hash:=0}:Itm)):=(by exact⟨(by decide),(by decide)⟩);refine st_storeAgg (us:=(Itm.cells H)) rfl rfl (by exact agg181) (by exact fun u hu=>one_cells (Itm.one) u hu) J (lq rfl) ?_;have A4:=J;clear J;intro Cq A J;have hS:∀b∈[Av],¬z b:=(by intro b C;simp at C;subst C;exact Ak);replace I:=I.md A hS;replace a0_1:=a0_1.md A hS;clear V;replace uQ:=uQ.md A;replace M:=M.step A (all_cons Am all_nil);clear A4 hS;replace J:Blk _ _ (Itm.cells H) _:=J;refine nt (c_region (mv rfl (sf rfl off181_0 (sl (u:=(.int .u64 H.pos)) rfl one23 J rfl ?_))));have Ci:H.pos<18446744073709551616:=A8.1;refine sf rfl off181_1 (sl (u:=(.int .u64 H.hash)) rfl one23 J rfl ?_);have Cj:H.hash<18446744073709551616:=A8.2
        refine st_buildSliceG [[(.int .u64 H.pos)],[(.int .u64 H.hash)]] u80 elT23 (by decide) (by decide) rfl rfl ⟨rfl,rfl,tV⟩ ⟨rfl,rfl,tV⟩ rfl (by decide) ?_;intro Bx Cr Ax B6 A Y;have Bb:=uQ _ Ax;replace I:=I.md0 A;replace a0_1:=a0_1.md0 A;replace uQ:=uQ.md A;replace M:=M.step0 A;replace Y:=Ls.of_blk (m:=2) (R:=z) (T:=tU64) (xs:=[H.pos,H.hash]) Y ⟨_,_,rfl,⟨rfl,(by omega)⟩,⟨_,_,rfl,⟨rfl,(by omega)⟩,rfl⟩⟩ rfl (by decide) Bb;refine st_call fn144 rfl (eNums_any uQ I Y (by(simp<;>omega)) (by omega)) ?_;rintro en Cs ⟨Ao,Aq,rfl,A,Ad,p⟩;refine⟨_,rfl,?_⟩;replace a0_1:=a0_1.md0 A;replace uQ:=uQ.md A;replace M:=M.step0 A;have Bn:=congrArg List.length p;simp only[List.length_append,nums_len,List.length_cons,List.length_nil]at Bn;refine asg rfl (st_nil (n_block (c_then (c_region (st _ (r_addN (a:=i) (b:=1) 9223372036854775808 rfl rfl rfl (by omega)) (mv rfl (nt ?_)))))));refine next3 (x0:=Ao) (x1:=Aq) (x2:=(i+1)) (by omega) ⟨rfl,(fitI rfl (by omega)),rfl,rfl,tV⟩ ⟨z,c,K,uQ,M,Ad,a0_1,(by omega),(by omega),(by rw[← x,items_step t,← p,List.append_assoc])⟩
      · (have Ay:=dF Ae);refine c_exit (x_then (x_then (x_hit (c_then (ns (mv rfl (st_call fn145 rfl (oPut_any_ls uQ 3 (by omega) I (by omega)) ?_)))))));rintro en Ct ⟨Ap,Ar,rfl,A,Af,A0⟩;refine⟨_,rfl,?_⟩;replace M:=M.step0 A;refine asg rfl (nt (c_ret ?_));exact ret1L (v:=Ap) trivial rfl ⟨rfl,tV⟩ ⟨_,Ar,rfl,M,(Af.sub (fun b C _=>c b C)),(by unfold putEntryF;rw[← x,items_end (by omega),List.append_nil];exact A0)⟩
  · intro w1 P
    have G:=E.md0 P;have nb:=apart_ow D E (by decide);refine any_q (i:=0) _ rfl (by kernel_rfl) (by kernel_rfl) G (fun w' hc=>r_move rfl) (any_q (i:=1) _ rfl (by kernel_rfl) (by kernel_rfl) G (fun w' hc=>r_field rfl off123_3) (any_q (i:=2) _ rfl (by kernel_rfl) (by kernel_rfl) G (fun w' hc=>r_sliceArr u27 el5 rfl (by decide)) (any_q (i:=4) _ rfl (by kernel_rfl) (by kernel_rfl) G (fun w' hc=>r_field rfl off123_4) (any_q (i:=5) _ rfl (by kernel_rfl) (by kernel_rfl) G (fun w' hc=>r_loadBlk rfl one23 hc rfl) ?_))));refine any_2 (i:=3) (j:=6) (by kernel_rfl) rfl rfl rfl rfl ?_ ?_
    · refine st_apZ (sz:=1) rfl u45 elT5 rfl rfl (D.md0 P) (seg.md0 P).lz (uQ.md P) (Fsh.new (M.step0 P)) (by simp only[k,List.length_append,nums_len,List.length_cons,List.length_nil];omega) (by simp only[k,List.length_append,nums_len,List.length_cons,List.length_nil];omega) ?_;intro v5 w5 R5 s5 t5 u5 f5 Z Bk _ Ai;refine st_nil ⟨rfl,G.md Z nb,?_⟩;refine any_1 (i:=6) (by kernel_rfl) rfl rfl (st_buildSliceG [[(.int .u64 e.xor)]] u80 elT23 (by decide) (by decide) rfl rfl ⟨rfl,tV⟩ ⟨rfl,tV⟩ rfl (by decide) ?_);intro c6 w6 g6 l6 N j6;refine st_nil ⟨rfl,(G.md Z nb).md0 N,?_⟩;obtain⟨R7,f,ft,fz⟩:=(f5.md0 N).freeze;have Aj:Ls tU64 w6 R7 (.slice (some ⟨c6,0,none⟩) 1 1) [e.xor]:=Ls.of_blk (m:=1) (R:=R7) (T:=tU64) (xs:=[e.xor]) (j6) ⟨_,_,rfl,⟨rfl,a0_0.2.2.2.2⟩,rfl⟩ rfl (by decide) (f _ (u5 _ g6));refine any_1 (i:=7) (by kernel_rfl) rfl rfl (st_call fn144 rfl (eNums_any (fun b C=>f b ((u5.md N) b C)) fz Aj (by simp) (by simp only[k,List.length_append,nums_len,List.length_cons,List.length_nil];omega)) ?_);rintro en w8 ⟨v8,r8,rfl,L,h8,Ag⟩;refine⟨_,rfl,?_⟩;refine st_nil ⟨rfl,((G.md Z nb).md0 N).md0 L,?_⟩;refine any_1 (i:=8) (by kernel_rfl) rfl rfl (asg rfl ?_);refine st_nil ⟨rfl,((G.md Z nb).md0 N).md0 L,?_⟩;refine any_0 (by kernel_rfl) ?_;rw[← Ag]at h8;exact⟨_,v8,R7,(over_fits (by exact⟨rfl,rfl,tV⟩)).symm,(((P.mono (by simp)).trans Z).step0 N).step0 L,fun b C X=>f b (s5 b C (ly X P.size)),fun b C=>(ft b C).elim (fun h=>.inl (t5 b h)) (fun h=>(Ai b h).elim .inr (fun hn=>.inl (uQ b (lv (by have:=P.size;omega) hn)))),(fun b C=>f b ((u5.md N) b (lv L.size C))),h8⟩
    · refine st_buildSliceG [[(.int .u64 e.xor)]] u80 elT23 (by decide) (by decide) rfl rfl ⟨rfl,tV⟩ ⟨rfl,tV⟩ rfl (by decide) ?_;intro c6 w6 g6 l6 N j6;refine st_nil ⟨rfl,G.md0 N,?_⟩;refine any_1 (i:=3) (by kernel_rfl) rfl rfl (st_apZ (sz:=1) rfl u45 elT5 rfl rfl (D.md0 (P.step0 N)) (seg.md0 (P.step0 N)).lz (uQ.md (P.step0 N)) (Fsh.new (M.step0 (P.step0 N))) (by simp only[k,List.length_append,nums_len,List.length_cons,List.length_nil];omega) (by simp only[k,List.length_append,nums_len,List.length_cons,List.length_nil];omega) ?_);intro v5 w5 R5 s5 t5 u5 f5 Z Bk _ Ai;refine st_nil ⟨rfl,(G.md0 N).md Z nb,?_⟩;have nc:c6∉(vblock W).toList:=fun C=>by have:=(D.md0 P).lt _ (by simpa using C);omega
      obtain⟨R7,f,ft,fz⟩:=(f5).freeze;have Aj:Ls tU64 w5 R7 (.slice (some ⟨c6,0,none⟩) 1 1) [e.xor]:=Ls.of_blk (m:=1) (R:=R7) (T:=tU64) (xs:=[e.xor]) (j6.md Z nc) ⟨_,_,rfl,⟨rfl,a0_0.2.2.2.2⟩,rfl⟩ rfl (by decide) (f _ (s5 _ (uQ _ (lv P.size g6)) l6));refine any_1 (i:=7) (by kernel_rfl) rfl rfl (st_call fn144 rfl (eNums_any (fun b C=>f b (u5 b C)) fz Aj (by simp) (by simp only[k,List.length_append,nums_len,List.length_cons,List.length_nil];omega)) ?_);rintro en w8 ⟨v8,r8,rfl,L,h8,Ag⟩;refine⟨_,rfl,?_⟩;refine st_nil ⟨rfl,((G.md0 N).md Z nb).md0 L,?_⟩;refine any_1 (i:=8) (by kernel_rfl) rfl rfl (asg rfl ?_);refine st_nil ⟨rfl,((G.md0 N).md Z nb).md0 L,?_⟩;refine any_0 (by kernel_rfl) ?_;rw[← Ag]at h8;exact⟨_,v8,R7,(over_fits (by exact⟨rfl,rfl,tV⟩)).symm,(((P.step0 N).mono (by simp)).trans Z).step0 L,fun b C X=>f b (s5 b C (ly X (P.step0 N).size)),fun b C=>(ft b C).elim (fun h=>.inl (t5 b h)) (fun h=>(Ai b h).elim .inr (fun hn=>.inl (uQ b (lv (by have:=P.size;have:=N.size;omega) hn)))),(fun b C=>f b (u5 b (lv L.size C))),h8⟩
theorem el246:elemIs Tryz.prog 246 1=true:=by kernel_rfl
theorem el249:elemIs Tryz.prog 249 1=true:=by kernel_rfl
theorem elT246:elT Tryz.prog 246 1 8=true:=by kernel_rfl
theorem elT249:elT Tryz.prog 249 1 8=true:=by kernel_rfl
theorem fn170:isFn Tryz.prog 170=true:=by kernel_rfl
theorem fn171:isFn Tryz.prog 171=true:=by kernel_rfl
theorem off105_0:fieldOff Tryz.prog 105 0=some 0:=by kernel_rfl
theorem off105_1:fieldOff Tryz.prog 105 1=some 1:=by kernel_rfl
theorem off105_10:fieldOff Tryz.prog 105 10=some 70:=by kernel_rfl
theorem off105_11:fieldOff Tryz.prog 105 11=some 71:=by kernel_rfl
theorem off105_12:fieldOff Tryz.prog 105 12=some 72:=by kernel_rfl
theorem off105_13:fieldOff Tryz.prog 105 13=some 73:=by kernel_rfl
theorem off105_14:fieldOff Tryz.prog 105 14=some 74:=by kernel_rfl
theorem off105_15:fieldOff Tryz.prog 105 15=some 75:=by kernel_rfl
theorem off105_16:fieldOff Tryz.prog 105 16=some 76:=by kernel_rfl
theorem off105_17:fieldOff Tryz.prog 105 17=some 77:=by kernel_rfl
theorem off105_18:fieldOff Tryz.prog 105 18=some 78:=by kernel_rfl
theorem off105_19:fieldOff Tryz.prog 105 19=some 79:=by kernel_rfl
theorem off105_2:fieldOff Tryz.prog 105 2=some 2:=by kernel_rfl
theorem off105_20:fieldOff Tryz.prog 105 20=some 80:=by kernel_rfl
theorem off105_21:fieldOff Tryz.prog 105 21=some 81:=by kernel_rfl
theorem off105_22:fieldOff Tryz.prog 105 22=some 82:=by kernel_rfl
theorem off105_23:fieldOff Tryz.prog 105 23=some 83:=by kernel_rfl
theorem off105_24:fieldOff Tryz.prog 105 24=some 84:=by kernel_rfl
theorem off105_25:fieldOff Tryz.prog 105 25=some 85:=by kernel_rfl
theorem off105_26:fieldOff Tryz.prog 105 26=some 86:=by kernel_rfl
theorem off105_27:fieldOff Tryz.prog 105 27=some 87:=by kernel_rfl
theorem off105_28:fieldOff Tryz.prog 105 28=some 88:=by kernel_rfl
theorem off105_29:fieldOff Tryz.prog 105 29=some 89:=by kernel_rfl
theorem off105_3:fieldOff Tryz.prog 105 3=some 3:=by kernel_rfl
theorem off105_30:fieldOff Tryz.prog 105 30=some 90:=by kernel_rfl
theorem off105_4:fieldOff Tryz.prog 105 4=some 19:=by kernel_rfl
theorem off105_5:fieldOff Tryz.prog 105 5=some 35:=by kernel_rfl
theorem off105_6:fieldOff Tryz.prog 105 6=some 51:=by kernel_rfl
theorem off105_7:fieldOff Tryz.prog 105 7=some 67:=by kernel_rfl
theorem off105_8:fieldOff Tryz.prog 105 8=some 68:=by kernel_rfl
theorem off105_9:fieldOff Tryz.prog 105 9=some 69:=by kernel_rfl
theorem one103:isOne Tryz.prog 103=true:=by kernel_rfl
theorem one246:isOne Tryz.prog 246=true:=by kernel_rfl
theorem one249:isOne Tryz.prog 249=true:=by kernel_rfl
theorem u103:Tryz.prog.underlying 103=some (.int .u32):=by kernel_rfl
theorem u244:Tryz.prog.underlying 244=some (.slice 246):=by kernel_rfl
theorem u247:Tryz.prog.underlying 247=some (.slice 249):=by kernel_rfl

theorem hIds_any {w:World} {b:Nat}:Calls Tryz.prog 170 #[.pointer (some ⟨b,0,none⟩)] w fun en w'=>∃x,en = .returned (.slice (some ⟨x,0,none⟩) 4 4)∧w.heap.size≤x∧Md [] w w'∧Blk w' x (ptrs b 3 16 4) 246:=by
  refine enter (n:=16) Tryz.func170 rfl rfl rfl ?_;intro B;refine ns (asg rfl (nt (c_seq (c_mixT (ml 12) [12,13] (fun w'=>Md [] w w') mixed (by kernel_rfl) ?_))));intro I C;refine⟨C,?_⟩;refine mo rfl (mz (fun w' A=>r_nil rfl) (mz (fun w' A=>r_field rfl off105_3) (mo rfl (mz (fun w' A=>r_nil rfl) (mz (fun w' A=>r_field rfl off105_4) (mo rfl (mz (fun w' A=>r_nil rfl) (mz (fun w' A=>r_field rfl off105_5) (mo rfl (mz (fun w' A=>r_nil rfl) (mz (fun w' A=>r_field rfl off105_6) (m_nil (st_buildSlice u244 elT246 (by decide) rfl rfl rfl (by simp[OneAll,Value.oneCell']) (by decide) ?_)))))))))))));intro x G E H D F;refine asg rfl (nt (c_ret ?_));exact ret1 trivial rfl rfl ⟨x,rfl,lv C.size E,C.step0 D,(show Blk G x (ptrs b 3 16 4) 246 from F)⟩
theorem hLong_any {w:World} {b:Nat}:Calls Tryz.prog 171 #[.pointer (some ⟨b,0,none⟩)] w fun en w'=>∃x,en = .returned (.slice (some ⟨x,0,none⟩) 21 21)∧w.heap.size≤x∧Md [] w w'∧Blk w' x (ptrs b 67 1 21) 249:=by
  refine enter (n:=67) Tryz.func171 rfl rfl rfl ?_;intro B;refine ns (asg rfl (nt (c_seq (c_mixT (ml 63) [63,64] (fun w'=>Md [] w w') mixed (by kernel_rfl) ?_))));intro I C;refine⟨C,?_⟩;refine mo rfl (mz (fun w' A=>r_nil rfl) (mz (fun w' A=>r_field rfl off105_7) (mo rfl (mz (fun w' A=>r_nil rfl) (mz (fun w' A=>r_field rfl off105_8) (mo rfl (mz (fun w' A=>r_nil rfl) (mz (fun w' A=>r_field rfl off105_9) (mo rfl (mz (fun w' A=>r_nil rfl) (mz (fun w' A=>r_field rfl off105_10) (mo rfl (mz (fun w' A=>r_nil rfl) ?_)))))))))))));refine mz (fun w' A=>r_field rfl off105_11) (mo rfl (mz (fun w' A=>r_nil rfl) (mz (fun w' A=>r_field rfl off105_12) (mo rfl (mz (fun w' A=>r_nil rfl) (mz (fun w' A=>r_field rfl off105_13) (mo rfl (mz (fun w' A=>r_nil rfl) (mz (fun w' A=>r_field rfl off105_14) (mo rfl (mz (fun w' A=>r_nil rfl) (mz (fun w' A=>r_field rfl off105_15) (mo rfl ?_)))))))))))));refine mz (fun w' A=>r_nil rfl) (mz (fun w' A=>r_field rfl off105_16) ?_)
  refine mo rfl (mz (fun w' A=>r_nil rfl) (mz (fun w' A=>r_field rfl off105_17) (mo rfl (mz (fun w' A=>r_nil rfl) (mz (fun w' A=>r_field rfl off105_18) (mo rfl (mz (fun w' A=>r_nil rfl) (mz (fun w' A=>r_field rfl off105_19) (mo rfl (mz (fun w' A=>r_nil rfl) (mz (fun w' A=>r_field rfl off105_20) (mo rfl (mz (fun w' A=>r_nil rfl) ?_)))))))))))));refine mz (fun w' A=>r_field rfl off105_21) (mo rfl (mz (fun w' A=>r_nil rfl) (mz (fun w' A=>r_field rfl off105_22) (mo rfl (mz (fun w' A=>r_nil rfl) (mz (fun w' A=>r_field rfl off105_23) (mo rfl (mz (fun w' A=>r_nil rfl) (mz (fun w' A=>r_field rfl off105_24) (mo rfl (mz (fun w' A=>r_nil rfl) (mz (fun w' A=>r_field rfl off105_25) (mo rfl ?_)))))))))))));refine mz (fun w' A=>r_nil rfl) (mz (fun w' A=>r_field rfl off105_26) (mo rfl (mz (fun w' A=>r_nil rfl) (mz (fun w' A=>r_field rfl off105_27) (m_nil (st_buildSlice u247 elT249 (by decide) rfl rfl rfl (by simp[OneAll,Value.oneCell']) (by decide) ?_))))));intro x G E H D F;refine asg rfl (nt (c_ret ?_));exact ret1 trivial rfl rfl ⟨x,rfl,lv C.size E,C.step0 D,(show Blk G x (ptrs b 67 1 21) 249 from F)⟩
set_option maxRecDepth 100000 in
theorem hPut_any {w:World} {Q:Nat→Prop} (uQ:Up w Q) (h:PHead) (ok:PHead.ok h) (p0:h.state<256) :
    Calls Tryz.prog 124 #[.agg (PHead.cells h).toArray] w fun en w'=>∃u0:Value,∃r0:List UInt8,∃Q':Nat→Prop,en = .returned (u0)∧Md [] w w'∧NewQ w w' Q Q'∧Ow tB8 5 (Fsh [] w) w' Q' u0 r0∧putH h=r0:=by
  refine enter (n:=61) Tryz.func124 rfl rfl rfl ?_;intro B;refine ns (st_box (cs:=PHead.cells h) rfl rfl ?_);intro K w1 g1 l1 O A;obtain⟨Q1,s1,t1,n1,H⟩:=exQ uQ g1 l1 O;have M1:=O;refine asg rfl (nt (c_seq (c_mixT [(2,true),(3,true),(4,true),(6,true),(7,true),(8,true),(0,false),(1,false),(5,false),(9,false)] [10] (fun w'=>Blk w' K (PHead.cells h) 105) mixed (by kernel_rfl) ?_)));intro w2 O;refine⟨A.md0 O,?_⟩;refine mz (fun w' D=>r_field rfl off105_0) (mz (fun w' D=>r_loadBlk rfl one103 D rfl) (mz (fun w' D=>r_convN (a:=h.compat) 18446744073709551616 rfl (by rw[u103];rfl) u23 rfl (by have:=ok.1;omega)) (mz (fun w' D=>r_field rfl off105_1) (mz (fun w' D=>r_loadBlk rfl one103 D rfl) (mz (fun w' D=>r_convN (a:=h.incompat) 18446744073709551616 rfl (by rw[u103];rfl) u23 rfl (by have:=ok.2.1;omega)) ?_)))));refine m_e ?_ rfl;refine st_buildSlice u45 elT5 (by decide) rfl rfl rfl (by simp[OneAll,Value.oneCell']) (by decide) ?_;intro x w3 gx lx Ad hB;replace hB:Blk w3 x (([76,80,75,83,72,72,82,72]:Ly).map b8) 5:=hB;refine st_nil ⟨rfl,(A.md0 O).md0 Ad,?_⟩;refine m_e ?_ rfl;refine st_mark u45 u5 rfl hB (By.of_blk hB rfl (by decide)) ?_;intro w4 A3 hY;have Az:w1.heap.size≤x:=lv O.size gx;have l:Md [] w1 w4:=(O.step0 Ad).step1 A3 Az;refine st_nil ⟨rfl,A.md0 l,?_⟩;refine m_e ?_ rfl;refine st_call fn169 rfl (leAdd_any (H.md l) (Ls.of_by hY fun b E _=>H b (by simp[vblock]at E;omega)) 4 (by decide) h.compat (by have:=ok.1;omega) (by decide)) ?_;rintro en w5 ⟨v5,o5,Q5,rfl,A4,c,k5,e5⟩;refine⟨_,rfl,?_⟩;have f:New1 tB8 w1 Q1 5 w5 Q5 v5 o5:=⟨l.step0 A4,fun b E hl=>c.1 b E (ly hl l.size),c.2.1,c.2.2,k5.lower (Fsh.lift l)⟩;rw[addF_4]at e5;refine st_nil ⟨rfl,A.md0 f.md,?_⟩;refine m_e ?_ rfl;refine st_call fn169 rfl (leAdd_any (H.md f.md) (f.lsx H) 4 (by decide) h.incompat (by have:=ok.2.1;omega) (by rw[← e5];simp[low_len])) ?_;rintro en w6 ⟨v6,o6,Q6,rfl,A6,Be,k6,e6⟩;refine⟨_,rfl,?_⟩;have g:=f.call A6 Be k6;refine st_nil ⟨rfl,A.md0 g.md,?_⟩;refine m_nil (asg rfl (nt ?_));rw[addF_4,← e5]at e6
  have l6:o6.length=16:=(by rw[← e6];simp[low_len]);refine ns (mv rfl (sf rfl off105_2 (st _ (r_loadBlk rfl one3 (A.md0 g.md) rfl) (st _ (r_convN (a:=h.state) 256 rfl (by rw[u3];rfl) u5 rfl p0) (st_buildSlice u45 elT5 (by decide) rfl rfl rfl (by simp[OneAll,Value.oneCell']) (by decide) ?_)))));intro y w7 gy Cj A7 Z
  replace Z:Blk w7 y (([UInt8.ofNat h.state,0,0,0,0,0,0,0]:Ly).map b8) 5:=by
    show Blk w7 y [b8 (UInt8.ofNat h.state),b8 0,b8 0,b8 0,b8 0,b8 0,b8 0,b8 0] 5;rw[b8_state p0];exact Z
  have F7:=g.md0 A7;refine st_apN (sz:=1) rfl u45 elT5 rfl rfl F7 (Ls.of_by (By.of_blk Z rfl (show(8:Nat)≤maxLen by decide)) (fun b E _=>g.up b (by simp[vblock]at E;omega))).lz (by simp[l6]) (by decide) ?_;intro v8 w8 R8 F8 m8 a8;refine asg rfl (nt ?_);have l8:(o6 ++ [UInt8.ofNat h.state,0,0,0,0,0,0,0]).length=24:=(by simp[l6])
  generalize ho8:o6 ++ [UInt8.ofNat h.state,0,0,0,0,0,0,0]=o8 at *;refine c_seq (ns (st_call fn170 rfl (hIds_any (b:=K)) ?_));rintro en w9 ⟨P,rfl,gi,A8,C⟩;refine⟨_,rfl,?_⟩;have F9:=F8.md0 A8;have d:∀b,vblock v8=some b→b≠P:=fun b E he=>by have:=F8.ow.lt b E;omega
  have p:Shp (.slice (some ⟨P,0,none⟩) 4 4) 4:=⟨_,_,rfl,Nat.le_refl _,by simp[maxLen],by simp⟩;refine sL rfl u244 p (mv rfl (nt (c_block ?_)))
  refine loop2 (fun(k:Nat) (v:Value)=>[(26,(.int .i64 k)),(3,v),(1,.pointer (some ⟨K,0,none⟩)),(24,.slice (some ⟨P,0,none⟩) 4 4),(25,.int .i64 ((4:Nat):Int))])
    (fun(k:Nat) (v:Value) w'=>(∃R,New1 tB8 w1 Q1 5 w' R v (o8 ++ ((ids4 h).take k).flatten))∧Blk w' P (ptrs K 3 16 4) 246∧(∀b,vblock v=some b→b≠P)∧k≤4) (fun(k:Nat) (_:Value)=>4-k) (x0:=0) (x1:=v8) ?_ ?_ ?_
  · exact⟨rfl,rfl,rfl,rfl,rfl,tV⟩
  · exact⟨⟨_,by simpa using F9⟩,C,d,by omega⟩
  clear f g F7 F8 F9 C d;rintro k v B Bp ⟨⟨R,F⟩,C,d,hk⟩;refine ns (st _ (r_ltN (a:=k) (b:=4) rfl rfl) (nt (c_seq ?_)));refine c_if rfl (fun X=>?_) (fun X=>?_)
  · have S:=dq X
    refine c_skip (c_then (c_seq (c_block (ns (st _ ((r_indexN (i:=k) 1 rfl rfl u244 el246 p (by omega)).to (b:=.pointer (some ⟨P,k,none⟩)) (by simp[elemp,Addr.add_mk])) (st _ (r_loadBlk (b:=P) (j:=k) (u:=.pointer (some ⟨K,3+k*16,none⟩)) rfl one246 C (ptrs_get (by omega))) (asg rfl (nt ?_))))))));obtain⟨y,hy,Ak,D⟩:=head_ids ok S;have lk:(((ids4 h).take k).flatten).length≤64:=flat_le ok k;refine c_region (mv rfl (mv rfl (sn rfl (st _ (r_sliceArr u27 el5 rfl (by decide)) (st_apN (sz:=1) rfl u45 elT5 rfl rfl F (lz_part (A.md0 F.md) Ak D) (by simp only[List.length_append,l8,Ak];omega) (by decide) ?_)))));intro Bn Cs Av Ao Bh Aw;refine asg rfl (st_nil ?_);have ix:P<Bp.heap.size:=C.lt
    replace C:=C.md Bh (fun E=>by
      have hb':vblock v=some P:=(by simpa using E);exact d _ hb' rfl)
    refine n_block (c_then (c_region (st _ (r_addN (a:=k) (b:=1) 9223372036854775808 rfl rfl rfl (by omega)) (mv rfl (nt ?_)))));exact next2 (x0:=k+1) (x1:=Bn) (by omega) ⟨rfl,rfl,rfl,rfl,rfl,tV⟩ ⟨⟨Av,by rw[ids_take hy,← List.append_assoc];exact Ao⟩,C,fun b E he=>(Aw b E).elim (fun hv=>d b hv he) (fun hv=>by omega),by omega⟩
  have S:=dF X;obtain rfl:k=4:=by omega
  clear C d;have e4:((ids4 h).take 4).flatten=h.file ++ (h.machine ++ (h.boot ++ h.seq)):=(by simp[ids4]);rw[e4]at F
  have l9:(o8 ++ (h.file ++ (h.machine ++ (h.boot ++ h.seq)))).length=88:=by
    have:=ok.2.2.2;simp only[List.length_append,l8,this.1,this.2.1,this.2.2.1,this.2.2.2.1]
  generalize ho9:o8 ++ (h.file ++ (h.machine ++ (h.boot ++ h.seq)))=o9 at *;refine c_exit (x_then (x_then (x_hit (c_then (c_seq (ns (st_call fn171 rfl (hLong_any (b:=K)) ?_)))))));rintro en Ct ⟨j4,rfl,gj,z,G⟩;refine⟨_,rfl,?_⟩;have e:=F.md0 z;have r:Shp (.slice (some ⟨j4,0,none⟩) 21 21) 21:=⟨_,_,rfl,Nat.le_refl _,by simp[maxLen],by simp⟩;refine sL rfl u247 r (mv rfl (nt (c_block ?_)))
  refine loop2 (fun(j:Nat) (v:Value)=>[(38,(.int .i64 j)),(3,v),(1,.pointer (some ⟨K,0,none⟩)),(36,.slice (some ⟨j4,0,none⟩) 21 21),(37,.int .i64 ((21:Nat):Int))])
    (fun(j:Nat) (v:Value) w'=>(∃R,New1 tB8 w1 Q1 5 w' R v (o9 ++ nums (h.n.take j)))∧Blk w' j4 (ptrs K 67 1 21) 249∧j≤21) (fun(j:Nat) (_:Value)=>21-j) (x0:=0) (x1:=v) ?_ ?_ ?_
  · exact⟨rfl,rfl,rfl,rfl,rfl,tV⟩
  · exact⟨⟨_,by simpa [nums]using e⟩,G,by omega⟩
  clear F e G;rintro j v B Cu ⟨⟨R,F⟩,G,hj⟩;refine ns (st _ (r_ltN (a:=j) (b:=21) rfl rfl) (nt (c_seq ?_)));refine c_if rfl (fun Y=>?_) (fun Y=>?_)
  · have T:=dq Y
    refine c_skip (c_then (c_seq (c_block (ns (st _ ((r_indexN (i:=j) 1 rfl rfl u247 el249 r (by omega)).to (b:=.pointer (some ⟨j4,j,none⟩)) (by simp[elemp,Addr.add_mk])) (st _ (r_loadBlk (b:=j4) (j:=j) (u:=.pointer (some ⟨K,67+j*1,none⟩)) rfl one249 G (ptrs_get (by omega))) (asg rfl (nt ?_))))))));obtain⟨hg,A0,A9⟩:=head_num ok T;have lj:(nums (h.n.take j)).length≤168:=(by rw[nums_len,List.length_take];omega);refine c_region (mv rfl (mv rfl (sn rfl (st _ (r_loadBlk (b:=K) (j:=67+j*1) rfl one23 (A.md0 F.md) hg) (st_call fn169 rfl (leAdd_any (H.md F.md) (F.lsx H) 8 (by decide) (h.n.getD j 0) A0 (by simp only[List.length_append,l9];omega)) ?_)))));rintro en Cv ⟨Bo,Bi,B0,rfl,U,Af,Ba,N⟩;refine⟨_,rfl,?_⟩;have Ap:=F.call U Af Ba;rw[addF_8,List.append_assoc,← nums_take A9]at N;subst N;refine asg rfl (st_nil (n_block (c_then (c_region (st _ (r_addN (a:=j) (b:=1) 9223372036854775808 rfl rfl rfl (by omega)) (mv rfl (nt ?_)))))));exact next2 (x0:=j+1) (x1:=Bo) (by omega) ⟨rfl,rfl,rfl,rfl,rfl,tV⟩ ⟨⟨_,Ap⟩,G.md0 U,by omega⟩
  have T:=dF Y;obtain rfl:j=21:=by omega
  clear G;have N:h.n.take 21=h.n:=List.take_of_length_le (by rw[ok.2.2.2.2.2.2.2.1.1];omega);rw[N]at F;have Bf:(o9 ++ nums h.n).length=256:=(by rw[List.length_append,l9,nums_len,ok.2.2.2.2.2.2.2.1.1])
  generalize ho21:o9 ++ nums h.n=Bi at *;refine c_exit (x_then (x_then (x_hit (c_then (c_seq (c_mixT [(1,true),(2,true),(3,true),(5,true),(6,true),(7,true),(0,true),(4,false),(8,false)] [9] (fun w'=>Blk w' K (PHead.cells h) 105) mixed (by kernel_rfl) ?_))))));intro Cw O;have L:=F.md0 O;refine⟨A.md0 L.md,?_⟩;refine mz (fun w' D=>r_field rfl off105_28) (mz (fun w' D=>r_loadBlk rfl one103 D rfl) (mz (fun w' D=>r_convN (a:=h.tailArray) 18446744073709551616 rfl (by rw[u103];rfl) u23 rfl (by have:=ok.2.2.2.2.2.2.2.2.1;omega)) (mz (fun w' D=>r_field rfl off105_29) (mz (fun w' D=>r_loadBlk rfl one103 D rfl) (mz (fun w' D=>r_convN (a:=h.tailItems) 18446744073709551616 rfl (by rw[u103];rfl) u23 rfl (by have:=ok.2.2.2.2.2.2.2.2.2.1;omega)) (mo rfl ?_))))));refine m_e ?_ rfl;refine st_call fn169 rfl (leAdd_any (H.md L.md) (L.lsx H) 4 (by decide) h.tailArray (by have:=ok.2.2.2.2.2.2.2.2.1;omega) (by omega)) ?_;rintro en Cx ⟨Co,Bj,B3,rfl,Aa,Ag,Bb,V⟩;refine⟨_,rfl,?_⟩;have M:=L.call Aa Ag Bb;rw[addF_4]at V;have Bg:Bj.length=260:=(by rw[← V,List.length_append,Bf,low_len]);refine st_nil ⟨rfl,A.md0 M.md,?_⟩;refine m_e ?_ rfl;refine st_call fn169 rfl (leAdd_any (H.md M.md) (M.lsx H) 4 (by decide) h.tailItems (by have:=ok.2.2.2.2.2.2.2.2.2.1;omega) (by omega)) ?_;rintro en Cy ⟨Cp,Bk,B4,rfl,Ab,Ah,Bc,W⟩;refine⟨_,rfl,?_⟩;have I:=M.call Ab Ah Bc;rw[addF_4]at W;have Ci:Bk.length=264:=(by rw[← W,List.length_append,Bg,low_len]);refine st_nil ⟨rfl,A.md0 I.md,?_⟩;refine m_nil (asg rfl (nt (ns (mv rfl (sf rfl off105_30 (st _ (r_loadBlk rfl one23 (A.md0 I.md) rfl) (st_call fn169 rfl (leAdd_any (H.md I.md) (I.lsx H) 8 (by decide) h.tailEntry ok.2.2.2.2.2.2.2.2.2.2 (by omega)) ?_)))))));rintro en Cz ⟨Cq,Bl,Au,rfl,Ac,Ai,Bd,o⟩;refine⟨_,rfl,?_⟩;have J:=I.call Ac Ai Bd;rw[addF_8]at o;refine asg rfl (nt (c_ret ?_));refine ret1 trivial rfl rfl ⟨_,Bl,Au,rfl,M1.step0 J.md,⟨fun b E hl=>J.s b (s1 b E hl) (ly hl M1.size),fun b E=>t1 b (J.t b E),J.up⟩,J.ow.lower (Fsh.lift M1),?_⟩
  rw[← o,← W,← V,← ho21,← ho9,← ho8,← e6];unfold putH signF;simp only[List.append_assoc]
end Go.Proofs.YtfadcpfgenjbeaaGreat
