/- Part 5 of the walk of a law. No statement is proved here. -/
import Derived.Test.YtfadcpfgenjbeaaGreatNPP4
import Derived.Test.YtfadcpfgenjbeaaGreatRows
set_option maxRecDepth 100000
set_option linter.unusedVariables false
set_option linter.unusedSimpArgs false
namespace Go.Proofs.YtfadcpfgenjbeaaGreat
open Go Go.Shelf
def U0:Go.Shelf.Ren:=⟨fun|6=>107|15=>142|14=>157|28=>193|29=>194|20=>209|21=>210|22=>211|23=>212|24=>213|25=>214|26=>215|27=>216|46=>241|47=>233|48=>234|49=>242|50=>243|57=>253|n=>n,fun|22=>121|24=>181|25=>185|3=>3|39=>72|0=>0|53=>103|55=>23|4=>4|46=>268|45=>267|50=>273|5=>5|9=>9|66=>306|70=>309|76=>323|77=>65|n=>n,fun|n=>n⟩
theorem aiq:Go.Proofs.SlLaysF0.n6 Zp U0:={
  mixed:=(by kernel_rfl)
  f6:=⟨Tryz.f107.name,by decide,Tryz.func107.trans<|congrArg some (by kernel_rfl)⟩
  f14:=⟨Tryz.f157.name,by decide,Tryz.func157.trans<|congrArg some (by kernel_rfl)⟩
  f15:=Tryz.func142.trans (congrArg some (by kernel_rfl))
  f20:=⟨Tryz.f209.name,by decide,Tryz.func209.trans<|congrArg some (by kernel_rfl)⟩
  f21:=⟨Tryz.f210.name,by decide,Tryz.func210.trans<|congrArg some (by kernel_rfl)⟩
  f22:=⟨Tryz.f211.name,by decide,Tryz.func211.trans<|congrArg some (by kernel_rfl)⟩
  f23:=⟨Tryz.f212.name,by decide,Tryz.func212.trans<|congrArg some (by kernel_rfl)⟩
  f24:=⟨Tryz.f213.name,by decide,Tryz.func213.trans<|congrArg some (by kernel_rfl)⟩
  f25:=⟨Tryz.f214.name,by decide,Tryz.func214.trans<|congrArg some (by kernel_rfl)⟩
  f26:=⟨Tryz.f215.name,by decide,Tryz.func215.trans<|congrArg some (by kernel_rfl)⟩
  f27:=⟨Tryz.f216.name,by decide,Tryz.func216.trans<|congrArg some (by kernel_rfl)⟩
  f28:=Tryz.func193.trans (congrArg some (by kernel_rfl))
  f29:=Tryz.func194.trans (congrArg some (by kernel_rfl))
  f46:=⟨Tryz.f241.name,by decide,Tryz.func241.trans<|congrArg some (by kernel_rfl)⟩
  f47:=Tryz.func233.trans (congrArg some (by kernel_rfl))
  f48:=Tryz.func234.trans (congrArg some (by kernel_rfl))
  f49:=⟨Tryz.f242.name,by decide,Tryz.func242.trans<|congrArg some (by kernel_rfl)⟩
  f50:=⟨Tryz.f243.name,by decide,Tryz.func243.trans<|congrArg some (by kernel_rfl)⟩
  f57:=⟨Tryz.f253.name,by decide,Tryz.func253.trans<|congrArg some (by kernel_rfl)⟩
  t0:=Tryz.underlying0
  a0:=Tryz.isAgg0
  z0:=Tryz.sizeOf0
  v0:=Tryz.zeroValue0
  t3:=Tryz.underlying3
  a3:=Tryz.isAgg3
  z3:=Tryz.sizeOf3
  v3:=Tryz.zeroValue3
  t4:=Tryz.underlying4
  a4:=Tryz.isAgg4
  z4:=Tryz.sizeOf4
  v4:=Tryz.zeroValue4
  t5:=Tryz.underlying5
  a5:=Tryz.isAgg5
  z5:=Tryz.sizeOf5
  v5:=Tryz.zeroValue5
  t9:=Tryz.underlying9
  a9:=Tryz.isAgg9
  z9:=Tryz.sizeOf9
  v9:=Tryz.zeroValue9
  t22:=Tryz.underlying121
  a22:=Tryz.isAgg121
  z22:=Tryz.sizeOf121
  v22:=Tryz.zeroValue121
  t25:=Tryz.underlying185
  a25:=Tryz.isAgg185
  z25:=Tryz.sizeOf185
  v25:=Tryz.zeroValue185
  t39:=Tryz.underlying72
  a39:=Tryz.isAgg72
  z39:=Tryz.sizeOf72
  v39:=Tryz.zeroValue72
  t45:=Tryz.underlying267
  a45:=Tryz.isAgg267
  z45:=Tryz.sizeOf267
  v45:=Tryz.zeroValue267
  t46:=Tryz.underlying268
  a46:=Tryz.isAgg268
  z46:=Tryz.sizeOf268
  v46:=Tryz.zeroValue268
  t50:=Tryz.underlying273
  a50:=Tryz.isAgg273
  z50:=Tryz.sizeOf273
  v50:=Tryz.zeroValue273
  t53:=Tryz.underlying103
  a53:=Tryz.isAgg103
  z53:=Tryz.sizeOf103
  v53:=Tryz.zeroValue103
  t55:=Tryz.underlying23
  a55:=Tryz.isAgg23
  z55:=Tryz.sizeOf23
  v55:=Tryz.zeroValue23
  t66:=Tryz.underlying306
  a66:=Tryz.isAgg306
  z66:=Tryz.sizeOf306
  v66:=Tryz.zeroValue306
  t70:=Tryz.underlying309
  a70:=Tryz.isAgg309
  z70:=Tryz.sizeOf309
  v70:=Tryz.zeroValue309
  t76:=Tryz.underlying323
  a76:=Tryz.isAgg323
  z76:=Tryz.sizeOf323
  v76:=Tryz.zeroValue323
  t77:=Tryz.underlying65
  a77:=Tryz.isAgg65
  z77:=Tryz.sizeOf65
  v77:=Tryz.zeroValue65}
end Go.Proofs.YtfadcpfgenjbeaaGreat
namespace Go.Wk
open Go Go.RowKit Go.Sort Go.Proofs
def RwI (e:TypeId) (w:World) (b cap:Nat) (xs:List eG):Prop :=
  ∃cur,bK w b cur e/\cur.length=cap*2/\xs.length<=cap/\cur.take (xs.length*2)=xs.flatMap eG.cells
theorem YP (xs:List eG):(xs.flatMap eG.cells).length=xs.length*2:=by
  induction xs with
  | nil=>rfl
  | cons x r ih=>simp[List.flatMap_cons,ih,eG.cells];omega
theorem YO {xs:List eG} {i j:Nat} {x:eG} {u:Value} (h:xs[i]? = some x) (k:(eG.cells x)[j]? = some u):(xs.flatMap eG.cells)[i*2+j]? = some u:=by
  induction xs generalizing i with
  | nil=>simp at h
  | cons y r ih =>
    cases i with
    | zero =>
      simp at h;subst h;rw[List.flatMap_cons,Nat.zero_mul,Nat.zero_add,List.getElem?_append_left (List.getElem?_eq_some_iff.1 k).1];exact k
    | succ i =>
      rw[List.flatMap_cons,show(i+1)*2+j=2+(i*2+j)by omega,List.getElem?_append_right (by simp[eG.cells])];have:=ih (i:=i) (by simpa using h);simpa [eG.cells]using this
section
variable {w w':World} {b cap:Nat} {xs:List eG} {e:TypeId}
theorem Ow.rwI {lo:Nat->Prop} {Q:Nat->Prop} {v:Value} (h:Ow rM e lo w Q v xs) (l:0<xs.length):∃b cap,v = .slice (some ⟨b,0,none⟩) xs.length cap/\cap<=maxLen/\RwI e w b cap xs/\lo b/\¬Q b/\∀x∈xs,eG.ok x:=by
  obtain⟨⟨d,f,G⟩,C⟩:=h;obtain⟨b,cap,m,rfl,k,H,g,i,j⟩:=f.blk l;have a:d=xs.flatMap eG.cells/\∀x∈xs,eG.ok x:=by
    clear f C k H g i j l
    induction xs generalizing d with
    | nil=>exact⟨G,fun _ h=>by simp at h⟩
    | cons x r ih =>
      obtain⟨c,s,rfl,t,P⟩:=G;obtain⟨_,rfl,ok⟩:=xS t;obtain⟨o,p⟩:=ih _ P;exact⟨by rw[List.flatMap_cons,o],fun y D=>by rcases List.mem_cons.1 D with rfl|D;exact ok;exact p y D⟩
  refine⟨b,cap,q,g,⟨m,k,i,H,?_⟩,(C b q).1,(C b q).2,a.2⟩;rw[show xs.length*2=xs.length*rM.n from rfl,j];exact a.1
theorem afa {Q:Nat->Prop} (xs:List eG) (h:∀x∈xs,eG.ok x):qi rM w Q (xs.flatMap eG.cells) xs:=by
  induction xs with
  | nil=>rfl
  | cons x r ih=>exact⟨_,_,by rw[List.flatMap_cons],MF<|h x Oj,ih fun y A=>h y (by simp[A])⟩
theorem RwI.ow {lo:Nat->Prop} {Q:Nat->Prop} (h:RwI e w b cap xs) (f:cap<=maxLen) (hl:lo b) (g:¬Q b) (ok:∀x∈xs,eG.ok x):Ow rM e lo w Q (.slice (some ⟨b,0,none⟩) xs.length cap) xs:=by obtain⟨i,C,D,c,d⟩:=h;refine⟨⟨xs.flatMap eG.cells,?_,afa xs ok⟩,fun G a=>by simp[ah]at a;subst a;exact⟨hl,g⟩⟩;have:=Own.cL (sz:=2) (m:=xs.length) C c f D;rw[d]at this;exact this
end
abbrev RIt (hf:Nat->Nat):={x:eG // x.pos<18446744073709551616/\x.bZ=hf x.pos%18446744073709551616}
instance (hf:Nat->Nat):Inhabited (RIt hf):=⟨⟨{pos:=0,bZ:=hf 0%18446744073709551616},by show 0<_;omega,rfl⟩⟩
section
variable {hf:Nat->Nat}
def qu (x:RIt hf):List Value:=eG.cells x.1
theorem ab2 (x:RIt hf):∀v∈qu x,v.oneCell'=true:=by intro v A;simp[qu,eG.cells]at A;rcases A with rfl|rfl <;> rfl
def RO (a b:Nat):Int:=if a<b then -1 else if b<a then 1 else 0
def cfI (x y:RIt hf):Int:=RO x.1.pos y.1.pos
theorem ltI (x y:RIt hf):ltOf cfI x y=decide (x.1.pos<y.1.pos):=by
  unfold ltOf cfI RO
  by_cases h:x.1.pos<y.1.pos
  · rw[if_pos h];simp[h]
  rw[if_neg h];simp only[h,decide_false];split <;> rfl
theorem al3:SWO (ltOf<|cfI (hf:=hf)) where
  irrefl x:=by rw[ltI];simp
  trans x y z h1 h2:=by rw[ltI]at *;simp only[decide_eq_true_eq]at *;omega
  ntrans x y z h1 h2:=by rw[ltI]at *;simp only[decide_eq_false_iff_not]at *;omega
theorem al6 (x y:RIt hf) (h1:ltOf cfI x y=false) (c:ltOf cfI y x=false):x=y:=by
  rw[ltI]at h1 c;simp only[decide_eq_false_iff_not]at h1 c;have a:x.1.pos=y.1.pos:=by omega
  refine Subtype.ext ?_;have b:=x.2.2;have C:=y.2.2;cases hx:x.1;cases hy:y.1;rw[hx]at b a;rw[hy]at C a;simp only at b C a;rw[b,C,a]
end
theorem aau {hf:Nat->Nat} (l:List (RIt hf)):(l.mergeSort fun x y=>!(ltOf cfI) y x).map Subtype.val=kK (l.map Subtype.val):=by unfold kK;exact List.map_mergeSort fun a _ b _=>by rw[ltI];rfl
theorem OA {hf:Nat->Nat}:∀(l:List eG),(∀x∈l,x.pos<18446744073709551616/\x.bZ=hf x.pos%18446744073709551616)->∃c:List (RIt hf),c.map Subtype.val=l
  | [],_=>⟨[],rfl⟩
  | p :: r,h=>by obtain⟨d,b⟩:=OA r fun q a=>h q (by simp[a]);exact⟨⟨p,h p Oj⟩ :: d,by simp[b]⟩
section
variable {hf:Nat->Nat}
theorem vk (d:List (RIt hf)):(flatK qu 2 d.toArray).toList=(d.map Subtype.val).flatMap eG.cells:=by
  apply List.ext_getElem?;intro t;have F:(flatK qu 2 d.toArray).size=d.length*2:=by simp
  have G:((d.map Subtype.val).flatMap eG.cells).length=d.length*2:=by rw[YP];simp
  by_cases ht:t<d.length*2
  · have A:=get_flatK qu 2 d.toArray t (by simpa using ht)
    have C:t/2<d.length:=(by omega);have D:d.toArray[t/2]! = d[t/2]:=(by rw[getElem!_pos d.toArray (t/2) (by simpa using C)];simp);rw[D]at A;have E:(qu d[t/2])[t%2]! = ((qu d[t/2])[t%2]'(by have:(qu d[t/2]).length=2:=rfl;omega)):=getElem!_pos (qu d[t/2]) (t%2) _;rw[E]at A;have B:=YO (xs:=d.map Subtype.val) (i:=t/2) (j:=t%2) (x:=d[t/2].1) (u:=(qu d[t/2])[t%2]'(by have:(qu d[t/2]).length=2:=rfl;omega)) (by simp[C]) (by rw[List.getElem?_eq_getElem (by have:(eG.cells d[t/2].1).length=2:=rfl;omega)];rfl);rw[show t/2*2+t%2=t by omega]at B;rw[B,Array.getElem?_toList,<- A,getElem!_pos _ t (by simpa using ht)];exact Array.getElem?_eq_getElem _
  rw[List.getElem?_eq_none (by simpa using Nat.le_of_not_lt ht),List.getElem?_eq_none Xx]
theorem RwI.holds {e:TypeId} {w:World} {b cap:Nat} {d:List (RIt hf)} (h:RwI e w b cap (d.map Subtype.val)):HoldsK qu 2 w b 0 d.toArray:=by
  obtain⟨c,f,j,G,C⟩:=h;intro a i;have g:a<d.length*2:=by simpa using i
  rw[Nat.zero_add,f.cell,f.frozen];refine⟨?_,q⟩;have D:(c.take<|(d.map Subtype.val).length*2)[a]? = c[a]?:=by rw[List.getElem?_take,if_pos (by simpa using g)]
  rw[<- D,C,<- vk,Array.getElem?_toList,getElem!_pos _ a (by simpa using g)];exact Array.getElem?_eq_getElem _
theorem RwI.sorted {e:TypeId} {w:World} {b cap n:Nat} {d d':List (RIt hf)} {os:Array Obj} (h:RwI e w b cap (d.map Subtype.val)) (hl:d'.length=d.length) :
    Md [b] w (sortWorldK qu 2 w b 0 n d'.toArray os)/\RwI e (sortWorldK qu 2 w b 0 n d'.toArray os) b cap (d'.map Subtype.val):=by
  obtain⟨A,D,F,E,I⟩:=h;have G:=D.lt;have C:(sortWorldK qu 2 w b 0 n d'.toArray os).heap[b]? = some (.cells (putCells id 0 (flatK qu 2 d'.toArray) A.toArray) e (0,0)):=by unfold sortWorldK grow putRowK putRow mapBlock;simp only[Sort.ahead];rw[Array.getElem?_append_left (by simpa using G),Array.getElem?_modify,if_pos q];have:w.heap[b]? = some (.cells A.toArray e (0,0)):=D;rw[this];rfl
  refine⟨⟨q,q,q,?_,?_⟩,(putCells id 0 (flatK qu 2 d'.toArray) A.toArray).toList,by unfold bK;rw[C],?_,?_,?_⟩
  · simp[sortWorldK,grow,putRowK,putRow,mapBlock,Sort.ahead]
  · intro k hk B
    simp only[List.mem_singleton]at B;unfold sortWorldK grow putRowK putRow mapBlock;simp only[Sort.ahead];rw[Array.getElem?_append_left (by simpa using hk),Array.getElem?_modify,if_neg (fun h=>B h.symm)]
  · simp[putCells,F]
  · simp at E ⊢;omega
  rw[<- vk];have B:(flatK qu 2 d'.toArray).size=d'.length*2:=by simp
  apply List.ext_getElem?;intro t;simp only[List.length_map]at E ⊢
  by_cases ht:t<d'.length*2
  · rw[List.getElem?_take,if_pos ht,Array.getElem?_toList,Array.getElem?_toList]
    unfold putCells;rw[Array.getElem?_mapIdx];have H:t<A.length:=(by omega);simp only[List.getElem?_toArray,List.getElem?_eq_getElem H,Option.map_some,Nat.zero_le,true_and,Nat.zero_add,B,ht,if_true,Nat.sub_zero,id];rw[getElem!_pos _ t (by simpa using ht)];exact(Array.getElem?_eq_getElem _).symm
  rw[List.getElem?_eq_none Xh,List.getElem?_eq_none Xh]
end
end Go.Wk
namespace Go.Proofs.YtfadcpfgenjbeaaGreat
open Go Go.Wk Go.RowKit
set_option linter.unusedVariables false
set_option linter.unusedSimpArgs false
attribute [local irreducible] wpList wpQuiet wpStill eF Code.wp Calls bodyPost
variable {w:World} {Q:Nat->Prop}
theorem aiY:cO Zp 109=true:=Xj
theorem agG:cO Zp 158=true:=Xj
theorem OT (a:Nat) (w:World):Calls Zp 158 #[.int .u64 a] w fun c d=>c = .returned (.bool false)/\w=d:=by refine enter (n:=6) Tryz.func158 q q q fun e=>ns<|an q<|ns<|m2 q q<|su (fU (a:=a) (b:=a) q q)<|ar q ?_;exact gh trivial q q ⟨mS Oj,q⟩
theorem abj (a b:Nat) (w:World):Calls Zp 109 #[.int .u64 a,.int .u64 b] w fun e f=>e = .returned (iZ<|RO a b)/\w=f:=by
 refine enter (n:=20) Tryz.func109 q q q fun g=>ns<|an q<|nM q<|Rz agG q (OT a _) ?_;rintro e _ ⟨rfl,rfl⟩;refine an q<|nM q<|Rz agG q (OT b _) ?_;rintro e _ ⟨rfl,rfl⟩;refine an q<|aH<|nM q<|nt<|gV q q<|aM<|aA<|aH<|ns<|mv q<|nt<|gV q q ?_;refine aM<|aA<|aH<|ns<|m2 q q<|su (fJ (a:=a) (b:=b) q q)<|nt ?_;refine cJ q (fun D=>?_)<|fun D=>?_
 ·have c:=dq D;refine ns<|ar q<|aS ?_;exact gh trivial q q ⟨sB (by unfold RO;rw[if_pos c]),q⟩
 have c:=dF D;refine aM<|aA<|aH<|ns<|m2 q q<|su (jQ (a:=a) (b:=b) q q)<|nt ?_;refine cJ q (fun d=>?_)<|fun d=>?_
 ·have C:=dq d;refine ns<|ar q<|aS ?_;exact gh trivial q q ⟨sB (by unfold RO;rw[if_neg c,if_pos C]),q⟩
 have C:=dF d;refine aM<|aA<|ns<|ar q ?_;exact gh trivial q q ⟨sB (by unfold RO;rw[if_neg c,if_neg C]),q⟩
theorem ahy (x y:eG) (w:World):Calls Zp 108 #[.agg x.cells.toArray,.agg y.cells.toArray] w fun c d=>c = .returned (iZ<|RO x.pos y.pos)/\Gr w d:=by have a:=Gr.refl w;refine enter (n:=10) Tryz.func108 q q q fun e=>ns<|xQ (cs:=x.cells) q q ?_;intro f j G h b C;have a:=a.k b;refine xQ (cs:=y.cells) q q ?_;intro g l H i b D;have C:=C.o b.md;have a:=a.k b;refine an q<|ns<|sf q jm<|su (aD q aV C q)<|sf q jm<|su (aD q aV D q)<|Rz aiY q (abj _ _ _) ?_;rintro c _ ⟨rfl,rfl⟩;refine ar q ?_;exact gh trivial q q ⟨q,a⟩
theorem aas {w:World} {Q lo:Nat->Prop} {v:Value} {xs:List eG} (u:Ow rM 181 lo w Q v xs) (h1:1<=xs.length) (h:(xs.map eG.pos).Nodup) (hl:xs.length<=1000000) :
  Calls Zp 107 #[v,.func (.func 108) #[] #[]] w fun t c=>t = .returned (.tuple #[])/\Md (ah v).toList w c/\Ow rM 181 lo c Q v (kK xs):=by
 obtain⟨b,i,rfl,o,G,H,l,e⟩:=u.rwI h1;obtain⟨hf,R⟩:∃hf:Nat->Nat,∀x∈xs,x.pos<18446744073709551616/\x.bZ=hf x.pos%18446744073709551616:=⟨SG xs,fun x a=>⟨(e x a).1,by rw[HM xs h x a];exact(Nat.mod_eq_of_lt (e x a).2).symm⟩⟩;obtain⟨d,rfl⟩:=OA xs R;have j:∀args w,(callFunc 108 args).run Zp w = .ok (.enter 108 args) w:=Go.Proofs.enters_of Tryz.func108 Xj q;have C:CmpLays Zp 108 #[] (qu (hf:=hf)) 2 (cfI (hf:=hf)) b 0 d.toArray.size w:=by intro m os T z x y;refine(ahy x.1 y.1 _).mono ?_;rintro s c ⟨p,P⟩;exact⟨p,P.grown⟩
 have f:=AnyQ.slices_SortFunc_total aiq 2 Tryz.isAgg181 Tryz.sizeOf181 (qu (hf:=hf)) (fun _=>rfl) ab2 (cfI (hf:=hf)) al3 108 #[] b 0 i d.toArray w j C G.holds (by obtain⟨_,k,_⟩:=G;exact k.lt) (by simp at hl ⊢;omega) al6;simp only[List.size_toArray,List.length_map]at f hl ⊢;refine f.mono ?_;rintro s c ⟨rfl,n,os,rfl⟩;obtain⟨r,g⟩:=G.sorted (n:=n) (os:=os) (d':=d.mergeSort fun x y=>!(ltOf cfI) y x) Oj;refine⟨q,by simpa [ah]using r,?_⟩;rw[aau]at g;have D:(kK<|d.map Subtype.val).length=d.length:=(by simp[kK]);have:=g.ow (lo:=lo) (Q:=Q) o H l fun x a=>e x<|(wi _).subset a;rw[D]at this;exact this
theorem ahm:gH Zp 123 21=true:=Xj
theorem abz:vF Zp 181 2 16=true:=Xj
theorem aiV:cO Zp 105=true:=Xj
theorem aiW:cO Zp 106=true:=Xj
theorem aiX:cO Zp 107=true:=Xj
theorem aja:cO Zp 110=true:=Xj
theorem ajb:cO Zp 111=true:=Xj
theorem ajc:cO Zp 112=true:=Xj
set_option maxHeartbeats 16000000 in
theorem RS (B:Up w Q) {F:Nat} {ay:Value} (m:bw) (s:bK w F (bw.cells m ay) 107) (n0:¬Q F) (ed:bw.ok m) (bn:Ow dh 5 (fun _=>True) w Q ay m.b) {bJ:Value} {l:List Pr} (h1:Ls mq w Q bJ l) {cx:Value} (e:lu) (ee:lu.ok e) (ef:Ls rM w Q cx e.bg) (eo:cx = .slice none 0 0) (dj:e.bg=[]) (p2:m.IJ l e) (p3:1<=l.length/\l.length<=1000) (p4:∀cw∈l,(ez cw).1.length<=1000) :
  Calls Zp 57 #[.pointer (some ⟨F,0,none⟩),bJ,.agg (lu.cells e cx).toArray] w fun bj M=>∃b6:bw,∃dk:Value,∃bi:Nat->Prop,bj = .returned (.tuple #[])/\Md (F :: (ah ay).toList) w M/\iQ w M Q bi/\bK M F (bw.cells b6 dk) 107/\¬bi F/\bw.ok b6/\Ow dh 5 (aX (F :: (ah ay).toList) w) M bi dk b6.b/\m.entry l e=b6:=by
 have gn:=h1.eJ;subst eo;obtain⟨es,bZ,em,bY,ex,eg⟩:=e;have Fd:eg=[]:=dj;subst Fd;obtain⟨en,cv,df,dg,bC⟩:=p2;have G:=n0;have ar:aX (F :: (ah ay).toList) w F:=.inl Oj;have bn:=bn.cT (lo':=aX (F :: (ah ay).toList) w)<|fun b N=>.inl (by simp[N]);have A:=Md.refl (F :: (ah ay).toList) w;have d3:=B;have ai:∀b,Q b->Q b:=fun _ h=>h;have ag:∀b,Q b->b<w.heap.size->Q b:=fun _ h _=>h;refine enter (n:=96) Tryz.func57 q q q fun dl=>ns<|e7 (cs:=(lu.cells (({seq:=es,aY:=bZ,mono:=em,aR:=bY,xor:=ex,bg:=[]}:lu)) SN)) q q ?_;intro aL gt bM dZ j H;have ev:F≠aL:=(by have:=s.lt;omega);obtain⟨ec,U,S,v,ao⟩:=oI B bM dZ j;have G:=nQ G S;have ai:=tT ai S;have ag:=Sx U ag A.size;have bM:=lv A.size bM;have bn:=(bn.sub U S).o j;have s:=s.o j;have h1:=(h1.sub U).o j;have A:=A.k j;have B:=ao;have C3:aX [] w aL:=.inr bM;refine nt<|nM q<|Rz aiV q (aa8 B h1 Xx) ?_;rintro bj gu ⟨cf,c2,rfl,j,Y,bv⟩;obtain⟨bn,s,h1,H,B,A⟩:=k6 j bn s h1 H B A;have la:=congrArg List.length bv;rw[List.length_map]at la;refine an q<|aH<|nM q<|sL q nW h1.eA<|mv q<|nt<|bf ?_;obtain⟨ep,ce⟩:∃r,bw.jg l m []=r:=⟨_,q⟩;have dQ:=ce
 try simp only[List.nil_append,bv]at ce
 refine agP (fun(z:bw) (ap:Value) (Z:lu) (aw:Value) (i:Nat)=>[(14,(iZ i)),(0,(.pointer<|some ⟨F,0,none⟩)),(5,(.pointer<|some ⟨aL,0,none⟩)),(6,cf),(12,bJ),(13,(iZ l.length))]) (fun z ap Z aw i M=>LQ Q w (F :: (ah ay).toList) M fun bi=>bK M F (bw.cells z ap) 107/\Ow dh 5 (aX (F :: (ah ay).toList) w) M bi ap z.b/\bw.ok z/\bK M aL (lu.cells Z aw) 123/\Ow rM 181 (aX [] w) M bi aw Z.bg/\lu.ok Z/\Ls (FI dh) M bi cf c2/\Ls mq M bi bJ l/\¬bi F/\¬bi aL/\bw.yS (l.drop i) z/\(Z.seq=es/\Z.aY=bZ/\Z.mono=em/\Z.aR=bY)/\Z.bg.length=i/\i<=l.length/\bw.jg (l.drop i) z Z.bg=ep) (fun z ap Z aw i=>l.length-i) m ay (({seq:=es,aY:=bZ,mono:=em,aR:=bY,xor:=ex,bg:=[]}:lu)) SN 0 ?_ ?_ ?_
 ·exact Fz
 ·exact⟨ec,ai,ag,B,A,s,bn,ed,H,(by exact Ow.nil _ _ _ _ _),ee,Y,h1,G,v,en,⟨q,q,q,q⟩,q,Xx,(by have aa:=ce;exact aa)⟩
 clear A B ai ag G v bn s h1 H Y;rintro z ap Z aw i dl gv ⟨da,ai,ag,B,A,s,L,c1,H,C,bs,Y,h1,G,v,cY,c0,eI,eK,c4⟩;refine ns<|su (fJ (a:=i) (b:=l.length) q q)<|nt<|aH ?_;refine cJ q (fun cp=>?_)<|fun cp=>?_
 ·have dM:=dq cp;refine aM<|aA<|aH<|bf<|nM q<|su (bQ (i:=i) 2 q q nW ou h1.eA Xx) ?_;obtain⟨bo,bx⟩:=gF (l:=l) (i:=i) Xx;obtain⟨go,dX,bW⟩:=h1.get bx;obtain⟨_,rfl⟩:=kP dX;have bW:At _ bJ (i*2) (Pr.cells bo):=bW;refine su (fI (kk:=i*2) (Pr.cells bo) 0 q q (by exact iA) bW q)<|dP z91 ?_;intro bF gw bO d0 j aN;have ew:F≠bF:=(by have:=s.lt;omega);have eq:aL≠bF:=(by have:=H.lt;omega);obtain⟨cr,U,S,dH,ao⟩:=oI B bO d0 j;have G:=nQ G S;have v:=nQ v S;have ai:=tT ai S;have ag:=Sx U ag A.size;have bO:=lv A.size bO;have L:=(L.sub U S).o j;have s:=s.o j;have C:=(C.sub U S).o j;have H:=H.o j;have Y:=(Y.sub U).o j;have h1:=(h1.sub U).o j;have A:=A.k j;have B:=ao;have dv:aX [] w bF:=.inr bO;have aN:bK _ _ (Pr.cells<|({name:=[],value:=[]}:Pr)) _:=aN;refine cV q<|cA (us:=(Pr.cells bo)) q q (by exact iA) (by exact fun u eh=>dB (Pr.one) u eh) aN (lq q) ?_;have cc:=aN;intro d4 j aN;have W:∀b∈[bF],¬cr b:=hI dH;have L:=L.md j (aB cc L) W;have s:=s.md j Zq;have C:=C.md j (aB cc C) W;have H:=H.md j Zq;have Y:=Y.md j W;have h1:=h1.md j W;have B:=B.md j;have A:=A.step j<|hI<|aX.wid dv;have aN:bK _ _ (Pr.cells bo) _:=aN;refine aG ?_
  refine aA ?_;have ca:=L;have V:=H;have cb:=Y;have b8:=aN;have bP:∀b∈(F :: (ah ap).toList),¬cr b:=bX G<|rN L;refine iy [(0,true),(1,true),(2,true),(3,true),(4,true),(5,true),(6,true),(7,true),(8,false),(9,false)] [10,11,12] (fun M=>Md (F :: (ah ap).toList) d4 M) mixed Xj ?_;intro ga aq;refine⟨aq.mono Oj,?_⟩;have I:=aq.mono (T:=(F :: (ah ap).toList)) Oj;refine my (aF q tj)<|mz (fun M X=>(aD q EP (V.md X (by exact bH Xx<|aW ca V)) q).to (b:=aw) q)<|mo q<|mz (fun M X=>bU (Pr.cells bo) q (by exact iA) (b8.md X (by exact bH Xx<|aW ca b8)) q)<|mo q<|mo q<|my (bQ (i:=i) 1 q q MJ ah1 Y.eA Xx) ?_;obtain⟨c9,bV⟩:=gF (l:=c2) (i:=i) Xx;obtain⟨f4,dR,bT⟩:=cb.get bV;obtain⟨c5,rfl,cd⟩:=dR;have bT:At _ cf (i*1) [c5]:=bT;refine mz (fun M X=>(dS (kk:=i*1) 0 q q eH (bT.md X<|cb.AF bV bP) q).to (b:=c5) q) ?_;have b2:(ez bo).1=c9:=(by have bI:=bV;rw[<- bv,List.getElem?_map,bx]at bI;exact Option.some.inj bI);obtain⟨⟨b3,dc,dd,b4,de,b5⟩,bA⟩:=zJ bx cY;rw[b2]at b3 b4 b5 bA;obtain⟨L,s,C,H,Y,h1,aN,cd⟩:=k8 aq L s C H Y h1 aN cd;obtain⟨B,A⟩:=k2 aq B A;refine jc ?_ rfl;have b2:(ez bo).1=c9:=(by have bI:=bV;rw[<- bv,List.getElem?_map,bx]at bI;exact Option.some.inj bI);obtain⟨⟨b3,dc,dd,b4,de,b5⟩,bA⟩:=zJ bx cY;rw[b2]at b3 b4 b5 bA;refine Rz aiW q (Y1 B z s G c1 (L.cT<|fun _ _=>trivial) bo cd (by exact b3) (by exact dc) (by exact dd) (by exact b4) (by exact de) (by exact b5)) ?_;rintro bj gb ⟨bD,dD,dt,dI,rfl,j,⟨U,S,ao⟩,dn,cH,cO,dp,av,cX⟩;have a9:∀i∈(F :: (ah ap).toList),aX (F :: (ah ay).toList) w i:=bX ar<|rF L;have W:∀i∈(F :: (ah ap).toList),¬cr i:=bX G<|rN L;have cB:∀b,ah aw=some b->b∉(F :: (ah ap).toList):=fun b N=>bH (C.fV s Xz b N)<|(aO L C) b N;have bm:aL∉(F :: (ah ap).toList):=bH Xx<|aW L H;have dy:bF∉(F :: (ah ap).toList):=bH Xx<|aW L aN;have av:=av.cT<|Sy av;have av:=av.cT<|Sz av a9<|aX.new A;have v:=nQ v S;have ai:=tT ai S;have ag:=Sx U ag A.size;have W:=fun i hi bq=>W i hi<|S i bq;have C:=(C.sub U S).md j cB W;have H:=H.md j bm;have Y:=(Y.sub U).md j W;have h1:=(h1.sub U).md j W;have A:=A.step j a9;have I:=I.step j<|fun i hi=>Or.inl (by simpa using hi);have B:=ao;have s:=cH;have G:=cO;rw[cX]at bA;simp only at bA;refine aG ⟨q,I,?_⟩;refine jc ?_ rfl;refine bh [(eG.cells bD)] aa3 abz Xz Xz q q ⟨q,tV⟩ ⟨q,tV⟩ q Xz ?_;intro eF gc dL fj j ci;have dW:=B _ dL;obtain⟨s,C,H,Y,h1,av,B,A⟩:=k8 j s C H Y h1 av B A;have I:=I.k j;have ci:=Ls.cL (m:=1) (R:=dI) (T:=rM) (xs:=[bD]) ci ⟨_,_,q,(MF dn),q⟩ q Xz dW;refine aG ⟨q,I,?_⟩;refine di ?_;refine fO (sz:=2) (by rfl) aa3 abz q q C ci (fun _ h _=>h) B (aX.new A) Xm Xm ?_;intro c6 gd cU U S ao bu j W _ dY;have be:=C;have G:=nQ G S;have v:=nQ v S;have ai:=tT ai S;have ag:=Sx U ag A.size;have s:=s.md j<|aW be s;have H:=H.md j<|aW be H;have Y:=(Y.sub U).md j W;have h1:=(h1.sub U).md j W;have av:=(av.sub U S).md j (aO be av) W;have B:=B.md j;have A:=A.cE j<|fun b N=>aX.wid (be.2 b N).1;have B:=ao;clear ao U S W dY;refine sf q tj<|aQ q q EP bu.cZ H (lq q) ?_;have bp:=H;intro ge j H;have W:∀b∈[aL],¬cU b:=hI v;have s:=s.md j Zq;have Y:=Y.md j W;have h1:=h1.md j W;have av:=av.md j (aB bp av) W;have bu:=bu.md j (aB bp bu) W;have B:=B.md j;have A:=A.step j<|hI<|aX.wid C3;obtain⟨cj,bt⟩:∃y,y=({Z with bg:=Z.bg ++ ([bD])}:lu):=⟨_,q⟩;have H:bK _ _ (lu.cells ({Z with bg:=Z.bg ++ ([bD])}) c6) _:=H;rw[<- bt]at H;have D0:lu.ok cj:=(by rw[bt];exact⟨bs.1,bs.2.1,bs.2.2.1,bs.2.2.2.1,bs.2.2.2.2⟩);rw[show Z.bg ++ ([bD])=cj.bg by rw[bt]]at bu;refine aG ?_;clear bT;refine bG<|aA<|aI<|su (rA (a:=i) (b:=1) q q Xx)<|mv q<|nt ?_;refine agS dD dt cj c6 (i+1) Xx ⟨(cW q Xx),q,q,q,q,q,tV⟩ ⟨cU,ai,ag,B,A,s,av,dp,H,bu,D0,Y,h1,G,v,bA,(by rw[bt];exact c0),(by rw[bt];simp only[List.length_append,List.length_cons,List.length_nil];omega),Xx,(by have aa:=c4;rw[RU bx b2 cX]at aa;rw[bt];exact aa)⟩
 have dM:=dF cp;refine cM<|bB<|bB<|dJ<|aA<|aH ?_;have ct:bw.jg l m []=(Z.bg,z):=(by have db:=c4;rw[YA Xx]at db;exact dQ.trans db.symm);rw[ct]at cv df dg bC;simp only at cv df dg bC;obtain⟨ck,cl,cm,cn⟩:=c0;refine aI<|sf q tj<|sl (u:=aw) q EP H q ?_;have W:∀b∈(ah aw).toList,¬da b:=fun b N=>(C.2 b (by simpa using N)).2;refine Rz aiX q (aas C Xx cv Xx) ?_;rintro bj d5 ⟨rfl,j,cC⟩;have be:=C;have C:=cC;have L:=L.md j (aO be L) W;have s:=s.md j<|aW be s;have H:=H.md j<|aW be H;have Y:=Y.md j W;have B:=B.md j;have A:=A.cE j<|fun b N=>aX.wid (be.2 b N).1;obtain⟨bz,bk⟩:∃y,y=({Z with bg:=kK Z.bg}:lu):=⟨_,q⟩;have H:bK d5 aL (lu.cells bz aw) 123:=(by rw[bk];exact H);rw[show kK Z.bg=bz.bg by rw[bk]]at C;have bL:lu.ok bz:=(by rw[bk];exact bs);refine nt<|nM q<|Rz aja q (abt B Y (by intro x al;rw[<- bv]at al;obtain⟨cw,bq,rfl⟩:=List.mem_map.1 al;have:=p4 cw bq;omega)) ?_;rintro bj gf ⟨cD,rfl,j,Fm,dN⟩;obtain⟨L,s,H,C,B,A⟩:=k6 j L s H C B A;refine sf q PF<|aQ q q aV q H (lq q) ?_;have bp:=H;intro d6 j H;have W:∀b∈[aL],¬da b:=hI v;have L:=L.md j (aB bp L) W;have s:=s.md j Zq
 have C:=C.md j (aB bp C) W;have B:=B.md j;have A:=A.step j<|hI<|aX.wid C3;obtain⟨J,bl⟩:∃y,y=({bz with xor:=cD}:lu):=⟨_,q⟩;have H:bK _ _ (lu.cells ({bz with xor:=cD}) aw) _:=H;rw[<- bl]at H;have az:lu.ok J:=(by rw[bl];exact⟨bL.1,bL.2.1,bL.2.2.1,bL.2.2.2.1,Xx⟩);rw[show bz.bg=J.bg by rw[bl]]at C;refine nt<|nM q<|su (bU (lu.cells J aw) q (by exact ahm) H q) ?_;have co:J=bw.zC ({seq:=es,aY:=bZ,mono:=em,aR:=bY,xor:=ex,bg:=[]}:lu) l Z.bg:=(by rw[bl,bk];unfold bw.zC;simp only;rw[bv,dN,<- ck,<- cl,<- cm,<- cn]);have b7:J.bg=kK Z.bg:=(by rw[bl,bk]);have ej:=congrArg List.length b7;rw[aat]at ej;obtain⟨c3,b0,b1,Bk⟩:=C.freeze;have L:=L.jd b0 b1<|aO C L;have G:=fun aa=>(b1 _ aa).elim G<|OU<|aW C s;have ai:=fun b N=>(b1 b N).elim (ai b)<|fun ei=>aX.up d3 b (C.2 b ei).1;have ag:=fun b N hl=>b0 b<|ag b N hl;have B:Up d6 c3:=fun b N=>b0 b<|B b N;have C:=Bk;refine Rz ajb q (abr B J az C Xx) ?_;rintro bj gg ⟨ey,dw,rfl,j,dA,bR⟩;obtain⟨L,s,C,H,B,A⟩:=k6 j L s C H B A;have d1:=congrArg List.length bR;rw[iB _ az.2.2.2.1]at d1;refine Rz YS q (qp B z s G c1 (L.cT<|fun _ _=>trivial) dA Xx Xx Xx) ?_;rintro bj qR ⟨bE,dE,b9,dK,rfl,j,⟨U,S,ao⟩,Fn,cI,cP,dr,a8,bS⟩;have a9:∀i∈(F :: (ah ap).toList),aX (F :: (ah ay).toList) w i:=bX ar<|rF L;have W:∀i∈(F :: (ah ap).toList),¬c3 i:=bX G<|rN L;have bm:aL∉(F :: (ah ap).toList):=bH Xx<|aW L H;have a8:=a8.cT<|Sy a8;have a8:=a8.cT<|Sz a8 a9<|aX.new A;have ai:=tT ai S;have ag:=Sx U ag A.size;have W:=fun i hi bq=>W i hi<|S i bq;have C:=(C.sub U).md j W;have H:=H.md j bm;have A:=A.step j a9;have B:=ao;have s:=cI;have G:=cP;have cS:=sG z dw;rw[bS]at cS;try simp only[LL,Nat.reduceAdd,Nat.reduceMul]at cS
 rw[<- co,bR,bS]at bC;simp only at bC;rw[<- b7]at bC;obtain⟨gp,gq,gr,gs,ek,el,cu⟩:=bC;refine an q<|ns<|m2 q q<|sf q tj<|sl (u:=aw) q EP H q<|Rz ajc q (Y2 B dE s G dr (a8.cT<|fun _ _=>trivial) bE Xx C Xx Xx Xx Xx) ?_;rintro bj c7 ⟨O,P,am,rfl,j,⟨U,S,ao⟩,cK,cQ,D,E,ch⟩;have a9:∀i∈(F :: (ah b9).toList),aX (F :: (ah ay).toList) w i:=bX ar<|rF a8;have W:∀i∈(F :: (ah b9).toList),¬dK i:=bX G<|rN a8;have bm:aL∉(F :: (ah b9).toList):=bH Xx<|aW a8 H;have E:=E.cT<|Sy E;have E:=E.cT<|Sz E a9<|aX.new A;have ai:=tT ai S;have ag:=Sx U ag A.size;have W:=fun i hi bq=>W i hi<|S i bq;have H:=H.md j bm;have A:=A.step j a9;have B:=ao;have s:=cK;have G:=cQ;rw[ch]at ek el cu;refine nt<|aH<|nM q<|sn q<|sf q cG<|sf q qG<|sl (u:=(uZ ((O.h.n.getD 8 0:Nat):Int))) q aV s q ?_;have f5:O.h.n.getD 8 0<18446744073709551616:=gm D.2.2.2.2.2.2.2.1 8;refine su (fD (a:=(O.h.n.getD 8 0)) (b:=1) q q)<|nt ?_;refine cJ q (fun cq=>?_)<|fun cq=>?_
 ·have cg:=dq cq;have V:=H;have bP:∀b∈[F],¬am b:=hI G;refine iy [(0,true),(1,true),(2,true),(3,true),(4,true),(5,true),(6,true),(7,true),(8,true),(9,false)] [10,11,12,13] (fun M=>Md [F] c7 M) mixed Xj ?_;intro gh aq;refine⟨aq.mono Oj,?_⟩;have I:=aq.mono (T:=[F]) Oj;refine mo q<|mo q<|my (aF q xk)<|mz (fun M X=>(aD q aV (V.md X (by(simp;omega))) q).to (b:=(uZ J.seq)) q) ?_;have f6:J.seq<18446744073709551616:=az.1;refine my (aF q xo)<|mz (fun M X=>(aD q aV (V.md X (by(simp;omega))) q).to (b:=(uZ J.aY)) q) ?_;have f7:J.aY<18446744073709551616:=az.2.1;refine my (bN q)<|my (aF q cG)<|my (aF q HZ) ?_;obtain⟨s,H,E,B,A⟩:=k5 aq s H E B A;refine jc ?_ rfl;refine aQ q q aV q s (lq q) ?_;have K:=s;intro d7 j s;have W:∀b∈[F],¬am b:=hI G;have H:=H.md j Zq;have E:=E.md j (aB K E) W;have B:=B.md j;have A:=A.step j<|hI ar;have I:=I.eT j Oj;obtain⟨ab,aP⟩:∃y,y=({O with h:={O.h with n:=O.h.n.set 10 J.seq}}:bw):=⟨_,q⟩
  have s:bK d7 F (bw.cells ({O with h:={O.h with n:=O.h.n.set 10 J.seq}}) P) 107:=by have aa:=s;simp only[bw.cells,d9.cells];rw[eu (by exact D.2.2.2.2.2.2.2.1.1) Xz];exact aa
  rw[<- aP]at s;have aC:bw.ok ab:=(by rw[aP];exact(by unfold bw.ok;exact⟨D.1,D.2.1,D.2.2.1,D.2.2.2.1,D.2.2.2.2.1,D.2.2.2.2.2.1,D.2.2.2.2.2.2.1,(eO D.2.2.2.2.2.2.2.1 Xx),D.2.2.2.2.2.2.2.2.1,D.2.2.2.2.2.2.2.2.2.1,D.2.2.2.2.2.2.2.2.2.2⟩));have fs:ab.b.length=O.b.length:=(by rw[aP]);have ft:ab.h.n.getD 0 0=O.h.n.getD 0 0:=(by rw[aP];exact au Xz);have fu:ab.h.n.getD 2 0=O.h.n.getD 2 0:=(by rw[aP];exact au Xz);have fv:ab.h.n.getD 3 0=O.h.n.getD 3 0:=(by rw[aP];exact au Xz);have fw:ab.h.n.getD 4 0=O.h.n.getD 4 0:=(by rw[aP];exact au Xz);have fx:ab.h.n.getD 5 0=O.h.n.getD 5 0:=(by rw[aP];exact au Xz);rw[show O.b=ab.b by rw[aP]]at E;refine aG ⟨q,I,?_⟩;refine di ?_;refine sn q<|sf q cG<|sf q IB<|aQ q q aV q s (lq q) ?_;have K:=s;intro c8 j s;have W:∀b∈[F],¬am b:=hI G;have H:=H.md j Zq;have E:=E.md j (aB K E) W;have B:=B.md j;have A:=A.step j<|hI ar;obtain⟨ad,aS⟩:∃y,y=({ab with h:={ab.h with n:=ab.h.n.set 12 J.aY}}:bw):=⟨_,q⟩;have s:bK c8 F (bw.cells ({ab with h:={ab.h with n:=ab.h.n.set 12 J.aY}}) P) 107:=by have aa:=s;simp only[bw.cells,d9.cells];rw[eu (by exact aC.2.2.2.2.2.2.2.1.1) Xz];exact aa
  rw[<- aS]at s;have aE:bw.ok ad:=(by rw[aS];exact(by unfold bw.ok;exact⟨aC.1,aC.2.1,aC.2.2.1,aC.2.2.2.1,aC.2.2.2.2.1,aC.2.2.2.2.2.1,aC.2.2.2.2.2.2.1,(eO aC.2.2.2.2.2.2.2.1 Xx),aC.2.2.2.2.2.2.2.2.1,aC.2.2.2.2.2.2.2.2.2.1,aC.2.2.2.2.2.2.2.2.2.2⟩));have fy:ad.b.length=ab.b.length:=(by rw[aS]);have fz:ad.h.n.getD 0 0=ab.h.n.getD 0 0:=(by rw[aS];exact au Xz);have fA:ad.h.n.getD 2 0=ab.h.n.getD 2 0:=(by rw[aS];exact au Xz);have fB:ad.h.n.getD 3 0=ab.h.n.getD 3 0:=(by rw[aS];exact au Xz);have fC:ad.h.n.getD 4 0=ab.h.n.getD 4 0:=(by rw[aS];exact au Xz);have fc:ad.h.n.getD 5 0=ab.h.n.getD 5 0:=(by rw[aS];exact au Xz);rw[show ab.b=ad.b by rw[aS]]at E;refine nt<|aH ?_;have V:=H;have bP:∀b∈[F],¬am b:=hI G;refine iy [(0,true),(1,true),(2,true),(3,true),(4,true),(5,true),(6,true),(7,true),(8,true),(9,true),(10,true),(11,true),(12,true),(13,true),(14,true),(15,true),(16,true),(17,false),(18,true),(19,true),(20,true),(21,false),(22,true),(23,true),(24,true),(25,false),(26,true),(27,true),(28,true),(29,false),(30,true),(31,true),(32,true),(33,false)] [] (fun M=>Md [F] c8 M) mixed Xj ?_;intro gi aq;refine⟨aq.mono Oj,?_⟩;have I:=aq.mono (T:=[F]) Oj;refine mo q<|mo q<|mo q<|mo q<|mo q<|my (aF q xk)<|mz (fun M X=>(aD q aV (V.md X (by(simp;omega))) q).to (b:=(uZ J.seq)) q)<|my (aF q xo)<|mz (fun M X=>(aD q aV (V.md X (by(simp;omega))) q).to (b:=(uZ J.aY)) q) ?_;refine my (aF q EK)<|mz (fun M X=>(aD q aV (V.md X (by(simp;omega))) q).to (b:=(uZ J.mono)) q) ?_;have f8:J.mono<18446744073709551616:=az.2.2.1;refine my (aF q EL)<|mz (fun M X=>bU (iD J.aR) q (by exact iT) (V.md X (by(simp;omega))) q) ?_;have f9:J.aR.length=16:=az.2.2.2.1;refine mo q<|my (bN q)<|my (aF q cG)<|my (aF q uJ) ?_;obtain⟨E,s,B,A⟩:=k4 aq E s B A;refine jc ?_ rfl;refine aQ q q aV q s (lq q) ?_;have K:=s;intro d8 j s;have W:∀b∈[F],¬am b:=hI G;have E:=E.md j (aB K E) W;have B:=B.md j;have A:=A.step j<|hI ar;have I:=I.eT j Oj;obtain⟨ae,aU⟩:∃y,y=({ad with h:={ad.h with n:=ad.h.n.set 9 J.seq}}:bw):=⟨_,q⟩;have s:bK d8 F (bw.cells ({ad with h:={ad.h with n:=ad.h.n.set 9 J.seq}}) P) 107:=by have aa:=s;simp only[bw.cells,d9.cells];rw[eu (by exact aE.2.2.2.2.2.2.2.1.1) Xz];exact aa
  rw[<- aU]at s;have aJ:bw.ok ae:=(by rw[aU];exact(by unfold bw.ok;exact⟨aE.1,aE.2.1,aE.2.2.1,aE.2.2.2.1,aE.2.2.2.2.1,aE.2.2.2.2.2.1,aE.2.2.2.2.2.2.1,(eO aE.2.2.2.2.2.2.2.1 Xx),aE.2.2.2.2.2.2.2.2.1,aE.2.2.2.2.2.2.2.2.2.1,aE.2.2.2.2.2.2.2.2.2.2⟩));have fd:ae.b.length=ad.b.length:=(by rw[aU]);have fe:ae.h.n.getD 0 0=ad.h.n.getD 0 0:=(by rw[aU];exact au Xz);have ff:ae.h.n.getD 2 0=ad.h.n.getD 2 0:=(by rw[aU];exact au Xz);have fg:ae.h.n.getD 3 0=ad.h.n.getD 3 0:=(by rw[aU];exact au Xz);have fh:ae.h.n.getD 4 0=ad.h.n.getD 4 0:=(by rw[aU];exact au Xz);have fi:ae.h.n.getD 5 0=ad.h.n.getD 5 0:=(by rw[aU];exact au Xz);rw[show ad.b=ae.b by rw[aU]]at E;refine aG ⟨q,I,?_⟩;refine my (bN q)<|my (aF q cG)<|my (aF q yK) ?_;refine jc ?_ rfl;refine aQ q q aV q s (lq q) ?_;have K:=s;intro ea j s;have W:∀b∈[F],¬am b:=hI G;have E:=E.md j (aB K E) W;have B:=B.md j;have A:=A.step j<|hI ar;have I:=I.eT j Oj;obtain⟨af,aZ⟩:∃y,y=({ae with h:={ae.h with n:=ae.h.n.set 13 J.aY}}:bw):=⟨_,q⟩;have s:bK ea F (bw.cells ({ae with h:={ae.h with n:=ae.h.n.set 13 J.aY}}) P) 107:=by have aa:=s;simp only[bw.cells,d9.cells];rw[eu (by exact aJ.2.2.2.2.2.2.2.1.1) Xz];exact aa
  rw[<- aZ]at s;have aK:bw.ok af:=(by rw[aZ];exact(by unfold bw.ok;exact⟨aJ.1,aJ.2.1,aJ.2.2.1,aJ.2.2.2.1,aJ.2.2.2.2.1,aJ.2.2.2.2.2.1,aJ.2.2.2.2.2.2.1,(eO aJ.2.2.2.2.2.2.2.1 Xx),aJ.2.2.2.2.2.2.2.2.1,aJ.2.2.2.2.2.2.2.2.2.1,aJ.2.2.2.2.2.2.2.2.2.2⟩));have fE:af.b.length=ae.b.length:=(by rw[aZ]);have fF:af.h.n.getD 0 0=ae.h.n.getD 0 0:=(by rw[aZ];exact au Xz);have fG:af.h.n.getD 2 0=ae.h.n.getD 2 0:=(by rw[aZ];exact au Xz);have Id:af.h.n.getD 3 0=ae.h.n.getD 3 0:=(by rw[aZ];exact au Xz);have fH:af.h.n.getD 4 0=ae.h.n.getD 4 0:=(by rw[aZ];exact au Xz);have fK:af.h.n.getD 5 0=ae.h.n.getD 5 0:=(by rw[aZ];exact au Xz);rw[show ae.b=af.b by rw[aZ]]at E;refine aG ⟨q,I,?_⟩;refine my (bN q)<|my (aF q cG)<|my (aF q yL) ?_;refine jc ?_ rfl;refine aQ q q aV q s (lq q) ?_;have K:=s;intro eb j s;have W:∀b∈[F],¬am b:=hI G;have E:=E.md j (aB K E) W;have B:=B.md j;have A:=A.step j<|hI ar;have I:=I.eT j Oj;obtain⟨aj,a0⟩:∃y,y=({af with h:={af.h with n:=af.h.n.set 14 J.mono}}:bw):=⟨_,q⟩;have s:bK eb F (bw.cells ({af with h:={af.h with n:=af.h.n.set 14 J.mono}}) P) 107:=by have aa:=s;simp only[bw.cells,d9.cells];rw[eu (by exact aK.2.2.2.2.2.2.2.1.1) Xz];exact aa
  rw[<- a0]at s;have ba:bw.ok aj:=(by rw[a0];exact(by unfold bw.ok;exact⟨aK.1,aK.2.1,aK.2.2.1,aK.2.2.2.1,aK.2.2.2.2.1,aK.2.2.2.2.2.1,aK.2.2.2.2.2.2.1,(eO aK.2.2.2.2.2.2.2.1 Xx),aK.2.2.2.2.2.2.2.2.1,aK.2.2.2.2.2.2.2.2.2.1,aK.2.2.2.2.2.2.2.2.2.2⟩));have fL:aj.b.length=af.b.length:=(by rw[a0]);have fM:aj.h.n.getD 0 0=af.h.n.getD 0 0:=(by rw[a0];exact au Xz);have fN:aj.h.n.getD 2 0=af.h.n.getD 2 0:=(by rw[a0];exact au Xz);have fP:aj.h.n.getD 3 0=af.h.n.getD 3 0:=(by rw[a0];exact au Xz);have fQ:aj.h.n.getD 4 0=af.h.n.getD 4 0:=(by rw[a0];exact au Xz);have fR:aj.h.n.getD 5 0=af.h.n.getD 5 0:=(by rw[a0];exact au Xz);rw[show af.b=aj.b by rw[a0]]at E;refine aG ⟨q,I,?_⟩;refine my (bN q)<|my (aF q cG)<|my (aF q EH) ?_;refine jc ?_ rfl;refine cA (us:=(iD J.aR)) q q (by exact iT) (by exact xG _) s (lq q) ?_;have K:=s;intro gj j s;have W:∀b∈[F],¬am b:=hI G;have E:=E.md j (aB K E) W;have B:=B.md j;have A:=A.step j<|hI ar;have I:=I.eT j Oj;obtain⟨ak,a1⟩:∃y,y=({aj with h:={aj.h with aR:=J.aR}}:bw):=⟨_,q⟩;have s:bK _ _ (bw.cells ({aj with h:={aj.h with aR:=J.aR}}) P) _:=s;rw[<- a1]at s;have bb:bw.ok ak:=(by rw[a1];exact(by unfold bw.ok;exact⟨ba.1,ba.2.1,ba.2.2.1,ba.2.2.2.1,ba.2.2.2.2.1,(by exact az.2.2.2.1),ba.2.2.2.2.2.2.1,ba.2.2.2.2.2.2.2.1,ba.2.2.2.2.2.2.2.2.1,ba.2.2.2.2.2.2.2.2.2.1,ba.2.2.2.2.2.2.2.2.2.2⟩));have fS:ak.b.length=aj.b.length:=(by rw[a1]);have In:ak.h.n.getD 0 0=aj.h.n.getD 0 0:=(by rw[a1]);have fT:ak.h.n.getD 2 0=aj.h.n.getD 2 0:=(by rw[a1]);have fU:ak.h.n.getD 3 0=aj.h.n.getD 3 0:=(by rw[a1]);have fW:ak.h.n.getD 4 0=aj.h.n.getD 4 0:=(by rw[a1]);have fX:ak.h.n.getD 5 0=aj.h.n.getD 5 0:=(by rw[a1]);rw[show aj.b=ak.b by rw[a1]]at E;refine aG ⟨q,I,?_⟩;refine my (bN q)<|my (aF q cG)<|my (aF q yR) ?_;refine jc ?_ rfl;refine aQ q q aV q s (lq q) ?_;have K:=s;intro gk j s;have W:∀b∈[F],¬am b:=hI G;have E:=E.md j (aB K E) W;have B:=B.md j;have A:=A.step j<|hI ar;have I:=I.eT j Oj;obtain⟨bd,a2⟩:∃y,y=({ak with h:={ak.h with cF:=bE}}:bw):=⟨_,q⟩;have s:bK _ _ (bw.cells ({ak with h:={ak.h with cF:=bE}}) P) _:=s;rw[<- a2]at s;have du:bw.ok bd:=(by rw[a2];exact(by unfold bw.ok;exact⟨bb.1,bb.2.1,bb.2.2.1,bb.2.2.2.1,bb.2.2.2.2.1,bb.2.2.2.2.2.1,bb.2.2.2.2.2.2.1,bb.2.2.2.2.2.2.2.1,bb.2.2.2.2.2.2.2.2.1,bb.2.2.2.2.2.2.2.2.2.1,Xx⟩));have fY:bd.b.length=ak.b.length:=(by rw[a2]);have fZ:bd.h.n.getD 0 0=ak.h.n.getD 0 0:=(by rw[a2]);have f0:bd.h.n.getD 2 0=ak.h.n.getD 2 0:=(by rw[a2]);have f1:bd.h.n.getD 3 0=ak.h.n.getD 3 0:=(by rw[a2]);have f2:bd.h.n.getD 4 0=ak.h.n.getD 4 0:=(by rw[a2]);have f3:bd.h.n.getD 5 0=ak.h.n.getD 5 0:=(by rw[a2]);rw[show ak.b=bd.b by rw[a2]]at E;refine aG ⟨q,I,?_⟩;refine di ?_;refine nt<|aI<|mv q ?_;have d2:bd.h.state<256:=(by rw[a2,a1,a0,aZ,aU,aS,aP,bl,bk];exact cu);refine Rz afi q (tX B bd s G E du Xx Xx Xx) ?_;rintro bj gl ⟨dG,rfl,j,cN,cR,ds,dO⟩;have br:=E;have E:=cR.cT<|Sy br;have s:=cN;have B:=B.md j;have A:=A.cE j<|Sy br;refine aG ?_;exact kM (vs:=[]) trivial q trivial q ⟨dG,_,am,q,A,⟨ag,ai,B⟩,s,G,ds,E,(by unfold bw.entry;rw[ct];simp only;rw[<- co,bR,bS];simp only;rw[<- b7,ch];unfold bw.mark;simp only;rw[if_pos (show O.aT 8=1 from cg),<- dO,a2,a1,a0,aZ,aU,aS,aP,bl,bk];simp only[ck,cl,cm,cn];rfl)⟩
 have cg:=dF cq;refine aM<|aA<|aH ?_;have V:=H;have bP:∀b∈[F],¬am b:=hI G;refine iy [(0,true),(1,true),(2,true),(3,true),(4,true),(5,true),(6,true),(7,true),(8,true),(9,true),(10,true),(11,true),(12,true),(13,true),(14,true),(15,true),(16,true),(17,false),(18,true),(19,true),(20,true),(21,false),(22,true),(23,true),(24,true),(25,false),(26,true),(27,true),(28,true),(29,false),(30,true),(31,true),(32,true),(33,false)] [] (fun M=>Md [F] c7 M) mixed Xj ?_;intro fo aq;refine⟨aq.mono Oj,?_⟩;have I:=aq.mono (T:=[F]) Oj;refine mo q<|mo q<|mo q<|mo q<|mo q<|my (aF q xk)<|mz (fun M X=>(aD q aV (V.md X (by(simp;omega))) q).to (b:=(uZ J.seq)) q) ?_;have fk:J.seq<18446744073709551616:=az.1;refine my (aF q xo)<|mz (fun M X=>(aD q aV (V.md X (by(simp;omega))) q).to (b:=(uZ J.aY)) q) ?_;have fl:J.aY<18446744073709551616:=az.2.1;refine my (aF q EK)<|mz (fun M X=>(aD q aV (V.md X (by(simp;omega))) q).to (b:=(uZ J.mono)) q) ?_;have fm:J.mono<18446744073709551616:=az.2.2.1;refine my (aF q EL)<|mz (fun M X=>bU (iD J.aR) q (by exact iT) (V.md X (by(simp;omega))) q) ?_;have fn:J.aR.length=16:=az.2.2.2.1
 refine mo q<|my (bN q)<|my (aF q cG)<|my (aF q uJ) ?_;obtain⟨s,E,B,A⟩:=k4 aq s E B A;refine jc ?_ rfl;refine aQ q q aV q s (lq q) ?_;have K:=s;intro dT j s;have W:∀b∈[F],¬am b:=hI G;have E:=E.md j (aB K E) W;have B:=B.md j;have A:=A.step j<|hI ar;have I:=I.eT j Oj;obtain⟨c,a3⟩:∃y,y=({O with h:={O.h with n:=O.h.n.set 9 J.seq}}:bw):=⟨_,q⟩;have s:bK dT F (bw.cells ({O with h:={O.h with n:=O.h.n.set 9 J.seq}}) P) 107:=by have aa:=s;simp only[bw.cells,d9.cells];rw[eu (by exact D.2.2.2.2.2.2.2.1.1) Xz];exact aa
 rw[<- a3]at s;have f:bw.ok c:=(by rw[a3];exact(by unfold bw.ok;exact⟨D.1,D.2.1,D.2.2.1,D.2.2.2.1,D.2.2.2.2.1,D.2.2.2.2.2.1,D.2.2.2.2.2.2.1,(eO D.2.2.2.2.2.2.2.1 Xx),D.2.2.2.2.2.2.2.2.1,D.2.2.2.2.2.2.2.2.2.1,D.2.2.2.2.2.2.2.2.2.2⟩));have eB:c.b.length=O.b.length:=(by rw[a3]);have er:c.h.n.getD 0 0=O.h.n.getD 0 0:=(by rw[a3];exact au Xz);have et:c.h.n.getD 2 0=O.h.n.getD 2 0:=(by rw[a3];exact au Xz);have eL:c.h.n.getD 3 0=O.h.n.getD 3 0:=(by rw[a3];exact au Xz);have eM:c.h.n.getD 4 0=O.h.n.getD 4 0:=(by rw[a3];exact au Xz);have eN:c.h.n.getD 5 0=O.h.n.getD 5 0:=(by rw[a3];exact au Xz);rw[show O.b=c.b by rw[a3]]at E;refine aG ⟨q,I,?_⟩;refine my (bN q)<|my (aF q cG)<|my (aF q yK) ?_;refine jc ?_ rfl;refine aQ q q aV q s (lq q) ?_;have K:=s;intro dU j s;have W:∀b∈[F],¬am b:=hI G;have E:=E.md j (aB K E) W;have B:=B.md j;have A:=A.step j<|hI ar;have I:=I.eT j Oj;obtain⟨d,a4⟩:∃y,y=({c with h:={c.h with n:=c.h.n.set 13 J.aY}}:bw):=⟨_,q⟩;have s:bK dU F (bw.cells ({c with h:={c.h with n:=c.h.n.set 13 J.aY}}) P) 107:=by have aa:=s;simp only[bw.cells,d9.cells];rw[eu (by exact f.2.2.2.2.2.2.2.1.1) Xz];exact aa
 rw[<- a4]at s;have g:bw.ok d:=(by rw[a4];exact(by unfold bw.ok;exact⟨f.1,f.2.1,f.2.2.1,f.2.2.2.1,f.2.2.2.2.1,f.2.2.2.2.2.1,f.2.2.2.2.2.2.1,(eO f.2.2.2.2.2.2.2.1 Xx),f.2.2.2.2.2.2.2.2.1,f.2.2.2.2.2.2.2.2.2.1,f.2.2.2.2.2.2.2.2.2.2⟩));have eP:d.b.length=c.b.length:=(by rw[a4]);have eQ:d.h.n.getD 0 0=c.h.n.getD 0 0:=(by rw[a4];exact au Xz);have eR:d.h.n.getD 2 0=c.h.n.getD 2 0:=(by rw[a4];exact au Xz);have eS:d.h.n.getD 3 0=c.h.n.getD 3 0:=(by rw[a4];exact au Xz);have eU:d.h.n.getD 4 0=c.h.n.getD 4 0:=(by rw[a4];exact au Xz);have eV:d.h.n.getD 5 0=c.h.n.getD 5 0:=(by rw[a4];exact au Xz);rw[show c.b=d.b by rw[a4]]at E;refine aG ⟨q,I,?_⟩;refine my (bN q)<|my (aF q cG)<|my (aF q yL) ?_;refine jc ?_ rfl;refine aQ q q aV q s (lq q) ?_;have K:=s;intro dV j s;have W:∀b∈[F],¬am b:=hI G;have E:=E.md j (aB K E) W;have B:=B.md j;have A:=A.step j<|hI ar;have I:=I.eT j Oj;obtain⟨k,a5⟩:∃y,y=({d with h:={d.h with n:=d.h.n.set 14 J.mono}}:bw):=⟨_,q⟩;have s:bK dV F (bw.cells ({d with h:={d.h with n:=d.h.n.set 14 J.mono}}) P) 107:=by have aa:=s;simp only[bw.cells,d9.cells];rw[eu (by exact g.2.2.2.2.2.2.2.1.1) Xz];exact aa
 rw[<- a5]at s;have p:bw.ok k:=(by rw[a5];exact(by unfold bw.ok;exact⟨g.1,g.2.1,g.2.2.1,g.2.2.2.1,g.2.2.2.2.1,g.2.2.2.2.2.1,g.2.2.2.2.2.2.1,(eO g.2.2.2.2.2.2.2.1 Xx),g.2.2.2.2.2.2.2.2.1,g.2.2.2.2.2.2.2.2.2.1,g.2.2.2.2.2.2.2.2.2.2⟩));have eW:k.b.length=d.b.length:=(by rw[a5]);have eX:k.h.n.getD 0 0=d.h.n.getD 0 0:=(by rw[a5];exact au Xz);have eY:k.h.n.getD 2 0=d.h.n.getD 2 0:=(by rw[a5];exact au Xz);have eZ:k.h.n.getD 3 0=d.h.n.getD 3 0:=(by rw[a5];exact au Xz);have e0:k.h.n.getD 4 0=d.h.n.getD 4 0:=(by rw[a5];exact au Xz);have e1:k.h.n.getD 5 0=d.h.n.getD 5 0:=(by rw[a5];exact au Xz);rw[show d.b=k.b by rw[a5]]at E;refine aG ⟨q,I,?_⟩;refine my (bN q)<|my (aF q cG)<|my (aF q EH) ?_;refine jc ?_ rfl;refine cA (us:=(iD J.aR)) q q (by exact iT) (by exact xG _) s (lq q) ?_;have K:=s;intro fp j s;have W:∀b∈[F],¬am b:=hI G;have E:=E.md j (aB K E) W;have B:=B.md j;have A:=A.step j<|hI ar;have I:=I.eT j Oj;obtain⟨o,a6⟩:∃y,y=({k with h:={k.h with aR:=J.aR}}:bw):=⟨_,q⟩;have s:bK _ _ (bw.cells ({k with h:={k.h with aR:=J.aR}}) P) _:=s;rw[<- a6]at s;have t:bw.ok o:=(by rw[a6];exact(by unfold bw.ok;exact⟨p.1,p.2.1,p.2.2.1,p.2.2.2.1,p.2.2.2.2.1,(by exact az.2.2.2.1),p.2.2.2.2.2.2.1,p.2.2.2.2.2.2.2.1,p.2.2.2.2.2.2.2.2.1,p.2.2.2.2.2.2.2.2.2.1,p.2.2.2.2.2.2.2.2.2.2⟩));have e2:o.b.length=k.b.length:=(by rw[a6]);have e3:o.h.n.getD 0 0=k.h.n.getD 0 0:=(by rw[a6]);have e4:o.h.n.getD 2 0=k.h.n.getD 2 0:=(by rw[a6]);have e5:o.h.n.getD 3 0=k.h.n.getD 3 0:=(by rw[a6]);have e6:o.h.n.getD 4 0=k.h.n.getD 4 0:=(by rw[a6]);have e8:o.h.n.getD 5 0=k.h.n.getD 5 0:=(by rw[a6]);rw[show k.b=o.b by rw[a6]]at E;refine aG ⟨q,I,?_⟩;refine my (bN q)<|my (aF q cG)<|my (aF q yR) ?_;refine jc ?_ rfl;refine aQ q q aV q s (lq q) ?_;have K:=s;intro fq j s;have W:∀b∈[F],¬am b:=hI G;have E:=E.md j (aB K E) W;have B:=B.md j;have A:=A.step j<|hI ar;have I:=I.eT j Oj;obtain⟨bc,a7⟩:∃y,y=({o with h:={o.h with cF:=bE}}:bw):=⟨_,q⟩;have s:bK _ _ (bw.cells ({o with h:={o.h with cF:=bE}}) P) _:=s;rw[<- a7]at s;have dz:bw.ok bc:=(by rw[a7];exact(by unfold bw.ok;exact⟨t.1,t.2.1,t.2.2.1,t.2.2.2.1,t.2.2.2.2.1,t.2.2.2.2.2.1,t.2.2.2.2.2.2.1,t.2.2.2.2.2.2.2.1,t.2.2.2.2.2.2.2.2.1,t.2.2.2.2.2.2.2.2.2.1,Xx⟩));have e9:bc.b.length=o.b.length:=(by rw[a7]);have fa:bc.h.n.getD 0 0=o.h.n.getD 0 0:=(by rw[a7]);have fb:bc.h.n.getD 2 0=o.h.n.getD 2 0:=(by rw[a7]);have eC:bc.h.n.getD 3 0=o.h.n.getD 3 0:=(by rw[a7]);have eD:bc.h.n.getD 4 0=o.h.n.getD 4 0:=(by rw[a7]);have eE:bc.h.n.getD 5 0=o.h.n.getD 5 0:=(by rw[a7]);rw[show o.b=bc.b by rw[a7]]at E;refine aG ⟨q,I,?_⟩;refine di ?_;refine nt<|aI<|mv q ?_;have d2:bc.h.state<256:=(by rw[a7,a6,a5,a4,a3,bl,bk];exact cu);refine Rz afi q (tX B bc s G E dz Xx Xx Xx) ?_;rintro bj fr ⟨dx,rfl,j,cy,cz,dm,dC⟩;have br:=E;have E:=cz.cT<|Sy br;have s:=cy;have B:=B.md j;have A:=A.cE j<|Sy br;refine aG ?_;exact kM (vs:=[]) trivial q trivial q ⟨dx,_,am,q,A,⟨ag,ai,B⟩,s,G,dm,E,(by unfold bw.entry;rw[ct];simp only;rw[<- co,bR,bS];simp only;rw[<- b7,ch];unfold bw.mark;simp only;rw[if_neg (show ¬O.aT 8=1 from cg),<- dC,a7,a6,a5,a4,a3,bl,bk];simp only[ck,cl,cm,cn];rfl)⟩
theorem abM:cO Zp 25=true:=Xj
theorem akY:cO Zp 55=true:=Xj
theorem ajH:cO Zp 56=true:=Xj
theorem akZ:cO Zp 57=true:=Xj
theorem acK:aJ Zp 102 2=some 2:=Xj
theorem ake:fG Zp 123=some [(0,1),(1,1),(2,1),(3,16),(19,1),(20,1)]:=Xj
theorem alE:dX Zp 123=some ([.int .u64 0,.int .u64 0,.int .u64 0] ++ (List.replicate 16 (.int .u8 0) ++ ([.int .u64 0,.slice none 0 0]))):=Xj
set_option maxHeartbeats 16000000 in
theorem QW (s:Up w Q) {J:Nat} {aU:Value} (m:js) (e:bK w J (js.cells m aU) 102) (n0:¬Q J) (S:js.ok m) (B:Pt qP 107 w Q aU m.d) {be:Value} {l:List Pr} (h1:Ls mq w Q be l) (aY:Nat) (b4:aY<18446744073709551616) (mono:Nat) (b5:mono<18446744073709551616) (aR:Ly) (a4:aR.length=16) (b6:l.length<=1000) (b7:m.waiting<=1000000) (p2:m.vn l aY mono aR) (p3:m.d.b.length<=1000000) :
  Calls Zp 17 #[.pointer (some ⟨J,0,none⟩),be,(uZ aY),(uZ mono),.agg (iD aR).toArray] w fun X af=>∃aO:Nat,∃aP:Nat,∃aq:js,∃bd:Value,X = .returned (.tuple #[(uZ aO),(iZ aP)])/\Md [J] w af/\aO<18446744073709551616/\aP<9223372036854775808/\bK af J (js.cells aq bd) 102/\¬Q J/\js.ok aq/\Pt qP 107 af Q bd aq.d/\m.append l aY mono aR=(aO,aP,aq):=by
 have b3:=h1.eJ;have H:=n0;have a6:aX [J] w J:=.inl Oj;have a9:=s;refine nR (n:=69) [J] s Tryz.func17 q q q fun bw j v _=>ns<|e7 (cs:=(iD aR)) q q ?_;intro aw b9 ay bT A I;have bD:J≠aw:=(by have:=e.lt;omega);have aN:=s _ ay;have ay:=lv j.size ay;obtain⟨B,e,h1,s,j⟩:=k5 A B e h1 s j;refine cV q<|an q<|aH<|nM q<|sn q<|sf q EF<|sl (u:=(.bool m.dN)) q vT e q<|nt ?_;refine cJ q ?_ ?_
 ·intro W;refine ns<|cV q<|ar q<|aS ?_;exact zK [(uN 0),(iN 8)] q ⟨0,8,m,_,q,j,Xx,Xx,e,n0,S,(B.sub<|fun b E _=>v b E),(by unfold js.append;rw[if_pos W])⟩
 intro W;refine aM<|aA<|nM q<|Rz akY q (Zu s h1 Xx) ?_;rintro X ca ⟨bJ,bL,av,rfl,A,O,bF,f⟩;obtain⟨B,e,I,s,j⟩:=k5 A B e I s j;refine mv q<|se q q<|se q q<|cV q<|an q<|aH<|bf<|nM q<|su (fU (a:=av) (b:=0) q q)<|cV q<|nt ?_;refine kS q ?_ ?_
 ·intro a5;refine nM q<|cV q<|ar q<|bS<|aS ?_;exact zK [(uN 0),(iZ av)] q ⟨0,av,m,_,q,j,Xx,Xk,e,n0,S,(B.sub<|fun b E _=>v b E),(by unfold js.append;rw[if_neg (by simp[W]),f];simp only;rw[if_pos a5])⟩
 intro a5;refine nM q<|Rz abM q (uT s m e H S B) ?_;rintro X cb ⟨bp,rfl,A,bI,bR⟩;obtain⟨B,e,I,O,s,j⟩:=k6 A B e I O s j;refine su (fD (a:=bp) (b:=18446744073709551615) q q)<|an q ?_;refine kS q ?_ ?_
 ·intro bk;refine ns<|cV q<|ar q<|bS<|aS ?_;exact zK [(uN 0),(iN 1)] q ⟨0,1,m,_,q,j,Xx,Xx,e,n0,S,(B.sub<|fun b E _=>v b E),(by unfold js.append;rw[if_neg (by simp[W]),f];simp only;rw[if_neg Xx,if_pos Xx])⟩
 intro bk;refine aM<|bG<|aA<|nM q<|sn q<|sf q lS<|sl (u:=aU) q xF e q ?_;have L:=B;obtain⟨a3,bB,rfl,ap,L,bo⟩:=L;obtain⟨b8,rfl,bt,br⟩:=pS bo;refine Rz ajH q (CN s ⟨_,_,q,ap,L,xR bt br⟩ Xx) ?_;rintro X cc ⟨D,aj,bq,ak,rfl,A,⟨T,U,ai⟩,K,Z,c,bh,C,a7⟩;have bC:J≠D:=(by have:=e.lt;omega);have bu:aw≠D:=(by have:=I.lt;omega);have bv:a3≠D:=(by have:=L.lt;omega);have g:aX [] w D:=aX.new j _ c;have c:=lv j.size c;have H:=nQ H U;have aN:=T _ aN I.lt;have ap:=T _ ap L.lt;have v:=tT v U;have C:=C.lower<|aX.lift (S':=[]) j;have B:=(B.sub T).o A;obtain⟨e,I⟩:=k2 A e I;have O:=(O.sub T).o A;obtain⟨L,j⟩:=k2 A L j;have s:=ai;refine an q<|aH ?_;have k:=e;have aV:=I;have ao:=K;refine nL [(0,true),(1,true),(2,true),(5,true),(6,true),(7,true),(3,false),(4,true),(8,true)] [9] mixed ?_;intro bY G;have aa:=G;refine mo q<|mo q<|mo q<|mo q<|mo q ?_;refine mz (fun af z=>bU (iD aR) q (by exact iT) (aV.o z) q) ?_;obtain⟨B,e,I,O,L,C,K,s⟩:=k8 G B e I O L C K s;have j:=j.k G;refine jc ?_ rfl;refine Rz abM q (uT s m e H S B) ?_;rintro X bZ ⟨ab,rfl,A,bx,bE⟩;obtain⟨B,e,I,O,L,C,K,s⟩:=k8 A B e I O L C K s;obtain⟨j,aa⟩:=k2 A j aa;refine aG ⟨q,aa,?_⟩;refine my (dH (a:=ab) (b:=1) 18446744073709551616 q q q Xx)<|my (dI (us:=[[(uZ ((ab+1:Nat):Int))],[(uZ aY)],[(uZ mono)],(iD aR)]) (cs:=(lu.cells (({seq:=ab+1,aY:=aY,mono:=mono,aR:=aR,xor:=0,bg:=[]}:lu)) SN)) [(0,0,1),(1,1,1),(2,2,1),(3,3,16)] alE ake q q Fz Fz q q)<|di ?_;have Bx:m.d.aT 9=ab:=Xx;have Bk:m.pA aY mono aR=({seq:=ab+1,aY:=aY,mono:=mono,aR:=aR,xor:=0,bg:=[]}:lu):=(by unfold js.pA;rw[Bx]);obtain⟨az,aB,aC⟩:=p2 (by simp[W]) (by rw[f];simp only;omega) Xx;rw[Bk,f,a7]at az;rw[f]at aB aC;simp only at az aB aC;refine Rz akZ q (RS s bq K Z bh (C.cT<|fun _ _=>trivial) O (({seq:=ab+1,aY:=aY,mono:=mono,aR:=aR,xor:=0,bg:=[]}:lu)) (by exact⟨Xm,Xx,Xx,Xk,Xm⟩) (Ls.nil _ _ _) (by rfl) (by rfl) (by exact az) (by exact aB) (by exact aC)) ?_;rintro X bA ⟨P,t,bQ,rfl,A,⟨T,U,ai⟩,o,p,r,F,bm⟩;have aI:∀i∈(D :: (ah aj).toList),aX [] w i:=bX g<|rF C;have N:∀i∈(D :: (ah aj).toList),¬ak i:=bX Z<|rN C;have aZ:J∉(D :: (ah aj).toList):=bH Xx<|aW C e;have bi:aw∉(D :: (ah aj).toList):=bH (fun h=>Z<|h ▸ aN)<|aW C I;have bj:a3∉(D :: (ah aj).toList):=bH (fun h=>Z<|h ▸ ap)<|aW C L;have F:=F.cT<|Sy F;have F:=F.cT<|Sz F aI<|aX.new j;have H:=nQ H U;have v:=tT v U;have N:=fun i hi bs=>N i hi<|U i bs;have B:=(B.sub T).md A N;have e:=e.md A aZ;have j:=j.step A<|fun i hi=>aX.wid<|aI i hi;have s:=ai;have K:=o;have Z:=p;have a8:m.d.entry (gX l).1 (m.pA aY mono aR)=P:=(by rw[Bk,f,a7];exact bm);refine nt<|aH<|aH ?_;have k:=e;have ao:=K;refine nL (ml 9) [9] mixed ?_;intro aE G;have aa:=G;refine mo q<|my (bN q) ?_;refine my (aF q iI)<|mz (fun af z=>(aD q eH (ao.o z) q).to (b:=t) q)<|my (jR q fM F.eA)<|mo q<|my (bN q)<|my (aF q acK)<|mz (fun af z=>(aD q gQ (k.o z) q).to (b:=(iZ m.cK)) q) ?_;have bV:m.cK<9223372036854775808:=S.1;refine di ?_;obtain⟨B,e,K,F,s,j⟩:=k6 G B e K F s j;refine su (jQ (a:=P.b.length) (b:=m.cK) q q)<|nt ?_;refine kS q ?_ ?_
 ·intro bl;refine ns<|cV q<|ar q<|aS ?_;exact zK [(uN 0),(iN 15)] q ⟨0,15,m,_,q,j,Xx,Xx,e,n0,S,(B.sub<|fun b E _=>v b E),(by unfold js.append;rw[if_neg (by simp[W]),a8,f];simp only;rw[if_neg Xx,if_neg Xx,if_pos Xx])⟩
 intro bl;refine aM<|aA<|ns<|m2 q q<|sn q<|sf q lS ?_;obtain⟨al,ae,Y,ba⟩:=F.freeze;have H:=fun aJ=>(Y _ aJ).elim H<|OU<|aW F e;have v:=fun b E=>(Y b E).elim (v b)<|fun aK=>aX.up a9 b (F.2 b aK).1;have s:Up aE al:=fun b E=>ae b<|s b E;have F:=ba;obtain⟨am,ae,Y,bc⟩:∃ak:Nat->Prop,(∀x,al x->ak x)/\(∀x,ak x->al x\/x=D)/\ak D:=⟨fun x=>al x\/x=D,fun _ h=>.inl h,fun _ h=>h,.inr q⟩;have H:=fun aJ=>(Y _ aJ).elim H Xx;have F:=F.sub<|fun b E _=>ae b E;have v:=fun b E=>(Y b E).elim (v b)<|fun aK=>aX.up a9 b<|aK ▸ g;have s:Up aE am:=fun b E=>ae b<|s b E;have M:Pt qP 107 aE am (.pointer<|some ⟨D,0,none⟩) P:=⟨_,_,q,bc,K,xR r F⟩;refine aQ q q xF q e (lq q) ?_;have au:=e;intro b0 A e;have N:∀b∈[J],¬am b:=hI H;have M:=M.md A N;have s:=s.md A;have j:=j.step A<|hI a6;obtain⟨R,V⟩:∃y,y=({m with d:=P}:js):=⟨_,q⟩;have e:bK _ _ (js.cells ({m with d:=P})<|.pointer<|some ⟨D,0,none⟩) _:=e;rw[<- V]at e;have a0:js.ok R:=(by rw[V];exact⟨S.1,S.2⟩);have bM:R.waiting=m.waiting:=(by rw[V]);have bO:R.cK=m.cK:=(by rw[V]);rw[show P=R.d by rw[V]]at M;refine nt<|nM q<|sn q<|sf q xh<|sl (u:=(iZ R.waiting)) q gQ e q ?_;have bW:R.waiting<9223372036854775808:=a0.2;refine su (rA (a:=R.waiting) (b:=1) q q Xx)<|sn q<|sf q xh<|aQ q q gQ q e (lq q) ?_;have au:=e;intro b1 A e;have N:∀b∈[J],¬am b:=hI H;have M:=M.md A N;have s:=s.md A;have j:=j.step A<|hI a6;obtain⟨ag,ad⟩:∃y,y=({R with waiting:=R.waiting+1}:js):=⟨_,q⟩;have e:bK _ _ (js.cells ({R with waiting:=R.waiting+1})<|.pointer<|some ⟨D,0,none⟩) _:=e;rw[<- ad]at e;have a1:js.ok ag:=(by rw[ad];exact⟨a0.1,Xm⟩);have bP:ag.cK=R.cK:=(by rw[ad]);rw[show R.d=ag.d by rw[ad]]at M;refine nt<|nM q<|Rz abM q (uT s ag e H a1 M) ?_;rintro X b2 ⟨a2,rfl,A,bz,bn⟩;have M:=M.o A;obtain⟨e,j⟩:=k2 A e j;refine cV q<|ar q ?_;exact zK [(uZ a2),(iN 0)] q ⟨a2,0,ag,_,q,j,Xk,Xx,e,n0,a1,(M.sub<|fun b E _=>v b E),(by have bb:=bn;rw[ad,V]at bb;unfold js.append;rw[if_neg (by simp[W]),a8,f];simp only;rw[if_neg Xx,if_neg Xx,if_neg Xx,ad,V,bb])⟩
theorem ahq (m:js) (l:List Pr) (aY mono:Nat) (aR:Ly):(m.append l aY mono aR).2.2.fs=m.fs:=by
  unfold js.append
  repeat' split
  all_goals rfl
section
variable {wb k:Nat} {fp:List Nat} {w:World} {Q:Nat->Prop} {b:Nat} {x:AK}
theorem MO (n:Up w Q) (I:qm wb k fp w Q b x) {o:Value} {l:List Pr} (h1:Ls mq w Q o l) (aY:Nat) (E:aY<18446744073709551616) (mono:Nat) (F:mono<18446744073709551616) (aR:Ly) (a4:aR.length=16) (J:l.length<=1000) (K:x.wr.waiting<=1000000) (p2:x.wr.vn l aY mono aR) (p3:x.wr.d.b.length<=1000000) :
    Calls Zp 17 #[.pointer (some ⟨wb,0,none⟩),o,(.int .u64 aY),(.int .u64 mono),.agg (iD aR).toArray] w fun j p=>∃c:Nat,∃e:Nat,j = .returned (.tuple #[(.int .u64 c),(.int .i64 e)])/\c<18446744073709551616/\e<9223372036854775808/\RE wb k fp w Q b p fun m=>m.fs=x.fs/\x.wr.append l aY mono aR=(c,e,m.wr):=by
  obtain⟨g,v,rfl,r,i,s,G,rfl,t,u⟩:=I;refine(QW n x.wr s G t u h1 aY E mono F aR a4 J K p2 p3).mono ?_;rintro j p ⟨c,e,m,L,rfl,D,P,R,f,z,A,B,H⟩;have C:m.fs=x.wr.fs:=(by have:=ahq x.wr l aY mono aR;rw[H]at this;exact this);refine⟨c,e,q,P,R,⟨x.fs,m⟩,wb :: g,Q,D.mono fun y a _=>by rw[List.mem_singleton.1 a];simp,⟨fun b h _=>h,fun b h=>h,n.md D⟩,fun y a=>.inl a,⟨g,L,q,?_,i,f,z,C,A,B⟩,q,H⟩;exact r.md D (fun y a f=>i (by rw[List.mem_singleton.1 f]at a;exact a)) (fun y a=>by rw[List.mem_singleton.1 a];exact G)
theorem XM (J:Up w Q) (B:qm wb k fp w Q b x) (F:k<=90000) (I:x.wr.name.length<=1000000) (p2:1<=x.wr.d.b.length/\x.wr.d.b.length<=1000000) :
    Calls Zp 20 #[.pointer (some ⟨wb,0,none⟩)] w fun c e=>∃r:Nat,c = .returned (.int .i64 r)/\r<9223372036854775808/\RE wb (k+4) fp w Q b e fun m=>m.wr={x.wr with waiting:=if r=0 then 0 else x.wr.waiting}/\∃i E,ko x.wr.dN x.fs x.wr.name x.wr.d.b i E=(r,m.fs):=by
  obtain⟨K,v,rfl,h,G,H,j,rfl,l,n⟩:=B;refine(QX J x.wr h H j G l n F I p2).mono ?_;rintro c e ⟨r,g,a,D,m,rfl,R,t,P,f,p,s,T,z,V,W,C,o⟩;exact⟨r,q,R,⟨g,m⟩,wb :: a,D,t,P,fun y u=>(List.mem_cons.1 u).elim (fun A=>.inl (by simp[A]))<|f y,⟨a,_,q,p,z,s,T,by show m.fs=_;rw[C],V,W⟩,C,o⟩
theorem ahj (g:Up w Q) (f:qm wb k fp w Q b x):Calls Zp 27 #[.pointer (some ⟨wb,0,none⟩)] w fun e h=>∃a:Nat,e = .returned (.int .i64 a)/\Md [] w h/\a<9223372036854775808/\x.wr.waiting=a:=by obtain⟨i,v,rfl,j,G,c,d,rfl,C,D⟩:=f;exact aa9 g x.wr c d C D
theorem ahi (h:Up w Q) (g:qm wb k fp w Q b x):Calls Zp 25 #[.pointer (some ⟨wb,0,none⟩)] w fun f i=>∃a:Nat,f = .returned (.int .u64 a)/\Md [] w i/\a<18446744073709551616/\x.wr.d.aT 9=a:=by obtain⟨j,v,rfl,l,G,c,e,rfl,C,D⟩:=g;exact uT h x.wr c e C D
end
theorem qo {f:ey} (h:f.iV = -1):gw f=(0,f):=abg Xx Xx
theorem acz {s:Ly} (h:gG s=true):oz false [s]=0:=by unfold oz;simp[h]
theorem NV {f:ey} {s:Ly} (a:f.off=false) (h:gG s=true) (b:dU f.nodes s=none):uY f.off f.nodes s=(none,16):=by unfold uY;rw[a,acz h,b];rfl
theorem mZ {f:ey} {s:Ly} {x:gJ} (a:f.off=false) (h:gG s=true) (b:dU f.nodes s=some x):oz f.off [s]=0/\dU f.nodes s=some x:=⟨by rw[a,acz h],b⟩
theorem Z9 {f:ey} {s:Ly} {i j:Nat} (c:f.off=false) (hf:f.iV = -1) (b:gG s=true) (d:dU f.nodes s=none) (e:(eV f.nodes).1<24):mG f s i j=(0,{f with nodes:=f.nodes ++ [⟨i,⟨s,true,j⟩,⟨[],[]⟩⟩],pend:=f.pend ++ [⟨0,i,[],none⟩]}) :=
  acv (NV c b d) q (a:=(eV f.nodes).1) (z:=(eV f.nodes).2) q Xx (qo hf) q
theorem UL {f:ey} {s:Ly} {p:Nat} {b:Ly} {j:Nat} {x:gJ} (h:f.off=false) (g:gG s=true) (i:dU f.nodes s=some x) (hb:b.length≠0) (k:p+b.length<=32768) (l:((eV f.nodes).2:Int)+((max x.fl.b.length (p+b.length):Nat):Int)-(x.fl.b.length:Int)<=f.room) :
    je f s (p:Int) b j=if(gw f).1≠0 then gw f else(0,{(gw f).2 with nodes:=gY f.nodes x.id fun z=>{z with no:={z.no with kI:=j},fl:={x.fl with b:=jr x.fl.b p b}}}):=by
  have e:zV x.fl (p:Int) b=(0,{x.fl with b:=jr x.fl.b p b}):=(by rw[XL Xx Xx hb,Int.toNat_natCast]);have d:¬(0<(((jr x.fl.b p b).length:Nat):Int)-(x.fl.b.length:Int)/\f.room<((eV f.nodes).2:Int)+((((jr x.fl.b p b).length:Nat):Int)-(x.fl.b.length:Int))):=(by rw[p7];omega);by_cases hc:(gw f).1=0
  · rw[if_neg (by simpa using hc)]
    exact xV (mZ h g i) e q (a:=(eV f.nodes).1) (z:=(eV f.nodes).2) q d (c:=(gw f).1) (m:=(gw f).2) q hc
  rw[if_pos (by simpa using hc)];exact MN (mZ h g i) e q (a:=(eV f.nodes).1) (z:=(eV f.nodes).2) q d (c:=(gw f).1) (m:=(gw f).2) q hc
theorem zo {f:ey} {s:Ly} {x:gJ} (c:f.off=false) (hf:f.iV = -1) (a:gG s=true) (d:dU f.nodes s=some x):oc f s=(0,{f with nodes:=gY f.nodes x.id fun z=>{z with fl:={b:=x.fl.b,safe:=x.fl.b}}}):=aeu (mZ c a d) (qo hf) q
theorem HB (l:List gJ) (x:gJ) (s:Ly) (h:dU l s=none) (h1:x.no.there=true) (a:x.no.nm=s):dU (l ++ [x]) s=some x:=by
  induction l with
  | nil=>rw[List.nil_append,dU,if_pos ⟨h1,a⟩]
  | cons y l ih =>
    rw[dU]at h;split at h
    · cases h
    · rename_i hy;rw[List.cons_append,dU,if_neg hy];exact ih h
theorem QT (x:gJ) (h1:x.no.there=true):∀l:List gJ,eV (l ++ [x])=((eV l).1+1,(eV l).2+x.fl.b.length)
  | []=>by simp[eV,h1]
  | y :: l=>by
    rw[List.cons_append,eV,QT x h1 l,eV];split
    · exact Prod.ext q Yx
    · rfl
theorem JO {l:List gJ} {x:gJ} {g:gJ->gJ} (h:((l ++ [x]).map (·.id)).Nodup):gY (l ++ [x]) x.id g=l ++ [g x]:=by unfold gY;rw[List.map_append,List.map_singleton,if_pos q];congr 1;refine(List.map_congr_left fun z A=>?_).trans<|List.map_id l;rw[List.map_append,List.nodup_append]at h;exact if_neg<|h.2.2 _ (List.mem_map.2 ⟨z,A,q⟩) _ Oj
theorem CW:∀{l:List gJ} {s:Ly} {x:gJ},dU l s=some x->x∈l/\x.no.there=true/\x.no.nm=s
  | [],_,_,h=>by simp[dU]at h
  | y :: l,s,x,h=>by
    rw[dU]at h;split at h
    · rename_i hy;cases h;exact⟨by simp,hy⟩
    · obtain⟨a,b⟩:=CW h;exact⟨by simp[a],b⟩
theorem JP {l:List gJ} {i:Nat} {g:gJ->gJ} (h:i∉l.map (·.id)):gY l i g=l:=by unfold gY;refine(List.map_congr_left fun z B=>if_neg fun(e:z.id=i)=>h<|e ▸ List.mem_map.2 ⟨z,B,q⟩).trans<|List.map_id l
theorem um {g:gJ->gJ} (c:∀z,(g z).no.nm=z.no.nm/\(g z).no.there=z.no.there):∀{l:List gJ} {s:Ly} {x:gJ},(l.map (·.id)).Nodup->dU l s=some x->dU (gY l x.id g) s=some (g x)/\(eV<|gY l x.id g).2+x.fl.b.length=(eV l).2+(g x).fl.b.length/\(eV<|gY l x.id g).1=(eV l).1/\x.fl.b.length<=(eV l).2
  | [],_,_,_,h=>by simp[dU]at h
  | y :: l,s,x,hn,h=>by
    rw[List.map_cons,List.nodup_cons]at hn;rw[dU]at h;split at h
    · rename_i hy
      cases h;have a:gY (y :: l) y.id g=g y :: l:=(by have:=JP (g:=g) hn.1;unfold gY at this ⊢;rw[List.map_cons,if_pos q,this]);rw[a,dU,if_pos ⟨by rw[(c y).2];exact hy.1,by rw[(c y).1];exact hy.2⟩,eV,eV,if_pos hy.1,if_pos (by rw[(c y).2];exact hy.1)];exact⟨q,by simp only;omega,q,by simp only;omega⟩
    · rename_i hy
      obtain⟨e,C,D,f⟩:=um c hn.2 h;have d:y.id≠x.id:=fun a=>hn.1<|a ▸ List.mem_map.2 ⟨x,(CW h).1,q⟩;have a:gY (y :: l) x.id g=y :: gY l x.id g:=(by unfold gY;rw[List.map_cons,if_neg d]);rw[a,dU,if_neg hy,eV,eV];refine⟨e,?_⟩;split
      · simp only;omega
      · exact⟨C,D,f⟩
theorem aaA (f:ey) (s:Ly) (p:Int) (b:Ly) (j:Nat):(je f s p b j).2.nodes.map (·.id)=f.nodes.map (·.id):=by
  have A:=(mH f).1;unfold je;split
  · rfl
  split
  · rfl
  split
  · rfl
  split
  · rfl
  split
  · rw[A]
  exact p6 fun _=>rfl
theorem aev (f:ey) (s:Ly):(oc f s).2.nodes.map (·.id)=f.nodes.map (·.id):=by
  have A:=(mH f).1;unfold oc;split
  · rfl
  split
  · rfl
  split
  · rw[A]
  exact p6 fun _=>rfl
theorem JL (p:Nat × ey) (g:ey->Nat × ey) (h:∀m,(g m).2.nodes.map (·.id)=m.nodes.map (·.id)):(stepW p g).2.nodes.map (·.id)=p.2.nodes.map (·.id):=by unfold stepW;split;rfl;exact h _
theorem wG {f:ey} (a:f.off=false) {n:Int} (b:0<n):n<=nq f↔n<=f.room-((eV f.nodes).2:Int):=by unfold nq;rw[a];simp only[Bool.false_eq_true,if_false];split <;> omega
theorem ye {f g:ey} {s a:Ly} {i j q r:Nat} (e:lQ f s a i j q=(r,g)) (k:f.off=false) (hf:f.iV = -1) (hs:gG s=true) (B:(g.nodes.map (·.id)).Nodup) (E:1<=a.length/\a.length<=32768) :
    (nq f<(a.length:Int)->r=15/\g=f)/\((a.length:Int)<=nq f->((∃x,dU f.nodes s=some x)->r=17/\g=f)/\(dU f.nodes s=none->(eV f.nodes).1<24->r=0/\∃z:gJ,z.no.nm=s/\z.no.there=true/\z.fl=⟨a,a⟩/\g={f with nodes:=f.nodes ++ [z],pend:=f.pend ++ [⟨0,z.id,[],none⟩]})):=by
  unfold lQ at e;rw[if_neg (by rw[k];simp)]at e;refine⟨fun h=>?_,fun h=>⟨fun⟨x,d⟩=>?_,fun d u=>?_⟩⟩
  · rw[if_pos h]at e;cases e;exact⟨rfl,rfl⟩
  · rw[if_neg Xx,Wv (wH<|mZ k hs d) rfl,pR (pR rfl Xz) Xz]at e
    cases e;exact⟨rfl,rfl⟩
  rw[if_neg Xx,Z9 k hf hs d u]at e;have P:=(wG k Xx).1 h;generalize hz:(⟨i,⟨s,true,j⟩,⟨[],[]⟩⟩:gJ)=z at e;have C:z.id=i/\z.no.nm=s/\z.no.there=true/\z.fl=⟨[],[]⟩:=(by rw[<- hz];exact⟨rfl,rfl,rfl,rfl⟩);have t:=C.1;rw[<- t]at e;generalize hm:({f with nodes:=f.nodes ++ [z],pend:=f.pend ++ [⟨0,z.id,[],none⟩]}:ey)=m at e;have c:m.nodes=f.nodes ++ [z]/\m.off=false/\m.iV = -1/\m.room=f.room:=(by rw[<- hm];exact⟨rfl,k,hf,rfl⟩);have v:(m.nodes.map (·.id)).Nodup:=by have n:=JL (stepW ((0:Nat),m) fun m=>je m s 0 a q) (fun m=>oc m s) fun m=>aev m s;rw[e,JL _ _ fun m=>aaA m s 0 a q]at n;rw[<- n];exact B
  have o:dU m.nodes s=some z:=(by rw[c.1];exact HB _ _ _ d C.2.2.1 C.2.1);have w:(eV m.nodes).2=(eV f.nodes).2:=(by rw[c.1,QT z C.2.2.1,C.2.2.2];rfl);have G:=UL (j:=q) (p:=0) (b:=a) c.2.1 hs o Xx Xx (by rw[w,c.2.2.2,C.2.2.2];simp only[List.length_nil];omega);rw[qo c.2.2.1]at G;simp only[ne_eq,not_true_eq_false,if_false]at G;have H:jr z.fl.b 0 a=a:=(by rw[C.2.2.2];unfold jr;simp);rw[H]at G;rw[kH ((kH rfl).trans G)]at e;have l:=v;rw[c.1]at l;have A:gY m.nodes z.id (fun y=>{y with no:={y.no with kI:=q},fl:={z.fl with b:=a}})=f.nodes ++ [{z with no:={z.no with kI:=q},fl:={z.fl with b:=a}}]:=(by rw[c.1];exact JO l);rw[A]at e;generalize hy:({z with no:={z.no with kI:=q},fl:={z.fl with b:=a}}:gJ)=y at e;have D:y.id=z.id/\y.no.nm=s/\y.no.there=true/\y.fl.b=a:=(by rw[<- hy];exact⟨rfl,C.2.1,C.2.2.1,rfl⟩);rw[zo (f:={m with nodes:=f.nodes ++ [y]}) (x:=y) c.2.1 c.2.2.1 hs (HB _ _ _ d D.2.2.1 D.2.1)]at e;simp only at e;rw[JO (by rw[List.map_append,List.map_singleton,D.1];rw[List.map_append,List.map_singleton]at l;exact l)]at e;cases e;refine⟨rfl,{y with fl:={b:=y.fl.b,safe:=y.fl.b}},D.2.1,D.2.2.1,by rw[D.2.2.2],?_⟩;rw[<- hm];simp only[D.1]
theorem zw {l:List gJ} {i:Nat} {g h:gJ->gJ} (a:∀z,(g z).id=z.id):gY (gY l i g) i h=gY l i fun z=>h (g z):=by
  unfold gY;rw[List.map_map];refine List.map_congr_left fun z _=>?_;simp only[Function.comp_apply];by_cases e:z.id=i
  · rw[if_pos e,if_pos (by rw[a];exact e),if_pos e]
  rw[if_neg e,if_neg e,if_neg e]
theorem Rc {f:ey} {s:Ly} {p:Nat} {b:Ly} {j:Nat} {x:gJ} (d:f.off=false) (hf:f.iV = -1) (c:gG s=true) (e:dU f.nodes s=some x) (g:p+b.length<=32768) (h:x.fl.b.length<p+b.length->((eV f.nodes).2:Int)+((p+b.length:Nat):Int)-(x.fl.b.length:Int)<=f.room) :
    je f s (p:Int) b j=(0,{f with nodes:=gY f.nodes x.id fun z=>{z with no:={z.no with kI:=j},fl:={x.fl with b:=if b.length=0 then x.fl.b else jr x.fl.b p b}}}):=by
  by_cases hb:b.length=0
  · rw[if_pos hb]
    exact xV (mZ d c e) (ak3 Xx Xx hb) q (a:=(eV f.nodes).1) (z:=(eV f.nodes).2) q (by show ¬(0<((x.fl.b.length:Nat):Int)-_/\_);omega) (qo hf) q
  rw[if_neg hb];refine xV (mZ d c e) (y:={x.fl with b:=jr x.fl.b p b}) (by rw[XL Xx Xx hb,Int.toNat_natCast]) q (a:=(eV f.nodes).1) (z:=(eV f.nodes).2) q ?_ (qo hf) rfl;simp only[p7];omega
theorem XC {f w:ey} {s x:Ly} {i j r:Nat} {z:gJ} (e:ko false f s x i j=(r,w)) (a:f.off=false) (hf:f.iV = -1) (hs:gG s=true) (nd:(f.nodes.map (·.id)).Nodup) (m:dU f.nodes s=some z) (U:1<=x.length/\x.length<=32768) (hl:z.fl.b.length<=x.length) :
    (nq f<(x.length:Int)-(z.fl.b.length:Int)->r=15/\w=f)/\((x.length:Int)-(z.fl.b.length:Int)<=nq f->r=0/\w={f with nodes:=gY f.nodes z.id fun y=>{y with no:={y.no with kI:=j},fl:=⟨x,x⟩}}):=by
  have I:AB f.off f.nodes s=(z.fl.b.length,0):=AU (mZ a hs m) rfl;unfold ko at e;rw[if_neg Oj,I]at e;simp only[ne_eq,not_true_eq_false,if_false]at e;refine⟨fun h=>?_,fun h=>?_⟩
  · rw[if_pos h]at e;cases e;exact⟨q,q⟩
  rw[if_neg Xx]at e;have E:z.fl.b.length<x.length->((eV f.nodes).2:Int)+(x.length:Int)-(z.fl.b.length:Int)<=f.room:=fun o=>by have:=(wG a Xx).1 h;omega
  unfold QH at e;generalize hp:min 512 x.length=p at e;have d:(x.drop p).length=x.length-p:=List.length_drop;have J:(x.take p).length=p:=(by rw[List.length_take];omega)
  -- the first part
  have v:=Rc (j:=i) (p:=p) (b:=x.drop p) a hf hs m Xx (fun o=>by have:=E Xx;omega);generalize hb1:(if(x.drop p).length=0 then z.fl.b else jr z.fl.b p (x.drop p))=b1 at v;have A:b1.length<=x.length/\z.fl.b.length<=b1.length/\b1.drop p=x.drop p:=by
    subst hb1;split
    · exact⟨hl,Nat.le_refl _,by rw[List.drop_of_length_le Xx,List.drop_of_length_le Xx]⟩
    · rename_i hne
      refine⟨by rw[p7];omega,by rw[p7];omega,?_⟩;unfold jr;have L:((z.fl.b ++ List.replicate (p+(x.drop p).length-z.fl.b.length) 0).take p).length=p:=(by rw[List.length_take,List.length_append,List.length_replicate];omega);have H:(z.fl.b ++ List.replicate (p+(x.drop p).length-z.fl.b.length) 0).drop (p+(x.drop p).length)=[]:=List.drop_of_length_le (by rw[List.length_append,List.length_replicate];omega);rw[List.append_assoc,List.drop_left' L,H,List.append_nil]
  generalize hg1:(fun y:gJ=>({y with no:={y.no with kI:=i},fl:={z.fl with b:=b1}}:gJ))=g1 at v;have D:∀y,(g1 y).id=y.id:=fun y=>by rw[<- hg1]
  have P:∀y,(g1 y).no.nm=y.no.nm/\(g1 y).no.there=y.no.there:=fun y=>by rw[<- hg1];exact⟨q,q⟩
  have K:(g1 z).fl.b=b1:=(by rw[<- hg1]);obtain⟨M,g,_,k⟩:=um P nd m;have c:((gY f.nodes z.id g1).map (·.id)).Nodup:=(by rw[p6 D];exact nd);have n:=zo (f:={f with nodes:=gY f.nodes z.id g1}) (s:=s) (x:=g1 z) a hf hs M;simp only at n;rw[D z,zw D]at n;generalize hg2:(fun y:gJ=>({g1 y with fl:={b:=(g1 z).fl.b,safe:=(g1 z).fl.b}}:gJ))=g2 at n;have V:nY f s p (x.drop p) i=(0,{f with nodes:=gY f.nodes z.id g2}):=(by unfold nY;rw[kH v];exact n);rw[kH V]at e;have t:∀y,(g2 y).id=y.id:=fun y=>by rw[<- hg2];exact D y
  have Q:∀y,(g2 y).no.nm=y.no.nm/\(g2 y).no.there=y.no.there:=fun y=>by rw[<- hg2];exact P y
  have B:(g2 z).fl.b=b1:=(by rw[<- hg2];exact K);obtain⟨N,O,_,l⟩:=um Q nd m
  -- the second part
  have C:=Rc (f:={f with nodes:=gY f.nodes z.id g2}) (j:=j) (p:=0) (b:=x.take p) (x:=g2 z) a hf hs N Xx (fun o=>by rw[B]at o O ⊢;simp only;have:=E Xx;omega);simp only at C;rw[t z,zw t,if_neg Xx,B]at C;have G:jr b1 0 (x.take p)=x:=by
    unfold jr;rw[List.take_zero,List.nil_append,Nat.zero_add,J];by_cases h9:p<=b1.length
    · rw[show p-b1.length=0 by omega,List.replicate_zero,List.append_nil,A.2.2,List.take_append_drop]
    · have R:x.drop p=[]:=by rw[<- A.2.2];exact List.drop_of_length_le Xx
      rw[List.drop_of_length_le (by rw[List.length_append,List.length_replicate];omega),<- R,List.take_append_drop]
  rw[G]at C;generalize hg3:(fun y:gJ=>({g2 y with no:={(g2 y).no with kI:=j},fl:={(g2 z).fl with b:=x}}:gJ))=g3 at C;have F:∀y,(g3 y).id=y.id:=fun y=>by rw[<- hg3];exact t y
  have n3:∀y,(g3 y).no.nm=y.no.nm/\(g3 y).no.there=y.no.there:=fun y=>by rw[<- hg3];exact Q y
  have T:(g3 z).fl.b=x:=(by rw[<- hg3]);obtain⟨S,_⟩:=um n3 nd m;have u:=zo (f:={f with nodes:=gY f.nodes z.id g3}) (s:=s) (x:=g3 z) a hf hs S;simp only at u;rw[F z,zw F,T]at u;have W:nY {f with nodes:=gY f.nodes z.id g2} s 0 (x.take p) j=(0,{f with nodes:=gY f.nodes z.id fun y=>{g3 y with fl:={b:=x,safe:=x}}}):=(by unfold nY;rw[kH C];exact u);rw[W]at e;cases e;refine⟨q,?_⟩;congr 1;congr 1;funext y;rw[<- hg3,<- hg2,<- hg1]
end Go.Proofs.YtfadcpfgenjbeaaGreat
namespace Go.Wk
open Go Go.RowKit
theorem EW {p:d9} {h:eI} {depth:Nat} (hd:(p.eS,p.cr,p.state,p.bE,p.bO,p.aR,p.seq,p.bP,p.bR,p.cF)=(h.eS,h.cr,h.state,h.bE,h.bO,h.aR,h.seq,h.bP,h.bR,h.cF)) (g:p.n=h.n ++ [depth]):rE p=zH h depth:=by simp only[Prod.mk.injEq]at hd;obtain⟨b,C,D,c,d,G,H,e,f,a⟩:=hd;unfold rE zH zS;rw[b,C,D,c,d,G,H,e,f,a,g,HX];simp only[nums,List.append_assoc,List.append_nil]
theorem sI {c:gZ} {t:Nat} (ok:gZ.ok c) (h:1<=c.aj/\c.aj<=64/\1<=c.ak/\c.ak<=64) :
    (iG c t).b=jl (eC c t) 1/\(iG c t).b.length=304+16*c.aj+16*c.ak:=by
  have B:=(gd 4<|List.replicate c.aj ({first:=0,tail:=0}:sF)).2<|.inl q;have C:=(gd 5<|List.replicate c.ak ({first:=0,tail:=0}:sF)).2<|.inr q;rw[List.length_replicate]at B C;have A:(iG c t).b=jl (eC c t) 1:=by
    unfold iG eC jl;generalize dc 4 (List.replicate c.aj ({first:=0,tail:=0}:sF))=T4;generalize dc 5 (List.replicate c.ak ({first:=0,tail:=0}:sF))=T5;have A:∀(x y:Ly),x=y->∀z:List UInt8,x ++ z=y ++ z:=fun x y h z=>by rw[h]
    exact A _ _ (EW q q) _
  refine⟨A,?_⟩;rw[A];unfold jl eC zH;simp only[List.length_append,List.length_drop,List.length_replicate,eM,cP,List.length_cons,List.length_nil,List.length_set,ok.1,ok.2.1,ok.2.2.1];omega
theorem af5 {c:gZ} {t:Nat}:272<=(eC c t).b.length/\(eC c t).b.length<=320+16*c.aj+16*c.ak:=by have A:=(gd 4<|List.replicate c.aj ({first:=0,tail:=0}:sF)).1;have B:=(gd 5<|List.replicate c.ak ({first:=0,tail:=0}:sF)).1;rw[List.length_replicate]at A B;unfold eC;simp only[List.length_append,List.length_replicate];omega
end Go.Wk
namespace Go.Proofs.YtfadcpfgenjbeaaGreat
open Go Go.Wk Go.RowKit
set_option linter.unusedVariables false
set_option linter.unusedSimpArgs false
attribute [local irreducible] wpList wpQuiet wpStill eF Code.wp Calls bodyPost
variable {w:World} {Q:Nat->Prop}
def ya:gZ:={bE:=idF 0,bO:=idF 0,seq:=idF 0,aj:=1,ak:=1,cK:=32768,bL:=false}
theorem aeX:((Sq.mk [] 0).config).1=ya:=rfl
theorem VA:gZ.ok ya:=by unfold gZ.ok;decide
def LM:Pr:={name:=[65],value:=[49]}
instance (d:bw) (a b:Nat) (t:Ly) (k:Nat):Decidable (bw.okL d a b t k):=by unfold bw.okL;infer_instance
instance (d:bw) (x:Pr):Decidable (bw.EO d x):=by unfold bw.EO;infer_instance
instance (d:bw) (a n:Nat):Decidable (bw.nV d a n):=by unfold bw.nV;infer_instance
def yh:bw:=iG ya 4
def zW:eG:=(yh.data LM.name (ez LM).1).1
def fD1:bw:=(yh.data LM.name (ez LM).1).2
def fE0:lu:={seq:=5,aY:=1,mono:=1,aR:=pB,xor:=0,bg:=[]}
def fE1:lu:={seq:=5,aY:=1,mono:=1,aR:=pB,xor:=lH 0 [(ez LM).1],bg:=[zW]}
def uX:Nat × bw:=fD1.add<|bT fE1
def fD3:bw:=uX.2.link uX.1 [zW]
def fD4:bw:=fD3.mark uX.1 5 1 1 pB
theorem zn (x:eG):kK [x]=[x]:=by simp[kK]
theorem YB (x:Pr) (d:bw):bw.jg [x] d []=([(d.data x.name (ez x).1).1],(d.data x.name (ez x).1).2):=by generalize h:d.data x.name (ez x).1=y;obtain⟨i,A⟩:=y;unfold bw.jg;rw[h];rfl
theorem yq:bw.jg [LM] yh []=([zW],fD1):=YB LM yh
theorem VL:bw.zC fE0 [LM] [zW]=fE1:=by unfold bw.zC;rw[zn];rfl
theorem PO {p:Nat} {x:eG} {d:bw} (h:x.pos+64<=d.b.length/\(d8 d.b (x.pos+56)≠0->d.nV (x.pos+48) (d8 d.b (x.pos+56)-1))/\d8 d.b (x.pos+56)<=1000000/\d.b.length<=800000/\d.h.n.getD 0 0<=d.b.length):bw.rB p [x] d:=⟨h,tV⟩
theorem aiO:yh.EO LM:=by decide +kernel
theorem agA:fD1.b.length<=700000/\fD1.h.n.getD 0 0<=fD1.b.length:=by decide +kernel
theorem abF:(uX.2.nV 176 (uX.2.aT 8)/\184<=uX.2.b.length)/\(let z:=(uX.2.list 176 (uX.2.aT 8) uX.1).2.2.sX (uX.2.list 176 (uX.2.aT 8) uX.1).1 (uX.2.list 176 (uX.2.aT 8) uX.1).2.1;zW.pos+64<=z.b.length/\(d8 z.b (zW.pos+56)≠0->z.nV (zW.pos+48) (d8 z.b (zW.pos+56)-1))/\d8 z.b (zW.pos+56)<=1000000/\z.b.length<=800000/\z.h.n.getD 0 0<=z.b.length):=by decide +kernel
theorem aiP:uX.2.b.length<=800000/\uX.2.h.n.getD 0 0<=uX.2.b.length/\uX.2.h.n.getD 8 0<=1000000/\272<=(uX.2.link uX.1 [zW]).b.length/\(uX.2.link uX.1 [zW]).b.length<=1000000/\(uX.2.link uX.1 [zW]).h.state<256:=by decide +kernel
theorem pG:fD4.aT 9=5/\fD4.b.length<=32768/\yh.b.length<=fD4.b.length/\yh.aT 9=4/\yh.b.length=336:=by decide +kernel
theorem aiQ:336<fD4.b.length:=by decide +kernel
theorem wB:iG ya 4=yh:=rfl
section
attribute [local irreducible] yh zW fD1 uX fD3 fD4 bw.link bw.add bw.sX bw.list
theorem VK:fD1.add (bT fE1)=uX:=by unfold uX;rfl
theorem ah7 (r:Nat × bw):(match r with|(p,a)=>(a.link p [zW]).mark p fE0.seq fE0.aY fE0.mono fE0.aR)=(r.2.link r.1 [zW]).mark r.1 5 1 1 pB:=by obtain⟨p,a⟩:=r;rfl
theorem YL:yh.entry [LM] fE0=fD4:=by unfold bw.entry;rw[yq];simp only;rw[VL,VK,zn];refine(ah7 uX).trans ?_;unfold fD4 fD3;rfl
theorem aiR:uX.2.vR uX.1 [zW]:=by unfold bw.vR;exact⟨abF.1.1,abF.1.2,PO abF.2⟩
theorem afc (r:Nat × bw) (h:r.2.vR r.1 [zW]) (k:r.2.b.length<=800000/\r.2.h.n.getD 0 0<=r.2.b.length/\r.2.h.n.getD 8 0<=1000000/\272<=(r.2.link r.1 [zW]).b.length/\(r.2.link r.1 [zW]).b.length<=1000000/\(r.2.link r.1 [zW]).h.state<256) :
    (match r with|(p,a)=>a.vR p [zW]/\a.b.length<=800000/\a.h.n.getD 0 0<=a.b.length/\a.h.n.getD 8 0<=1000000/\272<=(a.link p [zW]).b.length/\(a.link p [zW]).b.length<=1000000/\(a.link p [zW]).h.state<256):=by
  obtain⟨p,a⟩:=r;exact⟨h,k⟩
theorem YM:yh.IJ [LM] fE0:=by
  refine⟨⟨aiO,tV⟩,?_,?_⟩
  · rw[yq];simp
  rw[yq];simp only;rw[VL,zn];rw[VK];exact⟨agA.1,agA.2,afc uX aiR aiP⟩
theorem NQ:gX [LM]=([LM],0):=by have e:vp [LM]=[LM]:=(by unfold vp nZ;rw[List.mergeSort_singleton];rfl);unfold gX EQ;rw[if_neg Xz,e];rfl
def HA (b:Nat) (s:Ly) (d:bw) (n:Nat):js:={fs:=b,name:=s,cK:=32768,d:=d,waiting:=n,dN:=false}
theorem abD (b:Nat) (s:Ly):(HA b s yh 0).append [] 1 1 pB=(0,16,HA b s yh 0):=by unfold js.append;rw[if_neg (by simp[HA]),show gX []=([],16)from rfl];simp only;rw[if_pos Xz]
theorem afd (b:Nat) (s:Ly):(HA b s yh 0).vn [] 1 1 pB:=fun _ h=>by rw[show gX []=([],16)from rfl]at h;simp at h
theorem abE (b:Nat) (s:Ly):(HA b s yh 0).append [LM] 1 1 pB=(5,0,HA b s fD4 1):=by have e:=pG;unfold js.append;rw[if_neg (by simp[HA]),NQ];simp only;have A:(HA b s yh 0).pA 1 1 pB=fE0:=(by unfold js.pA fE0;show({seq:=yh.aT 9+1,..}:lu)=_;rw[e.2.2.2.1]);rw[if_neg Oj,A,show(HA b s yh 0).d=yh from rfl,YL,if_neg Xx,if_neg (by show ¬32768<_;omega),e.1];rfl
theorem afe (b:Nat) (s:Ly):(HA b s yh 0).vn [LM] 1 1 pB:=fun _ _ _=>by have a:=pG;rw[NQ];have c:(HA b s yh 0).pA 1 1 pB=fE0:=(by unfold js.pA fE0;show({seq:=yh.aT 9+1,..}:lu)=_;rw[a.2.2.2.1]);rw[c];exact⟨YM,by decide,by decide⟩
theorem afb (b:Nat) (s:Ly) (d:bw) (n:Nat):({fs:=b,name:=s,cK:=ya.cK,d:=d,waiting:=n,dN:=false}:js)=HA b s d n:=rfl
theorem ag9 (b:Nat) (s:Ly) (d:bw) (n:Nat):(HA b s d n).fs=b/\(HA b s d n).name=s/\(HA b s d n).d=d/\(HA b s d n).waiting=n/\(HA b s d n).dN=false/\(HA b s d n).cK=32768:=⟨q,q,q,q,q,q⟩
end
theorem xC:aJ Zp 29 0=some 0:=Xj
theorem WH:aJ Zp 29 1=some 16:=Xj
theorem WI:aJ Zp 29 2=some 32:=Xj
theorem AY:aJ Zp 29 3=some 48:=Xj
theorem AZ:aJ Zp 29 4=some 49:=Xj
theorem LA:aJ Zp 29 5=some 50:=Xj
theorem xD:aJ Zp 29 6=some 51:=Xj
theorem alv:fG Zp 41=some [(0,16),(16,16),(32,16),(48,1),(49,1),(50,1),(51,1)]:=Xj
theorem z41:dX Zp 41=some (List.replicate 48 (.int .u8 0) ++ ([.int .i64 0,.int .i64 0,.int .i64 0,.bool false])):=Xj
abbrev zz4:gZ:={bE:=pB,bO:=pB,seq:=pB,aj:=0,ak:=0,cK:=0,bL:=false}
theorem HT (k:Up w Q) (c:gZ) (j:gZ.ok c) :
  Calls Zp 13 #[.agg (gZ.cells c).toArray] w fun x y=>∃m:gZ,x = .returned (.agg (gZ.cells m).toArray)/\Md [] w y/\gZ.ok m/\c=m:=by
 have e:=Md.refl [] w;have F:=k;refine enter (n:=18) Tryz.func13 q q q fun z=>ns<|e7 (cs:=(gZ.cells c)) q q ?_;intro r g l T i a;have B:=k _ l;have l:=lv e.size l;obtain⟨k,e⟩:=k2 i k e;refine dP z41 ?_;intro H h D s i C;have A:r≠H:=(by have:=a.lt;omega);obtain⟨J,V,W,P,o⟩:=oI k D s i;have D:=lv e.size D;obtain⟨a,e⟩:=k2 i a e;have k:=o;have G:aX [] w H:=.inr D;have C:bK _ _ (gZ.cells<|zz4) _:=C;have R:gZ.ok (zz4):=(by exact⟨q,q,q,Xz,Xz,Xz⟩);refine nt<|ns<|sf q xC<|su (bU (iD c.bE) q (by exact iT) a q) ?_;have K:c.bE.length=16:=j.1;refine sf q WH<|su (bU (iD c.bO) q (by exact iT) a q) ?_;have b:c.bO.length=16:=j.2.1;refine sf q WI<|su (bU (iD c.seq) q (by exact iT) a q) ?_;have d:c.seq.length=16:=j.2.2.1;refine sf q AY<|sl (u:=(iZ c.aj)) q gQ a q ?_;have L:c.aj<9223372036854775808:=j.2.2.2.1;refine sf q AZ<|sl (u:=(iZ c.ak)) q gQ a q ?_;have f:c.ak<9223372036854775808:=j.2.2.2.2.1;refine sf q LA<|sl (u:=(iZ c.cK)) q gQ a q ?_;have E:c.cK<9223372036854775808:=j.2.2.2.2.2;refine sf q xD<|sl (u:=(.bool c.bL)) q vT a q<|su (dI (us:=[(iD c.bE),(iD c.bO),(iD c.seq),[(iZ c.aj)],[(iZ c.ak)],[(iZ c.cK)],[(.bool c.bL)]]) (cs:=(gZ.cells<|({bE:=c.bE,bO:=c.bO,seq:=c.seq,aj:=c.aj,ak:=c.ak,cK:=c.cK,bL:=c.bL}:gZ))) [(0,0,16),(1,16,16),(2,32,16),(3,48,1),(4,49,1),(5,50,1),(6,51,1)] z41 alv q q Fz Fz q (by simp[mh,dZ,iD,gZ.cells]))<|cA (us:=(gZ.cells<|({bE:=c.bE,bO:=c.bO,seq:=c.seq,aj:=c.aj,ak:=c.ak,cK:=c.cK,bL:=c.bL}:gZ))) q q (by exact aaQ) (by exact fun u t=>dB (gZ.one) u t) C (lq q) ?_;have p:=C;intro I i C;have e:=e.step i<|hI G;have C:bK _ _ (gZ.cells<|({bE:=c.bE,bO:=c.bO,seq:=c.seq,aj:=c.aj,ak:=c.ak,cK:=c.cK,bL:=c.bL}:gZ)) _:=C;refine nt<|lO ?_;exact kY (v:=(.agg (gZ.cells<|({bE:=c.bE,bO:=c.bO,seq:=c.seq,aj:=c.aj,ak:=c.ak,cK:=c.cK,bL:=c.bL}:gZ)).toArray)) trivial q ⟨⟨_,q,oW (cs:=(gZ.cells<|({bE:=c.bE,bO:=c.bO,seq:=c.seq,aj:=c.aj,ak:=c.ak,cK:=c.cK,bL:=c.bL}:gZ))) (by exact aaQ) C⟩,tV⟩ ⟨(({bE:=c.bE,bO:=c.bO,seq:=c.seq,aj:=c.aj,ak:=c.ak,cK:=c.cK,bL:=c.bL}:gZ)),q,e,Xk,q⟩
theorem ahB:cO Zp 47=true:=Xj
theorem ala:cO Zp 58=true:=Xj
theorem alb:cO Zp 59=true:=Xj
theorem GH:gH Zp 29 52=true:=Xj
theorem alu:fG Zp 29=some [(0,16),(16,16),(32,16),(48,1),(49,1),(50,1),(51,1)]:=Xj
theorem z29:dX Zp 29=some (List.replicate 48 (.int .u8 0) ++ ([.int .i64 0,.int .i64 0,.int .i64 0,.bool false])):=Xj
theorem zI (m:Up w Q) {h:Nat} {aE:Value} (s:Sq) (j:bK w h (Sq.cells s aE) 33) (n0:¬Q h) (aT:Sq.ok s) (Y:Ls pC w Q aE s.l) :
  Calls Zp 9 #[.pointer (some ⟨h,0,none⟩)] w fun E ad=>∃Z:gZ,∃N:Sq,∃aD:Value,E = .returned (.agg (gZ.cells Z).toArray)/\Md [h] w ad/\gZ.ok Z/\bK ad h (Sq.cells N aD) 33/\¬Q h/\Sq.ok N/\Ls pC ad Q aD N.l/\s.config=(Z,N):=by
 have C:=n0;have R:aX [h] w h:=.inl Oj;have bk:=m;refine nR (n:=22) [h] m Tryz.func9 q q q fun a5 u ab _=>ns<|dP z29 ?_;intro F bl M aS e D;have ba:h≠F:=(by have:=j.lt;omega);obtain⟨L,aC,aa,aK,ay⟩:=oI m M aS e;have C:=nQ C aa;have ab:=tT ab aa;have M:=lv u.size M;have Y:=(Y.sub aC).o e;obtain⟨j,u⟩:=k2 e j u;have m:=ay;have aL:aX [] w F:=.inr M;have D:bK _ _ (gZ.cells<|zz4) _:=D;have bd:gZ.ok (zz4):=(by exact⟨q,q,q,Xz,Xz,Xz⟩);refine nt<|nM q<|Rz KS q (qY m s j C aT Y 5 Xx Xx) ?_;rintro E bm ⟨aM,au,aZ,rfl,e,be,x,ah,aG,S,ae⟩;have T:∀i∈[h],aX [h] w i:=hI R;have B:∀i∈[h],¬L i:=hI C;have A:F∉[h]:=bH Xx Oj;have D:=D.md e A;have u:=u.step e T;have m:=m.md e;have j:=x;have C:=ah;have am:=Sq.lB s 5;rw[ae]at am;try simp only[LL,Nat.reduceAdd,Nat.reduceMul]at am
 refine Rz ahB q (KY m (((aM:Nat):Int)) Xx) ?_;rintro E bn ⟨J,rfl,e,bf,aP⟩;obtain⟨j,D,S,m,u⟩:=k5 e j D S m u;refine mv q<|Rz KS q (qY m au j C aG S 5 Xx Xx) ?_;rintro E bo ⟨aN,av,a0,rfl,e,bg,y,ai,aH,U,af⟩;have T:∀i∈[h],aX [h] w i:=hI R;have B:∀i∈[h],¬L i:=hI C;have A:F∉[h]:=bH Xx Oj;have D:=D.md e A;have u:=u.step e T;have m:=m.md e;have j:=y;have C:=ai;have an:=Sq.lB au 5;rw[af]at an;try simp only[LL,Nat.reduceAdd,Nat.reduceMul]at an
 refine Rz ahB q (KY m (((aN:Nat):Int)) Xx) ?_;rintro E bp ⟨K,rfl,e,bh,aQ⟩;obtain⟨j,D,U,m,u⟩:=k5 e j D U m u;refine mv q<|Rz KS q (qY m av j C aH U 5 Xx Xx) ?_;rintro E bq ⟨aO,aw,a1,rfl,e,bi,z,al,aI,X,ag⟩;have T:∀i∈[h],aX [h] w i:=hI R;have B:∀i∈[h],¬L i:=hI C;have A:F∉[h]:=bH Xx Oj;have D:=D.md e A;have u:=u.step e T;have m:=m.md e;have j:=z;have C:=al;have ao:=Sq.lB av 5;rw[ag]at ao;try simp only[LL,Nat.reduceAdd,Nat.reduceMul]at ao
 refine Rz ahB q (KY m (((aO:Nat):Int)) Xx) ?_;rintro E br ⟨P,rfl,e,bj,aR⟩;obtain⟨j,D,X,m,u⟩:=k5 e j D X m u;refine mv q<|Rz KS q (qY m aw j C aI X 7 Xx Xx) ?_;rintro E a6 ⟨I,r,a2,rfl,e,bb,V,aA,f,d,ap⟩;have T:∀i∈[h],aX [h] w i:=hI R;have B:∀i∈[h],¬L i:=hI C;have A:F∉[h]:=bH Xx Oj;have D:=D.md e A;have u:=u.step e T;have m:=m.md e;have j:=V;have C:=aA;have k:=Sq.lB aw 7;rw[ap]at k;try simp only[LL,Nat.reduceAdd,Nat.reduceMul]at k
 refine su (rA (a:=I) (b:=1) q q Xx)<|mv q<|Rz KS q (qY m r j C f d 4 Xx Xx) ?_;rintro E a7 ⟨G,t,a3,rfl,e,Bk,W,aB,g,aU,aq⟩;have T:∀i∈[h],aX [h] w i:=hI R;have B:∀i∈[h],¬L i:=hI C;have A:F∉[h]:=bH Xx Oj;have D:=D.md e A;have u:=u.step e T;have m:=m.md e;have j:=W;have C:=aB;have o:=Sq.lB r 4;rw[aq]at o;try simp only[LL,Nat.reduceAdd,Nat.reduceMul]at o
 refine su (rA (a:=G) (b:=1) q q Xx)<|mv q<|Rz KS q (qY m t j C g aU 2 Xx Xx) ?_;rintro E a8 ⟨H,aJ,a4,rfl,e,bc,az,c,aW,O,ar⟩;have T:∀i∈[h],aX [h] w i:=hI R;have B:∀i∈[h],¬L i:=hI C;have A:F∉[h]:=bH Xx Oj;have D:=D.md e A;have u:=u.step e T;have j:=az;have C:=c;have p:=Sq.lB t 2;rw[ar]at p;try simp only[LL,Nat.reduceAdd,Nat.reduceMul]at p
 refine su (fD (a:=H) (b:=1) q q)<|su (dI (us:=[(iD J),(iD K),(iD P),[(iZ ((I+1:Nat):Int))],[(iZ ((G+1:Nat):Int))],[(iN 32768)],[(.bool<|(decide (H=1)))]]) (cs:=(gZ.cells<|({bE:=J,bO:=K,seq:=P,aj:=I+1,ak:=G+1,cK:=32768,bL:=(decide (H=1))}:gZ))) [(0,0,16),(1,16,16),(2,32,16),(3,48,1),(4,49,1),(5,50,1),(6,51,1)] z29 alu q q Fz Fz q (by simp[mh,dZ,iD,gZ.cells]))<|cA (us:=(gZ.cells<|({bE:=J,bO:=K,seq:=P,aj:=I+1,ak:=G+1,cK:=32768,bL:=(decide (H=1))}:gZ))) q q (by exact GH) (by exact fun aY aV=>dB (gZ.one) aY aV) D (lq q) ?_;have aF:=D;intro a9 e D;have B:∀b∈[F],¬L b:=hI aK;have j:=j.md e Zq;have O:=O.md e B;have u:=u.step e<|hI<|aX.wid aL;have D:bK _ _ (gZ.cells<|({bE:=J,bO:=K,seq:=P,aj:=I+1,ak:=G+1,cK:=32768,bL:=(decide (H=1))}:gZ)) _:=D;refine nt<|lO ?_;exact kY (v:=(.agg (gZ.cells<|({bE:=J,bO:=K,seq:=P,aj:=I+1,ak:=G+1,cK:=32768,bL:=(decide (H=1))}:gZ)).toArray)) trivial q ⟨⟨_,q,oW (cs:=(gZ.cells<|({bE:=J,bO:=K,seq:=P,aj:=I+1,ak:=G+1,cK:=32768,bL:=(decide (H=1))}:gZ))) (by exact GH) D⟩,tV⟩ ⟨(({bE:=J,bO:=K,seq:=P,aj:=I+1,ak:=G+1,cK:=32768,bL:=(decide (H=1))}:gZ)),aJ,_,q,u,(by exact⟨Xk,Xk,Xk,Xm,Xm,Xm⟩),j,n0,aW,(O.sub<|fun b hb _=>ab b hb),(by rw[Sq.config]<;>simp(disch:=first|omega|assumption|simp) only [SS,reduceIte,ae,aP,af,aQ,ag,aR,ap,aq,ar])⟩
theorem aiZ:cO Zp 11=true:=Xj
theorem aji:cO Zp 12=true:=Xj
theorem ajn:cO Zp 13=true:=Xj
theorem ah8:cO Zp 17=true:=Xj
theorem aj2:cO Zp 20=true:=Xj
theorem ajD:cO Zp 27=true:=Xj
theorem fn9:cO Zp 9=true:=Xj
theorem ako:fG Zp 27=some [(0,1),(1,1),(2,1),(3,1),(4,1),(5,1),(6,1),(7,1),(8,1),(9,1),(10,1),(11,1),(12,1),(13,1),(14,1),(15,1)]:=Xj
theorem aib:fG Zp 33=some [(0,1),(1,1)]:=Xj
theorem u35:Zp.underlying 35=some (.pointer 97):=Xj
theorem u38:Zp.underlying 38=some (.pointer 102):=Xj
theorem z33:dX Zp 33=some [.slice none 0 0,.int .i64 0]:=Xj
section
attribute [local irreducible] yh zW fD1 uX fD3 fD4 iG bw.entry bw.link bw.add js.vn js.append gX ko HA
set_option maxHeartbeats 16000000 in
theorem RZ (e:Up w Q)  :
  Calls Zp 8 #[] w fun K bp=>∃aJ:Bool,K = .returned (.bool aJ)/\Md [] w bp/\true=aJ:=by
 have bB:pB.length=16:=rfl;have j:=Md.refl [] w;have bY:=e;refine enter (n:=73) Tryz.func8 q q q fun bs=>ns<|an q<|ns<|Rz aiZ q (ajY e (1048576) Xx Xx Xx) ?_;rintro K cf ⟨ak,P,b5,rfl,G,⟨v,V,H⟩,bc,C⟩;have u:∀x∈P,aX [] w x:=fun x f=>aX.new j x<|bc x f;have j:=j.k G;have e:=H;refine mv q<|se q q<|se q q<|cV q<|an q<|aH<|nM q<|su (fU (a:=0) (b:=0) q q)<|mv q ?_;refine ck (t:=15) q (fun o=>?_)<|fun o=>?_
 ·have aN:=dq o;exfalso;omega
 have aN:=dF o;refine sg o (aP q)<|sg o (BI q u35)<|su (aU q o q)<|nt<|gV q q<|aM<|aA<|nM q<|su (dI (us:=[]) (cs:=(Sq.cells (({l:=[],pos:=0}:Sq)) SN)) [] z33 aib q q trivial trivial q q)<|e7 (cs:=(Sq.cells (({l:=[],pos:=0}:Sq)) SN)) q q ?_;intro I cg k Bk G s;have B:I∉P:=fun f=>by have:=(C.lt _ f).1;omega
 obtain⟨bl,v,V,ah,H⟩:=oI e k Bk G;have k:=lv j.size k;have C:=(C.sub v V).o G;have j:=j.k G;have e:=H;have aS:aX [] w I:=.inr k;refine Rz fn9 q (zI e (({l:=[],pos:=0}:Sq)) s ah (by exact(show(({l:=[],pos:=0}:Sq)).pos<9223372036854775808 from Xm))<|Ls.nil _ _ _) ?_;rintro K ch ⟨bd,bO,bu,rfl,G,bv,az,aB,bt,D,a0⟩;have aI:∀i∈[I],aX [] w i:=hI aS;have W:∀i∈[I],¬bl i:=hI ah;have aR:∀x∈P,x∉[I]:=fun x f=>bH (fun J=>B<|J ▸ f) Oj;have C:=C.md G aR W;have j:=j.step G aI;have e:=e.md G;have s:=az;have ah:=aB;have bj:bd=ya:=(congrArg Prod.fst a0).symm.trans aeX;subst bj;refine Rz ajn q (HT e ya VA) ?_;rintro K ci ⟨bR,rfl,G,bw,a1⟩;obtain⟨C,s,D,e,j⟩:=k5 G C s D e j;have a3:=a1.symm;subst a3;refine ax aji q (zU e C (([106]:Ly)) ya VA 4 Xx Xz Xz Xx (by have aj:(iG ya 4).b.length=336:=(by rw[wB];exact pG.2.2.2.2);omega)) ?_;rintro K cj ⟨b7,bn,aa,bm,G,⟨v,V,H⟩,A,bA,⟨bT,bU,bV,aF⟩,bo⟩;have br:=s.lt;have bz:=G.size;have C3:=j.size;have W:∀b∈P,¬bm b:=fun b hb U=>(C.lt b hb).2<|V b U;have E:I∉aa:=fun h=>(A _ h).elim B (fun h=>by have:=s.lt;omega);have s:=s.md G B;have B:=E;have D:=(D.sub v).md G W;have F:∀x∈aa,aX [] w x:=fun x f=>(A x f).elim (u x)<|aX.new j x;have bZ:=e;have bF:=V;have y:=G.size;have j:=j.step G u;have e:=H;have u:=F;clear H F v V W A G;rcases bo with⟨Av,rfl,C⟩|⟨Av,g,C5,rfl,C⟩
 ·refine rv ?_;have C:lK (3) _ _ _ _ _:=C;have aj:(iG ya 4).b.length=336:=(by rw[wB];exact pG.2.2.2.2);have aq:=ye aF q q Xz C.wf.nd ⟨by omega,by omega⟩;have au:=(aq.2 (by rw[aj];decide)).2 q Xz;exfalso;exact Av au.1
 refine rv ?_;have C:qm g (3) _ _ _ _ _:=C;subst Av;obtain⟨cn,N⟩:∃x,x=({fs:=bn,wr:={fs:=ak,name:=(([106]:Ly)),cK:=ya.cK,d:=iG ya 4,waiting:=0,dN:=false}}:AK):=⟨_,q⟩;rw[<- N]at C;have B:I∉g :: aa:=bH Xx B;have u:∀x∈g :: aa,aX [] w x:=fun x f=>(List.mem_cons.1 f).elim (fun J=>.inr (by rw[J];omega))<|u x;have af:=C.wf.nd;rw[N]at af;have aj:(iG ya 4).b.length=336:=(by rw[wB];exact pG.2.2.2.2);have aq:=ye aF q q Xz af ⟨by omega,by omega⟩;have au:=(aq.2 (by rw[aj];decide)).2 q Xz;obtain⟨_,aG,bq,aK,av,ad⟩:=au;rw[wB,afb]at N;rw[wB]at av;simp only at af;have ag:=ag9 ak [106] yh 0;have X:=ag9 ak [106] fD4 1;refine mv q<|se q q<|se q q<|cV q<|an q<|aH<|nM q<|su (fU (a:=0) (b:=0) q q)<|mv q ?_;refine ck (t:=30) q (fun p=>?_)<|fun p=>?_
 ·have aO:=dq p;exfalso;omega
 have aO:=dF p;refine sg p (aP q)<|sg p (BI q u38)<|su (aU q p q)<|nt<|gV q q<|aM<|aA<|nM q<|su (dI (us:=[]) (cs:=iD pB) [] z27 ako q q trivial trivial q q)<|Rz ah8 q (MO e C (Ls.nil mq _ _) 1 Xx 1 Xx pB Xk Xz (by rw[N];show(HA _ _ yh 0).waiting<=_;rw[ag.2.2.2.1];decide) (by rw[N];exact afd _ _) (by have J:=pG;rw[N];simp only;rw[ag.2.2.1];omega)) ?_;rintro K cl ⟨bS,be,rfl,bP,bQ,b6,ap,aE,G,⟨v,V,H⟩,A,M,a2⟩;have W:∀b∈(g :: aa),¬aE b:=fun b hb U=>(C.lt b hb).2<|V b U;have E:I∉ap:=fun h=>(A _ h).elim B (fun h=>by have:=s.lt;omega);have s:=s.md G B;have B:=E;have D:=(D.sub v).md G W;have F:∀x∈ap,aX [] w x:=fun x f=>(A x f).elim (u x)<|aX.new j x;have j:=j.step G u;have e:=H;have u:=F;have C:=M;have y:=G;clear H F M v V W A G;have C:qm g (3) _ _ _ _ _:=C;obtain⟨am,Z⟩:=a2;rw[N]at Z am;simp only at Z am;rw[abD]at Z;simp only[Prod.mk.injEq]at Z;obtain⟨cb,cc,u3⟩:=Z;refine mv q<|se q q<|se q q<|cV q<|an q<|nM q<|su (dI (us:=[[(str<|([65]:Ly))],[(str<|([49]:Ly))]]) (cs:=(Pr.cells<|({name:=([65]:Ly),value:=([49]:Ly)}:Pr))) [(0,0,1),(1,1,1)] z91 aic q q Fz Fz q q) ?_
 refine bh [(Pr.cells<|({name:=([65]:Ly),value:=([49]:Ly)}:Pr))] nW CR Xz Xz q q ⟨q,tV⟩ ⟨q,tV⟩ q Xz ?_;intro bM b0 aL bN G L;have bf:=e _ aL;obtain⟨C,s,D,e,j⟩:=k5 G C s D e j;have L:=Ls.cL (m:=1) (R:=aE) (T:=mq) (xs:=[({name:=([65]:Ly),value:=([49]:Ly)}:Pr)]) L ⟨_,_,q,(zu),q⟩ q Xz bf;refine su (dI (us:=[]) (cs:=iD pB) [] z27 ako q q trivial trivial q q)<|Rz ah8 q (MO e C L 1 Xx 1 Xx pB Xk Xz (by rw[<- u3,ag.2.2.2.1];decide) (by rw[<- u3,show([{name:=[65],value:=[49]}]:List Pr)=[LM]from rfl];exact afe _ _) (by have J:=pG;rw[<- u3,ag.2.2.1];omega)) ?_;rintro K b1 ⟨aT,aV,rfl,bG,bI,bD,al,bg,G,⟨v,V,H⟩,A,M,a8⟩;have W:∀b∈ap,¬bg b:=fun b hb U=>(C.lt b hb).2<|V b U;have E:I∉al:=fun h=>(A _ h).elim B (fun h=>by have:=s.lt;omega);have s:=s.md G B;have B:=E;have D:=(D.sub v).md G W;have L:=(L.sub v).md G W;have F:∀x∈al,aX [] w x:=fun x f=>(A x f).elim (u x)<|aX.new j x;have j:=j.step G u;have e:=H;have u:=F;have C:=M;have y:=G;clear H F M v V W A G;have C:qm g (3) _ _ _ _ _:=C;obtain⟨aY,ae⟩:=a8;rw[<- u3]at ae;rw[show([{name:=[65],value:=[49]}]:List Pr)=[LM]from rfl,abE]at ae;simp only[Prod.mk.injEq]at ae;obtain⟨cd,ce,ab⟩:=ae;refine mv q<|se q q<|se q q<|cV q<|an q<|nM q<|su (fD (a:=be) (b:=16) q q) ?_;refine mv q ?_;refine ck (t:=50) q (fun r=>?_)<|fun r=>?_
 ·have aQ:=dq r;refine sg r (aP q)<|sg r (fD (a:=aV) (b:=0) q q)<|su (bC q r q)<|mv q ?_;refine ck (t:=54) q (fun Y=>?_)<|fun Y=>?_
  ·have a4:=dq Y;refine sg Y (aP q)<|sg Y (fD (a:=aT) (b:=5) q q)<|su (bC q Y q)<|mv q ?_;refine ck (t:=58) q (fun O=>?_)<|fun O=>?_
   ·have a5:=dq O;refine sg O (aP q)<|ig q q q O ajD q (ahj e C) ?_;rintro K b2 ⟨aC,rfl,G,bJ,a9⟩;refine rv ?_;obtain⟨C,s,D,L,e,j⟩:=k6 G C s D L e j;have cm:1=aC:=(by rw[<- a9,<- ab];exact X.2.2.2.1.symm);refine sg O (fD (a:=aC) (b:=1) q q)<|su (bC q O q)<|mv q ?_;refine ck (t:=63) q (fun S=>?_)<|fun S=>?_
    ·have a6:=dq S;refine sg S (aP q)<|ig q q q S aj2 q (XM e C Xx (by rw[<- ab,X.2.1];decide) (by have J:=pG;rw[<- ab,X.2.2.1];omega)) ?_;rintro K b3 ⟨aW,rfl,bK,bE,aD,bi,G,⟨v,V,H⟩,A,M,ba⟩;refine rv ?_;have W:∀b∈al,¬bi b:=fun b hb U=>(C.lt b hb).2<|V b U;have E:I∉aD:=fun h=>(A _ h).elim B (fun h=>by have:=s.lt;omega);have B:=E;have D:=(D.sub v).md G W;have L:=(L.sub v).md G W;have F:∀x∈aD,aX [] w x:=fun x f=>(A x f).elim (u x)<|aX.new j x;have j:=j.step G u;have e:=H;have u:=F;have C:=M;have y:=G;clear H F M v V W A G;have C:qm g (7) _ _ _ _ _:=C;obtain⟨aw,b8,b9,ay⟩:=ba;rw[<- ab,aY,am,X.2.1,X.2.2.1,X.2.2.2.2.1]at ay;rw[<- ab]at aw;have bk:=XC (z:=aG) ay (by rw[ad]) (by rw[ad]) Xz af (by rw[ad];simp only[List.nil_append];rw[dU,if_pos ⟨aK,bq⟩]) ⟨by have J:=pG;omega,by have J:=pG;omega⟩ (by have J:=pG;rw[av];exact J.2.2.1);have bW:=aiQ;have aZ:yh.b.length=336:=pG.2.2.2.2;have ao:aG.fl.b.length=336:=(by rw[av];exact aZ);have bx:=pG.2.1;have bX:=(bk.2<|(wG (by rw[ad]) (by rw[ao];omega)).2 (by rw[ao,ad];simp only[List.nil_append,eV,aK,if_true];rw[ao];omega)).1;refine sg S (fD (a:=aW) (b:=0) q q)<|su (bC q S q)<|mv q ?_;refine ck (t:=68) q (fun c=>?_)<|fun c=>?_
     ·have a7:=dq c;refine sg c (aP q)<|ig q q q c abM q (ahi e C) ?_;rintro K b4 ⟨ai,rfl,G,bL,bb⟩;refine rv ?_;have j:=j.k G;have ca:5=ai:=(by rw[<- bb,aw,X.2.2.1];exact pG.1.symm);refine sg c (fD (a:=ai) (b:=5) q q)<|su (bC q c q)<|ar q ?_;exact gB (.bool<|(decide (ai=5))) q ⟨(decide (ai=5)),q,j,(decide_eq_true Xx).symm⟩
     have a7:=dF c;exfalso;omega
    have a6:=dF S;exfalso;omega
   have a5:=dF O;exfalso;omega
  have a4:=dF Y;exfalso;omega
 have aQ:=dF r;exfalso;omega
end
section
variable {wb k:Nat} {fp:List Nat} {w:World} {Q:Nat->Prop} {b:Nat} {x:AK}
theorem ai5 (l:Up w Q) (i:qm wb k fp w Q b x) (j:x.wr.d.b.length<=1000000):Calls Zp 24 #[.pointer (some ⟨wb,0,none⟩)] w fun h e=>∃c:Value,∃a:List UInt8,h = .returned c/\Md [] w e/\Ls dh e Q c a/\x.wr.d.b=a:=by obtain⟨m,v,rfl,n,G,f,g,rfl,C,D⟩:=i;exact UJ l x.wr f g C D j
end
end Go.Proofs.YtfadcpfgenjbeaaGreat
namespace Go.Wk
open Go Go.RowKit
theorem Ow.lsB {e:TypeId} {w a:World} {Q Q':Nat->Prop} {v:Value} {xs:Ly} (h:Ow dh e (aX [] w) a Q' v xs) (c:Up w Q):Ls dh a Q v xs :=
  Ls.of_by h.read.by fun b hb _=>aX.up c b (h.2 b hb).1
theorem KM (s:Sq):s.config.1.aj<=10/\s.config.1.ak<=10:=by
  rcases h1:s.aT 5 with⟨a,E⟩
  rcases h2:E.aT 5 with⟨b,F⟩
  rcases h3:F.aT 5 with⟨c,C⟩
  rcases h4:C.aT 7 with⟨d,D⟩
  rcases h5:D.aT 4 with⟨e,G⟩
  rcases h6:G.aT 2 with⟨f,H⟩
  have A:=C.lB 7;have B:=D.lB 4;rw[h4]at A;rw[h5]at B;simp only[Sq.config,h1,h2,h3,h4,h5,h6];simp only at A B;omega
theorem lR {l:List Nat} {i v:Nat} (h:i<l.length):(l.set i v).getD i 0=v:=by simp[List.getD,h]
def jV (z:Mk) (n seq aY mono e:Nat) (aR:Ly):Mk :=
  let m7:=if n=0 then(z.bD 10 seq).bD 12 aY else z
  let m8:=m7.bD 8<|(m7.aT 8+1)%18446744073709551616
  let m9:=((m8.bD 9 seq).bD 13 aY).bD 14 mono
  {m9 with h:={m9.h with aR:=aR,cF:=e}}
theorem mI (z:Mk) (n seq aY mono e:Nat) (aR:Ly):(jV z n seq aY mono e aR).b=z.b/\(jV z n seq aY mono e aR).c=z.c/\(jV z n seq aY mono e aR).ai=z.ai/\(jV z n seq aY mono e aR).aC=z.aC/\(jV z n seq aY mono e aR).main=z.main /\
    (jV z n seq aY mono e aR).h.n.getD 2 0=z.h.n.getD 2 0/\(jV z n seq aY mono e aR).h.n.getD 4 0=z.h.n.getD 4 0/\(jV z n seq aY mono e aR).h.n.length=z.h.n.length /\
    (z.h.n.length=20->(jV z n seq aY mono e aR).n8=(z.n8+1)%18446744073709551616/\(jV z n seq aY mono e aR).aT 9=seq):=by
  unfold jV;simp only;generalize hm7:(if n=0 then(z.bD 10 seq).bD 12 aY else z)=m7;have A:m7.b=z.b/\m7.c=z.c/\m7.ai=z.ai/\m7.aC=z.aC/\m7.main=z.main/\m7.h.n.getD 8 0=z.h.n.getD 8 0/\m7.h.n.getD 2 0=z.h.n.getD 2 0/\m7.h.n.getD 4 0=z.h.n.getD 4 0/\m7.h.n.length=z.h.n.length:=by
    subst hm7;split
    · exact⟨q,q,q,q,q,(au Xz).trans<|au Xz,(au Xz).trans<|au Xz,(au Xz).trans<|au Xz,by simp[Mk.bD]⟩
    · exact⟨q,q,q,q,q,q,q,q,q⟩
  obtain⟨C,D,E,F,G,H,I,J,K⟩:=A;clear hm7;refine⟨C,D,E,F,G,?_,?_,?_,fun B=>⟨?_,?_⟩⟩
  · rw[<- I]
    exact(au Xz).trans<|(au Xz).trans<|(au Xz).trans<|au Xz
  · rw[<- J]
    exact(au Xz).trans<|(au Xz).trans<|(au Xz).trans<|au Xz
  · rw[<- K];simp[Mk.bD]
  · have e:m7.aT 8=z.n8:=H
    rw[e];exact(au Xz).trans<|(au Xz).trans<|(au Xz).trans<|lR Xx
  exact(au Xz).trans<|(au Xz).trans<|lR (by simp[Mk.bD];omega)
theorem XY {m:Mk} (h:xX m) {raw:List Pr} {aY mono:Nat} {aR:Ly} (hb:aR.length=16) (h20:(m.append raw aY mono aR).2.2.h.n.length=20):xX (m.append raw aY mono aR).2.2:=by
  rcases hl:jN raw with⟨l,c⟩
  by_cases h2:c≠0
  · have e:m.append raw aY mono aR=(0,c,m):=by unfold Mk.append;simp only[hl];rw[if_pos h2]
    rw[e];exact h
  by_cases h3:m.aT 9=18446744073709551615
  · have e:m.append raw aY mono aR=(0,1,m):=by unfold Mk.append;simp only[hl];rw[if_neg h2,if_pos h3]
    rw[e];exact h
  obtain⟨w,av⟩:=oV hl;have D:=oG l m [] [] 0 (jT h) w
  rcases hd:eN l m [] []with⟨ps,M,x⟩
  rw[hd,Nat.zero_add]at D;simp only at D;have aC:=h.small;have s4:=h.nb;have al:=D.app.ge;have am:=D.app.le;have an:=D.len.1;have ak:=D.app.n8;generalize hE:({seq:=(x.aT 9+1)%18446744073709551616,aY:=aY,mono:=mono,aR:=aR,xor:=lH 0 ps,bg:=dG x M}:lu)=E;have Z:E.aR.length=16:=by subst hE;exact hb
  have ao:E.bg.length=M.length:=by subst hE;simp[dG]
  have ap:=iB E Z;have C:=BV (L:=400) (o:=bT E) D.app Xx;have d:=(eW x<|bT E).2.1;have J:=(dn x<|bT E).2.2.2;have I:=(dn x<|bT E).2.1
  rcases ho:x.bJ (bT E)with⟨e,B⟩
  rw[ho]at C d J I;simp only at C d J I;have N:B.h.n.getD 8 0=m.n8:=C.n8;have S:jk B.b.length B.main (B.aT 8):=by rw[show B.aT 8=m.n8 from N,J,D.main];exact oQ h.main C.ge
  have A:=wU B B.main (B.aT 8) 176 e S;have G:=BU (src:=176) (ij:=e) C S
  rcases hk:B.link B.main (B.aT 8) 176 e with⟨a,t,P⟩
  rw[hk]at A G;simp only at A G;generalize hY:(let X:=({P with main:=a}:Mk).bD 11<|a.getD 0 0;({X with h:={X.h with bP:=eY a%4294967296,bR:=t%4294967296}}:Mk))=Y;have F:jS m Y l.length (900*l.length+400+2100+0) 0:=by subst hY;exact BW (e':=0) G q (au Xz) (au Xz) (au Xz) q q (Nat.le_refl _) (Nat.le_refl _)<|Nat.le_refl _
  have ad:Y.b=P.b:=by subst hY;rfl
  have O:Y.ai=P.ai:=by subst hY;rfl
  have v:Y.main=a:=by subst hY;rfl
  obtain⟨j,aj,aD⟩:=DG (en:=e) M Y _ _ F (fun i T=>by rw[O,A.ai,I];exact D.idx i T);have ag:Y.n8=m.n8:=F.n8;have Q:=(DG (en:=e) M Y 0 0 ⟨F.fit,q,q,by rw[ag];exact F.chains,Nat.le_add_right _ 0,Nat.le_add_right _ 0,Nat.le_refl _,Nat.le_refl _⟩ (fun i T=>by rw[O,A.ai,I];exact D.idx i T)).1;have K:=iU (aY:=aY) (mono:=mono) (aR:=aR) hl h2 h3 hd (by rw[hE];exact ho) hk (z:=iL e M Y) (by rw[hY]);generalize iL e M Y=z at *;have K:m.append raw aY mono aR=if z.c.cK<z.b.length then(0,15,m)else((x.aT 9+1)%18446744073709551616,0,jV z (B.aT 8) ((x.aT 9+1)%18446744073709551616) aY mono e aR):=K;rw[K]at h20 ⊢;split at h20
  · rename_i hm
    rw[if_pos hm];exact h
  rename_i hm;rw[if_neg hm];have aw:=j.ge;have ax:=j.le;have ay:=j.nd;have az:=j.nf;have U:=j.c;have ah:z.n8=m.n8:=j.n8;have H:=h.cK;have aA:=h.nd;have aB:=h.nf;have aq:=A.ge;have y:P.b.length<=z.b.length:=by have h:=Q.ge;rw[ad]at h;exact h
  obtain⟨u,V,W,g,aa,p,r,ar,ab⟩:=mI z (B.aT 8) ((x.aT 9+1)%18446744073709551616) aY mono e aR;simp only at h20 ⊢;generalize jV z (B.aT 8) ((x.aT 9+1)%18446744073709551616) aY mono e aR=R at *;have s:=(ab Xx).1;rw[ah,Nat.mod_eq_of_lt Xx]at s;refine⟨oU j.fit ⟨by rw[V],by rw[V],p,r,by rw[u];exact Nat.le_refl _⟩ (fun k hk=>.inl<|W ▸ hk)<|fun k hk=>.inl<|g ▸ hk,?_,?_,?_,?_,?_,?_,?_,?_⟩
  · rw[s,u,aa,aj,v]
    have f:=A.chain;rw[show B.aT 8=m.n8 from N]at f;exact oQ f y
  · intro k hk
    rw[W]at hk;obtain⟨ae,af,u3,u4⟩:=j.chains k hk;rw[u,s];exact⟨ae,af,u3,by omega⟩
  · rw[W,s];omega
  · rw[g,s];omega
  · rw[u,s];omega
  · rw[u];rw[U]at hm;omega
  · rw[V,U];exact H
  rw[u];have:=h.hd;omega
theorem acA {c:gZ} {t:Nat} (h:c.aj<=10/\c.ak<=10) (h1:1<=c.aj/\1<=c.ak) (i:c.cK<=40000):xX (eC c t):=by
  have D:=(gd 4<|List.replicate c.aj {first:=0,tail:=0}).2<|.inl q;have e:=(gd 5<|List.replicate c.ak {first:=0,tail:=0}).2<|.inr q;have g:(eC c t).b=List.replicate 272 0 ++ dc 4 (List.replicate c.aj {first:=0,tail:=0}) ++ dc 5 (List.replicate c.ak {first:=0,tail:=0}):=rfl;have a:=congrArg List.length g;simp only[List.length_append,List.length_replicate]at D e a;have d:(eC c t).n8=0:=rfl;have C:(eC c t).ai=[]:=rfl;have f:(eC c t).aC=[]:=rfl;refine⟨⟨h1.1,by show c.aj<=64;omega,h1.2,by show c.ak<=64;omega,?_,?_,(fun k hk=>by rw[C]at hk;simp at hk),(fun k hk=>by rw[f]at hk;simp at hk)⟩,by rw[d];exact chain_nil _,(fun k hk=>by rw[C]at hk;simp at hk),by rw[d];exact Nat.le_refl _,by rw[d];exact Nat.le_refl _,by omega,by omega,i,by omega⟩
  · have:(eC c t).h.n.getD 2 0=288:=rfl
    rw[this,a];show 288+16*c.aj<=_;omega
  have:(eC c t).h.n.getD 4 0=(List.replicate 272 (0:UInt8) ++ dc 4 (List.replicate c.aj {first:=0,tail:=0})).length+16:=rfl;rw[this,a,List.length_append,List.length_replicate];show _+16*c.ak<=_;omega
theorem Yo (s:Sq):(s.config.1.aj<=10/\s.config.1.ak<=10)/\(1<=s.config.1.aj/\1<=s.config.1.ak)/\s.config.1.cK<=40000:=by
  refine⟨KM s,?_⟩
  rcases h1:s.aT 5 with⟨a,A⟩
  rcases h2:A.aT 5 with⟨b,B⟩
  rcases h3:B.aT 5 with⟨c,C⟩
  rcases h4:C.aT 7 with⟨d,D⟩
  rcases h5:D.aT 4 with⟨e,E⟩
  rcases h6:E.aT 2 with⟨f,F⟩
  simp only[Sq.config,h1,h2,h3,h4,h5,h6];omega
theorem oK (m:Mk) (o:Ly):(m.bJ o).2.h.n.length=m.h.n.length:=by simp[Mk.bJ,Mk.bD]
theorem WG (m:Mk) (l:List aK) (t p s:Nat):(m.hang l t p s).2.h=m.h:=by rw[(AR m l t p s).1]
theorem acC (m:Mk) (x:Ly):(m.field x).2.h.n.length=m.h.n.length:=by
  unfold Mk.field;split
  · rfl
  simp only;have B:=oK m<|dD {bZ:=cu m.c.bL m.c.bE x,bF:=0,dat:=0,ay:=x};generalize m.bJ (dD {bZ:=cu m.c.bL m.c.bE x,bF:=0,dat:=0,ay:=x})=r at *;obtain⟨p,A⟩:=r;simp only at B ⊢;have C:=WG A A.aC (A.aT 4) p<|cu m.c.bL m.c.bE x%A.c.ak;generalize A.hang A.aC (A.aT 4) p (cu m.c.bL m.c.bE x%A.c.ak)=r at *;obtain⟨n,D⟩:=r;simp only at C ⊢;simp only[Mk.bD,List.length_set,C];exact B
theorem af7 (m:Mk) (x:Pr):(m.data x).2.h.n.length=m.h.n.length:=by
  unfold Mk.data;split
  · rfl
  simp only;have C:=oK m<|ej {bZ:=cu m.c.bL m.c.bE (ay x),bF:=0,cH:=0,entry:=0,array:=0,aZ:=0,ay:=ay x};generalize m.bJ (ej {bZ:=cu m.c.bL m.c.bE (ay x),bF:=0,cH:=0,entry:=0,array:=0,aZ:=0,ay:=ay x})=r at *;obtain⟨p,A⟩:=r;simp only at C ⊢;have D:=WG A A.ai (A.aT 2) p<|cu m.c.bL m.c.bE (ay x)%A.c.aj;generalize A.hang A.ai (A.aT 2) p (cu m.c.bL m.c.bE (ay x)%A.c.aj)=r at *;obtain⟨n,B⟩:=r;simp only at D ⊢;generalize hx5:({(B.bD 19<|max (B.aT 19) n).bD 15 (((B.bD 19<|max (B.aT 19) n).aT 15+1)%18446744073709551616)with ai:=((B.bD 19<|max (B.aT 19) n).bD 15<|((B.bD 19<|max (B.aT 19) n).aT 15+1)%18446744073709551616).ai ++ [({bI:=ay x,pos:=p,bn:=cu m.c.bL m.c.bE (ay x)%A.c.aj,aZ:=0,aL:=[]}:aK)]}:Mk)=m5;have E:m5.h.n.length=m.h.n.length:=by subst hx5;simp only[Mk.bD,List.length_set,D];exact C
  have F:=acC m5 x.name;generalize m5.field x.name=r at *;obtain⟨k,G⟩:=r;exact F.trans E
theorem uF:∀(l:List Pr) (m:Mk) (ps:List (List UInt8)) (od:List Nat),(eN l m ps od).2.2.h.n.length=m.h.n.length
  | [],_,_,_=>rfl
  | x :: r,m,ps,od=>(uF r _ _ _).trans<|af7 m x
theorem AW (m:Mk) (a:List Nat) (n src ij:Nat):(m.link a n src ij).2.2.h.n.length=m.h.n.length:=by
  unfold Mk.link;generalize eK a 0 0 0=r;obtain⟨A,D⟩:=r;simp only;split
  · have B:=oK m<|dw {next:=0,bg:=List.replicate (cB (a.length:Int)) 0}
    generalize m.bJ (dw {next:=0,bg:=List.replicate (cB (a.length:Int)) 0})=r at *;obtain⟨p,C⟩:=r;simp only at B ⊢;split
    · show(C.bD 18 _).h.n.length=_
      simp only[Mk.bD,List.length_set];exact B
    show(C.bD 18 _).h.n.length=_;simp only[Mk.bD,List.length_set];exact B
  rfl
theorem EC (e:Nat):∀(a:List Nat) (m:Mk),(iL e a m).h.n.length=m.h.n.length
  | [],_=>rfl
  | i :: r,m=>by
    rw[jW,EC e r];unfold gO;simp only;split
    · rfl
    · exact AW m _ _ _ _
theorem ZG (m:Mk) (raw:List Pr) (aY mono:Nat) (aR:Ly):(m.append raw aY mono aR).2.2.h.n.length=m.h.n.length:=by
  rcases hl:jN raw with⟨l,c⟩
  by_cases h2:c≠0
  · have d:m.append raw aY mono aR=(0,c,m):=by unfold Mk.append;simp only[hl];rw[if_pos h2]
    rw[d]
  by_cases h3:m.aT 9=18446744073709551615
  · have d:m.append raw aY mono aR=(0,1,m):=by unfold Mk.append;simp only[hl];rw[if_neg h2,if_pos h3]
    rw[d]
  have D:=uF l m [] []
  rcases hd:eN l m [] []with⟨I,C,x⟩
  rw[hd]at D;have g:=oK x<|bT {seq:=(x.aT 9+1)%18446744073709551616,aY:=aY,mono:=mono,aR:=aR,xor:=lH 0 I,bg:=dG x C}
  rcases ho:x.bJ (bT {seq:=(x.aT 9+1)%18446744073709551616,aY:=aY,mono:=mono,aR:=aR,xor:=lH 0 I,bg:=dG x C})with⟨d,A⟩
  rw[ho]at g;have i:=AW A A.main (A.aT 8) 176 d
  rcases hk:A.link A.main (A.aT 8) 176 d with⟨a,t,H⟩
  rw[hk]at i;simp only at D g i;have f:m.append raw aY mono aR=_:=iU (aY:=aY) (mono:=mono) (aR:=aR) hl h2 h3 hd ho hk q;have G:=EC d C (let e:=({H with main:=a}:Mk).bD 11<|a.getD 0 0;{e with h:={e.h with bP:=eY a%4294967296,bR:=t%4294967296}});generalize iL d C (let e:=({H with main:=a}:Mk).bD 11<|a.getD 0 0;{e with h:={e.h with bP:=eY a%4294967296,bR:=t%4294967296}})=z at f G;have f:m.append raw aY mono aR=if z.c.cK<z.b.length then(0,15,m)else((x.aT 9+1)%18446744073709551616,0,jV z (A.aT 8) ((x.aT 9+1)%18446744073709551616) aY mono d aR):=f;rw[f];split
  · rfl
  show(jV _ _ _ _ _ _ _).h.n.length=_;rw[(mI _ _ _ _ _ _ _).2.2.2.2.2.2.2.1,G];simp only[Mk.bD,List.length_set];omega
section
variable {k:Bool} {f b:Ly} {s p i c:Nat} {l:List eG} {x:eG} {d:FO} {fs:List Pr} {all:List (List UInt8)} {q:Pr} {e:lu} {r:Rec}
end
def seg (b:Ly) (p n:Nat):List UInt8:=(b.drop p).take n
theorem M4 {b:Ly} {p n i:Nat} (h:i<n):(seg b p n)[i]? = b[p+i]?:=by unfold seg;rw[List.getElem?_take,if_pos h,List.getElem?_drop]
theorem afO {b:Ly} {p n:Nat} (h:p+n<=b.length):(seg b p n).length=n:=by unfold seg;simp;omega
theorem BJ {b c:Ly} {p n:Nat} (h:∀i,i<n->c[p+i]? = b[p+i]?):seg c p n=seg b p n:=by
  apply List.ext_getElem?;intro i
  by_cases hi:i<n
  · rw[M4 hi,M4 hi,h i hi]
  unfold seg;rw[List.getElem?_take,List.getElem?_take,if_neg hi,if_neg hi]
theorem jL (b:Ly) (p:Nat):d8 b p=wT (seg b p 8):=rfl
theorem afP {b:Ly} {p n q k:Nat} (h:q+k<=n):seg (seg b p n) q k=seg b (p+q) k:=by unfold seg;rw[List.drop_take,List.take_take,List.drop_drop,Nat.min_eq_left Xx]
theorem aeh {b l:Ly} {p n q k:Nat} (h:seg b p n=l) (a:q+k<=n):seg b (p+q) k=seg l q k:=by rw[<- h,afP a]
theorem XD {b o:Ly} {p n:Nat} (h:p+n<=b.length):seg (b ++ o) p n=seg b p n :=
  BJ fun i hi=>List.getElem?_append_left Xx
theorem seg_new (b o:Ly):seg (b ++ o) b.length o.length=o:=by unfold seg;rw[List.drop_left,List.take_length]
theorem qN (x y:Ly) {n:Nat} (h:n=x.length):seg (x ++ y) 0 n=x:=by subst h;simp[seg]
theorem me {x y:Ly} {p n:Nat} (h:x.length<=p):seg (x ++ y) p n=seg y (p-x.length) n:=by unfold seg;rw[List.drop_append,List.drop_eq_nil_of_le h,List.nil_append]
theorem VX (v n:Nat):wT (low v n)=v%256 ^ n:=by
  induction n generalizing v with
  | zero=>simp[low,wT,Nat.mod_one]
  | succ n ih =>
    simp only[low,wT,ih];rw[UInt8.toNat_ofNat',show 2 ^ 8=256 from rfl,Nat.mod_mod,Nat.pow_succ,Nat.mul_comm (256 ^ n) 256,Nat.mod_mul]
theorem aeS {v:Nat} (r:Ly) (h:v<18446744073709551616):d8 (low v 8 ++ r) 0=v:=by rw[jL,qN _ _ (by rw[eM]),VX];exact Nat.mod_eq_of_lt h
theorem lN {x y:Ly} {p:Nat} (h:x.length<=p):d8 (x ++ y) p=d8 y (p-x.length):=by rw[jL,jL,me h]
theorem pF {b o:Ly} {p:Nat} (h:p+8<=b.length):d8 (b ++ o) p=d8 b p:=by rw[jL,jL,XD h]
theorem abb {b l:Ly} {p n q:Nat} (h:seg b p n=l) (a:q+8<=n):d8 b (p+q)=d8 l q:=by rw[jL,jL,aeh h a]
theorem wz:∀{l:List Nat} {r:Ly} {i v:Nat},l[i]? = some v->v<18446744073709551616->d8 (nums l ++ r) (8*i)=v
  | [],_,_,_,h,_=>by simp at h
  | x :: l,r,0,v,h,hv=>by simp at h;subst h;rw[nums,List.append_assoc];exact aeS _ hv
  | x :: l,r,i+1,v,h,hv=>by rw[nums,List.append_assoc,lN (by rw[eM];omega),eM,show 8*(i+1)-8=8*i by omega];exact wz (by simpa using h) hv
theorem GK {l:List Nat} {i v:Nat} (h:l[i]? = some v) (a:v<18446744073709551616):d8 (nums l) (8*i)=v:=by
  have:=wz (r:=[]) h a
  rwa [List.append_nil]at this
theorem Qd:∀(n:Nat) (b:Ly) (p v i q:Nat),(AH n b p v i)[q]? = if p+i<=q/\q<p+i+n/\q<b.length then some (UInt8.ofNat<|v/2 ^ (8*(q-p)))else b[q]?
  | 0,b,p,v,i,q=>by rw[if_neg Xx];rfl
  | n+1,b,p,v,i,q=>by
    rw[AH,Qd n];simp only[List.length_set]
    by_cases h:p+(i+1)<=q/\q<p+(i+1)+n/\q<b.length
    · rw[if_pos h,if_pos Xx]
    · rw[if_neg h]
      by_cases hq:q=p+i
      · subst hq
        by_cases hl:p+i<b.length
        · rw[if_pos Xx,List.getElem?_set_self hl,show p+i-p=i by omega]
        · rw[if_neg Xx,List.getElem?_eq_none Xh,List.getElem?_eq_none Xx]
      · rw[if_neg Xx,List.getElem?_set_ne Xx]
theorem QB (b:Ly) (p v q:Nat):(gq b p v)[q]? = if p<=q/\q<p+8/\q<b.length then some (UInt8.ofNat<|v/2 ^ (8*(q-p)))else b[q]?:=Qd 8 b p v 0 q
theorem XE {b:Ly} {p v q n:Nat} (h:p+8<=q\/q+n<=p):seg (gq b p v) q n=seg b q n :=
  BJ fun i hi=>by rw[QB,if_neg Xx]
theorem Wu:∀(n v i:Nat),i<n->(low v n)[i]? = some (UInt8.ofNat<|v/2 ^ (8*i))
  | n+1,v,0,_=>by simp only[low,List.getElem?_cons_zero,Nat.mul_zero,Nat.pow_zero,Nat.div_one,Option.some.injEq];apply UInt8.toNat.inj;simp
  | n+1,v,i+1,h=>by simp only[low,List.getElem?_cons_succ];rw[Wu n (v/256) i Xx,Nat.div_div_eq_div_mul,show 256*2 ^ (8*i)=2 ^ (8*(i+1))by rw[Nat.mul_add,Nat.pow_add,Nat.mul_comm]]
theorem MA {b:Ly} {p v:Nat} (h:p+8<=b.length):seg (gq b p v) p 8=low v 8:=by
  apply List.ext_getElem?;intro i
  by_cases hi:i<8
  · rw[M4 hi,QB,if_pos Xx,Wu 8 v i hi,show p+i-p=i by omega]
  rw[List.getElem?_eq_none (by rw[afO (by rw[dV];omega)];omega),List.getElem?_eq_none (by rw[eM];omega)]
theorem eU {b:Ly} {p v q:Nat} (h:p+8<=q\/q+8<=p):d8 (gq b p v) q=d8 b q:=by rw[jL,jL,XE h]
theorem iw {b:Ly} {p v:Nat} (h:p+8<=b.length) (a:v<18446744073709551616):d8 (gq b p v) p=v:=by rw[jL,MA h,VX];exact Nat.mod_eq_of_lt a
structure Eff (S:Nat->Prop) (b c:Ly):Prop where
  len:b.length<=c.length
  seg:∀q n,q+n<=b.length->(∀a,S a->a+8<=q\/q+n<=a)->seg c q n=seg b q n
theorem Eff.refl (S:Nat->Prop) (b:Ly):Eff S b b:=⟨Nat.le_refl _,fun _ _ _ _=>rfl⟩
theorem Eff.trans {S:Nat->Prop} {a b c:Ly} (h:Eff S a b) (k:Eff S b c):Eff S a c :=
  ⟨lv h.len k.len,fun q n d hs=>(k.seg q n (lv d h.len) hs).trans<|h.seg q n d hs⟩
theorem Eff.mono {S T:Nat->Prop} {a b:Ly} (h:Eff S a b) (hs:∀x,S x->T x):Eff T a b:=⟨h.len,fun q n c d=>h.seg q n c fun x e=>d x<|hs x e⟩
theorem Eff.put (b:Ly) (p v:Nat):Eff (fun a=>a=p) b (gq b p v):=⟨by rw[dV];exact Nat.le_refl _,fun q n _ hs=>XE<|hs p rfl⟩
theorem Eff.app (S:Nat->Prop) (b o:Ly):Eff S b (b ++ o):=⟨by simp,fun q n a _=>XD a⟩
theorem Eff.d8 {S:Nat->Prop} {b c:Ly} {q:Nat} (h:Eff S b c) (d:q+8<=b.length) (hs:∀a,S a->a+8<=q\/q+8<=a):d8 c q=d8 b q:=by rw[jL,jL,h.seg q 8 d hs]
structure Ob where
  pos:Nat
  kind:Nat
  size:Nat
def oe (n:Nat):Nat:=(n+7)/8*8
theorem ea (n:Nat):n<=oe n/\oe n<n+8/\oe n%8=0:=by unfold oe;omega
def SH (kind size:Nat):List UInt8:=[UInt8.ofNat kind,0,0,0,0,0,0,0] ++ nums [size]
theorem kC (k s:Nat):(SH k s).length=16:=by simp[SH,cP]
theorem EV {k:Nat} {body:Ly} (h:1<=k/\k<=7):lW k body=(SH k (16+body.length) ++ body) ++ List.replicate ((8-(16+body.length)%8)%8) 0:=by
  unfold lW;rw[if_neg Xx,AG];have:([UInt8.ofNat k,0,0,0,0,0,0,0] ++ nums [16+body.length] ++ body).length=16+body.length:=by simp[cP];omega
  rw[this];rfl
def fF (b:Ly):Nat->List Ob->Nat->Prop
  | p,[],e=>p=e
  | p,o :: r,e=>o.pos=p/\1<=o.kind/\o.kind<=7/\16<=o.size/\o.size<18446744073709551616/\seg b p 16=SH o.kind o.size/\fF b (p+oe o.size) r e
theorem fF.le {b:Ly}:∀{l:List Ob} {p e:Nat},fF b p l e->p<=e/\(p%8=0->e%8=0)
  | [],_,_,h=>by cases h;exact⟨Nat.le_refl _,id⟩
  | o :: r,p,e,h=>by have:=h.2.2.2.2.2.2.le;have:=ea o.size;omega
structure akC (b:Ly) (p e:Nat) (o:Ob):Prop where
  ge:p<=o.pos
  le:o.pos+oe o.size<=e
  al:p%8=0->o.pos%8=0
  kind:1<=o.kind/\o.kind<=7
  size:16<=o.size/\o.size<18446744073709551616
  hd:seg b o.pos 16=SH o.kind o.size
theorem fF.mem {b:Ly}:∀{l:List Ob} {p e:Nat} {o:Ob},fF b p l e->o∈l->akC b p e o
  | [],_,_,_,_,h=>by simp at h
  | x :: r,p,e,o,h,ho=>by
    obtain⟨j,k,m,n,q,s,a⟩:=h;have hl:=a.le;have v:=ea x.size
    rcases List.mem_cons.1 ho with rfl|ho
    · subst j
      exact⟨Nat.le_refl _,hl.1,id,⟨k,m⟩,⟨n,q⟩,s⟩
    · obtain⟨t,c,d,f,g,i⟩:=a.mem ho
      exact⟨by omega,c,fun u=>d Xx,f,g,i⟩
theorem fF.sep {b:Ly}:∀{l:List Ob} {p e:Nat} {o x:Ob},fF b p l e->o∈l->x∈l->o=x\/o.pos+oe o.size<=x.pos\/x.pos+oe x.size<=o.pos
  | [],_,_,_,_,_,h,_=>by simp at h
  | y :: r,p,e,o,x,h,ho,hx=>by
    obtain⟨c,d,f,g,i,j,a⟩:=h
    rcases List.mem_cons.1 ho with e1|e1
    · rcases List.mem_cons.1 hx with e2|e2
      · exact .inl<|e1.trans e2.symm
      · have:=(a.mem e2).ge;subst e1;exact .inr<|.inl Xx
    · rcases List.mem_cons.1 hx with e2|e2
      · have:=(a.mem e1).ge;subst e2;exact .inr<|.inr Xx
      · exact a.sep e1 e2
theorem fF.app {b:Ly}:∀{l:List Ob} {p e:Nat} {o:Ob},fF b p l e->o.pos=e->1<=o.kind->o.kind<=7->16<=o.size->o.size<18446744073709551616->seg b e 16=SH o.kind o.size->fF b p (l ++ [o]) (e+oe o.size)
  | [],p,e,o,h,h1,h2,h3,h4,h5,h6=>by cases h;exact⟨h1,h2,h3,h4,h5,h6,q⟩
  | x :: r,p,e,o,h,h1,h2,h3,h4,h5,h6=>by obtain⟨a,c,d,f,g,i,j⟩:=h;exact⟨a,c,d,f,g,i,j.app h1 h2 h3 h4 h5 h6⟩
def Body (l:List Ob) (a:Nat):Prop:=a+8<=272\/∃o∈l,o.pos+16<=a/\a+8<=o.pos+oe o.size
theorem fF.jU {b c:Ly} {S:Nat->Prop} {l:List Ob} {p e:Nat} (h:fF b p l e) (k:Eff S b c) (hb:e<=b.length) (hs:∀o∈l,∀a,S a->a+8<=o.pos\/o.pos+16<=a):fF c p l e:=by
  induction l generalizing p with
  | nil=>exact h
  | cons o r ih =>
    have K:=fF.mem (o:=o) h Oj;obtain⟨A,C,D,E,F,G,B⟩:=h;have L:=ea o.size;have J:=B.le;refine⟨A,C,D,E,F,?_,ih B fun x I=>hs x (by simp[I])⟩;rw[k.seg p 16 Xx fun a H=>A ▸ hs o Oj a H,G]
theorem fF.body {b:Ly} {l:List Ob} {e:Nat} (h:fF b 272 l e) {a:Nat} (c:Body l a) {o:Ob} (d:o∈l):a+8<=o.pos\/o.pos+16<=a:=by
  have f:=h.mem d
  rcases c with c|⟨x,C,D,E⟩
  · have:=f.ge;omega
  have:=ea o.size;have:=ea x.size
  rcases h.sep d C with rfl|A|A <;> omega
def lG:Nat->Nat
  | 0=>0
  | k+1=>lG k+cB (k:Int)
theorem JF:∀(l:List Nat) (k a:Nat),eK l k a (lG k)=(if l=[]then a else lG (k+l.length-1),lG (k+l.length))
  | [],_,_=>rfl
  | x :: l,k,a=>by
    have:=JF l (k+1)<|lG k;rw[show eK (x :: l) k a (lG k)=eK l (k+1) (lG k) (lG<|k+1)from rfl,this];have b:k+1+l.length=k+(l.length+1):=(by omega);simp only[List.length_cons,b,reduceCtorEq,if_false,Prod.mk.injEq,and_true];split
    · rename_i h;subst h;rfl
    · rfl
theorem zf (l:List Nat):eK l 0 0 0=(lG (l.length-1),lG l.length):=by
  have:=JF l 0 0;simp only[lG,Nat.zero_add]at this;rw[this];congr 1;split
  · rename_i h;subst h;rfl
  rfl
theorem CK {i j:Nat} (h:i<=j):lG i<=lG j:=by
  induction j with
  | zero=>rw[Nat.le_zero.1 h];exact Nat.le_refl _
  | succ j ih =>
    rcases Nat.lt_or_ge i (j+1)with A|A
    · have:=ih Xx;simp only[lG];omega
    · rw[show i=j+1 by omega];exact Nat.le_refl _
theorem abl {i j:Nat} (h:i<j):lG i+cB (i:Int)<=lG j:=CK (show i+1<=j from h)
theorem qB (l:List Nat) (x i:Nat):(l ++ [x]).getD i 0=if i=l.length then x else l.getD i 0:=by
  simp only[List.getD_eq_getElem?_getD]
  by_cases h:i<l.length
  · rw[List.getElem?_append_left h,if_neg Xx]
  rw[List.getElem?_append_right Xx]
  by_cases h2:i=l.length
  · subst h2;simp
  rw[if_neg h2,List.getElem?_eq_none Xh,List.getElem?_eq_none Xx]
theorem getD_some {l:List Nat} {i x:Nat} (h:l[i]? = some x):l.getD i 0=x:=by simp[List.getD,h]
structure Chain (b:Ly) (l:List Ob) (src:Nat) (av bg:List Nat):Prop where
  word:d8 b src=av.getD 0 0
  ob:∀k a:Nat,av[k]? = some a->(⟨a,6,24+8*cB (k:Int)⟩:Ob)∈l
  next:∀k a:Nat,av[k]? = some a->d8 b (a+16)=av.getD (k+1) 0
  ij:∀k a j:Nat,av[k]? = some a->j<cB (k:Int)->d8 b (a+24+8*j)=bg.getD (lG k+j) 0
  MP:∀k a c:Nat,av[k]? = some a->av[k+1]? = some c->a<c
  lo:lG (av.length-1)<=bg.length
  hi:bg.length<=lG av.length
theorem RH {b:List Nat} (h:∀k a c:Nat,b[k]? = some a->b[k+1]? = some c->a<c):∀(d k a c:Nat),b[k]? = some a->b[k+d+1]? = some c->a<c
  | 0,k,a,c,h1,h2=>h k a c h1 h2
  | d+1,k,a,c,h1,h2=>by obtain⟨y,e⟩:∃y,b[k+d+1]? = some y:=⟨_,List.getElem?_eq_getElem (by have:=(List.getElem?_eq_some_iff.1 h2).1;omega)⟩;have:=RH h d k a y h1 e;have:=h (k+d+1) y c e h2;omega
def Src (l:List Ob) (a:Nat):Prop:=a+8<=272\/∃o∈l,o.kind≠6/\o.pos+16<=a/\a+8<=o.pos+oe o.size
theorem Src.body {l:List Ob} {a:Nat} (h:Src l a):Body l a:=h.imp id fun⟨o,b,_,c⟩=>⟨o,b,c⟩
theorem Src.apart {b:Ly} {l:List Ob} {a e:Nat} (h:Src l a) (c:fF b 272 l e) {o:Ob} (d:o∈l) (hk:o.kind=6):a+8<=o.pos\/o.pos+oe o.size<=a:=by
  rcases h with h|⟨x,C,A,D,E⟩
  · have:=(c.mem d).ge;omega
  rcases c.sep d C with rfl|B|B
  · exact absurd hk A
  · omega
  omega
theorem Src.mono {l r:List Ob} {a:Nat} (h:Src l a) (hs:∀o∈l,o∈r):Src r a:=h.imp id fun⟨o,b,c⟩=>⟨o,hs o b,c⟩
theorem Src.lt {b:Ly} {l:List Ob} {a e:Nat} (h:Src l a) (c:fF b 272 l e):a+8<=e:=by
  rcases h with h|⟨x,A,B,C,D⟩
  · have:=c.le;omega
  have:=(c.mem A).le;omega
def zy (src:Nat) (av:List Nat) (a:Nat):Prop:=a=src\/∃k c:Nat,av[k]? = some c/\c+16<=a/\a+8<=c+24+8*cB (k:Int)
theorem gU (r:Nat):oe (24+8*r)=24+8*r:=by unfold oe;omega
section
variable {b c:Ly} {l:List Ob} {src e:Nat} {av bg:List Nat}
theorem Chain.apart (h:Chain b l src av bg) (j:fF b 272 l e) {k c a d:Nat} (f:av[k]? = some a) (g:av[c]? = some d) (hk:k≠c):a+24+8*cB (k:Int)<=d\/d+24+8*cB (c:Int)<=a:=by
  have i:a≠d:=by
    rcases Nat.lt_or_ge k c with A|A
    · have:=RH h.MP (c-k-1) k a d f (by rw[show k+(c-k-1)+1=c by omega];exact g);omega
    · have:=RH h.MP (k-c-1) c d a g (by rw[show c+(k-c-1)+1=k by omega];exact f);omega
  rcases j.sep (h.ob k a f) (h.ob c d g)with A|A|A
  · exact absurd (congrArg Ob.pos A) i
  · rw[gU]at A;simp only at A;omega
  rw[gU]at A;simp only at A;omega
theorem Chain.le (h:Chain b l src av bg) (d:fF b 272 l e) {k a:Nat} (f:av[k]? = some a):272<=a/\a+24+8*cB (k:Int)<=e:=by have:=d.mem<|h.ob k a f;have c:=this.le;have C:=this.ge;rw[gU]at c;simp only at c C;omega
theorem Chain.jU {S:Nat->Prop} {r:List Ob} (h:Chain b l src av bg) (g:fF b 272 l e) (hs:Src l src) (p:e<=b.length) (k:Eff S b c) (m:∀o∈l,o∈r) (h1:∀a,S a->a+8<=src\/src+8<=a) (j:∀k x:Nat,av[k]? = some x->∀a,S a->a+8<=x+16\/x+24+8*cB (k:Int)<=a):Chain c r src av bg:=by
  have D:=hs.lt g;refine⟨(k.d8 Xx h1).trans h.word,fun i a d=>m _<|h.ob i a d,fun i a d=>?_,fun i a n d C=>?_,h.MP,h.lo,h.hi⟩
  · have:=h.le g d
    rw[k.d8 Xx fun x f=>by have:=j i a d x f;omega];exact h.next i a d
  have:=h.le g d;rw[k.d8 Xx fun x f=>by have:=j i a d x f;omega];exact h.ij i a n d C
theorem Chain.put (h:Chain b l src av bg) (f:fF b 272 l e) (hs:Src l src) (r:e<=b.length) {x p:Nat} (m:x<18446744073709551616) (k:av≠[]) (c:av[av.length-1]? = some p) (s:bg.length<lG av.length) :
    Chain (gq b (p+24+8*(bg.length-lG (av.length-1))) x) l src av (bg ++ [x]):=by
  have D:0<av.length:=List.length_pos_iff.2 k;have H:lG av.length=lG (av.length-1)+cB ((av.length-1:Nat):Int):=by rw[show av.length=(av.length-1)+1 by omega];rfl
  have o:=h.lo;have G:=h.le f c;generalize hq:p+24+8*(bg.length-lG (av.length-1))=q;have j:=hs.apart f (h.ob _ _ c) rfl;rw[gU]at j;simp only at j;refine⟨?_,h.ob,fun i d a=>?_,fun i d g a C=>?_,h.MP,?_,?_⟩
  · rw[eU Xx];exact h.word
  · have:q+8<=d+16\/d+16+8<=q:=by
      by_cases hi:i=av.length-1
      · subst hi;rw[c]at a;cases a;omega
      · have:=h.apart f a c hi;omega
    rw[eU this];exact h.next i d a
  · rw[qB]
    by_cases hi:i=av.length-1
    · subst hi
      rw[c]at a;cases a
      by_cases hj2:g=bg.length-lG (av.length-1)
      · rw[if_pos Xx,show p+24+8*g=q by omega]
        exact iw Xx m
      rw[if_neg Xx,eU Xx];exact h.ij _ _ g c C
    have n:i<av.length:=(List.getElem?_eq_some_iff.1 a).1;have:=abl (show i<av.length-1 by omega);have:=h.apart f a c hi;rw[if_neg Xx,eU Xx];exact h.ij i d g a C
  · rw[List.length_append];simp only[List.length_singleton];omega
  rw[List.length_append];simp only[List.length_singleton];omega
end
theorem tJ {b:List Nat} {p k a:Nat} (h:(b ++ [p])[k]? = some a):(k<b.length/\b[k]? = some a)\/(k=b.length/\a=p):=by
  rcases Nat.lt_or_ge k b.length with hk|hk
  · rw[List.getElem?_append_left hk]at h;exact .inl ⟨hk,h⟩
  have c:=(List.getElem?_eq_some_iff.1 h).1;simp at c;rw[List.getElem?_append_right hk,show k-b.length=0 by omega]at h;exact .inr ⟨by omega,by simpa using h.symm⟩
def KF (r:Nat):List UInt8:=dw {next:=0,bg:=List.replicate r 0}
theorem KG (r:Nat):KF r=SH 6 (24+8*r) ++ nums (0 :: List.replicate r 0):=by
  unfold KF dw;rw[EV Xx];have:(nums [0] ++ nums (List.replicate r 0)).length=8+8*r:=by simp[cP]
  simp only[this];rw[show(8-(16+(8+8*r))%8)%8=0 by omega,show 16+(8+8*r)=24+8*r by omega];simp[nums]
theorem N2 (r:Nat):(KF r).length=24+8*r:=by rw[KG];simp[kC,cP];omega
theorem XZ {r i:Nat} (h:i<=r):d8 (KF r) (16+8*i)=0:=by
  rw[KG,lN (by rw[kC];omega),kC,show 16+8*i-16=8*i by omega];refine GK (v:=0) ?_ Xz;cases i with
  | zero=>rfl
  | succ i=>simp only[List.getElem?_cons_succ];rw[List.getElem?_replicate,if_pos Xx]
theorem aeR (r:Nat):seg (KF r) 0 16=SH 6 (24+8*r):=by rw[KG];exact qN _ _ (kC _ _).symm
theorem Chain.grow {b:Ly} {l:List Ob} {src:Nat} {a bg:List Nat} (h:Chain b l src a bg) (j:fF b 272 l b.length) (hs:Src l src) (hb:b.length<1000000) (N:bg.length=lG a.length) :
    let f:=b ++ KF (cB (a.length:Int))
    let v:=l ++ [(⟨b.length,6,24+8*cB (a.length:Int)⟩:Ob)]
    fF f 272 v f.length/\Chain (gq f (if a.length=0 then src else eY a+16) b.length) v src (a ++ [b.length]) bg:=by
  intro f v;have R:=lZ (a.length:Int);have P:f.length=b.length+(24+8*cB (a.length:Int)):=by simp[f,N2]
  have G:Eff (fun _=>False) b f:=Eff.app _ _ _;have L:=j.le;have F:fF f 272 v f.length:=by
    have:=(j.jU G (Nat.le_refl _)<|fun _ _ _ J=>J.elim).app (o:=⟨b.length,6,24+8*cB (a.length:Int)⟩) rfl Oj Oj Xh Xh ?_
    · rw[gU]at this;rw[P];exact this
    · have u:=me (x:=b) (y:=KF<|cB (a.length:Int)) (p:=b.length) (n:=16)<|Nat.le_refl _
      rw[Nat.sub_self,aeR]at u;exact u
  refine⟨F,?_⟩;have E:∀i,i<=cB (a.length:Int)->d8 f (b.length+16+8*i)=0:=fun i z=>by have:=lN (x:=b) (y:=KF<|cB (a.length:Int)) (p:=b.length+16+8*i) Xx;rw[show b.length+16+8*i-b.length=16+8*i by omega,XZ z]at this;exact this
  have A:=hs.lt j;have I:∀q,q+8<=b.length->d8 f q=d8 b q:=fun q r=>pF r;have M:lG (a.length+1)=lG a.length+cB (a.length:Int):=rfl
  -- the place that leads to the new one
  have r:∃q,(if a.length=0 then src else eY a+16)=q/\q+8<=b.length/\(a=[]/\q=src\/∃p,a[a.length-1]? = some p/\0<a.length/\q=p+16):=by
    by_cases hz:a.length=0
    · exact⟨src,by rw[if_pos hz],A,.inl ⟨List.eq_nil_of_length_eq_zero hz,rfl⟩⟩
    · obtain⟨p,g⟩:∃p,a[a.length-1]? = some p:=⟨_,List.getElem?_eq_getElem Xx⟩
      have:=h.le j g;exact⟨p+16,by rw[if_neg hz,jY g],by omega,.inr ⟨p,g,by omega,rfl⟩⟩
  obtain⟨q,V,d,r⟩:=r;rw[V];have D:∀s,s+8<=b.length->(q+8<=s\/s+8<=q)->d8 (gq f q b.length) s=d8 b s:=fun s W u=>(eU u).trans<|I s W;have C:d8 (gq f q b.length) q=b.length:=iw Xx Xx;have H:∀i,i<=cB (a.length:Int)->d8 (gq f q b.length) (b.length+16+8*i)=0:=fun i z=>(eU Xx).trans<|E i z;refine⟨?_,fun k m e=>?_,fun k m e=>?_,fun k m t e K=>?_,fun k m c e w=>?_,?_,?_⟩
  · rcases r with⟨rfl,rfl⟩|⟨p,g,T,rfl⟩
    · exact C
    have B:=hs.apart j (h.ob _ _ g) rfl;rw[gU]at B;simp only at B;rw[D src A Xx,h.word,qB,if_neg Xx]
  · rcases tJ e with⟨_,e⟩|⟨rfl,rfl⟩
    · exact List.mem_append_left _<|h.ob k m e
    exact List.mem_append_right _ Oj
  · rcases tJ e with⟨hk,e⟩|⟨rfl,rfl⟩
    · have Q:=h.le j e
      rcases r with⟨rfl,_⟩|⟨p,g,T,rfl⟩
      · simp at hk
      by_cases hk2:k=a.length-1
      · subst hk2;rw[g]at e;cases e
        rw[C,qB,if_pos Xx]
      have:=h.apart j e g hk2;rw[D _ Xx Xx,h.next k m e,qB,if_neg Xx]
    have:=H 0 Xx;rw[Nat.mul_zero,Nat.add_zero]at this;rw[this,qB,if_neg Xx];simp
  · rcases tJ e with⟨hk,e⟩|⟨rfl,rfl⟩
    · have Q:=h.le j e
      have:q+8<=m+24+8*t\/m+24+8*t+8<=q:=by
        rcases r with⟨rfl,_⟩|⟨p,g,T,rfl⟩
        · simp at hk
        · by_cases hk2:k=a.length-1
          · subst hk2;rw[g]at e;cases e;omega
          · have:=h.apart j e g hk2;omega
      rw[D _ Xx this];exact h.ij k m t e K
    have:=H (t+1) Xx;rw[show b.length+16+8*(t+1)=b.length+24+8*t by omega]at this;rw[this];symm;simp only[List.getD_eq_getElem?_getD];rw[List.getElem?_eq_none Xx];rfl
  · rcases tJ w with⟨hk,w⟩|⟨hk,rfl⟩
    · rcases tJ e with⟨_,e⟩|⟨rfl,_⟩
      · exact h.MP k m c e w
      omega
    rcases tJ e with⟨_,e⟩|⟨rfl,_⟩
    · have:=h.le j e;omega
    omega
  · simp only[List.length_append,List.length_singleton,Nat.add_sub_cancel];omega
  simp only[List.length_append,List.length_singleton];omega
structure Cn (m:Mk) (l:List Ob):Prop where
  len:19<=m.h.n.length
  n6:m.aT 6=eY (l.map Ob.pos)
  n7:m.aT 7=l.length%18446744073709551616
  n17:m.aT 17=0
  n18:m.aT 18=(l.filter fun o=>decide (o.kind=6)).length%18446744073709551616
  k:∀o∈l,o.kind≠7/\(o.kind=6->∃r,1<=r/\o.size=24+8*r)/\(o.kind=4\/o.kind=5->∃r,1<=r/\o.size=16+16*r)
theorem Cn.to {m m':Mk} {l:List Ob} (h:Cn m l) (hl:m'.h.n.length=m.h.n.length) (a:∀i,i=6\/i=7\/i=17\/i=18->m'.aT i=m.aT i):Cn m' l :=
  ⟨by rw[hl];exact h.len,(a 6 Xx).trans h.n6,(a 7 Xx).trans h.n7,(a 17 Xx).trans h.n17,(a 18 Xx).trans h.n18,h.k⟩
theorem Cn.same {m m':Mk} {l:List Ob} (h:Cn m l) (e:m'.h=m.h):Cn m' l:=h.to (by rw[e]) fun i _=>by show m'.h.n.getD i 0=_;rw[e];rfl
theorem vN (a:List Nat) (x:Nat):eY (a ++ [x])=x:=jY Oj
theorem AX {m:Mk} {k v:Nat} (h:k<m.h.n.length):(m.bD k v).aT k=v:=lR h
theorem Cn.obj {m:Mk} {l:List Ob} (h:Cn m l) (o:Ly) {k s:Nat} (hk:k<=3):Cn (m.bJ o).2 (l ++ [⟨m.b.length,k,s⟩]):=by
  have B:=h.len;refine⟨by simp[Mk.bJ,Mk.bD];omega,?_,?_,?_,?_,fun x A=>?_⟩
  · simp only[Mk.bJ]
    rw[cg Xx,AX (by show 6<m.h.n.length;omega),List.map_append];exact(vN _ _).symm
  · simp only[Mk.bJ]
    rw[AX (by simp[Mk.bD];omega),cg Xx];show(m.aT 7+1)%_=_;rw[h.n7,List.length_append,List.length_singleton];omega
  · simp only[Mk.bJ]
    rw[cg Xx,cg Xx];exact h.n17
  · simp only[Mk.bJ]
    rw[cg Xx,cg Xx,List.filter_append,List.filter_cons_of_neg Xh,List.filter_nil,List.append_nil];exact h.n18
  rcases List.mem_append.1 A with A|A
  · exact h.k x A
  simp at A;subst A;exact⟨by simp only;omega,fun h=>by simp only at h;omega,fun h=>by simp only at h;omega⟩
theorem Cn.arr {m:Mk} {l:List Ob} (h:Cn m l) (o:Ly) {r:Nat} (c:1<=r):Cn ((m.bJ o).2.bD 18<|((m.bJ o).2.aT 18+1)%18446744073709551616) (l ++ [⟨m.b.length,6,24+8*r⟩]):=by
  have C:=h.len;have g:=h.obj o (k:=0) (s:=0) Xx;have d:=g.len;refine⟨by simp[Mk.bD];omega,?_,?_,?_,?_,fun x a=>?_⟩
  · rw[cg Xx,g.n6,List.map_append,List.map_append];rw[List.map_singleton,List.map_singleton,vN]
  · rw[cg Xx,g.n7,List.length_append,List.length_append];rfl
  · rw[cg Xx];exact g.n17
  · rw[AX Xx,g.n18,List.filter_append,List.filter_append,List.filter_cons_of_neg Oj,List.filter_nil,List.append_nil,List.filter_cons_of_pos Oj,List.filter_nil,List.length_append,List.length_singleton];omega
  rcases List.mem_append.1 a with a|a
  · exact h.k x a
  simp at a;subst a;exact⟨by simp,fun _=>⟨r,c,q⟩,fun h=>by simp at h⟩
structure Linked (m m':Mk) (l l':List Ob) (src:Nat) (av av' bg:List Nat) (x:Nat):Prop where
  dY:fF m'.b 272 l' m'.b.length
  sub:l'=l\/l'=l ++ [(⟨m.b.length,6,24+8*cB (av.length:Int)⟩:Ob)]
  arr:av'=av\/av'=av ++ [m.b.length]
  chain:Chain m'.b l' src av' (bg ++ [x])
  jU:Eff (zy src av') m.b m'.b
  ne:av'≠[]
  top:m'.b.length<=m.b.length+2100
  same:m'.c=m.c/\m'.ai=m.ai/\m'.aC=m.aC/\m'.main=m.main/\m'.depth=m.depth/\∀i,i≠6->i≠7->i≠18->m'.aT i=m.aT i
  cn:Cn m l->Cn m' l'
theorem uD {m:Mk} {l:List Ob} {src x:Nat} {a bg:List Nat} (I:fF m.b 272 l m.b.length) (h:Chain m.b l src a bg) (hs:Src l src) (hb:m.b.length<900000) (S:x<18446744073709551616) :
    ∃ah,Linked m (m.link a bg.length src x).2.2 l ah src a (m.link a bg.length src x).1 bg x:=by
  unfold Mk.link;rw[zf];simp only;split
  · rename_i hn
    have g:=h.grow I hs Xx hn;simp only at g;obtain⟨V,W⟩:=g;generalize hl1:l ++ [(⟨m.b.length,6,24+8*cB (a.length:Int)⟩:Ob)]=l1 at *;generalize hq:(if a.length=0 then src else eY a+16)=qv at W;have J:(m.bJ<|dw {next:=0,bg:=List.replicate (cB (a.length:Int)) 0}).2.b=m.b ++ KF (cB (a.length:Int)):=rfl;have F:(m.bJ<|dw {next:=0,bg:=List.replicate (cB (a.length:Int)) 0}).1=m.b.length:=rfl;have B:=dn m<|dw {next:=0,bg:=List.replicate (cB (a.length:Int)) 0};have H:(m.bJ<|dw {next:=0,bg:=List.replicate (cB (a.length:Int)) 0}).2.depth=m.depth:=rfl;have O:∀i,i≠6->i≠7->(m.bJ<|dw {next:=0,bg:=List.replicate (cB (a.length:Int)) 0}).2.aT i=m.aT i:=fun i n t=>by simp only[Mk.bJ];rw[cg Xx,cg Xx];rfl
    have K:=fun h:Cn m l=>h.arr (dw {next:=0,bg:=List.replicate (cB (a.length:Int)) 0}) (r:=cB (a.length:Int)) (by have:=pu (k:=(a.length:Int)) Xx;omega);rw[hl1]at K;generalize m.bJ (dw {next:=0,bg:=List.replicate (cB (a.length:Int)) 0})=r at *;obtain⟨p,e⟩:=r;simp only at J F B H O K ⊢;subst F;have d:=lZ (a.length:Int);have an:=pu (k:=(a.length:Int)) Xx;have ak:e.b.length=m.b.length+(24+8*cB (a.length:Int)):=(by rw[J];simp[N2]);have Y:lG (a ++ [m.b.length]).length=lG a.length+cB (a.length:Int):=(by simp[lG]);have Q:Src l1 src:=hs.mono fun o u=>by rw[<- hl1];exact List.mem_append_left _ u
    have P:Body l1 qv/\(qv=src\/∃k c:Nat,(a ++ [m.b.length])[k]? = some c/\qv=c+16):=by
      rw[<- hq];split
      · exact⟨Q.body,.inl q⟩
      · rename_i v
        obtain⟨p,G⟩:∃p,a[a.length-1]? = some p:=⟨_,List.getElem?_eq_getElem Xx⟩;rw[jY G];have u:=h.ob _ _ G;refine⟨.inr ⟨⟨p,6,24+8*cB ((a.length-1:Nat):Int)⟩,?_,Nat.le_refl _,?_⟩,.inr ⟨a.length-1,p,by rw[List.getElem?_append_left Xx];exact G,q⟩⟩
        · rw[<- hl1];exact List.mem_append_left _ u
        · rw[gU];simp only;omega
    rw[J.symm]at V W;have U:Eff (fun s=>s=qv) e.b (gq e.b qv m.b.length):=Eff.put _ _ _;have M:fF (gq e.b qv m.b.length) 272 l1 (gq e.b qv m.b.length).length:=(by rw[dV];exact V.jU U (Nat.le_refl _) fun o u s C=>by subst C;exact V.body P.1 u);have D:(a ++ [m.b.length])[(a ++ [m.b.length]).length-1]? = some m.b.length:=(by simp);have E:=W.put (x:=x) (p:=m.b.length) M Q (Nat.le_refl _) S Oj D (by rw[Y];omega);have X:bg.length-lG ((a ++ [m.b.length]).length-1)=0:=(by simp;omega);rw[X]at E;have A:Eff (fun s=>s=m.b.length+24+8*0) (gq e.b qv m.b.length) (gq (gq e.b qv m.b.length) (m.b.length+24+8*0) x):=Eff.put _ _ _;have f:fF (gq (gq e.b qv m.b.length) (m.b.length+24+8*0) x) 272 l1 (gq (gq e.b qv m.b.length) (m.b.length+24+8*0) x).length:=by
      rw[dV];refine M.jU A (Nat.le_refl _) fun o u s C=>?_;subst C;refine M.body (.inr ⟨⟨m.b.length,6,24+8*cB (a.length:Int)⟩,?_,?_,?_⟩) u
      · rw[<- hl1];simp
      · simp only;omega
      · rw[gU];simp only;omega
    have R:∀j:Mk,j=(if a.length=0 then(e.bD 18<|(e.aT 18+1)%18446744073709551616).put src m.b.length else(e.bD 18<|(e.aT 18+1)%18446744073709551616).put (eY a+16) m.b.length)->j.b=gq e.b qv m.b.length/\j.c=e.c/\j.ai=e.ai/\j.aC=e.aC/\j.main=e.main/\j.depth=e.depth/\j.h=(e.bD 18<|(e.aT 18+1)%18446744073709551616).h/\∀i,i≠18->j.aT i=e.aT i:=by
      intro j z;subst z;rw[<- hq];split
      · exact⟨q,q,q,q,q,q,q,fun i hi=>cg (m:=e) Xx⟩
      · exact⟨q,q,q,q,q,q,q,fun i hi=>cg (m:=e) Xx⟩
    have N:=R _ q;clear R;generalize (if a.length=0 then(e.bD 18<|(e.aT 18+1)%18446744073709551616).put src m.b.length else(e.bD 18<|(e.aT 18+1)%18446744073709551616).put (eY a+16) m.b.length)=j at *;obtain⟨T,N,ab,ad,ae,af,aa,ag⟩:=N;rw[jY D,show bg.length-lG a.length=0 by omega];rw[<- T]at f E A;have ml:(j.put (m.b.length+24+8*0) x).b=gq j.b (m.b.length+24+8*0) x:=rfl;refine⟨l1,⟨by rw[ml];exact f,.inr hl1.symm,.inr q,by rw[ml];exact E,?_,by simp,?_,⟨N.trans B.1,ab.trans B.2.1,ad.trans B.2.2.1,ae.trans B.2.2.2,af.trans H,fun i n t y=>(ag i y).trans<|O i n t⟩,fun h=>(K h).same aa⟩⟩
    · rw[ml,T]
      have aj:Eff (zy src<|a ++ [m.b.length]) m.b e.b:=(by rw[J];exact Eff.app _ _ _);refine aj.trans<|(U.mono fun s C=>?_).trans<|(T ▸ A).mono fun s C=>?_
      · subst C
        rcases P.2 with h|⟨k,c,F,w⟩
        · exact .inl h
        exact .inr ⟨k,c,F,by omega,by omega⟩
      subst C;exact .inr ⟨a.length,m.b.length,by simp,by omega,by omega⟩
    rw[ml,dV,T,dV];omega
  rename_i hn;have am:=h.lo;have Z:=h.hi;have L:a≠[]:=by rintro rfl;have F:bg.length<=0:=Z;have w:¬bg.length=0:=hn;omega
  have v:=List.length_pos_iff.2 L;obtain⟨p,G⟩:∃p,a[a.length-1]? = some p:=⟨_,List.getElem?_eq_getElem Xx⟩;rw[jY G];have E:=h.put I hs (Nat.le_refl _) S L G Xx;have al:=h.le I G;have ao:lG a.length=lG (a.length-1)+cB ((a.length-1:Nat):Int):=by have:a.length=(a.length-1)+1:=(by omega);rw[this];rfl
  generalize hq:p+24+8*(bg.length-lG (a.length-1))=qv at *;have A:Eff (fun s=>s=qv) m.b (gq m.b qv x):=Eff.put _ _ _;refine⟨l,⟨?_,.inl q,.inl q,E,A.mono fun s C=>?_,L,?_,⟨q,q,q,q,q,fun _ _ _ _=>rfl⟩,fun h=>h.same q⟩⟩
  · show fF (gq m.b qv x) 272 l (gq m.b qv x).length
    rw[dV];refine I.jU A (Nat.le_refl _) fun o u s C=>?_;subst C;refine I.body (.inr ⟨_,h.ob _ _ G,?_,?_⟩) u
    · simp only;omega
    rw[gU];simp only;omega
  · subst C
    exact .inr ⟨a.length-1,p,G,by omega,by omega⟩
  show(gq m.b qv x).length<=_;rw[dV];omega
def sD (l:List Ob) (a:Nat):Prop:=∀o∈l,(a+8<=o.pos\/o.pos+16<=a) /\
  (o.kind=1->a+8<=o.pos+16\/o.pos+24<=a/\a+8<=o.pos+64\/o.pos+oe o.size<=a) /\
  (o.kind=2->a+8<=o.pos+16\/o.pos+24<=a/\a+8<=o.pos+40\/o.pos+oe o.size<=a) /\
  (o.kind=3->a+8<=o.pos\/o.pos+oe o.size<=a)
theorem AV {b:Ly} {l:List Ob} {e a:Nat} (d:fF b 272 l e) {x:Ob} (j:x∈l) (h1:x.pos+16<=a) (k:a+8<=x.pos+oe x.size) (f:x.kind≠3) (g:x.kind=1->x.pos+24<=a/\a+8<=x.pos+64) (i:x.kind=2->x.pos+24<=a/\a+8<=x.pos+40):sD l a:=by
  intro o c;have:=ea o.size;have:=ea x.size;have:=(d.mem c).size.1
  rcases d.sep c j with rfl|B|B
  · refine⟨by omega,fun h=>.inr<|.inl<|g h,fun h=>.inr<|.inl<|i h,fun h=>absurd h f⟩
  · exact⟨by omega,fun _=>by omega,fun _=>by omega,fun _=>by omega⟩
  exact⟨by omega,fun _=>by omega,fun _=>by omega,fun _=>by omega⟩
theorem ZD {b:Ly} {l:List Ob} {e a:Nat} (c:fF b 272 l e) (h:a+8<=272):sD l a:=fun o d=>by have:=(c.mem d).ge;exact⟨by omega,fun _=>by omega,fun _=>by omega,fun _=>by omega⟩
theorem sD.mono {l r:List Ob} {a:Nat} (h:sD r a) (hs:∀o∈l,o∈r):sD l a:=fun o b=>h o<|hs o b
def oo (l:List Ob) (a:Nat):Prop:=∃o∈l,((o.kind=4\/o.kind=5)/\o.pos+16<=a/\a+8<=o.pos+oe o.size)\/(((o.kind=1/\64<=o.size)\/(o.kind=2/\40<=o.size))/\(a=o.pos+24\/a=o.pos+32))
theorem oo.mono {l r:List Ob} {a:Nat} (h:oo l a) (hs:∀o∈l,o∈r):oo r a:=by obtain⟨o,A,h⟩:=h;exact⟨o,hs o A,h⟩
theorem oo.ZC {b:Ly} {l:List Ob} {e a:Nat} (h:oo l a) (f:fF b 272 l e):sD l a:=by
  obtain⟨o,d,⟨C,c,D⟩|⟨C,c⟩⟩:=h
  · exact AV f d c D Xx Xx Xx
  have:=ea o.size;exact AV f d Xx Xx Xx Xx Xx
theorem oo.at {b:Ly} {l:List Ob} {e a:Nat} (h:oo l a) (d:fF b 272 l e):272<=a/\a+8<=e/\∀o∈l,(o.kind=1->a+8<=o.pos+40\/o.pos+oe o.size<=a)/\(o.kind=6->a+8<=o.pos\/o.pos+oe o.size<=a):=by
  obtain⟨x,D,h⟩:=h;have C:=d.mem D;have hk:=C.le;have G:=C.ge;have g:=ea x.size;have c:x.pos+16<=a/\a+8<=x.pos+oe x.size/\x.kind≠6/\(x.kind=1->a+8<=x.pos+40):=by
    rcases h with⟨E,A,F⟩|⟨E,A⟩
    · exact⟨A,F,by omega,by omega⟩
    · exact⟨by omega,by omega,by omega,by omega⟩
  refine⟨by omega,by omega,fun o f=>?_⟩;have:=ea o.size
  rcases d.sep f D with rfl|H|H
  · exact⟨fun h=>.inl<|c.2.2.2 h,fun h=>absurd h c.2.2.1⟩
  · exact⟨fun _=>by omega,fun _=>by omega⟩
  exact⟨fun _=>by omega,fun _=>by omega⟩
def bV (m:Mk) (s:Ly):Nat:=cu m.c.bL m.c.bE s
structure s9 (b:Ly) (l:List Ob) (h:Nat) (k:aK):Prop where
  ob:(⟨k.pos,1,64+k.bI.length⟩:Ob)∈l
  bZ:d8 b (k.pos+16)=h
  bI:seg b (k.pos+64) k.bI.length=k.bI
structure GF (b:Ly) (l:List Ob) (h:Nat) (k:aK):Prop where
  ob:(⟨k.pos,2,40+k.bI.length⟩:Ob)∈l
  bZ:d8 b (k.pos+16)=h
  bI:seg b (k.pos+40) k.bI.length=k.bI
theorem s9.jU {b c:Ly} {l r:List Ob} {n:Nat} {k:aK} {S:Nat->Prop} (h:s9 b l n k) (g:fF b 272 l b.length) (f:Eff S b c) (hs:∀a,S a->sD l a) (i:∀o∈l,o∈r):s9 c r n k:=by
  have e:=(g.mem h.ob).le;have C:=ea<|64+k.bI.length;refine⟨i _ h.ob,(f.d8 (by simp only at e;omega) fun a d=>?_).trans h.bZ,(f.seg _ _ (by simp only at e;omega) fun a d=>?_).trans h.bI⟩
  · have:=(hs a d _ h.ob).2.1 rfl;simp only at this;omega
  have:=(hs a d _ h.ob).2.1 rfl;simp only at this;omega
theorem GF.jU {b c:Ly} {l r:List Ob} {n:Nat} {k:aK} {S:Nat->Prop} (h:GF b l n k) (g:fF b 272 l b.length) (f:Eff S b c) (hs:∀a,S a->sD l a) (i:∀o∈l,o∈r):GF c r n k:=by
  have e:=(g.mem h.ob).le;have C:=ea<|40+k.bI.length;refine⟨i _ h.ob,(f.d8 (by simp only at e;omega) fun a d=>?_).trans h.bZ,(f.seg _ _ (by simp only at e;omega) fun a d=>?_).trans h.bI⟩
  · have:=(hs a d _ h.ob).2.2.1 rfl;simp only at this;omega
  have:=(hs a d _ h.ob).2.2.1 rfl;simp only at this;omega
structure Stat (m:Mk) (l:List Ob):Prop where
  dY:fF m.b 272 l m.b.length
  MH:(⟨272,4,16+16*m.c.aj⟩:Ob)∈l
  MI:(⟨288+16*m.c.aj,5,16+16*m.c.ak⟩:Ob)∈l
  n2:m.aT 2=288
  n4:m.aT 4=304+16*m.c.aj
  slots:1<=m.c.aj/\1<=m.c.ak
  data:∀k∈m.ai,s9 m.b l (bV m k.bI) k
  fld:∀k∈m.aC,GF m.b l (bV m k.bI) k
  one:∀i j:Nat,∀k k':aK,m.ai[i]? = some k->m.ai[j]? = some k'->k.pos=k'.pos\/k.bI=k'.bI->i=j
  all:∀o∈l,o.kind=1->∃k∈m.ai,k.pos=o.pos
  aaR:∀o∈l,o.kind=2->∃k∈m.aC,k.pos=o.pos
  cn:Cn m l
structure dA (m m':Mk) (l l':List Ob):Prop where
  dY:fF m'.b 272 l' m'.b.length
  sub:∃t,l'=l ++ t/\∀o∈t,(o.kind=1\/o.kind=2)/\m.b.length<=o.pos
  jU:Eff (oo l') m.b m'.b
  same:m'.c=m.c/\m'.main=m.main/\∀i,i≠6->i≠7->i<15->m'.aT i=m.aT i
  cn:Cn m l->Cn m' l'
theorem dA.mem {m m':Mk} {l a:List Ob} (h:dA m m' l a):∀o∈l,o∈a:=by obtain⟨t,c,_⟩:=h.sub;intro o b;rw[c];exact List.mem_append_left _ b
theorem dA.refl {m:Mk} {l:List Ob} (h:fF m.b 272 l m.b.length):dA m m l l:=⟨h,⟨[],by simp,by simp⟩,Eff.refl _ _,⟨q,q,fun _ _ _ _=>rfl⟩,id⟩
theorem dA.trans {m m' m'':Mk} {l d e:List Ob} (h:dA m m' l d) (k:dA m' m'' d e):dA m m'' l e:=by
  obtain⟨t,n,j⟩:=h.sub;obtain⟨p,f,G⟩:=k.sub;have H:=h.jU.len;refine⟨k.dY,⟨t ++ p,by rw[f,n,List.append_assoc],fun o a=>?_⟩,(h.jU.mono fun q g=>g.mono k.mem).trans k.jU,⟨k.same.1.trans h.same.1,k.same.2.1.trans h.same.2.1,fun i b C D=>(k.same.2.2 i b C D).trans<|h.same.2.2 i b C D⟩,fun c=>k.cn<|h.cn c⟩
  rcases List.mem_append.1 a with a|a
  · exact j o a
  have:=G o a;exact⟨this.1,by omega⟩
theorem dA.to {m m' m'':Mk} {l d:List Ob} (h:dA m m' l d) (hb:m''.b=m'.b) (j:m''.c=m'.c) (k:m''.main=m'.main) (a:∀i,i≠15->i≠16->i≠19->m''.aT i=m'.aT i) (hl:m''.h.n.length=m'.h.n.length):dA m m'' l d :=
  ⟨by rw[hb];exact h.dY,h.sub,by rw[hb];exact h.jU,⟨j.trans h.same.1,k.trans h.same.2.1,fun i e f g=>(a i Xx Xx Xx).trans<|h.same.2.2 i e f g⟩,fun c=>(h.cn c).to hl fun i hi=>a i Xx Xx Xx⟩
theorem dA.put {m:Mk} {l:List Ob} {a:Nat} (v:Nat) (e:fF m.b 272 l m.b.length) (f:oo l a):dA m (m.put a v) l l:=by have g:=f.ZC e;refine⟨?_,⟨[],by simp,by simp⟩,(Eff.put m.b a v).mono fun x d=>d ▸ f,⟨q,q,fun _ _ _ _=>rfl⟩,fun c=>c.same q⟩;show fF (gq m.b a v) 272 l (gq m.b a v).length;rw[dV];exact e.jU (Eff.put m.b a v) (Nat.le_refl _) fun o C x d=>by subst d;exact(g o C).1
theorem abW {o h r:Ly} (e:o=(h ++ r)) (hl:h.length=16):seg o 0 16=h:=by subst e;exact qN _ _ hl.symm
theorem dA.obj {m:Mk} {l:List Ob} {o r:Ly} {k s:Nat} (g:fF m.b 272 l m.b.length) (hk:k=1\/k=2) (h:o=SH k s ++ r) (hl:o.length=oe s) (f:16<=s) (hs:s<1000000):dA m (m.bJ o).2 l (l ++ [⟨m.b.length,k,s⟩]):=by
  have d:(m.bJ o).2.b=m.b ++ o:=rfl;refine⟨?_,⟨_,q,fun x C=>?_⟩,by rw[d];exact Eff.app _ _ _,⟨q,q,fun i j a G=>?_⟩,fun c=>c.obj o Xx⟩
  · have D:=(g.jU (Eff.app (fun _=>False) m.b o) (Nat.le_refl _)<|fun _ _ _ e=>e.elim).app (o:=⟨m.b.length,k,s⟩) q Yx Yx f Yx ?_
    · rw[d,List.length_append,hl];exact D
    have a:=me (x:=m.b) (y:=o) (p:=m.b.length) (n:=16)<|Nat.le_refl _;rw[Nat.sub_self,abW h (kC _ _)]at a;exact a
  · simp at C;subst C;exact⟨hk,Nat.le_refl _⟩
  simp only[Mk.bJ];rw[cg Xx,cg Xx];rfl
theorem yu {bn:Nat}:∀(l:List aK) (n q:Nat),(iM bn l n q).1=n/\(iM bn l n q).2=q\/n<(iM bn l n q).1/\∃k∈l,(iM bn l n q).2=k.pos
  | [],_,_=>.inl ⟨rfl,rfl⟩
  | k :: r,n,q=>by
    simp only[iM];split
    · rcases yu (bn:=bn) r (n+1) k.pos with⟨h1,h2⟩|⟨h1,y,hy,h2⟩
      · exact .inr ⟨by omega,k,by simp,h2⟩
      · exact .inr ⟨by omega,y,by simp[hy],h2⟩
    · rcases yu (bn:=bn) r n q with h|⟨h1,y,hy,h2⟩
      · exact .inl h
      · exact .inr ⟨h1,y,by simp[hy],h2⟩
theorem dA.hang {m:Mk} {l:List Ob} {ks:List aK} {table p bn:Nat} (d:fF m.b 272 l m.b.length) (c:oo l (table+16*bn)/\oo l (table+16*bn+8)) (hk:∀k∈ks,oo l (k.pos+24)):dA m (m.hang ks table p bn).2 l l:=by
  unfold Mk.hang;have C:=yu (bn:=bn) ks 0 0;generalize iM bn ks 0 0=r at *;obtain⟨n,q⟩:=r;simp only at C ⊢;split
  · have a:=dA.put (m:=m) p d c.1
    exact a.trans<|dA.put (m:=m.put (table+16*bn) p) p a.dY c.2
  rename_i hn;have e:oo l (q+24):=by
    rcases C with⟨a,_⟩|⟨_,k,B,D⟩
    · omega
    · rw[D];exact hk k B
  have a:=dA.put (m:=m) p d e;exact a.trans<|dA.put (m:=m.put (q+24) p) p a.dY c.2
theorem ot (b o:Ly) (q:Nat):d8 (b ++ o) (b.length+q)=d8 o q:=by rw[lN Xx,Nat.add_sub_cancel_left]
theorem FC (b o:Ly) (q n:Nat):seg (b ++ o) (b.length+q) n=seg o q n:=by rw[me Xx,Nat.add_sub_cancel_left]
theorem ZJ {k:Nat} (hk:1<=k/\k<=7) (ns:List Nat) (t:Ly) (b:∀v∈ns,v<18446744073709551616) :
    (∃r,lW k (nums ns ++ t)=SH k (16+8*ns.length+t.length) ++ r)/\(lW k<|nums ns ++ t).length=oe (16+8*ns.length+t.length) /\
    (∀i v:Nat,ns[i]? = some v->d8 (lW k<|nums ns ++ t) (16+8*i)=v)/\seg (lW k<|nums ns ++ t) (16+8*ns.length) t.length=t:=by
  have a:(nums ns ++ t).length=8*ns.length+t.length:=by simp[cP]
  rw[EV hk,a,show 16+(8*ns.length+t.length)=16+8*ns.length+t.length by omega];refine⟨⟨_,List.append_assoc _ _ _⟩,?_,fun i v h=>?_,?_⟩
  · rw[List.length_append,List.length_append,kC,a,List.length_replicate];unfold oe;omega
  · rw[List.append_assoc,lN (by rw[kC];omega),kC,Nat.add_sub_cancel_left,List.append_assoc]
    exact wz h<|b v<|List.mem_of_getElem? h
  rw[List.append_assoc,me (by rw[kC];omega),kC,show 16+8*ns.length-16=8*ns.length by omega,List.append_assoc,me (by rw[cP];omega),cP,Nat.sub_self];exact qN _ _ q
theorem sU (m:Mk) (s:Ly):bV m s<18446744073709551616:=DJ _ _ _
theorem Stat.step {m m':Mk} {l a:List Ob} (h:Stat m l) (s:dA m m' l a) (hd:∀k∈m'.ai,k∈m.ai\/s9 m'.b a (bV m k.bI) k) (hf:∀k∈m'.aC,k∈m.aC\/GF m'.b a (bV m k.bI) k)
    (h1:∀i j:Nat,∀k f:aK,m'.ai[i]? = some k->m'.ai[j]? = some f->k.pos=f.pos\/k.bI=f.bI->i=j) (h2:∀o∈a,o.kind=1->∃k∈m'.ai,k.pos=o.pos) (h3:∀o∈a,o.kind=2->∃k∈m'.aC,k.pos=o.pos):Stat m' a:=by
  have d:=s.mem;have D:∀e,oo a e->sD l e:=fun e n=>(n.ZC s.dY).mono d;obtain⟨c,G,C⟩:=s.same;have g:∀t,bV m' t=bV m t:=fun t=>by unfold bV;rw[c]
  refine⟨s.dY,by rw[c];exact d _ h.MH,by rw[c];exact d _ h.MI,(C 2 Xz Xz Xz).trans h.n2,by rw[c];exact(C 4 Xz Xz Xz).trans h.n4,by rw[c];exact h.slots,fun k hk=>?_,fun k hk=>?_,h1,h2,h3,s.cn h.cn⟩
  · rw[g]
    rcases hd k hk with hk|hk
    · exact(h.data k hk).jU h.dY s.jU D d
    exact hk
  rw[g]
  rcases hf k hk with hk|hk
  · exact(h.fld k hk).jU h.dY s.jU D d
  exact hk
theorem Stat.soft {m m':Mk} {l a:List Ob} (h:Stat m l) (s:dA m m' l a) (hd:m'.ai=m.ai) (hf:m'.aC=m.aC) (hl:a=l):Stat m' a :=
  h.step s (fun k hk=>.inl<|hd ▸ hk) (fun k hk=>.inl<|hf ▸ hk) (by rw[hd];exact h.one) (by rw[hd,hl];exact h.all) (by rw[hf,hl];exact h.aaR)
theorem ahf {m:Mk} {l:List Ob} (h:Stat m l) {s:Nat} (hs:s<m.c.aj):oo l (m.aT 2+16*s)/\oo l (m.aT 2+16*s+8):=by have:=ea<|16+16*m.c.aj;rw[h.n2];exact⟨⟨_,h.MH,.inl ⟨.inl q,by simp only;omega,by simp only;omega⟩⟩,⟨_,h.MH,.inl ⟨.inl q,by simp only;omega,by simp only;omega⟩⟩⟩
theorem akz {m:Mk} {l:List Ob} (h:Stat m l) {s:Nat} (hs:s<m.c.ak):oo l (m.aT 4+16*s)/\oo l (m.aT 4+16*s+8):=by have:=ea<|16+16*m.c.ak;rw[h.n4];exact⟨⟨_,h.MI,.inl ⟨.inr q,by simp only;omega,by simp only;omega⟩⟩,⟨_,h.MI,.inl ⟨.inr q,by simp only;omega,by simp only;omega⟩⟩⟩
theorem NN {m:Mk} {l:List Ob} (h:Stat m l) (name:Ly) (ag:name.length<=1000) :
    ∃s,dA m (m.field name).2 l s/\Stat (m.field name).2 s/\(∃k∈(m.field name).2.aC,k.pos=(m.field name).1)/\(m.field name).2.ai=m.ai:=by
  unfold Mk.field;cases hk:nk name m.aC with
  | some p =>
    obtain⟨k,Q,R,_⟩:=uh hk;exact⟨l,dA.refl h.dY,h,⟨k,Q,R⟩,q⟩
  | none =>
    simp only;generalize hF:dD {bZ:=cu m.c.bL m.c.bE name,bF:=0,dat:=0,ay:=name}=o;have M:o=lW 2 (nums [bV m name,0,0] ++ name):=hF.symm;obtain⟨⟨r,E⟩,F,L,I⟩:=ZJ (k:=2) Xz [bV m name,0,0] name (by have:=sU m name;intro v g;simp at g;omega);rw[<- M]at E F L I;simp only[List.length_cons,List.length_nil,Nat.zero_add,Nat.reduceAdd,Nat.reduceMul]at E F I;have G:=dA.obj (m:=m) (o:=o) h.dY (.inr q) E F Xx Xx;have P:(m.bJ o).2.b=m.b ++ o:=rfl;have V:(m.bJ o).1=m.b.length:=rfl;have H:=dn m o;have W:(m.bJ o).2.aT 4=m.aT 4:=(by simp only[Mk.bJ];rw[cg Xx,cg Xx];rfl);generalize m.bJ o=z at *;obtain⟨p,a⟩:=z;simp only at G P V H W ⊢;subst V;have f:cu m.c.bL m.c.bE name%a.c.ak<m.c.ak:=(by rw[H.1];exact Nat.mod_lt _ (by have:=h.slots;omega));have J:=akz h f;rw[<- W]at J;have u:=dA.hang (m:=a) (p:=m.b.length) (ks:=a.aC) G.dY ⟨J.1.mono G.mem,J.2.mono G.mem⟩ (fun k hk=>by
      rw[H.2.2.1]at hk;have:=(h.fld k hk).ob;exact⟨_,G.mem _ this,.inr ⟨.inr ⟨q,by simp only;omega⟩,.inl q⟩⟩)
    have K:=gA a a.aC (a.aT 4) m.b.length<|cu m.c.bL m.c.bE name%a.c.ak;generalize a.hang a.aC (a.aT 4) m.b.length (cu m.c.bL m.c.bE name%a.c.ak)=z at *;obtain⟨n,e⟩:=z;simp only at u K ⊢;obtain⟨aa,d,T,ab,ad,ae⟩:=K;have N:=G.trans u;obtain⟨j,C⟩:∃j,j=({({e with depth:=max a.depth n}:Mk).bD 16 ((({e with depth:=max a.depth n}:Mk).aT 16+1)%18446744073709551616)with aC:=(({e with depth:=max a.depth n}:Mk).bD 16<|(({e with depth:=max a.depth n}:Mk).aT 16+1)%18446744073709551616).aC ++ [({bI:=name,pos:=m.b.length,bn:=cu m.c.bL m.c.bE name%a.c.ak,aZ:=0,aL:=[]}:aK)]}:Mk):=⟨_,q⟩;show ∃s,dA m ({({e with depth:=max a.depth n}:Mk).bD 16 ((({e with depth:=max a.depth n}:Mk).aT 16+1)%18446744073709551616)with aC:=(({e with depth:=max a.depth n}:Mk).bD 16<|(({e with depth:=max a.depth n}:Mk).aT 16+1)%18446744073709551616).aC ++ [({bI:=name,pos:=m.b.length,bn:=cu m.c.bL m.c.bE name%a.c.ak,aZ:=0,aL:=[]}:aK)]}:Mk) l s/\Stat ({({e with depth:=max a.depth n}:Mk).bD 16 ((({e with depth:=max a.depth n}:Mk).aT 16+1)%18446744073709551616)with aC:=(({e with depth:=max a.depth n}:Mk).bD 16<|(({e with depth:=max a.depth n}:Mk).aT 16+1)%18446744073709551616).aC ++ [({bI:=name,pos:=m.b.length,bn:=cu m.c.bL m.c.bE name%a.c.ak,aZ:=0,aL:=[]}:aK)]}:Mk) s/\(∃k∈({({e with depth:=max a.depth n}:Mk).bD 16 ((({e with depth:=max a.depth n}:Mk).aT 16+1)%18446744073709551616)with aC:=(({e with depth:=max a.depth n}:Mk).bD 16<|(({e with depth:=max a.depth n}:Mk).aT 16+1)%18446744073709551616).aC ++ [({bI:=name,pos:=m.b.length,bn:=cu m.c.bL m.c.bE name%a.c.ak,aZ:=0,aL:=[]}:aK)]}:Mk).aC,k.pos=m.b.length)/\({({e with depth:=max a.depth n}:Mk).bD 16 ((({e with depth:=max a.depth n}:Mk).aT 16+1)%18446744073709551616)with aC:=(({e with depth:=max a.depth n}:Mk).bD 16<|(({e with depth:=max a.depth n}:Mk).aT 16+1)%18446744073709551616).aC ++ [({bI:=name,pos:=m.b.length,bn:=cu m.c.bL m.c.bE name%a.c.ak,aZ:=0,aL:=[]}:aK)]}:Mk).ai=m.ai;rw[<- C];have B:j.b=e.b/\j.c=e.c/\j.main=e.main/\j.ai=e.ai/\j.aC=e.aC ++ [({bI:=name,pos:=m.b.length,bn:=cu m.c.bL m.c.bE name%a.c.ak,aZ:=0,aL:=[]}:aK)]:=(by subst C;exact⟨q,q,q,q,q⟩);have S4:=N.to (m'':=j) B.1 B.2.1 B.2.2.1 (fun i _ _ af=>by
      subst C;exact(cg (m:={e with depth:=max a.depth n}) Xx)) (by subst C;simp[Mk.bD])
    clear C;obtain⟨O,w,y,S,A⟩:=B;have D:j.ai=m.ai:=(by rw[S,d,H.2.1]);refine⟨_,S4,h.step S4 (fun k hk=>.inl<|D ▸ hk) (fun k hk=>?_) (by rw[D];exact h.one) (fun x C hk=>?_)<|fun x C hk=>?_,?_,D⟩
    · rw[A,T,H.2.2.1,List.mem_append,List.mem_singleton]at hk
      rcases hk with hk|rfl
      · exact .inl hk
      · right
        have X:GF a.b (l ++ [⟨m.b.length,2,40+name.length⟩]) (bV m name) ({bI:=name,pos:=m.b.length,bn:=cu m.c.bL m.c.bE name%a.c.ak,aZ:=0,aL:=[]}:aK):=by
          refine⟨by simp,?_,?_⟩
          · rw[P,ot];exact L 0 _ q
          · rw[P,FC];exact I
        rw[O];exact X.jU G.dY u.jU (fun Z U=>U.ZC u.dY) fun _ h=>h
    · rcases List.mem_append.1 C with C|C
      · rw[D];exact h.all x C hk
      · simp at C;subst C;simp at hk
    · rcases List.mem_append.1 C with C|C
      · obtain⟨k,t,Y⟩:=h.aaR x C hk
        exact⟨k,by rw[A,T,H.2.2.1];exact List.mem_append_left _ t,Y⟩
      · simp at C;subst C
        exact⟨_,by rw[A];exact List.mem_append_right _<|List.mem_singleton.2 q,q⟩
    · exact⟨({bI:=name,pos:=m.b.length,bn:=cu m.c.bL m.c.bE name%a.c.ak,aZ:=0,aL:=[]}:aK),by rw[A];simp,q⟩
theorem ug:∀{s:Ly} {l:List aK} {j i:Nat},kU s l j=some i->∃k,l[i-j]? = some k/\k.bI=s/\j<=i
  | s,[],j,i,h=>by simp[kU]at h
  | s,x :: l,j,i,h=>by
    simp only[kU]at h;split at h
    · rename_i hx;simp at h;subst h;exact⟨x,by simp,hx,Nat.le_refl _⟩
    · obtain⟨k,a,b,c⟩:=ug h
      exact⟨k,by rw[show i-j=(i-(j+1))+1 by omega];simpa using a,b,by omega⟩
theorem qW:∀{s:Ly} {l:List aK} {j:Nat},kU s l j=none->∀k∈l,k.bI≠s
  | s,[],j,_,k,hk=>by simp at hk
  | s,x :: l,j,h,k,hk=>by
    simp only[kU]at h;split at h
    · cases h
    · rename_i hx
      rcases List.mem_cons.1 hk with rfl|hk
      · exact hx
      · exact qW h k hk
structure zx (b:Ly) (p:Nat):Prop where
  ent:d8 b (p+40)=0
  arr:d8 b (p+48)=0
  cnt:d8 b (p+56)=0
theorem zx.jU {b c:Ly} {l d:List Ob} {p s:Nat} (h:zx b p) (e:(⟨p,1,s⟩:Ob)∈l) (hs:64<=s) (g:fF b 272 l b.length) (i:fF c 272 d c.length) (k:∀o∈l,o∈d) (j:Eff (oo d) b c):zx c p:=by
  have f:=(g.mem e).le;have m:=ea s;simp only at f;have a:∀q,40<=q->q<=56->d8 c (p+q)=d8 b (p+q):=fun q n D=>j.d8 Xx fun r C=>by have:=((C.at i).2.2 _<|k _ e).1 rfl;simp only at this;omega
  exact⟨(a 40 Xx Xx).trans h.ent,(a 48 Xx Xx).trans h.arr,(a 56 Xx Xx).trans h.cnt⟩
structure BQ (m m':Mk) (l l':List Ob) (i:Nat) (t:Ly):Prop where
  step:dA m m' l l'
  fK:Stat m' l'
  got:∃k,m'.ai[i]? = some k/\k.bI=t
  new:m'.ai=m.ai\/∃s p,m'.ai=m.ai ++ [({bI:=t,pos:=p,bn:=s,aZ:=0,aL:=[]}:aK)]/\zx m'.b p/\m.b.length<=p
theorem AO {m:Mk} {l:List Ob} (h:Stat m l) (x:Pr) (aR:x.name.length<=64/\x.value.length<=256):∃aE,BQ m (m.data x).2 l aE (m.data x).1 (ay x):=by
  unfold Mk.data;cases hk:kU (ay x) m.ai 0 with
  | some i =>
    obtain⟨k,B,s,_⟩:=ug hk;exact⟨l,dA.refl h.dY,h,⟨k,by simpa using B,s⟩,.inl q⟩
  | none =>
    simp only;have ap:=qW hk;have aG:=ga x;generalize hF:ej {bZ:=cu m.c.bL m.c.bE (ay x),bF:=0,cH:=0,entry:=0,array:=0,aZ:=0,ay:=ay x}=o;have an:o=lW 1 (nums [bV m (ay x),0,0,0,0,0] ++ ay x):=hF.symm;obtain⟨⟨r,f1⟩,M,F,N⟩:=ZJ (k:=1) Xz [bV m (ay x),0,0,0,0,0] (ay x) (by have:=sU m<|ay x;intro v aB;simp at aB;omega);rw[<- an]at f1 M F N;simp only[List.length_cons,List.length_nil,Nat.zero_add,Nat.reduceAdd,Nat.reduceMul]at f1 M N;have u:=dA.obj (m:=m) (o:=o) h.dY (.inl q) f1 M Xx Xx;have Q:(m.bJ o).2.b=m.b ++ o:=rfl;have af:(m.bJ o).1=m.b.length:=rfl;have T:=dn m o;have ag:(m.bJ o).2.aT 2=m.aT 2:=(by simp only[Mk.bJ];rw[cg Xx,cg Xx];rfl);generalize m.bJ o=z at *;obtain⟨p,e⟩:=z;simp only at u Q af T ag ⊢;subst af;have hs:cu m.c.bL m.c.bE (ay x)%e.c.aj<m.c.aj:=(by rw[T.1];exact Nat.mod_lt _ (by have:=h.slots;omega));have U:=ahf h hs;rw[<- ag]at U;have A:=dA.hang (m:=e) (p:=m.b.length) (ks:=e.ai) u.dY ⟨U.1.mono u.mem,U.2.mono u.mem⟩ (fun k hk=>by
      rw[T.2.1]at hk;have:=(h.data k hk).ob;exact⟨_,u.mem _ this,.inr ⟨.inl ⟨q,by simp only;omega⟩,.inl q⟩⟩)
    have G:=gA e e.ai (e.aT 2) m.b.length<|cu m.c.bL m.c.bE (ay x)%e.c.aj;generalize hsl:cu m.c.bL m.c.bE (ay x)%e.c.aj=bn at *;generalize e.hang e.ai (e.aT 2) m.b.length bn=z at *;obtain⟨n,a⟩:=z;simp only at A G ⊢;obtain⟨aM,ax,az,aN,aO,aP⟩:=G;have aw:=u.trans A;generalize hx5:({(a.bD 19<|max (a.aT 19) n).bD 15 (((a.bD 19<|max (a.aT 19) n).aT 15+1)%18446744073709551616)with ai:=((a.bD 19<|max (a.aT 19) n).bD 15<|((a.bD 19<|max (a.aT 19) n).aT 15+1)%18446744073709551616).ai ++ [({bI:=ay x,pos:=m.b.length,bn:=bn,aZ:=0,aL:=[]}:aK)]}:Mk)=m5;have g:m5.b=a.b/\m5.c=a.c/\m5.main=a.main/\m5.aC=a.aC/\m5.ai=a.ai ++ [({bI:=ay x,pos:=m.b.length,bn:=bn,aZ:=0,aL:=[]}:aK)]:=(by subst hx5;exact⟨q,q,q,q,q⟩);have X:=aw.to (m'':=m5) g.1 g.2.1 g.2.2.1 (fun i _ _ aQ=>by
      subst hx5;exact(cg (m:=a.bD 19<|max (a.aT 19) n) Xx).trans<|cg Xx) (by subst hx5;simp[Mk.bD])
    clear hx5;obtain⟨ae,aI,aJ,a4,a5⟩:=g;have I:m5.ai=m.ai ++ [({bI:=ay x,pos:=m.b.length,bn:=bn,aZ:=0,aL:=[]}:aK)]:=(by rw[a5,ax,T.2.1]);have W:m5.aC=m.aC:=(by rw[a4,az,T.2.2.1]);have C:(⟨m.b.length,1,64+(ay x).length⟩:Ob)∈l ++ [⟨m.b.length,1,64+(ay x).length⟩]:=(by simp);have aq:Stat m5 (l ++ [⟨m.b.length,1,64+(ay x).length⟩]):=by
      refine h.step X (fun k hk=>?_) (fun k hk=>.inl<|W ▸ hk) (fun i K k t H O j=>?_) (fun y D hk=>?_)<|fun y D hk=>?_
      · rw[I,List.mem_append,List.mem_singleton]at hk
        rcases hk with hk|rfl
        · exact .inl hk
        · right
          have aD:s9 e.b (l ++ [⟨m.b.length,1,64+(ay x).length⟩]) (bV m<|ay x) ({bI:=ay x,pos:=m.b.length,bn:=bn,aZ:=0,aL:=[]}:aK):=by
            refine⟨C,?_,?_⟩
            · rw[Q,ot];exact F 0 _ q
            · rw[Q,FC];exact N
          rw[ae];exact aD.jU u.dY A.jU (fun aH aA=>aA.ZC A.dY) fun _ h=>h
      · rw[I]at H O
        have d:∀(i:Nat) (k:aK),m.ai[i]? = some k->k.pos+16<=m.b.length/\k.bI≠ay x:=fun i k H=>by have ah:=List.mem_of_getElem? H;have:=(h.dY.mem (h.data k ah).ob).le;have:=ea<|64+k.bI.length;simp only at *;exact⟨by omega,ap k ah⟩
        have L:∀(i:Nat) (k:aK),(m.ai ++ [({bI:=ay x,pos:=m.b.length,bn:=bn,aZ:=0,aL:=[]}:aK)])[i]? = some k->(m.ai[i]? = some k)\/i=m.ai.length/\k={bI:=ay x,pos:=m.b.length,bn:=bn,aZ:=0,aL:=[]}:=fun i k H=>by
          rcases Nat.lt_or_ge i m.ai.length with hl|hl
          · rw[List.getElem?_append_left hl]at H;exact .inl H
          · have ao:=(List.getElem?_eq_some_iff.1 H).1
            simp at ao;rw[List.getElem?_append_right hl,show i-m.ai.length=0 by omega]at H;exact .inr ⟨by omega,by simpa using H.symm⟩
        rcases L i k H with B|⟨B,rfl⟩
        · rcases L K t O with s|⟨s,rfl⟩
          · exact h.one i K k t B s j
          · have:=d i k B
            rcases j with j|j
            · simp only at j;omega
            · exact absurd j this.2
        · rcases L K t O with s|⟨s,rfl⟩
          · have:=d K t s
            rcases j with j|j
            · simp only at j;omega
            · exact absurd j.symm this.2
          · omega
      · rw[I]
        rcases List.mem_append.1 D with D|D
        · obtain⟨k,B,s⟩:=h.all y D hk
          exact⟨k,List.mem_append_left _ B,s⟩
        · simp at D;subst D
          exact⟨({bI:=ay x,pos:=m.b.length,bn:=bn,aZ:=0,aL:=[]}:aK),List.mem_append_right _ Oj,q⟩
      · rw[W]
        rcases List.mem_append.1 D with D|D
        · exact h.aaR y D hk
        · simp at D;subst D;simp at hk
    have ak:zx e.b m.b.length:=⟨by rw[Q,ot];exact F 3 _ q,by rw[Q,ot];exact F 4 _ q,by rw[Q,ot];exact F 5 _ q⟩;have al:zx m5.b m.b.length:=(by rw[ae];exact ak.jU C Xx u.dY A.dY A.mem A.jU);obtain⟨S,J,P,⟨R,ab,ad⟩,Z⟩:=NN aq x.name Xx;have aa:=(P.fld R ab).ob;generalize m5.field x.name=z at *;obtain⟨k,E⟩:=z;simp only at J P ad Z ab aa ⊢;subst ad;have av:=J.mem _ C;have aF:oo S (m.b.length+32):=⟨_,av,.inr ⟨.inl ⟨q,by simp only;omega⟩,.inr q⟩⟩;have sk:oo S (R.pos+32):=⟨_,aa,.inr ⟨.inr ⟨q,by simp only;omega⟩,.inr q⟩⟩;have w:=dA.put (m:=E) (mA E.b (R.pos+32:Nat) 8).1 J.dY aF;have ar:=P.soft w q q q;have Y:=dA.put (m:=E.put (m.b.length+32) (mA E.b (R.pos+32:Nat) 8).1) m.b.length w.dY sk;have au:=ar.soft Y q q q;have f:=J.trans<|w.trans Y;have V:((E.put (m.b.length+32) (mA E.b (R.pos+32:Nat) 8).1).put (R.pos+32) m.b.length).ai=m.ai ++ [({bI:=ay x,pos:=m.b.length,bn:=bn,aZ:=0,aL:=[]}:aK)]:=(by show E.ai=_;rw[Z,I]);have am:=al.jU C Xx X.dY f.dY f.mem f.jU;refine⟨S,X.trans f,au,⟨({bI:=ay x,pos:=m.b.length,bn:=bn,aZ:=0,aL:=[]}:aK),by rw[V];simp,q⟩,.inr ⟨bn,m.b.length,V,am,Nat.le_refl _⟩⟩
end Go.Wk
