/- Part 7 of the walk of a law. No statement is proved here. -/
import Derived.Test.YtlleafgaeeneoaaGreatQEO6
import Derived.Test.YtlleafgaeeneoaaGreatRows
set_option maxRecDepth 100000
namespace Go.Proofs.YtlleafgaeeneoaaGreat
open Go Go.Wk Go.RowKit
set_option linter.unusedVariables false
set_option linter.unusedSimpArgs false
attribute [local irreducible] wpList wpQuiet wpStill fD Code.wp Calls bodyPost
variable {w:World} {Q:Nat->Prop}
theorem akI:gy Zp 218 2=true:=Xw
theorem alb:cA Zp 131=true:=Xw
theorem alc:cA Zp 133=true:=Xw
theorem anB:cA Zp 99=true:=Xw
theorem aeV:aN Zp 218 0=some 0:=Xw
theorem aak (j:Up w Q) {v0:Value} {v:dx} (d:Pt dP 135 w Q v0 v) (k:Int) (bs:(-9223372036854775808<=k/\k<9223372036854775808)) {ag:Value} {pl:Ly} (m:Ls e6 w Q ag pl) (bt:v.b.length<=1000000) (bu:16<=v.h.n.getD 2 0) (p2:16<=v.h.n.getD 4 0) (p3:pl.length<=100000) :
  Calls Zp 99 #[v0,(.int .i64 (k:Int)),ag] w fun ae aX=>∃au:Nat,∃av:Nat,ae = .returned (.tuple #[(.int .u64 au),(.int .i64 av)])/\Md [] w aX/\au<18446744073709551616/\av<9223372036854775808/\findF v.h.n v.b k (cQ (decide (v.h.bM &&& 4≠0)) v.h.bZ pl) pl=(au,av):=by
 have bq:=m.dD;obtain⟨Z,Bk,rfl,P,d,qL⟩:=d;obtain⟨bz,rfl,aq,G⟩:=e7 qL;have e:=Md.refl [] w;have bl:=j;refine enter (n:=45) Tryz.func99 q q q fun a5=>ns (dR (cs:=[ag]) q (dM m.bA) ?_);intro o bB ak bc C H;have a1:Z≠o:=(by have:=d.lt;omega);have O:=j _ ak;have ak:=lv e.size ak;obtain⟨m,G,d,j,e⟩:=k5 C m G d j e;refine cu q (an q (ns (m2 q q (Rz alb q (XP j ⟨_,_,q,P,d,dz aq G⟩ (k) Xx Xx Xx Xx) ?_))));rintro ae bC ⟨aM,J,ah,rfl,C,D,a9,r⟩;obtain⟨m,G,d,H,j,e⟩:=k6 C m G d H j e;refine mv q (se q q (se q q (cu q (an q (aD (nm q (st _ (eT (a:=ah) (b:=0) q q) (nt ?_))))))));refine bJ q (fun al=>?_) (fun al=>?_)
 ·have aT:=dT al;refine nm q (cu q (ar q (aI ?_)));exact dB (vs:=[(.int .u64 ((0:Nat):Int)),(.int .i64 ah)]) trivial q Fz q ⟨0,ah,q,e,Xx,Xh,(ads r Xx)⟩
 have aT:=dF al;refine aL (aj (nm q (sl (u:=ag) q fO H q (Rz ai6 q (MF j ⟨_,_,q,P,d,dz aq G⟩ m Xx) ?_))));rintro ae bE ⟨ai,rfl,C,ba,ao⟩;obtain⟨m,G,d,H,D,j,e⟩:=k7 C m G d H D j e;refine bF z46 ?_;intro M bG ab aJ C E;have aY:Z≠M:=(by have:=d.lt;omega);have a3:o≠M:=(by have:=H.lt;omega);obtain⟨br,F,af,R,U⟩:=j5 j ab aJ C;have P:=F _ P d.lt;have O:=F _ O H.lt;have ab:=lv e.size ab;have m:=(m.sub F).o C;have G:=(G.sub F).o C;obtain⟨d,H⟩:=k2 C d H;have D:=(D.sub F).o C;have e:=e.k C;have j:=U;have aO:bw [] w M:=.inr ab;have a8:UN.ok (({n:=0}:UN)):=(by exact(by exact(show(({n:=0}:UN)).n<18446744073709551616 from Zq)));refine bF z46 ?_;intro I bm ad aK C A;have a0:Z≠I:=(by have:=d.lt;omega);have a4:o≠I:=(by have:=H.lt;omega);have a2:M≠I:=(by have:=E.lt;omega);obtain⟨aA,F,af,N,U⟩:=j5 j ad aK C;have P:=F _ P d.lt;have O:=F _ O H.lt;have R:=nQ R af;have ad:=lv e.size ad;have m:=(m.sub F).o C;have G:=(G.sub F).o C;obtain⟨d,H⟩:=k2 C d H;have D:=(D.sub F).o C
 obtain⟨E,e⟩:=k2 C E e;have j:=U;have g:bw [] w I:=.inr ad;have a6:UN.ok (({n:=0}:UN)):=(by exact Xh);refine bn q q bh q E (lB q) ?_;have aP:=E;intro bo C E;have K:∀b∈[M],¬aA b:=(hI R);have m:=m.md C K;have G:=G.md C K;have d:=d.md C Zz;have H:=H.md C Zz;have D:=D.md C K;have A:=A.md C Zz;have j:=j.md C;have e:=e.step C (hI aO);obtain⟨B,p⟩:∃y,y=({({n:=0}:UN)with n:=ai}:UN):=⟨_,q⟩;have E:bS _ _ (UN.cells ({({n:=0}:UN)with n:=ai})) _:=E;rw[<- p]at E;have ay:UN.ok B:=(by rw[p];exact(by unfold UN.ok;exact Xx));refine bn q q bh q A (lB q) ?_;have aQ:=A;intro bp C A;have K:∀b∈[I],¬aA b:=(hI N);have m:=m.md C K;have G:=G.md C K;have d:=d.md C Zz;have H:=H.md C Zz;have D:=D.md C K;have E:=E.md C Zz;have j:=j.md C;have e:=e.step C (hI g);obtain⟨aw,az⟩:∃y,y=({({n:=0}:UN)with n:=0}:UN):=⟨_,q⟩;have A:bS _ _ (UN.cells ({({n:=0}:UN)with n:=0})) _:=A;rw[<- az]at A;have aS:UN.ok aw:=(by rw[az];exact(by unfold UN.ok;exact Xh));refine nt (ns ?_);have ap:B.n=ai:=(by rw[p]);have aW:=aib r Xx;have bv:=D.dD;have bx:=Nat.mod_lt B.n aW;refine m2 q q (mv q ?_);refine sl (u:=(.int .u64 B.n)) q bh E q ?_;have bd:B.n<18446744073709551616:=ay;refine mv q (sL q abX D.di (st _ (dK (a:=J.length) 18446744073709551616 q (by rw[u3];rfl) nu q Xx) (st _ (pV (a:=B.n) (b:=J.length) q q Xx) ?_)));have be:B.n%J.length<J.length:=Nat.mod_lt _ Xx;refine st _ (bg (i:=B.n%J.length) 2 q q abX akI D.di Xx) ?_;obtain⟨aa,c⟩:=dZ (l:=J) (i:=B.n%J.length) Xx;obtain⟨bb,aH,X⟩:=D.get c;obtain⟨_,rfl,aV⟩:=PD aH;have X:At _ aM ((B.n%J.length)*2) (o9.cells aa):=X;refine st _ (gR q X aeV) (st _ ((bO (kk:=(B.n%J.length)*2) 0 q q bh X q).to (b:=(.int .u64 aa.first)) q) ?_);have bi:aa.first<18446744073709551616:=aV.1;refine st _ (mL (vs:=[(.pointer (some ⟨M,0,none⟩)),(.pointer (some ⟨o,0,none⟩)),(.pointer (some ⟨I,0,none⟩))]) q) (Rz alc q (V3 j ⟨_,_,q,P,d,dz aq G⟩ (k) Xx aa.first Xx B E R ay ⟨_,_,q,O,H,_,q,m⟩ aw A N aS Xx Xx (by simp_all)) ?_);rintro ae Bx ⟨L,s,rfl,C,a7,aB,f,V,S⟩;have aC:∀i∈[I],bw [] w i:=(hI g);have aR:Z∉[I]:=(bD (fun h=>N (h ▸ P)) Oy);have aN:o∉[I]:=(bD (fun h=>N (h ▸ O)) Oy);have x:M∉[I]:=(bD Xx Oy);have e:=e.step C aC;have A:=aB;have N:=f;refine an q (aD (nm q ?_));refine st _ (iR (a:=L) (b:=0) q q) (mv q ?_);refine bW (t:=39) q (fun W=>?_) (fun W=>?_)
 ·have aU:=dT W;refine sg W ((aF q bh A q).to (b:=(.int .u64 s.n)) q) ?_;have bj:s.n<18446744073709551616:=V;refine sg W (iR (a:=s.n) (b:=0) q q) (st _ (bf q W q) (nt ?_));refine bJ q (fun am=>?_) (fun am=>?_)
  ·have aE:=dT am;refine aG (an q (ns (sl (u:=(.int .u64 s.n)) q bh A q (mv q (cu q (ar q ?_))))));exact dB (vs:=[(.int .u64 s.n),(.int .i64 ((16:Nat):Int))]) trivial q Fz q ⟨s.n,16,q,e,Xh,Xx,(by have T:HY (ud (v.h.n.getD 0 0) v.b k) (uc (v.h.n.getD 0 0) v.b k) (fun y=>decide (qY (v.h.n.getD 0 0) v.b k y=B.n) && decide (qm (v.h.n.getD 0 0) v.b k y=pl)) v.b.length _ 0=(s.n,L):=(Prod.ext (congrArg (fun z:Nat × UN=>z.2.n) S) (congrArg Prod.fst S));have Y:=wY r Xx c T;rw[ao,<- ap,Y];rw[if_pos (by rw[Prod.mk.injEq];omega)];(congr 1;omega))⟩
  have aE:=dF am;refine aL (aj (ns (sl (u:=(.int .u64 s.n)) q bh A q (mv q (cu q (ar q ?_))))));exact dB (vs:=[(.int .u64 s.n),(.int .i64 L)]) trivial q Fz q ⟨s.n,L,q,e,Xh,Xh,(by have T:HY (ud (v.h.n.getD 0 0) v.b k) (uc (v.h.n.getD 0 0) v.b k) (fun y=>decide (qY (v.h.n.getD 0 0) v.b k y=B.n) && decide (qm (v.h.n.getD 0 0) v.b k y=pl)) v.b.length _ 0=(s.n,L):=(Prod.ext (congrArg (fun z:Nat × UN=>z.2.n) S) (congrArg Prod.fst S));have Y:=wY r Xx c T;rw[ao,<- ap,Y];rw[if_neg (by rw[Prod.mk.injEq];omega)])⟩
 have aU:=dF W;refine sk W (sk W (st _ (aZ q W q) (nt (ij q q (aL (aj (ns (sl (u:=(.int .u64 s.n)) q bh A q ?_))))))));have bk:s.n<18446744073709551616:=V;refine mv q (cu q (ar q ?_));exact dB (vs:=[(.int .u64 s.n),(.int .i64 L)]) trivial q Fz q ⟨s.n,L,q,e,Xh,Xh,(by have T:HY (ud (v.h.n.getD 0 0) v.b k) (uc (v.h.n.getD 0 0) v.b k) (fun y=>decide (qY (v.h.n.getD 0 0) v.b k y=B.n) && decide (qm (v.h.n.getD 0 0) v.b k y=pl)) v.b.length _ 0=(s.n,L):=(Prod.ext (congrArg (fun z:Nat × UN=>z.2.n) S) (congrArg Prod.fst S));have Y:=wY r Xx c T;rw[ao,<- ap,Y];rw[if_neg (by rw[Prod.mk.injEq];omega)])⟩
theorem IC (i:Up w Q) {v0:Value} {v:dx} (c:Pt dP 135 w Q v0 v) {v1:Value} {s:Ly} (h1:Ls e6 w Q v1 s) (z:v.b.length<=1000000) (A:16<=v.h.n.getD 2 0) (p2:16<=v.h.n.getD 4 0) (p3:s.length<=100000) :
  Calls Zp 54 #[v0,v1] w fun g p=>∃d:Nat,∃e:Nat,g = .returned (.tuple #[(.int .u64 d),(.int .i64 e)])/\Md [] w p/\d<18446744073709551616/\e<9223372036854775808/\findF v.h.n v.b 4 (cQ (decide (v.h.bM &&& 4≠0)) v.h.bZ s) s=(d,e):=by
 have y:=h1.dD;obtain⟨t,u,rfl,D,c,qL⟩:=c;obtain⟨v1,rfl,o,l⟩:=e7 qL;have a:=Md.refl [] w;have x:=i;refine enter (n:=11) Tryz.func54 q q q fun r=>ns (cu q (an q (ns (m2 q q (Rz anB q (aak i ⟨_,_,q,D,c,dz o l⟩ (4) Xx h1 Xx Xx Xx Xx) ?_)))));rintro g P ⟨f,C,rfl,m,G,H,j⟩;have a:=a.k m;refine se q q (se q q (cu q (ar q ?_)));exact dB (vs:=[(.int .u64 f),(.int .i64 C)]) trivial q Fz q ⟨f,C,q,a,Xh,Xh,j⟩
theorem SR:aN Zp 177 3=some 3:=Xw
theorem aeM:aN Zp 177 4=some 4:=Xw
theorem GH:aN Zp 177 5=some 5:=Xw
set_option maxHeartbeats 4000000 in
theorem ahe (A:Up w Q) {v0:Value} {v:dx} (j:Pt dP 135 w Q v0 v) (p:Nat) (cS:p<18446744073709551616) (cW:v.b.length<=1000000) :
  Calls Zp 56 #[v0,(.int .u64 p)] w fun aw L=>∃bV:Value,∃a8:List Nat,∃a1:Nat,aw = .returned (.tuple #[bV,(.int .i64 a1)])/\Md [] w L/\Ls cV L Q bV a8/\a1<9223372036854775808/\ofF (v.h.n.getD 0 0) v.b p=(a8,a1):=by
 obtain⟨ag,cB,rfl,F,j,qL⟩:=j;obtain⟨a9,rfl,a0,D⟩:=e7 qL;have e:=Md.refl [] w;have aC:=A;have I:∀b,Q b->Q b:=fun _ h=>h;have S:∀b,Q b->b<w.heap.size->Q b:=fun _ h _=>h;refine enter (n:=92) Tryz.func56 q q q fun bC=>ns (cu q (an q (ns (m2 q q (Rz ai3 q (ME A ⟨_,_,q,F,j,dz a0 D⟩ p Xx Xx) ?_)))));rintro aw cY ⟨k,C,bl,rfl,d,g,E,cz,ai⟩;obtain⟨D,j,A,e⟩:=k4 d D j A e;refine mv q (se q q (se q q (bF HX ?_)));intro ab cZ a6 b4 d s;have ct:ag≠ab:=(by have:=j.lt;omega);obtain⟨cl,B,K,U,aa⟩:=j5 A a6 b4 d;have F:=B _ F j.lt;have I:=tT I K;have S:=Sx B S e.size;have a6:=lv e.size a6;have D:=(D.sub B).o d;have j:=j.o d;have E:=(E.sub B).o d;have e:=e.k d;have A:=aa;have bZ:bw [] w ab:=.inr a6;have cy:gW.ok (zz6):=(by exact⟨Xy,Xy,Xy,Xy,Xy,Xy⟩);refine aK (us:=(gW.cells C k)) q q (by exact jW) (by exact fun u bt=>aU (gW.one E.bA) u bt) s (lB q) ?_;have cb:=s;intro c0 d s;have J:∀b∈[ab],¬cl b:=(hI U);have D:=D.md d J;have j:=j.md d Zz;have E:=E.md d J;have A:=A.md d;have e:=e.step d (hI bZ);refine an q (aD (nm q (st _ (eT (a:=bl) (b:=0) q q) (nt ?_))));refine bJ q (fun bm=>?_) (fun bm=>?_)
 ·have c:=dT bm;refine nm q (cu q (ar q (aI ?_)));exact dB (vs:=[SN,(.int .i64 bl)]) trivial q Fz q ⟨_,[],bl,q,e,(Ls.nil _ _ _),Xh,(ahn ai c)⟩
 have c:=dF bm;refine aL (aj (aD (ns (sf q GH (sl (u:=(.int .u64 C.bB)) q bh s q ?_)))));have cX:C.bB<18446744073709551616:=g.2.2.2.2.2;refine st _ (iR (a:=C.bB) (b:=0) q q) (mv q ?_);refine bW (t:=26) q (fun o=>?_) (fun o=>?_)
 ·have b0:=dT o;refine sk o (sk o (sk o (sk o (st _ (bf q o q) (nt (gK q q (ns (cu q (ar q (aI ?_))))))))));exact dB (vs:=[SN,(.int .i64 ((0:Nat):Int))]) trivial q Fz q ⟨_,[],0,q,e,(Ls.nil _ _ _),Xx,(xJ ai c (by simp_all))⟩
 have b0:=dF o;refine sg o (aM q) (sg o (aJ q SR) (sg o ((aF q bh s q).to (b:=(.int .u64 C.entry)) q) ?_));have cC:C.entry<18446744073709551616:=g.2.2.2.1;refine fK q q q o ad1 q (rM A ⟨_,_,q,F,j,dz a0 D⟩ C.entry Xx) ?_;rintro aw cI ⟨co,rfl,d,b9⟩;refine rv ?_;obtain⟨D,j,E,s,A,e⟩:=k6 d D j E s A e;refine st _ (aZ q o q) (nt ?_);refine bJ q (fun bn=>?_) (fun bn=>?_)
 ·have b1:=bn;refine ns (cu q (ar q (aI ?_)));exact dB (vs:=[SN,(.int .i64 ((0:Nat):Int))]) trivial q Fz q ⟨_,[],0,q,e,(Ls.nil _ _ _),Xx,(xJ ai c (by simp_all))⟩
 have b1:=bn;refine aL (aj (ns (sf q SR (sl (u:=(.int .u64 C.entry)) q bh s q (aR [[(.int .u64 C.entry)]] kC jC Xy Xy q q ⟨q,tV⟩ ⟨q,tV⟩ q Xy ?_)))));intro aO cK bK cg d W;have Bk:bw [] w aO:=bw.new e _ bK;obtain⟨ch,B,K,b3,aa⟩:=j5 A bK cg d;have F:=B _ F j.lt;have U:=nQ U K;have I:=tT I K;have S:=Sx B S e.size;have D:=(D.sub B).o d;have j:=j.o d;have E:=(E.sub B).o d;obtain⟨s,e⟩:=k2 d s e;have A:=aa;have W:=Ow.cF (m:=1) (lo:=bw [] w) (R:=ch) (T:=cV) (xs:=[C.entry]) W ⟨_,_,q,⟨q,Xx⟩,q⟩ q Xy Bk b3;refine sf q aeM (sl (u:=(.int .u64 C.array)) q bh s q ?_);have cD:C.array<18446744073709551616:=g.2.2.2.2.1;refine st _ (bN (us:=[[(.slice (some ⟨aO,0,none⟩) 1 1)],[(.int .u64 C.array)]]) (cs:=(jj.cells (({out:=[C.entry],cur:=C.array,ahead:=0}:jj)) (.slice (some ⟨aO,0,none⟩) 1 1))) [(0,0,1),(1,1,1)] z138 aiO q q ⟨(dM W.bA),q,tV⟩ Fz q q) (bF z138 ?_);intro O cL a7 b5 d P;have cv:ag≠O:=(by have:=j.lt;omega);have cr:ab≠O:=(by have:=s.lt;omega);obtain⟨bG,B,K,N,aa⟩:=j5 A a7 b5 d;have F:=B _ F j.lt;have U:=nQ U K;have W:=W.sub B K;have I:=tT I K;have S:=Sx B S e.size;have a7:=lv e.size a7;have D:=(D.sub B).o d;have j:=j.o d;have E:=(E.sub B).o d;have s:=s.o d
 obtain⟨W,e⟩:=k2 d W e;have A:=aa;have bb:bw [] w O:=.inr a7;have cm:jj.ok (({out:=[],cur:=0,ahead:=0}:jj)):=(by exact⟨Xy,Xy⟩);refine aK (us:=(jj.cells (({out:=[C.entry],cur:=C.array,ahead:=0}:jj)) (.slice (some ⟨aO,0,none⟩) 1 1))) q q (by exact ac3) (by exact fun u bt=>aU (jj.one W.bA) u bt) P (lB q) ?_;have bP:=P;intro cM d P;have J:∀b∈[O],¬bG b:=(hI N);have D:=D.md d J;have j:=j.md d Zz;have E:=E.md d J;have s:=s.md d Zz;have W:=W.md d (aB bP W) J;have A:=A.md d;have e:=e.step d (hI bb);refine nt (aD (aS ?_));obtain⟨a8,bj⟩:∃r,NX (v.h.n.getD 0 0) v.b C.bB (({out:=[C.entry],cur:=C.array,ahead:=0}:jj)).cur (({out:=[C.entry],cur:=C.array,ahead:=0}:jj)).ahead (({out:=[C.entry],cur:=C.array,ahead:=0}:jj)).out=r:=⟨_,q⟩;have aE:=bj
 try simp only[List.nil_append,ai,b9]at bj
 refine vI (fun(l:jj) (Y:Value)=>[(0,(.pointer (some ⟨ag,0,none⟩))),(6,(.pointer (some ⟨ab,0,none⟩))),(8,(.pointer (some ⟨O,0,none⟩)))]) (fun(l:jj) (Y:Value) L=>∃M:Nat->Prop,(∀b,M b->Q b)/\(∀b,Q b->b<w.heap.size->M b)/\Up L M/\Md [] w L/\bS L O (jj.cells l Y) 138/\Ow cV 46 (bw [] w) L M Y l.out/\jj.ok l/\bS L ag (dx.cells v a9) 135/\bS L ab (gW.cells C k) 177/\Ls e6 L M a9 v.b/\Ls e6 L M k C.au/\¬M O/\M ag/\¬M ab/\tu v.b l.out/\l.out.length<=C.bB/\NX (v.h.n.getD 0 0) v.b C.bB l.cur l.ahead l.out=a8) (fun(l:jj) (Y:Value)=>v.b.length-l.ahead) (x0:=(({out:=[C.entry],cur:=C.array,ahead:=0}:jj))) (x1:=(.slice (some ⟨aO,0,none⟩) 1 1)) ?_ ?_ ?_
 ·exact Fz
 ·exact⟨bG,I,S,A,e,P,W,(by exact⟨Xx,Zq⟩),j,s,D,E,N,F,U,(afA (by simp_all)),Ym,(by have al:=bj;exact al)⟩
 clear e A I S F U N D j E s W P;rintro l Y bC cN ⟨ci,I,S,A,e,P,af,bR,j,s,D,E,N,F,U,cd,ce,av⟩;refine aD (ns (sf q gB (sl (u:=Y) q gZ P q (sL q kC af.di (st _ (dK (a:=l.out.length) 18446744073709551616 q (by rw[u3];rfl) nu q Xx) (sf q GH (sl (u:=(.int .u64 C.bB)) q bh s q ?_)))))));have cE:C.bB<18446744073709551616:=g.2.2.2.2.2;refine st _ (dN (a:=l.out.length) (b:=C.bB) q q) (mv q ?_);refine bW (t:=45) q (fun X=>?_) (fun X=>?_)
 ·have b2:=dT X;refine sg X (aM q) (sg X (aJ q rT) (sg X ((aF q bh P q).to (b:=(.int .u64 l.cur)) q) ?_));have cG:l.cur<18446744073709551616:=bR.1;refine fK q q q X ad1 q (rM A ⟨_,_,q,F,j,dz a0 D⟩ l.cur Xx) ?_;rintro aw cO ⟨cp,rfl,d,bM⟩;refine rv ?_;obtain⟨af,P,j,s,D,E,A,e⟩:=k8 d af P j s D E A e;refine sg X (gT q) (st _ (bf q X q) (nt ?_));refine bJ q (fun bo=>?_) (fun bo=>?_)
  ·have b6:=wL bo;refine aL (aj (aS (nm q (Rz alK q (FC A l P N bR (af.eH (fun _ _=>trivial)) ⟨_,_,q,F,j,dz a0 D⟩ Xx) ?_))));rintro aw cP ⟨bc,ap,bd,aH,y,cj,rfl,d,⟨B,K,aa⟩,ad,C3,bu,bx,bX,ak,am⟩;have ay:∀i∈(O :: (ah Y).toList),bw [] w i:=(d8 bb (rF af));have J:∀i∈(O :: (ah Y).toList),¬ci i:=(d8 N (rN af));have aN:ag∉(O :: (ah Y).toList):=(bD (fun h=>N (h ▸ F)) (aW af j));have f:ab∉(O :: (ah Y).toList):=(bD Xx (aW af s));have ak:=ak.eH (Sy ak);have ak:=ak.eH (Sz ak ay (bw.new e));have F:=B _ F j.lt;have U:=nQ U K;have I:=tT I K;have S:=Sx B S e.size;have J:=fun i hi bs=>J i hi (K i bs);have j:=j.md d aN;have s:=s.md d f;have D:=(D.sub B).md d J;have E:=(E.sub B).md d J;have e:=e.step d ay;have A:=aa;have P:=bu;have N:=bx;refine mv q (se q q (se q q (cu q (an q (aD (nm q (st _ (eT (a:=bd) (b:=0) q q) (nt ?_))))))));refine bJ q (fun bp=>?_) (fun bp=>?_)
   ·have aq:=dT bp;refine ns (sf q gB (sl (u:=y) q gZ P q (mv q (cu q (ar q (aI (aV (aI (aV (aI ?_))))))))));exact dB (vs:=[y,(.int .i64 bd)]) trivial q Fz q ⟨_,aH.out,bd,q,e,(ak.ls (fun b V=>I b V) (bw.up aC)),Xh,((sG ai c Xh (by simp_all)).trans (aE.trans (av.symm.trans (ahp (by simp_all) (bM.trans (by simp_all)) am aq))))⟩
   have aq:=dF bp;refine aL (aj (nm q (sL q kC ad.di (mv q (nt (aS ?_))))));have cU:=ad.dD;have aT:gQ v.b l.cur=false:=(bM.trans (by simp_all));obtain⟨a1,bQ⟩:∃r,vB v.b C.bB (ap.drop 0) aH.out=r:=⟨_,q⟩;have a2:=bQ;refine lI (fun(m:jj) (G:Value) (i:Nat)=>[(64,(.int .i64 i)),(0,(.pointer (some ⟨ag,0,none⟩))),(6,(.pointer (some ⟨ab,0,none⟩))),(8,(.pointer (some ⟨O,0,none⟩))),(62,bc),(63,(.int .i64 ap.length))]) (fun(m:jj) (G:Value) (i:Nat) L=>∃M:Nat->Prop,(∀b,M b->Q b)/\(∀b,Q b->b<w.heap.size->M b)/\Up L M/\Md [] w L/\bS L O (jj.cells m G) 138/\Ow cV 46 (bw [] w) L M G m.out/\jj.ok m/\bS L ag (dx.cells v a9) 135/\bS L ab (gW.cells C k) 177/\Ls cV L M bc ap/\Ls e6 L M a9 v.b/\Ls e6 L M k C.au/\¬M O/\M ag/\¬M ab/\tu v.b m.out/\m.out.length<=C.bB/\(m.cur=aH.cur/\m.ahead=aH.ahead)/\i<=ap.length/\vB v.b C.bB (ap.drop i) m.out=a1) (fun(m:jj) (G:Value) (i:Nat)=>ap.length-i) (x0:=aH) (x1:=y) (x2:=0) ?_ ?_ ?_
   ·exact Fz
   ·exact⟨cj,I,S,A,e,P,ak,bX,j,s,ad,D,E,N,F,U,(by rw[nM am];exact cd),(by rw[nM am];exact ce),⟨q,q⟩,Xx,(by have al:=bQ;exact al)⟩
   clear e A I S N F U P j s D E ak ad;rintro m G i bC cQ ⟨bH,I,S,A,e,P,H,bU,j,s,ad,D,E,N,F,U,bk,cf,a3,cx,aQ⟩;refine ns (st _ (dN (a:=i) (b:=ap.length) q q) (nt (aD ?_)));refine bJ q (fun bq=>?_) (fun bq=>?_)
   ·have bL:=dT bq;refine aL (aj (aD (aS (ns (st _ (bg (i:=i) 1 q q kC eV ad.di Xx) ?_)))));obtain⟨aY,aP⟩:=dZ (l:=ap) (i:=i) Xx;obtain⟨cA,cc,a5⟩:=ad.get aP;obtain⟨rfl,cw⟩:=cc;have a5:At _ bc (i*1) [(.int .u64 aY)]:=a5;refine st _ ((bO (kk:=i*1) 0 q q bh a5 q).to (b:=(.int .u64 aY)) q) (cu q (aA ?_));refine aj (aD (ns (sf q gB (sl (u:=G) q gZ P q (sL q kC H.di (st _ (dK (a:=m.out.length) 18446744073709551616 q (by rw[u3];rfl) nu q Xx) (sf q GH (sl (u:=(.int .u64 C.bB)) q bh s q ?_))))))));have cH:C.bB<18446744073709551616:=g.2.2.2.2.2;refine st _ (iR (a:=m.out.length) (b:=C.bB) q q) (mv q ?_);refine bW (t:=75) q (fun ae=>?_) (fun ae=>?_)
    ·have b7:=dT ae;refine sk ae (sk ae (sk ae (st _ (bf q ae q) (nt (gK q q (ns (sf q gB (sl (u:=G) q gZ P q (cu q (ar q (aI ?_)))))))))));refine aV (aI (aI (aV (aV (aI (aV (aI ?_)))))));exact dB (vs:=[G,(.int .i64 ((0:Nat):Int))]) trivial q Fz q ⟨_,m.out,0,q,e,(H.ls (fun b V=>I b V) (bw.up aC)),Xx,((sG ai c Xh (by simp_all)).trans (aE.trans (NY av (by simp_all) aT am aq a2 aQ (aeu aP (by simp_all)))))⟩
    have b7:=dF ae;refine sg ae (aM q) (sg ae (aM q) (fK q q q ae ad1 q (rM A ⟨_,_,q,F,j,dz a0 D⟩ aY Xx) ?_));rintro aw cR ⟨cq,rfl,d,ca⟩;refine rv ?_;obtain⟨H,P,j,s,ad,D,E,A⟩:=k8 d H P j s ad D E A;have e:=e.k d;refine st _ (aZ q ae q) (nt ?_);refine bJ q (fun Bx=>?_) (fun Bx=>?_)
    ·have b8:=Bx;refine ns (sf q gB (sl (u:=G) q gZ P q (cu q (ar q (aI (aV (aI (aI (aV (aV (aI ?_)))))))))));refine aV (aI ?_);exact dB (vs:=[G,(.int .i64 ((0:Nat):Int))]) trivial q Fz q ⟨_,m.out,0,q,e,(H.ls (fun b V=>I b V) (bw.up aC)),Xx,((sG ai c Xh (by simp_all)).trans (aE.trans (NY av (by simp_all) aT am aq a2 aQ (ami aP Xx (by simp_all)))))⟩
    have b8:=Bx;refine aL (aj (ns ?_));have ob:=HC bk;have bi:gQ v.b aY=false:=(ca.trans (by simp_all));refine mv q (Rz alL q (KI A m P N bU (H.eH (fun _ _=>trivial)) aY Xx Xx) ?_);rintro aw tj ⟨be,bI,z,ck,rfl,d,⟨B,K,aa⟩,cn,bv,bz,bY,ao,ba⟩;have ay:∀i∈(O :: (ah G).toList),bw [] w i:=(d8 bb (rF H));have J:∀i∈(O :: (ah G).toList),¬bH i:=(d8 N (rN H));have aN:ag∉(O :: (ah G).toList):=(bD (fun h=>N (h ▸ F)) (aW H j));have f:ab∉(O :: (ah G).toList):=(bD Xx (aW H s));have ao:=ao.eH (Sy ao);have ao:=ao.eH (Sz ao ay (bw.new e));have F:=B _ F j.lt;have U:=nQ U K;have I:=tT I K;have S:=Sx B S e.size;have J:=fun i hi bs=>J i hi (K i bs);have j:=j.md d aN;have s:=s.md d f;have ad:=(ad.sub B).md d J;have D:=(D.sub B).md d J;have E:=(E.sub B).md d J;have e:=e.step d ay;have A:=aa;have P:=bv;have N:=bz;refine an q (nm q (st _ (eT (a:=be) (b:=0) q q) (nt ?_)));refine bJ q (fun br=>?_) (fun br=>?_)
    ·have a4:=dT br;refine ns (sf q gB (sl (u:=z) q gZ P q (mv q (cu q (ar q (aV (aI (aI (aV (aV (aI ?_)))))))))));refine aV (aI ?_);exact dB (vs:=[z,(.int .i64 be)]) trivial q Fz q ⟨_,bI.out,be,q,e,(ao.ls (fun b V=>I b V) (bw.up aC)),Xh,((sG ai c Xh (by simp_all)).trans (aE.trans (NY av (by simp_all) aT am aq a2 aQ (ajM aP Xx bi ba a4))))⟩
    have a4:=dF br;refine aL (bE (aj (aG ?_)));have rs:=LQ bk ba a4 bi;refine st _ (rA (a:=i) (b:=1) q q Xx) (mv q (nt ?_));refine jD (x0:=bI) (x1:=z) (x2:=(i+1)) Xx ⟨(dA q Xx),q,q,q,q,q,tV⟩ ⟨ck,I,S,A,e,P,ao,bY,j,s,ad,D,E,N,F,U,rs.1,(by rw[rs.2.1,List.length_append,List.length_singleton];omega),⟨rs.2.2.1.trans a3.1,rs.2.2.2.1.trans a3.2⟩,Xx,(by have al:=aQ;rw[aev aP Xx bi ba a4]at al;exact al)⟩
   have bL:=dF bq;refine bT (aX (aX (cJ (bE (aj ?_)))));have cT:=CY am aq;have nx:=kS aT;refine tY (x0:=m) (x1:=G) Xx Fz ⟨bH,I,S,A,e,P,H,bU,j,s,D,E,N,F,U,bk,cf,(by have al:=amj av (by simp_all) aT am aq a2 aQ (aho bL);rw[<- a3.1,<- a3.2]at al;exact al)⟩
  have b6:=wK bo;refine bT (aX (aX (cJ (aj (ns (sf q gB (sl (u:=Y) q gZ P q (cu q (ar q ?_)))))))));exact dB (vs:=[Y,(.int .i64 ((0:Nat):Int))]) trivial q Fz q ⟨_,l.out,0,q,e,(af.ls (fun b V=>I b V) (bw.up aC)),Xx,((sG ai c Xh (by simp_all)).trans (aE.trans (av.symm.trans (ajO (by simp_all) (by simp_all)))))⟩
 have b2:=dF X;refine sk X (sk X (sk X (sk X (sk X (st _ (aZ q X q) (nt (ij q q (bT (aX (aX (cJ (aj (ns ?_)))))))))))));refine sf q gB (sl (u:=Y) q gZ P q (cu q (ar q ?_)));exact dB (vs:=[Y,(.int .i64 ((0:Nat):Int))]) trivial q Fz q ⟨_,l.out,0,q,e,(af.ls (fun b V=>I b V) (bw.up aC)),Xx,((sG ai c Xh (by simp_all)).trans (aE.trans (av.symm.trans (ajN (by simp_all)))))⟩
theorem KG (z:Up w Q) {c:Nat} {d:Value} {j:Value} {k:Value} (f:dw) (y:bS w c (dw.cells f d j k) 67) (n0:¬Q c) (F:dw.ok f) (t:Pt dP 135 w Q d f.v) (I:Ls cV w Q j f.ats) (J:Ow eK 3 (fun _=>True) w Q k f.good) :
  Calls Zp 55 #[.pointer (some ⟨c,0,none⟩)] w fun x l=>∃i:Value,∃g:dx,x = .returned (i)/\Md [] w l/\Pt dP 135 l Q i g/\f.v=g:=by
 have H:=n0;have s:=Md.refl [] w;have B:=z;have e:∀b,Q b->Q b:=fun _ h=>h;refine enter (n:=7) Tryz.func55 q q q fun A=>ns (an q (nm q (sn q (sf q Z4 (sl (u:=d) q AI y q ?_)))));have a:=t;obtain⟨D,G,rfl,C,a,m⟩:=a;obtain⟨E,rfl,r,o⟩:=e7 m;refine ar q ?_;exact bP (v:=(.pointer (some ⟨D,0,none⟩))) trivial q ⟨q,tV⟩ ⟨_,f.v,q,s,⟨_,_,q,e _ C,a,dz r (o.sub (fun b p _=>e b p))⟩,q⟩
theorem FA (d:Up w Q) {l:Nat} {B:Value} {E:Value} {e:Value} (f:dw) (y:bS w l (dw.cells f B E e) 67) (n0:¬Q l) (U:dw.ok f) (X:Pt dP 135 w Q B f.v) (Y:Ls cV w Q E f.ats) (s:Ow eK 3 (fun _=>True) w Q e f.good) (Z:f.known=true) (aa:f.good.length<=1000000) :
  Calls Zp 11 #[.pointer (some ⟨l,0,none⟩)] w fun t m=>∃A:Value,∃z:List Nat,∃p:Nat->Prop,t = .returned (A)/\Md [] w m/\oZ w m Q p/\Ow eK 3 (bw [] w) m p A z/\f.good=z:=by
 have P:=n0;have a:=Md.refl [] w;have W:=d;have j:∀b,Q b->Q b:=fun _ h=>h;have i:∀b,Q b->b<w.heap.size->Q b:=fun _ h _=>h;refine enter (n:=55) Tryz.func11 q q q fun M=>ns (an q (aD (nm q (sn q (sf q O1 (sl (u:=(.bool f.known)) q W4 y q (st _ (gT q) (nt ?_))))))));refine bJ q (fun g=>?_) (fun g=>?_)
 ·have G:=wL g;exfalso;simp_all
 have G:=wK g;refine aL (aj (nm q (sn q (sf q xR (sl (u:=e) q uh y q (Rz alC q (FU d s Xx) ?_))))));rintro t S ⟨D,F,T,rfl,K,⟨R,r,H⟩,c,I⟩;have C:∀x,ah D=some x->ah e≠some x:=fun x V L=>by have N:=s.lt x L;have O:=(c.2 x V).1.elim (fun h=>by simp at h) id;omega
 have j:=tT j r;have i:=Sx R i a.size;have c:=c.lower (bw.lift (S':=[]) a);have a:=a.k K;have d:=H;refine ar q ?_;exact bP (v:=D) trivial q ⟨q,tV⟩ ⟨_,F,T,q,a,⟨i,j,d⟩,c,I⟩
theorem IL (g:Up w Q) {c:Nat} {h:Value} {i:Value} {j:Value} (f:dw) (o:bS w c (dw.cells f h i j) 67) (n0:¬Q c) (k:dw.ok f) (l:Pt dP 135 w Q h f.v) (m:Ls cV w Q i f.ats) (n:Ow eK 3 (fun _=>True) w Q j f.good) (p:f.known=true) (q:f.good.length<=1000000) :
  Calls Zp 11 #[.pointer (some ⟨c,0,none⟩)] w fun e d=>∃b:Value,∃a:List Nat,e = .returned (b)/\Md [] w d/\Ls eK d Q b a/\f.good=a :=
 (FA g f o n0 k l m n p q).mono fun e d ⟨b,a,Q2,he,hm,kq,k0,hF⟩=>⟨b,a,he,hm,k0.ls kq.2.1 (bw.up g),hF⟩
def gst (f:dw):Prop:=f.known=false/\f.good=[]\/f.known=true/\f.good=iQ f.v f.ats
theorem EZ (E:Up w Q) {e:Nat} {t:Value} {u:Value} {k:Value} (f:dw) (r:bS w e (dw.cells f t u k) 67) (n0:¬Q e) (n:dw.ok f) (p:Pt dP 135 w Q t f.v) (q:Ls cV w Q u f.ats) (l:Ow eK 3 (fun _=>True) w Q k f.good) (J:gst f) (p2:f.ats.length<=100000) (p3:f.v.b.length<=1000000) :
  Calls Zp 11 #[.pointer (some ⟨e,0,none⟩)] w fun z d=>∃j:Value,∃m:List Nat,∃i:dw,∃A:Value,∃B:Value,∃s:Value,∃c:Nat->Prop,z = .returned (j)/\Md (e :: (ah k).toList) w d/\oZ w d Q c/\Ow eK 3 (bw [] w) d c j m/\bS d e (dw.cells i A B s) 67/\¬c e/\dw.ok i/\Pt dP 135 d c A i.v/\Ls cV d c B i.ats/\Ow eK 3 (bw (e :: (ah k).toList) w) d c s i.good/\(∀x,ah j=some x->ah s≠some x)/\(jI f.v f.ats 0 0 [],({f with good:=jI f.v f.ats 0 0 [],known:=true}:dw))=(m,i):=by
 rcases J with⟨C,a⟩|⟨C,a⟩
 ·exact aa6 E f r n0 n p q l C a p2 p3
 refine(FA E f r n0 n p q l C (by rw[a];have:=rH f.v f.ats;unfold iQ;omega)).mono ?_;rintro z d ⟨j,m,c,H,D,g,y,F⟩;refine⟨j,m,f,t,u,k,c,H,D.mono Oy,g,y,r.o D,fun h=>n0 (g.2.1 _ h),n,(p.sub g.1).o D,(q.sub g.1).o D,((l.eH (fun b G=>.inl (by simp[G]))).sub g.1 g.2.1).o D,(fun x I a=>by have K:=l.lt x a;have L:=(y.2 x I).1.elim (fun h=>by simp at h) id;omega),?_⟩;rw[<- F,a];have:f={f with good:=iQ f.v f.ats,known:=true}:=(by cases f;simp only at C a;subst C a;rfl);exact congrArg (Prod.mk _) this.symm
theorem aj2:cA Zp 11=true:=Xw
theorem ani:cA Zp 53=true:=Xw
theorem anj:cA Zp 54=true:=Xw
theorem alF:cA Zp 55=true:=Xw
theorem ank:cA Zp 56=true:=Xw
theorem anl:cA Zp 58=true:=Xw
theorem TF (d:Up w Q) {S:Nat} {al:Value} {am:Value} {Z:Value} (f:dw) (j:bS w S (dw.cells f al am Z) 67) (n0:¬Q S) (ag:dw.ok f) (A:Pt dP 135 w Q al f.v) (B:Ls cV w Q am f.ats) (s:Ow eK 3 (fun _=>True) w Q Z f.good) (p:Pr) (cg:f.known=true) (a2:f.good=iQ f.v f.ats) (p2:f.ats.length<=100000) (p3:f.v.b.length<=1000000) (p4:16<=f.v.h.n.getD 2 0) (ch:16<=f.v.h.n.getD 4 0) (ci:p.name.length<=1000000) (cj:p.value.length<=1000000) :
  Calls Zp 22 #[.pointer (some ⟨S,0,none⟩),.agg (Pr.cells p).toArray] w fun J E=>∃a4:Value,∃ai:List Nat,J = .returned (a4)/\Md [] w E/\Ls eK E Q a4 ai/\ql f.v f.ats p=ai:=by
 have b4:f.good.length<=100000:=(by rw[a2];have:=rH f.v f.ats;unfold iQ;omega);have F:=n0;have e:=Md.refl [] w;have br:=d;have L:∀b,Q b->Q b:=fun _ h=>h;have O:∀b,Q b->b<w.heap.size->Q b:=fun _ h _=>h;refine enter (n:=60) Tryz.func22 rfl rfl rfl fun bj=>ns (dR (cs:=(Pr.cells p)) rfl rfl ?_);intro bn cm ao b5 u aK;have Bk:S≠bn:=(by have:=j.lt;omega);have a9:=d _ ao;have ao:=lv e.size ao;obtain⟨A,B,s,j,d,e⟩:=k6 u A B s j d e;refine an rfl (ns (st _ (bK (Pr.cells p) rfl (by exact gY) aK rfl) (Rz ani rfl (aaD d p) ?_)));rintro J cn ⟨bX,b0,bk,rfl,u,ab,bC,aH⟩;obtain⟨A,B,s,j,d,e⟩:=k6 u A B s j d e;refine mv rfl (se rfl rfl (se rfl rfl (cu rfl (an rfl (aD (nm rfl (st _ (eT (a:=bk) (b:=0) rfl rfl) (nt ?_))))))));refine bJ rfl (fun ap=>?_) (fun ap=>?_)
 ·have bf:=dT ap;refine ns (ar rfl (aI ?_));exact bP (v:=SN) trivial rfl ⟨rfl,tV⟩ ⟨_,[],rfl,e,(Ls.nil _ _ _),(YT (adS aH Xx))⟩
 have bf:=dF ap;refine aL (aj (ns ?_));obtain⟨aw,ay⟩:=ahd aH Xx;have bv:=ic p;rw[<- ay]at bv;have cf:=abC aw;refine mv rfl (Rz alF rfl (KG d f j F ag A B (s.eH (fun _ _=>trivial))) ?_);rintro J co ⟨bY,b1,rfl,u,ad,bo⟩;obtain⟨A,B,s,j,ab,d,e⟩:=k7 u A B s j ab d e;obtain⟨bF,bH,rfl,V,ad,ba⟩:=ad;obtain⟨ck,rfl,bx,aM⟩:=e7 ba;subst bo;refine mv rfl (Rz anj rfl (IC d ⟨_,_,rfl,V,ad,dz bx aM⟩ ab Xx Xx Xx Xx) ?_);rintro J cp ⟨N,g,rfl,u,bD,bW,aJ⟩;obtain⟨A,B,s,j,d,e⟩:=k6 u A B s j d e;refine mv rfl (se rfl rfl (se rfl rfl (cu rfl (an rfl (aD (nm rfl (st _ (eT (a:=g) (b:=0) rfl rfl) (nt ?_))))))));refine bJ rfl (fun aq=>?_) (fun aq=>?_)
 ·have bh:=dT aq;refine ns (ar rfl (aI ?_));exact bP (v:=SN) trivial rfl ⟨rfl,tV⟩ ⟨_,[],rfl,e,(Ls.nil _ _ _),(RG (x:=N) (c:=g) aw (by unfold zW;rw[<- ay];exact aJ) Xx)⟩
 have bh:=dF aq;refine aL (aj (nm rfl (Rz alF rfl (KG d f j F ag A B (s.eH (fun _ _=>trivial))) ?_)));rintro J cq ⟨bZ,b2,rfl,u,P,bp⟩;obtain⟨A,B,s,j,d,e⟩:=k6 u A B s j d e;obtain⟨bG,bI,rfl,W,P,bb⟩:=P;obtain⟨cl,rfl,bq,aP⟩:=e7 bb;subst bp;refine mv rfl (Rz ank rfl (ahe d ⟨_,_,rfl,W,P,dz bq aP⟩ N Xx Xx) ?_);rintro J b6 ⟨aV,bc,bR,rfl,u,C,bM,a3⟩;obtain⟨A,B,s,j,d,e⟩:=k6 u A B s j d e;refine mv rfl (se rfl rfl (se rfl rfl (cu rfl (an rfl (ns (cu rfl (nt (aD (nm rfl (Rz aj2 rfl (IL d f j F ag A B (s.eH (fun _ _=>trivial)) Xh Xx) ?_))))))))));rintro J b7 ⟨aB,G,rfl,u,D,a5⟩;obtain⟨A,B,s,j,C,d,e⟩:=k7 u A B s j C d e;refine sL rfl kP D.di (mv rfl (aA ?_));have aE:=a5.symm.trans a2
 have bu:=rH f.v f.ats;have bt:=(EJ f.v f.ats).2;have cd:G.length<=f.ats.length:=(by rw[aE];exact bu);refine aj (aS ?_);obtain⟨ai,aQ⟩:∃r,G.filter (inG f.v f.ats N)=r:=⟨_,rfl⟩;have a7:=aQ;refine lI (fun(M:Value) (o:List Nat) (i:Nat)=>[(10,M),(41,(.int .i64 i)),(0,(.pointer (some ⟨S,0,none⟩))),(8,aV),(39,aB),(40,(.int .i64 G.length))]) (fun(M:Value) (o:List Nat) (i:Nat) E=>∃I:Nat->Prop,(∀b,I b->Q b)/\(∀b,Q b->b<w.heap.size->I b)/\Up E I/\Md [] w E/\Ow eK 3 (bw [] w) E I M o/\bS E S (dw.cells f al am Z) 67/\Ls cV E I aV bc/\Ls eK E I aB G/\Pt dP 135 E I al f.v/\Ls cV E I am f.ats/\Ow eK 3 (fun _=>True) E I Z f.good/\¬I S/\(∀x,ah M=some x->ah Z≠some x)/\i<=f.ats.length/\o.length<=i/\o ++ (G.drop i).filter (inG f.v f.ats N)=ai) (fun(M:Value) (o:List Nat) (i:Nat)=>G.length-i) (x0:=SN) (x1:=([]:List Nat)) (x2:=0) ?_ ?_ ?_
 ·exact⟨rfl,rfl,rfl,rfl,rfl,rfl,tV⟩
 ·exact⟨Q,L,O,d,e,(Ow.nil _ _ _ _ _),j,C,D,A,B,s,F,(fun x aF=>by simp[ah]at aF),Xx,Oy,(by have K:=aQ;exact K)⟩
 clear e d L O F a9 V W A B s j aK ab ad aM P aP C D;rintro M o i bj b8 ⟨aT,L,O,d,e,H,j,C,D,A,B,s,F,az,bz,bA,av⟩;refine ns (st _ (dN (a:=i) (b:=G.length) rfl rfl) (nt (aD ?_)));refine bJ rfl (fun au=>?_) (fun au=>?_)
 ·have t:=dT au;refine aL (aj (aD (aS (ns (st _ (bg (i:=i) 1 rfl rfl kP el3 D.di Xx) ?_)))));obtain⟨X,af⟩:=dZ (l:=G) (i:=i) Xx;obtain⟨b3,a8,ae⟩:=D.get af;obtain⟨rfl,bL⟩:=a8;have ae:At _ aB (i*1) [(.int .i64 X)]:=ae;refine st _ ((bO (kk:=i*1) 0 rfl rfl iE ae rfl).to (b:=(.int .i64 X)) rfl) (cu rfl (aA ?_));refine aj (ns ?_);have aZ:=bt _ (aE ▸ List.mem_of_getElem? af);refine m2 rfl rfl (Rz alG rfl (Ze d f j F ag A B (s.eH (fun _ _=>trivial)) X Xx) ?_);rintro J b9 ⟨bd,bU,rfl,u,bN,bQ,y⟩;obtain⟨H,j,C,D,A,B,s,d⟩:=k8 u H j C D A B s d;have e:=e.k u;refine mv rfl (se rfl rfl (se rfl rfl (cu rfl (an rfl (ns (m2 rfl rfl (Rz anl rfl (abZ d C bd Xx) ?_)))))));rintro J ca ⟨Bx,rfl,u,z⟩;obtain⟨H,j,C,D,A,B,s,d⟩:=k8 u H j C D A B s d;have e:=e.k u;refine nt ?_;refine bJ rfl (fun aa=>?_) (fun aa=>?_)
  ·have bi:=aa;refine aG (m2 rfl rfl (aR [[(.int .i64 X)]] kP nE Xy Xy rfl rfl ⟨rfl,tV⟩ ⟨rfl,tV⟩ rfl Xy ?_));intro bV cb be bB u aC;have bl:=d _ be;obtain⟨H,j,C,D,A,B,s,d⟩:=k8 u H j C D A B s d;have e:=e.k u;have aC:=Ls.cF (m:=1) (R:=aT) (T:=eK) (xs:=[X]) aC ⟨_,_,rfl,⟨rfl,Xx⟩,rfl⟩ rfl Xy bl;refine ez (sz:=1) (by rfl) kP nE rfl rfl H aC (fun _ h _=>h) d (bw.new e) Zq Zq ?_;intro aU cc bm U ak aO a6 u Y _ aN;have bs:∀x,ah aU=some x->ah Z≠some x:=fun x aF a0=>(aN x aF).elim (fun h=>az x h a0) (fun h=>by have ce:=s.lt x a0;omega);have k:=H;have F:=fun K=>F (ak _ K);have L:=tT L ak;have O:=Sx U O e.size;have j:=j.md u (aW k j);have C:=(C.sub U).md u Y;have D:=(D.sub U).md u Y;have A:=(A.sub U).md u Y;have B:=(B.sub U).md u Y;have s:=(s.sub U ak).md u (cW az) Y;have d:=d.md u;have e:=e.cT u (Sy k);have d:=aO;clear aO U ak Y aN;refine cu rfl (aA (bE (aj (aG (st _ (rA (a:=i) (b:=1) rfl rfl Xx) (mv rfl (nt ?_)))))));refine jD (x0:=aU) (x1:=(o ++ ([X]))) (x2:=(i+1)) Xx ⟨rfl,(dA rfl Xx),rfl,rfl,rfl,rfl,tV⟩ ⟨bm,L,O,d,e,a6,j,C,D,A,B,s,F,bs,Xx,(by(simp;omega)),(by have K:=av;rw[agK (q:=inG f.v f.ats N) af ((adO y aZ a3 z).trans aa)]at K;simpa using K)⟩
  have bi:=aa;refine aL (bE (aj (aG (st _ (rA (a:=i) (b:=1) rfl rfl Xx) (mv rfl (nt ?_))))));refine jD (x0:=M) (x1:=o) (x2:=(i+1)) Xx ⟨rfl,(dA rfl Xx),rfl,rfl,rfl,rfl,tV⟩ ⟨aT,L,O,d,e,H,j,C,D,A,B,s,F,az,Xx,Xx,(by have K:=av;rw[aj1 (q:=inG f.v f.ats N) af ((adO y aZ a3 z).trans aa)]at K;exact K)⟩
 have t:=dF au;refine bT (aX (aX (cJ (aj (nm rfl (ar rfl ?_))))));exact bP (v:=M) trivial rfl ⟨rfl,tV⟩ ⟨_,o,rfl,e,(H.ls (fun b hb=>L b hb) (bw.up br)),((adE (x:=N) (c:=g) aw (by unfold zW;rw[<- ay];exact aJ) Xx).trans (by have aY:=a7.trans (av.symm.trans (congrArg (fun q=>o ++ q) (agJ t)));rw[aE]at aY;rw[aY,List.append_nil]))⟩
theorem al8:cA Zp 22=true:=Xw
theorem afs (e:Up w Q) {N:Nat} {ab:Value} {ad:Value} {X:Value} (f:dw) (A:bS w N (dw.cells f ab ad X) 67) (n0:¬Q N) (aJ:dw.ok f) (m:Pt dP 135 w Q ab f.v) (I:Ls cV w Q ad f.ats) (E:Ow eK 3 (fun _=>True) w Q X f.good) {K:Value} (a:fB) (d:Ls ir w Q K a.values) (a1:f.known=true) (a2:f.good=iQ f.v f.ats) (p2:f.ats.length<=100000) (p3:f.v.b.length<=1000000) (p4:16<=f.v.h.n.getD 2 0) (a3:16<=f.v.h.n.getD 4 0) (a4:a.name.length<=1000000) (a5:a.values.length<=1000) (aK:∀s∈a.values,s.length<=1000000) :
  Calls Zp 76 #[.pointer (some ⟨N,0,none⟩),.agg (fB.cells a K).toArray] w fun aq F=>∃az:Value,∃aa:List Nat,aq = .returned (az)/\Md [] w F/\Ls eK F Q az aa/\ac5 f.v f.ats a=aa:=by
 have L:=n0;have j:=Md.refl [] w;have aH:=e;have W:∀b,Q b->Q b:=fun _ h=>h;have O:∀b,Q b->b<w.heap.size->Q b:=fun _ h _=>h;refine enter (n:=25) Tryz.func76 q q q fun aI=>ns (dR (cs:=(fB.cells a K)) q q ?_);intro Y a6 R aR D B;have aN:N≠Y:=(by have:=A.lt;omega);have C:=e _ R;have R:=lv j.size R;obtain⟨m,I,E,A,d,e,j⟩:=k7 D m I E A d e j;refine an q (ns (cu q (nt (aD (ns (sf q xS (sl (u:=K) q SZ B q (sL q iU d.di (mv q (nt (aS ?_)))))))))));obtain⟨aa,am⟩:∃r,a.values.flatMap (fun s=>ql f.v f.ats {name:=a.name,value:=s})=r:=⟨_,q⟩;have k:=am;refine lI (fun(M:Value) (o:List Nat) (i:Nat)=>[(5,M),(11,(.int .i64 i)),(0,(.pointer (some ⟨N,0,none⟩))),(3,(.pointer (some ⟨Y,0,none⟩))),(9,K),(10,(.int .i64 a.values.length))]) (fun(M:Value) (o:List Nat) (i:Nat) F=>∃J:Nat->Prop,(∀b,J b->Q b)/\(∀b,Q b->b<w.heap.size->J b)/\Up F J/\Md [] w F/\Ow eK 3 (bw [] w) F J M o/\bS F N (dw.cells f ab ad X) 67/\bS F Y (fB.cells a K) 98/\Ls ir F J K a.values/\Pt dP 135 F J ab f.v/\Ls cV F J ad f.ats/\Ow eK 3 (fun _=>True) F J X f.good/\¬J N/\J Y/\(∀x,ah M=some x->ah X≠some x)/\i<=a.values.length/\o.length<=i*100000/\o ++ (a.values.drop i).flatMap (fun s=>ql f.v f.ats {name:=a.name,value:=s})=aa) (fun(M:Value) (o:List Nat) (i:Nat)=>a.values.length-i) (x0:=SN) (x1:=([]:List Nat)) (x2:=0) ?_ ?_ ?_
 ·exact Fz
 ·exact⟨Q,W,O,e,j,(Ow.nil _ _ _ _ _),A,B,d,m,I,E,L,C,(fun x ai=>by simp[ah]at ai),Xx,Oy,(by have S:=am;exact S)⟩
 clear j e W O L C m I E A d B;rintro M o i aI a7 ⟨aT,W,O,e,j,H,A,B,d,m,I,E,L,C,ak,aO,aP,ay⟩;refine ns (st _ (dN (a:=i) (b:=a.values.length) q q) (nt (aD ?_)));refine bJ q (fun af=>?_) (fun af=>?_)
 ·have al:=dT af;refine aL (aj (aD (aS (ns (st _ (bg (i:=i) 1 q q iU JN d.di Xx) ?_)))));obtain⟨U,ag⟩:=dZ (l:=a.values) (i:=i) Xx;obtain⟨aU,aF,Z⟩:=d.get ag;obtain⟨rfl,_⟩:=aF;have Z:At _ K (i*1) [(str U)]:=Z;refine st _ ((bO (kk:=i*1) 0 q q jK Z q).to (b:=(str U)) q) (cu q (aA ?_));refine aj (aG ?_);have aZ:=aK _ (List.mem_of_getElem? ag);refine m2 q q (sf q vk (sl (u:=(str a.name)) q jK B q (mv q (st _ (bN (us:=[[(str a.name)],[(str U)]]) (cs:=(Pr.cells (({name:=a.name,value:=U}:Pr)))) [(0,0,1),(1,1,1)] z61 BA q q Fz Fz q q) (Rz al8 q (TF e f A L aJ m I (E.eH (fun _ _=>trivial)) (({name:=a.name,value:=U}:Pr)) Xh Xh Xx Xx Xx Xx Xx Xx) ?_)))));rintro aq a8 ⟨aQ,P,rfl,D,c,ao⟩;obtain⟨H,A,B,d,m,I,E,e⟩:=k8 D H A B d m I E e;have j:=j.k D;have au:=agT (v:=f.v) (at_:=f.ats) (p:={name:=a.name,value:=U});rw[ao]at au;have aY:=rH f.v f.ats;have aV:P.length<=100000:=(by unfold iQ at au;omega);refine ez (sz:=1) (by rfl) kP nE q q H c (fun _ h _=>h) e (bw.new j) Xx Xx ?_;intro aB a9 aC V z y aE D g _ t;have G:∀x,ah aB=some x->ah X≠some x:=fun x ai av=>(t x ai).elim (fun h=>ak x h av) (fun h=>by have a0:=E.lt x av;omega);have ae:=H;have L:=fun S=>L (z _ S);have C:=V _ C B.lt;have d:=d.sub V;have m:=m.sub V
  have W:=tT W z;have O:=Sx V O j.size;have A:=A.md D (aW ae A);have B:=B.md D (aW ae B);have d:=d.md D g;have m:=m.md D g;have I:=(I.sub V).md D g;have E:=(E.sub V z).md D (cW ak) g;have e:=e.md D;have j:=j.cT D (Sy ae);have e:=y;clear y V z g t;refine cu q (aA (bE (aj (aG (st _ (rA (a:=i) (b:=1) q q Xx) (mv q (nt ?_)))))));refine jD (x0:=aB) (x1:=(o ++ P)) (x2:=(i+1)) Xx ⟨q,(dA q Xx),q,q,q,q,tV⟩ ⟨aC,W,O,e,j,aE,A,B,d,m,I,E,L,C,G,Xx,(by rw[List.length_append];omega),(by have S:=ay;rw[YK ag ao,<- List.append_assoc]at S;exact S)⟩
 have al:=dF af;refine bT (aX (aX (cJ (aj (nm q (ar q ?_))))));exact bP (v:=M) trivial q ⟨q,tV⟩ ⟨_,o,q,j,(H.ls (fun b T=>W b T) (bw.up aH)),(by have ap:=k.trans (ay.symm.trans (congrArg (fun aM=>o ++ aM) (adu al)));rw[List.append_nil]at ap;exact ap)⟩
theorem anx:cA Zp 76=true:=Xw
theorem anz:cA Zp 77=true:=Xw
theorem z22:dW Zp 22=some [.slice none 0 0]:=Xw
theorem afu (A:Up w Q) {B:Nat} {a8:Value} {a9:Value} {K:Value} (f:dw) (u:bS w B (dw.cells f a8 a9 K) 67) (n0:¬Q B) (bB:dw.ok f) (a3:Pt dP 135 w Q a8 f.v) (a4:Ls cV w Q a9 f.ats) (Z:Ow eK 3 (fun _=>True) w Q K f.good) {v1:Value} {l:List fB} (h1:Ls jS w Q v1 l) (b6:gst f) (b7:True) (p2:f.ats.length<=100000) (p3:f.v.b.length<=1000000) (p4:16<=f.v.h.n.getD 2 0) (bL:16<=f.v.h.n.getD 4 0) (bM:∀a∈l,a.name.length<=1000000/\a.values.length<=1000/\∀s∈a.values,s.length<=1000000) :
  Calls Zp 33 #[.pointer (some ⟨B,0,none⟩),v1] w fun ap F=>∃aN:Value,∃av:List Nat,∃ad:dw,∃a6:Value,∃a7:Value,∃aO:Value,∃E:Nat->Prop,ap = .returned (aN)/\Md (B :: (ah K).toList) w F/\oZ w F Q E/\Ow eK 3 (bw [] w) F E aN av/\bS F B (dw.cells ad a6 a7 aO) 67/\¬E B/\dw.ok ad/\Pt dP 135 F E a6 ad.v/\Ls cV F E a7 ad.ats/\Ow eK 3 (bw (B :: (ah K).toList) w) F E aO ad.good/\(∀x,ah aN=some x->ah aO≠some x)/\(IX f.v f.ats l,({f with good:=jI f.v f.ats 0 0 [],known:=true}:dw))=(av,ad):=by
 have b2:=h1.dD;have J:=n0;have bf:bw (B :: (ah K).toList) w B:=.inl Oy;have Z:=Z.eH (lo':=bw (B :: (ah K).toList) w) (fun b L=>.inl (by simp[L]));have m:=Md.refl (B :: (ah K).toList) w;have bR:=A;have N:∀b,Q b->Q b:=fun _ h=>h;have M:∀b,Q b->b<w.heap.size->Q b:=fun _ h _=>h;refine enter (n:=25) Tryz.func33 q q q fun bj=>ns (an q (nm q (Rz aj2 q (EZ A f u J bB a3 a4 (Z.eH (fun _ _=>trivial)) Xh Xh Xh) ?_)));rintro ap b8 ⟨a0,a1,G,W,a2,aF,bx,rfl,d,⟨P,I,S⟩,R,z,aR,V,C,D,e,bh,aP⟩;have bQ:∀x,ah a0=some x->ah K≠some x:=fun x t bG=>by have b4:=Z.lt x bG;have b5:=(R.2 x t).1.elim (fun h=>by simp at h) id;omega
 have aI:∀i∈(B :: (ah K).toList),bw (B :: (ah K).toList) w i:=(d8 bf (rF Z));have j:∀i∈(B :: (ah K).toList),¬Q i:=(d8 J (rN Z));have e:=e.eH (Sy e);have e:=e.eH (Sz e aI (bw.new m));have N:=tT N I;have M:=Sx P M m.size;have j:=fun i hi bH=>j i hi (I i bH);have h1:=(h1.sub P).md d j;have R:=R.lower (bw.lift (S':=[]) m);have m:=m.step d aI;have A:=S;have u:=z;have J:=aR;refine cu q (aA ?_);have az:=congrArg Prod.fst aP;have ab:=congrArg Prod.snd aP;simp only at az ab;have aq:G.v=f.v:=(by rw[<- ab]);have a5:G.ats=f.ats:=(by rw[<- ab]);have bD:G.known=true:=(by rw[<- ab]);have bC:G.good=iQ G.v G.ats:=(by rw[<- ab];rfl);have bp:=rH f.v f.ats;rw[az]at bp;have bq:G.v.b.length<=1000000:=(by rw[aq];exact p3);have bl:G.ats.length<=100000:=(by rw[a5];exact p2);have bm:16<=G.v.h.n.getD 2 0:=(by rw[aq];exact p4);have bo:16<=G.v.h.n.getD 4 0:=(by rw[aq];exact bL);refine aj (aD (nm q (sL q yE h1.di (mv q (nt (aS ?_))))));obtain⟨av,aZ⟩:∃r,l.foldl (ni f.v f.ats) a1=r:=⟨_,q⟩;have be:=aZ;refine lI (fun(X:Value) (o:List Nat) (i:Nat)=>[(5,X),(13,(.int .i64 i)),(0,(.pointer (some ⟨B,0,none⟩))),(11,v1),(12,(.int .i64 l.length))]) (fun(X:Value) (o:List Nat) (i:Nat) F=>∃E:Nat->Prop,(∀b,E b->Q b)/\(∀b,Q b->b<w.heap.size->E b)/\Up F E/\Md (B :: (ah K).toList) w F/\Ow eK 3 (bw [] w) F E X o/\bS F B (dw.cells G W a2 aF) 67/\Ls jS F E v1 l/\Pt dP 135 F E W G.v/\Ls cV F E a2 G.ats/\Ow eK 3 (bw (B :: (ah K).toList) w) F E aF G.good/\¬E B/\(∀x,ah X=some x->ah aF≠some x)/\i<=l.length/\(l.drop i).foldl (ni f.v f.ats) o=av) (fun(X:Value) (o:List Nat) (i:Nat)=>l.length-i) (x0:=a0) (x1:=a1) (x2:=0) ?_ ?_ ?_
 ·exact Fz
 ·exact⟨bx,N,M,A,m,R,u,h1,C,D,e,J,bh,Xx,(by have au:=aZ;exact au)⟩
 clear m A N M J a3 a4 u h1 C D e R;rintro X o i bj b9 ⟨bz,N,M,A,m,H,u,h1,C,D,e,J,af,b1,aQ⟩;refine ns (st _ (dN (a:=i) (b:=l.length) q q) (nt (aD ?_)));refine bJ q (fun aC=>?_) (fun aC=>?_)
 ·have aY:=dT aC;refine aL (aj (aD (aS (ns (st _ (bg (i:=i) 2 q q yE IE h1.di Xx) ?_)))));obtain⟨ae,aE⟩:=dZ (l:=l) (i:=i) Xx;obtain⟨b3,br,am⟩:=h1.get aE;obtain⟨aw,rfl,aa⟩:=nS br;have am:At _ v1 (i*2) (fB.cells ae aw):=am;refine st _ (gI (kk:=i*2) (fB.cells ae aw) 0 q q (by exact qq) am q) (bF z98 ?_);intro ag ca ak bt d O;have bZ:B≠ag:=(by have:=u.lt;omega);obtain⟨bk,P,I,bi,S⟩:=j5 A ak bt d;have J:=nQ J I;have N:=tT N I;have M:=Sx P M m.size;have ak:=lv m.size ak;have H:=(H.sub P I).o d;have u:=u.o d;have h1:=(h1.sub P).o d;have C:=(C.sub P).o d;have D:=(D.sub P).o d;have e:=(e.sub P I).o d;have aa:=(aa.sub P).o d;have m:=m.k d;have A:=S;have ba:bw [] w ag:=.inr ak;refine aK (us:=(fB.cells ae aw)) q q (by exact qq) (by exact fun bN bI=>aU (fB.one aa.bA) bN bI) O (lB q) ?_;have k:=O;intro bU d O;have j:∀b∈[ag],¬bk b:=(hI bi);have H:=H.md d (aB k H) j;have u:=u.md d Zz;have h1:=h1.md d j;have C:=C.md d j;have D:=D.md d j;have e:=e.md d (aB k e) j;have aa:=aa.md d j;have A:=A.md d;have m:=m.step d (hI (bw.wid ba));refine nt (ns ?_);have aM:=bM _ (List.mem_of_getElem? aE);refine mv q (st _ (bK (fB.cells ae aw) q (by exact qq) O q) ?_)
  refine Rz anx q (afs A G u J V C D (e.eH (fun _ _=>trivial)) ae aa (by exact bD) (by exact bC) (by exact bl) (by exact bq) (by exact bm) (by exact bo) (by exact aM.1) (by exact aM.2.1) (by exact aM.2.2)) ?_;rintro ap bV ⟨bc,c,rfl,d,Y,bd⟩;obtain⟨H,u,h1,C,D,e,O,A⟩:=k8 d H u h1 C D e O A;have m:=m.k d;refine bF z22 ?_;intro ai bW al bu d T;have b0:B≠ai:=(by have:=u.lt;omega);have bO:ag≠ai:=(by have:=O.lt;omega);obtain⟨ay,P,I,aT,S⟩:=j5 A al bu d;have J:=nQ J I;have N:=tT N I;have M:=Sx P M m.size;have al:=lv m.size al;have H:=(H.sub P I).o d;have u:=u.o d;have h1:=(h1.sub P).o d;have C:=(C.sub P).o d;have D:=(D.sub P).o d;have e:=(e.sub P I).o d;have Y:=(Y.sub P).o d;have m:=m.k d;have A:=S;have bb:bw [] w ai:=.inr al;refine bn q q uh Y.bA T (lB q) ?_;have p:=T;intro bX d T;have j:∀b∈[ai],¬ay b:=(hI aT);have H:=H.md d (aB p H) j;have u:=u.md d Zz;have h1:=h1.md d j;have C:=C.md d j;have D:=D.md d j;have e:=e.md d (aB p e) j;have Y:=Y.md d j;have A:=A.md d;have m:=m.step d (hI (bw.wid bb));obtain⟨ao,g⟩:∃y,y=({({l:=[]}:UI)with l:=c}:UI):=⟨_,q⟩;have T:bS _ _ (UI.cells ({({l:=[]}:UI)with l:=c}) bc) _:=T;rw[<- g]at T;rw[show c=ao.l by rw[g]]at Y;refine nt (aG (mv q (st _ (wD q) ?_)));have j:∀b∈(ah X).toList,¬ay b:=fun b L=>(H.2 b (by simpa using L)).2;refine Rz anz q (aft H A ao T aT Y) ?_;rintro ap bY ⟨bv,rfl,d,bs,aV⟩;have aJ:=H;have H:=aV;have u:=u.md d (aW aJ u);have h1:=h1.md d j;have C:=C.md d j;have D:=D.md d j;have e:=e.md d (cW af) j;have A:=A.md d;have m:=m.cT d (fun b L=>bw.wid (aJ.2 b L).1);have af:=tT af bs;refine cu q (aA (bE (aj (aG (st _ (rA (a:=i) (b:=1) q q Xx) (mv q (nt ?_)))))));refine jD (x0:=bv) (x1:=((o.filter fun i=>decide (i∈ao.l)))) (x2:=(i+1)) Xx ⟨q,(dA q Xx),q,q,q,tV⟩ ⟨ay,N,M,A,m,H,u,h1,C,D,e,J,af,Xx,(by have au:=aQ;have aH:ni f.v f.ats o ae=o.filter fun i=>decide (i∈ao.l):=(by unfold ni;rw[<- aq,<- a5,bd,g]);rw[aav aE,aH]at au;exact au)⟩
 have aY:=dF aC;refine bT (aX (aX (cJ (aj (nm q (ar q ?_))))));exact bP (v:=X) trivial q ⟨q,tV⟩ ⟨_,o,G,_,_,_,bz,q,m,⟨M,N,A⟩,H,u,J,V,C,D,e,af,(Prod.ext (by have aH:=be.trans (aQ.symm.trans (ad6 aY));unfold IX iQ;rw[az];exact aH) ab)⟩
theorem amS:cA Zp 32=true:=Xw
theorem amT:cA Zp 33=true:=Xw
theorem amU:cA Zp 34=true:=Xw
theorem amV:cA Zp 35=true:=Xw
theorem LB (e:Up w Q) {E:Nat} {aZ:Value} {a0:Value} {N:Value} (f:dw) (j:bS w E (dw.cells f aZ a0 N) 67) (n0:¬Q E) (bq:dw.ok f) (ao:Pt dP 135 w Q aZ f.v) (ap:Ls cV w Q a0 f.ats) (U:Ow eK 3 (fun _=>True) w Q N f.good) {al:Value} (m:fM) (L:Ls (rq jS) w Q al m.rows) (b6:gst f) (cv:True) (p2:f.ats.length<=100000) (p3:f.v.b.length<=1000000) (p4:16<=f.v.h.n.getD 2 0) (b7:16<=f.v.h.n.getD 4 0) (cw:m.rows.length<=1000) (b8:∀l∈m.rows,∀a∈l,a.name.length<=1000000/\a.values.length<=1000/\∀s∈a.values,s.length<=1000000) :
  Calls Zp 12 #[.pointer (some ⟨E,0,none⟩),.agg (fM.cells m al).toArray] w fun av O=>∃bs:Value,∃aM:List Nat,∃aw:dw,∃bt:Value,∃bu:Value,∃bv:Value,∃M:Nat->Prop,av = .returned (bs)/\Md (E :: (ah N).toList) w O/\oZ w O Q M/\Ls eK O M bs aM/\bS O E (dw.cells aw bt bu bv) 67/\¬M E/\dw.ok aw/\Pt dP 135 O M bt aw.v/\Ls cV O M bu aw.ats/\Ow eK 3 (bw (E :: (ah N).toList) w) O M bv aw.good/\(qy f.v f.ats m,({f with good:=jI f.v f.ats 0 0 [],known:=true}:dw))=(aM,aw):=by
 have I:=n0;have bi:bw (E :: (ah N).toList) w E:=.inl Oy;have U:=U.eH (lo':=bw (E :: (ah N).toList) w) (fun b H=>.inl (by simp[H]));have A:=Md.refl (E :: (ah N).toList) w;have Bk:=e;have p:∀b,Q b->Q b:=fun _ h=>h;have R:∀b,Q b->b<w.heap.size->Q b:=fun _ h _=>h;refine enter (n:=30) Tryz.func12 q q q fun bH=>ns (dR (cs:=(fM.cells m al)) q q ?_);intro bl cx aO cm d au;have cf:E≠bl:=(by have:=j.lt;omega);have bc:=e _ aO;have aO:=lv A.size aO;obtain⟨ao,ap,U,j,L,e,A⟩:=k7 d ao ap U j L e A;refine an q (aD (ns (st _ (bK (fM.cells m al) q (by exact j9) au q) (st _ (bN (us:=[]) (cs:=(fM.cells (({rows:=[]}:fM)) SN)) [] z32 WE q q trivial trivial q q) (Rz amS q (VY e m L (({rows:=[]}:fM)) (Ls.nil _ _ _)) ?_)))));rintro av cy ⟨ck,rfl,d,bY⟩;obtain⟨ao,ap,U,j,L,au,e,A⟩:=k8 d ao ap U j L au e A;refine nt ?_;refine bJ q (fun aP=>?_) (fun aP=>?_)
 ·have bQ:=aP;refine nm q (Rz aj2 q (EZ e f j I bq ao ap (U.eH (fun _ _=>trivial)) Xh Xh Xh) ?_);rintro av cb ⟨bj,bI,bW,cg,ch,Bx,cr,rfl,d,⟨Y,ab,z⟩,V,ba,bb,bG,c,aV,G,bA,bm⟩;have cd:∀x,ah bj=some x->ah N≠some x:=fun x J aa=>by have aK:=U.lt x aa;have br:=(V.2 x J).1.elim (fun h=>by simp at h) id;omega
  have aq:∀i∈(E :: (ah N).toList),bw (E :: (ah N).toList) w i:=(d8 bi (rF U));have B:∀i∈(E :: (ah N).toList),¬Q i:=(d8 I (rN U));have bz:bl∉(E :: (ah N).toList):=(bD (fun h=>I (h ▸ bc)) (aW U au));have G:=G.eH (Sy G);have G:=G.eH (Sz G aq (bw.new A));have p:=tT p ab;have R:=Sx Y R A.size;have B:=fun i hi aY=>B i hi (ab i aY);have V:=V.lower (bw.lift (S':=[]) A);have A:=A.step d aq;have e:=z;have j:=ba;have I:=bb;refine cu q (aA ?_);have am:=congrArg Prod.fst bm;have az:=congrArg Prod.snd bm;simp only at am az;refine aj (iI (aI ?_));obtain⟨bp,g,S,a8⟩:=V.freeze;have I:=fun ag=>(S _ ag).elim I (HZ (aW V j));have c:=c.sub (fun b H _=>g b H);have aV:=aV.sub (fun b H _=>g b H);have G:=G.kz g S (cW bA);have p:=fun b H=>(S b H).elim (p b) (fun aE=>bw.up Bk b (V.2 b aE).1);have R:=fun b H X=>g b (R b H X);have e:Up cb bp:=fun b H=>g b (e b H);have V:=a8;exact bP (v:=bj) trivial q ⟨q,tV⟩ ⟨_,bI,bW,_,_,_,bp,q,A,⟨R,p,e⟩,V,j,I,bG,c,aV,G,(Prod.ext (by unfold qy;rw[if_pos (by simp_all)];exact am) az)⟩
 have bQ:=aP;refine aL (aj (ns ?_))
 have rn:0<m.rows.length:=Nat.pos_of_ne_zero fun K=>by have h:=yw.2 (List.eq_nil_of_length_eq_zero K);rw[h]at bY;simp_all
 refine an q (aD (ns (sf q py (sl (u:=al) q xU au q (sL q ZW L.di (mv q (nt (aS ?_))))))));obtain⟨aM,bf⟩:∃r,m.rows.flatMap (IX f.v f.ats)=r:=⟨_,q⟩;have bV:=bf;refine alX (fun(x:dw) (ay:Value) (W:Value) (ae:Value) (ad:Value) (o:List Nat) (i:Nat)=>[(5,ad),(16,(.int .i64 i)),(0,(.pointer (some ⟨E,0,none⟩))),(14,al),(15,(.int .i64 m.rows.length))]) (fun(x:dw) (ay:Value) (W:Value) (ae:Value) (ad:Value) (o:List Nat) (i:Nat) O=>∃M:Nat->Prop,(∀b,M b->Q b)/\(∀b,Q b->b<w.heap.size->M b)/\Up O M/\Md (E :: (ah N).toList) w O/\bS O E (dw.cells x ay W ae) 67/\Pt dP 135 O M ay x.v/\Ls cV O M W x.ats/\Ow eK 3 (bw (E :: (ah N).toList) w) O M ae x.good/\dw.ok x/\Ow eK 3 (bw [] w) O M ad o/\Ls (rq jS) O M al m.rows/\¬M E/\(∀x,ah ae=some x->ah ad≠some x)/\(x=f/\i=0\/x=({f with good:=jI f.v f.ats 0 0 [],known:=true}:dw))/\i<=m.rows.length/\o.length<=i*100000/\o ++ (m.rows.drop i).flatMap (IX f.v f.ats)=aM) (fun(x:dw) (ay:Value) (W:Value) (ae:Value) (ad:Value) (o:List Nat) (i:Nat)=>m.rows.length-i) (x0:=f) (x1:=aZ) (x2:=a0) (x3:=N) (x4:=SN) (x5:=([]:List Nat)) (x6:=0) ?_ ?_ ?_
 ·exact Fz
 ·exact⟨Q,p,R,e,A,j,ao,ap,U,bq,(Ow.nil _ _ _ _ _),L,I,(fun x J=>by simp[ah]),(.inl ⟨q,q⟩),Xx,Oy,(by have ag:=bf;exact ag)⟩
 clear A e p R I bc ao ap U j L au;rintro x ay W ae ad o i bH cz ⟨aT,p,R,e,A,j,ak,ai,D,bh,F,L,I,C,y,ci,cj,bn⟩;refine ns (st _ (dN (a:=i) (b:=m.rows.length) q q) (nt (aD ?_)));refine bJ q (fun aQ=>?_) (fun aQ=>?_)
 ·have a4:=dT aQ;refine aL (aj (aD (aS (ns (st _ (bg (i:=i) 1 q q ZW ag8 L.di Xx) ?_)))));obtain⟨cA,aR⟩:=dZ (l:=m.rows) (i:=i) Xx;obtain⟨ct,bZ,aH⟩:=L.get aR;obtain⟨bo,rfl,bU⟩:=bZ;have aH:At _ al (i*1) [bo]:=aH;refine st _ ((bO (kk:=i*1) 0 q q ZA aH q).to (b:=bo) q) (cu q (aA ?_));refine aj (aG ?_);have ca:=b8 _ (List.mem_of_getElem? aR);have aF:x.v=f.v:=(by rcases y with⟨K,_⟩|K<;>rw[K]);have a1:x.ats=f.ats:=(by rcases y with⟨K,_⟩|K<;>rw[K])
  have cc:gst x:=by
   rcases y with⟨K,_⟩|K
   ·rw[K];exact b6
   ·rw[K];exact .inr ⟨q,q⟩
  have x2:x.ats.length<=100000:=(by rw[a1];exact p2);have x3:x.v.b.length<=1000000:=(by rw[aF];exact p3);have x4:16<=x.v.h.n.getD 2 0:=(by rw[aF];exact p4);have x5:16<=x.v.h.n.getD 4 0:=(by rw[aF];exact b7);refine m2 q q (mv q (Rz amT q (afu e x j I bh ak ai (D.eH (fun _ _=>trivial)) bU (by exact cc) (by trivial) (by exact x2) (by exact x3) (by exact x4) (by exact x5) (by exact ca)) ?_));rintro av b2 ⟨a2,aN,a9,bC,bF,aU,cl,rfl,d,⟨Y,ab,z⟩,af,a6,a7,bB,aB,aC,Z,bx,be⟩;have ce:∀x,ah a2=some x->ah ae≠some x:=fun x J aa=>by have aK:=D.lt x aa;have br:=(af.2 x J).1.elim (fun h=>by simp at h) id;omega
  have b5:∀x,ah a2=some x->ah ad≠some x:=fun x J aa=>by have aK:=F.lt x aa;have br:=(af.2 x J).1.elim (fun h=>by simp at h) id;omega
  have aq:∀i∈(E :: (ah ae).toList),bw (E :: (ah N).toList) w i:=(d8 bi (rF D));have B:∀i∈(E :: (ah ae).toList),¬aT i:=(d8 I (rN D));have k:∀b,ah ad=some b->b∉(E :: (ah ae).toList):=fun b H=>(bD (F.eN j Xy b H) ((cW C) b H));have Z:=Z.eH (Sy Z);have P:∀x,ah aU=some x->ah ad≠some x:=fun x J aa=>(Z.2 x J).1.elim (fun h=>k x aa h) (fun h=>by have aK:=F.lt x aa;omega);have Z:=Z.eH (Sz Z aq (bw.new A));have p:=tT p ab;have R:=Sx Y R A.size;have B:=fun i hi aY=>B i hi (ab i aY);have F:=(F.sub Y ab).md d k B;have L:=(L.sub Y).md d B;have af:=af.lower (bw.lift (S':=[]) A);have A:=A.step d aq;have e:=z;have j:=a6;have I:=a7;have am:=congrArg Prod.fst be;have az:=congrArg Prod.snd be;simp only at am az;rw[aF,a1]at am;have bX:a9=({f with good:=jI f.v f.ats 0 0 [],known:=true}:dw):=by rw[<- az,aF,a1];rcases y with⟨K,_⟩|K <;> rw[K]
  have cn:=rH f.v f.ats;have b0:aN.length<=(iQ f.v f.ats).length:=(by rw[<- am];exact ZO _ _ _ _);have co:aN.length<=100000:=(by unfold iQ at b0;omega);obtain⟨bL,g,S,a5⟩:=af.freeze;have I:=fun ag=>(S _ ag).elim I (HZ (aW af j));have F:=F.kz g S (cW b5);have L:=L.sub (fun b H _=>g b H);have aB:=aB.sub (fun b H _=>g b H);have aC:=aC.sub (fun b H _=>g b H);have Z:=Z.kz g S (cW bx);have p:=fun b H=>(S b H).elim (p b) (fun aE=>bw.up Bk b (af.2 b aE).1);have R:=fun b H X=>g b (R b H X);have e:Up b2 bL:=fun b H=>g b (e b H);have af:=a5;refine ez (sz:=1) (by rfl) kP nE q q F af (fun _ h _=>h) e (bw.new A) Xx Xx ?_;intro bd cp bM Y ab z bR d B _ aJ;have b4:∀x,ah bd=some x->ah aU≠some x:=fun x J aa=>(aJ x J).elim (fun h=>(lM P) x h aa) (fun h=>by have aK:=Z.lt x aa;omega);have T:=F;have I:=nQ I ab;have p:=tT p ab;have R:=Sx Y R A.size;have j:=j.md d (aW T j);have L:=(L.sub Y).md d B;have aB:=(aB.sub Y).md d B;have aC:=(aC.sub Y).md d B;have Z:=(Z.sub Y ab).md d (cW (lM P)) B;have e:=e.md d;have A:=A.cT d (fun b H=>bw.wid (T.2 b H).1);have e:=z;clear z Y ab B aJ;refine cu q (aA ?_);refine bE (aj (aG (st _ (rA (a:=i) (b:=1) q q Xx) (mv q (nt ?_)))));refine amd (x0:=a9) (x1:=bC) (x2:=bF) (x3:=aU) (x4:=bd) (x5:=(o ++ aN)) (x6:=(i+1)) Xx ⟨q,(dA q Xx),q,q,q,tV⟩ ⟨bM,p,R,e,A,j,aB,aC,Z,bB,bR,L,I,(lM b4),(.inr bX),Xx,(by rw[List.length_append];omega),(by have ag:=bn;rw[YK aR am,<- List.append_assoc]at ag;exact ag)⟩
 have a4:=dF aQ;refine bT (aX (aX (cJ (aj (nm q ?_)))));have B:∀b∈(ah ad).toList,¬aT b:=fun b H=>(F.2 b (by simpa using H)).2;refine Rz amU q (am6 sortInt F Xx) ?_;rintro av cq ⟨rfl,d,t⟩;have T:=F;have F:=t;have ak:=ak.md d B;have ai:=ai.md d B;have D:=D.md d (cW (lM C)) B;have j:=j.md d (aW T j);have e:=e.md d;have A:=A.cT d (fun b H=>bw.wid (T.2 b H).1);refine nt (nm q ?_);have B:∀b∈(ah ad).toList,¬aT b:=fun b H=>(F.2 b (by simpa using H)).2;refine Rz amV q (NS F) ?_;rintro av b3 ⟨b1,rfl,d,aJ,t⟩;have T:=F;have F:=t;have ak:=ak.md d B;have ai:=ai.md d B;have D:=D.md d (cW (lM C)) B;have j:=j.md d (aW T j);have e:=e.md d;have A:=A.cT d (fun b H=>bw.wid (T.2 b H).1);have C:=fun x J aa=>C x J (aJ x aa);refine ar q ?_;obtain⟨bk,g,S,a3⟩:=F.freeze;have ak:=ak.sub (fun b H _=>g b H);have ai:=ai.sub (fun b H _=>g b H);have D:=D.kz g S (cW (lM C));have I:=fun ag=>(S _ ag).elim I (HZ (aW F j));have p:=fun b H=>(S b H).elim (p b) (fun aE=>bw.up Bk b (F.2 b aE).1);have R:=fun b H X=>g b (R b H X);have e:Up b3 bk:=fun b H=>g b (e b H);have F:=a3;exact bP (v:=b1) trivial q ⟨q,tV⟩ ⟨_,((kD ((oQ o)))),x,_,_,_,bk,q,A,⟨R,p,e⟩,F,j,I,bh,ak,ai,D,(Prod.ext (by unfold qy;rw[if_neg (by simp_all)];have K:=bV.trans (bn.symm.trans (congrArg (fun b9=>o ++ b9) (adu a4)));rw[List.append_nil]at K;rw[K]) (by rcases y with⟨_,K⟩|K;(exfalso;omega);exact K.symm))⟩
theorem akX:cA Zp 12=true:=Xw
theorem fn7:cA Zp 7=true:=Xw
theorem fn9:cA Zp 9=true:=Xw
theorem u24:Zp.underlying 24=some (.pointer 67):=Xw
theorem RQ (g:Up w Q) {v0:Value} {l:List Int} (e:Ls lZ w Q v0 l) (bG:Nat) (h:bG<9223372036854775808) (f:bG<=100000) :
  Calls Zp 9 #[v0,.int .i64 bG] w fun d c=>∃b:Value,∃a:List UInt8,d = .returned b/\Md [] w c/\Ls e6 c Q b a/\mq l bG=a:=VT g e bG f
set_option maxHeartbeats 16000000 in
theorem WK (e:Up w Q)  :
  Calls Zp 6 #[] w fun F a3=>∃ak:Bool,F = .returned (.bool ak)/\Md [] w a3/\true=ak:=by
 have d:=Md.refl [] w;have bb:=e;refine enter (n:=29) Tryz.func6 q q q fun ba=>ns (an q (ns (aR [[(.int .i64 ((1:Nat):Int))],[(.int .i64 ((1:Nat):Int))],[(.int .i64 ((1:Nat):Int))],[(.int .i64 ((1:Nat):Int))],[(.int .i64 ((1:Nat):Int))],[(.int .i64 ((1:Nat):Int))],[(.int .i64 ((1:Nat):Int))],[(.int .i64 ((1:Nat):Int))],[(.int .i64 ((1:Nat):Int))],[(.int .i64 ((1:Nat):Int))]] kP nE Xy Xy q q Fz Fz q Xy ?_)));intro bi bo aJ bl s l;have aO:=e _ aJ;obtain⟨e,d⟩:=k2 s e d;have l:=Ls.cF (m:=10) (R:=Q) (T:=lZ) (xs:=[((1:Nat):Int),((1:Nat):Int),((1:Nat):Int),((1:Nat):Int),((1:Nat):Int),((1:Nat):Int),((1:Nat):Int),((1:Nat):Int),((1:Nat):Int),((1:Nat):Int)]) l ⟨_,_,q,⟨q,Xx⟩,⟨_,_,q,⟨q,Xx⟩,⟨_,_,q,⟨q,Xx⟩,⟨_,_,q,⟨q,Xx⟩,⟨_,_,q,⟨q,Xx⟩,⟨_,_,q,⟨q,Xx⟩,⟨_,_,q,⟨q,Xx⟩,⟨_,_,q,⟨q,Xx⟩,⟨_,_,q,⟨q,Xx⟩,⟨_,_,q,⟨q,Xx⟩,q⟩⟩⟩⟩⟩⟩⟩⟩⟩⟩ q Xy aO;refine Rz fn9 q (RQ e l 1 Xx Xx) ?_;rintro F bp ⟨be,L,rfl,s,aD,aK⟩;obtain⟨e,d⟩:=k2 s e d;obtain⟨J,o,aH,aI,aq⟩:=ahz;have ap:mq uj 1=L:=aK;rw[ap]at o aq;have ab:(kG L).2=0:=(by rw[o]);refine Rz fn7 q (KF e aD (by exact ab) Xx) ?_;rintro F bq ⟨S,a8,a9,ad,D,aG,aP,rfl,s,⟨Z,O,g⟩,K,A,G,aT,c,aS,C,bd,aL⟩;have f:bw [] w S:=bw.new d _ G;have G:=lv d.size G;have C:=C.lower (bw.lift (S':=[]) d);have d:=d.k s;have e:=g;refine mv q (se q q (se q q (cu q (an q (ns ?_)))));have B:kG L=((kG L).1,0):=Prod.ext q ab;obtain⟨y,aU,bc,bt⟩:=KU B;rw[aU]at B;have aV:=wo B (Prod.ext q rfl:_=((r9 (y.h.n.getD 0 0) y.b (y.h.n.getD 8 0) (y.h.n.getD 11 0)).1,(r9 (y.h.n.getD 0 0) y.b (y.h.n.getD 8 0) (y.h.n.getD 11 0)).2));have ag:=aV.symm.trans aL;have r:=congrArg Prod.fst ag;have aX:=congrArg Prod.snd ag;simp only at r aX;have aZ:D.known=false:=(by rw[<- r]);have aY:D.good=[]:=(by rw[<- r]);have bj:D.ats.length<=y.b.length:=(by rw[<- r];exact agE (Prod.ext q rfl:_=((r9 (y.h.n.getD 0 0) y.b (y.h.n.getD 8 0) (y.h.n.getD 11 0)).1,(r9 (y.h.n.getD 0 0) y.b (y.h.n.getD 8 0) (y.h.n.getD 11 0)).2)));have bk:D.v.b.length=y.b.length:=(by rw[<- r]);have a4:J=y:=Option.some.inj (congrArg Prod.fst (o.symm.trans B));subst a4;obtain⟨_,al,am⟩:=Tx B rfl;have I:D.v=J:=(by rw[<- r]);have Y:D.ats=JR J:=(by rw[<- r];rfl);have a0:gst D:=.inl ⟨aZ,aY⟩;have aj:D.v.b.length<=1000000:=Xx;have ai:D.ats.length<=100000:=Xx;have a1:16<=D.v.h.n.getD 2 0:=(by rw[I];exact al);have a2:16<=D.v.h.n.getD 4 0:=(by rw[I];exact am);refine mv q (st _ (iR (a:=aG) (b:=0) q q) (mv q ?_));refine bW (t:=11) q (fun P=>?_) (fun P=>?_)
 ·have aB:=dT P;refine sg P (aM q) (sg P (ahD q u24) (st _ (bf q P q) (mv q (sg q (aM q) (sg q (bN (us:=[]) (cs:=(fM.cells (({rows:=[]}:fM)) SN)) [] z32 WE q q trivial trivial q q) (fK q q q q akX q (LB e D K A aT c aS (C.eH (fun _ _=>trivial)) (({rows:=[]}:fM)) (Ls.nil _ _ _) (by exact a0) (by trivial) (by exact ai) (by exact aj) (by exact a1) (by exact a2) Oy Oy) ?_))))));rintro F br ⟨bg,k,j,a5,a6,a7,bm,rfl,s,⟨Z,O,g⟩,aE,ae,af,aQ,V,W,u,aa⟩;refine rv ?_;have U:∀i∈(S :: (ah ad).toList),bw [] w i:=(d8 f (rF C));have X:∀i∈(S :: (ah ad).toList),¬aP i:=(d8 A (rN C));have u:=u.eH (Sy u);have u:=u.eH (Sz u U (bw.new d));have X:=fun i hi aW=>X i hi (O i aW);have d:=d.step s U;have e:=g;have K:=ae;have A:=af;have ao:=congrArg Prod.fst aa;have E:=congrArg Prod.snd aa;simp only at ao E;have fl:k.length=1:=(by rw[<- ao,qy,if_pos (yw.2 q),I,Y];exact aH);have N:j.v=J:=(by rw[<- E];exact I);have z:j.ats=JR J:=(by rw[<- E];exact Y);have au:j.known=true:=(by rw[<- E]);have av:j.good=iQ j.v j.ats:=(by rw[<- E];rfl);have aw:j.v.b.length<=1000000:=(by rw[N,<- I];exact aj);have aA:j.ats.length<=100000:=(by rw[z,<- Y];exact ai)
  have ay:16<=j.v.h.n.getD 2 0:=(by rw[N];exact al);have az:16<=j.v.h.n.getD 4 0:=(by rw[N];exact am);refine sg q (jx q kP aE.di) (sg q (iR (a:=k.length) (b:=1) q q) (st _ (bf q q q) (mv q ?_)));refine bW (t:=22) q (fun H=>?_) (fun H=>?_)
  ·have aC:=dT H;refine sg H (aM q) (sg H (bN (us:=[[(str (([78,79]:Ly)))],[(str (([49]:Ly)))]]) (cs:=(Pr.cells (({name:=([78,79]:Ly),value:=([49]:Ly)}:Pr)))) [(0,0,1),(1,1,1)] z61 BA q q Fz Fz q q) (fK q q q H al8 q (TF e j K A aQ V W (u.eH (fun _ _=>trivial)) (({name:=([78,79]:Ly),value:=([49]:Ly)}:Pr)) (by exact au) (by exact av) (by exact aA) (by exact aw) (by exact ay) (by exact az) Oy Oy) ?_));rintro F bs ⟨bh,M,rfl,s,aF,aN⟩;refine rv ?_;have d:=d.k s;have bn:M.length=0:=(by rw[<- aN,N,z];exact aI);refine sg H (jx q kP aF.di) (sg H (iR (a:=M.length) (b:=0) q q) (st _ (bf q H q) (ar q ?_)));exact bP (v:=(.bool ((decide (M.length=0))))) trivial q ⟨q,tV⟩ ⟨(decide (M.length=0)),q,d,(by exact(decide_eq_true Xx).symm)⟩
  have aC:=dF H;exfalso;omega
 have aB:=dF P;exfalso;omega
theorem alB:cA Zp 29=true:=Xw
theorem WJ (u:Up w Q) {v0:Value} {l:List Int} (Z:Ls lZ w Q v0 l) :
  Calls Zp 10 #[v0] w fun af J=>∃bt:Value,∃a7:fM,af = .returned (.agg (fM.cells a7 bt).toArray)/\Md [] w J/\Ls (rq jS) J Q bt a7.rows/\(mOk a7):=by
 have cR:=Z.dD;have e:=Md.refl [] w;have br:=u;have B:∀b,Q b->Q b:=fun _ h=>h;have P:∀b,Q b->b<w.heap.size->Q b:=fun _ h _=>h;refine enter (n:=40) Tryz.func10 q q q fun aY=>ns (bF z32 ?_);intro K cU az ce d j;obtain⟨cS,y,g,C,L⟩:=j5 u az ce d;have B:=tT B g;have P:=Sx y P e.size;have az:=lv e.size az;have Z:=(Z.sub y).o d;have e:=e.k d;have u:=L;have bn:bw [] w K:=.inr az;refine nt (nm q (st _ (bN (us:=[[v0]]) (cs:=(Sq.cells (({l:=l,pos:=0}:Sq)) v0)) [(0,0,1)] z43 ah3 q q ⟨(dM Z.bA),tV⟩ ⟨q,tV⟩ q q) (dR (cs:=(Sq.cells (({l:=l,pos:=0}:Sq)) v0)) q q ?_)));intro F cV Bk cf d A;have cm:K≠F:=(by have:=j.lt;omega);obtain⟨cg,y,g,D,L⟩:=j5 u Bk cf d;have C:=nQ C g;have B:=tT B g;have P:=Sx y P e.size;have Bk:=lv e.size Bk;have Z:=(Z.sub y).o d;obtain⟨j,e⟩:=k2 d j e;have u:=L;have aT:bw [] w F:=.inr Bk;refine an q (ns (cu q (nt (aD (aS ?_)))));refine Zj (fun(x:Sq) (aq:Value) (S:Value) (o:List (List UInt8))=>[(4,S),(2,(.pointer (some ⟨K,0,none⟩))),(3,(.pointer (some ⟨F,0,none⟩)))]) (fun(x:Sq) (aq:Value) (S:Value) (o:List (List UInt8)) J=>∃I:Nat->Prop,(∀b,I b->Q b)/\(∀b,Q b->b<w.heap.size->I b)/\Up J I/\Md [] w J/\bS J F (Sq.cells x aq) 43/\Ls lZ J I aq x.l/\Sq.ok x/\Ow ir 9 (bw [] w) J I S o/\bS J K (fM.cells (({rows:=[]}:fM)) SN) 32/\¬I F/\¬I K/\o.length<=15/\(∀s∈o,s.length<=1000000)) (fun(x:Sq) (aq:Value) (S:Value) (o:List (List UInt8))=>14-o.length) (x0:=(({l:=l,pos:=0}:Sq))) (x1:=v0) (x2:=SN) (x3:=([]:List (List UInt8))) ?_ ?_ ?_
 ·exact Fz
 ·exact⟨cg,B,P,u,e,A,Z,(by exact(show(({l:=l,pos:=0}:Sq)).pos<9223372036854775808 from Zq)),(Ow.nil _ _ _ _ _),j,D,C,Oy,Oy⟩
 clear e u B P C D Z j A;rintro x aq S o aY cW ⟨aB,B,P,u,e,A,a8,b6,H,j,D,C,cq,ay⟩;refine aD (nm q (Rz aj4 q (ze u x A D b6 a8) ?_));rintro af bu ⟨cv,aN,bM,rfl,d,a9,bm,ba,r,cx⟩;have aa:∀i∈[F],bw [] w i:=(hI aT);have f:∀i∈[F],¬aB i:=(hI D);have au:∀b,ah S=some b->b∉[F]:=fun b E=>(bD (H.eN A Xy b E) Oy);have Y:K∉[F]:=(bD Xx Oy);have H:=H.md d au f;have j:=j.md d Y;have e:=e.step d aa;have u:=u.md d;have A:=a9;have D:=bm;refine mv q ?_;refine bW (t:=12) q (fun N=>?_) (fun N=>?_)
 ·have bI:=N;refine sg N (aM q) (sg N (jx q iU H.di) (sg N (dN (a:=o.length) (b:=14) q q) (st _ (bf q N q) (nt ?_))));refine bJ q (fun a0=>?_) (fun a0=>?_)
  ·have bL:=dT a0;refine aL (aj (aS (aD (aD ?_))));refine aji (fun(ab:Sq) (c:Value) (a4:Bool)=>[(24,(.bool a4)),(2,(.pointer (some ⟨K,0,none⟩))),(3,(.pointer (some ⟨F,0,none⟩))),(4,S)]) (fun(ab:Sq) (c:Value) (a4:Bool) J=>∃I:Nat->Prop,(∀b,I b->Q b)/\(∀b,Q b->b<w.heap.size->I b)/\Up J I/\Md [] w J/\bS J F (Sq.cells ab c) 43/\Ls lZ J I c ab.l/\Sq.ok ab/\bS J K (fM.cells (({rows:=[]}:fM)) SN) 32/\Ow ir 9 (bw [] w) J I S o/\¬I F/\¬I K) ?_ ?_
   ·clear e u B P D C a8 A H j r;rintro ab c a4 aY cX ⟨bs,B,P,u,e,A,X,bU,j,H,D,C⟩;refine aj ?_;refine ajh (fun(ar:Value) (ak:List (List UInt8))=>[(4,ar),(2,(.pointer (some ⟨K,0,none⟩))),(3,(.pointer (some ⟨F,0,none⟩)))]) (fun(ar:Value) (ak:List (List UInt8)) J=>∃I:Nat->Prop,(∀b,I b->Q b)/\(∀b,Q b->b<w.heap.size->I b)/\Up J I/\Md [] w J/\Ow ir 9 (bw [] w) J I ar ak/\bS J K (fM.cells (({rows:=[]}:fM)) SN) 32/\bS J F (Sq.cells ab c) 43/\Ls lZ J I c ab.l/\¬I K/\¬I F/\(o.length<=ak.length/\ak.length<=14)/\(∀s∈ak,s.length<=1000000)) ?_ ?_
    ·clear e u B P D C X A j H;rintro ar ak aY cz ⟨bj,B,P,u,e,O,j,A,X,C,D,cn,bR⟩;refine aj (aG (m2 q q (Rz alA q (KH u ab A D bU X) ?_)));rintro af cA ⟨bo,bV,bB,rfl,d,bc,be,bx,G,b0⟩;have aa:∀i∈[F],bw [] w i:=(hI aT);have f:∀i∈[F],¬bj i:=(hI D);have bb:∀b,ah ar=some b->b∉[F]:=fun b E=>(bD (O.eN A Xy b E) Oy);have Y:K∉[F]:=(bD Xx Oy);have O:=O.md d bb f;have j:=j.md d Y;have e:=e.step d aa;have u:=u.md d;have A:=bc;have D:=be;have cy:=ah0 b0;refine Rz adz q (oo u bo Xx) ?_;rintro af cB ⟨aw,rfl,d,bq⟩;obtain⟨O,j,A,G,u,e⟩:=k6 d O j A G u e;have bh:=ic bo;rw[bq]at bh;try simp only[LL,Nat.reduceAdd,Nat.reduceMul]at bh
     have cd:aw.length<=1000000:=(by rw[<- bq,ic];omega);refine aR [[(str aw)]] iU gE Xy Xy q q ⟨q,tV⟩ ⟨q,tV⟩ q Xy ?_;intro cp cC bH ct d aF;have b8:=u _ bH;obtain⟨O,j,A,G,u,e⟩:=k6 d O j A G u e;have aF:=Ls.cF (m:=1) (R:=bj) (T:=ir) (xs:=[aw]) aF ⟨_,_,q,⟨q,tV⟩,q⟩ q Xy b8;refine ez (sz:=1) (by rfl) iU gE q q O aF (fun _ h _=>h) u (bw.new e) Zq Zq ?_;intro bX cD b9 y g L b4 d f _ a2;have aO:=O;have C:=nQ C g;have D:=nQ D g;have B:=tT B g;have P:=Sx y P e.size;have j:=j.md d (aW aO j);have A:=A.md d (aW aO A);have G:=(G.sub y).md d f;have u:=u.md d;have e:=e.cT d (Sy aO);have u:=L;clear L y g f a2;refine cu q (aA (bE (aj ?_)));refine xH (x0:=bV) (x1:=bB) (x2:=bX) (x3:=(ak ++ ([aw]))) Ym Fz ⟨b9,B,P,u,e,A,G,bx,b4,j,D,C,Ym,(UO bR cd)⟩
    refine bJ q (fun a1=>?_) (fun a1=>?_)
    ·have bZ:=a1;refine aG (mv q (aR [[(str (([43]:Ly)))]] iU gE Xy Xy q q ⟨q,tV⟩ ⟨q,tV⟩ q Xy ?_));intro cl cE bG cr d aE;have b7:=u _ bG;obtain⟨X,A,j,H,u,e⟩:=k6 d X A j H u e;have aE:=Ls.cF (m:=1) (R:=bs) (T:=ir) (xs:=[([43]:Ly)]) aE ⟨_,_,q,⟨q,tV⟩,q⟩ q Xy b7;refine ez (sz:=1) (by rfl) iU gE q q H aE (fun _ h _=>h) u (bw.new e) Zq Zq ?_;intro C3 cG ca y g L b5 d f _ a2;have aV:=H;have D:=nQ D g;have C:=nQ C g;have B:=tT B g;have P:=Sx y P e.size;have X:=(X.sub y).md d f;have A:=A.md d (aW aV A);have j:=j.md d (aW aV j);have u:=u.md d;have e:=e.cT d (Sy aV);have u:=L;clear L y g f a2;refine cu q (aA ?_);exact⟨q,Y6 C3 (o ++ ([([43]:Ly)])) Fz ⟨ca,B,P,u,e,b5,j,A,X,C,D,⟨by simp,by simp;omega⟩,(UO ay Xy)⟩⟩
    have bZ:=a1;refine aL ?_;exact⟨q,Y6 S o Fz ⟨bs,B,P,u,e,H,j,A,X,C,D,⟨Nat.le_refl _,by omega⟩,ay⟩⟩
   refine aG (mv q (sL q iU H.di (st _ (kI (a:=o.length) (b:=0) q q) (mv q ?_))));refine bW (t:=20) q (fun k=>?_) (fun k=>?_)
   ·have bY:=dT k;refine sg k (aM q) (fK q q q k xe q (mS u aN A D ba r 3 Xx Xx) ?_);rintro af cH ⟨bp,Bx,bC,rfl,d,co,bd,bg,bz,bv,b1⟩;refine rv ?_;have aa:∀i∈[F],bw [] w i:=(hI aT);have f:∀i∈[F],¬aB i:=(hI D);have au:∀b,ah S=some b->b∉[F]:=fun b E=>(bD (H.eN A Xy b E) Oy);have Y:K∉[F]:=(bD Xx Oy);have H:=H.md d au f;have j:=j.md d Y;have e:=e.step d aa;have u:=u.md d;have A:=bd;have D:=bg;have bi:=Sq.j7 aN 3;rw[b1]at bi;try simp only[LL,Nat.reduceAdd,Nat.reduceMul]at bi
    refine sg k (iR (a:=bp) (b:=0) q q) (st _ (bf q k q) (aA ?_));exact⟨q,Y7 Bx bC ((decide (bp=0))) Fz ⟨aB,B,P,u,e,A,bv,bz,j,H,D,C⟩⟩
   have bY:=dF k;refine sk k (sk k (sk k (st _ (aZ q k q) (aA ?_))));exact⟨q,Y7 aN bM false Fz ⟨aB,B,P,u,e,A,r,ba,j,H,D,C⟩⟩
  have bL:=dF a0;refine bT (aX (aX (cJ (aj (nm q ?_)))));obtain⟨cb,av,ag,ap⟩:=H.freeze;have C:=fun a5=>(ag _ a5).elim C (HZ (aW H j));have B:=fun b E=>(ag b E).elim (B b) (fun a6=>bw.up br b (H.2 b a6).1);have u:Up bu cb:=fun b E=>av b (u b E);have H:=ap;refine Rz alB q (GV u H Xh) ?_;rintro af cI ⟨V,am,cj,rfl,d,ad,ch,b2⟩;obtain⟨A,j,u,e⟩:=k4 d A j u e;refine mv q (se q q (se q q (bF z32 ?_)));intro z cK U a3 d p;have bQ:F≠z:=(by have:=A.lt;omega);have bO:K≠z:=(by have:=j.lt;omega);obtain⟨bk,y,g,aP,L⟩:=j5 u U a3 d;have C:=nQ C g;have B:=tT B g;have U:=lv e.size U;have j:=j.o d;have ad:=(ad.sub y).o d;have e:=e.k d;have u:=L;have aQ:bw [] w z:=.inr U;refine aK (us:=(fM.cells am V)) q q (by exact j9) (by exact fun al ai=>aU (fM.one ad.bA) al ai) p (lB q) ?_;have aH:=p;intro cL d p;have f:∀b∈[z],¬bk b:=(hI aP)
  have j:=j.md d Zz;have ad:=ad.md d f;have e:=e.step d (hI aQ);refine an q (ns (st _ (bK (fM.cells am V) q (by exact j9) p q) (aK (us:=(fM.cells am V)) q q (by exact j9) (by exact fun al ai=>aU (fM.one ad.bA) al ai) j (lB q) ?_)));have aI:=ad;have aC:=j;intro cM d j;have f:∀b∈[K],¬bk b:=(hI C);have aI:=aI.md d f;have e:=e.step d (hI bn);refine nt (iI ?_);exact bP (v:=(.agg (fM.cells am V).toArray)) trivial q ⟨⟨_,q,cw (cs:=(fM.cells am V)) (by exact j9) j⟩,tV⟩ ⟨_,am,q,e,(aI.sub (fun b E _=>B b E)),(ZM ay b2)⟩
 have bI:=N;refine sk N (sk N (sk N (st _ (aZ q N q) (nt (ij q q (bT (aX (aX (cJ (aj (nm q ?_)))))))))));obtain⟨cc,av,ag,ap⟩:=H.freeze;have C:=fun a5=>(ag _ a5).elim C (HZ (aW H j));have B:=fun b E=>(ag b E).elim (B b) (fun a6=>bw.up br b (H.2 b a6).1);have u:Up bu cc:=fun b E=>av b (u b E);have H:=ap;refine Rz alB q (GV u H Xh) ?_;rintro af cN ⟨W,ao,ck,rfl,d,ae,ci,b3⟩;obtain⟨A,j,u,e⟩:=k4 d A j u e;refine mv q (se q q (se q q (bF z32 ?_)));intro z cO U a3 d p;have bQ:F≠z:=(by have:=A.lt;omega);have bO:K≠z:=(by have:=j.lt;omega);obtain⟨bl,y,g,aP,L⟩:=j5 u U a3 d;have C:=nQ C g;have B:=tT B g;have U:=lv e.size U;have j:=j.o d;have ae:=(ae.sub y).o d;have e:=e.k d;have u:=L;have aQ:bw [] w z:=.inr U;refine aK (us:=(fM.cells ao W)) q q (by exact j9) (by exact fun al ai=>aU (fM.one ae.bA) al ai) p (lB q) ?_
 have aH:=p;intro cP d p;have f:∀b∈[z],¬bl b:=(hI aP);have j:=j.md d Zz;have ae:=ae.md d f;have e:=e.step d (hI aQ);refine an q (ns (st _ (bK (fM.cells ao W) q (by exact j9) p q) (aK (us:=(fM.cells ao W)) q q (by exact j9) (by exact fun al ai=>aU (fM.one ae.bA) al ai) j (lB q) ?_)));have aJ:=ae;have aC:=j;intro cQ d j;have f:∀b∈[K],¬bl b:=(hI C);have aJ:=aJ.md d f;have e:=e.step d (hI bn);refine nt (iI ?_);exact bP (v:=(.agg (fM.cells ao W).toArray)) trivial q ⟨⟨_,q,cw (cs:=(fM.cells ao W)) (by exact j9) j⟩,tV⟩ ⟨_,ao,q,e,(aJ.sub (fun b E _=>B b E)),(ZM ay b3)⟩
theorem amJ:gy Zp 51 20=true:=Xw
theorem amL:cA Zp 10=true:=Xw
theorem amM:cA Zp 15=true:=Xw
theorem amN:cA Zp 16=true:=Xw
theorem fn6:cA Zp 6=true:=Xw
end Go.Proofs.YtlleafgaeeneoaaGreat
namespace Go.Wk
open Go Go.RowKit
theorem BK {b o:Ly} {p:Nat} (h:p+4<=b.length):at4 (b ++ o) p=at4 b p:=by show AZ (seg (b ++ o) p 4)=AZ (seg b p 4);rw[CG h]
theorem KW {b o:Ly} (h:272<=b.length):fR (b ++ o)=fR b:=by
  have A:(b ++ o).getD 16 0=b.getD 16 0:=by simp only[List.getD_eq_getElem?_getD];rw[List.getElem?_append_left Xx]
  have s:∀p,p+16<=272->((b ++ o).drop p).take 16=(b.drop p).take 16:=fun p D=>CG (b:=b) (o:=o) (p:=p) (n:=16) Xx;have B:((List.range 21).map fun q=>if q<21 then dS (b ++ o) (88+8*q)else 0)=(List.range 21).map fun q=>if q<21 then dS b (88+8*q)else 0:=List.map_congr_left fun q C=>by rw[qu (by have:=List.mem_range.1 C;omega)]
  simp only[fR,jJ];rw[BK Xx,BK Xx,BK Xx,BK Xx,qu Xx,A,s 24 Xx,s 40 Xx,s 56 Xx,s 72 Xx,B]
section
variable {m:Mk} {B:Ly} {H:bI} {l:List Ob} {es:List ej} {rs:List Rec}
theorem afi (a:MK m B H l es):(pJ H).1=B.length:=by obtain⟨C,_⟩:=HA (e:=(pJ H).1) (s:=(pJ H).2) a.read q;have h:=a.opn;unfold kG at h;rw[a.read]at h;simp only[ne_eq,not_true_eq_false,if_false,Prod.mk.injEq,Option.some.injEq,and_true]at h;have c:=congrArg (fun v:dx=>v.b.length) h;simp only[List.length_take]at c;omega
end
section
variable {X:Ly} {e p n:Nat} {f:jR}
theorem OW (h:p+n<=e):seg (X.take e) p n=seg X p n:=by unfold seg;rw[List.drop_take,List.take_take,Nat.min_eq_left Xx]
theorem nN (h:p+8<=e):dS (X.take e) p=dS X p:=by rw[iZ,iZ,OW h]
theorem DI (h:p<e):jX (X.take e) p=jX X p:=by unfold jX;simp only[List.getD_eq_getElem?_getD,List.getElem?_take,if_pos h]
theorem yT (c:e<=X.length) (h:dr X p=(f,0)) (d:p+f.size<=e):dr (X.take e) p=(f,0):=by
  have C:=pL h;have a:(X.take e).length=e:=by rw[List.length_take];omega
  unfold dr at h ⊢;rw[a,DI Xx,DI Xx,nN Xx]
  by_cases h1:p%8≠0
  · rw[if_pos h1]at h;have:=congrArg Prod.snd h;simp at this
  rw[if_neg h1]at h ⊢
  by_cases h2:X.length<p\/X.length-p<16
  · rw[if_pos h2]at h;have:=congrArg Prod.snd h;simp at this
  rw[if_neg h2]at h;rw[if_neg Xx]
  by_cases h3:jX X p<1\/7<jX X p
  · rw[if_pos h3]at h;have:=congrArg Prod.snd h;simp at this
  rw[if_neg h3]at h ⊢
  by_cases h4:jX X (p+1)≠0
  · rw[if_pos h4]at h;have:=congrArg Prod.snd h;simp at this
  rw[if_neg h4]at h ⊢
  by_cases h5:dS X (p+8)<16
  · rw[if_pos h5]at h;have:=congrArg Prod.snd h;simp at this
  rw[if_neg h5]at h ⊢
  by_cases h6:X.length-p<dS X (p+8)
  · rw[if_pos h6]at h;have:=congrArg Prod.snd h;simp at this
  rw[if_neg h6]at h;have b:=congrArg (fun q:jR × Nat=>q.1.size) h;simp only at b;rw[if_neg Xx];exact h
theorem YA {s:Nat} (b:e<=X.length) (h:dr X p=(f,0)) (c:p+f.size<=e):eU s (X.take e) p=eU s X p:=by
  have d:=pL h;have a:(X.take e).length=e:=by rw[List.length_take];omega
  unfold eU;rw[a]
  by_cases h1:p<s
  · rw[if_pos (.inl h1),if_pos (.inl h1)]
  rw[if_neg Xx,if_neg Xx];unfold l9;rw[yT b h c,h];simp only
  by_cases h2:f.size<=64
  · rw[if_pos h2,if_pos h2]
  rw[if_neg h2,if_neg h2,nN Xx,nN Xx,nN Xx,nN Xx,nN Xx,nN Xx,
    show((X.take e).drop (p+64)).take (f.size-64)=(X.drop (p+64)).take (f.size-64)from OW Xx]
theorem Ye {s:Nat} (c:e<=X.length) (h:dr X p=(f,0)) (d:p+f.size<=e):gw s (X.take e) p=gw s X p:=by
  have C:=pL h;have b:(X.take e).length=e:=by rw[List.length_take];omega
  unfold gw;rw[b]
  by_cases h1:p<s
  · rw[if_pos (.inl h1),if_pos (.inl h1)]
  rw[if_neg Xx,if_neg Xx];unfold jP;rw[yT c h d,h];simp only
  by_cases h2:f.size<=24\/(f.size-24)%8≠0
  · rw[if_pos h2,if_pos h2]
  rw[if_neg h2,if_neg h2,nN Xx];have:fJ (X.take e) (p+24) ((f.size-24)/8)=fJ X (p+24) ((f.size-24)/8):=by unfold fJ;exact List.map_congr_left fun i a=>by have:=List.mem_range.1 a;exact nN Xx
  rw[this]
theorem agC {s:Nat} (b:e<=X.length) (h:dr X p=(f,0)) (c:p+f.size<=e):iP s (X.take e) p=iP s X p:=by
  have d:=pL h;have a:(X.take e).length=e:=by rw[List.length_take];omega
  unfold iP;rw[a]
  by_cases h1:p<s
  · rw[if_pos (.inl h1),if_pos (.inl h1)]
  rw[if_neg Xx,if_neg Xx];have:jA (X.take e) p 3 48 16=jA X p 3 48 16:=by unfold jA;rw[yT b h c,h];simp only;rw[List.take_take,Nat.min_eq_left Xx]
  unfold mZ;rw[this]
theorem LK {k:Bool} {g:Ly} {s:Nat} {Y:Ly}:∀(l:List mh) (fs:List Pr) (all:List (List UInt8)),(∀x∈l,iY k g s Y x.pos=iY k g s X x.pos)->jV k g s Y l fs all=jV k g s X l fs all
  | [],_,_,_=>rfl
  | x :: r,fs,all,h=>by unfold jV;rw[h x Oy,LK r _ _ fun y a=>h y (by simp[a])]
theorem ahH {k:Bool} {g:Ly} {s:Nat} {Y:Ly} (h1:iP s Y p=iP s X p) (a:∀x∈(iP s X p).1.aH,iY k g s Y x.pos=iY k g s X x.pos):mD k g s Y p=mD k g s X p:=by unfold mD;rw[h1,LK _ _ _ a]
theorem ah2 {k:Bool} {g:Ly} {s:Nat} (a:e<=X.length) (h:dr X p=(f,0)) (b:p+f.size<=e):iY k g s (X.take e) p=iY k g s X p:=by unfold iY;rw[YA a h b]
end
theorem QM {b:Ly} {big:List Nat} {n:Nat} (d:n<=big.length):∀(r c:Nat) (out:List Nat),out.length=c->lD b n (pX big c r) out=lD b n (pX (big.take n) c r) out
  | 0,_,_,_=>rfl
  | r+1,c,out,hc=>by
    rw[pY,pY];unfold lD
    by_cases h:n<=out.length
    · rw[if_pos h,if_pos h]
    · have a:(big.take n).getD c 0=big.getD c 0:=by
        simp only[List.getD_eq_getElem?_getD,List.getElem?_take];rw[if_pos Xx]
      rw[a,if_neg h,if_neg h];split
      · rfl
      · split
        · rfl
        · exact QM d r (c+1) _ (by simp[hc])
theorem DY {b:Ly} {av big:List Nat} {K n:Nat} (i:n<=big.length) (hi:ru b (big.take n))
    (hA:∀k a:Nat,k<K->av[k]? = some a->gw 272 b a=({next:=av.getD (k+1) 0,aH:=pX big (kU k) (dn (k:Int))},0)/\a≠0/\a<b.length)
    (yD:∀k a c:Nat,av[k]? = some a->av[k+1]? = some c->a<c) (hK:K<=av.length) (hc:n<=kU K):∀(d k ahead:Nat),k+d=K->(k=0->ahead=0)->(∀f,k=f+1->av[f]? = some ahead) ->
    qV 272 b n (av.getD k 0) ahead ((big.take n).take (min n (kU k)))=(big.take n,0)
  | d,k,ahead,hd,h0,h1=>by
    have h:(big.take n).length=n:=(by rw[List.length_take];omega);have l:((big.take n).take (min n (kU k))).length=min n (kU k):=(by rw[List.length_take,h];omega);rw[qV,l]
    by_cases hm:n<=kU k
    · rw[Nat.min_eq_left hm,if_pos (Nat.le_refl _),List.take_of_length_le Xx]
    · rw[Nat.min_eq_right Xx,if_neg Xx]
      match d with
      | 0 =>
        have:k=K:=(by omega);subst this;omega
      | d+1 =>
        obtain⟨a,e⟩:∃a,av[k]? = some a:=⟨_,List.getElem?_eq_getElem Xx⟩;obtain⟨C,m,G⟩:=hA k a Xx e;have H:ahead<a:=by
          by_cases hk0:k=0
          · have:=h0 hk0;omega
          · have:=h1 (k-1) Xx
            exact yD (k-1) ahead a this (by rw[show k-1+1=k by omega];exact e)
        rw[getD_some e,if_neg Xx,if_neg Xx,C];simp only;have D:((big.take n).take (kU k)).length=kU k:=(by rw[List.length_take,h];omega);have j:n<=(big.take n).length\/kU k+dn (k:Int)<=(big.take n).length:=.inl Xx;have g:=QM (b:=b) i (dn (k:Int)) (kU k) _ D;rw[JP hi _ _ Xx Xx,if_pos j]at g;rw[if_neg Oy,g];simp only;rw[if_neg Oy,show kU k+dn (k:Int)=kU (k+1)from rfl];exact DY i hi hA yD hK hc d (k+1) a Xx Xx (fun f o=>by rw[show f=k by omega];exact e)
theorem NE {v:dx} {at_:List Nat} {rs:List Rec} (k:at_.length=rs.length) (h:∀(i p:Nat) (r:Rec),at_[i]? = some p->rs[i]? = some r->∃y,HB v p=(y,0)/\yu y r=true/\y.seq=r.seq) (rise:rs.Pairwise fun g b=>g.seq<b.seq):∀(n i last:Nat),i+n=at_.length->(∀r,rs[i]? = some r->last<r.seq)->jI v (at_.drop i) i last (List.range i)=List.range at_.length
  | 0,i,last,hi,_=>by rw[yV Xx,show i=at_.length by omega]
  | n+1,i,last,hi,hl=>by obtain⟨p,e⟩:∃p,at_[i]? = some p:=⟨_,List.getElem?_eq_getElem Xx⟩;obtain⟨r,a⟩:∃r,rs[i]? = some r:=⟨_,List.getElem?_eq_getElem Xx⟩;obtain⟨y,l,_,f⟩:=h i p r e a;rw[yW e l q (by rw[f];exact hl r a),<- List.range_succ];refine NE k h rise n (i+1) y.seq Xx fun m j=>?_;have c:=(List.getElem?_eq_some_iff.1 a);have d:=(List.getElem?_eq_some_iff.1 j);have:=List.pairwise_iff_getElem.1 rise i (i+1) c.1 d.1 Xx;rw[c.2,d.2]at this;rw[f];exact this
theorem WC {b c:Ly} (hb:272<=b.length) (a:272<=c.length) (h:c.take 272=b.take 272):fR c=fR b:=by rw[<- List.take_append_drop 272 b,<- List.take_append_drop 272 c,h,KW Ym,KW Ym]
theorem ab8 {b c:Ly} {h:bI} (a:jE b=(h,0)) (o:b.length<=c.length) (g:c.take 272=b.take 272):jE c=(h,0):=by
  obtain⟨C,k,G⟩:=pE a;have d:qI b vQ=true:=by
    cases hh:qI b vQ with
    | true=>rfl
    | false=>rw[GY Xx hh]at a;have:=congrArg Prod.snd a;simp at this
  have i:qI c vQ=true:=by
    have f:vQ.length=8:=rfl;unfold qI at d ⊢;rw[f,if_pos Xx]at d;have j:c.take 8=b.take 8:=by
      have:=congrArg (List.take 8) g
      rwa [List.take_take,List.take_take]at this
    rw[f,if_pos Xx,j];exact d
  have H:pJ h=((pJ h).1,(pJ h).2):=rfl;obtain⟨n,e⟩:=HA a H;have D:oD h c.length=0:=by have l:¬((pJ h).2=false\/c.length<(pJ h).1):=(by rw[e];simp;omega);have m:¬((pJ h).2=false\/b.length<(pJ h).1):=(by rw[e];simp;omega);rw[<- G];simp only[oD,if_neg l,if_neg m]
  unfold jE;rw[if_neg Xx,if_neg (by rw[i];simp),WC C Xx g,k,if_neg (by rw[D];simp)]
structure Eld (m m':Mk) (l l':List Ob) (es es':List ej) (rs:List Rec) (X:Ly) (H:bI):Prop where
  opn:kG X=(some {b:=X.take m.b.length,h:=H},0)
  len:X.length=m'.b.length
  kQ:Eff (fun a=>a+8<=272) m'.b X
  n:∀i,i<20->i≠1->H.n.getD i 0=m.bR i
  key:H.bM=if m.c.cB then 4 else 0
  bZ:H.bZ=m.c.bZ
  img:es≠[]->kT {m' with b:=X} l' es' (es'.map ej.pos) (places es')
  amK:r9 (H.n.getD 0 0) (X.take m.b.length) (H.n.getD 8 0) (H.n.getD 11 0)=(es.map ej.pos,0)
  amz:∀(i p:Nat) (r:Rec),(es.map ej.pos)[i]? = some p->rs[i]? = some r->∃y,HB {b:=X.take m.b.length,h:=H} p=(y,0)/\yu y r=true/\y.seq=r.seq
section
variable {m m':Mk} {l l':List Ob} {es es':List ej} {rs rs':List Rec}
theorem ada (d:nV m l es rs) (j:nV m' l' es' rs') (on:sw m m' l l' es es' rs rs') (aR:e5.ok m.h) (ap:e5.ok m'.h):∃H,Eld m m' l l' es es' rs ((kM m 1).take 272 ++ (kM m' 1).drop 272) H:=by
  have C:=opened d aR (st:=1) Xy;have aY:=opened j ap (st:=1) Xy;generalize kM m 1=E at *;generalize hNn:kM m' 1=N at *;generalize fR E=H at *;have a4:=on.len;have ae:=C.len;have a6:=aY.len;have sm:=d.ok.small;have a7:=j.ok.small;obtain⟨a3,_,_⟩:=pE C.read;have aW:=d.len;generalize hX:E.take 272 ++ N.drop 272=X;have G:(E.take 272).length=272:=by rw[List.length_take];omega
  have I:X.length=m'.b.length:=by rw[<- hX,List.length_append,G,List.length_drop];omega
  have aw:X.take 272=E.take 272:=by rw[<- hX];exact List.take_left' G
  have aq:=ab8 C.read (c:=X) Xx aw;have ao:kG X=(some {b:=X.take m.b.length,h:=H},0):=by unfold kG;rw[aq];simp only[ne_eq,not_true_eq_false,if_false];rw[afi C,ae]
  have J:E.length<=X.length:=by omega
  have ab:(X.take E.length).length=E.length:=by rw[List.length_take];omega
  have af:H.n.getD 0 0=272:=anE d C;have ag:H.n.getD 8 0=es.length:=(C.n 8 Xy Xy).trans d.img.n8;have T:H.n.getD 11 0=m.main.getD 0 0:=(C.n 11 Xy Xy).trans d.img.n11
  -- the whole bytes are those of the younger oO,but for the head
  have D:Eff (fun s=>s+8<=272) m'.b X:=by
    obtain⟨_,_,ah⟩:=zZ j ap (st:=1) Xy;rw[hNn]at ah;refine⟨by rw[I];exact Nat.le_refl _,fun q n aS ar=>?_⟩
    by_cases hn:n=0
    · subst hn;simp[seg]
    · have a5:272<=q:=by
        by_cases h1:272<=q
        · exact h1
        · exfalso
          have:=ar (min q 264) Xx;omega
      rw[<- ah.2 q n aS ar,<- hX,iy Xx,G];unfold seg;rw[List.drop_drop,show 272+(q-272)=q by omega]
  by_cases hes:es=[]
  · subst hes
    have aF:rs=[]:=List.eq_nil_of_length_eq_zero (by rw[<- aW];rfl);subst aF;exact⟨H,ao,I,D,C.n,C.key,C.bZ,fun h=>absurd rfl h,by rw[ag,List.length_nil];exact agD,fun i p r h _=>by simp at h⟩
  obtain⟨t,S,_⟩:=on.es;obtain⟨a9,aG⟩:=on.rs;obtain⟨ba,P⟩:=on.main;have A:=d.img.c.main.hi;rw[List.length_map]at A;have aA:m.main≠[]:=by intro h;rw[h]at A;simp only[List.length_nil,kU]at A;exact hes (List.eq_nil_of_length_eq_zero Xx)
  have U:m'.main.getD 0 0=m.main.getD 0 0:=by
    rw[P];cases hm:m.main with
    | nil=>exact absurd hm aA
    | cons s r=>rfl
  have aT:dS X 176=m'.main.getD 0 0:=by have aB:fR X=H:=(pE aq).2.1;have:=OD (b:=X) (i:=11) Xy;rw[aB,T]at this;rw[U];exact this.symm
  have e:=j.img.c.bytes (B:=X) I D aT;have aj:=e.eD.ea;have Z:=d.img.c.eD.ea;have y:∀o∈l',o.pos+o.size<=E.length->dr X o.pos=({kind:=o.kind,flags:=0,size:=o.size},0):=fun o M hb=>by have:=aj.mem M;exact tJ this Xy (by show o.pos+o.size<=X.length;omega)
  have V:∀o∈l,o.pos+o.size<=E.length:=fun o M=>by have:=(Z.mem M).le;have:=dI o.size;omega
  have au:(es'.map ej.pos).take es.length=es.map ej.pos:=by rw[S,List.map_append];exact List.take_left' Oy
  have az:es.length<=(es'.map ej.pos).length:=by rw[List.length_map,S,List.length_append];omega
  refine⟨H,ao,I,D,C.n,C.key,C.bZ,fun _=>e,?_,fun i p r Q aD=>?_⟩
  all_goals rw[<- ae]
  · rw[af,ag,T,<- U]
    have ay:ru (X.take E.length) ((es'.map ej.pos).take es.length):=(by obtain⟨aK,aL⟩:=EA d.img.c;rw[au];exact⟨fun x R=>by have:=aK x R;rw[ab];omega,aL⟩);have:=DY (b:=X.take E.length) (av:=m'.main) (big:=es'.map ej.pos) (K:=m.main.length) (n:=es.length) az ay (fun k s hk f=>?_) e.main.yD (by rw[P,List.length_append];omega) A m.main.length 0 0 Xx (fun _=>rfl) (fun a an=>by omega)
    · rw[au]at this
      simp only[kU,Nat.min_zero,List.take_zero]at this;exact this
    have aN:m.main[k]? = some s:=(by rw[P,List.getElem?_append_left hk]at f;exact f);have a2:=d.img.c.main.le Z aN;have aM:=acB e.main aj f;have aQ:=y _ (e.main.ob k s f) Zx;rw[Ye J aQ Zx];exact⟨aM,by omega,by rw[ab];omega⟩
  rw[List.getElem?_map]at Q;cases W:es[i]? with
  | none=>rw[W]at Q;cases Q
  | some g =>
    rw[W]at Q;simp only[Option.map_some,Option.some.injEq]at Q;subst Q;have aa:=List.mem_of_getElem? W;have ax:=(List.getElem?_eq_some_iff.1 W).1;have am:es'[i]? = some g:=(by rw[S,List.getElem?_append_left ax];exact W);have aE:rs'[i]? = some r:=(by rw[aG,List.getElem?_append_left Xx];exact aD);have u:=List.mem_of_getElem? am;have w:wM {m' with b:=X} g:=(j.img.who g u).bytes rfl rfl;have a1:=d.img.who g aa;have a0:PO {m' with b:=X} g r:=(j.rcd i g r am aE).ext (m':={m' with b:=X}) (j.img.who g u) (oV.refl _);obtain⟨fs,aU,aV⟩:=ako e j.img.txt w u (by show X.length<_;omega) a0;have aO:=adk e w u (by show X.length<_;omega);have Y:=V _ (d.img.c.ent g aa).ob;have z:=y _ (e.ent g u).ob Y;refine⟨{seq:=r.seq,bH:=r.bH,mono:=r.mono,bC:=r.bC,ak:=fs},?_,Xo rfl rfl rfl rfl fun q=>aV.mem_iff,rfl⟩;show mD (decide (H.bM &&& 4≠0)) H.bZ (H.n.getD 0 0) (X.take E.length) g.pos=_;rw[adX C.key,C.bZ,af,<- on.c];rw[ahH (X:=X) (agC J z Y) fun x R=>?_]
    · exact aU
    · have aP:iP 272 X g.pos=(g.ent,0):=aO
      rw[aP]at R;simp only at R;rw[w.aH]at R;obtain⟨a,an,rfl⟩:=List.mem_map.1 R;have F:=a1.lt a an;obtain⟨aI,aJ,_⟩:=on.ext.at F;have L:m.ai[a]? = some m.ai[a]:=List.getElem?_eq_getElem F;have O:m'.ai[a]? = some m'.ai[a]:=List.getElem?_eq_getElem aI;have aZ:=(j8 L).2;have p2:=(j8 O).2;have ob:=V _ (d.img.c.eD.data _ (List.mem_of_getElem? L)).ob;have aX:=(e.eD.data _ (List.mem_of_getElem? O)).ob;obtain⟨_,a8,_⟩:=(on.ext.at F);have ad:iO m'.ai a=iO m.ai a:=(on.ext.at F).2.2;rw[(j8 O).1,(j8 L).1]at ad;have aC:(m'.ai[a]).pos=(m.ai[a]).pos:=(by rw[<- p2,<- aZ];exact aJ);have al:(m'.ai[a]).pos+(64+(m'.ai[a]).bQ.length)<=E.length:=(by rw[aC,ad];exact ob);have v:=y _ aX al;simp only;show iY _ _ _ _ (gD m'.ai a)=iY _ _ _ _ (gD m'.ai a);rw[p2];exact ah2 J v al
end
def XY (m:Mk) (l:List Ob) (es:List ej) (rs:List Rec) (mm:Mk):Prop:=∃l' es' rs',nV mm l' es' rs'/\sw m mm l l' es es' rs rs'
theorem ajo {m b i:Mk} {l:List Ob} {es:List ej} {rs:List Rec} {s p:Sq} {r:Rec} {e c:Nat} (h:XY m l es rs b) (o:s.record ((b.bR 9+1)%18446744073709551616)=(r,p)) (g:b.append r.ak r.bH r.mono r.bC=(e,c,i)):XY m l es rs i:=by
 obtain⟨k,j,D,d,f⟩:=h;have a:=wG s ((b.bR 9+1)%18446744073709551616);rw[o]at a;have hk:=(rI b r.ak r.bH r.mono r.bC).2;rw[g]at hk
 by_cases hc:c=0
 ·subst hc;obtain⟨n,C,G,H⟩:=Pw d a.1 a.2.1 a.2.2.1 a.2.2.2 g;exact⟨n,C,_,G,f.trans H⟩
 have:=hk hc;simp only at this;subst this;exact⟨k,j,D,d,f⟩
structure XW (nx cd:Nat->Nat) (len:Nat) (L:List Nat):Prop where
  yD:L.Pairwise (· < ·)
  ok:∀p∈L,p≠0/\(p<len->cd p=0)
  nx:∀j p:Nat,L[j]? = some p->p<len->nx p=L.getD (j+1) 0
theorem ai2 {nx f:Nat->Nat} {is:Nat->Bool} {len:Nat} {L:List Nat} (h:XW nx f len L):∀(d j a:Nat),L.length-j=d->(∀p,L[j]? = some p->a<p)->HY nx f is len (L.getD j 0) a=(((L.drop j).find? fun p=>decide (p<len) && is p).getD 0,0)
  | 0,j,a,hd,_=>by rw[JX Xx,VD (.inl rfl),List.drop_of_length_le Xx];rfl
  | d+1,j,a,hd,ha=>by
    obtain⟨p,c⟩:∃p,L[j]? = some p:=⟨_,List.getElem?_eq_getElem Xx⟩;have g:L.getD j 0=p:=(by rw[List.getD_eq_getElem?_getD,c];rfl);have G:=ha p c;obtain⟨m,C⟩:=h.ok p (List.mem_of_getElem? c);obtain⟨D,k⟩:=List.getElem?_eq_some_iff.1 c
    by_cases o2:p<len
    · rw[g,List.drop_eq_getElem_cons D,k,List.find?_cons,decide_eq_true o2,Bool.true_and]
      by_cases b:is p=true
      · rw[adm Xx Xx (C o2) b,b];rfl
      · have l:is p=false:=by simpa using b
        rw[ai1 Xx Xx (C o2) b (h.nx j p c o2),l];exact ai2 h d (j+1) p Xx fun q e=>CZ h.yD c e Xx
    · have H:(L.drop j).find? (fun p=>decide (p<len) && is p)=none:=by
        rw[List.find?_eq_none];intro q e;obtain⟨i,b⟩:=List.mem_iff_getElem?.1 e;rw[List.getElem?_drop]at b;have:p<=q:=by
          by_cases hi0:i=0
          · subst hi0;rw[Nat.add_zero,c]at b;cases b;exact Nat.le_refl _
          · exact Nat.le_of_lt (CZ h.yD c b Xx)
        simp;omega
      rw[g,VD (.inr Xx),H];rfl
theorem aew {b X:Ly} {ps:List Nat} {n:Nat} (h:ru X ps) (d:n<=ps.length) (lo:∀i,i<n->ps.getD i 0<b.length) (hi:∀i,n<=i->i<ps.length->b.length<=ps.getD i 0):∀(r c:Nat),c<=n ->
    vB b ps.length (pX ps c r) (ps.take c)=if n<c+r then(ps.take n,0,true)else(ps.take (c+r),0,false)
  | 0,c,hc=>by show(ps.take c,0,false)=_;rw[Nat.add_zero,if_neg Xx]
  | r+1,c,hc=>by
    have a:(ps.take c).length=c:=(by rw[List.length_take];omega);rw[pY,vB,a]
    by_cases h1:ps.length<=c
    · rw[if_pos h1,if_pos Xx,show c=n by omega]
    · rw[if_neg h1]
      by_cases h2:c<n
      · have e:=h.get (i:=c) Xx
        have:=lo c h2;rw[if_neg Xx,YX h Xx,if_neg Oy,HN Xx,aew h d lo hi r (c+1) Xx,show c+1+r=c+(r+1)by omega]
      · have:=hi c Xx Xx
        rw[if_pos (.inr this),if_pos Xx,show c=n by omega]
theorem aey {X Y:Ly} {l:List Ob} {src n:Nat} {av ps:List Nat} (h:Chain X l src av (ps.drop 1)) (hi:ru X ps) (f:n<=ps.length) (o:1<=n) (lo:∀i,i<n->ps.getD i 0<Y.length) (up:∀i,n<=i->i<ps.length->Y.length<=ps.getD i 0)
    (hA:∀k a:Nat,av[k]? = some a->a≠0/\(a<Y.length->gw 272 Y a=({next:=av.getD (k+1) 0,aH:=pX (ps.drop 1) (kU k) (dn (k:Int))},0))) (hB:∀k a:Nat,av[k]? = some a->Y.length<=a->n<=kU k+1) :
    ∀(d k ahead:Nat),k+d=av.length->(k=0->ahead=0)->(∀c,k=c+1->av[c]? = some ahead)->NX 272 Y ps.length (av.getD k 0) ahead (ps.take (min n (kU k+1)))=(ps.take n,0)
  | d,k,ahead,hd,h0,h1=>by
    have e:(ps.take (min n (kU k+1))).length=min n (kU k+1):=(by rw[List.length_take];omega);have D:=h.hi;simp only[List.length_drop]at D;rw[NX,e]
    by_cases hm:ps.length<=min n (kU k+1)
    · rw[if_pos hm,show min n (kU k+1)=n by omega]
    · rw[if_neg hm]
      match d with
      | 0 =>
        have j:k=av.length:=(by omega);subst j;rw[EF (Nat.le_refl _),if_pos (.inl q),show min n (kU av.length+1)=n by omega]
      | d+1 =>
        obtain⟨a,b⟩:∃a,av[k]? = some a:=⟨_,List.getElem?_eq_getElem Xx⟩;obtain⟨G,g⟩:=hA k a b;rw[getD_some b]
        by_cases hlt:a<Y.length
        · have p:ahead<a:=by
            by_cases hk0:k=0
            · have:=h0 hk0;omega
            · have:=h1 (k-1) Xx
              exact h.yD (k-1) ahead a this (by rw[show k-1+1=k by omega];exact b)
          rw[if_neg Xx,if_neg Xx,g hlt,WY];simp only;rw[if_neg Oy];have r:=pW (k:=(k:Int)) Xx;have C:kU k+dn (k:Int)=kU (k+1):=rfl
          by_cases hc:kU k+1<=n
          · rw[Nat.min_eq_right hc,aew hi f lo up _ _ hc]
            by_cases hb:n<kU k+1+dn (k:Int)
            · rw[if_pos hb,if_pos q]
            · rw[if_neg hb,if_neg Oy]
              have:=aey h hi f o lo up hA hB d (k+1) a Xx Xx (fun c H=>by rw[show c=k by omega];exact b);rw[<- C,show min n (kU k+dn (k:Int)+1)=kU k+1+dn (k:Int)by omega]at this;exact this
          · have m:vB Y ps.length (pX ps (kU k+1) (dn (k:Int))) (ps.take (min n (kU k+1)))=(ps.take n,0,true):=by
              rw[show dn (k:Int)=(dn (k:Int)-1)+1 by omega,pY,vB,e,if_neg hm,if_pos,show min n (kU k+1)=n by omega]
              by_cases hq:kU k+1<ps.length
              · exact .inr (up _ Xx hq)
              · exact .inl (EF Xx)
            rw[m,if_pos q]
        · have:=hB k a b Xx
          rw[if_pos (.inr Xx),show min n (kU k+1)=n by omega]
theorem SK {X b:Ly} {e a:Nat} (c:e<=X.length) {t:List Ob}:∀{l:List Ob} {k:Nat},fF X k (l ++ t) a->fF b k l e->fF (X.take e) k l e
  | [],_,_,h=>h
  | o :: r,k,h,g=>by have f:=g.2.2.2.2.2.2.le.1;have i:=dI o.size;have d:=g.2.2.2.1;exact⟨h.1,h.2.1,h.2.2.1,h.2.2.2.1,h.2.2.2.2.1,(OW Xx).trans h.2.2.2.2.2.1,SK c h.2.2.2.2.2.2 g.2.2.2.2.2.2⟩
section
variable {m m':Mk} {l l':List Ob} {es es':List ej} {rs rs':List Rec} {X:Ly} {H:bI}
structure agm (m m':Mk) (l l':List Ob) (X Y:Ly):Prop where
  len:Y.length=m.b.length
  le:m.b.length<=X.length
  ea:fF Y 272 l m.b.length
  mem:∀o∈l',o.pos<m.b.length->o∈l
  dat:∀k∈m'.ai,k.pos<m.b.length->eU 272 Y k.pos=eU 272 X k.pos
  arr:∀k a:Nat,(⟨a,6,24+8*dn (k:Int)⟩:Ob)∈l'->a<m.b.length->gw 272 Y a=gw 272 X a
theorem akN (p:nV m l es rs) (on:sw m m' l l' es es' rs rs') (E:Eld m m' l l' es es' rs X H) (g:kT {m' with b:=X} l' es' (es'.map ej.pos) (places es')):agm m m' l l' X (X.take m.b.length):=by
  have r:=on.len;have q:=E.len;have d:m.b.length<=X.length:=by omega
  have j:=p.img.c.eD.ea;obtain⟨t,i,P⟩:=on.sub;have n:fF X 272 l' X.length:=g.eD.ea;have f:∀o∈l',o.pos<m.b.length->o∈l:=fun o C D=>by
    rw[i]at C
    rcases List.mem_append.1 C with h|h
    · exact h
    · have:=P o h;omega
  have G:∀o∈l',o.pos<m.b.length->dr X o.pos=({kind:=o.kind,flags:=0,size:=o.size},0)/\o.pos+o.size<=m.b.length:=fun o C D=>by have a:=n.mem C;have e:=(j.mem (f o C D)).le;have:=dI o.size;exact⟨tJ a Xy Xx,by omega⟩
  refine⟨by rw[List.length_take];omega,d,SK d (by rw[<- i];exact n) j,f,fun k hk D=>?_,fun k s C D=>?_⟩
  · obtain⟨a,e⟩:=G _ (g.eD.data k hk).ob D
    exact YA d a e
  obtain⟨a,e⟩:=G _ C D;exact Ye d a e
theorem ajp (u:nV m l es rs) (ab:nV m' l' es' rs') (on:sw m m' l l' es es' rs rs') (s:kT {m' with b:=X} l' es' (es'.map ej.pos) (places es')) (S:agm m m' l l' X (X.take m.b.length)) {i:Nat} {k:aP} (hk:m'.ai[i]? = some k) (Z:k.pos<m.b.length) :
    ofF 272 (X.take m.b.length) k.pos=(places es i,0):=by
  obtain⟨t,v,z⟩:=on.es;have H:=List.mem_of_getElem? hk;have J:=(S.dat k H Z).trans (V8 s hk (HO ab.img.txt H));have M:ru X (places es' i):=OH s i;have A:=s.dat i k hk;have j:places es' i=places es i ++ places t i:=by rw[v,WI]
  have T:∀x∈places es i,x<m.b.length:=fun x K=>by obtain⟨g,d,rfl⟩:=List.mem_map.1 K;have L:=(u.img.c.eD.ea.mem (u.img.c.ent g (List.mem_filter.1 d).1).ob).le;have:=dI (64+16*g.ent.aH.length);simp only at L ⊢;omega
  have W:∀x∈places t i,m.b.length<=x:=fun x K=>by obtain⟨g,d,rfl⟩:=List.mem_map.1 K;exact z g (List.mem_filter.1 d).1
  generalize hps:places es' i=ps at *;generalize hqs:places es i=qs at *;have y:qs.length<=ps.length:=by rw[j,List.length_append];omega
  have V:ps.take qs.length=qs:=by rw[j];exact List.take_left' q
  have h:∀a,a<qs.length->ps.getD a 0<(X.take m.b.length).length:=fun a D=>by rw[S.len,j,List.getD_eq_getElem?_getD,List.getElem?_append_left D,List.getElem?_eq_getElem D];exact T _ (List.getElem_mem D)
  have n:∀a,qs.length<=a->a<ps.length->(X.take m.b.length).length<=ps.getD a 0:=fun a F I=>by have f:a-qs.length<(places t i).length:=(by rw[j,List.length_append]at I;omega);rw[S.len,j,List.getD_eq_getElem?_getD,List.getElem?_append_right F,List.getElem?_eq_getElem f];exact W _ (List.getElem_mem f)
  by_cases h0:ps.length=0
  · have:qs=[]:=List.eq_nil_of_length_eq_zero Xx
    rw[this];exact xJ J Oy (.inl h0)
  have E:(JH {m' with b:=X} k ps).entry=ps.getD 0 0:=rfl
  by_cases hq:qs.length=0
  · have:qs=[]:=List.eq_nil_of_length_eq_zero hq
    rw[this];exact xJ J Oy (.inr (by rw[E];unfold gQ;exact decide_eq_true (.inr (n 0 Xx Xx))))
  have w:=h 0 Xx;have ad:=(M.get (i:=0) Xx).1;refine(sG J Oy h0 (by rw[E];unfold gQ;exact decide_eq_false Xx)).trans ?_;have U:∃g∈es,i∈g.who:=by
    cases qs with
    | nil=>exact absurd q hq
    | cons x r =>
      have:x∈places es i:=(by rw[hqs];simp);obtain⟨g,d,_⟩:=List.mem_map.1 this;obtain⟨F,I⟩:=List.mem_filter.1 d;exact⟨g,F,by simpa using I⟩
  obtain⟨g,d,Q⟩:=U;obtain⟨e,G⟩:∃e,m.ai[i]? = some e:=⟨_,List.getElem?_eq_getElem ((u.img.who g d).lt i Q)⟩;obtain⟨ae,aa⟩:=on.arx i e k G hk;have O:=(u.img.c.dat i e G).chain;have R:=O.hi;rw[hqs,List.length_drop]at R;have:=aey (Y:=X.take m.b.length) A.chain M y Xx h n (fun a B C=>⟨by have:=A.chain.le s.eD.ea C;omega,fun N=>by rw[S.len]at N;rw[S.arr a B (A.chain.ob a B C) N];exact acB A.chain s.eD.ea C⟩) (fun a B C P=>by
    rw[S.len]at P
    by_cases D:a<e.aT.length
    · exfalso
      rw[aa,List.getElem?_append_left D]at C;have L:=(u.img.c.eD.ea.mem (O.ob a B C)).le;have:=dI (24+8*dn (a:Int));simp only at L;omega
    · have:=QJ (show e.aT.length<=a by omega)
      omega) k.aT.length 0 0 Xx (fun _=>rfl) (fun a D=>by omega)
  have o:min qs.length (kU 0+1)=1:=by simp[kU];omega
  rw[o,V]at this;have p:ps.take 1=[(JH {m' with b:=X} k ps).entry]:=by
    rw[E];cases ps with
    | nil=>exact absurd q h0
    | cons x r=>rfl
  rw[p]at this;exact this
theorem YF (a:nV m l es rs) (E:Eld m m' l l' es es' rs X H) (S:agm m m' l l' X (X.take m.b.length)):sO H.n (X.take m.b.length) 4=(iL (X.take m.b.length) 288 m.c.ay,0):=by
  have i:=a.img.c.eD.slots.1;have C:=S.ea.mem a.img.c.eD.BH;have j:=dI (16+16*m.c.ay);have G:=C.le;have h:=S.len;simp only at G;have d:=Y5 (k:=4) (ahead:=0) (gP:=16) C Xy (by show 272+(16+16*m.c.ay)<=(X.take m.b.length).length;omega) q Zx Zx;simp only at d;have f:jy (X.take m.b.length) 272 ((4:Nat):Int)=(iL (X.take m.b.length) 288 m.c.ay,0):=by refine afU (.inl q) d Oy ?_;rw[show 16+16*m.c.ay-16=16*m.c.ay by omega,ZR Xx,show 16*m.c.ay/16=m.c.ay by omega];exact(abM (X.take m.b.length) 288 m.c.ay).symm
  have D:H.n.getD 2 0=288:=(E.n 2 Xy Xy).trans a.img.c.eD.n2;have e:H.n.getD 3 0=16*m.c.ay:=(E.n 3 Xy Xy).trans a.hd.n3;unfold sO;rw[if_pos q,if_pos q,D,e];have g:jy (X.take m.b.length) (288-16) 4=(iL (X.take m.b.length) 288 m.c.ay,0):=f;rw[g,if_neg Oy,if_neg (by simp only[qO];omega)]
theorem acZ (e:nV m l es rs) (U:nV m' l' es' rs') (on:sw m m' l l' es es' rs rs') (E:Eld m m' l l' es es' rs X H) (F:kT {m' with b:=X} l' es' (es'.map ej.pos) (places es')) (S:agm m m' l l' X (X.take m.b.length)) (B:Hs {m' with b:=X}) (t:Ly) :
    (∀k∈m'.ai,k.pos<m.b.length->k.bQ=t->findF H.n (X.take m.b.length) 4 (cH m t) t=(k.pos,0))/\((∀k∈m'.ai,k.pos<m.b.length->k.bQ≠t)->findF H.n (X.take m.b.length) 4 (cH m t) t=(0,16)):=by
  have aa:=e.img.c.eD.slots.1;have M:cH m t%m.c.ay<m.c.ay:=Nat.mod_lt _ aa;have Y:=S.len;have w:=S.le;have Q:m'.c=m.c:=on.c;have g:∀t,cH m' t=cH m t:=fun t=>by unfold cH;rw[Q]
  have A:H.n.getD 0 0=272:=(E.n 0 Xy Xy).trans e.hd.n0;have Z:=(S.ea.mem e.img.c.eD.BH).le;have ag:=dI (16+16*m.c.ay);simp only at Z;have O:=F.eD.dd.1;have u:∀k∈m'.ai,k.pos<m.b.length->k.pos+40<=m.b.length/\∃d:gW,eU 272 (X.take m.b.length) k.pos=(d,0)/\d.bY=cH m k.bQ/\d.b9=dS X (k.pos+24)/\d.au=k.bQ:=fun k hk a=>by obtain⟨i,T⟩:=List.mem_iff_getElem?.1 hk;have V:=(e.img.c.eD.ea.mem (S.mem _ (F.eD.data k hk).ob a)).le;have ah:=dI (64+k.bQ.length);simp only at V;exact⟨by omega,_,(S.dat k hk a).trans (V8 F T (HO U.img.txt hk)),g _,q,q⟩
  have G:XW (ud (H.n.getD 0 0) (X.take m.b.length) 4) (uc (H.n.getD 0 0) (X.take m.b.length) 4) (X.take m.b.length).length (ig m'.ai (cH m t%m.c.ay)):=by
    refine⟨B.a4.sublist (Ml m'.ai _),fun p a=>?_,fun ae p a W=>?_⟩
    · obtain⟨k,hk,rfl,_⟩:=kK a
      refine⟨by have:=O k hk;omega,fun W=>?_⟩;obtain⟨_,d,C,_⟩:=u k hk Xx;rw[A];unfold uc;rw[if_pos q,C]
    · obtain⟨k,hk,rfl,_⟩:=kK (List.mem_of_getElem? a)
      obtain⟨_,d,C,_,D,_⟩:=u k hk Xx;rw[A];unfold ud;rw[if_pos q,C];exact D.trans (B.r4.next _ ae _ a)
  have j:=ai2 (is:=fun p=>decide (qY (H.n.getD 0 0) (X.take m.b.length) 4 p=cH m t) && decide (qm (H.n.getD 0 0) (X.take m.b.length) 4 p=t)) G (ig m'.ai (cH m t%m.c.ay)).length 0 0 q fun p a=>Nat.pos_of_ne_zero (G.ok p (List.mem_of_getElem? a)).1;have T:∀k∈m'.ai,(fun p=>decide (p<(X.take m.b.length).length) && (decide (qY (H.n.getD 0 0) (X.take m.b.length) 4 p=cH m t) && decide (qm (H.n.getD 0 0) (X.take m.b.length) 4 p=t))) k.pos=true↔k.pos<m.b.length/\k.bQ=t:=fun k hk=>by
    simp only[Bool.and_eq_true,decide_eq_true_eq,Y];constructor
    · rintro⟨C,K,D⟩
      obtain⟨_,d,I,N,_,J⟩:=u k hk C;rw[A]at D;unfold qm at D;rw[if_pos q,I]at D;exact⟨C,J.symm.trans D⟩
    · rintro⟨C,K⟩
      obtain⟨_,d,I,N,_,J⟩:=u k hk C;rw[A];unfold qY qm;rw[if_pos q,if_pos q,I];exact⟨C,N.trans (by rw[K]),J.trans K⟩
  obtain⟨af,v⟩:=VG (s:=cH m t%m.c.ay) (is:=fun p=>decide (p<(X.take m.b.length).length) && (decide (qY (H.n.getD 0 0) (X.take m.b.length) 4 p=cH m t) && decide (qm (H.n.getD 0 0) (X.take m.b.length) 4 p=t))) (P:=fun k=>k.pos<m.b.length/\k.bQ=t) T (fun k hk L=>by have:=B.s4 k hk;rw[show cH {m' with b:=X} k.bQ=cH m k.bQ from g _,show({m' with b:=X}:Mk).c=m.c from Q]at this;rw[this,L.2]) fun x ab y ad o r=>afX U ab ad (o.2.trans r.2.symm);have f:(iL (X.take m.b.length) 288 m.c.ay)[cH m t%(iL (X.take m.b.length) 288 m.c.ay).length]? = some {first:=dS (X.take m.b.length) (288+16*(cH m t%m.c.ay)),tail:=dS (X.take m.b.length) (288+16*(cH m t%m.c.ay)+8)}:=by rw[qO];exact Ub M
  have R:dS (X.take m.b.length) (288+16*(cH m t%m.c.ay))=(ig m'.ai (cH m t%m.c.ay)).getD 0 0:=by rw[nN Xx];exact B.r4.head _ (by show _<m'.c.ay;rw[Q];exact M)
  rw[<- R,List.drop_zero]at j;refine⟨fun k hk a L=>?_,fun z=>?_⟩
  · rw[af k hk ⟨a,L⟩]at j
    have:=O k hk;exact(wY (t:={first:=_,tail:=_}) (YF e E S) q f j).trans (if_neg (by intro h;have:=congrArg Prod.fst h;simp only[Option.getD_some]at this;omega))
  rw[v fun k hk h=>z k hk h.1 h.2]at j;exact(wY (t:={first:=_,tail:=_}) (YF e E S) q f j).trans (if_pos q)
theorem ag9 (d:nV m l es rs) (I:nV m' l' es' rs') (on:sw m m' l l' es es' rs rs') (E:Eld m m' l l' es es' rs X H) (ad:Hs m') (h20:m'.h.n.length=20) (p:Pr) (x:Nat) :
    x∈ql {b:=X.take m.b.length,h:=H} (es.map ej.pos) p↔∃r,rs[x]? = some r/\p∈r.ak:=by
  have t:=d.len;have a:iQ {b:=X.take m.b.length,h:=H} (es.map ej.pos)=List.range es.length:=by have:=NE (v:={b:=X.take m.b.length,h:=H}) (by rw[List.length_map];exact t) E.amz d.rise (es.map ej.pos).length 0 0 Xx fun r s=>(d.top r (List.mem_of_getElem? s)).1;rw[List.drop_zero,List.range_zero,List.length_map]at this;exact this
  by_cases hes:es=[]
  · subst hes
    have S:rs=[]:=List.eq_nil_of_length_eq_zero (by rw[<- t];rfl);subst S;constructor
    · intro h
      have:=agU x h;rw[a]at this;simp at this
    rintro⟨r,C,_⟩;simp at C
  have J:=E.img hes;have N:=akN d on E J;have ae:Hs {m' with b:=X}:=ad.kept (Kept.kQ (m':={m' with b:=X}) I.img.c.eD E.kQ (fun aj aa=>JU I.img.c.eD.ea aa) rfl rfl rfl rfl rfl) h20;have Z:H.n.getD 0 0=272:=(E.n 0 Xy Xy).trans d.hd.n0;have T:∀{r:Rec},rs[x]? = some r->∃g,es[x]? = some g:=fun h=>⟨_,List.getElem?_eq_getElem (by have:=(List.getElem?_eq_some_iff.1 h).1;omega)⟩;cases s:right p.pb with
  | false =>
    rw[YT s];constructor
    · intro h;cases h
    · rintro⟨r,C,e⟩
      obtain⟨g,a⟩:=T C;rw[(d.rcd x g r a C).right p e]at s;cases s
  | true =>
    have O:zW {b:=X.take m.b.length,h:=H} p=findF H.n (X.take m.b.length) 4 (cH m (au p)) (au p):=by
      have:cQ (decide (H.bM &&& 4≠0)) H.bZ (au p)=cH m (au p):=(by unfold cH;rw[E.key,E.bZ];cases m.c.cB <;> rfl);unfold zW;exact congrArg (fun q=>findF H.n (X.take m.b.length) 4 q (au p)) this
    obtain⟨z,Y⟩:=acZ d I on E J N ae (au p)
    -- K has it:an9 elder entry,and its datum
    have K:∀{r:Rec} {g:ej},es[x]? = some g->rs[x]? = some r->p∈r.ak->∃j u k,j∈g.who/\m.ai[j]? = some u/\m'.ai[j]? = some k/\k.pos=u.pos/\k.bQ=u.bQ/\u.bQ=au p:=fun {r g} a C e=>by have B:=(d.rcd x g r a C).ak.mem_iff.2 (List.mem_map.2 ⟨p,e,rfl⟩);obtain⟨j,A,G⟩:=List.mem_map.1 B;have Q:=(d.img.who g (List.mem_of_getElem? a)).lt j A;obtain⟨y,F⟩:∃y,m.ai[j]? = some y:=⟨_,List.getElem?_eq_getElem Q⟩;obtain⟨k,hk,ah,R⟩:=on.ext j y F;rw[(j8 F).1]at G;exact⟨j,y,k,A,F,hk,ah,R,G⟩
    by_cases hk:∃k∈m'.ai,k.pos<m.b.length/\k.bQ=au p
    · obtain⟨k,hk,o,M⟩:=hk
      obtain⟨i,W⟩:=List.mem_iff_getElem?.1 hk;rw[adE s (O.trans (z k hk o M)) rfl,a,List.mem_filter,List.mem_range];have w:=ajp d I on J N W o;have f:∀{g:ej},es[x]? = some g->(inG {b:=X.take m.b.length,h:=H} (es.map ej.pos) k.pos x=true↔i∈g.who):=fun {g} a=>by unfold inG;rw[decide_eq_true_eq];show(es.map ej.pos).getD x 0∈(ofF (H.n.getD 0 0) (X.take m.b.length) k.pos).1↔_;rw[Z,w];exact abu d a
      constructor
      · rintro⟨C,e⟩
        obtain⟨g,a⟩:∃g,es[x]? = some g:=⟨_,List.getElem?_eq_getElem C⟩;obtain⟨r,D⟩:∃r,rs[x]? = some r:=⟨_,List.getElem?_eq_getElem Xx⟩;refine⟨r,D,?_⟩;have B:=(f a).1 e;have ab:=(d.img.who g (List.mem_of_getElem? a)).lt i B;obtain⟨y,F⟩:∃y,m.ai[i]? = some y:=⟨_,List.getElem?_eq_getElem ab⟩;obtain⟨al,P,_,R⟩:=on.ext i y F;rw[W]at P;cases P;have A:=(d.rcd x g r a D).ak.mem_iff.1 (List.mem_map.2 ⟨i,B,rfl⟩);rw[(j8 F).1,<- R,M]at A;obtain⟨q,G,Q⟩:=List.mem_map.1 A;rw[AJ ((d.rcd x g r a D).right q G) s Q]at G;exact G
      · rintro⟨r,D,e⟩
        obtain⟨g,a⟩:=T D;obtain⟨j,u,af,B,_,G,_,L,V⟩:=K a D e;have:=I.img.c.eD.one i j k af W G (.inr (M.trans (L.trans V).symm));subst this;exact⟨(List.getElem?_eq_some_iff.1 a).1,(f a).2 B⟩
    · rw[RG s (O.trans (Y fun k C e U=>hk ⟨k,C,e,U⟩)) Xy]
      constructor
      · intro h;cases h
      · rintro⟨r,C,e⟩
        obtain⟨g,a⟩:=T C;obtain⟨j,u,k,_,A,G,Q,L,V⟩:=K a C e;refine absurd ⟨k,List.mem_of_getElem? G,?_,L.trans V⟩ hk;have ag:=(d.img.c.eD.ea.mem (d.img.c.eD.data u (List.mem_of_getElem? A)).ob).le;have:=dI (64+u.bQ.length);simp only at ag;omega
theorem akM {a g:Mk} {s k:Sq} {r:Rec} {e c:Nat} (f:nV a l' es' rs') (h:Hs a) (j:s.record ((a.bR 9+1)%18446744073709551616)=(r,k)) (b:a.append r.ak r.bH r.mono r.bC=(e,c,g)):Hs g:=by
  have hk:=(rI a r.ak r.bH r.mono r.bC).2;rw[b]at hk
  by_cases hc:c=0
  · subst hc
    rcases hl:jU r.ak with⟨C,A⟩
    by_cases h2:A=0
    · subst h2
      have d:=uw s ((a.bR 9+1)%18446744073709551616);rw[j]at d;exact(JB f.img h f.ok d hl b).1
    have i:a.append r.ak r.bH r.mono r.bC=(0,A,a):=(by unfold Mk.append;simp only[hl];rw[if_pos h2]);rw[i]at b;exact absurd (congrArg (fun x=>x.2.1) b) h2
  have:=hk hc;simp only at this;subst this;exact h
theorem TT (a:nV m l es rs) (g:nV m' l' es' rs') (on:sw m m' l l' es es' rs rs') (E:Eld m m' l l' es es' rs X H) (c:Hs m') {v:dx} {at_:List Nat} (f:{b:=X.take m.b.length,h:=H}=v) (e:es.map ej.pos=at_) (mt:fM):qy v at_ mt=oU mt rs 0 []:=by subst f e;refine afI ?_ (ag9 a g on E c c.h20) mt;have:=NE (v:={b:=X.take m.b.length,h:=H}) (by rw[List.length_map];exact a.len) E.amz a.rise (es.map ej.pos).length 0 0 Xx fun r d=>(a.top r (List.mem_of_getElem? d)).1;rw[List.drop_zero,List.range_zero,List.length_map,a.len]at this;exact this
end
end Go.Wk
namespace Go.Proofs.YtlleafgaeeneoaaGreat
open Go Go.Wk Go.RowKit
set_option linter.unusedVariables false
set_option linter.unusedSimpArgs false
attribute [local irreducible] wpList wpQuiet wpStill fD Code.wp Calls bodyPost
set_option maxHeartbeats 16000000 in
theorem GU {w:World} {Q:Nat->Prop} (j:Up w Q) {v0:Value} {l:List Int} (aP:Ls lZ w Q v0 l) {v1:Value} {more:List Int} (h1:Ls lZ w Q v1 more) {bp:Value} {m:List Int} (A:Ls lZ w Q bp m) :
  Calls Zp 5 #[v0,v1,bp] w fun ap I=>∃d1:Bool,ap = .returned (.bool d1)/\Md [] w I/\true=d1:=by
 have gX:=aP.dD;have gY:=h1.dD;have gZ:=A.dD;have e:=Md.refl [] w;have fe:=j;have K:∀b,Q b->Q b:=fun _ h=>h;have y:∀b,Q b->b<w.heap.size->Q b:=fun _ h _=>h;refine enter (n:=122) Tryz.func5 q q q fun cb=>ns (an q (ns (Rz fn6 q (WK j) ?_)));rintro ap g5 ⟨aV,rfl,d,cB⟩;obtain⟨aP,h1,A,j,e⟩:=k5 d aP h1 A j e;refine an q (aD (nm q (st _ (gT q) (nt ?_))));refine bJ q (fun Fd=>?_) (fun Fd=>?_)
 ·have eO:=wL Fd;exfalso;simp_all
 have eO:=wK Fd;refine aL (aj (aD (nm q (sL q kP aP.di (st _ (kI (a:=l.length) (b:=100) q q) (mv q ?_))))));refine bW (t:=27) q (fun aF=>?_) (fun aF=>?_)
 ·have eP:=dT aF;refine sk aF (sk aF (sk aF (st _ (bf q aF q) (mv q (sk q (sk q (sk q (st _ (bf q q q) (nt (gK q q (nm q (cu q ?_))))))))))));refine nt (iI (aI ?_));exact bP (v:=(.bool aV)) trivial q ⟨q,tV⟩ ⟨aV,q,e,cB⟩
 have eP:=dF aF;refine sg aF (aM q) (sg aF (jx q kP h1.di) (sg aF (kI (a:=more.length) (b:=100) q q) (st _ (aZ q aF q) (mv q ?_))));refine bW (t:=32) q (fun aH=>?_) (fun aH=>?_)
 ·have eQ:=dT aH;refine sk aH (sk aH (sk aH (st _ (bf q aH q) (nt (gK q q (nm q (ar q (aI ?_))))))));exact bP (v:=(.bool aV)) trivial q ⟨q,tV⟩ ⟨aV,q,e,cB⟩
 have eQ:=dF aH;refine sg aH (aM q) (sg aH (jx q kP A.di) (sg aH (kI (a:=m.length) (b:=40) q q) (st _ (aZ q aH q) (nt ?_))));refine bJ q (fun cy=>?_) (fun cy=>?_)
 ·have eR:=dT cy;refine nm q (ar q (aI ?_));exact bP (v:=(.bool aV)) trivial q ⟨q,tV⟩ ⟨aV,q,e,cB⟩
 have eR:=dF cy;refine aL (aj (nm q (st _ (bN (us:=[[v0]]) (cs:=(Sq.cells (({l:=l,pos:=0}:Sq)) v0)) [(0,0,1)] z43 ah3 q q ⟨(dM aP.bA),tV⟩ ⟨q,tV⟩ q q) (dR (cs:=(Sq.cells (({l:=l,pos:=0}:Sq)) v0)) q q ?_))));intro bz g6 b5 eJ d aT;obtain⟨fk,f,E,bj,L⟩:=j5 j b5 eJ d;have K:=tT K E;have y:=Sx f y e.size;have b5:=lv e.size b5;have aP:=(aP.sub f).o d;have h1:=(h1.sub f).o d;have A:=(A.sub f).o d;have e:=e.k d;have j:=L;have ep:bw [] w bz:=.inr b5;refine Rz ala q (FB j (({l:=l,pos:=0}:Sq)) aT bj (by exact(show(({l:=l,pos:=0}:Sq)).pos<9223372036854775808 from Zq)) aP 10 Xx Xx) ?_;rintro ap fD ⟨c,d9,eg,eh,ei,bl,Bx,aE,gn,f6,g0,rfl,d,⟨f,E,L⟩,G,ae,cf,Bk,az,k,p,aN,d3,B,c9,da,f5,c4,cC⟩;have fO:bz≠c:=(by have:=aT.lt;omega);have ek:bw [] w c:=bw.new e _ cf;have cf:=lv e.size cf;have ag:∀i∈[bz],bw [] w i:=(hI ep);have s:∀i∈[bz],¬fk i:=(hI bj);have K:=tT K E;have y:=Sx f y e.size;have s:=fun i hi bc=>s i hi (E i bc);have h1:=(h1.sub f).md d s;have A:=(A.sub f).md d s;have az:=az.lower (bw.lift (S':=[]) e);have k:=k.lower (bw.lift (S':=[]) e);have p:=p.lower (bw.lift (S':=[]) e);have e:=e.step d ag;have j:=L;clear L f E
 clear ag s aT bj;have aT:=c9;have bj:=da;refine mv q (se q q (se q q (cu q (an q (ns ?_)))));have fa:=(aed cC).1;refine mv q ?_;have e4:=Bk.2.1;have dL:=(SA cC).1;have gB:=dL.small;have gA:=dL.hd;have dK:Pt tMk 94 fD (fun _=>True) (.pointer (some ⟨c,0,none⟩)) bl:=⟨_,_,q,trivial,G,XH Bk (az.ls (fun _ _=>trivial) fun _ _=>trivial) (k.ls (fun _ _=>trivial) fun _ _=>trivial) (p.ls (fun _ _=>trivial) fun _ _=>trivial) (aN.sub fun _ _ _=>trivial)⟩;refine Rz aj3 q (wz (Q:=fun _=>True) (fun _ _=>trivial) dK 1 Xy Xx Xx) ?_;rintro ap g7 ⟨ca,d2,g1,rfl,d,fd,dJ,dI⟩;have N:=dJ.lsB j;obtain⟨h1,A,aT,az,k,p,aN,G⟩:=k8 d h1 A aT az k p aN G;obtain⟨B,j,e⟩:=k3 d B j e;obtain⟨lo,es,bo,gC⟩:=aee cC;have d0:=opened bo Bk.2.1 (st:=1) Xy;rw[dI]at d0;have gE:=d0.len;refine an q (nm q (st _ (bN (us:=[[v1]]) (cs:=(Sq.cells (({l:=more,pos:=0}:Sq)) v1)) [(0,0,1)] z43 ah3 q q ⟨(dM h1.bA),tV⟩ ⟨q,tV⟩ q q) (dR (cs:=(Sq.cells (({l:=more,pos:=0}:Sq)) v1)) q q ?_)));intro ad g8 b6 eL d W;have fR:bz≠ad:=(by have:=aT.lt;omega);have fL:c≠ad:=(by have:=G.lt;omega);obtain⟨fl,f,E,af,L⟩:=j5 j b6 eL d;have h1:=h1.sub f;have A:=A.sub f;have az:=az.sub f E;have k:=k.sub f E;have p:=p.sub f E;have aN:=aN.sub f;have ae:=nQ ae E;have K:=tT K E;have y:=Sx f y e.size;have b6:=lv e.size b6;obtain⟨h1,A,az,k,p,aN,G⟩:=k7 d h1 A az k p aN G;have B:=(B.sub f).o d;have N:=(N.sub f).o d;have e:=e.k d;have j:=L;have de:bw [] w ad:=.inr b6;refine an q (aD (ns (cu q (nt ?_))));refine acM (fun(mk:Mk) (bk:Value) (br:Value) (bt:Value) (bZ:Value)=>[(2,bp),(7,(.bool aV)),(8,(.pointer (some ⟨c,0,none⟩))),(9,Bx),(10,ca)]) (fun(mk:Mk) (bk:Value) (br:Value) (bt:Value) (bZ:Value) I=>∃J:Nat->Prop,(∀b,J b->Q b)/\(∀b,Q b->b<w.heap.size->J b)/\Up I J/\Md [] w I/\bS I c (Mk.cells mk bk br bt bZ) 94/\Ow e6 5 (bw [] w) I J bk mk.b/\Ow ck 110 (bw [] w) I J br mk.ai/\Ow ck 110 (bw [] w) I J bt mk.ak/\Ls cV I J bZ mk.main/\Mk.ok mk/\Ls lZ I J bp m/\Ls UD I J Bx aE/\Ls e6 I J ca d2/\¬J c/\(∀x,ah br=some x->ah bt≠some x)/\XY bl lo es aE mk/\Hs mk) ?_ ?_
 ·clear e j K y bj ae af aP h1 A aT c4 az k p aN G B N W;rintro mk bk br bt bZ cb g9 ⟨go,K,y,j,e,G,a7,bV,bU,bX,c7,A,B,N,ae,fE,Fm,Fn⟩;refine aj (nm q (st _ (fG 1 0 272 fU o7 q N.di Xx Xx q ⟨_,q⟩) ?_));have dB:=N.head (hi:=272) Xx;refine Rz amO q (VQ j dB Zq) ?_;rintro ap Id ⟨ew,dn,gp,rfl,d,⟨f,E,L⟩,a2,dq⟩;have d5:∀x,ah ew=some x->ah bk≠some x:=fun x S A=>by have cG:=a7.lt x A;have g2:=(a2.2 x S).1.elim (fun h=>by simp at h) id;omega
  have K:=tT K E;have y:=Sx f y e.size;have a2:=a2.lower (bw.lift (S':=[]) e);have a7:=(a7.sub f E).o d;have bV:=(bV.sub f E).o d;have bU:=(bU.sub f E).o d;have bX:=(bX.sub f).o d;have G:=G.o d;have A:=(A.sub f).o d;have B:=(B.sub f).o d;have e:=e.k d;have j:=L;have fo:=congrArg List.length dq;rw[List.length_take]at fo;refine mv q ?_;obtain⟨g3,gd,gJ,bI,dQ⟩:=Fm;have In:=bI.ok.small;have gj:=bI.ok.hd;have dm:=c7;have dy:Pt tMk 94 Id (fun _=>True) (.pointer (some ⟨c,0,none⟩)) mk:=⟨_,_,q,trivial,G,XH c7 (a7.ls (fun _ _=>trivial) fun _ _=>trivial) (bV.ls (fun _ _=>trivial) fun _ _=>trivial) (bU.ls (fun _ _=>trivial) fun _ _=>trivial) (bX.sub fun _ _ _=>trivial)⟩;refine Rz aj3 q (wz (Q:=fun _=>True) (fun _ _=>trivial) dy 1 Xy Xx Xx) ?_;rintro ap gr ⟨gq,cE,f9,rfl,d,eF,dv,dr⟩;have cq:=dv.lsB j;obtain⟨a7,G,A,B,a2,j,e⟩:=k7 d a7 G A B a2 j e;have e5:=(opened bI dm.2.1 (st:=1) Xy).len;rw[dr]at e5;refine st _ (fG 1 272 cE.length fU o7 q cq.di Xx Xx ⟨_,q⟩ q) ?_;have dj:=cq.tail (lo:=272) Xx;refine ez (sz:=1) (by rfl) fU js q q a2 dj (fun _ h _=>h) j (bw.new e) Zq Zq ?_;intro ff fg ga f E L bi d s _ bL;have fH:∀x,ah ff=some x->ah bk≠some x:=fun x S A=>(bL x S).elim (fun h=>d5 x h A) (fun h=>by have cG:=a7.lt x A;omega);have cR:=a2;have K:=tT K E;have y:=Sx f y e.size;have G:=G.md d (aW cR G);have A:=(A.sub f).md d s;have B:=(B.sub f).md d s;have j:=j.md d;have e:=e.cT d (Sy cR);have j:=L;clear L f E s bL;have eE:Hs mk:=Fn;obtain⟨e3,b7⟩:=ada bo bI dQ e4 dm.2.1;rw[dI,dr,dq]at b7;have cx:=b7.opn;have fq:=wo cx b7.amK;have eM:(dn ++ List.drop 272 cE).length<=1000000:=(by rw[List.length_append,List.length_drop];omega);obtain⟨e7,bM,dW,dg⟩:=bi.freeze;have A:=A.sub (fun b F _=>bM b F);have B:=B.sub (fun b F _=>bM b F);have K:=fun b F=>(dW b F).elim (K b) (fun fr=>bw.up fe b (bi.2 b fr).1);have y:=fun b F M=>bM b (y b F M);have j:Up fg e7:=fun b F=>bM b (j b F);have bi:=dg;refine Rz fn7 q (KF j bi (by rw[cx]) (by exact eM)) ?_;rintro ap gs ⟨aO,c2,c3,a6,ao,ex,gb,rfl,d,⟨f,E,L⟩,O,V,cd,ee,H,X,C,f1,eX⟩;have fN:c≠aO:=(by have:=G.lt;omega);have ef:bw [] w aO:=bw.new e _ cd;have cd:=lv e.size cd;have K:=tT K E;have y:=Sx f y e.size;have C:=C.lower (bw.lift (S':=[]) e);have G:=G.o d;have A:=(A.sub f).o d;have B:=(B.sub f).o d;have e:=e.k d;have j:=L;refine mv q (se q q (se q q (cu q (an q (aD (ns ?_))))));have dY:=fq.symm.trans eX;have bQ:=congrArg Prod.fst dY;have fs:=congrArg Prod.snd dY;simp only at bQ fs;have b9:{b:=(dn ++ List.drop 272 cE).take bl.b.length,h:=e3:dx}=ao.v:=(by rw[<- bQ]);have dX:es.map ej.pos=ao.ats:=(by rw[<- bQ]);have fu:ao.known=false:=(by rw[<- bQ]);have ft:ao.good=[]:=(by rw[<- bQ]);have fc:=congrArg List.length dX;rw[List.length_map]at fc;have gD:ao.v.b.length<=bl.b.length:=(by rw[<- b9];simp only[List.length_take];omega);have g4:=bo.len;have gL:=bo.ok.small;obtain⟨_,fB,fC⟩:=Tx cx rfl;have fv:gst ao:=.inl ⟨fu,ft⟩;have fx:ao.v.b.length<=1000000:=Xx;have fw:ao.ats.length<=100000:=Xx;have fy:16<=ao.v.h.n.getD 2 0:=(by rw[<- b9];exact fB);have fz:16<=ao.v.h.n.getD 4 0:=(by rw[<- b9];exact fC);refine mv q (st _ (eT (a:=ex) (b:=0) q q) (mv q ?_));refine bW (t:=91) q (fun bm=>?_) (fun bm=>?_)
  ·have eW:=dT bm;exfalso;omega
  have eW:=dF bm;refine sg bm (aM q) (sg bm (ah9 q u24) (st _ (aZ q bm q) (nt (ij q q (aL (aj (nm q (Rz amL q (WJ j A) ?_))))))));rintro ap gt ⟨bu,aJ,rfl,d,Y,eY⟩;obtain⟨G,A,B,H,X,C,O,j⟩:=k8 d G A B H X C O j;have e:=e.k d;refine bF z32 ?_;intro a8 gu b4 eI d aa;have fJ:c≠a8:=(by have:=G.lt;omega);have fP:aO≠a8:=(by have:=O.lt;omega);obtain⟨dC,f,E,a1,L⟩:=j5 j b4 eI d;have H:=H.sub f;have X:=X.sub f;have C:=C.sub f E;have V:=nQ V E;have Y:=Y.sub f;have K:=tT K E;have y:=Sx f y e.size;have b4:=lv e.size b4;have A:=(A.sub f).o d;have B:=(B.sub f).o d
  obtain⟨H,X,C,O,Y,e⟩:=k6 d H X C O Y e;have j:=L;have eo:bw [] w a8:=.inr b4;refine aK (us:=(fM.cells aJ bu)) q q (by exact j9) (by exact fun u cH=>aU (fM.one Y.bA) u cH) aa (lB q) ?_;have dh:=aa;intro gv d aa;have s:∀b∈[a8],¬dC b:=(hI a1);have A:=A.md d s;have B:=B.md d s;have H:=H.md d s;have X:=X.md d s;have C:=C.md d (aB dh C) s;have O:=O.md d Zz;have Y:=Y.md d s;have j:=j.md d;have e:=e.step d (hI eo);refine nt (ns ?_);have dO:=eY;have sm:=TT bo bI dQ b7 eE b9 dX aJ;refine an q (aD (ns (cu q (nt (aS ?_)))));obtain⟨fA,dz⟩:∃r,oU aJ aE 0 []=r:=⟨_,q⟩;have eC:=dz;refine lI (fun(a0:Value) (o:List Nat) (ab:Nat)=>[(19,a0),(20,(.int .i64 ab)),(7,(.bool aV)),(9,Bx),(16,(.pointer (some ⟨aO,0,none⟩))),(18,(.pointer (some ⟨a8,0,none⟩)))]) (fun(a0:Value) (o:List Nat) (ab:Nat) I=>∃J:Nat->Prop,(∀b,J b->Q b)/\(∀b,Q b->b<w.heap.size->J b)/\Up I J/\Md [] w I/\Ow eK 3 (bw [] w) I J a0 o/\Ls UD I J Bx aE/\bS I aO (dw.cells ao c2 c3 a6) 67/\bS I a8 (fM.cells aJ bu) 32/\Pt dP 135 I J c2 ao.v/\Ls cV I J c3 ao.ats/\Ow eK 3 (bw [] w) I J a6 ao.good/\Ls (rq jS) I J bu aJ.rows/\¬J aO/\¬J a8/\(∀x,ah a0=some x->ah a6≠some x)/\o.length<=ab/\ab<=aE.length/\oU aJ (aE.drop ab) ab o=fA) (fun(a0:Value) (o:List Nat) (ab:Nat)=>aE.length-ab) (x0:=SN) (x1:=([]:List Nat)) (x2:=0) ?_ ?_ ?_
  ·exact Fz
  ·exact⟨dC,K,y,j,e,(Ow.nil _ _ _ _ _),B,O,aa,H,X,C,Y,V,a1,(fun x S=>by simp[ah]at S),Oy,Xx,(by have bb:=dz;exact bb)⟩
  clear e j K y ae V a1 a7 bV bU bX G A B N dB cq dj bi H X C O Y aa;rintro a0 o ab cb fh ⟨cw,K,y,j,e,am,B,O,aa,H,X,C,Y,V,a1,bR,gl,gm,cD⟩;refine aD (ns (m2 q q (sL q u38 B.di (st _ (dN (a:=ab) (b:=aE.length) q q) (nt ?_)))));refine bJ q (fun cn=>?_) (fun cn=>?_)
  ·have df:=dT cn;refine aL (aj (aD (aS (aD ?_))));have cS:=B;have cU:=aa;refine cZ (ml 6) [6] (fun I=>Md [] fh I) mixed Xw ?_;intro gw b0;refine⟨b0.mono Oy,?_⟩;have fj:=b0.mono (T:=[]) Oy;refine mz (fun I bn=>bK (fM.cells aJ bu) q (by exact j9) (cU.o bn) q) (mo q (mo q (mz (fun I bn=>bg (i:=ab) 20 q q u38 amJ B.di Xx) ?_)));obtain⟨fi,cv⟩:=dZ (l:=aE) (i:=ab) Xx;obtain⟨gc,eD,bB⟩:=cS.get cv;obtain⟨dS,rfl,gF,ct⟩:=ahZ eD;have bB:At _ Bx (ab*20) (Rec.cells fi dS):=bB;refine mz (fun I bn=>gR q (bB.o bn) xQ) (mz (fun I bn=>(bO (kk:=ab*20) 19 q q KT (bB.o bn) q).to (b:=dS) q) (dH ?_));obtain⟨am,B,O,aa,H,X,C,Y⟩:=k8 b0 am B O aa H X C Y;obtain⟨ct,j,e⟩:=k3 b0 ct j e;refine Rz amM q (VS j aJ Y ct) ?_;rintro ap gx ⟨gf,rfl,d,ds⟩;obtain⟨am,B,O,aa,H,X,C,Y⟩:=k8 d am B O aa H X C Y;obtain⟨j,e⟩:=k2 d j e;refine aA ?_;refine aj ?_;refine bJ q (fun co=>?_) (fun co=>?_)
   ·have ch:=co;refine aG (m2 q q (aR [[(.int .i64 ab)]] kP nE Xy Xy q q ⟨q,tV⟩ ⟨q,tV⟩ q Xy ?_));intro f7 gy eq f8 d ci;have eB:=j _ eq;obtain⟨am,B,O,aa,H,X,C,Y⟩:=k8 d am B O aa H X C Y;obtain⟨j,e⟩:=k2 d j e;have ci:=Ls.cF (m:=1) (R:=cw) (T:=eK) (xs:=[ab]) ci ⟨_,_,q,⟨q,Xx⟩,q⟩ q Xy eB;refine ez (sz:=1) (by rfl) kP nE q q am ci (fun _ h _=>h) j (bw.new e) Zq Zq ?_;intro dU gz e8 f E L e1 d s _ bL;have d4:∀x,ah dU=some x->ah a6≠some x:=fun x S A=>(bL x S).elim (fun h=>bR x h A) (fun h=>by have cG:=C.lt x A;omega);have cm:=am;have V:=nQ V E;have a1:=nQ a1 E;have K:=tT K E;have y:=Sx f y e.size;have B:=(B.sub f).md d s;have O:=O.md d (aW cm O);have aa:=aa.md d (aW cm aa);have H:=(H.sub f).md d s;have X:=(X.sub f).md d s;have C:=(C.sub f E).md d (cW bR) s;have Y:=(Y.sub f).md d s;have j:=j.md d;have e:=e.cT d (Sy cm);have j:=L;clear L f E s bL;refine cu q (aA (bE (aj (aG ?_))))
    refine mv q (st _ (rA (a:=ab) (b:=1) q q Xx) (an q ?_));refine jD (x0:=dU) (x1:=(o ++ ([ab]))) (x2:=(ab+1)) Xx ⟨q,(dA q Xx),q,q,q,q,tV⟩ ⟨e8,K,y,j,e,e1,B,O,aa,H,X,C,Y,V,a1,d4,Ym,Xx,(by have bb:=cD;rw[HV cv,if_pos (ds.trans ch)]at bb;exact bb)⟩
   have ch:=co;refine aL (bE (aj (aG (mv q (st _ (rA (a:=ab) (b:=1) q q Xx) (an q ?_))))));refine jD (x0:=a0) (x1:=o) (x2:=(ab+1)) Xx ⟨q,(dA q Xx),q,q,q,q,tV⟩ ⟨cw,K,y,j,e,am,B,O,aa,H,X,C,Y,V,a1,bR,Xx,Xx,(by have bb:=cD;rw[HV cv,if_neg (by rw[ds,ch];decide)]at bb;exact bb)⟩
  have df:=dF cn;refine bT (aX (aX (cJ (aj (ns (m2 q q ?_))))));refine bW (t:=115) q (fun aQ=>?_) (fun aQ=>?_)
  ·have er:=aQ;refine sg aQ (aM q) (sg aQ (bK (fM.cells aJ bu) q (by exact j9) aa q) (fK q q q aQ akX q (LB j ao O V ee H X (C.eH (fun _ _=>trivial)) aJ Y (by exact fv) (by trivial) (by exact fw) (by exact fx) (by exact fy) (by exact fz) (by exact dO.1) (by exact dO.2)) ?_));rintro ap gM ⟨ge,ey,fZ,fW,fX,ec,e9,rfl,d,⟨f,E,L⟩,et,C3,c1,fV,fQ,fT,bY,eZ⟩;refine rv ?_;have ag:∀i∈(aO :: (ah a6).toList),bw [] w i:=(d8 ef (rF C));have s:∀i∈(aO :: (ah a6).toList),¬cw i:=(d8 V (rN C));have cg:∀b,ah a0=some b->b∉(aO :: (ah a6).toList):=fun b F=>(bD (am.eN O Xy b F) ((cW (lM bR)) b F));have d7:a8∉(aO :: (ah a6).toList):=(bD Xx (aW C aa));have bY:=bY.eH (Sy bY);have fF:∀x,ah ec=some x->ah a0≠some x:=fun x S A=>(bY.2 x S).1.elim (fun h=>cg x A h) (fun h=>by have cG:=am.lt x A;omega);have s:=fun i hi bc=>s i hi (E i bc);have am:=(am.sub f E).md d cg s;have e:=e.step d ag;have j:=L;have O:=C3;have V:=c1;clear C3 c1
   clear C;have fp:=congrArg Prod.fst eZ;refine sg aQ (aM q) (fK q q q aQ amN q (WL (fun b F=>Or.inl (j b F)) (Q:=fun b=>e9 b\/bw [] w b) (et.sub (fun _ F _=>Or.inl F)) am.read) ?_);rintro ap gN ⟨dp,rfl,d,e0⟩;refine rv ?_;have e:=e.k d;refine st _ (bf q aQ q) (ar q ?_);exact bP (v:=(.bool dp)) trivial q ⟨q,tV⟩ ⟨dp,q,e,(by have fn:=eC.trans (cD.symm.trans (acj df));have fm:ey=o:=fp.symm.trans (sm.trans fn);exact(decide_eq_true fm).symm.trans e0)⟩
  have er:=aQ;exfalso;simp_all
 refine aS ?_;refine alY (fun(al:Mk) (aw:Value) (av:Value) (au:Value) (a9:Value) (bd:Sq) (bv:Value) (i:Nat)=>[(12,(.int .i64 i)),(2,bp),(7,(.bool aV)),(8,(.pointer (some ⟨c,0,none⟩))),(9,Bx),(10,ca),(11,(.pointer (some ⟨ad,0,none⟩)))]) (fun(al:Mk) (aw:Value) (av:Value) (au:Value) (a9:Value) (bd:Sq) (bv:Value) (i:Nat) I=>∃J:Nat->Prop,(∀b,J b->Q b)/\(∀b,Q b->b<w.heap.size->J b)/\Up I J/\Md [] w I/\bS I c (Mk.cells al aw av au a9) 94/\Ow e6 5 (bw [] w) I J aw al.b/\Ow ck 110 (bw [] w) I J av al.ai/\Ow ck 110 (bw [] w) I J au al.ak/\Ls cV I J a9 al.main/\Mk.ok al/\bS I ad (Sq.cells bd bv) 43/\Ls lZ I J bv bd.l/\Sq.ok bd/\Ls lZ I J bp m/\Ls UD I J Bx aE/\Ls e6 I J ca d2/\¬J c/\¬J ad/\(∀x,ah av=some x->ah au≠some x)/\XY bl lo es aE al/\Hs al/\i<=10) (fun(al:Mk) (aw:Value) (av:Value) (au:Value) (a9:Value) (bd:Sq) (bv:Value) (i:Nat)=>10-i) (x0:=bl) (x1:=d9) (x2:=eg) (x3:=eh) (x4:=ei) (x5:=(({l:=more,pos:=0}:Sq))) (x6:=v1) (x7:=0) ?_ ?_ ?_
 ·exact Fz
 ·exact⟨fl,K,y,j,e,G,az,k,p,aN,Bk,W,h1,(by exact(show(({l:=more,pos:=0}:Sq)).pos<9223372036854775808 from Zq)),A,B,N,ae,af,d3,⟨lo,es,_,bo,sw.refl _ _ _ _⟩,fa,Xx⟩
 clear e j K y bj ae af aP h1 A aT c4 az k p aN G B N W;rintro al aw av au a9 bd bv i cb gO ⟨b8,K,y,j,e,G,Z,D,U,aq,b2,W,el,eu,A,B,N,ae,af,P,bG,D0,gk⟩;refine aD (nm q (st _ (dN (a:=i) (b:=10) q q) (mv q ?_)));refine bW (t:=52) q (fun aY=>?_) (fun aY=>?_)
 ·have eS:=dT aY;refine sg aY (aM q) (fK q q q aY aj4 q (ze j bd W af eu el) ?_);rintro ap gP ⟨gg,c8,fY,rfl,d,cX,db,ea,cc,gi⟩;refine rv ?_;have ag:∀i∈[ad],bw [] w i:=(hI de);have s:∀i∈[ad],¬b8 i:=(hI af);have bq:∀b,ah aw=some b->b∉[ad]:=fun b F=>(bD (Z.eN W Xy b F) Oy);have z:∀b,ah av=some b->b∉[ad]:=fun b F=>(bD (D.eN W Xy b F) Oy);have g:∀b,ah au=some b->b∉[ad]:=fun b F=>(bD (U.eN W Xy b F) Oy);have bs:c∉[ad]:=(bD Xx Oy);have Z:=Z.md d bq s;have D:=D.md d z s;have U:=U.md d g s;have aq:=aq.md d s;have G:=G.md d bs;have A:=A.md d s;have B:=B.md d s;have N:=N.md d s;have e:=e.step d ag;have j:=j.md d;have W:=cX;have af:=db;refine st _ (bf q aY q) (nt ?_);refine bJ q (fun cz=>?_) (fun cz=>?_)
  ·have eU:=cz;refine aL (aj (aD (aS (ns (m2 q q (Rz agL q (vi j al G ae b2 (Z.eH (fun _ _=>trivial)) (D.eH (fun _ _=>trivial)) (U.eH (fun _ _=>trivial)) aq P) ?_))))));rintro ap gQ ⟨cl,rfl,d,f2,dt⟩;obtain⟨Z,D,U,aq,G,W,A,B⟩:=k8 d Z D U aq G W A B;obtain⟨N,cc,j,e⟩:=k4 d N cc j e;refine st _ (sJ (a:=cl) (b:=1) 18446744073709551616 q q q q) (Rz al2 q (AF j c8 W af ea cc ((cl+1)%18446744073709551616) Xx) ?_);rintro ap gS ⟨c6,ay,ev,ed,rfl,d,ce,be,cY,dc,eb,ba,cp⟩;have ag:∀i∈[ad],bw [] w i:=(hI de);have s:∀i∈[ad],¬b8 i:=(hI af);have bq:∀b,ah aw=some b->b∉[ad]:=fun b F=>(bD (Z.eN W Xy b F) Oy);have z:∀b,ah av=some b->b∉[ad]:=fun b F=>(bD (D.eN W Xy b F) Oy);have g:∀b,ah au=some b->b∉[ad]:=fun b F=>(bD (U.eN W Xy b F) Oy);have bs:c∉[ad]:=(bD Xx Oy);have Z:=Z.md d bq s;have D:=D.md d z s;have U:=U.md d g s;have aq:=aq.md d s;have G:=G.md d bs;have A:=A.md d s;have B:=B.md d s;have N:=N.md d s;have e:=e.step d ag
   have j:=j.md d;have W:=cY;have af:=dc;refine bF z51 ?_;intro bx gU b3 eG d aC;have fI:c≠bx:=(by have:=G.lt;omega);have fS:ad≠bx:=(by have:=W.lt;omega);obtain⟨dE,f,E,em,L⟩:=j5 j b3 eG d;have ae:=nQ ae E;have af:=nQ af E;have K:=tT K E;have y:=Sx f y e.size;have b3:=lv e.size b3;have Z:=(Z.sub f E).o d;have D:=(D.sub f E).o d;have U:=(U.sub f E).o d;have aq:=(aq.sub f).o d;obtain⟨G,W⟩:=k2 d G W;have A:=(A.sub f).o d;have B:=(B.sub f).o d;have N:=(N.sub f).o d;have ba:=(ba.sub f).o d;have be:=(be.sub f).o d;have e:=e.k d;have j:=L;have en:bw [] w bx:=.inr b3;have f0:Rec.ok (zz5):=(by exact⟨Xy,Xy,Xy,q⟩);refine aK (us:=(Rec.cells ay c6)) q q (by exact nA) (by exact fun u cH=>aU (Rec.one be.bA) u cH) aC (lB q) ?_;have b1:=aC;intro gV d aC;have s:∀b∈[bx],¬dE b:=(hI em);have Z:=Z.md d (aB b1 Z) s;have D:=D.md d (aB b1 D) s;have U:=U.md d (aB b1 U) s;have aq:=aq.md d s;have G:=G.md d Zz;have W:=W.md d Zz;have A:=A.md d s;have B:=B.md d s;have N:=N.md d s;have ba:=ba.md d s;have be:=be.md d s;have j:=j.md d;have e:=e.step d (hI en);refine nt (nm q (sf q xQ (sl (u:=c6) q KT aC q (sf q Zv (sl (u:=(.int .u64 ay.bH)) q bh aC q ?_)))));have gG:ay.bH<18446744073709551616:=ce.2.1;refine sf q Zw (sl (u:=(.int .u64 ay.mono)) q bh aC q ?_);have gH:ay.mono<18446744073709551616:=ce.2.2.1;refine sf q Z0 (st _ (bK (jb ay.bC) q (by exact mN) aC q) ?_);have gI:ay.bC.length=16:=ce.2.2.2;have e2:(∀cI∈ay.ak,BD cI)/\ay.ak.length<=16:=(by have h:=LM c8 ((cl+1)%18446744073709551616);rw[cp]at h;exact h);have fb:vv al:=(by obtain⟨_,_,_,h,_⟩:=bG;exact h.ok);refine Rz al7 q (AG j al G ae b2 (Z.eH (fun _ _=>trivial)) (D.eH (fun _ _=>trivial)) (U.eH (fun _ _=>trivial)) aq P be ay.bH Xx ay.mono Xx ay.bC Xh (by exact fb) (by exact Xx) (by exact(fun cI bc=>by have:=(e2.1 cI bc).1;omega))) ?_;rintro ap gW ⟨gh,eA,cj,cN,cO,cP,cQ,dG,rfl,d,⟨f,E,L⟩,f3,f4,c0,dd,cM,a3,a4,a5,cL,cK,du⟩;have ag:∀i∈(vS c aw av au),bw [] w i:=(d8 ek (dV (rF Z) (dV (rF D) (rF U))));have s:∀i∈(vS c aw av au),¬dE i:=(d8 ae (dV (rN Z) (dV (rN D) (rN U))));have c5:ad∉(vS c aw av au):=(bD Xx (cr (aW Z W) (cr (aW D W) (aW U W))));have d6:bx∉(vS c aw av au):=(bD Xx (cr (aW Z aC) (cr (aW D aC) (aW U aC))));have a3:=a3.eH (Sy a3);have a3:=a3.eH (Sz a3 ag (bw.new e));have a4:=a4.eH (Sy a4);have a4:=a4.eH (Sz a4 ag (bw.new e));have a5:=a5.eH (Sy a5);have a5:=a5.eH (Sz a5 ag (bw.new e));have af:=nQ af E;have K:=tT K E;have y:=Sx f y e.size;have s:=fun i hi bc=>s i hi (E i bc);have W:=W.md d c5;have A:=(A.sub f).md d s;have B:=(B.sub f).md d s;have N:=(N.sub f).md d s;have ba:=(ba.sub f).md d s;have e:=e.step d ag;have j:=L;have G:=c0;have ae:=dd;refine mv q ?_;refine se q q (se q q (cu q (an q (ns ?_))));have dk:=ajo bG (by rw[dt];exact cp) du;have dl:Hs cj:=(by obtain⟨_,_,_,h,_⟩:=bG;exact akM h D0 (by rw[dt];exact cp) du);refine mv q (st _ (eT (a:=eA) (b:=0) q q) (nt ?_));refine bJ q (fun cA=>?_) (fun cA=>?_)
   ·have eV:=dT cA;refine bT (XT q (aX (aX (cJ ?_))));exact⟨q,wQ cj cN cO cP cQ Fz ⟨dG,K,y,j,e,G,a3,a4,a5,cL,cM,A,B,N,ae,cK,dk,dl⟩⟩
   have eV:=dF cA;refine aL (bE (aj (aG (mv q (st _ (rA (a:=i) (b:=1) q q Xx) (an q ?_))))));refine ame (x0:=cj) (x1:=cN) (x2:=cO) (x3:=cP) (x4:=cQ) (x5:=ev) (x6:=ed) (x7:=(i+1)) Xx ⟨(dA q Xx),q,q,q,q,q,q,tV⟩ ⟨dG,K,y,j,e,G,a3,a4,a5,cL,cM,W,ba,eb,A,B,N,ae,af,cK,dk,dl,Xx⟩
  have eU:=cz;refine bT (aX (aX (cJ ?_)));exact⟨q,wQ al aw av au a9 Fz ⟨b8,K,y,j,e,G,Z,D,U,aq,b2,A,B,N,ae,P,bG,D0⟩⟩
 have eS:=dF aY;refine sk aY (sk aY (st _ (aZ q aY q) (nt (ij q q (bT (aX (aX (cJ ?_))))))));exact⟨q,wQ al aw av au a9 Fz ⟨b8,K,y,j,e,G,Z,D,U,aq,b2,A,B,N,ae,P,bG,D0⟩⟩
end Go.Proofs.YtlleafgaeeneoaaGreat
namespace Go.Wk
open Go Go.RowKit Go.ChangeShapes Go.WideShapes Go.ChangeAt Go.Deep
section
variable {H:Type} {enc:TypeId × Value->H} {P:Program} {w:World} {t f:TypeId} {v:Value} {d:DataW H} {ps:List MemPlace}
theorem zF {u:Nat->Bool} {base:Nat} {held:Bool} {r:Reach} {m:Nat} {e:TypeId} {k:IntKind} (i:P.underlying t=some (.slice e)) (o:P.underlying e=some (.int k)) (n:P.cellsOf e=1) (s:Value.okWide P w r m t v)
    (h:DataW.Trod enc P w base u held t v d ps):∃l:List Int,Sl w v (l.map (Value.int k))/\∀z∈l,(Lit.int k z).wf=true:=by
  obtain⟨y,c,D,rfl⟩:=okWide_slice i s;obtain⟨x,j⟩:=h
  rcases open_ints i o n j with⟨E,_⟩|⟨a,R,M,K,E,_,T,O,f,_,B,I⟩
  · simp[Value.cells]at E
    obtain⟨rfl,rfl,rfl⟩:=E;exact⟨[],Sl.nil w,by simp⟩
  simp[Value.cells]at E;obtain⟨rfl,rfl,rfl⟩:=E;have G:c<=K.length:=by rw[f];split <;> omega
  refine⟨K.take c,⟨some a,D,by simp[Nat.min_eq_left G],by simp;omega,O,by simp,fun p Q g A b=>?_⟩,fun z f=>I z (List.mem_of_mem_take f)⟩;cases Q;have q:=(List.getElem?_eq_some_iff.1 b).1;simp only[List.length_map,List.length_take]at q;have H:g<c:=by omega
  have C:g<K.length:=by omega
  rw[B g C];rw[List.getElem?_map,List.getElem?_take]at b;rw[if_pos H]at b;simp[C]at b;simp[List.getD,C,b]
end
section
variable {H:Type} {enc:TypeId × Value->H} {P:Program} {w:World} {t e f:TypeId} {v:Value} {d:DataW H} {ps:List MemPlace} {spare:Nat->Bool} {base:Nat} {held:Bool}
theorem NJ {l:List Int} (h:Sl w v (l.map (Value.int .i64))) (a:∀z∈l,(Lit.int .i64 z).wf=true):Ls lZ w (fun _=>True) v l :=
  Ls.aiM h (fun x b=>by
    have:=a x b;simp[Lit.wf,IntKind.min,IntKind.max,IntKind.signed,IntKind.bits]at this;show -9223372036854775808<=x/\x<9223372036854775808;omega) (fun _ _ _=>trivial)
end
end Go.Wk
