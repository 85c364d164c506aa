/- Part 4 of the walk of a law. No statement is proved here. -/
import Derived.Test.YtfadcpfgenjbeaaGreatNPP3
import Derived.Test.YtfadcpfgenjbeaaGreatRows
namespace Go.Proofs.YtfadcpfgenjbeaaGreat
open Go Go.Wk Go.RowKit
set_option linter.unusedVariables false
set_option linter.unusedSimpArgs false
attribute [local irreducible] wpList wpQuiet wpStill eF Code.wp Calls bodyPost
variable {w:World} {Q:Nat->Prop}
theorem ag4:fW Zp 133 2=true:=Xj
theorem ag6:fW Zp 173 2=true:=Xj
theorem ah1:fW Zp 45 1=true:=Xj
theorem zY:cO Zp 97=true:=Xj
theorem abO:cO Zp 98=true:=Xj
theorem abP:cO Zp 99=true:=Xj
theorem acO:aJ Zp 110 0=some 0:=Xj
theorem Ph:aJ Zp 110 1=some 1:=Xj
theorem IG:aJ Zp 110 10=some 89:=Xj
theorem Px:aJ Zp 110 2=some 2:=Xj
theorem acP:aJ Zp 110 3=some 3:=Xj
theorem acQ:aJ Zp 110 4=some 19:=Xj
theorem PC:aJ Zp 110 5=some 35:=Xj
theorem acR:aJ Zp 110 6=some 51:=Xj
theorem dO:aJ Zp 110 7=some 67:=Xj
theorem PD:aJ Zp 110 8=some 87:=Xj
theorem PE:aJ Zp 110 9=some 88:=Xj
theorem acT:aJ Zp 133 0=some 0:=Xj
theorem acU:aJ Zp 133 1=some 1:=Xj
theorem acV:aJ Zp 138 0=some 0:=Xj
theorem acW:aJ Zp 138 1=some 1:=Xj
theorem acX:aJ Zp 138 2=some 2:=Xj
theorem acY:aJ Zp 138 3=some 3:=Xj
theorem acZ:aJ Zp 138 4=some 19:=Xj
theorem EM:aJ Zp 138 5=some 20:=Xj
theorem adb:aJ Zp 173 0=some 0:=Xj
theorem ade:aJ Zp 173 1=some 1:=Xj
theorem adf:aJ Zp 192 0=some 0:=Xj
theorem adg:aJ Zp 192 1=some 1:=Xj
theorem adh:aJ Zp 192 2=some 2:=Xj
theorem adi:aJ Zp 192 3=some 3:=Xj
theorem adj:aJ Zp 192 4=some 4:=Xj
theorem adk:aJ Zp 192 5=some 5:=Xj
theorem adl:aJ Zp 192 6=some 6:=Xj
theorem adm:aJ Zp 200 0=some 0:=Xj
theorem adn:aJ Zp 200 1=some 1:=Xj
theorem adx:aJ Zp 237 0=some 0:=Xj
theorem ady:aJ Zp 237 1=some 1:=Xj
theorem adz:aJ Zp 237 2=some 2:=Xj
theorem ad1:aJ Zp 237 3=some 3:=Xj
theorem uL:aJ Zp 91 1=some 1:=Xj
theorem TK:iv Zp 126=true:=Xj
theorem kQ:Zp.underlying 108=some (.array 20 23):=Xj
theorem ae1:Zp.underlying 115=some (.slice 173):=Xj
theorem ae2:Zp.underlying 126=some (.slice 133):=Xj
theorem MJ:Zp.underlying 127=some (.slice 45):=Xj
theorem afx (e:Up w Q) (v:Nat) (aa:v<18446744073709551616) (n:Nat) (ab:n<9223372036854775808) (ae:n<=64) :
  Calls Zp 99 #[(uZ v),(iZ n)] w fun X y=>∃M:Value,∃F:List UInt8,∃E:Nat->Prop,X = .returned (M)/\Md [] w y/\iQ w y Q E/\Ow dh 5 (aX [] w) y E M F/\low v n=F:=by
 have l:=e;refine nR (n:=21) [] e Tryz.func99 q q q fun N j H s=>ns<|an q<|ns<|cV q<|nt<|aH<|ns<|cV q<|nt<|bf ?_;obtain⟨F,C⟩:∃r,low v n=r:=⟨_,q⟩;have c:=C
 try simp only[List.nil_append]at C
 refine ajP (fun(u:Value) (b:Ly) (i:Nat) (x:Nat)=>[(5,u),(6,(iZ i)),(0,(uZ x)),(1,(iZ n))]) (fun u b i x y=>LQ Q w [] y fun E=>Ow dh 5 (aX [] w) y E u b/\(b.length=i/\i<=n/\x<18446744073709551616)/\b ++ low x (n-i)=F) (fun u b i x=>n-i) SN ([]:Ly) 0 v ?_ ?_ ?_
 ·exact Fz
 ·exact⟨Q,H,s,e,j,(Ow.nil _ _ _ _ _),⟨q,by omega,by omega⟩,(by have z:=C;exact z)⟩
 clear j e H s;rintro u b i x N p ⟨K,H,s,e,j,D,d,G⟩;refine aH<|ns<|m2 q q<|su (fJ (a:=i) (b:=n) q q)<|nt ?_;refine kS q ?_ ?_
 ·intro A;refine aM<|aA<|aH<|bf<|ns<|m2 q q<|su (EZ (a:=x) (b:=256) q q Xx)<|su ((lX (a:=x%256) 256 q q (by rw[mr];rfl) u5 q).to<|BZ _)<|bh [[(b8<|UInt8.ofNat<|x%256)]] fM gK Xz Xz q q ⟨q,tV⟩ ⟨q,tV⟩ q Xz ?_;intro Z t S ad B I;have U:=e _ S;obtain⟨D,e,j⟩:=k3 B D e j;have I:=Ls.cL (m:=1) (R:=K) (T:=dh) (xs:=[UInt8.ofNat (x%256)]) I ⟨_,_,q,⟨q,tV⟩,q⟩ q Xz U;refine fO (sz:=1) (by rfl) fM gK q q D I (fun _ h _=>h) e (aX.new j) Xm Xm ?_;intro o af Y f g P V B k _ W;have O:=D;have H:=tT H g;have s:=Sx f s j.size;have e:=e.md B;have j:=j.cE B<|Sy O;have e:=P;clear P f g k W;refine an q<|aI<|mv q<|su (adV (a:=x) (b:=256) 18446744073709551616 q q q Xx)<|cV q<|aG<|bG<|aA<|aI<|mv q<|su (rA (a:=i) (b:=1) q q Xx)<|cV q<|nt ?_;refine ajV o (b ++ ([UInt8.ofNat (x%256)])) (i+1) (x/256) Xx ⟨q,(cW q Xx),(cW q (by rfl)),q,tV⟩ ⟨Y,H,s,e,j,V,Xh,(by have z:=G;simp(disch:=first|omega|assumption|simp) only [OH,Wt,List.append_nil,SS,reduceIte,A]at z;(simp only[List.append_assoc,List.cons_append,List.nil_append,List.singleton_append]at z ⊢;exact z))⟩
 intro A;refine cM<|bB<|bB<|dJ<|aA<|nM q<|ar q ?_;exact gB u q ⟨_,b,K,q,j,⟨s,H,e⟩,D,(by(try (simp(disch:=first|omega|assumption|simp) only [OH,Wt,List.append_nil,SS,reduceIte,A]at G));simp(disch:=first|omega|assumption|simp) only [SS,reduceIte,C,A,<- G])⟩
theorem pn (e:Up w Q) (v:Nat) (f:v<18446744073709551616) (n:Nat) (g:n<9223372036854775808) (h:n<=64) :
  Calls Zp 99 #[(.int .u64 v),(.int .i64 n)] w fun d c=>∃b:Value,∃a:List UInt8,d = .returned (b)/\Md [] w c/\Ls dh c Q b a/\low v n=a :=
 (afx e v f n g h).mono fun d c ⟨b,a,Q2,he,hm,kq,k0,hF⟩=>⟨b,a,he,hm,k0.ls kq.2.1<|aX.up e,hF⟩
theorem qE (e:Up w Q) {F:Value} {l:List Nat} (j:Ls dQ w Q F l) (ae:l.length<=1048576) :
  Calls Zp 97 #[F] w fun O v=>∃S:Value,∃K:List UInt8,∃B:Nat->Prop,O = .returned (S)/\Md [] w v/\iQ w v Q B/\Ow dh 5 (aX [] w) v B S K/\nums l=K:=by
 have y:=j.eJ;have af:=e;refine nR (n:=19) [] e Tryz.func97 q q q fun U m u s=>ns<|an q<|ns<|cV q<|nt<|aH<|ns<|cV q<|nt<|bf ?_;obtain⟨K,C⟩:∃r,nums l=r:=⟨_,q⟩;have f:=C
 try simp only[List.nil_append]at C
 refine kV (fun(A:Value) (b:Ly) (i:Nat)=>[(3,A),(4,(iZ i)),(0,F)]) (fun A b i v=>LQ Q w [] v fun B=>Ow dh 5 (aX [] w) v B A b/\Ls dQ v B F l/\(b.length=8*i/\i<=l.length)/\b ++ nums (l.drop i)=K) (fun A b i=>l.length-i) SN ([]:Ly) 0 ?_ ?_ ?_
 ·exact Fz
 ·exact⟨Q,u,s,e,m,(Ow.nil _ _ _ _ _),j,⟨q,by omega⟩,(by have E:=C;exact E)⟩
 clear m e u s j;rintro A b i U ag ⟨p,u,s,e,m,D,j,ad,L⟩;refine aH<|ns<|m2 q q<|sL q oP j.eA<|su (fJ (a:=i) (b:=l.length) q q)<|nt ?_;refine kS q ?_ ?_
 ·intro I;refine aM<|aA<|aH<|bf<|aI<|m2 q q<|mv q<|su (bQ (i:=i) 1 q q oP gE j.eA Xx) ?_;obtain⟨V,M⟩:=gF (l:=l) (i:=i) Xx;obtain⟨z,aa,J⟩:=j.get M;obtain⟨rfl,g⟩:=aa;have J:At _ F (i*1) [(uZ V)]:=J;refine su ((dS (kk:=i*1) 0 q q aV J q).to (b:=(uZ V)) q)<|Rz abP q (pn e V Xx 8 Xx Xx) ?_;rintro O ah ⟨o,Y,rfl,H,X,P⟩;obtain⟨D,j,e,m⟩:=k4 H D j e m;have G:=eM V 8;rw[P]at G;try simp only[LL,Nat.reduceAdd,Nat.reduceMul]at G
  refine fO (sz:=1) (by rfl) fM gK q q D X (fun _ h _=>h) e (aX.new m) Xx Xx ?_;intro x ai t c k T Z H d _ ab;have W:=D;have u:=tT u k;have s:=Sx c s m.size;have j:=(j.sub c).md H d;have e:=e.md H;have m:=m.cE H<|Sy W;have e:=T;clear T c k d ab;refine cV q<|aG<|bG<|aA<|aI<|mv q<|su (rA (a:=i) (b:=1) q q Xx)<|an q ?_;refine iW x (b ++ Y) (i+1) Xx ⟨q,(cW q Xx),q,tV⟩ ⟨t,u,s,e,m,Z,j,Xh,(by have E:=L;simp(disch:=first|omega|assumption|simp) only [td,List.append_nil,uI M,SS,reduceIte,I,M,P]at E;(simp only[List.append_assoc,List.cons_append,List.nil_append,List.singleton_append]at E ⊢;exact E))⟩
 intro I;refine cM<|bB<|bB<|dJ<|aA<|nM q<|ar q ?_;exact gB A q ⟨_,b,p,q,m,⟨s,u,e⟩,D,(by(try (simp(disch:=first|omega|assumption|simp) only [td,List.append_nil,SS,reduceIte,I]at L));simp(disch:=first|omega|assumption|simp) only [SS,reduceIte,C,I,<- L])⟩
theorem jZ (e:Up w Q) {f:Value} {l:List Nat} (g:Ls dQ w Q f l) (h:l.length<=1048576) :
  Calls Zp 97 #[f] w fun d c=>∃b:Value,∃a:List UInt8,d = .returned (b)/\Md [] w c/\Ls dh c Q b a/\nums l=a :=
 (qE e g h).mono fun d c ⟨b,a,Q2,he,hm,kq,k0,hF⟩=>⟨b,a,he,hm,k0.ls kq.2.1<|aX.up e,hF⟩
theorem afH (e:Up w Q) (kind:Nat) (a8:kind<9223372036854775808) {Z:Value} {body:Ly} (h1:Ls dh w Q Z body) (bb:body.length<=1048576) :
  Calls Zp 98 #[(iZ kind),Z] w fun ad I=>∃af:Value,∃X:List UInt8,∃N:Nat->Prop,ad = .returned (af)/\Md [] w I/\iQ w I Q N/\Ow dh 5 (aX [] w) I N af X/\lW kind body=X:=by
 have a6:=h1.eJ;have aC:=e;refine nR (n:=33) [] e Tryz.func98 q q q fun aa j s C=>ns<|an q<|aH<|aH ?_;refine RN (fun b=>[(11,.bool b),(0,(iZ kind)),(1,Z),(4,SN)]) (fun b I=>w=I/\(b=true↔(kind<1\/7<kind))) ?_ ?_
 ·refine mv q<|su (fJ (a:=kind) (b:=1) q q)<|mv q ?_;refine ck (t:=8) q (fun F=>?_)<|fun F=>?_
  ·have aB:=dq F;refine sk F<|sk F<|su (bC q F q)<|aG ?_;refine⟨q,jn true ?_ ?_⟩
   ·exact Fz
   exact⟨q,by(simp<;>omega)⟩
  have aB:=dF F;refine sg F (aP q)<|sg F (jQ (a:=kind) (b:=7) q q)<|su (aU q F q) ?_;refine ck (t:=11) q (fun A=>?_)<|fun A=>?_
  ·have ak:=dq A;refine aG ?_;refine⟨q,jn true ?_ ?_⟩
   ·exact⟨sN q A,q,q,q,tV⟩
   exact⟨q,by(simp<;>omega)⟩
  have ak:=dF A;refine aG ?_;refine⟨q,jn false ?_ ?_⟩
  ·exact⟨sN q A,q,q,q,tV⟩
  exact⟨q,by(simp<;>omega)⟩
 rintro az aa _ ⟨rfl,d⟩;refine vC az (fun A=>?_)<|fun A=>?_
 ·have d:=d.1 A;refine aA<|jJ q A<|ns<|ar q<|aS ?_;exact gB SN q ⟨_,[],Q,q,j,⟨C,s,e⟩,(Ow.nil _ _ _ _ _),(by rw[lW]<;>simp(disch:=first|omega|assumption|simp) only [SS,reduceIte,A])⟩
 have d:=mt d.2 (by rw[A];simp);refine aA<|gV q A<|aM<|aA<|nM q<|su ((lX (a:=kind) 256 q q (by rw[u3];rfl) u5 q).to<|BZ _)<|bh [[(b8<|UInt8.ofNat kind)],[(b8 0)],[(b8 0)],[(b8 0)],[(b8 0)],[(b8 0)],[(b8 0)],[(b8 0)]] fM gK Xz Xz q q Fz Fz q Xz ?_;intro i bd ae ao H B;have f:aX [] w i:=aX.new j _ ae;obtain⟨ab,l,v,aK,G⟩:=oI e ae ao H;have s:=tT s v;have C:=Sx l C j.size;have h1:=(h1.sub l).o H;have j:=j.k H;have e:=G;have B:=Ow.cL (m:=8) (lo:=aX [] w) (R:=ab) (T:=dh) (xs:=[UInt8.ofNat kind,0,0,0,0,0,0,0]) B ⟨_,_,q,⟨q,tV⟩,⟨_,_,q,⟨q,tV⟩,⟨_,_,q,⟨q,tV⟩,⟨_,_,q,⟨q,tV⟩,⟨_,_,q,⟨q,tV⟩,⟨_,_,q,⟨q,tV⟩,⟨_,_,q,⟨q,tV⟩,⟨_,_,q,⟨q,tV⟩,q⟩⟩⟩⟩⟩⟩⟩⟩ q Xz f aK;refine mv q<|sL q fM h1.eA<|su (rA (a:=16) (b:=body.length) q q Xx)<|su (dR (a:=16+body.length) 18446744073709551616 q (by rw[u3];rfl) mr q Xx)<|bh [[(uZ ((16+body.length:Nat):Int))]] oP jh Xz Xz q q ⟨q,tV⟩ ⟨q,tV⟩ q Xz ?_;intro aZ be ai aV H O;have au:=e _ ai;obtain⟨h1,B,e,j⟩:=k4 H h1 B e j;have O:=Ls.cL (m:=1) (R:=ab) (T:=dQ) (xs:=[16+body.length]) O ⟨_,_,q,⟨q,Xx⟩,q⟩ q Xz au;refine Rz zY q (qE e O Xm) ?_;rintro ad aR ⟨ap,aq,a7,rfl,H,⟨l,v,G⟩,E,U⟩;have aF:∀x,ah ap=some x->ah (.slice (some ⟨i,0,none⟩) 8 8)≠some x:=fun x aQ aL=>by have a9:=B.lt x aL;have ba:=(E.2 x aQ).1.elim (fun h=>by simp at h) id;omega
 have s:=tT s v;have C:=Sx l C j.size;have E:=E.lower<|aX.lift (S':=[]) j;have h1:=(h1.sub l).o H;have B:=(B.sub l v).o H;have j:=j.k H;have e:=G;have g:=cP<|[16+body.length];rw[U]at g;try simp only[LL,Nat.reduceAdd,Nat.reduceMul]at g
 obtain⟨aJ,M,Y,V⟩:=E.freeze;have h1:=h1.sub<|fun b D _=>M b D;have B:=B.jd M Y<|dM aF;have s:=fun b D=>(Y b D).elim (s b)<|fun aO=>aX.up aC b (E.2 b aO).1;have C:=fun b D u=>M b<|C b D u;have e:Up aR aJ:=fun b D=>M b<|e b D;have E:=V;refine fO (sz:=1) (by rfl) fM gK q q B E (fun _ h _=>h) e (aX.new j) Xm Xm ?_;intro bc bg aY l v G o H K _ L;have p:=B;have s:=tT s v;have C:=Sx l C j.size;have h1:=(h1.sub l).md H K;have e:=e.md H;have j:=j.cE H<|Sy p;have e:=G;clear G l v K L;refine an q<|ns<|m2 q q<|fO (sz:=1) (by rfl) fM gK q q o h1 (fun _ h _=>h) e (aX.new j) Xm Xm ?_;intro aD a2 aw l v G k H K _ L;have am:=o;have s:=tT s v;have C:=Sx l C j.size;have e:=e.md H;have j:=j.cE H<|Sy am;have e:=G;clear G l v K L;refine an q<|aH<|bf ?_;obtain⟨X,S⟩:∃r,AG ([UInt8.ofNat kind,0,0,0,0,0,0,0] ++ nums [16+body.length] ++ body)=r:=⟨_,q⟩;have a1:=S
 try simp only[List.nil_append,U]at S
 refine wV (fun(y:Value) (b:Ly)=>[(5,y)]) (fun y b I=>LQ Q w [] I fun N=>Ow dh 5 (aX [] w) I N y b/\b.length<=1048608/\AG b=X) (fun y b=>(8-b.length%8)%8) aD ((([UInt8.ofNat kind,0,0,0,0,0,0,0]) ++ aq) ++ body) ?_ ?_ ?_
 ·exact⟨q,tV⟩
 ·exact⟨aw,s,C,e,j,k,Xh,(by have aN:=S;exact aN)⟩
 clear j e s C h1 O E k;rintro y b aa a3 ⟨z,s,C,e,j,J,aT,c⟩;refine aH<|nM q<|sL q fM J.eA<|su (EZ (a:=b.length) (b:=8) q q Xx)<|su (fU (a:=(b.length%8)) (b:=0) q q)<|nt ?_;refine kS q ?_ ?_
 ·intro P;refine aM<|aA<|bf<|aI<|mv q<|bh [[(b8 0)]] fM gK Xz Xz q q ⟨q,tV⟩ ⟨q,tV⟩ q Xz ?_;intro a0 a4 aj aW H W;have av:=e _ aj;obtain⟨J,e,j⟩:=k3 H J e j;have W:=Ls.cL (m:=1) (R:=z) (T:=dh) (xs:=[0]) W ⟨_,_,q,⟨q,tV⟩,q⟩ q Xz av;refine fO (sz:=1) (by rfl) fM gK q q J W (fun _ h _=>h) e (aX.new j) Xm Xm ?_;intro aE a5 ay l v G al H K _ L;have ag:=J;have s:=tT s v;have C:=Sx l C j.size;have e:=e.md H;have j:=j.cE H<|Sy ag;have e:=G;clear G l v K L;refine cV q<|aG<|bG<|aA ?_;refine tc aE (b ++ ([0])) Xh ⟨q,tV⟩ ⟨ay,s,C,e,j,al,Xh,(by rw[ZO P]at c;exact c)⟩
 intro P;refine cM<|bB<|bB<|dJ<|aA<|nM q<|ar q ?_;exact gB y q ⟨_,b,z,q,j,⟨C,s,e⟩,J,(by(try (simp(disch:=first|omega|assumption|simp) only [adF,SS,reduceIte,A,U,P]at c));rw[lW]<;>simp(disch:=first|omega|assumption|simp) only [SS,reduceIte,A,U,S,P,<- c])⟩
theorem pq (e:Up w Q) (kind:Nat) (g:kind<9223372036854775808) {f:Value} {body:Ly} (h1:Ls dh w Q f body) (h:body.length<=1048576) :
  Calls Zp 98 #[(.int .i64 kind),f] w fun d c=>∃b:Value,∃a:List UInt8,d = .returned (b)/\Md [] w c/\Ls dh c Q b a/\lW kind body=a :=
 (afH e kind g h1 h).mono fun d c ⟨b,a,Q2,he,hm,kq,k0,hF⟩=>⟨b,a,he,hm,k0.ls kq.2.1<|aX.up e,hF⟩
theorem PZ (a:Up w Q) {J:Value} (d:FO) (B:FO.ok d) (s:Ls dh w Q J d.ay) (au:d.ay.length<=1048000) :
  Calls Zp 116 #[.agg (FO.cells d J).toArray] w fun M u=>∃X:Value,∃S:List UInt8,M = .returned (X)/\Md [] w u/\Ls dh u Q X S/\ej d=S:=by
 have o:=a;refine nR (n:=21) [] a Tryz.func116 q q q fun ap e V _=>ns<|e7 (cs:=(FO.cells d J)) q q ?_;intro aj aE L ak j ag;have l:=a _ L;have L:=lv e.size L;obtain⟨s,a,e⟩:=k3 j s a e;refine an q<|aH ?_;have v:=ag;refine nL [(0,true),(1,true),(2,true),(3,true),(4,true),(5,true),(6,true),(7,true),(8,true),(9,true),(10,true),(11,true),(14,true),(15,true),(12,false),(13,false)] [16,17,18] mixed ?_;intro aI O;have A:=O;refine my (aF q adf)<|mz (fun u D=>(aD q aV (v.o D) q).to (b:=(uZ d.bZ)) q) ?_;have av:d.bZ<18446744073709551616:=B.1;refine my (aF q adg)<|mz (fun u D=>(aD q aV (v.o D) q).to (b:=(uZ d.bF)) q) ?_;have aw:d.bF<18446744073709551616:=B.2.1;refine my (aF q adh)<|mz (fun u D=>(aD q aV (v.o D) q).to (b:=(uZ d.cH)) q) ?_;have az:d.cH<18446744073709551616:=B.2.2.1;refine my (aF q adi)<|mz (fun u D=>(aD q aV (v.o D) q).to (b:=(uZ d.entry)) q) ?_;have aA:d.entry<18446744073709551616:=B.2.2.2.1;refine my (aF q adj)<|mz (fun u D=>(aD q aV (v.o D) q).to (b:=(uZ d.array)) q) ?_;have aB:d.array<18446744073709551616:=B.2.2.2.2.1;refine my (aF q adk)<|mz (fun u D=>(aD q aV (v.o D) q).to (b:=(uZ d.aZ)) q) ?_;have aC:d.aZ<18446744073709551616:=B.2.2.2.2.2;refine my (aF q adl)<|mz (fun u D=>(aD q eH (v.o D) q).to (b:=J) q) ?_;obtain⟨s,a,e⟩:=k3 O s a e;refine jc ?_ rfl;refine bh [[(uZ d.bZ)],[(uZ d.bF)],[(uZ d.cH)],[(uZ d.entry)],[(uZ d.array)],[(uZ d.aZ)]] oP jh Xz Xz q q Fz Fz q Xz ?_;intro t aJ ad y j K;have f:=a _ ad;obtain⟨s,a,e,A⟩:=k4 j s a e A;have K:=Ls.cL (m:=6) (R:=Q) (T:=dQ) (xs:=[d.bZ,d.bF,d.cH,d.entry,d.array,d.aZ]) K ⟨_,_,q,⟨q,Xx⟩,⟨_,_,q,⟨q,Xx⟩,⟨_,_,q,⟨q,Xx⟩,⟨_,_,q,⟨q,Xx⟩,⟨_,_,q,⟨q,Xx⟩,⟨_,_,q,⟨q,Xx⟩,q⟩⟩⟩⟩⟩⟩ q Xz f;refine aG ⟨q,A,?_⟩;refine jc ?_ rfl;refine Rz zY q (qE a K Xm) ?_;rintro M am ⟨W,r,z,rfl,j,⟨g,I,F⟩,C,P⟩;have aq:∀b,ah W=some b->b∈[]\/_:=fun b G=>Or.inr<|lv A.size<|(C.2 b G).1.elim (fun h=>by simp at h) id;have V:=tT V I;have C:=C.lower<|aX.lift (S':=[]) e;have s:=(s.sub g).o j;obtain⟨e,A⟩:=k2 j e A;have a:=F;have H:=cP<|[d.bZ,d.bF,d.cH,d.entry,d.array,d.aZ];rw[P]at H;try simp only[LL,Nat.reduceAdd,Nat.reduceMul]at H
 refine aG ⟨q,A,?_⟩;refine di ?_;refine fO (sz:=1) (by rfl) fM gK q q C s (fun _ h _=>h) a (aX.new e) Xx Xx ?_;intro al p ai g I F E j ae _ k;have Y:=C;have V:=tT V I;have a:=a.md j;have e:=e.cE j<|Sy Y;have a:=F;clear F g I ae k;obtain⟨i,U,x,N⟩:=E.freeze;have V:=fun b G=>(x b G).elim (V b)<|fun af=>aX.up o b (E.2 b af).1;have a:Up p i:=fun b G=>U b<|a b G;have E:=N;refine Rz abO q (pq a 1 Xx E Xm) ?_;rintro M ao ⟨aa,ab,rfl,j,Z,c⟩;have e:=e.k j;refine ar q ?_;exact gB aa q ⟨_,ab,q,e,(Z.sub<|fun b G _=>V b G),(by rw[ej]<;>simp(disch:=first|omega|assumption|simp) only [SS,reduceIte,P,c])⟩
theorem LU (a:Up w Q) {K:Value} (d:FR) (N:FR.ok d) (s:Ls dh w Q K d.ay) (ap:d.ay.length<=1048000) :
  Calls Zp 164 #[.agg (FR.cells d K).toArray] w fun O A=>∃Z:Value,∃Y:List UInt8,O = .returned (Z)/\Md [] w A/\Ls dh A Q Z Y/\dD d=Y:=by
 have l:=a;refine nR (n:=15) [] a Tryz.func164 q q q fun am e v _=>ns<|e7 (cs:=(FR.cells d K)) q q ?_;intro y az L ai D i;have k:=a _ L;have L:=lv e.size L;obtain⟨s,a,e⟩:=k3 D s a e;refine an q<|aH ?_;have B:=i;refine nL [(0,true),(1,true),(2,true),(3,true),(4,true),(5,true),(8,true),(9,true),(6,false),(7,false)] [10,11,12] mixed ?_;intro aA H;have u:=H;refine my (aF q adx)<|mz (fun A G=>(aD q aV (B.o G) q).to (b:=(uZ d.bZ)) q) ?_;have aq:d.bZ<18446744073709551616:=N.1;refine my (aF q ady)<|mz (fun A G=>(aD q aV (B.o G) q).to (b:=(uZ d.bF)) q) ?_;have au:d.bF<18446744073709551616:=N.2.1;refine my (aF q adz)<|mz (fun A G=>(aD q aV (B.o G) q).to (b:=(uZ d.dat)) q) ?_;have av:d.dat<18446744073709551616:=N.2.2;refine my (aF q ad1)<|mz (fun A G=>(aD q eH (B.o G) q).to (b:=K) q) ?_;obtain⟨s,a,e⟩:=k3 H s a e;refine jc ?_ rfl;refine bh [[(uZ d.bZ)],[(uZ d.bF)],[(uZ d.dat)]] oP jh Xz Xz q q Fz Fz q Xz ?_;intro z aB g aj D M;have p:=a _ g;obtain⟨s,a,e,u⟩:=k4 D s a e u;have M:=Ls.cL (m:=3) (R:=Q) (T:=dQ) (xs:=[d.bZ,d.bF,d.dat]) M ⟨_,_,q,⟨q,Xx⟩,⟨_,_,q,⟨q,Xx⟩,⟨_,_,q,⟨q,Xx⟩,q⟩⟩⟩ q Xz p;refine aG ⟨q,u,?_⟩;refine jc ?_ rfl;refine Rz zY q (qE a M Xm) ?_;rintro O aC ⟨ad,aw,ao,rfl,D,⟨J,I,F⟩,C,X⟩;have c:∀b,ah ad=some b->b∈[]\/_:=fun b j=>Or.inr<|lv u.size<|(C.2 b j).1.elim (fun h=>by simp at h) id;have v:=tT v I;have C:=C.lower<|aX.lift (S':=[]) e;have s:=(s.sub J).o D;obtain⟨e,u⟩:=k2 D e u;have a:=F;have S:=cP<|[d.bZ,d.bF,d.dat];rw[X]at S;try simp only[LL,Nat.reduceAdd,Nat.reduceMul]at S
 refine aG ⟨q,u,?_⟩;refine di ?_;refine fO (sz:=1) (by rfl) fM gK q q C s (fun _ h _=>h) a (aX.new e) Xx Xx ?_;intro ak o x J I F E D ae _ ag;have P:=C;have v:=tT v I;have a:=a.md D;have e:=e.cE D<|Sy P;have a:=F;clear F J I ae ag;obtain⟨f,r,t,U⟩:=E.freeze;have v:=fun b j=>(t b j).elim (v b)<|fun af=>aX.up l b (E.2 b af).1;have a:Up o f:=fun b j=>r b<|a b j;have E:=U;refine Rz abO q (pq a 2 Xx E Xm) ?_;rintro O al ⟨V,W,rfl,D,aa,ab⟩;have e:=e.k D;refine ar q ?_;exact gB V q ⟨_,W,q,e,(aa.sub<|fun b j _=>v b j),(by rw[dD]<;>simp(disch:=first|omega|assumption|simp) only [SS,reduceIte,X,ab])⟩
theorem LP (e:Up w Q) {J:Value} (a:BP) (ad:BP.ok a) (s:Ls dQ w Q J a.bg) (ay:a.bg.length<=100000) :
  Calls Zp 123 #[.agg (BP.cells a J).toArray] w fun I K=>∃Y:Value,∃X:List UInt8,I = .returned (Y)/\Md [] w K/\Ls dh K Q Y X/\dw a=X:=by
 have r:=e;refine nR (n:=12) [] e Tryz.func123 q q q fun av j B _=>ns<|e7 (cs:=(BP.cells a J)) q q ?_;intro am aB L ap C l;have p:=e _ L;have L:=lv j.size L;obtain⟨s,e,j⟩:=k3 C s e j;refine an q<|aH ?_;have D:=l;refine nL [(0,true),(1,true),(4,true),(5,true),(2,false),(3,false)] [6,7,8,9] mixed ?_;intro aC G;have A:=G;refine my (aF q adm)<|mz (fun K d=>(aD q aV (D.o d) q).to (b:=(uZ a.next)) q) ?_;have az:a.next<18446744073709551616:=ad;refine my (aF q adn)<|mz (fun K d=>(aD q qL (D.o d) q).to (b:=J) q) ?_;obtain⟨s,e,j⟩:=k3 G s e j;refine jc ?_ rfl;refine bh [[(uZ a.next)]] oP jh Xz Xz q q ⟨q,tV⟩ ⟨q,tV⟩ q Xz ?_;intro ao aE k aq C M;have ai:=e _ k;obtain⟨s,e,j,A⟩:=k4 C s e j A;have M:=Ls.cL (m:=1) (R:=Q) (T:=dQ) (xs:=[a.next]) M ⟨_,_,q,⟨q,Xx⟩,q⟩ q Xz ai;refine aG ⟨q,A,?_⟩;refine jc ?_ rfl;refine Rz zY q (qE e M Xm) ?_;rintro I aI ⟨f,aj,aw,rfl,C,⟨i,F,H⟩,v,U⟩;have g:∀b,ah f=some b->b∈[]\/_:=fun b u=>Or.inr<|lv A.size<|(v.2 b u).1.elim (fun h=>by simp at h) id;have s:=s.sub i;have B:=tT B F;have v:=v.lower<|aX.lift (S':=[]) j;obtain⟨s,j,A⟩:=k3 C s j A;have e:=H;have N:=cP<|[a.next];rw[U]at N;try simp only[LL,Nat.reduceAdd,Nat.reduceMul]at N
 refine aG ⟨q,A,?_⟩;refine di ?_;refine Rz zY q (jZ e s Xx) ?_;rintro I aJ ⟨z,ak,rfl,C,aa,c⟩;obtain⟨v,e,j⟩:=k3 C v e j;have O:=cP a.bg;rw[c]at O;try simp only[LL,Nat.reduceAdd,Nat.reduceMul]at O
 refine fO (sz:=1) (by rfl) fM gK q q v aa (fun _ h _=>h) e (aX.new j) Xx Xx ?_;intro aA t al i F H E C ae _ o;have P:=v;have B:=tT B F;have e:=e.md C;have j:=j.cE C<|Sy P;have e:=H;clear H i F ae o;obtain⟨ag,x,y,S⟩:=E.freeze;have B:=fun b u=>(y b u).elim (B b)<|fun af=>aX.up r b (E.2 b af).1;have e:Up t ag:=fun b u=>x b<|e b u;have E:=S;refine Rz abO q (pq e 6 Xx E Xm) ?_;rintro I au ⟨V,W,rfl,C,Z,ab⟩;have j:=j.k C;refine ar q ?_;exact gB V q ⟨_,W,q,j,(Z.sub<|fun b u _=>B b u),(by rw[dw]<;>simp(disch:=first|omega|assumption|simp) only [SS,reduceIte,U,c,ab])⟩
theorem pM (f:Up w Q) (p:Pr) (o:p.name.length+p.value.length<=4611686018427387904) :
  Calls Zp 115 #[.agg (Pr.cells p).toArray] w fun h i=>∃e:List UInt8,h = .returned (str e)/\Md [] w i/\ay p=e:=by
 have c:=Md.refl [] w;have H:=f;refine enter (n:=9) Tryz.func115 q q q fun j=>ns<|e7 (cs:=(Pr.cells p)) q q ?_;intro l m d G g C;have D:=f _ d;have d:=lv c.size d;have c:=c.k g;refine an q<|ns<|sf q pL<|sl (u:=(str p.name)) q mM C q<|su (yY (a:=p.name) (b:=(([61]:Ly))) q q Xm)<|sf q uL<|sl (u:=(str p.value)) q mM C q<|su (yY (a:=(p.name ++ (([61]:Ly)))) (b:=p.value) q q Xm)<|ar q ?_;exact gB (str<|(p.name ++ (([61]:Ly))) ++ p.value) q ⟨(p.name ++ (([61]:Ly))) ++ p.value,q,c,(by rw[ay]<;>simp(disch:=first|omega|assumption|simp) only [SS,reduceIte])⟩
theorem aee (f:Up w Q) {j:Value} {l:List (List UInt8)} (e:Ls (FI dh) w Q j l) (I:∀x∈l,x.length<=1048576) :
  Calls Zp 65 #[j] w fun y t=>∃h:Nat,y = .returned (uZ h)/\Md [] w t/\h<18446744073709551616/\lH 0 l=h:=by
 have K:=e.eJ;have W:=f;refine nR (n:=19) [] f Tryz.func65 q q q fun z g s o=>ns<|an q<|ns<|cV q<|nt<|aH<|ns<|cV q<|nt<|bf ?_;obtain⟨h,k⟩:∃r,lH 0 l=r:=⟨_,q⟩;have R:=k
 try simp only[List.nil_append]at k
 refine wV (fun(v:Nat) (i:Nat)=>[(3,(uZ v)),(4,(iZ i)),(0,j)]) (fun v i t=>LQ Q w [] t fun F=>Ls (FI dh) t F j l/\v<18446744073709551616/\lH v (l.drop i)=h) (fun v i=>l.length-i) 0 0 ?_ ?_ ?_
 ·exact Fz
 ·exact⟨Q,s,o,f,g,e,Xx,(by have p:=k;exact p)⟩
 clear g f s o e;rintro v i z M ⟨V,s,o,f,g,e,J,H⟩;refine aH<|ns<|m2 q q<|sL q MJ e.eA<|su (fJ (a:=i) (b:=l.length) q q)<|nt ?_;refine kS q ?_ ?_
 ·intro C;refine aM<|aA<|aH<|bf<|aI<|m2 q q<|mv q<|su (bQ (i:=i) 1 q q MJ ah1 e.eA Xx) ?_;obtain⟨d,m⟩:=gF (l:=l) (i:=i) Xx;obtain⟨L,P,D⟩:=e.get m;obtain⟨u,rfl,B⟩:=P;have D:At _ j (i*1) [u]:=D;refine su ((dS (kk:=i*1) 0 q q eH D q).to (b:=u) q)<|Rz agD q (ZU f B (by exact lv (I _<|List.mem_of_getElem? m) Xz)) ?_;rintro y c ⟨G,rfl,E,T,A⟩;obtain⟨e,f,g⟩:=k3 E e f g;refine su (adZ (a:=v) (b:=G) 18446744073709551616 q q q q Xx)<|cV q<|aG ?_;refine bG<|aA<|aI<|mv q<|su (rA (a:=i) (b:=1) q q Xx)<|an q ?_;refine tc (v ^^^ G) (i+1) Xx ⟨(cW q (by rfl)),(cW q Xx),q,tV⟩ ⟨V,s,o,f,g,e,(FM Xk Xk),(by have p:=H;simp(disch:=first|omega|assumption|simp) only [BO,Rf m,SS,reduceIte,C,m,A]at p;exact p)⟩
 intro C;refine cM<|bB<|bB<|dJ<|aA<|nM q<|ar q ?_;exact gB (uZ v) q ⟨v,q,g,Xk,(by(try (simp(disch:=first|omega|assumption|simp) only [BO,SS,reduceIte,C]at H));simp(disch:=first|omega|assumption|simp) only [SS,reduceIte,k,C,<- H])⟩
theorem xH (e:Up w Q) (kind:Nat) (a5:kind<9223372036854775808) {I:Value} {l:List sF} (h1:Ls GC w Q I l) (a8:l.length<=50000) :
  Calls Zp 53 #[(iZ kind),I] w fun X u=>∃am:Value,∃S:List UInt8,X = .returned (am)/\Md [] w u/\Ls dh u Q am S/\dc kind l=S:=by
 have a4:=h1.eJ;have aF:=e;refine nR (n:=36) [] e Tryz.func53 q q q fun ab j E J=>ns<|an q<|aH<|aH ?_;refine RN (fun b=>[(12,.bool b),(0,(iZ kind)),(1,I),(4,SN)]) (fun b u=>w=u/\(b=true↔(kind≠4/\kind≠5))) ?_ ?_
 ·refine mv q<|su (fU (a:=kind) (b:=4) q q)<|mv q ?_;refine ck (t:=9) q (fun V=>?_)<|fun V=>?_
  ·have aB:=dq V;refine sg V (aP q)<|sg V (fU (a:=kind) (b:=5) q q)<|su (bC q V q) ?_;refine ck (t:=12) q (fun C=>?_)<|fun C=>?_
   ·have ap:=dq C;refine aG ?_;refine⟨q,jn true ?_ ?_⟩
    ·exact⟨sN q C,q,q,q,tV⟩
    exact⟨q,by(simp<;>omega)⟩
   have ap:=dF C;refine aG ?_;refine⟨q,jn false ?_ ?_⟩
   ·exact⟨sN q C,q,q,q,tV⟩
   exact⟨q,by(simp<;>omega)⟩
  have aB:=dF V;refine sk V<|sk V<|su (aU q V q)<|aG ?_;refine⟨q,jn false ?_ ?_⟩
  ·exact Fz
  exact⟨q,by(simp<;>omega)⟩
 rintro az ab _ ⟨rfl,O⟩;refine vC az (fun C=>?_)<|fun C=>?_
 ·have O:=O.1 C;refine aA<|jJ q C<|ns<|ar q<|aS ?_;exact gB SN q ⟨_,[],q,j,(Ls.nil _ _ _),(by rw[dc]<;>simp(disch:=first|omega|assumption|simp) only [SS,reduceIte,C])⟩
 have O:=mt O.2 (by rw[C];simp);refine aA<|gV q C<|aM<|aA<|ns<|an q<|aH<|ns<|cV q<|nt<|bf ?_;obtain⟨S,N⟩:∃r,mV l=r:=⟨_,q⟩;have aO:=N
 try simp only[List.nil_append]at N
 refine kV (fun(A:Value) (b:Ly) (i:Nat)=>[(5,A),(6,(iZ i)),(0,(iZ kind)),(1,I)]) (fun A b i u=>LQ Q w [] u fun ae=>Ow dh 5 (aX [] w) u ae A b/\Ls GC u ae I l/\(b.length=16*i/\i<=l.length)/\b ++ mV (l.drop i)=S) (fun A b i=>l.length-i) SN ([]:Ly) 0 ?_ ?_ ?_
 ·exact Fz
 ·exact⟨Q,E,J,e,j,(Ow.nil _ _ _ _ _),h1,⟨q,by omega⟩,(by have M:=N;exact M)⟩
 clear j e E J h1;rintro A b i ab Z ⟨af,E,J,e,j,s,h1,aQ,o⟩;refine aH<|ns<|m2 q q<|sL q ae1 h1.eA<|su (fJ (a:=i) (b:=l.length) q q)<|nt ?_;refine kS q ?_ ?_
 ·intro H;refine aM<|aA<|aH<|bf ?_;have D:=h1;have W:∀b∈(ah A).toList,¬af b:=rN s;refine iy [(0,true),(1,true),(2,true),(3,true),(4,true),(5,true),(6,true),(7,true),(8,true),(9,true),(10,true),(11,false),(12,false)] [13,14] (fun u=>Md (ah A).toList Z u) mixed Xj ?_;intro ba U;refine⟨U.mono Oj,?_⟩;have f:=U.mono (T:=(ah A).toList) Oj;have aT:∀b,ah A=some b->b∈(ah A).toList\/Z.heap.size<=b:=fun b x=>Or.inl (by simp[x]);refine mo q<|mo q<|mo q<|my (bQ (i:=i) 2 q q ae1 ag6 h1.eA Xx) ?_;obtain⟨v,G⟩:=gF (l:=l) (i:=i) Xx;obtain⟨a6,aC,L⟩:=D.get G;obtain⟨_,rfl,aL⟩:=MG aC;have L:At _ I (i*2) (sF.cells v):=L;refine mz (fun u F=>iX q (L.md F<|D.AF G W) adb)<|mz (fun u F=>(dS (kk:=i*2) 0 q q aV (L.md F<|D.AF G W) q).to (b:=(uZ v.first)) q) ?_;have a9:v.first<18446744073709551616:=aL.1;refine mo q<|mo q<|my (bQ (i:=i) 2 q q ae1 ag6 h1.eA Xx) ?_;obtain⟨a7,au,K⟩:=D.get G;obtain⟨_,rfl,aE⟩:=MG au;have K:At _ I (i*2) (sF.cells v):=K;refine mz (fun u F=>iX q (K.md F<|D.AF G W) ade)<|mz (fun u F=>(dS (kk:=i*2) 1 q q aV (K.md F<|D.AF G W) q).to (b:=(uZ v.tail)) q) ?_;have aZ:v.tail<18446744073709551616:=aE.2;obtain⟨s,h1,e,j⟩:=k4 U s h1 e j;refine jc ?_ rfl;refine bh [[(uZ v.first)],[(uZ v.tail)]] oP jh Xz Xz q q Fz Fz q Xz ?_;intro aY a0 ao aR B P;have av:=e _ ao;obtain⟨s,h1,e,j,f⟩:=k5 B s h1 e j f;have P:=Ls.cL (m:=2) (R:=af) (T:=dQ) (xs:=[v.first,v.tail]) P ⟨_,_,q,⟨q,Xx⟩,⟨_,_,q,⟨q,Xx⟩,q⟩⟩ q Xz av;refine aG ⟨q,f,?_⟩;refine jc ?_ rfl;refine Rz zY q (jZ e P Xm) ?_;rintro X a1 ⟨aW,aN,rfl,B,g,d⟩;obtain⟨s,h1,e,j,f⟩:=k5 B s h1 e j f;have ad:=cP<|[v.first,v.tail];rw[d]at ad;try simp only[LL,Nat.reduceAdd,Nat.reduceMul]at ad
  refine aG ⟨q,f,?_⟩;refine di ?_;refine fO (sz:=1) (by rfl) fM gK q q s g (fun _ h _=>h) e (aX.new j) Xx Xx ?_;intro aJ a2 aw Y al aa aq B ak _ aD;have z:=s;have E:=tT E al;have J:=Sx Y J j.size;have h1:=(h1.sub Y).md B ak;have e:=e.md B;have j:=j.cE B<|Sy z;have e:=aa;clear aa Y al ak aD;refine cV q<|aG ?_;refine bG<|aA<|aI<|mv q<|su (rA (a:=i) (b:=1) q q Xx)<|an q ?_;refine iW aJ (b ++ aN) (i+1) Xx ⟨q,(cW q Xx),q,q,tV⟩ ⟨aw,E,J,e,j,aq,h1,Xh,(by have M:=o;simp(disch:=first|omega|assumption|simp) only [zk,List.append_nil,FG G,SS,reduceIte,C,H,G,d]at M;(simp only[List.append_assoc,List.cons_append,List.nil_append,List.singleton_append]at M ⊢;exact M))⟩
 intro H;refine cM<|bB<|bB<|dJ<|aA<|ns<|m2 q q ?_;obtain⟨ay,ai,aj,c⟩:=s.freeze;have E:=fun b x=>(aj b x).elim (E b)<|fun aK=>aX.up aF b (s.2 b aK).1;have e:Up Z ay:=fun b x=>ai b<|e b x;have s:=c;refine Rz abO q (pq e kind Xx s Xx) ?_;rintro X a3 ⟨p,y,rfl,B,k,ag⟩;have j:=j.k B;refine ar q ?_;exact gB p q ⟨_,y,q,j,(k.sub<|fun b x _=>E b x),(by(try (simp(disch:=first|omega|assumption|simp) only [zk,List.append_nil,SS,reduceIte,C,H,ag]at o));rw[dc]<;>simp(disch:=first|omega|assumption|simp) only [SS,reduceIte,C,N,H,ag,<- o])⟩
theorem LR (j:Up w Q) {L:Value} (e:lu) (af:lu.ok e) (x:Ls rM w Q L e.bg) (bX:e.bg.length<=50000) :
  Calls Zp 64 #[.agg (lu.cells e L).toArray] w fun ag A=>∃aO:Value,∃am:List UInt8,ag = .returned (aO)/\Md [] w A/\Ls dh A Q aO am/\bT e=am:=by
 have bk:=j;refine nR (n:=47) [] j Tryz.func64 q q q fun a4 s d F=>ns<|e7 (cs:=(lu.cells e L)) q q ?_;intro aj bo ap bF C v;have D:=j _ ap;have ap:=lv s.size ap;obtain⟨x,j,s⟩:=k3 C x j s;refine an q<|aH ?_;have N:=x;have K:=v;refine nL [(0,true),(1,true),(2,true),(3,true),(4,true),(5,true),(8,true),(9,true),(6,false),(7,false)] [10,11] mixed ?_;intro b3 Y;have E:=Y;refine my (aF q acV)<|mz (fun A B=>(aD q aV (K.o B) q).to (b:=(uZ e.seq)) q) ?_;have bY:e.seq<18446744073709551616:=af.1;refine my (aF q acW)<|mz (fun A B=>(aD q aV (K.o B) q).to (b:=(uZ e.aY)) q) ?_;have b0:e.aY<18446744073709551616:=af.2.1;refine my (aF q acX)<|mz (fun A B=>(aD q aV (K.o B) q).to (b:=(uZ e.mono)) q) ?_;have b1:e.mono<18446744073709551616:=af.2.2.1;refine my (aF q acY)<|my (fZ u27 qs q Xz) ?_;have b2:e.aR.length=16:=af.2.2.2.1;have S:Ls dh bo Q (.slice (some ⟨aj,3,none⟩) 16 16) e.aR:=Ls.vQ (h1:=fun _=>rfl) (R:=Q) (xs:=e.aR) (m:=16) (o:=3) v D Xk Xz (jM Xk)<|fun _ _=>trivial;obtain⟨x,v,S,j,s⟩:=k5 Y x v S j s;refine jc ?_ rfl;refine bh [[(uZ e.seq)],[(uZ e.aY)],[(uZ e.mono)]] oP jh Xz Xz q q Fz Fz q Xz ?_;intro bz b4 aS br C g;have a9:=j _ aS;obtain⟨x,v,S,j,s,E⟩:=k6 C x v S j s E;have g:=Ls.cL (m:=3) (R:=Q) (T:=dQ) (xs:=[e.seq,e.aY,e.mono]) g ⟨_,_,q,⟨q,Xx⟩,⟨_,_,q,⟨q,Xx⟩,⟨_,_,q,⟨q,Xx⟩,q⟩⟩⟩ q Xz a9;refine aG ⟨q,E,?_⟩;refine jc ?_ rfl;refine Rz zY q (qE j g Xm) ?_;rintro ag b5 ⟨a7,a8,bC,rfl,C,⟨V,J,P⟩,Z,aa⟩;have bu:∀b,ah a7=some b->b∈[]\/_:=fun b H=>Or.inr<|lv E.size<|(Z.2 b H).1.elim (fun h=>by simp at h) id;have D:=V _ D v.lt;have d:=tT d J;have F:=Sx V F s.size;have Z:=Z.lower<|aX.lift (S':=[]) s;have x:=(x.sub V).o C;have v:=v.o C;have S:=(S.sub V).o C;obtain⟨s,E⟩:=k2 C s E;have j:=P;have az:=cP<|[e.seq,e.aY,e.mono];rw[aa]at az;try simp only[LL,Nat.reduceAdd,Nat.reduceMul]at az
 refine aG ⟨q,E,?_⟩;refine di ?_;refine fO (sz:=1) (by rfl) fM gK q q Z S (fun _ h _=>h) j (aX.new s) Xx Xx ?_;intro bL bM bc V J P X C U _ ab;have z:=Z;have D:=V _ D v.lt;have d:=tT d J;have F:=Sx V F s.size;have x:=(x.sub V).md C U;have v:=v.md C<|aW z v;have j:=j.md C;have s:=s.cE C<|Sy z;have j:=P;clear P V J U ab;refine an q<|nM q<|sf q acZ<|sl (u:=(uZ e.xor)) q aV v q ?_;have bH:e.xor<18446744073709551616:=af.2.2.2.2;refine bh [[(uZ e.xor)]] oP jh Xz Xz q q ⟨q,tV⟩ ⟨q,tV⟩ q Xz ?_;intro bA bN aT bs C al;have ba:=j _ aT;obtain⟨x,v,X,j,s⟩:=k5 C x v X j s;have al:=Ls.cL (m:=1) (R:=bc) (T:=dQ) (xs:=[e.xor]) al ⟨_,_,q,⟨q,Xx⟩,q⟩ q Xz ba;refine Rz zY q (jZ j al Xm) ?_;rintro ag bO ⟨bw,a3,rfl,C,y,W⟩;obtain⟨x,v,X,j,s⟩:=k5 C x v X j s;have p:=cP<|[e.xor];rw[W]at p;try simp only[LL,Nat.reduceAdd,Nat.reduceMul]at p
 refine fO (sz:=1) (by rfl) fM gK q q X y (fun _ h _=>h) j (aX.new s) Xm Xm ?_;intro bl bP Bk V J P aK C U _ ab;have ay:=X;have D:=V _ D v.lt;have d:=tT d J;have F:=Sx V F s.size;have x:=(x.sub V).md C U;have v:=v.md C<|aW ay v;have j:=j.md C;have s:=s.cE C<|Sy ay;have j:=P;clear P V J U ab;refine an q<|aH<|ns<|cV q<|nt<|bf ?_;obtain⟨am,k⟩:∃r,nums [e.seq,e.aY,e.mono] ++ e.aR ++ nums [e.xor] ++ nT e.bg=r:=⟨_,q⟩;have bp:=k
 try simp only[List.nil_append,aa,W]at k
 refine kV (fun(M:Value) (b:Ly) (i:Nat)=>[(3,M),(4,(iZ i)),(1,(.pointer<|some ⟨aj,0,none⟩))]) (fun M b i A=>LQ Q w [] A fun av=>Ow dh 5 (aX [] w) A av M b/\bK A aj (lu.cells e L) 138/\Ls rM A av L e.bg/\av aj/\(b.length=48+16*i/\i<=e.bg.length)/\b ++ nT (e.bg.drop i)=am) (fun M b i=>e.bg.length-i) bl ((a8 ++ e.aR) ++ a3) 0 ?_ ?_ ?_
 ·exact Fz
 ·exact⟨Bk,d,F,j,s,aK,v,x,D,⟨by simp;omega,by omega⟩,(by have ai:=k;exact ai)⟩
 clear s j d F D x v S g al y aK;rintro M b i a4 au ⟨aw,d,F,j,s,G,v,x,D,bq,aq⟩;refine aH<|nM q<|sf q EM<|sl (u:=L) q TK v q<|sL q ae2 x.eA<|su (fJ (a:=i) (b:=e.bg.length) q q)<|nt ?_;refine kS q ?_ ?_
 ·intro f;refine aM<|aA<|aH<|bf ?_;have c:=G;have K:=v;have N:=x;have ak:∀b∈(ah M).toList,¬aw b:=rN G;refine iy [(0,true),(1,true),(2,true),(3,true),(4,true),(5,true),(6,true),(7,true),(8,true),(9,true),(10,true),(11,true),(12,true),(13,false),(14,false)] [15,16] (fun A=>Md (ah M).toList au A) mixed Xj ?_;intro bR Y;refine⟨Y.mono Oj,?_⟩;have E:=Y.mono (T:=(ah M).toList) Oj;have bv:∀b,ah M=some b->b∈(ah M).toList\/au.heap.size<=b:=fun b H=>Or.inl (by simp[H]);refine mo q<|my (aF q EM)<|mz (fun A B=>(aD q TK (K.md B<|aW c K) q).to (b:=L) q)<|mo q<|my (bQ (i:=i) 2 q q ae2 ag4 x.eA Xx) ?_;obtain⟨I,O⟩:=gF (l:=e.bg) (i:=i) Xx;obtain⟨bD,a5,ad⟩:=N.get O;obtain⟨_,rfl,bi⟩:=xS a5;have ad:At _ L (i*2) (eG.cells I):=ad;refine mz (fun A B=>iX q (ad.md B<|N.AF O ak) acT)<|mz (fun A B=>(dS (kk:=i*2) 0 q q aV (ad.md B<|N.AF O ak) q).to (b:=(uZ I.pos)) q) ?_;have bI:I.pos<18446744073709551616:=bi.1;refine my (aF q EM)<|mz (fun A B=>(aD q TK (K.md B<|aW c K) q).to (b:=L) q)<|mo q<|my (bQ (i:=i) 2 q q ae2 ag4 x.eA Xx) ?_;obtain⟨bE,a6,ae⟩:=N.get O;obtain⟨_,rfl,bj⟩:=xS a6;have ae:At _ L (i*2) (eG.cells I):=ae;refine mz (fun A B=>iX q (ae.md B<|N.AF O ak) acU)<|mz (fun A B=>(dS (kk:=i*2) 1 q q aV (ae.md B<|N.AF O ak) q).to (b:=(uZ I.bZ)) q) ?_;have bJ:I.bZ<18446744073709551616:=bj.2;obtain⟨G,v,x,j,s⟩:=k5 Y G v x j s;refine jc ?_ rfl;refine bh [[(uZ I.pos)],[(uZ I.bZ)]] oP jh Xz Xz q q Fz Fz q Xz ?_;intro Bx bS aU bt C ao;have bb:=j _ aU;obtain⟨G,v,x,j,s,E⟩:=k6 C G v x j s E;have ao:=Ls.cL (m:=2) (R:=aw) (T:=dQ) (xs:=[I.pos,I.bZ]) ao ⟨_,_,q,⟨q,Xx⟩,⟨_,_,q,⟨q,Xx⟩,q⟩⟩ q Xz bb;refine aG ⟨q,E,?_⟩;refine jc ?_ rfl;refine Rz zY q (jZ j ao Xm) ?_;rintro ag bU ⟨bx,aP,rfl,C,a0,aE⟩;obtain⟨G,v,x,j,s,E⟩:=k6 C G v x j s E;have t:=cP<|[I.pos,I.bZ];rw[aE]at t;try simp only[LL,Nat.reduceAdd,Nat.reduceMul]at t
  refine aG ⟨q,E,?_⟩;refine di ?_;refine fO (sz:=1) (by rfl) fM gK q q G a0 (fun _ h _=>h) j (aX.new s) Xx Xx ?_;intro bm bV bd V J P aZ C U _ ab;have aB:=G;have D:=V _ D v.lt;have d:=tT d J;have F:=Sx V F s.size;have v:=v.md C<|aW aB v;have x:=(x.sub V).md C U;have j:=j.md C;have s:=s.cE C<|Sy aB;have j:=P;clear P V J U ab;refine cV q<|aG ?_;refine bG<|aA<|aI<|mv q<|su (rA (a:=i) (b:=1) q q Xx)<|an q ?_;refine iW bm (b ++ aP) (i+1) Xx ⟨q,(cW q Xx),q,tV⟩ ⟨bd,d,F,j,s,aZ,v,x,D,Xh,(by have ai:=aq;simp(disch:=first|omega|assumption|simp) only [yw,List.append_nil,DN O,SS,reduceIte,aa,W,f,O,aE]at ai;(simp only[List.append_assoc,List.cons_append,List.nil_append,List.singleton_append]at ai ⊢;exact ai))⟩
 intro f;refine cM<|bB<|bB<|dJ<|aA<|nM q ?_;obtain⟨be,aL,aN,aC⟩:=G.freeze;have d:=fun b H=>(aN b H).elim (d b)<|fun bn=>aX.up bk b (G.2 b bn).1;have j:Up au be:=fun b H=>aL b<|j b H;have G:=aC;refine Rz abO q (pq j 3 Xx G Xx) ?_;rintro ag bW ⟨a2,aQ,rfl,C,a1,aJ⟩;have s:=s.k C;refine ar q ?_;exact gB a2 q ⟨_,aQ,q,s,(a1.sub<|fun b H _=>d b H),(by(try (simp(disch:=first|omega|assumption|simp) only [yw,List.append_nil,SS,reduceIte,aa,W,f,aJ]at aq));rw[bT]<;>simp(disch:=first|omega|assumption|simp) only [SS,reduceIte,aa,W,k,f,aJ,<- aq])⟩
set_option maxHeartbeats 4000000 in
theorem FX (e:Up w Q) (h:eI) (K:eI.ok h) (depth:Nat) (cX:depth<18446744073709551616) :
  Calls Zp 54 #[.agg (eI.cells h).toArray,(uZ depth)] w fun N M=>∃bc:Value,∃bb:List UInt8,∃a7:Nat->Prop,N = .returned (bc)/\Md [] w M/\iQ w M Q a7/\Ow dh 5 (aX [] w) M a7 bc bb/\zH h depth=bb:=by
 have bM:=e;refine nR (n:=64) [] e Tryz.func54 q q q fun bW j V G=>ns<|e7 (cs:=(eI.cells h)) q q ?_;intro z c0 aq cq C s;have F:=e _ aq;have aq:=lv j.size aq;obtain⟨e,j⟩:=k2 C e j;refine an q<|ns<|bh [[(b8 76)],[(b8 80)],[(b8 75)],[(b8 83)],[(b8 72)],[(b8 72)],[(b8 82)],[(b8 72)]] fM gK Xz Xz q q Fz Fz q Xz ?_;intro ap c1 a5 bL C ad;have b4:z≠ap:=(by have:=s.lt;omega);have aw:aX [] w ap:=aX.new j _ a5;obtain⟨a8,v,B,av,A⟩:=oI e a5 bL C;have F:=v _ F s.lt;have V:=tT V B;have G:=Sx v G j.size;obtain⟨s,j⟩:=k2 C s j;have e:=A;refine XH fM u5 q (show bK _ _ (([76,80,75,83,72,72,82,72]:Ly).map b8) _ from ad) (By.cL (show bK _ _ (([76,80,75,83,72,72,82,72]:Ly).map b8) _ from ad) q Xz) ?_;intro bV C ba;have bg:=ad;have E:∀b∈[ap],¬a8 b:=hI av;have s:=s.md C Zq;have e:=e.md C;have j:=j.step C<|hI aw;obtain⟨bT,ae,a9,af⟩:=SR (Q:=a8) ba;have F:=ae _ F;have V:=fun b D=>(a9 b D).elim (V b)<|fun bU=>aX.up bM b<|bU ▸ aw;have G:=fun b D x=>ae b<|G b D x;have e:Up bV bT:=fun b D=>ae b<|e b D;clear bg E ae a9 ba av;refine sf q acO<|sl (u:=(.int .u32 h.eS)) q eX s q ?_;have cY:h.eS<4294967296:=K.1;refine su (dR (a:=h.eS) 18446744073709551616 q (by rw[mC];rfl) mr q Xx)<|Rz abP q (pn e h.eS Xx 4 Xx Xx) ?_;rintro N c2 ⟨ck,bz,rfl,C,be,aU⟩;obtain⟨s,af,e,j⟩:=k4 C s af e j;have ay:=eM h.eS 4;rw[aU]at ay;try simp only[LL,Nat.reduceAdd,Nat.reduceMul]at ay
 refine ais (lo:=aX [] w) (sz:=1) (by rfl) fM gK q q af be e (aX.new j) q Xx Xm Xm ?_;intro cZ cb cl v B A aa C H;have F:=v _ F s.lt;have V:=tT V B;have G:=Sx v G j.size;obtain⟨s,j⟩:=k2 C s j;have e:=A;refine an q<|nM q<|sf q Ph<|sl (u:=(.int .u32 h.cr)) q eX s q ?_;have ct:h.cr<4294967296:=K.2.1;refine su (dR (a:=h.cr) 18446744073709551616 q (by rw[mC];rfl) mr q Xx)<|Rz abP q (pn e h.cr Xx 4 Xx Xx) ?_;rintro N cc ⟨b5,bp,rfl,C,bj,az⟩;obtain⟨s,aa,e,j⟩:=k4 C s aa e j;have aA:=eM h.cr 4;rw[az]at aA;try simp only[LL,Nat.reduceAdd,Nat.reduceMul]at aA
 refine fO (sz:=1) (by rfl) fM gK q q aa bj (fun _ h _=>h) e (aX.new j) Xm Xm ?_;intro cD cd bD v B A f C E _ H;have a3:=aa;have F:=v _ F s.lt;have V:=tT V B;have G:=Sx v G j.size;have s:=s.md C<|aW a3 s;have e:=e.md C;have j:=j.cE C<|Sy a3;have e:=A;clear A v B E H;refine an q<|nM q<|sf q Px<|sl (u:=(iZ h.state)) q gQ s q ?_;have cu:h.state<9223372036854775808:=K.2.2.1;refine su ((lX (a:=h.state) 256 q q (by rw[u3];rfl) u5 q).to<|BZ _)<|bh [[(b8<|UInt8.ofNat h.state)],[(b8 0)],[(b8 0)],[(b8 0)],[(b8 0)],[(b8 0)],[(b8 0)],[(b8 0)]] fM gK Xz Xz q q Fz Fz q Xz ?_;intro bZ ce bv ch C al;have bA:=e _ bv;obtain⟨s,f,e,j⟩:=k4 C s f e j;have al:=Ls.cL (m:=8) (R:=bD) (T:=dh) (xs:=[UInt8.ofNat h.state,0,0,0,0,0,0,0]) al ⟨_,_,q,⟨q,tV⟩,⟨_,_,q,⟨q,tV⟩,⟨_,_,q,⟨q,tV⟩,⟨_,_,q,⟨q,tV⟩,⟨_,_,q,⟨q,tV⟩,⟨_,_,q,⟨q,tV⟩,⟨_,_,q,⟨q,tV⟩,⟨_,_,q,⟨q,tV⟩,q⟩⟩⟩⟩⟩⟩⟩⟩ q Xz bA;refine fO (sz:=1) (by rfl) fM gK q q f al (fun _ h _=>h) e (aX.new j) Xm Xm ?_;intro O Z d v B A c C E _ H;have aK:=f;have F:=v _ F s.lt;have V:=tT V B;have G:=Sx v G j.size;have s:=s.md C<|aW aK s;have e:=e.md C;have j:=j.cE C<|Sy aK;have e:=A;clear A v B E H;refine an q<|aH ?_;have P:=s;have bJ:∀b∈(ah O).toList,¬d b:=rN c;refine iy [(0,true),(1,true),(2,true),(4,true),(5,true),(7,true),(8,true),(10,true),(11,true),(3,false),(6,false),(9,false)] [12,13] (fun M=>Md (ah O).toList Z M) mixed Xj ?_;intro cf S;refine⟨S.mono Oj,?_⟩;have I:=S.mono (T:=(ah O).toList) Oj;have l:∀b,ah O=some b->b∈(ah O).toList\/Z.heap.size<=b:=fun b D=>Or.inl (by simp[D]);refine mo q<|my (aF q acP)<|my (fZ u27 qs q Xz) ?_;have cv:h.bE.length=16:=K.2.2.2.1;have ag:Ls dh Z d (.slice (some ⟨z,3,none⟩) 16 16) h.bE:=Ls.vQ (h1:=fun _=>rfl) (R:=d) (xs:=h.bE) (m:=16) (o:=3) s F Xk Xz (jM Xk)<|fun _ _=>trivial;refine my (aF q acQ)<|my (fZ u27 qs q Xz) ?_;have cw:h.bO.length=16:=K.2.2.2.2.1;have ab:Ls dh Z d (.slice (some ⟨z,19,none⟩) 16 16) h.bO:=Ls.vQ (h1:=fun _=>rfl) (R:=d) (xs:=h.bO) (m:=16) (o:=19) s F Xk Xz (jM Xk)<|fun _ _=>trivial;refine my (aF q PC)<|my (fZ u27 qs q Xz) ?_;have cx:h.aR.length=16:=K.2.2.2.2.2.1;have U:Ls dh Z d (.slice (some ⟨z,35,none⟩) 16 16) h.aR:=Ls.vQ (h1:=fun _=>rfl) (R:=d) (xs:=h.aR) (m:=16) (o:=35) s F Xk Xz (jM Xk)<|fun _ _=>trivial;refine my (aF q acR)<|my (fZ u27 qs q Xz) ?_;have cy:h.seq.length=16:=K.2.2.2.2.2.2.1;have J:Ls dh Z d (.slice (some ⟨z,51,none⟩) 16 16) h.seq:=Ls.vQ (h1:=fun _=>rfl) (R:=d) (xs:=h.seq) (m:=16) (o:=51) s F Xk Xz (jM Xk)<|fun _ _=>trivial;obtain⟨s,c,ag,ab,U,J,e,j⟩:=k8 S s c ag ab U J e j;refine jc ?_ rfl;refine fO (sz:=1) (by rfl) fM gK q q c ag (fun _ h _=>h) e (aX.new j) Xm Xm ?_;intro bN cg cm v B A ai C E _ H;have p:∀b,ah bN=some b->b∈(ah O).toList\/_:=fun b D=>(H b D).elim (l b)<|fun h=>Or.inr<|lv I.size h;have aL:=c;have F:=v _ F s.lt;have V:=tT V B;have G:=Sx v G j.size;have s:=s.md C<|aW aL s;have ab:=(ab.sub v).md C E;have U:=(U.sub v).md C E;have J:=(J.sub v).md C E;have e:=e.md C;have j:=j.cE C<|Sy aL;have I:=I.cE C l;have e:=A;clear A v B E H;refine aG ⟨q,I,?_⟩;refine jc ?_ rfl;refine fO (sz:=1) (by rfl) fM gK q q ai ab (fun _ h _=>h) e (aX.new j) Xm Xm ?_;intro bQ cH cn v B A aj C E _ H;have r:∀b,ah bQ=some b->b∈(ah O).toList\/_:=fun b D=>(H b D).elim (p b)<|fun h=>Or.inr<|lv I.size h;have aM:=ai;have F:=v _ F s.lt;have V:=tT V B;have G:=Sx v G j.size;have s:=s.md C<|aW aM s;have U:=(U.sub v).md C E;have J:=(J.sub v).md C E;have e:=e.md C;have j:=j.cE C<|Sy aM;have I:=I.cE C p;have e:=A;clear A v B E H;refine aG ⟨q,I,?_⟩;refine jc ?_ rfl;refine fO (sz:=1) (by rfl) fM gK q q aj U (fun _ h _=>h) e (aX.new j) Xm Xm ?_;intro bS cI co v B A ak C E _ H;have b2:∀b,ah bS=some b->b∈(ah O).toList\/_:=fun b D=>(H b D).elim (r b)<|fun h=>Or.inr<|lv I.size h;have aN:=aj;have F:=v _ F s.lt;have J:=J.sub v;have V:=tT V B;have G:=Sx v G j.size;have s:=s.md C<|aW aN s;have J:=J.md C E;have e:=e.md C;have j:=j.cE C<|Sy aN;have I:=I.cE C r;have e:=A;clear A v B E H;refine aG ⟨q,I,?_⟩;refine di ?_;refine fO (sz:=1) (by rfl) fM gK q q ak J (fun _ h _=>h) e (aX.new j) Xm Xm ?_;intro cG bx a4 v B A g C E _ H;have aO:=ak;have F:=v _ F s.lt;have V:=tT V B;have G:=Sx v G j.size;have s:=s.md C<|aW aO s;have e:=e.md C;have j:=j.cE C<|Sy aO;have e:=A;clear A v B E H;refine an q<|nM q<|sf q dO<|su (fZ kQ gE q Xz) ?_;have cz:(h.n.length=20/\∀y∈h.n,y<18446744073709551616):=K.2.2.2.2.2.2.2.1;have bi:Ls dQ bx a4 (.slice (some ⟨z,67,none⟩) 20 20) h.n:=Ls.vQ (h1:=fun _=>rfl) (R:=a4) (xs:=h.n) (m:=20) (o:=67) s F (by simp_all) Xz (rj (by simp_all)) (by simp_all);refine Rz zY q (jZ e bi Xx) ?_;rintro N cJ ⟨b6,bq,rfl,C,bk,aY⟩;have s:=s.o C;obtain⟨g,e,j⟩:=k3 C g e j;have aB:=cP h.n;rw[aY]at aB;try simp only[LL,Nat.reduceAdd,Nat.reduceMul]at aB
 refine fO (sz:=1) (by rfl) fM gK q q g bk (fun _ h _=>h) e (aX.new j) Xm Xm ?_;intro D0 cK bF v B A W C E _ H;have aP:=g;have V:=tT V B;have G:=Sx v G j.size;have s:=s.md C<|aW aP s;have e:=e.md C;have j:=j.cE C<|Sy aP;have e:=A;clear A v B E H;refine mv q<|bh [[(uZ depth)]] oP jh Xz Xz q q ⟨q,tV⟩ ⟨q,tV⟩ q Xz ?_;intro b0 cM Bx ci C am;have bB:=e _ Bx;obtain⟨s,W,e,j⟩:=k4 C s W e j;have am:=Ls.cL (m:=1) (R:=bF) (T:=dQ) (xs:=[depth]) am ⟨_,_,q,⟨q,Xx⟩,q⟩ q Xz bB;refine Rz zY q (jZ e am Xm) ?_;rintro N cN ⟨b7,br,rfl,C,Bk,aZ⟩;have s:=s.o C;obtain⟨W,e,j⟩:=k3 C W e j;have aC:=cP<|[depth];rw[aZ]at aC;try simp only[LL,Nat.reduceAdd,Nat.reduceMul]at aC
 refine fO (sz:=1) (by rfl) fM gK q q W Bk (fun _ h _=>h) e (aX.new j) Xm Xm ?_;intro Y a6 bG v B A L C E _ H;have aQ:=W;have V:=tT V B;have G:=Sx v G j.size;have s:=s.md C<|aW aQ s;have e:=e.md C;have j:=j.cE C<|Sy aQ;have e:=A;clear A v B E H;refine an q<|aH ?_;have P:=s;have au:=L;have bJ:∀b∈(ah Y).toList,¬bG b:=rN L;refine iy [(0,true),(1,true),(2,true),(3,true),(6,true),(7,true),(8,true),(4,false),(5,false)] [9,10,11] (fun M=>Md (ah Y).toList a6 M) mixed Xj ?_;intro cO S;refine⟨S.mono Oj,?_⟩;have I:=S.mono (T:=(ah Y).toList) Oj;have t:∀b,ah Y=some b->b∈(ah Y).toList\/a6.heap.size<=b:=fun b D=>Or.inl (by simp[D]);refine mo q<|my (aF q PD)<|mz (fun M k=>(aD q eX (P.md k<|aW au P) q).to (b:=(.int .u32 h.bP)) q) ?_;have cA:h.bP<4294967296:=K.2.2.2.2.2.2.2.2.1;refine my (dR (a:=h.bP) 18446744073709551616 q (by rw[mC];rfl) mr q Xx)<|my (aF q PE)<|mz (fun M k=>(aD q eX (P.md k<|aW au P) q).to (b:=(.int .u32 h.bR)) q) ?_;have cB:h.bR<4294967296:=K.2.2.2.2.2.2.2.2.2.1;refine my (dR (a:=h.bR) 18446744073709551616 q (by rw[mC];rfl) mr q Xx) ?_;obtain⟨s,L,e,j⟩:=k4 S s L e j;refine jc ?_ rfl;refine Rz abP q (pn e h.bP Xx 4 Xx Xx) ?_;rintro N cQ ⟨b9,bs,rfl,C,bl,a0⟩;obtain⟨s,L,e,j,I⟩:=k5 C s L e j I;have aE:=eM h.bP 4;rw[a0]at aE;try simp only[LL,Nat.reduceAdd,Nat.reduceMul]at aE
 refine aG ⟨q,I,?_⟩;refine jc ?_ rfl;refine fO (sz:=1) (by rfl) fM gK q q L bl (fun _ h _=>h) e (aX.new j) Xm Xm ?_;intro bw cR cp v B A i C E _ H;have b3:∀b,ah bw=some b->b∈(ah Y).toList\/_:=fun b D=>(H b D).elim (t b)<|fun h=>Or.inr<|lv I.size h;have aS:=L;have V:=tT V B;have G:=Sx v G j.size;have s:=s.md C<|aW aS s;have e:=e.md C;have j:=j.cE C<|Sy aS;have I:=I.cE C t;have e:=A;clear A v B E H;refine aG ⟨q,I,?_⟩;refine di ?_;refine Rz abP q (pn e h.bR Xx 4 Xx Xx) ?_;rintro N cS ⟨bX,bt,rfl,C,bm,a1⟩;have s:=s.o C;obtain⟨i,e,j⟩:=k3 C i e j;have aI:=eM h.bR 4;rw[a1]at aI;try simp only[LL,Nat.reduceAdd,Nat.reduceMul]at aI
 refine fO (sz:=1) (by rfl) fM gK q q i bm (fun _ h _=>h) e (aX.new j) Xm Xm ?_;intro ca cT bH v B A X C E _ H;have aT:=i;have V:=tT V B;have G:=Sx v G j.size;have s:=s.md C<|aW aT s;have e:=e.md C;have j:=j.cE C<|Sy aT;have e:=A;clear A v B E H;refine an q<|nM q<|sf q IG<|sl (u:=(uZ h.cF)) q aV s q ?_;have cC:h.cF<18446744073709551616:=K.2.2.2.2.2.2.2.2.2.2;refine bh [[(uZ h.cF)]] oP jh Xz Xz q q ⟨q,tV⟩ ⟨q,tV⟩ q Xz ?_;intro b1 cU bd cj C ao;have bC:=e _ bd;obtain⟨X,e,j⟩:=k3 C X e j;have ao:=Ls.cL (m:=1) (R:=bH) (T:=dQ) (xs:=[h.cF]) ao ⟨_,_,q,⟨q,Xx⟩,q⟩ q Xz bC;refine Rz zY q (jZ e ao Xm) ?_;rintro N cV ⟨bY,bu,rfl,C,bn,a2⟩;obtain⟨X,e,j⟩:=k3 C X e j;have aJ:=cP<|[h.cF];rw[a2]at aJ;try simp only[LL,Nat.reduceAdd,Nat.reduceMul]at aJ
 refine fO (sz:=1) (by rfl) fM gK q q X bn (fun _ h _=>h) e (aX.new j) Xm Xm ?_;intro C3 cW bI v B A bf C E _ H;have bo:=X;have V:=tT V B;have G:=Sx v G j.size;have e:=e.md C;have j:=j.cE C<|Sy bo;have e:=A;clear A v B E H;refine ar q ?_;exact gB C3 q ⟨_,((((((((((((([76,80,75,83,72,72,82,72]) ++ bz) ++ bp) ++ ([UInt8.ofNat h.state,0,0,0,0,0,0,0])) ++ h.bE) ++ h.bO) ++ h.aR) ++ h.seq) ++ bq) ++ br) ++ bs) ++ bt) ++ bu),bI,q,j,⟨G,V,e⟩,bf,(by rw[zH]<;>simp(disch:=first|omega|assumption|simp) only [SS,reduceIte,aU,az,aY,aZ,a0,a1,a2])⟩
theorem iA:gH Zp 91 2=true:=Xj
theorem VO:cO Zp 115=true:=Xj
theorem ajw:cO Zp 163=true:=Xj
theorem ZS (f:Up w Q) (p:Pr) (L:p.name.length<=9223372036854775807) :
  Calls Zp 114 #[.agg (Pr.cells p).toArray] w fun m z=>∃y:Value,∃x:List UInt8,∃o:Nat,m = .returned (.tuple #[y,(iZ o)])/\Md [] w z/\Ls dh z Q y x/\o<9223372036854775808/\ez p=(x,o):=by
 have F:=f;refine nR (n:=15) [] f Tryz.func114 q q q fun A e W _=>ns<|e7 (cs:=(Pr.cells p)) q q ?_;intro E J j V g D;have B:=f _ j;have j:=lv e.size j;obtain⟨f,e⟩:=k2 g f e;refine cV q<|an q<|aH<|ns<|sf q pL<|sl (u:=(str p.name)) q mM D q<|Rz ajw q (ZV f p.name Xx) ?_;rintro m c ⟨T,rfl,g,l⟩;obtain⟨D,f,e⟩:=k3 g D f e;refine su (jo q)<|nt ?_;refine cJ q (fun R=>?_)<|fun R=>?_
 ·have G:=ir R;refine ns<|cV q<|ar q<|aS ?_;exact zK [SN,(iN 1)] q ⟨_,[],1,q,e,(Ls.nil _ _ _),Xx,(by rw[ez]<;>simp(disch:=first|omega|assumption|simp) only [SS,reduceIte,l,G])⟩
 have G:=iq R;refine aM<|aA<|aH<|ns<|sf q uL<|sl (u:=(str p.value)) q mM D q<|su (lY (s:=p.value) q u9)<|su (jQ (a:=p.value.length) (b:=256) q q)<|nt ?_;refine kS q ?_ ?_
 ·intro C;refine ns<|cV q<|ar q<|aS ?_;exact zK [SN,(iN 21)] q ⟨_,[],21,q,e,(Ls.nil _ _ _),Xx,(by rw[ez]<;>simp(disch:=first|omega|assumption|simp) only [SS,reduceIte,l,G,C])⟩
 intro C;refine aM<|aA<|ns ?_;have I:=(fH (s:=p.name) (by simp_all)).2;refine su (bU (Pr.cells p) q (by exact iA) D q)<|Rz VO q (pM f p Xx) ?_;rintro m d ⟨t,rfl,g,v⟩;obtain⟨f,e⟩:=k2 g f e;have H:=ga p;rw[v]at H;try simp only[LL,Nat.reduceAdd,Nat.reduceMul]at H
 refine kG (s:=t) u9 fM u5 q (by simp[maxLen];omega) ?_;intro r K g i h;have i:=Ls.of_by (Q:=Q) i<|fun b P _=>f b (h b P).1;have h:∀b,ah r=some b->w.heap.size<=b:=fun b P=>lv e.size (h b P).1;have e:=e.k g;refine cV q<|ar q ?_;exact zK [r,(iN 0)] q ⟨_,t,0,q,e,(i.sub<|fun b P _=>W b P),Xx,(by rw[ez]<;>simp(disch:=first|omega|assumption|simp) only [SS,reduceIte,l,G,C,v])⟩
theorem ou:fW Zp 91 2=true:=Xj
theorem CR:vF Zp 91 2 32=true:=Xj
theorem aje:cO Zp 114=true:=Xj
theorem TP:pairT Zp 91 9=true:=Xj
theorem aic:fG Zp 91=some [(0,1),(1,1)]:=Xj
theorem nW:Zp.underlying 47=some (.slice 91):=Xj
theorem z91:dX Zp 91=some [.string ByteArray.empty,.string ByteArray.empty]:=Xj
set_option maxHeartbeats 4000000 in
theorem ZT (j:Up w Q) {L:Value} {l:List Pr} (e:Ls mq w Q L l) (cC:l.length<=1000) (b6:∀q∈l,q.name.length<=9223372036854775807) :
  Calls Zp 59 #[L] w fun aL A=>∃bt:Value,∃aN:List Pr,∃aq:Nat,aL = .returned (.tuple #[bt,(iZ aq)])/\Md [] w A/\Ls mq A Q bt aN/\aq<9223372036854775808/\jN l=(aN,aq):=by
 have cA:=e.eJ;have s:=Md.refl [] w;have b0:=j;have P:∀b,Q b->Q b:=fun _ h=>h;have E:∀b,Q b->b<w.heap.size->Q b:=fun _ h _=>h;refine enter (n:=95) Tryz.func59 rfl rfl rfl fun aj=>ns<|cV rfl<|an rfl<|aH<|nM rfl<|sL rfl nW e.eA<|su (fD (a:=l.length) (b:=0) rfl rfl)<|nt ?_;refine cJ rfl (fun a6=>?_)<|fun a6=>?_
 ·have Z:=dq a6;refine ns<|cV rfl<|ar rfl<|aS ?_;exact kM (vs:=[SN,(iN 16)]) trivial rfl ⟨rfl,rfl,tV⟩ rfl ⟨_,[],16,rfl,s,(Ls.nil _ _ _),Xx,(by rw[jN]<;>simp(disch:=first|omega|assumption|simp) only [SS,reduceIte,Z])⟩
 have Z:=dF a6;refine aM<|aA<|ns<|an rfl<|aH<|ns<|cV rfl<|nt<|bf ?_;obtain⟨aN,ah⟩:∃r,KU l []=r:=⟨_,rfl⟩;have b8:=ah
 try simp only[List.nil_append]at ah
 refine kV (fun(v:Value) (o:List Pr) (i:Nat)=>[(4,v),(5,(iZ i)),(0,L)]) (fun v o i A=>LQ Q w [] A fun K=>Ow mq 91 (aX [] w) A K v o/\Ls mq A K L l/\(o.length<=i/\i<=l.length)/\(∀q∈o,q.name.length<=1000000/\q.value.length<=1000000)/\KU (l.drop i) o=aN) (fun v o i=>l.length-i) SN ([]:List Pr) 0 ?_ ?_ ?_
 ·exact⟨rfl,rfl,rfl,tV⟩
 ·exact⟨Q,P,E,j,s,(Ow.nil _ _ _ _ _),e,⟨by simp,by omega⟩,Oj,(by have N:=ah;exact N)⟩
 clear s j P E e;rintro v o i aj cD ⟨b4,P,E,j,s,u,e,cb,aE,ad⟩;refine aH<|ns<|m2 rfl rfl<|sL rfl nW e.eA<|su (fJ (a:=i) (b:=l.length) rfl rfl)<|nt ?_;refine cJ rfl (fun a7=>?_)<|fun a7=>?_
 ·have W:=dq a7;refine aM<|aA<|aH<|bf<|aH<|ns<|m2 rfl rfl<|su (bQ (i:=i) 2 rfl rfl nW ou e.eA Xx) ?_;obtain⟨g,M⟩:=gF (l:=l) (i:=i) Xx;obtain⟨c4,bY,aF⟩:=e.get M;obtain⟨_,rfl⟩:=kP bY;have aF:At _ L (i*2) (Pr.cells g):=aF;refine su (fI (kk:=i*2) (Pr.cells g) 0 rfl rfl (by exact iA) aF rfl) ?_;have bx:=b6 _<|List.mem_of_getElem? M;refine Rz aje rfl (ZS j g Xx) ?_;rintro aL cF ⟨bT,bU,aV,rfl,I,S,ch,ae⟩;obtain⟨u,e,j,s⟩:=k4 I u e j s;refine mv rfl<|se rfl rfl<|se rfl rfl<|cV rfl<|cV rfl<|aG ?_;refine aA<|nM rfl<|su (fU (a:=aV) (b:=0) rfl rfl)<|nt ?_;refine cJ rfl (fun a8=>?_)<|fun a8=>?_
  ·have x:=dq a8;refine nM rfl<|cV rfl<|ar rfl<|aS<|bS<|aS<|aS<|bS<|aS ?_;exact kM (vs:=[SN,(iZ aV)]) trivial rfl ⟨rfl,rfl,tV⟩ rfl ⟨_,[],aV,rfl,s,(Ls.nil _ _ _),Xk,(by(try (simp(disch:=first|omega|assumption|simp) only [KV,NU M,SS,reduceIte,Z,W,M,ae,x]at ad));rw[jN]<;>simp(disch:=first|omega|assumption|simp) only [SS,reduceIte,Z,ah,W,M,ae,x,<- ad])⟩
  have x:=dF a8;refine aM<|aA<|ns ?_;have ao:=NU (o:=o) M;simp only[ae]at ao;rw[if_neg x,ad]at ao;have bq:g.name.length<=1000000/\g.value.length<=1000000:=ach (by rw[ae];simp only;omega);refine an rfl<|aH ?_;refine vh (fun(B:Nat)=>[(8,(iZ B)),(0,L),(4,v),(5,(iZ i))]) (fun B A=>LQ Q w [] A fun K=>Ls mq A K L l/\Ow mq 91 (aX [] w) A K v o/\B<=o.length/\kJ (ay g) o 0=B) ?_ ?_
  ·clear s j P E u e S;rintro B aj cG ⟨bo,P,E,j,s,e,u,cd,bz⟩;refine aA<|aH<|aH ?_;refine vh (fun(au:Bool)=>[(63,(.bool au)),(0,L),(4,v),(5,(iZ i)),(8,(iZ B))]) (fun au A=>LQ Q w [] A fun K=>Ls mq A K L l/\Ow mq 91 (aX [] w) A K v o/\(au=true↔(B<o.length/\(o.getD B {name:=[],value:=[]}).pb=g.pb))) ?_ ?_
   ·clear s j P E e u;rintro au aj cH ⟨bp,P,E,j,s,e,u,be⟩;have br:=bz;refine aA ?_;refine cJ rfl (fun Bk=>?_)<|fun Bk=>?_
    ·have aY:=Bk;refine cM<|bB<|dJ<|aA<|aI<|mv rfl<|su (rA (a:=i) (b:=1) rfl rfl Xx)<|an rfl ?_;refine iW v o (i+1) Xx ⟨rfl,(cW rfl Xx),rfl,tV⟩ ⟨bp,P,E,j,s,u,e,⟨by omega,by omega⟩,aE,(by have hi:AA g o=o:=(by unfold AA;simp only[br];rw[if_pos (be.1 aY)]);rw[hi]at ao;exact ao.symm)⟩
    have aY:=Bk;refine aM<|aA<|nM rfl<|su (dI (us:=[]) (cs:=(Pr.cells<|({name:=[],value:=[]}:Pr))) [] z91 aic rfl rfl trivial trivial rfl rfl)<|bh [(Pr.cells<|({name:=[],value:=[]}:Pr))] nW CR Xz Xz rfl rfl ⟨rfl,tV⟩ ⟨rfl,tV⟩ rfl Xz ?_;intro bE cr bH cg I H;have bV:=j _ bH;obtain⟨e,u,j,s⟩:=k4 I e u j s;have H:=Ls.cL (m:=1) (R:=bp) (T:=mq) (xs:=[({name:=[],value:=[]}:Pr)]) H ⟨_,_,rfl,(zu),rfl⟩ rfl Xz bV;refine fO (sz:=2) (by rfl) nW CR rfl rfl u H (fun _ h _=>h) j (aX.new s) Xm Xm ?_;intro b1 ct bW aO bs bn a1 I X _ bZ;have bF:=u;have P:=tT P bs;have E:=Sx aO E s.size;have e:=(e.sub aO).md I X;have H:=(H.sub aO).md I X;have j:=j.md I;have s:=s.cE I<|Sy bF;have j:=bn;clear bn aO bs X bZ;refine an rfl<|aH<|ns ?_;have cl:(o ++ ([({name:=[],value:=[]}:Pr)])).length=o.length+1:=Oj;refine mv rfl<|sL rfl nW a1.eA<|su (vW (a:=((o ++ ([({name:=[],value:=[]}:Pr)])).length)) (b:=1) 9223372036854775808 rfl rfl rfl Xx)<|an rfl<|bf ?_;obtain⟨b7,aD⟩:∃r,kO ((((o ++ ([({name:=[],value:=[]}:Pr)])).length)-1)-B) (((o ++ ([({name:=[],value:=[]}:Pr)])).length)-1) (o ++ ([({name:=[],value:=[]}:Pr)]))=r:=⟨_,rfl⟩;have ca:=aD
    try simp only[List.nil_append,ae]at aD
    refine kV (fun(U:Value) (O:List Pr) (F:Nat)=>[(4,U),(9,(iZ F)),(0,L),(5,(iZ i)),(8,(iZ B))]) (fun U O F A=>LQ Q w [] A fun K=>Ow mq 91 (aX [] w) A K U O/\Ls mq A K L l/\Ls mq A K (.slice (some ⟨bE,0,none⟩) 1 1) ([({name:=[],value:=[]}:Pr)])/\(B<=F/\F<O.length/\O.length=o.length+1)/\(∀q∈O,q.name.length<=1000000/\q.value.length<=1000000)/\kO (F-B) F O=b7) (fun U O F=>F) b1 (o ++ ([({name:=[],value:=[]}:Pr)])) (((o ++ ([({name:=[],value:=[]}:Pr)])).length)-1) ?_ ?_ ?_
    ·exact⟨rfl,rfl,rfl,rfl,rfl,tV⟩
    ·exact⟨bW,P,E,j,s,a1,e,H,⟨by omega,by omega,by omega⟩,(by intro q ap;rcases List.mem_append.1 ap with h|h;exact aE q h;simp at h;subst h;simp),(by have N:=aD;exact N)⟩
    clear s j P E e H a1;rintro U O F aj cu ⟨bl,P,E,j,s,G,e,H,cf,aT,bj⟩;refine aH<|ns<|m2 rfl rfl<|su (jQ (a:=F) (b:=B) rfl rfl)<|nt ?_;refine cJ rfl (fun ba=>?_)<|fun ba=>?_
    ·have bJ:=dq ba;refine aM<|aA<|aH<|bf<|aI<|m2 rfl rfl<|mv rfl<|mv rfl<|su (rS (a:=F) (b:=1) rfl rfl Xx)<|su (bQ (i:=F-1) 2 rfl rfl nW ou G.eA Xx) ?_;obtain⟨ai,a4⟩:=gF (l:=O) (i:=F-1) Xx;obtain⟨ci,bu,y⟩:=G.get a4;obtain⟨_,rfl⟩:=kP bu;have y:At _ U ((F-1)*2) (Pr.cells ai):=y;refine su (fI (kk:=(F-1)*2) (Pr.cells ai) 0 rfl rfl (by exact iA) y rfl)<|su (bQ (i:=F) 2 rfl rfl nW ou G.eA Xx) ?_;obtain⟨b2,bP⟩:=gF (l:=O) (i:=F) Xx;obtain⟨cj,bv,a2⟩:=G.get bP;obtain⟨_,rfl⟩:=kP bv;have a2:At _ U (F*2) (Pr.cells b2):=a2;refine tH (T:=mq) (z:=ai) (i:=F) (c:=(Pr.cells ai)) rfl rfl rfl (by exact iA) G (zu) Xx ?_;intro cv I X al;have ak:=G;have G:=al;have e:=e.md I X;have H:=H.md I X;have j:=j.md I;have s:=s.cE I<|Sy ak;refine aG<|bG<|aA<|aI<|mv rfl<|su (rS (a:=F) (b:=1) rfl rfl Xx)<|an rfl ?_;refine iW U (O.set F ai) (F-1) Xx ⟨rfl,(cW rfl Xx),rfl,rfl,rfl,tV⟩ ⟨bl,P,E,j,s,G,e,H,(by simp only[List.length_set];omega),(by intro q ap;rcases List.mem_or_eq_of_mem_set ap with h|rfl;exact aT q h;exact aT _<|List.mem_of_getElem? a4),(by have N:=bj;rw[Uv Xx,o7 a4]at N;exact N)⟩
    have bJ:=dF ba;refine cM<|bB<|bB<|dJ<|aA<|aI<|m2 rfl rfl<|mv rfl<|mv rfl<|su (bQ (i:=i) 2 rfl rfl nW ou e.eA Xx) ?_;obtain⟨af,aQ⟩:=gF (l:=l) (i:=i) Xx;obtain⟨ck,bw,av⟩:=e.get aQ;obtain⟨_,rfl⟩:=kP bw;have av:At _ L (i*2) (Pr.cells af):=av;refine su (fI (kk:=i*2) (Pr.cells af) 0 rfl rfl (by exact iA) av rfl)<|su (bQ (i:=B) 2 rfl rfl nW ou G.eA Xx) ?_;obtain⟨b3,bR⟩:=gF (l:=O) (i:=B) Xx;obtain⟨cm,bK,a3⟩:=G.get bR;obtain⟨_,rfl⟩:=kP bK;have a3:At _ U (B*2) (Pr.cells b3):=a3;refine tH (T:=mq) (z:=af) (i:=B) (c:=(Pr.cells af)) rfl rfl rfl (by exact iA) G (zu) Xx ?_;intro cw I X al;have ak:=G;have G:=al;have e:=e.md I X;have j:=j.md I;have s:=s.cE I<|Sy ak;refine aG<|bG<|aA<|aI<|mv rfl<|su (rA (a:=i) (b:=1) rfl rfl Xx)<|an rfl ?_;refine iW U (O.set B af) (i+1) Xx ⟨rfl,(cW rfl Xx),rfl,tV⟩ ⟨bl,P,E,j,s,G,e,⟨by rw[List.length_set];omega,by omega⟩,(by intro q ap;rcases List.mem_or_eq_of_mem_set ap with h|rfl;exact aT q h;rw[Option.some.inj (aQ.symm.trans M)];exact bq),(by have hi:AA g o=O.set B g:=(by have N:=bj;rw[aal Xx]at N;have bm:=aD;rw[cl,Nat.add_sub_cancel]at bm;unfold AA;simp only[br];rw[if_neg (fun h=>absurd (be.2 h) (by simpa using aY)),bm,<- N]);have bX:af=g:=Option.some.inj<|aQ.symm.trans M;rw[bX,<- hi];exact ao.symm)⟩
   have V:=e;have ab:=u;refine nL (ml 13) [13,14] mixed ?_;intro cx aa;have Y:=aa;refine mo rfl<|mo rfl<|my (jR rfl nW u.eA)<|my (fJ (a:=B) (b:=o.length) rfl rfl)<|mo rfl ?_;refine LI (t:=53) rfl (fun D=>?_)<|fun D=>?_
   ·have Bx:=dq D;refine Go.Wk.nX _ rfl rfl rfl D (fun A J=>aP rfl)<|Go.Wk.nX _ rfl rfl rfl D (fun A J=>aP rfl)<|Go.Wk.nX _ rfl rfl rfl D (fun A J=>bQ (i:=B) 2 rfl rfl nW ou u.eA Xx) ?_;obtain⟨aJ,aR⟩:=gF (l:=o) (i:=B) Xx;obtain⟨cn,bL,aw⟩:=ab.get aR;obtain⟨_,rfl⟩:=kP bL;have aw:At _ v (B*2) (Pr.cells aJ):=aw;refine Go.Wk.nX _ rfl rfl rfl D (fun A J=>fI (kk:=B*2) (Pr.cells aJ) 0 rfl rfl (by exact iA) (aw.o J) rfl)<|Go.Wk.nX _ rfl rfl rfl D (fun A J=>aP rfl)<|Go.Wk.nX _ rfl rfl rfl D (fun A J=>aP rfl)<|Go.Wk.nX _ rfl rfl rfl D (fun A J=>bQ (i:=i) 2 rfl rfl nW ou e.eA Xx) ?_;obtain⟨co,bM,az⟩:=V.get M;obtain⟨_,rfl⟩:=kP bM;have az:At _ L (i*2) (Pr.cells g):=az;refine Go.Wk.nX _ rfl rfl rfl D (fun A J=>fI (kk:=i*2) (Pr.cells g) 0 rfl rfl (by exact iA) (az.o J) rfl)<|di ?_;obtain⟨e,u,j,s⟩:=k4 aa e u j s;refine sg D (Xb (p:=aJ) (q:=g) TP u9 rfl rfl)<|su (bC rfl D rfl)<|aG ?_;exact⟨rfl,jb ((decide (aJ.pb=g.pb))) ⟨rfl,rfl,rfl,rfl,rfl,tV⟩ ⟨bo,P,E,j,s,e,u,⟨fun h=>⟨by omega,by rw[o7 aR,<- Option.some.inj (M.symm.trans M)];exact dq h⟩,by rintro⟨_,bd⟩;rw[o7 aR,<- Option.some.inj (M.symm.trans M)]at bd;exact decide_eq_true bd⟩⟩⟩
   have Bx:=dF D;refine dK rfl rfl rfl D<|dK rfl rfl rfl D<|dK rfl rfl rfl D<|dK rfl rfl rfl D<|dK rfl rfl rfl D<|dK rfl rfl rfl D<|dK rfl rfl rfl D<|dK rfl rfl rfl D<|di ?_;obtain⟨e,u,j,s⟩:=k4 aa e u j s;refine sk D<|su (aU rfl D rfl)<|aG ?_;exact⟨rfl,jb false ⟨rfl,rfl,rfl,rfl,rfl,tV⟩ ⟨bo,P,E,j,s,e,u,⟨by simp,by rintro⟨cB,bd⟩;omega⟩⟩⟩
  refine bf ?_;obtain⟨aq,am⟩:∃r,kJ (ay g) o 0=r:=⟨_,rfl⟩;have b9:=am
  try simp only[List.nil_append,ae]at am
  refine vm (fun(k:Nat)=>[(8,(iZ k)),(0,L),(4,v),(5,(iZ i))]) (fun k A=>LQ Q w [] A fun K=>Ls mq A K L l/\Ow mq 91 (aX [] w) A K v o/\Ls dh A K bT bU/\k<=o.length/\kJ (ay g) (o.drop k) k=aq) (fun k=>o.length-k) 0 ?_ ?_ ?_
  ·exact⟨rfl,rfl,rfl,rfl,tV⟩
  ·exact⟨b4,P,E,j,s,e,u,S,Xx,(by have N:=am;exact N)⟩
  clear s j P E u e S;rintro k aj ce ⟨a5,P,E,j,s,e,u,S,cc,bc⟩;refine aH<|aH ?_;have V:=e;have ab:=u;refine nL [(0,true),(1,true),(2,true),(3,true),(4,true),(5,true),(6,true),(7,true),(8,true),(10,true),(11,true),(12,true),(13,true),(9,false)] [14,15,16] mixed ?_;intro cy aa;have Y:=aa;refine mo rfl<|mo rfl<|my (jR rfl nW u.eA)<|my (fJ (a:=k) (b:=o.length) rfl rfl)<|mo rfl ?_;refine LI (t:=34) rfl (fun C=>?_)<|fun C=>?_
  ·have bI:=dq C;refine Go.Wk.nX _ rfl rfl rfl C (fun A J=>aP rfl)<|Go.Wk.nX _ rfl rfl rfl C (fun A J=>aP rfl)<|Go.Wk.nX _ rfl rfl rfl C (fun A J=>bQ (i:=k) 2 rfl rfl nW ou u.eA Xx) ?_;obtain⟨aK,f⟩:=gF (l:=o) (i:=k) Xx;obtain⟨cp,bN,aB⟩:=ab.get f;obtain⟨_,rfl⟩:=kP bN;have aB:At _ v (k*2) (Pr.cells aK):=aB;refine Go.Wk.nX _ rfl rfl rfl C (fun A J=>fI (kk:=k*2) (Pr.cells aK) 0 rfl rfl (by exact iA) (aB.o J) rfl)<|Go.Wk.nX _ rfl rfl rfl C (fun A J=>aP rfl)<|Go.Wk.nX _ rfl rfl rfl C (fun A J=>aP rfl)<|Go.Wk.nX _ rfl rfl rfl C (fun A J=>bQ (i:=i) 2 rfl rfl nW ou e.eA Xx) ?_;obtain⟨ag,bk⟩:=gF (l:=l) (i:=i) Xx;obtain⟨cq,bO,aC⟩:=V.get bk;obtain⟨_,rfl⟩:=kP bO;have aC:At _ L (i*2) (Pr.cells ag):=aC;refine Go.Wk.nX _ rfl rfl rfl C (fun A J=>fI (kk:=i*2) (Pr.cells ag) 0 rfl rfl (by exact iA) (aC.o J) rfl) ?_;have b5:=aE _<|List.mem_of_getElem? f;obtain⟨e,u,S,j,s⟩:=k5 aa e u S j s;refine agQ rfl rfl rfl C rfl ?_;have b5:=aE _<|List.mem_of_getElem? f;refine ig rfl rfl rfl C VO rfl (pM j aK Xx) ?_;rintro aL cz ⟨bA,rfl,I,aZ⟩;refine rv ?_;obtain⟨e,u,S,j,s,Y⟩:=k6 I e u S j s Y;have bg:=ga aK;rw[aZ]at bg;try simp only[LL,Nat.reduceAdd,Nat.reduceMul]at bg
   refine aG ⟨rfl,Y,?_⟩;refine di ?_;have ex:=Option.some.inj<|bk.symm.trans M;have bx:ag.name.length<=1000000/\ag.value.length<=1000000:=(by rw[ex];exact bq);refine ig rfl rfl rfl C VO rfl (pM j ag Xx) ?_;rintro aL D0 ⟨bD,rfl,I,a0⟩;refine rv ?_;obtain⟨e,u,S,j,s⟩:=k5 I e u S j s;have bi:=ga ag;rw[a0]at bi;try simp only[LL,Nat.reduceAdd,Nat.reduceMul]at bi
   refine sg C (adS (a:=bA) (b:=bD) rfl rfl)<|su (bC rfl C rfl)<|aG ?_;refine aA ?_;refine cJ rfl (fun a9=>?_)<|fun a9=>?_
   ·have aW:=a9;refine aM<|aA<|bf<|aI<|mv rfl<|su (rA (a:=k) (b:=1) rfl rfl Xx)<|cV rfl<|aG<|bG<|aA ?_;refine sZ (k+1) Xx ⟨(cW rfl Xx),rfl,rfl,rfl,tV⟩ ⟨a5,P,E,j,s,e,u,S,Xx,(by have N:=bc;rw[JB f,if_pos (by rw[<- ex,aZ,a0];exact aW)]at N;exact N)⟩
   have aW:=a9;refine cM<|bB<|bB<|dJ ?_;exact⟨rfl,jb k ⟨(cW rfl Xx),rfl,rfl,rfl,tV⟩ ⟨a5,P,E,j,s,e,u,Xx,(by rw[am,<- bc,JB f,if_neg (by rw[<- ex,aZ,a0];simpa using aW)])⟩⟩
  have bI:=dF C;refine dK rfl rfl rfl C<|dK rfl rfl rfl C<|dK rfl rfl rfl C<|dK rfl rfl rfl C<|dK rfl rfl rfl C<|dK rfl rfl rfl C<|dK rfl rfl rfl C<|dK rfl rfl rfl C<|dK rfl rfl rfl C<|di ?_;obtain⟨e,u,j,s⟩:=k4 aa e u j s;refine sk C<|sk C<|su (aU rfl C rfl)<|nt<|gV rfl rfl<|cM<|bB<|bB<|dJ ?_;exact⟨rfl,jb k ⟨(cW rfl Xx),rfl,rfl,rfl,tV⟩ ⟨a5,P,E,j,s,e,u,Xx,(by rw[am,<- bc,aea Xx])⟩⟩
 have W:=dF a7;refine cM<|bB<|bB<|dJ<|aA<|aH<|nM rfl<|sL rfl nW u.eA<|su (jQ (a:=o.length) (b:=16) rfl rfl)<|nt ?_;refine cJ rfl (fun bb=>?_)<|fun bb=>?_
 ·have d:=dq bb;refine ns<|cV rfl<|ar rfl<|aS ?_;exact kM (vs:=[SN,(iN 21)]) trivial rfl ⟨rfl,rfl,tV⟩ rfl ⟨_,[],21,rfl,s,(Ls.nil _ _ _),Xx,(by(try (simp(disch:=first|omega|assumption|simp) only [KV,SS,reduceIte,Z,W,d]at ad));rw[jN]<;>simp(disch:=first|omega|assumption|simp) only [SS,reduceIte,Z,ah,W,d,<- ad])⟩
 have d:=dF bb;refine aM<|aA<|nM rfl<|cV rfl<|ar rfl ?_;exact kM (vs:=[v,(iN 0)]) trivial rfl ⟨rfl,rfl,tV⟩ rfl ⟨_,o,0,rfl,s,(u.ls (fun b hb=>P b hb)<|aX.up b0),Xx,(by(try (simp(disch:=first|omega|assumption|simp) only [KV,SS,reduceIte,Z,W,d]at ad));rw[jN]<;>simp(disch:=first|omega|assumption|simp) only [SS,reduceIte,Z,ah,W,d,<- ad])⟩
theorem afg:cO Zp 10=true:=Xj
theorem WJ:aJ Zp 33 0=some 0:=Xj
theorem BA:aJ Zp 33 1=some 1:=Xj
theorem WS:iv Zp 22=true:=Xj
theorem pI (g:Up w Q) (k:Int) (m:(-9223372036854775808<=k/\k<9223372036854775808)) (n:Nat) (o:n<9223372036854775808) (p:n<=1000000) :
  Calls Zp 10 #[(iZ (k:Int)),(iZ n)] w fun f h=>∃d:Nat,f = .returned (iZ d)/\Md [] w h/\d<9223372036854775808/\OV k n=d:=by
 have e:=Md.refl [] w;have D:=g;refine enter (n:=14) Tryz.func10 q q q fun i=>ns<|an q<|aH<|nM q<|su (fJ (a:=n) (b:=1) q q)<|nt ?_;refine kS q ?_ ?_
 ·intro c;refine ns<|ar q<|aS ?_;exact gB (iN 0) q ⟨0,q,e,Xx,(by rw[OV]<;>simp(disch:=first|omega|assumption|simp) only [SS,reduceIte,c])⟩
 intro c;refine aM<|aA<|ns<|m2 q q<|su (TW (a:=k) (b:=((n:Nat):Int)) q q Xx)<|mv q ?_;have j:=ahW (k:=k) c;refine su (eB (a:=k.tmod<|((n:Nat):Int)) (b:=((n:Nat):Int)) q q Xx)<|mv q<|su (((TW (a:=k.tmod (((n:Nat):Int))+((n:Nat):Int)) (b:=((n:Nat):Int)) q q Xx).jf (Int.toNat_of_nonneg<|Int.tmod_nonneg _ Xx).symm)) ?_;have l:=Int.tmod_lt_of_pos (k.tmod (n:Int)+(n:Int)) (show(0:Int)<n by omega);refine ar q ?_;exact gB (iZ ((((k.tmod (((n:Nat):Int))+((n:Nat):Int)).tmod<|((n:Nat):Int)).toNat:Nat):Int)) q ⟨((k.tmod (((n:Nat):Int))+((n:Nat):Int)).tmod<|((n:Nat):Int)).toNat,q,e,Xx,(by rw[OV]<;>simp(disch:=first|omega|assumption|simp) only [SS,reduceIte,c])⟩
theorem qY (A:Up w Q) {m:Nat} {F:Value} (s:Sq) (e:bK w m (Sq.cells s F) 33) (n0:¬Q m) (X:Sq.ok s) (h:Ls pC w Q F s.l) (n:Nat) (ag:n<9223372036854775808) (ai:n<=1000000) :
  Calls Zp 48 #[.pointer (some ⟨m,0,none⟩),(iZ n)] w fun Y E=>∃O:Nat,∃K:Sq,∃Z:Value,Y = .returned (iZ O)/\Md [m] w E/\O<9223372036854775808/\bK E m (Sq.cells K Z) 33/\¬Q m/\Sq.ok K/\Ls pC E Q Z K.l/\s.aT n=(O,K):=by
 have t:=h.eJ;have aa:=n0;have V:aX [m] w m:=.inl Oj;have k:=A;refine nR (n:=35) [m] A Tryz.func48 q q q fun af j g _=>ns<|an q<|aH<|aH ?_;have C:=h;have D:=e;refine nL (ml 9) [9] mixed ?_;intro ak I;have N:=I;refine mo q<|my (bN q)<|my (aF q BA)<|mz (fun E v=>(aD q gQ (D.o v) q).to (b:=(iZ s.pos)) q) ?_;have z:s.pos<9223372036854775808:=X;refine mo q<|my (bN q)<|my (aF q WJ)<|mz (fun E v=>(aD q WS (D.o v) q).to (b:=F) q)<|my (jR q wu h.eA)<|di ?_;obtain⟨h,e,A,j⟩:=k4 I h e A j;refine su (adQ (a:=s.pos) (b:=s.l.length) q q)<|nt ?_;refine kS q ?_ ?_
 ·intro H;refine ns<|ar q<|aS ?_;exact gB (iN 0) q ⟨0,s,_,q,j,Xx,e,n0,X,(h.sub<|fun b M _=>g b M),(by rw[Sq.aT]<;>simp(disch:=first|omega|assumption|simp) only [SS,reduceIte,H])⟩
 intro H;refine aM<|aA<|nM q<|sn q<|sf q BA<|sl (u:=(iZ s.pos)) q gQ e q<|su (rA (a:=s.pos) (b:=1) q q Xx)<|sn q<|sf q BA<|aQ q q gQ q e (lq q) ?_;have ab:=e;intro o P e;have c:∀b∈[m],¬Q b:=hI aa;have h:=h.md P c;have A:=A.md P;have j:=j.step P<|hI V;obtain⟨G,B⟩:∃y,y=({s with pos:=s.pos+1}:Sq):=⟨_,q⟩;have e:bK _ _ (Sq.cells ({s with pos:=s.pos+1}) F) _:=e;rw[<- B]at e;have T:Sq.ok G:=(by rw[B];exact(by unfold Sq.ok;exact Xm));rw[show s.l=G.l by rw[B]]at h;refine nt<|aH ?_;have C:=h;have D:=e;refine nL (ml 12) [12,13] mixed ?_;intro al I;have N:=I;have p:G.pos=s.pos+1:=(by rw[B]);have r:G.l=s.l:=(by rw[B]);have ao:G.l.length=s.l.length:=(by rw[B]);refine mo q<|my (bN q)<|my (aF q WJ)<|mz (fun E v=>(aD q WS (D.o v) q).to (b:=F) q)<|mo q<|my (bN q)<|my (aF q BA)<|mz (fun E v=>(aD q gQ (D.o v) q).to (b:=(iZ G.pos)) q) ?_;have aj:G.pos<9223372036854775808:=T;refine my (rS (a:=G.pos) (b:=1) q q Xx)<|my (bQ (i:=G.pos-1) 1 q q wu el3 h.eA Xx) ?_;obtain⟨W,R⟩:=gF (l:=G.l) (i:=G.pos-1) Xx;obtain⟨x,ad,J⟩:=C.get R;obtain⟨rfl,ah⟩:=ad;have J:At _ F ((G.pos-1)*1) [(iZ (W:Int))]:=J;refine mz (fun E v=>(dS (kk:=(G.pos-1)*1) 0 q q gQ (J.o v) q).to (b:=(iZ (W:Int))) q)<|mo q<|di ?_;obtain⟨h,e,A,j⟩:=k4 I h e A j;clear N;have ae:s.l.getD s.pos 0=W:=by have d:=R;rw[r,p,Nat.add_sub_cancel]at d;simp[List.getD,d]
 refine Rz afg q (pI A (W) Xx n Xx Xx) ?_;rintro Y am ⟨U,rfl,P,f,L⟩;obtain⟨h,e,j⟩:=k3 P h e j;have S:=uH W n;rw[L]at S;try simp only[LL,Nat.reduceAdd,Nat.reduceMul]at S
 refine cV q<|aG ?_;refine aA<|lO ?_;exact gB (iZ U) q ⟨U,G,_,q,j,Xk,e,n0,T,(h.sub<|fun b M _=>g b M),(by(try simp only[B]at L);rw[Sq.aT]<;>simp(disch:=first|omega|assumption|simp) only [SS,reduceIte,H,B,R,ae,L])⟩
theorem ah4:vF Zp 9 1 16=true:=Xj
theorem u88:Zp.underlying 88=some (.slice 9):=Xj
theorem z27:dX Zp 27=some (List.replicate 16<|.int .u8 0):=Xj
theorem SJ (d:Up w Q)  :
  Calls Zp 161 #[] w fun l g=>∃f:Value,∃e:List (List UInt8),l = .returned (f)/\Md [] w g/\Ls AI g Q f e/\vP=e:=by
 have p:=d;refine nR (n:=2) [] d Tryz.func161 q q q fun o c j _=>ns<|an q<|ns<|bh [[(str<|([65]:Ly))],[(str<|([66]:Ly))],[(str<|([77,69,83,83,65,71,69]:Ly))],[(str<|([95,80,73,68]:Ly))],[(str<|([88,95,49]:Ly))],[(str<|([80,82,73,79,82,73,84,89]:Ly))]] u88 ah4 Xz Xz q q Fz Fz q Xz ?_;intro C r D H G a;have h:=d _ D;have c:=c.k G;have a:=Ls.cL (m:=6) (R:=Q) (T:=AI) (xs:=[([65]:Ly),([66]:Ly),([77,69,83,83,65,71,69]:Ly),([95,80,73,68]:Ly),([88,95,49]:Ly),([80,82,73,79,82,73,84,89]:Ly)]) a ⟨_,_,q,⟨q,tV⟩,⟨_,_,q,⟨q,tV⟩,⟨_,_,q,⟨q,tV⟩,⟨_,_,q,⟨q,tV⟩,⟨_,_,q,⟨q,tV⟩,⟨_,_,q,⟨q,tV⟩,q⟩⟩⟩⟩⟩⟩ q Xz h;refine ar q ?_;exact gB (.slice (some ⟨C,0,none⟩) 6 6) q ⟨_,([([65]:Ly),([66]:Ly),([77,69,83,83,65,71,69]:Ly),([95,80,73,68]:Ly),([88,95,49]:Ly),([80,82,73,79,82,73,84,89]:Ly)]),q,c,(a.sub<|fun b i _=>j b i),(by rw[vP]<;>simp(disch:=first|omega|assumption|simp) only [SS,reduceIte])⟩
theorem NZ (d:Up w Q)  :
  Calls Zp 162 #[] w fun l g=>∃f:Value,∃e:List (List UInt8),l = .returned (f)/\Md [] w g/\Ls AI g Q f e/\rO=e:=by
 have p:=d;refine nR (n:=2) [] d Tryz.func162 q q q fun o c j _=>ns<|an q<|ns<|bh [[(str<|([]:Ly))],[(str<|([48]:Ly))],[(str<|([49]:Ly))],[(str<|([50,50]:Ly))],[(str<|([97,61,98]:Ly))],[(str<|([111,110,101,10,116,119,111]:Ly))],[(str<|([0,255]:Ly))],[(str<|([116,97,98,9,104,101,114,101]:Ly))],[(str<|([108,111,110,103,32,108,111,110,103,32,108,111,110,103,32,108,111,110,103,32,108,111,110,103,32,108,111,110,103,32,108,111,110,103]:Ly))],[(str<|([126,127,128]:Ly))]] u88 ah4 Xz Xz q q Fz Fz q Xz ?_;intro C r D H G a;have h:=d _ D;have c:=c.k G;have a:=Ls.cL (m:=10) (R:=Q) (T:=AI) (xs:=[([]:Ly),([48]:Ly),([49]:Ly),([50,50]:Ly),([97,61,98]:Ly),([111,110,101,10,116,119,111]:Ly),([0,255]:Ly),([116,97,98,9,104,101,114,101]:Ly),([108,111,110,103,32,108,111,110,103,32,108,111,110,103,32,108,111,110,103,32,108,111,110,103,32,108,111,110,103,32,108,111,110,103]:Ly),([126,127,128]:Ly)]) a ⟨_,_,q,⟨q,tV⟩,⟨_,_,q,⟨q,tV⟩,⟨_,_,q,⟨q,tV⟩,⟨_,_,q,⟨q,tV⟩,⟨_,_,q,⟨q,tV⟩,⟨_,_,q,⟨q,tV⟩,⟨_,_,q,⟨q,tV⟩,⟨_,_,q,⟨q,tV⟩,⟨_,_,q,⟨q,tV⟩,⟨_,_,q,⟨q,tV⟩,q⟩⟩⟩⟩⟩⟩⟩⟩⟩⟩ q Xz h;refine ar q ?_;exact gB (.slice (some ⟨C,0,none⟩) 10 10) q ⟨_,([([]:Ly),([48]:Ly),([49]:Ly),([50,50]:Ly),([97,61,98]:Ly),([111,110,101,10,116,119,111]:Ly),([0,255]:Ly),([116,97,98,9,104,101,114,101]:Ly),([108,111,110,103,32,108,111,110,103,32,108,111,110,103,32,108,111,110,103,32,108,111,110,103,32,108,111,110,103,32,108,111,110,103]:Ly),([126,127,128]:Ly)]),q,c,(a.sub<|fun b i _=>j b i),(by rw[rO]<;>simp(disch:=first|omega|assumption|simp) only [SS,reduceIte])⟩
theorem KY (p:Up w Q) (k:Int) (N:(-9223372036854775808<=k/\k<9223372036854775808)) :
  Calls Zp 47 #[(iZ (k:Int))] w fun E J=>∃y:List UInt8,E = .returned (.agg (iD y).toArray)/\Md [] w J/\y.length=16/\idF k=y:=by
 have m:=Md.refl [] w;have c:=p;refine enter (n:=10) Tryz.func47 q q q fun K=>ns<|dP z27 ?_;intro A f r I j e;obtain⟨d,u,x,W,H⟩:=oI p r I j;have r:=lv m.size r;have m:=m.k j;have p:=H;have F:aX [] w A:=.inr r;have e:bK _ _ (iD pB) _:=e;refine nt<|ns<|dP z27 ?_;intro B g s V j C;have L:A≠B:=(by have:=e.lt;omega);obtain⟨O,u,x,M,H⟩:=oI p s V j;have s:=lv m.size s;obtain⟨e,m⟩:=k2 j e m;have p:=H;have G:aX [] w B:=.inr s;have C:bK _ _ (iD pB) _:=C;refine nt<|nM q<|Rz afg q (pI p (k) Xx 5 Xx Xx) ?_;rintro E h ⟨D,rfl,j,b,P⟩;obtain⟨e,C,m⟩:=k3 j e C m;have z:=uH k 5;rw[P]at z;try simp only[LL,Nat.reduceAdd,Nat.reduceMul]at z
 refine su ((lX (a:=D) 256 q q (by rw[u3];rfl) u5 q).to<|BZ _)<|su ((cC (i:=0) 1 q q u27 qs Xz))<|aQ q q PS q C (lq q) ?_;have t:=C;intro S j C;have e:=e.md j Zq;have m:=m.step j<|hI G;have C:bK _ _ (iD<|pB.set 0 94) _:=C;refine su ((cC (i:=15) 1 q q u27 qs Xz))<|aQ q q PS q C (lq q) ?_;have t:=C;intro l j C;have e:=e.md j Zq;have m:=m.step j<|hI G;have C:bK _ _ (iD<|(pB.set 0 94).set 15<|UInt8.ofNat D) _:=C;refine nt<|ns<|su (bU (iD<|(pB.set 0 94).set 15<|UInt8.ofNat D) q (by exact iT) C q)<|cA (us:=(iD<|(pB.set 0 94).set 15<|UInt8.ofNat D)) q q (by exact iT) (by exact xG _) e (lq q) ?_;have R:=e;intro o j e;have m:=m.step j<|hI F;have e:bK _ _ (iD<|(pB.set 0 94).set 15<|UInt8.ofNat D) _:=e;refine nt<|lO ?_;exact kY (v:=(.agg (iD<|(pB.set 0 94).set 15<|UInt8.ofNat D).toArray)) trivial q ⟨⟨_,q,oW (cs:=(iD<|(pB.set 0 94).set 15<|UInt8.ofNat D)) (by exact iT) e⟩,tV⟩ ⟨(pB.set 0 94).set 15<|UInt8.ofNat D,q,m,(by rfl),(by rw[idF]<;>simp(disch:=first|omega|assumption|simp) only [pB,SS,reduceIte,P])⟩
theorem el9:fW Zp 9 1=true:=Xj
theorem aju:cO Zp 161=true:=Xj
theorem ajv:cO Zp 162=true:=Xj
theorem KS:cO Zp 48=true:=Xj
theorem Zw (u:Up w Q) {a:Nat} {au:Value} (s:Sq) (j:bK w a (Sq.cells s au) 33) (n0:¬Q a) (aP:Sq.ok s) (E:Ls pC w Q au s.l) :
  Calls Zp 113 #[.pointer (some ⟨a,0,none⟩)] w fun L A=>∃ap:Pr,∃X:Sq,∃ar:Value,L = .returned (.agg (Pr.cells ap).toArray)/\Md [a] w A/\bK A a (Sq.cells X ar) 33/\¬Q a/\Sq.ok X/\Ls pC A Q ar X.l/\s.pair=(ap,X):=by
 have C:=n0;have y:aX [a] w a:=.inl Oj;have a1:=u;refine nR (n:=14) [a] u Tryz.func113 q q q fun aZ m ae _=>ns<|dP z91 ?_;intro K aS d aB D h;have aY:a≠K:=(by have:=j.lt;omega);obtain⟨O,aq,ad,aC,ak⟩:=oI u d aB D;have C:=nQ C ad;have ae:=tT ae ad;have d:=lv m.size d;have E:=(E.sub aq).o D;obtain⟨j,m⟩:=k2 D j m;have u:=ak;have aD:aX [] w K:=.inr d;have h:bK _ _ (Pr.cells<|({name:=[],value:=[]}:Pr)) _:=h;refine nt<|aH ?_;have aj:∀b∈[a],¬O b:=bX C all_nil;refine iy [(1,true),(6,true),(0,false),(2,false),(3,true),(4,true),(5,false),(7,false),(8,true),(9,true)] [10,11] (fun A=>Md [a] aS A) mixed Xj ?_;intro a4 aa;refine⟨aa.mono Oj,?_⟩;have e:=aa.mono (T:=[a]) Oj;refine mo q<|mo q ?_;obtain⟨E,j,h,u,m⟩:=k5 aa E j h u m;refine m_c ?_ rfl;refine Rz aju q (SJ u) ?_;rintro L av ⟨aJ,aL,rfl,D,I,af⟩;obtain⟨E,j,h,u,m,e⟩:=k6 D E j h u m e;have g:=TH;rw[af]at g;try simp only[LL,Nat.reduceAdd,Nat.reduceMul]at g
 refine aG ⟨q,e,fun A=>Md [a] av A,Md.refl _ _,fun x z=>e.trans z,?_⟩;have N:=I;have e:=Md.refl [a] av;refine m_c ?_ rfl;refine Rz KS q (qY u s j C aP E 6 Xx Xx) ?_;rintro L aw ⟨R,t,aV,rfl,D,aT,W,am,aO,H,ag⟩;have M:∀i∈[a],aX [a] w i:=hI y;have p:∀i∈[a],¬O i:=hI C;have F:K∉[a]:=bH Xx Oj;have h:=h.md D F;have I:=I.md D p;have m:=m.step D M;have e:=e.step D<|fun i hi=>Or.inl (by simpa using hi);have u:=u.md D;have j:=W;have C:=am;have ao:=Sq.lB s 6;rw[ag]at ao;try simp only[LL,Nat.reduceAdd,Nat.reduceMul]at ao
 refine aG ⟨q,e,fun A=>Md [a] aw A,Md.refl _ _,fun x z=>e.trans z,?_⟩;have N:=I;have e:=Md.refl [a] aw;refine my (bQ (i:=R) 1 q q u88 el9 I.eA Xx) ?_;obtain⟨f,Y⟩:=gF (l:=aL) (i:=R) Xx;obtain⟨a3,aN,U⟩:=N.get Y;obtain⟨rfl,_⟩:=aN;have U:At _ aJ (R*1) [(str f)]:=U;refine mz (fun A ab=>(dS (kk:=R*1) 0 q q mM (U.md ab<|N.AF Y aj) q).to (b:=(str f)) q) ?_;refine m_c ?_ rfl;refine Rz ajv q (NZ u) ?_;rintro L ay ⟨aK,aM,rfl,D,J,ah⟩;obtain⟨j,h,H,u,m,e⟩:=k6 D j h H u m e;have k:=QU;rw[ah]at k;try simp only[LL,Nat.reduceAdd,Nat.reduceMul]at k
 refine aG ⟨q,e,fun A=>Md [a] ay A,Md.refl _ _,fun x z=>e.trans z,?_⟩;have G:=J;have e:=Md.refl [a] ay;refine m_c ?_ rfl;refine Rz KS q (qY u t j C aO H 10 Xx Xx) ?_;rintro L az ⟨S,aI,aW,rfl,D,aU,al,an,c,Z,ai⟩;have M:∀i∈[a],aX [a] w i:=hI y;have p:∀i∈[a],¬O i:=hI C;have F:K∉[a]:=bH Xx Oj;have h:=h.md D F;have J:=J.md D p;have m:=m.step D M;have e:=e.step D<|fun i hi=>Or.inl (by simpa using hi);have j:=al;have C:=an;have o:=Sq.lB t 10;rw[ai]at o;try simp only[LL,Nat.reduceAdd,Nat.reduceMul]at o
 refine aG ⟨q,e,fun A=>Md [a] az A,Md.refl _ _,fun x z=>e.trans z,?_⟩;have G:=J;have e:=Md.refl [a] az;refine my (bQ (i:=S) 1 q q u88 el9 J.eA Xx) ?_;obtain⟨B,V⟩:=gF (l:=aM) (i:=S) Xx;obtain⟨a0,aF,P⟩:=G.get V;obtain⟨rfl,_⟩:=aF;have P:At _ aK (S*1) [(str B)]:=P;refine mz (fun A ab=>(dS (kk:=S*1) 0 q q mM (P.md ab<|G.AF V aj) q).to (b:=(str B)) q)<|di ?_;refine su (dI (us:=[[(str f)],[(str B)]]) (cs:=(Pr.cells<|({name:=f,value:=B}:Pr))) [(0,0,1),(1,1,1)] z91 aic q q Fz Fz q q)<|cA (us:=(Pr.cells<|({name:=f,value:=B}:Pr))) q q (by exact iA) (by exact fun aR aQ=>dB (Pr.one) aR aQ) h (lq q) ?_;have aE:=h;intro a2 D h;have p:∀b∈[K],¬O b:=hI aC;have j:=j.md D Zq;have Z:=Z.md D p;have m:=m.step D<|hI<|aX.wid aD;have h:bK _ _ (Pr.cells<|({name:=f,value:=B}:Pr)) _:=h;refine aG ?_;refine aA<|lO ?_;exact kY (v:=(.agg (Pr.cells<|({name:=f,value:=B}:Pr)).toArray)) trivial q ⟨⟨_,q,oW (cs:=(Pr.cells<|({name:=f,value:=B}:Pr))) (by exact iA) h⟩,tV⟩ ⟨(({name:=f,value:=B}:Pr)),aI,_,q,m,j,n0,c,(Z.sub<|fun b r _=>ae b r),(by rw[Sq.pair]<;>simp(disch:=first|omega|assumption|simp) only [List.getD_eq_getElem?_getD,SS,reduceIte,af,ag,Y,ah,ai,V])⟩
theorem ajd:cO Zp 113=true:=Xj
theorem SK (j:Up w Q) {e:Nat} {ap:Value} (s:Sq) (u:bK w e (Sq.cells s ap) 33) (n0:¬Q e) (aK:Sq.ok s) (ak:Ls pC w Q ap s.l) (cK:Nat) (aS:cK<9223372036854775808) (aT:cK<=1000000) :
  Calls Zp 58 #[.pointer (some ⟨e,0,none⟩),(iZ cK)] w fun Y B=>∃am:Value,∃M:List Pr,∃L:Sq,∃ao:Value,Y = .returned (am)/\Md [e] w B/\Ls mq B Q am M/\bK B e (Sq.cells L ao) 33/\¬Q e/\Sq.ok L/\Ls pC B Q ao L.l/\s.pairs cK=(M,L):=by
 have C:=n0;have p:aX [e] w e:=.inl Oj;have aB:=j;refine nR (n:=21) [e] j Tryz.func58 q q q fun aC v t F=>ns<|an q<|ns<|cV q<|nt<|aH<|ns<|m2 q q<|Rz KS q (qY j s u C aK ak cK Xx Xx) ?_;rintro Y aU ⟨d,k,aJ,rfl,A,aR,ai,V,aE,ad,J⟩;have K:∀i∈[e],aX [e] w i:=hI p;have y:∀i∈[e],¬Q i:=hI C;have v:=v.step A K;have j:=j.md A;have u:=ai;have C:=V;have f:=Sq.lB s cK;rw[J]at f;try simp only[LL,Nat.reduceAdd,Nat.reduceMul]at f
 refine su (rA (a:=d) (b:=1) q q Xx)<|an q<|bf ?_;obtain⟨M,H⟩:∃r,lV (d+1) k ([]:List Pr)=r:=⟨_,q⟩;have aO:=H
 try simp only[List.nil_append,J]at H
 refine agP (fun(x:Sq) (G:Value) (E:Value) (o:List Pr) (n:Nat)=>[(5,E),(6,(iZ n)),(0,(.pointer<|some ⟨e,0,none⟩))]) (fun x G E o n B=>LQ Q w [e] B fun U=>bK B e (Sq.cells x G) 33/\Ls pC B U G x.l/\Sq.ok x/\Ow mq 91 (aX [] w) B U E o/\¬U e/\n+o.length<=1000001/\lV n x o=M) (fun x G E o n=>n) k aJ SN ([]:List Pr) (d+1) ?_ ?_ ?_
 ·exact Fz
 ·exact⟨Q,t,F,j,v,u,ad,aE,(Ow.nil _ _ _ _ _),C,(by simp only[List.length_nil];omega),(by have z:=H;exact z)⟩
 clear v j t F C ak u ad;rintro x G E o n aC aV ⟨ag,t,F,j,v,u,af,al,D,C,aP,N⟩;refine aH<|nM q<|su (jQ (a:=n) (b:=0) q q)<|nt ?_;refine kS q ?_ ?_
 ·intro O;refine aM<|aA<|aH<|bf<|aI<|m2 q q<|Rz ajd q (Zw j x u C al af) ?_;rintro Y aY ⟨X,au,c,rfl,A,aj,W,aF,I,aw⟩;have K:∀i∈[e],aX [e] w i:=hI p;have y:∀i∈[e],¬ag i:=hI C;have ae:∀b,ah E=some b->b∉[e]:=fun b P=>bH (D.fV u Xz b P) Oj;have D:=D.md A ae y;have v:=v.step A K;have j:=j.md A;have u:=aj;have C:=W;refine bh [(Pr.cells X)] nW CR Xz Xz q q ⟨q,tV⟩ ⟨q,tV⟩ q Xz ?_;intro aN aZ aq aQ A S;have av:=j _ aq;obtain⟨u,D,I,j,v⟩:=k5 A u D I j v;have S:=Ls.cL (m:=1) (R:=ag) (T:=mq) (xs:=[X]) S ⟨_,_,q,(zu),q⟩ q Xz av;refine fO (sz:=2) (by rfl) nW CR q q D S (fun _ h _=>h) j (aX.new v) Xm Xm ?_;intro aL a0 aD Z aa ab ay A y _ az;have g:=D;have C:=fun z=>C<|aa _ z;have t:=tT t aa;have F:=Sx Z F v.size;have u:=u.md A<|aW g u;have I:=(I.sub Z).md A y;have j:=j.md A;have v:=v.cE A<|fun b P=>aX.wid (g.2 b P).1;have j:=ab;clear ab Z aa y az;refine cV q<|aG<|bG<|aA<|aI<|mv q<|su (rS (a:=n) (b:=1) q q Xx)<|cV q<|aG ?_;refine aA ?_;refine agS au c aL (o ++ ([X])) (n-1) Xx ⟨q,(cW q Xx),q,tV⟩ ⟨aD,t,F,j,v,u,I,aF,ay,C,(by simp only[List.length_append,List.length_singleton];omega),(by have z:=N;rw[TS Xx]at z;simp only[J,aw]at z;exact z)⟩
 intro O;refine cM<|bB<|bB<|dJ<|aA<|nM q<|ar q ?_;exact gB E q ⟨_,o,x,_,q,v,(D.ls (fun b P=>t b P)<|aX.up aB),u,n0,al,(af.sub<|fun b P _=>t b P),(by(try (simp(disch:=first|omega|assumption|simp) only [ZP,SS,reduceIte,J,O]at N));rw[Sq.pairs]<;>simp(disch:=first|omega|assumption|simp) only [SS,reduceIte,J,H,O,<- N])⟩
set_option maxHeartbeats 4000000 in
theorem ac5 (s:Ly) (w:World):Calls Zp 146 #[str s] w fun J A=>J = .returned (.bool<|eo s)/\w=A:=by
 have B:=Md.refl [] w;refine enter (n:=51) Tryz.func146 q q q fun I=>ns<|an q<|aH<|nM q<|su (lY q u9)<|su (oA q q)<|mv q ?_;refine ck (t:=8) q (fun V=>?_)<|fun V=>?_
 ·have f:=dq V;refine sk V<|sk V<|sk V<|su (bC q V q)<|mv q<|sk q<|sk q<|sk q<|sk q<|jF q q q<|jF q q q<|jF q q q<|sk q<|su (bC q q q) ?_;refine nt<|jJ q q<|ns<|ar q<|aS ?_;exact gh trivial q q ⟨mS (by cases hh:eo s with|false=>rfl|true=>(exfalso;have v:=fH hh;have W:=gP hh;omega)),q⟩
 have f:=dF V;refine sg V (aP q)<|sg V (lY q u9)<|sg V (qb q q)<|su (aU q V q)<|mv q ?_;refine ck (t:=13) q (fun H=>?_)<|fun H=>?_
 ·have b:=dq H;refine sk H<|sk H<|sk H<|sk H<|jF q q q<|jF q q q<|jF q q q<|sk H<|su (bC q H q)<|nt<|jJ q q<|ns<|an q ?_;refine lO<|aS ?_;exact gh trivial q q ⟨mS (by cases hh:eo s with|false=>rfl|true=>(exfalso;have v:=fH hh;have W:=gP hh;omega)),q⟩
 have b:=dF H;refine sg H (aP q)<|aes (b8<|s.getD 0 0) q q q H (rH (s:=s) (i:=0) q q u9 Xx)<|sg H (rG q q)<|sg H (aP q) ?_;refine ck (t:=17) q (fun u=>?_)<|fun u=>?_
 ·have c:=dq u;refine sg u (aP q)<|aes (b8<|s.getD 0 0) q q q u (rH (s:=s) (i:=0) q q u9 Xx)<|sg u (xL q q)<|sg H (bC q u q)<|su (aU q H q)<|nt ?_;refine kS q ?_ ?_
  ·intro d;refine ns<|ar q<|aS ?_;exact gh trivial q q ⟨mS (by cases hh:eo s with|false=>rfl|true=>(exfalso;have v:=fH hh;have W:=gP hh;omega)),q⟩
  intro d;refine aM<|aA<|aH<|nM q<|su (lY q u9)<|mv q<|nt<|bf ?_;refine jv (X:=Nat) (fun i=>[(0,str s),(24,.int .i64 s.length),(25,.int .i64 i)]) (fun i A=>w=A/\i<=s.length/\1<=s.length/\s.length<=64/\digit (s.getD 0 0)=false/\∀e,e<i->iH (s.getD e 0)=true) (fun i=>s.length-i) 0 ?_ ?_ ?_
  ·exact Fz
  ·exact⟨q,by omega,by omega,by omega,by unfold digit;exact decide_eq_false Xx,fun e m=>by omega⟩
  clear B;rintro i I k ⟨rfl,g,o,p,P,Q⟩;have B:=Md.refl [] w;refine ns<|su (oA q q)<|nt<|aH ?_;refine cJ q (fun R=>?_)<|fun R=>?_
  ·have E:=dq R;refine aM<|aA<|aH<|bf<|nM q<|an q<|ns<|m2 q q<|su (rH q q u9 Xx)<|cV q<|nt ?_;refine nM q<|su (rG q q)<|mv q ?_;refine ck (t:=33) q (fun G=>?_)<|fun G=>?_
   ·have T:=dq G;refine sg G (aP q)<|sg G (xL q q)<|su (bC q G q)<|mv q ?_;refine ck (t:=37) q (fun D=>?_)<|fun D=>?_
    ·have F:=dq D;refine sk D<|sk D<|sk D<|jF q q q<|jF q q q<|sk D<|su (bC q D q)<|mv q<|sk q<|sk q<|su (bC q q q)<|su (jo q)<|nt<|gV q q ?_;refine aM<|bG<|aA<|aI<|su (eB q q Xx)<|mv q<|nt<|next (i+1) Xx ⟨q,q,cW q Oj,tV⟩ ?_
     exact⟨q,by omega,o,p,P,fun e m=>by
      rcases Nat.lt_or_eq_of_le (Nat.le_of_lt_succ m)with h|h
      ·exact Q e h
      ·subst h;unfold iH;exact decide_eq_true Xx⟩
    have F:=dF D;refine sg D (aP q)<|sg D (rG q q)<|sg D (aP q) ?_;refine ck (t:=40) q (fun a=>?_)<|fun a=>?_
    ·have x:=dq a;refine sg a (aP q)<|sg a (xL q q)<|sg D (bC q a q)<|su (aU q D q)<|mv q ?_;refine ck (t:=45) q (fun C=>?_)<|fun C=>?_
     ·have y:=dq C;refine sk C<|sk C<|su (bC q C q)<|su (jo q)<|nt<|gV q q<|aM<|bG<|aA<|aI<|su (eB q q Xx)<|mv q<|nt<|next (i+1) Xx ⟨q,q,cW q Oj,tV⟩ ?_
      exact⟨q,by omega,o,p,P,fun e m=>by
       rcases Nat.lt_or_eq_of_le (Nat.le_of_lt_succ m)with h|h
       ·exact Q e h
       ·subst h;unfold iH;exact decide_eq_true Xx⟩
     have y:=dF C;refine sg C (aP q)<|sg C (mB q q)<|su (aU q C q)<|su (jo q)<|nt ?_;refine cJ q (fun j=>?_)<|fun j=>?_
     ·have r:=dF<|ir j;refine ns<|ar q<|bS<|aS<|aS<|bS<|aS ?_;exact gh trivial q q ⟨mS (by cases hh:eo s with|false=>rfl|true=>(exfalso;have v:=fH hh;have W:=gP hh;have z:=jO hh i Xx;omega)),q⟩
     have r:=dq<|iq j;refine aM<|bG<|aA<|aI<|su (eB q q Xx)<|mv q<|nt<|next (i+1) Xx ⟨q,q,cW q Oj,tV⟩ ?_
     exact⟨q,by omega,o,p,P,fun e m=>by
      rcases Nat.lt_or_eq_of_le (Nat.le_of_lt_succ m)with h|h
      ·exact Q e h
      ·subst h;unfold iH;exact decide_eq_true Xx⟩
    have x:=dF a;refine sk a<|sk a<|sg D (aU q a q)<|su (aU q D q)<|mv q<|sg q (aP q)<|sg q (mB q q)<|su (aU q q q)<|su (jo q)<|nt ?_;refine cJ q (fun j=>?_)<|fun j=>?_
    ·have r:=dF<|ir j;refine ns<|ar q<|bS<|aS<|aS<|bS<|aS ?_;exact gh trivial q q ⟨mS (by cases hh:eo s with|false=>rfl|true=>(exfalso;have v:=fH hh;have W:=gP hh;have z:=jO hh i Xx;omega)),q⟩
    have r:=dq<|iq j;refine aM<|bG<|aA<|aI<|su (eB q q Xx)<|mv q<|nt<|next (i+1) Xx ⟨q,q,cW q Oj,tV⟩ ?_
    exact⟨q,by omega,o,p,P,fun e m=>by
     rcases Nat.lt_or_eq_of_le (Nat.le_of_lt_succ m)with h|h
     ·exact Q e h
     ·subst h;unfold iH;exact decide_eq_true Xx⟩
   have T:=dF G;refine sk G<|sk G<|su (aU q G q)<|mv q<|sg q (aP q)<|sg q (rG q q)<|sg q (aP q) ?_;refine ck (t:=40) q (fun a=>?_)<|fun a=>?_
   ·have x:=dq a;refine sg a (aP q)<|sg a (xL q q)<|sg q (bC q a q)<|su (aU q q q)<|mv q ?_;refine ck (t:=45) q (fun C=>?_)<|fun C=>?_
    ·have y:=dq C;refine sk C<|sk C<|su (bC q C q)<|su (jo q)<|nt<|gV q q<|aM<|bG<|aA<|aI<|su (eB q q Xx)<|mv q<|nt<|next (i+1) Xx ⟨q,q,cW q Oj,tV⟩ ?_
     exact⟨q,by omega,o,p,P,fun e m=>by
      rcases Nat.lt_or_eq_of_le (Nat.le_of_lt_succ m)with h|h
      ·exact Q e h
      ·subst h;unfold iH;exact decide_eq_true Xx⟩
    have y:=dF C;refine sg C (aP q)<|sg C (mB q q)<|su (aU q C q)<|su (jo q)<|nt ?_;refine cJ q (fun j=>?_)<|fun j=>?_
    ·have r:=dF<|ir j;refine ns<|ar q<|bS<|aS<|aS<|bS<|aS ?_;exact gh trivial q q ⟨mS (by cases hh:eo s with|false=>rfl|true=>(exfalso;have v:=fH hh;have W:=gP hh;have z:=jO hh i Xx;omega)),q⟩
    have r:=dq<|iq j;refine aM<|bG<|aA<|aI<|su (eB q q Xx)<|mv q<|nt<|next (i+1) Xx ⟨q,q,cW q Oj,tV⟩ ?_
    exact⟨q,by omega,o,p,P,fun e m=>by
     rcases Nat.lt_or_eq_of_le (Nat.le_of_lt_succ m)with h|h
     ·exact Q e h
     ·subst h;unfold iH;exact decide_eq_true Xx⟩
   have x:=dF a;refine sk a<|sk a<|sg q (aU q a q)<|su (aU q q q)<|mv q<|sg q (aP q)<|sg q (mB q q)<|su (aU q q q)<|su (jo q)<|nt ?_;refine cJ q (fun j=>?_)<|fun j=>?_
   ·have r:=dF<|ir j;refine ns<|ar q<|bS<|aS<|aS<|bS<|aS ?_;exact gh trivial q q ⟨mS (by cases hh:eo s with|false=>rfl|true=>(exfalso;have v:=fH hh;have W:=gP hh;have z:=jO hh i Xx;omega)),q⟩
   have r:=dq<|iq j;refine aM<|bG<|aA<|aI<|su (eB q q Xx)<|mv q<|nt<|next (i+1) Xx ⟨q,q,cW q Oj,tV⟩ ?_
   exact⟨q,by omega,o,p,P,fun e m=>by
    rcases Nat.lt_or_eq_of_le (Nat.le_of_lt_succ m)with h|h
    ·exact Q e h
    ·subst h;unfold iH;exact decide_eq_true Xx⟩
  have E:=dF R;refine cM<|bB<|bB<|dJ<|aA<|ns<|ar q ?_;exact gh trivial q q ⟨mS (WC o p P<|fun e m=>Q e Xx).symm,q⟩
 have c:=dF u;refine sk u<|sk u<|sk u<|sg H (aU q u q)<|su (aU q H q)<|nt<|gV q q<|aM<|aA<|aH<|nM q<|su (lY q u9)<|mv q ?_;refine nt<|bf ?_;refine jv (X:=Nat) (fun i=>[(0,str s),(24,.int .i64 s.length),(25,.int .i64 i)]) (fun i A=>w=A/\i<=s.length/\1<=s.length/\s.length<=64/\digit (s.getD 0 0)=false/\∀e,e<i->iH (s.getD e 0)=true) (fun i=>s.length-i) 0 ?_ ?_ ?_
 ·exact Fz
 ·exact⟨q,by omega,by omega,by omega,by unfold digit;exact decide_eq_false Xx,fun e m=>by omega⟩
 clear B;rintro i I l ⟨rfl,g,o,p,P,Q⟩;have B:=Md.refl [] w;refine ns<|su (oA q q)<|nt<|aH ?_;refine cJ q (fun R=>?_)<|fun R=>?_
 ·have E:=dq R;refine aM<|aA<|aH<|bf<|nM q<|an q<|ns<|m2 q q<|su (rH q q u9 Xx)<|cV q<|nt ?_;refine nM q<|su (rG q q)<|mv q ?_;refine ck (t:=33) q (fun G=>?_)<|fun G=>?_
  ·have T:=dq G;refine sg G (aP q)<|sg G (xL q q)<|su (bC q G q)<|mv q ?_;refine ck (t:=37) q (fun D=>?_)<|fun D=>?_
   ·have F:=dq D;refine sk D<|sk D<|sk D<|jF q q q<|jF q q q<|sk D<|su (bC q D q)<|mv q<|sk q<|sk q<|su (bC q q q)<|su (jo q)<|nt<|gV q q ?_;refine aM<|bG<|aA<|aI<|su (eB q q Xx)<|mv q<|nt<|next (i+1) Xx ⟨q,q,cW q Oj,tV⟩ ?_
    exact⟨q,by omega,o,p,P,fun e m=>by
     rcases Nat.lt_or_eq_of_le (Nat.le_of_lt_succ m)with h|h
     ·exact Q e h
     ·subst h;unfold iH;exact decide_eq_true Xx⟩
   have F:=dF D;refine sg D (aP q)<|sg D (rG q q)<|sg D (aP q) ?_;refine ck (t:=40) q (fun a=>?_)<|fun a=>?_
   ·have x:=dq a;refine sg a (aP q)<|sg a (xL q q)<|sg D (bC q a q)<|su (aU q D q)<|mv q ?_;refine ck (t:=45) q (fun C=>?_)<|fun C=>?_
    ·have y:=dq C;refine sk C<|sk C<|su (bC q C q)<|su (jo q)<|nt<|gV q q<|aM<|bG<|aA<|aI<|su (eB q q Xx)<|mv q<|nt<|next (i+1) Xx ⟨q,q,cW q Oj,tV⟩ ?_
     exact⟨q,by omega,o,p,P,fun e m=>by
      rcases Nat.lt_or_eq_of_le (Nat.le_of_lt_succ m)with h|h
      ·exact Q e h
      ·subst h;unfold iH;exact decide_eq_true Xx⟩
    have y:=dF C;refine sg C (aP q)<|sg C (mB q q)<|su (aU q C q)<|su (jo q)<|nt ?_;refine cJ q (fun j=>?_)<|fun j=>?_
    ·have r:=dF<|ir j;refine ns<|ar q<|bS<|aS<|aS<|bS<|aS ?_;exact gh trivial q q ⟨mS (by cases hh:eo s with|false=>rfl|true=>(exfalso;have v:=fH hh;have W:=gP hh;have z:=jO hh i Xx;omega)),q⟩
    have r:=dq<|iq j;refine aM<|bG<|aA<|aI<|su (eB q q Xx)<|mv q<|nt<|next (i+1) Xx ⟨q,q,cW q Oj,tV⟩ ?_
    exact⟨q,by omega,o,p,P,fun e m=>by
     rcases Nat.lt_or_eq_of_le (Nat.le_of_lt_succ m)with h|h
     ·exact Q e h
     ·subst h;unfold iH;exact decide_eq_true Xx⟩
   have x:=dF a;refine sk a<|sk a<|sg D (aU q a q)<|su (aU q D q)<|mv q<|sg q (aP q)<|sg q (mB q q)<|su (aU q q q)<|su (jo q)<|nt ?_;refine cJ q (fun j=>?_)<|fun j=>?_
   ·have r:=dF<|ir j;refine ns<|ar q<|bS<|aS<|aS<|bS<|aS ?_;exact gh trivial q q ⟨mS (by cases hh:eo s with|false=>rfl|true=>(exfalso;have v:=fH hh;have W:=gP hh;have z:=jO hh i Xx;omega)),q⟩
   have r:=dq<|iq j;refine aM<|bG<|aA<|aI<|su (eB q q Xx)<|mv q<|nt<|next (i+1) Xx ⟨q,q,cW q Oj,tV⟩ ?_
   exact⟨q,by omega,o,p,P,fun e m=>by
    rcases Nat.lt_or_eq_of_le (Nat.le_of_lt_succ m)with h|h
    ·exact Q e h
    ·subst h;unfold iH;exact decide_eq_true Xx⟩
  have T:=dF G;refine sk G<|sk G<|su (aU q G q)<|mv q<|sg q (aP q)<|sg q (rG q q)<|sg q (aP q) ?_;refine ck (t:=40) q (fun a=>?_)<|fun a=>?_
  ·have x:=dq a;refine sg a (aP q)<|sg a (xL q q)<|sg q (bC q a q)<|su (aU q q q)<|mv q ?_;refine ck (t:=45) q (fun C=>?_)<|fun C=>?_
   ·have y:=dq C;refine sk C<|sk C<|su (bC q C q)<|su (jo q)<|nt<|gV q q<|aM<|bG<|aA<|aI<|su (eB q q Xx)<|mv q<|nt<|next (i+1) Xx ⟨q,q,cW q Oj,tV⟩ ?_
    exact⟨q,by omega,o,p,P,fun e m=>by
     rcases Nat.lt_or_eq_of_le (Nat.le_of_lt_succ m)with h|h
     ·exact Q e h
     ·subst h;unfold iH;exact decide_eq_true Xx⟩
   have y:=dF C;refine sg C (aP q)<|sg C (mB q q)<|su (aU q C q)<|su (jo q)<|nt ?_;refine cJ q (fun j=>?_)<|fun j=>?_
   ·have r:=dF<|ir j;refine ns<|ar q<|bS<|aS<|aS<|bS<|aS ?_;exact gh trivial q q ⟨mS (by cases hh:eo s with|false=>rfl|true=>(exfalso;have v:=fH hh;have W:=gP hh;have z:=jO hh i Xx;omega)),q⟩
   have r:=dq<|iq j;refine aM<|bG<|aA<|aI<|su (eB q q Xx)<|mv q<|nt<|next (i+1) Xx ⟨q,q,cW q Oj,tV⟩ ?_
   exact⟨q,by omega,o,p,P,fun e m=>by
    rcases Nat.lt_or_eq_of_le (Nat.le_of_lt_succ m)with h|h
    ·exact Q e h
    ·subst h;unfold iH;exact decide_eq_true Xx⟩
  have x:=dF a;refine sk a<|sk a<|sg q (aU q a q)<|su (aU q q q)<|mv q<|sg q (aP q)<|sg q (mB q q)<|su (aU q q q)<|su (jo q)<|nt ?_;refine cJ q (fun j=>?_)<|fun j=>?_
  ·have r:=dF<|ir j;refine ns<|ar q<|bS<|aS<|aS<|bS<|aS ?_;exact gh trivial q q ⟨mS (by cases hh:eo s with|false=>rfl|true=>(exfalso;have v:=fH hh;have W:=gP hh;have z:=jO hh i Xx;omega)),q⟩
  have r:=dq<|iq j;refine aM<|bG<|aA<|aI<|su (eB q q Xx)<|mv q<|nt<|next (i+1) Xx ⟨q,q,cW q Oj,tV⟩ ?_
  exact⟨q,by omega,o,p,P,fun e m=>by
   rcases Nat.lt_or_eq_of_le (Nat.le_of_lt_succ m)with h|h
   ·exact Q e h
   ·subst h;unfold iH;exact decide_eq_true Xx⟩
 have E:=dF R;refine cM<|bB<|bB<|dJ<|aA<|ns<|ar q ?_;exact gh trivial q q ⟨mS (WC o p P<|fun e m=>Q e Xx).symm,q⟩
theorem ajq:cO Zp 146=true:=Xj
theorem abI:cO Zp 147=true:=Xj
theorem Zv (d:Up w Q) (s:Ly) :
  Calls Zp 146 #[str s] w fun a c=>∃b:Bool,a = .returned (.bool b)/\Md [] w c/\eo s=b:=by
 refine(ac5 s w).mono fun a c ⟨he,hm⟩=>⟨eo s,by rw[he],hm ▸ Md.refl [] w,q⟩
theorem SL (f:Up w Q) (p:Pr) (o:p.name.length+p.value.length<=4611686018427387904) :
  Calls Zp 147 #[.agg (Pr.cells p).toArray] w fun h i=>∃e:List UInt8,h = .returned (str e)/\Md [] w i/\ay p=e:=by
 have c:=Md.refl [] w;have H:=f;refine enter (n:=9) Tryz.func147 q q q fun j=>ns<|e7 (cs:=(Pr.cells p)) q q ?_;intro l m d G g C;have D:=f _ d;have d:=lv c.size d;have c:=c.k g;refine an q<|ns<|sf q pL<|sl (u:=(str p.name)) q mM C q<|su (yY (a:=p.name) (b:=(([61]:Ly))) q q Xm)<|sf q uL<|sl (u:=(str p.value)) q mM C q<|su (yY (a:=(p.name ++ (([61]:Ly)))) (b:=p.value) q q Xm)<|ar q ?_;exact gB (str<|(p.name ++ (([61]:Ly))) ++ p.value) q ⟨(p.name ++ (([61]:Ly))) ++ p.value,q,c,(by rw[ay]<;>simp(disch:=first|omega|assumption|simp) only [SS,reduceIte])⟩
theorem HS (f:Up w Q) (p:Pr) :
  Calls Zp 100 #[.agg (Pr.cells p).toArray] w fun r A=>∃z:Value,∃y:List UInt8,∃t:Nat,r = .returned (.tuple #[z,(iZ t)])/\Md [] w A/\Ls dh A Q z y/\t<9223372036854775808/\ez p=(y,t):=by
 have I:=f;refine nR (n:=17) [] f Tryz.func100 q q q fun B e W _=>ns<|e7 (cs:=(Pr.cells p)) q q ?_;intro F K l V g C;have E:=f _ l;have l:=lv e.size l;obtain⟨f,e⟩:=k2 g f e;refine cV q<|an q<|aH<|bf<|ns<|sf q pL<|sl (u:=(str p.name)) q mM C q<|Rz ajq q (Zv f p.name) ?_;rintro r c ⟨T,rfl,g,o⟩;obtain⟨C,f,e⟩:=k3 g C f e;refine su (jo q)<|an q ?_;refine cJ q (fun P=>?_)<|fun P=>?_
 ·have i:=ir P;refine ns<|cV q<|ar q<|bS<|aS ?_;exact zK [SN,(iN 1)] q ⟨_,[],1,q,e,(Ls.nil _ _ _),Xx,(by rw[ez]<;>simp(disch:=first|omega|assumption|simp) only [SS,reduceIte,o,i])⟩
 have i:=iq P;refine ns<|sf q uL<|sl (u:=(str p.value)) q mM C q<|su (lY (s:=p.value) q u9)<|su (jQ (a:=p.value.length) (b:=256) q q)<|an q ?_;refine kS q ?_ ?_
 ·intro m;refine ns<|cV q<|ar q<|bS<|aS ?_;exact zK [SN,(iN 21)] q ⟨_,[],21,q,e,(Ls.nil _ _ _),Xx,(by rw[ez]<;>simp(disch:=first|omega|assumption|simp) only [SS,reduceIte,o,i,m])⟩
 intro m;refine aM<|bG<|aA<|ns ?_;have J:=(fH (s:=p.name) (by simp_all)).2;refine su (bU (Pr.cells p) q (by exact iA) C q)<|Rz abI q (SL f p Xx) ?_;rintro r d ⟨v,rfl,g,x⟩;obtain⟨f,e⟩:=k2 g f e;have G:=ga p;rw[x]at G;try simp only[LL,Nat.reduceAdd,Nat.reduceMul]at G
 refine kG (s:=v) u9 fM u5 q (by simp[maxLen];omega) ?_;intro H L g D j;have D:=Ls.of_by (Q:=Q) D<|fun b h _=>f b (j b h).1;have j:∀b,ah H=some b->w.heap.size<=b:=fun b h=>lv e.size (j b h).1;have e:=e.k g;refine cV q<|ar q ?_;exact zK [H,(iN 0)] q ⟨_,v,0,q,e,(D.sub<|fun b h _=>W b h),Xx,(by rw[ez]<;>simp(disch:=first|omega|assumption|simp) only [SS,reduceIte,o,i,m,x])⟩
theorem VH:vF Zp 45 1 24=true:=Xj
theorem agB:cO Zp 100=true:=Xj
theorem aa8 (j:Up w Q) {L:Value} {l:List Pr} (s:Ls mq w Q L l) (aF:l.length<=1000) :
  Calls Zp 105 #[L] w fun ad J=>∃af:Value,∃ae:List (List UInt8),ad = .returned (af)/\Md [] w J/\Ls (FI dh) J Q af ae/\(l.map fun X=>(ez X).1)=ae:=by
 have aD:=s.eJ;have e:=Md.refl [] w;have ai:=j;have A:∀b,Q b->Q b:=fun _ h=>h;have B:∀b,Q b->b<w.heap.size->Q b:=fun _ h _=>h;refine enter (n:=25) Tryz.func105 q q q fun ak=>ns<|an q<|ns<|cV q<|nt<|aH<|nM q<|sL q nW s.eA<|mv q<|nt<|bf ?_;refine kV (fun(I:Value) (o:List (List UInt8)) (i:Nat)=>[(3,I),(10,(iZ i)),(8,L),(9,(iZ l.length))]) (fun I o i J=>LQ Q w [] J fun Z=>Ow (FI dh) 45 (aX [] w) J Z I o/\Ls mq J Z L l/\i<=l.length/\o=(l.take i).map fun X=>(ez X).1) (fun I o i=>l.length-i) SN ([]:List (List UInt8)) 0 ?_ ?_ ?_
 ·exact Fz
 ·exact⟨Q,A,B,j,e,(Ow.nil _ _ _ _ _),s,Xx,Oj⟩
 clear e j A B s;rintro I o i ak aJ ⟨aE,A,B,j,e,u,s,av,S⟩;have ap:=congrArg List.length S;simp only[List.length_map,List.length_take]at ap;refine ns<|su (fJ (a:=i) (b:=l.length) q q)<|nt<|aH ?_;refine cJ q (fun U=>?_)<|fun U=>?_
 ·have g:=dq U;refine aM<|aA<|aH<|bf<|ns<|su (bQ (i:=i) 2 q q nW ou s.eA Xx) ?_;obtain⟨c,p⟩:=gF (l:=l) (i:=i) Xx;obtain⟨c4,z,O⟩:=s.get p;obtain⟨_,rfl⟩:=kP z;have O:At _ L (i*2) (Pr.cells c):=O;refine su (fI (kk:=i*2) (Pr.cells c) 0 q q (by exact iA) O q)<|dP z91 ?_;intro d aK N ah C D;obtain⟨aa,P,F,V,K⟩:=oI j N ah C;have A:=tT A F;have B:=Sx P B e.size;have N:=lv e.size N;have u:=(u.sub P F).o C;have s:=(s.sub P).o C;have e:=e.k C;have j:=K;have W:aX [] w d:=.inr N;have D:bK _ _ (Pr.cells<|({name:=[],value:=[]}:Pr)) _:=D;refine cA (us:=(Pr.cells c)) q q (by exact iA) (by exact fun aq am=>dB (Pr.one) aq am) D (lq q) ?_;have Y:=D;intro aL C D;have E:∀b∈[d],¬aa b:=hI V;have u:=u.md C (aB Y u) E;have s:=s.md C E;have j:=j.md C;have e:=e.step C<|hI W;have D:bK _ _ (Pr.cells c) _:=D;refine nt<|ns<|su (bU (Pr.cells c) q (by exact iA) D q)<|Rz agB q (HS j c) ?_;rintro ad aN ⟨r,ab,az,rfl,C,M,ay,y⟩;obtain⟨u,s,j,e⟩:=k4 C u s j e;refine mv q<|se q q<|se q q<|cV q<|an q<|aI<|m2 q q<|bh [[r]] MJ VH Xz Xz q q ⟨(gb M.cZ),tV⟩ ⟨q,tV⟩ q Xz ?_
  intro au aO f aw C H;have t:=j _ f;obtain⟨u,s,M,j,e⟩:=k5 C u s M j e;have H:=Ls.cL (m:=1) (R:=aa) (T:=(FI dh)) (xs:=[ab]) H ⟨_,_,q,⟨_,q,M⟩,q⟩ q Xz t;refine fO (sz:=1) (by rfl) MJ VH q q u H (fun _ h _=>h) j (aX.new e) Xm Xm ?_;intro aj aC x P F K ao C E _ ag;have al:=u;have A:=tT A F;have B:=Sx P B e.size;have s:=(s.sub P).md C E;have j:=j.md C;have e:=e.cE C<|Sy al;have j:=K;clear K P F E ag;refine cV q<|aG<|bG<|aA<|aI<|su (rA (a:=i) (b:=1) q q Xx)<|mv q<|nt ?_;refine iW aj (o ++ ([ab])) (i+1) Xx ⟨q,(cW q Xx),q,q,tV⟩ ⟨x,A,B,j,e,ao,s,Xx,(by rw[List.take_add_one,p,S];simp[y])⟩
 have g:=dF U;refine cM<|bB<|bB<|dJ<|aA<|nM q<|ar q ?_;exact kY (v:=I) trivial q ⟨q,tV⟩ ⟨_,o,q,e,(u.ls (fun b G=>A b G)<|aX.up ai),(by rw[S,List.take_of_length_le Xx])⟩
theorem abt (f:Up w Q) {j:Value} {l:List (List UInt8)} (e:Ls (FI dh) w Q j l) (I:∀x∈l,x.length<=1048576) :
  Calls Zp 110 #[j] w fun y s=>∃h:Nat,y = .returned (uZ h)/\Md [] w s/\h<18446744073709551616/\lH 0 l=h:=by
 have K:=e.eJ;have W:=f;refine nR (n:=18) [] f Tryz.func110 q q q fun z g p m=>ns<|an q<|ns<|cV q<|nt<|aH<|nM q<|sL q MJ e.eA<|mv q<|nt<|bf ?_;obtain⟨h,k⟩:∃r,lH 0 l=r:=⟨_,q⟩;have R:=k
 try simp only[List.nil_append]at k
 refine wV (fun(v:Nat) (i:Nat)=>[(3,(uZ v)),(8,(iZ i)),(6,j),(7,(iZ l.length))]) (fun v i s=>LQ Q w [] s fun F=>Ls (FI dh) s F j l/\v<18446744073709551616/\lH v (l.drop i)=h) (fun v i=>l.length-i) 0 0 ?_ ?_ ?_
 ·exact Fz
 ·exact⟨Q,p,m,f,g,e,Xx,(by have o:=k;exact o)⟩
 clear g f p m e;rintro v i z M ⟨V,p,m,f,g,e,J,G⟩;refine ns<|su (fJ (a:=i) (b:=l.length) q q)<|nt<|aH ?_;refine kS q ?_ ?_
 ·intro C;refine aM<|aA<|aH<|bf<|ns<|su (bQ (i:=i) 1 q q MJ ah1 e.eA Xx) ?_;obtain⟨d,H⟩:=gF (l:=l) (i:=i) Xx;obtain⟨L,P,D⟩:=e.get H;obtain⟨u,rfl,B⟩:=P;have D:At _ j (i*1) [u]:=D;refine su ((dS (kk:=i*1) 0 q q eH D q).to (b:=u) q)<|cV q<|aG ?_;refine aA<|aI<|m2 q q<|Rz agH q (YX f B (by exact lv (I _<|List.mem_of_getElem? Xk) Xz)) ?_;rintro y c ⟨t,rfl,E,T,A⟩;obtain⟨e,f,g⟩:=k3 E e f g;refine su (adZ (a:=v) (b:=t) 18446744073709551616 q q q q Xx)<|cV q<|aG<|bG<|aA<|aI<|su (rA (a:=i) (b:=1) q q Xx)<|mv q<|nt ?_;refine tc (v ^^^ t) (i+1) Xx ⟨(cW q (by rfl)),(cW q Xx),q,q,tV⟩ ⟨V,p,m,f,g,e,(FM Xk Xk),(by have o:=G;simp(disch:=first|omega|assumption|simp) only [BO,Rf H,SS,reduceIte,C,H,A]at o;exact o)⟩
 intro C;refine cM<|bB<|bB<|dJ<|aA<|nM q<|ar q ?_;exact gB (uZ v) q ⟨v,q,g,Xk,(by(try (simp(disch:=first|omega|assumption|simp) only [BO,SS,reduceIte,C]at G));simp(disch:=first|omega|assumption|simp) only [SS,reduceIte,k,C,<- G])⟩
theorem FL (g:Up w Q) (n:Int) (j:(-9223372036854775808<=n/\n<9223372036854775808)) :
  Calls Zp 49 #[(iZ (n:Int))] w fun f h=>∃e:Bool,f = .returned (.bool e)/\Md [] w h/\decide (1<=n/\n<=64)=e:=by
 have d:=Md.refl [] w;have D:=g;refine enter (n:=9) Tryz.func49 q q q fun i=>ns<|an q<|nM q<|su (rG (a:=n) (b:=1) q q)<|mv q ?_;refine ck (t:=5) q (fun c=>?_)<|fun c=>?_
 ·have C:=dq c;refine sg c (aP q)<|sg c (xL (a:=n) (b:=64) q q)<|su (bC q c q)<|ar q ?_;exact gB (.bool<|(decide (n<=64))) q ⟨(decide (n<=64)),q,d,(by simp_all)⟩
 have C:=dF c;refine sk c<|sk c<|su (aU q c q)<|ar q ?_;exact gB (.bool false) q ⟨false,q,d,(by exact decide_eq_false Xx)⟩
theorem zA (B:Up w Q) {s:Value} {l:Ly} (j:Ls dh w Q s l) (ad:l.length<=140737488355328) :
  Calls Zp 72 #[s] w fun Y t=>∃A:Value,∃z:List UInt8,∃y:Nat->Prop,Y = .returned (A)/\Md [] w t/\iQ w t Q y/\Ow dh 5 (aX [] w) t y A z/\l=z:=by
 obtain⟨a,e,T,R,V⟩:∃a e,s = .slice a l.length e/\l.length<=e/\(a=none->l=[]):=by obtain⟨a,e,ab,X,K,k,L,_⟩:=j;exact⟨a,e,X,K,fun h=>List.eq_nil_of_length_eq_zero (by have:=L h;omega)⟩
 refine enter (n:=8) Tryz.func72 q q q fun Z=>ns<|an q<|aH<|nM q<|st (.bool a.isNone) (by exact LX (a:=a) (m:=l.length) (c:=e) (by rw[<- T];rfl) fM)<|nt ?_;refine cJ q (fun H=>?_)<|fun H=>?_
 ·have N:l=[]:=V<|Option.isNone_iff_eq_none.1 H;refine ns<|ar q<|aS ?_;exact gh trivial q q ⟨_,[],Q,q,Md.refl [] w,⟨fun x h _=>h,fun x h=>h,B⟩,Ow.nil _ _ _ _ _,N⟩
 refine aM ?_;refine aA<|ns<|kF fM gK ?_;intro b i D W C M;obtain⟨I,v,U,O,f⟩:=oI B D W C;have P:Ow dh 5 (aX [] w) i I (.slice (some ⟨b,0,none⟩) 0 0) []:=Ow.cL (m:=0) M q q (by simp[maxLen]) (.inr D) O;have j:=(j.sub v).o C;refine mv q<|qd (sz:=1) q fM gK q q P j.lz f (aX.new C) Xh Xh ?_;intro p r J S d g E F o _ aa;refine ar q ?_;exact gh trivial q q ⟨_,_,J,q,C.gD F D,⟨Sx S v C.size,fun x G=>U x<|d x G,g⟩,E,by simp⟩
theorem CG (e:Up w Q) {f:Value} {l:Ly} (g:Ls dh w Q f l) (h:l.length<=140737488355328) :
  Calls Zp 72 #[f] w fun d c=>∃b:Value,∃a:List UInt8,d = .returned (b)/\Md [] w c/\Ls dh c Q b a/\l=a :=
 (zA e g h).mono fun d c ⟨b,a,Q2,he,hm,kq,k0,hF⟩=>⟨b,a,he,hm,k0.ls kq.2.1<|aX.up e,hF⟩
theorem CN (e:Up w Q) {S:Value} {m:bw} (j:Pt qP 107 w Q S m) (ad:m.b.length<=1000000) :
  Calls Zp 56 #[S] w fun N v=>∃E:Nat,∃O:Value,∃F:bw,∃L:Nat->Prop,N = .returned (.pointer<|some ⟨E,0,none⟩)/\Md [] w v/\iQ w v Q L/\bK v E (bw.cells F O) 107/\¬L E/\w.heap.size<=E/\bw.ok F/\Ow dh 5 (aX [] w) v L O F.b/\m=F:=by
 obtain⟨c,g,rfl,aa,j,d⟩:=j;obtain⟨k,rfl,o,P⟩:=pS d;have ab:=e;refine nR (n:=14) [] e Tryz.func56 q q q fun X a B H=>ns<|an q<|aH ?_;have G:=j;refine nL [(0,true),(1,true),(2,true),(3,true),(5,true),(6,true),(7,true),(8,true),(4,false)] [9,10,11] mixed ?_;intro p M;have A:=M;refine mo q<|my (bN q)<|my (aF q iI)<|mz (fun v K=>(aD q eH (G.o K) q).to (b:=k) q)<|mo q<|my (bN q)<|my (aF q cG)<|mz (fun v K=>bU (d9.cells m.h) q (by exact RG) (G.o K) q) ?_;obtain⟨P,j,e,a⟩:=k4 M P j e a;refine jc ?_ rfl;refine Rz ajK q (zA e P Xx) ?_;rintro N r ⟨D,J,l,rfl,z,⟨R,u,x⟩,s,i⟩;have Y:∀b,ah D=some b->b∈[]\/_:=fun b y=>Or.inr<|lv A.size<|(s.2 b y).1.elim (fun h=>by simp at h) id;have B:=tT B u;have H:=Sx R H a.size;have s:=s.lower<|aX.lift (S':=[]) a;obtain⟨j,a,A⟩:=k3 z j a A;have e:=x;refine aG ⟨q,A,?_⟩;refine di ?_;refine su (dI (us:=[[D],(d9.cells m.h)]) (cs:=(bw.cells (({b:=J,h:=m.h}:bw)) D)) [(0,0,1),(1,1,91)] z107 agW q q ⟨(gb s.cZ),q,tV⟩ Fz q q)<|e7 (cs:=(bw.cells (({b:=J,h:=m.h}:bw)) D)) q q ?_;intro I t C U z V;have Z:c≠I:=(by have:=j.lt;omega);obtain⟨f,R,u,T,x⟩:=oI e C U z;have B:=tT B u;have H:=Sx R H a.size;have C:=lv a.size C;have s:=(s.sub R u).o z;have a:=a.k z;have e:=x;refine ar q ?_;exact gB (.pointer<|some ⟨I,0,none⟩) q ⟨I,_,(({b:=J,h:=m.h}:bw)),f,q,a,⟨H,B,e⟩,V,T,C,Xk,s,(by cases m;simp_all)⟩
end Go.Proofs.YtfadcpfgenjbeaaGreat
namespace Go.Wk
open Go Go.RowKit
def okC (c:UInt8):Bool:=decide (33<=c.toNat) && decide (c.toNat<=126)
def gG (s:Ly):Bool:=decide (1<=s.length) && decide (s.length<=96) && s.all okC
theorem aeO {s:Ly} {i:Nat} (h:¬i<s.length):(s.drop i).all okC=true:=by rw[List.drop_of_length_le Xx];rfl
theorem KC {s:Ly} {i:Nat} (h:i<s.length):(s.drop i).all okC=(okC (s.getD i 0) && (s.drop<|i+1).all okC):=by rw[List.drop_eq_getElem_cons h,List.all_cons];simp[List.getD_eq_getElem?_getD,List.getElem?_eq_getElem h]
theorem adB {c:UInt8} (h:c.toNat<33\/126<c.toNat):okC c=false:=by unfold okC;rcases h with h|h<;>simp<;>omega
theorem afD {c:UInt8} (h:¬c.toNat<33) (a:¬126<c.toNat):okC c=true:=by unfold okC;simp;omega
def AE:Option Nat->Value
  | some b=>.pointer (some ⟨b,0,none⟩)
  | none=>.pointer none
def tNp:Dt Nat:=qg (fun b=>.pointer<|some ⟨b,0,none⟩) (fun _=>rfl)<|fun _=>True
theorem acE (x:Option Nat):(AE x).oneCell'=true:=by cases x<;>rfl
def al5:Dt (Option Nat):=qg AE acE<|fun _=>True
theorem acF (o:Option Nat):∃p,AE o = .pointer p/\p.isNone=o.isNone:=by cases o<;>exact⟨_,q,q⟩
section
variable {P:Program} {n:Nat} {A:Fr n} {D:List Deferred} {l:List (Nat × Value)} {w:World} {d:Option Tmp} {ty:TypeId} {ps:String} {af:Array Edge} {g:Option (Nat × Bool)}
theorem afJ {x:Operand} {t u e:TypeId} {o:Option Nat} (b:ev n l x=some (AE o)) (a:P.underlying t=some (.pointer e)) :
    cw P ⟨d,.binOp .neq t x (.const<|.pointer none) u,ty,ps,af,g⟩ (aN A D l).eval w (.bool o.isSome):=by
  obtain⟨p,c,G⟩:=acF o;rw[c]at b;have i:P.underlying t=some (.pointer<|P.pointee t):=by rw[a];simp[Program.pointee,a]
  have h:=run_neq_pointer_nil (P:=P) w t p i;have C:(aN A D l).eval (.const<|.pointer none) = .pointer none:=rfl;have f:(eqGuard .neq t x (.const<|.pointer none) (.pointer p)<|.pointer none).run P w = .ok () w:=by unfold eqGuard;simp
  have e:o.isSome=p.isSome:=by cases o <;> cases p <;> simp_all
  simp[cw,execOp,bM b,C,f,h,e]
end
def oz (off:Bool) (l:List (List UInt8)):Nat:=if off=true then 18 else if l.all gG=true then 0 else 1
theorem acy {off:Bool} {l:List (List UInt8)} (h:off=true):oz off l=18:=by unfold oz;rw[if_pos h]
theorem W7 {off b:Bool} {l:List (List UInt8)} (h:¬off=true) (hb:l.all gG=b):oz off l=if b=true then 0 else 1:=by unfold oz;rw[if_neg h,hb]
theorem aaS {l:List (List UInt8)} {i:Nat} (h:¬i<l.length):(l.drop i).all gG=true:=by rw[List.drop_of_length_le Xx];rfl
theorem MW {l:List (List UInt8)} {i:Nat} {s:Ly} (h:l[i]? = some s):(l.drop i).all gG=(gG s && (l.drop<|i+1).all gG):=by obtain⟨A,B⟩:=List.getElem?_eq_some_iff.1 h;rw[List.drop_eq_getElem_cons A,B,List.all_cons]
theorem aaT {l:List (List UInt8)} {i:Nat} {s:Ly} (h:l[i]? = some s) (hs:gG s=true):(l.drop i).all gG=(l.drop<|i+1).all gG:=by rw[MW h,hs,Bool.true_and]
theorem aeP {l:List (List UInt8)} {i:Nat} {s:Ly} (h:l[i]? = some s) (hs:gG s=false):(l.drop i).all gG=false:=by rw[MW h,hs,Bool.false_and]
end Go.Wk
namespace Go.Proofs.YtfadcpfgenjbeaaGreat
open Go Go.Wk Go.RowKit
set_option linter.unusedVariables false
set_option linter.unusedSimpArgs false
attribute [local irreducible] wpList wpQuiet wpStill eF Code.wp Calls bodyPost
variable {w:World} {Q:Nat->Prop}
theorem S7 (k:Up w Q) (s:Ly) (E:s.length<=1000000) :
  Calls Zp 126 #[(str s)] w fun A x=>∃u:Bool,A = .returned (.bool u)/\Md [] w x/\gG s=u:=by
 have V:=k;refine nR (n:=28) [] k Tryz.func126 q q q fun y f p P=>ns<|an q<|aH<|nM q<|su (lY (s:=s) q u9)<|su (fJ (a:=s.length) (b:=1) q q)<|mv q ?_;refine ck (t:=7) q (fun d=>?_)<|fun d=>?_
 ·(first|(have j:=dq d)|(have j:=dF<|ir d)|(have j:=ir d)|(have j:=d));refine sk d<|sk d<|sk d<|su (bC q d q)<|nt<|jJ q q<|ns<|ar q<|aS ?_;exact gB (.bool false) q ⟨false,q,f,(by unfold gG;simp;omega)⟩
 (first|(have j:=dF d)|(have j:=dq<|iq d)|(have j:=iq d)|(have j:=d));refine sg d (aP q)<|sg d (lY (s:=s) q u9)<|sg d (jQ (a:=s.length) (b:=96) q q)<|su (aU q d q)<|nt ?_;refine cJ q (fun G=>?_)<|fun G=>?_
 ·(first|(have C:=dq G)|(have C:=dF<|ir G)|(have C:=ir G)|(have C:=G));refine ns<|ar q<|aS ?_;exact gB (.bool false) q ⟨false,q,f,(by unfold gG;simp;omega)⟩
 (first|(have C:=dF G)|(have C:=dq<|iq G)|(have C:=iq G)|(have C:=G));refine aM<|aA<|aH<|nM q<|su (lY (s:=s) q u9)<|mv q<|nt<|bf ?_;obtain⟨u,v⟩:∃r,s.all okC=r:=⟨_,q⟩;have m:=v
 try simp only[List.nil_append]at v
 refine vm (fun(i:Nat)=>[(14,(iZ i)),(0,(str s)),(13,(iZ s.length))]) (fun i x=>LQ Q w [] x fun B=>i<=s.length/\(s.drop i).all okC=u) (fun i=>s.length-i) 0 ?_ ?_ ?_
 ·exact Fz
 ·exact⟨Q,p,P,k,f,Xx,(by have R:=v;first|exact R|exact m|(simp only[List.nil_append]at R;exact R))⟩
 clear f k p P;rintro i y W ⟨z,p,P,k,f,T,o⟩;refine ns<|su (fJ (a:=i) (b:=s.length) q q)<|nt<|aH ?_;refine cJ q (fun H=>?_)<|fun H=>?_
 ·(first|(have D:=dq H)|(have D:=dF<|ir H)|(have D:=ir H)|(have D:=H));refine aM<|aA<|aH<|bf<|nM q<|an q<|ns<|m2 q q<|su (rH (s:=s) (i:=i) q q u9 Xx)<|su (fJ (a:=((s.getD i 0).toNat)) (b:=33) q q)<|mv q ?_;refine ck (t:=21) q (fun c=>?_)<|fun c=>?_
  ·(first|(have g:=dq c)|(have g:=dF<|ir c)|(have g:=ir c)|(have g:=c));refine sk c<|sk c<|sk c<|sk c<|su (bC q c q)<|nt<|jJ q q<|ns<|ar q<|bS<|aS<|aS ?_;refine bS<|aS ?_;exact gB (.bool false) q ⟨false,q,f,(by have l:=m.trans<|o.symm.trans (show _=false from by rw[KC Xx,adB Xx];rfl);unfold gG;rw[l];simp)⟩
  (first|(have g:=dF c)|(have g:=dq<|iq c)|(have g:=iq c)|(have g:=c));refine sg c (aP q)<|sg c (aP q)<|sg c (rH (s:=s) (i:=i) q q u9 Xx)<|sg c (jQ (a:=((s.getD i 0).toNat)) (b:=126) q q)<|su (aU q c q)<|nt ?_;refine cJ q (fun e=>?_)<|fun e=>?_
  ·(first|(have h:=dq e)|(have h:=dF<|ir e)|(have h:=ir e)|(have h:=e));refine ns<|ar q<|bS<|aS<|aS<|bS<|aS ?_;exact gB (.bool false) q ⟨false,q,f,(by have l:=m.trans<|o.symm.trans (show _=false from by rw[KC Xx,adB Xx];rfl);unfold gG;rw[l];simp)⟩
  (first|(have h:=dF e)|(have h:=dq<|iq e)|(have h:=iq e)|(have h:=e));refine aM<|bG<|aA<|aI<|su (rA (a:=i) (b:=1) q q Xx)<|mv q<|nt ?_;refine sZ (i+1) Xx ⟨(cW q Xx),q,q,tV⟩ ⟨z,p,P,k,f,Xx,(by have R:=o;rw[KC Xx,afD Xx Xx,Bool.true_and]at R;exact R)⟩
 (first|(have D:=dF H)|(have D:=dq<|iq H)|(have D:=iq H)|(have D:=H));refine cM<|bB<|bB<|dJ<|aA<|ns<|ar q ?_;exact gB (.bool true) q ⟨true,q,f,(by have l:=m.trans<|o.symm.trans<|aeO Xx;unfold gG;rw[l];simp;omega)⟩
theorem lS:aJ Zp 102 3=some 3:=Xj
theorem xh:aJ Zp 102 4=some 4:=Xj
theorem xF:iv Zp 99=true:=Xj
structure js where
  fs:Nat
  name:List UInt8
  cK:Nat
  d:bw
  waiting:Nat
  dN:Bool
def js.cells (x:js) (v0:Value):List Value :=
  [(.pointer<|some ⟨x.fs,0,none⟩)] ++ ([(str x.name)] ++ ([(.int .i64 x.cK)] ++ ([v0] ++ ([(.int .i64 x.waiting)] ++ ([(.bool x.dN)])))))
def js.ok (x:js):Prop:=x.cK<9223372036854775808/\x.waiting<9223372036854775808
def js.pA (m:js) (aY mono:Nat) (aR:Ly):lu:={seq:=m.d.aT 9+1,aY:=aY,mono:=mono,aR:=aR,xor:=0,bg:=[]}
def js.append (m:js) (l:List Pr) (aY mono:Nat) (aR:Ly):Nat × Nat × js :=
  if m.dN=true then(0,8,m)else
  if(gX l).2≠0 then(0,(gX l).2,m)else
  if m.d.aT 9=18446744073709551615 then(0,1,m)else
  if m.cK<(m.d.entry (gX l).1<|m.pA aY mono aR).b.length then(0,15,m)else
    ((m.d.entry (gX l).1<|m.pA aY mono aR).aT 9,0,{m with d:=m.d.entry (gX l).1 (m.pA aY mono aR),waiting:=m.waiting+1})
def js.vn (m:js) (l:List Pr) (aY mono:Nat) (aR:Ly):Prop :=
  m.dN=false->(gX l).2=0->m.d.aT 9≠18446744073709551615->m.d.IJ (gX l).1 (m.pA aY mono aR)/\(1<=(gX l).1.length/\(gX l).1.length<=1000)/\∀q∈(gX l).1,(ez q).1.length<=1000
theorem uT (l:Up w Q) {b:Nat} {e:Value} (m:js) (k:bK w b (js.cells m e) 102) (n0:¬Q b) (y:js.ok m) (i:Pt qP 107 w Q e m.d) :
  Calls Zp 25 #[.pointer (some ⟨b,0,none⟩)] w fun j o=>∃c:Nat,j = .returned (uZ c)/\Md [] w o/\c<18446744073709551616/\m.d.aT 9=c:=by
 have G:=n0;have g:=Md.refl [] w;have t:=l;refine enter (n:=11) Tryz.func25 q q q fun p=>ns<|an q<|nM q<|sn q<|sf q lS<|sl (u:=e) q xF k q ?_;have a:=i;obtain⟨r,s,rfl,D,a,C⟩:=a;obtain⟨x,rfl,f,H⟩:=pS C;refine sn q<|sf q cG<|sf q uJ<|sl (u:=(uZ ((m.d.h.n.getD 9 0:Nat):Int))) q aV a q ?_;have v:m.d.h.n.getD 9 0<18446744073709551616:=gm f.2.2.2.2.2.2.2.1 9;refine ar q ?_;exact gB (uZ ((m.d.h.n.getD 9 0:Nat):Int)) q ⟨m.d.h.n.getD 9 0,q,g,Xk,q⟩
theorem aa9 (i:Up w Q) {a:Nat} {c:Value} (m:js) (h:bK w a (js.cells m c) 102) (n0:¬Q a) (f:js.ok m) (o:Pt qP 107 w Q c m.d) :
  Calls Zp 27 #[.pointer (some ⟨a,0,none⟩)] w fun g j=>∃b:Nat,g = .returned (iZ b)/\Md [] w j/\b<9223372036854775808/\m.waiting=b:=by
 have k:=n0;have e:=Md.refl [] w;have C:=i;refine enter (n:=7) Tryz.func27 q q q fun l=>ns<|an q<|nM q<|sn q<|sf q xh<|sl (u:=(iZ m.waiting)) q gQ h q ?_;have D:m.waiting<9223372036854775808:=f.2;refine ar q ?_;exact gB (iZ m.waiting) q ⟨m.waiting,q,e,Xk,q⟩
theorem UJ (f:Up w Q) {e:Nat} {g:Value} (m:js) (x:bK w e (js.cells m g) 102) (n0:¬Q e) (I:js.ok m) (v:Pt qP 107 w Q g m.d) (J:m.d.b.length<=1000000) :
  Calls Zp 24 #[.pointer (some ⟨e,0,none⟩)] w fun h l=>∃j:Value,∃i:List UInt8,h = .returned (j)/\Md [] w l/\Ls dh l Q j i/\m.d.b=i:=by
 have E:=n0;have R:=f;refine nR (n:=11) [] f Tryz.func24 q q q fun y c P _=>ns<|an q<|nM q<|sn q<|sf q lS<|sl (u:=g) q xF x q ?_;have a:=v;obtain⟨A,B,rfl,z,a,D⟩:=a;obtain⟨t,rfl,T,H⟩:=pS D;refine sn q<|sf q iI<|sl (u:=t) q eH a q<|Rz ajK q (CG f H Xx) ?_;rintro h F ⟨o,p,rfl,s,C,G⟩;have c:=c.k s;refine ar q ?_;exact gB o q ⟨_,p,q,c,(C.sub<|fun b r _=>P b r),G⟩
structure Rq where
  nm:List UInt8
  there:Bool
  kI:Nat
def Rq.cells (x:Rq):List Value :=
  [(str x.nm)] ++ ([(.bool x.there)] ++ ([(.pointer<|some ⟨x.kI,0,none⟩)]))
structure gJ where
  id:Nat
  no:Rq
  fl:mD
def BL:Dt gJ:=qg (fun x=>.pointer<|some ⟨x.id,0,none⟩) (fun _=>rfl)<|fun _=>True
structure FT where
  kind:Nat
  n:Nat
  old:List UInt8
  aN:Option Nat
def FT.cells (x:FT):List Value :=
  [(.int .i64 x.kind)] ++ ([(.pointer<|some ⟨x.n,0,none⟩)] ++ ([(str x.old)] ++ ([(AE x.aN)])))
def qh:Dt FT:=sw (fun x=>(x.kind,x.n,x.old,x.aN))<|fC qf<|fC tNp<|fC AI al5
def FT.ok (x:FT):Prop:=x.kind<9223372036854775808
theorem agd {w:World} {Q:Nat->Prop} {x:FT} (c0:FT.ok x):qh.nN w Q (x.cells) x :=
  ⟨_,_,q,⟨q,c0⟩,⟨_,_,q,⟨q,tV⟩,⟨_,_,q,⟨q,tV⟩,⟨q,tV⟩⟩⟩⟩
structure ey where
  room:Int
  iV:Int
  off:Bool
  nodes:List gJ
  pend:List FT
def ey.cells (x:ey) (v0:Value) (v1:Value):List Value :=
  [(.int .i64 (x.room:Int))] ++ ([(.int .i64 (x.iV:Int))] ++ ([(.bool x.off)] ++ ([v0] ++ ([v1]))))
def ey.ok (x:ey):Prop:=(-9223372036854775808<=x.room/\x.room<9223372036854775808)/\(-9223372036854775808<=x.iV/\x.iV<9223372036854775808)
def XP (nd fd:TypeId) (lo:Nat->Prop) (w:World) (Q:Nat->Prop) (x:gJ):Prop :=
  bK w x.id x.no.cells nd/\(∃v0 v1,bK w x.no.kI (x.fl.cells v0 v1) fd/\Ls dh w Q v0 x.fl.b/\Ls dh w Q v1 x.fl.safe)/\¬Q x.id/\¬Q x.no.kI/\lo x.id/\lo x.no.kI
structure ji (nd fd:TypeId) (lo:Nat->Prop) (w:World) (Q:Nat->Prop) (l:List gJ):Prop where
  all:∀x∈l,XP nd fd lo w Q x
  ids:(l.map (·.id)).Nodup
  KQ:(l.map (·.no.kI)).Nodup
section
variable {nd fd:TypeId} {lo lo':Nat->Prop} {w w':World} {Q Q':Nat->Prop} {l:List gJ} {x:gJ} {S:List Nat}
theorem XP.md (h:XP nd fd lo w Q x) (m:Md S w w') (a:x.id∉S/\x.no.kI∉S) (hs:∀b∈S,¬Q b):XP nd fd lo w' Q x:=by obtain⟨c,⟨f,G,d,C,D⟩,e⟩:=h;exact⟨c.md m a.1,⟨f,G,d.md m a.2,C.md m hs,D.md m hs⟩,e⟩
theorem XP.sub (h:XP nd fd lo w Q x) (s:∀b,Q b->b<w.heap.size->Q' b) (t:∀b,Q' b->Q b):XP nd fd lo w Q' x:=by obtain⟨B,⟨I,J,C,D,E⟩,F,G,H⟩:=h;exact⟨B,⟨I,J,C,D.sub s,E.sub s⟩,fun A=>F<|t _ A,fun A=>G<|t _ A,H⟩
theorem XP.cT (h:XP nd fd lo w Q x) (t:∀b,lo b->lo' b):XP nd fd lo' w Q x:=by obtain⟨A,B,C,D,E,F⟩:=h;exact⟨A,B,C,D,t _ E,t _ F⟩
theorem ji.md (h:ji nd fd lo w Q l) (m:Md S w w') (c:∀x∈l,x.id∉S/\x.no.kI∉S) (hs:∀b∈S,¬Q b):ji nd fd lo w' Q l:=⟨fun x a=>(h.all x a).md m (c x a) hs,h.ids,h.KQ⟩
theorem ji.o (h:ji nd fd lo w Q l) (m:Md [] w w'):ji nd fd lo w' Q l:=h.md m (fun _ _=>⟨List.not_mem_nil,List.not_mem_nil⟩)<|fun _ hb=>absurd hb List.not_mem_nil
instance alU:Tp w w' (ji nd fd lo w Q l) (ji nd fd lo w' Q l):=⟨fun m h=>h.o m⟩
theorem ji.sub (h:ji nd fd lo w Q l) (s:∀b,Q b->b<w.heap.size->Q' b) (t:∀b,Q' b->Q b):ji nd fd lo w Q' l:=⟨fun x a=>(h.all x a).sub s t,h.ids,h.KQ⟩
theorem ji.cT (h:ji nd fd lo w Q l) (t:∀b,lo b->lo' b):ji nd fd lo' w Q l:=⟨fun x a=>(h.all x a).cT t,h.ids,h.KQ⟩
theorem RL {b:Nat} {cs d:List Value} {t c:TypeId} (h:bK w b cs t) (a:bK w b d c):t=c:=by unfold bK at h a;rw[h]at a;cases a;rfl
theorem ji.ap1 (h:ji nd fd lo w Q l) {b:Nat} {cs:List Value} {ty:TypeId} (e:bK w b cs ty) (h1:Nat.beq nd ty=false) (d:Nat.beq fd ty=false):∀x∈l,x.id∉[b]/\x.no.kI∉[b]:=by
  intro x D;obtain⟨c,⟨f,g,C,_⟩,_⟩:=h.all x D;refine⟨fun a=>?_,fun a=>?_⟩
  · rw[List.mem_singleton]at a;rw[a]at c;rw[RL c e]at h1;simp at h1
  rw[List.mem_singleton]at a;rw[a]at C;rw[RL C e]at d;simp at d
theorem ji.get (h:ji nd fd lo w Q l) (a:x∈l):bK w x.id x.no.cells nd/\x.id<w.heap.size/\¬Q x.id:=⟨(h.all x a).1,(h.all x a).1.lt,(h.all x a).2.2.1⟩
theorem ji.bE (h:ji nd fd lo w Q l) (f:x∈l):∃a c,bK w x.no.kI (x.fl.cells a c) fd/\¬Q x.no.kI/\Ls dh w Q a x.fl.b/\Ls dh w Q c x.fl.safe:=by obtain⟨_,⟨a,c,d,e,C⟩,_,D,_⟩:=h.all x f;exact⟨a,c,d,D,e,C⟩
end
def dU:List gJ->List UInt8->Option gJ
  | [],_=>none
  | x :: l,s=>if x.no.there=true/\x.no.nm=s then some x else dU l s
theorem YJ {l:List gJ} {s:Ly} {i:Nat} (h:¬i<l.length):dU (l.drop i) s=none:=by rw[List.drop_of_length_le Xx];rfl
theorem uj {l:List gJ} {i:Nat} {x:gJ} (h:l[i]? = some x):l.drop i=x :: l.drop (i+1):=by obtain⟨A,B⟩:=List.getElem?_eq_some_iff.1 h;rw[<- B];exact List.drop_eq_getElem_cons A
theorem YK {l:List gJ} {s:Ly} {i:Nat} {x:gJ} (h:l[i]? = some x) (h1:x.no.there=true) (a:x.no.nm=s):dU (l.drop i) s=some x:=by rw[uj h,dU,if_pos ⟨h1,a⟩]
theorem NP {l:List gJ} {s:Ly} {i:Nat} {x:gJ} (h:l[i]? = some x) (h1:¬(x.no.there=true/\x.no.nm=s)):dU (l.drop i) s=dU (l.drop<|i+1) s:=by rw[uj h,dU,if_neg h1]
theorem ul:∀{l:List gJ} {s:Ly} {x:gJ},dU l s=some x->x∈l/\x.no.there=true/\x.no.nm=s
  | [],_,_,h=>by cases h
  | y :: l,s,x,h=>by
    rw[dU]at h;by_cases hc:y.no.there=true/\y.no.nm=s
    · rw[if_pos hc]at h;cases h;exact⟨List.mem_cons_self,hc⟩
    · rw[if_neg hc]at h;obtain⟨a,b⟩:=ul h;exact⟨List.mem_cons_of_mem _ a,b⟩
def eV:List gJ->Nat × Nat
  | []=>(0,0)
  | x :: l=>if x.no.there=true then((eV l).1+1,(eV l).2+x.fl.b.length)else eV l
theorem aez {l:List gJ} {i:Nat} (h:¬i<l.length):eV (l.drop i)=(0,0):=by rw[List.drop_of_length_le Xx];rfl
theorem FJ {l:List gJ} {i:Nat} {x:gJ} (h:l[i]? = some x) (h1:x.no.there=true):eV (l.drop i)=((eV<|l.drop<|i+1).1+1,(eV<|l.drop<|i+1).2+x.fl.b.length):=by rw[uj h,eV,if_pos h1]
theorem XJ {l:List gJ} {i:Nat} {x:gJ} (h:l[i]? = some x) (h1:¬x.no.there=true):eV (l.drop i)=eV (l.drop<|i+1):=by rw[uj h,eV,if_neg h1]
theorem XI:∀l:List gJ,(eV l).1<=l.length
  | []=>Nat.le_refl _
  | x :: l=>by
    have:=XI l;rw[eV];by_cases h:x.no.there=true
    · rw[if_pos h];simpa using this
    · rw[if_neg h];simp;omega
def uY (off:Bool) (l:List gJ) (s:Ly):Option Nat × Nat :=
  if oz off [s]≠0 then(none,oz off [s])else match dU l s with
    | some x=>(some x.id,0)
    | none=>(none,16)
theorem ahH {off:Bool} {l:List gJ} {s:Ly} {c:Nat} (h:oz off [s]=c) (a:c≠0):uY off l s=(none,c):=by subst h;unfold uY;rw[if_pos a]
theorem ahG {off:Bool} {l:List gJ} {s:Ly} {c:Nat} {o:Option Nat} (h:oz off [s]=c) (b:c=0) (hf:(dU l s).map (·.id)=o) (a:o.isSome=true):uY off l s=(o,0):=by
  subst hf;unfold uY;rw[if_neg Xx];cases hq:dU l s with
  | none=>rw[hq]at a;cases a
  | some x=>rfl
theorem afo {off:Bool} {l:List gJ} {s:Ly} {c:Nat} {o:Option Nat} (h:oz off [s]=c) (b:c=0) (hf:(dU l s).map (·.id)=o) (a:o.isSome=false):uY off l s=(none,16):=by
  subst hf;unfold uY;rw[if_neg Xx];cases hq:dU l s with
  | none=>rfl
  | some x=>rw[hq]at a;cases a
section
variable {nd fd:TypeId} {lo lo1 lo2:Nat->Prop} {w:World} {Q:Nat->Prop} {l:List gJ} {α β:Type} {T:Dt α} {U:Dt β}
theorem ji.apO (h:ji nd fd lo w Q l) {e:Nat} {v:Value} {xs:List α} {d:Nat->Prop} (b:Ow T e lo1 w d v xs) (h1:Nat.beq e nd=false) (f:Nat.beq e fd=false):∀x∈l,x.id∉(ah v).toList/\x.no.kI∉(ah v).toList:=by
  intro x D;obtain⟨c,⟨g,i,C,_⟩,_⟩:=h.all x D;refine⟨fun a=>?_,fun a=>?_⟩
  · exact b.fV c h1 x.id (by simpa using a) q
  exact b.fV C f x.no.kI (by simpa using a) q
theorem ji.apF (h:ji nd fd lo w Q l) {b:Nat} {cs:List Value} {ty d e:TypeId} {f g:Value} {x1:List α} {x2:List β} {j k:Nat->Prop} (s:bK w b cs ty) (t:Ow T d lo1 w j f x1) (u:Ow U e lo2 w k g x2) (h1:Nat.beq nd ty=false) (m:Nat.beq fd ty=false) (n:Nat.beq d nd=false) (o:Nat.beq d fd=false) (p:Nat.beq e nd=false) (r:Nat.beq e fd=false) :
    ∀x∈l,x.id∉(b :: (ah f).toList ++ ((ah g).toList))/\x.no.kI∉(b :: (ah f).toList ++ ((ah g).toList)):=by
  intro x C;have a:=h.ap1 s h1 m x C;have D:=h.apO t n o x C;have i:=h.apO u p r x C;simp only[List.mem_append,List.mem_cons,List.mem_singleton,List.not_mem_nil,or_false]at a ⊢;exact⟨fun c=>c.elim (fun q=>q.elim a.1 D.1) i.1,fun c=>c.elim (fun q=>q.elim a.2 D.2) i.2⟩
end
def gw (f:ey):Nat × ey:=if f.iV=0 then(18,{f with off:=true})else if 0<f.iV then(0,{f with iV:=f.iV-1})else(0,f)
theorem ahs {f:ey} (h:f.iV=0):gw f=(18,{f with off:=true}):=by unfold gw;rw[if_pos h]
theorem aht {f:ey} (h:¬f.iV=0) (h1:0<f.iV):gw f=(0,{f with iV:=f.iV-1}):=by unfold gw;rw[if_neg h,if_pos h1]
theorem abg {f:ey} (h:¬f.iV=0) (h1:¬0<f.iV):gw f=(0,f):=by unfold gw;rw[if_neg h,if_neg h1]
theorem wI {off:Bool} {l:List gJ} {s:Ly} {c:Nat} {o:Option Nat} (h:uY off l s=(o,c)) (a:c=0):∃x,x∈l/\o=some x.id/\(oz off [s]=0/\dU l s=some x):=by
  subst a;unfold uY at h;by_cases h1:oz off [s]≠0
  · rw[if_pos h1]at h;exact absurd (congrArg Prod.snd h) h1
  rw[if_neg h1]at h;cases hq:dU l s with
  | none=>rw[hq]at h;cases h
  | some x=>rw[hq]at h;exact⟨x,(ul hq).1,(congrArg Prod.fst h).symm,by omega,q⟩
def KB (off:Bool) (l:List gJ) (s:Ly):List UInt8 × Nat :=
  if(uY off l s).2≠0 then([],(uY off l s).2)else match dU l s with|some x=>(x.fl.b,0)|none=>([],0)
theorem aeN {off:Bool} {l:List gJ} {s:Ly} {c:Nat} {o:Option Nat} (h:uY off l s=(o,c)) (a:c≠0):KB off l s=([],c):=by unfold KB;rw[h];rw[if_pos a]
theorem wH {off:Bool} {l:List gJ} {s:Ly} {x:gJ} (h:oz off [s]=0/\dU l s=some x):uY off l s=(some x.id,0):=by unfold uY;rw[h.1,h.2];rfl
theorem UR {off:Bool} {l:List gJ} {s b:Ly} {x:gJ} (h:oz off [s]=0/\dU l s=some x) (hb:x.fl.b=b):KB off l s=(b,0):=by unfold KB;rw[wH h,h.2,<- hb];rfl
def AB (off:Bool) (l:List gJ) (s:Ly):Nat × Nat :=
  if(uY off l s).2≠0 then(0,(uY off l s).2)else match dU l s with|some x=>(x.fl.b.length,0)|none=>(0,0)
theorem VZ {off:Bool} {l:List gJ} {s:Ly} {c:Nat} {o:Option Nat} (h:uY off l s=(o,c)) (a:c≠0):AB off l s=(0,c):=by unfold AB;rw[h];rw[if_pos a]
theorem AU {off:Bool} {l:List gJ} {s:Ly} {n:Nat} {x:gJ} (h:oz off [s]=0/\dU l s=some x) (hb:x.fl.b.length=n):AB off l s=(n,0):=by unfold AB;rw[wH h,h.2,<- hb];rfl
def nq (f:ey):Int:=if f.off=true then 0 else if 0<f.room-((eV f.nodes).2:Int)then f.room-((eV f.nodes).2:Int)else 0
theorem YT {f:ey} (h:f.off=true):nq f=0:=by unfold nq;rw[if_pos h]
theorem abQ {f:ey} {a b:Nat} (h:f.off=false) (c:eV f.nodes=(a,b)):nq f=if f.room-(b:Int)<0 then 0 else f.room-(b:Int):=by unfold nq;rw[h,c];simp only[Bool.false_eq_true,if_false];split <;> split <;> omega
theorem ji.jd {nd fd:TypeId} {lo:Nat->Prop} {w:World} {Q Q':Nat->Prop} {l:List gJ} {v:Value} (h:ji nd fd lo w Q l) (e:∀b,Q b->Q' b) (f:∀b,Q' b->Q b\/ah v=some b) (p:∀x∈l,x.id∉(ah v).toList/\x.no.kI∉(ah v).toList):ji nd fd lo w Q' l:=by refine⟨fun x D=>?_,h.ids,h.KQ⟩;obtain⟨g,⟨n,o,i,G,H⟩,j,k,m⟩:=h.all x D;have d:=p x D;exact⟨g,⟨n,o,i,G.sub<|fun b a _=>e b a,H.sub<|fun b a _=>e b a⟩,fun c=>(f _ c).elim j<|fun C=>d.1 (by simp[C]),fun c=>(f _ c).elim k<|fun C=>d.2 (by simp[C]),m⟩
theorem ag5:fW Zp 143 1=true:=Xj
theorem ada:aJ Zp 148 0=some 0:=Xj
theorem PG:aJ Zp 148 1=some 1:=Xj
theorem BG:aJ Zp 97 3=some 3:=Xj
theorem adC:iv Zp 143=true:=Xj
theorem WT:iv Zp 94=true:=Xj
theorem u94:Zp.underlying 94=some (.slice 143):=Xj
theorem YD (m:Up w Q) {E:Nat} {o:Value} {K:Value} (f:ey) (J:bK w E (ey.cells f o K) 97) (n0:¬Q E) (aa:ey.ok f) (h:Ow BL 143 (fun _=>True) w Q o f.nodes) (O:Ow qh 153 (fun _=>True) w Q K f.pend) (s:Ly) (U:ji 148 203 (fun _=>True) w Q f.nodes) :
  Calls Zp 92 #[.pointer (some ⟨E,0,none⟩),(str s)] w fun S v=>∃z:Option Nat,S = .returned (AE z)/\Md [] w v/\(dU f.nodes s).map (·.id)=z:=by
 have P:=U;have Y:=h.read.eJ;have M:=n0;have X:=m;refine nR (n:=30) [] m Tryz.func92 q q q fun L k T p=>ns<|an q<|aH<|nM q<|sn q<|sf q BG<|sl (u:=o) q WT J q<|sL q u94 h.eA<|mv q<|nt<|bf ?_;obtain⟨z,A⟩:∃r,dU f.nodes s=r:=⟨_,q⟩;have B:=A
 try simp only[List.nil_append]at A
 refine vm (fun(i:Nat)=>[(12,(iZ i)),(1,(str s)),(10,o),(11,(iZ f.nodes.length))]) (fun i v=>LQ Q w [] v fun I=>Ow BL 143 (fun _=>True) v I o f.nodes/\ji 148 203 (fun _=>True) v I f.nodes/\i<=f.nodes.length/\dU (f.nodes.drop i) s=z) (fun i=>f.nodes.length-i) 0 ?_ ?_ ?_
 ·exact Fz
 ·exact⟨Q,T,p,m,k,h,P,Xx,(by have g:=A;first|exact g|exact B|(simp only[List.nil_append]at g;exact g))⟩
 clear k m T p M h O J P;rintro i L c ⟨V,T,p,m,k,h,P,W,y⟩;refine ns<|su (fJ (a:=i) (b:=f.nodes.length) q q)<|nt<|aH ?_;refine cJ q (fun e=>?_)<|fun e=>?_
 ·(first|(have C:=dq e)|(have C:=dF<|ir e)|(have C:=ir e)|(have C:=e));refine aM<|aA<|aH<|bf<|ns<|su (bQ (i:=i) 1 q q u94 ag5 h.eA Xx) ?_;obtain⟨R,H⟩:=gF (l:=f.nodes) (i:=i) (by first|omega|(simp<;>omega));obtain⟨Z,N,x⟩:=h.get H;obtain⟨rfl,_⟩:=N;have x:At _ o (i*1) [(.pointer<|some ⟨R.id,0,none⟩)]:=x;refine su ((dS (kk:=i*1) 0 q q adC x q).to (b:=(.pointer<|some ⟨R.id,0,none⟩)) q)<|cV q<|aG ?_;refine aA<|nM q<|sn q<|sf q PG<|su ((aD q vT (P.get<|List.mem_of_getElem? H).1 q).to (b:=(.bool R.no.there)) q)<|mv q ?_;refine ck (t:=20) q (fun d=>?_)<|fun d=>?_
  ·(first|(have D:=dq d)|(have D:=dF<|ir d)|(have D:=ir d)|(have D:=d));refine sg d (aP q)<|sg d (bN q)<|sg d (aF q ada)<|sg d ((aD q mM (P.get<|List.mem_of_getElem? H).1 q).to (b:=(str R.no.nm)) q)<|sg d (aP q)<|sg d (EY (a:=R.no.nm) (b:=s) q q)<|su (bC q d q)<|nt ?_;refine cJ q (fun G=>?_)<|fun G=>?_
   ·(first|(have j:=dq G)|(have j:=dF<|ir G)|(have j:=ir G)|(have j:=G));refine nM q<|ar q<|bS<|aS<|aS<|bS<|aS ?_;exact gB (AE<|(some R.id)) q ⟨(some R.id),q,k,(by have F:=B.trans<|y.symm.trans<|YK H (by simp_all) (by simp_all);rw[F];rfl)⟩
   (first|(have j:=dF G)|(have j:=dq<|iq G)|(have j:=iq G)|(have j:=G));refine aM<|bG<|aA<|aI<|su (rA (a:=i) (b:=1) q q Xx)<|mv q<|nt ?_;refine sZ (i+1) Xx ⟨(cW q Xx),q,q,q,tV⟩ ⟨V,T,p,m,k,h,P,Xx,(by have g:=y;rw[NP H (by simp_all)]at g;exact g)⟩
  (first|(have D:=dF d)|(have D:=dq<|iq d)|(have D:=iq d)|(have D:=d));refine sk d<|sk d<|sk d<|sk d<|sk d<|sk d<|su (aU q d q)<|nt<|gV q q<|aM<|bG<|aA<|aI<|su (rA (a:=i) (b:=1) q q Xx) ?_;refine mv q<|nt ?_;refine sZ (i+1) Xx ⟨(cW q Xx),q,q,q,tV⟩ ⟨V,T,p,m,k,h,P,Xx,(by have g:=y;rw[NP H (by simp_all)]at g;exact g)⟩
 (first|(have C:=dF e)|(have C:=dq<|iq e)|(have C:=iq e)|(have C:=e));refine cM<|bB<|bB<|dJ<|aA<|ns<|ar q ?_;exact gB (AE<|(none:Option Nat)) q ⟨(none:Option Nat),q,k,(by have F:=B.trans<|y.symm.trans<|YJ Xx;rw[F];rfl)⟩
theorem afk:cO Zp 76=true:=Xj
theorem nC:aJ Zp 148 2=some 2:=Xj
theorem tu:iv Zp 146=true:=Xj
theorem vI (j:Up w Q) {M:Nat} {F:Value} {ad:Value} (f:ey) (ab:bK w M (ey.cells f F ad) 97) (n0:¬Q M) (ak:ey.ok f) (e:Ow BL 143 (fun _=>True) w Q F f.nodes) (ai:Ow qh 153 (fun _=>True) w Q ad f.pend) (aj:ji 148 203 (fun _=>True) w Q f.nodes) (am:(eV f.nodes).2<=1000000000000) :
  Calls Zp 73 #[.pointer (some ⟨M,0,none⟩)] w fun aa K=>∃N:Nat,∃O:Nat,aa = .returned (.tuple #[(iZ N),(iZ O)])/\Md [] w K/\N<9223372036854775808/\O<9223372036854775808/\eV f.nodes=(N,O):=by
 have h:=aj;have r:=e.read.eJ;have af:=n0;have p:=j;refine nR (n:=33) [] j Tryz.func73 q q q fun ae s T I=>ns ?_;have v:=XI f.nodes;refine cV q<|an q<|ns<|cV q<|cV q<|nt<|aH<|nM q<|sn q<|sf q BG<|sl (u:=F) q WT ab q<|sL q u94 e.eA ?_;refine mv q<|nt<|bf ?_;refine kV (fun(a:Nat) (z:Nat) (i:Nat)=>[(4,(iZ a)),(5,(iZ z)),(13,(iZ i)),(11,F),(12,(iZ f.nodes.length))]) (fun a z i K=>LQ Q w [] K fun Y=>Ow BL 143 (fun _=>True) K Y F f.nodes/\ji 148 203 (fun _=>True) K Y f.nodes/\i<=f.nodes.length/\a+(eV<|f.nodes.drop i).1=(eV f.nodes).1/\z+(eV<|f.nodes.drop i).2=(eV f.nodes).2) (fun a z i=>f.nodes.length-i) 0 0 0 ?_ ?_ ?_
 ·exact Fz
 ·exact⟨Q,T,I,j,s,e,h,Xx,Oj,Oj⟩
 clear s j T I af e ai ab h;rintro a z i ae x ⟨Z,T,I,j,s,e,h,c,D,E⟩;refine ns<|su (fJ (a:=i) (b:=f.nodes.length) q q)<|nt<|aH ?_;refine cJ q (fun m=>?_)<|fun m=>?_
 ·(first|(have A:=dq m)|(have A:=dF<|ir m)|(have A:=ir m)|(have A:=m));refine aM<|aA<|aH<|bf<|ns<|su (bQ (i:=i) 1 q q u94 ag5 e.eA Xx) ?_;obtain⟨J,H⟩:=gF (l:=f.nodes) (i:=i) (by first|omega|(simp<;>omega));obtain⟨t,W,L⟩:=e.get H;obtain⟨rfl,_⟩:=W;have L:At _ F (i*1) [(.pointer<|some ⟨J.id,0,none⟩)]:=L;refine su ((dS (kk:=i*1) 0 q q adC L q).to (b:=(.pointer<|some ⟨J.id,0,none⟩)) q)<|cV q<|aG ?_;refine aA<|nM q<|sn q<|sf q PG<|su ((aD q vT (h.get<|List.mem_of_getElem? H).1 q).to (b:=(.bool J.no.there)) q)<|nt ?_;refine cJ q (fun G=>?_)<|fun G=>?_
  ·(first|(have C:=dq G)|(have C:=dF<|ir G)|(have C:=ir G)|(have C:=G));have g:=FJ H (by simp_all);have ag:=congrArg Prod.fst g;have ah:=congrArg Prod.snd g;simp only at ag ah;refine nM q<|su (rA (a:=a) (b:=1) q q Xx)<|an q<|aI<|m2 q q<|sn q<|sf q nC ?_;obtain⟨al,k,R,S,X,P⟩:=h.bE<|List.mem_of_getElem? H;refine su ((aD q tu (h.get<|List.mem_of_getElem? H).1 q).to (b:=(.pointer<|some ⟨J.no.kI,0,none⟩)) q)<|Rz afk q (xP j J.fl R S X P) ?_;rintro aa y ⟨U,rfl,V,d,o⟩;obtain⟨e,h,j,s⟩:=k4 V e h j s;refine su (rA (a:=z) (b:=U) q q Xx)<|cV q<|aG ?_;refine bG<|aA<|aI<|su (rA (a:=i) (b:=1) q q Xx)<|mv q<|nt ?_;refine iW (a+1) (z+U) (i+1) Xx ⟨(cW q Xx),(cW q Xx),(cW q Xx),q,q,tV⟩ ⟨Z,T,I,j,s,e,h,Xx,(by have B:=FJ H (by simp_all);rw[B]at D;simp only at D;omega),(by have B:=FJ H (by simp_all);rw[B]at E;simp only at E;omega)⟩
  (first|(have C:=dF G)|(have C:=dq<|iq G)|(have C:=iq G)|(have C:=G));refine aM<|bG<|aA<|aI<|su (rA (a:=i) (b:=1) q q Xx)<|mv q<|nt ?_;refine iW a z (i+1) Xx ⟨(cW q Xx),(cW q Xx),(cW q Xx),q,q,tV⟩ ⟨Z,T,I,j,s,e,h,Xx,(by have B:=XJ H (by simp_all);rw[B]at D;exact D),(by have B:=XJ H (by simp_all);rw[B]at E;exact E)⟩
 (first|(have A:=dF m)|(have A:=dq<|iq m)|(have A:=iq m)|(have A:=m));refine cM<|bB<|bB<|dJ<|aA<|ns<|m2 q q<|cV q<|ar q ?_;exact zK [(iZ a),(iZ z)] q ⟨a,z,q,s,Yy,Yy,(by rw[aez Xx]at D E;exact Prod.ext D.symm E.symm)⟩
theorem ajm:cO Zp 126=true:=Xj
theorem alk:cO Zp 79=true:=Xj
theorem alm:cO Zp 92=true:=Xj
theorem BF:aJ Zp 97 2=some 2:=Xj
theorem al9:Zp.underlying 143=some (.pointer 148):=Xj
theorem ab7 (m:Up w Q) {I:Nat} {M:Value} {N:Value} (f:ey) (L:bK w I (ey.cells f M N) 97) (n0:¬Q I) (ae:ey.ok f) (Y:Ow BL 143 (fun _=>True) w Q M f.nodes) (Z:Ow qh 153 (fun _=>True) w Q N f.pend) {v:Value} {l:List (List UInt8)} (h1:Ls AI w Q v l) (aa:∀s∈l,s.length<=1000000) :
  Calls Zp 79 #[.pointer (some ⟨I,0,none⟩),v] w fun K A=>∃t:Nat,K = .returned (iZ t)/\Md [] w A/\t<9223372036854775808/\oz f.off l=t:=by
 have c:=h1.eJ;have P:=n0;have ad:=m;refine nR (n:=21) [] m Tryz.func79 q q q fun O j R z=>ns<|an q<|aH<|nM q<|sn q<|sf q BF<|sl (u:=(.bool f.off)) q vT L q<|nt ?_;refine cJ q (fun e=>?_)<|fun e=>?_
 ·(first|(have o:=dq e)|(have o:=dF<|ir e)|(have o:=ir e)|(have o:=e));refine ns<|ar q<|aS ?_;exact gB (iN 18) q ⟨18,q,j,Yy,(acy (by simp_all))⟩
 (first|(have o:=dF e)|(have o:=dq<|iq e)|(have o:=iq e)|(have o:=e));refine aM<|aA<|aH<|nM q<|sL q u88 h1.eA<|mv q<|nt<|bf ?_;obtain⟨t,H⟩:∃r,l.all gG=r:=⟨_,q⟩;have B:=H
 try simp only[List.nil_append]at H
 refine vm (fun(i:Nat)=>[(13,(iZ i)),(11,v),(12,(iZ l.length))]) (fun i A=>LQ Q w [] A fun S=>Ls AI A S v l/\i<=l.length/\(l.drop i).all gG=t) (fun i=>l.length-i) 0 ?_ ?_ ?_
 ·exact Fz
 ·exact⟨Q,R,z,m,j,h1,Xx,(by have p:=H;first|exact p|exact B|(simp only[List.nil_append]at p;exact p))⟩
 clear j m R z P Y Z L h1;rintro i O af ⟨X,R,z,m,j,h1,V,E⟩;refine ns<|su (fJ (a:=i) (b:=l.length) q q)<|nt<|aH ?_;refine cJ q (fun h=>?_)<|fun h=>?_
 ·(first|(have C:=dq h)|(have C:=dF<|ir h)|(have C:=ir h)|(have C:=h));refine aM<|aA<|aH<|bf<|ns<|su (bQ (i:=i) 1 q q u88 el9 h1.eA Xx) ?_;obtain⟨F,y⟩:=gF (l:=l) (i:=i) (by first|omega|(simp<;>omega));obtain⟨d,T,x⟩:=h1.get y;obtain⟨rfl,_⟩:=T;have x:At _ v (i*1) [(str F)]:=x;refine su ((dS (kk:=i*1) 0 q q mM x q).to (b:=(str F)) q)<|cV q<|aG ?_;refine aA<|ns ?_;have g:=aa _<|List.mem_of_getElem? y;refine mv q<|Rz ajm q (S7 m F Ym) ?_;rintro K k ⟨W,rfl,U,ab⟩;obtain⟨h1,m,j⟩:=k3 U h1 m j;refine su (jo q)<|nt ?_;refine cJ q (fun G=>?_)<|fun G=>?_
  ·(first|(have D:=dq G)|(have D:=dF<|ir G)|(have D:=ir G)|(have D:=G));refine ns<|ar q<|bS<|aS<|aS<|bS<|aS ?_;exact gB (iN 1) q ⟨1,q,j,Yy,(by have J:=B.trans<|E.symm.trans<|aeP y (by simp_all);exact W7 (by simp_all) J)⟩
  (first|(have D:=dF G)|(have D:=dq<|iq G)|(have D:=iq G)|(have D:=G));refine aM<|bG<|aA<|aI<|su (rA (a:=i) (b:=1) q q Xx)<|mv q<|nt ?_;refine sZ (i+1) Xx ⟨(cW q Xx),q,q,tV⟩ ⟨X,R,z,m,j,h1,Xx,(by have p:=E;rw[aaT y (by simp_all)]at p;exact p)⟩
 (first|(have C:=dF h)|(have C:=dq<|iq h)|(have C:=iq h)|(have C:=h));refine cM<|bB<|bB<|dJ<|aA<|ns<|ar q ?_;exact gB (iN 0) q ⟨0,q,j,Yy,(by have J:=B.trans<|E.symm.trans<|aaS Xx;exact W7 (by simp_all) J)⟩
theorem sM (h:Up w Q) {x:Nat} {J:Value} {K:Value} (f:ey) (p:bK w x (ey.cells f J K) 97) (n0:¬Q x) (F:ey.ok f) (j:Ow BL 143 (fun _=>True) w Q J f.nodes) (l:Ow qh 153 (fun _=>True) w Q K f.pend) (s:Ly) (M:ji 148 203 (fun _=>True) w Q f.nodes) (N:s.length<=1000000) :
  Calls Zp 70 #[.pointer (some ⟨x,0,none⟩),(str s)] w fun y O=>∃I:Option Nat,∃z:Nat,y = .returned (.tuple #[(AE I),(iZ z)])/\Md [] w O/\z<9223372036854775808/\uY f.off f.nodes s=(I,z):=by
 have t:=M;have Y:=j.read.eJ;have A:=n0;have g:=Md.refl [] w;have X:=h;refine enter (n:=21) Tryz.func70 q q q fun S=>ns<|cV q<|an q<|aH<|ns<|m2 q q<|bh [[(str s)]] u88 ah4 Xz Xz q q ⟨q,tV⟩ ⟨q,tV⟩ q Xz ?_;intro U Z L V r G;have P:=h _ L;obtain⟨j,l,p,t,h,g⟩:=k6 r j l p t h g;have G:=Ls.cL (m:=1) (R:=Q) (T:=AI) (xs:=[s]) G ⟨_,_,q,⟨q,tV⟩,q⟩ q Xz P;refine Rz alk q (ab7 h f p A F (j.cT<|fun _ _=>trivial) (l.cT<|fun _ _=>trivial) G (by(intro aa E;simp at E;subst E;exact N))) ?_;rintro y c ⟨H,rfl,r,W,v⟩;obtain⟨j,l,p,t,h,g⟩:=k6 r j l p t h g;refine an q<|nM q<|su (fU (a:=H) (b:=0) q q)<|nt ?_;refine cJ q (fun D=>?_)<|fun D=>?_
 ·(first|(have i:=dq D)|(have i:=dF<|ir D)|(have i:=ir D)|(have i:=D));refine nM q<|cV q<|ar q<|aS ?_;exact kM (vs:=[(AE<|(none:Option Nat)),(iZ H)]) trivial q Fz q ⟨(none:Option Nat),H,q,g,Yy,(ahH v Xx)⟩
 (first|(have i:=dF D)|(have i:=dq<|iq D)|(have i:=iq D)|(have i:=D));refine aM<|aA<|aH<|ns<|m2 q q<|Rz alm q (YD h f p A F (j.cT<|fun _ _=>trivial) (l.cT<|fun _ _=>trivial) s (by exact t.cT<|fun _ _=>trivial)) ?_;rintro y d ⟨u,rfl,r,B⟩;have g:=g.k r;refine an q<|nM q<|su (afJ (o:=u) q al9)<|nt ?_;refine cJ q (fun e=>?_)<|fun e=>?_
 ·(first|(have C:=dq e)|(have C:=dF<|ir e)|(have C:=ir e)|(have C:=e));refine nM q<|cV q<|ar q<|aS ?_;exact kM (vs:=[(AE u),(iN 0)]) trivial q Fz q ⟨u,0,q,g,Yy,(ahG v Xx B (by simp_all))⟩
 (first|(have C:=dF e)|(have C:=dq<|iq e)|(have C:=iq e)|(have C:=e));refine aM<|aA<|ns<|cV q<|ar q ?_;exact kM (vs:=[(AE<|(none:Option Nat)),(iN 16)]) trivial q Fz q ⟨(none:Option Nat),16,q,g,Yy,(afo v Xx B (by simp_all))⟩
theorem BB:aJ Zp 97 1=some 1:=Xj
theorem ud (m:Up w Q) {d:Nat} {i:Value} {j:Value} (f:ey) (c:bK w d (ey.cells f i j) 97) (n0:¬Q d) (v:ey.ok f) (e:Ow BL 143 (fun _=>True) w Q i f.nodes) (g:Ow qh 153 (fun _=>True) w Q j f.pend) :
  Calls Zp 74 #[.pointer (some ⟨d,0,none⟩)] w fun N z=>∃J:Nat,∃x:ey,∃L:Value,∃M:Value,∃A:Nat->Prop,N = .returned (iZ J)/\Md (d :: (ah i).toList ++ ((ah j).toList)) w z/\iQ w z Q A/\J<9223372036854775808/\bK z d (ey.cells x L M) 97/\¬A d/\ey.ok x/\Ow BL 143 (aX (d :: (ah i).toList ++ ((ah j).toList)) w) z A L x.nodes/\Ow qh 153 (aX (d :: (ah i).toList ++ ((ah j).toList)) w) z A M x.pend/\gw f=(J,x):=by
 have D:=n0;have K:aX (d :: (ah i).toList ++ ((ah j).toList)) w d:=.inl Oj;have e:=e.cT (lo':=aX (d :: (ah i).toList ++ ((ah j).toList)) w)<|fun b E=>.inl (by simp[E]);have g:=g.cT (lo':=aX (d :: (ah i).toList ++ ((ah j).toList)) w)<|fun b E=>.inl (by simp[E]);have s:=Md.refl (d :: (ah i).toList ++ ((ah j).toList)) w;have V:=m;have I:∀b,Q b->Q b:=fun _ h=>h;have F:∀b,Q b->b<w.heap.size->Q b:=fun _ h _=>h;refine enter (n:=25) Tryz.func74 q q q fun O=>ns<|an q<|aH<|bf<|nM q<|sn q<|sf q BB<|sl (u:=(iZ (f.iV:Int))) q gQ c q ?_;have W:(-9223372036854775808<=f.iV/\f.iV<9223372036854775808):=v.2;refine su (mB (a:=f.iV) (b:=0) q q)<|an q ?_;refine cJ q (fun k=>?_)<|fun k=>?_
 ·(first|(have r:=dq k)|(have r:=dF<|ir k)|(have r:=ir k)|(have r:=k));refine nM q<|sn q<|sf q BF<|aQ q q vT q c (lq q) ?_;have p:=c;intro S l c;have t:∀b∈[d],¬Q b:=hI D;have e:=e.md l (aB p e) t;have g:=g.md l (aB p g) t;have m:=m.md l;have s:=s.step l<|hI K;obtain⟨B,G⟩:∃y,y=({f with off:=true}:ey):=⟨_,q⟩;have c:bK _ _ (ey.cells ({f with off:=true}) i j) _:=c;rw[<- G]at c;have P:ey.ok B:=(by rw[G];exact⟨v.1,v.2⟩);rw[show f.nodes=B.nodes by rw[G]]at e;rw[show f.pend=B.pend by rw[G]]at g;refine nt<|ns<|ar q<|bS<|aS ?_;exact gB (iN 18) q ⟨18,B,_,_,Q,q,s,⟨F,I,m⟩,Yy,c,D,P,e,g,(by rw[ahs Xx,G])⟩
 (first|(have r:=dF k)|(have r:=dq<|iq k)|(have r:=iq k)|(have r:=k));refine nM q<|sn q<|sf q BB<|sl (u:=(iZ (f.iV:Int))) q gQ c q<|su (qb (a:=f.iV) (b:=0) q q)<|an q ?_;refine cJ q (fun C=>?_)<|fun C=>?_
 ·(first|(have o:=dq C)|(have o:=dF<|ir C)|(have o:=ir C)|(have o:=C));refine aI<|mv q<|sn q<|sf q BB<|sl (u:=(iZ (f.iV:Int))) q gQ c q<|su (iO (a:=f.iV) (b:=1) q q Xx)<|sn q<|sf q BB<|aQ q q gQ q c (lq q) ?_;have p:=c;intro U l c;have t:∀b∈[d],¬Q b:=hI D;have e:=e.md l (aB p e) t;have g:=g.md l (aB p g) t;have m:=m.md l;have s:=s.step l<|hI K;obtain⟨T,H⟩:∃y,y=({f with iV:=f.iV-1}:ey):=⟨_,q⟩;have c:bK _ _ (ey.cells ({f with iV:=f.iV-1}) i j) _:=c;rw[<- H]at c;have R:ey.ok T:=(by rw[H];exact⟨v.1,(by first|omega|assumption|(simp<;>omega)|simp_all)⟩);rw[show f.nodes=T.nodes by rw[H]]at e;rw[show f.pend=T.pend by rw[H]]at g;refine aG<|bG<|aA<|ns<|ar q ?_;exact gB (iN 0) q ⟨0,T,_,_,Q,q,s,⟨F,I,m⟩,Yy,c,D,R,e,g,(by rw[aht Xx Xx,H])⟩
 (first|(have o:=dF C)|(have o:=dq<|iq C)|(have o:=iq C)|(have o:=C));refine aM<|bG<|aA<|ns<|ar q ?_;exact gB (iN 0) q ⟨0,f,_,_,Q,q,s,⟨F,I,m⟩,Yy,c,D,v,e,g,(abg Xx Xx)⟩
theorem ab9 (i:Up w Q) {a:Nat} {c:Value} {d:Value} (f:ey) (h:bK w a (ey.cells f c d) 97) (n0:¬Q a) (m:ey.ok f) (o:Ow BL 143 (fun _=>True) w Q c f.nodes) (p:Ow qh 153 (fun _=>True) w Q d f.pend) :
  Calls Zp 51 #[.pointer (some ⟨a,0,none⟩)] w fun g j=>∃b:Bool,g = .returned (.bool b)/\Md [] w j/\f.off=b:=by
 have k:=n0;have e:=Md.refl [] w;have C:=i;refine enter (n:=7) Tryz.func51 q q q fun l=>ns<|an q<|nM q<|sn q<|sf q BF<|sl (u:=(.bool f.off)) q vT h q<|ar q ?_;exact gB (.bool f.off) q ⟨f.off,q,e,q⟩
theorem abN:cO Zp 70=true:=Xj
theorem alg:cO Zp 71=true:=Xj
theorem ahE:cO Zp 73=true:=Xj
theorem WQ:aJ Zp 97 0=some 0:=Xj
theorem YE (m:Up w Q) {h:Nat} {o:Value} {p:Value} (f:ey) (d:bK w h (ey.cells f o p) 97) (n0:¬Q h) (j:ey.ok f) (k:Ow BL 143 (fun _=>True) w Q o f.nodes) (v:Ow qh 153 (fun _=>True) w Q p f.pend) (x:ji 148 203 (fun _=>True) w Q f.nodes) (I:(eV f.nodes).2<=1000000000000) (p2:0<=f.room) :
  Calls Zp 44 #[.pointer (some ⟨h,0,none⟩)] w fun l y=>∃g:Int,l = .returned (iZ (g:Int))/\Md [] w y/\(-9223372036854775808<=g/\g<9223372036854775808)/\nq f=g:=by
 have s:=x;have F:=k.read.eJ;have r:=n0;have e:=Md.refl [] w;have E:=m;refine enter (n:=21) Tryz.func44 q q q fun z=>ns<|an q<|aH<|nM q<|sn q<|sf q BF<|sl (u:=(.bool f.off)) q vT d q<|nt ?_;refine cJ q (fun D=>?_)<|fun D=>?_
 ·(first|(have C:=dq D)|(have C:=dF<|ir D)|(have C:=ir D)|(have C:=D));refine ns<|ar q<|aS ?_;exact gB (iZ (((0:Nat):Int):Int)) q ⟨((0:Nat):Int),q,e,Yy,(YT (by simp_all))⟩
 (first|(have C:=dF D)|(have C:=dq<|iq D)|(have C:=iq D)|(have C:=D));refine aM<|aA<|nM q<|Rz ahE q (vI m f d r j (k.cT<|fun _ _=>trivial) (v.cT<|fun _ _=>trivial) (by exact s.cT<|fun _ _=>trivial) Xx) ?_;rintro l R ⟨B,c,rfl,G,H,A,i⟩;obtain⟨d,e⟩:=k2 G d e;refine mv q<|se q q<|se q q<|cV q<|an q<|ns ?_;have t:=congrArg Prod.snd i;simp only at t;refine mv q<|sn q<|sf q WQ<|sl (u:=(iZ (f.room:Int))) q gQ d q ?_;have P:(-9223372036854775808<=f.room/\f.room<9223372036854775808):=j.1;refine mv q<|su (iO (a:=f.room) (b:=((c:Nat):Int)) q q Xx)<|su (adT (a:=f.room-((c:Nat):Int)) (b:=0) q q)<|ar q ?_;exact gB (iZ ((if f.room-((c:Nat):Int)<0 then 0 else f.room-((c:Nat):Int)):Int)) q ⟨(if f.room-((c:Nat):Int)<0 then 0 else f.room-((c:Nat):Int)),q,e,Yy,(abQ (by simp_all) i)⟩
theorem ab4 (j:Up w Q) {p:Nat} {F:Value} {I:Value} (f:ey) (S:bK w p (ey.cells f F I) 97) (n0:¬Q p) (N:ey.ok f) (A:Ow BL 143 (fun _=>True) w Q F f.nodes) (O:Ow qh 153 (fun _=>True) w Q I f.pend) (s:Ly) (U:ji 148 203 (fun _=>True) w Q f.nodes) (ae:s.length<=1000000) (p2:∀x∈f.nodes,x.fl.b.length<=1000000) :
  Calls Zp 22 #[.pointer (some ⟨p,0,none⟩),(str s)] w fun r J=>∃E:Value,∃B:List UInt8,∃t:Nat,r = .returned (.tuple #[E,(iZ t)])/\Md [] w J/\Ls dh J Q E B/\t<9223372036854775808/\KB f.off f.nodes s=(B,t):=by
 have l:=U;have g:=A.read.eJ;have P:=n0;have ab:=j;refine nR (n:=22) [] j Tryz.func22 q q q fun X h d _=>ns<|cV q<|an q<|ns<|m2 q q<|Rz abN q (sM j f S P N (A.cT<|fun _ _=>trivial) (O.cT<|fun _ _=>trivial) s (by exact l.cT<|fun _ _=>trivial) Xx) ?_;rintro r ad ⟨Y,m,rfl,o,W,y⟩;obtain⟨l,j,h⟩:=k3 o l j h;refine mv q<|se q q<|se q q<|cV q<|an q<|aH<|nM q<|su (fU (a:=m) (b:=0) q q)<|nt ?_;refine cJ q (fun C=>?_)<|fun C=>?_
 ·(first|(have e:=dq C)|(have e:=dF<|ir C)|(have e:=ir C)|(have e:=C));refine nM q<|cV q<|ar q<|aS ?_;exact zK [SN,(iZ m)] q ⟨_,[],m,q,h,(Ls.nil _ _ _),Yy,(aeN y Xx)⟩
 (first|(have e:=dF C)|(have e:=dq<|iq C)|(have e:=iq C)|(have e:=C));refine aM<|aA<|ns ?_;obtain⟨R,D,L,H⟩:=wI y Xx;subst L;refine mv q<|sn q<|sf q nC ?_;obtain⟨Z,aa,z,u,G,v⟩:=l.bE D;refine su ((aD q tu (l.get D).1 q).to (b:=(.pointer<|some ⟨R.no.kI,0,none⟩)) q) ?_;have i:=p2 _ D;refine Rz alg q (aef j R.fl z u G v Ym) ?_;rintro r k ⟨T,M,rfl,o,K,V⟩;have h:=h.k o;refine cV q<|cV q<|aG ?_;refine aA<|lO ?_;exact zK [T,(iN 0)] q ⟨_,M,0,q,h,(K.sub<|fun b c _=>d b c),Yy,(UR H V)⟩
theorem ab6 (i:Up w Q) {m:Nat} {z:Value} {A:Value} (f:ey) (J:bK w m (ey.cells f z A) 97) (n0:¬Q m) (F:ey.ok f) (y:Ow BL 143 (fun _=>True) w Q z f.nodes) (I:Ow qh 153 (fun _=>True) w Q A f.pend) (s:Ly) (K:ji 148 203 (fun _=>True) w Q f.nodes) (Y:s.length<=1000000) :
  Calls Zp 32 #[.pointer (some ⟨m,0,none⟩),(str s)] w fun o L=>∃p:Nat,∃r:Nat,o = .returned (.tuple #[(iZ p),(iZ r)])/\Md [] w L/\p<9223372036854775808/\r<9223372036854775808/\AB f.off f.nodes s=(p,r):=by
 have h:=K;have c:=y.read.eJ;have P:=n0;have g:=Md.refl [] w;have U:=i;refine enter (n:=22) Tryz.func32 q q q fun M=>ns<|cV q<|an q<|ns<|m2 q q<|Rz abN q (sM i f J P F (y.cT<|fun _ _=>trivial) (I.cT<|fun _ _=>trivial) s (by exact h.cT<|fun _ _=>trivial) Xx) ?_;rintro o d ⟨W,j,rfl,l,N,v⟩;obtain⟨h,i,g⟩:=k3 l h i g;refine mv q<|se q q<|se q q<|cV q<|an q<|aH<|nM q<|su (fU (a:=j) (b:=0) q q)<|nt ?_;refine cJ q (fun C=>?_)<|fun C=>?_
 ·(first|(have e:=dq C)|(have e:=dF<|ir C)|(have e:=ir C)|(have e:=C));refine nM q<|cV q<|ar q<|aS ?_;exact zK [(iN 0),(iZ j)] q ⟨0,j,q,g,Yy,Yy,(VZ v Xx)⟩
 (first|(have e:=dF C)|(have e:=dq<|iq C)|(have e:=iq C)|(have e:=C));refine aM<|aA<|ns ?_;obtain⟨R,t,E,B⟩:=wI v Xx;subst E;refine mv q<|sn q<|sf q nC ?_;obtain⟨O,S,x,D,H,u⟩:=h.bE t;refine su ((aD q tu (h.get t).1 q).to (b:=(.pointer<|some ⟨R.no.kI,0,none⟩)) q)<|Rz afk q (xP i R.fl x D H u) ?_;rintro o X ⟨G,rfl,l,V,T⟩;have g:=g.k l;refine cV q<|cV q<|aG ?_;refine aA<|lO ?_;exact zK [(iZ G),(iN 0)] q ⟨G,0,q,g,Yy,Yy,(AU B T)⟩
def mL (l:List gJ):List Nat:=l.map (·.id) ++ l.map (·.no.kI)
theorem ri {l:List gJ} {b:Nat}:b∈mL l↔∃x∈l,x.id=b\/x.no.kI=b:=by
  simp only[mL,List.mem_append,List.mem_map];constructor
  · rintro(⟨x,h,e⟩|⟨x,h,e⟩)
    · exact⟨x,h,.inl e⟩
    exact⟨x,h,.inr e⟩
  rintro⟨x,h,e|e⟩
  · exact .inl ⟨x,h,e⟩
  exact .inr ⟨x,h,e⟩
theorem oF {w:World} {b a:Nat} {cs e:List Value} {t d:TypeId} (h:bK w b cs t) (f:bK w a e d) (c:Nat.beq t d=false):b≠a:=by rintro rfl;rw[RL h f]at c;simp at c
theorem uG {α:Type} {f:α->Nat}:∀{l:List α},(l.map f).Nodup->∀{x y:α},x∈l->y∈l->f x=f y->x=y
  | [],_,_,_,h,_,_=>by cases h
  | a :: l,hn,x,y,hx,hy,e=>by
    rw[List.map_cons,List.nodup_cons]at hn;rcases List.mem_cons.1 hx with rfl|hx'
    · rcases List.mem_cons.1 hy with rfl|hy'
      · rfl
      · exact absurd (List.mem_map.2 ⟨y,hy',e.symm⟩) hn.1
    · rcases List.mem_cons.1 hy with rfl|hy'
      · exact absurd (List.mem_map.2 ⟨x,hx',e⟩) hn.1
      · exact uG hn.2 hx' hy' e
def gY (l:List gJ) (i:Nat) (g:gJ->gJ):List gJ:=l.map fun z=>if z.id=i then g z else z
theorem p6 {l:List gJ} {i:Nat} {g:gJ->gJ} (a:∀z,(g z).id=z.id):(gY l i g).map (·.id)=l.map (·.id):=by
  unfold gY;rw[List.map_map];refine List.map_congr_left fun z _=>?_;show(if z.id=i then g z else z).id=z.id;split
  · exact a z
  rfl
theorem OP {l:List gJ} {i:Nat} {g:gJ->gJ} {y:gJ} (h:y∈gY l i g):(∃x∈l,x.id=i/\y=g x)\/(y∈l/\y.id≠i):=by
  obtain⟨z,A,e⟩:=List.mem_map.1 h;by_cases hi:z.id=i
  · rw[if_pos hi]at e;exact .inl ⟨z,A,hi,e.symm⟩
  rw[if_neg hi]at e;subst e;exact .inr ⟨A,hi⟩
theorem TM {e:TypeId} {lo:Nat->Prop} {w:World} {Q:Nat->Prop} {v:Value} {l a:List gJ} (h:Ow BL e lo w Q v l) (hi:a.map (·.id)=l.map (·.id)):Ow BL e lo w Q v a:=by
  obtain⟨⟨b,c,C⟩,D⟩:=h;have d:a.length=l.length:=(by simpa using congrArg List.length hi);refine⟨⟨b,by rw[d];exact c,?_⟩,D⟩;obtain⟨rfl,_⟩:=qV C;have e:l.map (fun x:gJ=>Value.pointer<|some ⟨x.id,0,none⟩)=a.map (fun x:gJ=>Value.pointer<|some ⟨x.id,0,none⟩):=by have:=congrArg (List.map fun i:Nat=>Value.pointer<|some ⟨i,0,none⟩) hi;simpa [List.map_map,Function.comp_def]using this.symm
  rw[e];exact uc fun _ _=>trivial
section
variable {nd fd:TypeId} {lo lo' lo1:Nat->Prop} {w w':World} {Q Q' Q1:Nat->Prop} {l:List gJ} {x:gJ} {S:List Nat} {α:Type} {T:Dt α}
theorem ji.loB (h:ji nd fd lo w Q l):∀b∈mL l,lo b:=by
  intro b B;obtain⟨x,A,rfl|rfl⟩:=ri.1 B
  · exact(h.all x A).2.2.2.2.1
  exact(h.all x A).2.2.2.2.2
theorem ji.nQB (h:ji nd fd lo w Q l):∀b∈mL l,¬Q b:=by
  intro b B;obtain⟨x,A,rfl|rfl⟩:=ri.1 B
  · exact(h.all x A).2.2.1
  exact(h.all x A).2.2.2.1
theorem ji.ltB (h:ji nd fd lo w Q l):∀b∈mL l,b<w.heap.size:=by
  intro b B;obtain⟨x,A,rfl|rfl⟩:=ri.1 B
  · exact(h.all x A).1.lt
  obtain⟨C,D,g,_⟩:=(h.all x A).2.1;exact g.lt
theorem ji.reB (h:ji nd fd lo w Q l) (t:∀b∈mL l,lo' b):ji nd fd lo' w Q l :=
  ⟨fun x a=>by obtain⟨c,d,e,f,g,i⟩:=h.all x a;exact⟨c,d,e,f,t _<|ri.2 ⟨x,a,.inl q⟩,t _<|ri.2 ⟨x,a,.inr q⟩⟩,h.ids,h.KQ⟩
theorem ji.apB (h:ji nd fd lo w Q l) (a:∀b∈mL l,b∉S):∀x∈l,x.id∉S/\x.no.kI∉S:=fun x c=>⟨a _<|ri.2 ⟨x,c,.inl q⟩,a _<|ri.2 ⟨x,c,.inr q⟩⟩
theorem ji.nil (nd fd:TypeId) (lo:Nat->Prop) (w:World) (Q:Nat->Prop):ji nd fd lo w Q []:=⟨fun _ a=>absurd a List.not_mem_nil,List.nodup_nil,List.nodup_nil⟩
theorem ji.inj (h:ji nd fd lo w Q l) {y:gJ} (a:x∈l) (b:y∈l) (e:x.id=y.id):x=y:=uG h.ids a b e
theorem ji.fne (h:ji nd fd lo w Q l) (a:Nat.beq nd fd=false) {y:gJ} (b:x∈l) (c:y∈l):x.id≠y.no.kI:=by obtain⟨d,e,g,_⟩:=(h.all y c).2.1;exact oF (h.all x b).1 g a
theorem ji.upd (h:ji nd fd lo w Q l) (i:x∈l) {g:gJ->gJ} (hid:(g x).id=x.id) (k:XP nd fd lo w' Q (g x)) (hold:∀z∈l,z.id≠x.id->XP nd fd lo w' Q z) (hf:(g x).no.kI=x.no.kI\/(g x).no.kI∉l.map (·.no.kI)):ji nd fd lo w' Q (gY l x.id g):=by
  have C:∀z∈l,z.id=x.id->z=x:=fun z c b=>h.inj c i b;refine⟨fun z c=>?_,?_,?_⟩
  · rcases OP c with⟨y,K,b,rfl⟩|⟨I,H⟩
    · rw[C y K b];exact k
    exact hold z I H
  · have:(gY l x.id g).map (·.id)=l.map (·.id):=by
      unfold gY;rw[List.map_map];refine List.map_congr_left fun z c=>?_;show(if z.id=x.id then g z else z).id=z.id;split
      · rename_i b;rw[C z c b];exact hid
      · rfl
    rw[this];exact h.ids
  rcases hf with hf|hf
  · have:(gY l x.id g).map (·.no.kI)=l.map (·.no.kI):=by
      unfold gY;rw[List.map_map];refine List.map_congr_left fun z c=>?_;show(if z.id=x.id then g z else z).no.kI=z.no.kI;split
      · rename_i b;rw[C z c b];exact hf
      · rfl
    rw[this];exact h.KQ
  have f:=h.KQ;have e:=h.ids;clear C k hold h;unfold gY
  induction l with
  | nil=>exact List.nodup_nil
  | cons a l ih =>
    rw[List.map_cons,List.map_cons,List.nodup_cons];rw[List.map_cons,List.nodup_cons]at f e;rw[List.map_cons,List.mem_cons,not_or]at hf;by_cases ha:a.id=x.id
    · rw[if_pos ha]
      have D:l.map (fun z=>if z.id=x.id then g z else z)=l:=(by have:∀z∈l,(if z.id=x.id then g z else z)=z:=fun z c=>if_neg fun b=>e.1<|List.mem_map.2 ⟨z,c,b.trans ha.symm⟩;exact(List.map_congr_left this).trans<|List.map_id' l);rw[D];have G:a=x:=by
        rcases List.mem_cons.1 i with rfl|d
        · rfl
        · exact absurd (List.mem_map.2 ⟨x,d,ha.symm⟩) e.1
      subst G;exact⟨hf.2,f.2⟩
    · rw[if_neg ha]
      have d:x∈l:=by
        rcases List.mem_cons.1 i with rfl|d
        · exact absurd q ha
        · exact d
      refine⟨fun j=>?_,ih d hf.2 f.2 e.2⟩;rw[List.map_map]at j;obtain⟨z,c,b⟩:=List.mem_map.1 j;simp only[Function.comp_apply]at b;split at b
      · rename_i hzx
        have:z=x:=uG e.2 c d hzx;subst this;exact hf.1 b
      · exact f.1<|List.mem_map.2 ⟨z,c,b⟩
theorem ji.olds (h:ji nd fd lo w Q l) (a:x∈l) (d:Nat.beq nd fd=false) (m:Md [x.id] w w'):∀z∈l,z.id≠x.id->XP nd fd lo w' Q z:=fun z c hi =>
  (h.all z c).md m ⟨by simpa using hi,by simpa using (h.fne d a c).symm⟩ (by intro b hb;rw[List.mem_singleton]at hb;subst hb;exact(h.all x a).2.2.1)
theorem ji.aky (h:ji nd fd lo w Q l) (a:x∈l) (f:Nat.beq nd fd=false) (m:Md [x.no.kI] w w') {fl:mD} {d e:Value} (hb:bK w' x.no.kI (fl.cells d e) fd) (o:Ls dh w' Q d fl.b) (h1:Ls dh w' Q e fl.safe):ji nd fd lo w' Q (gY l x.id fun z=>{z with fl:=fl}):=by
  obtain⟨D,⟨t,u,p,r,s⟩,i,C,j,G⟩:=h.all x a;have k:∀b∈[x.no.kI],¬Q b:=(by intro b hb;rw[List.mem_singleton]at hb;subst hb;exact C);refine h.upd (g:=fun z=>{z with fl:=fl}) a q ⟨?_,⟨d,e,hb,o,h1⟩,i,C,j,G⟩ (fun z c H=>?_)<|.inl q
  · exact D.md m (by simpa using h.fne f a a)
  refine(h.all z c).md m ⟨by simpa using h.fne f c a,?_⟩ k;rw[List.mem_singleton];intro n;exact H<|congrArg (·.id)<|uG h.KQ c a n
theorem ji.XF (h:ji nd fd lo w Q l) (a:x∈l) (n:Nat.beq nd fd=false) (m:Md [x.id] w w') {fl:mD} {c d:Value} {j:Nat} (hb:bK w' x.id ({x.no with kI:=j}:Rq).cells nd) (i:bK w' j (fl.cells c d) fd) (f:Ls dh w' Q c fl.b) (h1:Ls dh w' Q d fl.safe) (o:¬Q j) (hl:lo j) (k:j∉mL l):ji nd fd lo w' Q (gY l x.id fun z=>{z with no:={z.no with kI:=j},fl:=fl}):=by obtain⟨p,_,e,r,C,G⟩:=h.all x a;exact h.upd (g:=fun z=>{z with no:={z.no with kI:=j},fl:=fl}) a q ⟨hb,⟨c,d,i,f,h1⟩,e,o,C,hl⟩ (h.olds a n m)<|.inr fun D=>k<|List.mem_append.2<|.inr D
theorem ji.snoc (h:ji nd fd lo w Q l) {i:Nat} {no:Rq} {fl:mD} {d e:Value} (hi:bK w i no.cells nd) (j:bK w no.kI (fl.cells d e) fd) (g:Ls dh w Q d fl.b) (h1:Ls dh w Q e fl.safe) (n:¬Q i) (o:¬Q no.kI) (k:lo i) (m:lo no.kI) (n1:i∉mL l) (n2:no.kI∉mL l):ji nd fd lo w Q (l ++ [⟨i,no,fl⟩]):=by
  refine⟨fun z a=>?_,?_,?_⟩
  · rcases List.mem_append.1 a with a|a
    · exact h.all z a
    rw[List.mem_singleton]at a;subst a;exact⟨hi,⟨d,e,j,g,h1⟩,n,o,k,m⟩
  · rw[List.map_append,List.nodup_append]
    refine⟨h.ids,by simp,fun f C b c=>?_⟩;simp only[List.map_cons,List.map_nil,List.mem_singleton]at c;subst c;rintro rfl;exact n1<|List.mem_append.2<|.inl C
  rw[List.map_append,List.nodup_append];refine⟨h.KQ,by simp,fun f C b c=>?_⟩;simp only[List.map_cons,List.map_nil,List.mem_singleton]at c;subst c;rintro rfl;exact n2<|List.mem_append.2<|.inr C
end
def aci (f:ey):Nat:=(f.nodes.getLast?.map (·.id)).getD 0
def acj (f:ey):Nat:=(f.nodes.getLast?.map (·.no.kI)).getD 0
def mG (f:ey) (s:Ly) (i j:Nat):Nat × ey :=
  if(uY f.off f.nodes s).2=0 then(17,f)else if(uY f.off f.nodes s).2≠16 then((uY f.off f.nodes s).2,f)else if 24<=(eV f.nodes).1 then(15,f)
  else if(gw f).1≠0 then gw f else(0,{(gw f).2 with nodes:=f.nodes ++ [⟨i,⟨s,true,j⟩,⟨[],[]⟩⟩],pend:=f.pend ++ [⟨0,i,[],none⟩]})
theorem Wv {f:ey} {s:Ly} {i j c:Nat} {o:Option Nat} (h:uY f.off f.nodes s=(o,c)) (a:c=0):mG f s i j=(17,f):=by unfold mG;rw[h];rw[if_pos a]
theorem ahR {f:ey} {s:Ly} {i j c:Nat} {o:Option Nat} (h:uY f.off f.nodes s=(o,c)) (b:c≠0) (a:c≠16):mG f s i j=(c,f):=by unfold mG;rw[h];rw[if_neg b,if_pos a]
theorem afz {f:ey} {s:Ly} {i j c a z:Nat} {o:Option Nat} (h:uY f.off f.nodes s=(o,c)) (d:c=16) (e:eV f.nodes=(a,z)) (b:24<=a):mG f s i j=(15,f):=by subst d;unfold mG;rw[h,e];rw[if_neg Oj,if_neg Oj,if_pos b]
theorem ahQ {f m:ey} {s:Ly} {i j c a z e:Nat} {o:Option Nat} (h:uY f.off f.nodes s=(o,c)) (d:c=16) (k:eV f.nodes=(a,z)) (b:¬24<=a) (hb:gw f=(e,m)) (g:e≠0):mG f s i j=(e,m):=by subst d;unfold mG;rw[h,k];rw[if_neg Oj,if_neg Oj,if_neg b,hb];rw[if_pos g]
theorem acv {f m:ey} {s:Ly} {i j c a z e:Nat} {o:Option Nat} (h:uY f.off f.nodes s=(o,c)) (d:c=16) (k:eV f.nodes=(a,z)) (b:¬24<=a) (hb:gw f=(e,m)) (g:e=0):mG f s i j=(0,{m with nodes:=f.nodes ++ [⟨i,⟨s,true,j⟩,⟨[],[]⟩⟩],pend:=f.pend ++ [⟨0,i,[],none⟩]}):=by subst d;unfold mG;rw[h,k];rw[if_neg Oj,if_neg Oj,if_neg b,hb];rw[if_neg (by simpa using g)]
theorem mH (f:ey):(gw f).2.nodes=f.nodes/\(gw f).2.pend=f.pend/\(gw f).2.room=f.room:=by
  unfold gw;split
  · exact⟨q,q,q⟩
  split <;> exact⟨q,q,q⟩
theorem wA {f m:ey} {e:Nat} (h:gw f=(e,m)):m.nodes=f.nodes/\m.pend=f.pend/\m.room=f.room:=by have:=mH f;rw[h]at this;exact this
def je (f:ey) (s:Ly) (p:Int) (b:Ly) (j:Nat):Nat × ey :=
  if(uY f.off f.nodes s).2≠0 then((uY f.off f.nodes s).2,f)else match dU f.nodes s with
  | none=>(0,f)
  | some x=>if(zV x.fl p b).1≠0 then((zV x.fl p b).1,f)else if x.fl.b.length<(zV x.fl p b).2.b.length/\f.room<((eV f.nodes).2:Int)+(((zV x.fl p b).2.b.length:Int)-(x.fl.b.length:Int))then(15,f)
    else if(gw f).1≠0 then gw f else(0,{(gw f).2 with nodes:=gY f.nodes x.id fun z=>{z with no:={z.no with kI:=j},fl:=(zV x.fl p b).2}})
section
variable {f m:ey} {s:Ly} {p:Int} {b:Ly} {j c a z e:Nat} {o:Option Nat} {x:gJ} {y:mD}
theorem agn (h:uY f.off f.nodes s=(o,c)) (a:c≠0):je f s p b j=(c,f):=by unfold je;rw[h];rw[if_pos a]
theorem ago (h:oz f.off [s]=0/\dU f.nodes s=some x) (c:zV x.fl p b=(e,y)) (a:e≠0):je f s p b j=(e,f):=by unfold je;rw[wH h,h.2];simp only[c,ne_eq,not_true_eq_false,if_false];rw[if_pos a]
theorem ae9 (h:oz f.off [s]=0/\dU f.nodes s=some x) (i:zV x.fl p b=(e,y)) (d:e=0) (g:eV f.nodes=(a,z)) (h1:0<(y.b.length:Int)-(x.fl.b.length:Int)) (c:f.room<(z:Int)+((y.b.length:Int)-(x.fl.b.length:Int))):je f s p b j=(15,f):=by subst d;unfold je;rw[wH h,h.2,g];simp only[i,ne_eq,not_true_eq_false,if_false];rw[if_pos ⟨by omega,c⟩]
theorem MN (h:oz f.off [s]=0/\dU f.nodes s=some x) (k:zV x.fl p b=(e,y)) (g:e=0) (i:eV f.nodes=(a,z)) (h1:¬(0<(y.b.length:Int)-(x.fl.b.length:Int)/\f.room<(z:Int)+((y.b.length:Int)-(x.fl.b.length:Int)))) (hb:gw f=(c,m)) (d:c≠0):je f s p b j=(c,m):=by subst g;unfold je;rw[wH h,h.2,i,hb];simp only[k,ne_eq,not_true_eq_false,if_false];rw[if_neg Xx,if_pos d]
theorem xV (h:oz f.off [s]=0/\dU f.nodes s=some x) (k:zV x.fl p b=(e,y)) (g:e=0) (i:eV f.nodes=(a,z)) (h1:¬(0<(y.b.length:Int)-(x.fl.b.length:Int)/\f.room<(z:Int)+((y.b.length:Int)-(x.fl.b.length:Int)))) (hb:gw f=(c,m)) (d:c=0):je f s p b j=(0,{m with nodes:=gY f.nodes x.id fun q=>{q with no:={q.no with kI:=j},fl:=y}}):=by subst g;subst d;unfold je;rw[wH h,h.2,i,hb];simp only[k,ne_eq,not_true_eq_false,if_false];rw[if_neg Xx]
end
theorem p7 (b x:Ly) (p:Nat):(jr b p x).length=max b.length (p+x.length):=by unfold jr;simp only[List.length_append,List.length_take,List.length_drop,List.length_replicate];omega
theorem ae7 {f y:mD} {p:Int} {x:Ly} {e:Nat} (h:zV f p x=(e,y)):y.b.length<=max f.b.length 32768/\y.safe=f.safe:=by
  unfold zV at h;split at h
  · cases h;exact⟨Nat.le_max_left _ _,q⟩
  split at h
  · cases h;exact⟨Nat.le_max_left _ _,q⟩
  split at h
  · cases h;exact⟨Nat.le_max_left _ _,q⟩
  cases h;refine⟨?_,q⟩;show(jr _ _ _).length<=_;rw[p7];omega
theorem abw:vF Zp 143 1 8=true:=Xj
theorem abx:vF Zp 153 4 40=true:=Xj
theorem afj:cO Zp 74=true:=Xj
theorem alh:cO Zp 75=true:=Xj
theorem WR:aJ Zp 97 4=some 4:=Xj
theorem agV:iv Zp 95=true:=Xj
theorem akh:fG Zp 148=some [(0,1),(1,1),(2,1)]:=Xj
theorem aki:fG Zp 153=some [(0,1),(1,1),(2,1),(3,1)]:=Xj
theorem u95:Zp.underlying 95=some (.slice 153):=Xj
theorem z148:dX Zp 148=some [.string ByteArray.empty,.bool false,.pointer none]:=Xj
theorem alG:dX Zp 153=some [.int .i64 0,.pointer none,.string ByteArray.empty,.pointer none]:=Xj
theorem YF (B:Up w Q) {J:Nat} {S:Value} {U:Value} (f:ey) (j:bK w J (ey.cells f S U) 97) (n0:¬Q J) (au:ey.ok f) (N:Ow BL 143 (fun _=>True) w Q S f.nodes) (O:Ow qh 153 (fun _=>True) w Q U f.pend) (a6:ji 148 203 (fun _=>True) w Q f.nodes) (s:Ly) (bY:s.length<=1000000) (bZ:(eV f.nodes).2<=1000000000000) (p2:f.nodes.length<=1000000) (p3:f.pend.length<=1000000) :
  Calls Zp 30 #[.pointer (some ⟨J,0,none⟩),(str s)] w fun aC av=>∃aY:Nat,∃aj:ey,∃a7:Value,∃a8:Value,∃az:Nat->Prop,aC = .returned (iZ aY)/\Md (J :: (ah S).toList ++ ((ah U).toList ++ (mL f.nodes))) w av/\iQ w av Q az/\aY<9223372036854775808/\bK av J (ey.cells aj a7 a8) 97/\¬az J/\ey.ok aj/\Ow BL 143 (aX (J :: (ah S).toList ++ ((ah U).toList ++ (mL f.nodes))) w) av az a7 aj.nodes/\Ow qh 153 (aX (J :: (ah S).toList ++ ((ah U).toList ++ (mL f.nodes))) w) av az a8 aj.pend/\ji 148 203 (aX (J :: (ah S).toList ++ ((ah U).toList ++ (mL f.nodes))) w) av az aj.nodes/\mG f s (aci aj) (acj aj)=(aY,aj):=by
 have H:=n0;have aT:aX (J :: (ah S).toList ++ ((ah U).toList ++ (mL f.nodes))) w J:=.inl Oj;have N:=N.cT (lo':=aX (J :: (ah S).toList ++ ((ah U).toList ++ (mL f.nodes))) w)<|fun b K=>.inl (by simp[K]);have O:=O.cT (lo':=aX (J :: (ah S).toList ++ ((ah U).toList ++ (mL f.nodes))) w)<|fun b K=>.inl (by simp[K]);have v:=a6.reB (lo':=aX (J :: (ah S).toList ++ ((ah U).toList ++ (mL f.nodes))) w)<|fun b K=>.inl (by simp[K]);have A:=Md.refl (J :: (ah S).toList ++ ((ah U).toList ++ (mL f.nodes))) w;have bQ:=B;have Z:∀b,Q b->Q b:=fun _ h=>h;have Y:∀b,Q b->b<w.heap.size->Q b:=fun _ h _=>h;refine enter (n:=62) Tryz.func30 q q q fun bz=>ns ?_;have a4:=v.ltB;refine an q<|ns<|m2 q q<|Rz abN q (sM B f j H au (N.cT<|fun _ _=>trivial) (O.cT<|fun _ _=>trivial) s (by exact v.cT<|fun _ _=>trivial) Xx) ?_;rintro aC b0 ⟨bF,aE,rfl,e,bB,ay⟩;obtain⟨N,O,j,v,B,A⟩:=k6 e N O j v B A;refine mv q<|se q q<|se q q<|cV q<|an q<|nM q<|Rz ahE q (vI B f j H au (N.cT<|fun _ _=>trivial) (O.cT<|fun _ _=>trivial) (by exact v.cT<|fun _ _=>trivial) Xx) ?_;rintro aC b1 ⟨bk,bO,rfl,e,bC,bD,aJ⟩;obtain⟨N,O,j,v,B,A⟩:=k6 e N O j v B A;refine mv q<|se q q<|se q q<|cV q<|an q<|aH<|bf<|nM q<|su (fD (a:=aE) (b:=0) q q)<|cV q ?_;refine nt ?_;refine cJ q (fun ad=>?_)<|fun ad=>?_
 ·(first|(have g:=dq ad)|(have g:=dF<|ir ad)|(have g:=ir ad)|(have g:=ad));refine ns<|ar q<|bS<|aS ?_;exact gB (iN 17) q ⟨17,f,_,_,Q,q,A,⟨Y,Z,B⟩,Yy,j,H,au,N,O,v,(Wv ay Xx)⟩
 (first|(have g:=dF ad)|(have g:=dq<|iq ad)|(have g:=iq ad)|(have g:=ad));refine nM q<|su (fU (a:=aE) (b:=16) q q)<|an q ?_;refine cJ q (fun ae=>?_)<|fun ae=>?_
 ·(first|(have ao:=dq ae)|(have ao:=dF<|ir ae)|(have ao:=ir ae)|(have ao:=ae));refine nM q<|ar q<|bS<|aS ?_;exact gB (iZ aE) q ⟨aE,f,_,_,Q,q,A,⟨Y,Z,B⟩,Yy,j,H,au,N,O,v,(ahR ay Xx Xx)⟩
 (first|(have ao:=dF ae)|(have ao:=dq<|iq ae)|(have ao:=iq ae)|(have ao:=ae));refine nM q<|su (adQ (a:=bk) (b:=24) q q)<|an q ?_;refine cJ q (fun af=>?_)<|fun af=>?_
 ·(first|(have k:=dq af)|(have k:=dF<|ir af)|(have k:=ir af)|(have k:=af));refine ns<|ar q<|bS<|aS ?_;exact gB (iN 15) q ⟨15,f,_,_,Q,q,A,⟨Y,Z,B⟩,Yy,j,H,au,N,O,v,(afz ay Xx aJ Xx)⟩
 (first|(have k:=dF af)|(have k:=dq<|iq af)|(have k:=iq af)|(have k:=af));refine aM<|bG<|aA<|aH<|nM q<|Rz afj q (ud B f j H au (N.cT<|fun _ _=>trivial)<|O.cT<|fun _ _=>trivial) ?_;rintro aC bw ⟨aU,W,ba,aZ,a5,rfl,e,⟨E,V,d⟩,bE,a0,a1,o,M,I,aK⟩;have aF:∀i∈(J :: (ah S).toList ++ ((ah U).toList)),aX (J :: (ah S).toList ++ ((ah U).toList ++ (mL f.nodes))) w i:=bX aT<|dx (rF N)<|rF O;have F:∀i∈(J :: (ah S).toList ++ ((ah U).toList)),¬Q i:=bX H<|dx (rN N)<|rN O;have bc:=v.apF j N O Xz Xz Xz Xz Xz Xz;have M:=M.cT<|Sy M;have M:=M.cT<|Sz M aF<|aX.new A;have I:=I.cT<|Sy I;have I:=I.cT<|Sz I aF<|aX.new A;have Z:=tT Z V;have Y:=Sx E Y A.size;have F:=fun i hi bs=>F i hi<|V i bs;have v:=(v.sub E V).md e bc F;have A:=A.step e aF;have B:=d;have j:=a0;have H:=a1;have be:=wA aK;have v:ji 148 203 (aX (J :: (ah S).toList ++ ((ah U).toList ++ (mL f.nodes))) w) bw a5 W.nodes:=(by rw[be.1];exact v);refine an q<|nM q<|su (fU (a:=aU) (b:=0) q q)<|nt ?_;refine cJ q (fun ag=>?_)<|fun ag=>?_
 ·(first|(have l:=dq ag)|(have l:=dF<|ir ag)|(have l:=ir ag)|(have l:=ag));refine nM q<|ar q<|aS ?_;exact gB (iZ aU) q ⟨aU,W,_,_,a5,q,A,⟨Y,Z,B⟩,Yy,j,H,o,M,I,v,(ahQ ay Xx aJ Xx aK Xx)⟩
 (first|(have l:=dF ag)|(have l:=dq<|iq ag)|(have l:=iq ag)|(have l:=ag));refine aM<|aA<|nM q<|Rz alh q (aeg B) ?_;rintro aC b2 ⟨aa,bI,bJ,aw,bW,rfl,e,⟨E,V,d⟩,G,ak,z,C,D,bn⟩;have bH:J≠aa:=(by have:=j.lt;omega);have bb:aX [] w aa:=aX.new A _ z;have z:=lv A.size z;have H:=nQ H V;have Z:=tT Z V;have Y:=Sx E Y A.size;have j:=j.o e;have v:=(v.sub E V).o e;have M:=(M.sub E V).o e;have I:=(I.sub E V).o e;have A:=A.k e;have B:=d;refine su (dI (us:=[[(str s)],[(.bool true)],[(.pointer<|some ⟨aa,0,none⟩)]]) (cs:=(Rq.cells<|({nm:=s,there:=true,kI:=aa}:Rq))) [(0,0,1),(1,1,1),(2,2,1)] z148 akh q q Fz Fz q q)<|e7 (cs:=(Rq.cells<|({nm:=s,there:=true,kI:=aa}:Rq))) q q ?_;intro L b3 aD bj e P;have bL:J≠L:=(by have:=j.lt;omega);have bx:aa≠L:=(by have:=G.lt;omega);obtain⟨br,E,V,c,d⟩:=oI B aD bj e;have H:=nQ H V;have ak:=nQ ak V;have Z:=tT Z V;have Y:=Sx E Y A.size;have aD:=lv A.size aD;have j:=j.o e;have v:=(v.sub E V).o e;have M:=(M.sub E V).o e;have I:=(I.sub E V).o e;have C:=(C.sub E).o e;have D:=(D.sub E).o e;obtain⟨G,A⟩:=k2 e G A;have B:=d;have a9:aX [] w L:=.inr aD;refine an q ?_
 refine ns<|m2 q q<|sn q<|sf q BG<|sl (u:=ba) q WT j q<|mv q ?_;have ml:W.nodes.length=f.nodes.length:=(by rw[be.1]);have bv:W.pend.length=f.pend.length:=(by rw[be.2.1]);refine bh [[(.pointer<|some ⟨L,0,none⟩)]] u94 abw Xz Xz q q ⟨q,tV⟩ ⟨q,tV⟩ q Xz ?_;intro bM b4 bg bN e aP;have bl:=B _ bg;obtain⟨j,v,M,I,C,D,G,P⟩:=k8 e j v M I C D G P;obtain⟨B,A⟩:=k2 e B A;have aP:=Ls.cL (m:=1) (R:=br) (T:=BL) (xs:=[({id:=L,no:=({nm:=s,there:=true,kI:=aa}:Rq),fl:=aw}:gJ)]) aP ⟨_,_,q,⟨q,tV⟩,q⟩ q Xz bl;refine fO (sz:=1) (by rfl) u94 abw q q M aP (fun _ h _=>h) B (aX.new A) Ym Ym ?_;intro Bk bR a3 E V d X e F _ aL;have ap:=M;have H:=nQ H V;have ak:=nQ ak V;have c:=nQ c V;have Z:=tT Z V;have Y:=Sx E Y A.size;have j:=j.md e<|aW ap j;have v:=(v.sub E V).md e (v.apO ap Xz Xz) F;have I:=(I.sub E V).md e (aO ap I) F;have C:=(C.sub E).md e F;have D:=(D.sub E).md e F;have G:=G.md e<|aW ap G;have P:=P.md e<|aW ap P;have B:=B.md e;have A:=A.cE e<|Sy ap;have B:=d;clear d E V F aL;refine sn q<|sf q BG<|aQ q q WT X.cZ j (lq q) ?_;have ab:=j;intro bT e j;have F:∀b∈[J],¬a3 b:=hI H;have v:=v.md e (v.ap1 ab Xz Xz) F;have I:=I.md e (aB ab I) F;have C:=C.md e F;have D:=D.md e F;have G:=G.md e Zq;have P:=P.md e Zq;have X:=X.md e (aB ab X) F;have B:=B.md e;have A:=A.step e<|hI aT;obtain⟨p,al⟩:∃y,y=({W with nodes:=W.nodes ++ ([({id:=L,no:=({nm:=s,there:=true,kI:=aa}:Rq),fl:=aw}:gJ)])}:ey):=⟨_,q⟩;have j:bK _ _ (ey.cells ({W with nodes:=W.nodes ++ ([({id:=L,no:=({nm:=s,there:=true,kI:=aa}:Rq),fl:=aw}:gJ)])}) Bk aZ) _:=j;rw[<- al]at j;have a2:ey.ok p:=(by rw[al];exact⟨o.1,o.2⟩);rw[show W.nodes ++ ([({id:=L,no:=({nm:=s,there:=true,kI:=aa}:Rq),fl:=aw}:gJ)])=p.nodes by rw[al]]at X;rw[show W.pend=p.pend by rw[al]]at I;refine nt<|ns<|m2 q q<|sn q<|sf q WR<|sl (u:=aZ) q agV j q<|mv q<|su (dI (us:=[[(iN 0)],[(.pointer<|some ⟨L,0,none⟩)]]) (cs:=(FT.cells<|({kind:=0,n:=L,old:=[],aN:=none}:FT))) [(0,0,1),(1,1,1)] alG aki q q Fz Fz q q)<|bh [(FT.cells<|({kind:=0,n:=L,old:=[],aN:=none}:FT))] u95 abx Xz Xz q q ⟨q,tV⟩ ⟨q,tV⟩ q Xz ?_;intro Bx bU bi bA e aR;have bm:=B _ bi;obtain⟨v,I,C,D,G,P,X,j⟩:=k8 e v I C D G P X j;obtain⟨B,A⟩:=k2 e B A;have aR:=Ls.cL (m:=1) (R:=a3) (T:=qh) (xs:=[({kind:=0,n:=L,old:=[],aN:=none}:FT)]) aR ⟨_,_,q,(agd (by first|assumption|exact(show(({kind:=0,n:=L,old:=[],aN:=none}:FT)).kind<9223372036854775808 from Yw))),q⟩ q Xz bm;have bP:p.pend.length=f.pend.length:=(by rw[al];exact bv);refine fO (sz:=4) (by rfl) u95 abx q q I aR (fun _ h _=>h) B (aX.new A) Ym Ym ?_;intro bp bV aI E V d t e F _ aL;have aq:=I;have ak:=nQ ak V;have c:=nQ c V;have H:=nQ H V;have Z:=tT Z V;have Y:=Sx E Y A.size;have v:=(v.sub E V).md e (v.apO aq Xz Xz) F;have C:=(C.sub E).md e F;have D:=(D.sub E).md e F;have G:=G.md e<|aW aq G;have P:=P.md e<|aW aq P;have X:=(X.sub E V).md e (aO aq X) F;have j:=j.md e<|aW aq j;have B:=B.md e;have A:=A.cE e<|Sy aq;have B:=d;clear d E V F aL;refine sn q<|sf q WR<|aQ q q agV t.cZ j (lq q) ?_;have ab:=j;intro bq e j;have F:∀b∈[J],¬aI b:=hI H;have v:=v.md e (v.ap1 ab Xz Xz) F;have C:=C.md e F;have D:=D.md e F;have G:=G.md e Zq;have P:=P.md e Zq;have X:=X.md e (aB ab X) F;have t:=t.md e (aB ab t) F;have B:=B.md e;have A:=A.step e<|hI aT;obtain⟨ai,r⟩:∃y,y=({p with pend:=p.pend ++ ([({kind:=0,n:=L,old:=[],aN:=none}:FT)])}:ey):=⟨_,q⟩;have j:bK _ _ (ey.cells ({p with pend:=p.pend ++ ([({kind:=0,n:=L,old:=[],aN:=none}:FT)])}) Bk bp) _:=j;rw[<- r]at j;have bd:ey.ok ai:=(by rw[r];exact⟨a2.1,a2.2⟩);rw[show p.nodes=ai.nodes by rw[r]]at X;rw[show p.pend ++ ([({kind:=0,n:=L,old:=[],aN:=none}:FT)])=ai.pend by rw[r]]at t;refine aG ?_;have aV:ai.nodes=f.nodes ++ [({id:=L,no:=({nm:=s,there:=true,kI:=aa}:Rq),fl:=aw}:gJ)]:=(by rw[r];show p.nodes=_;rw[al];show _ ++ _=_;rw[be.1]);have v:ji 148 203 (aX (J :: (ah S).toList ++ ((ah U).toList ++ (mL f.nodes))) w) bq aI ai.nodes:=by rw[aV];rw[be.1]at v;exact v.snoc P G C D c ak (aX.wid a9) (aX.wid bb) (fun e=>by have:=a4 _ e;omega) (fun e=>by have bo:aa∈mL f.nodes:=e;have:=a4 _ bo;omega)
 have bt:aci ai=L:=(by unfold aci;rw[aV];simp);have bu:acj ai=aa:=(by unfold acj;rw[aV];simp);refine aA<|ns<|ar q ?_;exact gB (iN 0) q ⟨0,ai,_,_,aI,q,A,⟨Y,Z,B⟩,Yy,j,H,bd,X,t,v,(by rw[bt,bu,acv ay Xx aJ Xx aK Xx];rw[r,al];simp[be.1,be.2.1,<- bn])⟩
theorem ali:cO Zp 77=true:=Xj
theorem alj:cO Zp 78=true:=Xj
set_option maxHeartbeats 4000000 in
theorem S9 (B:Up w Q) {E:Nat} {I:Value} {J:Value} (f:ey) (e:bK w E (ey.cells f I J) 97) (n0:¬Q E) (am:ey.ok f) (u:Ow BL 143 (fun _=>True) w Q I f.nodes) (v:Ow qh 153 (fun _=>True) w Q J f.pend) (bT:ji 148 203 (fun _=>True) w Q f.nodes) (s:Ly) (p:Int) (cL:(-9223372036854775808<=p/\p<9223372036854775808)) {bY:Value} {b:Ly} (az:Ls dh w Q bY b) (cN:s.length<=1000000) (cO:(eV f.nodes).2<=1000000000000) (p2:f.nodes.length<=1000000) (p3:f.pend.length<=1000000) (p4:∀x∈f.nodes,x.fl.b.length<=1000000) (cf:∀x∈f.nodes,x.fl.safe.length<=1000000) :
  Calls Zp 34 #[.pointer (some ⟨E,0,none⟩),(str s),(iZ (p:Int)),bY] w fun al aC=>∃bp:Nat,∃a0:ey,∃bU:Value,∃bV:Value,∃a6:Nat->Prop,al = .returned (iZ bp)/\Md (E :: (ah I).toList ++ ((ah J).toList ++ (mL f.nodes))) w aC/\iQ w aC Q a6/\bp<9223372036854775808/\bK aC E (ey.cells a0 bU bV) 97/\¬a6 E/\ey.ok a0/\Ow BL 143 (aX (E :: (ah I).toList ++ ((ah J).toList ++ (mL f.nodes))) w) aC a6 bU a0.nodes/\Ow qh 153 (aX (E :: (ah I).toList ++ ((ah J).toList ++ (mL f.nodes))) w) aC a6 bV a0.pend/\ji 148 203 (aX (E :: (ah I).toList ++ ((ah J).toList ++ (mL f.nodes))) w) aC a6 a0.nodes/\(∃j,je f s p b j=(bp,a0)):=by
 have cK:=az.eJ;have K:=n0;have bJ:aX (E :: (ah I).toList ++ ((ah J).toList ++ (mL f.nodes))) w E:=.inl Oj;have u:=u.cT (lo':=aX (E :: (ah I).toList ++ ((ah J).toList ++ (mL f.nodes))) w)<|fun b R=>.inl (by simp[R]);have v:=v.cT (lo':=aX (E :: (ah I).toList ++ ((ah J).toList ++ (mL f.nodes))) w)<|fun b R=>.inl (by simp[R]);have P:=bT.reB (lo':=aX (E :: (ah I).toList ++ ((ah J).toList ++ (mL f.nodes))) w)<|fun b R=>.inl (by simp[R]);have m:=Md.refl (E :: (ah I).toList ++ ((ah J).toList ++ (mL f.nodes))) w;have b4:=B;have U:∀b,Q b->Q b:=fun _ h=>h;have T:∀b,Q b->b<w.heap.size->Q b:=fun _ h _=>h;refine enter (n:=72) Tryz.func34 q q q fun cj=>ns ?_;have ba:=P.ltB;refine an q<|ns<|m2 q q<|Rz abN q (sM B f e K am (u.cT<|fun _ _=>trivial) (v.cT<|fun _ _=>trivial) s (by exact P.cT<|fun _ _=>trivial) Xx) ?_;rintro al cP ⟨cA,bi,rfl,G,cy,bP⟩;obtain⟨u,v,e,az,P,B,m⟩:=k7 G u v e az P B m;refine mv q<|se q q<|se q q<|cV q<|an q<|aH<|nM q<|su (fU (a:=bi) (b:=0) q q)<|nt ?_;refine cJ q (fun ai=>?_)<|fun ai=>?_
 ·(first|(have aB:=dq ai)|(have aB:=dF<|ir ai)|(have aB:=ir ai)|(have aB:=ai));refine nM q<|ar q<|aS ?_;exact gB (iZ bi) q ⟨bi,f,_,_,Q,q,m,⟨T,U,B⟩,Yy,e,K,am,u,v,P,⟨0,agn bP Xx⟩⟩
 (first|(have aB:=dF ai)|(have aB:=dq<|iq ai)|(have aB:=iq ai)|(have aB:=ai));refine aM<|aA<|ns ?_;obtain⟨l,M,b8,aK⟩:=wI bP Xx;subst b8;have cc:=p4 _ M;have cB:=cf _ M;refine mv q<|sn q<|sf q nC ?_;obtain⟨cD,cE,bn,Bx,bM,bO⟩:=P.bE M;refine su ((aD q tu (P.get M).1 q).to (b:=(.pointer<|some ⟨l.no.kI,0,none⟩)) q)<|Rz ali q (aai B l.fl bn Bx bM bO Ym Ym) ?_;rintro al cQ ⟨L,aZ,cu,bL,ca,rfl,G,⟨r,o,af⟩,D,H,bh,ag,bZ,bQ⟩;have cr:E≠L:=(by have:=e.lt;omega);have cq:l.no.kI≠L:=(by have:=bn.lt;omega);have bg:aX [] w L:=aX.new m _ bh;have bh:=lv m.size bh;have K:=nQ K o;have U:=tT U o;have T:=Sx r T m.size;have ag:=ag.lower<|aX.lift (S':=[]) m;have u:=(u.sub r o).o G;have v:=(v.sub r o).o G;have e:=e.o G;have az:=(az.sub r).o G;have P:=(P.sub r o).o G;have m:=m.k G;have B:=af;have cC:bL.b.length<=1000000:=(by rw[<- bQ];exact cc);refine cV q<|aG ?_;refine aA<|aH<|ns<|m2 q q<|mv q<|Rz alj q (Un B bL D H (ag.cT<|fun _ _=>trivial) bZ (p) Xx az Ym) ?_;rintro al ch ⟨bj,bm,cs,ct,cb,rfl,G,⟨r,o,af⟩,cz,bD,bF,A,C,b3⟩
 have Z:∀i∈(L :: (ah aZ).toList),aX [] w i:=bX bg<|rF ag;have g:∀i∈(L :: (ah aZ).toList),¬ca i:=bX H<|rN ag;have bq:∀b,ah I=some b->b∉(L :: (ah aZ).toList):=fun b R=>bH (u.fV D Xz b R)<|(aO ag u) b R;have br:∀b,ah J=some b->b∉(L :: (ah aZ).toList):=fun b R=>bH (v.fV D Xz b R)<|(aO ag v) b R;have bG:E∉(L :: (ah aZ).toList):=bH Xx<|aW ag e;have a1:=P.apB (S:=(L :: (ah aZ).toList))<|fun b R=>bH (by have:=ba b R;omega) (fun G=>by have cM:=ba b R;have az:=(ag.2 b (by simpa using G)).1.elim (fun h=>by simp at h) id;omega);have A:=A.cT<|Sy A;have A:=A.cT<|Sz A Z<|aX.new m;have K:=nQ K o;have U:=tT U o;have T:=Sx r T m.size;have g:=fun i hi a7=>g i hi<|o i a7;have u:=(u.sub r o).md G bq g;have v:=(v.sub r o).md G br g;have e:=e.md G bG;have P:=(P.sub r o).md G a1 g;have m:=m.step G<|fun i hi=>aX.wid<|Z i hi;have B:=af;have D:=bD;have H:=bF;have ao:=b3;rw[<- bQ]at ao;refine an q<|nM q<|su (fU (a:=bj) (b:=0) q q)<|nt ?_;refine cJ q (fun aj=>?_)<|fun aj=>?_
 ·(first|(have ap:=dq aj)|(have ap:=dF<|ir aj)|(have ap:=ir aj)|(have ap:=aj));refine nM q<|ar q<|aS ?_;exact gB (iZ bj) q ⟨bj,f,_,_,cb,q,m,⟨T,U,B⟩,Yy,e,K,am,u,v,P,⟨0,ago aK ao Xx⟩⟩
 (first|(have ap:=dF aj)|(have ap:=dq<|iq aj)|(have ap:=iq aj)|(have ap:=aj));refine aM<|aA<|aH ?_;obtain⟨bc,aw,ay,bs⟩:=A.freeze;have u:=u.jd aw ay<|aO A u;have v:=v.jd aw ay<|aO A v;have K:=fun bo=>(ay _ bo).elim K<|OU<|aW A e;have P:=P.jd aw ay<|P.apO A Xz Xz;have H:=fun bo=>(ay _ bo).elim H<|OU<|aW A D;have C:=C.sub<|fun b R _=>aw b R;have U:=fun b R=>(ay b R).elim (U b)<|fun ce=>aX.up b4 b (A.2 b ce).1;have T:=fun b R hl=>aw b<|T b R hl;have B:Up ch bc:=fun b R=>aw b<|B b R;have A:=bs;have bI:=P;refine nL [(0,true),(2,true),(3,true),(4,true),(5,true),(1,false)] [6,7,8] mixed ?_;intro cR k;have bb:=k;refine mo q<|mo q<|my (bN q)<|my (aF q nC) ?_;obtain⟨cw,cx,aT,bB,aJ,aL⟩:=P.bE M;refine mz (fun aC cd=>(aD q tu ((bI.o cd).get M).1 q).to (b:=(.pointer<|some ⟨l.no.kI,0,none⟩)) q) ?_;obtain⟨u,v,e,P,D,A,C,aJ⟩:=k8 k u v e P D A C aJ;obtain⟨aL,aT,B,m⟩:=k4 k aL aT B m;refine jc ?_ rfl;refine Rz afk q (xP B bm D H A C) ?_;rintro al cG ⟨a8,rfl,G,cl,av⟩;obtain⟨u,v⟩:=k2 G u v
 obtain⟨e,P,D,A,C,aJ,aL,aT⟩:=k8 G e P D A C aJ aL aT;obtain⟨B,m,bb⟩:=k3 G B m bb;refine aG ⟨q,bb,?_⟩;refine di ?_;refine Rz afk q (xP B l.fl aT bB aJ aL) ?_;rintro al cH ⟨a9,rfl,G,C3,aN⟩;obtain⟨u,v,e,P,D,A,C,B⟩:=k8 G u v e P D A C B;have m:=m.k G;refine su (iO (a:=((a8:Nat):Int)) (b:=((a9:Nat):Int)) q q Xx)<|cV q<|aG ?_;refine aA<|aH<|nM q<|Rz ahE q (vI B f e K am (u.cT<|fun _ _=>trivial) (v.cT<|fun _ _=>trivial) (by exact P.cT<|fun _ _=>trivial) Xx) ?_;rintro al cI ⟨cv,bv,rfl,G,cm,cn,aR⟩;obtain⟨u,v,e,P,D,A,C,B⟩:=k8 G u v e P D A C B;have m:=m.k G;have cg:=congrArg Prod.snd aR;simp only at cg;have ci:=(ae7 ao).1;rw[av]at ci;refine mv q<|se q q<|se q q<|cV q<|an q<|nM q<|su (qb (a:=((a8:Nat):Int)-((a9:Nat):Int)) (b:=0) q q)<|mv q ?_;refine ck (t:=53) q (fun F=>?_)<|fun F=>?_
 ·(first|(have aq:=dq F)|(have aq:=dF<|ir F)|(have aq:=ir F)|(have aq:=F));refine sg F (aP q)<|sg F (aP q)<|sg F (eB (a:=((bv:Nat):Int)) (b:=(((a8:Nat):Int)-((a9:Nat):Int))) q q Xx)<|sg F (aP q)<|sg F (bN q)<|sg F (aF q WQ)<|sg F ((aD q gQ e q).to (b:=(iZ (f.room:Int))) q) ?_;have cF:(-9223372036854775808<=f.room/\f.room<9223372036854775808):=am.1;refine sg F (qb (a:=((bv:Nat):Int)+(((a8:Nat):Int)-((a9:Nat):Int))) (b:=f.room) q q)<|su (bC q F q)<|nt ?_;refine cJ q (fun ak=>?_)<|fun ak=>?_
  ·(first|(have au:=dq ak)|(have au:=dF<|ir ak)|(have au:=ir ak)|(have au:=ak));refine ns<|ar q<|aS ?_;exact gB (iN 15) q ⟨15,f,_,_,bc,q,m,⟨T,U,B⟩,Yy,e,K,am,u,v,P,⟨0,ae9 aK ao Xx aR (by rw[av,aN];omega) (by rw[av,aN];omega)⟩⟩
  (first|(have au:=dF ak)|(have au:=dq<|iq ak)|(have au:=iq ak)|(have au:=ak));refine aM<|aA<|aH<|nM q<|Rz afj q (ud B f e K am (u.cT<|fun _ _=>trivial)<|v.cT<|fun _ _=>trivial) ?_;rintro al b5 ⟨bd,c,b0,b1,a2,rfl,G,⟨r,o,af⟩,co,bw,bz,bt,X,aa,bk⟩;have Z:∀i∈(E :: (ah I).toList ++ ((ah J).toList)),aX (E :: (ah I).toList ++ ((ah J).toList ++ (mL f.nodes))) w i:=bX bJ<|dx (rF u)<|rF v;have g:∀i∈(E :: (ah I).toList ++ ((ah J).toList)),¬bc i:=bX K<|dx (rN u)<|rN v;have a1:=P.apF e u v Xz Xz Xz Xz Xz Xz;have W:L∉(E :: (ah I).toList ++ ((ah J).toList)):=bH Xx<|bW (aW u D)<|aW v D;have X:=X.cT<|Sy X;have X:=X.cT<|Sz X Z<|aX.new m;have aa:=aa.cT<|Sy aa;have aa:=aa.cT<|Sz aa Z<|aX.new m;have H:=nQ H o;have U:=tT U o;have T:=Sx r T m.size;have g:=fun i hi a7=>g i hi<|o i a7;have P:=(P.sub r o).md G a1 g;have D:=D.md G W;have A:=(A.sub r).md G g;have C:=(C.sub r).md G g;have m:=m.step G Z;have B:=af;have e:=bw;have K:=bz;have be:=wA bk;have P:ji 148 203 (aX (E :: (ah I).toList ++ ((ah J).toList ++ (mL f.nodes))) w) b5 a2 c.nodes:=(by rw[be.1];exact P)
  have M:l∈c.nodes:=(by rw[be.1];exact M);refine an q<|nM q<|su (fU (a:=bd) (b:=0) q q)<|nt ?_;refine cJ q (fun N=>?_)<|fun N=>?_
  ·(first|(have V:=dq N)|(have V:=dF<|ir N)|(have V:=ir N)|(have V:=N));refine nM q<|ar q<|aS ?_;exact gB (iZ bd) q ⟨bd,c,_,_,a2,q,m,⟨T,U,B⟩,Yy,e,K,bt,X,aa,P,⟨0,MN aK ao Xx aR (by rw[av,aN];omega) bk Xx⟩⟩
  (first|(have V:=dF N)|(have V:=dq<|iq N)|(have V:=iq N)|(have V:=N));refine aM<|aA<|ns<|m2 q q<|sn q<|sf q nC<|aQ q q tu q (P.get M).1 (lq q) ?_;intro bR G R;have ae:=P;have ad:=(ae.get M).1;have a5:=(show L∉mL c.nodes from fun G=>by rw[be.1]at G;have:=ba _ G;omega);have g:∀b∈[l.id],¬a2 b:=(by intro b R;rw[List.mem_singleton]at R;subst R;exact(ae.get M).2.2);have e:=e.md G (by rw[List.mem_singleton];exact oF e ad Xz);have D:=D.md G (by rw[List.mem_singleton];exact oF D ad Xz);have A:=A.md G g;have C:=C.md G g;have X:=X.md G (fun b R=>by rw[List.mem_singleton];exact X.fV ad Xz b R) g;have aa:=aa.md G (fun b R=>by rw[List.mem_singleton];exact aa.fV ad Xz b R) g;have B:=B.md G;have m:=m.step G<|bX (ae.all _ M).2.2.2.2.1 all_nil;have a4:=ae.XF (j:=L) M Xz G (show bK _ _ (Rq.cells {l.no with kI:=L}) _ from R) D A C H (aX.wid bg) a5;obtain⟨aV,aE⟩:∃y,y=({c with nodes:=gY c.nodes l.id (fun z=>{z with no:={z.no with kI:=L},fl:=bm})}:ey):=⟨_,q⟩;have e:bK bR E (ey.cells aV b0 b1) 97:=(by rw[aE];exact e);have b6:ey.ok aV:=(by rw[aE];exact bt);have X:=TM X (show aV.nodes.map (·.id)=c.nodes.map (·.id)from by rw[aE];exact p6<|fun _=>rfl);rw[show c.pend=aV.pend by rw[aE]]at aa;have P:ji 148 203 (aX (E :: (ah I).toList ++ ((ah J).toList ++ (mL f.nodes))) w) bR a2 aV.nodes:=(by rw[aE];exact a4);refine nt<|ns<|ar q ?_;exact gB (iN 0) q ⟨0,aV,_,_,a2,q,m,⟨T,U,B⟩,Yy,e,K,b6,X,aa,P,⟨L,(by rw[xV aK ao Xx aR (by rw[av,aN];omega) bk Xx];rw[aE,be.1])⟩⟩
 (first|(have aq:=dF F)|(have aq:=dq<|iq F)|(have aq:=iq F)|(have aq:=F));refine sk F<|sk F<|sk F<|sk F<|sk F<|sk F<|sk F<|sk F<|su (aU q F q)<|nt<|gV q q<|aM<|aA<|aH ?_;refine nM q<|Rz afj q (ud B f e K am (u.cT<|fun _ _=>trivial)<|v.cT<|fun _ _=>trivial) ?_;rintro al b9 ⟨bf,d,b2,Bk,a3,rfl,G,⟨r,o,af⟩,cp,bx,bA,bu,Y,ab,bl⟩;have Z:∀i∈(E :: (ah I).toList ++ ((ah J).toList)),aX (E :: (ah I).toList ++ ((ah J).toList ++ (mL f.nodes))) w i:=bX bJ<|dx (rF u)<|rF v;have g:∀i∈(E :: (ah I).toList ++ ((ah J).toList)),¬bc i:=bX K<|dx (rN u)<|rN v;have a1:=P.apF e u v Xz Xz Xz Xz Xz Xz;have W:L∉(E :: (ah I).toList ++ ((ah J).toList)):=bH Xx<|bW (aW u D)<|aW v D;have Y:=Y.cT<|Sy Y;have Y:=Y.cT<|Sz Y Z<|aX.new m;have ab:=ab.cT<|Sy ab;have ab:=ab.cT<|Sz ab Z<|aX.new m;have H:=nQ H o;have A:=A.sub r;have C:=C.sub r;have U:=tT U o;have T:=Sx r T m.size;have g:=fun i hi a7=>g i hi<|o i a7;have P:=(P.sub r o).md G a1 g;have D:=D.md G W;clear W
 have A:=A.md G g;have C:=C.md G g;have m:=m.step G Z;have B:=af;have e:=bx;have K:=bA;have be:=wA bl;have P:ji 148 203 (aX (E :: (ah I).toList ++ ((ah J).toList ++ (mL f.nodes))) w) b9 a3 d.nodes:=(by rw[be.1];exact P);have M:l∈d.nodes:=(by rw[be.1];exact M);refine an q<|nM q<|su (fU (a:=bf) (b:=0) q q)<|nt ?_;refine cJ q (fun N=>?_)<|fun N=>?_
 ·(first|(have V:=dq N)|(have V:=dF<|ir N)|(have V:=ir N)|(have V:=N));refine nM q<|ar q<|aS ?_;exact gB (iZ bf) q ⟨bf,d,_,_,a3,q,m,⟨T,U,B⟩,Yy,e,K,bu,Y,ab,P,⟨0,MN aK ao Xx aR (by rw[av,aN];omega) bl Xx⟩⟩
 (first|(have V:=dF N)|(have V:=dq<|iq N)|(have V:=iq N)|(have V:=N));refine aM<|aA<|ns<|m2 q q<|sn q<|sf q nC<|aQ q q tu q (P.get M).1 (lq q) ?_;intro bS G R;have ae:=P;have ad:=(ae.get M).1;have a5:=(show L∉mL d.nodes from fun G=>by rw[be.1]at G;have:=ba _ G;omega);have g:∀b∈[l.id],¬a3 b:=(by intro b R;rw[List.mem_singleton]at R;subst R;exact(ae.get M).2.2);have e:=e.md G (by rw[List.mem_singleton];exact oF e ad Xz);have D:=D.md G (by rw[List.mem_singleton];exact oF D ad Xz);have A:=A.md G g;have C:=C.md G g;have Y:=Y.md G (fun b R=>by rw[List.mem_singleton];exact Y.fV ad Xz b R) g;have ab:=ab.md G (fun b R=>by rw[List.mem_singleton];exact ab.fV ad Xz b R) g;have B:=B.md G;have m:=m.step G<|bX (ae.all _ M).2.2.2.2.1 all_nil;have a4:=ae.XF (j:=L) M Xz G (show bK _ _ (Rq.cells {l.no with kI:=L}) _ from R) D A C H (aX.wid bg) a5;obtain⟨aY,aI⟩:∃y,y=({d with nodes:=gY d.nodes l.id (fun z=>{z with no:={z.no with kI:=L},fl:=bm})}:ey):=⟨_,q⟩;have e:bK bS E (ey.cells aY b2 Bk) 97:=(by rw[aI];exact e);have b7:ey.ok aY:=(by rw[aI];exact bu);have Y:=TM Y (show aY.nodes.map (·.id)=d.nodes.map (·.id)from by rw[aI];exact p6<|fun _=>rfl);rw[show d.pend=aY.pend by rw[aI]]at ab;have P:ji 148 203 (aX (E :: (ah I).toList ++ ((ah J).toList ++ (mL f.nodes))) w) bS a3 aY.nodes:=(by rw[aI];exact a4);refine nt<|ns<|ar q ?_;exact gB (iN 0) q ⟨0,aY,_,_,a3,q,m,⟨T,U,B⟩,Yy,e,K,b7,Y,ab,P,⟨L,(by rw[xV aK ao Xx aR (by rw[av,aN];omega) bl Xx];rw[aI,be.1])⟩⟩
end Go.Proofs.YtfadcpfgenjbeaaGreat
namespace Go.Wk
open Go Go.RowKit
section
variable {P:Program} {n:Nat} {A:Fr n} {D:List Deferred} {l:List (Nat × Value)} {w:World} {d:Option Tmp} {ty:TypeId} {ps:String} {af:Array Edge} {g:Option (Nat × Bool)}
end
section
variable {P:Program} {n:Nat} {A:Fr n} {D:List Deferred} {l:List (Nat × Value)} {w:World} {d:Option Tmp} {ty:TypeId} {ps:String} {af:Array Edge} {g:Option (Nat × Bool)}
end
section
variable {P:Program} {n:Nat} {A:Fr n} {D:List Deferred} {l:List (Nat × Value)} {w:World} {d:Option Tmp} {ty:TypeId} {ps:String} {af:Array Edge} {g:Option (Nat × Bool)}
theorem JA {x y:Operand} {t u:TypeId} {a b:Bool} (e:P.underlying t=some .bool) (f:ev n l x=some (.bool a)) (h:ev n l y=some (.bool b)) :
    cw P ⟨d,.binOp .neq t x y u,ty,ps,af,g⟩ (aN A D l).eval w (.bool<|a != b):=by
  have c:(binOp .neq t (.bool a)<|.bool b).run P w = .ok (.bool<|a != b) w:=by simp only[binOp,Op.equal,Op.maxDepth,Sem.run_bind,run_equalIn_bool' w 9999 t a b e,Result.andThen_ok,Sem.run_pure];rfl
  have C:(eqGuard .neq t x y (.bool a)<|.bool b).run P w = .ok () w:=by unfold eqGuard;simp
  simp[cw,execOp,bM f,bM h,C,c]
end
section
variable {P:Program} {ops:Array Oper} {Q:Exit->Act->World->Prop} {rest:List Oper}
variable {n:Nat} {A:Fr n} {D:List Deferred} {l:List (Nat × Value)} {w:World}
variable {d:Tmp} {ty:TypeId} {ps:String} {af:Array Edge}
end
end Go.Wk
namespace Go.Proofs.YtfadcpfgenjbeaaGreat
open Go Go.Wk Go.RowKit
set_option linter.unusedVariables false
set_option linter.unusedSimpArgs false
attribute [local irreducible] wpList wpQuiet wpStill eF Code.wp Calls bodyPost
variable {w:World} {Q:Nat->Prop}
def oc (f:ey) (s:Ly):Nat × ey :=
  if(uY f.off f.nodes s).2≠0 then((uY f.off f.nodes s).2,f)else match dU f.nodes s with
  | none=>(0,f)
  | some x=>if(gw f).1≠0 then gw f else(0,{(gw f).2 with nodes:=gY f.nodes x.id fun z=>{z with fl:={b:=x.fl.b,safe:=x.fl.b}}})
section
variable {f m:ey} {s t:Ly} {c e:Nat} {o:Option Nat} {x y:gJ}
theorem aiw (h:uY f.off f.nodes s=(o,c)) (a:c≠0):oc f s=(c,f):=by unfold oc;rw[h];rw[if_pos a]
theorem aiv (h:oz f.off [s]=0/\dU f.nodes s=some x) (hb:gw f=(c,m)) (a:c≠0):oc f s=(c,m):=by unfold oc;rw[wH h,h.2,hb];simp only[ne_eq,not_true_eq_false,if_false];rw[if_pos a]
theorem aeu (h:oz f.off [s]=0/\dU f.nodes s=some x) (hb:gw f=(c,m)) (a:c=0):oc f s=(0,{m with nodes:=gY f.nodes x.id fun z=>{z with fl:={b:=x.fl.b,safe:=x.fl.b}}}):=by subst a;unfold oc;rw[wH h,h.2,hb];simp only[ne_eq,not_true_eq_false,if_false]
end
theorem YG (I:Up w Q) {e:Nat} {v:Value} {A:Value} (f:ey) (B:bK w e (ey.cells f v A) 97) (n0:¬Q e) (ag:ey.ok f) (K:Ow BL 143 (fun _=>True) w Q v f.nodes) (L:Ow qh 153 (fun _=>True) w Q A f.pend) (ay:ji 148 203 (fun _=>True) w Q f.nodes) (s:Ly) (a2:s.length<=1000000) (a3:True) (p2:f.nodes.length<=1000000) (p3:f.pend.length<=1000000) (p4:∀x∈f.nodes,x.fl.b.length<=1000000) :
  Calls Zp 52 #[.pointer (some ⟨e,0,none⟩),(str s)] w fun ad Y=>∃aj:Nat,∃X:ey,∃aB:Value,∃aC:Value,∃Z:Nat->Prop,ad = .returned (iZ aj)/\Md (e :: (ah v).toList ++ ((ah A).toList ++ (mL f.nodes))) w Y/\iQ w Y Q Z/\aj<9223372036854775808/\bK Y e (ey.cells X aB aC) 97/\¬Z e/\ey.ok X/\Ow BL 143 (aX (e :: (ah v).toList ++ ((ah A).toList ++ (mL f.nodes))) w) Y Z aB X.nodes/\Ow qh 153 (aX (e :: (ah v).toList ++ ((ah A).toList ++ (mL f.nodes))) w) Y Z aC X.pend/\ji 148 203 (aX (e :: (ah v).toList ++ ((ah A).toList ++ (mL f.nodes))) w) Y Z X.nodes/\oc f s=(aj,X):=by
 have N:=n0;have aG:aX (e :: (ah v).toList ++ ((ah A).toList ++ (mL f.nodes))) w e:=.inl Oj;have K:=K.cT (lo':=aX (e :: (ah v).toList ++ ((ah A).toList ++ (mL f.nodes))) w)<|fun b u=>.inl (by simp[u]);have L:=L.cT (lo':=aX (e :: (ah v).toList ++ ((ah A).toList ++ (mL f.nodes))) w)<|fun b u=>.inl (by simp[u]);have m:=ay.reB (lo':=aX (e :: (ah v).toList ++ ((ah A).toList ++ (mL f.nodes))) w)<|fun b u=>.inl (by simp[u]);have F:=Md.refl (e :: (ah v).toList ++ ((ah A).toList ++ (mL f.nodes))) w;have aR:=I;have ab:∀b,Q b->Q b:=fun _ h=>h;have aa:∀b,Q b->b<w.heap.size->Q b:=fun _ h _=>h;refine enter (n:=25) Tryz.func52 q q q fun aZ=>ns ?_;have aQ:=m.ltB;refine an q<|ns<|m2 q q<|Rz abN q (sM I f B N ag (K.cT<|fun _ _=>trivial) (L.cT<|fun _ _=>trivial) s (by exact m.cT<|fun _ _=>trivial) Xx) ?_;rintro ad a5 ⟨aV,T,rfl,J,aT,al⟩;obtain⟨K,L,B,m,I,F⟩:=k6 J K L B m I F;refine mv q<|se q q<|se q q<|cV q<|an q<|aH<|nM q<|su (fD (a:=T) (b:=0) q q)<|nt ?_;refine cJ q (fun M=>?_)<|fun M=>?_
 ·(first|(have G:=dq M)|(have G:=dF<|ir M)|(have G:=ir M)|(have G:=M));refine aI ?_;obtain⟨S,O,aJ,aw⟩:=wI al Xx;subst aJ;have a0:=p4 _ O;refine mv q<|Rz afj q (ud I f B N ag (K.cT<|fun _ _=>trivial)<|L.cT<|fun _ _=>trivial) ?_;rintro ad aP ⟨c,H,aL,aN,r,rfl,J,⟨ak,af,au⟩,aU,V,W,av,E,C,ai⟩;have ae:∀i∈(e :: (ah v).toList ++ ((ah A).toList)),aX (e :: (ah v).toList ++ ((ah A).toList ++ (mL f.nodes))) w i:=bX aG<|dx (rF K)<|rF L;have g:∀i∈(e :: (ah v).toList ++ ((ah A).toList)),¬Q i:=bX N<|dx (rN K)<|rN L;have o:=m.apF B K L Xz Xz Xz Xz Xz Xz;have E:=E.cT<|Sy E;have E:=E.cT<|Sz E ae<|aX.new F;have C:=C.cT<|Sy C;have C:=C.cT<|Sz C ae<|aX.new F;have ab:=tT ab af;have aa:=Sx ak aa F.size;have g:=fun i hi aO=>g i hi<|af i aO;have m:=(m.sub ak af).md J o g;have F:=F.step J ae;have I:=au;have B:=V;have N:=W;have be:=wA ai;have m:ji 148 203 (aX (e :: (ah v).toList ++ ((ah A).toList ++ (mL f.nodes))) w) aP r H.nodes:=(by rw[be.1];exact m);have O:S∈H.nodes:=(by rw[be.1];exact O);refine an q<|aH<|nM q<|su (fU (a:=c) (b:=0) q q)<|nt ?_;refine cJ q (fun j=>?_)<|fun j=>?_
  ·(first|(have D:=dq j)|(have D:=dF<|ir j)|(have D:=ir j)|(have D:=j));refine nM q<|ar q<|aS ?_;exact gB (iZ c) q ⟨c,H,_,_,r,q,F,⟨aa,ab,I⟩,Yy,B,N,av,E,C,m,(aiv aw ai Xx)⟩
  (first|(have D:=dF j)|(have D:=dq<|iq j)|(have D:=iq j)|(have D:=j));refine aM<|aA<|nM q<|sn q<|sf q nC ?_;obtain⟨aW,aY,l,R,t,az⟩:=m.bE O;refine su ((aD q tu (m.get O).1 q).to (b:=(.pointer<|some ⟨S.no.kI,0,none⟩)) q)<|Rz aln q (aaj I S.fl l R t az Xx) ?_;rintro ad aE ⟨a1,a4,a6,rfl,J,u,_,ao,ap,aK⟩;subst aK;have k:=m;have d:=l;have aq:=R;have g:∀b∈[S.no.kI],¬r b:=(by intro b u;rw[List.mem_singleton]at u;subst u;exact aq);have B:=B.md J (by rw[List.mem_singleton];exact oF B d Xz);have E:=E.md J (fun b u=>by rw[List.mem_singleton];exact E.fV d Xz b u) g;have C:=C.md J (fun b u=>by rw[List.mem_singleton];exact C.fV d Xz b u) g;have I:=I.md J;have F:=F.step J<|bX (k.all _ O).2.2.2.2.2 all_nil;have am:=k.aky O Xz J u ao ap;clear k d u aq ao ap;obtain⟨p,U⟩:∃y,y=({H with nodes:=gY H.nodes S.id (fun z=>{z with fl:={b:=S.fl.b,safe:=S.fl.b}})}:ey):=⟨_,q⟩;have B:bK aE e (ey.cells p aL aN) 97:=(by rw[U];exact B);have aF:ey.ok p:=(by rw[U];exact av);have E:=TM E (show p.nodes.map (·.id)=H.nodes.map (·.id)from by rw[U];exact p6<|fun _=>rfl);rw[show H.pend=p.pend by rw[U]]at C;have m:ji 148 203 (aX (e :: (ah v).toList ++ ((ah A).toList ++ (mL f.nodes))) w) aE r p.nodes:=(by rw[U];exact am);refine nt<|ns<|ar q ?_;exact gB (iN 0) q ⟨0,p,_,_,r,q,F,⟨aa,ab,I⟩,Yy,B,N,aF,E,C,m,(by rw[aeu aw ai Xx];rw[U,be.1])⟩
 (first|(have G:=dF M)|(have G:=dq<|iq M)|(have G:=iq M)|(have G:=M));refine aM<|aA<|aH<|nM q<|su (fU (a:=T) (b:=0) q q)<|nt ?_;refine cJ q (fun j=>?_)<|fun j=>?_
 ·(first|(have D:=dq j)|(have D:=dF<|ir j)|(have D:=ir j)|(have D:=j));refine nM q<|ar q<|aS ?_;exact gB (iZ T) q ⟨T,f,_,_,Q,q,F,⟨aa,ab,I⟩,Yy,B,N,ag,K,L,m,(aiw al Xx)⟩
 (first|(have D:=dF j)|(have D:=dq<|iq j)|(have D:=iq j)|(have D:=j));exfalso;omega
section
variable {e:TypeId} {w w':World} {b cap:Nat} {xs:List gJ}
end
theorem alx:fG Zp 97=some [(0,1),(1,1),(2,1),(3,1),(4,1)]:=Xj
theorem z97:dX Zp 97=some [.int .i64 0,.int .i64 0,.bool false,.slice none 0 0,.slice none 0 0]:=Xj
theorem ab8 (f:Up w Q) (r:Int) (I:(-9223372036854775808<=r/\r<9223372036854775808)) (J:4096<=r) (K:r<=1048576) :
  Calls Zp 11 #[(iZ (r:Int))] w fun B g=>∃j:Nat,∃v:Value,∃x:Value,∃e:ey,∃m:Nat,∃i:Nat->Prop,B = .returned (.tuple #[.pointer (some ⟨j,0,none⟩),(iZ m)])/\Md [] w g/\iQ w g Q i/\bK g j (ey.cells e v x) 97/\¬i j/\w.heap.size<=j/\ey.ok e/\Ow BL 143 (aX [] w) g i v e.nodes/\Ow qh 153 (aX [] w) g i x e.pend/\m<9223372036854775808/\(({room:=r,iV:=-1,off:=false,nodes:=[],pend:=[]}:ey),(0:Nat))=(e,m):=by
 have W:=f;refine nR (n:=13) [] f Tryz.func11 q q q fun E d R l=>ns<|cV q<|an q<|aH<|nM q<|su (oA (a:=r) (b:=4096) q q)<|mv q ?_;refine ck (t:=6) q (fun c=>?_)<|fun c=>?_
 ·(first|(have C:=dq c)|(have C:=dF<|ir c)|(have C:=ir c)|(have C:=c));exfalso;omega
 (first|(have C:=dF c)|(have C:=dq<|iq c)|(have C:=iq c)|(have C:=c));refine sg c (aP q)<|sg c (qb (a:=r) (b:=1048576) q q)<|su (aU q c q)<|nt ?_;refine cJ q (fun G=>?_)<|fun G=>?_
 ·(first|(have D:=dq G)|(have D:=dF<|ir G)|(have D:=ir G)|(have D:=G));exfalso;omega
 (first|(have D:=dF G)|(have D:=dq<|iq G)|(have D:=iq G)|(have D:=G));refine aM<|aA<|nM q<|su (dI (us:=[[(iZ (r:Int))],[(iZ ((-1):Int))]]) (cs:=(ey.cells (({room:=r,iV:=(-1),off:=false,nodes:=[],pend:=[]}:ey)) SN SN)) [(0,0,1),(1,1,1)] z97 alx q q Fz Fz q q)<|e7 (cs:=(ey.cells (({room:=r,iV:=(-1),off:=false,nodes:=[],pend:=[]}:ey)) SN SN)) q q ?_;intro o F h z P y;obtain⟨V,T,u,H,p⟩:=oI f h z P;have R:=tT R u;have l:=Sx T l d.size;have h:=lv d.size h;have d:=d.k P;have f:=p;refine cV q<|ar q ?_;exact zK [(.pointer<|some ⟨o,0,none⟩),(iN 0)] q ⟨o,_,_,(({room:=r,iV:=(-1),off:=false,nodes:=[],pend:=[]}:ey)),0,V,q,d,⟨l,R,f⟩,y,H,h,(by first|assumption|exact⟨Yw,Yw⟩),(by first|exact Ow.nil _ _ _ _ _|(simp only[];exact Ow.nil _ _ _ _ _)),(by first|exact Ow.nil _ _ _ _ _|(simp only[];exact Ow.nil _ _ _ _ _)),Yy,q⟩
def cIn (l:List gJ) (c:FT):Prop:=c.n∈l.map (·.id)/\∀o,c.aN=some o->o∈l.map (·.id)
structure FQ (k:Nat) (f:ey):Prop where
  n:f.nodes.length<=k
  p:f.pend.length<=k
  fl:∀x∈f.nodes,x.fl.b.length<=32768/\x.fl.safe.length<=32768
  ch:∀c∈f.pend,cIn f.nodes c
  room:0<=f.room
  nd:(f.nodes.map (·.id)).Nodup
theorem ae0 {k:Nat}:∀{l:List gJ},(∀x∈l,x.fl.b.length<=32768/\x.fl.safe.length<=32768)->l.length<=k->(eV l).2<=k*32768
  | [],_,_=>Nat.zero_le _
  | x :: l,h,hl=>by
    obtain⟨k,rfl⟩:∃d,k=d+1:=⟨k-1,by simp at hl;omega⟩;have:=ae0 (k:=k) (l:=l) (fun y c=>h y<|List.mem_cons_of_mem _ c) (by simpa using hl);have a:=(h x List.mem_cons_self).1;rw[eV,Nat.succ_mul];split
    · exact Nat.add_le_add this a
    · exact lv this<|Nat.le_add_right _ _
theorem FQ.up {k a:Nat} {f:ey} (h:FQ k f) (hk:k<=a):FQ a f:=⟨lv h.n hk,lv h.p hk,h.fl,h.ch,h.room,h.nd⟩
theorem cIn.of {l a:List gJ} {c:FT} (h:cIn l c) (hi:∀b∈l.map (·.id),b∈a.map (·.id)):cIn a c:=⟨hi _ h.1,fun o d=>hi _<|h.2 o d⟩
theorem BN {k:Nat} {f m:ey} {r:Nat} (h:FQ k f) (e:gw f=(r,m)):FQ k m:=by have b:=wA e;exact⟨by rw[b.1];exact h.n,by rw[b.2.1];exact h.p,by rw[b.1];exact h.fl,by rw[b.1,b.2.1];exact h.ch,by rw[b.2.2];exact h.room,by rw[b.1];exact h.nd⟩
theorem ae4 {k:Nat} {f:ey} (h:FQ k f):FQ k (gw f).2:=BN (r:=(gw f).1) h q
theorem ai4 {k:Nat} {f:ey} {i:Nat} {g:gJ->gJ} {p:List FT} (h:FQ k f) (e:∀z,(g z).id=z.id) (hs:∀z∈f.nodes,(g z).fl.b.length<=32768/\(g z).fl.safe.length<=32768) (j:∀c∈p,c∈f.pend\/cIn f.nodes c) (m:p.length<=k+1):FQ (k+1) {f with nodes:=gY f.nodes i g,pend:=p}:=by
  have a:=p6 (l:=f.nodes) (i:=i) e;refine⟨?_,m,fun x d=>?_,fun c D=>?_,h.room,?_⟩
  · have:=congrArg List.length a;simp only[List.length_map]at this;show(gY f.nodes i g).length<=_;have:=h.n;omega
  · rcases OP d with⟨z,B,_,rfl⟩|⟨B,_⟩
    · exact hs z B
    exact h.fl x B
  · have:cIn f.nodes c:=(j c D).elim (h.ch c) id
    exact this.of fun b C=>by show b∈(gY f.nodes i g).map _;rw[a];exact C
  show((gY f.nodes i g).map _).Nodup;rw[a];exact h.nd
theorem agk {k:Nat} {f m:ey} {s:Ly} {i j r:Nat} (h:FQ k f) (t:i∉f.nodes.map (·.id)\/r≠0) (e:mG f s i j=(r,m)):FQ (k+1) m:=by
  unfold mG at e;split at e
  · cases e;exact h.up<|Nat.le_succ _
  split at e
  · cases e;exact h.up<|Nat.le_succ _
  split at e
  · cases e;exact h.up<|Nat.le_succ _
  split at e
  · exact(BN h e).up<|Nat.le_succ _
  cases e;have D:=mH f;refine⟨?_,?_,fun x d=>?_,fun c a=>?_,by show 0<=(gw f).2.room;rw[D.2.2];exact h.room,?_⟩
  · simp;exact h.n
  · simp;exact h.p
  · rcases List.mem_append.1 d with d|d
    · exact h.fl x d
    rw[List.mem_singleton]at d;subst d;simp
  · rcases List.mem_append.1 a with a|a
    · exact(h.ch c a).of fun b D=>by rw[List.map_append];exact List.mem_append.2<|.inl D
    rw[List.mem_singleton]at a;subst a;exact⟨by simp,fun o l=>by cases l⟩
  rw[List.map_append,List.nodup_append];refine⟨h.nd,by simp,fun u g b C=>?_⟩;simp only[List.map_cons,List.map_nil,List.mem_singleton]at C;subst C;rintro rfl;exact t.elim (fun h=>h g)<|fun h=>h q
theorem QY {k:Nat} {f:ey} {i:Nat} {g:gJ->gJ} {p:List FT} (h:FQ k f) (d:∀z,(g z).id=z.id) (hs:∀z∈f.nodes,(g z).fl.b.length<=32768/\(g z).fl.safe.length<=32768) (e:∀c∈p,c∈f.pend\/cIn f.nodes c) (j:p.length<=k+1):FQ (k+1) {(gw f).2 with nodes:=gY f.nodes i g,pend:=p}:=by have a:=mH f;have:=ai4 (i:=i) (g:=g) (p:=p) (ae4 h) d (by rw[a.1];exact hs) (by rw[a.1,a.2.1];exact e) j;rw[a.1]at this;exact this
theorem ae5 {k:Nat} {f m:ey} {s:Ly} {p:Int} {b:Ly} {j r:Nat} (h:FQ k f) (e:je f s p b j=(r,m)):FQ (k+1) m:=by
  unfold je at e;split at e
  · cases e;exact h.up<|Nat.le_succ _
  split at e
  · cases e;exact h.up<|Nat.le_succ _
  rename_i x hx;have E:=(ul hx).1;split at e
  · cases e;exact h.up<|Nat.le_succ _
  split at e
  · cases e;exact h.up<|Nat.le_succ _
  split at e
  · exact(BN h e).up<|Nat.le_succ _
  cases e;have A:=ae7 (f:=x.fl) (p:=p) (x:=b) (e:=(zV x.fl p b).1) (y:=(zV x.fl p b).2) rfl;have D:=h.fl x E;have B:=mH f;have:=QY (i:=x.id) (g:=fun z=>{z with no:={z.no with kI:=j},fl:=(zV x.fl p b).2}) (p:=f.pend) h (fun _=>rfl) (fun z F=>⟨by have:=A.1;show(zV x.fl p b).2.b.length<=_;omega,by show(zV x.fl p b).2.safe.length<=_;rw[A.2];exact D.2⟩) (fun c C=>.inl C)<|Nat.le_succ_of_le h.p;rw[<- B.2.1]at this;exact this
theorem agl {k:Nat} {f m:ey} {s:Ly} {r:Nat} (h:FQ k f) (e:oc f s=(r,m)):FQ (k+1) m:=by
  unfold oc at e;split at e
  · cases e;exact h.up<|Nat.le_succ _
  split at e
  · cases e;exact h.up<|Nat.le_succ _
  rename_i x hx;have D:=(ul hx).1;split at e
  · exact(BN h e).up<|Nat.le_succ _
  cases e;have A:=h.fl x D;have B:=mH f;have:=QY (i:=x.id) (g:=fun z=>{z with fl:={b:=x.fl.b,safe:=x.fl.b}}) (p:=f.pend) h (fun _=>rfl) (fun z E=>⟨A.1,A.1⟩) (fun c C=>.inl C)<|Nat.le_succ_of_le h.p;rw[<- B.2.1]at this;exact this
def MQ (b:Nat) (v0 v1:Value) (l:List gJ):List Nat:=b :: (ah v0).toList ++ ((ah v1).toList ++ mL l)
def lK (k:Nat) (fp:List Nat) (w:World) (Q:Nat->Prop) (b:Nat) (f:ey):Prop :=
  ∃v0 v1,fp=MQ b v0 v1 f.nodes/\bK w b (ey.cells f v0 v1) 97/\¬Q b/\ey.ok f/\Ow BL 143 (fun _=>True) w Q v0 f.nodes/\Ow qh 153 (fun _=>True) w Q v1 f.pend/\ji 148 203 (fun _=>True) w Q f.nodes/\FQ k f
section
variable {k:Nat} {fp S:List Nat} {w w':World} {Q Q':Nat->Prop} {b:Nat} {f:ey}
theorem lK.wf (h:lK k fp w Q b f):FQ k f:=by obtain⟨_,_,_,_,_,_,_,_,_,h⟩:=h;exact h
theorem lK.up {a:Nat} (h:lK k fp w Q b f) (hk:k<=a):lK a fp w Q b f:=by obtain⟨i,j,c,d,C,D,e,g,G,H⟩:=h;exact⟨i,j,c,d,C,D,e,g,G,H.up hk⟩
theorem lK.lt (h:lK k fp w Q b f):∀x∈fp,x<w.heap.size/\¬Q x:=by
  obtain⟨I,J,rfl,E,F,G,B,C,D,H⟩:=h;intro x A;unfold MQ at A;simp only[List.mem_append,List.mem_cons,Option.mem_toList]at A;rcases A with(rfl|A)|A|A
  · exact⟨E.lt,F⟩
  · exact⟨B.lt x A,(B.2 x A).2⟩
  · exact⟨C.lt x A,(C.2 x A).2⟩
  exact⟨D.ltB x A,D.nQB x A⟩
theorem lK.md (h:lK k fp w Q b f) (m:Md S w w') (c:∀x∈fp,x∉S) (hs:∀b∈S,¬Q b):lK k fp w' Q b f:=by obtain⟨i,j,rfl,C,D,e,g,G,d,H⟩:=h;refine⟨i,j,q,C.md m<|c _ (by simp[MQ]),D,e,g.md m (fun x a=>c _ (by simp[MQ,a])) hs,G.md m (fun x a=>c _ (by simp[MQ,a])) hs,d.md m (d.apB fun x a=>c _ (by simp[MQ,a])) hs,H⟩
theorem lK.o (h:lK k fp w Q b f) (m:Md [] w w'):lK k fp w' Q b f:=h.md m (fun _ _=>List.not_mem_nil)<|fun _ hb=>absurd hb List.not_mem_nil
instance alT:Tp w w' (lK k fp w Q b f) (lK k fp w' Q b f):=⟨fun m h=>h.o m⟩
theorem lK.sub (h:lK k fp w Q b f) (s:∀b,Q b->b<w.heap.size->Q' b) (t:∀b,Q' b->Q b):lK k fp w Q' b f:=by obtain⟨J,K,A,B,C,D,E,F,G,H⟩:=h;exact⟨J,K,A,B,fun I=>C<|t _ I,D,E.sub s t,F.sub s t,G.sub s t,H⟩
theorem lK.jd {v:Value} (h:lK k fp w Q b f) (g:∀b,Q b->Q' b) (e:∀b,Q' b->Q b\/ah v=some b) (d:∀x,ah v=some x->x∉fp):lK k fp w Q' b f:=by obtain⟨o,p,rfl,D,i,j,G,H,C,l⟩:=h;refine⟨o,p,q,D,fun m=>(e _ m).elim i<|fun n=>d _ n (by simp[MQ]),j,G.jd g e<|fun x c a=>d x (by simpa using a) (by simp[MQ,c]),H.jd g e<|fun x c a=>d x (by simpa using a) (by simp[MQ,c]),C.jd g e<|C.apB fun x c a=>d x (by simpa using a) (by simp[MQ,c]),l⟩
theorem ah6 {b:Nat} {c d:Value} {l:List gJ} {S:List Nat} {w:World} (hb:b∈S) (e:∀x,ah c=some x->aX S w x) (h1:∀x,ah d=some x->aX S w x) (f:∀x∈mL l,aX S w x):∀x∈MQ b c d l,x∈S\/w.heap.size<=x:=by
  intro x a;unfold MQ at a;simp only[List.mem_append,List.mem_cons,Option.mem_toList]at a;rcases a with(rfl|a)|a|a
  · exact .inl hb
  · exact e x a
  · exact h1 x a
  exact f x a
theorem lK.back {a c:Value} {m:ey} (h:bK w' b (ey.cells m a c) 97) (j:¬Q' b) (i:ey.ok m) (f:Ow BL 143 (aX S w) w' Q' a m.nodes) (g:Ow qh 153 (aX S w) w' Q' c m.pend) (e:ji 148 203 (aX S w) w' Q' m.nodes) (hb:b∈S) (wf:FQ k m) :
    lK k (MQ b a c m.nodes) w' Q' b m/\∀x∈MQ b a c m.nodes,x∈S\/w.heap.size<=x :=
  ⟨⟨a,c,q,h,j,i,f.cT fun _ _=>trivial,g.cT fun _ _=>trivial,e.cT fun _ _=>trivial,wf⟩,ah6 hb (Sy f) (Sy g) e.loB⟩
end
def RB (k:Nat) (fp:List Nat) (w:World) (Q:Nat->Prop) (b:Nat) (w':World) (G:ey->Prop):Prop :=
  ∃m fp' Q',Md fp w w'/\iQ w w' Q Q'/\(∀x∈fp',x∈fp\/w.heap.size<=x)/\lK k fp' w' Q' b m/\G m
section
variable {k:Nat} {fp:List Nat} {w:World} {Q:Nat->Prop} {b:Nat} {f:ey}
theorem KP (b:Nat) (a c:Value) (l:List gJ):b∈MQ b a c l:=by simp[MQ]
theorem lK.tot (h:FQ k f) (hk:k<=100000):(eV f.nodes).2<=1000000000000/\f.nodes.length<=1000000/\f.pend.length<=1000000/\(∀x∈f.nodes,x.fl.b.length<=1000000)/\(∀x∈f.nodes,x.fl.safe.length<=1000000)/\(∀x∈f.nodes,x.fl.b.length<=1000000/\x.fl.safe.length<=1000000):=by have B:=ae0 h.fl h.n;have C:k*32768<=100000*32768:=Nat.mul_le_mul_right _ hk;have D:=h.n;have E:=h.p;exact⟨by omega,by omega,by omega,fun x A=>by have:=(h.fl x A).1;omega,fun x A=>by have:=(h.fl x A).2;omega,fun x A=>by have:=h.fl x A;omega⟩
theorem acw {m:ey} {s:Ly} {i j r:Nat} (e:mG f s i j=(r,m)) (a:(m.nodes.map (·.id)).Nodup):i∉f.nodes.map (·.id)\/r≠0:=by
  unfold mG at e;split at e
  · cases e;exact .inr Xz
  split at e
  · rename_i h _;cases e;exact .inr h
  split at e
  · cases e;exact .inr Xz
  split at e
  · rename_i h;rw[e]at h;exact .inr h
  cases e;refine .inl fun b=>?_;rw[List.map_append,List.nodup_append]at a;exact a.2.2 i b i Oj q
theorem ajX (I:Up w Q) (B:lK k fp w Q b f) (s:Ly) (F:s.length<=1000000) (hk:k<=100000) :
    Calls Zp 30 #[.pointer (some ⟨b,0,none⟩),str s] w fun e g=>∃r:Nat,e = .returned (.int .i64 r)/\r<9223372036854775808/\RB (k+1) fp w Q b g fun m=>∃i E,mG f s i E=(r,m):=by
  obtain⟨W,A,rfl,o,x,y,P,R,p,a⟩:=B;obtain⟨T,z,V,J,K,L⟩:=lK.tot a hk;refine(YF I f o x y P R p s F T z V).mono ?_;rintro e g ⟨r,m,c,d,l,rfl,t,u,v,G,n,H,h,j,D,C⟩;have:=lK.back (k:=k+1) G n H h j D (KP b W A f.nodes)<|agk a (acw C D.ids) C;exact⟨r,q,v,m,_,l,t,u,this.2,this.1,_,_,C⟩
theorem TI (O:Up w Q) (M:lK k fp w Q b f) (s:Ly) (p:Int) (K:-9223372036854775808<=p/\p<9223372036854775808) {g:Value} {x:Ly} (L:Ls dh w Q g x) (N:s.length<=1000000) (hk:k<=100000) :
    Calls Zp 34 #[.pointer (some ⟨b,0,none⟩),str s,.int .i64 (p:Int),g] w fun a h=>∃r:Nat,a = .returned (.int .i64 r)/\r<9223372036854775808/\RB (k+1) fp w Q b h fun m=>∃e,je f s p x e=(r,m):=by
  obtain⟨I,J,rfl,t,A,B,P,R,u,D⟩:=M;obtain⟨T,E,V,W,F,S⟩:=lK.tot D hk;refine(S9 O f t A B P R u s p K L N T E V W F).mono ?_;rintro a h ⟨r,m,c,d,l,rfl,v,y,z,n,o,H,i,j,G,e,C⟩;have:=lK.back (k:=k+1) n o H i j G (KP b I J f.nodes)<|ae5 D C;exact⟨r,q,z,m,_,l,v,y,this.2,this.1,_,C⟩
theorem acI (E:Up w Q) (A:lK k fp w Q b f) (s:Ly) (B:s.length<=1000000) (hk:k<=100000) :
    Calls Zp 52 #[.pointer (some ⟨b,0,none⟩),str s] w fun a e=>∃r:Nat,a = .returned (.int .i64 r)/\r<9223372036854775808/\RB (k+1) fp w Q b e fun m=>oc f s=(r,m):=by
  obtain⟨W,z,rfl,n,v,x,P,R,o,D⟩:=A;obtain⟨F,T,y,V,I,J⟩:=lK.tot D hk;refine(YG E f n v x P R o s B trivial T y V).mono ?_;rintro a e ⟨r,m,c,d,i,rfl,p,t,u,j,l,H,g,h,G,C⟩;have:=lK.back (k:=k+1) j l H g h G (KP b W z f.nodes)<|agl D C;exact⟨r,q,u,m,_,i,p,t,this.2,this.1,C⟩
theorem alq (o:Up w Q) (m:lK k fp w Q b f) (s:Ly) (n:s.length<=1000000) (hk:k<=100000) :
    Calls Zp 22 #[.pointer (some ⟨b,0,none⟩),str s] w fun l e=>∃d:Value,∃c:List UInt8,∃a:Nat,l = .returned (.tuple #[d,(.int .i64 a)])/\Md [] w e/\Ls dh e Q d c/\a<9223372036854775808/\KB f.off f.nodes s=(c,a):=by
  obtain⟨H,p,rfl,g,C,j,D,i,h,G⟩:=m;exact ab4 o f g C j D i s h n (lK.tot G hk).2.2.2.1
theorem alr (m:Up w Q) (j:lK k fp w Q b f) (s:Ly) (l:s.length<=1000000) :
    Calls Zp 32 #[.pointer (some ⟨b,0,none⟩),str s] w fun i n=>∃a:Nat,∃c:Nat,i = .returned (.tuple #[(.int .i64 a),(.int .i64 c)])/\Md [] w n/\a<9223372036854775808/\c<9223372036854775808/\AB f.off f.nodes s=(a,c):=by
  obtain⟨G,H,rfl,d,C,h,D,g,e,o⟩:=j;exact ab6 m f d C h D g s e l
theorem agT (j:Up w Q) (i:lK k fp w Q b f) (hk:k<=100000) :
    Calls Zp 44 #[.pointer (some ⟨b,0,none⟩)] w fun h l=>∃a:Int,h = .returned (.int .i64 (a:Int))/\Md [] w l/\(-9223372036854775808<=a/\a<9223372036854775808)/\nq f=a:=by
  obtain⟨H,m,rfl,d,D,G,e,g,C,c⟩:=i;exact YE j f d D G e g C (lK.tot c hk).1 c.room
theorem als (i:Up w Q) (h:lK k fp w Q b f) :
    Calls Zp 51 #[.pointer (some ⟨b,0,none⟩)] w fun g j=>∃a:Bool,g = .returned (.bool a)/\Md [] w j/\f.off=a:=by
  obtain⟨G,H,rfl,c,d,e,C,D,l,m⟩:=h;exact ab9 i f c d e C D
theorem ajY (t:Up w Q) (r:Int) (n:-9223372036854775808<=r/\r<9223372036854775808) (p:4096<=r) (s:r<=1048576) :
    Calls Zp 11 #[.int .i64 (r:Int)] w fun f c=>∃o g b,f = .returned (.tuple #[.pointer (some ⟨o,0,none⟩),(.int .i64 ((0:Nat):Int))])/\Md [] w c/\iQ w c Q b/\(∀x∈g,w.heap.size<=x)/\lK 0 g c b o {room:=r,iV:=-1,off:=false,nodes:=[],pend:=[]}:=by
  refine(ab8 t r n p s).mono ?_;rintro f c ⟨o,D,e,u,v,b,rfl,l,m,i,j,H,G,d,C,_,k⟩;cases k;refine⟨o,MQ o D e [],b,q,l,m,?_,⟨D,e,q,i,j,G,d.cT fun _ _=>trivial,C.cT fun _ _=>trivial,ji.nil _ _ _ _ _,⟨Nat.le_refl _,Nat.le_refl _,fun x a=>absurd a List.not_mem_nil,fun x a=>absurd a List.not_mem_nil,by show 0<=r;omega,List.nodup_nil⟩⟩⟩;intro x a;unfold MQ at a;simp only[List.mem_append,List.mem_cons,Option.mem_toList]at a;rcases a with(rfl|a)|a|a
  · exact H
  · exact(d.2 x a).1.elim (fun h=>absurd h List.not_mem_nil) id
  · exact(C.2 x a).1.elim (fun h=>absurd h List.not_mem_nil) id
  exact absurd a (by simp[mL])
end
structure AK where
  fs:ey
  wr:js
def qm (wb k:Nat) (fp:List Nat) (w:World) (Q:Nat->Prop) (b:Nat) (x:AK):Prop :=
  ∃fq v,fp=wb :: fq/\lK k fq w Q b x.fs/\wb∉fq/\bK w wb (x.wr.cells v) 102/\¬Q wb/\x.wr.fs=b/\js.ok x.wr/\Pt qP 107 w Q v x.wr.d
def RE (wb k:Nat) (fp:List Nat) (w:World) (Q:Nat->Prop) (b:Nat) (w':World) (G:AK->Prop):Prop :=
  ∃m fp' Q',Md fp w w'/\iQ w w' Q Q'/\(∀x∈fp',x∈fp\/w.heap.size<=x)/\qm wb k fp' w' Q' b m/\G m
section
variable {wb k:Nat} {fp S:List Nat} {w w':World} {Q Q':Nat->Prop} {b:Nat} {x:AK}
theorem qm.wf (h:qm wb k fp w Q b x):FQ k x.fs:=by obtain⟨_,_,_,h,_⟩:=h;exact h.wf
theorem qm.up {a:Nat} (h:qm wb k fp w Q b x) (hk:k<=a):qm wb a fp w Q b x:=by obtain⟨c,v,d,C,D⟩:=h;exact⟨c,v,d,C.up hk,D⟩
theorem qm.lt (h:qm wb k fp w Q b x):∀y∈fp,y<w.heap.size/\¬Q y:=by
  obtain⟨E,v,rfl,B,F,C,D,_⟩:=h;intro y A;rcases List.mem_cons.1 A with rfl|A
  · exact⟨C.lt,D⟩
  exact B.lt y A
theorem qm.md (h:qm wb k fp w Q b x) (m:Md S w w') (a:∀y∈fp,y∉S) (hs:∀b∈S,¬Q b):qm wb k fp w' Q b x:=by obtain⟨c,v,rfl,d,C,D,e,f,G,H⟩:=h;exact⟨c,v,q,d.md m (fun y g=>a y (by simp[g])) hs,C,D.md m<|a wb Oj,e,f,G,H.md m hs⟩
theorem qm.o (h:qm wb k fp w Q b x) (m:Md [] w w'):qm wb k fp w' Q b x:=h.md m (fun _ _=>List.not_mem_nil)<|fun _ hb=>absurd hb List.not_mem_nil
instance alW:Tp w w' (qm wb k fp w Q b x) (qm wb k fp w' Q b x):=⟨fun m h=>h.o m⟩
theorem qm.sub (h:qm wb k fp w Q b x) (s:∀b,Q b->b<w.heap.size->Q' b) (t:∀b,Q' b->Q b):qm wb k fp w Q' b x:=by obtain⟨A,v,rfl,B,C,D,E,F,G,H⟩:=h;exact⟨A,v,q,B.sub s t,C,D,fun I=>E<|t _ I,F,G,H.sub s⟩
end
section
variable {wb k:Nat} {fp:List Nat} {w:World} {Q:Nat->Prop} {b:Nat} {x:AK}
theorem alC (j:Up w Q) (h:qm wb k fp w Q b x) (s:Ly) (i:s.length<=1000000) (hk:k<=100000) :
    Calls Zp 22 #[.pointer (some ⟨b,0,none⟩),str s] w fun g e=>∃d:Value,∃c:List UInt8,∃a:Nat,g = .returned (.tuple #[d,(.int .i64 a)])/\Md [] w e/\Ls dh e Q d c/\a<9223372036854775808/\KB x.fs.off x.fs.nodes s=(c,a):=by
  obtain⟨l,v,rfl,f,C⟩:=h;exact alq j f s i hk
end
theorem akU:cO Zp 32=true:=Xj
theorem ahA:cO Zp 34=true:=Xj
theorem ajE:cO Zp 44=true:=Xj
theorem ahC:cO Zp 52=true:=Xj
theorem qF:aJ Zp 102 0=some 0:=Xj
theorem tf:aJ Zp 102 1=some 1:=Xj
theorem EF:aJ Zp 102 5=some 5:=Xj
theorem IK:iv Zp 35=true:=Xj
def stepW (p:Nat × ey) (g:ey->Nat × ey):Nat × ey:=if p.1≠0 then p else g p.2
theorem kH {p:Nat × ey} {g:ey->Nat × ey} {f:ey} (h:p=(0,f)):stepW p g=g f:=by subst h;rfl
theorem pR {p:Nat × ey} {g:ey->Nat × ey} {c:Nat} {f:ey} (h:p=(c,f)) (a:c≠0):stepW p g=(c,f):=by subst h;exact if_pos a
def nY (f:ey) (s:Ly) (p:Nat) (x:Ly) (i:Nat):Nat × ey:=stepW (je f s (p:Nat) x i) fun m=>oc m s
def QH (f:ey) (s:Ly) (x:Ly) (i j:Nat):Nat × ey :=
  stepW (nY f s (min 512 x.length) (x.drop<|min 512 x.length) i) fun m=>nY m s 0 (x.take<|min 512 x.length) j
def ko (a:Bool) (f:ey) (s:Ly) (x:Ly) (i j:Nat):Nat × ey :=
  if a=true then(8,f)else if(AB f.off f.nodes s).2≠0 then((AB f.off f.nodes s).2,f)else if nq f<(x.length:Int)-((AB f.off f.nodes s).1:Nat)then(15,f)else QH f s x i j
def MS (f0:ey) (s:Ly) (x:Ly) (i:Nat) (f:ey):Prop :=
  (i=0->f=f0)/\(i=1->∃j,nY f0 s (min 512 x.length) (x.drop<|min 512 x.length) j=(0,f))/\(2<=i->∃j q,QH f0 s x j q=(0,f))
theorem agh {α:Type} {a b p:α} {i:Nat} (h:[a,b][i]? = some p):(i=0/\p=a)\/(i=1/\p=b):=by
  match i,h with
  | 0,h=>exact .inl ⟨q,by simpa using h.symm⟩
  | 1,h=>exact .inr ⟨q,by simpa using h.symm⟩
  | i+2,h=>simp at h
theorem MS.next {b f1 ff:ey} {s x part:Ly} {i p j c:Nat} (h:MS b s x i f1) (k:(i=0/\p=min 512 x.length/\part=x.drop (min 512 x.length))\/(i=1/\p=0/\part=x.take (min 512 x.length))) (d:nY f1 s p part j=(c,ff)) :
    (c=0->MS b s x (i+1) ff)/\(c≠0->∃j q,QH b s x j q=(c,ff)):=by
  obtain⟨C,D,l⟩:=h;rcases k with⟨rfl,rfl,rfl⟩|⟨rfl,rfl,rfl⟩
  · have g:=C rfl
    subst g;exact⟨fun a=>by subst a;exact⟨fun h=>by omega,fun _=>⟨j,d⟩,fun h=>by omega⟩,fun a=>⟨j,0,pR d a⟩⟩
  obtain⟨q,f⟩:=D rfl;have e:QH b s x q j=(c,ff):=(kH f).trans d;exact⟨fun a=>by subst a;exact⟨fun h=>by omega,fun h=>by omega,fun _=>⟨q,j,e⟩⟩,fun a=>⟨q,j,e⟩⟩
set_option maxHeartbeats 4000000 in
theorem JQ (v:Up w Q) {F:Nat} {ay:Value} {Y:List Nat} {k:Nat} {f:ey} (m:js) (e:lK k Y w Q m.fs f) (j:bK w F (m.cells ay) 102) (n0:¬Q F) (nf:F∉Y) (al:m.ok) (A:Pt qP 107 w Q ay m.d) {aT:Value} {x:Ly} (h1:Ls dh w Q aT x) (b1:k<=90000) (b2:m.name.length<=1000000) (p2:1<=x.length/\x.length<=1000000) :
  Calls Zp 68 #[.pointer (some ⟨F,0,none⟩),aT] w fun av L=>∃r:Nat,∃bb:ey,∃a5:List Nat,∃ag:Nat->Prop,∃aR:js,av = .returned (iZ r)/\r<9223372036854775808/\Md (F :: Y) w L/\iQ w L Q ag/\(∀y∈a5,y∈F :: Y\/w.heap.size<=y)/\lK (k+4) a5 L ag m.fs bb/\bK L F (aR.cells ay) 102/\¬ag F/\F∉a5/\aR.ok/\Pt qP 107 L ag ay aR.d/\aR={m with waiting:=if r=0 then 0 else m.waiting}/\∃i bv,ko m.dN f m.name x i bv=(r,bb):=by
 have bY:=h1.eJ;have I:=nf;have C:∀x∈Y,aX (F :: Y) w x:=fun x ae=>.inl (by simp[ae]);have J:=n0;have be:aX (F :: Y) w F:=.inl Oj;have s:=Md.refl (F :: Y) w;have bO:=v;have g:∀b,Q b->Q b:=fun _ h=>h;have K:∀b,Q b->b<w.heap.size->Q b:=fun _ h _=>h;refine enter (n:=90) Tryz.func68 q q q fun bd=>ns<|an q<|aH<|nM q<|sn q<|sf q EF<|sl (u:=(.bool m.dN)) q vT j q<|nt ?_;refine cJ q ?_ ?_
 ·intro P;refine ns<|ar q<|aS ?_;exact gB (iN 8) q ⟨8,f,_,_,m,q,Xx,s,⟨K,g,v⟩,C,e.up Xx,j,J,I,al,A,(by rw[if_neg Xx]),⟨0,0,by unfold ko;rw[if_pos P]⟩⟩
 intro P;refine aM<|aA<|aH ?_;have H:=j;refine nL [(0,true),(1,true),(2,true),(3,true),(4,true),(5,true),(6,true),(7,true),(8,false),(9,true),(10,true),(11,true),(12,true)] [13] mixed ?_;intro b3 D;have Z:=D;refine mo q<|my (bN q)<|my (aF q qF)<|mz (fun L M=>(aD q IK (H.o M) q).to (b:=(.pointer<|some ⟨m.fs,0,none⟩)) q)<|mo q<|my (bN q)<|my (aF q tf)<|mz (fun L M=>(aD q mM (H.o M) q).to (b:=(str m.name)) q) ?_;obtain⟨A,j,h1,e,v,s⟩:=k6 D A j h1 e v s;refine jc ?_ rfl;refine Rz akU q (alr v e m.name Xx) ?_;rintro av b4 ⟨a6,aZ,rfl,G,bI,bJ,ap⟩;obtain⟨A,j,h1,e,v,s,Z⟩:=k7 G A j h1 e v s Z;refine aG ⟨q,Z,?_⟩;refine mo q<|my (mQ q q)<|my (mQ q q)<|my (gg q)<|di ?_;refine an q<|aH<|bf<|nM q<|su (fU (a:=aZ) (b:=0) q q)<|cV q<|nt ?_;refine kS q ?_ ?_
 ·intro bm;refine nM q<|ar q<|bS<|aS ?_;exact gB (iZ aZ) q ⟨aZ,f,_,_,m,q,Xx,s,⟨K,g,v⟩,C,e.up Xx,j,J,I,al,A,(by rw[if_neg Xx]),⟨0,0,by unfold ko;rw[if_neg (by simp[P]),ap];simp only;rw[if_pos Xx]⟩⟩
 intro bm;refine nM q<|sn q<|sf q qF<|sl (u:=(.pointer<|some ⟨m.fs,0,none⟩)) q IK j q<|Rz ajE q (agT v e Xx) ?_;rintro av b5 ⟨bg,rfl,G,bL,az⟩;obtain⟨A,j,h1,e,v,s⟩:=k6 G A j h1 e v s;refine mv q<|sL q fM h1.eA<|mv q<|su (iO (a:=((x.length:Nat):Int)) (b:=((a6:Nat):Int)) q q Xx)<|su (oA (a:=bg) (b:=((x.length:Nat):Int)-((a6:Nat):Int)) q q)<|an q ?_;refine kS q ?_ ?_
 ·intro bn;refine ns<|ar q<|bS<|aS ?_;exact gB (iN 15) q ⟨15,f,_,_,m,q,Xx,s,⟨K,g,v⟩,C,e.up Xx,j,J,I,al,A,(by rw[if_neg Xx]),⟨0,0,by unfold ko;rw[if_neg (by simp[P]),ap];simp only;rw[if_neg Xx,az,if_pos Xx]⟩⟩
 intro bn;refine aM<|bG<|aA<|nM q<|sL q fM h1.eA<|su (adU (a:=512) (b:=x.length) q q)<|an q<|aH<|ns<|mv q<|bh [[(iZ ((min 512 x.length:Nat):Int))],[(iN 0)]] wu vH Xz Xz q q Fz Fz q Xz ?_;intro aU b6 bl bH G E;have bi:=v _ bl;obtain⟨A,j,h1,e,v,s⟩:=k6 G A j h1 e v s;have E:=Ls.cL (m:=2) (R:=Q) (T:=qf) (xs:=[min 512 x.length,0]) E ⟨_,_,q,⟨q,Xx⟩,⟨_,_,q,⟨q,Xx⟩,q⟩⟩ q Xz bi;refine sL q wu E.eA<|mv q<|nt<|bf ?_;refine kV (fun(ak:List Nat) (f1:ey) (i:Nat)=>[(49,(iZ i)),(0,(.pointer<|some ⟨F,0,none⟩)),(1,aT),(7,(iZ ((min 512 x.length:Nat):Int))),(47,(.slice (some ⟨aU,0,none⟩) 2 2)),(48,(iZ ((([min 512 x.length,0]).length:Nat):Int)))]) (fun ak f1 i L=>LQ Q w (F :: Y) L fun ag=>lK (k+2*i) ak L ag m.fs f1/\(∀x∈ak,aX (F :: Y) w x)/\bK L F (js.cells m ay) 102/\Ls dh L ag aT x/\Ls qf L ag (.slice (some ⟨aU,0,none⟩) 2 2) ([min 512 x.length,0])/\Pt qP 107 L ag ay m.d/\¬ag F/\F∉ak/\MS f m.name x i f1/\i<=2) (fun ak f1 i=>2-i) Y f 0 ?_ ?_ ?_
 ·exact Fz
 ·exact⟨Q,g,K,v,s,(e.up Xx),C,j,h1,E,A,J,I,⟨fun _=>rfl,fun h=>by omega,fun h=>by omega⟩,Xx⟩
 clear s v g K J A j h1 e E C;rintro ak f1 i bd b7 ⟨bu,g,K,v,s,e,C,j,h1,E,A,J,I,aE,bF⟩;refine ns<|su (fJ (a:=i) (b:=(([min 512 x.length,0]).length)) q q)<|nt<|aH ?_;refine kS q ?_ ?_
 ·intro bo;refine aM<|aA<|aH<|bf<|ns<|su (bQ (i:=i) 1 q q wu el3 E.eA Xx) ?_;obtain⟨N,ba⟩:=gF (l:=[min 512 x.length,0]) (i:=i) Xx;obtain⟨bZ,bt,aO⟩:=E.get ba;obtain⟨rfl,bE⟩:=bt;have aO:At _ (.slice (some ⟨aU,0,none⟩) 2 2) (i*1) [(iZ N)]:=aO;refine su ((dS (kk:=i*1) 0 q q gQ aO q).to (b:=(iZ N)) q)<|cV q<|aG ?_;refine aA<|ns ?_;have bc:=agh ba;refine m2 q q<|su (jE 1 N x.length fM qs q h1.eA Xx Xx ⟨_,q⟩ q) ?_;have O:=h1.tail (lo:=N) Xx;refine an q<|aH<|nM q<|su (fD (a:=N) (b:=0) q q)<|nt ?_;refine cJ q (fun a0=>?_)<|fun a0=>?_
  ·(have bp:=dq a0)
   have xp:(i=0/\N=min 512 x.length/\x.take (min 512 x.length)=x.drop (min 512 x.length))\/(i=1/\N=0/\x.take (min 512 x.length)=x.take (min 512 x.length)):=by
    rcases bc with⟨e1,e2⟩|⟨e1,e2⟩
    ·exfalso;omega
    ·exact .inr ⟨e1,e2,q⟩
   refine aI<|m2 q q<|su (jE 1 0 (min 512 x.length) fM qs q h1.eA Xx Xx q ⟨_,q⟩) ?_;have ah:=h1.head (hi:=min 512 x.length) Xx;refine an q<|aH ?_;have H:=j;refine nL (ml 10) [10,11] mixed ?_;intro bP D;have Z:=D;refine mo q<|my (bN q)<|my (aF q qF)<|mz (fun L M=>(aD q IK (H.o M) q).to (b:=(.pointer<|some ⟨m.fs,0,none⟩)) q)<|mo q<|my (bN q)<|my (aF q tf)<|mz (fun L M=>(aD q mM (H.o M) q).to (b:=(str m.name)) q)<|mo q<|mo q<|di ?_;obtain⟨e,j,h1,E,A,O,ah,v⟩:=k8 D e j h1 E A O ah v;have s:=s.k D;refine Rz ahA q (TI v e m.name (((N:Nat):Int)) Xx ah Xx Xx) ?_;rintro av bC ⟨W,rfl,bw,a1,aL,Bk,G,⟨V,p,o⟩,U,aa,bq⟩;have B:∀b∈ak,¬Bk b:=fun b X aw=>(e.lt b X).2<|p b aw;have ad:F∉aL:=fun h=>(U _ h).elim I (fun h=>by have:=j.lt;omega);have J:=nQ J p;have j:=j.md G I;have I:=ad;have h1:=(h1.sub V).md G B;have E:=(E.sub V).md G B;have A:=(A.sub V).md G B;have O:=(O.sub V).md G B;have ah:=(ah.sub V).md G B;have af:∀x∈aL,aX (F :: Y) w x:=fun x ae=>(U x ae).elim (C x)<|aX.new s x;have g:=tT g p;have K:=Sx V K s.size;have s:=s.step G C;have v:=o;have C:=af;have e:=aa;have aq:=G;clear o af aa V p B U G;have e:lK ((k+2*i)+1) _ _ _ _ _:=e;obtain⟨aK,aJ⟩:=bq;refine an q<|aH<|nM q<|su (fD (a:=W) (b:=0) q q)<|nt ?_;refine cJ q (fun ao=>?_)<|fun ao=>?_
   ·have aY:=dq ao;have H:=j;refine nL (ml 8) [8,9] mixed ?_;intro bR D;have Z:=D;refine mo q<|my (bN q)<|my (aF q qF)<|mz (fun L M=>(aD q IK (H.o M) q).to (b:=(.pointer<|some ⟨m.fs,0,none⟩)) q)<|mo q<|my (bN q)<|my (aF q tf)<|mz (fun L M=>(aD q mM (H.o M) q).to (b:=(str m.name)) q)<|di ?_;obtain⟨e,j,h1,E,A,O,ah,v⟩:=k8 D e j h1 E A O ah v;have s:=s.k D;refine Rz ahC q (acI v e m.name Xx Xx) ?_;rintro av bT ⟨t,rfl,bx,a2,aV,a7,G,⟨V,p,o⟩,U,aa,br⟩;have B:∀b∈aL,¬a7 b:=fun b X aw=>(e.lt b X).2<|p b aw;have ad:F∉aV:=fun h=>(U _ h).elim I (fun h=>by have:=j.lt;omega);have J:=nQ J p;have j:=j.md G I;have I:=ad;have h1:=(h1.sub V).md G B;have E:=(E.sub V).md G B;have A:=(A.sub V).md G B;have O:=(O.sub V).md G B;have ah:=(ah.sub V).md G B;have af:∀x∈aV,aX (F :: Y) w x:=fun x ae=>(U x ae).elim (C x)<|aX.new s x;have g:=tT g p;have K:=Sx V K s.size;have s:=s.step G C;have v:=o;have C:=af;have e:=aa;have aq:=G;clear o af aa V p B U G;clear aq
    have e:lK ((k+2*i)+2) _ _ _ _ _:=e;refine an q<|ns ?_;have au:nY f1 m.name N (x.take<|min 512 x.length) aK=(t,a2):=(by unfold nY;rw[kH (aJ.trans (by rw[show W=0 by omega]))];exact br);have ab:=MS.next aE xp au;refine mv q<|su (fU (a:=t) (b:=0) q q)<|nt ?_;refine cJ q (fun S=>?_)<|fun S=>?_
    ·have c:=dq S;have am:=ab.2 Xx;refine nM q<|ar q<|bS<|aS<|aS<|bS<|aS ?_;exact gB (iZ t) q ⟨t,a2,_,_,m,q,Xx,s,⟨K,g,v⟩,C,e.up Xx,j,J,I,al,A,(by rw[if_neg Xx]),(by obtain⟨ai,aj,sk⟩:=am;exact⟨ai,aj,by unfold ko;rw[if_neg (by simp[P]),ap];simp only;rw[if_neg Xx,az,if_neg Xx];exact sk⟩)⟩
    have c:=dF S;refine aM<|bG<|aA<|aI<|su (rA (a:=i) (b:=1) q q Xx)<|mv q<|nt ?_;refine iW aV a2 (i+1) Xx ⟨(cW q Xx),q,q,q,q,q,tV⟩ ⟨a7,g,K,v,s,(e.up Xx),C,j,h1,E,A,J,I,(ab.1 Xx),Xx⟩
   have aY:=dF ao;refine aM<|aA<|ns ?_;have au:nY f1 m.name N (x.take<|min 512 x.length) aK=(W,a1):=(by unfold nY;exact pR aJ Xx);have ab:=MS.next aE xp au;refine mv q<|su (fU (a:=W) (b:=0) q q)<|nt ?_;refine cJ q (fun S=>?_)<|fun S=>?_
   ·have c:=dq S;have am:=ab.2 Xx;refine nM q<|ar q<|bS<|aS<|aS<|bS<|aS ?_;exact gB (iZ W) q ⟨W,a1,_,_,m,q,Xx,s,⟨K,g,v⟩,C,e.up Xx,j,J,I,al,A,(by rw[if_neg Xx]),(by obtain⟨ai,aj,sk⟩:=am;exact⟨ai,aj,by unfold ko;rw[if_neg (by simp[P]),ap];simp only;rw[if_neg Xx,az,if_neg Xx];exact sk⟩)⟩
   have c:=dF S;refine aM<|bG<|aA<|aI<|su (rA (a:=i) (b:=1) q q Xx)<|mv q<|nt ?_;refine iW aL a1 (i+1) Xx ⟨(cW q Xx),q,q,q,q,q,tV⟩ ⟨Bk,g,K,v,s,(e.up Xx),C,j,h1,E,A,J,I,(ab.1 Xx),Xx⟩
  (have bp:=dF a0)
  have xp:(i=0/\N=min 512 x.length/\x.drop N=x.drop (min 512 x.length))\/(i=1/\N=0/\x.drop N=x.take (min 512 x.length)):=by
   rcases bc with⟨e1,e2⟩|⟨e1,e2⟩
   ·exact .inl ⟨e1,e2,by rw[e2]⟩
   ·exfalso;omega
  refine aM<|aA<|aH ?_;have H:=j;refine nL (ml 10) [10,11] mixed ?_;intro bU D;have Z:=D;refine mo q<|my (bN q)<|my (aF q qF)<|mz (fun L M=>(aD q IK (H.o M) q).to (b:=(.pointer<|some ⟨m.fs,0,none⟩)) q)<|mo q<|my (bN q)<|my (aF q tf)<|mz (fun L M=>(aD q mM (H.o M) q).to (b:=(str m.name)) q)<|mo q<|mo q<|di ?_;obtain⟨e,j,h1,E,A,O,v,s⟩:=k8 D e j h1 E A O v s;refine Rz ahA q (TI v e m.name (((N:Nat):Int)) Xx O Xx Xx) ?_;rintro av bD ⟨aB,rfl,bz,a3,aN,a8,G,⟨V,p,o⟩,U,aa,bs⟩;have B:∀b∈ak,¬a8 b:=fun b X aw=>(e.lt b X).2<|p b aw;have ad:F∉aN:=fun h=>(U _ h).elim I (fun h=>by have:=j.lt;omega);have J:=nQ J p;have j:=j.md G I;have I:=ad;have h1:=(h1.sub V).md G B;have E:=(E.sub V).md G B;have A:=(A.sub V).md G B;have O:=(O.sub V).md G B;have af:∀x∈aN,aX (F :: Y) w x:=fun x ae=>(U x ae).elim (C x)<|aX.new s x;have g:=tT g p;have K:=Sx V K s.size;have s:=s.step G C;have v:=o;have C:=af;have e:=aa;have aq:=G;clear o af aa V p B U G;have e:lK ((k+2*i)+1) _ _ _ _ _:=e;obtain⟨aK,aJ⟩:=bs;refine an q<|aH<|nM q<|su (fD (a:=aB) (b:=0) q q)<|nt ?_;refine cJ q (fun ao=>?_)<|fun ao=>?_
  ·have aY:=dq ao;have H:=j;refine nL (ml 8) [8,9] mixed ?_;intro bV D;have Z:=D;refine mo q<|my (bN q)<|my (aF q qF)<|mz (fun L M=>(aD q IK (H.o M) q).to (b:=(.pointer<|some ⟨m.fs,0,none⟩)) q)<|mo q<|my (bN q)<|my (aF q tf)<|mz (fun L M=>(aD q mM (H.o M) q).to (b:=(str m.name)) q)<|di ?_;obtain⟨e,j,h1,E,A,O,v,s⟩:=k8 D e j h1 E A O v s;refine Rz ahC q (acI v e m.name Xx Xx) ?_;rintro av bW ⟨z,rfl,bA,a4,aW,a9,G,⟨V,p,o⟩,U,aa,Bx⟩;have B:∀b∈aN,¬a9 b:=fun b X aw=>(e.lt b X).2<|p b aw;have ad:F∉aW:=fun h=>(U _ h).elim I (fun h=>by have:=j.lt;omega);have J:=nQ J p;have j:=j.md G I;have I:=ad;have h1:=(h1.sub V).md G B;have E:=(E.sub V).md G B;have A:=(A.sub V).md G B;have O:=(O.sub V).md G B;have af:∀x∈aW,aX (F :: Y) w x:=fun x ae=>(U x ae).elim (C x)<|aX.new s x;have g:=tT g p;have K:=Sx V K s.size;have s:=s.step G C;have v:=o;have C:=af;have e:=aa;have aq:=G;clear o af aa V p B U G;have e:lK ((k+2*i)+2) _ _ _ _ _:=e;refine cV q<|aG ?_
   refine aA<|ns ?_;have au:nY f1 m.name N (x.drop N) aK=(z,a4):=(by unfold nY;rw[kH (aJ.trans (by rw[show aB=0 by omega]))];exact Bx);have ab:=MS.next aE xp au;refine mv q<|su (fU (a:=z) (b:=0) q q)<|nt ?_;refine cJ q (fun S=>?_)<|fun S=>?_
   ·have c:=dq S;have am:=ab.2 Xx;refine nM q<|ar q<|bS<|aS<|aS<|bS<|aS ?_;exact gB (iZ z) q ⟨z,a4,_,_,m,q,Xx,s,⟨K,g,v⟩,C,e.up Xx,j,J,I,al,A,(by rw[if_neg Xx]),(by obtain⟨ai,aj,sk⟩:=am;exact⟨ai,aj,by unfold ko;rw[if_neg (by simp[P]),ap];simp only;rw[if_neg Xx,az,if_neg Xx];exact sk⟩)⟩
   have c:=dF S;refine aM<|bG<|aA<|aI<|su (rA (a:=i) (b:=1) q q Xx)<|mv q<|nt ?_;refine iW aW a4 (i+1) Xx ⟨(cW q Xx),q,q,q,q,q,tV⟩ ⟨a9,g,K,v,s,(e.up Xx),C,j,h1,E,A,J,I,(ab.1 Xx),Xx⟩
  have aY:=dF ao;refine aM<|aA<|ns ?_;have au:nY f1 m.name N (x.drop N) aK=(aB,a3):=(by unfold nY;exact pR aJ Xx);have ab:=MS.next aE xp au;refine mv q<|su (fU (a:=aB) (b:=0) q q)<|nt ?_;refine cJ q (fun S=>?_)<|fun S=>?_
  ·have c:=dq S;have am:=ab.2 Xx;refine nM q<|ar q<|bS<|aS<|aS<|bS<|aS ?_;exact gB (iZ aB) q ⟨aB,a3,_,_,m,q,Xx,s,⟨K,g,v⟩,C,e.up Xx,j,J,I,al,A,(by rw[if_neg Xx]),(by obtain⟨ai,aj,sk⟩:=am;exact⟨ai,aj,by unfold ko;rw[if_neg (by simp[P]),ap];simp only;rw[if_neg Xx,az,if_neg Xx];exact sk⟩)⟩
  have c:=dF S;refine aM<|bG<|aA<|aI<|su (rA (a:=i) (b:=1) q q Xx)<|mv q<|nt ?_;refine iW aN a3 (i+1) Xx ⟨(cW q Xx),q,q,q,q,q,tV⟩ ⟨a8,g,K,v,s,(e.up Xx),C,j,h1,E,A,J,I,(ab.1 Xx),Xx⟩
 intro bo;refine cM<|bB<|bB<|dJ<|aA<|aH ?_;have b0:([min 512 x.length,0]:List Nat).length=2:=rfl;refine aI<|mv q<|sn q<|sf q xh<|aQ q q gQ q j (lq q) ?_;have bj:=j;intro bX G j;have B:∀b∈[F],¬bu b:=hI J;have e:=e.md G (fun x ae=>by rw[List.mem_singleton];rintro rfl;exact I ae) B;have A:=A.md G B;have v:=v.md G;have s:=s.step G<|hI be;obtain⟨aP,aC⟩:∃y,y=({m with waiting:=0}:js):=⟨_,q⟩;have j:bK _ _ (js.cells ({m with waiting:=0}) ay) _:=j;rw[<- aC]at j;have bk:js.ok aP:=(by rw[aC];exact⟨al.1,Xm⟩);have bM:aP.cK=m.cK:=(by rw[aC]);rw[show m.d=aP.d by rw[aC]]at A;refine nt<|ns<|ar q ?_;exact gB (iN 0) q ⟨0,f1,_,_,aP,q,Xx,s,⟨K,g,v⟩,C,e.up Xx,j,J,I,bk,A,(by rw[aC];rfl),(by obtain⟨ai,aj,sk⟩:=aE.2.2 Xx;exact⟨ai,aj,by unfold ko;rw[if_neg (by simp[P]),ap];simp only;rw[if_neg Xx,az,if_neg Xx];exact sk⟩)⟩
theorem ajJ:cO Zp 68=true:=Xj
theorem QX (E:Up w Q) {a:Nat} {F:Value} {e:List Nat} {k:Nat} {f:ey} (m:js) (s:lK k e w Q m.fs f) (B:bK w a (m.cells F) 102) (n0:¬Q a) (nf:a∉e) (ao:m.ok) (L:Pt qP 107 w Q F m.d) (aC:k<=90000) (aD:m.name.length<=1000000) (p2:1<=m.d.b.length/\m.d.b.length<=1000000) :
  Calls Zp 20 #[.pointer (some ⟨a,0,none⟩)] w fun ad I=>∃r:Nat,∃ae:ey,∃U:List Nat,∃K:Nat->Prop,∃M:js,ad = .returned (iZ r)/\r<9223372036854775808/\Md (a :: e) w I/\iQ w I Q K/\(∀y∈U,y∈a :: e\/w.heap.size<=y)/\lK (k+4) U I K m.fs ae/\bK I a (M.cells F) 102/\¬K a/\a∉U/\M.ok/\Pt qP 107 I K F M.d/\M={m with waiting:=if r=0 then 0 else m.waiting}/\∃i aq,ko m.dN f m.name m.d.b i aq=(r,ae):=by
 have J:=nf;have C:∀x∈e,aX (a :: e) w x:=fun x A=>.inl (by simp[A]);have D:=n0;have aj:aX (a :: e) w a:=.inl Oj;have v:=Md.refl (a :: e) w;have ay:=E;have o:∀b,Q b->Q b:=fun _ h=>h;have N:∀b,Q b->b<w.heap.size->Q b:=fun _ h _=>h;refine enter (n:=12) Tryz.func20 q q q fun az=>ns<|an q<|ns<|m2 q q<|sn q<|sf q lS<|sl (u:=F) q xF B q ?_;have H:=L;obtain⟨t,z,rfl,aA,H,ak⟩:=H;obtain⟨au,rfl,aE,G⟩:=pS ak;refine sn q<|sf q iI<|sl (u:=au) q eH H q<|Rz ajJ q (JQ E m s B D J ao L G Xx Xx Xx) ?_;rintro ad aF ⟨X,aB,W,ai,ag,rfl,aw,O,⟨g,l,V⟩,ab,p,aa,P,R,am,T,Y,al⟩;have Z:∀b∈(a :: e),¬Q b:=fun b j=>(List.mem_cons.1 j).elim (fun S=>S ▸ D)<|fun j=>(s.lt b j).2;have af:∀b∈(a :: e),¬ai b:=fun b j ap=>Z b j<|l b ap;have c:∀x∈(a :: e),aX (a :: e) w x:=fun x A=>(List.mem_cons.1 A).elim (fun S=>S ▸ aj)<|C x;have G:=(G.sub g).md O af;have o:=tT o l;have N:=Sx g N v.size;have ah:∀x∈W,aX (a :: e) w x:=fun x A=>(ab x A).elim (c x)<|aX.new v x;have v:=v.step O c;clear E C s af Z c ab O B D J g l;have E:=V;have C:=ah;have s:=p;have B:=aa;have D:=P;have J:=R;clear V ah p aa P R;have av:ag.d=m.d:=(by rw[Y]);have L:=T;refine ar q ?_;exact gB (iZ X) q ⟨X,_,_,_,ag,q,Xx,v,⟨N,o,E⟩,C,s.up Xx,B,D,J,am,L,Y,al⟩
theorem aaQ:gH Zp 41 52=true:=Xj
theorem akT:cO Zp 30=true:=Xj
theorem ajF:cO Zp 49=true:=Xj
theorem akV:cO Zp 50=true:=Xj
theorem akW:cO Zp 51=true:=Xj
theorem LD:aJ Zp 41 5=some 50:=Xj
theorem ajZ:fG Zp 102=some [(0,1),(1,1),(2,1),(3,1),(4,1),(5,1)]:=Xj
theorem alD:dX Zp 102=some [.pointer none,.string ByteArray.empty,.int .i64 0,.pointer none,.int .i64 0,.bool false]:=Xj
def lQ (f:ey) (s:Ly) (B:Ly) (i j q:Nat):Nat × ey :=
  if f.off=true then(18,f)else if nq f<(B.length:Int)then(15,f)else
  stepW (stepW (mG f s i j) fun m=>je m s 0 B q) fun m=>oc m s
theorem zU (A:Up w Q) {Z:Nat} {L:List Nat} {k:Nat} {f:ey} (e:lK k L w Q Z f) (s:Ly) (c:gZ) (aO:c.ok) (after:Nat) (ce:after<18446744073709551616) (ch:1<=c.aj/\c.aj<=64/\1<=c.ak/\c.ak<=64/\4096<=c.cK/\c.cK<=32768) (ci:s.length<=1000000) (p2:k<=90000) (p3:(iG c after).b.length<=100000) :
  Calls Zp 12 #[.pointer (some ⟨Z,0,none⟩),str s,.agg c.cells.toArray,.int .u64 after] w fun X ae=>∃r:Nat,∃a6:ey,∃a7:List Nat,∃a5:Nat->Prop,Md L w ae/\iQ w ae Q a5/\(∀x∈a7,x∈L\/w.heap.size<=x)/\r<9223372036854775808/\(∃i bK bL,lQ f s (iG c after).b i bK bL=(r,a6)) /\
   ((r≠0/\X = .returned (.tuple #[.pointer none,(iZ r)])/\lK (k+3) a7 ae a5 Z a6)\/(r=0/\∃aP,w.heap.size<=aP/\X = .returned (.tuple #[.pointer (some ⟨aP,0,none⟩),(iN 0)])/\qm aP (k+3) (aP :: a7) ae a5 Z ⟨a6,{fs:=Z,name:=s,cK:=c.cK,d:=iG c after,waiting:=0,dN:=false}⟩)):=by
 have bE:∀x∈L,x<w.heap.size:=fun x F=>(e.lt x F).1;have D:∀x∈L,aX L w x:=fun x F=>.inl F;have m:=Md.refl L w;have be:=A;have I:∀b,Q b->Q b:=fun _ h=>h;have E:∀b,Q b->b<w.heap.size->Q b:=fun _ h _=>h;refine enter (n:=80) Tryz.func12 q q q fun bO=>ns<|e7 (cs:=(gZ.cells c)) q q ?_;intro bj cn aZ bW j K;have b6:=A _ aZ;have aZ:=lv m.size aZ;obtain⟨e,A,m⟩:=k3 j e A m;refine cV q<|an q<|aH<|ns<|sf q LB<|sl (u:=(iZ c.aj)) q gQ K q ?_;have cj:c.aj<9223372036854775808:=aO.2.2.2.1;refine Rz ajF q (FL A (((c.aj:Nat):Int)) Xx) ?_;rintro X co ⟨bw,rfl,j,bC⟩;obtain⟨e,K,A,m⟩:=k4 j e K A m;have a3:true=bw:=(by rw[<- bC];exact(decide_eq_true Xx).symm);subst a3;refine su (jo q)<|mv q<|sg q (aF q LC)<|sg q ((aD q gQ K q).to (b:=(iZ c.ak)) q) ?_;have cl:c.ak<9223372036854775808:=aO.2.2.2.2.1;refine ig q q q q ajF q (FL A (((c.ak:Nat):Int)) Xx) ?_;rintro X cp ⟨bx,rfl,j,bD⟩;refine rv ?_;obtain⟨e,K,A,m⟩:=k4 j e K A m;have a3:true=bx:=(by rw[<- bD];exact(decide_eq_true Xx).symm);subst a3;refine sg q (jo q)<|su (aU q q q)<|mv q<|sg q (aF q LD)<|sg q ((aD q gQ K q).to (b:=(iZ c.cK)) q) ?_;have cm:c.cK<9223372036854775808:=aO.2.2.2.2.2;refine sg q (fJ (a:=c.cK) (b:=4096) q q)<|su (aU q q q)<|mv q ?_;refine ck (t:=27) q (fun af=>?_)<|fun af=>?_
 ·have bt:=dq af;exfalso;omega
 have bt:=dF af;refine sg af (aF q LD)<|sg af ((aD q gQ K q).to (b:=(iZ c.cK)) q)<|sg af (jQ (a:=c.cK) (b:=32768) q q)<|su (aU q af q)<|nt ?_;refine cJ q (fun a0=>?_)<|fun a0=>?_
 ·have bu:=dq a0;exfalso;omega
 have bu:=dF a0;refine aM<|aA<|aH ?_;have aT:=K;refine nL [(0,true),(1,true),(2,true),(3,true),(4,true),(5,true),(6,false)] [7,8,9] mixed ?_;intro cq az;have T:=az;refine mo q<|mo q<|my (aF q LD)<|mz (fun ae ap=>(aD q gQ (aT.o ap) q).to (b:=(iZ c.cK)) q)<|mz (fun ae ap=>bU (gZ.cells c) q (by exact aaQ) (aT.o ap) q)<|mo q ?_;obtain⟨e,K,A,m⟩:=k4 az e K A m;refine jc ?_ rfl;refine Rz akV q (RQ A c aO after Xx Xx Xx) ?_;rintro X a9 ⟨N,bb,aK,aL,rfl,j,⟨V,z,O⟩,bq,bP,aN,bm,B,o⟩;have bQ:∀b,ah bb=some b->b∈[]\/_:=fun b H=>Or.inr<|lv T.size<|(B.2 b H).1.elim (fun h=>by simp at h) id;have bT:=lv T.size aN;have bI:∀x,ah bb=some x->x∉L:=fun x F ai=>by have cf:=(e.lt x ai).1;have cg:=(B.2 x F).1.elim (fun h=>by simp at h) id;omega
 have bR:bj≠N:=(by have:=K.lt;omega);have R:N∉L:=fun F=>by have:=(e.lt _ F).1;omega
 have bn:aX [] w N:=aX.new m _ aN;have aN:=lv m.size aN;have I:=tT I z;have E:=Sx V E m.size;have B:=B.lower<|aX.lift (S':=[]) m;have e:=(e.sub V z).o j;obtain⟨K,m,T⟩:=k3 j K m T;have A:=O;refine aG ⟨q,T,?_⟩;refine di ?_;have R:N∉L:=fun F=>by have:=bE _ F;omega
 obtain⟨aC,Y,ao,ba⟩:=B.freeze;have e:=e.jd Y ao bI;have I:=fun b H=>(ao b H).elim (I b)<|fun a8=>aX.up be b (B.2 b a8).1;have E:=fun b H hl=>Y b<|E b H hl;have A:Up a9 aC:=fun b H=>Y b<|A b H;have B:=ba;obtain⟨bi,Y,ao,bl⟩:∃aL:Nat->Prop,(∀x,aC x->aL x)/\(∀x,aL x->aC x\/x=N)/\aL N:=⟨fun x=>aC x\/x=N,fun _ h=>.inl h,fun _ h=>h,.inr q⟩;have e:=e.jd (v:=.slice (some ⟨N,0,none⟩) 0 0) Y (fun b H=>(ao b H).imp id (fun h=>by rw[h];rfl)) (fun x F=>by simp[ah]at F;subst F;exact R);have B:=B.sub<|fun b H _=>Y b H;have I:=fun b H=>(ao b H).elim (I b)<|fun a8=>aX.up be b<|a8 ▸ bn;have E:=fun b H hl=>Y b<|E b H hl;have A:Up a9 bi:=fun b H=>Y b<|A b H;have J:Pt qP 107 a9 bi (.pointer<|some ⟨N,0,none⟩) aK:=⟨_,_,q,bl,bq,xR bm B⟩;refine su (dI (us:=[[(.pointer<|some ⟨Z,0,none⟩)],[(str s)],[(iZ c.cK)],[(.pointer<|some ⟨N,0,none⟩)]]) (cs:=(js.cells (({fs:=Z,name:=s,cK:=c.cK,d:=aK,waiting:=0,dN:=false}:js))<|.pointer<|some ⟨N,0,none⟩)) [(0,0,1),(1,1,1),(2,2,1),(3,3,1)] alD ajZ q q ⟨q,q,q,(gb<|aie J),tV⟩ Fz q q)<|e7 (cs:=(js.cells (({fs:=Z,name:=s,cK:=c.cK,d:=aK,waiting:=0,dN:=false}:js))<|.pointer<|some ⟨N,0,none⟩)) q q ?_;intro am bY aY bo j G;have C:am∉L:=fun F=>by have:=(e.lt _ F).1;omega
 have bV:bj≠am:=(by have:=K.lt;omega);obtain⟨cd,V,z,al,O⟩:=oI A aY bo j;have I:=tT I z;have E:=Sx V E m.size;have aY:=lv m.size aY;have e:=(e.sub V z).o j;have B:=(B.sub V).o j;have J:=(J.sub V).o j;have m:=m.k j;have A:=O;refine an q<|aH<|bf<|nM q<|Rz akW q (als A e) ?_;rintro X cb ⟨cc,rfl,j,aq⟩;obtain⟨e,B,J,G,A,m⟩:=k6 j e B J G A m;refine an q ?_;refine cJ q (fun a1=>?_)<|fun a1=>?_
 ·have g:=a1;refine ns<|cV q<|ar q<|bS<|aS ?_;exact kM (vs:=[.pointer none,(iN 18)]) trivial q Fz q ⟨18,f,_,_,m,⟨E,I,A⟩,D,Xx,⟨0,0,0,by unfold lQ;rw[if_pos (by rw[aq];exact g)]⟩,.inl ⟨Xx,q,e.up Xx⟩⟩
 have g:=a1;refine aH ?_;have bc:=G;refine nL [(0,true),(2,true),(3,true),(4,true),(5,true),(6,true),(7,true),(8,true),(9,true),(1,false)] [10,11] mixed ?_;intro bZ az;have T:=az;refine mo q<|mo q<|my (bN q)<|my (aF q lS)<|mz (fun ae ap=>(aD q xF (bc.o ap) q).to (b:=(.pointer<|some ⟨N,0,none⟩)) q) ?_;have U:=J;obtain⟨b4,b5,bp,aR,U,br⟩:=U
 cases bp;obtain⟨bk,rfl,bX,S⟩:=pS br;refine my (bN q)<|my (aF q iI)<|mz (fun ae ap=>(aD q eH (U.o ap) q).to (b:=bk) q)<|my (jR q fM S.eA) ?_;obtain⟨e,B,J,G,U,S,A,m⟩:=k8 az e B J G U S A m;refine jc ?_ rfl;refine Rz ajE q (agT A e Xx) ?_;rintro X b0 ⟨bs,rfl,j,b7,aw⟩;obtain⟨e,B,J,G,U,S,A,m⟩:=k8 j e B J G U S A m;have T:=T.k j;refine aG ⟨q,T,?_⟩;refine di ?_;refine su (oA (a:=bs) (b:=(((((({fs:=Z,name:=s,cK:=c.cK,d:=aK,waiting:=0,dN:=false}:js)).d).b).length:Nat):Int)) q q)<|an q ?_;refine cJ q (fun Bk=>?_)<|fun Bk=>?_
 ·have Bx:=dq Bk;refine ns<|cV q<|ar q<|bS<|aS ?_;exact kM (vs:=[.pointer none,(iN 15)]) trivial q Fz q ⟨15,f,_,_,m,⟨E,I,A⟩,D,Xx,⟨0,0,0,by unfold lQ;rw[if_neg (by rw[aq];simp[g]),if_pos (by rw[aw,o];omega)]⟩,.inl ⟨Xx,q,e.up Xx⟩⟩
 have Bx:=dF Bk;refine aM<|bG<|aA<|ns<|m2 q q<|Rz akT q (ajX A e s Xx Xx) ?_;rintro X b1 ⟨P,rfl,b8,bF,aV,bz,j,⟨V,z,O⟩,p,ab,au⟩;have M:∀b∈L,¬bz b:=fun b H aB=>(e.lt b H).2<|z b aB;have B:=(B.sub V).md j M;have J:=(J.sub V).md j M;have aa:am∉aV:=fun h=>(p _ h).elim C (fun h=>by have:=G.lt;omega);have al:=nQ al z;have G:=G.md j C;have C:=aa;have aR:=V _ aR U.lt;have U:=U.md j<|fun bJ=>M _ bJ aR;have S:=(S.sub V).md j M;have ad:∀x∈aV,aX L w x:=fun x F=>(p x F).elim (D x)<|aX.new m x;have I:=tT I z;have E:=Sx V E m.size;have m:=m.step j D;have A:=O;have D:=ad;have e:=ab;have ai:=j;clear O ad ab V z M p j;have e:lK (k+1) _ _ _ _ _:=e;obtain⟨aE,aJ,au⟩:=au;refine an q<|aH<|nM q<|su (fD (a:=P) (b:=0) q q)<|nt ?_;refine cJ q (fun a2=>?_)<|fun a2=>?_
 ·have bv:=dq a2;refine aI<|m2 q q<|mv q<|sn q<|sf q lS<|sl (u:=(.pointer<|some ⟨N,0,none⟩)) q xF G q<|sn q<|sf q iI<|sl (u:=bk) q eH U q<|Rz ahA q (TI A e s (0) Xx S Xx Xx) ?_;rintro X b2 ⟨W,rfl,b9,bH,aW,bA,j,⟨V,z,O⟩,p,ab,ay⟩;have M:∀b∈aV,¬bA b:=fun b H aB=>(e.lt b H).2<|z b aB;have B:=(B.sub V).md j M;have J:=(J.sub V).md j M;have aa:am∉aW:=fun h=>(p _ h).elim C (fun h=>by have:=G.lt;omega);have al:=nQ al z;have G:=G.md j C;have C:=aa;have S:=(S.sub V).md j M;have ad:∀x∈aW,aX L w x:=fun x F=>(p x F).elim (D x)<|aX.new m x;have I:=tT I z;have E:=Sx V E m.size;have m:=m.step j D;have A:=O;have D:=ad;have e:=ab;have ai:=j;clear O ad ab V z M p j;have e:lK (k+2) _ _ _ _ _:=e;obtain⟨a4,ay⟩:=ay;refine an q<|aH<|nM q<|su (fD (a:=W) (b:=0) q q)<|nt ?_;refine cJ q (fun ag=>?_)<|fun ag=>?_
  ·have aQ:=dq ag;refine aI<|m2 q q<|Rz ahC q (acI A e s Xx Xx) ?_;rintro X b3 ⟨y,rfl,ca,bd,bg,bB,j,⟨V,z,O⟩,p,ab,bh⟩;have M:∀b∈aW,¬bB b:=fun b H aB=>(e.lt b H).2<|z b aB;have B:=(B.sub V).md j M;have J:=(J.sub V).md j M;have aa:am∉bg:=fun h=>(p _ h).elim C (fun h=>by have:=G.lt;omega);have al:=nQ al z;have G:=G.md j C;have C:=aa;have S:=(S.sub V).md j M;have ad:∀x∈bg,aX L w x:=fun x F=>(p x F).elim (D x)<|aX.new m x;have I:=tT I z;have E:=Sx V E m.size;have m:=m.step j D;have A:=O;have D:=ad;have e:=ab;have ai:=j;clear O ad ab V z M p j;have e:lK (k+3) _ _ _ _ _:=e;refine an q<|aH<|nM q<|su (fU (a:=y) (b:=0) q q)<|nt ?_;refine cJ q (fun l=>?_)<|fun l=>?_
   ·have av:=dq l;refine nM q<|cV q<|ar q<|aS ?_;exact kM (vs:=[.pointer none,(iZ y)]) trivial q Fz q ⟨y,bd,_,_,m,⟨E,I,A⟩,D,Xx,⟨aE,aJ,a4,by unfold lQ;rw[if_neg (by rw[aq];simp[g]),if_neg (by rw[aw,o];omega),o];exact(kH<|((kH<|au.trans (by rw[show P=0 by omega])).trans ay).trans (by rw[show W=0 by omega])).trans bh⟩,.inl ⟨Xx,q,e.up Xx⟩⟩
   have av:=dF l;refine aM<|aA<|nM q<|cV q<|ar q ?_;have bM:y=0:=Xx;exact kM (vs:=[.pointer (some ⟨am,0,none⟩),(iN 0)]) trivial q Fz q ⟨y,bd,_,_,m,⟨E,I,A⟩,D,Xx,⟨aE,aJ,a4,by unfold lQ;rw[if_neg (by rw[aq];simp[g]),if_neg (by rw[aw,o];omega),o];exact(kH<|((kH<|au.trans (by rw[show P=0 by omega])).trans ay).trans (by rw[show W=0 by omega])).trans bh⟩,.inr ⟨bM,am,Xx,q,_,_,q,e.up Xx,C,(by rw[o];exact G),al,q,⟨by show c.cK<_;omega,by show 0<_;omega⟩,(by rw[o];exact J)⟩⟩
  have aQ:=dF ag;refine aM<|aA<|aH<|nM q<|su (fU (a:=W) (b:=0) q q)<|nt ?_;refine cJ q (fun l=>?_)<|fun l=>?_
  ·have av:=dq l;refine nM q<|cV q<|ar q<|aS ?_;exact kM (vs:=[.pointer none,(iZ W)]) trivial q Fz q ⟨W,bH,_,_,m,⟨E,I,A⟩,D,Xx,⟨aE,aJ,a4,by unfold lQ;rw[if_neg (by rw[aq];simp[g]),if_neg (by rw[aw,o];omega),o];exact pR ((kH<|au.trans (by rw[show P=0 by omega])).trans ay) Xx⟩,.inl ⟨Xx,q,e.up Xx⟩⟩
  have av:=dF l;exfalso;omega
 have bv:=dF a2;refine aM<|aA<|aH<|nM q<|su (fD (a:=P) (b:=0) q q)<|nt ?_;refine cJ q (fun ag=>?_)<|fun ag=>?_
 ·have aQ:=dq ag;exfalso;omega
 have aQ:=dF ag;refine aM<|aA<|aH<|nM q<|su (fU (a:=P) (b:=0) q q)<|nt ?_;refine cJ q (fun l=>?_)<|fun l=>?_
 ·have av:=dq l;refine nM q<|cV q<|ar q<|aS ?_;exact kM (vs:=[.pointer none,(iZ P)]) trivial q Fz q ⟨P,bF,_,_,m,⟨E,I,A⟩,D,Xx,⟨aE,aJ,0,by unfold lQ;rw[if_neg (by rw[aq];simp[g]),if_neg (by rw[aw,o];omega),o];exact pR (pR au Xx) Xx⟩,.inl ⟨Xx,q,e.up Xx⟩⟩
 have av:=dF l;exfalso;omega
end Go.Proofs.YtfadcpfgenjbeaaGreat
namespace Go.Proofs.YtfadcpfgenjbeaaGreat
open Go Go.Shelf
def U8:Go.Shelf.Ren:=⟨fun|6=>102|15=>142|14=>148|28=>193|29=>194|20=>196|21=>197|22=>198|23=>199|24=>200|25=>201|26=>202|27=>203|46=>237|47=>233|48=>234|49=>238|50=>239|57=>249|n=>n,fun|22=>47|24=>91|25=>179|3=>3|39=>72|0=>0|53=>103|55=>23|4=>4|46=>268|45=>267|50=>273|5=>5|9=>9|66=>306|70=>309|76=>323|77=>65|n=>n,fun|n=>n⟩
theorem air:Go.Proofs.SlLaysF0.n6 Zp U8:={
  mixed:=(by kernel_rfl)
  f6:=⟨Tryz.f102.name,by decide,Tryz.func102.trans<|congrArg some (by kernel_rfl)⟩
  f14:=⟨Tryz.f148.name,by decide,Tryz.func148.trans<|congrArg some (by kernel_rfl)⟩
  f15:=Tryz.func142.trans (congrArg some (by kernel_rfl))
  f20:=⟨Tryz.f196.name,by decide,Tryz.func196.trans<|congrArg some (by kernel_rfl)⟩
  f21:=⟨Tryz.f197.name,by decide,Tryz.func197.trans<|congrArg some (by kernel_rfl)⟩
  f22:=⟨Tryz.f198.name,by decide,Tryz.func198.trans<|congrArg some (by kernel_rfl)⟩
  f23:=⟨Tryz.f199.name,by decide,Tryz.func199.trans<|congrArg some (by kernel_rfl)⟩
  f24:=⟨Tryz.f200.name,by decide,Tryz.func200.trans<|congrArg some (by kernel_rfl)⟩
  f25:=⟨Tryz.f201.name,by decide,Tryz.func201.trans<|congrArg some (by kernel_rfl)⟩
  f26:=⟨Tryz.f202.name,by decide,Tryz.func202.trans<|congrArg some (by kernel_rfl)⟩
  f27:=⟨Tryz.f203.name,by decide,Tryz.func203.trans<|congrArg some (by kernel_rfl)⟩
  f28:=Tryz.func193.trans (congrArg some (by kernel_rfl))
  f29:=Tryz.func194.trans (congrArg some (by kernel_rfl))
  f46:=⟨Tryz.f237.name,by decide,Tryz.func237.trans<|congrArg some (by kernel_rfl)⟩
  f47:=Tryz.func233.trans (congrArg some (by kernel_rfl))
  f48:=Tryz.func234.trans (congrArg some (by kernel_rfl))
  f49:=⟨Tryz.f238.name,by decide,Tryz.func238.trans<|congrArg some (by kernel_rfl)⟩
  f50:=⟨Tryz.f239.name,by decide,Tryz.func239.trans<|congrArg some (by kernel_rfl)⟩
  f57:=⟨Tryz.f249.name,by decide,Tryz.func249.trans<|congrArg some (by kernel_rfl)⟩
  t0:=Tryz.underlying0
  a0:=Tryz.isAgg0
  z0:=Tryz.sizeOf0
  v0:=Tryz.zeroValue0
  t3:=Tryz.underlying3
  a3:=Tryz.isAgg3
  z3:=Tryz.sizeOf3
  v3:=Tryz.zeroValue3
  t4:=Tryz.underlying4
  a4:=Tryz.isAgg4
  z4:=Tryz.sizeOf4
  v4:=Tryz.zeroValue4
  t5:=Tryz.underlying5
  a5:=Tryz.isAgg5
  z5:=Tryz.sizeOf5
  v5:=Tryz.zeroValue5
  t9:=Tryz.underlying9
  a9:=Tryz.isAgg9
  z9:=Tryz.sizeOf9
  v9:=Tryz.zeroValue9
  t22:=Tryz.underlying47
  a22:=Tryz.isAgg47
  z22:=Tryz.sizeOf47
  v22:=Tryz.zeroValue47
  t25:=Tryz.underlying179
  a25:=Tryz.isAgg179
  z25:=Tryz.sizeOf179
  v25:=Tryz.zeroValue179
  t39:=Tryz.underlying72
  a39:=Tryz.isAgg72
  z39:=Tryz.sizeOf72
  v39:=Tryz.zeroValue72
  t45:=Tryz.underlying267
  a45:=Tryz.isAgg267
  z45:=Tryz.sizeOf267
  v45:=Tryz.zeroValue267
  t46:=Tryz.underlying268
  a46:=Tryz.isAgg268
  z46:=Tryz.sizeOf268
  v46:=Tryz.zeroValue268
  t50:=Tryz.underlying273
  a50:=Tryz.isAgg273
  z50:=Tryz.sizeOf273
  v50:=Tryz.zeroValue273
  t53:=Tryz.underlying103
  a53:=Tryz.isAgg103
  z53:=Tryz.sizeOf103
  v53:=Tryz.zeroValue103
  t55:=Tryz.underlying23
  a55:=Tryz.isAgg23
  z55:=Tryz.sizeOf23
  v55:=Tryz.zeroValue23
  t66:=Tryz.underlying306
  a66:=Tryz.isAgg306
  z66:=Tryz.sizeOf306
  v66:=Tryz.zeroValue306
  t70:=Tryz.underlying309
  a70:=Tryz.isAgg309
  z70:=Tryz.sizeOf309
  v70:=Tryz.zeroValue309
  t76:=Tryz.underlying323
  a76:=Tryz.isAgg323
  z76:=Tryz.sizeOf323
  v76:=Tryz.zeroValue323
  t77:=Tryz.underlying65
  a77:=Tryz.isAgg65
  z77:=Tryz.sizeOf65
  v77:=Tryz.zeroValue65}
end Go.Proofs.YtfadcpfgenjbeaaGreat
namespace Go.Wk
open Go Go.RowKit Go.Sort Go.Proofs
abbrev RPr:={p:Pr // right p.pb=true}
instance:Inhabited RPr:=⟨⟨{name:=[65],value:=[]},by decide⟩⟩
def qw (x:RPr):List Value:=Pr.cells x.1
theorem ab3 (x:RPr):∀v∈qw x,v.oneCell'=true:=by intro v A;simp[qw,Pr.cells]at A;rcases A with rfl|rfl <;> rfl
def cfP (x y:RPr):Int:=NH (whole x.1.pb)<|whole y.1.pb
theorem ltP (x y:RPr):ltOf cfP x y=Op.bytesLess (whole x.1.pb) (whole y.1.pb):=abi _ _
theorem al4:SWO (ltOf cfP) where
  irrefl x:=by rw[ltP];exact KL _
  trans x y z h1 h2:=by rw[ltP]at *;exact qn h1 h2
  ntrans x y z h1 h2:=by
    rw[ltP]at *;cases h3:Op.bytesLess (whole x.1.pb) (whole z.1.pb)with
    | false=>rfl
    | true =>
      cases h4:Op.bytesLess (whole y.1.pb) (whole x.1.pb)with
      | true=>have:=qn h4 h3;rw[h2]at this;cases this
      | false=>rw[CF h1 h4,h2]at h3;cases h3
theorem al7 (x y:RPr) (h1:ltOf cfP x y=false) (a:ltOf cfP y x=false):x=y:=by rw[ltP]at h1 a;exact Subtype.ext<|t7.1<|JR x.2 y.2<|CF h1 a
theorem aar (l:List RPr):(l.mergeSort fun x y=>!(ltOf cfP) y x).map Subtype.val=nZ (l.map Subtype.val):=by unfold nZ;exact List.map_mergeSort fun a _ b _=>by rw[ltP];rfl
theorem DW:∀(l:List Pr),(∀p∈l,right p.pb=true)->∃c:List RPr,c.map Subtype.val=l
  | [],_=>⟨[],rfl⟩
  | p :: r,h=>by obtain⟨d,b⟩:=DW r fun q a=>h q (by simp[a]);exact⟨⟨p,h p Oj⟩ :: d,by simp[b]⟩
theorem wE (d:List RPr):(flatK qw 2 d.toArray).toList=(d.map Subtype.val).flatMap Pr.cells:=by
  apply List.ext_getElem?;intro t;have F:(flatK qw 2 d.toArray).size=d.length*2:=by simp
  have G:((d.map Subtype.val).flatMap Pr.cells).length=d.length*2:=by rw[abG];simp
  by_cases ht:t<d.length*2
  · have A:=get_flatK qw 2 d.toArray t (by simpa using ht)
    have C:t/2<d.length:=(by omega);have D:d.toArray[t/2]! = d[t/2]:=(by rw[getElem!_pos d.toArray (t/2) (by simpa using C)];simp);rw[D]at A;have E:(qw d[t/2])[t%2]! = ((qw d[t/2])[t%2]'(by have:(qw d[t/2]).length=2:=rfl;omega)):=getElem!_pos (qw d[t/2]) (t%2) _;rw[E]at A;have B:=flat_get (xs:=d.map Subtype.val) (i:=t/2) (j:=t%2) (x:=d[t/2].1) (u:=(qw d[t/2])[t%2]'(by have:(qw d[t/2]).length=2:=rfl;omega)) (by simp[C]) (by rw[List.getElem?_eq_getElem (by have:(Pr.cells d[t/2].1).length=2:=rfl;omega)];rfl);rw[show t/2*2+t%2=t by omega]at B;rw[B,Array.getElem?_toList,<- A,getElem!_pos _ t (by simpa using ht)];exact Array.getElem?_eq_getElem _
  rw[List.getElem?_eq_none (by simpa using Nat.le_of_not_lt ht),List.getElem?_eq_none Xx]
theorem Rw.holds {w:World} {b cap:Nat} {d:List RPr} (h:Rw w b cap (d.map Subtype.val)):HoldsK qw 2 w b 0 d.toArray:=by
  obtain⟨c,e,i,G,C⟩:=h;intro a g;have f:a<d.length*2:=by simpa using g
  rw[Nat.zero_add,e.cell,e.frozen];refine⟨?_,q⟩;have D:(c.take<|(d.map Subtype.val).length*2)[a]? = c[a]?:=by rw[List.getElem?_take,if_pos (by simpa using f)]
  rw[<- D,C,<- wE,Array.getElem?_toList,getElem!_pos _ a (by simpa using f)];exact Array.getElem?_eq_getElem _
theorem Rw.sorted {w:World} {b cap n:Nat} {d d':List RPr} {os:Array Obj} (h:Rw w b cap (d.map Subtype.val)) (hl:d'.length=d.length) :
    Md [b] w (sortWorldK qw 2 w b 0 n d'.toArray os)/\Rw (sortWorldK qw 2 w b 0 n d'.toArray os) b cap (d'.map Subtype.val):=by
  obtain⟨A,D,F,E,I⟩:=h;have G:=D.lt;have C:(sortWorldK qw 2 w b 0 n d'.toArray os).heap[b]? = some (.cells (putCells id 0 (flatK qw 2 d'.toArray) A.toArray) 91 (0,0)):=by unfold sortWorldK grow putRowK putRow mapBlock;simp only[Sort.ahead];rw[Array.getElem?_append_left (by simpa using G),Array.getElem?_modify,if_pos q];have:w.heap[b]? = some (.cells A.toArray 91 (0,0)):=D;rw[this];rfl
  refine⟨⟨q,q,q,?_,?_⟩,(putCells id 0 (flatK qw 2 d'.toArray) A.toArray).toList,by unfold bK;rw[C],?_,?_,?_⟩
  · simp[sortWorldK,grow,putRowK,putRow,mapBlock,Sort.ahead]
  · intro k hk B
    simp only[List.mem_singleton]at B;unfold sortWorldK grow putRowK putRow mapBlock;simp only[Sort.ahead];rw[Array.getElem?_append_left (by simpa using hk),Array.getElem?_modify,if_neg (fun h=>B h.symm)]
  · simp[putCells,F]
  · simp at E ⊢;omega
  rw[<- wE];have B:(flatK qw 2 d'.toArray).size=d'.length*2:=by simp
  apply List.ext_getElem?;intro t;simp only[List.length_map]at E ⊢
  by_cases ht:t<d'.length*2
  · rw[List.getElem?_take,if_pos ht,Array.getElem?_toList,Array.getElem?_toList]
    unfold putCells;rw[Array.getElem?_mapIdx];have H:t<A.length:=(by omega);simp only[List.getElem?_toArray,List.getElem?_eq_getElem H,Option.map_some,Nat.zero_le,true_and,Nat.zero_add,B,ht,if_true,Nat.sub_zero,id];rw[getElem!_pos _ t (by simpa using ht)];exact(Array.getElem?_eq_getElem _).symm
  rw[List.getElem?_eq_none Xh,List.getElem?_eq_none Xh]
end Go.Wk
namespace Go.Proofs.YtfadcpfgenjbeaaGreat
open Go Go.Wk Go.RowKit
set_option linter.unusedVariables false
set_option linter.unusedSimpArgs false
attribute [local irreducible] wpList wpQuiet wpStill eF Code.wp Calls bodyPost
variable {w:World} {Q:Nat->Prop}
theorem NI {w:World} {Q lo:Nat->Prop} {v:Value} {xs:List Pr} (J:Ow mq 91 lo w Q v xs) :
  Calls Zp 104 #[v] w fun aq A=>∃Z,aq = .returned Z/\Md (ah v).toList w A/\ah Z=ah v/\Ow mq 91 lo A Q Z (iu xs):=by
 have aC:=J.read.eJ;refine enter (n:=61) Tryz.func104 rfl rfl rfl fun aa=>ns<|an rfl<|aH<|nM rfl<|sL rfl nW J.eA<|su (fJ (a:=xs.length) (b:=2) rfl rfl)<|nt ?_;refine cJ rfl (fun U=>?_)<|fun U=>?_
 ·have ad:=dq U;refine nM rfl<|ar rfl<|aS ?_;exact gh trivial rfl rfl ⟨_,rfl,Md.refl _ w,rfl,(FU ad).symm ▸ J⟩
 have ad:=dF U;obtain⟨b,u,rfl,B,C,d,ae⟩:=J.rw_ Xx;have c:xs.length<=u:=(by obtain⟨_,_,_,h,_⟩:=C;exact h);have P:R3 (.slice (some ⟨b,0,none⟩) xs.length u) xs.length:=⟨_,_,rfl,c,B,by simp⟩;refine aM<|aA<|aH<|ns<|an rfl<|bf ?_;have e:=Md.refl [b] w;refine vm (fun(i:Nat)=>[(3,(iZ i)),(0,.slice (some ⟨b,0,none⟩) xs.length u)]) (fun i A=>Md [b] w A/\Rw A b u xs/\1<=i/\i<=xs.length/\xs.take i ++ KO (xs.getD (i-1) {name:=[],value:=[]}) (xs.drop i)=iu xs) (fun i=>xs.length-i) 1 ?_ ?_ ?_
 ·exact⟨rfl,rfl,tV⟩
 ·exact⟨e,C,Nat.le_refl _,by omega,FV Xx⟩
 clear e C;rintro i aa aD ⟨e,C,ax,ay,W⟩;refine aH<|ns<|m2 rfl rfl<|sL rfl nW P<|su (fJ (a:=i) (b:=xs.length) rfl rfl)<|nt ?_;refine cJ rfl (fun R=>?_)<|fun R=>?_
 ·have ab:=dq R;refine aM<|aA<|aH<|bf<|aH ?_;obtain⟨x,I⟩:=gF (l:=xs) (i:=i) ab;obtain⟨y,ai⟩:=gF (l:=xs) (i:=i-1) Xx;have D:=C;refine nL (ml 9) [9] mixed ?_;intro aE L;refine mo rfl<|mo rfl<|my (bQ (i:=i) 2 rfl rfl nW ou P Xx)<|mz (fun A B=>fI (kk:=i*2) (Pr.cells x) 0 rfl rfl (by exact iA) ((D.at_ I Xx).o B) rfl)<|mo rfl<|mo rfl<|my (rS (a:=i) (b:=1) rfl rfl Xx)<|my (bQ (i:=i-1) 2 rfl rfl nW ou P Xx)<|mz (fun A B=>fI (kk:=(i-1)*2) (Pr.cells y) 0 rfl rfl (by exact iA) ((D.at_ ai Xx).o B) rfl)<|di ?_;obtain⟨C,e⟩:=k2 L C e;refine su (Xb (p:=x) (q:=y) TP u9 rfl rfl)<|nt ?_;rw[VG I,o7 ai]at W;refine cJ rfl (fun N=>?_)<|fun N=>?_
  ·have G:=dq N;rw[if_pos G]at W;have K:R3 (.slice (some ⟨b,i*2,none⟩) (xs.length-i)<|u-i) (xs.length-i):=⟨_,_,rfl,by omega,by omega,by simp⟩;refine ns<|m2 rfl rfl<|su (cw.to (b:=.slice (some ⟨b,i*2,none⟩) (xs.length-i)<|u-i) (by exact jE 2 i xs.length nW ou rfl P Xx Xx ⟨_,rfl⟩ rfl)<|JM Xx)<|an rfl<|aH<|ns<|cV rfl<|nt<|bf ?_;refine kV (fun(E:List Pr) (j:Nat) (k:Nat)=>[(3,(iZ j)),(5,(iZ k)),(0,.slice (some ⟨b,0,none⟩) xs.length u),(4,.slice (some ⟨b,i*2,none⟩) (xs.length-i) (u-i))])
    (fun(E:List Pr) (j:Nat) (k:Nat) A=>Md [b] w A/\Rw A b u E/\E.length=xs.length/\i<=j/\j+1<=i+k/\i+k<=xs.length/\(∀q,i+k-1<=q->E[q]? = xs[q]?)/\E.take j ++ KO (xs.getD (i+k-1) {name:=[],value:=[]}) (xs.drop<|i+k)=iu xs)
    (fun(E:List Pr) (j:Nat) (k:Nat)=>xs.length-k) (x0:=xs) (x1:=i) (x2:=1) ?_ ?_ ?_
   ·exact⟨rfl,rfl,rfl,rfl,tV⟩
   ·exact⟨e,C,rfl,Nat.le_refl _,Nat.le_refl _,by omega,fun q _=>rfl,by rw[Nat.add_sub_cancel,o7 I];exact W⟩
   clear e C;rintro E j k aa aF ⟨e,C,hl,az,aB,hk,f,F⟩;have aw:R3 (.slice (some ⟨b,0,none⟩) xs.length u) xs.length:=P;refine aH<|ns<|m2 rfl rfl<|sL rfl nW K<|su (fJ (a:=k) (b:=xs.length-i) rfl rfl)<|nt ?_;refine cJ rfl (fun T=>?_)<|fun T=>?_
   ·have ap:=dq T;refine aM<|aA<|aH<|bf<|aH ?_;obtain⟨s,g⟩:=gF (l:=xs) (i:=i+k) Xx;obtain⟨t,ag⟩:=gF (l:=xs) (i:=i+k-1) Xx;have af:=(f (i+k) Xx).trans g;have au:=(f (i+k-1) Xx).trans ag;have D:=C;refine nL (ml 9) [9] mixed ?_;intro aJ L;refine mo rfl<|mo rfl<|my (bQ (i:=k) 2 rfl rfl nW ou K Xx)<|mz (fun A B=>fI (kk:=k*2) (Pr.cells s) 0 rfl rfl (by exact iA) ((D.at_ af Xx).o B) rfl)<|mo rfl<|mo rfl<|my (rS (a:=k) (b:=1) rfl rfl Xx)<|my (bQ (i:=k-1) 2 rfl rfl nW ou K Xx)<|mz (fun A B=>fI (kk:=(k-1)*2) (Pr.cells t) 0 rfl rfl (by exact iA) ((D.at_ au Xx).o B) rfl)<|di ?_;obtain⟨C,e⟩:=k2 L C e;refine su (afK (p:=s) (q:=t) TP u9 rfl rfl)<|nt ?_;rw[VG g,o7 ag]at F;refine cJ rfl (fun O=>?_)<|fun O=>?_
    ·have H:¬s.pb=t.pb:=(by simpa using O);rw[if_neg H]at F;refine ns<|m2 rfl rfl<|mv rfl<|mv rfl<|su (bQ (i:=k) 2 rfl rfl nW ou K Xx)<|su (fI (kk:=k*2) (Pr.cells s) 0 rfl rfl (by exact iA) (C.at_ af Xx) rfl)<|su ((bQ (i:=j) 2 rfl rfl nW ou P Xx).to (b:=.pointer<|some ⟨b,j*2,none⟩) (by simp[mF,Addr.jj])) ?_;obtain⟨ak,X,S,M⟩:=C.into (i:=j) (z:=s) Xx;refine cA (b:=b) (j:=j*2) (us:=Pr.cells s) rfl rfl (by exact iA) (fun aj r=>dB rfl aj r) X S ?_;intro av Y V;have C:=M _ V;have e:=e.eT Y Oj;refine nt<|aI<|mv rfl<|su (rA (a:=j) (b:=1) rfl rfl Xx)<|cV rfl<|aG<|bG<|aA<|aI<|mv rfl<|su (rA (a:=k) (b:=1) rfl rfl Xx)<|an rfl ?_;refine iW (E.set j s) (j+1) (k+1) Xx ⟨(cW rfl Xx),(cW rfl Xx),rfl,rfl,tV⟩ ⟨e,C,by simpa using hl,by omega,by omega,by omega,fun q am=>by rw[List.getElem?_set_ne Xx];exact f q Xx,?_⟩;rw[show i+(k+1)-1=i+k by omega,o7 g,show i+(k+1)=i+k+1 by omega,GD Xx,List.append_assoc];exact F
    have H:s.pb=t.pb:=(by simpa using O);rw[if_pos H]at F;refine aM<|bG<|aA<|aI<|mv rfl<|su (rA (a:=k) (b:=1) rfl rfl Xx)<|an rfl ?_;refine iW E j (k+1) Xx ⟨rfl,(cW rfl Xx),rfl,rfl,tV⟩ ⟨e,C,hl,by omega,by omega,by omega,fun q am=>f q Xx,?_⟩;rw[show i+(k+1)-1=i+k by omega,o7 g,show i+(k+1)=i+k+1 by omega];exact F
   have ap:=dF T;rw[abp Xx,List.append_nil]at F;refine cM<|bB<|bB<|dJ<|aA<|ns<|m2 rfl rfl<|su (cw.to (b:=.slice (some ⟨b,j*2,none⟩) (xs.length-j)<|u-j) (by exact jE 2 j xs.length nW ou rfl P Xx Xx ⟨_,rfl⟩ rfl)<|JM Xx) ?_;obtain⟨ak,X,S,M⟩:=C.clear (i:=j) (m:=xs.length-j) Xx Xx;refine aer (o:=j*2) (m:=xs.length-j) nW z91 (by intro aj r;simp at r;subst r;rfl) rfl Xx X S ?_;intro av us Y ao V;have C:=M _ us ao V;rw[F]at C;have e:=e.eT Y Oj;refine nt<|ns<|m2 rfl rfl<|su (cw.to (b:=.slice (some ⟨b,0,none⟩) j u) (by exact jE 2 0 j nW ou rfl P Xx Xx rfl ⟨_,rfl⟩)<|aaw Xx)<|ar rfl ?_
   repeat (first|refine aS ?_|refine bS ?_)
   have al:j=(iu xs).length:=(by rw[<- F,List.length_take];omega);refine gh trivial rfl rfl ⟨_,rfl,e,rfl,?_⟩;rw[al];exact C.ow B d ae
  have G:=dF N;rw[if_neg G]at W;refine aM<|bG<|aA<|aI<|mv rfl<|su (rA (a:=i) (b:=1) rfl rfl Xx)<|an rfl ?_;refine sZ (i+1) Xx ⟨(cW rfl Xx),rfl,tV⟩ ⟨e,C,by omega,by omega,?_⟩;rw[Nat.add_sub_cancel,o7 I,List.take_add_one,I,Option.toList_some,List.append_assoc];exact W
 have ab:=dF R;rw[abp Xx,List.append_nil,List.take_of_length_le Xx]at W;refine cM<|bB<|bB<|dJ<|aA<|nM rfl<|ar rfl ?_
 repeat (first|refine aS ?_|refine bS ?_)
 refine gh trivial rfl rfl ⟨_,rfl,e,rfl,?_⟩;rw[<- W];exact C.ow B d ae
theorem agJ:cO Zp 204=true:=Xj
theorem WE (a:Ly) (w:World):Calls Zp 204 #[str a] w fun b c=>b = .returned (.bool false)/\w=c:=by have e:=Md.refl [] w;refine enter (n:=6) Tryz.func204 q q q fun d=>ns<|an q<|ns<|m2 q q<|su (ail q q)<|ar q ?_;exact gh trivial q q ⟨mS Oj,q⟩
theorem aeY (a b:Ly) (w:World):Calls Zp 149 #[str a,str b] w fun e f=>e = .returned (iZ<|NH a b)/\w=f:=by
 have h:=Md.refl [] w;refine enter (n:=20) Tryz.func149 q q q fun g=>ns<|an q<|nM q<|Rz agJ q (WE a _) ?_;rintro e _ ⟨rfl,rfl⟩;refine an q<|nM q<|Rz agJ q (WE b _) ?_;rintro e _ ⟨rfl,rfl⟩;refine an q<|aH<|nM q<|nt<|gV q q<|aM<|aA<|aH<|ns<|mv q<|nt<|gV q q ?_;refine aM<|aA<|aH<|ns<|m2 q q<|su (adS q q)<|nt ?_;refine cJ q (fun d=>?_)<|fun d=>?_
 ·(first|(have c:=dq d)|(have c:=dF<|ir d)|(have c:=ir d)|(have c:=d));refine ns<|ar q<|aS ?_;exact gh trivial q q ⟨sB (by unfold NH;rw[if_pos c]),q⟩
 (first|(have c:=dF d)|(have c:=dq<|iq d)|(have c:=iq d)|(have c:=d));refine aM<|aA<|aH<|ns<|m2 q q<|su (aii q q)<|nt ?_;refine cJ q (fun C=>?_)<|fun C=>?_
 ·(first|(have D:=dq C)|(have D:=dF<|ir C)|(have D:=ir C)|(have D:=C));refine ns<|ar q<|aS ?_;exact gh trivial q q ⟨sB (by unfold NH;rw[if_neg (by simp[c]),if_pos C]),q⟩
 (first|(have D:=dF C)|(have D:=dq<|iq C)|(have D:=iq C)|(have D:=C));refine aM<|aA<|ns<|ar q ?_;exact gh trivial q q ⟨sB (by unfold NH;rw[if_neg (by simp[c]),if_neg (by rw[C];decide)]),q⟩
theorem ajr:cO Zp 149=true:=Xj
theorem QZ (p:sE) (w:World) (hl:p.1.length+p.2.length<=4611686018427387904):Calls Zp 147 #[jP p] w fun c d=>c = .returned (str<|whole p)/\Gr w d:=by have a:=Gr.refl w;refine enter (n:=9) Tryz.func147 q q q fun e=>ns<|xQ q q ?_;intro D G f g C b;have a:=a.k C;refine an q<|ns<|sf q pL<|su (aD q mM b q)<|st (str<|p.1 ++ [61]) (yY q q (by(simp;omega)))<|sf q uL<|su (aD q mM b q)<|st (str<|p.1 ++ [61] ++ p.2) (yY q q Xh)<|ar q ?_;exact gh trivial q q ⟨q,a⟩
theorem adD (p q:sE) (w:World) (h:p.1.length+p.2.length<=4611686018427387904) (i:q.1.length+q.2.length<=4611686018427387904):Calls Zp 103 #[jP p,jP q] w fun d c=>d = .returned (iZ<|NH (whole p)<|whole q)/\Gr w c:=by have b:=Gr.refl w;refine enter (n:=10) Tryz.func103 rfl rfl rfl fun j=>ns<|xQ rfl rfl ?_;intro l Q r t a G;have b:=b.k a;refine xQ rfl rfl ?_;intro m g s P a H;have G:=G.o a.md;have b:=b.k a;refine an rfl<|aH ?_;have D:=G;have f:=H;refine ahx [(0,true),(2,true),(1,false),(3,false),(4,false),(5,true)] (fun c=>Md [] g c) mixed Xj ?_;intro R a;have C:=a.md;have b:=b.k a;refine⟨C,?_⟩;refine mz (fun c e=>lF rfl (by exact iA)<|D.o e)<|mz (fun c e=>lF rfl (by exact iA)<|f.o e) ?_;refine jc ?_ rfl;refine Rz abI rfl (QZ p _ h) ?_;rintro d u ⟨rfl,a⟩;have C:=C.k a.md;have b:=b.k a;refine aG ⟨rfl,C,?_⟩;refine jc ?_ rfl;refine Rz abI rfl (QZ q _ i) ?_;rintro d T ⟨rfl,a⟩;have C:=C.k a.md;have b:=b.k a;refine aG ⟨rfl,C,?_⟩;refine jc ?_ rfl;refine Rz ajr rfl (aeY _ _ _) ?_;rintro d v ⟨rfl,rfl⟩;refine aG ⟨rfl,C,?_⟩;refine my (gg rfl)<|di<|aA<|lO ?_;exact gh trivial rfl rfl ⟨rfl,b⟩
theorem aen {w:World} {Q lo:Nat->Prop} {v:Value} {xs:List Pr} (r:Ow mq 91 lo w Q v xs) (h1:1<=xs.length) (s:∀p∈xs,right p.pb=true) (hl:xs.length<=1000000) :
  Calls Zp 102 #[v,.func (.func 103) #[] #[]] w fun o a=>o = .returned (.tuple #[])/\Md (ah v).toList w a/\Ow mq 91 lo a Q v (nZ xs):=by
 obtain⟨b,g,rfl,j,c,G,i⟩:=r.rw_ h1;obtain⟨d,rfl⟩:=DW xs s;have H:∀args w,(callFunc 103 args).run Zp w = .ok (.enter 103 args) w:=Go.Proofs.enters_of Tryz.func103 Xj q;have C:CmpLays Zp 103 #[] qw 2 cfP b 0 d.toArray.size w:=fun m os t _ x y =>
  (adD x.1.pb y.1.pb _ (by have:=JE x.2;omega) (by have:=JE y.2;omega)).mono fun l a ⟨he,hg⟩=>⟨he,hg.grown⟩
 have e:=AnyQ.slices_SortFunc_total air 2 Tryz.isAgg91 Tryz.sizeOf91 qw (fun _=>rfl) ab3 cfP al4 103 #[] b 0 g d.toArray w H C c.holds (by obtain⟨_,h,_⟩:=c;exact h.lt) (by simp at hl ⊢;omega) al7;simp only[List.size_toArray,List.length_map]at e hl ⊢;refine e.mono ?_;rintro l a ⟨rfl,n,os,rfl⟩;obtain⟨k,f⟩:=c.sorted (n:=n) (os:=os) (d':=d.mergeSort fun x y=>!(ltOf cfP) y x) Oj;refine⟨q,by simpa [ah]using k,?_⟩;rw[aar]at f;have D:(nZ<|d.map Subtype.val).length=d.length:=(by simp[nZ]);have:=f.ow (lo:=lo) (Q:=Q) j G i;rw[D]at this;exact this
theorem SI (X:Up w Q) {p:Value} {l:List Pr} (j:Ls mq w Q p l) (aa:1<=l.length) (ab:l.length<=1000000) :
  Calls Zp 101 #[p] w fun U r=>∃y:Value,∃v:List Pr,∃u:Nat->Prop,U = .returned (y)/\Md [] w r/\iQ w r Q u/\Ow mq 91 (aX [] w) r u y v/\l=v:=by
 obtain⟨a,e,K,R⟩:∃a e,p = .slice (some a) l.length e/\l.length<=e:=by
  obtain⟨a,e,g,S,F,h,I,_⟩:=j;cases a with
  | none=>have:=I rfl;omega
  | some a=>exact⟨a,e,S,F⟩
 refine enter (n:=8) Tryz.func101 q q q fun Y=>ns<|an q<|aH<|nM q<|st (.bool false) (by exact LX (a:=some a) (m:=l.length) (c:=e) (by rw[<- K];rfl) nW)<|nt ?_;refine cJ q (fun H=>(by cases H))<|fun H=>?_;refine aM<|aA<|ns<|kF nW CR ?_;intro b f D L C J;obtain⟨B,t,M,V,O⟩:=oI X D L C;have P:Ow mq 91 (aX [] w) f B (.slice (some ⟨b,0,none⟩) 0 0) []:=Ow.cL (m:=0) J q q (by simp[maxLen]) (.inr D) V;have j:=(j.sub t).o C;refine mv q<|qd (sz:=2) q nW CR q q P j.lz O (aX.new C) Xh Xh ?_;intro Z k E W N d z A i _ T;refine ar q ?_;exact gh trivial q q ⟨_,_,E,q,C.gD A D,⟨Sx W t C.size,fun x G=>M x<|N x G,d⟩,z,by simp⟩
theorem aiS:cO Zp 101=true:=Xj
theorem aiT:cO Zp 102=true:=Xj
theorem aiU:cO Zp 104=true:=Xj
theorem Zu (s:Up w Q) {K:Value} {l:List Pr} (j:Ls mq w Q K l) (aO:l.length<=1000) :
  Calls Zp 55 #[K] w fun L M=>∃ag:Value,∃U:List Pr,∃ab:Nat,L = .returned (.tuple #[ag,(iZ ab)])/\Md [] w M/\Ls mq M Q ag U/\ab<9223372036854775808/\gX l=(U,ab):=by
 have aK:=j.eJ;have e:=Md.refl [] w;have aj:=s;have E:∀b,Q b->Q b:=fun _ h=>h;have J:∀b,Q b->b<w.heap.size->Q b:=fun _ h _=>h;refine enter (n:=37) Tryz.func55 q q q fun al=>ns<|cV q<|an q<|aH<|nM q<|sL q nW j.eA<|su (fD (a:=l.length) (b:=0) q q)<|nt ?_;refine cJ q (fun Y=>?_)<|fun Y=>?_
 ·have G:=dq Y;refine ns<|cV q<|ar q<|aS ?_;exact kM (vs:=[SN,(iN 16)]) trivial q Fz q ⟨_,[],16,q,e,(Ls.nil _ _ _),Xx,(by rw[gX]<;>simp(disch:=first|omega|assumption|simp) only [SS,reduceIte,G])⟩
 have G:=dF Y;refine aM<|aA<|aH<|nM q<|sL q nW j.eA<|mv q<|nt<|bf ?_;obtain⟨U,H⟩:∃r,CJ l (EQ l)=r:=⟨_,q⟩;have aw:=H
 try simp only[List.nil_append]at H
 refine vm (fun(i:Nat)=>[(14,(iZ i)),(0,K),(12,K),(13,(iZ l.length))]) (fun i M=>LQ Q w [] M fun am=>Ls mq M am K l/\i<=l.length/\(∀I∈l.take i,right I.pb=true)/\CJ (l.drop i) (EQ l)=U) (fun i=>l.length-i) 0 ?_ ?_ ?_
 ·exact Fz
 ·exact⟨Q,E,J,s,e,j,Xx,Oj,(by have u:=H;exact u)⟩
 clear e s E J j;rintro i al aP ⟨aL,E,J,s,e,j,ay,W,f⟩;refine ns<|su (fJ (a:=i) (b:=l.length) q q)<|nt<|aH ?_;refine cJ q (fun Z=>?_)<|fun Z=>?_
 ·have V:=dq Z;refine aM<|aA<|aH<|bf<|ns<|su (bQ (i:=i) 2 q q nW ou j.eA Xx) ?_;obtain⟨k,P⟩:=gF (l:=l) (i:=i) Xx;obtain⟨c4,ah,T⟩:=j.get P;obtain⟨_,rfl⟩:=kP ah;have T:At _ K (i*2) (Pr.cells k):=T;refine su (fI (kk:=i*2) (Pr.cells k) 0 q q (by exact iA) T q)<|dP z91 ?_;intro o aQ S ai m B;obtain⟨ad,v,x,g,R⟩:=oI s S ai m;have E:=tT E x;have J:=Sx v J e.size;have S:=lv e.size S;have j:=(j.sub v).o m;have e:=e.k m;have s:=R;have ap:aX [] w o:=.inr S;have B:bK _ _ (Pr.cells<|({name:=[],value:=[]}:Pr)) _:=B;refine cA (us:=(Pr.cells k)) q q (by exact iA) (by exact fun au ao=>dB (Pr.one) au ao) B (lq q) ?_;have t:=B;intro aR m B;have af:∀b∈[o],¬ad b:=hI g;have j:=j.md m af;have s:=s.md m;have e:=e.step m<|hI ap;have B:bK _ _ (Pr.cells k) _:=B;refine nt<|ns<|su (bU (Pr.cells k) q (by exact iA) B q)<|Rz agB q (HS s k) ?_;rintro L aT ⟨aB,aD,O,rfl,m,av,az,aa⟩;obtain⟨j,s,e⟩:=k3 m j s e;refine mv q<|se q q<|se q q<|cV q<|an q<|nM q<|su (fU (a:=O) (b:=0) q q)<|nt ?_;refine cJ q (fun c=>?_)<|fun c=>?_
  ·have N:=dq c;refine ns ?_;have y:gX l=([],O):=(by have u:=f;rw[NG P,aa]at u;simp only at u;rw[if_pos N]at u;unfold gX;rw[if_neg G,H,<- u]);refine mv q<|cV q<|ar q<|bS<|aS<|aS<|bS<|aS ?_;exact kM (vs:=[SN,(iZ O)]) trivial q Fz q ⟨_,[],O,q,e,(Ls.nil _ _ _),Xk,y⟩
  have N:=dF c;refine aM<|bG<|aA<|aI<|su (rA (a:=i) (b:=1) q q Xx)<|mv q<|nt ?_;refine sZ (i+1) Xx ⟨(cW q Xx),q,q,q,tV⟩ ⟨ad,E,J,s,e,j,Xx,(by intro I z;rw[List.take_add_one,P]at z;rcases List.mem_append.1 z with h|h;exact W I h;simp at h;subst h;exact jX.1 (by rw[aa];simpa using N)),(by have u:=f;simp(disch:=first|omega|assumption|simp) only [VB,NG P,SS,reduceIte,G,V,P,aa,N]at u;exact u)⟩
 have V:=dF Z;refine cM<|bB<|bB<|dJ<|aA<|ns ?_;have aq:∀I∈l,right I.pb=true:=fun I z=>W I (by rw[List.take_of_length_le Xx];exact z);have y:gX l=EQ l:=(by have u:=f;rw[VB Xx]at u;unfold gX;rw[if_neg G,H,<- u]);refine mv q<|Rz aiS q (SI s j Xx Xx) ?_;rintro L aU ⟨aC,ae,aE,rfl,m,⟨v,x,R⟩,A,p⟩;have E:=tT E x;have A:=A.lower<|aX.lift (S':=[]) e;have e:=e.k m;have s:=R;refine an q<|nM q<|Rz aiT q (aen A (by subst_vars;omega) (by subst_vars;exact aq) (by subst_vars;omega)) ?_;rintro L aG ⟨rfl,m,D⟩;have C:=A;have A:=D;have e:=e.cE m<|Sy C;refine nt<|nM q<|Rz aiU q (NI A) ?_;rintro L aJ ⟨ak,rfl,m,aF,D⟩;have C:=A;have A:=D;have e:=e.cE m<|Sy C;refine an q<|aH<|ns ?_;have cl:=NJ<|nZ l;have aN:(nZ l).length=l.length:=(by simp[nZ]);refine mv q<|sL q nW A.eA ?_
 refine su (jQ (a:=((iu<|nZ ae).length)) (b:=16) q q)<|nt ?_;refine cJ q (fun d=>?_)<|fun d=>?_
 ·have X:=dq d;refine ns<|cV q<|ar q<|aS ?_;exact kM (vs:=[SN,(iN 21)]) trivial q Fz q ⟨_,[],21,q,e,(Ls.nil _ _ _),Xx,(by rw[y,EQ,vp,p,if_pos X])⟩
 have X:=dF d;refine aM<|aA<|nM q<|cV q<|ar q ?_;exact kM (vs:=[ak,(iN 0)]) trivial q Fz q ⟨_,(iu<|nZ ae),0,q,e,(A.ls (fun b F=>E b F)<|aX.up aj),Xx,(by rw[y,EQ,vp,p,if_neg X])⟩
end Go.Proofs.YtfadcpfgenjbeaaGreat
