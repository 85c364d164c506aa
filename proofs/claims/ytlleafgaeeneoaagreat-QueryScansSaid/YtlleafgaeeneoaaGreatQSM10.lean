/- Part 10 of what the walk of a law stands on: VRec, VRec1, VRec2, VJf, VGood, VSpo, SortN, SLaid, VSame, CkA, VQu, VQz, VQA, VQB, VTab, VTab2, VTab3, VFo, VFo1, VFo2, VCh, VCh4. No statement is proved here. -/
import Derived.Test.YtlleafgaeeneoaaGreatQSM9
import Derived.Test.YtlleafgaeeneoaaGreatRows
set_option maxRecDepth 100000
namespace Go.Proofs.YtlleafgaeeneoaaGreat
open Go Go.Wk Go.RowKit
set_option linter.unusedVariables false
set_option linter.unusedSimpArgs false
attribute [local irreducible] wpList wpQuiet wpStill fD Code.wp Calls bodyPost
variable {w:World} {Q:Nat->Prop}
theorem abY:fI Zp 240 2=true:=Xw
theorem akG:cu Zp 147=true:=Xw
theorem akH:cu Zp 148=true:=Xw
theorem akI:cu Zp 149=true:=Xw
theorem akJ:cu Zp 150=true:=Xw
theorem aeB:aP Zp 238 1=some 1:=Xw
theorem aeC:aP Zp 238 2=some 2:=Xw
theorem aeD:aP Zp 238 4=some 19:=Xw
theorem aeE:aP Zp 240 1=some 1:=Xw
set_option maxHeartbeats 16000000 in
theorem afF (j:Up w Q) {v0:Value} {v:dx} (e:Pt dO 135 w Q v0 v) (p:Nat) (dW:p<18446744073709551616) (dX:v.b.length<=1000000) :
  Calls Zp 111 #[v0,(.int .u64 p)] w fun aC X=>(∃bX:Value,∃aP:Rec,aC = .returned (.agg (Rec.cells aP bX).toArray)/\Md [] w X/\Rec.ok aP/\Ls pU X Q bX aP.ak/\nv (decide (v.h.bN &&& 4≠0)) v.h.cg (v.h.n.getD 0 0) v.b p=(aP,0))\/∃ap:Nat,aC = .panicked (NE (.iface 234 (.agg #[.int .i64 ap])))/\(ap≠0/\ap<9223372036854775808)/\Md [] w X/\(nv (decide (v.h.bN &&& 4≠0)) v.h.cg (v.h.n.getD 0 0) v.b p).2=ap:=by
 obtain⟨aq,ds,rfl,V,e,qx⟩:=e;obtain⟨bZ,rfl,bV,F⟩:=eu qx;have d:=Md.refl [] w;have cz:=j;have S:∀b,Q b->Q b:=fun _ h=>h;have o:∀b,Q b->b<w.heap.size->Q b:=fun _ h _=>h;refine enter (n:=77) Tryz.func111 q q q fun b0=>ns (bI z51 ?_);intro ab dZ a8 cv D H;have c4:aq≠ab:=(by have:=e.lt;omega);obtain⟨dV,A,E,U,N⟩:=jC j a8 cv D;have V:=A _ V e.lt;have S:=tT S E;have o:=fun b M O=>A b (o b M O) (lj O d.size);have a8:=lv d.size a8;have F:=(F.sub A).o D;obtain⟨e,d⟩:=k2 D e d;have j:=N;have b3:bA [] w ab:=.inr a8;have H:bC _ _ (Rec.cells (OB) SN) _:=H;have dq:Rec.ok (OB):=(by exact⟨Xy,Xy,Xy,q⟩);refine nt (ns (m2 q q (jq akG q (WU j ⟨_,_,q,V,e,dw bV F⟩ p Xx Xx) ?_)));rintro aC d0 (⟨g,G,rfl,D,aQ,C,ar⟩|⟨ap,rfl,am,D,ar⟩);rotate_left
 ·exact .inr ⟨_,q,gB (Or.inr ⟨ap,q,am,d.k D,(ajM ar am.1)⟩)⟩
 refine .inl ⟨_,q,?_⟩;obtain⟨F,e,H,j,d⟩:=k5 D F e H j d;refine bI OA ?_;intro ad d1 Bk cw D s;have c5:aq≠ad:=(by have:=e.lt;omega);have cY:ab≠ad:=(by have:=H.lt;omega);obtain⟨cB,A,E,Y,N⟩:=jC j Bk cw D;have V:=A _ V e.lt;have U:=fun t=>U (E _ t);have S:=tT S E;have o:=fun b M O=>A b (o b M O) (lj O d.size);have Bk:=lv d.size Bk;have F:=(F.sub A).o D;obtain⟨e,H⟩:=k2 D e H;have C:=(C.sub A).o D;have d:=d.k D;have j:=N;have b4:bA [] w ad:=.inr Bk;have s:bC _ _ (gU.cells (wu) SN) _:=s;have c8:gU.ok (wu):=(by exact⟨Xy,Xy,Xy,q,Xy⟩);refine aK (us:=(gU.cells G g)) q q (by exact mq) (by exact fun u af=>aV (gU.one C.bB) u af) s (lB q) ?_;have co:=s;intro dE D s;have c:∀b∈[ad],¬cB b:=(hI Y);have F:=F.md D c;have e:=e.md D Zz;have H:=H.md D Zz;have C:=C.md D c;have j:=j.md D;have d:=d.step D (hI b4);have s:bC _ _ (gU.cells G g) _:=s;refine nt (ns (sf q RS (sl (u:=(.int .u64 G.seq)) q bh s q ?_)));have dt:G.seq<18446744073709551616:=aQ.1;refine sf q aeB ?_;refine sl (u:=(.int .u64 G.bK)) q bh s q ?_;have du:G.bK<18446744073709551616:=aQ.2.1;refine sf q aeC (sl (u:=(.int .u64 G.mono)) q bh s q ?_);have dv:G.mono<18446744073709551616:=aQ.2.2.1;refine sf q RU (st _ (bL (iY G.bD) q (by exact nB) s q) ?_);have dy:G.bD.length=16:=aQ.2.2.2.1;refine st _ (bO (us:=[[(.int .u64 G.seq)],[(.int .u64 G.bK)],[(.int .u64 G.mono)],(iY G.bD)]) (cs:=(Rec.cells (({seq:=G.seq,bK:=G.bK,mono:=G.mono,bD:=G.bD,ak:=[]}:Rec)) SN)) [(0,0,1),(1,1,1),(2,2,1),(3,3,16)] z51 aj6 q q ⟨q,q,q,q,tV⟩ ⟨q,q,q,q,tV⟩ q q) (bI z51 ?_);intro Z dG a9 cx D B;have c6:aq≠Z:=(by have:=e.lt;omega);have cZ:ab≠Z:=(by have:=H.lt;omega);have c1:ad≠Z:=(by have:=s.lt;omega);obtain⟨bH,A,E,W,N⟩:=jC j a9 cx D;have V:=A _ V e.lt;have U:=fun t=>U (E _ t);have Y:=fun t=>Y (E _ t);have S:=tT S E;have o:=fun b M O=>A b (o b M O) (lj O d.size);have a9:=lv d.size a9;have F:=(F.sub A).o D;obtain⟨e,H⟩:=k2 D e H;have C:=(C.sub A).o D;obtain⟨s,d⟩:=k2 D s d;have j:=N;have bv:bA [] w Z:=.inr a9;have B:bC _ _ (Rec.cells (OB) SN) _:=B;have c9:Rec.ok (OB):=(by exact⟨Xy,Xy,Xy,q⟩);refine aK (us:=(Rec.cells (({seq:=G.seq,bK:=G.bK,mono:=G.mono,bD:=G.bD,ak:=[]}:Rec)) SN)) q q (by exact nW) (by exact fun u af=>aV (Rec.one q) u af) B (lB q) ?_;have aT:=B;intro dH D B;have c:∀b∈[Z],¬bH b:=(hI W);have F:=F.md D c;have e:=e.md D Zz;have H:=H.md D Zz;have C:=C.md D c;have s:=s.md D Zz;have j:=j.md D;have d:=d.step D (hI bv);have B:bC _ _ (Rec.cells (({seq:=G.seq,bK:=G.bK,mono:=G.mono,bD:=G.bD,ak:=[]}:Rec)) SN) _:=B;refine nt (aD (ns (sf q pM (sl (u:=g) q vT s q (sL q TK C.di (st _ (kL (a:=G.aF.length) (b:=16) q q) (nt ?_)))))));refine bJ q (fun Bx=>?_) (fun Bx=>?_)
 ·have cj:=dT Bx;refine aH (st _ (bO (us:=[[(.int .i64 ((21:Nat):Int))]]) (cs:=(Stop.cells (({code:=21}:Stop)))) [(0,0,1)] z234 FR q q ⟨q,tV⟩ ⟨q,tV⟩ q q) (st _ (nN tE q) (pS q ?_)));exact gB (Or.inr ⟨21,q,⟨by omega,by omega⟩,d,(ajL ar Xx)⟩)
 have cj:=dF Bx;refine aL (aj (ns (an q (aD (ns (sf q pM (sl (u:=g) q vT s q (sL q TK C.di (mv q (nt (aS ?_)))))))))));obtain⟨aP,bq⟩:∃r,kZ (decide (v.h.bN &&& 4≠0)) v.h.cg (v.h.n.getD 0 0) v.b G.aF [] []=r:=⟨_,q⟩;have aU:=bq
 try simp only[List.nil_append,ar]at bq
 refine adG (fun(r:Rec) (aa:Value) (a1:Value) (al:List (List UInt8)) (i:Nat)=>[(7,a1),(34,(.int .i64 i)),(0,(.pointer (some ⟨aq,0,none⟩))),(4,(.pointer (some ⟨ab,0,none⟩))),(5,(.pointer (some ⟨ad,0,none⟩))),(6,(.pointer (some ⟨Z,0,none⟩))),(32,g),(33,(.int .i64 G.aF.length))]) (fun(r:Rec) (aa:Value) (a1:Value) (al:List (List UInt8)) (i:Nat) X=>∃ae:Nat->Prop,(∀b,ae b->Q b)/\(∀b,Q b->b<w.heap.size->ae b)/\Up X ae/\Md [] w X/\bC X Z (Rec.cells r aa) 51/\Ow pU 61 (bA [] w) X ae aa r.ak/\Rec.ok r/\Ow (qR eC) 27 (bA [] w) X ae a1 al/\bC X aq (dx.cells v bZ) 135/\bC X ab (Rec.cells (OB) SN) 51/\bC X ad (gU.cells G g) 238/\Ls AF X ae g G.aF/\Ls eC X ae bZ v.b/\¬ae Z/\ae aq/\¬ae ab/\¬ae ad/\ahT G r/\r.ak.length<=i/\al.length<=i/\i<=G.aF.length/\(∀x∈al,x.length<=1048576)/\kZ (decide (v.h.bN &&& 4≠0)) v.h.cg (v.h.n.getD 0 0) v.b (G.aF.drop i) r.ak al=aP) (fun(r:Rec) (aa:Value) (a1:Value) (al:List (List UInt8)) (i:Nat)=>G.aF.length-i) (x0:=(({seq:=G.seq,bK:=G.bK,mono:=G.mono,bD:=G.bD,ak:=[]}:Rec))) (x1:=SN) (x2:=SN) (x3:=([]:List (List UInt8))) (x4:=0) ?_ ?_ ?_
 ·exact⟨q,q,q,q,q,q,q,q,tV⟩
 ·exact⟨bH,S,o,j,d,B,(by exact Ow.nil _ _ _ _ _),(by exact⟨Xx,Xx,Xx,Xh⟩),(Ow.nil _ _ _ _ _),e,H,s,C,F,W,V,U,Y,⟨q,q,q,q⟩,Oy,Oy,Xx,(by intro x a3;cases a3),(by have t:=bq;exact t)⟩
 clear d j S o V U Y W F e H C s B;rintro r aa a1 al i b0 D0 ⟨bM,S,o,j,d,B,J,a0,I,e,H,s,C,F,W,V,U,Y,aZ,cU,cV,cW,bF,aE⟩;refine ns (st _ (dN (a:=i) (b:=G.aF.length) q q) (nt (aD ?_)));refine bJ q (fun br=>?_) (fun br=>?_)
 ·have be:=dT br;refine aL (aj (aD (aS (ns (st _ (bf (i:=i) 2 q q TK ac6 C.di Xx) ?_)))));obtain⟨ao,aX⟩:=dY (l:=G.aF) (i:=i) Xx;obtain⟨dr,cp,a6⟩:=C.get aX;obtain⟨_,rfl,bG⟩:=xR cp;have a6:At _ g (i*2) (lJ.cells ao):=a6;refine st _ (gH (kk:=i*2) (lJ.cells ao) 0 q q (by exact abY) a6 q) (bI amh ?_);intro ay dI ba cy D k;have c3:Z≠ay:=(by have:=B.lt;omega);have c7:aq≠ay:=(by have:=e.lt;omega);have c0:ab≠ay:=(by have:=H.lt;omega);have c2:ad≠ay:=(by have:=s.lt;omega);obtain⟨cq,A,E,b1,N⟩:=jC j ba cy D;have W:=fun t=>W (E _ t);have V:=A _ V e.lt;have U:=fun t=>U (E _ t);have Y:=fun t=>Y (E _ t);have S:=tT S E;have o:=fun b M O=>A b (o b M O) (lj O d.size);have ba:=lv d.size ba;have J:=(J.sub A E).o D;have B:=B.o D;have I:=(I.sub A E).o D;obtain⟨e,H,s⟩:=k3 D e H s;have C:=(C.sub A).o D;have F:=(F.sub A).o D;have d:=d.k D;have j:=N;have b5:bA [] w ay:=.inr ba;have k:bC _ _ (lJ.cells (({pos:=0,bY:=0}:lJ))) _:=k;have da:lJ.ok (({pos:=0,bY:=0}:lJ)):=(by exact⟨Xy,Xy⟩);refine aK (us:=(lJ.cells ao)) q q (by exact abY) (by exact fun u af=>aV (lJ.one) u af) k (lB q) ?_;have bp:=k;intro dJ D k;have c:∀b∈[ay],¬cq b:=(hI b1)
  have J:=J.md D (aB bp J) c;have B:=B.md D Zz;have I:=I.md D (aB bp I) c;have e:=e.md D Zz;have H:=H.md D Zz;have s:=s.md D Zz;have C:=C.md D c;have F:=F.md D c;have j:=j.md D;have d:=d.step D (hI b5);have k:bC _ _ (lJ.cells ao) _:=k;refine nt (nm q (sf q FM (sl (u:=(.int .u64 ao.pos)) q bh k q ?_)));have dz:ao.pos<18446744073709551616:=bG.1;refine jq akH q (afE j ⟨_,_,q,V,e,dw bV F⟩ ao.pos Xx Xx) ?_;rintro aC dL (⟨z,az,rfl,D,b6,L,aN⟩|⟨ap,rfl,am,D,aN⟩);rotate_left
  ·exact .inr ⟨_,q,gB (Or.inr ⟨ap,q,am,d.k D,(Wo ar Xx (aU.trans (aE.symm.trans (abj aX aN am.1))) am.1)⟩)⟩
  refine .inl ⟨_,q,?_⟩;obtain⟨J,B,I,e,H,s,C,F⟩:=k8 D J B I e H s C F;obtain⟨k,j,d⟩:=k3 D k j d;refine bI GX ?_;intro aw dM a4 cb D K;have cM:Z≠aw:=(by have:=B.lt;omega);have cE:aq≠aw:=(by have:=e.lt;omega);have cI:ab≠aw:=(by have:=H.lt;omega);have cK:ad≠aw:=(by have:=s.lt;omega);have cP:ay≠aw:=(by have:=k.lt;omega);obtain⟨ct,A,E,b7,N⟩:=jC j a4 cb D;have W:=fun t=>W (E _ t);have V:=A _ V e.lt;have U:=fun t=>U (E _ t);have Y:=fun t=>Y (E _ t);have S:=tT S E;have o:=fun b M O=>A b (o b M O) (lj O d.size);have a4:=lv d.size a4;have J:=(J.sub A E).o D;have B:=B.o D;have I:=(I.sub A E).o D;obtain⟨e,H,s⟩:=k3 D e H s;have C:=(C.sub A).o D;have F:=(F.sub A).o D;have k:=k.o D;have L:=(L.sub A).o D;have d:=d.k D;have j:=N;have b9:bA [] w aw:=.inr a4;have K:bC _ _ (fV.cells (GZ) SN) _:=K;have db:fV.ok (GZ):=(by exact⟨Xy,Xy,Xy,Xy,Xy,Xy⟩);refine aK (us:=(fV.cells az z)) q q (by exact jO) (by exact fun u af=>aV (fV.one L.bB) u af) K (lB q) ?_;have bd:=K;intro dP D K;have c:∀b∈[aw],¬ct b:=(hI b7);have J:=J.md D (aB bd J) c;have B:=B.md D Zz;have I:=I.md D (aB bd I) c;have e:=e.md D Zz;have H:=H.md D Zz;have s:=s.md D Zz;have C:=C.md D c;have F:=F.md D c;have k:=k.md D Zz;have L:=L.md D c;have j:=j.md D;have d:=d.step D (hI b9);have K:bC _ _ (fV.cells az z) _:=K;refine nt (aD (ns (sf q FK (sl (u:=(.int .u64 az.bY)) q bh K q ?_))));have dA:az.bY<18446744073709551616:=b6.1;refine sf q aeE (sl (u:=(.int .u64 ao.bY)) q bh k q ?_);have dB:ao.bY<18446744073709551616:=bG.2;refine st _ (eU (a:=az.bY) (b:=ao.bY) q q) (nt ?_);refine bJ q (fun bj=>?_) (fun bj=>?_)
  ·have cl:=dT bj;refine aH (st _ (bO (us:=[[(.int .i64 ((9:Nat):Int))]]) (cs:=(Stop.cells (({code:=9}:Stop)))) [(0,0,1)] z234 FR q q ⟨q,tV⟩ ⟨q,tV⟩ q q) (st _ (nN tE q) (pS q ?_)));exact gB (Or.inr ⟨9,q,⟨by omega,by omega⟩,d,(Wo ar Xx (aU.trans (aE.symm.trans (ahp aX aN Xx))) Xy)⟩)
  have cl:=dF bj;refine aL (aj (ns (sf q xq (sl (u:=z) q fJ K q (ax akI q (V3 j L) ?_)))));rintro aC dQ ⟨av,ce,rfl,D,dc,bw⟩;refine rv ?_;obtain⟨J,B,I,e,H,s,C,F⟩:=k8 D J B I e H s C F;obtain⟨k,L,K,j,d⟩:=k5 D k L K j d;refine mv q (se q q (se q q (bI z61 ?_)));intro ai de a5 cc D f;have bS:∀x,ah aa=some x->x≠ai:=fun x a3 h=>by have cC:=J.lt x a3;omega
  have cN:Z≠ai:=(by have:=B.lt;omega);have cF:aq≠ai:=(by have:=e.lt;omega);have cJ:ab≠ai:=(by have:=H.lt;omega);have cL:ad≠ai:=(by have:=s.lt;omega);have cQ:ay≠ai:=(by have:=k.lt;omega);have cH:aw≠ai:=(by have:=K.lt;omega);obtain⟨bP,A,E,b8,N⟩:=jC j a5 cc D;have W:=fun t=>W (E _ t);have V:=A _ V e.lt;have U:=fun t=>U (E _ t);have Y:=fun t=>Y (E _ t);have S:=tT S E;have o:=fun b M O=>A b (o b M O) (lj O d.size);have a5:=lv d.size a5;have J:=(J.sub A E).o D;have B:=B.o D;have I:=(I.sub A E).o D;obtain⟨e,H,s⟩:=k3 D e H s;have C:=(C.sub A).o D;have F:=(F.sub A).o D;have L:=(L.sub A).o D;obtain⟨K,d⟩:=k2 D K d;have j:=N;have ca:bA [] w ai:=.inr a5;have f:bC _ _ (Pr.cells (({name:=[],value:=[]}:Pr))) _:=f;refine aK (us:=(Pr.cells av)) q q (by exact gY) (by exact fun u af=>aV (Pr.one) u af) f (lB q) ?_;have bt:=f;intro df D f;have c:∀b∈[ai],¬bP b:=(hI b8);have J:=J.md D (eJ bS) c;have B:=B.md D Zz;have I:=I.md D (aB bt I) c;have e:=e.md D Zz;have H:=H.md D Zz;have s:=s.md D Zz;have C:=C.md D c;have F:=F.md D c;have L:=L.md D c;have K:=K.md D Zz;have j:=j.md D;have d:=d.step D (hI ca);have f:bC _ _ (Pr.cells av) _:=f;refine an q (nm q (jq PL q (rP j ce Xx) ?_));rintro aC dg (⟨rfl,D,bg⟩|⟨ap,rfl,am,D,bg⟩);rotate_left
  ·exact .inr ⟨_,q,gB (Or.inr ⟨ap,q,am,d.k D,(by have a2:=bw;rw[bg]at a2;exact Wo ar Xx (aU.trans (aE.symm.trans (SJ aX aN Xx a2 am.1))) am.1)⟩)⟩
  refine .inl ⟨_,q,?_⟩;obtain⟨J,B,I,e,H,s,C,F⟩:=k8 D J B I e H s C F;obtain⟨L,K,f,j,d⟩:=k5 D L K f j d;refine nt (ns (sf q AX (sl (u:=aa) q RX B q (st _ (bL (Pr.cells av) q (by exact gY) f q) (aR [(Pr.cells av)] AG IJ Xy Xy q q ⟨q,tV⟩ ⟨q,tV⟩ q Xy ?_)))));intro cS dj ci dp D bo;have cd:=j _ ci;obtain⟨J,B,I,e,H,s,C,F⟩:=k8 D J B I e H s C F;obtain⟨L,K,f,j,d⟩:=k5 D L K f j d;have bo:=Ls.cG (m:=1) (R:=bP) (T:=pU) (xs:=[av]) bo ⟨_,_,q,(GJ),q⟩ q Xy cd;refine e5 (sz:=2) (by rfl) AG IJ q q J bo (fun _ h _=>h) j (bA.new d) Zq Zq ?_;intro bs dk bQ A E N ag D c _ bb;have cD:∀x,ah bs=some x->x≠ai:=fun x a3 h=>(bb x a3).elim (fun bT=>bS x bT h) (fun bT=>by have cC:=f.lt;omega);have P:=J;have W:=fun t=>W (E _ t);have I:=I.sub A E;have V:=A _ V e.lt;have U:=fun t=>U (E _ t);have Y:=fun t=>Y (E _ t);have C:=C.sub A;have F:=F.sub A;have L:=L.sub A;have S:=tT S E;have o:=fun b M O=>A b (o b M O) (lj O d.size);have B:=B.md D (aW P B);have I:=I.md D (aO P I) c;have e:=e.md D (aW P e);have H:=H.md D (aW P H);have s:=s.md D (aW P s);have C:=C.md D c;have F:=F.md D c;have L:=L.md D c;have K:=K.md D (aW P K);have j:=j.md D;have d:=d.dh D (fun b M=>(P.2 b M).1);have j:=N;clear N A E c bb;refine sf q AX (bn q q RX ag.bB B (lB q) ?_);have aT:=B;intro dl D B;have c:∀b∈[Z],¬bQ b:=(hI W);have I:=I.md D (aB aT I) c;have e:=e.md D Zz;have H:=H.md D Zz;have s:=s.md D Zz;have C:=C.md D c;have F:=F.md D c;have L:=L.md D c;have K:=K.md D Zz;have ag:=ag.md D (aB aT ag) c;have j:=j.md D;have d:=d.step D (hI bv);obtain⟨bl,aM⟩:∃y,y=({r with ak:=r.ak ++ ([av])}:Rec):=⟨_,q⟩;have B:bC _ _ (Rec.cells ({r with ak:=r.ak ++ ([av])}) bs) _:=B;rw[<- aM]at B;have b2:Rec.ok bl:=(by rw[aM];exact⟨a0.1,a0.2.1,a0.2.2.1,a0.2.2.2⟩);rw[show r.ak ++ ([av])=bl.ak by rw[aM]]at ag;refine nt (aH (mv q (sf q xq (sl (u:=z) q fJ K q (aR [[z]] TJ XG Xy Xy q q ⟨(dK L.bB),tV⟩ ⟨q,tV⟩ q Xy ?_)))));intro cR dm ch cX D bm;have C3:=j _ ch;obtain⟨I,e⟩:=k2 D I e;obtain⟨H,s,C,F,L,ag,B,j⟩:=k8 D H s C F L ag B j;have d:=d.k D;have bm:=Ls.cG (m:=1) (R:=bQ) (T:=(qR eC)) (xs:=[az.au]) bm ⟨_,_,q,⟨_,q,L⟩,q⟩ q Xy C3;refine e5 (sz:=1) (by rfl) TJ XG q q I bm (fun _ h _=>h) j (bA.new d) Zq Zq ?_;intro cA dn cu A E N cn D c _ bb;have aI:=I;have V:=A _ V e.lt;have U:=fun t=>U (E _ t);have Y:=fun t=>Y (E _ t);have W:=fun t=>W (E _ t);have S:=tT S E;have o:=fun b M O=>A b (o b M O) (lj O d.size);have e:=e.md D (aW aI e);have H:=H.md D (aW aI H);have s:=s.md D (aW aI s);have C:=(C.sub A).md D c;have F:=(F.sub A).md D c;have ag:=(ag.sub A E).md D (aO aI ag) c;have B:=B.md D (aW aI B);have j:=j.md D;have d:=d.dh D (fun b M=>(aI.2 b M).1);have j:=N;clear N A E c bb;refine ck q (aA (bE (aj (aH (st _ (rA (a:=i) (b:=1) q q Xx) (mv q (nt ?_)))))));refine YL (x0:=bl) (x1:=bs) (x2:=cA) (x3:=(al ++ ([az.au]))) (x4:=(i+1)) Xx ⟨q,(d9 q Xx),q,q,q,q,q,q,tV⟩ ⟨cu,S,o,j,d,B,ag,b2,cn,e,H,s,C,F,W,V,U,Y,(by rw[aM];exact⟨aZ.seq,aZ.bK,aZ.mono,aZ.bD⟩),(by rw[aM];simp;omega),Ym,Xx,(afV bF (lv (ahd aN) Xx)),(by have a2:=bw;rw[bg]at a2;have t:=aE;rw[Wn aX aN Xx a2]at t;rw[aM];exact t)⟩
 have be:=dF br;refine bW (aY (aY (cO (aj (aD (aD ?_))))));have bu:=s;refine cT [(0,true),(1,true),(2,true),(3,false)] [4] (fun X=>Md [] D0 X) mixed Xw ?_;intro dR bi;refine⟨bi.mono Oy,?_⟩;have bc:=bi.mono (T:=[]) Oy;refine mz (fun X bU=>aJ q aeD) (mz (fun X bU=>(aG q bh (bu.o bU) q).to (b:=(.int .u64 G.xor)) q) ?_);have dC:G.xor<18446744073709551616:=aQ.2.2.2.2;refine mo q ?_;obtain⟨J,B,I,H,j,d⟩:=k6 bi J B I H j d;refine mL ?_ rfl;refine ax akJ q (ac4 (fun b M=>Or.inl (j b M)) (Q:=fun b=>bM b\/bA [] w b) I.read (by exact bF)) ?_;rintro aC dS ⟨cf,rfl,D,dd,bx⟩;refine rv ?_;obtain⟨J,B,H,d,bc⟩:=k5 D J B H d bc;refine aA ⟨q,bc,?_⟩;refine dD ?_;refine st _ (eU (a:=G.xor) (b:=cf) q q) (nt ?_);refine bJ q (fun bk=>?_) (fun bk=>?_)
 ·have cm:=dT bk;refine aH (st _ (bO (us:=[[(.int .i64 ((10:Nat):Int))]]) (cs:=(Stop.cells (({code:=10}:Stop)))) [(0,0,1)] z234 FR q q ⟨q,tV⟩ ⟨q,tV⟩ q q) (st _ (nN tE q) (pS q ?_)));exact gB (Or.inr ⟨10,q,⟨by omega,by omega⟩,d,(ajK ar Xx (aU.trans (aE.symm.trans (KI be))) bx Xx)⟩)
 have cm:=dF bk;refine aL (aj (ns (st _ (bL (Rec.cells r aa) q (by exact nW) B q) (aK (us:=(Rec.cells r aa)) q q (by exact nW) (by exact fun u af=>aV (Rec.one J.bB) u af) H (lB q) ?_))));have a7:=J;have bz:=H;intro dU D H;have c:∀b∈[ab],¬bM b:=(hI U);have a7:=a7.md D (aB bz a7) c;have d:=d.step D (hI b3);have H:bC _ _ (Rec.cells r aa) _:=H;refine nt (iM ?_);exact bR (v:=(.agg (Rec.cells r aa).toArray)) trivial q ⟨⟨_,q,cr (cs:=(Rec.cells r aa)) (by exact nW) H⟩,tV⟩ (Or.inl ⟨_,r,q,d,a0,(a7.ls (fun b M=>S b M) (bA.up cz)),(afj ar Xx aZ (aU.trans (aE.symm.trans (KI be))) bx Xx)⟩)
theorem ak1:cu Zp 111=true:=Xw
theorem abG (N:Up w Q) {v0:Value} {v:dx} (I:Pt (tPt dO 135) 62 w Q v0 v) {v1:Value} {p:Nat} (h1:Pt cZ 46 w Q v1 p) {a:Nat} {J:Value} (m:Rec) (d:bC w a (Rec.cells m J) 51) (n2:¬Q a) (ah:Rec.ok m) (ai:Ls pU w Q J m.ak) (al:v.b.length<=1000000) :
  Calls Zp 110 #[v0,v1,.pointer (some ⟨a,0,none⟩)] w fun F s=>(∃z:Rec,∃M:Value,F = .returned (.tuple #[])/\Md [a] w s/\bC s a (Rec.cells z M) 51/\¬Q a/\Rec.ok z/\Ls pU s Q M z.ak/\nv (decide (v.h.bN &&& 4≠0)) v.h.cg (v.h.n.getD 0 0) v.b p=(z,0))\/∃j:Nat,F = .panicked (NE (.iface 234 (.agg #[.int .i64 j])))/\(j≠0/\j<9223372036854775808)/\Md [a] w s/\bC s a (Rec.cells m J) 51/\(nv (decide (v.h.bN &&& 4≠0)) v.h.cg (v.h.n.getD 0 0) v.b p).2=j:=by
 obtain⟨V,g,rfl,S,I,qx⟩:=I;obtain⟨v1,rfl,aa⟩:=qx;obtain⟨W,i,rfl,U,h1,c⟩:=h1;obtain⟨rfl,f⟩:=c;have C:=n2;have P:bA [a] w a:=.inl Oy;have T:V≠a:=fun h=>C (h ▸ S);have ag:W≠a:=fun h=>C (h ▸ U);have e:=Md.refl [a] w;have o:=N;have l:∀b,Q b->Q b:=fun _ h=>h;refine enter (n:=6) Tryz.func110 q q q ?_;intro ae;refine aH (sl (u:=v1) q zM I q ?_);have E:=aa;obtain⟨O,aj,rfl,K,E,R⟩:=E;obtain⟨r,rfl,k,ab⟩:=eu R;have af:O≠a:=fun h=>C (h ▸ K);refine sl (u:=(.int .u64 p)) q bh h1 q (jq ak1 q (afF N ⟨_,_,q,K,E,dw k ab⟩ p Xx Xx) ?_);rintro F t (⟨D,A,rfl,H,G,y,B⟩|⟨j,rfl,Z,H,B⟩);rotate_left
 ·exact .inr ⟨_,q,gB (Or.inr ⟨j,q,Z,e.k H,d.o H,B⟩)⟩
 refine .inl ⟨_,q,?_⟩;obtain⟨d,e⟩:=k2 H d e;refine aK (us:=(Rec.cells A D)) q q (by exact nW) (by exact fun u ad=>aV (Rec.one y.bB) u ad) d (lB q) ?_;have Y:=d;intro x H d;have L:∀b∈[a],¬Q b:=(hI C);have y:=y.md H L;have e:=e.step H (hI P);have d:bC _ _ (Rec.cells A D) _:=d;refine aA ?_;exact d8 (vs:=[]) trivial q trivial q (Or.inl ⟨A,_,q,e,d,n2,G,(y.sub (fun b X _=>l b X)),B⟩)
theorem ak0:cu Zp 110=true:=Xw
theorem TL (J:Up w Q) {v0:Value} {v:dx} (I:Pt dO 135 w Q v0 v) (p:Nat) (aj:p<18446744073709551616) (aq:v.b.length<=1000000) :
  Calls Zp 70 #[v0,(.int .u64 p)] w fun ad e=>∃ag:Value,∃U:Rec,∃aa:Nat,ad = .returned (.tuple #[.agg (Rec.cells U ag).toArray,(.int .i64 aa)])/\Md [] w e/\Rec.ok U/\Ls pU e Q ag U.ak/\aa<9223372036854775808/\nv (decide (v.h.bN &&& 4≠0)) v.h.cg (v.h.n.getD 0 0) v.b p=(U,aa):=by
 refine enter (n:=10) (vs:=[v0,.int .u64 p]) Tryz.func70 q q q ?_;intro aC;have t:v0.oneCell'=true:=(by obtain⟨b,c,rfl,_⟩:=I;rfl);refine ns (dS (cs:=[v0]) q (dK t) ?_);intro i aG al aD a m;have au:=J _ al;obtain⟨I,J⟩:=k2 a I J;have s:=a;refine dS (cs:=[.int .u64 p]) q q ?_;intro O aH am aE a u;have av:=J _ am;obtain⟨I,m,J,s⟩:=k4 a I m J s;refine bI z51 ?_;intro j g ae af a L;obtain⟨V,s4,ay,n4,az⟩:=jC J ae af a;have ab:=lv s.size ae;have y:=s4 _ au m.lt;have z:=s4 _ av u.lt;have I:=(I.sub s4).o a;obtain⟨m,u,s⟩:=k3 a m u s;have L:bC g j (Rec.cells xN SN) 51:=L;refine an q (ns (st _ (mK (vs:=[.pointer (some ⟨i,0,none⟩),.pointer (some ⟨O,0,none⟩),.pointer (some ⟨j,0,none⟩)]) q) ?_));have hk:Rec.ok xN:=⟨by decide,by decide,by decide,q⟩;refine ax XO q (xS (f:=110) (cs:=[.pointer (some ⟨i,0,none⟩),.pointer (some ⟨O,0,none⟩),.pointer (some ⟨j,0,none⟩)]) (S:=[j])
  (X:=fun e=>∃r d,bC e j (Rec.cells r d) 51/\Rec.ok r/\Ls pU e V d r.ak/\nv (decide (v.h.bN &&& 4≠0)) v.h.cg (v.h.n.getD 0 0) v.b p=(r,0))
  (Y:=fun c e=>bC e j (Rec.cells xN SN) 51/\c<9223372036854775808/\nv (decide (v.h.bN &&& 4≠0)) v.h.cg (v.h.n.getD 0 0) v.b p=(xN,c))
  (R:=fun F N e=>(∃E K,N = .returned (.tuple #[])/\Md [j] F e/\bC e j (Rec.cells E K) 51/\Rec.ok E/\Ls pU e (fun x=>V x/\(x<g.heap.size\/F.heap.size<=x)) K E.ak/\nv (decide (v.h.bN &&& 4≠0)) v.h.cg (v.h.n.getD 0 0) v.b p=(E,0))\/∃B:Nat,N = .panicked (NE (.iface 234 (.agg #[.int .i64 B])))/\(B≠0/\B<9223372036854775808)/\Md [j] F e/\bC e j (Rec.cells xN SN) 51/\(nv (decide (v.h.bN &&& 4≠0)) v.h.cg (v.h.n.getD 0 0) v.b p).2=B)
  ak0 (hI af) ?_ ?_) ?_
 ·intro F a;have aA:Up F (fun x=>V x/\(x<g.heap.size\/F.heap.size<=x)):=fun x C=>⟨az x (lv a.size C),.inr C⟩;have aw:∀x,V x->x<g.heap.size->(V x/\(x<g.heap.size\/F.heap.size<=x)):=fun x C H=>⟨C,.inl H⟩;refine(abG aA (v0:=.pointer (some ⟨i,0,none⟩)) (v1:=.pointer (some ⟨O,0,none⟩)) (v:=v) (p:=p) ⟨i,[v0],q,⟨y,.inl m.lt⟩,m.o a,v0,q,(I.sub aw).o a⟩ ⟨O,_,q,⟨z,.inl u.lt⟩,u.o a,q,aj⟩ xN (L.o a) (fun h=>n4 h.1) hk (Ls.nil _ _ _) aq).mono ?_;rintro N e (⟨E,K,l,D,G,_,Z,H,A⟩|⟨B,l,W,D,G,A⟩)
  ·exact .inl ⟨E,K,l,D,G,Z,H,A⟩
  exact .inr ⟨B,l,W,D,G,A⟩
 ·rintro F N aF a (⟨E,K,rfl,D,G,Z,H,A⟩|⟨B,rfl,W,D,G,A⟩)
  ·refine⟨D,.inl ⟨q,fun b ai ao ap M=>⟨E,K,G.uO M Xx,Z,(H.md M (by intro x C h;simp at C;subst C;omega)).sub (fun x C _=>C.1),A⟩⟩⟩
  exact⟨D,.inr ⟨B,q,fun b ai ao ap M=>⟨G.uO M Xx,W.2,ahr A W.1⟩⟩⟩
 rintro ad ah ⟨c,rfl,a,T⟩;refine rv ?_;have s:=s.step a (by intro x C;simp at C;subst C;exact .inr ab);obtain⟨r,d,G,o,H,W,A⟩:∃r d,bC ah j (Rec.cells r d) 51/\Rec.ok r/\Ls pU ah V d r.ak/\c<9223372036854775808/\nv (decide (v.h.bN &&& 4≠0)) v.h.cg (v.h.n.getD 0 0) v.b p=(r,c):=by
  rcases T with⟨rfl,r,d,k,m,u,L⟩|⟨k,m,u⟩
  ·exact⟨r,d,k,m,u,by decide,L⟩
  ·exact⟨_,_,k,hk,Ls.nil _ _ _,m,u⟩
 refine an q (ns (st _ (bL (Rec.cells r d) q (by exact nW) G q) (mv q (aK (us:=(Rec.cells r d)) q q (by exact nW) (fun x C=>aV (Rec.one H.bB) x C) G (lB q) ?_))));intro aB a P;have P:bC aB j (Rec.cells r d) 51:=P;have H:=H.md a (hI n4);have s:=s.dX a ab;refine ar q ?_;exact d8 (vs:=[.agg (Rec.cells r d).toArray,.int .i64 c]) trivial q ⟨⟨_,q,cr (cs:=Rec.cells r d) (by exact nW) P⟩,q,tV⟩ q ⟨d,r,c,q,s,o,H.sub (fun x C _=>ay x C),W,A⟩
theorem amu:cu Zp 23=true:=Xw
theorem amv:cu Zp 24=true:=Xw
theorem alk:cu Zp 57=true:=Xw
theorem amL:cu Zp 70=true:=Xw
theorem YO:aP Zp 67 0=some 0:=Xw
theorem AY:aP Zp 67 1=some 1:=Xw
theorem agT:aP Zp 67 2=some 2:=Xw
theorem ang:fH Zp 67=some [(0,1),(1,1),(2,1),(3,1),(4,1)]:=Xw
theorem z67:dU Zp 67=some [.pointer none,.slice none 0 0,.int .i64 0,.slice none 0 0,.bool false]:=Xw
structure dn where
  v:dx
  ats:List Nat
  code:Nat
  good:List Nat
  known:Bool
def dn.cells (x:dn) (v0:Value) (v1:Value) (v2:Value):List Value :=
  [v0] ++ ([v1] ++ ([(.int .i64 x.code)] ++ ([v2] ++ ([(.bool x.known)]))))
def dn.ok (x:dn):Prop:=x.code<9223372036854775808
def UQ (b:Ly):dn × Nat :=
  match (lR b).1 with
  | some y=>({v:=y,ats:=(sF (y.h.n.getD 0 0) y.b (y.h.n.getD 8 0) (y.h.n.getD 11 0)).1,code:=(sF (y.h.n.getD 0 0) y.b (y.h.n.getD 8 0) (y.h.n.getD 11 0)).2,good:=[],known:=false},0)
  | none=>({v:={b:=[],h:=hz0},ats:=[],code:=0,good:=[],known:=false},(lR b).2)
theorem vO {b:Ly} {y:dx} {a:List Nat} {c:Nat} (h:lR b=(some y,0)) (d:sF (y.h.n.getD 0 0) y.b (y.h.n.getD 8 0) (y.h.n.getD 11 0)=(a,c)):UQ b=({v:=y,ats:=a,code:=c,good:=[],known:=false},0):=by unfold UQ;rw[h];simp only[d]
theorem JF (Y:Up w Q) {v0:Value} {b:Ly} (ag:Ls eC w Q v0 b) (ai:(lR b).2=0) (am:b.length<=1000000) :
  Calls Zp 7 #[v0] w fun K s=>∃E:Nat,∃T:Value,∃U:Value,∃X:Value,∃m:dn,∃L:Nat,∃u:Nat->Prop,K = .returned (.tuple #[.pointer (some ⟨E,0,none⟩),(.int .i64 L)])/\Md [] w s/\pC w s Q u/\bC s E (dn.cells m T U X) 67/\¬u E/\w.heap.size<=E/\dn.ok m/\Pt dO 135 s u T m.v/\Ls cZ s u U m.ats/\Ow eI 3 (bA [] w) s u X m.good/\L<9223372036854775808/\UQ b=(m,L):=by
 have H:lR b=((lR b).1,0):=Prod.ext q ai;obtain⟨y,ae,t,au⟩:=JV H;rw[ae]at H;refine enter (n:=30) Tryz.func7 q q q fun ak=>ns (ck q (an q (nm q (ax amu q (Z7 Y ag Xx) ?_))));rintro K p ⟨e,x,c,rfl,D,f,_,N⟩;refine rv ?_;rw[H]at N;obtain⟨rfl,rfl⟩:=Prod.mk.inj N;have d:Pt dO 135 p Q e y:=f;have l:e.oneCell'=true:=(by obtain⟨z,al,af,_⟩:=d;rw[af];rfl);refine mv q (se q q (se q q (ck q (an q (aD (nm q (st _ (eU (a:=0) (b:=0) q q) (nt ?_))))))));refine bJ q (fun M=>absurd (dT M) Oy) (fun M=>?_);refine aL (aj (nm q (st (.agg (dn.cells {v:=y,ats:=[],code:=0,good:=[],known:=false} e SN SN).toArray) (jD (cs:=dn.cells {v:=y,ats:=[],code:=0,good:=[],known:=false} e SN SN) (ps:=[(0,0)]) z67 ang q q (by simp[pD,l]) q q q) (dS (cs:=dn.cells {v:=y,ats:=[],code:=0,good:=[],known:=false} e SN SN) q q ?_))));intro o ao R i I C;obtain⟨P,V,k,O,W⟩:=jC (Y.md D) R i I;have d:=(d.sub V).o I;refine an q (ns (m2 q q (mv q (ax amv q (MN W d Xx) ?_))));rintro K ap ⟨S,Z,ad,rfl,F,j,ah,aa⟩;refine rv ?_;obtain⟨d,C⟩:=k2 F d C;refine mv q (se q q (se q q (sn q (sf q AY (bn q q gZ j.bB C (lB q) ?_)))));intro aq A C;have B:∀x∈[o],¬P x:=(hI O);have d:=d.md A B;have j:=j.md A B;refine sn q (sf q agT (bn q q iD q C (lB q) ?_));intro r G C;have d:=d.md G B;have j:=j.md G B;have C:bC r o (dn.cells {v:=y,ats:=Z,code:=ad,good:=[],known:=false} e S SN) 67:=C;refine nt (nm q (ck q (ar q ?_)));have ab:=((D.k I).k F);have J:w.heap.size<=o:=lv D.size R;refine d8 (vs:=[.pointer (some ⟨o,0,none⟩),.int .i64 ((0:Nat):Int)]) trivial q ⟨q,q,tV⟩ q ⟨o,e,S,.slice none 0 0,_,0,P,q,(ab.dX A J).dX G J,⟨fun b g h=>V b g (lj h D.size),k,((W.md F).md A).md G⟩,C,O,J,ah,d,j,Ow.nil _ _ _ _ _,by decide,vO H aa⟩
theorem Y8 (z:Up w Q) {g:Nat} {p:Value} {d:Value} {r:Value} (f:dn) (o:bC w g (dn.cells f p d r) 67) (n0:¬Q g) (K:dn.ok f) (L:Pt dO 135 w Q p f.v) (e:Ls cZ w Q d f.ats) (M:Ow eI 3 (fun _=>True) w Q r f.good) (i:Nat) (N:i<9223372036854775808) :
  Calls Zp 57 #[.pointer (some ⟨g,0,none⟩),(.int .i64 i)] w fun y A=>∃h:Nat,∃j:Nat,y = .returned (.tuple #[(.int .u64 h),(.int .i64 j)])/\Md [] w A/\h<18446744073709551616/\j<9223372036854775808/\atF f.ats i=(h,j):=by
 have F:=n0;have m:=Md.refl [] w;have I:=z;refine enter (n:=24) Tryz.func57 q q q fun B=>ns (ck q (an q (aD (nm q (st _ (dN (a:=i) (b:=0) q q) (mv q ?_))))));refine bX (t:=8) q (fun c=>?_) (fun c=>?_)
 ·have H:=dT c;exfalso;omega
 have H:=dF c;refine sg c (aM q) (sg c (aM q) (sg c (cA q) (sg c (aJ q AY) (sg c ((aG q gZ o q).to (b:=d) q) (sg c (j9 q jY e.di) (sg c (KE (a:=i) (b:=f.ats.length) q q) (st _ (aZ q c q) (nt ?_))))))));refine bJ q (fun D=>?_) (fun D=>?_)
 ·have s:=dT D;refine ns (ck q (ar q (aI ?_)));exact d8 (vs:=[(.int .u64 ((0:Nat):Int)),(.int .i64 ((2:Nat):Int))]) trivial q ⟨q,q,tV⟩ q ⟨0,2,q,m,Xx,Xx,(aiF Xx)⟩
 have s:=dF D;refine aL (aj (nm q (sn q (sf q AY (sl (u:=d) q gZ o q (mv q (st _ (bf (i:=i) 1 q q jY eV e.di Xx) ?_)))))));obtain⟨G,k⟩:=dY (l:=f.ats) (i:=i) Xx;obtain⟨J,x,C⟩:=e.get k;obtain⟨rfl,E⟩:=x;have C:At _ d (i*1) [(.int .u64 G)]:=C;refine st _ ((bP (kk:=i*1) 0 q q bh C q).to (b:=(.int .u64 G)) q) (ck q (ck q (aA ?_)));refine aj (iM ?_);exact d8 (vs:=[(.int .u64 G),(.int .i64 ((0:Nat):Int))]) trivial q ⟨q,q,tV⟩ q ⟨G,0,q,m,Xh,Xx,(akp k)⟩
theorem QI (s:Up w Q) {F:Nat} {X:Value} {ae:Value} {af:Value} (f:dn) (m:bC w F (dn.cells f X ae af) 67) (n0:¬Q F) (ap:dn.ok f) (A:Pt dO 135 w Q X f.v) (N:Ls cZ w Q ae f.ats) (O:Ow eI 3 (fun _=>True) w Q af f.good) (i:Nat) (aB:i<9223372036854775808) (aC:f.v.b.length<=1000000) :
  Calls Zp 30 #[.pointer (some ⟨F,0,none⟩),(.int .i64 i)] w fun S ag=>∃ad:Value,∃K:Rec,∃U:Nat,S = .returned (.tuple #[.agg (Rec.cells K ad).toArray,(.int .i64 U)])/\Md [] w ag/\Rec.ok K/\Ls pU ag Q ad K.ak/\U<9223372036854775808/\rq f.v f.ats i=(K,U):=by
 have H:=n0;have j:=Md.refl [] w;have aw:=s;have p:∀b,Q b->Q b:=fun _ h=>h;refine enter (n:=26) Tryz.func30 q q q fun aA=>ns (bI z51 ?_);intro M aF E l e d;have g:F≠M:=(by have:=m.lt;omega);obtain⟨ai,I,J,al,ab⟩:=jC s E l e;have H:=nQ H J;have p:=tT p J;have E:=lv j.size E;have A:=(A.sub I).o e;have N:=(N.sub I).o e;have O:=(O.sub I J).o e;obtain⟨m,j⟩:=k2 e m j;have s:=ab;have Y:bA [] w M:=.inr E;have d:bC _ _ (Rec.cells (OB) SN) _:=d;have y:Rec.ok (OB):=(by exact⟨Xy,Xy,Xy,q⟩);refine an q (ns (m2 q q (ax alk q (Y8 s f m H ap A N (O.eM (fun _ _=>trivial)) i Xx) ?_)));rintro S aG ⟨c,L,rfl,e,z,av,aa⟩;refine rv ?_;obtain⟨A,m,d,s,j⟩:=k5 e A m d s j;refine mv q (se q q (se q q (ck q (an q (aD (nm q (st _ (eU (a:=L) (b:=0) q q) (nt ?_))))))));refine bJ q (fun P=>?_) (fun P=>?_)
 ·have V:=dT P;refine ns (st _ (bO (us:=[]) (cs:=(Rec.cells (OB) SN)) [] z51 aj6 q q trivial trivial q q) (mv q (aK (us:=(Rec.cells (OB) SN)) q q (by exact nW) (by exact fun u k=>aV (Rec.one q) u k) d (lB q) ?_)));have G:=d;intro aH e d;have j:=j.step e (hI Y);have d:bC _ _ (Rec.cells (OB) SN) _:=d;refine ar q (aI ?_);exact d8 (vs:=[(.agg (Rec.cells (OB) SN).toArray),(.int .i64 L)]) trivial q ⟨⟨_,q,cr (cs:=(Rec.cells (OB) SN)) (by exact nW) d⟩,q,tV⟩ q ⟨_,(OB),L,q,j,Xh,(Ls.nil _ _ _),Xh,(aaj aa Xh)⟩
 have V:=dF P;refine aL (aj (nm q (sn q (sf q YO (sl (u:=X) q zM m q ?_)))));have R:=A;obtain⟨r,t,rfl,T,R,ao⟩:=R;obtain⟨aE,rfl,au,aq⟩:=eu ao;refine mv q (ax amL q (TL s ⟨_,_,q,T,R,dw au aq⟩ c Xx Xx) ?_);rintro S ay ⟨D,B,Z,rfl,e,ah,C,o,W⟩;refine rv ?_;obtain⟨d,j⟩:=k2 e d j;refine se q q (se q q (aK (us:=(Rec.cells B D)) q q (by exact nW) (by exact fun u k=>aV (Rec.one C.bB) u k) d (lB q) ?_));have G:=d;intro az e d;have x:∀b∈[M],¬ai b:=(hI al);have C:=C.md e x;have j:=j.step e (hI Y);have d:bC _ _ (Rec.cells B D) _:=d;refine ar q ?_;exact d8 (vs:=[(.agg (Rec.cells B D).toArray),(.int .i64 Z)]) trivial q ⟨⟨_,q,cr (cs:=(Rec.cells B D)) (by exact nW) d⟩,q,tV⟩ q ⟨_,B,Z,q,j,ah,(C.sub (fun b am _=>p b am)),Xh,(ad8 aa Xx W)⟩
theorem amw:cu Zp 30=true:=Xw
theorem alg:cu Zp 31=true:=Xw
theorem YN:aP Zp 51 0=some 0:=Xw
theorem xB:aP Zp 67 3=some 3:=Xw
theorem N2:aP Zp 67 4=some 4:=Xw
theorem EY {w:World} {Q lo:Nat->Prop} (A:Up w Q) {v0:Value} {l:List Nat} (e:Ow eI 3 lo w Q v0 l) (aa:l.length<=1000000) :
  Calls Zp 31 #[v0] w fun U r=>∃z:Value,∃y:List Nat,∃v:Nat->Prop,U = .returned (z)/\Md [] w r/\pC w r Q v/\Ow eI 3 (bA [] w) r v z y/\l=y:=by
 obtain⟨a,d,K,Y,W⟩:∃a d,v0 = .slice a l.length d/\l.length<=d/\(a=none->l=[]):=by obtain⟨⟨Z,I,_⟩,_⟩:=e;obtain⟨a,d,S,D,_,J,_⟩:=py I;exact⟨a,d,S,D,fun h=>List.eq_nil_of_length_eq_zero (by have:=J h;omega)⟩
 refine enter (n:=8) Tryz.func31 q q q fun X=>ns (an q (aD (nm q (st (.bool a.isNone) (by exact Zm (a:=a) (m:=l.length) (c:=d) (by rw[<- K];rfl) kM) (nt ?_)))));refine bJ q (fun D=>?_) (fun D=>?_)
 ·have T:l=[]:=W (Option.isNone_iff_eq_none.1 D);refine ns (ar q (aI ?_));exact gX trivial q q ⟨_,[],Q,q,Md.refl [] w,⟨fun x h _=>h,fun x h=>h,A⟩,Ow.nil _ _ _ _ _,T⟩
 refine aL ?_;refine aj (ns (gW kM nI ?_));intro b i j L C P;obtain⟨E,t,u,M,f⟩:=jC A j L C;have R:Ow eI 3 (bA [] w) i E (.slice (some ⟨b,0,none⟩) 0 0) []:=Ow.cG (m:=0) P q q (by simp[maxLen]) (.inr j) M;have e:=(e.sub t u).o C;refine mv q (ud (sz:=1) q kM nI q q R e.lz f (bA.new C) Ym Ym ?_);intro o p F N O g B G k _ V;refine ar q ?_;exact gX trivial q q ⟨_,_,F,q,C.dX G j,⟨fun x H s=>N x (t x H s) (lj s C.size),fun x H=>u x (O x H),g⟩,B,by simp⟩
theorem aai (I:Up w Q) {e:Nat} {ap:Value} {ak:Value} {Z:Value} (f:dn) (d:bC w e (dn.cells f ap ak Z) 67) (n0:¬Q e) (b7:dn.ok f) (K:Pt dO 135 w Q ap f.v) (J:Ls cZ w Q ak f.ats) (aE:Ow eI 3 (fun _=>True) w Q Z f.good) (cr:f.known=false) (bD:f.good=[]) (p2:f.ats.length<=100000) (p3:f.v.b.length<=1000000) :
  Calls Zp 11 #[.pointer (some ⟨e,0,none⟩)] w fun be B=>∃bk:Value,∃aN:List Nat,∃ao:dn,∃bF:Value,∃bG:Value,∃bl:Value,∃N:Nat->Prop,be = .returned (bk)/\Md (e :: (ah Z).toList) w B/\pC w B Q N/\Ow eI 3 (bA [] w) B N bk aN/\bC B e (dn.cells ao bF bG bl) 67/\¬N e/\dn.ok ao/\Pt dO 135 B N bF ao.v/\Ls cZ B N bG ao.ats/\Ow eI 3 (bA (e :: (ah Z).toList) w) B N bl ao.good/\(∀x,ah bk=some x->ah bl≠some x)/\(j5 f.v f.ats 0 0 [],({f with good:=j5 f.v f.ats 0 0 [],known:=true}:dn))=(aN,ao):=by
 have D:=n0;have bs:bA (e :: (ah Z).toList) w e:=.inl Oy;have aE:=aE.eM (lo':=bA (e :: (ah Z).toList) w) (fun b E=>.inl (by simp[E]));have F:=Md.refl (e :: (ah Z).toList) w;have cj:=I;have z:∀b,Q b->Q b:=fun _ h=>h;have U:∀b,Q b->b<w.heap.size->Q b:=fun _ h _=>h;refine enter (n:=55) Tryz.func11 q q q fun bV=>ns (an q (aD (nm q (sn q (sf q N2 (sl (u:=(.bool f.known)) q VI d q (st _ (gR q) (nt ?_))))))));refine bJ q (fun a3=>?_) (fun a3=>?_)
 ·have bY:=wo a3;refine ns (an q (aD (nm q (sn q (sf q AY (sl (u:=ak) q gZ d q (sL q jY J.di (mv q (nt (aS ?_))))))))));obtain⟨aN,a0⟩:∃r,j5 f.v f.ats 0 0 f.good=r:=⟨_,q⟩;have b0:=a0
  try simp only[List.nil_append]at a0
  refine YD (fun(x:dn) (C:Value) (last:Nat) (i:Nat)=>[(3,(.int .u64 last)),(17,(.int .i64 i)),(0,(.pointer (some ⟨e,0,none⟩))),(16,(.int .i64 f.ats.length))]) (fun(x:dn) (C:Value) (last:Nat) (i:Nat) B=>∃N:Nat->Prop,(∀b,N b->Q b)/\(∀b,Q b->b<w.heap.size->N b)/\Up B N/\Md (e :: (ah Z).toList) w B/\bC B e (dn.cells x ap ak C) 67/\Pt dO 135 B N ap x.v/\Ls cZ B N ak x.ats/\Ow eI 3 (bA (e :: (ah Z).toList) w) B N C x.good/\dn.ok x/\¬N e/\x={f with good:=x.good}/\x.good.length<=i/\i<=f.ats.length/\j5 f.v (f.ats.drop i) i last x.good=aN) (fun(x:dn) (C:Value) (last:Nat) (i:Nat)=>f.ats.length-i) (x0:=f) (x1:=Z) (x2:=0) (x3:=0) ?_ ?_ ?_
  ·exact⟨q,q,q,q,tV⟩
  ·exact⟨Q,z,U,I,F,d,K,J,aE,b7,D,(by cases f;rfl),(by rw[bD];exact Nat.zero_le _),Xx,(by have P:=a0;exact P)⟩
  clear F I z U D K J aE d;rintro x C last i bV cd ⟨b5,z,U,I,F,d,K,J,A,au,D,am,ce,cf,az⟩;refine ns ?_;have bM:x.v=f.v:=(by rw[am]);have bL:x.ats=f.ats:=(by rw[am]);have co:x.v.b.length=f.v.b.length:=(by rw[bM]);have cn:=congrArg List.length bL;refine st _ (dN (a:=i) (b:=f.ats.length) q q) (nt (aD ?_));refine bJ q (fun a6=>?_) (fun a6=>?_)
  ·have aX:=dT a6;refine aL (aj (aD (aS (nm q (an q (ns (m2 q q (ax amw q (QI I x d D au K J (A.eM (fun _ _=>trivial)) i Xx Xx) ?_))))))));rintro be cu ⟨g,ad,Bk,rfl,s,bT,H,ch,b2⟩;refine rv ?_;obtain⟨A,d,K,J,I,F⟩:=k6 s A d K J I F;refine mv q (se q q (se q q (bI z51 ?_)));intro a2 cv ay b3 s X;have bU:e≠a2:=(by have:=d.lt;omega);obtain⟨aa,M,O,bN,c⟩:=jC I ay b3 s;have D:=fun P=>D (O _ P);have z:=tT z O;have U:=fun b E Y=>M b (U b E Y) (lj Y F.size);have ay:=lv F.size ay;have A:=(A.sub M O).o s;have d:=d.o s;have K:=(K.sub M).o s;have J:=(J.sub M).o s;have H:=(H.sub M).o s;have F:=F.k s;have I:=c;have bP:bA [] w a2:=.inr ay;have X:bC _ _ (Rec.cells (OB) SN) _:=X;have cg:Rec.ok (OB):=(by exact⟨Xy,Xy,Xy,q⟩);refine aK (us:=(Rec.cells ad g)) q q (by exact nW) (by exact fun u cb=>aV (Rec.one H.bB) u cb) X (lB q) ?_
   have br:=X;intro al s X;have k:∀b∈[a2],¬aa b:=(hI bN);have A:=A.md s (aB br A) k;have d:=d.md s Zz;have K:=K.md s k;have J:=J.md s k;have I:=I.md s;have F:=F.step s (hI (bA.wid bP));have X:bC _ _ (Rec.cells ad g) _:=X;refine an q (ns ?_);obtain⟨cs,aF⟩:=dY (l:=f.ats) (i:=i) aX;have aI:=b2;rw[bM,bL,Y9 aF]at aI;refine mv q (st _ (iQ (a:=Bk) (b:=0) q q) (mv q ?_));refine bX (t:=28) q (fun S=>?_) (fun S=>?_)
   ·have bp:=dT S;refine sg S (aJ q YN) (sg S ((aG q bh X q).to (b:=(.int .u64 ad.seq)) q) ?_);have ct:ad.seq<18446744073709551616:=bT.1;refine sg S (aM q) (sg S (kL (a:=ad.seq) (b:=last) q q) (st _ (bg q S q) (nt ?_)));refine bJ q (fun a7=>?_) (fun a7=>?_)
    ·have bq:=dT a7;refine rU (fun B=>Md (e :: (ah C).toList) al B) (R:=fun b6 B=>∃(bm:Fr 55) (bK:Value) (aC:Nat->Prop),b6=aQ bm [] [(3,(.int .u64 ad.seq)),(0,(.pointer (some ⟨e,0,none⟩))),(16,(.int .i64 f.ats.length)),(17,(.int .i64 i))]/\Md (e :: (ah C).toList) al B/\bC B e (dn.cells ({x with good:=x.good ++ [i]}:dn) ap ak bK) 67/\(∀b,aa b->b<al.heap.size->aC b)/\(∀b,aC b->aa b)/\Up B aC/\Ow eI 3 (bA (e :: (ah Z).toList) w) B aC bK (x.good ++ [i])) mixed ?_ ?_
     ·rintro _ cw ⟨bm,Bx,bt,rfl,s,bv,M,O,c,bz⟩;have k:∀b∈(e :: (ah C).toList),¬bt b:=fun b E P=>(dz D (jA fun x L=>(A.2 x L).2):∀b∈(e :: (ah C).toList),¬aa b) b E (O b P);have bw:=F.step s (dz bs (jA fun x L=>(A.2 x L).1));have K:=(K.sub M).md s k;have J:=(J.sub M).md s k;have D:=fun P=>D (O _ P);have z:=tT z O;have U:=fun b E Y=>M b (U b E Y) (lj Y F.size);clear F I d A H X k;have F:=bw;have I:=c;have d:=bv;have A:=bz;clear bw c bv bz M O;obtain⟨av,G⟩:∃y,y=({x with good:=x.good ++ [i]}:dn):=⟨_,q⟩;rw[<- G]at d;have bS:dn.ok av:=(by rw[G];exact au);rw[show x.v=av.v by rw[G]]at K;rw[show x.ats=av.ats by rw[G]]at J;rw[show x.good ++ [i]=av.good by rw[G]]at A;refine bE (aj (aH (st _ (rA (a:=i) (b:=1) q q Xx) (mv q (nt ?_)))));refine xf (x0:=av) (x1:=Bx) (x2:=ad.seq) (x3:=(i+1)) Xx ⟨(d9 q (by rfl)),(d9 q Xx),q,q,tV⟩ ⟨bt,z,U,I,F,d,K,J,A,bS,D,(by rw[G,am]),(by rw[G];simp;omega),Xx,(by have P:=az;rw[yE aF aI bp bq]at P;rw[G];exact P)⟩
     intro cd o;refine dM (i:=0) _ q Xw Xw (o.mono Oy) (fun B ag=>aM q) (dM (i:=1) _ q Xw Xw (o.mono Oy) (fun B ag=>aM q) (dM (i:=2) _ q Xw Xw (o.mono Oy) (fun B ag=>cA q) (dM (i:=3) _ q Xw Xw (o.mono Oy) (fun B ag=>aJ q xB) (dM (i:=5) _ q Xw Xw (o.mono Oy) (fun B ag=>aM q) (dM (i:=8) _ q Xw Xw (o.mono Oy) (fun B ag=>aJ q YN) (dM (i:=9) _ q Xw Xw (o.mono Oy) (fun B ag=>(aG q bh (X.md ag (bH (fun h=>(bU h.symm)) (aW A X))) q).to (b:=(.int .u64 ad.seq)) q) ?_))))));refine qS (i:=4) (j:=6) Xw q q q q ?_ ?_
     ·refine st _ ((aG q tK (d.o o) q).to (b:=C) q) ?_;refine aA ⟨q,o.mono Oy,?_⟩;refine cL (i:=6) Xw q q (aR [[(.int .i64 i)]] kM nI Xy Xy q q ⟨q,tV⟩ ⟨q,tV⟩ q Xy ?_);intro bd a9 bf cc bj bi;have V:=o.k bj;refine aA ⟨q,V.mono Oy,?_⟩;have aO:Ls eI a9 aa (.slice (some ⟨bd,0,none⟩) 1 1) [i]:=Ls.cG (m:=1) (R:=aa) (T:=eI) (xs:=[i]) bi ⟨_,_,q,⟨q,Xx⟩,q⟩ q Xy ((I.md o) _ bf);refine cL (i:=7) Xw q q (ud (sz:=1) q kM nI q q (A.o V) aO.lz (I.md V) (fun b E=>bA.new (F.k V) b E) Ym Ym ?_);intro aP aT a1 ba aw bb a4 a5 b8 b9 bc;have ab:Md (e :: (ah C).toList) al aT:=(V.mono (T:=(e :: (ah C).toList)) Oy).trans (a5.mono fun x L=>by simp[L]);refine aA ⟨q,ab,?_⟩;refine cL (i:=10) Xw q q (sn q ?_);refine aA ⟨q,ab,?_⟩;refine cL (i:=11) Xw q q (sf q xB ?_);refine aA ⟨q,ab,?_⟩;refine cL (i:=12) Xw q q ?_;have aq:e∉(ah C).toList:=wA A d Xy;refine bn q q tK a4.read.bB ((d.o V).md a5 aq) (lB q) ?_;intro aU ai a8;have ae:Md (e :: (ah C).toList) al aU:=ab.trans (ai.mono fun x L=>by simp at L;simp[L]);refine aA ⟨q,ae,?_⟩;refine cL (i:=13) Xw q q (ck q ?_);refine aA ⟨q,ae,?_⟩;refine lu Xw ?_;refine⟨_,aP,a1,(cV (by exact⟨q,q,q,q,tV⟩)).symm,ae,a8,fun b E Y=>ba b E (lj Y V.size),aw,bb.md ai,a4.md ai (fun b E L=>?_) (fun b E P=>?_)⟩
      ·simp at L;subst L;exact(bc _ E).elim (fun h=>GY aq h) (fun h=>by have:=d.lt;have:=V.size;omega)
      simp at E;subst E;exact D (aw _ P)
     refine aR [[(.int .i64 i)]] kM nI Xy Xy q q ⟨q,tV⟩ ⟨q,tV⟩ q Xy ?_;intro bd a9 bf cc bj bi;have V:=o.k bj;refine aA ⟨q,V.mono Oy,?_⟩;refine cL (i:=4) Xw q q (st _ ((aG q tK (d.o V) q).to (b:=C) q) ?_);refine aA ⟨q,V.mono Oy,?_⟩;have aO:Ls eI a9 aa (.slice (some ⟨bd,0,none⟩) 1 1) [i]:=Ls.cG (m:=1) (R:=aa) (T:=eI) (xs:=[i]) bi ⟨_,_,q,⟨q,Xx⟩,q⟩ q Xy ((I.md o) _ bf);refine cL (i:=7) Xw q q (ud (sz:=1) q kM nI q q (A.o V) aO.lz (I.md V) (fun b E=>bA.new (F.k V) b E) Ym Ym ?_);intro aP aT a1 ba aw bb a4 a5 b8 b9 bc;have ab:Md (e :: (ah C).toList) al aT:=(V.mono (T:=(e :: (ah C).toList)) Oy).trans (a5.mono fun x L=>by simp[L]);refine aA ⟨q,ab,?_⟩;refine cL (i:=10) Xw q q (sn q ?_);refine aA ⟨q,ab,?_⟩;refine cL (i:=11) Xw q q (sf q xB ?_);refine aA ⟨q,ab,?_⟩;refine cL (i:=12) Xw q q ?_;have aq:e∉(ah C).toList:=wA A d Xy;refine bn q q tK a4.read.bB ((d.o V).md a5 aq) (lB q) ?_;intro aU ai a8;have ae:Md (e :: (ah C).toList) al aU:=ab.trans (ai.mono fun x L=>by simp at L;simp[L]);refine aA ⟨q,ae,?_⟩;refine cL (i:=13) Xw q q (ck q ?_);refine aA ⟨q,ae,?_⟩;refine lu Xw ?_;refine⟨_,aP,a1,(cV (by exact⟨q,q,q,q,tV⟩)).symm,ae,a8,fun b E Y=>ba b E (lj Y V.size),aw,bb.md ai,a4.md ai (fun b E L=>?_) (fun b E P=>?_)⟩
     ·simp at L;subst L;exact(bc _ E).elim (fun h=>GY aq h) (fun h=>by have:=d.lt;have:=V.size;omega)
     simp at E;subst E;exact D (aw _ P)
    have bq:=dF a7;refine aL (bE (aj (aH (st _ (rA (a:=i) (b:=1) q q Xx) (mv q (nt ?_))))));refine xf (x0:=x) (x1:=C) (x2:=last) (x3:=(i+1)) Xx ⟨(d9 q (by rfl)),(d9 q Xx),q,q,tV⟩ ⟨aa,z,U,I,F,d,K,J,A,au,D,am,Xx,Xx,(by have P:=az;rw[DK aF aI Xx]at P;exact P)⟩
   have bp:=dF S;refine sk S (sk S (sk S (sk S (st _ (aZ q S q) (nt (iw q q (aL (bE (aj (aH (st _ (rA (a:=i) (b:=1) q q Xx) (mv q (nt ?_)))))))))))));refine xf (x0:=x) (x1:=C) (x2:=last) (x3:=(i+1)) Xx ⟨(d9 q (by rfl)),(d9 q Xx),q,q,tV⟩ ⟨aa,z,U,I,F,d,K,J,A,au,D,am,Xx,Xx,(by have P:=az;rw[DK aF aI Xx]at P;exact P)⟩
  have aX:=dF a6;refine bW (aY (aY (cO (aj (aH (mv q (sn q (sf q N2 (bn q q VI q d (lB q) ?_)))))))));have bu:=d;intro cl s d;have k:∀b∈[e],¬b5 b:=(hI D);have A:=A.md s (aB bu A) k;have K:=K.md s k;have J:=J.md s k;have I:=I.md s;have F:=F.step s (hI bs);obtain⟨p,af⟩:∃y,y=({x with known:=true}:dn):=⟨_,q⟩;have d:bC _ _ (dn.cells ({x with known:=true}) ap ak C) _:=d;rw[<- af]at d;have bO:dn.ok p:=(by rw[af];exact(by unfold dn.ok;exact au));rw[show x.v=p.v by rw[af]]at K;rw[show x.ats=p.ats by rw[af]]at J;rw[show x.good=p.good by rw[af]]at A;refine nt (nm q (sn q (sf q xB (sl (u:=C) q tK d q ?_))));have ci:p.good.length=x.good.length:=(by rw[af]);refine ax alg q (EY I A Xx) ?_;rintro be cm ⟨bo,bQ,b1,rfl,s,⟨M,O,c⟩,W,bZ⟩;refine rv ?_;have b4:∀x,ah bo=some x->ah C≠some x:=fun x L ca=>by have cp:=A.lt x ca;have cq:=(W.2 x L).1.elim (fun h=>by simp at h) id;omega
  have D:=fun P=>D (O _ P);have z:=tT z O;have U:=fun b E Y=>M b (U b E Y) (lj Y F.size);have W:=W.lower (bA.lift (S':=[]) F);have A:=(A.sub M O).o s;have K:=(K.sub M).o s;have J:=(J.sub M).o s;obtain⟨d,F⟩:=k2 s d F;have I:=c;refine ar q ?_;exact bR (v:=bo) trivial q ⟨q,tV⟩ ⟨_,bQ,p,_,_,_,b1,q,F,⟨U,z,I⟩,W,d,D,bO,K,J,A,b4,(by have bx:=b0.trans (az.symm.trans (yD (v:=f.v) aX));rw[bD]at bx;rw[bx,<- bZ,af];exact(congrArg (fun qv:dn=>(qv.good,({qv with known:=true}:dn))) am).symm)⟩
 have bY:=wm a3;exfalso;simp_all
end Go.Proofs.YtlleafgaeeneoaaGreat
namespace Go.Wk
open Go Go.RowKit Go.Sort
abbrev vZ (z:Int):Value:=.int .i64 z
theorem SQ {w:World} {b m n:Nat} {e:TypeId} {cur:List Value} {ys:List Int} {os:Array Obj} (d:bC w b cur e) (j:m<=cur.length) (i:ys.length=m) :
    Md [b] w (grow (putRow (Value.int .i64) (Sort.ahead w n) b 0 ys.toArray) os)/\bC (grow (putRow (Value.int .i64) (Sort.ahead w n) b 0 ys.toArray) os) b (ys.map vZ ++ cur.drop m) e:=by
  have f:=d.lt;refine⟨⟨q,q,q,?_,?_⟩,?_⟩
  · simp[grow,putRow,mapBlock,Sort.ahead]
  · intro k hk c
    simp only[List.mem_singleton]at c;unfold grow putRow mapBlock;simp only[Sort.ahead];rw[Array.getElem?_append_left (by simpa using hk),Array.getElem?_modify,if_neg (fun h=>c h.symm)]
  have C:w.heap[b]? = some (.cells cur.toArray e (0,0)):=d;have D:(grow (putRow (Value.int .i64) (Sort.ahead w n) b 0 ys.toArray) os).heap[b]? = some (.cells (putCells (Value.int .i64) 0 ys.toArray cur.toArray) e (0,0)):=by unfold grow putRow mapBlock;simp only[Sort.ahead];rw[Array.getElem?_append_left (by simpa using f),Array.getElem?_modify,if_pos q,C];rfl
  unfold bC;rw[D];congr 2;apply Array.ext';apply List.ext_getElem?;intro t;unfold putCells;rw[Array.getElem?_toList,Array.getElem?_mapIdx,List.getElem?_toArray];simp only[List.size_toArray,Nat.zero_le,true_and,Nat.zero_add,Nat.sub_zero]
  by_cases ht:t<m
  · have g:t<cur.length:=by omega
    have a:t<ys.length:=(by omega);rw[List.getElem?_eq_getElem g,Option.map_some,if_pos Xx,List.getElem?_append_left (by simpa using a),List.getElem?_map,List.getElem?_eq_getElem a,Option.map_some];rw[getElem!_pos _ t (by simpa using a)];rfl
  rw[List.getElem?_append_right Ym,List.getElem?_drop,List.length_map,i,show m+(t-m)=t by omega];cases cur[t]? with
  | none=>rfl
  | some u=>rw[Option.map_some,if_neg Xx]
theorem abz (xs:List Nat):((xs.map fun n:Nat=>((n:Nat):Int)).mergeSort fun x y=>decide (x<=y))=(oO xs).map fun n:Nat=>((n:Nat):Int):=by unfold oO;rw[List.map_mergeSort (s:=fun x y:Int=>decide (x<=y)) (fun a _ b _=>by simp)]
theorem ama {P:Program} {u:Shelf.Ren} (L:Go.Proofs.SlLaysM.n5 P u) {w:World} {Q lo:Nat->Prop} {e:TypeId} {v:Value} {xs:List Nat} (h:Ow eI e lo w Q v xs) (J:xs.length<=1000000000) :
    Calls P (u.f 5) #[v] w fun k c=>k = .returned (.tuple #[])/\Md (ah v).toList w c/\Ow eI e lo c Q v (oO xs):=by
  obtain⟨⟨F,g,i⟩,r⟩:=h;have I:=i;obtain⟨rfl,H⟩:=CR i
  rcases Nat.eq_zero_or_pos xs.length with D|D
  · have j:xs=[]:=List.eq_nil_of_length_eq_zero D
    subst j;obtain⟨E,cap,rfl,_⟩:=py g;refine(Go.Proofs.AnyM.slices_Sort_int_none L E cap w).mono ?_;rintro k c ⟨rfl,rfl⟩;exact⟨q,(Md.refl [] _).mono Oy,by rw[show oO []=[]from by simp[oO]];exact⟨⟨_,g,i⟩,r⟩⟩
  obtain⟨b,cap,d,rfl,C,R,z,T,p⟩:=g.blk D;have j:eI.n=1:=rfl;rw[j,Nat.mul_one]at T p;have t:=Go.Proofs.AnyM.slices_Sort_int L b 0 cap (xs.map fun n:Nat=>((n:Nat):Int)) w ?_ C.lt (by rw[List.length_map];omega)
  · rw[List.length_map]at t
    refine t.mono ?_;rintro k c ⟨rfl,n,os,rfl⟩;rw[abz];have y:((oO xs).map fun n:Nat=>((n:Nat):Int)).length=xs.length:=(by rw[List.length_map,rM]);obtain⟨W,o⟩:=SQ (n:=n) (os:=os) (ys:=(oO xs).map fun n:Nat=>((n:Nat):Int)) C Xx y;rw[List.map_map]at o;refine⟨q,W,⟨⟨(oO xs).map vN,?_,AL fun x B=>H x ((zq _ _).1 B)⟩,r⟩⟩;have G:bC _ b ((oO xs).map vN ++ d.drop xs.length) _:=o;have s:=Own.cG (sz:=1) (m:=xs.length) (cap:=cap) G R z (by rw[List.length_append,List.length_map,List.length_drop,rM];omega);rw[Nat.mul_one,List.take_append_of_le_length (by rw[List.length_map,rM];omega),List.take_of_length_le (by rw[List.length_map,rM];omega)]at s;rw[rM];exact s
  intro a V;have l:a<xs.length:=by simpa using V
  rw[Nat.zero_add,C.cell,C.frozen];refine⟨?_,q⟩;have A:(d.take xs.length)[a]? = d[a]?:=by rw[List.getElem?_take,if_pos l]
  rw[<- A,p,List.getElem?_map,List.getElem?_eq_getElem l,Option.map_some,getElem!_pos _ a (by simpa using l)];simp
end Go.Wk
namespace Go.Proofs.YtlleafgaeeneoaaGreat
open Go Go.Shelf
def T0:Go.Shelf.Ren:=⟨fun|5=>34|8=>81|7=>80|19=>123|20=>124|10=>114|11=>115|12=>116|13=>117|14=>118|15=>119|16=>120|17=>121|18=>122|30=>151|31=>152|32=>153|33=>154|34=>155|35=>156|40=>169|n=>n,fun|23=>22|25=>3|3=>3|32=>157|22=>22|0=>0|44=>88|46=>46|4=>4|36=>195|35=>194|41=>200|5=>5|9=>9|53=>241|57=>244|63=>258|64=>259|n=>n,fun|n=>n⟩
theorem sortInt:Go.Proofs.SlLaysM.n5 Zp T0:={
  mixed:=(by kernel_rfl)
  f5:=⟨Tryz.f34.name,by decide,Tryz.func34.trans (congrArg some (by kernel_rfl))⟩
  f7:=⟨Tryz.f80.name,by decide,Tryz.func80.trans (congrArg some (by kernel_rfl))⟩
  f8:=Tryz.func81.trans (congrArg some (by kernel_rfl))
  f10:=⟨Tryz.f114.name,by decide,Tryz.func114.trans (congrArg some (by kernel_rfl))⟩
  f11:=⟨Tryz.f115.name,by decide,Tryz.func115.trans (congrArg some (by kernel_rfl))⟩
  f12:=⟨Tryz.f116.name,by decide,Tryz.func116.trans (congrArg some (by kernel_rfl))⟩
  f13:=⟨Tryz.f117.name,by decide,Tryz.func117.trans (congrArg some (by kernel_rfl))⟩
  f14:=⟨Tryz.f118.name,by decide,Tryz.func118.trans (congrArg some (by kernel_rfl))⟩
  f15:=⟨Tryz.f119.name,by decide,Tryz.func119.trans (congrArg some (by kernel_rfl))⟩
  f16:=⟨Tryz.f120.name,by decide,Tryz.func120.trans (congrArg some (by kernel_rfl))⟩
  f17:=⟨Tryz.f121.name,by decide,Tryz.func121.trans (congrArg some (by kernel_rfl))⟩
  f18:=⟨Tryz.f122.name,by decide,Tryz.func122.trans (congrArg some (by kernel_rfl))⟩
  f19:=Tryz.func123.trans (congrArg some (by kernel_rfl))
  f20:=Tryz.func124.trans (congrArg some (by kernel_rfl))
  f30:=⟨Tryz.f151.name,by decide,Tryz.func151.trans (congrArg some (by kernel_rfl))⟩
  f31:=Tryz.func152.trans (congrArg some (by kernel_rfl))
  f32:=Tryz.func153.trans (congrArg some (by kernel_rfl))
  f33:=⟨Tryz.f154.name,by decide,Tryz.func154.trans (congrArg some (by kernel_rfl))⟩
  f34:=⟨Tryz.f155.name,by decide,Tryz.func155.trans (congrArg some (by kernel_rfl))⟩
  f35:=⟨Tryz.f156.name,by decide,Tryz.func156.trans (congrArg some (by kernel_rfl))⟩
  f40:=⟨Tryz.f169.name,by decide,Tryz.func169.trans (congrArg some (by kernel_rfl))⟩
  t0:=Tryz.underlying0
  a0:=Tryz.isAgg0
  z0:=Tryz.sizeOf0
  v0:=Tryz.zeroValue0
  t3:=Tryz.underlying3
  a3:=Tryz.isAgg3
  z3:=Tryz.sizeOf3
  v3:=Tryz.zeroValue3
  t4:=Tryz.underlying4
  a4:=Tryz.isAgg4
  z4:=Tryz.sizeOf4
  v4:=Tryz.zeroValue4
  t5:=Tryz.underlying5
  a5:=Tryz.isAgg5
  z5:=Tryz.sizeOf5
  v5:=Tryz.zeroValue5
  t9:=Tryz.underlying9
  a9:=Tryz.isAgg9
  z9:=Tryz.sizeOf9
  v9:=Tryz.zeroValue9
  t22:=Tryz.underlying22
  a22:=Tryz.isAgg22
  z22:=Tryz.sizeOf22
  v22:=Tryz.zeroValue22
  t23:=Tryz.underlying22
  a23:=Tryz.isAgg22
  z23:=Tryz.sizeOf22
  v23:=Tryz.zeroValue22
  t25:=Tryz.underlying3
  a25:=Tryz.isAgg3
  z25:=Tryz.sizeOf3
  v25:=Tryz.zeroValue3
  t32:=Tryz.underlying157
  a32:=Tryz.isAgg157
  z32:=Tryz.sizeOf157
  v32:=Tryz.zeroValue157
  t35:=Tryz.underlying194
  a35:=Tryz.isAgg194
  z35:=Tryz.sizeOf194
  v35:=Tryz.zeroValue194
  t36:=Tryz.underlying195
  a36:=Tryz.isAgg195
  z36:=Tryz.sizeOf195
  v36:=Tryz.zeroValue195
  t41:=Tryz.underlying200
  a41:=Tryz.isAgg200
  z41:=Tryz.sizeOf200
  v41:=Tryz.zeroValue200
  t44:=Tryz.underlying88
  a44:=Tryz.isAgg88
  z44:=Tryz.sizeOf88
  v44:=Tryz.zeroValue88
  t46:=Tryz.underlying46
  a46:=Tryz.isAgg46
  z46:=Tryz.sizeOf46
  v46:=Tryz.zeroValue46
  t53:=Tryz.underlying241
  a53:=Tryz.isAgg241
  z53:=Tryz.sizeOf241
  v53:=Tryz.zeroValue241
  t57:=Tryz.underlying244
  a57:=Tryz.isAgg244
  z57:=Tryz.sizeOf244
  v57:=Tryz.zeroValue244
  t63:=Tryz.underlying258
  a63:=Tryz.isAgg258
  z63:=Tryz.sizeOf258
  v63:=Tryz.zeroValue258
  t64:=Tryz.underlying259
  a64:=Tryz.isAgg259
  z64:=Tryz.sizeOf259
  v64:=Tryz.zeroValue259}
end Go.Proofs.YtlleafgaeeneoaaGreat
namespace Go.Proofs.YtlleafgaeeneoaaGreat
open Go Go.Wk Go.RowKit
set_option linter.unusedVariables false
set_option linter.unusedSimpArgs false
attribute [local irreducible] wpList wpQuiet wpStill fD Code.wp Calls bodyPost
variable {w:World} {Q:Nat->Prop}
theorem amM:cu Zp 71=true:=Xw
theorem amN:cu Zp 72=true:=Xw
theorem amO:cu Zp 73=true:=Xw
theorem amP:cu Zp 74=true:=Xw
theorem amQ:cu Zp 75=true:=Xw
theorem adB (s:Up w Q) {v0:Value} {a:List (List UInt8)} (e:Ls ij w Q v0 a) {v1:Value} {b:List (List UInt8)} (h1:Ls ij w Q v1 b) :
  Calls Zp 75 #[v0,v1] w fun X d=>∃F:Bool,X = .returned (.bool F)/\Md [] w d/\pQ a b=F:=by
 have k:=e.dB;have o:=h1.dB;have j:=Md.refl [] w;have g:=s;have W:∀b,Q b->Q b:=fun _ h=>h;have E:∀b,Q b->b<w.heap.size->Q b:=fun _ h _=>h;refine enter (n:=26) Tryz.func75 q q q fun N=>ns (an q (aD (nm q (sL q iT e.di (mv q (sL q iT h1.di (st _ (eU (a:=a.length) (b:=b.length) q q) (nt ?_))))))));refine bJ q (fun P=>?_) (fun P=>?_)
 ·have m:=dT P;refine ns (ar q (aI ?_));exact bR (v:=(.bool false)) trivial q ⟨q,tV⟩ ⟨false,q,j,(by rw[pQ]<;>simp(disch:=first|omega|assumption|simp) only [SS,reduceIte,m])⟩
 have m:=dF P;refine aL (aj (aD (nm q (sL q iT e.di (mv q (nt (aS ?_)))))));obtain⟨F,D⟩:∃r,eqT a b=r:=⟨_,q⟩;have Z:=D
 try simp only[List.nil_append]at D
 refine nE (fun(i:Nat)=>[(13,(.int .i64 i)),(0,v0),(1,v1),(12,(.int .i64 a.length))]) (fun(i:Nat) d=>∃x:Nat->Prop,(∀b,x b->Q b)/\(∀b,Q b->b<w.heap.size->x b)/\Up d x/\Md [] w d/\Ls ij d x v0 a/\Ls ij d x v1 b/\eqT (a.drop i) (b.drop i)=F) (fun(i:Nat)=>a.length-i) (x0:=0) ?_ ?_ ?_
 ·exact⟨q,q,q,q,tV⟩
 ·exact⟨Q,W,E,s,j,e,h1,(by have V:=D;exact V)⟩
 clear j s W E e h1;rintro i N Y ⟨f,W,E,s,j,e,h1,u⟩;refine ns (st _ (dN (a:=i) (b:=a.length) q q) (nt (aD ?_)));refine bJ q (fun R=>?_) (fun R=>?_)
 ·have C:=dT R;refine aL (aj (aD (aS (nm q (an q (aD ?_))))));have L:=e;have M:=h1;refine cT (ml 8) [8] (fun d=>Md [] Y d) mixed Xw ?_;intro aa I;refine⟨I.mono Oy,?_⟩;have U:=I.mono (T:=[]) Oy;refine mo q (mo q (mz (fun d y=>bf (i:=i) 1 q q iT II e.di Xx) ?_));obtain⟨K,G⟩:=dY (l:=a) (i:=i) Xx;obtain⟨p,O,A⟩:=L.get G;obtain⟨rfl,_⟩:=O;have A:At _ v0 (i*1) [(str K)]:=A;refine mz (fun d y=>(bP (kk:=i*1) 0 q q jG (A.o y) q).to (b:=(str K)) q) (mo q (mo q (mz (fun d y=>bf (i:=i) 1 q q iT II h1.di Xx) ?_)));obtain⟨c,H⟩:=dY (l:=b) (i:=i) Xx;obtain⟨t,S,B⟩:=M.get H;obtain⟨rfl,_⟩:=S;have B:At _ v1 (i*1) [(str c)]:=B;refine mz (fun d y=>(bP (kk:=i*1) 0 q q jG (B.o y) q).to (b:=(str c)) q) (dD ?_);obtain⟨e,h1,s,j⟩:=k4 I e h1 s j;refine st _ (ajG (a:=K) (b:=c) q q) (aA ?_);refine aj ?_;refine bJ q (fun J=>?_) (fun J=>?_)
  ·have z:=dF (wo J);refine ns (ar q (aU (aI (aI (aU (aI ?_))))));exact bR (v:=(.bool false)) trivial q ⟨q,tV⟩ ⟨false,q,j,(by(try (simp(disch:=first|omega|assumption|simp) only [MF,wG G,wG H,SS,reduceIte,m,C,G,H,z]at u));rw[pQ]<;>simp(disch:=first|omega|assumption|simp) only [SS,reduceIte,m,D,C,G,H,z,<- u])⟩
  have z:=dT (wm J);refine aL (bE (aj (aH (st _ (rA (a:=i) (b:=1) q q Xx) (mv q (nt ?_))))));refine mU (x0:=(i+1)) Xx ⟨(d9 q Xx),q,q,q,tV⟩ ⟨f,W,E,s,j,e,h1,(by have V:=u;simp(disch:=first|omega|assumption|simp) only [MF,wG G,wG H,SS,reduceIte,m,C,G,H,z]at V;exact V)⟩
 have C:=dF R;refine bW (aY (aY (cO (aj (ns (ar q ?_))))));exact bR (v:=(.bool true)) trivial q ⟨q,tV⟩ ⟨true,q,j,(by(try (simp(disch:=first|omega|assumption|simp) only [MF,SS,reduceIte,m,C]at u));rw[pQ]<;>simp(disch:=first|omega|assumption|simp) only [SS,reduceIte,m,D,C,<- u])⟩
theorem QR (e:Up w Q) {h:Value} (a:eT) (f:Ls ij w Q h a.values) {i:Value} (b:eT) (g:Ls ij w Q i b.values) :
  Calls Zp 74 #[.agg (eT.cells a h).toArray,.agg (eT.cells b i).toArray] w fun o x=>∃p:Bool,o = .returned (.bool p)/\Md [] w x/\PE a b=p:=by
 have d:=Md.refl [] w;have T:=e;refine enter (n:=17) Tryz.func74 q q q fun y=>ns (dS (cs:=(eT.cells a h)) q q ?_);intro r F j R C D;have A:=e _ j;have j:=lv d.size j;obtain⟨f,g,e,d⟩:=k4 C f g e d;refine dS (cs:=(eT.cells b i)) q q ?_;intro s V G E C m;have z:r≠s:=(by have:=D.lt;omega);have B:=e _ G;have G:=lv d.size G;obtain⟨f,g,D,e,d⟩:=k5 C f g D e d;refine an q (ns (sf q uP (sl (u:=(str a.name)) q jG D q (sf q uP (sl (u:=(str b.name)) q jG m q (st _ (pO (a:=a.name) (b:=b.name) q q) (mv q ?_)))))));refine bX (t:=10) q (fun c=>?_) (fun c=>?_)
 ·have H:=dT c;refine sg c (aJ q xC) (sg c ((aG q RY D q).to (b:=h) q) (sg c (aJ q xC) (sg c ((aG q RY m q).to (b:=i) q) (fM q q q c amQ q (adB e f g) ?_))));rintro o W ⟨l,rfl,C,P⟩;refine rv ?_;have d:=d.k C;refine st _ (bg q c q) (ar q ?_);exact bR (v:=(.bool l)) trivial q ⟨q,tV⟩ ⟨l,q,d,(by unfold PE;simp_all)⟩
 have H:=dF c;refine sk c (sk c (sk c (sk c (sk c (st _ (aZ q c q) (ar q ?_))))));exact bR (v:=(.bool false)) trivial q ⟨q,tV⟩ ⟨false,q,d,(by unfold PE;simp_all)⟩
theorem ad9 (m:Up w Q) {v0:Value} {a:List eT} (j:Ls jM w Q v0 a) {v1:Value} {b:List eT} (h1:Ls jM w Q v1 b) :
  Calls Zp 73 #[v0,v1,.func (.func 74) #[] #[]] w fun ak M=>∃ae:Bool,ak = .returned (.bool ae)/\Md [] w M/\CV a b=ae:=by
 have aG:=j.dB;have aJ:=h1.dB;have e:=Md.refl [] w;have aB:=m;have E:∀b,Q b->Q b:=fun _ h=>h;have B:∀b,Q b->b<w.heap.size->Q b:=fun _ h _=>h;refine enter (n:=32) Tryz.func73 q q q fun av=>ns (an q (aD (nm q (sL q xW j.di (mv q (sL q xW h1.di (st _ (eU (a:=a.length) (b:=b.length) q q) (nt ?_))))))));refine bJ q (fun ag=>?_) (fun ag=>?_)
 ·have F:=dT ag;refine ns (ar q (aI ?_));exact bR (v:=(.bool false)) trivial q ⟨q,tV⟩ ⟨false,q,e,(by rw[CV]<;>simp(disch:=first|omega|assumption|simp) only [SS,reduceIte,F])⟩
 have F:=dF ag;refine aL (aj (aD (nm q (sL q xW j.di (mv q (nt (aS ?_)))))));obtain⟨ae,O⟩:∃r,UB a b=r:=⟨_,q⟩;have az:=O
 try simp only[List.nil_append]at O
 refine nE (fun(i:Nat)=>[(17,(.int .i64 i)),(1,v1),(2,(.func (.func 74) #[] #[])),(15,v0),(16,(.int .i64 a.length))]) (fun(i:Nat) M=>∃S:Nat->Prop,(∀b,S b->Q b)/\(∀b,Q b->b<w.heap.size->S b)/\Up M S/\Md [] w M/\Ls jM M S v1 b/\Ls jM M S v0 a/\UB (a.drop i) (b.drop i)=ae) (fun(i:Nat)=>a.length-i) (x0:=0) ?_ ?_ ?_
 ·exact⟨q,q,q,q,q,tV⟩
 ·exact⟨Q,E,B,m,e,h1,j,(by have ad:=O;exact ad)⟩
 clear e m E B j h1;rintro i av aN ⟨aM,E,B,m,e,h1,j,V⟩;refine ns (st _ (dN (a:=i) (b:=a.length) q q) (nt (aD ?_)));refine bJ q (fun k=>?_) (fun k=>?_)
 ·have G:=dT k;refine aL (aj (aD (aS (nm q (st _ (bf (i:=i) 2 q q xW HB j.di Xx) ?_)))));obtain⟨z,L⟩:=dY (l:=a) (i:=i) Xx;obtain⟨c4,ap,ab⟩:=j.get L;obtain⟨Z,rfl,D⟩:=nU ap;have ab:At _ v0 (i*2) (eT.cells z Z):=ab;refine st _ (gH (kk:=i*2) (eT.cells z Z) 0 q q (by exact qf) ab q) (bI z98 ?_);intro f aO aa aq d C;obtain⟨aw,s,Y,p,W⟩:=jC m aa aq d;have E:=tT E Y;have B:=fun b P X=>s b (B b P X) (lj X e.size);have aa:=lv e.size aa;have h1:=(h1.sub s).o d;have j:=(j.sub s).o d;have D:=(D.sub s).o d;have e:=e.k d;have m:=W;have x:bA [] w f:=.inr aa;have C:bC _ _ (eT.cells (({name:=[],values:=[]}:eT)) SN) _:=C;refine ck q (aK (us:=(eT.cells z Z)) q q (by exact qf) (by exact fun ah af=>aV (eT.one D.bB) ah af) C (lB q) ?_);have al:=C;intro aP d C;have u:∀b∈[f],¬aw b:=(hI p);have h1:=h1.md d u;have j:=j.md d u;have D:=D.md d u;have m:=m.md d;have e:=e.step d (hI x);have C:bC _ _ (eT.cells z Z) _:=C;refine nt (ns (m2 q q (st _ (bf (i:=i) 2 q q xW HB h1.di Xx) ?_)));obtain⟨T,K⟩:=dY (l:=b) (i:=i) Xx;obtain⟨aA,ao,R⟩:=h1.get K;obtain⟨U,rfl,I⟩:=nU ao;have R:At _ v1 (i*2) (eT.cells T U):=R;refine st _ (gH (kk:=i*2) (eT.cells T U) 0 q q (by exact qf) R q) (bI z98 ?_)
  intro g aC c au d A;have ax:f≠g:=(by have:=C.lt;omega);obtain⟨ai,s,Y,t,W⟩:=jC m c au d;have E:=tT E Y;have B:=fun b P X=>s b (B b P X) (lj X e.size);have c:=lv e.size c;have h1:=(h1.sub s).o d;have j:=(j.sub s).o d;have D:=(D.sub s).o d;have C:=C.o d;have I:=(I.sub s).o d;have e:=e.k d;have m:=W;have y:bA [] w g:=.inr c;have A:bC _ _ (eT.cells (({name:=[],values:=[]}:eT)) SN) _:=A;refine aK (us:=(eT.cells T U)) q q (by exact qf) (by exact fun ah af=>aV (eT.one I.bB) ah af) A (lB q) ?_;have am:=A;intro aE d A;have u:∀b∈[g],¬ai b:=(hI t);have h1:=h1.md d u;have j:=j.md d u;have D:=D.md d u;have C:=C.md d Zz;have I:=I.md d u;have m:=m.md d;have e:=e.step d (hI y);have A:bC _ _ (eT.cells T U) _:=A;refine nt (nm q (st _ (bL (eT.cells z Z) q (by exact qf) C q) (st _ (bL (eT.cells T U) q (by exact qf) A q) (lX (cs:=[]) q amP q (QR m z D T I) ?_))));rintro ak aF ⟨ay,rfl,d,N⟩;refine rv ?_;obtain⟨h1,j,m,e⟩:=k4 d h1 j m e;refine st _ (gR q) (nt ?_);refine bJ q (fun o=>?_) (fun o=>?_)
  ·have H:=wo o;have J:=N.trans H;try simp only[Bool.not_eq_true',Bool.not_eq_false']at J
   refine ns (ar q (aU (aI (aI (aU (aI ?_))))));exact bR (v:=(.bool false)) trivial q ⟨q,tV⟩ ⟨false,q,e,(by(try (simp(disch:=first|omega|assumption|simp) only [CU,uD L,uD K,SS,reduceIte,F,G,L,K,N,H,J]at V));rw[CV]<;>simp(disch:=first|omega|assumption|simp) only [SS,reduceIte,F,O,G,L,K,N,H,J,<- V])⟩
  have H:=wm o;have J:=N.trans H;try simp only[Bool.not_eq_true',Bool.not_eq_false']at J
  refine aL (bE (aj (aH (st _ (rA (a:=i) (b:=1) q q Xx) (mv q (nt ?_))))));refine mU (x0:=(i+1)) Xx ⟨(d9 q Xx),q,q,q,q,tV⟩ ⟨ai,E,B,m,e,h1,j,(by have ad:=V;simp(disch:=first|omega|assumption|simp) only [CU,uD L,uD K,SS,reduceIte,F,G,L,K,N,H,J]at ad;exact ad)⟩
 have G:=dF k;refine bW (aY (aY (cO (aj (ns (ar q ?_))))));exact bR (v:=(.bool true)) trivial q ⟨q,tV⟩ ⟨true,q,e,(by(try (simp(disch:=first|omega|assumption|simp) only [CU,SS,reduceIte,F,G]at V));rw[CV]<;>simp(disch:=first|omega|assumption|simp) only [SS,reduceIte,F,O,G,<- V])⟩
theorem UZ (h:Up w Q) {v0:Value} {a:List eT} (f:Ls jM w Q v0 a) {v1:Value} {b:List eT} (h1:Ls jM w Q v1 b) :
  Calls Zp 72 #[v0,v1] w fun e i=>∃g:Bool,e = .returned (.bool g)/\Md [] w i/\CV a b=g:=by
 have m:=f.dB;have G:=h1.dB;have c:=Md.refl [] w;have l:=h;refine enter (n:=8) Tryz.func72 q q q fun j=>ns (an q (ns (m2 q q (ax amO q (ad9 h f h1) ?_))));rintro e H ⟨d,rfl,D,C⟩;refine rv ?_;have c:=c.k D;refine ar q ?_;exact bR (v:=(.bool d)) trivial q ⟨q,tV⟩ ⟨d,q,c,C⟩
theorem adA (j:Up w Q) {v0:Value} {a:List (List eT)} (d:Ls (qR jM) w Q v0 a) {v1:Value} {b:List (List eT)} (h1:Ls (qR jM) w Q v1 b) :
  Calls Zp 71 #[v0,v1,.func (.func 72) #[] #[]] w fun O z=>∃K:Bool,O = .returned (.bool K)/\Md [] w z/\yt a b=K:=by
 have k:=d.dB;have o:=h1.dB;have e:=Md.refl [] w;have g:=j;have V:∀b,Q b->Q b:=fun _ h=>h;have J:∀b,Q b->b<w.heap.size->Q b:=fun _ h _=>h;refine enter (n:=32) Tryz.func71 q q q fun S=>ns (an q (aD (nm q (sL q Z5 d.di (mv q (sL q Z5 h1.di (st _ (eU (a:=a.length) (b:=b.length) q q) (nt ?_))))))));refine bJ q (fun L=>?_) (fun L=>?_)
 ·have m:=dT L;refine ns (ar q (aI ?_));exact bR (v:=(.bool false)) trivial q ⟨q,tV⟩ ⟨false,q,e,(by rw[yt]<;>simp(disch:=first|omega|assumption|simp) only [SS,reduceIte,m])⟩
 have m:=dF L;refine aL (aj (aD (nm q (sL q Z5 d.di (mv q (nt (aS ?_)))))));obtain⟨K,G⟩:∃r,PF a b=r:=⟨_,q⟩;have c:=G
 try simp only[List.nil_append]at G
 refine nE (fun(i:Nat)=>[(17,(.int .i64 i)),(1,v1),(2,(.func (.func 72) #[] #[])),(15,v0),(16,(.int .i64 a.length))]) (fun(i:Nat) z=>∃E:Nat->Prop,(∀b,E b->Q b)/\(∀b,Q b->b<w.heap.size->E b)/\Up z E/\Md [] w z/\Ls (qR jM) z E v1 b/\Ls (qR jM) z E v0 a/\PF (a.drop i) (b.drop i)=K) (fun(i:Nat)=>a.length-i) (x0:=0) ?_ ?_ ?_
 ·exact⟨q,q,q,q,q,tV⟩
 ·exact⟨Q,V,J,j,e,h1,d,(by have T:=G;exact T)⟩
 clear e j V J d h1;rintro i S ad ⟨f,V,J,j,e,h1,d,B⟩;refine ns (st _ (dN (a:=i) (b:=a.length) q q) (nt (aD ?_)));refine bJ q (fun P=>?_) (fun P=>?_)
 ·have C:=dT P;refine aL (aj (aD (aS (nm q (st _ (bf (i:=i) 1 q q Z5 agk d.di Xx) ?_)))));obtain⟨x,H⟩:=dY (l:=a) (i:=i) Xx;obtain⟨p,Y,F⟩:=d.get H;obtain⟨M,rfl,W⟩:=Y;have F:At _ v0 (i*1) [M]:=F;refine st _ ((bP (kk:=i*1) 0 q q YU F q).to (b:=M) q) (ck q (ck q (aA ?_)));refine aj (ns (m2 q q (st _ (bf (i:=i) 1 q q Z5 agk h1.di Xx) ?_)));obtain⟨y,u⟩:=dY (l:=b) (i:=i) Xx;obtain⟨t,Z,I⟩:=h1.get u;obtain⟨N,rfl,U⟩:=Z;have I:At _ v1 (i*1) [N]:=I;refine st _ ((bP (kk:=i*1) 0 q q YU I q).to (b:=N) q) (ck q (aA ?_));refine aj (ns (m2 q q (mv q (lX (cs:=[]) q amN q (UZ j W U) ?_))));rintro O ab ⟨aa,rfl,X,A⟩;refine rv ?_;obtain⟨h1,d,j,e⟩:=k4 X h1 d j e;refine st _ (gR q) (nt ?_);refine bJ q (fun R=>?_) (fun R=>?_)
  ·have D:=wo R;have s:=A.trans D;try simp only[Bool.not_eq_true',Bool.not_eq_false']at s
   refine ns (ar q (aU (aI (aI (aU (aI ?_))))));exact bR (v:=(.bool false)) trivial q ⟨q,tV⟩ ⟨false,q,e,(by(try (simp(disch:=first|omega|assumption|simp) only [CW,uE H,uE u,SS,reduceIte,m,C,H,u,A,D,s]at B));rw[yt]<;>simp(disch:=first|omega|assumption|simp) only [SS,reduceIte,m,G,C,H,u,A,D,s,<- B])⟩
  have D:=wm R;have s:=A.trans D;try simp only[Bool.not_eq_true',Bool.not_eq_false']at s
  refine aL (bE (aj (aH (st _ (rA (a:=i) (b:=1) q q Xx) (mv q (nt ?_))))));refine mU (x0:=(i+1)) Xx ⟨(d9 q Xx),q,q,q,q,tV⟩ ⟨f,V,J,j,e,h1,d,(by have T:=B;simp(disch:=first|omega|assumption|simp) only [CW,uE H,uE u,SS,reduceIte,m,C,H,u,A,D,s]at T;exact T)⟩
 have C:=dF P;refine bW (aY (aY (cO (aj (ns (ar q ?_))))));exact bR (v:=(.bool true)) trivial q ⟨q,tV⟩ ⟨true,q,e,(by(try (simp(disch:=first|omega|assumption|simp) only [CW,SS,reduceIte,m,C]at B));rw[yt]<;>simp(disch:=first|omega|assumption|simp) only [SS,reduceIte,m,G,C,<- B])⟩
theorem V2 (d:Up w Q) {h:Value} (a:eL) (f:Ls (qR jM) w Q h a.rows) {i:Value} (b:eL) (g:Ls (qR jM) w Q i b.rows) :
  Calls Zp 32 #[.agg (eL.cells a h).toArray,.agg (eL.cells b i).toArray] w fun m t=>∃o:Bool,m = .returned (.bool o)/\Md [] w t/\Zo a b=o:=by
 have c:=Md.refl [] w;have R:=d;refine enter (n:=10) Tryz.func32 q q q fun x=>ns (dS (cs:=(eL.cells a h)) q q ?_);intro H B j A e C;have y:=d _ j;have j:=lv c.size j;obtain⟨f,g,d,c⟩:=k4 e f g d c;refine dS (cs:=(eL.cells b i)) q q ?_;intro p T l P e s;have G:H≠p:=(by have:=C.lt;omega);have z:=d _ l;have l:=lv c.size l;obtain⟨f,g,C,d,c⟩:=k5 e f g C d c;refine an q (ns (sf q oZ (sl (u:=h) q xD C q (sf q oZ (sl (u:=i) q xD s q (ax amM q (adA d f g) ?_))))));rintro m E ⟨D,rfl,e,r⟩;refine rv ?_;have c:=c.k e;refine ar q ?_;exact bR (v:=(.bool D)) trivial q ⟨q,tV⟩ ⟨D,q,c,r⟩
end Go.Proofs.YtlleafgaeeneoaaGreat
namespace Go.Wk
open Go Go.RowKit
section
variable {b:Ly} {a c:Nat} {o k:List Nat} {f:iV}
end
def ixG (x:Nat):List Nat->Nat->Int
  | [],_=>-1
  | y :: r,i=>if x=y then((i:Nat):Int)else ixG x r (i+1)
def ixU (l:List Nat) (x:Nat):Int:=ixG x l 0
section
variable {l:List Nat} {x y i:Nat} {z:Int}
theorem Y5 (h:¬i<l.length):ixG x (l.drop i) i = -1:=by rw[er Xx];rfl
theorem Y7 (h:l[i]? = some y) (e:x=y):ixG x (l.drop i) i=((i:Nat):Int):=by rw[cH h,ixG,if_pos e]
theorem ad4 (h:l[i]? = some y) (e:¬x=y):ixG x (l.drop i) i=ixG x (l.drop (i+1)) (i+1):=by rw[cH h,ixG,if_neg e]
theorem Yn:∀(l:List Nat) (i:Nat),(0<=ixG x l i↔x∈l)
  | [],_=>by simp[ixG]
  | y :: r,i=>by
    rw[ixG];split
    · rename_i h;subst h;simp
    · rename_i h
      rw[Yn r (i+1)];simp[h]
theorem Y6 (h:ixU l x=z):decide (0<=z)=decide (x∈l):=by subst h;exact decide_eq_decide.2 (Yn l 0)
end
section
variable {l:List Nat} {x k i:Nat}
end
section
variable {n:List Nat} {b:Ly} {k:Int} {l:List o9} {c m i:Nat} {o:List (List Nat)} {x:List Nat}
end
section
variable {s:Nat} {b:Ly} {p c i:Nat} {l:List lJ} {x:lJ} {y:List Nat}
end
section
variable {v:dx} {ds fs:List (List Nat)} {a k:List Nat} {p q c i:Nat} {d:fV} {f:jh} {r:Bool}
end
section
variable {v:dx} {a:List Nat} {p c i f l d:Nat} {r:Rec}
end
section
variable {b c:Ly} {v:dx} {a k:List Nat} {p q i d:Nat}
end
end Go.Wk
namespace Go.Proofs.YtlleafgaeeneoaaGreat
open Go Go.Wk Go.RowKit
set_option linter.unusedVariables false
set_option linter.unusedSimpArgs false
attribute [local irreducible] wpList wpQuiet wpStill fD Code.wp Calls bodyPost
variable {w:World} {Q:Nat->Prop}
theorem akv:cu Zp 101=true:=Xw
theorem ak3:cu Zp 113=true:=Xw
theorem anc:cu Zp 98=true:=Xw
theorem WQ (f:Up w Q) {v0:Value} {l:List Nat} (c:Ls cZ w Q v0 l) (x:Nat) (J:x<18446744073709551616) :
  Calls Zp 101 #[v0,(.int .u64 x)] w fun B g=>∃e:Int,B = .returned (.int .i64 (e:Int))/\Md [] w g/\(-9223372036854775808<=e/\e<9223372036854775808)/\ixU l x=e:=by
 have V:=c.dB;have d:=Md.refl [] w;have F:=f;have k:∀b,Q b->Q b:=fun _ h=>h;have D:∀b,Q b->b<w.heap.size->Q b:=fun _ h _=>h;refine enter (n:=19) Tryz.func101 q q q fun u=>ns (an q (aD (nm q (sL q jY c.di (mv q (nt (aS ?_)))))));obtain⟨e,o⟩:∃r,ixU l x=r:=⟨_,q⟩;have t:=o
 try simp only[List.nil_append]at o
 refine nE (fun(i:Nat)=>[(8,(.int .i64 i)),(0,v0),(1,(.int .u64 x)),(7,(.int .i64 l.length))]) (fun(i:Nat) g=>∃m:Nat->Prop,(∀b,m b->Q b)/\(∀b,Q b->b<w.heap.size->m b)/\Up g m/\Md [] w g/\Ls cZ g m v0 l/\i<=l.length/\ixG x (l.drop i) i=e) (fun(i:Nat)=>l.length-i) (x0:=0) ?_ ?_ ?_
 ·exact⟨q,q,q,q,tV⟩
 ·exact⟨Q,k,D,f,d,c,Xx,(by have j:=o;exact j)⟩
 clear d f k D c;rintro i u I ⟨T,k,D,f,d,c,E,G⟩;refine ns (st _ (dN (a:=i) (b:=l.length) q q) (nt (aD ?_)));refine bJ q (fun s=>?_) (fun s=>?_)
 ·have z:=dT s;refine aL (aj (aD (aS (nm q (an q (ns (m2 q q (mv q (st _ (bf (i:=i) 1 q q jY eV c.di Xx) ?_)))))))));obtain⟨P,H⟩:=dY (l:=l) (i:=i) Xx;obtain⟨W,A,C⟩:=c.get H;obtain⟨rfl,R⟩:=A;have C:At _ v0 (i*1) [(.int .u64 P)]:=C;refine st _ ((bP (kk:=i*1) 0 q q bh C q).to (b:=(.int .u64 P)) q) (st _ (iQ (a:=x) (b:=P) q q) (aA ?_));refine aj ?_;refine bJ q (fun p=>?_) (fun p=>?_)
  ·have y:=dT p;refine nm q (ar q (aU (aI (aI (aU (aI ?_))))));exact bR (v:=(.int .i64 (((i:Nat):Int):Int))) trivial q ⟨q,tV⟩ ⟨((i:Nat):Int),q,d,Xx,(t.trans (G.symm.trans (Y7 H Xx)))⟩
  have y:=dF p;refine aL (bE (aj (aH (st _ (rA (a:=i) (b:=1) q q Xx) (mv q (nt ?_))))));refine mU (x0:=(i+1)) Xx ⟨(d9 q Xx),q,q,q,tV⟩ ⟨T,k,D,f,d,c,Xx,(by have j:=G;rw[ad4 H Xx]at j;exact j)⟩
 have z:=dF s;refine bW (aY (aY (cO (aj (ns (ar q ?_))))));exact bR (v:=(.int .i64 ((-1):Int))) trivial q ⟨q,tV⟩ ⟨(-1),q,d,Xx,(t.trans (G.symm.trans (Y5 Xx)))⟩
theorem abC (h:Up w Q) {v0:Value} {l:List Nat} (f:Ls cZ w Q v0 l) (x:Nat) (p:x<18446744073709551616) :
  Calls Zp 58 #[v0,(.int .u64 x)] w fun e j=>∃g:Bool,e = .returned (.bool g)/\Md [] w j/\decide (x∈l)=g:=by
 have G:=f.dB;have d:=Md.refl [] w;have o:=h;refine enter (n:=9) Tryz.func58 q q q fun m=>ns (an q (ns (m2 q q (ax akv q (WQ h f x Xx) ?_))));rintro e H ⟨c,rfl,i,D,C⟩;refine rv ?_;have d:=d.k i;refine st _ (qc (a:=c) (b:=0) q q) (ar q ?_);exact bR (v:=(.bool ((decide (0<=c))))) trivial q ⟨q,tV⟩ ⟨(decide (0<=c)),q,d,(Y6 C).symm⟩
theorem VE (f:Up w Q) {v0:Value} {l:List Nat} (c:Ls eI w Q v0 l) (x:Nat) (J:x<9223372036854775808) :
  Calls Zp 113 #[v0,(.int .i64 x)] w fun B g=>∃e:Int,B = .returned (.int .i64 (e:Int))/\Md [] w g/\(-9223372036854775808<=e/\e<9223372036854775808)/\ixU l x=e:=by
 have V:=c.dB;have d:=Md.refl [] w;have F:=f;have k:∀b,Q b->Q b:=fun _ h=>h;have D:∀b,Q b->b<w.heap.size->Q b:=fun _ h _=>h;refine enter (n:=19) Tryz.func113 q q q fun u=>ns (an q (aD (nm q (sL q kM c.di (mv q (nt (aS ?_)))))));obtain⟨e,o⟩:∃r,ixU l x=r:=⟨_,q⟩;have t:=o
 try simp only[List.nil_append]at o
 refine nE (fun(i:Nat)=>[(8,(.int .i64 i)),(0,v0),(1,(.int .i64 x)),(7,(.int .i64 l.length))]) (fun(i:Nat) g=>∃m:Nat->Prop,(∀b,m b->Q b)/\(∀b,Q b->b<w.heap.size->m b)/\Up g m/\Md [] w g/\Ls eI g m v0 l/\i<=l.length/\ixG x (l.drop i) i=e) (fun(i:Nat)=>l.length-i) (x0:=0) ?_ ?_ ?_
 ·exact⟨q,q,q,q,tV⟩
 ·exact⟨Q,k,D,f,d,c,Xx,(by have j:=o;exact j)⟩
 clear d f k D c;rintro i u I ⟨T,k,D,f,d,c,E,G⟩;refine ns (st _ (dN (a:=i) (b:=l.length) q q) (nt (aD ?_)));refine bJ q (fun s=>?_) (fun s=>?_)
 ·have z:=dT s;refine aL (aj (aD (aS (nm q (an q (ns (m2 q q (mv q (st _ (bf (i:=i) 1 q q kM el3 c.di Xx) ?_)))))))));obtain⟨P,H⟩:=dY (l:=l) (i:=i) Xx;obtain⟨W,A,C⟩:=c.get H;obtain⟨rfl,R⟩:=A;have C:At _ v0 (i*1) [(.int .i64 P)]:=C;refine st _ ((bP (kk:=i*1) 0 q q iD C q).to (b:=(.int .i64 P)) q) (st _ (iQ (a:=x) (b:=P) q q) (aA ?_));refine aj ?_;refine bJ q (fun p=>?_) (fun p=>?_)
  ·have y:=dT p;refine nm q (ar q (aU (aI (aI (aU (aI ?_))))));exact bR (v:=(.int .i64 (((i:Nat):Int):Int))) trivial q ⟨q,tV⟩ ⟨((i:Nat):Int),q,d,Xx,(t.trans (G.symm.trans (Y7 H Xx)))⟩
  have y:=dF p;refine aL (bE (aj (aH (st _ (rA (a:=i) (b:=1) q q Xx) (mv q (nt ?_))))));refine mU (x0:=(i+1)) Xx ⟨(d9 q Xx),q,q,q,tV⟩ ⟨T,k,D,f,d,c,Xx,(by have j:=G;rw[ad4 H Xx]at j;exact j)⟩
 have z:=dF s;refine bW (aY (aY (cO (aj (ns (ar q ?_))))));exact bR (v:=(.int .i64 ((-1):Int))) trivial q ⟨q,tV⟩ ⟨(-1),q,d,Xx,(t.trans (G.symm.trans (Y5 Xx)))⟩
theorem aa1 (h:Up w Q) {v0:Value} {l:List Nat} (f:Ls eI w Q v0 l) (x:Nat) (p:x<9223372036854775808) :
  Calls Zp 79 #[v0,(.int .i64 x)] w fun e j=>∃g:Bool,e = .returned (.bool g)/\Md [] w j/\decide (x∈l)=g:=by
 have G:=f.dB;have d:=Md.refl [] w;have o:=h;refine enter (n:=9) Tryz.func79 q q q fun m=>ns (an q (ns (m2 q q (ax ak3 q (VE h f x Xx) ?_))));rintro e H ⟨c,rfl,i,D,C⟩;refine rv ?_;have d:=d.k i;refine st _ (qc (a:=c) (b:=0) q q) (ar q ?_);exact bR (v:=(.bool ((decide (0<=c))))) trivial q ⟨q,tV⟩ ⟨(decide (0<=c)),q,d,(Y6 C).symm⟩
theorem aaq (d:Up w Q) (s:Ly) :
  Calls Zp 97 #[str s] w fun a c=>∃b:Bool,a = .returned (.bool b)/\Md [] w c/\ew s=b:=by
 refine(RD s w).mono fun a c ⟨he,hm⟩=>⟨ew s,by rw[he],hm ▸ Md.refl [] w,q⟩
theorem V4 (f:Up w Q) (p:Pr) (o:p.name.length+p.value.length<=4611686018427387904) :
  Calls Zp 98 #[.agg (Pr.cells p).toArray] w fun h i=>∃e:List UInt8,h = .returned (str e)/\Md [] w i/\au p=e:=by
 have c:=Md.refl [] w;have H:=f;refine enter (n:=9) Tryz.func98 q q q fun j=>ns (dS (cs:=(Pr.cells p)) q q ?_);intro l m d G g C;have D:=f _ d;have d:=lv c.size d;have c:=c.k g;refine an q (ns (sf q mV (sl (u:=(str p.name)) q jG C q (st _ (NR (a:=p.name) (b:=(([61]:Ly))) q q Zq) (sf q qq (sl (u:=(str p.value)) q jG C q (st _ (NR (a:=(p.name ++ (([61]:Ly)))) (b:=p.value) q q Zq) (ar q ?_))))))));exact bR (v:=(str ((p.name ++ (([61]:Ly))) ++ p.value))) trivial q ⟨q,tV⟩ ⟨(p.name ++ (([61]:Ly))) ++ p.value,q,c,(by rw[au]<;>simp(disch:=first|omega|assumption|simp) only [SS,reduceIte])⟩
theorem aap (e:Up w Q) (p:Pr) :
  Calls Zp 53 #[.agg (Pr.cells p).toArray] w fun r A=>∃z:Value,∃y:List UInt8,∃t:Nat,r = .returned (.tuple #[z,(.int .i64 t)])/\Md [] w A/\Ls eC A Q z y/\t<9223372036854775808/\mI p=(y,t):=by
 have d:=Md.refl [] w;have I:=e;have W:∀b,Q b->Q b:=fun _ h=>h;refine enter (n:=17) Tryz.func53 q q q fun B=>ns (dS (cs:=(Pr.cells p)) q q ?_);intro F K l V f C;have E:=e _ l;have l:=lv d.size l;obtain⟨e,d⟩:=k2 f e d;refine ck q (an q (aD (aS (ns (sf q mV (sl (u:=(str p.name)) q jG C q (ax aly q (aaq e p.name) ?_)))))));rintro r c ⟨T,rfl,f,o⟩;refine rv ?_;obtain⟨C,e,d⟩:=k3 f C e d;refine st _ (gR q) (an q ?_);refine bJ q (fun P=>?_) (fun P=>?_)
 ·have i:=wo P;refine ns (ck q (ar q (aU (aI ?_))));exact d8 (vs:=[SN,(.int .i64 ((1:Nat):Int))]) trivial q ⟨q,q,tV⟩ q ⟨_,[],1,q,d,(Ls.nil _ _ _),Xx,(by rw[mI]<;>simp(disch:=first|omega|assumption|simp) only [SS,reduceIte,o,i])⟩
 have i:=wm P;refine ns (sf q qq (sl (u:=(str p.value)) q jG C q (st _ (sj (s:=p.value) q u9) (st _ (kL (a:=p.value.length) (b:=256) q q) (an q ?_)))));refine bJ q (fun R=>?_) (fun R=>?_)
 ·have m:=dT R;refine ns (ck q (ar q (aU (aI ?_))));exact d8 (vs:=[SN,(.int .i64 ((21:Nat):Int))]) trivial q ⟨q,q,tV⟩ q ⟨_,[],21,q,d,(Ls.nil _ _ _),Xx,(by rw[mI]<;>simp(disch:=first|omega|assumption|simp) only [SS,reduceIte,o,i,m])⟩
 have m:=dF R;refine aL (bE (aj (ns ?_)));have J:=(fO (s:=p.name) (by simp_all)).2;refine st _ (bL (Pr.cells p) q (by exact gY) C q) (ax anc q (V4 e p Xx) ?_);rintro r L ⟨v,rfl,f,x⟩;refine rv ?_;obtain⟨e,d⟩:=k2 f e d;have G:=ic p;rw[x]at G;try simp only[LL,Nat.reduceAdd,Nat.reduceMul]at G
 refine lg (s:=v) u9 fW u5 q (by simp[maxLen];omega) ?_;intro H M f D j;have D:=Ls.of_by (Q:=Q) D (fun b g _=>e b (j b g).1);have j:∀b,ah H=some b->w.heap.size<=b:=fun b g=>lv d.size (j b g).1;have d:=d.k f;refine ck q (ar q ?_);exact d8 (vs:=[H,(.int .i64 ((0:Nat):Int))]) trivial q ⟨q,q,tV⟩ q ⟨_,v,0,q,d,(D.sub (fun b g _=>W b g)),Xx,(by rw[mI]<;>simp(disch:=first|omega|assumption|simp) only [SS,reduceIte,o,i,m,x])⟩
theorem alr:cu Zp 78=true:=Xw
theorem amT:cu Zp 79=true:=Xw
structure UI where
  l:List Nat
def UI.cells (x:UI) (v0:Value):List Value :=
  [v0]
theorem KB (g:Up w Q) (i:Nat) (t:i<9223372036854775808) {b:Nat} {c:Value} (h:UI) (h1:bC w b (UI.cells h c) 22) (o:¬Q b) (m:Ls eI w Q c h.l) :
  Calls Zp 78 #[(.int .i64 i),.pointer (some ⟨b,0,none⟩)] w fun e p=>∃f:Bool,e = .returned (.bool f)/\Md [] w p/\(!decide (i∈h.l))=f:=by
 have D:=o;have a:=Md.refl [] w;have s:=g;refine enter (n:=8) Tryz.func78 q q q fun r=>ns (an q (ns (sl (u:=c) q tK h1 q (mv q (ax amT q (aa1 g m i Xx) ?_)))));rintro e G ⟨d,rfl,j,C⟩;refine rv ?_;have a:=a.k j;refine st _ (gR q) (ar q ?_);exact bR (v:=(.bool (!d))) trivial q ⟨q,tV⟩ ⟨!d,q,a,(by rw[C])⟩
theorem aaW (f:Up w Q) {v0:Value} {s:List Nat} (d:Ls eI w Q v0 s) {j:Nat} {z:Value} (h:UI) (h1:bC w j (UI.cells h z) 22) (M:¬Q j) (g:Ls eI w Q z h.l) :
  Calls Zp 112 #[v0,.func (.func 78) #[] #[(.pointer (some ⟨j,0,none⟩))]] w fun E k=>∃o:Int,E = .returned (.int .i64 (o:Int))/\Md [] w k/\(-9223372036854775808<=o/\o<9223372036854775808)/\zY (fun i=>!decide (i∈h.l)) s 0=o:=by
 have S:=d.dB;have p:=M;have e:=Md.refl [] w;have O:=f;have y:∀b,Q b->Q b:=fun _ h=>h;have u:∀b,Q b->b<w.heap.size->Q b:=fun _ h _=>h;refine enter (n:=19) Tryz.func112 rfl rfl rfl fun F=>ns (an rfl (aD (nm rfl (sL rfl kM d.di (mv rfl (nt (aS ?_)))))));obtain⟨o,D⟩:∃r,zY (fun i=>!decide (i∈h.l)) s 0=r:=⟨_,rfl⟩;have G:=D
 try simp only[List.nil_append]at D
 refine nE (fun(i:Nat)=>[(8,(.int .i64 i)),(0,v0),(1,(.func (.func 78) #[] #[(.pointer (some ⟨j,0,none⟩))])),(7,(.int .i64 s.length))]) (fun(i:Nat) k=>∃m:Nat->Prop,(∀b,m b->Q b)/\(∀b,Q b->b<w.heap.size->m b)/\Up k m/\Md [] w k/\Ls eI k m v0 s/\bC k j (UI.cells h z) 22/\Ls eI k m z h.l/\¬m j/\i<=s.length/\zY (fun i=>!decide (i∈h.l)) (s.drop i) i=o) (fun(i:Nat)=>s.length-i) (x0:=0) ?_ ?_ ?_
 ·exact⟨rfl,rfl,rfl,rfl,tV⟩
 ·exact⟨Q,y,u,f,e,d,h1,g,p,Xx,(by have x:=D;exact x)⟩
 clear e f y u p d g h1;rintro i F U ⟨L,y,u,f,e,d,h1,g,p,V,H⟩;refine ns (st _ (dN (a:=i) (b:=s.length) rfl rfl) (nt (aD ?_)));refine bJ rfl (fun P=>?_) (fun P=>?_)
 ·have R:=dT P;refine aL (aj (aD (aS (nm rfl (an rfl (ns (m2 rfl rfl (mv rfl (st _ (bf (i:=i) 1 rfl rfl kM el3 d.di Xx) ?_)))))))));obtain⟨T,A⟩:=dY (l:=s) (i:=i) Xx;obtain⟨c,K,t⟩:=d.get A;obtain⟨rfl,N⟩:=K;have t:At _ v0 (i*1) [(.int .i64 T)]:=t;refine st _ ((bP (kk:=i*1) 0 rfl rfl iD t rfl).to (b:=(.int .i64 T)) rfl) (lX (cs:=[(.pointer (some ⟨j,0,none⟩))]) rfl alr rfl (KB f T Xx h h1 p g) ?_);rintro E X ⟨W,rfl,J,B⟩;refine rv ?_;obtain⟨d,h1,g,f,e⟩:=k5 J d h1 g f e;refine aA ?_;refine aj ?_;refine bJ rfl (fun C=>?_) (fun C=>?_)
  ·have I:=C;refine nm rfl (ar rfl (aU (aI (aI (aU (aI ?_))))));exact bR (v:=(.int .i64 (((i:Nat):Int):Int))) trivial rfl ⟨rfl,tV⟩ ⟨((i:Nat):Int),rfl,e,Xx,(G.trans (H.symm.trans (ady (q:=(fun i=>!decide (i∈h.l))) A (by rw[<- C];exact B))))⟩
  have I:=C;refine aL (bE (aj (aH (st _ (rA (a:=i) (b:=1) rfl rfl Xx) (mv rfl (nt ?_))))));refine mU (x0:=(i+1)) Xx ⟨(d9 rfl Xx),rfl,rfl,rfl,tV⟩ ⟨L,y,u,f,e,d,h1,g,p,Xx,(by have x:=H;rw[ag5 (q:=(fun i=>!decide (i∈h.l))) A (by rw[<- C];exact B)]at x;exact x)⟩
 have R:=dF P;refine bW (aY (aY (cO (aj (ns (ar rfl ?_))))));exact bR (v:=(.int .i64 ((-1):Int))) trivial rfl ⟨rfl,tV⟩ ⟨(-1),rfl,e,Xx,(G.trans (H.symm.trans (adx Xx)))⟩
theorem ak2:cu Zp 112=true:=Xw
theorem aeU {w:World} {Q lo:Nat->Prop} {v:Value} {l:List Nat} (E:Ow eI 3 lo w Q v l) (A:Up w Q) {bx:Nat} {U:Value} (h:UI) (s:bC w bx (UI.cells h U) 22) (al:¬Q bx) (u:Ls eI w Q U h.l) :
  Calls Zp 77 #[v,.func (.func 78) #[] #[.pointer (some ⟨bx,0,none⟩)]] w fun Z I=>∃ab,Z = .returned ab/\Md (ah v).toList w I/\(∀b,ah ab=some b->ah v=some b)/\Ow eI 3 lo I Q ab (l.filter fun i=>decide (i∈h.l)):=by
 have aE:=E.read.dB;have ae:∀x∈l,x<9223372036854775808:=fun x V=>by obtain⟨i,hi⟩:=List.mem_iff_getElem?.1 V;obtain⟨c,k,_⟩:=E.read.get hi;exact k.2
 have O:∀b,ah v=some b->b≠bx:=fun b B J=>by have:=wA E s Xy;exact this (by rw[B];simp[J])
 have hk:(fun x:Nat=>!(fun i=>!decide (i∈h.l)) x)=fun i=>decide (i∈h.l):=(by funext x;simp);refine enter (n:=42) Tryz.func77 rfl rfl rfl fun av=>ns (an rfl (ns (m2 rfl rfl (ax ak2 rfl (aaW (Q:=fun b=>Q b\/ah v=some b) (fun b B=>.inl (A b B)) (E.own (Q':=fun b=>Q b\/ah v=some b) (fun b B=>.inl B) (fun b B=>.inr B)) h s (fun L=>L.elim al (fun J=>O _ J rfl)) (u.sub fun b B _=>.inl B)) ?_))));rintro Z am ⟨z,rfl,e,az,af⟩;refine rv ?_;obtain⟨E,s,u,A⟩:=k4 e E s u A;have d:Md (ah v).toList w am:=e.mono Oy;refine an rfl (aD (nm rfl (st _ (lT (a:=z) (b:=(-1)) rfl rfl) (nt ?_))));have aa:=JA (q:=fun i=>!decide (i∈h.l)) l 0 z af;rw[hk]at aa;refine bJ rfl (fun M=>?_) (fun M=>?_)
 ·have X:=dT M;refine nm rfl (ar rfl (aI ?_));rcases aa with⟨_,J⟩|⟨i,h,_⟩
  ·exact gX trivial rfl rfl ⟨_,rfl,d,fun b h=>h,by rw[J];exact E⟩
  ·exfalso;omega
 ·have X:=dF M
  rcases aa with⟨h,_⟩|⟨i0,hz0,Am,W⟩
  ·exact absurd h X
  rw[Nat.zero_add]at hz0;subst hz0;obtain⟨b,K,rfl,k,D,ao,ag⟩:=Ow.rwn E Xx;clear E af M X az;have O:=O b rfl;have aw:l.length<=K:=(by obtain⟨_,_,_,h,_⟩:=D;exact h);have F:OE (.slice (some ⟨b,0,none⟩) l.length K) l.length:=⟨_,_,rfl,aw,k,by simp⟩;have d:Md [b] w am:=d;refine aL (aj (aD (nm rfl (st _ (rA (a:=i0) (b:=1) rfl rfl Xx) (an rfl (aS ?_))))));refine l9 (fun(H:List Nat) (i:Nat) (j:Nat)=>[(5,(.int .i64 i)),(6,(.int .i64 j)),(0,.slice (some ⟨b,0,none⟩) l.length K),(1,.func (.func 78) #[] #[.pointer (some ⟨bx,0,none⟩)])])
   (fun(H:List Nat) (i:Nat) (j:Nat) I=>Md [b] w I/\Up I Q/\bC I bx (UI.cells h U) 22/\Ls eI I Q U h.l/\AH 3 I b K H/\H.length=l.length/\i<j/\j<=l.length/\(∀q,j<=q->H[q]? = l[q]?)/\H.take i ++ (l.drop j).filter (fun i=>decide (i∈h.l))=l.filter (fun i=>decide (i∈h.l)))
   (fun(H:List Nat) (i:Nat) (j:Nat)=>l.length-j) (x0:=l) (x1:=i0) (x2:=i0+1) ?_ ?_ ?_
  ·exact⟨rfl,rfl,rfl,rfl,tV⟩
  ·exact⟨d,A,s,u,D,rfl,by omega,by omega,fun _ _=>rfl,W⟩
  ·clear d A s u D W;rintro H i j av aJ ⟨d,A,s,u,D,y,aC,aF,L,R⟩;refine aD (ns (m2 rfl rfl (sL rfl kM F (st _ (dN (a:=j) (b:=l.length) rfl rfl) (nt ?_)))));refine bJ rfl (fun T=>?_) (fun T=>?_)
   ·have P:=dT T;obtain⟨x,V⟩:=dY (l:=l) (i:=j) P;have ay:H[j]? = some x:=(L j (Nat.le_refl _)).trans V;have au:=List.mem_of_getElem? V;rw[cH V,List.filter_cons]at R;refine aL (aj (aD (aS (ns (m2 rfl rfl (st _ (bf (i:=j) 1 rfl rfl kM el3 F Xx) (st _ ((bP (kk:=j*1) 0 rfl rfl iD (D.at_ ay (Nat.zero_add _ |>.trans (Nat.mul_one _))) rfl).to (b:=vN x) rfl) (an rfl (nm rfl (mv rfl ?_))))))))));refine lX (cs:=[.pointer (some ⟨bx,0,none⟩)]) rfl alr rfl (KB A x (ae x au) h s al u) ?_;rintro Z aK ⟨g,rfl,e,ai⟩;refine rv ?_;obtain⟨d,s,u,A,D⟩:=k5 e d s u A D;refine st _ (gR rfl) (nt ?_);refine bJ rfl (fun G=>?_) (fun G=>?_)
    ·have Y:decide (x∈h.l)=true:=(by rw[<- ai]at G;simpa using G);rw[if_pos Y]at R;refine ns (m2 rfl rfl (mv rfl (st _ ((bf (i:=i) 1 rfl rfl kM el3 F Xx).to (b:=.pointer (some ⟨b,i,none⟩)) (by simp[mO,Addr.kH])) ?_)));obtain⟨r,f,S,C⟩:=D.into (i:=i) (z:=x) Xx;refine bn (b:=b) (j:=i) rfl rfl iD rfl f S ?_;intro aM e N;have D:=C _ N;have F:∀p∈[b],¬Q p:=(by intro p ad;rw[List.mem_singleton]at ad;subst ad;exact ag);have s:=s.md e (by rw[List.mem_singleton];exact fun J=>O J.symm);have u:=u.md e F;have A:=A.md e;have d:=d.gT e Oy;refine nt (aH (mv rfl (st _ (rA (a:=i) (b:=1) rfl rfl Xx) (ck rfl (aA (bE (aj (aH (mv rfl (st _ (rA (a:=j) (b:=1) rfl rfl Xx) (an rfl ?_)))))))))));refine j8 (x0:=H.set i x) (x1:=i+1) (x2:=j+1) Xx ⟨(d9 rfl Xx),(d9 rfl Xx),rfl,rfl,tV⟩ ⟨d,A,s,u,D,by simpa using y,by omega,by omega,fun q ap=>by rw[List.getElem?_set_ne Xx];exact L q Xx,?_⟩;rw[uj Xx,List.append_assoc];exact R
    ·have Y:¬decide (x∈h.l)=true:=(by rw[<- ai]at G;simpa using G);rw[if_neg Y]at R;refine aL (bE (aj (aH (mv rfl (st _ (rA (a:=j) (b:=1) rfl rfl Xx) (an rfl ?_))))));exact j8 (x0:=H) (x1:=i) (x2:=j+1) Xx ⟨rfl,(d9 rfl Xx),rfl,rfl,tV⟩ ⟨d,A,s,u,D,y,by omega,by omega,fun q ap=>L q Xx,R⟩
   ·have P:=dF T;rw[List.drop_of_length_le Xx,List.filter_nil,List.append_nil]at R;refine bW (aY (aY (cO (aj (ns (m2 rfl rfl (st _ (bZ.to (b:=.slice (some ⟨b,i,none⟩) (l.length-i) (K-i)) (by exact fP 1 i l.length kM el3 rfl F Xx Xx ⟨_,rfl⟩ rfl) (GI Xx)) ?_)))))));obtain⟨r,f,S,C⟩:=D.clear (i:=i) Xx;rw[y]at S C;refine TB (o:=i) (m:=l.length-i) kM z3 (by intro aG ak;simp at ak;subst ak;rfl) rfl Xx f S ?_;intro aN aB e aq N;have D:=C _ aB aq N;rw[R]at D;have d:=d.gT e Oy;refine nt (ns (m2 rfl rfl (st _ (bZ.to (b:=.slice (some ⟨b,0,none⟩) i K) (by exact fP 1 0 i kM el3 rfl F Xx Xx rfl ⟨_,rfl⟩) (TD Xx)) (ar rfl ?_))))
    repeat (first|refine aI ?_|refine aU ?_)
    have t:i=(l.filter (fun i=>decide (i∈h.l))).length:=(by rw[<- R,List.length_take];omega);refine gX trivial rfl rfl ⟨_,rfl,d,fun p h=>by simpa [ah]using h,?_⟩;rw[t];exact D.ow k ao ag fun x V=>ae x (List.mem_filter.1 V).1
theorem MS {w:World} {Q lo:Nat->Prop} {v:Value} {xs:List Nat} (K:Ow eI 3 lo w Q v xs) :
  Calls Zp 35 #[v] w fun aw d=>∃ab,aw = .returned ab/\Md (ah v).toList w d/\(∀b,ah ab=some b->ah v=some b)/\Ow eI 3 lo d Q ab (ki xs):=by
 have aM:=K.read.dB;have af:∀x∈xs,x<9223372036854775808:=fun x B=>by obtain⟨i,hi⟩:=List.mem_iff_getElem?.1 B;obtain⟨c,e,_⟩:=K.read.get hi;exact e.2
 refine enter (n:=61) Tryz.func35 q q q fun ad=>ns (an q (aD (nm q (sL q kM K.di (st _ (dN (a:=xs.length) (b:=2) q q) (nt ?_))))));refine bJ q (fun X=>?_) (fun X=>?_)
 ·have ae:=dT X;refine nm q (ar q (aI ?_));exact gX trivial q q ⟨_,q,Md.refl _ w,(fun b h=>h),(CG ae).symm ▸ K⟩
 have ae:=dF X;obtain⟨b,A,rfl,e,C,g,ag⟩:=K.rwn Xx;have f:xs.length<=A:=(by obtain⟨_,_,_,h,_⟩:=C;exact h);have F:OE (.slice (some ⟨b,0,none⟩) xs.length A) xs.length:=⟨_,_,q,f,e,by simp⟩;refine aL (aj (aD (ns (an q (aS ?_)))));have u:=Md.refl [b] w;refine nE (fun(i:Nat)=>[(3,(.int .i64 i)),(0,.slice (some ⟨b,0,none⟩) xs.length A)]) (fun(i:Nat) d=>Md [b] w d/\AH 3 d b A xs/\1<=i/\i<=xs.length/\xs.take i ++ MA (xs.getD (i-1) 0) (xs.drop i)=ki xs) (fun(i:Nat)=>xs.length-i) (x0:=1) ?_ ?_ ?_
 ·exact⟨q,q,tV⟩
 ·exact⟨u,C,Nat.le_refl _,by omega,CI Xx⟩
 clear u C;rintro i ad az ⟨u,C,aF,aG,J⟩;refine aD (ns (m2 q q (sL q kM F (st _ (dN (a:=i) (b:=xs.length) q q) (nt ?_)))));refine bJ q (fun T=>?_) (fun T=>?_)
 ·have P:=dT T;refine aL (aj (aD (aS (aD ?_))));obtain⟨x,B⟩:=dY (l:=xs) (i:=i) P;obtain⟨y,am⟩:=dY (l:=xs) (i:=i-1) Xx;have D:=C;refine cT (ml 9) [9] (fun d=>Md [] az d) mixed Xw ?_;intro aO L;refine⟨L.mono Oy,?_⟩;refine mo q (mo q (mz (fun d e=>bf (i:=i) 1 q q kM el3 F Xx) (mz (fun d e=>(bP (kk:=i*1) 0 q q iD ((D.at_ B Xx).o e) q).to (b:=vN x) q) (mo q (mo q (mz (fun d e=>rS (a:=i) (b:=1) q q Xx) (mz (fun d e=>bf (i:=i-1) 1 q q kM el3 F Xx) (mz (fun d e=>(bP (kk:=(i-1)*1) 0 q q iD ((D.at_ am Xx).o e) q).to (b:=vN y) q) (dD ?_)))))))));obtain⟨C,u⟩:=k2 L C u;refine st _ (iQ (a:=x) (b:=y) q q) (nt ?_);rw[PC B,yQ am]at J;refine bJ q (fun S=>?_) (fun S=>?_)
  ·have H:=dT S;rw[if_pos H]at J;have M:OE (.slice (some ⟨b,i,none⟩) (xs.length-i) (A-i)) (xs.length-i):=⟨_,_,q,by omega,by omega,by simp⟩;refine ns (m2 q q (st _ (bZ.to (b:=.slice (some ⟨b,i,none⟩) (xs.length-i) (A-i)) (by exact fP 1 i xs.length kM el3 q F Xx Xx ⟨_,q⟩ q) (GI Xx)) (an q (aD (ns (ck q (nt (aS ?_))))))));refine l9 (fun(E:List Nat) (j:Nat) (k:Nat)=>[(3,(.int .i64 j)),(5,(.int .i64 k)),(0,.slice (some ⟨b,0,none⟩) xs.length A),(4,.slice (some ⟨b,i,none⟩) (xs.length-i) (A-i))])
    (fun(E:List Nat) (j:Nat) (k:Nat) d=>Md [b] w d/\AH 3 d b A E/\E.length=xs.length/\i<=j/\j+1<=i+k/\i+k<=xs.length/\(∀I,i+k-1<=I->E[I]? = xs[I]?)/\E.take j ++ MA (xs.getD (i+k-1) 0) (xs.drop (i+k))=ki xs)
    (fun(E:List Nat) (j:Nat) (k:Nat)=>xs.length-k) (x0:=xs) (x1:=i) (x2:=1) ?_ ?_ ?_
   ·exact⟨q,q,q,q,tV⟩
   ·exact⟨u,C,q,Nat.le_refl _,Nat.le_refl _,by omega,fun I _=>rfl,by rw[Nat.add_sub_cancel,yQ B];exact J⟩
   clear u C;rintro E j k ad aB ⟨u,C,Z,aJ,aK,hk,p,R⟩;have aE:OE (.slice (some ⟨b,0,none⟩) xs.length A) xs.length:=F;refine aD (ns (m2 q q (sL q kM M (st _ (dN (a:=k) (b:=xs.length-i) q q) (nt ?_)))));refine bJ q (fun V=>?_) (fun V=>?_)
   ·have av:=dT V;refine aL (aj (aD (aS (aD ?_))));obtain⟨s,r⟩:=dY (l:=xs) (i:=i+k) Xx;obtain⟨t,ak⟩:=dY (l:=xs) (i:=i+k-1) Xx;have ai:=(p (i+k) Xx).trans r;have ax:=(p (i+k-1) Xx).trans ak;have D:=C;refine cT (ml 9) [9] (fun d=>Md [] aB d) mixed Xw ?_;intro aP L;refine⟨L.mono Oy,?_⟩;refine mo q (mo q (mz (fun d e=>bf (i:=k) 1 q q kM el3 M Xx) (mz (fun d e=>(bP (kk:=k*1) 0 q q iD ((D.at_ ai Xx).o e) q).to (b:=vN s) q) (mo q (mo q (mz (fun d e=>rS (a:=k) (b:=1) q q Xx) (mz (fun d e=>bf (i:=k-1) 1 q q kM el3 M Xx) (mz (fun d e=>(bP (kk:=(k-1)*1) 0 q q iD ((D.at_ ax Xx).o e) q).to (b:=vN t) q) (dD ?_)))))))));obtain⟨C,u⟩:=k2 L C u;refine st _ (eU (a:=s) (b:=t) q q) (nt ?_);rw[PC r,yQ ak]at R;refine bJ q (fun W=>?_) (fun W=>?_)
    ·have O:¬s=t:=(by simpa using W);rw[if_neg O]at R;refine ns (m2 q q (mv q (mv q (st _ (bf (i:=k) 1 q q kM el3 M Xx) (st _ ((bP (kk:=k*1) 0 q q iD (C.at_ ai Xx) q).to (b:=vN s) q) (st _ ((bf (i:=j) 1 q q kM el3 F Xx).to (b:=.pointer (some ⟨b,j,none⟩)) (by simp[mO,Addr.kH])) ?_))))));obtain⟨ao,Y,N,G⟩:=C.into (i:=j) (z:=s) Xx;refine bn (b:=b) (j:=j) q q iD q Y N ?_;intro aC aa U;have C:=G _ U;have u:=u.gT aa Oy;refine nt (aH (mv q (st _ (rA (a:=j) (b:=1) q q Xx) (ck q (aA (bE (aj (aH (mv q (st _ (rA (a:=k) (b:=1) q q Xx) (an q ?_)))))))))));refine j8 (x0:=E.set j s) (x1:=j+1) (x2:=k+1) Xx ⟨(d9 q Xx),(d9 q Xx),q,q,tV⟩ ⟨u,C,by simpa using Z,by omega,by omega,by omega,fun I aq=>by rw[List.getElem?_set_ne Xx];exact p I Xx,?_⟩;rw[show i+(k+1)-1=i+k by omega,yQ r,show i+(k+1)=i+k+1 by omega,uj Xx,List.append_assoc];exact R
    have O:s=t:=(by simpa using W);rw[if_pos O]at R;refine aL (bE (aj (aH (mv q (st _ (rA (a:=k) (b:=1) q q Xx) (an q ?_))))));refine j8 (x0:=E) (x1:=j) (x2:=k+1) Xx ⟨q,(d9 q Xx),q,q,tV⟩ ⟨u,C,Z,by omega,by omega,by omega,fun I aq=>p I Xx,?_⟩;rw[show i+(k+1)-1=i+k by omega,yQ r,show i+(k+1)=i+k+1 by omega];exact R
   have av:=dF V;rw[XF Xx,List.append_nil]at R;refine bW (aY (aY (cO (aj (ns (m2 q q (st _ (bZ.to (b:=.slice (some ⟨b,j,none⟩) (xs.length-j) (A-j)) (by exact fP 1 j xs.length kM el3 q F Xx Xx ⟨_,q⟩ q) (GI Xx)) ?_)))))));obtain⟨ao,Y,N,G⟩:=C.clear (i:=j) Xx;rw[Z]at N G;refine TB (o:=j) (m:=xs.length-j) kM z3 (by intro aN al;simp at al;subst al;rfl) q Xx Y N ?_;intro aC ay aa au U;have C:=G _ ay au U;rw[R]at C;have u:=u.gT aa Oy;refine nt (ns (m2 q q (st _ (bZ.to (b:=.slice (some ⟨b,0,none⟩) j A) (by exact fP 1 0 j kM el3 q F Xx Xx q ⟨_,q⟩) (TD Xx)) (ar q ?_))))
   repeat (first|refine aI ?_|refine aU ?_)
   have ap:j=(ki xs).length:=(by rw[<- R,List.length_take];omega);refine gX trivial q q ⟨_,q,u,(fun b h=>h),?_⟩;rw[ap];exact C.ow e g ag fun x B=>af x (by exact LW B)
  have H:=dF S;rw[if_neg H]at J;refine aL (bE (aj (aH (mv q (st _ (rA (a:=i) (b:=1) q q Xx) (an q ?_))))));refine mU (x0:=(i+1)) Xx ⟨(d9 q Xx),q,tV⟩ ⟨u,C,by omega,by omega,?_⟩;rw[Nat.add_sub_cancel,yQ B,List.take_add_one,B,Option.toList_some,List.append_assoc];exact J
 have P:=dF T;rw[XF Xx,List.append_nil,List.take_of_length_le Xx]at J;refine bW (aY (aY (cO (aj (nm q (ar q ?_))))))
 repeat (first|refine aI ?_|refine aU ?_)
 refine gX trivial q q ⟨_,q,u,(fun b h=>h),?_⟩;rw[<- J];exact C.ow e g ag fun x B=>af x (by exact B)
theorem ac3 (g:Up w Q) (k:Int) (j:(-9223372036854775808<=k/\k<9223372036854775808)) :
  Calls Zp 170 #[(.int .i64 (k:Int))] w fun f h=>∃e:Bool,f = .returned (.bool e)/\Md [] w h/\decide (k=4\/k=5)=e:=by
 have d:=Md.refl [] w;have D:=g;refine enter (n:=9) Tryz.func170 q q q fun i=>ns (an q (nm q (st _ (lT (a:=k) (b:=4) q q) (mv q ?_))));refine bX (t:=5) q (fun c=>?_) (fun c=>?_)
 ·have C:=dT c;refine sk c (sk c (st _ (bg q c q) (ar q ?_)));exact bR (v:=(.bool true)) trivial q ⟨q,tV⟩ ⟨true,q,d,(by simp_all)⟩
 have C:=dF c;refine sg c (aM q) (sg c (lT (a:=k) (b:=5) q q) (st _ (aZ q c q) (ar q ?_)));exact bR (v:=(.bool ((decide (k=5))))) trivial q ⟨q,tV⟩ ⟨(decide (k=5)),q,d,(by simp_all)⟩
theorem ac9:wF Zp 218 2 16=true:=Xw
theorem akR:cu Zp 170=true:=Xw
theorem alN:fH Zp 218=some [(0,1),(1,1)]:=Xw
theorem abA:Zp.underlying 214=some (.slice 218):=Xw
theorem z218:dU Zp 218=some [.int .u64 0,.int .u64 0]:=Xw
theorem wE (d:Up w Q) {v0:Value} {b:Ly} (K:Ls eC w Q v0 b) (p:Nat) (aZ:p<18446744073709551616) (k:Int) (a0:(-9223372036854775808<=k/\k<9223372036854775808)) (a5:b.length<=1000000) :
  Calls Zp 158 #[v0,(.int .u64 p),(.int .i64 (k:Int))] w fun N j=>∃am:Value,∃ai:List o9,∃ab:Nat,N = .returned (.tuple #[am,(.int .i64 ab)])/\Md [] w j/\Ls HU j Q am ai/\ab<9223372036854775808/\jo b p k=(ai,ab):=by
 have aX:=K.dB;have e:=Md.refl [] w;have ay:=d;have B:∀b,Q b->Q b:=fun _ h=>h;have F:∀b,Q b->b<w.heap.size->Q b:=fun _ h _=>h;refine enter (n:=48) Tryz.func158 q q q fun aB=>ns (ck q (an q (aD (nm q (ax akR q (ac3 d (k) Xx) ?_)))));rintro N a6 ⟨aV,rfl,u,aG⟩;refine rv ?_;obtain⟨K,d,e⟩:=k3 u K d e;refine st _ (gR q) (nt ?_);refine bJ q (fun V=>?_) (fun V=>?_)
 ·have r:=wo V;refine ns (ck q (ar q (aI ?_)));exact d8 (vs:=[SN,(.int .i64 ((1:Nat):Int))]) trivial q ⟨q,q,tV⟩ q ⟨_,[],1,q,e,(Ls.nil _ _ _),Xx,(amd (by simp_all))⟩
 have r:=wm V;refine aL (aj (aD ?_));obtain⟨kn,aq⟩:∃n:Nat,k=(n:Int):=⟨k.toNat,by simp_all;omega⟩;subst aq;have hk:(kn:Int)=4\/(kn:Int)=5:=(by simp_all);refine aH (m2 q q (mv q (ax acX q (yj d K p Xx kn Xx 0 Xx 16 Xx Xx Xx) ?_)));rintro N a7 ⟨aU,X,Y,rfl,u,af,aT,aa⟩;refine rv ?_;obtain⟨d,e⟩:=k2 u d e;refine mv q (se q q (se q q (ck q (an q (aD (nm q (st _ (eU (a:=Y) (b:=0) q q) (nt ?_))))))));refine bJ q (fun W=>?_) (fun W=>?_)
 ·have G:=dT W;refine nm q (ck q (ar q (aI ?_)));exact d8 (vs:=[SN,(.int .i64 Y)]) trivial q ⟨q,q,tV⟩ q ⟨_,[],Y,q,e,(Ls.nil _ _ _),Xh,(ajY hk aa G)⟩
 have G:=dF W;refine aL (aj (aD ?_));have a1:=sZ aa (Classical.not_not.1 G);refine aH (mv q (ax acY q (CO d af Xx Xx) ?_));rintro N a8 ⟨H,C,rfl,u,s,al⟩;refine rv ?_;obtain⟨d,e⟩:=k2 u d e;refine an q (aD ?_);have a3:C.length=X.length/8:=(by rw[<- al,kV]);refine aH (an q (aD (ns (ck q (nt (aS ?_))))));refine l9 (fun(g:Value) (l:List o9) (i:Nat)=>[(11,g),(12,(.int .i64 i)),(10,H)]) (fun(g:Value) (l:List o9) (i:Nat) j=>∃I:Nat->Prop,(∀b,I b->Q b)/\(∀b,Q b->b<w.heap.size->I b)/\Up j I/\Md [] w j/\Ow HU 218 (bA [] w) j I g l/\Ls cZ j I H C/\i%2=0/\i<=C.length/\l=iK X 0 (i/2)) (fun(g:Value) (l:List o9) (i:Nat)=>C.length-i) (x0:=SN) (x1:=([]:List o9)) (x2:=0) ?_ ?_ ?_
 ·exact⟨q,q,q,tV⟩
 ·exact⟨Q,B,F,d,e,(Ow.nil _ _ _ _ _),s,Xx,Xx,q⟩
 clear e d B F K af s;rintro g l i aB aF ⟨aC,B,F,d,e,A,s,z,aP,U⟩;refine aD (ns (m2 q q (sL q jY s.di (st _ (dN (a:=i) (b:=C.length) q q) (nt ?_)))));refine bJ q (fun Z=>?_) (fun Z=>?_)
 ·have t:=dT Z;refine aL (aj (aD (aS ?_)));have D:=s;refine cT [(0,true),(1,true),(2,true),(3,true),(4,true),(5,true),(6,true),(7,true),(8,true),(9,true),(10,true),(11,false)] [12,13] (fun j=>Md [] aF j) mixed Xw ?_;intro a9 O;refine⟨O.mono Oy,?_⟩;have L:=O.mono (T:=[]) Oy;have a4:l.length=i/2:=(by rw[U,qC]);refine mo q (mo q (mo q (mz (fun j c=>bf (i:=i) 1 q q jY eV s.di Xx) ?_)));obtain⟨E,x⟩:=dY (l:=C) (i:=i) Xx;obtain⟨a2,au,P⟩:=D.get x;obtain⟨rfl,aN⟩:=au;have P:At _ H (i*1) [(.int .u64 E)]:=P;refine mz (fun j c=>(bP (kk:=i*1) 0 q q bh (P.o c) q).to (b:=(.int .u64 E)) q) (mo q (mo q (mz (fun j c=>rA (a:=i) (b:=1) q q Xx) (mz (fun j c=>bf (i:=i+1) 1 q q jY eV s.di Xx) ?_))));obtain⟨f,y⟩:=dY (l:=C) (i:=i+1) Xx;obtain⟨aW,av,M⟩:=D.get y;obtain⟨rfl,aO⟩:=av;have M:At _ H ((i+1)*1) [(.int .u64 f)]:=M;refine mz (fun j c=>(bP (kk:=(i+1)*1) 0 q q bh (M.o c) q).to (b:=(.int .u64 f)) q) (mz (fun j c=>bO (us:=[[(.int .u64 E)],[(.int .u64 f)]]) (cs:=(o9.cells (({first:=E,tail:=f}:o9)))) [(0,0,1),(1,1,1)] z218 alN q q ⟨q,q,tV⟩ ⟨q,q,tV⟩ q q) ?_);obtain⟨A,s,d,e⟩:=k4 O A s d e;refine mL ?_ rfl;refine aR [(o9.cells (({first:=E,tail:=f}:o9)))] abA ac9 Xy Xy q q ⟨q,tV⟩ ⟨q,tV⟩ q Xy ?_;intro aM aJ o aQ u S;have ao:=d _ o
  obtain⟨A,s,d,e,L⟩:=k5 u A s d e L;have S:=Ls.cG (m:=1) (R:=aC) (T:=HU) (xs:=[({first:=E,tail:=f}:o9)]) S ⟨_,_,q,(NY (by exact⟨Xx,Xx⟩)),q⟩ q Xy ao;refine aA ⟨q,L,?_⟩;refine dD ?_;refine e5 (sz:=2) (by rfl) abA ac9 q q A S (fun _ h _=>h) d (bA.new e) Zq Zq ?_;intro az aK ap ad ak ae v u ag _ aw;have aE:=A;have B:=tT B ak;have F:=fun b J ah=>ad b (F b J ah) (lj ah e.size);have s:=(s.sub ad).md u ag;have d:=d.md u;have e:=e.dh u (fun b J=>(aE.2 b J).1);have d:=ae;clear ae ad ak ag aw;refine ck q (aA ?_);refine bE (aj (aH (mv q (st _ (rA (a:=i) (b:=2) q q Xx) (an q ?_)))));refine j8 (x0:=az) (x1:=(l ++ ([({first:=E,tail:=f}:o9)]))) (x2:=(i+2)) Xx ⟨q,(d9 q Xx),q,tV⟩ ⟨ap,B,F,d,e,v,s,Xx,Xx,(abw U z al.symm x y)⟩
 have t:=dF Z;refine bW (aY (aY (cO (aj (nm q (ck q (ar q ?_)))))));exact d8 (vs:=[g,(.int .i64 ((0:Nat):Int))]) trivial q ⟨q,q,tV⟩ q ⟨_,l,0,q,e,(A.ls (fun b J=>B b J) (bA.up ay)),Xx,(af6 hk aa G (by rw[U,show i/2=X.length/16 by omega]))⟩
theorem aij:cu Zp 158=true:=Xw
theorem WT (A:Up w Q) {v0:Value} {v:dx} (j:Pt dO 135 w Q v0 v) (k:Int) (af:(-9223372036854775808<=k/\k<9223372036854775808)) (ah:v.b.length<=1000000) (ai:16<=v.h.n.getD 2 0) (p2:16<=v.h.n.getD 4 0) :
  Calls Zp 131 #[v0,(.int .i64 (k:Int))] w fun X d=>∃ab:Value,∃aa:List o9,∃Y:Nat,X = .returned (.tuple #[ab,(.int .i64 Y)])/\Md [] w d/\Ls HU d Q ab aa/\Y<9223372036854775808/\sw v.h.n v.b k=(aa,Y):=by
 obtain⟨l,o,rfl,g,j,qx⟩:=j;obtain⟨Z,rfl,F,B⟩:=eu qx;have e:=Md.refl [] w;have r:=A;have i:∀b,Q b->Q b:=fun _ h=>h;refine enter (n:=55) Tryz.func131 q q q fun ae=>ns (ck q (an q (aD ?_)));have C:=j;refine cT (ml 11) [11] (fun d=>Md [] w d) mixed Xw ?_;intro y m;refine⟨m.mono Oy,?_⟩;have S:=m.mono (T:=[]) Oy;refine mo q (mz (fun d D=>cA q) (mz (fun d D=>aJ q oe) (mz (fun d D=>aJ q FJ) (mz (fun d D=>(aG q bh (C.o D) q).to (b:=(.int .u64 ((v.h.n.getD 2 0:Nat):Int))) q) ?_))));have z:v.h.n.getD 2 0<18446744073709551616:=(gq F.2.2.2.2.2.2.2.1 2);refine mo q (mz (fun d D=>cA q) (mz (fun d D=>aJ q oe) (mz (fun d D=>aJ q yV) (mz (fun d D=>(aG q bh (C.o D) q).to (b:=(.int .u64 ((v.h.n.getD 3 0:Nat):Int))) q) ?_))));have ak:v.h.n.getD 3 0<18446744073709551616:=(gq F.2.2.2.2.2.2.2.1 3);refine mz (fun d D=>eX q) (dD ?_);obtain⟨B,j,A,e⟩:=k4 m B j A e;refine an q (aD (nm q (st _ (VX (a:=k) (b:=4) q q) (nt ?_))));refine bJ q (fun O=>?_) (fun O=>?_)
 ·have ad:=dT O;have C:=j;refine cT (ml 11) [11] (fun d=>Md [] y d) mixed Xw ?_;intro ao m;refine⟨m.mono Oy,?_⟩;have S:=m.mono (T:=[]) Oy;refine mo q (mz (fun d D=>cA q) (mz (fun d D=>aJ q oe) (mz (fun d D=>aJ q yW) (mz (fun d D=>(aG q bh (C.o D) q).to (b:=(.int .u64 ((v.h.n.getD 4 0:Nat):Int))) q) ?_))));have al:v.h.n.getD 4 0<18446744073709551616:=(gq F.2.2.2.2.2.2.2.1 4);refine mo q (mz (fun d D=>cA q) (mz (fun d D=>aJ q oe) (mz (fun d D=>aJ q yX) (mz (fun d D=>(aG q bh (C.o D) q).to (b:=(.int .u64 ((v.h.n.getD 5 0:Nat):Int))) q) ?_))));have am:v.h.n.getD 5 0<18446744073709551616:=(gq F.2.2.2.2.2.2.2.1 5);refine mz (fun d D=>eX q) (dD ?_);obtain⟨B,j,A,e⟩:=k4 m B j A e;refine an q (nm q (sn q (sf q pL (sl (u:=Z) q fJ j q (mv q (st _ (qP (a:=(v.h.n.getD 4 0)) (b:=16) 18446744073709551616 q q q Xx) (mv q (ax aij q (wE A B ((v.h.n.getD 4 0)-16) Xx (k) Xx Xx) ?_))))))));rintro X t ⟨V,J,K,rfl,U,I,ag,R⟩;refine rv ?_;have e:=e.k U;refine mv q (se q q (se q q (ck q (an q ?_))))
  refine aD (aS (nm q (st _ (eU (a:=K) (b:=0) q q) (an q ?_))));refine bJ q (fun H=>?_) (fun H=>?_)
  ·have E:=dT H;refine nm q (ck q (ar q (aU (aI ?_))));exact d8 (vs:=[SN,(.int .i64 K)]) trivial q ⟨q,q,tV⟩ q ⟨_,[],K,q,e,(Ls.nil _ _ _),Xh,(by unfold sw;rw[show(if k=4 then v.h.n.getD 2 0 else v.h.n.getD 4 0)=v.h.n.getD 4 0 from if_neg Xx,show(if k=4 then v.h.n.getD 3 0 else v.h.n.getD 5 0)=v.h.n.getD 5 0 from if_neg Xx,R,if_pos Xx])⟩
  have E:=dF H;refine aD ?_;have p:=I.dB;refine aH (mv q (sL q abA I.di (st _ (dJ (a:=J.length) 18446744073709551616 q (by rw[u3];rfl) nk q Xx) (mv q (st _ (VY (a:=(v.h.n.getD 5 0)) (b:=16) 18446744073709551616 q q q Xx) (st _ (eU (a:=J.length) (b:=((v.h.n.getD 5 0)/16)) q q) (an q ?_)))))));refine bJ q (fun s=>?_) (fun s=>?_)
  ·have P:=dT s;refine ns (ck q (ar q (aU (aI ?_))));exact d8 (vs:=[SN,(.int .i64 ((14:Nat):Int))]) trivial q ⟨q,q,tV⟩ q ⟨_,[],14,q,e,(Ls.nil _ _ _),Xx,(by unfold sw;rw[show(if k=4 then v.h.n.getD 2 0 else v.h.n.getD 4 0)=v.h.n.getD 4 0 from if_neg Xx,show(if k=4 then v.h.n.getD 3 0 else v.h.n.getD 5 0)=v.h.n.getD 5 0 from if_neg Xx,R,if_neg Xx,if_pos Xx])⟩
  have P:=dF s;refine aL (bE (aj (nm q (ck q (ar q ?_)))));exact d8 (vs:=[V,(.int .i64 ((0:Nat):Int))]) trivial q ⟨q,q,tV⟩ q ⟨_,J,0,q,e,(I.sub (fun b c _=>i b c)),Xx,(by unfold sw;rw[show(if k=4 then v.h.n.getD 2 0 else v.h.n.getD 4 0)=v.h.n.getD 4 0 from if_neg Xx,show(if k=4 then v.h.n.getD 3 0 else v.h.n.getD 5 0)=v.h.n.getD 5 0 from if_neg Xx,R,if_neg Xx,if_neg Xx];rw[show _=0 from Classical.not_not.1 E])⟩
 have ad:=dF O;refine aL (aj (nm q (sn q (sf q pL (sl (u:=Z) q fJ j q (mv q (st _ (qP (a:=(v.h.n.getD 2 0)) (b:=16) 18446744073709551616 q q q Xx) (mv q (ax aij q (wE A B ((v.h.n.getD 2 0)-16) Xx (k) Xx Xx) ?_)))))))));rintro X x ⟨W,L,M,rfl,U,G,f,N⟩;refine rv ?_;have e:=e.k U;refine mv q (se q q (se q q (ck q (an q (aD (aS (nm q (st _ (eU (a:=M) (b:=0) q q) (ck q (nt ?_))))))))));refine bJ q (fun H=>?_) (fun H=>?_)
 ·have E:=dT H;refine nm q (ck q (ar q (aU (aI ?_))));exact d8 (vs:=[SN,(.int .i64 M)]) trivial q ⟨q,q,tV⟩ q ⟨_,[],M,q,e,(Ls.nil _ _ _),Xh,(by unfold sw;rw[show(if k=4 then v.h.n.getD 2 0 else v.h.n.getD 4 0)=v.h.n.getD 2 0 from if_pos Xx,show(if k=4 then v.h.n.getD 3 0 else v.h.n.getD 5 0)=v.h.n.getD 3 0 from if_pos Xx,N,if_pos Xx])⟩
 have E:=dF H;refine aD ?_;have p:=G.dB;refine aH (mv q (sL q abA G.di (st _ (dJ (a:=L.length) 18446744073709551616 q (by rw[u3];rfl) nk q Xx) (mv q (st _ (VY (a:=(v.h.n.getD 3 0)) (b:=16) 18446744073709551616 q q q Xx) (st _ (eU (a:=L.length) (b:=((v.h.n.getD 3 0)/16)) q q) (an q ?_)))))));refine bJ q (fun s=>?_) (fun s=>?_)
 ·have P:=dT s;refine ns (ck q (ar q (aU (aI ?_))));exact d8 (vs:=[SN,(.int .i64 ((14:Nat):Int))]) trivial q ⟨q,q,tV⟩ q ⟨_,[],14,q,e,(Ls.nil _ _ _),Xx,(by unfold sw;rw[show(if k=4 then v.h.n.getD 2 0 else v.h.n.getD 4 0)=v.h.n.getD 2 0 from if_pos Xx,show(if k=4 then v.h.n.getD 3 0 else v.h.n.getD 5 0)=v.h.n.getD 3 0 from if_pos Xx,N,if_neg Xx,if_pos Xx])⟩
 have P:=dF s;refine aL (bE (aj (nm q (ck q (ar q ?_)))));exact d8 (vs:=[W,(.int .i64 ((0:Nat):Int))]) trivial q ⟨q,q,tV⟩ q ⟨_,L,0,q,e,(G.sub (fun b c _=>i b c)),Xx,(by unfold sw;rw[show(if k=4 then v.h.n.getD 2 0 else v.h.n.getD 4 0)=v.h.n.getD 2 0 from if_pos Xx,show(if k=4 then v.h.n.getD 3 0 else v.h.n.getD 5 0)=v.h.n.getD 3 0 from if_pos Xx,N,if_neg Xx,if_neg Xx];rw[show _=0 from Classical.not_not.1 E])⟩
theorem oC:fI Zp 261 4=true:=Xw
theorem ai1:fH Zp 261=some [(0,1),(1,1),(2,1),(3,1)]:=Xw
theorem WX:dU Zp 261=some [.int .u64 0,.int .u64 0,.int .u64 0,.slice none 0 0]:=Xw
abbrev Zb:jh:={bY:=0,b9:=0,dat:=0,au:=[]}
theorem tH (L:Up w Q) {v0:Value} {b:Ly} (J:Ls eC w Q v0 b) (p:Nat) (aG:p<18446744073709551616) (aJ:b.length<=140737488355328) :
  Calls Zp 183 #[v0,(.int .u64 p)] w fun ab m=>∃ah:Value,∃K:jh,∃X:Nat,ab = .returned (.tuple #[.agg (jh.cells K ah).toArray,(.int .i64 X)])/\Md [] w m/\jh.ok K/\Ls eC m Q ah K.au/\X<9223372036854775808/\lV b p=(K,X):=by
 have aF:=J.dB;have e:=Md.refl [] w;have aB:=L;have Y:∀b,Q b->Q b:=fun _ h=>h;refine enter (n:=31) Tryz.func183 q q q fun aE=>ns (bI WX ?_);intro g aM I ai j d;obtain⟨al,af,ag,am,t⟩:=jC L I ai j;have Y:=tT Y ag;have I:=lv e.size I;have J:=(J.sub af).o j;have e:=e.k j;have L:=t;have aa:bA [] w g:=.inr I;have d:bC _ _ (jh.cells (Zb) SN) _:=d;have av:jh.ok (Zb):=(by exact⟨Xy,Xy,Xy⟩);refine an q (ns (m2 q q (ax aim q (FD L J p Xx 2 Xx 3 Xx Xx Xx) ?_)));rintro ab ao ⟨P,R,B,E,S,rfl,j,H,D,aw,ae⟩;refine rv ?_;obtain⟨d,e⟩:=k2 j d e;refine mv q (se q q (se q q (se q q (ck q (ck q (an q (aD (nm q (st _ (eU (a:=S) (b:=0) q q) (nt ?_))))))))));refine bJ q (fun U=>?_) (fun U=>?_)
 ·have M:=dT U;refine ns (st _ (bO (us:=[]) (cs:=(jh.cells (Zb) SN)) [] WX ai1 q q trivial trivial q q) (mv q (aK (us:=(jh.cells (Zb) SN)) q q (by exact oC) (by exact fun Z z=>aV (jh.one q) Z z) d (lB q) ?_)));have N:=d;intro aN j d;have e:=e.step j (hI aa);have d:bC _ _ (jh.cells (Zb) SN) _:=d;refine ar q (aI ?_);exact d8 (vs:=[(.agg (jh.cells (Zb) SN).toArray),(.int .i64 S)]) trivial q ⟨⟨_,q,cr (cs:=(jh.cells (Zb) SN)) (by exact oC) d⟩,q,tV⟩ q ⟨_,(Zb),S,q,e,Xh,(Ls.nil _ _ _),Xh,((FZ ae).1 M)⟩
 have M:=dF U;refine aL (aj (aD ?_));have rd:=(FZ ae).2 M;have C:=H;refine cT (ml 10) [10,11,12] (fun m=>Md [] ao m) mixed Xw ?_;intro aO O;refine⟨O.mono Oy,?_⟩;have ak:=O.mono (T:=[]) Oy;refine mo q (mz (fun m A=>bf (i:=0) 1 q q jY eV H.di Xx) ?_);obtain⟨s,o⟩:=dY (l:=R) (i:=0) Xx;obtain⟨aH,x,V⟩:=C.get o;obtain⟨rfl,ap⟩:=x;have V:At _ P (0*1) [(.int .u64 s)]:=V;refine mz (fun m A=>(bP (kk:=0*1) 0 q q bh (V.o A) q).to (b:=(.int .u64 s)) q) (mo q (mz (fun m A=>bf (i:=1) 1 q q jY eV H.di Xx) ?_));obtain⟨u,r⟩:=dY (l:=R) (i:=1) Xx;obtain⟨ay,y,W⟩:=C.get r;obtain⟨rfl,aq⟩:=y;have W:At _ P (1*1) [(.int .u64 u)]:=W;refine mz (fun m A=>(bP (kk:=1*1) 0 q q bh (W.o A) q).to (b:=(.int .u64 u)) q) (mo q (mz (fun m A=>bf (i:=2) 1 q q jY eV H.di Xx) ?_));obtain⟨G,c⟩:=dY (l:=R) (i:=2) Xx;obtain⟨az,k,F⟩:=C.get c;obtain⟨rfl,v⟩:=k;have F:At _ P (2*1) [(.int .u64 G)]:=F;refine mz (fun m A=>(bP (kk:=2*1) 0 q q bh (F.o A) q).to (b:=(.int .u64 G)) q) (mo q (dD ?_));obtain⟨d,D,e⟩:=k3 O d D e;refine st _ (bO (us:=[[(.int .u64 s)],[(.int .u64 u)],[(.int .u64 G)],[B]]) (cs:=(jh.cells (({bY:=s,b9:=u,dat:=G,au:=E}:jh)) B)) [(0,0,1),(1,1,1),(2,2,1),(3,3,1)] WX ai1 q q ⟨q,q,q,(dK D.bB),tV⟩ ⟨q,q,q,q,tV⟩ q q) ?_
 refine aK (us:=(jh.cells (({bY:=s,b9:=u,dat:=G,au:=E}:jh)) B)) q q (by exact oC) (by exact fun Z z=>aV (jh.one D.bB) Z z) d (lB q) ?_;have N:=d;intro aC j d;have ad:∀b∈[g],¬al b:=(hI am);have D:=D.md j ad;have e:=e.step j (hI aa);have d:bC _ _ (jh.cells (({bY:=s,b9:=u,dat:=G,au:=E}:jh)) B) _:=d;refine ck q (aA ?_);refine aj (iM ?_);exact d8 (vs:=[(.agg (jh.cells (({bY:=s,b9:=u,dat:=G,au:=E}:jh)) B).toArray),(.int .i64 ((0:Nat):Int))]) trivial q ⟨⟨_,q,cr (cs:=(jh.cells (({bY:=s,b9:=u,dat:=G,au:=E}:jh)) B)) (by exact oC) d⟩,q,tV⟩ q ⟨_,(({bY:=s,b9:=u,dat:=G,au:=E}:jh)),0,q,e,(by exact⟨Xx,Xx,Xx⟩),(D.sub (fun b f _=>Y b f)),Xx,(by rw[rd.2];simp only[List.getD_eq_getElem?_getD,o,r,c];rfl)⟩
theorem aip:cu Zp 183=true:=Xw
theorem abF (F:Up w Q) {v0:Value} {v:dx} (O:Pt (tPt dO 135) 62 w Q v0 v) {v1:Value} {p:Nat} (h1:Pt cZ 46 w Q v1 p) {e:Nat} {am:Value} (m:jh) (s:bC w e (jh.cells m am) 261) (n2:¬Q e) (bk:jh.ok m) (bl:Ls eC w Q am m.au) (bp:v.b.length<=140737488355328) :
  Calls Zp 182 #[v0,v1,.pointer (some ⟨e,0,none⟩)] w fun N d=>(∃ad:jh,∃ay:Value,N = .returned (.tuple #[])/\Md [e] w d/\bC d e (jh.cells ad ay) 261/\¬Q e/\jh.ok ad/\Ls eC d Q ay ad.au/\kT (v.h.n.getD 0 0) v.b p=(ad,0))\/∃J:Nat,N = .panicked (NE (.iface 234 (.agg #[.int .i64 J])))/\(J≠0/\J<9223372036854775808)/\Md [e] w d/\bC d e (jh.cells m am) 261/\(kT (v.h.n.getD 0 0) v.b p).2=J:=by
 obtain⟨aq,a9,rfl,r,O,qx⟩:=O;obtain⟨v1,rfl,aE⟩:=qx;obtain⟨c,ba,rfl,t,h1,aI⟩:=h1;obtain⟨rfl,a8⟩:=aI;have Y:=n2;have z:bA [e] w e:=.inl Oy;have bb:aq≠e:=fun h=>Y (h ▸ r);have bc:c≠e:=fun h=>Y (h ▸ t);have B:=Md.refl [e] w;have bg:=F;have a3:∀b,Q b->Q b:=fun _ h=>h;refine enter (n:=20) Tryz.func182 q q q fun bf=>ns (sl (u:=v1) q zM O q ?_);have K:=aE;obtain⟨aP,be,rfl,ap,K,az⟩:=K;obtain⟨br,rfl,aY,S⟩:=eu az;have y:aP≠e:=fun h=>Y (h ▸ ap);refine sl (u:=(.int .u64 p)) q bh h1 q (jq XR q (qE F ⟨_,_,q,ap,K,dw aY S⟩ p Xx) ?_);rintro N an (⟨rfl,C,P⟩|⟨J,rfl,Z,C,P⟩);rotate_left
 ·exact .inr ⟨_,q,gB (Or.inr ⟨J,q,Z,B.k C,s.o C,(aja P Z.1)⟩)⟩
 refine .inl ⟨_,q,?_⟩;obtain⟨s,O,h1,K,S,F,B⟩:=k7 C s O h1 K S F B;refine nt (aD ?_);have l:=s.lt;refine rU (fun d=>Md [] an d) (R:=fun aL d=>∃(ao:Fr 20) (L:Nat) (M:Value) (KC:jh) (U:Nat),aL=aQ ao [] [(3,.pointer (some ⟨L,0,none⟩)),(4,.int .i64 U),(0,(.pointer (some ⟨aq,0,none⟩))),(1,(.pointer (some ⟨c,0,none⟩))),(2,(.pointer (some ⟨e,0,none⟩)))]/\Md [] an d/\an.heap.size<=L/\L<d.heap.size/\bC d L (jh.cells KC M) 261/\jh.ok KC/\U<9223372036854775808/\Ls eC d Q M KC.au/\lV v.b p=(KC,U)) mixed ?_ ?_
 ·rintro _ bt ⟨ao,L,M,KC,U,rfl,C,aT,bo,ag,aF,bq,G,g⟩;have a7:=F _ aT;obtain⟨s,F,B⟩:=k3 C s F B;have bd:e≠L:=(by have:=l;omega);refine aj (nm q (jq PL q (rP F U Xx) ?_));rintro N bu (⟨rfl,C,ae⟩|⟨J,rfl,Z,C,ae⟩);rotate_left
  ·exact .inr ⟨_,q,gB (Or.inr ⟨J,q,Z,B.k C,s.o C,(by rw[acT P g];exact ae)⟩)⟩
  refine .inl ⟨_,q,?_⟩;obtain⟨s,G,ag,B⟩:=k4 C s G ag B;refine nt (aH (st _ (bL (jh.cells KC M) q (by exact oC) ag q) (aK (us:=(jh.cells KC M)) q q (by exact oC) (by exact fun u k=>aV (jh.one G.bB) u k) s (lB q) ?_)));have aC:=s;intro bi C s;have av:∀b∈[e],¬Q b:=(hI Y);have G:=G.md C av;have B:=B.step C (hI z);have s:bC _ _ (jh.cells KC M) _:=s;refine aA ?_;exact d8 (vs:=[]) trivial q trivial q (Or.inl ⟨KC,_,q,B,s,n2,aF,(G.sub (fun b hb _=>a3 b hb)),(by rw[acT P g,ae])⟩)
 intro bs a;refine dM (i:=0) _ q Xw Xw (a) (fun d H=>aG q zM (O.o H) q) (dM (i:=1) _ q Xw Xw (a) (fun d H=>cA q) (dM (i:=2) _ q Xw Xw (a) (fun d H=>aJ q pL) (dM (i:=3) _ q Xw Xw (a) (fun d H=>aG q fJ (K.o H) q) (dM (i:=4) _ q Xw Xw (a) (fun d H=>aG q bh (h1.o H) q) ?_))));refine qS (i:=5) (j:=9) Xw q q q q ?_ ?_
 ·refine ax aip q (tH (F.md a) (S.o a) p Xx Xx) ?_;rintro N bx ⟨ak,ah,aN,rfl,A,aU,la,aZ,aR⟩;refine rv ?_;refine aA ⟨q,a.k A,?_⟩;refine dM (i:=6) _ q Xw Xw (a.k A) (fun d H=>aM q) (dM (i:=7) _ q Xw Xw (a.k A) (fun d H=>jJ q q) (dM (i:=8) _ q Xw Xw (a.k A) (fun d H=>jJ q q) (cL (i:=9) Xw q q (bI WX ?_))));intro af bv ab bn o aB;refine aA ⟨q,(a.k A).k o,?_⟩;refine cL (i:=10) Xw q q (aK (us:=(jh.cells ah ak)) q q (by exact oC) (by exact fun u k=>aV (jh.one la.bB) u k) aB (lB q) ?_);intro a5 T D;refine aA ⟨q,((a.k A).k o).dX T (lv (a.k A).size ab),?_⟩;have D:bC a5 af (jh.cells ah ak) 261:=D;refine cL (i:=11) Xw q q (ck q ?_);refine aA ⟨q,((a.k A).k o).dX T (lv (a.k A).size ab),?_⟩;refine lu Xw ?_;exact⟨_,af,ak,ah,aN,(cV (by exact⟨q,q,q,q,q,tV⟩)).symm,((a.k A).k o).dX T (lv (a.k A).size ab),(lv (a.k A).size ab),D.lt,D,aU,aZ,(((la.sub (Q':=fun x=>Q x/\x≠af) (fun x I bm=>⟨I,by omega⟩)).o o).md T (by intro x I;simp at I;subst I;exact fun h=>h.2 q)).sub (fun x I _=>I.1),aR⟩
 refine bI WX ?_;intro ar bw f aX E W;refine aA ⟨q,a.k E,?_⟩;obtain⟨bj,a1,a2,n6,a4⟩:=jC (F.md a) f aX E;refine cL (i:=5) Xw q q (ax aip q (tH a4 (((S.o a).sub a1).o E) p Xx Xx) ?_);rintro N bz ⟨al,ai,aO,rfl,V,aW,aw,a0,aS⟩;refine rv ?_;have W:=W.o V;refine aA ⟨q,(a.k E).k V,?_⟩;refine dM (i:=6) _ q Xw Xw ((a.k E).k V) (fun d H=>aM q) (dM (i:=7) _ q Xw Xw ((a.k E).k V) (fun d H=>jJ q q) (dM (i:=8) _ q Xw Xw ((a.k E).k V) (fun d H=>jJ q q) (cL (i:=10) Xw q q (aK (us:=(jh.cells ai al)) q q (by exact oC) (by exact fun u k=>aV (jh.one aw.bB) u k) W (lB q) ?_))));intro a6 aa X;refine aA ⟨q,((a.k E).k V).dX aa (lv a.size f),?_⟩;have X:bC a6 ar (jh.cells ai al) 261:=X;refine cL (i:=11) Xw q q (ck q ?_);refine aA ⟨q,((a.k E).k V).dX aa (lv a.size f),?_⟩;refine lu Xw ?_;exact⟨_,ar,al,ai,aO,(cV (by exact⟨q,q,q,q,q,tV⟩)).symm,((a.k E).k V).dX aa (lv a.size f),(lv a.size f),X.lt,X,aW,a0,((aw).md aa (hI n6)).sub (fun x I _=>a2 x I),aS⟩
theorem ala:cu Zp 182=true:=Xw
theorem WS (J:Up w Q) {v0:Value} {v:dx} (I:Pt dO 135 w Q v0 v) (p:Nat) (aj:p<18446744073709551616) (ap:v.b.length<=140737488355328) :
  Calls Zp 172 #[v0,(.int .u64 p)] w fun ad e=>∃ag:Value,∃U:jh,∃aa:Nat,ad = .returned (.tuple #[.agg (jh.cells U ag).toArray,(.int .i64 aa)])/\Md [] w e/\jh.ok U/\Ls eC e Q ag U.au/\aa<9223372036854775808/\kT (v.h.n.getD 0 0) v.b p=(U,aa):=by
 refine enter (n:=10) (vs:=[v0,.int .u64 p]) Tryz.func172 q q q ?_;intro aC;have t:v0.oneCell'=true:=(by obtain⟨b,c,rfl,_⟩:=I;rfl);refine ns (dS (cs:=[v0]) q (dK t) ?_);intro i aG ak aD a m;have aq:=J _ ak;obtain⟨I,J⟩:=k2 a I J;have s:=a;refine dS (cs:=[.int .u64 p]) q q ?_;intro O aH al aE a u;have av:=J _ al;obtain⟨I,m,J,s⟩:=k4 a I m J s;refine bI WX ?_;intro j g ae af a L;obtain⟨V,s4,ay,n4,az⟩:=jC J ae af a;have ab:=lv s.size ae;have y:=s4 _ aq m.lt;have z:=s4 _ av u.lt;have I:=(I.sub s4).o a;obtain⟨m,u,s⟩:=k3 a m u s;have L:bC g j (jh.cells wL SN) 261:=L;refine an q (ns (st _ (mK (vs:=[.pointer (some ⟨i,0,none⟩),.pointer (some ⟨O,0,none⟩),.pointer (some ⟨j,0,none⟩)]) q) ?_));have hk:jh.ok wL:=(by simp[jh.ok,wL]);refine ax XO q (xS (f:=182) (cs:=[.pointer (some ⟨i,0,none⟩),.pointer (some ⟨O,0,none⟩),.pointer (some ⟨j,0,none⟩)]) (S:=[j])
  (X:=fun e=>∃r d,bC e j (jh.cells r d) 261/\jh.ok r/\Ls eC e V d r.au/\kT (v.h.n.getD 0 0) v.b p=(r,0))
  (Y:=fun c e=>bC e j (jh.cells wL SN) 261/\c<9223372036854775808/\kT (v.h.n.getD 0 0) v.b p=(wL,c))
  (R:=fun F N e=>(∃E K,N = .returned (.tuple #[])/\Md [j] F e/\bC e j (jh.cells E K) 261/\jh.ok E/\Ls eC e (fun x=>V x/\(x<g.heap.size\/F.heap.size<=x)) K E.au/\kT (v.h.n.getD 0 0) v.b p=(E,0))\/∃B:Nat,N = .panicked (NE (.iface 234 (.agg #[.int .i64 B])))/\(B≠0/\B<9223372036854775808)/\Md [j] F e/\bC e j (jh.cells wL SN) 261/\(kT (v.h.n.getD 0 0) v.b p).2=B)
  ala (hI af) ?_ ?_) ?_
 ·intro F a;have aA:Up F (fun x=>V x/\(x<g.heap.size\/F.heap.size<=x)):=fun x C=>⟨az x (lv a.size C),.inr C⟩;have aw:∀x,V x->x<g.heap.size->(V x/\(x<g.heap.size\/F.heap.size<=x)):=fun x C H=>⟨C,.inl H⟩;refine(abF aA (v0:=.pointer (some ⟨i,0,none⟩)) (v1:=.pointer (some ⟨O,0,none⟩)) (v:=v) (p:=p) ⟨i,[v0],q,⟨y,.inl m.lt⟩,m.o a,v0,q,(I.sub aw).o a⟩ ⟨O,_,q,⟨z,.inl u.lt⟩,u.o a,q,aj⟩ wL (L.o a) (fun h=>n4 h.1) hk (Ls.nil _ _ _) ap).mono ?_;rintro N e (⟨E,K,l,D,G,_,Z,H,A⟩|⟨B,l,W,D,G,A⟩)
  ·exact .inl ⟨E,K,l,D,G,Z,H,A⟩
  exact .inr ⟨B,l,W,D,G,A⟩
 ·rintro F N aF a (⟨E,K,rfl,D,G,Z,H,A⟩|⟨B,rfl,W,D,G,A⟩)
  ·refine⟨D,.inl ⟨q,fun b ai am ao M=>⟨E,K,G.uO M Xx,Z,(H.md M (by intro x C h;simp at C;subst C;omega)).sub (fun x C _=>C.1),A⟩⟩⟩
  exact⟨D,.inr ⟨B,q,fun b ai am ao M=>⟨G.uO M Xx,W.2,ajb A W.1⟩⟩⟩
 rintro ad ah ⟨c,rfl,a,T⟩;refine rv ?_;have s:=s.step a (by intro x C;simp at C;subst C;exact .inr ab);obtain⟨r,d,G,o,H,W,A⟩:∃r d,bC ah j (jh.cells r d) 261/\jh.ok r/\Ls eC ah V d r.au/\c<9223372036854775808/\kT (v.h.n.getD 0 0) v.b p=(r,c):=by
  rcases T with⟨rfl,r,d,k,m,u,L⟩|⟨k,m,u⟩
  ·exact⟨r,d,k,m,u,by decide,L⟩
  ·exact⟨_,_,k,hk,Ls.nil _ _ _,m,u⟩
 refine an q (ns (st _ (bL (jh.cells r d) q (by exact oC) G q) (mv q (aK (us:=(jh.cells r d)) q q (by exact oC) (fun x C=>aV (jh.one H.bB) x C) G (lB q) ?_))));intro aB a P;have P:bC aB j (jh.cells r d) 261:=P;have H:=H.md a (hI n4);have s:=s.dX a ab;refine ar q ?_;exact d8 (vs:=[.agg (jh.cells r d).toArray,.int .i64 c]) trivial q ⟨⟨_,q,cr (cs:=jh.cells r d) (by exact oC) P⟩,q,tV⟩ q ⟨d,r,c,q,s,o,H.sub (fun x C _=>ay x C),W,A⟩
theorem xX:fI Zp 220 3=true:=Xw
theorem ahZ:cu Zp 100=true:=Xw
theorem akT:cu Zp 172=true:=Xw
theorem aew:aP Zp 177 1=some 1:=Xw
theorem aeF:aP Zp 261 0=some 0:=Xw
theorem aeG:aP Zp 261 1=some 1:=Xw
theorem aeH:aP Zp 261 3=some 3:=Xw
theorem ai0:fH Zp 220=some [(0,1),(1,1),(2,1)]:=Xw
theorem ahF:dU Zp 220=some [.int .u64 0,.int .u64 0,.slice none 0 0]:=Xw
structure mN where
  bY:Nat
  next:Nat
  au:List UInt8
def mN.cells (x:mN) (v0:Value):List Value :=
  [(.int .u64 x.bY)] ++ ([(.int .u64 x.next)] ++ ([v0]))
def mN.ok (x:mN):Prop:=x.bY<18446744073709551616/\x.next<18446744073709551616
theorem mN.one {x:mN} {v0:Value} (a:v0.oneCell'=true):(x.cells v0).all (fun b=>b.oneCell')=true:=(bT q (bT q (mW a)))
structure UN where
  n:Nat
def UN.cells (x:UN):List Value :=
  [(.int .u64 x.n)]
def UN.ok (x:UN):Prop:=x.n<18446744073709551616
theorem afD {x:UN} {k:Nat} (h:x.n=k):({n:=k}:UN)=x:=by subst h;rfl
theorem IU {c r:Bool} {p n:Nat} {m:UN} (h:(decide ((if c=true then p else n)=0),({n:=if c=true then p else n}:UN))=(r,m)) (d:r=false) (b:n=0) (e:True):c=true:=by
  subst b d;have a:=congrArg Prod.fst h;cases c
  · simp at a
  rfl
theorem PI {c r:Bool} {p n:Nat} {m:UN} (h:(decide ((if c=true then p else n)=0),({n:=if c=true then p else n}:UN))=(r,m)) (a:c=true):m={n:=p}:=by subst a;exact(congrArg Prod.snd h).symm
theorem PG {c r:Bool} {p n:Nat} {m:UN} (h:(decide ((if c=true then p else n)=0),({n:=if c=true then p else n}:UN))=(r,m)) (f:r=true) (e:p≠0):¬c=true/\(n=0->m.n=0):=by
  subst f;have b:=congrArg Prod.fst h;have a:=congrArg (fun z=>(Prod.snd z).n) h;cases c
  · simp at a;exact⟨by simp,fun d=>by rw[<- a,d]⟩
  simp at b;exact absurd b e
theorem ZJ (h:Up w Q) {v0:Value} {v:dx} (e:Pt dO 135 w Q v0 v) (x:Nat) (z:x<18446744073709551616) :
  Calls Zp 160 #[v0,(.int .u64 x)] w fun f o=>∃g:Bool,f = .returned (.bool g)/\Md [] w o/\gO v.b x=g:=by
 obtain⟨H,r,rfl,D,e,qx⟩:=e;obtain⟨y,rfl,m,j⟩:=eu qx;have d:=Md.refl [] w;have u:=h;refine enter (n:=13) Tryz.func160 q q q fun p=>ns (an q (nm q (st _ (iQ (a:=x) (b:=0) q q) (mv q ?_))));refine bX (t:=7) q (fun c=>?_) (fun c=>?_)
 ·have i:=dT c;refine sk c (sk c (sk c (sk c (st _ (bg q c q) (ar q ?_)))));exact bR (v:=(.bool true)) trivial q ⟨q,tV⟩ ⟨true,q,d,(by unfold gO;simp_all)⟩
 have i:=dF c;refine sg c (aM q) (sg c (aM q) (fM q q q c acV q (GR h ⟨_,_,q,D,e,dw m j⟩) ?_));rintro f P ⟨C,rfl,l,G,s⟩;refine rv ?_;have d:=d.k l;refine sg c (KE (a:=x) (b:=C) q q) (st _ (aZ q c q) (ar q ?_));exact bR (v:=(.bool ((decide (C<=x))))) trivial q ⟨q,tV⟩ ⟨(decide (C<=x)),q,d,(by unfold gO;simp_all)⟩
theorem ZK (B:Up w Q) {v0:Value} {v:dx} (A:Pt dO 135 w Q v0 v) (k:Int) (a8:(-9223372036854775808<=k/\k<9223372036854775808)) (p:Nat) (a9:p<18446744073709551616) (ba:v.b.length<=1000000) :
  Calls Zp 161 #[v0,(.int .i64 (k:Int)),(.int .u64 p)] w fun ad ap=>∃ao:Value,∃O:mN,∃ae:Nat,ad = .returned (.tuple #[.agg (mN.cells O ao).toArray,(.int .i64 ae)])/\Md [] w ap/\mN.ok O/\Ls eC ap Q ao O.au/\ae<9223372036854775808/\(({bY:=qM (v.h.n.getD 0 0) v.b k p,next:=tG (v.h.n.getD 0 0) v.b k p,au:=qN (v.h.n.getD 0 0) v.b k p}:mN),tF (v.h.n.getD 0 0) v.b k p)=(O,ae):=by
 obtain⟨y,aM,rfl,T,A,qx⟩:=A;obtain⟨bb,rfl,am,W⟩:=eu qx;have m:=Md.refl [] w;have a0:=B;have t:∀b,Q b->Q b:=fun _ h=>h;refine enter (n:=42) Tryz.func161 q q q fun aZ=>ns (bI ahF ?_);intro V bc i aE d e;have aU:y≠V:=(by have:=A.lt;omega);obtain⟨a7,r,f,L,P⟩:=jC B i aE d;have T:=r _ T A.lt;have t:=tT t f;have i:=lv m.size i;have W:=(W.sub r).o d;obtain⟨A,m⟩:=k2 d A m;have B:=P;have ak:bA [] w V:=.inr i;have e:bC _ _ (mN.cells (({bY:=0,next:=0,au:=[]}:mN)) SN) _:=e;have aH:mN.ok (({bY:=0,next:=0,au:=[]}:mN)):=(by exact⟨Xy,Xy⟩);refine an q (aD (nm q (st _ (lT (a:=k) (b:=4) q q) (nt ?_))));refine bJ q (fun z=>?_) (fun z=>?_)
 ·have ay:=dT z;refine ns (m2 q q (ax ahZ q (LB B ⟨_,_,q,T,A,dw am W⟩ p Xx Xx) ?_));rintro ad bd ⟨H,C,x,rfl,d,ai,G,aJ,aC⟩;refine rv ?_;obtain⟨A,e,B,m⟩:=k4 d A e B m;refine mv q (se q q (se q q (bI GX ?_)));intro g be N aF d F;have aW:y≠g:=(by have:=A.lt;omega);have aT:V≠g:=(by have:=e.lt;omega);obtain⟨ah,r,f,av,P⟩:=jC B N aF d;have L:=nQ L f;have t:=tT t f;have N:=lv m.size N;have e:=e.o d;have G:=(G.sub r).o d;have m:=m.k d;have B:=P;have aw:bA [] w g:=.inr N;have F:bC _ _ (fV.cells (GZ) SN) _:=F;have aX:fV.ok (GZ):=(by exact⟨Xy,Xy,Xy,Xy,Xy,Xy⟩);refine aK (us:=(fV.cells C H)) q q (by exact jO) (by exact fun u K=>aV (fV.one G.bB) u K) F (lB q) ?_;have aA:=F;intro a1 d F
  have I:∀b∈[g],¬ah b:=(hI av);have e:=e.md d Zz;have G:=G.md d I;have m:=m.step d (hI aw);have F:bC _ _ (fV.cells C H) _:=F;refine an q (ns (sf q FK (sl (u:=(.int .u64 C.bY)) q bh F q ?_)));have aN:C.bY<18446744073709551616:=ai.1;refine sf q aew (sl (u:=(.int .u64 C.b9)) q bh F q ?_);have aO:C.b9<18446744073709551616:=ai.2.1;refine sf q xq (sl (u:=H) q fJ F q (st _ (bO (us:=[[(.int .u64 C.bY)],[(.int .u64 C.b9)],[H]]) (cs:=(mN.cells (({bY:=C.bY,next:=C.b9,au:=C.au}:mN)) H)) [(0,0,1),(1,1,1),(2,2,1)] ahF ai0 q q ⟨q,q,(dK G.bB),tV⟩ ⟨q,q,q,tV⟩ q q) (mv q (aK (us:=(mN.cells (({bY:=C.bY,next:=C.b9,au:=C.au}:mN)) H)) q q (by exact xX) (by exact fun u K=>aV (mN.one G.bB) u K) e (lB q) ?_))));have X:=G;have U:=e;intro a2 d e;have I:∀b∈[V],¬ah b:=(hI L);have X:=X.md d I;have m:=m.step d (hI ak);have e:bC _ _ (mN.cells (({bY:=C.bY,next:=C.b9,au:=C.au}:mN)) H) _:=e;refine ar q (aI ?_);exact d8 (vs:=[(.agg (mN.cells (({bY:=C.bY,next:=C.b9,au:=C.au}:mN)) H).toArray),(.int .i64 x)]) trivial q ⟨⟨_,q,cr (cs:=(mN.cells (({bY:=C.bY,next:=C.b9,au:=C.au}:mN)) H)) (by exact xX) e⟩,q,tV⟩ q ⟨_,(({bY:=C.bY,next:=C.b9,au:=C.au}:mN)),x,q,m,(by exact⟨Xx,Xx⟩),(X.sub (fun b S _=>t b S)),Xh,(by obtain⟨Y,Z,aa,ab⟩:=alB (s:=v.h.n.getD 0 0) (b:=v.b) (p:=p) Xx;rw[Y,Z,aa,ab,aC])⟩
 have ay:=dF z;refine aL (aj (ns (m2 q q (ax akT q (WS B ⟨_,_,q,T,A,dw am W⟩ p Xx Xx) ?_))));rintro ad a3 ⟨J,j,al,rfl,d,ag,D,aG,az⟩;refine rv ?_;obtain⟨A,e,B,m⟩:=k4 d A e B m;refine mv q (se q q (se q q (bI WX ?_)));intro R a4 M aB d E;have aS:y≠R:=(by have:=A.lt;omega);have aR:V≠R:=(by have:=e.lt;omega);obtain⟨af,r,f,l,P⟩:=jC B M aB d;have L:=nQ L f;have t:=tT t f;have M:=lv m.size M;have e:=e.o d;have D:=(D.sub r).o d;have m:=m.k d;have B:=P;have o:bA [] w R:=.inr M;have E:bC _ _ (jh.cells (Zb) SN) _:=E;have aY:jh.ok (Zb):=(by exact⟨Xy,Xy,Xy⟩);refine aK (us:=(jh.cells j J)) q q (by exact oC) (by exact fun u K=>aV (jh.one D.bB) u K) E (lB q) ?_;have aq:=E;intro a5 d E;have I:∀b∈[R],¬af b:=(hI l);have e:=e.md d Zz
 have D:=D.md d I;have m:=m.step d (hI o);have E:bC _ _ (jh.cells j J) _:=E;refine an q (ns (sf q aeF (sl (u:=(.int .u64 j.bY)) q bh E q ?_)));have aP:j.bY<18446744073709551616:=ag.1;refine sf q aeG (sl (u:=(.int .u64 j.b9)) q bh E q ?_);have aQ:j.b9<18446744073709551616:=ag.2.1;refine sf q aeH (sl (u:=J) q fJ E q (st _ (bO (us:=[[(.int .u64 j.bY)],[(.int .u64 j.b9)],[J]]) (cs:=(mN.cells (({bY:=j.bY,next:=j.b9,au:=j.au}:mN)) J)) [(0,0,1),(1,1,1),(2,2,1)] ahF ai0 q q ⟨q,q,(dK D.bB),tV⟩ ⟨q,q,q,tV⟩ q q) (mv q (aK (us:=(mN.cells (({bY:=j.bY,next:=j.b9,au:=j.au}:mN)) J)) q q (by exact xX) (by exact fun u K=>aV (mN.one D.bB) u K) e (lB q) ?_))));have c:=D;have U:=e;intro a6 d e;have I:∀b∈[V],¬af b:=(hI L);have c:=c.md d I;have m:=m.step d (hI ak);have e:bC _ _ (mN.cells (({bY:=j.bY,next:=j.b9,au:=j.au}:mN)) J) _:=e;refine ar q ?_;exact d8 (vs:=[(.agg (mN.cells (({bY:=j.bY,next:=j.b9,au:=j.au}:mN)) J).toArray),(.int .i64 al)]) trivial q ⟨⟨_,q,cr (cs:=(mN.cells (({bY:=j.bY,next:=j.b9,au:=j.au}:mN)) J)) (by exact xX) e⟩,q,tV⟩ q ⟨_,(({bY:=j.bY,next:=j.b9,au:=j.au}:mN)),al,q,m,(by exact⟨Xx,Xx⟩),(c.sub (fun b S _=>t b S)),Xh,(by obtain⟨Y,Z,aa,ab⟩:=alC (s:=v.h.n.getD 0 0) (b:=v.b) (p:=p) Xx;rw[Y,Z,aa,ab,az])⟩
theorem akA:cu Zp 134=true:=Xw
theorem akL:cu Zp 160=true:=Xw
theorem akM:cu Zp 161=true:=Xw
theorem ae7:aP Zp 220 0=some 0:=Xw
theorem ae8:aP Zp 220 1=some 1:=Xw
theorem ae9:aP Zp 220 2=some 2:=Xw
theorem acv (E:Up w Q) (p:Nat) (ao:p<18446744073709551616) {J:Value} (x:mN) (af:mN.ok x) (M:Ls eC w Q J x.au) {B:Nat} (h:UN) (I:bC w B (UN.cells h) 46) (n2:¬Q B) (ag:UN.ok h) {Y:Value} {pl:Ly} (A:Pt (qR eC) 27 w Q Y pl) {j:Nat} (o:UN) (d:bC w j (UN.cells o) 46) (n4:¬Q j) (F:UN.ok o) (aw:B≠j) :
  Calls Zp 134 #[(.int .u64 p),.agg (mN.cells x J).toArray,.pointer (some ⟨B,0,none⟩),Y,.pointer (some ⟨j,0,none⟩)] w fun U Z=>∃X:Bool,∃N:UN,U = .returned (.bool X)/\Md [j] w Z/\bC Z j (UN.cells N) 46/\¬Q j/\UN.ok N/\(decide ((if(decide (x.bY=h.n) && decide (x.au=pl))=true then p else o.n)=0),({n:=if(decide (x.bY=h.n) && decide (x.au=pl))=true then p else o.n}:UN))=(X,N):=by
 obtain⟨P,ap,rfl,al,A,W⟩:=A;obtain⟨k,rfl,H⟩:=W;have am:=n4;have ad:bA [j] w j:=.inl Oy;have ak:=n2;have m:=Md.refl [j] w;have av:=E;refine enter (n:=21) Tryz.func134 q q q fun ah=>ns (dS (cs:=(mN.cells x J)) q q ?_);intro K ax L f C S;have R:B≠K:=(by have:=I.lt;omega);have T:j≠K:=(by have:=d.lt;omega);have ai:P≠K:=(by have:=A.lt;omega);have V:=E _ L;have L:=lv m.size L;obtain⟨M,I,d,H,A,E,m⟩:=k7 C M I d H A E m;refine an q (aD (ns (sf q ae7 (sl (u:=(.int .u64 x.bY)) q bh S q ?_))));have l:x.bY<18446744073709551616:=af.1;refine sl (u:=(.int .u64 h.n)) q bh I q ?_;have r:h.n<18446744073709551616:=ag;refine st _ (iQ (a:=x.bY) (b:=h.n) q q) (mv q ?_);refine bX (t:=12) q (fun e=>?_) (fun e=>?_)
 ·have aa:=dT e;refine sg e (aJ q ae9) (sg e ((aG q fJ S q).to (b:=J) q) (sg e ((aG q fJ A q).to (b:=k) q) (fM q q q e aid q (DN E M H) ?_)));rintro U ay ⟨c,rfl,C,aq⟩;refine rv ?_;obtain⟨d,m⟩:=k2 C d m;refine st _ (bg q e q) (nt ?_);refine bJ q (fun G=>?_) (fun G=>?_)
  ·have ab:=G;refine aH (mv q (bn q q bh q d (lB q) ?_));have ae:=d;intro az C d;have m:=m.step C (hI ad);obtain⟨s,O⟩:∃y,y=({o with n:=p}:UN):=⟨_,q⟩;have d:bC _ _ (UN.cells ({o with n:=p})) _:=d;rw[<- O]at d;have D:UN.ok s:=(by rw[O];exact(by unfold UN.ok;exact Xx));refine nt (ns (sl (u:=(.int .u64 s.n)) q bh d q ?_));have z:s.n<18446744073709551616:=D;refine st _ (iQ (a:=s.n) (b:=0) q q) (ar q ?_);exact bR (v:=(.bool ((decide (s.n=0))))) trivial q ⟨q,tV⟩ ⟨(decide (s.n=0)),s,q,m,d,n4,D,(by simp_all)⟩
  have ab:=G;refine aL (aj (ns (sl (u:=(.int .u64 o.n)) q bh d q ?_)));have g:o.n<18446744073709551616:=F;refine st _ (iQ (a:=o.n) (b:=0) q q) (ar q ?_);exact bR (v:=(.bool ((decide (o.n=0))))) trivial q ⟨q,tV⟩ ⟨(decide (o.n=0)),o,q,m,d,n4,F,(by simp_all)⟩
 have aa:=dF e;refine sk e (sk e (sk e (sk e (st _ (aZ q e q) (nt (iw q q (aL (aj (ns (sl (u:=(.int .u64 o.n)) q bh d q ?_))))))))));have i:o.n<18446744073709551616:=F;refine st _ (iQ (a:=o.n) (b:=0) q q) (ar q ?_);exact bR (v:=(.bool ((decide (o.n=0))))) trivial q ⟨q,tV⟩ ⟨(decide (o.n=0)),o,q,m,d,n4,F,(by simp_all)⟩
theorem Ua (B:Up w Q) {v0:Value} {v:dx} (m:Pt dO 135 w Q v0 v) (k:Int) (bG:(-9223372036854775808<=k/\k<9223372036854775808)) (p:Nat) (bK:p<18446744073709551616) {N:Nat} (h:UN) (I:bC w N (UN.cells h) 46) (n3:¬Q N) (bf:UN.ok h) {al:Value} {pl:Ly} (A:Pt (qR eC) 27 w Q al pl) {e:Nat} (o:UN) (s:bC w e (UN.cells o) 46) (n5:¬Q e) (bg:UN.ok o) (bM:v.b.length<=1000000) (bN:N≠e) (p2:o.n=0) :
  Calls Zp 133 #[v0,(.int .i64 (k:Int)),(.int .u64 p),.func (.func 134) #[] #[(.pointer (some ⟨N,0,none⟩)),al,(.pointer (some ⟨e,0,none⟩))]] w fun am M=>∃ak:Nat,∃aF:UN,am = .returned (.int .i64 ak)/\Md [e] w M/\ak<9223372036854775808/\bC M e (UN.cells aF) 46/\¬Q e/\UN.ok aF/\((CY (tG (v.h.n.getD 0 0) v.b k) (tF (v.h.n.getD 0 0) v.b k) (fun y=>decide (qM (v.h.n.getD 0 0) v.b k y=h.n) && decide (qN (v.h.n.getD 0 0) v.b k y=pl)) v.b.length p 0).2,({n:=(CY (tG (v.h.n.getD 0 0) v.b k) (tF (v.h.n.getD 0 0) v.b k) (fun y=>decide (qM (v.h.n.getD 0 0) v.b k y=h.n) && decide (qN (v.h.n.getD 0 0) v.b k y=pl)) v.b.length p 0).1}:UN))=(ak,aF):=by
 obtain⟨g,bt,rfl,H,m,qx⟩:=m;obtain⟨a0,rfl,aZ,F⟩:=eu qx;obtain⟨c,bu,rfl,S,A,bd⟩:=A;obtain⟨al,rfl,G⟩:=bd;have K:=n5;have a2:bA [e] w e:=.inl Oy;have Y:=n3;have j:=Md.refl [e] w;have bw:=B;have ag:∀b,Q b->Q b:=fun _ h=>h;have f:∀b,Q b->b<w.heap.size->Q b:=fun _ h _=>h;refine enter (n:=37) Tryz.func133 q q q fun ba=>ns (an q (ns (ck q (nt (aD (aS ?_))))));obtain⟨ak,l⟩:∃r,CY (tG (v.h.n.getD 0 0) v.b k) (tF (v.h.n.getD 0 0) v.b k) (fun y=>decide (qM (v.h.n.getD 0 0) v.b k y=h.n) && decide (qN (v.h.n.getD 0 0) v.b k y=pl)) v.b.length p 0=r:=⟨_,q⟩;have V:=l
 try simp only[List.nil_append]at l
 refine l9 (fun(x:UN) (E:Nat) (a:Nat)=>[(2,(.int .u64 E)),(9,(.int .u64 a)),(0,(.pointer (some ⟨g,0,none⟩))),(1,(.int .i64 (k:Int))),(3,(.func (.func 134) #[] #[(.pointer (some ⟨N,0,none⟩)),(.pointer (some ⟨c,0,none⟩)),(.pointer (some ⟨e,0,none⟩))]))]) (fun(x:UN) (E:Nat) (a:Nat) M=>∃O:Nat->Prop,(∀b,O b->Q b)/\(∀b,Q b->b<w.heap.size->O b)/\Up M O/\Md [e] w M/\bC M e (UN.cells x) 46/\UN.ok x/\bC M g (dx.cells v a0) 135/\bC M N (UN.cells h) 46/\bC M c [al] 27/\Ls eC M O a0 v.b/\Ls eC M O al pl/\¬O e/\O g/\¬O N/\O c/\x.n=0/\a<=v.b.length/\E<18446744073709551616/\CY (tG (v.h.n.getD 0 0) v.b k) (tF (v.h.n.getD 0 0) v.b k) (fun y=>decide (qM (v.h.n.getD 0 0) v.b k y=h.n) && decide (qN (v.h.n.getD 0 0) v.b k y=pl)) v.b.length E a=ak) (fun(x:UN) (E:Nat) (a:Nat)=>v.b.length-a) (x0:=o) (x1:=p) (x2:=0) ?_ ?_ ?_
 ·exact⟨q,q,q,q,q,tV⟩
 ·exact⟨Q,ag,f,B,j,s,bg,m,I,A,F,G,K,H,Y,S,p2,Xx,Xx,(by have ao:=l;exact ao)⟩
 clear j B ag f Y K H S I s F m G A;rintro x E a ba bO ⟨bF,ag,f,B,j,s,W,m,I,A,F,G,K,H,Y,S,ae,bp,bq,ai⟩;refine aD (ns (m2 q q (ax akL q (ZJ B ⟨_,_,q,H,m,dw aZ F⟩ E Xx) ?_)));rintro am bP ⟨bs,rfl,d,bb⟩;refine rv ?_;obtain⟨s,m,I,A,F,G,B,j⟩:=k8 d s m I A F G B j;have nf:=bb;refine st _ (gR q) (nt ?_);refine bJ q (fun ay=>?_) (fun ay=>?_)
 ·have a6:=wo ay;refine aL (aj (aS (aD (ns ?_))));have ap:¬(E=0\/v.b.length<=E):=(by have L:=nf;unfold gO at L;simp_all);refine m2 q q (st _ (KF (a:=E) (b:=a) q q) (nt ?_));refine bJ q (fun az=>?_) (fun az=>?_)
  ·have a7:=dT az;refine ns (ar q (aI (aU (aI (aU (aI ?_))))));exact bR (v:=(.int .i64 ((12:Nat):Int))) trivial q ⟨q,tV⟩ ⟨12,x,q,j,Xx,s,n5,W,(by have L:=V.trans (ai.symm.trans (agq ap Xx));rw[L];exact congrArg (Prod.mk _) (afD ae))⟩
  have a7:=dF az;refine aL (aj (ns (m2 q q (mv q (ax akM q (ZK B ⟨_,_,q,H,m,dw aZ F⟩ (k) Xx E Xx Xx) ?_)))));rintro am bQ ⟨P,Z,av,rfl,d,aT,C,br,bc⟩;refine rv ?_;obtain⟨s,m,I,A,F,G,B,j⟩:=k8 d s m I A F G B j;refine mv q (se q q (se q q (bI ahF ?_)));intro X bx T a1 d D;have bm:e≠X:=(by have:=s.lt;omega);have bj:g≠X:=(by have:=m.lt;omega);have bk:N≠X:=(by have:=I.lt;omega);have bl:c≠X:=(by have:=A.lt;omega);obtain⟨aw,ad,aq,a3,aG⟩:=jC B T a1 d;have K:=nQ K aq;have H:=ad _ H m.lt;have Y:=nQ Y aq;have S:=ad _ S A.lt;have ag:=tT ag aq;have f:=fun b be aX=>ad b (f b be aX) (lj aX j.size);have T:=lv j.size T;obtain⟨s,m,I,A⟩:=k4 d s m I A;have F:=(F.sub ad).o d;have G:=(G.sub ad).o d;have C:=(C.sub ad).o d;have j:=j.k d;have B:=aG;have a4:bA [] w X:=.inr T;have D:bC _ _ (mN.cells (({bY:=0,next:=0,au:=[]}:mN)) SN) _:=D;have bn:mN.ok (({bY:=0,next:=0,au:=[]}:mN)):=(by exact⟨Xy,Xy⟩);refine aK (us:=(mN.cells Z P)) q q (by exact xX) (by exact fun u bi=>aV (mN.one C.bB) u bi) D (lB q) ?_
  have a5:=D;intro bz d D;have U:∀b∈[X],¬aw b:=(hI a3);have s:=s.md d Zz;have m:=m.md d Zz;have I:=I.md d Zz;have A:=A.md d Zz;have F:=F.md d U;have G:=G.md d U;have C:=C.md d U;have B:=B.md d;have j:=j.step d (hI (bA.wid a4));have D:bC _ _ (mN.cells Z P) _:=D;refine an q (aD (ns ?_));have J:=bc;refine mv q (st _ (eU (a:=av) (b:=0) q q) (nt ?_));refine bJ q (fun aB=>?_) (fun aB=>?_)
  ·have a8:=dT aB;refine nm q (ar q (aI (aU (aI (aU (aI ?_))))));exact bR (v:=(.int .i64 av)) trivial q ⟨q,tV⟩ ⟨av,x,q,j,Xh,s,n5,W,(by have L:=V.trans (ai.symm.trans (aiY ap Xx (congrArg Prod.snd J) Xx));rw[L];exact congrArg (Prod.mk _) (afD ae))⟩
  have a8:=dF aB;refine aL (aj (aD (ns (m2 q q (st _ (bL (mN.cells Z P) q (by exact xX) D q) (lX (cs:=[(.pointer (some ⟨N,0,none⟩)),(.pointer (some ⟨c,0,none⟩)),(.pointer (some ⟨e,0,none⟩))]) q akA q (acv B E Xx Z aT C h I Y bf ⟨_,_,q,S,A,_,q,G⟩ x s K W Xx) ?_))))));rintro am bD ⟨bo,t,rfl,d,aQ,aR,aO,R⟩;refine rv ?_;have aW:∀i∈[e],bA [e] w i:=(hI a2);have U:∀i∈[e],¬aw i:=(hI K);have aJ:g∉[e]:=(bH (fun h=>K (h ▸ H)) Oy);have aM:N∉[e]:=(bH Xx Oy);have aN:c∉[e]:=(bH (fun h=>K (h ▸ S)) Oy);have aP:X∉[e]:=(bH Xx Oy);have m:=m.md d aJ;have I:=I.md d aM;have A:=A.md d aN;have F:=F.md d U;have G:=G.md d U;have D:=D.md d aP;have j:=j.step d aW;have B:=B.md d;have s:=aQ;have K:=aR;refine st _ (gR q) (nt ?_);refine bJ q (fun aC=>?_) (fun aC=>?_)
  ·have a9:=wo aC;refine ns (ar q (aI (aU (aI (aU (aI ?_))))));exact bR (v:=(.int .i64 ((0:Nat):Int))) trivial q ⟨q,tV⟩ ⟨0,t,q,j,Xx,s,n5,aO,(by have L:=V.trans (ai.symm.trans (acM ap Xx (by have aa:=congrArg (fun z:mN × Nat=>z.1.bY) J;have ab:=congrArg (fun z:mN × Nat=>z.1.au) J;have af:=congrArg (fun z:mN × Nat=>z.1.next) J;have ah:=congrArg Prod.snd J;simp only at aa ab af ah;omega) (by have aa:=congrArg (fun z:mN × Nat=>z.1.bY) J;have ab:=congrArg (fun z:mN × Nat=>z.1.au) J;have af:=congrArg (fun z:mN × Nat=>z.1.next) J;have ah:=congrArg Prod.snd J;simp only at aa ab af ah;have aE:=IU R (by simp_all) ae trivial;exact(by show(decide (qM (v.h.n.getD 0 0) v.b k E=h.n) && decide (qN (v.h.n.getD 0 0) v.b k E=pl))=true;rw[aa,ab];exact aE))));rw[L];exact congrArg (Prod.mk _) (PI R (IU R (by simp_all) ae trivial)).symm)⟩
  have a9:=wm aC;refine aL (aj (aH (sf q ae8 (sl (u:=(.int .u64 Z.next)) q bh D q ?_))));have bv:Z.next<18446744073709551616:=aT.2;refine mv q (ck q (ck q (aA (bE (aj ?_)))));refine j8 (x0:=t) (x1:=Z.next) (x2:=E) Xx ⟨(d9 q (by rfl)),(d9 q (by rfl)),q,q,q,tV⟩ ⟨aw,ag,f,B,j,s,aO,m,I,A,F,G,K,H,Y,S,((PG R (by simp_all) Xx).2 ae),Xx,Xx,(by have ao:=ai;have aa:=congrArg (fun z:mN × Nat=>z.1.bY) J;have ab:=congrArg (fun z:mN × Nat=>z.1.au) J;have af:=congrArg (fun z:mN × Nat=>z.1.next) J;have ah:=congrArg Prod.snd J;simp only at aa ab af ah;have aE:=(PG R (by simp_all) Xx).1;rw[ahY ap Xx Xx (by show ¬(decide (qM (v.h.n.getD 0 0) v.b k E=h.n) && decide (qN (v.h.n.getD 0 0) v.b k E=pl))=true;rw[aa,ab];exact aE) af]at ao;exact ao)⟩
 have a6:=wm ay;refine bW (aY (aY (cO (aj (ns (ar q ?_))))));exact bR (v:=(.int .i64 ((0:Nat):Int))) trivial q ⟨q,tV⟩ ⟨0,x,q,j,Xx,s,n5,W,(by have L:=V.trans (ai.symm.trans (acL (by have L:=nf;unfold gO at L;simp_all)));rw[L];exact congrArg (Prod.mk _) (afD ae))⟩
end Go.Proofs.YtlleafgaeeneoaaGreat
