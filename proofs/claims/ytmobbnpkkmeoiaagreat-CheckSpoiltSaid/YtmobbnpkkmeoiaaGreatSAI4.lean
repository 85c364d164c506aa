/- Part 4 of what the walk of a law stands on: VEr, VEr2, VEr3, VArr1, VArray, WName, WSplit, VSplit, WHash, VHash, VHs, VData2, VPay. No statement is proved here. -/
import Derived.Test.YtmobbnpkkmeoiaaGreatSAI3
import Derived.Test.YtmobbnpkkmeoiaaGreatRows
namespace Go.Proofs.YtmobbnpkkmeoiaaGreat
open Go Go.Wk Go.RowKit
set_option linter.unusedVariables false
set_option linter.unusedSimpArgs false
attribute [local irreducible] wpList wpQuiet wpStill iq Code.wp Calls bodyPost
variable {w:World} {Q:Nat→Prop}
theorem mX:gZ Zp 97 21=true:=Ym
theorem UX:iO Zp 180 2=true:=Ym
theorem ab3:xW Zp 180 2 16=true:=Ym
theorem xJ:bg Zp 180 0=some 0:=Ym
theorem WL:bg Zp 97 0=some 0:=Ym
theorem WM:bg Zp 97 3=some 3:=Ym
theorem qI:bg Zp 97 5=some 20:=Ym
theorem zG:jF Zp 95=true:=Ym
theorem akq:gY Zp 180=some [(0,1),(1,1)]:=Ym
theorem afZ:gY Zp 97=some [(0,1),(1,1),(2,1),(3,16),(19,1),(20,1)]:=Ym
theorem u95:Zp.underlying 95=some (.slice 180):=Ym
theorem aiV:fP Zp 180=some [.int .u64 0,.int .u64 0]:=Ym
theorem z97:fP Zp 97=some ([.int .u64 0,.int .u64 0,.int .u64 0] ++ (List.replicate 16 (.int .u8 0) ++ ([.int .u64 0,.slice none 0 0]))):=Ym
set_option maxRecDepth 100000 in
abbrev vG:gH:={seq:=0,cr:=0,mono:=0,bV:=pV,xor:=0,aD:=[]}
set_option maxHeartbeats 4000000 in
theorem YA (uQ:Up w Q) {v0:Value} {b:Ly} (h0:Ls fF w Q v0 b) (p:Nat) (a1:p<18446744073709551616) (p0:b.length≤1000000) :
  Calls Zp 121 #[v0,(.int .u64 p)] w fun en w'=>∃u0_0:Value,∃r0:gH,∃r1:Nat,en = .returned (.tuple #[.agg (gH.cells r0 u0_0).toArray,(.int .i64 r1)])∧Md [] w w'∧gH.ok r0∧Ls sZ w' Q u0_0 r0.aD∧r1<9223372036854775808∧kI b p=(r0,r1):=by
 have L0:=h0.gd;have M:=Md.refl [] w;have Db:=uQ;have tQ:∀b,Q b→Q b:=fun _ h=>h;have W:∀b,Q b→b<w.heap.size→Q b:=fun _ h _=>h;refine enter (n:=90) Tryz.func121 q q q fun B=>ns (cw z97 ?_);intro r w1 Bg C6 I D;obtain⟨Q2,sQ,sT,K,Ah⟩:=kR uQ Bg C6 I;replace tQ:=tT tQ sT;replace W:=fun b S hl=>sQ b (W b S hl) (lj hl M.size);replace Bg:=ly M.size Bg;replace h0:=(h0.sub sQ).o I;replace M:=M.k I;replace uQ:=Ah;clear Ah sQ sT;have t:ck [] w r:=.inr Bg;replace D:cg _ _ (gH.cells (vG) SN) _:=D;have Dn:gH.ok (vG):=(by exact⟨Om,Om,Om,q,Om⟩);refine an q (ns (m2 q q (ax ahY q (yh uQ h0 p Oh 3 Oh 48 Oh 16 Oh Oh Oh) ?_)));rintro en w4 ⟨Cq,o,Be,rfl,I,N,Do,A0⟩;refine rv ?_;obtain⟨D,uQ,M⟩:=k3 I D uQ M;refine mv q (se q q (se q q (dP q (an q (aP (nm q (st _ (fw (a:=Be) (b:=0) q q) (nt ?_))))))));refine cu q (fun Bu=>?_) (fun Bu=>?_)
 ·(have f:=dT Bu);refine ns (st _ (dw (us:=[]) (cs:=(gH.cells (vG) SN)) [] z97 afZ q q trivial trivial q q) (mv q (aT (us:=(gH.cells (vG) SN)) q q (by exact mX) (by exact fun u hu=>bI (gH.one q) u hu) D (lB q) ?_)));have X:=D;clear D;intro w5 I D;replace M:=M.step I (hI t);clear X;replace D:cg _ _ (gH.cells (vG) SN) _:=D;refine ar q (aS ?_);exact eB (vs:=[(.agg (gH.cells (vG) SN).toArray),(.int .i64 Be)]) trivial q ⟨⟨_,q,ey (cs:=(gH.cells (vG) SN)) (by exact mX) D⟩,q,tV⟩ q ⟨_,(vG),Be,q,M,Vx,(Ls.nil _ _ _),Vx,(ahN A0 f)⟩
 (have f:=dF Bu);refine bh (au (ns ?_));have bo:=ud A0 (Classical.not_not.1 f);refine mv q (ax ahZ q (CN uQ N Oh Oh) ?_);rintro en w6 ⟨Y,U,rfl,I,E,B0⟩;refine rv ?_;obtain⟨D,N,uQ,M⟩:=k4 I D N uQ M;refine an q (aP ?_);have ll:U.length=o.length/8:=(by rw[← B0,lR]);have J:=E;refine dZ [(0,true),(1,true),(2,true),(3,true),(4,true),(5,true),(6,true),(7,true),(8,true),(9,true),(10,true),(11,true),(12,true),(13,false)] [14] (fun w'=>Md [] w6 w') eD Ym ?_;intro w7 H;refine⟨H.mono Oq,?_⟩;have MC:=H.mono (T:=[]) Oq;refine mo q (mz (fun w' O=>bQ (i:=0) 1 q q jr fG E.eJ Oh) ?_);obtain⟨x8,Cl⟩:=fK (l:=U) (i:=0) Oh;obtain⟨c9,C2,Bh⟩:=J.get Cl;obtain⟨rfl,Di⟩:=C2;replace Bh:At _ Y (0*1) [(.int .u64 x8)]:=Bh;refine mz (fun w' O=>(dR (kk:=0*1) 0 q q bA (Bh.o O) q).to (b:=(.int .u64 x8)) q) (mo q (mz (fun w' O=>bQ (i:=1) 1 q q jr fG E.eJ Oh) ?_));obtain⟨v,Bo⟩:=fK (l:=U) (i:=1) Oh;obtain⟨Dp,Ce,Ap⟩:=J.get Bo;obtain⟨rfl,Cx⟩:=Ce;replace Ap:At _ Y (1*1) [(.int .u64 v)]:=Ap;refine mz (fun w' O=>(dR (kk:=1*1) 0 q q bA (Ap.o O) q).to (b:=(.int .u64 v)) q) (mo q (mz (fun w' O=>bQ (i:=2) 1 q q jr fG E.eJ Oh) ?_));obtain⟨Aa,Bp⟩:=fK (l:=U) (i:=2) Oh;obtain⟨Dq,Cf,Aq⟩:=J.get Bp
 obtain⟨rfl,Cy⟩:=Cf;replace Aq:At _ Y (2*1) [(.int .u64 Aa)]:=Aq;refine mz (fun w' O=>(dR (kk:=2*1) 0 q q bA (Aq.o O) q).to (b:=(.int .u64 Aa)) q) (mo q (mz (fun w' O=>bQ (i:=5) 1 q q jr fG E.eJ Oh) ?_));obtain⟨Ab,Bq⟩:=fK (l:=U) (i:=5) Oh;obtain⟨Dr,Cg,Ar⟩:=J.get Bq;obtain⟨rfl,Cz⟩:=Cg;replace Ar:At _ Y (5*1) [(.int .u64 Ab)]:=Ar;refine mz (fun w' O=>(dR (kk:=5*1) 0 q q bA (Ar.o O) q).to (b:=(.int .u64 Ab)) q) (mz (fun w' O=>dw (us:=[[(.int .u64 x8)],[(.int .u64 v)],[(.int .u64 Aa)],[(.int .u64 Ab)]]) (cs:=(gH.cells (({seq:=x8,cr:=v,mono:=Aa,bV:=pV,xor:=Ab,aD:=[]}:gH)) SN)) [(0,0,1),(1,1,1),(2,2,1),(4,19,1)] z97 afZ q q ⟨q,q,q,q,tV⟩ ⟨q,q,q,q,tV⟩ q q) ?_);obtain⟨D,N,E,uQ,M⟩:=k5 H D N E uQ M;refine mF ?_ rfl;refine cw z97 ?_;intro Z D3 Ay C7 I F;have Cu:=ly MC.size Ay;have Ct:r≠Z:=(by have:=D.lt;omega);obtain⟨Bs,sQ,sT,L,Ah⟩:=kR uQ Ay C7 I;replace K:=nQ K sT;replace tQ:=tT tQ sT;replace W:=fun b S hl=>sQ b (W b S hl) (lj hl M.size);replace Ay:=ly M.size Ay;replace D:=D.o I;replace N:=(N.sub sQ).o I;replace E:=(E.sub sQ).o I;obtain⟨M,MC⟩:=k2 I M MC;replace uQ:=Ah;clear Ah sQ sT;have Aj:ck [] w Z:=.inr Ay;replace F:cg _ _ (gH.cells (vG) SN) _:=F;have C8:gH.ok (vG):=(by exact⟨Om,Om,Om,q,Om⟩)
 refine aI ⟨q,MC,?_⟩;refine ej ?_;clear J;clear MC;refine aT (us:=(gH.cells (({seq:=x8,cr:=v,mono:=Aa,bV:=pV,xor:=Ab,aD:=[]}:gH)) SN)) q q (by exact mX) (by exact fun u hu=>bI (gH.one q) u hu) F (lB q) ?_;have k:=F;clear F;intro Dc I F;have hS:∀b∈[Z],¬Bs b:=(hI L);replace D:=D.md I Nv;replace N:=N.md I hS;replace E:=E.md I hS;replace uQ:=uQ.md I;replace M:=M.step I (hI Aj);clear k hS;replace F:cg _ _ (gH.cells (({seq:=x8,cr:=v,mono:=Aa,bV:=pV,xor:=Ab,aD:=[]}:gH)) SN) _:=F;refine aI ?_;clear Bh;clear Ap;clear Aq;clear Ar;refine au (aP ?_);have bp:=XT (x:=o) Oh;refine dZ (ml 4) [4] (fun w'=>Md [] Dc w') eD Ym ?_;intro D4 H;refine⟨H.mono Oq,?_⟩;refine mz (fun w' O=>aM q WM) (mz (fun w' O=>ir u34 nS q Om) (mo q (Go.Wk.m (p6 Cq 24 40) (fun w' O=>by exact pF 24 40 gX nS q N.eJ Oh Oh ⟨_,q⟩ ⟨_,q⟩) (ej ?_))));obtain⟨D,N,E,F,uQ,M⟩:=k6 H D N E F uQ M;have hT:=N.by.sub 24 40 Oh Oh;refine AY gX nS q q F hT (yR _) (by have:(gH.cells (({seq:=x8,cr:=v,mono:=Aa,bV:=pV,xor:=Ab,aD:=[]}:gH)) SN).length=21:=rfl;simp;omega) ?_;have k:=F;clear F hT;intro D5 I F;have hS:∀b∈[Z],¬Bs b:=(hI L);replace D:=D.md I Nv;replace E:=E.md I hS;replace uQ:=uQ.md I;replace M:=M.step I (hI Aj);clear k hS;rw[bp.1,abD bp.2]at F;obtain⟨Co,Al⟩:∃y,y=({({seq:=x8,cr:=v,mono:=Aa,bV:=pV,xor:=Ab,aD:=[]}:gH)with bV:=(o.drop 24).take 16}:gH):=⟨_,q⟩
 rw[← Al]at F;have Bj:=((by exact⟨Oh,Oh,Oh,(by rfl),Oh⟩):gH.ok (({seq:=x8,cr:=v,mono:=Aa,bV:=pV,xor:=Ab,aD:=[]}:gH)));have B3:gH.ok Co:=(by rw[Al];exact⟨Bj.1,Bj.2.1,Bj.2.2.1,bp.2,Bj.2.2.2.2⟩);refine nt (aP (ns (an q (bG ?_))));refine ni (fun(e:gH) (C:Value) (i:Nat)=>[(10,(.int .i64 i)),(4,(.pointer (some ⟨r,0,none⟩))),(5,(.int .i64 ((0:Nat):Int))),(8,Y),(9,(.pointer (some ⟨Z,0,none⟩)))]) (fun(e:gH) (C:Value) (i:Nat) w'=>∃Q':Nat→Prop,(∀b,Q' b→Q b)∧(∀b,Q b→b<w.heap.size→Q' b)∧Up w' Q'∧Md [] w w'∧cg w' Z (gH.cells e C) 97∧Ow sZ 180 (ck [] w) w' Q' C e.aD∧gH.ok e∧cg w' r (gH.cells (vG) SN) 97∧Ls ec w' Q' Y U∧¬Q' Z∧¬Q' r∧(i%2=0∧6≤i)∧i≤U.length∧BF o e i) (fun(e:gH) (C:Value) (i:Nat)=>U.length-i) (x0:=Co) (x1:=SN) (x2:=6) ?_ ?_ ?_
 ·exact⟨q,q,q,q,q,tV⟩
 ·exact⟨Bs,tQ,W,uQ,M,F,(by(simp only[Al];exact Ow.nil _ _ _ _ _)),B3,D,E,L,K,Oh,Oh,(YD B0.symm Cl Bo Bp Bq  q Al)⟩
 clear M uQ tQ W K L h0 D N E F
 rintro e C i B Cr ⟨Bt,tQ,W,uQ,M,F,A,c,D,E,L,K,Dj,Dk,Ag⟩;refine aP (ns (m2 q q (sL q jr E.eJ (st _ (gy (a:=i) (b:=U.length) q q) (nt ?_)))));refine cu q (fun Bv=>?_) (fun Bv=>?_)
 ·(have B9:=dT Bv);refine bh (au (aP (bG ?_)));have il:=Ag.aD;replace il:e.aD.length=(i-6)/2:=by rw[il,qC]
  have G:=A;have V:=F;have J:=E;have Cc:∀b∈(ah C).toList,¬Bt b:=(rN A);refine dZ [(0,true),(1,true),(2,true),(3,true),(4,true),(5,true),(6,true),(7,true),(8,true),(9,true),(10,true),(11,true),(12,false)] [13,14,15] (fun w'=>Md (ah C).toList Cr w') eD Ym ?_;intro D6 H;refine⟨H.mono Oq,?_⟩;have MC:=H.mono (T:=(ah C).toList) Oq;have Bf:∀b,ah C=some b→b∈(ah C).toList∨Cr.heap.size≤b:=fun b S=>Or.inl (by simp[S]);refine mz (fun w' O=>aM q qI) (mz (fun w' O=>(aC q zG (V.md O (aW G V)) q).to (b:=C) q) (mo q (mo q (mz (fun w' O=>bQ (i:=i) 1 q q jr fG E.eJ Oh) ?_))));obtain⟨Ac,A9⟩:=fK (l:=U) (i:=i) Oh;obtain⟨Ds,Ch,As⟩:=J.get A9;obtain⟨rfl,C0⟩:=Ch;replace As:At _ Y (i*1) [(.int .u64 Ac)]:=As;refine mz (fun w' O=>(dR (kk:=i*1) 0 q q bA (As.md O (J.yQ A9 Cc)) q).to (b:=(.int .u64 Ac)) q) (mo q (mo q (mz (fun w' O=>rA (a:=i) (b:=1) q q Oh) (mz (fun w' O=>bQ (i:=i+1) 1 q q jr fG E.eJ Oh) ?_))));obtain⟨Ad,Ba⟩:=fK (l:=U) (i:=i+1) Oh;obtain⟨Du,Ci,Au⟩:=J.get Ba;obtain⟨rfl,C1⟩:=Ci;replace Au:At _ Y ((i+1)*1) [(.int .u64 Ad)]:=Au;refine mz (fun w' O=>(dR (kk:=(i+1)*1) 0 q q bA (Au.md O (J.yQ Ba Cc)) q).to (b:=(.int .u64 Ad)) q) (mz (fun w' O=>dw (us:=[[(.int .u64 Ac)],[(.int .u64 Ad)]]) (cs:=(kg.cells (({bn:=Ac,cQ:=Ad}:kg)))) [(0,0,1),(1,1,1)] aiV akq q q ⟨q,q,tV⟩ ⟨q,q,tV⟩ q q) ?_);obtain⟨A,F⟩:=k2 H A F
  obtain⟨D,E,uQ,M⟩:=k4 H D E uQ M;refine mF ?_ rfl;refine bO [(kg.cells (({bn:=Ac,cQ:=Ad}:kg)))] u95 ab3 Om Om q q ⟨q,tV⟩ ⟨q,tV⟩ q Om ?_;intro De D7 B8 Dm I A5;have Cs:=uQ _ B8;obtain⟨A,F,D,E,uQ,M,MC⟩:=k7 I A F D E uQ M MC;replace A5:=Ls.e5 (m:=1) (R:=Bt) (T:=sZ) (xs:=[({bn:=Ac,cQ:=Ad}:kg)]) A5 ⟨_,_,q,(XI (by exact⟨Oh,Oh⟩)),q⟩ q Om Cs;refine aI ⟨q,MC,?_⟩;refine ej ?_;clear J V G;clear MC;refine gu (sz:=2) (by rfl) u95 ab3 q q A A5 (fun _ h _=>h) uQ (ck.new M) Wy Wy ?_;intro Cp D8 B6 sQ sT Ah g I hS _ C3;have P:=A;clear A;replace L:=nQ L sT;replace K:=nQ K sT;replace tQ:=tT tQ sT;replace W:=fun b S hl=>sQ b (W b S hl) (lj hl M.size);replace F:=F.md I (aW P F);replace D:=D.md I (aW P D);replace E:=(E.sub sQ).md I hS;replace uQ:=uQ.md I;replace M:=M.ez I (fun b S=>(P.2 b S).1);replace uQ:=Ah;clear Ah sQ sT hS C3;refine sf q qI (bK q q zG g.bZ F (lB q) ?_);have k:=F;clear F;intro D9 I F;have hS:∀b∈[Z],¬B6 b:=(hI L);replace D:=D.md I Nv;replace E:=E.md I hS;replace g:=g.md I (aB k g) hS;replace uQ:=uQ.md I;replace M:=M.step I (hI Aj);clear k hS;obtain⟨B5,Am⟩:∃y,y=({e with aD:=e.aD ++ ([({bn:=Ac,cQ:=Ad}:kg)])}:gH):=⟨_,q⟩
  replace F:cg _ _ (gH.cells ({e with aD:=e.aD ++ ([({bn:=Ac,cQ:=Ad}:kg)])}) Cp) _:=F;rw[← Am]at F;have B4:gH.ok B5:=(by rw[Am];exact⟨c.1,c.2.1,c.2.2.1,c.2.2.2.1,c.2.2.2.2⟩);rw[show e.aD ++ ([({bn:=Ac,cQ:=Ad}:kg)])=B5.aD by rw[Am]]at g;refine aI ?_;clear As;clear Au;refine bX (au (aQ (mv q (st _ (rA (a:=i) (b:=2) q q Oh) (an q ?_)))));refine kF (x0:=B5) (x1:=Cp) (x2:=(i+2)) Oh ⟨(fu q Oh),q,q,q,q,tV⟩ ⟨B6,tQ,W,uQ,M,F,g,B4,D,E,L,K,Oh,Oh,(Ag.step Oh Oh B0.symm A9 Ba Am)⟩
 (have B9:=dF Bv);refine dY (bU (bU (eT (au (aP (ns ?_))))));have il:=Ag.aD;replace il:e.aD.length=(i-6)/2:=by rw[il,qC]
 have ex:e.seq=eY o 0∧e=r7 o:=⟨Ag.seq,Ag.eq Oh Oh Oh⟩;refine sf q WL (sl (u:=(.int .u64 e.seq)) q bA F q ?_);have Dz:e.seq<18446744073709551616:=c.1;refine st _ (gw (a:=e.seq) (b:=0) q q) (nt ?_);refine cu q (fun Bw=>?_) (fun Bw=>?_)
 ·(have Ao:=dT Bw);refine ns (st _ (dw (us:=[]) (cs:=(gH.cells (vG) SN)) [] z97 afZ q q trivial trivial q q) (aT (us:=(gH.cells (vG) SN)) q q (by exact mX) (by exact fun u hu=>bI (gH.one q) u hu) D (lB q) ?_));have X:=D;clear D;intro Ea I D;replace M:=M.step I (hI t);clear X;replace D:cg _ _ (gH.cells (vG) SN) _:=D;refine ar q (aS ?_);exact eB (vs:=[(.agg (gH.cells (vG) SN).toArray),(.int .i64 ((13:Nat):Int))]) trivial q ⟨⟨_,q,ey (cs:=(gH.cells (vG) SN)) (by exact mX) D⟩,q,tV⟩ q ⟨_,(vG),13,q,M,Vx,(Ls.nil _ _ _),Oh,((KY A0 f).trans (ahL (by rw[← ex.1];exact Ao)))⟩
 (have Ao:=dF Bw);refine bh (au (aP (ns (an q (bG ?_)))));refine xu (fun(d:Nat)=>[(11,(.int .i64 d)),(4,(.pointer (some ⟨r,0,none⟩))),(9,(.pointer (some ⟨Z,0,none⟩)))]) (fun(d:Nat) w'=>∃Q':Nat→Prop,(∀b,Q' b→Q b)∧(∀b,Q b→b<w.heap.size→Q' b)∧Up w' Q'∧Md [] w w'∧cg w' r (gH.cells (vG) SN) 97∧cg w' Z (gH.cells e C) 97∧Ow sZ 180 (ck [] w) w' Q' C e.aD∧¬Q' r∧¬Q' Z∧1≤d∧(∀j,1≤j→j<d→∀y z,e.aD[j]? = some y→e.aD[j-1]? = some z→z.bn<y.bn)) (fun(d:Nat)=>e.aD.length-d) (x0:=1) ?_ ?_ ?_
 ·exact⟨q,q,q,tV⟩
 ·exact⟨Bt,tQ,W,uQ,M,D,F,A,K,L,Oh,(by intro j h1 h2;omega)⟩
 clear M uQ tQ W L K A F D E
 rintro d B Dd ⟨B7,tQ,W,uQ,M,D,F,A,K,L,Dl,Br⟩;refine aP (nm q (sf q qI (sl (u:=C) q zG F q (sL q u95 A.eJ (st _ (gy (a:=d) (b:=e.aD.length) q q) (nt ?_))))));refine cu q (fun Bx=>?_) (fun Bx=>?_)
 ·(have Ca:=dT Bx);refine bh (au (aP (bG (aP ?_))));have V:=F;have G:=A;refine dZ (ml 13) [13] (fun w'=>Md [] Dd w') eD Ym ?_;intro Eb H;refine⟨H.mono Oq,?_⟩;have MC:=H.mono (T:=[]) Oq;refine mz (fun w' O=>aM q qI) (mz (fun w' O=>(aC q zG (V.o O) q).to (b:=C) q) (mo q (mz (fun w' O=>bQ (i:=d) 2 q q u95 UX A.eJ Oh) ?_)));obtain⟨Bk,Bb⟩:=fK (l:=e.aD) (i:=d) Oh;obtain⟨Dv,Cj,Ae⟩:=G.get Bb;obtain⟨_,rfl,C9⟩:=vD Cj;replace Ae:At _ C (d*2) (kg.cells Bk):=Ae;refine mz (fun w' O=>jJ q (Ae.o O) xJ) (mz (fun w' O=>(dR (kk:=d*2) 0 q q bA (Ae.o O) q).to (b:=(.int .u64 Bk.bn)) q) ?_);have D0:Bk.bn<18446744073709551616:=C9.1;refine mz (fun w' O=>aM q qI) (mz (fun w' O=>(aC q zG (V.o O) q).to (b:=C) q) (mo q (mz (fun w' O=>rS (a:=d) (b:=1) q q Oh) (mz (fun w' O=>bQ (i:=d-1) 2 q q u95 UX A.eJ Oh) ?_))));obtain⟨Bl,Bc⟩:=fK (l:=e.aD) (i:=d-1) Oh;obtain⟨Dw,Ck,Af⟩:=G.get Bc;obtain⟨_,rfl,Da⟩:=vD Ck;replace Af:At _ C ((d-1)*2) (kg.cells Bl):=Af;refine mz (fun w' O=>jJ q (Af.o O) xJ) (mz (fun w' O=>(dR (kk:=(d-1)*2) 0 q q bA (Af.o O) q).to (b:=(.int .u64 Bl.bn)) q) ?_);have D1:Bl.bn<18446744073709551616:=Da.1;refine ej ?_;obtain⟨D,F,A,uQ⟩:=k4 H D F A uQ
  replace M:=M.k H;clear V G;clear MC;refine st _ (FN (a:=Bk.bn) (b:=Bl.bn) q q) (aI ?_);clear Ae;clear Af;refine au ?_;refine cu q (fun Bz=>?_) (fun Bz=>?_)
  ·(have Cb:=dT Bz);refine ns (st _ (dw (us:=[]) (cs:=(gH.cells (vG) SN)) [] z97 afZ q q trivial trivial q q) (aT (us:=(gH.cells (vG) SN)) q q (by exact mX) (by exact fun u hu=>bI (gH.one q) u hu) D (lB q) ?_));have X:=D;clear D;intro Ec I D;replace M:=M.step I (hI t);clear X;replace D:cg _ _ (gH.cells (vG) SN) _:=D;refine ar q (bE (aS (aS (bE (aS ?_)))));exact eB (vs:=[(.agg (gH.cells (vG) SN).toArray),(.int .i64 ((11:Nat):Int))]) trivial q ⟨⟨_,q,ey (cs:=(gH.cells (vG) SN)) (by exact mX) D⟩,q,tV⟩ q ⟨_,(vG),11,q,M,Vx,(Ls.nil _ _ _),Oh,((KY A0 f).trans (ahK ex.2 Ao Oh Bb Bc Oh))⟩
  (have Cb:=dF Bz);refine bh (bX (au (aQ (mv q (st _ (rA (a:=d) (b:=1) q q Oh) (an q ?_))))));refine uG (x0:=(d+1)) Oh ⟨(fu q Oh),q,q,tV⟩ ⟨B7,tQ,W,uQ,M,D,F,A,K,L,Oh,(by intro j h1 h2 y z hy hz;rcases Nat.lt_or_ge j d with hj|hj;exact Br j h1 hj y z hy hz;(have Cw:j=d:=Oh);subst Cw;rw[Bb]at hy;rw[Bc]at hz;cases hy;cases hz;omega)⟩
 (have Ca:=dF Bx);refine dY (bU (bU (eT (au (ns (st _ (dh (gH.cells e C) q (by exact mX) F q) (aT (us:=(gH.cells e C)) q q (by exact mX) (by exact fun u hu=>bI (gH.one A.bZ) u hu) D (lB q) ?_)))))));have Av:=A;have X:=D;clear D;intro Ed I D;have hS:∀b∈[r],¬B7 b:=(hI K);replace Av:=Av.md I (aB X Av) hS;replace M:=M.step I (hI t);clear X hS;replace D:cg _ _ (gH.cells e C) _:=D;refine ar q ?_;exact eB (vs:=[(.agg (gH.cells e C).toArray),(.int .i64 ((0:Nat):Int))]) trivial q ⟨⟨_,q,ey (cs:=(gH.cells e C)) (by exact mX) D⟩,q,tV⟩ q ⟨_,e,0,q,M,c,(Av.ls (fun b S=>tQ b S) (ck.up Db)),Oh,((KY A0 f).trans (abE ex.2 Ao Oh Br))⟩
theorem ajy:ea Zp 121=true:=Ym
theorem ajR:ea Zp 78=true:=Ym
theorem GK (uQ:Up w Q) {v0:Value} {v:eR} (h0:Pt fA 73 w Q v0 v) (p:Nat) (a1:p<18446744073709551616) (p0:v.b.length≤1000000) :
  Calls Zp 78 #[v0,(.int .u64 p)] w fun en w'=>(∃u0_0:Value,∃r0:gH,en = .returned (.agg (gH.cells r0 u0_0).toArray)∧Md [] w w'∧gH.ok r0∧Ls sZ w' Q u0_0 r0.aD∧ig (v.h.n.getD 0 0) v.b p=(r0,0))∨∃cp:Nat,en = .panicked (FI (.iface 203 (.agg #[.int .i64 cp])))∧(cp≠0∧cp<9223372036854775808)∧Md [] w w'∧(ig (v.h.n.getD 0 0) v.b p).2=cp:=by
 obtain⟨e,Ad,rfl,N,h0,qn⟩:=h0;obtain⟨v1,rfl,q2,H⟩:=eL qn;have M:=Md.refl [] w;have Ag:=uQ;have k:∀b,Q b→Q b:=fun _ h=>h;refine enter (n:=22) Tryz.func78 q q q fun B=>ns (cw z97 ?_);intro P w4 S y D C;have r:e≠P:=(by have:=h0.lt;omega);obtain⟨Q5,a,c,I,O⟩:=kR uQ S y D;replace N:=a _ N h0.lt;replace k:=tT k c;replace S:=ly M.size S;replace H:=(H.sub a).o D;obtain⟨h0,M⟩:=k2 D h0 M;replace uQ:=O;clear O a c;have Y:ck [] w P:=.inr S;replace C:cg _ _ (gH.cells (vG) SN) _:=C;have Ab:gH.ok (vG):=(by exact⟨Om,Om,Om,q,Om⟩);refine nt (ns (m2 q q (j4 afi q (qT uQ ⟨_,_,q,N,h0,dV q2 H⟩ p Oh) ?_)));rintro en w7 (⟨rfl,D,U⟩|⟨cp,rfl,V,D,U⟩)
 rotate_left
 ·exact .inr ⟨_,q,gV (Or.inr ⟨cp,q,V,M.k D,(ahM U V.1)⟩)⟩
 refine .inl ⟨_,q,?_⟩;obtain⟨H,h0,C,uQ,M⟩:=k5 D H h0 C uQ M;refine nt (nm q (sn q (sf q sK (sl (u:=v1) q gD h0 q (mv q (ax ajy q (YA uQ H p Oh Oh) ?_))))));rintro en w8 ⟨E,F,l,rfl,D,W,A,Ac,f⟩;refine rv ?_;obtain⟨h0,C,uQ,M⟩:=k4 D h0 C uQ M;refine mv q (se q q (se q q (cw z97 ?_)));intro R w9 T z D G;have t:e≠R:=(by have:=h0.lt;omega);have o:P≠R:=(by have:=C.lt;omega);obtain⟨d,a,c,X,O⟩:=kR uQ T z D;replace I:=nQ I c;replace k:=tT k c;replace T:=ly M.size T;replace C:=C.o D;replace A:=(A.sub a).o D;replace M:=M.k D;replace uQ:=O;clear O a c;have Z:ck [] w R:=.inr T;replace G:cg _ _ (gH.cells (vG) SN) _:=G;have Aa:gH.ok (vG):=(by exact⟨Om,Om,Om,q,Om⟩);refine aT (us:=(gH.cells F E)) q q (by exact mX) (by exact fun u x=>bI (gH.one A.bZ) u x) G (lB q) ?_;have j:=G;clear G;intro Ai D G
 have g:∀b∈[R],¬d b:=(hI X);replace C:=C.md D Nv;replace A:=A.md D g;replace uQ:=uQ.md D;replace M:=M.step D (hI Z);clear j g;replace G:cg _ _ (gH.cells F E) _:=G;refine an q (nm q (j4 abP q (sA uQ l Oh) ?_));rintro en Aj (⟨rfl,D,K⟩|⟨cp,rfl,V,D,K⟩)
 rotate_left
 ·exact .inr ⟨_,q,gV (Or.inr ⟨cp,q,V,M.k D,(by rw[abC U f];exact K)⟩)⟩
 refine .inl ⟨_,q,?_⟩;obtain⟨C,A,G,M⟩:=k4 D C A G M;refine nt (ns (st _ (dh (gH.cells F E) q (by exact mX) G q) (aT (us:=(gH.cells F E)) q q (by exact mX) (by exact fun u x=>bI (gH.one A.bZ) u x) C (lB q) ?_)));have L:=A;have i:=C;clear C;intro Ak D C;have g:∀b∈[P],¬d b:=(hI I);replace L:=L.md D g;replace M:=M.step D (hI Y);clear i g;replace C:cg _ _ (gH.cells F E) _:=C;refine nt (iP ?_);exact d9 (v:=(.agg (gH.cells F E).toArray)) trivial q ⟨⟨_,q,ey (cs:=(gH.cells F E)) (by exact mX) C⟩,tV⟩ (Or.inl ⟨_,F,q,M,W,(L.sub (fun b J _=>k b J)),(by rw[abC U f,K])⟩)
theorem aa9 (uQ:Up w Q) {v0:Value} {v:eR} (h0:Pt (tPt fA 73) 46 w Q v0 v) {v1:Value} {p:Nat} (h1:Pt ec 26 w Q v1 p) {b2:Nat} {v2_0:Value} (m:gH) (h2:cg w b2 (gH.cells m v2_0) 97) (n2:¬Q b2) (a2_0:gH.ok m) (a2_1:Ls sZ w Q v2_0 m.aD) (p0:v.b.length≤1000000) :
  Calls Zp 77 #[v0,v1,.pointer (some ⟨b2,0,none⟩)] w fun en w'=>(∃m29:gH,∃u52_0:Value,en = .returned (.tuple #[])∧Md [b2] w w'∧cg w' b2 (gH.cells m29 u52_0) 97∧¬Q b2∧gH.ok m29∧Ls sZ w' Q u52_0 m29.aD∧ig (v.h.n.getD 0 0) v.b p=(m29,0))∨∃cp:Nat,en = .panicked (FI (.iface 203 (.agg #[.int .i64 cp])))∧(cp≠0∧cp<9223372036854775808)∧Md [b2] w w'∧cg w' b2 (gH.cells m v2_0) 97∧(ig (v.h.n.getD 0 0) v.b p).2=cp:=by
 obtain⟨V,g,rfl,L,h0,qn⟩:=h0;obtain⟨v1,rfl,Z⟩:=qn;obtain⟨W,i,rfl,N,h1,c⟩:=h1;obtain⟨rfl,f⟩:=c;have C:=n2;have P:ck [b2] w b2:=.inl Oq;have T:V≠b2:=fun h=>C (h ▸ L);have U:W≠b2:=fun h=>C (h ▸ N);have M:=Md.refl [b2] w;have o:=uQ;have l:∀b,Q b→Q b:=fun _ h=>h;refine enter (n:=6) Tryz.func77 q q q ?_;intro B;refine aQ (sl (u:=v1) q mG h0 q ?_);have J:=Z;obtain⟨K,d,rfl,E,J,R⟩:=J;obtain⟨r,rfl,k,a⟩:=eL R;have O:K≠b2:=fun h=>C (h ▸ E);refine sl (u:=(.int .u64 p)) q bA h1 q (j4 ajR q (GK uQ ⟨_,_,q,E,J,dV k a⟩ p Oh Oh) ?_);rintro en t (⟨D,F,rfl,H,G,A,I⟩|⟨cp,rfl,Y,H,I⟩)
 rotate_left
 ·exact .inr ⟨_,q,gV (Or.inr ⟨cp,q,Y,M.k H,h2.o H,I⟩)⟩
 refine .inl ⟨_,q,?_⟩;obtain⟨h2,M⟩:=k2 H h2 M;refine aT (us:=(gH.cells F D)) q q (by exact mX) (by exact fun u j=>bI (gH.one A.bZ) u j) h2 (lB q) ?_;have X:=h2;clear h2;intro x H h2;have e:∀b∈[b2],¬Q b:=(hI C);replace A:=A.md H e;replace M:=M.step H (hI P);clear X e;replace h2:cg _ _ (gH.cells F D) _:=h2;refine aI ?_;exact eB (vs:=[]) trivial q trivial q (Or.inl ⟨F,_,q,M,h2,n2,G,(A.sub (fun b S _=>l b S)),I⟩)
theorem als:ea Zp 77=true:=Ym
theorem GH (uQ:Up w Q) {v0:Value} {v:eR} (h0:Pt fA 73 w Q v0 v) (p:Nat) (a1:p<18446744073709551616) (p0:v.b.length≤1000000) :
  Calls Zp 41 #[v0,(.int .u64 p)] w fun en w'=>∃u0_0:Value,∃r0:gH,∃r1:Nat,en = .returned (.tuple #[.agg (gH.cells r0 u0_0).toArray,(.int .i64 r1)])∧Md [] w w'∧gH.ok r0∧Ls sZ w' Q u0_0 r0.aD∧r1<9223372036854775808∧ig (v.h.n.getD 0 0) v.b p=(r0,r1):=by
 refine enter (n:=10) (vs:=[v0,.int .u64 p]) Tryz.func41 q q q ?_;intro B;have t:v0.oneCell'=true:=(by obtain⟨b,c,rfl,_⟩:=h0;rfl);refine ns (gO (cs:=[v0]) q (fU t) ?_);intro i w2 g2 l2 A F;have q2:=uQ _ g2;obtain⟨h0,uQ⟩:=k2 A h0 uQ;have M:=A;refine gO (cs:=[.int .u64 p]) q q ?_;intro j w3 g3 l3 A I;have q3:=uQ _ g3;obtain⟨h0,F,uQ,M⟩:=k4 A h0 F uQ M;refine cw z97 ?_;intro E g g4 l4 A d;obtain⟨V,s4,t4,n4,u4⟩:=kR uQ g4 l4 A;have a:=ly M.size g4;have y:=s4 _ q2 F.lt;have z:=s4 _ q3 I.lt;replace h0:=(h0.sub s4).o A;obtain⟨F,I,M⟩:=k3 A F I M;replace d:cg g E (gH.cells wG SN) 97:=d;refine an q (ns (st _ (lU (vs:=[.pointer (some ⟨i,0,none⟩),.pointer (some ⟨j,0,none⟩),.pointer (some ⟨E,0,none⟩)]) q) ?_));have hk:gH.ok wG:=⟨by decide,by decide,by decide,q,by decide⟩
 refine ax YL q (sw (f:=77) (cs:=[.pointer (some ⟨i,0,none⟩),.pointer (some ⟨j,0,none⟩),.pointer (some ⟨E,0,none⟩)]) (S:=[E])
  (X:=fun w'=>∃r u,cg w' E (gH.cells r u) 97∧gH.ok r∧Ls sZ w' V u r.aD∧ig (v.h.n.getD 0 0) v.b p=(r,0))
  (Y:=fun c w'=>cg w' E (gH.cells wG SN) 97∧c<9223372036854775808∧ig (v.h.n.getD 0 0) v.b p=(wG,c))
  (R:=fun O e w'=>(∃N Z,e = .returned (.tuple #[])∧Md [E] O w'∧cg w' E (gH.cells N Z) 97∧gH.ok N∧Ls sZ w' (fun x=>V x∧(x<g.heap.size∨O.heap.size≤x)) Z N.aD∧ig (v.h.n.getD 0 0) v.b p=(N,0))∨∃L:Nat,e = .panicked (FI (.iface 203 (.agg #[.int .i64 L])))∧(L≠0∧L<9223372036854775808)∧Md [E] O w'∧cg w' E (gH.cells wG SN) 97∧(ig (v.h.n.getD 0 0) v.b p).2=L)
  als (hI l4) ?_ ?_) ?_
 ·intro O A
  have uX:Up O (fun x=>V x∧(x<g.heap.size∨O.heap.size≤x)):=fun x C=>⟨u4 x (ly A.size C),.inr C⟩;have sX:∀x,V x→x<g.heap.size→(V x∧(x<g.heap.size∨O.heap.size≤x)):=fun x C H=>⟨C,.inl H⟩;refine(aa9 uX (v0:=.pointer (some ⟨i,0,none⟩)) (v1:=.pointer (some ⟨j,0,none⟩)) (v:=v) (p:=p) ⟨i,[v0],q,⟨y,.inl F.lt⟩,F.o A,v0,q,(h0.sub sX).o A⟩ ⟨j,_,q,⟨z,.inl I.lt⟩,I.o A,q,a1⟩ wG (d.o A) (fun h=>n4 h.1) hk (Ls.nil _ _ _) p0).mono ?_;rintro e w' (⟨N,Z,l,D,G,_,U,H,J⟩|⟨L,l,W,D,G,J⟩)
  ·exact .inl ⟨N,Z,l,D,G,U,H,J⟩
  exact .inr ⟨L,l,W,D,G,J⟩
 ·rintro O e w1 A (⟨N,Z,rfl,D,G,U,H,J⟩|⟨L,rfl,W,D,G,J⟩)
  ·refine⟨D,.inl ⟨q,fun b Ab gb lb K=>⟨N,Z,G.tC K Oh,U,(H.md K (by intro x C h;simp at C;subst C;omega)).sub (fun x C _=>C.1),J⟩⟩⟩
  exact⟨D,.inr ⟨L,q,fun b Ab gb lb K=>⟨G.tC K Oh,W.2,aeZ J W.1⟩⟩⟩
 rintro en w5 ⟨c,rfl,A,T⟩;refine rv ?_;replace M:=M.step A (by intro x C;simp at C;subst C;exact .inr a)
 obtain⟨r,u,G,o,H,W,J⟩:∃r u,cg w5 E (gH.cells r u) 97∧gH.ok r∧Ls sZ w5 V u r.aD∧c<9223372036854775808∧ig (v.h.n.getD 0 0) v.b p=(r,c):=by
  rcases T with⟨rfl,r,u,k,F,I,d⟩|⟨k,F,I⟩
  ·exact⟨r,u,k,F,I,by decide,d⟩
  ·exact⟨_,_,k,hk,Ls.nil _ _ _,F,I⟩
 refine an q (ns (st _ (dh (gH.cells r u) q (by exact mX) G q) (mv q (aT (us:=(gH.cells r u)) q q (by exact mX) (fun x C=>bI (gH.one H.bZ) x C) G (lB q) ?_))));intro w6 A P;replace P:cg w6 E (gH.cells r u) 97:=P;replace H:=H.md A (hI n4);replace M:=M.fW A a;refine ar q ?_;exact eB (vs:=[.agg (gH.cells r u).toArray,.int .i64 c]) trivial q ⟨⟨_,q,ey (cs:=gH.cells r u) (by exact mX) P⟩,q,tV⟩ q ⟨u,r,c,q,M,o,H.sub (fun x C _=>t4 x C),W,J⟩
theorem ajS:ea Zp 81=true:=Ym
theorem aa7 (uQ:Up w Q) {v0:Value} {v:eR} (h0:Pt (tPt fA 73) 46 w Q v0 v) {v1:Value} {p:Nat} (h1:Pt ec 26 w Q v1 p) {b2:Nat} {v2_0:Value} (m:jv) (h2:cg w b2 (jv.cells m v2_0) 101) (n2:¬Q b2) (a2_0:jv.ok m) (a2_1:Ls ec w Q v2_0 m.aD) (p0:v.b.length≤140737488355328) :
  Calls Zp 79 #[v0,v1,.pointer (some ⟨b2,0,none⟩)] w fun en w'=>(∃m29:jv,∃u52_0:Value,en = .returned (.tuple #[])∧Md [b2] w w'∧cg w' b2 (jv.cells m29 u52_0) 101∧¬Q b2∧jv.ok m29∧Ls ec w' Q u52_0 m29.aD∧iY (v.h.n.getD 0 0) v.b p=(m29,0))∨∃cp:Nat,en = .panicked (FI (.iface 203 (.agg #[.int .i64 cp])))∧(cp≠0∧cp<9223372036854775808)∧Md [b2] w w'∧cg w' b2 (jv.cells m v2_0) 101∧(iY (v.h.n.getD 0 0) v.b p).2=cp:=by
 obtain⟨c,Be,rfl,t,h0,qn⟩:=h0;obtain⟨v1,rfl,Al⟩:=qn;obtain⟨d,Bf,rfl,y,h1,Aq⟩:=h1;obtain⟨rfl,Ba⟩:=Aq;have F:=n2;have Aa:ck [b2] w b2:=.inl Oq;have Ae:c≠b2:=fun h=>F (h ▸ t);have Af:d≠b2:=fun h=>F (h ▸ y);have M:=Md.refl [b2] w;have Bu:=uQ;have tQ:∀b,Q b→Q b:=fun _ h=>h;refine enter (n:=20) Tryz.func79 q q q fun B=>ns (sl (u:=v1) q mG h0 q ?_);have I:=Al;obtain⟨e,Ax,rfl,N,I,Ab⟩:=I;obtain⟨v4,rfl,q5,K⟩:=eL Ab;have z:e≠b2:=fun h=>F (h ▸ N);refine sl (u:=(.int .u64 p)) q bA h1 q (j4 afi q (qT uQ ⟨_,_,q,N,I,dV q5 K⟩ p Oh) ?_);rintro en w7 (⟨rfl,C,P⟩|⟨cp,rfl,S,C,P⟩)
 rotate_left
 ·exact .inr ⟨_,q,gV (Or.inr ⟨cp,q,S,M.k C,h2.o C,(ah3 P S.1)⟩)⟩
 refine .inl ⟨_,q,?_⟩;obtain⟨h2,h0,h1,I,K,uQ,M⟩:=k7 C h2 h0 h1 I K uQ M;refine nt (aP ?_);have o:=h2.lt;refine BU (fun w'=>Md [] w7 w') (R:=fun a' w'=>∃(A':Fr 20) (Z:Nat) (a:Value) (V:jv) (f:Nat),a'=b9 A' [] [(3,.pointer (some ⟨Z,0,none⟩)),(4,.int .i64 f),(0,(.pointer (some ⟨c,0,none⟩))),(1,(.pointer (some ⟨d,0,none⟩))),(2,(.pointer (some ⟨b2,0,none⟩)))]∧Md [] w7 w'∧w7.heap.size≤Z∧Z<w'.heap.size∧cg w' Z (jv.cells V a) 101∧jv.ok V∧f<9223372036854775808∧Ls ec w' Q a V.aD∧lg v.b p=(V,f)) eD ?_ ?_
 ·rintro _ w8 ⟨A',Z,a,V,f,rfl,C,gA,lA,hA,Am,qA,G,k⟩
  have A9:=uQ _ gA;obtain⟨h2,uQ,M⟩:=k3 C h2 uQ M;have Ai:b2≠Z:=(by have:=o;omega);refine au (nm q (j4 abP q (sA uQ f Oh) ?_));rintro en w9 (⟨rfl,C,Y⟩|⟨cp,rfl,S,C,Y⟩)
  rotate_left
  ·exact .inr ⟨_,q,gV (Or.inr ⟨cp,q,S,M.k C,h2.o C,(by rw[wA P k];exact Y)⟩)⟩
  refine .inl ⟨_,q,?_⟩;obtain⟨h2,G,hA,M⟩:=k4 C h2 G hA M;refine nt (aQ (st _ (dh (jv.cells V a) q (by exact oV) hA q) (aT (us:=(jv.cells V a)) q q (by exact oV) (by exact fun u l=>bI (jv.one G.bZ) u l) h2 (lB q) ?_)));have Aj:=h2;clear h2;intro Bv C h2;have hS:∀b∈[b2],¬Q b:=(hI F);replace G:=G.md C hS;replace M:=M.step C (hI Aa);clear Aj hS;replace h2:cg _ _ (jv.cells V a) _:=h2;refine aI ?_;exact eB (vs:=[]) trivial q trivial q (Or.inl ⟨V,_,q,M,h2,n2,Am,(G.sub (fun b hb _=>tQ b hb)),(by rw[wA P k,Y])⟩)
 intro w1 A
 refine iw (i:=0) _ q Ym Ym (A) (fun w' H=>aC q mG (h0.o H) q) (iw (i:=1) _ q Ym Ym (A) (fun w' H=>dr q) (iw (i:=2) _ q Ym Ym (A) (fun w' H=>aM q sK) (iw (i:=3) _ q Ym Ym (A) (fun w' H=>aC q gD (I.o H) q) (iw (i:=4) _ q Ym Ym (A) (fun w' H=>aC q bA (h1.o H) q) ?_))));refine HE (i:=5) (j:=9) Ym q q q q ?_ ?_
 ·refine ax ajS q (wW (uQ.md A) (K.o A) p Oh Oh) ?_;rintro en xa ⟨ua,ra,ca,rfl,J,ka,la,qa,fa⟩;refine rv ?_;refine aI ⟨q,A.k J,?_⟩;refine iw (i:=6) _ q Ym Ym (A.k J) (fun w' H=>bf q) (iw (i:=7) _ q Ym Ym (A.k J) (fun w' H=>jC q q) (iw (i:=8) _ q Ym Ym (A.k J) (fun w' H=>jC q q) (ic (i:=9) Ym q q (cw UB ?_))));intro b5 x5 g5 l5 r Ag;refine aI ⟨q,(A.k J).k r,?_⟩;refine ic (i:=10) Ym q q (aT (us:=(jv.cells ra ua)) q q (by exact oV) (by exact fun u l=>bI (jv.one la.bZ) u l) Ag (lB q) ?_);intro ya T D;refine aI ⟨q,((A.k J).k r).fW T (ly (A.k J).size g5),?_⟩;replace D:cg ya b5 (jv.cells ra ua) 101:=D;refine ic (i:=11) Ym q q (dP q ?_);refine aI ⟨q,((A.k J).k r).fW T (ly (A.k J).size g5),?_⟩;refine tX Ym ?_;exact⟨_,b5,ua,ra,ca,(ga (by exact⟨q,q,q,q,q,tV⟩)).symm,((A.k J).k r).fW T (ly (A.k J).size g5),(ly (A.k J).size g5),D.lt,D,ka,qa,(((la.sub (Q':=fun x=>Q x∧x≠b5) (fun x L hl=>⟨L,by omega⟩)).o r).md T (by intro x L;simp at L;subst L;exact fun h=>h.2 q)).sub (fun x L _=>L.1),fa⟩
 refine cw UB ?_;intro b6 x6 g l6 O X;refine aI ⟨q,A.k O,?_⟩;obtain⟨Q6,s6,t6,n6,u6⟩:=kR (uQ.md A) g l6 O;refine ic (i:=5) Ym q q (ax ajS q (wW u6 (((K.o A).sub s6).o O) p Oh Oh) ?_);rintro en xb ⟨ub,rb,cb,rfl,W,kb,lb,qb,fb⟩;refine rv ?_;replace X:=X.o W;refine aI ⟨q,(A.k O).k W,?_⟩;refine iw (i:=6) _ q Ym Ym ((A.k O).k W) (fun w' H=>bf q) (iw (i:=7) _ q Ym Ym ((A.k O).k W) (fun w' H=>jC q q) (iw (i:=8) _ q Ym Ym ((A.k O).k W) (fun w' H=>jC q q) (ic (i:=10) Ym q q (aT (us:=(jv.cells rb ub)) q q (by exact oV) (by exact fun u l=>bI (jv.one lb.bZ) u l) X (lB q) ?_))));intro yb U E;refine aI ⟨q,((A.k O).k W).fW U (ly A.size g),?_⟩;replace E:cg yb b6 (jv.cells rb ub) 101:=E;refine ic (i:=11) Ym q q (dP q ?_);refine aI ⟨q,((A.k O).k W).fW U (ly A.size g),?_⟩;refine tX Ym ?_;exact⟨_,b6,ub,rb,cb,(ga (by exact⟨q,q,q,q,q,tV⟩)).symm,((A.k O).k W).fW U (ly A.size g),(ly A.size g),E.lt,E,kb,qb,((lb).md U (hI n6)).sub (fun x L _=>t6 x L),fb⟩
theorem alu:ea Zp 79=true:=Ym
theorem GF (uQ:Up w Q) {v0:Value} {v:eR} (h0:Pt fA 73 w Q v0 v) (p:Nat) (a1:p<18446744073709551616) (p0:v.b.length≤140737488355328) :
  Calls Zp 42 #[v0,(.int .u64 p)] w fun en w'=>∃u0_0:Value,∃r0:jv,∃r1:Nat,en = .returned (.tuple #[.agg (jv.cells r0 u0_0).toArray,(.int .i64 r1)])∧Md [] w w'∧jv.ok r0∧Ls ec w' Q u0_0 r0.aD∧r1<9223372036854775808∧iY (v.h.n.getD 0 0) v.b p=(r0,r1):=by
 refine enter (n:=10) (vs:=[v0,.int .u64 p]) Tryz.func42 q q q ?_;intro B;have t:v0.oneCell'=true:=(by obtain⟨b,c,rfl,_⟩:=h0;rfl);refine ns (gO (cs:=[v0]) q (fU t) ?_);intro i w2 g2 l2 A F;have q2:=uQ _ g2;obtain⟨h0,uQ⟩:=k2 A h0 uQ;have M:=A;refine gO (cs:=[.int .u64 p]) q q ?_;intro j w3 g3 l3 A I;have q3:=uQ _ g3;obtain⟨h0,F,uQ,M⟩:=k4 A h0 F uQ M;refine cw UB ?_;intro E g g4 l4 A d;obtain⟨V,s4,t4,n4,u4⟩:=kR uQ g4 l4 A;have a:=ly M.size g4;have y:=s4 _ q2 F.lt;have z:=s4 _ q3 I.lt;replace h0:=(h0.sub s4).o A;obtain⟨F,I,M⟩:=k3 A F I M;replace d:cg g E (jv.cells wS SN) 101:=d;refine an q (ns (st _ (lU (vs:=[.pointer (some ⟨i,0,none⟩),.pointer (some ⟨j,0,none⟩),.pointer (some ⟨E,0,none⟩)]) q) ?_));have hk:jv.ok wS:=(by simp[jv.ok,wS])
 refine ax YL q (sw (f:=79) (cs:=[.pointer (some ⟨i,0,none⟩),.pointer (some ⟨j,0,none⟩),.pointer (some ⟨E,0,none⟩)]) (S:=[E])
  (X:=fun w'=>∃r u,cg w' E (jv.cells r u) 101∧jv.ok r∧Ls ec w' V u r.aD∧iY (v.h.n.getD 0 0) v.b p=(r,0))
  (Y:=fun c w'=>cg w' E (jv.cells wS SN) 101∧c<9223372036854775808∧iY (v.h.n.getD 0 0) v.b p=(wS,c))
  (R:=fun O e w'=>(∃N Z,e = .returned (.tuple #[])∧Md [E] O w'∧cg w' E (jv.cells N Z) 101∧jv.ok N∧Ls ec w' (fun x=>V x∧(x<g.heap.size∨O.heap.size≤x)) Z N.aD∧iY (v.h.n.getD 0 0) v.b p=(N,0))∨∃L:Nat,e = .panicked (FI (.iface 203 (.agg #[.int .i64 L])))∧(L≠0∧L<9223372036854775808)∧Md [E] O w'∧cg w' E (jv.cells wS SN) 101∧(iY (v.h.n.getD 0 0) v.b p).2=L)
  alu (hI l4) ?_ ?_) ?_
 ·intro O A
  have uX:Up O (fun x=>V x∧(x<g.heap.size∨O.heap.size≤x)):=fun x C=>⟨u4 x (ly A.size C),.inr C⟩;have sX:∀x,V x→x<g.heap.size→(V x∧(x<g.heap.size∨O.heap.size≤x)):=fun x C H=>⟨C,.inl H⟩;refine(aa7 uX (v0:=.pointer (some ⟨i,0,none⟩)) (v1:=.pointer (some ⟨j,0,none⟩)) (v:=v) (p:=p) ⟨i,[v0],q,⟨y,.inl F.lt⟩,F.o A,v0,q,(h0.sub sX).o A⟩ ⟨j,_,q,⟨z,.inl I.lt⟩,I.o A,q,a1⟩ wS (d.o A) (fun h=>n4 h.1) hk (Ls.nil _ _ _) p0).mono ?_;rintro e w' (⟨N,Z,l,D,G,_,U,H,J⟩|⟨L,l,W,D,G,J⟩)
  ·exact .inl ⟨N,Z,l,D,G,U,H,J⟩
  exact .inr ⟨L,l,W,D,G,J⟩
 ·rintro O e w1 A (⟨N,Z,rfl,D,G,U,H,J⟩|⟨L,rfl,W,D,G,J⟩)
  ·refine⟨D,.inl ⟨q,fun b Ab gb lb K=>⟨N,Z,G.tC K Oh,U,(H.md K (by intro x C h;simp at C;subst C;omega)).sub (fun x C _=>C.1),J⟩⟩⟩
  exact⟨D,.inr ⟨L,q,fun b Ab gb lb K=>⟨G.tC K Oh,W.2,ah4 J W.1⟩⟩⟩
 rintro en w5 ⟨c,rfl,A,T⟩;refine rv ?_;replace M:=M.step A (by intro x C;simp at C;subst C;exact .inr a)
 obtain⟨r,u,G,o,H,W,J⟩:∃r u,cg w5 E (jv.cells r u) 101∧jv.ok r∧Ls ec w5 V u r.aD∧c<9223372036854775808∧iY (v.h.n.getD 0 0) v.b p=(r,c):=by
  rcases T with⟨rfl,r,u,k,F,I,d⟩|⟨k,F,I⟩
  ·exact⟨r,u,k,F,I,by decide,d⟩
  ·exact⟨_,_,k,hk,Ls.nil _ _ _,F,I⟩
 refine an q (ns (st _ (dh (jv.cells r u) q (by exact oV) G q) (mv q (aT (us:=(jv.cells r u)) q q (by exact oV) (fun x C=>bI (jv.one H.bZ) x C) G (lB q) ?_))));intro w6 A P;replace P:cg w6 E (jv.cells r u) 101:=P;replace H:=H.md A (hI n4);replace M:=M.fW A a;refine ar q ?_;exact eB (vs:=[.agg (jv.cells r u).toArray,.int .i64 c]) trivial q ⟨⟨_,q,ey (cs:=jv.cells r u) (by exact oV) P⟩,q,tV⟩ q ⟨u,r,c,q,M,o,H.sub (fun x C _=>t4 x C),W,J⟩
theorem aam (s:Ly) (w:World) (hl:s.length≤9223372036854775807):Calls Zp 131 #[str s] w fun e w'=>e = .returned (.bool (fH s))∧w=w':=by
 have M:=Md.refl [] w;refine enter (n:=44) Tryz.func131 q q q fun B=>ns (an q (aP (ns (dP q (nt (bG ?_))))));refine kQ (X:=Nat) (fun i=>[(0,str s),(3,.int .i64 i)]) (fun i w'=>w=w'∧i≤s.length∧∀j,j<i→jI (s.getD j 0)=true∧(j=0→digit (s.getD j 0)=false)) (fun i=>s.length-i) 0 ?_ ?_ ?_
 ·exact⟨q,q,tV⟩
 ·exact⟨q,by omega,fun j I=>by omega⟩
 clear M
 rintro i B Z ⟨rfl,Y,O⟩;have M:=Md.refl [] w;refine aP (ns (m2 q q (st _ (uL q u9) (st _ (sd q q) (nt ?_)))));refine cu q (fun V=>?_) (fun V=>?_)
 ·(have W:=dT V);refine bh (au (aP (bG (ns (m2 q q (st _ (xQ q q u9 Oh) (an q (aP (nm q (st _ (rY q q) ?_))))))))));refine mv q ?_;refine dQ (t:=16) q (fun J=>?_) (fun J=>?_)
  ·(have Q:=dT J);refine sg J (bf q) (sg J (xR q q) (st _ (bF q J q) (mv q ?_)));refine dQ (t:=20) q (fun K=>?_) (fun K=>?_)
   ·(have R:=dT K);refine sg K (bf q) (sg K (wN q q) (st _ (bF q K q) (mv q ?_)));refine dQ (t:=24) q (fun F=>?_) (fun F=>?_)
    ·(have S:=dT F);refine sk F (sk F (sk F (l7 q q q (l7 q q q (sk F (st _ (bF q F q) (mv q (sk q (sk q (st _ (bF q q q) (nt (iF q q (dY ?_)))))))))))));refine bU (eT (au (aQ (mv q (st _ (gh q q Oh) (an q (next (i+1) Oh ⟨q,fu q Oq,tV⟩ ?_)))))))
     exact⟨q,by omega,fun j I=>by
      rcases Nat.lt_or_eq_of_le (Nat.le_of_lt_succ I)with h|h
      ·exact O j h
      ·subst h;exact⟨by unfold jI;exact decide_eq_true Oh,fun H=>by unfold digit;exact decide_eq_false Oh⟩⟩
    (have S:=dF F);refine sg F (bf q) (sg F (rY q q) (sg F (bf q) ?_));refine dQ (t:=27) q (fun A=>?_) (fun A=>?_)
    ·(have L:=dT A);refine sg A (bf q) (sg A (xR q q) (sg F (bF q A q) (st _ (aY q F q) (mv q ?_))));refine dQ (t:=32) q (fun C=>?_) (fun C=>?_)
     ·(have N:=dT C);refine sk C (sk C (st _ (bF q C q) (nt (iF q q (dY (bU (eT (au (aQ (mv q (st _ (gh q q Oh) (an q ?_))))))))))));refine next (i+1) Oh ⟨q,fu q Oq,tV⟩ ?_
      exact⟨q,by omega,fun j I=>by
       rcases Nat.lt_or_eq_of_le (Nat.le_of_lt_succ I)with h|h
       ·exact O j h
       ·subst h;exact⟨by unfold jI;exact decide_eq_true Oh,fun H=>by unfold digit;exact decide_eq_false Oh⟩⟩
     (have N:=dF C);refine sg C (bf q) (sg C (nj q q) (st _ (aY q C q) (nt ?_)));refine cu q (fun D=>?_) (fun D=>?_)
     ·(have E:=dT D);refine dY (bU (eT (au (aQ (mv q (st _ (gh q q Oh) (an q (next (i+1) Oh ⟨q,fu q Oq,tV⟩ ?_))))))))
      exact⟨q,by omega,fun j I=>by
       rcases Nat.lt_or_eq_of_le (Nat.le_of_lt_succ I)with h|h
       ·exact O j h
       ·subst h;exact⟨by unfold jI;exact decide_eq_true Oh,fun H=>by unfold digit;exact decide_eq_false Oh⟩⟩
     (have E:=dF D);refine bh (au (ns (ar q (bE (aS (aS (bE (aS ?_))))))));exact jq trivial q q ⟨py (by cases hh:fH s with|false=>rfl|true=>(exfalso;have hl:=iy hh;have P:=iZ hh;have U:=lH hh i Oh;rcases Nat.eq_zero_or_pos i with H|H<;>omega)),q⟩
    (have L:=dF A);refine sk A (sk A (sg F (aY q A q) (st _ (aY q F q) (mv q (sg q (bf q) (sg q (nj q q) (st _ (aY q q q) (nt ?_))))))));refine cu q (fun D=>?_) (fun D=>?_)
    ·(have E:=dT D);refine dY (bU (eT (au (aQ (mv q (st _ (gh q q Oh) (an q (next (i+1) Oh ⟨q,fu q Oq,tV⟩ ?_))))))))
     exact⟨q,by omega,fun j I=>by
      rcases Nat.lt_or_eq_of_le (Nat.le_of_lt_succ I)with h|h
      ·exact O j h
      ·subst h;exact⟨by unfold jI;exact decide_eq_true Oh,fun H=>by unfold digit;exact decide_eq_false Oh⟩⟩
    (have E:=dF D);refine bh (au (ns (ar q (bE (aS (aS (bE (aS ?_))))))));exact jq trivial q q ⟨py (by cases hh:fH s with|false=>rfl|true=>(exfalso;have hl:=iy hh;have P:=iZ hh;have U:=lH hh i Oh;rcases Nat.eq_zero_or_pos i with H|H<;>first|omega|(subst H;omega))),q⟩
   (have R:=dF K);refine sk K (sk K (st _ (aY q K q) (mv q (sg q (bf q) (sg q (rY q q) (sg q (bf q) ?_))))));refine dQ (t:=27) q (fun A=>?_) (fun A=>?_)
   ·(have L:=dT A);refine sg A (bf q) (sg A (xR q q) (sg q (bF q A q) (st _ (aY q q q) (mv q ?_))));refine dQ (t:=32) q (fun C=>?_) (fun C=>?_)
    ·(have N:=dT C);refine sk C (sk C (st _ (bF q C q) (nt (iF q q (dY (bU (eT (au (aQ (mv q (st _ (gh q q Oh) (an q ?_))))))))))));refine next (i+1) Oh ⟨q,fu q Oq,tV⟩ ?_
     exact⟨q,by omega,fun j I=>by
      rcases Nat.lt_or_eq_of_le (Nat.le_of_lt_succ I)with h|h
      ·exact O j h
      ·subst h;exact⟨by unfold jI;exact decide_eq_true Oh,fun H=>by unfold digit;exact decide_eq_false Oh⟩⟩
    (have N:=dF C);refine sg C (bf q) (sg C (nj q q) (st _ (aY q C q) (nt ?_)));refine cu q (fun D=>?_) (fun D=>?_)
    ·(have E:=dT D);refine dY (bU (eT (au (aQ (mv q (st _ (gh q q Oh) (an q (next (i+1) Oh ⟨q,fu q Oq,tV⟩ ?_))))))))
     exact⟨q,by omega,fun j I=>by
      rcases Nat.lt_or_eq_of_le (Nat.le_of_lt_succ I)with h|h
      ·exact O j h
      ·subst h;exact⟨by unfold jI;exact decide_eq_true Oh,fun H=>by unfold digit;exact decide_eq_false Oh⟩⟩
    (have E:=dF D);refine bh (au (ns (ar q (bE (aS (aS (bE (aS ?_))))))));exact jq trivial q q ⟨py (by cases hh:fH s with|false=>rfl|true=>(exfalso;have hl:=iy hh;have P:=iZ hh;have U:=lH hh i Oh;rcases Nat.eq_zero_or_pos i with H|H<;>omega)),q⟩
   (have L:=dF A);refine sk A (sk A (sg q (aY q A q) (st _ (aY q q q) (mv q (sg q (bf q) (sg q (nj q q) (st _ (aY q q q) (nt ?_))))))));refine cu q (fun D=>?_) (fun D=>?_)
   ·(have E:=dT D);refine dY (bU (eT (au (aQ (mv q (st _ (gh q q Oh) (an q (next (i+1) Oh ⟨q,fu q Oq,tV⟩ ?_))))))))
    exact⟨q,by omega,fun j I=>by
     rcases Nat.lt_or_eq_of_le (Nat.le_of_lt_succ I)with h|h
     ·exact O j h
     ·subst h;exact⟨by unfold jI;exact decide_eq_true Oh,fun H=>by unfold digit;exact decide_eq_false Oh⟩⟩
   (have E:=dF D);refine bh (au (ns (ar q (bE (aS (aS (bE (aS ?_))))))));exact jq trivial q q ⟨py (by cases hh:fH s with|false=>rfl|true=>(exfalso;have hl:=iy hh;have P:=iZ hh;have U:=lH hh i Oh;rcases Nat.eq_zero_or_pos i with H|H<;>omega)),q⟩
  (have Q:=dF J);refine sk J (sk J (st _ (aY q J q) (mv q (sk q (sk q (st _ (aY q q q) (mv q (sg q (bf q) (sg q (rY q q) (sg q (bf q) ?_))))))))));refine dQ (t:=27) q (fun A=>?_) (fun A=>?_)
  ·(have L:=dT A);refine sg A (bf q) (sg A (xR q q) (sg q (bF q A q) (st _ (aY q q q) (mv q ?_))));refine dQ (t:=32) q (fun C=>?_) (fun C=>?_)
   ·(have N:=dT C);refine sk C (sk C (st _ (bF q C q) (nt (iF q q (dY (bU (eT (au (aQ (mv q (st _ (gh q q Oh) (an q ?_))))))))))));refine next (i+1) Oh ⟨q,fu q Oq,tV⟩ ?_
    exact⟨q,by omega,fun j I=>by
     rcases Nat.lt_or_eq_of_le (Nat.le_of_lt_succ I)with h|h
     ·exact O j h
     ·subst h;exact⟨by unfold jI;exact decide_eq_true Oh,fun H=>by unfold digit;exact decide_eq_false Oh⟩⟩
   (have N:=dF C);refine sg C (bf q) (sg C (nj q q) (st _ (aY q C q) (nt ?_)));refine cu q (fun D=>?_) (fun D=>?_)
   ·(have E:=dT D);refine dY (bU (eT (au (aQ (mv q (st _ (gh q q Oh) (an q (next (i+1) Oh ⟨q,fu q Oq,tV⟩ ?_))))))))
    exact⟨q,by omega,fun j I=>by
     rcases Nat.lt_or_eq_of_le (Nat.le_of_lt_succ I)with h|h
     ·exact O j h
     ·subst h;exact⟨by unfold jI;exact decide_eq_true Oh,fun H=>by unfold digit;exact decide_eq_false Oh⟩⟩
   (have E:=dF D);refine bh (au (ns (ar q (bE (aS (aS (bE (aS ?_))))))));exact jq trivial q q ⟨py (by cases hh:fH s with|false=>rfl|true=>(exfalso;have hl:=iy hh;have P:=iZ hh;have U:=lH hh i Oh;rcases Nat.eq_zero_or_pos i with H|H<;>omega)),q⟩
  (have L:=dF A);refine sk A (sk A (sg q (aY q A q) (st _ (aY q q q) (mv q (sg q (bf q) (sg q (nj q q) (st _ (aY q q q) (nt ?_))))))));refine cu q (fun D=>?_) (fun D=>?_)
  ·(have E:=dT D);refine dY (bU (eT (au (aQ (mv q (st _ (gh q q Oh) (an q (next (i+1) Oh ⟨q,fu q Oq,tV⟩ ?_))))))))
   exact⟨q,by omega,fun j I=>by
    rcases Nat.lt_or_eq_of_le (Nat.le_of_lt_succ I)with h|h
    ·exact O j h
    ·subst h;exact⟨by unfold jI;exact decide_eq_true Oh,fun H=>by unfold digit;exact decide_eq_false Oh⟩⟩
  (have E:=dF D);refine bh (au (ns (ar q (bE (aS (aS (bE (aS ?_))))))));exact jq trivial q q ⟨py (by cases hh:fH s with|false=>rfl|true=>(exfalso;have hl:=iy hh;have P:=iZ hh;have U:=lH hh i Oh;rcases Nat.eq_zero_or_pos i with H|H<;>omega)),q⟩
 (have W:=dF V);refine dY (bU (bU (eT (au (nm q (st _ (uL q u9) (st _ (rY q q) (mv q ?_))))))));refine dQ (t:=39) q (fun G=>?_) (fun G=>?_)
 ·(have T:=dT G);refine sg G (bf q) (sg G (uL q u9) (sg G (xR q q) (st _ (bF q G q) (ar q ?_))));exact jq trivial q q ⟨py (ac2 Oh (fun j I=>O j Oh)),q⟩
 (have T:=dF G);refine sk G (sk G (sk G (st _ (aY q G q) (ar q ?_))));exact jq trivial q q ⟨py (by cases hh:fH s with|false=>rfl|true=>(exfalso;have hl:=iy hh;have P:=iZ hh;omega)),q⟩
theorem gI:gZ Zp 144 2=true:=Ym
theorem ajx:ea Zp 119=true:=Ym
theorem aj8:ea Zp 139=true:=Ym
theorem ajB:ea Zp 144=true:=Ym
theorem ajQ:ea Zp 75=true:=Ym
theorem xM:gY Zp 144=some [(0,1),(1,1)]:=Ym
theorem zY:fP Zp 144=some [.string ByteArray.empty,.string ByteArray.empty]:=Ym
theorem af2 {w:World} {v:Value} {s:Ly} (hB:By w v s) (c:UInt8):(callFunc 148 #[v,b8 c]).run Zp w = .ok (.value (.int .i64 (Lib.indexByte s c))) w:=by
  rw[run_callFunc_extern (fn:=Tryz.f148) Ym Ym Ym Ym (e:=Extern.BytealgIndexByte.indexByte) Ym,agp hB c];rfl
theorem af0 (v:Value) (l:Ly) (c:UInt8) (w:World) (hB:By w v l) :
  Calls Zp 144 #[v,b8 c] w fun e w'=>e = .returned (.int .i64 (Lib.indexByte l c))∧w=w':=by
 have M:=Md.refl [] w;refine enter (n:=8) Tryz.func144 q q q fun B=>ns (an q (ns (m2 q q (st _ (agd q (af2 hB c)) (ar q ?_)))));exact jq trivial q q ⟨q,q⟩
theorem S2 (v u:Value) (l:Ly) (c:UInt8) (w:World) (hB:By w v l) (hU:By w u [c]) :
  Calls Zp 139 #[v,u] w fun e w'=>e = .returned (.int .i64 (Lib.indexByte l c))∧w=w':=by
 have F:[c].length=1:=rfl;have M:=Md.refl [] w;refine enter (n:=200) Tryz.func139 q q q fun B=>ns (an q (nm q (sL q gX hU.eJ (dP q (nt (aP (bG (ns (mv q (st _ (nj q q) (dP q ?_)))))))))));refine nt ?_;refine cu q (fun A=>?_) (fun A=>?_)
 ·(have D:=dT A);exfalso;omega
 (have D:=dF A);refine nm q (st _ (nj q q) (an q ?_));refine cu q (fun C=>?_) (fun C=>?_)
 ·(have E:=dT C);refine ns (m2 q q (st _ (ML q q gX nS hU.eJ Oh) (st _ (MN q tL hU Oh) (ax ajB q (af0 v l c _ hB) ?_))));rintro e _ ⟨rfl,rfl⟩;refine rv ?_;refine ar q (bE (aS ?_));exact jq trivial q q ⟨q,q⟩
 (have E:=dF C);exfalso;omega
theorem aeV (v u:Value) (l:Ly) (c:UInt8) (w:World) (hB:By w v l) (hU:By w u [c]) :
  Calls Zp 119 #[v,u] w fun e w'=>∃x y b,e = .returned (.tuple #[x,y,.bool b])∧Md [] w w'∧(b=true→0≤Lib.indexByte l c∧By w' x (l.take (Lib.indexByte l c).toNat)∧By w' y (l.drop ((Lib.indexByte l c).toNat+1)))∧(b=false→Lib.indexByte l c<0):=by
 have A:[c].length=1:=rfl;have F:=hB.gd;have M:=Md.refl [] w;refine enter (n:=23) Tryz.func119 q q q fun B=>ns (dP q (dP q (an q (aP (ns (m2 q q (ax aj8 q (S2 v u l c _ hB hU) ?_)))))));rintro e _ ⟨rfl,rfl⟩;refine rv ?_;obtain⟨qv,H⟩:∃qv,qv=Lib.indexByte l c:=⟨_,q⟩;rw[← H];refine an q (nm q (st _ (rY q q) (nt ?_)));refine cu q (fun D=>?_) (fun D=>?_)
 ·(have C:=dT D);obtain⟨i,rfl⟩:=Int.eq_ofNat_of_zero_le C;have E:=(Le (s:=l) (c:=c) Oh).1;rw[← H,Int.toNat_natCast]at E;refine aP (HN [(0,true),(1,true),(2,true),(3,true),(4,true),(5,true),(6,true),(7,true),(8,true),(9,true),(10,true),(11,true)] (fun w'=>Md [] w w') eD Ym ?_);intro J G;have I:=G;replace M:=M.k G;refine⟨I,?_⟩;refine m _ (fun w' A=>bf q) (m _ (fun w' A=>bf q) (m _ (fun w' A=>pF 0 i gX nS q hB.eJ Oh Oh q ⟨_,q⟩) (m _ (fun w' A=>bf q) (m _ (fun w' A=>bf q) (m _ (fun w' A=>bf q) (m _ (fun w' A=>jK q gX hU.eJ) (m _ (fun w' A=>(gh q q Oh).kr (show _=((i+1:Nat):Int)from by simp)) (m _ (fun w' A=>pF (i+1) l.length gX nS q hB.eJ Oh Oh ⟨_,q⟩ q) (m _ (fun w' A=>eI q) (m _ (fun w' A=>eI q) (m _ (fun w' A=>eI q) (ej (au ?_)))))))))))));refine iP (aS ?_);exact ak1 trivial q q q q ⟨_,_,true,q,M,fun _=>⟨by omega,by rw[Int.toNat_natCast];exact(hB.head i Oh).o M,by rw[Int.toNat_natCast];exact(hB.tail (i+1) Oh).o M⟩,fun h=>by cases h⟩
 (have C:=dF D);refine bh (au (nm q (dP q (dP q (ar q ?_)))));exact ak1 trivial q q q q ⟨_,_,false,q,M,fun h=>(by cases h),fun _=>by omega⟩
set_option maxHeartbeats 4000000 in
theorem PI (s:Ly) (w:World):Calls Zp 75 #[str s] w fun e w'=>e = .returned (.bool (fH s))∧w=w':=by
 have M:=Md.refl [] w;refine enter (n:=51) Tryz.func75 q q q fun B=>ns (an q (aP (nm q (st _ (uL q u9) (st _ (sd q q) (mv q ?_))))));refine dQ (t:=8) q (fun V=>?_) (fun V=>?_)
 ·(have f:=dT V);refine sk V (sk V (sk V (st _ (bF q V q) (mv q (sk q (sk q (sk q (sk q (l7 q q q (l7 q q q (l7 q q q (sk q (st _ (bF q q q) ?_)))))))))))));refine nt (iF q q (ns (ar q (aS ?_))));exact jq trivial q q ⟨py (by cases hh:fH s with|false=>rfl|true=>(exfalso;have Y:=iy hh;have W:=iZ hh;omega)),q⟩
 (have f:=dF V);refine sg V (bf q) (sg V (uL q u9) (sg V (wN q q) (st _ (aY q V q) (mv q ?_))));refine dQ (t:=13) q (fun H=>?_) (fun H=>?_)
 ·(have b:=dT H);refine sk H (sk H (sk H (sk H (l7 q q q (l7 q q q (l7 q q q (sk H (st _ (bF q H q) (nt (iF q q (ns (an q ?_))))))))))));refine iP (aS ?_);exact jq trivial q q ⟨py (by cases hh:fH s with|false=>rfl|true=>(exfalso;have Y:=iy hh;have W:=iZ hh;omega)),q⟩
 (have b:=dF H);refine sg H (bf q) (aed (b8 (s.getD 0 0)) q q q H (xQ (s:=s) (i:=0) q q u9 Oh) (sg H (rY q q) (sg H (bf q) ?_)));refine dQ (t:=17) q (fun J=>?_) (fun J=>?_)
 ·(have c:=dT J);refine sg J (bf q) (aed (b8 (s.getD 0 0)) q q q J (xQ (s:=s) (i:=0) q q u9 Oh) (sg J (xR q q) (sg H (bF q J q) (st _ (aY q H q) (nt ?_)))));refine cu q (fun Z=>?_) (fun Z=>?_)
  ·(have d:=dT Z);refine ns (ar q (aS ?_));exact jq trivial q q ⟨py (by cases hh:fH s with|false=>rfl|true=>(exfalso;have Y:=iy hh;have W:=iZ hh;omega)),q⟩
  (have d:=dF Z);refine bh (au (aP (nm q (st _ (uL q u9) (mv q (nt (bG ?_)))))));refine kQ (X:=Nat) (fun i=>[(0,str s),(24,.int .i64 s.length),(25,.int .i64 i)]) (fun i w'=>w=w'∧i≤s.length∧1≤s.length∧s.length≤64∧digit (s.getD 0 0)=false∧∀j,j<i→jI (s.getD j 0)=true) (fun i=>s.length-i) 0 ?_ ?_ ?_
  ·exact⟨q,q,q,tV⟩
  ·exact⟨q,by omega,by omega,by omega,by unfold digit;exact decide_eq_false Oh,fun j I=>by omega⟩
  clear M
  rintro i B k ⟨rfl,g,N,O,P,Q⟩;have M:=Md.refl [] w;refine ns (st _ (sd q q) (nt (aP ?_)));refine cu q (fun R=>?_) (fun R=>?_)
  ·(have S:=dT R);refine bh (au (aP (bG (nm q (an q (ns (m2 q q (st _ (xQ q q u9 Oh) (dP q (nt ?_))))))))));refine nm q (st _ (rY q q) (mv q ?_));refine dQ (t:=33) q (fun G=>?_) (fun G=>?_)
   ·(have T:=dT G);refine sg G (bf q) (sg G (xR q q) (st _ (bF q G q) (mv q ?_)));refine dQ (t:=37) q (fun D=>?_) (fun D=>?_)
    ·(have U:=dT D);refine sk D (sk D (sk D (l7 q q q (l7 q q q (sk D (st _ (bF q D q) (mv q (sk q (sk q (st _ (bF q q q) (st _ (jw q) (nt (kC q q ?_)))))))))))));refine bh (bX (au (aQ (st _ (gh q q Oh) (mv q (nt (next (i+1) Oh ⟨q,q,fu q Oq,tV⟩ ?_)))))))
     exact⟨q,by omega,N,O,P,fun j I=>by
      rcases Nat.lt_or_eq_of_le (Nat.le_of_lt_succ I)with h|h
      ·exact Q j h
      ·subst h;unfold jI;exact decide_eq_true Oh⟩
    (have U:=dF D);refine sg D (bf q) (sg D (rY q q) (sg D (bf q) ?_));refine dQ (t:=40) q (fun A=>?_) (fun A=>?_)
    ·(have K:=dT A);refine sg A (bf q) (sg A (xR q q) (sg D (bF q A q) (st _ (aY q D q) (mv q ?_))));refine dQ (t:=45) q (fun C=>?_) (fun C=>?_)
     ·(have L:=dT C);refine sk C (sk C (st _ (bF q C q) (st _ (jw q) (nt (kC q q (bh (bX (au (aQ (st _ (gh q q Oh) (mv q (nt (next (i+1) Oh ⟨q,q,fu q Oq,tV⟩ ?_)))))))))))))
      exact⟨q,by omega,N,O,P,fun j I=>by
       rcases Nat.lt_or_eq_of_le (Nat.le_of_lt_succ I)with h|h
       ·exact Q j h
       ·subst h;unfold jI;exact decide_eq_true Oh⟩
     (have L:=dF C);refine sg C (bf q) (sg C (nj q q) (st _ (aY q C q) (st _ (jw q) (nt ?_))));refine cu q (fun E=>?_) (fun E=>?_)
     ·(have F:=dF (AB E));refine ns (ar q (bE (aS (aS (bE (aS ?_))))));exact jq trivial q q ⟨py (by cases hh:fH s with|false=>rfl|true=>(exfalso;have Y:=iy hh;have W:=iZ hh;have a:=lH hh i Oh;omega)),q⟩
     (have F:=dT (AA E));refine bh (bX (au (aQ (st _ (gh q q Oh) (mv q (nt (next (i+1) Oh ⟨q,q,fu q Oq,tV⟩ ?_)))))))
     exact⟨q,by omega,N,O,P,fun j I=>by
      rcases Nat.lt_or_eq_of_le (Nat.le_of_lt_succ I)with h|h
      ·exact Q j h
      ·subst h;unfold jI;exact decide_eq_true Oh⟩
    (have K:=dF A);refine sk A (sk A (sg D (aY q A q) (st _ (aY q D q) (mv q (sg q (bf q) (sg q (nj q q) (st _ (aY q q q) (st _ (jw q) (nt ?_)))))))));refine cu q (fun E=>?_) (fun E=>?_)
    ·(have F:=dF (AB E));refine ns (ar q (bE (aS (aS (bE (aS ?_))))));exact jq trivial q q ⟨py (by cases hh:fH s with|false=>rfl|true=>(exfalso;have Y:=iy hh;have W:=iZ hh;have a:=lH hh i Oh;omega)),q⟩
    (have F:=dT (AA E));refine bh (bX (au (aQ (st _ (gh q q Oh) (mv q (nt (next (i+1) Oh ⟨q,q,fu q Oq,tV⟩ ?_)))))))
    exact⟨q,by omega,N,O,P,fun j I=>by
     rcases Nat.lt_or_eq_of_le (Nat.le_of_lt_succ I)with h|h
     ·exact Q j h
     ·subst h;unfold jI;exact decide_eq_true Oh⟩
   (have T:=dF G);refine sk G (sk G (st _ (aY q G q) (mv q (sg q (bf q) (sg q (rY q q) (sg q (bf q) ?_))))));refine dQ (t:=40) q (fun A=>?_) (fun A=>?_)
   ·(have K:=dT A);refine sg A (bf q) (sg A (xR q q) (sg q (bF q A q) (st _ (aY q q q) (mv q ?_))));refine dQ (t:=45) q (fun C=>?_) (fun C=>?_)
    ·(have L:=dT C);refine sk C (sk C (st _ (bF q C q) (st _ (jw q) (nt (kC q q (bh (bX (au (aQ (st _ (gh q q Oh) (mv q (nt (next (i+1) Oh ⟨q,q,fu q Oq,tV⟩ ?_)))))))))))))
     exact⟨q,by omega,N,O,P,fun j I=>by
      rcases Nat.lt_or_eq_of_le (Nat.le_of_lt_succ I)with h|h
      ·exact Q j h
      ·subst h;unfold jI;exact decide_eq_true Oh⟩
    (have L:=dF C);refine sg C (bf q) (sg C (nj q q) (st _ (aY q C q) (st _ (jw q) (nt ?_))));refine cu q (fun E=>?_) (fun E=>?_)
    ·(have F:=dF (AB E));refine ns (ar q (bE (aS (aS (bE (aS ?_))))));exact jq trivial q q ⟨py (by cases hh:fH s with|false=>rfl|true=>(exfalso;have Y:=iy hh;have W:=iZ hh;have a:=lH hh i Oh;omega)),q⟩
    (have F:=dT (AA E));refine bh (bX (au (aQ (st _ (gh q q Oh) (mv q (nt (next (i+1) Oh ⟨q,q,fu q Oq,tV⟩ ?_)))))))
    exact⟨q,by omega,N,O,P,fun j I=>by
     rcases Nat.lt_or_eq_of_le (Nat.le_of_lt_succ I)with h|h
     ·exact Q j h
     ·subst h;unfold jI;exact decide_eq_true Oh⟩
   (have K:=dF A);refine sk A (sk A (sg q (aY q A q) (st _ (aY q q q) (mv q (sg q (bf q) (sg q (nj q q) (st _ (aY q q q) (st _ (jw q) (nt ?_)))))))));refine cu q (fun E=>?_) (fun E=>?_)
   ·(have F:=dF (AB E));refine ns (ar q (bE (aS (aS (bE (aS ?_))))));exact jq trivial q q ⟨py (by cases hh:fH s with|false=>rfl|true=>(exfalso;have Y:=iy hh;have W:=iZ hh;have a:=lH hh i Oh;omega)),q⟩
   (have F:=dT (AA E));refine bh (bX (au (aQ (st _ (gh q q Oh) (mv q (nt (next (i+1) Oh ⟨q,q,fu q Oq,tV⟩ ?_)))))))
   exact⟨q,by omega,N,O,P,fun j I=>by
    rcases Nat.lt_or_eq_of_le (Nat.le_of_lt_succ I)with h|h
    ·exact Q j h
    ·subst h;unfold jI;exact decide_eq_true Oh⟩
  (have S:=dF R);refine dY (bU (bU (eT (au (ns (ar q ?_))))));exact jq trivial q q ⟨py (WB N O P (fun j I=>Q j Oh)).symm,q⟩
 (have c:=dF J);refine sk J (sk J (sk J (sg H (aY q J q) (st _ (aY q H q) (nt (kC q q (bh (au (aP (nm q (st _ (uL q u9) (mv q ?_))))))))))));refine nt (bG ?_);refine kQ (X:=Nat) (fun i=>[(0,str s),(24,.int .i64 s.length),(25,.int .i64 i)]) (fun i w'=>w=w'∧i≤s.length∧1≤s.length∧s.length≤64∧digit (s.getD 0 0)=false∧∀j,j<i→jI (s.getD j 0)=true) (fun i=>s.length-i) 0 ?_ ?_ ?_
 ·exact⟨q,q,q,tV⟩
 ·exact⟨q,by omega,by omega,by omega,by unfold digit;exact decide_eq_false Oh,fun j I=>by omega⟩
 clear M
 rintro i B l ⟨rfl,g,N,O,P,Q⟩;have M:=Md.refl [] w;refine ns (st _ (sd q q) (nt (aP ?_)));refine cu q (fun R=>?_) (fun R=>?_)
 ·(have S:=dT R);refine bh (au (aP (bG (nm q (an q (ns (m2 q q (st _ (xQ q q u9 Oh) (dP q (nt ?_))))))))));refine nm q (st _ (rY q q) (mv q ?_));refine dQ (t:=33) q (fun G=>?_) (fun G=>?_)
  ·(have T:=dT G);refine sg G (bf q) (sg G (xR q q) (st _ (bF q G q) (mv q ?_)));refine dQ (t:=37) q (fun D=>?_) (fun D=>?_)
   ·(have U:=dT D);refine sk D (sk D (sk D (l7 q q q (l7 q q q (sk D (st _ (bF q D q) (mv q (sk q (sk q (st _ (bF q q q) (st _ (jw q) (nt (kC q q ?_)))))))))))));refine bh (bX (au (aQ (st _ (gh q q Oh) (mv q (nt (next (i+1) Oh ⟨q,q,fu q Oq,tV⟩ ?_)))))))
    exact⟨q,by omega,N,O,P,fun j I=>by
     rcases Nat.lt_or_eq_of_le (Nat.le_of_lt_succ I)with h|h
     ·exact Q j h
     ·subst h;unfold jI;exact decide_eq_true Oh⟩
   (have U:=dF D);refine sg D (bf q) (sg D (rY q q) (sg D (bf q) ?_));refine dQ (t:=40) q (fun A=>?_) (fun A=>?_)
   ·(have K:=dT A);refine sg A (bf q) (sg A (xR q q) (sg D (bF q A q) (st _ (aY q D q) (mv q ?_))));refine dQ (t:=45) q (fun C=>?_) (fun C=>?_)
    ·(have L:=dT C);refine sk C (sk C (st _ (bF q C q) (st _ (jw q) (nt (kC q q (bh (bX (au (aQ (st _ (gh q q Oh) (mv q (nt (next (i+1) Oh ⟨q,q,fu q Oq,tV⟩ ?_)))))))))))))
     exact⟨q,by omega,N,O,P,fun j I=>by
      rcases Nat.lt_or_eq_of_le (Nat.le_of_lt_succ I)with h|h
      ·exact Q j h
      ·subst h;unfold jI;exact decide_eq_true Oh⟩
    (have L:=dF C);refine sg C (bf q) (sg C (nj q q) (st _ (aY q C q) (st _ (jw q) (nt ?_))));refine cu q (fun E=>?_) (fun E=>?_)
    ·(have F:=dF (AB E));refine ns (ar q (bE (aS (aS (bE (aS ?_))))));exact jq trivial q q ⟨py (by cases hh:fH s with|false=>rfl|true=>(exfalso;have Y:=iy hh;have W:=iZ hh;have a:=lH hh i Oh;omega)),q⟩
    (have F:=dT (AA E));refine bh (bX (au (aQ (st _ (gh q q Oh) (mv q (nt (next (i+1) Oh ⟨q,q,fu q Oq,tV⟩ ?_)))))))
    exact⟨q,by omega,N,O,P,fun j I=>by
     rcases Nat.lt_or_eq_of_le (Nat.le_of_lt_succ I)with h|h
     ·exact Q j h
     ·subst h;unfold jI;exact decide_eq_true Oh⟩
   (have K:=dF A);refine sk A (sk A (sg D (aY q A q) (st _ (aY q D q) (mv q (sg q (bf q) (sg q (nj q q) (st _ (aY q q q) (st _ (jw q) (nt ?_)))))))));refine cu q (fun E=>?_) (fun E=>?_)
   ·(have F:=dF (AB E));refine ns (ar q (bE (aS (aS (bE (aS ?_))))));exact jq trivial q q ⟨py (by cases hh:fH s with|false=>rfl|true=>(exfalso;have Y:=iy hh;have W:=iZ hh;have a:=lH hh i Oh;omega)),q⟩
   (have F:=dT (AA E));refine bh (bX (au (aQ (st _ (gh q q Oh) (mv q (nt (next (i+1) Oh ⟨q,q,fu q Oq,tV⟩ ?_)))))))
   exact⟨q,by omega,N,O,P,fun j I=>by
    rcases Nat.lt_or_eq_of_le (Nat.le_of_lt_succ I)with h|h
    ·exact Q j h
    ·subst h;unfold jI;exact decide_eq_true Oh⟩
  (have T:=dF G);refine sk G (sk G (st _ (aY q G q) (mv q (sg q (bf q) (sg q (rY q q) (sg q (bf q) ?_))))));refine dQ (t:=40) q (fun A=>?_) (fun A=>?_)
  ·(have K:=dT A);refine sg A (bf q) (sg A (xR q q) (sg q (bF q A q) (st _ (aY q q q) (mv q ?_))));refine dQ (t:=45) q (fun C=>?_) (fun C=>?_)
   ·(have L:=dT C);refine sk C (sk C (st _ (bF q C q) (st _ (jw q) (nt (kC q q (bh (bX (au (aQ (st _ (gh q q Oh) (mv q (nt (next (i+1) Oh ⟨q,q,fu q Oq,tV⟩ ?_)))))))))))))
    exact⟨q,by omega,N,O,P,fun j I=>by
     rcases Nat.lt_or_eq_of_le (Nat.le_of_lt_succ I)with h|h
     ·exact Q j h
     ·subst h;unfold jI;exact decide_eq_true Oh⟩
   (have L:=dF C);refine sg C (bf q) (sg C (nj q q) (st _ (aY q C q) (st _ (jw q) (nt ?_))));refine cu q (fun E=>?_) (fun E=>?_)
   ·(have F:=dF (AB E));refine ns (ar q (bE (aS (aS (bE (aS ?_))))));exact jq trivial q q ⟨py (by cases hh:fH s with|false=>rfl|true=>(exfalso;have Y:=iy hh;have W:=iZ hh;have a:=lH hh i Oh;omega)),q⟩
   (have F:=dT (AA E));refine bh (bX (au (aQ (st _ (gh q q Oh) (mv q (nt (next (i+1) Oh ⟨q,q,fu q Oq,tV⟩ ?_)))))))
   exact⟨q,by omega,N,O,P,fun j I=>by
    rcases Nat.lt_or_eq_of_le (Nat.le_of_lt_succ I)with h|h
    ·exact Q j h
    ·subst h;unfold jI;exact decide_eq_true Oh⟩
  (have K:=dF A);refine sk A (sk A (sg q (aY q A q) (st _ (aY q q q) (mv q (sg q (bf q) (sg q (nj q q) (st _ (aY q q q) (st _ (jw q) (nt ?_)))))))));refine cu q (fun E=>?_) (fun E=>?_)
  ·(have F:=dF (AB E));refine ns (ar q (bE (aS (aS (bE (aS ?_))))));exact jq trivial q q ⟨py (by cases hh:fH s with|false=>rfl|true=>(exfalso;have Y:=iy hh;have W:=iZ hh;have a:=lH hh i Oh;omega)),q⟩
  (have F:=dT (AA E));refine bh (bX (au (aQ (st _ (gh q q Oh) (mv q (nt (next (i+1) Oh ⟨q,q,fu q Oq,tV⟩ ?_)))))))
  exact⟨q,by omega,N,O,P,fun j I=>by
   rcases Nat.lt_or_eq_of_le (Nat.le_of_lt_succ I)with h|h
   ·exact Q j h
   ·subst h;unfold jI;exact decide_eq_true Oh⟩
 (have S:=dF R);refine dY (bU (bU (eT (au (ns (ar q ?_))))));exact jq trivial q q ⟨py (WB N O P (fun j I=>Q j Oh)).symm,q⟩
theorem aax (v:Value) (l:Ly) (w:World) (hB:By w v l) :
  Calls Zp 74 #[v] w fun e w'=>e = .returned (.tuple #[qJ (qZ l),.int .i64 (jU l)])∧Md [] w w':=by
 have M:=Md.refl [] w;refine enter (n:=34) Tryz.func74 q q q fun B=>ns (cw zY ?_);intro U c L a D C;replace L:=ly M.size L;replace M:=M.k D;refine an q (nm q (ri gX ko Om q q q ⟨q,tV⟩ Om ?_));intro T d Q Z D R;have S:U≠T:=(by have:=C.lt;omega);replace Q:=ly M.size Q;obtain⟨C,M⟩:=k2 D C M;refine ax ajx q (aeV v _ l 61 _ (hB.o M) (By.e5 (show cg _ _ (([61]:Ly).map b8) _ from R) q Om)) ?_;rintro e Y ⟨x,y,b,rfl,D,W,V⟩;refine rv ?_;clear R;obtain⟨C,M⟩:=k2 D C M;refine mv q (se q q (se q q (se q q (dP q (dP q (an q (aP (bG (nm q (st _ (jw q) (mv q ?_)))))))))));refine dQ (t:=17) q (fun A=>?_) (fun A=>?_)
 ·(have F:=AB A);refine sk A (sk A (sk A (sk A (st _ (bF q A q) (an q (iF q q (ns (st (.agg [_,_].toArray) (nJ (ps:=[]) zY xM q q trivial q q q) (iN q q (by exact gI) (by simp[Value.oneCell']) C (by rfl) ?_)))))))));have J:=C;clear C;intro f D C;replace M:=M.fW D L;refine ar q (bE (aS ?_));have G:jU l=20:=(by unfold jU;rw[if_pos (V F)]);have K:=ze (s:=l) (by rw[G];decide);exact XA trivial q q (by exact gI) C q ⟨by rw[G,K];rfl,M⟩
 (have F:=AA A);obtain⟨X,O,P⟩:=W F;refine sg A (bf q) (sg A (rX gX u5 u9 q O) (gL q q q A ajQ q (PI (l.take (Lib.indexByte l 61).toNat) _) ?_));rintro e _ ⟨rfl,rfl⟩;refine rv ?_;refine sg A (jw q) (st _ (aY q A q) (an q ?_));refine cu q (fun H=>?_) (fun H=>?_)
 ·(have E:=AB H);refine ns (st (.agg [_,_].toArray) (nJ (ps:=[]) zY xM q q trivial q q q) (iN q q (by exact gI) (by simp[Value.oneCell']) C (by rfl) ?_));have J:=C;clear C;intro g D C;clear O;clear P;replace M:=M.fW D L;refine ar q (bE (aS ?_));have G:jU l=20:=(by unfold jU;rw[if_neg Oh,if_pos E]);have K:=ze (s:=l) (by rw[G];decide);exact XA trivial q q (by exact gI) C q ⟨by rw[G,K];rfl,M⟩
 (have E:=AA H);refine nm q (sL q gX P.eJ (st _ (wN q q) (an q ?_)));refine cu q (fun I=>?_) (fun I=>?_)
 ·(have N:=dT I);refine ns (st (.agg [_,_].toArray) (nJ (ps:=[]) zY xM q q trivial q q q) (iN q q (by exact gI) (by simp[Value.oneCell']) C (by rfl) ?_));have J:=C;clear C;intro h D C;clear O;clear P;replace M:=M.fW D L;refine ar q (bE (aS ?_));have G:jU l=21:=(by unfold jU;rw[if_neg Oh,if_neg (by simp[E]),if_pos Oh]);have K:=ze (s:=l) (by rw[G];decide);exact XA trivial q q (by exact gI) C q ⟨by rw[G,K];rfl,M⟩
 (have N:=dF I);refine bh (bX (au (nm q (st _ (rX gX u5 u9 q O) (mv q (st _ (rX gX u5 u9 q P) (st (.agg [_,_].toArray) (nJ (ps:=[(0,0),(1,1)]) zY xM q q ⟨q,q,tV⟩ q q q) (iN q q (by exact gI) (by simp[Value.oneCell',str]) C (by rfl) ?_))))))));have J:=C;clear C;intro i D C;clear O;clear P;replace M:=M.fW D L;refine ar q ?_;have G:jU l=0:=(by unfold jU;rw[if_neg Oh,if_neg (by simp[E]),if_neg Oh]);have K:qZ l=(l.take (Lib.indexByte l 61).toNat,l.drop ((Lib.indexByte l 61).toNat+1)):=(by unfold qZ;rw[if_pos G]);exact XA trivial q q (by exact gI) C q ⟨by rw[G,K];rfl,M⟩
theorem DN (uQ:Up w Q) {v0:Value} {l:Ly} (h0:Ls fF w Q v0 l) :
  Calls Zp 74 #[v0] w fun en w'=>∃r0:Pr,∃r1:Nat,en = .returned (.tuple #[.agg (Pr.cells r0).toArray,(.int .i64 r1)])∧Md [] w w'∧r1<9223372036854775808∧nO l=(r0,r1):=by
 refine(aax _ l w h0.by).mono fun en w' ⟨he,hm⟩=>⟨(nO l).1,(nO l).2,?_,hm,aaw l,q⟩;rw[he,TN l]
 rfl
theorem ahy:gZ Zp 187 3=true:=Ym
theorem ah0:gZ Zp 216 6=true:=Ym
theorem sB:gZ Zp 225 4=true:=Ym
theorem mW:gZ Zp 34 16=true:=Ym
theorem ajl:ea Zp 100=true:=Ym
theorem ajm:ea Zp 101=true:=Ym
theorem agX:ea Zp 102=true:=Ym
theorem ajn:ea Zp 103=true:=Ym
theorem ajo:ea Zp 104=true:=Ym
theorem aju:ea Zp 113=true:=Ym
theorem agZ:ea Zp 114=true:=Ym
theorem ahe:ea Zp 128=true:=Ym
theorem ahf:ea Zp 129=true:=Ym
theorem r9:ea Zp 130=true:=Ym
theorem VE:ea Zp 135=true:=Ym
theorem abM:ea Zp 136=true:=Ym
theorem zA:ea Zp 137=true:=Ym
theorem rB:ea Zp 138=true:=Ym
theorem IC:ea Zp 142=true:=Ym
theorem IE:ea Zp 143=true:=Ym
theorem alk:ea Zp 57=true:=Ym
theorem ajL:ea Zp 58=true:=Ym
theorem al3:ea Zp 99=true:=Ym
theorem rR:bg Zp 187 0=some 0:=Ym
theorem oK:bg Zp 187 1=some 1:=Ym
theorem oL:bg Zp 187 2=some 2:=Ym
theorem rT:bg Zp 216 0=some 0:=Ym
theorem xK:bg Zp 216 1=some 1:=Ym
theorem rU:bg Zp 216 2=some 2:=Ym
theorem rV:bg Zp 216 3=some 3:=Ym
theorem ER:bg Zp 216 4=some 4:=Ym
theorem oM:bg Zp 216 5=some 5:=Ym
theorem akr:gY Zp 187=some [(0,1),(1,1),(2,1)]:=Ym
theorem aht:gY Zp 216=some [(0,1),(1,1),(2,1),(3,1),(4,1),(5,1)]:=Ym
theorem ahu:gY Zp 225=some [(0,1),(1,1),(2,1),(3,1)]:=Ym
theorem agB:Zp.underlying 131=some (.int .u64):=Ym
theorem ak9:Zp.underlying 188=some (.array 12 5):=Ym
theorem aiU:Zp.underlying 217=some (.array 8 5):=Ym
theorem tN:Zp.underlying 225=some (.array 4 26):=Ym
theorem akC:fP Zp 187=some [.int .u32 0,.int .u32 0,.int .u32 0]:=Ym
theorem alK:fP Zp 188=some (List.replicate 12 (.int .u8 0)):=Ym
theorem aiW:fP Zp 216=some [.int .u64 0,.int .u64 0,.int .u64 0,.int .u64 0,.int .i64 0,.slice none 0 0]:=Ym
theorem alN:fP Zp 217=some (List.replicate 8 (.int .u8 0)):=Ym
theorem agH:fP Zp 225=some [.int .u64 0,.int .u64 0,.int .u64 0,.int .u64 0]:=Ym
theorem adZ (n:Int) (w:World):Calls Zp 56 #[.int .i64 n] w fun e w'=>e = .returned (.bool (szB n))∧w=w':=by
 have M:=Md.refl [] w;refine enter (n:=17) Tryz.func56 q q q fun B=>ns (an q (nm q (st _ (nj q q) (mv q ?_))));refine dQ (t:=5) q (fun C=>?_) (fun C=>?_)
 ·(have F:=dT C);refine sk C (sk C (st _ (bF q C q) (mv q (sk q (sk q (st _ (bF q q q) (mv q (sk q (sk q (st _ (bF q q q) (ar q ?_)))))))))));exact jq trivial q q ⟨py (by rw[Bool.eq_iff_iff];simp[szB];omega),q⟩
 (have F:=dF C);refine sg C (bf q) (sg C (nj q q) (st _ (aY q C q) (mv q ?_)));refine dQ (t:=9) q (fun D=>?_) (fun D=>?_)
 ·(have G:=dT D);refine sk D (sk D (st _ (bF q D q) (mv q (sk q (sk q (st _ (bF q q q) (ar q ?_)))))));exact jq trivial q q ⟨py (by rw[Bool.eq_iff_iff];simp[szB];omega),q⟩
 (have G:=dF D);refine sg D (bf q) (sg D (nj q q) (st _ (aY q D q) (mv q ?_)));refine dQ (t:=13) q (fun A=>?_) (fun A=>?_)
 ·(have E:=dT A);refine sk A (sk A (st _ (bF q A q) (ar q ?_)));exact jq trivial q q ⟨py (by rw[Bool.eq_iff_iff];simp[szB];omega),q⟩
 (have E:=dF A);refine sg A (bf q) (sg A (nj q q) (st _ (aY q A q) (ar q ?_)));exact jq trivial q q ⟨py (by rw[Bool.eq_iff_iff];simp[szB];omega),q⟩
theorem wJ (v:Value) (l:Ly) (a n:Int) (w:World) (hB:By w v l) (hn:n=1∨n=2∨n=4∨n=8) (ha:0≤a) (hl:a+n≤l.length) :
    Calls Zp 26 #[v,.int .i64 a,.int .i64 n] w fun e w'=>e = .returned (.tuple #[.int .u64 (je ((l.drop a.toNat).take n.toNat)),.bool true])∧w=w':=by
  have E:szB n=true:=(by simp[szB];omega);have I:=hB.gd;have M:=Md.refl [] w;refine enter (n:=42) Tryz.func26 q q q fun B=>ns (dP q (an q (aP (nm q (ax ajK q (adZ _ _) ?_)))));rintro e _ ⟨rfl,rfl⟩;refine rv ?_;refine st _ (jw q) (mv q (aed _ q q q (by rw[E];rfl) (bf q) (aed _ q q q (by rw[E];rfl) (sd q q) (st _ (aY q (by rw[E];rfl) q) (mv q ?_)))));refine dQ (t:=17) q (fun A=>?_) (fun A=>?_)
  · (have F:=dT A);exfalso;omega
  (have F:=dF A);refine sg A (bf q) (sg A (bf q) (sg A (jK q gX hB.eJ) (sg A (bf q) (sg A (lV q q Oh) (sg A (wN q q) (st _ (aY q A q) (nt ?_)))))));refine cu q (fun C=>?_) (fun C=>?_)
  · (have G:=dT C);exfalso;omega
  (have G:=dF C);refine bh (au (ns (an q (aP (nm q (st _ (lV q q Oh) (dP q (nt (bG ?_)))))))));refine kQ (X:=Nat) (fun k=>[(0,v),(1,.int .i64 a),(8,.int .u64 (je ((l.drop (a.toNat+(n.toNat-k))).take k))),(9,.int .i64 (n-1-k))]) (fun k w'=>w=w'∧(k:Int)≤n) (fun k=>(n-k).toNat) 0 ?_ ?_ ?_
  · exact⟨q,q,fu q (by simp[je]),fu q Oh,tV⟩
  · exact⟨q,by omega⟩
  clear M
  rintro k B J ⟨rfl,hk⟩;refine aP (nm q (st _ (rY q q) (nt ?_)));refine cu q (fun D=>?_) (fun D=>?_)
  · (have H:=dT D);refine bh (au (aP (bG (aQ (mv q (st _ (qN q q Oh) (m2 q q (mv q (st _ (gh q q Oh) (st _ (ML q q gX nS hB.eJ Oh) (st _ (MN q tL hB Oh) (st _ (j7 (by rw[u5];rfl) lZ q) ?_))))))))))));refine st _ (yY q q) (dP q (aI (bX (au (aQ (mv q (st _ (lV q q Oh) (an q (next (k+1) Oh ⟨q,q,fu q (YO a n k hn ha hl Oh),fu q Oh,tV⟩ ?_)))))))));exact⟨q,by omega⟩
  (have H:=dF D);refine dY (bU (bU (eT (au (nm q (dP q (ar q ?_)))))));exact alF trivial q q q ⟨alG (by obtain rfl:(k:Int)=n:=Oh;simp),q⟩
theorem jD (x k:Int) (w:World) (h0:0≤k) (h1:k<32):Calls Zp 130 #[.int .u32 x,.int .i64 k] w fun e w'=>e = .returned (.int .u32 (tF x k))∧w=w':=by
 have M:=Md.refl [] w;refine enter (n:=17) Tryz.func130 q q q fun B=>ns (an q (nm q (st _ (j7 (by rw[u3];rfl) agB q) (st _ ((adD q q).kr (ajc h0 h1)) (dP q (nt (ns (m2 q q (st _ (qN q q Oh) (mv q ?_))))))))));refine mv q (st _ ((jA q q).kr (wrap_u64 Oh Oh)) (st _ (QE q q Oh) (st _ (yY q q) (ar q ?_))));exact jq trivial q q ⟨q,q⟩
theorem pL (x k:Int) (w:World) (h0:0≤k) (h1:k<64):Calls Zp 142 #[.int .u64 x,.int .i64 k] w fun e w'=>e = .returned (.int .u64 (zL x k))∧w=w':=by
 have M:=Md.refl [] w;refine enter (n:=17) Tryz.func142 q q q fun B=>ns (an q (nm q (st _ (j7 (by rw[u3];rfl) agB q) (st _ ((adD q q).kr (ajd h0 h1)) (dP q (nt (ns (m2 q q (st _ (qN q q Oh) (mv q ?_))))))))));refine mv q (st _ ((jA q q).kr (wrap_u64 Oh Oh)) (st _ (QE q q Oh) (st _ (yY q q) (ar q ?_))));exact jq trivial q q ⟨q,q⟩
theorem kK (x k:Int) (w:World) (h0:0≤k) (h1:k<32):Calls Zp 138 #[.int .u32 x,.int .u64 k] w fun e w'=>e = .returned (.int .u32 (tF x k))∧w=w':=by
 have M:=Md.refl [] w;refine enter (n:=13) Tryz.func138 q q q fun B=>ns (an q (ns (m2 q q (st _ (qN q q Oh) (mv q (mv q (st _ ((jA q q).kr (wrap_u64 Oh Oh)) (st _ (QE q q Oh) (st _ (yY q q) (dP q (nt ?_)))))))))));refine iP ?_;exact jq trivial q q ⟨q,q⟩
theorem zi (x k:Int) (w:World) (h0:0≤k) (h1:k<64):Calls Zp 143 #[.int .u64 x,.int .u64 k] w fun e w'=>e = .returned (.int .u64 (zL x k))∧w=w':=by
 have M:=Md.refl [] w;refine enter (n:=13) Tryz.func143 q q q fun B=>ns (an q (ns (m2 q q (st _ (qN q q Oh) (mv q (mv q (st _ ((jA q q).kr (wrap_u64 Oh Oh)) (st _ (QE q q Oh) (st _ (yY q q) (dP q (nt ?_)))))))))));refine iP ?_;exact jq trivial q q ⟨q,q⟩
theorem QZ (b:Nat) (t:T3) (v:Value) (l:Ly) (w:World) (hT:cg w b t.cells 187) (hB:By w v l) (hA:Apart v l [b]) (hl:12≤l.length) :
  Calls Zp 102 #[.pointer (some ⟨b,0,none⟩),v] w fun e w'=>e = .returned (.tuple #[])∧Md [b] w w'∧cg w' b (mV t l).cells 187:=by
 have M:=Md.refl [b] w;refine enter (n:=52) Tryz.func102 q q q fun B=>nm q (ax yw q (wJ _ _ 0 4 _ (hB.md M hA) Om Om Oh) ?_);rintro e _ ⟨rfl,rfl⟩;refine rv ?_;refine mv q (se q q (se q q (dP q (an q (nm q (ax yw q (wJ _ _ 4 4 _ (hB.md M hA) Om Om Oh) ?_))))));rintro e _ ⟨rfl,rfl⟩;refine rv ?_;refine mv q (se q q (se q q (dP q (an q (nm q (ax yw q (wJ _ _ 8 4 _ (hB.md M hA) Om Om Oh) ?_))))));rintro e _ ⟨rfl,rfl⟩;refine rv ?_;refine mv q (se q q (se q q (dP q (an q (nm q (sn q (sf q rR (st _ (aC q jj hT q) (mv q (st _ (j7 (by rw[lZ];rfl) iJ q) (st _ (jm q q) ?_)))))))))));refine sn q (sf q rR (bK q q jj q hT (lB q) ?_));have A:=hT;clear hT;intro D C hT;replace M:=M.jd C Oq;refine nt (nm q (sn q (sf q oK (st _ (aC q jj hT q) (mv q (st _ (j7 (by rw[lZ];rfl) iJ q) (st _ (jm q q) (sn q (sf q oK (bK q q jj q hT (lB q) ?_))))))))));have A:=hT;clear hT;intro E C hT;replace M:=M.jd C Oq;refine nt (aQ (mv q (sn q (sf q oL (st _ (aC q jj hT q) ?_)))))
 refine mv q (st _ (j7 (by rw[lZ];rfl) iJ q) (st _ (jm q q) (sn q (sf q oL (bK q q jj q hT (lB q) ?_)))));have A:=hT;clear hT;intro F C hT;replace M:=M.jd C Oq;refine aI ?_;refine aak trivial q ⟨q,M,?_⟩;rw[show(mV t l).cells=([.int .u32 (mV t l).x,.int .u32 (mV t l).y,.int .u32 (mV t l).z]:List Value)from rfl];simp only[mV,← DU l 0 Oh,← DU l 4 Oh,← DU l 8 Oh];exact hT
theorem aeh (b:Nat) (t:T3) (w:World) (hT:cg w b t.cells 187) :
  Calls Zp 103 #[.pointer (some ⟨b,0,none⟩)] w fun e w'=>e = .returned (.tuple #[])∧Md [b] w w'∧cg w' b (mix t).cells 187:=by
 have M:=Md.refl [b] w;refine enter (n:=89) Tryz.func103 q q q ?_;intro B;refine aP (AE (fun w'=>Md [] w w') eD Ym (Md.drew w) (qz _ (fun w' m=>bf q) (qz _ (fun w' m=>dr q) (qz _ (fun w' m=>aM q rR) (qz _ (fun w' m=>aC q jj (hT.o m) q) (qz _ (fun w' m=>bf q) (qz _ (fun w' m=>dr q) (qz _ (fun w' m=>aM q oK) (qz _ (fun w' m=>aC q jj (hT.o m) q) (qz _ (fun w' m=>bf q) (qz _ (fun w' m=>dr q) (qz _ (fun w' m=>aM q oL) (qz _ (fun w' m=>aC q jj (hT.o m) q) ?_)))))))))))));refine qz _ (fun w' m=>eI q) (qz _ (fun w' m=>eI q) (qz _ (fun w' m=>eI q) (WX ?_)));intro D A;obtain⟨hT,M⟩:=k2 A hT M;refine au (ns (m2 q q (st _ (jA q q) (an q (nm q (mv q (ax r9 q (jD _ _ _ Om Om) ?_)))))));rintro e _ ⟨rfl,rfl⟩;refine rv ?_;refine st _ (gg q q) (an q (ns (m2 q q (st _ (jm q q) (dP q (nt (nm q (mv q (st _ (jA q q) (dP q ?_))))))))));refine nt (ns (m2 q q (ax r9 q (jD _ _ _ Om Om) ?_)));rintro e _ ⟨rfl,rfl⟩;refine rv ?_;refine st _ (gg q q) (an q (ns (m2 q q (st _ (jm q q) (dP q (nt (nm q (mv q (st _ (jA q q) ?_)))))))))
 refine an q (ns (m2 q q (ax r9 q (jD _ _ _ Om Om) ?_)));rintro e _ ⟨rfl,rfl⟩;refine rv ?_;refine st _ (gg q q) (an q (ns (m2 q q (st _ (jm q q) (dP q (nt (nm q (mv q (st _ (jA q q) (dP q ?_))))))))));refine nt (ns (m2 q q (ax r9 q (jD _ _ _ Om Om) ?_)));rintro e _ ⟨rfl,rfl⟩;refine rv ?_;refine st _ (gg q q) (an q (ns (m2 q q (st _ (jm q q) (dP q (nt (nm q (mv q (st _ (jA q q) (dP q ?_))))))))));refine nt (ns (m2 q q (ax r9 q (jD _ _ _ Om Om) ?_)));rintro e _ ⟨rfl,rfl⟩;refine rv ?_;refine st _ (gg q q) (an q (ns (m2 q q (st _ (jm q q) (dP q (nt (nm q (mv q (st _ (jA q q) (dP q ?_))))))))));refine nt (ns (m2 q q (ax r9 q (jD _ _ _ Om Om) ?_)));rintro e _ ⟨rfl,rfl⟩;refine rv ?_;refine st _ (gg q q) (an q (ns ?_))
 refine m2 q q (st _ (jm q q) (an q (aQ (mv q (mv q (mv q (mv q (mv q (mv q (sn q (sf q rR ?_)))))))))));refine bK q q jj q hT (lB q) ?_;have C:=hT;clear hT;intro E A hT;replace M:=M.jd A Oq;refine sn q (sf q oK (bK q q jj q hT (lB q) ?_));have C:=hT;clear hT;intro F A hT;replace M:=M.jd A Oq;refine sn q (sf q oL (bK q q jj q hT (lB q) ?_));have C:=hT;clear hT;intro G A hT;replace M:=M.jd A Oq;refine aI ?_;exact aak trivial q ⟨q,M,hT⟩
theorem aa5 (b:Nat) (t:T3) (w:World) (hT:cg w b t.cells 187) :
  Calls Zp 104 #[.pointer (some ⟨b,0,none⟩)] w fun e w'=>e = .returned (.tuple #[])∧Md [b] w w'∧cg w' b (last t).cells 187:=by
 have M:=Md.refl [b] w;refine enter (n:=78) Tryz.func104 q q q ?_;intro B;refine aP (AE (fun w'=>Md [] w w') eD Ym (Md.drew w) (qz _ (fun w' m=>bf q) (qz _ (fun w' m=>dr q) (qz _ (fun w' m=>aM q rR) (qz _ (fun w' m=>aC q jj (hT.o m) q) (qz _ (fun w' m=>bf q) (qz _ (fun w' m=>dr q) (qz _ (fun w' m=>aM q oK) (qz _ (fun w' m=>aC q jj (hT.o m) q) (qz _ (fun w' m=>bf q) (qz _ (fun w' m=>dr q) (qz _ (fun w' m=>aM q oL) (qz _ (fun w' m=>aC q jj (hT.o m) q) ?_)))))))))))));refine qz _ (fun w' m=>eI q) (qz _ (fun w' m=>eI q) (qz _ (fun w' m=>eI q) (WX ?_)));intro D A;obtain⟨hT,M⟩:=k2 A hT M;refine au (ns (m2 q q (st _ (gg q q) (an q (nm q (mv q (ax r9 q (jD _ _ _ Om Om) ?_)))))));rintro e _ ⟨rfl,rfl⟩;refine rv ?_;refine st _ (jA q q) (an q (ns (m2 q q (st _ (gg q q) (dP q (nt (nm q (mv q (ax r9 q (jD _ _ _ Om Om) ?_)))))))));rintro e _ ⟨rfl,rfl⟩;refine rv ?_;refine st _ (jA q q) (an q (ns (m2 q q (st _ (gg q q) (dP q (nt (nm q (mv q (ax r9 q (jD _ _ _ Om Om) ?_)))))))));rintro e _ ⟨rfl,rfl⟩;refine rv ?_;refine st _ (jA q q) (an q (aP ?_))
 refine aQ (m2 q q (st _ (gg q q) (an q (nm q (mv q (ax r9 q (jD _ _ _ Om Om) ?_))))));rintro e _ ⟨rfl,rfl⟩;refine rv ?_;refine st _ (jA q q) (an q (ns (m2 q q (st _ (gg q q) (dP q (nt (nm q (mv q (ax r9 q (jD _ _ _ Om Om) ?_)))))))));rintro e _ ⟨rfl,rfl⟩;refine rv ?_;refine st _ (jA q q) (an q (ns (m2 q q (st _ (gg q q) (dP q (nt (nm q (mv q (ax r9 q (jD _ _ _ Om Om) ?_)))))))));rintro e _ ⟨rfl,rfl⟩;refine rv ?_;refine st _ (jA q q) (an q (ns (m2 q q (st _ (gg q q) (dP q (nt (nm q (mv q (ax r9 q (jD _ _ _ Om Om) ?_)))))))));rintro e _ ⟨rfl,rfl⟩;refine rv ?_;refine st _ (jA q q) (an q (aQ (m2 q q (mv q (mv q (mv q (mv q (sn q (sf q rR (bK q q jj q hT (lB q) ?_))))))))));have C:=hT;clear hT;intro E A hT;replace M:=M.jd A Oq;refine sn q (sf q oK (bK q q jj q hT (lB q) ?_))
 have C:=hT;clear hT;intro F A hT;replace M:=M.jd A Oq;refine sn q (sf q oL (bK q q jj q hT (lB q) ?_));have C:=hT;clear hT;intro G A hT;replace M:=M.jd A Oq;refine aI ?_;exact aak trivial q ⟨q,M,hT⟩
theorem EC (v:Value) (l:Ly) (w:World) (hB:By w v l) :
  Calls Zp 58 #[v] w fun e w'=>e = .returned (.int .u64 (lookup l))∧Md [] w w':=by
 have Q:=hB.gd;have M:=Md.refl [] w;refine enter (n:=40) Tryz.func58 q q q fun B=>ns (an q (nm q (sL q gX hB.eJ (st _ (j7 (by rw[u3];rfl) iJ q) (st _ (jm q q) (dP q (nt (ns (m2 q q (mv q ?_))))))))));refine st (.agg [_,_,_].toArray) (nJ (ps:=[(0,0),(1,1),(2,2)]) akC akr q q ⟨q,q,q,tV⟩ q q q) (cw akC ?_);intro G W F V C A;replace F:=ly M.size F;replace M:=M.k C;refine iN q q (by exact ahy) (by simp[Value.oneCell']) A (by rfl) ?_;have E:=A;clear A;intro Y C A;replace M:=M.fW C F;refine nt (aP (bG ?_));refine kQ (X:=T3 × List UInt8 × Value) (fun x=>[(0,x.2.2),(4,.pointer (some ⟨G,0,none⟩))]) (fun x w'=>Md [] w w'∧cg w' G x.1.cells 187∧By w x.2.2 x.2.1∧lk x.1 x.2.1=lookup l∧x.2.1.length≤l.length) (fun x=>x.2.1.length) (SE l,l,v) ?_ ?_ ?_
 ·exact⟨q,q,tV⟩
 ·exact⟨M,A,hB,q,Nat.le_refl _⟩
 clear M
 clear A hB;rintro x B Z ⟨M,A,hB,K,S⟩;refine aP (nm q (sL q gX hB.eJ (st _ (wN q q) (nt ?_))));refine cu q (fun H=>?_) (fun H=>?_)
 ·(have L:=dT H);refine bh (au (bG (nm q (st _ (pF 0 12 gX nS q hB.eJ Oh Oh q ⟨_,q⟩) (ax agX q (QZ G x.1 _ _ _ A ((hB.o M).sub 0 12 Oh Oh) ((NK hB F).sub 0 12) Vw) ?_)))));have E:=A;clear A;rintro e a ⟨rfl,C,A⟩;refine rv ?_;replace M:=M.fW C F;refine nt (ns (ax ajn q (aeh G _ _ A) ?_));have E:=A;clear A;rintro e b ⟨rfl,C,A⟩;refine rv ?_;replace M:=M.fW C F;refine nt (aQ (mv q (st _ (pF 12 x.2.1.length gX nS q hB.eJ Oh Oh ⟨_,q⟩ q) (dP q (aI (bX (au (next ((mix (mV x.1 ((x.2.1.take 12).drop 0)),(x.2.1.take x.2.1.length).drop 12,p6 x.2.2 12 x.2.1.length)) Vw ⟨q,q,tV⟩ ?_))))))));refine⟨M,A,hB.sub 12 _ Oh Oh,?_,by simp;omega⟩;rw[List.drop_zero,RA _ _ 12 Oh,List.take_length,← VS _ _ Oh];exact K
 (have L:=dF H);refine dY (bU (bU (eT (au (aP (nm q (sL q gX hB.eJ (st _ (wN q q) (nt ?_)))))))));refine cu q (fun I=>?_) (fun I=>?_)
 ·(have D:=dT I);refine ns (cw alK ?_);intro P c O U C J;have N:G≠P:=(by have:=A.lt;omega);replace O:=ly M.size O;obtain⟨A,M⟩:=k2 C A M;refine nt (ns (st _ (ir ak9 nS q Om) (mv q (AY gX nS q q J (hB.o M) (yR _) Vw ?_))));have R:=J;clear J;intro T C J;replace A:=A.tC C Oh;replace M:=M.fW C O;refine aI ?_;replace J:cg T P ((tE 12 x.2.1).map b8) 188:=(by rw[← GB (m:=12) Oh];exact J);refine au (ns (st _ (ir ak9 nS q Om) (ax agX q (QZ G x.1 _ _ _ A (By.e5 J (rW 12 _ Oh) Om) (ah2 (Ne.symm N)) (by rw[rW 12 _ Oh];omega)) ?_)));have E:=A;clear A;rintro e d ⟨rfl,C,A⟩;refine rv ?_;replace M:=M.fW C F;refine nt (aQ (ax ajo q (aa5 G _ _ A) ?_));have E:=A;clear A;rintro e f ⟨rfl,C,A⟩;refine rv ?_;replace M:=M.fW C F;refine nt (ns (sf q oL (st _ (aC q jj A q) (st _ (j7 (by rw[iJ];rfl) lZ q) (st _ (qN q q Oh) (sf q oK (st _ (aC q jj A q) (st _ (j7 (by rw[iJ];rfl) lZ q) (st _ (yY q q) (ar q ?_))))))))));refine jq trivial q q ⟨zV (Eq.trans ?_ K),M⟩;rw[VQ x.1 x.2.1 (by intro h;rw[h]at D;simp at D) Oh,← XM x.1 12 x.2.1];rfl
 (have D:=dF I);refine bh (au (ns (sf q oL (st _ (aC q jj A q) (st _ (j7 (by rw[iJ];rfl) lZ q) (st _ (qN q q Oh) (sf q oK (st _ (aC q jj A q) (st _ (j7 (by rw[iJ];rfl) lZ q) (st _ (yY q q) (ar q ?_)))))))))));refine jq trivial q q ⟨zV (Eq.trans ?_ K),M⟩;rw[show x.2.1=[]from List.eq_nil_of_length_eq_zero Oh,ain];rfl
theorem oQ (v:Value) (l:Ly) (a:Int) (w:World) (hB:By w v l) (ha:0≤a) (ha2:a≤4611686018427387904) :
  Calls Zp 137 #[v,.int .i64 a] w fun e w'=>e = .returned (.int .u32 (wL l a.toNat))∧w=w':=by
 have F:=hB.gd;have M:=Md.refl [] w;refine enter (n:=29) Tryz.func137 q q q fun B=>ns (an q (ns (dP q (nt (aP (ns (dP q (nt (bG ?_)))))))));refine kQ (X:=Nat) (fun k=>[(0,v),(1,.int .i64 a),(5,.int .u32 (xj l a.toNat k)),(6,.int .i64 (3-k))]) (fun k w'=>w=w'∧k≤4) (fun k=>4-k) 0 ?_ ?_ ?_
 ·exact⟨q,q,q,q,tV⟩
 ·exact⟨q,by omega⟩
 clear M
 rintro k B G ⟨rfl,hk⟩;have M:=Md.refl [] w;refine aP (nm q (st _ (rY q q) (nt ?_)));refine cu q (fun D=>?_) (fun D=>?_)
 ·(have E:=dT D);refine bh (au (aP (bG (nm q (st _ (qN q q Oh) (an q (ns (m2 q q (st _ (gh q q Oh) (mv q ?_))))))))));refine sL q gX hB.eJ (st _ (sd q q) (nt ?_));refine cu q (fun A=>?_) (fun A=>?_)
  ·(have C:=dT A);refine aQ (m2 q q (mv q (mv q (st _ (gh q q Oh) (st _ (ML q q gX nS hB.eJ Oh) (st _ (MN q tL (hB.o M) Oh) (st _ (j7 (by rw[u5];rfl) iJ q) (st _ (yY q q) (dP q (aI (bX (au ?_))))))))))));refine aQ (mv q (st _ (lV q q Oh) (an q (next (k+1) Oh ⟨q,q,fu q (agF l a k ha Oh Oh),fu q Oh,tV⟩ ?_))));exact⟨q,by omega⟩
  (have C:=dF A);refine bh (bX (au (aQ (mv q (st _ (lV q q Oh) (an q (next (k+1) Oh ⟨q,q,fu q (aep l a k ha Oh Oh),fu q Oh,tV⟩ ?_)))))));exact⟨q,by omega⟩
 (have E:=dF D);refine dY (bU (bU (eT (au (nm q (ar q ?_))))));exact jq trivial q q ⟨zV (by obtain rfl:k=4:=Oh;rfl),q⟩
theorem zK (v:Value) (l:Ly) (w:World) (hB:By w v l) (hl:l.length≤4611686018427387000) :
  Calls Zp 114 #[v] w fun e w'=>e = .returned (.int .u64 (lookup l))∧w=w':=by
 have G:=hB.gd;have M:=Md.refl [] w;refine enter (n:=178) Tryz.func114 q q q fun B=>ns (an q (nm q (sL q gX hB.eJ (st _ (j7 (by rw[u3];rfl) iJ q) (st _ (jm q q) (dP q (nt (ns (m2 q q (dP q ?_))))))))));refine an q (aP (nm q (sL q gX hB.eJ (st _ (nj q q) (nt ?_)))));refine cu q (fun A=>?_) (fun A=>?_)
 ·(have D:=dT A);refine nm q (st _ (j7 (by rw[iJ];rfl) lZ q) (st _ (qN q q Oh) (mv q (st _ (j7 (by rw[iJ];rfl) lZ q) (st _ (yY q q) (ar q (aS ?_)))))));refine jq trivial q q ⟨zV ?_,q⟩;rw[show l=[]from List.eq_nil_of_length_eq_zero Oh];rfl
 (have D:=dF A);refine bh (au (ns (an q (aP (bG ?_)))));refine kQ (X:=T3 × Nat) (fun x=>[(0,v),(3,.int .u32 x.1.x),(4,.int .u32 x.1.y),(5,.int .u32 x.1.z),(6,.int .i64 x.2)]) (fun x w'=>w=w'∧x.2<l.length∧lk x.1 (l.drop x.2)=lookup l) (fun x=>l.length-x.2) (SE l,0) ?_ ?_ ?_
 ·exact⟨q,q,q,q,q,tV⟩
 ·exact⟨q,by omega,q⟩
 clear M
 rintro x B H ⟨rfl,hk,F⟩;have M:=Md.refl [] w;refine aP (nm q (sL q gX hB.eJ (mv q (st _ (lV q q Oh) (st _ (wN q q) (nt ?_))))));refine cu q (fun C=>?_) (fun C=>?_)
 ·(have E:=dT C);refine bh (au (bG (ns (m2 q q (mv q (ax zA q (oQ _ _ _ _ (hB.o M) Oh Oh) ?_))))));rintro e _ ⟨rfl,rfl⟩;refine rv ?_;refine st _ (jm q q) (m2 q q (mv q (st _ (gh q q Oh) (ax zA q (oQ _ _ _ _ (hB.o M) Oh Oh) ?_))));rintro e _ ⟨rfl,rfl⟩;refine rv ?_;refine st _ (jm q q) (m2 q q (mv q (st _ (gh q q Oh) (ax zA q (oQ _ _ _ _ (hB.o M) Oh Oh) ?_))));rintro e _ ⟨rfl,rfl⟩;refine rv ?_;refine st _ (jm q q) (dP q (dP q (an q (ns (m2 q q (st _ (jA q q) (dP q (nt (nm q (mv q ?_))))))))));refine ax rB q (kK _ _ _ Om Om) ?_;rintro e _ ⟨rfl,rfl⟩;refine rv ?_;refine st _ (gg q q) (an q (ns (m2 q q (st _ (jm q q) (dP q (nt (nm q (mv q (st _ (jA q q) (dP q ?_))))))))));refine nt (ns (m2 q q (ax rB q (kK _ _ _ Om Om) ?_)));rintro e _ ⟨rfl,rfl⟩;refine rv ?_;refine st _ (gg q q) (an q (ns (m2 q q (st _ (jm q q) ?_))))
  refine an q (ns (m2 q q (st _ (jA q q) (dP q (nt (nm q (mv q (ax rB q (kK _ _ _ Om Om) ?_))))))));rintro e _ ⟨rfl,rfl⟩;refine rv ?_;refine st _ (gg q q) (an q (ns (m2 q q (st _ (jm q q) (dP q (nt (nm q (mv q (st _ (jA q q) (dP q ?_))))))))));refine nt (ns (m2 q q (ax rB q (kK _ _ _ Om Om) ?_)));rintro e _ ⟨rfl,rfl⟩;refine rv ?_;refine st _ (gg q q) (an q (ns (m2 q q (st _ (jm q q) (dP q (nt (nm q (mv q (st _ (jA q q) (dP q ?_))))))))));refine nt (ns (m2 q q (ax rB q (kK _ _ _ Om Om) ?_)));rintro e _ ⟨rfl,rfl⟩;refine rv ?_;refine st _ (gg q q) (an q (ns (m2 q q (st _ (jm q q) (dP q (nt (nm q (mv q (st _ (jA q q) (dP q ?_))))))))));refine nt (ns (m2 q q (ax rB q (kK _ _ _ Om Om) ?_)))
  rintro e _ ⟨rfl,rfl⟩;refine rv ?_;refine st _ (gg q q) (an q (ns (m2 q q (st _ (jm q q) (dP q (nt (aQ (mv q (st _ (gh q q Oh) (dP q (aI ?_)))))))))));refine bX (au (next ((mix ⟨tO (x.1.x+wL l (x.2:Int).toNat),tO (x.1.y+wL l (x.2+4:Int).toNat),tO (x.1.z+wL l (x.2+8:Int).toNat)⟩,x.2+12)) Vw ⟨q,q,q,q,fu q Oq,tV⟩ ?_));refine⟨q,by simp;omega,?_⟩;rw[← F,VS _ (l.drop x.2) Vw,JL,List.drop_drop]
 (have E:=dF C);refine dY (bU (bU (eT (au (ns (m2 q q (mv q (ax zA q (oQ _ _ _ _ (hB.o M) Oh Oh) ?_))))))));rintro e _ ⟨rfl,rfl⟩;refine rv ?_;refine st _ (jm q q) (m2 q q (mv q (st _ (gh q q Oh) (ax zA q (oQ _ _ _ _ (hB.o M) Oh Oh) ?_))));rintro e _ ⟨rfl,rfl⟩;refine rv ?_;refine st _ (jm q q) (m2 q q (mv q (st _ (gh q q Oh) (ax zA q (oQ _ _ _ _ (hB.o M) Oh Oh) ?_))));rintro e _ ⟨rfl,rfl⟩;refine rv ?_;refine st _ (jm q q) (dP q (dP q (an q (ns (m2 q q (st _ (gg q q) (dP q (nt (nm q (mv q ?_))))))))));refine ax rB q (kK _ _ _ Om Om) ?_;rintro e _ ⟨rfl,rfl⟩;refine rv ?_;refine st _ (jA q q) (an q (ns (m2 q q (st _ (gg q q) (dP q (nt (nm q (mv q (ax rB q (kK _ _ _ Om Om) ?_)))))))));rintro e _ ⟨rfl,rfl⟩;refine rv ?_;refine st _ (jA q q) (an q (ns (m2 q q (st _ (gg q q) (dP q (nt (nm q (mv q ?_))))))))
 refine ax rB q (kK _ _ _ Om Om) ?_;rintro e _ ⟨rfl,rfl⟩;refine rv ?_;refine st _ (jA q q) (an q (ns (m2 q q (st _ (gg q q) (dP q (nt (nm q (mv q (ax rB q (kK _ _ _ Om Om) ?_)))))))));rintro e _ ⟨rfl,rfl⟩;refine rv ?_;refine st _ (jA q q) (an q (ns (m2 q q (st _ (gg q q) (dP q (nt (nm q (mv q (ax rB q (kK _ _ _ Om Om) ?_)))))))));rintro e _ ⟨rfl,rfl⟩;refine rv ?_;refine st _ (jA q q) (an q (ns (m2 q q (st _ (gg q q) (dP q (nt (nm q (mv q (ax rB q (kK _ _ _ Om Om) ?_)))))))));rintro e _ ⟨rfl,rfl⟩;refine rv ?_;refine st _ (jA q q) (an q (ns (m2 q q (st _ (gg q q) (dP q (nt (nm q (mv q (ax rB q (kK _ _ _ Om Om) ?_)))))))));rintro e _ ⟨rfl,rfl⟩;refine rv ?_;refine st _ (jA q q) (an q (nm q (st _ (j7 (by rw[iJ];rfl) lZ q) (st _ (qN q q Oh) (mv q (st _ (j7 (by rw[iJ];rfl) lZ q) (st _ (yY q q) ?_)))))))
 refine ar q ?_;refine jq trivial q q ⟨zV ?_,q⟩;rw[← F,VQ _ _ (by intro h;have:=congrArg List.length h;simp at this;omega) Vw,← JL];rfl
theorem JR (b:Nat) (v:S4) (n t:Int) (rest:Value) (w:World) (hT:cg w b (v.cells n rest) 216) (ht:0≤t) (ht2:t≤100) :
  Calls Zp 129 #[.pointer (some ⟨b,0,none⟩),.int .i64 t] w fun e w'=>e = .returned (.tuple #[])∧Md [b] w w'∧cg w' b ((fI t.toNat v).cells n rest) 216:=by
 have M:=Md.refl [b] w;refine enter (n:=76) Tryz.func129 q q q ?_;intro B;refine aP (AE (fun w'=>Md [] w w') eD Ym (Md.drew w) (qz _ (fun w' m=>bf q) (qz _ (fun w' m=>dr q) (qz _ (fun w' m=>aM q rT) (qz _ (fun w' m=>aC q bA (hT.o m) q) (qz _ (fun w' m=>bf q) (qz _ (fun w' m=>dr q) (qz _ (fun w' m=>aM q xK) (qz _ (fun w' m=>aC q bA (hT.o m) q) (qz _ (fun w' m=>bf q) (qz _ (fun w' m=>dr q) (qz _ (fun w' m=>aM q rU) (qz _ (fun w' m=>aC q bA (hT.o m) q) ?_)))))))))))));refine qz _ (fun w' m=>bf q) (qz _ (fun w' m=>dr q) (qz _ (fun w' m=>aM q rV) (qz _ (fun w' m=>aC q bA (hT.o m) q) (qz _ (fun w' m=>eI q) (qz _ (fun w' m=>eI q) (qz _ (fun w' m=>eI q) (qz _ (fun w' m=>eI q) (WX ?_))))))));intro F A;obtain⟨hT,M⟩:=k2 A hT M;refine au (aP (ns (m2 q q (nt (bG ?_)))));refine kQ (X:=Nat) (fun k=>[(0,.pointer (some ⟨b,0,none⟩)),(4,.int .u64 (fI k v).p),(5,.int .u64 (fI k v).q),(6,.int .u64 (fI k v).r),(7,.int .u64 (fI k v).s),(24,.int .i64 t),(25,.int .i64 k)]) (fun k w'=>Md [b] w w'∧cg w' b (v.cells n rest) 216∧(k:Int)≤t) (fun k=>(t-k).toNat) 0 ?_ ?_ ?_
 ·exact⟨q,q,q,q,q,q,q,tV⟩
 ·exact⟨M,hT,ht⟩
 clear M
 clear hT;rintro k B G ⟨M,hT,hk⟩;refine ns (st _ (sd q q) (nt (aP ?_)));refine cu q (fun C=>?_) (fun C=>?_)
 ·(have E:=dT C);refine bh (au (aP (bG (ns (m2 q q (st _ (jm q q) (an q (nm q (ax IC q (pL _ _ _ Om Om) ?_)))))))));rintro e _ ⟨rfl,rfl⟩;refine rv ?_;refine mv q (st _ (gg q q) (an q (nm q (ax IC q (pL _ _ _ Om Om) ?_))));rintro e _ ⟨rfl,rfl⟩;refine rv ?_;refine an q (ns (m2 q q (st _ (jm q q) (dP q (nt (nm q (ax IC q (pL _ _ _ Om Om) ?_)))))));rintro e _ ⟨rfl,rfl⟩;refine rv ?_;refine mv q (st _ (gg q q) (an q (ns (m2 q q (st _ (jm q q) (dP q (nt (nm q (ax IC q (pL _ _ _ Om Om) ?_)))))))));rintro e _ ⟨rfl,rfl⟩;refine rv ?_;refine mv q (st _ (gg q q) (an q (ns (m2 q q (st _ (jm q q) (dP q (nt (nm q (ax IC q (pL _ _ _ Om Om) ?_)))))))));rintro e _ ⟨rfl,rfl⟩;refine rv ?_;refine mv q (st _ (gg q q) (an q (aQ (mv q ?_))))
  refine ax IC q (pL _ _ _ Om Om) ?_;rintro e _ ⟨rfl,rfl⟩;refine rv ?_;refine dP q (aI (bX (au (aQ (st _ (gh q q Oh) (mv q (nt (next (k+1) Oh ⟨q,q,q,q,q,q,q,tV⟩ ?_))))))));exact⟨M,hT,by omega⟩
 (have E:=dF C);refine dY (bU (bU (eT (au (aQ (m2 q q (mv q (mv q (mv q (mv q (mv q (mv q ?_))))))))))));refine sn q (sf q rT (bK q q bA q hT (lB q) ?_));have D:=hT;clear hT;intro H A hT;replace M:=M.jd A Oq;refine sn q (sf q xK (bK q q bA q hT (lB q) ?_));have D:=hT;clear hT;intro I A hT;replace M:=M.jd A Oq;refine sn q (sf q rU (bK q q bA q hT (lB q) ?_));have D:=hT;clear hT;intro J A hT;replace M:=M.jd A Oq;refine sn q (sf q rV (bK q q bA q hT (lB q) ?_));have D:=hT;clear hT;intro K A hT;replace M:=M.jd A Oq;refine aI ?_;obtain rfl:(k:Int)=t:=Oh;exact aak trivial q ⟨q,M,hT⟩
theorem TG (b:Nat) (v:S4) (n:Int) (rest:Value) (w:World) (hT:cg w b (v.cells n rest) 216) :
  Calls Zp 129 #[.pointer (some ⟨b,0,none⟩),.int .i64 2] w fun e w'=>e = .returned (.tuple #[])∧Md [b] w w'∧cg w' b ((fI 2 v).cells n rest) 216 :=
 JR b v n 2 rest w hT Om Om
theorem TH (b:Nat) (v:S4) (n:Int) (rest:Value) (w:World) (hT:cg w b (v.cells n rest) 216) :
  Calls Zp 129 #[.pointer (some ⟨b,0,none⟩),.int .i64 4] w fun e w'=>e = .returned (.tuple #[])∧Md [b] w w'∧cg w' b ((fI 4 v).cells n rest) 216 :=
 JR b v n 4 rest w hT Om Om
theorem JZ (b:Nat) (v:S4) (n m:Int) (rest:Value) (w:World) (hT:cg w b (v.cells n rest) 216) :
  Calls Zp 128 #[.pointer (some ⟨b,0,none⟩),.int .u64 m] w fun e w'=>e = .returned (.tuple #[])∧Md [b] w w'∧cg w' b ((pH v m).cells n rest) 216:=by
 have M:=Md.refl [b] w;refine enter (n:=22) Tryz.func128 q q q fun B=>nm q (sn q (sf q rV (st _ (aC q bA hT q) (mv q (st _ (gg q q) (sn q (sf q rV (bK q q bA q hT (lB q) ?_))))))));have A:=hT;clear hT;intro D C hT;replace M:=M.jd C Oq;refine aI ?_;replace hT:=(aiH v m n rest) ▸ hT;refine au (nm q (ax ahf q (TG b _ _ _ _ hT) ?_));have A:=hT;clear hT;rintro e E ⟨rfl,C,hT⟩;refine rv ?_;replace M:=M.jd C Oq;refine nt (aQ (mv q (sn q (sf q rT (st _ (aC q bA hT q) (mv q (st _ (gg q q) (sn q (sf q rT (bK q q bA q hT (lB q) ?_))))))))));have A:=hT;clear hT;intro F C hT;replace M:=M.jd C Oq;refine aI ?_;replace hT:=(aiF _ m n rest) ▸ hT;exact aak trivial q ⟨q,M,hT⟩
theorem af7 (key:Ly) (w:World) (hk:key.length=16) :
  Calls Zp 99 #[.agg (key.map b8).toArray] w fun e w'=>∃b,e = .returned (.pointer (some ⟨b,0,none⟩))∧w.heap.size≤b∧b<w'.heap.size∧Md [] w w'∧cg w' b ((qR key).cells 0 SN) 216:=by
 have M:=Md.refl [] w;refine enter (n:=27) Tryz.func99 q q q fun B=>ns (gO q q ?_);intro I L F J D C;replace F:=ly M.size F;replace M:=M.k D;refine an q (ns (st _ (ir u34 nS q Om) (ax yw q (wJ _ key 0 8 _ (By.e5 C hk Om) Om Om (by rw[hk];decide)) ?_)));rintro e _ ⟨rfl,rfl⟩;refine rv ?_;refine mv q (se q q (se q q (dP q (an q (ns (st _ (ir u34 nS q Om) (ax yw q (wJ _ key 8 8 _ (By.e5 C hk Om) Om Om (by rw[hk];decide)) ?_)))))));rintro e _ ⟨rfl,rfl⟩;refine rv ?_;refine mv q (se q q (se q q (dP q (an q (nm q (st _ (gg q q) (mv q (st _ (gg q q) (mv q (st _ (gg q q) (mv q ?_)))))))))));refine st _ (gg q q) (st (.agg [_,_,_,_,_,_].toArray) (nJ (ps:=[(0,0),(1,1),(2,2),(3,3)]) aiW aht q q ⟨q,q,q,q,tV⟩ q q q) (gO q q ?_));intro E N A K D G;have H:I≠E:=(by have:=C.lt;omega);replace A:=ly M.size A;replace M:=M.k D;refine ar q ?_;refine jq trivial q q ⟨E,q,A,?_,M,G⟩;exact G.lt
theorem ae6 (b:Nat) (v:S4) (n:Int) (rest:Value) (rl:Ly) (s:Value) (l:Ly) (w:World) (hT:cg w b (v.cells n rest) 216) (hO:Own w 5 1 rest rl.length (rl.map b8)) (hr:rl.length<8) (hB:By w s l) (hA:Apart s l (b :: (ah rest).toList)) (hn:0≤n) (hn2:n+l.length≤4611686018427387904) :
  Calls Zp 100 #[.pointer (some ⟨b,0,none⟩),s] w fun e w'=>e = .returned (.tuple #[])∧∃rest',Md (b :: (ah rest).toList) w w'∧cg w' b ((kV v (rl ++ l)).1.cells (n+l.length) rest') 216∧Own w' 5 1 rest' (kV v (rl ++ l)).2.length ((kV v (rl ++ l)).2.map b8)∧(∀g,ah rest'=some g→ah rest=some g∨w.heap.size≤g):=by
 have M:=Md.refl (b :: (ah rest).toList) w;refine enter (n:=67) Tryz.func100 q q q fun B=>nm q (sn q (sf q ER (st _ (aC q jl hT q) (mv q (sL q gX hB.eJ (st _ (gh q q Oh) (sn q (sf q ER (bK q q jl q hT (lB q) ?_)))))))));have D:=hT;clear hT;intro S A hT;replace hO:=hO.tC D q A;replace M:=M.jd A Oq;refine nt (bG ?_);refine kQ (X:=S4 × Value × List UInt8 × Value × List UInt8) (fun x=>[(0,.pointer (some ⟨b,0,none⟩)),(1,x.2.2.2.1)]) (fun x w'=>Md (b :: (ah rest).toList) w w'∧cg w' b (x.1.cells (n+l.length) x.2.1) 216∧Own w' 5 1 x.2.1 x.2.2.1.length (x.2.2.1.map b8)∧By w x.2.2.2.1 x.2.2.2.2∧Apart x.2.2.2.1 x.2.2.2.2 (b :: (ah rest).toList)∧x.2.2.1.length<8∧kV x.1 (x.2.2.1 ++ x.2.2.2.2)=kV v (rl ++ l)∧(∀g,ah x.2.1=some g→ah rest=some g∨w.heap.size≤g)∧x.2.2.2.2.length≤l.length) (fun x=>x.2.2.2.2.length) (v,rest,rl,s,l) ?_ ?_ ?_
 ·exact⟨q,q,tV⟩
 ·exact⟨M,hT,hO,hB,hA,hr,q,fun _ h=>.inl h,Nat.le_refl _⟩
 clear M
 clear hT hO hB hA hr;rintro x B T ⟨M,hT,hO,hB,hA,hr,C,J,R⟩;refine aP (nm q (sL q gX hB.eJ (st _ (wN q q) (nt ?_))));refine cu q (fun H=>?_) (fun H=>?_)
 ·(have K:=dT H);refine bh (au (bG (nm q (sn q (sf q oM (st _ (aC q gD hT q) (st _ (jK q gX (By.sI hO).eJ) (st _ (lV q q Oh) (mv q (sL q gX hB.eJ (st _ ((ahv q q).kr (al5 _ _ hr)) (dP q ?_))))))))))));refine nt (aP (HN [(0,true),(1,true),(2,true),(3,true),(5,true),(6,true),(7,true),(4,false),(8,false),(9,true),(10,true),(11,false)] (fun w'=>True) eD Ym ?_));intro U A;obtain⟨hT,hO,M⟩:=k3 A hT hO M;refine⟨trivial,?_⟩;refine m _ (fun w' F=>bf q) (m _ (fun w' F=>bf q) (m _ (fun w' F=>dr q) (m _ (fun w' F=>aM q oM) (m _ (fun w' F=>bf q) (m _ (fun w' F=>bf q) (m _ (fun w' F=>pF 0 (min (8-x.2.2.1.length) x.2.2.2.2.length) gX nS q hB.eJ Oh Oh q ⟨_,q⟩) ?_))))));refine mF ?_ rfl;refine st _ (aC q gD hT q) ?_;refine aI ⟨q,trivial,?_⟩;refine mF ?_ rfl;refine TP gX ko q q hO ((hB.md M hA).head (min (8-x.2.2.1.length) x.2.2.2.2.length) Oh) Vw ?_;intro P V L A _ O;have Q:=M;replace hT:=hT.mdO hO q A;replace M:=M.ez A (fun b h=>(J b h).imp (fun h=>by simp[h]) id);have G:∀b,ah P=some b→ah rest=some b∨w.heap.size≤b:=fun b h=>(O b h).elim (fun h=>J b h) (fun h=>.inr (ly Q.size h));replace hO:=L;clear L;refine aI ⟨q,trivial,?_⟩;refine m _ (fun w' F=>dr q) (m _ (fun w' F=>aM q oM) ?_);refine mF ?_ rfl;refine bK q q gD (Sl.bZ (By.sI hO)) hT (lB q) ?_;have D:=hT;clear hT;intro W A hT;replace hO:=hO.tC D q A;replace M:=M.jd A Oq;refine aI ⟨q,trivial,?_⟩;refine ej (au (ns (m2 q q (st _ (pF (min (8-x.2.2.1.length) x.2.2.2.2.length) x.2.2.2.2.length gX nS q hB.eJ Oh Oh ⟨_,q⟩ q) ?_))))
  refine an q (nm q (sn q (sf q oM (st _ (aC q gD hT q) (st _ (jK q gX (By.sI hO).eJ) (st _ (nj q q) (nt ?_)))))));refine cu q (fun I=>?_) (fun I=>?_)
  ·(have E:=dT I);refine nm q (sn q (sf q oM (st _ (aC q gD hT q) (ax yw q (wJ _ _ 0 8 _ (By.sI hO) Om Om Oh) ?_))));rintro e _ ⟨rfl,rfl⟩;refine rv ?_;refine mv q (se q q (se q q (dP q (an q (ns (m2 q q (ax ahe q (JZ b x.1 _ _ _ _ hT) ?_)))))));have D:=hT;clear hT;rintro e Y ⟨rfl,A,hT⟩;refine rv ?_;replace hO:=hO.tC D q A;replace M:=M.jd A Oq;refine nt (aQ (m2 q q (sn q (sf q oM (st _ (aC q gD hT q) (st _ (pF 0 0 gX nS q (By.sI hO).eJ Oh Oh q ⟨_,q⟩) (sn q (sf q oM (bK q q gD (Sl.bZ ((By.sI hO).head 0 (Nat.zero_le _))) hT (lB q) ?_)))))))));have D:=hT;clear hT;intro Z A hT;replace hO:=hO.tC D q A;replace M:=M.jd A Oq;refine aI (bX (au (next ((pH x.1 (je (((x.2.2.1 ++ x.2.2.2.2.take (min (8-x.2.2.1.length) x.2.2.2.2.length)).drop 0).take 8)),p6 P 0 0,[],p6 x.2.2.2.1 (min (8-x.2.2.1.length) x.2.2.2.2.length) x.2.2.2.2.length,x.2.2.2.2.drop (min (8-x.2.2.1.length) x.2.2.2.2.length))) Vw ⟨q,q,tV⟩ ?_)));refine⟨M,hT,hO.akK,hB.tail _ Oh,hA.tail _,by simp,?_,fun b h=>G b (Rf h),by simp;omega⟩;rw[← C];exact(aaR _ _ _ hr (by simp at E;omega)).symm
  (have E:=dF I);refine bh (bX (au (next ((x.1,P,x.2.2.1 ++ x.2.2.2.2.take (min (8-x.2.2.1.length) x.2.2.2.2.length),p6 x.2.2.2.1 (min (8-x.2.2.1.length) x.2.2.2.2.length) x.2.2.2.2.length,x.2.2.2.2.drop (min (8-x.2.2.1.length) x.2.2.2.2.length))) Vw ⟨q,q,tV⟩ ?_)));refine⟨M,hT,hO,hB.tail _ Oh,hA.tail _,by simp at E ⊢;omega,?_,G,by simp;omega⟩;rw[← C];exact(aaS _ _ _ _).symm
 (have K:=dF H);refine dY (bU (bU (eT ?_)));have N:x.2.2.2.2=[]:=List.eq_nil_of_length_eq_zero Oh;rw[N,List.append_nil,qQ _ _ hr]at C;refine aak trivial q ⟨q,x.2.1,M,?_,?_,J⟩
 ·rw[← C];exact hT
 rw[← C];exact hO
theorem aaD (b:Nat) (v:S4) (n:Int) (rest:Value) (rl:Ly) (w:World) (hT:cg w b (v.cells n rest) 216) (hO:Own w 5 1 rest rl.length (rl.map b8)) (hr:rl.length<8) (hn:0≤n) :
  Calls Zp 101 #[.pointer (some ⟨b,0,none⟩)] w fun e w'=>e = .returned (.int .u64 (FZ v rl n))∧Md [] w w':=by
 have M:=Md.refl [] w;refine enter (n:=59) Tryz.func101 q q q fun B=>ns (an q (ns (cw alN ?_)));intro K X N V A E;have Q:b≠K:=(by have:=hT.lt;omega);replace N:=ly M.size N;obtain⟨hT,hO,M⟩:=k3 A hT hO M;refine nt (aP (HN [(0,true),(1,true),(2,true),(3,true),(4,false),(5,false)] (fun w'=>True) eD Ym ?_));intro Y A;obtain⟨hT,hO,E,M⟩:=k4 A hT hO E M;refine⟨trivial,?_⟩;refine m _ (fun w' C=>ir aiU nS q Om) (m _ (fun w' C=>bf q) (m _ (fun w' C=>dr q) (m _ (fun w' C=>aM q oM) ?_)));refine mF ?_ rfl;refine st _ (aC q gD hT q) ?_;refine aI ⟨q,trivial,?_⟩;refine mF ?_ rfl;refine AY gX nS q q E (By.sI hO) (yR _) Vw ?_;have O:=E;clear E;intro U A E;replace hT:=hT.tC A Oh;replace M:=M.fW A N;refine aI ⟨q,trivial,?_⟩;refine ej ?_;replace E:cg U K ((tE 8 rl).map b8) 217:=(by rw[← GB (m:=8) Oh];exact E);refine au (nm q (sn q (sf q ER (st _ (aC q jl hT q) (st _ (j7 (by rw[u3];rfl) u5 q) (st _ (gF q q aiU nS Oh) (bK q q tL q E (by rw[List.length_map,rW 8 rl Oh];decide) ?_)))))));have O:=E;clear E;intro S A E;replace hT:=hT.tC A Oh;replace M:=M.fW A N;refine aI ?_;replace E:cg S K ((kW rl n).map b8) 217:=(by rw[← HA rl n hn];exact E);refine au (ns (st _ (ir aiU nS q Om) (ax yw q (wJ _ (kW rl n) 0 8 _ (By.e5 E (uO rl n Oh) Om) Om Om (by rw[uO rl n Oh];decide)) ?_)));rintro e _ ⟨rfl,rfl⟩;refine rv ?_;refine mv q (se q q ?_)
 refine se q q (dP q (an q (aP ?_)));have F:=hT;refine HN [(0,true),(1,true),(2,true),(3,true),(4,true),(5,true),(6,true),(7,true),(8,true),(9,true),(10,true),(11,true),(12,true),(13,true),(14,true),(15,true),(16,true),(17,false),(18,false)] (fun w'=>Md [] S w') eD Ym ?_;intro Z A;have G:=A;obtain⟨hT,E,M⟩:=k3 A hT E M;refine⟨G,?_⟩;refine m _ (fun w' C=>bf q) (m _ (fun w' C=>dr q) (m _ (fun w' C=>aM q rT) (m _ (fun w' C=>aC q bA (F.o C) q) (m _ (fun w' C=>bf q) (m _ (fun w' C=>dr q) (m _ (fun w' C=>aM q xK) (m _ (fun w' C=>aC q bA (F.o C) q) (m _ (fun w' C=>bf q) (m _ (fun w' C=>dr q) (m _ (fun w' C=>aM q rU) (m _ (fun w' C=>aC q bA (F.o C) q) (m _ (fun w' C=>bf q) (m _ (fun w' C=>dr q) ?_)))))))))))));refine m _ (fun w' C=>aM q rV) (m _ (fun w' C=>aC q bA (F.o C) q) (m (.agg [_,_,_,_,_,_].toArray) (fun w' C=>nJ (ps:=[(0,0),(1,1),(2,2),(3,3)]) aiW aht q q ⟨q,q,q,q,tV⟩ q q q) ?_));refine mF ?_ rfl;refine cw aiW ?_;intro L a H W A D;have R:b≠L:=(by have:=hT.lt;omega);have P:K≠L:=(by have:=E.lt;omega);have J:=ly G.size H;replace H:=ly M.size H;obtain⟨G,M⟩:=k2 A G M;refine aI ⟨q,G,?_⟩;refine mF ?_ rfl;refine iN q q (by exact ah0) (by simp[Value.oneCell']) D (by rfl) ?_;have I:=D;clear D;intro c A D;replace G:=G.fW A J;replace M:=M.fW A H;refine aI ⟨q,G,?_⟩;refine ej (au (nm q (ax ahe q (JZ L v 0 _ _ _ D) ?_)))
 have I:=D;clear D;rintro e d ⟨rfl,A,D⟩;refine rv ?_;replace M:=M.fW A H;refine nt (ns (sf q rU (st _ (aC q bA D q) (st _ (gg q q) (sf q rU (bK q q bA q D (lB q) ?_))))));have I:=D;clear D;intro f A D;replace M:=M.fW A H;refine aI ?_;replace D:=(aiG _ 255 0 SN) ▸ D;refine au (ns (ax ahf q (TH L _ _ _ _ D) ?_));have I:=D;clear D;rintro e T ⟨rfl,A,D⟩;refine rv ?_;replace M:=M.fW A H;refine nt (ns (sf q rT (st _ (aC q bA D q) (sf q xK (st _ (aC q bA D q) (st _ (gg q q) (sf q rU (st _ (aC q bA D q) (st _ (gg q q) (sf q rV (st _ (aC q bA D q) (st _ (gg q q) (dP q ?_)))))))))))));refine nt (iP ?_);exact jq trivial q q ⟨q,M⟩
theorem agx (key:Ly) (s:Value) (l:Ly) (w:World) (hk:key.length=16) (hB:By w s l) (hl:l.length≤4611686018427387000) :
  Calls Zp 57 #[.agg (key.map b8).toArray,s] w fun e w'=>e = .returned (.int .u64 (sip key l))∧Md [] w w':=by
 have M:=Md.refl [] w;refine enter (n:=13) Tryz.func57 q q q fun B=>ns (gO q q ?_);intro P S J Q A K;replace J:=ly M.size J;replace M:=M.k A;refine an q (ns (st _ (oq q (by rw[(by simpa using hk:(key.map b8).length=16)];exact mW) K) (ax al3 q (af7 key _ hk) ?_)));rintro e G ⟨I,rfl,D,R,A,N⟩;refine rv ?_;replace D:=ly M.size D;replace M:=M.k A;have L:Own G 5 1 SN ([]:Ly).length (([]:Ly).map b8):=Own.nil _ _ _;refine an q (ns (m2 q q (ax ajl q (ae6 I (qR key) 0 SN [] s l _ N L Om (hB.o M) (NK hB D) Om Oh) ?_)));clear K;rintro e H ⟨rfl,C,A,F,E,O⟩;refine rv ?_;replace M:Md [] w H:=M.fW A D;clear N L;refine nt (nm q (ax ajm q (aaD I _ _ C _ _ F E (TK _ _ _ (Nat.le_refl _)) Oh) ?_));rintro e T ⟨rfl,A⟩;refine rv ?_;replace M:=M.k A;refine ar q ?_;exact jq trivial q q ⟨zV (by simp[sip]),M⟩
theorem aiw (k:Bool) (key:Ly) (s:Value) (l:Ly) (w:World) (hk:key.length=16) (hB:By w s l) (hl:l.length≤4611686018427387000) :
  Calls Zp 28 #[.bool k,.agg (key.map b8).toArray,s] w fun e w'=>e = .returned (.int .u64 (if k then sip key l else lookup l))∧Md [] w w':=by
 have M:=Md.refl [] w;refine enter (n:=13) Tryz.func28 q q q fun B=>ns (gO q q ?_);intro G I E H A F;replace E:=ly M.size E;replace M:=M.k A;refine an q (aP (nm q (nt ?_)));refine cu q (fun C=>?_) (fun C=>?_)
 ·(have D:=C);refine ns (st _ (oq q (by rw[(by simpa using hk:(key.map b8).length=16)];exact mW) F) (mv q (ax alk q (agx key s l _ hk (hB.o M) hl) ?_)));rintro e J ⟨rfl,A⟩;refine rv ?_;replace M:=M.k A;refine ar q (aS ?_);exact jq trivial q q ⟨zV (by simp_all),M⟩
 (have D:=C);refine bh (au (nm q (ax ajL q (EC s l _ (hB.o M)) ?_)));rintro e K ⟨rfl,A⟩;refine rv ?_;replace M:=M.k A;refine ar q ?_;exact jq trivial q q ⟨zV (by simp_all),M⟩
theorem vi (v:Value) (l:Ly) (a:Int) (w:World) (hB:By w v l) (ha:0≤a) (ha2:a≤4611686018427387000) :
  Calls Zp 135 #[v,.int .i64 a] w fun e w'=>e = .returned (.int .u64 (vL l a.toNat))∧w=w':=by
 have A:=hB.gd;have M:=Md.refl [] w;refine enter (n:=16) Tryz.func135 q q q fun B=>ns (an q (ns (m2 q q (ax zA q (oQ _ _ _ _ (hB.o M) Oh Oh) ?_))));rintro e _ ⟨rfl,rfl⟩;refine rv ?_;refine st _ (j7 (by rw[iJ];rfl) lZ q) (m2 q q (st _ (gh q q Oh) (ax zA q (oQ _ _ _ _ (hB.o M) Oh Oh) ?_)));rintro e _ ⟨rfl,rfl⟩;refine rv ?_;refine st _ (j7 (by rw[iJ];rfl) lZ q) (st _ (qN q q Oh) (st _ (yY q q) (ar q ?_)));exact jq trivial q q ⟨zV (ab0 l a ha),q⟩
theorem zM (v:S4) (t:Int) (w:World) (ht:0≤t) (ht2:t≤100) :
  Calls Zp 136 #[.agg v.arr.toArray,.int .i64 t] w fun e w'=>e = .returned (.agg (fI t.toNat v).arr.toArray)∧Md [] w w':=by
 have M:=Md.refl [] w;refine enter (n:=64) Tryz.func136 q q q fun B=>ns (gO q q ?_);intro L Q I P C D;replace I:=ly M.size I;replace M:=M.k C;refine cw agH ?_;intro G K H O C A;have J:L≠G:=(by have:=D.lt;omega);replace H:=ly M.size H;obtain⟨D,M⟩:=k2 C D M;refine nt (aP (AE (fun w'=>Md [] K w') eD Ym (Md.drew K) (qz _ (fun w' m=>gF q q tN fG Oh) (qz _ (fun w' m=>aC q bA (D.o m) q) (qz _ (fun w' m=>gF q q tN fG Oh) (qz _ (fun w' m=>aC q bA (D.o m) q) (qz _ (fun w' m=>gF q q tN fG Oh) (qz _ (fun w' m=>aC q bA (D.o m) q) (qz _ (fun w' m=>gF q q tN fG Oh) (qz _ (fun w' m=>aC q bA (D.o m) q) (qz _ (fun w' m=>eI q) (qz _ (fun w' m=>eI q) (qz _ (fun w' m=>eI q) ?_)))))))))))));refine qz _ (fun w' m=>eI q) (WX ?_);intro R C;obtain⟨A,M⟩:=k2 C A M;refine au (aP (ns (an q (bG ?_))));refine kQ (X:=Nat) (fun k=>[(1,.int .i64 t),(4,.pointer (some ⟨G,0,none⟩)),(5,.int .u64 (fI k v).p),(6,.int .u64 (fI k v).q),(7,.int .u64 (fI k v).r),(8,.int .u64 (fI k v).s),(9,.int .i64 k)]) (fun k w'=>Md [] w w'∧cg w' G [.int .u64 0,.int .u64 0,.int .u64 0,.int .u64 0] 225∧(k:Int)≤t) (fun k=>(t-k).toNat) 0 ?_ ?_ ?_
 ·exact⟨q,q,q,q,q,q,q,tV⟩
 ·exact⟨M,A,ht⟩
 clear M
 clear A D;rintro k B S ⟨M,A,hk⟩;refine aP (ns (m2 q q (st _ (sd q q) (nt ?_))));refine cu q (fun E=>?_) (fun E=>?_)
 ·(have F:=dT E);refine bh (au (aP (bG (ns (m2 q q (st _ (jm q q) (an q (nm q (ax IE q (zi _ _ _ Om Om) ?_)))))))));rintro e _ ⟨rfl,rfl⟩;refine rv ?_;refine an q (ns (m2 q q (st _ (gg q q) (dP q (nt (nm q (ax IE q (zi _ _ _ Om Om) ?_)))))));rintro e _ ⟨rfl,rfl⟩;refine rv ?_;refine an q (ns (m2 q q (st _ (jm q q) (dP q (nt (nm q (ax IE q (zi _ _ _ Om Om) ?_)))))));rintro e _ ⟨rfl,rfl⟩;refine rv ?_;refine an q (ns (m2 q q (st _ (gg q q) (dP q (nt (nm q (mv q (st _ (jm q q) (dP q (nt ?_))))))))));refine nm q (ax IE q (zi _ _ _ Om Om) ?_);rintro e _ ⟨rfl,rfl⟩;refine rv ?_;refine an q (ns (m2 q q (st _ (gg q q) (dP q (nt (nm q (mv q (st _ (jm q q) (dP q ?_)))))))))
  refine nt (nm q (ax IE q (zi _ _ _ Om Om) ?_));rintro e _ ⟨rfl,rfl⟩;refine rv ?_;refine an q (ns (m2 q q (st _ (gg q q) (dP q (nt (aQ (mv q (ax IE q (zi _ _ _ Om Om) ?_))))))));rintro e _ ⟨rfl,rfl⟩;refine rv ?_;refine dP q (aI (bX (au (aQ (mv q (st _ (gh q q Oh) (an q (next (k+1) Oh ⟨q,q,q,q,q,q,q,tV⟩ ?_))))))));exact⟨M,A,by omega⟩
 (have F:=dF E);refine dY (bU (bU (eT (au (ns (m2 q q (mv q (mv q (st (.agg [_,_,_,_].toArray) (nJ (ps:=[(0,0),(1,1),(2,2),(3,3)]) agH ahu q q ⟨q,q,q,q,tV⟩ q q q) (iN q q (by exact sB) (by simp[Value.oneCell']) A (by rfl) ?_))))))))));have N:=A;clear A;intro T C A;replace M:=M.fW C H;refine nt (iP ?_);obtain rfl:(k:Int)=t:=Oh;exact ak4 trivial q q (by exact sB) A ⟨q,M⟩
theorem xS (v:S4) (w:World):Calls Zp 136 #[.agg v.arr.toArray,.int .i64 2] w fun e w'=>e = .returned (.agg (fI 2 v).arr.toArray)∧Md [] w w' :=
 zM v 2 w Om Om
theorem MQ (v:S4) (w:World):Calls Zp 136 #[.agg v.arr.toArray,.int .i64 4] w fun e w'=>e = .returned (.agg (fI 4 v).arr.toArray)∧Md [] w w' :=
 zM v 4 w Om Om
theorem adR (key:Ly) (s:Value) (l:Ly) (w:World) (hk:key.length=16) (hB:By w s l) (hl:l.length≤4611686018427387000) :
  Calls Zp 113 #[.agg (key.map b8).toArray,s] w fun e w'=>e = .returned (.int .u64 (sip key l))∧Md [] w w':=by
 have P:=hB.gd;have M:=Md.refl [] w;refine enter (n:=84) Tryz.func113 q q q fun B=>ns (gO q q ?_);intro R S O b C H;replace O:=ly M.size O;replace M:=M.k C;refine an q (aP (HN [(0,true),(2,true),(1,false),(3,false),(4,true),(5,true)] (fun w'=>Md [] S w') eD Ym ?_));intro d C;have J:=C;obtain⟨H,M⟩:=k2 C H M;refine⟨J,?_⟩;refine m _ (fun w' L=>ir u34 nS q Om) (m _ (fun w' L=>ir u34 nS q Om) ?_);refine mF ?_ rfl;refine ax VE q (vi _ key 0 _ (By.e5 H hk Om) Om Om) ?_;rintro e _ ⟨rfl,rfl⟩;refine rv ?_;refine aI ⟨q,J,?_⟩;refine mF ?_ rfl;refine ax VE q (vi _ key 8 _ (By.e5 H hk Om) Om Om) ?_;rintro e _ ⟨rfl,rfl⟩;refine rv ?_;refine aI ⟨q,J,?_⟩;refine m _ (fun w' L=>eI q) (m _ (fun w' L=>eI q) (ej (au (nm q (st _ (gg q q) (mv q (st _ (gg q q) (mv q (st _ (gg q q) (mv q (st _ (gg q q) (st (.agg [_,_,_,_].toArray) (nJ (ps:=[(0,0),(1,1),(2,2),(3,3)]) agH ahu q q ⟨q,q,q,q,tV⟩ q q q) ?_))))))))))));refine cw agH ?_;intro K f E c C A;have Q:R≠K:=(by have:=H.lt;omega);replace E:=ly M.size E;replace M:=M.k C;refine iN q q (by exact sB) (by simp[Value.oneCell']) A (by rfl) ?_;have D:=A;clear A;intro g C A;replace M:=M.fW C E;refine nt (ns (an q (aP (bG ?_))));refine kQ (X:=S4 × Nat) (fun x=>[(1,s),(7,.pointer (some ⟨K,0,none⟩)),(8,.int .i64 x.2)]) (fun x w'=>Md [] w w'∧cg w' K x.1.arr 225∧x.2≤l.length∧kV x.1 (l.drop x.2)=kV (qR key) l) (fun x=>l.length-x.2) (qR key,0) ?_ ?_ ?_
 ·exact⟨q,q,q,tV⟩
 ·refine⟨M,?_,Nat.zero_le _,q⟩
  rw[QV key hk];exact A
 clear M
 clear A H;rintro x B h ⟨M,A,N,F⟩;refine aP (nm q (st _ (gh q q Oh) (mv q (sL q gX hB.eJ (st _ (xR q q) (nt ?_))))));refine cu q (fun G=>?_) (fun G=>?_)
 ·(have I:=dT G);refine bh (au (bG (ns (m2 q q (ax VE q (vi s l _ _ (hB.o M) Oh Oh) ?_)))));rintro e _ ⟨rfl,rfl⟩;refine rv ?_;refine an q (ns (st _ (gF q q tN fG Oh) (st _ (aC q bA A q) (mv q (st _ (gg q q) (st _ (gF q q tN fG Oh) (bK q q bA q A (lB q) ?_)))))));have D:=A;clear A;intro i C A;replace M:=M.fW C E;refine aI ?_;replace A:=(aaY _ (vL l (x.2:Int).toNat)) ▸ A;refine au (ns (st _ (oq q (by exact sB) A) (ax abM q (xS _ _) ?_)));rintro e j ⟨rfl,C⟩;refine rv ?_;obtain⟨A,M⟩:=k2 C A M;refine iN q q (by exact sB) (S4.KH _) A (by rw[S4.uZ,S4.uZ]) ?_;have D:=A;clear A;intro k C A;replace M:=M.fW C E;refine nt (ns (st _ (gF q q tN fG Oh) (st _ (aC q bA A q) (mv q (st _ (gg q q) (st _ (gF q q tN fG Oh) (bK q q bA q A (lB q) ?_)))))));have D:=A;clear A;intro o C A;replace M:=M.fW C E;refine aI ?_;replace A:=(aaX _ (vL l (x.2:Int).toNat)) ▸ A;refine au (aQ (mv q (st _ (gh q q Oh) (dP q (aI (bX (au (next ((pH x.1 (je ((l.drop x.2).take 8)),x.2+8)) Vw ⟨q,q,fu q Oq,tV⟩ ?_))))))));refine⟨M,?_,by simp;omega,?_⟩
  ·unfold pH;rw[xo l x.2 Oh];exact A
  rw[← F,uN _ (l.drop x.2) Vw,List.drop_drop]
 (have I:=dF G);refine dY (bU (bU (eT (au (ns (m2 q q (ax VE q (vi s l _ _ (hB.o M) Oh Oh) ?_)))))));rintro e _ ⟨rfl,rfl⟩;refine rv ?_;refine mv q (sL q gX hB.eJ (st _ (adH q q Oh) (st _ (j7 (by rw[u3];rfl) lZ q) (st _ (qN q q Oh) (st _ (yY q q) (an q (ns (st _ (gF q q tN fG Oh) (st _ (aC q bA A q) (mv q (st _ (gg q q) (st _ (gF q q tN fG Oh) ?_))))))))))));refine bK q q bA q A (lB q) ?_;have D:=A;clear A;intro T C A;replace M:=M.fW C E;refine aI ?_;replace A:=(aaY _ _) ▸ A;refine au (ns (st _ (oq q (by exact sB) A) (ax abM q (xS _ _) ?_)));rintro e U ⟨rfl,C⟩;refine rv ?_;obtain⟨A,M⟩:=k2 C A M;refine iN q q (by exact sB) (S4.KH _) A (by rw[S4.uZ,S4.uZ]) ?_;have D:=A;clear A;intro V C A;replace M:=M.fW C E;refine nt (ns (st _ (gF q q tN fG Oh) (st _ (aC q bA A q) (mv q (st _ (gg q q) (st _ (gF q q tN fG Oh) (bK q q bA q A (lB q) ?_)))))));have D:=A;clear A;intro W C A;replace M:=M.fW C E;refine aI ?_;replace A:=(aaX _ _) ▸ A;refine au (ns (st _ (gF q q tN fG Oh) (st _ (aC q bA A q) (st _ (gg q q) (st _ (gF q q tN fG Oh) (bK q q bA q A (lB q) ?_))))));have D:=A;clear A;intro Y C A;replace M:=M.fW C E
 refine aI ?_;replace A:=(ah6 _ 255) ▸ A;refine au (ns (st _ (oq q (by exact sB) A) (ax abM q (MQ _ _) ?_)));rintro e Z ⟨rfl,C⟩;refine rv ?_;obtain⟨A,M⟩:=k2 C A M;refine iN q q (by exact sB) (S4.KH _) A (by rw[S4.uZ,S4.uZ]) ?_;have D:=A;clear A;intro a C A;replace M:=M.fW C E;refine nt (ns (st _ (gF q q tN fG Oh) (st _ (aC q bA A q) (st _ (gF q q tN fG Oh) (st _ (aC q bA A q) (st _ (gg q q) (st _ (gF q q tN fG Oh) (st _ (aC q bA A q) (st _ (gg q q) (st _ (gF q q tN fG Oh) (st _ (aC q bA A q) (st _ (gg q q) (dP q ?_)))))))))))));refine nt (iP ?_);rw[qQ _ _ Vw]at F;exact jq trivial q q ⟨zV (by rw[sip,← F];exact adS l x.1 x.2 N Oh),M⟩
theorem ago (k:Bool) (key:Ly) (s:Value) (l:Ly) (w:World) (hk:key.length=16) (hB:By w s l) (hl:l.length≤4611686018427387000) :
  Calls Zp 65 #[.bool k,.agg (key.map b8).toArray,s] w fun e w'=>e = .returned (.int .u64 (if k then sip key l else lookup l))∧Md [] w w':=by
 have M:=Md.refl [] w;refine enter (n:=13) Tryz.func65 q q q fun B=>ns (gO q q ?_);intro G I E H D F;replace E:=ly M.size E;replace M:=M.k D;refine an q (aP (nm q (nt ?_)));refine cu q (fun A=>?_) (fun A=>?_)
 ·(have C:=A);refine ns (st _ (oq q (by rw[(by simpa using hk:(key.map b8).length=16)];exact mW) F) (mv q (ax aju q (adR key s l _ hk (hB.o M) hl) ?_)));rintro e J ⟨rfl,D⟩;refine rv ?_;replace M:=M.k D;refine ar q (aS ?_);exact jq trivial q q ⟨zV (by simp_all),M⟩
 (have C:=A);refine bh (au (nm q (ax agZ q (zK s l _ (hB.o M) hl) ?_)));rintro e _ ⟨rfl,rfl⟩;refine rv ?_;refine ar q ?_;exact jq trivial q q ⟨zV (by simp_all),M⟩
theorem afn (uQ:Up w Q) (k:Bool) (key:Ly) (a1:key.length=16) {v2:Value} {l:Ly} (h2:Ls fF w Q v2 l) (p0:l.length≤4611686018427387000) :
  Calls Zp 28 #[.bool k,.agg (jS key).toArray,v2] w fun en w'=>∃r0:Nat,en = .returned (.int .u64 r0)∧Md [] w w'∧r0<18446744073709551616∧dW k key l=r0:=by
 rw[pC a1];refine(aiw k key v2 l w a1 h2.by p0).mono fun en w' ⟨he,hm⟩=>⟨dW k key l,by rw[he,DI],hm,DJ k key l,q⟩
theorem MK (uQ:Up w Q) (k:Bool) (key:Ly) (a1:key.length=16) {v2:Value} {l:Ly} (h2:Ls fF w Q v2 l) (p0:l.length≤4611686018427387000) :
  Calls Zp 65 #[.bool k,.agg (jS key).toArray,v2] w fun en w'=>∃r0:Nat,en = .returned (.int .u64 r0)∧Md [] w w'∧r0<18446744073709551616∧dW k key l=r0:=by
 rw[pC a1];refine(ago k key v2 l w a1 h2.by p0).mono fun en w' ⟨he,hm⟩=>⟨dW k key l,by rw[he,DI],hm,DJ k key l,q⟩
theorem YQ (uQ:Up w Q) {v0:Value} {l:Ly} (h0:Ls fF w Q v0 l) (p0:l.length≤4611686018427387000) :
  Calls Zp 58 #[v0] w fun en w'=>∃r0:Nat,en = .returned (.int .u64 r0)∧Md [] w w'∧r0<18446744073709551616∧rI l=r0:=by
 refine(EC _ _ w h0.by).mono fun en w' ⟨he,hm⟩=>⟨rI l,by rw[he,PC],hm,EB l,q⟩
theorem ZW (uQ:Up w Q) {v0:Value} {l:Ly} (h0:Ls fF w Q v0 l) (p0:l.length≤4611686018427387000) :
  Calls Zp 114 #[v0] w fun en w'=>∃r0:Nat,en = .returned (.int .u64 r0)∧Md [] w w'∧r0<18446744073709551616∧rI l=r0:=by
 refine(zK _ _ w h0.by p0).mono fun en w' ⟨he,hm⟩=>⟨rI l,by rw[he,PC],(hm ▸ Md.refl [] w),EB l,q⟩
theorem akW:ea Zp 28=true:=Ym
theorem pN (uQ:Up w Q) {v0:Value} {v:eR} (h0:Pt fA 73 w Q v0 v) {v1:Value} {l:Ly} (h1:Ls fF w Q v1 l) (p0:l.length≤4611686018427387000) :
  Calls Zp 14 #[v0,v1] w fun en w'=>∃r0:Nat,en = .returned (.int .u64 r0)∧Md [] w w'∧r0<18446744073709551616∧dW (decide (v.h.bW &&& 4≠0)) v.h.cG l=r0:=by
 have R:=h1.gd;obtain⟨K,L,rfl,G,h0,qn⟩:=h0;obtain⟨v1,rfl,H,N⟩:=eL qn;have M:=Md.refl [] w;have P:=uQ;refine enter (n:=19) Tryz.func14 q q q fun B=>ns (an q (aP ?_));have A:=h0;refine dZ (ml 13) [13,14] (fun w'=>Md [] w w') eD Ym ?_;intro V D;refine⟨D.mono Oq,?_⟩;have J:=D.mono (T:=[]) Oq;refine mo q (mz (fun w' C=>dr q) (mz (fun w' C=>aM q qH) (mz (fun w' C=>aM q LR) (mz (fun w' C=>(aC q jj (A.o C) q).to (b:=(.int .u32 v.h.bW)) q) ?_))));have S:v.h.bW<4294967296:=H.2.1;refine mz (fun w' C=>ai3 (a:=v.h.bW) (b:=4) 4294967296 q q q q Oh) (mz (fun w' C=>fw (a:=(v.h.bW &&& 4)) (b:=0) q q) (mo q (mz (fun w' C=>dr q) (mz (fun w' C=>aM q qH) (mz (fun w' C=>aM q WE) (mz (fun w' C=>dh (jS v.h.cG) q (by exact mW) (A.o C) q) ?_))))));have U:v.h.cG.length=16:=H.2.2.2.1;refine mo q (ej ?_);obtain⟨h1,uQ,M⟩:=k3 D h1 uQ M;clear A;clear J;refine ax akW q (afn uQ (decide ((v.h.bW &&& 4)≠0)) v.h.cG Vx h1 Oh) ?_;rintro en W ⟨E,rfl,O,I,F⟩;refine rv ?_;replace M:=M.k O;refine ar q ?_;exact d9 (v:=(.int .u64 E)) trivial q ⟨q,tV⟩ ⟨E,q,M,Vx,F⟩
theorem kz:gZ Zp 112 7=true:=Ym
theorem aj1:ea Zp 124=true:=Ym
theorem ajU:ea Zp 89=true:=Ym
theorem aho:gY Zp 112=some [(0,1),(1,1),(2,1),(3,1),(4,1),(5,1),(6,1)]:=Ym
theorem zX:fP Zp 112=some (List.replicate 6 (.int .u64 0) ++ ([.slice none 0 0])):=Ym
abbrev BA:gT:={cQ:=0,bT:=0,eH:=0,entry:=0,array:=0,bR:=0,ak:=[]}
theorem GX (uQ:Up w Q) {v0:Value} {b:Ly} (h0:Ls fF w Q v0 b) (p:Nat) (a1:p<18446744073709551616) (p0:b.length≤140737488355328) :
  Calls Zp 124 #[v0,(.int .u64 p)] w fun en w'=>∃u0_0:Value,∃r0:gT,∃r1:Nat,en = .returned (.tuple #[.agg (gT.cells r0 u0_0).toArray,(.int .i64 r1)])∧Md [] w w'∧gT.ok r0∧Ls fF w' Q u0_0 r0.ak∧r1<9223372036854775808∧mI b p=(r0,r1):=by
 have L0:=h0.gd;have M:=Md.refl [] w;have Bg:=uQ;have tQ:∀b,Q b→Q b:=fun _ h=>h;refine enter (n:=40) Tryz.func124 q q q fun B=>ns (cw zX ?_);intro z w1 d Aq V A;obtain⟨Q2,sQ,sT,x,Ah⟩:=kR uQ d Aq V;replace tQ:=tT tQ sT;replace d:=ly M.size d;replace h0:=(h0.sub sQ).o V;replace M:=M.k V;replace uQ:=Ah;clear Ah sQ sT;have Z:ck [] w z:=.inr d;replace A:cg _ _ (gT.cells (BA) SN) _:=A;have Aw:gT.ok (BA):=(by exact⟨Om,Om,Om,Om,Om,Om⟩);refine an q (ns (m2 q q (ax ahd q (EL uQ h0 p Oh 1 Oh 6 Oh Oh Oh) ?_)));rintro en w4 ⟨F,H,G,I,c,rfl,V,D,E,Ax,Aa⟩;refine rv ?_;obtain⟨A,M⟩:=k2 V A M;refine mv q (se q q (se q q (se q q (dP q (dP q (an q (aP (nm q (st _ (fw (a:=c) (b:=0) q q) ?_)))))))))
 refine nt ?_;refine cu q (fun v=>?_) (fun v=>?_)
 ·(have W:=dT v);refine ns (st _ (dw (us:=[]) (cs:=(gT.cells (BA) SN)) [] zX aho q q trivial trivial q q) (mv q (aT (us:=(gT.cells (BA) SN)) q q (by exact kz) (by exact fun u hu=>bI (gT.one q) u hu) A (lB q) ?_)));have X:=A;clear A;intro w5 V A;replace M:=M.step V (hI Z);clear X;replace A:cg _ _ (gT.cells (BA) SN) _:=A;refine ar q (aS ?_);exact eB (vs:=[(.agg (gT.cells (BA) SN).toArray),(.int .i64 c)]) trivial q ⟨⟨_,q,ey (cs:=(gT.cells (BA) SN)) (by exact kz) A⟩,q,tV⟩ q ⟨_,(BA),c,q,M,Vx,(Ls.nil _ _ _),Vx,((ou Aa).1 W)⟩
 (have W:=dF v);refine bh (au (aP ?_));have rd:=(ou Aa).2 W;have C:=D;refine dZ (ml 19) [19,20,21] (fun w'=>Md [] w4 w') eD Ym ?_;intro w6 Y;refine⟨Y.mono Oq,?_⟩;have MC:=Y.mono (T:=[]) Oq;refine mo q (mz (fun w' O=>bQ (i:=0) 1 q q jr fG D.eJ Oh) ?_);obtain⟨g,Af⟩:=fK (l:=H) (i:=0) Oh;obtain⟨c8,Am,e⟩:=C.get Af;obtain⟨rfl,Au⟩:=Am;replace e:At _ F (0*1) [(.int .u64 g)]:=e;refine mz (fun w' O=>(dR (kk:=0*1) 0 q q bA (e.o O) q).to (b:=(.int .u64 g)) q) (mo q (mz (fun w' O=>bQ (i:=1) 1 q q jr fG D.eJ Oh) ?_));obtain⟨j,Ag⟩:=fK (l:=H) (i:=1) Oh;obtain⟨Ba,Ao,f⟩:=C.get Ag;obtain⟨rfl,Av⟩:=Ao;replace f:At _ F (1*1) [(.int .u64 j)]:=f;refine mz (fun w' O=>(dR (kk:=1*1) 0 q q bA (f.o O) q).to (b:=(.int .u64 j)) q) (mo q (mz (fun w' O=>bQ (i:=2) 1 q q jr fG D.eJ Oh) ?_));obtain⟨J,k⟩:=fK (l:=H) (i:=2) Oh;obtain⟨Bb,Ab,P⟩:=C.get k;obtain⟨rfl,Ai⟩:=Ab;replace P:At _ F (2*1) [(.int .u64 J)]:=P;refine mz (fun w' O=>(dR (kk:=2*1) 0 q q bA (P.o O) q).to (b:=(.int .u64 J)) q) (mo q (mz (fun w' O=>bQ (i:=3) 1 q q jr fG D.eJ Oh) ?_));obtain⟨K,o⟩:=fK (l:=H) (i:=3) Oh;obtain⟨Bc,Ac,R⟩:=C.get o;obtain⟨rfl,Aj⟩:=Ac
 replace R:At _ F (3*1) [(.int .u64 K)]:=R;refine mz (fun w' O=>(dR (kk:=3*1) 0 q q bA (R.o O) q).to (b:=(.int .u64 K)) q) (mo q (mz (fun w' O=>bQ (i:=4) 1 q q jr fG D.eJ Oh) ?_));obtain⟨L,r⟩:=fK (l:=H) (i:=4) Oh;obtain⟨Bd,Ad,S⟩:=C.get r;obtain⟨rfl,Ak⟩:=Ad;replace S:At _ F (4*1) [(.int .u64 L)]:=S;refine mz (fun w' O=>(dR (kk:=4*1) 0 q q bA (S.o O) q).to (b:=(.int .u64 L)) q) (mo q (mz (fun w' O=>bQ (i:=5) 1 q q jr fG D.eJ Oh) ?_));obtain⟨N,t⟩:=fK (l:=H) (i:=5) Oh;obtain⟨Be,Ae,U⟩:=C.get t;obtain⟨rfl,Al⟩:=Ae;replace U:At _ F (5*1) [(.int .u64 N)]:=U;refine mz (fun w' O=>(dR (kk:=5*1) 0 q q bA (U.o O) q).to (b:=(.int .u64 N)) q) (mo q (ej ?_));obtain⟨A,E,M⟩:=k3 Y A E M;clear C;clear MC;refine st _ (dw (us:=[[(.int .u64 g)],[(.int .u64 j)],[(.int .u64 J)],[(.int .u64 K)],[(.int .u64 L)],[(.int .u64 N)],[G]]) (cs:=(gT.cells (({cQ:=g,bT:=j,eH:=J,entry:=K,array:=L,bR:=N,ak:=I}:gT)) G)) [(0,0,1),(1,1,1),(2,2,1),(3,3,1),(4,4,1),(5,5,1),(6,6,1)] zX aho q q ⟨q,q,q,q,q,q,(fU E.bZ),tV⟩ ⟨q,q,q,q,q,q,q,tV⟩ q q) (aT (us:=(gT.cells (({cQ:=g,bT:=j,eH:=J,entry:=K,array:=L,bR:=N,ak:=I}:gT)) G)) q q (by exact kz) (by exact fun u hu=>bI (gT.one E.bZ) u hu) A (lB q) ?_);have X:=A;clear A;intro Bh V A
 have hS:∀b∈[z],¬Q2 b:=(hI x);replace E:=E.md V hS;replace M:=M.step V (hI Z);clear X hS;replace A:cg _ _ (gT.cells (({cQ:=g,bT:=j,eH:=J,entry:=K,array:=L,bR:=N,ak:=I}:gT)) G) _:=A;refine dP q (aI ?_);clear e;clear f;clear P;clear R;clear S;clear U;refine au (iP ?_);exact eB (vs:=[(.agg (gT.cells (({cQ:=g,bT:=j,eH:=J,entry:=K,array:=L,bR:=N,ak:=I}:gT)) G).toArray),(.int .i64 ((0:Nat):Int))]) trivial q ⟨⟨_,q,ey (cs:=(gT.cells (({cQ:=g,bT:=j,eH:=J,entry:=K,array:=L,bR:=N,ak:=I}:gT)) G)) (by exact kz) A⟩,q,tV⟩ q ⟨_,(({cQ:=g,bT:=j,eH:=J,entry:=K,array:=L,bR:=N,ak:=I}:gT)),0,q,M,(by exact⟨Oh,Oh,Oh,Oh,Oh,Oh⟩),(E.sub (fun b y _=>tQ b y)),Oh,(by rw[rd.2];simp only[List.getD_eq_getElem?_getD,Af,Ag,k,o,r,t];rfl)⟩
theorem K0 (uQ:Up w Q) {v0:Value} {v:eR} (h0:Pt fA 73 w Q v0 v) (p:Nat) (a1:p<18446744073709551616) (p0:v.b.length≤140737488355328) :
  Calls Zp 89 #[v0,(.int .u64 p)] w fun en w'=>(∃u0_0:Value,∃r0:gT,en = .returned (.agg (gT.cells r0 u0_0).toArray)∧Md [] w w'∧gT.ok r0∧Ls fF w' Q u0_0 r0.ak∧gm (v.h.n.getD 0 0) v.b p=(r0,0))∨∃cp:Nat,en = .panicked (FI (.iface 203 (.agg #[.int .i64 cp])))∧(cp≠0∧cp<9223372036854775808)∧Md [] w w'∧(gm (v.h.n.getD 0 0) v.b p).2=cp:=by
 obtain⟨e,Ad,rfl,N,h0,qn⟩:=h0;obtain⟨v1,rfl,q2,H⟩:=eL qn;have M:=Md.refl [] w;have Ag:=uQ;have k:∀b,Q b→Q b:=fun _ h=>h;refine enter (n:=22) Tryz.func89 q q q fun B=>ns (cw zX ?_);intro P w4 S y D C;have r:e≠P:=(by have:=h0.lt;omega);obtain⟨Q5,a,c,I,O⟩:=kR uQ S y D;replace N:=a _ N h0.lt;replace k:=tT k c;replace S:=ly M.size S;replace H:=(H.sub a).o D;obtain⟨h0,M⟩:=k2 D h0 M;replace uQ:=O;clear O a c;have Y:ck [] w P:=.inr S;replace C:cg _ _ (gT.cells (BA) SN) _:=C;have Ab:gT.ok (BA):=(by exact⟨Om,Om,Om,Om,Om,Om⟩);refine nt (ns (m2 q q (j4 afi q (qT uQ ⟨_,_,q,N,h0,dV q2 H⟩ p Oh) ?_)));rintro en w7 (⟨rfl,D,U⟩|⟨cp,rfl,V,D,U⟩)
 rotate_left
 ·exact .inr ⟨_,q,gV (Or.inr ⟨cp,q,V,M.k D,(ahE U V.1)⟩)⟩
 refine .inl ⟨_,q,?_⟩;obtain⟨H,h0,C,uQ,M⟩:=k5 D H h0 C uQ M;refine nt (nm q (sn q (sf q sK (sl (u:=v1) q gD h0 q (mv q (ax aj1 q (GX uQ H p Oh Oh) ?_))))));rintro en w8 ⟨E,F,l,rfl,D,W,A,Ac,f⟩;refine rv ?_;obtain⟨h0,C,uQ,M⟩:=k4 D h0 C uQ M;refine mv q (se q q (se q q (cw zX ?_)));intro R w9 T z D G;have t:e≠R:=(by have:=h0.lt;omega);have o:P≠R:=(by have:=C.lt;omega);obtain⟨d,a,c,X,O⟩:=kR uQ T z D;replace I:=nQ I c;replace k:=tT k c;replace T:=ly M.size T;replace C:=C.o D;replace A:=(A.sub a).o D;replace M:=M.k D;replace uQ:=O;clear O a c;have Z:ck [] w R:=.inr T;replace G:cg _ _ (gT.cells (BA) SN) _:=G;have Aa:gT.ok (BA):=(by exact⟨Om,Om,Om,Om,Om,Om⟩);refine aT (us:=(gT.cells F E)) q q (by exact kz) (by exact fun u x=>bI (gT.one A.bZ) u x) G (lB q) ?_
 have j:=G;clear G;intro Ai D G;have g:∀b∈[R],¬d b:=(hI X);replace C:=C.md D Nv;replace A:=A.md D g;replace uQ:=uQ.md D;replace M:=M.step D (hI Z);clear j g;replace G:cg _ _ (gT.cells F E) _:=G;refine an q (nm q (j4 abP q (sA uQ l Oh) ?_));rintro en Aj (⟨rfl,D,K⟩|⟨cp,rfl,V,D,K⟩)
 rotate_left
 ·exact .inr ⟨_,q,gV (Or.inr ⟨cp,q,V,M.k D,(by rw[abw U f];exact K)⟩)⟩
 refine .inl ⟨_,q,?_⟩;obtain⟨C,A,G,M⟩:=k4 D C A G M;refine nt (ns (st _ (dh (gT.cells F E) q (by exact kz) G q) (aT (us:=(gT.cells F E)) q q (by exact kz) (by exact fun u x=>bI (gT.one A.bZ) u x) C (lB q) ?_)));have L:=A;have i:=C;clear C;intro Ak D C;have g:∀b∈[P],¬d b:=(hI I);replace L:=L.md D g;replace M:=M.step D (hI Y);clear i g;replace C:cg _ _ (gT.cells F E) _:=C;refine nt (iP ?_);exact d9 (v:=(.agg (gT.cells F E).toArray)) trivial q ⟨⟨_,q,ey (cs:=(gT.cells F E)) (by exact kz) C⟩,tV⟩ (Or.inl ⟨_,F,q,M,W,(L.sub (fun b J _=>k b J)),(by rw[abw U f,K])⟩)
theorem aa8 (uQ:Up w Q) {v0:Value} {v:eR} (h0:Pt (tPt fA 73) 46 w Q v0 v) {v1:Value} {p:Nat} (h1:Pt ec 26 w Q v1 p) {b2:Nat} {v2_0:Value} (m:gT) (h2:cg w b2 (gT.cells m v2_0) 112) (n2:¬Q b2) (a2_0:gT.ok m) (a2_1:Ls fF w Q v2_0 m.ak) (p0:v.b.length≤140737488355328) :
  Calls Zp 88 #[v0,v1,.pointer (some ⟨b2,0,none⟩)] w fun en w'=>(∃m29:gT,∃u52_0:Value,en = .returned (.tuple #[])∧Md [b2] w w'∧cg w' b2 (gT.cells m29 u52_0) 112∧¬Q b2∧gT.ok m29∧Ls fF w' Q u52_0 m29.ak∧gm (v.h.n.getD 0 0) v.b p=(m29,0))∨∃cp:Nat,en = .panicked (FI (.iface 203 (.agg #[.int .i64 cp])))∧(cp≠0∧cp<9223372036854775808)∧Md [b2] w w'∧cg w' b2 (gT.cells m v2_0) 112∧(gm (v.h.n.getD 0 0) v.b p).2=cp:=by
 obtain⟨V,g,rfl,L,h0,qn⟩:=h0;obtain⟨v1,rfl,Z⟩:=qn;obtain⟨W,i,rfl,N,h1,c⟩:=h1;obtain⟨rfl,f⟩:=c;have C:=n2;have P:ck [b2] w b2:=.inl Oq;have T:V≠b2:=fun h=>C (h ▸ L);have U:W≠b2:=fun h=>C (h ▸ N);have M:=Md.refl [b2] w;have o:=uQ;have l:∀b,Q b→Q b:=fun _ h=>h;refine enter (n:=6) Tryz.func88 q q q ?_;intro B;refine aQ (sl (u:=v1) q mG h0 q ?_);have J:=Z;obtain⟨K,d,rfl,E,J,R⟩:=J;obtain⟨r,rfl,k,a⟩:=eL R;have O:K≠b2:=fun h=>C (h ▸ E);refine sl (u:=(.int .u64 p)) q bA h1 q (j4 ajU q (K0 uQ ⟨_,_,q,E,J,dV k a⟩ p Oh Oh) ?_);rintro en t (⟨D,F,rfl,H,G,A,I⟩|⟨cp,rfl,Y,H,I⟩)
 rotate_left
 ·exact .inr ⟨_,q,gV (Or.inr ⟨cp,q,Y,M.k H,h2.o H,I⟩)⟩
 refine .inl ⟨_,q,?_⟩;obtain⟨h2,M⟩:=k2 H h2 M;refine aT (us:=(gT.cells F D)) q q (by exact kz) (by exact fun u j=>bI (gT.one A.bZ) u j) h2 (lB q) ?_;have X:=h2;clear h2;intro x H h2;have e:∀b∈[b2],¬Q b:=(hI C);replace A:=A.md H e;replace M:=M.step H (hI P);clear X e;replace h2:cg _ _ (gT.cells F D) _:=h2;refine aI ?_;exact eB (vs:=[]) trivial q trivial q (Or.inl ⟨F,_,q,M,h2,n2,G,(A.sub (fun b S _=>l b S)),I⟩)
theorem YK:ea Zp 14=true:=Ym
theorem xF:bg Zp 112 0=some 0:=Ym
theorem xG:bg Zp 112 6=some 6:=Ym
theorem Rm (uQ:Up w Q) {v0:Value} {v:eR} (h0:Pt fA 73 w Q v0 v) (p:Nat) (a1:p<18446744073709551616) (p0:v.b.length≤140737488355328) :
  Calls Zp 118 #[v0,(.int .u64 p)] w fun en w'=>(∃u0_0:Value,∃r0:gT,en = .returned (.agg (gT.cells r0 u0_0).toArray)∧Md [] w w'∧gT.ok r0∧Ls fF w' Q u0_0 r0.ak∧gP (decide (v.h.bW &&& 4≠0)) v.h.cG (v.h.n.getD 0 0) v.b p=(r0,0))∨∃cp:Nat,en = .panicked (FI (.iface 203 (.agg #[.int .i64 cp])))∧(cp≠0∧cp<9223372036854775808)∧Md [] w w'∧(gP (decide (v.h.bW &&& 4≠0)) v.h.cG (v.h.n.getD 0 0) v.b p).2=cp:=by
 obtain⟨k,Am,rfl,I,h0,qn⟩:=h0;obtain⟨v1,rfl,q2,G⟩:=eL qn;have M:=Md.refl [] w;have Aq:=uQ;have y:∀b,Q b→Q b:=fun _ h=>h;refine enter (n:=19) Tryz.func118 q q q fun B=>ns (cw zX ?_);intro U w4 W Ae E D;have Ab:k≠U:=(by have:=h0.lt;omega);obtain⟨Q5,Z,j,N,S⟩:=kR uQ W Ae E;replace I:=Z _ I h0.lt;replace y:=tT y j;replace W:=ly M.size W;replace G:=(G.sub Z).o E;obtain⟨h0,M⟩:=k2 E h0 M;replace uQ:=S;clear S Z j;have e:ck [] w U:=.inr W;replace D:cg _ _ (gT.cells (BA) SN) _:=D;have Ak:gT.ok (BA):=(by exact⟨Om,Om,Om,Om,Om,Om⟩);refine nt (ns (m2 q q (j4 ajU q (K0 uQ ⟨_,_,q,I,h0,dV q2 G⟩ p Oh Oh) ?_)));rintro en w7 (⟨C,F,rfl,E,O,A,P⟩|⟨cp,rfl,x,E,P⟩)
 rotate_left
 ·exact .inr ⟨_,q,gV (Or.inr ⟨cp,q,x,M.k E,(ai0 P x.1)⟩)⟩
 refine .inl ⟨_,q,?_⟩;obtain⟨G,h0,D,uQ,M⟩:=k5 E G h0 D uQ M;refine cw zX ?_;intro V w8 X Af E H;have Ac:k≠V:=(by have:=h0.lt;omega);have Aa:U≠V:=(by have:=D.lt;omega);obtain⟨Q9,Z,j,d,S⟩:=kR uQ X Af E;replace I:=Z _ I h0.lt;replace N:=nQ N j;replace y:=tT y j;replace X:=ly M.size X;replace G:=(G.sub Z).o E;obtain⟨h0,D⟩:=k2 E h0 D;replace A:=(A.sub Z).o E;replace M:=M.k E;replace uQ:=S;clear S Z j;have f:ck [] w V:=.inr X;replace H:cg _ _ (gT.cells (BA) SN) _:=H;have Ag:gT.ok (BA):=(by exact⟨Om,Om,Om,Om,Om,Om⟩);refine aT (us:=(gT.cells F C)) q q (by exact kz) (by exact fun u hu=>bI (gT.one A.bZ) u hu) H (lB q) ?_;have r:=H;clear H;intro Ai E H;have i:∀b∈[V],¬Q9 b:=(hI d);replace G:=G.md E i;replace h0:=h0.md E Nv;replace D:=D.md E Nv;replace A:=A.md E i;replace uQ:=uQ.md E;replace M:=M.step E (hI f);clear r i;replace H:cg _ _ (gT.cells F C) _:=H;refine nt (aP (aP ?_));have dl:=UU P
 have K:=H;refine dZ [(0,true),(1,true),(2,true),(3,true),(4,true),(5,false)] [6] (fun w'=>Md [] Ai w') eD Ym ?_;intro Ar J;refine⟨J.mono Oq,?_⟩;have z:=J.mono (T:=[]) Oq;refine mz (fun w' t=>aM q xF) (mz (fun w' t=>(aC q bA (K.o t) q).to (b:=(.int .u64 F.cQ)) q) ?_);have Ap:F.cQ<18446744073709551616:=O.1;refine mo q (mz (fun w' t=>aM q xG) (mz (fun w' t=>(aC q gD (K.o t) q).to (b:=C) q) ?_));obtain⟨G,h0,D,A,H,uQ,M⟩:=k7 J G h0 D A H uQ M;refine mF ?_ rfl;refine ax YK q (pN uQ ⟨_,_,q,I,h0,dV q2 G⟩ A Oh) ?_;rintro en As ⟨g,rfl,E,Ah,Y⟩;refine rv ?_;obtain⟨D,A,H,M,z⟩:=k5 E D A H M z;refine aI ⟨q,z,?_⟩;refine ej ?_;clear K;clear z;refine st _ (fw (a:=F.cQ) (b:=g) q q) (nt ?_);refine cu q (fun c=>?_) (fun c=>?_)
 ·(have l:=dT c);refine aQ (st _ (dw (us:=[[(.int .i64 ((9:Nat):Int))]]) (cs:=(Stop.cells (({code:=9}:Stop)))) [(0,0,1)] z203 FJ q q ⟨q,tV⟩ ⟨q,tV⟩ q q) (st _ (ot uH q) (qi q ?_)));exact gV (Or.inr ⟨9,q,⟨by omega,by omega⟩,M,(ahm P Y Oh)⟩)
 (have l:=dF c);refine bh (au (ns (st _ (dh (gT.cells F C) q (by exact kz) H q) (aT (us:=(gT.cells F C)) q q (by exact kz) (by exact fun u hu=>bI (gT.one A.bZ) u hu) D (lB q) ?_))));have R:=A;have o:=D;clear D;intro Au E D;have i:∀b∈[U],¬Q9 b:=(hI N);replace R:=R.md E i;replace M:=M.step E (hI e);clear o i;replace D:cg _ _ (gT.cells F C) _:=D;refine nt (iP ?_);exact d9 (v:=(.agg (gT.cells F C).toArray)) trivial q ⟨⟨_,q,ey (cs:=(gT.cells F C)) (by exact kz) D⟩,tV⟩ (Or.inl ⟨_,F,q,M,O,(R.sub (fun b L _=>y b L)),(WT P Y Oh)⟩)
end Go.Proofs.YtmobbnpkkmeoiaaGreat
