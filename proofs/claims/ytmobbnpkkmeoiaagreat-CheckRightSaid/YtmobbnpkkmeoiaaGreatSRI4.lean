/- Part 4 of what the walk of a law stands on: VEr, VEr2, VEr3, VArr1, VArray, WName, WSplit, VSplit, WHash, VHash, VHs, VData2, VPay. No statement is proved here. -/
import Derived.Test.YtmobbnpkkmeoiaaGreatSRI3
import Derived.Test.YtmobbnpkkmeoiaaGreatRows
namespace Go.Proofs.YtmobbnpkkmeoiaaGreat
open Go Go.Wk Go.RowKit
set_option linter.unusedVariables false
set_option linter.unusedSimpArgs false
attribute [local irreducible] wpList wpQuiet wpStill ic Code.wp Calls bodyPost
variable {w:World} {Q:Nat→Prop}
theorem ng:gW Zp 97 21=true:=Ym
theorem VK:iM Zp 180 2=true:=Ym
theorem abA:xQ Zp 180 2 16=true:=Ym
theorem xA:bg Zp 180 0=some 0:=Ym
theorem WZ:bg Zp 97 0=some 0:=Ym
theorem XA:bg Zp 97 3=some 3:=Ym
theorem qJ:bg Zp 97 5=some 20:=Ym
theorem zF:jJ Zp 95=true:=Ym
theorem akx:gV Zp 180=some [(0,1),(1,1)]:=Ym
theorem afZ:gV Zp 97=some [(0,1),(1,1),(2,1),(3,16),(19,1),(20,1)]:=Ym
theorem u95:Zp.underlying 95=some (.slice 180):=Ym
theorem aiY:fR Zp 180=some [.int .u64 0,.int .u64 0]:=Ym
theorem z97:fR Zp 97=some ([.int .u64 0,.int .u64 0,.int .u64 0] ++ (List.replicate 16 (.int .u8 0) ++ ([.int .u64 0,.slice none 0 0]))):=Ym
set_option maxRecDepth 100000 in
abbrev vT:gI:={seq:=0,cu:=0,mono:=0,bV:=pV,xor:=0,aD:=[]}
set_option maxHeartbeats 4000000 in
theorem YM (uQ:Up w Q) {v0:Value} {b:Ly} (h0:Ls fI w Q v0 b) (p:Nat) (a1:p<18446744073709551616) (p0:b.length≤1000000) :
  Calls Zp 121 #[v0,(.int .u64 p)] w fun en w'=>∃u0_0:Value,∃r0:gI,∃r1:Nat,en = .returned (.tuple #[.agg (gI.cells r0 u0_0).toArray,(.int .i64 r1)])∧Md [] w w'∧gI.ok r0∧Ls sN w' Q u0_0 r0.aD∧r1<9223372036854775808∧lW b p=(r0,r1):=by
 have L0:=h0.gm;have M:=Md.refl [] w;have Db:=uQ;have tQ:∀b,Q b→Q b:=fun _ h=>h;have W:∀b,Q b→b<w.heap.size→Q b:=fun _ h _=>h;refine enter (n:=90) Tryz.func121 q q q fun B=>ns (cw z97 ?_);intro r w1 Bg C6 I D;obtain⟨Q2,sQ,sT,K,Ah⟩:=kM uQ Bg C6 I;replace tQ:=tT tQ sT;replace W:=fun b S hl=>sQ b (W b S hl) (lj hl M.size);replace Bg:=ly M.size Bg;replace h0:=(h0.sub sQ).o I;replace M:=M.k I;replace uQ:=Ah;clear Ah sQ sT;have t:cr [] w r:=.inr Bg;replace D:ck _ _ (gI.cells (vT) SN) _:=D;have Dn:gI.ok (vT):=(by exact⟨Om,Om,Om,q,Om⟩);refine an q (ns (m2 q q (ax ahY q (xY uQ h0 p Oh 3 Oh 48 Oh 16 Oh Oh Oh) ?_)));rintro en w4 ⟨Cq,o,Be,rfl,I,N,Do,A0⟩;refine rv ?_;obtain⟨D,uQ,M⟩:=k3 I D uQ M;refine mv q (se q q (se q q (d9 q (an q (aP (nm q (st _ (eX (a:=Be) (b:=0) q q) (nt ?_))))))));refine cA q (fun Bu=>?_) (fun Bu=>?_)
 ·(have f:=dT Bu);refine ns (st _ (dw (us:=[]) (cs:=(gI.cells (vT) SN)) [] z97 afZ q q trivial trivial q q) (mv q (aZ (us:=(gI.cells (vT) SN)) q q (by exact ng) (by exact fun u hu=>bH (gI.one q) u hu) D (lB q) ?_)));have X:=D;clear D;intro w5 I D;replace M:=M.step I (hI t);clear X;replace D:ck _ _ (gI.cells (vT) SN) _:=D;refine ar q (aX ?_);exact eA (vs:=[(.agg (gI.cells (vT) SN).toArray),(.int .i64 Be)]) trivial q ⟨⟨_,q,ew (cs:=(gI.cells (vT) SN)) (by exact ng) D⟩,q,tV⟩ q ⟨_,(vT),Be,q,M,Vv,(Ls.nil _ _ _),Vv,(ahM A0 f)⟩
 (have f:=dF Bu);refine bh (au (ns ?_));have bo:=tJ A0 (Classical.not_not.1 f);refine mv q (ax ahZ q (CN uQ N Oh Oh) ?_);rintro en w6 ⟨Y,U,rfl,I,E,B0⟩;refine rv ?_;obtain⟨D,N,uQ,M⟩:=k4 I D N uQ M;refine an q (aP ?_);have ll:U.length=o.length/8:=(by rw[← B0,lQ]);have J:=E;refine dX [(0,true),(1,true),(2,true),(3,true),(4,true),(5,true),(6,true),(7,true),(8,true),(9,true),(10,true),(11,true),(12,true),(13,false)] [14] (fun w'=>Md [] w6 w') eC Ym ?_;intro w7 H;refine⟨H.mono Oq,?_⟩;have MC:=H.mono (T:=[]) Oq;refine mo q (mz (fun w' O=>bR (i:=0) 1 q q jh fB E.eJ Oh) ?_);obtain⟨x8,Cl⟩:=fM (l:=U) (i:=0) Oh;obtain⟨c9,C2,Bh⟩:=J.get Cl;obtain⟨rfl,Di⟩:=C2;replace Bh:At _ Y (0*1) [(.int .u64 x8)]:=Bh;refine mz (fun w' O=>(dx (kk:=0*1) 0 q q bA (Bh.o O) q).to (b:=(.int .u64 x8)) q) (mo q (mz (fun w' O=>bR (i:=1) 1 q q jh fB E.eJ Oh) ?_));obtain⟨v,Bo⟩:=fM (l:=U) (i:=1) Oh;obtain⟨Dp,Ce,Ap⟩:=J.get Bo;obtain⟨rfl,Cx⟩:=Ce;replace Ap:At _ Y (1*1) [(.int .u64 v)]:=Ap;refine mz (fun w' O=>(dx (kk:=1*1) 0 q q bA (Ap.o O) q).to (b:=(.int .u64 v)) q) (mo q (mz (fun w' O=>bR (i:=2) 1 q q jh fB E.eJ Oh) ?_));obtain⟨Aa,Bp⟩:=fM (l:=U) (i:=2) Oh;obtain⟨Dq,Cf,Aq⟩:=J.get Bp
 obtain⟨rfl,Cy⟩:=Cf;replace Aq:At _ Y (2*1) [(.int .u64 Aa)]:=Aq;refine mz (fun w' O=>(dx (kk:=2*1) 0 q q bA (Aq.o O) q).to (b:=(.int .u64 Aa)) q) (mo q (mz (fun w' O=>bR (i:=5) 1 q q jh fB E.eJ Oh) ?_));obtain⟨Ab,Bq⟩:=fM (l:=U) (i:=5) Oh;obtain⟨Dr,Cg,Ar⟩:=J.get Bq;obtain⟨rfl,Cz⟩:=Cg;replace Ar:At _ Y (5*1) [(.int .u64 Ab)]:=Ar;refine mz (fun w' O=>(dx (kk:=5*1) 0 q q bA (Ar.o O) q).to (b:=(.int .u64 Ab)) q) (mz (fun w' O=>dw (us:=[[(.int .u64 x8)],[(.int .u64 v)],[(.int .u64 Aa)],[(.int .u64 Ab)]]) (cs:=(gI.cells (({seq:=x8,cu:=v,mono:=Aa,bV:=pV,xor:=Ab,aD:=[]}:gI)) SN)) [(0,0,1),(1,1,1),(2,2,1),(4,19,1)] z97 afZ q q ⟨q,q,q,q,tV⟩ ⟨q,q,q,q,tV⟩ q q) ?_);obtain⟨D,N,E,uQ,M⟩:=k5 H D N E uQ M;refine mV ?_ rfl;refine cw z97 ?_;intro Z D3 Ay C7 I F;have Cu:=ly MC.size Ay;have Ct:r≠Z:=(by have:=D.lt;omega);obtain⟨Bs,sQ,sT,L,Ah⟩:=kM uQ Ay C7 I;replace K:=nQ K sT;replace tQ:=tT tQ sT;replace W:=fun b S hl=>sQ b (W b S hl) (lj hl M.size);replace Ay:=ly M.size Ay;replace D:=D.o I;replace N:=(N.sub sQ).o I;replace E:=(E.sub sQ).o I;obtain⟨M,MC⟩:=k2 I M MC;replace uQ:=Ah;clear Ah sQ sT;have Aj:cr [] w Z:=.inr Ay;replace F:ck _ _ (gI.cells (vT) SN) _:=F;have C8:gI.ok (vT):=(by exact⟨Om,Om,Om,q,Om⟩)
 refine aH ⟨q,MC,?_⟩;refine ec ?_;clear J;clear MC;refine aZ (us:=(gI.cells (({seq:=x8,cu:=v,mono:=Aa,bV:=pV,xor:=Ab,aD:=[]}:gI)) SN)) q q (by exact ng) (by exact fun u hu=>bH (gI.one q) u hu) F (lB q) ?_;have k:=F;clear F;intro Dc I F;have hS:∀b∈[Z],¬Bs b:=(hI L);replace D:=D.md I Nv;replace N:=N.md I hS;replace E:=E.md I hS;replace uQ:=uQ.md I;replace M:=M.step I (hI Aj);clear k hS;replace F:ck _ _ (gI.cells (({seq:=x8,cu:=v,mono:=Aa,bV:=pV,xor:=Ab,aD:=[]}:gI)) SN) _:=F;refine aH ?_;clear Bh;clear Ap;clear Aq;clear Ar;refine au (aP ?_);have bp:=YD (x:=o) Oh;refine dX (ml 4) [4] (fun w'=>Md [] Dc w') eC Ym ?_;intro D4 H;refine⟨H.mono Oq,?_⟩;refine mz (fun w' O=>aL q XA) (mz (fun w' O=>ig u34 pS q Om) (mo q (Go.Wk.m (p7 Cq 24 40) (fun w' O=>by exact pH 24 40 iC pS q N.eJ Oh Oh ⟨_,q⟩ ⟨_,q⟩) (ec ?_))));obtain⟨D,N,E,F,uQ,M⟩:=k6 H D N E F uQ M;have hT:=N.by.sub 24 40 Oh Oh;refine BA iC pS q q F hT (yN _) (by have:(gI.cells (({seq:=x8,cu:=v,mono:=Aa,bV:=pV,xor:=Ab,aD:=[]}:gI)) SN).length=21:=rfl;simp;omega) ?_;have k:=F;clear F hT;intro D5 I F;have hS:∀b∈[Z],¬Bs b:=(hI L);replace D:=D.md I Nv;replace E:=E.md I hS;replace uQ:=uQ.md I;replace M:=M.step I (hI Aj);clear k hS;rw[bp.1,abH bp.2]at F;obtain⟨Co,Al⟩:∃y,y=({({seq:=x8,cu:=v,mono:=Aa,bV:=pV,xor:=Ab,aD:=[]}:gI)with bV:=(o.drop 24).take 16}:gI):=⟨_,q⟩
 rw[← Al]at F;have Bj:=((by exact⟨Oh,Oh,Oh,(by rfl),Oh⟩):gI.ok (({seq:=x8,cu:=v,mono:=Aa,bV:=pV,xor:=Ab,aD:=[]}:gI)));have B3:gI.ok Co:=(by rw[Al];exact⟨Bj.1,Bj.2.1,Bj.2.2.1,bp.2,Bj.2.2.2.2⟩);refine nt (aP (ns (an q (bF ?_))));refine nv (fun(e:gI) (C:Value) (i:Nat)=>[(10,(.int .i64 i)),(4,(.pointer (some ⟨r,0,none⟩))),(5,(.int .i64 ((0:Nat):Int))),(8,Y),(9,(.pointer (some ⟨Z,0,none⟩)))]) (fun(e:gI) (C:Value) (i:Nat) w'=>∃Q':Nat→Prop,(∀b,Q' b→Q b)∧(∀b,Q b→b<w.heap.size→Q' b)∧Up w' Q'∧Md [] w w'∧ck w' Z (gI.cells e C) 97∧Ow sN 180 (cr [] w) w' Q' C e.aD∧gI.ok e∧ck w' r (gI.cells (vT) SN) 97∧Ls dY w' Q' Y U∧¬Q' Z∧¬Q' r∧(i%2=0∧6≤i)∧i≤U.length∧BH o e i) (fun(e:gI) (C:Value) (i:Nat)=>U.length-i) (x0:=Co) (x1:=SN) (x2:=6) ?_ ?_ ?_
 ·exact⟨q,q,q,q,q,tV⟩
 ·exact⟨Bs,tQ,W,uQ,M,F,(by(simp only[Al];exact Ow.nil _ _ _ _ _)),B3,D,E,L,K,Oh,Oh,(YQ B0.symm Cl Bo Bp Bq  q Al)⟩
 clear M uQ tQ W K L h0 D N E F
 rintro e C i B Cr ⟨Bt,tQ,W,uQ,M,F,A,c,D,E,L,K,Dj,Dk,Ag⟩;refine aP (ns (m2 q q (sL q jh E.eJ (st _ (gq (a:=i) (b:=U.length) q q) (nt ?_)))));refine cA q (fun Bv=>?_) (fun Bv=>?_)
 ·(have B9:=dT Bv);refine bh (au (aP (bF ?_)));have il:=Ag.aD;replace il:e.aD.length=(i-6)/2:=by rw[il,zy]
  have G:=A;have V:=F;have J:=E;have Cc:∀b∈(ah C).toList,¬Bt b:=(rN A);refine dX [(0,true),(1,true),(2,true),(3,true),(4,true),(5,true),(6,true),(7,true),(8,true),(9,true),(10,true),(11,true),(12,false)] [13,14,15] (fun w'=>Md (ah C).toList Cr w') eC Ym ?_;intro D6 H;refine⟨H.mono Oq,?_⟩;have MC:=H.mono (T:=(ah C).toList) Oq;have Bf:∀b,ah C=some b→b∈(ah C).toList∨Cr.heap.size≤b:=fun b S=>Or.inl (by simp[S]);refine mz (fun w' O=>aL q qJ) (mz (fun w' O=>(aC q zF (V.md O (aW G V)) q).to (b:=C) q) (mo q (mo q (mz (fun w' O=>bR (i:=i) 1 q q jh fB E.eJ Oh) ?_))));obtain⟨Ac,A9⟩:=fM (l:=U) (i:=i) Oh;obtain⟨Ds,Ch,As⟩:=J.get A9;obtain⟨rfl,C0⟩:=Ch;replace As:At _ Y (i*1) [(.int .u64 Ac)]:=As;refine mz (fun w' O=>(dx (kk:=i*1) 0 q q bA (As.md O (J.yM A9 Cc)) q).to (b:=(.int .u64 Ac)) q) (mo q (mo q (mz (fun w' O=>rA (a:=i) (b:=1) q q Oh) (mz (fun w' O=>bR (i:=i+1) 1 q q jh fB E.eJ Oh) ?_))));obtain⟨Ad,Ba⟩:=fM (l:=U) (i:=i+1) Oh;obtain⟨Du,Ci,Au⟩:=J.get Ba;obtain⟨rfl,C1⟩:=Ci;replace Au:At _ Y ((i+1)*1) [(.int .u64 Ad)]:=Au;refine mz (fun w' O=>(dx (kk:=(i+1)*1) 0 q q bA (Au.md O (J.yM Ba Cc)) q).to (b:=(.int .u64 Ad)) q) (mz (fun w' O=>dw (us:=[[(.int .u64 Ac)],[(.int .u64 Ad)]]) (cs:=(kV.cells (({b9:=Ac,cQ:=Ad}:kV)))) [(0,0,1),(1,1,1)] aiY akx q q ⟨q,q,tV⟩ ⟨q,q,tV⟩ q q) ?_);obtain⟨A,F⟩:=k2 H A F
  obtain⟨D,E,uQ,M⟩:=k4 H D E uQ M;refine mV ?_ rfl;refine bP [(kV.cells (({b9:=Ac,cQ:=Ad}:kV)))] u95 abA Om Om q q ⟨q,tV⟩ ⟨q,tV⟩ q Om ?_;intro De D7 B8 Dm I A5;have Cs:=uQ _ B8;obtain⟨A,F,D,E,uQ,M,MC⟩:=k7 I A F D E uQ M MC;replace A5:=Ls.e5 (m:=1) (R:=Bt) (T:=sN) (xs:=[({b9:=Ac,cQ:=Ad}:kV)]) A5 ⟨_,_,q,(XY (by exact⟨Oh,Oh⟩)),q⟩ q Om Cs;refine aH ⟨q,MC,?_⟩;refine ec ?_;clear J V G;clear MC;refine gw (sz:=2) (by rfl) u95 abA q q A A5 (fun _ h _=>h) uQ (cr.new M) Wx Wx ?_;intro Cp D8 B6 sQ sT Ah g I hS _ C3;have P:=A;clear A;replace L:=nQ L sT;replace K:=nQ K sT;replace tQ:=tT tQ sT;replace W:=fun b S hl=>sQ b (W b S hl) (lj hl M.size);replace F:=F.md I (aW P F);replace D:=D.md I (aW P D);replace E:=(E.sub sQ).md I hS;replace uQ:=uQ.md I;replace M:=M.eD I (fun b S=>(P.2 b S).1);replace uQ:=Ah;clear Ah sQ sT hS C3;refine sf q qJ (bN q q zF g.cg F (lB q) ?_);have k:=F;clear F;intro D9 I F;have hS:∀b∈[Z],¬B6 b:=(hI L);replace D:=D.md I Nv;replace E:=E.md I hS;replace g:=g.md I (aB k g) hS;replace uQ:=uQ.md I;replace M:=M.step I (hI Aj);clear k hS;obtain⟨B5,Am⟩:∃y,y=({e with aD:=e.aD ++ ([({b9:=Ac,cQ:=Ad}:kV)])}:gI):=⟨_,q⟩
  replace F:ck _ _ (gI.cells ({e with aD:=e.aD ++ ([({b9:=Ac,cQ:=Ad}:kV)])}) Cp) _:=F;rw[← Am]at F;have B4:gI.ok B5:=(by rw[Am];exact⟨c.1,c.2.1,c.2.2.1,c.2.2.2.1,c.2.2.2.2⟩);rw[show e.aD ++ ([({b9:=Ac,cQ:=Ad}:kV)])=B5.aD by rw[Am]]at g;refine aH ?_;clear As;clear Au;refine bW (au (aQ (mv q (st _ (rA (a:=i) (b:=2) q q Oh) (an q ?_)))));refine kD (x0:=B5) (x1:=Cp) (x2:=(i+2)) Oh ⟨(fq q Oh),q,q,q,q,tV⟩ ⟨B6,tQ,W,uQ,M,F,g,B4,D,E,L,K,Oh,Oh,(Ag.step Oh Oh B0.symm A9 Ba Am)⟩
 (have B9:=dF Bv);refine dW (bU (bU (eS (au (aP (ns ?_))))));have il:=Ag.aD;replace il:e.aD.length=(i-6)/2:=by rw[il,zy]
 have ex:e.seq=fA o 0∧e=GU o:=⟨Ag.seq,Ag.eq Oh Oh Oh⟩;refine sf q WZ (sl (u:=(.int .u64 e.seq)) q bA F q ?_);have Dz:e.seq<18446744073709551616:=c.1;refine st _ (gO (a:=e.seq) (b:=0) q q) (nt ?_);refine cA q (fun Bw=>?_) (fun Bw=>?_)
 ·(have Ao:=dT Bw);refine ns (st _ (dw (us:=[]) (cs:=(gI.cells (vT) SN)) [] z97 afZ q q trivial trivial q q) (aZ (us:=(gI.cells (vT) SN)) q q (by exact ng) (by exact fun u hu=>bH (gI.one q) u hu) D (lB q) ?_));have X:=D;clear D;intro Ea I D;replace M:=M.step I (hI t);clear X;replace D:ck _ _ (gI.cells (vT) SN) _:=D;refine ar q (aX ?_);exact eA (vs:=[(.agg (gI.cells (vT) SN).toArray),(.int .i64 ((13:Nat):Int))]) trivial q ⟨⟨_,q,ew (cs:=(gI.cells (vT) SN)) (by exact ng) D⟩,q,tV⟩ q ⟨_,(vT),13,q,M,Vv,(Ls.nil _ _ _),Oh,((LG A0 f).trans (ahK (by rw[← ex.1];exact Ao)))⟩
 (have Ao:=dF Bw);refine bh (au (aP (ns (an q (bF ?_)))));refine vI (fun(d:Nat)=>[(11,(.int .i64 d)),(4,(.pointer (some ⟨r,0,none⟩))),(9,(.pointer (some ⟨Z,0,none⟩)))]) (fun(d:Nat) w'=>∃Q':Nat→Prop,(∀b,Q' b→Q b)∧(∀b,Q b→b<w.heap.size→Q' b)∧Up w' Q'∧Md [] w w'∧ck w' r (gI.cells (vT) SN) 97∧ck w' Z (gI.cells e C) 97∧Ow sN 180 (cr [] w) w' Q' C e.aD∧¬Q' r∧¬Q' Z∧1≤d∧(∀j,1≤j→j<d→∀y z,e.aD[j]? = some y→e.aD[j-1]? = some z→z.b9<y.b9)) (fun(d:Nat)=>e.aD.length-d) (x0:=1) ?_ ?_ ?_
 ·exact⟨q,q,q,tV⟩
 ·exact⟨Bt,tQ,W,uQ,M,D,F,A,K,L,Oh,(by intro j h1 h2;omega)⟩
 clear M uQ tQ W L K A F D E
 rintro d B Dd ⟨B7,tQ,W,uQ,M,D,F,A,K,L,Dl,Br⟩;refine aP (nm q (sf q qJ (sl (u:=C) q zF F q (sL q u95 A.eJ (st _ (gq (a:=d) (b:=e.aD.length) q q) (nt ?_))))));refine cA q (fun Bx=>?_) (fun Bx=>?_)
 ·(have Ca:=dT Bx);refine bh (au (aP (bF (aP ?_))));have V:=F;have G:=A;refine dX (ml 13) [13] (fun w'=>Md [] Dd w') eC Ym ?_;intro Eb H;refine⟨H.mono Oq,?_⟩;have MC:=H.mono (T:=[]) Oq;refine mz (fun w' O=>aL q qJ) (mz (fun w' O=>(aC q zF (V.o O) q).to (b:=C) q) (mo q (mz (fun w' O=>bR (i:=d) 2 q q u95 VK A.eJ Oh) ?_)));obtain⟨Bk,Bb⟩:=fM (l:=e.aD) (i:=d) Oh;obtain⟨Dv,Cj,Ae⟩:=G.get Bb;obtain⟨_,rfl,C9⟩:=vq Cj;replace Ae:At _ C (d*2) (kV.cells Bk):=Ae;refine mz (fun w' O=>jO q (Ae.o O) xA) (mz (fun w' O=>(dx (kk:=d*2) 0 q q bA (Ae.o O) q).to (b:=(.int .u64 Bk.b9)) q) ?_);have D0:Bk.b9<18446744073709551616:=C9.1;refine mz (fun w' O=>aL q qJ) (mz (fun w' O=>(aC q zF (V.o O) q).to (b:=C) q) (mo q (mz (fun w' O=>rS (a:=d) (b:=1) q q Oh) (mz (fun w' O=>bR (i:=d-1) 2 q q u95 VK A.eJ Oh) ?_))));obtain⟨Bl,Bc⟩:=fM (l:=e.aD) (i:=d-1) Oh;obtain⟨Dw,Ck,Af⟩:=G.get Bc;obtain⟨_,rfl,Da⟩:=vq Ck;replace Af:At _ C ((d-1)*2) (kV.cells Bl):=Af;refine mz (fun w' O=>jO q (Af.o O) xA) (mz (fun w' O=>(dx (kk:=(d-1)*2) 0 q q bA (Af.o O) q).to (b:=(.int .u64 Bl.b9)) q) ?_);have D1:Bl.b9<18446744073709551616:=Da.1;refine ec ?_;obtain⟨D,F,A,uQ⟩:=k4 H D F A uQ
  replace M:=M.k H;clear V G;clear MC;refine st _ (FP (a:=Bk.b9) (b:=Bl.b9) q q) (aH ?_);clear Ae;clear Af;refine au ?_;refine cA q (fun Bz=>?_) (fun Bz=>?_)
  ·(have Cb:=dT Bz);refine ns (st _ (dw (us:=[]) (cs:=(gI.cells (vT) SN)) [] z97 afZ q q trivial trivial q q) (aZ (us:=(gI.cells (vT) SN)) q q (by exact ng) (by exact fun u hu=>bH (gI.one q) u hu) D (lB q) ?_));have X:=D;clear D;intro Ec I D;replace M:=M.step I (hI t);clear X;replace D:ck _ _ (gI.cells (vT) SN) _:=D;refine ar q (bE (aX (aX (bE (aX ?_)))));exact eA (vs:=[(.agg (gI.cells (vT) SN).toArray),(.int .i64 ((11:Nat):Int))]) trivial q ⟨⟨_,q,ew (cs:=(gI.cells (vT) SN)) (by exact ng) D⟩,q,tV⟩ q ⟨_,(vT),11,q,M,Vv,(Ls.nil _ _ _),Oh,((LG A0 f).trans (ahJ ex.2 Ao Oh Bb Bc Oh))⟩
  (have Cb:=dF Bz);refine bh (bW (au (aQ (mv q (st _ (rA (a:=d) (b:=1) q q Oh) (an q ?_))))));refine pZ (x0:=(d+1)) Oh ⟨(fq q Oh),q,q,tV⟩ ⟨B7,tQ,W,uQ,M,D,F,A,K,L,Oh,(by intro j h1 h2 y z hy hz;rcases Nat.lt_or_ge j d with hj|hj;exact Br j h1 hj y z hy hz;(have Cw:j=d:=Oh);subst Cw;rw[Bb]at hy;rw[Bc]at hz;cases hy;cases hz;omega)⟩
 (have Ca:=dF Bx);refine dW (bU (bU (eS (au (ns (st _ (dc (gI.cells e C) q (by exact ng) F q) (aZ (us:=(gI.cells e C)) q q (by exact ng) (by exact fun u hu=>bH (gI.one A.cg) u hu) D (lB q) ?_)))))));have Av:=A;have X:=D;clear D;intro Ed I D;have hS:∀b∈[r],¬B7 b:=(hI K);replace Av:=Av.md I (aB X Av) hS;replace M:=M.step I (hI t);clear X hS;replace D:ck _ _ (gI.cells e C) _:=D;refine ar q ?_;exact eA (vs:=[(.agg (gI.cells e C).toArray),(.int .i64 ((0:Nat):Int))]) trivial q ⟨⟨_,q,ew (cs:=(gI.cells e C)) (by exact ng) D⟩,q,tV⟩ q ⟨_,e,0,q,M,c,(Av.ls (fun b S=>tQ b S) (cr.up Db)),Oh,((LG A0 f).trans (abI ex.2 Ao Oh Br))⟩
theorem aj1:dZ Zp 121=true:=Ym
theorem ajW:dZ Zp 78=true:=Ym
theorem GJ (uQ:Up w Q) {v0:Value} {v:eW} (h0:Pt fE 73 w Q v0 v) (p:Nat) (a1:p<18446744073709551616) (p0:v.b.length≤1000000) :
  Calls Zp 78 #[v0,(.int .u64 p)] w fun en w'=>(∃u0_0:Value,∃r0:gI,en = .returned (.agg (gI.cells r0 u0_0).toArray)∧Md [] w w'∧gI.ok r0∧Ls sN w' Q u0_0 r0.aD∧iv (v.h.n.getD 0 0) v.b p=(r0,0))∨∃cp:Nat,en = .panicked (FK (.iface 203 (.agg #[.int .i64 cp])))∧(cp≠0∧cp<9223372036854775808)∧Md [] w w'∧(iv (v.h.n.getD 0 0) v.b p).2=cp:=by
 obtain⟨e,Ad,rfl,N,h0,qo⟩:=h0;obtain⟨v1,rfl,q2,H⟩:=eM qo;have M:=Md.refl [] w;have Ag:=uQ;have k:∀b,Q b→Q b:=fun _ h=>h;refine enter (n:=22) Tryz.func78 q q q fun B=>ns (cw z97 ?_);intro P w4 S y D C;have r:e≠P:=(by have:=h0.lt;omega);obtain⟨Q5,a,c,I,O⟩:=kM uQ S y D;replace N:=a _ N h0.lt;replace k:=tT k c;replace S:=ly M.size S;replace H:=(H.sub a).o D;obtain⟨h0,M⟩:=k2 D h0 M;replace uQ:=O;clear O a c;have Y:cr [] w P:=.inr S;replace C:ck _ _ (gI.cells (vT) SN) _:=C;have Ab:gI.ok (vT):=(by exact⟨Om,Om,Om,q,Om⟩);refine nt (ns (m2 q q (j8 afj q (qS uQ ⟨_,_,q,N,h0,dU q2 H⟩ p Oh) ?_)));rintro en w7 (⟨rfl,D,U⟩|⟨cp,rfl,V,D,U⟩)
 rotate_left
 ·exact .inr ⟨_,q,gT (Or.inr ⟨cp,q,V,M.k D,(ahL U V.1)⟩)⟩
 refine .inl ⟨_,q,?_⟩;obtain⟨H,h0,C,uQ,M⟩:=k5 D H h0 C uQ M;refine nt (nm q (sn q (sf q sF (sl (u:=v1) q gC h0 q (mv q (ax aj1 q (YM uQ H p Oh Oh) ?_))))));rintro en w8 ⟨E,F,l,rfl,D,W,A,Ac,f⟩;refine rv ?_;obtain⟨h0,C,uQ,M⟩:=k4 D h0 C uQ M;refine mv q (se q q (se q q (cw z97 ?_)));intro R w9 T z D G;have t:e≠R:=(by have:=h0.lt;omega);have o:P≠R:=(by have:=C.lt;omega);obtain⟨d,a,c,X,O⟩:=kM uQ T z D;replace I:=nQ I c;replace k:=tT k c;replace T:=ly M.size T;replace C:=C.o D;replace A:=(A.sub a).o D;replace M:=M.k D;replace uQ:=O;clear O a c;have Z:cr [] w R:=.inr T;replace G:ck _ _ (gI.cells (vT) SN) _:=G;have Aa:gI.ok (vT):=(by exact⟨Om,Om,Om,q,Om⟩);refine aZ (us:=(gI.cells F E)) q q (by exact ng) (by exact fun u x=>bH (gI.one A.cg) u x) G (lB q) ?_;have j:=G;clear G;intro Ai D G
 have g:∀b∈[R],¬d b:=(hI X);replace C:=C.md D Nv;replace A:=A.md D g;replace uQ:=uQ.md D;replace M:=M.step D (hI Z);clear j g;replace G:ck _ _ (gI.cells F E) _:=G;refine an q (nm q (j8 abU q (rY uQ l Oh) ?_));rintro en Aj (⟨rfl,D,K⟩|⟨cp,rfl,V,D,K⟩)
 rotate_left
 ·exact .inr ⟨_,q,gT (Or.inr ⟨cp,q,V,M.k D,(by rw[abG U f];exact K)⟩)⟩
 refine .inl ⟨_,q,?_⟩;obtain⟨C,A,G,M⟩:=k4 D C A G M;refine nt (ns (st _ (dc (gI.cells F E) q (by exact ng) G q) (aZ (us:=(gI.cells F E)) q q (by exact ng) (by exact fun u x=>bH (gI.one A.cg) u x) C (lB q) ?_)));have L:=A;have i:=C;clear C;intro Ak D C;have g:∀b∈[P],¬d b:=(hI I);replace L:=L.md D g;replace M:=M.step D (hI Y);clear i g;replace C:ck _ _ (gI.cells F E) _:=C;refine nt (iO ?_);exact dP (v:=(.agg (gI.cells F E).toArray)) trivial q ⟨⟨_,q,ew (cs:=(gI.cells F E)) (by exact ng) C⟩,tV⟩ (Or.inl ⟨_,F,q,M,W,(L.sub (fun b J _=>k b J)),(by rw[abG U f,K])⟩)
theorem aaB (uQ:Up w Q) {v0:Value} {v:eW} (h0:Pt (tPt fE 73) 46 w Q v0 v) {v1:Value} {p:Nat} (h1:Pt dY 26 w Q v1 p) {b2:Nat} {v2_0:Value} (m:gI) (h2:ck w b2 (gI.cells m v2_0) 97) (n2:¬Q b2) (a2_0:gI.ok m) (a2_1:Ls sN w Q v2_0 m.aD) (p0:v.b.length≤1000000) :
  Calls Zp 77 #[v0,v1,.pointer (some ⟨b2,0,none⟩)] w fun en w'=>(∃m29:gI,∃u52_0:Value,en = .returned (.tuple #[])∧Md [b2] w w'∧ck w' b2 (gI.cells m29 u52_0) 97∧¬Q b2∧gI.ok m29∧Ls sN w' Q u52_0 m29.aD∧iv (v.h.n.getD 0 0) v.b p=(m29,0))∨∃cp:Nat,en = .panicked (FK (.iface 203 (.agg #[.int .i64 cp])))∧(cp≠0∧cp<9223372036854775808)∧Md [b2] w w'∧ck w' b2 (gI.cells m v2_0) 97∧(iv (v.h.n.getD 0 0) v.b p).2=cp:=by
 obtain⟨V,g,rfl,L,h0,qo⟩:=h0;obtain⟨v1,rfl,Z⟩:=qo;obtain⟨W,i,rfl,N,h1,c⟩:=h1;obtain⟨rfl,f⟩:=c;have C:=n2;have P:cr [b2] w b2:=.inl Oq;have T:V≠b2:=fun h=>C (h ▸ L);have U:W≠b2:=fun h=>C (h ▸ N);have M:=Md.refl [b2] w;have o:=uQ;have l:∀b,Q b→Q b:=fun _ h=>h;refine enter (n:=6) Tryz.func77 q q q ?_;intro B;refine aQ (sl (u:=v1) q mN h0 q ?_);have J:=Z;obtain⟨K,d,rfl,E,J,R⟩:=J;obtain⟨r,rfl,k,a⟩:=eM R;have O:K≠b2:=fun h=>C (h ▸ E);refine sl (u:=(.int .u64 p)) q bA h1 q (j8 ajW q (GJ uQ ⟨_,_,q,E,J,dU k a⟩ p Oh Oh) ?_);rintro en t (⟨D,F,rfl,H,G,A,I⟩|⟨cp,rfl,Y,H,I⟩)
 rotate_left
 ·exact .inr ⟨_,q,gT (Or.inr ⟨cp,q,Y,M.k H,h2.o H,I⟩)⟩
 refine .inl ⟨_,q,?_⟩;obtain⟨h2,M⟩:=k2 H h2 M;refine aZ (us:=(gI.cells F D)) q q (by exact ng) (by exact fun u j=>bH (gI.one A.cg) u j) h2 (lB q) ?_;have X:=h2;clear h2;intro x H h2;have e:∀b∈[b2],¬Q b:=(hI C);replace A:=A.md H e;replace M:=M.step H (hI P);clear X e;replace h2:ck _ _ (gI.cells F D) _:=h2;refine aH ?_;exact eA (vs:=[]) trivial q trivial q (Or.inl ⟨F,_,q,M,h2,n2,G,(A.sub (fun b S _=>l b S)),I⟩)
theorem alx:dZ Zp 77=true:=Ym
theorem GF (uQ:Up w Q) {v0:Value} {v:eW} (h0:Pt fE 73 w Q v0 v) (p:Nat) (a1:p<18446744073709551616) (p0:v.b.length≤1000000) :
  Calls Zp 41 #[v0,(.int .u64 p)] w fun en w'=>∃u0_0:Value,∃r0:gI,∃r1:Nat,en = .returned (.tuple #[.agg (gI.cells r0 u0_0).toArray,(.int .i64 r1)])∧Md [] w w'∧gI.ok r0∧Ls sN w' Q u0_0 r0.aD∧r1<9223372036854775808∧iv (v.h.n.getD 0 0) v.b p=(r0,r1):=by
 refine enter (n:=10) (vs:=[v0,.int .u64 p]) Tryz.func41 q q q ?_;intro B;have t:v0.oneCell'=true:=(by obtain⟨b,c,rfl,_⟩:=h0;rfl);refine ns (gN (cs:=[v0]) q (fU t) ?_);intro i w2 g2 l2 A F;have q2:=uQ _ g2;obtain⟨h0,uQ⟩:=k2 A h0 uQ;have M:=A;refine gN (cs:=[.int .u64 p]) q q ?_;intro j w3 g3 l3 A I;have q3:=uQ _ g3;obtain⟨h0,F,uQ,M⟩:=k4 A h0 F uQ M;refine cw z97 ?_;intro E g g4 l4 A d;obtain⟨V,s4,t4,n4,u4⟩:=kM uQ g4 l4 A;have a:=ly M.size g4;have y:=s4 _ q2 F.lt;have z:=s4 _ q3 I.lt;replace h0:=(h0.sub s4).o A;obtain⟨F,I,M⟩:=k3 A F I M;replace d:ck g E (gI.cells wj SN) 97:=d;refine an q (ns (st _ (lU (vs:=[.pointer (some ⟨i,0,none⟩),.pointer (some ⟨j,0,none⟩),.pointer (some ⟨E,0,none⟩)]) q) ?_));have hk:gI.ok wj:=⟨by decide,by decide,by decide,q,by decide⟩
 refine ax YU q (rX (f:=77) (cs:=[.pointer (some ⟨i,0,none⟩),.pointer (some ⟨j,0,none⟩),.pointer (some ⟨E,0,none⟩)]) (S:=[E])
  (X:=fun w'=>∃r u,ck w' E (gI.cells r u) 97∧gI.ok r∧Ls sN w' V u r.aD∧iv (v.h.n.getD 0 0) v.b p=(r,0))
  (Y:=fun c w'=>ck w' E (gI.cells wj SN) 97∧c<9223372036854775808∧iv (v.h.n.getD 0 0) v.b p=(wj,c))
  (R:=fun O e w'=>(∃N Z,e = .returned (.tuple #[])∧Md [E] O w'∧ck w' E (gI.cells N Z) 97∧gI.ok N∧Ls sN w' (fun x=>V x∧(x<g.heap.size∨O.heap.size≤x)) Z N.aD∧iv (v.h.n.getD 0 0) v.b p=(N,0))∨∃L:Nat,e = .panicked (FK (.iface 203 (.agg #[.int .i64 L])))∧(L≠0∧L<9223372036854775808)∧Md [E] O w'∧ck w' E (gI.cells wj SN) 97∧(iv (v.h.n.getD 0 0) v.b p).2=L)
  alx (hI l4) ?_ ?_) ?_
 ·intro O A
  have uX:Up O (fun x=>V x∧(x<g.heap.size∨O.heap.size≤x)):=fun x C=>⟨u4 x (ly A.size C),.inr C⟩;have sX:∀x,V x→x<g.heap.size→(V x∧(x<g.heap.size∨O.heap.size≤x)):=fun x C H=>⟨C,.inl H⟩;refine(aaB uX (v0:=.pointer (some ⟨i,0,none⟩)) (v1:=.pointer (some ⟨j,0,none⟩)) (v:=v) (p:=p) ⟨i,[v0],q,⟨y,.inl F.lt⟩,F.o A,v0,q,(h0.sub sX).o A⟩ ⟨j,_,q,⟨z,.inl I.lt⟩,I.o A,q,a1⟩ wj (d.o A) (fun h=>n4 h.1) hk (Ls.nil _ _ _) p0).mono ?_;rintro e w' (⟨N,Z,l,D,G,_,U,H,J⟩|⟨L,l,W,D,G,J⟩)
  ·exact .inl ⟨N,Z,l,D,G,U,H,J⟩
  exact .inr ⟨L,l,W,D,G,J⟩
 ·rintro O e w1 A (⟨N,Z,rfl,D,G,U,H,J⟩|⟨L,rfl,W,D,G,J⟩)
  ·refine⟨D,.inl ⟨q,fun b Ab gb lb K=>⟨N,Z,G.sZ K Oh,U,(H.md K (by intro x C h;simp at C;subst C;omega)).sub (fun x C _=>C.1),J⟩⟩⟩
  exact⟨D,.inr ⟨L,q,fun b Ab gb lb K=>⟨G.sZ K Oh,W.2,afa J W.1⟩⟩⟩
 rintro en w5 ⟨c,rfl,A,T⟩;refine rv ?_;replace M:=M.step A (by intro x C;simp at C;subst C;exact .inr a)
 obtain⟨r,u,G,o,H,W,J⟩:∃r u,ck w5 E (gI.cells r u) 97∧gI.ok r∧Ls sN w5 V u r.aD∧c<9223372036854775808∧iv (v.h.n.getD 0 0) v.b p=(r,c):=by
  rcases T with⟨rfl,r,u,k,F,I,d⟩|⟨k,F,I⟩
  ·exact⟨r,u,k,F,I,by decide,d⟩
  ·exact⟨_,_,k,hk,Ls.nil _ _ _,F,I⟩
 refine an q (ns (st _ (dc (gI.cells r u) q (by exact ng) G q) (mv q (aZ (us:=(gI.cells r u)) q q (by exact ng) (fun x C=>bH (gI.one H.cg) x C) G (lB q) ?_))));intro w6 A P;replace P:ck w6 E (gI.cells r u) 97:=P;replace H:=H.md A (hI n4);replace M:=M.fW A a;refine ar q ?_;exact eA (vs:=[.agg (gI.cells r u).toArray,.int .i64 c]) trivial q ⟨⟨_,q,ew (cs:=gI.cells r u) (by exact ng) P⟩,q,tV⟩ q ⟨u,r,c,q,M,o,H.sub (fun x C _=>t4 x C),W,J⟩
theorem ajX:dZ Zp 81=true:=Ym
theorem aa9 (uQ:Up w Q) {v0:Value} {v:eW} (h0:Pt (tPt fE 73) 46 w Q v0 v) {v1:Value} {p:Nat} (h1:Pt dY 26 w Q v1 p) {b2:Nat} {v2_0:Value} (m:j5) (h2:ck w b2 (j5.cells m v2_0) 101) (n2:¬Q b2) (a2_0:j5.ok m) (a2_1:Ls dY w Q v2_0 m.aD) (p0:v.b.length≤140737488355328) :
  Calls Zp 79 #[v0,v1,.pointer (some ⟨b2,0,none⟩)] w fun en w'=>(∃m29:j5,∃u52_0:Value,en = .returned (.tuple #[])∧Md [b2] w w'∧ck w' b2 (j5.cells m29 u52_0) 101∧¬Q b2∧j5.ok m29∧Ls dY w' Q u52_0 m29.aD∧iQ (v.h.n.getD 0 0) v.b p=(m29,0))∨∃cp:Nat,en = .panicked (FK (.iface 203 (.agg #[.int .i64 cp])))∧(cp≠0∧cp<9223372036854775808)∧Md [b2] w w'∧ck w' b2 (j5.cells m v2_0) 101∧(iQ (v.h.n.getD 0 0) v.b p).2=cp:=by
 obtain⟨c,Be,rfl,t,h0,qo⟩:=h0;obtain⟨v1,rfl,Al⟩:=qo;obtain⟨d,Bf,rfl,y,h1,Aq⟩:=h1;obtain⟨rfl,Ba⟩:=Aq;have F:=n2;have Aa:cr [b2] w b2:=.inl Oq;have Ae:c≠b2:=fun h=>F (h ▸ t);have Af:d≠b2:=fun h=>F (h ▸ y);have M:=Md.refl [b2] w;have Bu:=uQ;have tQ:∀b,Q b→Q b:=fun _ h=>h;refine enter (n:=20) Tryz.func79 q q q fun B=>ns (sl (u:=v1) q mN h0 q ?_);have I:=Al;obtain⟨e,Ax,rfl,N,I,Ab⟩:=I;obtain⟨v4,rfl,q5,K⟩:=eM Ab;have z:e≠b2:=fun h=>F (h ▸ N);refine sl (u:=(.int .u64 p)) q bA h1 q (j8 afj q (qS uQ ⟨_,_,q,N,I,dU q5 K⟩ p Oh) ?_);rintro en w7 (⟨rfl,C,P⟩|⟨cp,rfl,S,C,P⟩)
 rotate_left
 ·exact .inr ⟨_,q,gT (Or.inr ⟨cp,q,S,M.k C,h2.o C,(ah2 P S.1)⟩)⟩
 refine .inl ⟨_,q,?_⟩;obtain⟨h2,h0,h1,I,K,uQ,M⟩:=k7 C h2 h0 h1 I K uQ M;refine nt (aP ?_);have o:=h2.lt;refine BW (fun w'=>Md [] w7 w') (R:=fun a' w'=>∃(A':Fr 20) (Z:Nat) (a:Value) (V:j5) (f:Nat),a'=bw A' [] [(3,.pointer (some ⟨Z,0,none⟩)),(4,.int .i64 f),(0,(.pointer (some ⟨c,0,none⟩))),(1,(.pointer (some ⟨d,0,none⟩))),(2,(.pointer (some ⟨b2,0,none⟩)))]∧Md [] w7 w'∧w7.heap.size≤Z∧Z<w'.heap.size∧ck w' Z (j5.cells V a) 101∧j5.ok V∧f<9223372036854775808∧Ls dY w' Q a V.aD∧kG v.b p=(V,f)) eC ?_ ?_
 ·rintro _ w8 ⟨A',Z,a,V,f,rfl,C,gA,lA,hA,Am,qA,G,k⟩
  have A9:=uQ _ gA;obtain⟨h2,uQ,M⟩:=k3 C h2 uQ M;have Ai:b2≠Z:=(by have:=o;omega);refine au (nm q (j8 abU q (rY uQ f Oh) ?_));rintro en w9 (⟨rfl,C,Y⟩|⟨cp,rfl,S,C,Y⟩)
  rotate_left
  ·exact .inr ⟨_,q,gT (Or.inr ⟨cp,q,S,M.k C,h2.o C,(by rw[vX P k];exact Y)⟩)⟩
  refine .inl ⟨_,q,?_⟩;obtain⟨h2,G,hA,M⟩:=k4 C h2 G hA M;refine nt (aQ (st _ (dc (j5.cells V a) q (by exact oU) hA q) (aZ (us:=(j5.cells V a)) q q (by exact oU) (by exact fun u l=>bH (j5.one G.cg) u l) h2 (lB q) ?_)));have Aj:=h2;clear h2;intro Bv C h2;have hS:∀b∈[b2],¬Q b:=(hI F);replace G:=G.md C hS;replace M:=M.step C (hI Aa);clear Aj hS;replace h2:ck _ _ (j5.cells V a) _:=h2;refine aH ?_;exact eA (vs:=[]) trivial q trivial q (Or.inl ⟨V,_,q,M,h2,n2,Am,(G.sub (fun b hb _=>tQ b hb)),(by rw[vX P k,Y])⟩)
 intro w1 A
 refine iu (i:=0) _ q Ym Ym (A) (fun w' H=>aC q mN (h0.o H) q) (iu (i:=1) _ q Ym Ym (A) (fun w' H=>dr q) (iu (i:=2) _ q Ym Ym (A) (fun w' H=>aL q sF) (iu (i:=3) _ q Ym Ym (A) (fun w' H=>aC q gC (I.o H) q) (iu (i:=4) _ q Ym Ym (A) (fun w' H=>aC q bA (h1.o H) q) ?_))));refine HG (i:=5) (j:=9) Ym q q q q ?_ ?_
 ·refine ax ajX q (wO (uQ.md A) (K.o A) p Oh Oh) ?_;rintro en xa ⟨ua,ra,ca,rfl,J,ka,la,qa,fa⟩;refine rv ?_;refine aH ⟨q,A.k J,?_⟩;refine iu (i:=6) _ q Ym Ym (A.k J) (fun w' H=>bf q) (iu (i:=7) _ q Ym Ym (A.k J) (fun w' H=>jG q q) (iu (i:=8) _ q Ym Ym (A.k J) (fun w' H=>jG q q) (gY (i:=9) Ym q q (cw UW ?_))));intro b5 x5 g5 l5 r Ag;refine aH ⟨q,(A.k J).k r,?_⟩;refine gY (i:=10) Ym q q (aZ (us:=(j5.cells ra ua)) q q (by exact oU) (by exact fun u l=>bH (j5.one la.cg) u l) Ag (lB q) ?_);intro ya T D;refine aH ⟨q,((A.k J).k r).fW T (ly (A.k J).size g5),?_⟩;replace D:ck ya b5 (j5.cells ra ua) 101:=D;refine gY (i:=11) Ym q q (d9 q ?_);refine aH ⟨q,((A.k J).k r).fW T (ly (A.k J).size g5),?_⟩;refine tE Ym ?_;exact⟨_,b5,ua,ra,ca,(ga (by exact⟨q,q,q,q,q,tV⟩)).symm,((A.k J).k r).fW T (ly (A.k J).size g5),(ly (A.k J).size g5),D.lt,D,ka,qa,(((la.sub (Q':=fun x=>Q x∧x≠b5) (fun x L hl=>⟨L,by omega⟩)).o r).md T (by intro x L;simp at L;subst L;exact fun h=>h.2 q)).sub (fun x L _=>L.1),fa⟩
 refine cw UW ?_;intro b6 x6 g l6 O X;refine aH ⟨q,A.k O,?_⟩;obtain⟨Q6,s6,t6,n6,u6⟩:=kM (uQ.md A) g l6 O;refine gY (i:=5) Ym q q (ax ajX q (wO u6 (((K.o A).sub s6).o O) p Oh Oh) ?_);rintro en xb ⟨ub,rb,cb,rfl,W,kb,lb,qb,fb⟩;refine rv ?_;replace X:=X.o W;refine aH ⟨q,(A.k O).k W,?_⟩;refine iu (i:=6) _ q Ym Ym ((A.k O).k W) (fun w' H=>bf q) (iu (i:=7) _ q Ym Ym ((A.k O).k W) (fun w' H=>jG q q) (iu (i:=8) _ q Ym Ym ((A.k O).k W) (fun w' H=>jG q q) (gY (i:=10) Ym q q (aZ (us:=(j5.cells rb ub)) q q (by exact oU) (by exact fun u l=>bH (j5.one lb.cg) u l) X (lB q) ?_))));intro yb U E;refine aH ⟨q,((A.k O).k W).fW U (ly A.size g),?_⟩;replace E:ck yb b6 (j5.cells rb ub) 101:=E;refine gY (i:=11) Ym q q (d9 q ?_);refine aH ⟨q,((A.k O).k W).fW U (ly A.size g),?_⟩;refine tE Ym ?_;exact⟨_,b6,ub,rb,cb,(ga (by exact⟨q,q,q,q,q,tV⟩)).symm,((A.k O).k W).fW U (ly A.size g),(ly A.size g),E.lt,E,kb,qb,((lb).md U (hI n6)).sub (fun x L _=>t6 x L),fb⟩
theorem aly:dZ Zp 79=true:=Ym
theorem GD (uQ:Up w Q) {v0:Value} {v:eW} (h0:Pt fE 73 w Q v0 v) (p:Nat) (a1:p<18446744073709551616) (p0:v.b.length≤140737488355328) :
  Calls Zp 42 #[v0,(.int .u64 p)] w fun en w'=>∃u0_0:Value,∃r0:j5,∃r1:Nat,en = .returned (.tuple #[.agg (j5.cells r0 u0_0).toArray,(.int .i64 r1)])∧Md [] w w'∧j5.ok r0∧Ls dY w' Q u0_0 r0.aD∧r1<9223372036854775808∧iQ (v.h.n.getD 0 0) v.b p=(r0,r1):=by
 refine enter (n:=10) (vs:=[v0,.int .u64 p]) Tryz.func42 q q q ?_;intro B;have t:v0.oneCell'=true:=(by obtain⟨b,c,rfl,_⟩:=h0;rfl);refine ns (gN (cs:=[v0]) q (fU t) ?_);intro i w2 g2 l2 A F;have q2:=uQ _ g2;obtain⟨h0,uQ⟩:=k2 A h0 uQ;have M:=A;refine gN (cs:=[.int .u64 p]) q q ?_;intro j w3 g3 l3 A I;have q3:=uQ _ g3;obtain⟨h0,F,uQ,M⟩:=k4 A h0 F uQ M;refine cw UW ?_;intro E g g4 l4 A d;obtain⟨V,s4,t4,n4,u4⟩:=kM uQ g4 l4 A;have a:=ly M.size g4;have y:=s4 _ q2 F.lt;have z:=s4 _ q3 I.lt;replace h0:=(h0.sub s4).o A;obtain⟨F,I,M⟩:=k3 A F I M;replace d:ck g E (j5.cells wK SN) 101:=d;refine an q (ns (st _ (lU (vs:=[.pointer (some ⟨i,0,none⟩),.pointer (some ⟨j,0,none⟩),.pointer (some ⟨E,0,none⟩)]) q) ?_));have hk:j5.ok wK:=(by simp[j5.ok,wK])
 refine ax YU q (rX (f:=79) (cs:=[.pointer (some ⟨i,0,none⟩),.pointer (some ⟨j,0,none⟩),.pointer (some ⟨E,0,none⟩)]) (S:=[E])
  (X:=fun w'=>∃r u,ck w' E (j5.cells r u) 101∧j5.ok r∧Ls dY w' V u r.aD∧iQ (v.h.n.getD 0 0) v.b p=(r,0))
  (Y:=fun c w'=>ck w' E (j5.cells wK SN) 101∧c<9223372036854775808∧iQ (v.h.n.getD 0 0) v.b p=(wK,c))
  (R:=fun O e w'=>(∃N Z,e = .returned (.tuple #[])∧Md [E] O w'∧ck w' E (j5.cells N Z) 101∧j5.ok N∧Ls dY w' (fun x=>V x∧(x<g.heap.size∨O.heap.size≤x)) Z N.aD∧iQ (v.h.n.getD 0 0) v.b p=(N,0))∨∃L:Nat,e = .panicked (FK (.iface 203 (.agg #[.int .i64 L])))∧(L≠0∧L<9223372036854775808)∧Md [E] O w'∧ck w' E (j5.cells wK SN) 101∧(iQ (v.h.n.getD 0 0) v.b p).2=L)
  aly (hI l4) ?_ ?_) ?_
 ·intro O A
  have uX:Up O (fun x=>V x∧(x<g.heap.size∨O.heap.size≤x)):=fun x C=>⟨u4 x (ly A.size C),.inr C⟩;have sX:∀x,V x→x<g.heap.size→(V x∧(x<g.heap.size∨O.heap.size≤x)):=fun x C H=>⟨C,.inl H⟩;refine(aa9 uX (v0:=.pointer (some ⟨i,0,none⟩)) (v1:=.pointer (some ⟨j,0,none⟩)) (v:=v) (p:=p) ⟨i,[v0],q,⟨y,.inl F.lt⟩,F.o A,v0,q,(h0.sub sX).o A⟩ ⟨j,_,q,⟨z,.inl I.lt⟩,I.o A,q,a1⟩ wK (d.o A) (fun h=>n4 h.1) hk (Ls.nil _ _ _) p0).mono ?_;rintro e w' (⟨N,Z,l,D,G,_,U,H,J⟩|⟨L,l,W,D,G,J⟩)
  ·exact .inl ⟨N,Z,l,D,G,U,H,J⟩
  exact .inr ⟨L,l,W,D,G,J⟩
 ·rintro O e w1 A (⟨N,Z,rfl,D,G,U,H,J⟩|⟨L,rfl,W,D,G,J⟩)
  ·refine⟨D,.inl ⟨q,fun b Ab gb lb K=>⟨N,Z,G.sZ K Oh,U,(H.md K (by intro x C h;simp at C;subst C;omega)).sub (fun x C _=>C.1),J⟩⟩⟩
  exact⟨D,.inr ⟨L,q,fun b Ab gb lb K=>⟨G.sZ K Oh,W.2,ah3 J W.1⟩⟩⟩
 rintro en w5 ⟨c,rfl,A,T⟩;refine rv ?_;replace M:=M.step A (by intro x C;simp at C;subst C;exact .inr a)
 obtain⟨r,u,G,o,H,W,J⟩:∃r u,ck w5 E (j5.cells r u) 101∧j5.ok r∧Ls dY w5 V u r.aD∧c<9223372036854775808∧iQ (v.h.n.getD 0 0) v.b p=(r,c):=by
  rcases T with⟨rfl,r,u,k,F,I,d⟩|⟨k,F,I⟩
  ·exact⟨r,u,k,F,I,by decide,d⟩
  ·exact⟨_,_,k,hk,Ls.nil _ _ _,F,I⟩
 refine an q (ns (st _ (dc (j5.cells r u) q (by exact oU) G q) (mv q (aZ (us:=(j5.cells r u)) q q (by exact oU) (fun x C=>bH (j5.one H.cg) x C) G (lB q) ?_))));intro w6 A P;replace P:ck w6 E (j5.cells r u) 101:=P;replace H:=H.md A (hI n4);replace M:=M.fW A a;refine ar q ?_;exact eA (vs:=[.agg (j5.cells r u).toArray,.int .i64 c]) trivial q ⟨⟨_,q,ew (cs:=j5.cells r u) (by exact oU) P⟩,q,tV⟩ q ⟨u,r,c,q,M,o,H.sub (fun x C _=>t4 x C),W,J⟩
theorem aap (s:Ly) (w:World) (hl:s.length≤9223372036854775807):Calls Zp 131 #[str s] w fun e w'=>e = .returned (.bool (fC s))∧w=w':=by
 have M:=Md.refl [] w;refine enter (n:=44) Tryz.func131 q q q fun B=>ns (an q (aP (ns (d9 q (nt (bF ?_))))));refine kL (X:=Nat) (fun i=>[(0,str s),(3,.int .i64 i)]) (fun i w'=>w=w'∧i≤s.length∧∀j,j<i→jM (s.getD j 0)=true∧(j=0→digit (s.getD j 0)=false)) (fun i=>s.length-i) 0 ?_ ?_ ?_
 ·exact⟨q,q,tV⟩
 ·exact⟨q,by omega,fun j I=>by omega⟩
 clear M
 rintro i B Z ⟨rfl,Y,O⟩;have M:=Md.refl [] w;refine aP (ns (m2 q q (st _ (uE q u9) (st _ (rT q q) (nt ?_)))));refine cA q (fun V=>?_) (fun V=>?_)
 ·(have W:=dT V);refine bh (au (aP (bF (ns (m2 q q (st _ (xK q q u9 Oh) (an q (aP (nm q (st _ (rR q q) ?_))))))))));refine mv q ?_;refine dR (t:=16) q (fun J=>?_) (fun J=>?_)
  ·(have Q:=dT J);refine sg J (bf q) (sg J (xL q q) (st _ (bK q J q) (mv q ?_)));refine dR (t:=20) q (fun K=>?_) (fun K=>?_)
   ·(have R:=dT K);refine sg K (bf q) (sg K (wE q q) (st _ (bK q K q) (mv q ?_)));refine dR (t:=24) q (fun F=>?_) (fun F=>?_)
    ·(have S:=dT F);refine sk F (sk F (sk F (lg q q q (lg q q q (sk F (st _ (bK q F q) (mv q (sk q (sk q (st _ (bK q q q) (nt (iT q q (dW ?_)))))))))))));refine bU (eS (au (aQ (mv q (st _ (gh q q Oh) (an q (next (i+1) Oh ⟨q,fq q Oq,tV⟩ ?_)))))))
     exact⟨q,by omega,fun j I=>by
      rcases Nat.lt_or_eq_of_le (Nat.le_of_lt_succ I)with h|h
      ·exact O j h
      ·subst h;exact⟨by unfold jM;exact decide_eq_true Oh,fun H=>by unfold digit;exact decide_eq_false Oh⟩⟩
    (have S:=dF F);refine sg F (bf q) (sg F (rR q q) (sg F (bf q) ?_));refine dR (t:=27) q (fun A=>?_) (fun A=>?_)
    ·(have L:=dT A);refine sg A (bf q) (sg A (xL q q) (sg F (bK q A q) (st _ (aS q F q) (mv q ?_))));refine dR (t:=32) q (fun C=>?_) (fun C=>?_)
     ·(have N:=dT C);refine sk C (sk C (st _ (bK q C q) (nt (iT q q (dW (bU (eS (au (aQ (mv q (st _ (gh q q Oh) (an q ?_))))))))))));refine next (i+1) Oh ⟨q,fq q Oq,tV⟩ ?_
      exact⟨q,by omega,fun j I=>by
       rcases Nat.lt_or_eq_of_le (Nat.le_of_lt_succ I)with h|h
       ·exact O j h
       ·subst h;exact⟨by unfold jM;exact decide_eq_true Oh,fun H=>by unfold digit;exact decide_eq_false Oh⟩⟩
     (have N:=dF C);refine sg C (bf q) (sg C (ny q q) (st _ (aS q C q) (nt ?_)));refine cA q (fun D=>?_) (fun D=>?_)
     ·(have E:=dT D);refine dW (bU (eS (au (aQ (mv q (st _ (gh q q Oh) (an q (next (i+1) Oh ⟨q,fq q Oq,tV⟩ ?_))))))))
      exact⟨q,by omega,fun j I=>by
       rcases Nat.lt_or_eq_of_le (Nat.le_of_lt_succ I)with h|h
       ·exact O j h
       ·subst h;exact⟨by unfold jM;exact decide_eq_true Oh,fun H=>by unfold digit;exact decide_eq_false Oh⟩⟩
     (have E:=dF D);refine bh (au (ns (ar q (bE (aX (aX (bE (aX ?_))))))));exact j4 trivial q q ⟨py (by cases hh:fC s with|false=>rfl|true=>(exfalso;have hl:=iw hh;have P:=jd hh;have U:=lH hh i Oh;rcases Nat.eq_zero_or_pos i with H|H<;>omega)),q⟩
    (have L:=dF A);refine sk A (sk A (sg F (aS q A q) (st _ (aS q F q) (mv q (sg q (bf q) (sg q (ny q q) (st _ (aS q q q) (nt ?_))))))));refine cA q (fun D=>?_) (fun D=>?_)
    ·(have E:=dT D);refine dW (bU (eS (au (aQ (mv q (st _ (gh q q Oh) (an q (next (i+1) Oh ⟨q,fq q Oq,tV⟩ ?_))))))))
     exact⟨q,by omega,fun j I=>by
      rcases Nat.lt_or_eq_of_le (Nat.le_of_lt_succ I)with h|h
      ·exact O j h
      ·subst h;exact⟨by unfold jM;exact decide_eq_true Oh,fun H=>by unfold digit;exact decide_eq_false Oh⟩⟩
    (have E:=dF D);refine bh (au (ns (ar q (bE (aX (aX (bE (aX ?_))))))));exact j4 trivial q q ⟨py (by cases hh:fC s with|false=>rfl|true=>(exfalso;have hl:=iw hh;have P:=jd hh;have U:=lH hh i Oh;rcases Nat.eq_zero_or_pos i with H|H<;>first|omega|(subst H;omega))),q⟩
   (have R:=dF K);refine sk K (sk K (st _ (aS q K q) (mv q (sg q (bf q) (sg q (rR q q) (sg q (bf q) ?_))))));refine dR (t:=27) q (fun A=>?_) (fun A=>?_)
   ·(have L:=dT A);refine sg A (bf q) (sg A (xL q q) (sg q (bK q A q) (st _ (aS q q q) (mv q ?_))));refine dR (t:=32) q (fun C=>?_) (fun C=>?_)
    ·(have N:=dT C);refine sk C (sk C (st _ (bK q C q) (nt (iT q q (dW (bU (eS (au (aQ (mv q (st _ (gh q q Oh) (an q ?_))))))))))));refine next (i+1) Oh ⟨q,fq q Oq,tV⟩ ?_
     exact⟨q,by omega,fun j I=>by
      rcases Nat.lt_or_eq_of_le (Nat.le_of_lt_succ I)with h|h
      ·exact O j h
      ·subst h;exact⟨by unfold jM;exact decide_eq_true Oh,fun H=>by unfold digit;exact decide_eq_false Oh⟩⟩
    (have N:=dF C);refine sg C (bf q) (sg C (ny q q) (st _ (aS q C q) (nt ?_)));refine cA q (fun D=>?_) (fun D=>?_)
    ·(have E:=dT D);refine dW (bU (eS (au (aQ (mv q (st _ (gh q q Oh) (an q (next (i+1) Oh ⟨q,fq q Oq,tV⟩ ?_))))))))
     exact⟨q,by omega,fun j I=>by
      rcases Nat.lt_or_eq_of_le (Nat.le_of_lt_succ I)with h|h
      ·exact O j h
      ·subst h;exact⟨by unfold jM;exact decide_eq_true Oh,fun H=>by unfold digit;exact decide_eq_false Oh⟩⟩
    (have E:=dF D);refine bh (au (ns (ar q (bE (aX (aX (bE (aX ?_))))))));exact j4 trivial q q ⟨py (by cases hh:fC s with|false=>rfl|true=>(exfalso;have hl:=iw hh;have P:=jd hh;have U:=lH hh i Oh;rcases Nat.eq_zero_or_pos i with H|H<;>omega)),q⟩
   (have L:=dF A);refine sk A (sk A (sg q (aS q A q) (st _ (aS q q q) (mv q (sg q (bf q) (sg q (ny q q) (st _ (aS q q q) (nt ?_))))))));refine cA q (fun D=>?_) (fun D=>?_)
   ·(have E:=dT D);refine dW (bU (eS (au (aQ (mv q (st _ (gh q q Oh) (an q (next (i+1) Oh ⟨q,fq q Oq,tV⟩ ?_))))))))
    exact⟨q,by omega,fun j I=>by
     rcases Nat.lt_or_eq_of_le (Nat.le_of_lt_succ I)with h|h
     ·exact O j h
     ·subst h;exact⟨by unfold jM;exact decide_eq_true Oh,fun H=>by unfold digit;exact decide_eq_false Oh⟩⟩
   (have E:=dF D);refine bh (au (ns (ar q (bE (aX (aX (bE (aX ?_))))))));exact j4 trivial q q ⟨py (by cases hh:fC s with|false=>rfl|true=>(exfalso;have hl:=iw hh;have P:=jd hh;have U:=lH hh i Oh;rcases Nat.eq_zero_or_pos i with H|H<;>omega)),q⟩
  (have Q:=dF J);refine sk J (sk J (st _ (aS q J q) (mv q (sk q (sk q (st _ (aS q q q) (mv q (sg q (bf q) (sg q (rR q q) (sg q (bf q) ?_))))))))));refine dR (t:=27) q (fun A=>?_) (fun A=>?_)
  ·(have L:=dT A);refine sg A (bf q) (sg A (xL q q) (sg q (bK q A q) (st _ (aS q q q) (mv q ?_))));refine dR (t:=32) q (fun C=>?_) (fun C=>?_)
   ·(have N:=dT C);refine sk C (sk C (st _ (bK q C q) (nt (iT q q (dW (bU (eS (au (aQ (mv q (st _ (gh q q Oh) (an q ?_))))))))))));refine next (i+1) Oh ⟨q,fq q Oq,tV⟩ ?_
    exact⟨q,by omega,fun j I=>by
     rcases Nat.lt_or_eq_of_le (Nat.le_of_lt_succ I)with h|h
     ·exact O j h
     ·subst h;exact⟨by unfold jM;exact decide_eq_true Oh,fun H=>by unfold digit;exact decide_eq_false Oh⟩⟩
   (have N:=dF C);refine sg C (bf q) (sg C (ny q q) (st _ (aS q C q) (nt ?_)));refine cA q (fun D=>?_) (fun D=>?_)
   ·(have E:=dT D);refine dW (bU (eS (au (aQ (mv q (st _ (gh q q Oh) (an q (next (i+1) Oh ⟨q,fq q Oq,tV⟩ ?_))))))))
    exact⟨q,by omega,fun j I=>by
     rcases Nat.lt_or_eq_of_le (Nat.le_of_lt_succ I)with h|h
     ·exact O j h
     ·subst h;exact⟨by unfold jM;exact decide_eq_true Oh,fun H=>by unfold digit;exact decide_eq_false Oh⟩⟩
   (have E:=dF D);refine bh (au (ns (ar q (bE (aX (aX (bE (aX ?_))))))));exact j4 trivial q q ⟨py (by cases hh:fC s with|false=>rfl|true=>(exfalso;have hl:=iw hh;have P:=jd hh;have U:=lH hh i Oh;rcases Nat.eq_zero_or_pos i with H|H<;>omega)),q⟩
  (have L:=dF A);refine sk A (sk A (sg q (aS q A q) (st _ (aS q q q) (mv q (sg q (bf q) (sg q (ny q q) (st _ (aS q q q) (nt ?_))))))));refine cA q (fun D=>?_) (fun D=>?_)
  ·(have E:=dT D);refine dW (bU (eS (au (aQ (mv q (st _ (gh q q Oh) (an q (next (i+1) Oh ⟨q,fq q Oq,tV⟩ ?_))))))))
   exact⟨q,by omega,fun j I=>by
    rcases Nat.lt_or_eq_of_le (Nat.le_of_lt_succ I)with h|h
    ·exact O j h
    ·subst h;exact⟨by unfold jM;exact decide_eq_true Oh,fun H=>by unfold digit;exact decide_eq_false Oh⟩⟩
  (have E:=dF D);refine bh (au (ns (ar q (bE (aX (aX (bE (aX ?_))))))));exact j4 trivial q q ⟨py (by cases hh:fC s with|false=>rfl|true=>(exfalso;have hl:=iw hh;have P:=jd hh;have U:=lH hh i Oh;rcases Nat.eq_zero_or_pos i with H|H<;>omega)),q⟩
 (have W:=dF V);refine dW (bU (bU (eS (au (nm q (st _ (uE q u9) (st _ (rR q q) (mv q ?_))))))));refine dR (t:=39) q (fun G=>?_) (fun G=>?_)
 ·(have T:=dT G);refine sg G (bf q) (sg G (uE q u9) (sg G (xL q q) (st _ (bK q G q) (ar q ?_))));exact j4 trivial q q ⟨py (ac8 Oh (fun j I=>O j Oh)),q⟩
 (have T:=dF G);refine sk G (sk G (sk G (st _ (aS q G q) (ar q ?_))));exact j4 trivial q q ⟨py (by cases hh:fC s with|false=>rfl|true=>(exfalso;have hl:=iw hh;have P:=jd hh;omega)),q⟩
theorem gH:gW Zp 144 2=true:=Ym
theorem aj0:dZ Zp 119=true:=Ym
theorem ajC:dZ Zp 139=true:=Ym
theorem ajG:dZ Zp 144=true:=Ym
theorem ajV:dZ Zp 75=true:=Ym
theorem xG:gV Zp 144=some [(0,1),(1,1)]:=Ym
theorem zY:fR Zp 144=some [.string ByteArray.empty,.string ByteArray.empty]:=Ym
theorem af2 {w:World} {v:Value} {s:Ly} (hB:By w v s) (c:UInt8):(callFunc 148 #[v,b8 c]).run Zp w = .ok (.value (.int .i64 (Lib.indexByte s c))) w:=by
  rw[run_callFunc_extern (fn:=Tryz.f148) Ym Ym Ym Ym (e:=Extern.BytealgIndexByte.indexByte) Ym,ago hB c];rfl
theorem af0 (v:Value) (l:Ly) (c:UInt8) (w:World) (hB:By w v l) :
  Calls Zp 144 #[v,b8 c] w fun e w'=>e = .returned (.int .i64 (Lib.indexByte l c))∧w=w':=by
 have M:=Md.refl [] w;refine enter (n:=8) Tryz.func144 q q q fun B=>ns (an q (ns (m2 q q (st _ (agd q (af2 hB c)) (ar q ?_)))));exact j4 trivial q q ⟨q,q⟩
theorem SI (v u:Value) (l:Ly) (c:UInt8) (w:World) (hB:By w v l) (hU:By w u [c]) :
  Calls Zp 139 #[v,u] w fun e w'=>e = .returned (.int .i64 (Lib.indexByte l c))∧w=w':=by
 have F:[c].length=1:=rfl;have M:=Md.refl [] w;refine enter (n:=200) Tryz.func139 q q q fun B=>ns (an q (nm q (sL q iC hU.eJ (d9 q (nt (aP (bF (ns (mv q (st _ (ny q q) (d9 q ?_)))))))))));refine nt ?_;refine cA q (fun A=>?_) (fun A=>?_)
 ·(have D:=dT A);exfalso;omega
 (have D:=dF A);refine nm q (st _ (ny q q) (an q ?_));refine cA q (fun C=>?_) (fun C=>?_)
 ·(have E:=dT C);refine ns (m2 q q (st _ (MX q q iC pS hU.eJ Oh) (st _ (MY q zQ hU Oh) (ax ajG q (af0 v l c _ hB) ?_))));rintro e _ ⟨rfl,rfl⟩;refine rv ?_;refine ar q (bE (aX ?_));exact j4 trivial q q ⟨q,q⟩
 (have E:=dF C);exfalso;omega
theorem aeW (v u:Value) (l:Ly) (c:UInt8) (w:World) (hB:By w v l) (hU:By w u [c]) :
  Calls Zp 119 #[v,u] w fun e w'=>∃x y b,e = .returned (.tuple #[x,y,.bool b])∧Md [] w w'∧(b=true→0≤Lib.indexByte l c∧By w' x (l.take (Lib.indexByte l c).toNat)∧By w' y (l.drop ((Lib.indexByte l c).toNat+1)))∧(b=false→Lib.indexByte l c<0):=by
 have A:[c].length=1:=rfl;have F:=hB.gm;have M:=Md.refl [] w;refine enter (n:=23) Tryz.func119 q q q fun B=>ns (d9 q (d9 q (an q (aP (ns (m2 q q (ax ajC q (SI v u l c _ hB hU) ?_)))))));rintro e _ ⟨rfl,rfl⟩;refine rv ?_;obtain⟨qv,H⟩:∃qv,qv=Lib.indexByte l c:=⟨_,q⟩;rw[← H];refine an q (nm q (st _ (rR q q) (nt ?_)));refine cA q (fun D=>?_) (fun D=>?_)
 ·(have C:=dT D);obtain⟨i,rfl⟩:=Int.eq_ofNat_of_zero_le C;have E:=(LJ (s:=l) (c:=c) Oh).1;rw[← H,Int.toNat_natCast]at E;refine aP (HO [(0,true),(1,true),(2,true),(3,true),(4,true),(5,true),(6,true),(7,true),(8,true),(9,true),(10,true),(11,true)] (fun w'=>Md [] w w') eC Ym ?_);intro J G;have I:=G;replace M:=M.k G;refine⟨I,?_⟩;refine m _ (fun w' A=>bf q) (m _ (fun w' A=>bf q) (m _ (fun w' A=>pH 0 i iC pS q hB.eJ Oh Oh q ⟨_,q⟩) (m _ (fun w' A=>bf q) (m _ (fun w' A=>bf q) (m _ (fun w' A=>bf q) (m _ (fun w' A=>jq q iC hU.eJ) (m _ (fun w' A=>(gh q q Oh).ki (show _=((i+1:Nat):Int)from by simp)) (m _ (fun w' A=>pH (i+1) l.length iC pS q hB.eJ Oh Oh ⟨_,q⟩ q) (m _ (fun w' A=>eK q) (m _ (fun w' A=>eK q) (m _ (fun w' A=>eK q) (ec (au ?_)))))))))))));refine iO (aX ?_);exact ak9 trivial q q q q ⟨_,_,true,q,M,fun _=>⟨by omega,by rw[Int.toNat_natCast];exact(hB.head i Oh).o M,by rw[Int.toNat_natCast];exact(hB.tail (i+1) Oh).o M⟩,fun h=>by cases h⟩
 (have C:=dF D);refine bh (au (nm q (d9 q (d9 q (ar q ?_)))));exact ak9 trivial q q q q ⟨_,_,false,q,M,fun h=>(by cases h),fun _=>by omega⟩
set_option maxHeartbeats 4000000 in
theorem Qj (s:Ly) (w:World):Calls Zp 75 #[str s] w fun e w'=>e = .returned (.bool (fC s))∧w=w':=by
 have M:=Md.refl [] w;refine enter (n:=51) Tryz.func75 q q q fun B=>ns (an q (aP (nm q (st _ (uE q u9) (st _ (rT q q) (mv q ?_))))));refine dR (t:=8) q (fun V=>?_) (fun V=>?_)
 ·(have f:=dT V);refine sk V (sk V (sk V (st _ (bK q V q) (mv q (sk q (sk q (sk q (sk q (lg q q q (lg q q q (lg q q q (sk q (st _ (bK q q q) ?_)))))))))))));refine nt (iT q q (ns (ar q (aX ?_))));exact j4 trivial q q ⟨py (by cases hh:fC s with|false=>rfl|true=>(exfalso;have Y:=iw hh;have W:=jd hh;omega)),q⟩
 (have f:=dF V);refine sg V (bf q) (sg V (uE q u9) (sg V (wE q q) (st _ (aS q V q) (mv q ?_))));refine dR (t:=13) q (fun H=>?_) (fun H=>?_)
 ·(have b:=dT H);refine sk H (sk H (sk H (sk H (lg q q q (lg q q q (lg q q q (sk H (st _ (bK q H q) (nt (iT q q (ns (an q ?_))))))))))));refine iO (aX ?_);exact j4 trivial q q ⟨py (by cases hh:fC s with|false=>rfl|true=>(exfalso;have Y:=iw hh;have W:=jd hh;omega)),q⟩
 (have b:=dF H);refine sg H (bf q) (aeg (b8 (s.getD 0 0)) q q q H (xK (s:=s) (i:=0) q q u9 Oh) (sg H (rR q q) (sg H (bf q) ?_)));refine dR (t:=17) q (fun J=>?_) (fun J=>?_)
 ·(have c:=dT J);refine sg J (bf q) (aeg (b8 (s.getD 0 0)) q q q J (xK (s:=s) (i:=0) q q u9 Oh) (sg J (xL q q) (sg H (bK q J q) (st _ (aS q H q) (nt ?_)))));refine cA q (fun Z=>?_) (fun Z=>?_)
  ·(have d:=dT Z);refine ns (ar q (aX ?_));exact j4 trivial q q ⟨py (by cases hh:fC s with|false=>rfl|true=>(exfalso;have Y:=iw hh;have W:=jd hh;omega)),q⟩
  (have d:=dF Z);refine bh (au (aP (nm q (st _ (uE q u9) (mv q (nt (bF ?_)))))));refine kL (X:=Nat) (fun i=>[(0,str s),(24,.int .i64 s.length),(25,.int .i64 i)]) (fun i w'=>w=w'∧i≤s.length∧1≤s.length∧s.length≤64∧digit (s.getD 0 0)=false∧∀j,j<i→jM (s.getD j 0)=true) (fun i=>s.length-i) 0 ?_ ?_ ?_
  ·exact⟨q,q,q,tV⟩
  ·exact⟨q,by omega,by omega,by omega,by unfold digit;exact decide_eq_false Oh,fun j I=>by omega⟩
  clear M
  rintro i B k ⟨rfl,g,N,O,P,Q⟩;have M:=Md.refl [] w;refine ns (st _ (rT q q) (nt (aP ?_)));refine cA q (fun R=>?_) (fun R=>?_)
  ·(have S:=dT R);refine bh (au (aP (bF (nm q (an q (ns (m2 q q (st _ (xK q q u9 Oh) (d9 q (nt ?_))))))))));refine nm q (st _ (rR q q) (mv q ?_));refine dR (t:=33) q (fun G=>?_) (fun G=>?_)
   ·(have T:=dT G);refine sg G (bf q) (sg G (xL q q) (st _ (bK q G q) (mv q ?_)));refine dR (t:=37) q (fun D=>?_) (fun D=>?_)
    ·(have U:=dT D);refine sk D (sk D (sk D (lg q q q (lg q q q (sk D (st _ (bK q D q) (mv q (sk q (sk q (st _ (bK q q q) (st _ (j7 q) (nt (jR q q ?_)))))))))))));refine bh (bW (au (aQ (st _ (gh q q Oh) (mv q (nt (next (i+1) Oh ⟨q,q,fq q Oq,tV⟩ ?_)))))))
     exact⟨q,by omega,N,O,P,fun j I=>by
      rcases Nat.lt_or_eq_of_le (Nat.le_of_lt_succ I)with h|h
      ·exact Q j h
      ·subst h;unfold jM;exact decide_eq_true Oh⟩
    (have U:=dF D);refine sg D (bf q) (sg D (rR q q) (sg D (bf q) ?_));refine dR (t:=40) q (fun A=>?_) (fun A=>?_)
    ·(have K:=dT A);refine sg A (bf q) (sg A (xL q q) (sg D (bK q A q) (st _ (aS q D q) (mv q ?_))));refine dR (t:=45) q (fun C=>?_) (fun C=>?_)
     ·(have L:=dT C);refine sk C (sk C (st _ (bK q C q) (st _ (j7 q) (nt (jR q q (bh (bW (au (aQ (st _ (gh q q Oh) (mv q (nt (next (i+1) Oh ⟨q,q,fq q Oq,tV⟩ ?_)))))))))))))
      exact⟨q,by omega,N,O,P,fun j I=>by
       rcases Nat.lt_or_eq_of_le (Nat.le_of_lt_succ I)with h|h
       ·exact Q j h
       ·subst h;unfold jM;exact decide_eq_true Oh⟩
     (have L:=dF C);refine sg C (bf q) (sg C (ny q q) (st _ (aS q C q) (st _ (j7 q) (nt ?_))));refine cA q (fun E=>?_) (fun E=>?_)
     ·(have F:=dF (AA E));refine ns (ar q (bE (aX (aX (bE (aX ?_))))));exact j4 trivial q q ⟨py (by cases hh:fC s with|false=>rfl|true=>(exfalso;have Y:=iw hh;have W:=jd hh;have a:=lH hh i Oh;omega)),q⟩
     (have F:=dT (zZ E));refine bh (bW (au (aQ (st _ (gh q q Oh) (mv q (nt (next (i+1) Oh ⟨q,q,fq q Oq,tV⟩ ?_)))))))
     exact⟨q,by omega,N,O,P,fun j I=>by
      rcases Nat.lt_or_eq_of_le (Nat.le_of_lt_succ I)with h|h
      ·exact Q j h
      ·subst h;unfold jM;exact decide_eq_true Oh⟩
    (have K:=dF A);refine sk A (sk A (sg D (aS q A q) (st _ (aS q D q) (mv q (sg q (bf q) (sg q (ny q q) (st _ (aS q q q) (st _ (j7 q) (nt ?_)))))))));refine cA q (fun E=>?_) (fun E=>?_)
    ·(have F:=dF (AA E));refine ns (ar q (bE (aX (aX (bE (aX ?_))))));exact j4 trivial q q ⟨py (by cases hh:fC s with|false=>rfl|true=>(exfalso;have Y:=iw hh;have W:=jd hh;have a:=lH hh i Oh;omega)),q⟩
    (have F:=dT (zZ E));refine bh (bW (au (aQ (st _ (gh q q Oh) (mv q (nt (next (i+1) Oh ⟨q,q,fq q Oq,tV⟩ ?_)))))))
    exact⟨q,by omega,N,O,P,fun j I=>by
     rcases Nat.lt_or_eq_of_le (Nat.le_of_lt_succ I)with h|h
     ·exact Q j h
     ·subst h;unfold jM;exact decide_eq_true Oh⟩
   (have T:=dF G);refine sk G (sk G (st _ (aS q G q) (mv q (sg q (bf q) (sg q (rR q q) (sg q (bf q) ?_))))));refine dR (t:=40) q (fun A=>?_) (fun A=>?_)
   ·(have K:=dT A);refine sg A (bf q) (sg A (xL q q) (sg q (bK q A q) (st _ (aS q q q) (mv q ?_))));refine dR (t:=45) q (fun C=>?_) (fun C=>?_)
    ·(have L:=dT C);refine sk C (sk C (st _ (bK q C q) (st _ (j7 q) (nt (jR q q (bh (bW (au (aQ (st _ (gh q q Oh) (mv q (nt (next (i+1) Oh ⟨q,q,fq q Oq,tV⟩ ?_)))))))))))))
     exact⟨q,by omega,N,O,P,fun j I=>by
      rcases Nat.lt_or_eq_of_le (Nat.le_of_lt_succ I)with h|h
      ·exact Q j h
      ·subst h;unfold jM;exact decide_eq_true Oh⟩
    (have L:=dF C);refine sg C (bf q) (sg C (ny q q) (st _ (aS q C q) (st _ (j7 q) (nt ?_))));refine cA q (fun E=>?_) (fun E=>?_)
    ·(have F:=dF (AA E));refine ns (ar q (bE (aX (aX (bE (aX ?_))))));exact j4 trivial q q ⟨py (by cases hh:fC s with|false=>rfl|true=>(exfalso;have Y:=iw hh;have W:=jd hh;have a:=lH hh i Oh;omega)),q⟩
    (have F:=dT (zZ E));refine bh (bW (au (aQ (st _ (gh q q Oh) (mv q (nt (next (i+1) Oh ⟨q,q,fq q Oq,tV⟩ ?_)))))))
    exact⟨q,by omega,N,O,P,fun j I=>by
     rcases Nat.lt_or_eq_of_le (Nat.le_of_lt_succ I)with h|h
     ·exact Q j h
     ·subst h;unfold jM;exact decide_eq_true Oh⟩
   (have K:=dF A);refine sk A (sk A (sg q (aS q A q) (st _ (aS q q q) (mv q (sg q (bf q) (sg q (ny q q) (st _ (aS q q q) (st _ (j7 q) (nt ?_)))))))));refine cA q (fun E=>?_) (fun E=>?_)
   ·(have F:=dF (AA E));refine ns (ar q (bE (aX (aX (bE (aX ?_))))));exact j4 trivial q q ⟨py (by cases hh:fC s with|false=>rfl|true=>(exfalso;have Y:=iw hh;have W:=jd hh;have a:=lH hh i Oh;omega)),q⟩
   (have F:=dT (zZ E));refine bh (bW (au (aQ (st _ (gh q q Oh) (mv q (nt (next (i+1) Oh ⟨q,q,fq q Oq,tV⟩ ?_)))))))
   exact⟨q,by omega,N,O,P,fun j I=>by
    rcases Nat.lt_or_eq_of_le (Nat.le_of_lt_succ I)with h|h
    ·exact Q j h
    ·subst h;unfold jM;exact decide_eq_true Oh⟩
  (have S:=dF R);refine dW (bU (bU (eS (au (ns (ar q ?_))))));exact j4 trivial q q ⟨py (WR N O P (fun j I=>Q j Oh)).symm,q⟩
 (have c:=dF J);refine sk J (sk J (sk J (sg H (aS q J q) (st _ (aS q H q) (nt (jR q q (bh (au (aP (nm q (st _ (uE q u9) (mv q ?_))))))))))));refine nt (bF ?_);refine kL (X:=Nat) (fun i=>[(0,str s),(24,.int .i64 s.length),(25,.int .i64 i)]) (fun i w'=>w=w'∧i≤s.length∧1≤s.length∧s.length≤64∧digit (s.getD 0 0)=false∧∀j,j<i→jM (s.getD j 0)=true) (fun i=>s.length-i) 0 ?_ ?_ ?_
 ·exact⟨q,q,q,tV⟩
 ·exact⟨q,by omega,by omega,by omega,by unfold digit;exact decide_eq_false Oh,fun j I=>by omega⟩
 clear M
 rintro i B l ⟨rfl,g,N,O,P,Q⟩;have M:=Md.refl [] w;refine ns (st _ (rT q q) (nt (aP ?_)));refine cA q (fun R=>?_) (fun R=>?_)
 ·(have S:=dT R);refine bh (au (aP (bF (nm q (an q (ns (m2 q q (st _ (xK q q u9 Oh) (d9 q (nt ?_))))))))));refine nm q (st _ (rR q q) (mv q ?_));refine dR (t:=33) q (fun G=>?_) (fun G=>?_)
  ·(have T:=dT G);refine sg G (bf q) (sg G (xL q q) (st _ (bK q G q) (mv q ?_)));refine dR (t:=37) q (fun D=>?_) (fun D=>?_)
   ·(have U:=dT D);refine sk D (sk D (sk D (lg q q q (lg q q q (sk D (st _ (bK q D q) (mv q (sk q (sk q (st _ (bK q q q) (st _ (j7 q) (nt (jR q q ?_)))))))))))));refine bh (bW (au (aQ (st _ (gh q q Oh) (mv q (nt (next (i+1) Oh ⟨q,q,fq q Oq,tV⟩ ?_)))))))
    exact⟨q,by omega,N,O,P,fun j I=>by
     rcases Nat.lt_or_eq_of_le (Nat.le_of_lt_succ I)with h|h
     ·exact Q j h
     ·subst h;unfold jM;exact decide_eq_true Oh⟩
   (have U:=dF D);refine sg D (bf q) (sg D (rR q q) (sg D (bf q) ?_));refine dR (t:=40) q (fun A=>?_) (fun A=>?_)
   ·(have K:=dT A);refine sg A (bf q) (sg A (xL q q) (sg D (bK q A q) (st _ (aS q D q) (mv q ?_))));refine dR (t:=45) q (fun C=>?_) (fun C=>?_)
    ·(have L:=dT C);refine sk C (sk C (st _ (bK q C q) (st _ (j7 q) (nt (jR q q (bh (bW (au (aQ (st _ (gh q q Oh) (mv q (nt (next (i+1) Oh ⟨q,q,fq q Oq,tV⟩ ?_)))))))))))))
     exact⟨q,by omega,N,O,P,fun j I=>by
      rcases Nat.lt_or_eq_of_le (Nat.le_of_lt_succ I)with h|h
      ·exact Q j h
      ·subst h;unfold jM;exact decide_eq_true Oh⟩
    (have L:=dF C);refine sg C (bf q) (sg C (ny q q) (st _ (aS q C q) (st _ (j7 q) (nt ?_))));refine cA q (fun E=>?_) (fun E=>?_)
    ·(have F:=dF (AA E));refine ns (ar q (bE (aX (aX (bE (aX ?_))))));exact j4 trivial q q ⟨py (by cases hh:fC s with|false=>rfl|true=>(exfalso;have Y:=iw hh;have W:=jd hh;have a:=lH hh i Oh;omega)),q⟩
    (have F:=dT (zZ E));refine bh (bW (au (aQ (st _ (gh q q Oh) (mv q (nt (next (i+1) Oh ⟨q,q,fq q Oq,tV⟩ ?_)))))))
    exact⟨q,by omega,N,O,P,fun j I=>by
     rcases Nat.lt_or_eq_of_le (Nat.le_of_lt_succ I)with h|h
     ·exact Q j h
     ·subst h;unfold jM;exact decide_eq_true Oh⟩
   (have K:=dF A);refine sk A (sk A (sg D (aS q A q) (st _ (aS q D q) (mv q (sg q (bf q) (sg q (ny q q) (st _ (aS q q q) (st _ (j7 q) (nt ?_)))))))));refine cA q (fun E=>?_) (fun E=>?_)
   ·(have F:=dF (AA E));refine ns (ar q (bE (aX (aX (bE (aX ?_))))));exact j4 trivial q q ⟨py (by cases hh:fC s with|false=>rfl|true=>(exfalso;have Y:=iw hh;have W:=jd hh;have a:=lH hh i Oh;omega)),q⟩
   (have F:=dT (zZ E));refine bh (bW (au (aQ (st _ (gh q q Oh) (mv q (nt (next (i+1) Oh ⟨q,q,fq q Oq,tV⟩ ?_)))))))
   exact⟨q,by omega,N,O,P,fun j I=>by
    rcases Nat.lt_or_eq_of_le (Nat.le_of_lt_succ I)with h|h
    ·exact Q j h
    ·subst h;unfold jM;exact decide_eq_true Oh⟩
  (have T:=dF G);refine sk G (sk G (st _ (aS q G q) (mv q (sg q (bf q) (sg q (rR q q) (sg q (bf q) ?_))))));refine dR (t:=40) q (fun A=>?_) (fun A=>?_)
  ·(have K:=dT A);refine sg A (bf q) (sg A (xL q q) (sg q (bK q A q) (st _ (aS q q q) (mv q ?_))));refine dR (t:=45) q (fun C=>?_) (fun C=>?_)
   ·(have L:=dT C);refine sk C (sk C (st _ (bK q C q) (st _ (j7 q) (nt (jR q q (bh (bW (au (aQ (st _ (gh q q Oh) (mv q (nt (next (i+1) Oh ⟨q,q,fq q Oq,tV⟩ ?_)))))))))))))
    exact⟨q,by omega,N,O,P,fun j I=>by
     rcases Nat.lt_or_eq_of_le (Nat.le_of_lt_succ I)with h|h
     ·exact Q j h
     ·subst h;unfold jM;exact decide_eq_true Oh⟩
   (have L:=dF C);refine sg C (bf q) (sg C (ny q q) (st _ (aS q C q) (st _ (j7 q) (nt ?_))));refine cA q (fun E=>?_) (fun E=>?_)
   ·(have F:=dF (AA E));refine ns (ar q (bE (aX (aX (bE (aX ?_))))));exact j4 trivial q q ⟨py (by cases hh:fC s with|false=>rfl|true=>(exfalso;have Y:=iw hh;have W:=jd hh;have a:=lH hh i Oh;omega)),q⟩
   (have F:=dT (zZ E));refine bh (bW (au (aQ (st _ (gh q q Oh) (mv q (nt (next (i+1) Oh ⟨q,q,fq q Oq,tV⟩ ?_)))))))
   exact⟨q,by omega,N,O,P,fun j I=>by
    rcases Nat.lt_or_eq_of_le (Nat.le_of_lt_succ I)with h|h
    ·exact Q j h
    ·subst h;unfold jM;exact decide_eq_true Oh⟩
  (have K:=dF A);refine sk A (sk A (sg q (aS q A q) (st _ (aS q q q) (mv q (sg q (bf q) (sg q (ny q q) (st _ (aS q q q) (st _ (j7 q) (nt ?_)))))))));refine cA q (fun E=>?_) (fun E=>?_)
  ·(have F:=dF (AA E));refine ns (ar q (bE (aX (aX (bE (aX ?_))))));exact j4 trivial q q ⟨py (by cases hh:fC s with|false=>rfl|true=>(exfalso;have Y:=iw hh;have W:=jd hh;have a:=lH hh i Oh;omega)),q⟩
  (have F:=dT (zZ E));refine bh (bW (au (aQ (st _ (gh q q Oh) (mv q (nt (next (i+1) Oh ⟨q,q,fq q Oq,tV⟩ ?_)))))))
  exact⟨q,by omega,N,O,P,fun j I=>by
   rcases Nat.lt_or_eq_of_le (Nat.le_of_lt_succ I)with h|h
   ·exact Q j h
   ·subst h;unfold jM;exact decide_eq_true Oh⟩
 (have S:=dF R);refine dW (bU (bU (eS (au (ns (ar q ?_))))));exact j4 trivial q q ⟨py (WR N O P (fun j I=>Q j Oh)).symm,q⟩
theorem aaz (v:Value) (l:Ly) (w:World) (hB:By w v l) :
  Calls Zp 74 #[v] w fun e w'=>e = .returned (.tuple #[qK (qY l),.int .i64 (jU l)])∧Md [] w w':=by
 have M:=Md.refl [] w;refine enter (n:=34) Tryz.func74 q q q fun B=>ns (cw zY ?_);intro U c L a D C;replace L:=ly M.size L;replace M:=M.k D;refine an q (nm q (qZ iC kC Om q q q ⟨q,tV⟩ Om ?_));intro T d Q Z D R;have S:U≠T:=(by have:=C.lt;omega);replace Q:=ly M.size Q;obtain⟨C,M⟩:=k2 D C M;refine ax aj0 q (aeW v _ l 61 _ (hB.o M) (By.e5 (show ck _ _ (([61]:Ly).map b8) _ from R) q Om)) ?_;rintro e Y ⟨x,y,b,rfl,D,W,V⟩;refine rv ?_;clear R;obtain⟨C,M⟩:=k2 D C M;refine mv q (se q q (se q q (se q q (d9 q (d9 q (an q (aP (bF (nm q (st _ (j7 q) (mv q ?_)))))))))));refine dR (t:=17) q (fun A=>?_) (fun A=>?_)
 ·(have F:=AA A);refine sk A (sk A (sk A (sk A (st _ (bK q A q) (an q (iT q q (ns (st (.agg [_,_].toArray) (nL (ps:=[]) zY xG q q trivial q q q) (iL q q (by exact gH) (by simp[Value.oneCell']) C (by rfl) ?_)))))))));have J:=C;clear C;intro f D C;replace M:=M.fW D L;refine ar q (bE (aX ?_));have G:jU l=20:=(by unfold jU;rw[if_pos (V F)]);have K:=yW (s:=l) (by rw[G];decide);exact XM trivial q q (by exact gH) C q ⟨by rw[G,K];rfl,M⟩
 (have F:=zZ A);obtain⟨X,O,P⟩:=W F;refine sg A (bf q) (sg A (rQ iC u5 u9 q O) (gL q q q A ajV q (Qj (l.take (Lib.indexByte l 61).toNat) _) ?_));rintro e _ ⟨rfl,rfl⟩;refine rv ?_;refine sg A (j7 q) (st _ (aS q A q) (an q ?_));refine cA q (fun H=>?_) (fun H=>?_)
 ·(have E:=AA H);refine ns (st (.agg [_,_].toArray) (nL (ps:=[]) zY xG q q trivial q q q) (iL q q (by exact gH) (by simp[Value.oneCell']) C (by rfl) ?_));have J:=C;clear C;intro g D C;clear O;clear P;replace M:=M.fW D L;refine ar q (bE (aX ?_));have G:jU l=20:=(by unfold jU;rw[if_neg Oh,if_pos E]);have K:=yW (s:=l) (by rw[G];decide);exact XM trivial q q (by exact gH) C q ⟨by rw[G,K];rfl,M⟩
 (have E:=zZ H);refine nm q (sL q iC P.eJ (st _ (wE q q) (an q ?_)));refine cA q (fun I=>?_) (fun I=>?_)
 ·(have N:=dT I);refine ns (st (.agg [_,_].toArray) (nL (ps:=[]) zY xG q q trivial q q q) (iL q q (by exact gH) (by simp[Value.oneCell']) C (by rfl) ?_));have J:=C;clear C;intro h D C;clear O;clear P;replace M:=M.fW D L;refine ar q (bE (aX ?_));have G:jU l=21:=(by unfold jU;rw[if_neg Oh,if_neg (by simp[E]),if_pos Oh]);have K:=yW (s:=l) (by rw[G];decide);exact XM trivial q q (by exact gH) C q ⟨by rw[G,K];rfl,M⟩
 (have N:=dF I);refine bh (bW (au (nm q (st _ (rQ iC u5 u9 q O) (mv q (st _ (rQ iC u5 u9 q P) (st (.agg [_,_].toArray) (nL (ps:=[(0,0),(1,1)]) zY xG q q ⟨q,q,tV⟩ q q q) (iL q q (by exact gH) (by simp[Value.oneCell',str]) C (by rfl) ?_))))))));have J:=C;clear C;intro i D C;clear O;clear P;replace M:=M.fW D L;refine ar q ?_;have G:jU l=0:=(by unfold jU;rw[if_neg Oh,if_neg (by simp[E]),if_neg Oh]);have K:qY l=(l.take (Lib.indexByte l 61).toNat,l.drop ((Lib.indexByte l 61).toNat+1)):=(by unfold qY;rw[if_pos G]);exact XM trivial q q (by exact gH) C q ⟨by rw[G,K];rfl,M⟩
theorem DO (uQ:Up w Q) {v0:Value} {l:Ly} (h0:Ls fI w Q v0 l) :
  Calls Zp 74 #[v0] w fun en w'=>∃r0:Pr,∃r1:Nat,en = .returned (.tuple #[.agg (Pr.cells r0).toArray,(.int .i64 r1)])∧Md [] w w'∧r1<9223372036854775808∧nR l=(r0,r1):=by
 refine(aaz _ l w h0.by).mono fun en w' ⟨he,hm⟩=>⟨(nR l).1,(nR l).2,?_,hm,aay l,q⟩;rw[he,UH l]
 rfl
theorem ahy:gW Zp 187 3=true:=Ym
theorem ah0:gW Zp 216 6=true:=Ym
theorem sd:gW Zp 225 4=true:=Ym
theorem mZ:gW Zp 34 16=true:=Ym
theorem ajn:dZ Zp 100=true:=Ym
theorem ajo:dZ Zp 101=true:=Ym
theorem agV:dZ Zp 102=true:=Ym
theorem ajp:dZ Zp 103=true:=Ym
theorem ajq:dZ Zp 104=true:=Ym
theorem ajx:dZ Zp 113=true:=Ym
theorem agX:dZ Zp 114=true:=Ym
theorem ahc:dZ Zp 128=true:=Ym
theorem ahd:dZ Zp 129=true:=Ym
theorem ru:dZ Zp 130=true:=Ym
theorem VT:dZ Zp 135=true:=Ym
theorem abR:dZ Zp 136=true:=Ym
theorem zv:dZ Zp 137=true:=Ym
theorem rz:dZ Zp 138=true:=Ym
theorem II:dZ Zp 142=true:=Ym
theorem IJ:dZ Zp 143=true:=Ym
theorem alo:dZ Zp 57=true:=Ym
theorem ajQ:dZ Zp 58=true:=Ym
theorem al6:dZ Zp 99=true:=Ym
theorem rJ:bg Zp 187 0=some 0:=Ym
theorem oK:bg Zp 187 1=some 1:=Ym
theorem oL:bg Zp 187 2=some 2:=Ym
theorem rK:bg Zp 216 0=some 0:=Ym
theorem xB:bg Zp 216 1=some 1:=Ym
theorem rM:bg Zp 216 2=some 2:=Ym
theorem rO:bg Zp 216 3=some 3:=Ym
theorem EV:bg Zp 216 4=some 4:=Ym
theorem oM:bg Zp 216 5=some 5:=Ym
theorem aky:gV Zp 187=some [(0,1),(1,1),(2,1)]:=Ym
theorem ahr:gV Zp 216=some [(0,1),(1,1),(2,1),(3,1),(4,1),(5,1)]:=Ym
theorem ahs:gV Zp 225=some [(0,1),(1,1),(2,1),(3,1)]:=Ym
theorem ag8:Zp.underlying 131=some (.int .u64):=Ym
theorem akH:Zp.underlying 188=some (.array 12 5):=Ym
theorem aiX:Zp.underlying 217=some (.array 8 5):=Ym
theorem tu:Zp.underlying 225=some (.array 4 26):=Ym
theorem akJ:fR Zp 187=some [.int .u32 0,.int .u32 0,.int .u32 0]:=Ym
theorem alK:fR Zp 188=some (List.replicate 12 (.int .u8 0)):=Ym
theorem aiZ:fR Zp 216=some [.int .u64 0,.int .u64 0,.int .u64 0,.int .u64 0,.int .i64 0,.slice none 0 0]:=Ym
theorem alN:fR Zp 217=some (List.replicate 8 (.int .u8 0)):=Ym
theorem agE:fR Zp 225=some [.int .u64 0,.int .u64 0,.int .u64 0,.int .u64 0]:=Ym
theorem aec (n:Int) (w:World):Calls Zp 56 #[.int .i64 n] w fun e w'=>e = .returned (.bool (szB n))∧w=w':=by
 have M:=Md.refl [] w;refine enter (n:=17) Tryz.func56 q q q fun B=>ns (an q (nm q (st _ (ny q q) (mv q ?_))));refine dR (t:=5) q (fun C=>?_) (fun C=>?_)
 ·(have F:=dT C);refine sk C (sk C (st _ (bK q C q) (mv q (sk q (sk q (st _ (bK q q q) (mv q (sk q (sk q (st _ (bK q q q) (ar q ?_)))))))))));exact j4 trivial q q ⟨py (by rw[Bool.eq_iff_iff];simp[szB];omega),q⟩
 (have F:=dF C);refine sg C (bf q) (sg C (ny q q) (st _ (aS q C q) (mv q ?_)));refine dR (t:=9) q (fun D=>?_) (fun D=>?_)
 ·(have G:=dT D);refine sk D (sk D (st _ (bK q D q) (mv q (sk q (sk q (st _ (bK q q q) (ar q ?_)))))));exact j4 trivial q q ⟨py (by rw[Bool.eq_iff_iff];simp[szB];omega),q⟩
 (have G:=dF D);refine sg D (bf q) (sg D (ny q q) (st _ (aS q D q) (mv q ?_)));refine dR (t:=13) q (fun A=>?_) (fun A=>?_)
 ·(have E:=dT A);refine sk A (sk A (st _ (bK q A q) (ar q ?_)));exact j4 trivial q q ⟨py (by rw[Bool.eq_iff_iff];simp[szB];omega),q⟩
 (have E:=dF A);refine sg A (bf q) (sg A (ny q q) (st _ (aS q A q) (ar q ?_)));exact j4 trivial q q ⟨py (by rw[Bool.eq_iff_iff];simp[szB];omega),q⟩
theorem wu (v:Value) (l:Ly) (a n:Int) (w:World) (hB:By w v l) (hn:n=1∨n=2∨n=4∨n=8) (ha:0≤a) (hl:a+n≤l.length) :
    Calls Zp 26 #[v,.int .i64 a,.int .i64 n] w fun e w'=>e = .returned (.tuple #[.int .u64 (jk ((l.drop a.toNat).take n.toNat)),.bool true])∧w=w':=by
  have E:szB n=true:=(by simp[szB];omega);have I:=hB.gm;have M:=Md.refl [] w;refine enter (n:=42) Tryz.func26 q q q fun B=>ns (d9 q (an q (aP (nm q (ax ajP q (aec _ _) ?_)))));rintro e _ ⟨rfl,rfl⟩;refine rv ?_;refine st _ (j7 q) (mv q (aeg _ q q q (by rw[E];rfl) (bf q) (aeg _ q q q (by rw[E];rfl) (rT q q) (st _ (aS q (by rw[E];rfl) q) (mv q ?_)))));refine dR (t:=17) q (fun A=>?_) (fun A=>?_)
  · (have F:=dT A);exfalso;omega
  (have F:=dF A);refine sg A (bf q) (sg A (bf q) (sg A (jq q iC hB.eJ) (sg A (bf q) (sg A (lC q q Oh) (sg A (wE q q) (st _ (aS q A q) (nt ?_)))))));refine cA q (fun C=>?_) (fun C=>?_)
  · (have G:=dT C);exfalso;omega
  (have G:=dF C);refine bh (au (ns (an q (aP (nm q (st _ (lC q q Oh) (d9 q (nt (bF ?_)))))))));refine kL (X:=Nat) (fun k=>[(0,v),(1,.int .i64 a),(8,.int .u64 (jk ((l.drop (a.toNat+(n.toNat-k))).take k))),(9,.int .i64 (n-1-k))]) (fun k w'=>w=w'∧(k:Int)≤n) (fun k=>(n-k).toNat) 0 ?_ ?_ ?_
  · exact⟨q,q,fq q (by simp[jk]),fq q Oh,tV⟩
  · exact⟨q,by omega⟩
  clear M
  rintro k B J ⟨rfl,hk⟩;refine aP (nm q (st _ (rR q q) (nt ?_)));refine cA q (fun D=>?_) (fun D=>?_)
  · (have H:=dT D);refine bh (au (aP (bF (aQ (mv q (st _ (qN q q Oh) (m2 q q (mv q (st _ (gh q q Oh) (st _ (MX q q iC pS hB.eJ Oh) (st _ (MY q zQ hB Oh) (st _ (jB (by rw[u5];rfl) mE q) ?_))))))))))));refine st _ (yT q q) (d9 q (aH (bW (au (aQ (mv q (st _ (lC q q Oh) (an q (next (k+1) Oh ⟨q,q,fq q (YW a n k hn ha hl Oh),fq q Oh,tV⟩ ?_)))))))));exact⟨q,by omega⟩
  (have H:=dF D);refine dW (bU (bU (eS (au (nm q (d9 q (ar q ?_)))))));exact alF trivial q q q ⟨alG (by obtain rfl:(k:Int)=n:=Oh;simp),q⟩
theorem jH (x k:Int) (w:World) (h0:0≤k) (h1:k<32):Calls Zp 130 #[.int .u32 x,.int .i64 k] w fun e w'=>e = .returned (.int .u32 (td x k))∧w=w':=by
 have M:=Md.refl [] w;refine enter (n:=17) Tryz.func130 q q q fun B=>ns (an q (nm q (st _ (jB (by rw[u3];rfl) ag8 q) (st _ ((adH q q).ki (ajf h0 h1)) (d9 q (nt (ns (m2 q q (st _ (qN q q Oh) (mv q ?_))))))))));refine mv q (st _ ((jE q q).ki (wrap_u64 Oh Oh)) (st _ (QX q q Oh) (st _ (yT q q) (ar q ?_))));exact j4 trivial q q ⟨q,q⟩
theorem pM (x k:Int) (w:World) (h0:0≤k) (h1:k<64):Calls Zp 142 #[.int .u64 x,.int .i64 k] w fun e w'=>e = .returned (.int .u64 (zJ x k))∧w=w':=by
 have M:=Md.refl [] w;refine enter (n:=17) Tryz.func142 q q q fun B=>ns (an q (nm q (st _ (jB (by rw[u3];rfl) ag8 q) (st _ ((adH q q).ki (ajg h0 h1)) (d9 q (nt (ns (m2 q q (st _ (qN q q Oh) (mv q ?_))))))))));refine mv q (st _ ((jE q q).ki (wrap_u64 Oh Oh)) (st _ (QX q q Oh) (st _ (yT q q) (ar q ?_))));exact j4 trivial q q ⟨q,q⟩
theorem kH (x k:Int) (w:World) (h0:0≤k) (h1:k<32):Calls Zp 138 #[.int .u32 x,.int .u64 k] w fun e w'=>e = .returned (.int .u32 (td x k))∧w=w':=by
 have M:=Md.refl [] w;refine enter (n:=13) Tryz.func138 q q q fun B=>ns (an q (ns (m2 q q (st _ (qN q q Oh) (mv q (mv q (st _ ((jE q q).ki (wrap_u64 Oh Oh)) (st _ (QX q q Oh) (st _ (yT q q) (d9 q (nt ?_)))))))))));refine iO ?_;exact j4 trivial q q ⟨q,q⟩
theorem yZ (x k:Int) (w:World) (h0:0≤k) (h1:k<64):Calls Zp 143 #[.int .u64 x,.int .u64 k] w fun e w'=>e = .returned (.int .u64 (zJ x k))∧w=w':=by
 have M:=Md.refl [] w;refine enter (n:=13) Tryz.func143 q q q fun B=>ns (an q (ns (m2 q q (st _ (qN q q Oh) (mv q (mv q (st _ ((jE q q).ki (wrap_u64 Oh Oh)) (st _ (QX q q Oh) (st _ (yT q q) (d9 q (nt ?_)))))))))));refine iO ?_;exact j4 trivial q q ⟨q,q⟩
theorem RD (b:Nat) (t:T3) (v:Value) (l:Ly) (w:World) (hT:ck w b t.cells 187) (hB:By w v l) (hA:Apart v l [b]) (hl:12≤l.length) :
  Calls Zp 102 #[.pointer (some ⟨b,0,none⟩),v] w fun e w'=>e = .returned (.tuple #[])∧Md [b] w w'∧ck w' b (mY t l).cells 187:=by
 have M:=Md.refl [b] w;refine enter (n:=52) Tryz.func102 q q q fun B=>nm q (ax yo q (wu _ _ 0 4 _ (hB.md M hA) Om Om Oh) ?_);rintro e _ ⟨rfl,rfl⟩;refine rv ?_;refine mv q (se q q (se q q (d9 q (an q (nm q (ax yo q (wu _ _ 4 4 _ (hB.md M hA) Om Om Oh) ?_))))));rintro e _ ⟨rfl,rfl⟩;refine rv ?_;refine mv q (se q q (se q q (d9 q (an q (nm q (ax yo q (wu _ _ 8 4 _ (hB.md M hA) Om Om Oh) ?_))))));rintro e _ ⟨rfl,rfl⟩;refine rv ?_;refine mv q (se q q (se q q (d9 q (an q (nm q (sn q (sf q rJ (st _ (aC q jo hT q) (mv q (st _ (jB (by rw[mE];rfl) iH q) (st _ (js q q) ?_)))))))))));refine sn q (sf q rJ (bN q q jo q hT (lB q) ?_));have A:=hT;clear hT;intro D C hT;replace M:=M.jj C Oq;refine nt (nm q (sn q (sf q oK (st _ (aC q jo hT q) (mv q (st _ (jB (by rw[mE];rfl) iH q) (st _ (js q q) (sn q (sf q oK (bN q q jo q hT (lB q) ?_))))))))));have A:=hT;clear hT;intro E C hT;replace M:=M.jj C Oq;refine nt (aQ (mv q (sn q (sf q oL (st _ (aC q jo hT q) ?_)))))
 refine mv q (st _ (jB (by rw[mE];rfl) iH q) (st _ (js q q) (sn q (sf q oL (bN q q jo q hT (lB q) ?_)))));have A:=hT;clear hT;intro F C hT;replace M:=M.jj C Oq;refine aH ?_;refine aan trivial q ⟨q,M,?_⟩;rw[show(mY t l).cells=([.int .u32 (mY t l).x,.int .u32 (mY t l).y,.int .u32 (mY t l).z]:List Value)from rfl];simp only[mY,← DV l 0 Oh,← DV l 4 Oh,← DV l 8 Oh];exact hT
theorem aek (b:Nat) (t:T3) (w:World) (hT:ck w b t.cells 187) :
  Calls Zp 103 #[.pointer (some ⟨b,0,none⟩)] w fun e w'=>e = .returned (.tuple #[])∧Md [b] w w'∧ck w' b (mix t).cells 187:=by
 have M:=Md.refl [b] w;refine enter (n:=89) Tryz.func103 q q q ?_;intro B;refine aP (AE (fun w'=>Md [] w w') eC Ym (Md.drew w) (qz _ (fun w' m=>bf q) (qz _ (fun w' m=>dr q) (qz _ (fun w' m=>aL q rJ) (qz _ (fun w' m=>aC q jo (hT.o m) q) (qz _ (fun w' m=>bf q) (qz _ (fun w' m=>dr q) (qz _ (fun w' m=>aL q oK) (qz _ (fun w' m=>aC q jo (hT.o m) q) (qz _ (fun w' m=>bf q) (qz _ (fun w' m=>dr q) (qz _ (fun w' m=>aL q oL) (qz _ (fun w' m=>aC q jo (hT.o m) q) ?_)))))))))))));refine qz _ (fun w' m=>eK q) (qz _ (fun w' m=>eK q) (qz _ (fun w' m=>eK q) (XK ?_)));intro D A;obtain⟨hT,M⟩:=k2 A hT M;refine au (ns (m2 q q (st _ (jE q q) (an q (nm q (mv q (ax ru q (jH _ _ _ Om Om) ?_)))))));rintro e _ ⟨rfl,rfl⟩;refine rv ?_;refine st _ (gg q q) (an q (ns (m2 q q (st _ (js q q) (d9 q (nt (nm q (mv q (st _ (jE q q) (d9 q ?_))))))))));refine nt (ns (m2 q q (ax ru q (jH _ _ _ Om Om) ?_)));rintro e _ ⟨rfl,rfl⟩;refine rv ?_;refine st _ (gg q q) (an q (ns (m2 q q (st _ (js q q) (d9 q (nt (nm q (mv q (st _ (jE q q) ?_)))))))))
 refine an q (ns (m2 q q (ax ru q (jH _ _ _ Om Om) ?_)));rintro e _ ⟨rfl,rfl⟩;refine rv ?_;refine st _ (gg q q) (an q (ns (m2 q q (st _ (js q q) (d9 q (nt (nm q (mv q (st _ (jE q q) (d9 q ?_))))))))));refine nt (ns (m2 q q (ax ru q (jH _ _ _ Om Om) ?_)));rintro e _ ⟨rfl,rfl⟩;refine rv ?_;refine st _ (gg q q) (an q (ns (m2 q q (st _ (js q q) (d9 q (nt (nm q (mv q (st _ (jE q q) (d9 q ?_))))))))));refine nt (ns (m2 q q (ax ru q (jH _ _ _ Om Om) ?_)));rintro e _ ⟨rfl,rfl⟩;refine rv ?_;refine st _ (gg q q) (an q (ns (m2 q q (st _ (js q q) (d9 q (nt (nm q (mv q (st _ (jE q q) (d9 q ?_))))))))));refine nt (ns (m2 q q (ax ru q (jH _ _ _ Om Om) ?_)));rintro e _ ⟨rfl,rfl⟩;refine rv ?_;refine st _ (gg q q) (an q (ns ?_))
 refine m2 q q (st _ (js q q) (an q (aQ (mv q (mv q (mv q (mv q (mv q (mv q (sn q (sf q rJ ?_)))))))))));refine bN q q jo q hT (lB q) ?_;have C:=hT;clear hT;intro E A hT;replace M:=M.jj A Oq;refine sn q (sf q oK (bN q q jo q hT (lB q) ?_));have C:=hT;clear hT;intro F A hT;replace M:=M.jj A Oq;refine sn q (sf q oL (bN q q jo q hT (lB q) ?_));have C:=hT;clear hT;intro G A hT;replace M:=M.jj A Oq;refine aH ?_;exact aan trivial q ⟨q,M,hT⟩
theorem aa7 (b:Nat) (t:T3) (w:World) (hT:ck w b t.cells 187) :
  Calls Zp 104 #[.pointer (some ⟨b,0,none⟩)] w fun e w'=>e = .returned (.tuple #[])∧Md [b] w w'∧ck w' b (last t).cells 187:=by
 have M:=Md.refl [b] w;refine enter (n:=78) Tryz.func104 q q q ?_;intro B;refine aP (AE (fun w'=>Md [] w w') eC Ym (Md.drew w) (qz _ (fun w' m=>bf q) (qz _ (fun w' m=>dr q) (qz _ (fun w' m=>aL q rJ) (qz _ (fun w' m=>aC q jo (hT.o m) q) (qz _ (fun w' m=>bf q) (qz _ (fun w' m=>dr q) (qz _ (fun w' m=>aL q oK) (qz _ (fun w' m=>aC q jo (hT.o m) q) (qz _ (fun w' m=>bf q) (qz _ (fun w' m=>dr q) (qz _ (fun w' m=>aL q oL) (qz _ (fun w' m=>aC q jo (hT.o m) q) ?_)))))))))))));refine qz _ (fun w' m=>eK q) (qz _ (fun w' m=>eK q) (qz _ (fun w' m=>eK q) (XK ?_)));intro D A;obtain⟨hT,M⟩:=k2 A hT M;refine au (ns (m2 q q (st _ (gg q q) (an q (nm q (mv q (ax ru q (jH _ _ _ Om Om) ?_)))))));rintro e _ ⟨rfl,rfl⟩;refine rv ?_;refine st _ (jE q q) (an q (ns (m2 q q (st _ (gg q q) (d9 q (nt (nm q (mv q (ax ru q (jH _ _ _ Om Om) ?_)))))))));rintro e _ ⟨rfl,rfl⟩;refine rv ?_;refine st _ (jE q q) (an q (ns (m2 q q (st _ (gg q q) (d9 q (nt (nm q (mv q (ax ru q (jH _ _ _ Om Om) ?_)))))))));rintro e _ ⟨rfl,rfl⟩;refine rv ?_;refine st _ (jE q q) (an q (aP ?_))
 refine aQ (m2 q q (st _ (gg q q) (an q (nm q (mv q (ax ru q (jH _ _ _ Om Om) ?_))))));rintro e _ ⟨rfl,rfl⟩;refine rv ?_;refine st _ (jE q q) (an q (ns (m2 q q (st _ (gg q q) (d9 q (nt (nm q (mv q (ax ru q (jH _ _ _ Om Om) ?_)))))))));rintro e _ ⟨rfl,rfl⟩;refine rv ?_;refine st _ (jE q q) (an q (ns (m2 q q (st _ (gg q q) (d9 q (nt (nm q (mv q (ax ru q (jH _ _ _ Om Om) ?_)))))))));rintro e _ ⟨rfl,rfl⟩;refine rv ?_;refine st _ (jE q q) (an q (ns (m2 q q (st _ (gg q q) (d9 q (nt (nm q (mv q (ax ru q (jH _ _ _ Om Om) ?_)))))))));rintro e _ ⟨rfl,rfl⟩;refine rv ?_;refine st _ (jE q q) (an q (aQ (m2 q q (mv q (mv q (mv q (mv q (sn q (sf q rJ (bN q q jo q hT (lB q) ?_))))))))));have C:=hT;clear hT;intro E A hT;replace M:=M.jj A Oq;refine sn q (sf q oK (bN q q jo q hT (lB q) ?_))
 have C:=hT;clear hT;intro F A hT;replace M:=M.jj A Oq;refine sn q (sf q oL (bN q q jo q hT (lB q) ?_));have C:=hT;clear hT;intro G A hT;replace M:=M.jj A Oq;refine aH ?_;exact aan trivial q ⟨q,M,hT⟩
theorem EF (v:Value) (l:Ly) (w:World) (hB:By w v l) :
  Calls Zp 58 #[v] w fun e w'=>e = .returned (.int .u64 (lookup l))∧Md [] w w':=by
 have Q:=hB.gm;have M:=Md.refl [] w;refine enter (n:=40) Tryz.func58 q q q fun B=>ns (an q (nm q (sL q iC hB.eJ (st _ (jB (by rw[u3];rfl) iH q) (st _ (js q q) (d9 q (nt (ns (m2 q q (mv q ?_))))))))));refine st (.agg [_,_,_].toArray) (nL (ps:=[(0,0),(1,1),(2,2)]) akJ aky q q ⟨q,q,q,tV⟩ q q q) (cw akJ ?_);intro G W F V C A;replace F:=ly M.size F;replace M:=M.k C;refine iL q q (by exact ahy) (by simp[Value.oneCell']) A (by rfl) ?_;have E:=A;clear A;intro Y C A;replace M:=M.fW C F;refine nt (aP (bF ?_));refine kL (X:=T3 × List UInt8 × Value) (fun x=>[(0,x.2.2),(4,.pointer (some ⟨G,0,none⟩))]) (fun x w'=>Md [] w w'∧ck w' G x.1.cells 187∧By w x.2.2 x.2.1∧lk x.1 x.2.1=lookup l∧x.2.1.length≤l.length) (fun x=>x.2.1.length) (SX l,l,v) ?_ ?_ ?_
 ·exact⟨q,q,tV⟩
 ·exact⟨M,A,hB,q,Nat.le_refl _⟩
 clear M
 clear A hB;rintro x B Z ⟨M,A,hB,K,S⟩;refine aP (nm q (sL q iC hB.eJ (st _ (wE q q) (nt ?_))));refine cA q (fun H=>?_) (fun H=>?_)
 ·(have L:=dT H);refine bh (au (bF (nm q (st _ (pH 0 12 iC pS q hB.eJ Oh Oh q ⟨_,q⟩) (ax agV q (RD G x.1 _ _ _ A ((hB.o M).sub 0 12 Oh Oh) ((NY hB F).sub 0 12) Vw) ?_)))));have E:=A;clear A;rintro e a ⟨rfl,C,A⟩;refine rv ?_;replace M:=M.fW C F;refine nt (ns (ax ajp q (aek G _ _ A) ?_));have E:=A;clear A;rintro e b ⟨rfl,C,A⟩;refine rv ?_;replace M:=M.fW C F;refine nt (aQ (mv q (st _ (pH 12 x.2.1.length iC pS q hB.eJ Oh Oh ⟨_,q⟩ q) (d9 q (aH (bW (au (next ((mix (mY x.1 ((x.2.1.take 12).drop 0)),(x.2.1.take x.2.1.length).drop 12,p7 x.2.2 12 x.2.1.length)) Vw ⟨q,q,tV⟩ ?_))))))));refine⟨M,A,hB.sub 12 _ Oh Oh,?_,by simp;omega⟩;rw[List.drop_zero,RQ _ _ 12 Oh,List.take_length,← WJ _ _ Oh];exact K
 (have L:=dF H);refine dW (bU (bU (eS (au (aP (nm q (sL q iC hB.eJ (st _ (wE q q) (nt ?_)))))))));refine cA q (fun I=>?_) (fun I=>?_)
 ·(have D:=dT I);refine ns (cw alK ?_);intro P c O U C J;have N:G≠P:=(by have:=A.lt;omega);replace O:=ly M.size O;obtain⟨A,M⟩:=k2 C A M;refine nt (ns (st _ (ig akH pS q Om) (mv q (BA iC pS q q J (hB.o M) (yN _) Vw ?_))));have R:=J;clear J;intro T C J;replace A:=A.sZ C Oh;replace M:=M.fW C O;refine aH ?_;replace J:ck T P ((tc 12 x.2.1).map b8) 188:=(by rw[← FY (m:=12) Oh];exact J);refine au (ns (st _ (ig akH pS q Om) (ax agV q (RD G x.1 _ _ _ A (By.e5 J (rP 12 _ Oh) Om) (ah1 (Ne.symm N)) (by rw[rP 12 _ Oh];omega)) ?_)));have E:=A;clear A;rintro e d ⟨rfl,C,A⟩;refine rv ?_;replace M:=M.fW C F;refine nt (aQ (ax ajq q (aa7 G _ _ A) ?_));have E:=A;clear A;rintro e f ⟨rfl,C,A⟩;refine rv ?_;replace M:=M.fW C F;refine nt (ns (sf q oL (st _ (aC q jo A q) (st _ (jB (by rw[iH];rfl) mE q) (st _ (qN q q Oh) (sf q oK (st _ (aC q jo A q) (st _ (jB (by rw[iH];rfl) mE q) (st _ (yT q q) (ar q ?_))))))))));refine j4 trivial q q ⟨zU (Eq.trans ?_ K),M⟩;rw[WH x.1 x.2.1 (by intro h;rw[h]at D;simp at D) Oh,← Yn x.1 12 x.2.1];rfl
 (have D:=dF I);refine bh (au (ns (sf q oL (st _ (aC q jo A q) (st _ (jB (by rw[iH];rfl) mE q) (st _ (qN q q Oh) (sf q oK (st _ (aC q jo A q) (st _ (jB (by rw[iH];rfl) mE q) (st _ (yT q q) (ar q ?_)))))))))));refine j4 trivial q q ⟨zU (Eq.trans ?_ K),M⟩;rw[show x.2.1=[]from List.eq_nil_of_length_eq_zero Oh,aim];rfl
theorem oP (v:Value) (l:Ly) (a:Int) (w:World) (hB:By w v l) (ha:0≤a) (ha2:a≤4611686018427387904) :
  Calls Zp 137 #[v,.int .i64 a] w fun e w'=>e = .returned (.int .u32 (wB l a.toNat))∧w=w':=by
 have F:=hB.gm;have M:=Md.refl [] w;refine enter (n:=29) Tryz.func137 q q q fun B=>ns (an q (ns (d9 q (nt (aP (ns (d9 q (nt (bF ?_)))))))));refine kL (X:=Nat) (fun k=>[(0,v),(1,.int .i64 a),(5,.int .u32 (wX l a.toNat k)),(6,.int .i64 (3-k))]) (fun k w'=>w=w'∧k≤4) (fun k=>4-k) 0 ?_ ?_ ?_
 ·exact⟨q,q,q,q,tV⟩
 ·exact⟨q,by omega⟩
 clear M
 rintro k B G ⟨rfl,hk⟩;have M:=Md.refl [] w;refine aP (nm q (st _ (rR q q) (nt ?_)));refine cA q (fun D=>?_) (fun D=>?_)
 ·(have E:=dT D);refine bh (au (aP (bF (nm q (st _ (qN q q Oh) (an q (ns (m2 q q (st _ (gh q q Oh) (mv q ?_))))))))));refine sL q iC hB.eJ (st _ (rT q q) (nt ?_));refine cA q (fun A=>?_) (fun A=>?_)
  ·(have C:=dT A);refine aQ (m2 q q (mv q (mv q (st _ (gh q q Oh) (st _ (MX q q iC pS hB.eJ Oh) (st _ (MY q zQ (hB.o M) Oh) (st _ (jB (by rw[u5];rfl) iH q) (st _ (yT q q) (d9 q (aH (bW (au ?_))))))))))));refine aQ (mv q (st _ (lC q q Oh) (an q (next (k+1) Oh ⟨q,q,fq q (agC l a k ha Oh Oh),fq q Oh,tV⟩ ?_))));exact⟨q,by omega⟩
  (have C:=dF A);refine bh (bW (au (aQ (mv q (st _ (lC q q Oh) (an q (next (k+1) Oh ⟨q,q,fq q (aep l a k ha Oh Oh),fq q Oh,tV⟩ ?_)))))));exact⟨q,by omega⟩
 (have E:=dF D);refine dW (bU (bU (eS (au (nm q (ar q ?_))))));exact j4 trivial q q ⟨zU (by obtain rfl:k=4:=Oh;rfl),q⟩
theorem zI (v:Value) (l:Ly) (w:World) (hB:By w v l) (hl:l.length≤4611686018427387000) :
  Calls Zp 114 #[v] w fun e w'=>e = .returned (.int .u64 (lookup l))∧w=w':=by
 have G:=hB.gm;have M:=Md.refl [] w;refine enter (n:=178) Tryz.func114 q q q fun B=>ns (an q (nm q (sL q iC hB.eJ (st _ (jB (by rw[u3];rfl) iH q) (st _ (js q q) (d9 q (nt (ns (m2 q q (d9 q ?_))))))))));refine an q (aP (nm q (sL q iC hB.eJ (st _ (ny q q) (nt ?_)))));refine cA q (fun A=>?_) (fun A=>?_)
 ·(have D:=dT A);refine nm q (st _ (jB (by rw[iH];rfl) mE q) (st _ (qN q q Oh) (mv q (st _ (jB (by rw[iH];rfl) mE q) (st _ (yT q q) (ar q (aX ?_)))))));refine j4 trivial q q ⟨zU ?_,q⟩;rw[show l=[]from List.eq_nil_of_length_eq_zero Oh];rfl
 (have D:=dF A);refine bh (au (ns (an q (aP (bF ?_)))));refine kL (X:=T3 × Nat) (fun x=>[(0,v),(3,.int .u32 x.1.x),(4,.int .u32 x.1.y),(5,.int .u32 x.1.z),(6,.int .i64 x.2)]) (fun x w'=>w=w'∧x.2<l.length∧lk x.1 (l.drop x.2)=lookup l) (fun x=>l.length-x.2) (SX l,0) ?_ ?_ ?_
 ·exact⟨q,q,q,q,q,tV⟩
 ·exact⟨q,by omega,q⟩
 clear M
 rintro x B H ⟨rfl,hk,F⟩;have M:=Md.refl [] w;refine aP (nm q (sL q iC hB.eJ (mv q (st _ (lC q q Oh) (st _ (wE q q) (nt ?_))))));refine cA q (fun C=>?_) (fun C=>?_)
 ·(have E:=dT C);refine bh (au (bF (ns (m2 q q (mv q (ax zv q (oP _ _ _ _ (hB.o M) Oh Oh) ?_))))));rintro e _ ⟨rfl,rfl⟩;refine rv ?_;refine st _ (js q q) (m2 q q (mv q (st _ (gh q q Oh) (ax zv q (oP _ _ _ _ (hB.o M) Oh Oh) ?_))));rintro e _ ⟨rfl,rfl⟩;refine rv ?_;refine st _ (js q q) (m2 q q (mv q (st _ (gh q q Oh) (ax zv q (oP _ _ _ _ (hB.o M) Oh Oh) ?_))));rintro e _ ⟨rfl,rfl⟩;refine rv ?_;refine st _ (js q q) (d9 q (d9 q (an q (ns (m2 q q (st _ (jE q q) (d9 q (nt (nm q (mv q ?_))))))))));refine ax rz q (kH _ _ _ Om Om) ?_;rintro e _ ⟨rfl,rfl⟩;refine rv ?_;refine st _ (gg q q) (an q (ns (m2 q q (st _ (js q q) (d9 q (nt (nm q (mv q (st _ (jE q q) (d9 q ?_))))))))));refine nt (ns (m2 q q (ax rz q (kH _ _ _ Om Om) ?_)));rintro e _ ⟨rfl,rfl⟩;refine rv ?_;refine st _ (gg q q) (an q (ns (m2 q q (st _ (js q q) ?_))))
  refine an q (ns (m2 q q (st _ (jE q q) (d9 q (nt (nm q (mv q (ax rz q (kH _ _ _ Om Om) ?_))))))));rintro e _ ⟨rfl,rfl⟩;refine rv ?_;refine st _ (gg q q) (an q (ns (m2 q q (st _ (js q q) (d9 q (nt (nm q (mv q (st _ (jE q q) (d9 q ?_))))))))));refine nt (ns (m2 q q (ax rz q (kH _ _ _ Om Om) ?_)));rintro e _ ⟨rfl,rfl⟩;refine rv ?_;refine st _ (gg q q) (an q (ns (m2 q q (st _ (js q q) (d9 q (nt (nm q (mv q (st _ (jE q q) (d9 q ?_))))))))));refine nt (ns (m2 q q (ax rz q (kH _ _ _ Om Om) ?_)));rintro e _ ⟨rfl,rfl⟩;refine rv ?_;refine st _ (gg q q) (an q (ns (m2 q q (st _ (js q q) (d9 q (nt (nm q (mv q (st _ (jE q q) (d9 q ?_))))))))));refine nt (ns (m2 q q (ax rz q (kH _ _ _ Om Om) ?_)))
  rintro e _ ⟨rfl,rfl⟩;refine rv ?_;refine st _ (gg q q) (an q (ns (m2 q q (st _ (js q q) (d9 q (nt (aQ (mv q (st _ (gh q q Oh) (d9 q (aH ?_)))))))))));refine bW (au (next ((mix ⟨t7 (x.1.x+wB l (x.2:Int).toNat),t7 (x.1.y+wB l (x.2+4:Int).toNat),t7 (x.1.z+wB l (x.2+8:Int).toNat)⟩,x.2+12)) Vw ⟨q,q,q,q,fq q Oq,tV⟩ ?_));refine⟨q,by simp;omega,?_⟩;rw[← F,WJ _ (l.drop x.2) Vw,JU,List.drop_drop]
 (have E:=dF C);refine dW (bU (bU (eS (au (ns (m2 q q (mv q (ax zv q (oP _ _ _ _ (hB.o M) Oh Oh) ?_))))))));rintro e _ ⟨rfl,rfl⟩;refine rv ?_;refine st _ (js q q) (m2 q q (mv q (st _ (gh q q Oh) (ax zv q (oP _ _ _ _ (hB.o M) Oh Oh) ?_))));rintro e _ ⟨rfl,rfl⟩;refine rv ?_;refine st _ (js q q) (m2 q q (mv q (st _ (gh q q Oh) (ax zv q (oP _ _ _ _ (hB.o M) Oh Oh) ?_))));rintro e _ ⟨rfl,rfl⟩;refine rv ?_;refine st _ (js q q) (d9 q (d9 q (an q (ns (m2 q q (st _ (gg q q) (d9 q (nt (nm q (mv q ?_))))))))));refine ax rz q (kH _ _ _ Om Om) ?_;rintro e _ ⟨rfl,rfl⟩;refine rv ?_;refine st _ (jE q q) (an q (ns (m2 q q (st _ (gg q q) (d9 q (nt (nm q (mv q (ax rz q (kH _ _ _ Om Om) ?_)))))))));rintro e _ ⟨rfl,rfl⟩;refine rv ?_;refine st _ (jE q q) (an q (ns (m2 q q (st _ (gg q q) (d9 q (nt (nm q (mv q ?_))))))))
 refine ax rz q (kH _ _ _ Om Om) ?_;rintro e _ ⟨rfl,rfl⟩;refine rv ?_;refine st _ (jE q q) (an q (ns (m2 q q (st _ (gg q q) (d9 q (nt (nm q (mv q (ax rz q (kH _ _ _ Om Om) ?_)))))))));rintro e _ ⟨rfl,rfl⟩;refine rv ?_;refine st _ (jE q q) (an q (ns (m2 q q (st _ (gg q q) (d9 q (nt (nm q (mv q (ax rz q (kH _ _ _ Om Om) ?_)))))))));rintro e _ ⟨rfl,rfl⟩;refine rv ?_;refine st _ (jE q q) (an q (ns (m2 q q (st _ (gg q q) (d9 q (nt (nm q (mv q (ax rz q (kH _ _ _ Om Om) ?_)))))))));rintro e _ ⟨rfl,rfl⟩;refine rv ?_;refine st _ (jE q q) (an q (ns (m2 q q (st _ (gg q q) (d9 q (nt (nm q (mv q (ax rz q (kH _ _ _ Om Om) ?_)))))))));rintro e _ ⟨rfl,rfl⟩;refine rv ?_;refine st _ (jE q q) (an q (nm q (st _ (jB (by rw[iH];rfl) mE q) (st _ (qN q q Oh) (mv q (st _ (jB (by rw[iH];rfl) mE q) (st _ (yT q q) ?_)))))))
 refine ar q ?_;refine j4 trivial q q ⟨zU ?_,q⟩;rw[← F,WH _ _ (by intro h;have:=congrArg List.length h;simp at this;omega) Vw,← JU];rfl
theorem JY (b:Nat) (v:S4) (n t:Int) (rest:Value) (w:World) (hT:ck w b (v.cells n rest) 216) (ht:0≤t) (ht2:t≤100) :
  Calls Zp 129 #[.pointer (some ⟨b,0,none⟩),.int .i64 t] w fun e w'=>e = .returned (.tuple #[])∧Md [b] w w'∧ck w' b ((fJ t.toNat v).cells n rest) 216:=by
 have M:=Md.refl [b] w;refine enter (n:=76) Tryz.func129 q q q ?_;intro B;refine aP (AE (fun w'=>Md [] w w') eC Ym (Md.drew w) (qz _ (fun w' m=>bf q) (qz _ (fun w' m=>dr q) (qz _ (fun w' m=>aL q rK) (qz _ (fun w' m=>aC q bA (hT.o m) q) (qz _ (fun w' m=>bf q) (qz _ (fun w' m=>dr q) (qz _ (fun w' m=>aL q xB) (qz _ (fun w' m=>aC q bA (hT.o m) q) (qz _ (fun w' m=>bf q) (qz _ (fun w' m=>dr q) (qz _ (fun w' m=>aL q rM) (qz _ (fun w' m=>aC q bA (hT.o m) q) ?_)))))))))))));refine qz _ (fun w' m=>bf q) (qz _ (fun w' m=>dr q) (qz _ (fun w' m=>aL q rO) (qz _ (fun w' m=>aC q bA (hT.o m) q) (qz _ (fun w' m=>eK q) (qz _ (fun w' m=>eK q) (qz _ (fun w' m=>eK q) (qz _ (fun w' m=>eK q) (XK ?_))))))));intro F A;obtain⟨hT,M⟩:=k2 A hT M;refine au (aP (ns (m2 q q (nt (bF ?_)))));refine kL (X:=Nat) (fun k=>[(0,.pointer (some ⟨b,0,none⟩)),(4,.int .u64 (fJ k v).p),(5,.int .u64 (fJ k v).q),(6,.int .u64 (fJ k v).r),(7,.int .u64 (fJ k v).s),(24,.int .i64 t),(25,.int .i64 k)]) (fun k w'=>Md [b] w w'∧ck w' b (v.cells n rest) 216∧(k:Int)≤t) (fun k=>(t-k).toNat) 0 ?_ ?_ ?_
 ·exact⟨q,q,q,q,q,q,q,tV⟩
 ·exact⟨M,hT,ht⟩
 clear M
 clear hT;rintro k B G ⟨M,hT,hk⟩;refine ns (st _ (rT q q) (nt (aP ?_)));refine cA q (fun C=>?_) (fun C=>?_)
 ·(have E:=dT C);refine bh (au (aP (bF (ns (m2 q q (st _ (js q q) (an q (nm q (ax II q (pM _ _ _ Om Om) ?_)))))))));rintro e _ ⟨rfl,rfl⟩;refine rv ?_;refine mv q (st _ (gg q q) (an q (nm q (ax II q (pM _ _ _ Om Om) ?_))));rintro e _ ⟨rfl,rfl⟩;refine rv ?_;refine an q (ns (m2 q q (st _ (js q q) (d9 q (nt (nm q (ax II q (pM _ _ _ Om Om) ?_)))))));rintro e _ ⟨rfl,rfl⟩;refine rv ?_;refine mv q (st _ (gg q q) (an q (ns (m2 q q (st _ (js q q) (d9 q (nt (nm q (ax II q (pM _ _ _ Om Om) ?_)))))))));rintro e _ ⟨rfl,rfl⟩;refine rv ?_;refine mv q (st _ (gg q q) (an q (ns (m2 q q (st _ (js q q) (d9 q (nt (nm q (ax II q (pM _ _ _ Om Om) ?_)))))))));rintro e _ ⟨rfl,rfl⟩;refine rv ?_;refine mv q (st _ (gg q q) (an q (aQ (mv q ?_))))
  refine ax II q (pM _ _ _ Om Om) ?_;rintro e _ ⟨rfl,rfl⟩;refine rv ?_;refine d9 q (aH (bW (au (aQ (st _ (gh q q Oh) (mv q (nt (next (k+1) Oh ⟨q,q,q,q,q,q,q,tV⟩ ?_))))))));exact⟨M,hT,by omega⟩
 (have E:=dF C);refine dW (bU (bU (eS (au (aQ (m2 q q (mv q (mv q (mv q (mv q (mv q (mv q ?_))))))))))));refine sn q (sf q rK (bN q q bA q hT (lB q) ?_));have D:=hT;clear hT;intro H A hT;replace M:=M.jj A Oq;refine sn q (sf q xB (bN q q bA q hT (lB q) ?_));have D:=hT;clear hT;intro I A hT;replace M:=M.jj A Oq;refine sn q (sf q rM (bN q q bA q hT (lB q) ?_));have D:=hT;clear hT;intro J A hT;replace M:=M.jj A Oq;refine sn q (sf q rO (bN q q bA q hT (lB q) ?_));have D:=hT;clear hT;intro K A hT;replace M:=M.jj A Oq;refine aH ?_;obtain rfl:(k:Int)=t:=Oh;exact aan trivial q ⟨q,M,hT⟩
theorem UA (b:Nat) (v:S4) (n:Int) (rest:Value) (w:World) (hT:ck w b (v.cells n rest) 216) :
  Calls Zp 129 #[.pointer (some ⟨b,0,none⟩),.int .i64 2] w fun e w'=>e = .returned (.tuple #[])∧Md [b] w w'∧ck w' b ((fJ 2 v).cells n rest) 216 :=
 JY b v n 2 rest w hT Om Om
theorem UB (b:Nat) (v:S4) (n:Int) (rest:Value) (w:World) (hT:ck w b (v.cells n rest) 216) :
  Calls Zp 129 #[.pointer (some ⟨b,0,none⟩),.int .i64 4] w fun e w'=>e = .returned (.tuple #[])∧Md [b] w w'∧ck w' b ((fJ 4 v).cells n rest) 216 :=
 JY b v n 4 rest w hT Om Om
theorem KE (b:Nat) (v:S4) (n m:Int) (rest:Value) (w:World) (hT:ck w b (v.cells n rest) 216) :
  Calls Zp 128 #[.pointer (some ⟨b,0,none⟩),.int .u64 m] w fun e w'=>e = .returned (.tuple #[])∧Md [b] w w'∧ck w' b ((pJ v m).cells n rest) 216:=by
 have M:=Md.refl [b] w;refine enter (n:=22) Tryz.func128 q q q fun B=>nm q (sn q (sf q rO (st _ (aC q bA hT q) (mv q (st _ (gg q q) (sn q (sf q rO (bN q q bA q hT (lB q) ?_))))))));have A:=hT;clear hT;intro D C hT;replace M:=M.jj C Oq;refine aH ?_;replace hT:=(aiK v m n rest) ▸ hT;refine au (nm q (ax ahd q (UA b _ _ _ _ hT) ?_));have A:=hT;clear hT;rintro e E ⟨rfl,C,hT⟩;refine rv ?_;replace M:=M.jj C Oq;refine nt (aQ (mv q (sn q (sf q rK (st _ (aC q bA hT q) (mv q (st _ (gg q q) (sn q (sf q rK (bN q q bA q hT (lB q) ?_))))))))));have A:=hT;clear hT;intro F C hT;replace M:=M.jj C Oq;refine aH ?_;replace hT:=(aiI _ m n rest) ▸ hT;exact aan trivial q ⟨q,M,hT⟩
theorem af7 (key:Ly) (w:World) (hk:key.length=16) :
  Calls Zp 99 #[.agg (key.map b8).toArray] w fun e w'=>∃b,e = .returned (.pointer (some ⟨b,0,none⟩))∧w.heap.size≤b∧b<w'.heap.size∧Md [] w w'∧ck w' b ((qQ key).cells 0 SN) 216:=by
 have M:=Md.refl [] w;refine enter (n:=27) Tryz.func99 q q q fun B=>ns (gN q q ?_);intro I L F J D C;replace F:=ly M.size F;replace M:=M.k D;refine an q (ns (st _ (ig u34 pS q Om) (ax yo q (wu _ key 0 8 _ (By.e5 C hk Om) Om Om (by rw[hk];decide)) ?_)));rintro e _ ⟨rfl,rfl⟩;refine rv ?_;refine mv q (se q q (se q q (d9 q (an q (ns (st _ (ig u34 pS q Om) (ax yo q (wu _ key 8 8 _ (By.e5 C hk Om) Om Om (by rw[hk];decide)) ?_)))))));rintro e _ ⟨rfl,rfl⟩;refine rv ?_;refine mv q (se q q (se q q (d9 q (an q (nm q (st _ (gg q q) (mv q (st _ (gg q q) (mv q (st _ (gg q q) (mv q ?_)))))))))));refine st _ (gg q q) (st (.agg [_,_,_,_,_,_].toArray) (nL (ps:=[(0,0),(1,1),(2,2),(3,3)]) aiZ ahr q q ⟨q,q,q,q,tV⟩ q q q) (gN q q ?_));intro E N A K D G;have H:I≠E:=(by have:=C.lt;omega);replace A:=ly M.size A;replace M:=M.k D;refine ar q ?_;refine j4 trivial q q ⟨E,q,A,?_,M,G⟩;exact G.lt
theorem ae5 (b:Nat) (v:S4) (n:Int) (rest:Value) (rl:Ly) (s:Value) (l:Ly) (w:World) (hT:ck w b (v.cells n rest) 216) (hO:Own w 5 1 rest rl.length (rl.map b8)) (hr:rl.length<8) (hB:By w s l) (hA:Apart s l (b :: (ah rest).toList)) (hn:0≤n) (hn2:n+l.length≤4611686018427387904) :
  Calls Zp 100 #[.pointer (some ⟨b,0,none⟩),s] w fun e w'=>e = .returned (.tuple #[])∧∃rest',Md (b :: (ah rest).toList) w w'∧ck w' b ((kS v (rl ++ l)).1.cells (n+l.length) rest') 216∧Own w' 5 1 rest' (kS v (rl ++ l)).2.length ((kS v (rl ++ l)).2.map b8)∧(∀g,ah rest'=some g→ah rest=some g∨w.heap.size≤g):=by
 have M:=Md.refl (b :: (ah rest).toList) w;refine enter (n:=67) Tryz.func100 q q q fun B=>nm q (sn q (sf q EV (st _ (aC q jA hT q) (mv q (sL q iC hB.eJ (st _ (gh q q Oh) (sn q (sf q EV (bN q q jA q hT (lB q) ?_)))))))));have D:=hT;clear hT;intro S A hT;replace hO:=hO.sZ D q A;replace M:=M.jj A Oq;refine nt (bF ?_);refine kL (X:=S4 × Value × List UInt8 × Value × List UInt8) (fun x=>[(0,.pointer (some ⟨b,0,none⟩)),(1,x.2.2.2.1)]) (fun x w'=>Md (b :: (ah rest).toList) w w'∧ck w' b (x.1.cells (n+l.length) x.2.1) 216∧Own w' 5 1 x.2.1 x.2.2.1.length (x.2.2.1.map b8)∧By w x.2.2.2.1 x.2.2.2.2∧Apart x.2.2.2.1 x.2.2.2.2 (b :: (ah rest).toList)∧x.2.2.1.length<8∧kS x.1 (x.2.2.1 ++ x.2.2.2.2)=kS v (rl ++ l)∧(∀g,ah x.2.1=some g→ah rest=some g∨w.heap.size≤g)∧x.2.2.2.2.length≤l.length) (fun x=>x.2.2.2.2.length) (v,rest,rl,s,l) ?_ ?_ ?_
 ·exact⟨q,q,tV⟩
 ·exact⟨M,hT,hO,hB,hA,hr,q,fun _ h=>.inl h,Nat.le_refl _⟩
 clear M
 clear hT hO hB hA hr;rintro x B T ⟨M,hT,hO,hB,hA,hr,C,J,R⟩;refine aP (nm q (sL q iC hB.eJ (st _ (wE q q) (nt ?_))));refine cA q (fun H=>?_) (fun H=>?_)
 ·(have K:=dT H);refine bh (au (bF (nm q (sn q (sf q oM (st _ (aC q gC hT q) (st _ (jq q iC (By.sD hO).eJ) (st _ (lC q q Oh) (mv q (sL q iC hB.eJ (st _ ((aht q q).ki (al8 _ _ hr)) (d9 q ?_))))))))))));refine nt (aP (HO [(0,true),(1,true),(2,true),(3,true),(5,true),(6,true),(7,true),(4,false),(8,false),(9,true),(10,true),(11,false)] (fun w'=>True) eC Ym ?_));intro U A;obtain⟨hT,hO,M⟩:=k3 A hT hO M;refine⟨trivial,?_⟩;refine m _ (fun w' F=>bf q) (m _ (fun w' F=>bf q) (m _ (fun w' F=>dr q) (m _ (fun w' F=>aL q oM) (m _ (fun w' F=>bf q) (m _ (fun w' F=>bf q) (m _ (fun w' F=>pH 0 (min (8-x.2.2.1.length) x.2.2.2.2.length) iC pS q hB.eJ Oh Oh q ⟨_,q⟩) ?_))))));refine mV ?_ rfl;refine st _ (aC q gC hT q) ?_;refine aH ⟨q,trivial,?_⟩;refine mV ?_ rfl;refine UI iC kC q q hO ((hB.md M hA).head (min (8-x.2.2.1.length) x.2.2.2.2.length) Oh) Vw ?_;intro P V L A _ O;have Q:=M;replace hT:=hT.mdO hO q A;replace M:=M.eD A (fun b h=>(J b h).imp (fun h=>by simp[h]) id);have G:∀b,ah P=some b→ah rest=some b∨w.heap.size≤b:=fun b h=>(O b h).elim (fun h=>J b h) (fun h=>.inr (ly Q.size h));replace hO:=L;clear L;refine aH ⟨q,trivial,?_⟩;refine m _ (fun w' F=>dr q) (m _ (fun w' F=>aL q oM) ?_);refine mV ?_ rfl;refine bN q q gC (Sl.cg (By.sD hO)) hT (lB q) ?_;have D:=hT;clear hT;intro W A hT;replace hO:=hO.sZ D q A;replace M:=M.jj A Oq;refine aH ⟨q,trivial,?_⟩;refine ec (au (ns (m2 q q (st _ (pH (min (8-x.2.2.1.length) x.2.2.2.2.length) x.2.2.2.2.length iC pS q hB.eJ Oh Oh ⟨_,q⟩ q) ?_))))
  refine an q (nm q (sn q (sf q oM (st _ (aC q gC hT q) (st _ (jq q iC (By.sD hO).eJ) (st _ (ny q q) (nt ?_)))))));refine cA q (fun I=>?_) (fun I=>?_)
  ·(have E:=dT I);refine nm q (sn q (sf q oM (st _ (aC q gC hT q) (ax yo q (wu _ _ 0 8 _ (By.sD hO) Om Om Oh) ?_))));rintro e _ ⟨rfl,rfl⟩;refine rv ?_;refine mv q (se q q (se q q (d9 q (an q (ns (m2 q q (ax ahc q (KE b x.1 _ _ _ _ hT) ?_)))))));have D:=hT;clear hT;rintro e Y ⟨rfl,A,hT⟩;refine rv ?_;replace hO:=hO.sZ D q A;replace M:=M.jj A Oq;refine nt (aQ (m2 q q (sn q (sf q oM (st _ (aC q gC hT q) (st _ (pH 0 0 iC pS q (By.sD hO).eJ Oh Oh q ⟨_,q⟩) (sn q (sf q oM (bN q q gC (Sl.cg ((By.sD hO).head 0 (Nat.zero_le _))) hT (lB q) ?_)))))))));have D:=hT;clear hT;intro Z A hT;replace hO:=hO.sZ D q A;replace M:=M.jj A Oq;refine aH (bW (au (next ((pJ x.1 (jk (((x.2.2.1 ++ x.2.2.2.2.take (min (8-x.2.2.1.length) x.2.2.2.2.length)).drop 0).take 8)),p7 P 0 0,[],p7 x.2.2.2.1 (min (8-x.2.2.1.length) x.2.2.2.2.length) x.2.2.2.2.length,x.2.2.2.2.drop (min (8-x.2.2.1.length) x.2.2.2.2.length))) Vw ⟨q,q,tV⟩ ?_)));refine⟨M,hT,hO.akP,hB.tail _ Oh,hA.tail _,by simp,?_,fun b h=>G b (RH h),by simp;omega⟩;rw[← C];exact(aaS _ _ _ hr (by simp at E;omega)).symm
  (have E:=dF I);refine bh (bW (au (next ((x.1,P,x.2.2.1 ++ x.2.2.2.2.take (min (8-x.2.2.1.length) x.2.2.2.2.length),p7 x.2.2.2.1 (min (8-x.2.2.1.length) x.2.2.2.2.length) x.2.2.2.2.length,x.2.2.2.2.drop (min (8-x.2.2.1.length) x.2.2.2.2.length))) Vw ⟨q,q,tV⟩ ?_)));refine⟨M,hT,hO,hB.tail _ Oh,hA.tail _,by simp at E ⊢;omega,?_,G,by simp;omega⟩;rw[← C];exact(aaT _ _ _ _).symm
 (have K:=dF H);refine dW (bU (bU (eS ?_)));have N:x.2.2.2.2=[]:=List.eq_nil_of_length_eq_zero Oh;rw[N,List.append_nil,qP _ _ hr]at C;refine aan trivial q ⟨q,x.2.1,M,?_,?_,J⟩
 ·rw[← C];exact hT
 rw[← C];exact hO
theorem aaF (b:Nat) (v:S4) (n:Int) (rest:Value) (rl:Ly) (w:World) (hT:ck w b (v.cells n rest) 216) (hO:Own w 5 1 rest rl.length (rl.map b8)) (hr:rl.length<8) (hn:0≤n) :
  Calls Zp 101 #[.pointer (some ⟨b,0,none⟩)] w fun e w'=>e = .returned (.int .u64 (FW v rl n))∧Md [] w w':=by
 have M:=Md.refl [] w;refine enter (n:=59) Tryz.func101 q q q fun B=>ns (an q (ns (cw alN ?_)));intro K X N V A E;have Q:b≠K:=(by have:=hT.lt;omega);replace N:=ly M.size N;obtain⟨hT,hO,M⟩:=k3 A hT hO M;refine nt (aP (HO [(0,true),(1,true),(2,true),(3,true),(4,false),(5,false)] (fun w'=>True) eC Ym ?_));intro Y A;obtain⟨hT,hO,E,M⟩:=k4 A hT hO E M;refine⟨trivial,?_⟩;refine m _ (fun w' C=>ig aiX pS q Om) (m _ (fun w' C=>bf q) (m _ (fun w' C=>dr q) (m _ (fun w' C=>aL q oM) ?_)));refine mV ?_ rfl;refine st _ (aC q gC hT q) ?_;refine aH ⟨q,trivial,?_⟩;refine mV ?_ rfl;refine BA iC pS q q E (By.sD hO) (yN _) Vw ?_;have O:=E;clear E;intro U A E;replace hT:=hT.sZ A Oh;replace M:=M.fW A N;refine aH ⟨q,trivial,?_⟩;refine ec ?_;replace E:ck U K ((tc 8 rl).map b8) 217:=(by rw[← FY (m:=8) Oh];exact E);refine au (nm q (sn q (sf q EV (st _ (aC q jA hT q) (st _ (jB (by rw[u3];rfl) u5 q) (st _ (gE q q aiX pS Oh) (bN q q zQ q E (by rw[List.length_map,rP 8 rl Oh];decide) ?_)))))));have O:=E;clear E;intro S A E;replace hT:=hT.sZ A Oh;replace M:=M.fW A N;refine aH ?_;replace E:ck S K ((kT rl n).map b8) 217:=(by rw[← HC rl n hn];exact E);refine au (ns (st _ (ig aiX pS q Om) (ax yo q (wu _ (kT rl n) 0 8 _ (By.e5 E (uH rl n Oh) Om) Om Om (by rw[uH rl n Oh];decide)) ?_)));rintro e _ ⟨rfl,rfl⟩;refine rv ?_;refine mv q (se q q ?_)
 refine se q q (d9 q (an q (aP ?_)));have F:=hT;refine HO [(0,true),(1,true),(2,true),(3,true),(4,true),(5,true),(6,true),(7,true),(8,true),(9,true),(10,true),(11,true),(12,true),(13,true),(14,true),(15,true),(16,true),(17,false),(18,false)] (fun w'=>Md [] S w') eC Ym ?_;intro Z A;have G:=A;obtain⟨hT,E,M⟩:=k3 A hT E M;refine⟨G,?_⟩;refine m _ (fun w' C=>bf q) (m _ (fun w' C=>dr q) (m _ (fun w' C=>aL q rK) (m _ (fun w' C=>aC q bA (F.o C) q) (m _ (fun w' C=>bf q) (m _ (fun w' C=>dr q) (m _ (fun w' C=>aL q xB) (m _ (fun w' C=>aC q bA (F.o C) q) (m _ (fun w' C=>bf q) (m _ (fun w' C=>dr q) (m _ (fun w' C=>aL q rM) (m _ (fun w' C=>aC q bA (F.o C) q) (m _ (fun w' C=>bf q) (m _ (fun w' C=>dr q) ?_)))))))))))));refine m _ (fun w' C=>aL q rO) (m _ (fun w' C=>aC q bA (F.o C) q) (m (.agg [_,_,_,_,_,_].toArray) (fun w' C=>nL (ps:=[(0,0),(1,1),(2,2),(3,3)]) aiZ ahr q q ⟨q,q,q,q,tV⟩ q q q) ?_));refine mV ?_ rfl;refine cw aiZ ?_;intro L a H W A D;have R:b≠L:=(by have:=hT.lt;omega);have P:K≠L:=(by have:=E.lt;omega);have J:=ly G.size H;replace H:=ly M.size H;obtain⟨G,M⟩:=k2 A G M;refine aH ⟨q,G,?_⟩;refine mV ?_ rfl;refine iL q q (by exact ah0) (by simp[Value.oneCell']) D (by rfl) ?_;have I:=D;clear D;intro c A D;replace G:=G.fW A J;replace M:=M.fW A H;refine aH ⟨q,G,?_⟩;refine ec (au (nm q (ax ahc q (KE L v 0 _ _ _ D) ?_)))
 have I:=D;clear D;rintro e d ⟨rfl,A,D⟩;refine rv ?_;replace M:=M.fW A H;refine nt (ns (sf q rM (st _ (aC q bA D q) (st _ (gg q q) (sf q rM (bN q q bA q D (lB q) ?_))))));have I:=D;clear D;intro f A D;replace M:=M.fW A H;refine aH ?_;replace D:=(aiJ _ 255 0 SN) ▸ D;refine au (ns (ax ahd q (UB L _ _ _ _ D) ?_));have I:=D;clear D;rintro e T ⟨rfl,A,D⟩;refine rv ?_;replace M:=M.fW A H;refine nt (ns (sf q rK (st _ (aC q bA D q) (sf q xB (st _ (aC q bA D q) (st _ (gg q q) (sf q rM (st _ (aC q bA D q) (st _ (gg q q) (sf q rO (st _ (aC q bA D q) (st _ (gg q q) (d9 q ?_)))))))))))));refine nt (iO ?_);exact j4 trivial q q ⟨q,M⟩
theorem agu (key:Ly) (s:Value) (l:Ly) (w:World) (hk:key.length=16) (hB:By w s l) (hl:l.length≤4611686018427387000) :
  Calls Zp 57 #[.agg (key.map b8).toArray,s] w fun e w'=>e = .returned (.int .u64 (sip key l))∧Md [] w w':=by
 have M:=Md.refl [] w;refine enter (n:=13) Tryz.func57 q q q fun B=>ns (gN q q ?_);intro P S J Q A K;replace J:=ly M.size J;replace M:=M.k A;refine an q (ns (st _ (ou q (by rw[(by simpa using hk:(key.map b8).length=16)];exact mZ) K) (ax al6 q (af7 key _ hk) ?_)));rintro e G ⟨I,rfl,D,R,A,N⟩;refine rv ?_;replace D:=ly M.size D;replace M:=M.k A;have L:Own G 5 1 SN ([]:Ly).length (([]:Ly).map b8):=Own.nil _ _ _;refine an q (ns (m2 q q (ax ajn q (ae5 I (qQ key) 0 SN [] s l _ N L Om (hB.o M) (NY hB D) Om Oh) ?_)));clear K;rintro e H ⟨rfl,C,A,F,E,O⟩;refine rv ?_;replace M:Md [] w H:=M.fW A D;clear N L;refine nt (nm q (ax ajo q (aaF I _ _ C _ _ F E (UE _ _ _ (Nat.le_refl _)) Oh) ?_));rintro e T ⟨rfl,A⟩;refine rv ?_;replace M:=M.k A;refine ar q ?_;exact j4 trivial q q ⟨zU (by simp[sip]),M⟩
theorem aiv (k:Bool) (key:Ly) (s:Value) (l:Ly) (w:World) (hk:key.length=16) (hB:By w s l) (hl:l.length≤4611686018427387000) :
  Calls Zp 28 #[.bool k,.agg (key.map b8).toArray,s] w fun e w'=>e = .returned (.int .u64 (if k then sip key l else lookup l))∧Md [] w w':=by
 have M:=Md.refl [] w;refine enter (n:=13) Tryz.func28 q q q fun B=>ns (gN q q ?_);intro G I E H A F;replace E:=ly M.size E;replace M:=M.k A;refine an q (aP (nm q (nt ?_)));refine cA q (fun C=>?_) (fun C=>?_)
 ·(have D:=C);refine ns (st _ (ou q (by rw[(by simpa using hk:(key.map b8).length=16)];exact mZ) F) (mv q (ax alo q (agu key s l _ hk (hB.o M) hl) ?_)));rintro e J ⟨rfl,A⟩;refine rv ?_;replace M:=M.k A;refine ar q (aX ?_);exact j4 trivial q q ⟨zU (by simp_all),M⟩
 (have D:=C);refine bh (au (nm q (ax ajQ q (EF s l _ (hB.o M)) ?_)));rintro e K ⟨rfl,A⟩;refine rv ?_;replace M:=M.k A;refine ar q ?_;exact j4 trivial q q ⟨zU (by simp_all),M⟩
theorem uU (v:Value) (l:Ly) (a:Int) (w:World) (hB:By w v l) (ha:0≤a) (ha2:a≤4611686018427387000) :
  Calls Zp 135 #[v,.int .i64 a] w fun e w'=>e = .returned (.int .u64 (vz l a.toNat))∧w=w':=by
 have A:=hB.gm;have M:=Md.refl [] w;refine enter (n:=16) Tryz.func135 q q q fun B=>ns (an q (ns (m2 q q (ax zv q (oP _ _ _ _ (hB.o M) Oh Oh) ?_))));rintro e _ ⟨rfl,rfl⟩;refine rv ?_;refine st _ (jB (by rw[iH];rfl) mE q) (m2 q q (st _ (gh q q Oh) (ax zv q (oP _ _ _ _ (hB.o M) Oh Oh) ?_)));rintro e _ ⟨rfl,rfl⟩;refine rv ?_;refine st _ (jB (by rw[iH];rfl) mE q) (st _ (qN q q Oh) (st _ (yT q q) (ar q ?_)));exact j4 trivial q q ⟨zU (ab7 l a ha),q⟩
theorem zK (v:S4) (t:Int) (w:World) (ht:0≤t) (ht2:t≤100) :
  Calls Zp 136 #[.agg v.arr.toArray,.int .i64 t] w fun e w'=>e = .returned (.agg (fJ t.toNat v).arr.toArray)∧Md [] w w':=by
 have M:=Md.refl [] w;refine enter (n:=64) Tryz.func136 q q q fun B=>ns (gN q q ?_);intro L Q I P C D;replace I:=ly M.size I;replace M:=M.k C;refine cw agE ?_;intro G K H O C A;have J:L≠G:=(by have:=D.lt;omega);replace H:=ly M.size H;obtain⟨D,M⟩:=k2 C D M;refine nt (aP (AE (fun w'=>Md [] K w') eC Ym (Md.drew K) (qz _ (fun w' m=>gE q q tu fB Oh) (qz _ (fun w' m=>aC q bA (D.o m) q) (qz _ (fun w' m=>gE q q tu fB Oh) (qz _ (fun w' m=>aC q bA (D.o m) q) (qz _ (fun w' m=>gE q q tu fB Oh) (qz _ (fun w' m=>aC q bA (D.o m) q) (qz _ (fun w' m=>gE q q tu fB Oh) (qz _ (fun w' m=>aC q bA (D.o m) q) (qz _ (fun w' m=>eK q) (qz _ (fun w' m=>eK q) (qz _ (fun w' m=>eK q) ?_)))))))))))));refine qz _ (fun w' m=>eK q) (XK ?_);intro R C;obtain⟨A,M⟩:=k2 C A M;refine au (aP (ns (an q (bF ?_))));refine kL (X:=Nat) (fun k=>[(1,.int .i64 t),(4,.pointer (some ⟨G,0,none⟩)),(5,.int .u64 (fJ k v).p),(6,.int .u64 (fJ k v).q),(7,.int .u64 (fJ k v).r),(8,.int .u64 (fJ k v).s),(9,.int .i64 k)]) (fun k w'=>Md [] w w'∧ck w' G [.int .u64 0,.int .u64 0,.int .u64 0,.int .u64 0] 225∧(k:Int)≤t) (fun k=>(t-k).toNat) 0 ?_ ?_ ?_
 ·exact⟨q,q,q,q,q,q,q,tV⟩
 ·exact⟨M,A,ht⟩
 clear M
 clear A D;rintro k B S ⟨M,A,hk⟩;refine aP (ns (m2 q q (st _ (rT q q) (nt ?_))));refine cA q (fun E=>?_) (fun E=>?_)
 ·(have F:=dT E);refine bh (au (aP (bF (ns (m2 q q (st _ (js q q) (an q (nm q (ax IJ q (yZ _ _ _ Om Om) ?_)))))))));rintro e _ ⟨rfl,rfl⟩;refine rv ?_;refine an q (ns (m2 q q (st _ (gg q q) (d9 q (nt (nm q (ax IJ q (yZ _ _ _ Om Om) ?_)))))));rintro e _ ⟨rfl,rfl⟩;refine rv ?_;refine an q (ns (m2 q q (st _ (js q q) (d9 q (nt (nm q (ax IJ q (yZ _ _ _ Om Om) ?_)))))));rintro e _ ⟨rfl,rfl⟩;refine rv ?_;refine an q (ns (m2 q q (st _ (gg q q) (d9 q (nt (nm q (mv q (st _ (js q q) (d9 q (nt ?_))))))))));refine nm q (ax IJ q (yZ _ _ _ Om Om) ?_);rintro e _ ⟨rfl,rfl⟩;refine rv ?_;refine an q (ns (m2 q q (st _ (gg q q) (d9 q (nt (nm q (mv q (st _ (js q q) (d9 q ?_)))))))))
  refine nt (nm q (ax IJ q (yZ _ _ _ Om Om) ?_));rintro e _ ⟨rfl,rfl⟩;refine rv ?_;refine an q (ns (m2 q q (st _ (gg q q) (d9 q (nt (aQ (mv q (ax IJ q (yZ _ _ _ Om Om) ?_))))))));rintro e _ ⟨rfl,rfl⟩;refine rv ?_;refine d9 q (aH (bW (au (aQ (mv q (st _ (gh q q Oh) (an q (next (k+1) Oh ⟨q,q,q,q,q,q,q,tV⟩ ?_))))))));exact⟨M,A,by omega⟩
 (have F:=dF E);refine dW (bU (bU (eS (au (ns (m2 q q (mv q (mv q (st (.agg [_,_,_,_].toArray) (nL (ps:=[(0,0),(1,1),(2,2),(3,3)]) agE ahs q q ⟨q,q,q,q,tV⟩ q q q) (iL q q (by exact sd) (by simp[Value.oneCell']) A (by rfl) ?_))))))))));have N:=A;clear A;intro T C A;replace M:=M.fW C H;refine nt (iO ?_);obtain rfl:(k:Int)=t:=Oh;exact akC trivial q q (by exact sd) A ⟨q,M⟩
theorem xN (v:S4) (w:World):Calls Zp 136 #[.agg v.arr.toArray,.int .i64 2] w fun e w'=>e = .returned (.agg (fJ 2 v).arr.toArray)∧Md [] w w' :=
 zK v 2 w Om Om
theorem NA (v:S4) (w:World):Calls Zp 136 #[.agg v.arr.toArray,.int .i64 4] w fun e w'=>e = .returned (.agg (fJ 4 v).arr.toArray)∧Md [] w w' :=
 zK v 4 w Om Om
theorem adV (key:Ly) (s:Value) (l:Ly) (w:World) (hk:key.length=16) (hB:By w s l) (hl:l.length≤4611686018427387000) :
  Calls Zp 113 #[.agg (key.map b8).toArray,s] w fun e w'=>e = .returned (.int .u64 (sip key l))∧Md [] w w':=by
 have P:=hB.gm;have M:=Md.refl [] w;refine enter (n:=84) Tryz.func113 q q q fun B=>ns (gN q q ?_);intro R S O b C H;replace O:=ly M.size O;replace M:=M.k C;refine an q (aP (HO [(0,true),(2,true),(1,false),(3,false),(4,true),(5,true)] (fun w'=>Md [] S w') eC Ym ?_));intro d C;have J:=C;obtain⟨H,M⟩:=k2 C H M;refine⟨J,?_⟩;refine m _ (fun w' L=>ig u34 pS q Om) (m _ (fun w' L=>ig u34 pS q Om) ?_);refine mV ?_ rfl;refine ax VT q (uU _ key 0 _ (By.e5 H hk Om) Om Om) ?_;rintro e _ ⟨rfl,rfl⟩;refine rv ?_;refine aH ⟨q,J,?_⟩;refine mV ?_ rfl;refine ax VT q (uU _ key 8 _ (By.e5 H hk Om) Om Om) ?_;rintro e _ ⟨rfl,rfl⟩;refine rv ?_;refine aH ⟨q,J,?_⟩;refine m _ (fun w' L=>eK q) (m _ (fun w' L=>eK q) (ec (au (nm q (st _ (gg q q) (mv q (st _ (gg q q) (mv q (st _ (gg q q) (mv q (st _ (gg q q) (st (.agg [_,_,_,_].toArray) (nL (ps:=[(0,0),(1,1),(2,2),(3,3)]) agE ahs q q ⟨q,q,q,q,tV⟩ q q q) ?_))))))))))));refine cw agE ?_;intro K f E c C A;have Q:R≠K:=(by have:=H.lt;omega);replace E:=ly M.size E;replace M:=M.k C;refine iL q q (by exact sd) (by simp[Value.oneCell']) A (by rfl) ?_;have D:=A;clear A;intro g C A;replace M:=M.fW C E;refine nt (ns (an q (aP (bF ?_))));refine kL (X:=S4 × Nat) (fun x=>[(1,s),(7,.pointer (some ⟨K,0,none⟩)),(8,.int .i64 x.2)]) (fun x w'=>Md [] w w'∧ck w' K x.1.arr 225∧x.2≤l.length∧kS x.1 (l.drop x.2)=kS (qQ key) l) (fun x=>l.length-x.2) (qQ key,0) ?_ ?_ ?_
 ·exact⟨q,q,q,tV⟩
 ·refine⟨M,?_,Nat.zero_le _,q⟩
  rw[Rz key hk];exact A
 clear M
 clear A H;rintro x B h ⟨M,A,N,F⟩;refine aP (nm q (st _ (gh q q Oh) (mv q (sL q iC hB.eJ (st _ (xL q q) (nt ?_))))));refine cA q (fun G=>?_) (fun G=>?_)
 ·(have I:=dT G);refine bh (au (bF (ns (m2 q q (ax VT q (uU s l _ _ (hB.o M) Oh Oh) ?_)))));rintro e _ ⟨rfl,rfl⟩;refine rv ?_;refine an q (ns (st _ (gE q q tu fB Oh) (st _ (aC q bA A q) (mv q (st _ (gg q q) (st _ (gE q q tu fB Oh) (bN q q bA q A (lB q) ?_)))))));have D:=A;clear A;intro i C A;replace M:=M.fW C E;refine aH ?_;replace A:=(abb _ (vz l (x.2:Int).toNat)) ▸ A;refine au (ns (st _ (ou q (by exact sd) A) (ax abR q (xN _ _) ?_)));rintro e j ⟨rfl,C⟩;refine rv ?_;obtain⟨A,M⟩:=k2 C A M;refine iL q q (by exact sd) (S4.KQ _) A (by rw[S4.uN,S4.uN]) ?_;have D:=A;clear A;intro k C A;replace M:=M.fW C E;refine nt (ns (st _ (gE q q tu fB Oh) (st _ (aC q bA A q) (mv q (st _ (gg q q) (st _ (gE q q tu fB Oh) (bN q q bA q A (lB q) ?_)))))));have D:=A;clear A;intro o C A;replace M:=M.fW C E;refine aH ?_;replace A:=(aaZ _ (vz l (x.2:Int).toNat)) ▸ A;refine au (aQ (mv q (st _ (gh q q Oh) (d9 q (aH (bW (au (next ((pJ x.1 (jk ((l.drop x.2).take 8)),x.2+8)) Vw ⟨q,q,fq q Oq,tV⟩ ?_))))))));refine⟨M,?_,by simp;omega,?_⟩
  ·unfold pJ;rw[wZ l x.2 Oh];exact A
  rw[← F,uG _ (l.drop x.2) Vw,List.drop_drop]
 (have I:=dF G);refine dW (bU (bU (eS (au (ns (m2 q q (ax VT q (uU s l _ _ (hB.o M) Oh Oh) ?_)))))));rintro e _ ⟨rfl,rfl⟩;refine rv ?_;refine mv q (sL q iC hB.eJ (st _ (adL q q Oh) (st _ (jB (by rw[u3];rfl) mE q) (st _ (qN q q Oh) (st _ (yT q q) (an q (ns (st _ (gE q q tu fB Oh) (st _ (aC q bA A q) (mv q (st _ (gg q q) (st _ (gE q q tu fB Oh) ?_))))))))))));refine bN q q bA q A (lB q) ?_;have D:=A;clear A;intro T C A;replace M:=M.fW C E;refine aH ?_;replace A:=(abb _ _) ▸ A;refine au (ns (st _ (ou q (by exact sd) A) (ax abR q (xN _ _) ?_)));rintro e U ⟨rfl,C⟩;refine rv ?_;obtain⟨A,M⟩:=k2 C A M;refine iL q q (by exact sd) (S4.KQ _) A (by rw[S4.uN,S4.uN]) ?_;have D:=A;clear A;intro V C A;replace M:=M.fW C E;refine nt (ns (st _ (gE q q tu fB Oh) (st _ (aC q bA A q) (mv q (st _ (gg q q) (st _ (gE q q tu fB Oh) (bN q q bA q A (lB q) ?_)))))));have D:=A;clear A;intro W C A;replace M:=M.fW C E;refine aH ?_;replace A:=(aaZ _ _) ▸ A;refine au (ns (st _ (gE q q tu fB Oh) (st _ (aC q bA A q) (st _ (gg q q) (st _ (gE q q tu fB Oh) (bN q q bA q A (lB q) ?_))))));have D:=A;clear A;intro Y C A;replace M:=M.fW C E
 refine aH ?_;replace A:=(ah4 _ 255) ▸ A;refine au (ns (st _ (ou q (by exact sd) A) (ax abR q (NA _ _) ?_)));rintro e Z ⟨rfl,C⟩;refine rv ?_;obtain⟨A,M⟩:=k2 C A M;refine iL q q (by exact sd) (S4.KQ _) A (by rw[S4.uN,S4.uN]) ?_;have D:=A;clear A;intro a C A;replace M:=M.fW C E;refine nt (ns (st _ (gE q q tu fB Oh) (st _ (aC q bA A q) (st _ (gE q q tu fB Oh) (st _ (aC q bA A q) (st _ (gg q q) (st _ (gE q q tu fB Oh) (st _ (aC q bA A q) (st _ (gg q q) (st _ (gE q q tu fB Oh) (st _ (aC q bA A q) (st _ (gg q q) (d9 q ?_)))))))))))));refine nt (iO ?_);rw[qP _ _ Vw]at F;exact j4 trivial q q ⟨zU (by rw[sip,← F];exact adW l x.1 x.2 N Oh),M⟩
theorem agn (k:Bool) (key:Ly) (s:Value) (l:Ly) (w:World) (hk:key.length=16) (hB:By w s l) (hl:l.length≤4611686018427387000) :
  Calls Zp 65 #[.bool k,.agg (key.map b8).toArray,s] w fun e w'=>e = .returned (.int .u64 (if k then sip key l else lookup l))∧Md [] w w':=by
 have M:=Md.refl [] w;refine enter (n:=13) Tryz.func65 q q q fun B=>ns (gN q q ?_);intro G I E H D F;replace E:=ly M.size E;replace M:=M.k D;refine an q (aP (nm q (nt ?_)));refine cA q (fun A=>?_) (fun A=>?_)
 ·(have C:=A);refine ns (st _ (ou q (by rw[(by simpa using hk:(key.map b8).length=16)];exact mZ) F) (mv q (ax ajx q (adV key s l _ hk (hB.o M) hl) ?_)));rintro e J ⟨rfl,D⟩;refine rv ?_;replace M:=M.k D;refine ar q (aX ?_);exact j4 trivial q q ⟨zU (by simp_all),M⟩
 (have C:=A);refine bh (au (nm q (ax agX q (zI s l _ (hB.o M) hl) ?_)));rintro e _ ⟨rfl,rfl⟩;refine rv ?_;refine ar q ?_;exact j4 trivial q q ⟨zU (by simp_all),M⟩
theorem afo (uQ:Up w Q) (k:Bool) (key:Ly) (a1:key.length=16) {v2:Value} {l:Ly} (h2:Ls fI w Q v2 l) (p0:l.length≤4611686018427387000) :
  Calls Zp 28 #[.bool k,.agg (jS key).toArray,v2] w fun en w'=>∃r0:Nat,en = .returned (.int .u64 r0)∧Md [] w w'∧r0<18446744073709551616∧eu k key l=r0:=by
 rw[pD a1];refine(aiv k key v2 l w a1 h2.by p0).mono fun en w' ⟨he,hm⟩=>⟨eu k key l,by rw[he,DJ],hm,DK k key l,q⟩
theorem MW (uQ:Up w Q) (k:Bool) (key:Ly) (a1:key.length=16) {v2:Value} {l:Ly} (h2:Ls fI w Q v2 l) (p0:l.length≤4611686018427387000) :
  Calls Zp 65 #[.bool k,.agg (jS key).toArray,v2] w fun en w'=>∃r0:Nat,en = .returned (.int .u64 r0)∧Md [] w w'∧r0<18446744073709551616∧eu k key l=r0:=by
 rw[pD a1];refine(agn k key v2 l w a1 h2.by p0).mono fun en w' ⟨he,hm⟩=>⟨eu k key l,by rw[he,DJ],hm,DK k key l,q⟩
theorem YZ (uQ:Up w Q) {v0:Value} {l:Ly} (h0:Ls fI w Q v0 l) (p0:l.length≤4611686018427387000) :
  Calls Zp 58 #[v0] w fun en w'=>∃r0:Nat,en = .returned (.int .u64 r0)∧Md [] w w'∧r0<18446744073709551616∧rC l=r0:=by
 refine(EF _ _ w h0.by).mono fun en w' ⟨he,hm⟩=>⟨rC l,by rw[he,PW],hm,ED l,q⟩
theorem aac (uQ:Up w Q) {v0:Value} {l:Ly} (h0:Ls fI w Q v0 l) (p0:l.length≤4611686018427387000) :
  Calls Zp 114 #[v0] w fun en w'=>∃r0:Nat,en = .returned (.int .u64 r0)∧Md [] w w'∧r0<18446744073709551616∧rC l=r0:=by
 refine(zI _ _ w h0.by p0).mono fun en w' ⟨he,hm⟩=>⟨rC l,by rw[he,PW],(hm ▸ Md.refl [] w),ED l,q⟩
theorem akZ:dZ Zp 28=true:=Ym
theorem KG (uQ:Up w Q) {v0:Value} {v:eW} (h0:Pt fE 73 w Q v0 v) {v1:Value} {l:Ly} (h1:Ls fI w Q v1 l) (p0:l.length≤4611686018427387000) :
  Calls Zp 14 #[v0,v1] w fun en w'=>∃r0:Nat,en = .returned (.int .u64 r0)∧Md [] w w'∧r0<18446744073709551616∧eu (decide (v.h.bX &&& 4≠0)) v.h.dh l=r0:=by
 have R:=h1.gm;obtain⟨K,L,rfl,G,h0,qo⟩:=h0;obtain⟨v1,rfl,H,N⟩:=eM qo;have M:=Md.refl [] w;have P:=uQ;refine enter (n:=19) Tryz.func14 q q q fun B=>ns (an q (aP ?_));have A:=h0;refine dX (ml 13) [13,14] (fun w'=>Md [] w w') eC Ym ?_;intro V D;refine⟨D.mono Oq,?_⟩;have J:=D.mono (T:=[]) Oq;refine mo q (mz (fun w' C=>dr q) (mz (fun w' C=>aL q qI) (mz (fun w' C=>aL q MB) (mz (fun w' C=>(aC q jo (A.o C) q).to (b:=(.int .u32 v.h.bX)) q) ?_))));have S:v.h.bX<4294967296:=H.2.1;refine mz (fun w' C=>ai5 (a:=v.h.bX) (b:=4) 4294967296 q q q q Oh) (mz (fun w' C=>eX (a:=(v.h.bX &&& 4)) (b:=0) q q) (mo q (mz (fun w' C=>dr q) (mz (fun w' C=>aL q qI) (mz (fun w' C=>aL q WT) (mz (fun w' C=>dc (jS v.h.dh) q (by exact mZ) (A.o C) q) ?_))))));have U:v.h.dh.length=16:=H.2.2.2.1;refine mo q (ec ?_);obtain⟨h1,uQ,M⟩:=k3 D h1 uQ M;clear A;clear J;refine ax akZ q (afo uQ (decide ((v.h.bX &&& 4)≠0)) v.h.dh Vv h1 Oh) ?_;rintro en W ⟨E,rfl,O,I,F⟩;refine rv ?_;replace M:=M.k O;refine ar q ?_;exact dP (v:=(.int .u64 E)) trivial q ⟨q,tV⟩ ⟨E,q,M,Vv,F⟩
theorem ku:gW Zp 112 7=true:=Ym
theorem aj4:dZ Zp 124=true:=Ym
theorem ajZ:dZ Zp 89=true:=Ym
theorem ahm:gV Zp 112=some [(0,1),(1,1),(2,1),(3,1),(4,1),(5,1),(6,1)]:=Ym
theorem zX:fR Zp 112=some (List.replicate 6 (.int .u64 0) ++ ([.slice none 0 0])):=Ym
abbrev BF:gQ:={cQ:=0,bT:=0,eH:=0,entry:=0,array:=0,bQ:=0,ak:=[]}
theorem GZ (uQ:Up w Q) {v0:Value} {b:Ly} (h0:Ls fI w Q v0 b) (p:Nat) (a1:p<18446744073709551616) (p0:b.length≤140737488355328) :
  Calls Zp 124 #[v0,(.int .u64 p)] w fun en w'=>∃u0_0:Value,∃r0:gQ,∃r1:Nat,en = .returned (.tuple #[.agg (gQ.cells r0 u0_0).toArray,(.int .i64 r1)])∧Md [] w w'∧gQ.ok r0∧Ls fI w' Q u0_0 r0.ak∧r1<9223372036854775808∧mP b p=(r0,r1):=by
 have L0:=h0.gm;have M:=Md.refl [] w;have Bg:=uQ;have tQ:∀b,Q b→Q b:=fun _ h=>h;refine enter (n:=40) Tryz.func124 q q q fun B=>ns (cw zX ?_);intro z w1 d Aq V A;obtain⟨Q2,sQ,sT,x,Ah⟩:=kM uQ d Aq V;replace tQ:=tT tQ sT;replace d:=ly M.size d;replace h0:=(h0.sub sQ).o V;replace M:=M.k V;replace uQ:=Ah;clear Ah sQ sT;have Z:cr [] w z:=.inr d;replace A:ck _ _ (gQ.cells (BF) SN) _:=A;have Aw:gQ.ok (BF):=(by exact⟨Om,Om,Om,Om,Om,Om⟩);refine an q (ns (m2 q q (ax ahb q (EN uQ h0 p Oh 1 Oh 6 Oh Oh Oh) ?_)));rintro en w4 ⟨F,H,G,I,c,rfl,V,D,E,Ax,Aa⟩;refine rv ?_;obtain⟨A,M⟩:=k2 V A M;refine mv q (se q q (se q q (se q q (d9 q (d9 q (an q (aP (nm q (st _ (eX (a:=c) (b:=0) q q) ?_)))))))))
 refine nt ?_;refine cA q (fun v=>?_) (fun v=>?_)
 ·(have W:=dT v);refine ns (st _ (dw (us:=[]) (cs:=(gQ.cells (BF) SN)) [] zX ahm q q trivial trivial q q) (mv q (aZ (us:=(gQ.cells (BF) SN)) q q (by exact ku) (by exact fun u hu=>bH (gQ.one q) u hu) A (lB q) ?_)));have X:=A;clear A;intro w5 V A;replace M:=M.step V (hI Z);clear X;replace A:ck _ _ (gQ.cells (BF) SN) _:=A;refine ar q (aX ?_);exact eA (vs:=[(.agg (gQ.cells (BF) SN).toArray),(.int .i64 c)]) trivial q ⟨⟨_,q,ew (cs:=(gQ.cells (BF) SN)) (by exact ku) A⟩,q,tV⟩ q ⟨_,(BF),c,q,M,Vv,(Ls.nil _ _ _),Vv,((wG Aa).1 W)⟩
 (have W:=dF v);refine bh (au (aP ?_));have rd:=(wG Aa).2 W;have C:=D;refine dX (ml 19) [19,20,21] (fun w'=>Md [] w4 w') eC Ym ?_;intro w6 Y;refine⟨Y.mono Oq,?_⟩;have MC:=Y.mono (T:=[]) Oq;refine mo q (mz (fun w' O=>bR (i:=0) 1 q q jh fB D.eJ Oh) ?_);obtain⟨g,Af⟩:=fM (l:=H) (i:=0) Oh;obtain⟨c8,Am,e⟩:=C.get Af;obtain⟨rfl,Au⟩:=Am;replace e:At _ F (0*1) [(.int .u64 g)]:=e;refine mz (fun w' O=>(dx (kk:=0*1) 0 q q bA (e.o O) q).to (b:=(.int .u64 g)) q) (mo q (mz (fun w' O=>bR (i:=1) 1 q q jh fB D.eJ Oh) ?_));obtain⟨j,Ag⟩:=fM (l:=H) (i:=1) Oh;obtain⟨Ba,Ao,f⟩:=C.get Ag;obtain⟨rfl,Av⟩:=Ao;replace f:At _ F (1*1) [(.int .u64 j)]:=f;refine mz (fun w' O=>(dx (kk:=1*1) 0 q q bA (f.o O) q).to (b:=(.int .u64 j)) q) (mo q (mz (fun w' O=>bR (i:=2) 1 q q jh fB D.eJ Oh) ?_));obtain⟨J,k⟩:=fM (l:=H) (i:=2) Oh;obtain⟨Bb,Ab,P⟩:=C.get k;obtain⟨rfl,Ai⟩:=Ab;replace P:At _ F (2*1) [(.int .u64 J)]:=P;refine mz (fun w' O=>(dx (kk:=2*1) 0 q q bA (P.o O) q).to (b:=(.int .u64 J)) q) (mo q (mz (fun w' O=>bR (i:=3) 1 q q jh fB D.eJ Oh) ?_));obtain⟨K,o⟩:=fM (l:=H) (i:=3) Oh;obtain⟨Bc,Ac,R⟩:=C.get o;obtain⟨rfl,Aj⟩:=Ac
 replace R:At _ F (3*1) [(.int .u64 K)]:=R;refine mz (fun w' O=>(dx (kk:=3*1) 0 q q bA (R.o O) q).to (b:=(.int .u64 K)) q) (mo q (mz (fun w' O=>bR (i:=4) 1 q q jh fB D.eJ Oh) ?_));obtain⟨L,r⟩:=fM (l:=H) (i:=4) Oh;obtain⟨Bd,Ad,S⟩:=C.get r;obtain⟨rfl,Ak⟩:=Ad;replace S:At _ F (4*1) [(.int .u64 L)]:=S;refine mz (fun w' O=>(dx (kk:=4*1) 0 q q bA (S.o O) q).to (b:=(.int .u64 L)) q) (mo q (mz (fun w' O=>bR (i:=5) 1 q q jh fB D.eJ Oh) ?_));obtain⟨N,t⟩:=fM (l:=H) (i:=5) Oh;obtain⟨Be,Ae,U⟩:=C.get t;obtain⟨rfl,Al⟩:=Ae;replace U:At _ F (5*1) [(.int .u64 N)]:=U;refine mz (fun w' O=>(dx (kk:=5*1) 0 q q bA (U.o O) q).to (b:=(.int .u64 N)) q) (mo q (ec ?_));obtain⟨A,E,M⟩:=k3 Y A E M;clear C;clear MC;refine st _ (dw (us:=[[(.int .u64 g)],[(.int .u64 j)],[(.int .u64 J)],[(.int .u64 K)],[(.int .u64 L)],[(.int .u64 N)],[G]]) (cs:=(gQ.cells (({cQ:=g,bT:=j,eH:=J,entry:=K,array:=L,bQ:=N,ak:=I}:gQ)) G)) [(0,0,1),(1,1,1),(2,2,1),(3,3,1),(4,4,1),(5,5,1),(6,6,1)] zX ahm q q ⟨q,q,q,q,q,q,(fU E.cg),tV⟩ ⟨q,q,q,q,q,q,q,tV⟩ q q) (aZ (us:=(gQ.cells (({cQ:=g,bT:=j,eH:=J,entry:=K,array:=L,bQ:=N,ak:=I}:gQ)) G)) q q (by exact ku) (by exact fun u hu=>bH (gQ.one E.cg) u hu) A (lB q) ?_);have X:=A;clear A;intro Bh V A
 have hS:∀b∈[z],¬Q2 b:=(hI x);replace E:=E.md V hS;replace M:=M.step V (hI Z);clear X hS;replace A:ck _ _ (gQ.cells (({cQ:=g,bT:=j,eH:=J,entry:=K,array:=L,bQ:=N,ak:=I}:gQ)) G) _:=A;refine d9 q (aH ?_);clear e;clear f;clear P;clear R;clear S;clear U;refine au (iO ?_);exact eA (vs:=[(.agg (gQ.cells (({cQ:=g,bT:=j,eH:=J,entry:=K,array:=L,bQ:=N,ak:=I}:gQ)) G).toArray),(.int .i64 ((0:Nat):Int))]) trivial q ⟨⟨_,q,ew (cs:=(gQ.cells (({cQ:=g,bT:=j,eH:=J,entry:=K,array:=L,bQ:=N,ak:=I}:gQ)) G)) (by exact ku) A⟩,q,tV⟩ q ⟨_,(({cQ:=g,bT:=j,eH:=J,entry:=K,array:=L,bQ:=N,ak:=I}:gQ)),0,q,M,(by exact⟨Oh,Oh,Oh,Oh,Oh,Oh⟩),(E.sub (fun b y _=>tQ b y)),Oh,(by rw[rd.2];simp only[List.getD_eq_getElem?_getD,Af,Ag,k,o,r,t];rfl)⟩
theorem KH (uQ:Up w Q) {v0:Value} {v:eW} (h0:Pt fE 73 w Q v0 v) (p:Nat) (a1:p<18446744073709551616) (p0:v.b.length≤140737488355328) :
  Calls Zp 89 #[v0,(.int .u64 p)] w fun en w'=>(∃u0_0:Value,∃r0:gQ,en = .returned (.agg (gQ.cells r0 u0_0).toArray)∧Md [] w w'∧gQ.ok r0∧Ls fI w' Q u0_0 r0.ak∧gB (v.h.n.getD 0 0) v.b p=(r0,0))∨∃cp:Nat,en = .panicked (FK (.iface 203 (.agg #[.int .i64 cp])))∧(cp≠0∧cp<9223372036854775808)∧Md [] w w'∧(gB (v.h.n.getD 0 0) v.b p).2=cp:=by
 obtain⟨e,Ad,rfl,N,h0,qo⟩:=h0;obtain⟨v1,rfl,q2,H⟩:=eM qo;have M:=Md.refl [] w;have Ag:=uQ;have k:∀b,Q b→Q b:=fun _ h=>h;refine enter (n:=22) Tryz.func89 q q q fun B=>ns (cw zX ?_);intro P w4 S y D C;have r:e≠P:=(by have:=h0.lt;omega);obtain⟨Q5,a,c,I,O⟩:=kM uQ S y D;replace N:=a _ N h0.lt;replace k:=tT k c;replace S:=ly M.size S;replace H:=(H.sub a).o D;obtain⟨h0,M⟩:=k2 D h0 M;replace uQ:=O;clear O a c;have Y:cr [] w P:=.inr S;replace C:ck _ _ (gQ.cells (BF) SN) _:=C;have Ab:gQ.ok (BF):=(by exact⟨Om,Om,Om,Om,Om,Om⟩);refine nt (ns (m2 q q (j8 afj q (qS uQ ⟨_,_,q,N,h0,dU q2 H⟩ p Oh) ?_)));rintro en w7 (⟨rfl,D,U⟩|⟨cp,rfl,V,D,U⟩)
 rotate_left
 ·exact .inr ⟨_,q,gT (Or.inr ⟨cp,q,V,M.k D,(ahE U V.1)⟩)⟩
 refine .inl ⟨_,q,?_⟩;obtain⟨H,h0,C,uQ,M⟩:=k5 D H h0 C uQ M;refine nt (nm q (sn q (sf q sF (sl (u:=v1) q gC h0 q (mv q (ax aj4 q (GZ uQ H p Oh Oh) ?_))))));rintro en w8 ⟨E,F,l,rfl,D,W,A,Ac,f⟩;refine rv ?_;obtain⟨h0,C,uQ,M⟩:=k4 D h0 C uQ M;refine mv q (se q q (se q q (cw zX ?_)));intro R w9 T z D G;have t:e≠R:=(by have:=h0.lt;omega);have o:P≠R:=(by have:=C.lt;omega);obtain⟨d,a,c,X,O⟩:=kM uQ T z D;replace I:=nQ I c;replace k:=tT k c;replace T:=ly M.size T;replace C:=C.o D;replace A:=(A.sub a).o D;replace M:=M.k D;replace uQ:=O;clear O a c;have Z:cr [] w R:=.inr T;replace G:ck _ _ (gQ.cells (BF) SN) _:=G;have Aa:gQ.ok (BF):=(by exact⟨Om,Om,Om,Om,Om,Om⟩);refine aZ (us:=(gQ.cells F E)) q q (by exact ku) (by exact fun u x=>bH (gQ.one A.cg) u x) G (lB q) ?_
 have j:=G;clear G;intro Ai D G;have g:∀b∈[R],¬d b:=(hI X);replace C:=C.md D Nv;replace A:=A.md D g;replace uQ:=uQ.md D;replace M:=M.step D (hI Z);clear j g;replace G:ck _ _ (gQ.cells F E) _:=G;refine an q (nm q (j8 abU q (rY uQ l Oh) ?_));rintro en Aj (⟨rfl,D,K⟩|⟨cp,rfl,V,D,K⟩)
 rotate_left
 ·exact .inr ⟨_,q,gT (Or.inr ⟨cp,q,V,M.k D,(by rw[ab2 U f];exact K)⟩)⟩
 refine .inl ⟨_,q,?_⟩;obtain⟨C,A,G,M⟩:=k4 D C A G M;refine nt (ns (st _ (dc (gQ.cells F E) q (by exact ku) G q) (aZ (us:=(gQ.cells F E)) q q (by exact ku) (by exact fun u x=>bH (gQ.one A.cg) u x) C (lB q) ?_)));have L:=A;have i:=C;clear C;intro Ak D C;have g:∀b∈[P],¬d b:=(hI I);replace L:=L.md D g;replace M:=M.step D (hI Y);clear i g;replace C:ck _ _ (gQ.cells F E) _:=C;refine nt (iO ?_);exact dP (v:=(.agg (gQ.cells F E).toArray)) trivial q ⟨⟨_,q,ew (cs:=(gQ.cells F E)) (by exact ku) C⟩,tV⟩ (Or.inl ⟨_,F,q,M,W,(L.sub (fun b J _=>k b J)),(by rw[ab2 U f,K])⟩)
theorem aaA (uQ:Up w Q) {v0:Value} {v:eW} (h0:Pt (tPt fE 73) 46 w Q v0 v) {v1:Value} {p:Nat} (h1:Pt dY 26 w Q v1 p) {b2:Nat} {v2_0:Value} (m:gQ) (h2:ck w b2 (gQ.cells m v2_0) 112) (n2:¬Q b2) (a2_0:gQ.ok m) (a2_1:Ls fI w Q v2_0 m.ak) (p0:v.b.length≤140737488355328) :
  Calls Zp 88 #[v0,v1,.pointer (some ⟨b2,0,none⟩)] w fun en w'=>(∃m29:gQ,∃u52_0:Value,en = .returned (.tuple #[])∧Md [b2] w w'∧ck w' b2 (gQ.cells m29 u52_0) 112∧¬Q b2∧gQ.ok m29∧Ls fI w' Q u52_0 m29.ak∧gB (v.h.n.getD 0 0) v.b p=(m29,0))∨∃cp:Nat,en = .panicked (FK (.iface 203 (.agg #[.int .i64 cp])))∧(cp≠0∧cp<9223372036854775808)∧Md [b2] w w'∧ck w' b2 (gQ.cells m v2_0) 112∧(gB (v.h.n.getD 0 0) v.b p).2=cp:=by
 obtain⟨V,g,rfl,L,h0,qo⟩:=h0;obtain⟨v1,rfl,Z⟩:=qo;obtain⟨W,i,rfl,N,h1,c⟩:=h1;obtain⟨rfl,f⟩:=c;have C:=n2;have P:cr [b2] w b2:=.inl Oq;have T:V≠b2:=fun h=>C (h ▸ L);have U:W≠b2:=fun h=>C (h ▸ N);have M:=Md.refl [b2] w;have o:=uQ;have l:∀b,Q b→Q b:=fun _ h=>h;refine enter (n:=6) Tryz.func88 q q q ?_;intro B;refine aQ (sl (u:=v1) q mN h0 q ?_);have J:=Z;obtain⟨K,d,rfl,E,J,R⟩:=J;obtain⟨r,rfl,k,a⟩:=eM R;have O:K≠b2:=fun h=>C (h ▸ E);refine sl (u:=(.int .u64 p)) q bA h1 q (j8 ajZ q (KH uQ ⟨_,_,q,E,J,dU k a⟩ p Oh Oh) ?_);rintro en t (⟨D,F,rfl,H,G,A,I⟩|⟨cp,rfl,Y,H,I⟩)
 rotate_left
 ·exact .inr ⟨_,q,gT (Or.inr ⟨cp,q,Y,M.k H,h2.o H,I⟩)⟩
 refine .inl ⟨_,q,?_⟩;obtain⟨h2,M⟩:=k2 H h2 M;refine aZ (us:=(gQ.cells F D)) q q (by exact ku) (by exact fun u j=>bH (gQ.one A.cg) u j) h2 (lB q) ?_;have X:=h2;clear h2;intro x H h2;have e:∀b∈[b2],¬Q b:=(hI C);replace A:=A.md H e;replace M:=M.step H (hI P);clear X e;replace h2:ck _ _ (gQ.cells F D) _:=h2;refine aH ?_;exact eA (vs:=[]) trivial q trivial q (Or.inl ⟨F,_,q,M,h2,n2,G,(A.sub (fun b S _=>l b S)),I⟩)
theorem ajD:dZ Zp 14=true:=Ym
theorem xo:bg Zp 112 0=some 0:=Ym
theorem xq:bg Zp 112 6=some 6:=Ym
theorem RI (uQ:Up w Q) {v0:Value} {v:eW} (h0:Pt fE 73 w Q v0 v) (p:Nat) (a1:p<18446744073709551616) (p0:v.b.length≤140737488355328) :
  Calls Zp 118 #[v0,(.int .u64 p)] w fun en w'=>(∃u0_0:Value,∃r0:gQ,en = .returned (.agg (gQ.cells r0 u0_0).toArray)∧Md [] w w'∧gQ.ok r0∧Ls fI w' Q u0_0 r0.ak∧iZ (decide (v.h.bX &&& 4≠0)) v.h.dh (v.h.n.getD 0 0) v.b p=(r0,0))∨∃cp:Nat,en = .panicked (FK (.iface 203 (.agg #[.int .i64 cp])))∧(cp≠0∧cp<9223372036854775808)∧Md [] w w'∧(iZ (decide (v.h.bX &&& 4≠0)) v.h.dh (v.h.n.getD 0 0) v.b p).2=cp:=by
 obtain⟨k,Am,rfl,I,h0,qo⟩:=h0;obtain⟨v1,rfl,q2,G⟩:=eM qo;have M:=Md.refl [] w;have Aq:=uQ;have y:∀b,Q b→Q b:=fun _ h=>h;refine enter (n:=19) Tryz.func118 q q q fun B=>ns (cw zX ?_);intro U w4 W Ae E D;have Ab:k≠U:=(by have:=h0.lt;omega);obtain⟨Q5,Z,j,N,S⟩:=kM uQ W Ae E;replace I:=Z _ I h0.lt;replace y:=tT y j;replace W:=ly M.size W;replace G:=(G.sub Z).o E;obtain⟨h0,M⟩:=k2 E h0 M;replace uQ:=S;clear S Z j;have e:cr [] w U:=.inr W;replace D:ck _ _ (gQ.cells (BF) SN) _:=D;have Ak:gQ.ok (BF):=(by exact⟨Om,Om,Om,Om,Om,Om⟩);refine nt (ns (m2 q q (j8 ajZ q (KH uQ ⟨_,_,q,I,h0,dU q2 G⟩ p Oh Oh) ?_)));rintro en w7 (⟨C,F,rfl,E,O,A,P⟩|⟨cp,rfl,x,E,P⟩)
 rotate_left
 ·exact .inr ⟨_,q,gT (Or.inr ⟨cp,q,x,M.k E,(ai3 P x.1)⟩)⟩
 refine .inl ⟨_,q,?_⟩;obtain⟨G,h0,D,uQ,M⟩:=k5 E G h0 D uQ M;refine cw zX ?_;intro V w8 X Af E H;have Ac:k≠V:=(by have:=h0.lt;omega);have Aa:U≠V:=(by have:=D.lt;omega);obtain⟨Q9,Z,j,d,S⟩:=kM uQ X Af E;replace I:=Z _ I h0.lt;replace N:=nQ N j;replace y:=tT y j;replace X:=ly M.size X;replace G:=(G.sub Z).o E;obtain⟨h0,D⟩:=k2 E h0 D;replace A:=(A.sub Z).o E;replace M:=M.k E;replace uQ:=S;clear S Z j;have f:cr [] w V:=.inr X;replace H:ck _ _ (gQ.cells (BF) SN) _:=H;have Ag:gQ.ok (BF):=(by exact⟨Om,Om,Om,Om,Om,Om⟩);refine aZ (us:=(gQ.cells F C)) q q (by exact ku) (by exact fun u hu=>bH (gQ.one A.cg) u hu) H (lB q) ?_;have r:=H;clear H;intro Ai E H;have i:∀b∈[V],¬Q9 b:=(hI d);replace G:=G.md E i;replace h0:=h0.md E Nv;replace D:=D.md E Nv;replace A:=A.md E i;replace uQ:=uQ.md E;replace M:=M.step E (hI f);clear r i;replace H:ck _ _ (gQ.cells F C) _:=H;refine nt (aP (aP ?_));have dl:=VI P
 have K:=H;refine dX [(0,true),(1,true),(2,true),(3,true),(4,true),(5,false)] [6] (fun w'=>Md [] Ai w') eC Ym ?_;intro Ar J;refine⟨J.mono Oq,?_⟩;have z:=J.mono (T:=[]) Oq;refine mz (fun w' t=>aL q xo) (mz (fun w' t=>(aC q bA (K.o t) q).to (b:=(.int .u64 F.cQ)) q) ?_);have Ap:F.cQ<18446744073709551616:=O.1;refine mo q (mz (fun w' t=>aL q xq) (mz (fun w' t=>(aC q gC (K.o t) q).to (b:=C) q) ?_));obtain⟨G,h0,D,A,H,uQ,M⟩:=k7 J G h0 D A H uQ M;refine mV ?_ rfl;refine ax ajD q (KG uQ ⟨_,_,q,I,h0,dU q2 G⟩ A Oh) ?_;rintro en As ⟨g,rfl,E,Ah,Y⟩;refine rv ?_;obtain⟨D,A,H,M,z⟩:=k5 E D A H M z;refine aH ⟨q,z,?_⟩;refine ec ?_;clear K;clear z;refine st _ (eX (a:=F.cQ) (b:=g) q q) (nt ?_);refine cA q (fun c=>?_) (fun c=>?_)
 ·(have l:=dT c);refine aQ (st _ (dw (us:=[[(.int .i64 ((9:Nat):Int))]]) (cs:=(Stop.cells (({code:=9}:Stop)))) [(0,0,1)] z203 FL q q ⟨q,tV⟩ ⟨q,tV⟩ q q) (st _ (oz uw q) (qj q ?_)));exact gT (Or.inr ⟨9,q,⟨by omega,by omega⟩,M,(aks P Y Oh)⟩)
 (have l:=dF c);refine bh (au (ns (st _ (dc (gQ.cells F C) q (by exact ku) H q) (aZ (us:=(gQ.cells F C)) q q (by exact ku) (by exact fun u hu=>bH (gQ.one A.cg) u hu) D (lB q) ?_))));have R:=A;have o:=D;clear D;intro Au E D;have i:∀b∈[U],¬Q9 b:=(hI N);replace R:=R.md E i;replace M:=M.step E (hI e);clear o i;replace D:ck _ _ (gQ.cells F C) _:=D;refine nt (iO ?_);exact dP (v:=(.agg (gQ.cells F C).toArray)) trivial q ⟨⟨_,q,ew (cs:=(gQ.cells F C)) (by exact ku) D⟩,tV⟩ (Or.inl ⟨_,F,q,M,O,(R.sub (fun b L _=>y b L)),(XG P Y Oh)⟩)
end Go.Proofs.YtmobbnpkkmeoiaaGreat
