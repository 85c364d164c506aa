/- Part 9 of what the walk of a law stands on: VSeq6, VMake, VMake2, VSpo, VCf, LdP, HsP, HsQ, HsR, HsS, HsT, VArr1, VArray, VLsay, VCw, OpensS, OpensR. No statement is proved here. -/
import Derived.Test.YtllaambooilnlaaGreatCWH8
import Derived.Test.YtllaambooilnlaaGreatRows
namespace Go.Proofs.YtllaambooilnlaaGreat
open Go Go.Wk Go.RowKit
set_option linter.unusedVariables false
set_option linter.unusedSimpArgs false
attribute [local irreducible] wpList wpQuiet wpStill wpMix Code.wp Calls bodyPost
variable {w:World} {Q:Nat→Prop}
theorem pl83:bplace Zp 83=some [(0,16),(16,16),(32,16),(48,1),(49,1),(50,1),(51,1)]:=by kernel_rfl
theorem z83:zcells Zp 83=some (List.replicate 48 (.int .u8 0) ++ ([.int .i64 0,.int .i64 0,.int .i64 0,.bool false])):=by kernel_rfl
theorem kConfig_any (uQ:Up w Q) {b0:Nat} {v0_0:Value} (s:Sq) (h0:Blk w b0 (Sq.cells s v0_0) 30) (n0:¬Q b0) (a0_0:Sq.ok s) (a0_1:Ls tInt w Q v0_0 s.l) :
  Calls Zp 31 #[.pointer (some ⟨b0,0,none⟩)] w fun en w'=>∃r0:Cfg,∃m0:Sq,∃u50_0:Value,en = .returned (.agg (Cfg.cells r0).toArray)∧Md [b0] w w'∧Cfg.ok r0∧Blk w' b0 (Sq.cells m0 u50_0) 30∧¬Q b0∧Sq.ok m0∧Ls tInt w' Q u50_0 m0.l∧s.config=(r0,m0):=by
 have C:=n0;have R:Fsh [b0] w b0:=.inl (by simp);have M:=Md.refl [b0] w;have Bv:=uQ;have tQ:∀b,Q b→Q b:=fun _ h=>h;refine enter (n:=22) Tryz.func31 q q q fun B=>ns (st_alloc z83 ?_);intro S w1 Ag Bf E D;have Bb:b0≠S:=(by have:=h0.lt;omega);obtain⟨Q2,sQ,sT,Av,A7⟩:=exQ uQ Ag Bf E;replace C:=nQ C sT;replace tQ:=tT tQ sT;replace Ag:=ly M.size Ag;replace a0_1:=(a0_1.sub sQ).o E;obtain⟨h0,M⟩:=k2 E h0 M;replace uQ:=A7;clear A7 sQ sT;have Aw:Fsh [] w S:=.inr Ag;replace D:Blk _ _ (Cfg.cells (Zc)) _:=D;have Bl:Cfg.ok (Zc):=(by exact⟨q,q,q,(by decide),(by decide),(by decide)⟩);refine nt (nm q (st_call fn33 q (kN_any uQ s h0 C a0_0 a0_1 5 (by omega) (by omega)) ?_));rintro en w4 ⟨A8,Ap,A4,rfl,E,Bm,x,Aa,Ad,J,A0⟩;refine rv ?_;have T:∀i∈[b0],Fsh [b0] w i:=(hI R);have U:∀i∈[b0],¬Q2 i:=(hI C);have A:S∉[b0]:=(nin_cons (by omega) (by simp));replace D:=D.md E A;clear A;replace M:=M.step E T;replace uQ:=uQ.md E;clear T U h0 C;have h0:=x;have C:=Aa;clear x Aa;have Ah:=Sq.num_le s 5;rw[A0]at Ah;try simp only[LL,Nat.reduceAdd,Nat.reduceMul]at Ah
 refine st_call fn63 q (kID_any uQ (((A8:Nat):Int)) (by omega)) ?_;rintro en w5 ⟨N,rfl,E,Bn,Bc⟩;refine rv ?_;obtain⟨h0,D,J,uQ,M⟩:=k5 E h0 D J uQ M;refine mv q (st_call fn33 q (kN_any uQ Ap h0 C Ad J 5 (by omega) (by omega)) ?_);rintro en w6 ⟨A9,Aq,A5,rfl,E,Bo,y,Ab,Ae,K,A1⟩;refine rv ?_;have T:∀i∈[b0],Fsh [b0] w i:=(hI R);have U:∀i∈[b0],¬Q2 i:=(hI C);have A:S∉[b0]:=(nin_cons (by omega) (by simp));replace D:=D.md E A;clear A;replace M:=M.step E T;replace uQ:=uQ.md E;clear T U h0 C;have h0:=y;have C:=Ab;clear y Ab;have Ai:=Sq.num_le Ap 5;rw[A1]at Ai;try simp only[LL,Nat.reduceAdd,Nat.reduceMul]at Ai
 refine st_call fn63 q (kID_any uQ (((A9:Nat):Int)) (by omega)) ?_;rintro en w7 ⟨O,rfl,E,Bp,Bd⟩;refine rv ?_;obtain⟨h0,D,K,uQ,M⟩:=k5 E h0 D K uQ M;refine mv q (st_call fn33 q (kN_any uQ Aq h0 C Ae K 5 (by omega) (by omega)) ?_);rintro en w8 ⟨Ba,Ar,A6,rfl,E,Bq,z,Ac,Af,L,A2⟩;refine rv ?_;have T:∀i∈[b0],Fsh [b0] w i:=(hI R);have U:∀i∈[b0],¬Q2 i:=(hI C);have A:S∉[b0]:=(nin_cons (by omega) (by simp));replace D:=D.md E A;clear A;replace M:=M.step E T;replace uQ:=uQ.md E;clear T U h0 C;have h0:=z;have C:=Ac;clear z Ac;have Aj:=Sq.num_le Aq 5;rw[A2]at Aj;try simp only[LL,Nat.reduceAdd,Nat.reduceMul]at Aj
 refine st_call fn63 q (kID_any uQ (((Ba:Nat):Int)) (by omega)) ?_;rintro en w9 ⟨P,rfl,E,Br,Be⟩;refine rv ?_;obtain⟨h0,D,L,uQ,M⟩:=k5 E h0 D L uQ M;refine mv q (st_call fn33 q (kN_any uQ Ar h0 C Af L 7 (by omega) (by omega)) ?_);rintro en Bw ⟨F,r,Ax,rfl,E,Bg,V,Y,f,d,Ak⟩;refine rv ?_;have T:∀i∈[b0],Fsh [b0] w i:=(hI R);have U:∀i∈[b0],¬Q2 i:=(hI C);have A:S∉[b0]:=(nin_cons (by omega) (by simp));replace D:=D.md E A;clear A;replace M:=M.step E T;replace uQ:=uQ.md E;clear T U h0 C;have h0:=V;have C:=Y;clear V Y;have k:=Sq.num_le Ar 7;rw[Ak]at k;try simp only[LL,Nat.reduceAdd,Nat.reduceMul]at k
 refine st _ (rA (a:=F) (b:=1) q q (by omega)) (mv q (st_call fn33 q (kN_any uQ r h0 C f d 4 (by omega) (by omega)) ?_));rintro en Bx ⟨G,t,Ay,rfl,E,Bh,W,Z,g,e,Al⟩;refine rv ?_;have T:∀i∈[b0],Fsh [b0] w i:=(hI R);have U:∀i∈[b0],¬Q2 i:=(hI C);have A:S∉[b0]:=(nin_cons (by omega) (by simp));replace D:=D.md E A;clear A;replace M:=M.step E T;replace uQ:=uQ.md E;clear T U h0 C;have h0:=W;have C:=Z;clear W Z;have o:=Sq.num_le r 4;rw[Al]at o;try simp only[LL,Nat.reduceAdd,Nat.reduceMul]at o
 refine st _ (rA (a:=G) (b:=1) q q (by omega)) (mv q (st_call fn33 q (kN_any uQ t h0 C g e 2 (by omega) (by omega)) ?_));rintro en Bz ⟨H,Au,Az,rfl,E,Bi,X,c,j,I,Am⟩;refine rv ?_;have T:∀i∈[b0],Fsh [b0] w i:=(hI R);have U:∀i∈[b0],¬Q2 i:=(hI C);have A:S∉[b0]:=(nin_cons (by omega) (by simp));replace D:=D.md E A;clear A;replace M:=M.step E T;clear T U h0 C;have h0:=X;have C:=c;clear X c;have p:=Sq.num_le t 2;rw[Am]at p;try simp only[LL,Nat.reduceAdd,Nat.reduceMul]at p
 refine st _ (r_eqN (a:=H) (b:=1) q q) (st _ (r_buildG (us:=[(idc N),(idc O),(idc P),[(.int .i64 ((F+1:Nat):Int))],[(.int .i64 ((G+1:Nat):Int))],[(.int .i64 ((32768:Nat):Int))],[(.bool ((decide (H=1))))]]) (cs:=(Cfg.cells (({file:=N,machine:=O,seq:=P,dataSlots:=F+1,fieldSlots:=G+1,most:=32768,keyed:=(decide (H=1))}:Cfg)))) [(0,0,16),(1,16,16),(2,32,16),(3,48,1),(4,49,1),(5,50,1),(6,51,1)] z83 pl83 q q ⟨q,q,q,q,q,q,q,tV⟩ ⟨q,q,q,q,q,q,q,tV⟩ q (by simp[splices,splice,idc,Cfg.cells])) (st_storeAgg (us:=(Cfg.cells (({file:=N,machine:=O,seq:=P,dataSlots:=F+1,fieldSlots:=G+1,most:=32768,keyed:=(decide (H=1))}:Cfg)))) q q (by exact agg83) (by exact fun u hu=>one_cells (Cfg.one) u hu) D (lB q) ?_));have A3:=D;clear D;intro B0 E D;have U:∀b∈[S],¬Q2 b:=(hI Av);replace h0:=h0.md E (by intro hb;simp at hb;omega);replace I:=I.md E U;replace M:=M.step E (hI (Fsh.wid Aw));clear A3 U;replace D:Blk _ _ (Cfg.cells (({file:=N,machine:=O,seq:=P,dataSlots:=F+1,fieldSlots:=G+1,most:=32768,keyed:=(decide (H=1))}:Cfg))) _:=D;refine nt (c_ret ?_);exact ret1L (v:=(.agg (Cfg.cells (({file:=N,machine:=O,seq:=P,dataSlots:=F+1,fieldSlots:=G+1,most:=32768,keyed:=(decide (H=1))}:Cfg))).toArray)) trivial q ⟨⟨_,q,load_agg (cs:=(Cfg.cells (({file:=N,machine:=O,seq:=P,dataSlots:=F+1,fieldSlots:=G+1,most:=32768,keyed:=(decide (H=1))}:Cfg)))) (by exact agg83) D⟩,tV⟩ ⟨(({file:=N,machine:=O,seq:=P,dataSlots:=F+1,fieldSlots:=G+1,most:=32768,keyed:=(decide (H=1))}:Cfg)),Au,_,q,M,(by exact⟨(by assumption),(by assumption),(by assumption),(by(simp<;>omega)),(by(simp<;>omega)),(by(simp<;>omega))⟩),h0,n0,j,(I.sub (fun b hb _=>tQ b hb)),(by rw[Sq.config]<;>simp(disch:=first|omega|assumption|simp) only [SS,reduceIte,A0,Bc,A1,Bd,A2,Be,Ak,Al,Am])⟩
theorem elT46:elT Zp 46 20 64=true:=by kernel_rfl
theorem fn31:isFn Zp 31=true:=by kernel_rfl
theorem fn32:isFn Zp 32=true:=by kernel_rfl
theorem fn34:isFn Zp 34=true:=by kernel_rfl
theorem fn35:isFn Zp 35=true:=by kernel_rfl
theorem fn37:isFn Zp 37=true:=by kernel_rfl
theorem off46_1:fieldOff Zp 46 1=some 1:=by kernel_rfl
theorem off46_2:fieldOff Zp 46 2=some 2:=by kernel_rfl
theorem off46_3:fieldOff Zp 46 3=some 3:=by kernel_rfl
theorem off46_4:fieldOff Zp 46 4=some 19:=by kernel_rfl
theorem one41:isOne Zp 41=true:=by kernel_rfl
theorem u25:Zp.underlying 25=some (.slice 46):=by kernel_rfl
set_option maxHeartbeats 16000000 in
set_option maxRecDepth 100000 in
set_option maxHeartbeats 4000000 in
theorem kMaker_any (uQ:Up w Q) {b0:Nat} {v0_0:Value} (s:Sq) (h0:Blk w b0 (Sq.cells s v0_0) 30) (n0:¬Q b0) (a0_0:Sq.ok s) (a0_1:Ls tInt w Q v0_0 s.l) (most:Nat) (a1:most<9223372036854775808) (p0:most≤100000) :
  Calls Zp 8 #[.pointer (some ⟨b0,0,none⟩),(.int .i64 most)] w fun en w'=>∃o0:Nat,∃u0_0:Value,∃u0_1:Value,∃u0_2:Value,∃u0_3:Value,∃r0:Mk,∃u1:Value,∃r1:List Rec,∃m0:Sq,∃u50_0:Value,∃Q':Nat→Prop,en = .returned (.tuple #[.pointer (some ⟨o0,0,none⟩),u1])∧Md [b0] w w'∧NewQ w w' Q Q'∧Blk w' o0 (Mk.cells r0 u0_0 u0_1 u0_2 u0_3) 102∧¬Q' o0∧w.heap.size≤o0∧Mk.ok r0∧Ow tB8 5 (Fsh [] w) w' Q' u0_0 r0.b∧Ow tKnown 146 (Fsh [] w) w' Q' u0_1 r0.datas∧Ow tKnown 146 (Fsh [] w) w' Q' u0_2 r0.fields∧Ls tU64 w' Q' u0_3 r0.main∧(∀x,vblock u0_1=some x→vblock u0_2≠some x)∧Ls tRec w' Q' u1 r1∧Blk w' b0 (Sq.cells m0 u50_0) 30∧¬Q' b0∧Sq.ok m0∧Ls tInt w' Q' u50_0 m0.l∧s.maker most=(r0,r1,m0):=by
 have N:=n0;have Br:Fsh [b0] w b0:=.inl (by simp);have M:=Md.refl [b0] w;have Dc:=uQ;have tQ:∀b,Q b→Q b:=fun _ h=>h;have p:∀b,Q b→b<w.heap.size→Q b:=fun _ h _=>h;refine enter (n:=53) Tryz.func8 rfl rfl rfl fun B=>ns (asg rfl (an rfl (nm rfl (st_call fn31 rfl (kConfig_any uQ s h0 N a0_0 a0_1) ?_))));rintro en w1 ⟨Bs,C4,Dz,rfl,U,Cy,Ce,Cg,Ci,e,B6⟩;refine rv ?_;have hP:∀i∈[b0],Fsh [b0] w i:=(hI Br);have y:∀i∈[b0],¬Q i:=(hI N);replace M:=M.step U hP;replace uQ:=uQ.md U;clear hP y h0 N;have h0:=Ce;have N:=Cg;clear Ce Cg;refine st_alloc z83 ?_;intro B3 w2 Cu Ea U Ag;have D6:b0≠B3:=(by have:=h0.lt;omega);obtain⟨Q3,sQ,sT,Cl,Aq⟩:=exQ uQ Cu Ea U;replace N:=nQ N sT;replace tQ:=tT tQ sT;replace p:=fun b X hl=>sQ b (p b X hl) (lj hl M.size);replace Cu:=ly M.size Cu;replace h0:=h0.o U;replace e:=(e.sub sQ).o U;replace M:=M.k U;replace uQ:=Aq;clear Aq sQ sT;have Da:Fsh [] w B3:=.inr Cu;replace Ag:Blk _ _ (Cfg.cells (Zc)) _:=Ag;have Et:Cfg.ok (Zc):=(by exact⟨rfl,rfl,rfl,(by decide),(by decide),(by decide)⟩);refine st_storeAgg (us:=(Cfg.cells Bs)) rfl rfl (by exact agg83) (by exact fun u hu=>one_cells (Cfg.one) u hu) Ag (lB rfl) ?_;have Du:=Ag;clear Ag;intro w5 U Ag
 have y:∀b∈[B3],¬Q3 b:=(hI Cl);replace h0:=h0.md U (by intro X;simp at X;omega);replace e:=e.md U y;replace uQ:=uQ.md U;replace M:=M.step U (hI (Fsh.wid Da));clear Du y;replace Ag:Blk _ _ (Cfg.cells Bs) _:=Ag;refine nt (c_seq ?_);have Ca:=Ag;have Ey:∀b∈[b0],¬Q3 b:=all_cons N all_nil;refine c_mixT [(0,true),(1,true),(2,false),(3,true)] [4,5] (fun w'=>Md [b0] w5 w') mixed (by kernel_rfl) ?_;intro w6 Bc;refine⟨Bc.mono (by simp),?_⟩;have MC:=Bc.mono (T:=[b0]) (by simp);have cs:=config_ok s;rw[B6]at cs;simp only at cs;refine mz (fun w' hc=>r_loadPart (Cfg.cells Bs) rfl (by exact agg83) (Ca.md hc (by simp;omega)) rfl) (mo rfl ?_);obtain⟨h0,e,Ag,uQ,M⟩:=k5 Bc h0 e Ag uQ M;refine m_c ?_ rfl;refine st_call fn33 rfl (kN_any uQ C4 h0 N Ci e 6 (by omega) (by omega)) ?_;rintro en w7 ⟨C6,C5,Ck,rfl,U,Eu,Cf,Ch,Cj,Aa,B7⟩;refine rv ?_;have hP:∀i∈[b0],Fsh [b0] w i:=(hI Br);have y:∀i∈[b0],¬Q3 i:=(hI N);have Bp:B3∉[b0]:=(nin_cons (by omega) (by simp));replace Ag:=Ag.md U Bp;clear Bp;replace M:=M.step U hP;replace MC:=MC.step U (fun i hi=>Or.inl (by simpa using hi));replace uQ:=uQ.md U;clear hP y h0 N;have h0:=Cf;have N:=Ch;clear Cf Ch;have Cz:=Sq.num_le C4 6;rw[B7]at Cz;try simp only[LL,Nat.reduceAdd,Nat.reduceMul]at Cz
 refine st_nil ⟨rfl,MC,fun w'=>Md [b0] w7 w',Md.refl _ _,fun x hx=>MC.trans hx,?_⟩;clear Ca;replace MC:=Md.refl [b0] w7;refine mz (fun w' hc=>r_convN (a:=C6) 18446744073709551616 rfl (by rw[u3];rfl) u42 rfl (by omega)) (m_nil ?_);clear MC;refine st_call fn32 rfl (rnewMaker_any uQ Bs Cy C6 (by omega) (by omega) (by omega)) ?_;rintro en w8 ⟨Y,Co,Cp,Cq,Cr,Ct,Q9,rfl,U,⟨sQ,sT,Aq⟩,K,G,Af,Cn,Am,Ao,Ap,A8,Ah,B8⟩;refine rv ?_;have Df:b0≠Y:=(by have:=h0.lt;omega);have C7:B3≠Y:=(by have:=Ag.lt;omega);have Cs:Fsh [] w Y:=Fsh.new M _ Af;replace Af:=ly M.size Af;replace N:=nQ N sT;replace tQ:=tT tQ sT;replace p:=fun b X hl=>sQ b (p b X hl) (lj hl M.size);replace Am:=Am.lower (Fsh.lift (S':=[]) M);replace Ao:=Ao.lower (Fsh.lift (S':=[]) M);replace Ap:=Ap.lower (Fsh.lift (S':=[]) M);replace h0:=h0.o U;replace Aa:=(Aa.sub sQ).o U;replace M:=M.k U;replace uQ:=Aq;clear Aq sQ sT;refine an rfl (ns (asg rfl (nt (c_seq (c_block ?_)))));have Ec:MkOk Ct:=(by rw[← B8];exact newMk_ok cs.1 cs.2.1 cs.2.2);obtain⟨r0,Cb⟩:∃r,makerL (most-([]:List Rec).length) C5 Ct ([]:List Rec)=r:=⟨_,rfl⟩;have Cc:=Cb
 try simp only[List.nil_append,B6,B7,B8]at Cb
 refine loop9 (fun(mm:Mk) (f:Value) (S:Value) (L:Value) (Ac:Value) (sq:Sq) (A0:Value) (vo:Value) (o:List Rec)=>[(8,vo),(0,(.pointer (some ⟨b0,0,none⟩))),(1,(.int .i64 most)),(4,(.pointer none)),(5,SN),(7,(.pointer (some ⟨Y,0,none⟩)))]) (fun(mm:Mk) (f:Value) (S:Value) (L:Value) (Ac:Value) (sq:Sq) (A0:Value) (vo:Value) (o:List Rec) w'=>∃Q':Nat→Prop,(∀b,Q' b→Q b)∧(∀b,Q b→b<w.heap.size→Q' b)∧Up w' Q'∧Md [b0] w w'∧Blk w' Y (Mk.cells mm f S L Ac) 102∧Ow tB8 5 (Fsh [] w) w' Q' f mm.b∧Ow tKnown 146 (Fsh [] w) w' Q' S mm.datas∧Ow tKnown 146 (Fsh [] w) w' Q' L mm.fields∧Ls tU64 w' Q' Ac mm.main∧Mk.ok mm∧Blk w' b0 (Sq.cells sq A0) 30∧Ls tInt w' Q' A0 sq.l∧Sq.ok sq∧Ow tRec 46 (Fsh [] w) w' Q' vo o∧¬Q' Y∧¬Q' b0∧(∀x,vblock S=some x→vblock L≠some x)∧MkOk mm∧o.length≤most∧makerL (most-o.length) sq mm o=r0) (fun(mm:Mk) (f:Value) (S:Value) (L:Value) (Ac:Value) (sq:Sq) (A0:Value) (vo:Value) (o:List Rec)=>most-o.length) (x0:=Ct) (x1:=Co) (x2:=Cp) (x3:=Cq) (x4:=Cr) (x5:=C5) (x6:=Ck) (x7:=SN) (x8:=([]:List Rec)) ?_ ?_ ?_
 ·exact⟨rfl,rfl,rfl,rfl,rfl,rfl,tV⟩
 ·exact⟨Q9,tQ,p,uQ,M,K,Am,Ao,Ap,A8,Cn,h0,Aa,Cj,(Ow.nil _ _ _ _ _),G,N,Ah,Ec,(by simp),(by have hh:=Cb;exact hh)⟩
 clear M uQ tQ p N Cl G a0_1 h0 e Ag Aa Am Ao Ap A8 K
 rintro mm f S L Ac sq A0 vo o B Ei ⟨Di,tQ,p,uQ,M,K,E,C,A,D,A6,h0,Aw,Cd,P,G,N,O,C3,Er,Cw⟩;refine c_seq (nm rfl (sL rfl u25 P.shp (mv rfl (st _ (r_ltN (a:=o.length) (b:=most) rfl rfl) (mv rfl ?_)))));refine part_n (t:=23) rfl (fun A5=>?_) (fun A5=>?_)
 ·(have Bg:=dT A5);refine sg A5 (r_move rfl) (st_call_g rfl rfl rfl A5 fn34 rfl (kMore_any uQ sq h0 N Cd Aw) ?_);rintro en Ej ⟨El,Ay,Dh,rfl,U,Bj,Bm,A3,j,C0⟩;refine rv ?_;have hP:∀i∈[b0],Fsh [b0] w i:=(hI Br);have y:∀i∈[b0],¬Di i:=(hI N);have k:∀b,vblock f=some b→b∉[b0]:=fun b X=>(nin_cons (E.blk_ne h0 (by decide) b X) (by simp));have d:∀b,vblock S=some b→b∉[b0]:=fun b X=>(nin_cons (C.blk_ne h0 (by decide) b X) (by simp));have Z:∀b,vblock L=some b→b∉[b0]:=fun b X=>(nin_cons (A.blk_ne h0 (by decide) b X) (by simp));have Ab:Y∉[b0]:=(nin_cons (by omega) (by simp));have v:∀b,vblock vo=some b→b∉[b0]:=fun b X=>(nin_cons (P.blk_ne h0 (by decide) b X) (by simp));replace E:=E.md U k y;clear k;replace C:=C.md U d y;clear d;replace A:=A.md U Z y;clear Z;replace D:=D.md U y;replace K:=K.md U Ab;clear Ab;replace P:=P.md U v y;clear v;replace M:=M.step U hP;replace uQ:=uQ.md U;clear hP y h0 N;have h0:=Bj;have N:=Bm;clear Bj Bm;refine st _ (r_pick_t rfl A5 rfl) (nt ?_);refine c_if rfl (fun B4=>?_) (fun B4=>?_)
  ·(have Dq:=B4)
   have Bt:sq=Ay∧sq.pos<sq.l.length:=by
    have h:=C0;rw[B4]at h;simp[Sq.more]at h;exact⟨h.2,by omega⟩
   refine c_skip (c_then (c_block (ns (m2 rfl rfl (st_call fn36 rfl (mtail_any uQ mm K G A6 (E.reP (fun _ _=>trivial)) (C.reP (fun _ _=>trivial)) (A.reP (fun _ _=>trivial)) D O) ?_)))));rintro en E4 ⟨Bf,rfl,U,Ee,Dr⟩;refine rv ?_;obtain⟨E,C,A,D,K,h0,P,j⟩:=k8 U E C A D K h0 P j;obtain⟨uQ,M⟩:=k2 U uQ M;refine st _ (r_addW (a:=Bf) (b:=1) 18446744073709551616 rfl rfl rfl rfl) (st_call fn35 rfl (kRecord_any uQ Ay h0 N A3 j ((Bf+1)%18446744073709551616) (by omega)) ?_);rintro en E5 ⟨Ae,W,Bd,Bu,rfl,U,Ad,V,Bk,Bn,A4,F,C1⟩;refine rv ?_;have hP:∀i∈[b0],Fsh [b0] w i:=(hI Br);have y:∀i∈[b0],¬Di i:=(hI N);have k:∀b,vblock f=some b→b∉[b0]:=fun b X=>(nin_cons (E.blk_ne h0 (by decide) b X) (by simp));have d:∀b,vblock S=some b→b∉[b0]:=fun b X=>(nin_cons (C.blk_ne h0 (by decide) b X) (by simp));have Z:∀b,vblock L=some b→b∉[b0]:=fun b X=>(nin_cons (A.blk_ne h0 (by decide) b X) (by simp));have Ab:Y∉[b0]:=(nin_cons (by omega) (by simp));have v:∀b,vblock vo=some b→b∉[b0]:=fun b X=>(nin_cons (P.blk_ne h0 (by decide) b X) (by simp));replace E:=E.md U k y;clear k;replace C:=C.md U d y;clear d;replace A:=A.md U Z y;clear Z;replace D:=D.md U y;replace K:=K.md U Ab;clear Ab;replace P:=P.md U v y;clear v;replace M:=M.step U hP;replace uQ:=uQ.md U;clear hP y h0 N;have h0:=Bk;have N:=Bn;clear Bk Bn;refine st_alloc z46 ?_;intro Bb E6 Cv Eb U z
   have Dg:Y≠Bb:=(by have:=K.lt;omega);have D7:b0≠Bb:=(by have:=h0.lt;omega);have Av:∀x,vblock vo=some x→x≠Bb:=fun x hx h=>by have h3:=P.lt x hx;omega
   obtain⟨Dj,sQ,sT,C9,Aq⟩:=exQ uQ Cv Eb U;replace G:=nQ G sT;replace N:=nQ N sT;replace tQ:=tT tQ sT;replace p:=fun b X hl=>sQ b (p b X hl) (lj hl M.size);replace Cv:=ly M.size Cv;replace E:=(E.sub sQ sT).o U;replace C:=(C.sub sQ sT).o U;replace A:=(A.sub sQ sT).o U;replace D:=(D.sub sQ).o U;obtain⟨K,h0⟩:=k2 U K h0;replace P:=(P.sub sQ sT).o U;replace F:=(F.sub sQ).o U;replace V:=(V.sub sQ).o U;replace M:=M.k U;replace uQ:=Aq;clear Aq sQ sT;have Db:Fsh [] w Bb:=.inr Cv;replace z:Blk _ _ (Rec.cells (({seq:=0,real:=0,mono:=0,boot:=idZ,fields:=[]}:Rec)) SN) _:=z;have Ed:Rec.ok (({seq:=0,real:=0,mono:=0,boot:=idZ,fields:=[]}:Rec)):=(by exact⟨(by decide),(by decide),(by decide),rfl⟩);refine st_storeAgg (us:=(Rec.cells W Ae)) rfl rfl (by exact agg46) (by exact fun u hu=>one_cells (Rec.one V.oneCell) u hu) z (lB rfl) ?_;have Bi:=z;clear z;intro E7 U z;have y:∀b∈[Bb],¬Dj b:=(hI C9);replace E:=E.md U (aB Bi E) y;replace C:=C.md U (aB Bi C) y;replace A:=A.md U (aB Bi A) y;replace D:=D.md U y;replace K:=K.md U (by intro X;simp at X;omega);replace h0:=h0.md U (by intro X;simp at X;omega);replace P:=P.md U (apart_nb2 Av) y
   replace F:=F.md U y;replace V:=V.md U y;replace uQ:=uQ.md U;replace M:=M.step U (hI (Fsh.wid Db));clear Bi y;replace z:Blk _ _ (Rec.cells W Ae) _:=z;refine nt (c_seq (nm rfl (sf rfl off46_4 (sl (u:=Ae) rfl one41 z rfl (sf rfl off46_1 (sl (u:=(.int .u64 W.real)) rfl one42 z rfl ?_))))));have Ez:W.real<18446744073709551616:=Ad.2.1;refine sf rfl off46_2 (sl (u:=(.int .u64 W.mono)) rfl one42 z rfl ?_);have E0:W.mono<18446744073709551616:=Ad.2.2.1;refine sf rfl off46_3 (st _ (r_loadPart (idc W.boot) rfl (by exact agg44) z rfl) ?_);have E3:W.boot.length=16:=Ad.2.2.2;have Eh:(∀q∈W.fields,BD q)∧W.fields.length≤16:=(by have h:=record_ok Ay ((Bf+1)%18446744073709551616);rw[C1]at h;exact h);refine st_call fn37 rfl (mappend_any uQ mm K G A6 (E.reP (fun _ _=>trivial)) (C.reP (fun _ _=>trivial)) (A.reP (fun _ _=>trivial)) D O V W.real (by omega) W.mono (by omega) W.boot (by assumption) (by exact C3) (by exact(by omega)) (by exact(fun q hq=>by have:=(Eh.1 q hq).1;omega))) ?_;rintro en Ek ⟨Em,Dd,Be,Bv,Bw,Bx,Bz,D3,rfl,U,⟨sQ,sT,Aq⟩,Ef,Eg,Bl,Bo,Ar,H,I,J,c,g,Bh⟩;refine rv ?_;have hP:∀i∈(vS Y f S L),Fsh [] w i:=(all_cons Cs (all_app (rF E) (all_app (rF C) (rF A))));have y:∀i∈(vS Y f S L),¬Dj i:=(all_cons G (all_app (rN E) (all_app (rN C) (rN A))))
   have Cm:b0∉(vS Y f S L):=(nin_cons (by omega) (nin_app (aW E h0) (nin_app (aW C h0) (aW A h0))));have v:∀b,vblock vo=some b→b∉(vS Y f S L):=fun b X=>(nin_cons (P.blk_ne K (by decide) b X) (nin_app ((aO E P) b X) (nin_app ((aO C P) b X) ((aO A P) b X))));have Bq:Bb∉(vS Y f S L):=(nin_cons (by omega) (nin_app (aW E z) (nin_app (aW C z) (aW A z))));replace H:=H.reP (fun x hx=>(H.2 x hx).1);replace H:=H.reP (fun x hx=>(H.2 x hx).1.elim (hP x) (Fsh.new M x));replace I:=I.reP (fun x hx=>(I.2 x hx).1);replace I:=I.reP (fun x hx=>(I.2 x hx).1.elim (hP x) (Fsh.new M x));replace J:=J.reP (fun x hx=>(J.2 x hx).1);replace J:=J.reP (fun x hx=>(J.2 x hx).1.elim (hP x) (Fsh.new M x));replace N:=nQ N sT;replace tQ:=tT tQ sT;replace p:=fun b X hl=>sQ b (p b X hl) (lj hl M.size);replace y:=fun i hi hq=>y i hi (sT i hq);replace h0:=h0.md U Cm;clear Cm;replace P:=(P.sub sQ sT).md U v y;clear v;replace F:=(F.sub sQ).md U y;replace V:=(V.sub sQ).md U y;replace z:=z.md U Bq;clear Bq;replace M:=M.step U (fun i hi=>Fsh.wid (hP i hi));replace uQ:=Aq;clear Aq sQ sT;clear hP y K G;have K:=Bl;have G:=Bo;clear Bl Bo;clear E;clear C;clear A;refine mv rfl (se rfl rfl (se rfl rfl ?_))
   refine asg rfl (an rfl (ns ?_))
   have Dy:MkOk Be:=by
    have h:=append_ok (raw:=W.fields) (real:=W.real) (mono:=W.mono) (boot:=W.boot) C3 (by exact Ad.2.2.2) (by rw[Bh];exact Ar.2.1.2.2.2.2.2.2.2.1.1);rw[Bh]at h;exact h
   have C2:sq.record ((mm.num 9+1)%18446744073709551616)=(W,Bd):=(by rw[Bt.1,Dr];exact C1);refine mv rfl (st _ (r_neN (a:=Dd) (b:=0) rfl rfl) (nt ?_));refine c_if rfl (fun C8=>?_) (fun C8=>?_)
   ·(have B5:=dT C8);refine c_exit (x_then (x_miss rfl (x_then (x_hit (c_then (ns (m2 rfl rfl (asg rfl (ar rfl ?_)))))))));obtain⟨Dk,fQ,fT,Au⟩:=P.freeze;replace G:=fun hh=>(fT _ hh).elim G (nfz (aW P K));replace N:=fun hh=>(fT _ hh).elim N (nfz (aW P h0));replace F:=F.sub (fun b X _=>fQ b X);replace H:=H.subF fQ fT (aO P H);replace I:=I.subF fQ fT (aO P I);replace J:=J.subF fQ fT (aO P J);replace c:=c.sub (fun b X _=>fQ b X);replace tQ:=fun b X=>(fT b X).elim (tQ b) (fun hv=>Fsh.up Dc b (P.2 b hv).1);replace p:=fun b X hl=>fQ b (p b X hl);replace uQ:Up Ek Dk:=fun b X=>fQ b (uQ b X);clear P fQ fT;have P:=Au;clear Au;have e0:s.maker most=r0:=(by unfold Sq.maker;simp only[B6,B7,B8];exact Cc);exact retL (vs:=[(.pointer (some ⟨Y,0,none⟩)),vo]) trivial rfl ⟨rfl,rfl,tV⟩ rfl ⟨Y,_,_,_,_,Be,_,o,Bd,_,Dk,rfl,M,⟨p,tQ,uQ⟩,K,G,Af,Ar,H,I,J,c,g,P,h0,N,A4,F,(by rw[e0,← Cw,makerL_no Bg Bt.2 C2 Bh B5])⟩
   (have B5:=dF C8);refine c_skip (c_then (c_region (mv rfl (st _ (r_loadPart (Rec.cells W Ae) rfl (by exact agg46) z rfl) (st_buildSliceG [(Rec.cells W Ae)] u25 elT46 (by decide) (by decide) rfl rfl ⟨rfl,tV⟩ ⟨rfl,tV⟩ rfl (by decide) ?_)))));intro En E8 Dp Es U B9;have D1:=uQ _ Dp;obtain⟨K,h0,P,F,V,z,H,I⟩:=k8 U K h0 P F V z H I;obtain⟨J,c,uQ,M⟩:=k4 U J c uQ M;replace B9:=Ls.of_blk (m:=1) (R:=D3) (T:=tRec) (xs:=[W]) B9 ⟨_,_,rfl,(tRec_mk Ad V),rfl⟩ rfl (by decide) D1;refine st_ap (sz:=20) (by rfl) u25 elT46 rfl rfl P B9 (fun _ h _=>h) uQ (Fsh.new M) (by(simp<;>omega)) (by(simp<;>omega)) ?_;intro D0 E9 D4 sQ sT Aq Ds U y _ Dx;have Cx:∀x,vblock D0=some x→x≠Bb:=fun x hx h=>(Dx x hx).elim (fun h2=>Av x h2 h) (fun h2=>by have h3:=z.lt;omega);have A1:=P;clear P;replace G:=nQ G sT;replace N:=nQ N sT;replace H:=H.sub sQ sT;replace I:=I.sub sQ sT;replace J:=J.sub sQ sT;replace c:=c.sub sQ;replace tQ:=tT tQ sT;replace p:=fun b X hl=>sQ b (p b X hl) (lj hl M.size);replace K:=K.md U (aW A1 K);replace h0:=h0.md U (aW A1 h0);replace F:=(F.sub sQ).md U y
   replace H:=H.md U (aO A1 H) y;replace I:=I.md U (aO A1 I) y;replace J:=J.md U (aO A1 J) y;replace c:=c.md U y;replace uQ:=uQ.md U;replace M:=M.stepO U (fun b X=>Fsh.wid (A1.2 b X).1);replace uQ:=Aq;clear Aq sQ sT y Dx;refine asg rfl (st_nil (n_block (c_then ?_)));refine next9 (x0:=Be) (x1:=Bv) (x2:=Bw) (x3:=Bx) (x4:=Bz) (x5:=Bd) (x6:=Bu) (x7:=D0) (x8:=(o ++ ([W]))) (by simp;omega) ⟨rfl,rfl,rfl,rfl,rfl,rfl,tV⟩ ⟨D4,tQ,p,uQ,M,K,H,I,J,c,Ar,h0,F,A4,Ds,G,N,g,Dy,(by simp;omega),(by have hh:=Cw;rw[makerL_on Bg Bt.2 C2 Bh B5]at hh;exact hh)⟩
  (have Dq:=B4)
  have Bt:sq=Ay∧¬sq.pos<sq.l.length:=by
   have h:=C0;rw[B4]at h;simp[Sq.more]at h;exact⟨h.2,by omega⟩
  refine c_exit (x_then (x_then (x_hit (c_then (ns (m2 rfl rfl (asg rfl (ar rfl ?_))))))));obtain⟨Dl,fQ,fT,Au⟩:=P.freeze;replace E:=E.subF fQ fT (aO P E);replace C:=C.subF fQ fT (aO P C);replace A:=A.subF fQ fT (aO P A);replace D:=D.sub (fun b X _=>fQ b X);replace G:=fun hh=>(fT _ hh).elim G (nfz (aW P K));replace N:=fun hh=>(fT _ hh).elim N (nfz (aW P h0));replace j:=j.sub (fun b X _=>fQ b X);replace tQ:=fun b X=>(fT b X).elim (tQ b) (fun hv=>Fsh.up Dc b (P.2 b hv).1);replace p:=fun b X hl=>fQ b (p b X hl);replace uQ:Up Ej Dl:=fun b X=>fQ b (uQ b X);clear P fQ fT;have P:=Au;clear Au;have e0:s.maker most=r0:=(by unfold Sq.maker;simp only[B6,B7,B8];exact Cc);exact retL (vs:=[(.pointer (some ⟨Y,0,none⟩)),vo]) trivial rfl ⟨rfl,rfl,tV⟩ rfl ⟨Y,_,_,_,_,mm,_,o,Ay,_,Dl,rfl,M,⟨p,tQ,uQ⟩,K,G,Af,A6,E,C,A,D,O,P,h0,N,A3,j,(by rw[e0,← Cw,makerL_end (fun h=>Bt.2 h.2),Bt.1])⟩
 (have Bg:=dF A5);refine sk A5 (sk A5 (st _ (r_pick_f rfl A5 rfl) (nt (c_if_f rfl rfl (c_exit (x_then (x_then (x_hit (c_then (ns (m2 rfl rfl (asg rfl ?_))))))))))));refine ar rfl ?_;obtain⟨Dm,fQ,fT,Au⟩:=P.freeze;replace E:=E.subF fQ fT (aO P E);replace C:=C.subF fQ fT (aO P C);replace A:=A.subF fQ fT (aO P A);replace D:=D.sub (fun b X _=>fQ b X);replace G:=fun hh=>(fT _ hh).elim G (nfz (aW P K));replace Aw:=Aw.sub (fun b X _=>fQ b X);replace N:=fun hh=>(fT _ hh).elim N (nfz (aW P h0));replace tQ:=fun b X=>(fT b X).elim (tQ b) (fun hv=>Fsh.up Dc b (P.2 b hv).1);replace p:=fun b X hl=>fQ b (p b X hl);replace uQ:Up Ei Dm:=fun b X=>fQ b (uQ b X);clear P fQ fT;have P:=Au;clear Au;have e0:s.maker most=r0:=(by unfold Sq.maker;simp only[B6,B7,B8];exact Cc);exact retL (vs:=[(.pointer (some ⟨Y,0,none⟩)),vo]) trivial rfl ⟨rfl,rfl,tV⟩ rfl ⟨Y,_,_,_,_,mm,_,o,sq,_,Dm,rfl,M,⟨p,tQ,uQ⟩,K,G,Af,A6,E,C,A,D,O,P,h0,N,Cd,Aw,(by rw[e0,← Cw,makerL_end (fun h=>Bg h.1)])⟩
theorem fn10:isFn Zp 10=true:=by kernel_rfl
theorem fn8:isFn Zp 8=true:=by kernel_rfl
theorem pl30:bplace Zp 30=some [(0,1),(1,1)]:=by kernel_rfl
theorem z30:zcells Zp 30=some [.slice none 0 0,.int .i64 0]:=by kernel_rfl
theorem kImageM_any (uQ:Up w Q) {v0:Value} {l:List Int} (h0:Ls tInt w Q v0 l) (most:Nat) (p1:most≤100000) :
  Calls Zp 19 #[v0,.int .i64 most] w fun en w'=>∃u0:Value,∃r0:List UInt8,en = .returned u0∧Md [] w w'∧Ls tB8 w' Q u0 r0∧∃(m:Mk) (rs:List Rec) (s:Sq),(Sq.mk l 0).maker most=(m,rs,s)∧Mk.ok m∧imageM m 1=r0∧r0.length≤100000:=by
 refine enter (n:=17) Tryz.func19 q q q ?_;intro B;have g:=h0.len63;refine ns (an q (nm q (st (.agg (Sq.cells {l:=l,pos:=0} v0).toArray) (r_build (cs:=Sq.cells {l:=l,pos:=0} v0) (ps:=[(0,0)]) z30 pl30 q q (by simp[OneAll,h0.oneCell]) q q q) (st_box (cs:=Sq.cells {l:=l,pos:=0} v0) q q ?_))));intro b w1 K Y F O;obtain⟨h,d,z,Z,e⟩:=exQ uQ K Y F;replace h0:=(h0.sub d).o F;have M:=F;refine mv q (st_call fn8 q (kMaker_any e {l:=l,pos:=0} O Z (show Sq.ok _ from(by decide:(0:Nat)<9223372036854775808)) h0 most (by omega) p1) ?_);rintro en f ⟨a,x0,x1,x2,x3,m,y0,rs,y,z0,i,rfl,G,⟨v,x,u2⟩,P,t,o,C,U,V,W,I,k,X,p,u,c,T,L⟩;refine rv ?_;have J:=M.step1 G K;refine mv q (se q q (se q q (asg q (an q (nm q ?_)))));have E:=(maker_ok L).1;have D:=E.small;have A:=E.hd;have S:Pt tMk 102 f (fun _=>True) (.pointer (some ⟨a,0,none⟩)) m:=⟨_,_,q,trivial,P,tMk_mk C (U.ls (fun _ _=>trivial) fun _ _=>trivial) (V.ls (fun _ _=>trivial) fun _ _=>trivial) (W.ls (fun _ _=>trivial) fun _ _=>trivial) (I.sub fun _ _ _=>trivial)⟩;refine st_call fn10 q (mimage_any (Q:=fun _=>True) (fun _ _=>trivial) S 1 (by decide) A (by omega)) ?_;rintro en w3 ⟨u0,r0,j,rfl,H,r,R,N⟩;refine rv ?_;refine ar q ?_;refine ret1 trivial q q ⟨_,r0,q,J.k H,R.lsB (uQ.md J),_,_,_,L,C,N,?_⟩;rw[← N];exact imageM_len C.2.1 D
theorem kImageL_any (uQ:Up w Q) {v0:Value} {l:List Int} (h0:Ls tInt w Q v0 l) (most:Nat) (p1:most≤100000) :
  Calls Zp 19 #[v0,.int .i64 most] w fun en w'=>∃u0:Value,∃r0:List UInt8,en = .returned u0∧Md [] w w'∧Ls tB8 w' Q u0 r0∧imageOf l most=r0∧r0.length≤100000 :=
 (kImageM_any uQ h0 most p1).mono fun en w' ⟨u0,r0,h1,h2,h3,m,rs,s,h4,h5,h6,h7⟩=>⟨u0,r0,h1,h2,h3,by unfold imageOf;rw[h4];exact h6,h7⟩
theorem kImage_any (uQ:Up w Q) {v0:Value} {l:List Int} (h0:Ls tInt w Q v0 l) (most:Nat) (p1:most≤100000) :
  Calls Zp 19 #[v0,.int .i64 most] w fun en w'=>∃u0:Value,∃r0:List UInt8,en = .returned u0∧Md [] w w'∧Ls tB8 w' Q u0 r0∧imageOf l most=r0 :=
 (kImageL_any uQ h0 most p1).mono fun en w' ⟨u0,r0,h1,h2,h3,h4,_⟩=>⟨u0,r0,h1,h2,h3,h4⟩
theorem fn14:isFn Zp 14=true:=by kernel_rfl
theorem fn19:isFn Zp 19=true:=by kernel_rfl
theorem fn9:isFn Zp 9=true:=by kernel_rfl
theorem u31:Zp.underlying 31=some (.pointer 96):=by kernel_rfl
theorem kImageB_any (uQ:Up w Q) {v0:Value} {l:List Int} (h0:Ls tInt w Q v0 l) (most:Nat) (a1:most<9223372036854775808) (p0:most≤100000) :
  Calls Zp 19 #[v0,.int .i64 most] w fun en w'=>∃u0:Value,∃r0:List UInt8,en = .returned u0∧Md [] w w'∧Ls tB8 w' Q u0 r0∧imageOf l most=r0:=kImage_any uQ h0 most p0
theorem cFirst_any (uQ:Up w Q)  :
  Calls Zp 7 #[] w fun en w'=>∃r0:Bool,en = .returned (.bool r0)∧Md [] w w'∧true=r0:=by
 have M:=Md.refl [] w;have Aq:=uQ;refine enter (n:=29) Tryz.func7 q q q fun B=>ns (an q (ns (st_call fn19 q (kImageB_any uQ (Ls.nil tInt _ _) 0 (by first|omega|(simp<;>omega)) (by first|omega|(simp<;>omega)|(simp at *<;>omega))) ?_)));rintro en w1 ⟨Ab,Ac,rfl,I,V,W⟩;refine rv ?_;obtain⟨uQ,M⟩:=k2 I uQ M;have il:=img_len;obtain⟨y,X,e8⟩:=open_e11;rw[W]at il X;have Au:=open_len X rfl;refine st_call fn9 q (aOpen_any uQ V (by first|omega|(simp<;>omega)|(simp at *<;>omega))) ?_;rintro en w2 ⟨c,Ad,d,rfl,I,L,u,g⟩;refine rv ?_;obtain⟨uQ,M⟩:=k2 I uQ M;refine mv q (se q q (se q q (asg q (an q (c_seq (ns ?_))))));have oe:=X.symm.trans g;obtain⟨j,Am⟩:=Prod.mk.inj oe;obtain⟨Ao,k,l⟩:=open_tab X rfl;refine mv q (st _ (r_neN (a:=d) (b:=0) q q) (mv q ?_));refine part_n (t:=12) q (fun A=>?_) (fun A=>?_)
 ·(first|(have D:=dT A)|(have D:=dF (bnt A))|(have D:=bnt A)|(have D:=A));exfalso;omega
 (first|(have D:=dF A)|(have D:=dT (bnf A))|(have D:=bnf A)|(have D:=A));refine sg A (r_move q) (sg A (r_eqlPO L q u31) (st _ (r_pick_f q A q) (nt ?_)));refine c_if q (fun G=>?_) (fun G=>?_)
 ·(first|(have E:=dT G)|(have E:=dF (bnt G))|(have E:=bnt G)|(have E:=G));exfalso;simp_all
 (first|(have E:=dF G)|(have E:=dT (bnf G))|(have E:=bnf G)|(have E:=G));refine c_skip (c_then (ns ?_));have H:Pt tPView 96 w2 Q c y:=(by have h:=L;rw[j.symm]at h;exact h);clear L;refine mv q (st_buildSliceG [[(b8 65)],[(b8 61)],[(b8 49)]] u34 elT5 (by decide) (by decide) q q ⟨q,q,q,tV⟩ ⟨q,q,q,tV⟩ q (by decide) ?_);intro P w3 R Y I J;have O:Fsh [] w P:=Fsh.new M _ R;obtain⟨o,sQ,sT,K,Z⟩:=exQ uQ R Y I;replace H:=(H.sub sQ).o I;replace M:=M.k I;replace uQ:=Z;clear Z sQ sT;refine st_mark u34 u5 q (show Blk _ _ (([65,61,49]:Ly).map b8) _ from J) (By.of_blk (show Blk _ _ (([65,61,49]:Ly).map b8) _ from J) q (by decide)) ?_;intro w5 I r;have S:=J;clear J;have p:∀b∈[P],¬o b:=(hI K);replace H:=H.md I p;replace uQ:=uQ.md I;replace M:=M.step I (hI O);obtain⟨Q6,f,fT,T⟩:=lit_freeze (Q:=o) r;replace H:=H.sub (fun b U _=>f b U);replace uQ:Up w5 Q6:=fun b U=>f b (uQ b U);clear S p f fT r K;refine st_call fn14 q (cFindData_any uQ H T (by omega) (by exact k) (by exact l) (by simp)) ?_;rintro en w7 ⟨e,N,rfl,I,x,z,i⟩;refine rv ?_;replace M:=M.k I;refine mv q (se q q (se q q (asg q (an q (ns ?_)))));have fe:=(fst11_y X).symm.trans ((congrArg fst11 W).symm.trans fst11_0);have ff:=fe.symm.trans i;obtain⟨Ai,Aj⟩:=Prod.mk.inj ff
 refine mv q (st _ (r_eqN (a:=e) (b:=0) q q) (mv q ?_));refine part_n (t:=25) q (fun C=>?_) (fun C=>?_)
 ·(first|(have F:=dT C)|(have F:=dF (bnt C))|(have F:=bnt C)|(have F:=C));refine sg C (r_move q) (sg C (r_eqN (a:=N) (b:=16) q q) (st _ (r_pick_t q C q) (ar q ?_)));exact ret1L (v:=(.bool ((decide (N=16))))) trivial q ⟨q,tV⟩ ⟨(decide (N=16)),q,M,(by first|rfl|exact(decide_eq_true (by omega)).symm)⟩
 (first|(have F:=dF C)|(have F:=dT (bnf C))|(have F:=bnf C)|(have F:=C));exfalso;omega
end Go.Proofs.YtllaambooilnlaaGreat
namespace Go.Wk
open Go Go.RowKit
section
variable {m:Mk} {B:Ly} {H:PHead} {l:List Ob} {es:List EntG} {rs:List Rec}
end
end Go.Wk
namespace Go.Wk
open Go Go.RowKit
def slotP (ks:List Known) (s:Nat):List Nat:=(ks.filter fun k=>decide (k.slot=s)).map Known.pos
theorem slotP_app (ks:List Known) (k:Known) (s:Nat):slotP (ks ++ [k]) s=if k.slot=s then slotP ks s ++ [k.pos]else slotP ks s:=by
  unfold slotP
  rw[List.filter_append,List.map_append]
  by_cases h:k.slot=s
  · rw[if_pos h];simp[h]
  rw[if_neg h];simp[h]
theorem slotP_mem {ks:List Known} {s p:Nat} (h:p∈slotP ks s):∃k∈ks,k.pos=p∧k.slot=s:=by
  obtain⟨k,hk,rfl⟩:=List.mem_map.1 h
  obtain⟨A,B⟩:=List.mem_filter.1 hk
  exact⟨k,A,q,dT B⟩
theorem slotP_sub (ks:List Known) (s:Nat):(slotP ks s).Sublist (ks.map Known.pos):=List.filter_sublist.map _
theorem hangL_eq (s:Nat):∀(ks:List Known) (n q:Nat),hangL s ks n q=(n+(slotP ks s).length,(slotP ks s).getLastD q)
  | [],_,_=>rfl
  | k :: r,n,q=>by
    rw[hangL]
    unfold slotP
    rw[List.filter_cons]
    by_cases h:k.slot=s
    · rw[if_pos h,if_pos (decide_eq_true h),hangL_eq s r]
      simp only[List.map_cons,List.length_cons,List.getLastD_cons]
      unfold slotP
      congr 1;omega
    · rw[if_neg h,if_neg (by simpa using h),hangL_eq s r];rfl
theorem getD_app0 {l:List Nat} {p i:Nat} (h:i<l.length):(l ++ [p]).getD i 0=l.getD i 0:=by
  rw[List.getD_eq_getElem?_getD,List.getD_eq_getElem?_getD,List.getElem?_append_left h]
theorem getD_appn (l:List Nat) (p:Nat):(l ++ [p]).getD l.length 0=p:=by
  rw[List.getD_eq_getElem?_getD,List.getElem?_append_right (Nat.le_refl _),Nat.sub_self];rfl
theorem getD_out0 {l:List Nat} {i:Nat} (h:l.length≤i):l.getD i 0=0:=by rw[List.getD_eq_getElem?_getD,List.getElem?_eq_none h];rfl
theorem lastD_get (l:List Nat) (h:l≠[]):l[l.length-1]? = some (l.getLastD 0):=by
  rw[← List.getLast?_eq_getElem?,List.getLastD_eq_getLast?]
  cases hq:l.getLast? with
  | none=>exact absurd (List.getLast?_eq_none_iff.1 hq) h
  | some x=>rfl
theorem lastD_app (l:List Nat) (p:Nat):(l ++ [p]).getLastD 0=p:=by simp[List.getLastD_eq_getLast?]
structure Row24 (b:Ly) (tab n:Nat) (ks:List Known):Prop where
  slot:∀k∈ks,k.slot<n
  head:∀s:Nat,s<n→at8 b (tab+16*s)=(slotP ks s).getD 0 0
  next:∀s j p:Nat,(slotP ks s)[j]? = some p→at8 b (p+24)=(slotP ks s).getD (j+1) 0
def In24 (tab n:Nat) (ks:List Known) (a:Nat):Prop:=(∃s:Nat,s<n∧a=tab+16*s)∨∃k∈ks,a=k.pos+24
theorem Row24.keep {b c:Ly} {tab n:Nat} {ks:List Known} (h:Row24 b tab n ks) (hc:∀a,In24 tab n ks a→at8 c a=at8 b a):Row24 c tab n ks:=by
  refine⟨h.slot,fun s B=>(hc _ (.inl ⟨s,B,q⟩)).trans (h.head s B),fun s j p A=>?_⟩
  obtain⟨k,hk,e,_⟩:=slotP_mem (List.mem_of_getElem? A)
  exact(hc _ (.inr ⟨k,hk,by rw[e]⟩)).trans (h.next s j p A)
def keyK (k:Known):Nat × Nat × List UInt8:=(k.pos,k.slot,k.text)
theorem slotP_key {ks ks':List Known} (h:ks'.map keyK=ks.map keyK) (s:Nat):slotP ks' s=slotP ks s:=by
  have e:∀ks:List Known,slotP ks s=((ks.map keyK).filter fun q=>decide (q.2.1=s)).map Prod.fst:=fun ks=>by
    unfold slotP;rw[List.filter_map,List.map_map];rfl
  rw[e,e,h]
theorem mem_key {ks ks':List Known} (h:ks'.map keyK=ks.map keyK) {k:Known} (hk:k∈ks'):∃x∈ks,x.pos=k.pos∧x.slot=k.slot∧x.text=k.text:=by
  have:keyK k∈ks.map keyK:=h ▸ List.mem_map.2 ⟨k,hk,q⟩
  obtain⟨x,D,e⟩:=List.mem_map.1 this
  obtain⟨B,A⟩:=Prod.mk.inj e
  obtain⟨A,C⟩:=Prod.mk.inj A
  exact⟨x,D,B,A,C⟩
theorem Row24.key {b:Ly} {tab n:Nat} {ks ks':List Known} (h:Row24 b tab n ks) (hk:ks'.map keyK=ks.map keyK):Row24 b tab n ks':=by
  refine⟨fun k A=>?_,fun s C=>by rw[slotP_key hk];exact h.head s C,fun s j p B=>by rw[slotP_key hk]at B ⊢;exact h.next s j p B⟩
  obtain⟨x,D,_,e,_⟩:=mem_key hk A
  rw[← e];exact h.slot x D
def hangB (b:Ly) (ks:List Known) (tab p s:Nat):List UInt8 :=
  putN (if(slotP ks s).length=0 then putN b (tab+16*s) p else putN b ((slotP ks s).getLastD 0+24) p) (tab+16*s+8) p
theorem hang_b (m:Mk) (ks:List Known) (tab p s:Nat):(m.hang ks tab p s).2.b=hangB m.b ks tab p s:=by
  unfold Mk.hang
  rw[hangL_eq]
  simp only[Nat.zero_add]
  unfold hangB
  split <;> rfl
theorem hangB_len (b:Ly) (ks:List Known) (tab p s:Nat):(hangB b ks tab p s).length=b.length:=by
  unfold hangB;rw[putN_len];split <;> rw[putN_len]
section
variable {b:Ly} {tab n:Nat} {ks:List Known} {k:Known}
theorem asc_ne {l:List Nat} (h:l.Pairwise (· < ·)) {i j a c:Nat} (ha:l[i]? = some a) (hc:l[j]? = some c) (hij:i<j):a<c:=by
  obtain⟨A,rfl⟩:=List.getElem?_eq_some_iff.1 ha
  obtain⟨B,rfl⟩:=List.getElem?_eq_some_iff.1 hc
  exact List.pairwise_iff_getElem.1 h i j A B hij
theorem pos_inj (hn:(ks.map Known.pos).Pairwise (· < ·)) {x y:Known} (hx:x∈ks) (hy:y∈ks) (he:x.pos=y.pos):x=y:=by
  obtain⟨i,E⟩:=List.mem_iff_getElem?.1 hx
  obtain⟨j,B⟩:=List.mem_iff_getElem?.1 hy
  have C:(ks.map Known.pos)[i]? = some x.pos:=by rw[List.getElem?_map,E];rfl
  have D:(ks.map Known.pos)[j]? = some y.pos:=by rw[List.getElem?_map,B];rfl
  rcases Nat.lt_trichotomy i j with A|rfl|A
  · have:=asc_ne hn C D A;omega
  · rw[E]at B;exact Option.some.inj B
  have:=asc_ne hn D C A;omega
theorem hangB_at (hs:k.slot<n) {a p:Nat} (h1:a+8≤tab+16*k.slot∨tab+16*k.slot+16≤a) (h2:∀x∈ks,a+8≤x.pos+24∨x.pos+32≤a):at8 (hangB b ks tab p k.slot) a=at8 b a:=by
  unfold hangB
  rw[at8_put (by omega)]
  split
  · exact at8_put (by omega)
  rename_i hne
  have A:=lastD_get (slotP ks k.slot) (fun e=>hne (by rw[e];rfl))
  obtain⟨x,B,e,_⟩:=slotP_mem (List.mem_of_getElem? A)
  have:=h2 x B
  exact at8_put (by omega)
theorem Row24.hang (h:Row24 b tab n ks) (hs:k.slot<n) (hf:∀x∈ks,tab+16*n≤x.pos) (hp:tab+16*n≤k.pos) (hsep:∀x∈ks,x.pos+40≤k.pos) (pair:∀x∈ks,∀y∈ks,x.pos=y.pos∨x.pos+40≤y.pos∨y.pos+40≤x.pos)
    (nd:(ks.map Known.pos).Pairwise (· < ·)) (hn:at8 b (k.pos+24)=0) (hl:k.pos+40≤b.length) (hk:k.pos<18446744073709551616):Row24 (hangB b ks tab k.pos k.slot) tab n (ks ++ [k]):=by
  have R:(slotP ks k.slot).Pairwise (· < ·):=nd.sublist (slotP_sub ks k.slot)
  have F:∀(c:Ly) (a:Nat),In24 tab n (ks ++ [k]) a→at8 (putN c (tab+16*k.slot+8) k.pos) a=at8 c a:=fun c a S=>by
    refine at8_put ?_
    rcases S with⟨s,X,rfl⟩|⟨x,A,rfl⟩
    · rcases Nat.lt_or_ge k.slot s with M|M <;> omega
    · rcases List.mem_append.1 A with A|A
      · have:=hf x A;omega
      · rw[List.mem_singleton]at A;subst A;omega
  have I:∀s:Nat,s<n→In24 tab n (ks ++ [k]) (tab+16*s):=fun s hs=>.inl ⟨s,hs,rfl⟩
  have E:∀x∈ks,In24 tab n (ks ++ [k]) (x.pos+24):=fun x A=>.inr ⟨x,by simp[A],rfl⟩
  have J:In24 tab n (ks ++ [k]) (k.pos+24):=.inr ⟨k,by simp,rfl⟩
  have slot':∀x∈ks ++ [k],x.slot<n:=fun x A=>by
    rcases List.mem_append.1 A with A|A
    · exact h.slot x A
    · rw[List.mem_singleton]at A;subst A;exact hs
  unfold hangB
  by_cases h0:(slotP ks k.slot).length=0
  · have O:slotP ks k.slot=[]:=List.eq_nil_of_length_eq_zero h0
    rw[if_pos h0]
    refine⟨slot',fun s C=>?_,fun s j p B=>?_⟩
    · rw[F _ _ (I s C),slotP_app]
      by_cases e:k.slot=s
      · subst e
        rw[if_pos rfl,O,at8_put_same (by omega) hk];rfl
      rw[if_neg e,at8_put (by rcases Nat.lt_or_ge k.slot s with M|M<;>omega)];exact h.head s C
    rw[slotP_app]at B ⊢
    by_cases e:k.slot=s
    · subst e
      rw[if_pos rfl,O]at B ⊢
      obtain rfl:j=0:=by
        have:=(List.getElem?_eq_some_iff.1 B).1;simp at this;exact this
      obtain rfl:k.pos=p:=by simpa using B
      rw[F _ _ J,at8_put (by omega),hn];rfl
    rw[if_neg e]at B ⊢
    obtain⟨x,A,H,_⟩:=slotP_mem (List.mem_of_getElem? B)
    have:=hf x A
    subst H
    rw[F _ _ (E x A),at8_put (by omega)]
    exact h.next s j _ B
  rw[if_neg h0]
  have N:slotP ks k.slot≠[]:=fun e=>h0 (by rw[e];rfl)
  have K:=lastD_get _ N
  generalize (slotP ks k.slot).getLastD 0=q at K
  obtain⟨y,G,Q,L⟩:=slotP_mem (List.mem_of_getElem? K)
  have T:=hf y G
  have V:=hsep y G
  refine⟨slot',fun s C=>?_,fun s j p B=>?_⟩
  · rw[F _ _ (I s C),at8_put (by omega),h.head s C,slotP_app]
    by_cases e:k.slot=s
    · subst e;rw[if_pos rfl,getD_app0 (by omega)]
    rw[if_neg e]
  rw[slotP_app]at B ⊢
  by_cases e:k.slot=s
  · subst e
    rw[if_pos rfl]at B ⊢
    rcases Nat.lt_trichotomy j ((slotP ks k.slot).length-1)with D|D|D
    · rw[List.getElem?_append_left (by omega)]at B
      obtain⟨x,A,H,_⟩:=slotP_mem (List.mem_of_getElem? B)
      have:=asc_ne R B K (by omega)
      subst H
      have:=pair x A y G
      rw[F _ _ (E x A),at8_put (by omega),h.next _ j _ B,getD_app0 (by omega)]
    · rw[List.getElem?_append_left (by omega),D,K]at B
      cases B
      rw[F _ _ (by rw[← Q];exact E y G),at8_put_same (by omega) hk,D,show(slotP ks k.slot).length-1+1=(slotP ks k.slot).length by omega,getD_appn]
    have:=(List.getElem?_eq_some_iff.1 B).1
    simp only[List.length_append,List.length_singleton]at this
    obtain rfl:j=(slotP ks k.slot).length:=by omega
    rw[List.getElem?_append_right (Nat.le_refl _),Nat.sub_self]at B
    obtain rfl:k.pos=p:=by simpa using B
    rw[F _ _ J,at8_put (by omega),hn,getD_out0 (by simp)]
  rw[if_neg e]at B ⊢
  obtain⟨x,A,H,P⟩:=slotP_mem (List.mem_of_getElem? B)
  have W:x.pos≠y.pos:=fun U=>e (by rw[← L,← P,pos_inj nd A G U])
  have:=pair x A y G
  subst H
  rw[F _ _ (E x A),at8_put (by omega)]
  exact h.next s j _ B
end
def nameT (t:Ly):List UInt8:=t.takeWhile fun c=>decide (c≠61)
theorem nameT_pay {q:Pr} (h:∀c∈q.name,c≠61):nameT (payload q)=q.name:=by
  unfold nameT payload
  rw[List.append_assoc,List.takeWhile_append_of_pos (fun c A=>decide_eq_true (h c A))]
  simp
def dataP (ds:List Known) (t:Ly):List Nat:=(ds.filter fun k=>decide (nameT k.text=t)).map Known.pos
theorem dataP_app (ds:List Known) (k:Known) (t:Ly):dataP (ds ++ [k]) t=if nameT k.text=t then dataP ds t ++ [k.pos]else dataP ds t:=by
  unfold dataP
  rw[List.filter_append,List.map_append]
  by_cases h:nameT k.text=t
  · rw[if_pos h];simp[h]
  rw[if_neg h];simp[h]
theorem dataP_mem {ds:List Known} {t:Ly} {p:Nat} (h:p∈dataP ds t):∃k∈ds,k.pos=p∧nameT k.text=t:=by
  obtain⟨k,hk,rfl⟩:=List.mem_map.1 h
  obtain⟨A,B⟩:=List.mem_filter.1 hk
  exact⟨k,A,q,dT B⟩
theorem dataP_key {ks ks':List Known} (h:ks'.map keyK=ks.map keyK) (t:Ly):dataP ks' t=dataP ks t:=by
  have e:∀ks:List Known,dataP ks t=((ks.map keyK).filter fun q=>decide (nameT q.2.2=t)).map Prod.fst:=fun ks=>by
    unfold dataP;rw[List.filter_map,List.map_map];rfl
  rw[e,e,h]
structure RowD (b:Ly) (ds fs:List Known):Prop where
  head:∀f∈fs,at8 b (f.pos+32)=(dataP ds f.text).getLastD 0
  next:∀(t:Ly) (j p:Nat),(dataP ds t)[j]? = some p→at8 b (p+32)=if j=0 then 0 else(dataP ds t).getD (j-1) 0
theorem RowD.keep {b c:Ly} {ds fs:List Known} (h:RowD b ds fs) (h1:∀k∈ds,at8 c (k.pos+32)=at8 b (k.pos+32)) (h2:∀f∈fs,at8 c (f.pos+32)=at8 b (f.pos+32)):RowD c ds fs:=by
  refine⟨fun f A=>(h2 f A).trans (h.head f A),fun t j p B=>?_⟩
  obtain⟨k,hk,e,_⟩:=dataP_mem (List.mem_of_getElem? B)
  subst e
  exact(h1 k hk).trans (h.next t j _ B)
theorem RowD.key {b:Ly} {ds ds' fs:List Known} (h:RowD b ds fs) (hk:ds'.map keyK=ds.map keyK):RowD b ds' fs :=
  ⟨fun f hf=>by rw[dataP_key hk];exact h.head f hf,fun t j p hp=>by rw[dataP_key hk]at hp ⊢;exact h.next t j p hp⟩
theorem RowD.field {b:Ly} {ds fs:List Known} {f:Known} (h:RowD b ds fs) (h0:at8 b (f.pos+32)=0) (hn:∀k∈ds,nameT k.text≠f.text):RowD b ds (fs ++ [f]):=by
  refine⟨fun g A=>?_,h.next⟩
  rcases List.mem_append.1 A with A|A
  · exact h.head g A
  rw[List.mem_singleton]at A;subst A
  rw[h0]
  have:dataP ds g.text=[]:=by
    unfold dataP
    rw[List.map_eq_nil_iff,List.filter_eq_nil_iff]
    intro k hk;simpa using hn k hk
  rw[this];rfl
theorem RowD.put {b:Ly} {ds fs:List Known} {f k:Known} {v:Nat} (h:RowD b ds fs) (hf:f∈fs) (ht:f.text=nameT k.text) (hv:v=at8 b (f.pos+32)) (one:∀x∈fs,∀y∈fs,(x.text=y.text↔x.pos=y.pos))
    (ap1:∀x∈ds,(x.pos+40≤k.pos∨k.pos+40≤x.pos)∧(x.pos+40≤f.pos∨f.pos+40≤x.pos)) (ap2:∀g∈fs,(g.pos+40≤k.pos∨k.pos+40≤g.pos)∧(g.pos=f.pos∨g.pos+40≤f.pos∨f.pos+40≤g.pos)) (hk:k.pos<18446744073709551616) (l1:k.pos+40≤b.length) (l2:f.pos+40≤b.length) :
    RowD (putN (putN b (k.pos+32) v) (f.pos+32) k.pos) (ds ++ [k]) fs:=by
  have L:=(ap2 f hf).1
  refine⟨fun g C=>?_,fun t j p A=>?_⟩
  · rw[dataP_app]
    by_cases e:nameT k.text=g.text
    · rw[if_pos e,lastD_app,(one g C f hf).1 (by rw[ht,e]),at8_put_same (by rw[putN_len];omega) hk]
    rw[if_neg e]
    have K:=ap2 g C
    have J:g.pos≠f.pos:=fun I=>e (by rw[(one g C f hf).2 I,ht])
    rw[at8_put (by omega),at8_put (by omega)]
    exact h.head g C
  rw[dataP_app]at A ⊢
  by_cases e:nameT k.text=t
  · rw[if_pos e]at A ⊢
    rcases Nat.lt_or_ge j (dataP ds t).length with F|F
    · rw[List.getElem?_append_left F]at A
      obtain⟨x,E,D,_⟩:=dataP_mem (List.mem_of_getElem? A)
      have G:=ap1 x E
      subst D
      rw[at8_put (by omega),at8_put (by omega),h.next t j _ A]
      split
      · rfl
      rw[getD_app0 (by omega)]
    have:=(List.getElem?_eq_some_iff.1 A).1
    simp only[List.length_append,List.length_singleton]at this
    obtain rfl:j=(dataP ds t).length:=by omega
    rw[List.getElem?_append_right (Nat.le_refl _),Nat.sub_self]at A
    obtain rfl:k.pos=p:=by simpa using A
    have B:=h.head f hf
    rw[ht,e]at B
    rw[at8_put (by omega),at8_put_same (by omega) (by rw[hv];exact at8_lt _ _),hv,B]
    split
    · rename_i h0
      rw[List.eq_nil_of_length_eq_zero h0];rfl
    rename_i h0
    have:=lastD_get (dataP ds t) (fun H=>h0 (by rw[H];rfl))
    rw[getD_app0 (by omega),List.getD_eq_getElem?_getD,this];rfl
  rw[if_neg e]at A ⊢
  obtain⟨x,E,D,_⟩:=dataP_mem (List.mem_of_getElem? A)
  have G:=ap1 x E
  subst D
  rw[at8_put (by omega),at8_put (by omega)]
  exact h.next t j _ A
end Go.Wk
namespace Go.Wk
open Go Go.RowKit
structure Hs (m:Mk):Prop where
  r4:Row24 m.b 288 m.c.dataSlots m.datas
  r5:Row24 m.b (304+16*m.c.dataSlots) m.c.fieldSlots m.fields
  rd:RowD m.b m.datas m.fields
  s4:∀k∈m.datas,k.slot=hashM m k.text%m.c.dataSlots
  s5:∀k∈m.fields,k.slot=hashM m k.text%m.c.fieldSlots
  own:∀k∈m.datas,∃f∈m.fields,f.text=nameT k.text
  bear:∀f∈m.fields,∃k∈m.datas,nameT k.text=f.text
  one:∀x∈m.fields,∀y∈m.fields,x.text=y.text→x=y
  a4:(m.datas.map Known.pos).Pairwise (· < ·)
  a5:(m.fields.map Known.pos).Pairwise (· < ·)
  n15:m.num 15=m.datas.length
  n16:m.num 16=m.fields.length
  c15:m.datas.length≤m.b.length
  c16:m.fields.length≤m.b.length
  h20:m.h.n.length=20
theorem get_at8 {b:Ly} {q:Nat} (h:q+8≤b.length):(getF b (q:Nat) 8).1=at8 b q:=by
  unfold getF at8
  rw[if_pos ⟨by decide,by omega,by omega⟩]
  simp
theorem num_same {m:Mk} {k v:Nat} (h:k<m.h.n.length):(m.setN k v).num k=v:=by
  show(m.h.n.set k v).getD k 0=v
  rw[List.getD_eq_getElem?_getD,List.getElem?_set_self h];rfl
def fobj (h:Nat) (t:Ly):List UInt8:=putFieldF {hash:=h,nextHash:=0,dat:=0,payload:=t}
def dobj (h:Nat) (t:Ly):List UInt8:=putDataF {hash:=h,nextHash:=0,nextField:=0,entry:=0,array:=0,count:=0,payload:=t}
theorem fobj_at {h:Nat} (t:Ly) (hh:h<18446744073709551616):(fobj h t).length=up8 (40+t.length)∧at8 (fobj h t) 24=0∧at8 (fobj h t) 32=0:=by
  have e:fobj h t=putF 2 (nums [h,0,0] ++ t):=rfl
  obtain⟨_,A,B,_⟩:=objB (k:=2) (by decide) [h,0,0] t (by intro v hv;simp at hv;omega)
  rw[← e]at A B
  simp only[List.length_cons,List.length_nil,Nat.zero_add,Nat.reduceAdd,Nat.reduceMul]at A
  exact⟨A,B 1 _ q,B 2 _ q⟩
theorem dobj_at {h:Nat} (t:Ly) (hh:h<18446744073709551616):(dobj h t).length=up8 (64+t.length)∧at8 (dobj h t) 24=0:=by
  have e:dobj h t=putF 1 (nums [h,0,0,0,0,0] ++ t):=rfl
  obtain⟨_,A,B,_⟩:=objB (k:=1) (by decide) [h,0,0,0,0,0] t (by intro v hv;simp at hv;omega)
  rw[← e]at A B
  simp only[List.length_cons,List.length_nil,Nat.zero_add,Nat.reduceAdd,Nat.reduceMul]at A
  exact⟨A,B 1 _ q⟩
def kn (t:Ly) (p s:Nat):Known:={text:=t,pos:=p,slot:=s,count:=0,arrays:=[]}
theorem obj_num (m:Mk) (o:Ly) {i:Nat} (h:i≠6∧i≠7):(m.object o).2.num i=m.num i:=by
  simp only[Mk.object];rw[num_setN (by omega),num_setN (by omega)];rfl
theorem obj_nl (m:Mk) (o:Ly):(m.object o).2.h.n.length=m.h.n.length:=by simp[Mk.object,Mk.setN]
theorem field_new {m:Mk} {name:Ly} (hk:findK name m.fields=none) (h20:m.h.n.length=20) :
    ∃z,m.field name=(m.b.length,z)∧z.b=hangB (m.b ++ fobj (hashM m name) name) m.fields (m.num 4) m.b.length (hashM m name%m.c.fieldSlots)∧z.fields=m.fields ++ [kn name m.b.length (hashM m name%m.c.fieldSlots)]∧z.datas=m.datas∧z.c=m.c∧z.num 15=m.num 15∧z.num 16=(m.num 16+1)%18446744073709551616∧z.h.n.length=20:=by
  unfold Mk.field
  rw[hk]
  simp only
  have H:=object_spec m (fobj (hashM m name) name)
  have I:=object_same m (fobj (hashM m name) name)
  have D:=fun i S=>obj_num m (fobj (hashM m name) name) (i:=i) S
  have J:=obj_nl m (fobj (hashM m name) name)
  have K:(m.object (fobj (hashM m name) name)).2.b=m.b ++ fobj (hashM m name) name:=rfl
  rw[show putFieldF {hash:=hashN m.c.keyed m.c.file name,nextHash:=0,dat:=0,payload:=name}=fobj (hashM m name) name from rfl]
  generalize m.object (fobj (hashM m name) name)=r at *
  obtain⟨p,A⟩:=r
  simp only at H I D J K ⊢
  obtain⟨E,O,F,_⟩:=I
  have L:=hang_b A A.fields (A.num 4) p (hashN m.c.keyed m.c.file name%A.c.fieldSlots)
  have N:=hang_same A A.fields (A.num 4) p (hashN m.c.keyed m.c.file name%A.c.fieldSlots)
  generalize A.hang A.fields (A.num 4) p (hashN m.c.keyed m.c.file name%A.c.fieldSlots)=r at *
  obtain⟨n,B⟩:=r
  simp only at L N ⊢
  obtain⟨P,Q,R,U,V,G⟩:=N
  have M:p=m.b.length:=H.1
  have C:∀i,B.num i=A.num i:=fun i=>by show B.h.n.getD i 0=_;rw[G];rfl
  have T:({B with depth:=max A.depth n}:Mk).h.n.length=20:=by show B.h.n.length=20;rw[G,J,h20]
  refine⟨_,by rw[M],?_,?_,?_,?_,?_,?_,?_⟩
  · show B.b=_;rw[L,K,F,D 4 (by decide),M,E];rfl
  · show B.fields ++ _=_;rw[R,F,E];rfl
  · show B.datas=_;rw[Q,O]
  · show B.c=_;rw[P,E]
  · show(Mk.setN _ 16 _).num 15=_
    rw[num_setN (by decide)];show B.num 15=_;rw[C,D 15 (by decide)]
  · show(Mk.setN _ 16 _).num 16=_
    rw[num_same (by omega)];show(B.num 16+1)%_=_;rw[C,D 16 (by decide)]
  show(B.h.n.set 16 _).length=20;rw[List.length_set];exact T
theorem data_new {m:Mk} {x:Pr} (hk:findI (payload x) m.datas 0=none) (h20:m.h.n.length=20) :
    ∃z:Mk,z.b=hangB (m.b ++ dobj (hashM m (payload x)) (payload x)) m.datas (m.num 2) m.b.length (hashM m (payload x)%m.c.dataSlots)∧z.datas=m.datas ++ [kn (payload x) m.b.length (hashM m (payload x)%m.c.dataSlots)]∧z.fields=m.fields∧z.c=m.c∧z.num 15=(m.num 15+1)%18446744073709551616∧z.num 16=m.num 16∧z.num 4=m.num 4∧z.h.n.length=20 ∧
      (m.data x).2=(((z.field x.name).2.put (m.b.length+32) (getF (z.field x.name).2.b ((z.field x.name).1+32:Nat) 8).1).put ((z.field x.name).1+32) m.b.length):=by
  unfold Mk.data
  rw[hk]
  simp only
  have I:=object_spec m (dobj (hashM m (payload x)) (payload x))
  have J:=object_same m (dobj (hashM m (payload x)) (payload x))
  have D:=fun i S=>obj_num m (dobj (hashM m (payload x)) (payload x)) (i:=i) S
  have K:=obj_nl m (dobj (hashM m (payload x)) (payload x))
  have L:(m.object (dobj (hashM m (payload x)) (payload x))).2.b=m.b ++ dobj (hashM m (payload x)) (payload x):=rfl
  rw[show putDataF {hash:=hashN m.c.keyed m.c.file (payload x),nextHash:=0,nextField:=0,entry:=0,array:=0,count:=0,payload:=payload x}=dobj (hashM m (payload x)) (payload x)from rfl]
  generalize m.object (dobj (hashM m (payload x)) (payload x))=r at *
  obtain⟨p,B⟩:=r
  simp only at I J D K L ⊢
  obtain⟨E,G,O,_⟩:=J
  have M:=hang_b B B.datas (B.num 2) p (hashN m.c.keyed m.c.file (payload x)%B.c.dataSlots)
  have N:=hang_same B B.datas (B.num 2) p (hashN m.c.keyed m.c.file (payload x)%B.c.dataSlots)
  generalize B.hang B.datas (B.num 2) p (hashN m.c.keyed m.c.file (payload x)%B.c.dataSlots)=r at *
  obtain⟨n,A⟩:=r
  simp only at M N ⊢
  obtain⟨P,Q,R,V,W,H⟩:=N
  have F:p=m.b.length:=I.1
  have C:∀i,A.num i=B.num i:=fun i=>by show A.h.n.getD i 0=_;rw[H];rfl
  have T:A.h.n.length=20:=by rw[H,K,h20]
  have U:(A.setN 19 (max (A.num 19) n)).h.n.length=20:=by show(A.h.n.set 19 _).length=20;rw[List.length_set];exact T
  refine⟨({(A.setN 19 (max (A.num 19) n)).setN 15 (((A.setN 19 (max (A.num 19) n)).num 15+1)%18446744073709551616)with datas:=A.datas ++ [kn (payload x) p (hashN m.c.keyed m.c.file (payload x)%B.c.dataSlots)]}:Mk),?_,?_,?_,?_,?_,?_,?_,?_,?_⟩
  · show A.b=_;rw[M,L,G,D 2 (by decide),F,E];rfl
  · show A.datas ++ _=_;rw[Q,G,F,E];rfl
  · show A.fields=_;rw[R,O]
  · show A.c=_;rw[P,E]
  · show(Mk.setN _ 15 _).num 15=_
    rw[num_same (by omega),num_setN (by decide),C,D 15 (by decide)]
  · show(Mk.setN _ 15 _).num 16=_
    rw[num_setN (by decide),num_setN (by decide),C,D 16 (by decide)]
  · show(Mk.setN _ 15 _).num 4=_
    rw[num_setN (by decide),num_setN (by decide),C,D 4 (by decide)]
  · show(List.set _ 15 _).length=20;rw[List.length_set];exact U
  subst F;rfl
theorem put_sm (m:Mk) (p v:Nat):(m.put p v).datas=m.datas∧(m.put p v).fields=m.fields∧(m.put p v).c=m.c∧(m.put p v).h=m.h∧(m.put p v).b=putN m.b p v:=by
  unfold Mk.put;exact⟨q,q,q,q,q⟩
theorem put_two (m:Mk) (p v q u:Nat):∃R,(m.put p v).put q u=R∧R.datas=m.datas∧R.fields=m.fields∧R.c=m.c∧(∀i,R.num i=m.num i)∧R.h.n.length=m.h.n.length∧R.b=putN (putN m.b p v) q u:=by
  obtain⟨C,D,E,A,F⟩:=put_sm m p v
  obtain⟨G,H,I,B,J⟩:=put_sm (m.put p v) q u
  exact⟨_,rfl,G.trans C,H.trans D,I.trans E,fun i=>by unfold Mk.num;rw[B,A],by rw[B,A],by rw[J,F]⟩
section
variable {m:Mk} {l:List Ob}
theorem Stat.far (h:Stat m l) {o:Ob} (ho:o∈l) (hk:o.kind=1∨o.kind=2):304+16*m.c.dataSlots+16*m.c.fieldSlots≤o.pos:=by
  have B:=h.objs.mem ho
  have g:=B.ge
  have E:=up8_ge o.size
  have C:up8 (16+16*m.c.dataSlots)=16+16*m.c.dataSlots:=by unfold up8;omega
  have u5:up8 (16+16*m.c.fieldSlots)=16+16*m.c.fieldSlots:=by unfold up8;omega
  have D:=B.size.1
  rcases h.objs.sep ho h.tab4 with e|e|e
  · subst e;simp at hk
  · simp only at e;omega
  simp only[C]at e
  rcases h.objs.sep ho h.tab5 with A|A|A
  · subst A;simp at hk
  · simp only at A;omega
  simp only[u5]at A;omega
theorem Stat.two (h:Stat m l) {o x:Ob} (ho:o∈l) (hx:x∈l) (so:40≤o.size) (sx:40≤x.size):o.pos=x.pos∨o.pos+40≤x.pos∨x.pos+40≤o.pos:=by
  have:=up8_ge o.size
  have:=up8_ge x.size
  rcases h.objs.sep ho hx with e|e|e
  · exact .inl (by rw[e])
  · exact .inr (.inl (by omega))
  exact .inr (.inr (by omega))
theorem Stat.apart (h:Stat m l) {o x:Ob} (ho:o∈l) (hx:x∈l) (so:40≤o.size) (sx:40≤x.size) (hk:o.kind≠x.kind):o.pos+40≤x.pos∨x.pos+40≤o.pos:=by
  have:=up8_ge o.size
  have:=up8_ge x.size
  rcases h.objs.sep ho hx with e|e|e
  · exact absurd (congrArg Ob.kind e) hk
  · exact .inl (by omega)
  exact .inr (by omega)
theorem Stat.top (h:Stat m l) {o:Ob} (ho:o∈l) (so:40≤o.size):o.pos+40≤m.b.length:=by
  have:=up8_ge o.size
  have:=(h.objs.mem ho).le
  omega
theorem Stat.dd (h:Stat m l):(∀x∈m.datas,304+16*m.c.dataSlots+16*m.c.fieldSlots≤x.pos∧x.pos+40≤m.b.length)∧(∀x∈m.fields,304+16*m.c.dataSlots+16*m.c.fieldSlots≤x.pos∧x.pos+40≤m.b.length) ∧
    (∀x∈m.datas,∀y∈m.datas,x.pos=y.pos∨x.pos+40≤y.pos∨y.pos+40≤x.pos)∧(∀x∈m.fields,∀y∈m.fields,x.pos=y.pos∨x.pos+40≤y.pos∨y.pos+40≤x.pos)∧(∀x∈m.datas,∀y∈m.fields,x.pos+40≤y.pos∨y.pos+40≤x.pos):=by
  refine⟨fun x A=>?_,fun x A=>?_,fun x A y B=>?_,fun x A y B=>?_,fun x A y B=>?_⟩
  · have o:=(h.data x A).ob;exact⟨h.far o (.inl q),h.top o (by simp only;omega)⟩
  · have o:=(h.fld x A).ob;exact⟨h.far o (.inr q),h.top o (by simp only;omega)⟩
  · exact h.two (h.data x A).ob (h.data y B).ob (by simp only;omega) (by simp only;omega)
  · exact h.two (h.fld x A).ob (h.fld y B).ob (by simp only;omega) (by simp only;omega)
  exact h.apart (h.data x A).ob (h.fld y B).ob (by simp only;omega) (by simp only;omega) (by simp)
end
theorem asc_snoc {ks:List Known} {k:Known} (h:(ks.map Known.pos).Pairwise (· < ·)) (hk:∀x∈ks,x.pos<k.pos):((ks ++ [k]).map Known.pos).Pairwise (· < ·):=by
  rw[List.map_append,List.pairwise_append]
  refine⟨h,by simp,fun a B b A=>?_⟩
  obtain⟨x,C,rfl⟩:=List.mem_map.1 B
  simp only[List.map_cons,List.map_nil,List.mem_singleton]at A
  subst A;exact hk x C
theorem findK_none:∀{l:List Known} {s:Ly},findK s l=none→∀k∈l,k.text≠s
  | [],_,_,_,h=>by cases h
  | x :: l,s,h,k,hk=>by
    rw[findK]at h
    split at h
    · cases h
    · rename_i hx
      rcases List.mem_cons.1 hk with rfl|hk
      · exact hx
      · exact findK_none h k hk
theorem Row24.keepE {b c:Ly} {tab n:Nat} {ks:List Known} (h:Row24 b tab n ks) (h1:∀s:Nat,s<n→at8 c (tab+16*s)=at8 b (tab+16*s)) (h2:∀k∈ks,at8 c (k.pos+24)=at8 b (k.pos+24)):Row24 c tab n ks:=h.keep fun a ha=>by
  rcases ha with⟨s,hs,rfl⟩|⟨k,hk,rfl⟩
  · exact h1 s hs
  · exact h2 k hk
set_option maxHeartbeats 2000000 in
theorem hs_data {m:Mk} {l:List Ob} (h:Stat m l) (H:Hs m) (x:Pr) (he:∀c∈x.name,c≠61) (hb:m.b.length<900000) (hl:(payload x).length≤1000∧x.name.length≤1000) :
    Hs (m.data x).2∧(m.data x).2.datas.map Known.text=if payload x∈m.datas.map Known.text then m.datas.map Known.text else m.datas.map Known.text ++ [payload x]:=by
  cases hk:findI (payload x) m.datas 0 with
  | some i =>
    obtain⟨k,A,L,_⟩:=findI_get hk
    have e:(m.data x).2=m:=by unfold Mk.data;rw[hk]
    rw[e,if_pos (List.mem_map.2 ⟨k,List.mem_of_getElem? A,L⟩)]
    exact⟨H,q⟩
  | none =>
    have A6:=findI_none hk
    obtain⟨z,z1,S,z3,T,z5,z6,z7,z8,z9⟩:=data_new (m:=m) (x:=x) hk H.h20
    obtain⟨r,kp,kt,ks,ek⟩:∃r:Known,r.pos=m.b.length∧r.text=payload x∧r.slot=hashM m (payload x)%m.c.dataSlots∧kn (payload x) m.b.length (hashM m (payload x)%m.c.dataSlots)=r:=⟨_,q,q,q,q⟩
    rw[ek]at S
    clear ek
    obtain⟨U,J,d2,f2,V⟩:=h.dd
    have Br:=h.slots
    have hh:=hashM_lt m (payload x)
    obtain⟨o1,o2⟩:=dobj_at (payload x) hh
    have Ax:hashM m (payload x)%m.c.dataSlots<m.c.dataSlots:=Nat.mod_lt _ (by omega)
    have hu:=up8_ge (64+(payload x).length)
    generalize ho:dobj (hashM m (payload x)) (payload x)=o at *
    rw[h.n2]at z1
    -- the datum stands in its chain
    have B1:(m.b ++ o).length=m.b.length+o.length:=List.length_append
    have Aj:∀a,a+8≤m.b.length→at8 (m.b ++ o) a=at8 m.b a:=fun a M=>at8_app M
    have K:Row24 z.b 288 m.c.dataSlots z.datas:=by
      rw[z1,S,← kp,← ks]
      have A:Row24 (m.b ++ o) 288 m.c.dataSlots m.datas:=H.r4.keepE (fun s hs=>Aj _ (by have:=h.objs.mem h.tab4;have:=this.le;have:=up8_ge (16+16*m.c.dataSlots);simp only at *;omega)) fun k hk=>Aj _ (by have:=U k hk;omega)
      have t4:=h.objs.mem h.tab4
      have Ba:=t4.le
      have Bz:=up8_ge (16+16*m.c.dataSlots)
      simp only at Ba
      exact A.hang (k:=r) (by rw[ks];exact Ax) (fun y N=>by have:=U y N;omega) (by omega) (fun y N=>by have:=U y N;omega) d2 H.a4 (by rw[kp,at8_new];exact o2) (by omega) (by omega)
    have Bg:304+16*m.c.dataSlots+16*m.c.fieldSlots≤m.b.length:=by
      have:=h.objs.mem h.tab5;have:=this.le;have:=up8_ge (16+16*m.c.fieldSlots);simp only at *;omega
    have Ae:∀a,a+8≤m.b.length→(a+8≤288+16*(hashM m (payload x)%m.c.dataSlots)∨288+16*(hashM m (payload x)%m.c.dataSlots)+16≤a)→(∀y∈m.datas,a+8≤y.pos+24∨y.pos+32≤a)→at8 z.b a=at8 m.b a:=fun a M A L=>by
      rw[z1]
      rw[← ks]at A ⊢
      exact(hangB_at (n:=m.c.dataSlots) (by rw[ks];exact Ax) A L).trans (Aj a M)
    have F:Row24 z.b (304+16*m.c.dataSlots) m.c.fieldSlots z.fields:=by
      rw[z3]
      exact H.r5.keepE (fun s hs=>Ae _ (by omega) (by omega) fun y N=>by have:=U y N;omega) fun k hk=>Ae _ (by have:=J k hk;omega) (by have:=J k hk;omega) fun y N=>by have:=V y N k hk;omega
    have D:RowD z.b m.datas z.fields:=by
      rw[z3]
      exact H.rd.keep (fun k hk=>Ae _ (by have:=U k hk;omega) (by have:=U k hk;omega) fun y N=>by have:=d2 y N k hk;omega) fun f X=>Ae _ (by have:=J f X;omega) (by have:=J f X;omega) fun y N=>by have:=V y N f X;omega
    have zb:z.b.length=m.b.length+o.length:=by rw[z1,hangB_len,B1]
    have A7:∀t,hashM z t=hashM m t:=fun t=>by unfold hashM;rw[T]
    rw[z9]
    have Az:∀(w:Mk),w.datas=z.datas→w.datas.map Known.text=if payload x∈m.datas.map Known.text then m.datas.map Known.text else m.datas.map Known.text ++ [payload x]:=fun w hw=>by
      rw[hw,S,if_neg (fun hm=>by obtain⟨k,A,L⟩:=List.mem_map.1 hm;exact A6 k A L),List.map_append,List.map_cons,List.map_nil,kt]
    have a4:(z.datas.map Known.pos).Pairwise (· < ·):=by rw[S];exact asc_snoc H.a4 fun y N=>by have:=U y N;omega
    have Ay:z.num 15=z.datas.length:=by
      have:=H.c15
      rw[z5,S,H.n15,List.length_append];exact Nat.mod_eq_of_lt (by omega)
    have u:nameT (payload x)=x.name:=nameT_pay he
    cases X:findK x.name z.fields with
    | some p =>
      obtain⟨f,f1,rfl,f3⟩:=findK_mem X
      have e:z.field x.name=(f.pos,z):=by unfold Mk.field;rw[X]
      rw[e]
      simp only
      have fm:f∈m.fields:=z3 ▸ f1
      have Bo:=J f fm
      have C:(getF z.b (f.pos+32:Nat) 8).1=at8 z.b (f.pos+32):=get_at8 (by omega)
      have B:∀a,(a+8≤m.b.length+32∨m.b.length+40≤a)→(a+8≤f.pos+32∨f.pos+40≤a)→at8 (putN (putN z.b (m.b.length+32) (getF z.b (f.pos+32:Nat) 8).1) (f.pos+32) m.b.length) a=at8 z.b a:=fun a A L=>by
        rw[at8_put (by omega),at8_put (by omega)]
      have mk:∀y∈z.datas,y∈m.datas∨y=r:=fun y N=>by rw[S]at N;simpa using N
      obtain⟨Z,eZ,I,E,d,Rn,Rl,Y⟩:=put_two z (m.b.length+32) (getF z.b (f.pos+32:Nat) 8).1 (f.pos+32) m.b.length
      rw[eZ]
      clear eZ
      have Q:∀t,hashM Z t=hashM m t:=fun t=>by unfold hashM;rw[d,T]
      refine⟨⟨?_,?_,?_,?_,?_,?_,?_,?_,by rw[I];exact a4,?_,by rw[Rn,I];exact Ay,?_,?_,?_,Rl.trans z8⟩,Az _ I⟩
      · rw[Y,d,I,T]
        refine K.keepE (fun s hs=>B _ (by omega) (by omega)) fun k hk=>?_
        rcases mk k hk with A|rfl
        · have:=U k A;have:=V k A f fm;exact B _ (by omega) (by omega)
        · exact B _ (by omega) (by omega)
      · rw[Y,d,E,T]
        exact F.keepE (fun s hs=>B _ (by omega) (by omega)) fun k hk=>by
          rw[z3]at hk;have:=J k hk;have:=f2 k hk f fm;exact B _ (by omega) (by omega)
      · rw[Y,I,E,S,← kp]
        refine D.put (k:=r) f1 (by rw[f3,kt];exact u.symm) C (fun a M c W=>?_) (fun y N=>?_) (fun g R=>?_) (by omega) (by omega) (by omega)
        · rw[z3]at M W
          exact⟨fun e=>by rw[H.one a M c W e],fun e=>by rw[pos_inj H.a5 M W e]⟩
        · have:=U y N;have:=V y N f fm;omega
        · rw[z3]at R;have:=J g R;have:=f2 g R f fm;omega
      · intro k hk
        rw[I]at hk
        rw[Q,d,T]
        rcases mk k hk with A|rfl
        · exact H.s4 k A
        · rw[ks,kt]
      · intro k hk
        rw[E]at hk
        rw[Q,d,T];exact H.s5 k (z3 ▸ hk)
      · intro k hk
        rw[I]at hk
        rcases mk k hk with A|rfl
        · obtain⟨g,g1,g2⟩:=H.own k A;exact⟨g,by rw[E,z3];exact g1,g2⟩
        · exact⟨f,by rw[E];exact f1,by rw[f3,kt];exact u.symm⟩
      · intro g R
        rw[E]at R
        obtain⟨k,k1,kz2⟩:=H.bear g (z3 ▸ R)
        exact⟨k,by rw[I,S];simp[k1],kz2⟩
      · intro a M c W;rw[E]at M W;exact H.one a (z3 ▸ M) c (z3 ▸ W)
      · rw[E,z3];exact H.a5
      · rw[Rn,E,z6,z3];exact H.n16
      · rw[Y,I,putN_len,putN_len,zb,S,List.length_append];have:=H.c15;simp only[List.length_singleton];omega
      · rw[Y,E,putN_len,putN_len,zb,z3];have:=H.c16;omega
    | none =>
      have P:=findK_none X
      obtain⟨y,y1,y2,y3,y4,y5,y6,y7,y8⟩:=field_new (m:=z) (name:=x.name) X z8
      have R:=hashM_lt z x.name
      obtain⟨q1,q2,q3⟩:=fobj_at x.name R
      have hq:=up8_ge (40+x.name.length)
      have Al:hashM z x.name%z.c.fieldSlots<m.c.fieldSlots:=by rw[T];exact Nat.mod_lt _ (by omega)
      generalize fobj (hashM z x.name) x.name=fo at *
      obtain⟨fd,fp,ft,fs,ef⟩:∃fd:Known,fd.pos=z.b.length∧fd.text=x.name∧fd.slot=hashM z x.name%z.c.fieldSlots∧kn x.name z.b.length (hashM z x.name%z.c.fieldSlots)=fd:=⟨_,q,q,q,q⟩
      rw[ef]at y3
      clear ef
      rw[y1]
      simp only
      rw[z7,h.n4]at y2
      have B2:(z.b ++ fo).length=z.b.length+fo.length:=List.length_append
      have j:∀a,a+8≤z.b.length→at8 (z.b ++ fo) a=at8 z.b a:=fun a M=>at8_app M
      have yb:y.b.length=z.b.length+fo.length:=by rw[y2,hangB_len,B2]
      have mk:∀v∈z.datas,v∈m.datas∨v=r:=fun v C=>by rw[S]at C;simpa using C
      have G:Row24 y.b (304+16*m.c.dataSlots) m.c.fieldSlots y.fields:=by
        rw[y2,y3,z3,← fp,← fs]
        have A:Row24 (z.b ++ fo) (304+16*m.c.dataSlots) m.c.fieldSlots m.fields:=by
          rw[← z3]
          exact F.keepE (fun s hs=>j _ (by omega)) fun k hk=>j _ (by rw[z3]at hk;have:=J k hk;omega)
        exact A.hang (k:=fd) (by rw[fs];exact Al) (fun v C=>by have:=J v C;omega) (by omega) (fun v C=>by have:=J v C;omega) f2 H.a5 (by rw[fp,at8_new];exact q2) (by omega) (by omega)
      have O:∀a,a+8≤z.b.length→(a+8≤304+16*m.c.dataSlots+16*(hashM z x.name%z.c.fieldSlots)∨304+16*m.c.dataSlots+16*(hashM z x.name%z.c.fieldSlots)+16≤a)→(∀v∈m.fields,a+8≤v.pos+24∨v.pos+32≤a)→at8 y.b a=at8 z.b a:=fun a M A L=>by
        rw[y2,z3]
        rw[← fs]at A ⊢
        exact(hangB_at (n:=m.c.fieldSlots) (by rw[fs];exact Al) A L).trans (j a M)
      have K2:Row24 y.b 288 m.c.dataSlots z.datas:=by
        refine K.keepE (fun s hs=>O _ (by omega) (by omega) fun v C=>by have:=J v C;omega) fun k hk=>?_
        rcases mk k hk with A|rfl
        · have:=U k A;exact O _ (by omega) (by omega) fun v C=>by have:=V k A v C;omega
        · exact O _ (by omega) (by omega) fun v C=>by have:=J v C;omega
      have D2:RowD y.b m.datas y.fields:=by
        have A:RowD y.b m.datas z.fields:=D.keep (fun k hk=>by have:=U k hk;exact O _ (by omega) (by omega) fun v C=>by have:=V k hk v C;omega) fun f X=>by
          rw[z3]at X;have:=J f X;exact O _ (by omega) (by omega) fun v C=>by have:=f2 f X v C;omega
        rw[y3]
        refine A.field (f:=fd) ?_ fun k hk e=>?_
        · rw[y2,z3,← fs]
          refine(hangB_at (n:=m.c.fieldSlots) (by rw[fs];exact Al) (by rw[fs];omega) (fun v C=>by have:=J v C;omega)).trans ?_
          rw[fp,at8_new];exact q3
        · obtain⟨g,g1,g2⟩:=H.own k hk
          exact P g (by rw[z3];exact g1) (by rw[g2,e,ft])
      have C:(getF y.b (z.b.length+32:Nat) 8).1=at8 y.b (z.b.length+32):=get_at8 (by omega)
      have B:∀a,(a+8≤m.b.length+32∨m.b.length+40≤a)→(a+8≤z.b.length+32∨z.b.length+40≤a)→at8 (putN (putN y.b (m.b.length+32) (getF y.b (z.b.length+32:Nat) 8).1) (z.b.length+32) m.b.length) a=at8 y.b a:=fun a A L=>by
        rw[at8_put (by omega),at8_put (by omega)]
      have yd:y.datas=z.datas:=y4
      have Bt:∀t,hashM y t=hashM m t:=fun t=>by unfold hashM;rw[y5,T]
      have mf:∀g∈y.fields,g∈m.fields∨g=fd:=fun g R=>by rw[y3,z3]at R;simpa using R
      have f1:fd∈y.fields:=by rw[y3];simp
      obtain⟨Z,eZ,I,E,d,Rn,Rl,Y⟩:=put_two y (m.b.length+32) (getF y.b (z.b.length+32:Nat) 8).1 (z.b.length+32) m.b.length
      rw[eZ]
      clear eZ
      have Q:∀t,hashM Z t=hashM m t:=fun t=>by unfold hashM;rw[d,y5,T]
      refine⟨⟨?_,?_,?_,?_,?_,?_,?_,?_,by rw[I,yd];exact a4,?_,by rw[Rn,I,y6,yd];exact Ay,?_,?_,?_,Rl.trans y8⟩,Az _ (I.trans yd)⟩
      · rw[Y,d,I,y5,T,yd]
        refine K2.keepE (fun s hs=>B _ (by omega) (by omega)) fun k hk=>?_
        rcases mk k hk with A|rfl
        · have:=U k A;exact B _ (by omega) (by omega)
        · exact B _ (by omega) (by omega)
      · rw[Y,d,E,y5,T]
        refine G.keepE (fun s hs=>B _ (by omega) (by omega)) fun k hk=>?_
        rcases mf k hk with A|rfl
        · have:=J k A;exact B _ (by omega) (by omega)
        · exact B _ (by omega) (by omega)
      · rw[Y,I,E,yd,S,← kp,← fp]
        refine D2.put (f:=fd) (k:=r) f1 (by rw[ft,kt];exact u.symm) (by rw[fp];exact C) (fun a M c W=>?_) (fun v C=>?_) (fun g R=>?_) (by omega) (by omega) (by omega)
        · rcases mf a M with A|rfl
          · rcases mf c W with L|rfl
            · exact⟨fun e=>by rw[H.one a A c L e],fun e=>by rw[pos_inj H.a5 A L e]⟩
            · exact⟨fun e=>absurd (e.trans ft) (P a (by rw[z3];exact A)),fun e=>by have:=J a A;omega⟩
          · rcases mf c W with L|rfl
            · exact⟨fun e=>absurd (e.symm.trans ft) (P c (by rw[z3];exact L)),fun e=>by have:=J c L;omega⟩
            · exact⟨fun _=>rfl,fun _=>rfl⟩
        · have:=U v C;omega
        · rcases mf g R with A|rfl
          · have:=J g A;omega
          · omega
      · intro k hk
        rw[I]at hk
        rw[Q,d,y5,T]
        rcases mk k (yd ▸ hk)with A|rfl
        · exact H.s4 k A
        · rw[ks,kt]
      · intro k hk
        rw[E]at hk
        rw[Q,d,y5,T]
        rcases mf k hk with A|rfl
        · exact H.s5 k A
        · rw[fs,ft,A7,T]
      · intro k hk
        rw[I]at hk
        rcases mk k (yd ▸ hk)with A|rfl
        · obtain⟨g,g1,g2⟩:=H.own k A;exact⟨g,by rw[E,y3,z3];simp[g1],g2⟩
        · exact⟨_,by rw[E];exact f1,by rw[ft,kt];exact u.symm⟩
      · intro g R
        rw[E]at R
        rcases mf g R with A|rfl
        · obtain⟨k,k1,kz2⟩:=H.bear g A
          exact⟨k,by rw[I,yd,S];simp[k1],kz2⟩
        · exact⟨r,by rw[I,yd,S];simp,by rw[kt,ft];exact u⟩
      · intro a M c W e
        rw[E]at M W
        rcases mf a M with A|rfl
        · rcases mf c W with L|rfl
          · exact H.one a A c L e
          · exact absurd (e.trans ft) (P a (by rw[z3];exact A))
        · rcases mf c W with L|rfl
          · exact absurd (e.symm.trans ft) (P c (by rw[z3];exact L))
          · rfl
      · rw[E,y3,z3];exact asc_snoc H.a5 fun v C=>by have:=J v C;omega
      · have:=H.c16
        rw[Rn,E,y7,y3,z6,z3,H.n16,List.length_append];exact Nat.mod_eq_of_lt (by omega)
      · rw[Y,I,putN_len,putN_len,yb,zb,yd,S,List.length_append];have:=H.c15;simp only[List.length_singleton];omega
      · rw[Y,E,putN_len,putN_len,yb,zb,y3,z3,List.length_append];have:=H.c16;simp only[List.length_singleton];omega
end Go.Wk
namespace Go.Wk
open Go Go.RowKit
def Firm (l:List Ob) (a:Nat):Prop:=∀o∈l,(o.kind=4∨o.kind=5→a+8≤o.pos∨o.pos+up8 o.size≤a)∧((o.kind=1∨o.kind=2)→40≤o.size→a+8≤o.pos∨o.pos+40≤a)
theorem firm_head {b:Ly} {l:List Ob} {e a:Nat} (hO:Objs b 272 l e) (h:a+8≤272):Firm l a:=fun o ho=>by
  have:=(hO.mem ho).ge
  exact⟨fun _=>.inl (by omega),fun _ _=>.inl (by omega)⟩
theorem firm_in {b:Ly} {l:List Ob} {e a:Nat} (hO:Objs b 272 l e) {x:Ob} (hx:x∈l) (h1:x.pos+16≤a) (h2:a+8≤x.pos+up8 x.size) (hk:x.kind=6∨x.kind=1∧x.pos+40≤a):Firm l a:=fun o ho=>by
  have uo:=up8_ge o.size
  have ux:=up8_ge x.size
  rcases hO.sep ho hx with e1|e1|e1
  · subst e1
    exact⟨fun h=>by omega,fun h _=>by omega⟩
  · exact⟨fun _=>.inr (by omega),fun _ _=>.inr (by omega)⟩
  · exact⟨fun _=>.inl (by omega),fun _ _=>.inl (by omega)⟩
theorem linkS_firm {b:Ly} {l:List Ob} {e src a:Nat} {av:List Nat} (hO:Objs b 272 l e) (h:LinkS src av a) (hob:∀k c:Nat,av[k]? = some c→(⟨c,6,24+8*roomF (k:Int)⟩:Ob)∈l) (hs:Firm l src):Firm l a:=by
  rcases h with h|⟨k,c,A,B,C⟩
  · rw[h];exact hs
  exact firm_in hO (hob k c A) (by simp only;omega) (by rw[up8_arr];simp only;omega) (.inl q)
theorem Firm.mono {l r:List Ob} {a:Nat} (h:Firm r a) (hs:∀o∈l,o∈r):Firm l a:=fun o ho=>h o (hs o ho)
structure Kept (m m':Mk):Prop where
  c:m'.c=m.c
  ds:m'.datas.map keyK=m.datas.map keyK
  fs:m'.fields=m.fields
  n15:m'.num 15=m.num 15
  n16:m'.num 16=m.num 16
  len:m.b.length≤m'.b.length
  at4:∀s:Nat,s<m.c.dataSlots→at8 m'.b (288+16*s)=at8 m.b (288+16*s)
  at5:∀s:Nat,s<m.c.fieldSlots→at8 m'.b (304+16*m.c.dataSlots+16*s)=at8 m.b (304+16*m.c.dataSlots+16*s)
  dd:∀k∈m.datas,at8 m'.b (k.pos+24)=at8 m.b (k.pos+24)∧at8 m'.b (k.pos+32)=at8 m.b (k.pos+32)
  ff:∀k∈m.fields,at8 m'.b (k.pos+24)=at8 m.b (k.pos+24)∧at8 m'.b (k.pos+32)=at8 m.b (k.pos+32)
theorem Kept.refl (m:Mk):Kept m m:=⟨q,q,q,q,q,Nat.le_refl _,fun _ _=>rfl,fun _ _=>rfl,fun _ _=>⟨q,q⟩,fun _ _=>⟨q,q⟩⟩
theorem Kept.trans {a b c:Mk} (h:Kept a b) (k:Kept b c):Kept a c:=by
  refine⟨k.c.trans h.c,k.ds.trans h.ds,k.fs.trans h.fs,k.n15.trans h.n15,k.n16.trans h.n16,ly h.len k.len,fun s B=>(k.at4 s (by rw[h.c];exact B)).trans (h.at4 s B),fun s B=>?_,fun x A=>?_,fun x A=>?_⟩
  · have:=k.at5 s (by rw[h.c];exact B)
    rw[h.c]at this
    exact this.trans (h.at5 s B)
  · obtain⟨y,C,e,_⟩:=mem_key h.ds.symm A
    have:=k.dd y C
    rw[e]at this
    exact⟨this.1.trans (h.dd x A).1,this.2.trans (h.dd x A).2⟩
  have:=k.ff x (by rw[h.fs];exact A)
  exact⟨this.1.trans (h.ff x A).1,this.2.trans (h.ff x A).2⟩
theorem Kept.same {m m':Mk} (hb:m'.b=m.b) (hc:m'.c=m.c) (hd:m'.datas=m.datas) (hf:m'.fields=m.fields) (h15:m'.num 15=m.num 15) (h16:m'.num 16=m.num 16):Kept m m' :=
  ⟨hc,by rw[hd],hf,h15,h16,by rw[hb];exact Nat.le_refl _,fun _ _=>by rw[hb],fun _ _=>by rw[hb],fun _ _=>by rw[hb];exact⟨q,q⟩,fun _ _=>by rw[hb];exact⟨q,q⟩⟩
theorem Kept.eff {m m':Mk} {l:List Ob} {S:Nat→Prop} (h:Stat m l) (he:Eff S m.b m'.b) (hs:∀a,S a→Firm l a) (hc:m'.c=m.c) (hd:m'.datas.map keyK=m.datas.map keyK) (hf:m'.fields=m.fields) (h15:m'.num 15=m.num 15) (h16:m'.num 16=m.num 16):Kept m m':=by
  have H:=h.objs.mem h.tab4
  have C:=H.le
  have E:up8 (16+16*m.c.dataSlots)=16+16*m.c.dataSlots:=by unfold up8;omega
  have u5:up8 (16+16*m.c.fieldSlots)=16+16*m.c.fieldSlots:=by unfold up8;omega
  have I:=h.objs.mem h.tab5
  have D:=I.le
  simp only[E]at C
  simp only[u5]at D
  obtain⟨F,G,_⟩:=h.dd
  refine⟨hc,hd,hf,h15,h16,he.len,fun s B=>he.at8 (by omega) fun a A=>?_,fun s B=>he.at8 (by omega) fun a A=>?_,fun k hk=>?_,fun k hk=>?_⟩
  · have:=((hs a A) _ h.tab4).1 (.inl q);simp only[E]at this;omega
  · have:=((hs a A) _ h.tab5).1 (.inr q);simp only[u5]at this;omega
  · have d:=F k hk
    have f:∀a,S a→a+8≤k.pos∨k.pos+40≤a:=fun a A=>((hs a A) _ (h.data k hk).ob).2 (.inl q) (by simp only;omega)
    exact⟨he.at8 (by omega) fun a A=>by have:=f a A;omega,he.at8 (by omega) fun a A=>by have:=f a A;omega⟩
  have d:=G k hk
  have f:∀a,S a→a+8≤k.pos∨k.pos+40≤a:=fun a A=>((hs a A) _ (h.fld k hk).ob).2 (.inr q) (by simp only;omega)
  exact⟨he.at8 (by omega) fun a A=>by have:=f a A;omega,he.at8 (by omega) fun a A=>by have:=f a A;omega⟩
theorem pos_key {ks ks':List Known} (h:ks'.map keyK=ks.map keyK):ks'.map Known.pos=ks.map Known.pos∧ks'.map Known.text=ks.map Known.text∧ks'.length=ks.length:=by
  have A:∀ks:List Known,ks.map Known.pos=(ks.map keyK).map Prod.fst:=fun ks=>by rw[List.map_map];rfl
  have B:∀ks:List Known,ks.map Known.text=(ks.map keyK).map fun q=>q.2.2:=fun ks=>by rw[List.map_map];rfl
  exact⟨by rw[A,A,h],by rw[B,B,h],by simpa using congrArg List.length h⟩
theorem Hs.kept {m m':Mk} (H:Hs m) (k:Kept m m') (h20:m'.h.n.length=20):Hs m':=by
  obtain⟨K,L,E⟩:=pos_key k.ds
  have D:∀t,hashM m' t=hashM m t:=fun t=>by unfold hashM;rw[k.c]
  refine⟨?_,?_,?_,fun x A=>?_,fun x A=>?_,fun x A=>?_,fun f J=>?_,?_,by rw[K];exact H.a4,by rw[k.fs];exact H.a5,by rw[k.n15,E];exact H.n15,by rw[k.n16,k.fs];exact H.n16,?_,?_,h20⟩
  · rw[k.c]
    exact(H.r4.keepE k.at4 fun x A=>(k.dd x A).1).key k.ds
  · rw[k.c,k.fs]
    exact H.r5.keepE k.at5 fun x A=>(k.ff x A).1
  · rw[k.fs]
    exact(H.rd.keep (fun x A=>(k.dd x A).2) fun x A=>(k.ff x A).2).key k.ds
  · obtain⟨y,C,_,F,B⟩:=mem_key k.ds A
    rw[D,k.c,← F,← B];exact H.s4 y C
  · rw[D,k.c];exact H.s5 x (k.fs ▸ A)
  · obtain⟨y,C,_,_,B⟩:=mem_key k.ds A
    obtain⟨f,G,I⟩:=H.own y C
    exact⟨f,by rw[k.fs];exact G,by rw[I,B]⟩
  · obtain⟨y,C,e⟩:=H.bear f (k.fs ▸ J)
    obtain⟨x,A,_,_,B⟩:=mem_key k.ds.symm C
    exact⟨x,A,by rw[B,e]⟩
  · rw[k.fs];exact H.one
  · rw[E];exact ly H.c15 k.len
  rw[k.fs];exact ly H.c16 k.len
theorem set_key {ds:List Known} {i:Nat} {k k':Known} (h:ds[i]? = some k) (hk:keyK k'=keyK k):(ds.set i k').map keyK=ds.map keyK:=by
  apply List.ext_getElem?
  intro j
  rw[List.getElem?_map,List.getElem?_map]
  by_cases hj:i=j
  · subst hj
    rw[List.getElem?_set_self (List.getElem?_eq_some_iff.1 h).1,h]
    exact congrArg some hk
  rw[List.getElem?_set_ne hj]
theorem hangE_kept {es:List EntG} {mp:List Nat} {e:Nat} (he:e<18446744073709551616):∀(od:List Nat) (m:Mk) (l:List Ob) (f:Nat→List Nat),ImgC m l es mp f→(∀i∈od,i<m.datas.length)→od.Nodup→(∀i∈od,(f i).length<900000)→m.b.length+2100*od.length<900000→Kept m (hangE e od m)
  | [],m,_,_,_,_,_,_,_=>Kept.refl m
  | i :: r,m,l,f,h,hi,hn,hl,hb=>by
    obtain⟨k,hk⟩:∃k,m.datas[i]? = some k:=⟨_,List.getElem?_eq_getElem (hi i (by simp))⟩
    simp only[List.length_cons]at hb
    have hds:=h.stat.data k (List.mem_of_getElem? hk)
    obtain⟨l1,k1,H⟩:=hang_one (e:=e) h.stat.objs hk hds (h.dat i k hk) (by omega) he (by have:=hl i (by simp);omega)
    have g:=h.hang hk H
    have hd1:DSame m.datas (hang1 e i m).datas:=by rw[H.dat];exact DSame.set hk H.pos.1 H.pos.2.1
    have P:=H.top
    obtain⟨M,N,Q,R,F⟩:=H.same
    rw[List.nodup_cons]at hn
    obtain⟨t,I,_⟩:=H.sub
    have B:∀o∈l,o∈l1:=fun o L=>by rw[I];exact List.mem_append_left _ L
    have E:=B _ hds.ob
    have u:=up8_ge (64+k.text.length)
    have A:∀a,k.pos+40≤a→a+8≤k.pos+64→Firm l1 a:=fun a C O=>firm_in H.objs E (by simp only;omega) (by simp only;omega) (.inr ⟨q,C⟩)
    have G:Kept m (hang1 e i m):=Kept.eff h.stat H.eff (fun a J=>by
      refine Firm.mono ?_ B
      rcases hard_cases J with C|C
      · exact A a C.1 C.2
      · exact linkS_firm H.objs C H.more.chain.ob (A _ (by omega) (by omega))) M (by rw[H.dat];exact set_key hk (by unfold keyK;rw[H.pos.1,H.pos.2.1,H.pos.2.2])) N (F 15 (by decide) (by decide) (by decide)) (F 16 (by decide) (by decide) (by decide))
    rw[hangE_cons]
    have K:∀j∈r,(if j=i then f i ++ [e]else f j)=f j:=fun j D=>if_neg (by rintro rfl;exact hn.1 D)
    exact G.trans (hangE_kept he r (hang1 e i m) l1 _ g (fun j D=>by rw[hd1.len];exact hi j (by simp[D])) hn.2 (fun j D=>by simp only[K j D];exact hl j (by simp[D])) (by omega))
def addT:List (List UInt8)→List (List UInt8)→List (List UInt8)
  | ts,[]=>ts
  | ts,p :: r=>addT (if p∈ts then ts else ts ++ [p]) r
theorem addT_app:∀(a b ts:List (List UInt8)),addT ts (a ++ b)=addT (addT ts a) b
  | [],_,_=>rfl
  | p :: a,b,ts=>addT_app a b _
theorem datasL_ge:∀(fs:List Pr) (m:Mk) (l:List Ob) (ps:List (List UInt8)) (od:List Nat),Stat m l→(∀q∈fs,BD q)→m.b.length≤(datasL fs m ps od).2.2.b.length
  | [],_,_,_,_,_,_=>Nat.le_refl _
  | x :: r,m,l,ps,od,h,hb=>by
    obtain⟨l1,d⟩:=data_im h x (hb x (by simp))
    exact ly d.step.eff.len (datasL_ge r (m.data x).2 l1 _ _ d.stat fun q hq=>hb q (by simp[hq]))
theorem datasL_hs:∀(fs:List Pr) (m:Mk) (l:List Ob) (ps:List (List UInt8)) (od:List Nat),Stat m l→Hs m→(∀q∈fs,BD q)→(∀q∈fs,∀c∈q.name,c≠61)→(datasL fs m ps od).2.2.b.length<900000 →
    Hs (datasL fs m ps od).2.2∧(datasL fs m ps od).2.2.datas.map Known.text=addT (m.datas.map Known.text) (fs.map payload)
  | [],_,_,_,_,_,H,_,_,_=>⟨H,rfl⟩
  | x :: r,m,l,ps,od,h,H,hb,hn,hl=>by
    have bx:=hb x (by simp)
    obtain⟨l1,d⟩:=data_im h x bx
    have g1:=datasL_ge (x :: r) m l ps od h hb
    have hp:=payload_len x
    obtain⟨H1,t1⟩:=hs_data h H x (hn x (by simp)) (by omega) ⟨by have:=bx.1;have:=bx.2;omega,by have:=bx.1;omega⟩
    obtain⟨H2,t2⟩:=datasL_hs r (m.data x).2 l1 (ps ++ [((m.data x).2.datas.getD (m.data x).1 known0).text]) (placeF (m.data x).2.datas (m.data x).1 od) d.stat H1 (fun q hq=>hb q (by simp[hq])) (fun q hq=>hn q (by simp[hq])) hl
    exact⟨H2,by rw[List.map_cons,addT,← t1];exact t2⟩
theorem name_61 {s:Ly} (h:isName s=true):∀c∈s,c≠61:=by
  intro c A e
  subst e
  unfold isName at h
  simp only[Bool.and_eq_true]at h
  have:=List.all_eq_true.1 h.2 61 A
  revert this;decide
theorem append_hs {m m':Mk} {l:List Ob} {es:List EntG} {raw fs:List Pr} {real mono s:Nat} {boot:Ly} (h:Img m l es) (H0:Hs m) (ok:MkOk m) (hb:boot.length=16) (hl:listF raw=(fs,0)) (ha:m.append raw real mono boot=(s,0,m')) :
    Hs m'∧m'.datas.map Known.text=addT (m.datas.map Known.text) (fs.map payload):=by
  by_cases h3:m.num 9=18446744073709551615
  · have e:m.append raw real mono boot=(0,1,m):=by unfold Mk.append;simp only[hl];rw[if_neg (by simp),if_pos h3]
    rw[e]at ha
    have:=congrArg (fun x=>x.2.1) ha
    simp at this
  have j:=H0.h20
  have O:=nl_append m raw real mono boot
  rw[ha]at O
  obtain⟨N,A,Af,A7,A8⟩:=listF_all hl
  obtain⟨g,_⟩:=listF_bd hl
  have D:=datasL_ok fs m [] [] 0 (datas_start ok) g
  obtain⟨l1,I,W⟩:=datasL_im fs [] m l [] [] es (es.map EntG.pos) (places es) h.c (fun i Z=>places_nil h.who i Z) ⟨rfl,by simp,by simp,List.Pairwise.nil⟩ g (by rw[List.nil_append];exact asc_payload N A)
  have T:=datasL_hs fs m l [] [] h.c.stat H0 g (fun q hq=>name_61 (by have:=A q hq;unfold right at this;simp only[Bool.and_eq_true]at this;exact this.1))
  rcases hd:datasL fs m [] []with⟨ps,Q,x⟩
  rw[hd,Nat.zero_add]at D
  rw[hd]at I W T
  rw[List.nil_append]at W
  simp only at D I W T
  have s1:=ok.small
  have s4:=ok.nb
  have d2:=D.app.le
  have d5:=D.len.1
  have J:=h.n8
  have Ay:es.length≤40000:=by
    have:m.n8=es.length:=J
    omega
  obtain⟨Hx,tx⟩:=T (by omega)
  obtain⟨c1,c2,c3⟩:=I.same
  have n8:x.num 8=m.num 8:=c3 8 (by decide) (by decide) (by decide)
  have r:=asc_nodup W.asc
  generalize hE:({seq:=(x.num 9+1)%18446744073709551616,real:=real,mono:=mono,boot:=boot,xor:=xorF 0 ps,items:=itemsL x Q}:Ent)=E
  have eb:E.boot.length=16:=by subst hE;exact hb
  have ei:E.items.length=Q.length:=by subst hE;simp[itemsL]
  have G:=I.img.entry (E:=E) (who:=Q) eb (by omega)
  have P:=(object_spec x (putEntryF E))
  have H:=object_same x (putEntryF E)
  have U:∀i,i≠6→i≠7→(x.object (putEntryF E)).2.num i=x.num i:=fun i h6 h7=>obj_num x _ ⟨h6,h7⟩
  have F:(x.object (putEntryF E)).2.b=x.b ++ putEntryF E:=rfl
  have el:=putEntryF_len E eb
  rcases K:x.object (putEntryF E)with⟨e,B⟩
  rw[K]at G P H U F
  simp only at G P H U F
  have p:e=x.b.length:=P.1
  subst p
  have K2:Kept x B:=by
    refine Kept.eff I.img.stat (S:=fun _=>False) (by rw[F];exact Eff.app _ _ _) (fun _ hf=>hf.elim) H.1 (by rw[H.2.1]) H.2.2.1 (U 15 (by decide) (by decide)) (U 16 (by decide) (by decide))
  have w:B.num 8=(es.map EntG.pos).length:=by rw[U 8 (by decide) (by decide),n8,J,List.length_map]
  have A1:x.b.length<100000:=by omega
  obtain⟨l3,L⟩:=link_im (x:=x.b.length) G.stat.objs G.main (main_src _) (by have:=P.2.1;omega) (by omega)
  rw[← w]at L
  rcases hk:B.link B.main (B.num 8) 176 x.b.length with⟨a,t,C⟩
  rw[hk]at L
  simp only at L
  have d:=append_done (real:=real) (mono:=mono) (boot:=boot) hl (by simp) h3 hd (by rw[hE];exact K) hk rfl
  obtain⟨t1,t2,t3,t4,t5,t6⟩:=L.same
  have K3:Kept B C:=by
    have M:∀o∈(l1 ++ [(⟨x.b.length,3,64+16*E.items.length⟩:Ob)]),o∈l3:=fun o K=>by
      rcases L.sub with e1|e1 <;> rw[e1]
      · exact K
      · exact List.mem_append_left _ K
    exact Kept.eff G.stat L.eff (fun a ha=>Firm.mono (linkS_firm L.objs ha L.chain.ob (firm_head L.objs (by decide))) M) t1 (by rw[t2]) t3 (t6 15 (by decide) (by decide) (by decide)) (t6 16 (by decide) (by decide) (by decide))
  obtain⟨Y,X⟩:∃Y,Y=(let m4:=({C with main:=a}:Mk).setN 11 (a.getD 0 0);({m4 with h:={m4.h with tailArray:=lastN a%4294967296,tailItems:=t%4294967296}}:Mk)):=⟨_,rfl⟩
  have V:∀i,i≠11→Y.num i=C.num i:=fun i Z=>by subst X;exact getD_set_ne' (by omega)
  have Ys:Y.b=C.b∧Y.c=C.c∧Y.datas=C.datas∧Y.fields=C.fields∧Y.main=a:=by subst X;exact⟨rfl,rfl,rfl,rfl,rfl⟩
  rw[← X]at d
  clear X
  obtain⟨y,y2,y3,y4,y5⟩:=Ys
  have K4:Kept C Y:=Kept.same y y2 y3 y4 (V 15 (by decide)) (V 16 (by decide))
  have I3:=G.link L y y2 y3 y4 y5 ⟨V 2 (by decide),V 4 (by decide)⟩
  have Ag:=L.top
  have f:Y.datas=x.datas:=by rw[y3,t2,H.2.1]
  have Ah:=P.2.1
  have K5:=hangE_kept (e:=x.b.length) (by omega) Q Y l3 _ I3 (fun i Z=>by rw[f];exact W.lt i Z) r (fun i _=>by have:=places_len es i;omega) (by rw[y];omega)
  generalize hangE x.b.length Q Y=z at *
  replace d:m.append raw real mono boot=if z.c.most<z.b.length then(0,15,m)else((x.num 9+1)%18446744073709551616,0,finM z (B.num 8) ((x.num 9+1)%18446744073709551616) real mono x.b.length boot):=d
  rw[d]at ha
  split at ha
  · have:=congrArg (fun x=>x.2.1) ha;simp at this
  obtain⟨k1,kz2,kz3,kz4,_⟩:=finM_spec z (B.num 8) ((x.num 9+1)%18446744073709551616) real mono x.b.length boot
  have u:=finM_num z (B.num 8) ((x.num 9+1)%18446744073709551616) real mono x.b.length boot 15 (by decide)
  have v:=finM_num z (B.num 8) ((x.num 9+1)%18446744073709551616) real mono x.b.length boot 16 (by decide)
  obtain⟨_,k⟩:=Prod.mk.inj ha
  have n:=(Prod.mk.inj k).2
  generalize finM z (B.num 8) ((x.num 9+1)%18446744073709551616) real mono x.b.length boot=R at *
  subst n
  have KR:Kept x R:=K2.trans (K3.trans (K4.trans (K5.trans (Kept.same k1 kz2 kz3 kz4 u v))))
  exact⟨Hx.kept KR (O.trans j),by rw[(pos_key KR.ds).2.1];exact tx⟩
def textsR (rs:List Rec):List (List UInt8):=rs.flatMap fun r=>r.fields.map payload
theorem makerL_hs:∀(n:Nat) (s:Sq) (m:Mk) (l:List Ob) (es:List EntG) (rs:List Rec),MkIm m l es rs→Hs m→m.datas.map Known.text=addT [] (textsR rs) →
    Hs (makerL n s m rs).1∧(makerL n s m rs).1.datas.map Known.text=addT [] (textsR (makerL n s m rs).2.1)
  | 0,_,_,_,_,_,_,H,ht=>⟨H,ht⟩
  | n+1,s,m,l,es,rs,h,H,ht=>by
    unfold makerL
    split
    · have hr:=record_all s ((m.num 9+1)%18446744073709551616)
      rcases hrec:s.record ((m.num 9+1)%18446744073709551616)with⟨r,s1⟩
      rw[hrec]at hr
      have hk:=(hk_append m r.fields r.real r.mono r.boot).2
      rcases ha:m.append r.fields r.real r.mono r.boot with⟨e,c,m1⟩
      rw[ha]at hk
      simp only[ha]
      split
      · rename_i hc
        have:=hk hc
        simp only at this
        subst this
        exact⟨H,ht⟩
      · rename_i hc
        have hc0:c=0:=Classical.not_not.1 hc
        subst hc0
        obtain⟨l1,es1,g1,g2⟩:=step_im h hr.1 hr.2.1 hr.2.2.1 hr.2.2.2 ha
        obtain⟨_,_,fs,hl,_⟩:=append_im h.img h.ok h.h20 hr.2.1 hr.2.2.1 ha
        have hfs:=listF_self hl hr.2.2.2
        obtain⟨H1,t1⟩:=append_hs h.img H h.ok hr.2.1 hl ha
        exact makerL_hs n s1 m1 l1 es1 _ g1 H1 (by
          rw[t1,ht,hfs];unfold textsR;rw[List.flatMap_append,addT_app];simp)
    · exact⟨H,ht⟩
theorem newMk_hs {c:Cfg} {t:Nat} (h1:1≤c.dataSlots∧1≤c.fieldSlots):Hs (newMk c t):=by
  obtain⟨_,G,H⟩:=tabB (k:=4) (.inl q) c.dataSlots
  obtain⟨_,J,I⟩:=tabB (k:=5) (.inr q) c.fieldSlots
  have E:(newMk c t).b=List.replicate 272 0 ++ putTableF 4 (List.replicate c.dataSlots {first:=0,tail:=0}) ++ putTableF 5 (List.replicate c.fieldSlots {first:=0,tail:=0}):=rfl
  have D:(List.replicate 272 (0:UInt8) ++ putTableF 4 (List.replicate c.dataSlots {first:=0,tail:=0})).length=288+16*c.dataSlots:=by rw[List.length_append,List.length_replicate,G];omega
  have B:(newMk c t).datas=[]:=rfl
  have A:(newMk c t).fields=[]:=rfl
  have F:(newMk c t).c=c:=rfl
  refine⟨⟨by rw[B];simp,fun s C=>?_,by rw[B];simp[slotP]⟩,⟨by rw[A];simp,fun s C=>?_,by rw[A];simp[slotP]⟩,⟨by rw[A];simp,by rw[B];simp[dataP]⟩,by rw[B];simp,by rw[A];simp,by rw[B];simp,by rw[A];simp,by rw[A];simp,by rw[B];simp,by rw[A];simp,?_,?_,by rw[B];simp,by rw[A];simp,?_⟩
  · rw[F]at C
    rw[B,E,at8_app (by rw[D];omega),at8_skip (by rw[List.length_replicate];omega),List.length_replicate,show 288+16*s-272=16+8*(2*s)by omega,H _ (by omega)];rfl
  · rw[F]at C ⊢
    rw[A,E,at8_skip (by omega),D,show 304+16*c.dataSlots+16*s-(288+16*c.dataSlots)=16+8*(2*s)by omega,I _ (by omega)];rfl
  · rw[B];show(((((((((List.replicate 20 0).set 0 272).set 2 288).set 3 _).set 4 _).set 5 _).set 6 _).set 7 2).set 9 _).getD 15 0=0;rw[getD_set_ne' (by decide),getD_set_ne' (by decide),getD_set_ne' (by decide),getD_set_ne' (by decide),getD_set_ne' (by decide),getD_set_ne' (by decide),getD_set_ne' (by decide),getD_set_ne' (by decide)];rfl
  · rw[A];show(((((((((List.replicate 20 0).set 0 272).set 2 288).set 3 _).set 4 _).set 5 _).set 6 _).set 7 2).set 9 _).getD 16 0=0;rw[getD_set_ne' (by decide),getD_set_ne' (by decide),getD_set_ne' (by decide),getD_set_ne' (by decide),getD_set_ne' (by decide),getD_set_ne' (by decide),getD_set_ne' (by decide),getD_set_ne' (by decide)];rfl
  show(((((((((List.replicate 20 0).set 0 272).set 2 288).set 3 _).set 4 _).set 5 _).set 6 _).set 7 2).set 9 _).length=20;simp only[List.length_set,List.length_replicate]
theorem maker_hs {s s':Sq} {most:Nat} {m:Mk} {rs:List Rec} (h:s.maker most=(m,rs,s')):Hs m∧m.datas.map Known.text=addT [] (textsR rs):=by
  have A:=config_ok s
  rcases h1:s.config with⟨c,C⟩
  rcases h2:C.num 6 with⟨t,F⟩
  rw[h1]at A
  have B:=C.num_le 6
  rw[h2]at B
  simp only at B A
  simp only[Sq.maker,h1,h2]at h
  obtain⟨D,E,G⟩:=newMk_im (c:=c) (t:=t) A.1 A.2.1 (by omega)
  have:=makerL_hs most F (newMk c t) (objs0 c) [] [] ⟨D,newMk_ok A.1 A.2.1 A.2.2,q,E,q,by simp,List.Pairwise.nil,by simp⟩ (newMk_hs A.2.1) q
  rw[h]at this
  exact this
end Go.Wk
namespace Go.Wk
open Go Go.RowKit
theorem image_hs {m:Mk} {l:List Ob} {es:List EntG} {rs:List Rec} {st:Nat} (h:MkIm m l es rs) (hok:RHead.ok m.h) (hst:st≤2) (H:Hs m):Hs {m with b:=imageM m st}:=by
  obtain⟨_,_,A⟩:=image_bytes h hok hst
  exact H.kept (Kept.eff (m':={m with b:=imageM m st}) h.img.c.stat A (fun a B=>firm_head h.img.c.stat.objs B) q q q q q) H.h20
theorem fld_of {m:Mk} {l:List Ob} (h:Stat m l) {f:Known} (hf:f∈m.fields) (ht:1≤f.text.length):fldAt 272 m.b f.pos=({hash:=hashM m f.text,nextHash:=at8 m.b (f.pos+24),dat:=at8 m.b (f.pos+32),payload:=f.text},0):=by
  have F:=h.objs
  have B:=h.fld f hf
  have A:=F.mem B.ob
  have G:=up8_ge (40+f.text.length)
  have D:=A.ge
  have E:=A.le
  simp only at D E
  unfold fldAt
  rw[if_neg (by omega)]
  have C:=obj_ob (k:=2) (n:=3) A (by decide) (by simp only;omega) q (by simp only;omega)
  simp only at C
  rw[(readFld_of C).2 (by simp) |>.2]
  rw[show f.pos+16+8*3=f.pos+40 by omega,show 40+f.text.length-(16+8*3)=f.text.length by omega,B.text]
  congr 1
  have e:numsAt m.b (f.pos+16) 3=[at8 m.b (f.pos+16),at8 m.b (f.pos+24),at8 m.b (f.pos+32)]:=rfl
  rw[e,B.hash]
  rfl
theorem slots_seg (b:Ly) (p n:Nat):slotsAt (seg b p (16*n)) 0 n=slotsAt b p n:=by
  unfold slotsAt
  refine List.map_congr_left fun i A=>?_
  rw[List.mem_range]at A
  rw[at8_seg,at8_seg,at8_seg,at8_seg,seg_seg (by omega),seg_seg (by omega)]
  simp only[Nat.zero_add,Nat.add_assoc]
theorem slotsAt_get {b:Ly} {p n s:Nat} (h:s<n):(slotsAt b p n)[s]? = some {first:=at8 b (p+16*s),tail:=at8 b (p+16*s+8)}:=by
  unfold slotsAt;rw[List.getElem?_map,List.getElem?_range h];rfl
section
variable {m:Mk} {B:Ly} {H:PHead} {l:List Ob} {es:List EntG} {rs:List Rec}
theorem tab_ob (op:Opened m B H l es) {p k n:Nat} (ho:(⟨p,k,16+16*n⟩:Ob)∈l) (hk:(k:Int)=4∨(k:Int)=5) (hn:1≤n):readTabF B p (k:Int)=(slotsAt B (p+16) n,0):=by
  have D:=op.img.stat.objs.mem ho
  have E:=up8_ge (16+16*n)
  have A:=D.le
  simp only at A
  have C:=body_ob (k:=k) (ahead:=0) (item:=16) D (by decide) (by show p+(16+16*n)≤B.length;exact ly (by omega) A) q (by simp only;omega) (by simp only;omega)
  simp only at C
  refine tab_ok hk C (by simp) ?_
  rw[show 16+16*n-16=16*n by omega,seg_len (by exact ly (by omega) A),show 16*n/16=n by omega]
  exact(slots_seg B (p+16) n).symm
theorem tab_4 (im:MkIm m l es rs) (op:Opened m B H l es):tabF H.n B 4=(slotsAt B 288 m.c.dataSlots,0):=by
  have D:=op.img.stat.slots.1
  have E:=tab_ob op (k:=4) op.img.stat.tab4 (.inl q) D
  have A:H.n.getD 2 0=288:=(op.n 2 (by decide) (by decide)).trans im.img.c.stat.n2
  have C:H.n.getD 3 0=16*m.c.dataSlots:=(op.n 3 (by decide) (by decide)).trans im.hd.n3
  unfold tabF
  rw[if_pos q,if_pos q,A,C]
  have ho':readTabF B (288-16) 4=(slotsAt B 288 m.c.dataSlots,0):=E
  rw[ho']
  rw[if_neg (by simp),if_neg (by simp only[slotsAt_len];omega)]
theorem tab_5 (im:MkIm m l es rs) (op:Opened m B H l es):tabF H.n B 5=(slotsAt B (304+16*m.c.dataSlots) m.c.fieldSlots,0):=by
  have D:=op.img.stat.slots.2
  have E:=tab_ob op (k:=5) op.img.stat.tab5 (.inr q) D
  have A:H.n.getD 4 0=304+16*m.c.dataSlots:=(op.n 4 (by decide) (by decide)).trans im.img.c.stat.n4
  have C:H.n.getD 5 0=16*m.c.fieldSlots:=(op.n 5 (by decide) (by decide)).trans im.hd.n5
  unfold tabF
  rw[if_neg (show ¬(5:Int)=4 by decide),if_neg (show ¬(5:Int)=4 by decide),A,C]
  have ho':readTabF B (304+16*m.c.dataSlots-16) 5=(slotsAt B (304+16*m.c.dataSlots) m.c.fieldSlots,0):=by
    rw[show 304+16*m.c.dataSlots-16=288+16*m.c.dataSlots by omega,show 304+16*m.c.dataSlots=288+16*m.c.dataSlots+16 by omega];exact E
  rw[ho']
  rw[if_neg (by simp),if_neg (by simp only[slotsAt_len];omega)]
end
structure Along (nx cd:Nat→Nat) (len:Nat) (L:List Nat):Prop where
  asc:L.Pairwise (· < ·)
  ok:∀p∈L,p≠0∧p<len∧cd p=0
  nx:∀j p:Nat,L[j]? = some p→nx p=L.getD (j+1) 0
section
variable {nx cd:Nat→Nat} {is:Nat→Bool} {len:Nat} {L:List Nat}
theorem bk_along (h:Along nx cd len L):∀(d j a:Nat),L.length-j=d→(∀p,L[j]? = some p→a<p)→bkF nx cd len (L.getD j 0) a (L.take j)=(L,0)
  | 0,j,a,hd,_=>by
    rw[getD_out0 (by omega),bk_end (.inl rfl),List.take_of_length_le (by omega)]
  | d+1,j,a,hd,ha=>by
    obtain⟨p,hp⟩:∃p,L[j]? = some p:=⟨_,List.getElem?_eq_getElem (by omega)⟩
    have ep:L.getD j 0=p:=by rw[List.getD_eq_getElem?_getD,hp];rfl
    obtain⟨C,D,B⟩:=h.ok p (List.mem_of_getElem? hp)
    have:=ha p hp
    rw[ep,bk_on (by omega) (by omega) B (h.nx j p hp),show L.take j ++ [p]=L.take (j+1)by rw[List.take_add_one,hp];rfl]
    exact bk_along h d (j+1) p (by omega) fun q A=>asc_ne h.asc hp A (by omega)
theorem bk_all (h:Along nx cd len L):bkF nx cd len (L.getD 0 0) 0 []=(L,0) :=
  bk_along h L.length 0 0 (by omega) fun p hp=>Nat.pos_of_ne_zero (h.ok p (List.mem_of_getElem? hp)).1
end
section
variable {m:Mk} {B:Ly} {H:PHead} {l:List Ob} {es:List EntG} {rs:List Rec}
theorem text_1 (im:MkIm m l es rs) (hs:Hs m):(∀k∈m.datas,1≤k.text.length)∧∀f∈m.fields,1≤f.text.length:=by
  refine⟨fun k hk=>text_pos im.img.txt hk,fun f C=>?_⟩
  obtain⟨k,hk,e⟩:=hs.bear f C
  obtain⟨q,A,B⟩:=im.img.txt k hk
  unfold right at A
  simp only[Bool.and_eq_true]at A
  rw[← e,B,nameT_pay (name_61 A.1)]
  have:=A.1
  unfold isName at this
  simp only[Bool.and_eq_true,decide_eq_true_eq]at this
  exact this.1.1.1
theorem datAt_k (im:MkIm m l es rs) (op:Opened m B H l es) {k:Known} (hk:k∈m.datas):∃d:Dat,datAt 272 B k.pos=(d,0)∧d.hash=hashM m k.text∧d.nextHash=at8 B (k.pos+24)∧d.nextField=at8 B (k.pos+32)∧d.payload=k.text:=by
  obtain⟨i,A⟩:=List.mem_iff_getElem?.1 hk
  exact⟨_,dat_of op.img A (text_pos im.img.txt hk),q,q,q,q⟩
theorem fldAt_k (im:MkIm m l es rs) (op:Opened m B H l es) (hs:Hs m) {f:Known} (hf:f∈m.fields):∃d:Fld,fldAt 272 B f.pos=(d,0)∧d.hash=hashM m f.text∧d.nextHash=at8 B (f.pos+24)∧d.dat=at8 B (f.pos+32)∧d.payload=f.text :=
  ⟨_,fld_of (m:={m with b:=B}) op.img.stat hf ((text_1 im hs).2 f hf),q,q,q,q⟩
theorem along_4 (im:MkIm m l es rs) (op:Opened m B H l es) (hs:Hs {m with b:=B}) (s:Nat):Along (nodN (H.n.getD 0 0) B 4) (nodC (H.n.getD 0 0) B 4) B.length (slotP m.datas s):=by
  have E:=op.img.stat.dd.1
  refine⟨hs.a4.sublist (slotP_sub m.datas s),fun p A=>?_,fun j p A=>?_⟩
  · obtain⟨k,hk,rfl,_⟩:=slotP_mem A
    have:=E k hk
    obtain⟨d,C,_⟩:=datAt_k im op hk
    refine⟨by omega,by have F:k.pos+40≤B.length:=this.2;omega,?_⟩
    rw[num0 im op];unfold nodC;rw[if_pos q,C]
  obtain⟨k,hk,rfl,_⟩:=slotP_mem (List.mem_of_getElem? A)
  obtain⟨d,C,_,D,_⟩:=datAt_k im op hk
  rw[num0 im op];unfold nodN;rw[if_pos q,C]
  exact D.trans (hs.r4.next s j _ A)
theorem along_5 (im:MkIm m l es rs) (op:Opened m B H l es) (hs:Hs {m with b:=B}) (hm:Hs m) (s:Nat):Along (nodN (H.n.getD 0 0) B 5) (nodC (H.n.getD 0 0) B 5) B.length (slotP m.fields s):=by
  have E:=op.img.stat.dd.2.1
  refine⟨hs.a5.sublist (slotP_sub m.fields s),fun p A=>?_,fun j p A=>?_⟩
  · obtain⟨k,hk,rfl,_⟩:=slotP_mem A
    have:=E k hk
    obtain⟨d,C,_⟩:=fldAt_k im op hm hk
    refine⟨by omega,by have F:k.pos+40≤B.length:=this.2;omega,?_⟩
    rw[num0 im op];unfold nodC;rw[if_neg (by decide),C]
  obtain⟨k,hk,rfl,_⟩:=slotP_mem (List.mem_of_getElem? A)
  obtain⟨d,C,_,D,_⟩:=fldAt_k im op hm hk
  rw[num0 im op];unfold nodN;rw[if_neg (by decide),C]
  exact D.trans (hs.r5.next s j _ A)
theorem buck_4 (im:MkIm m l es rs) (op:Opened m B H l es) (hs:Hs {m with b:=B}) {s:Nat} (h:s<m.c.dataSlots):buckF H.n B 4 (s:Int)=(slotP m.datas s,0):=by
  have A:=bk_all (along_4 im op hs s)
  have C:at8 B (288+16*s)=(slotP m.datas s).getD 0 0:=hs.r4.head s h
  rw[← C]at A
  exact(buck_in (slot:=(s:Int)) (t:={first:=at8 B (288+16*s),tail:=at8 B (288+16*s+8)}) (tab_4 im op) q (by omega) (by rw[Int.toNat_natCast];exact slotsAt_get h) A).trans (if_neg (by simp))
theorem buck_5 (im:MkIm m l es rs) (op:Opened m B H l es) (hs:Hs {m with b:=B}) (hm:Hs m) {s:Nat} (h:s<m.c.fieldSlots):buckF H.n B 5 (s:Int)=(slotP m.fields s,0):=by
  have A:=bk_all (along_5 im op hs hm s)
  have C:at8 B (304+16*m.c.dataSlots+16*s)=(slotP m.fields s).getD 0 0:=hs.r5.head s h
  rw[← C]at A
  exact(buck_in (slot:=(s:Int)) (t:={first:=at8 B (304+16*m.c.dataSlots+16*s),tail:=at8 B (304+16*m.c.dataSlots+16*s+8)}) (tab_5 im op) q (by omega) (by rw[Int.toNat_natCast];exact slotsAt_get h) A).trans (if_neg (by simp))
end
end Go.Wk
namespace Go.Wk
open Go Go.RowKit
def ksK (m:Mk) (k:Int):List Known:=if k=4 then m.datas else m.fields
def slK (m:Mk) (k:Int):Nat:=if k=4 then m.c.dataSlots else m.c.fieldSlots
def cntB (ks:List Known) (s:Nat):Nat:=(ks.filter fun k=>decide (k.slot<s)).length
theorem cntB_0 (ks:List Known):cntB ks 0=0:=by
  unfold cntB;rw[List.length_eq_zero_iff,List.filter_eq_nil_iff];simp
theorem cntB_step (s:Nat):∀ks:List Known,cntB ks (s+1)=cntB ks s+(slotP ks s).length
  | []=>rfl
  | k :: r=>by
    have ih:=cntB_step s r
    unfold cntB slotP at ih ⊢
    simp only[List.length_map]at ih ⊢
    simp only[List.filter_cons]
    rcases Nat.lt_trichotomy k.slot s with h|h|h
    · rw[if_pos (decide_eq_true (by omega)),if_pos (decide_eq_true h),if_neg (by simp;omega),List.length_cons,List.length_cons,ih];omega
    · rw[if_pos (decide_eq_true (by omega)),if_neg (by simp;omega),if_pos (decide_eq_true h),List.length_cons,List.length_cons,ih];omega
    · rw[if_neg (by simp;omega),if_neg (by simp;omega),if_neg (by simp;omega),ih]
theorem cntB_le (ks:List Known) (s:Nat):cntB ks s≤ks.length:=List.length_filter_le _ _
theorem cntB_all {ks:List Known} {n:Nat} (h:∀k∈ks,k.slot<n):cntB ks n=ks.length:=by
  unfold cntB;rw[List.filter_eq_self.2 fun k hk=>decide_eq_true (h k hk)]
section
variable {m:Mk} {B:Ly} {H:PHead} {l:List Ob} {es:List EntG} {rs:List Rec} {k:Int} {s p:Nat}
theorem tab_w (im:MkIm m l es rs) (op:Opened m B H l es) (hk:k=4∨k=5):∃T,tabF H.n B k=(T,0)∧T.length=slK m k∧0<T.length∧T.length≤B.length:=by
  have A:=op.img.stat.slots.1
  have C:=op.img.stat.slots.2
  have D:=(op.img.stat.objs.mem op.img.stat.tab4).le
  have E:=(op.img.stat.objs.mem op.img.stat.tab5).le
  have F:=up8_ge (16+16*m.c.dataSlots)
  have G:=up8_ge (16+16*m.c.fieldSlots)
  simp only at D E A C
  rcases hk with rfl|rfl
  · exact⟨_,tab_4 im op,slotsAt_len ..,by rw[slotsAt_len];exact A,by rw[slotsAt_len];omega⟩
  exact⟨_,tab_5 im op,slotsAt_len ..,by rw[slotsAt_len];exact C,by rw[slotsAt_len];omega⟩
theorem buck_w (im:MkIm m l es rs) (op:Opened m B H l es) (hs:Hs {m with b:=B}) (hm:Hs m) (hk:k=4∨k=5) (h:s<slK m k):buckF H.n B k (s:Int)=(slotP (ksK m k) s,0):=by
  rcases hk with rfl|rfl
  · exact buck_4 im op hs h
  exact buck_5 im op hs hm h
theorem whole_4 (im:MkIm m l es rs) (op:Opened m B H l es) (hm:Hs m) (hk:k=4):cntB (ksK m k) (slK m k)=H.n.getD 15 0:=by
  subst hk
  rw[op.n 15 (by decide) (by decide),hm.n15]
  exact cntB_all hm.r4.slot
theorem whole_5 (im:MkIm m l es rs) (op:Opened m B H l es) (hm:Hs m) (hk:k=5):cntB (ksK m k) (slK m k)=H.n.getD 16 0:=by
  subst hk
  rw[op.n 16 (by decide) (by decide),hm.n16]
  exact cntB_all hm.r5.slot
theorem ks_small (op:Opened m B H l es) (hm:Hs m):(ksK m k).length≤B.length:=by
  rw[op.len];unfold ksK;split
  · exact hm.c15
  exact hm.c16
theorem slot_4 (im:MkIm m l es rs) (op:Opened m B H l es) (hm:Hs m) (hk:k=4) (hp:p∈slotP (ksK m k) s):∃d:Dat,datAt (H.n.getD 0 0) B p=(d,0)∧d.hash%slK m k=s:=by
  subst hk
  obtain⟨k,hk,rfl,D⟩:=slotP_mem hp
  obtain⟨d,A,C,_⟩:=datAt_k im op hk
  exact⟨d,by rw[num0 im op];exact A,by rw[C,← D];exact(hm.s4 k hk).symm⟩
theorem slot_5 (im:MkIm m l es rs) (op:Opened m B H l es) (hm:Hs m) (hk:k=5) (hp:p∈slotP (ksK m k) s):∃d:Fld,fldAt (H.n.getD 0 0) B p=(d,0)∧d.hash%slK m k=s:=by
  subst hk
  obtain⟨k,hk,rfl,D⟩:=slotP_mem hp
  obtain⟨d,A,C,_⟩:=fldAt_k im op hm hk
  exact⟨d,by rw[num0 im op];exact A,by rw[C,← D];exact(hm.s5 k hk).symm⟩
end
end Go.Wk
namespace Go.Proofs.YtllaambooilnlaaGreat
open Go Go.Wk Go.RowKit
set_option linter.unusedVariables false
set_option linter.unusedSimpArgs false
attribute [local irreducible] wpList wpQuiet wpStill wpMix Code.wp Calls bodyPost
variable {w:World} {Q:Nat→Prop}
theorem vHead_any (uQ:Up w Q) {v0:Value} {v:PView} (h0:Pt tPView 96 w Q v0 v) :
  Calls Zp 22 #[v0] w fun en w'=>∃r0:PHead,en = .returned (.agg (PHead.cells r0).toArray)∧Md [] w w'∧PHead.ok r0∧v.h=r0:=by
 obtain⟨I,P,rfl,N,h0,rh0⟩:=h0;obtain⟨Y,rfl,T,R⟩:=tPView_un rh0;have M:=Md.refl [] w;have W:=uQ;refine enter (n:=7) Tryz.func22 q q q fun B=>ns (st_alloc z69 ?_);intro F Z C K E A;have J:I≠F:=(by have:=h0.lt;omega);obtain⟨X,U,V,L,H⟩:=exQ uQ C K E;replace C:=ly M.size C;obtain⟨h0,M⟩:=k2 E h0 M;replace uQ:=H;clear H U V;have D:Fsh [] w F:=.inr C;replace A:Blk _ _ (PHead.cells (zz0)) _:=A;have O:PHead.ok (zz0):=(by exact⟨(by decide),(by decide),(by decide),q,q,q,q,(nums_zero _),(by decide),(by decide),(by decide)⟩);refine nt (nm q (sn q (sf q off96_1 (st _ (r_loadPart (PHead.cells v.h) q (by exact agg69) h0 q) (st_storeAgg (us:=(PHead.cells v.h)) q q (by exact agg69) (by exact fun u S=>one_cells (PHead.one) u S) A (lB q) ?_)))))
 have G:=A;clear A;intro a E A;replace M:=M.step E (hI D);clear G;replace A:Blk _ _ (PHead.cells v.h) _:=A;refine nt (c_ret ?_);exact ret1L (v:=(.agg (PHead.cells v.h).toArray)) trivial q ⟨⟨_,q,load_agg (cs:=(PHead.cells v.h)) (by exact agg69) A⟩,tV⟩ ⟨v.h,q,M,T,q⟩
theorem fn21:isFn Zp 21=true:=by kernel_rfl
theorem fn22:isFn Zp 22=true:=by kernel_rfl
theorem fn7:isFn Zp 7=true:=by kernel_rfl
theorem fo69_22:fieldOne Zp 69 22=some 82:=by kernel_rfl
theorem fo69_23:fieldOne Zp 69 23=some 83:=by kernel_rfl
set_option maxHeartbeats 16000000 in
set_option maxRecDepth 100000 in
set_option maxHeartbeats 4000000 in
theorem chainWhole_any (uQ:Up w Q) {v0:Value} {l:List Int} (h0:Ls tInt w Q v0 l) :
  Calls Zp 4 #[v0] w fun en w'=>∃r0:Bool,en = .returned (.bool r0)∧Md [] w w'∧true=r0:=by
 have L0:=h0.len63;have M:=Md.refl [] w;have D7:=uQ;have tQ:∀b,Q b→Q b:=fun _ h=>h;have K:∀b,Q b→b<w.heap.size→Q b:=fun _ h _=>h;refine enter (n:=126) Tryz.func4 q q q fun B=>ns (an q (ns (st_call fn7 q (cFirst_any uQ) ?_)));rintro en w1 ⟨Ae,rfl,G,A4⟩;refine rv ?_;obtain⟨h0,uQ,M⟩:=k3 G h0 uQ M;refine an q (c_seq (nm q (st _ (r_not q) (nt ?_))));refine c_if q (fun Ag=>?_) (fun Ag=>?_)
 ·(first|(have o:=dT Ag)|(have o:=dF (bnt Ag))|(have o:=bnt Ag)|(have o:=Ag));refine ns (ar q (r_then ?_));exact ret1L (v:=(.bool false)) trivial q ⟨q,tV⟩ ⟨false,q,M,(by first|exact A4|simp_all)⟩
 (first|(have o:=dF Ag)|(have o:=dT (bnf Ag))|(have o:=bnf Ag)|(have o:=Ag));refine c_skip (c_then (c_seq (nm q (sL q u22 h0.shp (st _ (r_gtN (a:=l.length) (b:=120) q q) (nt ?_))))));refine c_if q (fun Ah=>?_) (fun Ah=>?_)
 ·(first|(have p:=dT Ah)|(have p:=dF (bnt Ah))|(have p:=bnt Ah)|(have p:=Ah));refine nm q (ar q (r_then ?_));exact ret1L (v:=(.bool Ae)) trivial q ⟨q,tV⟩ ⟨Ae,q,M,(by first|exact A4|simp_all)⟩
 (first|(have p:=dF Ah)|(have p:=dT (bnf Ah))|(have p:=bnf Ah)|(have p:=Ah));refine c_skip (c_then (nm q (st_call fn19 q (kImageM_any uQ h0 12 (by decide)) ?_)));rintro en w2 ⟨u2,r2,rfl,G,B8,j,D1,D3,B9,Cb,B4,Dn⟩;refine rv ?_;obtain⟨uQ,M⟩:=k2 G uQ M;obtain⟨lo,es,im,Do⟩:=maker_im B9;have op:=opened im Cb.2.1 (st:=1) (by decide);rw[B4]at op;have Du:=op.len;obtain⟨Aq,D6⟩:=maker_hs B9;have Cg:=image_hs im Cb.2.1 (st:=1) (by decide) Aq;rw[B4]at Cg;refine st_call fn9 q (aOpen_any uQ B8 (by first|omega|(simp<;>omega)|(simp at *<;>omega))) ?_;rintro en w3 ⟨R,Dg,Cn,rfl,G,Ba,Dd,Cs⟩;refine rv ?_;obtain⟨uQ,M⟩:=k2 G uQ M;refine mv q (se q q (se q q (asg q (an q (c_seq (ns ?_))))));have Cc:=op.opn.symm.trans Cs;have Bb:=congrArg Prod.fst Cc;have Cd:=congrArg Prod.snd Cc;simp only at Bb Cd;have ln:=im.len;have Dr:(parseF r2).n.getD 2 0=288:=(op.n 2 (by decide) (by decide)).trans im.img.c.stat.n2;have Ds:(parseF r2).n.getD 4 0=304+16*j.c.dataSlots:=(op.n 4 (by decide) (by decide)).trans im.img.c.stat.n4;have Dp:=im.ok.small;refine mv q (st _ (r_neN (a:=Cn) (b:=0) q q) (mv q ?_));refine part_n (t:=35) q (fun g=>?_) (fun g=>?_)
 ·(first|(have r:=dT g)|(have r:=dF (bnt g))|(have r:=bnt g)|(have r:=g));exfalso;omega
 (first|(have r:=dF g)|(have r:=dT (bnf g))|(have r:=bnf g)|(have r:=g));refine sg g (r_move q) (sg g (r_eqlPO Ba q u31) (st _ (r_pick_f q g q) (nt ?_)));refine c_if q (fun Ai=>?_) (fun Ai=>?_)
 ·(first|(have Y:=dT Ai)|(have Y:=dF (bnt Ai))|(have Y:=bnt Ai)|(have Y:=Ai));exfalso;rw[← Bb]at Y;simp at Y
 (first|(have Y:=dF Ai)|(have Y:=dT (bnf Ai))|(have Y:=bnf Ai)|(have Y:=Ai));refine c_skip (c_then (c_seq (ns ?_)));have C:Pt tPView 96 w3 Q R {b:=r2,h:=parseF r2:PView}:=(by have h:=Ba;rw[← Bb]at h;exact h);clear Ba;have Cj:({b:=r2,h:=parseF r2}:PView).b.length≤1000000:=(by show r2.length≤_;omega);have Ck:16≤({b:=r2,h:=parseF r2}:PView).h.n.getD 2 0:=(by show 16≤(parseF r2).n.getD 2 0;omega);have Cl:16≤({b:=r2,h:=parseF r2}:PView).h.n.getD 4 0:=(by show 16≤(parseF r2).n.getD 4 0;omega);refine an q (c_block ?_);refine loop1 (fun(k:Int)=>[(6,(.int .i64 (k:Int))),(3,(.bool Ae)),(4,R)]) (fun(k:Int) w'=>∃Q':Nat→Prop,(∀b,Q' b→Q b)∧(∀b,Q b→b<w.heap.size→Q' b)∧Up w' Q'∧Md [] w w'∧Pt tPView 96 w' Q' R ({b:=r2,h:=parseF r2:PView})∧4≤k∧k≤6) (fun(k:Int)=>(6-k).toNat) (x0:=(((4:Nat):Int))) ?_ ?_ ?_
 ·exact⟨q,q,q,tV⟩
 ·exact⟨Q,tQ,K,uQ,M,C,(by omega),(by omega)⟩
 clear M uQ tQ K h0 B8 C
 rintro k B w4 ⟨Q5,tQ,K,uQ,M,C,C8,C9⟩;refine c_seq (nm q (st _ (r_le (a:=k) (b:=5) q q) (nt ?_)));refine c_if q (fun Aj=>?_) (fun Aj=>?_)
 ·(first|(have x:=dT Aj)|(have x:=dF (bnt Aj))|(have x:=bnt Aj)|(have x:=Aj));refine c_skip (c_then (c_seq (c_block (ns (m2 q q (st_call fn20 q (vTable_any uQ C (k) (by omega) (by exact Cj) (by exact Ck) (by exact Cl)) ?_))))));rintro en w6 ⟨f,F,P,rfl,G,A,De,Ct⟩;refine rv ?_;obtain⟨C,uQ,M⟩:=k3 G C uQ M;refine mv q (se q q (se q q (asg q (an q (c_seq (ns ?_))))));obtain⟨T,C1,Bv,C2,C4⟩:=tab_w im op (k:=k) (by omega);have tb:=C1.symm.trans Ct;obtain⟨C3,D5⟩:=Prod.mk.inj tb;rw[C3]at Bv C2 C4;refine mv q (st _ (r_neN (a:=P) (b:=0) q q) (mv q ?_));refine part_n (t:=51) q (fun O=>?_) (fun O=>?_)
  ·(first|(have y:=dT O)|(have y:=dF (bnt O))|(have y:=bnt O)|(have y:=O));refine sk O (sk O (sk O (st _ (r_pick_t q O q) (nt (c_if_t q q (ns (ar q (r_then (r_block (r_then (r_then ?_)))))))))));refine r_block (r_then ?_);exact ret1L (v:=(.bool false)) trivial q ⟨q,tV⟩ ⟨false,q,M,(by first|exact A4|simp_all)⟩
  (first|(have y:=dF O)|(have y:=dT (bnf O))|(have y:=bnf O)|(have y:=O));refine sg O (r_move q) (sg O (r_len q u61 A.shp) (sg O (r_eqN (a:=F.length) (b:=0) q q) (st _ (r_pick_f q O q) (nt ?_))));refine c_if q (fun Ak=>?_) (fun Ak=>?_)
  ·(first|(have z:=dT Ak)|(have z:=dF (bnt Ak))|(have z:=bnt Ak)|(have z:=Ak));refine ns (ar q (r_then (r_block (r_then (r_then (r_block (r_then ?_)))))));exact ret1L (v:=(.bool false)) trivial q ⟨q,tV⟩ ⟨false,q,M,(by first|exact A4|simp_all)⟩
  (first|(have z:=dF Ak)|(have z:=dT (bnf Ak))|(have z:=bnf Ak)|(have z:=Ak));refine c_skip (c_then (ns (an q (c_seq (ns (asg q (nt (c_block ?_))))))));refine loop2 (fun(n:Nat) (s:Nat)=>[(9,(.int .i64 n)),(10,(.int .i64 s)),(3,(.bool Ae)),(4,R),(6,(.int .i64 (k:Int))),(7,f),(8,(.int .i64 P)),(39,(.int .i64 (k:Int))),(40,(.bool ((decide (k≤5))))),(44,R),(45,(.int .i64 (k:Int))),(47,f),(48,(.int .i64 P)),(49,(.int .i64 P)),(50,(.bool ((decide (P≠0))))),(51,(.bool ((decide (P≠0))))),(52,f),(53,(.int .i64 F.length)),(54,(.bool ((decide (F.length=0))))),(55,(.bool ((decide (F.length=0)))))]) (fun(n:Nat) (s:Nat) w'=>∃Q':Nat→Prop,(∀b,Q' b→Q b)∧(∀b,Q b→b<w.heap.size→Q' b)∧Up w' Q'∧Md [] w w'∧Pt tPView 96 w' Q' R ({b:=r2,h:=parseF r2:PView})∧Ls tSlt w' Q' f F∧n=cntB (ksK j k) s∧s≤F.length) (fun(n:Nat) (s:Nat)=>F.length-s) (x0:=0) (x1:=0) ?_ ?_ ?_
  ·exact⟨q,q,q,q,q,q,q,q,q,q,q,q,q,q,q,q,q,q,q,q,tV⟩
  ·exact⟨Q5,tQ,K,uQ,M,C,A,(cntB_0 _).symm,(by omega)⟩
  clear M uQ tQ K C A
  rintro n s B w7 ⟨Q8,tQ,K,uQ,M,C,A,Da,Db⟩;refine c_seq (ns (m2 q q (sL q u61 A.shp (st _ (r_ltN (a:=s) (b:=F.length) q q) (nt ?_)))));refine c_if q (fun Al=>?_) (fun Al=>?_)
  ·(first|(have Aa:=dT Al)|(have Aa:=dF (bnt Al))|(have Aa:=bnt Al)|(have Aa:=Al));refine c_skip (c_then (c_seq (c_block (ns (m2 q q (mv q (st_call fn21 q (cBucket_any uQ C (k) (by omega) (((s:Nat):Int)) (by omega) (by exact Cj) (by exact Ck) (by exact Cl)) ?_)))))));rintro en w9 ⟨Af,S,Aw,rfl,G,D,Df,Cu⟩;refine rv ?_;obtain⟨C,A,uQ,M⟩:=k4 G C A uQ M;refine mv q (se q q (se q q (asg q (an q (c_seq (ns ?_))))));have bk:=(buck_w im op Cg Aq (k:=k) (s:=s) (by omega) (by omega)).symm.trans Cu;obtain⟨Bq,Dj⟩:=Prod.mk.inj bk;have cs:=cntB_step s (ksK j k);rw[Bq]at cs;have cl:=cntB_le (ksK j k) (s+1);have kl:=ks_small (k:=k) op Aq;refine mv q (st _ (r_neN (a:=Aw) (b:=0) q q) (nt ?_));refine c_if q (fun Am=>?_) (fun Am=>?_)
   ·(first|(have Ab:=dT Am)|(have Ab:=dF (bnt Am))|(have Ab:=bnt Am)|(have Ab:=Am));refine ns (ar q (r_then (r_block (r_then (r_then (r_block (r_then (r_block (r_then (r_then (r_block ?_)))))))))));refine r_then ?_;exact ret1L (v:=(.bool false)) trivial q ⟨q,tV⟩ ⟨false,q,M,(by first|exact A4|simp_all)⟩
   (first|(have Ab:=dF Am)|(have Ab:=dT (bnf Am))|(have Ab:=bnf Am)|(have Ab:=Am));refine c_skip (c_then (ns (m2 q q (sL q u64 D.shp (st _ (rA (a:=n) (b:=S.length) q q (by omega)) (an q (ns (asg q (nt (c_block ?_))))))))));refine loop1 (fun(i:Nat)=>[(13,(.int .i64 i)),(3,(.bool Ae)),(4,R),(6,(.int .i64 (k:Int))),(7,f),(8,(.int .i64 P)),(9,(.int .i64 ((n+S.length:Nat):Int))),(10,(.int .i64 s)),(11,Af),(12,(.int .i64 Aw)),(39,(.int .i64 (k:Int))),(40,(.bool ((decide (k≤5))))),(44,R),(45,(.int .i64 (k:Int))),(47,f),(48,(.int .i64 P)),(49,(.int .i64 P)),(50,(.bool ((decide (P≠0))))),(51,(.bool ((decide (P≠0))))),(52,f),(53,(.int .i64 F.length)),(54,(.bool ((decide (F.length=0))))),(55,(.bool ((decide (F.length=0))))),(56,(.int .i64 s)),(57,f),(58,(.int .i64 F.length)),(59,(.bool ((decide (s<F.length))))),(63,R),(64,(.int .i64 (k:Int))),(65,(.int .i64 s)),(67,Af),(68,(.int .i64 Aw)),(69,(.int .i64 Aw)),(70,(.bool ((decide (Aw≠0))))),(71,(.int .i64 n)),(72,Af),(73,(.int .i64 S.length)),(74,(.int .i64 ((n+S.length:Nat):Int)))]) (fun(i:Nat) w'=>∃Q':Nat→Prop,(∀b,Q' b→Q b)∧(∀b,Q b→b<w.heap.size→Q' b)∧Up w' Q'∧Md [] w w'∧Pt tPView 96 w' Q' R ({b:=r2,h:=parseF r2:PView})∧Ls tSlt w' Q' f F∧Ls tU64 w' Q' Af S) (fun(i:Nat)=>S.length-i) (x0:=0) ?_ ?_ ?_
   ·exact⟨q,q,q,q,q,q,q,q,q,q,q,q,q,q,q,q,q,q,q,q,q,q,q,q,q,q,q,q,q,q,q,q,q,q,q,q,q,q,tV⟩
   ·exact⟨Q8,tQ,K,uQ,M,C,A,D⟩
   clear M uQ tQ K C A D
   rintro i B D8 ⟨Co,tQ,K,uQ,M,C,A,D⟩;refine c_seq (ns (m2 q q (sL q u64 D.shp (st _ (r_ltN (a:=i) (b:=S.length) q q) (nt ?_)))));refine c_if q (fun Ao=>?_) (fun Ao=>?_)
   ·(first|(have Ac:=dT Ao)|(have Ac:=dF (bnt Ao))|(have Ac:=bnt Ao)|(have Ac:=Ao));refine c_skip (c_then (c_seq (c_block (ns (an q (c_seq (nm q (st _ (r_eq (a:=k) (b:=4) q q) (nt ?_)))))))));refine c_if q (fun Ap=>?_) (fun Ap=>?_)
    ·(first|(have Ad:=dT Ap)|(have Ad:=dF (bnt Ap))|(have Ad:=bnt Ap)|(have Ad:=Ap));refine ns (m2 q q (mv q (st _ (r_indexN (i:=i) 1 q q u64 el42 D.shp (by omega)) ?_)));obtain⟨Bw,Bo⟩:=getE (l:=S) (i:=i) (by first|omega|(simp<;>omega));obtain⟨Dk,Ce,A1⟩:=D.get Bo;obtain⟨rfl,Cv⟩:=Ce;replace A1:At _ Af (i*1) [(.int .u64 Bw)]:=A1;refine st _ ((r_loadE (kk:=i*1) 0 q q one42 A1 q).to (b:=(.int .u64 Bw)) q) (st_call fn16 q (vData_any uQ C Bw (by first|omega|(simp<;>omega)) (by first|omega|(simp<;>omega)|(simp at *<;>omega))) ?_);rintro en D9 ⟨Au,V,C6,rfl,G,Bc,L,Cz,B3⟩;refine rv ?_;obtain⟨C,A,D,uQ,M⟩:=k5 G C A D uQ M;refine mv q (se q q (se q q (st_alloc z51 ?_)));intro Bm Ea Az Ch G Z;obtain⟨Bz,sQ,sT,Bi,Bg⟩:=exQ uQ Az Ch G;replace tQ:=tT tQ sT;replace K:=fun b hb hl=>sQ b (K b hb hl) (lj hl M.size);replace Az:=ly M.size Az;replace C:=(C.sub sQ).o G;replace A:=(A.sub sQ).o G;replace D:=(D.sub sQ).o G;replace L:=(L.sub sQ).o G;replace M:=M.k G;replace uQ:=Bg;clear Bg sQ sT;have Bk:Fsh [] w Bm:=.inr Az;replace Z:Blk _ _ (Dat.cells (zz4) SN) _:=Z;have Cx:Dat.ok (zz4):=(by first|exact⟨(by decide),(by decide),(by decide),(by decide),(by decide),(by decide)⟩|exact(by first|assumption|exact⟨(by first|omega|(simp<;>omega)|simp_all),(by first|omega|(simp<;>omega)|simp_all),(by first|omega|(simp<;>omega)|simp_all),(by first|omega|(simp<;>omega)|simp_all),(by first|omega|(simp<;>omega)|simp_all),(by first|omega|(simp<;>omega)|simp_all)⟩))
     refine st_storeAgg (us:=(Dat.cells V Au)) q q (by exact agg51) (by first|exact fun u hu=>one_cells (Dat.one L.oneCell) u hu|exact fun u hu=>one_cells q u hu) Z (lB q) ?_;have Bs:=Z;clear Z;intro Eb G Z;have hS:∀b∈[Bm],¬Bz b:=(hI Bi);replace C:=C.md G hS;replace A:=A.md G hS;replace D:=D.md G hS;clear A1;replace uQ:=uQ.md G;replace M:=M.step G (hI Bk);clear Bs hS;replace Z:Blk _ _ (Dat.cells V Au) _:=Z;refine an q (c_region ?_);obtain⟨d,Br,A8⟩:=slot_4 (k:=k) (s:=s) im op Aq (by omega) (by rw[Bq];exact List.mem_of_getElem? Bo);have da:=Br.symm.trans B3;have A9:=congrArg Prod.fst da;simp only at A9;rw[A9]at A8;refine sf q off51_0 (sl (u:=(.int .u64 V.hash)) q one42 Z q ?_);have Dv:V.hash<18446744073709551616:=Bc.1;refine an q (ns (m2 q q (sL q u61 A.shp (st _ (r_convN (a:=F.length) 18446744073709551616 q (by rw[u3];rfl) u42 q (by first|omega|(have:=u8lt;omega))) (st _ (r_remN (a:=V.hash) (b:=F.length) q q (by omega)) ?_)))));have Dw:V.hash%F.length<F.length:=Nat.mod_lt _ (by omega);refine mv q (st _ (r_convN (a:=s) 18446744073709551616 q (by rw[u3];rfl) u42 q (by first|omega|(have:=u8lt;omega))) (st _ (r_neN (a:=(V.hash%F.length)) (b:=s) q q) (nt ?_)));refine c_if q (fun I=>?_) (fun I=>?_)
     ·(first|(have E:=dT I)|(have E:=dF (bnt I))|(have E:=bnt I)|(have E:=I));exfalso;rw[Bv]at E;exact E A8
     (first|(have E:=dF I)|(have E:=dT (bnf I))|(have E:=bnf I)|(have E:=I));refine c_skip (n_block (c_then (c_region (mv q (st _ (rA (a:=i) (b:=1) q q (by omega)) (an q ?_))))));refine next1 (x0:=(i+1)) (by omega) ⟨(fitI q (by omega)),q,q,q,q,q,q,q,q,q,q,q,q,q,q,q,q,q,q,q,q,q,q,q,q,q,q,q,q,q,q,q,q,q,q,q,q,q,tV⟩ ⟨Bz,tQ,K,uQ,M,C,A,D⟩
    (first|(have Ad:=dF Ap)|(have Ad:=dT (bnf Ap))|(have Ad:=bnf Ap)|(have Ad:=Ap));refine ns (m2 q q (mv q (st _ (r_indexN (i:=i) 1 q q u64 el42 D.shp (by omega)) ?_)));obtain⟨Bx,Bp⟩:=getE (l:=S) (i:=i) (by first|omega|(simp<;>omega));obtain⟨Dl,Cf,A2⟩:=D.get Bp;obtain⟨rfl,Cw⟩:=Cf;replace A2:At _ Af (i*1) [(.int .u64 Bx)]:=A2;refine st _ ((r_loadE (kk:=i*1) 0 q q one42 A2 q).to (b:=(.int .u64 Bx)) q) (st_call fn18 q (vField_any uQ C Bx (by first|omega|(simp<;>omega)) (by first|omega|(simp<;>omega)|(simp at *<;>omega))) ?_);rintro en Ec ⟨Av,W,C7,rfl,G,Bd,N,C0,B5⟩;refine rv ?_;obtain⟨C,A,D,uQ,M⟩:=k5 G C A D uQ M;refine mv q (se q q (se q q (st_alloc z56 ?_)));intro Bn Ed A0 Ci G e;obtain⟨B0,sQ,sT,Bj,Bg⟩:=exQ uQ A0 Ci G;replace tQ:=tT tQ sT;replace K:=fun b hb hl=>sQ b (K b hb hl) (lj hl M.size);replace A0:=ly M.size A0;replace C:=(C.sub sQ).o G;replace A:=(A.sub sQ).o G;replace D:=(D.sub sQ).o G;replace N:=(N.sub sQ).o G;replace M:=M.k G;replace uQ:=Bg;clear Bg sQ sT;have Bl:Fsh [] w Bn:=.inr A0;replace e:Blk _ _ (Fld.cells (Zb) SN) _:=e;have Cy:Fld.ok (Zb):=(by first|exact⟨(by decide),(by decide),(by decide)⟩|exact(by first|assumption|exact⟨(by first|omega|(simp<;>omega)|simp_all),(by first|omega|(simp<;>omega)|simp_all),(by first|omega|(simp<;>omega)|simp_all)⟩));refine st_storeAgg (us:=(Fld.cells W Av)) q q (by exact agg56) (by first|exact fun u hu=>one_cells (Fld.one N.oneCell) u hu|exact fun u hu=>one_cells q u hu) e (lB q) ?_
    have Bt:=e;clear e;intro Ee G e;have hS:∀b∈[Bn],¬B0 b:=(hI Bj);replace C:=C.md G hS;replace A:=A.md G hS;replace D:=D.md G hS;clear A2;replace uQ:=uQ.md G;replace M:=M.step G (hI Bl);clear Bt hS;replace e:Blk _ _ (Fld.cells W Av) _:=e;refine an q (c_region ?_);obtain⟨d,Br,A8⟩:=slot_5 (k:=k) (s:=s) im op Aq (by omega) (by rw[Bq];exact List.mem_of_getElem? Bp);have da:=Br.symm.trans B5;have A9:=congrArg Prod.fst da;simp only at A9;rw[A9]at A8;refine sf q off56_0 (sl (u:=(.int .u64 W.hash)) q one42 e q ?_);have Dx:W.hash<18446744073709551616:=Bd.1;refine an q (ns (m2 q q (sL q u61 A.shp (st _ (r_convN (a:=F.length) 18446744073709551616 q (by rw[u3];rfl) u42 q (by first|omega|(have:=u8lt;omega))) (st _ (r_remN (a:=W.hash) (b:=F.length) q q (by omega)) ?_)))));have Dy:W.hash%F.length<F.length:=Nat.mod_lt _ (by omega);refine mv q (st _ (r_convN (a:=s) 18446744073709551616 q (by rw[u3];rfl) u42 q (by first|omega|(have:=u8lt;omega))) (st _ (r_neN (a:=(W.hash%F.length)) (b:=s) q q) (nt ?_)));refine c_if q (fun I=>?_) (fun I=>?_)
    ·(first|(have E:=dT I)|(have E:=dF (bnt I))|(have E:=bnt I)|(have E:=I));exfalso;rw[Bv]at E;exact E A8
    (first|(have E:=dF I)|(have E:=dT (bnf I))|(have E:=bnf I)|(have E:=I));refine c_skip (n_block (c_then (c_region (mv q (st _ (rA (a:=i) (b:=1) q q (by omega)) (an q ?_))))));refine next1 (x0:=(i+1)) (by omega) ⟨(fitI q (by omega)),q,q,q,q,q,q,q,q,q,q,q,q,q,q,q,q,q,q,q,q,q,q,q,q,q,q,q,q,q,q,q,q,q,q,q,q,q,tV⟩ ⟨B0,tQ,K,uQ,M,C,A,D⟩
   (first|(have Ac:=dF Ao)|(have Ac:=dT (bnf Ao))|(have Ac:=bnf Ao)|(have Ac:=Ao));refine c_exit (x_then (x_then (x_hit (n_block (c_then (c_region (mv q (st _ (rA (a:=s) (b:=1) q q (by omega)) (an q ?_)))))))));refine next2 (x0:=(n+S.length)) (x1:=(s+1)) (by omega) ⟨(fitI q (by omega)),(fitI q (by omega)),q,q,q,q,q,q,q,q,q,q,q,q,q,q,q,q,q,q,tV⟩ ⟨Co,tQ,K,uQ,M,C,A,(by omega),(by omega)⟩
  (first|(have Aa:=dF Al)|(have Aa:=dT (bnf Al))|(have Aa:=bnf Al)|(have Aa:=Al));refine c_exit (x_then (x_then (x_hit (c_then (nm q (st_call fn22 q (vHead_any uQ C) ?_))))));rintro en Eg ⟨Ax,rfl,G,Be,B6⟩;refine rv ?_;obtain⟨C,uQ,M⟩:=k3 G C uQ M;refine st _ (r_fieldV fo69_22 q q) ?_;have Dz:Ax.n.getD 15 0<18446744073709551616:=(nums_bd Be.2.2.2.2.2.2.2.1 15);refine an q (c_seq (nm q (st _ (r_eq (a:=k) (b:=5) q q) (nt ?_))));refine c_if q (fun X=>?_) (fun X=>?_)
  ·(first|(have U:=dT X)|(have U:=dF (bnt X))|(have U:=bnt X)|(have U:=X));refine c_region (mv q (st_call fn22 q (vHead_any uQ C) ?_));rintro en w32 ⟨Ay,rfl,G,Bf,B7⟩;refine rv ?_;obtain⟨C,uQ,M⟩:=k3 G C uQ M;refine st _ (r_fieldV fo69_23 q q) ?_;have D0:Ay.n.getD 16 0<18446744073709551616:=(nums_bd Bf.2.2.2.2.2.2.2.1 16);refine an q (ns ?_);have nb:=cntB_le (ksK j k) s;have kl:=ks_small (k:=k) op Aq;refine mv q (st _ (r_convN (a:=n) 18446744073709551616 q (by rw[u3];rfl) u42 q (by first|omega|(have:=u8lt;omega))) (mv q (st _ (r_neN (a:=n) (b:=(Ay.n.getD 16 0)) q q) (nt ?_))));refine c_if q (fun J=>?_) (fun J=>?_)
   ·(first|(have H:=dT J)|(have H:=dF (bnt J))|(have H:=bnt J)|(have H:=J));exfalso;have ei:s=slK j k:=(by omega);have wh:cntB (ksK j k) (slK j k)=Ay.n.getD 16 0:=(by rw[← B7];exact whole_5 im op Aq (by omega));rw[← ei]at wh;omega
   (first|(have H:=dF J)|(have H:=dT (bnf J))|(have H:=bnf J)|(have H:=J));refine c_skip (n_block (c_then (c_region (mv q (st _ (r_addI (a:=k) (b:=1) q q (by omega)) (an q ?_))))));refine next1 (x0:=(k+1)) (by omega) ⟨(fitI q (by omega)),q,q,tV⟩ ⟨Q8,tQ,K,uQ,M,C,(by omega),(by omega)⟩
  (first|(have U:=dF X)|(have U:=dT (bnf X))|(have U:=bnf X)|(have U:=X));refine c_skip (c_then (ns ?_));have nb:=cntB_le (ksK j k) s;have kl:=ks_small (k:=k) op Aq;refine mv q (st _ (r_convN (a:=n) 18446744073709551616 q (by rw[u3];rfl) u42 q (by first|omega|(have:=u8lt;omega))) (mv q (st _ (r_neN (a:=n) (b:=(Ax.n.getD 15 0)) q q) (nt ?_))));refine c_if q (fun J=>?_) (fun J=>?_)
  ·(first|(have H:=dT J)|(have H:=dF (bnt J))|(have H:=bnt J)|(have H:=J));exfalso;have ei:s=slK j k:=(by omega);have wh:cntB (ksK j k) (slK j k)=Ax.n.getD 15 0:=(by rw[← B6];exact whole_4 im op Aq (by omega));rw[← ei]at wh;omega
  (first|(have H:=dF J)|(have H:=dT (bnf J))|(have H:=bnf J)|(have H:=J));refine c_skip (n_block (c_then (c_region (mv q (st _ (r_addI (a:=k) (b:=1) q q (by omega)) (an q ?_))))));refine next1 (x0:=(k+1)) (by omega) ⟨(fitI q (by omega)),q,q,tV⟩ ⟨Q8,tQ,K,uQ,M,C,(by omega),(by omega)⟩
 (first|(have x:=dF Aj)|(have x:=dT (bnf Aj))|(have x:=bnf Aj)|(have x:=Aj));refine c_exit (x_then (x_then (x_hit (c_then (nm q (ar q ?_))))));exact ret1L (v:=(.bool Ae)) trivial q ⟨q,tV⟩ ⟨Ae,q,M,(by first|exact A4|simp_all)⟩
end Go.Proofs.YtllaambooilnlaaGreat
namespace Go.Wk
open Go Go.RowKit Go.ChangeShapes Go.WideShapes Go.ChangeAt Go.Deep
section
variable {H:Type} {enc:TypeId × Value→H} {P:Program} {w:World} {t f:TypeId} {v:Value} {d:DataW H} {ps:List MemPlace}
theorem open_intl {spare:Nat→Bool} {base:Nat} {held:Bool} {r:Reach} {b0:Nat} {e:TypeId} {k:IntKind} (ht:P.underlying t=some (.slice e)) (he:P.underlying e=some (.int k)) (hc:P.cellsOf e=1) (hv:Value.okWide P w r b0 t v)
    (h:DataW.Trod enc P w base spare held t v d ps):∃l:List Int,Sl w v (l.map (Value.int k))∧∀z∈l,(Lit.int k z).wf=true:=by
  obtain⟨S,A,D,rfl⟩:=okWide_slice ht hv
  obtain⟨L,N⟩:=h
  rcases open_ints ht he hc N with⟨E,_⟩|⟨a,R,M,K,E,_,T,O,J,_,B,I⟩
  · simp[Value.cells]at E
    obtain⟨rfl,rfl,rfl⟩:=E
    exact⟨[],Sl.nil w,by simp⟩
  simp[Value.cells]at E
  obtain⟨rfl,rfl,rfl⟩:=E
  have G:A≤K.length:=by rw[J];split <;> omega
  refine⟨K.take A,⟨some a,D,by simp[Nat.min_eq_left G],by simp;omega,O,by simp,fun p Q j u F=>?_⟩,fun z J=>I z (List.mem_of_mem_take J)⟩
  cases Q
  have hj':=(List.getElem?_eq_some_iff.1 F).1
  simp only[List.length_map,List.length_take]at hj'
  have H:j<A:=by omega
  have C:j<K.length:=by omega
  rw[B j C]
  rw[List.getElem?_map,List.getElem?_take]at F
  rw[if_pos H]at F
  simp[C]at F
  simp[List.getD,C,F]
end
end Go.Wk
namespace Go.Wk
open Go Go.RowKit Go.ChangeShapes Go.WideShapes Go.ChangeAt Go.Deep
section
variable {H:Type} {enc:TypeId × Value→H} {P:Program} {w:World} {t e f:TypeId} {v:Value} {d:DataW H} {ps:List MemPlace} {spare:Nat→Bool} {base:Nat} {held:Bool}
theorem ints_ls {l:List Int} (h:Sl w v (l.map (Value.int .i64))) (hw:∀z∈l,(Lit.int .i64 z).wf=true):Ls tInt w (fun _=>True) v l :=
  Ls.of_sl h (fun x hx=>by
    have:=hw x hx
    simp[Lit.wf,IntKind.min,IntKind.max,IntKind.signed,IntKind.bits]at this
    show -9223372036854775808≤x∧x<9223372036854775808
    omega) (fun _ _ _=>trivial)
end
end Go.Wk
