/- Part 10 of what the walk of a law stands on: VSeq5, VSeq6, VMake, VMake2, VKk, ImT3, ImT4, ImT5, ImT6, ImT7, ImT8, ImT9, GoLP, ImT10, ImT11, ImT12, ImT13, ImT14, ImT15, ImT16, ImT17, LwP, JfP, LdP, BhP, SpT. No statement is proved here. -/
import Derived.Test.YtmobbnpkkmeoiaaGreatSAI9
import Derived.Test.YtmobbnpkkmeoiaaGreatRows
namespace Go.Proofs.YtmobbnpkkmeoiaaGreat
open Go Go.Wk Go.RowKit
set_option linter.unusedVariables false
set_option linter.unusedSimpArgs false
attribute [local irreducible] wpList wpQuiet wpStill iq Code.wp Calls bodyPost
variable {w:World} {Q:Nat→Prop}
theorem afg:ea Zp 59=true:=Ym
theorem alm:ea Zp 62=true:=Ym
set_option maxRecDepth 100000 in
theorem OV (uQ:Up w Q) {b0:Nat} {v0_0:Value} (s:Sq) (h0:cg w b0 (Sq.cells s v0_0) 57) (n0:¬Q b0) (a0_0:Sq.ok s) (a0_1:Ls qq w Q v0_0 s.l) (seq:Nat) (a1:seq<18446744073709551616) :
  Calls Zp 33 #[.pointer (some ⟨b0,0,none⟩),(.int .u64 seq)] w fun en w'=>∃u0_0:Value,∃r0:Rec,∃m0:Sq,∃u50_0:Value,en = .returned (.agg (Rec.cells r0 u0_0).toArray)∧Md [b0] w w'∧Rec.ok r0∧Ls p8 w' Q u0_0 r0.aj∧cg w' b0 (Sq.cells m0 u50_0) 57∧¬Q b0∧Sq.ok m0∧Ls qq w' Q u50_0 m0.l∧s.record seq=(r0,m0):=by
 have C:=n0;have R:ck [b0] w b0:=.inl Oq;have M:=Md.refl [b0] w;have Bl:=uQ;have tQ:∀b,Q b→Q b:=fun _ h=>h;refine enter (n:=25) Tryz.func33 q q q fun B=>ns (cw z82 ?_);intro O w1 r Ay F D;have Av:b0≠O:=(by have:=h0.lt;omega);obtain⟨Q2,sQ,sT,Ac,Ar⟩:=kR uQ r Ay F;replace C:=nQ C sT;replace tQ:=tT tQ sT;replace r:=ly M.size r;replace a0_1:=(a0_1.sub sQ).o F;obtain⟨h0,M⟩:=k2 F h0 M;replace uQ:=Ar;clear Ar sQ sT;have Ad:ck [] w O:=.inr r;replace D:cg _ _ (Rec.cells (Zc) SN) _:=D;have A5:Rec.ok (Zc):=(by exact⟨Om,Om,Om,q⟩);refine nt (nm q (ax alm q (SB uQ s h0 C a0_0 a0_1 4 Oh Oh) ?_));rintro en w4 ⟨Bf,Bg,z,Am,rfl,F,Af,W,c,g,J,Ag⟩;refine rv ?_;have T:∀i∈[b0],ck [b0] w i:=(hI R);have P:∀i∈[b0],¬Q2 i:=(hI C);have A:O∉[b0]:=(dc Oh Oq);replace D:=D.md F A;clear A;replace M:=M.step F T;replace uQ:=uQ.md F;clear T P h0 C;have h0:=W;have C:=c;clear W c;have S:=ad5 s 4;rw[Ag]at S;try simp only[LL,Nat.reduceAdd,Nat.reduceMul]at S
 refine ax ajN q (JH uQ Af Oh (fun qv hq=>by have:=S.1 qv hq;omega)) ?_;rintro en w5 ⟨L,N,Bh,rfl,F,E,A9,Aw⟩;refine rv ?_;obtain⟨h0,D,J,uQ,M⟩:=k5 F h0 D J uQ M;refine mv q (se q q (se q q (dP q (an q (ns (m2 q q (ax yx q (og uQ z h0 C g J 40 Oh Oh) ?_)))))));rintro en w6 ⟨H,Aa,Ao,rfl,F,Ba,X,d,j,U,Ah⟩;refine rv ?_;have T:∀i∈[b0],ck [b0] w i:=(hI R);have P:∀i∈[b0],¬Q2 i:=(hI C);have A:O∉[b0]:=(dc Oh Oq);replace D:=D.md F A;clear A;replace E:=E.md F P;replace M:=M.step F T;replace uQ:=uQ.md F;clear T P h0 C;have h0:=X;have C:=d;clear X d;have t:=Sq.kG z 40;rw[Ah]at t;try simp only[LL,Nat.reduceAdd,Nat.reduceMul]at t
 refine st _ (ew (a:=H) 18446744073709551616 q (by rw[u3];rfl) lZ q Oh) (mv q (ax yx q (og uQ Aa h0 C j U 9 Oh Oh) ?_));rintro en w7 ⟨I,Ab,Ap,rfl,F,Bb,Y,e,k,V,Ai⟩;refine rv ?_;have T:∀i∈[b0],ck [b0] w i:=(hI R);have P:∀i∈[b0],¬Q2 i:=(hI C);have A:O∉[b0]:=(dc Oh Oq);replace D:=D.md F A;clear A;replace E:=E.md F P;replace M:=M.step F T;replace uQ:=uQ.md F;clear T P h0 C;have h0:=Y;have C:=e;clear Y e;have x:=Sq.kG Aa 9;rw[Ai]at x;try simp only[LL,Nat.reduceAdd,Nat.reduceMul]at x
 refine st _ (ew (a:=I) 18446744073709551616 q (by rw[u3];rfl) lZ q Oh) (mv q (ax yx q (og uQ Ab h0 C k V 3 Oh Oh) ?_));rintro en w8 ⟨As,Al,Aq,rfl,F,Bc,Z,f,o,G,Aj⟩;refine rv ?_;have T:∀i∈[b0],ck [b0] w i:=(hI R);have P:∀i∈[b0],¬Q2 i:=(hI C);have A:O∉[b0]:=(dc Oh Oq);replace D:=D.md F A;clear A;replace E:=E.md F P;replace M:=M.step F T;replace uQ:=uQ.md F;clear T P h0 C;have h0:=Z;have C:=f;clear Z f;have y:=Sq.kG Ab 3;rw[Aj]at y;try simp only[LL,Nat.reduceAdd,Nat.reduceMul]at y
 refine ax afg q (AJ uQ (((As:Nat):Int)) Oh) ?_;rintro en w9 ⟨K,rfl,F,Bd,Ax⟩;refine rv ?_;obtain⟨h0,D,E,G,M⟩:=k5 F h0 D E G M;refine mv q (st _ (dw (us:=[[(.int .u64 seq)],[(.int .u64 H)],[(.int .u64 I)],(jS K),[L]]) (cs:=(Rec.cells (({seq:=seq,cr:=H,mono:=I,bV:=K,aj:=N}:Rec)) L)) [(0,0,1),(1,1,1),(2,2,1),(3,3,16),(4,19,1)] z82 akv q q ⟨q,q,q,q,(fU E.bZ),tV⟩ ⟨q,q,q,q,q,tV⟩ q q) (aT (us:=(Rec.cells (({seq:=seq,cr:=H,mono:=I,bV:=K,aj:=N}:Rec)) L)) q q (by exact rq) (by exact fun u hu=>bI (Rec.one E.bZ) u hu) D (lB q) ?_));have Ak:=D;clear D;intro Bm F D;have P:∀b∈[O],¬Q2 b:=(hI Ac);replace h0:=h0.md F Nv;replace E:=E.md F P;replace G:=G.md F P;replace M:=M.step F (hI (ck.wid Ad));clear Ak P;replace D:cg _ _ (Rec.cells (({seq:=seq,cr:=H,mono:=I,bV:=K,aj:=N}:Rec)) L) _:=D;refine nt (iP ?_);exact d9 (v:=(.agg (Rec.cells (({seq:=seq,cr:=H,mono:=I,bV:=K,aj:=N}:Rec)) L).toArray)) trivial q ⟨⟨_,q,ey (cs:=(Rec.cells (({seq:=seq,cr:=H,mono:=I,bV:=K,aj:=N}:Rec)) L)) (by exact rq) D⟩,tV⟩ ⟨_,(({seq:=seq,cr:=H,mono:=I,bV:=K,aj:=N}:Rec)),Al,_,q,M,(by exact⟨Oh,Wy,Wy,Vx⟩),(E.sub (fun b p _=>tQ b p)),h0,n0,o,(G.sub (fun b p _=>tQ b p)),(by rw[Sq.record]<;>simp(disch:=first|omega|assumption|simp) only [SS,reduceIte,Ag,Aw,Ah,Ai,Aj,Ax])⟩
theorem alB:gY Zp 76=some [(0,16),(16,16),(32,16),(48,1),(49,1),(50,1),(51,1)]:=Ym
theorem z76:fP Zp 76=some (List.replicate 48 (.int .u8 0) ++ ([.int .i64 0,.int .i64 0,.int .i64 0,.bool false])):=Ym
theorem OQ (uQ:Up w Q) {b0:Nat} {v0_0:Value} (s:Sq) (h0:cg w b0 (Sq.cells s v0_0) 57) (n0:¬Q b0) (a0_0:Sq.ok s) (a0_1:Ls qq w Q v0_0 s.l) :
  Calls Zp 29 #[.pointer (some ⟨b0,0,none⟩)] w fun en w'=>∃r0:nV,∃m0:Sq,∃u50_0:Value,en = .returned (.agg (nV.cells r0).toArray)∧Md [b0] w w'∧nV.ok r0∧cg w' b0 (Sq.cells m0 u50_0) 57∧¬Q b0∧Sq.ok m0∧Ls qq w' Q u50_0 m0.l∧s.config=(r0,m0):=by
 have C:=n0;have R:ck [b0] w b0:=.inl Oq;have M:=Md.refl [b0] w;have B6:=uQ;have tQ:∀b,Q b→Q b:=fun _ h=>h;refine enter (n:=22) Tryz.func29 q q q fun B=>ns (cw z76 ?_);intro S w1 Ag Bn E D;have Bj:b0≠S:=(by have:=h0.lt;omega);obtain⟨Q2,sQ,sT,Av,Bf⟩:=kR uQ Ag Bn E;replace C:=nQ C sT;replace tQ:=tT tQ sT;replace Ag:=ly M.size Ag;replace a0_1:=(a0_1.sub sQ).o E;obtain⟨h0,M⟩:=k2 E h0 M;replace uQ:=Bf;clear Bf sQ sT;have Aw:ck [] w S:=.inr Ag;replace D:cg _ _ (nV.cells (Zd)) _:=D;have Bt:nV.ok (Zd):=(by exact⟨q,q,q,Om,Om,Om⟩);refine nt (nm q (ax yx q (og uQ s h0 C a0_0 a0_1 5 Oh Oh) ?_));rintro en w4 ⟨Bg,Ap,Bc,rfl,E,Bu,x,Aa,Ad,J,A5⟩;refine rv ?_;have T:∀i∈[b0],ck [b0] w i:=(hI R);have U:∀i∈[b0],¬Q2 i:=(hI C);have A:S∉[b0]:=(dc Oh Oq);replace D:=D.md E A;clear A;replace M:=M.step E T;replace uQ:=uQ.md E;clear T U h0 C;have h0:=x;have C:=Aa;clear x Aa;have Ah:=Sq.kG s 5;rw[A5]at Ah;try simp only[LL,Nat.reduceAdd,Nat.reduceMul]at Ah
 refine ax afg q (AJ uQ (((Bg:Nat):Int)) Oh) ?_;rintro en w5 ⟨N,rfl,E,Bv,Bk⟩;refine rv ?_;obtain⟨h0,D,J,uQ,M⟩:=k5 E h0 D J uQ M;refine mv q (ax yx q (og uQ Ap h0 C Ad J 5 Oh Oh) ?_);rintro en w6 ⟨Bh,Aq,Bd,rfl,E,Bw,y,Ab,Ae,K,A9⟩;refine rv ?_;have T:∀i∈[b0],ck [b0] w i:=(hI R);have U:∀i∈[b0],¬Q2 i:=(hI C);have A:S∉[b0]:=(dc Oh Oq);replace D:=D.md E A;clear A;replace M:=M.step E T;replace uQ:=uQ.md E;clear T U h0 C;have h0:=y;have C:=Ab;clear y Ab;have Ai:=Sq.kG Ap 5;rw[A9]at Ai;try simp only[LL,Nat.reduceAdd,Nat.reduceMul]at Ai
 refine ax afg q (AJ uQ (((Bh:Nat):Int)) Oh) ?_;rintro en w7 ⟨O,rfl,E,Bx,Bl⟩;refine rv ?_;obtain⟨h0,D,K,uQ,M⟩:=k5 E h0 D K uQ M;refine mv q (ax yx q (og uQ Aq h0 C Ae K 5 Oh Oh) ?_);rintro en w8 ⟨Bi,Ar,Be,rfl,E,Bz,z,Ac,Af,L,Ba⟩;refine rv ?_;have T:∀i∈[b0],ck [b0] w i:=(hI R);have U:∀i∈[b0],¬Q2 i:=(hI C);have A:S∉[b0]:=(dc Oh Oq);replace D:=D.md E A;clear A;replace M:=M.step E T;replace uQ:=uQ.md E;clear T U h0 C;have h0:=z;have C:=Ac;clear z Ac;have Aj:=Sq.kG Aq 5;rw[Ba]at Aj;try simp only[LL,Nat.reduceAdd,Nat.reduceMul]at Aj
 refine ax afg q (AJ uQ (((Bi:Nat):Int)) Oh) ?_;rintro en w9 ⟨P,rfl,E,B0,Bm⟩;refine rv ?_;obtain⟨h0,D,L,uQ,M⟩:=k5 E h0 D L uQ M;refine mv q (ax yx q (og uQ Ar h0 C Af L 7 Oh Oh) ?_);rintro en B7 ⟨F,r,Ax,rfl,E,Bo,V,Y,f,d,Ak⟩;refine rv ?_;have T:∀i∈[b0],ck [b0] w i:=(hI R);have U:∀i∈[b0],¬Q2 i:=(hI C);have A:S∉[b0]:=(dc Oh Oq);replace D:=D.md E A;clear A;replace M:=M.step E T;replace uQ:=uQ.md E;clear T U h0 C;have h0:=V;have C:=Y;clear V Y;have k:=Sq.kG Ar 7;rw[Ak]at k;try simp only[LL,Nat.reduceAdd,Nat.reduceMul]at k
 refine st _ (rA (a:=F) (b:=1) q q Oh) (mv q (ax yx q (og uQ r h0 C f d 4 Oh Oh) ?_));rintro en B8 ⟨G,t,Ay,rfl,E,Bp,W,Z,g,e,Al⟩;refine rv ?_;have T:∀i∈[b0],ck [b0] w i:=(hI R);have U:∀i∈[b0],¬Q2 i:=(hI C);have A:S∉[b0]:=(dc Oh Oq);replace D:=D.md E A;clear A;replace M:=M.step E T;replace uQ:=uQ.md E;clear T U h0 C;have h0:=W;have C:=Z;clear W Z;have o:=Sq.kG r 4;rw[Al]at o;try simp only[LL,Nat.reduceAdd,Nat.reduceMul]at o
 refine st _ (rA (a:=G) (b:=1) q q Oh) (mv q (ax yx q (og uQ t h0 C g e 2 Oh Oh) ?_));rintro en B9 ⟨H,Au,A0,rfl,E,Bq,X,c,j,I,Am⟩;refine rv ?_;have T:∀i∈[b0],ck [b0] w i:=(hI R);have U:∀i∈[b0],¬Q2 i:=(hI C);have A:S∉[b0]:=(dc Oh Oq);replace D:=D.md E A;clear A;replace M:=M.step E T;clear T U h0 C;have h0:=X;have C:=c;clear X c;have p:=Sq.kG t 2;rw[Am]at p;try simp only[LL,Nat.reduceAdd,Nat.reduceMul]at p
 refine st _ (gw (a:=H) (b:=1) q q) (st _ (dw (us:=[(jS N),(jS O),(jS P),[(.int .i64 ((F+1:Nat):Int))],[(.int .i64 ((G+1:Nat):Int))],[(.int .i64 ((32768:Nat):Int))],[(.bool ((decide (H=1))))]]) (cs:=(nV.cells (({cG:=N,eO:=O,seq:=P,ay:=F+1,aA:=G+1,bY:=32768,dx:=(decide (H=1))}:nV)))) [(0,0,16),(1,16,16),(2,32,16),(3,48,1),(4,49,1),(5,50,1),(6,51,1)] z76 alB q q ⟨q,q,q,q,q,q,q,tV⟩ ⟨q,q,q,q,q,q,q,tV⟩ q (by simp[oD,iu,jS,nV.cells])) (aT (us:=(nV.cells (({cG:=N,eO:=O,seq:=P,ay:=F+1,aA:=G+1,bY:=32768,dx:=(decide (H=1))}:nV)))) q q (by exact NH) (by exact fun u hu=>bI (nV.one) u hu) D (lB q) ?_));have Bb:=D;clear D;intro Ca E D;have U:∀b∈[S],¬Q2 b:=(hI Av);replace h0:=h0.md E Nv;replace I:=I.md E U;replace M:=M.step E (hI (ck.wid Aw));clear Bb U;replace D:cg _ _ (nV.cells (({cG:=N,eO:=O,seq:=P,ay:=F+1,aA:=G+1,bY:=32768,dx:=(decide (H=1))}:nV))) _:=D;refine nt (iP ?_);exact d9 (v:=(.agg (nV.cells (({cG:=N,eO:=O,seq:=P,ay:=F+1,aA:=G+1,bY:=32768,dx:=(decide (H=1))}:nV))).toArray)) trivial q ⟨⟨_,q,ey (cs:=(nV.cells (({cG:=N,eO:=O,seq:=P,ay:=F+1,aA:=G+1,bY:=32768,dx:=(decide (H=1))}:nV)))) (by exact NH) D⟩,tV⟩ ⟨(({cG:=N,eO:=O,seq:=P,ay:=F+1,aA:=G+1,bY:=32768,dx:=(decide (H=1))}:nV)),Au,_,q,M,(by exact⟨Vx,Vx,Vx,Wy,Wy,Wy⟩),h0,n0,j,(I.sub (fun b hb _=>tQ b hb)),(by rw[Sq.config]<;>simp(disch:=first|omega|assumption|simp) only [SS,reduceIte,A5,Bk,A9,Bl,Ba,Bm,Ak,Al,Am])⟩
theorem agW:xW Zp 82 20 64=true:=Ym
theorem akX:ea Zp 29=true:=Ym
theorem akY:ea Zp 30=true:=Ym
theorem akZ:ea Zp 32=true:=Ym
theorem ala:ea Zp 33=true:=Ym
theorem alb:ea Zp 35=true:=Ym
theorem afM:bg Zp 82 1=some 1:=Ym
theorem afN:bg Zp 82 2=some 2:=Ym
theorem afO:bg Zp 82 3=some 3:=Ym
theorem u52:Zp.underlying 52=some (.slice 82):=Ym
set_option maxHeartbeats 16000000 in
set_option maxRecDepth 100000 in
theorem S7 (uQ:Up w Q) {b0:Nat} {v0_0:Value} (s:Sq) (h0:cg w b0 (Sq.cells s v0_0) 57) (n0:¬Q b0) (a0_0:Sq.ok s) (a0_1:Ls qq w Q v0_0 s.l) (bY:Nat) (a1:bY<9223372036854775808) (p0:bY≤100000) :
  Calls Zp 15 #[.pointer (some ⟨b0,0,none⟩),(.int .i64 bY)] w fun en w'=>∃o0:Nat,∃u0_0:Value,∃u0_1:Value,∃u0_2:Value,∃u0_3:Value,∃r0:Mk,∃u1:Value,∃r1:List Rec,∃m0:Sq,∃u50_0:Value,∃Q':Nat→Prop,en = .returned (.tuple #[.pointer (some ⟨o0,0,none⟩),u1])∧Md [b0] w w'∧rj w w' Q Q'∧cg w' o0 (Mk.cells r0 u0_0 u0_1 u0_2 u0_3) 91∧¬Q' o0∧w.heap.size≤o0∧Mk.ok r0∧Ow fF 5 (ck [] w) w' Q' u0_0 r0.b∧Ow ep 146 (ck [] w) w' Q' u0_1 r0.ai∧Ow ep 146 (ck [] w) w' Q' u0_2 r0.aj∧Ls ec w' Q' u0_3 r0.main∧(∀x,ah u0_1=some x→ah u0_2≠some x)∧Ls ag5 w' Q' u1 r1∧cg w' b0 (Sq.cells m0 u50_0) 57∧¬Q' b0∧Sq.ok m0∧Ls qq w' Q' u50_0 m0.l∧s.pZ bY=(r0,r1,m0):=by
 have N:=n0;have B0:ck [b0] w b0:=.inl Oq;have M:=Md.refl [b0] w;have Dl:=uQ;have tQ:∀b,Q b→Q b:=fun _ h=>h;have p:∀b,Q b→b<w.heap.size→Q b:=fun _ h _=>h;refine enter (n:=53) Tryz.func15 q q q fun B=>ns (dP q (an q (nm q (ax akX q (OQ uQ s h0 N a0_0 a0_1) ?_))));rintro en w1 ⟨B3,Dd,D9,rfl,U,C7,Cm,Cp,Cr,e,Ce⟩;refine rv ?_;have hP:∀i∈[b0],ck [b0] w i:=(hI B0);have y:∀i∈[b0],¬Q i:=(hI N);replace M:=M.step U hP;replace uQ:=uQ.md U;clear hP y h0 N;have h0:=Cm;have N:=Cp;clear Cm Cp;refine cw z76 ?_;intro Cb w2 C3 Ej U Ag;have Ef:b0≠Cb:=(by have:=h0.lt;omega);obtain⟨Q3,sQ,sT,Cu,Aq⟩:=kR uQ C3 Ej U;replace N:=nQ N sT;replace tQ:=tT tQ sT;replace p:=fun b X hl=>sQ b (p b X hl) (lj hl M.size);replace C3:=ly M.size C3;replace h0:=h0.o U;replace e:=(e.sub sQ).o U;replace M:=M.k U;replace uQ:=Aq;clear Aq sQ sT;have Dj:ck [] w Cb:=.inr C3;replace Ag:cg _ _ (nV.cells (Zd)) _:=Ag;have E4:nV.ok (Zd):=(by exact⟨q,q,q,Om,Om,Om⟩);refine aT (us:=(nV.cells B3)) q q (by exact NH) (by exact fun u hu=>bI (nV.one) u hu) Ag (lB q) ?_;have D4:=Ag;clear Ag;intro w5 U Ag
 have y:∀b∈[Cb],¬Q3 b:=(hI Cu);replace h0:=h0.md U Nv;replace e:=e.md U y;replace uQ:=uQ.md U;replace M:=M.step U (hI (ck.wid Dj));clear D4 y;replace Ag:cg _ _ (nV.cells B3) _:=Ag;refine nt (aP ?_);have Ci:=Ag;have E9:∀b∈[b0],¬Q3 b:=eX N all_nil;refine dZ [(0,true),(1,true),(2,false),(3,true)] [4,5] (fun w'=>Md [b0] w5 w') eD Ym ?_;intro w6 Bk;refine⟨Bk.mono Oq,?_⟩;have MC:=Bk.mono (T:=[b0]) Oq;have cs:=vg s;rw[Ce]at cs;simp only at cs;refine mz (fun w' hc=>dh (nV.cells B3) q (by exact NH) (Ci.md hc Vw) q) (mo q ?_);obtain⟨h0,e,Ag,uQ,M⟩:=k5 Bk h0 e Ag uQ M;refine m_c ?_ rfl;refine ax yx q (og uQ Dd h0 N Cr e 6 Oh Oh) ?_;rintro en w7 ⟨Df,De,Ct,rfl,U,E5,Co,Cq,Cs,Aa,Cf⟩;refine rv ?_;have hP:∀i∈[b0],ck [b0] w i:=(hI B0);have y:∀i∈[b0],¬Q3 i:=(hI N);have Bx:Cb∉[b0]:=(dc Oh Oq);replace Ag:=Ag.md U Bx;clear Bx;replace M:=M.step U hP;replace MC:=MC.step U (fun i hi=>Or.inl (by simpa using hi));replace uQ:=uQ.md U;clear hP y h0 N;have h0:=Co;have N:=Cq;clear Co Cq;have C8:=Sq.kG Dd 6;rw[Cf]at C8;try simp only[LL,Nat.reduceAdd,Nat.reduceMul]at C8
 refine aI ⟨q,MC,fun w'=>Md [b0] w7 w',Md.refl _ _,fun x hx=>MC.trans hx,?_⟩;clear Ci;replace MC:=Md.refl [b0] w7;refine mz (fun w' hc=>ew (a:=Df) 18446744073709551616 q (by rw[u3];rfl) lZ q Oh) (ej ?_);clear MC;refine ax akY q (GZ uQ B3 C7 Df Oh Oh Oh) ?_;rintro en w8 ⟨Y,Cx,Cy,Cz,C0,C2,Q9,rfl,U,⟨sQ,sT,Aq⟩,K,G,Af,Cw,Am,Ao,Ap,Bg,Ah,Cg⟩;refine rv ?_;have Do:b0≠Y:=(by have:=h0.lt;omega);have Dg:Cb≠Y:=(by have:=Ag.lt;omega);have C1:ck [] w Y:=ck.new M _ Af;replace Af:=ly M.size Af;replace N:=nQ N sT;replace tQ:=tT tQ sT;replace p:=fun b X hl=>sQ b (p b X hl) (lj hl M.size);replace Am:=Am.lower (ck.lift (S':=[]) M);replace Ao:=Ao.lower (ck.lift (S':=[]) M);replace Ap:=Ap.lower (ck.lift (S':=[]) M);replace h0:=h0.o U;replace Aa:=(Aa.sub sQ).o U;replace M:=M.k U;replace uQ:=Aq;clear Aq sQ sT;refine an q (ns (dP q (nt (aP (bG ?_)))));have El:wu C2:=(by rw[← Cg];exact xB cs.1 cs.2.1 cs.2.2);obtain⟨r0,Cj⟩:∃r,jH (bY-([]:List Rec).length) De C2 ([]:List Rec)=r:=⟨_,q⟩;have Ck:=Cj
 try simp only[List.nil_append,Ce,Cf,Cg]at Cj
 refine akf (fun(mm:Mk) (f:Value) (S:Value) (L:Value) (Ac:Value) (sq:Sq) (A5:Value) (vo:Value) (o:List Rec)=>[(8,vo),(0,(.pointer (some ⟨b0,0,none⟩))),(1,(.int .i64 bY)),(4,(.pointer none)),(5,SN),(7,(.pointer (some ⟨Y,0,none⟩)))]) (fun(mm:Mk) (f:Value) (S:Value) (L:Value) (Ac:Value) (sq:Sq) (A5:Value) (vo:Value) (o:List Rec) w'=>∃Q':Nat→Prop,(∀b,Q' b→Q b)∧(∀b,Q b→b<w.heap.size→Q' b)∧Up w' Q'∧Md [b0] w w'∧cg w' Y (Mk.cells mm f S L Ac) 91∧Ow fF 5 (ck [] w) w' Q' f mm.b∧Ow ep 146 (ck [] w) w' Q' S mm.ai∧Ow ep 146 (ck [] w) w' Q' L mm.aj∧Ls ec w' Q' Ac mm.main∧Mk.ok mm∧cg w' b0 (Sq.cells sq A5) 57∧Ls qq w' Q' A5 sq.l∧Sq.ok sq∧Ow ag5 82 (ck [] w) w' Q' vo o∧¬Q' Y∧¬Q' b0∧(∀x,ah S=some x→ah L≠some x)∧wu mm∧o.length≤bY∧jH (bY-o.length) sq mm o=r0) (fun(mm:Mk) (f:Value) (S:Value) (L:Value) (Ac:Value) (sq:Sq) (A5:Value) (vo:Value) (o:List Rec)=>bY-o.length) (x0:=C2) (x1:=Cx) (x2:=Cy) (x3:=Cz) (x4:=C0) (x5:=De) (x6:=Ct) (x7:=SN) (x8:=([]:List Rec)) ?_ ?_ ?_
 ·exact⟨q,q,q,q,q,q,tV⟩
 ·exact⟨Q9,tQ,p,uQ,M,K,Am,Ao,Ap,Bg,Cw,h0,Aa,Cs,(Ow.nil _ _ _ _ _),G,N,Ah,El,Oq,(by have hh:=Cj;exact hh)⟩
 clear M uQ tQ p N Cu G a0_1 h0 e Ag Aa Am Ao Ap Bg K
 rintro mm f S L Ac sq A5 vo o B Es ⟨Dr,tQ,p,uQ,M,K,E,C,A,D,Be,h0,Aw,Cl,P,G,N,O,Dc,E0,C5⟩;refine aP (nm q (sL q u52 P.eJ (mv q (st _ (gy (a:=o.length) (b:=bY) q q) (mv q ?_)))));refine dQ (t:=23) q (fun Bd=>?_) (fun Bd=>?_)
 ·(have Bo:=dT Bd);refine sg Bd (bf q) (gL q q q Bd akZ q (YV uQ sq h0 N Cl Aw) ?_);rintro en Et ⟨Ev,Ay,Dq,rfl,U,Br,Bu,Bb,j,C9⟩;refine rv ?_;have hP:∀i∈[b0],ck [b0] w i:=(hI B0);have y:∀i∈[b0],¬Dr i:=(hI N);have k:∀b,ah f=some b→b∉[b0]:=fun b X=>(dc (E.iE h0 Om b X) Oq);have d:∀b,ah S=some b→b∉[b0]:=fun b X=>(dc (C.iE h0 Om b X) Oq);have Z:∀b,ah L=some b→b∉[b0]:=fun b X=>(dc (A.iE h0 Om b X) Oq);have Ab:Y∉[b0]:=(dc Oh Oq);have v:∀b,ah vo=some b→b∉[b0]:=fun b X=>(dc (P.iE h0 Om b X) Oq);replace E:=E.md U k y;clear k;replace C:=C.md U d y;clear d;replace A:=A.md U Z y;clear Z;replace D:=D.md U y;replace K:=K.md U Ab;clear Ab;replace P:=P.md U v y;clear v;replace M:=M.step U hP;replace uQ:=uQ.md U;clear hP y h0 N;have h0:=Br;have N:=Bu;clear Br Bu;refine st _ (bF q Bd q) (nt ?_);refine cu q (fun Cc=>?_) (fun Cc=>?_)
  ·(have D0:=Cc)
   have B4:sq=Ay∧sq.bn<sq.l.length:=by
    have h:=C9;rw[Cc]at h;simp[Sq.more]at h;exact⟨h.2,by omega⟩
   refine bh (au (bG (ns (m2 q q (ax ahT q (yK uQ mm K G Be (E.fM (fun _ _=>trivial)) (C.fM (fun _ _=>trivial)) (A.fM (fun _ _=>trivial)) D O) ?_)))));rintro en Fd ⟨Bn,rfl,U,En,D1⟩;refine rv ?_;obtain⟨E,C,A,D,K,h0,P,j⟩:=k8 U E C A D K h0 P j;obtain⟨uQ,M⟩:=k2 U uQ M;refine st _ (sN (a:=Bn) (b:=1) 18446744073709551616 q q q q) (ax ala q (OV uQ Ay h0 N Bb j ((Bn+1)%18446744073709551616) Oh) ?_);rintro en Fe ⟨Ae,W,Bl,B5,rfl,U,Ad,V,Bs,Bv,Bc,F,Da⟩;refine rv ?_;have hP:∀i∈[b0],ck [b0] w i:=(hI B0);have y:∀i∈[b0],¬Dr i:=(hI N);have k:∀b,ah f=some b→b∉[b0]:=fun b X=>(dc (E.iE h0 Om b X) Oq);have d:∀b,ah S=some b→b∉[b0]:=fun b X=>(dc (C.iE h0 Om b X) Oq);have Z:∀b,ah L=some b→b∉[b0]:=fun b X=>(dc (A.iE h0 Om b X) Oq);have Ab:Y∉[b0]:=(dc Oh Oq);have v:∀b,ah vo=some b→b∉[b0]:=fun b X=>(dc (P.iE h0 Om b X) Oq);replace E:=E.md U k y;clear k;replace C:=C.md U d y;clear d;replace A:=A.md U Z y;clear Z;replace D:=D.md U y;replace K:=K.md U Ab;clear Ab;replace P:=P.md U v y;clear v;replace M:=M.step U hP;replace uQ:=uQ.md U;clear hP y h0 N;have h0:=Bs;have N:=Bv;clear Bs Bv;refine cw z82 ?_;intro Bj Ff C4 Ek U z
   have Dp:Y≠Bj:=(by have:=K.lt;omega);have Eg:b0≠Bj:=(by have:=h0.lt;omega);have Av:∀x,ah vo=some x→x≠Bj:=fun x hx h=>by have h3:=P.lt x hx;omega
   obtain⟨Ds,sQ,sT,Di,Aq⟩:=kR uQ C4 Ek U;replace G:=nQ G sT;replace N:=nQ N sT;replace tQ:=tT tQ sT;replace p:=fun b X hl=>sQ b (p b X hl) (lj hl M.size);replace C4:=ly M.size C4;replace E:=(E.sub sQ sT).o U;replace C:=(C.sub sQ sT).o U;replace A:=(A.sub sQ sT).o U;replace D:=(D.sub sQ).o U;obtain⟨K,h0⟩:=k2 U K h0;replace P:=(P.sub sQ sT).o U;replace F:=(F.sub sQ).o U;replace V:=(V.sub sQ).o U;replace M:=M.k U;replace uQ:=Aq;clear Aq sQ sT;have Dk:ck [] w Bj:=.inr C4;replace z:cg _ _ (Rec.cells (Zc) SN) _:=z;have Em:Rec.ok (Zc):=(by exact⟨Om,Om,Om,q⟩);refine aT (us:=(Rec.cells W Ae)) q q (by exact rq) (by exact fun u hu=>bI (Rec.one V.bZ) u hu) z (lB q) ?_;have Bq:=z;clear z;intro Fg U z;have y:∀b∈[Bj],¬Ds b:=(hI Di);replace E:=E.md U (aB Bq E) y;replace C:=C.md U (aB Bq C) y;replace A:=A.md U (aB Bq A) y;replace D:=D.md U y;replace K:=K.md U Nv;replace h0:=h0.md U Nv;replace P:=P.md U (fD Av) y
   replace F:=F.md U y;replace V:=V.md U y;replace uQ:=uQ.md U;replace M:=M.step U (hI (ck.wid Dk));clear Bq y;replace z:cg _ _ (Rec.cells W Ae) _:=z;refine nt (aP (nm q (sf q LY (sl (u:=Ae) q ady z q (sf q afM (sl (u:=(.int .u64 W.cr)) q bA z q ?_))))));have Fa:W.cr<18446744073709551616:=Ad.2.1;refine sf q afN (sl (u:=(.int .u64 W.mono)) q bA z q ?_);have Fb:W.mono<18446744073709551616:=Ad.2.2.1;refine sf q afO (st _ (dh (jS W.bV) q (by exact mW) z q) ?_);have Fc:W.bV.length=16:=Ad.2.2.2;have Er:(∀qv∈W.aj,BD qv)∧W.aj.length≤16:=(by have h:=aaj Ay ((Bn+1)%18446744073709551616);rw[Da]at h;exact h);refine ax alb q (PE uQ mm K G Be (E.fM (fun _ _=>trivial)) (C.fM (fun _ _=>trivial)) (A.fM (fun _ _=>trivial)) D O V W.cr Oh W.mono Oh W.bV Vx (by exact Dc) (by exact Oh) (by exact(fun qv hq=>by have:=(Er.1 qv hq).1;omega))) ?_;rintro en Eu ⟨Ew,Dm,Bm,B6,B7,B8,B9,Ec,rfl,U,⟨sQ,sT,Aq⟩,Eo,Ep,Bt,Bw,Ar,H,I,J,c,g,Bp⟩;refine rv ?_;have hP:∀i∈(vS Y f S L),ck [] w i:=(eX C1 (fJ (rF E) (fJ (rF C) (rF A))));have y:∀i∈(vS Y f S L),¬Ds i:=(eX G (fJ (rN E) (fJ (rN C) (rN A))))
   have Cv:b0∉(vS Y f S L):=(dc Oh (dU (aW E h0) (dU (aW C h0) (aW A h0))));have v:∀b,ah vo=some b→b∉(vS Y f S L):=fun b X=>(dc (P.iE K Om b X) (dU ((aO E P) b X) (dU ((aO C P) b X) ((aO A P) b X))));have Bz:Bj∉(vS Y f S L):=(dc Oh (dU (aW E z) (dU (aW C z) (aW A z))));replace H:=H.fM (fun x hx=>(H.2 x hx).1);replace H:=H.fM (fun x hx=>(H.2 x hx).1.elim (hP x) (ck.new M x));replace I:=I.fM (fun x hx=>(I.2 x hx).1);replace I:=I.fM (fun x hx=>(I.2 x hx).1.elim (hP x) (ck.new M x));replace J:=J.fM (fun x hx=>(J.2 x hx).1);replace J:=J.fM (fun x hx=>(J.2 x hx).1.elim (hP x) (ck.new M x));replace N:=nQ N sT;replace tQ:=tT tQ sT;replace p:=fun b X hl=>sQ b (p b X hl) (lj hl M.size);replace y:=fun i hi hq=>y i hi (sT i hq);replace h0:=h0.md U Cv;clear Cv;replace P:=(P.sub sQ sT).md U v y;clear v;replace F:=(F.sub sQ).md U y;replace V:=(V.sub sQ).md U y;replace z:=z.md U Bz;clear Bz;replace M:=M.step U (fun i hi=>ck.wid (hP i hi));replace uQ:=Aq;clear Aq sQ sT;clear hP y K G;have K:=Bt;have G:=Bw;clear Bt Bw;clear A;clear C;clear E;refine mv q (se q q (se q q ?_))
   refine dP q (an q (ns ?_))
   have D8:wu Bm:=by
    have h:=xY (raw:=W.aj) (cr:=W.cr) (mono:=W.mono) (bV:=W.bV) Dc (by exact Ad.2.2.2) (by rw[Bp];exact Ar.2.1.2.2.2.2.2.2.2.1.1);rw[Bp]at h;exact h
   have Db:sq.record ((mm.cT 9+1)%18446744073709551616)=(W,Bl):=(by rw[B4.1,D1];exact Da);refine mv q (st _ (fw (a:=Dm) (b:=0) q q) (nt ?_));refine cu q (fun Dh=>?_) (fun Dh=>?_)
   ·(have Cd:=dT Dh);refine dY (bU (aes q (bU (eT (au (ns (m2 q q (dP q (ar q ?_)))))))));obtain⟨Du,fQ,fT,Au⟩:=P.freeze;replace G:=fun hh=>(fT _ hh).elim G (R6 (aW P K));replace N:=fun hh=>(fT _ hh).elim N (R6 (aW P h0));replace F:=F.sub (fun b X _=>fQ b X);replace H:=H.l9 fQ fT (aO P H);replace I:=I.l9 fQ fT (aO P I);replace J:=J.l9 fQ fT (aO P J);replace c:=c.sub (fun b X _=>fQ b X);replace tQ:=fun b X=>(fT b X).elim (tQ b) (fun hv=>ck.up Dl b (P.2 b hv).1);replace p:=fun b X hl=>fQ b (p b X hl);replace uQ:Up Eu Du:=fun b X=>fQ b (uQ b X);clear P fQ fT;have P:=Au;clear Au;have e0:s.pZ bY=r0:=(by unfold Sq.pZ;simp only[Ce,Cf,Cg];exact Ck);exact eB (vs:=[(.pointer (some ⟨Y,0,none⟩)),vo]) trivial q ⟨q,q,tV⟩ q ⟨Y,_,_,_,_,Bm,_,o,Bl,_,Du,q,M,⟨p,tQ,uQ⟩,K,G,Af,Ar,H,I,J,c,g,P,h0,N,Bc,F,(by rw[e0,← C5,ZC Bo B4.2 Db Bp Cd])⟩
   (have Cd:=dF Dh);refine bh (au (aQ (mv q (st _ (dh (Rec.cells W Ae) q (by exact rq) z q) (bO [(Rec.cells W Ae)] u52 agW Om Om q q ⟨q,tV⟩ ⟨q,tV⟩ q Om ?_)))));intro Ex Fh Dz E3 U Ch;have Eb:=uQ _ Dz;obtain⟨K,h0,P,F,V,z,H,I⟩:=k8 U K h0 P F V z H I;obtain⟨J,c,uQ,M⟩:=k4 U J c uQ M;replace Ch:=Ls.e5 (m:=1) (R:=Ec) (T:=ag5) (xs:=[W]) Ch ⟨_,_,q,(ag6 Ad V),q⟩ q Om Eb;refine gu (sz:=20) (by rfl) u52 agW q q P Ch (fun _ h _=>h) uQ (ck.new M) Wy Wy ?_;intro Ea Fi Ed sQ sT Aq D3 U y _ D7;have C6:∀x,ah Ea=some x→x≠Bj:=fun x hx h=>(D7 x hx).elim (fun h2=>Av x h2 h) (fun h2=>by have h3:=z.lt;omega);have A9:=P;clear P;replace G:=nQ G sT;replace N:=nQ N sT;replace H:=H.sub sQ sT;replace I:=I.sub sQ sT;replace J:=J.sub sQ sT;replace c:=c.sub sQ;replace tQ:=tT tQ sT;replace p:=fun b X hl=>sQ b (p b X hl) (lj hl M.size);replace K:=K.md U (aW A9 K);replace h0:=h0.md U (aW A9 h0);replace F:=(F.sub sQ).md U y
   replace H:=H.md U (aO A9 H) y;replace I:=I.md U (aO A9 I) y;replace J:=J.md U (aO A9 J) y;replace c:=c.md U y;replace uQ:=uQ.md U;replace M:=M.ez U (fun b X=>ck.wid (A9.2 b X).1);replace uQ:=Aq;clear Aq sQ sT y D7;refine dP q (aI (bX (au ?_)));refine akh (x0:=Bm) (x1:=B6) (x2:=B7) (x3:=B8) (x4:=B9) (x5:=Bl) (x6:=B5) (x7:=Ea) (x8:=(o ++ ([W]))) Vw ⟨q,q,q,q,q,q,tV⟩ ⟨Ed,tQ,p,uQ,M,K,H,I,J,c,Ar,h0,F,Bc,D3,G,N,g,D8,Vw,(by have hh:=C5;rw[ZD Bo B4.2 Db Bp Cd]at hh;exact hh)⟩
  (have D0:=Cc)
  have B4:sq=Ay∧¬sq.bn<sq.l.length:=by
   have h:=C9;rw[Cc]at h;simp[Sq.more]at h;exact⟨h.2,by omega⟩
  refine dY (bU (bU (eT (au (ns (m2 q q (dP q (ar q ?_))))))));obtain⟨Dv,fQ,fT,Au⟩:=P.freeze;replace E:=E.l9 fQ fT (aO P E);replace C:=C.l9 fQ fT (aO P C);replace A:=A.l9 fQ fT (aO P A);replace D:=D.sub (fun b X _=>fQ b X);replace G:=fun hh=>(fT _ hh).elim G (R6 (aW P K));replace N:=fun hh=>(fT _ hh).elim N (R6 (aW P h0));replace j:=j.sub (fun b X _=>fQ b X);replace tQ:=fun b X=>(fT b X).elim (tQ b) (fun hv=>ck.up Dl b (P.2 b hv).1);replace p:=fun b X hl=>fQ b (p b X hl);replace uQ:Up Et Dv:=fun b X=>fQ b (uQ b X);clear P fQ fT;have P:=Au;clear Au;have e0:s.pZ bY=r0:=(by unfold Sq.pZ;simp only[Ce,Cf,Cg];exact Ck);exact eB (vs:=[(.pointer (some ⟨Y,0,none⟩)),vo]) trivial q ⟨q,q,tV⟩ q ⟨Y,_,_,_,_,mm,_,o,Ay,_,Dv,q,M,⟨p,tQ,uQ⟩,K,G,Af,Be,E,C,A,D,O,P,h0,N,Bb,j,(by rw[e0,← C5,EF (fun h=>B4.2 h.2),B4.1])⟩
 (have Bo:=dF Bd);refine sk Bd (sk Bd (st _ (aY q Bd q) (nt (kC q q (dY (bU (bU (eT (au (ns (m2 q q (dP q ?_))))))))))));refine ar q ?_;obtain⟨Dw,fQ,fT,Au⟩:=P.freeze;replace E:=E.l9 fQ fT (aO P E);replace C:=C.l9 fQ fT (aO P C);replace A:=A.l9 fQ fT (aO P A);replace D:=D.sub (fun b X _=>fQ b X);replace G:=fun hh=>(fT _ hh).elim G (R6 (aW P K));replace Aw:=Aw.sub (fun b X _=>fQ b X);replace N:=fun hh=>(fT _ hh).elim N (R6 (aW P h0));replace tQ:=fun b X=>(fT b X).elim (tQ b) (fun hv=>ck.up Dl b (P.2 b hv).1);replace p:=fun b X hl=>fQ b (p b X hl);replace uQ:Up Es Dw:=fun b X=>fQ b (uQ b X);clear P fQ fT;have P:=Au;clear Au;have e0:s.pZ bY=r0:=(by unfold Sq.pZ;simp only[Ce,Cf,Cg];exact Ck);exact eB (vs:=[(.pointer (some ⟨Y,0,none⟩)),vo]) trivial q ⟨q,q,tV⟩ q ⟨Y,_,_,_,_,mm,_,o,sq,_,Dw,q,M,⟨p,tQ,uQ⟩,K,G,Af,Be,E,C,A,D,O,P,h0,N,Cl,Aw,(by rw[e0,← C5,EF (fun h=>Bo h.1)])⟩
theorem akO:ea Zp 15=true:=Ym
theorem akP:ea Zp 16=true:=Ym
theorem al7:gY Zp 57=some [(0,1),(1,1)]:=Ym
theorem z57:fP Zp 57=some [.slice none 0 0,.int .i64 0]:=Ym
theorem zD (uQ:Up w Q) {v0:Value} {l:List Int} (h0:Ls qq w Q v0 l) (bY:Nat) (p1:bY≤100000) :
  Calls Zp 6 #[v0,.int .i64 bY] w fun en w'=>∃u0:Value,∃r0:List UInt8,en = .returned u0∧Md [] w w'∧Ls fF w' Q u0 r0∧∃(m:Mk) (rs:List Rec) (s:Sq),(Sq.mk l 0).pZ bY=(m,rs,s)∧Mk.ok m∧nE m 1=r0∧r0.length≤100000:=by
 refine enter (n:=17) Tryz.func6 q q q ?_;intro B;have g:=h0.gd;refine ns (an q (nm q (st (.agg (Sq.cells {l:=l,bn:=0} v0).toArray) (nJ (cs:=Sq.cells {l:=l,bn:=0} v0) (ps:=[(0,0)]) z57 al7 q q (by simp[qW,h0.bZ]) q q q) (gO (cs:=Sq.cells {l:=l,bn:=0} v0) q q ?_))));intro b w1 K Y F O;obtain⟨h,d,z,Z,e⟩:=kR uQ K Y F;replace h0:=(h0.sub d).o F;have M:=F;refine mv q (ax akO q (S7 e {l:=l,bn:=0} O Z (show Sq.ok _ from(by decide:(0:Nat)<9223372036854775808)) h0 bY Oh p1) ?_);rintro en f ⟨a,x0,x1,x2,x3,m,y0,rs,y,z0,i,rfl,G,⟨v,x,u2⟩,P,t,o,C,U,V,W,I,k,X,p,u,c,T,L⟩;refine rv ?_;have J:=M.fW G K;refine mv q (se q q (se q q (dP q (an q (nm q ?_)))));have E:=(acv L).1;have D:=E.small;have A:=E.hd;have S:Pt tMk 91 f (fun _=>True) (.pointer (some ⟨a,0,none⟩)) m:=⟨_,_,q,trivial,P,aiN C (U.ls (fun _ _=>trivial) fun _ _=>trivial) (V.ls (fun _ _=>trivial) fun _ _=>trivial) (W.ls (fun _ _=>trivial) fun _ _=>trivial) (I.sub fun _ _ _=>trivial)⟩;refine ax akP q (SG (Q:=fun _=>True) (fun _ _=>trivial) S 1 Om A Oh) ?_;rintro en w3 ⟨u0,r0,j,rfl,H,r,R,N⟩;refine rv ?_;refine ar q ?_;refine jq trivial q q ⟨_,r0,q,J.k H,R.lsB (uQ.md J),_,_,_,L,C,N,?_⟩;rw[← N];exact S1 C.2.1 D
theorem OU (uQ:Up w Q) {v0:Value} {l:List Int} (h0:Ls qq w Q v0 l) (bY:Nat) (p1:bY≤100000) :
  Calls Zp 6 #[v0,.int .i64 bY] w fun en w'=>∃u0:Value,∃r0:List UInt8,en = .returned u0∧Md [] w w'∧Ls fF w' Q u0 r0∧xh l bY=r0∧r0.length≤100000 :=
 (zD uQ h0 bY p1).mono fun en w' ⟨u0,r0,h1,h2,h3,m,rs,s,h4,h5,h6,h7⟩=>⟨u0,r0,h1,h2,h3,by unfold xh;rw[h4];exact h6,h7⟩
theorem fn6:ea Zp 6=true:=Ym
theorem fn7:ea Zp 7=true:=Ym
theorem fn8:ea Zp 8=true:=Ym
theorem OT (uQ:Up w Q) {v0:Value} {l:List Int} (h0:Ls qq w Q v0 l) (bY:Nat) (a1:bY<9223372036854775808) (p0:bY≤100000) :
  Calls Zp 6 #[v0,.int .i64 bY] w fun en w'=>∃u0:Value,∃r0:List UInt8,en = .returned u0∧Md [] w w'∧Ls fF w' Q u0 r0∧OL l bY=r0 :=
 (OU uQ h0 bY p0).mono fun en w' ⟨u0,r0,h1,h2,h3,h4,h5⟩=>⟨u0,r0,h1,h2,h3,aft h4 h5⟩
theorem CF:ckC (OL [] 0)=0∧(ng (OL [] 0)).ats.length=2∧(OL [] 0).length≤1000000:=by decide +kernel
theorem adz:(kO []).2=22:=by decide +kernel
set_option maxRecDepth 100000 in
theorem O1 (uQ:Up w Q)  :
  Calls Zp 5 #[] w fun en w'=>∃r0:Bool,en = .returned (.bool r0)∧Md [] w w'∧true=r0:=by
 have M:=Md.refl [] w;have g:=uQ;refine enter (n:=29) Tryz.func5 q q q fun B=>ns (an q (ns (ax fn7 q (KM uQ (Ls.nil fF _ _) (by rw[adz];decide) Oq) ?_)));rintro en k ⟨O,P,rfl,H,W,X,S⟩;refine rv ?_;obtain⟨uQ,M⟩:=k2 H uQ M;refine mv q (se q q (se q q (dP q (an q (ns ?_)))));have U:=S;rw[adz]at U;obtain⟨h,i⟩:=Prod.mk.inj U;refine ax fn6 q (OT uQ (Ls.nil qq _ _) 0 Oh Oh) ?_;rintro en l ⟨Z,d,rfl,H,L,F⟩;refine rv ?_;obtain⟨uQ,M⟩:=k2 H uQ M;have G:=acg ([]) 0;rw[F]at G;try simp only[LL,Nat.reduceAdd,Nat.reduceMul]at G
 refine ax fn8 q (vR uQ L (by rw[← F];exact CF.1) (by rw[← F];exact CF.2.2)) ?_;rintro en o ⟨c,E,R,rfl,H,N,Y,T⟩;refine rv ?_;replace M:=M.k H;refine mv q (se q q (se q q (dP q (an q (ns ?_)))));have V:=T;rw[← F]at V;obtain⟨e,j⟩:=Prod.mk.inj V;have f:=congrArg List.length e;rw[CF.2.1]at f;refine mv q (st _ (gw (a:=O) (b:=0) q q) (mv q ?_));refine dQ (t:=16) q (fun C=>?_) (fun C=>?_)
 ·(have I:=dT C);refine sg C (bf q) (sg C (gw (a:=P) (b:=22) q q) (st _ (bF q C q) (mv q ?_)));refine dQ (t:=20) q (fun D=>?_) (fun D=>?_)
  ·(have J:=dT D);refine sg D (bf q) (sg D (gw (a:=R) (b:=0) q q) (st _ (bF q D q) (mv q ?_)));refine dQ (t:=24) q (fun A=>?_) (fun A=>?_)
   ·(have K:=dT A);refine sg A (bf q) (sg A (jK q jr N.eJ) (sg A (gw (a:=E.length) (b:=2) q q) (st _ (bF q A q) (ar q ?_))));exact d9 (v:=(.bool ((decide (E.length=2))))) trivial q ⟨q,tV⟩ ⟨(decide (E.length=2)),q,M,(by exact(decide_eq_true Oh).symm)⟩
   (have K:=dF A);exfalso;omega
  (have J:=dF D);exfalso;omega
 (have I:=dF C);exfalso;omega
end Go.Proofs.YtmobbnpkkmeoiaaGreat
namespace Go.Wk
open Go Go.RowKit
def pI:Nat→Nat
  | 0=>0
  | k+1=>pI k+eP (k:Int)
theorem JQ:∀(l:List Nat) (k a:Nat),gC l k a (pI k)=(if l=[]then a else pI (k+l.length-1),pI (k+l.length))
  | [],_,_=>rfl
  | x :: l,k,a=>by
    have:=JQ l (k+1) (pI k)
    rw[show gC (x :: l) k a (pI k)=gC l (k+1) (pI k) (pI (k+1))from rfl,this]
    have h1:k+1+l.length=k+(l.length+1):=by omega
    simp only[List.length_cons,h1,reduceCtorEq,if_false,Prod.mk.injEq,and_true]
    split
    · rename_i h;subst h;rfl
    · rfl
theorem aan (l:List Nat):gC l 0 0 0=(pI (l.length-1),pI l.length):=by
  have:=JQ l 0 0
  simp only[pI,Nat.zero_add]at this
  rw[this]
  congr 1
  split
  · rename_i h;subst h;rfl
  rfl
theorem abu {i j:Nat} (h:i≤j):pI i≤pI j:=by
  induction j with
  | zero=>rw[Nat.le_zero.1 h];exact Nat.le_refl _
  | succ j ih =>
    rcases Nat.lt_or_ge i (j+1)with A|A
    · have:=ih Oh;simp only[pI];omega
    · rw[show i=j+1 by omega];exact Nat.le_refl _
theorem abv {i j:Nat} (h:i<j):pI i+eP (i:Int)≤pI j:=abu (show i+1≤j from h)
theorem rE (l:List Nat) (x i:Nat):(l ++ [x]).getD i 0=if i=l.length then x else l.getD i 0:=by
  simp only[List.getD_eq_getElem?_getD]
  by_cases h:i<l.length
  · rw[List.getElem?_append_left h,if_neg Oh]
  rw[List.getElem?_append_right Oh]
  by_cases h2:i=l.length
  · subst h2;simp
  rw[if_neg h2,List.getElem?_eq_none Vw,List.getElem?_eq_none Oh]
theorem getD_some {l:List Nat} {i x:Nat} (h:l[i]? = some x):l.getD i 0=x:=by simp[List.getD,h]
structure Chain (b:Ly) (l:List Ob) (src:Nat) (av aD:List Nat):Prop where
  word:eY b src=av.getD 0 0
  ob:∀k a:Nat,av[k]? = some a→(⟨a,6,24+8*eP (k:Int)⟩:Ob)∈l
  next:∀k a:Nat,av[k]? = some a→eY b (a+16)=av.getD (k+1) 0
  iI:∀k a j:Nat,av[k]? = some a→j<eP (k:Int)→eY b (a+24+8*j)=aD.getD (pI k+j) 0
  HG:∀k a c:Nat,av[k]? = some a→av[k+1]? = some c→a<c
  lo:pI (av.length-1)≤aD.length
  hi:aD.length≤pI av.length
theorem RE {av:List Nat} (h:∀k a c:Nat,av[k]? = some a→av[k+1]? = some c→a<c):∀(d k a c:Nat),av[k]? = some a→av[k+d+1]? = some c→a<c
  | 0,k,a,c,h1,h2=>h k a c h1 h2
  | d+1,k,a,c,h1,h2=>by
    obtain⟨y,hy⟩:∃y,av[k+d+1]? = some y:=⟨_,List.getElem?_eq_getElem (by have:=(List.getElem?_eq_some_iff.1 h2).1;omega)⟩
    have:=RE h d k a y h1 hy
    have:=h (k+d+1) y c hy h2
    omega
def Src (l:List Ob) (a:Nat):Prop:=a+8≤272∨∃o∈l,o.kind≠6∧o.bn+16≤a∧a+8≤o.bn+mO o.size
theorem Src.body {l:List Ob} {a:Nat} (h:Src l a):Body l a:=h.imp id fun⟨o,h1,_,h2⟩=>⟨o,h1,h2⟩
theorem Src.apart {b:Ly} {l:List Ob} {a e:Nat} (h:Src l a) (hO:gB b 272 l e) {o:Ob} (ho:o∈l) (hk:o.kind=6):a+8≤o.bn∨o.bn+mO o.size≤a:=by
  rcases h with h|⟨x,C,A,D,E⟩
  · have:=(hO.mem ho).ge;omega
  rcases hO.sep ho C with rfl|B|B
  · exact absurd hk A
  · omega
  omega
theorem Src.mono {l r:List Ob} {a:Nat} (h:Src l a) (hs:∀o∈l,o∈r):Src r a:=h.imp id fun⟨o,h1,h2⟩=>⟨o,hs o h1,h2⟩
theorem Src.lt {b:Ly} {l:List Ob} {a e:Nat} (h:Src l a) (hO:gB b 272 l e):a+8≤e:=by
  rcases h with h|⟨x,A,B,C,D⟩
  · have:=hO.le;omega
  have:=(hO.mem A).le;omega
def zq (src:Nat) (av:List Nat) (a:Nat):Prop:=a=src∨∃k c:Nat,av[k]? = some c∧c+16≤a∧a+8≤c+24+8*eP (k:Int)
theorem jh (r:Nat):mO (24+8*r)=24+8*r:=by unfold mO;omega
section
variable {b c:Ly} {l:List Ob} {src e:Nat} {av aD:List Nat}
theorem Chain.apart (h:Chain b l src av aD) (hO:gB b 272 l e) {k k' a a':Nat} (ha:av[k]? = some a) (ha':av[k']? = some a') (hk:k≠k'):a+24+8*eP (k:Int)≤a'∨a'+24+8*eP (k':Int)≤a:=by
  have B:a≠a':=by
    rcases Nat.lt_or_ge k k' with A|A
    · have:=RE h.HG (k'-k-1) k a a' ha (by rw[show k+(k'-k-1)+1=k' by omega];exact ha');omega
    · have:=RE h.HG (k-k'-1) k' a' a ha' (by rw[show k'+(k-k'-1)+1=k by omega];exact ha);omega
  rcases hO.sep (h.ob k a ha) (h.ob k' a' ha')with A|A|A
  · exact absurd (congrArg Ob.bn A) B
  · rw[jh]at A;simp only at A;omega
  rw[jh]at A;simp only at A;omega
theorem Chain.le (h:Chain b l src av aD) (hO:gB b 272 l e) {k a:Nat} (ha:av[k]? = some a):272≤a∧a+24+8*eP (k:Int)≤e:=by
  have:=hO.mem (h.ob k a ha)
  have B:=this.le
  have C:=this.ge
  rw[jh]at B
  simp only at B C
  omega
theorem Chain.me {S:Nat→Prop} {r:List Ob} (h:Chain b l src av aD) (hO:gB b 272 l e) (hs:Src l src) (he:e≤b.length) (k:Eff S b c) (hr:∀o∈l,o∈r) (h1:∀a,S a→a+8≤src∨src+8≤a) (h2:∀k x:Nat,av[k]? = some x→∀a,S a→a+8≤x+16∨x+24+8*eP (k:Int)≤a):Chain c r src av aD:=by
  have D:=hs.lt hO
  refine⟨(k.eY Oh h1).trans h.word,fun i a A=>hr _ (h.ob i a A),fun i a A=>?_,fun i a j A C=>?_,h.HG,h.lo,h.hi⟩
  · have:=h.le hO A
    rw[k.eY Oh fun x B=>by have:=h2 i a A x B;omega]
    exact h.next i a A
  have:=h.le hO A
  rw[k.eY Oh fun x B=>by have:=h2 i a A x B;omega]
  exact h.iI i a j A C
theorem Chain.put (h:Chain b l src av aD) (hO:gB b 272 l e) (hs:Src l src) (he:e≤b.length) {x p:Nat} (hx:x<18446744073709551616) (hn:av≠[]) (hp:av[av.length-1]? = some p) (hr:aD.length<pI av.length) :
    Chain (iV b (p+24+8*(aD.length-pI (av.length-1))) x) l src av (aD ++ [x]):=by
  have D:0<av.length:=List.length_pos_iff.2 hn
  have H:pI av.length=pI (av.length-1)+eP ((av.length-1:Nat):Int):=by rw[show av.length=(av.length-1)+1 by omega];rfl
  have F:=h.lo
  have G:=h.le hO hp
  generalize hq:p+24+8*(aD.length-pI (av.length-1))=q
  have B:=hs.apart hO (h.ob _ _ hp) rfl
  rw[jh]at B
  simp only at B
  refine⟨?_,h.ob,fun i a A=>?_,fun i a j A C=>?_,h.HG,?_,?_⟩
  · rw[gJ Oh];exact h.word
  · have:q+8≤a+16∨a+16+8≤q:=by
      by_cases hi:i=av.length-1
      · subst hi;rw[hp]at A;cases A;omega
      · have:=h.apart hO A hp hi;omega
    rw[gJ this];exact h.next i a A
  · rw[rE]
    by_cases hi:i=av.length-1
    · subst hi
      rw[hp]at A;cases A
      by_cases hj2:j=aD.length-pI (av.length-1)
      · rw[if_pos Oh,show p+24+8*j=q by omega]
        exact j5 Oh hx
      rw[if_neg Oh,gJ Oh]
      exact h.iI _ _ j hp C
    have E:i<av.length:=(List.getElem?_eq_some_iff.1 A).1
    have:=abv (show i<av.length-1 by omega)
    have:=h.apart hO A hp hi
    rw[if_neg Oh,gJ Oh]
    exact h.iI i a j A C
  · rw[List.length_append];simp only[List.length_singleton];omega
  rw[List.length_append];simp only[List.length_singleton];omega
end
theorem uY {av:List Nat} {p k a:Nat} (h:(av ++ [p])[k]? = some a):(k<av.length∧av[k]? = some a)∨(k=av.length∧a=p):=by
  rcases Nat.lt_or_ge k av.length with hk|hk
  · rw[List.getElem?_append_left hk]at h;exact .inl ⟨hk,h⟩
  have A:=(List.getElem?_eq_some_iff.1 h).1
  simp at A
  rw[List.getElem?_append_right hk,show k-av.length=0 by omega]at h
  exact .inr ⟨by omega,by simpa using h.symm⟩
def KF (r:Nat):List UInt8:=gE {next:=0,aD:=List.replicate r 0}
theorem KG (r:Nat):KF r=Rz 6 (24+8*r) ++ nums (0 :: List.replicate r 0):=by
  unfold KF gE
  rw[xO Oh]
  have:(nums [0] ++ nums (List.replicate r 0)).length=8+8*r:=by simp[fV]
  simp only[this]
  rw[show(8-(16+(8+8*r))%8)%8=0 by omega,show 16+(8+8*r)=24+8*r by omega]
  simp[nums]
theorem NN (r:Nat):(KF r).length=24+8*r:=by rw[KG];simp[kS,fV];omega
theorem XR {r i:Nat} (h:i≤r):eY (KF r) (16+8*i)=0:=by
  rw[KG,iQ (by rw[kS];omega),kS,show 16+8*i-16=8*i by omega]
  refine HK (v:=0) ?_ Om
  cases i with
  | zero=>rfl
  | succ i=>simp only[List.getElem?_cons_succ];rw[List.getElem?_replicate,if_pos Oh]
theorem ae9 (r:Nat):seg (KF r) 0 16=Rz 6 (24+8*r):=by rw[KG];exact mJ _ _ (kS _ _).symm
theorem Chain.grow {b:Ly} {l:List Ob} {src:Nat} {av aD:List Nat} (h:Chain b l src av aD) (hO:gB b 272 l b.length) (hs:Src l src) (hb:b.length<1000000) (hr:aD.length=pI av.length) :
    let b1:=b ++ KF (eP (av.length:Int))
    let l1:=l ++ [(⟨b.length,6,24+8*eP (av.length:Int)⟩:Ob)]
    gB b1 272 l1 b1.length∧Chain (iV b1 (if av.length=0 then src else jX av+16) b.length) l1 src (av ++ [b.length]) aD:=by
  intro b1 l1
  have R:=uM (av.length:Int)
  have P:b1.length=b.length+(24+8*eP (av.length:Int)):=by simp[b1,NN]
  have G:Eff (fun _=>False) b b1:=Eff.app _ _ _
  have U:=hO.le
  have M:gB b1 272 l1 b1.length:=by
    have:=(hO.me G (Nat.le_refl _) (fun _ _ _ Y=>Y.elim)).app (o:=⟨b.length,6,24+8*eP (av.length:Int)⟩) rfl Oq Oq Vw Vw ?_
    · rw[jh]at this;rw[P];exact this
    · have L:=jk (x:=b) (y:=KF (eP (av.length:Int))) (p:=b.length) (n:=16) (Nat.le_refl _)
      rw[Nat.sub_self,ae9]at L
      exact L
  refine⟨M,?_⟩
  have I:∀i,i≤eP (av.length:Int)→eY b1 (b.length+16+8*i)=0:=fun i O=>by
    have:=iQ (x:=b) (y:=KF (eP (av.length:Int))) (p:=b.length+16+8*i) Oh
    rw[show b.length+16+8*i-b.length=16+8*i by omega,XR O]at this
    exact this
  have J:=hs.lt hO
  have S:∀q,q+8≤b.length→eY b1 q=eY b q:=fun q E=>ve E
  have X:pI (av.length+1)=pI av.length+eP (av.length:Int):=rfl
  -- the place that leads to the new one
  have E:∃q,(if av.length=0 then src else jX av+16)=q∧q+8≤b.length∧(av=[]∧q=src∨∃p,av[av.length-1]? = some p∧0<av.length∧q=p+16):=by
    by_cases hz:av.length=0
    · exact⟨src,by rw[if_pos hz],J,.inl ⟨List.eq_nil_of_length_eq_zero hz,rfl⟩⟩
    · obtain⟨p,B⟩:∃p,av[av.length-1]? = some p:=⟨_,List.getElem?_eq_getElem Oh⟩
      have:=h.le hO B
      exact⟨p+16,by rw[if_neg hz,kY B],by omega,.inr ⟨p,B,by omega,rfl⟩⟩
  obtain⟨q,V,d,E⟩:=E
  rw[V]
  have D:∀F,F+8≤b.length→(q+8≤F∨F+8≤q)→eY (iV b1 q b.length) F=eY b F:=fun F W L=>(gJ L).trans (S F W)
  have C:eY (iV b1 q b.length) q=b.length:=j5 Oh Oh
  have H:∀i,i≤eP (av.length:Int)→eY (iV b1 q b.length) (b.length+16+8*i)=0:=fun i O=>(gJ Oh).trans (I i O)
  refine⟨?_,fun k a A=>?_,fun k a A=>?_,fun k a j A Z=>?_,fun k a c A N=>?_,?_,?_⟩
  · rcases E with⟨rfl,rfl⟩|⟨p,B,T,rfl⟩
    · exact C
    have K:=hs.apart hO (h.ob _ _ B) rfl
    rw[jh]at K
    simp only at K
    rw[D src J Oh,h.word,rE,if_neg Oh]
  · rcases uY A with⟨_,A⟩|⟨rfl,rfl⟩
    · exact List.mem_append_left _ (h.ob k a A)
    exact List.mem_append_right _ Oq
  · rcases uY A with⟨hk,A⟩|⟨rfl,rfl⟩
    · have Q:=h.le hO A
      rcases E with⟨rfl,_⟩|⟨p,B,T,rfl⟩
      · simp at hk
      by_cases hk2:k=av.length-1
      · subst hk2;rw[B]at A;cases A
        rw[C,rE,if_pos Oh]
      have:=h.apart hO A B hk2
      rw[D _ Oh Oh,h.next k a A,rE,if_neg Oh]
    have:=H 0 Oh
    rw[Nat.mul_zero,Nat.add_zero]at this
    rw[this,rE,if_neg Oh]
    simp
  · rcases uY A with⟨hk,A⟩|⟨rfl,rfl⟩
    · have Q:=h.le hO A
      have:q+8≤a+24+8*j∨a+24+8*j+8≤q:=by
        rcases E with⟨rfl,_⟩|⟨p,B,T,rfl⟩
        · simp at hk
        · by_cases hk2:k=av.length-1
          · subst hk2;rw[B]at A;cases A;omega
          · have:=h.apart hO A B hk2;omega
      rw[D _ Oh this]
      exact h.iI k a j A Z
    have:=H (j+1) Oh
    rw[show b.length+16+8*(j+1)=b.length+24+8*j by omega]at this
    rw[this]
    symm
    simp only[List.getD_eq_getElem?_getD]
    rw[List.getElem?_eq_none Oh]
    rfl
  · rcases uY N with⟨hk,N⟩|⟨hk,rfl⟩
    · rcases uY A with⟨_,A⟩|⟨rfl,_⟩
      · exact h.HG k a c A N
      omega
    rcases uY A with⟨_,A⟩|⟨rfl,_⟩
    · have:=h.le hO A;omega
    omega
  · simp only[List.length_append,List.length_singleton,Nat.add_sub_cancel];omega
  simp only[List.length_append,List.length_singleton];omega
end Go.Wk
namespace Go.Wk
open Go Go.RowKit
structure Cn (m:Mk) (l:List Ob):Prop where
  len:19≤m.h.n.length
  n6:m.cT 6=jX (l.map Ob.bn)
  n7:m.cT 7=l.length%18446744073709551616
  n17:m.cT 17=0
  n18:m.cT 18=(l.filter fun o=>decide (o.kind=6)).length%18446744073709551616
  k:∀o∈l,o.kind≠7∧(o.kind=6→∃r,1≤r∧o.size=24+8*r)∧(o.kind=4∨o.kind=5→∃r,1≤r∧o.size=16+16*r)
theorem Cn.to {m m':Mk} {l:List Ob} (h:Cn m l) (hl:m'.h.n.length=m.h.n.length) (hn:∀i,i=6∨i=7∨i=17∨i=18→m'.cT i=m.cT i):Cn m' l :=
  ⟨by rw[hl];exact h.len,(hn 6 Oh).trans h.n6,(hn 7 Oh).trans h.n7,(hn 17 Oh).trans h.n17,(hn 18 Oh).trans h.n18,h.k⟩
theorem Cn.same {m m':Mk} {l:List Ob} (h:Cn m l) (e:m'.h=m.h):Cn m' l:=h.to (by rw[e]) fun i _=>by show m'.h.n.getD i 0=_;rw[e];rfl
theorem DR (a:List Nat) (x:Nat):jX (a ++ [x])=x:=kY Oq
theorem AL {m:Mk} {k v:Nat} (h:k<m.h.n.length):(m.dX k v).cT k=v:=nD h
theorem Cn.obj {m:Mk} {l:List Ob} (h:Cn m l) (o:Ly) {k s:Nat} (hk:k≤3):Cn (m.di o).2 (l ++ [⟨m.b.length,k,s⟩]):=by
  have B:=h.len
  refine⟨by simp[Mk.di,Mk.dX];omega,?_,?_,?_,?_,fun x A=>?_⟩
  · simp only[Mk.di]
    rw[er Oh,AL (by show 6<m.h.n.length;omega),List.map_append]
    exact(DR _ _).symm
  · simp only[Mk.di]
    rw[AL (by simp[Mk.dX];omega),er Oh]
    show(m.cT 7+1)%_=_
    rw[h.n7,List.length_append,List.length_singleton];omega
  · simp only[Mk.di]
    rw[er Oh,er Oh];exact h.n17
  · simp only[Mk.di]
    rw[er Oh,er Oh,List.filter_append,List.filter_cons_of_neg Vw,List.filter_nil,List.append_nil];exact h.n18
  rcases List.mem_append.1 A with A|A
  · exact h.k x A
  simp at A;subst A
  exact⟨by simp only;omega,fun h=>by simp only at h;omega,fun h=>by simp only at h;omega⟩
theorem Cn.arr {m:Mk} {l:List Ob} (h:Cn m l) (o:Ly) {r:Nat} (hr:1≤r):Cn ((m.di o).2.dX 18 (((m.di o).2.cT 18+1)%18446744073709551616)) (l ++ [⟨m.b.length,6,24+8*r⟩]):=by
  have C:=h.len
  have g:=h.obj o (k:=0) (s:=0) Oh
  have B:=g.len
  refine⟨by simp[Mk.dX];omega,?_,?_,?_,?_,fun x A=>?_⟩
  · rw[er Oh,g.n6,List.map_append,List.map_append];rw[List.map_singleton,List.map_singleton,DR]
  · rw[er Oh,g.n7,List.length_append,List.length_append];rfl
  · rw[er Oh];exact g.n17
  · rw[AL Oh,g.n18,List.filter_append,List.filter_append,List.filter_cons_of_neg Oq,List.filter_nil,List.append_nil,List.filter_cons_of_pos Oq,List.filter_nil,List.length_append,List.length_singleton];omega
  rcases List.mem_append.1 A with A|A
  · exact h.k x A
  simp at A;subst A
  exact⟨by simp,fun _=>⟨r,hr,q⟩,fun h=>by simp at h⟩
structure Linked (m m':Mk) (l l':List Ob) (src:Nat) (av av' aD:List Nat) (x:Nat):Prop where
  eU:gB m'.b 272 l' m'.b.length
  sub:l'=l∨l'=l ++ [(⟨m.b.length,6,24+8*eP (av.length:Int)⟩:Ob)]
  arr:av'=av∨av'=av ++ [m.b.length]
  chain:Chain m'.b l' src av' (aD ++ [x])
  me:Eff (zq src av') m.b m'.b
  ne:av'≠[]
  top:m'.b.length≤m.b.length+2100
  same:m'.c=m.c∧m'.ai=m.ai∧m'.aj=m.aj∧m'.main=m.main∧m'.depth=m.depth∧∀i,i≠6→i≠7→i≠18→m'.cT i=m.cT i
  cn:Cn m l→Cn m' l'
theorem LF {m:Mk} {l:List Ob} {src x:Nat} {av aD:List Nat} (hO:gB m.b 272 l m.b.length) (h:Chain m.b l src av aD) (hs:Src l src) (hb:m.b.length<900000) (hx:x<18446744073709551616) :
    ∃l',Linked m (m.link av aD.length src x).2.2 l l' src av (m.link av aD.length src x).1 aD x:=by
  unfold Mk.link
  rw[aan]
  simp only
  split
  · rename_i hn
    have g:=h.grow hO hs Oh hn
    simp only at g
    obtain⟨V,W⟩:=g
    generalize hl1:l ++ [(⟨m.b.length,6,24+8*eP (av.length:Int)⟩:Ob)]=l1 at *
    generalize hq:(if av.length=0 then src else jX av+16)=qv at W
    have E:(m.di (gE {next:=0,aD:=List.replicate (eP (av.length:Int)) 0})).2.b=m.b ++ KF (eP (av.length:Int)):=rfl
    have O:(m.di (gE {next:=0,aD:=List.replicate (eP (av.length:Int)) 0})).1=m.b.length:=rfl
    have B:=fC m (gE {next:=0,aD:=List.replicate (eP (av.length:Int)) 0})
    have H:(m.di (gE {next:=0,aD:=List.replicate (eP (av.length:Int)) 0})).2.depth=m.depth:=rfl
    have I:∀i,i≠6→i≠7→(m.di (gE {next:=0,aD:=List.replicate (eP (av.length:Int)) 0})).2.cT i=m.cT i:=fun i n t=>by
      simp only[Mk.di]
      rw[er Oh,er Oh];rfl
    have J:=fun h:Cn m l=>h.arr (gE {next:=0,aD:=List.replicate (eP (av.length:Int)) 0}) (r:=eP (av.length:Int)) (by have:=si (k:=(av.length:Int)) Oh;omega)
    rw[hl1]at J
    generalize m.di (gE {next:=0,aD:=List.replicate (eP (av.length:Int)) 0})=r at *
    obtain⟨p,A⟩:=r
    simp only at E O B H I J ⊢
    subst O
    have d:=uM (av.length:Int)
    have S:=si (k:=(av.length:Int)) Oh
    have Aa:A.b.length=m.b.length+(24+8*eP (av.length:Int)):=by rw[E];simp[NN]
    have Y:pI (av ++ [m.b.length]).length=pI av.length+eP (av.length:Int):=by simp[pI]
    have Q:Src l1 src:=hs.mono fun o F=>by rw[← hl1];exact List.mem_append_left _ F
    have P:Body l1 qv∧(qv=src∨∃k c:Nat,(av ++ [m.b.length])[k]? = some c∧qv=c+16):=by
      rw[← hq]
      split
      · exact⟨Q.body,.inl q⟩
      · rename_i v
        obtain⟨p,G⟩:∃p,av[av.length-1]? = some p:=⟨_,List.getElem?_eq_getElem Oh⟩
        rw[kY G]
        have F:=h.ob _ _ G
        refine⟨.inr ⟨⟨p,6,24+8*eP ((av.length-1:Nat):Int)⟩,?_,Nat.le_refl _,?_⟩,.inr ⟨av.length-1,p,by rw[List.getElem?_append_left Oh];exact G,q⟩⟩
        · rw[← hl1];exact List.mem_append_left _ F
        · rw[jh];simp only;omega
    rw[E.symm]at V W
    have j:Eff (fun a=>a=qv) A.b (iV A.b qv m.b.length):=Eff.put _ _ _
    have U:gB (iV A.b qv m.b.length) 272 l1 (iV A.b qv m.b.length).length:=by
      rw[gq]
      exact V.me j (Nat.le_refl _) fun o F a C=>by subst C;exact V.body P.1 F
    have D:(av ++ [m.b.length])[(av ++ [m.b.length]).length-1]? = some m.b.length:=by simp
    have N:=W.put (x:=x) (p:=m.b.length) U Q (Nat.le_refl _) hx Oq D (by rw[Y];omega)
    have X:aD.length-pI ((av ++ [m.b.length]).length-1)=0:=by simp;omega
    rw[X]at N
    have L:Eff (fun a=>a=m.b.length+24+8*0) (iV A.b qv m.b.length) (iV (iV A.b qv m.b.length) (m.b.length+24+8*0) x):=Eff.put _ _ _
    have f:gB (iV (iV A.b qv m.b.length) (m.b.length+24+8*0) x) 272 l1 (iV (iV A.b qv m.b.length) (m.b.length+24+8*0) x).length:=by
      rw[gq]
      refine U.me L (Nat.le_refl _) fun o F a C=>?_
      subst C
      refine U.body (.inr ⟨⟨m.b.length,6,24+8*eP (av.length:Int)⟩,?_,?_,?_⟩) F
      · rw[← hl1];simp
      · simp only;omega
      · rw[jh];simp only;omega
    have R:∀M:Mk,M=(if av.length=0 then(A.dX 18 ((A.cT 18+1)%18446744073709551616)).put src m.b.length else(A.dX 18 ((A.cT 18+1)%18446744073709551616)).put (jX av+16) m.b.length)→M.b=iV A.b qv m.b.length∧M.c=A.c∧M.ai=A.ai∧M.aj=A.aj∧M.main=A.main∧M.depth=A.depth∧M.h=(A.dX 18 ((A.cT 18+1)%18446744073709551616)).h∧∀i,i≠18→M.cT i=A.cT i:=by
      intro M z
      subst z
      rw[← hq]
      split
      · exact⟨q,q,q,q,q,q,q,fun i hi=>er (m:=A) Oh⟩
      · exact⟨q,q,q,q,q,q,q,fun i hi=>er (m:=A) Oh⟩
    have e:=R _ q
    clear R
    generalize (if av.length=0 then(A.dX 18 ((A.cT 18+1)%18446744073709551616)).put src m.b.length else(A.dX 18 ((A.cT 18+1)%18446744073709551616)).put (jX av+16) m.b.length)=M at *
    obtain⟨T,e,kz3,kz4,kz5,kz6,kh,kz7⟩:=e
    rw[kY D,show aD.length-pI av.length=0 by omega]
    rw[← T]at f N L
    have ml:(M.put (m.b.length+24+8*0) x).b=iV M.b (m.b.length+24+8*0) x:=rfl
    refine⟨l1,⟨by rw[ml];exact f,.inr hl1.symm,.inr q,by rw[ml];exact N,?_,by simp,?_,⟨e.trans B.1,kz3.trans B.2.1,kz4.trans B.2.2.1,kz5.trans B.2.2.2,kz6.trans H,fun i n t y=>(kz7 i y).trans (I i n t)⟩,fun h=>(J h).same kh⟩⟩
    · rw[ml,T]
      have u:Eff (zq src (av ++ [m.b.length])) m.b A.b:=by rw[E];exact Eff.app _ _ _
      refine u.trans ((j.mono fun a C=>?_).trans ((T ▸ L).mono fun a C=>?_))
      · subst C
        rcases P.2 with h|⟨k,c,O,w⟩
        · exact .inl h
        exact .inr ⟨k,c,O,by omega,by omega⟩
      subst C
      exact .inr ⟨av.length,m.b.length,by simp,by omega,by omega⟩
    rw[ml,gq,T,gq];omega
  rename_i hn
  have Ad:=h.lo
  have Z:=h.hi
  have K:av≠[]:=by rintro rfl;have O:aD.length≤0:=Z;have w:¬aD.length=0:=hn;omega
  have v:=List.length_pos_iff.2 K
  obtain⟨p,G⟩:∃p,av[av.length-1]? = some p:=⟨_,List.getElem?_eq_getElem Oh⟩
  rw[kY G]
  have N:=h.put hO hs (Nat.le_refl _) hx K G Oh
  have Ac:=h.le hO G
  have hc:pI av.length=pI (av.length-1)+eP ((av.length-1:Nat):Int):=by
    have:av.length=(av.length-1)+1:=by omega
    rw[this];rfl
  generalize hq:p+24+8*(aD.length-pI (av.length-1))=qv at *
  have L:Eff (fun a=>a=qv) m.b (iV m.b qv x):=Eff.put _ _ _
  refine⟨l,⟨?_,.inl q,.inl q,N,L.mono fun a C=>?_,K,?_,⟨q,q,q,q,q,fun _ _ _ _=>rfl⟩,fun h=>h.same q⟩⟩
  · show gB (iV m.b qv x) 272 l (iV m.b qv x).length
    rw[gq]
    refine hO.me L (Nat.le_refl _) fun o F a C=>?_
    subst C
    refine hO.body (.inr ⟨_,h.ob _ _ G,?_,?_⟩) F
    · simp only;omega
    rw[jh];simp only;omega
  · subst C
    exact .inr ⟨av.length-1,p,G,by omega,by omega⟩
  show(iV m.b qv x).length≤_
  rw[gq];omega
end Go.Wk
namespace Go.Wk
open Go Go.RowKit
def tG (l:List Ob) (a:Nat):Prop:=∀o∈l,(a+8≤o.bn∨o.bn+16≤a) ∧
  (o.kind=1→a+8≤o.bn+16∨o.bn+24≤a∧a+8≤o.bn+64∨o.bn+mO o.size≤a) ∧
  (o.kind=2→a+8≤o.bn+16∨o.bn+24≤a∧a+8≤o.bn+40∨o.bn+mO o.size≤a) ∧
  (o.kind=3→a+8≤o.bn∨o.bn+mO o.size≤a)
theorem AK {b:Ly} {l:List Ob} {e a:Nat} (hO:gB b 272 l e) {x:Ob} (hx:x∈l) (h1:x.bn+16≤a) (h2:a+8≤x.bn+mO x.size) (h3:x.kind≠3) (h4:x.kind=1→x.bn+24≤a∧a+8≤x.bn+64) (h5:x.kind=2→x.bn+24≤a∧a+8≤x.bn+40):tG l a:=by
  intro o A
  have:=eF o.size
  have:=eF x.size
  have:=(hO.mem A).size.1
  rcases hO.sep A hx with rfl|B|B
  · refine⟨by omega,fun h=>.inr (.inl (h4 h)),fun h=>.inr (.inl (h5 h)),fun h=>absurd h h3⟩
  · exact⟨by omega,fun _=>by omega,fun _=>by omega,fun _=>by omega⟩
  exact⟨by omega,fun _=>by omega,fun _=>by omega,fun _=>by omega⟩
theorem IZ {b:Ly} {l:List Ob} {e a:Nat} (hO:gB b 272 l e) (h:a+8≤272):tG l a:=fun o ho=>by
  have:=(hO.mem ho).ge
  exact⟨by omega,fun _=>by omega,fun _=>by omega,fun _=>by omega⟩
theorem tG.mono {l r:List Ob} {a:Nat} (h:tG r a) (hs:∀o∈l,o∈r):tG l a:=fun o ho=>h o (hs o ho)
def p9 (l:List Ob) (a:Nat):Prop:=∃o∈l,((o.kind=4∨o.kind=5)∧o.bn+16≤a∧a+8≤o.bn+mO o.size)∨(((o.kind=1∧64≤o.size)∨(o.kind=2∧40≤o.size))∧(a=o.bn+24∨a=o.bn+32))
theorem p9.mono {l r:List Ob} {a:Nat} (h:p9 l a) (hs:∀o∈l,o∈r):p9 r a:=by obtain⟨o,A,h⟩:=h;exact⟨o,hs o A,h⟩
theorem p9.acw {b:Ly} {l:List Ob} {e a:Nat} (h:p9 l a) (hO:gB b 272 l e):tG l a:=by
  obtain⟨o,B,⟨C,A,D⟩|⟨C,A⟩⟩:=h
  · exact AK hO B A D Oh Oh Oh
  have:=eF o.size
  exact AK hO B Oh Oh Oh Oh Oh
theorem p9.at {b:Ly} {l:List Ob} {e a:Nat} (h:p9 l a) (hO:gB b 272 l e):272≤a∧a+8≤e∧∀o∈l,(o.kind=1→a+8≤o.bn+40∨o.bn+mO o.size≤a)∧(o.kind=6→a+8≤o.bn∨o.bn+mO o.size≤a):=by
  obtain⟨x,D,h⟩:=h
  have C:=hO.mem D
  have hk:=C.le
  have G:=C.ge
  have J:=eF x.size
  have B:x.bn+16≤a∧a+8≤x.bn+mO x.size∧x.kind≠6∧(x.kind=1→a+8≤x.bn+40):=by
    rcases h with⟨E,A,F⟩|⟨E,A⟩
    · exact⟨A,F,by omega,by omega⟩
    · exact⟨by omega,by omega,by omega,by omega⟩
  refine⟨by omega,by omega,fun o I=>?_⟩
  have:=eF o.size
  rcases hO.sep I D with rfl|H|H
  · exact⟨fun h=>.inl (B.2.2.2 h),fun h=>absurd h B.2.2.1⟩
  · exact⟨fun _=>by omega,fun _=>by omega⟩
  exact⟨fun _=>by omega,fun _=>by omega⟩
def eK (m:Mk) (s:Ly):Nat:=dW m.c.dx m.c.cG s
structure tP (b:Ly) (l:List Ob) (h:Nat) (k:aZ):Prop where
  ob:(⟨k.bn,1,64+k.cA.length⟩:Ob)∈l
  cQ:eY b (k.bn+16)=h
  cA:seg b (k.bn+64) k.cA.length=k.cA
structure HD (b:Ly) (l:List Ob) (h:Nat) (k:aZ):Prop where
  ob:(⟨k.bn,2,40+k.cA.length⟩:Ob)∈l
  cQ:eY b (k.bn+16)=h
  cA:seg b (k.bn+40) k.cA.length=k.cA
theorem tP.me {b c:Ly} {l r:List Ob} {n:Nat} {k:aZ} {S:Nat→Prop} (h:tP b l n k) (hO:gB b 272 l b.length) (he:Eff S b c) (hs:∀a,S a→tG l a) (hr:∀o∈l,o∈r):tP c r n k:=by
  have B:=(hO.mem h.ob).le
  have C:=eF (64+k.cA.length)
  refine⟨hr _ h.ob,(he.eY (by simp only at B;omega) fun a A=>?_).trans h.cQ,(he.seg _ _ (by simp only at B;omega) fun a A=>?_).trans h.cA⟩
  · have:=(hs a A _ h.ob).2.1 rfl;simp only at this;omega
  have:=(hs a A _ h.ob).2.1 rfl;simp only at this;omega
theorem HD.me {b c:Ly} {l r:List Ob} {n:Nat} {k:aZ} {S:Nat→Prop} (h:HD b l n k) (hO:gB b 272 l b.length) (he:Eff S b c) (hs:∀a,S a→tG l a) (hr:∀o∈l,o∈r):HD c r n k:=by
  have B:=(hO.mem h.ob).le
  have C:=eF (40+k.cA.length)
  refine⟨hr _ h.ob,(he.eY (by simp only at B;omega) fun a A=>?_).trans h.cQ,(he.seg _ _ (by simp only at B;omega) fun a A=>?_).trans h.cA⟩
  · have:=(hs a A _ h.ob).2.2.1 rfl;simp only at this;omega
  have:=(hs a A _ h.ob).2.2.1 rfl;simp only at this;omega
structure Stat (m:Mk) (l:List Ob):Prop where
  eU:gB m.b 272 l m.b.length
  GC:(⟨272,4,16+16*m.c.ay⟩:Ob)∈l
  HC:(⟨288+16*m.c.ay,5,16+16*m.c.aA⟩:Ob)∈l
  n2:m.cT 2=288
  n4:m.cT 4=304+16*m.c.ay
  slots:1≤m.c.ay∧1≤m.c.aA
  data:∀k∈m.ai,tP m.b l (eK m k.cA) k
  YH:∀k∈m.aj,HD m.b l (eK m k.cA) k
  one:∀i j:Nat,∀k k':aZ,m.ai[i]? = some k→m.ai[j]? = some k'→k.bn=k'.bn∨k.cA=k'.cA→i=j
  all:∀o∈l,o.kind=1→∃k∈m.ai,k.bn=o.bn
  XO:∀o∈l,o.kind=2→∃k∈m.aj,k.bn=o.bn
  cn:Cn m l
structure fB (m m':Mk) (l l':List Ob):Prop where
  eU:gB m'.b 272 l' m'.b.length
  sub:∃t,l'=l ++ t∧∀o∈t,(o.kind=1∨o.kind=2)∧m.b.length≤o.bn
  me:Eff (p9 l') m.b m'.b
  same:m'.c=m.c∧m'.main=m.main∧∀i,i≠6→i≠7→i<15→m'.cT i=m.cT i
  cn:Cn m l→Cn m' l'
theorem fB.mem {m m':Mk} {l l':List Ob} (h:fB m m' l l'):∀o∈l,o∈l':=by obtain⟨t,e,_⟩:=h.sub;intro o A;rw[e];exact List.mem_append_left _ A
theorem fB.refl {m:Mk} {l:List Ob} (h:gB m.b 272 l m.b.length):fB m m l l:=⟨h,⟨[],by simp,by simp⟩,Eff.refl _ _,⟨q,q,fun _ _ _ _=>rfl⟩,id⟩
theorem fB.trans {m m' m'':Mk} {l l' l'':List Ob} (h:fB m m' l l') (k:fB m' m'' l' l''):fB m m'' l l'':=by
  obtain⟨t,e,F⟩:=h.sub
  obtain⟨u,f,G⟩:=k.sub
  have H:=h.me.len
  refine⟨k.eU,⟨t ++ u,by rw[f,e,List.append_assoc],fun o A=>?_⟩,(h.me.mono fun a E=>E.mono k.mem).trans k.me,⟨k.same.1.trans h.same.1,k.same.2.1.trans h.same.2.1,fun i B C D=>(k.same.2.2 i B C D).trans (h.same.2.2 i B C D)⟩,fun c=>k.cn (h.cn c)⟩
  rcases List.mem_append.1 A with A|A
  · exact F o A
  have:=G o A;exact⟨this.1,by omega⟩
theorem fB.to {m m' m'':Mk} {l l':List Ob} (h:fB m m' l l') (hb:m''.b=m'.b) (hc:m''.c=m'.c) (hm:m''.main=m'.main) (hn:∀i,i≠15→i≠16→i≠19→m''.cT i=m'.cT i) (hl:m''.h.n.length=m'.h.n.length):fB m m'' l l' :=
  ⟨by rw[hb];exact h.eU,h.sub,by rw[hb];exact h.me,⟨hc.trans h.same.1,hm.trans h.same.2.1,fun i h1 h2 h3=>(hn i Oh Oh Oh).trans (h.same.2.2 i h1 h2 h3)⟩,fun c=>(h.cn c).to hl fun i hi=>hn i Oh Oh Oh⟩
theorem fB.put {m:Mk} {l:List Ob} {a:Nat} (v:Nat) (hO:gB m.b 272 l m.b.length) (ha:p9 l a):fB m (m.put a v) l l:=by
  have B:=ha.acw hO
  refine⟨?_,⟨[],by simp,by simp⟩,(Eff.put m.b a v).mono fun x A=>A ▸ ha,⟨q,q,fun _ _ _ _=>rfl⟩,fun c=>c.same q⟩
  show gB (iV m.b a v) 272 l (iV m.b a v).length
  rw[gq]
  exact hO.me (Eff.put m.b a v) (Nat.le_refl _) fun o C x A=>by subst A;exact(B o C).1
theorem abY {o h r:Ly} (e:o=(h ++ r)) (hl:h.length=16):seg o 0 16=h:=by subst e;exact mJ _ _ hl.symm
theorem fB.obj {m:Mk} {l:List Ob} {o r:Ly} {k s:Nat} (hO:gB m.b 272 l m.b.length) (hk:k=1∨k=2) (he:o=Rz k s ++ r) (hl:o.length=mO s) (h16:16≤s) (hs:s<1000000):fB m (m.di o).2 l (l ++ [⟨m.b.length,k,s⟩]):=by
  have B:(m.di o).2.b=m.b ++ o:=rfl
  refine⟨?_,⟨_,q,fun x C=>?_⟩,by rw[B];exact Eff.app _ _ _,⟨q,q,fun i F A G=>?_⟩,fun c=>c.obj o Oh⟩
  · have D:=(hO.me (Eff.app (fun _=>False) m.b o) (Nat.le_refl _) (fun _ _ _ E=>E.elim)).app (o:=⟨m.b.length,k,s⟩) q Lw Lw h16 Lw ?_
    · rw[B,List.length_append,hl];exact D
    have A:=jk (x:=m.b) (y:=o) (p:=m.b.length) (n:=16) (Nat.le_refl _)
    rw[Nat.sub_self,abY he (kS _ _)]at A
    exact A
  · simp at C;subst C;exact⟨hk,Nat.le_refl _⟩
  simp only[Mk.di]
  rw[er Oh,er Oh];rfl
theorem yB {cO:Nat}:∀(l:List aZ) (n q:Nat),(nU cO l n q).1=n∧(nU cO l n q).2=q∨n<(nU cO l n q).1∧∃k∈l,(nU cO l n q).2=k.bn
  | [],_,_=>.inl ⟨rfl,rfl⟩
  | k :: r,n,q=>by
    simp only[nU]
    split
    · rcases yB (cO:=cO) r (n+1) k.bn with⟨h1,h2⟩|⟨h1,y,hy,h2⟩
      · exact .inr ⟨by omega,k,by simp,h2⟩
      · exact .inr ⟨by omega,y,by simp[hy],h2⟩
    · rcases yB (cO:=cO) r n q with h|⟨h1,y,hy,h2⟩
      · exact .inl h
      · exact .inr ⟨h1,y,by simp[hy],h2⟩
theorem fB.hang {m:Mk} {l:List Ob} {ks:List aZ} {table p cO:Nat} (hO:gB m.b 272 l m.b.length) (ht:p9 l (table+16*cO)∧p9 l (table+16*cO+8)) (hk:∀k∈ks,p9 l (k.bn+24)):fB m (m.hang ks table p cO).2 l l:=by
  unfold Mk.hang
  have C:=yB (cO:=cO) ks 0 0
  generalize nU cO ks 0 0=r at *
  obtain⟨n,q⟩:=r
  simp only at C ⊢
  split
  · have A:=fB.put (m:=m) p hO ht.1
    exact A.trans (fB.put (m:=m.put (table+16*cO) p) p A.eU ht.2)
  rename_i hn
  have E:p9 l (q+24):=by
    rcases C with⟨A,_⟩|⟨_,k,B,D⟩
    · omega
    · rw[D];exact hk k B
  have A:=fB.put (m:=m) p hO E
  exact A.trans (fB.put (m:=m.put (q+24) p) p A.eU ht.2)
end Go.Wk
namespace Go.Wk
open Go Go.RowKit
theorem qw (b o:Ly) (q:Nat):eY (b ++ o) (b.length+q)=eY o q:=by rw[iQ Oh,Nat.add_sub_cancel_left]
theorem QO (b o:Ly) (q n:Nat):seg (b ++ o) (b.length+q) n=seg o q n:=by rw[jk Oh,Nat.add_sub_cancel_left]
theorem acB {k:Nat} (hk:1≤k∧k≤7) (ns:List Nat) (t:Ly) (hn:∀v∈ns,v<18446744073709551616) :
    (∃r,qp k (nums ns ++ t)=Rz k (16+8*ns.length+t.length) ++ r)∧(qp k (nums ns ++ t)).length=mO (16+8*ns.length+t.length) ∧
    (∀i v:Nat,ns[i]? = some v→eY (qp k (nums ns ++ t)) (16+8*i)=v)∧seg (qp k (nums ns ++ t)) (16+8*ns.length) t.length=t:=by
  have A:(nums ns ++ t).length=8*ns.length+t.length:=by simp[fV]
  rw[xO hk,A,show 16+(8*ns.length+t.length)=16+8*ns.length+t.length by omega]
  refine⟨⟨_,List.append_assoc _ _ _⟩,?_,fun i v h=>?_,?_⟩
  · rw[List.length_append,List.length_append,kS,A,List.length_replicate];unfold mO;omega
  · rw[List.append_assoc,iQ (by rw[kS];omega),kS,Nat.add_sub_cancel_left,List.append_assoc]
    exact mD h (hn v (List.mem_of_getElem? h))
  rw[List.append_assoc,jk (by rw[kS];omega),kS,show 16+8*ns.length-16=8*ns.length by omega,List.append_assoc,jk (by rw[fV];omega),fV,Nat.sub_self]
  exact mJ _ _ q
theorem uq (m:Mk) (s:Ly):eK m s<18446744073709551616:=DJ _ _ _
theorem Stat.step {m m':Mk} {l l':List Ob} (h:Stat m l) (s:fB m m' l l') (hd:∀k∈m'.ai,k∈m.ai∨tP m'.b l' (eK m k.cA) k) (hf:∀k∈m'.aj,k∈m.aj∨HD m'.b l' (eK m k.cA) k)
    (h1:∀i j:Nat,∀k k':aZ,m'.ai[i]? = some k→m'.ai[j]? = some k'→k.bn=k'.bn∨k.cA=k'.cA→i=j) (h2:∀o∈l',o.kind=1→∃k∈m'.ai,k.bn=o.bn) (h3:∀o∈l',o.kind=2→∃k∈m'.aj,k.bn=o.bn):Stat m' l':=by
  have B:=s.mem
  have D:∀a,p9 l' a→tG l a:=fun a F=>(F.acw s.eU).mono B
  obtain⟨A,G,C⟩:=s.same
  have E:∀t,eK m' t=eK m t:=fun t=>by unfold eK;rw[A]
  refine⟨s.eU,by rw[A];exact B _ h.GC,by rw[A];exact B _ h.HC,(C 2 Om Om Om).trans h.n2,by rw[A];exact(C 4 Om Om Om).trans h.n4,by rw[A];exact h.slots,fun k hk=>?_,fun k hk=>?_,h1,h2,h3,s.cn h.cn⟩
  · rw[E]
    rcases hd k hk with hk|hk
    · exact(h.data k hk).me h.eU s.me D B
    exact hk
  rw[E]
  rcases hf k hk with hk|hk
  · exact(h.YH k hk).me h.eU s.me D B
  exact hk
theorem Stat.soft {m m':Mk} {l l':List Ob} (h:Stat m l) (s:fB m m' l l') (hd:m'.ai=m.ai) (hf:m'.aj=m.aj) (hl:l'=l):Stat m' l' :=
  h.step s (fun k hk=>.inl (hd ▸ hk)) (fun k hk=>.inl (hf ▸ hk)) (by rw[hd];exact h.one) (by rw[hd,hl];exact h.all) (by rw[hf,hl];exact h.XO)
theorem ak5 {m:Mk} {l:List Ob} (h:Stat m l) {s:Nat} (hs:s<m.c.ay):p9 l (m.cT 2+16*s)∧p9 l (m.cT 2+16*s+8):=by
  have:=eF (16+16*m.c.ay)
  rw[h.n2]
  exact⟨⟨_,h.GC,.inl ⟨.inl q,by simp only;omega,by simp only;omega⟩⟩,⟨_,h.GC,.inl ⟨.inl q,by simp only;omega,by simp only;omega⟩⟩⟩
theorem ak6 {m:Mk} {l:List Ob} (h:Stat m l) {s:Nat} (hs:s<m.c.aA):p9 l (m.cT 4+16*s)∧p9 l (m.cT 4+16*s+8):=by
  have:=eF (16+16*m.c.aA)
  rw[h.n4]
  exact⟨⟨_,h.HC,.inl ⟨.inr q,by simp only;omega,by simp only;omega⟩⟩,⟨_,h.HC,.inl ⟨.inr q,by simp only;omega,by simp only;omega⟩⟩⟩
theorem abH {m:Mk} {l:List Ob} (h:Stat m l) (name:Ly) (hn:name.length≤1000) :
    ∃l',fB m (m.field name).2 l l'∧Stat (m.field name).2 l'∧(∃k∈(m.field name).2.aj,k.bn=(m.field name).1)∧(m.field name).2.ai=m.ai:=by
  unfold Mk.field
  cases hk:p7 name m.aj with
  | some p =>
    obtain⟨k,Q,R,_⟩:=yu hk
    exact⟨l,fB.refl h.eU,h,⟨k,Q,R⟩,q⟩
  | none =>
    simp only
    generalize hF:iv {cQ:=dW m.c.dx m.c.cG name,bT:=0,dat:=0,ak:=name}=o
    have O:o=qp 2 (nums [eK m name,0,0] ++ name):=hF.symm
    obtain⟨⟨r,L⟩,M,U,N⟩:=acB (k:=2) Om [eK m name,0,0] name (by have:=uq m name;intro v g;simp at g;omega)
    rw[← O]at L M U N
    simp only[List.length_cons,List.length_nil,Nat.zero_add,Nat.reduceAdd,Nat.reduceMul]at L M N
    have G:=fB.obj (m:=m) (o:=o) h.eU (.inr q) L M Oh Oh
    have P:(m.di o).2.b=m.b ++ o:=rfl
    have V:(m.di o).1=m.b.length:=rfl
    have H:=fC m o
    have W:(m.di o).2.cT 4=m.cT 4:=by simp only[Mk.di];rw[er Oh,er Oh];rfl
    generalize m.di o=z at *
    obtain⟨p,A⟩:=z
    simp only at G P V H W ⊢
    subst V
    have f:dW m.c.dx m.c.cG name%A.c.aA<m.c.aA:=by rw[H.1];exact Nat.mod_lt _ (by have:=h.slots;omega)
    have S:=ak6 h f
    rw[← W]at S
    have I:=fB.hang (m:=A) (p:=m.b.length) (ks:=A.aj) G.eU ⟨S.1.mono G.mem,S.2.mono G.mem⟩ (fun k hk=>by
      rw[H.2.2.1]at hk
      have:=(h.YH k hk).ob
      exact⟨_,G.mem _ this,.inr ⟨.inr ⟨q,by simp only;omega⟩,.inl q⟩⟩)
    have E:=iU A A.aj (A.cT 4) m.b.length (dW m.c.dx m.c.cG name%A.c.aA)
    generalize A.hang A.aj (A.cT 4) m.b.length (dW m.c.dx m.c.cG name%A.c.aA)=z at *
    obtain⟨n,B⟩:=z
    simp only at I E ⊢
    obtain⟨d1,d,T,d4,d5,d6⟩:=E
    have X:=G.trans I
    obtain⟨F,C⟩:∃F,F=({({B with depth:=max A.depth n}:Mk).dX 16 ((({B with depth:=max A.depth n}:Mk).cT 16+1)%18446744073709551616)with aj:=(({B with depth:=max A.depth n}:Mk).dX 16 ((({B with depth:=max A.depth n}:Mk).cT 16+1)%18446744073709551616)).aj ++ [({cA:=name,bn:=m.b.length,cO:=dW m.c.dx m.c.cG name%A.c.aA,bR:=0,bw:=[]}:aZ)]}:Mk):=⟨_,q⟩
    show ∃l',fB m ({({B with depth:=max A.depth n}:Mk).dX 16 ((({B with depth:=max A.depth n}:Mk).cT 16+1)%18446744073709551616)with aj:=(({B with depth:=max A.depth n}:Mk).dX 16 ((({B with depth:=max A.depth n}:Mk).cT 16+1)%18446744073709551616)).aj ++ [({cA:=name,bn:=m.b.length,cO:=dW m.c.dx m.c.cG name%A.c.aA,bR:=0,bw:=[]}:aZ)]}:Mk) l l'∧Stat ({({B with depth:=max A.depth n}:Mk).dX 16 ((({B with depth:=max A.depth n}:Mk).cT 16+1)%18446744073709551616)with aj:=(({B with depth:=max A.depth n}:Mk).dX 16 ((({B with depth:=max A.depth n}:Mk).cT 16+1)%18446744073709551616)).aj ++ [({cA:=name,bn:=m.b.length,cO:=dW m.c.dx m.c.cG name%A.c.aA,bR:=0,bw:=[]}:aZ)]}:Mk) l'∧(∃k∈({({B with depth:=max A.depth n}:Mk).dX 16 ((({B with depth:=max A.depth n}:Mk).cT 16+1)%18446744073709551616)with aj:=(({B with depth:=max A.depth n}:Mk).dX 16 ((({B with depth:=max A.depth n}:Mk).cT 16+1)%18446744073709551616)).aj ++ [({cA:=name,bn:=m.b.length,cO:=dW m.c.dx m.c.cG name%A.c.aA,bR:=0,bw:=[]}:aZ)]}:Mk).aj,k.bn=m.b.length)∧({({B with depth:=max A.depth n}:Mk).dX 16 ((({B with depth:=max A.depth n}:Mk).cT 16+1)%18446744073709551616)with aj:=(({B with depth:=max A.depth n}:Mk).dX 16 ((({B with depth:=max A.depth n}:Mk).cT 16+1)%18446744073709551616)).aj ++ [({cA:=name,bn:=m.b.length,cO:=dW m.c.dx m.c.cG name%A.c.aA,bR:=0,bw:=[]}:aZ)]}:Mk).ai=m.ai
    rw[← C]
    have K:F.b=B.b∧F.c=B.c∧F.main=B.main∧F.ai=B.ai∧F.aj=B.aj ++ [({cA:=name,bn:=m.b.length,cO:=dW m.c.dx m.c.cG name%A.c.aA,bR:=0,bw:=[]}:aZ)]:=by subst C;exact⟨q,q,q,q,q⟩
    have S4:=X.to (m'':=F) K.1 K.2.1 K.2.2.1 (fun i _ _ h3=>by
      subst C
      exact(er (m:={B with depth:=max A.depth n}) Oh)) (by subst C;simp[Mk.dX])
    clear C
    obtain⟨Y,w,y,Z,J⟩:=K
    have D:F.ai=m.ai:=by rw[Z,d,H.2.1]
    refine⟨_,S4,h.step S4 (fun k hk=>.inl (D ▸ hk)) (fun k hk=>?_) (by rw[D];exact h.one) (fun x C hk=>?_) (fun x C hk=>?_),?_,D⟩
    · rw[J,T,H.2.2.1,List.mem_append,List.mem_singleton]at hk
      rcases hk with hk|rfl
      · exact .inl hk
      · right
        have j:HD A.b (l ++ [⟨m.b.length,2,40+name.length⟩]) (eK m name) ({cA:=name,bn:=m.b.length,cO:=dW m.c.dx m.c.cG name%A.c.aA,bR:=0,bw:=[]}:aZ):=by
          refine⟨by simp,?_,?_⟩
          · rw[P,qw];exact U 0 _ q
          · rw[P,QO];exact N
        rw[Y]
        exact j.me G.eU I.me (fun a e=>e.acw I.eU) fun _ h=>h
    · rcases List.mem_append.1 C with C|C
      · rw[D];exact h.all x C hk
      · simp at C;subst C;simp at hk
    · rcases List.mem_append.1 C with C|C
      · obtain⟨k,t,u⟩:=h.XO x C hk
        exact⟨k,by rw[J,T,H.2.2.1];exact List.mem_append_left _ t,u⟩
      · simp at C;subst C
        exact⟨_,by rw[J];exact List.mem_append_right _ (List.mem_singleton.2 q),q⟩
    · exact⟨({cA:=name,bn:=m.b.length,cO:=dW m.c.dx m.c.cG name%A.c.aA,bR:=0,bw:=[]}:aZ),by rw[J];simp,q⟩
theorem yq:∀{s:Ly} {l:List aZ} {j i:Nat},nC s l j=some i→∃k,l[i-j]? = some k∧k.cA=s∧j≤i
  | s,[],j,i,h=>by simp[nC]at h
  | s,x :: l,j,i,h=>by
    simp only[nC]at h
    split at h
    · rename_i hx;simp at h;subst h;exact⟨x,by simp,hx,Nat.le_refl _⟩
    · obtain⟨k,h1,h2,h3⟩:=yq h
      exact⟨k,by rw[show i-j=(i-(j+1))+1 by omega];simpa using h1,h2,by omega⟩
theorem wI:∀{s:Ly} {l:List aZ} {j:Nat},nC s l j=none→∀k∈l,k.cA≠s
  | s,[],j,_,k,hk=>by simp at hk
  | s,x :: l,j,h,k,hk=>by
    simp only[nC]at h
    split at h
    · cases h
    · rename_i hx
      rcases List.mem_cons.1 hk with rfl|hk
      · exact hx
      · exact wI h k hk
structure zo (b:Ly) (p:Nat):Prop where
  ent:eY b (p+40)=0
  arr:eY b (p+48)=0
  cnt:eY b (p+56)=0
theorem zo.me {b c:Ly} {l l':List Ob} {p s:Nat} (h:zo b p) (ho:(⟨p,1,s⟩:Ob)∈l) (hs:64≤s) (hO:gB b 272 l b.length) (hO':gB c 272 l' c.length) (hm:∀o∈l,o∈l') (he:Eff (p9 l') b c):zo c p:=by
  have B:=(hO.mem ho).le
  have E:=eF s
  simp only at B
  have A:∀q,40≤q→q≤56→eY c (p+q)=eY b (p+q):=fun q F D=>he.eY Oh fun a C=>by
    have:=((C.at hO').2.2 _ (hm _ ho)).1 rfl;simp only at this;omega
  exact⟨(A 40 Oh Oh).trans h.ent,(A 48 Oh Oh).trans h.arr,(A 56 Oh Oh).trans h.cnt⟩
structure BB (m m':Mk) (l l':List Ob) (i:Nat) (t:Ly):Prop where
  step:fB m m' l l'
  fq:Stat m' l'
  got:∃k,m'.ai[i]? = some k∧k.cA=t
  new:m'.ai=m.ai∨∃s p,m'.ai=m.ai ++ [({cA:=t,bn:=p,cO:=s,bR:=0,bw:=[]}:aZ)]∧zo m'.b p∧m.b.length≤p
theorem KV {m:Mk} {l:List Ob} (h:Stat m l) (x:Pr) (hx:x.name.length≤64∧x.value.length≤256):∃l',BB m (m.data x).2 l l' (m.data x).1 (ak x):=by
  unfold Mk.data
  cases hk:nC (ak x) m.ai 0 with
  | some i =>
    obtain⟨k,M,I,_⟩:=yq hk
    exact⟨l,fB.refl h.eU,h,⟨k,by simpa using M,I⟩,.inl q⟩
  | none =>
    simp only
    have Ak:=wI hk
    have Bb:=kP x
    generalize hF:jc {cQ:=dW m.c.dx m.c.cG (ak x),bT:=0,eH:=0,entry:=0,array:=0,bR:=0,ak:=ak x}=o
    have Ag:o=qp 1 (nums [eK m (ak x),0,0,0,0,0] ++ ak x):=hF.symm
    obtain⟨⟨r,f1⟩,f2,S,f4⟩:=acB (k:=1) Om [eK m (ak x),0,0,0,0,0] (ak x) (by have:=uq m (ak x);intro v hv;simp at hv;omega)
    rw[← Ag]at f1 f2 S f4
    simp only[List.length_cons,List.length_nil,Nat.zero_add,Nat.reduceAdd,Nat.reduceMul]at f1 f2 f4
    have K:=fB.obj (m:=m) (o:=o) h.eU (.inl q) f1 f2 Oh Oh
    have Q:(m.di o).2.b=m.b ++ o:=rfl
    have g1:(m.di o).1=m.b.length:=rfl
    have T:=fC m o
    have g4:(m.di o).2.cT 2=m.cT 2:=by simp only[Mk.di];rw[er Oh,er Oh];rfl
    generalize m.di o=z at *
    obtain⟨p,E⟩:=z
    simp only at K Q g1 T g4 ⊢
    subst g1
    have hs:dW m.c.dx m.c.cG (ak x)%E.c.ay<m.c.ay:=by rw[T.1];exact Nat.mod_lt _ (by have:=h.slots;omega)
    have tt:=ak5 h hs
    rw[← g4]at tt
    have L:=fB.hang (m:=E) (p:=m.b.length) (ks:=E.ai) K.eU ⟨tt.1.mono K.mem,tt.2.mono K.mem⟩ (fun k hk=>by
      rw[T.2.1]at hk
      have:=(h.data k hk).ob
      exact⟨_,K.mem _ this,.inr ⟨.inl ⟨q,by simp only;omega⟩,.inl q⟩⟩)
    have G:=iU E E.ai (E.cT 2) m.b.length (dW m.c.dx m.c.cG (ak x)%E.c.ay)
    generalize hsl:dW m.c.dx m.c.cG (ak x)%E.c.ay=cO at *
    generalize E.hang E.ai (E.cT 2) m.b.length cO=z at *
    obtain⟨n,B⟩:=z
    simp only at L G ⊢
    obtain⟨d1,d2,d3,d4,d5,d6⟩:=G
    have S3:=K.trans L
    generalize hx5:({(B.dX 19 (max (B.cT 19) n)).dX 15 (((B.dX 19 (max (B.cT 19) n)).cT 15+1)%18446744073709551616)with ai:=((B.dX 19 (max (B.cT 19) n)).dX 15 (((B.dX 19 (max (B.cT 19) n)).cT 15+1)%18446744073709551616)).ai ++ [({cA:=ak x,bn:=m.b.length,cO:=cO,bR:=0,bw:=[]}:aZ)]}:Mk)=m5
    have g:m5.b=B.b∧m5.c=B.c∧m5.main=B.main∧m5.aj=B.aj∧m5.ai=B.ai ++ [({cA:=ak x,bn:=m.b.length,cO:=cO,bR:=0,bw:=[]}:aZ)]:=by subst hx5;exact⟨q,q,q,q,q⟩
    have u:=S3.to (m'':=m5) g.1 g.2.1 g.2.2.1 (fun i _ _ h3=>by
      subst hx5
      exact(er (m:=B.dX 19 (max (B.cT 19) n)) Oh).trans (er Oh)) (by subst hx5;simp[Mk.dX])
    clear hx5
    obtain⟨a1,a2,a3,a4,a5⟩:=g
    have J:m5.ai=m.ai ++ [({cA:=ak x,bn:=m.b.length,cO:=cO,bR:=0,bw:=[]}:aZ)]:=by rw[a5,d2,T.2.1]
    have W:m5.aj=m.aj:=by rw[a4,d3,T.2.2.1]
    have C:(⟨m.b.length,1,64+(ak x).length⟩:Ob)∈l ++ [⟨m.b.length,1,64+(ak x).length⟩]:=by simp
    have Am:Stat m5 (l ++ [⟨m.b.length,1,64+(ak x).length⟩]):=by
      refine h.step u (fun k hk=>?_) (fun k hk=>.inl (W ▸ hk)) (fun i j k t H hj F=>?_) (fun y D hk=>?_) (fun y D hk=>?_)
      · rw[J,List.mem_append,List.mem_singleton]at hk
        rcases hk with hk|rfl
        · exact .inl hk
        · right
          have k0:tP E.b (l ++ [⟨m.b.length,1,64+(ak x).length⟩]) (eK m (ak x)) ({cA:=ak x,bn:=m.b.length,cO:=cO,bR:=0,bw:=[]}:aZ):=by
            refine⟨C,?_,?_⟩
            · rw[Q,qw];exact S 0 _ q
            · rw[Q,QO];exact f4
          rw[a1]
          exact k0.me K.eU L.me (fun a ha=>ha.acw L.eU) fun _ h=>h
      · rw[J]at H hj
        have d:∀(i:Nat) (k:aZ),m.ai[i]? = some k→k.bn+16≤m.b.length∧k.cA≠ak x:=fun i k H=>by
          have hm:=List.mem_of_getElem? H
          have:=(h.eU.mem (h.data k hm).ob).le
          have:=eF (64+k.cA.length)
          simp only at *
          exact⟨by omega,Ak k hm⟩
        have A:∀(i:Nat) (k:aZ),(m.ai ++ [({cA:=ak x,bn:=m.b.length,cO:=cO,bR:=0,bw:=[]}:aZ)])[i]? = some k→(m.ai[i]? = some k)∨i=m.ai.length∧k={cA:=ak x,bn:=m.b.length,cO:=cO,bR:=0,bw:=[]}:=fun i k H=>by
          rcases Nat.lt_or_ge i m.ai.length with hl|hl
          · rw[List.getElem?_append_left hl]at H;exact .inl H
          · have Aj:=(List.getElem?_eq_some_iff.1 H).1
            simp at Aj
            rw[List.getElem?_append_right hl,show i-m.ai.length=0 by omega]at H
            exact .inr ⟨by omega,by simpa using H.symm⟩
        rcases A i k H with M|⟨M,rfl⟩
        · rcases A j t hj with I|⟨I,rfl⟩
          · exact h.one i j k t M I F
          · have:=d i k M
            rcases F with F|F
            · simp only at F;omega
            · exact absurd F this.2
        · rcases A j t hj with I|⟨I,rfl⟩
          · have:=d j t I
            rcases F with F|F
            · simp only at F;omega
            · exact absurd F.symm this.2
          · omega
      · rw[J]
        rcases List.mem_append.1 D with D|D
        · obtain⟨k,M,I⟩:=h.all y D hk
          exact⟨k,List.mem_append_left _ M,I⟩
        · simp at D;subst D
          exact⟨({cA:=ak x,bn:=m.b.length,cO:=cO,bR:=0,bw:=[]}:aZ),List.mem_append_right _ Oq,q⟩
      · rw[W]
        rcases List.mem_append.1 D with D|D
        · exact h.XO y D hk
        · simp at D;subst D;simp at hk
    have Ad:zo E.b m.b.length:=⟨by rw[Q,qw];exact S 3 _ q,by rw[Q,qw];exact S 4 _ q,by rw[Q,qw];exact S 5 _ q⟩
    have Ae:zo m5.b m.b.length:=by
      rw[a1];exact Ad.me C Oh K.eU L.eU L.mem L.me
    obtain⟨l6,e,P,⟨R,Y,Z⟩,U⟩:=abH Am x.name Oh
    have X:=(P.YH R Y).ob
    generalize m5.field x.name=z at *
    obtain⟨k,O⟩:=z
    simp only at e P Z U Y X ⊢
    subst Z
    have N:=e.mem _ C
    have sp:p9 l6 (m.b.length+32):=⟨_,N,.inr ⟨.inl ⟨q,by simp only;omega⟩,.inr q⟩⟩
    have sk:p9 l6 (R.bn+32):=⟨_,X,.inr ⟨.inr ⟨q,by simp only;omega⟩,.inr q⟩⟩
    have w:=fB.put (m:=O) (mE O.b (R.bn+32:Nat) 8).1 e.eU sp
    have Ao:=P.soft w q q q
    have S8:=fB.put (m:=O.put (m.b.length+32) (mE O.b (R.bn+32:Nat) 8).1) m.b.length w.eU sk
    have Ap:=Ao.soft S8 q q q
    have f:=e.trans (w.trans S8)
    have V:((O.put (m.b.length+32) (mE O.b (R.bn+32:Nat) 8).1).put (R.bn+32) m.b.length).ai=m.ai ++ [({cA:=ak x,bn:=m.b.length,cO:=cO,bR:=0,bw:=[]}:aZ)]:=by
      show O.ai=_
      rw[U,J]
    have Af:=Ae.me C Oh u.eU f.eU f.mem f.me
    refine⟨l6,u.trans f,Ap,⟨({cA:=ak x,bn:=m.b.length,cO:=cO,bR:=0,bw:=[]}:aZ),by rw[V];simp,q⟩,.inr ⟨cO,m.b.length,V,Af,Nat.le_refl _⟩⟩
end Go.Wk
namespace Go.Wk
open Go Go.RowKit
structure wo (b:Ly) (l:List Ob) (k:aZ) (ps:List Nat):Prop where
  cnt:k.bR=ps.length
  word:eY b (k.bn+56)=ps.length
  ent:eY b (k.bn+40)=ps.getD 0 0
  chain:Chain b l (k.bn+48) k.bw (ps.drop 1)
theorem AF {b:Ly} {l:List Ob} {n:Nat} {k:aZ} (h:tP b l n k):Src l (k.bn+48):=by
  have:=eF (64+k.cA.length)
  exact .inr ⟨_,h.ob,by simp,by simp only;omega,by simp only;omega⟩
theorem rJ (l:List Ob):Src l 176:=.inl Om
theorem wo.me {b c:Ly} {l r:List Ob} {n:Nat} {k:aZ} {ps:List Nat} {S:Nat→Prop} (h:wo b l k ps) (hs:tP b l n k) (hO:gB b 272 l b.length) (he:Eff S b c) (hr:∀o∈l,o∈r)
    (h1:∀a,S a→a+8≤k.bn+40∨k.bn+64≤a) (h2:∀i x:Nat,k.bw[i]? = some x→∀a,S a→a+8≤x+16∨x+24+8*eP (i:Int)≤a):wo c r k ps:=by
  have B:=(hO.mem hs.ob).le
  have C:=eF (64+k.cA.length)
  simp only at B
  refine⟨h.cnt,(he.eY Oh fun a A=>?_).trans h.word,(he.eY Oh fun a A=>?_).trans h.ent,h.chain.me hO (AF hs) (Nat.le_refl _) he hr (fun a A=>?_) h2⟩
  · have:=h1 a A;omega
  · have:=h1 a A;omega
  have:=h1 a A;omega
theorem Chain.wA {b b':Ly} {l l':List Ob} {src e:Nat} {av aD:List Nat} (h:Chain b l src av aD) (hO:gB b' 272 l' e) (hm:∀o∈l,o∈l') {i x a:Nat} (hx:av[i]? = some x) (ha:∀o∈l',o.kind=6→a+8≤o.bn∨o.bn+mO o.size≤a):a+8≤x+16∨x+24+8*eP (i:Int)≤a:=by
  have:=ha _ (hm _ (h.ob i x hx)) q
  rw[jh]at this
  simp only at this
  omega
theorem wo.soft {b c:Ly} {l r:List Ob} {n:Nat} {k:aZ} {ps:List Nat} (h:wo b l k ps) (hs:tP b l n k) (hO:gB b 272 l b.length) (hO':gB c 272 r c.length) (he:Eff (p9 r) b c) (hr:∀o∈l,o∈r):wo c r k ps:=by
  have D:=eF (64+k.cA.length)
  refine h.me hs hO he hr (fun a A=>?_) (fun i x C a A=>?_)
  · have:=((A.at hO').2.2 _ (hr _ hs.ob)).1 q
    simp only at this;omega
  exact h.chain.wA hO' hr C fun o B hk=>((A.at hO').2.2 o B).2 hk
theorem ZB {b c:Ly} {l r:List Ob} {av aD:List Nat} (h:Chain b l 176 av aD) (hO:gB b 272 l b.length) (hO':gB c 272 r c.length) (he:Eff (p9 r) b c) (hr:∀o∈l,o∈r):Chain c r 176 av aD:=by
  refine h.me hO (rJ l) (Nat.le_refl _) he hr (fun a B=>?_) (fun i x D a B=>?_)
  · have:=(B.at hO').1;omega
  exact h.wA hO' hr D fun o C hk=>((B.at hO').2.2 o C).2 hk
theorem wo.new {b:Ly} {l:List Ob} {k:aZ} (h:zo b k.bn) (hc:k.bR=0) (ha:k.bw=[]):wo b l k []:=by
  refine⟨hc,h.cnt,h.ent,?_⟩
  rw[ha]
  exact⟨h.arr,by simp,by simp,by simp,by simp,Nat.le_refl _,Nat.le_refl _⟩
def ae1 (k:aZ) (av:List Nat) (a:Nat):Prop:=a=k.bn+40∨a=k.bn+56∨zq (k.bn+48) av a
structure ae2 (m m':Mk) (l l':List Ob) (i e:Nat) (k k':aZ) (ps:List Nat):Prop where
  eU:gB m'.b 272 l' m'.b.length
  sub:∃t,l'=l ++ t∧∀o∈t,o.kind=6∧m.b.length≤o.bn
  dat:m'.ai=m.ai.set i k'
  bn:k'.bn=k.bn∧k'.cA=k.cA∧k'.cO=k.cO
  arr:k'.bw=k.bw∨k'.bw=k.bw ++ [m.b.length]
  more:wo m'.b l' k' (ps ++ [e])
  me:Eff (ae1 k k'.bw) m.b m'.b
  top:m'.b.length≤m.b.length+2100
  same:m'.c=m.c∧m'.aj=m.aj∧m'.main=m.main∧m'.depth=m.depth∧∀i,i≠6→i≠7→i≠18→m'.cT i=m.cT i
  cn:Cn m l→Cn m' l'
theorem UW {b:Ly} {l r:List Ob} {e n:Nat} {k:aZ} (hO:gB b 272 r e) (hm:∀o∈l,o∈r) {c:Ly} (hs:tP c l n k):∀o∈r,o.kind=6→k.bn+64≤o.bn∨o.bn+mO o.size≤k.bn:=fun o ho h6=>by
  have hu:=eF (64+k.cA.length)
  rcases hO.sep ho (hm _ hs.ob)with rfl|hh|hh
  · simp at h6
  · exact .inr hh
  · simp only at hh;exact .inl Oh
theorem KU {b c:Ly} {l r:List Ob} {n:Nat} {k:aZ} (hs:tP c l n k) (hm:∀o∈l,o∈r) (hO:gB b 272 r b.length) {q:Nat} (v:Nat) (hq:q=k.bn+40∨q=k.bn+56):gB (iV b q v) 272 r (iV b q v).length:=by
  have C:=eF (64+k.cA.length)
  rw[gq]
  exact hO.me (Eff.put b q v) (Nat.le_refl _) fun o B a A=>by subst A;exact hO.body (.inr ⟨_,hm _ hs.ob,by simp only;omega,by simp only;omega⟩) B
theorem YU {m:Mk} {l:List Ob} {i e n:Nat} {k:aZ} {ps:List Nat} (hO:gB m.b 272 l m.b.length) (hk:m.ai[i]? = some k) (hs:tP m.b l n k) (hd:wo m.b l k ps) (hb:m.b.length<900000) (he:e<18446744073709551616) (h0:k.bR=0) :
    ∃l' k',ae2 m (kM e i m) l l' i e k k' ps:=by
  have E:m.ai.getD i known0=k:=by simp[List.getD,hk]
  have V:=(hO.mem hs.ob).le
  have Z:=eF (64+k.cA.length)
  simp only at V
  have K:=hd.cnt
  unfold kM
  simp only[E]
  rw[if_pos h0]
  have F:ps=[]:=List.eq_nil_of_length_eq_zero Oh
  subst F
  have R:=KU hs (fun _ h=>h) hO e (q:=k.bn+40) (.inl rfl)
  have S:=KU hs (fun _ h=>h) R 1 (q:=k.bn+56) (.inr rfl)
  have J:Eff (fun a=>a=k.bn+40∨a=k.bn+56) m.b (iV (iV m.b (k.bn+40) e) (k.bn+56) 1):=((Eff.put _ _ _).mono fun a A=>.inl A).trans ((Eff.put _ _ _).mono fun a A=>.inr A)
  have U:(iV (iV m.b (k.bn+40) e) (k.bn+56) 1).length=m.b.length:=by rw[gq,gq]
  have D:((m.put (k.bn+40) e).put (k.bn+56) 1).b=iV (iV m.b (k.bn+40) e) (k.bn+56) 1:=rfl
  have C:=lT m (k.bn+40) e
  have Y:=lT (m.put (k.bn+40) e) (k.bn+56) 1
  generalize (m.put (k.bn+40) e).put (k.bn+56) 1=M at *
  obtain⟨N,L,O,P,G,Q⟩:=Y
  rw[C.1]at N;rw[C.2.1]at L;rw[C.2.2.1]at O;rw[C.2.2.2.1]at P;rw[C.2.2.2.2.1]at G;rw[C.2.2.2.2.2]at Q
  clear C
  generalize hB:iV (iV m.b (k.bn+40) e) (k.bn+56) 1=B at *
  subst D
  have I:eY M.b (k.bn+56)=1:=by rw[← hB];exact j5 (by rw[gq];omega) Om
  have H:eY M.b (k.bn+40)=e:=by rw[← hB];exact(gJ Oh).trans (j5 Oh he)
  clear hB
  refine⟨l,{k with bR:=1},S,⟨[],(List.append_nil l).symm,by simp⟩,?_,⟨rfl,rfl,rfl⟩,.inl rfl,⟨rfl,I,H,?_⟩,J.mono fun a A=>A.elim .inl fun h=>.inr (.inl h),?_,⟨N,O,P,Q,fun j _ _ _=>?_⟩,fun c=>c.same G⟩
  · show M.ai.set i _=_
    rw[L]
  · refine hd.chain.me hO (AF hs) (Nat.le_refl _) J (fun _ h=>h) (fun a A=>by omega) (fun j x X a A=>?_)
    exact hd.chain.wA hO (fun _ h=>h) X fun o W T=>by have:=UW hO (fun _ h=>h) hs o W T;omega
  · show M.b.length≤_
    omega
  show M.h.n.getD j 0=_
  rw[G];rfl
theorem YT {m:Mk} {l:List Ob} {i e n:Nat} {k:aZ} {ps:List Nat} (hO:gB m.b 272 l m.b.length) (hk:m.ai[i]? = some k) (hs:tP m.b l n k) (hd:wo m.b l k ps) (hb:m.b.length<900000) (he:e<18446744073709551616) (hp:ps.length<1000000) (h0:¬k.bR=0) :
    ∃l' k',ae2 m (kM e i m) l l' i e k k' ps:=by
  have H:m.ai.getD i known0=k:=by simp[List.getD,hk]
  have P:=(hO.mem hs.ob).le
  have U:=eF (64+k.cA.length)
  simp only at P
  have A:=hd.cnt
  unfold kM
  simp only[H]
  rw[if_neg h0]
  have N:k.bR-1=(ps.drop 1).length:=by simp;omega
  rw[N]
  obtain⟨l',L⟩:=LF (x:=e) hO hd.chain (AF hs) hb he
  have O:=L.me.len
  have B:∀o∈l,o∈l':=by
    rcases L.sub with h|h
    · rw[h];exact fun _ h=>h
    · rw[h];exact fun o E=>List.mem_append_left _ E
  have R:=KI m.b (k.bn+40)
  generalize m.link k.bw (ps.drop 1).length (k.bn+48) e=r at *
  obtain⟨a,t,F⟩:=r
  simp only at L O ⊢
  have J:=KU hs B L.eU (k.bR+1) (q:=k.bn+56) (.inr rfl)
  have I:Eff (fun a=>a=k.bn+56) F.b (iV F.b (k.bn+56) (k.bR+1)):=Eff.put _ _ _
  have Q:⟨k.bn,1,64+k.cA.length⟩∈l':=B _ hs.ob
  have D:Src l' (k.bn+48):=(AF hs).mono B
  have hsep':=UW L.eU B hs
  have G:eY F.b (k.bn+40)=eY m.b (k.bn+40):=L.me.eY Oh fun x C=>by
    rcases C with rfl|⟨j,c,K,S,T⟩
    · omega
    · have:=hsep' _ (L.chain.ob j c K) rfl
      rw[jh]at this;simp only at this;omega
  refine⟨l',{k with bw:=a,bR:=k.bR+1},J,?_,?_,⟨rfl,rfl,rfl⟩,L.arr,⟨?_,?_,?_,?_⟩,?_,?_,⟨L.same.1,L.same.2.2.1,L.same.2.2.2.1,L.same.2.2.2.2.1,L.same.2.2.2.2.2⟩,fun c=>(L.cn c).same rfl⟩
  · rcases L.sub with h|h
    · exact⟨[],by simp[h],by simp⟩
    exact⟨_,h,by intro o E;simp at E;subst E;exact⟨rfl,Nat.le_refl _⟩⟩
  · show F.ai.set i _=_
    rw[L.same.2.1]
  · show k.bR+1=_
    simp;omega
  · refine(j5 Oh Oh).trans ?_
    simp;omega
  · show eY (iV F.b (k.bn+56) (k.bR+1)) (k.bn+40)=_
    rw[gJ Oh,G,hd.ent]
    cases ps with
    | nil=>simp at A;exact absurd A h0
    | cons y r=>rfl
  · have:(ps ++ [e]).drop 1=ps.drop 1 ++ [e]:=by
      cases ps with
      | nil=>simp at A;exact absurd A h0
      | cons y r=>rfl
    rw[this]
    refine L.chain.me L.eU D (Nat.le_refl _) I (fun _ h=>h) (fun x C=>by omega) (fun j x C y V=>?_)
    exact L.chain.wA L.eU (fun _ h=>h) C fun o E M=>by have:=hsep' o E M;omega
  · exact(L.me.mono fun x C=>.inr (.inr C)).trans (I.mono fun x C=>.inr (.inl C))
  show(iV F.b (k.bn+56) (k.bR+1)).length≤_
  rw[gq];exact L.top
theorem OH {m:Mk} {l:List Ob} {i e n:Nat} {k:aZ} {ps:List Nat} (hO:gB m.b 272 l m.b.length) (hk:m.ai[i]? = some k) (hs:tP m.b l n k) (hd:wo m.b l k ps) (hb:m.b.length<900000) (he:e<18446744073709551616) (hp:ps.length<1000000) :
    ∃l' k',ae2 m (kM e i m) l l' i e k k' ps:=by
  by_cases h0:k.bR=0
  · exact YU hO hk hs hd hb he h0
  exact YT hO hk hs hd hb he hp h0
end Go.Wk
namespace Go.Wk
open Go Go.RowKit
structure gR where
  bn:Nat
  ent:gH
  who:List Nat
structure aez (b:Ly) (l:List Ob) (g:gR):Prop where
  ob:(⟨g.bn,3,64+16*g.ent.aD.length⟩:Ob)∈l
  seg:seg b g.bn (64+16*g.ent.aD.length)=eA g.ent
theorem aez.me {b c:Ly} {l r:List Ob} {g:gR} {S:Nat→Prop} (h:aez b l g) (hO:gB b 272 l b.length) (he:Eff S b c) (hs:∀a,S a→tG l a) (hr:∀o∈l,o∈r):aez c r g:=by
  have B:=(hO.mem h.ob).le
  have C:=eF (64+16*g.ent.aD.length)
  refine⟨hr _ h.ob,(he.seg _ _ (by simp only at B;omega) fun a A=>?_).trans h.seg⟩
  have:=(hs a A _ h.ob).2.2.2 rfl;simp only at this;omega
structure akI (m:Mk):Prop where
  main:∀(i:Nat) (k:aZ),m.ai[i]? = some k→∀a∈k.bw,a∉m.main
  one:∀(i j:Nat) (k k':aZ) (a:Nat),m.ai[i]? = some k→m.ai[j]? = some k'→a∈k.bw→a∈k'.bw→i=j
structure mQ (m:Mk) (l:List Ob) (es:List gR) (mp:List Nat) (f:Nat→List Nat):Prop where
  fq:Stat m l
  main:Chain m.b l 176 m.main mp
  dat:∀(i:Nat) (k:aZ),m.ai[i]? = some k→wo m.b l k (f i)
  own:akI m
  ent:∀g∈es,aez m.b l g
  kin:(l.filter fun o=>decide (o.kind=3)).map Ob.bn=es.map gR.bn
theorem wH {l t:List Ob} (h:∀o∈t,o.kind≠3):((l ++ t).filter fun o=>decide (o.kind=3))=l.filter fun o=>decide (o.kind=3):=by
  have e:(t.filter fun o=>decide (o.kind=3))=[]:=List.filter_eq_nil_iff.2 fun o A=>by simpa using h o A
  rw[List.filter_append,e,List.append_nil]
structure mq (ds ds':List aZ):Prop where
  len:ds'.length=ds.length
  get:∀(i:Nat) (k':aZ),ds'[i]? = some k'→∃k,ds[i]? = some k∧k'.bn=k.bn∧k'.cA=k.cA
theorem mq.refl (ds:List aZ):mq ds ds:=⟨q,fun _ k h=>⟨k,h,q,q⟩⟩
theorem mq.set {ds:List aZ} {i:Nat} {k k':aZ} (h:ds[i]? = some k) (h1:k'.bn=k.bn) (h2:k'.cA=k.cA):mq ds (ds.set i k'):=by
  refine⟨by simp,fun j y A=>?_⟩
  by_cases hj:i=j
  · subst hj
    rw[List.getElem?_set_self (List.getElem?_eq_some_iff.1 h).1]at A
    cases A
    exact⟨k,h,h1,h2⟩
  rw[List.getElem?_set_ne hj]at A
  exact⟨y,A,q,q⟩
theorem tP.congr {b:Ly} {l:List Ob} {n:Nat} {k k':aZ} (h:tP b l n k) (h1:k'.bn=k.bn) (h2:k'.cA=k.cA):tP b l n k':=by
  obtain⟨A,B,C⟩:=h
  exact⟨by rw[h1,h2];exact A,by rw[h1];exact B,by rw[h1,h2];exact C⟩
theorem Stat.keep {m m':Mk} {l l':List Ob} {S:Nat→Prop} (h:Stat m l) (hO':gB m'.b 272 l' m'.b.length) (hl:∃t,l'=l ++ t∧∀o∈t,o.kind≠1∧o.kind≠2) (he:Eff S m.b m'.b) (hM:∀a,S a→tG l a) (hc:m'.c=m.c) (hf:m'.aj=m.aj) (hn:m'.cT 2=m.cT 2∧m'.cT 4=m.cT 4) (hd:mq m.ai m'.ai) (hcn:Cn m' l'):Stat m' l':=by
  obtain⟨t,rfl,P⟩:=hl
  have I:∀o∈l,o∈l ++ t:=fun o B=>List.mem_append_left _ B
  have O:∀t,eK m' t=eK m t:=fun t=>by unfold eK;rw[hc]
  refine⟨hO',by rw[hc];exact I _ h.GC,by rw[hc];exact I _ h.HC,hn.1.trans h.n2,by rw[hc];exact hn.2.trans h.n4,by rw[hc];exact h.slots,fun k hk=>?_,fun k hk=>?_,fun i j k F E Q R=>?_,fun o B C=>?_,fun o B C=>?_,hcn⟩
  · obtain⟨i,E⟩:=List.mem_iff_getElem?.1 hk
    obtain⟨J,K,C,D⟩:=hd.get i k E
    rw[O,D]
    exact((h.data J (List.mem_of_getElem? K)).me h.eU he hM I).congr C D
  · rw[hf]at hk;rw[O]
    exact(h.YH k hk).me h.eU he hM I
  · obtain⟨J,K,C,D⟩:=hd.get i k E
    obtain⟨T,H,L,N⟩:=hd.get j F Q
    exact h.one i j J T K H (by rw[← C,← L,← D,← N];exact R)
  · rcases List.mem_append.1 B with B|B
    · obtain⟨k,hk,D⟩:=h.all o B C
      obtain⟨i,E⟩:=List.mem_iff_getElem?.1 hk
      have M:=(List.getElem?_eq_some_iff.1 E).1
      obtain⟨F,G⟩:∃F,m'.ai[i]? = some F:=⟨_,List.getElem?_eq_getElem (by rw[hd.len];exact M)⟩
      obtain⟨J,H,L,N⟩:=hd.get i F G
      rw[E]at H;cases H
      exact⟨F,List.mem_of_getElem? G,L.trans D⟩
    exact absurd C (P o B).1
  rcases List.mem_append.1 B with B|B
  · rw[hf];exact h.XO o B C
  exact absurd C (P o B).2
theorem mQ.soft {m m':Mk} {l l':List Ob} {es:List gR} {mp:List Nat} {f:Nat→List Nat} {i:Nat} {t:Ly} (h:mQ m l es mp f) (d:BB m m' l l' i t) (hf:∀i,m.ai.length≤i→f i=[]):mQ m' l' es mp f:=by
  have H:=d.step.mem
  have hO':=d.step.eU
  have J:=d.step.me
  have O:∀a,p9 l' a→tG l a:=fun a C=>(C.acw hO').mono H
  have D:=d.step.same.2.1
  have M:∀(j:Nat) (k:aZ),m.ai[j]? = some k→wo m'.b l' k (f j):=fun j k B=>(h.dat j k B).soft (h.fq.data k (List.mem_of_getElem? B)) h.fq.eU hO' J H
  have A:∀(j:Nat) (k:aZ),m'.ai[j]? = some k→m.ai[j]? = some k∨(m.ai.length≤j∧k.bR=0∧k.bw=[]∧zo m'.b k.bn):=fun j k B=>by
    rcases d.new with e|⟨s,p,e,I,_⟩
    · rw[e]at B;exact .inl B
    · rw[e]at B
      rcases Nat.lt_or_ge j m.ai.length with F|F
      · rw[List.getElem?_append_left F]at B;exact .inl B
      · have L:=(List.getElem?_eq_some_iff.1 B).1
        simp at L
        rw[List.getElem?_append_right F,show j-m.ai.length=0 by omega]at B
        have:k={cA:=t,bn:=p,cO:=s,bR:=0,bw:=[]}:=by simpa using B.symm
        subst this
        exact .inr ⟨F,q,q,I⟩
  refine⟨d.fq,?_,fun j k B=>?_,⟨fun j k B a C=>?_,fun i j k N a K B C E=>?_⟩,fun g Q=>(h.ent g Q).me h.fq.eU J O H,?_⟩
  · rw[D];exact ZB h.main h.fq.eU hO' J H
  · rcases A j k B with B|⟨F,P,C,I⟩
    · exact M j k B
    rw[hf j F];exact wo.new I P C
  · rw[D]
    rcases A j k B with B|⟨_,_,G,_⟩
    · exact h.own.main j k B a C
    rw[G]at C;simp at C
  · rcases A i k K with K|⟨_,_,G,_⟩
    · rcases A j N B with B|⟨_,_,G,_⟩
      · exact h.own.one i j k N a K B C E
      rw[G]at E;simp at E
    rw[G]at C;simp at C
  obtain⟨u,e,S⟩:=d.step.sub
  rw[e,wH fun o R=>by have:=(S o R).1;omega]
  exact h.kin
theorem mQ.entry {m:Mk} {l:List Ob} {es:List gR} {mp:List Nat} {f:Nat→List Nat} (h:mQ m l es mp f) {E:gH} {who:List Nat} (hb:E.bV.length=16) (hn:E.aD.length≤1000) :
    mQ (m.di (eA E)).2 (l ++ [⟨m.b.length,3,64+16*E.aD.length⟩]) (es ++ [⟨m.b.length,E,who⟩]) mp f:=by
  have U:=mH E hb
  have B:(m.di (eA E)).2.b=m.b ++ eA E:=rfl
  have T:=fC m (eA E)
  have C:∀i,i≠6→i≠7→(m.di (eA E)).2.cT i=m.cT i:=fun i V W=>by
    simp only[Mk.di]
    rw[er Oh,er Oh];rfl
  have I:=h.fq.cn.obj (eA E) (k:=3) (s:=64+16*E.aD.length) Oh
  generalize (m.di (eA E)).2=m' at *
  obtain⟨R,H,S,M⟩:=T
  have P:mO (64+16*E.aD.length)=64+16*E.aD.length:=by unfold mO;omega
  have F:(eA E).length=64+16*E.aD.length:=by omega
  have G:Eff (fun _=>False) m.b m'.b:=by rw[B];exact Eff.app _ _ _
  have Q:∃r,eA E=Rz 3 (64+16*E.aD.length) ++ r:=by
    unfold eA
    rw[xO Oh]
    rw[show 16+(nums [E.seq,E.cr,E.mono] ++ E.bV ++ nums [E.xor] ++ lQ E.aD).length=64+16*E.aD.length by simp[fV,vr,hb];omega]
    exact⟨_,List.append_assoc _ _ _⟩
  obtain⟨r,O⟩:=Q
  have hO':gB m'.b 272 (l ++ [⟨m.b.length,3,64+16*E.aD.length⟩]) m'.b.length:=by
    have:=(h.fq.eU.me G (Nat.le_refl _) (fun _ _ _ A=>A.elim)).app (o:=⟨m.b.length,3,64+16*E.aD.length⟩) q Oq Oq Lw Lw ?_
    · simp only[P]at this;rw[B,List.length_append,F];rw[B]at this;exact this
    · have L:=jk (x:=m.b) (y:=eA E) (p:=m.b.length) (n:=16) (Nat.le_refl _)
      rw[Nat.sub_self,abY O (kS _ _)]at L
      rw[B];exact L
  have K:∀o∈l,o∈l ++ [(⟨m.b.length,3,64+16*E.aD.length⟩:Ob)]:=fun o N=>List.mem_append_left _ N
  refine⟨h.fq.keep hO' ⟨_,q,by simp⟩ G (fun _ A=>A.elim) R S ⟨C 2 Om Om,C 4 Om Om⟩ (by rw[H];exact mq.refl _) I,?_,fun i k J=>?_,⟨by rw[H,M];exact h.own.main,by rw[H];exact h.own.one⟩,fun g D=>?_,?_⟩
  · rw[M];exact h.main.me h.fq.eU (rJ l) (Nat.le_refl _) G K (fun _ A=>A.elim) (fun _ _ _ _ A=>A.elim)
  · rw[H]at J
    exact(h.dat i k J).me (h.fq.data k (List.mem_of_getElem? J)) h.fq.eU G K (fun _ A=>A.elim) (fun _ _ _ _ A=>A.elim)
  · rcases List.mem_append.1 D with D|D
    · exact(h.ent g D).me h.fq.eU G (fun _ A=>A.elim) K
    simp at D;subst D
    refine⟨by simp,?_⟩
    simp only
    rw[B,← F]
    exact seg_new _ _
  rw[List.filter_append,List.map_append,h.kin];simp
theorem DX {b:Ly} {l:List Ob} {e src a:Nat} {av:List Nat} (hO:gB b 272 l e) (h:zq src av a) (hob:∀k c:Nat,av[k]? = some c→(⟨c,6,24+8*eP (k:Int)⟩:Ob)∈l) {o:Ob} (ho:o∈l) (hne:∀c∈av,c≠o.bn):a=src∨a+8≤o.bn∨o.bn+mO o.size≤a:=by
  rcases h with h|⟨k,c,B,C,D⟩
  · exact .inl h
  right
  rcases hO.sep ho (hob k c B)with A|A|A
  · exact absurd (congrArg Ob.bn A).symm (hne c (List.mem_of_getElem? B))
  · simp only at A;omega
  rw[jh]at A;simp only at A;omega
theorem DZ {b:Ly} {l:List Ob} {e src a:Nat} {av:List Nat} (hO:gB b 272 l e) (h:zq src av a) (hob:∀k c:Nat,av[k]? = some c→(⟨c,6,24+8*eP (k:Int)⟩:Ob)∈l) (hs:tG l src):tG l a:=by
  rcases h with h|⟨k,c,A,B,C⟩
  · rw[h];exact hs
  exact AK hO (hob k c A) Lw (by rw[jh];simp only;omega) Oq Oq Oq
end Go.Wk
namespace Go.Wk
open Go Go.RowKit
theorem xw {l:List Nat} {a:Nat} (h:a∈l):∃i:Nat,l[i]? = some a:=List.mem_iff_getElem?.1 h
theorem aiK {m:Mk} {l l':List Ob} {n:Nat} (h:l'=l∨l'=l ++ [(⟨m.b.length,6,24+8*n⟩:Ob)]):∃t,l'=l ++ t∧∀o∈t,o.kind=6∧m.b.length≤o.bn:=by
  rcases h with h|h
  · exact⟨[],by simp[h],by simp⟩
  exact⟨_,h,by intro o A;simp at A;subst A;exact⟨q,Nat.le_refl _⟩⟩
theorem mQ.link {m m':Mk} {l l':List Ob} {es:List gR} {mp:List Nat} {f:Nat→List Nat} {x:Nat} {av:List Nat} {m1:Mk} (h:mQ m l es mp f) (L:Linked m m1 l l' 176 m.main av mp x)
    (hb:m'.b=m1.b) (hc:m'.c=m1.c) (hd:m'.ai=m1.ai) (hf:m'.aj=m1.aj) (hm':m'.main=av) (hn:m'.cT 2=m1.cT 2∧m'.cT 4=m1.cT 4) (hcn:Cn m1 l'→Cn m' l'):mQ m' l' es (mp ++ [x]) f:=by
  obtain⟨X,Y,Z,n,p,T⟩:=L.same
  obtain⟨t,M,S⟩:=aiK L.sub
  have hO':=L.eU
  have H:∀o∈l,o∈l':=fun o D=>by rw[M];exact List.mem_append_left _ D
  have N:=L.me
  have I:∀a,zq 176 av a→tG l a:=fun a C=>(DZ hO' C L.chain.ob (IZ hO' Om)).mono H
  have E:∀c∈av,c∈m.main∨c=m.b.length:=fun c hc=>by
    rcases L.arr with e|e
    · rw[e]at hc;exact .inl hc
    · rw[e,List.mem_append,List.mem_singleton]at hc;exact hc
  have F:∀c∈av,∀o∈l',o.kind≠6→c≠o.bn:=fun c hc o D hk e=>by
    obtain⟨i,B⟩:=xw hc
    rcases hO'.sep D (L.chain.ob i c B)with G|G|G
    · subst G;exact hk q
    · have:=eF o.size;have:=(hO'.mem D).size.1;simp only at G;omega
    · rw[jh]at G;simp only at G;omega
  have K:m'.ai=m.ai:=hd.trans Y
  refine⟨h.fq.keep (by rw[hb];exact hO') ⟨t,M,fun o D=>by have:=(S o D).1;exact⟨by omega,by omega⟩⟩ (by rw[hb];exact N) I (hc.trans X) (hf.trans Z) ⟨hn.1.trans (T 2 Om Om Om),hn.2.trans (T 4 Om Om Om)⟩ (by rw[K];exact mq.refl _) (hcn (L.cn h.fq.cn)),by rw[hb,hm'];exact L.chain,fun i k B=>?_,⟨fun i k B a C hc=>?_,by rw[K];exact h.own.one⟩,fun g U=>by rw[hb];exact(h.ent g U).me h.fq.eU N I H,by rw[M,wH fun o D=>by have:=(S o D).1;omega];exact h.kin⟩
  · rw[K]at B
    have J:=h.fq.data k (List.mem_of_getElem? B)
    have d:=eF (64+k.cA.length)
    have V:272≤k.bn:=(h.fq.eU.mem J.ob).ge
    rw[hb]
    refine(h.dat i k B).me J h.fq.eU N H (fun a C=>?_) (fun j y R a C=>?_)
    · rcases DX hO' C L.chain.ob (H _ J.ob) (fun c hc=>F c hc _ (H _ J.ob) Oq)with A|A|A
      · omega
      · simp only at A;omega
      simp only at A;omega
    have Q:=(h.dat i k B).chain.ob j y R
    have O:=(h.dat i k B).chain.le h.fq.eU R
    have P:∀c∈av,c≠y:=fun c hc e=>by
      subst e
      rcases E c hc with A|A
      · exact h.own.main i k B c (List.mem_of_getElem? R) A
      · omega
    rcases DX hO' C L.chain.ob (H _ Q) P with A|A|A
    · omega
    · simp only at A;omega
    rw[jh]at A;simp only at A;omega
  rw[K]at B;rw[hm']at hc
  rcases E a hc with A|A
  · exact h.own.main i k B a C A
  obtain⟨j,W⟩:=xw C
  have O:=(h.dat i k B).chain.le h.fq.eU W
  omega
theorem sE {k:aZ} {av:List Nat} {a:Nat} (h:ae1 k av a):(k.bn+40≤a∧a+8≤k.bn+64)∨zq (k.bn+48) av a:=by
  rcases h with h|h|h
  · left;omega
  · left;omega
  exact .inr h
theorem mQ.hang {m m':Mk} {l l':List Ob} {es:List gR} {mp:List Nat} {f:Nat→List Nat} {i e:Nat} {k k':aZ} (h:mQ m l es mp f) (hi:m.ai[i]? = some k) (H:ae2 m m' l l' i e k k' (f i)):mQ m' l' es mp (fun j=>if j=i then f i ++ [e]else f j):=by
  obtain⟨s1,s3,s4,s5,s6⟩:=H.same
  obtain⟨t,u,ht⟩:=H.sub
  have J:=H.eU
  have M:∀o∈l,o∈l':=fun o N=>by rw[u];exact List.mem_append_left _ N
  have p:=H.me
  have T:=h.fq.data k (List.mem_of_getElem? hi)
  have hu:=eF (64+k.cA.length)
  have Ah:272≤k.bn:=(h.fq.eU.mem T.ob).ge
  have v:mq m.ai m'.ai:=by rw[H.dat];exact mq.set hi H.bn.1 H.bn.2.1
  have ob':=H.more.chain.ob
  have K:∀c∈k'.bw,c∈k.bw∨c=m.b.length:=fun c G=>by
    rcases H.arr with e|e
    · rw[e]at G;exact .inl G
    · rw[e,List.mem_append,List.mem_singleton]at G;exact G
  have Q:∀c∈k'.bw,∀o∈l',o.kind≠6→c≠o.bn:=fun c G o N hk e=>by
    obtain⟨i,hi⟩:=xw G
    rcases J.sep N (ob' i c hi)with C|C|C
    · subst C;exact hk rfl
    · have:=eF o.size;have:=(J.mem N).size.1;simp only at C;omega
    · rw[jh]at C;simp only at C;omega
  -- what is written stands E from another object's inside
  have E:∀o∈l',o.bn≠k.bn→(∀c∈k'.bw,c≠o.bn)→∀a,ae1 k k'.bw a→a+8≤o.bn∨o.bn+mO o.size≤a:=fun o N x G a F=>by
    have Ak:o.bn+mO o.size≤k.bn∨k.bn+mO (64+k.cA.length)≤o.bn:=by
      rcases J.sep N (M _ T.ob)with C|C|C
      · exact absurd (congrArg Ob.bn C) x
      · exact .inl C
      · exact .inr C
    rcases sE F with B|B
    · omega
    · rcases DX J B (by rw[← H.bn.1]at *;exact ob') N G with d|d
      · omega
      · exact d
  have U:∀a,ae1 k k'.bw a→tG l a:=fun a F=>by
    have hw:∀q,k.bn+40≤q→q+8≤k.bn+64→tG l' q:=fun q B d=>AK J (M _ T.ob) Lw Lw Oq Lw Oq
    rcases sE F with B|B
    · exact(hw a B.1 B.2).mono M
    · exact(DZ J B ob' (hw _ Oh Oh)).mono M
  have A:∀(j:Nat) (y:aZ),m'.ai[j]? = some y→(j=i∧y=k')∨(j≠i∧m.ai[j]? = some y):=fun j y D=>by
    rw[H.dat]at D
    by_cases I:i=j
    · subst I
      rw[List.getElem?_set_self (List.getElem?_eq_some_iff.1 hi).1]at D
      exact .inl ⟨rfl,by simpa using D.symm⟩
    · rw[List.getElem?_set_ne I]at D
      exact .inr ⟨fun e=>I e.symm,D⟩
  have R:=h.fq.keep J ⟨t,u,fun o N=>by have:=(ht o N).1;exact⟨by omega,by omega⟩⟩ p U s1 s3 ⟨s6 2 Om Om Om,s6 4 Om Om Om⟩ v (H.cn h.fq.cn)
  refine⟨R,?_,fun j y D=>?_,⟨fun j y D a F G=>?_,fun j S y Z a D L F P=>?_⟩,fun g hg=>(h.ent g hg).me h.fq.eU p U M,by rw[u,wH fun o N=>by have:=(ht o N).1;omega];exact h.kin⟩
  · rw[s4]
    refine h.main.me h.fq.eU (rJ l) (Nat.le_refl _) p M (fun a F=>?_) (fun j y hy a F=>?_)
    · rcases sE F with B|B|⟨j,c,B,d,h3⟩
      · omega
      · omega
      have:=H.more.chain.le J B;omega
    have O:=h.main.ob j y hy
    have w:=h.main.le h.fq.eU hy
    have:=E _ (M _ O) (fun e=>by
      have:=h.fq.eU.sep O T.ob
      rcases this with C|C|C
      · cases C
      · rw[jh]at C;simp only at C e;omega
      · simp only at C e;omega) (fun c G e=>by
      simp only at e;subst e
      rcases K c G with B|B
      · exact h.own.main i k hi c B (List.mem_of_getElem? hy)
      · omega) a F
    rw[jh]at this
    simp only at this;omega
  · rcases A j y D with⟨rfl,rfl⟩|⟨I,D⟩
    · rw[if_pos rfl];exact H.more
    rw[if_neg I]
    have r:=h.fq.data y (List.mem_of_getElem? D)
    have Al:=eF (64+y.cA.length)
    have Aa:y.bn≠k.bn:=fun e=>I (h.fq.one j i y k D hi (.inl e))
    refine(h.dat j y D).me r h.fq.eU p M (fun a F=>?_) (fun n z X a F=>?_)
    · have:=E _ (M _ r.ob) Aa (fun c G=>Q c G _ (M _ r.ob) Oq) a F
      simp only at this;omega
    have O:=(h.dat j y D).chain.ob n z X
    have w:=(h.dat j y D).chain.le h.fq.eU X
    have:=E _ (M _ O) (fun e=>by
      have:=h.fq.eU.sep O T.ob
      rcases this with C|C|C
      · cases C
      · rw[jh]at C;simp only at C e;omega
      · simp only at C e;omega) (fun c G e=>by
      simp only at e;subst e
      rcases K c G with B|B
      · exact I (h.own.one j i y k c D hi (List.mem_of_getElem? X) B)
      · omega) a F
    rw[jh]at this
    simp only at this;omega
  · rw[s4]at G
    rcases A j y D with⟨rfl,rfl⟩|⟨I,D⟩
    · rcases K a F with B|B
      · exact h.own.main j k hi a B G
      obtain⟨n,hn⟩:=xw G
      have:=h.main.le h.fq.eU hn;omega
    exact h.own.main j y D a F G
  have Y:∀(n:Nat) (z:aZ),m.ai[n]? = some z→m.b.length∉z.bw:=fun n z X W=>by
    obtain⟨q,hq⟩:=xw W
    have:=(h.dat n z X).chain.le h.fq.eU hq;omega
  rcases A j y D with⟨rfl,rfl⟩|⟨I,D⟩
  · rcases A S Z L with⟨rfl,rfl⟩|⟨V,L⟩
    · rfl
    rcases K a F with B|B
    · exact h.own.one j S k Z a hi L B P
    subst B;exact absurd P (Y S Z L)
  rcases A S Z L with⟨rfl,rfl⟩|⟨V,L⟩
  · rcases K a P with B|B
    · exact h.own.one j S y k a D hi F B
    subst B;exact absurd F (Y j y D)
  exact h.own.one j S y Z a D L F P
end Go.Wk
namespace Go.Wk
open Go
abbrev plt (p q:Pr):Prop:=Op.bytesLess (whole p.pb) (whole q.pb)=true
theorem AW (p:Pr):¬plt p p:=by unfold plt;rw[abf];simp
theorem JF {p q r:Pr} (h:plt p q) (k:plt q r):plt p r:=NT h k
theorem aga {p q:Pr} (hp:right p.pb=true) (hq:right q.pb=true) (h:¬plt p q) (k:¬plt q p):p=q :=
  yW.1 (aaF hp hq (abg (by simpa [plt]using h) (by simpa [plt]using k)))
abbrev Asc (l:List Pr):Prop:=l.Pairwise plt
theorem UF:∀{l m:List Pr},Asc l→Asc m→(∀p,p∈l↔p∈m)→l=m
  | [],[],_,_,_=>rfl
  | [],b :: m,_,_,h=>by have:=(h b).2 Oq;simp at this
  | a :: l,[],_,_,h=>by have:=(h a).1 Oq;simp at this
  | a :: l,b :: m,hl,hm,h=>by
    obtain⟨hl1,hl2⟩:=List.pairwise_cons.1 hl
    obtain⟨hm1,hm2⟩:=List.pairwise_cons.1 hm
    have e:a=b:=by
      rcases List.mem_cons.1 ((h a).1 Oq)with e|A
      · exact e
      · rcases List.mem_cons.1 ((h b).2 Oq)with e|C
        · exact e.symm
        · exact absurd (JF (hl1 b C) (hm1 a A)) (AW a)
    subst e
    congr 1
    refine UF hl2 hm2 fun p=>⟨fun B=>?_,fun B=>?_⟩
    · rcases List.mem_cons.1 ((h p).1 (by simp[B]))with rfl|A
      · exact absurd (hl1 p B) (AW p)
      · exact A
    · rcases List.mem_cons.1 ((h p).2 (by simp[B]))with rfl|A
      · exact absurd (hm1 p B) (AW p)
      · exact A
def zR (p:Pr):List Pr→List Pr
  | []=>[p]
  | q :: r=>if Op.bytesLess (ak q) (ak p)=true then q :: zR p r else if q.pb=p.pb then q :: r else p :: q :: r
theorem JJ (t:Ly) (o:List Pr) (k:Nat):lW t o (k+1)=lW t o k+1:=by
  induction o generalizing k with
  | nil=>rfl
  | cons q r ih=>unfold lW;split <;> simp[ih]
theorem agj (t:Ly) (o:List Pr):lW t o 0≤o.length:=by
  induction o with
  | nil=>simp[lW]
  | cons q r ih=>unfold lW;split <;> simp[JJ,ih]
theorem JV:∀(n j:Nat) (o:List Pr),(jT n j o).length=o.length
  | 0,_,_=>rfl
  | n+1,j,o=>by unfold jT;rw[JV n];simp
theorem JU:∀(n j:Nat) (o:List Pr),n≤j→j<o.length→∀i,i<o.length→(jT n j o)[i]? = if j-n<i∧i≤j then o[i-1]? else o[i]?
  | 0,j,o,_,_,i,_=>by simp[jT];intro h1 h2;omega
  | n+1,j,o,hn,hj,i,hi=>by
    unfold jT
    have hd:o.getD (j-1) {name:=[],value:=[]}=o[j-1]:=by simp[List.getD,show j-1<o.length by omega]
    rw[JU n (j-1) _ Oh Vw i (by simpa using hi),hd]
    by_cases h1:j-1-n<i∧i≤j-1
    · rw[if_pos h1,if_pos Oh,List.getElem?_set_ne Oh]
    · rw[if_neg h1]
      by_cases h2:i=j
      · subst h2
        rw[if_pos Oh,List.getElem?_set_self hj,List.getElem?_eq_getElem (show i-1<o.length by omega)]
      · rw[if_neg Oh,List.getElem?_set_ne Oh]
theorem aar (o:List Pr) (k:Nat) (p d:Pr) (hk:k≤o.length):(jT (o.length-k) o.length (o ++ [d])).set k p=o.take k ++ p :: o.drop k:=by
  apply List.ext_getElem?
  intro i
  have A:(jT (o.length-k) o.length (o ++ [d])).length=o.length+1:=by rw[JV];simp
  by_cases hi:i<o.length+1
  · by_cases h1:i=k
    · subst h1
      rw[List.getElem?_set_self Oh,List.getElem?_append_right Vw]
      simp[Nat.min_eq_left hk]
    rw[List.getElem?_set_ne (Ne.symm h1),JU _ _ _ Oh Oq i Vw]
    by_cases h2:o.length-(o.length-k)<i∧i≤o.length
    · rw[if_pos h2,List.getElem?_append_left Oh,List.getElem?_append_right Vw]
      simp only[List.length_take,Nat.min_eq_left hk]
      obtain⟨m,rfl⟩:∃m,i=k+1+m:=⟨i-(k+1),by omega⟩
      rw[show k+1+m-k=m+1 by omega,List.getElem?_cons_succ,List.getElem?_drop]
      congr 1;omega
    rw[if_neg h2,List.getElem?_append_left Oh,List.getElem?_append_left Vw,List.getElem?_take,if_pos Oh]
  rw[List.getElem?_eq_none (by simp[A];omega),List.getElem?_eq_none Vw]
theorem aie (p:Pr) (o:List Pr):tK p o=zR p o:=by
  have A:∀o:List Pr,(lW (ak p) o 0<o.length∧(o.getD (lW (ak p) o 0) {name:=[],value:=[]}).pb=p.pb→zR p o=o) ∧
      (¬(lW (ak p) o 0<o.length∧(o.getD (lW (ak p) o 0) {name:=[],value:=[]}).pb=p.pb)→zR p o=o.take (lW (ak p) o 0) ++ p :: o.drop (lW (ak p) o 0)):=by
    intro o
    induction o with
    | nil=>simp[lW,zR]
    | cons q r ih =>
      unfold lW zR
      by_cases h1:Op.bytesLess (ak q) (ak p)=true
      · rw[if_pos h1,if_pos h1,JJ]
        simp only[List.length_cons,Nat.add_lt_add_iff_right,List.getD_cons_succ,List.take_succ_cons,List.drop_succ_cons,List.cons_append,List.cons.injEq,true_and]
        exact ih
      · rw[if_neg h1,if_neg h1]
        simp only[List.length_cons,Nat.zero_lt_succ,true_and,List.getD_cons_zero,List.take_zero,List.drop_zero,List.nil_append]
        exact⟨fun h=>if_pos h,fun h=>if_neg h⟩
  unfold tK
  simp only
  split
  · rename_i h;exact((A o).1 h).symm
  rename_i h;rw[aar _ _ _ _ (agj _ _)];exact((A o).2 h).symm
theorem LG {p q:Pr} {o:List Pr}:q∈zR p o↔q=p∨q∈o:=by
  induction o with
  | nil=>simp[zR]
  | cons x r ih =>
    unfold zR
    split
    · simp[ih];constructor
      · rintro(h|h|h) <;> simp[h]
      · rintro(h|h|h) <;> simp[h]
    · split
      · rename_i h;rw[yW]at h;subst h;simp
      · simp
theorem aeA {p:Pr} {o:List Pr} (hp:right p.pb=true) (ho:∀q∈o,right q.pb=true) (h:Asc o):Asc (zR p o):=by
  induction o with
  | nil=>simp[zR]
  | cons x r ih =>
    obtain⟨C,D⟩:=List.pairwise_cons.1 h
    unfold zR
    split
    · rename_i hx
      refine List.pairwise_cons.2 ⟨fun q A=>?_,ih (fun q A=>ho q (by simp[A])) D⟩
      rcases LG.1 A with rfl|A
      · exact hx
      · exact C q A
    · rename_i hx
      split
      · exact h
      · rename_i hne
        have B:plt p x:=by
          cases hb:Op.bytesLess (whole p.pb) (whole x.pb)with
          | true=>exact hb
          | false=>exact absurd (yW.2 (aga (ho x Oq) hp hx (by simp[plt,hb]))) hne
        refine List.pairwise_cons.2 ⟨fun q A=>?_,h⟩
        rcases List.mem_cons.1 A with rfl|A
        · exact B
        · exact JF B (C q A)
theorem VH:∀(l o x:List Pr),Ry l o=(x,0)→(∀q∈o,right q.pb=true)→Asc o→Asc x∧(∀q∈x,right q.pb=true)∧(∀q,q∈x↔q∈o∨q∈l)∧x.length≤16
  | [],o,x,h,hr,ha=>by
    unfold Ry at h
    split at h
    · simp at h
    · rename_i hl
      obtain⟨rfl,_⟩:=Prod.mk.inj h
      exact⟨ha,hr,by simp,by omega⟩
  | p :: r,o,x,h,hr,ha=>by
    unfold Ry at h
    split at h
    · rename_i h1;exact absurd (Prod.mk.inj h).2 h1
    · rename_i h1
      have hp:right p.pb=true:=zC.1 (Classical.not_not.1 h1)
      rw[aie]at h
      obtain⟨g1,g2,g3,g4⟩:=VH r _ x h (fun q hq=>by
        rcases LG.1 hq with rfl|hq
        · exact hp
        · exact hr q hq) (aeA hp hr ha)
      refine⟨g1,g2,fun q=>?_,g4⟩
      rw[g3,LG,List.mem_cons]
      constructor
      · rintro((h|h)|h)
        · exact .inr (.inl h)
        · exact .inl h
        · exact .inr (.inr h)
      · rintro(h|h|h)
        · exact .inl (.inr h)
        · exact .inl (.inl h)
        · exact .inr h
theorem vu {l x:List Pr} (h:kZ l=(x,0)):Asc x∧(∀q∈x,right q.pb=true)∧(∀q,q∈x↔q∈l)∧x.length≤16∧x≠[]:=by
  unfold kZ at h
  split at h
  · simp at h
  rename_i h0
  obtain⟨B,C,A,D⟩:=VH l [] x h Oq List.Pairwise.nil
  refine⟨B,C,by simpa using A,D,?_⟩
  rintro rfl
  cases l with
  | nil=>simp at h0
  | cons y r=>exact absurd ((A y).2 Oq) Oq
end Go.Wk
namespace Go.Wk
open Go Go.RowKit
def jV (ds:List aZ) (i:Nat):List UInt8:=(ds.getD i known0).cA
def pO (ds ds':List aZ):Prop:=∀(i:Nat) (k:aZ),ds[i]? = some k→∃k',ds'[i]? = some k'∧k'.bn=k.bn∧k'.cA=k.cA
theorem pO.refl (ds:List aZ):pO ds ds:=fun _ k h=>⟨k,h,q,q⟩
theorem pO.trans {a b c:List aZ} (h:pO a b) (k:pO b c):pO a c:=fun i x hx=>by
  obtain⟨y,h1,h2,h3⟩:=h i x hx
  obtain⟨z,h4,h5,h6⟩:=k i y h1
  exact⟨z,h4,h5.trans h2,h6.trans h3⟩
theorem mq.ext {a b:List aZ} (h:mq a b):pO a b:=fun i k hk=>by
  have hl:=(List.getElem?_eq_some_iff.1 hk).1
  obtain⟨k',hk'⟩:∃k',b[i]? = some k':=⟨_,List.getElem?_eq_getElem (by rw[h.len];exact hl)⟩
  obtain⟨k0,h1,h2,h3⟩:=h.get i k' hk'
  rw[hk]at h1;cases h1
  exact⟨k',hk',h2,h3⟩
theorem pO.at {a b:List aZ} (h:pO a b) {i:Nat} (hi:i<a.length):i<b.length∧ij b i=ij a i∧jV b i=jV a i:=by
  obtain⟨D,A,B,C⟩:=h i _ (List.getElem?_eq_getElem hi)
  refine⟨(List.getElem?_eq_some_iff.1 A).1,?_,?_⟩
  · unfold ij;simp only[List.getD_eq_getElem?_getD,A,List.getElem?_eq_getElem hi,Option.getD_some];exact B
  unfold jV;simp only[List.getD_eq_getElem?_getD,A,List.getElem?_eq_getElem hi,Option.getD_some];exact C
theorem BB.ext {m m':Mk} {l l':List Ob} {i:Nat} {t:Ly} (d:BB m m' l l' i t):pO m.ai m'.ai:=by
  rcases d.new with e|⟨s,p,e,_⟩
  · rw[e];exact pO.refl _
  rw[e];exact fun j k A=>⟨k,by rw[List.getElem?_append_left (List.getElem?_eq_some_iff.1 A).1];exact A,q,q⟩
theorem qj {ds:List aZ} {i:Nat} {k:aZ} (h:ds[i]? = some k):jV ds i=k.cA∧ij ds i=k.bn:=by
  unfold jV ij
  simp only[List.getD_eq_getElem?_getD,h,Option.getD_some,and_self]
theorem BR (ds:List aZ) (p:Nat) (od:List Nat):∀n,n≤od.length→(∀j,mr ds p od n≤j→j<n→p<ij ds (od.getD j 0))∧(0<mr ds p od n→ij ds (od.getD (mr ds p od n-1) 0)≤p)
  | 0,_=>⟨fun j h1 h2=>by omega,fun h=>by simp[mr]at h⟩
  | n+1,hn=>by
    rw[mr]
    split
    · rename_i hp
      obtain⟨g1,g2⟩:=BR ds p od n Oh
      refine⟨fun j h1 h2=>?_,g2⟩
      by_cases hj:j=n
      · subst hj;exact hp
      · exact g1 j h1 Oh
    · rename_i hp
      exact⟨fun j h1 h2=>by omega,fun _=>by simp only[Nat.add_sub_cancel];omega⟩
theorem FH {α:Type} {R:α→α→Prop} {l:List α} {n:Nat} {x:α} (h:l.Pairwise R) (h1:∀y∈l.take n,R y x) (h2:∀y∈l.drop n,R x y):(l.take n ++ [x] ++ l.drop n).Pairwise R:=by
  rw[List.append_assoc,List.singleton_append]
  refine List.pairwise_append.2 ⟨h.take,List.pairwise_cons.2 ⟨h2,h.drop⟩,fun a C b A=>?_⟩
  rcases List.mem_cons.1 A with rfl|A
  · exact h1 a C
  have B:=h
  rw[← List.take_append_drop n l]at B
  exact(List.pairwise_append.1 B).2.2 a C b A
theorem ME {ds:List aZ} {k:Nat} {od:List Nat} (h:od.Pairwise fun a b=>ij ds a<ij ds b) (hk:∀i∈od,ij ds i≠ij ds k):(mR ds k od).Pairwise fun a b=>ij ds a<ij ds b:=by
  obtain⟨E,F⟩:=BR ds (ij ds k) od od.length (Nat.le_refl _)
  have I:=BQ ds (ij ds k) od od.length
  unfold mR
  simp only
  generalize mr ds (ij ds k) od od.length=n at *
  refine FH h (fun y D=>?_) (fun y D=>?_)
  · obtain⟨i,B⟩:=List.mem_iff_getElem?.1 D
    rw[List.getElem?_take]at B
    split at B
    · rename_i hin
      have G:=hk y (List.mem_of_getElem? B)
      have C:=(List.getElem?_eq_some_iff.1 B).1
      have J:=F Oh
      have A:od[n-1]? = some (od.getD (n-1) 0):=by simp[List.getD,List.getElem?_eq_getElem (show n-1<od.length by omega)]
      have:ij ds y≤ij ds (od.getD (n-1) 0):=by
        by_cases he:i=n-1
        · subst he;rw[B]at A;have:=Option.some.inj A;rw[← this];exact Nat.le_refl _
        · have H:=List.pairwise_iff_getElem.1 h i (n-1) C Oh Oh
          rw[List.getElem?_eq_getElem C]at B
          rw[List.getElem?_eq_getElem (show n-1<od.length by omega)]at A
          rw[Option.some.inj B,Option.some.inj A]at H
          omega
      omega
    cases B
  obtain⟨i,B⟩:=List.mem_iff_getElem?.1 D
  rw[List.getElem?_drop]at B
  have C:=(List.getElem?_eq_some_iff.1 B).1
  have:=E (n+i) Oh C
  rw[List.getD_eq_getElem?_getD,B]at this
  exact this
theorem SQ (ds:List aZ) (k:Nat) (od:List Nat):(mR ds k od).Perm (k :: od):=by
  unfold mR
  simp only
  generalize mr ds (ij ds k) od od.length=n
  rw[List.append_assoc,List.singleton_append]
  have:=List.perm_middle (a:=k) (l₁:=od.take n) (l₂:=od.drop n)
  rw[List.take_append_drop]at this
  exact this
structure ae4 (m:Mk) (dl:List Pr) (ps:List (List UInt8)) (od:List Nat):Prop where
  eq:ps=dl.map ak
  lt:∀i∈od,i<m.ai.length
  perm:(od.map (jV m.ai)).Perm ps
  HG:od.Pairwise fun a b=>ij m.ai a<ij m.ai b
theorem Qm {p q:Pr} (hp:right p.pb=true) (hq:right q.pb=true) (h:ak p=ak q):p=q:=by
  have A:=(oO ((mY _).2 hp)).2
  have B:=(oO ((mY _).2 hq)).2
  have C:whole p.pb=whole q.pb:=h
  rw[C,B]at A
  exact(yW.1 A).symm
theorem aaG {m m':Mk} {l l':List Ob} {dl:List Pr} {ps:List (List UInt8)} {od:List Nat} {i:Nat} {x:Pr} (h:ae4 m dl ps od) (hs:Stat m l) (d:BB m m' l l' i (ak x)) (hn:ak x∉dl.map ak) :
    ae4 m' (dl ++ [x]) (ps ++ [(m'.ai.getD i known0).cA]) (mR m'.ai i od):=by
  have C:=d.ext
  obtain⟨k,hk,E⟩:=d.got
  obtain⟨F,L⟩:=qj hk
  have J:=(List.getElem?_eq_some_iff.1 hk).1
  have G:(m'.ai.getD i known0).cA=ak x:=F.trans E
  have A:od.map (jV m'.ai)=od.map (jV m.ai):=List.map_congr_left fun j B=>(C.at (h.lt j B)).2.2
  have D:i∉od:=fun K=>by
    have H:jV m'.ai i∈od.map (jV m'.ai):=List.mem_map.2 ⟨i,K,q⟩
    rw[A]at H
    have:=h.perm.subset H
    rw[h.eq,F,E]at this
    exact hn this
  refine⟨by rw[G,h.eq];simp,fun j B=>?_,?_,?_⟩
  · rcases JE B with rfl|B
    · exact J
    exact(C.at (h.lt j B)).1
  · refine((SQ m'.ai i od).map _).trans ?_
    rw[List.map_cons,A,F,E,G]
    exact(List.Perm.cons _ h.perm).trans (List.perm_append_comm (l₁:=[ak x]))
  refine ME ?_ fun j B e=>?_
  · refine List.Pairwise.imp_of_mem (fun {a b} ha hb hab=>?_) h.HG
    rw[(C.at (h.lt a ha)).2.1,(C.at (h.lt b hb)).2.1];exact hab
  obtain⟨y,I⟩:∃y,m'.ai[j]? = some y:=⟨_,List.getElem?_eq_getElem (C.at (h.lt j B)).1⟩
  rw[(qj I).2,L]at e
  have:=d.fq.one j i y k I hk (.inl e)
  subst this;exact D B
structure aey (m m':Mk) (l l':List Ob) (es:List gR) (mp:List Nat) (f:Nat→List Nat):Prop where
  img:mQ m' l' es mp f
  ext:pO m.ai m'.ai
  same:m'.c=m.c∧m'.main=m.main∧∀i,i≠6→i≠7→i<15→m'.cT i=m.cT i
  len:m.ai.length≤m'.ai.length
theorem ye:∀(fs dl:List Pr) (m:Mk) (l:List Ob) (ps:List (List UInt8)) (od:List Nat) (es:List gR) (mp:List Nat) (f:Nat→List Nat),mQ m l es mp f→(∀i,m.ai.length≤i→f i=[])→ae4 m dl ps od→(∀q∈fs,BD q)→((dl ++ fs).map ak).Nodup →
    ∃l',aey m (iH fs m ps od).2.2 l l' es mp f∧ae4 (iH fs m ps od).2.2 (dl ++ fs) (iH fs m ps od).1 (iH fs m ps od).2.1
  | [],dl,m,l,ps,od,es,mp,f,h,hf,hw,_,_=>⟨l,⟨h,pO.refl _,⟨rfl,rfl,fun _ _ _ _=>rfl⟩,Nat.le_refl _⟩,by rw[List.append_nil];exact hw⟩
  | x :: r,dl,m,l,ps,od,es,mp,f,h,hf,hw,hb,hnd=>by
    obtain⟨l1,d⟩:=KV h.fq x (hb x Oq)
    have hx:ak x∉dl.map ak:=fun hm=>by
      rw[List.map_append,List.map_cons]at hnd
      exact(List.nodup_append.1 hnd).2.2 _ hm _ Oq rfl
    have g:=h.soft d hf
    have w:=aaG hw h.fq d hx
    have hle:m.ai.length≤(m.data x).2.ai.length:=by
      rcases d.new with e|⟨s,p,e,_⟩ <;> rw[e] <;> simp
    obtain⟨l',A,E⟩:=ye r (dl ++ [x]) (m.data x).2 l1 _ _ es mp f g (fun i G=>hf i Oh) w (fun q F=>hb q (by simp[F])) (by rw[List.append_assoc];exact hnd)
    rw[List.append_assoc]at E
    refine⟨l',⟨A.img,d.ext.trans A.ext,⟨A.same.1.trans d.step.same.1,A.same.2.1.trans d.step.same.2.1,fun i B C D=>(A.same.2.2 i B C D).trans (d.step.same.2.2 i B C D)⟩,ly hle A.len⟩,E⟩
end Go.Wk
namespace Go.Wk
open Go Go.RowKit
theorem aaH:∀{a b:List (List UInt8)},a.Perm b→∀v,nk v a=nk v b:=by
  intro a b h
  induction h with
  | nil=>exact fun _=>rfl
  | cons x _ ih=>exact fun v=>ih _
  | swap x y l=>intro v;simp only[nk];congr 1;rw[Nat.xor_assoc,Nat.xor_assoc,Nat.xor_comm (rI y)]
  | trans _ _ ih1 ih2=>exact fun v=>(ih1 v).trans (ih2 v)
theorem XJ:∀(l:List (List UInt8)) (v:Nat),v<18446744073709551616→nk v l<18446744073709551616
  | [],_,h=>h
  | x :: r,v,h=>XJ r _ (GN h (EB x))
structure ae0 (m m':Mk) (l':List Ob) (es:List gR) (mp:List Nat) (f:Nat→List Nat) (e n:Nat) (od:List Nat):Prop where
  img:mQ m' l' es mp (fun j=>if j∈od then f j ++ [e]else f j)
  ds:mq m.ai m'.ai
  same:m'.c=m.c∧m'.aj=m.aj∧m'.main=m.main∧m'.depth=m.depth∧∀i,i≠6→i≠7→i≠18→m'.cT i=m.cT i
  top:m'.b.length≤m.b.length+2100*n
  ge:m.b.length≤m'.b.length
theorem mq.trans {a b c:List aZ} (h:mq a b) (k:mq b c):mq a c:=⟨k.len.trans h.len,fun i x hx=>by
  obtain⟨y,h1,h2,h3⟩:=k.get i x hx
  obtain⟨z,h4,h5,h6⟩:=h.get i y h1
  exact⟨z,h4,h2.trans h5,h3.trans h6⟩⟩
theorem OG {es:List gR} {mp:List Nat} {e:Nat} (he:e<18446744073709551616):∀(od:List Nat) (m:Mk) (l:List Ob) (f:Nat→List Nat),mQ m l es mp f→(∀i∈od,i<m.ai.length)→od.Nodup→(∀i∈od,(f i).length<900000)→m.b.length+2100*od.length<900000 →
    ∃l',ae0 m (kX e od m) l' es mp f e od.length od
  | [],m,l,f,h,_,_,_,_=>⟨l,⟨by simp only[List.not_mem_nil,if_false];exact h,mq.refl _,⟨q,q,q,q,fun _ _ _ _=>rfl⟩,Nat.le_refl _,Nat.le_refl _⟩⟩
  | i :: r,m,l,f,h,hi,hn,hl,hb=>by
    obtain⟨k,hk⟩:∃k,m.ai[i]? = some k:=⟨_,List.getElem?_eq_getElem (hi i Oq)⟩
    simp only[List.length_cons]at hb
    obtain⟨l1,k1,H⟩:=OH (e:=e) h.fq.eU hk (h.fq.data k (List.mem_of_getElem? hk)) (h.dat i k hk) Oh he (by have:=hl i Oq;omega)
    have g:=h.hang hk H
    have hd1:mq m.ai (kM e i m).ai:=by rw[H.dat];exact mq.set hk H.bn.1 H.bn.2.1
    have T:=H.top
    obtain⟨J,K,L,M,N⟩:=H.same
    rw[oe]
    rw[List.nodup_cons]at hn
    have I:∀j∈r,(if j=i then f i ++ [e]else f j)=f j:=fun j A=>if_neg (by rintro rfl;exact hn.1 A)
    obtain⟨l',B⟩:=OG he r (kM e i m) l1 _ g (fun j A=>by rw[hd1.len];exact hi j (by simp[A])) hn.2 (fun j A=>by simp only[I j A];exact hl j (by simp[A])) Oh
    obtain⟨O,P,Q,R,S⟩:=B.same
    have F:=B.top
    refine⟨l',⟨?_,hd1.trans B.ds,⟨O.trans J,P.trans K,Q.trans L,R.trans M,fun j D E C=>(S j D E C).trans (N j D E C)⟩,by simp only[List.length_cons];omega,ly H.me.len B.ge⟩⟩
    have G:(fun j=>if j∈i :: r then f j ++ [e]else f j)=fun j=>if j∈r then(if j=i then f i ++ [e]else f j) ++ [e]else if j=i then f i ++ [e]else f j:=by
      funext j
      by_cases A:j=i
      · subst A;simp[hn.1]
      · simp[A]
    rw[G]
    exact B.img
def places (es:List gR) (i:Nat):List Nat:=(es.filter fun g=>decide (i∈g.who)).map gR.bn
theorem SR (es:List gR) (g:gR) (i:Nat):places (es ++ [g]) i=if i∈g.who then places es i ++ [g.bn]else places es i:=by
  unfold places
  rw[List.filter_append,List.map_append]
  by_cases h:i∈g.who
  · rw[if_pos h];simp[h]
  rw[if_neg h];simp[h]
theorem FK (es:List gR) (i:Nat):(places es i).length≤es.length:=by unfold places;rw[List.length_map];exact List.length_filter_le _ _
structure vH (m:Mk) (g:gR):Prop where
  lt:∀i∈g.who,i<m.ai.length
  aD:g.ent.aD=g.who.map fun i=>{bn:=ij m.ai i,cQ:=eK m (jV m.ai i)}
  HG:g.who.Pairwise fun a b=>ij m.ai a<ij m.ai b
  xor:g.ent.xor=nk 0 (g.who.map (jV m.ai))
  ok:gH.ok g.ent∧g.ent.seq≠0
  len:1≤g.who.length∧g.who.length≤16
structure NF (m:Mk) (g:gR) (r:Rec):Prop where
  seq:g.ent.seq=r.seq
  cr:g.ent.cr=r.cr
  mono:g.ent.mono=r.mono
  bV:g.ent.bV=r.bV
  aj:(g.who.map (jV m.ai)).Perm (r.aj.map ak)
  HG:Asc r.aj
  right:∀q∈r.aj,right q.pb=true
theorem vH.ext {m m':Mk} {g:gR} (h:vH m g) (hd:pO m.ai m'.ai) (hc:m'.c=m.c):vH m' g:=by
  have B:∀t,eK m' t=eK m t:=fun t=>by unfold eK;rw[hc]
  refine⟨fun i A=>(hd.at (h.lt i A)).1,?_,?_,?_,h.ok,h.len⟩
  · rw[h.aD]
    exact List.map_congr_left fun i A=>by rw[(hd.at (h.lt i A)).2.1,(hd.at (h.lt i A)).2.2,B]
  · exact List.Pairwise.imp_of_mem (fun {a b} ha hb hab=>by rw[(hd.at (h.lt a ha)).2.1,(hd.at (h.lt b hb)).2.1];exact hab) h.HG
  rw[h.xor]
  congr 1
  exact(List.map_congr_left fun i A=>(hd.at (h.lt i A)).2.2).symm
theorem NF.ext {m m':Mk} {g:gR} {r:Rec} (h:NF m g r) (w:vH m g) (hd:pO m.ai m'.ai):NF m' g r:=by
  refine⟨h.seq,h.cr,h.mono,h.bV,?_,h.HG,h.right⟩
  have:g.who.map (jV m'.ai)=g.who.map (jV m.ai):=List.map_congr_left fun i A=>(hd.at (w.lt i A)).2.2
  rw[this];exact h.aj
structure Img (m:Mk) (l:List Ob) (es:List gR):Prop where
  c:mQ m l es (es.map gR.bn) (places es)
  n8:m.cT 8=es.length
  n9:m.cT 9<18446744073709551616
  n11:m.cT 11=m.main.getD 0 0
  n10:m.cT 10=(es.head?.map fun g=>g.ent.seq).getD 0
  who:∀g∈es,vH m g
  txt:∀k∈m.ai,∃q:Pr,right q.pb=true∧k.cA=ak q
theorem FL {es:List gR} {m:Mk} (h:∀g∈es,vH m g) (i:Nat) (hi:m.ai.length≤i):places es i=[]:=by
  unfold places
  rw[List.map_eq_nil_iff,List.filter_eq_nil_iff]
  intro g A
  simp only[decide_eq_true_eq]
  intro B
  have:=(h g A).lt i B
  omega
theorem mQ.to {m m':Mk} {l:List Ob} {es:List gR} {mp:List Nat} {f:Nat→List Nat} (h:mQ m l es mp f) (hb:m'.b=m.b) (hc:m'.c=m.c) (hd:m'.ai=m.ai) (hf:m'.aj=m.aj) (hm:m'.main=m.main) (hn:m'.cT 2=m.cT 2∧m'.cT 4=m.cT 4) (hcn:Cn m l→Cn m' l):mQ m' l es mp f:=by
  have D:∀t,eK m' t=eK m t:=fun t=>by unfold eK;rw[hc]
  obtain⟨⟨E,F,G,H,I,J,K,L,M,A,B,C⟩,N,O,⟨P,Q⟩,R,S⟩:=h
  exact⟨⟨by rw[hb];exact E,by rw[hc];exact F,by rw[hc];exact G,hn.1.trans H,by rw[hc];exact hn.2.trans I,by rw[hc];exact J,fun k hk=>by rw[hb,D];exact K k (hd ▸ hk),fun k hk=>by rw[hb,D];exact L k (hf ▸ hk),by rw[hd];exact M,by rw[hd];exact A,by rw[hf];exact B,hcn C⟩,by rw[hb,hm];exact N,by rw[hb,hd];exact O,⟨by rw[hd,hm];exact P,by rw[hd];exact Q⟩,by rw[hb];exact R,S⟩
end Go.Wk
namespace Go.Wk
open Go Go.RowKit
theorem um (z:Mk) (n seq cr mono e:Nat) (bV:Ly) (i:Nat) (h:i≠8∧i≠9∧i≠10∧i≠12∧i≠13∧i≠14):(oc z n seq cr mono e bV).cT i=z.cT i:=by
  unfold oc
  simp only
  have A:(if n=0 then(z.dX 10 seq).dX 12 cr else z).cT i=z.cT i:=by
    split
    · rw[er Oh,er Oh]
    · rfl
  generalize (if n=0 then(z.dX 10 seq).dX 12 cr else z)=y at *
  rw[← A]
  show((((y.dX 8 ((y.cT 8+1)%18446744073709551616)).dX 9 seq).dX 13 cr).dX 14 mono).cT i=y.cT i
  rw[er Oh,er Oh,er Oh,er Oh]
theorem abJ (z:Mk) (n seq cr mono e:Nat) (bV:Ly) (h:z.h.n.length=20):(oc z n seq cr mono e bV).cT 10=if n=0 then seq else z.cT 10:=by
  unfold oc
  simp only
  have A:(if n=0 then(z.dX 10 seq).dX 12 cr else z).cT 10=if n=0 then seq else z.cT 10:=by
    split
    · rw[er Oh,AL Oh]
    · rfl
  generalize (if n=0 then(z.dX 10 seq).dX 12 cr else z)=y at *
  rw[← A]
  show((((y.dX 8 ((y.cT 8+1)%18446744073709551616)).dX 9 seq).dX 13 cr).dX 14 mono).cT 10=y.cT 10
  rw[er Oh,er Oh,er Oh,er Oh]
theorem HJ {ds:List aZ} {od:List Nat} (h:od.Pairwise fun a b=>ij ds a<ij ds b):od.Nodup :=
  List.Pairwise.imp (fun {a b} hab e=>by subst e;exact Nat.lt_irrefl _ hab) h
theorem zw {fs:List Pr} (h:Asc fs) (hr:∀q∈fs,right q.pb=true):(fs.map ak).Nodup:=by
  unfold List.Nodup
  rw[List.pairwise_map]
  exact List.Pairwise.imp_of_mem (fun {a b} ha hb hab e=>by
    have:=Qm (hr a ha) (hr b hb) e
    subst this;exact AW _ hab) h
theorem CG:∀(fs:List Pr) (m:Mk) (ps:List (List UInt8)) (od:List Nat),∀k∈(iH fs m ps od).2.2.ai,k∈m.ai∨∃q∈fs,k.cA=ak q
  | [],m,_,_,k,hk=>.inl hk
  | x :: r,m,ps,od,k,hk=>by
    rcases CG r (m.data x).2 _ _ k hk with h|⟨q,h1,h2⟩
    · rcases HY k h with h|h
      · exact .inl h
      · exact .inr ⟨x,by simp,h⟩
    · exact .inr ⟨q,by simp[h1],h2⟩
structure aiZ (m m':Mk) (l':List Ob) (es:List gR) (g:gR) (r:Rec):Prop where
  img:Img m' l' (es ++ [g])
  rcd:NF m' g r
  ext:pO m.ai m'.ai
  c:m'.c=m.c
  seq:r.seq=m.cT 9+1∧m'.cT 9=r.seq
  ge:m.b.length≤g.bn
  main:∃t,m'.main=m.main ++ t
  len:m.b.length≤m'.b.length
  cT:∀i,i≤5→m'.cT i=m.cT i
theorem HF {m m':Mk} {l:List Ob} {es:List gR} {raw:List Pr} {cr mono s:Nat} {bV:Ly} (h:Img m l es) (ok:wu m) (h20:m.h.n.length=20) (hb:bV.length=16) (hr:cr<18446744073709551616∧mono<18446744073709551616) (ha:m.append raw cr mono bV=(s,0,m')) :
    ∃l' g fs,kZ raw=(fs,0)∧aiZ m m' l' es g {seq:=s,cr:=cr,mono:=mono,bV:=bV,aj:=fs}:=by
  rcases hl:kZ raw with⟨fs,c⟩
  by_cases I:c≠0
  · have e:m.append raw cr mono bV=(0,c,m):=by unfold Mk.append;simp only[hl];rw[if_pos I]
    rw[e]at ha
    exact absurd (congrArg (fun x=>x.2.1) ha) I
  have Al:=Classical.not_not.1 I
  subst Al
  by_cases h3:m.cT 9=18446744073709551615
  · have e:m.append raw cr mono bV=(0,1,m):=by unfold Mk.append;simp only[hl];rw[if_neg I,if_pos h3]
    rw[e]at ha
    have:=congrArg (fun x=>x.2.1) ha
    simp at this
  obtain⟨J,A,Bj,Av,Aw⟩:=vu hl
  obtain⟨bd,_⟩:=uz hl
  have D:=vh fs m [] [] 0 (qx ok) bd
  obtain⟨l1,T,W⟩:=ye fs [] m l [] [] es (es.map gR.bn) (places es) h.c (fun i F=>FL h.who i F) ⟨q,by simp,by simp,List.Pairwise.nil⟩ bd (by rw[List.nil_append];exact zw J A)
  have nl:=yN fs m [] []
  have tx:=CG fs m [] []
  rcases hd:iH fs m [] []with⟨ps,G,x⟩
  rw[hd,Nat.zero_add]at D
  rw[hd]at T W nl tx
  rw[List.nil_append]at W
  simp only at D T W nl tx
  have s1:=ok.small
  have s4:=ok.nb
  have d2:=D.app.le
  have d5:=D.len.1
  have Ag:=D.app.ge
  obtain⟨c1,c2,w⟩:=T.same
  have n9:x.cT 9=m.cT 9:=w 9 Om Om Om
  have n8:x.cT 8=m.cT 8:=w 8 Om Om Om
  have O:=h.n8
  have Ca:=h.n9
  have B9:es.length≤40000:=by
    have:m.n8=es.length:=O
    omega
  have Ap:=HJ W.HG
  have B:(x.cT 9+1)%18446744073709551616=m.cT 9+1:=by rw[n9];exact Nat.mod_eq_of_lt Oh
  generalize hE:({seq:=(x.cT 9+1)%18446744073709551616,cr:=cr,mono:=mono,bV:=bV,xor:=nk 0 ps,aD:=jG x G}:gH)=E
  have eE:E.seq=m.cT 9+1∧E.cr=cr∧E.mono=mono∧E.bV=bV∧E.xor=nk 0 ps∧E.aD=jG x G:=by subst hE;exact⟨B,q,q,q,q,q⟩
  obtain⟨q1,q2,q3,q4,q5,q6⟩:=eE
  have ei:E.aD.length=G.length:=by rw[q6];simp[jG]
  have eb:E.bV.length=16:=by rw[q4];exact hb
  have wx:vH x ⟨x.b.length,E,G⟩:=by
    refine⟨W.lt,q6,W.HG,?_,⟨⟨?_,?_,?_,eb,?_⟩,?_⟩,?_⟩
    · simp only;rw[q5];exact aaH W.perm.symm 0
    · simp only;rw[q1];omega
    · simp only;rw[q2];exact hr.1
    · simp only;rw[q3];exact hr.2
    · simp only;rw[q5];exact XJ _ _ Om
    · simp only;rw[q1];omega
    · simp only;rw[d5];exact⟨List.length_pos_iff.2 Aw,Av⟩
  have rx:NF x ⟨x.b.length,E,G⟩ {seq:=m.cT 9+1,cr:=cr,mono:=mono,bV:=bV,aj:=fs}:=by
    refine⟨q1,q2,q3,q4,?_,J,A⟩
    simp only;rw[← W.eq];exact W.perm
  have U:=T.img.entry (E:=E) (who:=G) eb Oh
  have u:=(iM x (eA E))
  have v:=fC x (eA E)
  have S:∀i,i≠6→i≠7→(x.di (eA E)).2.cT i=x.cT i:=fun i h6 h7=>by
    simp only[Mk.di]
    rw[er Oh,er Oh];rfl
  have o:=rM x (eA E)
  have el:=mH E eb
  rcases ho:x.di (eA E)with⟨e,C⟩
  rw[ho]at U u v S o
  simp only at U u v S o
  have Am:e=x.b.length:=u.1
  subst Am
  have f:C.cT 8=(es.map gR.bn).length:=by rw[S 8 Om Om,n8,O,List.length_map]
  have Cb:x.b.length<100000:=by omega
  obtain⟨l3,L⟩:=LF (x:=x.b.length) U.fq.eU U.main (rJ _) (by have:=u.2.1;omega) Oh
  rw[← f]at L
  have p:=LI C C.main (C.cT 8) 176 x.b.length
  rcases hk:C.link C.main (C.cT 8) 176 x.b.length with⟨a,t,K⟩
  rw[hk]at L p
  simp only at L p
  have hz:=kL (cr:=cr) (mono:=mono) (bV:=bV) hl I h3 hd (by rw[hE];exact ho) hk q
  obtain⟨Y,X⟩:∃Y,Y=(let m4:=({K with main:=a}:Mk).dX 11 (a.getD 0 0);({m4 with h:={m4.h with eu:=jX a%4294967296,eC:=t%4294967296}}:Mk)):=⟨_,q⟩
  have P:∀i,i≠11→Y.cT i=K.cT i:=fun i F=>by subst X;exact bB Oh
  have Ae:Y.cT 11=a.getD 0 0:=by subst X;exact nD (by show 11<K.h.n.length;omega)
  have Ys:Y.b=K.b∧Y.c=K.c∧Y.ai=K.ai∧Y.aj=K.aj∧Y.main=a∧Y.h.n.length=K.h.n.length:=by subst X;exact⟨q,q,q,q,q,by simp[Mk.dX]⟩
  rw[← X]at hz
  clear X
  obtain⟨y1,y2,y3,y4,y5,y6⟩:=Ys
  have I3:=U.link L y1 y2 y3 y4 y5 ⟨P 2 Om,P 4 Om⟩ (fun c=>c.to y6 fun i F=>P i Oh)
  obtain⟨t1,t2,t3,t4,t5,t6⟩:=L.same
  have Bk:=L.top
  have M:Y.ai=x.ai:=by rw[y3,t2,v.2.1]
  have Ao:x.b.length<18446744073709551616:=by omega
  have Bn:=u.2.1
  obtain⟨l4,H⟩:=OG (e:=x.b.length) Ao G Y l3 _ I3 (fun i F=>by rw[M];exact W.lt i F) Ap (fun i _=>by have:=FK es i;omega) (by rw[y1];omega)
  have Ci:=EH x.b.length G Y
  generalize kX x.b.length G Y=z at *
  replace hz:m.append raw cr mono bV=if z.c.bY<z.b.length then(0,15,m)else((x.cT 9+1)%18446744073709551616,0,oc z (C.cT 8) ((x.cT 9+1)%18446744073709551616) cr mono x.b.length bV):=hz
  rw[hz]at ha
  split at ha
  · have:=congrArg (fun x=>x.2.1) ha;simp at this
  obtain⟨k1,kz2,kz3,kz4,kz5,R2,R4,kl,kz8⟩:=vm z (C.cT 8) ((x.cT 9+1)%18446744073709551616) cr mono x.b.length bV
  have k5':=fun i (F:i≤5)=>um z (C.cT 8) ((x.cT 9+1)%18446744073709551616) cr mono x.b.length bV i Oh
  have kN:=fun i (F:i≠8∧i≠9∧i≠10∧i≠12∧i≠13∧i≠14)=>um z (C.cT 8) ((x.cT 9+1)%18446744073709551616) cr mono x.b.length bV i F
  have Aq:=abJ z (C.cT 8) ((x.cT 9+1)%18446744073709551616) cr mono x.b.length bV
  have Ar:=um z (C.cT 8) ((x.cT 9+1)%18446744073709551616) cr mono x.b.length bV 11 Om
  obtain⟨Z,Aj⟩:=Prod.mk.inj ha
  have Ak:=(Prod.mk.inj Aj).2
  rw[B]at Z
  generalize oc z (C.cT 8) ((x.cT 9+1)%18446744073709551616) cr mono x.b.length bV=R at *
  subst Ak
  subst Z
  obtain⟨z1,z2,z3,z4,z5⟩:=H.same
  have zl:z.h.n.length=20:=by omega
  have R8:=(kz8 zl).1
  have R9:=(kz8 zl).2
  have z8:z.cT 8=es.length:=by rw[z5 8 Om Om Om,P 8 Om,t6 8 Om Om Om,S 8 Om Om,n8,O]
  have Ah:pO x.ai z.ai:=by have:=H.ds.ext;rw[M]at this;exact this
  have N:pO x.ai R.ai:=by rw[kz3];exact Ah
  have cR:R.c=x.c:=by rw[kz2,z1,y2,t1,v.1]
  have V:pO m.ai R.ai:=T.ext.trans N
  refine⟨l4,⟨x.b.length,E,G⟩,fs,q,⟨⟨?_,?_,?_,?_,?_,?_,?_⟩,rx.ext wx N,V,by rw[cR,c1],⟨q,by rw[R9,B]⟩,Ag,?_,?_,fun i F=>?_⟩⟩
  · have:=H.img.to (m':=R) k1 kz2 kz3 kz4 kz5 ⟨R2,R4⟩ (fun c=>c.to kl fun i F=>kN i Oh)
    rw[List.map_append]
    have ef:places (es ++ [⟨x.b.length,E,G⟩])=fun j=>if j∈G then places es j ++ [x.b.length]else places es j:=funext fun j=>SR es ⟨x.b.length,E,G⟩ j
    rw[ef]
    exact this
  · show R.n8=_
    rw[R8,show z.n8=es.length from z8,List.length_append,Nat.mod_eq_of_lt Oh]
    rfl
  · rw[R9,B];omega
  · rw[Ar,kz5,z5 11 Om Om Om,Ae,z3,y5]
  · rw[Aq zl,f,List.length_map,z5 10 Om Om Om,P 10 Om,t6 10 Om Om Om,S 10 Om Om,w 10 Om Om Om,h.n10]
    cases es with
    | nil=>simp only[List.length_nil,if_true,List.nil_append,List.head?_cons,Option.map_some,Option.getD_some];rw[q1,B]
    | cons y r=>simp
  · intro g Q
    rcases List.mem_append.1 Q with Q|Q
    · exact(h.who g Q).ext V (by rw[cR,c1])
    simp at Q;subst Q
    exact wx.ext N cR
  · intro k hk
    rw[kz3]at hk
    obtain⟨i,F⟩:=List.mem_iff_getElem?.1 hk
    obtain⟨k0,h0,_,ht⟩:=H.ds.get i k F
    rw[M]at h0
    rcases tx k0 (List.mem_of_getElem? h0)with h1|⟨qv,h1,I⟩
    · obtain⟨qv,I,h3⟩:=h.txt k0 h1
      exact⟨qv,I,ht.trans h3⟩
    exact⟨qv,A qv h1,ht.trans I⟩
  · rw[kz5,z3,y5]
    have d:C.main=m.main:=by rw[v.2.2.2,c2]
    rcases L.arr with e|e
    · exact⟨[],by rw[e,d,List.append_nil]⟩
    exact⟨_,by rw[e,d]⟩
  · rw[k1]
    have h1:=L.me.len
    have I:=H.ge
    rw[y1]at I
    omega
  rw[k5' i F,z5 i Oh Oh Oh,P i Oh,t6 i Oh Oh Oh,S i Oh Oh,w i Oh Oh Oh]
end Go.Wk
namespace Go.Wk
open Go Go.RowKit
def hk (m:Mk):Nat × Nat × Nat × List UInt8:=(m.h.iG,m.h.bW,m.h.state,m.h.cG)
theorem ajZ {m M:Mk} (h:M.h=m.h):hk M=hk m:=by unfold hk;rw[h]
theorem VJ (m:Mk) (l:List aZ) (t p s:Nat):hk (m.hang l t p s).2=hk m:=by unfold hk;rw[(AI m l t p s).1]
theorem acd (m:Mk) (x:Ly):hk (m.field x).2=hk m:=by
  unfold Mk.field
  split
  · rfl
  simp only
  have B:hk (m.di (iv {cQ:=dW m.c.dx m.c.cG x,bT:=0,dat:=0,ak:=x})).2=hk m:=rfl
  generalize m.di (iv {cQ:=dW m.c.dx m.c.cG x,bT:=0,dat:=0,ak:=x})=r at *
  obtain⟨p,A⟩:=r
  simp only at B ⊢
  have C:=VJ A A.aj (A.cT 4) p (dW m.c.dx m.c.cG x%A.c.aA)
  generalize A.hang A.aj (A.cT 4) p (dW m.c.dx m.c.cG x%A.c.aA)=r at *
  obtain⟨n,D⟩:=r
  exact C.trans B
theorem afq (m:Mk) (x:Pr):hk (m.data x).2=hk m:=by
  unfold Mk.data
  split
  · rfl
  simp only
  have C:hk (m.di (jc {cQ:=dW m.c.dx m.c.cG (ak x),bT:=0,eH:=0,entry:=0,array:=0,bR:=0,ak:=ak x})).2=hk m:=rfl
  generalize m.di (jc {cQ:=dW m.c.dx m.c.cG (ak x),bT:=0,eH:=0,entry:=0,array:=0,bR:=0,ak:=ak x})=r at *
  obtain⟨p,A⟩:=r
  simp only at C ⊢
  have D:=VJ A A.ai (A.cT 2) p (dW m.c.dx m.c.cG (ak x)%A.c.ay)
  generalize A.hang A.ai (A.cT 2) p (dW m.c.dx m.c.cG (ak x)%A.c.ay)=r at *
  obtain⟨n,B⟩:=r
  simp only at D ⊢
  generalize hx5:({(B.dX 19 (max (B.cT 19) n)).dX 15 (((B.dX 19 (max (B.cT 19) n)).cT 15+1)%18446744073709551616)with ai:=((B.dX 19 (max (B.cT 19) n)).dX 15 (((B.dX 19 (max (B.cT 19) n)).cT 15+1)%18446744073709551616)).ai ++ [({cA:=ak x,bn:=p,cO:=dW m.c.dx m.c.cG (ak x)%A.c.ay,bR:=0,bw:=[]}:aZ)]}:Mk)=m5
  have E:hk m5=hk B:=by subst hx5;rfl
  have F:=acd m5 x.name
  generalize m5.field x.name=r at *
  obtain⟨k,G⟩:=r
  exact F.trans (E.trans (D.trans C))
theorem IJ:∀(l:List Pr) (m:Mk) (ps:List (List UInt8)) (od:List Nat),hk (iH l m ps od).2.2=hk m
  | [],_,_,_=>rfl
  | x :: r,m,ps,od=>(IJ r _ _ _).trans (afq m x)
theorem VK (m:Mk) (a:List Nat) (n src iI:Nat):hk (m.link a n src iI).2.2=hk m:=by
  unfold Mk.link
  generalize gC a 0 0 0=r
  obtain⟨A,C⟩:=r
  simp only
  split
  · have B:hk (m.di (gE {next:=0,aD:=List.replicate (eP (a.length:Int)) 0})).2=hk m:=rfl
    generalize m.di (gE {next:=0,aD:=List.replicate (eP (a.length:Int)) 0})=r at *
    obtain⟨p,D⟩:=r
    simp only at B ⊢
    split
    · exact B
    exact B
  rfl
theorem OI (e:Nat):∀(od:List Nat) (m:Mk),hk (kX e od m)=hk m
  | [],_=>rfl
  | i :: r,m=>by
    rw[oe,OI e r]
    unfold kM
    simp only
    split
    · exact ajZ q
    · have g:=VK m (m.ai.getD i known0).bw ((m.ai.getD i known0).bR-1) ((m.ai.getD i known0).bn+48) e
      generalize m.link (m.ai.getD i known0).bw ((m.ai.getD i known0).bR-1) ((m.ai.getD i known0).bn+48) e=r at *
      obtain⟨a,t,m1⟩:=r
      exact(ajZ q).trans g
theorem afr (z:Mk) (n seq cr mono e:Nat) (bV:Ly):hk (oc z n seq cr mono e bV)=hk z:=by
  unfold oc
  simp only
  generalize hy:(if n=0 then(z.dX 10 seq).dX 12 cr else z)=y
  have:hk y=hk z:=by subst hy;split <;> rfl
  exact this
theorem yD (m:Mk) (raw:List Pr) (cr mono:Nat) (bV:Ly):hk (m.append raw cr mono bV).2.2=hk m∧((m.append raw cr mono bV).2.1≠0→(m.append raw cr mono bV).2.2=m):=by
  rcases hl:kZ raw with⟨l,c⟩
  by_cases h2:c≠0
  · have e:m.append raw cr mono bV=(0,c,m):=by unfold Mk.append;simp only[hl];rw[if_pos h2]
    rw[e];exact⟨q,fun _=>rfl⟩
  by_cases h3:m.cT 9=18446744073709551615
  · have e:m.append raw cr mono bV=(0,1,m):=by unfold Mk.append;simp only[hl];rw[if_neg h2,if_pos h3]
    rw[e];exact⟨q,fun _=>rfl⟩
  have E:=IJ l m [] []
  rcases hd:iH l m [] []with⟨I,D,x⟩
  rw[hd]at E
  have F:hk (x.di (eA {seq:=(x.cT 9+1)%18446744073709551616,cr:=cr,mono:=mono,bV:=bV,xor:=nk 0 I,aD:=jG x D})).2=hk x:=rfl
  rcases ho:x.di (eA {seq:=(x.cT 9+1)%18446744073709551616,cr:=cr,mono:=mono,bV:=bV,xor:=nk 0 I,aD:=jG x D})with⟨e,A⟩
  rw[ho]at F
  have G:=VK A A.main (A.cT 8) 176 e
  rcases hk3:A.link A.main (A.cT 8) 176 e with⟨a,t,C⟩
  rw[hk3]at G
  simp only at E F G
  have B:m.append raw cr mono bV=_:=kL (cr:=cr) (mono:=mono) (bV:=bV) hl h2 h3 hd ho hk3 q
  have H:=OI e D (let m4:=({C with main:=a}:Mk).dX 11 (a.getD 0 0);{m4 with h:={m4.h with eu:=jX a%4294967296,eC:=t%4294967296}})
  have J:hk (let m4:=({C with main:=a}:Mk).dX 11 (a.getD 0 0);({m4 with h:={m4.h with eu:=jX a%4294967296,eC:=t%4294967296}}:Mk))=hk C:=rfl
  rw[J]at H
  generalize kX e D (let m4:=({C with main:=a}:Mk).dX 11 (a.getD 0 0);{m4 with h:={m4.h with eu:=jX a%4294967296,eC:=t%4294967296}})=z at B H
  replace B:m.append raw cr mono bV=if z.c.bY<z.b.length then(0,15,m)else((x.cT 9+1)%18446744073709551616,0,oc z (A.cT 8) ((x.cT 9+1)%18446744073709551616) cr mono e bV):=B
  rw[B]
  split
  · exact⟨q,fun _=>rfl⟩
  refine⟨?_,fun h=>absurd q h⟩
  show hk (oc _ _ _ _ _ _ _)=_
  rw[afr,H,G,F,E]
theorem TM (n:Nat):qg (List.replicate n {first:=0,tail:=0})=nums (List.replicate (2*n) 0):=by
  induction n with
  | zero=>rfl
  | succ n ih =>
    rw[List.replicate_succ,qg,ih,show 2*(n+1)=(2*n+1)+1 by omega,List.replicate_succ,List.replicate_succ]
    simp[nums]
theorem ag7 {k:Nat} (hk:k=4∨k=5) (n:Nat):(∃r,fE k (List.replicate n {first:=0,tail:=0})=Rz k (16+16*n) ++ r)∧(fE k (List.replicate n {first:=0,tail:=0})).length=16+16*n ∧
    ∀i,i<2*n→eY (fE k (List.replicate n {first:=0,tail:=0})) (16+8*i)=0:=by
  have e:fE k (List.replicate n {first:=0,tail:=0})=qp k (nums (List.replicate (2*n) 0) ++ []):=by
    unfold fE;rw[if_neg Oh,TM,List.append_nil]
  obtain⟨A,B,C,_⟩:=acB (k:=k) Oh (List.replicate (2*n) 0) [] (fun v E=>by rw[(List.mem_replicate.1 E).2];decide)
  rw[← e]at A B C
  simp only[List.length_replicate,List.length_nil,Nat.add_zero]at A B
  rw[show 16+8*(2*n)=16+16*n by omega]at A B
  exact⟨A,by rw[B];unfold mO;omega,fun i D=>C i 0 (by rw[List.getElem?_replicate,if_pos D])⟩
def rP (c:nV):List Ob:=[⟨272,4,16+16*c.ay⟩,⟨288+16*c.ay,5,16+16*c.aA⟩]
structure agI (m:Mk):Prop where
  hk:hk m=(2,if m.c.dx then 4 else 0,1,m.c.cG)
  n0:m.cT 0=272
  n3:m.cT 3=16*m.c.ay
  n5:m.cT 5=16*m.c.aA
theorem PK {c:nV} {t:Nat} (h:c.ay≤10∧c.aA≤10) (h1:1≤c.ay∧1≤c.aA) (ht:t<1000000):Img (ja c t) (rP c) []∧agI (ja c t)∧(ja c t).cT 9=t:=by
  obtain⟨⟨T,J⟩,K,_⟩:=ag7 (k:=4) (.inl q) c.ay
  obtain⟨⟨U,L⟩,M,_⟩:=ag7 (k:=5) (.inr q) c.aA
  have E:(ja c t).b=List.replicate 272 0 ++ fE 4 (List.replicate c.ay {first:=0,tail:=0}) ++ fE 5 (List.replicate c.aA {first:=0,tail:=0}):=rfl
  have A:(ja c t).h.n=(((((((((List.replicate 20 0).set 0 272).set 2 288).set 3 (16*c.ay)).set 4 ((List.replicate 272 (0:UInt8) ++ fE 4 (List.replicate c.ay {first:=0,tail:=0})).length+16)).set 5 (16*c.aA)).set 6 ((List.replicate 272 (0:UInt8) ++ fE 4 (List.replicate c.ay {first:=0,tail:=0})).length)).set 7 2).set 9 t):=rfl
  have D:(List.replicate 272 (0:UInt8) ++ fE 4 (List.replicate c.ay {first:=0,tail:=0})).length=288+16*c.ay:=by rw[List.length_append,List.length_replicate,K];omega
  have O:(ja c t).b.length=304+16*c.ay+16*c.aA:=by rw[E,List.length_append,D,M];omega
  rw[D]at A
  have cT:∀i,(ja c t).cT i=(ja c t).h.n.getD i 0:=fun _=>rfl
  generalize hT4:fE 4 (List.replicate c.ay {first:=0,tail:=0})=T4 at *
  generalize hT5:fE 5 (List.replicate c.aA {first:=0,tail:=0})=T5 at *
  have Q:seg (ja c t).b 272 16=Rz 4 (16+16*c.ay):=by
    rw[E,List.append_assoc,jk (by rw[List.length_replicate];exact Nat.le_refl _),List.length_replicate,Nat.sub_self,J,List.append_assoc]
    exact mJ _ _ (kS _ _).symm
  have R:seg (ja c t).b (288+16*c.ay) 16=Rz 5 (16+16*c.aA):=by
    rw[E,jk Oh,D,Nat.sub_self,L]
    exact mJ _ _ (kS _ _).symm
  have S:mO (16+16*c.ay)=16+16*c.ay:=by unfold mO;omega
  have u5:mO (16+16*c.aA)=16+16*c.aA:=by unfold mO;omega
  have N:gB (ja c t).b 272 (rP c) (ja c t).b.length:=by
    refine⟨q,by simp,by simp,by simp only;omega,by simp only;omega,Q,?_⟩
    simp only[S]
    rw[show 272+(16+16*c.ay)=288+16*c.ay by omega]
    refine⟨q,by simp,by simp,by simp only;omega,by simp only;omega,R,?_⟩
    simp only[u5,gB]
    rw[O];omega
  have B:(ja c t).ai=[]:=rfl
  have P:(ja c t).aj=[]:=rfl
  have H:(ja c t).main=[]:=rfl
  have F:(ja c t).c=c:=rfl
  have G:Cn (ja c t) (rP c):=by
    refine⟨by rw[A];simp,by rw[cT,A,rP];rfl,by rw[cT,A];rfl,by rw[cT,A];rfl,by rw[cT,A];simp[rP],fun o I=>?_⟩
    simp[rP]at I
    rcases I with rfl|rfl
    · exact⟨by simp,by simp,fun _=>⟨c.ay,h1.1,q⟩⟩
    · exact⟨by simp,by simp,fun _=>⟨c.aA,h1.2,q⟩⟩
  have C:eY (ja c t).b 176=0:=by
    rw[E,ve (by rw[D];omega),ve (by rw[List.length_replicate];omega)]
    show vM (((List.replicate 272 0).drop 176).take 8)=0
    rw[List.drop_replicate,List.take_replicate]
    rfl
  refine⟨⟨⟨⟨N,by rw[F];simp[rP],by rw[F];simp[rP],by rw[cT,A];rfl,by rw[cT,A];simp only[F];show _+16=_;omega,by rw[F];exact h1,by rw[B];simp,by rw[P];simp,by rw[B];simp,by simp[rP],by simp[rP],G⟩,?_,by rw[B];simp,⟨by rw[B];simp,by rw[B];simp⟩,by simp,by simp[rP]⟩,by rw[cT,A];rfl,by rw[cT,A];show t<_;omega,by rw[cT,A,H];rfl,by rw[cT,A];rfl,by simp,by rw[B];simp⟩,⟨q,by rw[cT,A];rfl,by rw[cT,A];rfl,by rw[cT,A];rfl⟩,by rw[cT,A];rfl⟩
  rw[H]
  exact⟨C,by simp,by simp,by simp,by simp,Nat.le_refl _,Nat.le_refl _⟩
end Go.Wk
namespace Go.Wk
open Go Go.RowKit
structure pP (m:Mk) (l:List Ob) (es:List gR) (rs:List Rec):Prop where
  img:Img m l es
  ok:wu m
  h20:m.h.n.length=20
  hd:agI m
  len:es.length=rs.length
  rcd:∀(i:Nat) (g:gR) (r:Rec),es[i]? = some g→rs[i]? = some r→NF m g r
  rise:rs.Pairwise fun a b=>a.seq<b.seq
  top:∀r∈rs,1≤r.seq∧r.seq≤m.cT 9
structure BH (m m':Mk) (es es':List gR) (rs rs':List Rec):Prop where
  es:∃t,es'=es ++ t
  rs:∃t,rs'=rs ++ t
  main:∃t,m'.main=m.main ++ t
  ext:pO m.ai m'.ai
  c:m'.c=m.c
  len:m.b.length≤m'.b.length
  cT:∀i,i≤5→m'.cT i=m.cT i
theorem BH.refl (m:Mk) (es:List gR) (rs:List Rec):BH m m es es rs rs:=⟨⟨[],by simp⟩,⟨[],by simp⟩,⟨[],by simp⟩,pO.refl _,q,Nat.le_refl _,fun _ _=>rfl⟩
theorem BH.trans {a b c:Mk} {es es' es'':List gR} {rs rs' rs'':List Rec} (h:BH a b es es' rs rs') (k:BH b c es' es'' rs' rs''):BH a c es es'' rs rs'':=by
  obtain⟨H,B⟩:=h.es;obtain⟨K,E⟩:=k.es
  obtain⟨I,C⟩:=h.rs;obtain⟨L,F⟩:=k.rs
  obtain⟨J,D⟩:=h.main;obtain⟨u3,G⟩:=k.main
  exact⟨⟨H ++ K,by rw[E,B,List.append_assoc]⟩,⟨I ++ L,by rw[F,C,List.append_assoc]⟩,⟨J ++ u3,by rw[G,D,List.append_assoc]⟩,h.ext.trans k.ext,k.c.trans h.c,ly h.len k.len,fun i A=>(k.cT i A).trans (h.cT i A)⟩
theorem E1 {x fs:List Pr} (h:kZ x=(fs,0)) (ha:Asc x):fs=x:=by
  obtain⟨A,_,B,_⟩:=vu h
  exact UF A ha B
theorem VI:∀(l o x:List Pr) (c:Nat),Ry l o=(x,c)→c≠0→x=[]
  | [],o,x,c,h,hc=>by
    unfold Ry at h
    split at h
    · exact(Prod.mk.inj h).1.symm
    · exact absurd (Prod.mk.inj h).2.symm hc
  | p :: r,o,x,c,h,hc=>by
    unfold Ry at h
    split at h
    · exact(Prod.mk.inj h).1.symm
    · exact VI r _ x c h hc
theorem Z8 (l:List Pr):Asc (kZ l).1:=by
  rcases h:kZ l with⟨x,c⟩
  by_cases hc:c=0
  · subst hc;exact(vu h).1
  unfold kZ at h
  split at h
  · rw[← (Prod.mk.inj h).1];exact List.Pairwise.nil
  rw[VI _ _ _ _ h hc];exact List.Pairwise.nil
theorem BK {α:Type} {l:List α} {p a:α} {k:Nat} (h:(l ++ [p])[k]? = some a):(k<l.length∧l[k]? = some a)∨(k=l.length∧a=p):=by
  rcases Nat.lt_or_ge k l.length with hk|hk
  · rw[List.getElem?_append_left hk]at h;exact .inl ⟨hk,h⟩
  have B:=(List.getElem?_eq_some_iff.1 h).1
  simp at B
  rw[List.getElem?_append_right hk,show k-l.length=0 by omega]at h
  exact .inr ⟨by omega,by simpa using h.symm⟩
theorem XG {m m':Mk} {l:List Ob} {es:List gR} {rs:List Rec} {r:Rec} {s:Nat} (h:pP m l es rs) (hr:r.seq=(m.cT 9+1)%18446744073709551616) (hb:r.bV.length=16) (hn:r.cr<18446744073709551616∧r.mono<18446744073709551616) (hf:Asc r.aj) (ha:m.append r.aj r.cr r.mono r.bV=(s,0,m')) :
    ∃l' es',pP m' l' es' (rs ++ [r])∧BH m m' es es' rs (rs ++ [r]):=by
  have C:=yM m r.aj r.cr r.mono r.bV
  have ok':=xY (raw:=r.aj) (cr:=r.cr) (mono:=r.mono) h.ok hb (C.trans h.h20)
  have D:=(yD m r.aj r.cr r.mono r.bV).1
  rw[ha]at C ok' D
  obtain⟨l',g,S,O,A⟩:=HF h.img h.ok h.h20 hb hn ha
  have H:=E1 O hf
  subst H
  have T:=h.img.n9
  have P:s=m.cT 9+1:=A.seq.1
  have n9':m'.cT 9=s:=A.seq.2
  have R:=A.img.n9
  have F:r.seq=s:=by rw[hr,P];exact Nat.mod_eq_of_lt Oh
  have I:({seq:=s,cr:=r.cr,mono:=r.mono,bV:=r.bV,aj:=r.aj}:Rec)=r:=by cases r;simp only at F;subst F;rfl
  have A':=A.rcd
  rw[I]at A'
  refine⟨l',es ++ [g],⟨A.img,ok',C.trans h.h20,⟨?_,?_,?_,?_⟩,by simp[h.len],fun i J Q N E=>?_,?_,fun y B=>?_⟩,⟨⟨_,q⟩,⟨_,q⟩,A.main,A.ext,A.c,A.len,A.cT⟩⟩
  · rw[D,h.hd.hk,A.c]
  · rw[A.cT 0 Om];exact h.hd.n0
  · rw[A.cT 3 Om,A.c];exact h.hd.n3
  · rw[A.cT 5 Om,A.c];exact h.hd.n5
  · rcases BK N with⟨M,K⟩|⟨M,rfl⟩
    · rcases BK E with⟨_,G⟩|⟨G,_⟩
      · exact(h.rcd i J Q K G).ext (h.img.who J (List.mem_of_getElem? K)) A.ext
      have:=h.len;omega
    rcases BK E with⟨G,_⟩|⟨_,rfl⟩
    · have:=h.len;omega
    exact A'
  · refine List.pairwise_append.2 ⟨h.rise,by simp,fun y B z L=>?_⟩
    simp at L;subst L
    have:=(h.top y B).2;omega
  rw[n9']
  rcases List.mem_append.1 B with B|B
  · have:=h.top y B;omega
  simp at B;subst B;omega
theorem FX (s:Sq) (n:Nat):(s.record n).1.seq=n∧(s.record n).1.bV.length=16∧((s.record n).1.cr<18446744073709551616∧(s.record n).1.mono<18446744073709551616)∧Asc (s.record n).1.aj:=by
  refine⟨?_,zJ s n,?_⟩
  · rcases h1:s.pairs 4 with⟨F,A⟩
    rcases h2:A.cT 40 with⟨a,B⟩
    rcases h3:B.cT 9 with⟨b,C⟩
    rcases h4:C.cT 3 with⟨c,G⟩
    simp only[Sq.record,h1,h2,h3,h4]
  rcases h1:s.pairs 4 with⟨F,A⟩
  rcases h2:A.cT 40 with⟨a,B⟩
  rcases h3:B.cT 9 with⟨b,C⟩
  rcases h4:C.cT 3 with⟨c,G⟩
  have D:=A.kG 40
  have E:=B.kG 9
  rw[h2]at D;rw[h3]at E
  simp only[Sq.record,h1,h2,h3,h4]
  simp only at D E
  exact⟨by omega,Z8 F⟩
theorem IV:∀(n:Nat) (s:Sq) (m:Mk) (l:List Ob) (es:List gR) (rs:List Rec),pP m l es rs →
    ∃l' es',pP (jH n s m rs).1 l' es' (jH n s m rs).2.1∧BH m (jH n s m rs).1 es es' rs (jH n s m rs).2.1∧(jH n s m rs).2.1.length≤rs.length+n
  | 0,s,m,l,es,rs,h=>⟨l,es,h,BH.refl _ _ _,Nat.le_refl _⟩
  | n+1,s,m,l,es,rs,h=>by
    unfold jH
    split
    · have hr:=FX s ((m.cT 9+1)%18446744073709551616)
      rcases hrec:s.record ((m.cT 9+1)%18446744073709551616)with⟨r,s1⟩
      rw[hrec]at hr
      have hk:=(yD m r.aj r.cr r.mono r.bV).2
      rcases ha:m.append r.aj r.cr r.mono r.bV with⟨e,c,m1⟩
      rw[ha]at hk
      simp only[ha]
      split
      · rename_i hc
        have:=hk hc
        simp only at this
        subst this
        exact⟨l,es,h,BH.refl _ _ _,Nat.le_add_right _ _⟩
      · rename_i hc
        have hc0:c=0:=Classical.not_not.1 hc
        subst hc0
        obtain⟨l1,es1,g1,g2⟩:=XG h hr.1 hr.2.1 hr.2.2.1 hr.2.2.2 ha
        obtain⟨l',es',k1,kz2,kz3⟩:=IV n s1 m1 l1 es1 _ g1
        exact⟨l',es',k1,g2.trans kz2,by rw[List.length_append]at kz3;simp only[List.length_singleton]at kz3;omega⟩
    · exact⟨l,es,h,BH.refl _ _ _,Nat.le_add_right _ _⟩
theorem acu {s s':Sq} {bY:Nat} {m:Mk} {rs:List Rec} (h:s.pZ bY=(m,rs,s')):∃l es,pP m l es rs∧rs.length≤bY:=by
  have A:=vg s
  rcases h1:s.config with⟨c,E⟩
  rcases h2:E.cT 6 with⟨t,H⟩
  rw[h1]at A
  have B:=E.kG 6
  rw[h2]at B
  simp only at B A
  simp only[Sq.pZ,h1,h2]at h
  obtain⟨F,G,I⟩:=PK (c:=c) (t:=t) A.1 A.2.1 Oh
  obtain⟨l,es,C,_,D⟩:=IV bY H (ja c t) (rP c) [] [] ⟨F,xB A.1 A.2.1 A.2.2,q,G,q,by simp,List.Pairwise.nil,by simp⟩
  rw[h]at C D
  exact⟨l,es,C,by simpa using D⟩
end Go.Wk
namespace Go.Wk
open Go Go.RowKit
def JP (aD:List Nat) (c r:Nat):List Nat:=(List.range r).map fun j=>aD.getD (c+j) 0
theorem TB (aD:List Nat) (c r:Nat):JP aD c (r+1)=aD.getD c 0 :: JP aD (c+1) r:=by
  unfold JP
  rw[List.range_succ_eq_map,List.map_cons,List.map_map]
  congr 1
  exact List.map_congr_left fun j _=>by simp only[Function.comp];congr 1;omega
theorem ah5 {b:Ly} {l:List Ob} {src:Nat} {av aD:List Nat} (h:Chain b l src av aD) (hO:gB b 272 l b.length) {k a:Nat} (ha:av[k]? = some a):iY 272 b a=({next:=av.getD (k+1) 0,aD:=JP aD (pI k) (eP (k:Int))},0):=by
  have D:=hO.mem (h.ob k a ha)
  have C:=h.le hO ha
  have E:=si (k:=(k:Int)) Oh
  have A:=rC D Om Lw
  simp only at A
  unfold iY
  rw[if_neg Oh]
  unfold lg
  rw[A]
  simp only
  rw[if_neg Oq,if_neg Oq,if_neg Oh,show(24+8*eP (k:Int)-24)/8=eP (k:Int)by omega,h.next k a ha]
  congr 2
  unfold gN JP
  exact List.map_congr_left fun j B=>h.iI k a j ha (List.mem_range.1 B)
structure wR (b:Ly) (aD:List Nat):Prop where
  ok:∀x∈aD,x≠0∧x<b.length
  HG:aD.Pairwise (· < ·)
theorem wR.get {b:Ly} {aD:List Nat} (h:wR b aD) {i:Nat} (hi:i<aD.length):aD.getD i 0≠0∧aD.getD i 0<b.length:=by
  have:aD.getD i 0∈aD:=by rw[List.getD_eq_getElem?_getD,List.getElem?_eq_getElem hi];exact List.getElem_mem hi
  exact h.ok _ this
theorem wR.lt {b:Ly} {aD:List Nat} (h:wR b aD) {i j:Nat} (hij:i<j) (hj:j<aD.length):aD.getD i 0<aD.getD j 0:=by
  rw[List.getD_eq_getElem?_getD,List.getD_eq_getElem?_getD,List.getElem?_eq_getElem Oh,List.getElem?_eq_getElem hj]
  exact List.pairwise_iff_getElem.1 h.HG i j Oh hj hij
theorem aa4 {aD:List Nat} {c:Nat} (h0:0<c) (hc:c≤aD.length):uw (aD.take c)=aD.getD (c-1) 0:=by
  unfold uw
  rw[List.getLast?_eq_getElem?,List.length_take,List.getElem?_take,Nat.min_eq_left hc,if_pos Oh,List.getD_eq_getElem?_getD]
theorem afw {b:Ly} {aD:List Nat} (h:wR b aD) {c:Nat} (hc:c<aD.length):qB (aD.take c) (aD.getD c 0)=0:=by
  unfold qB
  by_cases h0:c=0
  · subst h0;simp
  rw[aa4 Oh Oh,if_neg]
  have:=h.lt (i:=c-1) (j:=c) Oh hc
  omega
theorem TV {aD:List Nat} {c:Nat} (hc:c<aD.length):aD.take c ++ [aD.getD c 0]=aD.take (c+1):=by
  rw[List.take_add_one,List.getD_eq_getElem?_getD,List.getElem?_eq_getElem hc];rfl
theorem OC {aD:List Nat} {c:Nat} (hc:aD.length≤c):aD.getD c 0=0:=by rw[List.getD_eq_getElem?_getD,List.getElem?_eq_none hc];rfl
theorem IB {b:Ly} {aD:List Nat} {bY:Nat} (h:wR b aD):∀(r c:Nat),c≤aD.length→c≤bY →
    nA b bY (JP aD c r) (aD.take c)=if bY≤aD.length∨c+r≤aD.length then(aD.take (min bY (c+r)),0)else(aD,2)
  | 0,c,hc,hm=>by
    show(aD.take c,0)=_
    rw[if_pos (.inr Oh),Nat.add_zero,Nat.min_eq_right hm]
  | r+1,c,hc,hm=>by
    have hl:(aD.take c).length=c:=by rw[List.length_take];omega
    rw[TB,nA,hl]
    by_cases h1:bY≤c
    · rw[if_pos h1,if_pos (.inl Oh),Nat.min_eq_left Oh,show bY=c by omega]
    · rw[if_neg h1]
      by_cases h2:c<aD.length
      · have A:=h.get h2
        rw[if_neg Oh,afw h h2,if_neg Oq,TV h2,IB h r (c+1) Oh Oh,show c+1+r=c+(r+1)by omega]
      · rw[OC Oh,if_pos (.inl q),if_neg Oh,List.take_of_length_le Oh]
theorem CP {b:Ly} {l:List Ob} {src:Nat} {av aD:List Nat} {bY:Nat} (h:Chain b l src av aD) (hO:gB b 272 l b.length) (hi:wR b aD):∀(d k ahead:Nat),k+d=av.length→(k=0→ahead=0)→(∀j,k=j+1→av[j]? = some ahead)→min bY (pI k)≤aD.length →
    ∃c,tJ 272 b bY (av.getD k 0) ahead (aD.take (min bY (pI k)))=(aD.take (min bY aD.length),c)∧(c=0∧bY≤aD.length∨(c=2∨c=14)∧aD.length<bY)
  | d,k,ahead,hd,h0,h1,hk=>by
    have hl:(aD.take (min bY (pI k))).length=min bY (pI k):=by rw[List.length_take];omega
    have F:=h.hi
    rw[tJ,hl]
    by_cases hm:bY≤pI k
    · rw[Nat.min_eq_left hm]at hk ⊢
      rw[if_pos (Nat.le_refl _),Nat.min_eq_left Oh]
      exact⟨0,q,.inl ⟨q,hk⟩⟩
    · rw[Nat.min_eq_right Oh]at hk ⊢
      rw[if_neg Oh]
      match d with
      | 0 =>
        have C:k=av.length:=by omega
        subst C
        have:aD.length=pI av.length:=by omega
        rw[OC (Nat.le_refl _),if_pos (.inl q),← this,Nat.min_eq_right Oh]
        exact⟨14,q,.inr ⟨.inr q,by omega⟩⟩
      | d+1 =>
        obtain⟨a,A⟩:∃a,av[k]? = some a:=⟨_,List.getElem?_eq_getElem Oh⟩
        have G:=h.le hO A
        have D:=ah5 h hO A
        have E:ahead<a:=by
          by_cases hk0:k=0
          · have:=h0 hk0;omega
          · have:=h1 (k-1) Oh
            exact h.HG (k-1) ahead a this (by rw[show k-1+1=k by omega];exact A)
        rw[getD_some A,if_neg Oh,if_neg Oh,D]
        simp only
        rw[if_neg Oq,IB hi _ _ hk Oh]
        have B:pI k+eP (k:Int)=pI (k+1):=rfl
        by_cases hb:bY≤aD.length∨pI k+eP (k:Int)≤aD.length
        · rw[if_pos hb]
          simp only
          rw[if_neg Oq,B]
          exact CP h hO hi d (k+1) a Oh Oh (fun j H=>by rw[show j=k by omega];exact A) (by rw[← B];omega)
        · rw[if_neg hb]
          simp only
          rw[if_pos Oq,Nat.min_eq_right Oh,List.take_length]
          exact⟨2,q,.inr ⟨.inl q,by omega⟩⟩
theorem RS {b:Ly} {l:List Ob} {src bY:Nat} {av aD:List Nat} (h:Chain b l src av aD) (hO:gB b 272 l b.length) (hi:wR b aD) :
    ∃c,VA 272 b bY (av.getD 0 0)=(aD.take (min bY aD.length),c)∧(c=0∧bY≤aD.length∨(c=2∨c=14)∧aD.length<bY):=by
  have:=CP (bY:=bY) h hO hi av.length 0 0 Oh (fun _=>rfl) (fun j A=>by omega) (by simp[pI])
  simp only[pI,Nat.min_zero,List.take_zero]at this
  exact this
end Go.Wk
namespace Go.Wk
open Go Go.RowKit
theorem uU {m:Mk} (h:∀k∈m.ai,∃q:Pr,right q.pb=true∧k.cA=ak q) {k:aZ} (hk:k∈m.ai):1≤k.cA.length:=by
  obtain⟨q,_,A⟩:=h k hk
  have:=kP q
  rw[A];omega
def UR (m:Mk) (k:aZ) (ps:List Nat):gT:={cQ:=eK m k.cA,bT:=eY m.b (k.bn+24),eH:=eY m.b (k.bn+32),entry:=ps.getD 0 0,array:=k.bw.getD 0 0,bR:=ps.length,ak:=k.cA}
theorem ahG {m:Mk} {l:List Ob} {es:List gR} {mp:List Nat} {f:Nat→List Nat} {i:Nat} {k:aZ} (h:mQ m l es mp f) (hk:m.ai[i]? = some k) (ht:1≤k.cA.length):gm 272 m.b k.bn=(UR m k (f i),0):=by
  have G:=h.fq.eU
  have C:=h.fq.data k (List.mem_of_getElem? hk)
  have A:=h.dat i k hk
  have B:=G.mem C.ob
  have H:=eF (64+k.cA.length)
  have E:=B.ge
  have F:=B.le
  simp only at E F
  unfold gm
  rw[if_neg Oh]
  have D:=LP (k:=1) (n:=6) B Om Lw q Lw
  simp only at D
  rw[(ou D).2 Oq |>.2]
  rw[show k.bn+16+8*6=k.bn+64 by omega,show 64+k.cA.length-(16+8*6)=k.cA.length by omega,C.cA]
  congr 1
  have e:gN m.b (k.bn+16) 6=[eY m.b (k.bn+16),eY m.b (k.bn+24),eY m.b (k.bn+32),eY m.b (k.bn+40),eY m.b (k.bn+48),eY m.b (k.bn+56)]:=rfl
  rw[e,C.cQ,A.ent,A.chain.word,A.word]
  rfl
theorem ai1 {m:Mk} {l:List Ob} {es:List gR} {mp:List Nat} {f:Nat→List Nat} {i:Nat} {k:aZ} (h:mQ m l es mp f) (hk:m.ai[i]? = some k) (ht:1≤k.cA.length):gP m.c.dx m.c.cG 272 m.b k.bn=(UR m k (f i),0) :=
  WT (ahG h hk ht) (n:=eK m k.cA) q q
theorem OP:∀{l:List kg} {i:Nat} {x:kg},l[i]? = some x→x.bn<18446744073709551616→x.cQ<18446744073709551616→eY (lQ l) (16*i)=x.bn∧eY (lQ l) (16*i+8)=x.cQ
  | [],_,_,h,_,_=>by simp at h
  | y :: l,0,x,h,h1,h2=>by
    simp at h;subst h
    exact⟨mD (l:=[y.bn,y.cQ]) (i:=0) q h1,mD (l:=[y.bn,y.cQ]) (i:=1) q h2⟩
  | y :: l,i+1,x,h,h1,h2=>by
    have hl:(nums [y.bn,y.cQ]).length=16:=rfl
    obtain⟨g1,g2⟩:=OP (l:=l) (i:=i) (by simpa using h) h1 h2
    rw[lQ,iQ Oh,iQ Oh,hl,show 16*(i+1)-16=16*i by omega,show 16*(i+1)+8-16=16*i+8 by omega]
    exact⟨g1,g2⟩
theorem aij {m:Mk} {l:List Ob} {g:gR} (hs:Stat m l) (w:vH m g) (hb:m.b.length<1000000) {x:kg} (hx:x∈g.ent.aD):x.bn<18446744073709551616∧x.cQ<18446744073709551616:=by
  rw[w.aD]at hx
  obtain⟨i,A,rfl⟩:=List.mem_map.1 hx
  have B:=w.lt i A
  have hk:m.ai[i]? = some m.ai[i]:=List.getElem?_eq_getElem B
  have:=(hs.eU.mem (hs.data _ (List.mem_of_getElem? hk)).ob).le
  have:=eF (64+(m.ai[i]).cA.length)
  simp only at this ⊢
  rw[(qj hk).2]
  exact⟨by simp only at *;omega,uq _ _⟩
theorem RQ {m:Mk} {l:List Ob} {es:List gR} {mp:List Nat} {f:Nat→List Nat} {g:gR} (h:mQ m l es mp f) (w:vH m g) (hg:g∈es) (hb:m.b.length<1000000):ig 272 m.b g.bn=(g.ent,0):=by
  have Z:=h.fq.eU
  have O:=h.ent g hg
  have I:=Z.mem O.ob
  have hu:=eF (64+16*g.ent.aD.length)
  have V:=I.ge
  have W:=I.le
  have hn:g.ent.aD.length=g.who.length:=by rw[w.aD,List.length_map]
  have h3:=w.len
  obtain⟨⟨d,e,n,E,o⟩,p⟩:=w.ok
  simp only at V W
  unfold ig
  rw[if_neg Oh]
  have G:=KL (k:=3) (ahead:=48) (iI:=16) I Om Lw q Lw Lw
  simp only at G
  unfold kI
  rw[G]
  simp only
  rw[if_neg Oq]
  -- the body
  have Y:seg m.b (g.bn+16) (64+16*g.ent.aD.length-16)=nums [g.ent.seq,g.ent.cr,g.ent.mono] ++ g.ent.bV ++ nums [g.ent.xor] ++ lQ g.ent.aD:=by
    rw[QR O.seg Oh]
    unfold eA
    have H:(nums [g.ent.seq,g.ent.cr,g.ent.mono] ++ g.ent.bV ++ nums [g.ent.xor] ++ lQ g.ent.aD).length=48+16*g.ent.aD.length:=by simp[fV,vr,E];omega
    rw[xO Oh,List.append_assoc (Rz _ _),jk (by rw[kS];omega),kS,Nat.sub_self]
    exact mJ _ _ (by rw[H];omega)
  rw[Y]
  generalize hX:nums [g.ent.seq,g.ent.cr,g.ent.mono] ++ g.ent.bV ++ nums [g.ent.xor] ++ lQ g.ent.aD=X
  have B:(nums [g.ent.seq,g.ent.cr,g.ent.mono]).length=24:=rfl
  have Q:(nums [g.ent.xor]).length=8:=rfl
  have z:X.length=48+16*g.ent.aD.length:=by rw[← hX];simp[fV,vr,E];omega
  have A:X=nums [g.ent.seq,g.ent.cr,g.ent.mono] ++ (g.ent.bV ++ (nums [g.ent.xor] ++ lQ g.ent.aD)):=by rw[← hX];simp only[List.append_assoc]
  have R:eY X 0=g.ent.seq:=by rw[A];exact mD (l:=[g.ent.seq,g.ent.cr,g.ent.mono]) (i:=0) q d
  have u:eY X 8=g.ent.cr:=by rw[A];exact mD (l:=[g.ent.seq,g.ent.cr,g.ent.mono]) (i:=1) q e
  have J:eY X 16=g.ent.mono:=by rw[A];exact mD (l:=[g.ent.seq,g.ent.cr,g.ent.mono]) (i:=2) q n
  have K:(X.drop 24).take 16=g.ent.bV:=by
    have:seg X 24 16=g.ent.bV:=by
      rw[A,jk Oh,B,Nat.sub_self]
      exact mJ _ _ E.symm
    exact this
  have L:eY X 40=g.ent.xor:=by
    rw[A,iQ Oh,B,iQ Oh,E]
    exact mD (l:=[g.ent.xor]) (i:=0) q o
  have v:jg X 48 ((X.length-48)/16)=g.ent.aD:=by
    rw[z,show(48+16*g.ent.aD.length-48)/16=g.ent.aD.length by omega]
    apply List.ext_getElem?
    intro i
    unfold jg
    rw[List.getElem?_map]
    by_cases hi:i<g.ent.aD.length
    · rw[List.getElem?_range hi,List.getElem?_eq_getElem hi]
      have F:=aij h.fq w hb (List.getElem_mem hi)
      obtain⟨S,T⟩:=OP (List.getElem?_eq_getElem hi) F.1 F.2
      have r:eY X (48+16*i)=(g.ent.aD[i]).bn:=by
        rw[A,iQ Oh,B,iQ Oh,E,iQ Oh,Q,show 48+16*i-24-16-8=16*i by omega];exact S
      have t:eY X (48+16*i+8)=(g.ent.aD[i]).cQ:=by
        rw[A,iQ Oh,B,iQ Oh,E,iQ Oh,Q,show 48+16*i+8-24-16-8=16*i+8 by omega];exact T
      simp only[Option.map_some,Option.some.injEq]
      rw[r,t]
    · rw[List.getElem?_eq_none (by simpa using hi),List.getElem?_eq_none Oh];rfl
  have U:r7 X=g.ent:=by
    unfold r7
    rw[R,u,J,K,L,v]
  unfold r8
  rw[U,R,if_neg p,if_neg]
  intro P
  have:qf g.ent.aD=true:=by
    rw[vA]
    intro j x y C D
    rw[w.aD]at C D
    rw[List.getElem?_map]at C D
    cases hwx:g.who[j]? with
    | none=>rw[hwx]at C;cases C
    | some a =>
      cases hwy:g.who[j+1]? with
      | none=>rw[hwy]at D;cases D
      | some c =>
        rw[hwx]at C;rw[hwy]at D
        simp only[Option.map_some,Option.some.injEq]at C D
        subst C;subst D
        simp only
        have M:=(List.getElem?_eq_some_iff.1 hwx)
        have N:=(List.getElem?_eq_some_iff.1 hwy)
        have:=List.pairwise_iff_getElem.1 w.HG j (j+1) M.1 N.1 Oh
        rw[M.2,N.2]at this
        exact this
  rw[this]at P;cases P
theorem QX {q:Pr} (h:right q.pb=true):nO (ak q)=(q,0):=by
  obtain⟨A,B⟩:=oO ((mY _).2 h)
  have h1':jU (ak q)=0:=A
  have h2':qZ (ak q)=q.pb:=B
  unfold nO
  rw[h1',h2']
  rfl
theorem QI {m:Mk} {l:List Ob} {es:List gR} {mp:List Nat} {f:Nat→List Nat} (h:mQ m l es mp f) (ht:∀k∈m.ai,∃q:Pr,right q.pb=true∧k.cA=ak q):∀(ws:List Nat) (fs:List Pr) (all:List (List UInt8)),(∀i∈ws,i<m.ai.length) →
    ∃qs:List Pr,jM m.c.dx m.c.cG 272 m.b (ws.map fun i=>{bn:=ij m.ai i,cQ:=eK m (jV m.ai i)}) fs all=((fs ++ qs,all ++ ws.map (jV m.ai)),0)∧qs.map ak=ws.map (jV m.ai)∧∀q∈qs,right q.pb=true
  | [],fs,all,_=>⟨[],by simp[jM],rfl,by simp⟩
  | i :: r,fs,all,hw=>by
    have hl:=hw i Oq
    have hk:m.ai[i]? = some m.ai[i]:=List.getElem?_eq_getElem hl
    obtain⟨q,hq1,hq2⟩:=ht _ (List.mem_of_getElem? hk)
    have hp:=ai1 h hk (uU ht (List.mem_of_getElem? hk))
    obtain⟨t1,t2⟩:=qj hk
    obtain⟨qs,g1,g2,g3⟩:=QI h ht r (fs ++ [q]) (all ++ [jV m.ai i]) (fun j hj=>hw j (by simp[hj]))
    refine⟨q :: qs,?_,by rw[List.map_cons,List.map_cons,g2,t1,hq2],fun y hy=>?_⟩
    · rw[List.map_cons,jM]
      simp only[t2,hp]
      have e1:(UR m m.ai[i] (f i)).ak=ak q:=hq2
      have e2:(UR m m.ai[i] (f i)).cQ=eK m (jV m.ai i):=by rw[t1];rfl
      rw[if_neg Oq,if_neg (by rw[e2];simp),e1,QX hq1]
      simp only
      rw[if_neg Oq,← hq2,← t1,g1]
      simp
    · rcases List.mem_cons.1 hy with rfl|hy
      · exact hq1
      · exact g3 y hy
theorem aiE {m:Mk} {l:List Ob} {es:List gR} {mp:List Nat} {f:Nat→List Nat} {g:gR} {r:Rec} (h:mQ m l es mp f) (ht:∀k∈m.ai,∃q:Pr,right q.pb=true∧k.cA=ak q) (w:vH m g) (hg:g∈es) (hb:m.b.length<1000000) (hr:NF m g r) :
    ∃fs,mS m.c.dx m.c.cG 272 m.b g.bn=({seq:=r.seq,cr:=r.cr,mono:=r.mono,bV:=r.bV,aj:=fs},0)∧fs.Perm r.aj:=by
  obtain⟨E,C,F,G⟩:=QI h ht g.who [] [] w.lt
  rw[List.nil_append,List.nil_append]at C
  have L:g.ent.aD.length=g.who.length:=by rw[w.aD,List.length_map]
  have K:=w.len
  refine⟨E,?_,?_⟩
  · exact adN (all:=g.who.map (jV m.ai)) (n:=nk 0 (g.who.map (jV m.ai))) (RQ h w hg hb) Oh ⟨hr.seq.symm,hr.cr.symm,hr.mono.symm,hr.bV.symm⟩ (by rw[w.aD];exact C) rfl w.xor
  have D:=hr.aj
  rw[← F]at D
  -- payloads are told apart
  have B:∀(a b:List Pr),(∀q∈a,right q.pb=true)→(∀q∈b,right q.pb=true)→(a.map ak).Perm (b.map ak)→a.Perm b:=by
    intro a b H hb A
    have e:∀(c:List Pr),(∀q∈c,right q.pb=true)→c=(c.map ak).map fun t=>(nO t).1:=fun c I=>by
      rw[List.map_map]
      have:c.map ((fun t=>(nO t).1) ∘ ak)=c.map id:=List.map_congr_left fun q J=>by simp[Function.comp,QX (I q J)]
      rw[this,List.map_id]
    rw[e a H,e b hb]
    exact A.map _
  exact B E r.aj G hr.right D
end Go.Wk
namespace Go.Wk
open Go Go.RowKit
structure iD (m:Mk) (B:Ly) (H:bS) (l:List Ob) (es:List gR):Prop where
  len:B.length=m.b.length
  read:lp B=(H,0)
  opn:kO B=(some {b:=B,h:=H},0)
  n:∀i,i<20→i≠1→H.n.getD i 0=m.cT i
  key:H.bW=if m.c.dx then 4 else 0
  cG:H.cG=m.c.cG
  img:mQ {m with b:=B} l es (es.map gR.bn) (places es)
theorem mQ.bytes {m:Mk} {l:List Ob} {es:List gR} {f:Nat→List Nat} {mp:List Nat} {B:Ly} (h:mQ m l es mp f) (hl:B.length=m.b.length) (hB:Eff (fun a=>a+8≤272) m.b B) (hw:eY B 176=m.main.getD 0 0):mQ {m with b:=B} l es mp f:=by
  have C:=h.fq.eU
  have H:∀a,a+8≤272→tG l a:=fun a A=>IZ C A
  have hO':gB B 272 l B.length:=by
    rw[hl];exact C.me hB (Nat.le_refl _) fun o L a A=>by have:=(C.mem L).ge;omega
  have D:∀o∈l,o∈l:=fun _ h=>h
  refine⟨h.fq.keep hO' ⟨[],by simp,by simp⟩ hB H q q ⟨q,q⟩ (mq.refl _) (h.fq.cn.same q),?_,fun i k E=>?_,⟨h.own.main,h.own.one⟩,fun g I=>(h.ent g I).me C hB H D,h.kin⟩
  · refine⟨hw,h.main.ob,fun k a A=>?_,fun k a j A K=>?_,h.main.HG,h.main.lo,h.main.hi⟩
    · have:=h.main.le C A
      rw[hB.eY Oh fun x F=>by omega];exact h.main.next k a A
    have:=h.main.le C A
    rw[hB.eY Oh fun x F=>by omega];exact h.main.iI k a j A K
  have G:=h.fq.data k (List.mem_of_getElem? E)
  have J:272≤k.bn:=(C.mem G.ob).ge
  exact(h.dat i k E).me G C hB D (fun a A=>by omega) fun j x F a A=>by
    have:=(h.dat i k E).chain.le C F;omega
structure aaM (B:Ly) (h:fR):Prop where
  sign:B.take 8=wj
  bW:at4 B 12=h.bW
  state:(B.getD 16 0).toNat=h.state
  cG:(B.drop 24).take 16=h.cG
  n:∀i,i<20→eY B (88+8*i)=h.n.getD i 0
theorem NQ {x y:Ly} {p:Nat} (h:x.length≤p):at4 (x ++ y) p=at4 y (p-x.length):=by
  show vM (seg (x ++ y) p 4)=vM (seg y (p-x.length) 4)
  rw[jk h]
theorem aeB {v:Nat} (r:Ly) (h:v<4294967296):at4 (low v 4 ++ r) 0=v:=by
  show vM (seg (low v 4 ++ r) 0 4)=v
  rw[mJ _ _ (by rw[iX]),LD]
  exact Nat.mod_eq_of_lt h
theorem uc {x y:Ly} {p k:Nat} (hk:x.length=k) (h:k≤p):eY (x ++ y) p=eY y (p-k):=by rw[iQ Oh,hk]
theorem Si (h:fR) (depth:Nat) (r:Ly) (ok:fR.ok h) (hs:h.state<256):aaM (xg h depth ++ r) h:=by
  obtain⟨L,F,M,C,G,H,I,⟨N,J⟩,_⟩:=ok
  have e:xg h depth ++ r=[76,80,75,83,72,72,82,72] ++ (low h.iG 4 ++ (low h.bW 4 ++ ([UInt8.ofNat h.state,0,0,0,0,0,0,0] ++ (h.cG ++ (h.eO ++ (h.bV ++ (h.seq ++ (nums h.n ++ (nums [depth] ++ (low h.eu 4 ++ (low h.eC 4 ++ (nums [h.eM] ++ r)))))))))))):=by
    unfold xg;simp only[List.append_assoc]
  rw[e]
  refine⟨q,?_,?_,?_,fun i K=>?_⟩
  · rw[NQ Oq,NQ (by simp[iX])]
    simp only[iX,List.length_cons,List.length_nil]
    exact aeB _ F
  · have A:∀y:List UInt8,([76,80,75,83,72,72,82,72] ++ (low h.iG 4 ++ (low h.bW 4 ++ y))).getD 16 0=y.getD 0 0:=fun y=>by
      have D:(low h.iG 4).length=4:=iX _ _
      have E:(low h.bW 4).length=4:=iX _ _
      simp only[List.getD_eq_getElem?_getD]
      rw[List.getElem?_append_right Oq,List.getElem?_append_right Vw,List.getElem?_append_right Vw,D,E]
      rfl
    rw[A]
    show(UInt8.ofNat h.state).toNat=_
    rw[UInt8.toNat_ofNat',Nat.mod_eq_of_lt Oh]
  · show seg _ 24 16=_
    rw[jk Oq,jk (by simp[iX]),jk (by simp[iX]),jk (by simp[iX])]
    simp only[iX,List.length_cons,List.length_nil]
    exact mJ _ _ C.symm
  rw[uc (k:=8) q Oh,uc (k:=4) (iX _ _) Oh,uc (k:=4) (iX _ _) Oh,uc (k:=8) q Oh,uc (k:=16) C Oh,uc (k:=16) G Oh,uc (k:=16) H Oh,uc (k:=16) I Oh,show 88+8*i-8-4-4-8-16-16-16-16=8*i by omega]
  have hi':i<h.n.length:=by omega
  have B:h.n[i]? = some (h.n.getD i 0):=by simp[List.getD,List.getElem?_eq_getElem hi']
  exact mD B (J _ (List.mem_of_getElem? B))
theorem WR {b:Ly} {i:Nat} (h:i<21):(fO b).n.getD i 0=eY b (88+8*i):=by
  show(((List.range 21).map fun q=>if q<21 then eY b (88+8*q)else 0)).getD i 0=_
  rw[List.getD_eq_getElem?_getD,List.getElem?_map,List.getElem?_range h]
  simp[h]
theorem OJ {m:Mk} {l:List Ob} {es:List gR} {rs:List Rec} {st:Nat} (h:pP m l es rs) (hok:fR.ok m.h) (hst:st≤2):aaM (nE m st) {m.h with state:=st,n:=m.h.n.set 1 (m.b.length-272)}∧(nE m st).length=m.b.length∧Eff (fun a=>a+8≤272) m.b (nE m st):=by
  have G:=h.img.c.fq.eU
  have J:=h.ok.small
  have D:=G.le
  have ok':fR.ok {m.h with state:=st,n:=m.h.n.set 1 (m.b.length-272)}:=⟨hok.1,hok.2.1,(by show st<_;omega),hok.2.2.2.1,hok.2.2.2.2.1,hok.2.2.2.2.2.1,hok.2.2.2.2.2.2.1,xD hok.2.2.2.2.2.2.2.1 Oh,hok.2.2.2.2.2.2.2.2⟩
  have F:=yC {m.h with state:=st,n:=m.h.n.set 1 (m.b.length-272)} m.depth ok'
  have E:=Si {m.h with state:=st,n:=m.h.n.set 1 (m.b.length-272)} m.depth (m.b.drop 272) ok' (by show st<_;omega)
  have C:nE m st=xg {m.h with state:=st,n:=m.h.n.set 1 (m.b.length-272)} m.depth ++ m.b.drop 272:=rfl
  rw[← C]at E
  have A:(nE m st).length=m.b.length:=by rw[C,List.length_append,F,List.length_drop];omega
  have B:Eff (fun a=>a+8≤272) m.b (nE m st):=by
    refine⟨by rw[A];exact Nat.le_refl _,fun q n K I=>?_⟩
    by_cases hn:n=0
    · subst hn;simp[seg]
    · have H:272≤q:=by
        by_cases h1:272≤q
        · exact h1
        · exfalso
          have:=I (min q 264) Oh
          omega
      rw[C,jk Oh,F]
      unfold seg
      rw[List.drop_drop,show 272+(q-272)=q by omega]
  exact⟨E,A,B⟩
theorem ZM {m:Mk} {l:List Ob} {es:List gR} {rs:List Rec} {st:Nat} {B:Ly} (h:pP m l es rs) (hst:st≤2) (hb:aaM B {m.h with state:=st,n:=m.h.n.set 1 (m.b.length-272)}) (hlen:B.length=m.b.length) (hEff:Eff (fun a=>a+8≤272) m.b B):iD m B (fO B) l es:=by
  have L:=h.img.c.fq.eU
  have S:=h.ok.small
  have O:=L.le
  have A:∀i,i<20→i≠1→(fO (B)).n.getD i 0=m.cT i:=fun i R Q=>by
    rw[WR Oh,hb.n i R]
    show(m.h.n.set 1 _).getD i 0=_
    rw[bB Oh];rfl
  have J:(fO (B)).n.getD 1 0=m.b.length-272:=by
    rw[WR Oh,hb.n 1 Oh]
    show(m.h.n.set 1 _).getD 1 0=_
    exact nD (by have:=h.h20;omega)
  have H:=h.hd.hk
  unfold hk at H
  simp only[Prod.mk.injEq]at H
  obtain⟨_,T,_,U⟩:=H
  have F:(fO (B)).bW=if m.c.dx then 4 else 0:=hb.bW.trans T
  have G:(fO (B)).cG=m.c.cG:=hb.cG.trans U
  have D:(fO (B)).state=st:=hb.state
  have Y:=(L.mem h.img.c.fq.GC).le
  have Z:=(L.mem h.img.c.fq.HC).le
  have o:=eF (16+16*m.c.ay)
  have u5:=eF (16+16*m.c.aA)
  simp only at Y Z
  have sl:=h.img.c.fq.slots
  have N:(fO (B)).n.getD 0 0=272:=(A 0 Om Om).trans h.hd.n0
  have V:(fO (B)).n.getD 2 0=288:=(A 2 Om Om).trans h.img.c.fq.n2
  have n3:(fO (B)).n.getD 3 0=16*m.c.ay:=(A 3 Om Om).trans h.hd.n3
  have W:(fO (B)).n.getD 4 0=304+16*m.c.ay:=(A 4 Om Om).trans h.img.c.fq.n4
  have X:(fO (B)).n.getD 5 0=16*m.c.aA:=(A 5 Om Om).trans h.hd.n5
  have E:vJ (fO (B))=(m.b.length,true):=by
    unfold vJ
    rw[N,J,Nat.mod_eq_of_lt Oh,if_neg Oh,show 272+(m.b.length-272)=m.b.length by omega]
  have M:sC (fO (B)) (B).length=0:=by
    unfold sC
    rw[E,F,D,N,J,V,n3,W,X,hlen]
    have I:¬andNot (if m.c.dx=true then 4 else 0) 4≠0:=by cases m.c.dx <;> decide
    rw[if_neg I,if_neg Oh,if_neg Oh,if_neg Oq]
    have P:∀(p s e:Nat),p%8=0→s≠0→s%16=0→288≤p→p+s≤e→lY (fO (B)) p s e=0:=fun p s e Q d f g k=>by
      unfold lY
      rw[N,if_neg Oh,if_neg Oh,if_neg Oh]
    simp only
    rw[P 288 _ _ Oh Oh Oh Oh Oh,if_neg Oq]
    exact P _ _ _ Oh Oh Oh Oh Oh
  have C:lp (B)=(fO (B),0):=by
    unfold lp
    have K:qM (B) wj=true:=by
      unfold qM
      rw[if_pos (by show 8≤_;omega)]
      exact decide_eq_true hb.sign
    rw[if_neg Oh,if_neg (by rw[K];simp),M,if_neg Oq]
  refine⟨hlen,C,?_,A,F,G,h.img.c.bytes hlen hEff ?_⟩
  · unfold kO
    rw[C]
    simp only
    rw[if_neg Oq,E]
    simp only
    rw[← hlen,List.take_length]
  have:=hb.n 11 Om
  rw[show 88+8*11=176 by rfl]at this
  rw[this]
  exact(bB (l:=m.h.n) (i:=1) (j:=11) (v:=m.b.length-272) Om).trans h.img.n11
theorem opened {m:Mk} {l:List Ob} {es:List gR} {rs:List Rec} {st:Nat} (h:pP m l es rs) (hok:fR.ok m.h) (hst:st≤2):iD m (nE m st) (fO (nE m st)) l es:=by
  obtain⟨A,B,C⟩:=OJ h hok hst
  exact ZM h hst A B C
end Go.Wk
namespace Go.Wk
open Go Go.RowKit
def FY (a b:Rec):Bool:=decide (a.seq=b.seq) && (decide (a.cr=b.cr) && (decide (a.mono=b.mono) && (decide (a.bV=b.bV) && (allIn b.aj a.aj && allIn a.aj b.aj))))
theorem NI {a b:List Pr} (h:∀q,q∈a→q∈b):allIn b a=true:=by
  induction a with
  | nil=>rfl
  | cons p r ih =>
    rw[allIn,if_pos (abX.2 (h p Oq))]
    exact ih fun q A=>h q (by simp[A])
theorem TI {a b:Rec} (h1:a.seq=b.seq) (h2:a.cr=b.cr) (h3:a.mono=b.mono) (h4:a.bV=b.bV) (h5:∀q,q∈a.aj↔q∈b.aj):FY a b=true:=by
  unfold FY
  rw[NI fun q A=>(h5 q).1 A,NI fun q A=>(h5 q).2 A]
  simp[h1,h2,h3,h4]
theorem pX {H:bS} {k:Bool} (h:H.bW=if k then 4 else 0):decide (H.bW &&& 4≠0)=k:=by rw[h];cases k<;>decide
section
variable {m:Mk} {B:Ly} {H:bS} {l:List Ob} {es:List gR} {rs:List Rec}
theorem WU:∀{l:List Ob} {p e:Nat},gB B p l e→(l.map Ob.bn).Pairwise (· < ·)
  | [],_,_,_=>List.Pairwise.nil
  | o :: r,p,e,h=>by
    obtain⟨h1,h2,h3,h4,h5,h6,h7⟩:=h
    have hu:=eF o.size
    rw[List.map_cons]
    refine List.pairwise_cons.2 ⟨fun x hx=>?_,WU h7⟩
    obtain⟨y,hy,rfl⟩:=List.mem_map.1 hx
    have:=(h7.mem hy).ge
    omega
theorem abG {mp:List Nat} {f:Nat→List Nat} (h:mQ m l es mp f):wR m.b (es.map gR.bn):=by
  have A:=h.fq.eU
  refine⟨fun x F=>?_,?_⟩
  · obtain⟨g,E,rfl⟩:=List.mem_map.1 F
    have B:=A.mem (h.ent g E).ob
    have C:=B.ge
    have D:=B.le
    have:=eF (64+16*g.ent.aD.length)
    simp only at C D
    omega
  rw[← h.kin]
  exact((WU A).sublist (List.filter_sublist.map _))
theorem vH.bytes {m':Mk} {g:gR} (h:vH m g) (hd:m'.ai=m.ai) (hc:m'.c=m.c):vH m' g:=h.ext (by rw[hd];exact pO.refl _) hc
theorem agm (im:pP m l es rs) (op:iD m B H l es) {i:Nat} {x:Nat} {r:Rec} (hx:(es.map gR.bn)[i]? = some x) (hr:rs[i]? = some r) :
    ∃y,mS (decide (H.bW &&& 4≠0)) H.cG (H.n.getD 0 0) B x=(y,0)∧FY y r=true∧y.seq=r.seq∧y.cr=r.cr∧y.mono=r.mono∧y.bV=r.bV∧y.aj.Perm r.aj:=by
  have D:H.n.getD 0 0=272:=(op.n 0 Om Om).trans im.hd.n0
  rw[List.getElem?_map]at hx
  cases hg:es[i]? with
  | none=>rw[hg]at hx;cases hx
  | some g =>
    rw[hg]at hx
    simp only[Option.map_some,Option.some.injEq]at hx
    subst hx
    have A:=List.mem_of_getElem? hg
    have w:vH {m with b:=B} g:=(im.img.who g A).bytes rfl rfl
    have F:NF {m with b:=B} g r:=(im.rcd i g r hg hr).ext (m':={m with b:=B}) (im.img.who g A) (pO.refl _)
    obtain⟨G,E,C⟩:=aiE op.img im.img.txt w A (by have:=im.ok.small;have:=op.len;show B.length<_;omega) F
    rw[pX op.key,op.cG,D]
    exact⟨_,E,TI rfl rfl rfl rfl fun q=>C.mem_iff,rfl,rfl,rfl,rfl,C⟩
theorem ZG (im:pP m l es rs) (op:iD m B H l es):H.n.getD 0 0=272:=(op.n 0 Om Om).trans im.hd.n0
def n3 (l:List Ob):Nat:=(l.filter fun o=>decide (o.kind=3)).length
end
end Go.Wk
namespace Go.Wk
open Go Go.RowKit
section
variable {v:eR} {at_ g o:List Nat} {i p last c:Nat} {r:Rec}
end
section
variable {m:Mk} {B:Ly} {H:bS} {l:List Ob} {es:List gR} {rs:List Rec}
end
end Go.Wk
namespace Go.Wk
open Go Go.RowKit
section
variable {m:Mk} {B:Ly} {H:bS} {l:List Ob} {es:List gR} {rs:List Rec}
end
end Go.Wk
namespace Go.Wk
open Go Go.RowKit
section
variable {m:Mk} {B:Ly} {H:bS} {l:List Ob} {es:List gR} {rs:List Rec}
theorem ad1 (op:iD m B H l es):(vJ H).1=B.length:=by
  obtain⟨C,_⟩:=QH (e:=(vJ H).1) (s:=(vJ H).2) op.read q
  have h:=op.opn
  unfold kO at h
  rw[op.read]at h
  simp only[ne_eq,not_true_eq_false,if_false,Prod.mk.injEq,Option.some.injEq,and_true]at h
  have A:=congrArg (fun v:eR=>v.b.length) h
  simp only[List.length_take]at A
  omega
end
end Go.Wk
namespace Go.Wk
open Go Go.RowKit
theorem sR {b:Ly} {i q n:Nat} {v:UInt8} (h:i<q∨q+n≤i):seg (b.set i v) q n=seg b q n:=by
  apply List.ext_getElem?
  intro j
  by_cases hj:j<n
  · rw[qP hj,qP hj,List.getElem?_set_ne Oh]
  have e:∀c:List UInt8,(seg c q n)[j]? = none:=fun c=>List.getElem?_eq_none (by unfold seg;rw[List.length_take];omega)
  rw[e,e]
theorem KX (b:Ly) (i:Nat) (v:UInt8):Eff (fun a=>a=8*(i/8)) b (b.set i v) :=
  ⟨by rw[List.length_set];exact Nat.le_refl _,fun q n _ hs=>sR (by have:=hs _ rfl;omega)⟩
theorem zZ {b:Ly} {i p:Nat} {v:UInt8} (h:p+4≤i):at4 (b.set i v) p=at4 b p:=by
  show vM (seg (b.set i v) p 4)=vM (seg b p 4)
  rw[sR (.inr h)]
theorem jO {b:Ly} {i p:Nat} {v:UInt8} (h:i<p∨p+8≤i):eY (b.set i v) p=eY b p:=by
  show vM (seg (b.set i v) p 8)=vM (seg b p 8)
  rw[sR h]
theorem ZS {b:Ly} {i:Nat} {v:UInt8} (h:272≤i):fO (b.set i v)=fO b:=by
  have A:(b.set i v).getD 16 0=b.getD 16 0:=by simp only[List.getD_eq_getElem?_getD];rw[List.getElem?_set_ne Oh]
  have s:∀p,p+16≤272→((b.set i v).drop p).take 16=(b.drop p).take 16:=fun p D=>sR (b:=b) (q:=p) (n:=16) Oh
  have B:((List.range 21).map fun q=>if q<21 then eY (b.set i v) (88+8*q)else 0)=(List.range 21).map fun q=>if q<21 then eY b (88+8*q)else 0:=List.map_congr_left fun q C=>by rw[jO (by have:=List.mem_range.1 C;omega)]
  simp only[fO,kE]
  rw[zZ Oh,zZ Oh,zZ Oh,zZ Oh,jO Oh,A,s 24 Oh,s 40 Oh,s 56 Oh,s 72 Oh,B]
theorem adL {b:Ly} {i:Nat} {v:UInt8} {h:bS} (hi:272≤i) (hr:lp b=(h,0)):lp (b.set i v)=(h,0):=by
  obtain⟨C,F,E⟩:=yZ hr
  have A:qM b wj=true:=by
    cases hh:qM b wj with
    | true=>rfl
    | false=>rw[FT Oh hh]at hr;have:=congrArg Prod.snd hr;simp at this
  have B:qM (b.set i v) wj=true:=by
    have e:wj.length=8:=rfl
    unfold qM at A ⊢
    rw[e,if_pos Oh]at A
    have D:(b.set i v).take 8=b.take 8:=by
      have:=sR (b:=b) (i:=i) (q:=0) (n:=8) (v:=v) Oh
      simpa [seg]using this
    rw[e,if_pos (by rw[List.length_set];omega),D];exact A
  unfold lp
  rw[if_neg (by rw[List.length_set];omega),if_neg (by rw[B];simp),ZS hi,F,List.length_set,if_neg (by rw[E];simp)]
section
variable {m:Mk} {B:Ly} {H:bS} {l:List Ob} {es:List gR} {rs:List Rec} {jx i:Nat} {kd:aZ} {v:UInt8}
theorem ad2 (op:iD m B H l es) (hi:272≤i):kO (B.set i v)=(some {b:=B.set i v,h:=H},0):=by
  unfold kO
  rw[adL hi op.read]
  simp only[ne_eq,not_true_eq_false,if_false]
  rw[ad1 op,List.take_of_length_le (by rw[List.length_set];exact Nat.le_refl _)]
structure Spt (m:Mk) (jx:Nat) (kd:aZ) (i:Nat):Prop where
  k:m.ai[jx]? = some kd
  lo:kd.bn+64≤i
  hi:i<kd.bn+64+kd.cA.length
theorem Spt.ob (s:Spt m jx kd i) (op:iD m B H l es):(⟨kd.bn,1,64+kd.cA.length⟩:Ob)∈l:=(op.img.fq.data kd (List.mem_of_getElem? s.k)).ob
theorem Spt.al8 (s:Spt m jx kd i) (op:iD m B H l es):kd.bn%8=0∧kd.bn+64≤8*(i/8)∧8*(i/8)+8≤kd.bn+mO (64+kd.cA.length)∧272≤kd.bn:=by
  have D:=op.img.fq.eU.mem (s.ob op)
  have A:=D.al Om
  have C:=D.ge
  have E:=s.lo
  have F:=s.hi
  simp only at A C
  refine⟨A,by omega,?_,C⟩
  have:mO (64+kd.cA.length)=(64+kd.cA.length+7)/8*8:=rfl
  omega
theorem Spt.off (s:Spt m jx kd i) (op:iD m B H l es) {o:Ob} (ho:o∈l) (hn:o.bn≠kd.bn):8*(i/8)+8≤o.bn∨o.bn+mO o.size≤8*(i/8):=by
  obtain⟨_,A,C,_⟩:=s.al8 op
  rcases op.img.fq.eU.sep ho (s.ob op)with e|e|e
  · rw[e]at hn;exact absurd q hn
  · exact .inr (by simp only at e;omega)
  exact .inl (by simp only at e;omega)
theorem Spt.eU (s:Spt m jx kd i) (op:iD m B H l es):gB (B.set i v) 272 l (B.set i v).length:=by
  rw[List.length_set]
  refine op.img.fq.eU.me (KX B i v) (Nat.le_refl _) fun o A a C=>?_
  subst C
  obtain⟨_,D,E,_⟩:=s.al8 op
  by_cases hn:o.bn=kd.bn
  · exact .inr Oh
  have:=s.off op A hn
  have G:=(op.img.fq.eU.mem A).size.1
  have F:=eF o.size
  omega
theorem Spt.this (s:Spt m jx kd i) (op:iD m B H l es) (ht:1≤kd.cA.length):∃d:gT,gm 272 (B.set i v) kd.bn=(d,0)∧d.cQ=eK m kd.cA∧d.ak=seg (B.set i v) (kd.bn+64) kd.cA.length:=by
  have C:=op.img.fq.data kd (List.mem_of_getElem? s.k)
  have F:=op.img.fq.eU.mem C.ob
  have E:=(s.eU (v:=v) op).mem C.ob
  have A:=F.le
  have D:=F.ge
  have K:=eF (64+kd.cA.length)
  have J:=s.lo
  simp only at A D
  have hle':kd.bn+(64+kd.cA.length)≤B.length:=ly Oh A
  have G:=LP (k:=1) (n:=6) E Om (by rw[List.length_set];exact hle') q Lw
  simp only at G
  have I:¬(kd.bn<272∨(B.set i v).length≤kd.bn):=by
    have:kd.bn<B.length:=by omega
    rw[List.length_set];omega
  refine⟨_,by unfold gm;rw[if_neg I,(ou G).2 Oq |>.2],?_,?_⟩
  · have e:gN (B.set i v) (kd.bn+16) 6=[eY (B.set i v) (kd.bn+16),eY (B.set i v) (kd.bn+24),eY (B.set i v) (kd.bn+32),eY (B.set i v) (kd.bn+40),eY (B.set i v) (kd.bn+48),eY (B.set i v) (kd.bn+56)]:=rfl
    rw[e]
    show eY (B.set i v) (kd.bn+16)=_
    rw[jO Oh]
    exact C.cQ
  show seg _ _ _=_
  rw[show kd.bn+16+8*6=kd.bn+64 by omega,show 64+kd.cA.length-(16+8*6)=kd.cA.length by omega]
end
section
variable {b:Ly} {a c:Nat} {o:List Nat} {f:jf}
end
theorem PV {b:Ly}:∀{l:List Ob} {p e:Nat},gB b p l e→p+l.length≤e
  | [],p,e,h=>by have:p=e:=h;simp;omega
  | x :: r,p,e,h=>by
    have h2:gB b (p+mO x.size) r e:=h.2.2.2.2.2.2
    have:=PV h2
    have hu:=eF x.size
    have h16:=h.2.2.2.1
    simp only[List.length_cons];omega
theorem aap (b:Ly) (p n:Nat):(b.take (p+n)).drop p=seg b p n:=by
  unfold seg;rw[List.drop_take,Nat.add_sub_cancel_left]
end Go.Wk
