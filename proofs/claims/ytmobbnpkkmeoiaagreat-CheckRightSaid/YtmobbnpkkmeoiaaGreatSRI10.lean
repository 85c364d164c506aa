/- Part 10 of what the walk of a law stands on: VSeq5, VSeq6, VMake, VMake2, VKk, ImT3, ImT4, ImT5, ImT6, ImT7, ImT8, ImT9, GoLP, ImT10, ImT11, ImT12, ImT13, ImT14, ImT15, ImT16, ImT17, LwP, JfP, LdP, BhP, SpT. No statement is proved here. -/
import Derived.Test.YtmobbnpkkmeoiaaGreatSRI9
import Derived.Test.YtmobbnpkkmeoiaaGreatRows
namespace Go.Proofs.YtmobbnpkkmeoiaaGreat
open Go Go.Wk Go.RowKit
set_option linter.unusedVariables false
set_option linter.unusedSimpArgs false
attribute [local irreducible] wpList wpQuiet wpStill ic Code.wp Calls bodyPost
variable {w:World} {Q:Nat→Prop}
theorem afh:dZ Zp 59=true:=Ym
theorem alp:dZ Zp 62=true:=Ym
set_option maxRecDepth 100000 in
theorem PL (uQ:Up w Q) {b0:Nat} {v0_0:Value} (s:Sq) (h0:ck w b0 (Sq.cells s v0_0) 57) (n0:¬Q b0) (a0_0:Sq.ok s) (a0_1:Ls qw w Q v0_0 s.l) (seq:Nat) (a1:seq<18446744073709551616) :
  Calls Zp 33 #[.pointer (some ⟨b0,0,none⟩),(.int .u64 seq)] w fun en w'=>∃u0_0:Value,∃r0:Rec,∃m0:Sq,∃u50_0:Value,en = .returned (.agg (Rec.cells r0 u0_0).toArray)∧Md [b0] w w'∧Rec.ok r0∧Ls p9 w' Q u0_0 r0.aj∧ck w' b0 (Sq.cells m0 u50_0) 57∧¬Q b0∧Sq.ok m0∧Ls qw w' Q u50_0 m0.l∧s.record seq=(r0,m0):=by
 have C:=n0;have R:cr [b0] w b0:=.inl Oq;have M:=Md.refl [b0] w;have Bl:=uQ;have tQ:∀b,Q b→Q b:=fun _ h=>h;refine enter (n:=25) Tryz.func33 q q q fun B=>ns (cw z82 ?_);intro O w1 r Ay F D;have Av:b0≠O:=(by have:=h0.lt;omega);obtain⟨Q2,sQ,sT,Ac,Ar⟩:=kM uQ r Ay F;replace C:=nQ C sT;replace tQ:=tT tQ sT;replace r:=ly M.size r;replace a0_1:=(a0_1.sub sQ).o F;obtain⟨h0,M⟩:=k2 F h0 M;replace uQ:=Ar;clear Ar sQ sT;have Ad:cr [] w O:=.inr r;replace D:ck _ _ (Rec.cells (Zc) SN) _:=D;have A5:Rec.ok (Zc):=(by exact⟨Om,Om,Om,q⟩);refine nt (nm q (ax alp q (SQ uQ s h0 C a0_0 a0_1 4 Oh Oh) ?_));rintro en w4 ⟨Bf,Bg,z,Am,rfl,F,Af,W,c,g,J,Ag⟩;refine rv ?_;have T:∀i∈[b0],cr [b0] w i:=(hI R);have P:∀i∈[b0],¬Q2 i:=(hI C);have A:O∉[b0]:=(cT Oh Oq);replace D:=D.md F A;clear A;replace M:=M.step F T;replace uQ:=uQ.md F;clear T P h0 C;have h0:=W;have C:=c;clear W c;have S:=ad9 s 4;rw[Ag]at S;try simp only[LL,Nat.reduceAdd,Nat.reduceMul]at S
 refine ax ajS q (JO uQ Af Oh (fun qv hq=>by have:=S.1 qv hq;omega)) ?_;rintro en w5 ⟨L,N,Bh,rfl,F,E,A9,Aw⟩;refine rv ?_;obtain⟨h0,D,J,uQ,M⟩:=k5 F h0 D J uQ M;refine mv q (se q q (se q q (d9 q (an q (ns (m2 q q (ax yq q (oo uQ z h0 C g J 40 Oh Oh) ?_)))))));rintro en w6 ⟨H,Aa,Ao,rfl,F,Ba,X,d,j,U,Ah⟩;refine rv ?_;have T:∀i∈[b0],cr [b0] w i:=(hI R);have P:∀i∈[b0],¬Q2 i:=(hI C);have A:O∉[b0]:=(cT Oh Oq);replace D:=D.md F A;clear A;replace E:=E.md F P;replace M:=M.step F T;replace uQ:=uQ.md F;clear T P h0 C;have h0:=X;have C:=d;clear X d;have t:=Sq.kE z 40;rw[Ah]at t;try simp only[LL,Nat.reduceAdd,Nat.reduceMul]at t
 refine st _ (eF (a:=H) 18446744073709551616 q (by rw[u3];rfl) mE q Oh) (mv q (ax yq q (oo uQ Aa h0 C j U 9 Oh Oh) ?_));rintro en w7 ⟨I,Ab,Ap,rfl,F,Bb,Y,e,k,V,Ai⟩;refine rv ?_;have T:∀i∈[b0],cr [b0] w i:=(hI R);have P:∀i∈[b0],¬Q2 i:=(hI C);have A:O∉[b0]:=(cT Oh Oq);replace D:=D.md F A;clear A;replace E:=E.md F P;replace M:=M.step F T;replace uQ:=uQ.md F;clear T P h0 C;have h0:=Y;have C:=e;clear Y e;have x:=Sq.kE Aa 9;rw[Ai]at x;try simp only[LL,Nat.reduceAdd,Nat.reduceMul]at x
 refine st _ (eF (a:=I) 18446744073709551616 q (by rw[u3];rfl) mE q Oh) (mv q (ax yq q (oo uQ Ab h0 C k V 3 Oh Oh) ?_));rintro en w8 ⟨As,Al,Aq,rfl,F,Bc,Z,f,o,G,Aj⟩;refine rv ?_;have T:∀i∈[b0],cr [b0] w i:=(hI R);have P:∀i∈[b0],¬Q2 i:=(hI C);have A:O∉[b0]:=(cT Oh Oq);replace D:=D.md F A;clear A;replace E:=E.md F P;replace M:=M.step F T;replace uQ:=uQ.md F;clear T P h0 C;have h0:=Z;have C:=f;clear Z f;have y:=Sq.kE Ab 3;rw[Aj]at y;try simp only[LL,Nat.reduceAdd,Nat.reduceMul]at y
 refine ax afh q (AL uQ (((As:Nat):Int)) Oh) ?_;rintro en w9 ⟨K,rfl,F,Bd,Ax⟩;refine rv ?_;obtain⟨h0,D,E,G,M⟩:=k5 F h0 D E G M;refine mv q (st _ (dw (us:=[[(.int .u64 seq)],[(.int .u64 H)],[(.int .u64 I)],(jS K),[L]]) (cs:=(Rec.cells (({seq:=seq,cu:=H,mono:=I,bV:=K,aj:=N}:Rec)) L)) [(0,0,1),(1,1,1),(2,2,1),(3,3,16),(4,19,1)] z82 ak2 q q ⟨q,q,q,q,(fU E.cg),tV⟩ ⟨q,q,q,q,q,tV⟩ q q) (aZ (us:=(Rec.cells (({seq:=seq,cu:=H,mono:=I,bV:=K,aj:=N}:Rec)) L)) q q (by exact ri) (by exact fun u hu=>bH (Rec.one E.cg) u hu) D (lB q) ?_));have Ak:=D;clear D;intro Bm F D;have P:∀b∈[O],¬Q2 b:=(hI Ac);replace h0:=h0.md F Nv;replace E:=E.md F P;replace G:=G.md F P;replace M:=M.step F (hI (cr.wid Ad));clear Ak P;replace D:ck _ _ (Rec.cells (({seq:=seq,cu:=H,mono:=I,bV:=K,aj:=N}:Rec)) L) _:=D;refine nt (iO ?_);exact dP (v:=(.agg (Rec.cells (({seq:=seq,cu:=H,mono:=I,bV:=K,aj:=N}:Rec)) L).toArray)) trivial q ⟨⟨_,q,ew (cs:=(Rec.cells (({seq:=seq,cu:=H,mono:=I,bV:=K,aj:=N}:Rec)) L)) (by exact ri) D⟩,tV⟩ ⟨_,(({seq:=seq,cu:=H,mono:=I,bV:=K,aj:=N}:Rec)),Al,_,q,M,(by exact⟨Oh,Wx,Wx,Vv⟩),(E.sub (fun b p _=>tQ b p)),h0,n0,o,(G.sub (fun b p _=>tQ b p)),(by rw[Sq.record]<;>simp(disch:=first|omega|assumption|simp) only [SS,reduceIte,Ag,Aw,Ah,Ai,Aj,Ax])⟩
theorem alC:gV Zp 76=some [(0,16),(16,16),(32,16),(48,1),(49,1),(50,1),(51,1)]:=Ym
theorem z76:fR Zp 76=some (List.replicate 48 (.int .u8 0) ++ ([.int .i64 0,.int .i64 0,.int .i64 0,.bool false])):=Ym
theorem PG (uQ:Up w Q) {b0:Nat} {v0_0:Value} (s:Sq) (h0:ck w b0 (Sq.cells s v0_0) 57) (n0:¬Q b0) (a0_0:Sq.ok s) (a0_1:Ls qw w Q v0_0 s.l) :
  Calls Zp 29 #[.pointer (some ⟨b0,0,none⟩)] w fun en w'=>∃r0:nZ,∃m0:Sq,∃u50_0:Value,en = .returned (.agg (nZ.cells r0).toArray)∧Md [b0] w w'∧nZ.ok r0∧ck w' b0 (Sq.cells m0 u50_0) 57∧¬Q b0∧Sq.ok m0∧Ls qw w' Q u50_0 m0.l∧s.config=(r0,m0):=by
 have C:=n0;have R:cr [b0] w b0:=.inl Oq;have M:=Md.refl [b0] w;have B6:=uQ;have tQ:∀b,Q b→Q b:=fun _ h=>h;refine enter (n:=22) Tryz.func29 q q q fun B=>ns (cw z76 ?_);intro S w1 Ag Bn E D;have Bj:b0≠S:=(by have:=h0.lt;omega);obtain⟨Q2,sQ,sT,Av,Bf⟩:=kM uQ Ag Bn E;replace C:=nQ C sT;replace tQ:=tT tQ sT;replace Ag:=ly M.size Ag;replace a0_1:=(a0_1.sub sQ).o E;obtain⟨h0,M⟩:=k2 E h0 M;replace uQ:=Bf;clear Bf sQ sT;have Aw:cr [] w S:=.inr Ag;replace D:ck _ _ (nZ.cells (Zd)) _:=D;have Bt:nZ.ok (Zd):=(by exact⟨q,q,q,Om,Om,Om⟩);refine nt (nm q (ax yq q (oo uQ s h0 C a0_0 a0_1 5 Oh Oh) ?_));rintro en w4 ⟨Bg,Ap,Bc,rfl,E,Bu,x,Aa,Ad,J,A5⟩;refine rv ?_;have T:∀i∈[b0],cr [b0] w i:=(hI R);have U:∀i∈[b0],¬Q2 i:=(hI C);have A:S∉[b0]:=(cT Oh Oq);replace D:=D.md E A;clear A;replace M:=M.step E T;replace uQ:=uQ.md E;clear T U h0 C;have h0:=x;have C:=Aa;clear x Aa;have Ah:=Sq.kE s 5;rw[A5]at Ah;try simp only[LL,Nat.reduceAdd,Nat.reduceMul]at Ah
 refine ax afh q (AL uQ (((Bg:Nat):Int)) Oh) ?_;rintro en w5 ⟨N,rfl,E,Bv,Bk⟩;refine rv ?_;obtain⟨h0,D,J,uQ,M⟩:=k5 E h0 D J uQ M;refine mv q (ax yq q (oo uQ Ap h0 C Ad J 5 Oh Oh) ?_);rintro en w6 ⟨Bh,Aq,Bd,rfl,E,Bw,y,Ab,Ae,K,A9⟩;refine rv ?_;have T:∀i∈[b0],cr [b0] w i:=(hI R);have U:∀i∈[b0],¬Q2 i:=(hI C);have A:S∉[b0]:=(cT Oh Oq);replace D:=D.md E A;clear A;replace M:=M.step E T;replace uQ:=uQ.md E;clear T U h0 C;have h0:=y;have C:=Ab;clear y Ab;have Ai:=Sq.kE Ap 5;rw[A9]at Ai;try simp only[LL,Nat.reduceAdd,Nat.reduceMul]at Ai
 refine ax afh q (AL uQ (((Bh:Nat):Int)) Oh) ?_;rintro en w7 ⟨O,rfl,E,Bx,Bl⟩;refine rv ?_;obtain⟨h0,D,K,uQ,M⟩:=k5 E h0 D K uQ M;refine mv q (ax yq q (oo uQ Aq h0 C Ae K 5 Oh Oh) ?_);rintro en w8 ⟨Bi,Ar,Be,rfl,E,Bz,z,Ac,Af,L,Ba⟩;refine rv ?_;have T:∀i∈[b0],cr [b0] w i:=(hI R);have U:∀i∈[b0],¬Q2 i:=(hI C);have A:S∉[b0]:=(cT Oh Oq);replace D:=D.md E A;clear A;replace M:=M.step E T;replace uQ:=uQ.md E;clear T U h0 C;have h0:=z;have C:=Ac;clear z Ac;have Aj:=Sq.kE Aq 5;rw[Ba]at Aj;try simp only[LL,Nat.reduceAdd,Nat.reduceMul]at Aj
 refine ax afh q (AL uQ (((Bi:Nat):Int)) Oh) ?_;rintro en w9 ⟨P,rfl,E,B0,Bm⟩;refine rv ?_;obtain⟨h0,D,L,uQ,M⟩:=k5 E h0 D L uQ M;refine mv q (ax yq q (oo uQ Ar h0 C Af L 7 Oh Oh) ?_);rintro en B7 ⟨F,r,Ax,rfl,E,Bo,V,Y,f,d,Ak⟩;refine rv ?_;have T:∀i∈[b0],cr [b0] w i:=(hI R);have U:∀i∈[b0],¬Q2 i:=(hI C);have A:S∉[b0]:=(cT Oh Oq);replace D:=D.md E A;clear A;replace M:=M.step E T;replace uQ:=uQ.md E;clear T U h0 C;have h0:=V;have C:=Y;clear V Y;have k:=Sq.kE Ar 7;rw[Ak]at k;try simp only[LL,Nat.reduceAdd,Nat.reduceMul]at k
 refine st _ (rA (a:=F) (b:=1) q q Oh) (mv q (ax yq q (oo uQ r h0 C f d 4 Oh Oh) ?_));rintro en B8 ⟨G,t,Ay,rfl,E,Bp,W,Z,g,e,Al⟩;refine rv ?_;have T:∀i∈[b0],cr [b0] w i:=(hI R);have U:∀i∈[b0],¬Q2 i:=(hI C);have A:S∉[b0]:=(cT Oh Oq);replace D:=D.md E A;clear A;replace M:=M.step E T;replace uQ:=uQ.md E;clear T U h0 C;have h0:=W;have C:=Z;clear W Z;have o:=Sq.kE r 4;rw[Al]at o;try simp only[LL,Nat.reduceAdd,Nat.reduceMul]at o
 refine st _ (rA (a:=G) (b:=1) q q Oh) (mv q (ax yq q (oo uQ t h0 C g e 2 Oh Oh) ?_));rintro en B9 ⟨H,Au,A0,rfl,E,Bq,X,c,j,I,Am⟩;refine rv ?_;have T:∀i∈[b0],cr [b0] w i:=(hI R);have U:∀i∈[b0],¬Q2 i:=(hI C);have A:S∉[b0]:=(cT Oh Oq);replace D:=D.md E A;clear A;replace M:=M.step E T;clear T U h0 C;have h0:=X;have C:=c;clear X c;have p:=Sq.kE t 2;rw[Am]at p;try simp only[LL,Nat.reduceAdd,Nat.reduceMul]at p
 refine st _ (gO (a:=H) (b:=1) q q) (st _ (dw (us:=[(jS N),(jS O),(jS P),[(.int .i64 ((F+1:Nat):Int))],[(.int .i64 ((G+1:Nat):Int))],[(.int .i64 ((32768:Nat):Int))],[(.bool ((decide (H=1))))]]) (cs:=(nZ.cells (({dh:=N,eR:=O,seq:=P,ay:=F+1,aA:=G+1,bY:=32768,dS:=(decide (H=1))}:nZ)))) [(0,0,16),(1,16,16),(2,32,16),(3,48,1),(4,49,1),(5,50,1),(6,51,1)] z76 alC q q ⟨q,q,q,q,q,q,q,tV⟩ ⟨q,q,q,q,q,q,q,tV⟩ q (by simp[oE,ij,jS,nZ.cells])) (aZ (us:=(nZ.cells (({dh:=N,eR:=O,seq:=P,ay:=F+1,aA:=G+1,bY:=32768,dS:=(decide (H=1))}:nZ)))) q q (by exact NV) (by exact fun u hu=>bH (nZ.one) u hu) D (lB q) ?_));have Bb:=D;clear D;intro Ca E D;have U:∀b∈[S],¬Q2 b:=(hI Av);replace h0:=h0.md E Nv;replace I:=I.md E U;replace M:=M.step E (hI (cr.wid Aw));clear Bb U;replace D:ck _ _ (nZ.cells (({dh:=N,eR:=O,seq:=P,ay:=F+1,aA:=G+1,bY:=32768,dS:=(decide (H=1))}:nZ))) _:=D;refine nt (iO ?_);exact dP (v:=(.agg (nZ.cells (({dh:=N,eR:=O,seq:=P,ay:=F+1,aA:=G+1,bY:=32768,dS:=(decide (H=1))}:nZ))).toArray)) trivial q ⟨⟨_,q,ew (cs:=(nZ.cells (({dh:=N,eR:=O,seq:=P,ay:=F+1,aA:=G+1,bY:=32768,dS:=(decide (H=1))}:nZ)))) (by exact NV) D⟩,tV⟩ ⟨(({dh:=N,eR:=O,seq:=P,ay:=F+1,aA:=G+1,bY:=32768,dS:=(decide (H=1))}:nZ)),Au,_,q,M,(by exact⟨Vv,Vv,Vv,Wx,Wx,Wx⟩),h0,n0,j,(I.sub (fun b hb _=>tQ b hb)),(by rw[Sq.config]<;>simp(disch:=first|omega|assumption|simp) only [SS,reduceIte,A5,Bk,A9,Bl,Ba,Bm,Ak,Al,Am])⟩
theorem agU:xQ Zp 82 20 64=true:=Ym
theorem ala:dZ Zp 29=true:=Ym
theorem alb:dZ Zp 30=true:=Ym
theorem alc:dZ Zp 32=true:=Ym
theorem ald:dZ Zp 33=true:=Ym
theorem ale:dZ Zp 35=true:=Ym
theorem afM:bg Zp 82 1=some 1:=Ym
theorem afN:bg Zp 82 2=some 2:=Ym
theorem afO:bg Zp 82 3=some 3:=Ym
theorem u52:Zp.underlying 52=some (.slice 82):=Ym
set_option maxHeartbeats 16000000 in
set_option maxRecDepth 100000 in
theorem SK (uQ:Up w Q) {b0:Nat} {v0_0:Value} (s:Sq) (h0:ck w b0 (Sq.cells s v0_0) 57) (n0:¬Q b0) (a0_0:Sq.ok s) (a0_1:Ls qw w Q v0_0 s.l) (bY:Nat) (a1:bY<9223372036854775808) (p0:bY≤100000) :
  Calls Zp 15 #[.pointer (some ⟨b0,0,none⟩),(.int .i64 bY)] w fun en w'=>∃o0:Nat,∃u0_0:Value,∃u0_1:Value,∃u0_2:Value,∃u0_3:Value,∃r0:Mk,∃u1:Value,∃r1:List Rec,∃m0:Sq,∃u50_0:Value,∃Q':Nat→Prop,en = .returned (.tuple #[.pointer (some ⟨o0,0,none⟩),u1])∧Md [b0] w w'∧rZ w w' Q Q'∧ck w' o0 (Mk.cells r0 u0_0 u0_1 u0_2 u0_3) 91∧¬Q' o0∧w.heap.size≤o0∧Mk.ok r0∧Ow fI 5 (cr [] w) w' Q' u0_0 r0.b∧Ow ea 146 (cr [] w) w' Q' u0_1 r0.ai∧Ow ea 146 (cr [] w) w' Q' u0_2 r0.aj∧Ls dY w' Q' u0_3 r0.main∧(∀x,ah u0_1=some x→ah u0_2≠some x)∧Ls ag2 w' Q' u1 r1∧ck w' b0 (Sq.cells m0 u50_0) 57∧¬Q' b0∧Sq.ok m0∧Ls qw w' Q' u50_0 m0.l∧s.pY bY=(r0,r1,m0):=by
 have N:=n0;have B0:cr [b0] w b0:=.inl Oq;have M:=Md.refl [b0] w;have Dl:=uQ;have tQ:∀b,Q b→Q b:=fun _ h=>h;have p:∀b,Q b→b<w.heap.size→Q b:=fun _ h _=>h;refine enter (n:=53) Tryz.func15 q q q fun B=>ns (d9 q (an q (nm q (ax ala q (PG uQ s h0 N a0_0 a0_1) ?_))));rintro en w1 ⟨B3,Dd,D9,rfl,U,C7,Cm,Cp,Cr,e,Ce⟩;refine rv ?_;have hP:∀i∈[b0],cr [b0] w i:=(hI B0);have y:∀i∈[b0],¬Q i:=(hI N);replace M:=M.step U hP;replace uQ:=uQ.md U;clear hP y h0 N;have h0:=Cm;have N:=Cp;clear Cm Cp;refine cw z76 ?_;intro Cb w2 C3 Ej U Ag;have Ef:b0≠Cb:=(by have:=h0.lt;omega);obtain⟨Q3,sQ,sT,Cu,Aq⟩:=kM uQ C3 Ej U;replace N:=nQ N sT;replace tQ:=tT tQ sT;replace p:=fun b X hl=>sQ b (p b X hl) (lj hl M.size);replace C3:=ly M.size C3;replace h0:=h0.o U;replace e:=(e.sub sQ).o U;replace M:=M.k U;replace uQ:=Aq;clear Aq sQ sT;have Dj:cr [] w Cb:=.inr C3;replace Ag:ck _ _ (nZ.cells (Zd)) _:=Ag;have E4:nZ.ok (Zd):=(by exact⟨q,q,q,Om,Om,Om⟩);refine aZ (us:=(nZ.cells B3)) q q (by exact NV) (by exact fun u hu=>bH (nZ.one) u hu) Ag (lB q) ?_;have D4:=Ag;clear Ag;intro w5 U Ag
 have y:∀b∈[Cb],¬Q3 b:=(hI Cu);replace h0:=h0.md U Nv;replace e:=e.md U y;replace uQ:=uQ.md U;replace M:=M.step U (hI (cr.wid Dj));clear D4 y;replace Ag:ck _ _ (nZ.cells B3) _:=Ag;refine nt (aP ?_);have Ci:=Ag;have E9:∀b∈[b0],¬Q3 b:=eY N all_nil;refine dX [(0,true),(1,true),(2,false),(3,true)] [4,5] (fun w'=>Md [b0] w5 w') eC Ym ?_;intro w6 Bk;refine⟨Bk.mono Oq,?_⟩;have MC:=Bk.mono (T:=[b0]) Oq;have cs:=uS s;rw[Ce]at cs;simp only at cs;refine mz (fun w' hc=>dc (nZ.cells B3) q (by exact NV) (Ci.md hc Vw) q) (mo q ?_);obtain⟨h0,e,Ag,uQ,M⟩:=k5 Bk h0 e Ag uQ M;refine m_c ?_ rfl;refine ax yq q (oo uQ Dd h0 N Cr e 6 Oh Oh) ?_;rintro en w7 ⟨Df,De,Ct,rfl,U,E5,Co,Cq,Cs,Aa,Cf⟩;refine rv ?_;have hP:∀i∈[b0],cr [b0] w i:=(hI B0);have y:∀i∈[b0],¬Q3 i:=(hI N);have Bx:Cb∉[b0]:=(cT Oh Oq);replace Ag:=Ag.md U Bx;clear Bx;replace M:=M.step U hP;replace MC:=MC.step U (fun i hi=>Or.inl (by simpa using hi));replace uQ:=uQ.md U;clear hP y h0 N;have h0:=Co;have N:=Cq;clear Co Cq;have C8:=Sq.kE Dd 6;rw[Cf]at C8;try simp only[LL,Nat.reduceAdd,Nat.reduceMul]at C8
 refine aH ⟨q,MC,fun w'=>Md [b0] w7 w',Md.refl _ _,fun x hx=>MC.trans hx,?_⟩;clear Ci;replace MC:=Md.refl [b0] w7;refine mz (fun w' hc=>eF (a:=Df) 18446744073709551616 q (by rw[u3];rfl) mE q Oh) (ec ?_);clear MC;refine ax alb q (HB uQ B3 C7 Df Oh Oh Oh) ?_;rintro en w8 ⟨Y,Cx,Cy,Cz,C0,C2,Q9,rfl,U,⟨sQ,sT,Aq⟩,K,G,Af,Cw,Am,Ao,Ap,Bg,Ah,Cg⟩;refine rv ?_;have Do:b0≠Y:=(by have:=h0.lt;omega);have Dg:Cb≠Y:=(by have:=Ag.lt;omega);have C1:cr [] w Y:=cr.new M _ Af;replace Af:=ly M.size Af;replace N:=nQ N sT;replace tQ:=tT tQ sT;replace p:=fun b X hl=>sQ b (p b X hl) (lj hl M.size);replace Am:=Am.lower (cr.lift (S':=[]) M);replace Ao:=Ao.lower (cr.lift (S':=[]) M);replace Ap:=Ap.lower (cr.lift (S':=[]) M);replace h0:=h0.o U;replace Aa:=(Aa.sub sQ).o U;replace M:=M.k U;replace uQ:=Aq;clear Aq sQ sT;refine an q (ns (d9 q (nt (aP (bF ?_)))));have El:vV C2:=(by rw[← Cg];exact xh cs.1 cs.2.1 cs.2.2);obtain⟨r0,Cj⟩:∃r,jL (bY-([]:List Rec).length) De C2 ([]:List Rec)=r:=⟨_,q⟩;have Ck:=Cj
 try simp only[List.nil_append,Ce,Cf,Cg]at Cj
 refine akl (fun(mm:Mk) (f:Value) (S:Value) (L:Value) (Ac:Value) (sq:Sq) (A5:Value) (vo:Value) (o:List Rec)=>[(8,vo),(0,(.pointer (some ⟨b0,0,none⟩))),(1,(.int .i64 bY)),(4,(.pointer none)),(5,SN),(7,(.pointer (some ⟨Y,0,none⟩)))]) (fun(mm:Mk) (f:Value) (S:Value) (L:Value) (Ac:Value) (sq:Sq) (A5:Value) (vo:Value) (o:List Rec) w'=>∃Q':Nat→Prop,(∀b,Q' b→Q b)∧(∀b,Q b→b<w.heap.size→Q' b)∧Up w' Q'∧Md [b0] w w'∧ck w' Y (Mk.cells mm f S L Ac) 91∧Ow fI 5 (cr [] w) w' Q' f mm.b∧Ow ea 146 (cr [] w) w' Q' S mm.ai∧Ow ea 146 (cr [] w) w' Q' L mm.aj∧Ls dY w' Q' Ac mm.main∧Mk.ok mm∧ck w' b0 (Sq.cells sq A5) 57∧Ls qw w' Q' A5 sq.l∧Sq.ok sq∧Ow ag2 82 (cr [] w) w' Q' vo o∧¬Q' Y∧¬Q' b0∧(∀x,ah S=some x→ah L≠some x)∧vV mm∧o.length≤bY∧jL (bY-o.length) sq mm o=r0) (fun(mm:Mk) (f:Value) (S:Value) (L:Value) (Ac:Value) (sq:Sq) (A5:Value) (vo:Value) (o:List Rec)=>bY-o.length) (x0:=C2) (x1:=Cx) (x2:=Cy) (x3:=Cz) (x4:=C0) (x5:=De) (x6:=Ct) (x7:=SN) (x8:=([]:List Rec)) ?_ ?_ ?_
 ·exact⟨q,q,q,q,q,q,tV⟩
 ·exact⟨Q9,tQ,p,uQ,M,K,Am,Ao,Ap,Bg,Cw,h0,Aa,Cs,(Ow.nil _ _ _ _ _),G,N,Ah,El,Oq,(by have hh:=Cj;exact hh)⟩
 clear M uQ tQ p N Cu G a0_1 h0 e Ag Aa Am Ao Ap Bg K
 rintro mm f S L Ac sq A5 vo o B Es ⟨Dr,tQ,p,uQ,M,K,E,C,A,D,Be,h0,Aw,Cl,P,G,N,O,Dc,E0,C5⟩;refine aP (nm q (sL q u52 P.eJ (mv q (st _ (gq (a:=o.length) (b:=bY) q q) (mv q ?_)))));refine dR (t:=23) q (fun Bd=>?_) (fun Bd=>?_)
 ·(have Bo:=dT Bd);refine sg Bd (bf q) (gL q q q Bd alc q (ZA uQ sq h0 N Cl Aw) ?_);rintro en Et ⟨Ev,Ay,Dq,rfl,U,Br,Bu,Bb,j,C9⟩;refine rv ?_;have hP:∀i∈[b0],cr [b0] w i:=(hI B0);have y:∀i∈[b0],¬Dr i:=(hI N);have k:∀b,ah f=some b→b∉[b0]:=fun b X=>(cT (E.iE h0 Om b X) Oq);have d:∀b,ah S=some b→b∉[b0]:=fun b X=>(cT (C.iE h0 Om b X) Oq);have Z:∀b,ah L=some b→b∉[b0]:=fun b X=>(cT (A.iE h0 Om b X) Oq);have Ab:Y∉[b0]:=(cT Oh Oq);have v:∀b,ah vo=some b→b∉[b0]:=fun b X=>(cT (P.iE h0 Om b X) Oq);replace E:=E.md U k y;clear k;replace C:=C.md U d y;clear d;replace A:=A.md U Z y;clear Z;replace D:=D.md U y;replace K:=K.md U Ab;clear Ab;replace P:=P.md U v y;clear v;replace M:=M.step U hP;replace uQ:=uQ.md U;clear hP y h0 N;have h0:=Br;have N:=Bu;clear Br Bu;refine st _ (bK q Bd q) (nt ?_);refine cA q (fun Cc=>?_) (fun Cc=>?_)
  ·(have D0:=Cc)
   have B4:sq=Ay∧sq.b9<sq.l.length:=by
    have h:=C9;rw[Cc]at h;simp[Sq.more]at h;exact⟨h.2,by omega⟩
   refine bh (au (bF (ns (m2 q q (ax ahT q (yG uQ mm K G Be (E.fO (fun _ _=>trivial)) (C.fO (fun _ _=>trivial)) (A.fO (fun _ _=>trivial)) D O) ?_)))));rintro en Fd ⟨Bn,rfl,U,En,D1⟩;refine rv ?_;obtain⟨E,C,A,D,K,h0,P,j⟩:=k8 U E C A D K h0 P j;obtain⟨uQ,M⟩:=k2 U uQ M;refine st _ (sH (a:=Bn) (b:=1) 18446744073709551616 q q q q) (ax ald q (PL uQ Ay h0 N Bb j ((Bn+1)%18446744073709551616) Oh) ?_);rintro en Fe ⟨Ae,W,Bl,B5,rfl,U,Ad,V,Bs,Bv,Bc,F,Da⟩;refine rv ?_;have hP:∀i∈[b0],cr [b0] w i:=(hI B0);have y:∀i∈[b0],¬Dr i:=(hI N);have k:∀b,ah f=some b→b∉[b0]:=fun b X=>(cT (E.iE h0 Om b X) Oq);have d:∀b,ah S=some b→b∉[b0]:=fun b X=>(cT (C.iE h0 Om b X) Oq);have Z:∀b,ah L=some b→b∉[b0]:=fun b X=>(cT (A.iE h0 Om b X) Oq);have Ab:Y∉[b0]:=(cT Oh Oq);have v:∀b,ah vo=some b→b∉[b0]:=fun b X=>(cT (P.iE h0 Om b X) Oq);replace E:=E.md U k y;clear k;replace C:=C.md U d y;clear d;replace A:=A.md U Z y;clear Z;replace D:=D.md U y;replace K:=K.md U Ab;clear Ab;replace P:=P.md U v y;clear v;replace M:=M.step U hP;replace uQ:=uQ.md U;clear hP y h0 N;have h0:=Bs;have N:=Bv;clear Bs Bv;refine cw z82 ?_;intro Bj Ff C4 Ek U z
   have Dp:Y≠Bj:=(by have:=K.lt;omega);have Eg:b0≠Bj:=(by have:=h0.lt;omega);have Av:∀x,ah vo=some x→x≠Bj:=fun x hx h=>by have h3:=P.lt x hx;omega
   obtain⟨Ds,sQ,sT,Di,Aq⟩:=kM uQ C4 Ek U;replace G:=nQ G sT;replace N:=nQ N sT;replace tQ:=tT tQ sT;replace p:=fun b X hl=>sQ b (p b X hl) (lj hl M.size);replace C4:=ly M.size C4;replace E:=(E.sub sQ sT).o U;replace C:=(C.sub sQ sT).o U;replace A:=(A.sub sQ sT).o U;replace D:=(D.sub sQ).o U;obtain⟨K,h0⟩:=k2 U K h0;replace P:=(P.sub sQ sT).o U;replace F:=(F.sub sQ).o U;replace V:=(V.sub sQ).o U;replace M:=M.k U;replace uQ:=Aq;clear Aq sQ sT;have Dk:cr [] w Bj:=.inr C4;replace z:ck _ _ (Rec.cells (Zc) SN) _:=z;have Em:Rec.ok (Zc):=(by exact⟨Om,Om,Om,q⟩);refine aZ (us:=(Rec.cells W Ae)) q q (by exact ri) (by exact fun u hu=>bH (Rec.one V.cg) u hu) z (lB q) ?_;have Bq:=z;clear z;intro Fg U z;have y:∀b∈[Bj],¬Ds b:=(hI Di);replace E:=E.md U (aB Bq E) y;replace C:=C.md U (aB Bq C) y;replace A:=A.md U (aB Bq A) y;replace D:=D.md U y;replace K:=K.md U Nv;replace h0:=h0.md U Nv;replace P:=P.md U (fF Av) y
   replace F:=F.md U y;replace V:=V.md U y;replace uQ:=uQ.md U;replace M:=M.step U (hI (cr.wid Dk));clear Bq y;replace z:ck _ _ (Rec.cells W Ae) _:=z;refine nt (aP (nm q (sf q MH (sl (u:=Ae) q ad5 z q (sf q afM (sl (u:=(.int .u64 W.cu)) q bA z q ?_))))));have Fa:W.cu<18446744073709551616:=Ad.2.1;refine sf q afN (sl (u:=(.int .u64 W.mono)) q bA z q ?_);have Fb:W.mono<18446744073709551616:=Ad.2.2.1;refine sf q afO (st _ (dc (jS W.bV) q (by exact mZ) z q) ?_);have Fc:W.bV.length=16:=Ad.2.2.2;have Er:(∀qv∈W.aj,BD qv)∧W.aj.length≤16:=(by have h:=aam Ay ((Bn+1)%18446744073709551616);rw[Da]at h;exact h);refine ax ale q (PY uQ mm K G Be (E.fO (fun _ _=>trivial)) (C.fO (fun _ _=>trivial)) (A.fO (fun _ _=>trivial)) D O V W.cu Oh W.mono Oh W.bV Vv (by exact Dc) (by exact Oh) (by exact(fun qv hq=>by have:=(Er.1 qv hq).1;omega))) ?_;rintro en Eu ⟨Ew,Dm,Bm,B6,B7,B8,B9,Ec,rfl,U,⟨sQ,sT,Aq⟩,Eo,Ep,Bt,Bw,Ar,H,I,J,c,g,Bp⟩;refine rv ?_;have hP:∀i∈(vS Y f S L),cr [] w i:=(eY C1 (fK (rF E) (fK (rF C) (rF A))));have y:∀i∈(vS Y f S L),¬Ds i:=(eY G (fK (rN E) (fK (rN C) (rN A))))
   have Cv:b0∉(vS Y f S L):=(cT Oh (dO (aW E h0) (dO (aW C h0) (aW A h0))));have v:∀b,ah vo=some b→b∉(vS Y f S L):=fun b X=>(cT (P.iE K Om b X) (dO ((aO E P) b X) (dO ((aO C P) b X) ((aO A P) b X))));have Bz:Bj∉(vS Y f S L):=(cT Oh (dO (aW E z) (dO (aW C z) (aW A z))));replace H:=H.fO (fun x hx=>(H.2 x hx).1);replace H:=H.fO (fun x hx=>(H.2 x hx).1.elim (hP x) (cr.new M x));replace I:=I.fO (fun x hx=>(I.2 x hx).1);replace I:=I.fO (fun x hx=>(I.2 x hx).1.elim (hP x) (cr.new M x));replace J:=J.fO (fun x hx=>(J.2 x hx).1);replace J:=J.fO (fun x hx=>(J.2 x hx).1.elim (hP x) (cr.new M x));replace N:=nQ N sT;replace tQ:=tT tQ sT;replace p:=fun b X hl=>sQ b (p b X hl) (lj hl M.size);replace y:=fun i hi hq=>y i hi (sT i hq);replace h0:=h0.md U Cv;clear Cv;replace P:=(P.sub sQ sT).md U v y;clear v;replace F:=(F.sub sQ).md U y;replace V:=(V.sub sQ).md U y;replace z:=z.md U Bz;clear Bz;replace M:=M.step U (fun i hi=>cr.wid (hP i hi));replace uQ:=Aq;clear Aq sQ sT;clear hP y K G;have K:=Bt;have G:=Bw;clear Bt Bw;clear A;clear C;clear E;refine mv q (se q q (se q q ?_))
   refine d9 q (an q (ns ?_))
   have D8:vV Bm:=by
    have h:=xS (raw:=W.aj) (cu:=W.cu) (mono:=W.mono) (bV:=W.bV) Dc (by exact Ad.2.2.2) (by rw[Bp];exact Ar.2.1.2.2.2.2.2.2.2.1.1);rw[Bp]at h;exact h
   have Db:sq.record ((mm.cP 9+1)%18446744073709551616)=(W,Bl):=(by rw[B4.1,D1];exact Da);refine mv q (st _ (eX (a:=Dm) (b:=0) q q) (nt ?_));refine cA q (fun Dh=>?_) (fun Dh=>?_)
   ·(have Cd:=dT Dh);refine dW (bU (aes q (bU (eS (au (ns (m2 q q (d9 q (ar q ?_)))))))));obtain⟨Du,fQ,fT,Au⟩:=P.freeze;replace G:=fun hh=>(fT _ hh).elim G (RP (aW P K));replace N:=fun hh=>(fT _ hh).elim N (RP (aW P h0));replace F:=F.sub (fun b X _=>fQ b X);replace H:=H.lp fQ fT (aO P H);replace I:=I.lp fQ fT (aO P I);replace J:=J.lp fQ fT (aO P J);replace c:=c.sub (fun b X _=>fQ b X);replace tQ:=fun b X=>(fT b X).elim (tQ b) (fun hv=>cr.up Dl b (P.2 b hv).1);replace p:=fun b X hl=>fQ b (p b X hl);replace uQ:Up Eu Du:=fun b X=>fQ b (uQ b X);clear P fQ fT;have P:=Au;clear Au;have e0:s.pY bY=r0:=(by unfold Sq.pY;simp only[Ce,Cf,Cg];exact Ck);exact eA (vs:=[(.pointer (some ⟨Y,0,none⟩)),vo]) trivial q ⟨q,q,tV⟩ q ⟨Y,_,_,_,_,Bm,_,o,Bl,_,Du,q,M,⟨p,tQ,uQ⟩,K,G,Af,Ar,H,I,J,c,g,P,h0,N,Bc,F,(by rw[e0,← C5,ZI Bo B4.2 Db Bp Cd])⟩
   (have Cd:=dF Dh);refine bh (au (aQ (mv q (st _ (dc (Rec.cells W Ae) q (by exact ri) z q) (bP [(Rec.cells W Ae)] u52 agU Om Om q q ⟨q,tV⟩ ⟨q,tV⟩ q Om ?_)))));intro Ex Fh Dz E3 U Ch;have Eb:=uQ _ Dz;obtain⟨K,h0,P,F,V,z,H,I⟩:=k8 U K h0 P F V z H I;obtain⟨J,c,uQ,M⟩:=k4 U J c uQ M;replace Ch:=Ls.e5 (m:=1) (R:=Ec) (T:=ag2) (xs:=[W]) Ch ⟨_,_,q,(ag3 Ad V),q⟩ q Om Eb;refine gw (sz:=20) (by rfl) u52 agU q q P Ch (fun _ h _=>h) uQ (cr.new M) Wx Wx ?_;intro Ea Fi Ed sQ sT Aq D3 U y _ D7;have C6:∀x,ah Ea=some x→x≠Bj:=fun x hx h=>(D7 x hx).elim (fun h2=>Av x h2 h) (fun h2=>by have h3:=z.lt;omega);have A9:=P;clear P;replace G:=nQ G sT;replace N:=nQ N sT;replace H:=H.sub sQ sT;replace I:=I.sub sQ sT;replace J:=J.sub sQ sT;replace c:=c.sub sQ;replace tQ:=tT tQ sT;replace p:=fun b X hl=>sQ b (p b X hl) (lj hl M.size);replace K:=K.md U (aW A9 K);replace h0:=h0.md U (aW A9 h0);replace F:=(F.sub sQ).md U y
   replace H:=H.md U (aO A9 H) y;replace I:=I.md U (aO A9 I) y;replace J:=J.md U (aO A9 J) y;replace c:=c.md U y;replace uQ:=uQ.md U;replace M:=M.eD U (fun b X=>cr.wid (A9.2 b X).1);replace uQ:=Aq;clear Aq sQ sT y D7;refine d9 q (aH (bW (au ?_)));refine akn (x0:=Bm) (x1:=B6) (x2:=B7) (x3:=B8) (x4:=B9) (x5:=Bl) (x6:=B5) (x7:=Ea) (x8:=(o ++ ([W]))) Vw ⟨q,q,q,q,q,q,tV⟩ ⟨Ed,tQ,p,uQ,M,K,H,I,J,c,Ar,h0,F,Bc,D3,G,N,g,D8,Vw,(by have hh:=C5;rw[ZJ Bo B4.2 Db Bp Cd]at hh;exact hh)⟩
  (have D0:=Cc)
  have B4:sq=Ay∧¬sq.b9<sq.l.length:=by
   have h:=C9;rw[Cc]at h;simp[Sq.more]at h;exact⟨h.2,by omega⟩
  refine dW (bU (bU (eS (au (ns (m2 q q (d9 q (ar q ?_))))))));obtain⟨Dv,fQ,fT,Au⟩:=P.freeze;replace E:=E.lp fQ fT (aO P E);replace C:=C.lp fQ fT (aO P C);replace A:=A.lp fQ fT (aO P A);replace D:=D.sub (fun b X _=>fQ b X);replace G:=fun hh=>(fT _ hh).elim G (RP (aW P K));replace N:=fun hh=>(fT _ hh).elim N (RP (aW P h0));replace j:=j.sub (fun b X _=>fQ b X);replace tQ:=fun b X=>(fT b X).elim (tQ b) (fun hv=>cr.up Dl b (P.2 b hv).1);replace p:=fun b X hl=>fQ b (p b X hl);replace uQ:Up Et Dv:=fun b X=>fQ b (uQ b X);clear P fQ fT;have P:=Au;clear Au;have e0:s.pY bY=r0:=(by unfold Sq.pY;simp only[Ce,Cf,Cg];exact Ck);exact eA (vs:=[(.pointer (some ⟨Y,0,none⟩)),vo]) trivial q ⟨q,q,tV⟩ q ⟨Y,_,_,_,_,mm,_,o,Ay,_,Dv,q,M,⟨p,tQ,uQ⟩,K,G,Af,Be,E,C,A,D,O,P,h0,N,Bb,j,(by rw[e0,← C5,EH (fun h=>B4.2 h.2),B4.1])⟩
 (have Bo:=dF Bd);refine sk Bd (sk Bd (st _ (aS q Bd q) (nt (jR q q (dW (bU (bU (eS (au (ns (m2 q q (d9 q ?_))))))))))));refine ar q ?_;obtain⟨Dw,fQ,fT,Au⟩:=P.freeze;replace E:=E.lp fQ fT (aO P E);replace C:=C.lp fQ fT (aO P C);replace A:=A.lp fQ fT (aO P A);replace D:=D.sub (fun b X _=>fQ b X);replace G:=fun hh=>(fT _ hh).elim G (RP (aW P K));replace Aw:=Aw.sub (fun b X _=>fQ b X);replace N:=fun hh=>(fT _ hh).elim N (RP (aW P h0));replace tQ:=fun b X=>(fT b X).elim (tQ b) (fun hv=>cr.up Dl b (P.2 b hv).1);replace p:=fun b X hl=>fQ b (p b X hl);replace uQ:Up Es Dw:=fun b X=>fQ b (uQ b X);clear P fQ fT;have P:=Au;clear Au;have e0:s.pY bY=r0:=(by unfold Sq.pY;simp only[Ce,Cf,Cg];exact Ck);exact eA (vs:=[(.pointer (some ⟨Y,0,none⟩)),vo]) trivial q ⟨q,q,tV⟩ q ⟨Y,_,_,_,_,mm,_,o,sq,_,Dw,q,M,⟨p,tQ,uQ⟩,K,G,Af,Be,E,C,A,D,O,P,h0,N,Cl,Aw,(by rw[e0,← C5,EH (fun h=>Bo h.1)])⟩
theorem akR:dZ Zp 15=true:=Ym
theorem akS:dZ Zp 16=true:=Ym
theorem al9:gV Zp 57=some [(0,1),(1,1)]:=Ym
theorem z57:fR Zp 57=some [.slice none 0 0,.int .i64 0]:=Ym
theorem zB (uQ:Up w Q) {v0:Value} {l:List Int} (h0:Ls qw w Q v0 l) (bY:Nat) (p1:bY≤100000) :
  Calls Zp 6 #[v0,.int .i64 bY] w fun en w'=>∃u0:Value,∃r0:List UInt8,en = .returned u0∧Md [] w w'∧Ls fI w' Q u0 r0∧∃(m:Mk) (rs:List Rec) (s:Sq),(Sq.mk l 0).pY bY=(m,rs,s)∧Mk.ok m∧mG m 1=r0∧r0.length≤100000:=by
 refine enter (n:=17) Tryz.func6 q q q ?_;intro B;have g:=h0.gm;refine ns (an q (nm q (st (.agg (Sq.cells {l:=l,b9:=0} v0).toArray) (nL (cs:=Sq.cells {l:=l,b9:=0} v0) (ps:=[(0,0)]) z57 al9 q q (by simp[qV,h0.cg]) q q q) (gN (cs:=Sq.cells {l:=l,b9:=0} v0) q q ?_))));intro b w1 K Y F O;obtain⟨h,d,z,Z,e⟩:=kM uQ K Y F;replace h0:=(h0.sub d).o F;have M:=F;refine mv q (ax akR q (SK e {l:=l,b9:=0} O Z (show Sq.ok _ from(by decide:(0:Nat)<9223372036854775808)) h0 bY Oh p1) ?_);rintro en f ⟨a,x0,x1,x2,x3,m,y0,rs,y,z0,i,rfl,G,⟨v,x,u2⟩,P,t,o,C,U,V,W,I,k,X,p,u,c,T,L⟩;refine rv ?_;have J:=M.fW G K;refine mv q (se q q (se q q (d9 q (an q (nm q ?_)))));have E:=(ac2 L).1;have D:=E.small;have A:=E.hd;have S:Pt tMk 91 f (fun _=>True) (.pointer (some ⟨a,0,none⟩)) m:=⟨_,_,q,trivial,P,aiQ C (U.ls (fun _ _=>trivial) fun _ _=>trivial) (V.ls (fun _ _=>trivial) fun _ _=>trivial) (W.ls (fun _ _=>trivial) fun _ _=>trivial) (I.sub fun _ _ _=>trivial)⟩;refine ax akS q (SZ (Q:=fun _=>True) (fun _ _=>trivial) S 1 Om A Oh) ?_;rintro en w3 ⟨u0,r0,j,rfl,H,r,R,N⟩;refine rv ?_;refine ar q ?_;refine j4 trivial q q ⟨_,r0,q,J.k H,R.lsB (uQ.md J),_,_,_,L,C,N,?_⟩;rw[← N];exact SH C.2.1 D
theorem PK (uQ:Up w Q) {v0:Value} {l:List Int} (h0:Ls qw w Q v0 l) (bY:Nat) (p1:bY≤100000) :
  Calls Zp 6 #[v0,.int .i64 bY] w fun en w'=>∃u0:Value,∃r0:List UInt8,en = .returned u0∧Md [] w w'∧Ls fI w' Q u0 r0∧wV l bY=r0∧r0.length≤100000 :=
 (zB uQ h0 bY p1).mono fun en w' ⟨u0,r0,h1,h2,h3,m,rs,s,h4,h5,h6,h7⟩=>⟨u0,r0,h1,h2,h3,by unfold wV;rw[h4];exact h6,h7⟩
theorem fn6:dZ Zp 6=true:=Ym
theorem fn7:dZ Zp 7=true:=Ym
theorem fn8:dZ Zp 8=true:=Ym
theorem PI (uQ:Up w Q) {v0:Value} {l:List Int} (h0:Ls qw w Q v0 l) (bY:Nat) (a1:bY<9223372036854775808) (p0:bY≤100000) :
  Calls Zp 6 #[v0,.int .i64 bY] w fun en w'=>∃u0:Value,∃r0:List UInt8,en = .returned u0∧Md [] w w'∧Ls fI w' Q u0 r0∧PC l bY=r0 :=
 (PK uQ h0 bY p0).mono fun en w' ⟨u0,r0,h1,h2,h3,h4,h5⟩=>⟨u0,r0,h1,h2,h3,afu h4 h5⟩
theorem CF:ckC (PC [] 0)=0∧(oW (PC [] 0)).ats.length=2∧(PC [] 0).length≤1000000:=by decide +kernel
theorem ad6:(lS []).2=22:=by decide +kernel
set_option maxRecDepth 100000 in
theorem OH (uQ:Up w Q)  :
  Calls Zp 5 #[] w fun en w'=>∃r0:Bool,en = .returned (.bool r0)∧Md [] w w'∧true=r0:=by
 have M:=Md.refl [] w;have g:=uQ;refine enter (n:=29) Tryz.func5 q q q fun B=>ns (an q (ns (ax fn7 q (KW uQ (Ls.nil fI _ _) (by rw[ad6];decide) Oq) ?_)));rintro en k ⟨O,P,rfl,H,W,X,S⟩;refine rv ?_;obtain⟨uQ,M⟩:=k2 H uQ M;refine mv q (se q q (se q q (d9 q (an q (ns ?_)))));have U:=S;rw[ad6]at U;obtain⟨h,i⟩:=Prod.mk.inj U;refine ax fn6 q (PI uQ (Ls.nil qw _ _) 0 Oh Oh) ?_;rintro en l ⟨Z,d,rfl,H,L,F⟩;refine rv ?_;obtain⟨uQ,M⟩:=k2 H uQ M;have G:=aco ([]) 0;rw[F]at G;try simp only[LL,Nat.reduceAdd,Nat.reduceMul]at G
 refine ax fn8 q (vF uQ L (by rw[← F];exact CF.1) (by rw[← F];exact CF.2.2)) ?_;rintro en o ⟨c,E,R,rfl,H,N,Y,T⟩;refine rv ?_;replace M:=M.k H;refine mv q (se q q (se q q (d9 q (an q (ns ?_)))));have V:=T;rw[← F]at V;obtain⟨e,j⟩:=Prod.mk.inj V;have f:=congrArg List.length e;rw[CF.2.1]at f;refine mv q (st _ (gO (a:=O) (b:=0) q q) (mv q ?_));refine dR (t:=16) q (fun C=>?_) (fun C=>?_)
 ·(have I:=dT C);refine sg C (bf q) (sg C (gO (a:=P) (b:=22) q q) (st _ (bK q C q) (mv q ?_)));refine dR (t:=20) q (fun D=>?_) (fun D=>?_)
  ·(have J:=dT D);refine sg D (bf q) (sg D (gO (a:=R) (b:=0) q q) (st _ (bK q D q) (mv q ?_)));refine dR (t:=24) q (fun A=>?_) (fun A=>?_)
   ·(have K:=dT A);refine sg A (bf q) (sg A (jq q jh N.eJ) (sg A (gO (a:=E.length) (b:=2) q q) (st _ (bK q A q) (ar q ?_))));exact dP (v:=(.bool ((decide (E.length=2))))) trivial q ⟨q,tV⟩ ⟨(decide (E.length=2)),q,M,(by exact(decide_eq_true Oh).symm)⟩
   (have K:=dF A);exfalso;omega
  (have J:=dF D);exfalso;omega
 (have I:=dF C);exfalso;omega
end Go.Proofs.YtmobbnpkkmeoiaaGreat
namespace Go.Wk
open Go Go.RowKit
def nj:Nat→Nat
  | 0=>0
  | k+1=>nj k+eL (k:Int)
theorem JX:∀(l:List Nat) (k a:Nat),gy l k a (nj k)=(if l=[]then a else nj (k+l.length-1),nj (k+l.length))
  | [],_,_=>rfl
  | x :: l,k,a=>by
    have:=JX l (k+1) (nj k)
    rw[show gy (x :: l) k a (nj k)=gy l (k+1) (nj k) (nj (k+1))from rfl,this]
    have h1:k+1+l.length=k+(l.length+1):=by omega
    simp only[List.length_cons,h1,reduceCtorEq,if_false,Prod.mk.injEq,and_true]
    split
    · rename_i h;subst h;rfl
    · rfl
theorem aaq (l:List Nat):gy l 0 0 0=(nj (l.length-1),nj l.length):=by
  have:=JX l 0 0
  simp only[nj,Nat.zero_add]at this
  rw[this]
  congr 1
  split
  · rename_i h;subst h;rfl
  rfl
theorem ab0 {i j:Nat} (h:i≤j):nj i≤nj j:=by
  induction j with
  | zero=>rw[Nat.le_zero.1 h];exact Nat.le_refl _
  | succ j ih =>
    rcases Nat.lt_or_ge i (j+1)with A|A
    · have:=ih Oh;simp only[nj];omega
    · rw[show i=j+1 by omega];exact Nat.le_refl _
theorem ab1 {i j:Nat} (h:i<j):nj i+eL (i:Int)≤nj j:=ab0 (show i+1≤j from h)
theorem r8 (l:List Nat) (x i:Nat):(l ++ [x]).getD i 0=if i=l.length then x else l.getD i 0:=by
  simp only[List.getD_eq_getElem?_getD]
  by_cases h:i<l.length
  · rw[List.getElem?_append_left h,if_neg Oh]
  rw[List.getElem?_append_right Oh]
  by_cases h2:i=l.length
  · subst h2;simp
  rw[if_neg h2,List.getElem?_eq_none Vw,List.getElem?_eq_none Oh]
theorem getD_some {l:List Nat} {i x:Nat} (h:l[i]? = some x):l.getD i 0=x:=by simp[List.getD,h]
structure Chain (b:Ly) (l:List Ob) (src:Nat) (av aD:List Nat):Prop where
  word:fA b src=av.getD 0 0
  ob:∀k a:Nat,av[k]? = some a→(⟨a,6,24+8*eL (k:Int)⟩:Ob)∈l
  next:∀k a:Nat,av[k]? = some a→fA b (a+16)=av.getD (k+1) 0
  iJ:∀k a j:Nat,av[k]? = some a→j<eL (k:Int)→fA b (a+24+8*j)=aD.getD (nj k+j) 0
  GN:∀k a c:Nat,av[k]? = some a→av[k+1]? = some c→a<c
  lo:nj (av.length-1)≤aD.length
  hi:aD.length≤nj av.length
theorem RX {av:List Nat} (h:∀k a c:Nat,av[k]? = some a→av[k+1]? = some c→a<c):∀(d k a c:Nat),av[k]? = some a→av[k+d+1]? = some c→a<c
  | 0,k,a,c,h1,h2=>h k a c h1 h2
  | d+1,k,a,c,h1,h2=>by
    obtain⟨y,hy⟩:∃y,av[k+d+1]? = some y:=⟨_,List.getElem?_eq_getElem (by have:=(List.getElem?_eq_some_iff.1 h2).1;omega)⟩
    have:=RX h d k a y h1 hy
    have:=h (k+d+1) y c hy h2
    omega
def Src (l:List Ob) (a:Nat):Prop:=a+8≤272∨∃o∈l,o.kind≠6∧o.b9+16≤a∧a+8≤o.b9+mI o.size
theorem Src.body {l:List Ob} {a:Nat} (h:Src l a):Body l a:=h.imp id fun⟨o,h1,_,h2⟩=>⟨o,h1,h2⟩
theorem Src.apart {b:Ly} {l:List Ob} {a e:Nat} (h:Src l a) (hO:gd b 272 l e) {o:Ob} (ho:o∈l) (hk:o.kind=6):a+8≤o.b9∨o.b9+mI o.size≤a:=by
  rcases h with h|⟨x,C,A,D,E⟩
  · have:=(hO.mem ho).ge;omega
  rcases hO.sep ho C with rfl|B|B
  · exact absurd hk A
  · omega
  omega
theorem Src.mono {l r:List Ob} {a:Nat} (h:Src l a) (hs:∀o∈l,o∈r):Src r a:=h.imp id fun⟨o,h1,h2⟩=>⟨o,hs o h1,h2⟩
theorem Src.lt {b:Ly} {l:List Ob} {a e:Nat} (h:Src l a) (hO:gd b 272 l e):a+8≤e:=by
  rcases h with h|⟨x,A,B,C,D⟩
  · have:=hO.le;omega
  have:=(hO.mem A).le;omega
def zh (src:Nat) (av:List Nat) (a:Nat):Prop:=a=src∨∃k c:Nat,av[k]? = some c∧c+16≤a∧a+8≤c+24+8*eL (k:Int)
theorem jl (r:Nat):mI (24+8*r)=24+8*r:=by unfold mI;omega
section
variable {b c:Ly} {l:List Ob} {src e:Nat} {av aD:List Nat}
theorem Chain.apart (h:Chain b l src av aD) (hO:gd b 272 l e) {k k' a a':Nat} (ha:av[k]? = some a) (ha':av[k']? = some a') (hk:k≠k'):a+24+8*eL (k:Int)≤a'∨a'+24+8*eL (k':Int)≤a:=by
  have B:a≠a':=by
    rcases Nat.lt_or_ge k k' with A|A
    · have:=RX h.GN (k'-k-1) k a a' ha (by rw[show k+(k'-k-1)+1=k' by omega];exact ha');omega
    · have:=RX h.GN (k-k'-1) k' a' a ha' (by rw[show k'+(k-k'-1)+1=k by omega];exact ha);omega
  rcases hO.sep (h.ob k a ha) (h.ob k' a' ha')with A|A|A
  · exact absurd (congrArg Ob.b9 A) B
  · rw[jl]at A;simp only at A;omega
  rw[jl]at A;simp only at A;omega
theorem Chain.le (h:Chain b l src av aD) (hO:gd b 272 l e) {k a:Nat} (ha:av[k]? = some a):272≤a∧a+24+8*eL (k:Int)≤e:=by
  have:=hO.mem (h.ob k a ha)
  have B:=this.le
  have C:=this.ge
  rw[jl]at B
  simp only at B C
  omega
theorem Chain.mB {S:Nat→Prop} {r:List Ob} (h:Chain b l src av aD) (hO:gd b 272 l e) (hs:Src l src) (he:e≤b.length) (k:Eff S b c) (hr:∀o∈l,o∈r) (h1:∀a,S a→a+8≤src∨src+8≤a) (h2:∀k x:Nat,av[k]? = some x→∀a,S a→a+8≤x+16∨x+24+8*eL (k:Int)≤a):Chain c r src av aD:=by
  have D:=hs.lt hO
  refine⟨(k.fA Oh h1).trans h.word,fun i a A=>hr _ (h.ob i a A),fun i a A=>?_,fun i a j A C=>?_,h.GN,h.lo,h.hi⟩
  · have:=h.le hO A
    rw[k.fA Oh fun x B=>by have:=h2 i a A x B;omega]
    exact h.next i a A
  have:=h.le hO A
  rw[k.fA Oh fun x B=>by have:=h2 i a A x B;omega]
  exact h.iJ i a j A C
theorem Chain.put (h:Chain b l src av aD) (hO:gd b 272 l e) (hs:Src l src) (he:e≤b.length) {x p:Nat} (hx:x<18446744073709551616) (hn:av≠[]) (hp:av[av.length-1]? = some p) (hr:aD.length<nj av.length) :
    Chain (ja b (p+24+8*(aD.length-nj (av.length-1))) x) l src av (aD ++ [x]):=by
  have D:0<av.length:=List.length_pos_iff.2 hn
  have H:nj av.length=nj (av.length-1)+eL ((av.length-1:Nat):Int):=by rw[show av.length=(av.length-1)+1 by omega];rfl
  have F:=h.lo
  have G:=h.le hO hp
  generalize hq:p+24+8*(aD.length-nj (av.length-1))=q
  have B:=hs.apart hO (h.ob _ _ hp) rfl
  rw[jl]at B
  simp only at B
  refine⟨?_,h.ob,fun i a A=>?_,fun i a j A C=>?_,h.GN,?_,?_⟩
  · rw[gJ Oh];exact h.word
  · have:q+8≤a+16∨a+16+8≤q:=by
      by_cases hi:i=av.length-1
      · subst hi;rw[hp]at A;cases A;omega
      · have:=h.apart hO A hp hi;omega
    rw[gJ this];exact h.next i a A
  · rw[r8]
    by_cases hi:i=av.length-1
    · subst hi
      rw[hp]at A;cases A
      by_cases hj2:j=aD.length-nj (av.length-1)
      · rw[if_pos Oh,show p+24+8*j=q by omega]
        exact j9 Oh hx
      rw[if_neg Oh,gJ Oh]
      exact h.iJ _ _ j hp C
    have E:i<av.length:=(List.getElem?_eq_some_iff.1 A).1
    have:=ab1 (show i<av.length-1 by omega)
    have:=h.apart hO A hp hi
    rw[if_neg Oh,gJ Oh]
    exact h.iJ i a j A C
  · rw[List.length_append];simp only[List.length_singleton];omega
  rw[List.length_append];simp only[List.length_singleton];omega
end
theorem uM {av:List Nat} {p k a:Nat} (h:(av ++ [p])[k]? = some a):(k<av.length∧av[k]? = some a)∨(k=av.length∧a=p):=by
  rcases Nat.lt_or_ge k av.length with hk|hk
  · rw[List.getElem?_append_left hk]at h;exact .inl ⟨hk,h⟩
  have A:=(List.getElem?_eq_some_iff.1 h).1
  simp at A
  rw[List.getElem?_append_right hk,show k-av.length=0 by omega]at h
  exact .inr ⟨by omega,by simpa using h.symm⟩
def KO (r:Nat):List UInt8:=gD {next:=0,aD:=List.replicate r 0}
theorem KP (r:Nat):KO r=RO 6 (24+8*r) ++ nums (0 :: List.replicate r 0):=by
  unfold KO gD
  rw[xI Oh]
  have:(nums [0] ++ nums (List.replicate r 0)).length=8+8*r:=by simp[fV]
  simp only[this]
  rw[show(8-(16+(8+8*r))%8)%8=0 by omega,show 16+(8+8*r)=24+8*r by omega]
  simp[nums]
theorem Oi (r:Nat):(KO r).length=24+8*r:=by rw[KP];simp[kO,fV];omega
theorem YC {r i:Nat} (h:i≤r):fA (KO r) (16+8*i)=0:=by
  rw[KP,iR (by rw[kO];omega),kO,show 16+8*i-16=8*i by omega]
  refine HM (v:=0) ?_ Om
  cases i with
  | zero=>rfl
  | succ i=>simp only[List.getElem?_cons_succ];rw[List.getElem?_replicate,if_pos Oh]
theorem aeA (r:Nat):seg (KO r) 0 16=RO 6 (24+8*r):=by rw[KP];exact mQ _ _ (kO _ _).symm
theorem Chain.grow {b:Ly} {l:List Ob} {src:Nat} {av aD:List Nat} (h:Chain b l src av aD) (hO:gd b 272 l b.length) (hs:Src l src) (hb:b.length<1000000) (hr:aD.length=nj av.length) :
    let b1:=b ++ KO (eL (av.length:Int))
    let l1:=l ++ [(⟨b.length,6,24+8*eL (av.length:Int)⟩:Ob)]
    gd b1 272 l1 b1.length∧Chain (ja b1 (if av.length=0 then src else jX av+16) b.length) l1 src (av ++ [b.length]) aD:=by
  intro b1 l1
  have R:=uF (av.length:Int)
  have P:b1.length=b.length+(24+8*eL (av.length:Int)):=by simp[b1,Oi]
  have G:Eff (fun _=>False) b b1:=Eff.app _ _ _
  have U:=hO.le
  have M:gd b1 272 l1 b1.length:=by
    have:=(hO.mB G (Nat.le_refl _) (fun _ _ _ Y=>Y.elim)).app (o:=⟨b.length,6,24+8*eL (av.length:Int)⟩) rfl Oq Oq Vw Vw ?_
    · rw[jl]at this;rw[P];exact this
    · have L:=jr (x:=b) (y:=KO (eL (av.length:Int))) (p:=b.length) (n:=16) (Nat.le_refl _)
      rw[Nat.sub_self,aeA]at L
      exact L
  refine⟨M,?_⟩
  have I:∀i,i≤eL (av.length:Int)→fA b1 (b.length+16+8*i)=0:=fun i O=>by
    have:=iR (x:=b) (y:=KO (eL (av.length:Int))) (p:=b.length+16+8*i) Oh
    rw[show b.length+16+8*i-b.length=16+8*i by omega,YC O]at this
    exact this
  have J:=hs.lt hO
  have S:∀q,q+8≤b.length→fA b1 q=fA b q:=fun q E=>uO E
  have X:nj (av.length+1)=nj av.length+eL (av.length:Int):=rfl
  -- the place that leads to the new one
  have E:∃q,(if av.length=0 then src else jX av+16)=q∧q+8≤b.length∧(av=[]∧q=src∨∃p,av[av.length-1]? = some p∧0<av.length∧q=p+16):=by
    by_cases hz:av.length=0
    · exact⟨src,by rw[if_pos hz],J,.inl ⟨List.eq_nil_of_length_eq_zero hz,rfl⟩⟩
    · obtain⟨p,B⟩:∃p,av[av.length-1]? = some p:=⟨_,List.getElem?_eq_getElem Oh⟩
      have:=h.le hO B
      exact⟨p+16,by rw[if_neg hz,kX B],by omega,.inr ⟨p,B,by omega,rfl⟩⟩
  obtain⟨q,V,d,E⟩:=E
  rw[V]
  have D:∀F,F+8≤b.length→(q+8≤F∨F+8≤q)→fA (ja b1 q b.length) F=fA b F:=fun F W L=>(gJ L).trans (S F W)
  have C:fA (ja b1 q b.length) q=b.length:=j9 Oh Oh
  have H:∀i,i≤eL (av.length:Int)→fA (ja b1 q b.length) (b.length+16+8*i)=0:=fun i O=>(gJ Oh).trans (I i O)
  refine⟨?_,fun k a A=>?_,fun k a A=>?_,fun k a j A Z=>?_,fun k a c A N=>?_,?_,?_⟩
  · rcases E with⟨rfl,rfl⟩|⟨p,B,T,rfl⟩
    · exact C
    have K:=hs.apart hO (h.ob _ _ B) rfl
    rw[jl]at K
    simp only at K
    rw[D src J Oh,h.word,r8,if_neg Oh]
  · rcases uM A with⟨_,A⟩|⟨rfl,rfl⟩
    · exact List.mem_append_left _ (h.ob k a A)
    exact List.mem_append_right _ Oq
  · rcases uM A with⟨hk,A⟩|⟨rfl,rfl⟩
    · have Q:=h.le hO A
      rcases E with⟨rfl,_⟩|⟨p,B,T,rfl⟩
      · simp at hk
      by_cases hk2:k=av.length-1
      · subst hk2;rw[B]at A;cases A
        rw[C,r8,if_pos Oh]
      have:=h.apart hO A B hk2
      rw[D _ Oh Oh,h.next k a A,r8,if_neg Oh]
    have:=H 0 Oh
    rw[Nat.mul_zero,Nat.add_zero]at this
    rw[this,r8,if_neg Oh]
    simp
  · rcases uM A with⟨hk,A⟩|⟨rfl,rfl⟩
    · have Q:=h.le hO A
      have:q+8≤a+24+8*j∨a+24+8*j+8≤q:=by
        rcases E with⟨rfl,_⟩|⟨p,B,T,rfl⟩
        · simp at hk
        · by_cases hk2:k=av.length-1
          · subst hk2;rw[B]at A;cases A;omega
          · have:=h.apart hO A B hk2;omega
      rw[D _ Oh this]
      exact h.iJ k a j A Z
    have:=H (j+1) Oh
    rw[show b.length+16+8*(j+1)=b.length+24+8*j by omega]at this
    rw[this]
    symm
    simp only[List.getD_eq_getElem?_getD]
    rw[List.getElem?_eq_none Oh]
    rfl
  · rcases uM N with⟨hk,N⟩|⟨hk,rfl⟩
    · rcases uM A with⟨_,A⟩|⟨rfl,_⟩
      · exact h.GN k a c A N
      omega
    rcases uM A with⟨_,A⟩|⟨rfl,_⟩
    · have:=h.le hO A;omega
    omega
  · simp only[List.length_append,List.length_singleton,Nat.add_sub_cancel];omega
  simp only[List.length_append,List.length_singleton];omega
end Go.Wk
namespace Go.Wk
open Go Go.RowKit
structure Cn (m:Mk) (l:List Ob):Prop where
  len:19≤m.h.n.length
  n6:m.cP 6=jX (l.map Ob.b9)
  n7:m.cP 7=l.length%18446744073709551616
  n17:m.cP 17=0
  n18:m.cP 18=(l.filter fun o=>decide (o.kind=6)).length%18446744073709551616
  k:∀o∈l,o.kind≠7∧(o.kind=6→∃r,1≤r∧o.size=24+8*r)∧(o.kind=4∨o.kind=5→∃r,1≤r∧o.size=16+16*r)
theorem Cn.to {m m':Mk} {l:List Ob} (h:Cn m l) (hl:m'.h.n.length=m.h.n.length) (hn:∀i,i=6∨i=7∨i=17∨i=18→m'.cP i=m.cP i):Cn m' l :=
  ⟨by rw[hl];exact h.len,(hn 6 Oh).trans h.n6,(hn 7 Oh).trans h.n7,(hn 17 Oh).trans h.n17,(hn 18 Oh).trans h.n18,h.k⟩
theorem Cn.same {m m':Mk} {l:List Ob} (h:Cn m l) (e:m'.h=m.h):Cn m' l:=h.to (by rw[e]) fun i _=>by show m'.h.n.getD i 0=_;rw[e];rfl
theorem DT (a:List Nat) (x:Nat):jX (a ++ [x])=x:=kX Oq
theorem AP {m:Mk} {k v:Nat} (h:k<m.h.n.length):(m.dV k v).cP k=v:=nI h
theorem Cn.obj {m:Mk} {l:List Ob} (h:Cn m l) (o:Ly) {k s:Nat} (hk:k≤3):Cn (m.di o).2 (l ++ [⟨m.b.length,k,s⟩]):=by
  have B:=h.len
  refine⟨by simp[Mk.di,Mk.dV];omega,?_,?_,?_,?_,fun x A=>?_⟩
  · simp only[Mk.di]
    rw[ej Oh,AP (by show 6<m.h.n.length;omega),List.map_append]
    exact(DT _ _).symm
  · simp only[Mk.di]
    rw[AP (by simp[Mk.dV];omega),ej Oh]
    show(m.cP 7+1)%_=_
    rw[h.n7,List.length_append,List.length_singleton];omega
  · simp only[Mk.di]
    rw[ej Oh,ej Oh];exact h.n17
  · simp only[Mk.di]
    rw[ej Oh,ej Oh,List.filter_append,List.filter_cons_of_neg Vw,List.filter_nil,List.append_nil];exact h.n18
  rcases List.mem_append.1 A with A|A
  · exact h.k x A
  simp at A;subst A
  exact⟨by simp only;omega,fun h=>by simp only at h;omega,fun h=>by simp only at h;omega⟩
theorem Cn.arr {m:Mk} {l:List Ob} (h:Cn m l) (o:Ly) {r:Nat} (hr:1≤r):Cn ((m.di o).2.dV 18 (((m.di o).2.cP 18+1)%18446744073709551616)) (l ++ [⟨m.b.length,6,24+8*r⟩]):=by
  have C:=h.len
  have g:=h.obj o (k:=0) (s:=0) Oh
  have B:=g.len
  refine⟨by simp[Mk.dV];omega,?_,?_,?_,?_,fun x A=>?_⟩
  · rw[ej Oh,g.n6,List.map_append,List.map_append];rw[List.map_singleton,List.map_singleton,DT]
  · rw[ej Oh,g.n7,List.length_append,List.length_append];rfl
  · rw[ej Oh];exact g.n17
  · rw[AP Oh,g.n18,List.filter_append,List.filter_append,List.filter_cons_of_neg Oq,List.filter_nil,List.append_nil,List.filter_cons_of_pos Oq,List.filter_nil,List.length_append,List.length_singleton];omega
  rcases List.mem_append.1 A with A|A
  · exact h.k x A
  simp at A;subst A
  exact⟨by simp,fun _=>⟨r,hr,q⟩,fun h=>by simp at h⟩
structure Linked (m m':Mk) (l l':List Ob) (src:Nat) (av av' aD:List Nat) (x:Nat):Prop where
  fH:gd m'.b 272 l' m'.b.length
  sub:l'=l∨l'=l ++ [(⟨m.b.length,6,24+8*eL (av.length:Int)⟩:Ob)]
  arr:av'=av∨av'=av ++ [m.b.length]
  chain:Chain m'.b l' src av' (aD ++ [x])
  mB:Eff (zh src av') m.b m'.b
  ne:av'≠[]
  top:m'.b.length≤m.b.length+2100
  same:m'.c=m.c∧m'.ai=m.ai∧m'.aj=m.aj∧m'.main=m.main∧m'.depth=m.depth∧∀i,i≠6→i≠7→i≠18→m'.cP i=m.cP i
  cn:Cn m l→Cn m' l'
theorem LQ {m:Mk} {l:List Ob} {src x:Nat} {av aD:List Nat} (hO:gd m.b 272 l m.b.length) (h:Chain m.b l src av aD) (hs:Src l src) (hb:m.b.length<900000) (hx:x<18446744073709551616) :
    ∃l',Linked m (m.link av aD.length src x).2.2 l l' src av (m.link av aD.length src x).1 aD x:=by
  unfold Mk.link
  rw[aaq]
  simp only
  split
  · rename_i hn
    have g:=h.grow hO hs Oh hn
    simp only at g
    obtain⟨V,W⟩:=g
    generalize hl1:l ++ [(⟨m.b.length,6,24+8*eL (av.length:Int)⟩:Ob)]=l1 at *
    generalize hq:(if av.length=0 then src else jX av+16)=qv at W
    have E:(m.di (gD {next:=0,aD:=List.replicate (eL (av.length:Int)) 0})).2.b=m.b ++ KO (eL (av.length:Int)):=rfl
    have O:(m.di (gD {next:=0,aD:=List.replicate (eL (av.length:Int)) 0})).1=m.b.length:=rfl
    have B:=fD m (gD {next:=0,aD:=List.replicate (eL (av.length:Int)) 0})
    have H:(m.di (gD {next:=0,aD:=List.replicate (eL (av.length:Int)) 0})).2.depth=m.depth:=rfl
    have I:∀i,i≠6→i≠7→(m.di (gD {next:=0,aD:=List.replicate (eL (av.length:Int)) 0})).2.cP i=m.cP i:=fun i n t=>by
      simp only[Mk.di]
      rw[ej Oh,ej Oh];rfl
    have J:=fun h:Cn m l=>h.arr (gD {next:=0,aD:=List.replicate (eL (av.length:Int)) 0}) (r:=eL (av.length:Int)) (by have:=rU (k:=(av.length:Int)) Oh;omega)
    rw[hl1]at J
    generalize m.di (gD {next:=0,aD:=List.replicate (eL (av.length:Int)) 0})=r at *
    obtain⟨p,A⟩:=r
    simp only at E O B H I J ⊢
    subst O
    have d:=uF (av.length:Int)
    have S:=rU (k:=(av.length:Int)) Oh
    have Aa:A.b.length=m.b.length+(24+8*eL (av.length:Int)):=by rw[E];simp[Oi]
    have Y:nj (av ++ [m.b.length]).length=nj av.length+eL (av.length:Int):=by simp[nj]
    have Q:Src l1 src:=hs.mono fun o F=>by rw[← hl1];exact List.mem_append_left _ F
    have P:Body l1 qv∧(qv=src∨∃k c:Nat,(av ++ [m.b.length])[k]? = some c∧qv=c+16):=by
      rw[← hq]
      split
      · exact⟨Q.body,.inl q⟩
      · rename_i v
        obtain⟨p,G⟩:∃p,av[av.length-1]? = some p:=⟨_,List.getElem?_eq_getElem Oh⟩
        rw[kX G]
        have F:=h.ob _ _ G
        refine⟨.inr ⟨⟨p,6,24+8*eL ((av.length-1:Nat):Int)⟩,?_,Nat.le_refl _,?_⟩,.inr ⟨av.length-1,p,by rw[List.getElem?_append_left Oh];exact G,q⟩⟩
        · rw[← hl1];exact List.mem_append_left _ F
        · rw[jl];simp only;omega
    rw[E.symm]at V W
    have j:Eff (fun a=>a=qv) A.b (ja A.b qv m.b.length):=Eff.put _ _ _
    have U:gd (ja A.b qv m.b.length) 272 l1 (ja A.b qv m.b.length).length:=by
      rw[gu]
      exact V.mB j (Nat.le_refl _) fun o F a C=>by subst C;exact V.body P.1 F
    have D:(av ++ [m.b.length])[(av ++ [m.b.length]).length-1]? = some m.b.length:=by simp
    have N:=W.put (x:=x) (p:=m.b.length) U Q (Nat.le_refl _) hx Oq D (by rw[Y];omega)
    have X:aD.length-nj ((av ++ [m.b.length]).length-1)=0:=by simp;omega
    rw[X]at N
    have L:Eff (fun a=>a=m.b.length+24+8*0) (ja A.b qv m.b.length) (ja (ja A.b qv m.b.length) (m.b.length+24+8*0) x):=Eff.put _ _ _
    have f:gd (ja (ja A.b qv m.b.length) (m.b.length+24+8*0) x) 272 l1 (ja (ja A.b qv m.b.length) (m.b.length+24+8*0) x).length:=by
      rw[gu]
      refine U.mB L (Nat.le_refl _) fun o F a C=>?_
      subst C
      refine U.body (.inr ⟨⟨m.b.length,6,24+8*eL (av.length:Int)⟩,?_,?_,?_⟩) F
      · rw[← hl1];simp
      · simp only;omega
      · rw[jl];simp only;omega
    have R:∀M:Mk,M=(if av.length=0 then(A.dV 18 ((A.cP 18+1)%18446744073709551616)).put src m.b.length else(A.dV 18 ((A.cP 18+1)%18446744073709551616)).put (jX av+16) m.b.length)→M.b=ja A.b qv m.b.length∧M.c=A.c∧M.ai=A.ai∧M.aj=A.aj∧M.main=A.main∧M.depth=A.depth∧M.h=(A.dV 18 ((A.cP 18+1)%18446744073709551616)).h∧∀i,i≠18→M.cP i=A.cP i:=by
      intro M z
      subst z
      rw[← hq]
      split
      · exact⟨q,q,q,q,q,q,q,fun i hi=>ej (m:=A) Oh⟩
      · exact⟨q,q,q,q,q,q,q,fun i hi=>ej (m:=A) Oh⟩
    have e:=R _ q
    clear R
    generalize (if av.length=0 then(A.dV 18 ((A.cP 18+1)%18446744073709551616)).put src m.b.length else(A.dV 18 ((A.cP 18+1)%18446744073709551616)).put (jX av+16) m.b.length)=M at *
    obtain⟨T,e,kz3,kz4,kz5,kz6,kh,kz7⟩:=e
    rw[kX D,show aD.length-nj av.length=0 by omega]
    rw[← T]at f N L
    have ml:(M.put (m.b.length+24+8*0) x).b=ja M.b (m.b.length+24+8*0) x:=rfl
    refine⟨l1,⟨by rw[ml];exact f,.inr hl1.symm,.inr q,by rw[ml];exact N,?_,by simp,?_,⟨e.trans B.1,kz3.trans B.2.1,kz4.trans B.2.2.1,kz5.trans B.2.2.2,kz6.trans H,fun i n t y=>(kz7 i y).trans (I i n t)⟩,fun h=>(J h).same kh⟩⟩
    · rw[ml,T]
      have u:Eff (zh src (av ++ [m.b.length])) m.b A.b:=by rw[E];exact Eff.app _ _ _
      refine u.trans ((j.mono fun a C=>?_).trans ((T ▸ L).mono fun a C=>?_))
      · subst C
        rcases P.2 with h|⟨k,c,O,w⟩
        · exact .inl h
        exact .inr ⟨k,c,O,by omega,by omega⟩
      subst C
      exact .inr ⟨av.length,m.b.length,by simp,by omega,by omega⟩
    rw[ml,gu,T,gu];omega
  rename_i hn
  have Ad:=h.lo
  have Z:=h.hi
  have K:av≠[]:=by rintro rfl;have O:aD.length≤0:=Z;have w:¬aD.length=0:=hn;omega
  have v:=List.length_pos_iff.2 K
  obtain⟨p,G⟩:∃p,av[av.length-1]? = some p:=⟨_,List.getElem?_eq_getElem Oh⟩
  rw[kX G]
  have N:=h.put hO hs (Nat.le_refl _) hx K G Oh
  have Ac:=h.le hO G
  have hc:nj av.length=nj (av.length-1)+eL ((av.length-1:Nat):Int):=by
    have:av.length=(av.length-1)+1:=by omega
    rw[this];rfl
  generalize hq:p+24+8*(aD.length-nj (av.length-1))=qv at *
  have L:Eff (fun a=>a=qv) m.b (ja m.b qv x):=Eff.put _ _ _
  refine⟨l,⟨?_,.inl q,.inl q,N,L.mono fun a C=>?_,K,?_,⟨q,q,q,q,q,fun _ _ _ _=>rfl⟩,fun h=>h.same q⟩⟩
  · show gd (ja m.b qv x) 272 l (ja m.b qv x).length
    rw[gu]
    refine hO.mB L (Nat.le_refl _) fun o F a C=>?_
    subst C
    refine hO.body (.inr ⟨_,h.ob _ _ G,?_,?_⟩) F
    · simp only;omega
    rw[jl];simp only;omega
  · subst C
    exact .inr ⟨av.length-1,p,G,by omega,by omega⟩
  show(ja m.b qv x).length≤_
  rw[gu];omega
end Go.Wk
namespace Go.Wk
open Go Go.RowKit
def tf (l:List Ob) (a:Nat):Prop:=∀o∈l,(a+8≤o.b9∨o.b9+16≤a) ∧
  (o.kind=1→a+8≤o.b9+16∨o.b9+24≤a∧a+8≤o.b9+64∨o.b9+mI o.size≤a) ∧
  (o.kind=2→a+8≤o.b9+16∨o.b9+24≤a∧a+8≤o.b9+40∨o.b9+mI o.size≤a) ∧
  (o.kind=3→a+8≤o.b9∨o.b9+mI o.size≤a)
theorem AO {b:Ly} {l:List Ob} {e a:Nat} (hO:gd b 272 l e) {x:Ob} (hx:x∈l) (h1:x.b9+16≤a) (h2:a+8≤x.b9+mI x.size) (h3:x.kind≠3) (h4:x.kind=1→x.b9+24≤a∧a+8≤x.b9+64) (h5:x.kind=2→x.b9+24≤a∧a+8≤x.b9+40):tf l a:=by
  intro o A
  have:=eO o.size
  have:=eO x.size
  have:=(hO.mem A).size.1
  rcases hO.sep A hx with rfl|B|B
  · refine⟨by omega,fun h=>.inr (.inl (h4 h)),fun h=>.inr (.inl (h5 h)),fun h=>absurd h h3⟩
  · exact⟨by omega,fun _=>by omega,fun _=>by omega,fun _=>by omega⟩
  exact⟨by omega,fun _=>by omega,fun _=>by omega,fun _=>by omega⟩
theorem JF {b:Ly} {l:List Ob} {e a:Nat} (hO:gd b 272 l e) (h:a+8≤272):tf l a:=fun o ho=>by
  have:=(hO.mem ho).ge
  exact⟨by omega,fun _=>by omega,fun _=>by omega,fun _=>by omega⟩
theorem tf.mono {l r:List Ob} {a:Nat} (h:tf r a) (hs:∀o∈l,o∈r):tf l a:=fun o ho=>h o (hs o ho)
def pA (l:List Ob) (a:Nat):Prop:=∃o∈l,((o.kind=4∨o.kind=5)∧o.b9+16≤a∧a+8≤o.b9+mI o.size)∨(((o.kind=1∧64≤o.size)∨(o.kind=2∧40≤o.size))∧(a=o.b9+24∨a=o.b9+32))
theorem pA.mono {l r:List Ob} {a:Nat} (h:pA l a) (hs:∀o∈l,o∈r):pA r a:=by obtain⟨o,A,h⟩:=h;exact⟨o,hs o A,h⟩
theorem pA.ac3 {b:Ly} {l:List Ob} {e a:Nat} (h:pA l a) (hO:gd b 272 l e):tf l a:=by
  obtain⟨o,B,⟨C,A,D⟩|⟨C,A⟩⟩:=h
  · exact AO hO B A D Oh Oh Oh
  have:=eO o.size
  exact AO hO B Oh Oh Oh Oh Oh
theorem pA.at {b:Ly} {l:List Ob} {e a:Nat} (h:pA l a) (hO:gd b 272 l e):272≤a∧a+8≤e∧∀o∈l,(o.kind=1→a+8≤o.b9+40∨o.b9+mI o.size≤a)∧(o.kind=6→a+8≤o.b9∨o.b9+mI o.size≤a):=by
  obtain⟨x,D,h⟩:=h
  have C:=hO.mem D
  have hk:=C.le
  have G:=C.ge
  have J:=eO x.size
  have B:x.b9+16≤a∧a+8≤x.b9+mI x.size∧x.kind≠6∧(x.kind=1→a+8≤x.b9+40):=by
    rcases h with⟨E,A,F⟩|⟨E,A⟩
    · exact⟨A,F,by omega,by omega⟩
    · exact⟨by omega,by omega,by omega,by omega⟩
  refine⟨by omega,by omega,fun o I=>?_⟩
  have:=eO o.size
  rcases hO.sep I D with rfl|H|H
  · exact⟨fun h=>.inl (B.2.2.2 h),fun h=>absurd h B.2.2.1⟩
  · exact⟨fun _=>by omega,fun _=>by omega⟩
  exact⟨fun _=>by omega,fun _=>by omega⟩
def eI (m:Mk) (s:Ly):Nat:=eu m.c.dS m.c.dh s
structure tC (b:Ly) (l:List Ob) (h:Nat) (k:aY):Prop where
  ob:(⟨k.b9,1,64+k.cM.length⟩:Ob)∈l
  cQ:fA b (k.b9+16)=h
  cM:seg b (k.b9+64) k.cM.length=k.cM
structure HE (b:Ly) (l:List Ob) (h:Nat) (k:aY):Prop where
  ob:(⟨k.b9,2,40+k.cM.length⟩:Ob)∈l
  cQ:fA b (k.b9+16)=h
  cM:seg b (k.b9+40) k.cM.length=k.cM
theorem tC.mB {b c:Ly} {l r:List Ob} {n:Nat} {k:aY} {S:Nat→Prop} (h:tC b l n k) (hO:gd b 272 l b.length) (he:Eff S b c) (hs:∀a,S a→tf l a) (hr:∀o∈l,o∈r):tC c r n k:=by
  have B:=(hO.mem h.ob).le
  have C:=eO (64+k.cM.length)
  refine⟨hr _ h.ob,(he.fA (by simp only at B;omega) fun a A=>?_).trans h.cQ,(he.seg _ _ (by simp only at B;omega) fun a A=>?_).trans h.cM⟩
  · have:=(hs a A _ h.ob).2.1 rfl;simp only at this;omega
  have:=(hs a A _ h.ob).2.1 rfl;simp only at this;omega
theorem HE.mB {b c:Ly} {l r:List Ob} {n:Nat} {k:aY} {S:Nat→Prop} (h:HE b l n k) (hO:gd b 272 l b.length) (he:Eff S b c) (hs:∀a,S a→tf l a) (hr:∀o∈l,o∈r):HE c r n k:=by
  have B:=(hO.mem h.ob).le
  have C:=eO (40+k.cM.length)
  refine⟨hr _ h.ob,(he.fA (by simp only at B;omega) fun a A=>?_).trans h.cQ,(he.seg _ _ (by simp only at B;omega) fun a A=>?_).trans h.cM⟩
  · have:=(hs a A _ h.ob).2.2.1 rfl;simp only at this;omega
  have:=(hs a A _ h.ob).2.2.1 rfl;simp only at this;omega
structure Stat (m:Mk) (l:List Ob):Prop where
  fH:gd m.b 272 l m.b.length
  zV:(⟨272,4,16+16*m.c.ay⟩:Ob)∈l
  GA:(⟨288+16*m.c.ay,5,16+16*m.c.aA⟩:Ob)∈l
  n2:m.cP 2=288
  n4:m.cP 4=304+16*m.c.ay
  slots:1≤m.c.ay∧1≤m.c.aA
  data:∀k∈m.ai,tC m.b l (eI m k.cM) k
  fld:∀k∈m.aj,HE m.b l (eI m k.cM) k
  one:∀i j:Nat,∀k k':aY,m.ai[i]? = some k→m.ai[j]? = some k'→k.b9=k'.b9∨k.cM=k'.cM→i=j
  all:∀o∈l,o.kind=1→∃k∈m.ai,k.b9=o.b9
  RS:∀o∈l,o.kind=2→∃k∈m.aj,k.b9=o.b9
  cn:Cn m l
structure fw (m m':Mk) (l l':List Ob):Prop where
  fH:gd m'.b 272 l' m'.b.length
  sub:∃t,l'=l ++ t∧∀o∈t,(o.kind=1∨o.kind=2)∧m.b.length≤o.b9
  mB:Eff (pA l') m.b m'.b
  same:m'.c=m.c∧m'.main=m.main∧∀i,i≠6→i≠7→i<15→m'.cP i=m.cP i
  cn:Cn m l→Cn m' l'
theorem fw.mem {m m':Mk} {l l':List Ob} (h:fw m m' l l'):∀o∈l,o∈l':=by obtain⟨t,e,_⟩:=h.sub;intro o A;rw[e];exact List.mem_append_left _ A
theorem fw.refl {m:Mk} {l:List Ob} (h:gd m.b 272 l m.b.length):fw m m l l:=⟨h,⟨[],by simp,by simp⟩,Eff.refl _ _,⟨q,q,fun _ _ _ _=>rfl⟩,id⟩
theorem fw.trans {m m' m'':Mk} {l l' l'':List Ob} (h:fw m m' l l') (k:fw m' m'' l' l''):fw m m'' l l'':=by
  obtain⟨t,e,F⟩:=h.sub
  obtain⟨u,f,G⟩:=k.sub
  have H:=h.mB.len
  refine⟨k.fH,⟨t ++ u,by rw[f,e,List.append_assoc],fun o A=>?_⟩,(h.mB.mono fun a E=>E.mono k.mem).trans k.mB,⟨k.same.1.trans h.same.1,k.same.2.1.trans h.same.2.1,fun i B C D=>(k.same.2.2 i B C D).trans (h.same.2.2 i B C D)⟩,fun c=>k.cn (h.cn c)⟩
  rcases List.mem_append.1 A with A|A
  · exact F o A
  have:=G o A;exact⟨this.1,by omega⟩
theorem fw.to {m m' m'':Mk} {l l':List Ob} (h:fw m m' l l') (hb:m''.b=m'.b) (hc:m''.c=m'.c) (hm:m''.main=m'.main) (hn:∀i,i≠15→i≠16→i≠19→m''.cP i=m'.cP i) (hl:m''.h.n.length=m'.h.n.length):fw m m'' l l' :=
  ⟨by rw[hb];exact h.fH,h.sub,by rw[hb];exact h.mB,⟨hc.trans h.same.1,hm.trans h.same.2.1,fun i h1 h2 h3=>(hn i Oh Oh Oh).trans (h.same.2.2 i h1 h2 h3)⟩,fun c=>(h.cn c).to hl fun i hi=>hn i Oh Oh Oh⟩
theorem fw.put {m:Mk} {l:List Ob} {a:Nat} (v:Nat) (hO:gd m.b 272 l m.b.length) (ha:pA l a):fw m (m.put a v) l l:=by
  have B:=ha.ac3 hO
  refine⟨?_,⟨[],by simp,by simp⟩,(Eff.put m.b a v).mono fun x A=>A ▸ ha,⟨q,q,fun _ _ _ _=>rfl⟩,fun c=>c.same q⟩
  show gd (ja m.b a v) 272 l (ja m.b a v).length
  rw[gu]
  exact hO.mB (Eff.put m.b a v) (Nat.le_refl _) fun o C x A=>by subst A;exact(B o C).1
theorem acg {o h r:Ly} (e:o=(h ++ r)) (hl:h.length=16):seg o 0 16=h:=by subst e;exact mQ _ _ hl.symm
theorem fw.obj {m:Mk} {l:List Ob} {o r:Ly} {k s:Nat} (hO:gd m.b 272 l m.b.length) (hk:k=1∨k=2) (he:o=RO k s ++ r) (hl:o.length=mI s) (h16:16≤s) (hs:s<1000000):fw m (m.di o).2 l (l ++ [⟨m.b.length,k,s⟩]):=by
  have B:(m.di o).2.b=m.b ++ o:=rfl
  refine⟨?_,⟨_,q,fun x C=>?_⟩,by rw[B];exact Eff.app _ _ _,⟨q,q,fun i F A G=>?_⟩,fun c=>c.obj o Oh⟩
  · have D:=(hO.mB (Eff.app (fun _=>False) m.b o) (Nat.le_refl _) (fun _ _ _ E=>E.elim)).app (o:=⟨m.b.length,k,s⟩) q Lw Lw h16 Lw ?_
    · rw[B,List.length_append,hl];exact D
    have A:=jr (x:=m.b) (y:=o) (p:=m.b.length) (n:=16) (Nat.le_refl _)
    rw[Nat.sub_self,acg he (kO _ _)]at A
    exact A
  · simp at C;subst C;exact⟨hk,Nat.le_refl _⟩
  simp only[Mk.di]
  rw[ej Oh,ej Oh];rfl
theorem yu {cF:Nat}:∀(l:List aY) (n q:Nat),(nY cF l n q).1=n∧(nY cF l n q).2=q∨n<(nY cF l n q).1∧∃k∈l,(nY cF l n q).2=k.b9
  | [],_,_=>.inl ⟨rfl,rfl⟩
  | k :: r,n,q=>by
    simp only[nY]
    split
    · rcases yu (cF:=cF) r (n+1) k.b9 with⟨h1,h2⟩|⟨h1,y,hy,h2⟩
      · exact .inr ⟨by omega,k,by simp,h2⟩
      · exact .inr ⟨by omega,y,by simp[hy],h2⟩
    · rcases yu (cF:=cF) r n q with h|⟨h1,y,hy,h2⟩
      · exact .inl h
      · exact .inr ⟨h1,y,by simp[hy],h2⟩
theorem fw.hang {m:Mk} {l:List Ob} {ks:List aY} {table p cF:Nat} (hO:gd m.b 272 l m.b.length) (ht:pA l (table+16*cF)∧pA l (table+16*cF+8)) (hk:∀k∈ks,pA l (k.b9+24)):fw m (m.hang ks table p cF).2 l l:=by
  unfold Mk.hang
  have C:=yu (cF:=cF) ks 0 0
  generalize nY cF ks 0 0=r at *
  obtain⟨n,q⟩:=r
  simp only at C ⊢
  split
  · have A:=fw.put (m:=m) p hO ht.1
    exact A.trans (fw.put (m:=m.put (table+16*cF) p) p A.fH ht.2)
  rename_i hn
  have E:pA l (q+24):=by
    rcases C with⟨A,_⟩|⟨_,k,B,D⟩
    · omega
    · rw[D];exact hk k B
  have A:=fw.put (m:=m) p hO E
  exact A.trans (fw.put (m:=m.put (q+24) p) p A.fH ht.2)
end Go.Wk
namespace Go.Wk
open Go Go.RowKit
theorem qy (b o:Ly) (q:Nat):fA (b ++ o) (b.length+q)=fA o q:=by rw[iR Oh,Nat.add_sub_cancel_left]
theorem Rm (b o:Ly) (q n:Nat):seg (b ++ o) (b.length+q) n=seg o q n:=by rw[jr Oh,Nat.add_sub_cancel_left]
theorem acG {k:Nat} (hk:1≤k∧k≤7) (ns:List Nat) (t:Ly) (hn:∀v∈ns,v<18446744073709551616) :
    (∃r,qu k (nums ns ++ t)=RO k (16+8*ns.length+t.length) ++ r)∧(qu k (nums ns ++ t)).length=mI (16+8*ns.length+t.length) ∧
    (∀i v:Nat,ns[i]? = some v→fA (qu k (nums ns ++ t)) (16+8*i)=v)∧seg (qu k (nums ns ++ t)) (16+8*ns.length) t.length=t:=by
  have A:(nums ns ++ t).length=8*ns.length+t.length:=by simp[fV]
  rw[xI hk,A,show 16+(8*ns.length+t.length)=16+8*ns.length+t.length by omega]
  refine⟨⟨_,List.append_assoc _ _ _⟩,?_,fun i v h=>?_,?_⟩
  · rw[List.length_append,List.length_append,kO,A,List.length_replicate];unfold mI;omega
  · rw[List.append_assoc,iR (by rw[kO];omega),kO,Nat.add_sub_cancel_left,List.append_assoc]
    exact mK h (hn v (List.mem_of_getElem? h))
  rw[List.append_assoc,jr (by rw[kO];omega),kO,show 16+8*ns.length-16=8*ns.length by omega,List.append_assoc,jr (by rw[fV];omega),fV,Nat.sub_self]
  exact mQ _ _ q
theorem uc (m:Mk) (s:Ly):eI m s<18446744073709551616:=DK _ _ _
theorem Stat.step {m m':Mk} {l l':List Ob} (h:Stat m l) (s:fw m m' l l') (hd:∀k∈m'.ai,k∈m.ai∨tC m'.b l' (eI m k.cM) k) (hf:∀k∈m'.aj,k∈m.aj∨HE m'.b l' (eI m k.cM) k)
    (h1:∀i j:Nat,∀k k':aY,m'.ai[i]? = some k→m'.ai[j]? = some k'→k.b9=k'.b9∨k.cM=k'.cM→i=j) (h2:∀o∈l',o.kind=1→∃k∈m'.ai,k.b9=o.b9) (h3:∀o∈l',o.kind=2→∃k∈m'.aj,k.b9=o.b9):Stat m' l':=by
  have B:=s.mem
  have D:∀a,pA l' a→tf l a:=fun a F=>(F.ac3 s.fH).mono B
  obtain⟨A,G,C⟩:=s.same
  have E:∀t,eI m' t=eI m t:=fun t=>by unfold eI;rw[A]
  refine⟨s.fH,by rw[A];exact B _ h.zV,by rw[A];exact B _ h.GA,(C 2 Om Om Om).trans h.n2,by rw[A];exact(C 4 Om Om Om).trans h.n4,by rw[A];exact h.slots,fun k hk=>?_,fun k hk=>?_,h1,h2,h3,s.cn h.cn⟩
  · rw[E]
    rcases hd k hk with hk|hk
    · exact(h.data k hk).mB h.fH s.mB D B
    exact hk
  rw[E]
  rcases hf k hk with hk|hk
  · exact(h.fld k hk).mB h.fH s.mB D B
  exact hk
theorem Stat.soft {m m':Mk} {l l':List Ob} (h:Stat m l) (s:fw m m' l l') (hd:m'.ai=m.ai) (hf:m'.aj=m.aj) (hl:l'=l):Stat m' l' :=
  h.step s (fun k hk=>.inl (hd ▸ hk)) (fun k hk=>.inl (hf ▸ hk)) (by rw[hd];exact h.one) (by rw[hd,hl];exact h.all) (by rw[hf,hl];exact h.RS)
theorem akD {m:Mk} {l:List Ob} (h:Stat m l) {s:Nat} (hs:s<m.c.ay):pA l (m.cP 2+16*s)∧pA l (m.cP 2+16*s+8):=by
  have:=eO (16+16*m.c.ay)
  rw[h.n2]
  exact⟨⟨_,h.zV,.inl ⟨.inl q,by simp only;omega,by simp only;omega⟩⟩,⟨_,h.zV,.inl ⟨.inl q,by simp only;omega,by simp only;omega⟩⟩⟩
theorem akE {m:Mk} {l:List Ob} (h:Stat m l) {s:Nat} (hs:s<m.c.aA):pA l (m.cP 4+16*s)∧pA l (m.cP 4+16*s+8):=by
  have:=eO (16+16*m.c.aA)
  rw[h.n4]
  exact⟨⟨_,h.GA,.inl ⟨.inr q,by simp only;omega,by simp only;omega⟩⟩,⟨_,h.GA,.inl ⟨.inr q,by simp only;omega,by simp only;omega⟩⟩⟩
theorem abL {m:Mk} {l:List Ob} (h:Stat m l) (name:Ly) (hn:name.length≤1000) :
    ∃l',fw m (m.field name).2 l l'∧Stat (m.field name).2 l'∧(∃k∈(m.field name).2.aj,k.b9=(m.field name).1)∧(m.field name).2.ai=m.ai:=by
  unfold Mk.field
  cases hk:p8 name m.aj with
  | some p =>
    obtain⟨k,Q,R,_⟩:=yj hk
    exact⟨l,fw.refl h.fH,h,⟨k,Q,R⟩,q⟩
  | none =>
    simp only
    generalize hF:ir {cQ:=eu m.c.dS m.c.dh name,bT:=0,dat:=0,ak:=name}=o
    have O:o=qu 2 (nums [eI m name,0,0] ++ name):=hF.symm
    obtain⟨⟨r,L⟩,M,U,N⟩:=acG (k:=2) Om [eI m name,0,0] name (by have:=uc m name;intro v g;simp at g;omega)
    rw[← O]at L M U N
    simp only[List.length_cons,List.length_nil,Nat.zero_add,Nat.reduceAdd,Nat.reduceMul]at L M N
    have G:=fw.obj (m:=m) (o:=o) h.fH (.inr q) L M Oh Oh
    have P:(m.di o).2.b=m.b ++ o:=rfl
    have V:(m.di o).1=m.b.length:=rfl
    have H:=fD m o
    have W:(m.di o).2.cP 4=m.cP 4:=by simp only[Mk.di];rw[ej Oh,ej Oh];rfl
    generalize m.di o=z at *
    obtain⟨p,A⟩:=z
    simp only at G P V H W ⊢
    subst V
    have f:eu m.c.dS m.c.dh name%A.c.aA<m.c.aA:=by rw[H.1];exact Nat.mod_lt _ (by have:=h.slots;omega)
    have S:=akE h f
    rw[← W]at S
    have I:=fw.hang (m:=A) (p:=m.b.length) (ks:=A.aj) G.fH ⟨S.1.mono G.mem,S.2.mono G.mem⟩ (fun k hk=>by
      rw[H.2.2.1]at hk
      have:=(h.fld k hk).ob
      exact⟨_,G.mem _ this,.inr ⟨.inr ⟨q,by simp only;omega⟩,.inl q⟩⟩)
    have E:=iY A A.aj (A.cP 4) m.b.length (eu m.c.dS m.c.dh name%A.c.aA)
    generalize A.hang A.aj (A.cP 4) m.b.length (eu m.c.dS m.c.dh name%A.c.aA)=z at *
    obtain⟨n,B⟩:=z
    simp only at I E ⊢
    obtain⟨d1,d,T,d4,d5,d6⟩:=E
    have X:=G.trans I
    obtain⟨F,C⟩:∃F,F=({({B with depth:=max A.depth n}:Mk).dV 16 ((({B with depth:=max A.depth n}:Mk).cP 16+1)%18446744073709551616)with aj:=(({B with depth:=max A.depth n}:Mk).dV 16 ((({B with depth:=max A.depth n}:Mk).cP 16+1)%18446744073709551616)).aj ++ [({cM:=name,b9:=m.b.length,cF:=eu m.c.dS m.c.dh name%A.c.aA,bQ:=0,bn:=[]}:aY)]}:Mk):=⟨_,q⟩
    show ∃l',fw m ({({B with depth:=max A.depth n}:Mk).dV 16 ((({B with depth:=max A.depth n}:Mk).cP 16+1)%18446744073709551616)with aj:=(({B with depth:=max A.depth n}:Mk).dV 16 ((({B with depth:=max A.depth n}:Mk).cP 16+1)%18446744073709551616)).aj ++ [({cM:=name,b9:=m.b.length,cF:=eu m.c.dS m.c.dh name%A.c.aA,bQ:=0,bn:=[]}:aY)]}:Mk) l l'∧Stat ({({B with depth:=max A.depth n}:Mk).dV 16 ((({B with depth:=max A.depth n}:Mk).cP 16+1)%18446744073709551616)with aj:=(({B with depth:=max A.depth n}:Mk).dV 16 ((({B with depth:=max A.depth n}:Mk).cP 16+1)%18446744073709551616)).aj ++ [({cM:=name,b9:=m.b.length,cF:=eu m.c.dS m.c.dh name%A.c.aA,bQ:=0,bn:=[]}:aY)]}:Mk) l'∧(∃k∈({({B with depth:=max A.depth n}:Mk).dV 16 ((({B with depth:=max A.depth n}:Mk).cP 16+1)%18446744073709551616)with aj:=(({B with depth:=max A.depth n}:Mk).dV 16 ((({B with depth:=max A.depth n}:Mk).cP 16+1)%18446744073709551616)).aj ++ [({cM:=name,b9:=m.b.length,cF:=eu m.c.dS m.c.dh name%A.c.aA,bQ:=0,bn:=[]}:aY)]}:Mk).aj,k.b9=m.b.length)∧({({B with depth:=max A.depth n}:Mk).dV 16 ((({B with depth:=max A.depth n}:Mk).cP 16+1)%18446744073709551616)with aj:=(({B with depth:=max A.depth n}:Mk).dV 16 ((({B with depth:=max A.depth n}:Mk).cP 16+1)%18446744073709551616)).aj ++ [({cM:=name,b9:=m.b.length,cF:=eu m.c.dS m.c.dh name%A.c.aA,bQ:=0,bn:=[]}:aY)]}:Mk).ai=m.ai
    rw[← C]
    have K:F.b=B.b∧F.c=B.c∧F.main=B.main∧F.ai=B.ai∧F.aj=B.aj ++ [({cM:=name,b9:=m.b.length,cF:=eu m.c.dS m.c.dh name%A.c.aA,bQ:=0,bn:=[]}:aY)]:=by subst C;exact⟨q,q,q,q,q⟩
    have S4:=X.to (m'':=F) K.1 K.2.1 K.2.2.1 (fun i _ _ h3=>by
      subst C
      exact(ej (m:={B with depth:=max A.depth n}) Oh)) (by subst C;simp[Mk.dV])
    clear C
    obtain⟨Y,w,y,Z,J⟩:=K
    have D:F.ai=m.ai:=by rw[Z,d,H.2.1]
    refine⟨_,S4,h.step S4 (fun k hk=>.inl (D ▸ hk)) (fun k hk=>?_) (by rw[D];exact h.one) (fun x C hk=>?_) (fun x C hk=>?_),?_,D⟩
    · rw[J,T,H.2.2.1,List.mem_append,List.mem_singleton]at hk
      rcases hk with hk|rfl
      · exact .inl hk
      · right
        have j:HE A.b (l ++ [⟨m.b.length,2,40+name.length⟩]) (eI m name) ({cM:=name,b9:=m.b.length,cF:=eu m.c.dS m.c.dh name%A.c.aA,bQ:=0,bn:=[]}:aY):=by
          refine⟨by simp,?_,?_⟩
          · rw[P,qy];exact U 0 _ q
          · rw[P,Rm];exact N
        rw[Y]
        exact j.mB G.fH I.mB (fun a e=>e.ac3 I.fH) fun _ h=>h
    · rcases List.mem_append.1 C with C|C
      · rw[D];exact h.all x C hk
      · simp at C;subst C;simp at hk
    · rcases List.mem_append.1 C with C|C
      · obtain⟨k,t,u⟩:=h.RS x C hk
        exact⟨k,by rw[J,T,H.2.2.1];exact List.mem_append_left _ t,u⟩
      · simp at C;subst C
        exact⟨_,by rw[J];exact List.mem_append_right _ (List.mem_singleton.2 q),q⟩
    · exact⟨({cM:=name,b9:=m.b.length,cF:=eu m.c.dS m.c.dh name%A.c.aA,bQ:=0,bn:=[]}:aY),by rw[J];simp,q⟩
theorem yg:∀{s:Ly} {l:List aY} {j i:Nat},nH s l j=some i→∃k,l[i-j]? = some k∧k.cM=s∧j≤i
  | s,[],j,i,h=>by simp[nH]at h
  | s,x :: l,j,i,h=>by
    simp only[nH]at h
    split at h
    · rename_i hx;simp at h;subst h;exact⟨x,by simp,hx,Nat.le_refl _⟩
    · obtain⟨k,h1,h2,h3⟩:=yg h
      exact⟨k,by rw[show i-j=(i-(j+1))+1 by omega];simpa using h1,h2,by omega⟩
theorem wo:∀{s:Ly} {l:List aY} {j:Nat},nH s l j=none→∀k∈l,k.cM≠s
  | s,[],j,_,k,hk=>by simp at hk
  | s,x :: l,j,h,k,hk=>by
    simp only[nH]at h
    split at h
    · cases h
    · rename_i hx
      rcases List.mem_cons.1 hk with rfl|hk
      · exact hx
      · exact wo h k hk
structure zf (b:Ly) (p:Nat):Prop where
  ent:fA b (p+40)=0
  arr:fA b (p+48)=0
  cnt:fA b (p+56)=0
theorem zf.mB {b c:Ly} {l l':List Ob} {p s:Nat} (h:zf b p) (ho:(⟨p,1,s⟩:Ob)∈l) (hs:64≤s) (hO:gd b 272 l b.length) (hO':gd c 272 l' c.length) (hm:∀o∈l,o∈l') (he:Eff (pA l') b c):zf c p:=by
  have B:=(hO.mem ho).le
  have E:=eO s
  simp only at B
  have A:∀q,40≤q→q≤56→fA c (p+q)=fA b (p+q):=fun q F D=>he.fA Oh fun a C=>by
    have:=((C.at hO').2.2 _ (hm _ ho)).1 rfl;simp only at this;omega
  exact⟨(A 40 Oh Oh).trans h.ent,(A 48 Oh Oh).trans h.arr,(A 56 Oh Oh).trans h.cnt⟩
structure BG (m m':Mk) (l l':List Ob) (i:Nat) (t:Ly):Prop where
  step:fw m m' l l'
  fu:Stat m' l'
  got:∃k,m'.ai[i]? = some k∧k.cM=t
  new:m'.ai=m.ai∨∃s p,m'.ai=m.ai ++ [({cM:=t,b9:=p,cF:=s,bQ:=0,bn:=[]}:aY)]∧zf m'.b p∧m.b.length≤p
theorem LD {m:Mk} {l:List Ob} (h:Stat m l) (x:Pr) (hx:x.name.length≤64∧x.value.length≤256):∃l',BG m (m.data x).2 l l' (m.data x).1 (ak x):=by
  unfold Mk.data
  cases hk:nH (ak x) m.ai 0 with
  | some i =>
    obtain⟨k,M,I,_⟩:=yg hk
    exact⟨l,fw.refl h.fH,h,⟨k,by simpa using M,I⟩,.inl q⟩
  | none =>
    simp only
    have Ak:=wo hk
    have Bb:=kK x
    generalize hF:jf {cQ:=eu m.c.dS m.c.dh (ak x),bT:=0,eH:=0,entry:=0,array:=0,bQ:=0,ak:=ak x}=o
    have Ag:o=qu 1 (nums [eI m (ak x),0,0,0,0,0] ++ ak x):=hF.symm
    obtain⟨⟨r,f1⟩,f2,S,f4⟩:=acG (k:=1) Om [eI m (ak x),0,0,0,0,0] (ak x) (by have:=uc m (ak x);intro v hv;simp at hv;omega)
    rw[← Ag]at f1 f2 S f4
    simp only[List.length_cons,List.length_nil,Nat.zero_add,Nat.reduceAdd,Nat.reduceMul]at f1 f2 f4
    have K:=fw.obj (m:=m) (o:=o) h.fH (.inl q) f1 f2 Oh Oh
    have Q:(m.di o).2.b=m.b ++ o:=rfl
    have g1:(m.di o).1=m.b.length:=rfl
    have T:=fD m o
    have g4:(m.di o).2.cP 2=m.cP 2:=by simp only[Mk.di];rw[ej Oh,ej Oh];rfl
    generalize m.di o=z at *
    obtain⟨p,E⟩:=z
    simp only at K Q g1 T g4 ⊢
    subst g1
    have hs:eu m.c.dS m.c.dh (ak x)%E.c.ay<m.c.ay:=by rw[T.1];exact Nat.mod_lt _ (by have:=h.slots;omega)
    have tt:=akD h hs
    rw[← g4]at tt
    have L:=fw.hang (m:=E) (p:=m.b.length) (ks:=E.ai) K.fH ⟨tt.1.mono K.mem,tt.2.mono K.mem⟩ (fun k hk=>by
      rw[T.2.1]at hk
      have:=(h.data k hk).ob
      exact⟨_,K.mem _ this,.inr ⟨.inl ⟨q,by simp only;omega⟩,.inl q⟩⟩)
    have G:=iY E E.ai (E.cP 2) m.b.length (eu m.c.dS m.c.dh (ak x)%E.c.ay)
    generalize hsl:eu m.c.dS m.c.dh (ak x)%E.c.ay=cF at *
    generalize E.hang E.ai (E.cP 2) m.b.length cF=z at *
    obtain⟨n,B⟩:=z
    simp only at L G ⊢
    obtain⟨d1,d2,d3,d4,d5,d6⟩:=G
    have S3:=K.trans L
    generalize hx5:({(B.dV 19 (max (B.cP 19) n)).dV 15 (((B.dV 19 (max (B.cP 19) n)).cP 15+1)%18446744073709551616)with ai:=((B.dV 19 (max (B.cP 19) n)).dV 15 (((B.dV 19 (max (B.cP 19) n)).cP 15+1)%18446744073709551616)).ai ++ [({cM:=ak x,b9:=m.b.length,cF:=cF,bQ:=0,bn:=[]}:aY)]}:Mk)=m5
    have g:m5.b=B.b∧m5.c=B.c∧m5.main=B.main∧m5.aj=B.aj∧m5.ai=B.ai ++ [({cM:=ak x,b9:=m.b.length,cF:=cF,bQ:=0,bn:=[]}:aY)]:=by subst hx5;exact⟨q,q,q,q,q⟩
    have u:=S3.to (m'':=m5) g.1 g.2.1 g.2.2.1 (fun i _ _ h3=>by
      subst hx5
      exact(ej (m:=B.dV 19 (max (B.cP 19) n)) Oh).trans (ej Oh)) (by subst hx5;simp[Mk.dV])
    clear hx5
    obtain⟨a1,a2,a3,a4,a5⟩:=g
    have J:m5.ai=m.ai ++ [({cM:=ak x,b9:=m.b.length,cF:=cF,bQ:=0,bn:=[]}:aY)]:=by rw[a5,d2,T.2.1]
    have W:m5.aj=m.aj:=by rw[a4,d3,T.2.2.1]
    have C:(⟨m.b.length,1,64+(ak x).length⟩:Ob)∈l ++ [⟨m.b.length,1,64+(ak x).length⟩]:=by simp
    have Am:Stat m5 (l ++ [⟨m.b.length,1,64+(ak x).length⟩]):=by
      refine h.step u (fun k hk=>?_) (fun k hk=>.inl (W ▸ hk)) (fun i j k t H hj F=>?_) (fun y D hk=>?_) (fun y D hk=>?_)
      · rw[J,List.mem_append,List.mem_singleton]at hk
        rcases hk with hk|rfl
        · exact .inl hk
        · right
          have k0:tC E.b (l ++ [⟨m.b.length,1,64+(ak x).length⟩]) (eI m (ak x)) ({cM:=ak x,b9:=m.b.length,cF:=cF,bQ:=0,bn:=[]}:aY):=by
            refine⟨C,?_,?_⟩
            · rw[Q,qy];exact S 0 _ q
            · rw[Q,Rm];exact f4
          rw[a1]
          exact k0.mB K.fH L.mB (fun a ha=>ha.ac3 L.fH) fun _ h=>h
      · rw[J]at H hj
        have d:∀(i:Nat) (k:aY),m.ai[i]? = some k→k.b9+16≤m.b.length∧k.cM≠ak x:=fun i k H=>by
          have hm:=List.mem_of_getElem? H
          have:=(h.fH.mem (h.data k hm).ob).le
          have:=eO (64+k.cM.length)
          simp only at *
          exact⟨by omega,Ak k hm⟩
        have A:∀(i:Nat) (k:aY),(m.ai ++ [({cM:=ak x,b9:=m.b.length,cF:=cF,bQ:=0,bn:=[]}:aY)])[i]? = some k→(m.ai[i]? = some k)∨i=m.ai.length∧k={cM:=ak x,b9:=m.b.length,cF:=cF,bQ:=0,bn:=[]}:=fun i k H=>by
          rcases Nat.lt_or_ge i m.ai.length with hl|hl
          · rw[List.getElem?_append_left hl]at H;exact .inl H
          · have Aj:=(List.getElem?_eq_some_iff.1 H).1
            simp at Aj
            rw[List.getElem?_append_right hl,show i-m.ai.length=0 by omega]at H
            exact .inr ⟨by omega,by simpa using H.symm⟩
        rcases A i k H with M|⟨M,rfl⟩
        · rcases A j t hj with I|⟨I,rfl⟩
          · exact h.one i j k t M I F
          · have:=d i k M
            rcases F with F|F
            · simp only at F;omega
            · exact absurd F this.2
        · rcases A j t hj with I|⟨I,rfl⟩
          · have:=d j t I
            rcases F with F|F
            · simp only at F;omega
            · exact absurd F.symm this.2
          · omega
      · rw[J]
        rcases List.mem_append.1 D with D|D
        · obtain⟨k,M,I⟩:=h.all y D hk
          exact⟨k,List.mem_append_left _ M,I⟩
        · simp at D;subst D
          exact⟨({cM:=ak x,b9:=m.b.length,cF:=cF,bQ:=0,bn:=[]}:aY),List.mem_append_right _ Oq,q⟩
      · rw[W]
        rcases List.mem_append.1 D with D|D
        · exact h.RS y D hk
        · simp at D;subst D;simp at hk
    have Ad:zf E.b m.b.length:=⟨by rw[Q,qy];exact S 3 _ q,by rw[Q,qy];exact S 4 _ q,by rw[Q,qy];exact S 5 _ q⟩
    have Ae:zf m5.b m.b.length:=by
      rw[a1];exact Ad.mB C Oh K.fH L.fH L.mem L.mB
    obtain⟨l6,e,P,⟨R,Y,Z⟩,U⟩:=abL Am x.name Oh
    have X:=(P.fld R Y).ob
    generalize m5.field x.name=z at *
    obtain⟨k,O⟩:=z
    simp only at e P Z U Y X ⊢
    subst Z
    have N:=e.mem _ C
    have sp:pA l6 (m.b.length+32):=⟨_,N,.inr ⟨.inl ⟨q,by simp only;omega⟩,.inr q⟩⟩
    have sk:pA l6 (R.b9+32):=⟨_,X,.inr ⟨.inr ⟨q,by simp only;omega⟩,.inr q⟩⟩
    have w:=fw.put (m:=O) (mM O.b (R.b9+32:Nat) 8).1 e.fH sp
    have Ao:=P.soft w q q q
    have S8:=fw.put (m:=O.put (m.b.length+32) (mM O.b (R.b9+32:Nat) 8).1) m.b.length w.fH sk
    have Ap:=Ao.soft S8 q q q
    have f:=e.trans (w.trans S8)
    have V:((O.put (m.b.length+32) (mM O.b (R.b9+32:Nat) 8).1).put (R.b9+32) m.b.length).ai=m.ai ++ [({cM:=ak x,b9:=m.b.length,cF:=cF,bQ:=0,bn:=[]}:aY)]:=by
      show O.ai=_
      rw[U,J]
    have Af:=Ae.mB C Oh u.fH f.fH f.mem f.mB
    refine⟨l6,u.trans f,Ap,⟨({cM:=ak x,b9:=m.b.length,cF:=cF,bQ:=0,bn:=[]}:aY),by rw[V];simp,q⟩,.inr ⟨cF,m.b.length,V,Af,Nat.le_refl _⟩⟩
end Go.Wk
namespace Go.Wk
open Go Go.RowKit
structure vU (b:Ly) (l:List Ob) (k:aY) (ps:List Nat):Prop where
  cnt:k.bQ=ps.length
  word:fA b (k.b9+56)=ps.length
  ent:fA b (k.b9+40)=ps.getD 0 0
  chain:Chain b l (k.b9+48) k.bn (ps.drop 1)
theorem AG {b:Ly} {l:List Ob} {n:Nat} {k:aY} (h:tC b l n k):Src l (k.b9+48):=by
  have:=eO (64+k.cM.length)
  exact .inr ⟨_,h.ob,by simp,by simp only;omega,by simp only;omega⟩
theorem ul (l:List Ob):Src l 176:=.inl Om
theorem vU.mB {b c:Ly} {l r:List Ob} {n:Nat} {k:aY} {ps:List Nat} {S:Nat→Prop} (h:vU b l k ps) (hs:tC b l n k) (hO:gd b 272 l b.length) (he:Eff S b c) (hr:∀o∈l,o∈r)
    (h1:∀a,S a→a+8≤k.b9+40∨k.b9+64≤a) (h2:∀i x:Nat,k.bn[i]? = some x→∀a,S a→a+8≤x+16∨x+24+8*eL (i:Int)≤a):vU c r k ps:=by
  have B:=(hO.mem hs.ob).le
  have C:=eO (64+k.cM.length)
  simp only at B
  refine⟨h.cnt,(he.fA Oh fun a A=>?_).trans h.word,(he.fA Oh fun a A=>?_).trans h.ent,h.chain.mB hO (AG hs) (Nat.le_refl _) he hr (fun a A=>?_) h2⟩
  · have:=h1 a A;omega
  · have:=h1 a A;omega
  have:=h1 a A;omega
theorem Chain.vX {b b':Ly} {l l':List Ob} {src e:Nat} {av aD:List Nat} (h:Chain b l src av aD) (hO:gd b' 272 l' e) (hm:∀o∈l,o∈l') {i x a:Nat} (hx:av[i]? = some x) (ha:∀o∈l',o.kind=6→a+8≤o.b9∨o.b9+mI o.size≤a):a+8≤x+16∨x+24+8*eL (i:Int)≤a:=by
  have:=ha _ (hm _ (h.ob i x hx)) q
  rw[jl]at this
  simp only at this
  omega
theorem vU.soft {b c:Ly} {l r:List Ob} {n:Nat} {k:aY} {ps:List Nat} (h:vU b l k ps) (hs:tC b l n k) (hO:gd b 272 l b.length) (hO':gd c 272 r c.length) (he:Eff (pA r) b c) (hr:∀o∈l,o∈r):vU c r k ps:=by
  have D:=eO (64+k.cM.length)
  refine h.mB hs hO he hr (fun a A=>?_) (fun i x C a A=>?_)
  · have:=((A.at hO').2.2 _ (hr _ hs.ob)).1 q
    simp only at this;omega
  exact h.chain.vX hO' hr C fun o B hk=>((A.at hO').2.2 o B).2 hk
theorem ZH {b c:Ly} {l r:List Ob} {av aD:List Nat} (h:Chain b l 176 av aD) (hO:gd b 272 l b.length) (hO':gd c 272 r c.length) (he:Eff (pA r) b c) (hr:∀o∈l,o∈r):Chain c r 176 av aD:=by
  refine h.mB hO (ul l) (Nat.le_refl _) he hr (fun a B=>?_) (fun i x D a B=>?_)
  · have:=(B.at hO').1;omega
  exact h.vX hO' hr D fun o C hk=>((B.at hO').2.2 o C).2 hk
theorem vU.new {b:Ly} {l:List Ob} {k:aY} (h:zf b k.b9) (hc:k.bQ=0) (ha:k.bn=[]):vU b l k []:=by
  refine⟨hc,h.cnt,h.ent,?_⟩
  rw[ha]
  exact⟨h.arr,by simp,by simp,by simp,by simp,Nat.le_refl _,Nat.le_refl _⟩
def ae0 (k:aY) (av:List Nat) (a:Nat):Prop:=a=k.b9+40∨a=k.b9+56∨zh (k.b9+48) av a
structure ae1 (m m':Mk) (l l':List Ob) (i e:Nat) (k k':aY) (ps:List Nat):Prop where
  fH:gd m'.b 272 l' m'.b.length
  sub:∃t,l'=l ++ t∧∀o∈t,o.kind=6∧m.b.length≤o.b9
  dat:m'.ai=m.ai.set i k'
  b9:k'.b9=k.b9∧k'.cM=k.cM∧k'.cF=k.cF
  arr:k'.bn=k.bn∨k'.bn=k.bn ++ [m.b.length]
  more:vU m'.b l' k' (ps ++ [e])
  mB:Eff (ae0 k k'.bn) m.b m'.b
  top:m'.b.length≤m.b.length+2100
  same:m'.c=m.c∧m'.aj=m.aj∧m'.main=m.main∧m'.depth=m.depth∧∀i,i≠6→i≠7→i≠18→m'.cP i=m.cP i
  cn:Cn m l→Cn m' l'
theorem VJ {b:Ly} {l r:List Ob} {e n:Nat} {k:aY} (hO:gd b 272 r e) (hm:∀o∈l,o∈r) {c:Ly} (hs:tC c l n k):∀o∈r,o.kind=6→k.b9+64≤o.b9∨o.b9+mI o.size≤k.b9:=fun o ho h6=>by
  have hu:=eO (64+k.cM.length)
  rcases hO.sep ho (hm _ hs.ob)with rfl|hh|hh
  · simp at h6
  · exact .inr hh
  · simp only at hh;exact .inl Oh
theorem LC {b c:Ly} {l r:List Ob} {n:Nat} {k:aY} (hs:tC c l n k) (hm:∀o∈l,o∈r) (hO:gd b 272 r b.length) {q:Nat} (v:Nat) (hq:q=k.b9+40∨q=k.b9+56):gd (ja b q v) 272 r (ja b q v).length:=by
  have C:=eO (64+k.cM.length)
  rw[gu]
  exact hO.mB (Eff.put b q v) (Nat.le_refl _) fun o B a A=>by subst A;exact hO.body (.inr ⟨_,hm _ hs.ob,by simp only;omega,by simp only;omega⟩) B
theorem Z9 {m:Mk} {l:List Ob} {i e n:Nat} {k:aY} {ps:List Nat} (hO:gd m.b 272 l m.b.length) (hk:m.ai[i]? = some k) (hs:tC m.b l n k) (hd:vU m.b l k ps) (hb:m.b.length<900000) (he:e<18446744073709551616) (h0:k.bQ=0) :
    ∃l' k',ae1 m (kJ e i m) l l' i e k k' ps:=by
  have E:m.ai.getD i known0=k:=by simp[List.getD,hk]
  have V:=(hO.mem hs.ob).le
  have Z:=eO (64+k.cM.length)
  simp only at V
  have K:=hd.cnt
  unfold kJ
  simp only[E]
  rw[if_pos h0]
  have F:ps=[]:=List.eq_nil_of_length_eq_zero Oh
  subst F
  have R:=LC hs (fun _ h=>h) hO e (q:=k.b9+40) (.inl rfl)
  have S:=LC hs (fun _ h=>h) R 1 (q:=k.b9+56) (.inr rfl)
  have J:Eff (fun a=>a=k.b9+40∨a=k.b9+56) m.b (ja (ja m.b (k.b9+40) e) (k.b9+56) 1):=((Eff.put _ _ _).mono fun a A=>.inl A).trans ((Eff.put _ _ _).mono fun a A=>.inr A)
  have U:(ja (ja m.b (k.b9+40) e) (k.b9+56) 1).length=m.b.length:=by rw[gu,gu]
  have D:((m.put (k.b9+40) e).put (k.b9+56) 1).b=ja (ja m.b (k.b9+40) e) (k.b9+56) 1:=rfl
  have C:=lT m (k.b9+40) e
  have Y:=lT (m.put (k.b9+40) e) (k.b9+56) 1
  generalize (m.put (k.b9+40) e).put (k.b9+56) 1=M at *
  obtain⟨N,L,O,P,G,Q⟩:=Y
  rw[C.1]at N;rw[C.2.1]at L;rw[C.2.2.1]at O;rw[C.2.2.2.1]at P;rw[C.2.2.2.2.1]at G;rw[C.2.2.2.2.2]at Q
  clear C
  generalize hB:ja (ja m.b (k.b9+40) e) (k.b9+56) 1=B at *
  subst D
  have I:fA M.b (k.b9+56)=1:=by rw[← hB];exact j9 (by rw[gu];omega) Om
  have H:fA M.b (k.b9+40)=e:=by rw[← hB];exact(gJ Oh).trans (j9 Oh he)
  clear hB
  refine⟨l,{k with bQ:=1},S,⟨[],(List.append_nil l).symm,by simp⟩,?_,⟨rfl,rfl,rfl⟩,.inl rfl,⟨rfl,I,H,?_⟩,J.mono fun a A=>A.elim .inl fun h=>.inr (.inl h),?_,⟨N,O,P,Q,fun j _ _ _=>?_⟩,fun c=>c.same G⟩
  · show M.ai.set i _=_
    rw[L]
  · refine hd.chain.mB hO (AG hs) (Nat.le_refl _) J (fun _ h=>h) (fun a A=>by omega) (fun j x X a A=>?_)
    exact hd.chain.vX hO (fun _ h=>h) X fun o W T=>by have:=VJ hO (fun _ h=>h) hs o W T;omega
  · show M.b.length≤_
    omega
  show M.h.n.getD j 0=_
  rw[G];rfl
theorem Z8 {m:Mk} {l:List Ob} {i e n:Nat} {k:aY} {ps:List Nat} (hO:gd m.b 272 l m.b.length) (hk:m.ai[i]? = some k) (hs:tC m.b l n k) (hd:vU m.b l k ps) (hb:m.b.length<900000) (he:e<18446744073709551616) (hp:ps.length<1000000) (h0:¬k.bQ=0) :
    ∃l' k',ae1 m (kJ e i m) l l' i e k k' ps:=by
  have H:m.ai.getD i known0=k:=by simp[List.getD,hk]
  have P:=(hO.mem hs.ob).le
  have U:=eO (64+k.cM.length)
  simp only at P
  have A:=hd.cnt
  unfold kJ
  simp only[H]
  rw[if_neg h0]
  have N:k.bQ-1=(ps.drop 1).length:=by simp;omega
  rw[N]
  obtain⟨l',L⟩:=LQ (x:=e) hO hd.chain (AG hs) hb he
  have O:=L.mB.len
  have B:∀o∈l,o∈l':=by
    rcases L.sub with h|h
    · rw[h];exact fun _ h=>h
    · rw[h];exact fun o E=>List.mem_append_left _ E
  have R:=KT m.b (k.b9+40)
  generalize m.link k.bn (ps.drop 1).length (k.b9+48) e=r at *
  obtain⟨a,t,F⟩:=r
  simp only at L O ⊢
  have J:=LC hs B L.fH (k.bQ+1) (q:=k.b9+56) (.inr rfl)
  have I:Eff (fun a=>a=k.b9+56) F.b (ja F.b (k.b9+56) (k.bQ+1)):=Eff.put _ _ _
  have Q:⟨k.b9,1,64+k.cM.length⟩∈l':=B _ hs.ob
  have D:Src l' (k.b9+48):=(AG hs).mono B
  have hsep':=VJ L.fH B hs
  have G:fA F.b (k.b9+40)=fA m.b (k.b9+40):=L.mB.fA Oh fun x C=>by
    rcases C with rfl|⟨j,c,K,S,T⟩
    · omega
    · have:=hsep' _ (L.chain.ob j c K) rfl
      rw[jl]at this;simp only at this;omega
  refine⟨l',{k with bn:=a,bQ:=k.bQ+1},J,?_,?_,⟨rfl,rfl,rfl⟩,L.arr,⟨?_,?_,?_,?_⟩,?_,?_,⟨L.same.1,L.same.2.2.1,L.same.2.2.2.1,L.same.2.2.2.2.1,L.same.2.2.2.2.2⟩,fun c=>(L.cn c).same rfl⟩
  · rcases L.sub with h|h
    · exact⟨[],by simp[h],by simp⟩
    exact⟨_,h,by intro o E;simp at E;subst E;exact⟨rfl,Nat.le_refl _⟩⟩
  · show F.ai.set i _=_
    rw[L.same.2.1]
  · show k.bQ+1=_
    simp;omega
  · refine(j9 Oh Oh).trans ?_
    simp;omega
  · show fA (ja F.b (k.b9+56) (k.bQ+1)) (k.b9+40)=_
    rw[gJ Oh,G,hd.ent]
    cases ps with
    | nil=>simp at A;exact absurd A h0
    | cons y r=>rfl
  · have:(ps ++ [e]).drop 1=ps.drop 1 ++ [e]:=by
      cases ps with
      | nil=>simp at A;exact absurd A h0
      | cons y r=>rfl
    rw[this]
    refine L.chain.mB L.fH D (Nat.le_refl _) I (fun _ h=>h) (fun x C=>by omega) (fun j x C y V=>?_)
    exact L.chain.vX L.fH (fun _ h=>h) C fun o E M=>by have:=hsep' o E M;omega
  · exact(L.mB.mono fun x C=>.inr (.inr C)).trans (I.mono fun x C=>.inr (.inl C))
  show(ja F.b (k.b9+56) (k.bQ+1)).length≤_
  rw[gu];exact L.top
theorem OZ {m:Mk} {l:List Ob} {i e n:Nat} {k:aY} {ps:List Nat} (hO:gd m.b 272 l m.b.length) (hk:m.ai[i]? = some k) (hs:tC m.b l n k) (hd:vU m.b l k ps) (hb:m.b.length<900000) (he:e<18446744073709551616) (hp:ps.length<1000000) :
    ∃l' k',ae1 m (kJ e i m) l l' i e k k' ps:=by
  by_cases h0:k.bQ=0
  · exact Z9 hO hk hs hd hb he h0
  exact Z8 hO hk hs hd hb he hp h0
end Go.Wk
namespace Go.Wk
open Go Go.RowKit
structure gG where
  b9:Nat
  ent:gI
  who:List Nat
structure aey (b:Ly) (l:List Ob) (g:gG):Prop where
  ob:(⟨g.b9,3,64+16*g.ent.aD.length⟩:Ob)∈l
  seg:seg b g.b9 (64+16*g.ent.aD.length)=e6 g.ent
theorem aey.mB {b c:Ly} {l r:List Ob} {g:gG} {S:Nat→Prop} (h:aey b l g) (hO:gd b 272 l b.length) (he:Eff S b c) (hs:∀a,S a→tf l a) (hr:∀o∈l,o∈r):aey c r g:=by
  have B:=(hO.mem h.ob).le
  have C:=eO (64+16*g.ent.aD.length)
  refine⟨hr _ h.ob,(he.seg _ _ (by simp only at B;omega) fun a A=>?_).trans h.seg⟩
  have:=(hs a A _ h.ob).2.2.2 rfl;simp only at this;omega
structure akN (m:Mk):Prop where
  main:∀(i:Nat) (k:aY),m.ai[i]? = some k→∀a∈k.bn,a∉m.main
  one:∀(i j:Nat) (k k':aY) (a:Nat),m.ai[i]? = some k→m.ai[j]? = some k'→a∈k.bn→a∈k'.bn→i=j
structure mJ (m:Mk) (l:List Ob) (es:List gG) (mp:List Nat) (f:Nat→List Nat):Prop where
  fu:Stat m l
  main:Chain m.b l 176 m.main mp
  dat:∀(i:Nat) (k:aY),m.ai[i]? = some k→vU m.b l k (f i)
  own:akN m
  ent:∀g∈es,aey m.b l g
  kin:(l.filter fun o=>decide (o.kind=3)).map Ob.b9=es.map gG.b9
theorem wm {l t:List Ob} (h:∀o∈t,o.kind≠3):((l ++ t).filter fun o=>decide (o.kind=3))=l.filter fun o=>decide (o.kind=3):=by
  have e:(t.filter fun o=>decide (o.kind=3))=[]:=List.filter_eq_nil_iff.2 fun o A=>by simpa using h o A
  rw[List.filter_append,e,List.append_nil]
structure mr (ds ds':List aY):Prop where
  len:ds'.length=ds.length
  get:∀(i:Nat) (k':aY),ds'[i]? = some k'→∃k,ds[i]? = some k∧k'.b9=k.b9∧k'.cM=k.cM
theorem mr.refl (ds:List aY):mr ds ds:=⟨q,fun _ k h=>⟨k,h,q,q⟩⟩
theorem mr.set {ds:List aY} {i:Nat} {k k':aY} (h:ds[i]? = some k) (h1:k'.b9=k.b9) (h2:k'.cM=k.cM):mr ds (ds.set i k'):=by
  refine⟨by simp,fun j y A=>?_⟩
  by_cases hj:i=j
  · subst hj
    rw[List.getElem?_set_self (List.getElem?_eq_some_iff.1 h).1]at A
    cases A
    exact⟨k,h,h1,h2⟩
  rw[List.getElem?_set_ne hj]at A
  exact⟨y,A,q,q⟩
theorem tC.congr {b:Ly} {l:List Ob} {n:Nat} {k k':aY} (h:tC b l n k) (h1:k'.b9=k.b9) (h2:k'.cM=k.cM):tC b l n k':=by
  obtain⟨A,B,C⟩:=h
  exact⟨by rw[h1,h2];exact A,by rw[h1];exact B,by rw[h1,h2];exact C⟩
theorem Stat.keep {m m':Mk} {l l':List Ob} {S:Nat→Prop} (h:Stat m l) (hO':gd m'.b 272 l' m'.b.length) (hl:∃t,l'=l ++ t∧∀o∈t,o.kind≠1∧o.kind≠2) (he:Eff S m.b m'.b) (hM:∀a,S a→tf l a) (hc:m'.c=m.c) (hf:m'.aj=m.aj) (hn:m'.cP 2=m.cP 2∧m'.cP 4=m.cP 4) (hd:mr m.ai m'.ai) (hcn:Cn m' l'):Stat m' l':=by
  obtain⟨t,rfl,P⟩:=hl
  have I:∀o∈l,o∈l ++ t:=fun o B=>List.mem_append_left _ B
  have O:∀t,eI m' t=eI m t:=fun t=>by unfold eI;rw[hc]
  refine⟨hO',by rw[hc];exact I _ h.zV,by rw[hc];exact I _ h.GA,hn.1.trans h.n2,by rw[hc];exact hn.2.trans h.n4,by rw[hc];exact h.slots,fun k hk=>?_,fun k hk=>?_,fun i j k F E Q R=>?_,fun o B C=>?_,fun o B C=>?_,hcn⟩
  · obtain⟨i,E⟩:=List.mem_iff_getElem?.1 hk
    obtain⟨J,K,C,D⟩:=hd.get i k E
    rw[O,D]
    exact((h.data J (List.mem_of_getElem? K)).mB h.fH he hM I).congr C D
  · rw[hf]at hk;rw[O]
    exact(h.fld k hk).mB h.fH he hM I
  · obtain⟨J,K,C,D⟩:=hd.get i k E
    obtain⟨T,H,L,N⟩:=hd.get j F Q
    exact h.one i j J T K H (by rw[← C,← L,← D,← N];exact R)
  · rcases List.mem_append.1 B with B|B
    · obtain⟨k,hk,D⟩:=h.all o B C
      obtain⟨i,E⟩:=List.mem_iff_getElem?.1 hk
      have M:=(List.getElem?_eq_some_iff.1 E).1
      obtain⟨F,G⟩:∃F,m'.ai[i]? = some F:=⟨_,List.getElem?_eq_getElem (by rw[hd.len];exact M)⟩
      obtain⟨J,H,L,N⟩:=hd.get i F G
      rw[E]at H;cases H
      exact⟨F,List.mem_of_getElem? G,L.trans D⟩
    exact absurd C (P o B).1
  rcases List.mem_append.1 B with B|B
  · rw[hf];exact h.RS o B C
  exact absurd C (P o B).2
theorem mJ.soft {m m':Mk} {l l':List Ob} {es:List gG} {mp:List Nat} {f:Nat→List Nat} {i:Nat} {t:Ly} (h:mJ m l es mp f) (d:BG m m' l l' i t) (hf:∀i,m.ai.length≤i→f i=[]):mJ m' l' es mp f:=by
  have H:=d.step.mem
  have hO':=d.step.fH
  have J:=d.step.mB
  have O:∀a,pA l' a→tf l a:=fun a C=>(C.ac3 hO').mono H
  have D:=d.step.same.2.1
  have M:∀(j:Nat) (k:aY),m.ai[j]? = some k→vU m'.b l' k (f j):=fun j k B=>(h.dat j k B).soft (h.fu.data k (List.mem_of_getElem? B)) h.fu.fH hO' J H
  have A:∀(j:Nat) (k:aY),m'.ai[j]? = some k→m.ai[j]? = some k∨(m.ai.length≤j∧k.bQ=0∧k.bn=[]∧zf m'.b k.b9):=fun j k B=>by
    rcases d.new with e|⟨s,p,e,I,_⟩
    · rw[e]at B;exact .inl B
    · rw[e]at B
      rcases Nat.lt_or_ge j m.ai.length with F|F
      · rw[List.getElem?_append_left F]at B;exact .inl B
      · have L:=(List.getElem?_eq_some_iff.1 B).1
        simp at L
        rw[List.getElem?_append_right F,show j-m.ai.length=0 by omega]at B
        have:k={cM:=t,b9:=p,cF:=s,bQ:=0,bn:=[]}:=by simpa using B.symm
        subst this
        exact .inr ⟨F,q,q,I⟩
  refine⟨d.fu,?_,fun j k B=>?_,⟨fun j k B a C=>?_,fun i j k N a K B C E=>?_⟩,fun g Q=>(h.ent g Q).mB h.fu.fH J O H,?_⟩
  · rw[D];exact ZH h.main h.fu.fH hO' J H
  · rcases A j k B with B|⟨F,P,C,I⟩
    · exact M j k B
    rw[hf j F];exact vU.new I P C
  · rw[D]
    rcases A j k B with B|⟨_,_,G,_⟩
    · exact h.own.main j k B a C
    rw[G]at C;simp at C
  · rcases A i k K with K|⟨_,_,G,_⟩
    · rcases A j N B with B|⟨_,_,G,_⟩
      · exact h.own.one i j k N a K B C E
      rw[G]at E;simp at E
    rw[G]at C;simp at C
  obtain⟨u,e,S⟩:=d.step.sub
  rw[e,wm fun o R=>by have:=(S o R).1;omega]
  exact h.kin
theorem mJ.entry {m:Mk} {l:List Ob} {es:List gG} {mp:List Nat} {f:Nat→List Nat} (h:mJ m l es mp f) {E:gI} {who:List Nat} (hb:E.bV.length=16) (hn:E.aD.length≤1000) :
    mJ (m.di (e6 E)).2 (l ++ [⟨m.b.length,3,64+16*E.aD.length⟩]) (es ++ [⟨m.b.length,E,who⟩]) mp f:=by
  have U:=mO E hb
  have B:(m.di (e6 E)).2.b=m.b ++ e6 E:=rfl
  have T:=fD m (e6 E)
  have C:∀i,i≠6→i≠7→(m.di (e6 E)).2.cP i=m.cP i:=fun i V W=>by
    simp only[Mk.di]
    rw[ej Oh,ej Oh];rfl
  have I:=h.fu.cn.obj (e6 E) (k:=3) (s:=64+16*E.aD.length) Oh
  generalize (m.di (e6 E)).2=m' at *
  obtain⟨R,H,S,M⟩:=T
  have P:mI (64+16*E.aD.length)=64+16*E.aD.length:=by unfold mI;omega
  have F:(e6 E).length=64+16*E.aD.length:=by omega
  have G:Eff (fun _=>False) m.b m'.b:=by rw[B];exact Eff.app _ _ _
  have Q:∃r,e6 E=RO 3 (64+16*E.aD.length) ++ r:=by
    unfold e6
    rw[xI Oh]
    rw[show 16+(nums [E.seq,E.cu,E.mono] ++ E.bV ++ nums [E.xor] ++ lO E.aD).length=64+16*E.aD.length by simp[fV,vf,hb];omega]
    exact⟨_,List.append_assoc _ _ _⟩
  obtain⟨r,O⟩:=Q
  have hO':gd m'.b 272 (l ++ [⟨m.b.length,3,64+16*E.aD.length⟩]) m'.b.length:=by
    have:=(h.fu.fH.mB G (Nat.le_refl _) (fun _ _ _ A=>A.elim)).app (o:=⟨m.b.length,3,64+16*E.aD.length⟩) q Oq Oq Lw Lw ?_
    · simp only[P]at this;rw[B,List.length_append,F];rw[B]at this;exact this
    · have L:=jr (x:=m.b) (y:=e6 E) (p:=m.b.length) (n:=16) (Nat.le_refl _)
      rw[Nat.sub_self,acg O (kO _ _)]at L
      rw[B];exact L
  have K:∀o∈l,o∈l ++ [(⟨m.b.length,3,64+16*E.aD.length⟩:Ob)]:=fun o N=>List.mem_append_left _ N
  refine⟨h.fu.keep hO' ⟨_,q,by simp⟩ G (fun _ A=>A.elim) R S ⟨C 2 Om Om,C 4 Om Om⟩ (by rw[H];exact mr.refl _) I,?_,fun i k J=>?_,⟨by rw[H,M];exact h.own.main,by rw[H];exact h.own.one⟩,fun g D=>?_,?_⟩
  · rw[M];exact h.main.mB h.fu.fH (ul l) (Nat.le_refl _) G K (fun _ A=>A.elim) (fun _ _ _ _ A=>A.elim)
  · rw[H]at J
    exact(h.dat i k J).mB (h.fu.data k (List.mem_of_getElem? J)) h.fu.fH G K (fun _ A=>A.elim) (fun _ _ _ _ A=>A.elim)
  · rcases List.mem_append.1 D with D|D
    · exact(h.ent g D).mB h.fu.fH G (fun _ A=>A.elim) K
    simp at D;subst D
    refine⟨by simp,?_⟩
    simp only
    rw[B,← F]
    exact seg_new _ _
  rw[List.filter_append,List.map_append,h.kin];simp
theorem DZ {b:Ly} {l:List Ob} {e src a:Nat} {av:List Nat} (hO:gd b 272 l e) (h:zh src av a) (hob:∀k c:Nat,av[k]? = some c→(⟨c,6,24+8*eL (k:Int)⟩:Ob)∈l) {o:Ob} (ho:o∈l) (hne:∀c∈av,c≠o.b9):a=src∨a+8≤o.b9∨o.b9+mI o.size≤a:=by
  rcases h with h|⟨k,c,B,C,D⟩
  · exact .inl h
  right
  rcases hO.sep ho (hob k c B)with A|A|A
  · exact absurd (congrArg Ob.b9 A).symm (hne c (List.mem_of_getElem? B))
  · simp only at A;omega
  rw[jl]at A;simp only at A;omega
theorem E2 {b:Ly} {l:List Ob} {e src a:Nat} {av:List Nat} (hO:gd b 272 l e) (h:zh src av a) (hob:∀k c:Nat,av[k]? = some c→(⟨c,6,24+8*eL (k:Int)⟩:Ob)∈l) (hs:tf l src):tf l a:=by
  rcases h with h|⟨k,c,A,B,C⟩
  · rw[h];exact hs
  exact AO hO (hob k c A) Lw (by rw[jl];simp only;omega) Oq Oq Oq
end Go.Wk
namespace Go.Wk
open Go Go.RowKit
theorem xf {l:List Nat} {a:Nat} (h:a∈l):∃i:Nat,l[i]? = some a:=List.mem_iff_getElem?.1 h
theorem aiN {m:Mk} {l l':List Ob} {n:Nat} (h:l'=l∨l'=l ++ [(⟨m.b.length,6,24+8*n⟩:Ob)]):∃t,l'=l ++ t∧∀o∈t,o.kind=6∧m.b.length≤o.b9:=by
  rcases h with h|h
  · exact⟨[],by simp[h],by simp⟩
  exact⟨_,h,by intro o A;simp at A;subst A;exact⟨q,Nat.le_refl _⟩⟩
theorem mJ.link {m m':Mk} {l l':List Ob} {es:List gG} {mp:List Nat} {f:Nat→List Nat} {x:Nat} {av:List Nat} {m1:Mk} (h:mJ m l es mp f) (L:Linked m m1 l l' 176 m.main av mp x)
    (hb:m'.b=m1.b) (hc:m'.c=m1.c) (hd:m'.ai=m1.ai) (hf:m'.aj=m1.aj) (hm':m'.main=av) (hn:m'.cP 2=m1.cP 2∧m'.cP 4=m1.cP 4) (hcn:Cn m1 l'→Cn m' l'):mJ m' l' es (mp ++ [x]) f:=by
  obtain⟨X,Y,Z,n,p,T⟩:=L.same
  obtain⟨t,M,S⟩:=aiN L.sub
  have hO':=L.fH
  have H:∀o∈l,o∈l':=fun o D=>by rw[M];exact List.mem_append_left _ D
  have N:=L.mB
  have I:∀a,zh 176 av a→tf l a:=fun a C=>(E2 hO' C L.chain.ob (JF hO' Om)).mono H
  have E:∀c∈av,c∈m.main∨c=m.b.length:=fun c hc=>by
    rcases L.arr with e|e
    · rw[e]at hc;exact .inl hc
    · rw[e,List.mem_append,List.mem_singleton]at hc;exact hc
  have F:∀c∈av,∀o∈l',o.kind≠6→c≠o.b9:=fun c hc o D hk e=>by
    obtain⟨i,B⟩:=xf hc
    rcases hO'.sep D (L.chain.ob i c B)with G|G|G
    · subst G;exact hk q
    · have:=eO o.size;have:=(hO'.mem D).size.1;simp only at G;omega
    · rw[jl]at G;simp only at G;omega
  have K:m'.ai=m.ai:=hd.trans Y
  refine⟨h.fu.keep (by rw[hb];exact hO') ⟨t,M,fun o D=>by have:=(S o D).1;exact⟨by omega,by omega⟩⟩ (by rw[hb];exact N) I (hc.trans X) (hf.trans Z) ⟨hn.1.trans (T 2 Om Om Om),hn.2.trans (T 4 Om Om Om)⟩ (by rw[K];exact mr.refl _) (hcn (L.cn h.fu.cn)),by rw[hb,hm'];exact L.chain,fun i k B=>?_,⟨fun i k B a C hc=>?_,by rw[K];exact h.own.one⟩,fun g U=>by rw[hb];exact(h.ent g U).mB h.fu.fH N I H,by rw[M,wm fun o D=>by have:=(S o D).1;omega];exact h.kin⟩
  · rw[K]at B
    have J:=h.fu.data k (List.mem_of_getElem? B)
    have d:=eO (64+k.cM.length)
    have V:272≤k.b9:=(h.fu.fH.mem J.ob).ge
    rw[hb]
    refine(h.dat i k B).mB J h.fu.fH N H (fun a C=>?_) (fun j y R a C=>?_)
    · rcases DZ hO' C L.chain.ob (H _ J.ob) (fun c hc=>F c hc _ (H _ J.ob) Oq)with A|A|A
      · omega
      · simp only at A;omega
      simp only at A;omega
    have Q:=(h.dat i k B).chain.ob j y R
    have O:=(h.dat i k B).chain.le h.fu.fH R
    have P:∀c∈av,c≠y:=fun c hc e=>by
      subst e
      rcases E c hc with A|A
      · exact h.own.main i k B c (List.mem_of_getElem? R) A
      · omega
    rcases DZ hO' C L.chain.ob (H _ Q) P with A|A|A
    · omega
    · simp only at A;omega
    rw[jl]at A;simp only at A;omega
  rw[K]at B;rw[hm']at hc
  rcases E a hc with A|A
  · exact h.own.main i k B a C A
  obtain⟨j,W⟩:=xf C
  have O:=(h.dat i k B).chain.le h.fu.fH W
  omega
theorem sw {k:aY} {av:List Nat} {a:Nat} (h:ae0 k av a):(k.b9+40≤a∧a+8≤k.b9+64)∨zh (k.b9+48) av a:=by
  rcases h with h|h|h
  · left;omega
  · left;omega
  exact .inr h
theorem mJ.hang {m m':Mk} {l l':List Ob} {es:List gG} {mp:List Nat} {f:Nat→List Nat} {i e:Nat} {k k':aY} (h:mJ m l es mp f) (hi:m.ai[i]? = some k) (H:ae1 m m' l l' i e k k' (f i)):mJ m' l' es mp (fun j=>if j=i then f i ++ [e]else f j):=by
  obtain⟨s1,s3,s4,s5,s6⟩:=H.same
  obtain⟨t,u,ht⟩:=H.sub
  have J:=H.fH
  have M:∀o∈l,o∈l':=fun o N=>by rw[u];exact List.mem_append_left _ N
  have p:=H.mB
  have T:=h.fu.data k (List.mem_of_getElem? hi)
  have hu:=eO (64+k.cM.length)
  have Ah:272≤k.b9:=(h.fu.fH.mem T.ob).ge
  have v:mr m.ai m'.ai:=by rw[H.dat];exact mr.set hi H.b9.1 H.b9.2.1
  have ob':=H.more.chain.ob
  have K:∀c∈k'.bn,c∈k.bn∨c=m.b.length:=fun c G=>by
    rcases H.arr with e|e
    · rw[e]at G;exact .inl G
    · rw[e,List.mem_append,List.mem_singleton]at G;exact G
  have Q:∀c∈k'.bn,∀o∈l',o.kind≠6→c≠o.b9:=fun c G o N hk e=>by
    obtain⟨i,hi⟩:=xf G
    rcases J.sep N (ob' i c hi)with C|C|C
    · subst C;exact hk rfl
    · have:=eO o.size;have:=(J.mem N).size.1;simp only at C;omega
    · rw[jl]at C;simp only at C;omega
  -- what is written stands E from another object's inside
  have E:∀o∈l',o.b9≠k.b9→(∀c∈k'.bn,c≠o.b9)→∀a,ae0 k k'.bn a→a+8≤o.b9∨o.b9+mI o.size≤a:=fun o N x G a F=>by
    have Ak:o.b9+mI o.size≤k.b9∨k.b9+mI (64+k.cM.length)≤o.b9:=by
      rcases J.sep N (M _ T.ob)with C|C|C
      · exact absurd (congrArg Ob.b9 C) x
      · exact .inl C
      · exact .inr C
    rcases sw F with B|B
    · omega
    · rcases DZ J B (by rw[← H.b9.1]at *;exact ob') N G with d|d
      · omega
      · exact d
  have U:∀a,ae0 k k'.bn a→tf l a:=fun a F=>by
    have hw:∀q,k.b9+40≤q→q+8≤k.b9+64→tf l' q:=fun q B d=>AO J (M _ T.ob) Lw Lw Oq Lw Oq
    rcases sw F with B|B
    · exact(hw a B.1 B.2).mono M
    · exact(E2 J B ob' (hw _ Oh Oh)).mono M
  have A:∀(j:Nat) (y:aY),m'.ai[j]? = some y→(j=i∧y=k')∨(j≠i∧m.ai[j]? = some y):=fun j y D=>by
    rw[H.dat]at D
    by_cases I:i=j
    · subst I
      rw[List.getElem?_set_self (List.getElem?_eq_some_iff.1 hi).1]at D
      exact .inl ⟨rfl,by simpa using D.symm⟩
    · rw[List.getElem?_set_ne I]at D
      exact .inr ⟨fun e=>I e.symm,D⟩
  have R:=h.fu.keep J ⟨t,u,fun o N=>by have:=(ht o N).1;exact⟨by omega,by omega⟩⟩ p U s1 s3 ⟨s6 2 Om Om Om,s6 4 Om Om Om⟩ v (H.cn h.fu.cn)
  refine⟨R,?_,fun j y D=>?_,⟨fun j y D a F G=>?_,fun j S y Z a D L F P=>?_⟩,fun g hg=>(h.ent g hg).mB h.fu.fH p U M,by rw[u,wm fun o N=>by have:=(ht o N).1;omega];exact h.kin⟩
  · rw[s4]
    refine h.main.mB h.fu.fH (ul l) (Nat.le_refl _) p M (fun a F=>?_) (fun j y hy a F=>?_)
    · rcases sw F with B|B|⟨j,c,B,d,h3⟩
      · omega
      · omega
      have:=H.more.chain.le J B;omega
    have O:=h.main.ob j y hy
    have w:=h.main.le h.fu.fH hy
    have:=E _ (M _ O) (fun e=>by
      have:=h.fu.fH.sep O T.ob
      rcases this with C|C|C
      · cases C
      · rw[jl]at C;simp only at C e;omega
      · simp only at C e;omega) (fun c G e=>by
      simp only at e;subst e
      rcases K c G with B|B
      · exact h.own.main i k hi c B (List.mem_of_getElem? hy)
      · omega) a F
    rw[jl]at this
    simp only at this;omega
  · rcases A j y D with⟨rfl,rfl⟩|⟨I,D⟩
    · rw[if_pos rfl];exact H.more
    rw[if_neg I]
    have r:=h.fu.data y (List.mem_of_getElem? D)
    have Al:=eO (64+y.cM.length)
    have Aa:y.b9≠k.b9:=fun e=>I (h.fu.one j i y k D hi (.inl e))
    refine(h.dat j y D).mB r h.fu.fH p M (fun a F=>?_) (fun n z X a F=>?_)
    · have:=E _ (M _ r.ob) Aa (fun c G=>Q c G _ (M _ r.ob) Oq) a F
      simp only at this;omega
    have O:=(h.dat j y D).chain.ob n z X
    have w:=(h.dat j y D).chain.le h.fu.fH X
    have:=E _ (M _ O) (fun e=>by
      have:=h.fu.fH.sep O T.ob
      rcases this with C|C|C
      · cases C
      · rw[jl]at C;simp only at C e;omega
      · simp only at C e;omega) (fun c G e=>by
      simp only at e;subst e
      rcases K c G with B|B
      · exact I (h.own.one j i y k c D hi (List.mem_of_getElem? X) B)
      · omega) a F
    rw[jl]at this
    simp only at this;omega
  · rw[s4]at G
    rcases A j y D with⟨rfl,rfl⟩|⟨I,D⟩
    · rcases K a F with B|B
      · exact h.own.main j k hi a B G
      obtain⟨n,hn⟩:=xf G
      have:=h.main.le h.fu.fH hn;omega
    exact h.own.main j y D a F G
  have Y:∀(n:Nat) (z:aY),m.ai[n]? = some z→m.b.length∉z.bn:=fun n z X W=>by
    obtain⟨q,hq⟩:=xf W
    have:=(h.dat n z X).chain.le h.fu.fH hq;omega
  rcases A j y D with⟨rfl,rfl⟩|⟨I,D⟩
  · rcases A S Z L with⟨rfl,rfl⟩|⟨V,L⟩
    · rfl
    rcases K a F with B|B
    · exact h.own.one j S k Z a hi L B P
    subst B;exact absurd P (Y S Z L)
  rcases A S Z L with⟨rfl,rfl⟩|⟨V,L⟩
  · rcases K a P with B|B
    · exact h.own.one j S y k a D hi F B
    subst B;exact absurd F (Y j y D)
  exact h.own.one j S y Z a D L F P
end Go.Wk
namespace Go.Wk
open Go
abbrev plt (p q:Pr):Prop:=Op.bytesLess (whole p.pb) (whole q.pb)=true
theorem AY (p:Pr):¬plt p p:=by unfold plt;rw[abi];simp
theorem JM {p q r:Pr} (h:plt p q) (k:plt q r):plt p r:=O6 h k
theorem aga {p q:Pr} (hp:right p.pb=true) (hq:right q.pb=true) (h:¬plt p q) (k:¬plt q p):p=q :=
  yR.1 (aaH hp hq (abj (by simpa [plt]using h) (by simpa [plt]using k)))
abbrev Asc (l:List Pr):Prop:=l.Pairwise plt
theorem V5:∀{l m:List Pr},Asc l→Asc m→(∀p,p∈l↔p∈m)→l=m
  | [],[],_,_,_=>rfl
  | [],b :: m,_,_,h=>by have:=(h b).2 Oq;simp at this
  | a :: l,[],_,_,h=>by have:=(h a).1 Oq;simp at this
  | a :: l,b :: m,hl,hm,h=>by
    obtain⟨hl1,hl2⟩:=List.pairwise_cons.1 hl
    obtain⟨hm1,hm2⟩:=List.pairwise_cons.1 hm
    have e:a=b:=by
      rcases List.mem_cons.1 ((h a).1 Oq)with e|A
      · exact e
      · rcases List.mem_cons.1 ((h b).2 Oq)with e|C
        · exact e.symm
        · exact absurd (JM (hl1 b C) (hm1 a A)) (AY a)
    subst e
    congr 1
    refine V5 hl2 hm2 fun p=>⟨fun B=>?_,fun B=>?_⟩
    · rcases List.mem_cons.1 ((h p).1 (by simp[B]))with rfl|A
      · exact absurd (hl1 p B) (AY p)
      · exact A
    · rcases List.mem_cons.1 ((h p).2 (by simp[B]))with rfl|A
      · exact absurd (hm1 p B) (AY p)
      · exact A
def zP (p:Pr):List Pr→List Pr
  | []=>[p]
  | q :: r=>if Op.bytesLess (ak q) (ak p)=true then q :: zP p r else if q.pb=p.pb then q :: r else p :: q :: r
theorem JQ (t:Ly) (o:List Pr) (k:Nat):lV t o (k+1)=lV t o k+1:=by
  induction o generalizing k with
  | nil=>rfl
  | cons q r ih=>unfold lV;split <;> simp[ih]
theorem agj (t:Ly) (o:List Pr):lV t o 0≤o.length:=by
  induction o with
  | nil=>simp[lV]
  | cons q r ih=>unfold lV;split <;> simp[JQ,ih]
theorem K0:∀(n j:Nat) (o:List Pr),(jT n j o).length=o.length
  | 0,_,_=>rfl
  | n+1,j,o=>by unfold jT;rw[K0 n];simp
theorem Ka:∀(n j:Nat) (o:List Pr),n≤j→j<o.length→∀i,i<o.length→(jT n j o)[i]? = if j-n<i∧i≤j then o[i-1]? else o[i]?
  | 0,j,o,_,_,i,_=>by simp[jT];intro h1 h2;omega
  | n+1,j,o,hn,hj,i,hi=>by
    unfold jT
    have hd:o.getD (j-1) {name:=[],value:=[]}=o[j-1]:=by simp[List.getD,show j-1<o.length by omega]
    rw[Ka n (j-1) _ Oh Vw i (by simpa using hi),hd]
    by_cases h1:j-1-n<i∧i≤j-1
    · rw[if_pos h1,if_pos Oh,List.getElem?_set_ne Oh]
    · rw[if_neg h1]
      by_cases h2:i=j
      · subst h2
        rw[if_pos Oh,List.getElem?_set_self hj,List.getElem?_eq_getElem (show i-1<o.length by omega)]
      · rw[if_neg Oh,List.getElem?_set_ne Oh]
theorem aat (o:List Pr) (k:Nat) (p d:Pr) (hk:k≤o.length):(jT (o.length-k) o.length (o ++ [d])).set k p=o.take k ++ p :: o.drop k:=by
  apply List.ext_getElem?
  intro i
  have A:(jT (o.length-k) o.length (o ++ [d])).length=o.length+1:=by rw[K0];simp
  by_cases hi:i<o.length+1
  · by_cases h1:i=k
    · subst h1
      rw[List.getElem?_set_self Oh,List.getElem?_append_right Vw]
      simp[Nat.min_eq_left hk]
    rw[List.getElem?_set_ne (Ne.symm h1),Ka _ _ _ Oh Oq i Vw]
    by_cases h2:o.length-(o.length-k)<i∧i≤o.length
    · rw[if_pos h2,List.getElem?_append_left Oh,List.getElem?_append_right Vw]
      simp only[List.length_take,Nat.min_eq_left hk]
      obtain⟨m,rfl⟩:∃m,i=k+1+m:=⟨i-(k+1),by omega⟩
      rw[show k+1+m-k=m+1 by omega,List.getElem?_cons_succ,List.getElem?_drop]
      congr 1;omega
    rw[if_neg h2,List.getElem?_append_left Oh,List.getElem?_append_left Vw,List.getElem?_take,if_pos Oh]
  rw[List.getElem?_eq_none (by simp[A];omega),List.getElem?_eq_none Vw]
theorem aid (p:Pr) (o:List Pr):tq p o=zP p o:=by
  have A:∀o:List Pr,(lV (ak p) o 0<o.length∧(o.getD (lV (ak p) o 0) {name:=[],value:=[]}).pb=p.pb→zP p o=o) ∧
      (¬(lV (ak p) o 0<o.length∧(o.getD (lV (ak p) o 0) {name:=[],value:=[]}).pb=p.pb)→zP p o=o.take (lV (ak p) o 0) ++ p :: o.drop (lV (ak p) o 0)):=by
    intro o
    induction o with
    | nil=>simp[lV,zP]
    | cons q r ih =>
      unfold lV zP
      by_cases h1:Op.bytesLess (ak q) (ak p)=true
      · rw[if_pos h1,if_pos h1,JQ]
        simp only[List.length_cons,Nat.add_lt_add_iff_right,List.getD_cons_succ,List.take_succ_cons,List.drop_succ_cons,List.cons_append,List.cons.injEq,true_and]
        exact ih
      · rw[if_neg h1,if_neg h1]
        simp only[List.length_cons,Nat.zero_lt_succ,true_and,List.getD_cons_zero,List.take_zero,List.drop_zero,List.nil_append]
        exact⟨fun h=>if_pos h,fun h=>if_neg h⟩
  unfold tq
  simp only
  split
  · rename_i h;exact((A o).1 h).symm
  rename_i h;rw[aat _ _ _ _ (agj _ _)];exact((A o).2 h).symm
theorem LR {p q:Pr} {o:List Pr}:q∈zP p o↔q=p∨q∈o:=by
  induction o with
  | nil=>simp[zP]
  | cons x r ih =>
    unfold zP
    split
    · simp[ih];constructor
      · rintro(h|h|h) <;> simp[h]
      · rintro(h|h|h) <;> simp[h]
    · split
      · rename_i h;rw[yR]at h;subst h;simp
      · simp
theorem aeB {p:Pr} {o:List Pr} (hp:right p.pb=true) (ho:∀q∈o,right q.pb=true) (h:Asc o):Asc (zP p o):=by
  induction o with
  | nil=>simp[zP]
  | cons x r ih =>
    obtain⟨C,D⟩:=List.pairwise_cons.1 h
    unfold zP
    split
    · rename_i hx
      refine List.pairwise_cons.2 ⟨fun q A=>?_,ih (fun q A=>ho q (by simp[A])) D⟩
      rcases LR.1 A with rfl|A
      · exact hx
      · exact C q A
    · rename_i hx
      split
      · exact h
      · rename_i hne
        have B:plt p x:=by
          cases hb:Op.bytesLess (whole p.pb) (whole x.pb)with
          | true=>exact hb
          | false=>exact absurd (yR.2 (aga (ho x Oq) hp hx (by simp[plt,hb]))) hne
        refine List.pairwise_cons.2 ⟨fun q A=>?_,h⟩
        rcases List.mem_cons.1 A with rfl|A
        · exact B
        · exact JM B (C q A)
theorem VX:∀(l o x:List Pr),RN l o=(x,0)→(∀q∈o,right q.pb=true)→Asc o→Asc x∧(∀q∈x,right q.pb=true)∧(∀q,q∈x↔q∈o∨q∈l)∧x.length≤16
  | [],o,x,h,hr,ha=>by
    unfold RN at h
    split at h
    · simp at h
    · rename_i hl
      obtain⟨rfl,_⟩:=Prod.mk.inj h
      exact⟨ha,hr,by simp,by omega⟩
  | p :: r,o,x,h,hr,ha=>by
    unfold RN at h
    split at h
    · rename_i h1;exact absurd (Prod.mk.inj h).2 h1
    · rename_i h1
      have hp:right p.pb=true:=zA.1 (Classical.not_not.1 h1)
      rw[aid]at h
      obtain⟨g1,g2,g3,g4⟩:=VX r _ x h (fun q hq=>by
        rcases LR.1 hq with rfl|hq
        · exact hp
        · exact hr q hq) (aeB hp hr ha)
      refine⟨g1,g2,fun q=>?_,g4⟩
      rw[g3,LR,List.mem_cons]
      constructor
      · rintro((h|h)|h)
        · exact .inr (.inl h)
        · exact .inl h
        · exact .inr (.inr h)
      · rintro(h|h|h)
        · exact .inl (.inr h)
        · exact .inl (.inl h)
        · exact .inr h
theorem vh {l x:List Pr} (h:kY l=(x,0)):Asc x∧(∀q∈x,right q.pb=true)∧(∀q,q∈x↔q∈l)∧x.length≤16∧x≠[]:=by
  unfold kY at h
  split at h
  · simp at h
  rename_i h0
  obtain⟨B,C,A,D⟩:=VX l [] x h Oq List.Pairwise.nil
  refine⟨B,C,by simpa using A,D,?_⟩
  rintro rfl
  cases l with
  | nil=>simp at h0
  | cons y r=>exact absurd ((A y).2 Oq) Oq
end Go.Wk
namespace Go.Wk
open Go Go.RowKit
def jV (ds:List aY) (i:Nat):List UInt8:=(ds.getD i known0).cM
def pN (ds ds':List aY):Prop:=∀(i:Nat) (k:aY),ds[i]? = some k→∃k',ds'[i]? = some k'∧k'.b9=k.b9∧k'.cM=k.cM
theorem pN.refl (ds:List aY):pN ds ds:=fun _ k h=>⟨k,h,q,q⟩
theorem pN.trans {a b c:List aY} (h:pN a b) (k:pN b c):pN a c:=fun i x hx=>by
  obtain⟨y,h1,h2,h3⟩:=h i x hx
  obtain⟨z,h4,h5,h6⟩:=k i y h1
  exact⟨z,h4,h5.trans h2,h6.trans h3⟩
theorem mr.ext {a b:List aY} (h:mr a b):pN a b:=fun i k hk=>by
  have hl:=(List.getElem?_eq_some_iff.1 hk).1
  obtain⟨k',hk'⟩:∃k',b[i]? = some k':=⟨_,List.getElem?_eq_getElem (by rw[h.len];exact hl)⟩
  obtain⟨k0,h1,h2,h3⟩:=h.get i k' hk'
  rw[hk]at h1;cases h1
  exact⟨k',hk',h2,h3⟩
theorem pN.at {a b:List aY} (h:pN a b) {i:Nat} (hi:i<a.length):i<b.length∧gZ b i=gZ a i∧jV b i=jV a i:=by
  obtain⟨D,A,B,C⟩:=h i _ (List.getElem?_eq_getElem hi)
  refine⟨(List.getElem?_eq_some_iff.1 A).1,?_,?_⟩
  · unfold gZ;simp only[List.getD_eq_getElem?_getD,A,List.getElem?_eq_getElem hi,Option.getD_some];exact B
  unfold jV;simp only[List.getD_eq_getElem?_getD,A,List.getElem?_eq_getElem hi,Option.getD_some];exact C
theorem BG.ext {m m':Mk} {l l':List Ob} {i:Nat} {t:Ly} (d:BG m m' l l' i t):pN m.ai m'.ai:=by
  rcases d.new with e|⟨s,p,e,_⟩
  · rw[e];exact pN.refl _
  rw[e];exact fun j k A=>⟨k,by rw[List.getElem?_append_left (List.getElem?_eq_some_iff.1 A).1];exact A,q,q⟩
theorem ql {ds:List aY} {i:Nat} {k:aY} (h:ds[i]? = some k):jV ds i=k.cM∧gZ ds i=k.b9:=by
  unfold jV gZ
  simp only[List.getD_eq_getElem?_getD,h,Option.getD_some,and_self]
theorem BU (ds:List aY) (p:Nat) (od:List Nat):∀n,n≤od.length→(∀j,mA ds p od n≤j→j<n→p<gZ ds (od.getD j 0))∧(0<mA ds p od n→gZ ds (od.getD (mA ds p od n-1) 0)≤p)
  | 0,_=>⟨fun j h1 h2=>by omega,fun h=>by simp[mA]at h⟩
  | n+1,hn=>by
    rw[mA]
    split
    · rename_i hp
      obtain⟨g1,g2⟩:=BU ds p od n Oh
      refine⟨fun j h1 h2=>?_,g2⟩
      by_cases hj:j=n
      · subst hj;exact hp
      · exact g1 j h1 Oh
    · rename_i hp
      exact⟨fun j h1 h2=>by omega,fun _=>by simp only[Nat.add_sub_cancel];omega⟩
theorem FJ {α:Type} {R:α→α→Prop} {l:List α} {n:Nat} {x:α} (h:l.Pairwise R) (h1:∀y∈l.take n,R y x) (h2:∀y∈l.drop n,R x y):(l.take n ++ [x] ++ l.drop n).Pairwise R:=by
  rw[List.append_assoc,List.singleton_append]
  refine List.pairwise_append.2 ⟨h.take,List.pairwise_cons.2 ⟨h2,h.drop⟩,fun a C b A=>?_⟩
  rcases List.mem_cons.1 A with rfl|A
  · exact h1 a C
  have B:=h
  rw[← List.take_append_drop n l]at B
  exact(List.pairwise_append.1 B).2.2 a C b A
theorem MO {ds:List aY} {k:Nat} {od:List Nat} (h:od.Pairwise fun a b=>gZ ds a<gZ ds b) (hk:∀i∈od,gZ ds i≠gZ ds k):(mW ds k od).Pairwise fun a b=>gZ ds a<gZ ds b:=by
  obtain⟨E,F⟩:=BU ds (gZ ds k) od od.length (Nat.le_refl _)
  have I:=BS ds (gZ ds k) od od.length
  unfold mW
  simp only
  generalize mA ds (gZ ds k) od od.length=n at *
  refine FJ h (fun y D=>?_) (fun y D=>?_)
  · obtain⟨i,B⟩:=List.mem_iff_getElem?.1 D
    rw[List.getElem?_take]at B
    split at B
    · rename_i hin
      have G:=hk y (List.mem_of_getElem? B)
      have C:=(List.getElem?_eq_some_iff.1 B).1
      have J:=F Oh
      have A:od[n-1]? = some (od.getD (n-1) 0):=by simp[List.getD,List.getElem?_eq_getElem (show n-1<od.length by omega)]
      have:gZ ds y≤gZ ds (od.getD (n-1) 0):=by
        by_cases he:i=n-1
        · subst he;rw[B]at A;have:=Option.some.inj A;rw[← this];exact Nat.le_refl _
        · have H:=List.pairwise_iff_getElem.1 h i (n-1) C Oh Oh
          rw[List.getElem?_eq_getElem C]at B
          rw[List.getElem?_eq_getElem (show n-1<od.length by omega)]at A
          rw[Option.some.inj B,Option.some.inj A]at H
          omega
      omega
    cases B
  obtain⟨i,B⟩:=List.mem_iff_getElem?.1 D
  rw[List.getElem?_drop]at B
  have C:=(List.getElem?_eq_some_iff.1 B).1
  have:=E (n+i) Oh C
  rw[List.getD_eq_getElem?_getD,B]at this
  exact this
theorem TI (ds:List aY) (k:Nat) (od:List Nat):(mW ds k od).Perm (k :: od):=by
  unfold mW
  simp only
  generalize mA ds (gZ ds k) od od.length=n
  rw[List.append_assoc,List.singleton_append]
  have:=List.perm_middle (a:=k) (l₁:=od.take n) (l₂:=od.drop n)
  rw[List.take_append_drop]at this
  exact this
structure ae3 (m:Mk) (dl:List Pr) (ps:List (List UInt8)) (od:List Nat):Prop where
  eq:ps=dl.map ak
  lt:∀i∈od,i<m.ai.length
  perm:(od.map (jV m.ai)).Perm ps
  GN:od.Pairwise fun a b=>gZ m.ai a<gZ m.ai b
theorem QL {p q:Pr} (hp:right p.pb=true) (hq:right q.pb=true) (h:ak p=ak q):p=q:=by
  have A:=(oO ((nk _).2 hp)).2
  have B:=(oO ((nk _).2 hq)).2
  have C:whole p.pb=whole q.pb:=h
  rw[C,B]at A
  exact(yR.1 A).symm
theorem aaI {m m':Mk} {l l':List Ob} {dl:List Pr} {ps:List (List UInt8)} {od:List Nat} {i:Nat} {x:Pr} (h:ae3 m dl ps od) (hs:Stat m l) (d:BG m m' l l' i (ak x)) (hn:ak x∉dl.map ak) :
    ae3 m' (dl ++ [x]) (ps ++ [(m'.ai.getD i known0).cM]) (mW m'.ai i od):=by
  have C:=d.ext
  obtain⟨k,hk,E⟩:=d.got
  obtain⟨F,L⟩:=ql hk
  have J:=(List.getElem?_eq_some_iff.1 hk).1
  have G:(m'.ai.getD i known0).cM=ak x:=F.trans E
  have A:od.map (jV m'.ai)=od.map (jV m.ai):=List.map_congr_left fun j B=>(C.at (h.lt j B)).2.2
  have D:i∉od:=fun K=>by
    have H:jV m'.ai i∈od.map (jV m'.ai):=List.mem_map.2 ⟨i,K,q⟩
    rw[A]at H
    have:=h.perm.subset H
    rw[h.eq,F,E]at this
    exact hn this
  refine⟨by rw[G,h.eq];simp,fun j B=>?_,?_,?_⟩
  · rcases JL B with rfl|B
    · exact J
    exact(C.at (h.lt j B)).1
  · refine((TI m'.ai i od).map _).trans ?_
    rw[List.map_cons,A,F,E,G]
    exact(List.Perm.cons _ h.perm).trans (List.perm_append_comm (l₁:=[ak x]))
  refine MO ?_ fun j B e=>?_
  · refine List.Pairwise.imp_of_mem (fun {a b} ha hb hab=>?_) h.GN
    rw[(C.at (h.lt a ha)).2.1,(C.at (h.lt b hb)).2.1];exact hab
  obtain⟨y,I⟩:∃y,m'.ai[j]? = some y:=⟨_,List.getElem?_eq_getElem (C.at (h.lt j B)).1⟩
  rw[(ql I).2,L]at e
  have:=d.fu.one j i y k I hk (.inl e)
  subst this;exact D B
structure aex (m m':Mk) (l l':List Ob) (es:List gG) (mp:List Nat) (f:Nat→List Nat):Prop where
  img:mJ m' l' es mp f
  ext:pN m.ai m'.ai
  same:m'.c=m.c∧m'.main=m.main∧∀i,i≠6→i≠7→i<15→m'.cP i=m.cP i
  len:m.ai.length≤m'.ai.length
theorem xW:∀(fs dl:List Pr) (m:Mk) (l:List Ob) (ps:List (List UInt8)) (od:List Nat) (es:List gG) (mp:List Nat) (f:Nat→List Nat),mJ m l es mp f→(∀i,m.ai.length≤i→f i=[])→ae3 m dl ps od→(∀q∈fs,BD q)→((dl ++ fs).map ak).Nodup →
    ∃l',aex m (iG fs m ps od).2.2 l l' es mp f∧ae3 (iG fs m ps od).2.2 (dl ++ fs) (iG fs m ps od).1 (iG fs m ps od).2.1
  | [],dl,m,l,ps,od,es,mp,f,h,hf,hw,_,_=>⟨l,⟨h,pN.refl _,⟨rfl,rfl,fun _ _ _ _=>rfl⟩,Nat.le_refl _⟩,by rw[List.append_nil];exact hw⟩
  | x :: r,dl,m,l,ps,od,es,mp,f,h,hf,hw,hb,hnd=>by
    obtain⟨l1,d⟩:=LD h.fu x (hb x Oq)
    have hx:ak x∉dl.map ak:=fun hm=>by
      rw[List.map_append,List.map_cons]at hnd
      exact(List.nodup_append.1 hnd).2.2 _ hm _ Oq rfl
    have g:=h.soft d hf
    have w:=aaI hw h.fu d hx
    have hle:m.ai.length≤(m.data x).2.ai.length:=by
      rcases d.new with e|⟨s,p,e,_⟩ <;> rw[e] <;> simp
    obtain⟨l',A,E⟩:=xW r (dl ++ [x]) (m.data x).2 l1 _ _ es mp f g (fun i G=>hf i Oh) w (fun q F=>hb q (by simp[F])) (by rw[List.append_assoc];exact hnd)
    rw[List.append_assoc]at E
    refine⟨l',⟨A.img,d.ext.trans A.ext,⟨A.same.1.trans d.step.same.1,A.same.2.1.trans d.step.same.2.1,fun i B C D=>(A.same.2.2 i B C D).trans (d.step.same.2.2 i B C D)⟩,ly hle A.len⟩,E⟩
end Go.Wk
namespace Go.Wk
open Go Go.RowKit
theorem aaJ:∀{a b:List (List UInt8)},a.Perm b→∀v,nU v a=nU v b:=by
  intro a b h
  induction h with
  | nil=>exact fun _=>rfl
  | cons x _ ih=>exact fun v=>ih _
  | swap x y l=>intro v;simp only[nU];congr 1;rw[Nat.xor_assoc,Nat.xor_assoc,Nat.xor_comm (rC y)]
  | trans _ _ ih1 ih2=>exact fun v=>(ih1 v).trans (ih2 v)
theorem XZ:∀(l:List (List UInt8)) (v:Nat),v<18446744073709551616→nU v l<18446744073709551616
  | [],_,h=>h
  | x :: r,v,h=>XZ r _ (GL h (ED x))
structure aez (m m':Mk) (l':List Ob) (es:List gG) (mp:List Nat) (f:Nat→List Nat) (e n:Nat) (od:List Nat):Prop where
  img:mJ m' l' es mp (fun j=>if j∈od then f j ++ [e]else f j)
  ds:mr m.ai m'.ai
  same:m'.c=m.c∧m'.aj=m.aj∧m'.main=m.main∧m'.depth=m.depth∧∀i,i≠6→i≠7→i≠18→m'.cP i=m.cP i
  top:m'.b.length≤m.b.length+2100*n
  ge:m.b.length≤m'.b.length
theorem mr.trans {a b c:List aY} (h:mr a b) (k:mr b c):mr a c:=⟨k.len.trans h.len,fun i x hx=>by
  obtain⟨y,h1,h2,h3⟩:=k.get i x hx
  obtain⟨z,h4,h5,h6⟩:=h.get i y h1
  exact⟨z,h4,h2.trans h5,h3.trans h6⟩⟩
theorem OY {es:List gG} {mp:List Nat} {e:Nat} (he:e<18446744073709551616):∀(od:List Nat) (m:Mk) (l:List Ob) (f:Nat→List Nat),mJ m l es mp f→(∀i∈od,i<m.ai.length)→od.Nodup→(∀i∈od,(f i).length<900000)→m.b.length+2100*od.length<900000 →
    ∃l',aez m (kW e od m) l' es mp f e od.length od
  | [],m,l,f,h,_,_,_,_=>⟨l,⟨by simp only[List.not_mem_nil,if_false];exact h,mr.refl _,⟨q,q,q,q,fun _ _ _ _=>rfl⟩,Nat.le_refl _,Nat.le_refl _⟩⟩
  | i :: r,m,l,f,h,hi,hn,hl,hb=>by
    obtain⟨k,hk⟩:∃k,m.ai[i]? = some k:=⟨_,List.getElem?_eq_getElem (hi i Oq)⟩
    simp only[List.length_cons]at hb
    obtain⟨l1,k1,H⟩:=OZ (e:=e) h.fu.fH hk (h.fu.data k (List.mem_of_getElem? hk)) (h.dat i k hk) Oh he (by have:=hl i Oq;omega)
    have g:=h.hang hk H
    have hd1:mr m.ai (kJ e i m).ai:=by rw[H.dat];exact mr.set hk H.b9.1 H.b9.2.1
    have T:=H.top
    obtain⟨J,K,L,M,N⟩:=H.same
    rw[om]
    rw[List.nodup_cons]at hn
    have I:∀j∈r,(if j=i then f i ++ [e]else f j)=f j:=fun j A=>if_neg (by rintro rfl;exact hn.1 A)
    obtain⟨l',B⟩:=OY he r (kJ e i m) l1 _ g (fun j A=>by rw[hd1.len];exact hi j (by simp[A])) hn.2 (fun j A=>by simp only[I j A];exact hl j (by simp[A])) Oh
    obtain⟨O,P,Q,R,S⟩:=B.same
    have F:=B.top
    refine⟨l',⟨?_,hd1.trans B.ds,⟨O.trans J,P.trans K,Q.trans L,R.trans M,fun j D E C=>(S j D E C).trans (N j D E C)⟩,by simp only[List.length_cons];omega,ly H.mB.len B.ge⟩⟩
    have G:(fun j=>if j∈i :: r then f j ++ [e]else f j)=fun j=>if j∈r then(if j=i then f i ++ [e]else f j) ++ [e]else if j=i then f i ++ [e]else f j:=by
      funext j
      by_cases A:j=i
      · subst A;simp[hn.1]
      · simp[A]
    rw[G]
    exact B.img
def places (es:List gG) (i:Nat):List Nat:=(es.filter fun g=>decide (i∈g.who)).map gG.b9
theorem TJ (es:List gG) (g:gG) (i:Nat):places (es ++ [g]) i=if i∈g.who then places es i ++ [g.b9]else places es i:=by
  unfold places
  rw[List.filter_append,List.map_append]
  by_cases h:i∈g.who
  · rw[if_pos h];simp[h]
  rw[if_neg h];simp[h]
theorem FM (es:List gG) (i:Nat):(places es i).length≤es.length:=by unfold places;rw[List.length_map];exact List.length_filter_le _ _
structure vu (m:Mk) (g:gG):Prop where
  lt:∀i∈g.who,i<m.ai.length
  aD:g.ent.aD=g.who.map fun i=>{b9:=gZ m.ai i,cQ:=eI m (jV m.ai i)}
  GN:g.who.Pairwise fun a b=>gZ m.ai a<gZ m.ai b
  xor:g.ent.xor=nU 0 (g.who.map (jV m.ai))
  ok:gI.ok g.ent∧g.ent.seq≠0
  len:1≤g.who.length∧g.who.length≤16
structure NT (m:Mk) (g:gG) (r:Rec):Prop where
  seq:g.ent.seq=r.seq
  cu:g.ent.cu=r.cu
  mono:g.ent.mono=r.mono
  bV:g.ent.bV=r.bV
  aj:(g.who.map (jV m.ai)).Perm (r.aj.map ak)
  GN:Asc r.aj
  right:∀q∈r.aj,right q.pb=true
theorem vu.ext {m m':Mk} {g:gG} (h:vu m g) (hd:pN m.ai m'.ai) (hc:m'.c=m.c):vu m' g:=by
  have B:∀t,eI m' t=eI m t:=fun t=>by unfold eI;rw[hc]
  refine⟨fun i A=>(hd.at (h.lt i A)).1,?_,?_,?_,h.ok,h.len⟩
  · rw[h.aD]
    exact List.map_congr_left fun i A=>by rw[(hd.at (h.lt i A)).2.1,(hd.at (h.lt i A)).2.2,B]
  · exact List.Pairwise.imp_of_mem (fun {a b} ha hb hab=>by rw[(hd.at (h.lt a ha)).2.1,(hd.at (h.lt b hb)).2.1];exact hab) h.GN
  rw[h.xor]
  congr 1
  exact(List.map_congr_left fun i A=>(hd.at (h.lt i A)).2.2).symm
theorem NT.ext {m m':Mk} {g:gG} {r:Rec} (h:NT m g r) (w:vu m g) (hd:pN m.ai m'.ai):NT m' g r:=by
  refine⟨h.seq,h.cu,h.mono,h.bV,?_,h.GN,h.right⟩
  have:g.who.map (jV m'.ai)=g.who.map (jV m.ai):=List.map_congr_left fun i A=>(hd.at (w.lt i A)).2.2
  rw[this];exact h.aj
structure Img (m:Mk) (l:List Ob) (es:List gG):Prop where
  c:mJ m l es (es.map gG.b9) (places es)
  n8:m.cP 8=es.length
  n9:m.cP 9<18446744073709551616
  n11:m.cP 11=m.main.getD 0 0
  n10:m.cP 10=(es.head?.map fun g=>g.ent.seq).getD 0
  who:∀g∈es,vu m g
  txt:∀k∈m.ai,∃q:Pr,right q.pb=true∧k.cM=ak q
theorem FN {es:List gG} {m:Mk} (h:∀g∈es,vu m g) (i:Nat) (hi:m.ai.length≤i):places es i=[]:=by
  unfold places
  rw[List.map_eq_nil_iff,List.filter_eq_nil_iff]
  intro g A
  simp only[decide_eq_true_eq]
  intro B
  have:=(h g A).lt i B
  omega
theorem mJ.to {m m':Mk} {l:List Ob} {es:List gG} {mp:List Nat} {f:Nat→List Nat} (h:mJ m l es mp f) (hb:m'.b=m.b) (hc:m'.c=m.c) (hd:m'.ai=m.ai) (hf:m'.aj=m.aj) (hm:m'.main=m.main) (hn:m'.cP 2=m.cP 2∧m'.cP 4=m.cP 4) (hcn:Cn m l→Cn m' l):mJ m' l es mp f:=by
  have D:∀t,eI m' t=eI m t:=fun t=>by unfold eI;rw[hc]
  obtain⟨⟨E,F,G,H,I,J,K,L,M,A,B,C⟩,N,O,⟨P,Q⟩,R,S⟩:=h
  exact⟨⟨by rw[hb];exact E,by rw[hc];exact F,by rw[hc];exact G,hn.1.trans H,by rw[hc];exact hn.2.trans I,by rw[hc];exact J,fun k hk=>by rw[hb,D];exact K k (hd ▸ hk),fun k hk=>by rw[hb,D];exact L k (hf ▸ hk),by rw[hd];exact M,by rw[hd];exact A,by rw[hf];exact B,hcn C⟩,by rw[hb,hm];exact N,by rw[hb,hd];exact O,⟨by rw[hd,hm];exact P,by rw[hd];exact Q⟩,by rw[hb];exact R,S⟩
end Go.Wk
namespace Go.Wk
open Go Go.RowKit
theorem tZ (z:Mk) (n seq cu mono e:Nat) (bV:Ly) (i:Nat) (h:i≠8∧i≠9∧i≠10∧i≠12∧i≠13∧i≠14):(oh z n seq cu mono e bV).cP i=z.cP i:=by
  unfold oh
  simp only
  have A:(if n=0 then(z.dV 10 seq).dV 12 cu else z).cP i=z.cP i:=by
    split
    · rw[ej Oh,ej Oh]
    · rfl
  generalize (if n=0 then(z.dV 10 seq).dV 12 cu else z)=y at *
  rw[← A]
  show((((y.dV 8 ((y.cP 8+1)%18446744073709551616)).dV 9 seq).dV 13 cu).dV 14 mono).cP i=y.cP i
  rw[ej Oh,ej Oh,ej Oh,ej Oh]
theorem abN (z:Mk) (n seq cu mono e:Nat) (bV:Ly) (h:z.h.n.length=20):(oh z n seq cu mono e bV).cP 10=if n=0 then seq else z.cP 10:=by
  unfold oh
  simp only
  have A:(if n=0 then(z.dV 10 seq).dV 12 cu else z).cP 10=if n=0 then seq else z.cP 10:=by
    split
    · rw[ej Oh,AP Oh]
    · rfl
  generalize (if n=0 then(z.dV 10 seq).dV 12 cu else z)=y at *
  rw[← A]
  show((((y.dV 8 ((y.cP 8+1)%18446744073709551616)).dV 9 seq).dV 13 cu).dV 14 mono).cP 10=y.cP 10
  rw[ej Oh,ej Oh,ej Oh,ej Oh]
theorem HK {ds:List aY} {od:List Nat} (h:od.Pairwise fun a b=>gZ ds a<gZ ds b):od.Nodup :=
  List.Pairwise.imp (fun {a b} hab e=>by subst e;exact Nat.lt_irrefl _ hab) h
theorem zn {fs:List Pr} (h:Asc fs) (hr:∀q∈fs,right q.pb=true):(fs.map ak).Nodup:=by
  unfold List.Nodup
  rw[List.pairwise_map]
  exact List.Pairwise.imp_of_mem (fun {a b} ha hb hab e=>by
    have:=QL (hr a ha) (hr b hb) e
    subst this;exact AY _ hab) h
theorem CG:∀(fs:List Pr) (m:Mk) (ps:List (List UInt8)) (od:List Nat),∀k∈(iG fs m ps od).2.2.ai,k∈m.ai∨∃q∈fs,k.cM=ak q
  | [],m,_,_,k,hk=>.inl hk
  | x :: r,m,ps,od,k,hk=>by
    rcases CG r (m.data x).2 _ _ k hk with h|⟨q,h1,h2⟩
    · rcases IA k h with h|h
      · exact .inl h
      · exact .inr ⟨x,by simp,h⟩
    · exact .inr ⟨q,by simp[h1],h2⟩
structure ajc (m m':Mk) (l':List Ob) (es:List gG) (g:gG) (r:Rec):Prop where
  img:Img m' l' (es ++ [g])
  rcd:NT m' g r
  ext:pN m.ai m'.ai
  c:m'.c=m.c
  seq:r.seq=m.cP 9+1∧m'.cP 9=r.seq
  ge:m.b.length≤g.b9
  main:∃t,m'.main=m.main ++ t
  len:m.b.length≤m'.b.length
  cP:∀i,i≤5→m'.cP i=m.cP i
theorem HJ {m m':Mk} {l:List Ob} {es:List gG} {raw:List Pr} {cu mono s:Nat} {bV:Ly} (h:Img m l es) (ok:vV m) (h20:m.h.n.length=20) (hb:bV.length=16) (hr:cu<18446744073709551616∧mono<18446744073709551616) (ha:m.append raw cu mono bV=(s,0,m')) :
    ∃l' g fs,kY raw=(fs,0)∧ajc m m' l' es g {seq:=s,cu:=cu,mono:=mono,bV:=bV,aj:=fs}:=by
  rcases hl:kY raw with⟨fs,c⟩
  by_cases I:c≠0
  · have e:m.append raw cu mono bV=(0,c,m):=by unfold Mk.append;simp only[hl];rw[if_pos I]
    rw[e]at ha
    exact absurd (congrArg (fun x=>x.2.1) ha) I
  have Al:=Classical.not_not.1 I
  subst Al
  by_cases h3:m.cP 9=18446744073709551615
  · have e:m.append raw cu mono bV=(0,1,m):=by unfold Mk.append;simp only[hl];rw[if_neg I,if_pos h3]
    rw[e]at ha
    have:=congrArg (fun x=>x.2.1) ha
    simp at this
  obtain⟨J,A,Bj,Av,Aw⟩:=vh hl
  obtain⟨bd,_⟩:=ug hl
  have D:=uT fs m [] [] 0 (qC ok) bd
  obtain⟨l1,T,W⟩:=xW fs [] m l [] [] es (es.map gG.b9) (places es) h.c (fun i F=>FN h.who i F) ⟨q,by simp,by simp,List.Pairwise.nil⟩ bd (by rw[List.nil_append];exact zn J A)
  have nl:=yK fs m [] []
  have tx:=CG fs m [] []
  rcases hd:iG fs m [] []with⟨ps,G,x⟩
  rw[hd,Nat.zero_add]at D
  rw[hd]at T W nl tx
  rw[List.nil_append]at W
  simp only at D T W nl tx
  have s1:=ok.small
  have s4:=ok.nb
  have d2:=D.app.le
  have d5:=D.len.1
  have Ag:=D.app.ge
  obtain⟨c1,c2,w⟩:=T.same
  have n9:x.cP 9=m.cP 9:=w 9 Om Om Om
  have n8:x.cP 8=m.cP 8:=w 8 Om Om Om
  have O:=h.n8
  have Ca:=h.n9
  have B9:es.length≤40000:=by
    have:m.n8=es.length:=O
    omega
  have Ap:=HK W.GN
  have B:(x.cP 9+1)%18446744073709551616=m.cP 9+1:=by rw[n9];exact Nat.mod_eq_of_lt Oh
  generalize hE:({seq:=(x.cP 9+1)%18446744073709551616,cu:=cu,mono:=mono,bV:=bV,xor:=nU 0 ps,aD:=jK x G}:gI)=E
  have eE:E.seq=m.cP 9+1∧E.cu=cu∧E.mono=mono∧E.bV=bV∧E.xor=nU 0 ps∧E.aD=jK x G:=by subst hE;exact⟨B,q,q,q,q,q⟩
  obtain⟨q1,q2,q3,q4,q5,q6⟩:=eE
  have ei:E.aD.length=G.length:=by rw[q6];simp[jK]
  have eb:E.bV.length=16:=by rw[q4];exact hb
  have wx:vu x ⟨x.b.length,E,G⟩:=by
    refine⟨W.lt,q6,W.GN,?_,⟨⟨?_,?_,?_,eb,?_⟩,?_⟩,?_⟩
    · simp only;rw[q5];exact aaJ W.perm.symm 0
    · simp only;rw[q1];omega
    · simp only;rw[q2];exact hr.1
    · simp only;rw[q3];exact hr.2
    · simp only;rw[q5];exact XZ _ _ Om
    · simp only;rw[q1];omega
    · simp only;rw[d5];exact⟨List.length_pos_iff.2 Aw,Av⟩
  have rx:NT x ⟨x.b.length,E,G⟩ {seq:=m.cP 9+1,cu:=cu,mono:=mono,bV:=bV,aj:=fs}:=by
    refine⟨q1,q2,q3,q4,?_,J,A⟩
    simp only;rw[← W.eq];exact W.perm
  have U:=T.img.entry (E:=E) (who:=G) eb Oh
  have u:=(iK x (e6 E))
  have v:=fD x (e6 E)
  have S:∀i,i≠6→i≠7→(x.di (e6 E)).2.cP i=x.cP i:=fun i h6 h7=>by
    simp only[Mk.di]
    rw[ej Oh,ej Oh];rfl
  have o:=rE x (e6 E)
  have el:=mO E eb
  rcases ho:x.di (e6 E)with⟨e,C⟩
  rw[ho]at U u v S o
  simp only at U u v S o
  have Am:e=x.b.length:=u.1
  subst Am
  have f:C.cP 8=(es.map gG.b9).length:=by rw[S 8 Om Om,n8,O,List.length_map]
  have Cb:x.b.length<100000:=by omega
  obtain⟨l3,L⟩:=LQ (x:=x.b.length) U.fu.fH U.main (ul _) (by have:=u.2.1;omega) Oh
  rw[← f]at L
  have p:=LW C C.main (C.cP 8) 176 x.b.length
  rcases hk:C.link C.main (C.cP 8) 176 x.b.length with⟨a,t,K⟩
  rw[hk]at L p
  simp only at L p
  have hz:=kI (cu:=cu) (mono:=mono) (bV:=bV) hl I h3 hd (by rw[hE];exact ho) hk q
  obtain⟨Y,X⟩:∃Y,Y=(let m4:=({K with main:=a}:Mk).dV 11 (a.getD 0 0);({m4 with h:={m4.h with er:=jX a%4294967296,eB:=t%4294967296}}:Mk)):=⟨_,q⟩
  have P:∀i,i≠11→Y.cP i=K.cP i:=fun i F=>by subst X;exact bD Oh
  have Ae:Y.cP 11=a.getD 0 0:=by subst X;exact nI (by show 11<K.h.n.length;omega)
  have Ys:Y.b=K.b∧Y.c=K.c∧Y.ai=K.ai∧Y.aj=K.aj∧Y.main=a∧Y.h.n.length=K.h.n.length:=by subst X;exact⟨q,q,q,q,q,by simp[Mk.dV]⟩
  rw[← X]at hz
  clear X
  obtain⟨y1,y2,y3,y4,y5,y6⟩:=Ys
  have I3:=U.link L y1 y2 y3 y4 y5 ⟨P 2 Om,P 4 Om⟩ (fun c=>c.to y6 fun i F=>P i Oh)
  obtain⟨t1,t2,t3,t4,t5,t6⟩:=L.same
  have Bk:=L.top
  have M:Y.ai=x.ai:=by rw[y3,t2,v.2.1]
  have Ao:x.b.length<18446744073709551616:=by omega
  have Bn:=u.2.1
  obtain⟨l4,H⟩:=OY (e:=x.b.length) Ao G Y l3 _ I3 (fun i F=>by rw[M];exact W.lt i F) Ap (fun i _=>by have:=FM es i;omega) (by rw[y1];omega)
  have Ci:=EJ x.b.length G Y
  generalize kW x.b.length G Y=z at *
  replace hz:m.append raw cu mono bV=if z.c.bY<z.b.length then(0,15,m)else((x.cP 9+1)%18446744073709551616,0,oh z (C.cP 8) ((x.cP 9+1)%18446744073709551616) cu mono x.b.length bV):=hz
  rw[hz]at ha
  split at ha
  · have:=congrArg (fun x=>x.2.1) ha;simp at this
  obtain⟨k1,kz2,kz3,kz4,kz5,R2,R4,kl,kz8⟩:=uW z (C.cP 8) ((x.cP 9+1)%18446744073709551616) cu mono x.b.length bV
  have k5':=fun i (F:i≤5)=>tZ z (C.cP 8) ((x.cP 9+1)%18446744073709551616) cu mono x.b.length bV i Oh
  have kN:=fun i (F:i≠8∧i≠9∧i≠10∧i≠12∧i≠13∧i≠14)=>tZ z (C.cP 8) ((x.cP 9+1)%18446744073709551616) cu mono x.b.length bV i F
  have Aq:=abN z (C.cP 8) ((x.cP 9+1)%18446744073709551616) cu mono x.b.length bV
  have Ar:=tZ z (C.cP 8) ((x.cP 9+1)%18446744073709551616) cu mono x.b.length bV 11 Om
  obtain⟨Z,Aj⟩:=Prod.mk.inj ha
  have Ak:=(Prod.mk.inj Aj).2
  rw[B]at Z
  generalize oh z (C.cP 8) ((x.cP 9+1)%18446744073709551616) cu mono x.b.length bV=R at *
  subst Ak
  subst Z
  obtain⟨z1,z2,z3,z4,z5⟩:=H.same
  have zl:z.h.n.length=20:=by omega
  have R8:=(kz8 zl).1
  have R9:=(kz8 zl).2
  have z8:z.cP 8=es.length:=by rw[z5 8 Om Om Om,P 8 Om,t6 8 Om Om Om,S 8 Om Om,n8,O]
  have Ah:pN x.ai z.ai:=by have:=H.ds.ext;rw[M]at this;exact this
  have N:pN x.ai R.ai:=by rw[kz3];exact Ah
  have cR:R.c=x.c:=by rw[kz2,z1,y2,t1,v.1]
  have V:pN m.ai R.ai:=T.ext.trans N
  refine⟨l4,⟨x.b.length,E,G⟩,fs,q,⟨⟨?_,?_,?_,?_,?_,?_,?_⟩,rx.ext wx N,V,by rw[cR,c1],⟨q,by rw[R9,B]⟩,Ag,?_,?_,fun i F=>?_⟩⟩
  · have:=H.img.to (m':=R) k1 kz2 kz3 kz4 kz5 ⟨R2,R4⟩ (fun c=>c.to kl fun i F=>kN i Oh)
    rw[List.map_append]
    have ef:places (es ++ [⟨x.b.length,E,G⟩])=fun j=>if j∈G then places es j ++ [x.b.length]else places es j:=funext fun j=>TJ es ⟨x.b.length,E,G⟩ j
    rw[ef]
    exact this
  · show R.n8=_
    rw[R8,show z.n8=es.length from z8,List.length_append,Nat.mod_eq_of_lt Oh]
    rfl
  · rw[R9,B];omega
  · rw[Ar,kz5,z5 11 Om Om Om,Ae,z3,y5]
  · rw[Aq zl,f,List.length_map,z5 10 Om Om Om,P 10 Om,t6 10 Om Om Om,S 10 Om Om,w 10 Om Om Om,h.n10]
    cases es with
    | nil=>simp only[List.length_nil,if_true,List.nil_append,List.head?_cons,Option.map_some,Option.getD_some];rw[q1,B]
    | cons y r=>simp
  · intro g Q
    rcases List.mem_append.1 Q with Q|Q
    · exact(h.who g Q).ext V (by rw[cR,c1])
    simp at Q;subst Q
    exact wx.ext N cR
  · intro k hk
    rw[kz3]at hk
    obtain⟨i,F⟩:=List.mem_iff_getElem?.1 hk
    obtain⟨k0,h0,_,ht⟩:=H.ds.get i k F
    rw[M]at h0
    rcases tx k0 (List.mem_of_getElem? h0)with h1|⟨qv,h1,I⟩
    · obtain⟨qv,I,h3⟩:=h.txt k0 h1
      exact⟨qv,I,ht.trans h3⟩
    exact⟨qv,A qv h1,ht.trans I⟩
  · rw[kz5,z3,y5]
    have d:C.main=m.main:=by rw[v.2.2.2,c2]
    rcases L.arr with e|e
    · exact⟨[],by rw[e,d,List.append_nil]⟩
    exact⟨_,by rw[e,d]⟩
  · rw[k1]
    have h1:=L.mB.len
    have I:=H.ge
    rw[y1]at I
    omega
  rw[k5' i F,z5 i Oh Oh Oh,P i Oh,t6 i Oh Oh Oh,S i Oh Oh,w i Oh Oh Oh]
end Go.Wk
namespace Go.Wk
open Go Go.RowKit
def hk (m:Mk):Nat × Nat × Nat × List UInt8:=(m.h.iF,m.h.bX,m.h.state,m.h.dh)
theorem akf {m M:Mk} (h:M.h=m.h):hk M=hk m:=by unfold hk;rw[h]
theorem VZ (m:Mk) (l:List aY) (t p s:Nat):hk (m.hang l t p s).2=hk m:=by unfold hk;rw[(AK m l t p s).1]
theorem aci (m:Mk) (x:Ly):hk (m.field x).2=hk m:=by
  unfold Mk.field
  split
  · rfl
  simp only
  have B:hk (m.di (ir {cQ:=eu m.c.dS m.c.dh x,bT:=0,dat:=0,ak:=x})).2=hk m:=rfl
  generalize m.di (ir {cQ:=eu m.c.dS m.c.dh x,bT:=0,dat:=0,ak:=x})=r at *
  obtain⟨p,A⟩:=r
  simp only at B ⊢
  have C:=VZ A A.aj (A.cP 4) p (eu m.c.dS m.c.dh x%A.c.aA)
  generalize A.hang A.aj (A.cP 4) p (eu m.c.dS m.c.dh x%A.c.aA)=r at *
  obtain⟨n,D⟩:=r
  exact C.trans B
theorem afr (m:Mk) (x:Pr):hk (m.data x).2=hk m:=by
  unfold Mk.data
  split
  · rfl
  simp only
  have C:hk (m.di (jf {cQ:=eu m.c.dS m.c.dh (ak x),bT:=0,eH:=0,entry:=0,array:=0,bQ:=0,ak:=ak x})).2=hk m:=rfl
  generalize m.di (jf {cQ:=eu m.c.dS m.c.dh (ak x),bT:=0,eH:=0,entry:=0,array:=0,bQ:=0,ak:=ak x})=r at *
  obtain⟨p,A⟩:=r
  simp only at C ⊢
  have D:=VZ A A.ai (A.cP 2) p (eu m.c.dS m.c.dh (ak x)%A.c.ay)
  generalize A.hang A.ai (A.cP 2) p (eu m.c.dS m.c.dh (ak x)%A.c.ay)=r at *
  obtain⟨n,B⟩:=r
  simp only at D ⊢
  generalize hx5:({(B.dV 19 (max (B.cP 19) n)).dV 15 (((B.dV 19 (max (B.cP 19) n)).cP 15+1)%18446744073709551616)with ai:=((B.dV 19 (max (B.cP 19) n)).dV 15 (((B.dV 19 (max (B.cP 19) n)).cP 15+1)%18446744073709551616)).ai ++ [({cM:=ak x,b9:=p,cF:=eu m.c.dS m.c.dh (ak x)%A.c.ay,bQ:=0,bn:=[]}:aY)]}:Mk)=m5
  have E:hk m5=hk B:=by subst hx5;rfl
  have F:=aci m5 x.name
  generalize m5.field x.name=r at *
  obtain⟨k,G⟩:=r
  exact F.trans (E.trans (D.trans C))
theorem IV:∀(l:List Pr) (m:Mk) (ps:List (List UInt8)) (od:List Nat),hk (iG l m ps od).2.2=hk m
  | [],_,_,_=>rfl
  | x :: r,m,ps,od=>(IV r _ _ _).trans (afr m x)
theorem WA (m:Mk) (a:List Nat) (n src iJ:Nat):hk (m.link a n src iJ).2.2=hk m:=by
  unfold Mk.link
  generalize gy a 0 0 0=r
  obtain⟨A,C⟩:=r
  simp only
  split
  · have B:hk (m.di (gD {next:=0,aD:=List.replicate (eL (a.length:Int)) 0})).2=hk m:=rfl
    generalize m.di (gD {next:=0,aD:=List.replicate (eL (a.length:Int)) 0})=r at *
    obtain⟨p,D⟩:=r
    simp only at B ⊢
    split
    · exact B
    exact B
  rfl
theorem Pm (e:Nat):∀(od:List Nat) (m:Mk),hk (kW e od m)=hk m
  | [],_=>rfl
  | i :: r,m=>by
    rw[om,Pm e r]
    unfold kJ
    simp only
    split
    · exact akf q
    · have g:=WA m (m.ai.getD i known0).bn ((m.ai.getD i known0).bQ-1) ((m.ai.getD i known0).b9+48) e
      generalize m.link (m.ai.getD i known0).bn ((m.ai.getD i known0).bQ-1) ((m.ai.getD i known0).b9+48) e=r at *
      obtain⟨a,t,m1⟩:=r
      exact(akf q).trans g
theorem afs (z:Mk) (n seq cu mono e:Nat) (bV:Ly):hk (oh z n seq cu mono e bV)=hk z:=by
  unfold oh
  simp only
  generalize hy:(if n=0 then(z.dV 10 seq).dV 12 cu else z)=y
  have:hk y=hk z:=by subst hy;split <;> rfl
  exact this
theorem yx (m:Mk) (raw:List Pr) (cu mono:Nat) (bV:Ly):hk (m.append raw cu mono bV).2.2=hk m∧((m.append raw cu mono bV).2.1≠0→(m.append raw cu mono bV).2.2=m):=by
  rcases hl:kY raw with⟨l,c⟩
  by_cases h2:c≠0
  · have e:m.append raw cu mono bV=(0,c,m):=by unfold Mk.append;simp only[hl];rw[if_pos h2]
    rw[e];exact⟨q,fun _=>rfl⟩
  by_cases h3:m.cP 9=18446744073709551615
  · have e:m.append raw cu mono bV=(0,1,m):=by unfold Mk.append;simp only[hl];rw[if_neg h2,if_pos h3]
    rw[e];exact⟨q,fun _=>rfl⟩
  have E:=IV l m [] []
  rcases hd:iG l m [] []with⟨I,D,x⟩
  rw[hd]at E
  have F:hk (x.di (e6 {seq:=(x.cP 9+1)%18446744073709551616,cu:=cu,mono:=mono,bV:=bV,xor:=nU 0 I,aD:=jK x D})).2=hk x:=rfl
  rcases ho:x.di (e6 {seq:=(x.cP 9+1)%18446744073709551616,cu:=cu,mono:=mono,bV:=bV,xor:=nU 0 I,aD:=jK x D})with⟨e,A⟩
  rw[ho]at F
  have G:=WA A A.main (A.cP 8) 176 e
  rcases hk3:A.link A.main (A.cP 8) 176 e with⟨a,t,C⟩
  rw[hk3]at G
  simp only at E F G
  have B:m.append raw cu mono bV=_:=kI (cu:=cu) (mono:=mono) (bV:=bV) hl h2 h3 hd ho hk3 q
  have H:=Pm e D (let m4:=({C with main:=a}:Mk).dV 11 (a.getD 0 0);{m4 with h:={m4.h with er:=jX a%4294967296,eB:=t%4294967296}})
  have J:hk (let m4:=({C with main:=a}:Mk).dV 11 (a.getD 0 0);({m4 with h:={m4.h with er:=jX a%4294967296,eB:=t%4294967296}}:Mk))=hk C:=rfl
  rw[J]at H
  generalize kW e D (let m4:=({C with main:=a}:Mk).dV 11 (a.getD 0 0);{m4 with h:={m4.h with er:=jX a%4294967296,eB:=t%4294967296}})=z at B H
  replace B:m.append raw cu mono bV=if z.c.bY<z.b.length then(0,15,m)else((x.cP 9+1)%18446744073709551616,0,oh z (A.cP 8) ((x.cP 9+1)%18446744073709551616) cu mono e bV):=B
  rw[B]
  split
  · exact⟨q,fun _=>rfl⟩
  refine⟨?_,fun h=>absurd q h⟩
  show hk (oh _ _ _ _ _ _ _)=_
  rw[afs,H,G,F,E]
theorem UG (n:Nat):qh (List.replicate n {first:=0,tail:=0})=nums (List.replicate (2*n) 0):=by
  induction n with
  | zero=>rfl
  | succ n ih =>
    rw[List.replicate_succ,qh,ih,show 2*(n+1)=(2*n+1)+1 by omega,List.replicate_succ,List.replicate_succ]
    simp[nums]
theorem ag4 {k:Nat} (hk:k=4∨k=5) (n:Nat):(∃r,fG k (List.replicate n {first:=0,tail:=0})=RO k (16+16*n) ++ r)∧(fG k (List.replicate n {first:=0,tail:=0})).length=16+16*n ∧
    ∀i,i<2*n→fA (fG k (List.replicate n {first:=0,tail:=0})) (16+8*i)=0:=by
  have e:fG k (List.replicate n {first:=0,tail:=0})=qu k (nums (List.replicate (2*n) 0) ++ []):=by
    unfold fG;rw[if_neg Oh,UG,List.append_nil]
  obtain⟨A,B,C,_⟩:=acG (k:=k) Oh (List.replicate (2*n) 0) [] (fun v E=>by rw[(List.mem_replicate.1 E).2];decide)
  rw[← e]at A B C
  simp only[List.length_replicate,List.length_nil,Nat.add_zero]at A B
  rw[show 16+8*(2*n)=16+16*n by omega]at A B
  exact⟨A,by rw[B];unfold mI;omega,fun i D=>C i 0 (by rw[List.getElem?_replicate,if_pos D])⟩
def rH (c:nZ):List Ob:=[⟨272,4,16+16*c.ay⟩,⟨288+16*c.ay,5,16+16*c.aA⟩]
structure agF (m:Mk):Prop where
  hk:hk m=(2,if m.c.dS then 4 else 0,1,m.c.dh)
  n0:m.cP 0=272
  n3:m.cP 3=16*m.c.ay
  n5:m.cP 5=16*m.c.aA
theorem Qk {c:nZ} {t:Nat} (h:c.ay≤10∧c.aA≤10) (h1:1≤c.ay∧1≤c.aA) (ht:t<1000000):Img (je c t) (rH c) []∧agF (je c t)∧(je c t).cP 9=t:=by
  obtain⟨⟨T,J⟩,K,_⟩:=ag4 (k:=4) (.inl q) c.ay
  obtain⟨⟨U,L⟩,M,_⟩:=ag4 (k:=5) (.inr q) c.aA
  have E:(je c t).b=List.replicate 272 0 ++ fG 4 (List.replicate c.ay {first:=0,tail:=0}) ++ fG 5 (List.replicate c.aA {first:=0,tail:=0}):=rfl
  have A:(je c t).h.n=(((((((((List.replicate 20 0).set 0 272).set 2 288).set 3 (16*c.ay)).set 4 ((List.replicate 272 (0:UInt8) ++ fG 4 (List.replicate c.ay {first:=0,tail:=0})).length+16)).set 5 (16*c.aA)).set 6 ((List.replicate 272 (0:UInt8) ++ fG 4 (List.replicate c.ay {first:=0,tail:=0})).length)).set 7 2).set 9 t):=rfl
  have D:(List.replicate 272 (0:UInt8) ++ fG 4 (List.replicate c.ay {first:=0,tail:=0})).length=288+16*c.ay:=by rw[List.length_append,List.length_replicate,K];omega
  have O:(je c t).b.length=304+16*c.ay+16*c.aA:=by rw[E,List.length_append,D,M];omega
  rw[D]at A
  have cP:∀i,(je c t).cP i=(je c t).h.n.getD i 0:=fun _=>rfl
  generalize hT4:fG 4 (List.replicate c.ay {first:=0,tail:=0})=T4 at *
  generalize hT5:fG 5 (List.replicate c.aA {first:=0,tail:=0})=T5 at *
  have Q:seg (je c t).b 272 16=RO 4 (16+16*c.ay):=by
    rw[E,List.append_assoc,jr (by rw[List.length_replicate];exact Nat.le_refl _),List.length_replicate,Nat.sub_self,J,List.append_assoc]
    exact mQ _ _ (kO _ _).symm
  have R:seg (je c t).b (288+16*c.ay) 16=RO 5 (16+16*c.aA):=by
    rw[E,jr Oh,D,Nat.sub_self,L]
    exact mQ _ _ (kO _ _).symm
  have S:mI (16+16*c.ay)=16+16*c.ay:=by unfold mI;omega
  have u5:mI (16+16*c.aA)=16+16*c.aA:=by unfold mI;omega
  have N:gd (je c t).b 272 (rH c) (je c t).b.length:=by
    refine⟨q,by simp,by simp,by simp only;omega,by simp only;omega,Q,?_⟩
    simp only[S]
    rw[show 272+(16+16*c.ay)=288+16*c.ay by omega]
    refine⟨q,by simp,by simp,by simp only;omega,by simp only;omega,R,?_⟩
    simp only[u5,gd]
    rw[O];omega
  have B:(je c t).ai=[]:=rfl
  have P:(je c t).aj=[]:=rfl
  have H:(je c t).main=[]:=rfl
  have F:(je c t).c=c:=rfl
  have G:Cn (je c t) (rH c):=by
    refine⟨by rw[A];simp,by rw[cP,A,rH];rfl,by rw[cP,A];rfl,by rw[cP,A];rfl,by rw[cP,A];simp[rH],fun o I=>?_⟩
    simp[rH]at I
    rcases I with rfl|rfl
    · exact⟨by simp,by simp,fun _=>⟨c.ay,h1.1,q⟩⟩
    · exact⟨by simp,by simp,fun _=>⟨c.aA,h1.2,q⟩⟩
  have C:fA (je c t).b 176=0:=by
    rw[E,uO (by rw[D];omega),uO (by rw[List.length_replicate];omega)]
    show DW (((List.replicate 272 0).drop 176).take 8)=0
    rw[List.drop_replicate,List.take_replicate]
    rfl
  refine⟨⟨⟨⟨N,by rw[F];simp[rH],by rw[F];simp[rH],by rw[cP,A];rfl,by rw[cP,A];simp only[F];show _+16=_;omega,by rw[F];exact h1,by rw[B];simp,by rw[P];simp,by rw[B];simp,by simp[rH],by simp[rH],G⟩,?_,by rw[B];simp,⟨by rw[B];simp,by rw[B];simp⟩,by simp,by simp[rH]⟩,by rw[cP,A];rfl,by rw[cP,A];show t<_;omega,by rw[cP,A,H];rfl,by rw[cP,A];rfl,by simp,by rw[B];simp⟩,⟨q,by rw[cP,A];rfl,by rw[cP,A];rfl,by rw[cP,A];rfl⟩,by rw[cP,A];rfl⟩
  rw[H]
  exact⟨C,by simp,by simp,by simp,by simp,Nat.le_refl _,Nat.le_refl _⟩
end Go.Wk
namespace Go.Wk
open Go Go.RowKit
structure mh (m:Mk) (l:List Ob) (es:List gG) (rs:List Rec):Prop where
  img:Img m l es
  ok:vV m
  h20:m.h.n.length=20
  hd:agF m
  len:es.length=rs.length
  rcd:∀(i:Nat) (g:gG) (r:Rec),es[i]? = some g→rs[i]? = some r→NT m g r
  rise:rs.Pairwise fun a b=>a.seq<b.seq
  top:∀r∈rs,1≤r.seq∧r.seq≤m.cP 9
structure BJ (m m':Mk) (es es':List gG) (rs rs':List Rec):Prop where
  es:∃t,es'=es ++ t
  rs:∃t,rs'=rs ++ t
  main:∃t,m'.main=m.main ++ t
  ext:pN m.ai m'.ai
  c:m'.c=m.c
  len:m.b.length≤m'.b.length
  cP:∀i,i≤5→m'.cP i=m.cP i
theorem BJ.refl (m:Mk) (es:List gG) (rs:List Rec):BJ m m es es rs rs:=⟨⟨[],by simp⟩,⟨[],by simp⟩,⟨[],by simp⟩,pN.refl _,q,Nat.le_refl _,fun _ _=>rfl⟩
theorem BJ.trans {a b c:Mk} {es es' es'':List gG} {rs rs' rs'':List Rec} (h:BJ a b es es' rs rs') (k:BJ b c es' es'' rs' rs''):BJ a c es es'' rs rs'':=by
  obtain⟨H,B⟩:=h.es;obtain⟨K,E⟩:=k.es
  obtain⟨I,C⟩:=h.rs;obtain⟨L,F⟩:=k.rs
  obtain⟨J,D⟩:=h.main;obtain⟨u3,G⟩:=k.main
  exact⟨⟨H ++ K,by rw[E,B,List.append_assoc]⟩,⟨I ++ L,by rw[F,C,List.append_assoc]⟩,⟨J ++ u3,by rw[G,D,List.append_assoc]⟩,h.ext.trans k.ext,k.c.trans h.c,ly h.len k.len,fun i A=>(k.cP i A).trans (h.cP i A)⟩
theorem EA {x fs:List Pr} (h:kY x=(fs,0)) (ha:Asc x):fs=x:=by
  obtain⟨A,_,B,_⟩:=vh h
  exact V5 A ha B
theorem VY:∀(l o x:List Pr) (c:Nat),RN l o=(x,c)→c≠0→x=[]
  | [],o,x,c,h,hc=>by
    unfold RN at h
    split at h
    · exact(Prod.mk.inj h).1.symm
    · exact absurd (Prod.mk.inj h).2.symm hc
  | p :: r,o,x,c,h,hc=>by
    unfold RN at h
    split at h
    · exact(Prod.mk.inj h).1.symm
    · exact VY r _ x c h hc
theorem ZE (l:List Pr):Asc (kY l).1:=by
  rcases h:kY l with⟨x,c⟩
  by_cases hc:c=0
  · subst hc;exact(vh h).1
  unfold kY at h
  split at h
  · rw[← (Prod.mk.inj h).1];exact List.Pairwise.nil
  rw[VY _ _ _ _ h hc];exact List.Pairwise.nil
theorem BM {α:Type} {l:List α} {p a:α} {k:Nat} (h:(l ++ [p])[k]? = some a):(k<l.length∧l[k]? = some a)∨(k=l.length∧a=p):=by
  rcases Nat.lt_or_ge k l.length with hk|hk
  · rw[List.getElem?_append_left hk]at h;exact .inl ⟨hk,h⟩
  have B:=(List.getElem?_eq_some_iff.1 h).1
  simp at B
  rw[List.getElem?_append_right hk,show k-l.length=0 by omega]at h
  exact .inr ⟨by omega,by simpa using h.symm⟩
theorem XV {m m':Mk} {l:List Ob} {es:List gG} {rs:List Rec} {r:Rec} {s:Nat} (h:mh m l es rs) (hr:r.seq=(m.cP 9+1)%18446744073709551616) (hb:r.bV.length=16) (hn:r.cu<18446744073709551616∧r.mono<18446744073709551616) (hf:Asc r.aj) (ha:m.append r.aj r.cu r.mono r.bV=(s,0,m')) :
    ∃l' es',mh m' l' es' (rs ++ [r])∧BJ m m' es es' rs (rs ++ [r]):=by
  have C:=yJ m r.aj r.cu r.mono r.bV
  have ok':=xS (raw:=r.aj) (cu:=r.cu) (mono:=r.mono) h.ok hb (C.trans h.h20)
  have D:=(yx m r.aj r.cu r.mono r.bV).1
  rw[ha]at C ok' D
  obtain⟨l',g,S,O,A⟩:=HJ h.img h.ok h.h20 hb hn ha
  have H:=EA O hf
  subst H
  have T:=h.img.n9
  have P:s=m.cP 9+1:=A.seq.1
  have n9':m'.cP 9=s:=A.seq.2
  have R:=A.img.n9
  have F:r.seq=s:=by rw[hr,P];exact Nat.mod_eq_of_lt Oh
  have I:({seq:=s,cu:=r.cu,mono:=r.mono,bV:=r.bV,aj:=r.aj}:Rec)=r:=by cases r;simp only at F;subst F;rfl
  have A':=A.rcd
  rw[I]at A'
  refine⟨l',es ++ [g],⟨A.img,ok',C.trans h.h20,⟨?_,?_,?_,?_⟩,by simp[h.len],fun i J Q N E=>?_,?_,fun y B=>?_⟩,⟨⟨_,q⟩,⟨_,q⟩,A.main,A.ext,A.c,A.len,A.cP⟩⟩
  · rw[D,h.hd.hk,A.c]
  · rw[A.cP 0 Om];exact h.hd.n0
  · rw[A.cP 3 Om,A.c];exact h.hd.n3
  · rw[A.cP 5 Om,A.c];exact h.hd.n5
  · rcases BM N with⟨M,K⟩|⟨M,rfl⟩
    · rcases BM E with⟨_,G⟩|⟨G,_⟩
      · exact(h.rcd i J Q K G).ext (h.img.who J (List.mem_of_getElem? K)) A.ext
      have:=h.len;omega
    rcases BM E with⟨G,_⟩|⟨_,rfl⟩
    · have:=h.len;omega
    exact A'
  · refine List.pairwise_append.2 ⟨h.rise,by simp,fun y B z L=>?_⟩
    simp at L;subst L
    have:=(h.top y B).2;omega
  rw[n9']
  rcases List.mem_append.1 B with B|B
  · have:=h.top y B;omega
  simp at B;subst B;omega
theorem FT (s:Sq) (n:Nat):(s.record n).1.seq=n∧(s.record n).1.bV.length=16∧((s.record n).1.cu<18446744073709551616∧(s.record n).1.mono<18446744073709551616)∧Asc (s.record n).1.aj:=by
  refine⟨?_,zH s n,?_⟩
  · rcases h1:s.pairs 4 with⟨F,A⟩
    rcases h2:A.cP 40 with⟨a,B⟩
    rcases h3:B.cP 9 with⟨b,C⟩
    rcases h4:C.cP 3 with⟨c,G⟩
    simp only[Sq.record,h1,h2,h3,h4]
  rcases h1:s.pairs 4 with⟨F,A⟩
  rcases h2:A.cP 40 with⟨a,B⟩
  rcases h3:B.cP 9 with⟨b,C⟩
  rcases h4:C.cP 3 with⟨c,G⟩
  have D:=A.kE 40
  have E:=B.kE 9
  rw[h2]at D;rw[h3]at E
  simp only[Sq.record,h1,h2,h3,h4]
  simp only at D E
  exact⟨by omega,ZE F⟩
theorem JB:∀(n:Nat) (s:Sq) (m:Mk) (l:List Ob) (es:List gG) (rs:List Rec),mh m l es rs →
    ∃l' es',mh (jL n s m rs).1 l' es' (jL n s m rs).2.1∧BJ m (jL n s m rs).1 es es' rs (jL n s m rs).2.1∧(jL n s m rs).2.1.length≤rs.length+n
  | 0,s,m,l,es,rs,h=>⟨l,es,h,BJ.refl _ _ _,Nat.le_refl _⟩
  | n+1,s,m,l,es,rs,h=>by
    unfold jL
    split
    · have hr:=FT s ((m.cP 9+1)%18446744073709551616)
      rcases hrec:s.record ((m.cP 9+1)%18446744073709551616)with⟨r,s1⟩
      rw[hrec]at hr
      have hk:=(yx m r.aj r.cu r.mono r.bV).2
      rcases ha:m.append r.aj r.cu r.mono r.bV with⟨e,c,m1⟩
      rw[ha]at hk
      simp only[ha]
      split
      · rename_i hc
        have:=hk hc
        simp only at this
        subst this
        exact⟨l,es,h,BJ.refl _ _ _,Nat.le_add_right _ _⟩
      · rename_i hc
        have hc0:c=0:=Classical.not_not.1 hc
        subst hc0
        obtain⟨l1,es1,g1,g2⟩:=XV h hr.1 hr.2.1 hr.2.2.1 hr.2.2.2 ha
        obtain⟨l',es',k1,kz2,kz3⟩:=JB n s1 m1 l1 es1 _ g1
        exact⟨l',es',k1,g2.trans kz2,by rw[List.length_append]at kz3;simp only[List.length_singleton]at kz3;omega⟩
    · exact⟨l,es,h,BJ.refl _ _ _,Nat.le_add_right _ _⟩
theorem ac1 {s s':Sq} {bY:Nat} {m:Mk} {rs:List Rec} (h:s.pY bY=(m,rs,s')):∃l es,mh m l es rs∧rs.length≤bY:=by
  have A:=uS s
  rcases h1:s.config with⟨c,E⟩
  rcases h2:E.cP 6 with⟨t,H⟩
  rw[h1]at A
  have B:=E.kE 6
  rw[h2]at B
  simp only at B A
  simp only[Sq.pY,h1,h2]at h
  obtain⟨F,G,I⟩:=Qk (c:=c) (t:=t) A.1 A.2.1 Oh
  obtain⟨l,es,C,_,D⟩:=JB bY H (je c t) (rH c) [] [] ⟨F,xh A.1 A.2.1 A.2.2,q,G,q,by simp,List.Pairwise.nil,by simp⟩
  rw[h]at C D
  exact⟨l,es,C,by simpa using D⟩
end Go.Wk
namespace Go.Wk
open Go Go.RowKit
def vO (aD:List Nat) (c r:Nat):List Nat:=(List.range r).map fun j=>aD.getD (c+j) 0
theorem FU (aD:List Nat) (c r:Nat):vO aD c (r+1)=aD.getD c 0 :: vO aD (c+1) r:=by
  unfold vO
  rw[List.range_succ_eq_map,List.map_cons,List.map_map]
  congr 1
  exact List.map_congr_left fun j _=>by simp only[Function.comp];congr 1;omega
theorem aaY {b:Ly} {l:List Ob} {src:Nat} {av aD:List Nat} (h:Chain b l src av aD) (hO:gd b 272 l b.length) {k a:Nat} (ha:av[k]? = some a):iQ 272 b a=({next:=av.getD (k+1) 0,aD:=vO aD (nj k) (eL (k:Int))},0):=by
  have D:=hO.mem (h.ob k a ha)
  have C:=h.le hO ha
  have E:=rU (k:=(k:Int)) Oh
  have A:=r6 D Om Lw
  simp only at A
  unfold iQ
  rw[if_neg Oh]
  unfold kG
  rw[A]
  simp only
  rw[if_neg Oq,if_neg Oq,if_neg Oh,show(24+8*eL (k:Int)-24)/8=eL (k:Int)by omega,h.next k a ha]
  congr 2
  unfold gX vO
  exact List.map_congr_left fun j B=>h.iJ k a j ha (List.mem_range.1 B)
structure sV (b:Ly) (aD:List Nat):Prop where
  ok:∀x∈aD,x≠0∧x<b.length
  GN:aD.Pairwise (· < ·)
theorem sV.get {b:Ly} {aD:List Nat} (h:sV b aD) {i:Nat} (hi:i<aD.length):aD.getD i 0≠0∧aD.getD i 0<b.length:=by
  have:aD.getD i 0∈aD:=by rw[List.getD_eq_getElem?_getD,List.getElem?_eq_getElem hi];exact List.getElem_mem hi
  exact h.ok _ this
theorem sV.lt {b:Ly} {aD:List Nat} (h:sV b aD) {i j:Nat} (hij:i<j) (hj:j<aD.length):aD.getD i 0<aD.getD j 0:=by
  rw[List.getD_eq_getElem?_getD,List.getD_eq_getElem?_getD,List.getElem?_eq_getElem Oh,List.getElem?_eq_getElem hj]
  exact List.pairwise_iff_getElem.1 h.GN i j Oh hj hij
theorem aa6 {aD:List Nat} {c:Nat} (h0:0<c) (hc:c≤aD.length):ud (aD.take c)=aD.getD (c-1) 0:=by
  unfold ud
  rw[List.getLast?_eq_getElem?,List.length_take,List.getElem?_take,Nat.min_eq_left hc,if_pos Oh,List.getD_eq_getElem?_getD]
theorem WC {b:Ly} {aD:List Nat} (h:sV b aD) {c:Nat} (hc:c<aD.length):qE (aD.take c) (aD.getD c 0)=0:=by
  unfold qE
  by_cases h0:c=0
  · subst h0;simp
  rw[aa6 Oh Oh,if_neg]
  have:=h.lt (i:=c-1) (j:=c) Oh hc
  omega
theorem GC {aD:List Nat} {c:Nat} (hc:c<aD.length):aD.take c ++ [aD.getD c 0]=aD.take (c+1):=by
  rw[List.take_add_one,List.getD_eq_getElem?_getD,List.getElem?_eq_getElem hc];rfl
theorem OV {aD:List Nat} {c:Nat} (hc:aD.length≤c):aD.getD c 0=0:=by rw[List.getD_eq_getElem?_getD,List.getElem?_eq_none hc];rfl
theorem IE {b:Ly} {aD:List Nat} {bY:Nat} (h:sV b aD):∀(r c:Nat),c≤aD.length→c≤bY →
    nE b bY (vO aD c r) (aD.take c)=if bY≤aD.length∨c+r≤aD.length then(aD.take (min bY (c+r)),0)else(aD,2)
  | 0,c,hc,hm=>by
    show(aD.take c,0)=_
    rw[if_pos (.inr Oh),Nat.add_zero,Nat.min_eq_right hm]
  | r+1,c,hc,hm=>by
    have hl:(aD.take c).length=c:=by rw[List.length_take];omega
    rw[FU,nE,hl]
    by_cases h1:bY≤c
    · rw[if_pos h1,if_pos (.inl Oh),Nat.min_eq_left Oh,show bY=c by omega]
    · rw[if_neg h1]
      by_cases h2:c<aD.length
      · have A:=h.get h2
        rw[if_neg Oh,WC h h2,if_neg Oq,GC h2,IE h r (c+1) Oh Oh,show c+1+r=c+(r+1)by omega]
      · rw[OV Oh,if_pos (.inl q),if_neg Oh,List.take_of_length_le Oh]
theorem CP {b:Ly} {l:List Ob} {src:Nat} {av aD:List Nat} {bY:Nat} (h:Chain b l src av aD) (hO:gd b 272 l b.length) (hi:sV b aD):∀(d k ahead:Nat),k+d=av.length→(k=0→ahead=0)→(∀j,k=j+1→av[j]? = some ahead)→min bY (nj k)≤aD.length →
    ∃c,tj 272 b bY (av.getD k 0) ahead (aD.take (min bY (nj k)))=(aD.take (min bY aD.length),c)∧(c=0∧bY≤aD.length∨(c=2∨c=14)∧aD.length<bY)
  | d,k,ahead,hd,h0,h1,hk=>by
    have hl:(aD.take (min bY (nj k))).length=min bY (nj k):=by rw[List.length_take];omega
    have F:=h.hi
    rw[tj,hl]
    by_cases hm:bY≤nj k
    · rw[Nat.min_eq_left hm]at hk ⊢
      rw[if_pos (Nat.le_refl _),Nat.min_eq_left Oh]
      exact⟨0,q,.inl ⟨q,hk⟩⟩
    · rw[Nat.min_eq_right Oh]at hk ⊢
      rw[if_neg Oh]
      match d with
      | 0 =>
        have C:k=av.length:=by omega
        subst C
        have:aD.length=nj av.length:=by omega
        rw[OV (Nat.le_refl _),if_pos (.inl q),← this,Nat.min_eq_right Oh]
        exact⟨14,q,.inr ⟨.inr q,by omega⟩⟩
      | d+1 =>
        obtain⟨a,A⟩:∃a,av[k]? = some a:=⟨_,List.getElem?_eq_getElem Oh⟩
        have G:=h.le hO A
        have D:=aaY h hO A
        have E:ahead<a:=by
          by_cases hk0:k=0
          · have:=h0 hk0;omega
          · have:=h1 (k-1) Oh
            exact h.GN (k-1) ahead a this (by rw[show k-1+1=k by omega];exact A)
        rw[getD_some A,if_neg Oh,if_neg Oh,D]
        simp only
        rw[if_neg Oq,IE hi _ _ hk Oh]
        have B:nj k+eL (k:Int)=nj (k+1):=rfl
        by_cases hb:bY≤aD.length∨nj k+eL (k:Int)≤aD.length
        · rw[if_pos hb]
          simp only
          rw[if_neg Oq,B]
          exact CP h hO hi d (k+1) a Oh Oh (fun j H=>by rw[show j=k by omega];exact A) (by rw[← B];omega)
        · rw[if_neg hb]
          simp only
          rw[if_pos Oq,Nat.min_eq_right Oh,List.take_length]
          exact⟨2,q,.inr ⟨.inl q,by omega⟩⟩
theorem S9 {b:Ly} {l:List Ob} {src bY:Nat} {av aD:List Nat} (h:Chain b l src av aD) (hO:gd b 272 l b.length) (hi:sV b aD) :
    ∃c,VQ 272 b bY (av.getD 0 0)=(aD.take (min bY aD.length),c)∧(c=0∧bY≤aD.length∨(c=2∨c=14)∧aD.length<bY):=by
  have:=CP (bY:=bY) h hO hi av.length 0 0 Oh (fun _=>rfl) (fun j A=>by omega) (by simp[nj])
  simp only[nj,Nat.min_zero,List.take_zero]at this
  exact this
theorem QD {b:Ly} {ps:List Nat} (h:sV b ps):∀(r c:Nat),c≤ps.length →
    wD b ps.length (vO ps c r) (ps.take c)=(ps.take (min ps.length (c+r)),0,decide (ps.length<c+r))
  | 0,c,hc=>by
    show(ps.take c,0,false)=_
    rw[Nat.add_zero,Nat.min_eq_right hc,show decide (ps.length<c)=false by simpa using hc]
  | r+1,c,hc=>by
    have hl:(ps.take c).length=c:=by rw[List.length_take];omega
    rw[FU,wD,hl]
    by_cases h1:ps.length≤c
    · rw[if_pos h1,Nat.min_eq_left Oh,show decide (ps.length<c+(r+1))=true by simp;omega,List.take_of_length_le h1,List.take_length]
    · have A:c<ps.length:=by omega
      have B:=h.get A
      rw[if_neg h1,if_neg Oh,WC h A,if_neg Oq,GC A,QD h r (c+1) Oh,show c+1+r=c+(r+1)by omega]
theorem TW (ps:List Nat) (c r:Nat):vO (ps.drop 1) c r=vO ps (c+1) r:=by
  unfold vO
  exact List.map_congr_left fun j _=>by
    rw[List.getD_eq_getElem?_getD,List.getElem?_drop,List.getD_eq_getElem?_getD];congr 2;omega
theorem JI {b:Ly} {l:List Ob} {src:Nat} {av ps:List Nat} (h:Chain b l src av (ps.drop 1)) (hO:gd b 272 l b.length) (hi:sV b ps) (hp:ps≠[]):∀(d k ahead:Nat),k+d=av.length→(k=0→ahead=0)→(∀j,k=j+1→av[j]? = some ahead)→nj k+1≤ps.length∨nj k ≥ ps.length-1 →
    M0 272 b ps.length (av.getD k 0) ahead (ps.take (min ps.length (nj k+1)))=(ps,0)
  | d,k,ahead,hd,h0,h1,hk=>by
    have hl:(ps.take (min ps.length (nj k+1))).length=min ps.length (nj k+1):=by rw[List.length_take];omega
    have C:=h.hi
    simp only[List.length_drop]at C
    rw[M0,hl]
    by_cases hm:ps.length≤nj k+1
    · rw[Nat.min_eq_left hm,if_pos (Nat.le_refl _),List.take_length]
    · rw[Nat.min_eq_right Oh,if_neg Oh]
      match d with
      | 0 => 
        have D:k=av.length:=by omega
        subst D
        omega
      | d+1 =>
        obtain⟨a,A⟩:∃a,av[k]? = some a:=⟨_,List.getElem?_eq_getElem Oh⟩
        have G:=h.le hO A
        have E:=aaY h hO A
        rw[TW]at E
        have F:ahead<a:=by
          by_cases hk0:k=0
          · have:=h0 hk0;omega
          · have:=h1 (k-1) Oh
            exact h.GN (k-1) ahead a this (by rw[show k-1+1=k by omega];exact A)
        rw[getD_some A,if_neg Oh,if_neg Oh,E]
        simp only
        rw[if_neg Oq,QD hi _ _ Oh]
        have B:nj k+eL (k:Int)=nj (k+1):=rfl
        simp only
        by_cases hb:ps.length<nj k+1+eL (k:Int)
        · rw[if_pos (by simpa using hb),Nat.min_eq_left Oh,List.take_length]
        · rw[if_neg (by simpa using hb),show nj k+1+eL (k:Int)=nj (k+1)+1 by rw[← B];omega]
          exact JI h hO hi hp d (k+1) a Oh Oh (fun j H=>by rw[show j=k by omega];exact A) Oh
end Go.Wk
namespace Go.Wk
open Go Go.RowKit
theorem uK {m:Mk} (h:∀k∈m.ai,∃q:Pr,right q.pb=true∧k.cM=ak q) {k:aY} (hk:k∈m.ai):1≤k.cM.length:=by
  obtain⟨q,_,A⟩:=h k hk
  have:=kK q
  rw[A];omega
def OM (m:Mk) (k:aY) (ps:List Nat):gQ:={cQ:=eI m k.cM,bT:=fA m.b (k.b9+24),eH:=fA m.b (k.b9+32),entry:=ps.getD 0 0,array:=k.bn.getD 0 0,bQ:=ps.length,ak:=k.cM}
theorem S6 {m:Mk} {l:List Ob} {es:List gG} {mp:List Nat} {f:Nat→List Nat} {i:Nat} {k:aY} (h:mJ m l es mp f) (hk:m.ai[i]? = some k) (ht:1≤k.cM.length):gB 272 m.b k.b9=(OM m k (f i),0):=by
  have G:=h.fu.fH
  have C:=h.fu.data k (List.mem_of_getElem? hk)
  have A:=h.dat i k hk
  have B:=G.mem C.ob
  have H:=eO (64+k.cM.length)
  have E:=B.ge
  have F:=B.le
  simp only at E F
  unfold gB
  rw[if_neg Oh]
  have D:=acI (k:=1) (n:=6) B Om Lw q Lw
  simp only at D
  rw[(wG D).2 Oq |>.2]
  rw[show k.b9+16+8*6=k.b9+64 by omega,show 64+k.cM.length-(16+8*6)=k.cM.length by omega,C.cM]
  congr 1
  have e:gX m.b (k.b9+16) 6=[fA m.b (k.b9+16),fA m.b (k.b9+24),fA m.b (k.b9+32),fA m.b (k.b9+40),fA m.b (k.b9+48),fA m.b (k.b9+56)]:=rfl
  rw[e,C.cQ,A.ent,A.chain.word,A.word]
  rfl
theorem TH {m:Mk} {l:List Ob} {es:List gG} {mp:List Nat} {f:Nat→List Nat} {i:Nat} {k:aY} (h:mJ m l es mp f) (hk:m.ai[i]? = some k) (ht:1≤k.cM.length):iZ m.c.dS m.c.dh 272 m.b k.b9=(OM m k (f i),0) :=
  XG (S6 h hk ht) (n:=eI m k.cM) q q
theorem PF:∀{l:List kV} {i:Nat} {x:kV},l[i]? = some x→x.b9<18446744073709551616→x.cQ<18446744073709551616→fA (lO l) (16*i)=x.b9∧fA (lO l) (16*i+8)=x.cQ
  | [],_,_,h,_,_=>by simp at h
  | y :: l,0,x,h,h1,h2=>by
    simp at h;subst h
    exact⟨mK (l:=[y.b9,y.cQ]) (i:=0) q h1,mK (l:=[y.b9,y.cQ]) (i:=1) q h2⟩
  | y :: l,i+1,x,h,h1,h2=>by
    have hl:(nums [y.b9,y.cQ]).length=16:=rfl
    obtain⟨g1,g2⟩:=PF (l:=l) (i:=i) (by simpa using h) h1 h2
    rw[lO,iR Oh,iR Oh,hl,show 16*(i+1)-16=16*i by omega,show 16*(i+1)+8-16=16*i+8 by omega]
    exact⟨g1,g2⟩
theorem aii {m:Mk} {l:List Ob} {g:gG} (hs:Stat m l) (w:vu m g) (hb:m.b.length<1000000) {x:kV} (hx:x∈g.ent.aD):x.b9<18446744073709551616∧x.cQ<18446744073709551616:=by
  rw[w.aD]at hx
  obtain⟨i,A,rfl⟩:=List.mem_map.1 hx
  have B:=w.lt i A
  have hk:m.ai[i]? = some m.ai[i]:=List.getElem?_eq_getElem B
  have:=(hs.fH.mem (hs.data _ (List.mem_of_getElem? hk)).ob).le
  have:=eO (64+(m.ai[i]).cM.length)
  simp only at this ⊢
  rw[(ql hk).2]
  exact⟨by simp only at *;omega,uc _ _⟩
theorem S7 {m:Mk} {l:List Ob} {es:List gG} {mp:List Nat} {f:Nat→List Nat} {g:gG} (h:mJ m l es mp f) (w:vu m g) (hg:g∈es) (hb:m.b.length<1000000):iv 272 m.b g.b9=(g.ent,0):=by
  have Z:=h.fu.fH
  have O:=h.ent g hg
  have I:=Z.mem O.ob
  have hu:=eO (64+16*g.ent.aD.length)
  have V:=I.ge
  have W:=I.le
  have hn:g.ent.aD.length=g.who.length:=by rw[w.aD,List.length_map]
  have h3:=w.len
  obtain⟨⟨d,e,n,E,o⟩,p⟩:=w.ok
  simp only at V W
  unfold iv
  rw[if_neg Oh]
  have G:=VD (k:=3) (ahead:=48) (iJ:=16) I Om Lw q Lw Lw
  simp only at G
  unfold lW
  rw[G]
  simp only
  rw[if_neg Oq]
  -- the body
  have Y:seg m.b (g.b9+16) (64+16*g.ent.aD.length-16)=nums [g.ent.seq,g.ent.cu,g.ent.mono] ++ g.ent.bV ++ nums [g.ent.xor] ++ lO g.ent.aD:=by
    rw[Rw O.seg Oh]
    unfold e6
    have H:(nums [g.ent.seq,g.ent.cu,g.ent.mono] ++ g.ent.bV ++ nums [g.ent.xor] ++ lO g.ent.aD).length=48+16*g.ent.aD.length:=by simp[fV,vf,E];omega
    rw[xI Oh,List.append_assoc (RO _ _),jr (by rw[kO];omega),kO,Nat.sub_self]
    exact mQ _ _ (by rw[H];omega)
  rw[Y]
  generalize hX:nums [g.ent.seq,g.ent.cu,g.ent.mono] ++ g.ent.bV ++ nums [g.ent.xor] ++ lO g.ent.aD=X
  have B:(nums [g.ent.seq,g.ent.cu,g.ent.mono]).length=24:=rfl
  have Q:(nums [g.ent.xor]).length=8:=rfl
  have z:X.length=48+16*g.ent.aD.length:=by rw[← hX];simp[fV,vf,E];omega
  have A:X=nums [g.ent.seq,g.ent.cu,g.ent.mono] ++ (g.ent.bV ++ (nums [g.ent.xor] ++ lO g.ent.aD)):=by rw[← hX];simp only[List.append_assoc]
  have R:fA X 0=g.ent.seq:=by rw[A];exact mK (l:=[g.ent.seq,g.ent.cu,g.ent.mono]) (i:=0) q d
  have u:fA X 8=g.ent.cu:=by rw[A];exact mK (l:=[g.ent.seq,g.ent.cu,g.ent.mono]) (i:=1) q e
  have J:fA X 16=g.ent.mono:=by rw[A];exact mK (l:=[g.ent.seq,g.ent.cu,g.ent.mono]) (i:=2) q n
  have K:(X.drop 24).take 16=g.ent.bV:=by
    have:seg X 24 16=g.ent.bV:=by
      rw[A,jr Oh,B,Nat.sub_self]
      exact mQ _ _ E.symm
    exact this
  have L:fA X 40=g.ent.xor:=by
    rw[A,iR Oh,B,iR Oh,E]
    exact mK (l:=[g.ent.xor]) (i:=0) q o
  have v:pE X 48 ((X.length-48)/16)=g.ent.aD:=by
    rw[z,show(48+16*g.ent.aD.length-48)/16=g.ent.aD.length by omega]
    apply List.ext_getElem?
    intro i
    unfold pE
    rw[List.getElem?_map]
    by_cases hi:i<g.ent.aD.length
    · rw[List.getElem?_range hi,List.getElem?_eq_getElem hi]
      have F:=aii h.fu w hb (List.getElem_mem hi)
      obtain⟨S,T⟩:=PF (List.getElem?_eq_getElem hi) F.1 F.2
      have r:fA X (48+16*i)=(g.ent.aD[i]).b9:=by
        rw[A,iR Oh,B,iR Oh,E,iR Oh,Q,show 48+16*i-24-16-8=16*i by omega];exact S
      have t:fA X (48+16*i+8)=(g.ent.aD[i]).cQ:=by
        rw[A,iR Oh,B,iR Oh,E,iR Oh,Q,show 48+16*i+8-24-16-8=16*i+8 by omega];exact T
      simp only[Option.map_some,Option.some.injEq]
      rw[r,t]
    · rw[List.getElem?_eq_none (by simpa using hi),List.getElem?_eq_none Oh];rfl
  have U:GU X=g.ent:=by
    unfold GU
    rw[R,u,J,K,L,v]
  unfold GV
  rw[U,R,if_neg p,if_neg]
  intro P
  have:xM g.ent.aD=true:=by
    rw[vm]
    intro j x y C D
    rw[w.aD]at C D
    rw[List.getElem?_map]at C D
    cases hwx:g.who[j]? with
    | none=>rw[hwx]at C;cases C
    | some a =>
      cases hwy:g.who[j+1]? with
      | none=>rw[hwy]at D;cases D
      | some c =>
        rw[hwx]at C;rw[hwy]at D
        simp only[Option.map_some,Option.some.injEq]at C D
        subst C;subst D
        simp only
        have M:=(List.getElem?_eq_some_iff.1 hwx)
        have N:=(List.getElem?_eq_some_iff.1 hwy)
        have:=List.pairwise_iff_getElem.1 w.GN j (j+1) M.1 N.1 Oh
        rw[M.2,N.2]at this
        exact this
  rw[this]at P;cases P
theorem FZ {q:Pr} (h:right q.pb=true):nR (ak q)=(q,0):=by
  obtain⟨A,B⟩:=oO ((nk _).2 h)
  have h1':jU (ak q)=0:=A
  have h2':qY (ak q)=q.pb:=B
  unfold nR
  rw[h1',h2']
  rfl
theorem QZ {m:Mk} {l:List Ob} {es:List gG} {mp:List Nat} {f:Nat→List Nat} (h:mJ m l es mp f) (ht:∀k∈m.ai,∃q:Pr,right q.pb=true∧k.cM=ak q):∀(ws:List Nat) (fs:List Pr) (all:List (List UInt8)),(∀i∈ws,i<m.ai.length) →
    ∃qs:List Pr,lZ m.c.dS m.c.dh 272 m.b (ws.map fun i=>{b9:=gZ m.ai i,cQ:=eI m (jV m.ai i)}) fs all=((fs ++ qs,all ++ ws.map (jV m.ai)),0)∧qs.map ak=ws.map (jV m.ai)∧∀q∈qs,right q.pb=true
  | [],fs,all,_=>⟨[],by simp[lZ],rfl,by simp⟩
  | i :: r,fs,all,hw=>by
    have hl:=hw i Oq
    have hk:m.ai[i]? = some m.ai[i]:=List.getElem?_eq_getElem hl
    obtain⟨q,hq1,hq2⟩:=ht _ (List.mem_of_getElem? hk)
    have hp:=TH h hk (uK ht (List.mem_of_getElem? hk))
    obtain⟨t1,t2⟩:=ql hk
    obtain⟨qs,g1,g2,g3⟩:=QZ h ht r (fs ++ [q]) (all ++ [jV m.ai i]) (fun j hj=>hw j (by simp[hj]))
    refine⟨q :: qs,?_,by rw[List.map_cons,List.map_cons,g2,t1,hq2],fun y hy=>?_⟩
    · rw[List.map_cons,lZ]
      simp only[t2,hp]
      have e1:(OM m m.ai[i] (f i)).ak=ak q:=hq2
      have e2:(OM m m.ai[i] (f i)).cQ=eI m (jV m.ai i):=by rw[t1];rfl
      rw[if_neg Oq,if_neg (by rw[e2];simp),e1,FZ hq1]
      simp only
      rw[if_neg Oq,← hq2,← t1,g1]
      simp
    · rcases List.mem_cons.1 hy with rfl|hy
      · exact hq1
      · exact g3 y hy
theorem aiH {m:Mk} {l:List Ob} {es:List gG} {mp:List Nat} {f:Nat→List Nat} {g:gG} {r:Rec} (h:mJ m l es mp f) (ht:∀k∈m.ai,∃q:Pr,right q.pb=true∧k.cM=ak q) (w:vu m g) (hg:g∈es) (hb:m.b.length<1000000) (hr:NT m g r) :
    ∃fs,nW m.c.dS m.c.dh 272 m.b g.b9=({seq:=r.seq,cu:=r.cu,mono:=r.mono,bV:=r.bV,aj:=fs},0)∧fs.Perm r.aj:=by
  obtain⟨E,C,F,G⟩:=QZ h ht g.who [] [] w.lt
  rw[List.nil_append,List.nil_append]at C
  have L:g.ent.aD.length=g.who.length:=by rw[w.aD,List.length_map]
  have K:=w.len
  refine⟨E,?_,?_⟩
  · exact adR (all:=g.who.map (jV m.ai)) (n:=nU 0 (g.who.map (jV m.ai))) (S7 h w hg hb) Oh ⟨hr.seq.symm,hr.cu.symm,hr.mono.symm,hr.bV.symm⟩ (by rw[w.aD];exact C) rfl w.xor
  have D:=hr.aj
  rw[← F]at D
  -- payloads are told apart
  have B:∀(a b:List Pr),(∀q∈a,right q.pb=true)→(∀q∈b,right q.pb=true)→(a.map ak).Perm (b.map ak)→a.Perm b:=by
    intro a b H hb A
    have e:∀(c:List Pr),(∀q∈c,right q.pb=true)→c=(c.map ak).map fun t=>(nR t).1:=fun c I=>by
      rw[List.map_map]
      have:c.map ((fun t=>(nR t).1) ∘ ak)=c.map id:=List.map_congr_left fun q J=>by simp[Function.comp,FZ (I q J)]
      rw[this,List.map_id]
    rw[e a H,e b hb]
    exact A.map _
  exact B E r.aj G hr.right D
end Go.Wk
namespace Go.Wk
open Go Go.RowKit
structure ji (m:Mk) (B:Ly) (H:bS) (l:List Ob) (es:List gG):Prop where
  len:B.length=m.b.length
  read:mD B=(H,0)
  opn:lS B=(some {b:=B,h:=H},0)
  n:∀i,i<20→i≠1→H.n.getD i 0=m.cP i
  key:H.bX=if m.c.dS then 4 else 0
  dh:H.dh=m.c.dh
  img:mJ {m with b:=B} l es (es.map gG.b9) (places es)
theorem mJ.bytes {m:Mk} {l:List Ob} {es:List gG} {f:Nat→List Nat} {mp:List Nat} {B:Ly} (h:mJ m l es mp f) (hl:B.length=m.b.length) (hB:Eff (fun a=>a+8≤272) m.b B) (hw:fA B 176=m.main.getD 0 0):mJ {m with b:=B} l es mp f:=by
  have C:=h.fu.fH
  have H:∀a,a+8≤272→tf l a:=fun a A=>JF C A
  have hO':gd B 272 l B.length:=by
    rw[hl];exact C.mB hB (Nat.le_refl _) fun o L a A=>by have:=(C.mem L).ge;omega
  have D:∀o∈l,o∈l:=fun _ h=>h
  refine⟨h.fu.keep hO' ⟨[],by simp,by simp⟩ hB H q q ⟨q,q⟩ (mr.refl _) (h.fu.cn.same q),?_,fun i k E=>?_,⟨h.own.main,h.own.one⟩,fun g I=>(h.ent g I).mB C hB H D,h.kin⟩
  · refine⟨hw,h.main.ob,fun k a A=>?_,fun k a j A K=>?_,h.main.GN,h.main.lo,h.main.hi⟩
    · have:=h.main.le C A
      rw[hB.fA Oh fun x F=>by omega];exact h.main.next k a A
    have:=h.main.le C A
    rw[hB.fA Oh fun x F=>by omega];exact h.main.iJ k a j A K
  have G:=h.fu.data k (List.mem_of_getElem? E)
  have J:272≤k.b9:=(C.mem G.ob).ge
  exact(h.dat i k E).mB G C hB D (fun a A=>by omega) fun j x F a A=>by
    have:=(h.dat i k E).chain.le C F;omega
structure aaO (B:Ly) (h:fP):Prop where
  sign:B.take 8=KA
  bX:at4 B 12=h.bX
  state:(B.getD 16 0).toNat=h.state
  dh:(B.drop 24).take 16=h.dh
  n:∀i,i<20→fA B (88+8*i)=h.n.getD i 0
theorem O1 {x y:Ly} {p:Nat} (h:x.length≤p):at4 (x ++ y) p=at4 y (p-x.length):=by
  show DW (seg (x ++ y) p 4)=DW (seg y (p-x.length) 4)
  rw[jr h]
theorem aeC {v:Nat} (r:Ly) (h:v<4294967296):at4 (low v 4 ++ r) 0=v:=by
  show DW (seg (low v 4 ++ r) 0 4)=v
  rw[mQ _ _ (by rw[jc]),LP]
  exact Nat.mod_eq_of_lt h
theorem tH {x y:Ly} {p k:Nat} (hk:x.length=k) (h:k≤p):fA (x ++ y) p=fA y (p-k):=by rw[iR Oh,hk]
theorem SG (h:fP) (depth:Nat) (r:Ly) (ok:fP.ok h) (hs:h.state<256):aaO (wU h depth ++ r) h:=by
  obtain⟨L,F,M,C,G,H,I,⟨N,J⟩,_⟩:=ok
  have e:wU h depth ++ r=[76,80,75,83,72,72,82,72] ++ (low h.iF 4 ++ (low h.bX 4 ++ ([UInt8.ofNat h.state,0,0,0,0,0,0,0] ++ (h.dh ++ (h.eR ++ (h.bV ++ (h.seq ++ (nums h.n ++ (nums [depth] ++ (low h.er 4 ++ (low h.eB 4 ++ (nums [h.eN] ++ r)))))))))))):=by
    unfold wU;simp only[List.append_assoc]
  rw[e]
  refine⟨q,?_,?_,?_,fun i K=>?_⟩
  · rw[O1 Oq,O1 (by simp[jc])]
    simp only[jc,List.length_cons,List.length_nil]
    exact aeC _ F
  · have A:∀y:List UInt8,([76,80,75,83,72,72,82,72] ++ (low h.iF 4 ++ (low h.bX 4 ++ y))).getD 16 0=y.getD 0 0:=fun y=>by
      have D:(low h.iF 4).length=4:=jc _ _
      have E:(low h.bX 4).length=4:=jc _ _
      simp only[List.getD_eq_getElem?_getD]
      rw[List.getElem?_append_right Oq,List.getElem?_append_right Vw,List.getElem?_append_right Vw,D,E]
      rfl
    rw[A]
    show(UInt8.ofNat h.state).toNat=_
    rw[UInt8.toNat_ofNat',Nat.mod_eq_of_lt Oh]
  · show seg _ 24 16=_
    rw[jr Oq,jr (by simp[jc]),jr (by simp[jc]),jr (by simp[jc])]
    simp only[jc,List.length_cons,List.length_nil]
    exact mQ _ _ C.symm
  rw[tH (k:=8) q Oh,tH (k:=4) (jc _ _) Oh,tH (k:=4) (jc _ _) Oh,tH (k:=8) q Oh,tH (k:=16) C Oh,tH (k:=16) G Oh,tH (k:=16) H Oh,tH (k:=16) I Oh,show 88+8*i-8-4-4-8-16-16-16-16=8*i by omega]
  have hi':i<h.n.length:=by omega
  have B:h.n[i]? = some (h.n.getD i 0):=by simp[List.getD,List.getElem?_eq_getElem hi']
  exact mK B (J _ (List.mem_of_getElem? B))
theorem XE {b:Ly} {i:Nat} (h:i<21):(iN b).n.getD i 0=fA b (88+8*i):=by
  show(((List.range 21).map fun q=>if q<21 then fA b (88+8*q)else 0)).getD i 0=_
  rw[List.getD_eq_getElem?_getD,List.getElem?_map,List.getElem?_range h]
  simp[h]
theorem zx {m:Mk} {l:List Ob} {es:List gG} {rs:List Rec} {st:Nat} (h:mh m l es rs) (hok:fP.ok m.h) (hst:st≤2):aaO (mG m st) {m.h with state:=st,n:=m.h.n.set 1 (m.b.length-272)}∧(mG m st).length=m.b.length∧Eff (fun a=>a+8≤272) m.b (mG m st):=by
  have G:=h.img.c.fu.fH
  have J:=h.ok.small
  have D:=G.le
  have ok':fP.ok {m.h with state:=st,n:=m.h.n.set 1 (m.b.length-272)}:=⟨hok.1,hok.2.1,(by show st<_;omega),hok.2.2.2.1,hok.2.2.2.2.1,hok.2.2.2.2.2.1,hok.2.2.2.2.2.2.1,xk hok.2.2.2.2.2.2.2.1 Oh,hok.2.2.2.2.2.2.2.2⟩
  have F:=yw {m.h with state:=st,n:=m.h.n.set 1 (m.b.length-272)} m.depth ok'
  have E:=SG {m.h with state:=st,n:=m.h.n.set 1 (m.b.length-272)} m.depth (m.b.drop 272) ok' (by show st<_;omega)
  have C:mG m st=wU {m.h with state:=st,n:=m.h.n.set 1 (m.b.length-272)} m.depth ++ m.b.drop 272:=rfl
  rw[← C]at E
  have A:(mG m st).length=m.b.length:=by rw[C,List.length_append,F,List.length_drop];omega
  have B:Eff (fun a=>a+8≤272) m.b (mG m st):=by
    refine⟨by rw[A];exact Nat.le_refl _,fun q n K I=>?_⟩
    by_cases hn:n=0
    · subst hn;simp[seg]
    · have H:272≤q:=by
        by_cases h1:272≤q
        · exact h1
        · exfalso
          have:=I (min q 264) Oh
          omega
      rw[C,jr Oh,F]
      unfold seg
      rw[List.drop_drop,show 272+(q-272)=q by omega]
  exact⟨E,A,B⟩
theorem ZQ {m:Mk} {l:List Ob} {es:List gG} {rs:List Rec} {st:Nat} {B:Ly} (h:mh m l es rs) (hst:st≤2) (hb:aaO B {m.h with state:=st,n:=m.h.n.set 1 (m.b.length-272)}) (hlen:B.length=m.b.length) (hEff:Eff (fun a=>a+8≤272) m.b B):ji m B (iN B) l es:=by
  have L:=h.img.c.fu.fH
  have S:=h.ok.small
  have O:=L.le
  have A:∀i,i<20→i≠1→(iN (B)).n.getD i 0=m.cP i:=fun i R Q=>by
    rw[XE Oh,hb.n i R]
    show(m.h.n.set 1 _).getD i 0=_
    rw[bD Oh];rfl
  have J:(iN (B)).n.getD 1 0=m.b.length-272:=by
    rw[XE Oh,hb.n 1 Oh]
    show(m.h.n.set 1 _).getD 1 0=_
    exact nI (by have:=h.h20;omega)
  have H:=h.hd.hk
  unfold hk at H
  simp only[Prod.mk.injEq]at H
  obtain⟨_,T,_,U⟩:=H
  have F:(iN (B)).bX=if m.c.dS then 4 else 0:=hb.bX.trans T
  have G:(iN (B)).dh=m.c.dh:=hb.dh.trans U
  have D:(iN (B)).state=st:=hb.state
  have Y:=(L.mem h.img.c.fu.zV).le
  have Z:=(L.mem h.img.c.fu.GA).le
  have o:=eO (16+16*m.c.ay)
  have u5:=eO (16+16*m.c.aA)
  simp only at Y Z
  have sl:=h.img.c.fu.slots
  have N:(iN (B)).n.getD 0 0=272:=(A 0 Om Om).trans h.hd.n0
  have V:(iN (B)).n.getD 2 0=288:=(A 2 Om Om).trans h.img.c.fu.n2
  have n3:(iN (B)).n.getD 3 0=16*m.c.ay:=(A 3 Om Om).trans h.hd.n3
  have W:(iN (B)).n.getD 4 0=304+16*m.c.ay:=(A 4 Om Om).trans h.img.c.fu.n4
  have X:(iN (B)).n.getD 5 0=16*m.c.aA:=(A 5 Om Om).trans h.hd.n5
  have E:xZ (iN (B))=(m.b.length,true):=by
    unfold xZ
    rw[N,J,Nat.mod_eq_of_lt Oh,if_neg Oh,show 272+(m.b.length-272)=m.b.length by omega]
  have M:si (iN (B)) (B).length=0:=by
    unfold si
    rw[E,F,D,N,J,V,n3,W,X,hlen]
    have I:¬andNot (if m.c.dS=true then 4 else 0) 4≠0:=by cases m.c.dS <;> decide
    rw[if_neg I,if_neg Oh,if_neg Oh,if_neg Oq]
    have P:∀(p s e:Nat),p%8=0→s≠0→s%16=0→288≤p→p+s≤e→mg (iN (B)) p s e=0:=fun p s e Q d f g k=>by
      unfold mg
      rw[N,if_neg Oh,if_neg Oh,if_neg Oh]
    simp only
    rw[P 288 _ _ Oh Oh Oh Oh Oh,if_neg Oq]
    exact P _ _ _ Oh Oh Oh Oh Oh
  have C:mD (B)=(iN (B),0):=by
    unfold mD
    have K:vK (B) KA=true:=by
      unfold vK
      rw[if_pos (by show 8≤_;omega)]
      exact decide_eq_true hb.sign
    rw[if_neg Oh,if_neg (by rw[K];simp),M,if_neg Oq]
  refine⟨hlen,C,?_,A,F,G,h.img.c.bytes hlen hEff ?_⟩
  · unfold lS
    rw[C]
    simp only
    rw[if_neg Oq,E]
    simp only
    rw[← hlen,List.take_length]
  have:=hb.n 11 Om
  rw[show 88+8*11=176 by rfl]at this
  rw[this]
  exact(bD (l:=m.h.n) (i:=1) (j:=11) (v:=m.b.length-272) Om).trans h.img.n11
theorem opened {m:Mk} {l:List Ob} {es:List gG} {rs:List Rec} {st:Nat} (h:mh m l es rs) (hok:fP.ok m.h) (hst:st≤2):ji m (mG m st) (iN (mG m st)) l es:=by
  obtain⟨A,B,C⟩:=zx h hok hst
  exact ZQ h hst A B C
end Go.Wk
namespace Go.Wk
open Go Go.RowKit
def FV (a b:Rec):Bool:=decide (a.seq=b.seq) && (decide (a.cu=b.cu) && (decide (a.mono=b.mono) && (decide (a.bV=b.bV) && (allIn b.aj a.aj && allIn a.aj b.aj))))
theorem NW {a b:List Pr} (h:∀q,q∈a→q∈b):allIn b a=true:=by
  induction a with
  | nil=>rfl
  | cons p r ih =>
    rw[allIn,if_pos (acf.2 (h p Oq))]
    exact ih fun q A=>h q (by simp[A])
theorem UC {a b:Rec} (h1:a.seq=b.seq) (h2:a.cu=b.cu) (h3:a.mono=b.mono) (h4:a.bV=b.bV) (h5:∀q,q∈a.aj↔q∈b.aj):FV a b=true:=by
  unfold FV
  rw[NW fun q A=>(h5 q).1 A,NW fun q A=>(h5 q).2 A]
  simp[h1,h2,h3,h4]
theorem wW {H:bS} {k:Bool} (h:H.bX=if k then 4 else 0):decide (H.bX &&& 4≠0)=k:=by rw[h];cases k<;>decide
section
variable {m:Mk} {B:Ly} {H:bS} {l:List Ob} {es:List gG} {rs:List Rec}
theorem XH:∀{l:List Ob} {p e:Nat},gd B p l e→(l.map Ob.b9).Pairwise (· < ·)
  | [],_,_,_=>List.Pairwise.nil
  | o :: r,p,e,h=>by
    obtain⟨h1,h2,h3,h4,h5,h6,h7⟩:=h
    have hu:=eO o.size
    rw[List.map_cons]
    refine List.pairwise_cons.2 ⟨fun x hx=>?_,XH h7⟩
    obtain⟨y,hy,rfl⟩:=List.mem_map.1 hx
    have:=(h7.mem hy).ge
    omega
theorem OP {mp:List Nat} {f:Nat→List Nat} (h:mJ m l es mp f):sV m.b (es.map gG.b9):=by
  have A:=h.fu.fH
  refine⟨fun x F=>?_,?_⟩
  · obtain⟨g,E,rfl⟩:=List.mem_map.1 F
    have B:=A.mem (h.ent g E).ob
    have C:=B.ge
    have D:=B.le
    have:=eO (64+16*g.ent.aD.length)
    simp only at C D
    omega
  rw[← h.kin]
  exact((XH A).sublist (List.filter_sublist.map _))
theorem abK (im:mh m l es rs) (op:ji m B H l es):VQ (H.n.getD 0 0) B (H.n.getD 8 0) (H.n.getD 11 0)=(es.map gG.b9,0):=by
  have E:H.n.getD 0 0=272:=(op.n 0 Om Om).trans im.hd.n0
  have F:H.n.getD 8 0=es.length:=(op.n 8 Om Om).trans im.img.n8
  have A:H.n.getD 11 0=m.main.getD 0 0:=(op.n 11 Om Om).trans im.img.n11
  rw[E,F,A]
  obtain⟨c,D,C⟩:=S9 (bY:=es.length) op.img.main op.img.fu.fH (OP op.img)
  rw[List.length_map,Nat.min_self,List.take_of_length_le (by rw[List.length_map];exact Nat.le_refl _)]at D
  rw[D]
  rcases C with⟨rfl,_⟩|⟨_,C⟩
  · rfl
  rw[List.length_map]at C;omega
theorem vu.bytes {m':Mk} {g:gG} (h:vu m g) (hd:m'.ai=m.ai) (hc:m'.c=m.c):vu m' g:=h.ext (by rw[hd];exact pN.refl _) hc
theorem agl (im:mh m l es rs) (op:ji m B H l es) {i:Nat} {x:Nat} {r:Rec} (hx:(es.map gG.b9)[i]? = some x) (hr:rs[i]? = some r) :
    ∃y,nW (decide (H.bX &&& 4≠0)) H.dh (H.n.getD 0 0) B x=(y,0)∧FV y r=true∧y.seq=r.seq∧y.cu=r.cu∧y.mono=r.mono∧y.bV=r.bV∧y.aj.Perm r.aj:=by
  have D:H.n.getD 0 0=272:=(op.n 0 Om Om).trans im.hd.n0
  rw[List.getElem?_map]at hx
  cases hg:es[i]? with
  | none=>rw[hg]at hx;cases hx
  | some g =>
    rw[hg]at hx
    simp only[Option.map_some,Option.some.injEq]at hx
    subst hx
    have A:=List.mem_of_getElem? hg
    have w:vu {m with b:=B} g:=(im.img.who g A).bytes rfl rfl
    have F:NT {m with b:=B} g r:=(im.rcd i g r hg hr).ext (m':={m with b:=B}) (im.img.who g A) (pN.refl _)
    obtain⟨G,E,C⟩:=aiH op.img im.img.txt w A (by have:=im.ok.small;have:=op.len;show B.length<_;omega) F
    rw[wW op.key,op.dh,D]
    exact⟨_,E,UC rfl rfl rfl rfl fun q=>C.mem_iff,rfl,rfl,rfl,rfl,C⟩
theorem xj (im:mh m l es rs) (op:ji m B H l es):H.n.getD 0 0=272:=(op.n 0 Om Om).trans im.hd.n0
def n3 (l:List Ob):Nat:=(l.filter fun o=>decide (o.kind=3)).length
end
end Go.Wk
namespace Go.Wk
open Go Go.RowKit
section
variable {v:eW} {at_ g o:List Nat} {i p last c:Nat} {r:Rec}
end
section
variable {m:Mk} {B:Ly} {H:bS} {l:List Ob} {es:List gG} {rs:List Rec}
end
end Go.Wk
namespace Go.Wk
open Go Go.RowKit
section
variable {m:Mk} {B:Ly} {H:bS} {l:List Ob} {es:List gG} {rs:List Rec}
theorem MP {mp:List Nat} {f:Nat→List Nat} (h:mJ m l es mp f) (i:Nat):sV m.b (places es i):=by
  obtain⟨B,C⟩:=OP h
  have A:(places es i).Sublist (es.map gG.b9):=List.filter_sublist.map _
  exact⟨fun x D=>B x (A.subset D),C.sublist A⟩
theorem ab3 (im:mh m l es rs) (op:ji m B H l es) {o:Ob} (ho:o∈l) (h1:o.kind=1) :
    ∃(i:Nat) (kd:aY),m.ai[i]? = some kd∧kd.b9=o.b9∧vA (decide (H.bX &&& 4≠0)) H.dh (H.n.getD 0 0) B o.b9=(kd.cM,0)∧NR (H.n.getD 0 0) B o.b9=(places es i,0):=by
  obtain⟨kd,D,N⟩:=op.img.fu.all o ho h1
  obtain⟨i,F⟩:=List.mem_iff_getElem?.1 D
  have K:=uK im.img.txt D
  have G:=S6 op.img F K
  have E:=TH op.img F K
  have C:=MP op.img i
  have I:=op.img.dat i kd F
  rw[wW op.key,op.dh,xj im op,← N]
  refine⟨i,kd,F,q,?_,?_⟩
  · unfold vA;rw[show iZ m.c.dS m.c.dh 272 B kd.b9=_ from E];rfl
  cases hps:places es i with
  | nil=>exact EP G Oq (.inl (by rw[hps];rfl))
  | cons p r =>
    have A:=C.get (i:=0) (by rw[hps];simp)
    rw[hps]at G A I C
    simp only[List.getD_cons_zero]at A
    have M:iX B p=false:=by unfold iX;simp only[decide_eq_false_iff_not];exact fun h=>h.elim A.1 (fun h=>by have:=A.2;exact absurd this (by show ¬p<B.length;omega))
    refine(sC G Oq (by simp[OM]) M).trans ?_
    have J:=JI (ps:=p :: r) I.chain op.img.fu.fH C Oq kd.bn.length 0 0 Oh (fun _=>rfl) (fun j O=>by omega) (by simp[nj])
    have L:min (p :: r).length (nj 0+1)=1:=by simp[nj]
    rw[L]at J
    exact J
end
end Go.Wk
namespace Go.Wk
open Go Go.RowKit
section
variable {m:Mk} {B:Ly} {H:bS} {l:List Ob} {es:List gG} {rs:List Rec}
end
end Go.Wk
namespace Go.Wk
open Go Go.RowKit
section
variable {m:Mk} {B:Ly} {H:bS} {l:List Ob} {es:List gG} {rs:List Rec} {jx i:Nat} {kd:aY} {v:UInt8}
end
section
variable {b:Ly} {a c:Nat} {o:List Nat} {f:jm}
end
theorem QC {b:Ly}:∀{l:List Ob} {p e:Nat},gd b p l e→p+l.length≤e
  | [],p,e,h=>by have:p=e:=h;simp;omega
  | x :: r,p,e,h=>by
    have h2:gd b (p+mI x.size) r e:=h.2.2.2.2.2.2
    have:=QC h2
    have hu:=eO x.size
    have h16:=h.2.2.2.1
    simp only[List.length_cons];omega
end Go.Wk
