/- Part 5 of what the walk of a law stands on: VRarr, VRv, VRent, VRhp, VRent7, VRfe, WName, WRSplit, GuardR, VGet, VHead, VHead2. No statement is proved here. -/
import Derived.Test.YtbmmkbejcnalcaaGreatLAI4
import Derived.Test.YtbmmkbejcnalcaaGreatRows
namespace Go.Proofs.YtbmmkbejcnalcaaGreat
open Go Go.Wk Go.RowKit
set_option linter.unusedVariables false
set_option linter.unusedSimpArgs false
attribute [local irreducible] wpList wpQuiet wpStill gw Code.wp Calls bodyPost
variable {w:World} {Q:Nat→Prop}
theorem mJ:fP Zp 178 2=true:=Ym
theorem GP:fO Zp 178=some [(0,1),(1,1)]:=Ym
theorem ED:eO Zp 178=some [.int .u64 0,.slice none 0 0]:=Ym
abbrev pE:fq:={next:=0,ax:=[]}
theorem KF (uQ:Up w Q) {v0:Value} {b:Ly} (h0:Ls eV w Q v0 b) (p:Nat) (a1:p<18446744073709551616) (p0:b.length≤1000000) :
  Calls Zp 144 #[v0,(.int .u64 p)] w fun en w'=>∃u0_0:Value,∃r0:fq,∃r1:Nat,en = .returned (.tuple #[.agg (fq.cells r0 u0_0).toArray,(.int .i64 r1)])∧Md [] w w'∧fq.ok r0∧Ls er w' Q u0_0 r0.ax∧r1<9223372036854775808∧ig b p=(r0,r1):=by
 have L0:=h0.eY;have M:=Md.refl [] w;have Bf:=uQ;have tQ:∀b,Q b→Q b:=fun _ h=>h;have U:∀b,Q b→b<w.heap.size→Q b:=fun _ h _=>h;refine enter (n:=49) Tryz.func144 q q q fun B=>ns (cE ED ?_);intro j w1 Ag Bb G D;obtain⟨Q2,sQ,sT,H,c⟩:=jD uQ Ag Bb G;replace tQ:=tT tQ sT;replace U:=sS sQ U M;replace Ag:=lj M.size Ag;replace h0:=(h0.sub sQ).o G;replace M:=M.k G;replace uQ:=c;clear c sQ sT;have X:cB [] w j:=.inr Ag;replace D:cG _ _ (fq.cells (pE) SN) _:=D;have Bk:fq.ok (pE):=(by exact(by exact(show(pE).next<18446744073709551616 from Zj)));refine an q (ns (m2 q q (ak aaJ q (yg uQ h0 p Jy 6 Jy Jy) ?_)));rintro en w4 ⟨Am,N,Ae,rfl,G,E,Bl,r⟩;refine rv ?_;obtain⟨D,uQ,M⟩:=k3 G D uQ M;refine mv q (se q q (se q q (di q (an q (aH (nm q (st _ (eH (a:=Ae) (b:=0) q q) (nt ?_))))))));refine cL q (fun Aq=>?_) (fun Aq=>?_)
 ·(have V:=dT Aq);refine ns (st _ (bU (us:=[]) (cs:=(fq.cells (pE) SN)) [] ED GP q q trivial trivial q q) (mv q (aA (us:=(fq.cells (pE) SN)) q q (by exact mJ) (by exact fun u hu=>aT (fq.one q) u hu) D (lB q) ?_)));have P:=D;clear D;intro w5 G D;replace M:=M.step G (hI X);clear P;replace D:cG _ _ (fq.cells (pE) SN) _:=D;refine ar q (bf ?_);exact dQ (vs:=[(.agg (fq.cells (pE) SN).toArray),(.int .i64 Ae)]) trivial q ⟨⟨_,q,cF (cs:=(fq.cells (pE) SN)) (by exact mJ) D⟩,q,tV⟩ q ⟨_,(pE),Ae,q,M,Zx,(Ls.nil _ _ _),Zx,(aeo r V)⟩
 (have V:=dF Aq);refine bn (aj (aH (ns ?_)));have rb:=pR r V;refine mv q (sL q fE E.ep (st _ (eD (a:=N.length) (b:=16) q q) (mv q ?_)));refine cQ (t:=23) q (fun O=>?_) (fun O=>?_)
 ·(have Az:=dT O);refine sk O (sk O (sk O (sk O (st _ (bR q O q) (nt (fM q q (ns (st _ (bU (us:=[]) (cs:=(fq.cells (pE) SN)) [] ED GP q q trivial trivial q q) (aA (us:=(fq.cells (pE) SN)) q q (by exact mJ) (by exact fun u hu=>aT (fq.one q) u hu) D (lB q) ?_)))))))));have P:=D;clear D;intro w6 G D;replace M:=M.step G (hI X);clear P;replace D:cG _ _ (fq.cells (pE) SN) _:=D;refine ar q (bf ?_);exact dQ (vs:=[(.agg (fq.cells (pE) SN).toArray),(.int .i64 ((5:Nat):Int))]) trivial q ⟨⟨_,q,cF (cs:=(fq.cells (pE) SN)) (by exact mJ) D⟩,q,tV⟩ q ⟨_,(pE),5,q,M,Zx,(Ls.nil _ _ _),Jy,(aco r V Jy)⟩
 (have Az:=dF O);refine sg O (bg q) (sg O (ji q fE E.ep) (sg O (kI (a:=N.length) (b:=8) q q Jy) (sg O (eH (a:=(N.length%8)) (b:=0) q q) (st _ (bA q O q) (nt ?_)))));refine cL q (fun Ar=>?_) (fun Ar=>?_)
 ·(have A0:=dT Ar);refine ns (st _ (bU (us:=[]) (cs:=(fq.cells (pE) SN)) [] ED GP q q trivial trivial q q) (aA (us:=(fq.cells (pE) SN)) q q (by exact mJ) (by exact fun u hu=>aT (fq.one q) u hu) D (lB q) ?_));have P:=D;clear D;intro w7 G D;replace M:=M.step G (hI X);clear P;replace D:cG _ _ (fq.cells (pE) SN) _:=D;refine ar q (bf ?_);exact dQ (vs:=[(.agg (fq.cells (pE) SN).toArray),(.int .i64 ((5:Nat):Int))]) trivial q ⟨⟨_,q,cF (cs:=(fq.cells (pE) SN)) (by exact mJ) D⟩,q,tV⟩ q ⟨_,(pE),5,q,M,Zx,(Ls.nil _ _ _),Jy,(aco r V Jy)⟩
 (have A0:=dF Ar);refine bn (aj (nm q (ak qL q (jY uQ E 0 Jy Jy) ?_)));rintro en w8 ⟨d,rfl,G,Bm,A8⟩;refine rv ?_;obtain⟨D,E,uQ,M⟩:=k4 G D E uQ M;refine st _ (bU (us:=[[(.int .u64 d)]]) (cs:=(fq.cells (({next:=d,ax:=[]}:fq)) SN)) [(0,0,1)] ED GP q q ⟨q,tV⟩ ⟨q,tV⟩ q q) (cE ED ?_);intro e w9 Ah Bc G F;have A7:j≠e:=(by have:=D.lt;omega);obtain⟨Aw,sQ,sT,J,c⟩:=jD uQ Ah Bc G;replace H:=nQ H sT;replace tQ:=tT tQ sT;replace U:=sS sQ U M;replace Ah:=lj M.size Ah;replace D:=D.o G;replace E:=(E.sub sQ).o G;replace M:=M.k G;replace uQ:=c;clear c sQ sT;have Aa:cB [] w e:=.inr Ah;replace F:cG _ _ (fq.cells (pE) SN) _:=F;have Bd:fq.ok (pE):=(by exact Zx);refine aA (us:=(fq.cells (({next:=d,ax:=[]}:fq)) SN)) q q (by exact mJ) (by exact fun u hu=>aT (fq.one q) u hu) F (lB q) ?_;have g:=F;clear F;intro Bp G F;have l:∀b∈[e],¬Aw b:=(hI J);replace D:=D.md G Nz;replace E:=E.md G l;replace uQ:=uQ.md G;replace M:=M.step G (hI Aa);clear g l;replace F:cG _ _ (fq.cells (({next:=d,ax:=[]}:fq)) SN) _:=F;refine ay ?_
 refine aj (aH (ns (an q (bK ?_))));refine lV (fun(o:fq) (A:Value) (k:Nat)=>[(9,(.int .i64 k)),(4,(.pointer (some ⟨j,0,none⟩))),(5,(.int .i64 ((0:Nat):Int))),(6,Am),(8,(.pointer (some ⟨e,0,none⟩)))]) (fun(o:fq) (A:Value) (k:Nat) w'=>∃Q':Nat→Prop,(∀b,Q' b→Q b)∧(∀b,Q b→b<w.heap.size→Q' b)∧Up w' Q'∧Md [] w w'∧cG w' e (fq.cells o A) 178∧Ow er 36 (cB [] w) w' Q' A o.ax∧fq.ok o∧cG w' j (fq.cells (pE) SN) 178∧Ls eV w' Q' Am N∧¬Q' e∧¬Q' j∧(k%8=0∧8≤k)∧k≤N.length∧o.ax=gg N 8 ((k-8)/8)∧o.next=fJ N 0) (fun(o:fq) (A:Value) (k:Nat)=>N.length-k) (x0:=(({next:=d,ax:=[]}:fq))) (x1:=SN) (x2:=8) ?_ ?_ ?_
 ·exact⟨q,q,q,q,q,tV⟩
 ·exact⟨Aw,tQ,U,uQ,M,F,(by exact Ow.nil _ _ _ _ _),Zx,D,E,J,H,Jy,Jy,q,A8.symm⟩
 clear M uQ tQ U H J h0 D E F
 rintro o A k B A5 ⟨Ap,tQ,U,uQ,M,F,C,Al,D,E,J,H,Bh,Bi,z,Ak⟩;refine aH (ns (m2 q q (sL q fE E.ep (st _ (eD (a:=k) (b:=N.length) q q) (nt ?_)))));refine cL q (fun As=>?_) (fun As=>?_)
 ·(have A1:=dT As);refine bn (aj (aH (bK ?_)));have ol:o.ax.length=(k-8)/8:=(by rw[z,mM]);have L:=C;have f:=F;have Bn:∀b∈(ah A).toList,¬Ap b:=(rN C);refine dB [(0,true),(1,true),(2,true),(3,true),(4,true),(5,false),(6,false)] [7,8,9] (fun w'=>Md (ah A).toList A5 w') dU Ym ?_;intro Bq Z;refine⟨Z.mono Oq,?_⟩;have MC:=Z.mono (T:=(ah A).toList) Oq;have Af:∀b,ah A=some b→b∈(ah A).toList∨A5.heap.size≤b:=fun b K=>Or.inl (by simp[K]);refine mz (fun w' hc=>aP q ot) (mz (fun w' hc=>(aG q gW (f.md hc (aW L f)) q).to (b:=A) q) (mo q (mo q (mz (fun w' hc=>dI (a:=k) 18446744073709551616 q (by rw[u3];rfl) lg q Jy) ?_))));obtain⟨C,F,D,E,uQ,M⟩:=k6 Z C F D E uQ M;refine kG ?_ rfl;refine ak qL q (jY uQ E k Jy Jy) ?_;rintro en Br ⟨S,rfl,G,Be,A2⟩;refine rv ?_;obtain⟨C,F,D,E,uQ,M,MC⟩:=k7 G C F D E uQ M MC;refine ay ⟨q,MC,?_⟩;refine kG ?_ rfl;refine bS [[(.int .u64 S)]] jE iy Kq Kq q q ⟨q,tV⟩ ⟨q,tV⟩ q Kq ?_;intro Bg Bs Ay Bj G v;have A6:=uQ _ Ay;obtain⟨C,F,D,E,uQ,M,MC⟩:=k7 G C F D E uQ M MC;replace v:=Ls.dM (m:=1) (R:=Ap) (T:=er) (xs:=[S]) v ⟨_,_,q,⟨q,Jy⟩,q⟩ q Kq A6
  refine ay ⟨q,MC,?_⟩;refine dX ?_;clear L f;clear MC;refine eN (sz:=1) (by rfl) jE iy q q C v (fun _ h _=>h) uQ (cB.new M) Zj Zj ?_;intro A4 Bt Ax sQ sT c W G l _ Ba;have I:=C;clear C;replace J:=nQ J sT;replace H:=nQ H sT;replace tQ:=tT tQ sT;replace U:=sS sQ U M;replace F:=F.md G (aW I F);replace D:=D.md G (aW I D);replace E:=(E.sub sQ).md G l;replace uQ:=uQ.md G;replace M:=M.dK G (fun b K=>(I.2 b K).1);replace uQ:=c;clear c sQ sT l Ba;refine sf q ot (bE q q gW W.cJ F (lB q) ?_);have g:=F;clear F;intro Bu G F;have l:∀b∈[e],¬Ax b:=(hI J);replace D:=D.md G Nz;replace E:=E.md G l;replace W:=W.md G (aB g W) l;replace uQ:=uQ.md G;replace M:=M.step G (hI Aa);clear g l;obtain⟨Av,Y⟩:∃y,y=({o with ax:=o.ax ++ ([S])}:fq):=⟨_,q⟩;replace F:cG _ _ (fq.cells ({o with ax:=o.ax ++ ([S])}) A4) _:=F;rw[← Y]at F;have Au:fq.ok Av:=(by rw[Y];exact(by unfold fq.ok;exact Al));rw[show o.ax ++ ([S])=Av.ax by rw[Y]]at W;refine ay (cw (aj (aQ (mv q (st _ (rA (a:=k) (b:=8) q q Jy) (an q ?_))))));refine jw (x0:=Av) (x1:=A4) (x2:=(k+8)) Jy ⟨(ew q Jy),q,q,q,q,tV⟩ ⟨Ax,tQ,U,uQ,M,F,W,Au,D,E,J,H,Jy,Jy,(by rw[Y];exact YP z Jy Jy A2),(by rw[Y];exact Ak)⟩
 (have A1:=dF As);refine dw (bW (bW (eu (aj (ns (st _ (cM (fq.cells o A) q (by exact mJ) F q) (aA (us:=(fq.cells o A)) q q (by exact mJ) (by exact fun u hu=>aT (fq.one C.cJ) u hu) D (lB q) ?_)))))));have i:=C;have P:=D;clear D;intro Bv G D;have l:∀b∈[j],¬Ap b:=(hI H);replace i:=i.md G (aB P i) l;replace M:=M.step G (hI X);clear P l;replace D:cG _ _ (fq.cells o A) _:=D;refine ar q ?_;exact dQ (vs:=[(.agg (fq.cells o A).toArray),(.int .i64 ((0:Nat):Int))]) trivial q ⟨⟨_,q,cF (cs:=(fq.cells o A)) (by exact mJ) D⟩,q,tV⟩ q ⟨_,o,0,q,M,Al,(i.ls (fun b K=>tQ b K) (cB.up Bf)),Jy,(aep (k:=k) r V ⟨by omega,by omega⟩ Ak z Jy)⟩
theorem aaI:dJ Zp 143=true:=Ym
theorem ahy:dJ Zp 144=true:=Ym
theorem ahA:dJ Zp 160=true:=Ym
theorem ahN:dJ Zp 65=true:=Ym
theorem sZ:bw Zp 145 0=some 0:=Ym
theorem wB:bw Zp 145 2=some 91:=Ym
theorem HT (uQ:Up w Q) {v0:Value} {v:gJ} (h0:Pt kg 145 w Q v0 v) :
  Calls Zp 65 #[v0] w fun en w'=>∃r0:Nat,en = .returned (.int .u64 r0)∧Md [] w w'∧r0<18446744073709551616∧v.b.length=r0:=by
 obtain⟨D,E,rfl,C,h0,nO⟩:=h0;obtain⟨G,rfl,I,A⟩:=ki nO;have M:=Md.refl [] w;have F:=uQ;refine enter (n:=9) Tryz.func65 q q q fun B=>ns (an q (nm q (sn q (sf q wB (sl (u:=G) q gD h0 q ?_)))));have H:=A.eY;refine sL q fE A.ep (st _ (dI (a:=v.b.length) 18446744073709551616 q (by rw[u3];rfl) lg q Jy) (ar q ?_));exact dV (v:=(.int .u64 v.b.length)) trivial q ⟨q,tV⟩ ⟨v.b.length,q,M,Jy,q⟩
theorem DX (uQ:Up w Q) {v0:Value} {v:gJ} (h0:Pt kg 145 w Q v0 v) (x:Nat) (a1:x<18446744073709551616) :
  Calls Zp 120 #[v0,(.int .u64 x)] w fun en w'=>∃r0:Bool,en = .returned (.bool r0)∧Md [] w w'∧jV v.b x=r0:=by
 obtain⟨H,I,rfl,E,h0,nO⟩:=h0;obtain⟨O,rfl,L,F⟩:=ki nO;have M:=Md.refl [] w;have N:=uQ;refine enter (n:=13) Tryz.func120 q q q fun B=>ns (an q (nm q (st _ (mB (a:=x) (b:=0) q q) (mv q ?_))));refine cQ (t:=7) q (fun A=>?_) (fun A=>?_)
 ·(first|(have C:=dT A)|(have C:=dF (gK A))|(have C:=gK A)|(have C:=A));refine sk A (sk A (sk A (sk A (st _ (bR q A q) (ar q ?_)))));exact dV (v:=(.bool true)) trivial q ⟨q,tV⟩ ⟨true,q,M,(by unfold jV;first|exact decide_eq_true Jy|exact decide_eq_false Jy|exact decide_eq_decide.2 Jy)⟩
 (first|(have C:=dF A)|(have C:=dT (gG A))|(have C:=gG A)|(have C:=A));refine sg A (bg q) (sg A (bg q) (jZ q q q A ahN q (HT uQ ⟨_,_,q,E,h0,iV L F⟩) ?_));rintro en P ⟨D,rfl,K,G,J⟩;refine rv ?_;replace M:=M.k K;refine sg A (yQ (a:=x) (b:=D) q q) (st _ (bA q A q) (ar q ?_));exact dV (v:=(.bool ((decide (D≤x))))) trivial q ⟨q,tV⟩ ⟨(decide (D≤x)),q,M,(by unfold jV;first|exact decide_eq_true Jy|exact decide_eq_false Jy|exact decide_eq_decide.2 Jy)⟩
theorem DW (uQ:Up w Q) {v0:Value} {v:gJ} (h0:Pt kg 145 w Q v0 v) (p:Nat) (a1:p<18446744073709551616) :
  Calls Zp 143 #[v0,(.int .u64 p)] w fun en w'=>∃r0:Nat,en = .returned (.int .i64 r0)∧Md [] w w'∧r0<9223372036854775808∧qw (v.h.n.getD 0 0) v.b p=r0:=by
 obtain⟨K,L,rfl,F,h0,nO⟩:=h0;obtain⟨S,rfl,I,H⟩:=ki nO;have M:=Md.refl [] w;have P:=uQ;refine enter (n:=19) Tryz.func143 q q q fun B=>ns (an q (aH (ns (m2 q q (sn q (sf q sZ (sf q dA (st _ ((bZ (i:=0) 1 q q mN eA Kq)) (sl (u:=(.int .u64 ((v.h.n.getD 0 0:Nat):Int))) q bQ h0 q ?_)))))))));have R:v.h.n.getD 0 0<18446744073709551616:=(eS I.1.2.2.2.2.2.2.2.1 0);refine st _ (eD (a:=p) (b:=(v.h.n.getD 0 0)) q q) (mv q ?_);refine cQ (t:=13) q (fun A=>?_) (fun A=>?_)
 ·(have D:=dT A);refine sk A (sk A (sk A (sk A (st _ (bR q A q) (nt (fM q q (ns (ar q (bf ?_)))))))));exact dV (v:=(.int .i64 ((2:Nat):Int))) trivial q ⟨q,tV⟩ ⟨2,q,M,Jy,(by unfold qw;rw[if_pos Jy])⟩
 (have D:=dF A);refine sg A (bg q) (sg A (bg q) (jZ q q q A ahN q (HT uQ ⟨_,_,q,F,h0,iV I H⟩) ?_));rintro en T ⟨G,rfl,O,J,N⟩;refine rv ?_;replace M:=M.k O;refine sg A (yQ (a:=p) (b:=G) q q) (st _ (bA q A q) (nt ?_));refine cL q (fun C=>?_) (fun C=>?_)
 ·(have E:=dT C);refine ns (ar q (bf ?_));exact dV (v:=(.int .i64 ((2:Nat):Int))) trivial q ⟨q,tV⟩ ⟨2,q,M,Jy,(by unfold qw;rw[if_pos Jy])⟩
 (have E:=dF C);refine bn (aj (ns (ar q ?_)));exact dV (v:=(.int .i64 ((0:Nat):Int))) trivial q ⟨q,tV⟩ ⟨0,q,M,Jy,(by unfold qw;rw[if_neg Jy])⟩
theorem RZ (uQ:Up w Q) {v0:Value} {v:gJ} (h0:Pt kg 145 w Q v0 v) (p:Nat) (a1:p<18446744073709551616) (p0:v.b.length≤140737488355328) :
  Calls Zp 157 #[v0,(.int .u64 p)] w fun en w'=>∃u0_0:Value,∃r0:gq,∃r1:Nat,en = .returned (.tuple #[.agg (gq.cells r0 u0_0).toArray,(.int .i64 r1)])∧Md [] w w'∧gq.ok r0∧Ls eV w' Q u0_0 r0.aR∧r1<9223372036854775808∧kO (v.h.n.getD 0 0) v.b p=(r0,r1):=by
 obtain⟨X,r,rfl,J,h0,nO⟩:=h0;obtain⟨y,rfl,t,F⟩:=ki nO;have M:=Md.refl [] w;have x:=uQ;have f:∀b,Q b→Q b:=fun _ h=>h;refine enter (n:=22) Tryz.func157 q q q fun B=>ns (cE z173 ?_);intro R w4 N d E A;have Y:X≠R:=(by have:=h0.lt;omega);obtain⟨o,e,l,T,W⟩:=jD uQ N d E;replace J:=e _ J h0.lt;replace f:=tT f l;replace N:=lj M.size N;replace F:=(F.sub e).o E;obtain⟨h0,M⟩:=k2 E h0 M;replace uQ:=W;clear W e l;have K:cB [] w R:=.inr N;replace A:cG _ _ (gq.cells (qF) SN) _:=A;have i:gq.ok (qF):=(by exact⟨Kq,Kq,Kq,Kq,Kq,Kq⟩);refine an q (aH (ns (m2 q q (ak aaI q (DW uQ ⟨_,_,q,J,h0,iV t F⟩ p Jy) ?_))));rintro en w7 ⟨L,rfl,E,j,V⟩;refine rv ?_;obtain⟨F,h0,A,uQ,M⟩:=k5 E F h0 A uQ M;refine an q (nm q (st _ (eH (a:=L) (b:=0) q q) (nt ?_)));refine cL q (fun S=>?_) (fun S=>?_)
 ·(have H:=dT S);refine ns (st _ (bU (us:=[]) (cs:=(gq.cells (qF) SN)) [] z173 NM q q trivial trivial q q) (mv q (aA (us:=(gq.cells (qF) SN)) q q (by exact pH) (by exact fun u c=>aT (gq.one q) u c) A (lB q) ?_)));have I:=A;clear A;intro w8 E A;replace M:=M.step E (hI K);clear I;replace A:cG _ _ (gq.cells (qF) SN) _:=A;refine ar q (bf ?_);exact dQ (vs:=[(.agg (gq.cells (qF) SN).toArray),(.int .i64 L)]) trivial q ⟨⟨_,q,cF (cs:=(gq.cells (qF) SN)) (by exact pH) A⟩,q,tV⟩ q ⟨_,(qF),L,q,M,Zx,(Ls.nil _ _ _),Zx,(afG (aau V H) H)⟩
 (have H:=dF S);refine bn (aj (nm q (sn q (sf q wB (sl (u:=y) q gD h0 q (mv q (ak ahA q (EL uQ F p Jy Jy) ?_)))))));rintro en w9 ⟨D,G,P,rfl,E,O,C,k,Z⟩;refine rv ?_;obtain⟨A,M⟩:=k2 E A M;refine se q q (se q q (aA (us:=(gq.cells G D)) q q (by exact pH) (by exact fun u c=>aT (gq.one C.cJ) u c) A (lB q) ?_));have I:=A;clear A;intro z E A;have g:∀b∈[R],¬o b:=(hI T);replace C:=C.md E g;replace M:=M.step E (hI K);clear I g;replace A:cG _ _ (gq.cells G D) _:=A;refine ar q ?_;exact dQ (vs:=[(.agg (gq.cells G D).toArray),(.int .i64 P)]) trivial q ⟨⟨_,q,cF (cs:=(gq.cells G D)) (by exact pH) A⟩,q,tV⟩ q ⟨_,G,P,q,M,O,(C.sub (fun b U _=>f b U)),Zx,(PG (by rw[V];omega) Z)⟩
theorem OD (uQ:Up w Q) {v0:Value} {v:gJ} (h0:Pt kg 145 w Q v0 v) (p:Nat) (a1:p<18446744073709551616) (p0:v.b.length≤1000000) :
  Calls Zp 121 #[v0,(.int .u64 p)] w fun en w'=>∃u0_0:Value,∃r0:fq,∃r1:Nat,en = .returned (.tuple #[.agg (fq.cells r0 u0_0).toArray,(.int .i64 r1)])∧Md [] w w'∧fq.ok r0∧Ls er w' Q u0_0 r0.ax∧r1<9223372036854775808∧iO (v.h.n.getD 0 0) v.b p=(r0,r1):=by
 obtain⟨X,r,rfl,J,h0,nO⟩:=h0;obtain⟨y,rfl,t,F⟩:=ki nO;have M:=Md.refl [] w;have x:=uQ;have f:∀b,Q b→Q b:=fun _ h=>h;refine enter (n:=22) Tryz.func121 q q q fun B=>ns (cE ED ?_);intro R w4 N d E A;have Y:X≠R:=(by have:=h0.lt;omega);obtain⟨o,e,l,T,W⟩:=jD uQ N d E;replace J:=e _ J h0.lt;replace f:=tT f l;replace N:=lj M.size N;replace F:=(F.sub e).o E;obtain⟨h0,M⟩:=k2 E h0 M;replace uQ:=W;clear W e l;have K:cB [] w R:=.inr N;replace A:cG _ _ (fq.cells (pE) SN) _:=A;have i:fq.ok (pE):=(by exact(by exact(show(pE).next<18446744073709551616 from Zj)));refine an q (aH (ns (m2 q q (ak aaI q (DW uQ ⟨_,_,q,J,h0,iV t F⟩ p Jy) ?_))));rintro en w7 ⟨L,rfl,E,j,V⟩;refine rv ?_;obtain⟨F,h0,A,uQ,M⟩:=k5 E F h0 A uQ M;refine an q (nm q (st _ (eH (a:=L) (b:=0) q q) (nt ?_)));refine cL q (fun S=>?_) (fun S=>?_)
 ·(have H:=dT S);refine ns (st _ (bU (us:=[]) (cs:=(fq.cells (pE) SN)) [] ED GP q q trivial trivial q q) (mv q (aA (us:=(fq.cells (pE) SN)) q q (by exact mJ) (by exact fun u c=>aT (fq.one q) u c) A (lB q) ?_)));have I:=A;clear A;intro w8 E A;replace M:=M.step E (hI K);clear I;replace A:cG _ _ (fq.cells (pE) SN) _:=A;refine ar q (bf ?_);exact dQ (vs:=[(.agg (fq.cells (pE) SN).toArray),(.int .i64 L)]) trivial q ⟨⟨_,q,cF (cs:=(fq.cells (pE) SN)) (by exact mJ) A⟩,q,tV⟩ q ⟨_,(pE),L,q,M,Zx,(Ls.nil _ _ _),Zx,(aaj (aai V H) H)⟩
 (have H:=dF S);refine bn (aj (nm q (sn q (sf q wB (sl (u:=y) q gD h0 q (mv q (ak ahy q (KF uQ F p Jy Jy) ?_)))))));rintro en w9 ⟨D,G,P,rfl,E,O,C,k,Z⟩;refine rv ?_;obtain⟨A,M⟩:=k2 E A M;refine se q q (se q q (aA (us:=(fq.cells G D)) q q (by exact mJ) (by exact fun u c=>aT (fq.one C.cJ) u c) A (lB q) ?_));have I:=A;clear A;intro z E A;have g:∀b∈[R],¬o b:=(hI T);replace C:=C.md E g;replace M:=M.step E (hI K);clear I g;replace A:cG _ _ (fq.cells G D) _:=A;refine ar q ?_;exact dQ (vs:=[(.agg (fq.cells G D).toArray),(.int .i64 P)]) trivial q ⟨⟨_,q,cF (cs:=(fq.cells G D)) (by exact mJ) A⟩,q,tV⟩ q ⟨_,G,P,q,M,O,(C.sub (fun b U _=>f b U)),Zx,(sI (by rw[V];omega) Z)⟩
theorem afo:dJ Zp 120=true:=Ym
theorem ahl:dJ Zp 121=true:=Ym
set_option maxRecDepth 100000 in
set_option maxHeartbeats 4000000 in
theorem KE (uQ:Up w Q) {v0:Value} {v:gJ} (h0:Pt kg 145 w Q v0 v) (p0:v.b.length≤1000000) :
  Calls Zp 92 #[v0] w fun en w'=>∃u0:Value,∃r0:List Nat,∃r1:Nat,en = .returned (.tuple #[u0,(.int .i64 r1)])∧Md [] w w'∧Ls er w' Q u0 r0∧r1<9223372036854775808∧jS (v.h.n.getD 0 0) v.b (v.h.n.getD 8 0) (v.h.n.getD 11 0)=(r0,r1):=by
 obtain⟨Ah,Cw,rfl,J,h0,nO⟩:=h0;obtain⟨v1,rfl,q2,C⟩:=ki nO;have M:=Md.refl [] w;have A8:=uQ;have tQ:∀b,Q b→Q b:=fun _ h=>h;have Z:∀b,Q b→b<w.heap.size→Q b:=fun _ h _=>h;refine enter (n:=98) Tryz.func92 q q q fun B=>ns (di q (an q (ns (di q (nt (nm q (sn q (sf q sZ (sf q dA (st _ ((bZ (i:=8) 1 q q mN eA Kq)) (sl (u:=(.int .u64 ((v.h.n.getD 8 0:Nat):Int))) q bQ h0 q ?_)))))))))));have q4:v.h.n.getD 8 0<18446744073709551616:=(eS q2.1.2.2.2.2.2.2.2.1 8);refine an q (nm q (sn q (sf q sZ (sf q dA (st _ ((bZ (i:=11) 1 q q mN eA Kq)) (sl (u:=(.int .u64 ((v.h.n.getD 11 0:Nat):Int))) q bQ h0 q ?_))))));have q5:v.h.n.getD 11 0<18446744073709551616:=(eS q2.1.2.2.2.2.2.2.2.1 11);refine di q (an q (aH (bK ?_)));obtain⟨r0,Bb⟩:∃r,me (v.h.n.getD 0 0) v.b (v.h.n.getD 8 0) (v.h.n.getD 11 0) 0 ([]:List Nat)=r:=⟨_,q⟩;have Ab:=Bb
 try simp only[List.nil_append]at Bb
 refine UC (fun(d:Value) (W:List Nat) (p:Nat) (a:Nat)=>[(4,d),(6,(.int .u64 p)),(7,(.int .u64 a)),(0,(.pointer (some ⟨Ah,0,none⟩))),(5,(.int .u64 ((v.h.n.getD 8 0:Nat):Int)))]) (fun(d:Value) (W:List Nat) (p:Nat) (a:Nat) w'=>∃Q':Nat→Prop,(∀b,Q' b→Q b)∧(∀b,Q b→b<w.heap.size→Q' b)∧Up w' Q'∧Md [] w w'∧Ow er 36 (cB [] w) w' Q' d W∧cG w' Ah (gJ.cells v v1) 145∧Ls eV w' Q' v1 v.b∧Q' Ah∧sG v.b W∧W.length≤(v.h.n.getD 8 0)∧p<18446744073709551616∧me (v.h.n.getD 0 0) v.b (v.h.n.getD 8 0) p a W=r0) (fun(d:Value) (W:List Nat) (p:Nat) (a:Nat)=>v.b.length-a) (x0:=SN) (x1:=([]:List Nat)) (x2:=(v.h.n.getD 11 0)) (x3:=0) ?_ ?_ ?_
 ·exact⟨q,q,q,q,q,tV⟩
 ·exact⟨Q,tQ,Z,uQ,M,(Ow.nil _ _ _ _ _),h0,C,J,(DU _),(Nat.zero_le _),(by first|assumption|omega),(by have hh:=Bb;first|exact hh|exact Ab|(simp only[List.nil_append]at hh;exact hh))⟩
 clear M uQ tQ Z J C h0
 rintro d W p a B w6 ⟨Q7,tQ,Z,uQ,M,E,h0,C,J,B0,B2,Co,As⟩;refine aH (nm q (sL q jE E.ep (st _ (dI (a:=W.length) 18446744073709551616 q (by rw[u3];rfl) lg q Jy) (mv q (st _ (eD (a:=W.length) (b:=(v.h.n.getD 8 0)) q q) (nt ?_))))));refine cL q (fun Aj=>?_) (fun Aj=>?_)
 ·(first|(have N:=dT Aj)|(have N:=dF (gK Aj))|(have N:=gK Aj)|(have N:=Aj));refine bn (aj (bK (aH (ns (m2 q q (ak afo q (DX uQ ⟨_,_,q,J,h0,iV q2 C⟩ p Zm) ?_))))));rintro en w8 ⟨B5,rfl,I,z⟩;refine rv ?_;obtain⟨E,h0,C,uQ,M⟩:=k5 I E h0 C uQ M;refine nt ?_;refine cL q (fun Ak=>?_) (fun Ak=>?_)
  ·(first|(have L:=dT Ak)|(have L:=dF (gK Ak))|(have L:=gK Ak)|(have L:=Ak));refine nm q (di q (ar q (bf (bV (bf (bV (bf ?_)))))));exact dQ (vs:=[d,(.int .i64 ((14:Nat):Int))]) trivial q ⟨q,q,tV⟩ q ⟨_,W,14,q,M,(E.ls (fun b c=>tQ b c) (cB.up A8)),Vk,(Ab.trans (As.symm.trans (TL N (z.trans L))))⟩
  (first|(have L:=dF Ak)|(have L:=dT (gG Ak))|(have L:=gG Ak)|(have L:=Ak));refine bn (aj (aH (ns (m2 q q (st _ (tr (a:=p) (b:=a) q q) (nt ?_))))));refine cL q (fun Al=>?_) (fun Al=>?_)
  ·(first|(have S:=dT Al)|(have S:=dF (gK Al))|(have S:=gK Al)|(have S:=Al));refine nm q (di q (ar q (bf (bV (bf (bV (bf ?_)))))));exact dQ (vs:=[d,(.int .i64 ((12:Nat):Int))]) trivial q ⟨q,q,tV⟩ q ⟨_,W,12,q,M,(E.ls (fun b c=>tQ b c) (cB.up A8)),Vk,(Ab.trans (As.symm.trans (ad7 N (z.trans L) S)))⟩
  (first|(have S:=dF Al)|(have S:=dT (gG Al))|(have S:=gG Al)|(have S:=Al));refine bn (aj (ns (m2 q q (ak ahl q (OD uQ ⟨_,_,q,J,h0,iV q2 C⟩ p Zm Nx) ?_))));rintro en w9 ⟨F,K,Ac,rfl,I,A5,A,Cq,Ax⟩;refine rv ?_;obtain⟨E,h0,C,uQ,M⟩:=k5 I E h0 C uQ M;refine mv q (se q q (se q q (cE ED ?_)));intro A6 C1 Bi Cg I G;have B9:Ah≠A6:=(by have:=h0.lt;omega);obtain⟨Bp,sQ,sT,P,Aw⟩:=jD uQ Bi Cg I;replace J:=sQ _ J h0.lt;replace tQ:=tT tQ sT;replace Z:=sS sQ Z M;replace Bi:=lj M.size Bi;replace E:=(E.sub sQ sT).o I;replace h0:=h0.o I;replace C:=(C.sub sQ).o I;replace A:=(A.sub sQ).o I;replace M:=M.k I;replace uQ:=Aw;clear Aw sQ sT;have Bn:cB [] w A6:=.inr Bi;replace G:cG _ _ (fq.cells (pE) SN) _:=G;have Ch:fq.ok (pE):=(by first|exact Kq|exact(by first|assumption|exact(show(pE).next<18446744073709551616 from Mh)));refine aA (us:=(fq.cells K F)) q q (by exact mJ) (by first|exact fun u hu=>aT (fq.one A.cJ) u hu|exact fun u hu=>aT q u hu) G (lB q) ?_;have Bj:=G;clear G;intro C2 I G;have hS:∀b∈[A6],¬Bp b:=(hI P);replace E:=E.md I (aB Bj E) hS;replace h0:=h0.md I Nz;replace C:=C.md I hS;replace A:=A.md I hS;replace uQ:=uQ.md I;replace M:=M.step I (hI Bn);clear Bj hS;replace G:cG _ _ (fq.cells K F) _:=G
  refine an q (aH (nm q (st _ (eH (a:=Ac) (b:=0) q q) (nt ?_))));refine cL q (fun Am=>?_) (fun Am=>?_)
  ·(first|(have V:=dT Am)|(have V:=dF (gK Am))|(have V:=gK Am)|(have V:=Am));refine ns (m2 q q (di q (ar q (bf (bV (bf (bV (bf ?_))))))));exact dQ (vs:=[d,(.int .i64 Ac)]) trivial q ⟨q,q,tV⟩ q ⟨_,W,Ac,q,M,(E.ls (fun b c=>tQ b c) (cB.up A8)),Vk,(Ab.trans (As.symm.trans (afK N (z.trans L) S Ax V)))⟩
  (first|(have V:=dF Am)|(have V:=dT (gG Am))|(have V:=gG Am)|(have V:=Am));refine bn (aj (aH (ns (an q (bK ?_)))));have il:=A.eY;obtain⟨r1,Bc⟩:∃r,jf v.b (v.h.n.getD 8 0) (K.ax.drop 0) W=r:=⟨_,q⟩;have Au:=Bc
  try simp only[List.nil_append,z,Ax]at Bc
  refine lV (fun(Af:Value) (o:List Nat) (i:Nat)=>[(4,Af),(10,(.int .i64 i)),(0,(.pointer (some ⟨Ah,0,none⟩))),(5,(.int .u64 ((v.h.n.getD 8 0:Nat):Int))),(6,(.int .u64 p)),(7,(.int .u64 a)),(8,(.pointer (some ⟨A6,0,none⟩))),(9,(.int .i64 Ac)),(24,(.int .i64 W.length)),(25,(.int .u64 W.length)),(26,(.int .u64 ((v.h.n.getD 8 0:Nat):Int))),(27,(.bool ((decide (W.length<(v.h.n.getD 8 0)))))),(28,(.pointer (some ⟨Ah,0,none⟩))),(29,(.int .u64 p)),(30,(.bool B5)),(32,(.int .u64 p)),(33,(.int .u64 a)),(34,(.bool ((decide (p≤a))))),(37,(.pointer (some ⟨Ah,0,none⟩))),(38,(.int .u64 p)),(40,(.agg (fq.cells K F).toArray)),(41,(.int .i64 Ac)),(42,(.int .i64 Ac)),(43,(.bool ((decide (Ac≠0)))))]) (fun(Af:Value) (o:List Nat) (i:Nat) w'=>∃Q':Nat→Prop,(∀b,Q' b→Q b)∧(∀b,Q b→b<w.heap.size→Q' b)∧Up w' Q'∧Md [] w w'∧Ow er 36 (cB [] w) w' Q' Af o∧cG w' Ah (gJ.cells v v1) 145∧cG w' A6 (fq.cells K F) 178∧Ls er w' Q' F K.ax∧Ls eV w' Q' v1 v.b∧Q' Ah∧¬Q' A6∧sG v.b o∧o.length≤(v.h.n.getD 8 0)∧i≤K.ax.length∧jf v.b (v.h.n.getD 8 0) (K.ax.drop i) o=r1) (fun(Af:Value) (o:List Nat) (i:Nat)=>K.ax.length-i) (x0:=d) (x1:=W) (x2:=0) ?_ ?_ ?_
  ·exact⟨q,q,q,q,q,q,q,q,q,q,q,q,q,q,q,q,q,q,q,q,q,q,q,q,tV⟩
  ·exact⟨Bp,tQ,Z,uQ,M,E,h0,G,A,C,J,P,B0,B2,Jy,(by have hh:=Bc;first|exact hh|exact Au|(simp only[List.nil_append,z,Ax]at hh;exact hh))⟩
  clear M uQ tQ Z J P E h0 C A G
  rintro Af o i B C3 ⟨Bh,tQ,Z,uQ,M,D,h0,G,A,C,J,P,Av,Bl,Cp,A7⟩;refine aH (nm q (sf q ot (sl (u:=F) q gW G q (sL q jE A.ep (st _ (eD (a:=i) (b:=K.ax.length) q q) (mv q ?_))))));refine cQ (t:=51) q (fun O=>?_) (fun O=>?_)
  ·(first|(have j:=dT O)|(have j:=dF (gK O))|(have j:=gK O)|(have j:=O));refine sg O (bg q) (sg O (ji q jE D.ep) (sg O (dI (a:=o.length) 18446744073709551616 q (by rw[u3];rfl) lg q Jy) (sg O (bg q) (sg O (eD (a:=o.length) (b:=(v.h.n.getD 8 0)) q q) (st _ (bR q O q) (nt ?_))))));refine cL q (fun Ao=>?_) (fun Ao=>?_)
   ·(first|(have x:=dT Ao)|(have x:=dF (gK Ao))|(have x:=gK Ao)|(have x:=Ao));refine bn (aj (aH (bK (aH (nm q (sf q ot (sl (u:=F) q gW G q (mv q (st _ (bX (i:=i) 1 q q jE eA A.ep Jy) ?_)))))))));obtain⟨X,k⟩:=eP (l:=K.ax) (i:=i) Zm;obtain⟨Cr,Bt,A0⟩:=A.get k;obtain⟨rfl,Ca⟩:=Bt;replace A0:At _ F (i*1) [(.int .u64 X)]:=A0;refine st _ ((dh (kk:=i*1) 0 q q bQ A0 q).to (b:=(.int .u64 X)) q) (ak afo q (DX uQ ⟨_,_,q,J,h0,iV q2 C⟩ X Zm) ?_);rintro en Cl ⟨Cm,rfl,I,Ag⟩;refine rv ?_;obtain⟨D,h0,G,A,C,uQ,M⟩:=k7 I D h0 G A C uQ M;refine ay ?_;clear A0;refine aj ?_;refine cL q (fun Ap=>?_) (fun Ap=>?_)
    ·(first|(have U:=dT Ap)|(have U:=dF (gK Ap))|(have U:=gK Ap)|(have U:=Ap));refine nm q (di q (ar q (bf (bV (bf (bf (bV (bf (bV (bf ?_))))))))));refine bV (bf ?_);exact dQ (vs:=[Af,(.int .i64 ((2:Nat):Int))]) trivial q ⟨q,q,tV⟩ q ⟨_,o,2,q,M,(D.ls (fun b c=>tQ b c) (cB.up A8)),Vk,(Ab.trans (TN As N (z.trans L) S Ax V Au A7 (aa3 k Jy (Ag.trans U)) Kq))⟩
    (first|(have U:=dF Ap)|(have U:=dT (gG Ap))|(have U:=gG Ap)|(have U:=Ap));refine bn (aj (aH (aH ?_)));have ob:=DT Av;have Ai:=D;have Ay:=G;have g:=A;refine dB (ml 15) [15,16] (fun w'=>Md [] Cl w') dU Ym ?_;intro C4 Y;refine⟨Y.mono Oq,?_⟩;have MC:=Y.mono (T:=[]) Oq;refine mo q (mz (fun w' hc=>ji q jE D.ep) (mz (fun w' hc=>iF (a:=o.length) (b:=0) q q) (mo q ?_)));refine yc (t:=71) q (fun H=>?_) (fun H=>?_)
    ·(first|(have y:=dT H)|(have y:=dF (gK H))|(have y:=gK H)|(have y:=H));refine Go.Wk.lW _ q q q H (fun w' hc=>aP q ot) (Go.Wk.lW _ q q q H (fun w' hc=>(aG q gW (Ay.o hc) q).to (b:=F) q) (Go.Wk.lW _ q q q H (fun w' hc=>bg q) (Go.Wk.lW _ q q q H (fun w' hc=>bX (i:=i) 1 q q jE eA A.ep Jy) ?_)));obtain⟨Cs,Bu,A1⟩:=g.get k;obtain⟨rfl,Cb⟩:=Bu;replace A1:At _ F (i*1) [(.int .u64 X)]:=A1;refine Go.Wk.lW _ q q q H (fun w' hc=>(dh (kk:=i*1) 0 q q bQ (A1.o hc) q).to (b:=(.int .u64 X)) q) (Go.Wk.lW _ q q q H (fun w' hc=>bg q) (Go.Wk.lW _ q q q H (fun w' hc=>bg q) (Go.Wk.lW _ q q q H (fun w' hc=>ji q jE D.ep) (Go.Wk.lW _ q q q H (fun w' hc=>rS (a:=o.length) (b:=1) q q Jy) (Go.Wk.lW _ q q q H (fun w' hc=>bX (i:=o.length-1) 1 q q jE eA D.ep Jy) ?_)))));obtain⟨Bo,Bd⟩:=eP (l:=o) (i:=o.length-1) Zm;obtain⟨Ct,Bv,A2⟩:=Ai.get Bd;obtain⟨rfl,Cc⟩:=Bv;replace A2:At _ Af ((o.length-1)*1) [(.int .u64 Bo)]:=A2;refine Go.Wk.lW _ q q q H (fun w' hc=>(dh (kk:=(o.length-1)*1) 0 q q bQ (A2.o hc) q).to (b:=(.int .u64 Bo)) q) (dX ?_);obtain⟨D,h0,G,A,C,uQ,M⟩:=k7 Y D h0 G A C uQ M;clear g Ay Ai;clear MC;refine sg H (tr (a:=X) (b:=Bo) q q) (st _ (bR q H q) (ay ?_));clear A1;clear A2;refine aj ?_;refine cL q (fun Aq=>?_) (fun Aq=>?_)
     ·(first|(have f:=dT Aq)|(have f:=dF (gK Aq))|(have f:=gK Aq)|(have f:=Aq));refine nm q (di q (ar q (bf (bV (bf (bf (bV (bf (bV (bf ?_))))))))));refine bV (bf ?_);exact dQ (vs:=[Af,(.int .i64 ((13:Nat):Int))]) trivial q ⟨q,q,tV⟩ q ⟨_,o,13,q,M,(D.ls (fun b c=>tQ b c) (cB.up A8)),Vk,(Ab.trans (TN As N (z.trans L) S Ax V Au A7 (aa2 k Jy (Ag.trans U) (TW Bd f)) Kq))⟩
     (first|(have f:=dF Aq)|(have f:=dT (gG Aq))|(have f:=gG Aq)|(have f:=Aq));refine bn (aj (aQ ?_));have Be:mQ o X=0:=(abe Bd f);have rs:=VL Av (Ag.trans U) Be;refine mv q (sf q ot (sl (u:=F) q gW G q (mv q (st _ (bX (i:=i) 1 q q jE eA A.ep Jy) ?_))));obtain⟨Cu,Bw,A3⟩:=A.get k;obtain⟨rfl,Cd⟩:=Bw;replace A3:At _ F (i*1) [(.int .u64 X)]:=A3;refine st _ ((dh (kk:=i*1) 0 q q bQ A3 q).to (b:=(.int .u64 X)) q) (bS [[(.int .u64 X)]] jE iy Kq Kq q q ⟨q,tV⟩ ⟨q,tV⟩ q Kq ?_);intro Bq C5 Ba B3 I Aa;have Bg:=uQ _ Ba;obtain⟨D,h0,G,A,C,uQ,M⟩:=k7 I D h0 G A C uQ M;replace Aa:=Ls.dM (m:=1) (R:=Bh) (T:=er) (xs:=[X]) Aa ⟨_,_,q,⟨q,Jy⟩,q⟩ q Kq Bg;refine eN (sz:=1) (by rfl) jE iy q q D Aa (fun _ h _=>h) uQ (cB.new M) Nx Nx ?_;intro Cj C6 B7 sQ sT Aw Br I hS _ Bm;have e:=D;clear D;replace J:=sQ _ J h0.lt;replace P:=nQ P sT;replace tQ:=tT tQ sT;replace Z:=sS sQ Z M;replace h0:=h0.md I (aW e h0);replace G:=G.md I (aW e G);replace A:=(A.sub sQ).md I hS;replace C:=(C.sub sQ).md I hS;clear A3;replace uQ:=uQ.md I;replace M:=M.dK I (fun b c=>(e.2 b c).1);replace uQ:=Aw;clear Aw sQ sT hS Bm;refine di q (ay (cw (aj (aQ (mv q (st _ (rA (a:=i) (b:=1) q q Jy) ?_))))))
     refine an q ?_;refine jw (x0:=Cj) (x1:=(o ++ ([X]))) (x2:=(i+1)) Jy ⟨q,(ew q Jy),q,q,q,q,q,q,q,q,q,q,q,q,q,q,q,q,q,q,q,q,q,q,tV⟩ ⟨B7,tQ,Z,uQ,M,Br,h0,G,A,C,J,P,rs,(by rw[List.length_append,List.length_singleton];omega),Jy,(by have hh:=A7;rw[TK k Jy (Ag.trans U) Be]at hh;exact hh)⟩
    (first|(have y:=dF H)|(have y:=dT (gG H))|(have y:=gG H)|(have y:=H));refine dW q q q H (dW q q q H (dW q q q H (dW q q q H (dW q q q H (dW q q q H (dW q q q H (dW q q q H (dW q q q H (dW q q q H (dW q q q H (dX ?_)))))))))));obtain⟨D,h0,G,A,C,uQ,M⟩:=k7 Y D h0 G A C uQ M;clear g Ay Ai;clear MC;refine sk H (st _ (bA q H q) (nt (iI q q (bn (aj (aQ ?_))))));have Be:mQ o X=0:=(abf Jy);have rs:=VL Av (Ag.trans U) Be;refine mv q (sf q ot (sl (u:=F) q gW G q (mv q (st _ (bX (i:=i) 1 q q jE eA A.ep Jy) ?_))));obtain⟨Cv,Bx,A4⟩:=A.get k;obtain⟨rfl,Ce⟩:=Bx;replace A4:At _ F (i*1) [(.int .u64 X)]:=A4;refine st _ ((dh (kk:=i*1) 0 q q bQ A4 q).to (b:=(.int .u64 X)) q) (bS [[(.int .u64 X)]] jE iy Kq Kq q q ⟨q,tV⟩ ⟨q,tV⟩ q Kq ?_);intro Bq C9 Ba B3 I Aa;have Bg:=uQ _ Ba;obtain⟨D,h0,G,A,C,uQ,M⟩:=k7 I D h0 G A C uQ M;replace Aa:=Ls.dM (m:=1) (R:=Bh) (T:=er) (xs:=[X]) Aa ⟨_,_,q,⟨q,Jy⟩,q⟩ q Kq Bg;refine eN (sz:=1) (by rfl) jE iy q q D Aa (fun _ h _=>h) uQ (cB.new M) Nx Nx ?_;intro Ck Da B8 sQ sT Aw Bs I hS _ Bm;have e:=D;clear D;replace J:=sQ _ J h0.lt;replace P:=nQ P sT
    replace tQ:=tT tQ sT;replace Z:=sS sQ Z M;replace h0:=h0.md I (aW e h0);replace G:=G.md I (aW e G);replace A:=(A.sub sQ).md I hS;replace C:=(C.sub sQ).md I hS;clear A4;replace uQ:=uQ.md I;replace M:=M.dK I (fun b c=>(e.2 b c).1);replace uQ:=Aw;clear Aw sQ sT hS Bm;refine di q (ay (cw (aj (aQ (mv q (st _ (rA (a:=i) (b:=1) q q Jy) (an q ?_)))))));refine jw (x0:=Ck) (x1:=(o ++ ([X]))) (x2:=(i+1)) Jy ⟨q,(ew q Jy),q,q,q,q,q,q,q,q,q,q,q,q,q,q,q,q,q,q,q,q,q,q,tV⟩ ⟨B8,tQ,Z,uQ,M,Bs,h0,G,A,C,J,P,rs,(by rw[List.length_append,List.length_singleton];omega),Jy,(by have hh:=A7;rw[TK k Jy (Ag.trans U) Be]at hh;exact hh)⟩
   (first|(have x:=dF Ao)|(have x:=dT (gG Ao))|(have x:=gG Ao)|(have x:=Ao));refine dw (bW (bW (eu (aj (aQ (sf q CV (sl (u:=(.int .u64 K.next)) q bQ G q ?_)))))));have Cy:K.next<18446744073709551616:=A5;refine mv q (di q (di q (ay (cw (aj ?_)))));have nx:=kY (z.trans L);refine wi (x0:=Af) (x1:=o) (x2:=K.next) (x3:=p) Jy ⟨q,(ew q (by first|rfl|omega)),(ew q (by first|rfl|omega)),q,q,tV⟩ ⟨Bh,tQ,Z,uQ,M,D,h0,C,J,Av,Bl,(by first|assumption|omega),(by have hh:=afi As N (z.trans L) S Ax V Au A7 (FE Jy);exact hh)⟩
  (first|(have j:=dF O)|(have j:=dT (gG O))|(have j:=gG O)|(have j:=O));refine sk O (sk O (sk O (sk O (sk O (st _ (bA q O q) (nt (iI q q (dw (bW (bW (eu (aj (aQ ?_)))))))))))));refine sf q CV (sl (u:=(.int .u64 K.next)) q bQ G q ?_);have C0:K.next<18446744073709551616:=A5;refine mv q (di q (di q (ay (cw (aj ?_)))));have nx:=kY (z.trans L);refine wi (x0:=Af) (x1:=o) (x2:=K.next) (x3:=p) Jy ⟨q,(ew q (by first|rfl|omega)),(ew q (by first|rfl|omega)),q,q,tV⟩ ⟨Bh,tQ,Z,uQ,M,D,h0,C,J,Av,Bl,(by first|assumption|omega),(by have hh:=afi As N (z.trans L) S Ax V Au A7 (LJ j);exact hh)⟩
 (first|(have N:=dF Aj)|(have N:=dT (gG Aj))|(have N:=gG Aj)|(have N:=Aj));refine dw (bW (bW (eu (aj (nm q (di q (ar q ?_)))))));exact dQ (vs:=[d,(.int .i64 ((0:Nat):Int))]) trivial q ⟨q,q,tV⟩ q ⟨_,W,0,q,M,(E.ls (fun b c=>tQ b c) (cB.up A8)),Vk,(Ab.trans (As.symm.trans (AR N)))⟩
theorem ah7:dJ Zp 157=true:=Ym
theorem ah8:dJ Zp 158=true:=Ym
theorem adF:dJ Zp 49=true:=Ym
theorem S1 (uQ:Up w Q) {v0:Value} {v:gJ} (h0:Pt kg 145 w Q v0 v) {v1:Value} {l:Ly} (h1:Ls eV w Q v1 l) (p0:l.length≤4611686018427387000) :
  Calls Zp 158 #[v0,v1] w fun en w'=>∃r0:Nat,en = .returned (.int .u64 r0)∧Md [] w w'∧r0<18446744073709551616∧ej (decide (v.h.bY &&& 4≠0)) v.h.cZ l=r0:=by
 have R:=h1.eY;obtain⟨K,L,rfl,G,h0,nO⟩:=h0;obtain⟨v1,rfl,H,N⟩:=ki nO;have M:=Md.refl [] w;have P:=uQ;refine enter (n:=19) Tryz.func158 q q q fun B=>ns (an q (aH ?_));have A:=h0;refine dB (ml 13) [13,14] (fun w'=>Md [] w w') dU Ym ?_;intro V D;refine⟨D.mono Oq,?_⟩;have J:=D.mono (T:=[]) Oq;refine mo q (mz (fun w' C=>dc q) (mz (fun w' C=>aP q sZ) (mz (fun w' C=>aP q wH) (mz (fun w' C=>(aG q gU (A.o C) q).to (b:=(.int .u32 v.h.bY)) q) ?_))));have S:v.h.bY<4294967296:=H.1.2.1;refine mz (fun w' C=>acy (a:=v.h.bY) (b:=4) 4294967296 q q q q Jy) (mz (fun w' C=>eH (a:=(v.h.bY &&& 4)) (b:=0) q q) (mo q (mz (fun w' C=>dc q) (mz (fun w' C=>aP q sZ) (mz (fun w' C=>aP q UO) (mz (fun w' C=>cM (gH v.h.cZ) q (by exact kM) (A.o C) q) ?_))))));have U:v.h.cZ.length=16:=H.1.2.2.2.1;refine mo q (dX ?_);obtain⟨h1,uQ,M⟩:=k3 D h1 uQ M;clear A;clear J;refine ak adF q (zI uQ (decide ((v.h.bY &&& 4)≠0)) v.h.cZ Zx h1 Jy) ?_;rintro en W ⟨E,rfl,O,I,F⟩;refine rv ?_;replace M:=M.k O;refine ar q ?_;exact dV (v:=(.int .u64 E)) trivial q ⟨q,tV⟩ ⟨E,q,M,Zx,F⟩
theorem Z8 (uQ:Up w Q) {v0:Value} {v:gJ} (h0:Pt kg 145 w Q v0 v) (p:Nat) (a1:p<18446744073709551616) (p0:v.b.length≤1000000) :
  Calls Zp 146 #[v0,(.int .u64 p)] w fun en w'=>∃u0:Value,∃r0:List UInt8,∃r1:Nat,∃r2:Nat,en = .returned (.tuple #[u0,(.int .u64 r1),(.int .i64 r2)])∧Md [] w w'∧Ls eV w' Q u0 r0∧r1<18446744073709551616∧r2<9223372036854775808∧ql (decide (v.h.bY &&& 4≠0)) v.h.cZ (v.h.n.getD 0 0) v.b p=(r0,r1,r2):=by
 obtain⟨j,Ad,rfl,K,h0,nO⟩:=h0;obtain⟨v1,rfl,z,H⟩:=ki nO;have M:=Md.refl [] w;have Ag:=uQ;have t:∀b,Q b→Q b:=fun _ h=>h;refine enter (n:=29) Tryz.func146 q q q fun B=>ns (di q (di q (an q (ns (m2 q q (ak ah7 q (RZ uQ ⟨_,_,q,K,h0,iV z H⟩ p Jy Jy) ?_))))));rintro en w4 ⟨E,F,N,rfl,I,R,A,Aa,P⟩;refine rv ?_;obtain⟨H,h0,uQ,M⟩:=k4 I H h0 uQ M;refine mv q (se q q (se q q (cE z173 ?_)));intro W w5 O o I D;have k:j≠W:=(by have:=h0.lt;omega);obtain⟨Q6,i,sT,Z,g⟩:=jD uQ O o I;replace K:=i _ K h0.lt;replace t:=tT t sT;replace O:=lj M.size O;replace H:=(H.sub i).o I;replace h0:=h0.o I;replace A:=(A.sub i).o I;replace M:=M.k I;replace uQ:=g;clear g i sT;have c:cB [] w W:=.inr O;replace D:cG _ _ (gq.cells (qF) SN) _:=D;have y:gq.ok (qF):=(by exact⟨Kq,Kq,Kq,Kq,Kq,Kq⟩);refine aA (us:=(gq.cells F E)) q q (by exact pH) (by exact fun u hu=>aT (gq.one A.cJ) u hu) D (lB q) ?_
 have f:=D;clear D;intro w8 I D;have l:∀b∈[W],¬Q6 b:=(hI Z);replace H:=H.md I l;replace h0:=h0.md I Nz;replace A:=A.md I l;replace uQ:=uQ.md I;replace M:=M.step I (hI c);clear f l;replace D:cG _ _ (gq.cells F E) _:=D;refine an q (aH (ns ?_));have dl:=JE P;refine mv q (st _ (eH (a:=N) (b:=0) q q) (nt ?_));refine cL q (fun X=>?_) (fun X=>?_)
 ·(have J:=dT X);refine nm q (di q (di q (ar q (bf ?_))));exact dQ (vs:=[SN,(.int .u64 ((0:Nat):Int)),(.int .i64 N)]) trivial q ⟨q,q,q,tV⟩ q ⟨_,[],0,N,q,M,(Ls.nil _ _ _),Jy,Zx,(ae9 P J)⟩
 (have J:=dF X);refine bn (aj (aH (aH ?_)));have C:=D;refine dB [(0,true),(1,true),(2,true),(3,true),(4,true),(5,false)] [6] (fun w'=>Md [] w8 w') dU Ym ?_;intro w9 G;refine⟨G.mono Oq,?_⟩;have e:=G.mono (T:=[]) Oq;refine mz (fun w' L=>aP q CS) (mz (fun w' L=>(aG q bQ (C.o L) q).to (b:=(.int .u64 F.dH)) q) ?_);have Af:F.dH<18446744073709551616:=R.1;refine mo q (mz (fun w' L=>aP q CU) (mz (fun w' L=>(aG q gD (C.o L) q).to (b:=E) q) ?_));obtain⟨H,h0,A,D,uQ,M⟩:=k6 G H h0 A D uQ M;refine kG ?_ rfl;refine ak ah8 q (S1 uQ ⟨_,_,q,K,h0,iV z H⟩ A Jy) ?_;rintro en x ⟨d,rfl,I,r,U⟩;refine rv ?_;obtain⟨A,D,M,e⟩:=k4 I A D M e;refine ay ⟨q,e,?_⟩;refine dX ?_;clear C;clear e;refine st _ (eH (a:=F.dH) (b:=d) q q) (nt ?_);refine cL q (fun Y=>?_) (fun Y=>?_)
 ·(have S:=dT Y);refine ns (di q (di q (ar q (bf ?_))));exact dQ (vs:=[SN,(.int .u64 ((0:Nat):Int)),(.int .i64 ((9:Nat):Int))]) trivial q ⟨q,q,q,tV⟩ q ⟨_,[],0,9,q,M,(Ls.nil _ _ _),Jy,Jy,(ag4 P J U S)⟩
 (have S:=dF Y);refine bn (aj (aH ?_));have C:=D;refine dB (ml 5) [5,6] (fun w'=>Md [] x w') dU Ym ?_;intro Ah G;refine⟨G.mono Oq,?_⟩;have e:=G.mono (T:=[]) Oq;refine mz (fun w' L=>aP q CU) (mz (fun w' L=>(aG q gD (C.o L) q).to (b:=E) q) (mz (fun w' L=>aP q CS) (mz (fun w' L=>(aG q bQ (C.o L) q).to (b:=(.int .u64 F.dH)) q) (mz (fun w' L=>fC q) (dX ?_)))));obtain⟨A,M⟩:=k2 G A M;clear C;clear e;refine di q (ar q ?_);exact dQ (vs:=[E,(.int .u64 F.dH),(.int .i64 ((0:Nat):Int))]) trivial q ⟨q,q,q,tV⟩ q ⟨_,F.aR,F.dH,0,q,M,(A.sub (fun b V _=>t b V)),Zx,Jy,(acE P J U Jy)⟩
theorem kD:fP Zp 125 21=true:=Ym
theorem JH:yH Zp 121 2 16=true:=Ym
theorem afz:fO Zp 121=some [(0,1),(1,1)]:=Ym
theorem yP:fO Zp 125=some [(0,1),(1,1),(2,1),(3,16),(19,1),(20,1)]:=Ym
theorem agJ:eO Zp 121=some [.int .u64 0,.int .u64 0]:=Ym
theorem yC:eO Zp 125=some ([.int .u64 0,.int .u64 0,.int .u64 0] ++ (List.replicate 16 (.int .u8 0) ++ ([.int .u64 0,.slice none 0 0]))):=Ym
set_option maxRecDepth 100000 in
abbrev kS:eB:={seq:=0,cK:=0,mono:=0,cg:=jT,xor:=0,ax:=[]}
set_option maxHeartbeats 4000000 in
theorem KG (uQ:Up w Q) {v0:Value} {b:Ly} (h0:Ls eV w Q v0 b) (p:Nat) (a1:p<18446744073709551616) (p0:b.length≤1000000) :
  Calls Zp 156 #[v0,(.int .u64 p)] w fun en w'=>∃u0_0:Value,∃r0:eB,∃r1:Nat,en = .returned (.tuple #[.agg (eB.cells r0 u0_0).toArray,(.int .i64 r1)])∧Md [] w w'∧eB.ok r0∧Ls tL w' Q u0_0 r0.ax∧r1<9223372036854775808∧ij b p=(r0,r1):=by
 have L0:=h0.eY;have M:=Md.refl [] w;have Cs:=uQ;have tQ:∀b,Q b→Q b:=fun _ h=>h;have Y:∀b,Q b→b<w.heap.size→Q b:=fun _ h _=>h;refine enter (n:=101) Tryz.func156 q q q fun B=>ns (cE yC ?_);intro Ah w1 Bd Cj G A;obtain⟨Q2,sQ,sT,I,Am⟩:=jD uQ Bd Cj G;replace tQ:=tT tQ sT;replace Y:=sS sQ Y M;replace Bd:=lj M.size Bd;replace h0:=(h0.sub sQ).o G;replace M:=M.k G;replace uQ:=Am;clear Am sQ sT;have g:cB [] w Ah:=.inr Bd;replace A:cG _ _ (eB.cells (kS) SN) _:=A;have Cy:eB.ok (kS):=(by exact⟨Kq,Kq,Kq,q,Kq⟩);refine an q (ns (m2 q q (ak aaJ q (yg uQ h0 p Jy 3 Jy Jy) ?_)));rintro en w4 ⟨Ao,X,Bb,rfl,G,C,C0,Aq⟩;refine rv ?_;obtain⟨A,uQ,M⟩:=k3 G A uQ M;refine mv q (se q q (se q q (di q (an q (aH (nm q (st _ (eH (a:=Bb) (b:=0) q q) (nt ?_))))))));refine cL q (fun Bp=>?_) (fun Bp=>?_)
 ·(have r:=dT Bp);refine ns (st _ (bU (us:=[]) (cs:=(eB.cells (kS) SN)) [] yC yP q q trivial trivial q q) (mv q (aA (us:=(eB.cells (kS) SN)) q q (by exact kD) (by exact fun u hu=>aT (eB.one q) u hu) A (lB q) ?_)));have K:=A;clear A;intro w5 G A;replace M:=M.step G (hI g);clear K;replace A:cG _ _ (eB.cells (kS) SN) _:=A;refine ar q (bf ?_);exact dQ (vs:=[(.agg (eB.cells (kS) SN).toArray),(.int .i64 Bb)]) trivial q ⟨⟨_,q,cF (cs:=(eB.cells (kS) SN)) (by exact kD) A⟩,q,tV⟩ q ⟨_,(kS),Bb,q,M,Zx,(Ls.nil _ _ _),Zx,(aew Aq r)⟩
 (have r:=dF Bp);refine bn (aj (aH (ns ?_)));have rb:=pR Aq r;refine mv q (sL q fE C.ep (st _ (eD (a:=X.length) (b:=64) q q) (mv q ?_)));refine cQ (t:=25) q (fun f=>?_) (fun f=>?_)
 ·(have B0:=dT f);refine sk f (sk f (sk f (sk f (st _ (bR q f q) (nt (fM q q (ns (st _ (bU (us:=[]) (cs:=(eB.cells (kS) SN)) [] yC yP q q trivial trivial q q) (aA (us:=(eB.cells (kS) SN)) q q (by exact kD) (by exact fun u hu=>aT (eB.one q) u hu) A (lB q) ?_)))))))));have K:=A;clear A;intro w6 G A;replace M:=M.step G (hI g);clear K;replace A:cG _ _ (eB.cells (kS) SN) _:=A;refine ar q (bf ?_);exact dQ (vs:=[(.agg (eB.cells (kS) SN).toArray),(.int .i64 ((5:Nat):Int))]) trivial q ⟨⟨_,q,cF (cs:=(eB.cells (kS) SN)) (by exact kD) A⟩,q,tV⟩ q ⟨_,(kS),5,q,M,Zx,(Ls.nil _ _ _),Jy,(acp Aq r Jy)⟩
 (have B0:=dF f);refine sg f (bg q) (sg f (ji q fE C.ep) (sg f (kI (a:=X.length) (b:=16) q q Jy) (sg f (eH (a:=(X.length%16)) (b:=0) q q) (st _ (bA q f q) (nt ?_)))));refine cL q (fun Bq=>?_) (fun Bq=>?_)
 ·(have B2:=dT Bq);refine ns (st _ (bU (us:=[]) (cs:=(eB.cells (kS) SN)) [] yC yP q q trivial trivial q q) (aA (us:=(eB.cells (kS) SN)) q q (by exact kD) (by exact fun u hu=>aT (eB.one q) u hu) A (lB q) ?_));have K:=A;clear A;intro w7 G A;replace M:=M.step G (hI g);clear K;replace A:cG _ _ (eB.cells (kS) SN) _:=A;refine ar q (bf ?_);exact dQ (vs:=[(.agg (eB.cells (kS) SN).toArray),(.int .i64 ((5:Nat):Int))]) trivial q ⟨⟨_,q,cF (cs:=(eB.cells (kS) SN)) (by exact kD) A⟩,q,tV⟩ q ⟨_,(kS),5,q,M,Zx,(Ls.nil _ _ _),Jy,(acp Aq r Jy)⟩
 (have B2:=dF Bq);refine bn (aj (nm q (ak qL q (jY uQ C 0 Jy Jy) ?_)));rintro en w8 ⟨Aa,rfl,G,C1,Bf⟩;refine rv ?_;obtain⟨A,C,uQ,M⟩:=k4 G A C uQ M;refine mv q (ak qL q (jY uQ C 8 Jy Jy) ?_);rintro en w9 ⟨Ab,rfl,G,C2,Ch⟩;refine rv ?_;obtain⟨A,C,uQ,M⟩:=k4 G A C uQ M;refine mv q (ak qL q (jY uQ C 16 Jy Jy) ?_);rintro en Di ⟨V,rfl,G,Cm,B7⟩;refine rv ?_;obtain⟨A,C,uQ,M⟩:=k4 G A C uQ M;refine mv q (ak qL q (jY uQ C 40 Jy Jy) ?_);rintro en Dj ⟨W,rfl,G,Cn,B8⟩;refine rv ?_;obtain⟨A,C,uQ,M⟩:=k4 G A C uQ M;refine st _ (bU (us:=[[(.int .u64 Aa)],[(.int .u64 Ab)],[(.int .u64 V)],[(.int .u64 W)]]) (cs:=(eB.cells (({seq:=Aa,cK:=Ab,mono:=V,cg:=jT,xor:=W,ax:=[]}:eB)) SN)) [(0,0,1),(1,1,1),(2,2,1),(4,19,1)] yC yP q q ⟨q,q,q,q,tV⟩ ⟨q,q,q,q,tV⟩ q q) (cE yC ?_);intro Ac Dk Be Ck G F;have Cg:Ah≠Ac:=(by have:=A.lt;omega);obtain⟨Bw,sQ,sT,J,Am⟩:=jD uQ Be Ck G;replace I:=nQ I sT;replace C:=C.sub sQ;replace tQ:=tT tQ sT;replace Y:=sS sQ Y M
 replace Be:=lj M.size Be;obtain⟨A,C,M⟩:=k3 G A C M;replace uQ:=Am;clear Am sQ sT;have As:cB [] w Ac:=.inr Be;replace F:cG _ _ (eB.cells (kS) SN) _:=F;have Cl:eB.ok (kS):=(by exact⟨Kq,Kq,Kq,q,Kq⟩);refine aA (us:=(eB.cells (({seq:=Aa,cK:=Ab,mono:=V,cg:=jT,xor:=W,ax:=[]}:eB)) SN)) q q (by exact kD) (by exact fun u hu=>aT (eB.one q) u hu) F (lB q) ?_;have Af:=F;clear F;intro Dl G F;have hS:∀b∈[Ac],¬Bw b:=(hI J);replace A:=A.md G Nz;replace C:=C.md G hS;replace uQ:=uQ.md G;replace M:=M.step G (hI As);clear Af hS;replace F:cG _ _ (eB.cells (({seq:=Aa,cK:=Ab,mono:=V,cg:=jT,xor:=W,ax:=[]}:eB)) SN) _:=F;refine nt (aH (ns (sf q CQ (st _ ((aG q bQ F q).to (b:=(.int .u64 (((({seq:=Aa,cK:=Ab,mono:=V,cg:=jT,xor:=W,ax:=[]}:eB)).seq:Nat):Int))) q) (st _ (mB (a:=((({seq:=Aa,cK:=Ab,mono:=V,cg:=jT,xor:=W,ax:=[]}:eB)).seq)) (b:=0) q q) (nt ?_))))));refine cL q (fun Br=>?_) (fun Br=>?_)
 ·(have Aw:=dT Br);refine ns (st _ (bU (us:=[]) (cs:=(eB.cells (kS) SN)) [] yC yP q q trivial trivial q q) (aA (us:=(eB.cells (kS) SN)) q q (by exact kD) (by exact fun u hu=>aT (eB.one q) u hu) A (lB q) ?_));have K:=A;clear A;intro Dm G A;replace M:=M.step G (hI g);clear K;replace A:cG _ _ (eB.cells (kS) SN) _:=A;refine ar q (bf ?_);exact dQ (vs:=[(.agg (eB.cells (kS) SN).toArray),(.int .i64 ((13:Nat):Int))]) trivial q ⟨⟨_,q,cF (cs:=(eB.cells (kS) SN)) (by exact kD) A⟩,q,tV⟩ q ⟨_,(kS),13,q,M,Zx,(Ls.nil _ _ _),Jy,(aev Aq r ⟨by omega,by omega⟩ (by rw[Bf];simpa using Aw))⟩
 (have Aw:=dF Br);refine bn (aj (aH (ns (an q (bK ?_)))));refine qR (fun(e:eB) (i:Nat)=>[(9,(.int .i64 i)),(4,(.pointer (some ⟨Ah,0,none⟩))),(5,(.int .i64 ((0:Nat):Int))),(6,Ao),(8,(.pointer (some ⟨Ac,0,none⟩)))]) (fun(e:eB) (i:Nat) w'=>∃Q':Nat→Prop,(∀b,Q' b→Q b)∧(∀b,Q b→b<w.heap.size→Q' b)∧Up w' Q'∧Md [] w w'∧cG w' Ac (eB.cells e SN) 125∧eB.ok e∧cG w' Ah (eB.cells (kS) SN) 125∧Ls eV w' Q' Ao X∧¬Q' Ac∧¬Q' Ah∧i≤16∧e.cg.take i=(X.drop 24).take i∧e={({seq:=Aa,cK:=Ab,mono:=V,cg:=jT,xor:=W,ax:=[]}:eB)with cg:=e.cg}) (fun(e:eB) (i:Nat)=>16-i) (x0:=(({seq:=Aa,cK:=Ab,mono:=V,cg:=jT,xor:=W,ax:=[]}:eB))) (x1:=0) ?_ ?_ ?_
 ·exact⟨q,q,q,q,q,tV⟩
 ·exact⟨Bw,tQ,Y,uQ,M,F,(by exact⟨Jy,Jy,Jy,(by rfl),Jy⟩),A,C,J,I,Jy,q,q⟩
 clear M uQ tQ Y I J h0 A C F
 rintro e i B Dn ⟨Bm,tQ,Y,uQ,M,F,Ak,A,C,J,I,Cv,Bl,z⟩;refine aH (nm q (st _ (eD (a:=i) (b:=16) q q) (nt ?_)));refine cL q (fun Bs=>?_) (fun Bs=>?_)
 ·(have B3:=dT Bs);refine bn (aj (aH (bK (aQ (m2 q q (mv q (st _ (rA (a:=24) (b:=i) q q Jy) (st _ (bX (i:=24+i) 1 q q fE mL C.ep Jy) ?_))))))));obtain⟨Bg,Bk⟩:=eP (l:=X) (i:=24+i) Jy;obtain⟨C4,Ca,Ax⟩:=C.get Bk;obtain⟨rfl,_⟩:=Ca;have C3:=UInt8.toNat_lt Bg;replace Ax:At _ Ao ((24+i)*1) [(b8 Bg)]:=Ax;refine st _ ((dh (kk:=(24+i)*1) 0 q q pX Ax q).to (b:=(b8 Bg)) q) (sf q CR (st _ (bZ (m:=16) (i:=i) 1 q q SL mL Jy) (bE (b:=Ac) (j:=3+i*1) q q pX q F (by have:(eB.cells e SN).length=21:=rfl;omega) ?_)));have Af:=F;clear F;intro Do G F;have hS:∀b∈[Ac],¬Bm b:=(hI J);replace A:=A.md G Nz;replace C:=C.md G hS;clear Ax;replace uQ:=uQ.md G;replace M:=M.step G (hI As);clear Af hS;rw[Nat.mul_one,aa7 Ak.2.2.2.1 Jy]at F;obtain⟨Cd,Av⟩:∃y,y=({e with cg:=e.cg.set i Bg}:eB):=⟨_,q⟩;rw[← Av]at F;have Bv:eB.ok Cd:=(by rw[Av];obtain⟨k1,kz2,kz3,kz4,kz5⟩:=Ak;exact⟨k1,kz2,kz3,by simpa using kz4,kz5⟩);refine ay (cw (aj (aQ (mv q (st _ (rA (a:=i) (b:=1) q q Jy) (an q ?_))))));refine pO (x0:=Cd) (x1:=(i+1)) Jy ⟨(ew q Jy),q,q,q,q,tV⟩ ⟨Bm,tQ,Y,uQ,M,F,Bv,A,C,J,I,Jy,(by rw[Av];exact WH Ak.2.2.2.1 Jy Bl Bk),(by rw[Av,z])⟩
 (have B3:=dF Bs);refine dw (bW (bW (eu (aj (aH (ns (an q (bK ?_))))))));refine lV (fun(o:eB) (E:Value) (k:Nat)=>[(10,(.int .i64 k)),(4,(.pointer (some ⟨Ah,0,none⟩))),(6,Ao),(8,(.pointer (some ⟨Ac,0,none⟩)))]) (fun(o:eB) (E:Value) (k:Nat) w'=>∃Q':Nat→Prop,(∀b,Q' b→Q b)∧(∀b,Q b→b<w.heap.size→Q' b)∧Up w' Q'∧Md [] w w'∧cG w' Ac (eB.cells o E) 125∧Ow tL 121 (cB [] w) w' Q' E o.ax∧eB.ok o∧cG w' Ah (eB.cells (kS) SN) 125∧Ls eV w' Q' Ao X∧¬Q' Ac∧¬Q' Ah∧(k%16=0∧48≤k)∧k≤X.length∧o.ax=j4 X 48 ((k-48)/16)∧oU o.ax=true∧o={e with ax:=o.ax}) (fun(o:eB) (E:Value) (k:Nat)=>X.length-k) (x0:=e) (x1:=SN) (x2:=48) ?_ ?_ ?_
 ·exact⟨q,q,q,q,tV⟩
 ·exact⟨Bm,tQ,Y,uQ,M,F,(by(rw[z];exact Ow.nil _ _ _ _ _)),Ak,A,C,J,I,Jy,Jy,(by rw[z];rfl),(by rw[z];rfl),(by cases e;rfl)⟩
 clear M uQ tQ Y J I F A C
 rintro o E k B Ce ⟨Bn,tQ,Y,uQ,M,F,D,Ag,A,C,J,I,Az,Cw,Aj,A7,Ae⟩;refine aH (ns (m2 q q (sL q fE C.ep (st _ (eD (a:=k) (b:=X.length) q q) (nt ?_)))));refine cL q (fun Bt=>?_) (fun Bt=>?_)
 ·(have B4:=dT Bt);refine bn (aj (aH (bK (ns (sf q kP (sl (u:=E) q oI F q (sL q wY D.ep (an q (aH ?_)))))))));have ol:o.ax.length=(k-48)/16:=(by rw[Aj,sN]);have d:=D;have U:=F;have C9:∀b∈(ah E).toList,¬Bn b:=(rN D);refine dB [(0,true),(1,true),(2,true),(3,true),(4,true),(6,true),(7,true),(8,true),(9,true),(5,false),(10,false),(11,true),(12,false)] [13,14,15] (fun w'=>Md (ah E).toList Ce w') dU Ym ?_;intro Dp L;refine⟨L.mono Oq,?_⟩;have MC:=L.mono (T:=(ah E).toList) Oq;have Bc:∀b,ah E=some b→b∈(ah E).toList∨Ce.heap.size≤b:=fun b O=>Or.inl (by simp[O]);refine mz (fun w' v=>aP q kP) (mz (fun w' v=>(aG q oI (U.md v (aW d U)) q).to (b:=E) q) (mo q (mo q (mz (fun w' v=>dI (a:=k) 18446744073709551616 q (by rw[u3];rfl) lg q Jy) (mo q (mo q (mz (fun w' v=>rA (a:=k) (b:=8) q q Jy) (mz (fun w' v=>dI (a:=k+8) 18446744073709551616 q (by rw[u3];rfl) lg q Jy) ?_))))))));obtain⟨D,F,A,C,uQ,M⟩:=k6 L D F A C uQ M;refine kG ?_ rfl;refine ak qL q (jY uQ C k Jy Jy) ?_;rintro en Dq ⟨Z,rfl,G,Co,A2⟩;refine rv ?_;replace D:=D.o G
  obtain⟨F,A,C,uQ,M,MC⟩:=k6 G F A C uQ M MC;refine ay ⟨q,MC,?_⟩;refine kG ?_ rfl;refine ak qL q (jY uQ C (k+8) Jy Jy) ?_;rintro en Dr ⟨c,rfl,G,Cp,A3⟩;refine rv ?_;obtain⟨D,F,A,C,uQ,M,MC⟩:=k7 G D F A C uQ M MC;refine ay ⟨q,MC,?_⟩;refine mz (fun w' v=>bU (us:=[[(.int .u64 Z)],[(.int .u64 c)]]) (cs:=(jO.cells (({cC:=Z,dH:=c}:jO)))) [(0,0,1),(1,1,1)] agJ afz q q ⟨q,q,tV⟩ ⟨q,q,tV⟩ q q) ?_;refine kG ?_ rfl;refine bS [(jO.cells (({cC:=Z,dH:=c}:jO)))] wY JH Kq Kq q q ⟨q,tV⟩ ⟨q,tV⟩ q Kq ?_;intro Cu Ds Bx Cx G A4;have Cf:=uQ _ Bx;obtain⟨D,F,A,C,uQ,M,MC⟩:=k7 G D F A C uQ M MC;replace A4:=Ls.dM (m:=1) (R:=Bn) (T:=tL) (xs:=[({cC:=Z,dH:=c}:jO)]) A4 ⟨_,_,q,(KP (by exact⟨Jy,Jy⟩)),q⟩ q Kq Cf;refine ay ⟨q,MC,?_⟩;refine dX ?_;clear d U;clear MC;refine eN (sz:=2) (by rfl) wY JH q q D A4 (fun _ h _=>h) uQ (cB.new M) Zj Zj ?_;intro Au Du Bo sQ sT Am N G hS _ Ci;have S:=D;clear D;replace J:=nQ J sT;replace I:=nQ I sT;replace C:=C.sub sQ;replace tQ:=tT tQ sT;replace Y:=sS sQ Y M;replace F:=F.md G (aW S F);replace A:=A.md G (aW S A)
  replace C:=C.md G hS;replace uQ:=uQ.md G;replace M:=M.dK G (fun b O=>(S.2 b O).1);replace uQ:=Am;clear Am sQ sT hS Ci;refine sf q kP (bE q q oI N.cJ F (lB q) ?_);have Af:=F;clear F;intro Ct G F;have hS:∀b∈[Ac],¬Bo b:=(hI J);replace A:=A.md G Nz;replace C:=C.md G hS;replace N:=N.md G (aB Af N) hS;replace uQ:=uQ.md G;replace M:=M.step G (hI As);clear Af hS;obtain⟨Al,P⟩:∃y,y=({o with ax:=o.ax ++ ([({cC:=Z,dH:=c}:jO)])}:eB):=⟨_,q⟩;replace F:cG _ _ (eB.cells ({o with ax:=o.ax ++ ([({cC:=Z,dH:=c}:jO)])}) Au) _:=F;rw[← P]at F;have A8:eB.ok Al:=(by rw[P];exact⟨Ag.1,Ag.2.1,Ag.2.2.1,Ag.2.2.2.1,Ag.2.2.2.2⟩);rw[show o.ax ++ ([({cC:=Z,dH:=c}:jO)])=Al.ax by rw[P]]at N;refine nt (aH ?_);have Ad:=N;have U:=F;refine dB (ml 16) [16,17] (fun w'=>Md [] Ct w') dU Ym ?_;intro Dv L;refine⟨L.mono Oq,?_⟩;have MC:=L.mono (T:=[]) Oq;have nl:Al.ax.length=o.ax.length+1:=(by rw[P];simp);refine mo q (mz (fun w' v=>iF (a:=o.ax.length) (b:=0) q q) (mo q ?_));refine yc (t:=83) q (fun H=>?_) (fun H=>?_)
  ·(have B5:=dT H);refine Go.Wk.lW _ q q q H (fun w' v=>aP q kP) (Go.Wk.lW _ q q q H (fun w' v=>(aG q oI (U.o v) q).to (b:=Au) q) (Go.Wk.lW _ q q q H (fun w' v=>bg q) (Go.Wk.lW _ q q q H (fun w' v=>bX (i:=o.ax.length) 2 q q wY FB N.ep Jy) ?_)));obtain⟨Bh,A5⟩:=eP (l:=Al.ax) (i:=o.ax.length) Jy;obtain⟨C5,Cb,Ai⟩:=Ad.get A5;obtain⟨_,rfl,Cq⟩:=p6 Cb;replace Ai:At _ Au (o.ax.length*2) (jO.cells Bh):=Ai;refine Go.Wk.lW _ q q q H (fun w' v=>ic q (Ai.o v) wA) (Go.Wk.lW _ q q q H (fun w' v=>(dh (kk:=o.ax.length*2) 0 q q bQ (Ai.o v) q).to (b:=(.int .u64 Bh.cC)) q) ?_);have Dg:Bh.cC<18446744073709551616:=Cq.1;refine Go.Wk.lW _ q q q H (fun w' v=>aP q kP) (Go.Wk.lW _ q q q H (fun w' v=>(aG q oI (U.o v) q).to (b:=Au) q) (Go.Wk.lW _ q q q H (fun w' v=>bg q) (Go.Wk.lW _ q q q H (fun w' v=>rS (a:=o.ax.length) (b:=1) q q Jy) (Go.Wk.lW _ q q q H (fun w' v=>bX (i:=o.ax.length-1) 2 q q wY FB N.ep Jy) ?_))));obtain⟨Bi,A6⟩:=eP (l:=Al.ax) (i:=o.ax.length-1) Jy;obtain⟨C6,Cc,K⟩:=Ad.get A6;obtain⟨_,rfl,Cr⟩:=p6 Cc;replace K:At _ Au ((o.ax.length-1)*2) (jO.cells Bi):=K;refine Go.Wk.lW _ q q q H (fun w' v=>ic q (K.o v) wA) (Go.Wk.lW _ q q q H (fun w' v=>(dh (kk:=(o.ax.length-1)*2) 0 q q bQ (K.o v) q).to (b:=(.int .u64 Bi.cC)) q) ?_);have Dh:Bi.cC<18446744073709551616:=Cr.1;refine dX ?_;obtain⟨A,C,N,F,uQ,M⟩:=k6 L A C N F uQ M;clear Ad U;clear MC;refine sg H (tr (a:=Bh.cC) (b:=Bi.cC) q q) ?_
   refine st _ (bR q H q) (ay ?_);clear Ai;clear K;refine aj ?_;refine cL q (fun Bu=>?_) (fun Bu=>?_)
   ·(have B6:=dT Bu);refine ns (st _ (bU (us:=[]) (cs:=(eB.cells (kS) SN)) [] yC yP q q trivial trivial q q) (aA (us:=(eB.cells (kS) SN)) q q (by exact kD) (by exact fun u hu=>aT (eB.one q) u hu) A (lB q) ?_));have K:=A;clear A;intro Dw G A;replace M:=M.step G (hI g);clear K;replace A:cG _ _ (eB.cells (kS) SN) _:=A;refine ar q (bV (bf (bf (bV (bf ?_)))));exact dQ (vs:=[(.agg (eB.cells (kS) SN).toArray),(.int .i64 ((11:Nat):Int))]) trivial q ⟨⟨_,q,cF (cs:=(eB.cells (kS) SN)) (by exact kD) A⟩,q,tV⟩ q ⟨_,(kS),11,q,M,Zx,(Ls.nil _ _ _),Jy,(aeu Aq r ⟨by omega,by omega⟩ (by rw[Bf];simpa using Aw) (its:=Al.ax) (k:=k) (by rw[P];exact tj Aj Az A2 A3) Jy Az A5 A6 Jy Jy)⟩
   (have B6:=dF Bu);refine bn (cw (aj (aQ (mv q (st _ (rA (a:=k) (b:=16) q q Jy) (an q ?_))))));refine jw (x0:=Al) (x1:=Au) (x2:=(k+16)) Jy ⟨(ew q Jy),q,q,q,tV⟩ ⟨Bo,tQ,Y,uQ,M,F,N,A8,A,C,J,I,Jy,Jy,(by rw[P];exact tj Aj Az A2 A3),(VK (by rw[P]) A7 (.inr ⟨_,_,A5,A6,by omega,by omega⟩)),(by rw[P,Ae])⟩
  (have B5:=dF H);refine dW q q q H (dW q q q H (dW q q q H (dW q q q H (dW q q q H (dW q q q H (dW q q q H (dW q q q H (dW q q q H (dW q q q H (dW q q q H (dW q q q H (dW q q q H (dX ?_)))))))))))));obtain⟨A,C,N,F,uQ,M⟩:=k6 L A C N F uQ M;clear Ad U;clear MC;refine sk H (st _ (bA q H q) (nt (iI q q (bn (cw (aj (aQ (mv q (st _ (rA (a:=k) (b:=16) q q Jy) (an q ?_))))))))));refine jw (x0:=Al) (x1:=Au) (x2:=(k+16)) Jy ⟨(ew q Jy),q,q,q,tV⟩ ⟨Bo,tQ,Y,uQ,M,F,N,A8,A,C,J,I,Jy,Jy,(by rw[P];exact tj Aj Az A2 A3),(VK (by rw[P]) A7 (.inl Jy)),(by rw[P,Ae])⟩
 (have B4:=dF Bt);refine dw (bW (bW (eu (aj (ns (st _ (cM (eB.cells o E) q (by exact kD) F q) (aA (us:=(eB.cells o E)) q q (by exact kD) (by exact fun u hu=>aT (eB.one D.cJ) u hu) A (lB q) ?_)))))));have Ay:=D;have K:=A;clear A;intro Dx G A;have hS:∀b∈[Ah],¬Bn b:=(hI I);replace Ay:=Ay.md G (aB K Ay) hS;replace M:=M.step G (hI g);clear K hS;replace A:cG _ _ (eB.cells o E) _:=A;refine ar q ?_;exact dQ (vs:=[(.agg (eB.cells o E).toArray),(.int .i64 ((0:Nat):Int))]) trivial q ⟨⟨_,q,cF (cs:=(eB.cells o E)) (by exact kD) A⟩,q,tV⟩ q ⟨_,o,0,q,M,Ag,(Ay.ls (fun b O=>tQ b O) (cB.up Cs)),Jy,(aex (k:=k) Aq r ⟨by omega,by omega⟩ (by rw[Bf];simpa using Aw) (by rw[Ae,z];exact Bf.symm) (by rw[Ae,z];exact Ch.symm) (by rw[Ae,z];exact B7.symm) (by have O:=Bl;rw[show i=16 by omega,List.take_of_length_le (by rw[Ak.2.2.2.1];exact Nat.le_refl _)]at O;rw[Ae];exact O) (by rw[Ae,z];exact B8.symm) Aj Jy A7)⟩
theorem ah6:dJ Zp 156=true:=Ym
theorem OE (uQ:Up w Q) {v0:Value} {v:gJ} (h0:Pt kg 145 w Q v0 v) (p:Nat) (a1:p<18446744073709551616) (p0:v.b.length≤1000000) :
  Calls Zp 145 #[v0,(.int .u64 p)] w fun en w'=>∃u0_0:Value,∃r0:eB,∃r1:Nat,en = .returned (.tuple #[.agg (eB.cells r0 u0_0).toArray,(.int .i64 r1)])∧Md [] w w'∧eB.ok r0∧Ls tL w' Q u0_0 r0.ax∧r1<9223372036854775808∧iJ (v.h.n.getD 0 0) v.b p=(r0,r1):=by
 obtain⟨X,r,rfl,J,h0,nO⟩:=h0;obtain⟨y,rfl,t,F⟩:=ki nO;have M:=Md.refl [] w;have x:=uQ;have f:∀b,Q b→Q b:=fun _ h=>h;refine enter (n:=22) Tryz.func145 q q q fun B=>ns (cE yC ?_);intro R w4 N d E A;have Y:X≠R:=(by have:=h0.lt;omega);obtain⟨o,e,l,T,W⟩:=jD uQ N d E;replace J:=e _ J h0.lt;replace f:=tT f l;replace N:=lj M.size N;replace F:=(F.sub e).o E;obtain⟨h0,M⟩:=k2 E h0 M;replace uQ:=W;clear W e l;have K:cB [] w R:=.inr N;replace A:cG _ _ (eB.cells (kS) SN) _:=A;have i:eB.ok (kS):=(by exact⟨Kq,Kq,Kq,q,Kq⟩);refine an q (aH (ns (m2 q q (ak aaI q (DW uQ ⟨_,_,q,J,h0,iV t F⟩ p Jy) ?_))));rintro en w7 ⟨L,rfl,E,j,V⟩;refine rv ?_;obtain⟨F,h0,A,uQ,M⟩:=k5 E F h0 A uQ M;refine an q (nm q (st _ (eH (a:=L) (b:=0) q q) (nt ?_)));refine cL q (fun S=>?_) (fun S=>?_)
 ·(have H:=dT S);refine ns (st _ (bU (us:=[]) (cs:=(eB.cells (kS) SN)) [] yC yP q q trivial trivial q q) (mv q (aA (us:=(eB.cells (kS) SN)) q q (by exact kD) (by exact fun u c=>aT (eB.one q) u c) A (lB q) ?_)));have I:=A;clear A;intro w8 E A;replace M:=M.step E (hI K);clear I;replace A:cG _ _ (eB.cells (kS) SN) _:=A;refine ar q (bf ?_);exact dQ (vs:=[(.agg (eB.cells (kS) SN).toArray),(.int .i64 L)]) trivial q ⟨⟨_,q,cF (cs:=(eB.cells (kS) SN)) (by exact kD) A⟩,q,tV⟩ q ⟨_,(kS),L,q,M,Zx,(Ls.nil _ _ _),Zx,(ad8 (aaA V H) H)⟩
 (have H:=dF S);refine bn (aj (nm q (sn q (sf q wB (sl (u:=y) q gD h0 q (mv q (ak ah6 q (KG uQ F p Jy Jy) ?_)))))));rintro en w9 ⟨D,G,P,rfl,E,O,C,k,Z⟩;refine rv ?_;obtain⟨A,M⟩:=k2 E A M;refine se q q (se q q (aA (us:=(eB.cells G D)) q q (by exact kD) (by exact fun u c=>aT (eB.one C.cJ) u c) A (lB q) ?_));have I:=A;clear A;intro z E A;have g:∀b∈[R],¬o b:=(hI T);replace C:=C.md E g;replace M:=M.step E (hI K);clear I g;replace A:cG _ _ (eB.cells G D) _:=A;refine ar q ?_;exact dQ (vs:=[(.agg (eB.cells G D).toArray),(.int .i64 P)]) trivial q ⟨⟨_,q,cF (cs:=(eB.cells G D)) (by exact kD) A⟩,q,tV⟩ q ⟨_,G,P,q,M,O,(C.sub (fun b U _=>f b U)),Zx,(PK (by rw[V];omega) Z)⟩
theorem u9:Zp.underlying 9=some (.string):=Ym
theorem HG (s:Ly) (w:World) (hl:s.length≤9223372036854775807):Calls Zp 114 #[str s] w fun e w'=>e = .returned (.bool (fu s))∧w=w':=by
 have M:=Md.refl [] w;refine enter (n:=44) Tryz.func114 q q q fun B=>ns (an q (aH (ns (di q (nt (bK ?_))))));refine jQ (X:=Nat) (fun i=>[(0,str s),(3,.int .i64 i)]) (fun i w'=>w=w'∧i≤s.length∧∀j,j<i→jv (s.getD j 0)=true∧(j=0→digit (s.getD j 0)=false)) (fun i=>s.length-i) 0 ?_ ?_ ?_
 ·exact⟨q,q,tV⟩
 ·exact⟨q,by omega,fun j I=>by omega⟩
 clear M
 rintro i B Z ⟨rfl,Y,O⟩;have M:=Md.refl [] w;refine aH (ns (m2 q q (st _ (tu q u9) (st _ (qB q q) (nt ?_)))));refine cL q (fun V=>?_) (fun V=>?_)
 ·(have W:=dT V);refine bn (aj (aH (bK (ns (m2 q q (st _ (wR q q u9 Jy) (an q (aH (nm q (st _ (rJ q q) ?_))))))))));refine mv q ?_;refine cQ (t:=16) q (fun J=>?_) (fun J=>?_)
  ·(have Q:=dT J);refine sg J (bg q) (sg J (wS q q) (st _ (bR q J q) (mv q ?_)));refine cQ (t:=20) q (fun K=>?_) (fun K=>?_)
   ·(have R:=dT K);refine sg K (bg q) (sg K (uG q q) (st _ (bR q K q) (mv q ?_)));refine cQ (t:=24) q (fun F=>?_) (fun F=>?_)
    ·(have S:=dT F);refine sk F (sk F (sk F (kQ q q q (kQ q q q (sk F (st _ (bR q F q) (mv q (sk q (sk q (st _ (bR q q q) (nt (fM q q (dw ?_)))))))))))));refine bW (eu (aj (aQ (mv q (st _ (eX q q Jy) (an q (next (i+1) Jy ⟨q,ew q Oq,tV⟩ ?_)))))))
     exact⟨q,by omega,fun j I=>by
      rcases Nat.lt_or_eq_of_le (Nat.le_of_lt_succ I)with h|h
      ·exact O j h
      ·subst h;exact⟨by unfold jv;exact decide_eq_true Jy,fun H=>by unfold digit;exact decide_eq_false Jy⟩⟩
    (have S:=dF F);refine sg F (bg q) (sg F (rJ q q) (sg F (bg q) ?_));refine cQ (t:=27) q (fun A=>?_) (fun A=>?_)
    ·(have L:=dT A);refine sg A (bg q) (sg A (wS q q) (sg F (bR q A q) (st _ (bA q F q) (mv q ?_))));refine cQ (t:=32) q (fun C=>?_) (fun C=>?_)
     ·(have N:=dT C);refine sk C (sk C (st _ (bR q C q) (nt (fM q q (dw (bW (eu (aj (aQ (mv q (st _ (eX q q Jy) (an q ?_))))))))))));refine next (i+1) Jy ⟨q,ew q Oq,tV⟩ ?_
      exact⟨q,by omega,fun j I=>by
       rcases Nat.lt_or_eq_of_le (Nat.le_of_lt_succ I)with h|h
       ·exact O j h
       ·subst h;exact⟨by unfold jv;exact decide_eq_true Jy,fun H=>by unfold digit;exact decide_eq_false Jy⟩⟩
     (have N:=dF C);refine sg C (bg q) (sg C (nL q q) (st _ (bA q C q) (nt ?_)));refine cL q (fun D=>?_) (fun D=>?_)
     ·(have E:=dT D);refine dw (bW (eu (aj (aQ (mv q (st _ (eX q q Jy) (an q (next (i+1) Jy ⟨q,ew q Oq,tV⟩ ?_))))))))
      exact⟨q,by omega,fun j I=>by
       rcases Nat.lt_or_eq_of_le (Nat.le_of_lt_succ I)with h|h
       ·exact O j h
       ·subst h;exact⟨by unfold jv;exact decide_eq_true Jy,fun H=>by unfold digit;exact decide_eq_false Jy⟩⟩
     (have E:=dF D);refine bn (aj (ns (ar q (bV (bf (bf (bV (bf ?_))))))));exact iM trivial q q ⟨oL (by cases hh:fu s with|false=>rfl|true=>(exfalso;have hl:=gM hh;have P:=i7 hh;have U:=kX hh i Jy;rcases Nat.eq_zero_or_pos i with H|H<;>omega)),q⟩
    (have L:=dF A);refine sk A (sk A (sg F (bA q A q) (st _ (bA q F q) (mv q (sg q (bg q) (sg q (nL q q) (st _ (bA q q q) (nt ?_))))))));refine cL q (fun D=>?_) (fun D=>?_)
    ·(have E:=dT D);refine dw (bW (eu (aj (aQ (mv q (st _ (eX q q Jy) (an q (next (i+1) Jy ⟨q,ew q Oq,tV⟩ ?_))))))))
     exact⟨q,by omega,fun j I=>by
      rcases Nat.lt_or_eq_of_le (Nat.le_of_lt_succ I)with h|h
      ·exact O j h
      ·subst h;exact⟨by unfold jv;exact decide_eq_true Jy,fun H=>by unfold digit;exact decide_eq_false Jy⟩⟩
    (have E:=dF D);refine bn (aj (ns (ar q (bV (bf (bf (bV (bf ?_))))))));exact iM trivial q q ⟨oL (by cases hh:fu s with|false=>rfl|true=>(exfalso;have hl:=gM hh;have P:=i7 hh;have U:=kX hh i Jy;rcases Nat.eq_zero_or_pos i with H|H<;>first|omega|(subst H;omega))),q⟩
   (have R:=dF K);refine sk K (sk K (st _ (bA q K q) (mv q (sg q (bg q) (sg q (rJ q q) (sg q (bg q) ?_))))));refine cQ (t:=27) q (fun A=>?_) (fun A=>?_)
   ·(have L:=dT A);refine sg A (bg q) (sg A (wS q q) (sg q (bR q A q) (st _ (bA q q q) (mv q ?_))));refine cQ (t:=32) q (fun C=>?_) (fun C=>?_)
    ·(have N:=dT C);refine sk C (sk C (st _ (bR q C q) (nt (fM q q (dw (bW (eu (aj (aQ (mv q (st _ (eX q q Jy) (an q ?_))))))))))));refine next (i+1) Jy ⟨q,ew q Oq,tV⟩ ?_
     exact⟨q,by omega,fun j I=>by
      rcases Nat.lt_or_eq_of_le (Nat.le_of_lt_succ I)with h|h
      ·exact O j h
      ·subst h;exact⟨by unfold jv;exact decide_eq_true Jy,fun H=>by unfold digit;exact decide_eq_false Jy⟩⟩
    (have N:=dF C);refine sg C (bg q) (sg C (nL q q) (st _ (bA q C q) (nt ?_)));refine cL q (fun D=>?_) (fun D=>?_)
    ·(have E:=dT D);refine dw (bW (eu (aj (aQ (mv q (st _ (eX q q Jy) (an q (next (i+1) Jy ⟨q,ew q Oq,tV⟩ ?_))))))))
     exact⟨q,by omega,fun j I=>by
      rcases Nat.lt_or_eq_of_le (Nat.le_of_lt_succ I)with h|h
      ·exact O j h
      ·subst h;exact⟨by unfold jv;exact decide_eq_true Jy,fun H=>by unfold digit;exact decide_eq_false Jy⟩⟩
    (have E:=dF D);refine bn (aj (ns (ar q (bV (bf (bf (bV (bf ?_))))))));exact iM trivial q q ⟨oL (by cases hh:fu s with|false=>rfl|true=>(exfalso;have hl:=gM hh;have P:=i7 hh;have U:=kX hh i Jy;rcases Nat.eq_zero_or_pos i with H|H<;>omega)),q⟩
   (have L:=dF A);refine sk A (sk A (sg q (bA q A q) (st _ (bA q q q) (mv q (sg q (bg q) (sg q (nL q q) (st _ (bA q q q) (nt ?_))))))));refine cL q (fun D=>?_) (fun D=>?_)
   ·(have E:=dT D);refine dw (bW (eu (aj (aQ (mv q (st _ (eX q q Jy) (an q (next (i+1) Jy ⟨q,ew q Oq,tV⟩ ?_))))))))
    exact⟨q,by omega,fun j I=>by
     rcases Nat.lt_or_eq_of_le (Nat.le_of_lt_succ I)with h|h
     ·exact O j h
     ·subst h;exact⟨by unfold jv;exact decide_eq_true Jy,fun H=>by unfold digit;exact decide_eq_false Jy⟩⟩
   (have E:=dF D);refine bn (aj (ns (ar q (bV (bf (bf (bV (bf ?_))))))));exact iM trivial q q ⟨oL (by cases hh:fu s with|false=>rfl|true=>(exfalso;have hl:=gM hh;have P:=i7 hh;have U:=kX hh i Jy;rcases Nat.eq_zero_or_pos i with H|H<;>omega)),q⟩
  (have Q:=dF J);refine sk J (sk J (st _ (bA q J q) (mv q (sk q (sk q (st _ (bA q q q) (mv q (sg q (bg q) (sg q (rJ q q) (sg q (bg q) ?_))))))))));refine cQ (t:=27) q (fun A=>?_) (fun A=>?_)
  ·(have L:=dT A);refine sg A (bg q) (sg A (wS q q) (sg q (bR q A q) (st _ (bA q q q) (mv q ?_))));refine cQ (t:=32) q (fun C=>?_) (fun C=>?_)
   ·(have N:=dT C);refine sk C (sk C (st _ (bR q C q) (nt (fM q q (dw (bW (eu (aj (aQ (mv q (st _ (eX q q Jy) (an q ?_))))))))))));refine next (i+1) Jy ⟨q,ew q Oq,tV⟩ ?_
    exact⟨q,by omega,fun j I=>by
     rcases Nat.lt_or_eq_of_le (Nat.le_of_lt_succ I)with h|h
     ·exact O j h
     ·subst h;exact⟨by unfold jv;exact decide_eq_true Jy,fun H=>by unfold digit;exact decide_eq_false Jy⟩⟩
   (have N:=dF C);refine sg C (bg q) (sg C (nL q q) (st _ (bA q C q) (nt ?_)));refine cL q (fun D=>?_) (fun D=>?_)
   ·(have E:=dT D);refine dw (bW (eu (aj (aQ (mv q (st _ (eX q q Jy) (an q (next (i+1) Jy ⟨q,ew q Oq,tV⟩ ?_))))))))
    exact⟨q,by omega,fun j I=>by
     rcases Nat.lt_or_eq_of_le (Nat.le_of_lt_succ I)with h|h
     ·exact O j h
     ·subst h;exact⟨by unfold jv;exact decide_eq_true Jy,fun H=>by unfold digit;exact decide_eq_false Jy⟩⟩
   (have E:=dF D);refine bn (aj (ns (ar q (bV (bf (bf (bV (bf ?_))))))));exact iM trivial q q ⟨oL (by cases hh:fu s with|false=>rfl|true=>(exfalso;have hl:=gM hh;have P:=i7 hh;have U:=kX hh i Jy;rcases Nat.eq_zero_or_pos i with H|H<;>omega)),q⟩
  (have L:=dF A);refine sk A (sk A (sg q (bA q A q) (st _ (bA q q q) (mv q (sg q (bg q) (sg q (nL q q) (st _ (bA q q q) (nt ?_))))))));refine cL q (fun D=>?_) (fun D=>?_)
  ·(have E:=dT D);refine dw (bW (eu (aj (aQ (mv q (st _ (eX q q Jy) (an q (next (i+1) Jy ⟨q,ew q Oq,tV⟩ ?_))))))))
   exact⟨q,by omega,fun j I=>by
    rcases Nat.lt_or_eq_of_le (Nat.le_of_lt_succ I)with h|h
    ·exact O j h
    ·subst h;exact⟨by unfold jv;exact decide_eq_true Jy,fun H=>by unfold digit;exact decide_eq_false Jy⟩⟩
  (have E:=dF D);refine bn (aj (ns (ar q (bV (bf (bf (bV (bf ?_))))))));exact iM trivial q q ⟨oL (by cases hh:fu s with|false=>rfl|true=>(exfalso;have hl:=gM hh;have P:=i7 hh;have U:=kX hh i Jy;rcases Nat.eq_zero_or_pos i with H|H<;>omega)),q⟩
 (have W:=dF V);refine dw (bW (bW (eu (aj (nm q (st _ (tu q u9) (st _ (rJ q q) (mv q ?_))))))));refine cQ (t:=39) q (fun G=>?_) (fun G=>?_)
 ·(have T:=dT G);refine sg G (bg q) (sg G (tu q u9) (sg G (wS q q) (st _ (bR q G q) (ar q ?_))));exact iM trivial q q ⟨oL (abz Jy (fun j I=>O j Jy)),q⟩
 (have T:=dF G);refine sk G (sk G (sk G (st _ (bA q G q) (ar q ?_))));exact iM trivial q q ⟨oL (by cases hh:fu s with|false=>rfl|true=>(exfalso;have hl:=gM hh;have P:=i7 hh;omega)),q⟩
theorem fV:fP Zp 56 2=true:=Ym
theorem afn:dJ Zp 114=true:=Ym
theorem wN:fO Zp 56=some [(0,1),(1,1)]:=Ym
theorem z56:eO Zp 56=some [.string ByteArray.empty,.string ByteArray.empty]:=Ym
theorem RY (v:Value) (l:Ly) (w:World) (hB:By w v l) (hl:l.length≤4611686018427387904) :
  Calls Zp 147 #[v] w fun e w'=>e = .returned (.tuple #[ng (nP l),.int .i64 (gT l)])∧Md [] w w':=by
 have V:=hB.eY;have M:=Md.refl [] w;refine enter (n:=41) Tryz.func147 q q q fun B=>ns (cE z56 ?_);intro U a N Z E A;replace N:=lj M.size N;replace M:=M.k E;refine an q (aH (ns (di q (nt (bK ?_)))));refine jQ (X:=Nat) (fun i=>[(0,v),(2,.pointer (some ⟨U,0,none⟩)),(4,.int .i64 i)]) (fun i w'=>Md [] w w'∧cG w' U [.string ByteArray.empty,.string ByteArray.empty] 56∧i≤l.length∧∀j,j<i→l.getD j 0≠61) (fun i=>l.length-i) 0 ?_ ?_ ?_
 ·exact⟨q,q,q,tV⟩
 ·exact⟨M,A,by omega,fun j T=>by omega⟩
 clear M
 clear A;rintro i B b ⟨M,A,Y,Q⟩;refine aH (ns (m2 q q (sL q fE hB.ep (st _ (qB q q) (nt ?_)))));refine cL q (fun R=>?_) (fun R=>?_)
 ·(have S:=dT R);refine bn (aj (aH (bK (aH (ns (m2 q q (st _ (zK q q fE mL hB.ep Jy) (st _ (zL q pX (hB.o M) Jy) (st _ (RF q q) (nt ?_))))))))));refine cL q (fun H=>?_) (fun H=>?_)
  ·(have F:=dT H);refine dw (bW (eu (aj (aQ (mv q (st _ (eX q q Jy) (an q (next (i+1) Jy ⟨q,q,ew q Oq,tV⟩ ?_))))))))
   exact⟨M,A,by omega,fun j T=>by
    rcases Nat.lt_or_eq_of_le (Nat.le_of_lt_succ T)with h|h
    ·exact Q j h
    ·subst h;intro W;apply F;rw[Int.toNat_natCast,W];rfl⟩
  (have F:=dF H);have O:=F;rw[Int.toNat_natCast]at O;have G:Lib.indexByte l 61=i:=aic Jy (UInt8.toNat_inj.1 (by show _=61;omega)) Q;refine bn (aj (aH (ns (m2 q q (st _ (mI 0 i fE mL q hB.ep Jy Jy q ⟨_,q⟩) (st _ (nk fE u5 u9 q ((hB.head i Jy).o M)) (ak afn q (HG (l.take i) _ Zy) ?_)))))));rintro e _ ⟨rfl,rfl⟩;refine rv ?_;refine st _ (k9 q) (nt ?_);refine cL q (fun I=>?_) (fun I=>?_)
  ·(have D:=gK I);refine ns (st (.agg [_,_].toArray) (jP (ps:=[]) z56 wN q q trivial q q q) (fD q q (by exact fV) (by simp[ng,str,Value.oneCell']) A (by rfl) ?_));have K:=A;clear A;intro c E A;replace M:=M.eF E N;refine ar q (bf (bV (bf (bf (bV (bf ?_))))));have C:gT l=20:=(by unfold gT;rw[G,if_neg Jy,Int.toNat_natCast,if_pos D]);have L:=pD (s:=l) (by rw[C];decide);exact yU trivial q q (by exact fV) A q ⟨by rw[C,L];rfl,M⟩
  (have D:=gG I);refine bn (aj (aH (nm q (sL q fE hB.ep (mv q (st _ (kJ q q Jy) (st _ (kJ q q Jy) (st _ (uG q q) (nt ?_)))))))));refine cL q (fun J=>?_) (fun J=>?_)
  ·(have P:=dT J);refine ns (st (.agg [_,_].toArray) (jP (ps:=[]) z56 wN q q trivial q q q) (fD q q (by exact fV) (by simp[ng,str,Value.oneCell']) A (by rfl) ?_));have K:=A;clear A;intro d E A;replace M:=M.eF E N;refine ar q (bf (bV (bf (bf (bV (bf ?_))))));have C:gT l=21:=(by unfold gT;rw[G,if_neg Jy,Int.toNat_natCast,if_neg (by simp[D]),if_pos Zy]);have L:=pD (s:=l) (by rw[C];decide);exact yU trivial q q (by exact fV) A q ⟨by rw[C,L];rfl,M⟩
  (have P:=dF J);refine bn (aj (aH (AI [(0,true),(1,true),(2,true),(3,true),(4,true),(5,true),(6,true),(7,true),(8,true),(9,true),(10,false),(11,true)] (fun w'=>By w' v l) dU Ym ?_)));intro f E;obtain⟨A,M⟩:=k2 E A M;refine⟨(hB.o M),?_⟩;refine m _ (fun w' C=>bg q) (m _ (fun w' C=>bg q) (m _ (fun w' C=>mI 0 i fE mL q hB.ep Jy Jy q ⟨_,q⟩) (m _ (fun w' C=>nk fE u5 u9 q (By.head C i Jy)) (m _ (fun w' C=>bg q) (m _ (fun w' C=>bg q) (m _ (fun w' C=>(eX q q Jy).jF (show _=((i+1:Nat):Int)from by simp)) (m _ (fun w' C=>mI (i+1) l.length fE mL q hB.ep Jy Jy ⟨_,q⟩ q) (m _ (fun w' C=>nk fE u5 u9 q (By.tail C (i+1) Jy)) (m (.agg [_,_].toArray) (fun w' C=>jP (ps:=[(0,0),(1,1)]) z56 wN q q ⟨q,q,tV⟩ q q q) ?_)))))))));refine kG ?_ rfl;refine fD q q (by exact fV) (by simp[ng,str,Value.oneCell']) A (by rfl) ?_;have K:=A;clear A;intro g E A;replace M:=M.eF E N;refine ay ⟨q,(hB.o M),?_⟩;refine m _ (fun w' C=>fC q) (dX (aj (jL (bV (bf (bf (bV (bf ?_))))))));have C:gT l=0:=(by unfold gT;rw[G,if_neg Jy,Int.toNat_natCast,if_neg (by simp[D]),if_neg Zy]);have L:nP l=(l.take i,l.drop (i+1)):=(by unfold nP;rw[if_pos C,G,Int.toNat_natCast]);exact yU trivial q q (by exact fV) A q ⟨by rw[C,L];rfl,M⟩
 (have S:=dF R);refine dw (bW (bW (eu (aj (ns (st (.agg [_,_].toArray) (jP (ps:=[]) z56 wN q q trivial q q q) (fD q q (by exact fV) (by simp[ng,str,Value.oneCell']) A (by rfl) ?_)))))));have K:=A;clear A;intro k E A;replace M:=M.eF E N;refine ar q ?_;have C:gT l=20:=(by unfold gT;rw[if_pos (adQ fun j T=>Q j Jy)]);have L:=pD (s:=l) (by rw[C];decide);exact yU trivial q q (by exact fV) A q ⟨by rw[C,L];rfl,M⟩
end Go.Proofs.YtbmmkbejcnalcaaGreat
namespace Go.Wk
open Go Go.RowKit
def QV (v:Value):List PanicEntry:=[{v,recovered:=false}]
def M1 (P:Program) (t:TypeId):Bool:=match P.underlying t with|some (.interface _)=>true|_=>false
def CK (P:Program) (t:TypeId):Bool:=match P.underlying t with|some (.interface _)=>false|some _=>true|none=>false
theorem yN {P:Program} {t:TypeId} (h:CK P t=true):∃X,P.underlying t=some X∧∀Y,X≠.interface Y:=by
  unfold CK at h
  split at h
  · cases h
  · rename_i X h1 h2;exact⟨X,h2,fun Y e=>h1 Y e⟩
  cases h
theorem BL {P:Program} {t:TypeId} (h:M1 P t=true):∃X,P.underlying t=some (.interface X):=by
  unfold M1 at h
  split at h
  · exact⟨_,by assumption⟩
  cases h
section
variable {P:Program} {ops:Array Oper} {Q:Exit→Act→World→Prop} {rest:List Oper}
variable {n:Nat} {A:Fr n} {D:List Deferred} {l:List (Nat × Value)} {w:World}
variable {d:Tmp} {op:Op} {ty:TypeId} {ps:String} {af:Array Edge} {g:Option (Nat × Bool)}
theorem door {vs:List Value} {m:Nat} (hn:m=n) (hle:Nat.ble vs.length n=true) :
    ∃B:Fr n,b9 B [] (sH 0 vs)={tmps:=vs.toArray ++ Array.replicate (m-vs.toArray.size) undef,defers:=[]}:=by
  have hle':vs.length≤n:=lB hle
  have D:(vs.toArray ++ Array.replicate (m-vs.toArray.size) undef).size=n:=by simp[hn];omega
  refine⟨⟨_,D⟩,GN ?_⟩
  intro p G
  obtain⟨j,E,F⟩:=CF G
  obtain⟨A,C⟩:=List.getElem?_eq_some_iff.1 F
  simp only[E,Nat.zero_add,Array.getD]
  rw[dif_pos Zy]
  show(vs.toArray ++ _)[j]'_=_
  rw[Array.getElem_append_left (by simpa using A)]
  simpa using C
theorem afO {f:FuncId} {fn:Func} {c:Code} {vs:List Value} {R:Ending→World→Prop} (hf:P.funcs[f]? = some fn) (hb:fn.body=some c) (hn:fn.ntmps=n) (hle:Nat.ble vs.length n=true)
    (h:∀B:Fr n,c.wp P (bodyPostD P fn R) (b9 B [] (sH 0 vs)) w):Calls P f vs.toArray w R:=by
  refine calls_of_wp_defers hf hb ?_
  obtain⟨B,A⟩:=door hn hle
  rw[← A];exact h B
theorem afP {f:FuncId} {fn:Func} {c:Code} {vs:List Value} {u:FrameMode} {R:Ending→FrameMode→World→Prop} (hf:P.funcs[f]? = some fn) (hb:fn.body=some c) (hn:fn.ntmps=n) (hle:Nat.ble vs.length n=true)
    (h:∀(B:Fr n) (c₀:Go.Frame) (cs:List Go.Frame),c₀.mode=u→c.wpS P (bodyPostS P fn c₀ cs R) (b9 B [] (sH 0 vs)) (c₀ :: cs) w):CallsD P f vs.toArray u w R:=by
  refine callsD_of_wpS hf hb fun c₀ cs C=>?_
  obtain⟨B,A⟩:=door hn hle
  rw[← A];exact h B c₀ cs C
theorem t7 {f:FuncId} {xs:List Operand} {vs:List Value} {d':Option Tmp} (hx:evs n l xs=some vs) :
    dr P ⟨d',.makeFunc (.func f) #[] xs.toArray,ty,ps,af,g⟩ (b9 A D l).eval w (.func (.func f) #[] vs.toArray):=by
  have B:=mX (A:=A) (D:=D) hx
  simp[dr,execOp,Instr.makeFunc,B]
theorem YG (dd:Deferred) (v:Option Tmp) (x:Value):({b9 A D l with defers:=dd :: (b9 A D l).defers}.put v x)=match v with|some t=>b9 A (dd :: D) ((t,x) :: l)|none=>b9 A (dd :: D) l:=by
  have B:∀l:List (Nat × Value),({b9 A D l with defers:=dd :: (b9 A D l).defers}:Act)=b9 A (dd :: D) l:=by
    intro l
    rw[gh]
    induction l with
    | nil=>rfl
    | cons p r ih=>simp only[b9,Act.put]at ih ⊢;simp only[← ih]
  rw[B]
  cases v <;> rfl
theorem acP {f:FuncId} {c:Operand} {ts:Array TypeId} {cs:List Value} {d':Option Tmp} (hc:ev n l c=some (.func (.func f) #[] cs.toArray))
    (k:wpList P ops Q rest (match d' with|some t=>b9 A (⟨.fn (.func f) cs.toArray,#[]⟩ :: D) ((t,undef) :: l)|none=>b9 A (⟨.fn (.func f) cs.toArray,#[]⟩ :: D) l) w) :
    wpList P ops Q (⟨d',.defer {callee:=.value c,args:=#[],argTypes:=ts},ty,ps,af,none⟩ :: rest) (b9 A D l) w:=by
  refine gO q ?_
  unfold Oper.wp
  have B:(execOp (b9 A D l).eval ⟨d',.defer {callee:=.value c,args:=#[],argTypes:=ts},ty,ps,af,none⟩).run P w = .ok (.defer ⟨.fn (.func f) cs.toArray,#[]⟩) w:=by
    simp[execOp,resolve,cO hc,Deferred.ofValue]
  rw[B]
  show wpList P ops Q rest ({b9 A D l with defers:=_ :: (b9 A D l).defers}.put d' undef) w
  rw[YG]
  cases d' <;> exact k
theorem ZE {f:FuncId} {c:Operand} {xs:List Operand} {ts:Array TypeId} {vs cs:List Value} {R:Ending→World→Prop} {d':Option Tmp} (hc:ev n l c=some (.func (.func f) #[] cs.toArray)) (hf:dJ P f=true) (ha:evs n l xs=some vs) (hr:Calls P f (vs ++ cs).toArray w R)
    (k:∀e w',R e w'→(∃v,e = .returned v∧wpList P ops Q rest ((b9 A D l).put d' v) w')∨∃ch,e = .panicked ch∧Q (.panic ch) (b9 A D l) w') :
    wpList P ops Q (⟨d',.call {callee:=.value c,args:=xs.toArray,argTypes:=ts},ty,ps,af,none⟩ :: rest) (b9 A D l) w:=by
  refine gO q ?_
  unfold Oper.wp
  have E:=mX (A:=A) (D:=D) ha
  have B:(execOp (b9 A D l).eval ⟨d',.call {callee:=.value c,args:=xs.toArray,argTypes:=ts},ty,ps,af,none⟩).run P w = .ok (.enter f (vs ++ cs).toArray) w:=by
    simp only[execOp,resolve,cO hc,Deferred.ofValue,List.map_toArray,E]
    simp[invoke,pz hf]
  rw[B]
  refine hr.mono fun e w' C=>?_
  rcases k e w' C with⟨v,rfl,hk⟩|⟨ch,rfl,hk⟩
  · exact hk
  exact hk
theorem lO {f:FuncId} {xs:List Operand} {ts:Array TypeId} {vs:List Value} {R:Ending→World→Prop} (hf:dJ P f=true) (ha:evs n l xs=some vs) (hr:Calls P f vs.toArray w R)
    (k:∀e w',R e w'→(∃v,e = .returned v∧wpList P ops Q rest (b9 A D ((d,v) :: l)) w')∨∃ch,e = .panicked ch∧Q (.panic ch) (b9 A D l) w') :
    wpList P ops Q (⟨some d,.call {callee:=.value (.func f),args:=xs.toArray,argTypes:=ts},ty,ps,af,none⟩ :: rest) (b9 A D l) w:=by
  refine gO q ?_
  unfold Oper.wp
  rw[xA hf ha]
  refine hr.mono fun e w' B=>?_
  rcases k e w' B with⟨v,rfl,hk⟩|⟨ch,rfl,hk⟩
  · exact hk
  exact hk
theorem nM {x:Operand} {t:TypeId} {v:Value} {d':Option Tmp} (hT:CK P t=true) (hx:ev n l x=some v) :
    dr P ⟨d',.makeInterface t x,ty,ps,af,g⟩ (b9 A D l).eval w (.iface t v):=by
  obtain⟨X,hT,B⟩:=yN hT
  cases X <;> simp_all [dr,execOp,cO hx,Instr.makeInterface,run_underlying hT]
theorem pU {x:Operand} {t:TypeId} {v:Value} {d':Option Tmp} (hx:ev n l x=some (.iface t v)) (k:Q (.panic (QV (.iface t v))) (b9 A D l) w) :
    wpList P ops Q (⟨d',.panic x,ty,ps,af,none⟩ :: rest) (b9 A D l) w:=by
  refine gO q ?_
  unfold Oper.wp
  have B:(execOp (b9 A D l).eval ⟨d',.panic x,ty,ps,af,none⟩).run P w = .halt (.panic (.iface t v)) w:=by
    simp[execOp,cO hx,Instr.panic,goPanic]
  rw[B];exact k
theorem iA {fn:Func} {R:Ending→World→Prop} {ch:List PanicEntry} (h:R (.panicked ch) w):bodyPost P fn R (.panic ch) (b9 A [] l) w:=⟨gh,h⟩
theorem adC {t s:TypeId} {v:Value} {X} (w:World) (dd:Nat) (hT:P.underlying t=some (.interface X)):(Op.equalIn (dd+1) t (.iface s v) .nilIface).run P w = .ok false w:=by
  simp only[Op.equalIn,Sem.run_bind,run_underlying hT,Result.andThen_ok,Sem.run_pure]
theorem adB {t:TypeId} {X} (w:World) (dd:Nat) (hT:P.underlying t=some (.interface X)):(Op.equalIn (dd+1) t .nilIface .nilIface).run P w = .ok true w:=by
  simp only[Op.equalIn,Sem.run_bind,run_underlying hT,Result.andThen_ok,Sem.run_pure]
theorem ae0 {x:Operand} {t u s:TypeId} {v:Value} (hx:ev n l x=some (.iface s v)) (hT:M1 P t=true) :
    dr P ⟨some d,.binOp .neq t x (.const .nilIface) u,ty,ps,af,g⟩ (b9 A D l).eval w (.bool true):=by
  obtain⟨X,hT⟩:=BL hT
  have C:(b9 A D l).eval (.const .nilIface) = .nilIface:=rfl
  have E:(eqGuard .neq t x (.const .nilIface) (.iface s v) .nilIface).run P w = .ok () w:=by unfold eqGuard;simp
  have B:(binOp .neq t (.iface s v) .nilIface).run P w = .ok (.bool true) w:=by
    simp only[binOp,Op.equal,Op.maxDepth,Sem.run_bind,adC w 9999 hT,Result.andThen_ok,Sem.run_pure,Bool.not_false]
  simp[dr,execOp,cO hx,C,E,B]
theorem ae1 {x:Operand} {t u:TypeId} (hx:ev n l x=some .nilIface) (hT:M1 P t=true) :
    dr P ⟨some d,.binOp .neq t x (.const .nilIface) u,ty,ps,af,g⟩ (b9 A D l).eval w (.bool false):=by
  obtain⟨X,hT⟩:=BL hT
  have C:(b9 A D l).eval (.const .nilIface) = .nilIface:=rfl
  have E:(eqGuard .neq t x (.const .nilIface) .nilIface .nilIface).run P w = .ok () w:=by unfold eqGuard;simp
  have B:(binOp .neq t .nilIface .nilIface).run P w = .ok (.bool false) w:=by
    simp only[binOp,Op.equal,Op.maxDepth,Sem.run_bind,adB w 9999 hT,Result.andThen_ok,Sem.run_pure,Bool.not_true]
  simp[dr,execOp,cO hx,C,E,B]
end
section
variable {P:Program} {ops:Array Oper} {QS:Exit→Act→List Go.Frame→World→Prop} {cs:List Go.Frame} {rest:List Nat}
variable {n:Nat} {A:Fr n} {D:List Deferred} {l:List (Nat × Value)} {w:World}
theorem acO {i d:Nat} {o:Oper} (v:Value) (ho:ops[i]? = some o) (hg:o.guard=none) (hd:o.dst=some d) (hr:dr P o (b9 A D l).eval w v) (k:wpOpsS P ops QS rest (b9 A D ((d,v) :: l)) cs w) :
    wpOpsS P ops QS (i :: rest) (b9 A D l) cs w:=by
  have B:Region.wanted o (yielded ops (b9 A D l).tmps)=true:=by simp[Region.wanted,hg]
  unfold dr at hr
  simp only[wpOpsS,ho,B,if_true,hr,Oper.upon,hd]
  exact k
theorem ag9 {i d:Nat} {o:Oper} {ts:Array TypeId} (ho:ops[i]? = some o) (hg:o.guard=none) (hd:o.dst=some d) (hop:o.op = .call {callee:=.builtin .recover,args:=#[],argTypes:=ts}) {v:Value} {older:List PanicEntry} {c:Go.Frame} {cs':List Go.Frame} (hcs:cs=c :: cs')
    (hm:c.mode = .panicking ({v,recovered:=false} :: older)) (k:wpOpsS P ops QS rest (b9 A D ((d,v) :: l)) ({c with mode:=.panicking ({v,recovered:=true} :: older)} :: cs') w) :
    wpOpsS P ops QS (i :: rest) (b9 A D l) cs w:=by
  have E:Region.wanted o (yielded ops (b9 A D l).tmps)=true:=by simp[Region.wanted,hg]
  have C:(execOp (b9 A D l).eval o).run P w = .ok .recover w:=by
    simp[execOp,hop,resolve,invoke,builtin]
  subst hcs
  have B:recoverD (c :: cs')=some (v,{c with mode:=.panicking ({v,recovered:=true} :: older)} :: cs'):=by simp[recoverD,hm]
  simp only[wpOpsS,ho,E,if_true,C,B,hd]
  exact k
theorem aeJ {i d:Nat} {o:Oper} {ts:Array TypeId} (ho:ops[i]? = some o) (hg:o.guard=none) (hd:o.dst=some d) (hop:o.op = .call {callee:=.builtin .recover,args:=#[],argTypes:=ts}) {c:Go.Frame} {cs':List Go.Frame} (hcs:cs=c :: cs')
    (hm:c.mode = .returning) (k:wpOpsS P ops QS rest (b9 A D ((d,.nilIface) :: l)) cs w) :
    wpOpsS P ops QS (i :: rest) (b9 A D l) cs w:=by
  have E:Region.wanted o (yielded ops (b9 A D l).tmps)=true:=by simp[Region.wanted,hg]
  have C:(execOp (b9 A D l).eval o).run P w = .ok .recover w:=by
    simp[execOp,hop,resolve,invoke,builtin]
  subst hcs
  have B:recoverD (c :: cs')=none:=by simp[recoverD,hm]
  simp only[wpOpsS,ho,E,if_true,C,B,hd]
  exact k
theorem acN (k:QS .normal (b9 A D l) cs w):wpOpsS P ops QS [] (b9 A D l) cs w:=k
end
section
variable {P:Program} {n:Nat} {A:Fr n} {l:List (Nat × Value)} {w:World}
theorem ai3 {fn:Func} {c₀:Go.Frame} {cs:List Go.Frame} {R:Ending→FrameMode→World→Prop} {u':FrameMode} {e:Exit} (he:rX e) (hr:fn.results = #[]) (hR:R (.returned (.tuple #[])) u' w) :
    bodyPostS P fn c₀ cs R e (b9 A [] l) ({c₀ with mode:=u'} :: cs) w:=by
  have h:=qj (P:=P) (w:=w) (A:=A) (D:=[]) (l:=l) (fn:=fn) (rs:=[]) (vs:=[]) hr trivial
  cases e with
  | normal=>exact⟨gh,u',q,_,h,hR⟩
  | ret=>exact⟨gh,u',q,_,h,hR⟩
  | _=>exact he.elim
theorem ai4 {fn:Func} {c₀:Go.Frame} {cs:List Go.Frame} {R:Ending→FrameMode→World→Prop} {u:FrameMode} {e:Exit} (hc:c₀.mode=u) (he:rX e) (hr:fn.results = #[]) (hR:R (.returned (.tuple #[])) u w) :
    bodyPostS P fn c₀ cs R e (b9 A [] l) (c₀ :: cs) w:=by
  have h:({c₀ with mode:=u}:Go.Frame)=c₀:=by subst hc;rfl
  have:=ai3 (P:=P) (A:=A) (l:=l) (c₀:=c₀) (cs:=cs) (u':=u) he hr hR
  rwa [h]at this
theorem leave1 {fn:Func} {R:Ending→World→Prop} {t ty:Nat} {d:Deferred} {u:FrameMode} {f:FuncId} {cs:List Value} (hu:u≠.run) (hd:d=⟨.fn (.func f) cs.toArray,#[]⟩) (hf:dJ P f=true) (hr:fn.results = #[.cell t ty]) {p:Addr} (ht:ev n l (.tmp t)=some (.pointer (some p)))
    (h:CallsD P f cs.toArray u w fun e u' w'=>e = .returned (.tuple #[])∧settle u' = .returning∧∃v,(loadVar ty p).run P w' = .ok v w'∧R (.returned v) w') :
    Leaves P fn (b9 A [d] l).tmps R [d] u w:=by
  subst hd
  refine leaves_cons hu (f:=f) (args:=cs.toArray) (by simp[invoke,pz hf]) (h.mono ?_)
  rintro e u' w' ⟨rfl,C,v,D,B⟩
  show Leaves P fn _ R [] (settle u') w'
  rw[C]
  exact⟨v,qj (A:=A) (rs:=[.cell t ty]) (vs:=[v]) hr ⟨⟨p,ht,D⟩,tV⟩,B⟩
end
section
variable {P:Program} {n:Nat} {A:Fr n} {D:List Deferred} {l:List (Nat × Value)} {w:World} {d:Option Tmp} {ty:TypeId} {ps:String} {af:Array Edge} {g:Option (Nat × Bool)}
theorem YV {x:Operand} {t a:TypeId} {v:Value} (hT:CK P a=true) (hx:ev n l x=some (.iface a v)) :
    dr P ⟨d,.typeAssert x t a true,ty,ps,af,g⟩ (b9 A D l).eval w (.tuple #[v,.bool true]):=by
  obtain⟨X,hT,B⟩:=yN hT
  cases X <;> simp_all [dr,execOp,cO hx,Instr.typeAssert,run_underlying hT]
end
end Go.Wk
namespace Go.Proofs.YtbmmkbejcnalcaaGreat
open Go Go.Wk Go.RowKit
set_option linter.unusedVariables false
set_option linter.unusedSimpArgs false
attribute [local irreducible] wpList wpQuiet wpStill gw Code.wp Calls bodyPost
variable {w:World} {Q:Nat→Prop}
theorem p8 (uQ:Up w Q) {v0:Value} {l:Ly} (h0:Ls eV w Q v0 l) (a:Int) (a1:(-9223372036854775808≤a∧a<9223372036854775808)) (n:Int) (a2:(-9223372036854775808≤n∧n<9223372036854775808)) :
  Calls Zp 69 #[v0,(.int .i64 (a:Int)),(.int .i64 (n:Int))] w fun en w'=>∃r0:Nat,∃r1:Bool,en = .returned (.tuple #[(.int .u64 r0),(.bool r1)])∧Md [] w w'∧r0<18446744073709551616∧pu l a n=(r0,r1):=by
 have p:=h0.eY;have M:=Md.refl [] w;have j:=uQ;have P:∀b,Q b→Q b:=fun _ h=>h;have F:∀b,Q b→b<w.heap.size→Q b:=fun _ h _=>h;refine enter (n:=42) Tryz.func69 q q q fun B=>ns (di q (an q (aH (nm q (ak ahZ q (QG uQ (n) Jy) ?_)))));rintro en u ⟨Z,rfl,R,d⟩;refine rv ?_;obtain⟨h0,uQ,M⟩:=k3 R h0 uQ M;refine st _ (k9 q) (mv q ?_);refine cQ (t:=13) q (fun C=>?_) (fun C=>?_)
 ·(have J:=gK C);refine sk C (sk C (st _ (bR q C q) (mv q (sk q (sk q (sk q (sk q (sk q (sk q (st _ (bR q q q) (nt (fM q q (ns ?_)))))))))))));refine di q (ar q (bf ?_));exact dQ (vs:=[(.int .u64 ((0:Nat):Int)),(.bool false)]) trivial q ⟨q,q,tV⟩ q ⟨0,false,q,M,Jy,(zv (by rintro⟨U,V,W⟩;simp_all))⟩
 ·(have J:=gG C);refine sg C (bg q) (sg C (qB (a:=a) (b:=0) q q) (st _ (bA q C q) (mv q ?_)));refine cQ (t:=17) q (fun A=>?_) (fun A=>?_)
  ·(have K:=dT A);refine sk A (sk A (sk A (sk A (sk A (sk A (st _ (bR q A q) (nt (fM q q (ns (di q (ar q ?_)))))))))));refine bf ?_;exact dQ (vs:=[(.int .u64 ((0:Nat):Int)),(.bool false)]) trivial q ⟨q,q,tV⟩ q ⟨0,false,q,M,Jy,(zv (by rintro⟨U,V,W⟩;omega))⟩
  ·(have K:=dF A);have e:=yx (n:=n) (by simp_all);refine sg A (bg q) (sg A (bg q) (sg A (ji q fE h0.ep) (sg A (bg q) (sg A (kJ (a:=((l.length:Nat):Int)) (b:=n) q q Jy) (sg A (uG (a:=a) (b:=((l.length:Nat):Int)-n) q q) (st _ (bA q A q) (nt ?_)))))));refine cL q (fun G=>?_) (fun G=>?_)
   ·(have L:=dT G);refine ns (di q (ar q (bf ?_)));exact dQ (vs:=[(.int .u64 ((0:Nat):Int)),(.bool false)]) trivial q ⟨q,q,tV⟩ q ⟨0,false,q,M,Jy,(zv (by rintro⟨U,V,W⟩;omega))⟩
   ·(have L:=dF G);refine bn (aj (aH ?_));have T:oN n=true∧0≤a∧a+n≤l.length:=⟨by simp_all,by omega,by omega⟩;have e:=yx T.1;refine aQ (an q (aH (nm q (st _ (kJ (a:=n) (b:=1) q q Jy) (di q (nt (bK ?_)))))))
    refine qR (fun(v:Nat) (i:Int)=>[(8,(.int .u64 v)),(9,(.int .i64 (i:Int))),(0,v0),(1,(.int .i64 (a:Int))),(6,(.int .u64 ((0:Nat):Int))),(7,(.bool false))]) (fun(v:Nat) (i:Int) w'=>∃Q':Nat→Prop,(∀b,Q' b→Q b)∧(∀b,Q b→b<w.heap.size→Q' b)∧Up w' Q'∧Md [] w w'∧Ls eV w' Q' v0 l∧(-1≤i∧i<n)∧v=BP ((l.drop (a+(i+1)).toNat).take (n-1-i).toNat)∧v<18446744073709551616) (fun(v:Nat) (i:Int)=>(i+1).toNat) (x0:=0) (x1:=(n-1)) ?_ ?_ ?_
    ·exact⟨q,q,q,q,q,q,tV⟩
    ·exact⟨Q,P,F,uQ,M,h0,Jy,(by simp[show n-1-(n-1)=0 by omega,BP]),Jy⟩
    ·clear M uQ P F h0
     rintro v i B x ⟨c,P,F,uQ,M,h0,X,D,Y⟩;refine aH (nm q (st _ (rJ (a:=i) (b:=0) q q) (nt ?_)));refine cL q (fun H=>?_) (fun H=>?_)
     ·(have N:=dT H);have f:=uh (l:=(l.drop (a+(i+1)).toNat).take (n-1-i).toNat) (k:=7) Zy;rw[← D]at f;refine bn (aj (aH (bK (aQ (mv q (st _ (agz (a:=v) (b:=8) 18446744073709551616 q q 64 q q q Jy) (m2 q q (mv q (st _ (eX (a:=a) (b:=i) q q Jy) (st _ (tq (i:=a+i) 1 q q fE mL h0.ep Jy) ?_))))))))));obtain⟨I,O⟩:=eP (l:=l) (i:=(a+i).toNat) Jy;obtain⟨r,S,E⟩:=h0.get O;obtain⟨rfl,_⟩:=S;have o:=UInt8.toNat_lt I;replace E:At _ v0 (((a+i).toNat)*1) [(b8 I)]:=E;refine st _ ((dh (kk:=((a+i).toNat)*1) 0 q q pX E q).to (b:=(b8 I)) q) (st _ (dI (a:=I.toNat) 18446744073709551616 q (by rw[u5];rfl) lg q (lq (UInt8.toNat_lt _) Kq)) (st _ (aiz (a:=(v*2 ^ 8%18446744073709551616)) (b:=I.toNat) 18446744073709551616 q q q q Jy) (di q (ay ?_))));clear E;refine cw (aj (aQ (mv q (st _ (kJ (a:=i) (b:=1) q q Jy) (an q ?_)))));refine pO (x0:=((v*2 ^ 8%18446744073709551616) ||| I.toNat)) (x1:=(i-1)) Jy ⟨(ew q (by rfl)),(ew q Jy),q,q,q,q,tV⟩ ⟨c,P,F,uQ,M,h0,Jy,(by rw[acI Jy,D];have g:=MO (k:=(n-1-i).toNat) O;rw[show(n-1-(i-1)).toNat=(n-1-i).toNat+1 by omega,show(a+(i-1+1)).toNat=(a+i).toNat by omega,g,show(a+i).toNat+1=(a+(i+1)).toNat by omega]),(by rw[acI Jy];have:=UInt8.toNat_lt I;omega)⟩
     ·(have N:=dF H);refine dw (bW (bW (eu (aj (nm q (di q (ar q ?_)))))));exact dQ (vs:=[(.int .u64 v),(.bool true)]) trivial q ⟨q,q,tV⟩ q ⟨v,true,q,M,Zx,(by rw[pu,if_pos Jy,D,show i = -1 by omega];simp)⟩
theorem fF:fP Zp 103 91=true:=Ym
theorem agW:gX Zp 221 1=true:=Ym
theorem agX:gX Zp 224 1=true:=Ym
theorem afI:yH Zp 221 1 8=true:=Ym
theorem afJ:yH Zp 224 1 8=true:=Ym
theorem TQ:dJ Zp 127=true:=Ym
theorem ahq:dJ Zp 128=true:=Ym
theorem ahr:dJ Zp 129=true:=Ym
theorem ab6:bw Zp 103 0=some 0:=Ym
theorem CO:bw Zp 103 1=some 1:=Ym
theorem GJ:bw Zp 103 10=some 70:=Ym
theorem GK:bw Zp 103 11=some 71:=Ym
theorem GL:bw Zp 103 12=some 72:=Ym
theorem XV:bw Zp 103 13=some 73:=Ym
theorem XW:bw Zp 103 14=some 74:=Ym
theorem XY:bw Zp 103 15=some 75:=Ym
theorem XZ:bw Zp 103 16=some 76:=Ym
theorem Yb:bw Zp 103 17=some 77:=Ym
theorem Yc:bw Zp 103 18=some 78:=Ym
theorem Yd:bw Zp 103 19=some 79:=Ym
theorem ab7:bw Zp 103 2=some 2:=Ym
theorem Yn:bw Zp 103 20=some 80:=Ym
theorem Y2:bw Zp 103 21=some 81:=Ym
theorem Y3:bw Zp 103 22=some 82:=Ym
theorem Y4:bw Zp 103 23=some 83:=Ym
theorem Y5:bw Zp 103 24=some 84:=Ym
theorem Y6:bw Zp 103 25=some 85:=Ym
theorem Y7:bw Zp 103 26=some 86:=Ym
theorem Y8:bw Zp 103 27=some 87:=Ym
theorem YA:bw Zp 103 28=some 88:=Ym
theorem YB:bw Zp 103 29=some 89:=Ym
theorem Nr:bw Zp 103 3=some 3:=Ym
theorem YC:bw Zp 103 30=some 90:=Ym
theorem ab8:bw Zp 103 4=some 19:=Ym
theorem ab9:bw Zp 103 5=some 35:=Ym
theorem abB:bw Zp 103 6=some 51:=Ym
theorem om:bw Zp 103 7=some 67:=Ym
theorem CP:bw Zp 103 8=some 68:=Ym
theorem Nv:bw Zp 103 9=some 69:=Ym
theorem agl:iZ Zp 221=true:=Ym
theorem agm:iZ Zp 224=true:=Ym
theorem sd:fO Zp 103=some [(0,1),(1,1),(2,1),(3,16),(19,16),(35,16),(51,16),(67,1),(68,1),(69,1),(70,1),(71,1),(72,1),(73,1),(74,1),(75,1),(76,1),(77,1),(78,1),(79,1),(80,1),(81,1),(82,1),(83,1),(84,1),(85,1),(86,1),(87,1),(88,1),(89,1),(90,1)]:=Ym
theorem agG:Zp.underlying 219=some (.slice 221):=Ym
theorem agH:Zp.underlying 222=some (.slice 224):=Ym
theorem r6:eO Zp 103=some ([.int .u32 0,.int .u32 0,.int .i64 0] ++ (List.replicate 64 (.int .u8 0) ++ (List.replicate 21 (.int .u64 0) ++ ([.int .u32 0,.int .u32 0,.int .u64 0])))):=Ym
theorem aaR {w:World} {b:Nat}:Calls Zp 128 #[.pointer (some ⟨b,0,none⟩)] w fun en w'=>∃x,en = .returned (.slice (some ⟨x,0,none⟩) 4 4)∧w.heap.size≤x∧Md [] w w'∧cG w' x (ptrs b 3 16 4) 221:=by
 refine enter (n:=16) Tryz.func128 q q q fun B=>ns (an q (aH (dB (ml 12) [12,13] (fun w'=>Md [] w w') dU Ym ?_)));intro I C;refine⟨C,?_⟩;refine mo q (mz (fun w' A=>dc q) (mz (fun w' A=>aP q Nr) (mo q (mz (fun w' A=>dc q) (mz (fun w' A=>aP q ab8) (mo q (mz (fun w' A=>dc q) (mz (fun w' A=>aP q ab9) (mo q (mz (fun w' A=>dc q) (mz (fun w' A=>aP q abB) (dX (qD agG afI Kq q q q (by simp[pF,Value.oneCell']) Kq ?_)))))))))))));intro x G E H D F;refine ar q ?_;exact iM trivial q q ⟨x,q,lj C.size E,C.k D,(show cG G x (ptrs b 3 16 4) 221 from F)⟩
theorem WY {w:World} {b:Nat}:Calls Zp 129 #[.pointer (some ⟨b,0,none⟩)] w fun en w'=>∃x,en = .returned (.slice (some ⟨x,0,none⟩) 21 21)∧w.heap.size≤x∧Md [] w w'∧cG w' x (ptrs b 67 1 21) 224:=by
 refine enter (n:=67) Tryz.func129 q q q fun B=>ns (an q (aH (dB (ml 63) [63,64] (fun w'=>Md [] w w') dU Ym ?_)));intro I C;refine⟨C,?_⟩;refine mo q (mz (fun w' A=>dc q) (mz (fun w' A=>aP q om) (mo q (mz (fun w' A=>dc q) (mz (fun w' A=>aP q CP) (mo q (mz (fun w' A=>dc q) (mz (fun w' A=>aP q Nv) (mo q (mz (fun w' A=>dc q) (mz (fun w' A=>aP q GJ) (mo q (mz (fun w' A=>dc q) ?_)))))))))))));refine mz (fun w' A=>aP q GK) (mo q (mz (fun w' A=>dc q) (mz (fun w' A=>aP q GL) (mo q (mz (fun w' A=>dc q) (mz (fun w' A=>aP q XV) (mo q (mz (fun w' A=>dc q) (mz (fun w' A=>aP q XW) (mo q (mz (fun w' A=>dc q) (mz (fun w' A=>aP q XY) (mo q ?_)))))))))))));refine mz (fun w' A=>dc q) (mz (fun w' A=>aP q XZ) ?_)
 refine mo q (mz (fun w' A=>dc q) (mz (fun w' A=>aP q Yb) (mo q (mz (fun w' A=>dc q) (mz (fun w' A=>aP q Yc) (mo q (mz (fun w' A=>dc q) (mz (fun w' A=>aP q Yd) (mo q (mz (fun w' A=>dc q) (mz (fun w' A=>aP q Yn) (mo q (mz (fun w' A=>dc q) ?_)))))))))))));refine mz (fun w' A=>aP q Y2) (mo q (mz (fun w' A=>dc q) (mz (fun w' A=>aP q Y3) (mo q (mz (fun w' A=>dc q) (mz (fun w' A=>aP q Y4) (mo q (mz (fun w' A=>dc q) (mz (fun w' A=>aP q Y5) (mo q (mz (fun w' A=>dc q) (mz (fun w' A=>aP q Y6) (mo q ?_)))))))))))));refine mz (fun w' A=>dc q) (mz (fun w' A=>aP q Y7) (mo q (mz (fun w' A=>dc q) (mz (fun w' A=>aP q Y8) (dX (qD agH afJ Kq q q q (by simp[pF,Value.oneCell']) Kq ?_))))));intro x G E H D F;refine ar q ?_;exact iM trivial q q ⟨x,q,lj C.size E,C.k D,(show cG G x (ptrs b 67 1 21) 224 from F)⟩
theorem ud {w:World} {Q:Nat→Prop} {b1:Nat} {v0:Value} {l:Ly} (hB:cG w b1 [v0] 31) (h0:Ls eV w Q v0 l) (a:Nat) (ha:a+4≤l.length) :
  Calls Zp 127 #[.int .i64 (a:Int),.pointer (some ⟨b1,0,none⟩)] w fun en w'=>en = .returned (.int .u32 ((at4 l a:Nat):Int))∧Md [] w w':=by
 have L:=h0.eY;refine enter (n:=14) Tryz.func127 q q q fun B=>ns (an q (ns (st _ (aG q gD hB q) (mv q (ak xE q (p8 (Q:=fun _=>True) (fun _ _=>trivial) (h0.sub fun _ _ _=>trivial) (a:Int) Jy 4 Jy) ?_)))));rintro en H ⟨F,G,rfl,D,E,A⟩;refine rv ?_;have C:pu l a 4=(at4 l a,true):=vM (k:=4) (.inl q) ha;rw[C]at A;obtain⟨rfl,rfl⟩:=Prod.mk.inj A;refine mv q (se q q (se q q (di q (an q (nm q (st _ (dI (a:=at4 l a) 4294967296 q (by rw[lg];rfl) yA q (xj _ _)) (ar q ?_)))))));exact iM trivial q q ⟨q,D⟩
set_option maxRecDepth 100000 in
theorem PY (uQ:Up w Q) {v0:Value} {b:Ly} (h00:Ls eV w Q v0 b) (p0:272≤b.length) :
  Calls Zp 101 #[v0] w fun en w'=>∃r0:cA,en = .returned (.agg (cA.cells r0).toArray)∧Md [] w w'∧cA.ok r0∧gB b=r0:=by
 have L:=h00.eY;obtain⟨U,f,F⟩:∃U:Nat→Prop,(∀x,w.heap.size≤x→¬U x)∧Ls eV w U v0 b:=⟨fun x=>x<w.heap.size,fun x h k=>by omega,h00.sub fun x _ h=>h⟩;clear h00;have M:=Md.refl [] w;refine enter (n:=73) Tryz.func101 q q q fun B=>ns (gN q (fW F.cJ) ?_);intro O w1 g1 l1 C A;obtain⟨F,M⟩:=k2 C F M;refine cE r6 ?_;intro S w2 t l2 C E;replace F:=F.o C;obtain⟨Z,hZ,E⟩:∃Z,(cA.cells (jK b 0 0 0 0)).length=Z.length∧cG w2 S Z 103:=⟨_,q,E⟩;have Am:O≠S:=(by have:=A.lt;omega);replace A:=A.o C;replace t:=lj M.size t;replace M:=M.k C;refine nt (ns (st _ (aG q gD A q) (st _ (bX (i:=16) 1 q q fE mL F.ep Jy) ?_)));obtain⟨x,hx⟩:=eP (l:=b) (i:=16) Jy;obtain⟨cx,Aa,R⟩:=F.get hx;obtain⟨rfl,_⟩:=Aa;have ex:b.getD 16 0=x:=(by simp[List.getD,hx]);have lx:=UInt8.toNat_lt x;replace R:At _ v0 (16*1) [(b8 x)]:=R;refine st _ ((dh (kk:=16*1) 0 q q pX R q).to (b:=(b8 x)) q) ?_;clear R;refine st _ (dI (a:=x.toNat) 9223372036854775808 q (by rw[u5];rfl) u3 q Jy) (st (.agg (cA.cells (jK b 0 0 0 0)).toArray) (by rw[show cA.cells (jK b 0 0 0 0)=cA.cells {jK b 0 0 0 0 with state:=x.toNat} by rw[← ex];rfl];exact jP (cs:=cA.cells {jK b 0 0 0 0 with state:=x.toNat}) (ps:=[(2,2)]) r6 sd q q (by simp[pF,Value.oneCell']) q q q) (cE r6 ?_));intro I w3 P l3 C D;replace F:=F.o C;have K:O≠I:=(by have:=A.lt;omega);have J:S≠I:=(by have:=E.lt;omega);obtain⟨A,E⟩:=k2 C A E;replace P:=lj M.size P;replace M:=M.k C;refine fD q q (by exact fF) (fun u hu=>aT cA.one u hu) D q ?_;intro w4 C D;have N:∀x∈[I],¬U x:=(by intro y r;simp at r;subst r;exact f _ P);have Ao:∀x∈[S],¬U x:=(by intro y r;simp at r;subst r;exact f _ t);replace F:=F.md C N;replace A:=A.vq C K;replace E:=E.vq C J;replace M:=M.eF C P;refine nt (aH ?_)
 refine aQ (st _ (RD q) (an q (nm q (wX (cs:=[.pointer (some ⟨O,0,none⟩)]) q TQ q (ud A F 8 Jy) ?_))));rintro en w5 ⟨rfl,C⟩;refine rv ?_;obtain⟨F,A,E,D,M⟩:=k5 C F A E D M;refine mv q (wX (cs:=[.pointer (some ⟨O,0,none⟩)]) q TQ q (ud A F 12 Jy) ?_);rintro en w6 ⟨rfl,C⟩;refine rv ?_;obtain⟨F,A,E,D,M⟩:=k5 C F A E D M;refine sf q ab6 (bE q q gU q D (by(show _<91;decide)) ?_);intro w7 C D;replace F:=F.md C N;replace A:=A.vq C K;replace E:=E.vq C J;replace M:=M.eF C P;refine sf q CO (bE q q gU q D (by(show _<91;decide)) ?_);intro w8 C D;replace F:=F.md C N;replace A:=A.vq C K;replace E:=E.vq C J;replace M:=M.eF C P;replace D:cG w8 I (cA.cells (jK b (at4 b 8) (at4 b 12) 0 0)) 103:=D;refine nt (ns (an q (aH (ns (ak ahq q (aaR (b:=I)) ?_)))));rintro en w9 ⟨Y,rfl,gi,C,G⟩;refine rv ?_;have Ac:Y≠I:=(by have:=D.lt;omega);obtain⟨F,A,E,D⟩:=k4 C F A E D;replace gi:=lj M.size gi;replace M:=M.k C;have g:VY (.slice (some ⟨Y,0,none⟩) 4 4) 4:=⟨_,_,q,Nat.le_refl _,by simp[maxLen],by simp⟩;refine sL q agG g (mv q (nt (bK ?_)))
 refine qR (fun(k:Nat) (a:Nat)=>[(24,(.int .i64 k)),(5,(.int .i64 a)),(1,.pointer (some ⟨O,0,none⟩)),(2,.pointer (some ⟨S,0,none⟩)),(3,.pointer (some ⟨I,0,none⟩)),(4,.func (.func 127) #[] #[.pointer (some ⟨O,0,none⟩)]),(22,.slice (some ⟨Y,0,none⟩) 4 4),(23,.int .i64 ((4:Nat):Int))])
  (fun(k:Nat) (a:Nat) w'=>Md [] w w'∧Ls eV w' U v0 b∧cG w' O [v0] 31∧cG w' S Z 103∧cG w' I (cA.cells (jK b (at4 b 8) (at4 b 12) k 0)) 103∧cG w' Y (ptrs I 3 16 4) 221∧k≤4∧a=24+16*k) (fun(k:Nat) (a:Nat)=>4-k) (x0:=0) (x1:=24) ?_ ?_ ?_
 ·exact⟨q,q,q,q,q,q,q,q,tV⟩
 ·exact⟨M,F,A,E,D,G,by omega,q⟩
 clear M F A E D G
 rintro k a B Aq ⟨M,F,A,E,D,G,hk,p⟩;refine ns (st _ (eD (a:=k) (b:=4) q q) (nt (aH ?_)));refine cL q (fun V=>?_) (fun V=>?_)
 ·have d:=dT V
  refine bn (aj (aH (bK (ns (st _ ((bX (i:=k) 1 q q agG agW g Jy).to (b:=.pointer (some ⟨Y,k,none⟩)) (by simp[oc,Addr.nI])) (st _ (aG (b:=Y) (j:=k) (u:=.pointer (some ⟨I,3+k*16,none⟩)) q agl G (NN Jy)) (an q ?_)))))));have v:=F.ep;refine AI [(0,true),(1,true),(2,true),(3,true),(4,true),(5,true),(6,true),(7,false),(8,true),(9,true)] (fun w'=>cG w' O [v0] 31) dU Ym ?_;intro Ar C;obtain⟨F,A,E,D,G,M⟩:=k6 C F A E D G M;refine⟨A,?_⟩;refine mo q (mo q (mz (fun w' X=>dc q) (mz (fun w' X=>gE SL mL q Kq) (mz (fun w' X=>aG q gD X q) (mo q (Go.Wk.m (oO v0 a b.length) (fun w' X=>by exact mI a b.length fE mL q v Jy Jy ⟨_,q⟩ q) ?_))))));refine kG ?_ rfl;have hT:=F.by.tail a Jy;refine zO fE mL q q D hT (xW _) (by have:(cA.cells (jK b (at4 b 8) (at4 b 12) k 0)).length=91:=rfl;simp;omega) ?_;intro As C D;clear hT;rw[← List.map_take,p,aaZ Jy p0]at D;replace F:=F.md C N;replace A:=A.vq C K;replace E:=E.vq C J;replace G:=G.vq C Ac;replace M:=M.eF C P;refine ay ⟨q,A,?_⟩;have Ai:min ((b.drop a).map b8).length 16=16:=Zy;refine mz (fun w' X=>fK (a:=a) (b:=min ((b.drop a).map b8).length 16) 9223372036854775808 q q q Jy) (mz (fun w' X=>fC q) (dX (cw (aj (aQ (st _ (rA (a:=k) (b:=1) q q Jy) (mv q (nt ?_))))))));exact pO (x0:=k+1) (x1:=a+min ((b.drop a).map b8).length 16) Jy ⟨q,q,q,q,q,q,q,q,tV⟩ ⟨M,F,A,E,D,G,by omega,by omega⟩
 have d:=dF V
 obtain rfl:k=4:=by omega
 subst p;clear G;refine dw (bW (bW (eu (aj (aH (ns (ak ahr q (WY (b:=I)) ?_)))))));rintro en Au ⟨c,rfl,gj,C,H⟩;refine rv ?_;have Ad:c≠I:=(by have:=D.lt;omega);obtain⟨F,A,E,D,M⟩:=k5 C F A E D M;have o:VY (.slice (some ⟨c,0,none⟩) 21 21) 21:=⟨_,_,q,Nat.le_refl _,by simp[maxLen],by simp⟩;refine sL q agH o (mv q (nt (bK ?_)))
 refine qR (fun(j:Nat) (a:Nat)=>[(40,(.int .i64 j)),(5,(.int .i64 a)),(1,.pointer (some ⟨O,0,none⟩)),(2,.pointer (some ⟨S,0,none⟩)),(3,.pointer (some ⟨I,0,none⟩)),(4,.func (.func 127) #[] #[.pointer (some ⟨O,0,none⟩)]),(38,.slice (some ⟨c,0,none⟩) 21 21),(39,.int .i64 ((21:Nat):Int))])
  (fun(j:Nat) (a:Nat) w'=>Md [] w w'∧Ls eV w' U v0 b∧cG w' O [v0] 31∧cG w' S Z 103∧cG w' I (cA.cells (jK b (at4 b 8) (at4 b 12) 4 j)) 103∧cG w' c (ptrs I 67 1 21) 224∧j≤21∧a=88+8*j) (fun(j:Nat) (a:Nat)=>21-j) (x0:=0) (x1:=24+16*4) ?_ ?_ ?_
 ·exact⟨q,q,q,q,q,q,q,q,tV⟩
 ·exact⟨M,F,A,E,D,H,by omega,q⟩
 clear M F A E D H
 rintro j a B Aw ⟨M,F,A,E,D,H,hj,p⟩;refine ns (st _ (eD (a:=j) (b:=21) q q) (nt (aH ?_)));refine cL q (fun W=>?_) (fun W=>?_)
 ·have T:=dT W
  refine bn (aj (aH (bK (ns (st _ ((bX (i:=j) 1 q q agH agX o Jy).to (b:=.pointer (some ⟨c,j,none⟩)) (by simp[oc,Addr.nI])) (st _ (aG (b:=c) (j:=j) (u:=.pointer (some ⟨I,67+j*1,none⟩)) q agm H (NN Jy)) (an q (nm q (st _ (aG q gD A q) (mv q (ak xE q (p8 (Q:=fun _=>True) (fun _ _=>trivial) (F.sub fun _ _ _=>trivial) (a:Int) Jy 8 Jy) ?_)))))))))));rintro en Ax ⟨r0,r1,rfl,C,hr,e⟩;refine rv ?_;have z:pu b a 8=(fJ b a,true):=vM (k:=8) (.inr q) Jy;rw[z]at e;obtain⟨rfl,rfl⟩:=Prod.mk.inj e;obtain⟨F,A,E,D,H,M⟩:=k6 C F A E D H M;refine mv q (st (.int .u64 ((fJ b a:Nat):Int)) (lR q q) (se q q (sn q (bE (b:=I) (j:=67+j*1) q q bQ q D (by have:(cA.cells (jK b (at4 b 8) (at4 b 12) 4 j)).length=91:=rfl;omega) ?_))));intro Ay C D;rw[Nat.mul_one,p,XL T]at D;replace F:=F.md C N;replace A:=A.vq C K;replace E:=E.vq C J;replace H:=H.vq C Ad;replace M:=M.eF C P;refine nt (aQ (mv q (st _ (rA (a:=a) (b:=8) q q Jy) (di q (ay (cw (aj (aQ (st _ (rA (a:=j) (b:=1) q q Jy) (mv q (nt ?_)))))))))));exact pO (x0:=j+1) (x1:=a+8) Jy ⟨q,q,q,q,q,q,q,q,tV⟩ ⟨M,F,A,E,D,H,by omega,by omega⟩
 have T:=dF W
 obtain rfl:j=21:=by omega
 subst p;clear H;refine dw (bW (bW (eu (aj (ns (m2 q q (wX (cs:=[.pointer (some ⟨O,0,none⟩)]) q TQ q (ud A F 256 Jy) ?_)))))));rintro en Az ⟨rfl,C⟩;refine rv ?_;obtain⟨F,A,E,D,M⟩:=k5 C F A E D M;refine m2 q q (st _ (rA (a:=256) (b:=4) q q Jy) (wX (cs:=[.pointer (some ⟨O,0,none⟩)]) q TQ q (ud A F 260 Jy) ?_));rintro en A0 ⟨rfl,C⟩;refine rv ?_;obtain⟨F,A,E,D,M⟩:=k5 C F A E D M;refine sf q YA (bE q q gU q D (by(show _<91;decide)) ?_);intro A1 C D;replace F:=F.md C N;replace A:=A.vq C K;replace E:=E.vq C J;replace M:=M.eF C P;refine sf q YB (bE q q gU q D (by(show _<91;decide)) ?_);intro A2 C D;replace F:=F.md C N;replace A:=A.vq C K;replace E:=E.vq C J;replace M:=M.eF C P;refine nt (ns (st _ (aG q gD A q) (mv q (st _ (rA (a:=256) (b:=8) q q Jy) (ak xE q (p8 (Q:=fun _=>True) (fun _ _=>trivial) (F.sub fun _ _ _=>trivial) ((264:Nat):Int) Jy 8 Jy) ?_)))));rintro en A3 ⟨r0,r1,rfl,C,hr,e⟩;refine rv ?_;have z:pu b ((264:Nat):Int) 8=(fJ b 264,true):=vM (k:=8) (.inr q) Jy;rw[z]at e;obtain⟨rfl,rfl⟩:=Prod.mk.inj e;obtain⟨E,D,M⟩:=k3 C E D M;refine mv q (st (.int .u64 ((fJ b 264:Nat):Int)) (lR q q) (se q q (sf q YC (bE q q bQ q D (by(show _<91;decide)) ?_))));intro Ae C D;replace E:=E.vq C J;replace M:=M.eF C P
 replace D:cG Ae I (cA.cells (gB b)) 103:=D;refine nt (ns (st _ (mS q (by exact fF) D) (fD q q (by exact fF) (fun u hu=>aT cA.one u hu) E hZ ?_)));intro A4 C E;replace M:=M.eF C t;refine nt (jL ?_);exact ai5 trivial q q (by exact fF) E ⟨_,q,M,wK p0,q⟩
theorem ahp:dJ Zp 126=true:=Ym
theorem PX (uQ:Up w Q) {v0:Value} {a:Ly} (h0:Ls eV w Q v0 a) {v1:Value} {b:Ly} (h1:Ls eV w Q v1 b) :
  Calls Zp 126 #[v0,v1] w fun en w'=>∃r0:Bool,en = .returned (.bool r0)∧Md [] w w'∧decide (a=b)=r0:=by
 have C:=h0.eY;have D:=h1.eY;have M:=Md.refl [] w;have A:=uQ;refine enter (n:=10) Tryz.func126 q q q fun B=>ns (an q (nm q (st _ (nk (s:=a) fE u5 u9 q h0.by) (mv q (st _ (nk (s:=b) fE u5 u9 q h1.by) (st _ (RA (a:=a) (b:=b) q q) (ar q ?_)))))));exact dV (v:=(.bool ((decide (a=b))))) trivial q ⟨q,tV⟩ ⟨(decide (a=b)),q,M,(by simp(disch:=first|omega|assumption|simp) only [SS,reduceIte])⟩
theorem XA (uQ:Up w Q) {v0:Value} {b:Ly} (h0:Ls eV w Q v0 b) {v1:Value} {p:Ly} (h1:Ls eV w Q v1 p) :
  Calls Zp 100 #[v0,v1] w fun en w'=>∃r0:Bool,en = .returned (.bool r0)∧Md [] w w'∧ri b p=r0:=by
 have I:=h0.eY;have J:=h1.eY;have M:=Md.refl [] w;have H:=uQ;refine enter (n:=18) Tryz.func100 q q q fun B=>ns (an q (nm q (sL q fE h0.ep (mv q (sL q fE h1.ep (st _ (yQ (a:=b.length) (b:=p.length) q q) (mv q ?_)))))));refine cQ (t:=10) q (fun A=>?_) (fun A=>?_)
 ·(have C:=dT A);refine sg A (bg q) (sg A (bg q) (sg A (ji q fE h1.ep) (sg A (jx 1 0 p.length fE mL q h0.ep Jy Jy q ⟨_,q⟩) ?_)));have F:=h0.head (hi:=p.length) Jy;refine sg A (bg q) (jZ q q q A ahp q (PX uQ F h1) ?_);rintro en K ⟨D,rfl,G,E⟩;refine rv ?_;replace M:=M.k G;refine st _ (bR q A q) (ar q ?_);exact dV (v:=(.bool D)) trivial q ⟨q,tV⟩ ⟨D,q,M,(by rw[ri]<;>simp(disch:=first|omega|assumption|simp) only [SS,reduceIte,C,E])⟩
 (have C:=dF A);refine sk A (sk A (sk A (sk A (sk A (sk A (st _ (bA q A q) (ar q ?_)))))));exact dV (v:=(.bool false)) trivial q ⟨q,tV⟩ ⟨false,q,M,(by rw[ri]<;>simp(disch:=first|omega|assumption|simp) only [SS,reduceIte,C])⟩
theorem LX (uQ:Up w Q) (h:cA) (a0_0:cA.ok h) :
  Calls Zp 72 #[.agg (cA.cells h).toArray] w fun en w'=>∃r0:Nat,∃r1:Bool,en = .returned (.tuple #[(.int .u64 r0),(.bool r1)])∧Md [] w w'∧r0<18446744073709551616∧uE h=(r0,r1):=by
 have M:=Md.refl [] w;have J:=uQ;refine enter (n:=15) Tryz.func72 q q q fun B=>ns (gN (cs:=(cA.cells h)) q q ?_);intro G N C I H E;have F:=uQ _ C;replace C:=lj M.size C;replace M:=M.k H;refine di q (an q (ns (sf q om (sl (u:=(.int .u64 ((h.n.getD 0 0:Nat):Int))) q bQ E q ?_))));have K:h.n.getD 0 0<18446744073709551616:=(eS a0_0.2.2.2.2.2.2.2.1 0);refine sf q CP (sl (u:=(.int .u64 ((h.n.getD 1 0:Nat):Int))) q bQ E q ?_);have L:h.n.getD 1 0<18446744073709551616:=(eS a0_0.2.2.2.2.2.2.2.1 1);refine st _ (rH (a:=(h.n.getD 0 0)) (b:=(h.n.getD 1 0)) 18446744073709551616 q q q q) (an q (aH (nm q (sf q om (sl (u:=(.int .u64 ((h.n.getD 0 0:Nat):Int))) q bQ E q (st _ (eD (a:=(((h.n.getD 0 0)+(h.n.getD 1 0))%18446744073709551616)) (b:=(h.n.getD 0 0)) q q) (nt ?_)))))));refine cL q (fun D=>?_) (fun D=>?_)
 ·(have A:=dT D);refine ns (di q (ar q (bf ?_)));exact dQ (vs:=[(.int .u64 ((0:Nat):Int)),(.bool false)]) trivial q ⟨q,q,tV⟩ q ⟨0,false,q,M,Jy,(by rw[uE]<;>simp(disch:=first|omega|assumption|simp) only [SS,reduceIte,A])⟩
 (have A:=dF D);refine bn (aj (nm q (di q (ar q ?_))));exact dQ (vs:=[(.int .u64 ((((h.n.getD 0 0)+(h.n.getD 1 0))%18446744073709551616:Nat):Int)),(.bool true)]) trivial q ⟨q,q,tV⟩ q ⟨((h.n.getD 0 0)+(h.n.getD 1 0))%18446744073709551616,true,q,M,Jy,(by rw[uE]<;>simp(disch:=first|omega|assumption|simp) only [SS,reduceIte,A])⟩
theorem BB (uQ:Up w Q) (h:cA) (a0_0:cA.ok h) (p:Nat) (a1:p<18446744073709551616) (size:Nat) (a2:size<18446744073709551616) (e:Nat) (a3:e<18446744073709551616) :
  Calls Zp 102 #[.agg (cA.cells h).toArray,(.int .u64 p),(.int .u64 size),(.int .u64 e)] w fun en w'=>∃r0:Nat,en = .returned (.int .i64 r0)∧Md [] w w'∧r0<9223372036854775808∧kU h p size e=r0:=by
 have M:=Md.refl [] w;have X:=uQ;refine enter (n:=45) Tryz.func102 q q q fun B=>ns (gN (cs:=(cA.cells h)) q q ?_);intro U Z N W V R;have T:=uQ _ N;replace N:=lj M.size N;replace M:=M.k V;refine an q (aH (bK (nm q (st _ (kI (a:=p) (b:=8) q q Jy) (st _ (eH (a:=(p%8)) (b:=0) q q) (di q (nt ?_)))))));refine cL q (fun S=>?_) (fun S=>?_)
 ·(have I:=dT S);refine ns (ar q (bV (bf ?_)));exact dV (v:=(.int .i64 ((3:Nat):Int))) trivial q ⟨q,tV⟩ ⟨3,q,M,Jy,(by rw[kU]<;>simp(disch:=first|omega|assumption|simp) only [SS,reduceIte,I])⟩
 (have I:=dF S);refine nm q (st _ (mB (a:=size) (b:=0) q q) (mv q ?_));refine cQ (t:=16) q (fun F=>?_) (fun F=>?_)
 ·(have D:=dT F);refine sk F (sk F (sk F (st _ (bR q F q) (an q (fM q q (ns (ar q (bV (bf ?_)))))))));exact dV (v:=(.int .i64 ((5:Nat):Int))) trivial q ⟨q,tV⟩ ⟨5,q,M,Jy,(by rw[kU]<;>simp(disch:=first|omega|assumption|simp) only [SS,reduceIte,I,D])⟩
 (have D:=dF F);refine sg F (bg q) (sg F (kI (a:=size) (b:=16) q q Jy) (sg F (eH (a:=(size%16)) (b:=0) q q) (st _ (bA q F q) (an q ?_))));refine cL q (fun O=>?_) (fun O=>?_)
 ·(have E:=dT O);refine ns (ar q (bV (bf ?_)));exact dV (v:=(.int .i64 ((5:Nat):Int))) trivial q ⟨q,tV⟩ ⟨5,q,M,Jy,(by rw[kU]<;>simp(disch:=first|omega|assumption|simp) only [SS,reduceIte,I,D,E])⟩
 (have E:=dF O);refine nm q (sf q om (sl (u:=(.int .u64 ((h.n.getD 0 0:Nat):Int))) q bQ R q ?_));have Y:h.n.getD 0 0<18446744073709551616:=(eS a0_0.2.2.2.2.2.2.2.1 0);refine st _ (eD (a:=p) (b:=(h.n.getD 0 0)) q q) (mv q ?_);refine cQ (t:=26) q (fun A=>?_) (fun A=>?_)
 ·(have H:=dT A);refine sk A (sk A (sk A (sk A (sk A (st _ (bR q A q) (mv q (sk q (sk q (sk q (st _ (bR q q q) (mv q (sk q (sk q ?_)))))))))))));refine sk q (sk q (sk q (st _ (bR q q q) (an q (fM q q (ns (ar q (bV (bf ?_)))))))));exact dV (v:=(.int .i64 ((2:Nat):Int))) trivial q ⟨q,tV⟩ ⟨2,q,M,Jy,(by rw[kU]<;>simp(disch:=first|omega|assumption|simp) only [SS,reduceIte,I,D,E,H])⟩
 (have H:=dF A);refine sg A (bg q) (sg A (aP q om) (sg A ((aG q bQ R q).to (b:=(.int .u64 ((h.n.getD 0 0:Nat):Int))) q) (sg A (lK (a:=p) (b:=(h.n.getD 0 0)) 18446744073709551616 q q q Jy) (sg A (eD (a:=(p-(h.n.getD 0 0))) (b:=16) q q) (st _ (bA q A q) (mv q ?_))))));refine cQ (t:=33) q (fun G=>?_) (fun G=>?_)
 ·(have J:=dT G);refine sk G (sk G (sk G (st _ (bR q G q) (mv q (sk q (sk q (sk q (sk q (sk q (st _ (bR q q q) (an q (fM q q ?_))))))))))));refine ns (ar q (bV (bf ?_)));exact dV (v:=(.int .i64 ((2:Nat):Int))) trivial q ⟨q,tV⟩ ⟨2,q,M,Jy,(by rw[kU]<;>simp(disch:=first|omega|assumption|simp) only [SS,reduceIte,I,D,E,H,J])⟩
 (have J:=dF G);refine sg G (bg q) (sg G (bg q) (sg G (iF (a:=p) (b:=e) q q) (st _ (bA q G q) (mv q ?_))));refine cQ (t:=38) q (fun C=>?_) (fun C=>?_)
 ·(have K:=dT C);refine sk C (sk C (sk C (sk C (sk C (st _ (bR q C q) (an q (fM q q (ns (ar q (bV ?_))))))))));refine bf ?_;exact dV (v:=(.int .i64 ((2:Nat):Int))) trivial q ⟨q,tV⟩ ⟨2,q,M,Jy,(by rw[kU]<;>simp(disch:=first|omega|assumption|simp) only [SS,reduceIte,I,D,E,H,J,K])⟩
 (have K:=dF C);refine sg C (bg q) (sg C (bg q) (sg C (bg q) (sg C (lK (a:=e) (b:=p) 18446744073709551616 q q q Jy) (sg C (iF (a:=size) (b:=(e-p)) q q) (st _ (bA q C q) (an q ?_))))));refine cL q (fun P=>?_) (fun P=>?_)
 ·(have L:=dT P);refine ns (ar q (bV (bf ?_)));exact dV (v:=(.int .i64 ((2:Nat):Int))) trivial q ⟨q,tV⟩ ⟨2,q,M,Jy,(by rw[kU]<;>simp(disch:=first|omega|assumption|simp) only [SS,reduceIte,I,D,E,H,J,K,L])⟩
 (have L:=dF P);refine bn (cw (aj (ns (ar q ?_))));exact dV (v:=(.int .i64 ((0:Nat):Int))) trivial q ⟨q,tV⟩ ⟨0,q,M,Jy,(by rw[kU]<;>simp(disch:=first|omega|assumption|simp) only [SS,reduceIte,I,D,E,H,J,K,L])⟩
end Go.Proofs.YtbmmkbejcnalcaaGreat
