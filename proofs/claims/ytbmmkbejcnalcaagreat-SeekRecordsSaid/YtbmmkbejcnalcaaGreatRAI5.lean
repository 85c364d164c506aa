/- Part 5 of what the walk of a law stands on: VRarr, VRv, VRent, VRhp, VRent7, VRfe, WName, WRSplit, GuardR, VGet, VHead, VHead2. No statement is proved here. -/
import Derived.Test.YtbmmkbejcnalcaaGreatRAI4
import Derived.Test.YtbmmkbejcnalcaaGreatRows
namespace Go.Proofs.YtbmmkbejcnalcaaGreat
open Go Go.Wk Go.RowKit
set_option linter.unusedVariables false
set_option linter.unusedSimpArgs false
attribute [local irreducible] wpList wpQuiet wpStill gD Code.wp Calls bodyPost
variable {w:World} {Q:Nat→Prop}
theorem mJ:fV Zp 178 2=true:=Ym
theorem GV:gh Zp 178=some [(0,1),(1,1)]:=Ym
theorem EM:eL Zp 178=some [.int .u64 0,.slice none 0 0]:=Ym
abbrev pG:fo:={next:=0,ay:=[]}
theorem KQ (uQ:Up w Q) {v0:Value} {b:Ly} (h0:Ls eT w Q v0 b) (p:Nat) (a1:p<18446744073709551616) (p0:b.length≤1000000) :
  Calls Zp 144 #[v0,(.int .u64 p)] w fun en w'=>∃u0_0:Value,∃r0:fo,∃r1:Nat,en = .returned (.tuple #[.agg (fo.cells r0 u0_0).toArray,(.int .i64 r1)])∧Md [] w w'∧fo.ok r0∧Ls ep w' Q u0_0 r0.ay∧r1<9223372036854775808∧gZ b p=(r0,r1):=by
 have L0:=h0.eM;have M:=Md.refl [] w;have Bf:=uQ;have tQ:∀b,Q b→Q b:=fun _ h=>h;have U:∀b,Q b→b<w.heap.size→Q b:=fun _ h _=>h;refine enter (n:=49) Tryz.func144 q q q fun B=>ns (cu EM ?_);intro j w1 Ag Bb G D;obtain⟨Q2,sQ,sT,H,c⟩:=jq uQ Ag Bb G;replace tQ:=tT tQ sT;replace U:=sS sQ U M;replace Ag:=lj M.size Ag;replace h0:=(h0.sub sQ).o G;replace M:=M.k G;replace uQ:=c;clear c sQ sT;have X:cE [] w j:=.inr Ag;replace D:cF _ _ (fo.cells (pG) SN) _:=D;have Bk:fo.ok (pG):=(by exact(by exact(show(pG).next<18446744073709551616 from Zj)));refine an q (ns (m2 q q (au abd q (yt uQ h0 p Jy 6 Jy Jy) ?_)));rintro en w4 ⟨Am,N,Ae,rfl,G,E,Bl,r⟩;refine rv ?_;obtain⟨D,uQ,M⟩:=k3 G D uQ M;refine mv q (se q q (se q q (dh q (an q (aN (nm q (st _ (eH (a:=Ae) (b:=0) q q) (nt ?_))))))));refine cM q (fun Aq=>?_) (fun Aq=>?_)
 ·(have V:=dT Aq);refine ns (st _ (bV (us:=[]) (cs:=(fo.cells (pG) SN)) [] EM GV q q trivial trivial q q) (mv q (ax (us:=(fo.cells (pG) SN)) q q (by exact mJ) (by exact fun u hu=>aP (fo.one q) u hu) D (lB q) ?_)));have P:=D;clear D;intro w5 G D;replace M:=M.step G (hI X);clear P;replace D:cF _ _ (fo.cells (pG) SN) _:=D;refine ar q (bf ?_);exact dM (vs:=[(.agg (fo.cells (pG) SN).toArray),(.int .i64 Ae)]) trivial q ⟨⟨_,q,cB (cs:=(fo.cells (pG) SN)) (by exact mJ) D⟩,q,tV⟩ q ⟨_,(pG),Ae,q,M,Zx,(Ls.nil _ _ _),Zx,(aex r V)⟩
 (have V:=dF Aq);refine bh (ai (aN (ns ?_)));have rb:=pW r V;refine mv q (sL q fD E.dY (st _ (eD (a:=N.length) (b:=16) q q) (mv q ?_)));refine cO (t:=23) q (fun O=>?_) (fun O=>?_)
 ·(have Az:=dT O);refine sk O (sk O (sk O (sk O (st _ (bE q O q) (nt (fJ q q (ns (st _ (bV (us:=[]) (cs:=(fo.cells (pG) SN)) [] EM GV q q trivial trivial q q) (ax (us:=(fo.cells (pG) SN)) q q (by exact mJ) (by exact fun u hu=>aP (fo.one q) u hu) D (lB q) ?_)))))))));have P:=D;clear D;intro w6 G D;replace M:=M.step G (hI X);clear P;replace D:cF _ _ (fo.cells (pG) SN) _:=D;refine ar q (bf ?_);exact dM (vs:=[(.agg (fo.cells (pG) SN).toArray),(.int .i64 ((5:Nat):Int))]) trivial q ⟨⟨_,q,cB (cs:=(fo.cells (pG) SN)) (by exact mJ) D⟩,q,tV⟩ q ⟨_,(pG),5,q,M,Zx,(Ls.nil _ _ _),Jy,(ac3 r V Jy)⟩
 (have Az:=dF O);refine sg O (bg q) (sg O (iK q fD E.dY) (sg O (lO (a:=N.length) (b:=8) q q Jy) (sg O (eH (a:=(N.length%8)) (b:=0) q q) (st _ (bw q O q) (nt ?_)))));refine cM q (fun Ar=>?_) (fun Ar=>?_)
 ·(have A0:=dT Ar);refine ns (st _ (bV (us:=[]) (cs:=(fo.cells (pG) SN)) [] EM GV q q trivial trivial q q) (ax (us:=(fo.cells (pG) SN)) q q (by exact mJ) (by exact fun u hu=>aP (fo.one q) u hu) D (lB q) ?_));have P:=D;clear D;intro w7 G D;replace M:=M.step G (hI X);clear P;replace D:cF _ _ (fo.cells (pG) SN) _:=D;refine ar q (bf ?_);exact dM (vs:=[(.agg (fo.cells (pG) SN).toArray),(.int .i64 ((5:Nat):Int))]) trivial q ⟨⟨_,q,cB (cs:=(fo.cells (pG) SN)) (by exact mJ) D⟩,q,tV⟩ q ⟨_,(pG),5,q,M,Zx,(Ls.nil _ _ _),Jy,(ac3 r V Jy)⟩
 (have A0:=dF Ar);refine bh (ai (nm q (au qN q (jY uQ E 0 Jy Jy) ?_)));rintro en w8 ⟨d,rfl,G,Bm,A8⟩;refine rv ?_;obtain⟨D,E,uQ,M⟩:=k4 G D E uQ M;refine st _ (bV (us:=[[(.int .u64 d)]]) (cs:=(fo.cells (({next:=d,ay:=[]}:fo)) SN)) [(0,0,1)] EM GV q q ⟨q,tV⟩ ⟨q,tV⟩ q q) (cu EM ?_);intro e w9 Ah Bc G F;have A7:j≠e:=(by have:=D.lt;omega);obtain⟨Aw,sQ,sT,J,c⟩:=jq uQ Ah Bc G;replace H:=nQ H sT;replace tQ:=tT tQ sT;replace U:=sS sQ U M;replace Ah:=lj M.size Ah;replace D:=D.o G;replace E:=(E.sub sQ).o G;replace M:=M.k G;replace uQ:=c;clear c sQ sT;have Aa:cE [] w e:=.inr Ah;replace F:cF _ _ (fo.cells (pG) SN) _:=F;have Bd:fo.ok (pG):=(by exact Zx);refine ax (us:=(fo.cells (({next:=d,ay:=[]}:fo)) SN)) q q (by exact mJ) (by exact fun u hu=>aP (fo.one q) u hu) F (lB q) ?_;have g:=F;clear F;intro Bp G F;have l:∀b∈[e],¬Aw b:=(hI J);replace D:=D.md G Ny;replace E:=E.md G l;replace uQ:=uQ.md G;replace M:=M.step G (hI Aa);clear g l;replace F:cF _ _ (fo.cells (({next:=d,ay:=[]}:fo)) SN) _:=F;refine aA ?_
 refine ai (aN (ns (an q (bQ ?_))));refine lZ (fun(o:fo) (A:Value) (k:Nat)=>[(9,(.int .i64 k)),(4,(.pointer (some ⟨j,0,none⟩))),(5,(.int .i64 ((0:Nat):Int))),(6,Am),(8,(.pointer (some ⟨e,0,none⟩)))]) (fun(o:fo) (A:Value) (k:Nat) w'=>∃Q':Nat→Prop,(∀b,Q' b→Q b)∧(∀b,Q b→b<w.heap.size→Q' b)∧Up w' Q'∧Md [] w w'∧cF w' e (fo.cells o A) 178∧Ow ep 36 (cE [] w) w' Q' A o.ay∧fo.ok o∧cF w' j (fo.cells (pG) SN) 178∧Ls eT w' Q' Am N∧¬Q' e∧¬Q' j∧(k%8=0∧8≤k)∧k≤N.length∧o.ay=gm N 8 ((k-8)/8)∧o.next=fI N 0) (fun(o:fo) (A:Value) (k:Nat)=>N.length-k) (x0:=(({next:=d,ay:=[]}:fo))) (x1:=SN) (x2:=8) ?_ ?_ ?_
 ·exact⟨q,q,q,q,q,tV⟩
 ·exact⟨Aw,tQ,U,uQ,M,F,(by exact Ow.nil _ _ _ _ _),Zx,D,E,J,H,Jy,Jy,q,A8.symm⟩
 clear M uQ tQ U H J h0 D E F
 rintro o A k B A5 ⟨Ap,tQ,U,uQ,M,F,C,Al,D,E,J,H,Bh,Bi,z,Ak⟩;refine aN (ns (m2 q q (sL q fD E.dY (st _ (eD (a:=k) (b:=N.length) q q) (nt ?_)))));refine cM q (fun As=>?_) (fun As=>?_)
 ·(have A1:=dT As);refine bh (ai (aN (bQ ?_)));have ol:o.ay.length=(k-8)/8:=(by rw[z,mM]);have L:=C;have f:=F;have Bn:∀b∈(ah A).toList,¬Ap b:=(rN C);refine d8 [(0,true),(1,true),(2,true),(3,true),(4,true),(5,false),(6,false)] [7,8,9] (fun w'=>Md (ah A).toList A5 w') dQ Ym ?_;intro Bq Z;refine⟨Z.mono Oq,?_⟩;have MC:=Z.mono (T:=(ah A).toList) Oq;have Af:∀b,ah A=some b→b∈(ah A).toList∨A5.heap.size≤b:=fun b K=>Or.inl (by simp[K]);refine mz (fun w' hc=>aG q o9) (mz (fun w' hc=>(aF q gV (f.md hc (aW L f)) q).to (b:=A) q) (mo q (mo q (mz (fun w' hc=>dN (a:=k) 18446744073709551616 q (by rw[u3];rfl) l7 q Jy) ?_))));obtain⟨C,F,D,E,uQ,M⟩:=k6 Z C F D E uQ M;refine kE ?_ rfl;refine au qN q (jY uQ E k Jy Jy) ?_;rintro en Br ⟨S,rfl,G,Be,A2⟩;refine rv ?_;obtain⟨C,F,D,E,uQ,M,MC⟩:=k7 G C F D E uQ M MC;refine aA ⟨q,MC,?_⟩;refine kE ?_ rfl;refine bR [[(.int .u64 S)]] jD iu Kq Kq q q ⟨q,tV⟩ ⟨q,tV⟩ q Kq ?_;intro Bg Bs Ay Bj G v;have A6:=uQ _ Ay;obtain⟨C,F,D,E,uQ,M,MC⟩:=k7 G C F D E uQ M MC;replace v:=Ls.dK (m:=1) (R:=Ap) (T:=ep) (xs:=[S]) v ⟨_,_,q,⟨q,Jy⟩,q⟩ q Kq A6
  refine aA ⟨q,MC,?_⟩;refine dV ?_;clear L f;clear MC;refine eK (sz:=1) (by rfl) jD iu q q C v (fun _ h _=>h) uQ (cE.new M) Zj Zj ?_;intro A4 Bt Ax sQ sT c W G l _ Ba;have I:=C;clear C;replace J:=nQ J sT;replace H:=nQ H sT;replace tQ:=tT tQ sT;replace U:=sS sQ U M;replace F:=F.md G (aW I F);replace D:=D.md G (aW I D);replace E:=(E.sub sQ).md G l;replace uQ:=uQ.md G;replace M:=M.dJ G (fun b K=>(I.2 b K).1);replace uQ:=c;clear c sQ sT l Ba;refine sf q o9 (bK q q gV W.cG F (lB q) ?_);have g:=F;clear F;intro Bu G F;have l:∀b∈[e],¬Ax b:=(hI J);replace D:=D.md G Ny;replace E:=E.md G l;replace W:=W.md G (aB g W) l;replace uQ:=uQ.md G;replace M:=M.step G (hI Aa);clear g l;obtain⟨Av,Y⟩:∃y,y=({o with ay:=o.ay ++ ([S])}:fo):=⟨_,q⟩;replace F:cF _ _ (fo.cells ({o with ay:=o.ay ++ ([S])}) A4) _:=F;rw[← Y]at F;have Au:fo.ok Av:=(by rw[Y];exact(by unfold fo.ok;exact Al));rw[show o.ay ++ ([S])=Av.ay by rw[Y]]at W;refine aA (ck (ai (aQ (mv q (st _ (rA (a:=k) (b:=8) q q Jy) (an q ?_))))));refine js (x0:=Av) (x1:=A4) (x2:=(k+8)) Jy ⟨(er q Jy),q,q,q,q,tV⟩ ⟨Ax,tQ,U,uQ,M,F,W,Au,D,E,J,H,Jy,Jy,(by rw[Y];exact Z4 z Jy Jy A2),(by rw[Y];exact Ak)⟩
 (have A1:=dF As);refine dr (bW (bW (ej (ai (ns (st _ (cK (fo.cells o A) q (by exact mJ) F q) (ax (us:=(fo.cells o A)) q q (by exact mJ) (by exact fun u hu=>aP (fo.one C.cG) u hu) D (lB q) ?_)))))));have i:=C;have P:=D;clear D;intro Bv G D;have l:∀b∈[j],¬Ap b:=(hI H);replace i:=i.md G (aB P i) l;replace M:=M.step G (hI X);clear P l;replace D:cF _ _ (fo.cells o A) _:=D;refine ar q ?_;exact dM (vs:=[(.agg (fo.cells o A).toArray),(.int .i64 ((0:Nat):Int))]) trivial q ⟨⟨_,q,cB (cs:=(fo.cells o A)) (by exact mJ) D⟩,q,tV⟩ q ⟨_,o,0,q,M,Al,(i.ls (fun b K=>tQ b K) (cE.up Bf)),Jy,(aey (k:=k) r V ⟨by omega,by omega⟩ Ak z Jy)⟩
theorem abb:dA Zp 143=true:=Ym
theorem ah3:dA Zp 144=true:=Ym
theorem ahF:dA Zp 160=true:=Ym
theorem ahS:dA Zp 65=true:=Ym
theorem td:bn Zp 145 0=some 0:=Ym
theorem wE:bn Zp 145 2=some 91:=Ym
theorem HX (uQ:Up w Q) {v0:Value} {v:gK} (h0:Pt jZ 145 w Q v0 v) :
  Calls Zp 65 #[v0] w fun en w'=>∃r0:Nat,en = .returned (.int .u64 r0)∧Md [] w w'∧r0<18446744073709551616∧v.b.length=r0:=by
 obtain⟨D,E,rfl,C,h0,nO⟩:=h0;obtain⟨G,rfl,I,A⟩:=kg nO;have M:=Md.refl [] w;have F:=uQ;refine enter (n:=9) Tryz.func65 q q q fun B=>ns (an q (nm q (sn q (sf q wE (sl (u:=G) q gG h0 q ?_)))));have H:=A.eM;refine sL q fD A.dY (st _ (dN (a:=v.b.length) 18446744073709551616 q (by rw[u3];rfl) l7 q Jy) (ar q ?_));exact dG (v:=(.int .u64 v.b.length)) trivial q ⟨q,tV⟩ ⟨v.b.length,q,M,Jy,q⟩
theorem ED (uQ:Up w Q) {v0:Value} {v:gK} (h0:Pt jZ 145 w Q v0 v) (x:Nat) (a1:x<18446744073709551616) :
  Calls Zp 120 #[v0,(.int .u64 x)] w fun en w'=>∃r0:Bool,en = .returned (.bool r0)∧Md [] w w'∧jV v.b x=r0:=by
 obtain⟨H,I,rfl,E,h0,nO⟩:=h0;obtain⟨O,rfl,L,F⟩:=kg nO;have M:=Md.refl [] w;have N:=uQ;refine enter (n:=13) Tryz.func120 q q q fun B=>ns (an q (nm q (st _ (lg (a:=x) (b:=0) q q) (mv q ?_))));refine cO (t:=7) q (fun A=>?_) (fun A=>?_)
 ·(first|(have C:=dT A)|(have C:=dF (gO A))|(have C:=gO A)|(have C:=A));refine sk A (sk A (sk A (sk A (st _ (bE q A q) (ar q ?_)))));exact dG (v:=(.bool true)) trivial q ⟨q,tV⟩ ⟨true,q,M,(by unfold jV;first|exact decide_eq_true Jy|exact decide_eq_false Jy|exact decide_eq_decide.2 Jy)⟩
 (first|(have C:=dF A)|(have C:=dT (gN A))|(have C:=gN A)|(have C:=A));refine sg A (bg q) (sg A (bg q) (iV q q q A ahS q (HX uQ ⟨_,_,q,E,h0,iX L F⟩) ?_));rintro en P ⟨D,rfl,K,G,J⟩;refine rv ?_;replace M:=M.k K;refine sg A (yW (a:=x) (b:=D) q q) (st _ (bw q A q) (ar q ?_));exact dG (v:=(.bool ((decide (D≤x))))) trivial q ⟨q,tV⟩ ⟨(decide (D≤x)),q,M,(by unfold jV;first|exact decide_eq_true Jy|exact decide_eq_false Jy|exact decide_eq_decide.2 Jy)⟩
theorem EC (uQ:Up w Q) {v0:Value} {v:gK} (h0:Pt jZ 145 w Q v0 v) (p:Nat) (a1:p<18446744073709551616) :
  Calls Zp 143 #[v0,(.int .u64 p)] w fun en w'=>∃r0:Nat,en = .returned (.int .i64 r0)∧Md [] w w'∧r0<9223372036854775808∧qC (v.h.n.getD 0 0) v.b p=r0:=by
 obtain⟨K,L,rfl,F,h0,nO⟩:=h0;obtain⟨S,rfl,I,H⟩:=kg nO;have M:=Md.refl [] w;have P:=uQ;refine enter (n:=19) Tryz.func143 q q q fun B=>ns (an q (aN (ns (m2 q q (sn q (sf q td (sf q d9 (st _ ((bY (i:=0) 1 q q mO e7 Kq)) (sl (u:=(.int .u64 ((v.h.n.getD 0 0:Nat):Int))) q bP h0 q ?_)))))))));have R:v.h.n.getD 0 0<18446744073709551616:=(eP I.1.2.2.2.2.2.2.2.1 0);refine st _ (eD (a:=p) (b:=(v.h.n.getD 0 0)) q q) (mv q ?_);refine cO (t:=13) q (fun A=>?_) (fun A=>?_)
 ·(have D:=dT A);refine sk A (sk A (sk A (sk A (st _ (bE q A q) (nt (fJ q q (ns (ar q (bf ?_)))))))));exact dG (v:=(.int .i64 ((2:Nat):Int))) trivial q ⟨q,tV⟩ ⟨2,q,M,Jy,(by unfold qC;rw[if_pos Jy])⟩
 (have D:=dF A);refine sg A (bg q) (sg A (bg q) (iV q q q A ahS q (HX uQ ⟨_,_,q,F,h0,iX I H⟩) ?_));rintro en T ⟨G,rfl,O,J,N⟩;refine rv ?_;replace M:=M.k O;refine sg A (yW (a:=p) (b:=G) q q) (st _ (bw q A q) (nt ?_));refine cM q (fun C=>?_) (fun C=>?_)
 ·(have E:=dT C);refine ns (ar q (bf ?_));exact dG (v:=(.int .i64 ((2:Nat):Int))) trivial q ⟨q,tV⟩ ⟨2,q,M,Jy,(by unfold qC;rw[if_pos Jy])⟩
 (have E:=dF C);refine bh (ai (ns (ar q ?_)));exact dG (v:=(.int .i64 ((0:Nat):Int))) trivial q ⟨q,tV⟩ ⟨0,q,M,Jy,(by unfold qC;rw[if_neg Jy])⟩
theorem SI (uQ:Up w Q) {v0:Value} {v:gK} (h0:Pt jZ 145 w Q v0 v) (p:Nat) (a1:p<18446744073709551616) (p0:v.b.length≤140737488355328) :
  Calls Zp 157 #[v0,(.int .u64 p)] w fun en w'=>∃u0_0:Value,∃r0:gy,∃r1:Nat,en = .returned (.tuple #[.agg (gy.cells r0 u0_0).toArray,(.int .i64 r1)])∧Md [] w w'∧gy.ok r0∧Ls eT w' Q u0_0 r0.aR∧r1<9223372036854775808∧kM (v.h.n.getD 0 0) v.b p=(r0,r1):=by
 obtain⟨X,r,rfl,J,h0,nO⟩:=h0;obtain⟨y,rfl,t,F⟩:=kg nO;have M:=Md.refl [] w;have x:=uQ;have f:∀b,Q b→Q b:=fun _ h=>h;refine enter (n:=22) Tryz.func157 q q q fun B=>ns (cu z173 ?_);intro R w4 N d E A;have Y:X≠R:=(by have:=h0.lt;omega);obtain⟨o,e,l,T,W⟩:=jq uQ N d E;replace J:=e _ J h0.lt;replace f:=tT f l;replace N:=lj M.size N;replace F:=(F.sub e).o E;obtain⟨h0,M⟩:=k2 E h0 M;replace uQ:=W;clear W e l;have K:cE [] w R:=.inr N;replace A:cF _ _ (gy.cells (qH) SN) _:=A;have i:gy.ok (qH):=(by exact⟨Kq,Kq,Kq,Kq,Kq,Kq⟩);refine an q (aN (ns (m2 q q (au abb q (EC uQ ⟨_,_,q,J,h0,iX t F⟩ p Jy) ?_))));rintro en w7 ⟨L,rfl,E,j,V⟩;refine rv ?_;obtain⟨F,h0,A,uQ,M⟩:=k5 E F h0 A uQ M;refine an q (nm q (st _ (eH (a:=L) (b:=0) q q) (nt ?_)));refine cM q (fun S=>?_) (fun S=>?_)
 ·(have H:=dT S);refine ns (st _ (bV (us:=[]) (cs:=(gy.cells (qH) SN)) [] z173 NY q q trivial trivial q q) (mv q (ax (us:=(gy.cells (qH) SN)) q q (by exact pK) (by exact fun u c=>aP (gy.one q) u c) A (lB q) ?_)));have I:=A;clear A;intro w8 E A;replace M:=M.step E (hI K);clear I;replace A:cF _ _ (gy.cells (qH) SN) _:=A;refine ar q (bf ?_);exact dM (vs:=[(.agg (gy.cells (qH) SN).toArray),(.int .i64 L)]) trivial q ⟨⟨_,q,cB (cs:=(gy.cells (qH) SN)) (by exact pK) A⟩,q,tV⟩ q ⟨_,(qH),L,q,M,Zx,(Ls.nil _ _ _),Zx,(afO (aaD V H) H)⟩
 (have H:=dF S);refine bh (ai (nm q (sn q (sf q wE (sl (u:=y) q gG h0 q (mv q (au ahF q (ET uQ F p Jy Jy) ?_)))))));rintro en w9 ⟨D,G,P,rfl,E,O,C,k,Z⟩;refine rv ?_;obtain⟨A,M⟩:=k2 E A M;refine se q q (se q q (ax (us:=(gy.cells G D)) q q (by exact pK) (by exact fun u c=>aP (gy.one C.cG) u c) A (lB q) ?_));have I:=A;clear A;intro z E A;have g:∀b∈[R],¬o b:=(hI T);replace C:=C.md E g;replace M:=M.step E (hI K);clear I g;replace A:cF _ _ (gy.cells G D) _:=A;refine ar q ?_;exact dM (vs:=[(.agg (gy.cells G D).toArray),(.int .i64 P)]) trivial q ⟨⟨_,q,cB (cs:=(gy.cells G D)) (by exact pK) A⟩,q,tV⟩ q ⟨_,G,P,q,M,O,(C.sub (fun b U _=>f b U)),Zx,(Qp (by rw[V];omega) Z)⟩
theorem OV (uQ:Up w Q) {v0:Value} {v:gK} (h0:Pt jZ 145 w Q v0 v) (p:Nat) (a1:p<18446744073709551616) (p0:v.b.length≤1000000) :
  Calls Zp 121 #[v0,(.int .u64 p)] w fun en w'=>∃u0_0:Value,∃r0:fo,∃r1:Nat,en = .returned (.tuple #[.agg (fo.cells r0 u0_0).toArray,(.int .i64 r1)])∧Md [] w w'∧fo.ok r0∧Ls ep w' Q u0_0 r0.ay∧r1<9223372036854775808∧iO (v.h.n.getD 0 0) v.b p=(r0,r1):=by
 obtain⟨X,r,rfl,J,h0,nO⟩:=h0;obtain⟨y,rfl,t,F⟩:=kg nO;have M:=Md.refl [] w;have x:=uQ;have f:∀b,Q b→Q b:=fun _ h=>h;refine enter (n:=22) Tryz.func121 q q q fun B=>ns (cu EM ?_);intro R w4 N d E A;have Y:X≠R:=(by have:=h0.lt;omega);obtain⟨o,e,l,T,W⟩:=jq uQ N d E;replace J:=e _ J h0.lt;replace f:=tT f l;replace N:=lj M.size N;replace F:=(F.sub e).o E;obtain⟨h0,M⟩:=k2 E h0 M;replace uQ:=W;clear W e l;have K:cE [] w R:=.inr N;replace A:cF _ _ (fo.cells (pG) SN) _:=A;have i:fo.ok (pG):=(by exact(by exact(show(pG).next<18446744073709551616 from Zj)));refine an q (aN (ns (m2 q q (au abb q (EC uQ ⟨_,_,q,J,h0,iX t F⟩ p Jy) ?_))));rintro en w7 ⟨L,rfl,E,j,V⟩;refine rv ?_;obtain⟨F,h0,A,uQ,M⟩:=k5 E F h0 A uQ M;refine an q (nm q (st _ (eH (a:=L) (b:=0) q q) (nt ?_)));refine cM q (fun S=>?_) (fun S=>?_)
 ·(have H:=dT S);refine ns (st _ (bV (us:=[]) (cs:=(fo.cells (pG) SN)) [] EM GV q q trivial trivial q q) (mv q (ax (us:=(fo.cells (pG) SN)) q q (by exact mJ) (by exact fun u c=>aP (fo.one q) u c) A (lB q) ?_)));have I:=A;clear A;intro w8 E A;replace M:=M.step E (hI K);clear I;replace A:cF _ _ (fo.cells (pG) SN) _:=A;refine ar q (bf ?_);exact dM (vs:=[(.agg (fo.cells (pG) SN).toArray),(.int .i64 L)]) trivial q ⟨⟨_,q,cB (cs:=(fo.cells (pG) SN)) (by exact mJ) A⟩,q,tV⟩ q ⟨_,(pG),L,q,M,Zx,(Ls.nil _ _ _),Zx,(aa2 (aa1 V H) H)⟩
 (have H:=dF S);refine bh (ai (nm q (sn q (sf q wE (sl (u:=y) q gG h0 q (mv q (au ah3 q (KQ uQ F p Jy Jy) ?_)))))));rintro en w9 ⟨D,G,P,rfl,E,O,C,k,Z⟩;refine rv ?_;obtain⟨A,M⟩:=k2 E A M;refine se q q (se q q (ax (us:=(fo.cells G D)) q q (by exact mJ) (by exact fun u c=>aP (fo.one C.cG) u c) A (lB q) ?_));have I:=A;clear A;intro z E A;have g:∀b∈[R],¬o b:=(hI T);replace C:=C.md E g;replace M:=M.step E (hI K);clear I g;replace A:cF _ _ (fo.cells G D) _:=A;refine ar q ?_;exact dM (vs:=[(.agg (fo.cells G D).toArray),(.int .i64 P)]) trivial q ⟨⟨_,q,cB (cs:=(fo.cells G D)) (by exact mJ) A⟩,q,tV⟩ q ⟨_,G,P,q,M,O,(C.sub (fun b U _=>f b U)),Zx,(sO (by rw[V];omega) Z)⟩
theorem afu:dA Zp 120=true:=Ym
theorem ahq:dA Zp 121=true:=Ym
set_option maxRecDepth 100000 in
set_option maxHeartbeats 4000000 in
theorem KP (uQ:Up w Q) {v0:Value} {v:gK} (h0:Pt jZ 145 w Q v0 v) (p0:v.b.length≤1000000) :
  Calls Zp 92 #[v0] w fun en w'=>∃u0:Value,∃r0:List Nat,∃r1:Nat,en = .returned (.tuple #[u0,(.int .i64 r1)])∧Md [] w w'∧Ls ep w' Q u0 r0∧r1<9223372036854775808∧jU (v.h.n.getD 0 0) v.b (v.h.n.getD 8 0) (v.h.n.getD 11 0)=(r0,r1):=by
 obtain⟨Ah,Cw,rfl,J,h0,nO⟩:=h0;obtain⟨v1,rfl,q2,C⟩:=kg nO;have M:=Md.refl [] w;have A8:=uQ;have tQ:∀b,Q b→Q b:=fun _ h=>h;have Z:∀b,Q b→b<w.heap.size→Q b:=fun _ h _=>h;refine enter (n:=98) Tryz.func92 q q q fun B=>ns (dh q (an q (ns (dh q (nt (nm q (sn q (sf q td (sf q d9 (st _ ((bY (i:=8) 1 q q mO e7 Kq)) (sl (u:=(.int .u64 ((v.h.n.getD 8 0:Nat):Int))) q bP h0 q ?_)))))))))));have q4:v.h.n.getD 8 0<18446744073709551616:=(eP q2.1.2.2.2.2.2.2.2.1 8);refine an q (nm q (sn q (sf q td (sf q d9 (st _ ((bY (i:=11) 1 q q mO e7 Kq)) (sl (u:=(.int .u64 ((v.h.n.getD 11 0:Nat):Int))) q bP h0 q ?_))))));have q5:v.h.n.getD 11 0<18446744073709551616:=(eP q2.1.2.2.2.2.2.2.2.1 11);refine dh q (an q (aN (bQ ?_)));obtain⟨r0,Bb⟩:∃r,mj (v.h.n.getD 0 0) v.b (v.h.n.getD 8 0) (v.h.n.getD 11 0) 0 ([]:List Nat)=r:=⟨_,q⟩;have Ab:=Bb
 try simp only[List.nil_append]at Bb
 refine UR (fun(d:Value) (W:List Nat) (p:Nat) (a:Nat)=>[(4,d),(6,(.int .u64 p)),(7,(.int .u64 a)),(0,(.pointer (some ⟨Ah,0,none⟩))),(5,(.int .u64 ((v.h.n.getD 8 0:Nat):Int)))]) (fun(d:Value) (W:List Nat) (p:Nat) (a:Nat) w'=>∃Q':Nat→Prop,(∀b,Q' b→Q b)∧(∀b,Q b→b<w.heap.size→Q' b)∧Up w' Q'∧Md [] w w'∧Ow ep 36 (cE [] w) w' Q' d W∧cF w' Ah (gK.cells v v1) 145∧Ls eT w' Q' v1 v.b∧Q' Ah∧sM v.b W∧W.length≤(v.h.n.getD 8 0)∧p<18446744073709551616∧mj (v.h.n.getD 0 0) v.b (v.h.n.getD 8 0) p a W=r0) (fun(d:Value) (W:List Nat) (p:Nat) (a:Nat)=>v.b.length-a) (x0:=SN) (x1:=([]:List Nat)) (x2:=(v.h.n.getD 11 0)) (x3:=0) ?_ ?_ ?_
 ·exact⟨q,q,q,q,q,tV⟩
 ·exact⟨Q,tQ,Z,uQ,M,(Ow.nil _ _ _ _ _),h0,C,J,(EB _),(Nat.zero_le _),(by first|assumption|omega),(by have hh:=Bb;first|exact hh|exact Ab|(simp only[List.nil_append]at hh;exact hh))⟩
 clear M uQ tQ Z J C h0
 rintro d W p a B w6 ⟨Q7,tQ,Z,uQ,M,E,h0,C,J,B0,B2,Co,As⟩;refine aN (nm q (sL q jD E.dY (st _ (dN (a:=W.length) 18446744073709551616 q (by rw[u3];rfl) l7 q Jy) (mv q (st _ (eD (a:=W.length) (b:=(v.h.n.getD 8 0)) q q) (nt ?_))))));refine cM q (fun Aj=>?_) (fun Aj=>?_)
 ·(first|(have N:=dT Aj)|(have N:=dF (gO Aj))|(have N:=gO Aj)|(have N:=Aj));refine bh (ai (bQ (aN (ns (m2 q q (au afu q (ED uQ ⟨_,_,q,J,h0,iX q2 C⟩ p Zk) ?_))))));rintro en w8 ⟨B5,rfl,I,z⟩;refine rv ?_;obtain⟨E,h0,C,uQ,M⟩:=k5 I E h0 C uQ M;refine nt ?_;refine cM q (fun Ak=>?_) (fun Ak=>?_)
  ·(first|(have L:=dT Ak)|(have L:=dF (gO Ak))|(have L:=gO Ak)|(have L:=Ak));refine nm q (dh q (ar q (bf (bS (bf (bS (bf ?_)))))));exact dM (vs:=[d,(.int .i64 ((14:Nat):Int))]) trivial q ⟨q,q,tV⟩ q ⟨_,W,14,q,M,(E.ls (fun b c=>tQ b c) (cE.up A8)),Vv,(Ab.trans (As.symm.trans (UA N (z.trans L))))⟩
  (first|(have L:=dF Ak)|(have L:=dT (gN Ak))|(have L:=gN Ak)|(have L:=Ak));refine bh (ai (aN (ns (m2 q q (st _ (uN (a:=p) (b:=a) q q) (nt ?_))))));refine cM q (fun Al=>?_) (fun Al=>?_)
  ·(first|(have S:=dT Al)|(have S:=dF (gO Al))|(have S:=gO Al)|(have S:=Al));refine nm q (dh q (ar q (bf (bS (bf (bS (bf ?_)))))));exact dM (vs:=[d,(.int .i64 ((12:Nat):Int))]) trivial q ⟨q,q,tV⟩ q ⟨_,W,12,q,M,(E.ls (fun b c=>tQ b c) (cE.up A8)),Vv,(Ab.trans (As.symm.trans (adG N (z.trans L) S)))⟩
  (first|(have S:=dF Al)|(have S:=dT (gN Al))|(have S:=gN Al)|(have S:=Al));refine bh (ai (ns (m2 q q (au ahq q (OV uQ ⟨_,_,q,J,h0,iX q2 C⟩ p Zk Nq) ?_))));rintro en w9 ⟨F,K,Ac,rfl,I,A5,A,Cq,Ax⟩;refine rv ?_;obtain⟨E,h0,C,uQ,M⟩:=k5 I E h0 C uQ M;refine mv q (se q q (se q q (cu EM ?_)));intro A6 C1 Bi Cg I G;have B9:Ah≠A6:=(by have:=h0.lt;omega);obtain⟨Bp,sQ,sT,P,Aw⟩:=jq uQ Bi Cg I;replace J:=sQ _ J h0.lt;replace tQ:=tT tQ sT;replace Z:=sS sQ Z M;replace Bi:=lj M.size Bi;replace E:=(E.sub sQ sT).o I;replace h0:=h0.o I;replace C:=(C.sub sQ).o I;replace A:=(A.sub sQ).o I;replace M:=M.k I;replace uQ:=Aw;clear Aw sQ sT;have Bn:cE [] w A6:=.inr Bi;replace G:cF _ _ (fo.cells (pG) SN) _:=G;have Ch:fo.ok (pG):=(by first|exact Kq|exact(by first|assumption|exact(show(pG).next<18446744073709551616 from Vk)));refine ax (us:=(fo.cells K F)) q q (by exact mJ) (by first|exact fun u hu=>aP (fo.one A.cG) u hu|exact fun u hu=>aP q u hu) G (lB q) ?_;have Bj:=G;clear G;intro C2 I G;have hS:∀b∈[A6],¬Bp b:=(hI P);replace E:=E.md I (aB Bj E) hS;replace h0:=h0.md I Ny;replace C:=C.md I hS;replace A:=A.md I hS;replace uQ:=uQ.md I;replace M:=M.step I (hI Bn);clear Bj hS;replace G:cF _ _ (fo.cells K F) _:=G
  refine an q (aN (nm q (st _ (eH (a:=Ac) (b:=0) q q) (nt ?_))));refine cM q (fun Am=>?_) (fun Am=>?_)
  ·(first|(have V:=dT Am)|(have V:=dF (gO Am))|(have V:=gO Am)|(have V:=Am));refine ns (m2 q q (dh q (ar q (bf (bS (bf (bS (bf ?_))))))));exact dM (vs:=[d,(.int .i64 Ac)]) trivial q ⟨q,q,tV⟩ q ⟨_,W,Ac,q,M,(E.ls (fun b c=>tQ b c) (cE.up A8)),Vv,(Ab.trans (As.symm.trans (afS N (z.trans L) S Ax V)))⟩
  (first|(have V:=dF Am)|(have V:=dT (gN Am))|(have V:=gN Am)|(have V:=Am));refine bh (ai (aN (ns (an q (bQ ?_)))));have il:=A.eM;obtain⟨r1,Bc⟩:∃r,jh v.b (v.h.n.getD 8 0) (K.ay.drop 0) W=r:=⟨_,q⟩;have Au:=Bc
  try simp only[List.nil_append,z,Ax]at Bc
  refine lZ (fun(Af:Value) (o:List Nat) (i:Nat)=>[(4,Af),(10,(.int .i64 i)),(0,(.pointer (some ⟨Ah,0,none⟩))),(5,(.int .u64 ((v.h.n.getD 8 0:Nat):Int))),(6,(.int .u64 p)),(7,(.int .u64 a)),(8,(.pointer (some ⟨A6,0,none⟩))),(9,(.int .i64 Ac)),(24,(.int .i64 W.length)),(25,(.int .u64 W.length)),(26,(.int .u64 ((v.h.n.getD 8 0:Nat):Int))),(27,(.bool ((decide (W.length<(v.h.n.getD 8 0)))))),(28,(.pointer (some ⟨Ah,0,none⟩))),(29,(.int .u64 p)),(30,(.bool B5)),(32,(.int .u64 p)),(33,(.int .u64 a)),(34,(.bool ((decide (p≤a))))),(37,(.pointer (some ⟨Ah,0,none⟩))),(38,(.int .u64 p)),(40,(.agg (fo.cells K F).toArray)),(41,(.int .i64 Ac)),(42,(.int .i64 Ac)),(43,(.bool ((decide (Ac≠0)))))]) (fun(Af:Value) (o:List Nat) (i:Nat) w'=>∃Q':Nat→Prop,(∀b,Q' b→Q b)∧(∀b,Q b→b<w.heap.size→Q' b)∧Up w' Q'∧Md [] w w'∧Ow ep 36 (cE [] w) w' Q' Af o∧cF w' Ah (gK.cells v v1) 145∧cF w' A6 (fo.cells K F) 178∧Ls ep w' Q' F K.ay∧Ls eT w' Q' v1 v.b∧Q' Ah∧¬Q' A6∧sM v.b o∧o.length≤(v.h.n.getD 8 0)∧i≤K.ay.length∧jh v.b (v.h.n.getD 8 0) (K.ay.drop i) o=r1) (fun(Af:Value) (o:List Nat) (i:Nat)=>K.ay.length-i) (x0:=d) (x1:=W) (x2:=0) ?_ ?_ ?_
  ·exact⟨q,q,q,q,q,q,q,q,q,q,q,q,q,q,q,q,q,q,q,q,q,q,q,q,tV⟩
  ·exact⟨Bp,tQ,Z,uQ,M,E,h0,G,A,C,J,P,B0,B2,Jy,(by have hh:=Bc;first|exact hh|exact Au|(simp only[List.nil_append,z,Ax]at hh;exact hh))⟩
  clear M uQ tQ Z J P E h0 C A G
  rintro Af o i B C3 ⟨Bh,tQ,Z,uQ,M,D,h0,G,A,C,J,P,Av,Bl,Cp,A7⟩;refine aN (nm q (sf q o9 (sl (u:=F) q gV G q (sL q jD A.dY (st _ (eD (a:=i) (b:=K.ay.length) q q) (mv q ?_))))));refine cO (t:=51) q (fun O=>?_) (fun O=>?_)
  ·(first|(have j:=dT O)|(have j:=dF (gO O))|(have j:=gO O)|(have j:=O));refine sg O (bg q) (sg O (iK q jD D.dY) (sg O (dN (a:=o.length) 18446744073709551616 q (by rw[u3];rfl) l7 q Jy) (sg O (bg q) (sg O (eD (a:=o.length) (b:=(v.h.n.getD 8 0)) q q) (st _ (bE q O q) (nt ?_))))));refine cM q (fun Ao=>?_) (fun Ao=>?_)
   ·(first|(have x:=dT Ao)|(have x:=dF (gO Ao))|(have x:=gO Ao)|(have x:=Ao));refine bh (ai (aN (bQ (aN (nm q (sf q o9 (sl (u:=F) q gV G q (mv q (st _ (bU (i:=i) 1 q q jD e7 A.dY Jy) ?_)))))))));obtain⟨X,k⟩:=eI (l:=K.ay) (i:=i) Zk;obtain⟨Cr,Bt,A0⟩:=A.get k;obtain⟨rfl,Ca⟩:=Bt;replace A0:At _ F (i*1) [(.int .u64 X)]:=A0;refine st _ ((cV (kk:=i*1) 0 q q bP A0 q).to (b:=(.int .u64 X)) q) (au afu q (ED uQ ⟨_,_,q,J,h0,iX q2 C⟩ X Zk) ?_);rintro en Cl ⟨Cm,rfl,I,Ag⟩;refine rv ?_;obtain⟨D,h0,G,A,C,uQ,M⟩:=k7 I D h0 G A C uQ M;refine aA ?_;clear A0;refine ai ?_;refine cM q (fun Ap=>?_) (fun Ap=>?_)
    ·(first|(have U:=dT Ap)|(have U:=dF (gO Ap))|(have U:=gO Ap)|(have U:=Ap));refine nm q (dh q (ar q (bf (bS (bf (bf (bS (bf (bS (bf ?_))))))))));refine bS (bf ?_);exact dM (vs:=[Af,(.int .i64 ((2:Nat):Int))]) trivial q ⟨q,q,tV⟩ q ⟨_,o,2,q,M,(D.ls (fun b c=>tQ b c) (cE.up A8)),Vv,(Ab.trans (UC As N (z.trans L) S Ax V Au A7 (aaL k Jy (Ag.trans U)) Kq))⟩
    (first|(have U:=dF Ap)|(have U:=dT (gN Ap))|(have U:=gN Ap)|(have U:=Ap));refine bh (ai (aN (aN ?_)));have ob:=EA Av;have Ai:=D;have Ay:=G;have g:=A;refine d8 (ml 15) [15,16] (fun w'=>Md [] Cl w') dQ Ym ?_;intro C4 Y;refine⟨Y.mono Oq,?_⟩;have MC:=Y.mono (T:=[]) Oq;refine mo q (mz (fun w' hc=>iK q jD D.dY) (mz (fun w' hc=>iT (a:=o.length) (b:=0) q q) (mo q ?_)));refine rK (t:=71) q (fun H=>?_) (fun H=>?_)
    ·(first|(have y:=dT H)|(have y:=dF (gO H))|(have y:=gO H)|(have y:=H));refine Go.Wk.jP _ q q q H (fun w' hc=>aG q o9) (Go.Wk.jP _ q q q H (fun w' hc=>(aF q gV (Ay.o hc) q).to (b:=F) q) (Go.Wk.jP _ q q q H (fun w' hc=>bg q) (Go.Wk.jP _ q q q H (fun w' hc=>bU (i:=i) 1 q q jD e7 A.dY Jy) ?_)));obtain⟨Cs,Bu,A1⟩:=g.get k;obtain⟨rfl,Cb⟩:=Bu;replace A1:At _ F (i*1) [(.int .u64 X)]:=A1;refine Go.Wk.jP _ q q q H (fun w' hc=>(cV (kk:=i*1) 0 q q bP (A1.o hc) q).to (b:=(.int .u64 X)) q) (Go.Wk.jP _ q q q H (fun w' hc=>bg q) (Go.Wk.jP _ q q q H (fun w' hc=>bg q) (Go.Wk.jP _ q q q H (fun w' hc=>iK q jD D.dY) (Go.Wk.jP _ q q q H (fun w' hc=>rS (a:=o.length) (b:=1) q q Jy) (Go.Wk.jP _ q q q H (fun w' hc=>bU (i:=o.length-1) 1 q q jD e7 D.dY Jy) ?_)))));obtain⟨Bo,Bd⟩:=eI (l:=o) (i:=o.length-1) Zk;obtain⟨Ct,Bv,A2⟩:=Ai.get Bd;obtain⟨rfl,Cc⟩:=Bv;replace A2:At _ Af ((o.length-1)*1) [(.int .u64 Bo)]:=A2;refine Go.Wk.jP _ q q q H (fun w' hc=>(cV (kk:=(o.length-1)*1) 0 q q bP (A2.o hc) q).to (b:=(.int .u64 Bo)) q) (dV ?_);obtain⟨D,h0,G,A,C,uQ,M⟩:=k7 Y D h0 G A C uQ M;clear g Ay Ai;clear MC;refine sg H (uN (a:=X) (b:=Bo) q q) (st _ (bE q H q) (aA ?_));clear A1;clear A2;refine ai ?_;refine cM q (fun Aq=>?_) (fun Aq=>?_)
     ·(first|(have f:=dT Aq)|(have f:=dF (gO Aq))|(have f:=gO Aq)|(have f:=Aq));refine nm q (dh q (ar q (bf (bS (bf (bf (bS (bf (bS (bf ?_))))))))));refine bS (bf ?_);exact dM (vs:=[Af,(.int .i64 ((13:Nat):Int))]) trivial q ⟨q,q,tV⟩ q ⟨_,o,13,q,M,(D.ls (fun b c=>tQ b c) (cE.up A8)),Vv,(Ab.trans (UC As N (z.trans L) S Ax V Au A7 (aaK k Jy (Ag.trans U) (UL Bd f)) Kq))⟩
     (first|(have f:=dF Aq)|(have f:=dT (gN Aq))|(have f:=gN Aq)|(have f:=Aq));refine bh (ai (aQ ?_));have Be:mR o X=0:=(abv Bd f);have rs:=VZ Av (Ag.trans U) Be;refine mv q (sf q o9 (sl (u:=F) q gV G q (mv q (st _ (bU (i:=i) 1 q q jD e7 A.dY Jy) ?_))));obtain⟨Cu,Bw,A3⟩:=A.get k;obtain⟨rfl,Cd⟩:=Bw;replace A3:At _ F (i*1) [(.int .u64 X)]:=A3;refine st _ ((cV (kk:=i*1) 0 q q bP A3 q).to (b:=(.int .u64 X)) q) (bR [[(.int .u64 X)]] jD iu Kq Kq q q ⟨q,tV⟩ ⟨q,tV⟩ q Kq ?_);intro Bq C5 Ba B3 I Aa;have Bg:=uQ _ Ba;obtain⟨D,h0,G,A,C,uQ,M⟩:=k7 I D h0 G A C uQ M;replace Aa:=Ls.dK (m:=1) (R:=Bh) (T:=ep) (xs:=[X]) Aa ⟨_,_,q,⟨q,Jy⟩,q⟩ q Kq Bg;refine eK (sz:=1) (by rfl) jD iu q q D Aa (fun _ h _=>h) uQ (cE.new M) Nq Nq ?_;intro Cj C6 B7 sQ sT Aw Br I hS _ Bm;have e:=D;clear D;replace J:=sQ _ J h0.lt;replace P:=nQ P sT;replace tQ:=tT tQ sT;replace Z:=sS sQ Z M;replace h0:=h0.md I (aW e h0);replace G:=G.md I (aW e G);replace A:=(A.sub sQ).md I hS;replace C:=(C.sub sQ).md I hS;clear A3;replace uQ:=uQ.md I;replace M:=M.dJ I (fun b c=>(e.2 b c).1);replace uQ:=Aw;clear Aw sQ sT hS Bm;refine dh q (aA (ck (ai (aQ (mv q (st _ (rA (a:=i) (b:=1) q q Jy) ?_))))))
     refine an q ?_;refine js (x0:=Cj) (x1:=(o ++ ([X]))) (x2:=(i+1)) Jy ⟨q,(er q Jy),q,q,q,q,q,q,q,q,q,q,q,q,q,q,q,q,q,q,q,q,q,q,tV⟩ ⟨B7,tQ,Z,uQ,M,Br,h0,G,A,C,J,P,rs,(by rw[List.length_append,List.length_singleton];omega),Jy,(by have hh:=A7;rw[TY k Jy (Ag.trans U) Be]at hh;exact hh)⟩
    (first|(have y:=dF H)|(have y:=dT (gN H))|(have y:=gN H)|(have y:=H));refine dB q q q H (dB q q q H (dB q q q H (dB q q q H (dB q q q H (dB q q q H (dB q q q H (dB q q q H (dB q q q H (dB q q q H (dB q q q H (dV ?_)))))))))));obtain⟨D,h0,G,A,C,uQ,M⟩:=k7 Y D h0 G A C uQ M;clear g Ay Ai;clear MC;refine sk H (st _ (bw q H q) (nt (iF q q (bh (ai (aQ ?_))))));have Be:mR o X=0:=(abw Jy);have rs:=VZ Av (Ag.trans U) Be;refine mv q (sf q o9 (sl (u:=F) q gV G q (mv q (st _ (bU (i:=i) 1 q q jD e7 A.dY Jy) ?_))));obtain⟨Cv,Bx,A4⟩:=A.get k;obtain⟨rfl,Ce⟩:=Bx;replace A4:At _ F (i*1) [(.int .u64 X)]:=A4;refine st _ ((cV (kk:=i*1) 0 q q bP A4 q).to (b:=(.int .u64 X)) q) (bR [[(.int .u64 X)]] jD iu Kq Kq q q ⟨q,tV⟩ ⟨q,tV⟩ q Kq ?_);intro Bq C9 Ba B3 I Aa;have Bg:=uQ _ Ba;obtain⟨D,h0,G,A,C,uQ,M⟩:=k7 I D h0 G A C uQ M;replace Aa:=Ls.dK (m:=1) (R:=Bh) (T:=ep) (xs:=[X]) Aa ⟨_,_,q,⟨q,Jy⟩,q⟩ q Kq Bg;refine eK (sz:=1) (by rfl) jD iu q q D Aa (fun _ h _=>h) uQ (cE.new M) Nq Nq ?_;intro Ck Da B8 sQ sT Aw Bs I hS _ Bm;have e:=D;clear D;replace J:=sQ _ J h0.lt;replace P:=nQ P sT
    replace tQ:=tT tQ sT;replace Z:=sS sQ Z M;replace h0:=h0.md I (aW e h0);replace G:=G.md I (aW e G);replace A:=(A.sub sQ).md I hS;replace C:=(C.sub sQ).md I hS;clear A4;replace uQ:=uQ.md I;replace M:=M.dJ I (fun b c=>(e.2 b c).1);replace uQ:=Aw;clear Aw sQ sT hS Bm;refine dh q (aA (ck (ai (aQ (mv q (st _ (rA (a:=i) (b:=1) q q Jy) (an q ?_)))))));refine js (x0:=Ck) (x1:=(o ++ ([X]))) (x2:=(i+1)) Jy ⟨q,(er q Jy),q,q,q,q,q,q,q,q,q,q,q,q,q,q,q,q,q,q,q,q,q,q,tV⟩ ⟨B8,tQ,Z,uQ,M,Bs,h0,G,A,C,J,P,rs,(by rw[List.length_append,List.length_singleton];omega),Jy,(by have hh:=A7;rw[TY k Jy (Ag.trans U) Be]at hh;exact hh)⟩
   (first|(have x:=dF Ao)|(have x:=dT (gN Ao))|(have x:=gN Ao)|(have x:=Ao));refine dr (bW (bW (ej (ai (aQ (sf q DI (sl (u:=(.int .u64 K.next)) q bP G q ?_)))))));have Cy:K.next<18446744073709551616:=A5;refine mv q (dh q (dh q (aA (ck (ai ?_)))));have nx:=kY (z.trans L);refine wo (x0:=Af) (x1:=o) (x2:=K.next) (x3:=p) Jy ⟨q,(er q (by first|rfl|omega)),(er q (by first|rfl|omega)),q,q,tV⟩ ⟨Bh,tQ,Z,uQ,M,D,h0,C,J,Av,Bl,(by first|assumption|omega),(by have hh:=afo As N (z.trans L) S Ax V Au A7 (FL Jy);exact hh)⟩
  (first|(have j:=dF O)|(have j:=dT (gN O))|(have j:=gN O)|(have j:=O));refine sk O (sk O (sk O (sk O (sk O (st _ (bw q O q) (nt (iF q q (dr (bW (bW (ej (ai (aQ ?_)))))))))))));refine sf q DI (sl (u:=(.int .u64 K.next)) q bP G q ?_);have C0:K.next<18446744073709551616:=A5;refine mv q (dh q (dh q (aA (ck (ai ?_)))));have nx:=kY (z.trans L);refine wo (x0:=Af) (x1:=o) (x2:=K.next) (x3:=p) Jy ⟨q,(er q (by first|rfl|omega)),(er q (by first|rfl|omega)),q,q,tV⟩ ⟨Bh,tQ,Z,uQ,M,D,h0,C,J,Av,Bl,(by first|assumption|omega),(by have hh:=afo As N (z.trans L) S Ax V Au A7 (MA j);exact hh)⟩
 (first|(have N:=dF Aj)|(have N:=dT (gN Aj))|(have N:=gN Aj)|(have N:=Aj));refine dr (bW (bW (ej (ai (nm q (dh q (ar q ?_)))))));exact dM (vs:=[d,(.int .i64 ((0:Nat):Int))]) trivial q ⟨q,q,tV⟩ q ⟨_,W,0,q,M,(E.ls (fun b c=>tQ b c) (cE.up A8)),Vv,(Ab.trans (As.symm.trans (AY N)))⟩
theorem ahC:dA Zp 157=true:=Ym
theorem ahD:dA Zp 158=true:=Ym
theorem adN:dA Zp 49=true:=Ym
theorem SJ (uQ:Up w Q) {v0:Value} {v:gK} (h0:Pt jZ 145 w Q v0 v) {v1:Value} {l:Ly} (h1:Ls eT w Q v1 l) (p0:l.length≤4611686018427387000) :
  Calls Zp 158 #[v0,v1] w fun en w'=>∃r0:Nat,en = .returned (.int .u64 r0)∧Md [] w w'∧r0<18446744073709551616∧ec (decide (v.h.bX &&& 4≠0)) v.h.dc l=r0:=by
 have R:=h1.eM;obtain⟨K,L,rfl,G,h0,nO⟩:=h0;obtain⟨v1,rfl,H,N⟩:=kg nO;have M:=Md.refl [] w;have P:=uQ;refine enter (n:=19) Tryz.func158 q q q fun B=>ns (an q (aN ?_));have A:=h0;refine d8 (ml 13) [13,14] (fun w'=>Md [] w w') dQ Ym ?_;intro V D;refine⟨D.mono Oq,?_⟩;have J:=D.mono (T:=[]) Oq;refine mo q (mz (fun w' C=>cW q) (mz (fun w' C=>aG q td) (mz (fun w' C=>aG q wI) (mz (fun w' C=>(aF q gT (A.o C) q).to (b:=(.int .u32 v.h.bX)) q) ?_))));have S:v.h.bX<4294967296:=H.1.2.1;refine mz (fun w' C=>acA (a:=v.h.bX) (b:=4) 4294967296 q q q q Jy) (mz (fun w' C=>eH (a:=(v.h.bX &&& 4)) (b:=0) q q) (mo q (mz (fun w' C=>cW q) (mz (fun w' C=>aG q td) (mz (fun w' C=>aG q VF) (mz (fun w' C=>cK (gC v.h.dc) q (by exact jR) (A.o C) q) ?_))))));have U:v.h.dc.length=16:=H.1.2.2.2.1;refine mo q (dV ?_);obtain⟨h1,uQ,M⟩:=k3 D h1 uQ M;clear A;clear J;refine au adN q (zO uQ (decide ((v.h.bX &&& 4)≠0)) v.h.dc Zx h1 Jy) ?_;rintro en W ⟨E,rfl,O,I,F⟩;refine rv ?_;replace M:=M.k O;refine ar q ?_;exact dG (v:=(.int .u64 E)) trivial q ⟨q,tV⟩ ⟨E,q,M,Zx,F⟩
theorem ZQ (uQ:Up w Q) {v0:Value} {v:gK} (h0:Pt jZ 145 w Q v0 v) (p:Nat) (a1:p<18446744073709551616) (p0:v.b.length≤1000000) :
  Calls Zp 146 #[v0,(.int .u64 p)] w fun en w'=>∃u0:Value,∃r0:List UInt8,∃r1:Nat,∃r2:Nat,en = .returned (.tuple #[u0,(.int .u64 r1),(.int .i64 r2)])∧Md [] w w'∧Ls eT w' Q u0 r0∧r1<18446744073709551616∧r2<9223372036854775808∧qu (decide (v.h.bX &&& 4≠0)) v.h.dc (v.h.n.getD 0 0) v.b p=(r0,r1,r2):=by
 obtain⟨j,Ad,rfl,K,h0,nO⟩:=h0;obtain⟨v1,rfl,z,H⟩:=kg nO;have M:=Md.refl [] w;have Ag:=uQ;have t:∀b,Q b→Q b:=fun _ h=>h;refine enter (n:=29) Tryz.func146 q q q fun B=>ns (dh q (dh q (an q (ns (m2 q q (au ahC q (SI uQ ⟨_,_,q,K,h0,iX z H⟩ p Jy Jy) ?_))))));rintro en w4 ⟨E,F,N,rfl,I,R,A,Aa,P⟩;refine rv ?_;obtain⟨H,h0,uQ,M⟩:=k4 I H h0 uQ M;refine mv q (se q q (se q q (cu z173 ?_)));intro W w5 O o I D;have k:j≠W:=(by have:=h0.lt;omega);obtain⟨Q6,i,sT,Z,g⟩:=jq uQ O o I;replace K:=i _ K h0.lt;replace t:=tT t sT;replace O:=lj M.size O;replace H:=(H.sub i).o I;replace h0:=h0.o I;replace A:=(A.sub i).o I;replace M:=M.k I;replace uQ:=g;clear g i sT;have c:cE [] w W:=.inr O;replace D:cF _ _ (gy.cells (qH) SN) _:=D;have y:gy.ok (qH):=(by exact⟨Kq,Kq,Kq,Kq,Kq,Kq⟩);refine ax (us:=(gy.cells F E)) q q (by exact pK) (by exact fun u hu=>aP (gy.one A.cG) u hu) D (lB q) ?_
 have f:=D;clear D;intro w8 I D;have l:∀b∈[W],¬Q6 b:=(hI Z);replace H:=H.md I l;replace h0:=h0.md I Ny;replace A:=A.md I l;replace uQ:=uQ.md I;replace M:=M.step I (hI c);clear f l;replace D:cF _ _ (gy.cells F E) _:=D;refine an q (aN (ns ?_));have dl:=JJ P;refine mv q (st _ (eH (a:=N) (b:=0) q q) (nt ?_));refine cM q (fun X=>?_) (fun X=>?_)
 ·(have J:=dT X);refine nm q (dh q (dh q (ar q (bf ?_))));exact dM (vs:=[SN,(.int .u64 ((0:Nat):Int)),(.int .i64 N)]) trivial q ⟨q,q,q,tV⟩ q ⟨_,[],0,N,q,M,(Ls.nil _ _ _),Jy,Zx,(aeH P J)⟩
 (have J:=dF X);refine bh (ai (aN (aN ?_)));have C:=D;refine d8 [(0,true),(1,true),(2,true),(3,true),(4,true),(5,false)] [6] (fun w'=>Md [] w8 w') dQ Ym ?_;intro w9 G;refine⟨G.mono Oq,?_⟩;have e:=G.mono (T:=[]) Oq;refine mz (fun w' L=>aG q DF) (mz (fun w' L=>(aF q bP (C.o L) q).to (b:=(.int .u64 F.dH)) q) ?_);have Af:F.dH<18446744073709551616:=R.1;refine mo q (mz (fun w' L=>aG q DG) (mz (fun w' L=>(aF q gG (C.o L) q).to (b:=E) q) ?_));obtain⟨H,h0,A,D,uQ,M⟩:=k6 G H h0 A D uQ M;refine kE ?_ rfl;refine au ahD q (SJ uQ ⟨_,_,q,K,h0,iX z H⟩ A Jy) ?_;rintro en x ⟨d,rfl,I,r,U⟩;refine rv ?_;obtain⟨A,D,M,e⟩:=k4 I A D M e;refine aA ⟨q,e,?_⟩;refine dV ?_;clear C;clear e;refine st _ (eH (a:=F.dH) (b:=d) q q) (nt ?_);refine cM q (fun Y=>?_) (fun Y=>?_)
 ·(have S:=dT Y);refine ns (dh q (dh q (ar q (bf ?_))));exact dM (vs:=[SN,(.int .u64 ((0:Nat):Int)),(.int .i64 ((9:Nat):Int))]) trivial q ⟨q,q,q,tV⟩ q ⟨_,[],0,9,q,M,(Ls.nil _ _ _),Jy,Jy,(agA P J U S)⟩
 (have S:=dF Y);refine bh (ai (aN ?_));have C:=D;refine d8 (ml 5) [5,6] (fun w'=>Md [] x w') dQ Ym ?_;intro Ah G;refine⟨G.mono Oq,?_⟩;have e:=G.mono (T:=[]) Oq;refine mz (fun w' L=>aG q DG) (mz (fun w' L=>(aF q gG (C.o L) q).to (b:=E) q) (mz (fun w' L=>aG q DF) (mz (fun w' L=>(aF q bP (C.o L) q).to (b:=(.int .u64 F.dH)) q) (mz (fun w' L=>fB q) (dV ?_)))));obtain⟨A,M⟩:=k2 G A M;clear C;clear e;refine dh q (ar q ?_);exact dM (vs:=[E,(.int .u64 F.dH),(.int .i64 ((0:Nat):Int))]) trivial q ⟨q,q,q,tV⟩ q ⟨_,F.aR,F.dH,0,q,M,(A.sub (fun b V _=>t b V)),Zx,Jy,(acS P J U Jy)⟩
theorem ku:fV Zp 125 21=true:=Ym
theorem JM:yL Zp 121 2 16=true:=Ym
theorem af8:gh Zp 121=some [(0,1),(1,1)]:=Ym
theorem yV:gh Zp 125=some [(0,1),(1,1),(2,1),(3,16),(19,1),(20,1)]:=Ym
theorem agP:eL Zp 121=some [.int .u64 0,.int .u64 0]:=Ym
theorem yF:eL Zp 125=some ([.int .u64 0,.int .u64 0,.int .u64 0] ++ (List.replicate 16 (.int .u8 0) ++ ([.int .u64 0,.slice none 0 0]))):=Ym
set_option maxRecDepth 100000 in
abbrev kR:eA:={seq:=0,cH:=0,mono:=0,bZ:=nU,xor:=0,ay:=[]}
set_option maxHeartbeats 4000000 in
theorem KR (uQ:Up w Q) {v0:Value} {b:Ly} (h0:Ls eT w Q v0 b) (p:Nat) (a1:p<18446744073709551616) (p0:b.length≤1000000) :
  Calls Zp 156 #[v0,(.int .u64 p)] w fun en w'=>∃u0_0:Value,∃r0:eA,∃r1:Nat,en = .returned (.tuple #[.agg (eA.cells r0 u0_0).toArray,(.int .i64 r1)])∧Md [] w w'∧eA.ok r0∧Ls tK w' Q u0_0 r0.ay∧r1<9223372036854775808∧ic b p=(r0,r1):=by
 have L0:=h0.eM;have M:=Md.refl [] w;have Cs:=uQ;have tQ:∀b,Q b→Q b:=fun _ h=>h;have Y:∀b,Q b→b<w.heap.size→Q b:=fun _ h _=>h;refine enter (n:=101) Tryz.func156 q q q fun B=>ns (cu yF ?_);intro Ah w1 Bd Cj G A;obtain⟨Q2,sQ,sT,I,Am⟩:=jq uQ Bd Cj G;replace tQ:=tT tQ sT;replace Y:=sS sQ Y M;replace Bd:=lj M.size Bd;replace h0:=(h0.sub sQ).o G;replace M:=M.k G;replace uQ:=Am;clear Am sQ sT;have g:cE [] w Ah:=.inr Bd;replace A:cF _ _ (eA.cells (kR) SN) _:=A;have Cy:eA.ok (kR):=(by exact⟨Kq,Kq,Kq,q,Kq⟩);refine an q (ns (m2 q q (au abd q (yt uQ h0 p Jy 3 Jy Jy) ?_)));rintro en w4 ⟨Ao,X,Bb,rfl,G,C,C0,Aq⟩;refine rv ?_;obtain⟨A,uQ,M⟩:=k3 G A uQ M;refine mv q (se q q (se q q (dh q (an q (aN (nm q (st _ (eH (a:=Bb) (b:=0) q q) (nt ?_))))))));refine cM q (fun Bp=>?_) (fun Bp=>?_)
 ·(have r:=dT Bp);refine ns (st _ (bV (us:=[]) (cs:=(eA.cells (kR) SN)) [] yF yV q q trivial trivial q q) (mv q (ax (us:=(eA.cells (kR) SN)) q q (by exact ku) (by exact fun u hu=>aP (eA.one q) u hu) A (lB q) ?_)));have K:=A;clear A;intro w5 G A;replace M:=M.step G (hI g);clear K;replace A:cF _ _ (eA.cells (kR) SN) _:=A;refine ar q (bf ?_);exact dM (vs:=[(.agg (eA.cells (kR) SN).toArray),(.int .i64 Bb)]) trivial q ⟨⟨_,q,cB (cs:=(eA.cells (kR) SN)) (by exact ku) A⟩,q,tV⟩ q ⟨_,(kR),Bb,q,M,Zx,(Ls.nil _ _ _),Zx,(ae3 Aq r)⟩
 (have r:=dF Bp);refine bh (ai (aN (ns ?_)));have rb:=pW Aq r;refine mv q (sL q fD C.dY (st _ (eD (a:=X.length) (b:=64) q q) (mv q ?_)));refine cO (t:=25) q (fun f=>?_) (fun f=>?_)
 ·(have B0:=dT f);refine sk f (sk f (sk f (sk f (st _ (bE q f q) (nt (fJ q q (ns (st _ (bV (us:=[]) (cs:=(eA.cells (kR) SN)) [] yF yV q q trivial trivial q q) (ax (us:=(eA.cells (kR) SN)) q q (by exact ku) (by exact fun u hu=>aP (eA.one q) u hu) A (lB q) ?_)))))))));have K:=A;clear A;intro w6 G A;replace M:=M.step G (hI g);clear K;replace A:cF _ _ (eA.cells (kR) SN) _:=A;refine ar q (bf ?_);exact dM (vs:=[(.agg (eA.cells (kR) SN).toArray),(.int .i64 ((5:Nat):Int))]) trivial q ⟨⟨_,q,cB (cs:=(eA.cells (kR) SN)) (by exact ku) A⟩,q,tV⟩ q ⟨_,(kR),5,q,M,Zx,(Ls.nil _ _ _),Jy,(ac4 Aq r Jy)⟩
 (have B0:=dF f);refine sg f (bg q) (sg f (iK q fD C.dY) (sg f (lO (a:=X.length) (b:=16) q q Jy) (sg f (eH (a:=(X.length%16)) (b:=0) q q) (st _ (bw q f q) (nt ?_)))));refine cM q (fun Bq=>?_) (fun Bq=>?_)
 ·(have B2:=dT Bq);refine ns (st _ (bV (us:=[]) (cs:=(eA.cells (kR) SN)) [] yF yV q q trivial trivial q q) (ax (us:=(eA.cells (kR) SN)) q q (by exact ku) (by exact fun u hu=>aP (eA.one q) u hu) A (lB q) ?_));have K:=A;clear A;intro w7 G A;replace M:=M.step G (hI g);clear K;replace A:cF _ _ (eA.cells (kR) SN) _:=A;refine ar q (bf ?_);exact dM (vs:=[(.agg (eA.cells (kR) SN).toArray),(.int .i64 ((5:Nat):Int))]) trivial q ⟨⟨_,q,cB (cs:=(eA.cells (kR) SN)) (by exact ku) A⟩,q,tV⟩ q ⟨_,(kR),5,q,M,Zx,(Ls.nil _ _ _),Jy,(ac4 Aq r Jy)⟩
 (have B2:=dF Bq);refine bh (ai (nm q (au qN q (jY uQ C 0 Jy Jy) ?_)));rintro en w8 ⟨Aa,rfl,G,C1,Bf⟩;refine rv ?_;obtain⟨A,C,uQ,M⟩:=k4 G A C uQ M;refine mv q (au qN q (jY uQ C 8 Jy Jy) ?_);rintro en w9 ⟨Ab,rfl,G,C2,Ch⟩;refine rv ?_;obtain⟨A,C,uQ,M⟩:=k4 G A C uQ M;refine mv q (au qN q (jY uQ C 16 Jy Jy) ?_);rintro en Di ⟨V,rfl,G,Cm,B7⟩;refine rv ?_;obtain⟨A,C,uQ,M⟩:=k4 G A C uQ M;refine mv q (au qN q (jY uQ C 40 Jy Jy) ?_);rintro en Dj ⟨W,rfl,G,Cn,B8⟩;refine rv ?_;obtain⟨A,C,uQ,M⟩:=k4 G A C uQ M;refine st _ (bV (us:=[[(.int .u64 Aa)],[(.int .u64 Ab)],[(.int .u64 V)],[(.int .u64 W)]]) (cs:=(eA.cells (({seq:=Aa,cH:=Ab,mono:=V,bZ:=nU,xor:=W,ay:=[]}:eA)) SN)) [(0,0,1),(1,1,1),(2,2,1),(4,19,1)] yF yV q q ⟨q,q,q,q,tV⟩ ⟨q,q,q,q,tV⟩ q q) (cu yF ?_);intro Ac Dk Be Ck G F;have Cg:Ah≠Ac:=(by have:=A.lt;omega);obtain⟨Bw,sQ,sT,J,Am⟩:=jq uQ Be Ck G;replace I:=nQ I sT;replace C:=C.sub sQ;replace tQ:=tT tQ sT;replace Y:=sS sQ Y M
 replace Be:=lj M.size Be;obtain⟨A,C,M⟩:=k3 G A C M;replace uQ:=Am;clear Am sQ sT;have As:cE [] w Ac:=.inr Be;replace F:cF _ _ (eA.cells (kR) SN) _:=F;have Cl:eA.ok (kR):=(by exact⟨Kq,Kq,Kq,q,Kq⟩);refine ax (us:=(eA.cells (({seq:=Aa,cH:=Ab,mono:=V,bZ:=nU,xor:=W,ay:=[]}:eA)) SN)) q q (by exact ku) (by exact fun u hu=>aP (eA.one q) u hu) F (lB q) ?_;have Af:=F;clear F;intro Dl G F;have hS:∀b∈[Ac],¬Bw b:=(hI J);replace A:=A.md G Ny;replace C:=C.md G hS;replace uQ:=uQ.md G;replace M:=M.step G (hI As);clear Af hS;replace F:cF _ _ (eA.cells (({seq:=Aa,cH:=Ab,mono:=V,bZ:=nU,xor:=W,ay:=[]}:eA)) SN) _:=F;refine nt (aN (ns (sf q CZ (st _ ((aF q bP F q).to (b:=(.int .u64 (((({seq:=Aa,cH:=Ab,mono:=V,bZ:=nU,xor:=W,ay:=[]}:eA)).seq:Nat):Int))) q) (st _ (lg (a:=((({seq:=Aa,cH:=Ab,mono:=V,bZ:=nU,xor:=W,ay:=[]}:eA)).seq)) (b:=0) q q) (nt ?_))))));refine cM q (fun Br=>?_) (fun Br=>?_)
 ·(have Aw:=dT Br);refine ns (st _ (bV (us:=[]) (cs:=(eA.cells (kR) SN)) [] yF yV q q trivial trivial q q) (ax (us:=(eA.cells (kR) SN)) q q (by exact ku) (by exact fun u hu=>aP (eA.one q) u hu) A (lB q) ?_));have K:=A;clear A;intro Dm G A;replace M:=M.step G (hI g);clear K;replace A:cF _ _ (eA.cells (kR) SN) _:=A;refine ar q (bf ?_);exact dM (vs:=[(.agg (eA.cells (kR) SN).toArray),(.int .i64 ((13:Nat):Int))]) trivial q ⟨⟨_,q,cB (cs:=(eA.cells (kR) SN)) (by exact ku) A⟩,q,tV⟩ q ⟨_,(kR),13,q,M,Zx,(Ls.nil _ _ _),Jy,(ae2 Aq r ⟨by omega,by omega⟩ (by rw[Bf];simpa using Aw))⟩
 (have Aw:=dF Br);refine bh (ai (aN (ns (an q (bQ ?_)))));refine sx (fun(e:eA) (i:Nat)=>[(9,(.int .i64 i)),(4,(.pointer (some ⟨Ah,0,none⟩))),(5,(.int .i64 ((0:Nat):Int))),(6,Ao),(8,(.pointer (some ⟨Ac,0,none⟩)))]) (fun(e:eA) (i:Nat) w'=>∃Q':Nat→Prop,(∀b,Q' b→Q b)∧(∀b,Q b→b<w.heap.size→Q' b)∧Up w' Q'∧Md [] w w'∧cF w' Ac (eA.cells e SN) 125∧eA.ok e∧cF w' Ah (eA.cells (kR) SN) 125∧Ls eT w' Q' Ao X∧¬Q' Ac∧¬Q' Ah∧i≤16∧e.bZ.take i=(X.drop 24).take i∧e={({seq:=Aa,cH:=Ab,mono:=V,bZ:=nU,xor:=W,ay:=[]}:eA)with bZ:=e.bZ}) (fun(e:eA) (i:Nat)=>16-i) (x0:=(({seq:=Aa,cH:=Ab,mono:=V,bZ:=nU,xor:=W,ay:=[]}:eA))) (x1:=0) ?_ ?_ ?_
 ·exact⟨q,q,q,q,q,tV⟩
 ·exact⟨Bw,tQ,Y,uQ,M,F,(by exact⟨Jy,Jy,Jy,(by rfl),Jy⟩),A,C,J,I,Jy,q,q⟩
 clear M uQ tQ Y I J h0 A C F
 rintro e i B Dn ⟨Bm,tQ,Y,uQ,M,F,Ak,A,C,J,I,Cv,Bl,z⟩;refine aN (nm q (st _ (eD (a:=i) (b:=16) q q) (nt ?_)));refine cM q (fun Bs=>?_) (fun Bs=>?_)
 ·(have B3:=dT Bs);refine bh (ai (aN (bQ (aQ (m2 q q (mv q (st _ (rA (a:=24) (b:=i) q q Jy) (st _ (bU (i:=24+i) 1 q q fD mL C.dY Jy) ?_))))))));obtain⟨Bg,Bk⟩:=eI (l:=X) (i:=24+i) Jy;obtain⟨C4,Ca,Ax⟩:=C.get Bk;obtain⟨rfl,_⟩:=Ca;have C3:=UInt8.toNat_lt Bg;replace Ax:At _ Ao ((24+i)*1) [(b8 Bg)]:=Ax;refine st _ ((cV (kk:=(24+i)*1) 0 q q qf Ax q).to (b:=(b8 Bg)) q) (sf q DC (st _ (bY (m:=16) (i:=i) 1 q q TJ mL Jy) (bK (b:=Ac) (j:=3+i*1) q q qf q F (by have:(eA.cells e SN).length=21:=rfl;omega) ?_)));have Af:=F;clear F;intro Do G F;have hS:∀b∈[Ac],¬Bm b:=(hI J);replace A:=A.md G Ny;replace C:=C.md G hS;clear Ax;replace uQ:=uQ.md G;replace M:=M.step G (hI As);clear Af hS;rw[Nat.mul_one,aaP Ak.2.2.2.1 Jy]at F;obtain⟨Cd,Av⟩:∃y,y=({e with bZ:=e.bZ.set i Bg}:eA):=⟨_,q⟩;rw[← Av]at F;have Bv:eA.ok Cd:=(by rw[Av];obtain⟨k1,kz2,kz3,kz4,kz5⟩:=Ak;exact⟨k1,kz2,kz3,by simpa using kz4,kz5⟩);refine aA (ck (ai (aQ (mv q (st _ (rA (a:=i) (b:=1) q q Jy) (an q ?_))))));refine qm (x0:=Cd) (x1:=(i+1)) Jy ⟨(er q Jy),q,q,q,q,tV⟩ ⟨Bm,tQ,Y,uQ,M,F,Bv,A,C,J,I,Jy,(by rw[Av];exact WW Ak.2.2.2.1 Jy Bl Bk),(by rw[Av,z])⟩
 (have B3:=dF Bs);refine dr (bW (bW (ej (ai (aN (ns (an q (bQ ?_))))))));refine lZ (fun(o:eA) (E:Value) (k:Nat)=>[(10,(.int .i64 k)),(4,(.pointer (some ⟨Ah,0,none⟩))),(6,Ao),(8,(.pointer (some ⟨Ac,0,none⟩)))]) (fun(o:eA) (E:Value) (k:Nat) w'=>∃Q':Nat→Prop,(∀b,Q' b→Q b)∧(∀b,Q b→b<w.heap.size→Q' b)∧Up w' Q'∧Md [] w w'∧cF w' Ac (eA.cells o E) 125∧Ow tK 121 (cE [] w) w' Q' E o.ay∧eA.ok o∧cF w' Ah (eA.cells (kR) SN) 125∧Ls eT w' Q' Ao X∧¬Q' Ac∧¬Q' Ah∧(k%16=0∧48≤k)∧k≤X.length∧o.ay=jx X 48 ((k-48)/16)∧pq o.ay=true∧o={e with ay:=o.ay}) (fun(o:eA) (E:Value) (k:Nat)=>X.length-k) (x0:=e) (x1:=SN) (x2:=48) ?_ ?_ ?_
 ·exact⟨q,q,q,q,tV⟩
 ·exact⟨Bm,tQ,Y,uQ,M,F,(by(rw[z];exact Ow.nil _ _ _ _ _)),Ak,A,C,J,I,Jy,Jy,(by rw[z];rfl),(by rw[z];rfl),(by cases e;rfl)⟩
 clear M uQ tQ Y J I F A C
 rintro o E k B Ce ⟨Bn,tQ,Y,uQ,M,F,D,Ag,A,C,J,I,Az,Cw,Aj,A7,Ae⟩;refine aN (ns (m2 q q (sL q fD C.dY (st _ (eD (a:=k) (b:=X.length) q q) (nt ?_)))));refine cM q (fun Bt=>?_) (fun Bt=>?_)
 ·(have B4:=dT Bt);refine bh (ai (aN (bQ (ns (sf q kO (sl (u:=E) q oN F q (sL q wY D.dY (an q (aN ?_)))))))));have ol:o.ay.length=(k-48)/16:=(by rw[Aj,sV]);have d:=D;have U:=F;have C9:∀b∈(ah E).toList,¬Bn b:=(rN D);refine d8 [(0,true),(1,true),(2,true),(3,true),(4,true),(6,true),(7,true),(8,true),(9,true),(5,false),(10,false),(11,true),(12,false)] [13,14,15] (fun w'=>Md (ah E).toList Ce w') dQ Ym ?_;intro Dp L;refine⟨L.mono Oq,?_⟩;have MC:=L.mono (T:=(ah E).toList) Oq;have Bc:∀b,ah E=some b→b∈(ah E).toList∨Ce.heap.size≤b:=fun b O=>Or.inl (by simp[O]);refine mz (fun w' v=>aG q kO) (mz (fun w' v=>(aF q oN (U.md v (aW d U)) q).to (b:=E) q) (mo q (mo q (mz (fun w' v=>dN (a:=k) 18446744073709551616 q (by rw[u3];rfl) l7 q Jy) (mo q (mo q (mz (fun w' v=>rA (a:=k) (b:=8) q q Jy) (mz (fun w' v=>dN (a:=k+8) 18446744073709551616 q (by rw[u3];rfl) l7 q Jy) ?_))))))));obtain⟨D,F,A,C,uQ,M⟩:=k6 L D F A C uQ M;refine kE ?_ rfl;refine au qN q (jY uQ C k Jy Jy) ?_;rintro en Dq ⟨Z,rfl,G,Co,A2⟩;refine rv ?_;replace D:=D.o G
  obtain⟨F,A,C,uQ,M,MC⟩:=k6 G F A C uQ M MC;refine aA ⟨q,MC,?_⟩;refine kE ?_ rfl;refine au qN q (jY uQ C (k+8) Jy Jy) ?_;rintro en Dr ⟨c,rfl,G,Cp,A3⟩;refine rv ?_;obtain⟨D,F,A,C,uQ,M,MC⟩:=k7 G D F A C uQ M MC;refine aA ⟨q,MC,?_⟩;refine mz (fun w' v=>bV (us:=[[(.int .u64 Z)],[(.int .u64 c)]]) (cs:=(jO.cells (({cC:=Z,dH:=c}:jO)))) [(0,0,1),(1,1,1)] agP af8 q q ⟨q,q,tV⟩ ⟨q,q,tV⟩ q q) ?_;refine kE ?_ rfl;refine bR [(jO.cells (({cC:=Z,dH:=c}:jO)))] wY JM Kq Kq q q ⟨q,tV⟩ ⟨q,tV⟩ q Kq ?_;intro Cu Ds Bx Cx G A4;have Cf:=uQ _ Bx;obtain⟨D,F,A,C,uQ,M,MC⟩:=k7 G D F A C uQ M MC;replace A4:=Ls.dK (m:=1) (R:=Bn) (T:=tK) (xs:=[({cC:=Z,dH:=c}:jO)]) A4 ⟨_,_,q,(LA (by exact⟨Jy,Jy⟩)),q⟩ q Kq Cf;refine aA ⟨q,MC,?_⟩;refine dV ?_;clear d U;clear MC;refine eK (sz:=2) (by rfl) wY JM q q D A4 (fun _ h _=>h) uQ (cE.new M) Zj Zj ?_;intro Au Du Bo sQ sT Am N G hS _ Ci;have S:=D;clear D;replace J:=nQ J sT;replace I:=nQ I sT;replace C:=C.sub sQ;replace tQ:=tT tQ sT;replace Y:=sS sQ Y M;replace F:=F.md G (aW S F);replace A:=A.md G (aW S A)
  replace C:=C.md G hS;replace uQ:=uQ.md G;replace M:=M.dJ G (fun b O=>(S.2 b O).1);replace uQ:=Am;clear Am sQ sT hS Ci;refine sf q kO (bK q q oN N.cG F (lB q) ?_);have Af:=F;clear F;intro Ct G F;have hS:∀b∈[Ac],¬Bo b:=(hI J);replace A:=A.md G Ny;replace C:=C.md G hS;replace N:=N.md G (aB Af N) hS;replace uQ:=uQ.md G;replace M:=M.step G (hI As);clear Af hS;obtain⟨Al,P⟩:∃y,y=({o with ay:=o.ay ++ ([({cC:=Z,dH:=c}:jO)])}:eA):=⟨_,q⟩;replace F:cF _ _ (eA.cells ({o with ay:=o.ay ++ ([({cC:=Z,dH:=c}:jO)])}) Au) _:=F;rw[← P]at F;have A8:eA.ok Al:=(by rw[P];exact⟨Ag.1,Ag.2.1,Ag.2.2.1,Ag.2.2.2.1,Ag.2.2.2.2⟩);rw[show o.ay ++ ([({cC:=Z,dH:=c}:jO)])=Al.ay by rw[P]]at N;refine nt (aN ?_);have Ad:=N;have U:=F;refine d8 (ml 16) [16,17] (fun w'=>Md [] Ct w') dQ Ym ?_;intro Dv L;refine⟨L.mono Oq,?_⟩;have MC:=L.mono (T:=[]) Oq;have nl:Al.ay.length=o.ay.length+1:=(by rw[P];simp);refine mo q (mz (fun w' v=>iT (a:=o.ay.length) (b:=0) q q) (mo q ?_));refine rK (t:=83) q (fun H=>?_) (fun H=>?_)
  ·(have B5:=dT H);refine Go.Wk.jP _ q q q H (fun w' v=>aG q kO) (Go.Wk.jP _ q q q H (fun w' v=>(aF q oN (U.o v) q).to (b:=Au) q) (Go.Wk.jP _ q q q H (fun w' v=>bg q) (Go.Wk.jP _ q q q H (fun w' v=>bU (i:=o.ay.length) 2 q q wY FI N.dY Jy) ?_)));obtain⟨Bh,A5⟩:=eI (l:=Al.ay) (i:=o.ay.length) Jy;obtain⟨C5,Cb,Ai⟩:=Ad.get A5;obtain⟨_,rfl,Cq⟩:=p9 Cb;replace Ai:At _ Au (o.ay.length*2) (jO.cells Bh):=Ai;refine Go.Wk.jP _ q q q H (fun w' v=>gU q (Ai.o v) wD) (Go.Wk.jP _ q q q H (fun w' v=>(cV (kk:=o.ay.length*2) 0 q q bP (Ai.o v) q).to (b:=(.int .u64 Bh.cC)) q) ?_);have Dg:Bh.cC<18446744073709551616:=Cq.1;refine Go.Wk.jP _ q q q H (fun w' v=>aG q kO) (Go.Wk.jP _ q q q H (fun w' v=>(aF q oN (U.o v) q).to (b:=Au) q) (Go.Wk.jP _ q q q H (fun w' v=>bg q) (Go.Wk.jP _ q q q H (fun w' v=>rS (a:=o.ay.length) (b:=1) q q Jy) (Go.Wk.jP _ q q q H (fun w' v=>bU (i:=o.ay.length-1) 2 q q wY FI N.dY Jy) ?_))));obtain⟨Bi,A6⟩:=eI (l:=Al.ay) (i:=o.ay.length-1) Jy;obtain⟨C6,Cc,K⟩:=Ad.get A6;obtain⟨_,rfl,Cr⟩:=p9 Cc;replace K:At _ Au ((o.ay.length-1)*2) (jO.cells Bi):=K;refine Go.Wk.jP _ q q q H (fun w' v=>gU q (K.o v) wD) (Go.Wk.jP _ q q q H (fun w' v=>(cV (kk:=(o.ay.length-1)*2) 0 q q bP (K.o v) q).to (b:=(.int .u64 Bi.cC)) q) ?_);have Dh:Bi.cC<18446744073709551616:=Cr.1;refine dV ?_;obtain⟨A,C,N,F,uQ,M⟩:=k6 L A C N F uQ M;clear Ad U;clear MC;refine sg H (uN (a:=Bh.cC) (b:=Bi.cC) q q) ?_
   refine st _ (bE q H q) (aA ?_);clear Ai;clear K;refine ai ?_;refine cM q (fun Bu=>?_) (fun Bu=>?_)
   ·(have B6:=dT Bu);refine ns (st _ (bV (us:=[]) (cs:=(eA.cells (kR) SN)) [] yF yV q q trivial trivial q q) (ax (us:=(eA.cells (kR) SN)) q q (by exact ku) (by exact fun u hu=>aP (eA.one q) u hu) A (lB q) ?_));have K:=A;clear A;intro Dw G A;replace M:=M.step G (hI g);clear K;replace A:cF _ _ (eA.cells (kR) SN) _:=A;refine ar q (bS (bf (bf (bS (bf ?_)))));exact dM (vs:=[(.agg (eA.cells (kR) SN).toArray),(.int .i64 ((11:Nat):Int))]) trivial q ⟨⟨_,q,cB (cs:=(eA.cells (kR) SN)) (by exact ku) A⟩,q,tV⟩ q ⟨_,(kR),11,q,M,Zx,(Ls.nil _ _ _),Jy,(ae1 Aq r ⟨by omega,by omega⟩ (by rw[Bf];simpa using Aw) (its:=Al.ay) (k:=k) (by rw[P];exact tu Aj Az A2 A3) Jy Az A5 A6 Jy Jy)⟩
   (have B6:=dF Bu);refine bh (ck (ai (aQ (mv q (st _ (rA (a:=k) (b:=16) q q Jy) (an q ?_))))));refine js (x0:=Al) (x1:=Au) (x2:=(k+16)) Jy ⟨(er q Jy),q,q,q,tV⟩ ⟨Bo,tQ,Y,uQ,M,F,N,A8,A,C,J,I,Jy,Jy,(by rw[P];exact tu Aj Az A2 A3),(VY (by rw[P]) A7 (.inr ⟨_,_,A5,A6,by omega,by omega⟩)),(by rw[P,Ae])⟩
  (have B5:=dF H);refine dB q q q H (dB q q q H (dB q q q H (dB q q q H (dB q q q H (dB q q q H (dB q q q H (dB q q q H (dB q q q H (dB q q q H (dB q q q H (dB q q q H (dB q q q H (dV ?_)))))))))))));obtain⟨A,C,N,F,uQ,M⟩:=k6 L A C N F uQ M;clear Ad U;clear MC;refine sk H (st _ (bw q H q) (nt (iF q q (bh (ck (ai (aQ (mv q (st _ (rA (a:=k) (b:=16) q q Jy) (an q ?_))))))))));refine js (x0:=Al) (x1:=Au) (x2:=(k+16)) Jy ⟨(er q Jy),q,q,q,tV⟩ ⟨Bo,tQ,Y,uQ,M,F,N,A8,A,C,J,I,Jy,Jy,(by rw[P];exact tu Aj Az A2 A3),(VY (by rw[P]) A7 (.inl Jy)),(by rw[P,Ae])⟩
 (have B4:=dF Bt);refine dr (bW (bW (ej (ai (ns (st _ (cK (eA.cells o E) q (by exact ku) F q) (ax (us:=(eA.cells o E)) q q (by exact ku) (by exact fun u hu=>aP (eA.one D.cG) u hu) A (lB q) ?_)))))));have Ay:=D;have K:=A;clear A;intro Dx G A;have hS:∀b∈[Ah],¬Bn b:=(hI I);replace Ay:=Ay.md G (aB K Ay) hS;replace M:=M.step G (hI g);clear K hS;replace A:cF _ _ (eA.cells o E) _:=A;refine ar q ?_;exact dM (vs:=[(.agg (eA.cells o E).toArray),(.int .i64 ((0:Nat):Int))]) trivial q ⟨⟨_,q,cB (cs:=(eA.cells o E)) (by exact ku) A⟩,q,tV⟩ q ⟨_,o,0,q,M,Ag,(Ay.ls (fun b O=>tQ b O) (cE.up Cs)),Jy,(ae4 (k:=k) Aq r ⟨by omega,by omega⟩ (by rw[Bf];simpa using Aw) (by rw[Ae,z];exact Bf.symm) (by rw[Ae,z];exact Ch.symm) (by rw[Ae,z];exact B7.symm) (by have O:=Bl;rw[show i=16 by omega,List.take_of_length_le (by rw[Ak.2.2.2.1];exact Nat.le_refl _)]at O;rw[Ae];exact O) (by rw[Ae,z];exact B8.symm) Aj Jy A7)⟩
theorem ahB:dA Zp 156=true:=Ym
theorem OW (uQ:Up w Q) {v0:Value} {v:gK} (h0:Pt jZ 145 w Q v0 v) (p:Nat) (a1:p<18446744073709551616) (p0:v.b.length≤1000000) :
  Calls Zp 145 #[v0,(.int .u64 p)] w fun en w'=>∃u0_0:Value,∃r0:eA,∃r1:Nat,en = .returned (.tuple #[.agg (eA.cells r0 u0_0).toArray,(.int .i64 r1)])∧Md [] w w'∧eA.ok r0∧Ls tK w' Q u0_0 r0.ay∧r1<9223372036854775808∧iH (v.h.n.getD 0 0) v.b p=(r0,r1):=by
 obtain⟨X,r,rfl,J,h0,nO⟩:=h0;obtain⟨y,rfl,t,F⟩:=kg nO;have M:=Md.refl [] w;have x:=uQ;have f:∀b,Q b→Q b:=fun _ h=>h;refine enter (n:=22) Tryz.func145 q q q fun B=>ns (cu yF ?_);intro R w4 N d E A;have Y:X≠R:=(by have:=h0.lt;omega);obtain⟨o,e,l,T,W⟩:=jq uQ N d E;replace J:=e _ J h0.lt;replace f:=tT f l;replace N:=lj M.size N;replace F:=(F.sub e).o E;obtain⟨h0,M⟩:=k2 E h0 M;replace uQ:=W;clear W e l;have K:cE [] w R:=.inr N;replace A:cF _ _ (eA.cells (kR) SN) _:=A;have i:eA.ok (kR):=(by exact⟨Kq,Kq,Kq,q,Kq⟩);refine an q (aN (ns (m2 q q (au abb q (EC uQ ⟨_,_,q,J,h0,iX t F⟩ p Jy) ?_))));rintro en w7 ⟨L,rfl,E,j,V⟩;refine rv ?_;obtain⟨F,h0,A,uQ,M⟩:=k5 E F h0 A uQ M;refine an q (nm q (st _ (eH (a:=L) (b:=0) q q) (nt ?_)));refine cM q (fun S=>?_) (fun S=>?_)
 ·(have H:=dT S);refine ns (st _ (bV (us:=[]) (cs:=(eA.cells (kR) SN)) [] yF yV q q trivial trivial q q) (mv q (ax (us:=(eA.cells (kR) SN)) q q (by exact ku) (by exact fun u c=>aP (eA.one q) u c) A (lB q) ?_)));have I:=A;clear A;intro w8 E A;replace M:=M.step E (hI K);clear I;replace A:cF _ _ (eA.cells (kR) SN) _:=A;refine ar q (bf ?_);exact dM (vs:=[(.agg (eA.cells (kR) SN).toArray),(.int .i64 L)]) trivial q ⟨⟨_,q,cB (cs:=(eA.cells (kR) SN)) (by exact ku) A⟩,q,tV⟩ q ⟨_,(kR),L,q,M,Zx,(Ls.nil _ _ _),Zx,(adH (aaS V H) H)⟩
 (have H:=dF S);refine bh (ai (nm q (sn q (sf q wE (sl (u:=y) q gG h0 q (mv q (au ahB q (KR uQ F p Jy Jy) ?_)))))));rintro en w9 ⟨D,G,P,rfl,E,O,C,k,Z⟩;refine rv ?_;obtain⟨A,M⟩:=k2 E A M;refine se q q (se q q (ax (us:=(eA.cells G D)) q q (by exact ku) (by exact fun u c=>aP (eA.one C.cG) u c) A (lB q) ?_));have I:=A;clear A;intro z E A;have g:∀b∈[R],¬o b:=(hI T);replace C:=C.md E g;replace M:=M.step E (hI K);clear I g;replace A:cF _ _ (eA.cells G D) _:=A;refine ar q ?_;exact dM (vs:=[(.agg (eA.cells G D).toArray),(.int .i64 P)]) trivial q ⟨⟨_,q,cB (cs:=(eA.cells G D)) (by exact ku) A⟩,q,tV⟩ q ⟨_,G,P,q,M,O,(C.sub (fun b U _=>f b U)),Zx,(Qq (by rw[V];omega) Z)⟩
theorem u9:Zp.underlying 9=some (.string):=Ym
theorem HO (s:Ly) (w:World) (hl:s.length≤9223372036854775807):Calls Zp 114 #[str s] w fun e w'=>e = .returned (.bool (fp s))∧w=w':=by
 have M:=Md.refl [] w;refine enter (n:=44) Tryz.func114 q q q fun B=>ns (an q (aN (ns (dh q (nt (bQ ?_))))));refine jS (X:=Nat) (fun i=>[(0,str s),(3,.int .i64 i)]) (fun i w'=>w=w'∧i≤s.length∧∀j,j<i→jr (s.getD j 0)=true∧(j=0→digit (s.getD j 0)=false)) (fun i=>s.length-i) 0 ?_ ?_ ?_
 ·exact⟨q,q,tV⟩
 ·exact⟨q,by omega,fun j I=>by omega⟩
 clear M
 rintro i B Z ⟨rfl,Y,O⟩;have M:=Md.refl [] w;refine aN (ns (m2 q q (st _ (t7 q u9) (st _ (pV q q) (nt ?_)))));refine cM q (fun V=>?_) (fun V=>?_)
 ·(have W:=dT V);refine bh (ai (aN (bQ (ns (m2 q q (st _ (wS q q u9 Jy) (an q (aN (nm q (st _ (qE q q) ?_))))))))));refine mv q ?_;refine cO (t:=16) q (fun J=>?_) (fun J=>?_)
  ·(have Q:=dT J);refine sg J (bg q) (sg J (wT q q) (st _ (bE q J q) (mv q ?_)));refine cO (t:=20) q (fun K=>?_) (fun K=>?_)
   ·(have R:=dT K);refine sg K (bg q) (sg K (uE q q) (st _ (bE q K q) (mv q ?_)));refine cO (t:=24) q (fun F=>?_) (fun F=>?_)
    ·(have S:=dT F);refine sk F (sk F (sk F (kP q q q (kP q q q (sk F (st _ (bE q F q) (mv q (sk q (sk q (st _ (bE q q q) (nt (fJ q q (dr ?_)))))))))))));refine bW (ej (ai (aQ (mv q (st _ (eW q q Jy) (an q (next (i+1) Jy ⟨q,er q Oq,tV⟩ ?_)))))))
     exact⟨q,by omega,fun j I=>by
      rcases Nat.lt_or_eq_of_le (Nat.le_of_lt_succ I)with h|h
      ·exact O j h
      ·subst h;exact⟨by unfold jr;exact decide_eq_true Jy,fun H=>by unfold digit;exact decide_eq_false Jy⟩⟩
    (have S:=dF F);refine sg F (bg q) (sg F (qE q q) (sg F (bg q) ?_));refine cO (t:=27) q (fun A=>?_) (fun A=>?_)
    ·(have L:=dT A);refine sg A (bg q) (sg A (wT q q) (sg F (bE q A q) (st _ (bw q F q) (mv q ?_))));refine cO (t:=32) q (fun C=>?_) (fun C=>?_)
     ·(have N:=dT C);refine sk C (sk C (st _ (bE q C q) (nt (fJ q q (dr (bW (ej (ai (aQ (mv q (st _ (eW q q Jy) (an q ?_))))))))))));refine next (i+1) Jy ⟨q,er q Oq,tV⟩ ?_
      exact⟨q,by omega,fun j I=>by
       rcases Nat.lt_or_eq_of_le (Nat.le_of_lt_succ I)with h|h
       ·exact O j h
       ·subst h;exact⟨by unfold jr;exact decide_eq_true Jy,fun H=>by unfold digit;exact decide_eq_false Jy⟩⟩
     (have N:=dF C);refine sg C (bg q) (sg C (nL q q) (st _ (bw q C q) (nt ?_)));refine cM q (fun D=>?_) (fun D=>?_)
     ·(have E:=dT D);refine dr (bW (ej (ai (aQ (mv q (st _ (eW q q Jy) (an q (next (i+1) Jy ⟨q,er q Oq,tV⟩ ?_))))))))
      exact⟨q,by omega,fun j I=>by
       rcases Nat.lt_or_eq_of_le (Nat.le_of_lt_succ I)with h|h
       ·exact O j h
       ·subst h;exact⟨by unfold jr;exact decide_eq_true Jy,fun H=>by unfold digit;exact decide_eq_false Jy⟩⟩
     (have E:=dF D);refine bh (ai (ns (ar q (bS (bf (bf (bS (bf ?_))))))));exact iy trivial q q ⟨oQ (by cases hh:fp s with|false=>rfl|true=>(exfalso;have hl:=gL hh;have P:=iv hh;have U:=kX hh i Jy;rcases Nat.eq_zero_or_pos i with H|H<;>omega)),q⟩
    (have L:=dF A);refine sk A (sk A (sg F (bw q A q) (st _ (bw q F q) (mv q (sg q (bg q) (sg q (nL q q) (st _ (bw q q q) (nt ?_))))))));refine cM q (fun D=>?_) (fun D=>?_)
    ·(have E:=dT D);refine dr (bW (ej (ai (aQ (mv q (st _ (eW q q Jy) (an q (next (i+1) Jy ⟨q,er q Oq,tV⟩ ?_))))))))
     exact⟨q,by omega,fun j I=>by
      rcases Nat.lt_or_eq_of_le (Nat.le_of_lt_succ I)with h|h
      ·exact O j h
      ·subst h;exact⟨by unfold jr;exact decide_eq_true Jy,fun H=>by unfold digit;exact decide_eq_false Jy⟩⟩
    (have E:=dF D);refine bh (ai (ns (ar q (bS (bf (bf (bS (bf ?_))))))));exact iy trivial q q ⟨oQ (by cases hh:fp s with|false=>rfl|true=>(exfalso;have hl:=gL hh;have P:=iv hh;have U:=kX hh i Jy;rcases Nat.eq_zero_or_pos i with H|H<;>first|omega|(subst H;omega))),q⟩
   (have R:=dF K);refine sk K (sk K (st _ (bw q K q) (mv q (sg q (bg q) (sg q (qE q q) (sg q (bg q) ?_))))));refine cO (t:=27) q (fun A=>?_) (fun A=>?_)
   ·(have L:=dT A);refine sg A (bg q) (sg A (wT q q) (sg q (bE q A q) (st _ (bw q q q) (mv q ?_))));refine cO (t:=32) q (fun C=>?_) (fun C=>?_)
    ·(have N:=dT C);refine sk C (sk C (st _ (bE q C q) (nt (fJ q q (dr (bW (ej (ai (aQ (mv q (st _ (eW q q Jy) (an q ?_))))))))))));refine next (i+1) Jy ⟨q,er q Oq,tV⟩ ?_
     exact⟨q,by omega,fun j I=>by
      rcases Nat.lt_or_eq_of_le (Nat.le_of_lt_succ I)with h|h
      ·exact O j h
      ·subst h;exact⟨by unfold jr;exact decide_eq_true Jy,fun H=>by unfold digit;exact decide_eq_false Jy⟩⟩
    (have N:=dF C);refine sg C (bg q) (sg C (nL q q) (st _ (bw q C q) (nt ?_)));refine cM q (fun D=>?_) (fun D=>?_)
    ·(have E:=dT D);refine dr (bW (ej (ai (aQ (mv q (st _ (eW q q Jy) (an q (next (i+1) Jy ⟨q,er q Oq,tV⟩ ?_))))))))
     exact⟨q,by omega,fun j I=>by
      rcases Nat.lt_or_eq_of_le (Nat.le_of_lt_succ I)with h|h
      ·exact O j h
      ·subst h;exact⟨by unfold jr;exact decide_eq_true Jy,fun H=>by unfold digit;exact decide_eq_false Jy⟩⟩
    (have E:=dF D);refine bh (ai (ns (ar q (bS (bf (bf (bS (bf ?_))))))));exact iy trivial q q ⟨oQ (by cases hh:fp s with|false=>rfl|true=>(exfalso;have hl:=gL hh;have P:=iv hh;have U:=kX hh i Jy;rcases Nat.eq_zero_or_pos i with H|H<;>omega)),q⟩
   (have L:=dF A);refine sk A (sk A (sg q (bw q A q) (st _ (bw q q q) (mv q (sg q (bg q) (sg q (nL q q) (st _ (bw q q q) (nt ?_))))))));refine cM q (fun D=>?_) (fun D=>?_)
   ·(have E:=dT D);refine dr (bW (ej (ai (aQ (mv q (st _ (eW q q Jy) (an q (next (i+1) Jy ⟨q,er q Oq,tV⟩ ?_))))))))
    exact⟨q,by omega,fun j I=>by
     rcases Nat.lt_or_eq_of_le (Nat.le_of_lt_succ I)with h|h
     ·exact O j h
     ·subst h;exact⟨by unfold jr;exact decide_eq_true Jy,fun H=>by unfold digit;exact decide_eq_false Jy⟩⟩
   (have E:=dF D);refine bh (ai (ns (ar q (bS (bf (bf (bS (bf ?_))))))));exact iy trivial q q ⟨oQ (by cases hh:fp s with|false=>rfl|true=>(exfalso;have hl:=gL hh;have P:=iv hh;have U:=kX hh i Jy;rcases Nat.eq_zero_or_pos i with H|H<;>omega)),q⟩
  (have Q:=dF J);refine sk J (sk J (st _ (bw q J q) (mv q (sk q (sk q (st _ (bw q q q) (mv q (sg q (bg q) (sg q (qE q q) (sg q (bg q) ?_))))))))));refine cO (t:=27) q (fun A=>?_) (fun A=>?_)
  ·(have L:=dT A);refine sg A (bg q) (sg A (wT q q) (sg q (bE q A q) (st _ (bw q q q) (mv q ?_))));refine cO (t:=32) q (fun C=>?_) (fun C=>?_)
   ·(have N:=dT C);refine sk C (sk C (st _ (bE q C q) (nt (fJ q q (dr (bW (ej (ai (aQ (mv q (st _ (eW q q Jy) (an q ?_))))))))))));refine next (i+1) Jy ⟨q,er q Oq,tV⟩ ?_
    exact⟨q,by omega,fun j I=>by
     rcases Nat.lt_or_eq_of_le (Nat.le_of_lt_succ I)with h|h
     ·exact O j h
     ·subst h;exact⟨by unfold jr;exact decide_eq_true Jy,fun H=>by unfold digit;exact decide_eq_false Jy⟩⟩
   (have N:=dF C);refine sg C (bg q) (sg C (nL q q) (st _ (bw q C q) (nt ?_)));refine cM q (fun D=>?_) (fun D=>?_)
   ·(have E:=dT D);refine dr (bW (ej (ai (aQ (mv q (st _ (eW q q Jy) (an q (next (i+1) Jy ⟨q,er q Oq,tV⟩ ?_))))))))
    exact⟨q,by omega,fun j I=>by
     rcases Nat.lt_or_eq_of_le (Nat.le_of_lt_succ I)with h|h
     ·exact O j h
     ·subst h;exact⟨by unfold jr;exact decide_eq_true Jy,fun H=>by unfold digit;exact decide_eq_false Jy⟩⟩
   (have E:=dF D);refine bh (ai (ns (ar q (bS (bf (bf (bS (bf ?_))))))));exact iy trivial q q ⟨oQ (by cases hh:fp s with|false=>rfl|true=>(exfalso;have hl:=gL hh;have P:=iv hh;have U:=kX hh i Jy;rcases Nat.eq_zero_or_pos i with H|H<;>omega)),q⟩
  (have L:=dF A);refine sk A (sk A (sg q (bw q A q) (st _ (bw q q q) (mv q (sg q (bg q) (sg q (nL q q) (st _ (bw q q q) (nt ?_))))))));refine cM q (fun D=>?_) (fun D=>?_)
  ·(have E:=dT D);refine dr (bW (ej (ai (aQ (mv q (st _ (eW q q Jy) (an q (next (i+1) Jy ⟨q,er q Oq,tV⟩ ?_))))))))
   exact⟨q,by omega,fun j I=>by
    rcases Nat.lt_or_eq_of_le (Nat.le_of_lt_succ I)with h|h
    ·exact O j h
    ·subst h;exact⟨by unfold jr;exact decide_eq_true Jy,fun H=>by unfold digit;exact decide_eq_false Jy⟩⟩
  (have E:=dF D);refine bh (ai (ns (ar q (bS (bf (bf (bS (bf ?_))))))));exact iy trivial q q ⟨oQ (by cases hh:fp s with|false=>rfl|true=>(exfalso;have hl:=gL hh;have P:=iv hh;have U:=kX hh i Jy;rcases Nat.eq_zero_or_pos i with H|H<;>omega)),q⟩
 (have W:=dF V);refine dr (bW (bW (ej (ai (nm q (st _ (t7 q u9) (st _ (qE q q) (mv q ?_))))))));refine cO (t:=39) q (fun G=>?_) (fun G=>?_)
 ·(have T:=dT G);refine sg G (bg q) (sg G (t7 q u9) (sg G (wT q q) (st _ (bE q G q) (ar q ?_))));exact iy trivial q q ⟨oQ (abE Jy (fun j I=>O j Jy)),q⟩
 (have T:=dF G);refine sk G (sk G (sk G (st _ (bw q G q) (ar q ?_))));exact iy trivial q q ⟨oQ (by cases hh:fp s with|false=>rfl|true=>(exfalso;have hl:=gL hh;have P:=iv hh;omega)),q⟩
theorem fR:fV Zp 56 2=true:=Ym
theorem aft:dA Zp 114=true:=Ym
theorem yq:gh Zp 56=some [(0,1),(1,1)]:=Ym
theorem z56:eL Zp 56=some [.string ByteArray.empty,.string ByteArray.empty]:=Ym
theorem SH (v:Value) (l:Ly) (w:World) (hB:By w v l) (hl:l.length≤4611686018427387904) :
  Calls Zp 147 #[v] w fun e w'=>e = .returned (.tuple #[nq (nP l),.int .i64 (gR l)])∧Md [] w w':=by
 have V:=hB.eM;have M:=Md.refl [] w;refine enter (n:=41) Tryz.func147 q q q fun B=>ns (cu z56 ?_);intro U a N Z E A;replace N:=lj M.size N;replace M:=M.k E;refine an q (aN (ns (dh q (nt (bQ ?_)))));refine jS (X:=Nat) (fun i=>[(0,v),(2,.pointer (some ⟨U,0,none⟩)),(4,.int .i64 i)]) (fun i w'=>Md [] w w'∧cF w' U [.string ByteArray.empty,.string ByteArray.empty] 56∧i≤l.length∧∀j,j<i→l.getD j 0≠61) (fun i=>l.length-i) 0 ?_ ?_ ?_
 ·exact⟨q,q,q,tV⟩
 ·exact⟨M,A,by omega,fun j T=>by omega⟩
 clear M
 clear A;rintro i B b ⟨M,A,Y,Q⟩;refine aN (ns (m2 q q (sL q fD hB.dY (st _ (pV q q) (nt ?_)))));refine cM q (fun R=>?_) (fun R=>?_)
 ·(have S:=dT R);refine bh (ai (aN (bQ (aN (ns (m2 q q (st _ (zQ q q fD mL hB.dY Jy) (st _ (zR q qf (hB.o M) Jy) (st _ (ZC q q) (nt ?_))))))))));refine cM q (fun H=>?_) (fun H=>?_)
  ·(have F:=dT H);refine dr (bW (ej (ai (aQ (mv q (st _ (eW q q Jy) (an q (next (i+1) Jy ⟨q,q,er q Oq,tV⟩ ?_))))))))
   exact⟨M,A,by omega,fun j T=>by
    rcases Nat.lt_or_eq_of_le (Nat.le_of_lt_succ T)with h|h
    ·exact Q j h
    ·subst h;intro W;apply F;rw[Int.toNat_natCast,W];rfl⟩
  (have F:=dF H);have O:=F;rw[Int.toNat_natCast]at O;have G:Lib.indexByte l 61=i:=aii Jy (UInt8.toNat_inj.1 (by show _=61;omega)) Q;refine bh (ai (aN (ns (m2 q q (st _ (mI 0 i fD mL q hB.dY Jy Jy q ⟨_,q⟩) (st _ (ny fD u5 u9 q ((hB.head i Jy).o M)) (au aft q (HO (l.take i) _ Zz) ?_)))))));rintro e _ ⟨rfl,rfl⟩;refine rv ?_;refine st _ (jI q) (nt ?_);refine cM q (fun I=>?_) (fun I=>?_)
  ·(have D:=gO I);refine ns (st (.agg [_,_].toArray) (jQ (ps:=[]) z56 yq q q trivial q q q) (fC q q (by exact fR) (by simp[nq,str,Value.oneCell']) A (by rfl) ?_));have K:=A;clear A;intro c E A;replace M:=M.eB E N;refine ar q (bf (bS (bf (bf (bS (bf ?_))))));have C:gR l=20:=(by unfold gR;rw[G,if_neg Jy,Int.toNat_natCast,if_pos D]);have L:=pF (s:=l) (by rw[C];decide);exact zb trivial q q (by exact fR) A q ⟨by rw[C,L];rfl,M⟩
  (have D:=gN I);refine bh (ai (aN (nm q (sL q fD hB.dY (mv q (st _ (kS q q Jy) (st _ (kS q q Jy) (st _ (uE q q) (nt ?_)))))))));refine cM q (fun J=>?_) (fun J=>?_)
  ·(have P:=dT J);refine ns (st (.agg [_,_].toArray) (jQ (ps:=[]) z56 yq q q trivial q q q) (fC q q (by exact fR) (by simp[nq,str,Value.oneCell']) A (by rfl) ?_));have K:=A;clear A;intro d E A;replace M:=M.eB E N;refine ar q (bf (bS (bf (bf (bS (bf ?_))))));have C:gR l=21:=(by unfold gR;rw[G,if_neg Jy,Int.toNat_natCast,if_neg (by simp[D]),if_pos Zz]);have L:=pF (s:=l) (by rw[C];decide);exact zb trivial q q (by exact fR) A q ⟨by rw[C,L];rfl,M⟩
  (have P:=dF J);refine bh (ai (aN (AQ [(0,true),(1,true),(2,true),(3,true),(4,true),(5,true),(6,true),(7,true),(8,true),(9,true),(10,false),(11,true)] (fun w'=>By w' v l) dQ Ym ?_)));intro f E;obtain⟨A,M⟩:=k2 E A M;refine⟨(hB.o M),?_⟩;refine m _ (fun w' C=>bg q) (m _ (fun w' C=>bg q) (m _ (fun w' C=>mI 0 i fD mL q hB.dY Jy Jy q ⟨_,q⟩) (m _ (fun w' C=>ny fD u5 u9 q (By.head C i Jy)) (m _ (fun w' C=>bg q) (m _ (fun w' C=>bg q) (m _ (fun w' C=>(eW q q Jy).jE (show _=((i+1:Nat):Int)from by simp)) (m _ (fun w' C=>mI (i+1) l.length fD mL q hB.dY Jy Jy ⟨_,q⟩ q) (m _ (fun w' C=>ny fD u5 u9 q (By.tail C (i+1) Jy)) (m (.agg [_,_].toArray) (fun w' C=>jQ (ps:=[(0,0),(1,1)]) z56 yq q q ⟨q,q,tV⟩ q q q) ?_)))))))));refine kE ?_ rfl;refine fC q q (by exact fR) (by simp[nq,str,Value.oneCell']) A (by rfl) ?_;have K:=A;clear A;intro g E A;replace M:=M.eB E N;refine aA ⟨q,(hB.o M),?_⟩;refine m _ (fun w' C=>fB q) (dV (ai (j4 (bS (bf (bf (bS (bf ?_))))))));have C:gR l=0:=(by unfold gR;rw[G,if_neg Jy,Int.toNat_natCast,if_neg (by simp[D]),if_neg Zz]);have L:nP l=(l.take i,l.drop (i+1)):=(by unfold nP;rw[if_pos C,G,Int.toNat_natCast]);exact zb trivial q q (by exact fR) A q ⟨by rw[C,L];rfl,M⟩
 (have S:=dF R);refine dr (bW (bW (ej (ai (ns (st (.agg [_,_].toArray) (jQ (ps:=[]) z56 yq q q trivial q q q) (fC q q (by exact fR) (by simp[nq,str,Value.oneCell']) A (by rfl) ?_)))))));have K:=A;clear A;intro k E A;replace M:=M.eB E N;refine ar q ?_;have C:gR l=20:=(by unfold gR;rw[if_pos (aea fun j T=>Q j Jy)]);have L:=pF (s:=l) (by rw[C];decide);exact zb trivial q q (by exact fR) A q ⟨by rw[C,L];rfl,M⟩
end Go.Proofs.YtbmmkbejcnalcaaGreat
namespace Go.Wk
open Go Go.RowKit
def RL (v:Value):List PanicEntry:=[{v,recovered:=false}]
def MP (P:Program) (t:TypeId):Bool:=match P.underlying t with|some (.interface _)=>true|_=>false
def CU (P:Program) (t:TypeId):Bool:=match P.underlying t with|some (.interface _)=>false|some _=>true|none=>false
theorem yT {P:Program} {t:TypeId} (h:CU P t=true):∃X,P.underlying t=some X∧∀Y,X≠.interface Y:=by
  unfold CU at h
  split at h
  · cases h
  · rename_i X h1 h2;exact⟨X,h2,fun Y e=>h1 Y e⟩
  cases h
theorem BS {P:Program} {t:TypeId} (h:MP P t=true):∃X,P.underlying t=some (.interface X):=by
  unfold MP at h
  split at h
  · exact⟨_,by assumption⟩
  cases h
section
variable {P:Program} {ops:Array Oper} {Q:Exit→Act→World→Prop} {rest:List Oper}
variable {n:Nat} {A:Fr n} {D:List Deferred} {l:List (Nat × Value)} {w:World}
variable {d:Tmp} {op:Op} {ty:TypeId} {ps:String} {af:Array Edge} {g:Option (Nat × Bool)}
theorem door {vs:List Value} {m:Nat} (hn:m=n) (hle:Nat.ble vs.length n=true) :
    ∃B:Fr n,bA B [] (sN 0 vs)={tmps:=vs.toArray ++ Array.replicate (m-vs.toArray.size) undef,defers:=[]}:=by
  have hle':vs.length≤n:=lB hle
  have D:(vs.toArray ++ Array.replicate (m-vs.toArray.size) undef).size=n:=by simp[hn];omega
  refine⟨⟨_,D⟩,GU ?_⟩
  intro p G
  obtain⟨j,E,F⟩:=CP G
  obtain⟨A,C⟩:=List.getElem?_eq_some_iff.1 F
  simp only[E,Nat.zero_add,Array.getD]
  rw[dif_pos Zz]
  show(vs.toArray ++ _)[j]'_=_
  rw[Array.getElem_append_left (by simpa using A)]
  simpa using C
theorem afW {f:FuncId} {fn:Func} {c:Code} {vs:List Value} {R:Ending→World→Prop} (hf:P.funcs[f]? = some fn) (hb:fn.body=some c) (hn:fn.ntmps=n) (hle:Nat.ble vs.length n=true)
    (h:∀B:Fr n,c.wp P (bodyPostD P fn R) (bA B [] (sN 0 vs)) w):Calls P f vs.toArray w R:=by
  refine calls_of_wp_defers hf hb ?_
  obtain⟨B,A⟩:=door hn hle
  rw[← A];exact h B
theorem afX {f:FuncId} {fn:Func} {c:Code} {vs:List Value} {u:FrameMode} {R:Ending→FrameMode→World→Prop} (hf:P.funcs[f]? = some fn) (hb:fn.body=some c) (hn:fn.ntmps=n) (hle:Nat.ble vs.length n=true)
    (h:∀(B:Fr n) (c₀:Go.Frame) (cs:List Go.Frame),c₀.mode=u→c.wpS P (bodyPostS P fn c₀ cs R) (bA B [] (sN 0 vs)) (c₀ :: cs) w):CallsD P f vs.toArray u w R:=by
  refine callsD_of_wpS hf hb fun c₀ cs C=>?_
  obtain⟨B,A⟩:=door hn hle
  rw[← A];exact h B c₀ cs C
theorem tC {f:FuncId} {xs:List Operand} {vs:List Value} {d':Option Tmp} (hx:evs n l xs=some vs) :
    dn P ⟨d',.makeFunc (.func f) #[] xs.toArray,ty,ps,af,g⟩ (bA A D l).eval w (.func (.func f) #[] vs.toArray):=by
  have B:=ng (A:=A) (D:=D) hx
  simp[dn,execOp,Instr.makeFunc,B]
theorem YW (dd:Deferred) (v:Option Tmp) (x:Value):({bA A D l with defers:=dd :: (bA A D l).defers}.put v x)=match v with|some t=>bA A (dd :: D) ((t,x) :: l)|none=>bA A (dd :: D) l:=by
  have B:∀l:List (Nat × Value),({bA A D l with defers:=dd :: (bA A D l).defers}:Act)=bA A (dd :: D) l:=by
    intro l
    rw[gq]
    induction l with
    | nil=>rfl
    | cons p r ih=>simp only[bA,Act.put]at ih ⊢;simp only[← ih]
  rw[B]
  cases v <;> rfl
theorem ade {f:FuncId} {c:Operand} {ts:Array TypeId} {cs:List Value} {d':Option Tmp} (hc:ev n l c=some (.func (.func f) #[] cs.toArray))
    (k:wpList P ops Q rest (match d' with|some t=>bA A (⟨.fn (.func f) cs.toArray,#[]⟩ :: D) ((t,undef) :: l)|none=>bA A (⟨.fn (.func f) cs.toArray,#[]⟩ :: D) l) w) :
    wpList P ops Q (⟨d',.defer {callee:=.value c,args:=#[],argTypes:=ts},ty,ps,af,none⟩ :: rest) (bA A D l) w:=by
  refine gM q ?_
  unfold Oper.wp
  have B:(execOp (bA A D l).eval ⟨d',.defer {callee:=.value c,args:=#[],argTypes:=ts},ty,ps,af,none⟩).run P w = .ok (.defer ⟨.fn (.func f) cs.toArray,#[]⟩) w:=by
    simp[execOp,resolve,cL hc,Deferred.ofValue]
  rw[B]
  show wpList P ops Q rest ({bA A D l with defers:=_ :: (bA A D l).defers}.put d' undef) w
  rw[YW]
  cases d' <;> exact k
theorem ZX {f:FuncId} {c:Operand} {xs:List Operand} {ts:Array TypeId} {vs cs:List Value} {R:Ending→World→Prop} {d':Option Tmp} (hc:ev n l c=some (.func (.func f) #[] cs.toArray)) (hf:dA P f=true) (ha:evs n l xs=some vs) (hr:Calls P f (vs ++ cs).toArray w R)
    (k:∀e w',R e w'→(∃v,e = .returned v∧wpList P ops Q rest ((bA A D l).put d' v) w')∨∃ch,e = .panicked ch∧Q (.panic ch) (bA A D l) w') :
    wpList P ops Q (⟨d',.call {callee:=.value c,args:=xs.toArray,argTypes:=ts},ty,ps,af,none⟩ :: rest) (bA A D l) w:=by
  refine gM q ?_
  unfold Oper.wp
  have E:=ng (A:=A) (D:=D) ha
  have B:(execOp (bA A D l).eval ⟨d',.call {callee:=.value c,args:=xs.toArray,argTypes:=ts},ty,ps,af,none⟩).run P w = .ok (.enter f (vs ++ cs).toArray) w:=by
    simp only[execOp,resolve,cL hc,Deferred.ofValue,List.map_toArray,E]
    simp[invoke,p7 hf]
  rw[B]
  refine hr.mono fun e w' C=>?_
  rcases k e w' C with⟨v,rfl,hk⟩|⟨ch,rfl,hk⟩
  · exact hk
  exact hk
theorem lU {f:FuncId} {xs:List Operand} {ts:Array TypeId} {vs:List Value} {R:Ending→World→Prop} (hf:dA P f=true) (ha:evs n l xs=some vs) (hr:Calls P f vs.toArray w R)
    (k:∀e w',R e w'→(∃v,e = .returned v∧wpList P ops Q rest (bA A D ((d,v) :: l)) w')∨∃ch,e = .panicked ch∧Q (.panic ch) (bA A D l) w') :
    wpList P ops Q (⟨some d,.call {callee:=.value (.func f),args:=xs.toArray,argTypes:=ts},ty,ps,af,none⟩ :: rest) (bA A D l) w:=by
  refine gM q ?_
  unfold Oper.wp
  rw[xC hf ha]
  refine hr.mono fun e w' B=>?_
  rcases k e w' B with⟨v,rfl,hk⟩|⟨ch,rfl,hk⟩
  · exact hk
  exact hk
theorem nM {x:Operand} {t:TypeId} {v:Value} {d':Option Tmp} (hT:CU P t=true) (hx:ev n l x=some v) :
    dn P ⟨d',.makeInterface t x,ty,ps,af,g⟩ (bA A D l).eval w (.iface t v):=by
  obtain⟨X,hT,B⟩:=yT hT
  cases X <;> simp_all [dn,execOp,cL hx,Instr.makeInterface,run_underlying hT]
theorem pY {x:Operand} {t:TypeId} {v:Value} {d':Option Tmp} (hx:ev n l x=some (.iface t v)) (k:Q (.panic (RL (.iface t v))) (bA A D l) w) :
    wpList P ops Q (⟨d',.panic x,ty,ps,af,none⟩ :: rest) (bA A D l) w:=by
  refine gM q ?_
  unfold Oper.wp
  have B:(execOp (bA A D l).eval ⟨d',.panic x,ty,ps,af,none⟩).run P w = .halt (.panic (.iface t v)) w:=by
    simp[execOp,cL hx,Instr.panic,goPanic]
  rw[B];exact k
theorem iw {fn:Func} {R:Ending→World→Prop} {ch:List PanicEntry} (h:R (.panicked ch) w):bodyPost P fn R (.panic ch) (bA A [] l) w:=⟨gq,h⟩
theorem adL {t s:TypeId} {v:Value} {X} (w:World) (dd:Nat) (hT:P.underlying t=some (.interface X)):(Op.equalIn (dd+1) t (.iface s v) .nilIface).run P w = .ok false w:=by
  simp only[Op.equalIn,Sem.run_bind,run_underlying hT,Result.andThen_ok,Sem.run_pure]
theorem adK {t:TypeId} {X} (w:World) (dd:Nat) (hT:P.underlying t=some (.interface X)):(Op.equalIn (dd+1) t .nilIface .nilIface).run P w = .ok true w:=by
  simp only[Op.equalIn,Sem.run_bind,run_underlying hT,Result.andThen_ok,Sem.run_pure]
theorem ae8 {x:Operand} {t u s:TypeId} {v:Value} (hx:ev n l x=some (.iface s v)) (hT:MP P t=true) :
    dn P ⟨some d,.binOp .neq t x (.const .nilIface) u,ty,ps,af,g⟩ (bA A D l).eval w (.bool true):=by
  obtain⟨X,hT⟩:=BS hT
  have C:(bA A D l).eval (.const .nilIface) = .nilIface:=rfl
  have E:(eqGuard .neq t x (.const .nilIface) (.iface s v) .nilIface).run P w = .ok () w:=by unfold eqGuard;simp
  have B:(binOp .neq t (.iface s v) .nilIface).run P w = .ok (.bool true) w:=by
    simp only[binOp,Op.equal,Op.maxDepth,Sem.run_bind,adL w 9999 hT,Result.andThen_ok,Sem.run_pure,Bool.not_false]
  simp[dn,execOp,cL hx,C,E,B]
theorem ae9 {x:Operand} {t u:TypeId} (hx:ev n l x=some .nilIface) (hT:MP P t=true) :
    dn P ⟨some d,.binOp .neq t x (.const .nilIface) u,ty,ps,af,g⟩ (bA A D l).eval w (.bool false):=by
  obtain⟨X,hT⟩:=BS hT
  have C:(bA A D l).eval (.const .nilIface) = .nilIface:=rfl
  have E:(eqGuard .neq t x (.const .nilIface) .nilIface .nilIface).run P w = .ok () w:=by unfold eqGuard;simp
  have B:(binOp .neq t .nilIface .nilIface).run P w = .ok (.bool false) w:=by
    simp only[binOp,Op.equal,Op.maxDepth,Sem.run_bind,adK w 9999 hT,Result.andThen_ok,Sem.run_pure,Bool.not_true]
  simp[dn,execOp,cL hx,C,E,B]
end
section
variable {P:Program} {ops:Array Oper} {QS:Exit→Act→List Go.Frame→World→Prop} {cs:List Go.Frame} {rest:List Nat}
variable {n:Nat} {A:Fr n} {D:List Deferred} {l:List (Nat × Value)} {w:World}
theorem adb {i d:Nat} {o:Oper} (v:Value) (ho:ops[i]? = some o) (hg:o.guard=none) (hd:o.dst=some d) (hr:dn P o (bA A D l).eval w v) (k:wpOpsS P ops QS rest (bA A D ((d,v) :: l)) cs w) :
    wpOpsS P ops QS (i :: rest) (bA A D l) cs w:=by
  have B:Region.wanted o (yielded ops (bA A D l).tmps)=true:=by simp[Region.wanted,hg]
  unfold dn at hr
  simp only[wpOpsS,ho,B,if_true,hr,Oper.upon,hd]
  exact k
theorem agG {i d:Nat} {o:Oper} {ts:Array TypeId} (ho:ops[i]? = some o) (hg:o.guard=none) (hd:o.dst=some d) (hop:o.op = .call {callee:=.builtin .recover,args:=#[],argTypes:=ts}) {v:Value} {older:List PanicEntry} {c:Go.Frame} {cs':List Go.Frame} (hcs:cs=c :: cs')
    (hm:c.mode = .panicking ({v,recovered:=false} :: older)) (k:wpOpsS P ops QS rest (bA A D ((d,v) :: l)) ({c with mode:=.panicking ({v,recovered:=true} :: older)} :: cs') w) :
    wpOpsS P ops QS (i :: rest) (bA A D l) cs w:=by
  have E:Region.wanted o (yielded ops (bA A D l).tmps)=true:=by simp[Region.wanted,hg]
  have C:(execOp (bA A D l).eval o).run P w = .ok .recover w:=by
    simp[execOp,hop,resolve,invoke,builtin]
  subst hcs
  have B:recoverD (c :: cs')=some (v,{c with mode:=.panicking ({v,recovered:=true} :: older)} :: cs'):=by simp[recoverD,hm]
  simp only[wpOpsS,ho,E,if_true,C,B,hd]
  exact k
theorem aeS {i d:Nat} {o:Oper} {ts:Array TypeId} (ho:ops[i]? = some o) (hg:o.guard=none) (hd:o.dst=some d) (hop:o.op = .call {callee:=.builtin .recover,args:=#[],argTypes:=ts}) {c:Go.Frame} {cs':List Go.Frame} (hcs:cs=c :: cs')
    (hm:c.mode = .returning) (k:wpOpsS P ops QS rest (bA A D ((d,.nilIface) :: l)) cs w) :
    wpOpsS P ops QS (i :: rest) (bA A D l) cs w:=by
  have E:Region.wanted o (yielded ops (bA A D l).tmps)=true:=by simp[Region.wanted,hg]
  have C:(execOp (bA A D l).eval o).run P w = .ok .recover w:=by
    simp[execOp,hop,resolve,invoke,builtin]
  subst hcs
  have B:recoverD (c :: cs')=none:=by simp[recoverD,hm]
  simp only[wpOpsS,ho,E,if_true,C,B,hd]
  exact k
theorem ada (k:QS .normal (bA A D l) cs w):wpOpsS P ops QS [] (bA A D l) cs w:=k
end
section
variable {P:Program} {n:Nat} {A:Fr n} {l:List (Nat × Value)} {w:World}
theorem ai5 {fn:Func} {c₀:Go.Frame} {cs:List Go.Frame} {R:Ending→FrameMode→World→Prop} {u':FrameMode} {e:Exit} (he:su e) (hr:fn.results = #[]) (hR:R (.returned (.tuple #[])) u' w) :
    bodyPostS P fn c₀ cs R e (bA A [] l) ({c₀ with mode:=u'} :: cs) w:=by
  have h:=qq (P:=P) (w:=w) (A:=A) (D:=[]) (l:=l) (fn:=fn) (rs:=[]) (vs:=[]) hr trivial
  cases e with
  | normal=>exact⟨gq,u',q,_,h,hR⟩
  | ret=>exact⟨gq,u',q,_,h,hR⟩
  | _=>exact he.elim
theorem ai6 {fn:Func} {c₀:Go.Frame} {cs:List Go.Frame} {R:Ending→FrameMode→World→Prop} {u:FrameMode} {e:Exit} (hc:c₀.mode=u) (he:su e) (hr:fn.results = #[]) (hR:R (.returned (.tuple #[])) u w) :
    bodyPostS P fn c₀ cs R e (bA A [] l) (c₀ :: cs) w:=by
  have h:({c₀ with mode:=u}:Go.Frame)=c₀:=by subst hc;rfl
  have:=ai5 (P:=P) (A:=A) (l:=l) (c₀:=c₀) (cs:=cs) (u':=u) he hr hR
  rwa [h]at this
theorem leave1 {fn:Func} {R:Ending→World→Prop} {t ty:Nat} {d:Deferred} {u:FrameMode} {f:FuncId} {cs:List Value} (hu:u≠.run) (hd:d=⟨.fn (.func f) cs.toArray,#[]⟩) (hf:dA P f=true) (hr:fn.results = #[.cell t ty]) {p:Addr} (ht:ev n l (.tmp t)=some (.pointer (some p)))
    (h:CallsD P f cs.toArray u w fun e u' w'=>e = .returned (.tuple #[])∧settle u' = .returning∧∃v,(loadVar ty p).run P w' = .ok v w'∧R (.returned v) w') :
    Leaves P fn (bA A [d] l).tmps R [d] u w:=by
  subst hd
  refine leaves_cons hu (f:=f) (args:=cs.toArray) (by simp[invoke,p7 hf]) (h.mono ?_)
  rintro e u' w' ⟨rfl,C,v,D,B⟩
  show Leaves P fn _ R [] (settle u') w'
  rw[C]
  exact⟨v,qq (A:=A) (rs:=[.cell t ty]) (vs:=[v]) hr ⟨⟨p,ht,D⟩,tV⟩,B⟩
end
section
variable {P:Program} {n:Nat} {A:Fr n} {D:List Deferred} {l:List (Nat × Value)} {w:World} {d:Option Tmp} {ty:TypeId} {ps:String} {af:Array Edge} {g:Option (Nat × Bool)}
theorem ZB {x:Operand} {t a:TypeId} {v:Value} (hT:CU P a=true) (hx:ev n l x=some (.iface a v)) :
    dn P ⟨d,.typeAssert x t a true,ty,ps,af,g⟩ (bA A D l).eval w (.tuple #[v,.bool true]):=by
  obtain⟨X,hT,B⟩:=yT hT
  cases X <;> simp_all [dn,execOp,cL hx,Instr.typeAssert,run_underlying hT]
end
end Go.Wk
namespace Go.Proofs.YtbmmkbejcnalcaaGreat
open Go Go.Wk Go.RowKit
set_option linter.unusedVariables false
set_option linter.unusedSimpArgs false
attribute [local irreducible] wpList wpQuiet wpStill gD Code.wp Calls bodyPost
variable {w:World} {Q:Nat→Prop}
theorem pB (uQ:Up w Q) {v0:Value} {l:Ly} (h0:Ls eT w Q v0 l) (a:Int) (a1:(-9223372036854775808≤a∧a<9223372036854775808)) (n:Int) (a2:(-9223372036854775808≤n∧n<9223372036854775808)) :
  Calls Zp 69 #[v0,(.int .i64 (a:Int)),(.int .i64 (n:Int))] w fun en w'=>∃r0:Nat,∃r1:Bool,en = .returned (.tuple #[(.int .u64 r0),(.bool r1)])∧Md [] w w'∧r0<18446744073709551616∧p5 l a n=(r0,r1):=by
 have p:=h0.eM;have M:=Md.refl [] w;have j:=uQ;have P:∀b,Q b→Q b:=fun _ h=>h;have F:∀b,Q b→b<w.heap.size→Q b:=fun _ h _=>h;refine enter (n:=42) Tryz.func69 q q q fun B=>ns (dh q (an q (aN (nm q (au aie q (QY uQ (n) Jy) ?_)))));rintro en u ⟨Z,rfl,R,d⟩;refine rv ?_;obtain⟨h0,uQ,M⟩:=k3 R h0 uQ M;refine st _ (jI q) (mv q ?_);refine cO (t:=13) q (fun C=>?_) (fun C=>?_)
 ·(have J:=gO C);refine sk C (sk C (st _ (bE q C q) (mv q (sk q (sk q (sk q (sk q (sk q (sk q (st _ (bE q q q) (nt (fJ q q (ns ?_)))))))))))));refine dh q (ar q (bf ?_));exact dM (vs:=[(.int .u64 ((0:Nat):Int)),(.bool false)]) trivial q ⟨q,q,tV⟩ q ⟨0,false,q,M,Jy,(zC (by rintro⟨U,V,W⟩;simp_all))⟩
 ·(have J:=gN C);refine sg C (bg q) (sg C (pV (a:=a) (b:=0) q q) (st _ (bw q C q) (mv q ?_)));refine cO (t:=17) q (fun A=>?_) (fun A=>?_)
  ·(have K:=dT A);refine sk A (sk A (sk A (sk A (sk A (sk A (st _ (bE q A q) (nt (fJ q q (ns (dh q (ar q ?_)))))))))));refine bf ?_;exact dM (vs:=[(.int .u64 ((0:Nat):Int)),(.bool false)]) trivial q ⟨q,q,tV⟩ q ⟨0,false,q,M,Jy,(zC (by rintro⟨U,V,W⟩;omega))⟩
  ·(have K:=dF A);have e:=yC (n:=n) (by simp_all);refine sg A (bg q) (sg A (bg q) (sg A (iK q fD h0.dY) (sg A (bg q) (sg A (kS (a:=((l.length:Nat):Int)) (b:=n) q q Jy) (sg A (uE (a:=a) (b:=((l.length:Nat):Int)-n) q q) (st _ (bw q A q) (nt ?_)))))));refine cM q (fun G=>?_) (fun G=>?_)
   ·(have L:=dT G);refine ns (dh q (ar q (bf ?_)));exact dM (vs:=[(.int .u64 ((0:Nat):Int)),(.bool false)]) trivial q ⟨q,q,tV⟩ q ⟨0,false,q,M,Jy,(zC (by rintro⟨U,V,W⟩;omega))⟩
   ·(have L:=dF G);refine bh (ai (aN ?_));have T:oU n=true∧0≤a∧a+n≤l.length:=⟨by simp_all,by omega,by omega⟩;have e:=yC T.1;refine aQ (an q (aN (nm q (st _ (kS (a:=n) (b:=1) q q Jy) (dh q (nt (bQ ?_)))))))
    refine sx (fun(v:Nat) (i:Int)=>[(8,(.int .u64 v)),(9,(.int .i64 (i:Int))),(0,v0),(1,(.int .i64 (a:Int))),(6,(.int .u64 ((0:Nat):Int))),(7,(.bool false))]) (fun(v:Nat) (i:Int) w'=>∃Q':Nat→Prop,(∀b,Q' b→Q b)∧(∀b,Q b→b<w.heap.size→Q' b)∧Up w' Q'∧Md [] w w'∧Ls eT w' Q' v0 l∧(-1≤i∧i<n)∧v=BZ ((l.drop (a+(i+1)).toNat).take (n-1-i).toNat)∧v<18446744073709551616) (fun(v:Nat) (i:Int)=>(i+1).toNat) (x0:=0) (x1:=(n-1)) ?_ ?_ ?_
    ·exact⟨q,q,q,q,q,q,tV⟩
    ·exact⟨Q,P,F,uQ,M,h0,Jy,(by simp[show n-1-(n-1)=0 by omega,BZ]),Jy⟩
    ·clear M uQ P F h0
     rintro v i B x ⟨c,P,F,uQ,M,h0,X,D,Y⟩;refine aN (nm q (st _ (qE (a:=i) (b:=0) q q) (nt ?_)));refine cM q (fun H=>?_) (fun H=>?_)
     ·(have N:=dT H);have f:=ug (l:=(l.drop (a+(i+1)).toNat).take (n-1-i).toNat) (k:=7) Zz;rw[← D]at f;refine bh (ai (aN (bQ (aQ (mv q (st _ (ag6 (a:=v) (b:=8) 18446744073709551616 q q 64 q q q Jy) (m2 q q (mv q (st _ (eW (a:=a) (b:=i) q q Jy) (st _ (rz (i:=a+i) 1 q q fD mL h0.dY Jy) ?_))))))))));obtain⟨I,O⟩:=eI (l:=l) (i:=(a+i).toNat) Jy;obtain⟨r,S,E⟩:=h0.get O;obtain⟨rfl,_⟩:=S;have o:=UInt8.toNat_lt I;replace E:At _ v0 (((a+i).toNat)*1) [(b8 I)]:=E;refine st _ ((cV (kk:=((a+i).toNat)*1) 0 q q qf E q).to (b:=(b8 I)) q) (st _ (dN (a:=I.toNat) 18446744073709551616 q (by rw[u5];rfl) l7 q (lq (UInt8.toNat_lt _) Kq)) (st _ (ai1 (a:=(v*2 ^ 8%18446744073709551616)) (b:=I.toNat) 18446744073709551616 q q q q Jy) (dh q (aA ?_))));clear E;refine ck (ai (aQ (mv q (st _ (kS (a:=i) (b:=1) q q Jy) (an q ?_)))));refine qm (x0:=((v*2 ^ 8%18446744073709551616) ||| I.toNat)) (x1:=(i-1)) Jy ⟨(er q (by rfl)),(er q Jy),q,q,q,q,tV⟩ ⟨c,P,F,uQ,M,h0,Jy,(by rw[acV Jy,D];have g:=Nz (k:=(n-1-i).toNat) O;rw[show(n-1-(i-1)).toNat=(n-1-i).toNat+1 by omega,show(a+(i-1+1)).toNat=(a+i).toNat by omega,g,show(a+i).toNat+1=(a+(i+1)).toNat by omega]),(by rw[acV Jy];have:=UInt8.toNat_lt I;omega)⟩
     ·(have N:=dF H);refine dr (bW (bW (ej (ai (nm q (dh q (ar q ?_)))))));exact dM (vs:=[(.int .u64 v),(.bool true)]) trivial q ⟨q,q,tV⟩ q ⟨v,true,q,M,Zx,(by rw[p5,if_pos Jy,D,show i = -1 by omega];simp)⟩
theorem fE:fV Zp 103 91=true:=Ym
theorem aha:gW Zp 221 1=true:=Ym
theorem ahb:gW Zp 224 1=true:=Ym
theorem afQ:yL Zp 221 1 8=true:=Ym
theorem afR:yL Zp 224 1 8=true:=Ym
theorem UE:dA Zp 127=true:=Ym
theorem ahv:dA Zp 128=true:=Ym
theorem ahw:dA Zp 129=true:=Ym
theorem abK:bn Zp 103 0=some 0:=Ym
theorem CX:bn Zp 103 1=some 1:=Ym
theorem GP:bn Zp 103 10=some 70:=Ym
theorem GQ:bn Zp 103 11=some 71:=Ym
theorem GR:bn Zp 103 12=some 72:=Ym
theorem YA:bn Zp 103 13=some 73:=Ym
theorem YB:bn Zp 103 14=some 74:=Ym
theorem YC:bn Zp 103 15=some 75:=Ym
theorem YD:bn Zp 103 16=some 76:=Ym
theorem YE:bn Zp 103 17=some 77:=Ym
theorem YF:bn Zp 103 18=some 78:=Ym
theorem YG:bn Zp 103 19=some 79:=Ym
theorem abL:bn Zp 103 2=some 2:=Ym
theorem YH:bn Zp 103 20=some 80:=Ym
theorem YI:bn Zp 103 21=some 81:=Ym
theorem YJ:bn Zp 103 22=some 82:=Ym
theorem YK:bn Zp 103 23=some 83:=Ym
theorem YL:bn Zp 103 24=some 84:=Ym
theorem YM:bn Zp 103 25=some 85:=Ym
theorem YN:bn Zp 103 26=some 86:=Ym
theorem YO:bn Zp 103 27=some 87:=Ym
theorem YP:bn Zp 103 28=some 88:=Ym
theorem YQ:bn Zp 103 29=some 89:=Ym
theorem NM:bn Zp 103 3=some 3:=Ym
theorem YR:bn Zp 103 30=some 90:=Ym
theorem abM:bn Zp 103 4=some 19:=Ym
theorem abN:bn Zp 103 5=some 35:=Ym
theorem abO:bn Zp 103 6=some 51:=Ym
theorem o6:bn Zp 103 7=some 67:=Ym
theorem CY:bn Zp 103 8=some 68:=Ym
theorem NN:bn Zp 103 9=some 69:=Ym
theorem ags:iI Zp 221=true:=Ym
theorem agt:iI Zp 224=true:=Ym
theorem sB:gh Zp 103=some [(0,1),(1,1),(2,1),(3,16),(19,16),(35,16),(51,16),(67,1),(68,1),(69,1),(70,1),(71,1),(72,1),(73,1),(74,1),(75,1),(76,1),(77,1),(78,1),(79,1),(80,1),(81,1),(82,1),(83,1),(84,1),(85,1),(86,1),(87,1),(88,1),(89,1),(90,1)]:=Ym
theorem agM:Zp.underlying 219=some (.slice 221):=Ym
theorem agN:Zp.underlying 222=some (.slice 224):=Ym
theorem rB:eL Zp 103=some ([.int .u32 0,.int .u32 0,.int .i64 0] ++ (List.replicate 64 (.int .u8 0) ++ (List.replicate 21 (.int .u64 0) ++ ([.int .u32 0,.int .u32 0,.int .u64 0])))):=Ym
theorem abl {w:World} {b:Nat}:Calls Zp 128 #[.pointer (some ⟨b,0,none⟩)] w fun en w'=>∃x,en = .returned (.slice (some ⟨x,0,none⟩) 4 4)∧w.heap.size≤x∧Md [] w w'∧cF w' x (ptrs b 3 16 4) 221:=by
 refine enter (n:=16) Tryz.func128 q q q fun B=>ns (an q (aN (d8 (ml 12) [12,13] (fun w'=>Md [] w w') dQ Ym ?_)));intro I C;refine⟨C,?_⟩;refine mo q (mz (fun w' A=>cW q) (mz (fun w' A=>aG q NM) (mo q (mz (fun w' A=>cW q) (mz (fun w' A=>aG q abM) (mo q (mz (fun w' A=>cW q) (mz (fun w' A=>aG q abN) (mo q (mz (fun w' A=>cW q) (mz (fun w' A=>aG q abO) (dV (qG agM afQ Kq q q q (by simp[pI,Value.oneCell']) Kq ?_)))))))))))));intro x G E H D F;refine ar q ?_;exact iy trivial q q ⟨x,q,lj C.size E,C.k D,(show cF G x (ptrs b 3 16 4) 221 from F)⟩
theorem XM {w:World} {b:Nat}:Calls Zp 129 #[.pointer (some ⟨b,0,none⟩)] w fun en w'=>∃x,en = .returned (.slice (some ⟨x,0,none⟩) 21 21)∧w.heap.size≤x∧Md [] w w'∧cF w' x (ptrs b 67 1 21) 224:=by
 refine enter (n:=67) Tryz.func129 q q q fun B=>ns (an q (aN (d8 (ml 63) [63,64] (fun w'=>Md [] w w') dQ Ym ?_)));intro I C;refine⟨C,?_⟩;refine mo q (mz (fun w' A=>cW q) (mz (fun w' A=>aG q o6) (mo q (mz (fun w' A=>cW q) (mz (fun w' A=>aG q CY) (mo q (mz (fun w' A=>cW q) (mz (fun w' A=>aG q NN) (mo q (mz (fun w' A=>cW q) (mz (fun w' A=>aG q GP) (mo q (mz (fun w' A=>cW q) ?_)))))))))))));refine mz (fun w' A=>aG q GQ) (mo q (mz (fun w' A=>cW q) (mz (fun w' A=>aG q GR) (mo q (mz (fun w' A=>cW q) (mz (fun w' A=>aG q YA) (mo q (mz (fun w' A=>cW q) (mz (fun w' A=>aG q YB) (mo q (mz (fun w' A=>cW q) (mz (fun w' A=>aG q YC) (mo q ?_)))))))))))));refine mz (fun w' A=>cW q) (mz (fun w' A=>aG q YD) ?_)
 refine mo q (mz (fun w' A=>cW q) (mz (fun w' A=>aG q YE) (mo q (mz (fun w' A=>cW q) (mz (fun w' A=>aG q YF) (mo q (mz (fun w' A=>cW q) (mz (fun w' A=>aG q YG) (mo q (mz (fun w' A=>cW q) (mz (fun w' A=>aG q YH) (mo q (mz (fun w' A=>cW q) ?_)))))))))))));refine mz (fun w' A=>aG q YI) (mo q (mz (fun w' A=>cW q) (mz (fun w' A=>aG q YJ) (mo q (mz (fun w' A=>cW q) (mz (fun w' A=>aG q YK) (mo q (mz (fun w' A=>cW q) (mz (fun w' A=>aG q YL) (mo q (mz (fun w' A=>cW q) (mz (fun w' A=>aG q YM) (mo q ?_)))))))))))));refine mz (fun w' A=>cW q) (mz (fun w' A=>aG q YN) (mo q (mz (fun w' A=>cW q) (mz (fun w' A=>aG q YO) (dV (qG agN afR Kq q q q (by simp[pI,Value.oneCell']) Kq ?_))))));intro x G E H D F;refine ar q ?_;exact iy trivial q q ⟨x,q,lj C.size E,C.k D,(show cF G x (ptrs b 67 1 21) 224 from F)⟩
theorem uc {w:World} {Q:Nat→Prop} {b1:Nat} {v0:Value} {l:Ly} (hB:cF w b1 [v0] 31) (h0:Ls eT w Q v0 l) (a:Nat) (ha:a+4≤l.length) :
  Calls Zp 127 #[.int .i64 (a:Int),.pointer (some ⟨b1,0,none⟩)] w fun en w'=>en = .returned (.int .u32 ((at4 l a:Nat):Int))∧Md [] w w':=by
 have L:=h0.eM;refine enter (n:=14) Tryz.func127 q q q fun B=>ns (an q (ns (st _ (aF q gG hB q) (mv q (au xH q (pB (Q:=fun _=>True) (fun _ _=>trivial) (h0.sub fun _ _ _=>trivial) (a:Int) Jy 4 Jy) ?_)))));rintro en H ⟨F,G,rfl,D,E,A⟩;refine rv ?_;have C:p5 l a 4=(at4 l a,true):=vN (k:=4) (.inl q) ha;rw[C]at A;obtain⟨rfl,rfl⟩:=Prod.mk.inj A;refine mv q (se q q (se q q (dh q (an q (nm q (st _ (dN (a:=at4 l a) 4294967296 q (by rw[l7];rfl) yD q (xk _ _)) (ar q ?_)))))));exact iy trivial q q ⟨q,D⟩
set_option maxRecDepth 100000 in
theorem QI (uQ:Up w Q) {v0:Value} {b:Ly} (h00:Ls eT w Q v0 b) (p0:272≤b.length) :
  Calls Zp 101 #[v0] w fun en w'=>∃r0:cA,en = .returned (.agg (cA.cells r0).toArray)∧Md [] w w'∧cA.ok r0∧gF b=r0:=by
 have L:=h00.eM;obtain⟨U,f,F⟩:∃U:Nat→Prop,(∀x,w.heap.size≤x→¬U x)∧Ls eT w U v0 b:=⟨fun x=>x<w.heap.size,fun x h k=>by omega,h00.sub fun x _ h=>h⟩;clear h00;have M:=Md.refl [] w;refine enter (n:=73) Tryz.func101 q q q fun B=>ns (gw q (fO F.cG) ?_);intro O w1 g1 l1 C A;obtain⟨F,M⟩:=k2 C F M;refine cu rB ?_;intro S w2 t l2 C E;replace F:=F.o C;obtain⟨Z,hZ,E⟩:∃Z,(cA.cells (jK b 0 0 0 0)).length=Z.length∧cF w2 S Z 103:=⟨_,q,E⟩;have Am:O≠S:=(by have:=A.lt;omega);replace A:=A.o C;replace t:=lj M.size t;replace M:=M.k C;refine nt (ns (st _ (aF q gG A q) (st _ (bU (i:=16) 1 q q fD mL F.dY Jy) ?_)));obtain⟨x,hx⟩:=eI (l:=b) (i:=16) Jy;obtain⟨cx,Aa,R⟩:=F.get hx;obtain⟨rfl,_⟩:=Aa;have ex:b.getD 16 0=x:=(by simp[List.getD,hx]);have lx:=UInt8.toNat_lt x;replace R:At _ v0 (16*1) [(b8 x)]:=R;refine st _ ((cV (kk:=16*1) 0 q q qf R q).to (b:=(b8 x)) q) ?_;clear R;refine st _ (dN (a:=x.toNat) 9223372036854775808 q (by rw[u5];rfl) u3 q Jy) (st (.agg (cA.cells (jK b 0 0 0 0)).toArray) (by rw[show cA.cells (jK b 0 0 0 0)=cA.cells {jK b 0 0 0 0 with state:=x.toNat} by rw[← ex];rfl];exact jQ (cs:=cA.cells {jK b 0 0 0 0 with state:=x.toNat}) (ps:=[(2,2)]) rB sB q q (by simp[pI,Value.oneCell']) q q q) (cu rB ?_));intro I w3 P l3 C D;replace F:=F.o C;have K:O≠I:=(by have:=A.lt;omega);have J:S≠I:=(by have:=E.lt;omega);obtain⟨A,E⟩:=k2 C A E;replace P:=lj M.size P;replace M:=M.k C;refine fC q q (by exact fE) (fun u hu=>aP cA.one u hu) D q ?_;intro w4 C D;have N:∀x∈[I],¬U x:=(by intro y r;simp at r;subst r;exact f _ P);have Ao:∀x∈[S],¬U x:=(by intro y r;simp at r;subst r;exact f _ t);replace F:=F.md C N;replace A:=A.vq C K;replace E:=E.vq C J;replace M:=M.eB C P;refine nt (aN ?_)
 refine aQ (st _ (RZ q) (an q (nm q (wX (cs:=[.pointer (some ⟨O,0,none⟩)]) q UE q (uc A F 8 Jy) ?_))));rintro en w5 ⟨rfl,C⟩;refine rv ?_;obtain⟨F,A,E,D,M⟩:=k5 C F A E D M;refine mv q (wX (cs:=[.pointer (some ⟨O,0,none⟩)]) q UE q (uc A F 12 Jy) ?_);rintro en w6 ⟨rfl,C⟩;refine rv ?_;obtain⟨F,A,E,D,M⟩:=k5 C F A E D M;refine sf q abK (bK q q gT q D (by(show _<91;decide)) ?_);intro w7 C D;replace F:=F.md C N;replace A:=A.vq C K;replace E:=E.vq C J;replace M:=M.eB C P;refine sf q CX (bK q q gT q D (by(show _<91;decide)) ?_);intro w8 C D;replace F:=F.md C N;replace A:=A.vq C K;replace E:=E.vq C J;replace M:=M.eB C P;replace D:cF w8 I (cA.cells (jK b (at4 b 8) (at4 b 12) 0 0)) 103:=D;refine nt (ns (an q (aN (ns (au ahv q (abl (b:=I)) ?_)))));rintro en w9 ⟨Y,rfl,gi,C,G⟩;refine rv ?_;have Ac:Y≠I:=(by have:=D.lt;omega);obtain⟨F,A,E,D⟩:=k4 C F A E D;replace gi:=lj M.size gi;replace M:=M.k C;have g:WL (.slice (some ⟨Y,0,none⟩) 4 4) 4:=⟨_,_,q,Nat.le_refl _,by simp[maxLen],by simp⟩;refine sL q agM g (mv q (nt (bQ ?_)))
 refine sx (fun(k:Nat) (a:Nat)=>[(24,(.int .i64 k)),(5,(.int .i64 a)),(1,.pointer (some ⟨O,0,none⟩)),(2,.pointer (some ⟨S,0,none⟩)),(3,.pointer (some ⟨I,0,none⟩)),(4,.func (.func 127) #[] #[.pointer (some ⟨O,0,none⟩)]),(22,.slice (some ⟨Y,0,none⟩) 4 4),(23,.int .i64 ((4:Nat):Int))])
  (fun(k:Nat) (a:Nat) w'=>Md [] w w'∧Ls eT w' U v0 b∧cF w' O [v0] 31∧cF w' S Z 103∧cF w' I (cA.cells (jK b (at4 b 8) (at4 b 12) k 0)) 103∧cF w' Y (ptrs I 3 16 4) 221∧k≤4∧a=24+16*k) (fun(k:Nat) (a:Nat)=>4-k) (x0:=0) (x1:=24) ?_ ?_ ?_
 ·exact⟨q,q,q,q,q,q,q,q,tV⟩
 ·exact⟨M,F,A,E,D,G,by omega,q⟩
 clear M F A E D G
 rintro k a B Aq ⟨M,F,A,E,D,G,hk,p⟩;refine ns (st _ (eD (a:=k) (b:=4) q q) (nt (aN ?_)));refine cM q (fun V=>?_) (fun V=>?_)
 ·have d:=dT V
  refine bh (ai (aN (bQ (ns (st _ ((bU (i:=k) 1 q q agM aha g Jy).to (b:=.pointer (some ⟨Y,k,none⟩)) (by simp[om,Addr.nJ])) (st _ (aF (b:=Y) (j:=k) (u:=.pointer (some ⟨I,3+k*16,none⟩)) q ags G (NZ Jy)) (an q ?_)))))));have v:=F.dY;refine AQ [(0,true),(1,true),(2,true),(3,true),(4,true),(5,true),(6,true),(7,false),(8,true),(9,true)] (fun w'=>cF w' O [v0] 31) dQ Ym ?_;intro Ar C;obtain⟨F,A,E,D,G,M⟩:=k6 C F A E D G M;refine⟨A,?_⟩;refine mo q (mo q (mz (fun w' X=>cW q) (mz (fun w' X=>gI TJ mL q Kq) (mz (fun w' X=>aF q gG X q) (mo q (Go.Wk.m (oV v0 a b.length) (fun w' X=>by exact mI a b.length fD mL q v Jy Jy ⟨_,q⟩ q) ?_))))));refine kE ?_ rfl;have hT:=F.by.tail a Jy;refine zU fD mL q q D hT (ye _) (by have:(cA.cells (jK b (at4 b 8) (at4 b 12) k 0)).length=91:=rfl;simp;omega) ?_;intro As C D;clear hT;rw[← List.map_take,p,abt Jy p0]at D;replace F:=F.md C N;replace A:=A.vq C K;replace E:=E.vq C J;replace G:=G.vq C Ac;replace M:=M.eB C P;refine aA ⟨q,A,?_⟩;have Ai:min ((b.drop a).map b8).length 16=16:=Zz;refine mz (fun w' X=>fK (a:=a) (b:=min ((b.drop a).map b8).length 16) 9223372036854775808 q q q Jy) (mz (fun w' X=>fB q) (dV (ck (ai (aQ (st _ (rA (a:=k) (b:=1) q q Jy) (mv q (nt ?_))))))));exact qm (x0:=k+1) (x1:=a+min ((b.drop a).map b8).length 16) Jy ⟨q,q,q,q,q,q,q,q,tV⟩ ⟨M,F,A,E,D,G,by omega,by omega⟩
 have d:=dF V
 obtain rfl:k=4:=by omega
 subst p;clear G;refine dr (bW (bW (ej (ai (aN (ns (au ahw q (XM (b:=I)) ?_)))))));rintro en Au ⟨c,rfl,gj,C,H⟩;refine rv ?_;have Ad:c≠I:=(by have:=D.lt;omega);obtain⟨F,A,E,D,M⟩:=k5 C F A E D M;have o:WL (.slice (some ⟨c,0,none⟩) 21 21) 21:=⟨_,_,q,Nat.le_refl _,by simp[maxLen],by simp⟩;refine sL q agN o (mv q (nt (bQ ?_)))
 refine sx (fun(j:Nat) (a:Nat)=>[(40,(.int .i64 j)),(5,(.int .i64 a)),(1,.pointer (some ⟨O,0,none⟩)),(2,.pointer (some ⟨S,0,none⟩)),(3,.pointer (some ⟨I,0,none⟩)),(4,.func (.func 127) #[] #[.pointer (some ⟨O,0,none⟩)]),(38,.slice (some ⟨c,0,none⟩) 21 21),(39,.int .i64 ((21:Nat):Int))])
  (fun(j:Nat) (a:Nat) w'=>Md [] w w'∧Ls eT w' U v0 b∧cF w' O [v0] 31∧cF w' S Z 103∧cF w' I (cA.cells (jK b (at4 b 8) (at4 b 12) 4 j)) 103∧cF w' c (ptrs I 67 1 21) 224∧j≤21∧a=88+8*j) (fun(j:Nat) (a:Nat)=>21-j) (x0:=0) (x1:=24+16*4) ?_ ?_ ?_
 ·exact⟨q,q,q,q,q,q,q,q,tV⟩
 ·exact⟨M,F,A,E,D,H,by omega,q⟩
 clear M F A E D H
 rintro j a B Aw ⟨M,F,A,E,D,H,hj,p⟩;refine ns (st _ (eD (a:=j) (b:=21) q q) (nt (aN ?_)));refine cM q (fun W=>?_) (fun W=>?_)
 ·have T:=dT W
  refine bh (ai (aN (bQ (ns (st _ ((bU (i:=j) 1 q q agN ahb o Jy).to (b:=.pointer (some ⟨c,j,none⟩)) (by simp[om,Addr.nJ])) (st _ (aF (b:=c) (j:=j) (u:=.pointer (some ⟨I,67+j*1,none⟩)) q agt H (NZ Jy)) (an q (nm q (st _ (aF q gG A q) (mv q (au xH q (pB (Q:=fun _=>True) (fun _ _=>trivial) (F.sub fun _ _ _=>trivial) (a:Int) Jy 8 Jy) ?_)))))))))));rintro en Ax ⟨r0,r1,rfl,C,hr,e⟩;refine rv ?_;have z:p5 b a 8=(fI b a,true):=vN (k:=8) (.inr q) Jy;rw[z]at e;obtain⟨rfl,rfl⟩:=Prod.mk.inj e;obtain⟨F,A,E,D,H,M⟩:=k6 C F A E D H M;refine mv q (st (.int .u64 ((fI b a:Nat):Int)) (lW q q) (se q q (sn q (bK (b:=I) (j:=67+j*1) q q bP q D (by have:(cA.cells (jK b (at4 b 8) (at4 b 12) 4 j)).length=91:=rfl;omega) ?_))));intro Ay C D;rw[Nat.mul_one,p,Yn T]at D;replace F:=F.md C N;replace A:=A.vq C K;replace E:=E.vq C J;replace H:=H.vq C Ad;replace M:=M.eB C P;refine nt (aQ (mv q (st _ (rA (a:=a) (b:=8) q q Jy) (dh q (aA (ck (ai (aQ (st _ (rA (a:=j) (b:=1) q q Jy) (mv q (nt ?_)))))))))));exact qm (x0:=j+1) (x1:=a+8) Jy ⟨q,q,q,q,q,q,q,q,tV⟩ ⟨M,F,A,E,D,H,by omega,by omega⟩
 have T:=dF W
 obtain rfl:j=21:=by omega
 subst p;clear H;refine dr (bW (bW (ej (ai (ns (m2 q q (wX (cs:=[.pointer (some ⟨O,0,none⟩)]) q UE q (uc A F 256 Jy) ?_)))))));rintro en Az ⟨rfl,C⟩;refine rv ?_;obtain⟨F,A,E,D,M⟩:=k5 C F A E D M;refine m2 q q (st _ (rA (a:=256) (b:=4) q q Jy) (wX (cs:=[.pointer (some ⟨O,0,none⟩)]) q UE q (uc A F 260 Jy) ?_));rintro en A0 ⟨rfl,C⟩;refine rv ?_;obtain⟨F,A,E,D,M⟩:=k5 C F A E D M;refine sf q YP (bK q q gT q D (by(show _<91;decide)) ?_);intro A1 C D;replace F:=F.md C N;replace A:=A.vq C K;replace E:=E.vq C J;replace M:=M.eB C P;refine sf q YQ (bK q q gT q D (by(show _<91;decide)) ?_);intro A2 C D;replace F:=F.md C N;replace A:=A.vq C K;replace E:=E.vq C J;replace M:=M.eB C P;refine nt (ns (st _ (aF q gG A q) (mv q (st _ (rA (a:=256) (b:=8) q q Jy) (au xH q (pB (Q:=fun _=>True) (fun _ _=>trivial) (F.sub fun _ _ _=>trivial) ((264:Nat):Int) Jy 8 Jy) ?_)))));rintro en A3 ⟨r0,r1,rfl,C,hr,e⟩;refine rv ?_;have z:p5 b ((264:Nat):Int) 8=(fI b 264,true):=vN (k:=8) (.inr q) Jy;rw[z]at e;obtain⟨rfl,rfl⟩:=Prod.mk.inj e;obtain⟨E,D,M⟩:=k3 C E D M;refine mv q (st (.int .u64 ((fI b 264:Nat):Int)) (lW q q) (se q q (sf q YR (bK q q bP q D (by(show _<91;decide)) ?_))));intro Ae C D;replace E:=E.vq C J;replace M:=M.eB C P
 replace D:cF Ae I (cA.cells (gF b)) 103:=D;refine nt (ns (st _ (mU q (by exact fE) D) (fC q q (by exact fE) (fun u hu=>aP cA.one u hu) E hZ ?_)));intro A4 C E;replace M:=M.eB C t;refine nt (j4 ?_);exact ai7 trivial q q (by exact fE) E ⟨_,q,M,wL p0,q⟩
theorem ahu:dA Zp 126=true:=Ym
theorem QH (uQ:Up w Q) {v0:Value} {a:Ly} (h0:Ls eT w Q v0 a) {v1:Value} {b:Ly} (h1:Ls eT w Q v1 b) :
  Calls Zp 126 #[v0,v1] w fun en w'=>∃r0:Bool,en = .returned (.bool r0)∧Md [] w w'∧decide (a=b)=r0:=by
 have C:=h0.eM;have D:=h1.eM;have M:=Md.refl [] w;have A:=uQ;refine enter (n:=10) Tryz.func126 q q q fun B=>ns (an q (nm q (st _ (ny (s:=a) fD u5 u9 q h0.by) (mv q (st _ (ny (s:=b) fD u5 u9 q h1.by) (st _ (RX (a:=a) (b:=b) q q) (ar q ?_)))))));exact dG (v:=(.bool ((decide (a=b))))) trivial q ⟨q,tV⟩ ⟨(decide (a=b)),q,M,(by simp(disch:=first|omega|assumption|simp) only [SS,reduceIte])⟩
theorem XP (uQ:Up w Q) {v0:Value} {b:Ly} (h0:Ls eT w Q v0 b) {v1:Value} {p:Ly} (h1:Ls eT w Q v1 p) :
  Calls Zp 100 #[v0,v1] w fun en w'=>∃r0:Bool,en = .returned (.bool r0)∧Md [] w w'∧rq b p=r0:=by
 have I:=h0.eM;have J:=h1.eM;have M:=Md.refl [] w;have H:=uQ;refine enter (n:=18) Tryz.func100 q q q fun B=>ns (an q (nm q (sL q fD h0.dY (mv q (sL q fD h1.dY (st _ (yW (a:=b.length) (b:=p.length) q q) (mv q ?_)))))));refine cO (t:=10) q (fun A=>?_) (fun A=>?_)
 ·(have C:=dT A);refine sg A (bg q) (sg A (bg q) (sg A (iK q fD h1.dY) (sg A (jv 1 0 p.length fD mL q h0.dY Jy Jy q ⟨_,q⟩) ?_)));have F:=h0.head (hi:=p.length) Jy;refine sg A (bg q) (iV q q q A ahu q (QH uQ F h1) ?_);rintro en K ⟨D,rfl,G,E⟩;refine rv ?_;replace M:=M.k G;refine st _ (bE q A q) (ar q ?_);exact dG (v:=(.bool D)) trivial q ⟨q,tV⟩ ⟨D,q,M,(by rw[rq]<;>simp(disch:=first|omega|assumption|simp) only [SS,reduceIte,C,E])⟩
 (have C:=dF A);refine sk A (sk A (sk A (sk A (sk A (sk A (st _ (bw q A q) (ar q ?_)))))));exact dG (v:=(.bool false)) trivial q ⟨q,tV⟩ ⟨false,q,M,(by rw[rq]<;>simp(disch:=first|omega|assumption|simp) only [SS,reduceIte,C])⟩
theorem MK (uQ:Up w Q) (h:cA) (a0_0:cA.ok h) :
  Calls Zp 72 #[.agg (cA.cells h).toArray] w fun en w'=>∃r0:Nat,∃r1:Bool,en = .returned (.tuple #[(.int .u64 r0),(.bool r1)])∧Md [] w w'∧r0<18446744073709551616∧u7 h=(r0,r1):=by
 have M:=Md.refl [] w;have J:=uQ;refine enter (n:=15) Tryz.func72 q q q fun B=>ns (gw (cs:=(cA.cells h)) q q ?_);intro G N C I H E;have F:=uQ _ C;replace C:=lj M.size C;replace M:=M.k H;refine dh q (an q (ns (sf q o6 (sl (u:=(.int .u64 ((h.n.getD 0 0:Nat):Int))) q bP E q ?_))));have K:h.n.getD 0 0<18446744073709551616:=(eP a0_0.2.2.2.2.2.2.2.1 0);refine sf q CY (sl (u:=(.int .u64 ((h.n.getD 1 0:Nat):Int))) q bP E q ?_);have L:h.n.getD 1 0<18446744073709551616:=(eP a0_0.2.2.2.2.2.2.2.1 1);refine st _ (rO (a:=(h.n.getD 0 0)) (b:=(h.n.getD 1 0)) 18446744073709551616 q q q q) (an q (aN (nm q (sf q o6 (sl (u:=(.int .u64 ((h.n.getD 0 0:Nat):Int))) q bP E q (st _ (eD (a:=(((h.n.getD 0 0)+(h.n.getD 1 0))%18446744073709551616)) (b:=(h.n.getD 0 0)) q q) (nt ?_)))))));refine cM q (fun D=>?_) (fun D=>?_)
 ·(have A:=dT D);refine ns (dh q (ar q (bf ?_)));exact dM (vs:=[(.int .u64 ((0:Nat):Int)),(.bool false)]) trivial q ⟨q,q,tV⟩ q ⟨0,false,q,M,Jy,(by rw[u7]<;>simp(disch:=first|omega|assumption|simp) only [SS,reduceIte,A])⟩
 (have A:=dF D);refine bh (ai (nm q (dh q (ar q ?_))));exact dM (vs:=[(.int .u64 ((((h.n.getD 0 0)+(h.n.getD 1 0))%18446744073709551616:Nat):Int)),(.bool true)]) trivial q ⟨q,q,tV⟩ q ⟨((h.n.getD 0 0)+(h.n.getD 1 0))%18446744073709551616,true,q,M,Jy,(by rw[u7]<;>simp(disch:=first|omega|assumption|simp) only [SS,reduceIte,A])⟩
theorem BK (uQ:Up w Q) (h:cA) (a0_0:cA.ok h) (p:Nat) (a1:p<18446744073709551616) (size:Nat) (a2:size<18446744073709551616) (e:Nat) (a3:e<18446744073709551616) :
  Calls Zp 102 #[.agg (cA.cells h).toArray,(.int .u64 p),(.int .u64 size),(.int .u64 e)] w fun en w'=>∃r0:Nat,en = .returned (.int .i64 r0)∧Md [] w w'∧r0<9223372036854775808∧kU h p size e=r0:=by
 have M:=Md.refl [] w;have X:=uQ;refine enter (n:=45) Tryz.func102 q q q fun B=>ns (gw (cs:=(cA.cells h)) q q ?_);intro U Z N W V R;have T:=uQ _ N;replace N:=lj M.size N;replace M:=M.k V;refine an q (aN (bQ (nm q (st _ (lO (a:=p) (b:=8) q q Jy) (st _ (eH (a:=(p%8)) (b:=0) q q) (dh q (nt ?_)))))));refine cM q (fun S=>?_) (fun S=>?_)
 ·(have I:=dT S);refine ns (ar q (bS (bf ?_)));exact dG (v:=(.int .i64 ((3:Nat):Int))) trivial q ⟨q,tV⟩ ⟨3,q,M,Jy,(by rw[kU]<;>simp(disch:=first|omega|assumption|simp) only [SS,reduceIte,I])⟩
 (have I:=dF S);refine nm q (st _ (lg (a:=size) (b:=0) q q) (mv q ?_));refine cO (t:=16) q (fun F=>?_) (fun F=>?_)
 ·(have D:=dT F);refine sk F (sk F (sk F (st _ (bE q F q) (an q (fJ q q (ns (ar q (bS (bf ?_)))))))));exact dG (v:=(.int .i64 ((5:Nat):Int))) trivial q ⟨q,tV⟩ ⟨5,q,M,Jy,(by rw[kU]<;>simp(disch:=first|omega|assumption|simp) only [SS,reduceIte,I,D])⟩
 (have D:=dF F);refine sg F (bg q) (sg F (lO (a:=size) (b:=16) q q Jy) (sg F (eH (a:=(size%16)) (b:=0) q q) (st _ (bw q F q) (an q ?_))));refine cM q (fun O=>?_) (fun O=>?_)
 ·(have E:=dT O);refine ns (ar q (bS (bf ?_)));exact dG (v:=(.int .i64 ((5:Nat):Int))) trivial q ⟨q,tV⟩ ⟨5,q,M,Jy,(by rw[kU]<;>simp(disch:=first|omega|assumption|simp) only [SS,reduceIte,I,D,E])⟩
 (have E:=dF O);refine nm q (sf q o6 (sl (u:=(.int .u64 ((h.n.getD 0 0:Nat):Int))) q bP R q ?_));have Y:h.n.getD 0 0<18446744073709551616:=(eP a0_0.2.2.2.2.2.2.2.1 0);refine st _ (eD (a:=p) (b:=(h.n.getD 0 0)) q q) (mv q ?_);refine cO (t:=26) q (fun A=>?_) (fun A=>?_)
 ·(have H:=dT A);refine sk A (sk A (sk A (sk A (sk A (st _ (bE q A q) (mv q (sk q (sk q (sk q (st _ (bE q q q) (mv q (sk q (sk q ?_)))))))))))));refine sk q (sk q (sk q (st _ (bE q q q) (an q (fJ q q (ns (ar q (bS (bf ?_)))))))));exact dG (v:=(.int .i64 ((2:Nat):Int))) trivial q ⟨q,tV⟩ ⟨2,q,M,Jy,(by rw[kU]<;>simp(disch:=first|omega|assumption|simp) only [SS,reduceIte,I,D,E,H])⟩
 (have H:=dF A);refine sg A (bg q) (sg A (aG q o6) (sg A ((aF q bP R q).to (b:=(.int .u64 ((h.n.getD 0 0:Nat):Int))) q) (sg A (lQ (a:=p) (b:=(h.n.getD 0 0)) 18446744073709551616 q q q Jy) (sg A (eD (a:=(p-(h.n.getD 0 0))) (b:=16) q q) (st _ (bw q A q) (mv q ?_))))));refine cO (t:=33) q (fun G=>?_) (fun G=>?_)
 ·(have J:=dT G);refine sk G (sk G (sk G (st _ (bE q G q) (mv q (sk q (sk q (sk q (sk q (sk q (st _ (bE q q q) (an q (fJ q q ?_))))))))))));refine ns (ar q (bS (bf ?_)));exact dG (v:=(.int .i64 ((2:Nat):Int))) trivial q ⟨q,tV⟩ ⟨2,q,M,Jy,(by rw[kU]<;>simp(disch:=first|omega|assumption|simp) only [SS,reduceIte,I,D,E,H,J])⟩
 (have J:=dF G);refine sg G (bg q) (sg G (bg q) (sg G (iT (a:=p) (b:=e) q q) (st _ (bw q G q) (mv q ?_))));refine cO (t:=38) q (fun C=>?_) (fun C=>?_)
 ·(have K:=dT C);refine sk C (sk C (sk C (sk C (sk C (st _ (bE q C q) (an q (fJ q q (ns (ar q (bS ?_))))))))));refine bf ?_;exact dG (v:=(.int .i64 ((2:Nat):Int))) trivial q ⟨q,tV⟩ ⟨2,q,M,Jy,(by rw[kU]<;>simp(disch:=first|omega|assumption|simp) only [SS,reduceIte,I,D,E,H,J,K])⟩
 (have K:=dF C);refine sg C (bg q) (sg C (bg q) (sg C (bg q) (sg C (lQ (a:=e) (b:=p) 18446744073709551616 q q q Jy) (sg C (iT (a:=size) (b:=(e-p)) q q) (st _ (bw q C q) (an q ?_))))));refine cM q (fun P=>?_) (fun P=>?_)
 ·(have L:=dT P);refine ns (ar q (bS (bf ?_)));exact dG (v:=(.int .i64 ((2:Nat):Int))) trivial q ⟨q,tV⟩ ⟨2,q,M,Jy,(by rw[kU]<;>simp(disch:=first|omega|assumption|simp) only [SS,reduceIte,I,D,E,H,J,K,L])⟩
 (have L:=dF P);refine bh (ck (ai (ns (ar q ?_))));exact dG (v:=(.int .i64 ((0:Nat):Int))) trivial q ⟨q,tV⟩ ⟨0,q,M,Jy,(by rw[kU]<;>simp(disch:=first|omega|assumption|simp) only [SS,reduceIte,I,D,E,H,J,K,L])⟩
end Go.Proofs.YtbmmkbejcnalcaaGreat
