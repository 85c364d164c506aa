/- Part 3 of the walk of a law. No statement is proved here. -/
import Derived.Test.YtlleafgaeeneoaaGreatQEO2
set_option linter.unusedVariables false
set_option linter.unusedSimpArgs false
namespace Go.Wk
open Go Go.RowKit
theorem mR {l:List Nat} {i v:Nat} (h:i<l.length):(l.set i v).getD i 0=v:=by simp[List.getD,h]
def nG (z:Mk) (n seq bH mono e:Nat) (bC:Ly):Mk :=
  let m7:=if n=0 then(z.cE 10 seq).cE 12 bH else z
  let m8:=m7.cE 8 ((m7.bR 8+1)%18446744073709551616)
  let m9:=((m8.cE 9 seq).cE 13 bH).cE 14 mono
  {m9 with h:={m9.h with bC:=bC,dJ:=e}}
theorem uT (z:Mk) (n seq bH mono e:Nat) (bC:Ly):(nG z n seq bH mono e bC).b=z.b/\(nG z n seq bH mono e bC).c=z.c/\(nG z n seq bH mono e bC).ai=z.ai/\(nG z n seq bH mono e bC).ak=z.ak/\(nG z n seq bH mono e bC).main=z.main /\
    (nG z n seq bH mono e bC).h.n.getD 2 0=z.h.n.getD 2 0/\(nG z n seq bH mono e bC).h.n.getD 4 0=z.h.n.getD 4 0/\(nG z n seq bH mono e bC).h.n.length=z.h.n.length /\
    (z.h.n.length=20->(nG z n seq bH mono e bC).n8=(z.n8+1)%18446744073709551616/\(nG z n seq bH mono e bC).bR 9=seq):=by
  unfold nG;simp only;generalize hm7:(if n=0 then(z.cE 10 seq).cE 12 bH else z)=m7;have A:m7.b=z.b/\m7.c=z.c/\m7.ai=z.ai/\m7.ak=z.ak/\m7.main=z.main/\m7.h.n.getD 8 0=z.h.n.getD 8 0/\m7.h.n.getD 2 0=z.h.n.getD 2 0/\m7.h.n.getD 4 0=z.h.n.getD 4 0/\m7.h.n.length=z.h.n.length:=by
    subst hm7;split
    · exact⟨q,q,q,q,q,(aY Xy).trans (aY Xy),(aY Xy).trans (aY Xy),(aY Xy).trans (aY Xy),by simp[Mk.cE]⟩
    · exact⟨q,q,q,q,q,q,q,q,q⟩
  obtain⟨C,D,E,F,G,H,I,J,K⟩:=A;clear hm7;refine⟨C,D,E,F,G,?_,?_,?_,fun B=>⟨?_,?_⟩⟩
  · rw[<- I]
    exact(aY Xy).trans ((aY Xy).trans ((aY Xy).trans (aY Xy)))
  · rw[<- J]
    exact(aY Xy).trans ((aY Xy).trans ((aY Xy).trans (aY Xy)))
  · rw[<- K];simp[Mk.cE]
  · have e:m7.bR 8=z.n8:=H
    rw[e];exact(aY Xy).trans ((aY Xy).trans ((aY Xy).trans (mR Xx)))
  exact(aY Xy).trans ((aY Xy).trans (mR (by simp[Mk.cE];omega)))
theorem yG {m:Mk} (h:vv m) {raw:List Pr} {bH mono:Nat} {bC:Ly} (hb:bC.length=16) (h20:(m.append raw bH mono bC).2.2.h.n.length=20):vv (m.append raw bH mono bC).2.2:=by
  rcases hl:jU raw with⟨l,c⟩
  by_cases h2:c≠0
  · have d:m.append raw bH mono bC=(0,c,m):=by unfold Mk.append;simp only[hl];rw[if_pos h2]
    rw[d];exact h
  by_cases h3:m.bR 9=18446744073709551615
  · have d:m.append raw bH mono bC=(0,1,m):=by unfold Mk.append;simp only[hl];rw[if_neg h2,if_pos h3]
    rw[d];exact h
  obtain⟨w,au⟩:=tP hl;have D:=uM l m [] [] 0 (qx h) w
  rcases hd:gN l m [] []with⟨ps,M,x⟩
  rw[hd,Nat.zero_add]at D;simp only at D;have aB:=h.small;have s4:=h.nb;have al:=D.app.ge;have am:=D.app.le;have an:=D.len.1;have ak:=D.app.n8;generalize hE:({seq:=(x.bR 9+1)%18446744073709551616,bH:=bH,mono:=mono,bC:=bC,xor:=nv 0 ps,aH:=ji x M}:i7)=E;have Z:E.bC.length=16:=by subst hE;exact hb
  have ao:E.aH.length=M.length:=by subst hE;simp[ji]
  have ap:=lU E Z;have C:=CW (L:=400) (o:=dc E) D.app Xx;have S:=(gH x (dc E)).2.1;have I:=(dU x (dc E)).2.2.2;have F:=(dU x (dc E)).2.1
  rcases ho:x.bV (dc E)with⟨d,B⟩
  rw[ho]at C S I F;simp only at C S I F;have K:B.h.n.getD 8 0=m.n8:=C.n8;have O:jH B.b.length B.main (B.bR 8):=by rw[show B.bR 8=m.n8 from K,I,D.main];exact pI h.main C.ge
  have u:=xB B B.main (B.bR 8) 176 d O;have G:=CV (src:=176) (gP:=d) C O
  rcases hk:B.link B.main (B.bR 8) 176 d with⟨a,t,P⟩
  rw[hk]at u G;simp only at u G;generalize hY:(let X:=({P with main:=a}:Mk).cE 11 (a.getD 0 0);({X with h:={X.h with cM:=jc a%4294967296,dh:=t%4294967296}}:Mk))=Y;have A:kV m Y l.length (900*l.length+400+2100+0) 0:=by subst hY;exact CX (e':=0) G q (aY Xy) (aY Xy) (aY Xy) q q (Nat.le_refl _) (Nat.le_refl _) (Nat.le_refl _)
  have ad:Y.b=P.b:=by subst hY;rfl
  have N:Y.ai=P.ai:=by subst hY;rfl
  have v:Y.main=a:=by subst hY;rfl
  obtain⟨e,aj,aD⟩:=EP (en:=d) M Y _ _ A (fun i T=>by rw[N,u.ai,F];exact D.idx i T);have ag:Y.n8=m.n8:=A.n8;have Q:=(EP (en:=d) M Y 0 0 ⟨A.fit,q,q,by rw[ag];exact A.chains,Nat.le_add_right _ 0,Nat.le_add_right _ 0,Nat.le_refl _,Nat.le_refl _⟩ (fun i T=>by rw[N,u.ai,F];exact D.idx i T)).1;have J:=kX (bH:=bH) (mono:=mono) (bC:=bC) hl h2 h3 hd (by rw[hE];exact ho) hk (z:=kE d M Y) (by rw[hY]);generalize kE d M Y=z at *;have J:m.append raw bH mono bC=if z.c.bG<z.b.length then(0,15,m)else((x.bR 9+1)%18446744073709551616,0,nG z (B.bR 8) ((x.bR 9+1)%18446744073709551616) bH mono d bC):=J;rw[J]at h20 ⊢;split at h20
  · rename_i hm
    rw[if_pos hm];exact h
  rename_i hm;rw[if_neg hm];have av:=e.ge;have aw:=e.le;have ax:=e.nd;have ay:=e.nf;have U:=e.c;have ah:z.n8=m.n8:=e.n8;have H:=h.bG;have az:=h.nd;have aA:=h.nf;have aq:=u.ge;have y:P.b.length<=z.b.length:=by have h:=Q.ge;rw[ad]at h;exact h
  obtain⟨s,V,W,g,aa,p,r,ar,ab⟩:=uT z (B.bR 8) ((x.bR 9+1)%18446744073709551616) bH mono d bC;simp only at h20 ⊢;generalize nG z (B.bR 8) ((x.bR 9+1)%18446744073709551616) bH mono d bC=R at *;have j:=(ab Xx).1;rw[ah,Nat.mod_eq_of_lt Xx]at j;refine⟨pK e.fit ⟨by rw[V],by rw[V],p,r,by rw[s];exact Nat.le_refl _⟩ (fun k hk=>.inl (W ▸ hk)) (fun k hk=>.inl (g ▸ hk)),?_,?_,?_,?_,?_,?_,?_,?_⟩
  · rw[j,s,aa,aj,v]
    have f:=u.chain;rw[show B.bR 8=m.n8 from K]at f;exact pI f y
  · intro k hk
    rw[W]at hk;obtain⟨ae,af,u3,aC⟩:=e.chains k hk;rw[s,j];exact⟨ae,af,u3,by omega⟩
  · rw[W,j];omega
  · rw[g,j];omega
  · rw[s,j];omega
  · rw[s];rw[U]at hm;omega
  · rw[V,U];exact H
  rw[s];have:=h.hd;omega
theorem xG {c:nU} {t:Nat} (h:c.ay<=10/\c.aC<=10) (h1:1<=c.ay/\1<=c.aC) (i:c.bG<=40000):vv (iB c t):=by
  have D:=(mY 4 (List.replicate c.ay {first:=0,tail:=0})).2 (.inl q);have e:=(mY 5 (List.replicate c.aC {first:=0,tail:=0})).2 (.inr q);have g:(iB c t).b=List.replicate 272 0 ++ dX 4 (List.replicate c.ay {first:=0,tail:=0}) ++ dX 5 (List.replicate c.aC {first:=0,tail:=0}):=rfl;have a:=congrArg List.length g;simp only[List.length_append,List.length_replicate]at D e a;have d:(iB c t).n8=0:=rfl;have C:(iB c t).ai=[]:=rfl;have f:(iB c t).ak=[]:=rfl;refine⟨⟨h1.1,by show c.ay<=64;omega,h1.2,by show c.aC<=64;omega,?_,?_,(fun k hk=>by rw[C]at hk;simp at hk),(fun k hk=>by rw[f]at hk;simp at hk)⟩,by rw[d];exact chain_nil _,(fun k hk=>by rw[C]at hk;simp at hk),by rw[d];exact Nat.le_refl _,by rw[d];exact Nat.le_refl _,by omega,by omega,i,by omega⟩
  · have:(iB c t).h.n.getD 2 0=288:=rfl
    rw[this,a];show 288+16*c.ay<=_;omega
  have:(iB c t).h.n.getD 4 0=(List.replicate 272 (0:UInt8) ++ dX 4 (List.replicate c.ay {first:=0,tail:=0})).length+16:=rfl;rw[this,a,List.length_append,List.length_replicate];show _+16*c.aC<=_;omega
theorem uL (s:Sq):(s.config.1.ay<=10/\s.config.1.aC<=10)/\(1<=s.config.1.ay/\1<=s.config.1.aC)/\s.config.1.bG<=40000:=by
  refine⟨MW s,?_⟩
  rcases h1:s.bR 5 with⟨a,A⟩
  rcases h2:A.bR 5 with⟨b,B⟩
  rcases h3:B.bR 5 with⟨c,C⟩
  rcases h4:C.bR 7 with⟨d,D⟩
  rcases h5:D.bR 4 with⟨e,E⟩
  rcases h6:E.bR 2 with⟨f,F⟩
  simp only[Sq.config,h1,h2,h3,h4,h5,h6];omega
theorem LM (s:Sq) (n:Nat):(∀q∈(s.record n).1.ak,BD q)/\(s.record n).1.ak.length<=16:=by
  rcases h1:s.pairs 4 with⟨A,B⟩
  rcases h2:B.bR 40 with⟨a,C⟩
  rcases h3:C.bR 9 with⟨b,D⟩
  rcases h4:D.bR 3 with⟨c,E⟩
  simp only[Sq.record,h1,h2,h3,h4];exact tP (show jU A=((jU A).1,(jU A).2)from rfl)
theorem uw (s:Sq) (n:Nat):(s.record n).1.bC.length=16:=by
  rcases h1:s.pairs 4 with⟨D,A⟩
  rcases h2:A.bR 40 with⟨a,B⟩
  rcases h3:B.bR 9 with⟨b,C⟩
  rcases h4:C.bR 3 with⟨c,E⟩
  simp only[Sq.record,h1,h2,h3,h4];simp[idF]
theorem FQ {bG:Nat} {s:Sq} {m:Mk} {rs:List Rec} (h:¬(rs.length<bG/\s.pos<s.l.length)):iW (bG-rs.length) s m rs=(m,rs,s):=by
  by_cases h1:rs.length<bG
  · obtain⟨n,B⟩:∃n,bG-rs.length=n+1:=⟨bG-rs.length-1,by omega⟩
    rw[B];show(if s.pos<s.l.length then _ else(m,rs,s))=_;rw[if_neg (fun A=>h ⟨h1,A⟩)]
  rw[show bG-rs.length=0 by omega];rfl
theorem aaL {bG c e:Nat} {s b:Sq} {m a:Mk} {rs:List Rec} {r:Rec} (h:rs.length<bG) (f:s.pos<s.l.length) (j:s.record ((m.bR 9+1)%18446744073709551616)=(r,b)) (g:m.append r.ak r.bH r.mono r.bC=(e,c,a)) (i:c≠0) :
    iW (bG-rs.length) s m rs=(a,rs,b):=by
  obtain⟨n,d⟩:∃n,bG-rs.length=n+1:=⟨bG-rs.length-1,by omega⟩;rw[d];unfold iW;rw[if_pos f];simp only[j,g];rw[if_pos i]
theorem aaM {bG c e:Nat} {s b:Sq} {m a:Mk} {rs:List Rec} {r:Rec} (h:rs.length<bG) (f:s.pos<s.l.length) (j:s.record ((m.bR 9+1)%18446744073709551616)=(r,b)) (g:m.append r.ak r.bH r.mono r.bC=(e,c,a)) (i:¬c≠0) :
    iW (bG-rs.length) s m rs=iW (bG-(rs ++ [r]).length) b a (rs ++ [r]):=by
  obtain⟨n,d⟩:∃n,bG-rs.length=n+1:=⟨bG-rs.length-1,by omega⟩;rw[d];rw[iW,if_pos f];simp only[j,g];rw[if_neg i,show bG-(rs ++ [r]).length=n by simp;omega]
theorem rP (m:Mk) (o:Ly):(m.bV o).2.h.n.length=m.h.n.length:=by simp[Mk.bV,Mk.cE]
theorem Zt (m:Mk) (l:List aP) (t p s:Nat):(m.hang l t p s).2.h=m.h:=by rw[(BQ m l t p s).1]
theorem aeo (m:Mk) (x:Ly):(m.field x).2.h.n.length=m.h.n.length:=by
  unfold Mk.field;split
  · rfl
  simp only;have B:=rP m (gu {bY:=cQ m.c.cB m.c.bZ x,b9:=0,dat:=0,au:=x});generalize m.bV (gu {bY:=cQ m.c.cB m.c.bZ x,b9:=0,dat:=0,au:=x})=r at *;obtain⟨p,A⟩:=r;simp only at B ⊢;have C:=Zt A A.ak (A.bR 4) p (cQ m.c.cB m.c.bZ x%A.c.aC);generalize A.hang A.ak (A.bR 4) p (cQ m.c.cB m.c.bZ x%A.c.aC)=r at *;obtain⟨n,D⟩:=r;simp only at C ⊢;simp only[Mk.cE,List.length_set,C];exact B
theorem ahm (m:Mk) (x:Pr):(m.data x).2.h.n.length=m.h.n.length:=by
  unfold Mk.data;split
  · rfl
  simp only;have C:=rP m (iw {bY:=cQ m.c.cB m.c.bZ (au x),b9:=0,d9:=0,entry:=0,array:=0,bB:=0,au:=au x});generalize m.bV (iw {bY:=cQ m.c.cB m.c.bZ (au x),b9:=0,d9:=0,entry:=0,array:=0,bB:=0,au:=au x})=r at *;obtain⟨p,A⟩:=r;simp only at C ⊢;have D:=Zt A A.ai (A.bR 2) p (cQ m.c.cB m.c.bZ (au x)%A.c.ay);generalize A.hang A.ai (A.bR 2) p (cQ m.c.cB m.c.bZ (au x)%A.c.ay)=r at *;obtain⟨n,B⟩:=r;simp only at D ⊢;generalize hx5:({(B.cE 19 (max (B.bR 19) n)).cE 15 (((B.cE 19 (max (B.bR 19) n)).bR 15+1)%18446744073709551616)with ai:=((B.cE 19 (max (B.bR 19) n)).cE 15 (((B.cE 19 (max (B.bR 19) n)).bR 15+1)%18446744073709551616)).ai ++ [({bQ:=au x,pos:=p,bX:=cQ m.c.cB m.c.bZ (au x)%A.c.ay,bB:=0,aT:=[]}:aP)]}:Mk)=m5;have E:m5.h.n.length=m.h.n.length:=by subst hx5;simp only[Mk.cE,List.length_set,D];exact C
  have F:=aeo m5 x.name;generalize m5.field x.name=r at *;obtain⟨k,G⟩:=r;exact F.trans E
theorem zv:∀(l:List Pr) (m:Mk) (ps:List (List UInt8)) (od:List Nat),(gN l m ps od).2.2.h.n.length=m.h.n.length
  | [],_,_,_=>rfl
  | x :: r,m,ps,od=>(zv r _ _ _).trans (ahm m x)
theorem NT (m:Mk) (a:List Nat) (n src gP:Nat):(m.link a n src gP).2.2.h.n.length=m.h.n.length:=by
  unfold Mk.link;generalize eW a 0 0 0=r;obtain⟨A,D⟩:=r;simp only;split
  · have B:=rP m (fe {next:=0,aH:=List.replicate (dn (a.length:Int)) 0})
    generalize m.bV (fe {next:=0,aH:=List.replicate (dn (a.length:Int)) 0})=r at *;obtain⟨p,C⟩:=r;simp only at B ⊢;split
    · show(C.cE 18 _).h.n.length=_
      simp only[Mk.cE,List.length_set];exact B
    show(C.cE 18 _).h.n.length=_;simp only[Mk.cE,List.length_set];exact B
  rfl
theorem FV (e:Nat):∀(a:List Nat) (m:Mk),(kE e a m).h.n.length=m.h.n.length
  | [],_=>rfl
  | i :: r,m=>by
    rw[nH,FV e r];unfold jT;simp only;split
    · rfl
    · exact NT m _ _ _ _
theorem zu (m:Mk) (raw:List Pr) (bH mono:Nat) (bC:Ly):(m.append raw bH mono bC).2.2.h.n.length=m.h.n.length:=by
  rcases hl:jU raw with⟨l,c⟩
  by_cases h2:c≠0
  · have d:m.append raw bH mono bC=(0,c,m):=by unfold Mk.append;simp only[hl];rw[if_pos h2]
    rw[d]
  by_cases h3:m.bR 9=18446744073709551615
  · have d:m.append raw bH mono bC=(0,1,m):=by unfold Mk.append;simp only[hl];rw[if_neg h2,if_pos h3]
    rw[d]
  have D:=zv l m [] []
  rcases hd:gN l m [] []with⟨I,C,x⟩
  rw[hd]at D;have g:=rP x (dc {seq:=(x.bR 9+1)%18446744073709551616,bH:=bH,mono:=mono,bC:=bC,xor:=nv 0 I,aH:=ji x C})
  rcases ho:x.bV (dc {seq:=(x.bR 9+1)%18446744073709551616,bH:=bH,mono:=mono,bC:=bC,xor:=nv 0 I,aH:=ji x C})with⟨d,A⟩
  rw[ho]at g;have i:=NT A A.main (A.bR 8) 176 d
  rcases hk:A.link A.main (A.bR 8) 176 d with⟨a,t,H⟩
  rw[hk]at i;simp only at D g i;have f:m.append raw bH mono bC=_:=kX (bH:=bH) (mono:=mono) (bC:=bC) hl h2 h3 hd ho hk q;have G:=FV d C (let e:=({H with main:=a}:Mk).cE 11 (a.getD 0 0);{e with h:={e.h with cM:=jc a%4294967296,dh:=t%4294967296}});generalize kE d C (let e:=({H with main:=a}:Mk).cE 11 (a.getD 0 0);{e with h:={e.h with cM:=jc a%4294967296,dh:=t%4294967296}})=z at f G;have f:m.append raw bH mono bC=if z.c.bG<z.b.length then(0,15,m)else((x.bR 9+1)%18446744073709551616,0,nG z (A.bR 8) ((x.bR 9+1)%18446744073709551616) bH mono d bC):=f;rw[f];split
  · rfl
  show(nG _ _ _ _ _ _ _).h.n.length=_;rw[(uT _ _ _ _ _ _ _).2.2.2.2.2.2.2.1,G];simp only[Mk.cE,List.length_set];omega
theorem KM:∀(n:Nat) (s:Sq) (m:Mk) (rs:List Rec),vv m->m.h.n.length=20->vv (iW n s m rs).1/\(iW n s m rs).1.h.n.length=20
  | 0,_,_,_,h,h2=>⟨h,h2⟩
  | n+1,s,m,rs,h,h2=>by
    unfold iW;split
    · rcases hr:s.record ((m.bR 9+1)%18446744073709551616)with⟨r,s1⟩
      have hb:r.bC.length=16:=(by have:=uw s ((m.bR 9+1)%18446744073709551616);rw[hr]at this;exact this);have A:=zu m r.ak r.bH r.mono r.bC;have B:=yG (raw:=r.ak) (bH:=r.bH) (mono:=r.mono) h hb (A.trans h2)
      rcases ha:m.append r.ak r.bH r.mono r.bC with⟨e,c,C⟩
      rw[ha]at A B;simp only[ha];split
      · exact⟨B,A.trans h2⟩
      · exact KM n s1 C _ B (A.trans h2)
    · exact⟨h,h2⟩
theorem SA {s b:Sq} {bG:Nat} {m:Mk} {rs:List Rec} (h:s.oO bG=(m,rs,b)):vv m/\m.h.n.length=20:=by
  have a:=uL s
  rcases h1:s.config with⟨c,B⟩
  rcases h2:B.bR 6 with⟨t,C⟩
  rw[h1]at a;simp only[Sq.oO,h1,h2]at h;have:=KM bG C (iB c t) [] (xG a.1 a.2.1 a.2.2) q;rw[h]at this;exact this
theorem VL {m:Mk} (ok:e5.ok m.h) (hb:m.b.length<=40000):(kM m 1).length<=100000:=by unfold kM;rw[List.length_append,yZ {m.h with state:=1,n:=m.h.n.set 1 (m.b.length-272)} m.depth ⟨ok.1,ok.2.1,(by decide:(1:Nat)<9223372036854775808),ok.2.2.2.1,ok.2.2.2.2.1,ok.2.2.2.2.2.1,ok.2.2.2.2.2.2.1,xI ok.2.2.2.2.2.2.2.1 Xx,ok.2.2.2.2.2.2.2.2⟩,List.length_drop];omega
section
variable {P:Program} {n:Nat} {A:Fr n} {D:List Deferred} {l:List (Nat × Value)} {w:World} {d:Option Tmp} {ty:TypeId} {ps:String} {af:Array Edge} {g:Option (Nat × Bool)}
end
def iL (b:Ly) (p n:Nat):List o9:=(List.range n).map fun i=>{first:=dS b (p+16*i),tail:=dS b (p+16*i+8)}
theorem qO (b:Ly) (p n:Nat):(iL b p n).length=n:=by simp[iL]
theorem OZ (b:Ly) (p n:Nat):iL b p (n+1)=iL b p n ++ [{first:=dS b (p+16*n),tail:=dS b (p+16*n+8)}]:=by simp[iL,List.range_succ]
def jy (b:Ly) (p:Nat) (k:Int):List o9 × Nat :=
  if ¬(k=4\/k=5)then([],1)
  else if(jA b p k.toNat 0 16).2≠0 then([],(jA b p k.toNat 0 16).2)
  else(iL (jA b p k.toNat 0 16).1 0 ((jA b p k.toNat 0 16).1.length/16),0)
theorem am8 {b:Ly} {p:Nat} {k:Int} (h:¬(k=4\/k=5)):jy b p k=([],1):=by unfold jy;rw[if_pos h]
theorem akz {b x:Ly} {p k c:Nat} (hk:(k:Int)=4\/(k:Int)=5) (h:jA b p k 0 16=(x,c)) (a:c≠0):jy b p (k:Int)=([],c):=by unfold jy;rw[if_neg (fun h=>h hk),Int.toNat_natCast,h,if_pos a]
theorem afU {b x:Ly} {p k c:Nat} {l:List o9} (hk:(k:Int)=4\/(k:Int)=5) (h:jA b p k 0 16=(x,c)) (a:¬c≠0) (d:l=iL x 0 (x.length/16)):jy b p (k:Int)=(l,0):=by unfold jy;rw[if_neg (fun h=>h hk),Int.toNat_natCast,h,if_neg a,d]
theorem abK {x:Ly} {l:List o9} {m:List Nat} {i n v u:Nat} (a:l=iL x 0 (i/2)) (hi:i%2=0) (b:m=fJ x 0 n) (d:m[i]? = some v) (c:m[i+1]? = some u):l ++ [{first:=v,tail:=u}]=iL x 0 ((i+2)/2):=by subst b;rw[show(i+2)/2=i/2+1 by omega,OZ,a,(nW d).1,(nW c).1,show 0+16*(i/2)=0+8*i by omega,show 0+8*(i+1)=0+8*i+8 by omega]
def sO (n:List Nat) (b:Ly) (k:Int):List o9 × Nat :=
  if(jy b ((if k=4 then n.getD 2 0 else n.getD 4 0)-16) k).2≠0 then([],(jy b ((if k=4 then n.getD 2 0 else n.getD 4 0)-16) k).2)
  else if(jy b ((if k=4 then n.getD 2 0 else n.getD 4 0)-16) k).1.length≠(if k=4 then n.getD 3 0 else n.getD 5 0)/16 then([],14)
  else jy b ((if k=4 then n.getD 2 0 else n.getD 4 0)-16) k
theorem UE {h:bI} {a s e:Nat} (b:k9 h a s e=0):16<=a:=by
  unfold k9 at b
  repeat' split at b
  all_goals omega
theorem Tx {b:Ly} {y:dx} {x:Option dx} {c:Nat} (h:kG b=(x,c)) (f:x=some y):272<=b.length/\16<=y.h.n.getD 2 0/\16<=y.h.n.getD 4 0:=by
  subst f;unfold kG at h;split at h
  · cases h
  rename_i h1;have C:jE b=((jE b).1,0):=by rw[<- Classical.not_not.1 h1]
  obtain⟨d,D,a⟩:=pE C;have e:y.h=(jE b).1:=by have:=congrArg Prod.fst h;simp only[Option.some.injEq]at this;rw[<- this]
  rw[e];refine⟨d,?_⟩;unfold oD at a
  repeat' split at a
  all_goals first|omega|skip
  rename_i h7;exact⟨UE (Classical.not_not.1 h7),UE a⟩
def qY (s:Nat) (b:Ly) (k:Int) (p:Nat):Nat:=if k=4 then(eU s b p).1.bY else(kZ s b p).1.bY
def ud (s:Nat) (b:Ly) (k:Int) (p:Nat):Nat:=if k=4 then(eU s b p).1.b9 else(kZ s b p).1.b9
def qm (s:Nat) (b:Ly) (k:Int) (p:Nat):List UInt8:=if k=4 then(eU s b p).1.au else(kZ s b p).1.au
def uc (s:Nat) (b:Ly) (k:Int) (p:Nat):Nat:=if k=4 then(eU s b p).2 else(kZ s b p).2
def fdL (nx cd:Nat->Nat) (is:Nat->Bool) (len:Nat):Nat->Nat->Nat->Nat × Nat
  | 0,_,_=>(0,0)
  | k+1,p,a=>if p=0\/len<=p then(0,0)else if p<=a then(0,12)else if cd p≠0 then(0,cd p)else if is p=true then(p,0)else fdL nx cd is len k (nx p) p
section
variable {nx cd:Nat->Nat} {is:Nat->Bool} {len p a c:Nat} {o:List Nat}
theorem YI (m:Nat):∀(k p a:Nat),len-a<k->fdL nx cd is len (k+m) p a=fdL nx cd is len k p a
 | 0,_,_,h=>by omega
 | k+1,p,a,h=>by
  rw[show k+1+m=(k+m)+1 by omega,fdL,fdL];split
  ·rfl
  ·split
   ·rfl
   ·split
    ·rfl
    ·split
     ·rfl
     ·exact YI m k _ _ Xx
def HY (nx cd:Nat->Nat) (is:Nat->Bool) (len p a:Nat):Nat × Nat:=fdL nx cd is len (len-a+1) p a
theorem VD (h:p=0\/len<=p):HY nx cd is len p a=(0,0):=by unfold HY;rw[fdL,if_pos h]
theorem agH (h:¬(p=0\/len<=p)) (h1:p<=a):HY nx cd is len p a=(0,12):=by unfold HY;rw[fdL,if_neg h,if_pos h1]
theorem ajy (h:¬(p=0\/len<=p)) (h1:¬p<=a) (b:cd p=c) (d:c≠0):HY nx cd is len p a=(0,c):=by subst b;unfold HY;rw[fdL,if_neg h,if_neg h1,if_pos d]
theorem adm (h:¬(p=0\/len<=p)) (h1:¬p<=a) (b:cd p=0) (hi:is p=true):HY nx cd is len p a=(p,0):=by unfold HY;rw[fdL,if_neg h,if_neg h1,if_neg Xx,if_pos hi]
theorem ai1 (h:¬(p=0\/len<=p)) (h1:¬p<=a) (c:cd p=0) (hi:¬is p=true) {n:Nat} (b:nx p=n):HY nx cd is len p a=HY nx cd is len n p:=by subst b;unfold HY;rw[fdL,if_neg h,if_neg h1,if_neg Xx,if_neg hi];rw[show len-a=(len-p+1)+(len-a-(len-p+1))by omega];exact YI _ _ _ _ Xx
end
def aks:o9:={first:=0,tail:=0}
theorem aib {n:List Nat} {b:Ly} {k:Int} {l:List o9} {c:Nat} (h:sO n b k=(l,c)) (f:c=0):0<l.length:=by
  subst f;unfold sO at h;generalize ((if k=4 then n.getD 2 0 else n.getD 4 0)-16)=a at h;generalize (if k=4 then n.getD 3 0 else n.getD 5 0)/16=m at h;split at h
  · rename_i h1;exact absurd (congrArg Prod.snd h) h1
  split at h
  · cases h
  unfold jy at h;split at h
  · cases h
  split at h
  · rename_i h1;exact absurd (congrArg Prod.snd h) h1
  rename_i h1
  rcases hb:jA b a k.toNat 0 16 with⟨x,d⟩
  rw[hb]at h h1;obtain⟨_,_,g,i,_,C,_⟩:=tG hb (Classical.not_not.1 h1);have e:=congrArg Prod.fst h;simp only at e;rw[<- e,qO];omega
theorem amg {s p:Nat} {b:Ly} {k:Int} (h:k=4):qY s b k p=(eU s b p).1.bY/\ud s b k p=(eU s b p).1.b9/\qm s b k p=(eU s b p).1.au/\uc s b k p=(eU s b p).2:=by unfold qY ud qm uc;rw[if_pos h,if_pos h,if_pos h,if_pos h];exact⟨q,q,q,q⟩
theorem amh {s p:Nat} {b:Ly} {k:Int} (h:¬k=4):qY s b k p=(kZ s b p).1.bY/\ud s b k p=(kZ s b p).1.b9/\qm s b k p=(kZ s b p).1.au/\uc s b k p=(kZ s b p).2:=by unfold qY ud qm uc;rw[if_neg h,if_neg h,if_neg h,if_neg h];exact⟨q,q,q,q⟩
def findF (n:List Nat) (b:Ly) (k:Int) (h:Nat) (pl:Ly):Nat × Nat :=
  if(sO n b k).2≠0 then(0,(sO n b k).2)
  else if(HY (ud (n.getD 0 0) b k) (uc (n.getD 0 0) b k) (fun p=>decide (qY (n.getD 0 0) b k p=h) && decide (qm (n.getD 0 0) b k p=pl)) b.length ((sO n b k).1.getD (h%(sO n b k).1.length) aks).first 0)=(0,0)then(0,16)
  else(HY (ud (n.getD 0 0) b k) (uc (n.getD 0 0) b k) (fun p=>decide (qY (n.getD 0 0) b k p=h) && decide (qm (n.getD 0 0) b k p=pl)) b.length ((sO n b k).1.getD (h%(sO n b k).1.length) aks).first 0)
section
variable {n:List Nat} {b o nm9 pl:Ly} {k bX:Int} {l:List o9} {c d h p:Nat} {t:o9} {x:List Nat}
theorem ads (d:sO n b k=(l,c)) (a:c≠0):findF n b k h pl=(0,c):=by unfold findF;rw[d];rw[if_pos a]
theorem wY (g:sO n b k=(l,c)) (e:c=0) (f:l[h%l.length]? = some t) (hb:HY (ud (n.getD 0 0) b k) (uc (n.getD 0 0) b k) (fun p=>decide (qY (n.getD 0 0) b k p=h) && decide (qm (n.getD 0 0) b k p=pl)) b.length t.first 0=(p,d)):findF n b k h pl=if(p,d)=(0,0)then(0,16)else(p,d):=by
  subst e;unfold findF;rw[g];rw[if_neg Oy];have a:l.getD (h%l.length) aks=t:=by rw[List.getD_eq_getElem?_getD,f];rfl
  simp only[a,hb]
end
section
variable {n m:List Nat} (hn:∀i,i<20->m.getD i 0=n.getD i 0) (b:Ly) (k bX:Int) (h:Nat) (pl:Ly)
include hn
end
def seg (b:Ly) (p n:Nat):List UInt8:=(b.drop p).take n
theorem CI {b:Ly} {p n i:Nat} (h:i<n):(seg b p n)[i]? = b[p+i]?:=by unfold seg;rw[List.getElem?_take,if_pos h,List.getElem?_drop]
theorem ZR {b:Ly} {p n:Nat} (h:p+n<=b.length):(seg b p n).length=n:=by unfold seg;simp;omega
theorem ZQ {b c:Ly} {p n:Nat} (h:∀i,i<n->c[p+i]? = b[p+i]?):seg c p n=seg b p n:=by
  apply List.ext_getElem?;intro i
  by_cases hi:i<n
  · rw[CI hi,CI hi,h i hi]
  unfold seg;rw[List.getElem?_take,List.getElem?_take,if_neg hi,if_neg hi]
theorem iZ (b:Ly) (p:Nat):dS b p=AZ (seg b p 8):=rfl
theorem OY {b:Ly} {p n q k:Nat} (h:q+k<=n):seg (seg b p n) q k=seg b (p+q) k:=by unfold seg;rw[List.drop_take,List.take_take,List.drop_drop,Nat.min_eq_left Xx]
theorem TV {b l:Ly} {p n q k:Nat} (h:seg b p n=l) (a:q+k<=n):seg b (p+q) k=seg l q k:=by rw[<- h,OY a]
theorem CG {b o:Ly} {p n:Nat} (h:p+n<=b.length):seg (b ++ o) p n=seg b p n :=
  ZQ fun i hi=>List.getElem?_append_left Xx
theorem seg_new (b o:Ly):seg (b ++ o) b.length o.length=o:=by unfold seg;rw[List.drop_left,List.take_length]
theorem lX (x y:Ly) {n:Nat} (h:n=x.length):seg (x ++ y) 0 n=x:=by subst h;simp[seg]
theorem iy {x y:Ly} {p n:Nat} (h:x.length<=p):seg (x ++ y) p n=seg y (p-x.length) n:=by unfold seg;rw[List.drop_append,List.drop_eq_nil_of_le h,List.nil_append]
theorem NN (v n:Nat):AZ (low v n)=v%256 ^ n:=by
  induction n generalizing v with
  | zero=>simp[low,AZ,Nat.mod_one]
  | succ n ih =>
    simp only[low,AZ,ih];rw[UInt8.toNat_ofNat',show 2 ^ 8=256 from rfl,Nat.mod_mod,Nat.pow_succ,Nat.mul_comm (256 ^ n) 256,Nat.mod_mul]
theorem ag2 {v:Nat} (r:Ly) (h:v<18446744073709551616):dS (low v 8 ++ r) 0=v:=by rw[iZ,lX _ _ (by rw[iu]),NN];exact Nat.mod_eq_of_lt h
theorem gO {x y:Ly} {p:Nat} (h:x.length<=p):dS (x ++ y) p=dS y (p-x.length):=by rw[iZ,iZ,iy h]
theorem qu {b o:Ly} {p:Nat} (h:p+8<=b.length):dS (b ++ o) p=dS b p:=by rw[iZ,iZ,CG h]
theorem acF {b l:Ly} {p n q:Nat} (h:seg b p n=l) (a:q+8<=n):dS b (p+q)=dS l q:=by rw[iZ,iZ,TV h a]
theorem lQ:∀{l:List Nat} {r:Ly} {i v:Nat},l[i]? = some v->v<18446744073709551616->dS (nums l ++ r) (8*i)=v
  | [],_,_,_,h,_=>by simp at h
  | x :: l,r,0,v,h,hv=>by simp at h;subst h;rw[nums,List.append_assoc];exact ag2 _ hv
  | x :: l,r,i+1,v,h,hv=>by rw[nums,List.append_assoc,gO (by rw[iu];omega),iu,show 8*(i+1)-8=8*i by omega];exact lQ (by simpa using h) hv
theorem JE {l:List Nat} {i v:Nat} (h:l[i]? = some v) (a:v<18446744073709551616):dS (nums l) (8*i)=v:=by
  have:=lQ (r:=[]) h a
  rwa [List.append_nil]at this
theorem T1:∀(n:Nat) (b:Ly) (p v i q:Nat),(IV n b p v i)[q]? = if p+i<=q/\q<p+i+n/\q<b.length then some (UInt8.ofNat (v/2 ^ (8*(q-p))))else b[q]?
  | 0,b,p,v,i,q=>by rw[if_neg Xx];rfl
  | n+1,b,p,v,i,q=>by
    rw[IV,T1 n];simp only[List.length_set]
    by_cases h:p+(i+1)<=q/\q<p+(i+1)+n/\q<b.length
    · rw[if_pos h,if_pos Xx]
    · rw[if_neg h]
      by_cases hq:q=p+i
      · subst hq
        by_cases hl:p+i<b.length
        · rw[if_pos Xx,List.getElem?_set_self hl,show p+i-p=i by omega]
        · rw[if_neg Xx,List.getElem?_eq_none Ym,List.getElem?_eq_none Xx]
      · rw[if_neg Xx,List.getElem?_set_ne Xx]
theorem TA (b:Ly) (p v q:Nat):(iq b p v)[q]? = if p<=q/\q<p+8/\q<b.length then some (UInt8.ofNat (v/2 ^ (8*(q-p))))else b[q]?:=T1 8 b p v 0 q
theorem ZS {b:Ly} {p v q n:Nat} (h:p+8<=q\/q+n<=p):seg (iq b p v) q n=seg b q n :=
  ZQ fun i hi=>by rw[TA,if_neg Xx]
theorem Zl:∀(n v i:Nat),i<n->(low v n)[i]? = some (UInt8.ofNat (v/2 ^ (8*i)))
  | n+1,v,0,_=>by simp only[low,List.getElem?_cons_zero,Nat.mul_zero,Nat.pow_zero,Nat.div_one,Option.some.injEq];apply UInt8.toNat.inj;simp
  | n+1,v,i+1,h=>by simp only[low,List.getElem?_cons_succ];rw[Zl n (v/256) i Xx,Nat.div_div_eq_div_mul,show 256*2 ^ (8*i)=2 ^ (8*(i+1))by rw[Nat.mul_add,Nat.pow_add,Nat.mul_comm]]
theorem OX {b:Ly} {p v:Nat} (h:p+8<=b.length):seg (iq b p v) p 8=low v 8:=by
  apply List.ext_getElem?;intro i
  by_cases hi:i<8
  · rw[CI hi,TA,if_pos Xx,Zl 8 v i hi,show p+i-p=i by omega]
  rw[List.getElem?_eq_none (by rw[ZR (by rw[eP];omega)];omega),List.getElem?_eq_none (by rw[iu];omega)]
theorem fE {b:Ly} {p v q:Nat} (h:p+8<=q\/q+8<=p):dS (iq b p v) q=dS b q:=by rw[iZ,iZ,ZS h]
theorem iM {b:Ly} {p v:Nat} (h:p+8<=b.length) (a:v<18446744073709551616):dS (iq b p v) p=v:=by rw[iZ,OX h,NN];exact Nat.mod_eq_of_lt a
theorem DJ {b:Ly} {p i n:Nat} (h:i<n):jX b (p+i)=((seg b p n).getD i 0).toNat:=by unfold jX;rw[List.getD_eq_getElem?_getD,List.getD_eq_getElem?_getD,CI h]
structure Eff (S:Nat->Prop) (b c:Ly):Prop where
  len:b.length<=c.length
  seg:∀q n,q+n<=b.length->(∀a,S a->a+8<=q\/q+n<=a)->seg c q n=seg b q n
theorem Eff.refl (S:Nat->Prop) (b:Ly):Eff S b b:=⟨Nat.le_refl _,fun _ _ _ _=>rfl⟩
theorem Eff.trans {S:Nat->Prop} {a b c:Ly} (h:Eff S a b) (k:Eff S b c):Eff S a c :=
  ⟨lv h.len k.len,fun q n d e=>(k.seg q n (lv d h.len) e).trans (h.seg q n d e)⟩
theorem Eff.mono {S T:Nat->Prop} {a b:Ly} (h:Eff S a b) (d:∀x,S x->T x):Eff T a b:=⟨h.len,fun q n c e=>h.seg q n c fun x f=>e x (d x f)⟩
theorem Eff.put (b:Ly) (p v:Nat):Eff (fun a=>a=p) b (iq b p v):=⟨by rw[eP];exact Nat.le_refl _,fun q n _ c=>ZS (c p rfl)⟩
theorem Eff.app (S:Nat->Prop) (b o:Ly):Eff S b (b ++ o):=⟨by simp,fun q n a _=>CG a⟩
theorem Eff.dS {S:Nat->Prop} {b c:Ly} {q:Nat} (h:Eff S b c) (d:q+8<=b.length) (e:∀a,S a->a+8<=q\/q+8<=a):dS c q=dS b q:=by rw[iZ,iZ,h.seg q 8 d e]
structure Ob where
  pos:Nat
  kind:Nat
  size:Nat
def oS (n:Nat):Nat:=(n+7)/8*8
theorem dI (n:Nat):n<=oS n/\oS n<n+8/\oS n%8=0:=by unfold oS;omega
def UW (kind size:Nat):List UInt8:=[UInt8.ofNat kind,0,0,0,0,0,0,0] ++ nums [size]
theorem jY (k s:Nat):(UW k s).length=16:=by simp[UW,eC]
theorem xX {k:Nat} {body:Ly} (h:1<=k/\k<=7):qn k body=(UW k (16+body.length) ++ body) ++ List.replicate ((8-(16+body.length)%8)%8) 0:=by
  unfold qn;rw[if_neg Xx,GK];have:([UInt8.ofNat k,0,0,0,0,0,0,0] ++ nums [16+body.length] ++ body).length=16+body.length:=by simp[eC];omega
  rw[this];rfl
def fF (b:Ly):Nat->List Ob->Nat->Prop
  | p,[],e=>p=e
  | p,o :: r,e=>o.pos=p/\1<=o.kind/\o.kind<=7/\16<=o.size/\o.size<18446744073709551616/\seg b p 16=UW o.kind o.size/\fF b (p+oS o.size) r e
theorem fF.le {b:Ly}:∀{l:List Ob} {p e:Nat},fF b p l e->p<=e/\(p%8=0->e%8=0)
  | [],_,_,h=>by cases h;exact⟨Nat.le_refl _,id⟩
  | o :: r,p,e,h=>by have:=h.2.2.2.2.2.2.le;have:=dI o.size;omega
structure agr (b:Ly) (p e:Nat) (o:Ob):Prop where
  ge:p<=o.pos
  le:o.pos+oS o.size<=e
  al:p%8=0->o.pos%8=0
  kind:1<=o.kind/\o.kind<=7
  size:16<=o.size/\o.size<18446744073709551616
  hd:seg b o.pos 16=UW o.kind o.size
theorem fF.mem {b:Ly}:∀{l:List Ob} {p e:Nat} {o:Ob},fF b p l e->o∈l->agr b p e o
  | [],_,_,_,_,h=>by simp at h
  | x :: r,p,e,o,h,ho=>by
    obtain⟨j,k,m,n,q,s,a⟩:=h;have t:=a.le;have w:=dI x.size
    rcases List.mem_cons.1 ho with rfl|ho
    · subst j
      exact⟨Nat.le_refl _,t.1,id,⟨k,m⟩,⟨n,q⟩,s⟩
    · obtain⟨u,c,d,f,g,i⟩:=a.mem ho
      exact⟨by omega,c,fun v=>d Xx,f,g,i⟩
theorem fF.sep {b:Ly}:∀{l:List Ob} {p e:Nat} {o x:Ob},fF b p l e->o∈l->x∈l->o=x\/o.pos+oS o.size<=x.pos\/x.pos+oS x.size<=o.pos
  | [],_,_,_,_,_,h,_=>by simp at h
  | y :: r,p,e,o,x,h,ho,hx=>by
    obtain⟨c,d,f,g,i,j,a⟩:=h
    rcases List.mem_cons.1 ho with e1|e1
    · rcases List.mem_cons.1 hx with e2|e2
      · exact .inl (e1.trans e2.symm)
      · have:=(a.mem e2).ge;subst e1;exact .inr (.inl Xx)
    · rcases List.mem_cons.1 hx with e2|e2
      · have:=(a.mem e1).ge;subst e2;exact .inr (.inr Xx)
      · exact a.sep e1 e2
theorem fF.app {b:Ly}:∀{l:List Ob} {p e:Nat} {o:Ob},fF b p l e->o.pos=e->1<=o.kind->o.kind<=7->16<=o.size->o.size<18446744073709551616->seg b e 16=UW o.kind o.size->fF b p (l ++ [o]) (e+oS o.size)
  | [],p,e,o,h,h1,h2,h3,h4,h5,h6=>by cases h;exact⟨h1,h2,h3,h4,h5,h6,q⟩
  | x :: r,p,e,o,h,h1,h2,h3,h4,h5,h6=>by obtain⟨a,c,d,f,g,i,j⟩:=h;exact⟨a,c,d,f,g,i,j.app h1 h2 h3 h4 h5 h6⟩
def Body (l:List Ob) (a:Nat):Prop:=a+8<=272\/∃o∈l,o.pos+16<=a/\a+8<=o.pos+oS o.size
theorem fF.kQ {b c:Ly} {S:Nat->Prop} {l:List Ob} {p e:Nat} (h:fF b p l e) (k:Eff S b c) (hb:e<=b.length) (g:∀o∈l,∀a,S a->a+8<=o.pos\/o.pos+16<=a):fF c p l e:=by
  induction l generalizing p with
  | nil=>exact h
  | cons o r ih =>
    have q:=fF.mem (o:=o) h Oy;obtain⟨d,C,D,i,j,G,f⟩:=h;have s:=dI o.size;have n:=f.le;refine⟨d,C,D,i,j,?_,ih f fun x m=>g x (by simp[m])⟩;rw[k.seg p 16 Xx fun a H=>d ▸ g o Oy a H,G]
theorem fF.body {b:Ly} {l:List Ob} {e:Nat} (h:fF b 272 l e) {a:Nat} (c:Body l a) {o:Ob} (d:o∈l):a+8<=o.pos\/o.pos+16<=a:=by
  have f:=h.mem d
  rcases c with c|⟨x,C,D,E⟩
  · have:=f.ge;omega
  have:=dI o.size;have:=dI x.size
  rcases h.sep d C with rfl|A|A <;> omega
theorem tJ {b:Ly} {p e:Nat} {o:Ob} (h:agr b p e o) (c:p%8=0) (hb:o.pos+o.size<=b.length):dr b o.pos=({kind:=o.kind,flags:=0,size:=o.size},0):=by
  have d:=h.size.1;have a:jX b o.pos=o.kind:=by have:=DJ (b:=b) (p:=o.pos) (i:=0) (n:=16) Xx;rw[Nat.add_zero,h.hd]at this;rw[this];show(UInt8.ofNat o.kind).toNat=_;have:=h.kind;rw[UInt8.toNat_ofNat',Nat.mod_eq_of_lt Xx]
  have C:jX b (o.pos+1)=0:=by have:=DJ (b:=b) (p:=o.pos) (i:=1) (n:=16) Xx;rw[h.hd]at this;rw[this];rfl
  have D:dS b (o.pos+8)=o.size:=by rw[acF h.hd Xx,UW,gO Oy];exact JE (l:=[o.size]) (i:=0) q h.size.2
  have hk:=h.kind;have f:=h.al c;unfold dr;rw[if_neg Xx,if_neg Xx,a,C,D,if_neg Xx,if_neg Xx,if_neg Xx,if_neg Xx]
theorem Y5 {b:Ly} {p e k ahead gP:Nat} {o:Ob} (h:agr b p e o) (a:p%8=0) (hb:o.pos+o.size<=b.length) (hk:o.kind=k) (h1:16+ahead<o.size) (c:(o.size-(16+ahead))%gP=0):jA b o.pos k ahead gP=(seg b (o.pos+16) (o.size-16),0):=by unfold jA;rw[tJ h a hb];simp only;rw[if_neg Oy,if_neg Xx,if_neg Xx];congr 1;unfold seg;rw[List.drop_take,show o.pos+o.size-(o.pos+16)=o.size-16 by omega]
theorem ajL {b:Ly} {p e k n:Nat} {o:Ob} (h:agr b p e o) (c:p%8=0) (hb:o.pos+o.size<=b.length) (hk:o.kind=k) (h1:16+8*n<o.size):lC b o.pos k n=(fJ b (o.pos+16) n,seg b (o.pos+16+8*n) (o.size-(16+8*n)),0):=by have a:=AK (b:=b) (p:=o.pos) (n:=n) (kind:=k) (tJ h c hb) Oy Zx Zx q;rw[a,FY Zx Zx,Nat.add_zero];congr 2;unfold seg;simp only;rw[List.drop_take,List.drop_take,List.drop_drop,show o.pos+o.size-(o.pos+16)-8*n=o.size-(16+8*n)by omega]
def kU:Nat->Nat
  | 0=>0
  | k+1=>kU k+dn (k:Int)
theorem LV:∀(l:List Nat) (k a:Nat),eW l k a (kU k)=(if l=[]then a else kU (k+l.length-1),kU (k+l.length))
  | [],_,_=>rfl
  | x :: l,k,a=>by
    have:=LV l (k+1) (kU k);rw[show eW (x :: l) k a (kU k)=eW l (k+1) (kU k) (kU (k+1))from rfl,this];have b:k+1+l.length=k+(l.length+1):=(by omega);simp only[List.length_cons,b,reduceCtorEq,if_false,Prod.mk.injEq,and_true];split
    · rename_i h;subst h;rfl
    · rfl
theorem abD (l:List Nat):eW l 0 0 0=(kU (l.length-1),kU l.length):=by
  have:=LV l 0 0;simp only[kU,Nat.zero_add]at this;rw[this];congr 1;split
  · rename_i h;subst h;rfl
  rfl
theorem QJ {i j:Nat} (h:i<=j):kU i<=kU j:=by
  induction j with
  | zero=>rw[Nat.le_zero.1 h];exact Nat.le_refl _
  | succ j ih =>
    rcases Nat.lt_or_ge i (j+1)with A|A
    · have:=ih Xx;simp only[kU];omega
    · rw[show i=j+1 by omega];exact Nat.le_refl _
theorem acN {i j:Nat} (h:i<j):kU i+dn (i:Int)<=kU j:=QJ (show i+1<=j from h)
theorem rG (l:List Nat) (x i:Nat):(l ++ [x]).getD i 0=if i=l.length then x else l.getD i 0:=by
  simp only[List.getD_eq_getElem?_getD]
  by_cases h:i<l.length
  · rw[List.getElem?_append_left h,if_neg Xx]
  rw[List.getElem?_append_right Xx]
  by_cases h2:i=l.length
  · subst h2;simp
  rw[if_neg h2,List.getElem?_eq_none Ym,List.getElem?_eq_none Xx]
theorem getD_some {l:List Nat} {i x:Nat} (h:l[i]? = some x):l.getD i 0=x:=by simp[List.getD,h]
structure Chain (b:Ly) (l:List Ob) (src:Nat) (av aH:List Nat):Prop where
  word:dS b src=av.getD 0 0
  ob:∀k a:Nat,av[k]? = some a->(⟨a,6,24+8*dn (k:Int)⟩:Ob)∈l
  next:∀k a:Nat,av[k]? = some a->dS b (a+16)=av.getD (k+1) 0
  gP:∀k a j:Nat,av[k]? = some a->j<dn (k:Int)->dS b (a+24+8*j)=aH.getD (kU k+j) 0
  yD:∀k a c:Nat,av[k]? = some a->av[k+1]? = some c->a<c
  lo:kU (av.length-1)<=aH.length
  hi:aH.length<=kU av.length
theorem UZ {av:List Nat} (h:∀k a c:Nat,av[k]? = some a->av[k+1]? = some c->a<c):∀(d k a c:Nat),av[k]? = some a->av[k+d+1]? = some c->a<c
  | 0,k,a,c,h1,h2=>h k a c h1 h2
  | d+1,k,a,c,h1,h2=>by obtain⟨y,b⟩:∃y,av[k+d+1]? = some y:=⟨_,List.getElem?_eq_getElem (by have:=(List.getElem?_eq_some_iff.1 h2).1;omega)⟩;have:=UZ h d k a y h1 b;have:=h (k+d+1) y c b h2;omega
def Src (l:List Ob) (a:Nat):Prop:=a+8<=272\/∃o∈l,o.kind≠6/\o.pos+16<=a/\a+8<=o.pos+oS o.size
theorem Src.body {l:List Ob} {a:Nat} (h:Src l a):Body l a:=h.imp id fun⟨o,b,_,c⟩=>⟨o,b,c⟩
theorem Src.apart {b:Ly} {l:List Ob} {a e:Nat} (h:Src l a) (c:fF b 272 l e) {o:Ob} (d:o∈l) (hk:o.kind=6):a+8<=o.pos\/o.pos+oS o.size<=a:=by
  rcases h with h|⟨x,C,A,D,E⟩
  · have:=(c.mem d).ge;omega
  rcases c.sep d C with rfl|B|B
  · exact absurd hk A
  · omega
  omega
theorem Src.mono {l r:List Ob} {a:Nat} (h:Src l a) (d:∀o∈l,o∈r):Src r a:=h.imp id fun⟨o,b,c⟩=>⟨o,d o b,c⟩
theorem Src.lt {b:Ly} {l:List Ob} {a e:Nat} (h:Src l a) (c:fF b 272 l e):a+8<=e:=by
  rcases h with h|⟨x,A,B,C,D⟩
  · have:=c.le;omega
  have:=(c.mem A).le;omega
def zS (src:Nat) (av:List Nat) (a:Nat):Prop:=a=src\/∃k c:Nat,av[k]? = some c/\c+16<=a/\a+8<=c+24+8*dn (k:Int)
theorem iC (r:Nat):oS (24+8*r)=24+8*r:=by unfold oS;omega
section
variable {b c:Ly} {l:List Ob} {src e:Nat} {av aH:List Nat}
theorem Chain.apart (h:Chain b l src av aH) (j:fF b 272 l e) {k c a d:Nat} (f:av[k]? = some a) (g:av[c]? = some d) (hk:k≠c):a+24+8*dn (k:Int)<=d\/d+24+8*dn (c:Int)<=a:=by
  have i:a≠d:=by
    rcases Nat.lt_or_ge k c with A|A
    · have:=UZ h.yD (c-k-1) k a d f (by rw[show k+(c-k-1)+1=c by omega];exact g);omega
    · have:=UZ h.yD (k-c-1) c d a g (by rw[show c+(k-c-1)+1=k by omega];exact f);omega
  rcases j.sep (h.ob k a f) (h.ob c d g)with A|A|A
  · exact absurd (congrArg Ob.pos A) i
  · rw[iC]at A;simp only at A;omega
  rw[iC]at A;simp only at A;omega
theorem Chain.le (h:Chain b l src av aH) (d:fF b 272 l e) {k a:Nat} (f:av[k]? = some a):272<=a/\a+24+8*dn (k:Int)<=e:=by have:=d.mem (h.ob k a f);have c:=this.le;have C:=this.ge;rw[iC]at c;simp only at c C;omega
theorem Chain.kQ {S:Nat->Prop} {r:List Ob} (h:Chain b l src av aH) (g:fF b 272 l e) (n:Src l src) (q:e<=b.length) (k:Eff S b c) (m:∀o∈l,o∈r) (h1:∀a,S a->a+8<=src\/src+8<=a) (j:∀k x:Nat,av[k]? = some x->∀a,S a->a+8<=x+16\/x+24+8*dn (k:Int)<=a):Chain c r src av aH:=by
  have D:=n.lt g;refine⟨(k.dS Xx h1).trans h.word,fun i a d=>m _ (h.ob i a d),fun i a d=>?_,fun i a p d C=>?_,h.yD,h.lo,h.hi⟩
  · have:=h.le g d
    rw[k.dS Xx fun x f=>by have:=j i a d x f;omega];exact h.next i a d
  have:=h.le g d;rw[k.dS Xx fun x f=>by have:=j i a d x f;omega];exact h.gP i a p d C
theorem Chain.put (h:Chain b l src av aH) (f:fF b 272 l e) (m:Src l src) (s:e<=b.length) {x p:Nat} (n:x<18446744073709551616) (k:av≠[]) (c:av[av.length-1]? = some p) (t:aH.length<kU av.length) :
    Chain (iq b (p+24+8*(aH.length-kU (av.length-1))) x) l src av (aH ++ [x]):=by
  have D:0<av.length:=List.length_pos_iff.2 k;have H:kU av.length=kU (av.length-1)+dn ((av.length-1:Nat):Int):=by rw[show av.length=(av.length-1)+1 by omega];rfl
  have r:=h.lo;have G:=h.le f c;generalize hq:p+24+8*(aH.length-kU (av.length-1))=q;have j:=m.apart f (h.ob _ _ c) rfl;rw[iC]at j;simp only at j;refine⟨?_,h.ob,fun i d a=>?_,fun i d g a C=>?_,h.yD,?_,?_⟩
  · rw[fE Xx];exact h.word
  · have:q+8<=d+16\/d+16+8<=q:=by
      by_cases hi:i=av.length-1
      · subst hi;rw[c]at a;cases a;omega
      · have:=h.apart f a c hi;omega
    rw[fE this];exact h.next i d a
  · rw[rG]
    by_cases hi:i=av.length-1
    · subst hi
      rw[c]at a;cases a
      by_cases hj2:g=aH.length-kU (av.length-1)
      · rw[if_pos Xx,show p+24+8*g=q by omega]
        exact iM Xx n
      rw[if_neg Xx,fE Xx];exact h.gP _ _ g c C
    have o:i<av.length:=(List.getElem?_eq_some_iff.1 a).1;have:=acN (show i<av.length-1 by omega);have:=h.apart f a c hi;rw[if_neg Xx,fE Xx];exact h.gP i d g a C
  · rw[List.length_append];simp only[List.length_singleton];omega
  rw[List.length_append];simp only[List.length_singleton];omega
end
theorem uI {av:List Nat} {p k a:Nat} (h:(av ++ [p])[k]? = some a):(k<av.length/\av[k]? = some a)\/(k=av.length/\a=p):=by
  rcases Nat.lt_or_ge k av.length with hk|hk
  · rw[List.getElem?_append_left hk]at h;exact .inl ⟨hk,h⟩
  have A:=(List.getElem?_eq_some_iff.1 h).1;simp at A;rw[List.getElem?_append_right hk,show k-av.length=0 by omega]at h;exact .inr ⟨by omega,by simpa using h.symm⟩
def MP (r:Nat):List UInt8:=fe {next:=0,aH:=List.replicate r 0}
theorem MQ (r:Nat):MP r=UW 6 (24+8*r) ++ nums (0 :: List.replicate r 0):=by
  unfold MP fe;rw[xX Xx];have:(nums [0] ++ nums (List.replicate r 0)).length=8+8*r:=by simp[eC]
  simp only[this];rw[show(8-(16+(8+8*r))%8)%8=0 by omega,show 16+(8+8*r)=24+8*r by omega];simp[nums]
theorem QA (r:Nat):(MP r).length=24+8*r:=by rw[MQ];simp[jY,eC];omega
theorem aaf {r i:Nat} (h:i<=r):dS (MP r) (16+8*i)=0:=by
  rw[MQ,gO (by rw[jY];omega),jY,show 16+8*i-16=8*i by omega];refine JE (v:=0) ?_ Xy;cases i with
  | zero=>rfl
  | succ i=>simp only[List.getElem?_cons_succ];rw[List.getElem?_replicate,if_pos Xx]
theorem agz (r:Nat):seg (MP r) 0 16=UW 6 (24+8*r):=by rw[MQ];exact lX _ _ (jY _ _).symm
theorem Chain.grow {b:Ly} {l:List Ob} {src:Nat} {av aH:List Nat} (h:Chain b l src av aH) (f:fF b 272 l b.length) (A:Src l src) (hb:b.length<1000000) (N:aH.length=kU av.length) :
    let d:=b ++ MP (dn (av.length:Int))
    let t:=l ++ [(⟨b.length,6,24+8*dn (av.length:Int)⟩:Ob)]
    fF d 272 t d.length/\Chain (iq d (if av.length=0 then src else jc av+16) b.length) t src (av ++ [b.length]) aH:=by
  intro d t;have R:=uy (av.length:Int);have P:d.length=b.length+(24+8*dn (av.length:Int)):=by simp[d,QA]
  have G:Eff (fun _=>False) b d:=Eff.app _ _ _;have K:=f.le;have E:fF d 272 t d.length:=by
    have:=(f.kQ G (Nat.le_refl _) (fun _ _ _ I=>I.elim)).app (o:=⟨b.length,6,24+8*dn (av.length:Int)⟩) rfl Oy Oy Ym Ym ?_
    · rw[iC]at this;rw[P];exact this
    · have s:=iy (x:=b) (y:=MP (dn (av.length:Int))) (p:=b.length) (n:=16) (Nat.le_refl _)
      rw[Nat.sub_self,agz]at s;exact s
  refine⟨E,?_⟩;have B:∀i,i<=dn (av.length:Int)->dS d (b.length+16+8*i)=0:=fun i v=>by have:=gO (x:=b) (y:=MP (dn (av.length:Int))) (p:=b.length+16+8*i) Xx;rw[show b.length+16+8*i-b.length=16+8*i by omega,aaf v]at this;exact this
  have w:=A.lt f;have F:∀q,q+8<=b.length->dS d q=dS b q:=fun q j=>qu j;have L:kU (av.length+1)=kU av.length+dn (av.length:Int):=rfl
  -- the place that leads to the new one
  have j:∃q,(if av.length=0 then src else jc av+16)=q/\q+8<=b.length/\(av=[]/\q=src\/∃p,av[av.length-1]? = some p/\0<av.length/\q=p+16):=by
    by_cases hz:av.length=0
    · exact⟨src,by rw[if_pos hz],w,.inl ⟨List.eq_nil_of_length_eq_zero hz,rfl⟩⟩
    · obtain⟨p,e⟩:∃p,av[av.length-1]? = some p:=⟨_,List.getElem?_eq_getElem Xx⟩
      have:=h.le f e;exact⟨p+16,by rw[if_neg hz,lT e],by omega,.inr ⟨p,e,by omega,rfl⟩⟩
  obtain⟨q,V,M,j⟩:=j;rw[V];have D:∀m,m+8<=b.length->(q+8<=m\/m+8<=q)->dS (iq d q b.length) m=dS b m:=fun m W s=>(fE s).trans (F m W);have C:dS (iq d q b.length) q=b.length:=iM Xx Xx;have H:∀i,i<=dn (av.length:Int)->dS (iq d q b.length) (b.length+16+8*i)=0:=fun i v=>(fE Xx).trans (B i v);refine⟨?_,fun k g a=>?_,fun k g a=>?_,fun k g r a J=>?_,fun k g c a u=>?_,?_,?_⟩
  · rcases j with⟨rfl,rfl⟩|⟨p,e,T,rfl⟩
    · exact C
    have z:=A.apart f (h.ob _ _ e) rfl;rw[iC]at z;simp only at z;rw[D src w Xx,h.word,rG,if_neg Xx]
  · rcases uI a with⟨_,a⟩|⟨rfl,rfl⟩
    · exact List.mem_append_left _ (h.ob k g a)
    exact List.mem_append_right _ Oy
  · rcases uI a with⟨hk,a⟩|⟨rfl,rfl⟩
    · have Q:=h.le f a
      rcases j with⟨rfl,_⟩|⟨p,e,T,rfl⟩
      · simp at hk
      by_cases hk2:k=av.length-1
      · subst hk2;rw[e]at a;cases a
        rw[C,rG,if_pos Xx]
      have:=h.apart f a e hk2;rw[D _ Xx Xx,h.next k g a,rG,if_neg Xx]
    have:=H 0 Xx;rw[Nat.mul_zero,Nat.add_zero]at this;rw[this,rG,if_neg Xx];simp
  · rcases uI a with⟨hk,a⟩|⟨rfl,rfl⟩
    · have Q:=h.le f a
      have:q+8<=g+24+8*r\/g+24+8*r+8<=q:=by
        rcases j with⟨rfl,_⟩|⟨p,e,T,rfl⟩
        · simp at hk
        · by_cases hk2:k=av.length-1
          · subst hk2;rw[e]at a;cases a;omega
          · have:=h.apart f a e hk2;omega
      rw[D _ Xx this];exact h.gP k g r a J
    have:=H (r+1) Xx;rw[show b.length+16+8*(r+1)=b.length+24+8*r by omega]at this;rw[this];symm;simp only[List.getD_eq_getElem?_getD];rw[List.getElem?_eq_none Xx];rfl
  · rcases uI u with⟨hk,u⟩|⟨hk,rfl⟩
    · rcases uI a with⟨_,a⟩|⟨rfl,_⟩
      · exact h.yD k g c a u
      omega
    rcases uI a with⟨_,a⟩|⟨rfl,_⟩
    · have:=h.le f a;omega
    omega
  · simp only[List.length_append,List.length_singleton,Nat.add_sub_cancel];omega
  simp only[List.length_append,List.length_singleton];omega
structure Cn (m:Mk) (l:List Ob):Prop where
  len:19<=m.h.n.length
  n6:m.bR 6=jc (l.map Ob.pos)
  n7:m.bR 7=l.length%18446744073709551616
  n17:m.bR 17=0
  n18:m.bR 18=(l.filter fun o=>decide (o.kind=6)).length%18446744073709551616
  k:∀o∈l,o.kind≠7/\(o.kind=6->∃r,1<=r/\o.size=24+8*r)/\(o.kind=4\/o.kind=5->∃r,1<=r/\o.size=16+16*r)
theorem Cn.to {m m':Mk} {l:List Ob} (h:Cn m l) (b:m'.h.n.length=m.h.n.length) (a:∀i,i=6\/i=7\/i=17\/i=18->m'.bR i=m.bR i):Cn m' l :=
  ⟨by rw[b];exact h.len,(a 6 Xx).trans h.n6,(a 7 Xx).trans h.n7,(a 17 Xx).trans h.n17,(a 18 Xx).trans h.n18,h.k⟩
theorem Cn.same {m m':Mk} {l:List Ob} (h:Cn m l) (e:m'.h=m.h):Cn m' l:=h.to (by rw[e]) fun i _=>by show m'.h.n.getD i 0=_;rw[e];rfl
theorem FD (a:List Nat) (x:Nat):jc (a ++ [x])=x:=lT Oy
theorem BV {m:Mk} {k v:Nat} (h:k<m.h.n.length):(m.cE k v).bR k=v:=mR h
theorem Cn.obj {m:Mk} {l:List Ob} (h:Cn m l) (o:Ly) {k s:Nat} (hk:k<=3):Cn (m.bV o).2 (l ++ [⟨m.b.length,k,s⟩]):=by
  have B:=h.len;refine⟨by simp[Mk.bV,Mk.cE];omega,?_,?_,?_,?_,fun x A=>?_⟩
  · simp only[Mk.bV]
    rw[cL Xx,BV (by show 6<m.h.n.length;omega),List.map_append];exact(FD _ _).symm
  · simp only[Mk.bV]
    rw[BV (by simp[Mk.cE];omega),cL Xx];show(m.bR 7+1)%_=_;rw[h.n7,List.length_append,List.length_singleton];omega
  · simp only[Mk.bV]
    rw[cL Xx,cL Xx];exact h.n17
  · simp only[Mk.bV]
    rw[cL Xx,cL Xx,List.filter_append,List.filter_cons_of_neg Ym,List.filter_nil,List.append_nil];exact h.n18
  rcases List.mem_append.1 A with A|A
  · exact h.k x A
  simp at A;subst A;exact⟨by simp only;omega,fun h=>by simp only at h;omega,fun h=>by simp only at h;omega⟩
theorem Cn.arr {m:Mk} {l:List Ob} (h:Cn m l) (o:Ly) {r:Nat} (c:1<=r):Cn ((m.bV o).2.cE 18 (((m.bV o).2.bR 18+1)%18446744073709551616)) (l ++ [⟨m.b.length,6,24+8*r⟩]):=by
  have C:=h.len;have g:=h.obj o (k:=0) (s:=0) Xx;have d:=g.len;refine⟨by simp[Mk.cE];omega,?_,?_,?_,?_,fun x a=>?_⟩
  · rw[cL Xx,g.n6,List.map_append,List.map_append];rw[List.map_singleton,List.map_singleton,FD]
  · rw[cL Xx,g.n7,List.length_append,List.length_append];rfl
  · rw[cL Xx];exact g.n17
  · rw[BV Xx,g.n18,List.filter_append,List.filter_append,List.filter_cons_of_neg Oy,List.filter_nil,List.append_nil,List.filter_cons_of_pos Oy,List.filter_nil,List.length_append,List.length_singleton];omega
  rcases List.mem_append.1 a with a|a
  · exact h.k x a
  simp at a;subst a;exact⟨by simp,fun _=>⟨r,c,q⟩,fun h=>by simp at h⟩
structure Linked (m m':Mk) (l l':List Ob) (src:Nat) (av av' aH:List Nat) (x:Nat):Prop where
  ea:fF m'.b 272 l' m'.b.length
  sub:l'=l\/l'=l ++ [(⟨m.b.length,6,24+8*dn (av.length:Int)⟩:Ob)]
  arr:av'=av\/av'=av ++ [m.b.length]
  chain:Chain m'.b l' src av' (aH ++ [x])
  kQ:Eff (zS src av') m.b m'.b
  ne:av'≠[]
  top:m'.b.length<=m.b.length+2100
  same:m'.c=m.c/\m'.ai=m.ai/\m'.ak=m.ak/\m'.main=m.main/\m'.depth=m.depth/\∀i,i≠6->i≠7->i≠18->m'.bR i=m.bR i
  cn:Cn m l->Cn m' l'
theorem NP {m:Mk} {l:List Ob} {src x:Nat} {av aH:List Nat} (E:fF m.b 272 l m.b.length) (h:Chain m.b l src av aH) (M:Src l src) (hb:m.b.length<900000) (O:x<18446744073709551616) :
    ∃ag,Linked m (m.link av aH.length src x).2.2 l ag src av (m.link av aH.length src x).1 aH x:=by
  unfold Mk.link;rw[abD];simp only;split
  · rename_i hn
    have g:=h.grow E M Xx hn;simp only at g;obtain⟨V,W⟩:=g;generalize hl1:l ++ [(⟨m.b.length,6,24+8*dn (av.length:Int)⟩:Ob)]=l1 at *;generalize hq:(if av.length=0 then src else jc av+16)=qv at W;have F:(m.bV (fe {next:=0,aH:=List.replicate (dn (av.length:Int)) 0})).2.b=m.b ++ MP (dn (av.length:Int)):=rfl;have B:(m.bV (fe {next:=0,aH:=List.replicate (dn (av.length:Int)) 0})).1=m.b.length:=rfl;have u:=dU m (fe {next:=0,aH:=List.replicate (dn (av.length:Int)) 0});have H:(m.bV (fe {next:=0,aH:=List.replicate (dn (av.length:Int)) 0})).2.depth=m.depth:=rfl;have N:∀i,i≠6->i≠7->(m.bV (fe {next:=0,aH:=List.replicate (dn (av.length:Int)) 0})).2.bR i=m.bR i:=fun i n t=>by simp only[Mk.bV];rw[cL Xx,cL Xx];rfl
    have I:=fun h:Cn m l=>h.arr (fe {next:=0,aH:=List.replicate (dn (av.length:Int)) 0}) (r:=dn (av.length:Int)) (by have:=pW (k:=(av.length:Int)) Xx;omega);rw[hl1]at I;generalize m.bV (fe {next:=0,aH:=List.replicate (dn (av.length:Int)) 0})=r at *;obtain⟨p,a⟩:=r;simp only at F B u H N I ⊢;subst B;have ao:=uy (av.length:Int);have an:=pW (k:=(av.length:Int)) Xx;have aj:a.b.length=m.b.length+(24+8*dn (av.length:Int)):=(by rw[F];simp[QA]);have X:kU (av ++ [m.b.length]).length=kU av.length+dn (av.length:Int):=(by simp[kU]);have Q:Src l1 src:=M.mono fun o j=>by rw[<- hl1];exact List.mem_append_left _ j
    have P:Body l1 qv/\(qv=src\/∃k c:Nat,(av ++ [m.b.length])[k]? = some c/\qv=c+16):=by
      rw[<- hq];split
      · exact⟨Q.body,.inl q⟩
      · rename_i v
        obtain⟨p,G⟩:∃p,av[av.length-1]? = some p:=⟨_,List.getElem?_eq_getElem Xx⟩;rw[lT G];have j:=h.ob _ _ G;refine⟨.inr ⟨⟨p,6,24+8*dn ((av.length-1:Nat):Int)⟩,?_,Nat.le_refl _,?_⟩,.inr ⟨av.length-1,p,by rw[List.getElem?_append_left Xx];exact G,q⟩⟩
        · rw[<- hl1];exact List.mem_append_left _ j
        · rw[iC];simp only;omega
    rw[F.symm]at V W;have S:Eff (fun e=>e=qv) a.b (iq a.b qv m.b.length):=Eff.put _ _ _;have K:fF (iq a.b qv m.b.length) 272 l1 (iq a.b qv m.b.length).length:=(by rw[eP];exact V.kQ S (Nat.le_refl _) fun o j e C=>by subst C;exact V.body P.1 j);have D:(av ++ [m.b.length])[(av ++ [m.b.length]).length-1]? = some m.b.length:=(by simp);have A:=W.put (x:=x) (p:=m.b.length) K Q (Nat.le_refl _) O Oy D (by rw[X];omega);have U:aH.length-kU ((av ++ [m.b.length]).length-1)=0:=(by simp;omega);rw[U]at A;have s:Eff (fun e=>e=m.b.length+24+8*0) (iq a.b qv m.b.length) (iq (iq a.b qv m.b.length) (m.b.length+24+8*0) x):=Eff.put _ _ _;have f:fF (iq (iq a.b qv m.b.length) (m.b.length+24+8*0) x) 272 l1 (iq (iq a.b qv m.b.length) (m.b.length+24+8*0) x).length:=by
      rw[eP];refine K.kQ s (Nat.le_refl _) fun o j e C=>?_;subst C;refine K.body (.inr ⟨⟨m.b.length,6,24+8*dn (av.length:Int)⟩,?_,?_,?_⟩) j
      · rw[<- hl1];simp
      · simp only;omega
      · rw[iC];simp only;omega
    have R:∀d:Mk,d=(if av.length=0 then(a.cE 18 ((a.bR 18+1)%18446744073709551616)).put src m.b.length else(a.cE 18 ((a.bR 18+1)%18446744073709551616)).put (jc av+16) m.b.length)->d.b=iq a.b qv m.b.length/\d.c=a.c/\d.ai=a.ai/\d.ak=a.ak/\d.main=a.main/\d.depth=a.depth/\d.h=(a.cE 18 ((a.bR 18+1)%18446744073709551616)).h/\∀i,i≠18->d.bR i=a.bR i:=by
      intro d z;subst z;rw[<- hq];split
      · exact⟨q,q,q,q,q,q,q,fun i hi=>cL (m:=a) Xx⟩
      · exact⟨q,q,q,q,q,q,q,fun i hi=>cL (m:=a) Xx⟩
    have L:=R _ q;clear R;generalize (if av.length=0 then(a.cE 18 ((a.bR 18+1)%18446744073709551616)).put src m.b.length else(a.cE 18 ((a.bR 18+1)%18446744073709551616)).put (jc av+16) m.b.length)=d at *;obtain⟨T,L,aa,ab,ad,ae,Z,af⟩:=L;rw[lT D,show aH.length-kU av.length=0 by omega];rw[<- T]at f A s;have ml:(d.put (m.b.length+24+8*0) x).b=iq d.b (m.b.length+24+8*0) x:=rfl;refine⟨l1,⟨by rw[ml];exact f,.inr hl1.symm,.inr q,by rw[ml];exact A,?_,by simp,?_,⟨L.trans u.1,aa.trans u.2.1,ab.trans u.2.2.1,ad.trans u.2.2.2,ae.trans H,fun i n t y=>(af i y).trans (N i n t)⟩,fun h=>(I h).same Z⟩⟩
    · rw[ml,T]
      have ah:Eff (zS src (av ++ [m.b.length])) m.b a.b:=(by rw[F];exact Eff.app _ _ _);refine ah.trans ((S.mono fun e C=>?_).trans ((T ▸ s).mono fun e C=>?_))
      · subst C
        rcases P.2 with h|⟨k,c,B,w⟩
        · exact .inl h
        exact .inr ⟨k,c,B,by omega,by omega⟩
      subst C;exact .inr ⟨av.length,m.b.length,by simp,by omega,by omega⟩
    rw[ml,eP,T,eP];omega
  rename_i hn;have am:=h.lo;have Y:=h.hi;have J:av≠[]:=by rintro rfl;have B:aH.length<=0:=Y;have w:¬aH.length=0:=hn;omega
  have v:=List.length_pos_iff.2 J;obtain⟨p,G⟩:∃p,av[av.length-1]? = some p:=⟨_,List.getElem?_eq_getElem Xx⟩;rw[lT G];have A:=h.put E M (Nat.le_refl _) O J G Xx;have al:=h.le E G;have ap:kU av.length=kU (av.length-1)+dn ((av.length-1:Nat):Int):=by have:av.length=(av.length-1)+1:=(by omega);rw[this];rfl
  generalize hq:p+24+8*(aH.length-kU (av.length-1))=qv at *;have s:Eff (fun e=>e=qv) m.b (iq m.b qv x):=Eff.put _ _ _;refine⟨l,⟨?_,.inl q,.inl q,A,s.mono fun e C=>?_,J,?_,⟨q,q,q,q,q,fun _ _ _ _=>rfl⟩,fun h=>h.same q⟩⟩
  · show fF (iq m.b qv x) 272 l (iq m.b qv x).length
    rw[eP];refine E.kQ s (Nat.le_refl _) fun o j e C=>?_;subst C;refine E.body (.inr ⟨_,h.ob _ _ G,?_,?_⟩) j
    · simp only;omega
    rw[iC];simp only;omega
  · subst C
    exact .inr ⟨av.length-1,p,G,by omega,by omega⟩
  show(iq m.b qv x).length<=_;rw[eP];omega
def td (l:List Ob) (a:Nat):Prop:=∀o∈l,(a+8<=o.pos\/o.pos+16<=a) /\
  (o.kind=1->a+8<=o.pos+16\/o.pos+24<=a/\a+8<=o.pos+64\/o.pos+oS o.size<=a) /\
  (o.kind=2->a+8<=o.pos+16\/o.pos+24<=a/\a+8<=o.pos+40\/o.pos+oS o.size<=a) /\
  (o.kind=3->a+8<=o.pos\/o.pos+oS o.size<=a)
theorem BU {b:Ly} {l:List Ob} {e a:Nat} (d:fF b 272 l e) {x:Ob} (j:x∈l) (h1:x.pos+16<=a) (k:a+8<=x.pos+oS x.size) (f:x.kind≠3) (g:x.kind=1->x.pos+24<=a/\a+8<=x.pos+64) (i:x.kind=2->x.pos+24<=a/\a+8<=x.pos+40):td l a:=by
  intro o c;have:=dI o.size;have:=dI x.size;have:=(d.mem c).size.1
  rcases d.sep c j with rfl|B|B
  · refine⟨by omega,fun h=>.inr (.inl (g h)),fun h=>.inr (.inl (i h)),fun h=>absurd h f⟩
  · exact⟨by omega,fun _=>by omega,fun _=>by omega,fun _=>by omega⟩
  exact⟨by omega,fun _=>by omega,fun _=>by omega,fun _=>by omega⟩
theorem KP {b:Ly} {l:List Ob} {e a:Nat} (c:fF b 272 l e) (h:a+8<=272):td l a:=fun o d=>by have:=(c.mem d).ge;exact⟨by omega,fun _=>by omega,fun _=>by omega,fun _=>by omega⟩
theorem td.mono {l r:List Ob} {a:Nat} (h:td r a) (c:∀o∈l,o∈r):td l a:=fun o b=>h o (c o b)
def pn (l:List Ob) (a:Nat):Prop:=∃o∈l,((o.kind=4\/o.kind=5)/\o.pos+16<=a/\a+8<=o.pos+oS o.size)\/(((o.kind=1/\64<=o.size)\/(o.kind=2/\40<=o.size))/\(a=o.pos+24\/a=o.pos+32))
theorem pn.mono {l r:List Ob} {a:Nat} (h:pn l a) (c:∀o∈l,o∈r):pn r a:=by obtain⟨o,b,h⟩:=h;exact⟨o,c o b,h⟩
theorem pn.aeg {b:Ly} {l:List Ob} {e a:Nat} (h:pn l a) (f:fF b 272 l e):td l a:=by
  obtain⟨o,d,⟨C,c,D⟩|⟨C,c⟩⟩:=h
  · exact BU f d c D Xx Xx Xx
  have:=dI o.size;exact BU f d Xx Xx Xx Xx Xx
theorem pn.at {b:Ly} {l:List Ob} {e a:Nat} (h:pn l a) (d:fF b 272 l e):272<=a/\a+8<=e/\∀o∈l,(o.kind=1->a+8<=o.pos+40\/o.pos+oS o.size<=a)/\(o.kind=6->a+8<=o.pos\/o.pos+oS o.size<=a):=by
  obtain⟨x,D,h⟩:=h;have C:=d.mem D;have hk:=C.le;have G:=C.ge;have g:=dI x.size;have c:x.pos+16<=a/\a+8<=x.pos+oS x.size/\x.kind≠6/\(x.kind=1->a+8<=x.pos+40):=by
    rcases h with⟨E,A,F⟩|⟨E,A⟩
    · exact⟨A,F,by omega,by omega⟩
    · exact⟨by omega,by omega,by omega,by omega⟩
  refine⟨by omega,by omega,fun o f=>?_⟩;have:=dI o.size
  rcases d.sep f D with rfl|H|H
  · exact⟨fun h=>.inl (c.2.2.2 h),fun h=>absurd h c.2.2.1⟩
  · exact⟨fun _=>by omega,fun _=>by omega⟩
  exact⟨fun _=>by omega,fun _=>by omega⟩
def cH (m:Mk) (s:Ly):Nat:=cQ m.c.cB m.c.bZ s
structure tr (b:Ly) (l:List Ob) (h:Nat) (k:aP):Prop where
  ob:(⟨k.pos,1,64+k.bQ.length⟩:Ob)∈l
  bY:dS b (k.pos+16)=h
  bQ:seg b (k.pos+64) k.bQ.length=k.bQ
structure JA (b:Ly) (l:List Ob) (h:Nat) (k:aP):Prop where
  ob:(⟨k.pos,2,40+k.bQ.length⟩:Ob)∈l
  bY:dS b (k.pos+16)=h
  bQ:seg b (k.pos+40) k.bQ.length=k.bQ
theorem tr.kQ {b c:Ly} {l r:List Ob} {n:Nat} {k:aP} {S:Nat->Prop} (h:tr b l n k) (i:fF b 272 l b.length) (f:Eff S b c) (g:∀a,S a->td l a) (j:∀o∈l,o∈r):tr c r n k:=by
  have e:=(i.mem h.ob).le;have C:=dI (64+k.bQ.length);refine⟨j _ h.ob,(f.dS (by simp only at e;omega) fun a d=>?_).trans h.bY,(f.seg _ _ (by simp only at e;omega) fun a d=>?_).trans h.bQ⟩
  · have:=(g a d _ h.ob).2.1 rfl;simp only at this;omega
  have:=(g a d _ h.ob).2.1 rfl;simp only at this;omega
theorem JA.kQ {b c:Ly} {l r:List Ob} {n:Nat} {k:aP} {S:Nat->Prop} (h:JA b l n k) (i:fF b 272 l b.length) (f:Eff S b c) (g:∀a,S a->td l a) (j:∀o∈l,o∈r):JA c r n k:=by
  have e:=(i.mem h.ob).le;have C:=dI (40+k.bQ.length);refine⟨j _ h.ob,(f.dS (by simp only at e;omega) fun a d=>?_).trans h.bY,(f.seg _ _ (by simp only at e;omega) fun a d=>?_).trans h.bQ⟩
  · have:=(g a d _ h.ob).2.2.1 rfl;simp only at this;omega
  have:=(g a d _ h.ob).2.2.1 rfl;simp only at this;omega
structure Stat (m:Mk) (l:List Ob):Prop where
  ea:fF m.b 272 l m.b.length
  BH:(⟨272,4,16+16*m.c.ay⟩:Ob)∈l
  PE:(⟨288+16*m.c.ay,5,16+16*m.c.aC⟩:Ob)∈l
  n2:m.bR 2=288
  n4:m.bR 4=304+16*m.c.ay
  slots:1<=m.c.ay/\1<=m.c.aC
  data:∀k∈m.ai,tr m.b l (cH m k.bQ) k
  fld:∀k∈m.ak,JA m.b l (cH m k.bQ) k
  one:∀i j:Nat,∀k k':aP,m.ai[i]? = some k->m.ai[j]? = some k'->k.pos=k'.pos\/k.bQ=k'.bQ->i=j
  all:∀o∈l,o.kind=1->∃k∈m.ai,k.pos=o.pos
  agx:∀o∈l,o.kind=2->∃k∈m.ak,k.pos=o.pos
  cn:Cn m l
structure dQ (m m':Mk) (l l':List Ob):Prop where
  ea:fF m'.b 272 l' m'.b.length
  sub:∃t,l'=l ++ t/\∀o∈t,(o.kind=1\/o.kind=2)/\m.b.length<=o.pos
  kQ:Eff (pn l') m.b m'.b
  same:m'.c=m.c/\m'.main=m.main/\∀i,i≠6->i≠7->i<15->m'.bR i=m.bR i
  cn:Cn m l->Cn m' l'
theorem dQ.mem {m m':Mk} {l a:List Ob} (h:dQ m m' l a):∀o∈l,o∈a:=by obtain⟨t,c,_⟩:=h.sub;intro o b;rw[c];exact List.mem_append_left _ b
theorem dQ.refl {m:Mk} {l:List Ob} (h:fF m.b 272 l m.b.length):dQ m m l l:=⟨h,⟨[],by simp,by simp⟩,Eff.refl _ _,⟨q,q,fun _ _ _ _=>rfl⟩,id⟩
theorem dQ.trans {m m' m'':Mk} {l d e:List Ob} (h:dQ m m' l d) (k:dQ m' m'' d e):dQ m m'' l e:=by
  obtain⟨t,n,j⟩:=h.sub;obtain⟨p,f,G⟩:=k.sub;have H:=h.kQ.len;refine⟨k.ea,⟨t ++ p,by rw[f,n,List.append_assoc],fun o a=>?_⟩,(h.kQ.mono fun q g=>g.mono k.mem).trans k.kQ,⟨k.same.1.trans h.same.1,k.same.2.1.trans h.same.2.1,fun i b C D=>(k.same.2.2 i b C D).trans (h.same.2.2 i b C D)⟩,fun c=>k.cn (h.cn c)⟩
  rcases List.mem_append.1 a with a|a
  · exact j o a
  have:=G o a;exact⟨this.1,by omega⟩
theorem dQ.to {m m' m'':Mk} {l d:List Ob} (h:dQ m m' l d) (hb:m''.b=m'.b) (j:m''.c=m'.c) (o:m''.main=m'.main) (a:∀i,i≠15->i≠16->i≠19->m''.bR i=m'.bR i) (k:m''.h.n.length=m'.h.n.length):dQ m m'' l d :=
  ⟨by rw[hb];exact h.ea,h.sub,by rw[hb];exact h.kQ,⟨j.trans h.same.1,o.trans h.same.2.1,fun i e f g=>(a i Xx Xx Xx).trans (h.same.2.2 i e f g)⟩,fun c=>(h.cn c).to k fun i hi=>a i Xx Xx Xx⟩
theorem dQ.put {m:Mk} {l:List Ob} {a:Nat} (v:Nat) (e:fF m.b 272 l m.b.length) (f:pn l a):dQ m (m.put a v) l l:=by have g:=f.aeg e;refine⟨?_,⟨[],by simp,by simp⟩,(Eff.put m.b a v).mono fun x d=>d ▸ f,⟨q,q,fun _ _ _ _=>rfl⟩,fun c=>c.same q⟩;show fF (iq m.b a v) 272 l (iq m.b a v).length;rw[eP];exact e.kQ (Eff.put m.b a v) (Nat.le_refl _) fun o C x d=>by subst d;exact(g o C).1
theorem adF {o h r:Ly} (e:o=(h ++ r)) (a:h.length=16):seg o 0 16=h:=by subst e;exact lX _ _ a.symm
theorem dQ.obj {m:Mk} {l:List Ob} {o r:Ly} {k s:Nat} (g:fF m.b 272 l m.b.length) (hk:k=1\/k=2) (h:o=UW k s ++ r) (j:o.length=oS s) (f:16<=s) (u:s<1000000):dQ m (m.bV o).2 l (l ++ [⟨m.b.length,k,s⟩]):=by
  have d:(m.bV o).2.b=m.b ++ o:=rfl;refine⟨?_,⟨_,q,fun x C=>?_⟩,by rw[d];exact Eff.app _ _ _,⟨q,q,fun i t a G=>?_⟩,fun c=>c.obj o Xx⟩
  · have D:=(g.kQ (Eff.app (fun _=>False) m.b o) (Nat.le_refl _) (fun _ _ _ e=>e.elim)).app (o:=⟨m.b.length,k,s⟩) q Zx Zx f Zx ?_
    · rw[d,List.length_append,j];exact D
    have a:=iy (x:=m.b) (y:=o) (p:=m.b.length) (n:=16) (Nat.le_refl _);rw[Nat.sub_self,adF h (jY _ _)]at a;exact a
  · simp at C;subst C;exact⟨hk,Nat.le_refl _⟩
  simp only[Mk.bV];rw[cL Xx,cL Xx];rfl
theorem yX {bX:Nat}:∀(l:List aP) (n q:Nat),(nC bX l n q).1=n/\(nC bX l n q).2=q\/n<(nC bX l n q).1/\∃k∈l,(nC bX l n q).2=k.pos
  | [],_,_=>.inl ⟨rfl,rfl⟩
  | k :: r,n,q=>by
    simp only[nC];split
    · rcases yX (bX:=bX) r (n+1) k.pos with⟨h1,h2⟩|⟨h1,y,hy,h2⟩
      · exact .inr ⟨by omega,k,by simp,h2⟩
      · exact .inr ⟨by omega,y,by simp[hy],h2⟩
    · rcases yX (bX:=bX) r n q with h|⟨h1,y,hy,h2⟩
      · exact .inl h
      · exact .inr ⟨h1,y,by simp[hy],h2⟩
theorem dQ.hang {m:Mk} {l:List Ob} {ks:List aP} {table p bX:Nat} (d:fF m.b 272 l m.b.length) (c:pn l (table+16*bX)/\pn l (table+16*bX+8)) (hk:∀k∈ks,pn l (k.pos+24)):dQ m (m.hang ks table p bX).2 l l:=by
  unfold Mk.hang;have C:=yX (bX:=bX) ks 0 0;generalize nC bX ks 0 0=r at *;obtain⟨n,q⟩:=r;simp only at C ⊢;split
  · have a:=dQ.put (m:=m) p d c.1
    exact a.trans (dQ.put (m:=m.put (table+16*bX) p) p a.ea c.2)
  rename_i hn;have e:pn l (q+24):=by
    rcases C with⟨a,_⟩|⟨_,k,B,D⟩
    · omega
    · rw[D];exact hk k B
  have a:=dQ.put (m:=m) p d e;exact a.trans (dQ.put (m:=m.put (q+24) p) p a.ea c.2)
theorem qw (b o:Ly) (q:Nat):dS (b ++ o) (b.length+q)=dS o q:=by rw[gO Xx,Nat.add_sub_cancel_left]
theorem TU (b o:Ly) (q n:Nat):seg (b ++ o) (b.length+q) n=seg o q n:=by rw[iy Xx,Nat.add_sub_cancel_left]
theorem aep {k:Nat} (hk:1<=k/\k<=7) (ns:List Nat) (t:Ly) (b:∀v∈ns,v<18446744073709551616) :
    (∃r,qn k (nums ns ++ t)=UW k (16+8*ns.length+t.length) ++ r)/\(qn k (nums ns ++ t)).length=oS (16+8*ns.length+t.length) /\
    (∀i v:Nat,ns[i]? = some v->dS (qn k (nums ns ++ t)) (16+8*i)=v)/\seg (qn k (nums ns ++ t)) (16+8*ns.length) t.length=t:=by
  have a:(nums ns ++ t).length=8*ns.length+t.length:=by simp[eC]
  rw[xX hk,a,show 16+(8*ns.length+t.length)=16+8*ns.length+t.length by omega];refine⟨⟨_,List.append_assoc _ _ _⟩,?_,fun i v h=>?_,?_⟩
  · rw[List.length_append,List.length_append,jY,a,List.length_replicate];unfold oS;omega
  · rw[List.append_assoc,gO (by rw[jY];omega),jY,Nat.add_sub_cancel_left,List.append_assoc]
    exact lQ h (b v (List.mem_of_getElem? h))
  rw[List.append_assoc,iy (by rw[jY];omega),jY,show 16+8*ns.length-16=8*ns.length by omega,List.append_assoc,iy (by rw[eC];omega),eC,Nat.sub_self];exact lX _ _ q
theorem tL (m:Mk) (s:Ly):cH m s<18446744073709551616:=ES _ _ _
theorem Stat.step {m m':Mk} {l a:List Ob} (h:Stat m l) (s:dQ m m' l a) (hd:∀k∈m'.ai,k∈m.ai\/tr m'.b a (cH m k.bQ) k) (p:∀k∈m'.ak,k∈m.ak\/JA m'.b a (cH m k.bQ) k)
    (h1:∀i j:Nat,∀k f:aP,m'.ai[i]? = some k->m'.ai[j]? = some f->k.pos=f.pos\/k.bQ=f.bQ->i=j) (h2:∀o∈a,o.kind=1->∃k∈m'.ai,k.pos=o.pos) (h3:∀o∈a,o.kind=2->∃k∈m'.ak,k.pos=o.pos):Stat m' a:=by
  have d:=s.mem;have D:∀e,pn a e->td l e:=fun e n=>(n.aeg s.ea).mono d;obtain⟨c,G,C⟩:=s.same;have g:∀t,cH m' t=cH m t:=fun t=>by unfold cH;rw[c]
  refine⟨s.ea,by rw[c];exact d _ h.BH,by rw[c];exact d _ h.PE,(C 2 Xy Xy Xy).trans h.n2,by rw[c];exact(C 4 Xy Xy Xy).trans h.n4,by rw[c];exact h.slots,fun k hk=>?_,fun k hk=>?_,h1,h2,h3,s.cn h.cn⟩
  · rw[g]
    rcases hd k hk with hk|hk
    · exact(h.data k hk).kQ h.ea s.kQ D d
    exact hk
  rw[g]
  rcases p k hk with hk|hk
  · exact(h.fld k hk).kQ h.ea s.kQ D d
  exact hk
theorem Stat.soft {m m':Mk} {l a:List Ob} (h:Stat m l) (s:dQ m m' l a) (hd:m'.ai=m.ai) (b:m'.ak=m.ak) (c:a=l):Stat m' a :=
  h.step s (fun k hk=>.inl (hd ▸ hk)) (fun k hk=>.inl (b ▸ hk)) (by rw[hd];exact h.one) (by rw[hd,c];exact h.all) (by rw[b,c];exact h.agx)
theorem am4 {m:Mk} {l:List Ob} (h:Stat m l) {s:Nat} (a:s<m.c.ay):pn l (m.bR 2+16*s)/\pn l (m.bR 2+16*s+8):=by have:=dI (16+16*m.c.ay);rw[h.n2];exact⟨⟨_,h.BH,.inl ⟨.inl q,by simp only;omega,by simp only;omega⟩⟩,⟨_,h.BH,.inl ⟨.inl q,by simp only;omega,by simp only;omega⟩⟩⟩
theorem am5 {m:Mk} {l:List Ob} (h:Stat m l) {s:Nat} (a:s<m.c.aC):pn l (m.bR 4+16*s)/\pn l (m.bR 4+16*s+8):=by have:=dI (16+16*m.c.aC);rw[h.n4];exact⟨⟨_,h.PE,.inl ⟨.inr q,by simp only;omega,by simp only;omega⟩⟩,⟨_,h.PE,.inl ⟨.inr q,by simp only;omega,by simp only;omega⟩⟩⟩
theorem adn {m:Mk} {l:List Ob} (h:Stat m l) (name:Ly) (ag:name.length<=1000) :
    ∃j,dQ m (m.field name).2 l j/\Stat (m.field name).2 j/\(∃k∈(m.field name).2.ak,k.pos=(m.field name).1)/\(m.field name).2.ai=m.ai:=by
  unfold Mk.field;cases hk:oM name m.ak with
  | some p =>
    obtain⟨k,Q,R,_⟩:=yS hk;exact⟨l,dQ.refl h.ea,h,⟨k,Q,R⟩,q⟩
  | none =>
    simp only;generalize hF:gu {bY:=cQ m.c.cB m.c.bZ name,b9:=0,dat:=0,au:=name}=o;have L:o=qn 2 (nums [cH m name,0,0] ++ name):=hF.symm;obtain⟨⟨r,B⟩,E,K,F⟩:=aep (k:=2) Xy [cH m name,0,0] name (by have:=tL m name;intro v g;simp at g;omega);rw[<- L]at B E K F;simp only[List.length_cons,List.length_nil,Nat.zero_add,Nat.reduceAdd,Nat.reduceMul]at B E F;have G:=dQ.obj (m:=m) (o:=o) h.ea (.inr q) B E Xx Xx;have P:(m.bV o).2.b=m.b ++ o:=rfl;have V:(m.bV o).1=m.b.length:=rfl;have H:=dU m o;have W:(m.bV o).2.bR 4=m.bR 4:=(by simp only[Mk.bV];rw[cL Xx,cL Xx];rfl);generalize m.bV o=z at *;obtain⟨p,a⟩:=z;simp only at G P V H W ⊢;subst V;have f:cQ m.c.cB m.c.bZ name%a.c.aC<m.c.aC:=(by rw[H.1];exact Nat.mod_lt _ (by have:=h.slots;omega));have I:=am5 h f;rw[<- W]at I;have s:=dQ.hang (m:=a) (p:=m.b.length) (ks:=a.ak) G.ea ⟨I.1.mono G.mem,I.2.mono G.mem⟩ (fun k hk=>by
      rw[H.2.2.1]at hk;have:=(h.fld k hk).ob;exact⟨_,G.mem _ this,.inr ⟨.inr ⟨q,by simp only;omega⟩,.inl q⟩⟩)
    have J:=gV a a.ak (a.bR 4) m.b.length (cQ m.c.cB m.c.bZ name%a.c.aC);generalize a.hang a.ak (a.bR 4) m.b.length (cQ m.c.cB m.c.bZ name%a.c.aC)=z at *;obtain⟨n,d⟩:=z;simp only at s J ⊢;obtain⟨aa,S,T,ab,ad,ae⟩:=J;have M:=G.trans s;obtain⟨e,C⟩:∃e,e=({({d with depth:=max a.depth n}:Mk).cE 16 ((({d with depth:=max a.depth n}:Mk).bR 16+1)%18446744073709551616)with ak:=(({d with depth:=max a.depth n}:Mk).cE 16 ((({d with depth:=max a.depth n}:Mk).bR 16+1)%18446744073709551616)).ak ++ [({bQ:=name,pos:=m.b.length,bX:=cQ m.c.cB m.c.bZ name%a.c.aC,bB:=0,aT:=[]}:aP)]}:Mk):=⟨_,q⟩;show ∃j,dQ m ({({d with depth:=max a.depth n}:Mk).cE 16 ((({d with depth:=max a.depth n}:Mk).bR 16+1)%18446744073709551616)with ak:=(({d with depth:=max a.depth n}:Mk).cE 16 ((({d with depth:=max a.depth n}:Mk).bR 16+1)%18446744073709551616)).ak ++ [({bQ:=name,pos:=m.b.length,bX:=cQ m.c.cB m.c.bZ name%a.c.aC,bB:=0,aT:=[]}:aP)]}:Mk) l j/\Stat ({({d with depth:=max a.depth n}:Mk).cE 16 ((({d with depth:=max a.depth n}:Mk).bR 16+1)%18446744073709551616)with ak:=(({d with depth:=max a.depth n}:Mk).cE 16 ((({d with depth:=max a.depth n}:Mk).bR 16+1)%18446744073709551616)).ak ++ [({bQ:=name,pos:=m.b.length,bX:=cQ m.c.cB m.c.bZ name%a.c.aC,bB:=0,aT:=[]}:aP)]}:Mk) j/\(∃k∈({({d with depth:=max a.depth n}:Mk).cE 16 ((({d with depth:=max a.depth n}:Mk).bR 16+1)%18446744073709551616)with ak:=(({d with depth:=max a.depth n}:Mk).cE 16 ((({d with depth:=max a.depth n}:Mk).bR 16+1)%18446744073709551616)).ak ++ [({bQ:=name,pos:=m.b.length,bX:=cQ m.c.cB m.c.bZ name%a.c.aC,bB:=0,aT:=[]}:aP)]}:Mk).ak,k.pos=m.b.length)/\({({d with depth:=max a.depth n}:Mk).cE 16 ((({d with depth:=max a.depth n}:Mk).bR 16+1)%18446744073709551616)with ak:=(({d with depth:=max a.depth n}:Mk).cE 16 ((({d with depth:=max a.depth n}:Mk).bR 16+1)%18446744073709551616)).ak ++ [({bQ:=name,pos:=m.b.length,bX:=cQ m.c.cB m.c.bZ name%a.c.aC,bB:=0,aT:=[]}:aP)]}:Mk).ai=m.ai;rw[<- C];have A:e.b=d.b/\e.c=d.c/\e.main=d.main/\e.ai=d.ai/\e.ak=d.ak ++ [({bQ:=name,pos:=m.b.length,bX:=cQ m.c.cB m.c.bZ name%a.c.aC,bB:=0,aT:=[]}:aP)]:=(by subst C;exact⟨q,q,q,q,q⟩);have S4:=M.to (m'':=e) A.1 A.2.1 A.2.2.1 (fun i _ _ af=>by
      subst C;exact(cL (m:={d with depth:=max a.depth n}) Xx)) (by subst C;simp[Mk.cE])
    clear C;obtain⟨N,w,y,O,u⟩:=A;have D:e.ai=m.ai:=(by rw[O,S,H.2.1]);refine⟨_,S4,h.step S4 (fun k hk=>.inl (D ▸ hk)) (fun k hk=>?_) (by rw[D];exact h.one) (fun x C hk=>?_) (fun x C hk=>?_),?_,D⟩
    · rw[u,T,H.2.2.1,List.mem_append,List.mem_singleton]at hk
      rcases hk with hk|rfl
      · exact .inl hk
      · right
        have X:JA a.b (l ++ [⟨m.b.length,2,40+name.length⟩]) (cH m name) ({bQ:=name,pos:=m.b.length,bX:=cQ m.c.cB m.c.bZ name%a.c.aC,bB:=0,aT:=[]}:aP):=by
          refine⟨by simp,?_,?_⟩
          · rw[P,qw];exact K 0 _ q
          · rw[P,TU];exact F
        rw[N];exact X.kQ G.ea s.kQ (fun Z U=>U.aeg s.ea) fun _ h=>h
    · rcases List.mem_append.1 C with C|C
      · rw[D];exact h.all x C hk
      · simp at C;subst C;simp at hk
    · rcases List.mem_append.1 C with C|C
      · obtain⟨k,t,Y⟩:=h.agx x C hk
        exact⟨k,by rw[u,T,H.2.2.1];exact List.mem_append_left _ t,Y⟩
      · simp at C;subst C
        exact⟨_,by rw[u];exact List.mem_append_right _ (List.mem_singleton.2 q),q⟩
    · exact⟨({bQ:=name,pos:=m.b.length,bX:=cQ m.c.cB m.c.bZ name%a.c.aC,bB:=0,aT:=[]}:aP),by rw[u];simp,q⟩
theorem yQ:∀{s:Ly} {l:List aP} {j i:Nat},mQ s l j=some i->∃k,l[i-j]? = some k/\k.bQ=s/\j<=i
  | s,[],j,i,h=>by simp[mQ]at h
  | s,x :: l,j,i,h=>by
    simp only[mQ]at h;split at h
    · rename_i hx;simp at h;subst h;exact⟨x,by simp,hx,Nat.le_refl _⟩
    · obtain⟨k,a,b,c⟩:=yQ h
      exact⟨k,by rw[show i-j=(i-(j+1))+1 by omega];simpa using a,b,by omega⟩
theorem wi:∀{s:Ly} {l:List aP} {j:Nat},mQ s l j=none->∀k∈l,k.bQ≠s
  | s,[],j,_,k,hk=>by simp at hk
  | s,x :: l,j,h,k,hk=>by
    simp only[mQ]at h;split at h
    · cases h
    · rename_i hx
      rcases List.mem_cons.1 hk with rfl|hk
      · exact hx
      · exact wi h k hk
structure zR (b:Ly) (p:Nat):Prop where
  ent:dS b (p+40)=0
  arr:dS b (p+48)=0
  cnt:dS b (p+56)=0
theorem zR.kQ {b c:Ly} {l d:List Ob} {p s:Nat} (h:zR b p) (e:(⟨p,1,s⟩:Ob)∈l) (t:64<=s) (g:fF b 272 l b.length) (i:fF c 272 d c.length) (k:∀o∈l,o∈d) (j:Eff (pn d) b c):zR c p:=by
  have f:=(g.mem e).le;have m:=dI s;simp only at f;have a:∀q,40<=q->q<=56->dS c (p+q)=dS b (p+q):=fun q n D=>j.dS Xx fun r C=>by have:=((C.at i).2.2 _ (k _ e)).1 rfl;simp only at this;omega
  exact⟨(a 40 Xx Xx).trans h.ent,(a 48 Xx Xx).trans h.arr,(a 56 Xx Xx).trans h.cnt⟩
structure CP (m m':Mk) (l l':List Ob) (i:Nat) (t:Ly):Prop where
  step:dQ m m' l l'
  eD:Stat m' l'
  got:∃k,m'.ai[i]? = some k/\k.bQ=t
  new:m'.ai=m.ai\/∃s p,m'.ai=m.ai ++ [({bQ:=t,pos:=p,bX:=s,bB:=0,aT:=[]}:aP)]/\zR m'.b p/\m.b.length<=p
theorem MY {m:Mk} {l:List Ob} (h:Stat m l) (x:Pr) (aR:x.name.length<=64/\x.value.length<=256):∃aF,CP m (m.data x).2 l aF (m.data x).1 (au x):=by
  unfold Mk.data;cases hk:mQ (au x) m.ai 0 with
  | some i =>
    obtain⟨k,A,j,_⟩:=yQ hk;exact⟨l,dQ.refl h.ea,h,⟨k,by simpa using A,j⟩,.inl q⟩
  | none =>
    simp only;have ap:=wi hk;have aH:=ic x;generalize hF:iw {bY:=cQ m.c.cB m.c.bZ (au x),b9:=0,d9:=0,entry:=0,array:=0,bB:=0,au:=au x}=o;have an:o=qn 1 (nums [cH m (au x),0,0,0,0,0] ++ au x):=hF.symm;obtain⟨⟨r,f1⟩,L,E,M⟩:=aep (k:=1) Xy [cH m (au x),0,0,0,0,0] (au x) (by have:=tL m (au x);intro v aD;simp at aD;omega);rw[<- an]at f1 L E M;simp only[List.length_cons,List.length_nil,Nat.zero_add,Nat.reduceAdd,Nat.reduceMul]at f1 L M;have s:=dQ.obj (m:=m) (o:=o) h.ea (.inl q) f1 L Xx Xx;have Q:(m.bV o).2.b=m.b ++ o:=rfl;have af:(m.bV o).1=m.b.length:=rfl;have T:=dU m o;have ag:(m.bV o).2.bR 2=m.bR 2:=(by simp only[Mk.bV];rw[cL Xx,cL Xx];rfl);generalize m.bV o=z at *;obtain⟨p,d⟩:=z;simp only at s Q af T ag ⊢;subst af;have aC:cQ m.c.cB m.c.bZ (au x)%d.c.ay<m.c.ay:=(by rw[T.1];exact Nat.mod_lt _ (by have:=h.slots;omega));have S:=am4 h aC;rw[<- ag]at S;have u:=dQ.hang (m:=d) (p:=m.b.length) (ks:=d.ai) s.ea ⟨S.1.mono s.mem,S.2.mono s.mem⟩ (fun k hk=>by
      rw[T.2.1]at hk;have:=(h.data k hk).ob;exact⟨_,s.mem _ this,.inr ⟨.inl ⟨q,by simp only;omega⟩,.inl q⟩⟩)
    have G:=gV d d.ai (d.bR 2) m.b.length (cQ m.c.cB m.c.bZ (au x)%d.c.ay);generalize hsl:cQ m.c.cB m.c.bZ (au x)%d.c.ay=bX at *;generalize d.hang d.ai (d.bR 2) m.b.length bX=z at *;obtain⟨n,a⟩:=z;simp only at u G ⊢;obtain⟨aL,az,aA,aM,aN,aO⟩:=G;have ax:=s.trans u;generalize hx5:({(a.cE 19 (max (a.bR 19) n)).cE 15 (((a.cE 19 (max (a.bR 19) n)).bR 15+1)%18446744073709551616)with ai:=((a.cE 19 (max (a.bR 19) n)).cE 15 (((a.cE 19 (max (a.bR 19) n)).bR 15+1)%18446744073709551616)).ai ++ [({bQ:=au x,pos:=m.b.length,bX:=bX,bB:=0,aT:=[]}:aP)]}:Mk)=m5;have g:m5.b=a.b/\m5.c=a.c/\m5.main=a.main/\m5.ak=a.ak/\m5.ai=a.ai ++ [({bQ:=au x,pos:=m.b.length,bX:=bX,bB:=0,aT:=[]}:aP)]:=(by subst hx5;exact⟨q,q,q,q,q⟩);have U:=ax.to (m'':=m5) g.1 g.2.1 g.2.2.1 (fun i _ _ aQ=>by
      subst hx5;exact(cL (m:=a.cE 19 (max (a.bR 19) n)) Xx).trans (cL Xx)) (by subst hx5;simp[Mk.cE])
    clear hx5;obtain⟨ad,aJ,aK,a4,a5⟩:=g;have F:m5.ai=m.ai ++ [({bQ:=au x,pos:=m.b.length,bX:=bX,bB:=0,aT:=[]}:aP)]:=(by rw[a5,az,T.2.1]);have W:m5.ak=m.ak:=(by rw[a4,aA,T.2.2.1]);have C:(⟨m.b.length,1,64+(au x).length⟩:Ob)∈l ++ [⟨m.b.length,1,64+(au x).length⟩]:=(by simp);have aq:Stat m5 (l ++ [⟨m.b.length,1,64+(au x).length⟩]):=by
      refine h.step U (fun k hk=>?_) (fun k hk=>.inl (W ▸ hk)) (fun i J k t H N e=>?_) (fun y D hk=>?_) (fun y D hk=>?_)
      · rw[F,List.mem_append,List.mem_singleton]at hk
        rcases hk with hk|rfl
        · exact .inl hk
        · right
          have aE:tr d.b (l ++ [⟨m.b.length,1,64+(au x).length⟩]) (cH m (au x)) ({bQ:=au x,pos:=m.b.length,bX:=bX,bB:=0,aT:=[]}:aP):=by
            refine⟨C,?_,?_⟩
            · rw[Q,qw];exact E 0 _ q
            · rw[Q,TU];exact M
          rw[ad];exact aE.kQ s.ea u.kQ (fun aI aB=>aB.aeg u.ea) fun _ h=>h
      · rw[F]at H N
        have ae:∀(i:Nat) (k:aP),m.ai[i]? = some k->k.pos+16<=m.b.length/\k.bQ≠au x:=fun i k H=>by have ah:=List.mem_of_getElem? H;have:=(h.ea.mem (h.data k ah).ob).le;have:=dI (64+k.bQ.length);simp only at *;exact⟨by omega,ap k ah⟩
        have K:∀(i:Nat) (k:aP),(m.ai ++ [({bQ:=au x,pos:=m.b.length,bX:=bX,bB:=0,aT:=[]}:aP)])[i]? = some k->(m.ai[i]? = some k)\/i=m.ai.length/\k={bQ:=au x,pos:=m.b.length,bX:=bX,bB:=0,aT:=[]}:=fun i k H=>by
          rcases Nat.lt_or_ge i m.ai.length with hl|hl
          · rw[List.getElem?_append_left hl]at H;exact .inl H
          · have ao:=(List.getElem?_eq_some_iff.1 H).1
            simp at ao;rw[List.getElem?_append_right hl,show i-m.ai.length=0 by omega]at H;exact .inr ⟨by omega,by simpa using H.symm⟩
        rcases K i k H with A|⟨A,rfl⟩
        · rcases K J t N with j|⟨j,rfl⟩
          · exact h.one i J k t A j e
          · have:=ae i k A
            rcases e with e|e
            · simp only at e;omega
            · exact absurd e this.2
        · rcases K J t N with j|⟨j,rfl⟩
          · have:=ae J t j
            rcases e with e|e
            · simp only at e;omega
            · exact absurd e.symm this.2
          · omega
      · rw[F]
        rcases List.mem_append.1 D with D|D
        · obtain⟨k,A,j⟩:=h.all y D hk
          exact⟨k,List.mem_append_left _ A,j⟩
        · simp at D;subst D
          exact⟨({bQ:=au x,pos:=m.b.length,bX:=bX,bB:=0,aT:=[]}:aP),List.mem_append_right _ Oy,q⟩
      · rw[W]
        rcases List.mem_append.1 D with D|D
        · exact h.agx y D hk
        · simp at D;subst D;simp at hk
    have aj:zR d.b m.b.length:=⟨by rw[Q,qw];exact E 3 _ q,by rw[Q,qw];exact E 4 _ q,by rw[Q,qw];exact E 5 _ q⟩;have al:zR m5.b m.b.length:=(by rw[ad];exact aj.kQ C Xx s.ea u.ea u.mem u.kQ);obtain⟨O,I,P,⟨R,aa,ab⟩,Y⟩:=adn aq x.name Xx;have Z:=(P.fld R aa).ob;generalize m5.field x.name=z at *;obtain⟨k,B⟩:=z;simp only at I P ab Y aa Z ⊢;subst ab;have aw:=I.mem _ C;have aG:pn O (m.b.length+32):=⟨_,aw,.inr ⟨.inl ⟨q,by simp only;omega⟩,.inr q⟩⟩;have sk:pn O (R.pos+32):=⟨_,Z,.inr ⟨.inr ⟨q,by simp only;omega⟩,.inr q⟩⟩;have w:=dQ.put (m:=B) (lS B.b (R.pos+32:Nat) 8).1 I.ea aG;have ar:=P.soft w q q q;have X:=dQ.put (m:=B.put (m.b.length+32) (lS B.b (R.pos+32:Nat) 8).1) m.b.length w.ea sk;have av:=ar.soft X q q q;have f:=I.trans (w.trans X);have V:((B.put (m.b.length+32) (lS B.b (R.pos+32:Nat) 8).1).put (R.pos+32) m.b.length).ai=m.ai ++ [({bQ:=au x,pos:=m.b.length,bX:=bX,bB:=0,aT:=[]}:aP)]:=(by show B.ai=_;rw[Y,F]);have am:=al.kQ C Xx U.ea f.ea f.mem f.kQ;refine⟨O,U.trans f,av,⟨({bQ:=au x,pos:=m.b.length,bX:=bX,bB:=0,aT:=[]}:aP),by rw[V];simp,q⟩,.inr ⟨bX,m.b.length,V,am,Nat.le_refl _⟩⟩
structure vT (b:Ly) (l:List Ob) (k:aP) (ps:List Nat):Prop where
  cnt:k.bB=ps.length
  word:dS b (k.pos+56)=ps.length
  ent:dS b (k.pos+40)=ps.getD 0 0
  chain:Chain b l (k.pos+48) k.aT (ps.drop 1)
theorem BM {b:Ly} {l:List Ob} {n:Nat} {k:aP} (h:tr b l n k):Src l (k.pos+48):=by have:=dI (64+k.bQ.length);exact .inr ⟨_,h.ob,by simp,by simp only;omega,by simp only;omega⟩
theorem tX (l:List Ob):Src l 176:=.inl Xy
theorem vT.kQ {b c:Ly} {l r:List Ob} {n:Nat} {k:aP} {ps:List Nat} {S:Nat->Prop} (h:vT b l k ps) (g:tr b l n k) (f:fF b 272 l b.length) (e:Eff S b c) (m:∀o∈l,o∈r)
    (h1:∀a,S a->a+8<=k.pos+40\/k.pos+64<=a) (h2:∀i x:Nat,k.aT[i]? = some x->∀a,S a->a+8<=x+16\/x+24+8*dn (i:Int)<=a):vT c r k ps:=by
  have j:=(f.mem g.ob).le;have C:=dI (64+k.bQ.length);simp only at j;refine⟨h.cnt,(e.dS Xx fun a d=>?_).trans h.word,(e.dS Xx fun a d=>?_).trans h.ent,h.chain.kQ f (BM g) (Nat.le_refl _) e m (fun a d=>?_) h2⟩
  · have:=h1 a d;omega
  · have:=h1 a d;omega
  have:=h1 a d;omega
theorem Chain.vV {b d:Ly} {l c:List Ob} {src e:Nat} {av aH:List Nat} (h:Chain b l src av aH) (k:fF d 272 c e) (g:∀o∈l,o∈c) {i x a:Nat} (j:av[i]? = some x) (f:∀o∈c,o.kind=6->a+8<=o.pos\/o.pos+oS o.size<=a):a+8<=x+16\/x+24+8*dn (i:Int)<=a:=by have:=f _ (g _ (h.ob i x j)) q;rw[iC]at this;simp only at this;omega
theorem vT.soft {b c:Ly} {l r:List Ob} {n:Nat} {k:aP} {ps:List Nat} (h:vT b l k ps) (f:tr b l n k) (m:fF b 272 l b.length) (d:fF c 272 r c.length) (p:Eff (pn r) b c) (e:∀o∈l,o∈r):vT c r k ps:=by
  have D:=dI (64+k.bQ.length);refine h.kQ f m p e (fun j a=>?_) (fun i x C j a=>?_)
  · have:=((a.at d).2.2 _ (e _ f.ob)).1 q
    simp only at this;omega
  exact h.chain.vV d e C fun o g hk=>((a.at d).2.2 o g).2 hk
theorem aaK {b c:Ly} {l r:List Ob} {av aH:List Nat} (h:Chain b l 176 av aH) (g:fF b 272 l b.length) (d:fF c 272 r c.length) (j:Eff (pn r) b c) (e:∀o∈l,o∈r):Chain c r 176 av aH:=by
  refine h.kQ g (tX l) (Nat.le_refl _) j e (fun f a=>?_) (fun i x D f a=>?_)
  · have:=(a.at d).1;omega
  exact h.vV d e D fun o C hk=>((a.at d).2.2 o C).2 hk
theorem vT.new {b:Ly} {l:List Ob} {k:aP} (h:zR b k.pos) (c:k.bB=0) (a:k.aT=[]):vT b l k []:=by refine⟨c,h.cnt,h.ent,?_⟩;rw[a];exact⟨h.arr,by simp,by simp,by simp,by simp,Nat.le_refl _,Nat.le_refl _⟩
def agp (k:aP) (av:List Nat) (a:Nat):Prop:=a=k.pos+40\/a=k.pos+56\/zS (k.pos+48) av a
structure agq (m m':Mk) (l l':List Ob) (i e:Nat) (k k':aP) (ps:List Nat):Prop where
  ea:fF m'.b 272 l' m'.b.length
  sub:∃t,l'=l ++ t/\∀o∈t,o.kind=6/\m.b.length<=o.pos
  dat:m'.ai=m.ai.set i k'
  pos:k'.pos=k.pos/\k'.bQ=k.bQ/\k'.bX=k.bX
  arr:k'.aT=k.aT\/k'.aT=k.aT ++ [m.b.length]
  more:vT m'.b l' k' (ps ++ [e])
  kQ:Eff (agp k k'.aT) m.b m'.b
  top:m'.b.length<=m.b.length+2100
  same:m'.c=m.c/\m'.ak=m.ak/\m'.main=m.main/\m'.depth=m.depth/\∀i,i≠6->i≠7->i≠18->m'.bR i=m.bR i
  cn:Cn m l->Cn m' l'
theorem YB {b:Ly} {l r:List Ob} {e n:Nat} {k:aP} (d:fF b 272 r e) (f:∀o∈l,o∈r) {c:Ly} (h:tr c l n k):∀o∈r,o.kind=6->k.pos+64<=o.pos\/o.pos+oS o.size<=k.pos:=fun o g a=>by
  have i:=dI (64+k.bQ.length)
  rcases d.sep g (f _ h.ob)with rfl|hh|hh
  · simp at a
  · exact .inr hh
  · simp only at hh;exact .inl Xx
theorem MX {b c:Ly} {l r:List Ob} {n:Nat} {k:aP} (g:tr c l n k) (f:∀o∈l,o∈r) (a:fF b 272 r b.length) {q:Nat} (v:Nat) (i:q=k.pos+40\/q=k.pos+56):fF (iq b q v) 272 r (iq b q v).length:=by have C:=dI (64+k.bQ.length);rw[eP];exact a.kQ (Eff.put b q v) (Nat.le_refl _) fun o e h d=>by subst d;exact a.body (.inr ⟨_,f _ g.ob,by simp only;omega,by simp only;omega⟩) e
theorem aa3 {m:Mk} {l:List Ob} {i e n:Nat} {k:aP} {ps:List Nat} (f:fF m.b 272 l m.b.length) (hk:m.ai[i]? = some k) (g:tr m.b l n k) (hd:vT m.b l k ps) (hb:m.b.length<900000) (F:e<18446744073709551616) (E:k.bB=0) :
    ∃J I,agq m (jT e i m) l J i e k I ps:=by
  have u:m.ai.getD i known0=k:=by simp[List.getD,hk]
  have V:=(f.mem g.ob).le;have N:=dI (64+k.bQ.length);simp only at V;have K:=hd.cnt;unfold jT;simp only[u];rw[if_pos E];have v:ps=[]:=List.eq_nil_of_length_eq_zero Xx;subst v;have R:=MX g (fun _ h=>h) f e (q:=k.pos+40) (.inl rfl);have y:=MX g (fun _ h=>h) R 1 (q:=k.pos+56) (.inr rfl);have j:Eff (fun d=>d=k.pos+40\/d=k.pos+56) m.b (iq (iq m.b (k.pos+40) e) (k.pos+56) 1):=((Eff.put _ _ _).mono fun d a=>.inl a).trans ((Eff.put _ _ _).mono fun d a=>.inr a);have L:(iq (iq m.b (k.pos+40) e) (k.pos+56) 1).length=m.b.length:=by rw[eP,eP]
  have D:((m.put (k.pos+40) e).put (k.pos+56) 1).b=iq (iq m.b (k.pos+40) e) (k.pos+56) 1:=rfl;have C:=l7 m (k.pos+40) e;have A:=l7 (m.put (k.pos+40) e) (k.pos+56) 1;generalize (m.put (k.pos+40) e).put (k.pos+56) 1=M at *;obtain⟨r,p,s,P,G,Q⟩:=A;rw[C.1]at r;rw[C.2.1]at p;rw[C.2.2.1]at s;rw[C.2.2.2.1]at P;rw[C.2.2.2.2.1]at G;rw[C.2.2.2.2.2]at Q;clear C;generalize hB:iq (iq m.b (k.pos+40) e) (k.pos+56) 1=B at *;subst D;have w:dS M.b (k.pos+56)=1:=by rw[<- hB];exact iM (by rw[eP];omega) Xy
  have H:dS M.b (k.pos+40)=e:=by rw[<- hB];exact(fE Xx).trans (iM Xx F)
  clear hB;refine⟨l,{k with bB:=1},y,⟨[],(List.append_nil l).symm,by simp⟩,?_,⟨rfl,rfl,rfl⟩,.inl rfl,⟨rfl,w,H,?_⟩,j.mono fun d a=>a.elim .inl fun h=>.inr (.inl h),?_,⟨r,s,P,Q,fun t _ _ _=>?_⟩,fun c=>c.same G⟩
  · show M.ai.set i _=_
    rw[p]
  · refine hd.chain.kQ f (BM g) (Nat.le_refl _) j (fun _ h=>h) (fun d a=>by omega) (fun t x z d a=>?_)
    exact hd.chain.vV f (fun _ h=>h) z fun o W T=>by have:=YB f (fun _ h=>h) g o W T;omega
  · show M.b.length<=_
    omega
  show M.h.n.getD t 0=_;rw[G];rfl
theorem aa2 {m:Mk} {l:List Ob} {i e n:Nat} {k:aP} {ps:List Nat} (z:fF m.b 272 l m.b.length) (hk:m.ai[i]? = some k) (g:tr m.b l n k) (hd:vT m.b l k ps) (hb:m.b.length<900000) (L:e<18446744073709551616) (O:ps.length<1000000) (v:¬k.bB=0) :
    ∃j M,agq m (jT e i m) l j i e k M ps:=by
  have H:m.ai.getD i known0=k:=by simp[List.getD,hk]
  have P:=(z.mem g.ob).le;have N:=dI (64+k.bQ.length);simp only at P;have p:=hd.cnt;unfold jT;simp only[H];rw[if_neg v];have I:k.bB-1=(ps.drop 1).length:=by simp;omega
  rw[I];obtain⟨j,a⟩:=NP (x:=e) z hd.chain (BM g) hb L;have J:=a.kQ.len;have s:∀o∈l,o∈j:=by
    rcases a.sub with h|h
    · rw[h];exact fun _ h=>h
    · rw[h];exact fun o d=>List.mem_append_left _ d
  have R:=MS m.b (k.pos+40);generalize m.link k.aT (ps.drop 1).length (k.pos+48) e=r at *;obtain⟨u,t,f⟩:=r;simp only at a J ⊢;have E:=MX g s a.ea (k.bB+1) (q:=k.pos+56) (.inr rfl);have w:Eff (fun u=>u=k.pos+56) f.b (iq f.b (k.pos+56) (k.bB+1)):=Eff.put _ _ _;have Q:⟨k.pos,1,64+k.bQ.length⟩∈j:=s _ g.ob;have D:Src j (k.pos+48):=(BM g).mono s;have A:=YB a.ea s g;have G:dS f.b (k.pos+40)=dS m.b (k.pos+40):=a.kQ.dS Xx fun x C=>by
    rcases C with rfl|⟨B,c,K,S,T⟩
    · omega
    · have:=A _ (a.chain.ob B c K) rfl
      rw[iC]at this;simp only at this;omega
  refine⟨j,{k with aT:=u,bB:=k.bB+1},E,?_,?_,⟨rfl,rfl,rfl⟩,a.arr,⟨?_,?_,?_,?_⟩,?_,?_,⟨a.same.1,a.same.2.2.1,a.same.2.2.2.1,a.same.2.2.2.2.1,a.same.2.2.2.2.2⟩,fun c=>(a.cn c).same rfl⟩
  · rcases a.sub with h|h
    · exact⟨[],by simp[h],by simp⟩
    exact⟨_,h,by intro o d;simp at d;subst d;exact⟨rfl,Nat.le_refl _⟩⟩
  · show f.ai.set i _=_
    rw[a.same.2.1]
  · show k.bB+1=_
    simp;omega
  · refine(iM Xx Xx).trans ?_
    simp;omega
  · show dS (iq f.b (k.pos+56) (k.bB+1)) (k.pos+40)=_
    rw[fE Xx,G,hd.ent];cases ps with
    | nil=>simp at p;exact absurd p v
    | cons y r=>rfl
  · have:(ps ++ [e]).drop 1=ps.drop 1 ++ [e]:=by
      cases ps with
      | nil=>simp at p;exact absurd p v
      | cons y r=>rfl
    rw[this];refine a.chain.kQ a.ea D (Nat.le_refl _) w (fun _ h=>h) (fun x C=>by omega) (fun B x C y V=>?_);exact a.chain.vV a.ea (fun _ h=>h) C fun o d F=>by have:=A o d F;omega
  · exact(a.kQ.mono fun x C=>.inr (.inr C)).trans (w.mono fun x C=>.inr (.inl C))
  show(iq f.b (k.pos+56) (k.bB+1)).length<=_;rw[eP];exact a.top
theorem RD {m:Mk} {l:List Ob} {i e n:Nat} {k:aP} {ps:List Nat} (a:fF m.b 272 l m.b.length) (hk:m.ai[i]? = some k) (d:tr m.b l n k) (hd:vT m.b l k ps) (hb:m.b.length<900000) (c:e<18446744073709551616) (f:ps.length<1000000) :
    ∃h g,agq m (jT e i m) l h i e k g ps:=by
  by_cases h0:k.bB=0
  · exact aa3 a hk d hd hb c h0
  exact aa2 a hk d hd hb c f h0
structure ej where
  pos:Nat
  ent:i7
  who:List Nat
structure agn (b:Ly) (l:List Ob) (g:ej):Prop where
  ob:(⟨g.pos,3,64+16*g.ent.aH.length⟩:Ob)∈l
  seg:seg b g.pos (64+16*g.ent.aH.length)=dc g.ent
theorem agn.kQ {b c:Ly} {l r:List Ob} {g:ej} {S:Nat->Prop} (h:agn b l g) (f:fF b 272 l b.length) (i:Eff S b c) (k:∀a,S a->td l a) (j:∀o∈l,o∈r):agn c r g:=by have e:=(f.mem h.ob).le;have C:=dI (64+16*g.ent.aH.length);refine⟨j _ h.ob,(i.seg _ _ (by simp only at e;omega) fun a d=>?_).trans h.seg⟩;have:=(k a d _ h.ob).2.2.2 rfl;simp only at this;omega
structure amF (m:Mk):Prop where
  main:∀(i:Nat) (k:aP),m.ai[i]? = some k->∀a∈k.aT,a∉m.main
  one:∀(i j:Nat) (k k':aP) (a:Nat),m.ai[i]? = some k->m.ai[j]? = some k'->a∈k.aT->a∈k'.aT->i=j
structure kT (m:Mk) (l:List Ob) (es:List ej) (mp:List Nat) (f:Nat->List Nat):Prop where
  eD:Stat m l
  main:Chain m.b l 176 m.main mp
  dat:∀(i:Nat) (k:aP),m.ai[i]? = some k->vT m.b l k (f i)
  own:amF m
  ent:∀g∈es,agn m.b l g
  kin:(l.filter fun o=>decide (o.kind=3)).map Ob.pos=es.map ej.pos
theorem vY {l t:List Ob} (h:∀o∈t,o.kind≠3):((l ++ t).filter fun o=>decide (o.kind=3))=l.filter fun o=>decide (o.kind=3):=by
  have e:(t.filter fun o=>decide (o.kind=3))=[]:=List.filter_eq_nil_iff.2 fun o A=>by simpa using h o A
  rw[List.filter_append,e,List.append_nil]
structure lG (ds ds':List aP):Prop where
  len:ds'.length=ds.length
  get:∀(i:Nat) (k':aP),ds'[i]? = some k'->∃k,ds[i]? = some k/\k'.pos=k.pos/\k'.bQ=k.bQ
theorem lG.refl (ds:List aP):lG ds ds:=⟨q,fun _ k h=>⟨k,h,q,q⟩⟩
theorem lG.set {ds:List aP} {i:Nat} {k b:aP} (h:ds[i]? = some k) (h1:b.pos=k.pos) (c:b.bQ=k.bQ):lG ds (ds.set i b):=by
  refine⟨by simp,fun d y a=>?_⟩
  by_cases hj:i=d
  · subst hj
    rw[List.getElem?_set_self (List.getElem?_eq_some_iff.1 h).1]at a;cases a;exact⟨k,h,h1,c⟩
  rw[List.getElem?_set_ne hj]at a;exact⟨y,a,q,q⟩
theorem tr.congr {b:Ly} {l:List Ob} {n:Nat} {k a:aP} (h:tr b l n k) (h1:a.pos=k.pos) (c:a.bQ=k.bQ):tr b l n a:=by obtain⟨d,e,C⟩:=h;exact⟨by rw[h1,c];exact d,by rw[h1];exact e,by rw[h1,c];exact C⟩
theorem Stat.keep {m m':Mk} {l n:List Ob} {S:Nat->Prop} (h:Stat m l) (B:fF m'.b 272 n m'.b.length) (F:∃t,n=l ++ t/\∀o∈t,o.kind≠1/\o.kind≠2) (w:Eff S m.b m'.b) (v:∀u,S u->td l u) (f:m'.c=m.c) (x:m'.ak=m.ak) (y:m'.bR 2=m.bR 2/\m'.bR 4=m.bR 4) (hd:lG m.ai m'.ai) (E:Cn m' n):Stat m' n:=by
  obtain⟨t,rfl,P⟩:=F;have g:∀o∈l,o∈l ++ t:=fun o a=>List.mem_append_left _ a;have s:∀t,cH m' t=cH m t:=fun t=>by unfold cH;rw[f]
  refine⟨B,by rw[f];exact g _ h.BH,by rw[f];exact g _ h.PE,y.1.trans h.n2,by rw[f];exact y.2.trans h.n4,by rw[f];exact h.slots,fun k hk=>?_,fun k hk=>?_,fun i z k e d Q R=>?_,fun o a C=>?_,fun o a C=>?_,E⟩
  · obtain⟨i,d⟩:=List.mem_iff_getElem?.1 hk
    obtain⟨j,p,C,D⟩:=hd.get i k d;rw[s,D];exact((h.data j (List.mem_of_getElem? p)).kQ h.ea w v g).congr C D
  · rw[x]at hk;rw[s]
    exact(h.fld k hk).kQ h.ea w v g
  · obtain⟨j,p,C,D⟩:=hd.get i k d
    obtain⟨T,H,q,r⟩:=hd.get z e Q;exact h.one i z j T p H (by rw[<- C,<- q,<- D,<- r];exact R)
  · rcases List.mem_append.1 a with a|a
    · obtain⟨k,hk,D⟩:=h.all o a C
      obtain⟨i,d⟩:=List.mem_iff_getElem?.1 hk;have A:=(List.getElem?_eq_some_iff.1 d).1;obtain⟨e,G⟩:∃e,m'.ai[i]? = some e:=⟨_,List.getElem?_eq_getElem (by rw[hd.len];exact A)⟩;obtain⟨j,H,q,r⟩:=hd.get i e G;rw[d]at H;cases H;exact⟨e,List.mem_of_getElem? G,q.trans D⟩
    exact absurd C (P o a).1
  rcases List.mem_append.1 a with a|a
  · rw[x];exact h.agx o a C
  exact absurd C (P o a).2
theorem kT.soft {m m':Mk} {l r:List Ob} {es:List ej} {z:List Nat} {f:Nat->List Nat} {i:Nat} {t:Ly} (h:kT m l es z f) (d:CP m m' l r i t) (K:∀i,m.ai.length<=i->f i=[]):kT m' r es z f:=by
  have H:=d.step.mem;have x:=d.step.ea;have v:=d.step.kQ;have E:∀e,pn r e->td l e:=fun e C=>(C.aeg x).mono H;have D:=d.step.same.2.1;have B:∀(c:Nat) (k:aP),m.ai[c]? = some k->vT m'.b r k (f c):=fun c k a=>(h.dat c k a).soft (h.eD.data k (List.mem_of_getElem? a)) h.eD.ea x v H;have n:∀(c:Nat) (k:aP),m'.ai[c]? = some k->m.ai[c]? = some k\/(m.ai.length<=c/\k.bB=0/\k.aT=[]/\zR m'.b k.pos):=fun c k a=>by
    rcases d.new with j|⟨s,p,j,I,_⟩
    · rw[j]at a;exact .inl a
    · rw[j]at a
      rcases Nat.lt_or_ge c m.ai.length with F|F
      · rw[List.getElem?_append_left F]at a;exact .inl a
      · have A:=(List.getElem?_eq_some_iff.1 a).1
        simp at A;rw[List.getElem?_append_right F,show c-m.ai.length=0 by omega]at a;have:k={bQ:=t,pos:=p,bX:=s,bB:=0,aT:=[]}:=(by simpa using a.symm);subst this;exact .inr ⟨F,q,q,I⟩
  refine⟨d.eD,?_,fun c k a=>?_,⟨fun c k a e C=>?_,fun i c k y e w a C u=>?_⟩,fun g Q=>(h.ent g Q).kQ h.eD.ea v E H,?_⟩
  · rw[D];exact aaK h.main h.eD.ea x v H
  · rcases n c k a with a|⟨F,P,C,I⟩
    · exact B c k a
    rw[K c F];exact vT.new I P C
  · rw[D]
    rcases n c k a with a|⟨_,_,G,_⟩
    · exact h.own.main c k a e C
    rw[G]at C;simp at C
  · rcases n i k w with w|⟨_,_,G,_⟩
    · rcases n c y a with a|⟨_,_,G,_⟩
      · exact h.own.one i c k y e w a C u
      rw[G]at u;simp at u
    rw[G]at C;simp at C
  obtain⟨L,j,J⟩:=d.step.sub;rw[j,vY fun o R=>by have:=(J o R).1;omega];exact h.kin
theorem kT.entry {m:Mk} {l:List Ob} {es:List ej} {v:List Nat} {f:Nat->List Nat} (h:kT m l es v f) {E:i7} {who:List Nat} (hb:E.bC.length=16) (J:E.aH.length<=1000) :
    kT (m.bV (dc E)).2 (l ++ [⟨m.b.length,3,64+16*E.aH.length⟩]) (es ++ [⟨m.b.length,E,who⟩]) v f:=by
  have I:=lU E hb;have c:(m.bV (dc E)).2.b=m.b ++ dc E:=rfl;have T:=dU m (dc E);have C:∀i,i≠6->i≠7->(m.bV (dc E)).2.bR i=m.bR i:=fun i V W=>by simp only[Mk.bV];rw[cL Xx,cL Xx];rfl
  have w:=h.eD.cn.obj (dc E) (k:=3) (s:=64+16*E.aH.length) Xx;generalize (m.bV (dc E)).2=m' at *;obtain⟨R,H,B,u⟩:=T;have P:oS (64+16*E.aH.length)=64+16*E.aH.length:=by unfold oS;omega
  have j:(dc E).length=64+16*E.aH.length:=by omega
  have G:Eff (fun _=>False) m.b m'.b:=by rw[c];exact Eff.app _ _ _
  have Q:∃r,dc E=UW 3 (64+16*E.aH.length) ++ r:=by unfold dc;rw[xX Xx];rw[show 16+(nums [E.seq,E.bH,E.mono] ++ E.bC ++ nums [E.xor] ++ lg E.aH).length=64+16*E.aH.length by simp[eC,uY,hb];omega];exact⟨_,List.append_assoc _ _ _⟩
  obtain⟨r,A⟩:=Q;have F:fF m'.b 272 (l ++ [⟨m.b.length,3,64+16*E.aH.length⟩]) m'.b.length:=by
    have:=(h.eD.ea.kQ G (Nat.le_refl _) (fun _ _ _ a=>a.elim)).app (o:=⟨m.b.length,3,64+16*E.aH.length⟩) q Oy Oy Zx Zx ?_
    · simp only[P]at this;rw[c,List.length_append,j];rw[c]at this;exact this
    · have t:=iy (x:=m.b) (y:=dc E) (p:=m.b.length) (n:=16) (Nat.le_refl _)
      rw[Nat.sub_self,adF A (jY _ _)]at t;rw[c];exact t
  have e:∀o∈l,o∈l ++ [(⟨m.b.length,3,64+16*E.aH.length⟩:Ob)]:=fun o z=>List.mem_append_left _ z;refine⟨h.eD.keep F ⟨_,q,by simp⟩ G (fun _ a=>a.elim) R B ⟨C 2 Xy Xy,C 4 Xy Xy⟩ (by rw[H];exact lG.refl _) w,?_,fun i k d=>?_,⟨by rw[H,u];exact h.own.main,by rw[H];exact h.own.one⟩,fun g D=>?_,?_⟩
  · rw[u];exact h.main.kQ h.eD.ea (tX l) (Nat.le_refl _) G e (fun _ a=>a.elim) (fun _ _ _ _ a=>a.elim)
  · rw[H]at d
    exact(h.dat i k d).kQ (h.eD.data k (List.mem_of_getElem? d)) h.eD.ea G e (fun _ a=>a.elim) (fun _ _ _ _ a=>a.elim)
  · rcases List.mem_append.1 D with D|D
    · exact(h.ent g D).kQ h.eD.ea G (fun _ a=>a.elim) e
    simp at D;subst D;refine⟨by simp,?_⟩;simp only;rw[c,<- j];exact seg_new _ _
  rw[List.filter_append,List.map_append,h.kin];simp
theorem FJ {b:Ly} {l:List Ob} {e src a:Nat} {av:List Nat} (d:fF b 272 l e) (h:zS src av a) (i:∀k c:Nat,av[k]? = some c->(⟨c,6,24+8*dn (k:Int)⟩:Ob)∈l) {o:Ob} (g:o∈l) (f:∀c∈av,c≠o.pos):a=src\/a+8<=o.pos\/o.pos+oS o.size<=a:=by
  rcases h with h|⟨k,c,B,C,D⟩
  · exact .inl h
  right
  rcases d.sep g (i k c B)with A|A|A
  · exact absurd (congrArg Ob.pos A).symm (f c (List.mem_of_getElem? B))
  · simp only at A;omega
  rw[iC]at A;simp only at A;omega
theorem FL {b:Ly} {l:List Ob} {e src a:Nat} {av:List Nat} (d:fF b 272 l e) (h:zS src av a) (f:∀k c:Nat,av[k]? = some c->(⟨c,6,24+8*dn (k:Int)⟩:Ob)∈l) (g:td l src):td l a:=by
  rcases h with h|⟨k,c,A,B,C⟩
  · rw[h];exact g
  exact BU d (f k c A) Zx (by rw[iC];simp only;omega) Oy Oy Oy
theorem xC {l:List Nat} {a:Nat} (h:a∈l):∃i:Nat,l[i]? = some a:=List.mem_iff_getElem?.1 h
theorem akv {m:Mk} {l a:List Ob} {n:Nat} (h:a=l\/a=l ++ [(⟨m.b.length,6,24+8*n⟩:Ob)]):∃t,a=l ++ t/\∀o∈t,o.kind=6/\m.b.length<=o.pos:=by
  rcases h with h|h
  · exact⟨[],by simp[h],by simp⟩
  exact⟨_,h,by intro o c;simp at c;subst c;exact⟨q,Nat.le_refl _⟩⟩
theorem kT.link {m m':Mk} {l u:List Ob} {es:List ej} {E:List Nat} {f:Nat->List Nat} {x:Nat} {av:List Nat} {j:Mk} (h:kT m l es E f) (L:Linked m j l u 176 m.main av E x)
    (hb:m'.b=j.b) (a:m'.c=j.c) (hd:m'.ai=j.ai) (hf:m'.ak=j.ak) (hm':m'.main=av) (hn:m'.bR 2=j.bR 2/\m'.bR 4=j.bR 4) (hcn:Cn j u->Cn m' u):kT m' u es (E ++ [x]) f:=by
  obtain⟨S,U,X,n,p,T⟩:=L.same;obtain⟨t,z,J⟩:=akv L.sub;have r:=L.ea;have H:∀o∈l,o∈u:=fun o D=>by rw[z];exact List.mem_append_left _ D
  have B:=L.kQ;have I:∀e,zS 176 av e->td l e:=fun e C=>(FL r C L.chain.ob (KP r Xy)).mono H;have F:∀c∈av,c∈m.main\/c=m.b.length:=fun c a=>by
    rcases L.arr with s|s
    · rw[s]at a;exact .inl a
    · rw[s,List.mem_append,List.mem_singleton]at a;exact a
  have M:∀c∈av,∀o∈u,o.kind≠6->c≠o.pos:=fun c a o D hk s=>by
    obtain⟨i,d⟩:=xC a
    rcases r.sep D (L.chain.ob i c d)with G|G|G
    · subst G;exact hk q
    · have:=dI o.size;have:=(r.mem D).size.1;simp only at G;omega
    · rw[iC]at G;simp only at G;omega
  have w:m'.ai=m.ai:=hd.trans U;refine⟨h.eD.keep (by rw[hb];exact r) ⟨t,z,fun o D=>by have:=(J o D).1;exact⟨by omega,by omega⟩⟩ (by rw[hb];exact B) I (a.trans S) (hf.trans X) ⟨hn.1.trans (T 2 Xy Xy Xy),hn.2.trans (T 4 Xy Xy Xy)⟩ (by rw[w];exact lG.refl _) (hcn (L.cn h.eD.cn)),by rw[hb,hm'];exact L.chain,fun i k d=>?_,⟨fun i k d e C a=>?_,by rw[w];exact h.own.one⟩,fun g O=>by rw[hb];exact(h.ent g O).kQ h.eD.ea B I H,by rw[z,vY fun o D=>by have:=(J o D).1;omega];exact h.kin⟩
  · rw[w]at d
    have v:=h.eD.data k (List.mem_of_getElem? d);have Y:=dI (64+k.bQ.length);have V:272<=k.pos:=(h.eD.ea.mem v.ob).ge;rw[hb];refine(h.dat i k d).kQ v h.eD.ea B H (fun e C=>?_) (fun K y R e C=>?_)
    · rcases FJ r C L.chain.ob (H _ v.ob) (fun c a=>M c a _ (H _ v.ob) Oy)with A|A|A
      · omega
      · simp only at A;omega
      simp only at A;omega
    have Q:=(h.dat i k d).chain.ob K y R;have N:=(h.dat i k d).chain.le h.eD.ea R;have P:∀c∈av,c≠y:=fun c a s=>by
      subst s
      rcases F c a with A|A
      · exact h.own.main i k d c (List.mem_of_getElem? R) A
      · omega
    rcases FJ r C L.chain.ob (H _ Q) P with A|A|A
    · omega
    · simp only at A;omega
    rw[iC]at A;simp only at A;omega
  rw[w]at d;rw[hm']at a
  rcases F e a with A|A
  · exact h.own.main i k d e C A
  obtain⟨K,W⟩:=xC C;have N:=(h.dat i k d).chain.le h.eD.ea W;omega
theorem sD {k:aP} {av:List Nat} {a:Nat} (h:agp k av a):(k.pos+40<=a/\a+8<=k.pos+64)\/zS (k.pos+48) av a:=by
  rcases h with h|h|h
  · left;omega
  · left;omega
  exact .inr h
theorem kT.hang {m m':Mk} {l K:List Ob} {es:List ej} {ag:List Nat} {f:Nat->List Nat} {i e:Nat} {k F:aP} (h:kT m l es ag f) (hi:m.ai[i]? = some k) (H:agq m m' l K i e k F (f i)):kT m' K es ag (fun d=>if d=i then f i ++ [e]else f d):=by
  obtain⟨an,ao,s4,s5,ah⟩:=H.same;obtain⟨t,aa,ae⟩:=H.sub;have B:=H.ea;have u:∀o∈l,o∈K:=fun o A=>by rw[aa];exact List.mem_append_left _ A
  have p:=H.kQ;have T:=h.eD.data k (List.mem_of_getElem? hi);have au:=dI (64+k.bQ.length);have ap:272<=k.pos:=(h.eD.ea.mem T.ob).ge;have v:lG m.ai m'.ai:=by rw[H.dat];exact lG.set hi H.pos.1 H.pos.2.1
  have Z:=H.more.chain.ob;have M:∀c∈F.aT,c∈k.aT\/c=m.b.length:=fun c G=>by
    rcases H.arr with e|e
    · rw[e]at G;exact .inl G
    · rw[e,List.mem_append,List.mem_singleton]at G;exact G
  have Q:∀c∈F.aT,∀o∈K,o.kind≠6->c≠o.pos:=fun c G o A hk e=>by
    obtain⟨i,hi⟩:=xC G
    rcases B.sep A (Z i c hi)with C|C|C
    · subst C;exact hk rfl
    · have:=dI o.size;have:=(B.mem A).size.1;simp only at C;omega
    · rw[iC]at C;simp only at C;omega
  -- what is written stands U from another object's inside
  have U:∀o∈K,o.pos≠k.pos->(∀c∈F.aT,c≠o.pos)->∀j,agp k F.aT j->j+8<=o.pos\/o.pos+oS o.size<=j:=fun o A x G j s=>by
    have aq:o.pos+oS o.size<=k.pos\/k.pos+oS (64+k.bQ.length)<=o.pos:=by
      rcases B.sep A (u _ T.ob)with C|C|C
      · exact absurd (congrArg Ob.pos C) x
      · exact .inl C
      · exact .inr C
    rcases sD s with a|a
    · omega
    · rcases FJ B a (by rw[<- H.pos.1]at *;exact Z) A G with X|X
      · omega
      · exact X
  have ab:∀j,agp k F.aT j->td l j:=fun j s=>by
    have af:∀q,k.pos+40<=q->q+8<=k.pos+64->td K q:=fun q a X=>BU B (u _ T.ob) Zx Zx Oy Zx Oy
    rcases sD s with a|a
    · exact(af j a.1 a.2).mono u
    · exact(FL B a Z (af _ Xx Xx)).mono u
  have L:∀(d:Nat) (y:aP),m'.ai[d]? = some y->(d=i/\y=F)\/(d≠i/\m.ai[d]? = some y):=fun d y D=>by
    rw[H.dat]at D
    by_cases I:i=d
    · subst I
      rw[List.getElem?_set_self (List.getElem?_eq_some_iff.1 hi).1]at D;exact .inl ⟨rfl,by simpa using D.symm⟩
    · rw[List.getElem?_set_ne I]at D
      exact .inr ⟨fun e=>I e.symm,D⟩
  have R:=h.eD.keep B ⟨t,aa,fun o A=>by have:=(ae o A).1;exact⟨by omega,by omega⟩⟩ p ab an ao ⟨ah 2 Xy Xy Xy,ah 4 Xy Xy Xy⟩ v (H.cn h.eD.cn);refine⟨R,?_,fun d y D=>?_,⟨fun d y D j s G=>?_,fun d J y S j D E s P=>?_⟩,fun g ak=>(h.ent g ak).kQ h.eD.ea p ab u,by rw[aa,vY fun o A=>by have:=(ae o A).1;omega];exact h.kin⟩
  · rw[s4]
    refine h.main.kQ h.eD.ea (tX l) (Nat.le_refl _) p u (fun j s=>?_) (fun d y Y j s=>?_)
    · rcases sD s with a|a|⟨d,c,a,X,h3⟩
      · omega
      · omega
      have:=H.more.chain.le B a;omega
    have N:=h.main.ob d y Y;have w:=h.main.le h.eD.ea Y;have:=U _ (u _ N) (fun e=>by
      have:=h.eD.ea.sep N T.ob
      rcases this with C|C|C
      · cases C
      · rw[iC]at C;simp only at C e;omega
      · simp only at C e;omega) (fun c G e=>by
      simp only at e;subst e
      rcases M c G with a|a
      · exact h.own.main i k hi c a (List.mem_of_getElem? Y)
      · omega) j s
    rw[iC]at this;simp only at this;omega
  · rcases L d y D with⟨rfl,rfl⟩|⟨I,D⟩
    · rw[if_pos rfl];exact H.more
    rw[if_neg I];have r:=h.eD.data y (List.mem_of_getElem? D);have ar:=dI (64+y.bQ.length);have aj:y.pos≠k.pos:=fun e=>I (h.eD.one d i y k D hi (.inl e));refine(h.dat d y D).kQ r h.eD.ea p u (fun j s=>?_) (fun n z O j s=>?_)
    · have:=U _ (u _ r.ob) aj (fun c G=>Q c G _ (u _ r.ob) Oy) j s
      simp only at this;omega
    have N:=(h.dat d y D).chain.ob n z O;have w:=(h.dat d y D).chain.le h.eD.ea O;have:=U _ (u _ N) (fun e=>by
      have:=h.eD.ea.sep N T.ob
      rcases this with C|C|C
      · cases C
      · rw[iC]at C;simp only at C e;omega
      · simp only at C e;omega) (fun c G e=>by
      simp only at e;subst e
      rcases M c G with a|a
      · exact I (h.own.one d i y k c D hi (List.mem_of_getElem? O) a)
      · omega) j s
    rw[iC]at this;simp only at this;omega
  · rw[s4]at G
    rcases L d y D with⟨rfl,rfl⟩|⟨I,D⟩
    · rcases M j s with a|a
      · exact h.own.main d k hi j a G
      obtain⟨n,al⟩:=xC G;have:=h.main.le h.eD.ea al;omega
    exact h.own.main d y D j s G
  have ad:∀(n:Nat) (z:aP),m.ai[n]? = some z->m.b.length∉z.aT:=fun n z O W=>by obtain⟨q,am⟩:=xC W;have:=(h.dat n z O).chain.le h.eD.ea am;omega
  rcases L d y D with⟨rfl,rfl⟩|⟨I,D⟩
  · rcases L J S E with⟨rfl,rfl⟩|⟨V,E⟩
    · rfl
    rcases M j s with a|a
    · exact h.own.one d J k S j hi E a P
    subst a;exact absurd P (ad J S E)
  rcases L J S E with⟨rfl,rfl⟩|⟨V,E⟩
  · rcases M j P with a|a
    · exact h.own.one d J y k j D hi s a
    subst a;exact absurd s (ad d y D)
  exact h.own.one d J y S j D E s P
end Go.Wk
namespace Go.Wk
open Go
abbrev plt (p q:Pr):Prop:=Op.bytesLess (whole p.pb) (whole q.pb)=true
theorem CB (p:Pr):¬plt p p:=by unfold plt;rw[acJ];simp
theorem KZ {p q r:Pr} (h:plt p q) (k:plt q r):plt p r:=QE h k
theorem ah4 {p q:Pr} (a:right p.pb=true) (b:right q.pb=true) (h:¬plt p q) (k:¬plt q p):p=q :=
  zH.1 (ack a b (acK (by simpa [plt]using h) (by simpa [plt]using k)))
abbrev Asc (l:List Pr):Prop:=l.Pairwise plt
theorem Yf:∀{l m:List Pr},Asc l->Asc m->(∀p,p∈l↔p∈m)->l=m
  | [],[],_,_,_=>rfl
  | [],b :: m,_,_,h=>by have:=(h b).2 Oy;simp at this
  | a :: l,[],_,_,h=>by have:=(h a).1 Oy;simp at this
  | a :: l,b :: m,hl,hm,h=>by
    obtain⟨e,g⟩:=List.pairwise_cons.1 hl;obtain⟨f,i⟩:=List.pairwise_cons.1 hm;have d:a=b:=by
      rcases List.mem_cons.1 ((h a).1 Oy)with d|A
      · exact d
      · rcases List.mem_cons.1 ((h b).2 Oy)with d|C
        · exact d.symm
        · exact absurd (KZ (e b C) (f a A)) (CB a)
    subst d;congr 1;refine Yf g i fun p=>⟨fun c=>?_,fun c=>?_⟩
    · rcases List.mem_cons.1 ((h p).1 (by simp[c]))with rfl|A
      · exact absurd (e p c) (CB p)
      · exact A
    · rcases List.mem_cons.1 ((h p).2 (by simp[c]))with rfl|A
      · exact absurd (f p c) (CB p)
      · exact A
def AY (p:Pr):List Pr->List Pr
  | []=>[p]
  | q :: r=>if Op.bytesLess (au q) (au p)=true then q :: AY p r else if q.pb=p.pb then q :: r else p :: q :: r
theorem LI (t:Ly) (o:List Pr) (k:Nat):lJ t o (k+1)=lJ t o k+1:=by
  induction o generalizing k with
  | nil=>rfl
  | cons q r ih=>unfold lJ;split <;> simp[ih]
theorem ahE (t:Ly) (o:List Pr):lJ t o 0<=o.length:=by
  induction o with
  | nil=>simp[lJ]
  | cons q r ih=>unfold lJ;split <;> simp[LI,ih]
theorem LZ:∀(n j:Nat) (o:List Pr),(lN n j o).length=o.length
  | 0,_,_=>rfl
  | n+1,j,o=>by unfold lN;rw[LZ n];simp
theorem LY:∀(n j:Nat) (o:List Pr),n<=j->j<o.length->∀i,i<o.length->(lN n j o)[i]? = if j-n<i/\i<=j then o[i-1]? else o[i]?
  | 0,j,o,_,_,i,_=>by simp[lN];intro a b;omega
  | n+1,j,o,hn,hj,i,hi=>by
    unfold lN;have hd:o.getD (j-1) {name:=[],value:=[]}=o[j-1]:=(by simp[List.getD,show j-1<o.length by omega]);rw[LY n (j-1) _ Xx Ym i (by simpa using hi),hd]
    by_cases a:j-1-n<i/\i<=j-1
    · rw[if_pos a,if_pos Xx,List.getElem?_set_ne Xx]
    · rw[if_neg a]
      by_cases b:i=j
      · subst b
        rw[if_pos Xx,List.getElem?_set_self hj,List.getElem?_eq_getElem (show i-1<o.length by omega)]
      · rw[if_neg Xx,List.getElem?_set_ne Xx]
theorem abI (o:List Pr) (k:Nat) (p d:Pr) (hk:k<=o.length):(lN (o.length-k) o.length (o ++ [d])).set k p=o.take k ++ p :: o.drop k:=by
  apply List.ext_getElem?;intro i;have A:(lN (o.length-k) o.length (o ++ [d])).length=o.length+1:=by rw[LZ];simp
  by_cases hi:i<o.length+1
  · by_cases h1:i=k
    · subst h1
      rw[List.getElem?_set_self Xx,List.getElem?_append_right Ym];simp[Nat.min_eq_left hk]
    rw[List.getElem?_set_ne (Ne.symm h1),LY _ _ _ Xx Oy i Ym]
    by_cases h2:o.length-(o.length-k)<i/\i<=o.length
    · rw[if_pos h2,List.getElem?_append_left Xx,List.getElem?_append_right Ym]
      simp only[List.length_take,Nat.min_eq_left hk];obtain⟨m,rfl⟩:∃m,i=k+1+m:=⟨i-(k+1),by omega⟩;rw[show k+1+m-k=m+1 by omega,List.getElem?_cons_succ,List.getElem?_drop];congr 1;omega
    rw[if_neg h2,List.getElem?_append_left Xx,List.getElem?_append_left Ym,List.getElem?_take,if_pos Xx]
  rw[List.getElem?_eq_none (by simp[A];omega),List.getElem?_eq_none Ym]
theorem aj8 (p:Pr) (o:List Pr):IK p o=AY p o:=by
  have A:∀o:List Pr,(lJ (au p) o 0<o.length/\(o.getD (lJ (au p) o 0) {name:=[],value:=[]}).pb=p.pb->AY p o=o) /\
      (¬(lJ (au p) o 0<o.length/\(o.getD (lJ (au p) o 0) {name:=[],value:=[]}).pb=p.pb)->AY p o=o.take (lJ (au p) o 0) ++ p :: o.drop (lJ (au p) o 0)):=by
    intro o
    induction o with
    | nil=>simp[lJ,AY]
    | cons q r ih =>
      unfold lJ AY
      by_cases h1:Op.bytesLess (au q) (au p)=true
      · rw[if_pos h1,if_pos h1,LI]
        simp only[List.length_cons,Nat.add_lt_add_iff_right,List.getD_cons_succ,List.take_succ_cons,List.drop_succ_cons,List.cons_append,List.cons.injEq,true_and];exact ih
      · rw[if_neg h1,if_neg h1]
        simp only[List.length_cons,Nat.zero_lt_succ,true_and,List.getD_cons_zero,List.take_zero,List.drop_zero,List.nil_append];exact⟨fun h=>if_pos h,fun h=>if_neg h⟩
  unfold IK;simp only;split
  · rename_i h;exact((A o).1 h).symm
  rename_i h;rw[abI _ _ _ _ (ahE _ _)];exact((A o).2 h).symm
theorem NQ {p q:Pr} {o:List Pr}:q∈AY p o↔q=p\/q∈o:=by
  induction o with
  | nil=>simp[AY]
  | cons x r ih =>
    unfold AY;split
    · simp[ih];constructor
      · rintro(h|h|h) <;> simp[h]
      · rintro(h|h|h) <;> simp[h]
    · split
      · rename_i h;rw[zH]at h;subst h;simp
      · simp
theorem ag0 {p:Pr} {o:List Pr} (d:right p.pb=true) (c:∀q∈o,right q.pb=true) (h:Asc o):Asc (AY p o):=by
  induction o with
  | nil=>simp[AY]
  | cons x r ih =>
    obtain⟨C,D⟩:=List.pairwise_cons.1 h;unfold AY;split
    · rename_i hx
      refine List.pairwise_cons.2 ⟨fun q a=>?_,ih (fun q a=>c q (by simp[a])) D⟩
      rcases NQ.1 a with rfl|a
      · exact hx
      · exact C q a
    · rename_i hx
      split
      · exact h
      · rename_i hne
        have b:plt p x:=by
          cases hb:Op.bytesLess (whole p.pb) (whole x.pb)with
          | true=>exact hb
          | false=>exact absurd (zH.2 (ah4 (c x Oy) d hx (by simp[plt,hb]))) hne
        refine List.pairwise_cons.2 ⟨fun q a=>?_,h⟩
        rcases List.mem_cons.1 a with rfl|a
        · exact b
        · exact KZ b (C q a)
theorem YR:∀(l o x:List Pr),UU l o=(x,0)->(∀q∈o,right q.pb=true)->Asc o->Asc x/\(∀q∈x,right q.pb=true)/\(∀q,q∈x↔q∈o\/q∈l)/\x.length<=16
  | [],o,x,h,hr,ha=>by
    unfold UU at h;split at h
    · simp at h
    · rename_i hl
      obtain⟨rfl,_⟩:=Prod.mk.inj h;exact⟨ha,hr,by simp,by omega⟩
  | p :: r,o,x,h,hr,ha=>by
    unfold UU at h;split at h
    · rename_i h1;exact absurd (Prod.mk.inj h).2 h1
    · rename_i h1
      have b:right p.pb=true:=AB.1 (Classical.not_not.1 h1);rw[aj8]at h;obtain⟨c,d,e,f⟩:=YR r _ x h (fun q a=>by
        rcases NQ.1 a with rfl|a
        · exact b
        · exact hr q a) (ag0 b hr ha)
      refine⟨c,d,fun q=>?_,f⟩;rw[e,NQ,List.mem_cons];constructor
      · rintro((h|h)|h)
        · exact .inr (.inl h)
        · exact .inl h
        · exact .inr (.inr h)
      · rintro(h|h|h)
        · exact .inl (.inr h)
        · exact .inl (.inl h)
        · exact .inr h
theorem ve {l x:List Pr} (h:jU l=(x,0)):Asc x/\(∀q∈x,right q.pb=true)/\(∀q,q∈x↔q∈l)/\x.length<=16/\x≠[]:=by
  unfold jU at h;split at h
  · simp at h
  rename_i h0;obtain⟨B,C,A,D⟩:=YR l [] x h Oy List.Pairwise.nil;refine⟨B,C,by simpa using A,D,?_⟩;rintro rfl;cases l with
  | nil=>simp at h0
  | cons y r=>exact absurd ((A y).2 Oy) Oy
end Go.Wk
namespace Go.Wk
open Go Go.RowKit
def iO (ds:List aP) (i:Nat):List UInt8:=(ds.getD i known0).bQ
def oV (ds ds':List aP):Prop:=∀(i:Nat) (k:aP),ds[i]? = some k->∃k',ds'[i]? = some k'/\k'.pos=k.pos/\k'.bQ=k.bQ
theorem oV.refl (ds:List aP):oV ds ds:=fun _ k h=>⟨k,h,q,q⟩
theorem oV.trans {a b c:List aP} (h:oV a b) (k:oV b c):oV a c:=fun i x m=>by obtain⟨y,d,e,f⟩:=h i x m;obtain⟨z,g,j,l⟩:=k i y d;exact⟨z,g,j.trans e,l.trans f⟩
theorem lG.ext {a b:List aP} (h:lG a b):oV a b:=fun i k hk=>by have j:=(List.getElem?_eq_some_iff.1 hk).1;obtain⟨c,e⟩:∃c,b[i]? = some c:=⟨_,List.getElem?_eq_getElem (by rw[h.len];exact j)⟩;obtain⟨l,d,f,g⟩:=h.get i c e;rw[hk]at d;cases d;exact⟨c,e,f,g⟩
theorem oV.at {a b:List aP} (h:oV a b) {i:Nat} (hi:i<a.length):i<b.length/\gD b i=gD a i/\iO b i=iO a i:=by
  obtain⟨D,A,B,C⟩:=h i _ (List.getElem?_eq_getElem hi);refine⟨(List.getElem?_eq_some_iff.1 A).1,?_,?_⟩
  · unfold gD;simp only[List.getD_eq_getElem?_getD,A,List.getElem?_eq_getElem hi,Option.getD_some];exact B
  unfold iO;simp only[List.getD_eq_getElem?_getD,A,List.getElem?_eq_getElem hi,Option.getD_some];exact C
theorem CP.ext {m m':Mk} {l b:List Ob} {i:Nat} {t:Ly} (d:CP m m' l b i t):oV m.ai m'.ai:=by
  rcases d.new with e|⟨s,p,e,_⟩
  · rw[e];exact oV.refl _
  rw[e];exact fun c k a=>⟨k,by rw[List.getElem?_append_left (List.getElem?_eq_some_iff.1 a).1];exact a,q,q⟩
theorem j8 {ds:List aP} {i:Nat} {k:aP} (h:ds[i]? = some k):iO ds i=k.bQ/\gD ds i=k.pos:=by unfold iO gD;simp only[List.getD_eq_getElem?_getD,h,Option.getD_some,and_self]
theorem DG (ds:List aP) (p:Nat) (b:List Nat):∀n,n<=b.length->(∀a,lR ds p b n<=a->a<n->p<gD ds (b.getD a 0))/\(0<lR ds p b n->gD ds (b.getD (lR ds p b n-1) 0)<=p)
  | 0,_=>⟨fun a c d=>by omega,fun h=>by simp[lR]at h⟩
  | n+1,hn=>by
    rw[lR];split
    · rename_i hp
      obtain⟨e,f⟩:=DG ds p b n Xx;refine⟨fun a c d=>?_,f⟩
      by_cases hj:a=n
      · subst hj;exact hp
      · exact e a c Xx
    · rename_i hp
      exact⟨fun a c d=>by omega,fun _=>by simp only[Nat.add_sub_cancel];omega⟩
theorem GN {a:Type} {R:a->a->Prop} {l:List a} {n:Nat} {x:a} (h:l.Pairwise R) (h1:∀y∈l.take n,R y x) (f:∀y∈l.drop n,R x y):(l.take n ++ [x] ++ l.drop n).Pairwise R:=by
  rw[List.append_assoc,List.singleton_append];refine List.pairwise_append.2 ⟨h.take,List.pairwise_cons.2 ⟨f,h.drop⟩,fun e C b c=>?_⟩
  rcases List.mem_cons.1 c with rfl|c
  · exact h1 e C
  have d:=h;rw[<- List.take_append_drop n l]at d;exact(List.pairwise_append.1 d).2.2 e C b c
theorem OG {ds:List aP} {k:Nat} {a:List Nat} (h:a.Pairwise fun e b=>gD ds e<gD ds b) (hk:∀i∈a,gD ds i≠gD ds k):(mC ds k a).Pairwise fun e b=>gD ds e<gD ds b:=by
  obtain⟨f,g⟩:=DG ds (gD ds k) a a.length (Nat.le_refl _);have j:=DF ds (gD ds k) a a.length;unfold mC;simp only;generalize lR ds (gD ds k) a a.length=n at *;refine GN h (fun y D=>?_) (fun y D=>?_)
  · obtain⟨i,c⟩:=List.mem_iff_getElem?.1 D
    rw[List.getElem?_take]at c;split at c
    · rename_i hin
      have G:=hk y (List.mem_of_getElem? c);have C:=(List.getElem?_eq_some_iff.1 c).1;have l:=g Xx;have d:a[n-1]? = some (a.getD (n-1) 0):=(by simp[List.getD,List.getElem?_eq_getElem (show n-1<a.length by omega)]);have:gD ds y<=gD ds (a.getD (n-1) 0):=by
        by_cases he:i=n-1
        · subst he;rw[c]at d;have:=Option.some.inj d;rw[<- this];exact Nat.le_refl _
        · have H:=List.pairwise_iff_getElem.1 h i (n-1) C Xx Xx
          rw[List.getElem?_eq_getElem C]at c;rw[List.getElem?_eq_getElem (show n-1<a.length by omega)]at d;rw[Option.some.inj c,Option.some.inj d]at H;omega
      omega
    cases c
  obtain⟨i,c⟩:=List.mem_iff_getElem?.1 D;rw[List.getElem?_drop]at c;have C:=(List.getElem?_eq_some_iff.1 c).1;have:=f (n+i) Xx C;rw[List.getD_eq_getElem?_getD,c]at this;exact this
theorem WG (ds:List aP) (k:Nat) (b:List Nat):(mC ds k b).Perm (k :: b):=by unfold mC;simp only;generalize lR ds (gD ds k) b b.length=n;rw[List.append_assoc,List.singleton_append];have:=List.perm_middle (a:=k) (l₁:=b.take n) (l₂:=b.drop n);rw[List.take_append_drop]at this;exact this
structure ags (m:Mk) (dl:List Pr) (ps:List (List UInt8)) (od:List Nat):Prop where
  eq:ps=dl.map au
  lt:∀i∈od,i<m.ai.length
  perm:(od.map (iO m.ai)).Perm ps
  yD:od.Pairwise fun a b=>gD m.ai a<gD m.ai b
theorem AJ {p q:Pr} (c:right p.pb=true) (d:right q.pb=true) (h:au p=au q):p=q:=by have a:=(oz ((mI _).2 c)).2;have b:=(oz ((mI _).2 d)).2;have C:whole p.pb=whole q.pb:=h;rw[C,b]at a;exact(zH.1 a).symm
theorem acn {m m':Mk} {l w:List Ob} {j:List Pr} {ps:List (List UInt8)} {e:List Nat} {i:Nat} {x:Pr} (h:ags m j ps e) (z:Stat m l) (d:CP m m' l w i (au x)) (v:au x∉j.map au) :
    ags m' (j ++ [x]) (ps ++ [(m'.ai.getD i known0).bQ]) (mC m'.ai i e):=by
  have C:=d.ext;obtain⟨k,hk,f⟩:=d.got;obtain⟨g,t⟩:=j8 hk;have r:=(List.getElem?_eq_some_iff.1 hk).1;have G:(m'.ai.getD i known0).bQ=au x:=g.trans f;have n:e.map (iO m'.ai)=e.map (iO m.ai):=List.map_congr_left fun c a=>(C.at (h.lt c a)).2.2;have D:i∉e:=fun s=>by have H:iO m'.ai i∈e.map (iO m'.ai):=List.mem_map.2 ⟨i,s,q⟩;rw[n]at H;have:=h.perm.subset H;rw[h.eq,g,f]at this;exact v this
  refine⟨by rw[G,h.eq];simp,fun c a=>?_,?_,?_⟩
  · rcases KY a with rfl|a
    · exact r
    exact(C.at (h.lt c a)).1
  · refine((WG m'.ai i e).map _).trans ?_
    rw[List.map_cons,n,g,f,G];exact(List.Perm.cons _ h.perm).trans (List.perm_append_comm (l₁:=[au x]))
  refine OG ?_ fun c a p=>?_
  · refine List.Pairwise.imp_of_mem (fun {u b} ha hb hab=>?_) h.yD
    rw[(C.at (h.lt u ha)).2.1,(C.at (h.lt b hb)).2.1];exact hab
  obtain⟨y,o⟩:∃y,m'.ai[c]? = some y:=⟨_,List.getElem?_eq_getElem (C.at (h.lt c a)).1⟩;rw[(j8 o).2,t]at p;have:=d.eD.one c i y k o hk (.inl p);subst this;exact D a
def PK (m:Mk) (l l':List Ob):Prop:=∃t,l'=l ++ t/\∀o∈t,m.b.length<=o.pos
theorem PK.refl (m:Mk) (l:List Ob):PK m l l:=⟨[],by simp,by simp⟩
theorem PK.trans {m m':Mk} {l c d:List Ob} (h:PK m l c) (k:PK m' c d) (j:m.b.length<=m'.b.length):PK m l d:=by
  obtain⟨t,g,e⟩:=h;obtain⟨i,f,C⟩:=k;refine⟨t ++ i,by rw[f,g,List.append_assoc],fun o a=>?_⟩
  rcases List.mem_append.1 a with a|a
  · exact e o a
  have:=C o a;omega
def qi (ds ds':List aP):Prop:=∀(i:Nat) (k k':aP),ds[i]? = some k->ds'[i]? = some k'->∃t,k'.aT=k.aT ++ t
theorem qi.refl (ds:List aP):qi ds ds:=fun i k b h a=>⟨[],by rw[h]at a;cases a;simp⟩
theorem qi.trans {a b c:List aP} (h:qi a b) (k:qi b c) (e:oV a b):qi a c:=fun i x z d l=>by obtain⟨y,f,_⟩:=e i x d;obtain⟨t,g⟩:=h i x y d f;obtain⟨m,j⟩:=k i y z f l;exact⟨t ++ m,by rw[j,g,List.append_assoc]⟩
theorem qi.app (ds t:List aP):qi ds (ds ++ t):=fun i k b h a=>by rw[List.getElem?_append_left (List.getElem?_eq_some_iff.1 h).1,h]at a;cases a;exact⟨[],by simp⟩
theorem qi.set {ds:List aP} {i:Nat} {k c:aP} (h:ds[i]? = some k) (d:c.aT=k.aT\/∃x,c.aT=k.aT ++ [x]):qi ds (ds.set i c):=fun f y z b a=>by
  by_cases e:i=f
  · subst e
    rw[List.getElem?_set_self (List.getElem?_eq_some_iff.1 h).1]at a;rw[h]at b;cases b;cases a
    rcases d with e|⟨x,e⟩
    · exact⟨[],by simp[e]⟩
    · exact⟨[x],e⟩
  · rw[List.getElem?_set_ne e,b]at a
    cases a;exact⟨[],by simp⟩
structure agl (m m':Mk) (l l':List Ob) (es:List ej) (mp:List Nat) (f:Nat->List Nat):Prop where
  img:kT m' l' es mp f
  ext:oV m.ai m'.ai
  same:m'.c=m.c/\m'.main=m.main/\∀i,i≠6->i≠7->i<15->m'.bR i=m.bR i
  len:m.ai.length<=m'.ai.length
  sub:PK m l l'
  ge:m.b.length<=m'.b.length
  arx:qi m.ai m'.ai
theorem yJ:∀(fs dl:List Pr) (m:Mk) (l:List Ob) (ps:List (List UInt8)) (od:List Nat) (es:List ej) (mp:List Nat) (f:Nat->List Nat),kT m l es mp f->(∀i,m.ai.length<=i->f i=[])->ags m dl ps od->(∀q∈fs,BD q)->((dl ++ fs).map au).Nodup ->
    ∃d,agl m (gN fs m ps od).2.2 l d es mp f/\ags (gN fs m ps od).2.2 (dl ++ fs) (gN fs m ps od).1 (gN fs m ps od).2.1
  | [],dl,m,l,ps,od,es,mp,f,h,hf,hw,_,_=>⟨l,⟨h,oV.refl _,⟨rfl,rfl,fun _ _ _ _=>rfl⟩,Nat.le_refl _,PK.refl _ _,Nat.le_refl _,qi.refl _⟩,by rw[List.append_nil];exact hw⟩
  | x :: r,dl,m,l,ps,od,es,mp,f,h,hf,hw,hb,hnd=>by
    obtain⟨y,a⟩:=MY h.eD x (hb x Oy);have v:au x∉dl.map au:=fun u=>by rw[List.map_append,List.map_cons]at hnd;exact(List.nodup_append.1 hnd).2.2 _ u _ Oy rfl
    have g:=h.soft a hf;have w:=acn hw h.eD a v;have n:m.ai.length<=(m.data x).2.ai.length:=(by rcases a.new with c|⟨s,p,c,_⟩ <;> rw[c] <;> simp);obtain⟨d,b,j⟩:=yJ r (dl ++ [x]) (m.data x).2 y _ _ es mp f g (fun i z=>hf i Xx) w (fun q G=>hb q (by simp[G])) (by rw[List.append_assoc];exact hnd);rw[List.append_assoc]at j;refine⟨d,⟨b.img,a.ext.trans b.ext,⟨b.same.1.trans a.step.same.1,b.same.2.1.trans a.step.same.2.1,fun i e C D=>(b.same.2.2 i e C D).trans (a.step.same.2.2 i e C D)⟩,lv n b.len,PK.trans (by obtain⟨t,c,H⟩:=a.step.sub;exact⟨t,c,fun o k=>(H o k).2⟩) b.sub a.step.kQ.len,lv a.step.kQ.len b.ge,qi.trans (by rcases a.new with c|⟨s,p,c,_⟩<;>rw[c];exact qi.refl _;exact qi.app _ _) b.arx a.ext⟩,j⟩
theorem aco:∀{a b:List (List UInt8)},a.Perm b->∀v,nv v a=nv v b:=by
  intro a b h
  induction h with
  | nil=>exact fun _=>rfl
  | cons x _ ih=>exact fun v=>ih _
  | swap x y l=>intro v;simp only[nv];congr 1;rw[Nat.xor_assoc,Nat.xor_assoc,Nat.xor_comm (rO y)]
  | trans _ _ ih1 ih2=>exact fun v=>(ih1 v).trans (ih2 v)
theorem ZX:∀(l:List (List UInt8)) (v:Nat),v<18446744073709551616->nv v l<18446744073709551616
  | [],_,h=>h
  | x :: r,v,h=>ZX r _ (HW h (FO x))
structure ago (m m':Mk) (l l':List Ob) (es:List ej) (mp:List Nat) (f:Nat->List Nat) (e n:Nat) (od:List Nat):Prop where
  img:kT m' l' es mp (fun j=>if j∈od then f j ++ [e]else f j)
  ds:lG m.ai m'.ai
  same:m'.c=m.c/\m'.ak=m.ak/\m'.main=m.main/\m'.depth=m.depth/\∀i,i≠6->i≠7->i≠18->m'.bR i=m.bR i
  top:m'.b.length<=m.b.length+2100*n
  ge:m.b.length<=m'.b.length
  sub:PK m l l'
  arx:qi m.ai m'.ai
theorem lG.trans {a b c:List aP} (h:lG a b) (k:lG b c):lG a c:=⟨k.len.trans h.len,fun i x m=>by
  obtain⟨y,d,e,f⟩:=k.get i x m;obtain⟨z,g,j,l⟩:=h.get i y d;exact⟨z,g,e.trans j,f.trans l⟩⟩
theorem RB {es:List ej} {w:List Nat} {e:Nat} (v:e<18446744073709551616):∀(j:List Nat) (m:Mk) (l:List Ob) (f:Nat->List Nat),kT m l es w f->(∀i∈j,i<m.ai.length)->j.Nodup->(∀i∈j,(f i).length<900000)->m.b.length+2100*j.length<900000 ->
    ∃p,ago m (kE e j m) l p es w f e j.length j
  | [],m,l,f,h,_,_,_,_=>⟨l,⟨by simp only[List.not_mem_nil,if_false];exact h,lG.refl _,⟨q,q,q,q,fun _ _ _ _=>rfl⟩,Nat.le_refl _,Nat.le_refl _,PK.refl _ _,qi.refl _⟩⟩
  | i :: r,m,l,f,h,hi,hn,hl,hb=>by
    obtain⟨k,hk⟩:∃k,m.ai[i]? = some k:=⟨_,List.getElem?_eq_getElem (hi i Oy)⟩;simp only[List.length_cons]at hb;obtain⟨K,L,H⟩:=RD (e:=e) h.eD.ea hk (h.eD.data k (List.mem_of_getElem? hk)) (h.dat i k hk) Xx v (by have:=hl i Oy;omega);have g:=h.hang hk H;have n:lG m.ai (jT e i m).ai:=(by rw[H.dat];exact lG.set hk H.pos.1 H.pos.2.1);have u:=H.top;obtain⟨A,B,E,F,P⟩:=H.same;rw[nH];rw[List.nodup_cons]at hn;have y:∀a∈r,(if a=i then f i ++ [e]else f a)=f a:=fun a c=>if_neg (by rintro rfl;exact hn.1 c);obtain⟨p,d⟩:=RB v r (jT e i m) K _ g (fun a c=>by rw[n.len];exact hi a (by simp[c])) hn.2 (fun a c=>by simp only[y a c];exact hl a (by simp[c])) Xx;obtain⟨Q,R,I,T,J⟩:=d.same;have G:=d.top;refine⟨p,⟨?_,n.trans d.ds,⟨Q.trans A,R.trans B,I.trans E,T.trans F,fun a D s C=>(J a D s C).trans (P a D s C)⟩,by simp only[List.length_cons];omega,lv H.kQ.len d.ge,PK.trans (by obtain⟨t,e,u⟩:=H.sub;exact⟨t,e,fun o z=>(u o z).2⟩) d.sub H.kQ.len,qi.trans (by rw[H.dat];exact qi.set hk (H.arr.elim .inl fun h=>.inr ⟨_,h⟩)) d.arx n.ext⟩⟩;have x:(fun a=>if a∈i :: r then f a ++ [e]else f a)=fun a=>if a∈r then(if a=i then f i ++ [e]else f a) ++ [e]else if a=i then f i ++ [e]else f a:=by
      funext a
      by_cases c:a=i
      · subst c;simp[hn.1]
      · simp[c]
    rw[x];exact d.img
def places (es:List ej) (i:Nat):List Nat:=(es.filter fun g=>decide (i∈g.who)).map ej.pos
theorem WH (es:List ej) (g:ej) (i:Nat):places (es ++ [g]) i=if i∈g.who then places es i ++ [g.pos]else places es i:=by
  unfold places;rw[List.filter_append,List.map_append]
  by_cases h:i∈g.who
  · rw[if_pos h];simp[h]
  rw[if_neg h];simp[h]
theorem GQ (es:List ej) (i:Nat):(places es i).length<=es.length:=by unfold places;rw[List.length_map];exact List.length_filter_le _ _
structure wM (m:Mk) (g:ej):Prop where
  lt:∀i∈g.who,i<m.ai.length
  aH:g.ent.aH=g.who.map fun i=>{pos:=gD m.ai i,bY:=cH m (iO m.ai i)}
  yD:g.who.Pairwise fun a b=>gD m.ai a<gD m.ai b
  xor:g.ent.xor=nv 0 (g.who.map (iO m.ai))
  ok:i7.ok g.ent/\g.ent.seq≠0
  len:1<=g.who.length/\g.who.length<=16
structure PO (m:Mk) (g:ej) (r:Rec):Prop where
  seq:g.ent.seq=r.seq
  bH:g.ent.bH=r.bH
  mono:g.ent.mono=r.mono
  bC:g.ent.bC=r.bC
  ak:(g.who.map (iO m.ai)).Perm (r.ak.map au)
  yD:Asc r.ak
  right:∀q∈r.ak,right q.pb=true
theorem wM.ext {m m':Mk} {g:ej} (h:wM m g) (hd:oV m.ai m'.ai) (f:m'.c=m.c):wM m' g:=by
  have d:∀t,cH m' t=cH m t:=fun t=>by unfold cH;rw[f]
  refine⟨fun i a=>(hd.at (h.lt i a)).1,?_,?_,?_,h.ok,h.len⟩
  · rw[h.aH]
    exact List.map_congr_left fun i a=>by rw[(hd.at (h.lt i a)).2.1,(hd.at (h.lt i a)).2.2,d]
  · exact List.Pairwise.imp_of_mem (fun {e b} ha hb hab=>by rw[(hd.at (h.lt e ha)).2.1,(hd.at (h.lt b hb)).2.1];exact hab) h.yD
  rw[h.xor];congr 1;exact(List.map_congr_left fun i a=>(hd.at (h.lt i a)).2.2).symm
theorem PO.ext {m m':Mk} {g:ej} {r:Rec} (h:PO m g r) (w:wM m g) (hd:oV m.ai m'.ai):PO m' g r:=by refine⟨h.seq,h.bH,h.mono,h.bC,?_,h.yD,h.right⟩;have:g.who.map (iO m'.ai)=g.who.map (iO m.ai):=List.map_congr_left fun i A=>(hd.at (w.lt i A)).2.2;rw[this];exact h.ak
structure Img (m:Mk) (l:List Ob) (es:List ej):Prop where
  c:kT m l es (es.map ej.pos) (places es)
  n8:m.bR 8=es.length
  n9:m.bR 9<18446744073709551616
  n11:m.bR 11=m.main.getD 0 0
  n10:m.bR 10=(es.head?.map fun g=>g.ent.seq).getD 0
  who:∀g∈es,wM m g
  txt:∀k∈m.ai,∃q:Pr,right q.pb=true/\k.bQ=au q
theorem GR {es:List ej} {m:Mk} (h:∀g∈es,wM m g) (i:Nat) (hi:m.ai.length<=i):places es i=[]:=by unfold places;rw[List.map_eq_nil_iff,List.filter_eq_nil_iff];intro g A;simp only[decide_eq_true_eq];intro B;have:=(h g A).lt i B;omega
theorem kT.to {m m':Mk} {l:List Ob} {es:List ej} {i:List Nat} {f:Nat->List Nat} (h:kT m l es i f) (hb:m'.b=m.b) (a:m'.c=m.c) (hd:m'.ai=m.ai) (d:m'.ak=m.ak) (e:m'.main=m.main) (g:m'.bR 2=m.bR 2/\m'.bR 4=m.bR 4) (z:Cn m l->Cn m' l):kT m' l es i f:=by
  have D:∀t,cH m' t=cH m t:=fun t=>by unfold cH;rw[a]
  obtain⟨⟨o,p,G,H,q,r,s,u,v,j,n,C⟩,w,x,⟨P,Q⟩,R,y⟩:=h;exact⟨⟨by rw[hb];exact o,by rw[a];exact p,by rw[a];exact G,g.1.trans H,by rw[a];exact g.2.trans q,by rw[a];exact r,fun k hk=>by rw[hb,D];exact s k (hd ▸ hk),fun k hk=>by rw[hb,D];exact u k (d ▸ hk),by rw[hd];exact v,by rw[hd];exact j,by rw[d];exact n,z C⟩,by rw[hb,e];exact w,by rw[hb,hd];exact x,⟨by rw[hd,e];exact P,by rw[hd];exact Q⟩,by rw[hb];exact R,y⟩
theorem tH (z:Mk) (n seq bH mono e:Nat) (bC:Ly) (i:Nat) (h:i≠8/\i≠9/\i≠10/\i≠12/\i≠13/\i≠14):(nG z n seq bH mono e bC).bR i=z.bR i:=by
  unfold nG;simp only;have A:(if n=0 then(z.cE 10 seq).cE 12 bH else z).bR i=z.bR i:=by
    split
    · rw[cL Xx,cL Xx]
    · rfl
  generalize (if n=0 then(z.cE 10 seq).cE 12 bH else z)=y at *;rw[<- A];show((((y.cE 8 ((y.bR 8+1)%18446744073709551616)).cE 9 seq).cE 13 bH).cE 14 mono).bR i=y.bR i;rw[cL Xx,cL Xx,cL Xx,cL Xx]
theorem adp (z:Mk) (n seq bH mono e:Nat) (bC:Ly) (h:z.h.n.length=20):(nG z n seq bH mono e bC).bR 10=if n=0 then seq else z.bR 10:=by
  unfold nG;simp only;have A:(if n=0 then(z.cE 10 seq).cE 12 bH else z).bR 10=if n=0 then seq else z.bR 10:=by
    split
    · rw[cL Xx,BV Xx]
    · rfl
  generalize (if n=0 then(z.cE 10 seq).cE 12 bH else z)=y at *;rw[<- A];show((((y.cE 8 ((y.bR 8+1)%18446744073709551616)).cE 9 seq).cE 13 bH).cE 14 mono).bR 10=y.bR 10;rw[cL Xx,cL Xx,cL Xx,cL Xx]
theorem JD {ds:List aP} {c:List Nat} (h:c.Pairwise fun a b=>gD ds a<gD ds b):c.Nodup :=
  List.Pairwise.imp (fun {a b} hab e=>by subst e;exact Nat.lt_irrefl _ hab) h
theorem zV {fs:List Pr} (h:Asc fs) (a:∀q∈fs,right q.pb=true):(fs.map au).Nodup:=by
  unfold List.Nodup;rw[List.pairwise_map];exact List.Pairwise.imp_of_mem (fun {c b} ha hb hab e=>by
    have:=AJ (a c ha) (a b hb) e;subst this;exact CB _ hab) h
theorem DR:∀(fs:List Pr) (m:Mk) (ps:List (List UInt8)) (od:List Nat),∀k∈(gN fs m ps od).2.2.ai,k∈m.ai\/∃q∈fs,k.bQ=au q
  | [],m,_,_,k,hk=>.inl hk
  | x :: r,m,ps,od,k,hk=>by
    rcases DR r (m.data x).2 _ _ k hk with h|⟨q,h1,h2⟩
    · rcases JK k h with h|h
      · exact .inl h
      · exact .inr ⟨x,by simp,h⟩
    · exact .inr ⟨q,by simp[h1],h2⟩
structure akA (m m':Mk) (l l':List Ob) (es:List ej) (g:ej) (r:Rec):Prop where
  img:Img m' l' (es ++ [g])
  rcd:PO m' g r
  ext:oV m.ai m'.ai
  c:m'.c=m.c
  seq:r.seq=m.bR 9+1/\m'.bR 9=r.seq
  ge:m.b.length<=g.pos
  main:∃t,m'.main=m.main ++ t
  len:m.b.length<=m'.b.length
  bR:∀i,i<=5->m'.bR i=m.bR i
  sub:PK m l l'
  arx:qi m.ai m'.ai
theorem JC {m m':Mk} {l:List Ob} {es:List ej} {raw:List Pr} {bH mono s:Nat} {bC:Ly} (h:Img m l es) (ok:vv m) (h20:m.h.n.length=20) (hb:bC.length=16) (ax:bH<18446744073709551616/\mono<18446744073709551616) (I:m.append raw bH mono bC=(s,0,m')) :
    ∃bh g fs,jU raw=(fs,0)/\akA m m' l bh es g {seq:=s,bH:=bH,mono:=mono,bC:=bC,ak:=fs}:=by
  rcases hl:jU raw with⟨fs,c⟩
  by_cases u:c≠0
  · have e:m.append raw bH mono bC=(0,c,m):=by unfold Mk.append;simp only[hl];rw[if_pos u]
    rw[e]at I;exact absurd (congrArg (fun x=>x.2.1) I) u
  have aX:=Classical.not_not.1 u;subst aX
  by_cases X:m.bR 9=18446744073709551615
  · have e:m.append raw bH mono bC=(0,1,m):=by unfold Mk.append;simp only[hl];rw[if_neg u,if_pos X]
    rw[e]at I;have:=congrArg (fun x=>x.2.1) I;simp at this
  obtain⟨ap,ae,bv,a4,aR⟩:=ve hl;obtain⟨au,_⟩:=tP hl;have D:=uM fs m [] [] 0 (qx ok) au;obtain⟨aj,B,W⟩:=yJ fs [] m l [] [] es (es.map ej.pos) (places es) h.c (fun i j=>GR h.who i j) ⟨q,by simp,by simp,List.Pairwise.nil⟩ au (by rw[List.nil_append];exact zV ap ae);have aG:=zv fs m [] [];have am:=DR fs m [] []
  rcases hd:gN fs m [] []with⟨ps,G,x⟩
  rw[hd,Nat.zero_add]at D;rw[hd]at B W aG am;rw[List.nil_append]at W;simp only at D B W aG am;have bF:=ok.small;have s4:=ok.nb;have bz:=D.app.le;have ba:=D.len.1;have aT:=D.app.ge;obtain⟨c1,c2,c3⟩:=B.same;have n9:x.bR 9=m.bR 9:=c3 9 Xy Xy Xy;have n8:x.bR 8=m.bR 8:=c3 8 Xy Xy Xy;have Q:=h.n8;have bt:=h.n9;have bs:es.length<=40000:=by have:m.n8=es.length:=Q;omega
  have a1:=JD W.yD;have L:(x.bR 9+1)%18446744073709551616=m.bR 9+1:=by rw[n9];exact Nat.mod_eq_of_lt Xx
  generalize hE:({seq:=(x.bR 9+1)%18446744073709551616,bH:=bH,mono:=mono,bC:=bC,xor:=nv 0 ps,aH:=ji x G}:i7)=E;have bb:E.seq=m.bR 9+1/\E.bH=bH/\E.mono=mono/\E.bC=bC/\E.xor=nv 0 ps/\E.aH=ji x G:=by subst hE;exact⟨L,q,q,q,q,q⟩
  obtain⟨aa,aI,aJ,aK,aL,aM⟩:=bb;have bA:E.aH.length=G.length:=by rw[aM];simp[ji]
  have ag:E.bC.length=16:=by rw[aK];exact hb
  have aO:wM x ⟨x.b.length,E,G⟩:=by
    refine⟨W.lt,aM,W.yD,?_,⟨⟨?_,?_,?_,ag,?_⟩,?_⟩,?_⟩
    · simp only;rw[aL];exact aco W.perm.symm 0
    · simp only;rw[aa];omega
    · simp only;rw[aI];exact ax.1
    · simp only;rw[aJ];exact ax.2
    · simp only;rw[aL];exact ZX _ _ Xy
    · simp only;rw[aa];omega
    · simp only;rw[ba];exact⟨List.length_pos_iff.2 aR,a4⟩
  have bj:PO x ⟨x.b.length,E,G⟩ {seq:=m.bR 9+1,bH:=bH,mono:=mono,bC:=bC,ak:=fs}:=by refine⟨aa,aI,aJ,aK,?_,ap,ae⟩;simp only;rw[<- W.eq];exact W.perm
  have V:=B.img.entry (E:=E) (who:=G) ag Xx;have w:=(gH x (dc E));have os:=dU x (dc E);have K:∀i,i≠6->i≠7->(x.bV (dc E)).2.bR i=x.bR i:=fun i bD bE=>by simp only[Mk.bV];rw[cL Xx,cL Xx];rfl
  have aN:=rP x (dc E);have bB:=lU E ag
  rcases F:x.bV (dc E)with⟨e,C⟩
  rw[F]at V w os K aN;simp only at V w os K aN;have aZ:e=x.b.length:=w.1;subst aZ;have p:C.bR 8=(es.map ej.pos).length:=by rw[K 8 Xy Xy,n8,Q,List.length_map]
  have bu:x.b.length<100000:=by omega
  obtain⟨aE,A⟩:=NP (x:=x.b.length) V.eD.ea V.main (tX _) (by have:=w.2.1;omega) Xx;rw[<- p]at A;have v:=NT C C.main (C.bR 8) 176 x.b.length
  rcases hk:C.link C.main (C.bR 8) 176 x.b.length with⟨a,t,O⟩
  rw[hk]at A v;simp only at A v;have Y:=kX (bH:=bH) (mono:=mono) (bC:=bC) hl u X hd (by rw[hE];exact F) hk q;obtain⟨d,M⟩:∃d,d=(let aF:=({O with main:=a}:Mk).cE 11 (a.getD 0 0);({aF with h:={aF.h with cM:=jc a%4294967296,dh:=t%4294967296}}:Mk)):=⟨_,q⟩;have J:∀i,i≠11->d.bR i=O.bR i:=fun i j=>by subst M;exact aY Xx
  have aS:d.bR 11=a.getD 0 0:=by subst M;exact mR (by show 11<O.h.n.length;omega)
  have a9:d.b=O.b/\d.c=O.c/\d.ai=O.ai/\d.ak=O.ak/\d.main=a/\d.h.n.length=O.h.n.length:=by subst M;exact⟨q,q,q,q,q,by simp[Mk.cE]⟩
  rw[<- M]at Y;clear M;obtain⟨ad,aP,aQ,bo,an,bp⟩:=a9;have a5:=V.link A ad aP aQ bo an ⟨J 2 Xy,J 4 Xy⟩ (fun c=>c.to bp fun i j=>J i Xx);obtain⟨bm,bn,bI,bJ,bK,al⟩:=A.same;have bw:=A.top;have S:d.ai=x.ai:=by rw[aQ,bn,os.2.1]
  have a0:x.b.length<18446744073709551616:=by omega
  have Bk:=w.2.1;obtain⟨bi,H⟩:=RB (e:=x.b.length) a0 G d aE _ a5 (fun i j=>by rw[S];exact W.lt i j) a1 (fun i _=>by have:=GQ es i;omega) (by rw[ad];omega);have bx:=FV x.b.length G d;generalize kE x.b.length G d=z at *;have Y:m.append raw bH mono bC=if z.c.bG<z.b.length then(0,15,m)else((x.bR 9+1)%18446744073709551616,0,nG z (C.bR 8) ((x.bR 9+1)%18446744073709551616) bH mono x.b.length bC):=Y;rw[Y]at I;split at I
  · have:=congrArg (fun x=>x.2.1) I;simp at this
  obtain⟨aB,aC,Z,bg,ah,a6,a7,bf,aD⟩:=uT z (C.bR 8) ((x.bR 9+1)%18446744073709551616) bH mono x.b.length bC;have bd:=fun i (j:i<=5)=>tH z (C.bR 8) ((x.bR 9+1)%18446744073709551616) bH mono x.b.length bC i Xx;have be:=fun i (j:i≠8/\i≠9/\i≠10/\i≠12/\i≠13/\i≠14)=>tH z (C.bR 8) ((x.bR 9+1)%18446744073709551616) bH mono x.b.length bC i j;have a2:=adp z (C.bR 8) ((x.bR 9+1)%18446744073709551616) bH mono x.b.length bC;have a3:=tH z (C.bR 8) ((x.bR 9+1)%18446744073709551616) bH mono x.b.length bC 11 Xy;obtain⟨av,aV⟩:=Prod.mk.inj I;have aW:=(Prod.mk.inj aV).2;rw[L]at av;generalize nG z (C.bR 8) ((x.bR 9+1)%18446744073709551616) bH mono x.b.length bC=R at *;subst aW;subst av;obtain⟨bq,bL,z3,bM,z5⟩:=H.same;have ao:z.h.n.length=20:=by omega
  have a8:=(aD ao).1;have aq:=(aD ao).2;have br:z.bR 8=es.length:=by rw[z5 8 Xy Xy Xy,J 8 Xy,al 8 Xy Xy Xy,K 8 Xy Xy,n8,Q]
  have aU:oV x.ai z.ai:=by have:=H.ds.ext;rw[S]at this;exact this
  have P:oV x.ai R.ai:=by rw[Z];exact aU
  have af:R.c=x.c:=by rw[aC,bq,aP,bm,os.1]
  have ar:oV m.ai R.ai:=B.ext.trans P;refine⟨bi,⟨x.b.length,E,G⟩,fs,q,⟨⟨?_,?_,?_,?_,?_,?_,?_⟩,bj.ext aO P,ar,by rw[af,c1],⟨q,by rw[aq,L]⟩,aT,?_,?_,fun i j=>?_,?_,?_⟩⟩
  · have:=H.img.to (m':=R) aB aC Z bg ah ⟨a6,a7⟩ (fun c=>c.to bf fun i j=>be i Xx)
    rw[List.map_append];have bc:places (es ++ [⟨x.b.length,E,G⟩])=fun N=>if N∈G then places es N ++ [x.b.length]else places es N:=funext fun N=>WH es ⟨x.b.length,E,G⟩ N;rw[bc];exact this
  · show R.n8=_
    rw[a8,show z.n8=es.length from br,List.length_append,Nat.mod_eq_of_lt Xx];rfl
  · rw[aq,L];omega
  · rw[a3,ah,z5 11 Xy Xy Xy,aS,z3,an]
  · rw[a2 ao,p,List.length_map,z5 10 Xy Xy Xy,J 10 Xy,al 10 Xy Xy Xy,K 10 Xy Xy,c3 10 Xy Xy Xy,h.n10]
    cases es with
    | nil=>simp only[List.length_nil,if_true,List.nil_append,List.head?_cons,Option.map_some,Option.getD_some];rw[aa,L]
    | cons y r=>simp
  · intro g T
    rcases List.mem_append.1 T with T|T
    · exact(h.who g T).ext ar (by rw[af,c1])
    simp at T;subst T;exact aO.ext P af
  · intro k hk
    rw[Z]at hk;obtain⟨i,j⟩:=List.mem_iff_getElem?.1 hk;obtain⟨aA,aw,_,ay⟩:=H.ds.get i k j;rw[S]at aw
    rcases am aA (List.mem_of_getElem? aw)with U|⟨ab,U,u⟩
    · obtain⟨ab,u,X⟩:=h.txt aA U
      exact⟨ab,u,ay.trans X⟩
    exact⟨ab,ae ab U,ay.trans u⟩
  · rw[ah,z3,an]
    have f:C.main=m.main:=by rw[os.2.2.2,c2]
    rcases A.arr with e|e
    · exact⟨[],by rw[e,f,List.append_nil]⟩
    exact⟨_,by rw[e,f]⟩
  · rw[aB]
    have U:=A.kQ.len;have u:=H.ge;rw[ad]at u;omega
  · rw[bd i j,z5 i Xx Xx Xx,J i Xx,al i Xx Xx Xx,K i Xx Xx,c3 i Xx Xx Xx]
  · have bk:PK x aj (aj ++ [(⟨x.b.length,3,64+16*E.aH.length⟩:Ob)]):=⟨_,q,fun o F=>by simp at F;subst F;exact Nat.le_refl _⟩
    have bl:PK C (aj ++ [(⟨x.b.length,3,64+16*E.aH.length⟩:Ob)]) aE:=by
      rcases A.sub with e|e
      · rw[e];exact PK.refl _ _
      · exact⟨_,e,fun o F=>by simp at F;subst F;exact Nat.le_refl _⟩
    exact(B.sub.trans bk B.ge).trans (bl.trans H.sub (by rw[ad];exact A.kQ.len)) Xx
  have az:=H.arx;rw[S]at az;rw[Z];exact B.arx.trans az B.ext
def hk (m:Mk):Nat × Nat × Nat × List UInt8:=(m.h.gF,m.h.bM,m.h.state,m.h.bZ)
theorem alS {m M:Mk} (h:M.h=m.h):hk M=hk m:=by unfold hk;rw[h]
theorem YU (m:Mk) (l:List aP) (t p s:Nat):hk (m.hang l t p s).2=hk m:=by unfold hk;rw[(BQ m l t p s).1]
theorem adH (m:Mk) (x:Ly):hk (m.field x).2=hk m:=by
  unfold Mk.field;split
  · rfl
  simp only;have B:hk (m.bV (gu {bY:=cQ m.c.cB m.c.bZ x,b9:=0,dat:=0,au:=x})).2=hk m:=rfl;generalize m.bV (gu {bY:=cQ m.c.cB m.c.bZ x,b9:=0,dat:=0,au:=x})=r at *;obtain⟨p,A⟩:=r;simp only at B ⊢;have C:=YU A A.ak (A.bR 4) p (cQ m.c.cB m.c.bZ x%A.c.aC);generalize A.hang A.ak (A.bR 4) p (cQ m.c.cB m.c.bZ x%A.c.aC)=r at *;obtain⟨n,D⟩:=r;exact C.trans B
theorem agV (m:Mk) (x:Pr):hk (m.data x).2=hk m:=by
  unfold Mk.data;split
  · rfl
  simp only;have C:hk (m.bV (iw {bY:=cQ m.c.cB m.c.bZ (au x),b9:=0,d9:=0,entry:=0,array:=0,bB:=0,au:=au x})).2=hk m:=rfl;generalize m.bV (iw {bY:=cQ m.c.cB m.c.bZ (au x),b9:=0,d9:=0,entry:=0,array:=0,bB:=0,au:=au x})=r at *;obtain⟨p,A⟩:=r;simp only at C ⊢;have D:=YU A A.ai (A.bR 2) p (cQ m.c.cB m.c.bZ (au x)%A.c.ay);generalize A.hang A.ai (A.bR 2) p (cQ m.c.cB m.c.bZ (au x)%A.c.ay)=r at *;obtain⟨n,B⟩:=r;simp only at D ⊢;generalize hx5:({(B.cE 19 (max (B.bR 19) n)).cE 15 (((B.cE 19 (max (B.bR 19) n)).bR 15+1)%18446744073709551616)with ai:=((B.cE 19 (max (B.bR 19) n)).cE 15 (((B.cE 19 (max (B.bR 19) n)).bR 15+1)%18446744073709551616)).ai ++ [({bQ:=au x,pos:=p,bX:=cQ m.c.cB m.c.bZ (au x)%A.c.ay,bB:=0,aT:=[]}:aP)]}:Mk)=m5;have E:hk m5=hk B:=by subst hx5;rfl
  have F:=adH m5 x.name;generalize m5.field x.name=r at *;obtain⟨k,G⟩:=r;exact F.trans (E.trans (D.trans C))
theorem KA:∀(l:List Pr) (m:Mk) (ps:List (List UInt8)) (od:List Nat),hk (gN l m ps od).2.2=hk m
  | [],_,_,_=>rfl
  | x :: r,m,ps,od=>(KA r _ _ _).trans (agV m x)
theorem YV (m:Mk) (a:List Nat) (n src gP:Nat):hk (m.link a n src gP).2.2=hk m:=by
  unfold Mk.link;generalize eW a 0 0 0=r;obtain⟨A,C⟩:=r;simp only;split
  · have B:hk (m.bV (fe {next:=0,aH:=List.replicate (dn (a.length:Int)) 0})).2=hk m:=rfl
    generalize m.bV (fe {next:=0,aH:=List.replicate (dn (a.length:Int)) 0})=r at *;obtain⟨p,D⟩:=r;simp only at B ⊢;split
    · exact B
    exact B
  rfl
theorem RI (e:Nat):∀(a:List Nat) (m:Mk),hk (kE e a m)=hk m
  | [],_=>rfl
  | i :: r,m=>by
    rw[nH,RI e r];unfold jT;simp only;split
    · exact alS q
    · have g:=YV m (m.ai.getD i known0).aT ((m.ai.getD i known0).bB-1) ((m.ai.getD i known0).pos+48) e
      generalize m.link (m.ai.getD i known0).aT ((m.ai.getD i known0).bB-1) ((m.ai.getD i known0).pos+48) e=r at *;obtain⟨b,t,c⟩:=r;exact(alS q).trans g
theorem agW (z:Mk) (n seq bH mono e:Nat) (bC:Ly):hk (nG z n seq bH mono e bC)=hk z:=by
  unfold nG;simp only;generalize hy:(if n=0 then(z.cE 10 seq).cE 12 bH else z)=y;have:hk y=hk z:=by subst hy;split <;> rfl
  exact this
theorem rI (m:Mk) (raw:List Pr) (bH mono:Nat) (bC:Ly):hk (m.append raw bH mono bC).2.2=hk m/\((m.append raw bH mono bC).2.1≠0->(m.append raw bH mono bC).2.2=m):=by
  rcases hl:jU raw with⟨l,c⟩
  by_cases h2:c≠0
  · have d:m.append raw bH mono bC=(0,c,m):=by unfold Mk.append;simp only[hl];rw[if_pos h2]
    rw[d];exact⟨q,fun _=>rfl⟩
  by_cases h3:m.bR 9=18446744073709551615
  · have d:m.append raw bH mono bC=(0,1,m):=by unfold Mk.append;simp only[hl];rw[if_neg h2,if_pos h3]
    rw[d];exact⟨q,fun _=>rfl⟩
  have g:=KA l m [] []
  rcases hd:gN l m [] []with⟨I,D,x⟩
  rw[hd]at g;have i:hk (x.bV (dc {seq:=(x.bR 9+1)%18446744073709551616,bH:=bH,mono:=mono,bC:=bC,xor:=nv 0 I,aH:=ji x D})).2=hk x:=rfl
  rcases ho:x.bV (dc {seq:=(x.bR 9+1)%18446744073709551616,bH:=bH,mono:=mono,bC:=bC,xor:=nv 0 I,aH:=ji x D})with⟨d,A⟩
  rw[ho]at i;have G:=YV A A.main (A.bR 8) 176 d
  rcases hk3:A.link A.main (A.bR 8) 176 d with⟨a,t,C⟩
  rw[hk3]at G;simp only at g i G;have f:m.append raw bH mono bC=_:=kX (bH:=bH) (mono:=mono) (bC:=bC) hl h2 h3 hd ho hk3 q;have H:=RI d D (let e:=({C with main:=a}:Mk).cE 11 (a.getD 0 0);{e with h:={e.h with cM:=jc a%4294967296,dh:=t%4294967296}});have j:hk (let e:=({C with main:=a}:Mk).cE 11 (a.getD 0 0);({e with h:={e.h with cM:=jc a%4294967296,dh:=t%4294967296}}:Mk))=hk C:=rfl;rw[j]at H;generalize kE d D (let e:=({C with main:=a}:Mk).cE 11 (a.getD 0 0);{e with h:={e.h with cM:=jc a%4294967296,dh:=t%4294967296}})=z at f H;have f:m.append raw bH mono bC=if z.c.bG<z.b.length then(0,15,m)else((x.bR 9+1)%18446744073709551616,0,nG z (A.bR 8) ((x.bR 9+1)%18446744073709551616) bH mono d bC):=f;rw[f];split
  · exact⟨q,fun _=>rfl⟩
  refine⟨?_,fun h=>absurd q h⟩;show hk (nG _ _ _ _ _ _ _)=_;rw[agW,H,G,i,g]
theorem XD (n:Nat):qc (List.replicate n {first:=0,tail:=0})=nums (List.replicate (2*n) 0):=by
  induction n with
  | zero=>rfl
  | succ n ih =>
    rw[List.replicate_succ,qc,ih,show 2*(n+1)=(2*n+1)+1 by omega,List.replicate_succ,List.replicate_succ];simp[nums]
theorem aia {k:Nat} (hk:k=4\/k=5) (n:Nat):(∃r,dX k (List.replicate n {first:=0,tail:=0})=UW k (16+16*n) ++ r)/\(dX k (List.replicate n {first:=0,tail:=0})).length=16+16*n /\
    ∀i,i<2*n->dS (dX k (List.replicate n {first:=0,tail:=0})) (16+8*i)=0:=by
  have e:dX k (List.replicate n {first:=0,tail:=0})=qn k (nums (List.replicate (2*n) 0) ++ []):=by unfold dX;rw[if_neg Xx,XD,List.append_nil]
  obtain⟨A,B,C,_⟩:=aep (k:=k) Xx (List.replicate (2*n) 0) [] (fun v E=>by rw[(List.mem_replicate.1 E).2];decide);rw[<- e]at A B C;simp only[List.length_replicate,List.length_nil,Nat.add_zero]at A B;rw[show 16+8*(2*n)=16+16*n by omega]at A B;exact⟨A,by rw[B];unfold oS;omega,fun i D=>C i 0 (by rw[List.getElem?_replicate,if_pos D])⟩
def rR (c:nU):List Ob:=[⟨272,4,16+16*c.ay⟩,⟨288+16*c.ay,5,16+16*c.aC⟩]
structure aim (m:Mk):Prop where
  hk:hk m=(2,if m.c.cB then 4 else 0,1,m.c.bZ)
  n0:m.bR 0=272
  n3:m.bR 3=16*m.c.ay
  n5:m.bR 5=16*m.c.aC
theorem SE {c:nU} {t:Nat} (h:c.ay<=10/\c.aC<=10) (h1:1<=c.ay/\1<=c.aC) (w:t<1000000):Img (iB c t) (rR c) []/\aim (iB c t)/\(iB c t).bR 9=t:=by
  obtain⟨⟨T,j⟩,l,_⟩:=aia (k:=4) (.inl q) c.ay;obtain⟨⟨v,m⟩,p,_⟩:=aia (k:=5) (.inr q) c.aC;have e:(iB c t).b=List.replicate 272 0 ++ dX 4 (List.replicate c.ay {first:=0,tail:=0}) ++ dX 5 (List.replicate c.aC {first:=0,tail:=0}):=rfl;have a:(iB c t).h.n=(((((((((List.replicate 20 0).set 0 272).set 2 288).set 3 (16*c.ay)).set 4 ((List.replicate 272 (0:UInt8) ++ dX 4 (List.replicate c.ay {first:=0,tail:=0})).length+16)).set 5 (16*c.aC)).set 6 ((List.replicate 272 (0:UInt8) ++ dX 4 (List.replicate c.ay {first:=0,tail:=0})).length)).set 7 2).set 9 t):=rfl;have D:(List.replicate 272 (0:UInt8) ++ dX 4 (List.replicate c.ay {first:=0,tail:=0})).length=288+16*c.ay:=by rw[List.length_append,List.length_replicate,l];omega
  have s:(iB c t).b.length=304+16*c.ay+16*c.aC:=by rw[e,List.length_append,D,p];omega
  rw[D]at a;have bR:∀i,(iB c t).bR i=(iB c t).h.n.getD i 0:=fun _=>rfl;generalize hT4:dX 4 (List.replicate c.ay {first:=0,tail:=0})=T4 at *;generalize hT5:dX 5 (List.replicate c.aC {first:=0,tail:=0})=T5 at *;have Q:seg (iB c t).b 272 16=UW 4 (16+16*c.ay):=by rw[e,List.append_assoc,iy (by rw[List.length_replicate];exact Nat.le_refl _),List.length_replicate,Nat.sub_self,j,List.append_assoc];exact lX _ _ (jY _ _).symm
  have R:seg (iB c t).b (288+16*c.ay) 16=UW 5 (16+16*c.aC):=by rw[e,iy Xx,D,Nat.sub_self,m];exact lX _ _ (jY _ _).symm
  have u:oS (16+16*c.ay)=16+16*c.ay:=by unfold oS;omega
  have u5:oS (16+16*c.aC)=16+16*c.aC:=by unfold oS;omega
  have r:fF (iB c t).b 272 (rR c) (iB c t).b.length:=by refine⟨q,by simp,by simp,by simp only;omega,by simp only;omega,Q,?_⟩;simp only[u];rw[show 272+(16+16*c.ay)=288+16*c.ay by omega];refine⟨q,by simp,by simp,by simp only;omega,by simp only;omega,R,?_⟩;simp only[u5,fF];rw[s];omega
  have d:(iB c t).ai=[]:=rfl;have P:(iB c t).ak=[]:=rfl;have H:(iB c t).main=[]:=rfl;have f:(iB c t).c=c:=rfl;have G:Cn (iB c t) (rR c):=by
    refine⟨by rw[a];simp,by rw[bR,a,rR];rfl,by rw[bR,a];rfl,by rw[bR,a];rfl,by rw[bR,a];simp[rR],fun o g=>?_⟩;simp[rR]at g
    rcases g with rfl|rfl
    · exact⟨by simp,by simp,fun _=>⟨c.ay,h1.1,q⟩⟩
    · exact⟨by simp,by simp,fun _=>⟨c.aC,h1.2,q⟩⟩
  have C:dS (iB c t).b 176=0:=by rw[e,qu (by rw[D];omega),qu (by rw[List.length_replicate];omega)];show AZ (((List.replicate 272 0).drop 176).take 8)=0;rw[List.drop_replicate,List.take_replicate];rfl
  refine⟨⟨⟨⟨r,by rw[f];simp[rR],by rw[f];simp[rR],by rw[bR,a];rfl,by rw[bR,a];simp only[f];show _+16=_;omega,by rw[f];exact h1,by rw[d];simp,by rw[P];simp,by rw[d];simp,by simp[rR],by simp[rR],G⟩,?_,by rw[d];simp,⟨by rw[d];simp,by rw[d];simp⟩,by simp,by simp[rR]⟩,by rw[bR,a];rfl,by rw[bR,a];show t<_;omega,by rw[bR,a,H];rfl,by rw[bR,a];rfl,by simp,by rw[d];simp⟩,⟨q,by rw[bR,a];rfl,by rw[bR,a];rfl,by rw[bR,a];rfl⟩,by rw[bR,a];rfl⟩;rw[H];exact⟨C,by simp,by simp,by simp,by simp,Nat.le_refl _,Nat.le_refl _⟩
structure nV (m:Mk) (l:List Ob) (es:List ej) (rs:List Rec):Prop where
  img:Img m l es
  ok:vv m
  h20:m.h.n.length=20
  hd:aim m
  len:es.length=rs.length
  rcd:∀(i:Nat) (g:ej) (r:Rec),es[i]? = some g->rs[i]? = some r->PO m g r
  rise:rs.Pairwise fun a b=>a.seq<b.seq
  top:∀r∈rs,1<=r.seq/\r.seq<=m.bR 9
structure sw (m m':Mk) (l l':List Ob) (es es':List ej) (rs rs':List Rec):Prop where
  es:∃t,es'=es ++ t/\∀g∈t,m.b.length<=g.pos
  rs:∃t,rs'=rs ++ t
  main:∃t,m'.main=m.main ++ t
  ext:oV m.ai m'.ai
  c:m'.c=m.c
  len:m.b.length<=m'.b.length
  bR:∀i,i<=5->m'.bR i=m.bR i
  sub:PK m l l'
  arx:qi m.ai m'.ai
theorem sw.refl (m:Mk) (l:List Ob) (es:List ej) (rs:List Rec):sw m m l l es es rs rs:=⟨⟨[],by simp,by simp⟩,⟨[],by simp⟩,⟨[],by simp⟩,oV.refl _,q,Nat.le_refl _,fun _ _=>rfl,PK.refl _ _,qi.refl _⟩
theorem sw.trans {a b c:Mk} {l m n:List Ob} {es f j:List ej} {rs o p:List Rec} (h:sw a b l m es f rs o) (k:sw b c m n f j o p):sw a c l n es j rs p:=by have d:=h.len;obtain⟨v,D,C⟩:=h.es;obtain⟨y,s,H⟩:=k.es;obtain⟨w,q⟩:=h.rs;obtain⟨P,t⟩:=k.rs;obtain⟨x,r⟩:=h.main;obtain⟨u3,u⟩:=k.main;exact⟨⟨v ++ y,by rw[s,D,List.append_assoc],fun g G=>(List.mem_append.1 G).elim (C g) fun h=>lv d (H g h)⟩,⟨w ++ P,by rw[t,q,List.append_assoc]⟩,⟨x ++ u3,by rw[u,r,List.append_assoc]⟩,h.ext.trans k.ext,k.c.trans h.c,lv h.len k.len,fun i e=>(k.bR i e).trans (h.bR i e),h.sub.trans k.sub d,h.arx.trans k.arx h.ext⟩
theorem FM {x fs:List Pr} (h:jU x=(fs,0)) (c:Asc x):fs=x:=by obtain⟨a,_,b,_⟩:=ve h;exact Yf a c b
theorem YS:∀(l o x:List Pr) (c:Nat),UU l o=(x,c)->c≠0->x=[]
  | [],o,x,c,h,hc=>by
    unfold UU at h;split at h
    · exact(Prod.mk.inj h).1.symm
    · exact absurd (Prod.mk.inj h).2.symm hc
  | p :: r,o,x,c,h,hc=>by
    unfold UU at h;split at h
    · exact(Prod.mk.inj h).1.symm
    · exact YS r _ x c h hc
theorem aaH (l:List Pr):Asc (jU l).1:=by
  rcases h:jU l with⟨x,c⟩
  by_cases hc:c=0
  · subst hc;exact(ve h).1
  unfold jU at h;split at h
  · rw[<- (Prod.mk.inj h).1];exact List.Pairwise.nil
  rw[YS _ _ _ _ h hc];exact List.Pairwise.nil
theorem CU {α:Type} {l:List α} {p a:α} {k:Nat} (h:(l ++ [p])[k]? = some a):(k<l.length/\l[k]? = some a)\/(k=l.length/\a=p):=by
  rcases Nat.lt_or_ge k l.length with hk|hk
  · rw[List.getElem?_append_left hk]at h;exact .inl ⟨hk,h⟩
  have B:=(List.getElem?_eq_some_iff.1 h).1;simp at B;rw[List.getElem?_append_right hk,show k-l.length=0 by omega]at h;exact .inr ⟨by omega,by simpa using h.symm⟩
theorem Pw {m m':Mk} {l:List Ob} {es:List ej} {rs:List Rec} {r:Rec} {s:Nat} (h:nV m l es rs) (B:r.seq=(m.bR 9+1)%18446744073709551616) (hb:r.bC.length=16) (A:r.bH<18446744073709551616/\r.mono<18446744073709551616) (x:Asc r.ak) (p:m.append r.ak r.bH r.mono r.bC=(s,0,m')) :
    ∃d o,nV m' d o (rs ++ [r])/\sw m m' l d es o rs (rs ++ [r]):=by
  have C:=zu m r.ak r.bH r.mono r.bC;have t:=yG (raw:=r.ak) (bH:=r.bH) (mono:=r.mono) h.ok hb (C.trans h.h20);have D:=(rI m r.ak r.bH r.mono r.bC).1;rw[p]at C t D;obtain⟨d,g,F,w,a⟩:=JC h.img h.ok h.h20 hb A p;have H:=FM w x;subst H;have T:=h.img.n9;have P:s=m.bR 9+1:=a.seq.1;have E:m'.bR 9=s:=a.seq.2;have R:=a.img.n9;have j:r.seq=s:=by rw[B,P];exact Nat.mod_eq_of_lt Xx
  have u:({seq:=s,bH:=r.bH,mono:=r.mono,bC:=r.bC,ak:=r.ak}:Rec)=r:=by cases r;simp only at j;subst j;rfl
  have e:=a.rcd;rw[u]at e;refine⟨d,es ++ [g],⟨a.img,t,C.trans h.h20,⟨?_,?_,?_,?_⟩,by simp[h.len],fun i k Q v f=>?_,?_,fun y b=>?_⟩,⟨⟨_,q,fun y b=>by simp at b;subst b;exact a.ge⟩,⟨_,q⟩,a.main,a.ext,a.c,a.len,a.bR,a.sub,a.arx⟩⟩
  · rw[D,h.hd.hk,a.c]
  · rw[a.bR 0 Xy];exact h.hd.n0
  · rw[a.bR 3 Xy,a.c];exact h.hd.n3
  · rw[a.bR 5 Xy,a.c];exact h.hd.n5
  · rcases CU v with⟨M,K⟩|⟨M,rfl⟩
    · rcases CU f with⟨_,G⟩|⟨G,_⟩
      · exact(h.rcd i k Q K G).ext (h.img.who k (List.mem_of_getElem? K)) a.ext
      have:=h.len;omega
    rcases CU f with⟨G,_⟩|⟨_,rfl⟩
    · have:=h.len;omega
    exact e
  · refine List.pairwise_append.2 ⟨h.rise,by simp,fun y b z n=>?_⟩
    simp at n;subst n;have:=(h.top y b).2;omega
  rw[E]
  rcases List.mem_append.1 b with b|b
  · have:=h.top y b;omega
  simp at b;subst b;omega
theorem wG (s:Sq) (n:Nat):(s.record n).1.seq=n/\(s.record n).1.bC.length=16/\((s.record n).1.bH<18446744073709551616/\(s.record n).1.mono<18446744073709551616)/\Asc (s.record n).1.ak:=by
  refine⟨?_,uw s n,?_⟩
  · rcases h1:s.pairs 4 with⟨F,A⟩
    rcases h2:A.bR 40 with⟨a,B⟩
    rcases h3:B.bR 9 with⟨b,C⟩
    rcases h4:C.bR 3 with⟨c,G⟩
    simp only[Sq.record,h1,h2,h3,h4]
  rcases h1:s.pairs 4 with⟨F,A⟩
  rcases h2:A.bR 40 with⟨a,B⟩
  rcases h3:B.bR 9 with⟨b,C⟩
  rcases h4:C.bR 3 with⟨c,G⟩
  have D:=A.j7 40;have E:=B.j7 9;rw[h2]at D;rw[h3]at E;simp only[Sq.record,h1,h2,h3,h4];simp only at D E;exact⟨by omega,aaH F⟩
theorem KL:∀(n:Nat) (s:Sq) (m:Mk) (l:List Ob) (es:List ej) (rs:List Rec),nV m l es rs ->
    ∃d b,nV (iW n s m rs).1 d b (iW n s m rs).2.1/\sw m (iW n s m rs).1 l d es b rs (iW n s m rs).2.1/\(iW n s m rs).2.1.length<=rs.length+n
  | 0,s,m,l,es,rs,h=>⟨l,es,h,sw.refl _ _ _ _,Nat.le_refl _⟩
  | n+1,s,m,l,es,rs,h=>by
    unfold iW;split
    · have a:=wG s ((m.bR 9+1)%18446744073709551616)
      rcases hrec:s.record ((m.bR 9+1)%18446744073709551616)with⟨r,s1⟩
      rw[hrec]at a;have hk:=(rI m r.ak r.bH r.mono r.bC).2
      rcases ha:m.append r.ak r.bH r.mono r.bC with⟨e,c,m1⟩
      rw[ha]at hk;simp only[ha];split
      · rename_i hc
        have:=hk hc;simp only at this;subst this;exact⟨l,es,h,sw.refl _ _ _ _,Nat.le_add_right _ _⟩
      · rename_i hc
        have k:c=0:=Classical.not_not.1 hc;subst k;obtain⟨q,g,i,j⟩:=Pw h a.1 a.2.1 a.2.2.1 a.2.2.2 ha;obtain⟨d,b,o,p,f⟩:=KL n s1 m1 q g _ i;exact⟨d,b,o,j.trans p,by rw[List.length_append]at f;simp only[List.length_singleton]at f;omega⟩
    · exact⟨l,es,h,sw.refl _ _ _ _,Nat.le_add_right _ _⟩
theorem aee {s e:Sq} {bG:Nat} {m:Mk} {rs:List Rec} (h:s.oO bG=(m,rs,e)):∃l es,nV m l es rs/\rs.length<=bG:=by
  have a:=uL s
  rcases h1:s.config with⟨c,E⟩
  rcases h2:E.bR 6 with⟨t,H⟩
  rw[h1]at a;have b:=E.j7 6;rw[h2]at b;simp only at b a;simp only[Sq.oO,h1,h2]at h;obtain⟨d,G,f⟩:=SE (c:=c) (t:=t) a.1 a.2.1 Xx;obtain⟨l,es,C,_,D⟩:=KL bG H (iB c t) (rR c) [] [] ⟨d,xG a.1 a.2.1 a.2.2,q,G,q,by simp,List.Pairwise.nil,by simp⟩;rw[h]at C D;exact⟨l,es,C,by simpa using D⟩
def pX (aH:List Nat) (c r:Nat):List Nat:=(List.range r).map fun j=>aH.getD (c+j) 0
theorem pY (aH:List Nat) (c r:Nat):pX aH c (r+1)=aH.getD c 0 :: pX aH (c+1) r:=by unfold pX;rw[List.range_succ_eq_map,List.map_cons,List.map_map];congr 1;exact List.map_congr_left fun j _=>by simp only[Function.comp];congr 1;omega
theorem acB {b:Ly} {l:List Ob} {src:Nat} {av aH:List Nat} (h:Chain b l src av aH) (e:fF b 272 l b.length) {k a:Nat} (c:av[k]? = some a):gw 272 b a=({next:=av.getD (k+1) 0,aH:=pX aH (kU k) (dn (k:Int))},0):=by have D:=e.mem (h.ob k a c);have C:=h.le e c;have i:=pW (k:=(k:Int)) Xx;have d:=tJ D Xy Zx;simp only at d;unfold gw;rw[if_neg Xx];unfold jP;rw[d];simp only;rw[if_neg Oy,if_neg Oy,if_neg Xx,show(24+8*dn (k:Int)-24)/8=dn (k:Int)by omega,h.next k a c];congr 2;unfold fJ pX;exact List.map_congr_left fun g f=>h.gP k a g c (List.mem_range.1 f)
structure ru (b:Ly) (aH:List Nat):Prop where
  ok:∀x∈aH,x≠0/\x<b.length
  yD:aH.Pairwise (· < ·)
theorem ru.get {b:Ly} {aH:List Nat} (h:ru b aH) {i:Nat} (hi:i<aH.length):aH.getD i 0≠0/\aH.getD i 0<b.length:=by
  have:aH.getD i 0∈aH:=by rw[List.getD_eq_getElem?_getD,List.getElem?_eq_getElem hi];exact List.getElem_mem hi
  exact h.ok _ this
theorem ru.lt {b:Ly} {aH:List Nat} (h:ru b aH) {i j:Nat} (c:i<j) (a:j<aH.length):aH.getD i 0<aH.getD j 0:=by rw[List.getD_eq_getElem?_getD,List.getD_eq_getElem?_getD,List.getElem?_eq_getElem Xx,List.getElem?_eq_getElem a];exact List.pairwise_iff_getElem.1 h.yD i j Xx a c
theorem abV {aH:List Nat} {c:Nat} (b:0<c) (a:c<=aH.length):qD (aH.take c)=aH.getD (c-1) 0:=by unfold qD;rw[List.getLast?_eq_getElem?,List.length_take,List.getElem?_take,Nat.min_eq_left a,if_pos Xx,List.getD_eq_getElem?_getD]
theorem YX {b:Ly} {aH:List Nat} (h:ru b aH) {c:Nat} (a:c<aH.length):oN (aH.take c) (aH.getD c 0)=0:=by
  unfold oN
  by_cases h0:c=0
  · subst h0;simp
  rw[abV Xx Xx,if_neg];have:=h.lt (i:=c-1) (j:=c) Xx a;omega
theorem HN {aH:List Nat} {c:Nat} (a:c<aH.length):aH.take c ++ [aH.getD c 0]=aH.take (c+1):=by rw[List.take_add_one,List.getD_eq_getElem?_getD,List.getElem?_eq_getElem a];rfl
theorem EF {aH:List Nat} {c:Nat} (a:aH.length<=c):aH.getD c 0=0:=by rw[List.getD_eq_getElem?_getD,List.getElem?_eq_none a];rfl
theorem JP {b:Ly} {aH:List Nat} {bG:Nat} (h:ru b aH):∀(r c:Nat),c<=aH.length->c<=bG ->
    lD b bG (pX aH c r) (aH.take c)=if bG<=aH.length\/c+r<=aH.length then(aH.take (min bG (c+r)),0)else(aH,2)
  | 0,c,hc,hm=>by show(aH.take c,0)=_;rw[if_pos (.inr Xx),Nat.add_zero,Nat.min_eq_right hm]
  | r+1,c,hc,hm=>by
    have a:(aH.take c).length=c:=(by rw[List.length_take];omega);rw[pY,lD,a]
    by_cases h1:bG<=c
    · rw[if_pos h1,if_pos (.inl Xx),Nat.min_eq_left Xx,show bG=c by omega]
    · rw[if_neg h1]
      by_cases h2:c<aH.length
      · have d:=h.get h2
        rw[if_neg Xx,YX h h2,if_neg Oy,HN h2,JP h r (c+1) Xx Xx,show c+1+r=c+(r+1)by omega]
      · rw[EF Xx,if_pos (.inl q),if_neg Xx,List.take_of_length_le Xx]
theorem WY (ps:List Nat) (c r:Nat):pX (ps.drop 1) c r=pX ps (c+1) r:=by
  unfold pX;exact List.map_congr_left fun j _=>by rw[List.getD_eq_getElem?_getD,List.getElem?_drop,List.getD_eq_getElem?_getD];congr 2;omega
theorem HO {m:Mk} (h:∀k∈m.ai,∃q:Pr,right q.pb=true/\k.bQ=au q) {k:aP} (hk:k∈m.ai):1<=k.bQ.length:=by obtain⟨q,_,A⟩:=h k hk;have:=ic q;rw[A];omega
def JH (m:Mk) (k:aP) (ps:List Nat):gW:={bY:=cH m k.bQ,b9:=dS m.b (k.pos+24),d9:=dS m.b (k.pos+32),entry:=ps.getD 0 0,array:=k.aT.getD 0 0,bB:=ps.length,au:=k.bQ}
theorem V8 {m:Mk} {l:List Ob} {es:List ej} {j:List Nat} {f:Nat->List Nat} {i:Nat} {k:aP} (h:kT m l es j f) (hk:m.ai[i]? = some k) (o:1<=k.bQ.length):eU 272 m.b k.pos=(JH m k (f i),0):=by have G:=h.eD.ea;have C:=h.eD.data k (List.mem_of_getElem? hk);have a:=h.dat i k hk;have c:=G.mem C.ob;have H:=dI (64+k.bQ.length);have d:=c.ge;have e:=c.le;simp only at d e;unfold eU;rw[if_neg Xx];have D:=ajL (k:=1) (n:=6) c Xy Zx q Zx;simp only at D;rw[(wF D).2 Oy |>.2];rw[show k.pos+16+8*6=k.pos+64 by omega,show 64+k.bQ.length-(16+8*6)=k.bQ.length by omega,C.bQ];congr 1;have g:fJ m.b (k.pos+16) 6=[dS m.b (k.pos+16),dS m.b (k.pos+24),dS m.b (k.pos+32),dS m.b (k.pos+40),dS m.b (k.pos+48),dS m.b (k.pos+56)]:=rfl;rw[g,C.bY,a.ent,a.chain.word,a.word];rfl
theorem ajV {m:Mk} {l:List Ob} {es:List ej} {d:List Nat} {f:Nat->List Nat} {i:Nat} {k:aP} (h:kT m l es d f) (hk:m.ai[i]? = some k) (a:1<=k.bQ.length):iY m.c.cB m.c.bZ 272 m.b k.pos=(JH m k (f i),0) :=
  ZF (V8 h hk a) (n:=cH m k.bQ) q q
theorem RN:∀{l:List mh} {i:Nat} {x:mh},l[i]? = some x->x.pos<18446744073709551616->x.bY<18446744073709551616->dS (lg l) (16*i)=x.pos/\dS (lg l) (16*i+8)=x.bY
  | [],_,_,h,_,_=>by simp at h
  | y :: l,0,x,h,h1,h2=>by simp at h;subst h;exact⟨lQ (l:=[y.pos,y.bY]) (i:=0) q h1,lQ (l:=[y.pos,y.bY]) (i:=1) q h2⟩
  | y :: l,i+1,x,h,h1,h2=>by have c:(nums [y.pos,y.bY]).length=16:=rfl;obtain⟨a,b⟩:=RN (l:=l) (i:=i) (by simpa using h) h1 h2;rw[lg,gO Xx,gO Xx,c,show 16*(i+1)-16=16*i by omega,show 16*(i+1)+8-16=16*i+8 by omega];exact⟨a,b⟩
theorem ajB {m:Mk} {l:List Ob} {g:ej} (a:Stat m l) (w:wM m g) (hb:m.b.length<1000000) {x:mh} (c:x∈g.ent.aH):x.pos<18446744073709551616/\x.bY<18446744073709551616:=by rw[w.aH]at c;obtain⟨i,d,rfl⟩:=List.mem_map.1 c;have e:=w.lt i d;have hk:m.ai[i]? = some m.ai[i]:=List.getElem?_eq_getElem e;have:=(a.ea.mem (a.data _ (List.mem_of_getElem? hk)).ob).le;have:=dI (64+(m.ai[i]).bQ.length);simp only at this ⊢;rw[(j8 hk).2];exact⟨by simp only at *;omega,tL _ _⟩
theorem adk {m:Mk} {l:List Ob} {es:List ej} {Z:List Nat} {f:Nat->List Nat} {g:ej} (h:kT m l es Z f) (w:wM m g) (Y:g∈es) (hb:m.b.length<1000000):iP 272 m.b g.pos=(g.ent,0):=by
  have O:=h.eD.ea;have F:=h.ent g Y;have u:=O.mem F.ob;have ae:=dI (64+16*g.ent.aH.length);have V:=u.ge;have W:=u.le;have ad:g.ent.aH.length=g.who.length:=by rw[w.aH,List.length_map]
  have ab:=w.len;obtain⟨⟨S,U,n,e,o⟩,p⟩:=w.ok;simp only at V W;unfold iP;rw[if_neg Xx];have G:=Y5 (k:=3) (ahead:=48) (gP:=16) u Xy Zx q Zx Zx;simp only at G;unfold mZ;rw[G];simp only;rw[if_neg Oy]
  -- the body
  have N:seg m.b (g.pos+16) (64+16*g.ent.aH.length-16)=nums [g.ent.seq,g.ent.bH,g.ent.mono] ++ g.ent.bC ++ nums [g.ent.xor] ++ lg g.ent.aH:=by rw[TV F.seg Xx];unfold dc;have H:(nums [g.ent.seq,g.ent.bH,g.ent.mono] ++ g.ent.bC ++ nums [g.ent.xor] ++ lg g.ent.aH).length=48+16*g.ent.aH.length:=(by simp[eC,uY,e];omega);rw[xX Xx,List.append_assoc (UW _ _),iy (by rw[jY];omega),jY,Nat.sub_self];exact lX _ _ (by rw[H];omega)
  rw[N];generalize hX:nums [g.ent.seq,g.ent.bH,g.ent.mono] ++ g.ent.bC ++ nums [g.ent.xor] ++ lg g.ent.aH=X;have j:(nums [g.ent.seq,g.ent.bH,g.ent.mono]).length=24:=rfl;have Q:(nums [g.ent.xor]).length=8:=rfl;have z:X.length=48+16*g.ent.aH.length:=by rw[<- hX];simp[eC,uY,e];omega
  have d:X=nums [g.ent.seq,g.ent.bH,g.ent.mono] ++ (g.ent.bC ++ (nums [g.ent.xor] ++ lg g.ent.aH)):=by rw[<- hX];simp only[List.append_assoc]
  have R:dS X 0=g.ent.seq:=by rw[d];exact lQ (l:=[g.ent.seq,g.ent.bH,g.ent.mono]) (i:=0) q S
  have aa:dS X 8=g.ent.bH:=by rw[d];exact lQ (l:=[g.ent.seq,g.ent.bH,g.ent.mono]) (i:=1) q U
  have I:dS X 16=g.ent.mono:=by rw[d];exact lQ (l:=[g.ent.seq,g.ent.bH,g.ent.mono]) (i:=2) q n
  have J:(X.drop 24).take 16=g.ent.bC:=by
    have:seg X 24 16=g.ent.bC:=(by rw[d,iy Xx,j,Nat.sub_self];exact lX _ _ e.symm);exact this
  have K:dS X 40=g.ent.xor:=by rw[d,gO Xx,j,gO Xx,e];exact lQ (l:=[g.ent.xor]) (i:=0) q o
  have v:pu X 48 ((X.length-48)/16)=g.ent.aH:=by
    rw[z,show(48+16*g.ent.aH.length-48)/16=g.ent.aH.length by omega];apply List.ext_getElem?;intro i;unfold pu;rw[List.getElem?_map]
    by_cases hi:i<g.ent.aH.length
    · rw[List.getElem?_range hi,List.getElem?_eq_getElem hi]
      have A:=ajB h.eD w hb (List.getElem_mem hi);obtain⟨L,T⟩:=RN (List.getElem?_eq_getElem hi) A.1 A.2;have r:dS X (48+16*i)=(g.ent.aH[i]).pos:=(by rw[d,gO Xx,j,gO Xx,e,gO Xx,Q,show 48+16*i-24-16-8=16*i by omega];exact L);have t:dS X (48+16*i+8)=(g.ent.aH[i]).bY:=(by rw[d,gO Xx,j,gO Xx,e,gO Xx,Q,show 48+16*i+8-24-16-8=16*i+8 by omega];exact T);simp only[Option.map_some,Option.some.injEq];rw[r,t]
    · rw[List.getElem?_eq_none (by simpa using hi),List.getElem?_eq_none Xx];rfl
  have M:IG X=g.ent:=by unfold IG;rw[R,aa,I,J,K,v]
  unfold N9;rw[M,R,if_neg p,if_neg];intro P;have:yq g.ent.aH=true:=by
    rw[vl];intro s x y C D;rw[w.aH]at C D;rw[List.getElem?_map]at C D;cases hwx:g.who[s]? with
    | none=>rw[hwx]at C;cases C
    | some a =>
      cases hwy:g.who[s+1]? with
      | none=>rw[hwy]at D;cases D
      | some c =>
        rw[hwx]at C;rw[hwy]at D;simp only[Option.map_some,Option.some.injEq]at C D;subst C;subst D;simp only;have B:=(List.getElem?_eq_some_iff.1 hwx);have E:=(List.getElem?_eq_some_iff.1 hwy);have:=List.pairwise_iff_getElem.1 w.yD s (s+1) B.1 E.1 Xx;rw[B.2,E.2]at this;exact this
  rw[this]at P;cases P
theorem Un {q:Pr} (h:right q.pb=true):iH (au q)=(q,0):=by obtain⟨a,b⟩:=oz ((mI _).2 h);have c:gG (au q)=0:=a;have d:nk (au q)=q.pb:=b;unfold iH;rw[c,d];rfl
theorem TL {m:Mk} {l:List Ob} {es:List ej} {B:List Nat} {f:Nat->List Nat} (h:kT m l es B f) (g:∀k∈m.ai,∃q:Pr,right q.pb=true/\k.bQ=au q):∀(d:List Nat) (fs:List Pr) (all:List (List UInt8)),(∀i∈d,i<m.ai.length) ->
    ∃a:List Pr,jV m.c.cB m.c.bZ 272 m.b (d.map fun i=>{pos:=gD m.ai i,bY:=cH m (iO m.ai i)}) fs all=((fs ++ a,all ++ d.map (iO m.ai)),0)/\a.map au=d.map (iO m.ai)/\∀q∈a,right q.pb=true
  | [],fs,all,_=>⟨[],by simp[jV],rfl,by simp⟩
  | i :: r,fs,all,hw=>by
    have x:=hw i Oy;have hk:m.ai[i]? = some m.ai[i]:=List.getElem?_eq_getElem x;obtain⟨q,o,e⟩:=g _ (List.mem_of_getElem? hk);have z:=ajV h hk (HO g (List.mem_of_getElem? hk));obtain⟨n,C⟩:=j8 hk;obtain⟨a,t,u,v⟩:=TL h g r (fs ++ [q]) (all ++ [iO m.ai i]) (fun A w=>hw A (by simp[w]));refine⟨q :: a,?_,by rw[List.map_cons,List.map_cons,u,n,e],fun y j=>?_⟩
    · rw[List.map_cons,jV]
      simp only[C,z];have p:(JH m m.ai[i] (f i)).au=au q:=e;have s:(JH m m.ai[i] (f i)).bY=cH m (iO m.ai i):=(by rw[n];rfl);rw[if_neg Oy,if_neg (by rw[s];simp),p,Un o];simp only;rw[if_neg Oy,<- e,<- n,t];simp
    · rcases List.mem_cons.1 j with rfl|j
      · exact o
      · exact v y j
theorem ako {m:Mk} {l:List Ob} {es:List ej} {y:List Nat} {f:Nat->List Nat} {g:ej} {r:Rec} (h:kT m l es y f) (x:∀k∈m.ai,∃q:Pr,right q.pb=true/\k.bQ=au q) (w:wM m g) (v:g∈es) (hb:m.b.length<1000000) (a:PO m g r) :
    ∃fs,mD m.c.cB m.c.bZ 272 m.b g.pos=({seq:=r.seq,bH:=r.bH,mono:=r.mono,bC:=r.bC,ak:=fs},0)/\fs.Perm r.ak:=by
  obtain⟨e,C,p,G⟩:=TL h x g.who [] [] w.lt;rw[List.nil_append,List.nil_append]at C;have A:g.ent.aH.length=g.who.length:=by rw[w.aH,List.length_map]
  have z:=w.len;refine⟨e,?_,?_⟩
  · exact af8 (all:=g.who.map (iO m.ai)) (n:=nv 0 (g.who.map (iO m.ai))) (adk h w v hb) Xx ⟨a.seq.symm,a.bH.symm,a.mono.symm,a.bC.symm⟩ (by rw[w.aH];exact C) rfl w.xor
  have D:=a.ak;rw[<- p]at D
  -- payloads are told apart
  have o:∀(d b:List Pr),(∀q∈d,right q.pb=true)->(∀q∈b,right q.pb=true)->(d.map au).Perm (b.map au)->d.Perm b:=by
    intro d b H hb j;have i:∀(c:List Pr),(∀q∈c,right q.pb=true)->c=(c.map au).map fun t=>(iH t).1:=fun c s=>by
      rw[List.map_map];have:c.map ((fun t=>(iH t).1) ∘ au)=c.map id:=List.map_congr_left fun q u=>by simp[Function.comp,Un (s q u)]
      rw[this,List.map_id]
    rw[i d H,i b hb];exact j.map _
  exact o e r.ak G a.right D
structure MK (m:Mk) (B:Ly) (H:bI) (l:List Ob) (es:List ej):Prop where
  len:B.length=m.b.length
  read:jE B=(H,0)
  opn:kG B=(some {b:=B,h:=H},0)
  n:∀i,i<20->i≠1->H.n.getD i 0=m.bR i
  key:H.bM=if m.c.cB then 4 else 0
  bZ:H.bZ=m.c.bZ
  img:kT {m with b:=B} l es (es.map ej.pos) (places es)
theorem kT.bytes {m:Mk} {l:List Ob} {es:List ej} {f:Nat->List Nat} {p:List Nat} {B:Ly} (h:kT m l es p f) (v:B.length=m.b.length) (d:Eff (fun a=>a+8<=272) m.b B) (w:dS B 176=m.main.getD 0 0):kT {m with b:=B} l es p f:=by
  have C:=h.eD.ea;have H:∀a,a+8<=272->td l a:=fun a c=>KP C c;have u:fF B 272 l B.length:=by rw[v];exact C.kQ d (Nat.le_refl _) fun o t a c=>by have:=(C.mem t).ge;omega
  have D:∀o∈l,o∈l:=fun _ h=>h;refine⟨h.eD.keep u ⟨[],by simp,by simp⟩ d H q q ⟨q,q⟩ (lG.refl _) (h.eD.cn.same q),?_,fun i k e=>?_,⟨h.own.main,h.own.one⟩,fun g r=>(h.ent g r).kQ C d H D,h.kin⟩
  · refine⟨w,h.main.ob,fun k a c=>?_,fun k a n c s=>?_,h.main.yD,h.main.lo,h.main.hi⟩
    · have:=h.main.le C c
      rw[d.dS Xx fun x j=>by omega];exact h.main.next k a c
    have:=h.main.le C c;rw[d.dS Xx fun x j=>by omega];exact h.main.gP k a n c s
  have G:=h.eD.data k (List.mem_of_getElem? e);have y:272<=k.pos:=(C.mem G.ob).ge;exact(h.dat i k e).kQ G C d D (fun a c=>by omega) fun n x j a c=>by have:=(h.dat i k e).chain.le C j;omega
structure acw (B:Ly) (h:e5):Prop where
  sign:B.take 8=vQ
  bM:at4 B 12=h.bM
  state:(B.getD 16 0).toNat=h.state
  bZ:(B.drop 24).take 16=h.bZ
  n:∀i,i<20->dS B (88+8*i)=h.n.getD i 0
theorem QC {x y:Ly} {p:Nat} (h:x.length<=p):at4 (x ++ y) p=at4 y (p-x.length):=by show AZ (seg (x ++ y) p 4)=AZ (seg y (p-x.length) 4);rw[iy h]
theorem ag1 {v:Nat} (r:Ly) (h:v<4294967296):at4 (low v 4 ++ r) 0=v:=by show AZ (seg (low v 4 ++ r) 0 4)=v;rw[lX _ _ (by rw[iu]),NN];exact Nat.mod_eq_of_lt h
theorem tF {x y:Ly} {p k:Nat} (hk:x.length=k) (h:k<=p):dS (x ++ y) p=dS y (p-k):=by rw[gO Xx,hk]
theorem VK (h:e5) (depth:Nat) (r:Ly) (ok:e5.ok h) (s:h.state<256):acw (xo h depth ++ r) h:=by
  obtain⟨m,d,o,C,G,H,e,⟨p,f⟩,_⟩:=ok;have g:xo h depth ++ r=[76,80,75,83,72,72,82,72] ++ (low h.gF 4 ++ (low h.bM 4 ++ ([UInt8.ofNat h.state,0,0,0,0,0,0,0] ++ (h.bZ ++ (h.dG ++ (h.bC ++ (h.seq ++ (nums h.n ++ (nums [depth] ++ (low h.cM 4 ++ (low h.dh 4 ++ (nums [h.dJ] ++ r)))))))))))):=by unfold xo;simp only[List.append_assoc]
  rw[g];refine⟨q,?_,?_,?_,fun i l=>?_⟩
  · rw[QC Oy,QC (by simp[iu])]
    simp only[iu,List.length_cons,List.length_nil];exact ag1 _ d
  · have b:∀y:List UInt8,([76,80,75,83,72,72,82,72] ++ (low h.gF 4 ++ (low h.bM 4 ++ y))).getD 16 0=y.getD 0 0:=fun y=>by
      have D:(low h.gF 4).length=4:=iu _ _;have c:(low h.bM 4).length=4:=iu _ _;simp only[List.getD_eq_getElem?_getD];rw[List.getElem?_append_right Oy,List.getElem?_append_right Ym,List.getElem?_append_right Ym,D,c];rfl
    rw[b];show(UInt8.ofNat h.state).toNat=_;rw[UInt8.toNat_ofNat',Nat.mod_eq_of_lt Xx]
  · show seg _ 24 16=_
    rw[iy Oy,iy (by simp[iu]),iy (by simp[iu]),iy (by simp[iu])];simp only[iu,List.length_cons,List.length_nil];exact lX _ _ C.symm
  rw[tF (k:=8) q Xx,tF (k:=4) (iu _ _) Xx,tF (k:=4) (iu _ _) Xx,tF (k:=8) q Xx,tF (k:=16) C Xx,tF (k:=16) G Xx,tF (k:=16) H Xx,tF (k:=16) e Xx,show 88+8*i-8-4-4-8-16-16-16-16=8*i by omega];have j:i<h.n.length:=by omega
  have a:h.n[i]? = some (h.n.getD i 0):=by simp[List.getD,List.getElem?_eq_getElem j]
  exact lQ a (f _ (List.mem_of_getElem? a))
theorem OD {b:Ly} {i:Nat} (h:i<21):(fR b).n.getD i 0=dS b (88+8*i):=by show(((List.range 21).map fun q=>if q<21 then dS b (88+8*q)else 0)).getD i 0=_;rw[List.getD_eq_getElem?_getD,List.getElem?_map,List.getElem?_range h];simp[h]
theorem zZ {m:Mk} {l:List Ob} {es:List ej} {rs:List Rec} {st:Nat} (h:nV m l es rs) (a:e5.ok m.h) (r:st<=2):acw (kM m st) {m.h with state:=st,n:=m.h.n.set 1 (m.b.length-272)}/\(kM m st).length=m.b.length/\Eff (fun d=>d+8<=272) m.b (kM m st):=by
  have G:=h.img.c.eD.ea;have o:=h.ok.small;have D:=G.le;have i:e5.ok {m.h with state:=st,n:=m.h.n.set 1 (m.b.length-272)}:=⟨a.1,a.2.1,(by show st<_;omega),a.2.2.2.1,a.2.2.2.2.1,a.2.2.2.2.2.1,a.2.2.2.2.2.2.1,xI a.2.2.2.2.2.2.2.1 Xx,a.2.2.2.2.2.2.2.2⟩;have g:=yZ {m.h with state:=st,n:=m.h.n.set 1 (m.b.length-272)} m.depth i;have f:=VK {m.h with state:=st,n:=m.h.n.set 1 (m.b.length-272)} m.depth (m.b.drop 272) i (by show st<_;omega);have C:kM m st=xo {m.h with state:=st,n:=m.h.n.set 1 (m.b.length-272)} m.depth ++ m.b.drop 272:=rfl;rw[<- C]at f;have e:(kM m st).length=m.b.length:=by rw[C,List.length_append,g,List.length_drop];omega
  have j:Eff (fun d=>d+8<=272) m.b (kM m st):=by
    refine⟨by rw[e];exact Nat.le_refl _,fun q n p k=>?_⟩
    by_cases hn:n=0
    · subst hn;simp[seg]
    · have H:272<=q:=by
        by_cases h1:272<=q
        · exact h1
        · exfalso
          have:=k (min q 264) Xx;omega
      rw[C,iy Xx,g];unfold seg;rw[List.drop_drop,show 272+(q-272)=q by omega]
  exact⟨f,e,j⟩
theorem abm {m:Mk} {l:List Ob} {es:List ej} {rs:List Rec} {st:Nat} {B:Ly} (h:nV m l es rs) (O:st<=2) (hb:acw B {m.h with state:=st,n:=m.h.n.set 1 (m.b.length-272)}) (d:B.length=m.b.length) (K:Eff (fun J=>J+8<=272) m.b B):MK m B (fR B) l es:=by
  have e:=h.img.c.eD.ea;have M:=h.ok.small;have L:=e.le;have a:∀i,i<20->i≠1->(fR (B)).n.getD i 0=m.bR i:=fun i R Q=>by rw[OD Xx,hb.n i R];show(m.h.n.set 1 _).getD i 0=_;rw[aY Xx];rfl
  have w:(fR (B)).n.getD 1 0=m.b.length-272:=by rw[OD Xx,hb.n 1 Xx];show(m.h.n.set 1 _).getD 1 0=_;exact mR (by have:=h.h20;omega)
  have H:=h.hd.hk;unfold hk at H;simp only[Prod.mk.injEq]at H;obtain⟨_,T,_,A⟩:=H;have u:(fR (B)).bM=if m.c.cB then 4 else 0:=hb.bM.trans T;have G:(fR (B)).bZ=m.c.bZ:=hb.bZ.trans A;have D:(fR (B)).state=st:=hb.state;have F:=(e.mem h.img.c.eD.BH).le;have I:=(e.mem h.img.c.eD.PE).le;have o:=dI (16+16*m.c.ay);have u5:=dI (16+16*m.c.aC);simp only at F I;have sl:=h.img.c.eD.slots;have q:(fR (B)).n.getD 0 0=272:=(a 0 Xy Xy).trans h.hd.n0;have V:(fR (B)).n.getD 2 0=288:=(a 2 Xy Xy).trans h.img.c.eD.n2;have n3:(fR (B)).n.getD 3 0=16*m.c.ay:=(a 3 Xy Xy).trans h.hd.n3;have W:(fR (B)).n.getD 4 0=304+16*m.c.ay:=(a 4 Xy Xy).trans h.img.c.eD.n4;have E:(fR (B)).n.getD 5 0=16*m.c.aC:=(a 5 Xy Xy).trans h.hd.n5;have t:pJ (fR (B))=(m.b.length,true):=by unfold pJ;rw[q,w,Nat.mod_eq_of_lt Xx,if_neg Xx,show 272+(m.b.length-272)=m.b.length by omega]
  have z:oD (fR (B)) (B).length=0:=by
    unfold oD;rw[t,u,D,q,w,V,n3,W,E,d];have x:¬andNot (if m.c.cB=true then 4 else 0) 4≠0:=(by cases m.c.cB <;> decide);rw[if_neg x,if_neg Xx,if_neg Xx,if_neg Oy];have P:∀(p s r:Nat),p%8=0->s≠0->s%16=0->288<=p->p+s<=r->k9 (fR (B)) p s r=0:=fun p s r Q N f g k=>by unfold k9;rw[q,if_neg Xx,if_neg Xx,if_neg Xx]
    simp only;rw[P 288 _ _ Xx Xx Xx Xx Xx,if_neg Oy];exact P _ _ _ Xx Xx Xx Xx Xx
  have C:jE (B)=(fR (B),0):=by
    unfold jE;have y:qI (B) vQ=true:=(by unfold qI;rw[if_pos (by show 8<=_;omega)];exact decide_eq_true hb.sign);rw[if_neg Xx,if_neg (by rw[y];simp),z,if_neg Oy]
  refine⟨d,C,?_,a,u,G,h.img.c.bytes d K ?_⟩
  · unfold kG
    rw[C];simp only;rw[if_neg Oy,t];simp only;rw[<- d,List.take_length]
  have:=hb.n 11 Xy;rw[show 88+8*11=176 by rfl]at this;rw[this];exact(aY (l:=m.h.n) (i:=1) (j:=11) (v:=m.b.length-272) Xy).trans h.img.n11
theorem opened {m:Mk} {l:List Ob} {es:List ej} {rs:List Rec} {st:Nat} (h:nV m l es rs) (d:e5.ok m.h) (a:st<=2):MK m (kM m st) (fR (kM m st)) l es:=by obtain⟨b,c,C⟩:=zZ h d a;exact abm h a b c C
theorem agD {s p:Nat} {b:Ly}:r9 s b 0 p=([],0):=by unfold r9;rw[QO Oy]
def yu (a b:Rec):Bool:=decide (a.seq=b.seq) && (decide (a.bH=b.bH) && (decide (a.mono=b.mono) && (decide (a.bC=b.bC) && (allIn b.ak a.ak && allIn a.ak b.ak))))
theorem PW {a b:List Pr} (h:∀q,q∈a->q∈b):allIn b a=true:=by
  induction a with
  | nil=>rfl
  | cons p r ih =>
    rw[allIn,if_pos (adD.2 (h p Oy))];exact ih fun q A=>h q (by simp[A])
theorem Xo {a b:Rec} (h1:a.seq=b.seq) (e:a.bH=b.bH) (f:a.mono=b.mono) (g:a.bC=b.bC) (d:∀q,q∈a.ak↔q∈b.ak):yu a b=true:=by unfold yu;rw[PW fun q c=>(d q).1 c,PW fun q c=>(d q).2 c];simp[h1,e,f,g]
theorem adX {H:bI} {k:Bool} (h:H.bM=if k then 4 else 0):decide (H.bM &&& 4≠0)=k:=by rw[h];cases k<;>decide
section
variable {m:Mk} {B:Ly} {H:bI} {l:List Ob} {es:List ej} {rs:List Rec}
theorem ZI:∀{l:List Ob} {p e:Nat},fF B p l e->(l.map Ob.pos).Pairwise (· < ·)
  | [],_,_,_=>List.Pairwise.nil
  | o :: r,p,e,h=>by obtain⟨d,f,g,i,j,k,a⟩:=h;have m:=dI o.size;rw[List.map_cons];refine List.pairwise_cons.2 ⟨fun x b=>?_,ZI a⟩;obtain⟨y,c,rfl⟩:=List.mem_map.1 b;have:=(a.mem c).ge;omega
theorem EA {i:List Nat} {f:Nat->List Nat} (h:kT m l es i f):ru m.b (es.map ej.pos):=by
  have a:=h.eD.ea;refine⟨fun x e=>?_,?_⟩
  · obtain⟨g,d,rfl⟩:=List.mem_map.1 e
    have c:=a.mem (h.ent g d).ob;have C:=c.ge;have D:=c.le;have:=dI (64+16*g.ent.aH.length);simp only at C D;omega
  rw[<- h.kin];exact((ZI a).sublist (List.filter_sublist.map _))
theorem wM.bytes {m':Mk} {g:ej} (h:wM m g) (hd:m'.ai=m.ai) (a:m'.c=m.c):wM m' g:=h.ext (by rw[hd];exact oV.refl _) a
theorem anE (a:nV m l es rs) (b:MK m B H l es):H.n.getD 0 0=272:=(b.n 0 Xy Xy).trans a.hd.n0
def n3 (l:List Ob):Nat:=(l.filter fun o=>decide (o.kind=3)).length
end
theorem ahD {P:Program} {n:Nat} {A:Fr n} {D:List Deferred} {l:List (Nat × Value)} {w:World} {d:Tmp} {ty:TypeId} {ps:String} {af:Array Edge} {x:Operand} {t u e:TypeId} {p:Addr} {g:Option (Nat × Bool)} (f:ev n l x=some (.pointer (some p))) (a:P.underlying t=some (.pointer e)) :
    cg P ⟨some d,.binOp .neq t x (.const (.pointer none)) u,ty,ps,af,g⟩ (aQ A D l).eval w (.bool true):=by
  have c:P.underlying t=some (.pointer (P.pointee t)):=by rw[a];simp[Program.pointee,a]
  have h:=run_neq_pointer_nil (P:=P) w t (some p) c;have b:(aQ A D l).eval (.const (.pointer none)) = .pointer none:=rfl;have C:(eqGuard .neq t x (.const (.pointer none)) (.pointer (some p)) (.pointer none)).run P w = .ok () w:=by unfold eqGuard;simp
  simp[cg,execOp,bL f,b,C,h]
def HB (v:dx) (p:Nat):Rec × Nat:=mD (decide (v.h.bM &&& 4≠0)) v.h.bZ (v.h.n.getD 0 0) v.b p
def jI (v:dx):List Nat->Nat->Nat->List Nat->List Nat
  | [],_,_,o=>o
  | p :: r,i,last,o=>if(HB v p).2=0/\last<(HB v p).1.seq then jI v r (i+1) (HB v p).1.seq (o ++ [i])else jI v r (i+1) last o
def rJ (v:dx) (at_:List Nat) (i:Nat):Rec × Nat:=if i<at_.length then HB v (at_.getD i 0)else(yo,2)
section
variable {v:dx} {at_ g o:List Nat} {i p last c:Nat} {r:Rec}
theorem yV (h:¬i<at_.length):jI v (at_.drop i) i last o=o:=by rw[ew Xx];rfl
theorem yW (h:at_[i]? = some p) (d:HB v p=(r,c)) (a:c=0) (b:last<r.seq):jI v (at_.drop i) i last o=jI v (at_.drop (i+1)) (i+1) r.seq (o ++ [i]):=by subst a;rw[cK h,jI,d,if_pos ⟨q,b⟩]
theorem EI (h:at_[i]? = some p) (b:HB v p=(r,c)) (a:¬(c=0/\last<r.seq)):jI v (at_.drop i) i last o=jI v (at_.drop (i+1)) (i+1) last o:=by rw[cK h,jI,b,if_neg a]
theorem Zf (h:at_[i]? = some p):rJ v at_ i=HB v p:=by have A:=(List.getElem?_eq_some_iff.1 h).1;unfold rJ;rw[if_pos A,List.getD_eq_getElem?_getD,h];rfl
def atF (at_:List Nat) (i:Nat):Nat × Nat:=if i<at_.length then(at_.getD i 0,0)else(0,2)
theorem akG (h:at_[i]? = some p):atF at_ i=(p,0):=by have A:=(List.getElem?_eq_some_iff.1 h).1;unfold atF;rw[if_pos A,List.getD_eq_getElem?_getD,h];rfl
theorem ajg (h:¬i<at_.length):atF at_ i=(0,2):=by unfold atF;rw[if_neg h]
theorem adT {x:Rec × Nat} (h:atF at_ i=(p,c)) (a:c=0) (b:HB v p=x):rJ v at_ i=x:=by
  unfold atF at h;unfold rJ;split at h
  · rename_i hi;cases h;rw[if_pos hi];exact b
  cases h;cases a
theorem aa7 (h:atF at_ i=(p,c)) (a:c≠0):rJ v at_ i=(yo,c):=by
  unfold atF at h;unfold rJ;split at h
  · cases h;exact absurd q a
  rename_i hi;cases h;rw[if_neg hi]
structure UX (v:dx) (at_:List Nat) (g:List Nat) (last:Nat):Prop where
  ok:∀i∈g,i<at_.length/\(rJ v at_ i).2=0/\0<(rJ v at_ i).1.seq/\(rJ v at_ i).1.seq<=last
  yD:g.Pairwise fun a b=>(rJ v at_ a).1.seq<(rJ v at_ b).1.seq
theorem WX:UX v at_ [] 0:=⟨by simp,List.Pairwise.nil⟩
theorem tK:∀(n i last:Nat) (o:List Nat),i+n=at_.length->UX v at_ o last->o.length<=i->∃q,UX v at_ (jI v (at_.drop i) i last o) q/\(jI v (at_.drop i) i last o).length<=at_.length
  | 0,i,last,o,h,hr,hl=>⟨last,by rw[yV Xx];exact⟨hr,by omega⟩⟩
  | n+1,i,last,o,h,hr,hl=>by
    obtain⟨p,d⟩:∃p,at_[i]? = some p:=⟨_,List.getElem?_eq_getElem Xx⟩
    rcases hv:HB v p with⟨r,c⟩
    by_cases hc:c=0/\last<r.seq
    · rw[yW d hv hc.1 hc.2]
      have e:rJ v at_ i=(r,c):=(Zf d).trans hv;refine tK n (i+1) r.seq (o ++ [i]) Xx ⟨fun m a=>?_,?_⟩ Ym
      · rcases List.mem_append.1 a with a|a
        · obtain⟨g,j,k,s⟩:=hr.ok m a
          exact⟨g,j,k,by omega⟩
        · simp at a;subst a;rw[e];exact⟨by omega,hc.1,by simp only;omega,Nat.le_refl _⟩
      · refine List.pairwise_append.2 ⟨hr.yD,by simp,fun f l b hb=>?_⟩
        simp at hb;subst hb;have:=(hr.ok f l).2.2.2;rw[e];simp only;omega
    · rw[EI d hv hc]
      exact tK n (i+1) last o Xx hr Xx
end
section
variable {m:Mk} {B:Ly} {H:bI} {l:List Ob} {es:List ej} {rs:List Rec}
end
theorem rH (v:dx) (at_:List Nat):(jI v at_ 0 0 []).length<=at_.length:=by
  obtain⟨last,_,A⟩:=tK at_.length 0 0 [] Xx (WX (v:=v) (at_:=at_)) (Nat.le_refl _)
  rwa [List.drop_zero]at A
theorem af9 {b:Ly} {out:List Nat} {x:Nat} (h:tu b out) (d:¬(x=0\/b.length<=x)) (hi:oN out x=0):tu b (out ++ [x]):=by
  have a:qD (out ++ [x])=x:=by unfold qD;simp
  unfold tu;rw[a,List.length_append,List.length_singleton];have c:=h.1;unfold oN at hi
  by_cases he:out=[]
  · subst he;simp;omega
  by_cases hx:x<=qD out
  · rw[if_pos ⟨he,hx⟩]at hi;cases hi
  omega
theorem yM {b:Ly} {bG:Nat}:∀(aH out:List Nat),tu b out->tu b (lD b bG aH out).1
  | [],out,h=>h
  | x :: r,out,h=>by
    unfold lD;split
    · exact h
    · split
      · exact h
      · rename_i h0
        split
        · exact h
        · rename_i hi
          exact yM r _ (af9 h h0 (Classical.not_not.1 hi))
theorem JQ {s bG:Nat} {b:Ly}:∀(k p a:Nat) (out:List Nat),b.length-a<=k->tu b out->tu b (qV s b bG p a out).1
  | k,p,a,out,hk,h=>by
    rw[qV];split
    · exact h
    · split
      · exact h
      · split
        · exact h
        · split
          · exact h
          · split
            · exact yM _ _ h
            · match k with
              | 0=>omega
              | k+1=>exact JQ k _ p _ Xx (yM _ _ h)
theorem agE {s bG p c:Nat} {b:Ly} {a:List Nat} (h:r9 s b bG p=(a,c)):a.length<=b.length:=by have:=HC (JQ (s:=s) (bG:=bG) b.length p 0 [] Xx (TN b));have e:qV s b bG p 0 []=(a,c):=h;rw[e]at this;exact this
section
variable {P:Program} {n:Nat} {A:Fr n} {D:List Deferred} {l:List (Nat × Value)} {w:World} {d:Option Tmp} {ty:TypeId} {ps:String} {af:Array Edge} {g:Option (Nat × Bool)}
end
theorem UG {l:List (List UInt8)} {i:Nat} {x:Ly} (h:l[i]? = some x):l.getD i []=x:=by rw[List.getD_eq_getElem?_getD,h];rfl
def QT (a b:fB):Bool:=decide (a.name=b.name) && pZ a.values b.values
def VB:List fB->List fB->Bool
  | [],_=>true
  | a :: r,b :: s=>if QT a b=true then VB r s else false
  | _ :: _,[]=>false
theorem DZ {a b:List fB} {i:Nat} (h:¬i<a.length):VB (a.drop i) b=true:=by rw[ew Xx];rfl
theorem uO {a b:List fB} {i:Nat} {p q:fB} (h:a[i]? = some p) (k:b[i]? = some q):VB (a.drop i) (b.drop i)=if QT p q=true then VB (a.drop (i+1)) (b.drop (i+1))else false:=by rw[cK h,cK k];rfl
def E1 (a b:List fB):Bool:=if a.length=b.length then VB a b else false
def QU:List (List fB)->List (List fB)->Bool
  | [],_=>true
  | a :: r,b :: s=>if E1 a b=true then QU r s else false
  | _ :: _,[]=>false
theorem E2 {a b:List (List fB)} {i:Nat} (h:¬i<a.length):QU (a.drop i) b=true:=by rw[ew Xx];rfl
theorem uP {a b:List (List fB)} {i:Nat} {p q:List fB} (h:a[i]? = some p) (k:b[i]? = some q):QU (a.drop i) (b.drop i)=if E1 p q=true then QU (a.drop (i+1)) (b.drop (i+1))else false:=by rw[cK h,cK k];rfl
def yN (a b:List (List fB)):Bool:=if a.length=b.length then QU a b else false
def ZP (a b:fM):Bool:=yN a.rows b.rows
def zW (v:dx) (p:Pr):Nat × Nat:=findF v.h.n v.b 4 (cQ (decide (v.h.bM &&& 4≠0)) v.h.bZ (au p)) (au p)
def inG (v:dx) (at_:List Nat) (x i:Nat):Bool:=decide (at_.getD i 0∈(ofF (v.h.n.getD 0 0) v.b x).1)
def iQ (v:dx) (at_:List Nat):List Nat:=jI v at_ 0 0 []
def ql (v:dx) (at_:List Nat) (p:Pr):List Nat :=
  if right p.pb=false then[]else if(zW v p).2≠0 then[]else(iQ v at_).filter (inG v at_ (zW v p).1)
def ac5 (v:dx) (at_:List Nat) (a:fB):List Nat:=a.values.flatMap fun s=>ql v at_ {name:=a.name,value:=s}
def ni (v:dx) (at_:List Nat) (out:List Nat) (a:fB):List Nat:=out.filter fun i=>decide (i∈ac5 v at_ a)
def IX (v:dx) (at_:List Nat) (l:List fB):List Nat:=l.foldl (ni v at_) (iQ v at_)
def oQ (l:List Nat):List Nat:=l.mergeSort fun x y=>decide (x<=y)
def Ng (p:Nat):List Nat->List Nat
  | []=>[]
  | q :: r=>if q=p then Ng q r else q :: Ng q r
def kD:List Nat->List Nat
  | []=>[]
  | p :: r=>p :: Ng p r
def qy (v:dx) (at_:List Nat) (m:fM):List Nat:=if ZP m {rows:=[]}=true then iQ v at_ else kD (oQ (m.rows.flatMap (IX v at_)))
section
variable {v:dx} {at_:List Nat} {p:Pr} {l r:List Nat} {x y i n:Nat}
theorem yU (v:dx):∀(l:List Nat) (i last:Nat) (o:List Nat),o.Pairwise (· < ·)->(∀x∈o,x<i)->(jI v l i last o).Pairwise (· < ·)/\∀x∈jI v l i last o,x<i+l.length
  | [],i,_,o,h,hb=>⟨h,fun x a=>by have:=hb x a;simp only[List.length_nil];omega⟩
  | p :: r,i,last,o,h,hb=>by
    rw[jI];have f:i+(p :: r).length=(i+1)+r.length:=(by simp only[List.length_cons];omega);rw[f];split
    · refine yU v r (i+1) _ _ ?_ ?_
      · rw[List.pairwise_append]
        refine⟨h,by simp,fun e d b c=>?_⟩;simp at c;subst c;exact hb e d
      · intro x a
        rcases List.mem_append.1 a with a|a
        · have:=hb x a;omega
        · simp at a;omega
    · exact yU v r (i+1) _ _ h fun x a=>by have:=hb x a;omega
theorem EJ (v:dx) (at_:List Nat):(iQ v at_).Pairwise (· < ·)/\∀x∈iQ v at_,x<at_.length:=by have:=yU v at_ 0 0 [] List.Pairwise.nil Oy;rw[Nat.zero_add]at this;exact this
theorem YT (h:right p.pb=false):ql v at_ p=[]:=by unfold ql;rw[if_pos h]
theorem RG {x c:Nat} (h:right p.pb=true) (b:zW v p=(x,c)) (a:c≠0):ql v at_ p=[]:=by unfold ql;rw[if_neg (by simp[h]),b,if_pos a]
theorem adE {x c:Nat} (h:right p.pb=true) (b:zW v p=(x,c)) (a:c=0):ql v at_ p=(iQ v at_).filter (inG v at_ x):=by unfold ql;rw[if_neg (by simp[h]),b,if_neg (by simp[a])]
theorem agU:∀x∈ql v at_ p,x∈iQ v at_:=by
  intro x A;unfold ql at A;split at A
  · simp at A
  split at A
  · simp at A
  exact(List.mem_filter.1 A).1
theorem afC (v:dx) (at_:List Nat):∀(l:List fB) (o:List Nat),o.Pairwise (· < ·)->(l.foldl (ni v at_) o).Pairwise (· < ·)/\∀x∈l.foldl (ni v at_) o,x∈o
  | [],_,h=>⟨h,fun _ h=>h⟩
  | a :: r,o,h=>by obtain⟨b,c⟩:=afC v at_ r (ni v at_ o a) (h.filter _);exact⟨b,fun x d=>(List.mem_filter.1 (c x d)).1⟩
theorem ahJ (v:dx) (at_:List Nat) (l:List fB):∀x∈IX v at_ l,x∈iQ v at_:=(afC v at_ l _ (EJ v at_).1).2
theorem ZO (v:dx) (at_:List Nat):∀(l:List fB) (o:List Nat),(l.foldl (ni v at_) o).length<=o.length
  | [],_=>Nat.le_refl _
  | _ :: r,o=>lv (ZO v at_ r _) (List.length_filter_le _ _)
theorem acQ:∀(l:List Nat) (p:Nat),(∀x∈l,p<=x)->l.Pairwise (·<=·)->(Ng p l).Pairwise (· < ·)/\(∀x∈Ng p l,p<x)/\∀x,x∈Ng p l\/x=p↔x∈l\/x=p
  | [],p,_,_=>⟨List.Pairwise.nil,by simp[Ng],by simp[Ng]⟩
  | q :: r,p,hp,hs=>by
    rw[List.pairwise_cons]at hs;obtain⟨b,a,c⟩:=acQ r q hs.1 hs.2;have f:=hp q Oy;rw[Ng];split
    · rename_i e
      subst e;refine⟨b,a,fun x=>(c x).trans ?_⟩;simp only[List.mem_cons];constructor
      · rintro(h|h)
        · exact .inl (.inr h)
        · exact .inr h
      · rintro((h|h)|h)
        · exact .inr h
        · exact .inl h
        · exact .inr h
    · refine⟨List.pairwise_cons.2 ⟨a,b⟩,fun x d=>?_,fun x=>?_⟩
      · rcases List.mem_cons.1 d with h|h
        · omega
        · have:=a x h;omega
      · have:=c x
        simp only[List.mem_cons];constructor
        · rintro((h|h)|h)
          · exact .inl (.inl h)
          · rcases this.1 (.inl h)with h|h
            · exact .inl (.inr h)
            · exact .inl (.inl h)
          · exact .inr h
        · rintro((h|h)|h)
          · exact .inl (.inl h)
          · rcases this.2 (.inl h)with h|h
            · exact .inl (.inr h)
            · exact .inl (.inl h)
          · exact .inr h
theorem wP {l:List Nat} (a:l.Pairwise (·<=·)):(kD l).Pairwise (· < ·)/\∀x,x∈kD l↔x∈l:=by
  cases l with
  | nil=>exact⟨List.Pairwise.nil,fun _=>Iff.rfl⟩
  | cons p r =>
    rw[List.pairwise_cons]at a;obtain⟨b,c,C⟩:=acQ r p a.1 a.2;refine⟨List.pairwise_cons.2 ⟨c,b⟩,fun x=>?_⟩;have:=C x;show x∈p :: Ng p r↔x∈p :: r;simp only[List.mem_cons];constructor
    · rintro(h|h)
      · exact .inl h
      · exact(this.1 (.inl h)).elim .inr .inl
    · rintro(h|h)
      · exact .inl h
      · exact(this.2 (.inl h)).elim .inr .inl
theorem Uf (l:List Nat):(oQ l).Pairwise (·<=·):=by have:=List.pairwise_mergeSort (le:=fun x y:Nat=>decide (x<=y)) (by intro a b c;simp;omega) (by intro a b;simp;omega) l;exact this.imp fun h=>by simpa using h
theorem zM (l:List Nat) (x:Nat):x∈oQ l↔x∈l:=List.mem_mergeSort
theorem sd (l:List Nat):(oQ l).length=l.length:=by unfold oQ;simp
theorem adr (v:dx) (at_:List Nat) (m:fM):(qy v at_ m).Pairwise (· < ·)/\∀x∈qy v at_ m,x∈iQ v at_:=by
  unfold qy;split
  · exact⟨(EJ v at_).1,fun _ h=>h⟩
  obtain⟨A,B⟩:=wP (Uf (m.rows.flatMap (IX v at_)));refine⟨A,fun x D=>?_⟩;have:=(zM _ _).1 ((B x).1 D);obtain⟨l,_,C⟩:=List.mem_flatMap.1 this;exact ahJ v at_ l x C
theorem yw {m:fM}:ZP m {rows:=[]}=true↔m.rows=[]:=by
  unfold ZP yN;cases h:m.rows with
  | nil=>simp[QU]
  | cons a r=>simp
theorem aau {m:fM} (h:m.rows≠[]):qy v at_ m=kD (oQ (m.rows.flatMap (IX v at_))):=by unfold qy;rw[if_neg fun e=>h (yw.1 e)]
def BJ (e:TypeId) (w:World) (b cap:Nat) (xs:List Nat):Prop:=∃cur,bS w b cur e/\cur.length=cap/\xs.length<=cap/\cur.take xs.length=xs.map fun n=>(.int .i64 n)
end
abbrev vN (n:Nat):Value:=.int .i64 n
section
variable {e:TypeId} {w w':World} {b cap:Nat} {xs:List Nat}
theorem BJ.md {S:List Nat} (h:BJ e w b cap xs) (m:Md S w w') (d:b∉S):BJ e w' b cap xs:=by obtain⟨a,c,C⟩:=h;exact⟨a,c.md m d,C⟩
theorem BJ.o (h:BJ e w b cap xs) (m:Md [] w w'):BJ e w' b cap xs:=h.md m Oy
instance anY:Tp w w' (BJ e w b cap xs) (BJ e w' b cap xs):=⟨fun m h=>h.o m⟩
theorem BJ.cell (h:BJ e w b cap xs) {i x:Nat} (hi:xs[i]? = some x):w.cell? ⟨b,i,none⟩=some (vN x):=by
  obtain⟨B,C,E,F,D⟩:=h;have A:=(List.getElem?_eq_some_iff.1 hi).1;rw[C.cell];have:(xs.map vN)[i]? = some (vN x):=by rw[List.getElem?_map,hi];rfl
  rw[<- D,List.getElem?_take,if_pos A]at this;exact this
theorem BJ.at_ {o i k n c:Nat} {x:Nat} (h:BJ e w b cap xs) (hi:xs[i]? = some x) (eq:o+k=i):At w (.slice (some ⟨b,o,none⟩) n c) k [vN x]:=by
  refine⟨⟨b,o,none⟩,n,c,q,fun j u A=>?_⟩;cases j with
  | succ j=>simp at A
  | zero =>
    simp at A;subst A;rw[Addr.kL,show o+(k+0)=i by omega];exact h.cell hi
theorem BJ.into (h:BJ e w b cap xs) {i z:Nat} (hi:i<xs.length):∃cur,bS w b cur e/\i<cur.length/\∀a,bS a b (cur.set i (vN z)) e->BJ e a b cap (xs.set i z):=by obtain⟨cur,c,d,C,D⟩:=h;refine⟨cur,c,by omega,fun a f=>⟨_,f,by simpa using d,by simpa using C,?_⟩⟩;rw[List.length_set,List.take_set,D,List.map_set]
theorem BJ.clear (h:BJ e w b cap xs) {i:Nat} (hi:i<=xs.length):∃cur,bS w b cur e/\i+(xs.length-i)*1<=cur.length/\∀a us,us.length=(xs.length-i)*1->bS a b (fC cur i us) e->BJ e a b cap (xs.take i):=by
  obtain⟨cur,c,d,g,C⟩:=h;refine⟨cur,c,by omega,fun a us f D=>⟨_,D,?_,?_,?_⟩⟩
  · rw[wI (by rw[f];omega),d]
  · rw[List.length_take];omega
  unfold fC;have G:(cur.take i).length=i:=by rw[List.length_take];omega
  rw[List.length_take,Nat.min_eq_left hi,List.append_assoc,List.take_append_of_le_length Xx,List.take_of_length_le Xx,List.map_take,<- C,List.take_take,Nat.min_eq_left hi]
theorem Ow.rwn {lo Q:Nat->Prop} {v:Value} (h:Ow eK e lo w Q v xs) (j:0<xs.length):∃b cap,v = .slice (some ⟨b,0,none⟩) xs.length cap/\cap<=maxLen/\BJ e w b cap xs/\lo b/\¬Q b:=by obtain⟨⟨k,H,C⟩,a⟩:=h;obtain⟨b,cap,c,rfl,g,d,f,G,D⟩:=H.blk j;obtain⟨rfl,_⟩:=DX C;have i:eK.n=1:=rfl;rw[i]at G D;exact⟨b,cap,q,f,⟨c,g,by omega,d,by rw[<- Nat.mul_one xs.length,D]⟩,(a b q).1,(a b q).2⟩
theorem BJ.ow {lo Q:Nat->Prop} (h:BJ e w b cap xs) (f:cap<=maxLen) (g:lo b) (i:¬Q b) (j:∀x∈xs,x<9223372036854775808):Ow eK e lo w Q (.slice (some ⟨b,0,none⟩) xs.length cap) xs:=by obtain⟨k,C,H,D,c⟩:=h;refine⟨⟨xs.map vN,?_,BN fun x d=>j x d⟩,fun G a=>by simp[ah]at a;subst a;exact⟨g,i⟩⟩;have:=Own.cF (sz:=1) (m:=xs.length) C D f Xx;rw[Nat.mul_one,c]at this;exact this
end
theorem uH {l:List Nat} {j s:Nat} (h:j<l.length):(l.set j s).take (j+1)=l.take j ++ [s]:=by rw[List.take_add_one,List.getElem?_set_self h,List.take_set_of_le (Nat.le_refl _)];rfl
theorem HJ {b n cap i:Nat} (h:i<cap):mE 1 (.slice (some ⟨b,0,none⟩) n cap) i n = .slice (some ⟨b,i,none⟩) (n-i) (cap-i):=by simp only[mE,Nat.mul_one];rw[if_neg Xx];simp[Addr.kL]
theorem UB {b n cap j:Nat} (h:0<cap):mE 1 (.slice (some ⟨b,0,none⟩) n cap) 0 j = .slice (some ⟨b,0,none⟩) j cap:=by simp only[mE];rw[if_neg Xx];simp[Addr.kL]
section
variable {α:Type} {l:List α} {q:α->Bool} {x:α} {i:Nat}
theorem agJ (h:¬i<l.length):(l.drop i).filter q=[]:=by rw[ew Xx];rfl
theorem agK (h:l[i]? = some x) (a:q x=true):(l.drop i).filter q=x :: (l.drop (i+1)).filter q:=by rw[cK h,List.filter_cons_of_pos a]
theorem aj1 (h:l[i]? = some x) (a:q x=false):(l.drop i).filter q=(l.drop (i+1)).filter q:=by rw[cK h,List.filter_cons_of_neg (by simp[a])]
theorem adu {β:Type} {f:α->List β} (h:¬i<l.length):(l.drop i).flatMap f=[]:=by rw[ew Xx];rfl
theorem YK {a:Type} {f:α->List a} {y:List a} (h:l[i]? = some x) (b:f x=y):(l.drop i).flatMap f=y ++ (l.drop (i+1)).flatMap f:=by rw[cK h,List.flatMap_cons,b]
theorem ad6 {β:Type} {f:β->α->β} {o:β} (h:¬i<l.length):(l.drop i).foldl f o=o:=by rw[ew Xx];rfl
theorem aav {β:Type} {f:β->α->β} {o:β} (h:l[i]? = some x):(l.drop i).foldl f o=(l.drop (i+1)).foldl f (f o x):=by rw[cK h];rfl
def AX (q:α->Bool):List α->Nat->Int
  | [],_=>-1
  | x :: r,i=>if q x=true then((i:Nat):Int)else AX q r (i+1)
theorem adK (h:¬i<l.length):AX q (l.drop i) i = -1:=by rw[ew Xx];rfl
theorem adL (h:l[i]? = some x) (a:q x=true):AX q (l.drop i) i=((i:Nat):Int):=by rw[cK h,AX,if_pos a]
theorem agY (h:l[i]? = some x) (a:q x=false):AX q (l.drop i) i=AX q (l.drop (i+1)) (i+1):=by rw[cK h,AX,if_neg (by simp[a])]
theorem KB:∀(l:List α) (k:Nat) (z:Int),AX q l k=z->(z = -1/\l.filter (fun x=>!q x)=l)\/∃i,z=((k+i:Nat):Int)/\i<l.length/\l.take i ++ (l.drop (i+1)).filter (fun x=>!q x)=l.filter (fun x=>!q x)
  | [],k,z,h=>.inl ⟨h.symm,rfl⟩
  | x :: r,k,z,h=>by
    rw[AX]at h
    by_cases hx:q x=true
    · rw[if_pos hx]at h
      refine .inr ⟨0,by rw[<- h];rfl,by simp,?_⟩;rw[List.filter_cons,if_neg (by simp[hx])];simp
    · rw[if_neg hx]at h
      have a:(!q x)=true:=by simp at hx;simp[hx]
      rcases KB r (k+1) z h with⟨A,B⟩|⟨i,A,B,C⟩
      · exact .inl ⟨A,by rw[List.filter_cons,if_pos a,B]⟩
      · refine .inr ⟨i+1,by rw[A];congr 1;omega,by simpa using B,?_⟩
        rw[List.filter_cons,if_pos a,List.take_succ_cons,List.drop_succ_cons,List.cons_append,C]
end
section
variable {v:dx} {at_:List Nat} {p:Pr} {x y c d s j:Nat} {b pl:Ly} {ps:List Nat} {r:Bool}
theorem adS (h:mJ p=(b,c)) (a:c≠0):right p.pb=false:=by
  unfold mJ at h;unfold right Pr.pb;split at h
  · rename_i h1;simp[h1]
  split at h
  · rename_i h1;simp;omega
  have:=congrArg Prod.snd h;exact absurd this.symm a
theorem ahd (h:mJ p=(b,c)) (a:c=0):right p.pb=true/\b=au p:=by
  subst a;unfold mJ at h;unfold right Pr.pb;split at h
  · have:=congrArg Prod.snd h;simp at this
  rename_i h1;split at h
  · have:=congrArg Prod.snd h;simp at this
  rename_i h2;refine⟨by simp at h1 ⊢;exact⟨h1,by omega⟩,(congrArg Prod.fst h).symm⟩
theorem abC (h:right p.pb=true):p.name.length<=64/\p.value.length<=256:=by unfold right Pr.pb eB at h;simp at h;omega
theorem adO (h1:atF at_ j=(y,c)) (g:j<at_.length) (e:ofF (v.h.n.getD 0 0) v.b x=(ps,d)) (f:decide (y∈ps)=r):inG v at_ x j=r:=by unfold atF at h1;rw[if_pos g]at h1;have a:=congrArg Prod.fst h1;unfold inG;rw[e];simp only at a ⊢;rw[a];exact f
theorem agy (v:dx) (at_:List Nat) (l:List (List UInt8)) (b:Ly):(l.flatMap fun s=>ql v at_ {name:=b,value:=s}).length<=l.length*(iQ v at_).length:=by
  induction l with
  | nil=>simp
  | cons a r ih =>
    rw[List.flatMap_cons,List.length_append,List.length_cons,Nat.succ_mul];have:(ql v at_ {name:=b,value:=a}).length<=(iQ v at_).length:=by
      unfold ql;split
      · exact Nat.zero_le _
      · split
        · exact Nat.zero_le _
        · exact List.length_filter_le _ _
    omega
theorem agT:(ql v at_ p).length<=(iQ v at_).length:=by have:=agy v at_ [p.value] p.name;simpa using this
end
theorem Ow.own {α:Type} {T:Dt α} {w:World} {Q Q':Nat->Prop} {e:TypeId} {lo:Nat->Prop} {v:Value} {xs:List α} (h:Ow T e lo w Q v xs) (t:∀b,Q b->Q' b) (u:∀b,ah v=some b->Q' b):Ls T w Q' v xs:=by obtain⟨⟨B,C,D⟩,K⟩:=h;obtain⟨a,A,rfl,E,F,G,H⟩:=pC C;exact⟨a,A,B,q,E,F,G,fun p J _=>u _ (by subst J;rfl),H,D.sub fun b I _=>t b I⟩
section
variable {p q i y:Nat} {l:List Nat}
theorem zo (h:l[i]? = some y):l.getD i 0=y:=by rw[List.getD_eq_getElem?_getD,h];rfl
theorem YC (h:¬i<l.length):Ng p (l.drop i)=[]:=by rw[ew Xx];rfl
theorem QL (h:l[i]? = some q):Ng p (l.drop i)=if q=p then Ng q (l.drop (i+1))else q :: Ng q (l.drop (i+1)):=by rw[cK h];rfl
theorem DL (h:l.length<2):kD l=l:=by
  match l,h with
  | [],_=>rfl
  | [_],_=>rfl
  | _ :: _ :: _,h=>simp at h;omega
theorem DN (h:1<=l.length):l.take 1 ++ Ng (l.getD (1-1) 0) (l.drop 1)=kD l:=by
  cases l with
  | nil=>simp at h
  | cons p r=>rfl
theorem N2:∀(l:List Nat) (p:Nat),∀x∈Ng p l,x∈l
  | [],_,_,h=>h
  | q :: r,p,x,h=>by
    rw[Ng]at h;split at h
    · exact List.mem_cons_of_mem _ (N2 r q x h)
    · rcases List.mem_cons.1 h with h|h
      · rw[h];exact List.mem_cons_self
      · exact List.mem_cons_of_mem _ (N2 r q x h)
theorem MV {x:Nat} (h:x∈kD l):x∈l:=by
  cases l with
  | nil=>exact h
  | cons p r =>
    rcases List.mem_cons.1 h with h|h
    · rw[h];exact List.mem_cons_self
    · exact List.mem_cons_of_mem _ (N2 r p x h)
end
theorem WI (a b:List ej) (j:Nat):places (a ++ b) j=places a j ++ places b j:=by unfold places;rw[List.filter_append,List.map_append]
section
variable {m:Mk} {B:Ly} {H:bI} {l:List Ob} {es:List ej} {rs:List Rec}
theorem OH {d:List Nat} {f:Nat->List Nat} (h:kT m l es d f) (i:Nat):ru m.b (places es i):=by obtain⟨c,C⟩:=EA h;have a:(places es i).Sublist (es.map ej.pos):=List.filter_sublist.map _;exact⟨fun x D=>c x (a.subset D),C.sublist a⟩
end
def ig (ks:List aP) (s:Nat):List Nat:=(ks.filter fun k=>decide (k.bX=s)).map aP.pos
theorem vn (ks:List aP) (k:aP) (s:Nat):ig (ks ++ [k]) s=if k.bX=s then ig ks s ++ [k.pos]else ig ks s:=by
  unfold ig;rw[List.filter_append,List.map_append]
  by_cases h:k.bX=s
  · rw[if_pos h];simp[h]
  rw[if_neg h];simp[h]
theorem kK {ks:List aP} {s p:Nat} (h:p∈ig ks s):∃k∈ks,k.pos=p/\k.bX=s:=by obtain⟨k,hk,rfl⟩:=List.mem_map.1 h;obtain⟨A,B⟩:=List.mem_filter.1 hk;exact⟨k,A,q,dT B⟩
theorem afO {ks:List aP} {k:aP} (h:k∈ks):k.pos∈ig ks k.bX:=List.mem_map.2 ⟨k,List.mem_filter.2 ⟨h,decide_eq_true q⟩,q⟩
theorem Ml (ks:List aP) (s:Nat):(ig ks s).Sublist (ks.map aP.pos):=List.filter_sublist.map _
theorem EQ (s:Nat):∀(ks:List aP) (n q:Nat),nC s ks n q=(n+(ig ks s).length,(ig ks s).getLastD q)
  | [],_,_=>rfl
  | k :: r,n,q=>by
    rw[nC];unfold ig;rw[List.filter_cons]
    by_cases h:k.bX=s
    · rw[if_pos h,if_pos (decide_eq_true h),EQ s r]
      simp only[List.map_cons,List.length_cons,List.getLastD_cons];unfold ig;congr 1;omega
    · rw[if_neg h,if_neg (by simpa using h),EQ s r];rfl
theorem uU {l:List Nat} {p i:Nat} (h:i<l.length):(l ++ [p]).getD i 0=l.getD i 0:=by rw[List.getD_eq_getElem?_getD,List.getD_eq_getElem?_getD,List.getElem?_append_left h]
theorem aaw (l:List Nat) (p:Nat):(l ++ [p]).getD l.length 0=p:=by rw[List.getD_eq_getElem?_getD,List.getElem?_append_right (Nat.le_refl _),Nat.sub_self];rfl
theorem JX {l:List Nat} {i:Nat} (h:l.length<=i):l.getD i 0=0:=by rw[List.getD_eq_getElem?_getD,List.getElem?_eq_none h];rfl
theorem zf (l:List Nat) (h:l≠[]):l[l.length-1]? = some (l.getLastD 0):=by
  rw[<- List.getLast?_eq_getElem?,List.getLastD_eq_getLast?];cases hq:l.getLast? with
  | none=>exact absurd (List.getLast?_eq_none_iff.1 hq) h
  | some x=>rfl
theorem aaF (l:List Nat) (p:Nat):(l ++ [p]).getLastD 0=p:=by simp[List.getLastD_eq_getLast?]
structure mF (b:Ly) (tab n:Nat) (ks:List aP):Prop where
  bX:∀k∈ks,k.bX<n
  head:∀s:Nat,s<n->dS b (tab+16*s)=(ig ks s).getD 0 0
  next:∀s j p:Nat,(ig ks s)[j]? = some p->dS b (p+24)=(ig ks s).getD (j+1) 0
def acy (tab n:Nat) (ks:List aP) (a:Nat):Prop:=(∃s:Nat,s<n/\a=tab+16*s)\/∃k∈ks,a=k.pos+24
theorem mF.keep {b c:Ly} {tab n:Nat} {ks:List aP} (h:mF b tab n ks) (f:∀a,acy tab n ks a->dS c a=dS b a):mF c tab n ks:=by refine⟨h.bX,fun s e=>(f _ (.inl ⟨s,e,q⟩)).trans (h.head s e),fun s i p d=>?_⟩;obtain⟨k,hk,g,_⟩:=kK (List.mem_of_getElem? d);exact(f _ (.inr ⟨k,hk,by rw[g]⟩)).trans (h.next s i p d)
def nI (k:aP):Nat × Nat × List UInt8:=(k.pos,k.bX,k.bQ)
theorem Mj {ks b:List aP} (h:b.map nI=ks.map nI) (s:Nat):ig b s=ig ks s:=by
  have a:∀ks:List aP,ig ks s=((ks.map nI).filter fun q=>decide (q.2.1=s)).map Prod.fst:=fun ks=>by unfold ig;rw[List.filter_map,List.map_map];rfl
  rw[a,a,h]
theorem xD {ks b:List aP} (h:b.map nI=ks.map nI) {k:aP} (hk:k∈b):∃x∈ks,x.pos=k.pos/\x.bX=k.bX/\x.bQ=k.bQ:=by have:nI k∈ks.map nI:=h ▸ List.mem_map.2 ⟨k,hk,q⟩;obtain⟨x,D,d⟩:=List.mem_map.1 this;obtain⟨c,a⟩:=Prod.mk.inj d;obtain⟨a,C⟩:=Prod.mk.inj a;exact⟨x,D,c,a,C⟩
theorem mF.key {b:Ly} {tab n:Nat} {ks c:List aP} (h:mF b tab n ks) (hk:c.map nI=ks.map nI):mF b tab n c:=by refine⟨fun k d=>?_,fun s C=>by rw[Mj hk];exact h.head s C,fun s f p a=>by rw[Mj hk]at a ⊢;exact h.next s f p a⟩;obtain⟨x,D,_,e,_⟩:=xD hk d;rw[<- e];exact h.bX x D
def vG (b:Ly) (ks:List aP) (tab p s:Nat):List UInt8 :=
  iq (if(ig ks s).length=0 then iq b (tab+16*s) p else iq b ((ig ks s).getLastD 0+24) p) (tab+16*s+8) p
theorem adB (m:Mk) (ks:List aP) (tab p s:Nat):(m.hang ks tab p s).2.b=vG m.b ks tab p s:=by unfold Mk.hang;rw[EQ];simp only[Nat.zero_add];unfold vG;split <;> rfl
theorem JY (b:Ly) (ks:List aP) (tab p s:Nat):(vG b ks tab p s).length=b.length:=by unfold vG;rw[eP];split <;> rw[eP]
section
variable {b:Ly} {tab n:Nat} {ks:List aP} {k:aP}
theorem CZ {l:List Nat} (h:l.Pairwise (· < ·)) {i j a c:Nat} (e:l[i]? = some a) (f:l[j]? = some c) (g:i<j):a<c:=by obtain⟨b,rfl⟩:=List.getElem?_eq_some_iff.1 e;obtain⟨d,rfl⟩:=List.getElem?_eq_some_iff.1 f;exact List.pairwise_iff_getElem.1 h i j b d g
theorem OI (c:(ks.map aP.pos).Pairwise (· < ·)) {x y:aP} (e:x∈ks) (f:y∈ks) (g:x.pos=y.pos):x=y:=by
  obtain⟨i,b⟩:=List.mem_iff_getElem?.1 e;obtain⟨d,a⟩:=List.mem_iff_getElem?.1 f;have C:(ks.map aP.pos)[i]? = some x.pos:=by rw[List.getElem?_map,b];rfl
  have D:(ks.map aP.pos)[d]? = some y.pos:=by rw[List.getElem?_map,a];rfl
  rcases Nat.lt_trichotomy i d with A|rfl|A
  · have:=CZ c C D A;omega
  · rw[b]at a;exact Option.some.inj a
  have:=CZ c D C A;omega
theorem EN (g:k.bX<n) {a p:Nat} (h1:a+8<=tab+16*k.bX\/tab+16*k.bX+16<=a) (f:∀x∈ks,a+8<=x.pos+24\/x.pos+32<=a):dS (vG b ks tab p k.bX) a=dS b a:=by
  unfold vG;rw[fE Xx];split
  · exact fE Xx
  rename_i hne;have d:=zf (ig ks k.bX) (fun c=>hne (by rw[c];rfl));obtain⟨x,e,c,_⟩:=kK (List.mem_of_getElem? d);have:=f x e;exact fE Xx
theorem mF.hang (h:mF b tab n ks) (o:k.bX<n) (m:∀x∈ks,tab+16*n<=x.pos) (F:tab+16*n<=k.pos) (E:∀x∈ks,x.pos+40<=k.pos) (pair:∀x∈ks,∀y∈ks,x.pos=y.pos\/x.pos+40<=y.pos\/y.pos+40<=x.pos)
    (nd:(ks.map aP.pos).Pairwise (· < ·)) (hn:dS b (k.pos+24)=0) (hl:k.pos+40<=b.length) (hk:k.pos<18446744073709551616):mF (vG b ks tab k.pos k.bX) tab n (ks ++ [k]):=by
  have R:(ig ks k.bX).Pairwise (· < ·):=nd.sublist (Ml ks k.bX);have f:∀(c:Ly) (l:Nat),acy tab n (ks ++ [k]) l->dS (iq c (tab+16*k.bX+8) k.pos) l=dS c l:=fun c l A=>by
    refine fE ?_
    rcases A with⟨s,X,rfl⟩|⟨x,a,rfl⟩
    · rcases Nat.lt_or_ge k.bX s with M|M <;> omega
    · rcases List.mem_append.1 a with a|a
      · have:=m x a;omega
      · rw[List.mem_singleton]at a;subst a;omega
  have r:∀s:Nat,s<n->acy tab n (ks ++ [k]) (tab+16*s):=fun s o=>.inl ⟨s,o,rfl⟩;have i:∀x∈ks,acy tab n (ks ++ [k]) (x.pos+24):=fun x a=>.inr ⟨x,by simp[a],rfl⟩;have t:acy tab n (ks ++ [k]) (k.pos+24):=.inr ⟨k,by simp,rfl⟩;have v:∀x∈ks ++ [k],x.bX<n:=fun x a=>by
    rcases List.mem_append.1 a with a|a
    · exact h.bX x a
    · rw[List.mem_singleton]at a;subst a;exact o
  unfold vG
  by_cases h0:(ig ks k.bX).length=0
  · have u:ig ks k.bX=[]:=List.eq_nil_of_length_eq_zero h0
    rw[if_pos h0];refine⟨v,fun s C=>?_,fun s g p d=>?_⟩
    · rw[f _ _ (r s C),vn]
      by_cases e:k.bX=s
      · subst e
        rw[if_pos rfl,u,iM Xx hk];rfl
      rw[if_neg e,fE (by rcases Nat.lt_or_ge k.bX s with M|M<;>omega)];exact h.head s C
    rw[vn]at d ⊢
    by_cases e:k.bX=s
    · subst e
      rw[if_pos rfl,u]at d ⊢;obtain rfl:g=0:=by have:=(List.getElem?_eq_some_iff.1 d).1;simp at this;exact this
      obtain rfl:k.pos=p:=by simpa using d
      rw[f _ _ t,fE Xx,hn];rfl
    rw[if_neg e]at d ⊢;obtain⟨x,a,H,_⟩:=kK (List.mem_of_getElem? d);have:=m x a;subst H;rw[f _ _ (i x a),fE Xx];exact h.next s g _ d
  rw[if_neg h0];have z:ig ks k.bX≠[]:=fun e=>h0 (by rw[e];rfl);have j:=zf _ z;generalize (ig ks k.bX).getLastD 0=q at j;obtain⟨y,G,Q,w⟩:=kK (List.mem_of_getElem? j);have T:=m y G;have V:=E y G;refine⟨v,fun s C=>?_,fun s g p d=>?_⟩
  · rw[f _ _ (r s C),fE Xx,h.head s C,vn]
    by_cases e:k.bX=s
    · subst e;rw[if_pos rfl,uU Xx]
    rw[if_neg e]
  rw[vn]at d ⊢
  by_cases e:k.bX=s
  · subst e
    rw[if_pos rfl]at d ⊢
    rcases Nat.lt_trichotomy g ((ig ks k.bX).length-1)with D|D|D
    · rw[List.getElem?_append_left Xx]at d
      obtain⟨x,a,H,_⟩:=kK (List.mem_of_getElem? d);have:=CZ R d j Xx;subst H;have:=pair x a y G;rw[f _ _ (i x a),fE Xx,h.next _ g _ d,uU Xx]
    · rw[List.getElem?_append_left Xx,D,j]at d
      cases d;rw[f _ _ (by rw[<- Q];exact i y G),iM Xx hk,D,show(ig ks k.bX).length-1+1=(ig ks k.bX).length by omega,aaw]
    have:=(List.getElem?_eq_some_iff.1 d).1;simp only[List.length_append,List.length_singleton]at this;obtain rfl:g=(ig ks k.bX).length:=by omega
    rw[List.getElem?_append_right (Nat.le_refl _),Nat.sub_self]at d;obtain rfl:k.pos=p:=by simpa using d
    rw[f _ _ t,fE Xx,hn,JX Oy]
  rw[if_neg e]at d ⊢;obtain⟨x,a,H,P⟩:=kK (List.mem_of_getElem? d);have W:x.pos≠y.pos:=fun B=>e (by rw[<- w,<- P,OI nd a G B]);have:=pair x a y G;subst H;rw[f _ _ (i x a),fE Xx];exact h.next s g _ d
end
def qF (t:Ly):List UInt8:=t.takeWhile fun c=>decide (c≠61)
theorem aaQ {q:Pr} (h:∀c∈q.name,c≠61):qF (au q)=q.name:=by unfold qF au;rw[List.append_assoc,List.takeWhile_append_of_pos (fun c A=>decide_eq_true (h c A))];simp
def nB (ds:List aP) (t:Ly):List Nat:=(ds.filter fun k=>decide (qF k.bQ=t)).map aP.pos
theorem JI (ds:List aP) (k:aP) (t:Ly):nB (ds ++ [k]) t=if qF k.bQ=t then nB ds t ++ [k.pos]else nB ds t:=by
  unfold nB;rw[List.filter_append,List.map_append]
  by_cases h:qF k.bQ=t
  · rw[if_pos h];simp[h]
  rw[if_neg h];simp[h]
theorem yI {ds:List aP} {t:Ly} {p:Nat} (h:p∈nB ds t):∃k∈ds,k.pos=p/\qF k.bQ=t:=by obtain⟨k,hk,rfl⟩:=List.mem_map.1 h;obtain⟨A,B⟩:=List.mem_filter.1 hk;exact⟨k,A,q,dT B⟩
theorem JJ {ks b:List aP} (h:b.map nI=ks.map nI) (t:Ly):nB b t=nB ks t:=by
  have a:∀ks:List aP,nB ks t=((ks.map nI).filter fun q=>decide (qF q.2.2=t)).map Prod.fst:=fun ks=>by unfold nB;rw[List.filter_map,List.map_map];rfl
  rw[a,a,h]
structure vw (b:Ly) (ds fs:List aP):Prop where
  head:∀f∈fs,dS b (f.pos+32)=(nB ds f.bQ).getLastD 0
  next:∀(t:Ly) (j p:Nat),(nB ds t)[j]? = some p->dS b (p+32)=if j=0 then 0 else(nB ds t).getD (j-1) 0
theorem vw.keep {b c:Ly} {ds fs:List aP} (h:vw b ds fs) (h1:∀k∈ds,dS c (k.pos+32)=dS b (k.pos+32)) (g:∀f∈fs,dS c (f.pos+32)=dS b (f.pos+32)):vw c ds fs:=by refine⟨fun f a=>(g f a).trans (h.head f a),fun t i p d=>?_⟩;obtain⟨k,hk,e,_⟩:=yI (List.mem_of_getElem? d);subst e;exact(h1 k hk).trans (h.next t i _ d)
theorem vw.key {b:Ly} {ds a fs:List aP} (h:vw b ds fs) (hk:a.map nI=ds.map nI):vw b a fs :=
  ⟨fun f d=>by rw[JJ hk];exact h.head f d,fun t e p c=>by rw[JJ hk]at c ⊢;exact h.next t e p c⟩
theorem vw.field {b:Ly} {ds fs:List aP} {f:aP} (h:vw b ds fs) (c:dS b (f.pos+32)=0) (d:∀k∈ds,qF k.bQ≠f.bQ):vw b ds (fs ++ [f]):=by
  refine⟨fun g a=>?_,h.next⟩
  rcases List.mem_append.1 a with a|a
  · exact h.head g a
  rw[List.mem_singleton]at a;subst a;rw[c];have:nB ds g.bQ=[]:=by unfold nB;rw[List.map_eq_nil_iff,List.filter_eq_nil_iff];intro k hk;simpa using d k hk
  rw[this];rfl
theorem vw.put {b:Ly} {ds fs:List aP} {f k:aP} {v:Nat} (h:vw b ds fs) (c:f∈fs) (j:f.bQ=qF k.bQ) (m:v=dS b (f.pos+32)) (one:∀x∈fs,∀y∈fs,(x.bQ=y.bQ↔x.pos=y.pos))
    (ap1:∀x∈ds,(x.pos+40<=k.pos\/k.pos+40<=x.pos)/\(x.pos+40<=f.pos\/f.pos+40<=x.pos)) (ap2:∀g∈fs,(g.pos+40<=k.pos\/k.pos+40<=g.pos)/\(g.pos=f.pos\/g.pos+40<=f.pos\/f.pos+40<=g.pos)) (hk:k.pos<18446744073709551616) (l1:k.pos+40<=b.length) (l2:f.pos+40<=b.length) :
    vw (iq (iq b (k.pos+32) v) (f.pos+32) k.pos) (ds ++ [k]) fs:=by
  have r:=(ap2 f c).1;refine⟨fun g C=>?_,fun t d p a=>?_⟩
  · rw[JI]
    by_cases e:qF k.bQ=g.bQ
    · rw[if_pos e,aaF,(one g C f c).1 (by rw[j,e]),iM (by rw[eP];omega) hk]
    rw[if_neg e];have q:=ap2 g C;have o:g.pos≠f.pos:=fun n=>e (by rw[(one g C f c).2 n,j]);rw[fE Xx,fE Xx];exact h.head g C
  rw[JI]at a ⊢
  by_cases e:qF k.bQ=t
  · rw[if_pos e]at a ⊢
    rcases Nat.lt_or_ge d (nB ds t).length with F|F
    · rw[List.getElem?_append_left F]at a
      obtain⟨x,i,D,_⟩:=yI (List.mem_of_getElem? a);have G:=ap1 x i;subst D;rw[fE Xx,fE Xx,h.next t d _ a];split
      · rfl
      rw[uU Xx]
    have:=(List.getElem?_eq_some_iff.1 a).1;simp only[List.length_append,List.length_singleton]at this;obtain rfl:d=(nB ds t).length:=by omega
    rw[List.getElem?_append_right (Nat.le_refl _),Nat.sub_self]at a;obtain rfl:k.pos=p:=by simpa using a
    have l:=h.head f c;rw[j,e]at l;rw[fE Xx,iM Xx (by rw[m];exact MS _ _),m,l];split
    · rename_i h0
      rw[List.eq_nil_of_length_eq_zero h0];rfl
    rename_i h0;have:=zf (nB ds t) (fun H=>h0 (by rw[H];rfl));rw[uU Xx,List.getD_eq_getElem?_getD,this];rfl
  rw[if_neg e]at a ⊢;obtain⟨x,i,D,_⟩:=yI (List.mem_of_getElem? a);have G:=ap1 x i;subst D;rw[fE Xx,fE Xx];exact h.next t d _ a
end Go.Wk
