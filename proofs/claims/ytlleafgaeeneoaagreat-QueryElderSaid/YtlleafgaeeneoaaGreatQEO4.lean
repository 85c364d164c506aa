/- Part 4 of the walk of a law. No statement is proved here. -/
import Derived.Test.YtlleafgaeeneoaaGreatQEO3
import Derived.Test.YtlleafgaeeneoaaGreatRows
set_option maxRecDepth 100000
set_option linter.unusedVariables false
set_option linter.unusedSimpArgs false
namespace Go.Wk
open Go Go.RowKit
structure Hs (m:Mk):Prop where
  r4:mF m.b 288 m.c.ay m.ai
  r5:mF m.b (304+16*m.c.ay) m.c.aC m.ak
  rd:vw m.b m.ai m.ak
  s4:∀k∈m.ai,k.bX=cH m k.bQ%m.c.ay
  s5:∀k∈m.ak,k.bX=cH m k.bQ%m.c.aC
  own:∀k∈m.ai,∃f∈m.ak,f.bQ=qF k.bQ
  bear:∀f∈m.ak,∃k∈m.ai,qF k.bQ=f.bQ
  one:∀x∈m.ak,∀y∈m.ak,x.bQ=y.bQ->x=y
  a4:(m.ai.map aP.pos).Pairwise (· < ·)
  a5:(m.ak.map aP.pos).Pairwise (· < ·)
  n15:m.bR 15=m.ai.length
  n16:m.bR 16=m.ak.length
  c15:m.ai.length<=m.b.length
  c16:m.ak.length<=m.b.length
  h20:m.h.n.length=20
theorem YQ {b:Ly} {q:Nat} (h:q+8<=b.length):(lS b (q:Nat) 8).1=dS b q:=by unfold lS dS;rw[if_pos ⟨by decide,by omega,by omega⟩];simp
theorem SG {m:Mk} {k v:Nat} (h:k<m.h.n.length):(m.cE k v).bR k=v:=by show(m.h.n.set k v).getD k 0=v;rw[List.getD_eq_getElem?_getD,List.getElem?_set_self h];rfl
def xf (h:Nat) (t:Ly):List UInt8:=gu {bY:=h,b9:=0,dat:=0,au:=t}
def yK (h:Nat) (t:Ly):List UInt8:=iw {bY:=h,b9:=0,d9:=0,entry:=0,array:=0,bB:=0,au:=t}
theorem agO {h:Nat} (t:Ly) (e:h<18446744073709551616):(xf h t).length=oS (40+t.length)/\dS (xf h t) 24=0/\dS (xf h t) 32=0:=by have c:xf h t=qn 2 (nums [h,0,0] ++ t):=rfl;obtain⟨_,a,b,_⟩:=aep (k:=2) Xy [h,0,0] t (by intro v d;simp at d;omega);rw[<- c]at a b;simp only[List.length_cons,List.length_nil,Nat.zero_add,Nat.reduceAdd,Nat.reduceMul]at a;exact⟨a,b 1 _ q,b 2 _ q⟩
theorem ag7 {h:Nat} (t:Ly) (e:h<18446744073709551616):(yK h t).length=oS (64+t.length)/\dS (yK h t) 24=0:=by have c:yK h t=qn 1 (nums [h,0,0,0,0,0] ++ t):=rfl;obtain⟨_,a,b,_⟩:=aep (k:=1) Xy [h,0,0,0,0,0] t (by intro v d;simp at d;omega);rw[<- c]at a b;simp only[List.length_cons,List.length_nil,Nat.zero_add,Nat.reduceAdd,Nat.reduceMul]at a;exact⟨a,b 1 _ q⟩
def kn (t:Ly) (p s:Nat):aP:={bQ:=t,pos:=p,bX:=s,bB:=0,aT:=[]}
theorem NW (m:Mk) (o:Ly) {i:Nat} (h:i≠6/\i≠7):(m.bV o).2.bR i=m.bR i:=by simp only[Mk.bV];rw[cL Xx,cL Xx];rfl
theorem aer (m:Mk) (o:Ly):(m.bV o).2.h.n.length=m.h.n.length:=by simp[Mk.bV,Mk.cE]
theorem aat {m:Mk} {name:Ly} (hk:oM name m.ak=none) (h20:m.h.n.length=20) :
    ∃z,m.field name=(m.b.length,z)/\z.b=vG (m.b ++ xf (cH m name) name) m.ak (m.bR 4) m.b.length (cH m name%m.c.aC)/\z.ak=m.ak ++ [kn name m.b.length (cH m name%m.c.aC)]/\z.ai=m.ai/\z.c=m.c/\z.bR 15=m.bR 15/\z.bR 16=(m.bR 16+1)%18446744073709551616/\z.h.n.length=20:=by
  unfold Mk.field;rw[hk];simp only;have H:=gH m (xf (cH m name) name);have I:=dU m (xf (cH m name) name);have D:=fun i S=>NW m (xf (cH m name) name) (i:=i) S;have J:=aer m (xf (cH m name) name);have K:(m.bV (xf (cH m name) name)).2.b=m.b ++ xf (cH m name) name:=rfl;rw[show gu {bY:=cQ m.c.cB m.c.bZ name,b9:=0,dat:=0,au:=name}=xf (cH m name) name from rfl];generalize m.bV (xf (cH m name) name)=r at *;obtain⟨p,A⟩:=r;simp only at H I D J K ⊢;obtain⟨E,O,F,_⟩:=I;have L:=adB A A.ak (A.bR 4) p (cQ m.c.cB m.c.bZ name%A.c.aC);have N:=gV A A.ak (A.bR 4) p (cQ m.c.cB m.c.bZ name%A.c.aC);generalize A.hang A.ak (A.bR 4) p (cQ m.c.cB m.c.bZ name%A.c.aC)=r at *;obtain⟨n,B⟩:=r;simp only at L N ⊢;obtain⟨P,Q,R,U,V,G⟩:=N;have M:p=m.b.length:=H.1;have C:∀i,B.bR i=A.bR i:=fun i=>by show B.h.n.getD i 0=_;rw[G];rfl
  have T:({B with depth:=max A.depth n}:Mk).h.n.length=20:=by show B.h.n.length=20;rw[G,J,h20]
  refine⟨_,by rw[M],?_,?_,?_,?_,?_,?_,?_⟩
  · show B.b=_;rw[L,K,F,D 4 Xy,M,E];rfl
  · show B.ak ++ _=_;rw[R,F,E];rfl
  · show B.ai=_;rw[Q,O]
  · show B.c=_;rw[P,E]
  · show(Mk.cE _ 16 _).bR 15=_
    rw[cL Xy];show B.bR 15=_;rw[C,D 15 Xy]
  · show(Mk.cE _ 16 _).bR 16=_
    rw[SG Xx];show(B.bR 16+1)%_=_;rw[C,D 16 Xy]
  show(B.h.n.set 16 _).length=20;rw[List.length_set];exact T
theorem acP {m:Mk} {x:Pr} (hk:mQ (au x) m.ai 0=none) (h20:m.h.n.length=20) :
    ∃z:Mk,z.b=vG (m.b ++ yK (cH m (au x)) (au x)) m.ai (m.bR 2) m.b.length (cH m (au x)%m.c.ay)/\z.ai=m.ai ++ [kn (au x) m.b.length (cH m (au x)%m.c.ay)]/\z.ak=m.ak/\z.c=m.c/\z.bR 15=(m.bR 15+1)%18446744073709551616/\z.bR 16=m.bR 16/\z.bR 4=m.bR 4/\z.h.n.length=20 /\
      (m.data x).2=(((z.field x.name).2.put (m.b.length+32) (lS (z.field x.name).2.b ((z.field x.name).1+32:Nat) 8).1).put ((z.field x.name).1+32) m.b.length):=by
  unfold Mk.data;rw[hk];simp only;have I:=gH m (yK (cH m (au x)) (au x));have J:=dU m (yK (cH m (au x)) (au x));have D:=fun i S=>NW m (yK (cH m (au x)) (au x)) (i:=i) S;have K:=aer m (yK (cH m (au x)) (au x));have L:(m.bV (yK (cH m (au x)) (au x))).2.b=m.b ++ yK (cH m (au x)) (au x):=rfl;rw[show iw {bY:=cQ m.c.cB m.c.bZ (au x),b9:=0,d9:=0,entry:=0,array:=0,bB:=0,au:=au x}=yK (cH m (au x)) (au x)from rfl];generalize m.bV (yK (cH m (au x)) (au x))=r at *;obtain⟨p,B⟩:=r;simp only at I J D K L ⊢;obtain⟨E,G,O,_⟩:=J;have M:=adB B B.ai (B.bR 2) p (cQ m.c.cB m.c.bZ (au x)%B.c.ay);have N:=gV B B.ai (B.bR 2) p (cQ m.c.cB m.c.bZ (au x)%B.c.ay);generalize B.hang B.ai (B.bR 2) p (cQ m.c.cB m.c.bZ (au x)%B.c.ay)=r at *;obtain⟨n,A⟩:=r;simp only at M N ⊢;obtain⟨P,Q,R,V,W,H⟩:=N;have F:p=m.b.length:=I.1;have C:∀i,A.bR i=B.bR i:=fun i=>by show A.h.n.getD i 0=_;rw[H];rfl
  have T:A.h.n.length=20:=by rw[H,K,h20]
  have U:(A.cE 19 (max (A.bR 19) n)).h.n.length=20:=by show(A.h.n.set 19 _).length=20;rw[List.length_set];exact T
  refine⟨({(A.cE 19 (max (A.bR 19) n)).cE 15 (((A.cE 19 (max (A.bR 19) n)).bR 15+1)%18446744073709551616)with ai:=A.ai ++ [kn (au x) p (cQ m.c.cB m.c.bZ (au x)%B.c.ay)]}:Mk),?_,?_,?_,?_,?_,?_,?_,?_,?_⟩
  · show A.b=_;rw[M,L,G,D 2 Xy,F,E];rfl
  · show A.ai ++ _=_;rw[Q,G,F,E];rfl
  · show A.ak=_;rw[R,O]
  · show A.c=_;rw[P,E]
  · show(Mk.cE _ 15 _).bR 15=_
    rw[SG Xx,cL Xy,C,D 15 Xy]
  · show(Mk.cE _ 15 _).bR 16=_
    rw[cL Xy,cL Xy,C,D 16 Xy]
  · show(Mk.cE _ 15 _).bR 4=_
    rw[cL Xy,cL Xy,C,D 4 Xy]
  · show(List.set _ 15 _).length=20;rw[List.length_set];exact U
  subst F;rfl
theorem afr (m:Mk) (p v:Nat):(m.put p v).ai=m.ai/\(m.put p v).ak=m.ak/\(m.put p v).c=m.c/\(m.put p v).h=m.h/\(m.put p v).b=iq m.b p v:=by unfold Mk.put;exact⟨q,q,q,q,q⟩
theorem ZK (m:Mk) (p v q u:Nat):∃R,(m.put p v).put q u=R/\R.ai=m.ai/\R.ak=m.ak/\R.c=m.c/\(∀i,R.bR i=m.bR i)/\R.h.n.length=m.h.n.length/\R.b=iq (iq m.b p v) q u:=by obtain⟨C,D,E,A,F⟩:=afr m p v;obtain⟨G,H,I,B,J⟩:=afr (m.put p v) q u;exact⟨_,rfl,G.trans C,H.trans D,I.trans E,fun i=>by unfold Mk.bR;rw[B,A],by rw[B,A],by rw[J,F]⟩
section
variable {m:Mk} {l:List Ob}
theorem Stat.far (h:Stat m l) {o:Ob} (a:o∈l) (hk:o.kind=1\/o.kind=2):304+16*m.c.ay+16*m.c.aC<=o.pos:=by
  have b:=h.ea.mem a;have g:=b.ge;have d:=dI o.size;have C:oS (16+16*m.c.ay)=16+16*m.c.ay:=by unfold oS;omega
  have u5:oS (16+16*m.c.aC)=16+16*m.c.aC:=by unfold oS;omega
  have D:=b.size.1
  rcases h.ea.sep a h.BH with e|e|e
  · subst e;simp at hk
  · simp only at e;omega
  simp only[C]at e
  rcases h.ea.sep a h.PE with A|A|A
  · subst A;simp at hk
  · simp only at A;omega
  simp only[u5]at A;omega
theorem Stat.two (h:Stat m l) {o x:Ob} (a:o∈l) (b:x∈l) (c:40<=o.size) (d:40<=x.size):o.pos=x.pos\/o.pos+40<=x.pos\/x.pos+40<=o.pos:=by
  have:=dI o.size;have:=dI x.size
  rcases h.ea.sep a b with e|e|e
  · exact .inl (by rw[e])
  · exact .inr (.inl Xx)
  exact .inr (.inr Xx)
theorem Stat.apart (h:Stat m l) {o x:Ob} (a:o∈l) (b:x∈l) (c:40<=o.size) (d:40<=x.size) (hk:o.kind≠x.kind):o.pos+40<=x.pos\/x.pos+40<=o.pos:=by
  have:=dI o.size;have:=dI x.size
  rcases h.ea.sep a b with e|e|e
  · exact absurd (congrArg Ob.kind e) hk
  · exact .inl Xx
  exact .inr Xx
theorem Stat.top (h:Stat m l) {o:Ob} (a:o∈l) (c:40<=o.size):o.pos+40<=m.b.length:=by have:=dI o.size;have:=(h.ea.mem a).le;omega
theorem Stat.dd (h:Stat m l):(∀x∈m.ai,304+16*m.c.ay+16*m.c.aC<=x.pos/\x.pos+40<=m.b.length)/\(∀x∈m.ak,304+16*m.c.ay+16*m.c.aC<=x.pos/\x.pos+40<=m.b.length) /\
    (∀x∈m.ai,∀y∈m.ai,x.pos=y.pos\/x.pos+40<=y.pos\/y.pos+40<=x.pos)/\(∀x∈m.ak,∀y∈m.ak,x.pos=y.pos\/x.pos+40<=y.pos\/y.pos+40<=x.pos)/\(∀x∈m.ai,∀y∈m.ak,x.pos+40<=y.pos\/y.pos+40<=x.pos):=by
  refine⟨fun x A=>?_,fun x A=>?_,fun x A y B=>?_,fun x A y B=>?_,fun x A y B=>?_⟩
  · have o:=(h.data x A).ob;exact⟨h.far o (.inl q),h.top o Zx⟩
  · have o:=(h.fld x A).ob;exact⟨h.far o (.inr q),h.top o Zx⟩
  · exact h.two (h.data x A).ob (h.data y B).ob Zx Zx
  · exact h.two (h.fld x A).ob (h.fld y B).ob Zx Zx
  exact h.apart (h.data x A).ob (h.fld y B).ob Zx Zx Oy
end
theorem QB {ks:List aP} {k:aP} (h:(ks.map aP.pos).Pairwise (· < ·)) (hk:∀x∈ks,x.pos<k.pos):((ks ++ [k]).map aP.pos).Pairwise (· < ·):=by rw[List.map_append,List.pairwise_append];refine⟨h,by simp,fun a B b A=>?_⟩;obtain⟨x,C,rfl⟩:=List.mem_map.1 B;simp only[List.map_cons,List.map_nil,List.mem_singleton]at A;subst A;exact hk x C
theorem EC:∀{l:List aP} {s:Ly},oM s l=none->∀k∈l,k.bQ≠s
  | [],_,_,_,h=>by cases h
  | x :: l,s,h,k,hk=>by
    rw[oM]at h;split at h
    · cases h
    · rename_i hx
      rcases List.mem_cons.1 hk with rfl|hk
      · exact hx
      · exact EC h k hk
theorem mF.vH {b c:Ly} {tab n:Nat} {ks:List aP} (h:mF b tab n ks) (h1:∀s:Nat,s<n->dS c (tab+16*s)=dS b (tab+16*s)) (a:∀k∈ks,dS c (k.pos+24)=dS b (k.pos+24)):mF c tab n ks:=h.keep fun e d=>by
  rcases d with⟨s,hs,rfl⟩|⟨k,hk,rfl⟩
  · exact h1 s hs
  · exact a k hk
set_option maxHeartbeats 2000000 in
theorem agX {m:Mk} {l:List Ob} (h:Stat m l) (H:Hs m) (x:Pr) (aZ:∀c∈x.name,c≠61) (hb:m.b.length<900000) (bl:(au x).length<=1000/\x.name.length<=1000) :
    Hs (m.data x).2/\(m.data x).2.ai.map aP.bQ=if au x∈m.ai.map aP.bQ then m.ai.map aP.bQ else m.ai.map aP.bQ ++ [au x]:=by
  cases hk:mQ (au x) m.ai 0 with
  | some i =>
    obtain⟨k,d,B,_⟩:=yQ hk;have e:(m.data x).2=m:=(by unfold Mk.data;rw[hk]);rw[e,if_pos (List.mem_map.2 ⟨k,List.mem_of_getElem? d,B⟩)];exact⟨H,q⟩
  | none =>
    have aS:=wi hk;obtain⟨z,ar,I,z3,T,z5,aQ,be,aR,bf⟩:=acP (m:=m) (x:=x) hk H.h20;obtain⟨r,aq,Y,aa,aM⟩:∃r:aP,r.pos=m.b.length/\r.bQ=au x/\r.bX=cH m (au x)%m.c.ay/\kn (au x) m.b.length (cH m (au x)%m.c.ay)=r:=⟨_,q,q,q,q⟩;rw[aM]at I;clear aM;obtain⟨J,A,aK,ap,V⟩:=h.dd;have bi:=h.slots;have a0:=tL m (au x);obtain⟨bo,a3⟩:=ag7 (au x) a0;have aF:cH m (au x)%m.c.ay<m.c.ay:=Nat.mod_lt _ Xx;have bn:=dI (64+(au x).length);generalize ho:yK (cH m (au x)) (au x)=o at *;rw[h.n2]at ar
    -- the datum stands in its chain
    have aU:(m.b ++ o).length=m.b.length+o.length:=List.length_append;have aw:∀a,a+8<=m.b.length->dS (m.b ++ o) a=dS m.b a:=fun a E=>qu E;have aJ:mF z.b 288 m.c.ay z.ai:=(by rw[ar,I,<- aq,<- aa];have d:mF (m.b ++ o) 288 m.c.ay m.ai:=H.r4.vH (fun s Z=>aw _ (by have:=h.ea.mem h.BH;have:=this.le;have:=dI (16+16*m.c.ay);simp only at *;omega)) fun k hk=>aw _ (by have:=J k hk;omega);have a8:=h.ea.mem h.BH;have aW:=a8.le;have bk:=dI (16+16*m.c.ay);simp only at aW;exact d.hang (k:=r) (by rw[aa];exact aF) (fun y F=>by have:=J y F;omega) Xx (fun y F=>by have:=J y F;omega) aK H.a4 (by rw[aq,qw];exact a3) Xx Xx);have bg:304+16*m.c.ay+16*m.c.aC<=m.b.length:=(by have:=h.ea.mem h.PE;have:=this.le;have:=dI (16+16*m.c.aC);simp only at *;omega);have ao:∀a,a+8<=m.b.length->(a+8<=288+16*(cH m (au x)%m.c.ay)\/288+16*(cH m (au x)%m.c.ay)+16<=a)->(∀y∈m.ai,a+8<=y.pos+24\/y.pos+32<=a)->dS z.b a=dS m.b a:=fun a E d B=>by rw[ar];rw[<- aa]at d ⊢;exact(EN (n:=m.c.ay) (by rw[aa];exact aF) d B).trans (aw a E)
    have aI:mF z.b (304+16*m.c.ay) m.c.aC z.ak:=(by rw[z3];exact H.r5.vH (fun s Z=>ao _ Xx Xx fun y F=>by have:=J y F;omega) fun k hk=>ao _ (by have:=A k hk;omega) (by have:=A k hk;omega) fun y F=>by have:=V y F k hk;omega);have D:vw z.b m.ai z.ak:=(by rw[z3];exact H.rd.keep (fun k hk=>ao _ (by have:=J k hk;omega) (by have:=J k hk;omega) fun y F=>by have:=aK y F k hk;omega) fun f L=>ao _ (by have:=A f L;omega) (by have:=A f L;omega) fun y F=>by have:=V y F f L;omega);have av:z.b.length=m.b.length+o.length:=(by rw[ar,JY,aU]);have aT:∀t,cH z t=cH m t:=fun t=>by unfold cH;rw[T]
    rw[bf];have aH:∀(w:Mk),w.ai=z.ai->w.ai.map aP.bQ=if au x∈m.ai.map aP.bQ then m.ai.map aP.bQ else m.ai.map aP.bQ ++ [au x]:=fun w a2=>by rw[a2,I,if_neg (fun a1=>by obtain⟨k,d,B⟩:=List.mem_map.1 a1;exact aS k d B),List.map_append,List.map_cons,List.map_nil,Y]
    have a4:(z.ai.map aP.pos).Pairwise (· < ·):=(by rw[I];exact QB H.a4 fun y F=>by have:=J y F;omega);have aG:z.bR 15=z.ai.length:=(by have:=H.c15;rw[z5,I,H.n15,List.length_append];exact Nat.mod_eq_of_lt Xx);have am:qF (au x)=x.name:=aaQ aZ;cases L:oM x.name z.ak with
    | some p =>
      obtain⟨f,f1,rfl,aN⟩:=yS L;have e:z.field x.name=(f.pos,z):=(by unfold Mk.field;rw[L]);rw[e];simp only;have ag:f∈m.ak:=z3 ▸ f1;have bh:=A f ag;have C:(lS z.b (f.pos+32:Nat) 8).1=dS z.b (f.pos+32):=YQ Xx;have K:∀a,(a+8<=m.b.length+32\/m.b.length+40<=a)->(a+8<=f.pos+32\/f.pos+40<=a)->dS (iq (iq z.b (m.b.length+32) (lS z.b (f.pos+32:Nat) 8).1) (f.pos+32) m.b.length) a=dS z.b a:=fun a d B=>by rw[fE Xx,fE Xx]
      have mk:∀y∈z.ai,y∈m.ai\/y=r:=fun y F=>by rw[I]at F;simpa using F
      obtain⟨aA,af,u,j,N,ae,az,M⟩:=ZK z (m.b.length+32) (lS z.b (f.pos+32:Nat) 8).1 (f.pos+32) m.b.length;rw[af];clear af;have Q:∀t,cH aA t=cH m t:=fun t=>by unfold cH;rw[N,T]
      refine⟨⟨?_,?_,?_,?_,?_,?_,?_,?_,by rw[u];exact a4,?_,by rw[ae,u];exact aG,?_,?_,?_,az.trans aR⟩,aH _ u⟩
      · rw[M,N,u,T]
        refine aJ.vH (fun s Z=>K _ Xx Xx) fun k hk=>?_
        rcases mk k hk with d|rfl
        · have:=J k d;have:=V k d f ag;exact K _ Xx Xx
        · exact K _ Xx Xx
      · rw[M,N,j,T]
        exact aI.vH (fun s Z=>K _ Xx Xx) fun k hk=>by rw[z3]at hk;have:=A k hk;have:=ap k hk f ag;exact K _ Xx Xx
      · rw[M,u,j,I,<- aq]
        refine D.put (k:=r) f1 (by rw[aN,Y];exact am.symm) C (fun a E c W=>?_) (fun y F=>?_) (fun g R=>?_) Xx Xx Xx
        · rw[z3]at E W
          exact⟨fun e=>by rw[H.one a E c W e],fun e=>by rw[OI H.a5 E W e]⟩
        · have:=J y F;have:=V y F f ag;omega
        · rw[z3]at R;have:=A g R;have:=ap g R f ag;omega
      · intro k hk
        rw[u]at hk;rw[Q,N,T]
        rcases mk k hk with d|rfl
        · exact H.s4 k d
        · rw[aa,Y]
      · intro k hk
        rw[j]at hk;rw[Q,N,T];exact H.s5 k (z3 ▸ hk)
      · intro k hk
        rw[u]at hk
        rcases mk k hk with d|rfl
        · obtain⟨g,aj,al⟩:=H.own k d;exact⟨g,by rw[j,z3];exact aj,al⟩
        · exact⟨f,by rw[j];exact f1,by rw[aN,Y];exact am.symm⟩
      · intro g R
        rw[j]at R;obtain⟨k,aD,aE⟩:=H.bear g (z3 ▸ R);exact⟨k,by rw[u,I];simp[aD],aE⟩
      · intro a E c W;rw[j]at E W;exact H.one a (z3 ▸ E) c (z3 ▸ W)
      · rw[j,z3];exact H.a5
      · rw[ae,j,aQ,z3];exact H.n16
      · rw[M,u,eP,eP,av,I,List.length_append];have:=H.c15;simp only[List.length_singleton];omega
      · rw[M,j,eP,eP,av,z3];have:=H.c16;omega
    | none =>
      have P:=EC L;obtain⟨y,a9,an,X,ba,ab,bb,bc,bd⟩:=aat (m:=z) (name:=x.name) L aR;have R:=tL z x.name;obtain⟨bp,a6,a7⟩:=agO x.name R;have bm:=dI (40+x.name.length);have ax:cH z x.name%z.c.aC<m.c.aC:=(by rw[T];exact Nat.mod_lt _ Xx);generalize xf (cH z x.name) x.name=fo at *;obtain⟨fd,ah,U,fs,aL⟩:∃fd:aP,fd.pos=z.b.length/\fd.bQ=x.name/\fd.bX=cH z x.name%z.c.aC/\kn x.name z.b.length (cH z x.name%z.c.aC)=fd:=⟨_,q,q,q,q⟩;rw[aL]at X;clear aL;rw[a9];simp only;rw[be,h.n4]at an;have aV:(z.b ++ fo).length=z.b.length+fo.length:=List.length_append;have aB:∀a,a+8<=z.b.length->dS (z.b ++ fo) a=dS z.b a:=fun a E=>qu E;have aO:y.b.length=z.b.length+fo.length:=(by rw[an,JY,aV]);have mk:∀v∈z.ai,v∈m.ai\/v=r:=fun v C=>by rw[I]at C;simpa using C
      have G:mF y.b (304+16*m.c.ay) m.c.aC y.ak:=by
        rw[an,X,z3,<- ah,<- fs];have d:mF (z.b ++ fo) (304+16*m.c.ay) m.c.aC m.ak:=(by rw[<- z3];exact aI.vH (fun s Z=>aB _ Xx) fun k hk=>aB _ (by rw[z3]at hk;have:=A k hk;omega));exact d.hang (k:=fd) (by rw[fs];exact ax) (fun v C=>by have:=A v C;omega) Xx (fun v C=>by have:=A v C;omega) ap H.a5 (by rw[ah,qw];exact a6) Xx Xx
      have ad:∀a,a+8<=z.b.length->(a+8<=304+16*m.c.ay+16*(cH z x.name%z.c.aC)\/304+16*m.c.ay+16*(cH z x.name%z.c.aC)+16<=a)->(∀v∈m.ak,a+8<=v.pos+24\/v.pos+32<=a)->dS y.b a=dS z.b a:=fun a E d B=>by rw[an,z3];rw[<- fs]at d ⊢;exact(EN (n:=m.c.aC) (by rw[fs];exact ax) d B).trans (aB a E)
      have aY:mF y.b 288 m.c.ay z.ai:=by
        refine aJ.vH (fun s Z=>ad _ Xx Xx fun v C=>by have:=A v C;omega) fun k hk=>?_
        rcases mk k hk with d|rfl
        · have:=J k d;exact ad _ Xx Xx fun v C=>by have:=V k d v C;omega
        · exact ad _ Xx Xx fun v C=>by have:=A v C;omega
      have aX:vw y.b m.ai y.ak:=by
        have d:vw y.b m.ai z.ak:=D.keep (fun k hk=>by have:=J k hk;exact ad _ Xx Xx fun v C=>by have:=V k hk v C;omega) fun f L=>by rw[z3]at L;have:=A f L;exact ad _ Xx Xx fun v C=>by have:=ap f L v C;omega
        rw[X];refine d.field (f:=fd) ?_ fun k hk e=>?_
        · rw[an,z3,<- fs]
          refine(EN (n:=m.c.aC) (by rw[fs];exact ax) (by rw[fs];omega) (fun v C=>by have:=A v C;omega)).trans ?_;rw[ah,qw];exact a7
        · obtain⟨g,aj,al⟩:=H.own k hk
          exact P g (by rw[z3];exact aj) (by rw[al,e,U])
      have C:(lS y.b (z.b.length+32:Nat) 8).1=dS y.b (z.b.length+32):=YQ Xx;have K:∀a,(a+8<=m.b.length+32\/m.b.length+40<=a)->(a+8<=z.b.length+32\/z.b.length+40<=a)->dS (iq (iq y.b (m.b.length+32) (lS y.b (z.b.length+32:Nat) 8).1) (z.b.length+32) m.b.length) a=dS y.b a:=fun a d B=>by rw[fE Xx,fE Xx]
      have S:y.ai=z.ai:=ba;have bj:∀t,cH y t=cH m t:=fun t=>by unfold cH;rw[ab,T]
      have O:∀g∈y.ak,g∈m.ak\/g=fd:=fun g R=>by rw[X,z3]at R;simpa using R
      have f1:fd∈y.ak:=(by rw[X];simp);obtain⟨aA,af,u,j,N,ae,az,M⟩:=ZK y (m.b.length+32) (lS y.b (z.b.length+32:Nat) 8).1 (z.b.length+32) m.b.length;rw[af];clear af;have Q:∀t,cH aA t=cH m t:=fun t=>by unfold cH;rw[N,ab,T]
      refine⟨⟨?_,?_,?_,?_,?_,?_,?_,?_,by rw[u,S];exact a4,?_,by rw[ae,u,bb,S];exact aG,?_,?_,?_,az.trans bd⟩,aH _ (u.trans S)⟩
      · rw[M,N,u,ab,T,S]
        refine aY.vH (fun s Z=>K _ Xx Xx) fun k hk=>?_
        rcases mk k hk with d|rfl
        · have:=J k d;exact K _ Xx Xx
        · exact K _ Xx Xx
      · rw[M,N,j,ab,T]
        refine G.vH (fun s Z=>K _ Xx Xx) fun k hk=>?_
        rcases O k hk with d|rfl
        · have:=A k d;exact K _ Xx Xx
        · exact K _ Xx Xx
      · rw[M,u,j,S,I,<- aq,<- ah]
        refine aX.put (f:=fd) (k:=r) f1 (by rw[U,Y];exact am.symm) (by rw[ah];exact C) (fun a E c W=>?_) (fun v C=>?_) (fun g R=>?_) Xx Xx Xx
        · rcases O a E with d|rfl
          · rcases O c W with B|rfl
            · exact⟨fun e=>by rw[H.one a d c B e],fun e=>by rw[OI H.a5 d B e]⟩
            · exact⟨fun e=>absurd (e.trans U) (P a (by rw[z3];exact d)),fun e=>by have:=A a d;omega⟩
          · rcases O c W with B|rfl
            · exact⟨fun e=>absurd (e.symm.trans U) (P c (by rw[z3];exact B)),fun e=>by have:=A c B;omega⟩
            · exact⟨fun _=>rfl,fun _=>rfl⟩
        · have:=J v C;omega
        · rcases O g R with d|rfl
          · have:=A g d;omega
          · omega
      · intro k hk
        rw[u]at hk;rw[Q,N,ab,T]
        rcases mk k (S ▸ hk)with d|rfl
        · exact H.s4 k d
        · rw[aa,Y]
      · intro k hk
        rw[j]at hk;rw[Q,N,ab,T]
        rcases O k hk with d|rfl
        · exact H.s5 k d
        · rw[fs,U,aT,T]
      · intro k hk
        rw[u]at hk
        rcases mk k (S ▸ hk)with d|rfl
        · obtain⟨g,aj,al⟩:=H.own k d;exact⟨g,by rw[j,X,z3];simp[aj],al⟩
        · exact⟨_,by rw[j];exact f1,by rw[U,Y];exact am.symm⟩
      · intro g R
        rw[j]at R
        rcases O g R with d|rfl
        · obtain⟨k,aD,aE⟩:=H.bear g d
          exact⟨k,by rw[u,S,I];simp[aD],aE⟩
        · exact⟨r,by rw[u,S,I];simp,by rw[Y,U];exact am⟩
      · intro a E c W e
        rw[j]at E W
        rcases O a E with d|rfl
        · rcases O c W with B|rfl
          · exact H.one a d c B e
          · exact absurd (e.trans U) (P a (by rw[z3];exact d))
        · rcases O c W with B|rfl
          · exact absurd (e.symm.trans U) (P c (by rw[z3];exact B))
          · rfl
      · rw[j,X,z3];exact QB H.a5 fun v C=>by have:=A v C;omega
      · have:=H.c16
        rw[ae,j,bc,X,aQ,z3,H.n16,List.length_append];exact Nat.mod_eq_of_lt Xx
      · rw[M,u,eP,eP,aO,av,S,I,List.length_append];have:=H.c15;simp only[List.length_singleton];omega
      · rw[M,j,eP,eP,aO,av,X,z3,List.length_append];have:=H.c16;simp only[List.length_singleton];omega
def CR (l:List Ob) (a:Nat):Prop:=∀o∈l,(o.kind=4\/o.kind=5->a+8<=o.pos\/o.pos+oS o.size<=a)/\((o.kind=1\/o.kind=2)->40<=o.size->a+8<=o.pos\/o.pos+40<=a)
theorem JU {b:Ly} {l:List Ob} {e a:Nat} (c:fF b 272 l e) (h:a+8<=272):CR l a:=fun o d=>by have:=(c.mem d).ge;exact⟨fun _=>.inl Xx,fun _ _=>.inl Xx⟩
theorem YJ {b:Ly} {l:List Ob} {e a:Nat} (c:fF b 272 l e) {x:Ob} (f:x∈l) (h1:x.pos+16<=a) (g:a+8<=x.pos+oS x.size) (hk:x.kind=6\/x.kind=1/\x.pos+40<=a):CR l a:=fun o d=>by
  have i:=dI o.size;have j:=dI x.size
  rcases c.sep d f with e1|e1|e1
  · subst e1
    exact⟨fun h=>by omega,fun h _=>by omega⟩
  · exact⟨fun _=>.inr Xx,fun _ _=>.inr Xx⟩
  · exact⟨fun _=>.inl Xx,fun _ _=>.inl Xx⟩
theorem FK {b:Ly} {l:List Ob} {e src a:Nat} {av:List Nat} (d:fF b 272 l e) (h:zS src av a) (f:∀k c:Nat,av[k]? = some c->(⟨c,6,24+8*dn (k:Int)⟩:Ob)∈l) (g:CR l src):CR l a:=by
  rcases h with h|⟨k,c,A,B,C⟩
  · rw[h];exact g
  exact YJ d (f k c A) Zx (by rw[iC];simp only;omega) (.inl q)
theorem CR.mono {l r:List Ob} {a:Nat} (h:CR r a) (c:∀o∈l,o∈r):CR l a:=fun o b=>h o (c o b)
structure Kept (m m':Mk):Prop where
  c:m'.c=m.c
  ds:m'.ai.map nI=m.ai.map nI
  fs:m'.ak=m.ak
  n15:m'.bR 15=m.bR 15
  n16:m'.bR 16=m.bR 16
  len:m.b.length<=m'.b.length
  at4:∀s:Nat,s<m.c.ay->dS m'.b (288+16*s)=dS m.b (288+16*s)
  at5:∀s:Nat,s<m.c.aC->dS m'.b (304+16*m.c.ay+16*s)=dS m.b (304+16*m.c.ay+16*s)
  dd:∀k∈m.ai,dS m'.b (k.pos+24)=dS m.b (k.pos+24)/\dS m'.b (k.pos+32)=dS m.b (k.pos+32)
  ff:∀k∈m.ak,dS m'.b (k.pos+24)=dS m.b (k.pos+24)/\dS m'.b (k.pos+32)=dS m.b (k.pos+32)
theorem Kept.refl (m:Mk):Kept m m:=⟨q,q,q,q,q,Nat.le_refl _,fun _ _=>rfl,fun _ _=>rfl,fun _ _=>⟨q,q⟩,fun _ _=>⟨q,q⟩⟩
theorem Kept.trans {a b c:Mk} (h:Kept a b) (k:Kept b c):Kept a c:=by
  refine⟨k.c.trans h.c,k.ds.trans h.ds,k.fs.trans h.fs,k.n15.trans h.n15,k.n16.trans h.n16,lv h.len k.len,fun s B=>(k.at4 s (by rw[h.c];exact B)).trans (h.at4 s B),fun s B=>?_,fun x A=>?_,fun x A=>?_⟩
  · have:=k.at5 s (by rw[h.c];exact B)
    rw[h.c]at this;exact this.trans (h.at5 s B)
  · obtain⟨y,C,e,_⟩:=xD h.ds.symm A
    have:=k.dd y C;rw[e]at this;exact⟨this.1.trans (h.dd x A).1,this.2.trans (h.dd x A).2⟩
  have:=k.ff x (by rw[h.fs];exact A);exact⟨this.1.trans (h.ff x A).1,this.2.trans (h.ff x A).2⟩
theorem Kept.same {m m':Mk} (hb:m'.b=m.b) (e:m'.c=m.c) (hd:m'.ai=m.ai) (f:m'.ak=m.ak) (a:m'.bR 15=m.bR 15) (d:m'.bR 16=m.bR 16):Kept m m' :=
  ⟨e,by rw[hd],f,a,d,by rw[hb];exact Nat.le_refl _,fun _ _=>by rw[hb],fun _ _=>by rw[hb],fun _ _=>by rw[hb];exact⟨q,q⟩,fun _ _=>by rw[hb];exact⟨q,q⟩⟩
theorem Kept.kQ {m m':Mk} {l:List Ob} {S:Nat->Prop} (h:Stat m l) (e:Eff S m.b m'.b) (g:∀a,S a->CR l a) (u:m'.c=m.c) (hd:m'.ai.map nI=m.ai.map nI) (v:m'.ak=m.ak) (r:m'.bR 15=m.bR 15) (t:m'.bR 16=m.bR 16):Kept m m':=by
  have H:=h.ea.mem h.BH;have C:=H.le;have i:oS (16+16*m.c.ay)=16+16*m.c.ay:=by unfold oS;omega
  have u5:oS (16+16*m.c.aC)=16+16*m.c.aC:=by unfold oS;omega
  have o:=h.ea.mem h.PE;have D:=o.le;simp only[i]at C;simp only[u5]at D;obtain⟨n,G,_⟩:=h.dd;refine⟨u,hd,v,r,t,e.len,fun s j=>e.dS Xx fun a d=>?_,fun s j=>e.dS Xx fun a d=>?_,fun k hk=>?_,fun k hk=>?_⟩
  · have:=((g a d) _ h.BH).1 (.inl q);simp only[i]at this;omega
  · have:=((g a d) _ h.PE).1 (.inr q);simp only[u5]at this;omega
  · have p:=n k hk
    have f:∀a,S a->a+8<=k.pos\/k.pos+40<=a:=fun a d=>((g a d) _ (h.data k hk).ob).2 (.inl q) Zx;exact⟨e.dS Xx fun a d=>by have:=f a d;omega,e.dS Xx fun a d=>by have:=f a d;omega⟩
  have p:=G k hk;have f:∀a,S a->a+8<=k.pos\/k.pos+40<=a:=fun a d=>((g a d) _ (h.fld k hk).ob).2 (.inr q) Zx;exact⟨e.dS Xx fun a d=>by have:=f a d;omega,e.dS Xx fun a d=>by have:=f a d;omega⟩
theorem ZJ {ks a:List aP} (h:a.map nI=ks.map nI):a.map aP.pos=ks.map aP.pos/\a.map aP.bQ=ks.map aP.bQ/\a.length=ks.length:=by
  have b:∀ks:List aP,ks.map aP.pos=(ks.map nI).map Prod.fst:=fun ks=>by rw[List.map_map];rfl
  have c:∀ks:List aP,ks.map aP.bQ=(ks.map nI).map fun q=>q.2.2:=fun ks=>by rw[List.map_map];rfl
  exact⟨by rw[b,b,h],by rw[c,c,h],by simpa using congrArg List.length h⟩
theorem Hs.kept {m m':Mk} (H:Hs m) (k:Kept m m') (h20:m'.h.n.length=20):Hs m':=by
  obtain⟨K,L,E⟩:=ZJ k.ds;have D:∀t,cH m' t=cH m t:=fun t=>by unfold cH;rw[k.c]
  refine⟨?_,?_,?_,fun x A=>?_,fun x A=>?_,fun x A=>?_,fun f J=>?_,?_,by rw[K];exact H.a4,by rw[k.fs];exact H.a5,by rw[k.n15,E];exact H.n15,by rw[k.n16,k.fs];exact H.n16,?_,?_,h20⟩
  · rw[k.c]
    exact(H.r4.vH k.at4 fun x A=>(k.dd x A).1).key k.ds
  · rw[k.c,k.fs]
    exact H.r5.vH k.at5 fun x A=>(k.ff x A).1
  · rw[k.fs]
    exact(H.rd.keep (fun x A=>(k.dd x A).2) fun x A=>(k.ff x A).2).key k.ds
  · obtain⟨y,C,_,F,B⟩:=xD k.ds A
    rw[D,k.c,<- F,<- B];exact H.s4 y C
  · rw[D,k.c];exact H.s5 x (k.fs ▸ A)
  · obtain⟨y,C,_,_,B⟩:=xD k.ds A
    obtain⟨f,G,I⟩:=H.own y C;exact⟨f,by rw[k.fs];exact G,by rw[I,B]⟩
  · obtain⟨y,C,e⟩:=H.bear f (k.fs ▸ J)
    obtain⟨x,A,_,_,B⟩:=xD k.ds.symm C;exact⟨x,A,by rw[B,e]⟩
  · rw[k.fs];exact H.one
  · rw[E];exact lv H.c15 k.len
  rw[k.fs];exact lv H.c16 k.len
theorem ahN {ds:List aP} {i:Nat} {k a:aP} (h:ds[i]? = some k) (hk:nI a=nI k):(ds.set i a).map nI=ds.map nI:=by
  apply List.ext_getElem?;intro b;rw[List.getElem?_map,List.getElem?_map]
  by_cases hj:i=b
  · subst hj
    rw[List.getElem?_set_self (List.getElem?_eq_some_iff.1 h).1,h];exact congrArg some hk
  rw[List.getElem?_set_ne hj]
theorem EO {es:List ej} {I:List Nat} {e:Nat} (v:e<18446744073709551616):∀(d:List Nat) (m:Mk) (l:List Ob) (f:Nat->List Nat),kT m l es I f->(∀i∈d,i<m.ai.length)->d.Nodup->(∀i∈d,(f i).length<900000)->m.b.length+2100*d.length<900000->Kept m (kE e d m)
  | [],m,_,_,_,_,_,_,_=>Kept.refl m
  | i :: r,m,l,f,h,hi,hn,hl,hb=>by
    obtain⟨k,hk⟩:∃k,m.ai[i]? = some k:=⟨_,List.getElem?_eq_getElem (hi i Oy)⟩;simp only[List.length_cons]at hb;have u:=h.eD.data k (List.mem_of_getElem? hk);obtain⟨j,K,H⟩:=RD (e:=e) h.eD.ea hk u (h.dat i k hk) Xx v (by have:=hl i Oy;omega);have g:=h.hang hk H;have F:lG m.ai (jT e i m).ai:=(by rw[H.dat];exact lG.set hk H.pos.1 H.pos.2.1);have P:=H.top;obtain⟨B,E,Q,R,s⟩:=H.same;rw[List.nodup_cons]at hn;obtain⟨t,x,_⟩:=H.sub;have p:∀o∈l,o∈j:=fun o A=>by rw[x];exact List.mem_append_left _ A
    have w:=p _ u.ob;have L:=dI (64+k.bQ.length);have n:∀c,k.pos+40<=c->c+8<=k.pos+64->CR j c:=fun c C J=>YJ H.ea w Zx Zx (.inr ⟨q,C⟩);have G:Kept m (jT e i m):=Kept.kQ h.eD H.kQ (fun c y=>by
      refine CR.mono ?_ p
      rcases sD y with C|C
      · exact n c C.1 C.2
      · exact FK H.ea C H.more.chain.ob (n _ Xx Xx)) B (by rw[H.dat];exact ahN hk (by unfold nI;rw[H.pos.1,H.pos.2.1,H.pos.2.2])) E (s 15 Xy Xy Xy) (s 16 Xy Xy Xy)
    rw[nH];have z:∀a∈r,(if a=i then f i ++ [e]else f a)=f a:=fun a D=>if_neg (by rintro rfl;exact hn.1 D);exact G.trans (EO v r (jT e i m) j _ g (fun a D=>by rw[F.len];exact hi a (by simp[D])) hn.2 (fun a D=>by simp only[z a D];exact hl a (by simp[D])) Xx)
def IA:List (List UInt8)->List (List UInt8)->List (List UInt8)
  | ts,[]=>ts
  | ts,p :: r=>IA (if p∈ts then ts else ts ++ [p]) r
theorem PU:∀(a b ts:List (List UInt8)),IA ts (a ++ b)=IA (IA ts a) b
  | [],_,_=>rfl
  | p :: a,b,ts=>PU a b _
theorem JL:∀(fs:List Pr) (m:Mk) (l:List Ob) (ps:List (List UInt8)) (od:List Nat),Stat m l->(∀q∈fs,BD q)->m.b.length<=(gN fs m ps od).2.2.b.length
  | [],_,_,_,_,_,_=>Nat.le_refl _
  | x :: r,m,l,ps,od,h,hb=>by obtain⟨d,a⟩:=MY h x (hb x Oy);exact lv a.step.kQ.len (JL r (m.data x).2 d _ _ a.eD fun q c=>hb q (by simp[c]))
theorem JM:∀(fs:List Pr) (m:Mk) (l:List Ob) (ps:List (List UInt8)) (od:List Nat),Stat m l->Hs m->(∀q∈fs,BD q)->(∀q∈fs,∀c∈q.name,c≠61)->(gN fs m ps od).2.2.b.length<900000 ->
    Hs (gN fs m ps od).2.2/\(gN fs m ps od).2.2.ai.map aP.bQ=IA (m.ai.map aP.bQ) (fs.map au)
  | [],_,_,_,_,_,H,_,_,_=>⟨H,rfl⟩
  | x :: r,m,l,ps,od,h,H,hb,hn,hl=>by have bx:=hb x Oy;obtain⟨g,f⟩:=MY h x bx;have k:=JL (x :: r) m l ps od h hb;have n:=ic x;obtain⟨d,i⟩:=agX h H x (hn x Oy) Xx ⟨by have:=bx.1;have:=bx.2;omega,by have:=bx.1;omega⟩;obtain⟨e,j⟩:=JM r (m.data x).2 g (ps ++ [((m.data x).2.ai.getD (m.data x).1 known0).bQ]) (mC (m.data x).2.ai (m.data x).1 od) f.eD d (fun q a=>hb q (by simp[a])) (fun q a=>hn q (by simp[a])) hl;exact⟨e,by rw[List.map_cons,IA,<- i];exact j⟩
theorem ahk {s:Ly} (h:eB s=true):∀c∈s,c≠61:=by intro c A e;subst e;unfold eB at h;simp only[Bool.and_eq_true]at h;have:=List.all_eq_true.1 h.2 61 A;revert this;decide
theorem JB {m m':Mk} {l:List Ob} {es:List ej} {raw fs:List Pr} {bH mono s:Nat} {bC:Ly} (h:Img m l es) (aa:Hs m) (ok:vv m) (hb:bC.length=16) (O:jU raw=(fs,0)) (j:m.append raw bH mono bC=(s,0,m')) :
    Hs m'/\m'.ai.map aP.bQ=IA (m.ai.map aP.bQ) (fs.map au):=by
  by_cases h3:m.bR 9=18446744073709551615
  · have e:m.append raw bH mono bC=(0,1,m):=by unfold Mk.append;simp only[O];rw[if_neg Oy,if_pos h3]
    rw[e]at j;have:=congrArg (fun x=>x.2.1) j;simp at this
  have aC:=aa.h20;have Q:=zu m raw bH mono bC;rw[j]at Q;obtain⟨P,Z,aT,aR,aS⟩:=ve O;obtain⟨g,_⟩:=tP O;have D:=uM fs m [] [] 0 (qx ok) g;obtain⟨aI,u,W⟩:=yJ fs [] m l [] [] es (es.map ej.pos) (places es) h.c (fun i F=>GR h.who i F) ⟨rfl,by simp,by simp,List.Pairwise.nil⟩ g (by rw[List.nil_append];exact zV P Z);have T:=JM fs m l [] [] h.c.eD aa g (fun q aB=>ahk (by have:=Z q aB;unfold right at this;simp only[Bool.and_eq_true]at this;exact this.1))
  rcases hd:gN fs m [] []with⟨ps,V,x⟩
  rw[hd,Nat.zero_add]at D;rw[hd]at u W T;rw[List.nil_append]at W;simp only at D u W T;have a2:=ok.small;have s4:=ok.nb;have aX:=D.app.le;have aZ:=D.len.1;have ad:=h.n8;have aW:es.length<=40000:=by have:m.n8=es.length:=ad;omega
  obtain⟨an,aL⟩:=T Xx;obtain⟨c1,c2,c3⟩:=u.same;have n8:x.bR 8=m.bR 8:=c3 8 Xy Xy Xy;have aM:=JD W.yD;generalize hE:({seq:=(x.bR 9+1)%18446744073709551616,bH:=bH,mono:=mono,bC:=bC,xor:=nv 0 ps,aH:=ji x V}:i7)=E;have ae:E.bC.length=16:=by subst hE;exact hb
  have a0:E.aH.length=V.length:=by subst hE;simp[ji]
  have G:=u.img.entry (E:=E) (who:=V) ae Xx;have J:=(gH x (dc E));have H:=dU x (dc E);have K:∀i,i≠6->i≠7->(x.bV (dc E)).2.bR i=x.bR i:=fun i ay az=>NW x _ ⟨ay,az⟩;have U:(x.bV (dc E)).2.b=x.b ++ dc E:=rfl;have a1:=lU E ae
  rcases I:x.bV (dc E)with⟨e,B⟩
  rw[I]at G J H K U;simp only at G J H K U;have r:e=x.b.length:=J.1;subst r;have ap:Kept x B:=by refine Kept.kQ u.img.eD (S:=fun _=>False) (by rw[U];exact Eff.app _ _ _) (fun _ aA=>aA.elim) H.1 (by rw[H.2.1]) H.2.2.1 (K 15 Xy Xy) (K 16 Xy Xy)
  have y:B.bR 8=(es.map ej.pos).length:=by rw[K 8 Xy Xy,n8,ad,List.length_map]
  have aQ:x.b.length<100000:=by omega
  obtain⟨af,d⟩:=NP (x:=x.b.length) G.eD.ea G.main (tX _) (by have:=J.2.1;omega) Xx;rw[<- y]at d
  rcases hk:B.link B.main (B.bR 8) 176 x.b.length with⟨L,t,C⟩
  rw[hk]at d;simp only at d;have N:=kX (bH:=bH) (mono:=mono) (bC:=bC) O Oy h3 hd (by rw[hE];exact I) hk rfl;obtain⟨aJ,ah,aK,a3,a4,aj⟩:=d.same;have aq:Kept B C:=by
    have aw:∀o∈(aI ++ [(⟨x.b.length,3,64+16*E.aH.length⟩:Ob)]),o∈af:=fun o I=>by
      rcases d.sub with e1|e1 <;> rw[e1]
      · exact I
      · exact List.mem_append_left _ I
    exact Kept.kQ G.eD d.kQ (fun L j=>CR.mono (FK d.ea j d.chain.ob (JU d.ea Xy)) aw) aJ (by rw[ah]) aK (aj 15 Xy Xy Xy) (aj 16 Xy Xy Xy)
  obtain⟨a,M⟩:∃a,a=(let ag:=({C with main:=L}:Mk).cE 11 (L.getD 0 0);({ag with h:={ag.h with cM:=jc L%4294967296,dh:=t%4294967296}}:Mk)):=⟨_,rfl⟩;have A:∀i,i≠11->a.bR i=C.bR i:=fun i F=>by subst M;exact aY Xx
  have ax:a.b=C.b/\a.c=C.c/\a.ai=C.ai/\a.ak=C.ak/\a.main=L/\a.h.n.length=C.h.n.length:=by subst M;exact⟨rfl,rfl,rfl,rfl,rfl,by simp[Mk.cE]⟩
  rw[<- M]at N;clear M;obtain⟨X,al,Y,am,aN,aO⟩:=ax;have ar:Kept C a:=Kept.same X al Y am (A 15 Xy) (A 16 Xy);have ao:=G.link d X al Y am aN ⟨A 2 Xy,A 4 Xy⟩ (fun c=>c.to aO fun i F=>A i Xx);have aU:=d.top;have f:a.ai=x.ai:=by rw[Y,ah,H.2.1]
  have aV:=J.2.1;have av:=EO (e:=x.b.length) Xx V a af _ ao (fun i F=>by rw[f];exact W.lt i F) aM (fun i _=>by have:=GQ es i;omega) (by rw[X];omega);generalize kE x.b.length V a=z at *;have N:m.append raw bH mono bC=if z.c.bG<z.b.length then(0,15,m)else((x.bR 9+1)%18446744073709551616,0,nG z (B.bR 8) ((x.bR 9+1)%18446744073709551616) bH mono x.b.length bC):=N;rw[N]at j;split at j
  · have:=congrArg (fun x=>x.2.1) j;simp at this
  obtain⟨aD,aE,aF,aG,_⟩:=uT z (B.bR 8) ((x.bR 9+1)%18446744073709551616) bH mono x.b.length bC;have v:=tH z (B.bR 8) ((x.bR 9+1)%18446744073709551616) bH mono x.b.length bC 15 Xy;have w:=tH z (B.bR 8) ((x.bR 9+1)%18446744073709551616) bH mono x.b.length bC 16 Xy;obtain⟨_,k⟩:=Prod.mk.inj j;have p:=(Prod.mk.inj k).2;generalize nG z (B.bR 8) ((x.bR 9+1)%18446744073709551616) bH mono x.b.length bC=R at *;subst p;have ab:Kept x R:=ap.trans (aq.trans (ar.trans (av.trans (Kept.same aD aE aF aG v w))));exact⟨an.kept ab (Q.trans aC),by rw[(ZJ ab.ds).2.1];exact aL⟩
def PF (rs:List Rec):List (List UInt8):=rs.flatMap fun r=>r.ak.map au
theorem KJ:∀(n:Nat) (s:Sq) (m:Mk) (l:List Ob) (es:List ej) (rs:List Rec),nV m l es rs->Hs m->m.ai.map aP.bQ=IA [] (PF rs) ->
    Hs (iW n s m rs).1/\(iW n s m rs).1.ai.map aP.bQ=IA [] (PF (iW n s m rs).2.1)
  | 0,_,_,_,_,_,_,H,ht=>⟨H,ht⟩
  | n+1,s,m,l,es,rs,h,H,ht=>by
    unfold iW;split
    · have a:=wG s ((m.bR 9+1)%18446744073709551616)
      rcases hrec:s.record ((m.bR 9+1)%18446744073709551616)with⟨r,s1⟩
      rw[hrec]at a;have hk:=(rI m r.ak r.bH r.mono r.bC).2
      rcases ha:m.append r.ak r.bH r.mono r.bC with⟨e,c,m1⟩
      rw[ha]at hk;simp only[ha];split
      · rename_i hc
        have:=hk hc;simp only at this;subst this;exact⟨H,ht⟩
      · rename_i hc
        have i:c=0:=Classical.not_not.1 hc;subst i;obtain⟨k,f,g,p⟩:=Pw h a.1 a.2.1 a.2.2.1 a.2.2.2 ha;obtain⟨_,_,fs,b,_⟩:=JC h.img h.ok h.h20 a.2.1 a.2.2.1 ha;have j:=FM b a.2.2.2;obtain⟨d,o⟩:=JB h.img H h.ok a.2.1 b ha;exact KJ n s1 m1 k f _ g d (by
          rw[o,ht,j];unfold PF;rw[List.flatMap_append,PU];simp)
    · exact⟨H,ht⟩
theorem aen {c:nU} {t:Nat} (h1:1<=c.ay/\1<=c.aC):Hs (iB c t):=by
  obtain⟨_,G,H⟩:=aia (k:=4) (.inl q) c.ay;obtain⟨_,J,I⟩:=aia (k:=5) (.inr q) c.aC;have E:(iB c t).b=List.replicate 272 0 ++ dX 4 (List.replicate c.ay {first:=0,tail:=0}) ++ dX 5 (List.replicate c.aC {first:=0,tail:=0}):=rfl;have D:(List.replicate 272 (0:UInt8) ++ dX 4 (List.replicate c.ay {first:=0,tail:=0})).length=288+16*c.ay:=by rw[List.length_append,List.length_replicate,G];omega
  have B:(iB c t).ai=[]:=rfl;have A:(iB c t).ak=[]:=rfl;have F:(iB c t).c=c:=rfl;refine⟨⟨by rw[B];simp,fun s C=>?_,by rw[B];simp[ig]⟩,⟨by rw[A];simp,fun s C=>?_,by rw[A];simp[ig]⟩,⟨by rw[A];simp,by rw[B];simp[nB]⟩,by rw[B];simp,by rw[A];simp,by rw[B];simp,by rw[A];simp,by rw[A];simp,by rw[B];simp,by rw[A];simp,?_,?_,by rw[B];simp,by rw[A];simp,?_⟩
  · rw[F]at C
    rw[B,E,qu (by rw[D];omega),gO (by rw[List.length_replicate];omega),List.length_replicate,show 288+16*s-272=16+8*(2*s)by omega,H _ Xx];rfl
  · rw[F]at C ⊢
    rw[A,E,gO Xx,D,show 304+16*c.ay+16*s-(288+16*c.ay)=16+8*(2*s)by omega,I _ Xx];rfl
  · rw[B];show(((((((((List.replicate 20 0).set 0 272).set 2 288).set 3 _).set 4 _).set 5 _).set 6 _).set 7 2).set 9 _).getD 15 0=0;rw[aY Xy,aY Xy,aY Xy,aY Xy,aY Xy,aY Xy,aY Xy,aY Xy];rfl
  · rw[A];show(((((((((List.replicate 20 0).set 0 272).set 2 288).set 3 _).set 4 _).set 5 _).set 6 _).set 7 2).set 9 _).getD 16 0=0;rw[aY Xy,aY Xy,aY Xy,aY Xy,aY Xy,aY Xy,aY Xy,aY Xy];rfl
  show(((((((((List.replicate 20 0).set 0 272).set 2 288).set 3 _).set 4 _).set 5 _).set 6 _).set 7 2).set 9 _).length=20;simp only[List.length_set,List.length_replicate]
theorem aed {s e:Sq} {bG:Nat} {m:Mk} {rs:List Rec} (h:s.oO bG=(m,rs,e)):Hs m/\m.ai.map aP.bQ=IA [] (PF rs):=by
  have a:=uL s
  rcases h1:s.config with⟨c,C⟩
  rcases h2:C.bR 6 with⟨t,F⟩
  rw[h1]at a;have b:=C.j7 6;rw[h2]at b;simp only at b a;simp only[Sq.oO,h1,h2]at h;obtain⟨D,d,G⟩:=SE (c:=c) (t:=t) a.1 a.2.1 Xx;have:=KJ bG F (iB c t) (rR c) [] [] ⟨D,xG a.1 a.2.1 a.2.2,q,d,q,by simp,List.Pairwise.nil,by simp⟩ (aen a.2.1) q;rw[h]at this;exact this
theorem abM (b:Ly) (p n:Nat):iL (seg b p (16*n)) 0 n=iL b p n:=by unfold iL;refine List.map_congr_left fun i A=>?_;rw[List.mem_range]at A;rw[iZ,iZ,iZ,iZ,OY Xx,OY Xx];simp only[Nat.zero_add,Nat.add_assoc]
theorem Ub {b:Ly} {p n s:Nat} (h:s<n):(iL b p n)[s]? = some {first:=dS b (p+16*s),tail:=dS b (p+16*s+8)}:=by unfold iL;rw[List.getElem?_map,List.getElem?_range h];rfl
section
variable {m:Mk} {B:Ly} {H:bI} {l:List Ob} {es:List ej} {rs:List Rec}
end
section
variable {nx cd:Nat->Nat} {is:Nat->Bool} {len:Nat} {L:List Nat}
end
section
variable {m:Mk} {B:Ly} {H:bI} {l:List Ob} {es:List ej} {rs:List Rec}
theorem VG {ks:List aP} {s:Nat} {is:Nat->Bool} {P:aP->Prop} (hi:∀k∈ks,is k.pos=true↔P k) (c:∀k∈ks,P k->k.bX=s) (one:∀x∈ks,∀y∈ks,P x->P y->x=y) :
    (∀k∈ks,P k->(ig ks s).find? is=some k.pos)/\((∀k∈ks,¬P k)->(ig ks s).find? is=none):=by
  refine⟨fun k hk a=>?_,fun D=>?_⟩
  · cases hf:(ig ks s).find? is with
    | none =>
      rw[List.find?_eq_none]at hf;have:=hf k.pos (c k hk a ▸ afO hk);exact absurd ((hi k hk).2 a) (by simpa using this)
    | some p =>
      have C:=List.find?_some hf;obtain⟨x,b,rfl,_⟩:=kK (List.mem_of_find?_eq_some hf);rw[one x b k hk ((hi x b).1 C) a]
  rw[List.find?_eq_none];intro p a;obtain⟨x,b,rfl,_⟩:=kK a;intro h;exact D x b ((hi x b).1 (by simpa using h))
theorem afX (f:nV m l es rs) {x y:aP} (d:x∈m.ai) (e:y∈m.ai) (h:x.bQ=y.bQ):x=y:=by obtain⟨i,b⟩:=List.mem_iff_getElem?.1 d;obtain⟨g,a⟩:=List.mem_iff_getElem?.1 e;have:=f.img.c.eD.one i g x y b a (.inr h);subst this;rw[b]at a;exact Option.some.inj a
end
theorem RF {a:fB} {l:List Pr}:vz a l=true↔∃p∈l,p.name=a.name/\p.value∈a.values:=by
  induction l with
  | nil=>simp[vz]
  | cons p r ih =>
    unfold vz;split
    · rename_i h;rw[RE]at h;simp[h]
    · rename_i h;rw[RE]at h;simp[h,ih]
theorem PX {l:List Pr} {xs:List fB}:IB l xs=true↔∀a∈xs,vz a l=true:=by
  induction xs with
  | nil=>simp[IB]
  | cons a r ih=>unfold IB;split <;> rename_i h <;> simp[h,ih]
section
variable {o:List (List UInt8)} {m x:fM} {c:Nat} {l:List Pr}
end
theorem tN {z:Bool} {l:List Pr}:∀{rows:List (List fB)},holdsGo z l rows=true↔z=true\/∃r∈rows,IB l r=true
  | []=>by simp[holdsGo]
  | r :: t=>by
    unfold holdsGo;split
    · rename_i h;simp[h]
    · rename_i h;rw[tN];simp[h]
theorem OU (v:dx) (at_:List Nat) (x:Nat):∀(l:List fB) (o:List Nat),x∈l.foldl (ni v at_) o↔x∈o/\∀c∈l,x∈ac5 v at_ c
  | [],o=>by simp
  | c :: r,o=>by
    rw[List.foldl_cons,OU v at_ x r];unfold ni;rw[List.mem_filter,decide_eq_true_eq];constructor
    · rintro⟨⟨d,b⟩,f⟩
      refine⟨d,fun y a=>?_⟩
      rcases List.mem_cons.1 a with e|a
      · subst e;exact b
      · exact f y a
    · rintro⟨d,b⟩
      exact⟨⟨d,b c (List.mem_cons_self ..)⟩,fun y a=>b y (List.mem_cons_of_mem _ a)⟩
theorem SD:∀{a b:List Nat},a.Pairwise (· < ·)->b.Pairwise (· < ·)->(∀x,x∈a↔x∈b)->a=b
  | [],[],_,_,_=>rfl
  | [],y :: r,_,_,h=>by have:=(h y).2 (List.mem_cons_self ..);cases this
  | x :: r,[],_,_,h=>by have:=(h x).1 (List.mem_cons_self ..);cases this
  | x :: r,y :: t,ha,hb,h=>by
    obtain⟨e,g⟩:=List.pairwise_cons.1 ha;obtain⟨f,i⟩:=List.pairwise_cons.1 hb;have c:x=y:=by
      rcases List.mem_cons.1 ((h x).1 (List.mem_cons_self ..))with c|A
      · exact c
      · rcases List.mem_cons.1 ((h y).2 (List.mem_cons_self ..))with c|C
        · exact c.symm
        · have:=f x A;have:=e y C;omega
    subst c;refine congrArg _ (SD g i fun z=>?_);constructor
    · intro d
      rcases List.mem_cons.1 ((h z).1 (List.mem_cons_of_mem _ d))with c|A
      · subst c;have:=e z d;omega
      · exact A
    · intro d
      rcases List.mem_cons.1 ((h z).2 (List.mem_cons_of_mem _ d))with c|A
      · subst c;have:=f z d;omega
      · exact A
section
variable {m:Mk} {B:Ly} {H:bI} {l:List Ob} {es:List ej} {rs:List Rec}
theorem abu (r:nV m l es rs) {x j:Nat} {g:ej} (a:es[x]? = some g):(es.map ej.pos).getD x 0∈places es j↔j∈g.who:=by
  have p:(es.map ej.pos).getD x 0=g.pos:=by rw[List.getD_eq_getElem?_getD,List.getElem?_map,a];rfl
  rw[p];unfold places;rw[List.mem_map];constructor
  · rintro⟨i,k,s⟩
    obtain⟨n,o⟩:=List.mem_filter.1 k;obtain⟨y,C⟩:=List.mem_iff_getElem?.1 n;have e:=(EA r.img.c).2;obtain⟨b,f⟩:=List.getElem?_eq_some_iff.1 a;obtain⟨d,D⟩:=List.getElem?_eq_some_iff.1 C;have G:(es.map ej.pos)[x]'(by rw[List.length_map];exact b)=g.pos:=(by rw[List.getElem_map,f]);have H:(es.map ej.pos)[y]'(by rw[List.length_map];exact d)=i.pos:=(by rw[List.getElem_map,D]);have:x=y:=by
      rcases Nat.lt_trichotomy x y with A|A|A
      · have:=List.pairwise_iff_getElem.1 e x y (by rw[List.length_map];exact b) (by rw[List.length_map];exact d) A
        rw[G,H]at this;omega
      · exact A
      · have:=List.pairwise_iff_getElem.1 e y x (by rw[List.length_map];exact d) (by rw[List.length_map];exact b) A
        rw[G,H]at this;omega
    subst this;rw[a]at C;cases C;simpa using o
  intro h;exact⟨g,List.mem_filter.2 ⟨List.mem_of_getElem? a,by simpa using h⟩,q⟩
end
section
variable {v:dx} {at_:List Nat} {rs:List Rec}
theorem Zm (d:∀(p:Pr) (x:Nat),x∈ql v at_ p↔∃r,rs[x]? = some r/\p∈r.ak) (a:fB) (x:Nat) :
    x∈ac5 v at_ a↔∃r,rs[x]? = some r/\vz a r.ak=true:=by
  unfold ac5;rw[List.mem_flatMap];constructor
  · rintro⟨s,b,c⟩
    obtain⟨r,C,D⟩:=(d _ x).1 c;exact⟨r,C,RF.2 ⟨_,D,rfl,b⟩⟩
  rintro⟨r,b,c⟩;obtain⟨q,C,D,e⟩:=RF.1 c;refine⟨q.value,e,(d _ x).2 ⟨r,b,?_⟩⟩;rw[<- D];exact C
theorem FT (a:iQ v at_=List.range rs.length) (x:Nat):x∈iQ v at_↔∃r,rs[x]? = some r:=by rw[a,List.mem_range];exact⟨fun h=>⟨_,List.getElem?_eq_getElem h⟩,fun⟨_,h⟩=>(List.getElem?_eq_some_iff.1 h).1⟩
theorem aef (f:iQ v at_=List.range rs.length) (g:∀(p:Pr) (x:Nat),x∈ql v at_ p↔∃r,rs[x]? = some r/\p∈r.ak) (mt:fM) (x:Nat) :
    x∈qy v at_ mt↔∃r,rs[x]? = some r/\pM mt r.ak=true:=by
  unfold pM
  by_cases h0:mt.rows=[]
  · have k:qy v at_ mt=iQ v at_:=by unfold qy;rw[if_pos (yw.2 h0)]
    rw[k,FT f];simp[h0,holdsGo]
  rw[aau h0,(wP (Uf _)).2 x,zM,List.mem_flatMap];have j:decide (mt.rows.length=0)=false:=by simp[h0]
  rw[j];constructor
  · rintro⟨a,D,C⟩
    unfold IX at C;obtain⟨d,H⟩:=(OU _ _ x a _).1 C;obtain⟨r,b⟩:=(FT f x).1 d;refine⟨r,b,tN.2 (.inr ⟨a,D,PX.2 fun c e=>?_⟩)⟩;obtain⟨l,G,i⟩:=(Zm g c x).1 (H c e);rw[b]at G;cases G;exact i
  rintro⟨r,b,D⟩
  rcases tN.1 D with h|⟨a,C,d⟩
  · cases h
  refine⟨a,C,?_⟩;unfold IX;exact(OU _ _ x a _).2 ⟨(FT f x).2 ⟨r,b⟩,fun c e=>(Zm g c x).2 ⟨r,b,PX.1 d c e⟩⟩
end
def oU (mt:fM):List Rec->Nat->List Nat->List Nat
  | [],_,o=>o
  | r :: t,i,o=>if pM mt r.ak=true then oU mt t (i+1) (o ++ [i])else oU mt t (i+1) o
theorem acj {mt:fM} {rs:List Rec} {i j:Nat} {o:List Nat} (h:¬i<rs.length):oU mt (rs.drop i) j o=o:=by rw[ew Xx];rfl
theorem HV {mt:fM} {rs:List Rec} {i:Nat} {r:Rec} {o:List Nat} (h:rs[i]? = some r):oU mt (rs.drop i) i o=if pM mt r.ak=true then oU mt (rs.drop (i+1)) (i+1) (o ++ [i])else oU mt (rs.drop (i+1)) (i+1) o:=by rw[cK h];rfl
theorem zO (mt:fM):∀(t:List Rec) (i:Nat) (o:List Nat),o.Pairwise (· < ·)->(∀x∈o,x<i)->(oU mt t i o).Pairwise (· < ·)/\(oU mt t i o).length<=o.length+t.length/\∀x,x∈oU mt t i o↔x∈o\/∃k r,t[k]? = some r/\x=i+k/\pM mt r.ak=true
  | [],i,o,h,_=>⟨h,by simp[oU],fun x=>by simp[oU]⟩
  | r :: t,i,o,h,hb=>by
    have key:∀x,(∃k c,(r :: t)[k]? = some c/\x=i+k/\pM mt c.ak=true)↔(x=i/\pM mt r.ak=true)\/∃k c,t[k]? = some c/\x=i+1+k/\pM mt c.ak=true:=by
      intro x;constructor
      · rintro⟨k,c,a,G,D⟩
        cases k with
        | zero=>simp at a;subst a;exact .inl ⟨by omega,D⟩
        | succ k=>exact .inr ⟨k,c,by simpa using a,by omega,D⟩
      · rintro(⟨a,G⟩|⟨k,c,a,G,D⟩)
        · exact⟨0,r,q,by omega,G⟩
        · exact⟨k+1,c,by simpa using a,by omega,D⟩
    unfold oU;split
    · rename_i hc
      obtain⟨e,H,f⟩:=zO mt t (i+1) (o ++ [i]) (List.pairwise_append.2 ⟨h,List.pairwise_singleton ..,fun j g b C=>by rw[List.mem_singleton]at C;subst C;exact hb j g⟩) fun x d=>by
        rcases List.mem_append.1 d with d|d
        · have:=hb x d;omega
        · rw[List.mem_singleton]at d;omega
      refine⟨e,by rw[List.length_append,List.length_singleton]at H;rw[List.length_cons];omega,fun x=>?_⟩;rw[f,key,List.mem_append,List.mem_singleton];constructor
      · rintro((a|a)|a)
        · exact .inl a
        · exact .inr (.inl ⟨a,hc⟩)
        · exact .inr (.inr a)
      · rintro(a|a|a)
        · exact .inl (.inl a)
        · exact .inl (.inr a.1)
        · exact .inr a
    · rename_i hc
      obtain⟨e,H,f⟩:=zO mt t (i+1) o h fun x d=>by have:=hb x d;omega
      refine⟨e,by rw[List.length_cons];omega,fun x=>?_⟩;rw[f,key];constructor
      · rintro(a|a)
        · exact .inl a
        · exact .inr (.inr a)
      · rintro(a|a|a)
        · exact .inl a
        · exact absurd a.2 hc
        · exact .inr a
theorem afI {v:dx} {at_:List Nat} {rs:List Rec} (d:iQ v at_=List.range rs.length) (e:∀(p:Pr) (x:Nat),x∈ql v at_ p↔∃r,rs[x]? = some r/\p∈r.ak) (mt:fM):qy v at_ mt=oU mt rs 0 []:=by
  obtain⟨D,_,c⟩:=zO mt rs 0 [] List.Pairwise.nil Oy;refine SD (adr _ _ mt).1 D fun x=>?_;rw[aef d e,c];constructor
  · rintro⟨r,b,a⟩;exact .inr ⟨x,r,b,by omega,a⟩
  rintro(h|⟨k,r,b,a,C⟩)
  · cases h
  rw[Nat.zero_add]at a;subst a;exact⟨r,b,C⟩
section
variable {o:List (List UInt8)} {m x:fM} {c c':Nat}
end
section
variable {d:Bool} {l back row:List (List UInt8)} {i:Nat} {s:Ly}
end
theorem abv {l:List (List UInt8)} {s x:Ly} {k:Nat} (h:k<=wC l s) (b:l[k]? = some x) (d:Op.bytesLess x s=true):k+1<=wC l s:=by
  rcases Nat.lt_or_ge k (wC l s)with B|B
  · omega
  have c:k=wC l s:=by omega
  have:l[IU (fun y=>Op.bytesLess y s) l]? = some x:=by rw[c]at b;exact b
  have a:=pos_at this;rw[d]at a;cases a
theorem xY {l:List (List UInt8)} {s:Ly} {k:Nat} (h:wC l s=k) (a:aa4 l s=false):BB l s=l.take k ++ [s] ++ l.drop k:=by unfold BB;rw[if_neg (by rw[a];simp),h];simp
def iD (p:Pr):Bool->List fB->List fB
  | b,[]=>if b=true then[]else[{name:=p.name,values:=[p.value]}]
  | b,a :: r =>
    if a.name=p.name then {name:=p.name,values:=BB a.values p.value} :: iD p true r
    else if b=false/\(Op.bytesLess a.name p.name || decide (a.name=p.name))=false then {name:=p.name,values:=[p.value]} :: a :: iD p true r
    else a :: iD p b r
theorem mH (p:Pr) (b:Bool) (a:fB) (r:List fB):iD p b (a :: r)=if a.name=p.name then {name:=p.name,values:=BB a.values p.value} :: iD p true r
    else if b=false/\(Op.bytesLess a.name p.name || decide (a.name=p.name))=false then {name:=p.name,values:=[p.value]} :: a :: iD p true r
    else a :: iD p b r:=rfl
theorem PZ {p:Pr} {b:Bool} {l:List fB} {i:Nat} (h:¬i<l.length):iD p b (l.drop i)=if b=true then[]else[{name:=p.name,values:=[p.value]}]:=by rw[ew Xx];rfl
section
variable {p:Pr} {b:Bool} {l:List fB} {i:Nat} {a:fB}
theorem ac6 (h:l[i]? = some a) (e:a.name=p.name):iD p b (l.drop i)={name:=p.name,values:=BB a.values p.value} :: iD p true (l.drop (i+1)):=by rw[cK h,mH,if_pos e]
theorem ac7 (h:l[i]? = some a) (e:¬a.name=p.name) (hb:b=false) (c:(Op.bytesLess a.name p.name || decide (a.name=p.name))=false):iD p b (l.drop i)={name:=p.name,values:=[p.value]} :: a :: iD p true (l.drop (i+1)):=by rw[cK h,mH,if_neg e,if_pos ⟨hb,c⟩]
theorem Yc (h:l[i]? = some a) (e:¬a.name=p.name) (c:¬(b=false/\(Op.bytesLess a.name p.name || decide (a.name=p.name))=false)):iD p b (l.drop i)=a :: iD p b (l.drop (i+1)):=by rw[cK h,mH,if_neg e,if_neg c]
end
theorem vU (p:Pr):∀(b:Bool) (l:List fB),(iD p b l).length<=l.length+(if b=true then 0 else 1)
  | b,[]=>by unfold iD;split<;>simp_all
  | b,a :: r=>by
    have c:=vU p true r;have d:=vU p b r;rw[mH];split
    · simp only[List.length_cons,if_true]at *;split<;>omega
    · split
      · rename_i hb;simp only[List.length_cons,if_true,hb.1,Bool.false_eq_true,if_false]at *;omega
      · simp only[List.length_cons]at *;omega
theorem t7 (p:Pr) {k:Nat}:∀(b:Bool) (l:List fB),(∀c∈l,c.values.length<=k)->∀c∈iD p b l,c.values.length<=k+1
  | b,[],_=>by unfold iD;split<;>simp
  | b,x :: r,h=>by
    have d:=t7 p true r fun c a=>h c (by simp[a]);have e:=t7 p b r fun c a=>h c (by simp[a]);have f:=h x Oy;rw[mH];intro c a;split at a
    · rcases List.mem_cons.1 a with rfl|a
      · have:=TB x.values p.value;simp only;omega
      · exact d c a
    · split at a
      · rcases List.mem_cons.1 a with rfl|a
        · simp
        · rcases List.mem_cons.1 a with rfl|a
          · omega
          · exact d c a
      · rcases List.mem_cons.1 a with rfl|a
        · omega
        · exact e c a
def kO (full:List (List UInt8)):List (List UInt8)->Nat->List (List fB)->List fB->fM × Nat
  | [],_,rows,row=>({rows:=if 0<full.length then rows ++ [row]else rows},0)
  | s :: r,i,rows,row =>
    if s=[43]then(if i=0\/i=full.length-1\/full.getD (i-1) []=[43]then({rows:=[]},20)else kO full r (i+1) (rows ++ [row]) [])
    else if(iH s).2≠0 then({rows:=[]},(iH s).2)else kO full r (i+1) rows (iD (iH s).1 false row)
theorem oq (a:List (List UInt8)) (s:Ly) (r:List (List UInt8)) (i:Nat) (rows:List (List fB)) (row:List fB):kO a (s :: r) i rows row=if s=[43]then(if i=0\/i=a.length-1\/a.getD (i-1) []=[43]then({rows:=[]},20)else kO a r (i+1) (rows ++ [row]) [])
    else if(iH s).2≠0 then({rows:=[]},(iH s).2)else kO a r (i+1) rows (iD (iH s).1 false row):=rfl
def vM (l:List (List UInt8)):fM × Nat:=if 32<l.length then({rows:=[]},21)else kO l l 0 [] []
section
variable {l:List (List UInt8)} {i:Nat} {s:Ly} {rows:List (List fB)} {row:List fB}
theorem TH (h:¬i<l.length):kO l (l.drop i) i rows row=({rows:=if 0<l.length then rows ++ [row]else rows},0):=by rw[ew Xx];rfl
theorem GW (h:l[i]? = some s) (e:s=[43]) (hb:i=0\/i=l.length-1\/l.getD (i-1) []=[43]):kO l (l.drop i) i rows row=({rows:=[]},20):=by rw[cK h,oq,if_pos e,if_pos hb]
theorem aby (h:l[i]? = some s) (e:s=[43]) (hb:¬(i=0\/i=l.length-1\/l.getD (i-1) []=[43])):kO l (l.drop i) i rows row=kO l (l.drop (i+1)) (i+1) (rows ++ [row]) []:=by rw[cK h,oq,if_pos e,if_neg hb]
theorem afv {p:Pr} {c:Nat} (h:l[i]? = some s) (e:¬s=[43]) (b:iH s=(p,c)) (a:c≠0):kO l (l.drop i) i rows row=({rows:=[]},c):=by rw[cK h,oq,if_neg e,b,if_pos a]
theorem abz {p:Pr} (h:l[i]? = some s) (e:¬s=[43]) (a:iH s=(p,0)):kO l (l.drop i) i rows row=kO l (l.drop (i+1)) (i+1) rows (iD p false row):=by rw[cK h,oq,if_neg e,a,if_neg Oy]
end
end Go.Wk
namespace Go.Proofs.YtlleafgaeeneoaaGreat
open Go Go.Wk Go.RowKit
set_option linter.unusedVariables false
set_option linter.unusedSimpArgs false
attribute [local irreducible] wpList wpQuiet wpStill fD Code.wp Calls bodyPost
variable {w:World} {Q:Nat->Prop}
theorem gE:wT Zp 9 1 16=true:=Xw
set_option maxHeartbeats 4000000 in
theorem WN (J:Up w Q) {v0:Value} {l:List (List UInt8)} (m:Ls ir w Q v0 l) (s:Ly) (ch:l.length<=1000) :
  Calls Zp 108 #[v0,(str s)] w fun b8 d=>∃bU:Value,∃bS:List (List UInt8),b8 = .returned (bU)/\Md [] w d/\Ls ir d Q bU bS/\BB l s=bS:=by
 have cf:=m.dD;have B:=Md.refl [] w;have aU:=J;have I:∀b,Q b->Q b:=fun _ h=>h;have aT:∀b,Q b->b<w.heap.size->Q b:=fun _ h _=>h;refine enter (n:=45) Tryz.func108 q q q fun bV=>ns (an q (ns (cu q (nt (aD (aS ?_))))));refine nD (fun(k:Nat)=>[(5,(.int .i64 k)),(0,v0),(1,(str s))]) (fun(k:Nat) d=>∃K:Nat->Prop,(∀b,K b->Q b)/\(∀b,Q b->b<w.heap.size->K b)/\Up d K/\Md [] w d/\Ls ir d K v0 l/\(k<=wC l s/\k<=l.length)) (fun(k:Nat)=>l.length-k) (x0:=0) ?_ ?_ ?_
 ·exact Fz
 ·exact⟨Q,I,aT,J,B,m,⟨Nat.zero_le _,Nat.zero_le _⟩⟩
 clear B J I aT m;rintro k bV x ⟨aN,I,aT,J,B,m,Bx⟩;refine aD (ns (m2 q q (sL q iU m.di (st _ (dN (a:=k) (b:=l.length) q q) (mv q ?_)))));refine bW (t:=10) q (fun C=>?_) (fun C=>?_)
 ·have bX:=dT C;refine sg C (aM q) (sg C (aM q) (sg C (bg (i:=k) 1 q q iU JN m.di Xx) ?_));obtain⟨aK,aJ⟩:=dZ (l:=l) (i:=k) Xx;obtain⟨c4,b3,aO⟩:=m.get aJ;obtain⟨rfl,_⟩:=b3;have aO:At _ v0 (k*1) [(str aK)]:=aO;refine sg C ((bO (kk:=k*1) 0 q q jK aO q).to (b:=(str aK)) q) (sg C (aM q) (sg C (af0 (a:=aK) (b:=s) q q) (st _ (bf q C q) (aA ?_))));refine aj ?_;refine bJ q (fun a0=>?_) (fun a0=>?_)
  ·have a2:=a0;refine aL (aj (aS (aG (mv q (st _ (rA (a:=k) (b:=1) q q Xx) (cu q (aA (bE (aj ?_)))))))));refine mU (x0:=(k+1)) Xx ⟨(dA q Xx),q,q,tV⟩ ⟨aN,I,aT,J,B,m,⟨abv Bx.1 aJ a2,by omega⟩⟩
  have a2:=a0;refine bT (aX (aX (cJ (aj (aD (aD ?_))))));have Y:wC l s=k:=(by have:=ah5 aJ a2;omega);refine aG (m2 q q (sL q iU m.di (st _ (dN (a:=k) (b:=l.length) q q) (mv q ?_))));refine bW (t:=24) q (fun e=>?_) (fun e=>?_)
  ·have a3:=dT e;refine sg e (aM q) (sg e (aM q) (sg e (bg (i:=k) 1 q q iU JN m.di Xx) ?_));obtain⟨aV,b4,aP⟩:=m.get aJ;obtain⟨rfl,_⟩:=b4;have aP:At _ v0 (k*1) [(str aK)]:=aP;refine sg e ((bO (kk:=k*1) 0 q q jK aP q).to (b:=(str aK)) q) (sg e (aM q) (sg e (pU (a:=aK) (b:=s) q q) (st _ (bf q e q) (aA ?_))));refine aj ?_;refine bJ q (fun al=>?_) (fun al=>?_)
   ·have ae:=dT al;refine nm q (ar q (aI ?_));exact bP (v:=v0) trivial q ⟨q,tV⟩ ⟨_,l,q,B,(m.sub (fun b D _=>I b D)),(by have S:=aJ;rw[<- Y]at S;unfold BB;rw[if_pos (by rw[BR S];simp[ae])])⟩
   have ae:=dF al;refine aL (aj (aD ?_));refine sC (fun _=>True) (R:=fun ao d=>∃(y:Fr 45) (v:Value) (K:Nat->Prop),ao=aQ y [] [(4,v)]/\oW ir x aN 9 d K v (List.take k l ++ [s] ++ List.drop k l)) mixed ?_ ?_
   ·rintro _ ci ⟨y,b5,cg,rfl,E⟩;have G:=E.md;have X:=E.t;have O:=E.up;have bY:=E.ow.lower (bw.lift (S':=[]) B);have I:=tT I X;have B:=B.k G;have J:=O;refine aj (iI ?_);exact bP (v:=b5) trivial q ⟨q,tV⟩ ⟨_,((List.take k l ++ [s] ++ List.drop k l)),q,B,(bY.ls (fun b D=>I b D) (bw.up aU)),(xY Y (by have S:=aJ;rw[<- Y]at S;rw[BR S];simp[ae]))⟩
   intro bF hd;have o:∀d A,Md [] x d->Lz ir d A (mE 1 v0 0 k) (List.take k l):=fun d A G=>pP (m.head Xx).lz G;have p:∀d A,Md [] x d->Lz ir d A (mE 1 v0 k l.length) (List.drop k l):=fun d A G=>pP (m.tail Xx).lz G;refine dO (i:=1) _ q Xw Xw trivial (fun d u=>aM q) (dO (i:=2) _ q Xw Xw trivial (fun d u=>aM q) (dO (i:=3) _ q Xw Xw trivial (fun d u=>fG 1 0 k iU JN q m.di Xx Xx q ⟨_,q⟩) (dO (i:=5) _ q Xw Xw trivial (fun d u=>aM q) (dO (i:=8) _ q Xw Xw trivial (fun d u=>aM q) (dO (i:=9) _ q Xw Xw trivial (fun d u=>aM q) (dO (i:=10) _ q Xw Xw trivial (fun d u=>fG 1 k l.length iU JN q m.di Xx Xx ⟨_,q⟩ q) ?_))))));refine rz (i:=0) (j:=6) Xw q q q q ?_ ?_
   ·refine gJ iU gE ?_;intro c1 bG au az aB aw;refine aA ⟨q,trivial,?_⟩;obtain⟨bk,F⟩:=oW.mk0 (T:=ir) J hd au az aB aw;refine rz (i:=4) (j:=6) Xw q q q q ?_ ?_
    ·refine eG q iU gE q q F (o _ _ F.md) Zy Xy ?_;intro bA bH bl Z bt;refine aA ⟨q,trivial,?_⟩;refine cO (i:=6) Xw q q (aR [[str s]] iU gE Xy Xy q q ⟨q,tV⟩ ⟨q,tV⟩ q Xy ?_);intro c3 bI bp br aC ax;refine aA ⟨q,trivial,?_⟩;refine cO (i:=7) Xw q q (eG q iU gE q q (Z.o aC) (mB ax trivial) Zy Xy ?_);intro bB bK bm z bu;refine aA ⟨q,trivial,?_⟩;refine cO (i:=11) Xw q q (eG q iU gE q q z (p _ _ z.md) Zy Xy ?_);intro aF bL af aa bv;refine aA ⟨q,trivial,?_⟩;refine cO (i:=12) Xw q q (cu q ?_);refine aA ⟨q,trivial,?_⟩;refine lH Xw ?_;exact⟨_,aF,af,(cP (by exact⟨q,tV⟩)).symm,aa⟩
    refine aR [[str s]] iU gE Xy Xy q q ⟨q,tV⟩ ⟨q,tV⟩ q Xy ?_;intro aV bM bq bs U ay;refine aA ⟨q,trivial,?_⟩;refine cO (i:=4) Xw q q (eG q iU gE q q (F.o U) (o _ _ (F.o U).md) Zy Xy ?_);intro bC bN bn ab aE;refine aA ⟨q,trivial,?_⟩;have av:=ay.md aE (by intro D;simp[ah]at D;omega);refine cO (i:=7) Xw q q (eG q iU gE q q ab (mB av trivial) Zy Xy ?_);intro bD bQ bo L bx;refine aA ⟨q,trivial,?_⟩;refine cO (i:=11) Xw q q (eG q iU gE q q L (p _ _ L.md) Zy Xy ?_);intro aH bR ag ad bz;refine aA ⟨q,trivial,?_⟩;refine cO (i:=12) Xw q q (cu q ?_);refine aA ⟨q,trivial,?_⟩;refine lH Xw ?_;exact⟨_,aH,ag,(cP (by exact⟨q,tV⟩)).symm,ad⟩
   refine aR [[str s]] iU gE Xy Xy q q ⟨q,tV⟩ ⟨q,tV⟩ q Xy ?_;intro a8 Bk aY a1 f c;refine aA ⟨q,trivial,?_⟩;refine cO (i:=0) Xw q q (gJ iU gE ?_);intro aW be ak aq N ap;refine aA ⟨q,trivial,?_⟩;obtain⟨a5,H⟩:=oW.mk0 (T:=ir) J (hd.k f) ak aq N ap;refine cO (i:=4) Xw q q (eG q iU gE q q H (o _ _ H.md) Zy Xy ?_);intro bb bh a6 ai g;refine aA ⟨q,trivial,?_⟩;have am:=(c.o N).md g (by intro D;simp[ah]at D;omega);refine cO (i:=7) Xw q q (eG q iU gE q q ai (mB am trivial) Zy Xy ?_);intro bc bi a7 M a9;refine aA ⟨q,trivial,?_⟩;refine cO (i:=11) Xw q q (eG q iU gE q q M (p _ _ M.md) Zy Xy ?_);intro P bj W V ba;refine aA ⟨q,trivial,?_⟩;refine cO (i:=12) Xw q q (cu q ?_);refine aA ⟨q,trivial,?_⟩;refine lH Xw ?_;exact⟨_,P,W,(cP (by exact⟨q,tV⟩)).symm,V⟩
  have a3:=dF e;refine sk e (sk e (sk e (sk e (sk e (sk e (st _ (aZ q e q) (nt (ij q q (aL (aj (aD ?_)))))))))));refine sC (fun _=>True) (R:=fun ao d=>∃(y:Fr 45) (v:Value) (K:Nat->Prop),ao=aQ y [] [(4,v)]/\oW ir x aN 9 d K v (List.take k l ++ [s] ++ List.drop k l)) mixed ?_ ?_
  ·rintro _ cc ⟨y,P,b9,rfl,E⟩;have G:=E.md;have X:=E.t;have O:=E.up;have bZ:=E.ow.lower (bw.lift (S':=[]) B);have I:=tT I X;have B:=B.k G;have J:=O;refine aj (iI ?_);exact bP (v:=P) trivial q ⟨q,tV⟩ ⟨_,((List.take k l ++ [s] ++ List.drop k l)),q,B,(bZ.ls (fun b D=>I b D) (bw.up aU)),(xY Y (RH Xx))⟩
  intro bF hd;have o:∀d A,Md [] x d->Lz ir d A (mE 1 v0 0 k) (List.take k l):=fun d A G=>pP (m.head Xx).lz G;have p:∀d A,Md [] x d->Lz ir d A (mE 1 v0 k l.length) (List.drop k l):=fun d A G=>pP (m.tail Xx).lz G;refine dO (i:=1) _ q Xw Xw trivial (fun d u=>aM q) (dO (i:=2) _ q Xw Xw trivial (fun d u=>aM q) (dO (i:=3) _ q Xw Xw trivial (fun d u=>fG 1 0 k iU JN q m.di Xx Xx q ⟨_,q⟩) (dO (i:=5) _ q Xw Xw trivial (fun d u=>aM q) (dO (i:=8) _ q Xw Xw trivial (fun d u=>aM q) (dO (i:=9) _ q Xw Xw trivial (fun d u=>aM q) (dO (i:=10) _ q Xw Xw trivial (fun d u=>fG 1 k l.length iU JN q m.di Xx Xx ⟨_,q⟩ q) ?_))))));refine rz (i:=0) (j:=6) Xw q q q q ?_ ?_
  ·refine gJ iU gE ?_;intro c1 bG au az aB aw;refine aA ⟨q,trivial,?_⟩;obtain⟨bk,F⟩:=oW.mk0 (T:=ir) J hd au az aB aw;refine rz (i:=4) (j:=6) Xw q q q q ?_ ?_
   ·refine eG q iU gE q q F (o _ _ F.md) Zy Xy ?_;intro bA bH bl Z bt;refine aA ⟨q,trivial,?_⟩;refine cO (i:=6) Xw q q (aR [[str s]] iU gE Xy Xy q q ⟨q,tV⟩ ⟨q,tV⟩ q Xy ?_);intro c3 bI bp br aC ax;refine aA ⟨q,trivial,?_⟩;refine cO (i:=7) Xw q q (eG q iU gE q q (Z.o aC) (mB ax trivial) Zy Xy ?_);intro bB bK bm z bu;refine aA ⟨q,trivial,?_⟩;refine cO (i:=11) Xw q q (eG q iU gE q q z (p _ _ z.md) Zy Xy ?_);intro aF bL af aa bv;refine aA ⟨q,trivial,?_⟩;refine cO (i:=12) Xw q q (cu q ?_);refine aA ⟨q,trivial,?_⟩;refine lH Xw ?_;exact⟨_,aF,af,(cP (by exact⟨q,tV⟩)).symm,aa⟩
   refine aR [[str s]] iU gE Xy Xy q q ⟨q,tV⟩ ⟨q,tV⟩ q Xy ?_;intro aV bM bq bs U ay;refine aA ⟨q,trivial,?_⟩;refine cO (i:=4) Xw q q (eG q iU gE q q (F.o U) (o _ _ (F.o U).md) Zy Xy ?_);intro bC bN bn ab aE;refine aA ⟨q,trivial,?_⟩;have av:=ay.md aE (by intro D;simp[ah]at D;omega);refine cO (i:=7) Xw q q (eG q iU gE q q ab (mB av trivial) Zy Xy ?_);intro bD bQ bo L bx;refine aA ⟨q,trivial,?_⟩;refine cO (i:=11) Xw q q (eG q iU gE q q L (p _ _ L.md) Zy Xy ?_);intro aH bR ag ad bz;refine aA ⟨q,trivial,?_⟩;refine cO (i:=12) Xw q q (cu q ?_);refine aA ⟨q,trivial,?_⟩;refine lH Xw ?_;exact⟨_,aH,ag,(cP (by exact⟨q,tV⟩)).symm,ad⟩
  refine aR [[str s]] iU gE Xy Xy q q ⟨q,tV⟩ ⟨q,tV⟩ q Xy ?_;intro a8 Bk aY a1 f c;refine aA ⟨q,trivial,?_⟩;refine cO (i:=0) Xw q q (gJ iU gE ?_);intro aW be ak aq N ap;refine aA ⟨q,trivial,?_⟩;obtain⟨a5,H⟩:=oW.mk0 (T:=ir) J (hd.k f) ak aq N ap;refine cO (i:=4) Xw q q (eG q iU gE q q H (o _ _ H.md) Zy Xy ?_);intro bb bh a6 ai g;refine aA ⟨q,trivial,?_⟩;have am:=(c.o N).md g (by intro D;simp[ah]at D;omega);refine cO (i:=7) Xw q q (eG q iU gE q q ai (mB am trivial) Zy Xy ?_);intro bc bi a7 M a9;refine aA ⟨q,trivial,?_⟩;refine cO (i:=11) Xw q q (eG q iU gE q q M (p _ _ M.md) Zy Xy ?_);intro P bj W V ba;refine aA ⟨q,trivial,?_⟩;refine cO (i:=12) Xw q q (cu q ?_);refine aA ⟨q,trivial,?_⟩;refine lH Xw ?_;exact⟨_,P,W,(cP (by exact⟨q,tV⟩)).symm,V⟩
 have bX:=dF C;refine sk C (sk C (sk C (sk C (sk C (sk C (st _ (aZ q C q) (nt (ij q q (bT (aX (aX (cJ (aj ?_)))))))))))));refine aD (aD ?_);have Y:wC l s=k:=(by have:=ZH l s;omega);refine aG (m2 q q (sL q iU m.di (st _ (dN (a:=k) (b:=l.length) q q) (mv q ?_))));refine bW (t:=24) q (fun e=>?_) (fun e=>?_)
 ·have a3:=dT e;refine sg e (aM q) (sg e (aM q) (sg e (bg (i:=k) 1 q q iU JN m.di Xx) ?_));obtain⟨bd,a4⟩:=dZ (l:=l) (i:=k) Xx;obtain⟨cb,b2,r⟩:=m.get a4;obtain⟨rfl,_⟩:=b2;have r:At _ v0 (k*1) [(str bd)]:=r;refine sg e ((bO (kk:=k*1) 0 q q jK r q).to (b:=(str bd)) q) (sg e (aM q) (sg e (pU (a:=bd) (b:=s) q q) (st _ (bf q e q) (aA ?_))));refine aj ?_;refine bJ q (fun al=>?_) (fun al=>?_)
  ·have ae:=dT al;refine nm q (ar q (aI ?_));exact bP (v:=v0) trivial q ⟨q,tV⟩ ⟨_,l,q,B,(m.sub (fun b D _=>I b D)),(by have S:=a4;rw[<- Y]at S;unfold BB;rw[if_pos (by rw[BR S];simp[ae])])⟩
  have ae:=dF al;refine aL (aj (aD ?_));refine sC (fun _=>True) (R:=fun ao d=>∃(y:Fr 45) (v:Value) (K:Nat->Prop),ao=aQ y [] [(4,v)]/\oW ir x aN 9 d K v (List.take k l ++ [s] ++ List.drop k l)) mixed ?_ ?_
  ·rintro _ cd ⟨y,b6,C3,rfl,E⟩;have G:=E.md;have X:=E.t;have O:=E.up;have b0:=E.ow.lower (bw.lift (S':=[]) B);have I:=tT I X;have B:=B.k G;have J:=O;refine aj (iI ?_);exact bP (v:=b6) trivial q ⟨q,tV⟩ ⟨_,((List.take k l ++ [s] ++ List.drop k l)),q,B,(b0.ls (fun b D=>I b D) (bw.up aU)),(xY Y (by have S:=a4;rw[<- Y]at S;rw[BR S];simp[ae]))⟩
  intro bF hd;have o:∀d A,Md [] x d->Lz ir d A (mE 1 v0 0 k) (List.take k l):=fun d A G=>pP (m.head Xx).lz G;have p:∀d A,Md [] x d->Lz ir d A (mE 1 v0 k l.length) (List.drop k l):=fun d A G=>pP (m.tail Xx).lz G;refine dO (i:=1) _ q Xw Xw trivial (fun d u=>aM q) (dO (i:=2) _ q Xw Xw trivial (fun d u=>aM q) (dO (i:=3) _ q Xw Xw trivial (fun d u=>fG 1 0 k iU JN q m.di Xx Xx q ⟨_,q⟩) (dO (i:=5) _ q Xw Xw trivial (fun d u=>aM q) (dO (i:=8) _ q Xw Xw trivial (fun d u=>aM q) (dO (i:=9) _ q Xw Xw trivial (fun d u=>aM q) (dO (i:=10) _ q Xw Xw trivial (fun d u=>fG 1 k l.length iU JN q m.di Xx Xx ⟨_,q⟩ q) ?_))))));refine rz (i:=0) (j:=6) Xw q q q q ?_ ?_
  ·refine gJ iU gE ?_;intro c1 bG au az aB aw;refine aA ⟨q,trivial,?_⟩;obtain⟨bk,F⟩:=oW.mk0 (T:=ir) J hd au az aB aw;refine rz (i:=4) (j:=6) Xw q q q q ?_ ?_
   ·refine eG q iU gE q q F (o _ _ F.md) Zy Xy ?_;intro bA bH bl Z bt;refine aA ⟨q,trivial,?_⟩;refine cO (i:=6) Xw q q (aR [[str s]] iU gE Xy Xy q q ⟨q,tV⟩ ⟨q,tV⟩ q Xy ?_);intro c3 bI bp br aC ax;refine aA ⟨q,trivial,?_⟩;refine cO (i:=7) Xw q q (eG q iU gE q q (Z.o aC) (mB ax trivial) Zy Xy ?_);intro bB bK bm z bu;refine aA ⟨q,trivial,?_⟩;refine cO (i:=11) Xw q q (eG q iU gE q q z (p _ _ z.md) Zy Xy ?_);intro aF bL af aa bv;refine aA ⟨q,trivial,?_⟩;refine cO (i:=12) Xw q q (cu q ?_);refine aA ⟨q,trivial,?_⟩;refine lH Xw ?_;exact⟨_,aF,af,(cP (by exact⟨q,tV⟩)).symm,aa⟩
   refine aR [[str s]] iU gE Xy Xy q q ⟨q,tV⟩ ⟨q,tV⟩ q Xy ?_;intro aV bM bq bs U ay;refine aA ⟨q,trivial,?_⟩;refine cO (i:=4) Xw q q (eG q iU gE q q (F.o U) (o _ _ (F.o U).md) Zy Xy ?_);intro bC bN bn ab aE;refine aA ⟨q,trivial,?_⟩;have av:=ay.md aE (by intro D;simp[ah]at D;omega);refine cO (i:=7) Xw q q (eG q iU gE q q ab (mB av trivial) Zy Xy ?_);intro bD bQ bo L bx;refine aA ⟨q,trivial,?_⟩;refine cO (i:=11) Xw q q (eG q iU gE q q L (p _ _ L.md) Zy Xy ?_);intro aH bR ag ad bz;refine aA ⟨q,trivial,?_⟩;refine cO (i:=12) Xw q q (cu q ?_);refine aA ⟨q,trivial,?_⟩;refine lH Xw ?_;exact⟨_,aH,ag,(cP (by exact⟨q,tV⟩)).symm,ad⟩
  refine aR [[str s]] iU gE Xy Xy q q ⟨q,tV⟩ ⟨q,tV⟩ q Xy ?_;intro a8 Bk aY a1 f c;refine aA ⟨q,trivial,?_⟩;refine cO (i:=0) Xw q q (gJ iU gE ?_);intro aW be ak aq N ap;refine aA ⟨q,trivial,?_⟩;obtain⟨a5,H⟩:=oW.mk0 (T:=ir) J (hd.k f) ak aq N ap;refine cO (i:=4) Xw q q (eG q iU gE q q H (o _ _ H.md) Zy Xy ?_);intro bb bh a6 ai g;refine aA ⟨q,trivial,?_⟩;have am:=(c.o N).md g (by intro D;simp[ah]at D;omega);refine cO (i:=7) Xw q q (eG q iU gE q q ai (mB am trivial) Zy Xy ?_);intro bc bi a7 M a9;refine aA ⟨q,trivial,?_⟩;refine cO (i:=11) Xw q q (eG q iU gE q q M (p _ _ M.md) Zy Xy ?_);intro P bj W V ba;refine aA ⟨q,trivial,?_⟩;refine cO (i:=12) Xw q q (cu q ?_);refine aA ⟨q,trivial,?_⟩;refine lH Xw ?_;exact⟨_,P,W,(cP (by exact⟨q,tV⟩)).symm,V⟩
 have a3:=dF e;refine sk e (sk e (sk e (sk e (sk e (sk e (st _ (aZ q e q) (nt (ij q q (aL (aj (aD ?_)))))))))));refine sC (fun _=>True) (R:=fun ao d=>∃(y:Fr 45) (v:Value) (K:Nat->Prop),ao=aQ y [] [(4,v)]/\oW ir x aN 9 d K v (List.take k l ++ [s] ++ List.drop k l)) mixed ?_ ?_
 ·rintro _ ce ⟨y,b7,ca,rfl,E⟩;have G:=E.md;have X:=E.t;have O:=E.up;have b1:=E.ow.lower (bw.lift (S':=[]) B);have I:=tT I X;have B:=B.k G;have J:=O;refine aj (iI ?_);exact bP (v:=b7) trivial q ⟨q,tV⟩ ⟨_,((List.take k l ++ [s] ++ List.drop k l)),q,B,(b1.ls (fun b D=>I b D) (bw.up aU)),(xY Y (RH Xx))⟩
 intro bF hd;have o:∀d A,Md [] x d->Lz ir d A (mE 1 v0 0 k) (List.take k l):=fun d A G=>pP (m.head Xx).lz G;have p:∀d A,Md [] x d->Lz ir d A (mE 1 v0 k l.length) (List.drop k l):=fun d A G=>pP (m.tail Xx).lz G;refine dO (i:=1) _ q Xw Xw trivial (fun d u=>aM q) (dO (i:=2) _ q Xw Xw trivial (fun d u=>aM q) (dO (i:=3) _ q Xw Xw trivial (fun d u=>fG 1 0 k iU JN q m.di Xx Xx q ⟨_,q⟩) (dO (i:=5) _ q Xw Xw trivial (fun d u=>aM q) (dO (i:=8) _ q Xw Xw trivial (fun d u=>aM q) (dO (i:=9) _ q Xw Xw trivial (fun d u=>aM q) (dO (i:=10) _ q Xw Xw trivial (fun d u=>fG 1 k l.length iU JN q m.di Xx Xx ⟨_,q⟩ q) ?_))))));refine rz (i:=0) (j:=6) Xw q q q q ?_ ?_
 ·refine gJ iU gE ?_;intro c1 bG au az aB aw;refine aA ⟨q,trivial,?_⟩;obtain⟨bk,F⟩:=oW.mk0 (T:=ir) J hd au az aB aw;refine rz (i:=4) (j:=6) Xw q q q q ?_ ?_
  ·refine eG q iU gE q q F (o _ _ F.md) Zy Xy ?_;intro bA bH bl Z bt;refine aA ⟨q,trivial,?_⟩;refine cO (i:=6) Xw q q (aR [[str s]] iU gE Xy Xy q q ⟨q,tV⟩ ⟨q,tV⟩ q Xy ?_);intro c3 bI bp br aC ax;refine aA ⟨q,trivial,?_⟩;refine cO (i:=7) Xw q q (eG q iU gE q q (Z.o aC) (mB ax trivial) Zy Xy ?_);intro bB bK bm z bu;refine aA ⟨q,trivial,?_⟩;refine cO (i:=11) Xw q q (eG q iU gE q q z (p _ _ z.md) Zy Xy ?_);intro aF bL af aa bv;refine aA ⟨q,trivial,?_⟩;refine cO (i:=12) Xw q q (cu q ?_);refine aA ⟨q,trivial,?_⟩;refine lH Xw ?_;exact⟨_,aF,af,(cP (by exact⟨q,tV⟩)).symm,aa⟩
  refine aR [[str s]] iU gE Xy Xy q q ⟨q,tV⟩ ⟨q,tV⟩ q Xy ?_;intro aV bM bq bs U ay;refine aA ⟨q,trivial,?_⟩;refine cO (i:=4) Xw q q (eG q iU gE q q (F.o U) (o _ _ (F.o U).md) Zy Xy ?_);intro bC bN bn ab aE;refine aA ⟨q,trivial,?_⟩;have av:=ay.md aE (by intro D;simp[ah]at D;omega);refine cO (i:=7) Xw q q (eG q iU gE q q ab (mB av trivial) Zy Xy ?_);intro bD bQ bo L bx;refine aA ⟨q,trivial,?_⟩;refine cO (i:=11) Xw q q (eG q iU gE q q L (p _ _ L.md) Zy Xy ?_);intro aH bR ag ad bz;refine aA ⟨q,trivial,?_⟩;refine cO (i:=12) Xw q q (cu q ?_);refine aA ⟨q,trivial,?_⟩;refine lH Xw ?_;exact⟨_,aH,ag,(cP (by exact⟨q,tV⟩)).symm,ad⟩
 refine aR [[str s]] iU gE Xy Xy q q ⟨q,tV⟩ ⟨q,tV⟩ q Xy ?_;intro a8 Bk aY a1 f c;refine aA ⟨q,trivial,?_⟩;refine cO (i:=0) Xw q q (gJ iU gE ?_);intro aW be ak aq N ap;refine aA ⟨q,trivial,?_⟩;obtain⟨a5,H⟩:=oW.mk0 (T:=ir) J (hd.k f) ak aq N ap;refine cO (i:=4) Xw q q (eG q iU gE q q H (o _ _ H.md) Zy Xy ?_);intro bb bh a6 ai g;refine aA ⟨q,trivial,?_⟩;have am:=(c.o N).md g (by intro D;simp[ah]at D;omega);refine cO (i:=7) Xw q q (eG q iU gE q q ai (mB am trivial) Zy Xy ?_);intro bc bi a7 M a9;refine aA ⟨q,trivial,?_⟩;refine cO (i:=11) Xw q q (eG q iU gE q q M (p _ _ M.md) Zy Xy ?_);intro P bj W V ba;refine aA ⟨q,trivial,?_⟩;refine cO (i:=12) Xw q q (cu q ?_);refine aA ⟨q,trivial,?_⟩;refine lH Xw ?_;exact⟨_,P,W,(cP (by exact⟨q,tV⟩)).symm,V⟩
theorem sV:wT Zp 98 2 40=true:=Xw
theorem akS:cA Zp 108=true:=Xw
theorem ajX:fH Zp 98=some [(0,1),(1,1)]:=Xw
theorem z98:dW Zp 98=some [.string ByteArray.empty,.slice none 0 0]:=Xw
set_option maxHeartbeats 16000000 in
theorem TG (d:Up w Q) {v0:Value} {l:List fB} (j:Ls jS w Q v0 l) (p:Pr) (cA:l.length<=1000) (bW:∀a∈l,a.values.length<=1000) :
  Calls Zp 69 #[v0,.agg (Pr.cells p).toArray] w fun a7 A=>∃a8:Value,∃ap:List fB,a7 = .returned (a8)/\Md [] w A/\Ls jS A Q a8 ap/\iD p false l=ap:=by
 have cy:=j.dD;have e:=Md.refl [] w;have a5:=d;have J:∀b,Q b->Q b:=fun _ h=>h;have L:∀b,Q b->b<w.heap.size->Q b:=fun _ h _=>h;refine enter (n:=76) Tryz.func69 q q q fun ba=>ns (dR (cs:=(Pr.cells p)) q q ?_);intro aq cB au bZ C s;have K:=d _ au;have au:=lv e.size au;obtain⟨j,d,e⟩:=k3 C j d e;refine an q (ns (cu q (nt (ns (cu q (nt (aD (ns (cu q (nt (aS ?_)))))))))));obtain⟨ap,a2⟩:∃r,iD p false l=r:=⟨_,q⟩;have a3:=a2;refine Zj (fun(ag:Value) (o:List fB) (b:Bool) (i:Nat)=>[(5,ag),(6,(.bool b)),(7,(.int .i64 i)),(0,v0),(3,(.pointer (some ⟨aq,0,none⟩)))]) (fun(ag:Value) (o:List fB) (b:Bool) (i:Nat) A=>∃ae:Nat->Prop,(∀b,ae b->Q b)/\(∀b,Q b->b<w.heap.size->ae b)/\Up A ae/\Md [] w A/\Ow jS 98 (bw [] w) A ae ag o/\Ls jS A ae v0 l/\bS A aq (Pr.cells p) 61/\ae aq/\(o.length<=2*i/\i<=l.length)/\o ++ iD p b (l.drop i)=ap) (fun(ag:Value) (o:List fB) (b:Bool) (i:Nat)=>l.length-i) (x0:=SN) (x1:=([]:List fB)) (x2:=false) (x3:=0) ?_ ?_ ?_
 ·exact Fz
 ·exact⟨Q,J,L,d,e,(Ow.nil _ _ _ _ _),j,s,K,⟨by simp,Nat.zero_le _⟩,(by have aa:=a2;exact aa)⟩
 clear e d J L K j s;rintro ag o b i ba bY ⟨ad,J,L,d,e,D,j,s,K,b8,Z⟩;refine aD (ns (m2 q q (sL q yE j.di (st _ (dN (a:=i) (b:=l.length) q q) (nt ?_)))));refine bJ q (fun av=>?_) (fun av=>?_)
 ·have aN:=dT av;refine aL (aj (aD (aS (aD (aD ?_)))));have P:=j;have H:=s;refine cZ (ml 7) [7] (fun A=>Md [] bY A) mixed Xw ?_;intro a9 U;refine⟨U.mono Oy,?_⟩;have X:=U.mono (T:=[]) Oy;refine mo q (mo q (mz (fun A B=>bg (i:=i) 2 q q yE IE j.di Xx) ?_));obtain⟨I,W⟩:=dZ (l:=l) (i:=i) Xx;obtain⟨cz,bj,ai⟩:=P.get W;obtain⟨bX,rfl,ck⟩:=nS bj;have ai:At _ v0 (i*2) (fB.cells I bX):=ai;refine mz (fun A B=>gR q (ai.o B) vk) (mz (fun A B=>(bO (kk:=i*2) 0 q q jK (ai.o B) q).to (b:=(str I.name)) q) (mz (fun A B=>aJ q mV) (mz (fun A B=>(aF q jK (H.o B) q).to (b:=(str p.name)) q) (dH ?_))));obtain⟨D,j,s,d,e⟩:=k5 U D j s d e;refine st _ (pU (a:=I.name) (b:=p.name) q q) (aA ?_);refine aj ?_;refine bJ q (fun aw=>?_) (fun aw=>?_)
  ·have ak:=dT aw;refine ns (an q (aD ?_));have P:=j;have H:=s;refine cZ [(0,true),(1,true),(2,true),(3,true),(4,true),(5,true),(6,true),(7,true),(8,true),(9,true),(10,false),(11,true),(12,false)] [13,14] (fun A=>Md [] a9 A) mixed Xw ?_;intro cC U;refine⟨U.mono Oy,?_⟩;have X:=U.mono (T:=[]) Oy;refine mo q (mz (fun A B=>aJ q mV) (mz (fun A B=>(aF q jK (H.o B) q).to (b:=(str p.name)) q) (mo q (mo q (mz (fun A B=>bg (i:=i) 2 q q yE IE j.di Xx) ?_)))));obtain⟨cf,bz,x⟩:=P.get W;obtain⟨a6,rfl,aT⟩:=nS bz;have x:At _ v0 (i*2) (fB.cells I a6):=x;refine mz (fun A B=>gR q (x.o B) xS) (mz (fun A B=>(bO (kk:=i*2) 1 q q SZ (x.o B) q).to (b:=a6) q) (mz (fun A B=>aJ q qH) (mz (fun A B=>(aF q jK (H.o B) q).to (b:=(str p.value)) q) ?_)));obtain⟨D,j,s,aT,d,e⟩:=k6 U D j s aT d e;refine mM ?_ rfl;refine Rz akS q (WN d aT p.value (bW _ (List.mem_of_getElem? W))) ?_;rintro a7 C3 ⟨aH,f,rfl,C,ao,bs⟩;obtain⟨D,j,s,d,e,X⟩:=k6 C D j s d e X;refine aA ⟨q,X,?_⟩;refine mz (fun A B=>bN (us:=[[(str p.name)],[aH]]) (cs:=(fB.cells (({name:=p.name,values:=f}:fB)) aH)) [(0,0,1),(1,1,1)] z98 ajX q q ⟨q,(dM ao.bA),tV⟩ Fz q q) ?_;refine mM ?_ rfl;refine aR [(fB.cells (({name:=p.name,values:=f}:fB)) aH)] yE sV Xy Xy q q ⟨q,tV⟩ ⟨q,tV⟩ q Xy ?_
   intro b4 b1 bl b9 C aP;have bG:=d _ bl;obtain⟨D,j,s,ao,d,e,X⟩:=k7 C D j s ao d e X;have aP:=Ls.cF (m:=1) (R:=ad) (T:=jS) (xs:=[({name:=p.name,values:=f}:fB)]) aP ⟨_,_,q,(vp ao),q⟩ q Xy bG;refine aA ⟨q,X,?_⟩;refine dH ?_;refine ez (sz:=2) (by rfl) yE sV q q D aP (fun _ h _=>h) d (bw.new e) Zq Zq ?_;intro bk b2 bc E z M bt C N _ V;have S:=D;have K:=E _ K s.lt;have J:=tT J z;have L:=Sx E L e.size;have j:=(j.sub E).md C N;have s:=s.md C (aW S s);have d:=d.md C;have e:=e.cT C (Sy S);have d:=M;clear M E z N V;refine cu q (aA ?_);refine aj (bT (aX (cJ (aj (aG (mv q (st _ (rA (a:=i) (b:=1) q q Xx) (an q ?_))))))));refine xH (x0:=bk) (x1:=(o ++ ([({name:=p.name,values:=f}:fB)]))) (x2:=true) (x3:=(i+1)) Xx ⟨q,q,(dA q Xx),q,q,tV⟩ ⟨bc,J,L,d,e,bt,j,s,K,⟨by simp;omega,by omega⟩,(by rw[ac6 W ak]at Z;rw[<- Z];simp only[bs,List.append_assoc,List.singleton_append])⟩
  have ak:=dF aw;refine aL (aj (aD (aD ?_)));have P:=j;have H:=s;refine cZ (ml 10) [10,11] (fun A=>Md [] a9 A) mixed Xw ?_;intro b3 U;refine⟨U.mono Oy,?_⟩;have X:=U.mono (T:=[]) Oy;refine mo q (mz (fun A B=>gT q) (mo q ?_));refine OE (t:=38) q (fun G=>?_) (fun G=>?_)
  ·have bq:=wL G;refine Go.Wk.qX _ q q q G (fun A B=>aM q) (Go.Wk.qX _ q q q G (fun A B=>aM q) (Go.Wk.qX _ q q q G (fun A B=>bg (i:=i) 2 q q yE IE j.di Xx) ?_));obtain⟨cg,bB,y⟩:=P.get W;obtain⟨bK,rfl,b7⟩:=nS bB;have y:At _ v0 (i*2) (fB.cells I bK):=y;refine Go.Wk.qX _ q q q G (fun A B=>gR q (y.o B) vk) (Go.Wk.qX _ q q q G (fun A B=>(bO (kk:=i*2) 0 q q jK (y.o B) q).to (b:=(str I.name)) q) (Go.Wk.qX _ q q q G (fun A B=>aJ q mV) (Go.Wk.qX _ q q q G (fun A B=>(aF q jK (H.o B) q).to (b:=(str p.name)) q) (dH ?_))));obtain⟨D,j,s,d,e⟩:=k5 U D j s d e;refine sg G (akd (a:=I.name) (b:=p.name) q q) (st _ (bf q G q) (aA ?_));refine aj ?_;refine bJ q (fun ay=>?_) (fun ay=>?_)
   ·have br:=wL ay;refine ns (an q (aG (mv q (sf q mV (sl (u:=(str p.name)) q jK s q (sf q qH (sl (u:=(str p.value)) q jK s q (aR [[(str p.value)]] iU gE Xy Xy q q ⟨q,tV⟩ ⟨q,tV⟩ q Xy ?_))))))));intro aI cl bm ca C c;have bH:=d _ bm;obtain⟨D,j,s,d,e⟩:=k5 C D j s d e;have c:=Ls.cF (m:=1) (R:=ad) (T:=ir) (xs:=[p.value]) c ⟨_,_,q,⟨q,tV⟩,q⟩ q Xy bH;refine st _ (bN (us:=[[(str p.name)],[(.slice (some ⟨aI,0,none⟩) 1 1)]]) (cs:=(fB.cells (({name:=p.name,values:=[p.value]}:fB)) (.slice (some ⟨aI,0,none⟩) 1 1))) [(0,0,1),(1,1,1)] z98 ajX q q ⟨q,(dM c.bA),tV⟩ Fz q q) (aR [(fB.cells (({name:=p.name,values:=[p.value]}:fB)) (.slice (some ⟨aI,0,none⟩) 1 1))] yE sV Xy Xy q q ⟨q,tV⟩ ⟨q,tV⟩ q Xy ?_);intro b5 cm bn cb C ab;have Bx:=d _ bn;obtain⟨D,j,s,c,d,e⟩:=k6 C D j s c d e;have ab:=Ls.cF (m:=1) (R:=ad) (T:=jS) (xs:=[({name:=p.name,values:=[p.value]}:fB)]) ab ⟨_,_,q,(vp c),q⟩ q Xy Bx;refine ez (sz:=2) (by rfl) yE sV q q D ab (fun _ h _=>h) d (bw.new e) Zq Zq ?_;intro b0 cn bd E z M k C N _ V;have S:=D;have j:=j.sub E;have K:=E _ K s.lt;have J:=tT J z
    have L:=Sx E L e.size;have j:=j.md C N;have s:=s.md C (aW S s);have d:=d.md C;have e:=e.cT C (Sy S);have d:=M;clear M E z N V;refine an q (aG (m2 q q (mv q (st _ (bg (i:=i) 2 q q yE IE j.di Xx) ?_))));obtain⟨ch,bC,al⟩:=j.get W;obtain⟨aB,rfl,aU⟩:=nS bC;have al:At _ v0 (i*2) (fB.cells I aB):=al;refine st _ (gI (kk:=i*2) (fB.cells I aB) 0 q q (by exact qq) al q) (aR [(fB.cells I aB)] yE sV Xy Xy q q ⟨q,tV⟩ ⟨q,tV⟩ q Xy ?_);intro a1 co g a4 C Y;have ah:=d _ g;obtain⟨j,s,k,aU,d,e⟩:=k6 C j s k aU d e;have Y:=Ls.cF (m:=1) (R:=bd) (T:=jS) (xs:=[I]) Y ⟨_,_,q,(vp aU),q⟩ q Xy ah;refine ez (sz:=2) (by rfl) yE sV q q k Y (fun _ h _=>h) d (bw.new e) Zq Zq ?_;intro bL cp be E z M Bk C N _ V;have a0:=k;have K:=E _ K s.lt;have J:=tT J z;have L:=Sx E L e.size;have j:=(j.sub E).md C N;have s:=s.md C (aW a0 s);have d:=d.md C;have e:=e.cT C (Sy a0);have d:=M;clear M E z N V;refine cu q (aA (bE (aj (aG (mv q (st _ (rA (a:=i) (b:=1) q q Xx) (an q ?_)))))));refine xH (x0:=bL) (x1:=((o ++ ([({name:=p.name,values:=[p.value]}:fB)])) ++ ([I]))) (x2:=true) (x3:=(i+1)) Xx ⟨q,q,(dA q Xx),q,q,tV⟩ ⟨be,J,L,d,e,Bk,j,s,K,⟨by simp;omega,by omega⟩,(by rw[ac7 W ak (by simp_all) (by simp_all)]at Z;rw[<- Z];simp only[List.append_assoc,List.singleton_append,List.cons_append,List.nil_append])⟩
   have br:=wK ay;refine aL (aj (aG (m2 q q (mv q (st _ (bg (i:=i) 2 q q yE IE j.di Xx) ?_)))));obtain⟨ci,bD,am⟩:=j.get W;obtain⟨aC,rfl,aV⟩:=nS bD;have am:At _ v0 (i*2) (fB.cells I aC):=am;refine st _ (gI (kk:=i*2) (fB.cells I aC) 0 q q (by exact qq) am q) (aR [(fB.cells I aC)] yE sV Xy Xy q q ⟨q,tV⟩ ⟨q,tV⟩ q Xy ?_);intro a1 cq g a4 C Y;have ah:=d _ g;obtain⟨D,j,s,aV,d,e⟩:=k6 C D j s aV d e;have Y:=Ls.cF (m:=1) (R:=ad) (T:=jS) (xs:=[I]) Y ⟨_,_,q,(vp aV),q⟩ q Xy ah;refine ez (sz:=2) (by rfl) yE sV q q D Y (fun _ h _=>h) d (bw.new e) Zq Zq ?_;intro bM cr bh E z M bu C N _ V;have S:=D;have K:=E _ K s.lt;have J:=tT J z;have L:=Sx E L e.size;have j:=(j.sub E).md C N;have s:=s.md C (aW S s);have d:=d.md C;have e:=e.cT C (Sy S);have d:=M;clear M E z N V;refine cu q (aA (bE (aj (aG (mv q (st _ (rA (a:=i) (b:=1) q q Xx) (an q ?_)))))));refine xH (x0:=bM) (x1:=(o ++ ([I]))) (x2:=b) (x3:=(i+1)) Xx ⟨q,q,(dA q Xx),q,q,tV⟩ ⟨bh,J,L,d,e,bu,j,s,K,⟨by simp;omega,by omega⟩,(by rw[Yc W ak (by rintro⟨bU,bV⟩;simp_all)]at Z;rw[<- Z];simp only[List.append_assoc,List.singleton_append])⟩
  have bq:=wK G;refine eI q q q G (eI q q q G (eI q q q G (eI q q q G (eI q q q G (eI q q q G (eI q q q G (dH ?_)))))));obtain⟨D,j,s,d,e⟩:=k5 U D j s d e;refine sk G (st _ (aZ q G q) (nt (ij q q (aL (aj (aG (m2 q q (mv q (st _ (bg (i:=i) 2 q q yE IE j.di Xx) ?_)))))))));obtain⟨cj,bF,ab⟩:=j.get W;obtain⟨aE,rfl,aY⟩:=nS bF;have ab:At _ v0 (i*2) (fB.cells I aE):=ab;refine st _ (gI (kk:=i*2) (fB.cells I aE) 0 q q (by exact qq) ab q) (aR [(fB.cells I aE)] yE sV Xy Xy q q ⟨q,tV⟩ ⟨q,tV⟩ q Xy ?_);intro a1 ct g a4 C Y;have ah:=d _ g;obtain⟨D,j,s,aY,d,e⟩:=k6 C D j s aY d e;have Y:=Ls.cF (m:=1) (R:=ad) (T:=jS) (xs:=[I]) Y ⟨_,_,q,(vp aY),q⟩ q Xy ah;refine ez (sz:=2) (by rfl) yE sV q q D Y (fun _ h _=>h) d (bw.new e) Zq Zq ?_;intro bQ cv bi E z M bv C N _ V;have S:=D;have K:=E _ K s.lt;have J:=tT J z;have L:=Sx E L e.size;have j:=(j.sub E).md C N;have s:=s.md C (aW S s);have d:=d.md C
  have e:=e.cT C (Sy S);have d:=M;clear M E z N V;refine cu q (aA (bE (aj (aG (mv q (st _ (rA (a:=i) (b:=1) q q Xx) (an q ?_)))))));refine xH (x0:=bQ) (x1:=(o ++ ([I]))) (x2:=b) (x3:=(i+1)) Xx ⟨q,q,(dA q Xx),q,q,tV⟩ ⟨bi,J,L,d,e,bv,j,s,K,⟨by simp;omega,by omega⟩,(by rw[Yc W ak (by rintro⟨bU,bV⟩;simp_all)]at Z;rw[<- Z];simp only[List.append_assoc,List.singleton_append])⟩
 have aN:=dF av;refine bT (aX (aX (cJ (aj (aD (nm q (st _ (gT q) (nt ?_))))))));refine bJ q (fun az=>?_) (fun az=>?_)
 ·have aO:=wL az;refine aG (mv q (sf q mV (sl (u:=(str p.name)) q jK s q (sf q qH (sl (u:=(str p.value)) q jK s q (aR [[(str p.value)]] iU gE Xy Xy q q ⟨q,tV⟩ ⟨q,tV⟩ q Xy ?_))))));intro aK cw bo cc C af;have bI:=d _ bo;obtain⟨D,d,e⟩:=k3 C D d e;have af:=Ls.cF (m:=1) (R:=ad) (T:=ir) (xs:=[p.value]) af ⟨_,_,q,⟨q,tV⟩,q⟩ q Xy bI;refine st _ (bN (us:=[[(str p.name)],[(.slice (some ⟨aK,0,none⟩) 1 1)]]) (cs:=(fB.cells (({name:=p.name,values:=[p.value]}:fB)) (.slice (some ⟨aK,0,none⟩) 1 1))) [(0,0,1),(1,1,1)] z98 ajX q q ⟨q,(dM af.bA),tV⟩ Fz q q) (aR [(fB.cells (({name:=p.name,values:=[p.value]}:fB)) (.slice (some ⟨aK,0,none⟩) 1 1))] yE sV Xy Xy q q ⟨q,tV⟩ ⟨q,tV⟩ q Xy ?_);intro b6 w64 bp cd C aQ;have bb:=d _ bp;obtain⟨D,af,d,e⟩:=k4 C D af d e;have aQ:=Ls.cF (m:=1) (R:=ad) (T:=jS) (xs:=[({name:=p.name,values:=[p.value]}:fB)]) aQ ⟨_,_,q,(vp af),q⟩ q Xy bb;refine ez (sz:=2) (by rfl) yE sV q q D aQ (fun _ h _=>h) d (bw.new e) Zq Zq ?_;intro bR cx ce E z M bx C N _ V;have S:=D;have J:=tT J z;have d:=d.md C;have e:=e.cT C (Sy S)
  have d:=M;clear M E z N V;refine an q (nm q (ar q ?_));exact bP (v:=bR) trivial q ⟨q,tV⟩ ⟨_,(o ++ ([({name:=p.name,values:=[p.value]}:fB)])),q,e,(bx.ls (fun b F=>J b F) (bw.up a5)),(by have aa:=Z;rw[PZ aN]at aa;simp only[aO,if_true,if_false,Bool.false_eq_true,Bool.true_eq_false,reduceIte]at aa;exact a3.trans (aa.symm.trans Oy))⟩
 have aO:=wK az;refine aL (aj (nm q (ar q ?_)));exact bP (v:=ag) trivial q ⟨q,tV⟩ ⟨_,o,q,e,(D.ls (fun b F=>J b F) (bw.up a5)),(by have aa:=Z;rw[PZ aN]at aa;simp only[aO,if_true,if_false,Bool.false_eq_true,Bool.true_eq_false,reduceIte]at aa;exact a3.trans (aa.symm.trans Oy))⟩
theorem u9:Zp.underlying 9=some (.string):=Xw
theorem LR (s:Ly) (w:World) (k:s.length<=9223372036854775807):Calls Zp 107 #[str s] w fun x p=>x = .returned (.bool (eB s))/\w=p:=by
 have r:=Md.refl [] w;refine enter (n:=44) Tryz.func107 q q q fun u=>ns (an q (aD (ns (cu q (nt (aS ?_))))));refine jh (X:=Nat) (fun i=>[(0,str s),(3,.int .i64 i)]) (fun i p=>w=p/\i<=s.length/\∀b,b<i->iX (s.getD b 0)=true/\(b=0->digit (s.getD b 0)=false)) (fun i=>s.length-i) 0 ?_ ?_ ?_
 ·exact Fz
 ·exact⟨q,by omega,fun b c=>by omega⟩
 clear r;rintro i u z ⟨rfl,y,f⟩;have r:=Md.refl [] w;refine aD (ns (m2 q q (st _ (sM q u9) (st _ (rZ q q) (nt ?_)))));refine bJ q (fun V=>?_) (fun V=>?_)
 ·have W:=dT V;refine aL (aj (aD (aS (ns (m2 q q (st _ (yg q q u9 Xx) (an q (aD (nm q (st _ (qo q q) ?_))))))))));refine mv q ?_;refine bW (t:=16) q (fun g=>?_) (fun g=>?_)
  ·have Q:=dT g;refine sg g (aM q) (sg g (yh q q) (st _ (bf q g q) (mv q ?_)));refine bW (t:=20) q (fun j=>?_) (fun j=>?_)
   ·have R:=dT j;refine sg j (aM q) (sg j (vC q q) (st _ (bf q j q) (mv q ?_)));refine bW (t:=24) q (fun d=>?_) (fun d=>?_)
    ·have v:=dT d;refine sk d (sk d (sk d (kJ q q q (kJ q q q (sk d (st _ (bf q d q) (mv q (sk q (sk q (st _ (bf q q q) (nt (gK q q (bT ?_)))))))))))));refine aX (cJ (aj (aG (mv q (st _ (eJ q q Xx) (an q (next (i+1) Xx ⟨q,dA q Oy,tV⟩ ?_)))))))
     exact⟨q,by omega,fun b c=>by
      rcases Nat.lt_or_eq_of_le (Nat.le_of_lt_succ c)with h|h
      ·exact f b h
      ·subst h;exact⟨by unfold iX;exact decide_eq_true Xx,fun H=>by unfold digit;exact decide_eq_false Xx⟩⟩
    have v:=dF d;refine sg d (aM q) (sg d (qo q q) (sg d (aM q) ?_));refine bW (t:=27) q (fun a=>?_) (fun a=>?_)
    ·have l:=dT a;refine sg a (aM q) (sg a (yh q q) (sg d (bf q a q) (st _ (aZ q d q) (mv q ?_))));refine bW (t:=32) q (fun C=>?_) (fun C=>?_)
     ·have m:=dT C;refine sk C (sk C (st _ (bf q C q) (nt (gK q q (bT (aX (cJ (aj (aG (mv q (st _ (eJ q q Xx) (an q ?_))))))))))));refine next (i+1) Xx ⟨q,dA q Oy,tV⟩ ?_
      exact⟨q,by omega,fun b c=>by
       rcases Nat.lt_or_eq_of_le (Nat.le_of_lt_succ c)with h|h
       ·exact f b h
       ·subst h;exact⟨by unfold iX;exact decide_eq_true Xx,fun H=>by unfold digit;exact decide_eq_false Xx⟩⟩
     have m:=dF C;refine sg C (aM q) (sg C (lV q q) (st _ (aZ q C q) (nt ?_)));refine bJ q (fun D=>?_) (fun D=>?_)
     ·have e:=dT D;refine bT (aX (cJ (aj (aG (mv q (st _ (eJ q q Xx) (an q (next (i+1) Xx ⟨q,dA q Oy,tV⟩ ?_))))))))
      exact⟨q,by omega,fun b c=>by
       rcases Nat.lt_or_eq_of_le (Nat.le_of_lt_succ c)with h|h
       ·exact f b h
       ·subst h;exact⟨by unfold iX;exact decide_eq_true Xx,fun H=>by unfold digit;exact decide_eq_false Xx⟩⟩
     have e:=dF D;refine aL (aj (ns (ar q (aV (aI (aI (aV (aI ?_))))))));exact gX trivial q q ⟨oH (by cases hh:eB s with|false=>rfl|true=>(exfalso;have k:=fV hh;have P:=iv hh;have o:=kR hh i Xx;rcases Nat.eq_zero_or_pos i with H|H<;>omega)),q⟩
    have l:=dF a;refine sk a (sk a (sg d (aZ q a q) (st _ (aZ q d q) (mv q (sg q (aM q) (sg q (lV q q) (st _ (aZ q q q) (nt ?_))))))));refine bJ q (fun D=>?_) (fun D=>?_)
    ·have e:=dT D;refine bT (aX (cJ (aj (aG (mv q (st _ (eJ q q Xx) (an q (next (i+1) Xx ⟨q,dA q Oy,tV⟩ ?_))))))))
     exact⟨q,by omega,fun b c=>by
      rcases Nat.lt_or_eq_of_le (Nat.le_of_lt_succ c)with h|h
      ·exact f b h
      ·subst h;exact⟨by unfold iX;exact decide_eq_true Xx,fun H=>by unfold digit;exact decide_eq_false Xx⟩⟩
    have e:=dF D;refine aL (aj (ns (ar q (aV (aI (aI (aV (aI ?_))))))));exact gX trivial q q ⟨oH (by cases hh:eB s with|false=>rfl|true=>(exfalso;have k:=fV hh;have P:=iv hh;have o:=kR hh i Xx;rcases Nat.eq_zero_or_pos i with H|H<;>first|omega|(subst H;omega))),q⟩
   have R:=dF j;refine sk j (sk j (st _ (aZ q j q) (mv q (sg q (aM q) (sg q (qo q q) (sg q (aM q) ?_))))));refine bW (t:=27) q (fun a=>?_) (fun a=>?_)
   ·have l:=dT a;refine sg a (aM q) (sg a (yh q q) (sg q (bf q a q) (st _ (aZ q q q) (mv q ?_))));refine bW (t:=32) q (fun C=>?_) (fun C=>?_)
    ·have m:=dT C;refine sk C (sk C (st _ (bf q C q) (nt (gK q q (bT (aX (cJ (aj (aG (mv q (st _ (eJ q q Xx) (an q ?_))))))))))));refine next (i+1) Xx ⟨q,dA q Oy,tV⟩ ?_
     exact⟨q,by omega,fun b c=>by
      rcases Nat.lt_or_eq_of_le (Nat.le_of_lt_succ c)with h|h
      ·exact f b h
      ·subst h;exact⟨by unfold iX;exact decide_eq_true Xx,fun H=>by unfold digit;exact decide_eq_false Xx⟩⟩
    have m:=dF C;refine sg C (aM q) (sg C (lV q q) (st _ (aZ q C q) (nt ?_)));refine bJ q (fun D=>?_) (fun D=>?_)
    ·have e:=dT D;refine bT (aX (cJ (aj (aG (mv q (st _ (eJ q q Xx) (an q (next (i+1) Xx ⟨q,dA q Oy,tV⟩ ?_))))))))
     exact⟨q,by omega,fun b c=>by
      rcases Nat.lt_or_eq_of_le (Nat.le_of_lt_succ c)with h|h
      ·exact f b h
      ·subst h;exact⟨by unfold iX;exact decide_eq_true Xx,fun H=>by unfold digit;exact decide_eq_false Xx⟩⟩
    have e:=dF D;refine aL (aj (ns (ar q (aV (aI (aI (aV (aI ?_))))))));exact gX trivial q q ⟨oH (by cases hh:eB s with|false=>rfl|true=>(exfalso;have k:=fV hh;have P:=iv hh;have o:=kR hh i Xx;rcases Nat.eq_zero_or_pos i with H|H<;>omega)),q⟩
   have l:=dF a;refine sk a (sk a (sg q (aZ q a q) (st _ (aZ q q q) (mv q (sg q (aM q) (sg q (lV q q) (st _ (aZ q q q) (nt ?_))))))));refine bJ q (fun D=>?_) (fun D=>?_)
   ·have e:=dT D;refine bT (aX (cJ (aj (aG (mv q (st _ (eJ q q Xx) (an q (next (i+1) Xx ⟨q,dA q Oy,tV⟩ ?_))))))))
    exact⟨q,by omega,fun b c=>by
     rcases Nat.lt_or_eq_of_le (Nat.le_of_lt_succ c)with h|h
     ·exact f b h
     ·subst h;exact⟨by unfold iX;exact decide_eq_true Xx,fun H=>by unfold digit;exact decide_eq_false Xx⟩⟩
   have e:=dF D;refine aL (aj (ns (ar q (aV (aI (aI (aV (aI ?_))))))));exact gX trivial q q ⟨oH (by cases hh:eB s with|false=>rfl|true=>(exfalso;have k:=fV hh;have P:=iv hh;have o:=kR hh i Xx;rcases Nat.eq_zero_or_pos i with H|H<;>omega)),q⟩
  have Q:=dF g;refine sk g (sk g (st _ (aZ q g q) (mv q (sk q (sk q (st _ (aZ q q q) (mv q (sg q (aM q) (sg q (qo q q) (sg q (aM q) ?_))))))))));refine bW (t:=27) q (fun a=>?_) (fun a=>?_)
  ·have l:=dT a;refine sg a (aM q) (sg a (yh q q) (sg q (bf q a q) (st _ (aZ q q q) (mv q ?_))));refine bW (t:=32) q (fun C=>?_) (fun C=>?_)
   ·have m:=dT C;refine sk C (sk C (st _ (bf q C q) (nt (gK q q (bT (aX (cJ (aj (aG (mv q (st _ (eJ q q Xx) (an q ?_))))))))))));refine next (i+1) Xx ⟨q,dA q Oy,tV⟩ ?_
    exact⟨q,by omega,fun b c=>by
     rcases Nat.lt_or_eq_of_le (Nat.le_of_lt_succ c)with h|h
     ·exact f b h
     ·subst h;exact⟨by unfold iX;exact decide_eq_true Xx,fun H=>by unfold digit;exact decide_eq_false Xx⟩⟩
   have m:=dF C;refine sg C (aM q) (sg C (lV q q) (st _ (aZ q C q) (nt ?_)));refine bJ q (fun D=>?_) (fun D=>?_)
   ·have e:=dT D;refine bT (aX (cJ (aj (aG (mv q (st _ (eJ q q Xx) (an q (next (i+1) Xx ⟨q,dA q Oy,tV⟩ ?_))))))))
    exact⟨q,by omega,fun b c=>by
     rcases Nat.lt_or_eq_of_le (Nat.le_of_lt_succ c)with h|h
     ·exact f b h
     ·subst h;exact⟨by unfold iX;exact decide_eq_true Xx,fun H=>by unfold digit;exact decide_eq_false Xx⟩⟩
   have e:=dF D;refine aL (aj (ns (ar q (aV (aI (aI (aV (aI ?_))))))));exact gX trivial q q ⟨oH (by cases hh:eB s with|false=>rfl|true=>(exfalso;have k:=fV hh;have P:=iv hh;have o:=kR hh i Xx;rcases Nat.eq_zero_or_pos i with H|H<;>omega)),q⟩
  have l:=dF a;refine sk a (sk a (sg q (aZ q a q) (st _ (aZ q q q) (mv q (sg q (aM q) (sg q (lV q q) (st _ (aZ q q q) (nt ?_))))))));refine bJ q (fun D=>?_) (fun D=>?_)
  ·have e:=dT D;refine bT (aX (cJ (aj (aG (mv q (st _ (eJ q q Xx) (an q (next (i+1) Xx ⟨q,dA q Oy,tV⟩ ?_))))))))
   exact⟨q,by omega,fun b c=>by
    rcases Nat.lt_or_eq_of_le (Nat.le_of_lt_succ c)with h|h
    ·exact f b h
    ·subst h;exact⟨by unfold iX;exact decide_eq_true Xx,fun H=>by unfold digit;exact decide_eq_false Xx⟩⟩
  have e:=dF D;refine aL (aj (ns (ar q (aV (aI (aI (aV (aI ?_))))))));exact gX trivial q q ⟨oH (by cases hh:eB s with|false=>rfl|true=>(exfalso;have k:=fV hh;have P:=iv hh;have o:=kR hh i Xx;rcases Nat.eq_zero_or_pos i with H|H<;>omega)),q⟩
 have W:=dF V;refine bT (aX (aX (cJ (aj (nm q (st _ (sM q u9) (st _ (qo q q) (mv q ?_))))))));refine bW (t:=39) q (fun G=>?_) (fun G=>?_)
 ·have T:=dT G;refine sg G (aM q) (sg G (sM q u9) (sg G (yh q q) (st _ (bf q G q) (ar q ?_))));exact gX trivial q q ⟨oH (ael Xx (fun b c=>f b Xx)),q⟩
 have T:=dF G;refine sk G (sk G (sk G (st _ (aZ q G q) (ar q ?_))));exact gX trivial q q ⟨oH (by cases hh:eB s with|false=>rfl|true=>(exfalso;have k:=fV hh;have P:=iv hh;omega)),q⟩
theorem o7:gy Zp 5 1=true:=Xw
theorem ai5:cA Zp 107=true:=Xw
theorem zC:iJ Zp 5=true:=Xw
theorem BA:fH Zp 61=some [(0,1),(1,1)]:=Xw
theorem fU:Zp.underlying 27=some (.slice 5):=Xw
theorem u5:Zp.underlying 5=some (.int .u8):=Xw
theorem Xn (v:Value) (l:Ly) (w:World) (p:By w v l) (O:l.length<=4611686018427387904) :
  Calls Zp 68 #[v] w fun E e=>E = .returned (.tuple #[mX (nk l),.int .i64 (gG l)])/\Md [] w e:=by
 have V:=p.dD;have d:=Md.refl [] w;refine enter (n:=41) Tryz.func68 q q q fun F=>ns (bF z61 ?_);intro B M u L j a;have u:=lv d.size u;have d:=d.k j;refine an q (aD (ns (cu q (nt (aS ?_)))));refine jh (X:=Nat) (fun i=>[(0,v),(2,.pointer (some ⟨B,0,none⟩)),(4,.int .i64 i)]) (fun i e=>Md [] w e/\bS e B [.string ByteArray.empty,.string ByteArray.empty] 61/\i<=l.length/\∀t,t<i->l.getD t 0≠61) (fun i=>l.length-i) 0 ?_ ?_ ?_
 ·exact Fz
 ·exact⟨d,a,by omega,fun t T=>by omega⟩
 clear d;clear a;rintro i F b ⟨d,a,K,Q⟩;refine aD (ns (m2 q q (sL q fU p.di (st _ (rZ q q) (nt ?_)))));refine bJ q (fun R=>?_) (fun R=>?_)
 ·have J:=dT R;refine aL (aj (aD (aS (aD (ns (m2 q q (st _ (CC q q fU o7 p.di Xx) (st _ (CF q zC (p.o d) Xx) (st _ (WQ q q) (nt ?_))))))))));refine bJ q (fun H=>?_) (fun H=>?_)
  ·have x:=dT H;refine bT (aX (cJ (aj (aG (mv q (st _ (eJ q q Xx) (an q (next (i+1) Xx ⟨q,q,dA q Oy,tV⟩ ?_))))))))
   exact⟨d,a,by omega,fun t T=>by
    rcases Nat.lt_or_eq_of_le (Nat.le_of_lt_succ T)with h|h
    ·exact Q t h
    ·subst h;intro W;apply x;rw[Int.toNat_natCast,W];rfl⟩
  have x:=dF H;have I:=x;rw[Int.toNat_natCast]at I;have G:Lib.indexByte l 61=i:=alU Xx (UInt8.toNat_inj.1 (by show _=61;omega)) Q;refine aL (aj (aD (ns (m2 q q (st _ (mr 0 i fU o7 q p.di Xx Xx q ⟨_,q⟩) (st _ (ot fU u5 u9 q ((p.head i Xx).o d)) (Rz ai5 q (LR (l.take i) _ Ym) ?_)))))));rintro E _ ⟨rfl,rfl⟩;refine st _ (gT q) (nt ?_);refine bJ q (fun y=>?_) (fun y=>?_)
  ·have D:=wL y;refine ns (st (.agg [_,_].toArray) (jG (ps:=[]) z61 BA q q trivial q q q) (eY q q (by exact gY) (by simp[mX,str,Value.oneCell']) a (by rfl) ?_));have A:=a;intro c j a;have d:=d.dY j u;refine ar q (aI (aV (aI (aI (aV (aI ?_))))));have C:gG l=20:=(by unfold gG;rw[G,if_neg Xx,Int.toNat_natCast,if_pos D]);have r:=pG (s:=l) (by rw[C];decide);exact AL trivial q q (by exact gY) a q ⟨by rw[C,r];rfl,d⟩
  have D:=wK y;refine aL (aj (aD (nm q (sL q fU p.di (mv q (st _ (jO q q Xx) (st _ (jO q q Xx) (st _ (vC q q) (nt ?_)))))))));refine bJ q (fun z=>?_) (fun z=>?_)
  ·have P:=dT z;refine ns (st (.agg [_,_].toArray) (jG (ps:=[]) z61 BA q q trivial q q q) (eY q q (by exact gY) (by simp[mX,str,Value.oneCell']) a (by rfl) ?_));have A:=a;intro N j a;have d:=d.dY j u;refine ar q (aI (aV (aI (aI (aV (aI ?_))))));have C:gG l=21:=(by unfold gG;rw[G,if_neg Xx,Int.toNat_natCast,if_neg (by simp[D]),if_pos Ym]);have r:=pG (s:=l) (by rw[C];decide);exact AL trivial q q (by exact gY) a q ⟨by rw[C,r];rfl,d⟩
  have P:=dF z;refine aL (aj (aD (DK [(0,true),(1,true),(2,true),(3,true),(4,true),(5,true),(6,true),(7,true),(8,true),(9,true),(10,false),(11,true)] (fun e=>By e v l) mixed Xw ?_)));intro f j;obtain⟨a,d⟩:=k2 j a d;refine⟨(p.o d),?_⟩;refine m _ (fun e C=>aM q) (m _ (fun e C=>aM q) (m _ (fun e C=>mr 0 i fU o7 q p.di Xx Xx q ⟨_,q⟩) (m _ (fun e C=>ot fU u5 u9 q (By.head C i Xx)) (m _ (fun e C=>aM q) (m _ (fun e C=>aM q) (m _ (fun e C=>(eJ q q Xx).jB (show _=((i+1:Nat):Int)from by simp)) (m _ (fun e C=>mr (i+1) l.length fU o7 q p.di Xx Xx ⟨_,q⟩ q) (m _ (fun e C=>ot fU u5 u9 q (By.tail C (i+1) Xx)) (m (.agg [_,_].toArray) (fun e C=>jG (ps:=[(0,0),(1,1)]) z61 BA q q Fz q q q) ?_)))))))));refine mM ?_ rfl;refine eY q q (by exact gY) (by simp[mX,str,Value.oneCell']) a (by rfl) ?_;have A:=a;intro g j a;have d:=d.dY j u;refine aA ⟨q,(p.o d),?_⟩;refine m _ (fun e C=>eX q) (dH (aj (iI (aV (aI (aI (aV (aI ?_))))))));have C:gG l=0:=(by unfold gG;rw[G,if_neg Xx,Int.toNat_natCast,if_neg (by simp[D]),if_neg Ym]);have r:nk l=(l.take i,l.drop (i+1)):=(by unfold nk;rw[if_pos C,G,Int.toNat_natCast]);exact AL trivial q q (by exact gY) a q ⟨by rw[C,r];rfl,d⟩
 have J:=dF R;refine bT (aX (aX (cJ (aj (ns (st (.agg [_,_].toArray) (jG (ps:=[]) z61 BA q q trivial q q q) (eY q q (by exact gY) (by simp[mX,str,Value.oneCell']) a (by rfl) ?_)))))));have A:=a;intro k j a;have d:=d.dY j u;refine ar q ?_;have C:gG l=20:=(by unfold gG;rw[if_pos (aha fun t T=>Q t Xx)]);have r:=pG (s:=l) (by rw[C];decide);exact AL trivial q q (by exact gY) a q ⟨by rw[C,r];rfl,d⟩
theorem nu:Zp.underlying 46=some (.int .u64):=Xw
theorem Wn (i:Up w Q) (n:Int) (l:(-9223372036854775808<=n/\n<9223372036854775808)) :
  Calls Zp 163 #[(.int .i64 (n:Int))] w fun h j=>∃e:Bool,h = .returned (.bool e)/\Md [] w j/\oJ n=e:=by
 have d:=Md.refl [] w;have H:=i;refine enter (n:=17) Tryz.func163 q q q fun k=>ns (an q (nm q (st _ (lV (a:=n) (b:=1) q q) (mv q ?_))));refine bW (t:=5) q (fun C=>?_) (fun C=>?_)
 ·have g:=dT C;refine sk C (sk C (st _ (bf q C q) (mv q (sk q (sk q (st _ (bf q q q) (mv q (sk q (sk q (st _ (bf q q q) (ar q ?_)))))))))));exact bP (v:=(.bool true)) trivial q ⟨q,tV⟩ ⟨true,q,d,(by simp only[oJ];exact decide_eq_true Xx)⟩
 have g:=dF C;refine sg C (aM q) (sg C (lV (a:=n) (b:=2) q q) (st _ (aZ q C q) (mv q ?_)));refine bW (t:=9) q (fun D=>?_) (fun D=>?_)
 ·have G:=dT D;refine sk D (sk D (st _ (bf q D q) (mv q (sk q (sk q (st _ (bf q q q) (ar q ?_)))))));exact bP (v:=(.bool true)) trivial q ⟨q,tV⟩ ⟨true,q,d,(by simp only[oJ];exact decide_eq_true Xx)⟩
 have G:=dF D;refine sg D (aM q) (sg D (lV (a:=n) (b:=4) q q) (st _ (aZ q D q) (mv q ?_)));refine bW (t:=13) q (fun c=>?_) (fun c=>?_)
 ·have f:=dT c;refine sk c (sk c (st _ (bf q c q) (ar q ?_)));exact bP (v:=(.bool true)) trivial q ⟨q,tV⟩ ⟨true,q,d,(by simp only[oJ];exact decide_eq_true Xx)⟩
 have f:=dF c;refine sg c (aM q) (sg c (lV (a:=n) (b:=8) q q) (st _ (aZ q c q) (ar q ?_)));exact bP (v:=(.bool ((decide (n=8))))) trivial q ⟨q,tV⟩ ⟨(decide (n=8)),q,d,(by simp only[oJ];exact(decide_eq_decide.2 Xx))⟩
theorem WW (J:Up w Q) {v0:Value} {l:Ly} (e:Ls e6 w Q v0 l) (a:Int) (ae:(-9223372036854775808<=a/\a<9223372036854775808)) (n:Int) (af:(-9223372036854775808<=n/\n<9223372036854775808)) :
  Calls Zp 91 #[v0,(.int .i64 (a:Int)),(.int .i64 (n:Int))] w fun ab E=>∃O:Nat,∃X:Bool,ab = .returned (.tuple #[(.int .u64 O),(.bool X)])/\Md [] w E/\O<18446744073709551616/\lS l a n=(O,X):=by
 have ah:=e.dD;have F:=Md.refl [] w;have p:=J;have M:∀b,Q b->Q b:=fun _ h=>h;have P:∀b,Q b->b<w.heap.size->Q b:=fun _ h _=>h;refine enter (n:=59) Tryz.func91 q q q fun S=>ns (cu q (an q (aD (aD ?_))));refine V4 (fun b=>[(41,.bool b),(0,v0),(1,(.int .i64 (a:Int))),(2,(.int .i64 (n:Int))),(6,(.int .u64 ((0:Nat):Int))),(7,(.bool false))]) (fun b E=>w=E/\(b=true↔¬(oJ n=true/\0<=a/\a+n<=l.length))) ?_ ?_
 ·refine mv q (st _ (WQ (a:=n) (b:=1) q q) (mv q ?_));refine bW (t:=12) q (fun H=>?_) (fun H=>?_)
  ·have T:=dT H;refine sg H (aM q) (sg H (WQ (a:=n) (b:=2) q q) (st _ (bf q H q) (mv q ?_)));refine bW (t:=16) q (fun j=>?_) (fun j=>?_)
   ·have Y:=dT j;refine sg j (aM q) (sg j (WQ (a:=n) (b:=4) q q) (st _ (bf q j q) (mv q ?_)));refine bW (t:=20) q (fun m=>?_) (fun m=>?_)
    ·have V:=dT m;refine sg m (aM q) (sg m (WQ (a:=n) (b:=8) q q) (st _ (bf q m q) (mv q ?_)));refine bW (t:=24) q (fun s=>?_) (fun s=>?_)
     ·have W:=dT s;refine sk s (sk s (st _ (bf q s q) (mv q (sk q (sk q (sk q (sk q (st _ (bf q q q) (mv q (sk q (sk q (sk q (sk q ?_)))))))))))));refine sk q (sk q (st _ (bf q q q) (aA ?_)));refine⟨q,jn true ?_ ?_⟩
      ·exact Fz
      ·exact⟨q,by rw[fA];simp;omega⟩
     ·have W:=dF s;refine sg s (aM q) (sg s (rZ (a:=a) (b:=0) q q) (st _ (aZ q s q) (mv q ?_)));refine bW (t:=28) q (fun C=>?_) (fun C=>?_)
      ·have u:=dT C;refine sk C (sk C (sk C (sk C (st _ (bf q C q) (mv q (sk q (sk q (sk q (sk q (sk q (sk q (st _ (bf q q q) (aA ?_)))))))))))));refine⟨q,jn true ?_ ?_⟩
       ·exact Fz
       ·exact⟨q,by rw[fA];simp;omega⟩
      ·have u:=dF C;refine sg C (aM q) (sg C (aM q) (sg C (jx q fU e.di) (sg C (vC (a:=a) (b:=((l.length:Nat):Int)) q q) (st _ (aZ q C q) (mv q ?_)))));refine bW (t:=34) q (fun d=>?_) (fun d=>?_)
       ·have A:=dT d;refine sk d (sk d (sk d (sk d (sk d (sk d (st _ (bf q d q) (aA ?_)))))));refine⟨q,jn true ?_ ?_⟩
        ·exact Fz
        ·exact⟨q,by rw[fA];simp;omega⟩
       ·have A:=dF d;refine sg d (aM q) (sg d (jx q fU e.di) (sg d (aM q) (sg d (jO (a:=((l.length:Nat):Int)) (b:=a) q q Xx) (sg d (aM q) (sg d (rZ (a:=((l.length:Nat):Int)-a) (b:=n) q q) (st _ (aZ q d q) ?_))))));refine bW (t:=41) q (fun D=>?_) (fun D=>?_)
        ·have G:=dT D;refine aA ?_;refine⟨q,jn true ?_ ?_⟩
         ·exact⟨AU q D,q,q,q,q,q,tV⟩
         ·exact⟨q,by rw[fA];simp;omega⟩
        ·have G:=dF D;refine aA ?_;refine⟨q,jn false ?_ ?_⟩
         ·exact⟨AU q D,q,q,q,q,q,tV⟩
         ·exact⟨q,by rw[fA];simp;omega⟩
    ·have V:=dF m;refine sk m (sk m (st _ (aZ q m q) (mv q (sg q (aM q) (sg q (rZ (a:=a) (b:=0) q q) (st _ (aZ q q q) (mv q ?_)))))));refine bW (t:=28) q (fun C=>?_) (fun C=>?_)
     ·have u:=dT C;refine sk C (sk C (sk C (sk C (st _ (bf q C q) (mv q (sk q (sk q (sk q (sk q (sk q (sk q (st _ (bf q q q) (aA ?_)))))))))))));refine⟨q,jn true ?_ ?_⟩
      ·exact Fz
      ·exact⟨q,by rw[fA];simp;omega⟩
     ·have u:=dF C;refine sg C (aM q) (sg C (aM q) (sg C (jx q fU e.di) (sg C (vC (a:=a) (b:=((l.length:Nat):Int)) q q) (st _ (aZ q C q) (mv q ?_)))));refine bW (t:=34) q (fun d=>?_) (fun d=>?_)
      ·have A:=dT d;refine sk d (sk d (sk d (sk d (sk d (sk d (st _ (bf q d q) (aA ?_)))))));refine⟨q,jn true ?_ ?_⟩
       ·exact Fz
       ·exact⟨q,by rw[fA];simp;omega⟩
      ·have A:=dF d;refine sg d (aM q) (sg d (jx q fU e.di) (sg d (aM q) (sg d (jO (a:=((l.length:Nat):Int)) (b:=a) q q Xx) (sg d (aM q) (sg d (rZ (a:=((l.length:Nat):Int)-a) (b:=n) q q) (st _ (aZ q d q) ?_))))));refine bW (t:=41) q (fun D=>?_) (fun D=>?_)
       ·have G:=dT D;refine aA ?_;refine⟨q,jn true ?_ ?_⟩
        ·exact⟨AU q D,q,q,q,q,q,tV⟩
        ·exact⟨q,by rw[fA];simp;omega⟩
       ·have G:=dF D;refine aA ?_;refine⟨q,jn false ?_ ?_⟩
        ·exact⟨AU q D,q,q,q,q,q,tV⟩
        ·exact⟨q,by rw[fA];simp;omega⟩
   ·have Y:=dF j;refine sk j (sk j (st _ (aZ q j q) (mv q (sk q (sk q (st _ (aZ q q q) (mv q (sg q (aM q) (sg q (rZ (a:=a) (b:=0) q q) (st _ (aZ q q q) (mv q ?_)))))))))));refine bW (t:=28) q (fun C=>?_) (fun C=>?_)
    ·have u:=dT C;refine sk C (sk C (sk C (sk C (st _ (bf q C q) (mv q (sk q (sk q (sk q (sk q (sk q (sk q (st _ (bf q q q) (aA ?_)))))))))))));refine⟨q,jn true ?_ ?_⟩
     ·exact Fz
     ·exact⟨q,by rw[fA];simp;omega⟩
    ·have u:=dF C;refine sg C (aM q) (sg C (aM q) (sg C (jx q fU e.di) (sg C (vC (a:=a) (b:=((l.length:Nat):Int)) q q) (st _ (aZ q C q) (mv q ?_)))));refine bW (t:=34) q (fun d=>?_) (fun d=>?_)
     ·have A:=dT d;refine sk d (sk d (sk d (sk d (sk d (sk d (st _ (bf q d q) (aA ?_)))))));refine⟨q,jn true ?_ ?_⟩
      ·exact Fz
      ·exact⟨q,by rw[fA];simp;omega⟩
     ·have A:=dF d;refine sg d (aM q) (sg d (jx q fU e.di) (sg d (aM q) (sg d (jO (a:=((l.length:Nat):Int)) (b:=a) q q Xx) (sg d (aM q) (sg d (rZ (a:=((l.length:Nat):Int)-a) (b:=n) q q) (st _ (aZ q d q) ?_))))));refine bW (t:=41) q (fun D=>?_) (fun D=>?_)
      ·have G:=dT D;refine aA ?_;refine⟨q,jn true ?_ ?_⟩
       ·exact⟨AU q D,q,q,q,q,q,tV⟩
       ·exact⟨q,by rw[fA];simp;omega⟩
      ·have G:=dF D;refine aA ?_;refine⟨q,jn false ?_ ?_⟩
       ·exact⟨AU q D,q,q,q,q,q,tV⟩
       ·exact⟨q,by rw[fA];simp;omega⟩
  ·have T:=dF H;refine sk H (sk H (st _ (aZ q H q) (mv q (sk q (sk q (st _ (aZ q q q) (mv q (sk q (sk q (st _ (aZ q q q) (mv q (sg q (aM q) (sg q (rZ (a:=a) (b:=0) q q) ?_)))))))))))));refine st _ (aZ q q q) (mv q ?_);refine bW (t:=28) q (fun C=>?_) (fun C=>?_)
   ·have u:=dT C;refine sk C (sk C (sk C (sk C (st _ (bf q C q) (mv q (sk q (sk q (sk q (sk q (sk q (sk q (st _ (bf q q q) (aA ?_)))))))))))));refine⟨q,jn true ?_ ?_⟩
    ·exact Fz
    ·exact⟨q,by rw[fA];simp;omega⟩
   ·have u:=dF C;refine sg C (aM q) (sg C (aM q) (sg C (jx q fU e.di) (sg C (vC (a:=a) (b:=((l.length:Nat):Int)) q q) (st _ (aZ q C q) (mv q ?_)))));refine bW (t:=34) q (fun d=>?_) (fun d=>?_)
    ·have A:=dT d;refine sk d (sk d (sk d (sk d (sk d (sk d (st _ (bf q d q) (aA ?_)))))));refine⟨q,jn true ?_ ?_⟩
     ·exact Fz
     ·exact⟨q,by rw[fA];simp;omega⟩
    ·have A:=dF d;refine sg d (aM q) (sg d (jx q fU e.di) (sg d (aM q) (sg d (jO (a:=((l.length:Nat):Int)) (b:=a) q q Xx) (sg d (aM q) (sg d (rZ (a:=((l.length:Nat):Int)-a) (b:=n) q q) (st _ (aZ q d q) ?_))))));refine bW (t:=41) q (fun D=>?_) (fun D=>?_)
     ·have G:=dT D;refine aA ?_;refine⟨q,jn true ?_ ?_⟩
      ·exact⟨AU q D,q,q,q,q,q,tV⟩
      ·exact⟨q,by rw[fA];simp;omega⟩
     ·have G:=dF D;refine aA ?_;refine⟨q,jn false ?_ ?_⟩
      ·exact⟨AU q D,q,q,q,q,q,tV⟩
      ·exact⟨q,by rw[fA];simp;omega⟩
 ·rintro c S _ ⟨rfl,B⟩;refine vW c (fun D=>?_) (fun D=>?_)
  ·have B:=B.1 D;refine aj (gK q D (ns (cu q (ar q (aI ?_)))));exact dB (vs:=[(.int .u64 ((0:Nat):Int)),(.bool false)]) trivial q Fz q ⟨0,false,q,F,Xx,(BP Xx)⟩
  ·have B:=mt B.2 (by rw[D];simp);refine aj (ij q D (aL (aj (aD ?_))));have B:=Classical.not_not.1 B;have y:=zL B.1;refine aG (an q (aD (nm q (st _ (jO (a:=n) (b:=1) q q Xx) (cu q (nt (aS ?_)))))));refine vI (fun(v:Nat) (i:Int)=>[(8,(.int .u64 v)),(9,(.int .i64 (i:Int))),(0,v0),(1,(.int .i64 (a:Int)))]) (fun(v:Nat) (i:Int) E=>∃L:Nat->Prop,(∀b,L b->Q b)/\(∀b,Q b->b<w.heap.size->L b)/\Up E L/\Md [] w E/\Ls e6 E L v0 l/\(-1<=i/\i<n)/\v=AZ ((l.drop (a+(i+1)).toNat).take (n-1-i).toNat)/\v<18446744073709551616) (fun(v:Nat) (i:Int)=>(i+1).toNat) (x0:=0) (x1:=(n-1)) ?_ ?_ ?_
   ·exact Fz
   ·exact⟨Q,M,P,J,F,e,Xx,(by simp[show n-1-(n-1)=0 by omega,AZ]),Xx⟩
   ·clear F J M P e;rintro v i S z ⟨g,M,P,J,F,e,ag,N,f⟩;refine aD (nm q (st _ (qo (a:=i) (b:=0) q q) (nt ?_)));refine bJ q (fun R=>?_) (fun R=>?_)
    ·have Z:=dT R;have ad:=uZ (l:=(l.drop (a+(i+1)).toNat).take (n-1-i).toNat) (k:=7) Ym;rw[<- N]at ad;refine aL (aj (aD (aS (aG (mv q (st _ (qZ (a:=v) (b:=256) 18446744073709551616 q q q Xx) (m2 q q (mv q (st _ (eJ (a:=a) (b:=i) q q Xx) (st _ (uq (i:=a+i) 1 q q fU o7 e.di Xx) ?_))))))))));obtain⟨I,U⟩:=dZ (l:=l) (i:=(a+i).toNat) Xx;obtain⟨x,aa,K⟩:=e.get U;obtain⟨rfl,_⟩:=aa;have r:=UInt8.toNat_lt I;have K:At _ v0 (((a+i).toNat)*1) [(b8 I)]:=K;refine st _ ((bO (kk:=((a+i).toNat)*1) 0 q q zC K q).to (b:=(b8 I)) q) (st _ (dK (a:=I.toNat) 18446744073709551616 q (by rw[u5];rfl) nu q (lj (UInt8.toNat_lt _) Xy)) (st _ (iG (a:=(v*256)) (b:=I.toNat) 18446744073709551616 q q q Xx) (cu q (aA ?_))));refine bE (aj (aG (mv q (st _ (jO (a:=i) (b:=1) q q Xx) (an q ?_)))));refine tY (x0:=((v*256)+I.toNat)) (x1:=(i-1)) Xx ⟨(dA q (by rfl)),(dA q Xx),q,q,tV⟩ ⟨g,M,P,J,F,e,Xx,(by rw[N];have o:=S2 (k:=(n-1-i).toNat) U;rw[show(n-1-(i-1)).toNat=(n-1-i).toNat+1 by omega,show(a+(i-1+1)).toNat=(a+i).toNat by omega,o,show(a+i).toNat+1=(a+(i+1)).toNat by omega];omega),Xx⟩
    ·have Z:=dF R;refine bT (aX (aX (cJ (aj (nm q (cu q (ar q ?_)))))));exact dB (vs:=[(.int .u64 v),(.bool true)]) trivial q Fz q ⟨v,true,q,F,Xh,(by rw[lS,if_pos Xx,N,show i = -1 by omega];simp)⟩
theorem aiC:cA Zp 163=true:=Xw
theorem pB (m:Up w Q) {v0:Value} {l:Ly} (j:Ls e6 w Q v0 l) (a:Int) (aa:(-9223372036854775808<=a/\a<9223372036854775808)) (n:Int) (ab:(-9223372036854775808<=n/\n<9223372036854775808)) :
  Calls Zp 139 #[v0,(.int .i64 (a:Int)),(.int .i64 (n:Int))] w fun I u=>∃B:Nat,∃J:Bool,I = .returned (.tuple #[(.int .u64 B),(.bool J)])/\Md [] w u/\B<18446744073709551616/\lS l a n=(B,J):=by
 have p:=j.dD;have e:=Md.refl [] w;have ae:=m;have P:∀b,Q b->Q b:=fun _ h=>h;have z:∀b,Q b->b<w.heap.size->Q b:=fun _ h _=>h;refine enter (n:=42) Tryz.func139 q q q fun K=>ns (cu q (an q (aD (nm q (Rz aiC q (Wn m (n) Xx) ?_)))));rintro I af ⟨Z,rfl,R,ad⟩;obtain⟨j,m,e⟩:=k3 R j m e;refine st _ (gT q) (mv q ?_);refine bW (t:=13) q (fun C=>?_) (fun C=>?_)
 ·have L:=wL C;refine sk C (sk C (st _ (bf q C q) (mv q (sk q (sk q (sk q (sk q (sk q (sk q (st _ (bf q q q) (nt (gK q q (ns ?_)))))))))))));refine cu q (ar q (aI ?_));exact dB (vs:=[(.int .u64 ((0:Nat):Int)),(.bool false)]) trivial q Fz q ⟨0,false,q,e,Xx,(BP (by rintro⟨F,V,W⟩;simp_all))⟩
 ·have L:=wK C;refine sg C (aM q) (sg C (rZ (a:=a) (b:=0) q q) (st _ (aZ q C q) (mv q ?_)));refine bW (t:=17) q (fun d=>?_) (fun d=>?_)
  ·have M:=dT d;refine sk d (sk d (sk d (sk d (sk d (sk d (st _ (bf q d q) (nt (gK q q (ns (cu q (ar q ?_)))))))))));refine aI ?_;exact dB (vs:=[(.int .u64 ((0:Nat):Int)),(.bool false)]) trivial q Fz q ⟨0,false,q,e,Xx,(BP (by rintro⟨F,V,W⟩;omega))⟩
  ·have M:=dF d;have U:=zL (n:=n) (by simp_all);refine sg d (aM q) (sg d (aM q) (sg d (jx q fU j.di) (sg d (aM q) (sg d (jO (a:=((l.length:Nat):Int)) (b:=n) q q Xx) (sg d (vC (a:=a) (b:=((l.length:Nat):Int)-n) q q) (st _ (aZ q d q) (nt ?_)))))));refine bJ q (fun G=>?_) (fun G=>?_)
   ·have N:=dT G;refine ns (cu q (ar q (aI ?_)));exact dB (vs:=[(.int .u64 ((0:Nat):Int)),(.bool false)]) trivial q Fz q ⟨0,false,q,e,Xx,(BP (by rintro⟨F,V,W⟩;omega))⟩
   ·have N:=dF G;refine aL (aj (aD ?_));have T:oJ n=true/\0<=a/\a+n<=l.length:=⟨by simp_all,by omega,by omega⟩;have U:=zL T.1;refine aG (an q (aD (nm q (st _ (jO (a:=n) (b:=1) q q Xx) (cu q (nt (aS ?_)))))))
    refine vI (fun(v:Nat) (i:Int)=>[(8,(.int .u64 v)),(9,(.int .i64 (i:Int))),(0,v0),(1,(.int .i64 (a:Int)))]) (fun(v:Nat) (i:Int) u=>∃A:Nat->Prop,(∀b,A b->Q b)/\(∀b,Q b->b<w.heap.size->A b)/\Up u A/\Md [] w u/\Ls e6 u A v0 l/\(-1<=i/\i<n)/\v=AZ ((l.drop (a+(i+1)).toNat).take (n-1-i).toNat)/\v<18446744073709551616) (fun(v:Nat) (i:Int)=>(i+1).toNat) (x0:=0) (x1:=(n-1)) ?_ ?_ ?_
    ·exact Fz
    ·exact⟨Q,P,z,m,e,j,Xx,(by simp[show n-1-(n-1)=0 by omega,AZ]),Xx⟩
    ·clear e m P z j;rintro v i K x ⟨c,P,z,m,e,j,X,D,Y⟩;refine aD (nm q (st _ (qo (a:=i) (b:=0) q q) (nt ?_)));refine bJ q (fun H=>?_) (fun H=>?_)
     ·have O:=dT H;have f:=uZ (l:=(l.drop (a+(i+1)).toNat).take (n-1-i).toNat) (k:=7) Ym;rw[<- D]at f;refine aL (aj (aD (aS (aG (mv q (st _ (akj (a:=v) (b:=8) 18446744073709551616 q q 64 q q q Xx) (m2 q q (mv q (st _ (eJ (a:=a) (b:=i) q q Xx) (st _ (uq (i:=a+i) 1 q q fU o7 j.di Xx) ?_))))))))));obtain⟨s,E⟩:=dZ (l:=l) (i:=(a+i).toNat) Xx;obtain⟨r,S,y⟩:=j.get E;obtain⟨rfl,_⟩:=S;have o:=UInt8.toNat_lt s;have y:At _ v0 (((a+i).toNat)*1) [(b8 s)]:=y;refine st _ ((bO (kk:=((a+i).toNat)*1) 0 q q zC y q).to (b:=(b8 s)) q) (st _ (dK (a:=s.toNat) 18446744073709551616 q (by rw[u5];rfl) nu q (lj (UInt8.toNat_lt _) Xy)) (st _ (amw (a:=(v*2 ^ 8%18446744073709551616)) (b:=s.toNat) 18446744073709551616 q q q q Xx) (cu q (aA ?_))));refine bE (aj (aG (mv q (st _ (jO (a:=i) (b:=1) q q Xx) (an q ?_)))));refine tY (x0:=((v*2 ^ 8%18446744073709551616) ||| s.toNat)) (x1:=(i-1)) Xx ⟨(dA q (by rfl)),(dA q Xx),q,q,tV⟩ ⟨c,P,z,m,e,j,Xx,(by rw[afJ Xx,D];have g:=S2 (k:=(n-1-i).toNat) E;rw[show(n-1-(i-1)).toNat=(n-1-i).toNat+1 by omega,show(a+(i-1+1)).toNat=(a+i).toNat by omega,g,show(a+i).toNat+1=(a+(i+1)).toNat by omega]),(by rw[afJ Xx];have:=UInt8.toNat_lt s;omega)⟩
     ·have O:=dF H;refine bT (aX (aX (cJ (aj (nm q (cu q (ar q ?_)))))));exact dB (vs:=[(.int .u64 v),(.bool true)]) trivial q Fz q ⟨v,true,q,e,Xh,(by rw[lS,if_pos Xx,D,show i = -1 by omega];simp)⟩
theorem fu:fI Zp 129 91=true:=Xw
theorem akJ:gy Zp 226 1=true:=Xw
theorem akK:gy Zp 229 1=true:=Xw
theorem ajm:wT Zp 226 1 8=true:=Xw
theorem ajn:wT Zp 229 1 8=true:=Xw
theorem YN:cA Zp 138=true:=Xw
theorem rC:cA Zp 139=true:=Xw
theorem alf:cA Zp 140=true:=Xw
theorem alg:cA Zp 141=true:=Xw
theorem ae7:aN Zp 129 0=some 0:=Xw
theorem GB:aN Zp 129 1=some 1:=Xw
theorem zx:aN Zp 129 10=some 70:=Xw
theorem zy:aN Zp 129 11=some 71:=Xw
theorem zA:aN Zp 129 12=some 72:=Xw
theorem aaS:aN Zp 129 13=some 73:=Xw
theorem aaT:aN Zp 129 14=some 74:=Xw
theorem aaU:aN Zp 129 15=some 75:=Xw
theorem aaV:aN Zp 129 16=some 76:=Xw
theorem aaW:aN Zp 129 17=some 77:=Xw
theorem aaX:aN Zp 129 18=some 78:=Xw
theorem aaY:aN Zp 129 19=some 79:=Xw
theorem ae8:aN Zp 129 2=some 2:=Xw
theorem aaZ:aN Zp 129 20=some 80:=Xw
theorem abb:aN Zp 129 21=some 81:=Xw
theorem abd:aN Zp 129 22=some 82:=Xw
theorem abe:aN Zp 129 23=some 83:=Xw
theorem abf:aN Zp 129 24=some 84:=Xw
theorem abg:aN Zp 129 25=some 85:=Xw
theorem abh:aN Zp 129 26=some 86:=Xw
theorem abi:aN Zp 129 27=some 87:=Xw
theorem abj:aN Zp 129 28=some 88:=Xw
theorem abk:aN Zp 129 29=some 89:=Xw
theorem SL:aN Zp 129 3=some 3:=Xw
theorem abl:aN Zp 129 30=some 90:=Xw
theorem ae9:aN Zp 129 4=some 19:=Xw
theorem aeA:aN Zp 129 5=some 35:=Xw
theorem aeB:aN Zp 129 6=some 51:=Xw
theorem nZ:aN Zp 129 7=some 67:=Xw
theorem GC:aN Zp 129 8=some 68:=Xw
theorem GD:aN Zp 129 9=some 69:=Xw
theorem ajR:iJ Zp 226=true:=Xw
theorem ajS:iJ Zp 229=true:=Xw
theorem fO:iJ Zp 27=true:=Xw
theorem bh:iJ Zp 46=true:=Xw
theorem iF:iJ Zp 88=true:=Xw
theorem sZ:fH Zp 129=some [(0,1),(1,1),(2,1),(3,16),(19,16),(35,16),(51,16),(67,1),(68,1),(69,1),(70,1),(71,1),(72,1),(73,1),(74,1),(75,1),(76,1),(77,1),(78,1),(79,1),(80,1),(81,1),(82,1),(83,1),(84,1),(85,1),(86,1),(87,1),(88,1),(89,1),(90,1)]:=Xw
theorem ak0:Zp.underlying 224=some (.slice 226):=Xw
theorem ak1:Zp.underlying 227=some (.slice 229):=Xw
theorem u3:Zp.underlying 3=some (.int .i64):=Xw
theorem u48:Zp.underlying 48=some (.array 16 5):=Xw
theorem HS:Zp.underlying 88=some (.int .u32):=Xw
theorem tq:dW Zp 129=some ([.int .u32 0,.int .u32 0,.int .i64 0] ++ (List.replicate 64 (.int .u8 0) ++ (List.replicate 21 (.int .u64 0) ++ ([.int .u32 0,.int .u32 0,.int .u64 0])))):=Xw
theorem adA {w:World} {b:Nat}:Calls Zp 140 #[.pointer (some ⟨b,0,none⟩)] w fun f a=>∃x,f = .returned (.slice (some ⟨x,0,none⟩) 4 4)/\w.heap.size<=x/\Md [] w a/\bS a x (ptrs b 3 16 4) 226:=by refine enter (n:=16) Tryz.func140 q q q fun g=>ns (an q (aD (cZ (ml 12) [12,13] (fun a=>Md [] w a) mixed Xw ?_)));intro h C;refine⟨C,?_⟩;refine mo q (mz (fun a c=>cC q) (mz (fun a c=>aJ q SL) (mo q (mz (fun a c=>cC q) (mz (fun a c=>aJ q ae9) (mo q (mz (fun a c=>cC q) (mz (fun a c=>aJ q aeA) (mo q (mz (fun a c=>cC q) (mz (fun a c=>aJ q aeB) (dH (rj ak0 ajm Xy q q q (by simp[pH,Value.oneCell']) Xy ?_)))))))))))));intro x G d H D e;refine ar q ?_;exact gX trivial q q ⟨x,q,lv C.size d,C.k D,(show bS G x (ptrs b 3 16 4) 226 from e)⟩
theorem aay {w:World} {b:Nat}:Calls Zp 141 #[.pointer (some ⟨b,0,none⟩)] w fun f a=>∃x,f = .returned (.slice (some ⟨x,0,none⟩) 21 21)/\w.heap.size<=x/\Md [] w a/\bS a x (ptrs b 67 1 21) 229:=by refine enter (n:=67) Tryz.func141 q q q fun g=>ns (an q (aD (cZ (ml 63) [63,64] (fun a=>Md [] w a) mixed Xw ?_)));intro h C;refine⟨C,?_⟩;refine mo q (mz (fun a c=>cC q) (mz (fun a c=>aJ q nZ) (mo q (mz (fun a c=>cC q) (mz (fun a c=>aJ q GC) (mo q (mz (fun a c=>cC q) (mz (fun a c=>aJ q GD) (mo q (mz (fun a c=>cC q) (mz (fun a c=>aJ q zx) (mo q (mz (fun a c=>cC q) ?_)))))))))))));refine mz (fun a c=>aJ q zy) (mo q (mz (fun a c=>cC q) (mz (fun a c=>aJ q zA) (mo q (mz (fun a c=>cC q) (mz (fun a c=>aJ q aaS) (mo q (mz (fun a c=>cC q) (mz (fun a c=>aJ q aaT) (mo q (mz (fun a c=>cC q) (mz (fun a c=>aJ q aaU) (mo q ?_)))))))))))));refine mz (fun a c=>cC q) (mz (fun a c=>aJ q aaV) ?_);refine mo q (mz (fun a c=>cC q) (mz (fun a c=>aJ q aaW) (mo q (mz (fun a c=>cC q) (mz (fun a c=>aJ q aaX) (mo q (mz (fun a c=>cC q) (mz (fun a c=>aJ q aaY) (mo q (mz (fun a c=>cC q) (mz (fun a c=>aJ q aaZ) (mo q (mz (fun a c=>cC q) ?_)))))))))))));refine mz (fun a c=>aJ q abb) (mo q (mz (fun a c=>cC q) (mz (fun a c=>aJ q abd) (mo q (mz (fun a c=>cC q) (mz (fun a c=>aJ q abe) (mo q (mz (fun a c=>cC q) (mz (fun a c=>aJ q abf) (mo q (mz (fun a c=>cC q) (mz (fun a c=>aJ q abg) (mo q ?_)))))))))))));refine mz (fun a c=>cC q) (mz (fun a c=>aJ q abh) (mo q (mz (fun a c=>cC q) (mz (fun a c=>aJ q abi) (dH (rj ak1 ajn Xy q q q (by simp[pH,Value.oneCell']) Xy ?_))))));intro x G d H D e;refine ar q ?_;exact gX trivial q q ⟨x,q,lv C.size d,C.k D,(show bS G x (ptrs b 67 1 21) 229 from e)⟩
theorem uV {w:World} {Q:Nat->Prop} {c:Nat} {v0:Value} {l:Ly} (f:bS w c [v0] 27) (e:Ls e6 w Q v0 l) (a:Nat) (g:a+4<=l.length) :
  Calls Zp 138 #[.int .i64 (a:Int),.pointer (some ⟨c,0,none⟩)] w fun d h=>d = .returned (.int .u32 ((at4 l a:Nat):Int))/\Md [] w h:=by
 have o:=e.dD;refine enter (n:=14) Tryz.func138 q q q fun i=>ns (an q (ns (st _ (aF q fO f q) (mv q (Rz rC q (pB (Q:=fun _=>True) (fun _ _=>trivial) (e.sub fun _ _ _=>trivial) (a:Int) Xx 4 Xx) ?_)))));rintro d H ⟨m,G,rfl,D,j,b⟩;have C:lS l a 4=(at4 l a,true):=BO (k:=4) (.inl q) g;rw[C]at b;obtain⟨rfl,rfl⟩:=Prod.mk.inj b;refine mv q (se q q (se q q (cu q (an q (nm q (st _ (dK (a:=at4 l a) 4294967296 q (by rw[nu];rfl) HS q (DC _ _)) (ar q ?_)))))));exact gX trivial q q ⟨q,D⟩
theorem VI (a3:Up w Q) {v0:Value} {b:Ly} (Z:Ls e6 w Q v0 b) (ag:272<=b.length) :
  Calls Zp 103 #[v0] w fun I B=>∃Y:bI,I = .returned (.agg (bI.cells Y).toArray)/\Md [] w B/\bI.ok Y/\fR b=Y:=by
 have aR:=Z.dD;obtain⟨N,f,d⟩:∃N:Nat->Prop,(∀x,w.heap.size<=x->¬N x)/\Ls e6 w N v0 b:=⟨fun x=>x<w.heap.size,fun x h k=>by omega,Z.sub fun x _ h=>h⟩;have e:=Md.refl [] w;refine enter (n:=73) Tryz.func103 q q q fun ab=>ns (dR q (dM d.bA) ?_);intro F a4 aV aZ C s;obtain⟨d,e⟩:=k2 C d e;refine bF tq ?_;intro K ar t a0 C A;have d:=d.o C;obtain⟨U,ao,A⟩:∃U,(bI.cells (jJ b 0 0 0 0)).length=U.length/\bS ar K U 129:=⟨_,q,A⟩;have aE:F≠K:=(by have:=s.lt;omega);have s:=s.o C;have t:=lv e.size t;have e:=e.k C;refine nt (ns (st _ (aF q fO s q) (st _ (bg (i:=16) 1 q q fU o7 d.di Xx) ?_)));obtain⟨x,af⟩:=dZ (l:=b) (i:=16) Xx;obtain⟨aT,ah,R⟩:=d.get af;obtain⟨rfl,_⟩:=ah;have ex:b.getD 16 0=x:=(by simp[List.getD,af]);have a2:=UInt8.toNat_lt x;have R:At _ v0 (16*1) [(b8 x)]:=R;refine st _ ((bO (kk:=16*1) 0 q q zC R q).to (b:=(b8 x)) q) ?_;refine st _ (dK (a:=x.toNat) 9223372036854775808 q (by rw[u5];rfl) u3 q Xx) (st (.agg (bI.cells (jJ b 0 0 0 0)).toArray) (by rw[show bI.cells (jJ b 0 0 0 0)=bI.cells {jJ b 0 0 0 0 with state:=x.toNat} by rw[<- ex];rfl];exact jG (cs:=bI.cells {jJ b 0 0 0 0 with state:=x.toNat}) (ps:=[(2,2)]) tq sZ q q (by simp[pH,Value.oneCell']) q q q) (bF tq ?_));intro E a5 P a1 C D;have d:=d.o C;have L:F≠E:=(by have:=s.lt;omega);have J:K≠E:=(by have:=A.lt;omega);obtain⟨s,A⟩:=k2 C s A;have P:=lv e.size P;have e:=e.k C;refine eY q q (by exact fu) (fun u aa=>aU bI.one u aa) D q ?_;intro a6 C D;have M:∀x∈[E],¬N x:=(by intro y r;simp at r;subst r;exact f _ P);have aH:∀x∈[K],¬N x:=(by intro y r;simp at r;subst r;exact f _ t);have d:=d.md C M;have s:=s.vg C L;have A:=A.vg C J;have e:=e.dY C P;refine nt (aD ?_);refine aG (st _ (wD q) (an q (nm q (lY (cs:=[.pointer (some ⟨F,0,none⟩)]) q YN q (uV s d 8 Xx) ?_))));rintro I a7 ⟨rfl,C⟩;refine rv ?_;obtain⟨d,s,A,D,e⟩:=k5 C d s A D e;refine mv q (lY (cs:=[.pointer (some ⟨F,0,none⟩)]) q YN q (uV s d 12 Xx) ?_);rintro I a8 ⟨rfl,C⟩;refine rv ?_;obtain⟨d,s,A,D,e⟩:=k5 C d s A D e;refine sf q ae7 (bn q q iF q D (by(show _<91;decide)) ?_);intro a9 C D;have d:=d.md C M;have s:=s.vg C L;have A:=A.vg C J;have e:=e.dY C P;refine sf q GB (bn q q iF q D (by(show _<91;decide)) ?_);intro au C D;have d:=d.md C M;have s:=s.vg C L;have A:=A.vg C J;have e:=e.dY C P;have D:bS au E (bI.cells (jJ b (at4 b 8) (at4 b 12) 0 0)) 129:=D;refine nt (ns (an q (aD (ns (Rz alf q (adA (b:=E)) ?_)))));rintro I ba ⟨S,rfl,ad,C,G⟩;have ai:S≠E:=(by have:=D.lt;omega);obtain⟨d,s,A,D⟩:=k4 C d s A D;have ad:=lv e.size ad;have e:=e.k C;have g:PS (.slice (some ⟨S,0,none⟩) 4 4) 4:=⟨_,_,q,Nat.le_refl _,by simp[maxLen],by simp⟩;refine sL q ak0 g (mv q (nt (aS ?_)));refine vI (fun(k:Nat) (a:Nat)=>[(24,(.int .i64 k)),(5,(.int .i64 a)),(1,.pointer (some ⟨F,0,none⟩)),(2,.pointer (some ⟨K,0,none⟩)),(3,.pointer (some ⟨E,0,none⟩)),(4,.func (.func 138) #[] #[.pointer (some ⟨F,0,none⟩)]),(22,.slice (some ⟨S,0,none⟩) 4 4),(23,.int .i64 ((4:Nat):Int))])
  (fun(k:Nat) (a:Nat) B=>Md [] w B/\Ls e6 B N v0 b/\bS B F [v0] 27/\bS B K U 129/\bS B E (bI.cells (jJ b (at4 b 8) (at4 b 12) k 0)) 129/\bS B S (ptrs E 3 16 4) 226/\k<=4/\a=24+16*k) (fun(k:Nat) (a:Nat)=>4-k) (x0:=0) (x1:=24) ?_ ?_ ?_
 ·exact Fz
 ·exact⟨e,d,s,A,D,G,by omega,q⟩
 clear e d s A D G;rintro k a ab aI ⟨e,d,s,A,D,G,hk,p⟩;refine ns (st _ (dN (a:=k) (b:=4) q q) (nt (aD ?_)));refine bJ q (fun V=>?_) (fun V=>?_)
 ·have am:=dT V;refine aL (aj (aD (aS (ns (st _ ((bg (i:=k) 1 q q ak0 akJ g Xx).to (b:=.pointer (some ⟨S,k,none⟩)) (by simp[mO,Addr.kL])) (st _ (aF (b:=S) (j:=k) (u:=.pointer (some ⟨E,3+k*16,none⟩)) q ajR G (Tz Xx)) (an q ?_)))))));have v:=d.di;refine DK [(0,true),(1,true),(2,true),(3,true),(4,true),(5,true),(6,true),(7,false),(8,true),(9,true)] (fun B=>bS B F [v0] 27) mixed Xw ?_;intro aJ C;obtain⟨d,s,A,D,G,e⟩:=k6 C d s A D G e;refine⟨s,?_⟩;refine mo q (mo q (mz (fun B O=>cC q) (mz (fun B O=>gh u48 o7 q Xy) (mz (fun B O=>aF q fO O q) (mo q (Go.Wk.m (oK v0 a b.length) (fun B O=>by exact mr a b.length fU o7 q v Xx Xx ⟨_,q⟩ q) ?_))))));refine mM ?_ rfl;have ae:=d.by.tail a Xx;refine CJ fU o7 q q D ae (zD _) (by have:(bI.cells (jJ b (at4 b 8) (at4 b 12) k 0)).length=91:=rfl;simp;omega) ?_;intro aK C D;rw[<- List.map_take,p,adJ Xx ag]at D;have d:=d.md C M;have s:=s.vg C L;have A:=A.vg C J;have G:=G.vg C ai;have e:=e.dY C P;refine aA ⟨q,s,?_⟩;have aC:min ((b.drop a).map b8).length 16=16:=Ym;refine mz (fun B O=>iG (a:=a) (b:=min ((b.drop a).map b8).length 16) 9223372036854775808 q q q Xx) (mz (fun B O=>eX q) (dH (bE (aj (aG (st _ (rA (a:=k) (b:=1) q q Xx) (mv q (nt ?_))))))));exact tY (x0:=k+1) (x1:=a+min ((b.drop a).map b8).length 16) Xx Fz ⟨e,d,s,A,D,G,by omega,by omega⟩
 have am:=dF V;obtain rfl:k=4:=by omega
 subst p;refine bT (aX (aX (cJ (aj (aD (ns (Rz alg q (aay (b:=E)) ?_)))))));rintro I aM ⟨c,rfl,aW,C,H⟩;have ak:c≠E:=(by have:=D.lt;omega);obtain⟨d,s,A,D,e⟩:=k5 C d s A D e;have o:PS (.slice (some ⟨c,0,none⟩) 21 21) 21:=⟨_,_,q,Nat.le_refl _,by simp[maxLen],by simp⟩;refine sL q ak1 o (mv q (nt (aS ?_)));refine vI (fun(j:Nat) (a:Nat)=>[(40,(.int .i64 j)),(5,(.int .i64 a)),(1,.pointer (some ⟨F,0,none⟩)),(2,.pointer (some ⟨K,0,none⟩)),(3,.pointer (some ⟨E,0,none⟩)),(4,.func (.func 138) #[] #[.pointer (some ⟨F,0,none⟩)]),(38,.slice (some ⟨c,0,none⟩) 21 21),(39,.int .i64 ((21:Nat):Int))])
  (fun(j:Nat) (a:Nat) B=>Md [] w B/\Ls e6 B N v0 b/\bS B F [v0] 27/\bS B K U 129/\bS B E (bI.cells (jJ b (at4 b 8) (at4 b 12) 4 j)) 129/\bS B c (ptrs E 67 1 21) 229/\j<=21/\a=88+8*j) (fun(j:Nat) (a:Nat)=>21-j) (x0:=0) (x1:=24+16*4) ?_ ?_ ?_
 ·exact Fz
 ·exact⟨e,d,s,A,D,H,by omega,q⟩
 clear e d s A D H;rintro j a ab aN ⟨e,d,s,A,D,H,aY,p⟩;refine ns (st _ (dN (a:=j) (b:=21) q q) (nt (aD ?_)));refine bJ q (fun W=>?_) (fun W=>?_)
 ·have T:=dT W;refine aL (aj (aD (aS (ns (st _ ((bg (i:=j) 1 q q ak1 akK o Xx).to (b:=.pointer (some ⟨c,j,none⟩)) (by simp[mO,Addr.kL])) (st _ (aF (b:=c) (j:=j) (u:=.pointer (some ⟨E,67+j*1,none⟩)) q ajS H (Tz Xx)) (an q (nm q (st _ (aF q fO s q) (mv q (Rz rC q (pB (Q:=fun _=>True) (fun _ _=>trivial) (d.sub fun _ _ _=>trivial) (a:Int) Xx 8 Xx) ?_)))))))))));rintro I aO ⟨Y,aq,rfl,C,ap,X⟩;have z:lS b a 8=(dS b a,true):=BO (k:=8) (.inr q) Xx;rw[z]at X;obtain⟨rfl,rfl⟩:=Prod.mk.inj X;obtain⟨d,s,A,D,H,e⟩:=k6 C d s A D H e;refine mv q (st (.int .u64 ((dS b a:Nat):Int)) (jN q q) (se q q (sn q (bn (b:=E) (j:=67+j*1) q q bh q D (by have:(bI.cells (jJ b (at4 b 8) (at4 b 12) 4 j)).length=91:=rfl;omega) ?_))));intro aP C D;rw[Nat.mul_one,p,aaI T]at D;have d:=d.md C M;have s:=s.vg C L;have A:=A.vg C J;have H:=H.vg C ak;have e:=e.dY C P;refine nt (aG (mv q (st _ (rA (a:=a) (b:=8) q q Xx) (cu q (aA (bE (aj (aG (st _ (rA (a:=j) (b:=1) q q Xx) (mv q (nt ?_)))))))))));exact tY (x0:=j+1) (x1:=a+8) Xx Fz ⟨e,d,s,A,D,H,by omega,by omega⟩
 have T:=dF W;obtain rfl:j=21:=by omega
 subst p;refine bT (aX (aX (cJ (aj (ns (m2 q q (lY (cs:=[.pointer (some ⟨F,0,none⟩)]) q YN q (uV s d 256 Xx) ?_)))))));rintro I aQ ⟨rfl,C⟩;refine rv ?_;obtain⟨d,s,A,D,e⟩:=k5 C d s A D e;refine m2 q q (st _ (rA (a:=256) (b:=4) q q Xx) (lY (cs:=[.pointer (some ⟨F,0,none⟩)]) q YN q (uV s d 260 Xx) ?_));rintro I av ⟨rfl,C⟩;refine rv ?_;obtain⟨d,s,A,D,e⟩:=k5 C d s A D e;refine sf q abj (bn q q iF q D (by(show _<91;decide)) ?_);intro aw C D;have d:=d.md C M;have s:=s.vg C L;have A:=A.vg C J;have e:=e.dY C P;refine sf q abk (bn q q iF q D (by(show _<91;decide)) ?_);intro ay C D;have d:=d.md C M;have s:=s.vg C L;have A:=A.vg C J;have e:=e.dY C P;refine nt (ns (st _ (aF q fO s q) (mv q (st _ (rA (a:=256) (b:=8) q q Xx) (Rz rC q (pB (Q:=fun _=>True) (fun _ _=>trivial) (d.sub fun _ _ _=>trivial) ((264:Nat):Int) Xx 8 Xx) ?_)))));rintro I az ⟨Y,aq,rfl,C,ap,X⟩;have z:lS b ((264:Nat):Int) 8=(dS b 264,true):=BO (k:=8) (.inr q) Xx;rw[z]at X;obtain⟨rfl,rfl⟩:=Prod.mk.inj X;obtain⟨A,D,e⟩:=k3 C A D e;refine mv q (st (.int .u64 ((dS b 264:Nat):Int)) (jN q q) (se q q (sf q abl (bn q q bh q D (by(show _<91;decide)) ?_))));intro al C D;have A:=A.vg C J;have e:=e.dY C P;have D:bS al E (bI.cells (fR b)) 129:=D;refine nt (ns (st _ (nJ q (by exact fu) D) (eY q q (by exact fu) (fun u aa=>aU bI.one u aa) A ao ?_)));intro aB C A;have e:=e.dY C t;refine nt (iI ?_);exact am3 trivial q q (by exact fu) A ⟨_,q,e,Ty ag,q⟩
theorem ai7:cA Zp 135=true:=Xw
theorem EK (g:Up w Q) {v0:Value} {a:Ly} (c:Ls e6 w Q v0 a) {v1:Value} {b:Ly} (h1:Ls e6 w Q v1 b) :
  Calls Zp 135 #[v0,v1] w fun f h=>∃d:Bool,f = .returned (.bool d)/\Md [] w h/\decide (a=b)=d:=by
 have C:=c.dD;have D:=h1.dD;have e:=Md.refl [] w;have i:=g;refine enter (n:=10) Tryz.func135 q q q fun j=>ns (an q (nm q (st _ (ot (s:=a) fU u5 u9 q c.by) (mv q (st _ (ot (s:=b) fU u5 u9 q h1.by) (st _ (pU (a:=a) (b:=b) q q) (ar q ?_)))))));exact bP (v:=(.bool ((decide (a=b))))) trivial q ⟨q,tV⟩ ⟨(decide (a=b)),q,e,(by simp(disch:=first|omega|assumption|simp) only [SS,reduceIte])⟩
theorem aa0 (h:Up w Q) {v0:Value} {b:Ly} (e:Ls e6 w Q v0 b) {v1:Value} {p:Ly} (h1:Ls e6 w Q v1 p) :
  Calls Zp 102 #[v0,v1] w fun f l=>∃g:Bool,f = .returned (.bool g)/\Md [] w l/\qI b p=g:=by
 have o:=e.dD;have r:=h1.dD;have d:=Md.refl [] w;have H:=h;refine enter (n:=18) Tryz.func102 q q q fun m=>ns (an q (nm q (sL q fU e.di (mv q (sL q fU h1.di (st _ (LF (a:=b.length) (b:=p.length) q q) (mv q ?_)))))));refine bW (t:=10) q (fun c=>?_) (fun c=>?_)
 ·have C:=dT c;refine sg c (aM q) (sg c (aM q) (sg c (jx q fU h1.di) (sg c (fG 1 0 p.length fU o7 q e.di Xx Xx q ⟨_,q⟩) ?_)));have j:=e.head (hi:=p.length) Xx;refine sg c (aM q) (fK q q q c ai7 q (EK h j h1) ?_);rintro f s ⟨D,rfl,G,i⟩;refine rv ?_;have d:=d.k G;refine st _ (bf q c q) (ar q ?_);exact bP (v:=(.bool D)) trivial q ⟨q,tV⟩ ⟨D,q,d,(by rw[qI]<;>simp(disch:=first|omega|assumption|simp) only [SS,reduceIte,C,i])⟩
 have C:=dF c;refine sk c (sk c (sk c (sk c (sk c (sk c (st _ (aZ q c q) (ar q ?_)))))));exact bP (v:=(.bool false)) trivial q ⟨q,tV⟩ ⟨false,q,d,(by rw[qI]<;>simp(disch:=first|omega|assumption|simp) only [SS,reduceIte,C])⟩
theorem Rf (j:Up w Q) (h:bI) (g:bI.ok h) :
  Calls Zp 60 #[.agg (bI.cells h).toArray] w fun l m=>∃f:Nat,∃i:Bool,l = .returned (.tuple #[(.int .u64 f),(.bool i)])/\Md [] w m/\f<18446744073709551616/\pJ h=(f,i):=by
 have c:=Md.refl [] w;have s:=j;refine enter (n:=15) Tryz.func60 q q q fun o=>ns (dR (cs:=(bI.cells h)) q q ?_);intro G x C r H e;have p:=j _ C;have C:=lv c.size C;have c:=c.k H;refine cu q (an q (ns (sf q nZ (sl (u:=(.int .u64 ((h.n.getD 0 0:Nat):Int))) q bh e q ?_))));have t:h.n.getD 0 0<18446744073709551616:=(gq g.2.2.2.2.2.2.2.1 0);refine sf q GC (sl (u:=(.int .u64 ((h.n.getD 1 0:Nat):Int))) q bh e q ?_);have v:h.n.getD 1 0<18446744073709551616:=(gq g.2.2.2.2.2.2.2.1 1);refine st _ (sJ (a:=(h.n.getD 0 0)) (b:=(h.n.getD 1 0)) 18446744073709551616 q q q q) (an q (aD (nm q (sf q nZ (sl (u:=(.int .u64 ((h.n.getD 0 0:Nat):Int))) q bh e q (st _ (dN (a:=(((h.n.getD 0 0)+(h.n.getD 1 0))%18446744073709551616)) (b:=(h.n.getD 0 0)) q q) (nt ?_)))))));refine bJ q (fun D=>?_) (fun D=>?_)
 ·have d:=dT D;refine ns (cu q (ar q (aI ?_)));exact dB (vs:=[(.int .u64 ((0:Nat):Int)),(.bool false)]) trivial q Fz q ⟨0,false,q,c,Xx,(by rw[pJ]<;>simp(disch:=first|omega|assumption|simp) only [SS,reduceIte,d])⟩
 have d:=dF D;refine aL (aj (nm q (cu q (ar q ?_))));exact dB (vs:=[(.int .u64 ((((h.n.getD 0 0)+(h.n.getD 1 0))%18446744073709551616:Nat):Int)),(.bool true)]) trivial q Fz q ⟨((h.n.getD 0 0)+(h.n.getD 1 0))%18446744073709551616,true,q,c,Xx,(by rw[pJ]<;>simp(disch:=first|omega|assumption|simp) only [SS,reduceIte,d])⟩
theorem EM (y:Up w Q) (h:bI) (z:bI.ok h) (p:Nat) (L:p<18446744073709551616) (size:Nat) (M:size<18446744073709551616) (e:Nat) (N:e<18446744073709551616) :
  Calls Zp 104 #[.agg (bI.cells h).toArray,(.int .u64 p),(.int .u64 size),(.int .u64 e)] w fun A B=>∃x:Nat,A = .returned (.int .i64 x)/\Md [] w B/\x<9223372036854775808/\k9 h p size e=x:=by
 have f:=Md.refl [] w;have I:=y;refine enter (n:=45) Tryz.func104 q q q fun E=>ns (dR (cs:=(bI.cells h)) q q ?_);intro F K o W V R;have T:=y _ o;have o:=lv f.size o;have f:=f.k V;refine an q (aD (aS (nm q (st _ (pV (a:=p) (b:=8) q q Xx) (st _ (eT (a:=(p%8)) (b:=0) q q) (cu q (nt ?_)))))));refine bJ q (fun s=>?_) (fun s=>?_)
 ·have g:=dT s;refine ns (ar q (aV (aI ?_)));exact bP (v:=(.int .i64 ((3:Nat):Int))) trivial q ⟨q,tV⟩ ⟨3,q,f,Xx,(by rw[k9]<;>simp(disch:=first|omega|assumption|simp) only [SS,reduceIte,g])⟩
 have g:=dF s;refine nm q (st _ (iR (a:=size) (b:=0) q q) (mv q ?_));refine bW (t:=16) q (fun d=>?_) (fun d=>?_)
 ·have D:=dT d;refine sk d (sk d (sk d (st _ (bf q d q) (an q (gK q q (ns (ar q (aV (aI ?_)))))))));exact bP (v:=(.int .i64 ((5:Nat):Int))) trivial q ⟨q,tV⟩ ⟨5,q,f,Xx,(by rw[k9]<;>simp(disch:=first|omega|assumption|simp) only [SS,reduceIte,g,D])⟩
 have D:=dF d;refine sg d (aM q) (sg d (pV (a:=size) (b:=16) q q Xx) (sg d (eT (a:=(size%16)) (b:=0) q q) (st _ (aZ q d q) (an q ?_))));refine bJ q (fun r=>?_) (fun r=>?_)
 ·have i:=dT r;refine ns (ar q (aV (aI ?_)));exact bP (v:=(.int .i64 ((5:Nat):Int))) trivial q ⟨q,tV⟩ ⟨5,q,f,Xx,(by rw[k9]<;>simp(disch:=first|omega|assumption|simp) only [SS,reduceIte,g,D,i])⟩
 have i:=dF r;refine nm q (sf q nZ (sl (u:=(.int .u64 ((h.n.getD 0 0:Nat):Int))) q bh R q ?_));have J:h.n.getD 0 0<18446744073709551616:=(gq z.2.2.2.2.2.2.2.1 0);refine st _ (dN (a:=p) (b:=(h.n.getD 0 0)) q q) (mv q ?_);refine bW (t:=26) q (fun c=>?_) (fun c=>?_)
 ·have H:=dT c;refine sk c (sk c (sk c (sk c (sk c (st _ (bf q c q) (mv q (sk q (sk q (sk q (st _ (bf q q q) (mv q (sk q (sk q ?_)))))))))))));refine sk q (sk q (sk q (st _ (bf q q q) (an q (gK q q (ns (ar q (aV (aI ?_)))))))));exact bP (v:=(.int .i64 ((2:Nat):Int))) trivial q ⟨q,tV⟩ ⟨2,q,f,Xx,(by rw[k9]<;>simp(disch:=first|omega|assumption|simp) only [SS,reduceIte,g,D,i,H])⟩
 have H:=dF c;refine sg c (aM q) (sg c (aJ q nZ) (sg c ((aF q bh R q).to (b:=(.int .u64 ((h.n.getD 0 0:Nat):Int))) q) (sg c (ri (a:=p) (b:=(h.n.getD 0 0)) 18446744073709551616 q q q Xx) (sg c (dN (a:=(p-(h.n.getD 0 0))) (b:=16) q q) (st _ (aZ q c q) (mv q ?_))))));refine bW (t:=33) q (fun G=>?_) (fun G=>?_)
 ·have j:=dT G;refine sk G (sk G (sk G (st _ (bf q G q) (mv q (sk q (sk q (sk q (sk q (sk q (st _ (bf q q q) (an q (gK q q ?_))))))))))));refine ns (ar q (aV (aI ?_)));exact bP (v:=(.int .i64 ((2:Nat):Int))) trivial q ⟨q,tV⟩ ⟨2,q,f,Xx,(by rw[k9]<;>simp(disch:=first|omega|assumption|simp) only [SS,reduceIte,g,D,i,H,j])⟩
 have j:=dF G;refine sg G (aM q) (sg G (aM q) (sg G (kI (a:=p) (b:=e) q q) (st _ (aZ q G q) (mv q ?_))));refine bW (t:=38) q (fun C=>?_) (fun C=>?_)
 ·have l:=dT C;refine sk C (sk C (sk C (sk C (sk C (st _ (bf q C q) (an q (gK q q (ns (ar q (aV ?_))))))))));refine aI ?_;exact bP (v:=(.int .i64 ((2:Nat):Int))) trivial q ⟨q,tV⟩ ⟨2,q,f,Xx,(by rw[k9]<;>simp(disch:=first|omega|assumption|simp) only [SS,reduceIte,g,D,i,H,j,l])⟩
 have l:=dF C;refine sg C (aM q) (sg C (aM q) (sg C (aM q) (sg C (ri (a:=e) (b:=p) 18446744073709551616 q q q Xx) (sg C (kI (a:=size) (b:=(e-p)) q q) (st _ (aZ q C q) (an q ?_))))));refine bJ q (fun P=>?_) (fun P=>?_)
 ·have m:=dT P;refine ns (ar q (aV (aI ?_)));exact bP (v:=(.int .i64 ((2:Nat):Int))) trivial q ⟨q,tV⟩ ⟨2,q,f,Xx,(by rw[k9]<;>simp(disch:=first|omega|assumption|simp) only [SS,reduceIte,g,D,i,H,j,l,m])⟩
 have m:=dF P;refine aL (bE (aj (ns (ar q ?_))));exact bP (v:=(.int .i64 ((0:Nat):Int))) trivial q ⟨q,tV⟩ ⟨0,q,f,Xx,(by rw[k9]<;>simp(disch:=first|omega|assumption|simp) only [SS,reduceIte,g,D,i,H,j,l,m])⟩
theorem js:wT Zp 5 1 1=true:=Xw
theorem akP:cA Zp 102=true:=Xw
theorem akQ:cA Zp 103=true:=Xw
theorem ai4:cA Zp 104=true:=Xw
theorem alH:cA Zp 60=true:=Xw
theorem V2 (z:Up w Q) {v0:Value} {l:Ly} (e:Ls e6 w Q v0 l) (ab:l.length<=140737488355328) :
  Calls Zp 61 #[v0] w fun X j=>∃y:Value,∃v:List UInt8,∃u:Nat->Prop,X = .returned (y)/\Md [] w j/\oZ w j Q u/\Ow e6 5 (bw [] w) j u y v/\l=v:=by
 obtain⟨a,d,T,R,V⟩:∃a d,v0 = .slice a l.length d/\l.length<=d/\(a=none->l=[]):=by obtain⟨a,d,aa,U,I,k,J,_⟩:=e;exact⟨a,d,U,I,fun h=>List.eq_nil_of_length_eq_zero (by have:=J h;omega)⟩
 refine enter (n:=8) Tryz.func61 q q q fun Y=>ns (an q (aD (nm q (st (.bool a.isNone) (by exact ZN (a:=a) (m:=l.length) (c:=d) (by rw[<- T];rfl) fU) (nt ?_)))));refine bJ q (fun H=>?_) (fun H=>?_)
 ·have L:l=[]:=V (Option.isNone_iff_eq_none.1 H);refine ns (ar q (aI ?_));exact gX trivial q q ⟨_,[],Q,q,Md.refl [] w,⟨fun x h _=>h,fun x h=>h,z⟩,Ow.nil _ _ _ _ _,L⟩
 refine aL ?_;refine aj (ns (gJ fU js ?_));intro b i D W C K;obtain⟨E,t,O,M,f⟩:=j5 z D W C;have P:Ow e6 5 (bw [] w) i E (.slice (some ⟨b,0,none⟩) 0 0) []:=Ow.cF (m:=0) K q q (by simp[maxLen]) (.inr D) M;have e:=(e.sub t).o C;refine mv q (uD (sz:=1) q fU js q q P e.lz f (bw.new C) Ym Ym ?_);intro p r F N S g A B o _ Z;refine ar q ?_;exact gX trivial q q ⟨_,_,F,q,C.dY B D,⟨Sx N t C.size,fun x G=>O x (S x G),g⟩,A,by simp⟩
theorem vE (e:Up w Q) {v0:Value} {l:Ly} (f:Ls e6 w Q v0 l) (g:l.length<=140737488355328) :
  Calls Zp 61 #[v0] w fun d c=>∃b:Value,∃a:List UInt8,d = .returned (b)/\Md [] w c/\Ls e6 c Q b a/\l=a :=
 (V2 e f g).mono fun d c ⟨b,a,Q2,he,hm,kq,k0,hF⟩=>⟨b,a,he,hm,k0.ls kq.2.1 (bw.up e),hF⟩
abbrev ny:bI:={gF:=0,bM:=0,state:=0,bZ:=o8,dG:=o8,bC:=o8,seq:=o8,n:=(List.replicate 21 0),cM:=0,dh:=0,dJ:=0}
set_option maxHeartbeats 4000000 in
theorem aa1 (m:Up w Q) {v0:Value} {b:Ly} (B:Ls e6 w Q v0 b) :
  Calls Zp 59 #[v0] w fun M aT=>∃al:bI,∃am:Nat,M = .returned (.tuple #[.agg (bI.cells al).toArray,(.int .i64 am)])/\Md [] w aT/\bI.ok al/\am<9223372036854775808/\jE b=(al,am):=by
 have bB:=B.dD;have d:=Md.refl [] w;have bm:=m;refine enter (n:=90) Tryz.func59 q q q fun a7=>ns (bF tq ?_);intro v bD i aO e C;obtain⟨bC,r,S,aX,V⟩:=j5 m i aO e;have i:=lv d.size i;have B:=(B.sub r).o e;have d:=d.k e;have m:=V;have G:bw [] w v:=.inr i;have a4:bI.ok (ny):=(by exact⟨Xy,Xy,Xy,q,q,q,q,(mK _),Xy,Xy,Xy⟩);refine an q (aD (aS (nm q (sL q fU B.di (st _ (dN (a:=b.length) (b:=272) q q) (cu q (nt ?_)))))));refine bJ q (fun ak=>?_) (fun ak=>?_)
 ·have R:=dT ak;refine ns (st _ (bN (us:=[]) (cs:=(bI.cells (ny))) [] tq sZ q q trivial trivial q q) (aK (us:=(bI.cells (ny))) q q (by exact fu) (by exact fun u s=>aU (bI.one) u s) C (lB q) ?_));have A:=C;intro bG e C;have d:=d.step e (hI G);refine ar q (aV (aI ?_));exact dB (vs:=[(.agg (bI.cells (ny)).toArray),(.int .i64 ((22:Nat):Int))]) trivial q ⟨⟨_,q,cw (cs:=(bI.cells (ny))) (by exact fu) C⟩,q,tV⟩ q ⟨(ny),22,q,d,Xh,Xx,(TK R)⟩
 have R:=dF ak;refine nm q (aR [[(b8 76)],[(b8 80)],[(b8 75)],[(b8 83)],[(b8 72)],[(b8 72)],[(b8 82)],[(b8 72)]] fU js Xy Xy q q Fz Fz q Xy ?_);intro ah bH l aH e U;have a5:v≠ah:=(by have:=C.lt;omega);have k:bw [] w ah:=bw.new d _ l;obtain⟨ao,r,S,c,V⟩:=j5 m l aH e;have B:=(B.sub r).o e;obtain⟨C,d⟩:=k2 e C d;have m:=V;refine ZU fU u5 q (show bS _ _ (([76,80,75,83,72,72,82,72]:Ly).map b8) _ from U) (By.cF (show bS _ _ (([76,80,75,83,72,72,82,72]:Ly).map b8) _ from U) q Xy) ?_;intro aW e ap;have au:=U;have O:∀b∈[ah],¬ao b:=(hI c);have B:=B.md e O;have C:=C.md e Zz;have m:=m.md e;have d:=d.step e (hI k);obtain⟨aP,ai,aQ,av⟩:=FN (Q:=ao) ap;have B:=B.sub (fun b ag _=>ai b ag);have m:Up aW aP:=fun b ag=>ai b (m b ag);clear au O ai aQ ap c;refine Rz akP q (aa0 m B av) ?_;rintro M bL ⟨bc,rfl,e,T⟩;obtain⟨B,C,m,d⟩:=k4 e B C m d;refine st _ (gT q) (an q ?_);refine bJ q (fun y=>?_) (fun y=>?_)
 ·have o:=wL y;refine ns (st _ (bN (us:=[]) (cs:=(bI.cells (ny))) [] tq sZ q q trivial trivial q q) (aK (us:=(bI.cells (ny))) q q (by exact fu) (by exact fun u s=>aU (bI.one) u s) C (lB q) ?_));have A:=C;intro bn e C;have d:=d.step e (hI G);refine ar q (aV (aI ?_));exact dB (vs:=[(.agg (bI.cells (ny)).toArray),(.int .i64 ((6:Nat):Int))]) trivial q ⟨⟨_,q,cw (cs:=(bI.cells (ny))) (by exact fu) C⟩,q,tV⟩ q ⟨(ny),6,q,d,Xh,Xx,(GY R (by rw[T];exact o))⟩
 have o:=wK y;refine aL (bE (aj (nm q (Rz akQ q (VI m B Xx) ?_))));rintro M bo ⟨j,rfl,e,D,K⟩;obtain⟨B,C,m,d⟩:=k4 e B C m d;refine bF tq ?_;intro x bp X aq e H;have a6:v≠x:=(by have:=C.lt;omega);obtain⟨aN,r,S,aw,V⟩:=j5 m X aq e;have X:=lv d.size X;have B:=(B.sub r).o e;obtain⟨C,d⟩:=k2 e C d;have m:=V;have ay:bw [] w x:=.inr X;have aY:bI.ok (ny):=(by exact⟨Xy,Xy,Xy,q,q,q,q,(mK _),Xy,Xy,Xy⟩);refine aK (us:=(bI.cells j)) q q (by exact fu) (by exact fun u s=>aU (bI.one) u s) H (lB q) ?_;have aG:=H;intro bq e H;have O:∀b∈[x],¬aN b:=(hI aw)
 have B:=B.md e O;have C:=C.md e Zz;have m:=m.md e;have d:=d.step e (hI ay);refine nt (ns (st _ (bK (bI.cells j) q (by exact fu) H q) (Rz alH q (Rf m j D) ?_)));rintro M br ⟨W,a3,rfl,e,a0,L⟩;obtain⟨B,C,H,m,d⟩:=k5 e B C H m d;refine mv q (se q q (se q q (cu q (an q (aD (aS (ns (sf q GB (sl (u:=(.int .u32 j.bM)) q iF H q ?_)))))))));have bd:j.bM<4294967296:=D.2.1;refine st _ (ab3 (a:=j.bM) (b:=4) 4294967296 q q q q Xx) (st _ (eT (a:=(andNot j.bM 4)) (b:=0) q q) (an q ?_));refine bJ q (fun z=>?_) (fun z=>?_)
 ·have I:=dT z;refine ns (st _ (bN (us:=[]) (cs:=(bI.cells (ny))) [] tq sZ q q trivial trivial q q) (aK (us:=(bI.cells (ny))) q q (by exact fu) (by exact fun u s=>aU (bI.one) u s) C (lB q) ?_));have A:=C;intro bs e C;have d:=d.step e (hI G);refine ar q (aV (aI ?_));exact dB (vs:=[(.agg (bI.cells (ny)).toArray),(.int .i64 ((7:Nat):Int))]) trivial q ⟨⟨_,q,cw (cs:=(bI.cells (ny))) (by exact fu) C⟩,q,tV⟩ q ⟨(ny),7,q,d,Xh,Xx,(ng R T (by simp_all) K (by rw[kW L];rw[if_pos I]) Xy)⟩
 have I:=dF z;refine ns (sf q ae8 (sl (u:=(.int .i64 j.state)) q iE H q ?_));have be:j.state<9223372036854775808:=D.2.2.1;refine st _ (kI (a:=j.state) (b:=2) q q) (an q ?_);refine bJ q (fun Y=>?_) (fun Y=>?_)
 ·have J:=dT Y;refine ns (st _ (bN (us:=[]) (cs:=(bI.cells (ny))) [] tq sZ q q trivial trivial q q) (aK (us:=(bI.cells (ny))) q q (by exact fu) (by exact fun u s=>aU (bI.one) u s) C (lB q) ?_));have A:=C;intro bt e C;have d:=d.step e (hI G);refine ar q (aV (aI ?_));exact dB (vs:=[(.agg (bI.cells (ny)).toArray),(.int .i64 ((8:Nat):Int))]) trivial q ⟨⟨_,q,cw (cs:=(bI.cells (ny))) (by exact fu) C⟩,q,tV⟩ q ⟨(ny),8,q,d,Xh,Xx,(ng R T (by simp_all) K (by rw[kW L];rw[if_neg I,if_pos J]) Xy)⟩
 have J:=dF Y;refine ns (sf q nZ (sl (u:=(.int .u64 ((j.n.getD 0 0:Nat):Int))) q bh H q ?_));have bg:j.n.getD 0 0<18446744073709551616:=(gq D.2.2.2.2.2.2.2.1 0);refine st _ (dN (a:=(j.n.getD 0 0)) (b:=272) q q) (mv q ?_);refine bW (t:=43) q (fun F=>?_) (fun F=>?_)
 ·have aA:=dT F;refine sk F (sk F (sk F (sk F (st _ (bf q F q) (mv q (sk q (sk q (sk q (sk q (st _ (bf q q q) (an q (gK q q ?_))))))))))));refine ns (st _ (bN (us:=[]) (cs:=(bI.cells (ny))) [] tq sZ q q trivial trivial q q) (aK (us:=(bI.cells (ny))) q q (by exact fu) (by exact fun u s=>aU (bI.one) u s) C (lB q) ?_));have A:=C;intro bu e C;have d:=d.step e (hI G);refine ar q (aV (aI ?_));exact dB (vs:=[(.agg (bI.cells (ny)).toArray),(.int .i64 ((5:Nat):Int))]) trivial q ⟨⟨_,q,cw (cs:=(bI.cells (ny))) (by exact fu) C⟩,q,tV⟩ q ⟨(ny),5,q,d,Xh,Xx,(ng R T (by simp_all) K (by rw[kW L];rw[if_neg I,if_neg J,if_pos Xx]) Xy)⟩
 have aA:=dF F;refine sg F (aJ q nZ) (sg F ((aF q bh H q).to (b:=(.int .u64 ((j.n.getD 0 0:Nat):Int))) q) (sg F (pV (a:=(j.n.getD 0 0)) (b:=8) q q Xx) (sg F (eT (a:=((j.n.getD 0 0)%8)) (b:=0) q q) (st _ (aZ q F q) (mv q ?_)))));refine bW (t:=49) q (fun P=>?_) (fun P=>?_)
 ·have aB:=dT P;refine sk P (sk P (sk P (sk P (st _ (bf q P q) (an q (gK q q (ns (st _ (bN (us:=[]) (cs:=(bI.cells (ny))) [] tq sZ q q trivial trivial q q) (aK (us:=(bI.cells (ny))) q q (by exact fu) (by exact fun u s=>aU (bI.one) u s) C (lB q) ?_)))))))));have A:=C;intro bv e C;have d:=d.step e (hI G);refine ar q (aV (aI ?_));exact dB (vs:=[(.agg (bI.cells (ny)).toArray),(.int .i64 ((5:Nat):Int))]) trivial q ⟨⟨_,q,cw (cs:=(bI.cells (ny))) (by exact fu) C⟩,q,tV⟩ q ⟨(ny),5,q,d,Xh,Xx,(ng R T (by simp_all) K (by rw[kW L];rw[if_neg I,if_neg J,if_pos Xx]) Xy)⟩
 have aB:=dF P;refine sg P (aJ q GC) (sg P ((aF q bh H q).to (b:=(.int .u64 ((j.n.getD 1 0:Nat):Int))) q) ?_);have bi:j.n.getD 1 0<18446744073709551616:=(gq D.2.2.2.2.2.2.2.1 1);refine sg P (pV (a:=(j.n.getD 1 0)) (b:=8) q q Xx) (sg P (eT (a:=((j.n.getD 1 0)%8)) (b:=0) q q) (st _ (aZ q P q) (an q ?_)));refine bJ q (fun Z=>?_) (fun Z=>?_)
 ·have az:=dT Z;refine ns (st _ (bN (us:=[]) (cs:=(bI.cells (ny))) [] tq sZ q q trivial trivial q q) (aK (us:=(bI.cells (ny))) q q (by exact fu) (by exact fun u s=>aU (bI.one) u s) C (lB q) ?_));have A:=C;intro bx e C;have d:=d.step e (hI G);refine ar q (aV (aI ?_));exact dB (vs:=[(.agg (bI.cells (ny)).toArray),(.int .i64 ((5:Nat):Int))]) trivial q ⟨⟨_,q,cw (cs:=(bI.cells (ny))) (by exact fu) C⟩,q,tV⟩ q ⟨(ny),5,q,d,Xh,Xx,(ng R T (by simp_all) K (by rw[kW L];rw[if_neg I,if_neg J,if_pos Xx]) Xy)⟩
 have az:=dF Z;refine nm q (st _ (gT q) (mv q ?_));refine bW (t:=59) q (fun E=>?_) (fun E=>?_)
 ·have aE:=wL E;refine sk E (sk E (sk E (sk E (sk E (st _ (bf q E q) (an q (gK q q (ns (st _ (bN (us:=[]) (cs:=(bI.cells (ny))) [] tq sZ q q trivial trivial q q) (aK (us:=(bI.cells (ny))) q q (by exact fu) (by exact fun u s=>aU (bI.one) u s) C (lB q) ?_))))))))));have A:=C;intro bz e C;have d:=d.step e (hI G);refine ar q (aV (aI ?_));exact dB (vs:=[(.agg (bI.cells (ny)).toArray),(.int .i64 ((2:Nat):Int))]) trivial q ⟨⟨_,q,cw (cs:=(bI.cells (ny))) (by exact fu) C⟩,q,tV⟩ q ⟨(ny),2,q,d,Xh,Xx,(ng R T (by simp_all) K (by rw[kW L];rw[if_neg I,if_neg J,if_neg Xx,if_pos (by(left;simp_all))]) Xy)⟩
 have aE:=wK E;refine sg E (aM q) (sg E (aM q) (sg E (jx q fU B.di) (sg E (dK (a:=b.length) 18446744073709551616 q (by rw[u3];rfl) nu q Xx) (sg E (kI (a:=W) (b:=b.length) q q) (st _ (aZ q E q) (an q ?_))))));refine bJ q (fun aa=>?_) (fun aa=>?_)
 ·have aC:=dT aa;refine ns (st _ (bN (us:=[]) (cs:=(bI.cells (ny))) [] tq sZ q q trivial trivial q q) (aK (us:=(bI.cells (ny))) q q (by exact fu) (by exact fun u s=>aU (bI.one) u s) C (lB q) ?_));have A:=C;intro Bx e C;have d:=d.step e (hI G);refine ar q (aV (aI ?_));exact dB (vs:=[(.agg (bI.cells (ny)).toArray),(.int .i64 ((2:Nat):Int))]) trivial q ⟨⟨_,q,cw (cs:=(bI.cells (ny))) (by exact fu) C⟩,q,tV⟩ q ⟨(ny),2,q,d,Xh,Xx,(ng R T (by simp_all) K (by rw[kW L];rw[if_neg I,if_neg J,if_neg Xx,if_pos (by(right;omega))]) Xy)⟩
 have aC:=dF aa;refine aL (bE (aj (aD (ns (st _ (bK (bI.cells j) q (by exact fu) H q) (sf q GD (sl (u:=(.int .u64 ((j.n.getD 2 0:Nat):Int))) q bh H q ?_)))))));have bj:j.n.getD 2 0<18446744073709551616:=(gq D.2.2.2.2.2.2.2.1 2);refine sf q zx (sl (u:=(.int .u64 ((j.n.getD 3 0:Nat):Int))) q bh H q ?_);have bk:j.n.getD 3 0<18446744073709551616:=(gq D.2.2.2.2.2.2.2.1 3);refine mv q (Rz ai4 q (EM m j D (j.n.getD 2 0) Xx (j.n.getD 3 0) Xx W Xx) ?_);rintro M bA ⟨ae,rfl,e,a1,g⟩;obtain⟨C,H,m,d⟩:=k4 e C H m d;refine an q (nm q (st _ (eT (a:=ae) (b:=0) q q) (nt ?_)));refine bJ q (fun ab=>?_) (fun ab=>?_)
 ·have N:=dT ab;refine ns (st _ (bN (us:=[]) (cs:=(bI.cells (ny))) [] tq sZ q q trivial trivial q q) (mv q (aK (us:=(bI.cells (ny))) q q (by exact fu) (by exact fun u s=>aU (bI.one) u s) C (lB q) ?_)));have A:=C;intro a8 e C;have d:=d.step e (hI G);refine ar q (aI ?_);exact dB (vs:=[(.agg (bI.cells (ny)).toArray),(.int .i64 ae)]) trivial q ⟨⟨_,q,cw (cs:=(bI.cells (ny))) (by exact fu) C⟩,q,tV⟩ q ⟨(ny),ae,q,d,Xh,Xh,(ng R T (by simp_all) K (by rw[kW L];rw[if_neg I,if_neg J,if_neg Xx,if_neg (by rintro(h|h)<;>first|omega|simp_all),g,if_pos N]) N)⟩
 have N:=dF ab;refine aL (aj (aD (ns (st _ (bK (bI.cells j) q (by exact fu) H q) (sf q zy (sl (u:=(.int .u64 ((j.n.getD 4 0:Nat):Int))) q bh H q ?_))))));have bl:j.n.getD 4 0<18446744073709551616:=(gq D.2.2.2.2.2.2.2.1 4);refine sf q zA (sl (u:=(.int .u64 ((j.n.getD 5 0:Nat):Int))) q bh H q ?_);have Bk:j.n.getD 5 0<18446744073709551616:=(gq D.2.2.2.2.2.2.2.1 5);refine mv q (Rz ai4 q (EM m j D (j.n.getD 4 0) Xx (j.n.getD 5 0) Xx W Xx) ?_);rintro M a9 ⟨af,rfl,e,a2,p⟩;obtain⟨C,H,d⟩:=k3 e C H d;refine an q (nm q (st _ (eT (a:=af) (b:=0) q q) (nt ?_)));refine bJ q (fun ad=>?_) (fun ad=>?_)
 ·have f:=dT ad;refine ns (st _ (bN (us:=[]) (cs:=(bI.cells (ny))) [] tq sZ q q trivial trivial q q) (mv q (aK (us:=(bI.cells (ny))) q q (by exact fu) (by exact fun u s=>aU (bI.one) u s) C (lB q) ?_)));have A:=C;intro ba e C;have d:=d.step e (hI G);refine ar q (aI ?_);exact dB (vs:=[(.agg (bI.cells (ny)).toArray),(.int .i64 af)]) trivial q ⟨⟨_,q,cw (cs:=(bI.cells (ny))) (by exact fu) C⟩,q,tV⟩ q ⟨(ny),af,q,d,Xh,Xh,(ng R T (by simp_all) K (by rw[kW L];rw[if_neg I,if_neg J,if_neg Xx,if_neg (by rintro(h|h)<;>first|omega|simp_all),g,if_neg N,p]) f)⟩
 have f:=dF ad;refine aL (aj (ns (st _ (bK (bI.cells j) q (by exact fu) H q) (aK (us:=(bI.cells j)) q q (by exact fu) (by exact fun u s=>aU (bI.one) u s) C (lB q) ?_))));have A:=C;intro bb e C;have d:=d.step e (hI G);refine ar q ?_;exact dB (vs:=[(.agg (bI.cells j).toArray),(.int .i64 ((0:Nat):Int))]) trivial q ⟨⟨_,q,cw (cs:=(bI.cells j)) (by exact fu) C⟩,q,tV⟩ q ⟨j,0,q,d,D,Xx,(af7 R T (by simp_all) K (by rw[kW L];rw[if_neg I,if_neg J,if_neg Xx,if_neg (by rintro(h|h)<;>first|omega|simp_all),g,if_neg N,p];simpa using f))⟩
theorem anm:cA Zp 59=true:=Xw
theorem alI:cA Zp 61=true:=Xw
theorem amn:fH Zp 135=some [(0,1),(1,91)]:=Xw
theorem anO:dW Zp 135=some ([.slice none 0 0,.int .u32 0,.int .u32 0,.int .i64 0] ++ (List.replicate 64 (.int .u8 0) ++ (List.replicate 21 (.int .u64 0) ++ ([.int .u32 0,.int .u32 0,.int .u64 0])))):=Xw
theorem ZY (e:Up w Q) {v0:Value} {b:Ly} (j:Ls e6 w Q v0 b) (av:b.length<=140737488355328) :
  Calls Zp 23 #[v0] w fun A s=>∃Z:Value,∃Y:Option (dx),∃O:Nat,A = .returned (.tuple #[Z,(.int .i64 O)])/\Md [] w s/\Po dP 135 s Q Z Y/\O<9223372036854775808/\kG b=(Y,O):=by
 have aq:=j.dD;have d:=Md.refl [] w;have t:=e;have l:∀b,Q b->Q b:=fun _ h=>h;refine enter (n:=28) Tryz.func23 q q q fun ap=>ns (cu q (an q (nm q (Rz anm q (aa1 e j) ?_))));rintro A aw ⟨m,K,rfl,D,P,z,M⟩;obtain⟨j,e,d⟩:=k3 D j e d;refine mv q (se q q (se q q (bF tq ?_)));intro V ay I r D C;obtain⟨aa,B,k,ad,u⟩:=j5 e I r D;have l:=tT l k;have I:=lv d.size I;have j:=(j.sub B).o D;have d:=d.k D;have e:=u;have c:bw [] w V:=.inr I;have y:bI.ok (ny):=(by exact⟨Xy,Xy,Xy,q,q,q,q,(mK _),Xy,Xy,Xy⟩);refine aK (us:=(bI.cells m)) q q (by exact fu) (by exact fun ag ae=>aU (bI.one) ag ae) C (lB q) ?_;have g:=C;intro az D C;have v:∀b∈[V],¬aa b:=(hI ad);have j:=j.md D v;have e:=e.md D;have d:=d.step D (hI c);refine an q (aD (nm q (st _ (eT (a:=K) (b:=0) q q) (nt ?_))));refine bJ q (fun W=>?_) (fun W=>?_)
 ·have H:=dT W;refine nm q (cu q (ar q (aI ?_)));exact dB (vs:=[(.pointer none),(.int .i64 K)]) trivial q Fz q ⟨_,none,K,q,d,q,Xh,(by rw[kG,M,if_pos H])⟩
 have H:=dF W;refine aL (aj (ns (st _ (bK (bI.cells m) q (by exact fu) C q) (Rz alH q (Rf e m P) ?_))));rintro A ah ⟨U,ak,rfl,D,ai,X⟩;obtain⟨j,C,e,d⟩:=k4 D j C e d;refine mv q (se q q (se q q (cu q (an q (aD ?_)))));have S:=C;refine cZ [(0,true),(1,true),(2,true),(4,true),(3,false)] [5,6,7,8] (fun s=>Md [] ah s) mixed Xw ?_;intro aB G;refine⟨G.mono Oy,?_⟩;have o:=G.mono (T:=[]) Oy;have af:jE b=(m,0):=(by rw[M];simp only[Prod.mk.injEq,true_and];omega);have A:=HA af X;refine mo q (mo q (mz (fun s x=>fG 1 0 U fU o7 q j.di Xx Xx q ⟨_,q⟩) ?_));have N:=j.head (hi:=U) Xx;refine mz (fun s x=>bK (bI.cells m) q (by exact fu) (S.o x) q) ?_;obtain⟨C,N,e,d⟩:=k4 G C N e d;refine mM ?_ rfl;refine Rz alI q (vE e N Zq) ?_;rintro A aC ⟨J,L,rfl,D,E,am⟩;obtain⟨C,e,d,o⟩:=k4 D C e d o;refine aA ⟨q,o,?_⟩;refine dH ?_;refine st _ (bN (us:=[[J],(bI.cells m)]) (cs:=(dx.cells (({b:=L,h:=m}:dx)) J)) [(0,0,1),(1,1,91)] anO amn q q ⟨(dM E.bA),q,tV⟩ Fz q q) (dR (cs:=(dx.cells (({b:=L,h:=m}:dx)) J)) q q ?_);intro R ao F i D f;have au:V≠R:=(by have:=C.lt;omega);obtain⟨al,B,k,p,u⟩:=j5 e F i D
 have l:=tT l k;have F:=lv d.size F;have E:=(E.sub B).o D;have d:=d.k D;have e:=u;refine cu q (ar q ?_);exact dB (vs:=[(.pointer (some ⟨R,0,none⟩)),(.int .i64 ((0:Nat):Int))]) trivial q Fz q ⟨_,(some (({b:=L,h:=m}:dx))),0,q,d,⟨_,_,q,t _ F,f,dz Xh (E.sub (fun b ab _=>l b ab))⟩,Xx,(by rw[kG,M,if_neg H,X];simp_all)⟩
theorem oA:fI Zp 185 2=true:=Xw
theorem jf:fI Zp 267 3=true:=Xw
theorem eV:gy Zp 46 1=true:=Xw
theorem jC:wT Zp 46 1 8=true:=Xw
theorem adx:cA Zp 164=true:=Xw
theorem ady:cA Zp 165=true:=Xw
theorem aiF:cA Zp 174=true:=Xw
theorem xN:aN Zp 267 0=some 0:=Xw
theorem afh:aN Zp 267 1=some 1:=Xw
theorem oe:aN Zp 267 2=some 2:=Xw
theorem aiQ:fH Zp 185=some [(0,1),(1,1)]:=Xw
theorem xV:fH Zp 267=some [(0,1),(1,1),(2,1)]:=Xw
theorem kC:Zp.underlying 65=some (.slice 46):=Xw
theorem XU:dW Zp 185=some [.int .u64 0,.slice none 0 0]:=Xw
theorem zP:dW Zp 267=some [.int .i64 0,.int .i64 0,.int .u64 0]:=Xw
abbrev qT:jR:={kind:=0,flags:=0,size:=0}
theorem KS (F:Up w Q) {v0:Value} {b:Ly} (s:Ls e6 w Q v0 b) (p:Nat) (bc:p<18446744073709551616) :
  Calls Zp 174 #[v0,(.int .u64 p)] w fun ah E=>∃ab:jR,∃ad:Nat,ah = .returned (.tuple #[.agg (jR.cells ab).toArray,(.int .i64 ad)])/\Md [] w E/\jR.ok ab/\ad<9223372036854775808/\dr b p=(ab,ad):=by
 have ba:=s.dD;have e:=Md.refl [] w;have aN:=F;refine enter (n:=78) Tryz.func174 q q q fun a3=>ns (bF zP ?_);intro af aC U az D d;obtain⟨bb,O,ae,aY,N⟩:=j5 F U az D;have U:=lv e.size U;have s:=(s.sub O).o D;have e:=e.k D;have F:=N;have I:bw [] w af:=.inr U;have aE:jR.ok (qT):=(by exact⟨Xy,Xy,Xy⟩);refine an q (nm q (sL q fU s.di (st _ (dK (a:=b.length) 18446744073709551616 q (by rw[u3];rfl) nu q Xx) (cu q (nt (aD (aS (ns (mv q (st _ (pV (a:=p) (b:=8) q q Xx) (st _ (eT (a:=(p%8)) (b:=0) q q) ?_)))))))))));refine an q ?_;refine bJ q (fun aa=>?_) (fun aa=>?_)
 ·have G:=dT aa;refine ns (st _ (bN (us:=[]) (cs:=(jR.cells (qT))) [] zP xV q q trivial trivial q q) (aK (us:=(jR.cells (qT))) q q (by exact jf) (by exact fun u m=>aU (jR.one) u m) d (lB q) ?_));have C:=d;intro be D d;have e:=e.step D (hI I);refine ar q (aV (aI ?_));exact dB (vs:=[(.agg (jR.cells (qT)).toArray),(.int .i64 ((3:Nat):Int))]) trivial q ⟨⟨_,q,cw (cs:=(jR.cells (qT))) (by exact jf) d⟩,q,tV⟩ q ⟨(qT),3,q,e,Xh,Xx,(ad7 G)⟩
 have G:=dF aa;refine ns (m2 q q (st _ (kI (a:=p) (b:=b.length) q q) (mv q ?_)));refine bW (t:=20) q (fun A=>?_) (fun A=>?_)
 ·have al:=dT A;refine sk A (sk A (sk A (sk A (st _ (bf q A q) (an q (gK q q (ns (st _ (bN (us:=[]) (cs:=(jR.cells (qT))) [] zP xV q q trivial trivial q q) (aK (us:=(jR.cells (qT))) q q (by exact jf) (by exact fun u m=>aU (jR.one) u m) d (lB q) ?_)))))))));have C:=d;intro bi D d;have e:=e.step D (hI I);refine ar q (aV (aI ?_));exact dB (vs:=[(.agg (jR.cells (qT)).toArray),(.int .i64 ((2:Nat):Int))]) trivial q ⟨⟨_,q,cw (cs:=(jR.cells (qT))) (by exact jf) d⟩,q,tV⟩ q ⟨(qT),2,q,e,Xh,Xx,(QY G Xx)⟩
 have al:=dF A;refine sg A (aM q) (sg A (aM q) (sg A (ri (a:=b.length) (b:=p) 18446744073709551616 q q q Xx) (sg A (dN (a:=(b.length-p)) (b:=16) q q) (st _ (aZ q A q) (an q ?_)))));refine bJ q (fun k=>?_) (fun k=>?_)
 ·have ak:=dT k;refine ns (st _ (bN (us:=[]) (cs:=(jR.cells (qT))) [] zP xV q q trivial trivial q q) (aK (us:=(jR.cells (qT))) q q (by exact jf) (by exact fun u m=>aU (jR.one) u m) d (lB q) ?_));have C:=d;intro bj D d;have e:=e.step D (hI I);refine ar q (aV (aI ?_));exact dB (vs:=[(.agg (jR.cells (qT)).toArray),(.int .i64 ((2:Nat):Int))]) trivial q ⟨⟨_,q,cw (cs:=(jR.cells (qT))) (by exact jf) d⟩,q,tV⟩ q ⟨(qT),2,q,e,Xh,Xx,(QY G Xx)⟩
 have ak:=dF k;refine aL (bE (aj (ns (m2 q q (st _ (ri (a:=b.length) (b:=p) 18446744073709551616 q q q Xx) (an q (aD ?_)))))));have W:=s;refine cZ [(0,true),(1,true),(2,true),(3,true),(4,true),(5,true),(6,true),(7,true),(8,true),(9,true),(10,true),(11,true),(12,false)] [13] (fun E=>Md [] aC E) mixed Xw ?_;intro bk Y;refine⟨Y.mono Oy,?_⟩;have M:=Y.mono (T:=[]) Oy;refine mo q (mo q (mz (fun E f=>bg (i:=p) 1 q q fU o7 s.di Xx) ?_));obtain⟨g,R⟩:=dZ (l:=b) (i:=p) Xx;obtain⟨bd,ay,X⟩:=W.get R;obtain⟨rfl,_⟩:=ay;have a9:=UInt8.toNat_lt g;have X:At _ v0 (p*1) [(b8 g)]:=X;refine mz (fun E f=>(bO (kk:=p*1) 0 q q zC (X.o f) q).to (b:=(b8 g)) q) (mz (fun E f=>dK (a:=g.toNat) 9223372036854775808 q (by rw[u5];rfl) u3 q (lj (UInt8.toNat_lt _) Xy)) (mo q (mo q (mz (fun E f=>iG (a:=p) (b:=1) 18446744073709551616 q q q Xx) (mz (fun E f=>bg (i:=p+1) 1 q q fU o7 s.di Xx) ?_)))));obtain⟨P,K⟩:=dZ (l:=b) (i:=p+1) Xx;obtain⟨aH,av,S⟩:=W.get K;obtain⟨rfl,_⟩:=av;have aG:=UInt8.toNat_lt P;have S:At _ v0 ((p+1)*1) [(b8 P)]:=S;refine mz (fun E f=>(bO (kk:=(p+1)*1) 0 q q zC (S.o f) q).to (b:=(b8 P)) q) (mz (fun E f=>dK (a:=P.toNat) 9223372036854775808 q (by rw[u5];rfl) u3 q (lj (UInt8.toNat_lt _) Xy)) (mz (fun E f=>bN (us:=[[(.int .i64 g.toNat)],[(.int .i64 P.toNat)]]) (cs:=(jR.cells (({kind:=g.toNat,flags:=P.toNat,size:=0}:jR)))) [(0,0,1),(1,1,1)] zP xV q q Fz Fz q q) ?_))
 obtain⟨s,d,F,e⟩:=k4 Y s d F e;refine mM ?_ rfl;refine bF zP ?_;intro h aO V aB D j;have aX:=lv M.size V;have aW:af≠h:=(by have:=d.lt;omega);obtain⟨aw,O,ae,z,N⟩:=j5 F V aB D;have V:=lv e.size V;have s:=(s.sub O).o D;obtain⟨d,e,M⟩:=k3 D d e M;have F:=N;have ag:bw [] w h:=.inr V;have a0:jR.ok (qT):=(by exact⟨Xy,Xy,Xy⟩);refine aA ⟨q,M,?_⟩;refine dH ?_;refine aK (us:=(jR.cells (({kind:=g.toNat,flags:=P.toNat,size:=0}:jR)))) q q (by exact jf) (by exact fun u m=>aU (jR.one) u m) j (lB q) ?_;have Z:=j;intro aP D j;have ai:∀b∈[h],¬aw b:=(hI z);have s:=s.md D ai;have d:=d.md D Zz;have F:=F.md D;have e:=e.step D (hI ag);refine aA ?_;refine aj (ns (m2 q q (st _ (dK (a:=p) 9223372036854775808 q (by rw[nu];rfl) u3 q Xx) (st _ (rA (a:=p) (b:=8) q q Xx) (Rz rC q (pB F s (((p+8:Nat):Int)) Xx (8) Xx) ?_)))));rintro ah aQ ⟨c,a2,rfl,D,a1,L⟩;obtain⟨d,j,e⟩:=k3 D d j e;refine mv q (se q q (se q q ?_));refine sf q oe (bn q q bh q j (lB q) ?_);have Z:=j;intro aR D j;have d:=d.md D Zz;have e:=e.step D (hI ag);obtain⟨H,J⟩:∃y,y=({({kind:=g.toNat,flags:=P.toNat,size:=0}:jR)with size:=c}:jR):=⟨_,q⟩;have j:bS _ _ (jR.cells ({({kind:=g.toNat,flags:=P.toNat,size:=0}:jR)with size:=c})) _:=j;rw[<- J]at j;refine nt (aD (aS (ns (sf q xN (sl (u:=(.int .i64 H.kind)) q iE j q (st _ (dN (a:=H.kind) (b:=1) q q) (mv q ?_)))))));refine bW (t:=55) q (fun B=>?_) (fun B=>?_)
 ·have ao:=dT B;refine sk B (sk B (sk B (st _ (bf q B q) (an q (gK q q (ns (st _ (bN (us:=[]) (cs:=(jR.cells (qT))) [] zP xV q q trivial trivial q q) (aK (us:=(jR.cells (qT))) q q (by exact jf) (by exact fun u m=>aU (jR.one) u m) d (lB q) ?_))))))));have C:=d;intro aT D d;have e:=e.step D (hI I);refine ar q (aV (aI ?_));exact dB (vs:=[(.agg (jR.cells (qT)).toArray),(.int .i64 ((4:Nat):Int))]) trivial q ⟨⟨_,q,cw (cs:=(jR.cells (qT))) (by exact jf) d⟩,q,tV⟩ q ⟨(qT),4,q,e,Xh,Xx,(by rw[rE J G Xx (jm R) (jm K) (tE L q Xx),if_pos Xx];rfl)⟩
 have ao:=dF B;refine sg B (aJ q xN) (sg B ((aF q iE j q).to (b:=(.int .i64 H.kind)) q) (sg B (kI (a:=H.kind) (b:=7) q q) (st _ (aZ q B q) (an q ?_))));refine bJ q (fun o=>?_) (fun o=>?_)
 ·have am:=dT o;refine ns (st _ (bN (us:=[]) (cs:=(jR.cells (qT))) [] zP xV q q trivial trivial q q) (aK (us:=(jR.cells (qT))) q q (by exact jf) (by exact fun u m=>aU (jR.one) u m) d (lB q) ?_));have C:=d;intro a4 D d;have e:=e.step D (hI I);refine ar q (aV (aI ?_));exact dB (vs:=[(.agg (jR.cells (qT)).toArray),(.int .i64 ((4:Nat):Int))]) trivial q ⟨⟨_,q,cw (cs:=(jR.cells (qT))) (by exact jf) d⟩,q,tV⟩ q ⟨(qT),4,q,e,Xh,Xx,(by rw[rE J G Xx (jm R) (jm K) (tE L q Xx),if_pos Xx];rfl)⟩
 have am:=dF o;refine ns (sf q afh (sl (u:=(.int .i64 H.flags)) q iE j q (st _ (eT (a:=H.flags) (b:=0) q q) (an q ?_))));refine bJ q (fun r=>?_) (fun r=>?_)
 ·have ap:=dT r;refine ns (st _ (bN (us:=[]) (cs:=(jR.cells (qT))) [] zP xV q q trivial trivial q q) (aK (us:=(jR.cells (qT))) q q (by exact jf) (by exact fun u m=>aU (jR.one) u m) d (lB q) ?_));have C:=d;intro a5 D d;have e:=e.step D (hI I);refine ar q (aV (aI ?_));exact dB (vs:=[(.agg (jR.cells (qT)).toArray),(.int .i64 ((7:Nat):Int))]) trivial q ⟨⟨_,q,cw (cs:=(jR.cells (qT))) (by exact jf) d⟩,q,tV⟩ q ⟨(qT),7,q,e,Xh,Xx,(by rw[rE J G Xx (jm R) (jm K) (tE L q Xx),if_neg Xx,if_pos Xx];rfl)⟩
 have ap:=dF r;refine ns (sf q oe (sl (u:=(.int .u64 H.size)) q bh j q (st _ (dN (a:=H.size) (b:=16) q q) (an q ?_))));refine bJ q (fun v=>?_) (fun v=>?_)
 ·have aq:=dT v;refine ns (st _ (bN (us:=[]) (cs:=(jR.cells (qT))) [] zP xV q q trivial trivial q q) (aK (us:=(jR.cells (qT))) q q (by exact jf) (by exact fun u m=>aU (jR.one) u m) d (lB q) ?_));have C:=d;intro a6 D d;have e:=e.step D (hI I);refine ar q (aV (aI ?_));exact dB (vs:=[(.agg (jR.cells (qT)).toArray),(.int .i64 ((5:Nat):Int))]) trivial q ⟨⟨_,q,cw (cs:=(jR.cells (qT))) (by exact jf) d⟩,q,tV⟩ q ⟨(qT),5,q,e,Xh,Xx,(by rw[rE J G Xx (jm R) (jm K) (tE L q Xx),if_neg Xx,if_neg Xx,if_pos Xx];rfl)⟩
 have aq:=dF v;refine ns (sf q oe (sl (u:=(.int .u64 H.size)) q bh j q (mv q (st _ (kI (a:=H.size) (b:=(b.length-p)) q q) (an q ?_)))));refine bJ q (fun x=>?_) (fun x=>?_)
 ·have au:=dT x;refine ns (st _ (bN (us:=[]) (cs:=(jR.cells (qT))) [] zP xV q q trivial trivial q q) (aK (us:=(jR.cells (qT))) q q (by exact jf) (by exact fun u m=>aU (jR.one) u m) d (lB q) ?_));have C:=d;intro a7 D d;have e:=e.step D (hI I);refine ar q (aV (aI ?_));exact dB (vs:=[(.agg (jR.cells (qT)).toArray),(.int .i64 ((2:Nat):Int))]) trivial q ⟨⟨_,q,cw (cs:=(jR.cells (qT))) (by exact jf) d⟩,q,tV⟩ q ⟨(qT),2,q,e,Xh,Xx,(by rw[rE J G Xx (jm R) (jm K) (tE L q Xx),if_neg Xx,if_neg Xx,if_neg Xx,if_pos Xx];rfl)⟩
 have au:=dF x;refine aL (bE (aj (ns (st _ (bK (jR.cells H) q (by exact jf) j q) (aK (us:=(jR.cells H)) q q (by exact jf) (by exact fun u m=>aU (jR.one) u m) d (lB q) ?_)))));have C:=d;intro a8 D d;have e:=e.step D (hI I);refine ar q ?_;exact dB (vs:=[(.agg (jR.cells H).toArray),(.int .i64 ((0:Nat):Int))]) trivial q ⟨⟨_,q,cw (cs:=(jR.cells H)) (by exact jf) d⟩,q,tV⟩ q ⟨H,0,q,e,(by exact⟨Xx,Xx,Xx⟩),Xx,(by rw[rE J G Xx (jm R) (jm K) (tE L q Xx),if_neg Xx,if_neg Xx,if_neg Xx,if_neg Xx])⟩
theorem yL (B:Up w Q) {v0:Value} {b:Ly} (j:Ls e6 w Q v0 b) (p:Nat) (af:p<18446744073709551616) (kind:Nat) (ag:kind<9223372036854775808) (ahead:Nat) (ah:ahead<9223372036854775808) (gP:Nat) (a4:gP<9223372036854775808) (ak:ahead<=1000) (al:gP≠0/\gP<=1000) :
  Calls Zp 164 #[v0,(.int .u64 p),(.int .i64 kind),(.int .i64 ahead),(.int .i64 gP)] w fun S Y=>∃X:Value,∃U:List UInt8,∃L:Nat,S = .returned (.tuple #[X,(.int .i64 L)])/\Md [] w Y/\Ls e6 Y Q X U/\L<9223372036854775808/\jA b p kind ahead gP=(U,L):=by
 have o:=j.dD;have e:=Md.refl [] w;have l:=B;have c:∀b,Q b->Q b:=fun _ h=>h;refine enter (n:=56) Tryz.func164 q q q fun ae=>ns (cu q (an q (ns (m2 q q (Rz aiF q (KS B j p Xx) ?_)))));rintro S z ⟨d,I,rfl,m,M,f,A⟩;obtain⟨j,B,e⟩:=k3 m j B e;refine mv q (se q q (se q q (bF zP ?_)));intro R am G aa m D;obtain⟨ad,g,i,Z,N⟩:=j5 B G aa m;have c:=tT c i;have G:=lv e.size G;have j:=(j.sub g).o m;have e:=e.k m;have B:=N;have P:bw [] w R:=.inr G;have ai:jR.ok (qT):=(by exact⟨Xy,Xy,Xy⟩);refine aK (us:=(jR.cells d)) q q (by exact jf) (by exact fun u k=>aU (jR.one) u k) D (lB q) ?_;have V:=D;intro ao m D;have O:∀b∈[R],¬ad b:=(hI Z);have j:=j.md m O;have e:=e.step m (hI P);refine an q (nm q (st _ (rA (a:=16) (b:=ahead) q q Xx) (st _ (dK (a:=16+ahead) 18446744073709551616 q (by rw[u3];rfl) nu q Xx) (cu q (nt (aD (aS ?_)))))));refine nm q (st _ (eT (a:=I) (b:=0) q q) (an q ?_));refine bJ q (fun J=>?_) (fun J=>?_)
 ·have s:=dT J;refine nm q (cu q (ar q (aV (aI ?_))));exact dB (vs:=[SN,(.int .i64 I)]) trivial q Fz q ⟨_,[],I,q,e,(Ls.nil _ _ _),Xh,(by rw[jA]<;>simp(disch:=first|omega|assumption|simp) only [SS,reduceIte,A,s])⟩
 have s:=dF J;refine ns (sf q xN (sl (u:=(.int .i64 d.kind)) q iE D q ?_));have v:d.kind<9223372036854775808:=M.1;refine mv q (st _ (eT (a:=d.kind) (b:=kind) q q) (an q ?_));refine bJ q (fun T=>?_) (fun T=>?_)
 ·have E:=dT T;refine ns (cu q (ar q (aV (aI ?_))));exact dB (vs:=[SN,(.int .i64 ((4:Nat):Int))]) trivial q Fz q ⟨_,[],4,q,e,(Ls.nil _ _ _),Xx,(by rw[jA]<;>simp(disch:=first|omega|assumption|simp) only [SS,reduceIte,A,s,E])⟩
 have E:=dF T;refine ns (sf q oe (sl (u:=(.int .u64 d.size)) q bh D q ?_));have x:d.size<18446744073709551616:=M.2.2;refine mv q (st _ (LG (a:=d.size) (b:=(16+ahead)) q q) (mv q ?_));refine bW (t:=38) q (fun C=>?_) (fun C=>?_)
 ·have H:=dT C;refine sk C (sk C (sk C (sk C (sk C (sk C (sk C (sk C (st _ (bf q C q) (an q (gK q q (ns (cu q ?_))))))))))));refine ar q (aV (aI ?_));exact dB (vs:=[SN,(.int .i64 ((5:Nat):Int))]) trivial q Fz q ⟨_,[],5,q,e,(Ls.nil _ _ _),Xx,(by rw[jA]<;>simp(disch:=first|omega|assumption|simp) only [SS,reduceIte,A,s,E,H])⟩
 have H:=dF C;refine sg C (aJ q oe) (sg C ((aF q bh D q).to (b:=(.int .u64 d.size)) q) (sg C (aM q) (sg C (ri (a:=d.size) (b:=(16+ahead)) 18446744073709551616 q q q Xx) (sg C (aM q) (sg C (dK (a:=gP) 18446744073709551616 q (by rw[u3];rfl) nu q Xx) (sg C (pV (a:=(d.size-(16+ahead))) (b:=gP) q q Xx) ?_))))));have y:(d.size-(16+ahead))%gP<gP:=Nat.mod_lt _ Xx;refine sg C (eT (a:=((d.size-(16+ahead))%gP)) (b:=0) q q) (st _ (aZ q C q) (an q ?_));refine bJ q (fun K=>?_) (fun K=>?_)
 ·have F:=dT K;refine ns (cu q (ar q (aV (aI ?_))));exact dB (vs:=[SN,(.int .i64 ((5:Nat):Int))]) trivial q Fz q ⟨_,[],5,q,e,(Ls.nil _ _ _),Xx,(by rw[jA]<;>simp(disch:=first|omega|assumption|simp) only [SS,reduceIte,A,s,E,H,F])⟩
 have F:=dF K;refine aL (bE (aj (ns ?_)));have r:=qB A s;refine m2 q q (st _ (iG (a:=p) (b:=16) 18446744073709551616 q q q Xx) (mv q (sf q oe (sl (u:=(.int .u64 d.size)) q bh D q (st _ (iG (a:=p) (b:=d.size) 18446744073709551616 q q q Xx) (st _ (fG 1 (p+16) (p+d.size) fU o7 q j.di Xx Xx ⟨_,q⟩ ⟨_,q⟩) ?_))))));have ab:=j.part (p+16) (p+d.size) Xx Xx;refine cu q (ar q ?_);exact dB (vs:=[(mE 1 v0 (p+16) (p+d.size)),(.int .i64 ((0:Nat):Int))]) trivial q Fz q ⟨_,((b.take (p+d.size)).drop (p+16)),0,q,e,(ab.sub (fun b W _=>c b W)),Xx,(by rw[jA]<;>simp(disch:=first|omega|assumption|simp) only [SS,reduceIte,A,s,E,H,F])⟩
theorem DU (d:Up w Q) {v0:Value} {b:Ly} (j:Ls e6 w Q v0 b) (ag:b.length%8=0) (ah:b.length<=140737488355328) :
  Calls Zp 165 #[v0] w fun O A=>∃U:Value,∃S:List Nat,O = .returned (U)/\Md [] w A/\Ls cV A Q U S/\fJ b 0 (b.length/8)=S:=by
 have ai:=j.dD;have e:=Md.refl [] w;have ae:=d;have u:∀b,Q b->Q b:=fun _ h=>h;have D:∀b,Q b->b<w.heap.size->Q b:=fun _ h _=>h;refine enter (n:=24) Tryz.func165 q q q fun X=>ns (an q (ns (cu q (nt (aD (ns (cu q (nt (aS ?_)))))))));refine lI (fun(B:Value) (l:List Nat) (i:Nat)=>[(3,B),(4,(.int .i64 i)),(0,v0)]) (fun(B:Value) (l:List Nat) (i:Nat) A=>∃F:Nat->Prop,(∀b,F b->Q b)/\(∀b,Q b->b<w.heap.size->F b)/\Up A F/\Md [] w A/\Ow cV 46 (bw [] w) A F B l/\Ls e6 A F v0 b/\i%8=0/\i<=b.length/\l=fJ b 0 (i/8)) (fun(B:Value) (l:List Nat) (i:Nat)=>b.length-i) (x0:=SN) (x1:=([]:List Nat)) (x2:=0) ?_ ?_ ?_
 ·exact Fz
 ·exact⟨Q,u,D,d,e,(Ow.nil _ _ _ _ _),j,Xx,Xx,q⟩
 clear e d u D j;rintro B l i X y ⟨p,u,D,d,e,s,j,P,f,J⟩;refine aD (ns (m2 q q (sL q fU j.di (st _ (dN (a:=i) (b:=b.length) q q) (nt ?_)))));refine bJ q (fun H=>?_) (fun H=>?_)
 ·have aa:=dT H;refine aL (aj (aD (aS (ns (m2 q q (Rz rC q (pB d j (((i:Nat):Int)) Xx (8) Xx) ?_))))));rintro O z ⟨G,o,rfl,C,af,V⟩;obtain⟨s,j,d,e⟩:=k4 C s j d e;refine mv q (se q q (se q q (cu q (an q (aG ?_)))));have x:l.length=i/8:=(by rw[J,lp]);refine m2 q q (aR [[(.int .u64 G)]] kC jC Xy Xy q q ⟨q,tV⟩ ⟨q,tV⟩ q Xy ?_);intro c ak Z g C I;have ab:=d _ Z;obtain⟨s,j,d,e⟩:=k4 C s j d e;have I:=Ls.cF (m:=1) (R:=p) (T:=cV) (xs:=[G]) I ⟨_,_,q,⟨q,Xx⟩,q⟩ q Xy ab;refine ez (sz:=1) (by rfl) kC jC q q s I (fun _ h _=>h) d (bw.new e) Zq Zq ?_;intro t al r K k L W C M _ ad;have Y:=s;have u:=tT u k;have D:=Sx K D e.size;have j:=(j.sub K).md C M;have d:=d.md C;have e:=e.cT C (Sy Y);have d:=L;clear L K k M ad;refine cu q (aA (bE (aj (aG (mv q (st _ (rA (a:=i) (b:=8) q q Xx) (an q ?_)))))));refine jD (x0:=t) (x1:=(l ++ ([G]))) (x2:=(i+8)) Xx ⟨q,(dA q Xx),q,tV⟩ ⟨r,u,D,d,e,W,j,Xx,Xx,(SI J P Xx V)⟩
 have aa:=dF H;refine bT (aX (aX (cJ (aj (nm q (ar q ?_))))));exact bP (v:=B) trivial q ⟨q,tV⟩ ⟨_,l,q,e,(s.ls (fun b E=>u b E) (bw.up ae)),(by rw[J,show i=b.length by omega])⟩
theorem wR (m:Up w Q) {v0:Value} {b:Ly} (B:Ls e6 w Q v0 b) (p:Nat) (aq:p<18446744073709551616) (aw:b.length<=140737488355328) :
  Calls Zp 144 #[v0,(.int .u64 p)] w fun N s=>∃aa:Value,∃E:jd,∃O:Nat,N = .returned (.tuple #[.agg (jd.cells E aa).toArray,(.int .i64 O)])/\Md [] w s/\jd.ok E/\Ls cV s Q aa E.aH/\O<9223372036854775808/\jP b p=(E,O):=by
 have ap:=B.dD;have d:=Md.refl [] w;have al:=m;have k:∀b,Q b->Q b:=fun _ h=>h;refine enter (n:=27) Tryz.func144 q q q fun ao=>ns (bF XU ?_);intro Y ay A ag j C;obtain⟨ad,x,y,V,c⟩:=j5 m A ag j;have k:=tT k y;have A:=lv d.size A;have B:=(B.sub x).o j;have d:=d.k j;have m:=c;have X:bw [] w Y:=.inr A;have t:jd.ok (({next:=0,aH:=[]}:jd)):=(by exact(by exact(show(({next:=0,aH:=[]}:jd)).next<18446744073709551616 from Zq)));refine an q (ns (m2 q q (Rz adx q (yL m B p Xx 6 Xx 8 Xx 8 Xx Xx Xx) ?_)));rintro N az ⟨z,ak,J,rfl,j,ae,v,L⟩;obtain⟨C,m,d⟩:=k3 j C m d;refine mv q (se q q (se q q (cu q (an q (aD (nm q (st _ (eT (a:=J) (b:=0) q q) (nt ?_))))))));refine bJ q (fun K=>?_) (fun K=>?_)
 ·have G:=dT K;refine ns (st _ (bN (us:=[]) (cs:=(jd.cells (({next:=0,aH:=[]}:jd)) SN)) [] XU aiQ q q trivial trivial q q) (mv q (aK (us:=(jd.cells (({next:=0,aH:=[]}:jd)) SN)) q q (by exact oA) (by exact fun S g=>aU (jd.one q) S g) C (lB q) ?_)));have F:=C;intro aB j C;have d:=d.step j (hI X);refine ar q (aI ?_);exact dB (vs:=[(.agg (jd.cells (({next:=0,aH:=[]}:jd)) SN).toArray),(.int .i64 J)]) trivial q ⟨⟨_,q,cw (cs:=(jd.cells (({next:=0,aH:=[]}:jd)) SN)) (by exact oA) C⟩,q,tV⟩ q ⟨_,(({next:=0,aH:=[]}:jd)),J,q,d,Xh,(Ls.nil _ _ _),Xh,(WS L G)⟩
 have G:=dF K;refine aL (aj (ns ?_));have au:=tG L (Classical.not_not.1 G);refine mv q (Rz ady q (DU m ae Xx Xx) ?_);rintro N ai ⟨u,e,rfl,j,H,af⟩;obtain⟨C,d⟩:=k2 j C d;refine an q (aD ?_);have ah:=WT L G af;have U:=H;refine cZ (ml 5) [5,6,7] (fun s=>Md [] ai s) mixed Xw ?_;intro aC I;refine⟨I.mono Oy,?_⟩;have ab:=I.mono (T:=[]) Oy;refine mo q (mz (fun s M=>bg (i:=0) 1 q q kC eV H.di Xx) ?_);obtain⟨R,Z⟩:=dZ (l:=e) (i:=0) Xx;obtain⟨av,f,P⟩:=U.get Z;obtain⟨rfl,r⟩:=f;have P:At _ u (0*1) [(.int .u64 R)]:=P;refine mz (fun s M=>(bO (kk:=0*1) 0 q q bh (P.o M) q).to (b:=(.int .u64 R)) q) (mo q (mz (fun s M=>fG 1 1 e.length kC eV q H.di Xx Xx ⟨_,q⟩ q) ?_));have D:=H.tail (lo:=1) Xx;refine dH ?_;obtain⟨C,D,d⟩:=k3 I C D d;refine st _ (bN (us:=[[(.int .u64 R)],[(mE 1 u 1 e.length)]]) (cs:=(jd.cells (({next:=R,aH:=e.drop 1}:jd)) (mE 1 u 1 e.length))) [(0,0,1),(1,1,1)] XU aiQ q q ⟨q,(dM D.bA),tV⟩ Fz q q) (aK (us:=(jd.cells (({next:=R,aH:=e.drop 1}:jd)) (mE 1 u 1 e.length))) q q (by exact oA) (by exact fun S g=>aU (jd.one D.bA) S g) C (lB q) ?_)
 have F:=C;intro am j C;have o:∀b∈[Y],¬ad b:=(hI V);have D:=D.md j o;have d:=d.step j (hI X);refine cu q (aA ?_);refine aj (iI ?_);exact dB (vs:=[(.agg (jd.cells (({next:=R,aH:=e.drop 1}:jd)) (mE 1 u 1 e.length)).toArray),(.int .i64 ((0:Nat):Int))]) trivial q ⟨⟨_,q,cw (cs:=(jd.cells (({next:=R,aH:=e.drop 1}:jd)) (mE 1 u 1 e.length))) (by exact oA) C⟩,q,tV⟩ q ⟨_,(({next:=R,aH:=e.drop 1}:jd)),0,q,d,Xh,(D.sub (fun b W _=>k b W)),Xx,(by rw[ah.2.2,List.getD_eq_getElem?_getD,Z];rfl)⟩
theorem adv:cA Zp 105=true:=Xw
theorem tZ:FW Zp 234=true:=Xw
theorem pQ:aN Zp 135 0=some 0:=Xw
theorem oc:aN Zp 135 1=some 1:=Xw
theorem GP:fH Zp 234=some [(0,1)]:=Xw
theorem z234:dW Zp 234=some [.int .i64 0]:=Xw
theorem HT (h:Up w Q) {v0:Value} {v:dx} (c:Pt dP 135 w Q v0 v) :
  Calls Zp 105 #[v0] w fun g i=>∃d:Nat,g = .returned (.int .u64 d)/\Md [] w i/\d<18446744073709551616/\v.b.length=d:=by
 obtain⟨D,k,rfl,C,c,qL⟩:=c;obtain⟨G,rfl,m,e⟩:=e7 qL;have f:=Md.refl [] w;have l:=h;refine enter (n:=9) Tryz.func105 q q q fun j=>ns (an q (nm q (sn q (sf q pQ (sl (u:=G) q fO c q ?_)))));have H:=e.dD;refine sL q fU e.di (st _ (dK (a:=v.b.length) 18446744073709551616 q (by rw[u3];rfl) nu q Xx) (ar q ?_));exact bP (v:=(.int .u64 v.b.length)) trivial q ⟨q,tV⟩ ⟨v.b.length,q,f,Xx,q⟩
theorem qQ (j:Up w Q) {v0:Value} {v:dx} (f:Pt dP 135 w Q v0 v) (p:Nat) (E:p<18446744073709551616) :
  Calls Zp 143 #[v0,(.int .u64 p)] w fun g l=>(g = .returned (.tuple #[])/\Md [] w l/\qW (v.h.n.getD 0 0) v.b p=0)\/∃e:Nat,g = .panicked (OC (.iface 234 (.agg #[.int .i64 e])))/\(e≠0/\e<9223372036854775808)/\Md [] w l/\qW (v.h.n.getD 0 0) v.b p=e:=by
 obtain⟨y,z,rfl,o,f,qL⟩:=f;obtain⟨B,rfl,i,H⟩:=e7 qL;have d:=Md.refl [] w;have P:=j;refine enter (n:=19) Tryz.func143 q q q fun s=>ns (m2 q q (sn q (sf q oc (sf q nZ (sl (u:=(.int .u64 ((v.h.n.getD 0 0:Nat):Int))) q bh f q ?_)))));have R:v.h.n.getD 0 0<18446744073709551616:=(gq i.2.2.2.2.2.2.2.1 0);refine st _ (dN (a:=p) (b:=(v.h.n.getD 0 0)) q q) (mv q ?_);refine bW (t:=11) q (fun c=>?_) (fun c=>?_)
 ·have D:=dT c;refine sk c (sk c (sk c (sk c (st _ (bf q c q) (nt (gK q q (aG (st _ (bN (us:=[[(.int .i64 ((2:Nat):Int))]]) (cs:=(Stop.cells (({code:=2}:Stop)))) [(0,0,1)] z234 GP q q ⟨q,tV⟩ ⟨q,tV⟩ q q) (st _ (nK tZ q) (qd q ?_))))))))));exact gC (Or.inr ⟨2,q,⟨by omega,by omega⟩,d,(by unfold qW;rw[if_pos Xx])⟩)
 have D:=dF c;refine sg c (aM q) (sg c (aM q) (fK q q q c adv q (HT j ⟨_,_,q,o,f,dz i H⟩) ?_));rintro g T ⟨G,rfl,r,x,A⟩;refine rv ?_;have d:=d.k r;refine sg c (LF (a:=p) (b:=G) q q) (st _ (aZ q c q) (nt ?_));refine bJ q (fun C=>?_) (fun C=>?_)
 ·have m:=dT C;refine aG (st _ (bN (us:=[[(.int .i64 ((2:Nat):Int))]]) (cs:=(Stop.cells (({code:=2}:Stop)))) [(0,0,1)] z234 GP q q ⟨q,tV⟩ ⟨q,tV⟩ q q) (st _ (nK tZ q) (qd q ?_)));exact gC (Or.inr ⟨2,q,⟨by omega,by omega⟩,d,(by unfold qW;rw[if_pos Xx])⟩)
 have m:=dF C;refine aL ?_;exact dB (vs:=[]) trivial q trivial q (Or.inl ⟨q,d,(by unfold qW;rw[if_neg Xx])⟩)
theorem sj (i:Up w Q) (c:Nat) (k:c<9223372036854775808) :
  Calls Zp 145 #[(.int .i64 c)] w fun g h=>(g = .returned (.tuple #[])/\Md [] w h/\c=0)\/∃d:Nat,g = .panicked (OC (.iface 234 (.agg #[.int .i64 d])))/\(d≠0/\d<9223372036854775808)/\Md [] w h/\c=d:=by
 have f:=Md.refl [] w;have D:=i;refine enter (n:=7) Tryz.func145 q q q fun j=>nm q (st _ (eT (a:=c) (b:=0) q q) (nt ?_));refine bJ q (fun e=>?_) (fun e=>?_)
 ·have C:=dT e;refine aG (mv q (st _ (bN (us:=[[(.int .i64 c)]]) (cs:=(Stop.cells (({code:=c}:Stop)))) [(0,0,1)] z234 GP q q ⟨q,tV⟩ ⟨q,tV⟩ q q) (st _ (nK tZ q) (qd q ?_))));exact gC (Or.inr ⟨c,q,⟨by omega,by omega⟩,f,q⟩)
 have C:=dF e;refine aL ?_;exact dB (vs:=[]) trivial q trivial q (Or.inl ⟨q,f,Xx⟩)
theorem WM (g:Up w Q) {v0:Value} {l:Ly} (e:Ls e6 w Q v0 l) (f:l.length<=4611686018427387904) :
  Calls Zp 68 #[v0] w fun b d=>∃c:Pr,∃a:Nat,b = .returned (.tuple #[.agg (Pr.cells c).toArray,(.int .i64 a)])/\Md [] w d/\a<9223372036854775808/\iH l=(c,a):=by
 refine(Xn _ l w e.by f).mono fun b d ⟨he,hm⟩=>⟨(iH l).1,(iH l).2,?_,hm,MB l,q⟩;rw[he,HG l];rfl
theorem j9:fI Zp 32 1=true:=Xw
theorem YE:wT Zp 81 1 24=true:=Xw
theorem anp:cA Zp 68=true:=Xw
theorem anq:cA Zp 69=true:=Xw
theorem WE:fH Zp 32=some [(0,1)]:=Xw
theorem z32:dW Zp 32=some [.slice none 0 0]:=Xw
set_option maxHeartbeats 16000000 in
theorem GV (j:Up w Q) {v0:Value} {l:List (List UInt8)} (A:Ls ir w Q v0 l) (b0:∀s∈l,s.length<=1000000) :
  Calls Zp 29 #[v0] w fun ba Z=>∃bo:Value,∃ap:fM,∃bb:Nat,ba = .returned (.tuple #[.agg (fM.cells ap bo).toArray,(.int .i64 bb)])/\Md [] w Z/\Ls (rq jS) Z Q bo ap.rows/\bb<9223372036854775808/\vM l=(ap,bb):=by
 have ct:=A.dD;have d:=Md.refl [] w;have Bx:=j;have L:∀b,Q b->Q b:=fun _ h=>h;have V:∀b,Q b->b<w.heap.size->Q b:=fun _ h _=>h;refine enter (n:=74) Tryz.func29 q q q fun bq=>ns (bF z32 ?_);intro v cy aF bR D C;obtain⟨cv,k,c,M,S⟩:=j5 j aF bR D;have L:=tT L c;have V:=Sx k V d.size;have aF:=lv d.size aF;have A:=(A.sub k).o D;have d:=d.k D;have j:=S;have ad:bw [] w v:=.inr aF;refine an q (aD (nm q (sL q iU A.di (st _ (kI (a:=l.length) (b:=32) q q) (nt ?_)))));refine bJ q (fun aN=>?_) (fun aN=>?_)
 ·have bG:=dT aN;refine ns (st _ (bN (us:=[]) (cs:=(fM.cells (({rows:=[]}:fM)) SN)) [] z32 WE q q trivial trivial q q) (aK (us:=(fM.cells (({rows:=[]}:fM)) SN)) q q (by exact j9) (by exact fun u O=>aU (fM.one q) u O) C (lB q) ?_));have N:=C;intro cz D C;have d:=d.step D (hI ad);refine ar q (aI ?_);exact dB (vs:=[(.agg (fM.cells (({rows:=[]}:fM)) SN).toArray),(.int .i64 ((21:Nat):Int))]) trivial q ⟨⟨_,q,cw (cs:=(fM.cells (({rows:=[]}:fM)) SN)) (by exact j9) C⟩,q,tV⟩ q ⟨_,(({rows:=[]}:fM)),21,q,d,(Ls.nil _ _ _),Xx,(by unfold vM;rw[if_pos Xx])⟩
 have bG:=dF aN;refine aL (aj (ns (bF z32 ?_)));intro z cA aH bU D e;have b1:v≠z:=(by have:=C.lt;omega);obtain⟨bX,k,c,U,S⟩:=j5 j aH bU D;have M:=nQ M c;have L:=tT L c;have V:=Sx k V d.size;have aH:=lv d.size aH;have A:=(A.sub k).o D;obtain⟨C,d⟩:=k2 D C d;have j:=S;have bi:bw [] w z:=.inr aH;refine nt (ns (an q (aD (ns (cu q (nt (aS ?_)))))));obtain⟨ap,be⟩:∃r,kO l l 0 [] []=r:=⟨_,q⟩;have g:=be;refine aec (fun(x:fM) (G:Value) (af:Value) (K:List fB) (i:Nat)=>[(5,af),(6,(.int .i64 i)),(0,v0),(2,(.pointer (some ⟨v,0,none⟩))),(4,(.pointer (some ⟨z,0,none⟩)))]) (fun(x:fM) (G:Value) (af:Value) (K:List fB) (i:Nat) Z=>∃ab:Nat->Prop,(∀b,ab b->Q b)/\(∀b,Q b->b<w.heap.size->ab b)/\Up Z ab/\Md [] w Z/\bS Z z (fM.cells x G) 32/\Ow (rq jS) 81 (bw [] w) Z ab G x.rows/\Ls jS Z ab af K/\Ls ir Z ab v0 l/\bS Z v (fM.cells (({rows:=[]}:fM)) SN) 32/\¬ab z/\¬ab v/\(x.rows.length<=i/\K.length<=i/\i<=l.length)/\(∀a∈K,a.values.length<=i)/\kO l (l.drop i) i x.rows K=ap) (fun(x:fM) (G:Value) (af:Value) (K:List fB) (i:Nat)=>l.length-i) (x0:=(({rows:=[]}:fM))) (x1:=SN) (x2:=SN) (x3:=([]:List fB)) (x4:=0) ?_ ?_ ?_
 ·exact Fz
 ·exact⟨bX,L,V,j,d,e,(by exact Ow.nil _ _ _ _ _),(Ls.nil _ _ _),A,C,U,M,⟨by simp,by simp,Nat.zero_le _⟩,Oy,(by have bZ:=be;exact bZ)⟩
 clear d j L V M U A C e;rintro x G af K i bq cB ⟨aJ,L,V,j,d,e,B,I,A,C,U,M,cb,bh,Y⟩;refine aD (ns (m2 q q (sL q iU A.di (st _ (dN (a:=i) (b:=l.length) q q) (nt ?_)))));refine bJ q (fun aO=>?_) (fun aO=>?_)
 ·have aY:=dT aO;refine aL (aj (aD (aS (aD (ns (m2 q q (st _ (bg (i:=i) 1 q q iU JN A.di Xx) ?_)))))));obtain⟨ak,aa⟩:=dZ (l:=l) (i:=i) Xx;obtain⟨cx,bu,au⟩:=A.get aa;obtain⟨rfl,_⟩:=bu;have au:At _ v0 (i*1) [(str ak)]:=au;refine st _ ((bO (kk:=i*1) 0 q q jK au q).to (b:=(str ak)) q) (st _ (pU (a:=ak) (b:=(([43]:Ly))) q q) (aA ?_));refine aj ?_;refine bJ q (fun aP=>?_) (fun aP=>?_)
  ·have W:=dT aP;refine aD (nm q (st _ (iR (a:=i) (b:=0) q q) (mv q ?_)));refine bW (t:=26) q (fun P=>?_) (fun P=>?_)
   ·have bH:=dT P;refine sk P (sk P (sk P (sk P (sk P (st _ (bf q P q) (mv q (sk q (sk q (sk q (sk q (sk q (sk q (st _ (bf q q q) ?_)))))))))))));refine nt (gK q q (ns (st _ (bN (us:=[]) (cs:=(fM.cells (({rows:=[]}:fM)) SN)) [] z32 WE q q trivial trivial q q) (aK (us:=(fM.cells (({rows:=[]}:fM)) SN)) q q (by exact j9) (by exact fun u O=>aU (fM.one q) u O) C (lB q) ?_))));have N:=C;intro ch D C;have d:=d.step D (hI ad);refine ar q (aI (aI (aV (aI (aI (aV (aI ?_)))))));exact dB (vs:=[(.agg (fM.cells (({rows:=[]}:fM)) SN).toArray),(.int .i64 ((20:Nat):Int))]) trivial q ⟨⟨_,q,cw (cs:=(fM.cells (({rows:=[]}:fM)) SN)) (by exact j9) C⟩,q,tV⟩ q ⟨_,(({rows:=[]}:fM)),20,q,d,(Ls.nil _ _ _),Xx,(by unfold vM;rw[if_neg Xx];exact g.trans (Y.symm.trans (GW aa W (.inl Xx))))⟩
   have bH:=dF P;refine sg P (aM q) (sg P (aM q) (sg P (jx q iU A.di) (sg P (jO (a:=((l.length:Nat):Int)) (b:=1) q q Xx) (sg P (lV (a:=((i:Nat):Int)) (b:=((l.length:Nat):Int)-1) q q) (st _ (aZ q P q) (mv q ?_))))));refine bW (t:=33) q (fun J=>?_) (fun J=>?_)
   ·have bI:=dT J;refine sk J (sk J (sk J (sk J (sk J (sk J (st _ (bf q J q) (nt (gK q q (ns (st _ (bN (us:=[]) (cs:=(fM.cells (({rows:=[]}:fM)) SN)) [] z32 WE q q trivial trivial q q) (aK (us:=(fM.cells (({rows:=[]}:fM)) SN)) q q (by exact j9) (by exact fun u O=>aU (fM.one q) u O) C (lB q) ?_)))))))))));have N:=C;intro ci D C;have d:=d.step D (hI ad);refine ar q (aI (aI (aV (aI (aI (aV (aI ?_)))))));exact dB (vs:=[(.agg (fM.cells (({rows:=[]}:fM)) SN).toArray),(.int .i64 ((20:Nat):Int))]) trivial q ⟨⟨_,q,cw (cs:=(fM.cells (({rows:=[]}:fM)) SN)) (by exact j9) C⟩,q,tV⟩ q ⟨_,(({rows:=[]}:fM)),20,q,d,(Ls.nil _ _ _),Xx,(by unfold vM;rw[if_neg Xx];exact g.trans (Y.symm.trans (GW aa W (.inr (.inl Xx)))))⟩
   have bI:=dF J;refine sg J (aM q) (sg J (aM q) (sg J (jO (a:=((i:Nat):Int)) (b:=1) q q Xx) (sg J (uq (i:=((i:Nat):Int)-1) 1 q q iU JN A.di Xx) ?_)));obtain⟨a9,a3⟩:=dZ (l:=l) (i:=(((i:Nat):Int)-1).toNat) Xx;obtain⟨ce,bP,aw⟩:=A.get a3;obtain⟨rfl,_⟩:=bP;have aw:At _ v0 (((((i:Nat):Int)-1).toNat)*1) [(str a9)]:=aw;refine sg J ((bO (kk:=((((i:Nat):Int)-1).toNat)*1) 0 q q jK aw q).to (b:=(str a9)) q) (sg J (pU (a:=a9) (b:=(([43]:Ly))) q q) (st _ (aZ q J q) (aA ?_)));refine aj ?_;refine bJ q (fun a4=>?_) (fun a4=>?_)
   ·have bL:=dT a4;refine ns (st _ (bN (us:=[]) (cs:=(fM.cells (({rows:=[]}:fM)) SN)) [] z32 WE q q trivial trivial q q) (aK (us:=(fM.cells (({rows:=[]}:fM)) SN)) q q (by exact j9) (by exact fun u O=>aU (fM.one q) u O) C (lB q) ?_));have N:=C;intro cj D C;have d:=d.step D (hI ad);refine ar q (aI (aI (aV (aI (aI (aV (aI ?_)))))));exact dB (vs:=[(.agg (fM.cells (({rows:=[]}:fM)) SN).toArray),(.int .i64 ((20:Nat):Int))]) trivial q ⟨⟨_,q,cw (cs:=(fM.cells (({rows:=[]}:fM)) SN)) (by exact j9) C⟩,q,tV⟩ q ⟨_,(({rows:=[]}:fM)),20,q,d,(Ls.nil _ _ _),Xx,(by unfold vM;rw[if_neg Xx];exact g.trans (Y.symm.trans (GW aa W (.inr (.inr (by rw[UG (show l[i-1]? = some _ from by have h:=a3;rwa [show((i:Int)-1).toNat=i-1 by omega]at h)];simp_all))))))⟩
   have bL:=dF a4;refine aL (aj (ns (sf q py (sl (u:=G) q xU e q (mv q (aR [[af]] ZW YE Xy Xy q q ⟨(dM I.bA),tV⟩ ⟨q,tV⟩ q Xy ?_))))));intro b9 ck bC cc D a1;have bs:=j _ bC;obtain⟨B,e,I,A,C,j,d⟩:=k7 D B e I A C j d;have a1:=Ls.cF (m:=1) (R:=aJ) (T:=(rq jS)) (xs:=[K]) a1 ⟨_,_,q,⟨_,q,I⟩,q⟩ q Xy bs;refine ez (sz:=1) (by rfl) ZW YE q q B a1 (fun _ h _=>h) j (bw.new d) Zq Zq ?_;intro bm cl bj k c S ai D E _ a7;have H:=B;have U:=nQ U c;have M:=nQ M c;have L:=tT L c;have V:=Sx k V d.size;have e:=e.md D (aW H e);have A:=(A.sub k).md D E;have C:=C.md D (aW H C);have j:=j.md D;have d:=d.cT D (Sy H);have j:=S;clear S k c E a7;refine sf q py (bn q q xU ai.bA e (lB q) ?_);have al:=e;intro cm D e;have E:∀b∈[z],¬bj b:=(hI U);have A:=A.md D E;have C:=C.md D Zz;have ai:=ai.md D (aB al ai) E;have j:=j.md D;have d:=d.step D (hI bi);obtain⟨a8,av⟩:∃y,y=({x with rows:=x.rows ++ ([K])}:fM):=⟨_,q⟩
   have e:bS _ _ (fM.cells ({x with rows:=x.rows ++ ([K])}) bm) _:=e;rw[<- av]at e;rw[show x.rows ++ ([K])=a8.rows by rw[av]]at ai;refine nt (ns (an q (bT (aX (cJ (aj (aG (mv q (st _ (rA (a:=i) (b:=1) q q Xx) (cu q (nt ?_)))))))))));refine Zs (x0:=a8) (x1:=bm) (x2:=SN) (x3:=([])) (x4:=(i+1)) Xx ⟨q,(dA q Xx),q,q,q,tV⟩ ⟨bj,L,V,j,d,e,ai,(Ls.nil _ _ _),A,C,U,M,⟨by rw[av];simp;omega,by simp,by omega⟩,Oy,(by rw[aby aa W (by rintro(h|h|h)<;>first|omega|(rw[UG (show l[i-1]? = some _ from by have h:=a3;rwa [show((i:Int)-1).toNat=i-1 by omega]at h)]at h;simp_all))]at Y;rw[show a8.rows=x.rows ++ [K]by rw[av]];exact Y)⟩
  have W:=dF aP;refine aL (aj (ns (m2 q q (st _ (bg (i:=i) 1 q q iU JN A.di Xx) ?_))));obtain⟨cf,bQ,ay⟩:=A.get aa;obtain⟨rfl,_⟩:=bQ;have ay:At _ v0 (i*1) [(str ak)]:=ay;refine st _ ((bO (kk:=i*1) 0 q q jK ay q).to (b:=(str ak)) q) ?_;have cg:=b0 _ (List.mem_of_getElem? aa);refine lF (s:=ak) u9 fU u5 q (by simp[maxLen];omega) ?_;intro br cn D a2 aT;have a2:=Ls.of_by (Q:=aJ) a2 (fun b F _=>j b (aT b F).1);have aT:∀b,ah br=some b->w.heap.size<=b:=fun b F=>lv d.size (aT b F).1;obtain⟨B,e,I,A,C,j,d⟩:=k7 D B e I A C j d;refine Rz anp q (WM j a2 Xx) ?_;rintro ba co ⟨o,p,rfl,D,b8,bd⟩;obtain⟨B,e,I,A,C,j,d⟩:=k7 D B e I A C j d;refine mv q (se q q (se q q (bF z61 ?_)));intro aE cp aq bV D am;have b3:z≠aE:=(by have:=e.lt;omega);have b2:v≠aE:=(by have:=C.lt;omega);obtain⟨bk,k,c,bv,S⟩:=j5 j aq bV D;have U:=nQ U c;have M:=nQ M c;have L:=tT L c;have V:=Sx k V d.size;have aq:=lv d.size aq;have B:=(B.sub k c).o D;have e:=e.o D;have I:=(I.sub k).o D;have A:=(A.sub k).o D;obtain⟨C,d⟩:=k2 D C d;have j:=S;have bx:bw [] w aE:=.inr aq
  refine aK (us:=(Pr.cells o)) q q (by exact gY) (by exact fun u O=>aU (Pr.one) u O) am (lB q) ?_;have f:=am;intro cq D am;have E:∀b∈[aE],¬bk b:=(hI bv);have B:=B.md D (aB f B) E;have e:=e.md D Zz;have I:=I.md D E;have A:=A.md D E;have C:=C.md D Zz;have j:=j.md D;have d:=d.step D (hI bx);refine an q (aD (nm q (st _ (eT (a:=p) (b:=0) q q) (nt ?_))));refine bJ q (fun a5=>?_) (fun a5=>?_)
  ·have bc:=dT a5;refine ns (st _ (bN (us:=[]) (cs:=(fM.cells (({rows:=[]}:fM)) SN)) [] z32 WE q q trivial trivial q q) (mv q (aK (us:=(fM.cells (({rows:=[]}:fM)) SN)) q q (by exact j9) (by exact fun u O=>aU (fM.one q) u O) C (lB q) ?_)));have N:=C;intro cr D C;have d:=d.step D (hI ad);refine ar q (aI (aV (aI (aI (aV (aI ?_))))));exact dB (vs:=[(.agg (fM.cells (({rows:=[]}:fM)) SN).toArray),(.int .i64 p)]) trivial q ⟨⟨_,q,cw (cs:=(fM.cells (({rows:=[]}:fM)) SN)) (by exact j9) C⟩,q,tV⟩ q ⟨_,(({rows:=[]}:fM)),p,q,d,(Ls.nil _ _ _),Xh,(by unfold vM;rw[if_neg Xx];exact g.trans (Y.symm.trans (afv aa W bd bc)))⟩
  have bc:=dF a5;refine aL (aj (aG (mv q (st _ (bK (Pr.cells o) q (by exact gY) am q) (Rz anq q (TG j I o Xx (by intro a bY;have:=bh a bY;omega)) ?_)))));rintro ba b4 ⟨bz,bB,rfl,D,bp,a0⟩;obtain⟨B,e,A,C,j,d⟩:=k6 D B e A C j d;refine cu q (aA (bE (aj (aG (mv q (st _ (rA (a:=i) (b:=1) q q Xx) (an q ?_)))))));refine Zs (x0:=x) (x1:=G) (x2:=bz) (x3:=bB) (x4:=(i+1)) Xx ⟨q,(dA q Xx),q,q,q,tV⟩ ⟨bk,L,V,j,d,e,B,bp,A,C,U,M,⟨by omega,by rw[<- a0];have:=vU o false K;simp only[Bool.false_eq_true,if_false]at this;omega,by omega⟩,(by rw[<- a0];exact t7 _ _ _ bh),(by rw[abz aa W (by rw[bd,show p=0 by omega])]at Y;rw[<- Y,a0])⟩
 have aY:=dF aO;refine bT (aX (aX (cJ (aj (aD (nm q (sL q iU A.di (st _ (kI (a:=l.length) (b:=0) q q) (nt ?_)))))))));refine bJ q (fun a6=>?_) (fun a6=>?_)
 ·have bM:=dT a6;refine aG (sf q py (sl (u:=G) q xU e q (mv q (aR [[af]] ZW YE Xy Xy q q ⟨(dM I.bA),tV⟩ ⟨q,tV⟩ q Xy ?_))));intro ca tj bD cd D f;have bt:=j _ bD;obtain⟨B,e,I,C,j,d⟩:=k6 D B e I C j d;have f:=Ls.cF (m:=1) (R:=aJ) (T:=(rq jS)) (xs:=[K]) f ⟨_,_,q,⟨_,q,I⟩,q⟩ q Xy bt;refine ez (sz:=1) (by rfl) ZW YE q q B f (fun _ h _=>h) j (bw.new d) Zq Zq ?_;intro ao b5 bl k c S ae D E _ a7;have H:=B;have U:=nQ U c;have M:=nQ M c;have L:=tT L c;have e:=e.md D (aW H e);have C:=C.md D (aW H C);have j:=j.md D;have d:=d.cT D (Sy H);have j:=S;clear S k c E a7;refine sf q py (bn q q xU ae.bA e (lB q) ?_);have al:=e;intro b6 D e;have E:∀b∈[z],¬bl b:=(hI U);have C:=C.md D Zz;have ae:=ae.md D (aB al ae) E;have d:=d.step D (hI bi);obtain⟨ag,aQ⟩:∃y,y=({x with rows:=x.rows ++ ([K])}:fM):=⟨_,q⟩;have e:bS _ _ (fM.cells ({x with rows:=x.rows ++ ([K])}) ao) _:=e
  rw[<- aQ]at e;rw[show x.rows ++ ([K])=ag.rows by rw[aQ]]at ae;refine nt (ns (st _ (bK (fM.cells ag ao) q (by exact j9) e q) (aK (us:=(fM.cells ag ao)) q q (by exact j9) (by exact fun u O=>aU (fM.one ae.bA) u O) C (lB q) ?_)));have az:=ae;have N:=C;intro C3 D C;have E:∀b∈[v],¬bl b:=(hI M);have az:=az.md D (aB N az) E;have d:=d.step D (hI ad);refine ar q ?_;exact dB (vs:=[(.agg (fM.cells ag ao).toArray),(.int .i64 ((0:Nat):Int))]) trivial q ⟨⟨_,q,cw (cs:=(fM.cells ag ao)) (by exact j9) C⟩,q,tV⟩ q ⟨_,ag,0,q,d,(az.ls (fun b F=>L b F) (bw.up Bx)),Xx,(by unfold vM;rw[if_neg Xx];exact g.trans (Y.symm.trans ((TH aY).trans (by rw[if_pos Xx];rw[aQ]))))⟩
 have bM:=dF a6;refine aL (aj (ns (st _ (bK (fM.cells x G) q (by exact j9) e q) (aK (us:=(fM.cells x G)) q q (by exact j9) (by exact fun u O=>aU (fM.one B.bA) u O) C (lB q) ?_))));have aC:=B;have N:=C;intro b7 D C;have E:∀b∈[v],¬aJ b:=(hI M);have aC:=aC.md D (aB N aC) E;have d:=d.step D (hI ad);refine ar q ?_;exact dB (vs:=[(.agg (fM.cells x G).toArray),(.int .i64 ((0:Nat):Int))]) trivial q ⟨⟨_,q,cw (cs:=(fM.cells x G)) (by exact j9) C⟩,q,tV⟩ q ⟨_,x,0,q,d,(aC.ls (fun b F=>L b F) (bw.up Bx)),Xx,(by unfold vM;rw[if_neg Xx];exact g.trans (Y.symm.trans ((TH aY).trans (by rw[if_neg Xx]))))⟩
end Go.Proofs.YtlleafgaeeneoaaGreat
namespace Go.Wk
open Go Go.RowKit
def aOk (n:Nat) (a:fB):Prop:=a.name.length<=1000000/\a.values.length<=n/\∀s∈a.values,s.length<=1000000
theorem aOk.mono {m n:Nat} {a:fB} (h:aOk m a) (b:m<=n):aOk n a:=⟨h.1,by have:=h.2.1;omega,h.2.2⟩
def mOk (x:fM):Prop:=x.rows.length<=1000/\∀l∈x.rows,∀a∈l,aOk 1000 a
theorem afP (s:Ly):(iH s).1.name.length<=s.length/\(iH s).1.value.length<=s.length:=by
  unfold iH nk;split
  · simp only[List.length_take,List.length_drop];omega
  simp
theorem afq {l:List (List UInt8)} {s x:Ly} (h:x∈BB l s):x∈l\/x=s:=by
  unfold BB at h;split at h
  · exact .inl h
  rcases List.mem_append.1 h with h|h
  · exact .inl (List.mem_of_mem_take h)
  rcases List.mem_cons.1 h with h|h
  · exact .inr h
  exact .inl (List.mem_of_mem_drop h)
theorem MN (p:Pr) {n:Nat} (h1:p.name.length<=1000000) (d:p.value.length<=1000000):∀(b:Bool) (l:List fB),(∀c∈l,aOk n c)->∀c∈iD p b l,aOk (n+1) c
  | b,[],_=>by
    unfold iD;split
    · simp
    · intro c a
      simp at a;subst a;exact⟨h1,by simp,by simpa using d⟩
  | b,x :: r,h=>by
    have g:=MN p h1 d true r fun c a=>h c (by simp[a]);have i:=MN p h1 d b r fun c a=>h c (by simp[a]);have f:=(h x Oy).mono (Nat.le_succ n);rw[mH];intro c a;split at a
    · rcases List.mem_cons.1 a with rfl|a
      · refine⟨h1,?_,fun s e=>?_⟩
        · have:=TB x.values p.value;have:=(h x Oy).2.1;simp only;omega
        · rcases afq e with e|e
          · exact f.2.2 s e
          · rw[e];exact d
      · exact g c a
    · split at a
      · rcases List.mem_cons.1 a with rfl|a
        · exact⟨h1,by simp,by simpa using d⟩
        · rcases List.mem_cons.1 a with rfl|a
          · exact f
          · exact g c a
      · rcases List.mem_cons.1 a with rfl|a
        · exact f
        · exact i c a
theorem zI (d:List (List UInt8)):∀(c:List (List UInt8)) (i:Nat) (rows:List (List fB)) (row:List fB),(∀s∈c,s.length<=1000000)->rows.length<=i->(∀l∈rows,∀b∈l,aOk i b)->(∀b∈row,aOk i b) ->
    (kO d c i rows row).1.rows.length<=i+c.length+1/\∀l∈(kO d c i rows row).1.rows,∀b∈l,aOk (i+c.length) b
  | [],i,rows,row,_,h1,h2,h3=>by
    unfold kO;simp only[List.length_nil,Nat.add_zero];split
    · refine⟨by rw[List.length_append,List.length_singleton];omega,fun l a=>?_⟩
      rcases List.mem_append.1 a with a|a
      · exact h2 l a
      · simp at a;subst a;exact h3
    · exact⟨by omega,h2⟩
  | s :: r,i,rows,row,hs,h1,h2,h3=>by
    have f:∀s∈r,s.length<=1000000:=fun x h=>hs x (by simp[h]);have g:(List.length (s :: r))=r.length+1:=rfl;rw[oq,g,show i+(r.length+1)=(i+1)+r.length by omega];split
    · split
      · exact⟨Nat.zero_le _,by simp⟩
      · refine zI d r (i+1) (rows ++ [row]) [] f (by rw[List.length_append,List.length_singleton];omega) (fun l a b e=>?_) Oy
        rcases List.mem_append.1 a with a|a
        · exact(h2 l a b e).mono (Nat.le_succ i)
        · simp at a;subst a;exact(h3 b e).mono (Nat.le_succ i)
    · split
      · exact⟨Nat.zero_le _,by simp⟩
      · have hb:=afP s
        have a:=hs s Oy;exact zI d r (i+1) rows _ f Xx (fun l a b e=>(h2 l a b e).mono (Nat.le_succ i)) (MN _ Xx Xx false row h3)
theorem ZM {l:List (List UInt8)} {m:fM} {c:Nat} (f:∀s∈l,s.length<=1000000) (h:vM l=(m,c)):mOk m:=by
  have a:=congrArg Prod.fst h;simp only at a;rw[<- a];unfold vM;split
  · exact⟨Nat.zero_le _,by simp⟩
  obtain⟨D,b⟩:=zI l l 0 [] [] f (Nat.le_refl _) Oy Oy;exact⟨by omega,fun x C e d=>(b x C e d).mono Xx⟩
theorem ah0 {s t:Sq} {p:Pr} (h:s.pair=(p,t)):p.name.length<=64/\p.value.length<=256:=by have:=ZE s;rw[h]at this;simp only at this;omega
theorem UO {o:List (List UInt8)} {x:Ly} (h:∀s∈o,s.length<=1000000) (b:x.length<=1000000):∀s∈o ++ [x],s.length<=1000000:=fun s a=>by
  rcases List.mem_append.1 a with a|a
  · exact h s a
  · simp at a;rw[a];exact b
def uj:List Int:=[1,1,1,1,1,1,1,1,1,1]
def JR (y:dx):List Nat:=(r9 (y.h.n.getD 0 0) y.b (y.h.n.getD 8 0) (y.h.n.getD 11 0)).1
def Rb (b:Ly):Nat × Nat × Nat × Nat:=match kG b with|(some y,c)=>(c,(iQ y (JR y)).length,(ql y (JR y) {name:=[78,79],value:=[49]}).length,b.length)|(none,_)=>(1,0,0,0)
set_option maxRecDepth 1000000 in
theorem agP:(Rb (mq uj 1)).1=0/\(Rb (mq uj 1)).2.1=1/\(Rb (mq uj 1)).2.2.1=0/\(Rb (mq uj 1)).2.2.2<=2000:=by decide +kernel
theorem ahz:∃y,kG (mq uj 1)=(some y,0)/\(iQ y (JR y)).length=1/\(ql y (JR y) {name:=[78,79],value:=[49]}).length=0/\(mq uj 1).length<=2000:=by
  have h:=agP;unfold Rb at h
  rcases hx:kG (mq uj 1)with⟨x,c⟩
  rw[hx]at h;cases x with
  | none=>simp at h
  | some y =>
    simp only at h;obtain⟨A,B,C,D⟩:=h;exact⟨y,by rw[A],B,C,D⟩
end Go.Wk
namespace Go.Proofs.YtlleafgaeeneoaaGreat
open Go Go.Wk Go.RowKit
set_option linter.unusedVariables false
set_option linter.unusedSimpArgs false
attribute [local irreducible] wpList wpQuiet wpStill fD Code.wp Calls bodyPost
variable {w:World} {Q:Nat->Prop}
theorem ab2 (e:Up w Q) (s:Ly) (d:s.length<=9223372036854775807) :
  Calls Zp 107 #[str s] w fun a c=>∃b:Bool,a = .returned (.bool b)/\Md [] w c/\eB s=b:=by
 refine(LR s w d).mono fun a c ⟨he,hm⟩=>⟨eB s,by rw[he],hm ▸ Md.refl [] w,q⟩
theorem sB:fI Zp 210 4=true:=Xw
theorem aja:fI Zp 272 3=true:=Xw
theorem ajb:fI Zp 282 6=true:=Xw
theorem mN:fI Zp 48 16=true:=Xw
theorem YM:cA Zp 127=true:=Xw
theorem adw:cA Zp 128=true:=Xw
theorem zX:cA Zp 129=true:=Xw
theorem rB:cA Zp 130=true:=Xw
theorem JV:cA Zp 157=true:=Xw
theorem aiD:cA Zp 168=true:=Xw
theorem alv:cA Zp 171=true:=Xw
theorem aiG:cA Zp 176=true:=Xw
theorem alz:cA Zp 177=true:=Xw
theorem al0:cA Zp 178=true:=Xw
theorem al1:cA Zp 179=true:=Xw
theorem al3:cA Zp 180=true:=Xw
theorem al4:cA Zp 181=true:=Xw
theorem rD:cA Zp 188=true:=Xw
theorem aiI:cA Zp 189=true:=Xw
theorem aiJ:cA Zp 190=true:=Xw
theorem JW:cA Zp 193=true:=Xw
theorem an7:cA Zp 92=true:=Xw
theorem alP:cA Zp 93=true:=Xw
theorem rU:aN Zp 272 0=some 0:=Xw
theorem og:aN Zp 272 1=some 1:=Xw
theorem oh:aN Zp 272 2=some 2:=Xw
theorem rV:aN Zp 282 0=some 0:=Xw
theorem xO:aN Zp 282 1=some 1:=Xw
theorem rW:aN Zp 282 2=some 2:=Xw
theorem rX:aN Zp 282 3=some 3:=Xw
theorem GJ:aN Zp 282 4=some 4:=Xw
theorem om:aN Zp 282 5=some 5:=Xw
theorem aiR:fH Zp 210=some [(0,1),(1,1),(2,1),(3,1)]:=Xw
theorem amu:fH Zp 272=some [(0,1),(1,1),(2,1)]:=Xw
theorem aiU:fH Zp 282=some [(0,1),(1,1),(2,1),(3,1),(4,1),(5,1)]:=Xw
theorem aic:Zp.underlying 157=some (.int .u64):=Xw
theorem tf:Zp.underlying 210=some (.array 4 46):=Xw
theorem am9:Zp.underlying 274=some (.array 12 5):=Xw
theorem ak2:Zp.underlying 283=some (.array 8 5):=Xw
theorem z210:dW Zp 210=some [.int .u64 0,.int .u64 0,.int .u64 0,.int .u64 0]:=Xw
theorem amD:dW Zp 272=some [.int .u32 0,.int .u32 0,.int .u32 0]:=Xw
theorem anR:dW Zp 274=some (List.replicate 12 (.int .u8 0)):=Xw
theorem ak4:dW Zp 282=some [.int .u64 0,.int .u64 0,.int .u64 0,.int .u64 0,.int .i64 0,.slice none 0 0]:=Xw
theorem anS:dW Zp 283=some (List.replicate 8 (.int .u8 0)):=Xw
theorem afN (n:Int) (w:World):Calls Zp 163 #[.int .i64 n] w fun d e=>d = .returned (.bool (szB n))/\w=e:=by
 have g:=Md.refl [] w;refine enter (n:=17) Tryz.func163 q q q fun f=>ns (an q (nm q (st _ (lV q q) (mv q ?_))));refine bW (t:=5) q (fun C=>?_) (fun C=>?_)
 ·have c:=dT C;refine sk C (sk C (st _ (bf q C q) (mv q (sk q (sk q (st _ (bf q q q) (mv q (sk q (sk q (st _ (bf q q q) (ar q ?_)))))))))));exact gX trivial q q ⟨oH (by rw[Bool.eq_iff_iff];simp[szB];omega),q⟩
 have c:=dF C;refine sg C (aM q) (sg C (lV q q) (st _ (aZ q C q) (mv q ?_)));refine bW (t:=9) q (fun D=>?_) (fun D=>?_)
 ·have G:=dT D;refine sk D (sk D (st _ (bf q D q) (mv q (sk q (sk q (st _ (bf q q q) (ar q ?_)))))));exact gX trivial q q ⟨oH (by rw[Bool.eq_iff_iff];simp[szB];omega),q⟩
 have G:=dF D;refine sg D (aM q) (sg D (lV q q) (st _ (aZ q D q) (mv q ?_)));refine bW (t:=13) q (fun a=>?_) (fun a=>?_)
 ·have b:=dT a;refine sk a (sk a (st _ (bf q a q) (ar q ?_)));exact gX trivial q q ⟨oH (by rw[Bool.eq_iff_iff];simp[szB];omega),q⟩
 have b:=dF a;refine sg a (aM q) (sg a (lV q q) (st _ (aZ q a q) (ar q ?_)));exact gX trivial q q ⟨oH (by rw[Bool.eq_iff_iff];simp[szB];omega),q⟩
theorem wj (v:Value) (l:Ly) (a n:Int) (w:World) (c:By w v l) (o:n=1\/n=2\/n=4\/n=8) (j:0<=a) (m:a+n<=l.length) :
    Calls Zp 139 #[v,.int .i64 a,.int .i64 n] w fun f e=>f = .returned (.tuple #[.int .u64 (iA ((l.drop a.toNat).take n.toNat)),.bool true])/\w=e:=by
  have d:szB n=true:=(by simp[szB];omega);have p:=c.dD;have i:=Md.refl [] w;refine enter (n:=42) Tryz.func139 q q q fun g=>ns (cu q (an q (aD (nm q (Rz aiC q (afN _ _) ?_)))));rintro f _ ⟨rfl,rfl⟩;refine st _ (gT q) (mv q (afT _ q q q (by rw[d];rfl) (aM q) (afT _ q q q (by rw[d];rfl) (rZ q q) (st _ (aZ q (by rw[d];rfl) q) (mv q ?_)))));refine bW (t:=17) q (fun b=>?_) (fun b=>?_)
  · have h:=dT b;exfalso;omega
  have h:=dF b;refine sg b (aM q) (sg b (aM q) (sg b (jx q fU c.di) (sg b (aM q) (sg b (jO q q Xx) (sg b (vC q q) (st _ (aZ q b q) (nt ?_)))))));refine bJ q (fun C=>?_) (fun C=>?_)
  · have G:=dT C;exfalso;omega
  have G:=dF C;refine aL (aj (ns (an q (aD (nm q (st _ (jO q q Xx) (cu q (nt (aS ?_)))))))));refine jh (X:=Nat) (fun k=>[(0,v),(1,.int .i64 a),(8,.int .u64 (iA ((l.drop (a.toNat+(n.toNat-k))).take k))),(9,.int .i64 (n-1-k))]) (fun k e=>w=e/\(k:Int)<=n) (fun k=>(n-k).toNat) 0 ?_ ?_ ?_
  · exact⟨q,q,dA q (by simp[iA]),dA q Xx,tV⟩
  · exact⟨q,by omega⟩
  clear i;rintro k g r ⟨rfl,hk⟩;refine aD (nm q (st _ (qo q q) (nt ?_)));refine bJ q (fun D=>?_) (fun D=>?_)
  · have H:=dT D;refine aL (aj (aD (aS (aG (mv q (st _ (qJ q q Xx) (m2 q q (mv q (st _ (eJ q q Xx) (st _ (CC q q fU o7 c.di Xx) (st _ (CF q zC c Xx) (st _ (iN (by rw[u5];rfl) nu q) ?_))))))))))));refine st _ (zK q q) (cu q (aA (bE (aj (aG (mv q (st _ (jO q q Xx) (an q (next (k+1) Xx ⟨q,q,dA q (aax a n k o j m Xx),dA q Xx,tV⟩ ?_)))))))));exact⟨q,by omega⟩
  have H:=dF D;refine bT (aX (aX (cJ (aj (nm q (cu q (ar q ?_)))))));exact anJ trivial q q q ⟨anK (by obtain rfl:(k:Int)=n:=Xx;simp),q⟩
theorem iV (x k:Int) (w:World) (b:0<=k) (h1:k<32):Calls Zp 188 #[.int .u32 x,.int .i64 k] w fun a c=>a = .returned (.int .u32 (tc x k))/\w=c:=by have e:=Md.refl [] w;refine enter (n:=17) Tryz.func188 q q q fun d=>ns (an q (nm q (st _ (iN (by rw[u3];rfl) aic q) (st _ ((afw q q).jB (akE b h1)) (cu q (nt (ns (m2 q q (st _ (qJ q q Xx) (mv q ?_))))))))));refine mv q (st _ ((iT q q).jB (wrap_u64 Xx Xx)) (st _ (TJ q q Xx) (st _ (zK q q) (ar q ?_))));exact gX trivial q q ⟨q,q⟩
theorem pF (x k:Int) (w:World) (b:0<=k) (h1:k<64):Calls Zp 193 #[.int .u64 x,.int .i64 k] w fun a c=>a = .returned (.int .u64 (AP x k))/\w=c:=by have e:=Md.refl [] w;refine enter (n:=17) Tryz.func193 q q q fun d=>ns (an q (nm q (st _ (iN (by rw[u3];rfl) aic q) (st _ ((afw q q).jB (akF b h1)) (cu q (nt (ns (m2 q q (st _ (qJ q q Xx) (mv q ?_))))))))));refine mv q (st _ ((iT q q).jB (wrap_u64 Xx Xx)) (st _ (TJ q q Xx) (st _ (zK q q) (ar q ?_))));exact gX trivial q q ⟨q,q⟩
theorem jQ (x k:Int) (w:World) (e:0<=k) (h1:k<32):Calls Zp 130 #[.int .u32 x,.int .u64 k] w fun a b=>a = .returned (.int .u32 (tc x k))/\w=b:=by have d:=Md.refl [] w;refine enter (n:=13) Tryz.func130 q q q fun c=>ns (an q (ns (m2 q q (st _ (qJ q q Xx) (mv q (mv q (st _ ((iT q q).jB (wrap_u64 Xx Xx)) (st _ (TJ q q Xx) (st _ (zK q q) (cu q (nt ?_)))))))))));refine iI ?_;exact gX trivial q q ⟨q,q⟩
theorem zN (x k:Int) (w:World) (e:0<=k) (h1:k<64):Calls Zp 157 #[.int .u64 x,.int .u64 k] w fun a b=>a = .returned (.int .u64 (AP x k))/\w=b:=by have d:=Md.refl [] w;refine enter (n:=13) Tryz.func157 q q q fun c=>ns (an q (ns (m2 q q (st _ (qJ q q Xx) (mv q (mv q (st _ ((iT q q).jB (wrap_u64 Xx Xx)) (st _ (TJ q q Xx) (st _ (zK q q) (cu q (nt ?_)))))))))));refine iI ?_;exact gX trivial q q ⟨q,q⟩
theorem UF (b:Nat) (t:T3) (v:Value) (l:Ly) (w:World) (a:bS w b t.cells 272) (f:By w v l) (e:Apart v l [b]) (m:12<=l.length) :
  Calls Zp 176 #[.pointer (some ⟨b,0,none⟩),v] w fun d h=>d = .returned (.tuple #[])/\Md [b] w h/\bS h b (mG t l).cells 272:=by
 have c:=Md.refl [b] w;refine enter (n:=52) Tryz.func176 q q q fun i=>nm q (Rz rC q (wj _ _ 0 4 _ (f.md c e) Xy Xy Xx) ?_);rintro d _ ⟨rfl,rfl⟩;refine mv q (se q q (se q q (cu q (an q (nm q (Rz rC q (wj _ _ 4 4 _ (f.md c e) Xy Xy Xx) ?_))))));rintro d _ ⟨rfl,rfl⟩;refine mv q (se q q (se q q (cu q (an q (nm q (Rz rC q (wj _ _ 8 4 _ (f.md c e) Xy Xy Xx) ?_))))));rintro d _ ⟨rfl,rfl⟩;refine mv q (se q q (se q q (cu q (an q (nm q (sn q (sf q rU (st _ (aF q iF a q) (mv q (st _ (iN (by rw[nu];rfl) HS q) (st _ (iK q q) ?_)))))))))));refine sn q (sf q rU (bn q q iF q a (lB q) ?_));have g:=a;intro D C a;have c:=c.gU C Oy;refine nt (nm q (sn q (sf q og (st _ (aF q iF a q) (mv q (st _ (iN (by rw[nu];rfl) HS q) (st _ (iK q q) (sn q (sf q og (bn q q iF q a (lB q) ?_))))))))));have g:=a;intro j C a;have c:=c.gU C Oy;refine nt (aG (mv q (sn q (sf q oh (st _ (aF q iF a q) ?_)))));refine mv q (st _ (iN (by rw[nu];rfl) HS q) (st _ (iK q q) (sn q (sf q oh (bn q q iF q a (lB q) ?_)))));have g:=a;intro k C a;have c:=c.gU C Oy;refine aA ?_;refine abA trivial q ⟨q,c,?_⟩;rw[show(mG t l).cells=([.int .u32 (mG t l).x,.int .u32 (mG t l).y,.int .u32 (mG t l).z]:List Value)from rfl];simp only[mG,<- FG l 0 Xx,<- FG l 4 Xx,<- FG l 8 Xx];exact a
theorem afY (b:Nat) (t:T3) (w:World) (c:bS w b t.cells 272) :
  Calls Zp 177 #[.pointer (some ⟨b,0,none⟩)] w fun f a=>f = .returned (.tuple #[])/\Md [b] w a/\bS a b (mix t).cells 272:=by
 have d:=Md.refl [b] w;refine enter (n:=89) Tryz.func177 q q q ?_;intro g;refine aD (BL (fun a=>Md [] w a) mixed Xw (Md.drew w) (qz _ (fun a m=>aM q) (qz _ (fun a m=>cC q) (qz _ (fun a m=>aJ q rU) (qz _ (fun a m=>aF q iF (c.o m) q) (qz _ (fun a m=>aM q) (qz _ (fun a m=>cC q) (qz _ (fun a m=>aJ q og) (qz _ (fun a m=>aF q iF (c.o m) q) (qz _ (fun a m=>aM q) (qz _ (fun a m=>cC q) (qz _ (fun a m=>aJ q oh) (qz _ (fun a m=>aF q iF (c.o m) q) ?_)))))))))))));refine qz _ (fun a m=>eX q) (qz _ (fun a m=>eX q) (qz _ (fun a m=>eX q) (ZL ?_)));intro D e;obtain⟨c,d⟩:=k2 e c d;refine aj (ns (m2 q q (st _ (iT q q) (an q (nm q (mv q (Rz rD q (iV _ _ _ Xy Xy) ?_)))))));rintro f _ ⟨rfl,rfl⟩;refine st _ (eM q q) (an q (ns (m2 q q (st _ (iK q q) (cu q (nt (nm q (mv q (st _ (iT q q) (cu q ?_))))))))));refine nt (ns (m2 q q (Rz rD q (iV _ _ _ Xy Xy) ?_)));rintro f _ ⟨rfl,rfl⟩;refine st _ (eM q q) (an q (ns (m2 q q (st _ (iK q q) (cu q (nt (nm q (mv q (st _ (iT q q) ?_)))))))));refine an q (ns (m2 q q (Rz rD q (iV _ _ _ Xy Xy) ?_)));rintro f _ ⟨rfl,rfl⟩;refine st _ (eM q q) (an q (ns (m2 q q (st _ (iK q q) (cu q (nt (nm q (mv q (st _ (iT q q) (cu q ?_))))))))));refine nt (ns (m2 q q (Rz rD q (iV _ _ _ Xy Xy) ?_)));rintro f _ ⟨rfl,rfl⟩;refine st _ (eM q q) (an q (ns (m2 q q (st _ (iK q q) (cu q (nt (nm q (mv q (st _ (iT q q) (cu q ?_))))))))));refine nt (ns (m2 q q (Rz rD q (iV _ _ _ Xy Xy) ?_)));rintro f _ ⟨rfl,rfl⟩;refine st _ (eM q q) (an q (ns (m2 q q (st _ (iK q q) (cu q (nt (nm q (mv q (st _ (iT q q) (cu q ?_))))))))));refine nt (ns (m2 q q (Rz rD q (iV _ _ _ Xy Xy) ?_)));rintro f _ ⟨rfl,rfl⟩;refine st _ (eM q q) (an q (ns ?_));refine m2 q q (st _ (iK q q) (an q (aG (mv q (mv q (mv q (mv q (mv q (mv q (sn q (sf q rU ?_)))))))))));refine bn q q iF q c (lB q) ?_;have C:=c;intro h e c;have d:=d.gU e Oy;refine sn q (sf q og (bn q q iF q c (lB q) ?_));have C:=c;intro i e c;have d:=d.gU e Oy;refine sn q (sf q oh (bn q q iF q c (lB q) ?_));have C:=c;intro G e c;have d:=d.gU e Oy;refine aA ?_;exact abA trivial q ⟨q,d,c⟩
theorem abW (b:Nat) (t:T3) (w:World) (c:bS w b t.cells 272) :
  Calls Zp 178 #[.pointer (some ⟨b,0,none⟩)] w fun e a=>e = .returned (.tuple #[])/\Md [b] w a/\bS a b (last t).cells 272:=by
 have d:=Md.refl [b] w;refine enter (n:=78) Tryz.func178 q q q ?_;intro g;refine aD (BL (fun a=>Md [] w a) mixed Xw (Md.drew w) (qz _ (fun a m=>aM q) (qz _ (fun a m=>cC q) (qz _ (fun a m=>aJ q rU) (qz _ (fun a m=>aF q iF (c.o m) q) (qz _ (fun a m=>aM q) (qz _ (fun a m=>cC q) (qz _ (fun a m=>aJ q og) (qz _ (fun a m=>aF q iF (c.o m) q) (qz _ (fun a m=>aM q) (qz _ (fun a m=>cC q) (qz _ (fun a m=>aJ q oh) (qz _ (fun a m=>aF q iF (c.o m) q) ?_)))))))))))));refine qz _ (fun a m=>eX q) (qz _ (fun a m=>eX q) (qz _ (fun a m=>eX q) (ZL ?_)));intro D f;obtain⟨c,d⟩:=k2 f c d;refine aj (ns (m2 q q (st _ (eM q q) (an q (nm q (mv q (Rz rD q (iV _ _ _ Xy Xy) ?_)))))));rintro e _ ⟨rfl,rfl⟩;refine st _ (iT q q) (an q (ns (m2 q q (st _ (eM q q) (cu q (nt (nm q (mv q (Rz rD q (iV _ _ _ Xy Xy) ?_)))))))));rintro e _ ⟨rfl,rfl⟩;refine st _ (iT q q) (an q (ns (m2 q q (st _ (eM q q) (cu q (nt (nm q (mv q (Rz rD q (iV _ _ _ Xy Xy) ?_)))))))));rintro e _ ⟨rfl,rfl⟩;refine st _ (iT q q) (an q (aD ?_));refine aG (m2 q q (st _ (eM q q) (an q (nm q (mv q (Rz rD q (iV _ _ _ Xy Xy) ?_))))));rintro e _ ⟨rfl,rfl⟩;refine st _ (iT q q) (an q (ns (m2 q q (st _ (eM q q) (cu q (nt (nm q (mv q (Rz rD q (iV _ _ _ Xy Xy) ?_)))))))));rintro e _ ⟨rfl,rfl⟩;refine st _ (iT q q) (an q (ns (m2 q q (st _ (eM q q) (cu q (nt (nm q (mv q (Rz rD q (iV _ _ _ Xy Xy) ?_)))))))));rintro e _ ⟨rfl,rfl⟩;refine st _ (iT q q) (an q (ns (m2 q q (st _ (eM q q) (cu q (nt (nm q (mv q (Rz rD q (iV _ _ _ Xy Xy) ?_)))))))));rintro e _ ⟨rfl,rfl⟩;refine st _ (iT q q) (an q (aG (m2 q q (mv q (mv q (mv q (mv q (sn q (sf q rU (bn q q iF q c (lB q) ?_))))))))));have C:=c;intro h f c;have d:=d.gU f Oy;refine sn q (sf q og (bn q q iF q c (lB q) ?_));have C:=c;intro i f c;have d:=d.gU f Oy;refine sn q (sf q oh (bn q q iF q c (lB q) ?_));have C:=c;intro G f c;have d:=d.gU f Oy;refine aA ?_;exact abA trivial q ⟨q,d,c⟩
theorem FP (v:Value) (l:Ly) (w:World) (e:By w v l) :
  Calls Zp 168 #[v] w fun j r=>j = .returned (.int .u64 (lookup l))/\Md [] w r:=by
 have Q:=e.dD;have d:=Md.refl [] w;refine enter (n:=40) Tryz.func168 q q q fun y=>ns (an q (nm q (sL q fU e.di (st _ (iN (by rw[u3];rfl) HS q) (st _ (iK q q) (cu q (nt (ns (m2 q q (mv q ?_))))))))));refine st (.agg [_,_,_].toArray) (jG (ps:=[(0,0),(1,1),(2,2)]) amD amu q q Fz q q q) (bF amD ?_);intro G W g V C a;have g:=lv d.size g;have d:=d.k C;refine eY q q (by exact aja) (by simp[Value.oneCell']) a (by rfl) ?_;have p:=a;intro F C a;have d:=d.dY C g;refine nt (aD (aS ?_));refine jh (X:=T3 × List UInt8 × Value) (fun x=>[(0,x.2.2),(4,.pointer (some ⟨G,0,none⟩))]) (fun x r=>Md [] w r/\bS r G x.1.cells 272/\By w x.2.2 x.2.1/\lk x.1 x.2.1=lookup l/\x.2.1.length<=l.length) (fun x=>x.2.1.length) (Wo l,l,v) ?_ ?_ ?_
 ·exact Fz
 ·exact⟨d,a,e,q,Nat.le_refl _⟩
 clear d;clear a e;rintro x y I ⟨d,a,e,t,B⟩;refine aD (nm q (sL q fU e.di (st _ (vC q q) (nt ?_))));refine bJ q (fun H=>?_) (fun H=>?_)
 ·have z:=dT H;refine aL (aj (aS (nm q (st _ (mr 0 12 fU o7 q e.di Xx Xx q ⟨_,q⟩) (ax aiG q (UF G x.1 _ _ _ a ((e.o d).sub 0 12 Xx Xx) ((Qs e g).sub 0 12) Ym) ?_)))));have p:=a;rintro j J ⟨rfl,C,a⟩;refine rv ?_;have d:=d.dY C g;refine nt (ns (ax alz q (afY G _ _ a) ?_));have p:=a;rintro j b ⟨rfl,C,a⟩;refine rv ?_;have d:=d.dY C g;refine nt (aG (mv q (st _ (mr 12 x.2.1.length fU o7 q e.di Xx Xx ⟨_,q⟩ q) (cu q (aA (bE (aj (next ((mix (mG x.1 ((x.2.1.take 12).drop 0)),(x.2.1.take x.2.1.length).drop 12,oK x.2.2 12 x.2.1.length)) Ym Fz ?_))))))));refine⟨d,a,e.sub 12 _ Xx Xx,?_,by simp;omega⟩;rw[List.drop_zero,UY _ _ 12 Xx,List.take_length,<- Zi _ _ Xx];exact t
 have z:=dF H;refine bT (aX (aX (cJ (aj (aD (nm q (sL q fU e.di (st _ (vC q q) (nt ?_)))))))));refine bJ q (fun s=>?_) (fun s=>?_)
 ·have D:=dT s;refine ns (bF anR ?_);intro P c u E C i;have A:G≠P:=(by have:=a.lt;omega);have u:=lv d.size u;obtain⟨a,d⟩:=k2 C a d;refine nt (ns (st _ (gh am9 o7 q Xy) (mv q (CJ fU o7 q q i (e.o d) (zD _) Ym ?_))));have R:=i;intro T C i;have a:=a.vg C Xx;have d:=d.dY C u;refine aA ?_;have i:bS T P ((sY 12 x.2.1).map b8) 274:=(by rw[<- HF (m:=12) Xx];exact i);refine aj (ns (st _ (gh am9 o7 q Xy) (ax aiG q (UF G x.1 _ _ _ a (By.cF i (rY 12 _ Xx) Xy) (ajc (Ne.symm A)) (by rw[rY 12 _ Xx];omega)) ?_)));have p:=a;rintro j K ⟨rfl,C,a⟩;refine rv ?_;have d:=d.dY C g;refine nt (aG (ax al0 q (abW G _ _ a) ?_));have p:=a;rintro j f ⟨rfl,C,a⟩;refine rv ?_;have d:=d.dY C g;refine nt (ns (sf q oh (st _ (aF q iF a q) (st _ (iN (by rw[HS];rfl) nu q) (st _ (qJ q q Xx) (sf q og (st _ (aF q iF a q) (st _ (iN (by rw[HS];rfl) nu q) (st _ (zK q q) (ar q ?_))))))))));refine gX trivial q q ⟨BF (Eq.trans ?_ t),d⟩;rw[Zh x.1 x.2.1 (by intro h;rw[h]at D;simp at D) Xx,<- aad x.1 12 x.2.1];rfl
 have D:=dF s;refine aL (aj (ns (sf q oh (st _ (aF q iF a q) (st _ (iN (by rw[HS];rfl) nu q) (st _ (qJ q q Xx) (sf q og (st _ (aF q iF a q) (st _ (iN (by rw[HS];rfl) nu q) (st _ (zK q q) (ar q ?_)))))))))));refine gX trivial q q ⟨BF (Eq.trans ?_ t),d⟩;rw[show x.2.1=[]from List.eq_nil_of_length_eq_zero Xx,ajE];rfl
theorem o6 (v:Value) (l:Ly) (a:Int) (w:World) (b:By w v l) (f:0<=a) (m:a<=4611686018427387904) :
  Calls Zp 129 #[v,.int .i64 a] w fun i e=>i = .returned (.int .u32 (wu l a.toNat))/\w=e:=by
 have j:=b.dD;have d:=Md.refl [] w;refine enter (n:=29) Tryz.func129 q q q fun g=>ns (an q (ns (cu q (nt (aD (ns (cu q (nt (aS ?_)))))))));refine jh (X:=Nat) (fun k=>[(0,v),(1,.int .i64 a),(5,.int .u32 (xu l a.toNat k)),(6,.int .i64 (3-k))]) (fun k e=>w=e/\k<=4) (fun k=>4-k) 0 ?_ ?_ ?_
 ·exact Fz
 ·exact⟨q,by omega⟩
 clear d;rintro k g G ⟨rfl,hk⟩;have d:=Md.refl [] w;refine aD (nm q (st _ (qo q q) (nt ?_)));refine bJ q (fun D=>?_) (fun D=>?_)
 ·have h:=dT D;refine aL (aj (aD (aS (nm q (st _ (qJ q q Xx) (an q (ns (m2 q q (st _ (eJ q q Xx) (mv q ?_))))))))));refine sL q fU b.di (st _ (rZ q q) (nt ?_));refine bJ q (fun c=>?_) (fun c=>?_)
  ·have C:=dT c;refine aG (m2 q q (mv q (mv q (st _ (eJ q q Xx) (st _ (CC q q fU o7 b.di Xx) (st _ (CF q zC (b.o d) Xx) (st _ (iN (by rw[u5];rfl) HS q) (st _ (zK q q) (cu q (aA (bE (aj ?_))))))))))));refine aG (mv q (st _ (jO q q Xx) (an q (next (k+1) Xx ⟨q,q,dA q (aie l a k f Xx Xx),dA q Xx,tV⟩ ?_))));exact⟨q,by omega⟩
  have C:=dF c;refine aL (bE (aj (aG (mv q (st _ (jO q q Xx) (an q (next (k+1) Xx ⟨q,q,dA q (agf l a k f Xx Xx),dA q Xx,tV⟩ ?_)))))));exact⟨q,by omega⟩
 have h:=dF D;refine bT (aX (aX (cJ (aj (nm q (ar q ?_))))));exact gX trivial q q ⟨BF (by obtain rfl:k=4:=Xx;rfl),q⟩
theorem AO (v:Value) (l:Ly) (w:World) (b:By w v l) (j:l.length<=4611686018427387000) :
  Calls Zp 93 #[v] w fun a e=>a = .returned (.int .u64 (lookup l))/\w=e:=by
 have G:=b.dD;have c:=Md.refl [] w;refine enter (n:=178) Tryz.func93 q q q fun g=>ns (an q (nm q (sL q fU b.di (st _ (iN (by rw[u3];rfl) HS q) (st _ (iK q q) (cu q (nt (ns (m2 q q (cu q ?_))))))))));refine an q (aD (nm q (sL q fU b.di (st _ (lV q q) (nt ?_)))));refine bJ q (fun d=>?_) (fun d=>?_)
 ·have D:=dT d;refine nm q (st _ (iN (by rw[HS];rfl) nu q) (st _ (qJ q q Xx) (mv q (st _ (iN (by rw[HS];rfl) nu q) (st _ (zK q q) (ar q (aI ?_)))))));refine gX trivial q q ⟨BF ?_,q⟩;rw[show l=[]from List.eq_nil_of_length_eq_zero Xx];rfl
 have D:=dF d;refine aL (aj (ns (an q (aD (aS ?_)))));refine jh (X:=T3 × Nat) (fun x=>[(0,v),(3,.int .u32 x.1.x),(4,.int .u32 x.1.y),(5,.int .u32 x.1.z),(6,.int .i64 x.2)]) (fun x e=>w=e/\x.2<l.length/\lk x.1 (l.drop x.2)=lookup l) (fun x=>l.length-x.2) (Wo l,0) ?_ ?_ ?_
 ·exact Fz
 ·exact⟨q,by omega,q⟩
 clear c;rintro x g H ⟨rfl,hk,f⟩;have c:=Md.refl [] w;refine aD (nm q (sL q fU b.di (mv q (st _ (jO q q Xx) (st _ (vC q q) (nt ?_))))));refine bJ q (fun C=>?_) (fun C=>?_)
 ·have i:=dT C;refine aL (aj (aS (ns (m2 q q (mv q (Rz zX q (o6 _ _ _ _ (b.o c) Xx Xx) ?_))))));rintro a _ ⟨rfl,rfl⟩;refine st _ (iK q q) (m2 q q (mv q (st _ (eJ q q Xx) (Rz zX q (o6 _ _ _ _ (b.o c) Xx Xx) ?_))));rintro a _ ⟨rfl,rfl⟩;refine st _ (iK q q) (m2 q q (mv q (st _ (eJ q q Xx) (Rz zX q (o6 _ _ _ _ (b.o c) Xx Xx) ?_))));rintro a _ ⟨rfl,rfl⟩;refine st _ (iK q q) (cu q (cu q (an q (ns (m2 q q (st _ (iT q q) (cu q (nt (nm q (mv q ?_))))))))));refine Rz rB q (jQ _ _ _ Xy Xy) ?_;rintro a _ ⟨rfl,rfl⟩;refine st _ (eM q q) (an q (ns (m2 q q (st _ (iK q q) (cu q (nt (nm q (mv q (st _ (iT q q) (cu q ?_))))))))));refine nt (ns (m2 q q (Rz rB q (jQ _ _ _ Xy Xy) ?_)));rintro a _ ⟨rfl,rfl⟩;refine st _ (eM q q) (an q (ns (m2 q q (st _ (iK q q) ?_))))
  refine an q (ns (m2 q q (st _ (iT q q) (cu q (nt (nm q (mv q (Rz rB q (jQ _ _ _ Xy Xy) ?_))))))));rintro a _ ⟨rfl,rfl⟩;refine st _ (eM q q) (an q (ns (m2 q q (st _ (iK q q) (cu q (nt (nm q (mv q (st _ (iT q q) (cu q ?_))))))))));refine nt (ns (m2 q q (Rz rB q (jQ _ _ _ Xy Xy) ?_)));rintro a _ ⟨rfl,rfl⟩;refine st _ (eM q q) (an q (ns (m2 q q (st _ (iK q q) (cu q (nt (nm q (mv q (st _ (iT q q) (cu q ?_))))))))));refine nt (ns (m2 q q (Rz rB q (jQ _ _ _ Xy Xy) ?_)));rintro a _ ⟨rfl,rfl⟩;refine st _ (eM q q) (an q (ns (m2 q q (st _ (iK q q) (cu q (nt (nm q (mv q (st _ (iT q q) (cu q ?_))))))))));refine nt (ns (m2 q q (Rz rB q (jQ _ _ _ Xy Xy) ?_)));rintro a _ ⟨rfl,rfl⟩;refine st _ (eM q q) (an q (ns (m2 q q (st _ (iK q q) (cu q (nt (aG (mv q (st _ (eJ q q Xx) (cu q (aA ?_)))))))))));refine bE (aj (next ((mix ⟨tj (x.1.x+wu l (x.2:Int).toNat),tj (x.1.y+wu l (x.2+4:Int).toNat),tj (x.1.z+wu l (x.2+8:Int).toNat)⟩,x.2+12)) Ym ⟨q,q,q,q,dA q Oy,tV⟩ ?_));refine⟨q,by simp;omega,?_⟩;rw[<- f,Zi _ (l.drop x.2) Ym,LP,List.drop_drop]
 have i:=dF C;refine bT (aX (aX (cJ (aj (ns (m2 q q (mv q (Rz zX q (o6 _ _ _ _ (b.o c) Xx Xx) ?_))))))));rintro a _ ⟨rfl,rfl⟩;refine st _ (iK q q) (m2 q q (mv q (st _ (eJ q q Xx) (Rz zX q (o6 _ _ _ _ (b.o c) Xx Xx) ?_))));rintro a _ ⟨rfl,rfl⟩;refine st _ (iK q q) (m2 q q (mv q (st _ (eJ q q Xx) (Rz zX q (o6 _ _ _ _ (b.o c) Xx Xx) ?_))));rintro a _ ⟨rfl,rfl⟩;refine st _ (iK q q) (cu q (cu q (an q (ns (m2 q q (st _ (eM q q) (cu q (nt (nm q (mv q ?_))))))))));refine Rz rB q (jQ _ _ _ Xy Xy) ?_;rintro a _ ⟨rfl,rfl⟩;refine st _ (iT q q) (an q (ns (m2 q q (st _ (eM q q) (cu q (nt (nm q (mv q (Rz rB q (jQ _ _ _ Xy Xy) ?_)))))))));rintro a _ ⟨rfl,rfl⟩;refine st _ (iT q q) (an q (ns (m2 q q (st _ (eM q q) (cu q (nt (nm q (mv q ?_))))))))
 refine Rz rB q (jQ _ _ _ Xy Xy) ?_;rintro a _ ⟨rfl,rfl⟩;refine st _ (iT q q) (an q (ns (m2 q q (st _ (eM q q) (cu q (nt (nm q (mv q (Rz rB q (jQ _ _ _ Xy Xy) ?_)))))))));rintro a _ ⟨rfl,rfl⟩;refine st _ (iT q q) (an q (ns (m2 q q (st _ (eM q q) (cu q (nt (nm q (mv q (Rz rB q (jQ _ _ _ Xy Xy) ?_)))))))));rintro a _ ⟨rfl,rfl⟩;refine st _ (iT q q) (an q (ns (m2 q q (st _ (eM q q) (cu q (nt (nm q (mv q (Rz rB q (jQ _ _ _ Xy Xy) ?_)))))))));rintro a _ ⟨rfl,rfl⟩;refine st _ (iT q q) (an q (ns (m2 q q (st _ (eM q q) (cu q (nt (nm q (mv q (Rz rB q (jQ _ _ _ Xy Xy) ?_)))))))));rintro a _ ⟨rfl,rfl⟩;refine st _ (iT q q) (an q (nm q (st _ (iN (by rw[HS];rfl) nu q) (st _ (qJ q q Xx) (mv q (st _ (iN (by rw[HS];rfl) nu q) (st _ (zK q q) ?_)))))));refine ar q ?_;refine gX trivial q q ⟨BF ?_,q⟩;rw[<- f,Zh _ _ (by intro h;have:=congrArg List.length h;simp at this;omega) Ym,<- LP];rfl
theorem LW (b:Nat) (v:S4) (n t:Int) (rest:Value) (w:World) (a:bS w b (v.cells n rest) 282) (i:0<=t) (y:t<=100) :
  Calls Zp 190 #[.pointer (some ⟨b,0,none⟩),.int .i64 t] w fun f c=>f = .returned (.tuple #[])/\Md [b] w c/\bS c b ((er t.toNat v).cells n rest) 282:=by
 have d:=Md.refl [b] w;refine enter (n:=76) Tryz.func190 q q q ?_;intro g;refine aD (BL (fun c=>Md [] w c) mixed Xw (Md.drew w) (qz _ (fun c m=>aM q) (qz _ (fun c m=>cC q) (qz _ (fun c m=>aJ q rV) (qz _ (fun c m=>aF q bh (a.o m) q) (qz _ (fun c m=>aM q) (qz _ (fun c m=>cC q) (qz _ (fun c m=>aJ q xO) (qz _ (fun c m=>aF q bh (a.o m) q) (qz _ (fun c m=>aM q) (qz _ (fun c m=>cC q) (qz _ (fun c m=>aJ q rW) (qz _ (fun c m=>aF q bh (a.o m) q) ?_)))))))))))));refine qz _ (fun c m=>aM q) (qz _ (fun c m=>cC q) (qz _ (fun c m=>aJ q rX) (qz _ (fun c m=>aF q bh (a.o m) q) (qz _ (fun c m=>eX q) (qz _ (fun c m=>eX q) (qz _ (fun c m=>eX q) (qz _ (fun c m=>eX q) (ZL ?_))))))));intro j e;obtain⟨a,d⟩:=k2 e a d;refine aj (aD (ns (m2 q q (nt (aS ?_)))));refine jh (X:=Nat) (fun k=>[(0,.pointer (some ⟨b,0,none⟩)),(4,.int .u64 (er k v).p),(5,.int .u64 (er k v).q),(6,.int .u64 (er k v).r),(7,.int .u64 (er k v).s),(24,.int .i64 t),(25,.int .i64 k)]) (fun k c=>Md [b] w c/\bS c b (v.cells n rest) 282/\(k:Int)<=t) (fun k=>(t-k).toNat) 0 ?_ ?_ ?_
 ·exact Fz
 ·exact⟨d,a,i⟩
 clear d;clear a;rintro k g G ⟨d,a,hk⟩;refine ns (st _ (rZ q q) (nt (aD ?_)));refine bJ q (fun C=>?_) (fun C=>?_)
 ·have h:=dT C;refine aL (aj (aD (aS (ns (m2 q q (st _ (iK q q) (an q (nm q (Rz JW q (pF _ _ _ Xy Xy) ?_)))))))));rintro f _ ⟨rfl,rfl⟩;refine mv q (st _ (eM q q) (an q (nm q (Rz JW q (pF _ _ _ Xy Xy) ?_))));rintro f _ ⟨rfl,rfl⟩;refine an q (ns (m2 q q (st _ (iK q q) (cu q (nt (nm q (Rz JW q (pF _ _ _ Xy Xy) ?_)))))));rintro f _ ⟨rfl,rfl⟩;refine mv q (st _ (eM q q) (an q (ns (m2 q q (st _ (iK q q) (cu q (nt (nm q (Rz JW q (pF _ _ _ Xy Xy) ?_)))))))));rintro f _ ⟨rfl,rfl⟩;refine mv q (st _ (eM q q) (an q (ns (m2 q q (st _ (iK q q) (cu q (nt (nm q (Rz JW q (pF _ _ _ Xy Xy) ?_)))))))));rintro f _ ⟨rfl,rfl⟩;refine mv q (st _ (eM q q) (an q (aG (mv q ?_))))
  refine Rz JW q (pF _ _ _ Xy Xy) ?_;rintro f _ ⟨rfl,rfl⟩;refine cu q (aA (bE (aj (aG (st _ (eJ q q Xx) (mv q (nt (next (k+1) Xx Fz ?_))))))));exact⟨d,a,by omega⟩
 have h:=dF C;refine bT (aX (aX (cJ (aj (aG (m2 q q (mv q (mv q (mv q (mv q (mv q (mv q ?_))))))))))));refine sn q (sf q rV (bn q q bh q a (lB q) ?_));have D:=a;intro H e a;have d:=d.gU e Oy;refine sn q (sf q xO (bn q q bh q a (lB q) ?_));have D:=a;intro l e a;have d:=d.gU e Oy;refine sn q (sf q rW (bn q q bh q a (lB q) ?_));have D:=a;intro u e a;have d:=d.gU e Oy;refine sn q (sf q rX (bn q q bh q a (lB q) ?_));have D:=a;intro x e a;have d:=d.gU e Oy;refine aA ?_;obtain rfl:(k:Int)=t:=Xx;exact abA trivial q ⟨q,d,a⟩
theorem Xe (b:Nat) (v:S4) (n:Int) (rest:Value) (w:World) (d:bS w b (v.cells n rest) 282) :
  Calls Zp 190 #[.pointer (some ⟨b,0,none⟩),.int .i64 2] w fun c a=>c = .returned (.tuple #[])/\Md [b] w a/\bS a b ((er 2 v).cells n rest) 282 :=
 LW b v n 2 rest w d Xy Xy
theorem Xi (b:Nat) (v:S4) (n:Int) (rest:Value) (w:World) (d:bS w b (v.cells n rest) 282) :
  Calls Zp 190 #[.pointer (some ⟨b,0,none⟩),.int .i64 4] w fun c a=>c = .returned (.tuple #[])/\Md [b] w a/\bS a b ((er 4 v).cells n rest) 282 :=
 LW b v n 4 rest w d Xy Xy
theorem MD (b:Nat) (v:S4) (n m:Int) (rest:Value) (w:World) (a:bS w b (v.cells n rest) 282) :
  Calls Zp 189 #[.pointer (some ⟨b,0,none⟩),.int .u64 m] w fun e f=>e = .returned (.tuple #[])/\Md [b] w f/\bS f b ((pA v m).cells n rest) 282:=by
 have c:=Md.refl [b] w;refine enter (n:=22) Tryz.func189 q q q fun g=>nm q (sn q (sf q rX (st _ (aF q bh a q) (mv q (st _ (eM q q) (sn q (sf q rX (bn q q bh q a (lB q) ?_))))))));have d:=a;intro D C a;have c:=c.gU C Oy;refine aA ?_;have a:=(akr v m n rest) ▸ a;refine aj (nm q (ax aiJ q (Xe b _ _ _ _ a) ?_));have d:=a;rintro e h ⟨rfl,C,a⟩;refine rv ?_;have c:=c.gU C Oy;refine nt (aG (mv q (sn q (sf q rV (st _ (aF q bh a q) (mv q (st _ (eM q q) (sn q (sf q rV (bn q q bh q a (lB q) ?_))))))))));have d:=a;intro i C a;have c:=c.gU C Oy;refine aA ?_;have a:=(akp _ m n rest) ▸ a;exact abA trivial q ⟨q,c,a⟩
theorem ahl (key:Ly) (w:World) (hk:key.length=16) :
  Calls Zp 179 #[.agg (key.map b8).toArray] w fun d e=>∃b,d = .returned (.pointer (some ⟨b,0,none⟩))/\w.heap.size<=b/\b<e.heap.size/\Md [] w e/\bS e b ((qN key).cells 0 SN) 282:=by
 have a:=Md.refl [] w;refine enter (n:=27) Tryz.func179 q q q fun i=>ns (dR q q ?_);intro h m g j D C;have g:=lv a.size g;have a:=a.k D;refine an q (ns (st _ (gh u48 o7 q Xy) (Rz rC q (wj _ key 0 8 _ (By.cF C hk Xy) Xy Xy (by rw[hk];decide)) ?_)));rintro d _ ⟨rfl,rfl⟩;refine mv q (se q q (se q q (cu q (an q (ns (st _ (gh u48 o7 q Xy) (Rz rC q (wj _ key 8 8 _ (By.cF C hk Xy) Xy Xy (by rw[hk];decide)) ?_)))))));rintro d _ ⟨rfl,rfl⟩;refine mv q (se q q (se q q (cu q (an q (nm q (st _ (eM q q) (mv q (st _ (eM q q) (mv q (st _ (eM q q) (mv q ?_)))))))))));refine st _ (eM q q) (st (.agg [_,_,_,_,_,_].toArray) (jG (ps:=[(0,0),(1,1),(2,2),(3,3)]) ak4 aiU q q Fz q q q) (dR q q ?_));intro f o c l D G;have H:h≠f:=(by have:=C.lt;omega);have c:=lv a.size c;have a:=a.k D;refine ar q ?_;refine gX trivial q q ⟨f,q,c,?_,a,G⟩;exact G.lt
theorem agv (b:Nat) (v:S4) (n:Int) (rest:Value) (k:Ly) (s:Value) (l:Ly) (w:World) (a:bS w b (v.cells n rest) 282) (c:Own w 5 1 rest k.length (k.map b8)) (p:k.length<8) (i:By w s l) (o:Apart s l (b :: (ah rest).toList)) (N:0<=n) (O:n+l.length<=4611686018427387904) :
  Calls Zp 180 #[.pointer (some ⟨b,0,none⟩),s] w fun y e=>y = .returned (.tuple #[])/\∃z,Md (b :: (ah rest).toList) w e/\bS e b ((kr v (k ++ l)).1.cells (n+l.length) z) 282/\Own e 5 1 z (kr v (k ++ l)).2.length ((kr v (k ++ l)).2.map b8)/\(∀g,ah z=some g->ah rest=some g\/w.heap.size<=g):=by
 have d:=Md.refl (b :: (ah rest).toList) w;refine enter (n:=67) Tryz.func180 q q q fun B=>nm q (sn q (sf q GJ (st _ (aF q iE a q) (mv q (sL q fU i.di (st _ (eJ q q Xx) (sn q (sf q GJ (bn q q iE q a (lB q) ?_)))))))));have D:=a;intro J f a;have c:=c.vg D q f;have d:=d.gU f Oy;refine nt (aS ?_);refine jh (X:=S4 × Value × List UInt8 × Value × List UInt8) (fun x=>[(0,.pointer (some ⟨b,0,none⟩)),(1,x.2.2.2.1)]) (fun x e=>Md (b :: (ah rest).toList) w e/\bS e b (x.1.cells (n+l.length) x.2.1) 282/\Own e 5 1 x.2.1 x.2.2.1.length (x.2.2.1.map b8)/\By w x.2.2.2.1 x.2.2.2.2/\Apart x.2.2.2.1 x.2.2.2.2 (b :: (ah rest).toList)/\x.2.2.1.length<8/\kr x.1 (x.2.2.1 ++ x.2.2.2.2)=kr v (k ++ l)/\(∀g,ah x.2.1=some g->ah rest=some g\/w.heap.size<=g)/\x.2.2.2.2.length<=l.length) (fun x=>x.2.2.2.2.length) (v,rest,k,s,l) ?_ ?_ ?_
 ·exact Fz
 ·exact⟨d,a,c,i,o,p,q,fun _ h=>.inl h,Nat.le_refl _⟩
 clear d;clear a c i o p;rintro x B T ⟨d,a,c,i,o,p,C,u,R⟩;refine aD (nm q (sL q fU i.di (st _ (vC q q) (nt ?_))));refine bJ q (fun H=>?_) (fun H=>?_)
 ·have E:=dT H;refine aL (aj (aS (nm q (sn q (sf q om (st _ (aF q fO a q) (st _ (jx q fU (By.sH c).di) (st _ (jO q q Xx) (mv q (sL q fU i.di (st _ ((aiV q q).jB (anD _ _ p)) (cu q ?_))))))))))));refine nt (aD (DK [(0,true),(1,true),(2,true),(3,true),(5,true),(6,true),(7,true),(4,false),(8,false),(9,true),(10,true),(11,false)] (fun e=>True) mixed Xw ?_));intro K f;obtain⟨a,c,d⟩:=k3 f a c d;refine⟨trivial,?_⟩;refine m _ (fun e j=>aM q) (m _ (fun e j=>aM q) (m _ (fun e j=>cC q) (m _ (fun e j=>aJ q om) (m _ (fun e j=>aM q) (m _ (fun e j=>aM q) (m _ (fun e j=>mr 0 (min (8-x.2.2.1.length) x.2.2.2.2.length) fU o7 q i.di Xx Xx q ⟨_,q⟩) ?_))))));refine mM ?_ rfl;refine st _ (aF q fO a q) ?_;refine aA ⟨q,trivial,?_⟩;refine mM ?_ rfl;refine XE fU js q q c ((i.md d o).head (min (8-x.2.2.1.length) x.2.2.2.2.length) Xx) Ym ?_;intro P V A f _ I;have Q:=d;have a:=a.mdO c q f;have d:=d.cT f (fun b h=>(u b h).imp (fun h=>by simp[h]) id);have G:∀b,ah P=some b->ah rest=some b\/w.heap.size<=b:=fun b h=>(I b h).elim (fun h=>u b h) (fun h=>.inr (lv Q.size h));have c:=A;refine aA ⟨q,trivial,?_⟩;refine m _ (fun e j=>cC q) (m _ (fun e j=>aJ q om) ?_);refine mM ?_ rfl;refine bn q q fO (Sl.bA (By.sH c)) a (lB q) ?_;have D:=a;intro W f a;have c:=c.vg D q f;have d:=d.gU f Oy;refine aA ⟨q,trivial,?_⟩;refine dH (aj (ns (m2 q q (st _ (mr (min (8-x.2.2.1.length) x.2.2.2.2.length) x.2.2.2.2.length fU o7 q i.di Xx Xx ⟨_,q⟩ q) ?_))))
  refine an q (nm q (sn q (sf q om (st _ (aF q fO a q) (st _ (jx q fU (By.sH c).di) (st _ (lV q q) (nt ?_)))))));refine bJ q (fun t=>?_) (fun t=>?_)
  ·have r:=dT t;refine nm q (sn q (sf q om (st _ (aF q fO a q) (Rz rC q (wj _ _ 0 8 _ (By.sH c) Xy Xy Xx) ?_))));rintro y _ ⟨rfl,rfl⟩;refine mv q (se q q (se q q (cu q (an q (ns (m2 q q (ax aiI q (MD b x.1 _ _ _ _ a) ?_)))))));have D:=a;rintro y L ⟨rfl,f,a⟩;refine rv ?_;have c:=c.vg D q f;have d:=d.gU f Oy;refine nt (aG (m2 q q (sn q (sf q om (st _ (aF q fO a q) (st _ (mr 0 0 fU o7 q (By.sH c).di Xx Xx q ⟨_,q⟩) (sn q (sf q om (bn q q fO (Sl.bA ((By.sH c).head 0 (Nat.zero_le _))) a (lB q) ?_)))))))));have D:=a;intro M f a;have c:=c.vg D q f;have d:=d.gU f Oy;refine aA (bE (aj (next ((pA x.1 (iA (((x.2.2.1 ++ x.2.2.2.2.take (min (8-x.2.2.1.length) x.2.2.2.2.length)).drop 0).take 8)),oK P 0 0,[],oK x.2.2.2.1 (min (8-x.2.2.1.length) x.2.2.2.2.length) x.2.2.2.2.length,x.2.2.2.2.drop (min (8-x.2.2.1.length) x.2.2.2.2.length))) Ym Fz ?_)));refine⟨d,a,c.amI,i.tail _ Xx,o.tail _,by simp,?_,fun b h=>G b (UM h),by simp;omega⟩;rw[<- C];exact(ac1 _ _ _ p (by simp at r;omega)).symm
  have r:=dF t;refine aL (bE (aj (next ((x.1,P,x.2.2.1 ++ x.2.2.2.2.take (min (8-x.2.2.1.length) x.2.2.2.2.length),oK x.2.2.2.1 (min (8-x.2.2.1.length) x.2.2.2.2.length) x.2.2.2.2.length,x.2.2.2.2.drop (min (8-x.2.2.1.length) x.2.2.2.2.length))) Ym Fz ?_)));refine⟨d,a,c,i.tail _ Xx,o.tail _,by simp at r ⊢;omega,?_,G,by simp;omega⟩;rw[<- C];exact(ac2 _ _ _ _).symm
 have E:=dF H;refine bT (aX (aX (cJ ?_)));have F:x.2.2.2.2=[]:=List.eq_nil_of_length_eq_zero Xx;rw[F,List.append_nil,qM _ _ p]at C;refine abA trivial q ⟨q,x.2.1,d,?_,?_,u⟩
 ·rw[<- C];exact a
 rw[<- C];exact c
theorem ach (b:Nat) (v:S4) (n:Int) (rest:Value) (i:Ly) (w:World) (h:bS w b (v.cells n rest) 282) (j:Own w 5 1 rest i.length (i.map b8)) (L:i.length<8) (A:0<=n) :
  Calls Zp 181 #[.pointer (some ⟨b,0,none⟩)] w fun s a=>s = .returned (.int .u64 (HD v i n))/\Md [] w a:=by
 have e:=Md.refl [] w;refine enter (n:=59) Tryz.func181 q q q fun B=>ns (an q (ns (bF anS ?_)));intro l E r V d g;have Q:b≠l:=(by have:=h.lt;omega);have r:=lv e.size r;obtain⟨h,j,e⟩:=k3 d h j e;refine nt (aD (DK [(0,true),(1,true),(2,true),(3,true),(4,false),(5,false)] (fun a=>True) mixed Xw ?_));intro F d;obtain⟨h,j,g,e⟩:=k4 d h j g e;refine⟨trivial,?_⟩;refine m _ (fun a C=>gh ak2 o7 q Xy) (m _ (fun a C=>aM q) (m _ (fun a C=>cC q) (m _ (fun a C=>aJ q om) ?_)));refine mM ?_ rfl;refine st _ (aF q fO h q) ?_;refine aA ⟨q,trivial,?_⟩;refine mM ?_ rfl;refine CJ fU o7 q q g (By.sH j) (zD _) Ym ?_;have y:=g;intro z d g;have h:=h.vg d Xx;have e:=e.dY d r;refine aA ⟨q,trivial,?_⟩;refine dH ?_;have g:bS z l ((sY 8 i).map b8) 283:=(by rw[<- HF (m:=8) Xx];exact g);refine aj (nm q (sn q (sf q GJ (st _ (aF q iE h q) (st _ (iN (by rw[u3];rfl) u5 q) (st _ (fw q q ak2 o7 Xx) (bn q q zC q g (by rw[List.length_map,rY 8 i Xx];decide) ?_)))))));have y:=g;intro u d g;have h:=h.vg d Xx;have e:=e.dY d r;refine aA ?_;have g:bS u l ((ku i n).map b8) 283:=(by rw[<- IY i n A];exact g);refine aj (ns (st _ (gh ak2 o7 q Xy) (Rz rC q (wj _ (ku i n) 0 8 _ (By.cF g (u7 i n Xx) Xy) Xy Xy (by rw[u7 i n Xx];decide)) ?_)));rintro s _ ⟨rfl,rfl⟩;refine mv q (se q q ?_);refine se q q (cu q (an q (aD ?_)));have k:=h;refine DK [(0,true),(1,true),(2,true),(3,true),(4,true),(5,true),(6,true),(7,true),(8,true),(9,true),(10,true),(11,true),(12,true),(13,true),(14,true),(15,true),(16,true),(17,false),(18,false)] (fun a=>Md [] u a) mixed Xw ?_;intro I d;have G:=d;obtain⟨h,g,e⟩:=k3 d h g e;refine⟨G,?_⟩;refine m _ (fun a C=>aM q) (m _ (fun a C=>cC q) (m _ (fun a C=>aJ q rV) (m _ (fun a C=>aF q bh (k.o C) q) (m _ (fun a C=>aM q) (m _ (fun a C=>cC q) (m _ (fun a C=>aJ q xO) (m _ (fun a C=>aF q bh (k.o C) q) (m _ (fun a C=>aM q) (m _ (fun a C=>cC q) (m _ (fun a C=>aJ q rW) (m _ (fun a C=>aF q bh (k.o C) q) (m _ (fun a C=>aM q) (m _ (fun a C=>cC q) ?_)))))))))))));refine m _ (fun a C=>aJ q rX) (m _ (fun a C=>aF q bh (k.o C) q) (m (.agg [_,_,_,_,_,_].toArray) (fun a C=>jG (ps:=[(0,0),(1,1),(2,2),(3,3)]) ak4 aiU q q Fz q q q) ?_));refine mM ?_ rfl;refine bF ak4 ?_;intro p J H W d D;have R:b≠p:=(by have:=h.lt;omega);have P:l≠p:=(by have:=g.lt;omega);have x:=lv G.size H;have H:=lv e.size H;obtain⟨G,e⟩:=k2 d G e;refine aA ⟨q,G,?_⟩;refine mM ?_ rfl;refine eY q q (by exact ajb) (by simp[Value.oneCell']) D (by rfl) ?_;have t:=D;intro c d D;have G:=G.dY d x;have e:=e.dY d H;refine aA ⟨q,G,?_⟩;refine dH (aj (nm q (ax aiI q (MD p v 0 _ _ _ D) ?_)));have t:=D;rintro s K ⟨rfl,d,D⟩;refine rv ?_;have e:=e.dY d H;refine nt (ns (sf q rW (st _ (aF q bh D q) (st _ (eM q q) (sf q rW (bn q q bh q D (lB q) ?_))))));have t:=D;intro f d D;have e:=e.dY d H;refine aA ?_;have D:=(akq _ 255 0 SN) ▸ D;refine aj (ns (ax aiJ q (Xi p _ _ _ _ D) ?_));have t:=D;rintro s T ⟨rfl,d,D⟩;refine rv ?_;have e:=e.dY d H;refine nt (ns (sf q rV (st _ (aF q bh D q) (sf q xO (st _ (aF q bh D q) (st _ (eM q q) (sf q rW (st _ (aF q bh D q) (st _ (eM q q) (sf q rX (st _ (aF q bh D q) (st _ (eM q q) (cu q ?_)))))))))))));refine nt (iI ?_);exact gX trivial q q ⟨q,e⟩
theorem ahR (key:Ly) (s:Value) (l:Ly) (w:World) (hk:key.length=16) (i:By w s l) (v:l.length<=4611686018427387000) :
  Calls Zp 171 #[.agg (key.map b8).toArray,s] w fun c p=>c = .returned (.int .u64 (sip key l))/\Md [] w p:=by
 have a:=Md.refl [] w;refine enter (n:=13) Tryz.func171 q q q fun r=>ns (dR q q ?_);intro P u e Q b f;have e:=lv a.size e;have a:=a.k b;refine an q (ns (st _ (nJ q (by rw[(by simpa using hk:(key.map b8).length=16)];exact mN) f) (Rz al1 q (ahl key _ hk) ?_)));rintro c G ⟨d,rfl,D,R,b,h⟩;have D:=lv a.size D;have a:=a.k b;have g:Own G 5 1 SN ([]:Ly).length (([]:Ly).map b8):=Own.nil _ _ _;refine an q (ns (m2 q q (Rz al3 q (agv d (qN key) 0 SN [] s l _ h g Xy (i.o a) (Qs i D) Xy Xx) ?_)));rintro c H ⟨rfl,C,b,m,j,t⟩;have a:Md [] w H:=a.dY b D;refine nt (nm q (Rz al4 q (ach d _ _ C _ _ m j (XB _ _ _ (Nat.le_refl _)) Xx) ?_));rintro c T ⟨rfl,b⟩;have a:=a.k b;refine ar q ?_;exact gX trivial q q ⟨BF (by simp[sip]),a⟩
theorem ajP (k:Bool) (key:Ly) (s:Value) (l:Ly) (w:World) (hk:key.length=16) (e:By w s l) (g:l.length<=4611686018427387000) :
  Calls Zp 159 #[.bool k,.agg (key.map b8).toArray,s] w fun c h=>c = .returned (.int .u64 (if k then sip key l else lookup l))/\Md [] w h:=by
 have a:=Md.refl [] w;refine enter (n:=13) Tryz.func159 q q q fun i=>ns (dR q q ?_);intro G j d H b f;have d:=lv a.size d;have a:=a.k b;refine an q (aD (nm q (nt ?_)));refine bJ q (fun C=>?_) (fun C=>?_)
 ·have D:=C;refine ns (st _ (nJ q (by rw[(by simpa using hk:(key.map b8).length=16)];exact mN) f) (mv q (Rz alv q (ahR key s l _ hk (e.o a) g) ?_)));rintro c m ⟨rfl,b⟩;have a:=a.k b;refine ar q (aI ?_);exact gX trivial q q ⟨BF (by simp_all),a⟩
 have D:=C;refine aL (aj (nm q (Rz aiD q (FP s l _ (e.o a)) ?_)));rintro c p ⟨rfl,b⟩;have a:=a.k b;refine ar q ?_;exact gX trivial q q ⟨BF (by simp_all),a⟩
theorem uN (v:Value) (l:Ly) (a:Int) (w:World) (c:By w v l) (e:0<=a) (i:a<=4611686018427387000) :
  Calls Zp 127 #[v,.int .i64 a] w fun b f=>b = .returned (.int .u64 (vA l a.toNat))/\w=f:=by
 have g:=c.dD;have d:=Md.refl [] w;refine enter (n:=16) Tryz.func127 q q q fun h=>ns (an q (ns (m2 q q (Rz zX q (o6 _ _ _ _ (c.o d) Xx Xx) ?_))));rintro b _ ⟨rfl,rfl⟩;refine st _ (iN (by rw[HS];rfl) nu q) (m2 q q (st _ (eJ q q Xx) (Rz zX q (o6 _ _ _ _ (c.o d) Xx Xx) ?_)));rintro b _ ⟨rfl,rfl⟩;refine st _ (iN (by rw[HS];rfl) nu q) (st _ (qJ q q Xx) (st _ (zK q q) (ar q ?_)));exact gX trivial q q ⟨BF (acT l a e),q⟩
theorem AQ (v:S4) (t:Int) (w:World) (l:0<=t) (A:t<=100) :
  Calls Zp 128 #[.agg v.arr.toArray,.int .i64 t] w fun d a=>d = .returned (.agg (er t.toNat v).arr.toArray)/\Md [] w a:=by
 have b:=Md.refl [] w;refine enter (n:=64) Tryz.func128 q q q fun h=>ns (dR q q ?_);intro j Q f P C D;have f:=lv b.size f;have b:=b.k C;refine bF z210 ?_;intro G g H y C c;have u:j≠G:=(by have:=D.lt;omega);have H:=lv b.size H;obtain⟨D,b⟩:=k2 C D b;refine nt (aD (BL (fun a=>Md [] g a) mixed Xw (Md.drew g) (qz _ (fun a m=>fw q q tf eV Xx) (qz _ (fun a m=>aF q bh (D.o m) q) (qz _ (fun a m=>fw q q tf eV Xx) (qz _ (fun a m=>aF q bh (D.o m) q) (qz _ (fun a m=>fw q q tf eV Xx) (qz _ (fun a m=>aF q bh (D.o m) q) (qz _ (fun a m=>fw q q tf eV Xx) (qz _ (fun a m=>aF q bh (D.o m) q) (qz _ (fun a m=>eX q) (qz _ (fun a m=>eX q) (qz _ (fun a m=>eX q) ?_)))))))))))));refine qz _ (fun a m=>eX q) (ZL ?_);intro R C;obtain⟨c,b⟩:=k2 C c b;refine aj (aD (ns (an q (aS ?_))));refine jh (X:=Nat) (fun k=>[(1,.int .i64 t),(4,.pointer (some ⟨G,0,none⟩)),(5,.int .u64 (er k v).p),(6,.int .u64 (er k v).q),(7,.int .u64 (er k v).r),(8,.int .u64 (er k v).s),(9,.int .i64 k)]) (fun k a=>Md [] w a/\bS a G [.int .u64 0,.int .u64 0,.int .u64 0,.int .u64 0] 210/\(k:Int)<=t) (fun k=>(t-k).toNat) 0 ?_ ?_ ?_
 ·exact Fz
 ·exact⟨b,c,l⟩
 clear b;clear c D;rintro k h z ⟨b,c,hk⟩;refine aD (ns (m2 q q (st _ (rZ q q) (nt ?_))));refine bJ q (fun e=>?_) (fun e=>?_)
 ·have i:=dT e;refine aL (aj (aD (aS (ns (m2 q q (st _ (iK q q) (an q (nm q (Rz JV q (zN _ _ _ Xy Xy) ?_)))))))));rintro d _ ⟨rfl,rfl⟩;refine an q (ns (m2 q q (st _ (eM q q) (cu q (nt (nm q (Rz JV q (zN _ _ _ Xy Xy) ?_)))))));rintro d _ ⟨rfl,rfl⟩;refine an q (ns (m2 q q (st _ (iK q q) (cu q (nt (nm q (Rz JV q (zN _ _ _ Xy Xy) ?_)))))));rintro d _ ⟨rfl,rfl⟩;refine an q (ns (m2 q q (st _ (eM q q) (cu q (nt (nm q (mv q (st _ (iK q q) (cu q (nt ?_))))))))));refine nm q (Rz JV q (zN _ _ _ Xy Xy) ?_);rintro d _ ⟨rfl,rfl⟩;refine an q (ns (m2 q q (st _ (eM q q) (cu q (nt (nm q (mv q (st _ (iK q q) (cu q ?_)))))))))
  refine nt (nm q (Rz JV q (zN _ _ _ Xy Xy) ?_));rintro d _ ⟨rfl,rfl⟩;refine an q (ns (m2 q q (st _ (eM q q) (cu q (nt (aG (mv q (Rz JV q (zN _ _ _ Xy Xy) ?_))))))));rintro d _ ⟨rfl,rfl⟩;refine cu q (aA (bE (aj (aG (mv q (st _ (eJ q q Xx) (an q (next (k+1) Xx Fz ?_))))))));exact⟨b,c,by omega⟩
 have i:=dF e;refine bT (aX (aX (cJ (aj (ns (m2 q q (mv q (mv q (st (.agg [_,_,_,_].toArray) (jG (ps:=[(0,0),(1,1),(2,2),(3,3)]) z210 aiR q q Fz q q q) (eY q q (by exact sB) (by simp[Value.oneCell']) c (by rfl) ?_))))))))));have x:=c;intro T C c;have b:=b.dY C H;refine nt (iI ?_);obtain rfl:(k:Int)=t:=Xx;exact am3 trivial q q (by exact sB) c ⟨q,b⟩
theorem yt (v:S4) (w:World):Calls Zp 128 #[.agg v.arr.toArray,.int .i64 2] w fun a b=>a = .returned (.agg (er 2 v).arr.toArray)/\Md [] w b :=
 AQ v 2 w Xy Xy
theorem OV (v:S4) (w:World):Calls Zp 128 #[.agg v.arr.toArray,.int .i64 4] w fun a b=>a = .returned (.agg (er 4 v).arr.toArray)/\Md [] w b :=
 AQ v 4 w Xy Xy
theorem afD (key:Ly) (s:Value) (l:Ly) (w:World) (hk:key.length=16) (r:By w s l) (N:l.length<=4611686018427387000) :
  Calls Zp 92 #[.agg (key.map b8).toArray,s] w fun p j=>p = .returned (.int .u64 (sip key l))/\Md [] w j:=by
 have P:=r.dD;have d:=Md.refl [] w;refine enter (n:=84) Tryz.func92 q q q fun A=>ns (dR q q ?_);intro R F z b C H;have z:=lv d.size z;have d:=d.k C;refine an q (aD (DK [(0,true),(2,true),(1,false),(3,false),(4,true),(5,true)] (fun j=>Md [] F j) mixed Xw ?_));intro M C;have u:=C;obtain⟨H,d⟩:=k2 C H d;refine⟨u,?_⟩;refine m _ (fun j y=>gh u48 o7 q Xy) (m _ (fun j y=>gh u48 o7 q Xy) ?_);refine mM ?_ rfl;refine Rz YM q (uN _ key 0 _ (By.cF H hk Xy) Xy Xy) ?_;rintro p _ ⟨rfl,rfl⟩;refine aA ⟨q,u,?_⟩;refine mM ?_ rfl;refine Rz YM q (uN _ key 8 _ (By.cF H hk Xy) Xy Xy) ?_;rintro p _ ⟨rfl,rfl⟩;refine aA ⟨q,u,?_⟩;refine m _ (fun j y=>eX q) (m _ (fun j y=>eX q) (dH (aj (nm q (st _ (eM q q) (mv q (st _ (eM q q) (mv q (st _ (eM q q) (mv q (st _ (eM q q) (st (.agg [_,_,_,_].toArray) (jG (ps:=[(0,0),(1,1),(2,2),(3,3)]) z210 aiR q q Fz q q q) ?_))))))))))));refine bF z210 ?_;intro v f e c C a;have Q:R≠v:=(by have:=H.lt;omega);have e:=lv d.size e;have d:=d.k C;refine eY q q (by exact sB) (by simp[Value.oneCell']) a (by rfl) ?_;have D:=a;intro g C a;have d:=d.dY C e;refine nt (ns (an q (aD (aS ?_))));refine jh (X:=S4 × Nat) (fun x=>[(1,s),(7,.pointer (some ⟨v,0,none⟩)),(8,.int .i64 x.2)]) (fun x j=>Md [] w j/\bS j v x.1.arr 210/\x.2<=l.length/\kr x.1 (l.drop x.2)=kr (qN key) l) (fun x=>l.length-x.2) (qN key,0) ?_ ?_ ?_
 ·exact Fz
 ·refine⟨d,?_,Nat.zero_le _,q⟩;rw[TY key hk];exact a
 clear d;clear a H;rintro x A h ⟨d,a,E,t⟩;refine aD (nm q (st _ (eJ q q Xx) (mv q (sL q fU r.di (st _ (yh q q) (nt ?_))))));refine bJ q (fun G=>?_) (fun G=>?_)
 ·have B:=dT G;refine aL (aj (aS (ns (m2 q q (Rz YM q (uN s l _ _ (r.o d) Xx Xx) ?_)))));rintro p _ ⟨rfl,rfl⟩;refine an q (ns (st _ (fw q q tf eV Xx) (st _ (aF q bh a q) (mv q (st _ (eM q q) (st _ (fw q q tf eV Xx) (bn q q bh q a (lB q) ?_)))))));have D:=a;intro i C a;have d:=d.dY C e;refine aA ?_;have a:=(acD _ (vA l (x.2:Int).toNat)) ▸ a;refine aj (ns (st _ (nJ q (by exact sB) a) (Rz adw q (yt _ _) ?_)));rintro p O ⟨rfl,C⟩;obtain⟨a,d⟩:=k2 C a d;refine eY q q (by exact sB) (S4.MR _) a (by rw[S4.uJ,S4.uJ]) ?_;have D:=a;intro k C a;have d:=d.dY C e;refine nt (ns (st _ (fw q q tf eV Xx) (st _ (aF q bh a q) (mv q (st _ (eM q q) (st _ (fw q q tf eV Xx) (bn q q bh q a (lB q) ?_)))))));have D:=a;intro o C a;have d:=d.dY C e;refine aA ?_;have a:=(acC _ (vA l (x.2:Int).toNat)) ▸ a;refine aj (aG (mv q (st _ (eJ q q Xx) (cu q (aA (bE (aj (next ((pA x.1 (iA ((l.drop x.2).take 8)),x.2+8)) Ym ⟨q,q,dA q Oy,tV⟩ ?_))))))));refine⟨d,?_,by simp;omega,?_⟩
  ·unfold pA;rw[xA l x.2 Xx];exact a
  rw[<- t,uz _ (l.drop x.2) Ym,List.drop_drop]
 have B:=dF G;refine bT (aX (aX (cJ (aj (ns (m2 q q (Rz YM q (uN s l _ _ (r.o d) Xx Xx) ?_)))))));rintro p _ ⟨rfl,rfl⟩;refine mv q (sL q fU r.di (st _ (af3 q q Xx) (st _ (iN (by rw[u3];rfl) nu q) (st _ (qJ q q Xx) (st _ (zK q q) (an q (ns (st _ (fw q q tf eV Xx) (st _ (aF q bh a q) (mv q (st _ (eM q q) (st _ (fw q q tf eV Xx) ?_))))))))))));refine bn q q bh q a (lB q) ?_;have D:=a;intro T C a;have d:=d.dY C e;refine aA ?_;have a:=(acD _ _) ▸ a;refine aj (ns (st _ (nJ q (by exact sB) a) (Rz adw q (yt _ _) ?_)));rintro p I ⟨rfl,C⟩;obtain⟨a,d⟩:=k2 C a d;refine eY q q (by exact sB) (S4.MR _) a (by rw[S4.uJ,S4.uJ]) ?_;have D:=a;intro V C a;have d:=d.dY C e;refine nt (ns (st _ (fw q q tf eV Xx) (st _ (aF q bh a q) (mv q (st _ (eM q q) (st _ (fw q q tf eV Xx) (bn q q bh q a (lB q) ?_)))))));have D:=a;intro W C a;have d:=d.dY C e;refine aA ?_;have a:=(acC _ _) ▸ a;refine aj (ns (st _ (fw q q tf eV Xx) (st _ (aF q bh a q) (st _ (eM q q) (st _ (fw q q tf eV Xx) (bn q q bh q a (lB q) ?_))))));have D:=a;intro J C a;have d:=d.dY C e
 refine aA ?_;have a:=(ajf _ 255) ▸ a;refine aj (ns (st _ (nJ q (by exact sB) a) (Rz adw q (OV _ _) ?_)));rintro p K ⟨rfl,C⟩;obtain⟨a,d⟩:=k2 C a d;refine eY q q (by exact sB) (S4.MR _) a (by rw[S4.uJ,S4.uJ]) ?_;have D:=a;intro L C a;have d:=d.dY C e;refine nt (ns (st _ (fw q q tf eV Xx) (st _ (aF q bh a q) (st _ (fw q q tf eV Xx) (st _ (aF q bh a q) (st _ (eM q q) (st _ (fw q q tf eV Xx) (st _ (aF q bh a q) (st _ (eM q q) (st _ (fw q q tf eV Xx) (st _ (aF q bh a q) (st _ (eM q q) (cu q ?_)))))))))))));refine nt (iI ?_);rw[qM _ _ Ym]at t;exact gX trivial q q ⟨BF (by rw[sip,<- t];exact afE l x.1 x.2 E Xx),d⟩
theorem ahI (k:Bool) (key:Ly) (s:Value) (l:Ly) (w:World) (hk:key.length=16) (e:By w s l) (f:l.length<=4611686018427387000) :
  Calls Zp 47 #[.bool k,.agg (key.map b8).toArray,s] w fun c h=>c = .returned (.int .u64 (if k then sip key l else lookup l))/\Md [] w h:=by
 have a:=Md.refl [] w;refine enter (n:=13) Tryz.func47 q q q fun i=>ns (dR q q ?_);intro G j d H D g;have d:=lv a.size d;have a:=a.k D;refine an q (aD (nm q (nt ?_)));refine bJ q (fun b=>?_) (fun b=>?_)
 ·have C:=b;refine ns (st _ (nJ q (by rw[(by simpa using hk:(key.map b8).length=16)];exact mN) g) (mv q (Rz an7 q (afD key s l _ hk (e.o a) f) ?_)));rintro c m ⟨rfl,D⟩;have a:=a.k D;refine ar q (aI ?_);exact gX trivial q q ⟨BF (by simp_all),a⟩
 have C:=b;refine aL (aj (nm q (Rz alP q (AO s l _ (e.o a) f) ?_)));rintro c _ ⟨rfl,rfl⟩;refine ar q ?_;exact gX trivial q q ⟨BF (by simp_all),a⟩
theorem agQ (h:Up w Q) (k:Bool) (key:Ly) (c:key.length=16) {b:Value} {l:Ly} (f:Ls e6 w Q b l) (g:l.length<=4611686018427387000) :
  Calls Zp 159 #[.bool k,.agg (jb key).toArray,b] w fun d e=>∃a:Nat,d = .returned (.int .u64 a)/\Md [] w e/\a<18446744073709551616/\cQ k key l=a:=by
 rw[pq c];refine(ajP k key b l w c f.by g).mono fun d e ⟨he,hm⟩=>⟨cQ k key l,by rw[he,ER],hm,ES k key l,q⟩
theorem OQ (h:Up w Q) (k:Bool) (key:Ly) (c:key.length=16) {b:Value} {l:Ly} (f:Ls e6 w Q b l) (g:l.length<=4611686018427387000) :
  Calls Zp 47 #[.bool k,.agg (jb key).toArray,b] w fun d e=>∃a:Nat,d = .returned (.int .u64 a)/\Md [] w e/\a<18446744073709551616/\cQ k key l=a:=by
 rw[pq c];refine(ahI k key b l w c f.by g).mono fun d e ⟨he,hm⟩=>⟨cQ k key l,by rw[he,ER],hm,ES k key l,q⟩
theorem aaz (f:Up w Q) {v0:Value} {l:Ly} (d:Ls e6 w Q v0 l) (e:l.length<=4611686018427387000) :
  Calls Zp 168 #[v0] w fun b c=>∃a:Nat,b = .returned (.int .u64 a)/\Md [] w c/\a<18446744073709551616/\rO l=a:=by
 refine(FP _ _ w d.by).mono fun b c ⟨he,hm⟩=>⟨rO l,by rw[he,S6],hm,FO l,q⟩
theorem ab1 (f:Up w Q) {v0:Value} {l:Ly} (d:Ls e6 w Q v0 l) (e:l.length<=4611686018427387000) :
  Calls Zp 93 #[v0] w fun b c=>∃a:Nat,b = .returned (.int .u64 a)/\Md [] w c/\a<18446744073709551616/\rO l=a:=by
 refine(AO _ _ w d.by e).mono fun b c ⟨he,hm⟩=>⟨rO l,by rw[he,S6],(hm ▸ Md.refl [] w),FO l,q⟩
end Go.Proofs.YtlleafgaeeneoaaGreat
