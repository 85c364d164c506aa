/- Part 4 of what the walk of a law stands on: HsQ, HsR, HsS, MatW, MatX, MatV, QuS, MatT, MatB, MatK, MatD, MatE, VTexts, VAlts, WName, WRSplit, VLe, VGet, VHead, VHead2. No statement is proved here. -/
import Derived.Test.YtlleafgaeeneoaaGreatQSM3
import Derived.Test.YtlleafgaeeneoaaGreatRows
set_option maxRecDepth 100000
set_option linter.unusedVariables false
set_option linter.unusedSimpArgs false
namespace Go.Wk
open Go Go.RowKit
structure Hs (m:Mk):Prop where
  r4:mD m.b 288 m.c.ay m.ai
  r5:mD m.b (304+16*m.c.ay) m.c.aC m.ak
  rd:ve m.b m.ai m.ak
  s4:∀k∈m.ai,k.bV=cM m k.bQ%m.c.ay
  s5:∀k∈m.ak,k.bV=cM m k.bQ%m.c.aC
  own:∀k∈m.ai,∃f∈m.ak,f.bQ=qo k.bQ
  bear:∀f∈m.ak,∃k∈m.ai,qo k.bQ=f.bQ
  one:∀x∈m.ak,∀y∈m.ak,x.bQ=y.bQ->x=y
  a4:(m.ai.map aN.pos).Pairwise (· < ·)
  a5:(m.ak.map aN.pos).Pairwise (· < ·)
  n15:m.bS 15=m.ai.length
  n16:m.bS 16=m.ak.length
  c15:m.ai.length<=m.b.length
  c16:m.ak.length<=m.b.length
  h20:m.h.n.length=20
theorem XU {b:Ly} {q:Nat} (h:q+8<=b.length):(lO b (q:Nat) 8).1=dW b q:=by unfold lO dW;rw[if_pos ⟨by decide,by omega,by omega⟩];simp
theorem RH {m:Mk} {k v:Nat} (h:k<m.h.n.length):(m.cE k v).bS k=v:=by show(m.h.n.set k v).getD k 0=v;rw[List.getD_eq_getElem?_getD,List.getElem?_set_self h];rfl
def wN (h:Nat) (t:Ly):List UInt8:=gu {bY:=h,b9:=0,dat:=0,au:=t}
def yh (h:Nat) (t:Ly):List UInt8:=iu {bY:=h,b9:=0,dr:=0,entry:=0,array:=0,bw:=0,au:=t}
theorem agw {h:Nat} (t:Ly) (e:h<18446744073709551616):(wN h t).length=oP (40+t.length)/\dW (wN h t) 24=0/\dW (wN h t) 32=0:=by have c:wN h t=pZ 2 (nums [h,0,0] ++ t):=rfl;obtain⟨_,a,b,_⟩:=adT (k:=2) Xy [h,0,0] t (by intro v d;simp at d;omega);rw[<- c]at a b;simp only[List.length_cons,List.length_nil,Nat.zero_add,Nat.reduceAdd,Nat.reduceMul]at a;exact⟨a,b 1 _ q,b 2 _ q⟩
theorem agj {h:Nat} (t:Ly) (e:h<18446744073709551616):(yh h t).length=oP (64+t.length)/\dW (yh h t) 24=0:=by have c:yh h t=pZ 1 (nums [h,0,0,0,0,0] ++ t):=rfl;obtain⟨_,a,b,_⟩:=adT (k:=1) Xy [h,0,0,0,0,0] t (by intro v d;simp at d;omega);rw[<- c]at a b;simp only[List.length_cons,List.length_nil,Nat.zero_add,Nat.reduceAdd,Nat.reduceMul]at a;exact⟨a,b 1 _ q⟩
def kn (t:Ly) (p s:Nat):aN:={bQ:=t,pos:=p,bV:=s,bw:=0,aT:=[]}
theorem MX (m:Mk) (o:Ly) {i:Nat} (h:i≠6/\i≠7):(m.bU o).2.bS i=m.bS i:=by simp only[Mk.bU];rw[cJ Xx,cJ Xx];rfl
theorem adU (m:Mk) (o:Ly):(m.bU o).2.h.n.length=m.h.n.length:=by simp[Mk.bU,Mk.cE]
theorem ZR {m:Mk} {name:Ly} (hk:oL name m.ak=none) (h20:m.h.n.length=20) :
    ∃z,m.field name=(m.b.length,z)/\z.b=vn (m.b ++ wN (cM m name) name) m.ak (m.bS 4) m.b.length (cM m name%m.c.aC)/\z.ak=m.ak ++ [kn name m.b.length (cM m name%m.c.aC)]/\z.ai=m.ai/\z.c=m.c/\z.bS 15=m.bS 15/\z.bS 16=(m.bS 16+1)%18446744073709551616/\z.h.n.length=20:=by
  unfold Mk.field;rw[hk];simp only;have H:=gF m (wN (cM m name) name);have I:=dR m (wN (cM m name) name);have D:=fun i S=>MX m (wN (cM m name) name) (i:=i) S;have J:=adU m (wN (cM m name) name);have K:(m.bU (wN (cM m name) name)).2.b=m.b ++ wN (cM m name) name:=rfl;rw[show gu {bY:=cP m.c.cC m.c.cg name,b9:=0,dat:=0,au:=name}=wN (cM m name) name from rfl];generalize m.bU (wN (cM m name) name)=r at *;obtain⟨p,A⟩:=r;simp only at H I D J K ⊢;obtain⟨E,O,F,_⟩:=I;have L:=adn A A.ak (A.bS 4) p (cP m.c.cC m.c.cg name%A.c.aC);have N:=gV A A.ak (A.bS 4) p (cP m.c.cC m.c.cg name%A.c.aC);generalize A.hang A.ak (A.bS 4) p (cP m.c.cC m.c.cg name%A.c.aC)=r at *;obtain⟨n,B⟩:=r;simp only at L N ⊢;obtain⟨P,Q,R,U,V,G⟩:=N;have M:p=m.b.length:=H.1;have C:∀i,B.bS i=A.bS i:=fun i=>by show B.h.n.getD i 0=_;rw[G];rfl
  have T:({B with depth:=max A.depth n}:Mk).h.n.length=20:=by show B.h.n.length=20;rw[G,J,h20]
  refine⟨_,by rw[M],?_,?_,?_,?_,?_,?_,?_⟩
  · show B.b=_;rw[L,K,F,D 4 Xy,M,E];rfl
  · show B.ak ++ _=_;rw[R,F,E];rfl
  · show B.ai=_;rw[Q,O]
  · show B.c=_;rw[P,E]
  · show(Mk.cE _ 16 _).bS 15=_
    rw[cJ Xy];show B.bS 15=_;rw[C,D 15 Xy]
  · show(Mk.cE _ 16 _).bS 16=_
    rw[RH Xx];show(B.bS 16+1)%_=_;rw[C,D 16 Xy]
  show(B.h.n.set 16 _).length=20;rw[List.length_set];exact T
theorem ac1 {m:Mk} {x:Pr} (hk:mQ (au x) m.ai 0=none) (h20:m.h.n.length=20) :
    ∃z:Mk,z.b=vn (m.b ++ yh (cM m (au x)) (au x)) m.ai (m.bS 2) m.b.length (cM m (au x)%m.c.ay)/\z.ai=m.ai ++ [kn (au x) m.b.length (cM m (au x)%m.c.ay)]/\z.ak=m.ak/\z.c=m.c/\z.bS 15=(m.bS 15+1)%18446744073709551616/\z.bS 16=m.bS 16/\z.bS 4=m.bS 4/\z.h.n.length=20 /\
      (m.data x).2=(((z.field x.name).2.put (m.b.length+32) (lO (z.field x.name).2.b ((z.field x.name).1+32:Nat) 8).1).put ((z.field x.name).1+32) m.b.length):=by
  unfold Mk.data;rw[hk];simp only;have I:=gF m (yh (cM m (au x)) (au x));have J:=dR m (yh (cM m (au x)) (au x));have D:=fun i S=>MX m (yh (cM m (au x)) (au x)) (i:=i) S;have K:=adU m (yh (cM m (au x)) (au x));have L:(m.bU (yh (cM m (au x)) (au x))).2.b=m.b ++ yh (cM m (au x)) (au x):=rfl;rw[show iu {bY:=cP m.c.cC m.c.cg (au x),b9:=0,dr:=0,entry:=0,array:=0,bw:=0,au:=au x}=yh (cM m (au x)) (au x)from rfl];generalize m.bU (yh (cM m (au x)) (au x))=r at *;obtain⟨p,B⟩:=r;simp only at I J D K L ⊢;obtain⟨E,G,O,_⟩:=J;have M:=adn B B.ai (B.bS 2) p (cP m.c.cC m.c.cg (au x)%B.c.ay);have N:=gV B B.ai (B.bS 2) p (cP m.c.cC m.c.cg (au x)%B.c.ay);generalize B.hang B.ai (B.bS 2) p (cP m.c.cC m.c.cg (au x)%B.c.ay)=r at *;obtain⟨n,A⟩:=r;simp only at M N ⊢;obtain⟨P,Q,R,V,W,H⟩:=N;have F:p=m.b.length:=I.1;have C:∀i,A.bS i=B.bS i:=fun i=>by show A.h.n.getD i 0=_;rw[H];rfl
  have T:A.h.n.length=20:=by rw[H,K,h20]
  have U:(A.cE 19 (max (A.bS 19) n)).h.n.length=20:=by show(A.h.n.set 19 _).length=20;rw[List.length_set];exact T
  refine⟨({(A.cE 19 (max (A.bS 19) n)).cE 15 (((A.cE 19 (max (A.bS 19) n)).bS 15+1)%18446744073709551616)with ai:=A.ai ++ [kn (au x) p (cP m.c.cC m.c.cg (au x)%B.c.ay)]}:Mk),?_,?_,?_,?_,?_,?_,?_,?_,?_⟩
  · show A.b=_;rw[M,L,G,D 2 Xy,F,E];rfl
  · show A.ai ++ _=_;rw[Q,G,F,E];rfl
  · show A.ak=_;rw[R,O]
  · show A.c=_;rw[P,E]
  · show(Mk.cE _ 15 _).bS 15=_
    rw[RH Xx,cJ Xy,C,D 15 Xy]
  · show(Mk.cE _ 15 _).bS 16=_
    rw[cJ Xy,cJ Xy,C,D 16 Xy]
  · show(Mk.cE _ 15 _).bS 4=_
    rw[cJ Xy,cJ Xy,C,D 4 Xy]
  · show(List.set _ 15 _).length=20;rw[List.length_set];exact U
  subst F;rfl
theorem aeS (m:Mk) (p v:Nat):(m.put p v).ai=m.ai/\(m.put p v).ak=m.ak/\(m.put p v).c=m.c/\(m.put p v).h=m.h/\(m.put p v).b=ig m.b p v:=by unfold Mk.put;exact⟨q,q,q,q,q⟩
theorem Zj (m:Mk) (p v q u:Nat):∃R,(m.put p v).put q u=R/\R.ai=m.ai/\R.ak=m.ak/\R.c=m.c/\(∀i,R.bS i=m.bS i)/\R.h.n.length=m.h.n.length/\R.b=ig (ig m.b p v) q u:=by obtain⟨C,D,E,A,F⟩:=aeS m p v;obtain⟨G,H,I,B,J⟩:=aeS (m.put p v) q u;exact⟨_,rfl,G.trans C,H.trans D,I.trans E,fun i=>by unfold Mk.bS;rw[B,A],by rw[B,A],by rw[J,F]⟩
section
variable {m:Mk} {l:List Ob}
theorem Stat.far (h:Stat m l) {o:Ob} (a:o∈l) (hk:o.kind=1\/o.kind=2):304+16*m.c.ay+16*m.c.aC<=o.pos:=by
  have b:=h.eF.mem a;have g:=b.ge;have d:=dQ o.size;have C:oP (16+16*m.c.ay)=16+16*m.c.ay:=by unfold oP;omega
  have u5:oP (16+16*m.c.aC)=16+16*m.c.aC:=by unfold oP;omega
  have D:=b.size.1
  rcases h.eF.sep a h.GK with e|e|e
  · subst e;simp at hk
  · simp only at e;omega
  simp only[C]at e
  rcases h.eF.sep a h.O1 with A|A|A
  · subst A;simp at hk
  · simp only at A;omega
  simp only[u5]at A;omega
theorem Stat.two (h:Stat m l) {o x:Ob} (a:o∈l) (b:x∈l) (c:40<=o.size) (d:40<=x.size):o.pos=x.pos\/o.pos+40<=x.pos\/x.pos+40<=o.pos:=by
  have:=dQ o.size;have:=dQ x.size
  rcases h.eF.sep a b with e|e|e
  · exact .inl (by rw[e])
  · exact .inr (.inl Xx)
  exact .inr (.inr Xx)
theorem Stat.apart (h:Stat m l) {o x:Ob} (a:o∈l) (b:x∈l) (c:40<=o.size) (d:40<=x.size) (hk:o.kind≠x.kind):o.pos+40<=x.pos\/x.pos+40<=o.pos:=by
  have:=dQ o.size;have:=dQ x.size
  rcases h.eF.sep a b with e|e|e
  · exact absurd (congrArg Ob.kind e) hk
  · exact .inl Xx
  exact .inr Xx
theorem Stat.top (h:Stat m l) {o:Ob} (a:o∈l) (c:40<=o.size):o.pos+40<=m.b.length:=by have:=dQ o.size;have:=(h.eF.mem a).le;omega
theorem Stat.dd (h:Stat m l):(∀x∈m.ai,304+16*m.c.ay+16*m.c.aC<=x.pos/\x.pos+40<=m.b.length)/\(∀x∈m.ak,304+16*m.c.ay+16*m.c.aC<=x.pos/\x.pos+40<=m.b.length) /\
    (∀x∈m.ai,∀y∈m.ai,x.pos=y.pos\/x.pos+40<=y.pos\/y.pos+40<=x.pos)/\(∀x∈m.ak,∀y∈m.ak,x.pos=y.pos\/x.pos+40<=y.pos\/y.pos+40<=x.pos)/\(∀x∈m.ai,∀y∈m.ak,x.pos+40<=y.pos\/y.pos+40<=x.pos):=by
  refine⟨fun x A=>?_,fun x A=>?_,fun x A y B=>?_,fun x A y B=>?_,fun x A y B=>?_⟩
  · have o:=(h.data x A).ob;exact⟨h.far o (.inl q),h.top o Zx⟩
  · have o:=(h.fld x A).ob;exact⟨h.far o (.inr q),h.top o Zx⟩
  · exact h.two (h.data x A).ob (h.data y B).ob Zx Zx
  · exact h.two (h.fld x A).ob (h.fld y B).ob Zx Zx
  exact h.apart (h.data x A).ob (h.fld y B).ob Zx Zx Oy
end
theorem OT {ks:List aN} {k:aN} (h:(ks.map aN.pos).Pairwise (· < ·)) (hk:∀x∈ks,x.pos<k.pos):((ks ++ [k]).map aN.pos).Pairwise (· < ·):=by rw[List.map_append,List.pairwise_append];refine⟨h,by simp,fun a B b A=>?_⟩;obtain⟨x,C,rfl⟩:=List.mem_map.1 B;simp only[List.map_cons,List.map_nil,List.mem_singleton]at A;subst A;exact hk x C
theorem DC:∀{l:List aN} {s:Ly},oL s l=none->∀k∈l,k.bQ≠s
  | [],_,_,_,h=>by cases h
  | x :: l,s,h,k,hk=>by
    rw[oL]at h;split at h
    · cases h
    · rename_i hx
      rcases List.mem_cons.1 hk with rfl|hk
      · exact hx
      · exact DC h k hk
theorem mD.vp {b c:Ly} {tab n:Nat} {ks:List aN} (h:mD b tab n ks) (h1:∀s:Nat,s<n->dW c (tab+16*s)=dW b (tab+16*s)) (a:∀k∈ks,dW c (k.pos+24)=dW b (k.pos+24)):mD c tab n ks:=h.keep fun e d=>by
  rcases d with⟨s,hs,rfl⟩|⟨k,hk,rfl⟩
  · exact h1 s hs
  · exact a k hk
set_option maxHeartbeats 2000000 in
theorem ag4 {m:Mk} {l:List Ob} (h:Stat m l) (H:Hs m) (x:Pr) (aZ:∀c∈x.name,c≠61) (hb:m.b.length<900000) (bl:(au x).length<=1000/\x.name.length<=1000) :
    Hs (m.data x).2/\(m.data x).2.ai.map aN.bQ=if au x∈m.ai.map aN.bQ then m.ai.map aN.bQ else m.ai.map aN.bQ ++ [au x]:=by
  cases hk:mQ (au x) m.ai 0 with
  | some i =>
    obtain⟨k,d,B,_⟩:=yx hk;have e:(m.data x).2=m:=(by unfold Mk.data;rw[hk]);rw[e,if_pos (List.mem_map.2 ⟨k,List.mem_of_getElem? d,B⟩)];exact⟨H,q⟩
  | none =>
    have aS:=vL hk;obtain⟨z,ar,I,z3,T,z5,aQ,be,aR,bf⟩:=ac1 (m:=m) (x:=x) hk H.h20;obtain⟨r,aq,Y,aa,aM⟩:∃r:aN,r.pos=m.b.length/\r.bQ=au x/\r.bV=cM m (au x)%m.c.ay/\kn (au x) m.b.length (cM m (au x)%m.c.ay)=r:=⟨_,q,q,q,q⟩;rw[aM]at I;clear aM;obtain⟨J,A,aK,ap,V⟩:=h.dd;have bi:=h.slots;have a0:=tj m (au x);obtain⟨bo,a3⟩:=agj (au x) a0;have aF:cM m (au x)%m.c.ay<m.c.ay:=Nat.mod_lt _ Xx;have bn:=dQ (64+(au x).length);generalize ho:yh (cM m (au x)) (au x)=o at *;rw[h.n2]at ar
    -- the datum stands in its chain
    have aU:(m.b ++ o).length=m.b.length+o.length:=List.length_append;have aw:∀a,a+8<=m.b.length->dW (m.b ++ o) a=dW m.b a:=fun a E=>uq E;have aJ:mD z.b 288 m.c.ay z.ai:=(by rw[ar,I,<- aq,<- aa];have d:mD (m.b ++ o) 288 m.c.ay m.ai:=H.r4.vp (fun s Z=>aw _ (by have:=h.eF.mem h.GK;have:=this.le;have:=dQ (16+16*m.c.ay);simp only at *;omega)) fun k hk=>aw _ (by have:=J k hk;omega);have a8:=h.eF.mem h.GK;have aW:=a8.le;have bk:=dQ (16+16*m.c.ay);simp only at aW;exact d.hang (k:=r) (by rw[aa];exact aF) (fun y F=>by have:=J y F;omega) Xx (fun y F=>by have:=J y F;omega) aK H.a4 (by rw[aq,qg];exact a3) Xx Xx);have bg:304+16*m.c.ay+16*m.c.aC<=m.b.length:=(by have:=h.eF.mem h.O1;have:=this.le;have:=dQ (16+16*m.c.aC);simp only at *;omega);have ao:∀a,a+8<=m.b.length->(a+8<=288+16*(cM m (au x)%m.c.ay)\/288+16*(cM m (au x)%m.c.ay)+16<=a)->(∀y∈m.ai,a+8<=y.pos+24\/y.pos+32<=a)->dW z.b a=dW m.b a:=fun a E d B=>by rw[ar];rw[<- aa]at d ⊢;exact(DR (n:=m.c.ay) (by rw[aa];exact aF) d B).trans (aw a E)
    have aI:mD z.b (304+16*m.c.ay) m.c.aC z.ak:=(by rw[z3];exact H.r5.vp (fun s Z=>ao _ Xx Xx fun y F=>by have:=J y F;omega) fun k hk=>ao _ (by have:=A k hk;omega) (by have:=A k hk;omega) fun y F=>by have:=V y F k hk;omega);have D:ve z.b m.ai z.ak:=(by rw[z3];exact H.rd.keep (fun k hk=>ao _ (by have:=J k hk;omega) (by have:=J k hk;omega) fun y F=>by have:=aK y F k hk;omega) fun f L=>ao _ (by have:=A f L;omega) (by have:=A f L;omega) fun y F=>by have:=V y F f L;omega);have av:z.b.length=m.b.length+o.length:=(by rw[ar,IZ,aU]);have aT:∀t,cM z t=cM m t:=fun t=>by unfold cM;rw[T]
    rw[bf];have aH:∀(w:Mk),w.ai=z.ai->w.ai.map aN.bQ=if au x∈m.ai.map aN.bQ then m.ai.map aN.bQ else m.ai.map aN.bQ ++ [au x]:=fun w a2=>by rw[a2,I,if_neg (fun a1=>by obtain⟨k,d,B⟩:=List.mem_map.1 a1;exact aS k d B),List.map_append,List.map_cons,List.map_nil,Y]
    have a4:(z.ai.map aN.pos).Pairwise (· < ·):=(by rw[I];exact OT H.a4 fun y F=>by have:=J y F;omega);have aG:z.bS 15=z.ai.length:=(by have:=H.c15;rw[z5,I,H.n15,List.length_append];exact Nat.mod_eq_of_lt Xx);have am:qo (au x)=x.name:=aa2 aZ;cases L:oL x.name z.ak with
    | some p =>
      obtain⟨f,f1,rfl,aO⟩:=yB L;have e:z.field x.name=(f.pos,z):=(by unfold Mk.field;rw[L]);rw[e];simp only;have ag:f∈m.ak:=z3 ▸ f1;have bh:=A f ag;have C:(lO z.b (f.pos+32:Nat) 8).1=dW z.b (f.pos+32):=XU Xx;have K:∀a,(a+8<=m.b.length+32\/m.b.length+40<=a)->(a+8<=f.pos+32\/f.pos+40<=a)->dW (ig (ig z.b (m.b.length+32) (lO z.b (f.pos+32:Nat) 8).1) (f.pos+32) m.b.length) a=dW z.b a:=fun a d B=>by rw[fC Xx,fC Xx]
      have mk:∀y∈z.ai,y∈m.ai\/y=r:=fun y F=>by rw[I]at F;simpa using F
      obtain⟨aA,af,u,j,N,ae,az,M⟩:=Zj z (m.b.length+32) (lO z.b (f.pos+32:Nat) 8).1 (f.pos+32) m.b.length;rw[af];clear af;have Q:∀t,cM aA t=cM m t:=fun t=>by unfold cM;rw[N,T]
      refine⟨⟨?_,?_,?_,?_,?_,?_,?_,?_,by rw[u];exact a4,?_,by rw[ae,u];exact aG,?_,?_,?_,az.trans aR⟩,aH _ u⟩
      · rw[M,N,u,T]
        refine aJ.vp (fun s Z=>K _ Xx Xx) fun k hk=>?_
        rcases mk k hk with d|rfl
        · have:=J k d;have:=V k d f ag;exact K _ Xx Xx
        · exact K _ Xx Xx
      · rw[M,N,j,T]
        exact aI.vp (fun s Z=>K _ Xx Xx) fun k hk=>by rw[z3]at hk;have:=A k hk;have:=ap k hk f ag;exact K _ Xx Xx
      · rw[M,u,j,I,<- aq]
        refine D.put (k:=r) f1 (by rw[aO,Y];exact am.symm) C (fun a E c W=>?_) (fun y F=>?_) (fun g R=>?_) Xx Xx Xx
        · rw[z3]at E W
          exact⟨fun e=>by rw[H.one a E c W e],fun e=>by rw[NI H.a5 E W e]⟩
        · have:=J y F;have:=V y F f ag;omega
        · rw[z3]at R;have:=A g R;have:=ap g R f ag;omega
      · intro k hk
        rw[u]at hk;rw[Q,N,T]
        rcases mk k hk with d|rfl
        · exact H.s4 k d
        · rw[aa,Y]
      · intro k hk
        rw[j]at hk;rw[Q,N,T];exact H.s5 k (z3 ▸ hk)
      · intro k hk
        rw[u]at hk
        rcases mk k hk with d|rfl
        · obtain⟨g,aj,al⟩:=H.own k d;exact⟨g,by rw[j,z3];exact aj,al⟩
        · exact⟨f,by rw[j];exact f1,by rw[aO,Y];exact am.symm⟩
      · intro g R
        rw[j]at R;obtain⟨k,aD,aE⟩:=H.bear g (z3 ▸ R);exact⟨k,by rw[u,I];simp[aD],aE⟩
      · intro a E c W;rw[j]at E W;exact H.one a (z3 ▸ E) c (z3 ▸ W)
      · rw[j,z3];exact H.a5
      · rw[ae,j,aQ,z3];exact H.n16
      · rw[M,u,eO,eO,av,I,List.length_append];have:=H.c15;simp only[List.length_singleton];omega
      · rw[M,j,eO,eO,av,z3];have:=H.c16;omega
    | none =>
      have P:=DC L;obtain⟨y,a9,an,X,ba,ab,bb,bc,bd⟩:=ZR (m:=z) (name:=x.name) L aR;have R:=tj z x.name;obtain⟨bp,a6,a7⟩:=agw x.name R;have bm:=dQ (40+x.name.length);have ax:cM z x.name%z.c.aC<m.c.aC:=(by rw[T];exact Nat.mod_lt _ Xx);generalize wN (cM z x.name) x.name=fo at *;obtain⟨fd,ah,U,fs,aL⟩:∃fd:aN,fd.pos=z.b.length/\fd.bQ=x.name/\fd.bV=cM z x.name%z.c.aC/\kn x.name z.b.length (cM z x.name%z.c.aC)=fd:=⟨_,q,q,q,q⟩;rw[aL]at X;clear aL;rw[a9];simp only;rw[be,h.n4]at an;have aV:(z.b ++ fo).length=z.b.length+fo.length:=List.length_append;have aB:∀a,a+8<=z.b.length->dW (z.b ++ fo) a=dW z.b a:=fun a E=>uq E;have aP:y.b.length=z.b.length+fo.length:=(by rw[an,IZ,aV]);have mk:∀v∈z.ai,v∈m.ai\/v=r:=fun v C=>by rw[I]at C;simpa using C
      have G:mD y.b (304+16*m.c.ay) m.c.aC y.ak:=by
        rw[an,X,z3,<- ah,<- fs];have d:mD (z.b ++ fo) (304+16*m.c.ay) m.c.aC m.ak:=(by rw[<- z3];exact aI.vp (fun s Z=>aB _ Xx) fun k hk=>aB _ (by rw[z3]at hk;have:=A k hk;omega));exact d.hang (k:=fd) (by rw[fs];exact ax) (fun v C=>by have:=A v C;omega) Xx (fun v C=>by have:=A v C;omega) ap H.a5 (by rw[ah,qg];exact a6) Xx Xx
      have ad:∀a,a+8<=z.b.length->(a+8<=304+16*m.c.ay+16*(cM z x.name%z.c.aC)\/304+16*m.c.ay+16*(cM z x.name%z.c.aC)+16<=a)->(∀v∈m.ak,a+8<=v.pos+24\/v.pos+32<=a)->dW y.b a=dW z.b a:=fun a E d B=>by rw[an,z3];rw[<- fs]at d ⊢;exact(DR (n:=m.c.aC) (by rw[fs];exact ax) d B).trans (aB a E)
      have aY:mD y.b 288 m.c.ay z.ai:=by
        refine aJ.vp (fun s Z=>ad _ Xx Xx fun v C=>by have:=A v C;omega) fun k hk=>?_
        rcases mk k hk with d|rfl
        · have:=J k d;exact ad _ Xx Xx fun v C=>by have:=V k d v C;omega
        · exact ad _ Xx Xx fun v C=>by have:=A v C;omega
      have aX:ve y.b m.ai y.ak:=by
        have d:ve y.b m.ai z.ak:=D.keep (fun k hk=>by have:=J k hk;exact ad _ Xx Xx fun v C=>by have:=V k hk v C;omega) fun f L=>by rw[z3]at L;have:=A f L;exact ad _ Xx Xx fun v C=>by have:=ap f L v C;omega
        rw[X];refine d.field (f:=fd) ?_ fun k hk e=>?_
        · rw[an,z3,<- fs]
          refine(DR (n:=m.c.aC) (by rw[fs];exact ax) (by rw[fs];omega) (fun v C=>by have:=A v C;omega)).trans ?_;rw[ah,qg];exact a7
        · obtain⟨g,aj,al⟩:=H.own k hk
          exact P g (by rw[z3];exact aj) (by rw[al,e,U])
      have C:(lO y.b (z.b.length+32:Nat) 8).1=dW y.b (z.b.length+32):=XU Xx;have K:∀a,(a+8<=m.b.length+32\/m.b.length+40<=a)->(a+8<=z.b.length+32\/z.b.length+40<=a)->dW (ig (ig y.b (m.b.length+32) (lO y.b (z.b.length+32:Nat) 8).1) (z.b.length+32) m.b.length) a=dW y.b a:=fun a d B=>by rw[fC Xx,fC Xx]
      have S:y.ai=z.ai:=ba;have bj:∀t,cM y t=cM m t:=fun t=>by unfold cM;rw[ab,T]
      have O:∀g∈y.ak,g∈m.ak\/g=fd:=fun g R=>by rw[X,z3]at R;simpa using R
      have f1:fd∈y.ak:=(by rw[X];simp);obtain⟨aA,af,u,j,N,ae,az,M⟩:=Zj y (m.b.length+32) (lO y.b (z.b.length+32:Nat) 8).1 (z.b.length+32) m.b.length;rw[af];clear af;have Q:∀t,cM aA t=cM m t:=fun t=>by unfold cM;rw[N,ab,T]
      refine⟨⟨?_,?_,?_,?_,?_,?_,?_,?_,by rw[u,S];exact a4,?_,by rw[ae,u,bb,S];exact aG,?_,?_,?_,az.trans bd⟩,aH _ (u.trans S)⟩
      · rw[M,N,u,ab,T,S]
        refine aY.vp (fun s Z=>K _ Xx Xx) fun k hk=>?_
        rcases mk k hk with d|rfl
        · have:=J k d;exact K _ Xx Xx
        · exact K _ Xx Xx
      · rw[M,N,j,ab,T]
        refine G.vp (fun s Z=>K _ Xx Xx) fun k hk=>?_
        rcases O k hk with d|rfl
        · have:=A k d;exact K _ Xx Xx
        · exact K _ Xx Xx
      · rw[M,u,j,S,I,<- aq,<- ah]
        refine aX.put (f:=fd) (k:=r) f1 (by rw[U,Y];exact am.symm) (by rw[ah];exact C) (fun a E c W=>?_) (fun v C=>?_) (fun g R=>?_) Xx Xx Xx
        · rcases O a E with d|rfl
          · rcases O c W with B|rfl
            · exact⟨fun e=>by rw[H.one a d c B e],fun e=>by rw[NI H.a5 d B e]⟩
            · exact⟨fun e=>absurd (e.trans U) (P a (by rw[z3];exact d)),fun e=>by have:=A a d;omega⟩
          · rcases O c W with B|rfl
            · exact⟨fun e=>absurd (e.symm.trans U) (P c (by rw[z3];exact B)),fun e=>by have:=A c B;omega⟩
            · exact⟨fun _=>rfl,fun _=>rfl⟩
        · have:=J v C;omega
        · rcases O g R with d|rfl
          · have:=A g d;omega
          · omega
      · intro k hk
        rw[u]at hk;rw[Q,N,ab,T]
        rcases mk k (S ▸ hk)with d|rfl
        · exact H.s4 k d
        · rw[aa,Y]
      · intro k hk
        rw[j]at hk;rw[Q,N,ab,T]
        rcases O k hk with d|rfl
        · exact H.s5 k d
        · rw[fs,U,aT,T]
      · intro k hk
        rw[u]at hk
        rcases mk k (S ▸ hk)with d|rfl
        · obtain⟨g,aj,al⟩:=H.own k d;exact⟨g,by rw[j,X,z3];simp[aj],al⟩
        · exact⟨_,by rw[j];exact f1,by rw[U,Y];exact am.symm⟩
      · intro g R
        rw[j]at R
        rcases O g R with d|rfl
        · obtain⟨k,aD,aE⟩:=H.bear g d
          exact⟨k,by rw[u,S,I];simp[aD],aE⟩
        · exact⟨r,by rw[u,S,I];simp,by rw[Y,U];exact am⟩
      · intro a E c W e
        rw[j]at E W
        rcases O a E with d|rfl
        · rcases O c W with B|rfl
          · exact H.one a d c B e
          · exact absurd (e.trans U) (P a (by rw[z3];exact d))
        · rcases O c W with B|rfl
          · exact absurd (e.symm.trans U) (P c (by rw[z3];exact B))
          · rfl
      · rw[j,X,z3];exact OT H.a5 fun v C=>by have:=A v C;omega
      · have:=H.c16
        rw[ae,j,bc,X,aQ,z3,H.n16,List.length_append];exact Nat.mod_eq_of_lt Xx
      · rw[M,u,eO,eO,aP,av,S,I,List.length_append];have:=H.c15;simp only[List.length_singleton];omega
      · rw[M,j,eO,eO,aP,av,X,z3,List.length_append];have:=H.c16;simp only[List.length_singleton];omega
end Go.Wk
namespace Go.Wk
open Go Go.RowKit
def BO (l:List Ob) (a:Nat):Prop:=∀o∈l,(o.kind=4\/o.kind=5->a+8<=o.pos\/o.pos+oP o.size<=a)/\((o.kind=1\/o.kind=2)->40<=o.size->a+8<=o.pos\/o.pos+40<=a)
theorem IV {b:Ly} {l:List Ob} {e a:Nat} (c:fE b 272 l e) (h:a+8<=272):BO l a:=fun o d=>by have:=(c.mem d).ge;exact⟨fun _=>.inl Xx,fun _ _=>.inl Xx⟩
theorem XL {b:Ly} {l:List Ob} {e a:Nat} (c:fE b 272 l e) {x:Ob} (f:x∈l) (h1:x.pos+16<=a) (g:a+8<=x.pos+oP x.size) (hk:x.kind=6\/x.kind=1/\x.pos+40<=a):BO l a:=fun o d=>by
  have i:=dQ o.size;have j:=dQ x.size
  rcases c.sep d f with e1|e1|e1
  · subst e1
    exact⟨fun h=>by omega,fun h _=>by omega⟩
  · exact⟨fun _=>.inr Xx,fun _ _=>.inr Xx⟩
  · exact⟨fun _=>.inl Xx,fun _ _=>.inl Xx⟩
theorem EO {b:Ly} {l:List Ob} {e src a:Nat} {d:List Nat} (f:fE b 272 l e) (h:zy src d a) (g:∀k c:Nat,d[k]? = some c->(⟨c,6,24+8*dA (k:Int)⟩:Ob)∈l) (i:BO l src):BO l a:=by
  rcases h with h|⟨k,c,A,B,C⟩
  · rw[h];exact i
  exact XL f (g k c A) Zx (by rw[iB];simp only;omega) (.inl q)
theorem BO.mono {l r:List Ob} {a:Nat} (h:BO r a) (c:∀o∈l,o∈r):BO l a:=fun o b=>h o (c o b)
structure Kept (m m':Mk):Prop where
  c:m'.c=m.c
  ds:m'.ai.map nL=m.ai.map nL
  fs:m'.ak=m.ak
  n15:m'.bS 15=m.bS 15
  n16:m'.bS 16=m.bS 16
  len:m.b.length<=m'.b.length
  at4:∀s:Nat,s<m.c.ay->dW m'.b (288+16*s)=dW m.b (288+16*s)
  at5:∀s:Nat,s<m.c.aC->dW m'.b (304+16*m.c.ay+16*s)=dW m.b (304+16*m.c.ay+16*s)
  dd:∀k∈m.ai,dW m'.b (k.pos+24)=dW m.b (k.pos+24)/\dW m'.b (k.pos+32)=dW m.b (k.pos+32)
  ff:∀k∈m.ak,dW m'.b (k.pos+24)=dW m.b (k.pos+24)/\dW m'.b (k.pos+32)=dW m.b (k.pos+32)
theorem Kept.refl (m:Mk):Kept m m:=⟨q,q,q,q,q,Nat.le_refl _,fun _ _=>rfl,fun _ _=>rfl,fun _ _=>⟨q,q⟩,fun _ _=>⟨q,q⟩⟩
theorem Kept.trans {a b c:Mk} (h:Kept a b) (k:Kept b c):Kept a c:=by
  refine⟨k.c.trans h.c,k.ds.trans h.ds,k.fs.trans h.fs,k.n15.trans h.n15,k.n16.trans h.n16,lv h.len k.len,fun s B=>(k.at4 s (by rw[h.c];exact B)).trans (h.at4 s B),fun s B=>?_,fun x A=>?_,fun x A=>?_⟩
  · have:=k.at5 s (by rw[h.c];exact B)
    rw[h.c]at this;exact this.trans (h.at5 s B)
  · obtain⟨y,C,e,_⟩:=wX h.ds.symm A
    have:=k.dd y C;rw[e]at this;exact⟨this.1.trans (h.dd x A).1,this.2.trans (h.dd x A).2⟩
  have:=k.ff x (by rw[h.fs];exact A);exact⟨this.1.trans (h.ff x A).1,this.2.trans (h.ff x A).2⟩
theorem Kept.same {m m':Mk} (hb:m'.b=m.b) (e:m'.c=m.c) (hd:m'.ai=m.ai) (f:m'.ak=m.ak) (a:m'.bS 15=m.bS 15) (d:m'.bS 16=m.bS 16):Kept m m' :=
  ⟨e,by rw[hd],f,a,d,by rw[hb];exact Nat.le_refl _,fun _ _=>by rw[hb],fun _ _=>by rw[hb],fun _ _=>by rw[hb];exact⟨q,q⟩,fun _ _=>by rw[hb];exact⟨q,q⟩⟩
theorem Kept.l7 {m m':Mk} {l:List Ob} {S:Nat->Prop} (h:Stat m l) (e:Eff S m.b m'.b) (g:∀a,S a->BO l a) (u:m'.c=m.c) (hd:m'.ai.map nL=m.ai.map nL) (v:m'.ak=m.ak) (r:m'.bS 15=m.bS 15) (t:m'.bS 16=m.bS 16):Kept m m':=by
  have H:=h.eF.mem h.GK;have C:=H.le;have i:oP (16+16*m.c.ay)=16+16*m.c.ay:=by unfold oP;omega
  have u5:oP (16+16*m.c.aC)=16+16*m.c.aC:=by unfold oP;omega
  have o:=h.eF.mem h.O1;have D:=o.le;simp only[i]at C;simp only[u5]at D;obtain⟨n,G,_⟩:=h.dd;refine⟨u,hd,v,r,t,e.len,fun s j=>e.dW Xx fun a d=>?_,fun s j=>e.dW Xx fun a d=>?_,fun k hk=>?_,fun k hk=>?_⟩
  · have:=((g a d) _ h.GK).1 (.inl q);simp only[i]at this;omega
  · have:=((g a d) _ h.O1).1 (.inr q);simp only[u5]at this;omega
  · have p:=n k hk
    have f:∀a,S a->a+8<=k.pos\/k.pos+40<=a:=fun a d=>((g a d) _ (h.data k hk).ob).2 (.inl q) Zx;exact⟨e.dW Xx fun a d=>by have:=f a d;omega,e.dW Xx fun a d=>by have:=f a d;omega⟩
  have p:=G k hk;have f:∀a,S a->a+8<=k.pos\/k.pos+40<=a:=fun a d=>((g a d) _ (h.fld k hk).ob).2 (.inr q) Zx;exact⟨e.dW Xx fun a d=>by have:=f a d;omega,e.dW Xx fun a d=>by have:=f a d;omega⟩
theorem Zi {ks a:List aN} (h:a.map nL=ks.map nL):a.map aN.pos=ks.map aN.pos/\a.map aN.bQ=ks.map aN.bQ/\a.length=ks.length:=by
  have b:∀ks:List aN,ks.map aN.pos=(ks.map nL).map Prod.fst:=fun ks=>by rw[List.map_map];rfl
  have c:∀ks:List aN,ks.map aN.bQ=(ks.map nL).map fun q=>q.2.2:=fun ks=>by rw[List.map_map];rfl
  exact⟨by rw[b,b,h],by rw[c,c,h],by simpa using congrArg List.length h⟩
theorem Hs.kept {m m':Mk} (H:Hs m) (k:Kept m m') (h20:m'.h.n.length=20):Hs m':=by
  obtain⟨K,L,E⟩:=Zi k.ds;have D:∀t,cM m' t=cM m t:=fun t=>by unfold cM;rw[k.c]
  refine⟨?_,?_,?_,fun x A=>?_,fun x A=>?_,fun x A=>?_,fun f J=>?_,?_,by rw[K];exact H.a4,by rw[k.fs];exact H.a5,by rw[k.n15,E];exact H.n15,by rw[k.n16,k.fs];exact H.n16,?_,?_,h20⟩
  · rw[k.c]
    exact(H.r4.vp k.at4 fun x A=>(k.dd x A).1).key k.ds
  · rw[k.c,k.fs]
    exact H.r5.vp k.at5 fun x A=>(k.ff x A).1
  · rw[k.fs]
    exact(H.rd.keep (fun x A=>(k.dd x A).2) fun x A=>(k.ff x A).2).key k.ds
  · obtain⟨y,C,_,F,B⟩:=wX k.ds A
    rw[D,k.c,<- F,<- B];exact H.s4 y C
  · rw[D,k.c];exact H.s5 x (k.fs ▸ A)
  · obtain⟨y,C,_,_,B⟩:=wX k.ds A
    obtain⟨f,G,I⟩:=H.own y C;exact⟨f,by rw[k.fs];exact G,by rw[I,B]⟩
  · obtain⟨y,C,e⟩:=H.bear f (k.fs ▸ J)
    obtain⟨x,A,_,_,B⟩:=wX k.ds.symm C;exact⟨x,A,by rw[B,e]⟩
  · rw[k.fs];exact H.one
  · rw[E];exact lv H.c15 k.len
  rw[k.fs];exact lv H.c16 k.len
theorem ahx {ds:List aN} {i:Nat} {k a:aN} (h:ds[i]? = some k) (hk:nL a=nL k):(ds.set i a).map nL=ds.map nL:=by
  apply List.ext_getElem?;intro b;rw[List.getElem?_map,List.getElem?_map]
  by_cases hj:i=b
  · subst hj
    rw[List.getElem?_set_self (List.getElem?_eq_some_iff.1 h).1,h];exact congrArg some hk
  rw[List.getElem?_set_ne hj]
theorem DT {es:List eH} {I:List Nat} {e:Nat} (v:e<18446744073709551616):∀(d:List Nat) (m:Mk) (l:List Ob) (f:Nat->List Nat),lK m l es I f->(∀i∈d,i<m.ai.length)->d.Nodup->(∀i∈d,(f i).length<900000)->m.b.length+2100*d.length<900000->Kept m (kr e d m)
  | [],m,_,_,_,_,_,_,_=>Kept.refl m
  | i :: r,m,l,f,h,hi,hn,hl,hb=>by
    obtain⟨k,hk⟩:∃k,m.ai[i]? = some k:=⟨_,List.getElem?_eq_getElem (hi i Oy)⟩;simp only[List.length_cons]at hb;have u:=h.eP.data k (List.mem_of_getElem? hk);obtain⟨j,K,H⟩:=Qs (e:=e) h.eP.eF hk u (h.dat i k hk) Xx v (by have:=hl i Oy;omega);have g:=h.hang hk H;have F:lp m.ai (jN e i m).ai:=(by rw[H.dat];exact lp.set hk H.pos.1 H.pos.2.1);have P:=H.top;obtain⟨B,E,Q,R,s⟩:=H.same;rw[List.nodup_cons]at hn;obtain⟨t,x,_⟩:=H.sub;have p:∀o∈l,o∈j:=fun o A=>by rw[x];exact List.mem_append_left _ A
    have w:=p _ u.ob;have L:=dQ (64+k.bQ.length);have n:∀c,k.pos+40<=c->c+8<=k.pos+64->BO j c:=fun c C J=>XL H.eF w Zx Zx (.inr ⟨q,C⟩);have G:Kept m (jN e i m):=Kept.l7 h.eP H.l7 (fun c y=>by
      refine BO.mono ?_ p
      rcases rV y with C|C
      · exact n c C.1 C.2
      · exact EO H.eF C H.more.chain.ob (n _ Xx Xx)) B (by rw[H.dat];exact ahx hk (by unfold nL;rw[H.pos.1,H.pos.2.1,H.pos.2.2])) E (s 15 Xy Xy Xy) (s 16 Xy Xy Xy)
    rw[nK];have z:∀a∈r,(if a=i then f i ++ [e]else f a)=f a:=fun a D=>if_neg (by rintro rfl;exact hn.1 D);exact G.trans (DT v r (jN e i m) j _ g (fun a D=>by rw[F.len];exact hi a (by simp[D])) hn.2 (fun a D=>by simp only[z a D];exact hl a (by simp[D])) Xx)
def Hf:List (List UInt8)->List (List UInt8)->List (List UInt8)
  | ts,[]=>ts
  | ts,p :: r=>Hf (if p∈ts then ts else ts ++ [p]) r
theorem OG:∀(a b ts:List (List UInt8)),Hf ts (a ++ b)=Hf (Hf ts a) b
  | [],_,_=>rfl
  | p :: a,b,ts=>OG a b _
theorem IE:∀(fs:List Pr) (m:Mk) (l:List Ob) (ps:List (List UInt8)) (od:List Nat),Stat m l->(∀q∈fs,BD q)->m.b.length<=(gI fs m ps od).2.2.b.length
  | [],_,_,_,_,_,_=>Nat.le_refl _
  | x :: r,m,l,ps,od,h,hb=>by obtain⟨d,a⟩:=Ml h x (hb x Oy);exact lv a.step.l7.len (IE r (m.data x).2 d _ _ a.eP fun q c=>hb q (by simp[c]))
theorem IG:∀(fs:List Pr) (m:Mk) (l:List Ob) (ps:List (List UInt8)) (od:List Nat),Stat m l->Hs m->(∀q∈fs,BD q)->(∀q∈fs,∀c∈q.name,c≠61)->(gI fs m ps od).2.2.b.length<900000 ->
    Hs (gI fs m ps od).2.2/\(gI fs m ps od).2.2.ai.map aN.bQ=Hf (m.ai.map aN.bQ) (fs.map au)
  | [],_,_,_,_,_,H,_,_,_=>⟨H,rfl⟩
  | x :: r,m,l,ps,od,h,H,hb,hn,hl=>by have bx:=hb x Oy;obtain⟨g,f⟩:=Ml h x bx;have k:=IE (x :: r) m l ps od h hb;have n:=ic x;obtain⟨d,i⟩:=ag4 h H x (hn x Oy) Xx ⟨by have:=bx.1;have:=bx.2;omega,by have:=bx.1;omega⟩;obtain⟨e,j⟩:=IG r (m.data x).2 g (ps ++ [((m.data x).2.ai.getD (m.data x).1 known0).bQ]) (mB (m.data x).2.ai (m.data x).1 od) f.eP d (fun q a=>hb q (by simp[a])) (fun q a=>hn q (by simp[a])) hl;exact⟨e,by rw[List.map_cons,Hf,<- i];exact j⟩
theorem agI {s:Ly} (h:ew s=true):∀c∈s,c≠61:=by intro c A e;subst e;unfold ew at h;simp only[Bool.and_eq_true]at h;have:=List.all_eq_true.1 h.2 61 A;revert this;decide
theorem ZC {m m':Mk} {l:List Ob} {es:List eH} {raw fs:List Pr} {bK mono s:Nat} {bD:Ly} (h:Img m l es) (aa:Hs m) (ok:vF m) (hb:bD.length=16) (O:ku raw=(fs,0)) (j:m.append raw bK mono bD=(s,0,m')) :
    Hs m'/\m'.ai.map aN.bQ=Hf (m.ai.map aN.bQ) (fs.map au):=by
  by_cases h3:m.bS 9=18446744073709551615
  · have e:m.append raw bK mono bD=(0,1,m):=by unfold Mk.append;simp only[O];rw[if_neg Oy,if_pos h3]
    rw[e]at j;have:=congrArg (fun x=>x.2.1) j;simp at this
  have aC:=aa.h20;have Q:=yS m raw bK mono bD;rw[j]at Q;obtain⟨P,Z,aT,aR,aS⟩:=uM O;obtain⟨g,_⟩:=tu O;have D:=uz fs m [] [] 0 (qh ok) g;obtain⟨aI,u,W⟩:=yg fs [] m l [] [] es (es.map eH.pos) (places es) h.c (fun i F=>FU h.who i F) ⟨rfl,by simp,by simp,List.Pairwise.nil⟩ g (by rw[List.nil_append];exact zC P Z);have T:=IG fs m l [] [] h.c.eP aa g (fun q aB=>agI (by have:=Z q aB;unfold right at this;simp only[Bool.and_eq_true]at this;exact this.1))
  rcases hd:gI fs m [] []with⟨ps,V,x⟩
  rw[hd,Nat.zero_add]at D;rw[hd]at u W T;rw[List.nil_append]at W;simp only at D u W T;have a2:=ok.small;have s4:=ok.nb;have aY:=D.app.le;have aZ:=D.len.1;have ad:=h.n8;have aW:es.length<=40000:=by have:m.n8=es.length:=ad;omega
  obtain⟨an,aL⟩:=T Xx;obtain⟨c1,c2,c3⟩:=u.same;have n8:x.bS 8=m.bS 8:=c3 8 Xy Xy Xy;have aM:=HX W.AI;generalize hE:({seq:=(x.bS 9+1)%18446744073709551616,bK:=bK,mono:=mono,bD:=bD,xor:=nu 0 ps,aF:=jd x V}:gU)=E;have ae:E.bD.length=16:=by subst hE;exact hb
  have a0:E.aF.length=V.length:=by subst hE;simp[jd]
  have G:=u.img.entry (E:=E) (who:=V) ae Xx;have J:=(gF x (cW E));have H:=dR x (cW E);have K:∀i,i≠6->i≠7->(x.bU (cW E)).2.bS i=x.bS i:=fun i ay az=>MX x _ ⟨ay,az⟩;have U:(x.bU (cW E)).2.b=x.b ++ cW E:=rfl;have a1:=lS E ae
  rcases I:x.bU (cW E)with⟨e,B⟩
  rw[I]at G J H K U;simp only at G J H K U;have r:e=x.b.length:=J.1;subst r;have ap:Kept x B:=by refine Kept.l7 u.img.eP (S:=fun _=>False) (by rw[U];exact Eff.app _ _ _) (fun _ aA=>aA.elim) H.1 (by rw[H.2.1]) H.2.2.1 (K 15 Xy Xy) (K 16 Xy Xy)
  have y:B.bS 8=(es.map eH.pos).length:=by rw[K 8 Xy Xy,n8,ad,List.length_map]
  have aQ:x.b.length<100000:=by omega
  obtain⟨af,d⟩:=MP (x:=x.b.length) G.eP.eF G.main (t7 _) (by have:=J.2.1;omega) Xx;rw[<- y]at d
  rcases hk:B.link B.main (B.bS 8) 176 x.b.length with⟨L,t,C⟩
  rw[hk]at d;simp only at d;have N:=kR (bK:=bK) (mono:=mono) (bD:=bD) O Oy h3 hd (by rw[hE];exact I) hk rfl;obtain⟨aJ,ah,aK,a3,a4,aj⟩:=d.same;have aq:Kept B C:=by
    have aw:∀o∈(aI ++ [(⟨x.b.length,3,64+16*E.aF.length⟩:Ob)]),o∈af:=fun o I=>by
      rcases d.sub with e1|e1 <;> rw[e1]
      · exact I
      · exact List.mem_append_left _ I
    exact Kept.l7 G.eP d.l7 (fun L j=>BO.mono (EO d.eF j d.chain.ob (IV d.eF Xy)) aw) aJ (by rw[ah]) aK (aj 15 Xy Xy Xy) (aj 16 Xy Xy Xy)
  obtain⟨a,M⟩:∃a,a=(let ag:=({C with main:=L}:Mk).cE 11 (L.getD 0 0);({ag with h:={ag.h with cK:=iZ L%4294967296,dc:=t%4294967296}}:Mk)):=⟨_,rfl⟩;have A:∀i,i≠11->a.bS i=C.bS i:=fun i F=>by subst M;exact aX Xx
  have ax:a.b=C.b/\a.c=C.c/\a.ai=C.ai/\a.ak=C.ak/\a.main=L/\a.h.n.length=C.h.n.length:=by subst M;exact⟨rfl,rfl,rfl,rfl,rfl,by simp[Mk.cE]⟩
  rw[<- M]at N;clear M;obtain⟨X,al,Y,am,aO,aP⟩:=ax;have ar:Kept C a:=Kept.same X al Y am (A 15 Xy) (A 16 Xy);have ao:=G.link d X al Y am aO ⟨A 2 Xy,A 4 Xy⟩ (fun c=>c.to aP fun i F=>A i Xx);have aU:=d.top;have f:a.ai=x.ai:=by rw[Y,ah,H.2.1]
  have aV:=J.2.1;have av:=DT (e:=x.b.length) Xx V a af _ ao (fun i F=>by rw[f];exact W.lt i F) aM (fun i _=>by have:=FT es i;omega) (by rw[X];omega);generalize kr x.b.length V a=z at *;have N:m.append raw bK mono bD=if z.c.bG<z.b.length then(0,15,m)else((x.bS 9+1)%18446744073709551616,0,nJ z (B.bS 8) ((x.bS 9+1)%18446744073709551616) bK mono x.b.length bD):=N;rw[N]at j;split at j
  · have:=congrArg (fun x=>x.2.1) j;simp at this
  obtain⟨aD,aE,aG,aH,_⟩:=uG z (B.bS 8) ((x.bS 9+1)%18446744073709551616) bK mono x.b.length bD;have v:=tc z (B.bS 8) ((x.bS 9+1)%18446744073709551616) bK mono x.b.length bD 15 Xy;have w:=tc z (B.bS 8) ((x.bS 9+1)%18446744073709551616) bK mono x.b.length bD 16 Xy;obtain⟨_,k⟩:=Prod.mk.inj j;have p:=(Prod.mk.inj k).2;generalize nJ z (B.bS 8) ((x.bS 9+1)%18446744073709551616) bK mono x.b.length bD=R at *;subst p;have ab:Kept x R:=ap.trans (aq.trans (ar.trans (av.trans (Kept.same aD aE aG aH v w))));exact⟨an.kept ab (Q.trans aC),by rw[(Zi ab.ds).2.1];exact aL⟩
def O2 (rs:List Rec):List (List UInt8):=rs.flatMap fun r=>r.ak.map au
theorem JK:∀(n:Nat) (s:Sq) (m:Mk) (l:List Ob) (es:List eH) (rs:List Rec),mM m l es rs->Hs m->m.ai.map aN.bQ=Hf [] (O2 rs) ->
    Hs (iW n s m rs).1/\(iW n s m rs).1.ai.map aN.bQ=Hf [] (O2 (iW n s m rs).2.1)
  | 0,_,_,_,_,_,_,H,ht=>⟨H,ht⟩
  | n+1,s,m,l,es,rs,h,H,ht=>by
    unfold iW;split
    · have a:=G1 s ((m.bS 9+1)%18446744073709551616)
      rcases hrec:s.record ((m.bS 9+1)%18446744073709551616)with⟨r,s1⟩
      rw[hrec]at a;have hk:=(yI m r.ak r.bK r.mono r.bD).2
      rcases ha:m.append r.ak r.bK r.mono r.bD with⟨e,c,m1⟩
      rw[ha]at hk;simp only[ha];split
      · rename_i hc
        have:=hk hc;simp only at this;subst this;exact⟨H,ht⟩
      · rename_i hc
        have i:c=0:=Classical.not_not.1 hc;subst i;obtain⟨k,f,g,p⟩:=Z0 h a.1 a.2.1 a.2.2.1 a.2.2.2 ha;obtain⟨_,_,fs,b,_⟩:=HW h.img h.ok h.h20 a.2.1 a.2.2.1 ha;have j:=EQ b a.2.2.2;obtain⟨d,o⟩:=ZC h.img H h.ok a.2.1 b ha;exact JK n s1 m1 k f _ g d (by
          rw[o,ht,j];unfold O2;rw[List.flatMap_append,OG];simp)
    · exact⟨H,ht⟩
theorem adR {c:nA} {t:Nat} (h1:1<=c.ay/\1<=c.aC):Hs (iA c t):=by
  obtain⟨_,G,H⟩:=ahA (k:=4) (.inl q) c.ay;obtain⟨_,J,I⟩:=ahA (k:=5) (.inr q) c.aC;have E:(iA c t).b=List.replicate 272 0 ++ dV 4 (List.replicate c.ay {first:=0,tail:=0}) ++ dV 5 (List.replicate c.aC {first:=0,tail:=0}):=rfl;have D:(List.replicate 272 (0:UInt8) ++ dV 4 (List.replicate c.ay {first:=0,tail:=0})).length=288+16*c.ay:=by rw[List.length_append,List.length_replicate,G];omega
  have B:(iA c t).ai=[]:=rfl;have A:(iA c t).ak=[]:=rfl;have F:(iA c t).c=c:=rfl;refine⟨⟨by rw[B];simp,fun s C=>?_,by rw[B];simp[iv]⟩,⟨by rw[A];simp,fun s C=>?_,by rw[A];simp[iv]⟩,⟨by rw[A];simp,by rw[B];simp[nC]⟩,by rw[B];simp,by rw[A];simp,by rw[B];simp,by rw[A];simp,by rw[A];simp,by rw[B];simp,by rw[A];simp,?_,?_,by rw[B];simp,by rw[A];simp,?_⟩
  · rw[F]at C
    rw[B,E,uq (by rw[D];omega),gJ (by rw[List.length_replicate];omega),List.length_replicate,show 288+16*s-272=16+8*(2*s)by omega,H _ Xx];rfl
  · rw[F]at C ⊢
    rw[A,E,gJ Xx,D,show 304+16*c.ay+16*s-(288+16*c.ay)=16+8*(2*s)by omega,I _ Xx];rfl
  · rw[B];show(((((((((List.replicate 20 0).set 0 272).set 2 288).set 3 _).set 4 _).set 5 _).set 6 _).set 7 2).set 9 _).getD 15 0=0;rw[aX Xy,aX Xy,aX Xy,aX Xy,aX Xy,aX Xy,aX Xy,aX Xy];rfl
  · rw[A];show(((((((((List.replicate 20 0).set 0 272).set 2 288).set 3 _).set 4 _).set 5 _).set 6 _).set 7 2).set 9 _).getD 16 0=0;rw[aX Xy,aX Xy,aX Xy,aX Xy,aX Xy,aX Xy,aX Xy,aX Xy];rfl
  show(((((((((List.replicate 20 0).set 0 272).set 2 288).set 3 _).set 4 _).set 5 _).set 6 _).set 7 2).set 9 _).length=20;simp only[List.length_set,List.length_replicate]
theorem adH {s e:Sq} {bG:Nat} {m:Mk} {rs:List Rec} (h:s.pK bG=(m,rs,e)):Hs m/\m.ai.map aN.bQ=Hf [] (O2 rs):=by
  have a:=uy s
  rcases h1:s.config with⟨c,C⟩
  rcases h2:C.bS 6 with⟨t,F⟩
  rw[h1]at a;have b:=C.jw 6;rw[h2]at b;simp only at b a;simp only[Sq.pK,h1,h2]at h;obtain⟨D,d,G⟩:=RF (c:=c) (t:=t) a.1 a.2.1 Xx;have:=JK bG F (iA c t) (rB c) [] [] ⟨D,xe a.1 a.2.1 a.2.2,q,d,q,by simp,List.Pairwise.nil,by simp⟩ (adR a.2.1) q;rw[h]at this;exact this
end Go.Wk
namespace Go.Wk
open Go Go.RowKit
theorem ad2 {m:Mk} {l:List Ob} {es:List eH} {rs:List Rec} {st:Nat} (h:mM m l es rs) (e:ej.ok m.h) (f:st<=2) (H:Hs m):Hs {m with b:=lG m st}:=by obtain⟨_,_,a⟩:=zH h e f;exact H.kept (Kept.l7 (m':={m with b:=lG m st}) h.img.c.eP a (fun g d=>IV h.img.c.eP.eF d) q q q q q) H.h20
theorem aby (b:Ly) (p n:Nat):iK (seg b p (16*n)) 0 n=iK b p n:=by unfold iK;refine List.map_congr_left fun i A=>?_;rw[List.mem_range]at A;rw[jB,jB,jB,jB,NV Xx,NV Xx];simp only[Nat.zero_add,Nat.add_assoc]
theorem Tz {b:Ly} {p n s:Nat} (h:s<n):(iK b p n)[s]? = some {first:=dW b (p+16*s),tail:=dW b (p+16*s+8)}:=by unfold iK;rw[List.getElem?_map,List.getElem?_range h];rfl
section
variable {m:Mk} {B:Ly} {H:bF} {l:List Ob} {es:List eH} {rs:List Rec}
theorem ajZ (c:jb m B H l es) {p k n:Nat} (b:(⟨p,k,16+16*n⟩:Ob)∈l) (hk:(k:Int)=4\/(k:Int)=5) (e:1<=n):jo B p (k:Int)=(iK B (p+16) n,0):=by have D:=c.img.eP.eF.mem b;have d:=dQ (16+16*n);have a:=D.le;simp only at a;have C:=Xo (k:=k) (ahead:=0) (gN:=16) D Xy (by show p+(16+16*n)<=B.length;exact lv Xx a) q Zx Zx;simp only at C;refine af6 hk C Oy ?_;rw[show 16+16*n-16=16*n by omega,Zt (by exact lv Xx a),show 16*n/16=n by omega];exact(aby B (p+16) n).symm
theorem ai5 (b:mM m l es rs) (a:jb m B H l es):sw H.n B 4=(iK B 288 m.c.ay,0):=by have D:=a.img.eP.slots.1;have e:=ajZ a (k:=4) a.img.eP.GK (.inl q) D;have d:H.n.getD 2 0=288:=(a.n 2 Xy Xy).trans b.img.c.eP.n2;have C:H.n.getD 3 0=16*m.c.ay:=(a.n 3 Xy Xy).trans b.hd.n3;unfold sw;rw[if_pos q,if_pos q,d,C];have f:jo B (288-16) 4=(iK B 288 m.c.ay,0):=e;rw[f];rw[if_neg Oy,if_neg (by simp only[qC];omega)]
end
structure abQ (nx cd:Nat->Nat) (len:Nat) (L:List Nat):Prop where
  AI:L.Pairwise (· < ·)
  ok:∀p∈L,p≠0/\p<len/\cd p=0
  nx:∀j p:Nat,L[j]? = some p->nx p=L.getD (j+1) 0
section
variable {nx cd:Nat->Nat} {is:Nat->Bool} {len:Nat} {L:List Nat}
theorem PK (h:abQ nx cd len L):∀(d j a:Nat),L.length-j=d->(∀p,L[j]? = some p->a<p)->CY nx cd is len (L.getD j 0) a=(((L.drop j).find? is).getD 0,0)
  | 0,j,a,hd,_=>by rw[IY Xx,acL (.inl rfl),List.drop_of_length_le Xx];rfl
  | d+1,j,a,hd,ha=>by
    obtain⟨p,b⟩:∃p,L[j]? = some p:=⟨_,List.getElem?_eq_getElem Xx⟩;have g:L.getD j 0=p:=(by rw[List.getD_eq_getElem?_getD,b];rfl);obtain⟨G,H,c⟩:=h.ok p (List.mem_of_getElem? b);have i:=ha p b;obtain⟨e,C⟩:=List.getElem?_eq_some_iff.1 b;rw[g,List.drop_eq_getElem_cons e,C,List.find?_cons]
    by_cases hi:is p=true
    · rw[acM Xx Xx c hi,hi];rfl
    · have D:is p=false:=by simpa using hi
      rw[ahY Xx Xx c hi (h.nx j p b),D];exact PK h d (j+1) p Xx fun q f=>LR h.AI b f Xx
theorem aiX (h:abQ nx cd len L):CY nx cd is len (L.getD 0 0) 0=((L.find? is).getD 0,0) :=
  PK h L.length 0 0 Xx fun p a=>Nat.pos_of_ne_zero (h.ok p (List.mem_of_getElem? a)).1
end
section
variable {m:Mk} {B:Ly} {H:bF} {l:List Ob} {es:List eH} {rs:List Rec}
theorem LY (c:mM m l es rs) (d:jb m B H l es) {k:aN} (hk:k∈m.ai):∃a:fV,fF 272 B k.pos=(a,0)/\a.bY=cM m k.bQ/\a.b9=dW B (k.pos+24)/\a.dr=dW B (k.pos+32)/\a.au=k.bQ:=by obtain⟨i,b⟩:=List.mem_iff_getElem?.1 hk;exact⟨_,Uc d.img b (GP c.img.txt hk),q,q,q,q⟩
theorem afX (d:mM m l es rs) (a:jb m B H l es) (e:Hs {m with b:=B}) (s:Nat):abQ (tG (H.n.getD 0 0) B 4) (tF (H.n.getD 0 0) B 4) B.length (iv m.ai s):=by
  have f:=a.img.eP.dd.1;refine⟨e.a4.sublist (KW m.ai s),fun p c=>?_,fun h p c=>?_⟩
  · obtain⟨k,hk,rfl,_⟩:=kG c
    have:=f k hk;obtain⟨g,C,_⟩:=LY d a hk;refine⟨by omega,by have i:k.pos+40<=B.length:=this.2;omega,?_⟩;rw[agL d a];unfold tF;rw[if_pos q,C]
  obtain⟨k,hk,rfl,_⟩:=kG (List.mem_of_getElem? c);obtain⟨g,C,_,D,_⟩:=LY d a hk;rw[agL d a];unfold tG;rw[if_pos q,C];exact D.trans (e.r4.next s h _ c)
theorem UE {ks:List aN} {s:Nat} {is:Nat->Bool} {P:aN->Prop} (hi:∀k∈ks,is k.pos=true↔P k) (c:∀k∈ks,P k->k.bV=s) (one:∀x∈ks,∀y∈ks,P x->P y->x=y) :
    (∀k∈ks,P k->(iv ks s).find? is=some k.pos)/\((∀k∈ks,¬P k)->(iv ks s).find? is=none):=by
  refine⟨fun k hk a=>?_,fun D=>?_⟩
  · cases hf:(iv ks s).find? is with
    | none =>
      rw[List.find?_eq_none]at hf;have:=hf k.pos (c k hk a ▸ afy hk);exact absurd ((hi k hk).2 a) (by simpa using this)
    | some p =>
      have C:=List.find?_some hf;obtain⟨x,b,rfl,_⟩:=kG (List.mem_of_find?_eq_some hf);rw[one x b k hk ((hi x b).1 C) a]
  rw[List.find?_eq_none];intro p a;obtain⟨x,b,rfl,_⟩:=kG a;intro h;exact D x b ((hi x b).1 (by simpa using h))
theorem af9 (f:mM m l es rs) {x y:aN} (d:x∈m.ai) (e:y∈m.ai) (h:x.bQ=y.bQ):x=y:=by obtain⟨i,b⟩:=List.mem_iff_getElem?.1 d;obtain⟨g,a⟩:=List.mem_iff_getElem?.1 e;have:=f.img.c.eP.one i g x y b a (.inr h);subst this;rw[b]at a;exact Option.some.inj a
theorem aiZ (d:mM m l es rs) (a:jb m B H l es) (i:Hs {m with b:=B}) (I:Hs m) (t:Ly) :
    (∀k∈m.ai,k.bQ=t->findF H.n B 4 (cM m t) t=(k.pos,0))/\((∀k∈m.ai,k.bQ≠t)->findF H.n B 4 (cM m t) t=(0,16)):=by
  have D:=a.img.eP.slots.1;have C:cM m t%m.c.ay<m.c.ay:=Nat.mod_lt _ D;have Q:dW B (288+16*(cM m t%m.c.ay))=(iv m.ai (cM m t%m.c.ay)).getD 0 0:=i.r4.head _ C;have A:=a.img.eP.dd.1;have u:=fun is=>aiX (is:=is) (afX d a i (cM m t%m.c.ay));have R:∀k∈m.ai,(fun p=>decide (qM (H.n.getD 0 0) B 4 p=cM m t) && decide (qN (H.n.getD 0 0) B 4 p=t)) k.pos=true↔k.bQ=t:=fun k hk=>by obtain⟨J,v,w,_,_,z⟩:=LY d a hk;simp only[Bool.and_eq_true,decide_eq_true_eq];rw[agL d a];unfold qM qN;rw[if_pos q,if_pos q,v];simp only;rw[w,z];exact⟨fun h=>h.2,fun h=>⟨by rw[h],h⟩⟩
  obtain⟨o,r⟩:=UE (s:=cM m t%m.c.ay) (is:=fun p=>decide (qM (H.n.getD 0 0) B 4 p=cM m t) && decide (qN (H.n.getD 0 0) B 4 p=t)) (P:=fun k=>k.bQ=t) R (fun k hk f=>by rw[I.s4 k hk,f]) fun x T y F j G=>af9 d T F (j.trans G.symm);have g:(iK B 288 m.c.ay)[cM m t%(iK B 288 m.c.ay).length]? = some {first:=dW B (288+16*(cM m t%m.c.ay)),tail:=dW B (288+16*(cM m t%m.c.ay)+8)}:=by rw[qC];exact Tz C
  have e:=u (fun p=>decide (qM (H.n.getD 0 0) B 4 p=cM m t) && decide (qN (H.n.getD 0 0) B 4 p=t));rw[<- Q]at e;refine⟨fun k hk f=>?_,fun E=>?_⟩
  · rw[o k hk f]at e
    have:=A k hk;exact(wK (t:={first:=_,tail:=_}) (ai5 d a) q g e).trans (if_neg (by intro h;have:=congrArg Prod.fst h;simp only[Option.getD_some]at this;omega))
  rw[r E]at e;exact(wK (t:={first:=_,tail:=_}) (ai5 d a) q g e).trans (if_pos q)
end
end Go.Wk
namespace Go.Wk
open Go Go.RowKit
end Go.Wk
namespace Go.Wk
open Go Go.RowKit
theorem QA {a:eT} {l:List Pr}:vf a l=true↔∃p∈l,p.name=a.name/\p.value∈a.values:=by
  induction l with
  | nil=>simp[vf]
  | cons p r ih =>
    unfold vf;split
    · rename_i h;rw[Qt]at h;simp[h]
    · rename_i h;rw[Qt]at h;simp[h,ih]
end Go.Wk
namespace Go.Wk
open Go Go.RowKit
theorem OJ {l:List Pr} {xs:List eT}:Hg l xs=true↔∀a∈xs,vf a l=true:=by
  induction xs with
  | nil=>simp[Hg]
  | cons a r ih=>unfold Hg;split <;> rename_i h <;> simp[h,ih]
section
variable {o:List (List UInt8)} {m x:eL} {c:Nat} {l:List Pr}
end
end Go.Wk
namespace Go.Wk
open Go Go.RowKit
theorem tq {z:Bool} {l:List Pr}:∀{rows:List (List eT)},holdsGo z l rows=true↔z=true\/∃r∈rows,Hg l r=true
  | []=>by simp[holdsGo]
  | r :: t=>by
    unfold holdsGo;split
    · rename_i h;simp[h]
    · rename_i h;rw[tq];simp[h]
theorem NS (v:dx) (at_:List Nat) (x:Nat):∀(l:List eT) (o:List Nat),x∈l.foldl (ng v at_) o↔x∈o/\∀c∈l,x∈abZ v at_ c
  | [],o=>by simp
  | c :: r,o=>by
    rw[List.foldl_cons,NS v at_ x r];unfold ng;rw[List.mem_filter,decide_eq_true_eq];constructor
    · rintro⟨⟨d,b⟩,f⟩
      refine⟨d,fun y a=>?_⟩
      rcases List.mem_cons.1 a with e|a
      · subst e;exact b
      · exact f y a
    · rintro⟨d,b⟩
      exact⟨⟨d,b c (List.mem_cons_self ..)⟩,fun y a=>b y (List.mem_cons_of_mem _ a)⟩
theorem RE:∀{a b:List Nat},a.Pairwise (· < ·)->b.Pairwise (· < ·)->(∀x,x∈a↔x∈b)->a=b
  | [],[],_,_,_=>rfl
  | [],y :: r,_,_,h=>by have:=(h y).2 (List.mem_cons_self ..);cases this
  | x :: r,[],_,_,h=>by have:=(h x).1 (List.mem_cons_self ..);cases this
  | x :: r,y :: t,ha,hb,h=>by
    obtain⟨e,g⟩:=List.pairwise_cons.1 ha;obtain⟨f,i⟩:=List.pairwise_cons.1 hb;have c:x=y:=by
      rcases List.mem_cons.1 ((h x).1 (List.mem_cons_self ..))with c|A
      · exact c
      · rcases List.mem_cons.1 ((h y).2 (List.mem_cons_self ..))with c|C
        · exact c.symm
        · have:=f x A;have:=e y C;omega
    subst c;refine congrArg _ (RE g i fun z=>?_);constructor
    · intro d
      rcases List.mem_cons.1 ((h z).1 (List.mem_cons_of_mem _ d))with c|A
      · subst c;have:=e z d;omega
      · exact A
    · intro d
      rcases List.mem_cons.1 ((h z).2 (List.mem_cons_of_mem _ d))with c|A
      · subst c;have:=f z d;omega
      · exact A
section
variable {m:Mk} {B:Ly} {H:bF} {l:List Ob} {es:List eH} {rs:List Rec}
theorem adr (a:jb m B H l es) (t:Ly):cP (decide (H.bN &&& 4≠0)) H.cg t=cM m t:=by unfold cM;rw[a.key,a.cg];cases m.c.cC <;> rfl
theorem adl (a:mM m l es rs) (c:jb m B H l es):j7 {b:=B,h:=H} (es.map eH.pos)=List.range es.length:=ZW a c
theorem JD (s:mM m l es rs) (r:jb m B H l es) {x j:Nat} {g:eH} (a:es[x]? = some g):(es.map eH.pos).getD x 0∈places es j↔j∈g.who:=by
  have p:(es.map eH.pos).getD x 0=g.pos:=by rw[List.getD_eq_getElem?_getD,List.getElem?_map,a];rfl
  rw[p];unfold places;rw[List.mem_map];constructor
  · rintro⟨i,k,P⟩
    obtain⟨n,o⟩:=List.mem_filter.1 k;obtain⟨y,D⟩:=List.mem_iff_getElem?.1 n;have e:=(CX r.img).2;obtain⟨b,C⟩:=List.getElem?_eq_some_iff.1 a;obtain⟨G,f⟩:=List.getElem?_eq_some_iff.1 D;have c:(es.map eH.pos)[x]'(by rw[List.length_map];exact b)=g.pos:=(by rw[List.getElem_map,C]);have d:(es.map eH.pos)[y]'(by rw[List.length_map];exact G)=i.pos:=(by rw[List.getElem_map,f]);have:x=y:=by
      rcases Nat.lt_trichotomy x y with A|A|A
      · have:=List.pairwise_iff_getElem.1 e x y (by rw[List.length_map];exact b) (by rw[List.length_map];exact G) A
        rw[c,d]at this;omega
      · exact A
      · have:=List.pairwise_iff_getElem.1 e y x (by rw[List.length_map];exact G) (by rw[List.length_map];exact b) A
        rw[c,d]at this;omega
    subst this;rw[a]at D;cases D;simpa using o
  intro h;exact⟨g,List.mem_filter.2 ⟨List.mem_of_getElem? a,by simpa using h⟩,q⟩
theorem YH (a:mM m l es rs) (c:jb m B H l es) (K:Hs {m with b:=B}) (J:Hs m) (p:Pr) (x:Nat) :
    x∈tf {b:=B,h:=H} (es.map eH.pos) p↔∃r,rs[x]? = some r/\p∈r.ak:=by
  have L:=a.len;have s:∀{r:Rec},rs[x]? = some r->∃g,es[x]? = some g:=fun h=>⟨_,List.getElem?_eq_getElem (by have:=(List.getElem?_eq_some_iff.1 h).1;omega)⟩;cases hr:right p.pb with
  | false =>
    rw[XY hr];constructor
    · intro h;cases h
    · rintro⟨r,D,d⟩
      obtain⟨g,C⟩:=s D;rw[(a.rcd x g r C D).right p d]at hr;cases hr
  | true =>
    have z:zD {b:=B,h:=H} p=findF H.n B 4 (cM m (au p)) (au p):=(by unfold zD;exact congrArg (fun q=>findF H.n B 4 q (au p)) (adr c (au p)));obtain⟨T,F⟩:=aiZ a c K J (au p)
    by_cases hk:∃k∈m.ai,k.bQ=au p
    · obtain⟨k,hk,v⟩:=hk
      rw[adq hr (z.trans (T k hk v)) rfl,adl a c,List.mem_filter,List.mem_range];obtain⟨o,u⟩:=List.mem_iff_getElem?.1 hk;have E:=c.img.eP.data k hk;obtain⟨i,I,V,W,_,A⟩:=ac0 a c E.ob rfl;have:=c.img.eP.one i o I k V u (.inl W);subst this;have P:ofF (H.n.getD 0 0) B k.pos=(places es i,0):=A;unfold inG;rw[decide_eq_true_eq];constructor
      · rintro⟨D,d⟩
        obtain⟨g,C⟩:∃g,es[x]? = some g:=⟨_,List.getElem?_eq_getElem D⟩;obtain⟨r,e⟩:∃r,rs[x]? = some r:=⟨_,List.getElem?_eq_getElem Xx⟩;refine⟨r,e,?_⟩;have j:(es.map eH.pos).getD x 0∈places es i:=(by rw[show places es i=(ofF (H.n.getD 0 0) B k.pos).1 by rw[P]];exact d);have f:=(XZ a c C e u).2 ((JD a c C).1 j);unfold ZA at f;obtain⟨q,G,t⟩:=List.any_eq_true.1 f;have w:=(dT t).trans v;rw[zN ((a.rcd x g r C e).right q G) hr w]at G;exact G
      · rintro⟨r,e,d⟩
        obtain⟨g,C⟩:=s e;refine⟨(List.getElem?_eq_some_iff.1 C).1,?_⟩;have f:ZA k.bQ r.ak=true:=(by unfold ZA;exact List.any_eq_true.2 ⟨p,d,decide_eq_true v.symm⟩);have j:=(JD a c C).2 ((XZ a c C e u).1 f);show _∈(ofF (H.n.getD 0 0) B k.pos).1;rw[P];exact j
    · have Q:∀k∈m.ai,k.bQ≠au p:=fun k h w=>hk ⟨k,h,w⟩
      rw[QB hr (z.trans (F Q)) Xy];constructor
      · intro h;cases h
      · rintro⟨r,D,d⟩
        obtain⟨g,C⟩:=s D;have j:=(a.rcd x g r C D).ak.mem_iff.2 (List.mem_map.2 ⟨p,d,rfl⟩);obtain⟨o,f,G⟩:=List.mem_map.1 j;have t:=(a.img.who g (List.mem_of_getElem? C)).lt o f;obtain⟨y,R⟩:∃y,m.ai[o]? = some y:=⟨_,List.getElem?_eq_getElem t⟩;rw[(mC R).1]at G;exact absurd G (Q y (List.mem_of_getElem? R))
theorem YG (g:mM m l es rs) (i:jb m B H l es) (f:Hs {m with b:=B}) (e:Hs m) (a:eT) (x:Nat) :
    x∈abZ {b:=B,h:=H} (es.map eH.pos) a↔∃r,rs[x]? = some r/\vf a r.ak=true:=by
  unfold abZ;rw[List.mem_flatMap];constructor
  · rintro⟨s,c,C⟩
    obtain⟨r,D,d⟩:=(YH g i f e _ x).1 C;exact⟨r,D,QA.2 ⟨_,d,rfl,c⟩⟩
  rintro⟨r,c,C⟩;obtain⟨q,D,d,j⟩:=QA.1 C;refine⟨q.value,j,(YH g i f e _ x).2 ⟨r,c,?_⟩⟩;rw[<- d];exact D
theorem EW (a:mM m l es rs) (c:jb m B H l es) (x:Nat):x∈j7 {b:=B,h:=H} (es.map eH.pos)↔∃r,rs[x]? = some r:=by rw[adl a c,List.mem_range,a.len];exact⟨fun h=>⟨_,List.getElem?_eq_getElem h⟩,fun⟨_,h⟩=>(List.getElem?_eq_some_iff.1 h).1⟩
theorem adJ (d:mM m l es rs) (e:jb m B H l es) (k:Hs {m with b:=B}) (j:Hs m) (mt:eL) (x:Nat) :
    x∈qV {b:=B,h:=H} (es.map eH.pos) mt↔∃r,rs[x]? = some r/\pG mt r.ak=true:=by
  unfold pG
  by_cases h0:mt.rows=[]
  · have q:qV {b:=B,h:=H} (es.map eH.pos) mt=j7 {b:=B,h:=H} (es.map eH.pos):=by unfold qV;rw[if_pos (xQ.2 h0)]
    rw[q,EW d e];simp[h0,holdsGo]
  rw[ZS h0,(wC (T1 _)).2 x,zq,List.mem_flatMap];have p:decide (mt.rows.length=0)=false:=by simp[h0]
  rw[p];constructor
  · rintro⟨a,f,D⟩
    unfold HS at D;obtain⟨g,n⟩:=(NS _ _ x a _).1 D;obtain⟨r,C⟩:=(EW d e x).1 g;refine⟨r,C,tq.2 (.inr ⟨a,f,OJ.2 fun c G=>?_⟩)⟩;obtain⟨s,i,o⟩:=(YG d e k j c x).1 (n c G);rw[C]at i;cases i;exact o
  rintro⟨r,C,f⟩
  rcases tq.1 f with h|⟨a,D,g⟩
  · cases h
  refine⟨a,D,?_⟩;unfold HS;exact(NS _ _ x a _).2 ⟨(EW d e x).2 ⟨r,C⟩,fun c G=>(YG d e k j c x).2 ⟨r,C,OJ.1 g c G⟩⟩
end
def pW (mt:eL):List Rec->Nat->List Nat->List Nat
  | [],_,o=>o
  | r :: t,i,o=>if pG mt r.ak=true then pW mt t (i+1) (o ++ [i])else pW mt t (i+1) o
theorem abJ {mt:eL} {rs:List Rec} {i j:Nat} {o:List Nat} (h:¬i<rs.length):pW mt (rs.drop i) j o=o:=by rw[er Xx];rfl
theorem GV {mt:eL} {rs:List Rec} {i:Nat} {r:Rec} {o:List Nat} (h:rs[i]? = some r):pW mt (rs.drop i) i o=if pG mt r.ak=true then pW mt (rs.drop (i+1)) (i+1) (o ++ [i])else pW mt (rs.drop (i+1)) (i+1) o:=by rw[cH h];rfl
theorem zv (mt:eL):∀(t:List Rec) (i:Nat) (o:List Nat),o.Pairwise (· < ·)->(∀x∈o,x<i)->(pW mt t i o).Pairwise (· < ·)/\(pW mt t i o).length<=o.length+t.length/\∀x,x∈pW mt t i o↔x∈o\/∃k r,t[k]? = some r/\x=i+k/\pG mt r.ak=true
  | [],i,o,h,_=>⟨h,by simp[pW],fun x=>by simp[pW]⟩
  | r :: t,i,o,h,hb=>by
    have key:∀x,(∃k c,(r :: t)[k]? = some c/\x=i+k/\pG mt c.ak=true)↔(x=i/\pG mt r.ak=true)\/∃k c,t[k]? = some c/\x=i+1+k/\pG mt c.ak=true:=by
      intro x;constructor
      · rintro⟨k,c,a,G,D⟩
        cases k with
        | zero=>simp at a;subst a;exact .inl ⟨by omega,D⟩
        | succ k=>exact .inr ⟨k,c,by simpa using a,by omega,D⟩
      · rintro(⟨a,G⟩|⟨k,c,a,G,D⟩)
        · exact⟨0,r,q,by omega,G⟩
        · exact⟨k+1,c,by simpa using a,by omega,D⟩
    unfold pW;split
    · rename_i hc
      obtain⟨e,H,f⟩:=zv mt t (i+1) (o ++ [i]) (List.pairwise_append.2 ⟨h,List.pairwise_singleton ..,fun j g b C=>by rw[List.mem_singleton]at C;subst C;exact hb j g⟩) fun x d=>by
        rcases List.mem_append.1 d with d|d
        · have:=hb x d;omega
        · rw[List.mem_singleton]at d;omega
      refine⟨e,by rw[List.length_append,List.length_singleton]at H;rw[List.length_cons];omega,fun x=>?_⟩;rw[f,key,List.mem_append,List.mem_singleton];constructor
      · rintro((a|a)|a)
        · exact .inl a
        · exact .inr (.inl ⟨a,hc⟩)
        · exact .inr (.inr a)
      · rintro(a|a|a)
        · exact .inl (.inl a)
        · exact .inl (.inr a.1)
        · exact .inr a
    · rename_i hc
      obtain⟨e,H,f⟩:=zv mt t (i+1) o h fun x d=>by have:=hb x d;omega
      refine⟨e,by rw[List.length_cons];omega,fun x=>?_⟩;rw[f,key];constructor
      · rintro(a|a)
        · exact .inl a
        · exact .inr (.inr a)
      · rintro(a|a|a)
        · exact .inl a
        · exact absurd a.2 hc
        · exact .inr a
theorem WB {m:Mk} {c:Ly} {H:bF} {l:List Ob} {es:List eH} {rs:List Rec} (n:mM m l es rs) (o:jb m c H l es) (i:Hs {m with b:=c}) (g:Hs m) {v:dx} {at_:List Nat} (j:{b:=c,h:=H}=v) (f:es.map eH.pos=at_) (mt:eL) :
    qV v at_ mt=pW mt rs 0 []:=by
  subst j f;obtain⟨d,_,e⟩:=zv mt rs 0 [] List.Pairwise.nil Oy;refine RE (acR _ _ mt).1 d fun x=>?_;rw[adJ n o i g,e];constructor
  · rintro⟨r,C,a⟩;exact .inr ⟨x,r,C,by omega,a⟩
  rintro(h|⟨k,r,C,a,D⟩)
  · cases h
  rw[Nat.zero_add]at a;subst a;exact⟨r,C,D⟩
end Go.Wk
namespace Go.Wk
open Go Go.RowKit
end Go.Wk
namespace Go.Wk
open Go Go.RowKit
section
variable {o:List (List UInt8)} {m x:eL} {c c':Nat}
end
end Go.Wk
namespace Go.Wk
open Go Go.RowKit
section
variable {d:Bool} {l back row:List (List UInt8)} {i:Nat} {s:Ly}
end
end Go.Wk
namespace Go.Wk
open Go Go.RowKit
theorem aaU {l:List (List UInt8)} {s x:Ly} {k:Nat} (h:k<=vU l s) (b:l[k]? = some x) (d:Op.bytesLess x s=true):k+1<=vU l s:=by
  rcases Nat.lt_or_ge k (vU l s)with B|B
  · omega
  have c:k=vU l s:=by omega
  have:l[HK (fun y=>Op.bytesLess y s) l]? = some x:=by rw[c]at b;exact b
  have a:=pos_at this;rw[d]at a;cases a
theorem xH {l:List (List UInt8)} {s:Ly} {k:Nat} (h:vU l s=k) (a:aag l s=false):AB l s=l.take k ++ [s] ++ l.drop k:=by unfold AB;rw[if_neg (by rw[a];simp),h];simp
def iC (p:Pr):Bool->List eT->List eT
  | b,[]=>if b=true then[]else[{name:=p.name,values:=[p.value]}]
  | b,a :: r =>
    if a.name=p.name then {name:=p.name,values:=AB a.values p.value} :: iC p true r
    else if b=false/\(Op.bytesLess a.name p.name || decide (a.name=p.name))=false then {name:=p.name,values:=[p.value]} :: a :: iC p true r
    else a :: iC p b r
theorem mF (p:Pr) (b:Bool) (a:eT) (r:List eT):iC p b (a :: r)=if a.name=p.name then {name:=p.name,values:=AB a.values p.value} :: iC p true r
    else if b=false/\(Op.bytesLess a.name p.name || decide (a.name=p.name))=false then {name:=p.name,values:=[p.value]} :: a :: iC p true r
    else a :: iC p b r:=rfl
theorem OM {p:Pr} {b:Bool} {l:List eT} {i:Nat} (h:¬i<l.length):iC p b (l.drop i)=if b=true then[]else[{name:=p.name,values:=[p.value]}]:=by rw[er Xx];rfl
section
variable {p:Pr} {b:Bool} {l:List eT} {i:Nat} {a:eT}
theorem acd (h:l[i]? = some a) (e:a.name=p.name):iC p b (l.drop i)={name:=p.name,values:=AB a.values p.value} :: iC p true (l.drop (i+1)):=by rw[cH h,mF,if_pos e]
theorem ace (h:l[i]? = some a) (e:¬a.name=p.name) (hb:b=false) (c:(Op.bytesLess a.name p.name || decide (a.name=p.name))=false):iC p b (l.drop i)={name:=p.name,values:=[p.value]} :: a :: iC p true (l.drop (i+1)):=by rw[cH h,mF,if_neg e,if_pos ⟨hb,c⟩]
theorem Xc (h:l[i]? = some a) (e:¬a.name=p.name) (c:¬(b=false/\(Op.bytesLess a.name p.name || decide (a.name=p.name))=false)):iC p b (l.drop i)=a :: iC p b (l.drop (i+1)):=by rw[cH h,mF,if_neg e,if_neg c]
end
end Go.Wk
namespace Go.Wk
open Go Go.RowKit
theorem vG (p:Pr):∀(b:Bool) (l:List eT),(iC p b l).length<=l.length+(if b=true then 0 else 1)
  | b,[]=>by unfold iC;split<;>simp_all
  | b,a :: r=>by
    have c:=vG p true r;have d:=vG p b r;rw[mF];split
    · simp only[List.length_cons,if_true]at *;split<;>omega
    · split
      · rename_i hb;simp only[List.length_cons,if_true,hb.1,Bool.false_eq_true,if_false]at *;omega
      · simp only[List.length_cons]at *;omega
theorem sU (p:Pr) {k:Nat}:∀(b:Bool) (l:List eT),(∀c∈l,c.values.length<=k)->∀c∈iC p b l,c.values.length<=k+1
  | b,[],_=>by unfold iC;split<;>simp
  | b,x :: r,h=>by
    have d:=sU p true r fun c a=>h c (by simp[a]);have e:=sU p b r fun c a=>h c (by simp[a]);have f:=h x Oy;rw[mF];intro c a;split at a
    · rcases List.mem_cons.1 a with rfl|a
      · have:=SA x.values p.value;simp only;omega
      · exact d c a
    · split at a
      · rcases List.mem_cons.1 a with rfl|a
        · simp
        · rcases List.mem_cons.1 a with rfl|a
          · omega
          · exact d c a
      · rcases List.mem_cons.1 a with rfl|a
        · omega
        · exact e c a
def kI (full:List (List UInt8)):List (List UInt8)->Nat->List (List eT)->List eT->eL × Nat
  | [],_,rows,row=>({rows:=if 0<full.length then rows ++ [row]else rows},0)
  | s :: r,i,rows,row =>
    if s=[43]then(if i=0\/i=full.length-1\/full.getD (i-1) []=[43]then({rows:=[]},20)else kI full r (i+1) (rows ++ [row]) [])
    else if(iH s).2≠0 then({rows:=[]},(iH s).2)else kI full r (i+1) rows (iC (iH s).1 false row)
theorem ot (a:List (List UInt8)) (s:Ly) (r:List (List UInt8)) (i:Nat) (rows:List (List eT)) (row:List eT):kI a (s :: r) i rows row=if s=[43]then(if i=0\/i=a.length-1\/a.getD (i-1) []=[43]then({rows:=[]},20)else kI a r (i+1) (rows ++ [row]) [])
    else if(iH s).2≠0 then({rows:=[]},(iH s).2)else kI a r (i+1) rows (iC (iH s).1 false row):=rfl
def vz (l:List (List UInt8)):eL × Nat:=if 32<l.length then({rows:=[]},21)else kI l l 0 [] []
section
variable {l:List (List UInt8)} {i:Nat} {s:Ly} {rows:List (List eT)} {row:List eT}
theorem SE (h:¬i<l.length):kI l (l.drop i) i rows row=({rows:=if 0<l.length then rows ++ [row]else rows},0):=by rw[er Xx];rfl
theorem FX (h:l[i]? = some s) (e:s=[43]) (hb:i=0\/i=l.length-1\/l.getD (i-1) []=[43]):kI l (l.drop i) i rows row=({rows:=[]},20):=by rw[cH h,ot,if_pos e,if_pos hb]
theorem aaX (h:l[i]? = some s) (e:s=[43]) (hb:¬(i=0\/i=l.length-1\/l.getD (i-1) []=[43])):kI l (l.drop i) i rows row=kI l (l.drop (i+1)) (i+1) (rows ++ [row]) []:=by rw[cH h,ot,if_pos e,if_neg hb]
theorem aeW {p:Pr} {c:Nat} (h:l[i]? = some s) (e:¬s=[43]) (b:iH s=(p,c)) (a:c≠0):kI l (l.drop i) i rows row=({rows:=[]},c):=by rw[cH h,ot,if_neg e,b,if_pos a]
theorem aaY {p:Pr} (h:l[i]? = some s) (e:¬s=[43]) (a:iH s=(p,0)):kI l (l.drop i) i rows row=kI l (l.drop (i+1)) (i+1) rows (iC p false row):=by rw[cH h,ot,if_neg e,a,if_neg Oy]
end
end Go.Wk
namespace Go.Proofs.YtlleafgaeeneoaaGreat
open Go Go.Wk Go.RowKit
set_option linter.unusedVariables false
set_option linter.unusedSimpArgs false
attribute [local irreducible] wpList wpQuiet wpStill fD Code.wp Calls bodyPost
variable {w:World} {Q:Nat->Prop}
theorem gC:wF Zp 9 1 16=true:=Xw
set_option maxHeartbeats 4000000 in
theorem VU (J:Up w Q) {v0:Value} {l:List (List UInt8)} (m:Ls ij w Q v0 l) (s:Ly) (ch:l.length<=1000) :
  Calls Zp 108 #[v0,(str s)] w fun b8 d=>∃bT:Value,∃bS:List (List UInt8),b8 = .returned (bT)/\Md [] w d/\Ls ij d Q bT bS/\AB l s=bS:=by
 have cf:=m.dB;have B:=Md.refl [] w;have aU:=J;have I:∀b,Q b->Q b:=fun _ h=>h;have aT:∀b,Q b->b<w.heap.size->Q b:=fun _ h _=>h;refine enter (n:=45) Tryz.func108 q q q fun bU=>ns (an q (ns (ck q (nt (aD (aS ?_))))));refine nE (fun(k:Nat)=>[(5,(.int .i64 k)),(0,v0),(1,(str s))]) (fun(k:Nat) d=>∃K:Nat->Prop,(∀b,K b->Q b)/\(∀b,Q b->b<w.heap.size->K b)/\Up d K/\Md [] w d/\Ls ij d K v0 l/\(k<=vU l s/\k<=l.length)) (fun(k:Nat)=>l.length-k) (x0:=0) ?_ ?_ ?_
 ·exact⟨q,q,q,tV⟩
 ·exact⟨Q,I,aT,J,B,m,⟨Nat.zero_le _,Nat.zero_le _⟩⟩
 clear B J I aT m;rintro k bU x ⟨aN,I,aT,J,B,m,Bx⟩;refine aD (ns (m2 q q (sL q iT m.di (st _ (dN (a:=k) (b:=l.length) q q) (mv q ?_)))));refine bX (t:=10) q (fun C=>?_) (fun C=>?_)
 ·have bV:=dT C;refine sg C (aM q) (sg C (aM q) (sg C (bf (i:=k) 1 q q iT II m.di Xx) ?_));obtain⟨aK,aJ⟩:=dY (l:=l) (i:=k) Xx;obtain⟨c4,b3,aO⟩:=m.get aJ;obtain⟨rfl,_⟩:=b3;have aO:At _ v0 (k*1) [(str aK)]:=aO;refine sg C ((bP (kk:=k*1) 0 q q jG aO q).to (b:=(str aK)) q) (sg C (aM q) (sg C (afb (a:=aK) (b:=s) q q) (st _ (bg q C q) (aA ?_))));refine aj ?_;refine bJ q (fun a0=>?_) (fun a0=>?_)
  ·have a2:=a0;refine aL (aj (aS (aH (mv q (st _ (rA (a:=k) (b:=1) q q Xx) (ck q (aA (bE (aj ?_)))))))));refine mU (x0:=(k+1)) Xx ⟨(d9 q Xx),q,q,tV⟩ ⟨aN,I,aT,J,B,m,⟨aaU Bx.1 aJ a2,by omega⟩⟩
  have a2:=a0;refine bW (aY (aY (cO (aj (aD (aD ?_))))));have Y:vU l s=k:=(by have:=ahf aJ a2;omega);refine aH (m2 q q (sL q iT m.di (st _ (dN (a:=k) (b:=l.length) q q) (mv q ?_))));refine bX (t:=24) q (fun e=>?_) (fun e=>?_)
  ·have a3:=dT e;refine sg e (aM q) (sg e (aM q) (sg e (bf (i:=k) 1 q q iT II m.di Xx) ?_));obtain⟨aV,b4,aP⟩:=m.get aJ;obtain⟨rfl,_⟩:=b4;have aP:At _ v0 (k*1) [(str aK)]:=aP;refine sg e ((bP (kk:=k*1) 0 q q jG aP q).to (b:=(str aK)) q) (sg e (aM q) (sg e (pO (a:=aK) (b:=s) q q) (st _ (bg q e q) (aA ?_))));refine aj ?_;refine bJ q (fun al=>?_) (fun al=>?_)
   ·have ae:=dT al;refine nm q (ar q (aI ?_));exact bR (v:=v0) trivial q ⟨q,tV⟩ ⟨_,l,q,B,(m.sub (fun b D _=>I b D)),(by have S:=aJ;rw[<- Y]at S;unfold AB;rw[if_pos (by rw[AR S];simp[ae])])⟩
   have ae:=dF al;refine aL (aj (aD ?_));refine rU (fun _=>True) (R:=fun ao d=>∃(y:Fr 45) (v:Value) (K:Nat->Prop),ao=aQ y [] [(4,v)]/\oQ ij x aN 9 d K v (List.take k l ++ [s] ++ List.drop k l)) mixed ?_ ?_
   ·rintro _ ci ⟨y,b5,cg,rfl,E⟩;have G:=E.md;have X:=E.t;have O:=E.up;have bY:=E.ow.lower (bA.lift (S':=[]) B);have I:=tT I X;have B:=B.k G;have J:=O;refine aj (iM ?_);exact bR (v:=b5) trivial q ⟨q,tV⟩ ⟨_,((List.take k l ++ [s] ++ List.drop k l)),q,B,(bY.ls (fun b D=>I b D) (bA.up aU)),(xH Y (by have S:=aJ;rw[<- Y]at S;rw[AR S];simp[ae]))⟩
   intro bF hd;have o:∀d A,Md [] x d->Lz ij d A (lY 1 v0 0 k) (List.take k l):=fun d A G=>pJ (m.head Xx).lz G;have p:∀d A,Md [] x d->Lz ij d A (lY 1 v0 k l.length) (List.drop k l):=fun d A G=>pJ (m.tail Xx).lz G;refine dM (i:=1) _ q Xw Xw trivial (fun d u=>aM q) (dM (i:=2) _ q Xw Xw trivial (fun d u=>aM q) (dM (i:=3) _ q Xw Xw trivial (fun d u=>fP 1 0 k iT II q m.di Xx Xx q ⟨_,q⟩) (dM (i:=5) _ q Xw Xw trivial (fun d u=>aM q) (dM (i:=8) _ q Xw Xw trivial (fun d u=>aM q) (dM (i:=9) _ q Xw Xw trivial (fun d u=>aM q) (dM (i:=10) _ q Xw Xw trivial (fun d u=>fP 1 k l.length iT II q m.di Xx Xx ⟨_,q⟩ q) ?_))))));refine qS (i:=0) (j:=6) Xw q q q q ?_ ?_
   ·refine gW iT gC ?_;intro c1 bG au az aB aw;refine aA ⟨q,trivial,?_⟩;obtain⟨bk,F⟩:=oQ.mk0 (T:=ij) J hd au az aB aw;refine qS (i:=4) (j:=6) Xw q q q q ?_ ?_
    ·refine eB q iT gC q q F (o _ _ F.md) Zy Xy ?_;intro bz bH bl Z bt;refine aA ⟨q,trivial,?_⟩;refine cL (i:=6) Xw q q (aR [[str s]] iT gC Xy Xy q q ⟨q,tV⟩ ⟨q,tV⟩ q Xy ?_);intro c3 bI bp br aC ax;refine aA ⟨q,trivial,?_⟩;refine cL (i:=7) Xw q q (eB q iT gC q q (Z.o aC) (mA ax trivial) Zy Xy ?_);intro bB bK bm z bu;refine aA ⟨q,trivial,?_⟩;refine cL (i:=11) Xw q q (eB q iT gC q q z (p _ _ z.md) Zy Xy ?_);intro aF bL af aa bv;refine aA ⟨q,trivial,?_⟩;refine cL (i:=12) Xw q q (ck q ?_);refine aA ⟨q,trivial,?_⟩;refine lu Xw ?_;exact⟨_,aF,af,(cV (by exact⟨q,tV⟩)).symm,aa⟩
    refine aR [[str s]] iT gC Xy Xy q q ⟨q,tV⟩ ⟨q,tV⟩ q Xy ?_;intro aV bM bq bs U ay;refine aA ⟨q,trivial,?_⟩;refine cL (i:=4) Xw q q (eB q iT gC q q (F.o U) (o _ _ (F.o U).md) Zy Xy ?_);intro bC bN bn ab aE;refine aA ⟨q,trivial,?_⟩;have av:=ay.md aE (by intro D;simp[ah]at D;omega);refine cL (i:=7) Xw q q (eB q iT gC q q ab (mA av trivial) Zy Xy ?_);intro bD bO bo L bw;refine aA ⟨q,trivial,?_⟩;refine cL (i:=11) Xw q q (eB q iT gC q q L (p _ _ L.md) Zy Xy ?_);intro aG bQ ag ad bx;refine aA ⟨q,trivial,?_⟩;refine cL (i:=12) Xw q q (ck q ?_);refine aA ⟨q,trivial,?_⟩;refine lu Xw ?_;exact⟨_,aG,ag,(cV (by exact⟨q,tV⟩)).symm,ad⟩
   refine aR [[str s]] iT gC Xy Xy q q ⟨q,tV⟩ ⟨q,tV⟩ q Xy ?_;intro a8 Bk aX a1 f c;refine aA ⟨q,trivial,?_⟩;refine cL (i:=0) Xw q q (gW iT gC ?_);intro aW be ak aq N ap;refine aA ⟨q,trivial,?_⟩;obtain⟨a5,H⟩:=oQ.mk0 (T:=ij) J (hd.k f) ak aq N ap;refine cL (i:=4) Xw q q (eB q iT gC q q H (o _ _ H.md) Zy Xy ?_);intro bb bh a6 ai g;refine aA ⟨q,trivial,?_⟩;have am:=(c.o N).md g (by intro D;simp[ah]at D;omega);refine cL (i:=7) Xw q q (eB q iT gC q q ai (mA am trivial) Zy Xy ?_);intro bc bi a7 M a9;refine aA ⟨q,trivial,?_⟩;refine cL (i:=11) Xw q q (eB q iT gC q q M (p _ _ M.md) Zy Xy ?_);intro P bj W V ba;refine aA ⟨q,trivial,?_⟩;refine cL (i:=12) Xw q q (ck q ?_);refine aA ⟨q,trivial,?_⟩;refine lu Xw ?_;exact⟨_,P,W,(cV (by exact⟨q,tV⟩)).symm,V⟩
  have a3:=dF e;refine sk e (sk e (sk e (sk e (sk e (sk e (st _ (aZ q e q) (nt (iw q q (aL (aj (aD ?_)))))))))));refine rU (fun _=>True) (R:=fun ao d=>∃(y:Fr 45) (v:Value) (K:Nat->Prop),ao=aQ y [] [(4,v)]/\oQ ij x aN 9 d K v (List.take k l ++ [s] ++ List.drop k l)) mixed ?_ ?_
  ·rintro _ cc ⟨y,P,b9,rfl,E⟩;have G:=E.md;have X:=E.t;have O:=E.up;have bZ:=E.ow.lower (bA.lift (S':=[]) B);have I:=tT I X;have B:=B.k G;have J:=O;refine aj (iM ?_);exact bR (v:=P) trivial q ⟨q,tV⟩ ⟨_,((List.take k l ++ [s] ++ List.drop k l)),q,B,(bZ.ls (fun b D=>I b D) (bA.up aU)),(xH Y (QC Xx))⟩
  intro bF hd;have o:∀d A,Md [] x d->Lz ij d A (lY 1 v0 0 k) (List.take k l):=fun d A G=>pJ (m.head Xx).lz G;have p:∀d A,Md [] x d->Lz ij d A (lY 1 v0 k l.length) (List.drop k l):=fun d A G=>pJ (m.tail Xx).lz G;refine dM (i:=1) _ q Xw Xw trivial (fun d u=>aM q) (dM (i:=2) _ q Xw Xw trivial (fun d u=>aM q) (dM (i:=3) _ q Xw Xw trivial (fun d u=>fP 1 0 k iT II q m.di Xx Xx q ⟨_,q⟩) (dM (i:=5) _ q Xw Xw trivial (fun d u=>aM q) (dM (i:=8) _ q Xw Xw trivial (fun d u=>aM q) (dM (i:=9) _ q Xw Xw trivial (fun d u=>aM q) (dM (i:=10) _ q Xw Xw trivial (fun d u=>fP 1 k l.length iT II q m.di Xx Xx ⟨_,q⟩ q) ?_))))));refine qS (i:=0) (j:=6) Xw q q q q ?_ ?_
  ·refine gW iT gC ?_;intro c1 bG au az aB aw;refine aA ⟨q,trivial,?_⟩;obtain⟨bk,F⟩:=oQ.mk0 (T:=ij) J hd au az aB aw;refine qS (i:=4) (j:=6) Xw q q q q ?_ ?_
   ·refine eB q iT gC q q F (o _ _ F.md) Zy Xy ?_;intro bz bH bl Z bt;refine aA ⟨q,trivial,?_⟩;refine cL (i:=6) Xw q q (aR [[str s]] iT gC Xy Xy q q ⟨q,tV⟩ ⟨q,tV⟩ q Xy ?_);intro c3 bI bp br aC ax;refine aA ⟨q,trivial,?_⟩;refine cL (i:=7) Xw q q (eB q iT gC q q (Z.o aC) (mA ax trivial) Zy Xy ?_);intro bB bK bm z bu;refine aA ⟨q,trivial,?_⟩;refine cL (i:=11) Xw q q (eB q iT gC q q z (p _ _ z.md) Zy Xy ?_);intro aF bL af aa bv;refine aA ⟨q,trivial,?_⟩;refine cL (i:=12) Xw q q (ck q ?_);refine aA ⟨q,trivial,?_⟩;refine lu Xw ?_;exact⟨_,aF,af,(cV (by exact⟨q,tV⟩)).symm,aa⟩
   refine aR [[str s]] iT gC Xy Xy q q ⟨q,tV⟩ ⟨q,tV⟩ q Xy ?_;intro aV bM bq bs U ay;refine aA ⟨q,trivial,?_⟩;refine cL (i:=4) Xw q q (eB q iT gC q q (F.o U) (o _ _ (F.o U).md) Zy Xy ?_);intro bC bN bn ab aE;refine aA ⟨q,trivial,?_⟩;have av:=ay.md aE (by intro D;simp[ah]at D;omega);refine cL (i:=7) Xw q q (eB q iT gC q q ab (mA av trivial) Zy Xy ?_);intro bD bO bo L bw;refine aA ⟨q,trivial,?_⟩;refine cL (i:=11) Xw q q (eB q iT gC q q L (p _ _ L.md) Zy Xy ?_);intro aG bQ ag ad bx;refine aA ⟨q,trivial,?_⟩;refine cL (i:=12) Xw q q (ck q ?_);refine aA ⟨q,trivial,?_⟩;refine lu Xw ?_;exact⟨_,aG,ag,(cV (by exact⟨q,tV⟩)).symm,ad⟩
  refine aR [[str s]] iT gC Xy Xy q q ⟨q,tV⟩ ⟨q,tV⟩ q Xy ?_;intro a8 Bk aX a1 f c;refine aA ⟨q,trivial,?_⟩;refine cL (i:=0) Xw q q (gW iT gC ?_);intro aW be ak aq N ap;refine aA ⟨q,trivial,?_⟩;obtain⟨a5,H⟩:=oQ.mk0 (T:=ij) J (hd.k f) ak aq N ap;refine cL (i:=4) Xw q q (eB q iT gC q q H (o _ _ H.md) Zy Xy ?_);intro bb bh a6 ai g;refine aA ⟨q,trivial,?_⟩;have am:=(c.o N).md g (by intro D;simp[ah]at D;omega);refine cL (i:=7) Xw q q (eB q iT gC q q ai (mA am trivial) Zy Xy ?_);intro bc bi a7 M a9;refine aA ⟨q,trivial,?_⟩;refine cL (i:=11) Xw q q (eB q iT gC q q M (p _ _ M.md) Zy Xy ?_);intro P bj W V ba;refine aA ⟨q,trivial,?_⟩;refine cL (i:=12) Xw q q (ck q ?_);refine aA ⟨q,trivial,?_⟩;refine lu Xw ?_;exact⟨_,P,W,(cV (by exact⟨q,tV⟩)).symm,V⟩
 have bV:=dF C;refine sk C (sk C (sk C (sk C (sk C (sk C (st _ (aZ q C q) (nt (iw q q (bW (aY (aY (cO (aj ?_)))))))))))));refine aD (aD ?_);have Y:vU l s=k:=(by have:=Zg l s;omega);refine aH (m2 q q (sL q iT m.di (st _ (dN (a:=k) (b:=l.length) q q) (mv q ?_))));refine bX (t:=24) q (fun e=>?_) (fun e=>?_)
 ·have a3:=dT e;refine sg e (aM q) (sg e (aM q) (sg e (bf (i:=k) 1 q q iT II m.di Xx) ?_));obtain⟨bd,a4⟩:=dY (l:=l) (i:=k) Xx;obtain⟨cb,b2,r⟩:=m.get a4;obtain⟨rfl,_⟩:=b2;have r:At _ v0 (k*1) [(str bd)]:=r;refine sg e ((bP (kk:=k*1) 0 q q jG r q).to (b:=(str bd)) q) (sg e (aM q) (sg e (pO (a:=bd) (b:=s) q q) (st _ (bg q e q) (aA ?_))));refine aj ?_;refine bJ q (fun al=>?_) (fun al=>?_)
  ·have ae:=dT al;refine nm q (ar q (aI ?_));exact bR (v:=v0) trivial q ⟨q,tV⟩ ⟨_,l,q,B,(m.sub (fun b D _=>I b D)),(by have S:=a4;rw[<- Y]at S;unfold AB;rw[if_pos (by rw[AR S];simp[ae])])⟩
  have ae:=dF al;refine aL (aj (aD ?_));refine rU (fun _=>True) (R:=fun ao d=>∃(y:Fr 45) (v:Value) (K:Nat->Prop),ao=aQ y [] [(4,v)]/\oQ ij x aN 9 d K v (List.take k l ++ [s] ++ List.drop k l)) mixed ?_ ?_
  ·rintro _ cd ⟨y,b6,C3,rfl,E⟩;have G:=E.md;have X:=E.t;have O:=E.up;have b0:=E.ow.lower (bA.lift (S':=[]) B);have I:=tT I X;have B:=B.k G;have J:=O;refine aj (iM ?_);exact bR (v:=b6) trivial q ⟨q,tV⟩ ⟨_,((List.take k l ++ [s] ++ List.drop k l)),q,B,(b0.ls (fun b D=>I b D) (bA.up aU)),(xH Y (by have S:=a4;rw[<- Y]at S;rw[AR S];simp[ae]))⟩
  intro bF hd;have o:∀d A,Md [] x d->Lz ij d A (lY 1 v0 0 k) (List.take k l):=fun d A G=>pJ (m.head Xx).lz G;have p:∀d A,Md [] x d->Lz ij d A (lY 1 v0 k l.length) (List.drop k l):=fun d A G=>pJ (m.tail Xx).lz G;refine dM (i:=1) _ q Xw Xw trivial (fun d u=>aM q) (dM (i:=2) _ q Xw Xw trivial (fun d u=>aM q) (dM (i:=3) _ q Xw Xw trivial (fun d u=>fP 1 0 k iT II q m.di Xx Xx q ⟨_,q⟩) (dM (i:=5) _ q Xw Xw trivial (fun d u=>aM q) (dM (i:=8) _ q Xw Xw trivial (fun d u=>aM q) (dM (i:=9) _ q Xw Xw trivial (fun d u=>aM q) (dM (i:=10) _ q Xw Xw trivial (fun d u=>fP 1 k l.length iT II q m.di Xx Xx ⟨_,q⟩ q) ?_))))));refine qS (i:=0) (j:=6) Xw q q q q ?_ ?_
  ·refine gW iT gC ?_;intro c1 bG au az aB aw;refine aA ⟨q,trivial,?_⟩;obtain⟨bk,F⟩:=oQ.mk0 (T:=ij) J hd au az aB aw;refine qS (i:=4) (j:=6) Xw q q q q ?_ ?_
   ·refine eB q iT gC q q F (o _ _ F.md) Zy Xy ?_;intro bz bH bl Z bt;refine aA ⟨q,trivial,?_⟩;refine cL (i:=6) Xw q q (aR [[str s]] iT gC Xy Xy q q ⟨q,tV⟩ ⟨q,tV⟩ q Xy ?_);intro c3 bI bp br aC ax;refine aA ⟨q,trivial,?_⟩;refine cL (i:=7) Xw q q (eB q iT gC q q (Z.o aC) (mA ax trivial) Zy Xy ?_);intro bB bK bm z bu;refine aA ⟨q,trivial,?_⟩;refine cL (i:=11) Xw q q (eB q iT gC q q z (p _ _ z.md) Zy Xy ?_);intro aF bL af aa bv;refine aA ⟨q,trivial,?_⟩;refine cL (i:=12) Xw q q (ck q ?_);refine aA ⟨q,trivial,?_⟩;refine lu Xw ?_;exact⟨_,aF,af,(cV (by exact⟨q,tV⟩)).symm,aa⟩
   refine aR [[str s]] iT gC Xy Xy q q ⟨q,tV⟩ ⟨q,tV⟩ q Xy ?_;intro aV bM bq bs U ay;refine aA ⟨q,trivial,?_⟩;refine cL (i:=4) Xw q q (eB q iT gC q q (F.o U) (o _ _ (F.o U).md) Zy Xy ?_);intro bC bN bn ab aE;refine aA ⟨q,trivial,?_⟩;have av:=ay.md aE (by intro D;simp[ah]at D;omega);refine cL (i:=7) Xw q q (eB q iT gC q q ab (mA av trivial) Zy Xy ?_);intro bD bO bo L bw;refine aA ⟨q,trivial,?_⟩;refine cL (i:=11) Xw q q (eB q iT gC q q L (p _ _ L.md) Zy Xy ?_);intro aG bQ ag ad bx;refine aA ⟨q,trivial,?_⟩;refine cL (i:=12) Xw q q (ck q ?_);refine aA ⟨q,trivial,?_⟩;refine lu Xw ?_;exact⟨_,aG,ag,(cV (by exact⟨q,tV⟩)).symm,ad⟩
  refine aR [[str s]] iT gC Xy Xy q q ⟨q,tV⟩ ⟨q,tV⟩ q Xy ?_;intro a8 Bk aX a1 f c;refine aA ⟨q,trivial,?_⟩;refine cL (i:=0) Xw q q (gW iT gC ?_);intro aW be ak aq N ap;refine aA ⟨q,trivial,?_⟩;obtain⟨a5,H⟩:=oQ.mk0 (T:=ij) J (hd.k f) ak aq N ap;refine cL (i:=4) Xw q q (eB q iT gC q q H (o _ _ H.md) Zy Xy ?_);intro bb bh a6 ai g;refine aA ⟨q,trivial,?_⟩;have am:=(c.o N).md g (by intro D;simp[ah]at D;omega);refine cL (i:=7) Xw q q (eB q iT gC q q ai (mA am trivial) Zy Xy ?_);intro bc bi a7 M a9;refine aA ⟨q,trivial,?_⟩;refine cL (i:=11) Xw q q (eB q iT gC q q M (p _ _ M.md) Zy Xy ?_);intro P bj W V ba;refine aA ⟨q,trivial,?_⟩;refine cL (i:=12) Xw q q (ck q ?_);refine aA ⟨q,trivial,?_⟩;refine lu Xw ?_;exact⟨_,P,W,(cV (by exact⟨q,tV⟩)).symm,V⟩
 have a3:=dF e;refine sk e (sk e (sk e (sk e (sk e (sk e (st _ (aZ q e q) (nt (iw q q (aL (aj (aD ?_)))))))))));refine rU (fun _=>True) (R:=fun ao d=>∃(y:Fr 45) (v:Value) (K:Nat->Prop),ao=aQ y [] [(4,v)]/\oQ ij x aN 9 d K v (List.take k l ++ [s] ++ List.drop k l)) mixed ?_ ?_
 ·rintro _ ce ⟨y,b7,ca,rfl,E⟩;have G:=E.md;have X:=E.t;have O:=E.up;have b1:=E.ow.lower (bA.lift (S':=[]) B);have I:=tT I X;have B:=B.k G;have J:=O;refine aj (iM ?_);exact bR (v:=b7) trivial q ⟨q,tV⟩ ⟨_,((List.take k l ++ [s] ++ List.drop k l)),q,B,(b1.ls (fun b D=>I b D) (bA.up aU)),(xH Y (QC Xx))⟩
 intro bF hd;have o:∀d A,Md [] x d->Lz ij d A (lY 1 v0 0 k) (List.take k l):=fun d A G=>pJ (m.head Xx).lz G;have p:∀d A,Md [] x d->Lz ij d A (lY 1 v0 k l.length) (List.drop k l):=fun d A G=>pJ (m.tail Xx).lz G;refine dM (i:=1) _ q Xw Xw trivial (fun d u=>aM q) (dM (i:=2) _ q Xw Xw trivial (fun d u=>aM q) (dM (i:=3) _ q Xw Xw trivial (fun d u=>fP 1 0 k iT II q m.di Xx Xx q ⟨_,q⟩) (dM (i:=5) _ q Xw Xw trivial (fun d u=>aM q) (dM (i:=8) _ q Xw Xw trivial (fun d u=>aM q) (dM (i:=9) _ q Xw Xw trivial (fun d u=>aM q) (dM (i:=10) _ q Xw Xw trivial (fun d u=>fP 1 k l.length iT II q m.di Xx Xx ⟨_,q⟩ q) ?_))))));refine qS (i:=0) (j:=6) Xw q q q q ?_ ?_
 ·refine gW iT gC ?_;intro c1 bG au az aB aw;refine aA ⟨q,trivial,?_⟩;obtain⟨bk,F⟩:=oQ.mk0 (T:=ij) J hd au az aB aw;refine qS (i:=4) (j:=6) Xw q q q q ?_ ?_
  ·refine eB q iT gC q q F (o _ _ F.md) Zy Xy ?_;intro bz bH bl Z bt;refine aA ⟨q,trivial,?_⟩;refine cL (i:=6) Xw q q (aR [[str s]] iT gC Xy Xy q q ⟨q,tV⟩ ⟨q,tV⟩ q Xy ?_);intro c3 bI bp br aC ax;refine aA ⟨q,trivial,?_⟩;refine cL (i:=7) Xw q q (eB q iT gC q q (Z.o aC) (mA ax trivial) Zy Xy ?_);intro bB bK bm z bu;refine aA ⟨q,trivial,?_⟩;refine cL (i:=11) Xw q q (eB q iT gC q q z (p _ _ z.md) Zy Xy ?_);intro aF bL af aa bv;refine aA ⟨q,trivial,?_⟩;refine cL (i:=12) Xw q q (ck q ?_);refine aA ⟨q,trivial,?_⟩;refine lu Xw ?_;exact⟨_,aF,af,(cV (by exact⟨q,tV⟩)).symm,aa⟩
  refine aR [[str s]] iT gC Xy Xy q q ⟨q,tV⟩ ⟨q,tV⟩ q Xy ?_;intro aV bM bq bs U ay;refine aA ⟨q,trivial,?_⟩;refine cL (i:=4) Xw q q (eB q iT gC q q (F.o U) (o _ _ (F.o U).md) Zy Xy ?_);intro bC bN bn ab aE;refine aA ⟨q,trivial,?_⟩;have av:=ay.md aE (by intro D;simp[ah]at D;omega);refine cL (i:=7) Xw q q (eB q iT gC q q ab (mA av trivial) Zy Xy ?_);intro bD bO bo L bw;refine aA ⟨q,trivial,?_⟩;refine cL (i:=11) Xw q q (eB q iT gC q q L (p _ _ L.md) Zy Xy ?_);intro aG bQ ag ad bx;refine aA ⟨q,trivial,?_⟩;refine cL (i:=12) Xw q q (ck q ?_);refine aA ⟨q,trivial,?_⟩;refine lu Xw ?_;exact⟨_,aG,ag,(cV (by exact⟨q,tV⟩)).symm,ad⟩
 refine aR [[str s]] iT gC Xy Xy q q ⟨q,tV⟩ ⟨q,tV⟩ q Xy ?_;intro a8 Bk aX a1 f c;refine aA ⟨q,trivial,?_⟩;refine cL (i:=0) Xw q q (gW iT gC ?_);intro aW be ak aq N ap;refine aA ⟨q,trivial,?_⟩;obtain⟨a5,H⟩:=oQ.mk0 (T:=ij) J (hd.k f) ak aq N ap;refine cL (i:=4) Xw q q (eB q iT gC q q H (o _ _ H.md) Zy Xy ?_);intro bb bh a6 ai g;refine aA ⟨q,trivial,?_⟩;have am:=(c.o N).md g (by intro D;simp[ah]at D;omega);refine cL (i:=7) Xw q q (eB q iT gC q q ai (mA am trivial) Zy Xy ?_);intro bc bi a7 M a9;refine aA ⟨q,trivial,?_⟩;refine cL (i:=11) Xw q q (eB q iT gC q q M (p _ _ M.md) Zy Xy ?_);intro P bj W V ba;refine aA ⟨q,trivial,?_⟩;refine cL (i:=12) Xw q q (ck q ?_);refine aA ⟨q,trivial,?_⟩;refine lu Xw ?_;exact⟨_,P,W,(cV (by exact⟨q,tV⟩)).symm,V⟩
theorem sE:wF Zp 98 2 40=true:=Xw
theorem akz:cu Zp 108=true:=Xw
theorem aj7:fH Zp 98=some [(0,1),(1,1)]:=Xw
theorem z98:dU Zp 98=some [.string ByteArray.empty,.slice none 0 0]:=Xw
set_option maxHeartbeats 16000000 in
theorem SD (d:Up w Q) {v0:Value} {l:List eT} (j:Ls jM w Q v0 l) (p:Pr) (cA:l.length<=1000) (bV:∀a∈l,a.values.length<=1000) :
  Calls Zp 69 #[v0,.agg (Pr.cells p).toArray] w fun a7 A=>∃a8:Value,∃ap:List eT,a7 = .returned (a8)/\Md [] w A/\Ls jM A Q a8 ap/\iC p false l=ap:=by
 have cy:=j.dB;have e:=Md.refl [] w;have a5:=d;have J:∀b,Q b->Q b:=fun _ h=>h;have L:∀b,Q b->b<w.heap.size->Q b:=fun _ h _=>h;refine enter (n:=76) Tryz.func69 q q q fun ba=>ns (dS (cs:=(Pr.cells p)) q q ?_);intro aq cB au bZ C s;have K:=d _ au;have au:=lv e.size au;obtain⟨j,d,e⟩:=k3 C j d e;refine an q (ns (ck q (nt (ns (ck q (nt (aD (ns (ck q (nt (aS ?_)))))))))));obtain⟨ap,a0⟩:∃r,iC p false l=r:=⟨_,q⟩;have a3:=a0
 try simp only[List.nil_append]at a0
 refine YD (fun(ag:Value) (o:List eT) (b:Bool) (i:Nat)=>[(5,ag),(6,(.bool b)),(7,(.int .i64 i)),(0,v0),(3,(.pointer (some ⟨aq,0,none⟩)))]) (fun(ag:Value) (o:List eT) (b:Bool) (i:Nat) A=>∃ae:Nat->Prop,(∀b,ae b->Q b)/\(∀b,Q b->b<w.heap.size->ae b)/\Up A ae/\Md [] w A/\Ow jM 98 (bA [] w) A ae ag o/\Ls jM A ae v0 l/\bC A aq (Pr.cells p) 61/\ae aq/\(o.length<=2*i/\i<=l.length)/\o ++ iC p b (l.drop i)=ap) (fun(ag:Value) (o:List eT) (b:Bool) (i:Nat)=>l.length-i) (x0:=SN) (x1:=([]:List eT)) (x2:=false) (x3:=0) ?_ ?_ ?_
 ·exact⟨q,q,q,q,q,tV⟩
 ·exact⟨Q,J,L,d,e,(Ow.nil _ _ _ _ _),j,s,K,⟨by simp,Nat.zero_le _⟩,(by have aa:=a0;exact aa)⟩
 clear e d J L K j s;rintro ag o b i ba bY ⟨ad,J,L,d,e,D,j,s,K,b8,Z⟩;refine aD (ns (m2 q q (sL q xW j.di (st _ (dN (a:=i) (b:=l.length) q q) (nt ?_)))));refine bJ q (fun av=>?_) (fun av=>?_)
 ·have aN:=dT av;refine aL (aj (aD (aS (aD (aD ?_)))));have P:=j;have H:=s;refine cT (ml 7) [7] (fun A=>Md [] bY A) mixed Xw ?_;intro a9 U;refine⟨U.mono Oy,?_⟩;have X:=U.mono (T:=[]) Oy;refine mo q (mo q (mz (fun A B=>bf (i:=i) 2 q q xW HB j.di Xx) ?_));obtain⟨I,W⟩:=dY (l:=l) (i:=i) Xx;obtain⟨cz,bj,ai⟩:=P.get W;obtain⟨bX,rfl,cl⟩:=nU bj;have ai:At _ v0 (i*2) (eT.cells I bX):=ai;refine mz (fun A B=>gQ q (ai.o B) uP) (mz (fun A B=>(bP (kk:=i*2) 0 q q jG (ai.o B) q).to (b:=(str I.name)) q) (mz (fun A B=>aJ q mV) (mz (fun A B=>(aG q jG (H.o B) q).to (b:=(str p.name)) q) (dD ?_))));obtain⟨D,j,s,d,e⟩:=k5 U D j s d e;refine st _ (pO (a:=I.name) (b:=p.name) q q) (aA ?_);refine aj ?_;refine bJ q (fun aw=>?_) (fun aw=>?_)
  ·have ak:=dT aw;refine ns (an q (aD ?_));have P:=j;have H:=s;refine cT [(0,true),(1,true),(2,true),(3,true),(4,true),(5,true),(6,true),(7,true),(8,true),(9,true),(10,false),(11,true),(12,false)] [13,14] (fun A=>Md [] a9 A) mixed Xw ?_;intro cC U;refine⟨U.mono Oy,?_⟩;have X:=U.mono (T:=[]) Oy;refine mo q (mz (fun A B=>aJ q mV) (mz (fun A B=>(aG q jG (H.o B) q).to (b:=(str p.name)) q) (mo q (mo q (mz (fun A B=>bf (i:=i) 2 q q xW HB j.di Xx) ?_)))));obtain⟨cf,bx,x⟩:=P.get W;obtain⟨a6,rfl,aT⟩:=nU bx;have x:At _ v0 (i*2) (eT.cells I a6):=x;refine mz (fun A B=>gQ q (x.o B) xC) (mz (fun A B=>(bP (kk:=i*2) 1 q q RY (x.o B) q).to (b:=a6) q) (mz (fun A B=>aJ q qq) (mz (fun A B=>(aG q jG (H.o B) q).to (b:=(str p.value)) q) ?_)));obtain⟨D,j,s,aT,d,e⟩:=k6 U D j s aT d e;refine mL ?_ rfl;refine ax akz q (VU d aT p.value (bV _ (List.mem_of_getElem? W))) ?_;rintro a7 C3 ⟨aF,f,rfl,C,ao,bs⟩;refine rv ?_;obtain⟨D,j,s,d,e,X⟩:=k6 C D j s d e X;refine aA ⟨q,X,?_⟩;refine mz (fun A B=>bO (us:=[[(str p.name)],[aF]]) (cs:=(eT.cells (({name:=p.name,values:=f}:eT)) aF)) [(0,0,1),(1,1,1)] z98 aj7 q q ⟨q,(dK ao.bB),tV⟩ ⟨q,q,tV⟩ q q) ?_;refine mL ?_ rfl;refine aR [(eT.cells (({name:=p.name,values:=f}:eT)) aF)] xW sE Xy Xy q q ⟨q,tV⟩ ⟨q,tV⟩ q Xy ?_
   intro b4 b1 bl b9 C aP;have bH:=d _ bl;obtain⟨D,j,s,ao,d,e,X⟩:=k7 C D j s ao d e X;have aP:=Ls.cG (m:=1) (R:=ad) (T:=jM) (xs:=[({name:=p.name,values:=f}:eT)]) aP ⟨_,_,q,(uV ao),q⟩ q Xy bH;refine aA ⟨q,X,?_⟩;refine dD ?_;refine e5 (sz:=2) (by rfl) xW sE q q D aP (fun _ h _=>h) d (bA.new e) Zq Zq ?_;intro bk b2 bc E z M bt C N _ V;have S:=D;have K:=E _ K s.lt;have J:=tT J z;have L:=fun b F O=>E b (L b F O) (lj O e.size);have j:=(j.sub E).md C N;have s:=s.md C (aW S s);have d:=d.md C;have e:=e.dh C (fun b F=>(S.2 b F).1);have d:=M;clear M E z N V;refine ck q (aA ?_);refine aj (bW (aY (cO (aj (aH (mv q (st _ (rA (a:=i) (b:=1) q q Xx) (an q ?_))))))));refine xf (x0:=bk) (x1:=(o ++ ([({name:=p.name,values:=f}:eT)]))) (x2:=true) (x3:=(i+1)) Xx ⟨q,q,(d9 q Xx),q,q,tV⟩ ⟨bc,J,L,d,e,bt,j,s,K,⟨by simp;omega,by omega⟩,(by rw[acd W ak]at Z;rw[<- Z];simp only[bs,List.append_assoc,List.singleton_append])⟩
  have ak:=dF aw;refine aL (aj (aD (aD ?_)));have P:=j;have H:=s;refine cT (ml 10) [10,11] (fun A=>Md [] a9 A) mixed Xw ?_;intro b3 U;refine⟨U.mono Oy,?_⟩;have X:=U.mono (T:=[]) Oy;refine mo q (mz (fun A B=>gR q) (mo q ?_));refine NF (t:=38) q (fun G=>?_) (fun G=>?_)
  ·have bq:=wo G;refine Go.Wk.qL _ q q q G (fun A B=>aM q) (Go.Wk.qL _ q q q G (fun A B=>aM q) (Go.Wk.qL _ q q q G (fun A B=>bf (i:=i) 2 q q xW HB j.di Xx) ?_));obtain⟨cg,bz,y⟩:=P.get W;obtain⟨bL,rfl,b7⟩:=nU bz;have y:At _ v0 (i*2) (eT.cells I bL):=y;refine Go.Wk.qL _ q q q G (fun A B=>gQ q (y.o B) uP) (Go.Wk.qL _ q q q G (fun A B=>(bP (kk:=i*2) 0 q q jG (y.o B) q).to (b:=(str I.name)) q) (Go.Wk.qL _ q q q G (fun A B=>aJ q mV) (Go.Wk.qL _ q q q G (fun A B=>(aG q jG (H.o B) q).to (b:=(str p.name)) q) (dD ?_))));obtain⟨D,j,s,d,e⟩:=k5 U D j s d e;refine sg G (ajC (a:=I.name) (b:=p.name) q q) (st _ (bg q G q) (aA ?_));refine aj ?_;refine bJ q (fun ay=>?_) (fun ay=>?_)
   ·have br:=wo ay;refine ns (an q (aH (mv q (sf q mV (sl (u:=(str p.name)) q jG s q (sf q qq (sl (u:=(str p.value)) q jG s q (aR [[(str p.value)]] iT gC Xy Xy q q ⟨q,tV⟩ ⟨q,tV⟩ q Xy ?_))))))));intro aI cm bm ca C c;have bI:=d _ bm;obtain⟨D,j,s,d,e⟩:=k5 C D j s d e;have c:=Ls.cG (m:=1) (R:=ad) (T:=ij) (xs:=[p.value]) c ⟨_,_,q,⟨q,tV⟩,q⟩ q Xy bI;refine st _ (bO (us:=[[(str p.name)],[(.slice (some ⟨aI,0,none⟩) 1 1)]]) (cs:=(eT.cells (({name:=p.name,values:=[p.value]}:eT)) (.slice (some ⟨aI,0,none⟩) 1 1))) [(0,0,1),(1,1,1)] z98 aj7 q q ⟨q,(dK c.bB),tV⟩ ⟨q,q,tV⟩ q q) (aR [(eT.cells (({name:=p.name,values:=[p.value]}:eT)) (.slice (some ⟨aI,0,none⟩) 1 1))] xW sE Xy Xy q q ⟨q,tV⟩ ⟨q,tV⟩ q Xy ?_);intro b5 cn bn cb C ab;have Bx:=d _ bn;obtain⟨D,j,s,c,d,e⟩:=k6 C D j s c d e;have ab:=Ls.cG (m:=1) (R:=ad) (T:=jM) (xs:=[({name:=p.name,values:=[p.value]}:eT)]) ab ⟨_,_,q,(uV c),q⟩ q Xy Bx;refine e5 (sz:=2) (by rfl) xW sE q q D ab (fun _ h _=>h) d (bA.new e) Zq Zq ?_;intro b0 co bd E z M k C N _ V;have S:=D;have j:=j.sub E;have K:=E _ K s.lt;have J:=tT J z
    have L:=fun b F O=>E b (L b F O) (lj O e.size);have j:=j.md C N;have s:=s.md C (aW S s);have d:=d.md C;have e:=e.dh C (fun b F=>(S.2 b F).1);have d:=M;clear M E z N V;refine an q (aH (m2 q q (mv q (st _ (bf (i:=i) 2 q q xW HB j.di Xx) ?_))));obtain⟨ch,bD,al⟩:=j.get W;obtain⟨aB,rfl,aU⟩:=nU bD;have al:At _ v0 (i*2) (eT.cells I aB):=al;refine st _ (gH (kk:=i*2) (eT.cells I aB) 0 q q (by exact qf) al q) (aR [(eT.cells I aB)] xW sE Xy Xy q q ⟨q,tV⟩ ⟨q,tV⟩ q Xy ?_);intro a2 cp g a4 C Y;have ah:=d _ g;obtain⟨j,s,k,aU,d,e⟩:=k6 C j s k aU d e;have Y:=Ls.cG (m:=1) (R:=bd) (T:=jM) (xs:=[I]) Y ⟨_,_,q,(uV aU),q⟩ q Xy ah;refine e5 (sz:=2) (by rfl) xW sE q q k Y (fun _ h _=>h) d (bA.new e) Zq Zq ?_;intro bM cq be E z M Bk C N _ V;have a1:=k;have K:=E _ K s.lt;have J:=tT J z;have L:=fun b F O=>E b (L b F O) (lj O e.size);have j:=(j.sub E).md C N;have s:=s.md C (aW a1 s);have d:=d.md C;have e:=e.dh C (fun b F=>(a1.2 b F).1);have d:=M;clear M E z N V;refine ck q (aA (bE (aj (aH (mv q (st _ (rA (a:=i) (b:=1) q q Xx) (an q ?_)))))));refine xf (x0:=bM) (x1:=((o ++ ([({name:=p.name,values:=[p.value]}:eT)])) ++ ([I]))) (x2:=true) (x3:=(i+1)) Xx ⟨q,q,(d9 q Xx),q,q,tV⟩ ⟨be,J,L,d,e,Bk,j,s,K,⟨by simp;omega,by omega⟩,(by rw[ace W ak (by simp_all) (by simp_all)]at Z;rw[<- Z];simp only[List.append_assoc,List.singleton_append,List.cons_append,List.nil_append])⟩
   have br:=wm ay;refine aL (aj (aH (m2 q q (mv q (st _ (bf (i:=i) 2 q q xW HB j.di Xx) ?_)))));obtain⟨ci,bF,am⟩:=j.get W;obtain⟨aC,rfl,aV⟩:=nU bF;have am:At _ v0 (i*2) (eT.cells I aC):=am;refine st _ (gH (kk:=i*2) (eT.cells I aC) 0 q q (by exact qf) am q) (aR [(eT.cells I aC)] xW sE Xy Xy q q ⟨q,tV⟩ ⟨q,tV⟩ q Xy ?_);intro a2 cr g a4 C Y;have ah:=d _ g;obtain⟨D,j,s,aV,d,e⟩:=k6 C D j s aV d e;have Y:=Ls.cG (m:=1) (R:=ad) (T:=jM) (xs:=[I]) Y ⟨_,_,q,(uV aV),q⟩ q Xy ah;refine e5 (sz:=2) (by rfl) xW sE q q D Y (fun _ h _=>h) d (bA.new e) Zq Zq ?_;intro bN ct bh E z M bu C N _ V;have S:=D;have K:=E _ K s.lt;have J:=tT J z;have L:=fun b F O=>E b (L b F O) (lj O e.size);have j:=(j.sub E).md C N;have s:=s.md C (aW S s);have d:=d.md C;have e:=e.dh C (fun b F=>(S.2 b F).1);have d:=M;clear M E z N V;refine ck q (aA (bE (aj (aH (mv q (st _ (rA (a:=i) (b:=1) q q Xx) (an q ?_)))))));refine xf (x0:=bN) (x1:=(o ++ ([I]))) (x2:=b) (x3:=(i+1)) Xx ⟨q,q,(d9 q Xx),q,q,tV⟩ ⟨bh,J,L,d,e,bu,j,s,K,⟨by simp;omega,by omega⟩,(by rw[Xc W ak (by rintro⟨bT,bU⟩;simp_all)]at Z;rw[<- Z];simp only[List.append_assoc,List.singleton_append])⟩
  have bq:=wm G;refine eD q q q G (eD q q q G (eD q q q G (eD q q q G (eD q q q G (eD q q q G (eD q q q G (dD ?_)))))));obtain⟨D,j,s,d,e⟩:=k5 U D j s d e;refine sk G (st _ (aZ q G q) (nt (iw q q (aL (aj (aH (m2 q q (mv q (st _ (bf (i:=i) 2 q q xW HB j.di Xx) ?_)))))))));obtain⟨cj,bG,ab⟩:=j.get W;obtain⟨aE,rfl,aX⟩:=nU bG;have ab:At _ v0 (i*2) (eT.cells I aE):=ab;refine st _ (gH (kk:=i*2) (eT.cells I aE) 0 q q (by exact qf) ab q) (aR [(eT.cells I aE)] xW sE Xy Xy q q ⟨q,tV⟩ ⟨q,tV⟩ q Xy ?_);intro a2 cu g a4 C Y;have ah:=d _ g;obtain⟨D,j,s,aX,d,e⟩:=k6 C D j s aX d e;have Y:=Ls.cG (m:=1) (R:=ad) (T:=jM) (xs:=[I]) Y ⟨_,_,q,(uV aX),q⟩ q Xy ah;refine e5 (sz:=2) (by rfl) xW sE q q D Y (fun _ h _=>h) d (bA.new e) Zq Zq ?_;intro bQ cv bi E z M bv C N _ V;have S:=D;have K:=E _ K s.lt;have J:=tT J z;have L:=fun b F O=>E b (L b F O) (lj O e.size);have j:=(j.sub E).md C N;have s:=s.md C (aW S s);have d:=d.md C
  have e:=e.dh C (fun b F=>(S.2 b F).1);have d:=M;clear M E z N V;refine ck q (aA (bE (aj (aH (mv q (st _ (rA (a:=i) (b:=1) q q Xx) (an q ?_)))))));refine xf (x0:=bQ) (x1:=(o ++ ([I]))) (x2:=b) (x3:=(i+1)) Xx ⟨q,q,(d9 q Xx),q,q,tV⟩ ⟨bi,J,L,d,e,bv,j,s,K,⟨by simp;omega,by omega⟩,(by rw[Xc W ak (by rintro⟨bT,bU⟩;simp_all)]at Z;rw[<- Z];simp only[List.append_assoc,List.singleton_append])⟩
 have aN:=dF av;refine bW (aY (aY (cO (aj (aD (nm q (st _ (gR q) (nt ?_))))))));refine bJ q (fun az=>?_) (fun az=>?_)
 ·have aO:=wo az;refine aH (mv q (sf q mV (sl (u:=(str p.name)) q jG s q (sf q qq (sl (u:=(str p.value)) q jG s q (aR [[(str p.value)]] iT gC Xy Xy q q ⟨q,tV⟩ ⟨q,tV⟩ q Xy ?_))))));intro aK cw bo cc C af;have bK:=d _ bo;obtain⟨D,d,e⟩:=k3 C D d e;have af:=Ls.cG (m:=1) (R:=ad) (T:=ij) (xs:=[p.value]) af ⟨_,_,q,⟨q,tV⟩,q⟩ q Xy bK;refine st _ (bO (us:=[[(str p.name)],[(.slice (some ⟨aK,0,none⟩) 1 1)]]) (cs:=(eT.cells (({name:=p.name,values:=[p.value]}:eT)) (.slice (some ⟨aK,0,none⟩) 1 1))) [(0,0,1),(1,1,1)] z98 aj7 q q ⟨q,(dK af.bB),tV⟩ ⟨q,q,tV⟩ q q) (aR [(eT.cells (({name:=p.name,values:=[p.value]}:eT)) (.slice (some ⟨aK,0,none⟩) 1 1))] xW sE Xy Xy q q ⟨q,tV⟩ ⟨q,tV⟩ q Xy ?_);intro b6 w64 bp cd C aQ;have bb:=d _ bp;obtain⟨D,af,d,e⟩:=k4 C D af d e;have aQ:=Ls.cG (m:=1) (R:=ad) (T:=jM) (xs:=[({name:=p.name,values:=[p.value]}:eT)]) aQ ⟨_,_,q,(uV af),q⟩ q Xy bb;refine e5 (sz:=2) (by rfl) xW sE q q D aQ (fun _ h _=>h) d (bA.new e) Zq Zq ?_;intro bS cx ce E z M bw C N _ V;have S:=D;have J:=tT J z;have d:=d.md C;have e:=e.dh C (fun b F=>(S.2 b F).1)
  have d:=M;clear M E z N V;refine an q (nm q (ar q ?_));exact bR (v:=bS) trivial q ⟨q,tV⟩ ⟨_,(o ++ ([({name:=p.name,values:=[p.value]}:eT)])),q,e,(bw.ls (fun b F=>J b F) (bA.up a5)),(by have aa:=Z;rw[OM aN]at aa;simp only[aO,if_true,if_false,Bool.false_eq_true,Bool.true_eq_false,reduceIte]at aa;exact a3.trans (aa.symm.trans Oy))⟩
 have aO:=wm az;refine aL (aj (nm q (ar q ?_)));exact bR (v:=ag) trivial q ⟨q,tV⟩ ⟨_,o,q,e,(D.ls (fun b F=>J b F) (bA.up a5)),(by have aa:=Z;rw[OM aN]at aa;simp only[aO,if_true,if_false,Bool.false_eq_true,Bool.true_eq_false,reduceIte]at aa;exact a3.trans (aa.symm.trans Oy))⟩
theorem u9:Zp.underlying 9=some (.string):=Xw
theorem KM (s:Ly) (w:World) (k:s.length<=9223372036854775807):Calls Zp 107 #[str s] w fun x p=>x = .returned (.bool (ew s))/\w=p:=by
 have r:=Md.refl [] w;refine enter (n:=44) Tryz.func107 q q q fun u=>ns (an q (aD (ns (ck q (nt (aS ?_))))));refine js (X:=Nat) (fun i=>[(0,str s),(3,.int .i64 i)]) (fun i p=>w=p/\i<=s.length/\∀b,b<i->iX (s.getD b 0)=true/\(b=0->digit (s.getD b 0)=false)) (fun i=>s.length-i) 0 ?_ ?_ ?_
 ·exact⟨q,q,tV⟩
 ·exact⟨q,by omega,fun b c=>by omega⟩
 clear r;rintro i u z ⟨rfl,y,f⟩;have r:=Md.refl [] w;refine aD (ns (m2 q q (st _ (sj q u9) (st _ (rJ q q) (nt ?_)))));refine bJ q (fun V=>?_) (fun V=>?_)
 ·have W:=dT V;refine aL (aj (aD (aS (ns (m2 q q (st _ (xK q q u9 Xx) (an q (aD (nm q (st _ (qc q q) ?_))))))))));refine mv q ?_;refine bX (t:=16) q (fun g=>?_) (fun g=>?_)
  ·have Q:=dT g;refine sg g (aM q) (sg g (xL q q) (st _ (bg q g q) (mv q ?_)));refine bX (t:=20) q (fun j=>?_) (fun j=>?_)
   ·have R:=dT j;refine sg j (aM q) (sg j (vi q q) (st _ (bg q j q) (mv q ?_)));refine bX (t:=24) q (fun d=>?_) (fun d=>?_)
    ·have v:=dT d;refine sk d (sk d (sk d (kF q q q (kF q q q (sk d (st _ (bg q d q) (mv q (sk q (sk q (st _ (bg q q q) (nt (gK q q (bW ?_)))))))))))));refine aY (cO (aj (aH (mv q (st _ (eG q q Xx) (an q (next (i+1) Xx ⟨q,d9 q Oy,tV⟩ ?_)))))))
     exact⟨q,by omega,fun b c=>by
      rcases Nat.lt_or_eq_of_le (Nat.le_of_lt_succ c)with h|h
      ·exact f b h
      ·subst h;exact⟨by unfold iX;exact decide_eq_true Xx,fun H=>by unfold digit;exact decide_eq_false Xx⟩⟩
    have v:=dF d;refine sg d (aM q) (sg d (qc q q) (sg d (aM q) ?_));refine bX (t:=27) q (fun a=>?_) (fun a=>?_)
    ·have l:=dT a;refine sg a (aM q) (sg a (xL q q) (sg d (bg q a q) (st _ (aZ q d q) (mv q ?_))));refine bX (t:=32) q (fun C=>?_) (fun C=>?_)
     ·have m:=dT C;refine sk C (sk C (st _ (bg q C q) (nt (gK q q (bW (aY (cO (aj (aH (mv q (st _ (eG q q Xx) (an q ?_))))))))))));refine next (i+1) Xx ⟨q,d9 q Oy,tV⟩ ?_
      exact⟨q,by omega,fun b c=>by
       rcases Nat.lt_or_eq_of_le (Nat.le_of_lt_succ c)with h|h
       ·exact f b h
       ·subst h;exact⟨by unfold iX;exact decide_eq_true Xx,fun H=>by unfold digit;exact decide_eq_false Xx⟩⟩
     have m:=dF C;refine sg C (aM q) (sg C (lT q q) (st _ (aZ q C q) (nt ?_)));refine bJ q (fun D=>?_) (fun D=>?_)
     ·have e:=dT D;refine bW (aY (cO (aj (aH (mv q (st _ (eG q q Xx) (an q (next (i+1) Xx ⟨q,d9 q Oy,tV⟩ ?_))))))))
      exact⟨q,by omega,fun b c=>by
       rcases Nat.lt_or_eq_of_le (Nat.le_of_lt_succ c)with h|h
       ·exact f b h
       ·subst h;exact⟨by unfold iX;exact decide_eq_true Xx,fun H=>by unfold digit;exact decide_eq_false Xx⟩⟩
     have e:=dF D;refine aL (aj (ns (ar q (aU (aI (aI (aU (aI ?_))))))));exact gX trivial q q ⟨oG (by cases hh:ew s with|false=>rfl|true=>(exfalso;have k:=fO hh;have P:=ir hh;have o:=kJ hh i Xx;rcases Nat.eq_zero_or_pos i with H|H<;>omega)),q⟩
    have l:=dF a;refine sk a (sk a (sg d (aZ q a q) (st _ (aZ q d q) (mv q (sg q (aM q) (sg q (lT q q) (st _ (aZ q q q) (nt ?_))))))));refine bJ q (fun D=>?_) (fun D=>?_)
    ·have e:=dT D;refine bW (aY (cO (aj (aH (mv q (st _ (eG q q Xx) (an q (next (i+1) Xx ⟨q,d9 q Oy,tV⟩ ?_))))))))
     exact⟨q,by omega,fun b c=>by
      rcases Nat.lt_or_eq_of_le (Nat.le_of_lt_succ c)with h|h
      ·exact f b h
      ·subst h;exact⟨by unfold iX;exact decide_eq_true Xx,fun H=>by unfold digit;exact decide_eq_false Xx⟩⟩
    have e:=dF D;refine aL (aj (ns (ar q (aU (aI (aI (aU (aI ?_))))))));exact gX trivial q q ⟨oG (by cases hh:ew s with|false=>rfl|true=>(exfalso;have k:=fO hh;have P:=ir hh;have o:=kJ hh i Xx;rcases Nat.eq_zero_or_pos i with H|H<;>first|omega|(subst H;omega))),q⟩
   have R:=dF j;refine sk j (sk j (st _ (aZ q j q) (mv q (sg q (aM q) (sg q (qc q q) (sg q (aM q) ?_))))));refine bX (t:=27) q (fun a=>?_) (fun a=>?_)
   ·have l:=dT a;refine sg a (aM q) (sg a (xL q q) (sg q (bg q a q) (st _ (aZ q q q) (mv q ?_))));refine bX (t:=32) q (fun C=>?_) (fun C=>?_)
    ·have m:=dT C;refine sk C (sk C (st _ (bg q C q) (nt (gK q q (bW (aY (cO (aj (aH (mv q (st _ (eG q q Xx) (an q ?_))))))))))));refine next (i+1) Xx ⟨q,d9 q Oy,tV⟩ ?_
     exact⟨q,by omega,fun b c=>by
      rcases Nat.lt_or_eq_of_le (Nat.le_of_lt_succ c)with h|h
      ·exact f b h
      ·subst h;exact⟨by unfold iX;exact decide_eq_true Xx,fun H=>by unfold digit;exact decide_eq_false Xx⟩⟩
    have m:=dF C;refine sg C (aM q) (sg C (lT q q) (st _ (aZ q C q) (nt ?_)));refine bJ q (fun D=>?_) (fun D=>?_)
    ·have e:=dT D;refine bW (aY (cO (aj (aH (mv q (st _ (eG q q Xx) (an q (next (i+1) Xx ⟨q,d9 q Oy,tV⟩ ?_))))))))
     exact⟨q,by omega,fun b c=>by
      rcases Nat.lt_or_eq_of_le (Nat.le_of_lt_succ c)with h|h
      ·exact f b h
      ·subst h;exact⟨by unfold iX;exact decide_eq_true Xx,fun H=>by unfold digit;exact decide_eq_false Xx⟩⟩
    have e:=dF D;refine aL (aj (ns (ar q (aU (aI (aI (aU (aI ?_))))))));exact gX trivial q q ⟨oG (by cases hh:ew s with|false=>rfl|true=>(exfalso;have k:=fO hh;have P:=ir hh;have o:=kJ hh i Xx;rcases Nat.eq_zero_or_pos i with H|H<;>omega)),q⟩
   have l:=dF a;refine sk a (sk a (sg q (aZ q a q) (st _ (aZ q q q) (mv q (sg q (aM q) (sg q (lT q q) (st _ (aZ q q q) (nt ?_))))))));refine bJ q (fun D=>?_) (fun D=>?_)
   ·have e:=dT D;refine bW (aY (cO (aj (aH (mv q (st _ (eG q q Xx) (an q (next (i+1) Xx ⟨q,d9 q Oy,tV⟩ ?_))))))))
    exact⟨q,by omega,fun b c=>by
     rcases Nat.lt_or_eq_of_le (Nat.le_of_lt_succ c)with h|h
     ·exact f b h
     ·subst h;exact⟨by unfold iX;exact decide_eq_true Xx,fun H=>by unfold digit;exact decide_eq_false Xx⟩⟩
   have e:=dF D;refine aL (aj (ns (ar q (aU (aI (aI (aU (aI ?_))))))));exact gX trivial q q ⟨oG (by cases hh:ew s with|false=>rfl|true=>(exfalso;have k:=fO hh;have P:=ir hh;have o:=kJ hh i Xx;rcases Nat.eq_zero_or_pos i with H|H<;>omega)),q⟩
  have Q:=dF g;refine sk g (sk g (st _ (aZ q g q) (mv q (sk q (sk q (st _ (aZ q q q) (mv q (sg q (aM q) (sg q (qc q q) (sg q (aM q) ?_))))))))));refine bX (t:=27) q (fun a=>?_) (fun a=>?_)
  ·have l:=dT a;refine sg a (aM q) (sg a (xL q q) (sg q (bg q a q) (st _ (aZ q q q) (mv q ?_))));refine bX (t:=32) q (fun C=>?_) (fun C=>?_)
   ·have m:=dT C;refine sk C (sk C (st _ (bg q C q) (nt (gK q q (bW (aY (cO (aj (aH (mv q (st _ (eG q q Xx) (an q ?_))))))))))));refine next (i+1) Xx ⟨q,d9 q Oy,tV⟩ ?_
    exact⟨q,by omega,fun b c=>by
     rcases Nat.lt_or_eq_of_le (Nat.le_of_lt_succ c)with h|h
     ·exact f b h
     ·subst h;exact⟨by unfold iX;exact decide_eq_true Xx,fun H=>by unfold digit;exact decide_eq_false Xx⟩⟩
   have m:=dF C;refine sg C (aM q) (sg C (lT q q) (st _ (aZ q C q) (nt ?_)));refine bJ q (fun D=>?_) (fun D=>?_)
   ·have e:=dT D;refine bW (aY (cO (aj (aH (mv q (st _ (eG q q Xx) (an q (next (i+1) Xx ⟨q,d9 q Oy,tV⟩ ?_))))))))
    exact⟨q,by omega,fun b c=>by
     rcases Nat.lt_or_eq_of_le (Nat.le_of_lt_succ c)with h|h
     ·exact f b h
     ·subst h;exact⟨by unfold iX;exact decide_eq_true Xx,fun H=>by unfold digit;exact decide_eq_false Xx⟩⟩
   have e:=dF D;refine aL (aj (ns (ar q (aU (aI (aI (aU (aI ?_))))))));exact gX trivial q q ⟨oG (by cases hh:ew s with|false=>rfl|true=>(exfalso;have k:=fO hh;have P:=ir hh;have o:=kJ hh i Xx;rcases Nat.eq_zero_or_pos i with H|H<;>omega)),q⟩
  have l:=dF a;refine sk a (sk a (sg q (aZ q a q) (st _ (aZ q q q) (mv q (sg q (aM q) (sg q (lT q q) (st _ (aZ q q q) (nt ?_))))))));refine bJ q (fun D=>?_) (fun D=>?_)
  ·have e:=dT D;refine bW (aY (cO (aj (aH (mv q (st _ (eG q q Xx) (an q (next (i+1) Xx ⟨q,d9 q Oy,tV⟩ ?_))))))))
   exact⟨q,by omega,fun b c=>by
    rcases Nat.lt_or_eq_of_le (Nat.le_of_lt_succ c)with h|h
    ·exact f b h
    ·subst h;exact⟨by unfold iX;exact decide_eq_true Xx,fun H=>by unfold digit;exact decide_eq_false Xx⟩⟩
  have e:=dF D;refine aL (aj (ns (ar q (aU (aI (aI (aU (aI ?_))))))));exact gX trivial q q ⟨oG (by cases hh:ew s with|false=>rfl|true=>(exfalso;have k:=fO hh;have P:=ir hh;have o:=kJ hh i Xx;rcases Nat.eq_zero_or_pos i with H|H<;>omega)),q⟩
 have W:=dF V;refine bW (aY (aY (cO (aj (nm q (st _ (sj q u9) (st _ (qc q q) (mv q ?_))))))));refine bX (t:=39) q (fun G=>?_) (fun G=>?_)
 ·have T:=dT G;refine sg G (aM q) (sg G (sj q u9) (sg G (xL q q) (st _ (bg q G q) (ar q ?_))));exact gX trivial q q ⟨oG (adP Xx (fun b c=>f b Xx)),q⟩
 have T:=dF G;refine sk G (sk G (sk G (st _ (aZ q G q) (ar q ?_))));exact gX trivial q q ⟨oG (by cases hh:ew s with|false=>rfl|true=>(exfalso;have k:=fO hh;have P:=ir hh;omega)),q⟩
theorem oK:gw Zp 5 1=true:=Xw
theorem aib:cu Zp 107=true:=Xw
theorem yZ:iI Zp 5=true:=Xw
theorem AA:fH Zp 61=some [(0,1),(1,1)]:=Xw
theorem fW:Zp.underlying 27=some (.slice 5):=Xw
theorem u5:Zp.underlying 5=some (.int .u8):=Xw
theorem W7 (v:Value) (l:Ly) (w:World) (p:By w v l) (O:l.length<=4611686018427387904) :
  Calls Zp 68 #[v] w fun E e=>E = .returned (.tuple #[mX (nj l),.int .i64 (gE l)])/\Md [] w e:=by
 have V:=p.dB;have d:=Md.refl [] w;refine enter (n:=41) Tryz.func68 q q q fun F=>ns (bI z61 ?_);intro B M u L j a;have u:=lv d.size u;have d:=d.k j;refine an q (aD (ns (ck q (nt (aS ?_)))));refine js (X:=Nat) (fun i=>[(0,v),(2,.pointer (some ⟨B,0,none⟩)),(4,.int .i64 i)]) (fun i e=>Md [] w e/\bC e B [.string ByteArray.empty,.string ByteArray.empty] 61/\i<=l.length/\∀t,t<i->l.getD t 0≠61) (fun i=>l.length-i) 0 ?_ ?_ ?_
 ·exact⟨q,q,q,tV⟩
 ·exact⟨d,a,by omega,fun t T=>by omega⟩
 clear d;clear a;rintro i F b ⟨d,a,K,Q⟩;refine aD (ns (m2 q q (sL q fW p.di (st _ (rJ q q) (nt ?_)))));refine bJ q (fun R=>?_) (fun R=>?_)
 ·have J:=dT R;refine aL (aj (aD (aS (aD (ns (m2 q q (st _ (BF q q fW oK p.di Xx) (st _ (BG q yZ (p.o d) Xx) (st _ (VX q q) (nt ?_))))))))));refine bJ q (fun H=>?_) (fun H=>?_)
  ·have x:=dT H;refine bW (aY (cO (aj (aH (mv q (st _ (eG q q Xx) (an q (next (i+1) Xx ⟨q,q,d9 q Oy,tV⟩ ?_))))))))
   exact⟨d,a,by omega,fun t T=>by
    rcases Nat.lt_or_eq_of_le (Nat.le_of_lt_succ T)with h|h
    ·exact Q t h
    ·subst h;intro W;apply x;rw[Int.toNat_natCast,W];rfl⟩
  have x:=dF H;have I:=x;rw[Int.toNat_natCast]at I;have G:Lib.indexByte l 61=i:=al1 Xx (UInt8.toNat_inj.1 (by show _=61;omega)) Q;refine aL (aj (aD (ns (m2 q q (st _ (mh 0 i fW oK q p.di Xx Xx q ⟨_,q⟩) (st _ (ou fW u5 u9 q ((p.head i Xx).o d)) (ax aib q (KM (l.take i) _ Ym) ?_)))))));rintro E _ ⟨rfl,rfl⟩;refine rv ?_;refine st _ (gR q) (nt ?_);refine bJ q (fun y=>?_) (fun y=>?_)
  ·have D:=wo y;refine ns (st (.agg [_,_].toArray) (jD (ps:=[]) z61 AA q q trivial q q q) (eY q q (by exact gY) (by simp[mX,str,Value.oneCell']) a (by rfl) ?_));have A:=a;intro c j a;have d:=d.dX j u;refine ar q (aI (aU (aI (aI (aU (aI ?_))))));have C:gE l=20:=(by unfold gE;rw[G,if_neg Xx,Int.toNat_natCast,if_pos D]);have r:=pA (s:=l) (by rw[C];decide);exact zQ trivial q q (by exact gY) a q ⟨by rw[C,r];rfl,d⟩
  have D:=wm y;refine aL (aj (aD (nm q (sL q fW p.di (mv q (st _ (jK q q Xx) (st _ (jK q q Xx) (st _ (vi q q) (nt ?_)))))))));refine bJ q (fun z=>?_) (fun z=>?_)
  ·have P:=dT z;refine ns (st (.agg [_,_].toArray) (jD (ps:=[]) z61 AA q q trivial q q q) (eY q q (by exact gY) (by simp[mX,str,Value.oneCell']) a (by rfl) ?_));have A:=a;intro N j a;have d:=d.dX j u;refine ar q (aI (aU (aI (aI (aU (aI ?_))))));have C:gE l=21:=(by unfold gE;rw[G,if_neg Xx,Int.toNat_natCast,if_neg (by simp[D]),if_pos Ym]);have r:=pA (s:=l) (by rw[C];decide);exact zQ trivial q q (by exact gY) a q ⟨by rw[C,r];rfl,d⟩
  have P:=dF z;refine aL (aj (aD (CF [(0,true),(1,true),(2,true),(3,true),(4,true),(5,true),(6,true),(7,true),(8,true),(9,true),(10,false),(11,true)] (fun e=>By e v l) mixed Xw ?_)));intro f j;obtain⟨a,d⟩:=k2 j a d;refine⟨(p.o d),?_⟩;refine m _ (fun e C=>aM q) (m _ (fun e C=>aM q) (m _ (fun e C=>mh 0 i fW oK q p.di Xx Xx q ⟨_,q⟩) (m _ (fun e C=>ou fW u5 u9 q (By.head C i Xx)) (m _ (fun e C=>aM q) (m _ (fun e C=>aM q) (m _ (fun e C=>(eG q q Xx).jy (show _=((i+1:Nat):Int)from by simp)) (m _ (fun e C=>mh (i+1) l.length fW oK q p.di Xx Xx ⟨_,q⟩ q) (m _ (fun e C=>ou fW u5 u9 q (By.tail C (i+1) Xx)) (m (.agg [_,_].toArray) (fun e C=>jD (ps:=[(0,0),(1,1)]) z61 AA q q ⟨q,q,tV⟩ q q q) ?_)))))))));refine mL ?_ rfl;refine eY q q (by exact gY) (by simp[mX,str,Value.oneCell']) a (by rfl) ?_;have A:=a;intro g j a;have d:=d.dX j u;refine aA ⟨q,(p.o d),?_⟩;refine m _ (fun e C=>eX q) (dD (aj (iM (aU (aI (aI (aU (aI ?_))))))));have C:gE l=0:=(by unfold gE;rw[G,if_neg Xx,Int.toNat_natCast,if_neg (by simp[D]),if_neg Ym]);have r:nj l=(l.take i,l.drop (i+1)):=(by unfold nj;rw[if_pos C,G,Int.toNat_natCast]);exact zQ trivial q q (by exact gY) a q ⟨by rw[C,r];rfl,d⟩
 have J:=dF R;refine bW (aY (aY (cO (aj (ns (st (.agg [_,_].toArray) (jD (ps:=[]) z61 AA q q trivial q q q) (eY q q (by exact gY) (by simp[mX,str,Value.oneCell']) a (by rfl) ?_)))))));have A:=a;intro k j a;have d:=d.dX j u;refine ar q ?_;have C:gE l=20:=(by unfold gE;rw[if_pos (ag8 fun t T=>Q t Xx)]);have r:=pA (s:=l) (by rw[C];decide);exact zQ trivial q q (by exact gY) a q ⟨by rw[C,r];rfl,d⟩
theorem nk:Zp.underlying 46=some (.int .u64):=Xw
theorem V9 (i:Up w Q) (n:Int) (l:(-9223372036854775808<=n/\n<9223372036854775808)) :
  Calls Zp 163 #[(.int .i64 (n:Int))] w fun h j=>∃e:Bool,h = .returned (.bool e)/\Md [] w j/\oI n=e:=by
 have d:=Md.refl [] w;have H:=i;refine enter (n:=17) Tryz.func163 q q q fun k=>ns (an q (nm q (st _ (lT (a:=n) (b:=1) q q) (mv q ?_))));refine bX (t:=5) q (fun C=>?_) (fun C=>?_)
 ·have g:=dT C;refine sk C (sk C (st _ (bg q C q) (mv q (sk q (sk q (st _ (bg q q q) (mv q (sk q (sk q (st _ (bg q q q) (ar q ?_)))))))))));exact bR (v:=(.bool true)) trivial q ⟨q,tV⟩ ⟨true,q,d,(by simp only[oI];exact decide_eq_true Xx)⟩
 have g:=dF C;refine sg C (aM q) (sg C (lT (a:=n) (b:=2) q q) (st _ (aZ q C q) (mv q ?_)));refine bX (t:=9) q (fun D=>?_) (fun D=>?_)
 ·have G:=dT D;refine sk D (sk D (st _ (bg q D q) (mv q (sk q (sk q (st _ (bg q q q) (ar q ?_)))))));exact bR (v:=(.bool true)) trivial q ⟨q,tV⟩ ⟨true,q,d,(by simp only[oI];exact decide_eq_true Xx)⟩
 have G:=dF D;refine sg D (aM q) (sg D (lT (a:=n) (b:=4) q q) (st _ (aZ q D q) (mv q ?_)));refine bX (t:=13) q (fun c=>?_) (fun c=>?_)
 ·have f:=dT c;refine sk c (sk c (st _ (bg q c q) (ar q ?_)));exact bR (v:=(.bool true)) trivial q ⟨q,tV⟩ ⟨true,q,d,(by simp only[oI];exact decide_eq_true Xx)⟩
 have f:=dF c;refine sg c (aM q) (sg c (lT (a:=n) (b:=8) q q) (st _ (aZ q c q) (ar q ?_)));exact bR (v:=(.bool ((decide (n=8))))) trivial q ⟨q,tV⟩ ⟨(decide (n=8)),q,d,(by simp only[oI];exact(decide_eq_decide.2 Xx))⟩
theorem Wp (J:Up w Q) {v0:Value} {l:Ly} (e:Ls eC w Q v0 l) (a:Int) (ae:(-9223372036854775808<=a/\a<9223372036854775808)) (n:Int) (af:(-9223372036854775808<=n/\n<9223372036854775808)) :
  Calls Zp 91 #[v0,(.int .i64 (a:Int)),(.int .i64 (n:Int))] w fun ab E=>∃O:Nat,∃X:Bool,ab = .returned (.tuple #[(.int .u64 O),(.bool X)])/\Md [] w E/\O<18446744073709551616/\lO l a n=(O,X):=by
 have ah:=e.dB;have F:=Md.refl [] w;have p:=J;have M:∀b,Q b->Q b:=fun _ h=>h;have P:∀b,Q b->b<w.heap.size->Q b:=fun _ h _=>h;refine enter (n:=59) Tryz.func91 q q q fun S=>ns (ck q (an q (aD (aD ?_))));refine Ub (fun b=>[(41,.bool b),(0,v0),(1,(.int .i64 (a:Int))),(2,(.int .i64 (n:Int))),(6,(.int .u64 ((0:Nat):Int))),(7,(.bool false))]) (fun b E=>w=E/\(b=true↔¬(oI n=true/\0<=a/\a+n<=l.length))) ?_ ?_
 ·refine mv q (st _ (VX (a:=n) (b:=1) q q) (mv q ?_));refine bX (t:=12) q (fun H=>?_) (fun H=>?_)
  ·have T:=dT H;refine sg H (aM q) (sg H (VX (a:=n) (b:=2) q q) (st _ (bg q H q) (mv q ?_)));refine bX (t:=16) q (fun j=>?_) (fun j=>?_)
   ·have Y:=dT j;refine sg j (aM q) (sg j (VX (a:=n) (b:=4) q q) (st _ (bg q j q) (mv q ?_)));refine bX (t:=20) q (fun m=>?_) (fun m=>?_)
    ·have V:=dT m;refine sg m (aM q) (sg m (VX (a:=n) (b:=8) q q) (st _ (bg q m q) (mv q ?_)));refine bX (t:=24) q (fun s=>?_) (fun s=>?_)
     ·have W:=dT s;refine sk s (sk s (st _ (bg q s q) (mv q (sk q (sk q (sk q (sk q (st _ (bg q q q) (mv q (sk q (sk q (sk q (sk q ?_)))))))))))));refine sk q (sk q (st _ (bg q q q) (aA ?_)));refine⟨q,jn true ?_ ?_⟩
      ·exact⟨q,q,q,q,q,q,tV⟩
      ·exact⟨q,by rw[fA];simp;omega⟩
     ·have W:=dF s;refine sg s (aM q) (sg s (rJ (a:=a) (b:=0) q q) (st _ (aZ q s q) (mv q ?_)));refine bX (t:=28) q (fun C=>?_) (fun C=>?_)
      ·have u:=dT C;refine sk C (sk C (sk C (sk C (st _ (bg q C q) (mv q (sk q (sk q (sk q (sk q (sk q (sk q (st _ (bg q q q) (aA ?_)))))))))))));refine⟨q,jn true ?_ ?_⟩
       ·exact⟨q,q,q,q,q,q,tV⟩
       ·exact⟨q,by rw[fA];simp;omega⟩
      ·have u:=dF C;refine sg C (aM q) (sg C (aM q) (sg C (j9 q fW e.di) (sg C (vi (a:=a) (b:=((l.length:Nat):Int)) q q) (st _ (aZ q C q) (mv q ?_)))));refine bX (t:=34) q (fun d=>?_) (fun d=>?_)
       ·have A:=dT d;refine sk d (sk d (sk d (sk d (sk d (sk d (st _ (bg q d q) (aA ?_)))))));refine⟨q,jn true ?_ ?_⟩
        ·exact⟨q,q,q,q,q,q,tV⟩
        ·exact⟨q,by rw[fA];simp;omega⟩
       ·have A:=dF d;refine sg d (aM q) (sg d (j9 q fW e.di) (sg d (aM q) (sg d (jK (a:=((l.length:Nat):Int)) (b:=a) q q Xx) (sg d (aM q) (sg d (rJ (a:=((l.length:Nat):Int)-a) (b:=n) q q) (st _ (aZ q d q) ?_))))));refine bX (t:=41) q (fun D=>?_) (fun D=>?_)
        ·have G:=dT D;refine aA ?_;refine⟨q,jn true ?_ ?_⟩
         ·exact⟨zV q D,q,q,q,q,q,tV⟩
         ·exact⟨q,by rw[fA];simp;omega⟩
        ·have G:=dF D;refine aA ?_;refine⟨q,jn false ?_ ?_⟩
         ·exact⟨zV q D,q,q,q,q,q,tV⟩
         ·exact⟨q,by rw[fA];simp;omega⟩
    ·have V:=dF m;refine sk m (sk m (st _ (aZ q m q) (mv q (sg q (aM q) (sg q (rJ (a:=a) (b:=0) q q) (st _ (aZ q q q) (mv q ?_)))))));refine bX (t:=28) q (fun C=>?_) (fun C=>?_)
     ·have u:=dT C;refine sk C (sk C (sk C (sk C (st _ (bg q C q) (mv q (sk q (sk q (sk q (sk q (sk q (sk q (st _ (bg q q q) (aA ?_)))))))))))));refine⟨q,jn true ?_ ?_⟩
      ·exact⟨q,q,q,q,q,q,tV⟩
      ·exact⟨q,by rw[fA];simp;omega⟩
     ·have u:=dF C;refine sg C (aM q) (sg C (aM q) (sg C (j9 q fW e.di) (sg C (vi (a:=a) (b:=((l.length:Nat):Int)) q q) (st _ (aZ q C q) (mv q ?_)))));refine bX (t:=34) q (fun d=>?_) (fun d=>?_)
      ·have A:=dT d;refine sk d (sk d (sk d (sk d (sk d (sk d (st _ (bg q d q) (aA ?_)))))));refine⟨q,jn true ?_ ?_⟩
       ·exact⟨q,q,q,q,q,q,tV⟩
       ·exact⟨q,by rw[fA];simp;omega⟩
      ·have A:=dF d;refine sg d (aM q) (sg d (j9 q fW e.di) (sg d (aM q) (sg d (jK (a:=((l.length:Nat):Int)) (b:=a) q q Xx) (sg d (aM q) (sg d (rJ (a:=((l.length:Nat):Int)-a) (b:=n) q q) (st _ (aZ q d q) ?_))))));refine bX (t:=41) q (fun D=>?_) (fun D=>?_)
       ·have G:=dT D;refine aA ?_;refine⟨q,jn true ?_ ?_⟩
        ·exact⟨zV q D,q,q,q,q,q,tV⟩
        ·exact⟨q,by rw[fA];simp;omega⟩
       ·have G:=dF D;refine aA ?_;refine⟨q,jn false ?_ ?_⟩
        ·exact⟨zV q D,q,q,q,q,q,tV⟩
        ·exact⟨q,by rw[fA];simp;omega⟩
   ·have Y:=dF j;refine sk j (sk j (st _ (aZ q j q) (mv q (sk q (sk q (st _ (aZ q q q) (mv q (sg q (aM q) (sg q (rJ (a:=a) (b:=0) q q) (st _ (aZ q q q) (mv q ?_)))))))))));refine bX (t:=28) q (fun C=>?_) (fun C=>?_)
    ·have u:=dT C;refine sk C (sk C (sk C (sk C (st _ (bg q C q) (mv q (sk q (sk q (sk q (sk q (sk q (sk q (st _ (bg q q q) (aA ?_)))))))))))));refine⟨q,jn true ?_ ?_⟩
     ·exact⟨q,q,q,q,q,q,tV⟩
     ·exact⟨q,by rw[fA];simp;omega⟩
    ·have u:=dF C;refine sg C (aM q) (sg C (aM q) (sg C (j9 q fW e.di) (sg C (vi (a:=a) (b:=((l.length:Nat):Int)) q q) (st _ (aZ q C q) (mv q ?_)))));refine bX (t:=34) q (fun d=>?_) (fun d=>?_)
     ·have A:=dT d;refine sk d (sk d (sk d (sk d (sk d (sk d (st _ (bg q d q) (aA ?_)))))));refine⟨q,jn true ?_ ?_⟩
      ·exact⟨q,q,q,q,q,q,tV⟩
      ·exact⟨q,by rw[fA];simp;omega⟩
     ·have A:=dF d;refine sg d (aM q) (sg d (j9 q fW e.di) (sg d (aM q) (sg d (jK (a:=((l.length:Nat):Int)) (b:=a) q q Xx) (sg d (aM q) (sg d (rJ (a:=((l.length:Nat):Int)-a) (b:=n) q q) (st _ (aZ q d q) ?_))))));refine bX (t:=41) q (fun D=>?_) (fun D=>?_)
      ·have G:=dT D;refine aA ?_;refine⟨q,jn true ?_ ?_⟩
       ·exact⟨zV q D,q,q,q,q,q,tV⟩
       ·exact⟨q,by rw[fA];simp;omega⟩
      ·have G:=dF D;refine aA ?_;refine⟨q,jn false ?_ ?_⟩
       ·exact⟨zV q D,q,q,q,q,q,tV⟩
       ·exact⟨q,by rw[fA];simp;omega⟩
  ·have T:=dF H;refine sk H (sk H (st _ (aZ q H q) (mv q (sk q (sk q (st _ (aZ q q q) (mv q (sk q (sk q (st _ (aZ q q q) (mv q (sg q (aM q) (sg q (rJ (a:=a) (b:=0) q q) ?_)))))))))))));refine st _ (aZ q q q) (mv q ?_);refine bX (t:=28) q (fun C=>?_) (fun C=>?_)
   ·have u:=dT C;refine sk C (sk C (sk C (sk C (st _ (bg q C q) (mv q (sk q (sk q (sk q (sk q (sk q (sk q (st _ (bg q q q) (aA ?_)))))))))))));refine⟨q,jn true ?_ ?_⟩
    ·exact⟨q,q,q,q,q,q,tV⟩
    ·exact⟨q,by rw[fA];simp;omega⟩
   ·have u:=dF C;refine sg C (aM q) (sg C (aM q) (sg C (j9 q fW e.di) (sg C (vi (a:=a) (b:=((l.length:Nat):Int)) q q) (st _ (aZ q C q) (mv q ?_)))));refine bX (t:=34) q (fun d=>?_) (fun d=>?_)
    ·have A:=dT d;refine sk d (sk d (sk d (sk d (sk d (sk d (st _ (bg q d q) (aA ?_)))))));refine⟨q,jn true ?_ ?_⟩
     ·exact⟨q,q,q,q,q,q,tV⟩
     ·exact⟨q,by rw[fA];simp;omega⟩
    ·have A:=dF d;refine sg d (aM q) (sg d (j9 q fW e.di) (sg d (aM q) (sg d (jK (a:=((l.length:Nat):Int)) (b:=a) q q Xx) (sg d (aM q) (sg d (rJ (a:=((l.length:Nat):Int)-a) (b:=n) q q) (st _ (aZ q d q) ?_))))));refine bX (t:=41) q (fun D=>?_) (fun D=>?_)
     ·have G:=dT D;refine aA ?_;refine⟨q,jn true ?_ ?_⟩
      ·exact⟨zV q D,q,q,q,q,q,tV⟩
      ·exact⟨q,by rw[fA];simp;omega⟩
     ·have G:=dF D;refine aA ?_;refine⟨q,jn false ?_ ?_⟩
      ·exact⟨zV q D,q,q,q,q,q,tV⟩
      ·exact⟨q,by rw[fA];simp;omega⟩
 ·rintro c S _ ⟨rfl,B⟩;refine vI c (fun D=>?_) (fun D=>?_)
  ·have B:=B.1 D;refine aj (gK q D (ns (ck q (ar q (aI ?_)))));exact d8 (vs:=[(.int .u64 ((0:Nat):Int)),(.bool false)]) trivial q ⟨q,q,tV⟩ q ⟨0,false,q,F,Xx,(AP Xx)⟩
  ·have B:=mt B.2 (by rw[D];simp);refine aj (iw q D (aL (aj (aD ?_))));have B:=Classical.not_not.1 B;have y:=zo B.1;refine aH (an q (aD (nm q (st _ (jK (a:=n) (b:=1) q q Xx) (ck q (nt (aS ?_)))))));refine vq (fun(v:Nat) (i:Int)=>[(8,(.int .u64 v)),(9,(.int .i64 (i:Int))),(0,v0),(1,(.int .i64 (a:Int)))]) (fun(v:Nat) (i:Int) E=>∃L:Nat->Prop,(∀b,L b->Q b)/\(∀b,Q b->b<w.heap.size->L b)/\Up E L/\Md [] w E/\Ls eC E L v0 l/\(-1<=i/\i<n)/\v=EK ((l.drop (a+(i+1)).toNat).take (n-1-i).toNat)/\v<18446744073709551616) (fun(v:Nat) (i:Int)=>(i+1).toNat) (x0:=0) (x1:=(n-1)) ?_ ?_ ?_
   ·exact⟨q,q,q,q,tV⟩
   ·exact⟨Q,M,P,J,F,e,Xx,(by simp[show n-1-(n-1)=0 by omega,EK]),Xx⟩
   ·clear F J M P e;rintro v i S z ⟨g,M,P,J,F,e,ag,N,f⟩;refine aD (nm q (st _ (qc (a:=i) (b:=0) q q) (nt ?_)));refine bJ q (fun R=>?_) (fun R=>?_)
    ·have Z:=dT R;have ad:=uL (l:=(l.drop (a+(i+1)).toNat).take (n-1-i).toNat) (k:=7) Ym;rw[<- N]at ad;refine aL (aj (aD (aS (aH (mv q (st _ (qO (a:=v) (b:=256) 18446744073709551616 q q q Xx) (m2 q q (mv q (st _ (eG (a:=a) (b:=i) q q Xx) (st _ (tX (i:=a+i) 1 q q fW oK e.di Xx) ?_))))))))));obtain⟨I,U⟩:=dY (l:=l) (i:=(a+i).toNat) Xx;obtain⟨x,aa,K⟩:=e.get U;obtain⟨rfl,_⟩:=aa;have r:=UInt8.toNat_lt I;have K:At _ v0 (((a+i).toNat)*1) [(b8 I)]:=K;refine st _ ((bP (kk:=((a+i).toNat)*1) 0 q q yZ K q).to (b:=(b8 I)) q) (st _ (dJ (a:=I.toNat) 18446744073709551616 q (by rw[u5];rfl) nk q (lj (UInt8.toNat_lt _) Xy)) (st _ (iF (a:=(v*256)) (b:=I.toNat) 18446744073709551616 q q q Xx) (ck q (aA ?_))));refine bE (aj (aH (mv q (st _ (jK (a:=i) (b:=1) q q Xx) (an q ?_)))));refine tC (x0:=((v*256)+I.toNat)) (x1:=(i-1)) Xx ⟨(d9 q (by rfl)),(d9 q Xx),q,q,tV⟩ ⟨g,M,P,J,F,e,Xx,(by rw[N];have o:=QY (k:=(n-1-i).toNat) U;rw[show(n-1-(i-1)).toNat=(n-1-i).toNat+1 by omega,show(a+(i-1+1)).toNat=(a+i).toNat by omega,o,show(a+i).toNat+1=(a+(i+1)).toNat by omega];omega),Xx⟩
    ·have Z:=dF R;refine bW (aY (aY (cO (aj (nm q (ck q (ar q ?_)))))));exact d8 (vs:=[(.int .u64 v),(.bool true)]) trivial q ⟨q,q,tV⟩ q ⟨v,true,q,F,Xh,(by rw[lO,if_pos Xx,N,show i = -1 by omega];simp)⟩
theorem aik:cu Zp 163=true:=Xw
theorem pu (m:Up w Q) {v0:Value} {l:Ly} (j:Ls eC w Q v0 l) (a:Int) (aa:(-9223372036854775808<=a/\a<9223372036854775808)) (n:Int) (ab:(-9223372036854775808<=n/\n<9223372036854775808)) :
  Calls Zp 139 #[v0,(.int .i64 (a:Int)),(.int .i64 (n:Int))] w fun I u=>∃B:Nat,∃J:Bool,I = .returned (.tuple #[(.int .u64 B),(.bool J)])/\Md [] w u/\B<18446744073709551616/\lO l a n=(B,J):=by
 have p:=j.dB;have e:=Md.refl [] w;have ae:=m;have P:∀b,Q b->Q b:=fun _ h=>h;have z:∀b,Q b->b<w.heap.size->Q b:=fun _ h _=>h;refine enter (n:=42) Tryz.func139 q q q fun K=>ns (ck q (an q (aD (nm q (ax aik q (V9 m (n) Xx) ?_)))));rintro I af ⟨Z,rfl,R,ad⟩;refine rv ?_;obtain⟨j,m,e⟩:=k3 R j m e;refine st _ (gR q) (mv q ?_);refine bX (t:=13) q (fun C=>?_) (fun C=>?_)
 ·have L:=wo C;refine sk C (sk C (st _ (bg q C q) (mv q (sk q (sk q (sk q (sk q (sk q (sk q (st _ (bg q q q) (nt (gK q q (ns ?_)))))))))))));refine ck q (ar q (aI ?_));exact d8 (vs:=[(.int .u64 ((0:Nat):Int)),(.bool false)]) trivial q ⟨q,q,tV⟩ q ⟨0,false,q,e,Xx,(AP (by rintro⟨F,V,W⟩;simp_all))⟩
 ·have L:=wm C;refine sg C (aM q) (sg C (rJ (a:=a) (b:=0) q q) (st _ (aZ q C q) (mv q ?_)));refine bX (t:=17) q (fun d=>?_) (fun d=>?_)
  ·have M:=dT d;refine sk d (sk d (sk d (sk d (sk d (sk d (st _ (bg q d q) (nt (gK q q (ns (ck q (ar q ?_)))))))))));refine aI ?_;exact d8 (vs:=[(.int .u64 ((0:Nat):Int)),(.bool false)]) trivial q ⟨q,q,tV⟩ q ⟨0,false,q,e,Xx,(AP (by rintro⟨F,V,W⟩;omega))⟩
  ·have M:=dF d;have U:=zo (n:=n) (by simp_all);refine sg d (aM q) (sg d (aM q) (sg d (j9 q fW j.di) (sg d (aM q) (sg d (jK (a:=((l.length:Nat):Int)) (b:=n) q q Xx) (sg d (vi (a:=a) (b:=((l.length:Nat):Int)-n) q q) (st _ (aZ q d q) (nt ?_)))))));refine bJ q (fun G=>?_) (fun G=>?_)
   ·have N:=dT G;refine ns (ck q (ar q (aI ?_)));exact d8 (vs:=[(.int .u64 ((0:Nat):Int)),(.bool false)]) trivial q ⟨q,q,tV⟩ q ⟨0,false,q,e,Xx,(AP (by rintro⟨F,V,W⟩;omega))⟩
   ·have N:=dF G;refine aL (aj (aD ?_));have T:oI n=true/\0<=a/\a+n<=l.length:=⟨by simp_all,by omega,by omega⟩;have U:=zo T.1;refine aH (an q (aD (nm q (st _ (jK (a:=n) (b:=1) q q Xx) (ck q (nt (aS ?_)))))))
    refine vq (fun(v:Nat) (i:Int)=>[(8,(.int .u64 v)),(9,(.int .i64 (i:Int))),(0,v0),(1,(.int .i64 (a:Int)))]) (fun(v:Nat) (i:Int) u=>∃A:Nat->Prop,(∀b,A b->Q b)/\(∀b,Q b->b<w.heap.size->A b)/\Up u A/\Md [] w u/\Ls eC u A v0 l/\(-1<=i/\i<n)/\v=EK ((l.drop (a+(i+1)).toNat).take (n-1-i).toNat)/\v<18446744073709551616) (fun(v:Nat) (i:Int)=>(i+1).toNat) (x0:=0) (x1:=(n-1)) ?_ ?_ ?_
    ·exact⟨q,q,q,q,tV⟩
    ·exact⟨Q,P,z,m,e,j,Xx,(by simp[show n-1-(n-1)=0 by omega,EK]),Xx⟩
    ·clear e m P z j;rintro v i K x ⟨c,P,z,m,e,j,X,D,Y⟩;refine aD (nm q (st _ (qc (a:=i) (b:=0) q q) (nt ?_)));refine bJ q (fun H=>?_) (fun H=>?_)
     ·have O:=dT H;have f:=uL (l:=(l.drop (a+(i+1)).toNat).take (n-1-i).toNat) (k:=7) Ym;rw[<- D]at f;refine aL (aj (aD (aS (aH (mv q (st _ (ajI (a:=v) (b:=8) 18446744073709551616 q q 64 q q q Xx) (m2 q q (mv q (st _ (eG (a:=a) (b:=i) q q Xx) (st _ (tX (i:=a+i) 1 q q fW oK j.di Xx) ?_))))))))));obtain⟨s,E⟩:=dY (l:=l) (i:=(a+i).toNat) Xx;obtain⟨r,S,y⟩:=j.get E;obtain⟨rfl,_⟩:=S;have o:=UInt8.toNat_lt s;have y:At _ v0 (((a+i).toNat)*1) [(b8 s)]:=y;refine st _ ((bP (kk:=((a+i).toNat)*1) 0 q q yZ y q).to (b:=(b8 s)) q) (st _ (dJ (a:=s.toNat) 18446744073709551616 q (by rw[u5];rfl) nk q (lj (UInt8.toNat_lt _) Xy)) (st _ (alR (a:=(v*2 ^ 8%18446744073709551616)) (b:=s.toNat) 18446744073709551616 q q q q Xx) (ck q (aA ?_))));refine bE (aj (aH (mv q (st _ (jK (a:=i) (b:=1) q q Xx) (an q ?_)))));refine tC (x0:=((v*2 ^ 8%18446744073709551616) ||| s.toNat)) (x1:=(i-1)) Xx ⟨(d9 q (by rfl)),(d9 q Xx),q,q,tV⟩ ⟨c,P,z,m,e,j,Xx,(by rw[aft Xx,D];have g:=QY (k:=(n-1-i).toNat) E;rw[show(n-1-(i-1)).toNat=(n-1-i).toNat+1 by omega,show(a+(i-1+1)).toNat=(a+i).toNat by omega,g,show(a+i).toNat+1=(a+(i+1)).toNat by omega]),(by rw[aft Xx];have:=UInt8.toNat_lt s;omega)⟩
     ·have O:=dF H;refine bW (aY (aY (cO (aj (nm q (ck q (ar q ?_)))))));exact d8 (vs:=[(.int .u64 v),(.bool true)]) trivial q ⟨q,q,tV⟩ q ⟨v,true,q,e,Xh,(by rw[lO,if_pos Xx,D,show i = -1 by omega];simp)⟩
theorem fu:fI Zp 129 91=true:=Xw
theorem aks:gw Zp 226 1=true:=Xw
theorem akt:gw Zp 229 1=true:=Xw
theorem aiM:wF Zp 226 1 8=true:=Xw
theorem aiN:wF Zp 229 1 8=true:=Xw
theorem XQ:cu Zp 138=true:=Xw
theorem qX:cu Zp 139=true:=Xw
theorem akD:cu Zp 140=true:=Xw
theorem akE:cu Zp 141=true:=Xw
theorem aeg:aP Zp 129 0=some 0:=Xw
theorem FH:aP Zp 129 1=some 1:=Xw
theorem yV:aP Zp 129 10=some 70:=Xw
theorem yW:aP Zp 129 11=some 71:=Xw
theorem yX:aP Zp 129 12=some 72:=Xw
theorem aa5:aP Zp 129 13=some 73:=Xw
theorem aa6:aP Zp 129 14=some 74:=Xw
theorem aa7:aP Zp 129 15=some 75:=Xw
theorem aa8:aP Zp 129 16=some 76:=Xw
theorem aa9:aP Zp 129 17=some 77:=Xw
theorem aaA:aP Zp 129 18=some 78:=Xw
theorem aaB:aP Zp 129 19=some 79:=Xw
theorem aeh:aP Zp 129 2=some 2:=Xw
theorem aaC:aP Zp 129 20=some 80:=Xw
theorem aaD:aP Zp 129 21=some 81:=Xw
theorem aaE:aP Zp 129 22=some 82:=Xw
theorem aaF:aP Zp 129 23=some 83:=Xw
theorem aaG:aP Zp 129 24=some 84:=Xw
theorem aaH:aP Zp 129 25=some 85:=Xw
theorem aaI:aP Zp 129 26=some 86:=Xw
theorem aaJ:aP Zp 129 27=some 87:=Xw
theorem aaK:aP Zp 129 28=some 88:=Xw
theorem aaL:aP Zp 129 29=some 89:=Xw
theorem RO:aP Zp 129 3=some 3:=Xw
theorem aaM:aP Zp 129 30=some 90:=Xw
theorem aei:aP Zp 129 4=some 19:=Xw
theorem aej:aP Zp 129 5=some 35:=Xw
theorem aek:aP Zp 129 6=some 51:=Xw
theorem oc:aP Zp 129 7=some 67:=Xw
theorem FI:aP Zp 129 8=some 68:=Xw
theorem FJ:aP Zp 129 9=some 69:=Xw
theorem aj1:iI Zp 226=true:=Xw
theorem aj2:iI Zp 229=true:=Xw
theorem fJ:iI Zp 27=true:=Xw
theorem bh:iI Zp 46=true:=Xw
theorem iE:iI Zp 88=true:=Xw
theorem sI:fH Zp 129=some [(0,1),(1,1),(2,1),(3,16),(19,16),(35,16),(51,16),(67,1),(68,1),(69,1),(70,1),(71,1),(72,1),(73,1),(74,1),(75,1),(76,1),(77,1),(78,1),(79,1),(80,1),(81,1),(82,1),(83,1),(84,1),(85,1),(86,1),(87,1),(88,1),(89,1),(90,1)]:=Xw
theorem akb:Zp.underlying 224=some (.slice 226):=Xw
theorem akc:Zp.underlying 227=some (.slice 229):=Xw
theorem u3:Zp.underlying 3=some (.int .i64):=Xw
theorem u48:Zp.underlying 48=some (.array 16 5):=Xw
theorem GQ:Zp.underlying 88=some (.int .u32):=Xw
theorem sO:dU Zp 129=some ([.int .u32 0,.int .u32 0,.int .i64 0] ++ (List.replicate 64 (.int .u8 0) ++ (List.replicate 21 (.int .u64 0) ++ ([.int .u32 0,.int .u32 0,.int .u64 0])))):=Xw
theorem adm {w:World} {b:Nat}:Calls Zp 140 #[.pointer (some ⟨b,0,none⟩)] w fun f a=>∃x,f = .returned (.slice (some ⟨x,0,none⟩) 4 4)/\w.heap.size<=x/\Md [] w a/\bC a x (ptrs b 3 16 4) 226:=by refine enter (n:=16) Tryz.func140 q q q fun g=>ns (an q (aD (cT (ml 12) [12,13] (fun a=>Md [] w a) mixed Xw ?_)));intro h C;refine⟨C,?_⟩;refine mo q (mz (fun a c=>cA q) (mz (fun a c=>aJ q RO) (mo q (mz (fun a c=>cA q) (mz (fun a c=>aJ q aei) (mo q (mz (fun a c=>cA q) (mz (fun a c=>aJ q aej) (mo q (mz (fun a c=>cA q) (mz (fun a c=>aJ q aek) (dD (qQ akb aiM Xy q q q (by simp[pD,Value.oneCell']) Xy ?_)))))))))))));intro x G d H D e;refine ar q ?_;exact gX trivial q q ⟨x,q,lv C.size d,C.k D,(show bC G x (ptrs b 3 16 4) 226 from e)⟩
theorem ZX {w:World} {b:Nat}:Calls Zp 141 #[.pointer (some ⟨b,0,none⟩)] w fun f a=>∃x,f = .returned (.slice (some ⟨x,0,none⟩) 21 21)/\w.heap.size<=x/\Md [] w a/\bC a x (ptrs b 67 1 21) 229:=by refine enter (n:=67) Tryz.func141 q q q fun g=>ns (an q (aD (cT (ml 63) [63,64] (fun a=>Md [] w a) mixed Xw ?_)));intro h C;refine⟨C,?_⟩;refine mo q (mz (fun a c=>cA q) (mz (fun a c=>aJ q oc) (mo q (mz (fun a c=>cA q) (mz (fun a c=>aJ q FI) (mo q (mz (fun a c=>cA q) (mz (fun a c=>aJ q FJ) (mo q (mz (fun a c=>cA q) (mz (fun a c=>aJ q yV) (mo q (mz (fun a c=>cA q) ?_)))))))))))));refine mz (fun a c=>aJ q yW) (mo q (mz (fun a c=>cA q) (mz (fun a c=>aJ q yX) (mo q (mz (fun a c=>cA q) (mz (fun a c=>aJ q aa5) (mo q (mz (fun a c=>cA q) (mz (fun a c=>aJ q aa6) (mo q (mz (fun a c=>cA q) (mz (fun a c=>aJ q aa7) (mo q ?_)))))))))))));refine mz (fun a c=>cA q) (mz (fun a c=>aJ q aa8) ?_);refine mo q (mz (fun a c=>cA q) (mz (fun a c=>aJ q aa9) (mo q (mz (fun a c=>cA q) (mz (fun a c=>aJ q aaA) (mo q (mz (fun a c=>cA q) (mz (fun a c=>aJ q aaB) (mo q (mz (fun a c=>cA q) (mz (fun a c=>aJ q aaC) (mo q (mz (fun a c=>cA q) ?_)))))))))))));refine mz (fun a c=>aJ q aaD) (mo q (mz (fun a c=>cA q) (mz (fun a c=>aJ q aaE) (mo q (mz (fun a c=>cA q) (mz (fun a c=>aJ q aaF) (mo q (mz (fun a c=>cA q) (mz (fun a c=>aJ q aaG) (mo q (mz (fun a c=>cA q) (mz (fun a c=>aJ q aaH) (mo q ?_)))))))))))));refine mz (fun a c=>cA q) (mz (fun a c=>aJ q aaI) (mo q (mz (fun a c=>cA q) (mz (fun a c=>aJ q aaJ) (dD (qQ akc aiN Xy q q q (by simp[pD,Value.oneCell']) Xy ?_))))));intro x G d H D e;refine ar q ?_;exact gX trivial q q ⟨x,q,lv C.size d,C.k D,(show bC G x (ptrs b 67 1 21) 229 from e)⟩
theorem uI {w:World} {Q:Nat->Prop} {c:Nat} {v0:Value} {l:Ly} (f:bC w c [v0] 27) (e:Ls eC w Q v0 l) (a:Nat) (g:a+4<=l.length) :
  Calls Zp 138 #[.int .i64 (a:Int),.pointer (some ⟨c,0,none⟩)] w fun d h=>d = .returned (.int .u32 ((at4 l a:Nat):Int))/\Md [] w h:=by
 have o:=e.dB;refine enter (n:=14) Tryz.func138 q q q fun i=>ns (an q (ns (st _ (aG q fJ f q) (mv q (ax qX q (pu (Q:=fun _=>True) (fun _ _=>trivial) (e.sub fun _ _ _=>trivial) (a:Int) Xx 4 Xx) ?_)))));rintro d H ⟨m,G,rfl,D,j,b⟩;refine rv ?_;have C:lO l a 4=(at4 l a,true):=AO (k:=4) (.inl q) g;rw[C]at b;obtain⟨rfl,rfl⟩:=Prod.mk.inj b;refine mv q (se q q (se q q (ck q (an q (nm q (st _ (dJ (a:=at4 l a) 4294967296 q (by rw[nk];rfl) GQ q (BX _ _)) (ar q ?_)))))));exact gX trivial q q ⟨q,D⟩
theorem UH (a3:Up w Q) {v0:Value} {b:Ly} (Z:Ls eC w Q v0 b) (ag:272<=b.length) :
  Calls Zp 103 #[v0] w fun I B=>∃Y:bF,I = .returned (.agg (bF.cells Y).toArray)/\Md [] w B/\bF.ok Y/\gP b=Y:=by
 have aR:=Z.dB;obtain⟨N,f,d⟩:∃N:Nat->Prop,(∀x,w.heap.size<=x->¬N x)/\Ls eC w N v0 b:=⟨fun x=>x<w.heap.size,fun x h k=>by omega,Z.sub fun x _ h=>h⟩;have e:=Md.refl [] w;refine enter (n:=73) Tryz.func103 q q q fun ab=>ns (dS q (dK d.bB) ?_);intro F a4 aU aZ C s;obtain⟨d,e⟩:=k2 C d e;refine bI sO ?_;intro K ar t a0 C A;have d:=d.o C;obtain⟨U,ao,A⟩:∃U,(bF.cells (jQ b 0 0 0 0)).length=U.length/\bC ar K U 129:=⟨_,q,A⟩;have aE:F≠K:=(by have:=s.lt;omega);have s:=s.o C;have t:=lv e.size t;have e:=e.k C;refine nt (ns (st _ (aG q fJ s q) (st _ (bf (i:=16) 1 q q fW oK d.di Xx) ?_)));obtain⟨x,af⟩:=dY (l:=b) (i:=16) Xx;obtain⟨aT,ah,R⟩:=d.get af;obtain⟨rfl,_⟩:=ah;have ex:b.getD 16 0=x:=(by simp[List.getD,af]);have a2:=UInt8.toNat_lt x;have R:At _ v0 (16*1) [(b8 x)]:=R;refine st _ ((bP (kk:=16*1) 0 q q yZ R q).to (b:=(b8 x)) q) ?_;refine st _ (dJ (a:=x.toNat) 9223372036854775808 q (by rw[u5];rfl) u3 q Xx) (st (.agg (bF.cells (jQ b 0 0 0 0)).toArray) (by rw[show bF.cells (jQ b 0 0 0 0)=bF.cells {jQ b 0 0 0 0 with state:=x.toNat} by rw[<- ex];rfl];exact jD (cs:=bF.cells {jQ b 0 0 0 0 with state:=x.toNat}) (ps:=[(2,2)]) sO sI q q (by simp[pD,Value.oneCell']) q q q) (bI sO ?_));intro E a5 P a1 C D;have d:=d.o C;have L:F≠E:=(by have:=s.lt;omega);have J:K≠E:=(by have:=A.lt;omega);obtain⟨s,A⟩:=k2 C s A;have P:=lv e.size P;have e:=e.k C;refine eY q q (by exact fu) (fun u aa=>aV bF.one u aa) D q ?_;intro a6 C D;have M:∀x∈[E],¬N x:=(by intro y r;simp at r;subst r;exact f _ P);have aF:∀x∈[K],¬N x:=(by intro y r;simp at r;subst r;exact f _ t);have d:=d.md C M;have s:=s.uO C L;have A:=A.uO C J;have e:=e.dX C P;refine nt (aD ?_);refine aH (st _ (vV q) (an q (nm q (lX (cs:=[.pointer (some ⟨F,0,none⟩)]) q XQ q (uI s d 8 Xx) ?_))));rintro I a7 ⟨rfl,C⟩;refine rv ?_;obtain⟨d,s,A,D,e⟩:=k5 C d s A D e;refine mv q (lX (cs:=[.pointer (some ⟨F,0,none⟩)]) q XQ q (uI s d 12 Xx) ?_);rintro I a8 ⟨rfl,C⟩;refine rv ?_;obtain⟨d,s,A,D,e⟩:=k5 C d s A D e;refine sf q aeg (bn q q iE q D (by(show _<91;decide)) ?_);intro a9 C D;have d:=d.md C M;have s:=s.uO C L;have A:=A.uO C J;have e:=e.dX C P;refine sf q FH (bn q q iE q D (by(show _<91;decide)) ?_);intro au C D;have d:=d.md C M;have s:=s.uO C L;have A:=A.uO C J;have e:=e.dX C P;have D:bC au E (bF.cells (jQ b (at4 b 8) (at4 b 12) 0 0)) 129:=D;refine nt (ns (an q (aD (ns (ax akD q (adm (b:=E)) ?_)))));rintro I ba ⟨S,rfl,ad,C,G⟩;refine rv ?_;have ai:S≠E:=(by have:=D.lt;omega);obtain⟨d,s,A,D⟩:=k4 C d s A D;have ad:=lv e.size ad;have e:=e.k C;have g:OE (.slice (some ⟨S,0,none⟩) 4 4) 4:=⟨_,_,q,Nat.le_refl _,by simp[maxLen],by simp⟩;refine sL q akb g (mv q (nt (aS ?_)));refine vq (fun(k:Nat) (a:Nat)=>[(24,(.int .i64 k)),(5,(.int .i64 a)),(1,.pointer (some ⟨F,0,none⟩)),(2,.pointer (some ⟨K,0,none⟩)),(3,.pointer (some ⟨E,0,none⟩)),(4,.func (.func 138) #[] #[.pointer (some ⟨F,0,none⟩)]),(22,.slice (some ⟨S,0,none⟩) 4 4),(23,.int .i64 ((4:Nat):Int))])
  (fun(k:Nat) (a:Nat) B=>Md [] w B/\Ls eC B N v0 b/\bC B F [v0] 27/\bC B K U 129/\bC B E (bF.cells (jQ b (at4 b 8) (at4 b 12) k 0)) 129/\bC B S (ptrs E 3 16 4) 226/\k<=4/\a=24+16*k) (fun(k:Nat) (a:Nat)=>4-k) (x0:=0) (x1:=24) ?_ ?_ ?_
 ·exact⟨q,q,q,q,q,q,q,q,tV⟩
 ·exact⟨e,d,s,A,D,G,by omega,q⟩
 clear e d s A D G;rintro k a ab aI ⟨e,d,s,A,D,G,hk,p⟩;refine ns (st _ (dN (a:=k) (b:=4) q q) (nt (aD ?_)));refine bJ q (fun V=>?_) (fun V=>?_)
 ·have am:=dT V;refine aL (aj (aD (aS (ns (st _ ((bf (i:=k) 1 q q akb aks g Xx).to (b:=.pointer (some ⟨S,k,none⟩)) (by simp[mO,Addr.kH])) (st _ (aG (b:=S) (j:=k) (u:=.pointer (some ⟨E,3+k*16,none⟩)) q aj1 G (S2 Xx)) (an q ?_)))))));have v:=d.di;refine CF [(0,true),(1,true),(2,true),(3,true),(4,true),(5,true),(6,true),(7,false),(8,true),(9,true)] (fun B=>bC B F [v0] 27) mixed Xw ?_;intro aJ C;obtain⟨d,s,A,D,G,e⟩:=k6 C d s A D G e;refine⟨s,?_⟩;refine mo q (mo q (mz (fun B O=>cA q) (mz (fun B O=>gh u48 oK q Xy) (mz (fun B O=>aG q fJ O q) (mo q (Go.Wk.m (oJ v0 a b.length) (fun B O=>by exact mh a b.length fW oK q v Xx Xx ⟨_,q⟩ q) ?_))))));refine mL ?_ rfl;have ae:=d.by.tail a Xx;refine BI fW oK q q D ae (za _) (by have:(bF.cells (jQ b (at4 b 8) (at4 b 12) k 0)).length=91:=rfl;simp;omega) ?_;intro aK C D;rw[<- List.map_take,p,adw Xx ag]at D;have d:=d.md C M;have s:=s.uO C L;have A:=A.uO C J;have G:=G.uO C ai;have e:=e.dX C P;refine aA ⟨q,s,?_⟩;have aC:min ((b.drop a).map b8).length 16=16:=Ym;refine mz (fun B O=>iF (a:=a) (b:=min ((b.drop a).map b8).length 16) 9223372036854775808 q q q Xx) (mz (fun B O=>eX q) (dD (bE (aj (aH (st _ (rA (a:=k) (b:=1) q q Xx) (mv q (nt ?_))))))));exact tC (x0:=k+1) (x1:=a+min ((b.drop a).map b8).length 16) Xx ⟨q,q,q,q,q,q,q,q,tV⟩ ⟨e,d,s,A,D,G,by omega,by omega⟩
 have am:=dF V;obtain rfl:k=4:=by omega
 subst p;refine bW (aY (aY (cO (aj (aD (ns (ax akE q (ZX (b:=E)) ?_)))))));rintro I aM ⟨c,rfl,aW,C,H⟩;refine rv ?_;have ak:c≠E:=(by have:=D.lt;omega);obtain⟨d,s,A,D,e⟩:=k5 C d s A D e;have o:OE (.slice (some ⟨c,0,none⟩) 21 21) 21:=⟨_,_,q,Nat.le_refl _,by simp[maxLen],by simp⟩;refine sL q akc o (mv q (nt (aS ?_)));refine vq (fun(j:Nat) (a:Nat)=>[(40,(.int .i64 j)),(5,(.int .i64 a)),(1,.pointer (some ⟨F,0,none⟩)),(2,.pointer (some ⟨K,0,none⟩)),(3,.pointer (some ⟨E,0,none⟩)),(4,.func (.func 138) #[] #[.pointer (some ⟨F,0,none⟩)]),(38,.slice (some ⟨c,0,none⟩) 21 21),(39,.int .i64 ((21:Nat):Int))])
  (fun(j:Nat) (a:Nat) B=>Md [] w B/\Ls eC B N v0 b/\bC B F [v0] 27/\bC B K U 129/\bC B E (bF.cells (jQ b (at4 b 8) (at4 b 12) 4 j)) 129/\bC B c (ptrs E 67 1 21) 229/\j<=21/\a=88+8*j) (fun(j:Nat) (a:Nat)=>21-j) (x0:=0) (x1:=24+16*4) ?_ ?_ ?_
 ·exact⟨q,q,q,q,q,q,q,q,tV⟩
 ·exact⟨e,d,s,A,D,H,by omega,q⟩
 clear e d s A D H;rintro j a ab aN ⟨e,d,s,A,D,H,aX,p⟩;refine ns (st _ (dN (a:=j) (b:=21) q q) (nt (aD ?_)));refine bJ q (fun W=>?_) (fun W=>?_)
 ·have T:=dT W;refine aL (aj (aD (aS (ns (st _ ((bf (i:=j) 1 q q akc akt o Xx).to (b:=.pointer (some ⟨c,j,none⟩)) (by simp[mO,Addr.kH])) (st _ (aG (b:=c) (j:=j) (u:=.pointer (some ⟨E,67+j*1,none⟩)) q aj2 H (S2 Xx)) (an q (nm q (st _ (aG q fJ s q) (mv q (ax qX q (pu (Q:=fun _=>True) (fun _ _=>trivial) (d.sub fun _ _ _=>trivial) (a:Int) Xx 8 Xx) ?_)))))))))));rintro I aO ⟨Y,aq,rfl,C,ap,X⟩;refine rv ?_;have z:lO b a 8=(dW b a,true):=AO (k:=8) (.inr q) Xx;rw[z]at X;obtain⟨rfl,rfl⟩:=Prod.mk.inj X;obtain⟨d,s,A,D,H,e⟩:=k6 C d s A D H e;refine mv q (st (.int .u64 ((dW b a:Nat):Int)) (jJ q q) (se q q (sn q (bn (b:=E) (j:=67+j*1) q q bh q D (by have:(bF.cells (jQ b (at4 b 8) (at4 b 12) 4 j)).length=91:=rfl;omega) ?_))));intro aP C D;rw[Nat.mul_one,p,aau T]at D;have d:=d.md C M;have s:=s.uO C L;have A:=A.uO C J;have H:=H.uO C ak;have e:=e.dX C P;refine nt (aH (mv q (st _ (rA (a:=a) (b:=8) q q Xx) (ck q (aA (bE (aj (aH (st _ (rA (a:=j) (b:=1) q q Xx) (mv q (nt ?_)))))))))));exact tC (x0:=j+1) (x1:=a+8) Xx ⟨q,q,q,q,q,q,q,q,tV⟩ ⟨e,d,s,A,D,H,by omega,by omega⟩
 have T:=dF W;obtain rfl:j=21:=by omega
 subst p;refine bW (aY (aY (cO (aj (ns (m2 q q (lX (cs:=[.pointer (some ⟨F,0,none⟩)]) q XQ q (uI s d 256 Xx) ?_)))))));rintro I aQ ⟨rfl,C⟩;refine rv ?_;obtain⟨d,s,A,D,e⟩:=k5 C d s A D e;refine m2 q q (st _ (rA (a:=256) (b:=4) q q Xx) (lX (cs:=[.pointer (some ⟨F,0,none⟩)]) q XQ q (uI s d 260 Xx) ?_));rintro I av ⟨rfl,C⟩;refine rv ?_;obtain⟨d,s,A,D,e⟩:=k5 C d s A D e;refine sf q aaK (bn q q iE q D (by(show _<91;decide)) ?_);intro aw C D;have d:=d.md C M;have s:=s.uO C L;have A:=A.uO C J;have e:=e.dX C P;refine sf q aaL (bn q q iE q D (by(show _<91;decide)) ?_);intro ay C D;have d:=d.md C M;have s:=s.uO C L;have A:=A.uO C J;have e:=e.dX C P;refine nt (ns (st _ (aG q fJ s q) (mv q (st _ (rA (a:=256) (b:=8) q q Xx) (ax qX q (pu (Q:=fun _=>True) (fun _ _=>trivial) (d.sub fun _ _ _=>trivial) ((264:Nat):Int) Xx 8 Xx) ?_)))));rintro I az ⟨Y,aq,rfl,C,ap,X⟩;refine rv ?_;have z:lO b ((264:Nat):Int) 8=(dW b 264,true):=AO (k:=8) (.inr q) Xx;rw[z]at X;obtain⟨rfl,rfl⟩:=Prod.mk.inj X;obtain⟨A,D,e⟩:=k3 C A D e;refine mv q (st (.int .u64 ((dW b 264:Nat):Int)) (jJ q q) (se q q (sf q aaM (bn q q bh q D (by(show _<91;decide)) ?_))));intro al C D;have A:=A.uO C J;have e:=e.dX C P;have D:bC al E (bF.cells (gP b)) 129:=D;refine nt (ns (st _ (nM q (by exact fu) D) (eY q q (by exact fu) (fun u aa=>aV bF.one u aa) A ao ?_)));intro aB C A;have e:=e.dX C t;refine nt (iM ?_);exact alX trivial q q (by exact fu) A ⟨_,q,e,S1 ag,q⟩
theorem aid:cu Zp 135=true:=Xw
theorem DN (g:Up w Q) {v0:Value} {a:Ly} (c:Ls eC w Q v0 a) {v1:Value} {b:Ly} (h1:Ls eC w Q v1 b) :
  Calls Zp 135 #[v0,v1] w fun f h=>∃d:Bool,f = .returned (.bool d)/\Md [] w h/\decide (a=b)=d:=by
 have C:=c.dB;have D:=h1.dB;have e:=Md.refl [] w;have i:=g;refine enter (n:=10) Tryz.func135 q q q fun j=>ns (an q (nm q (st _ (ou (s:=a) fW u5 u9 q c.by) (mv q (st _ (ou (s:=b) fW u5 u9 q h1.by) (st _ (pO (a:=a) (b:=b) q q) (ar q ?_)))))));exact bR (v:=(.bool ((decide (a=b))))) trivial q ⟨q,tV⟩ ⟨(decide (a=b)),q,e,(by simp(disch:=first|omega|assumption|simp) only [SS,reduceIte])⟩
theorem aac (h:Up w Q) {v0:Value} {b:Ly} (e:Ls eC w Q v0 b) {v1:Value} {p:Ly} (h1:Ls eC w Q v1 p) :
  Calls Zp 102 #[v0,v1] w fun f l=>∃g:Bool,f = .returned (.bool g)/\Md [] w l/\vt b p=g:=by
 have o:=e.dB;have r:=h1.dB;have d:=Md.refl [] w;have H:=h;refine enter (n:=18) Tryz.func102 q q q fun m=>ns (an q (nm q (sL q fW e.di (mv q (sL q fW h1.di (st _ (KE (a:=b.length) (b:=p.length) q q) (mv q ?_)))))));refine bX (t:=10) q (fun c=>?_) (fun c=>?_)
 ·have C:=dT c;refine sg c (aM q) (sg c (aM q) (sg c (j9 q fW h1.di) (sg c (fP 1 0 p.length fW oK q e.di Xx Xx q ⟨_,q⟩) ?_)));have j:=e.head (hi:=p.length) Xx;refine sg c (aM q) (fM q q q c aid q (DN h j h1) ?_);rintro f s ⟨D,rfl,G,i⟩;refine rv ?_;have d:=d.k G;refine st _ (bg q c q) (ar q ?_);exact bR (v:=(.bool D)) trivial q ⟨q,tV⟩ ⟨D,q,d,(by rw[vt]<;>simp(disch:=first|omega|assumption|simp) only [SS,reduceIte,C,i])⟩
 have C:=dF c;refine sk c (sk c (sk c (sk c (sk c (sk c (st _ (aZ q c q) (ar q ?_)))))));exact bR (v:=(.bool false)) trivial q ⟨q,tV⟩ ⟨false,q,d,(by rw[vt]<;>simp(disch:=first|omega|assumption|simp) only [SS,reduceIte,C])⟩
theorem PX (j:Up w Q) (h:bF) (g:bF.ok h) :
  Calls Zp 60 #[.agg (bF.cells h).toArray] w fun l m=>∃f:Nat,∃i:Bool,l = .returned (.tuple #[(.int .u64 f),(.bool i)])/\Md [] w m/\f<18446744073709551616/\yo h=(f,i):=by
 have c:=Md.refl [] w;have s:=j;refine enter (n:=15) Tryz.func60 q q q fun o=>ns (dS (cs:=(bF.cells h)) q q ?_);intro G x C r H e;have p:=j _ C;have C:=lv c.size C;have c:=c.k H;refine ck q (an q (ns (sf q oc (sl (u:=(.int .u64 ((h.n.getD 0 0:Nat):Int))) q bh e q ?_))));have t:h.n.getD 0 0<18446744073709551616:=(gq g.2.2.2.2.2.2.2.1 0);refine sf q FI (sl (u:=(.int .u64 ((h.n.getD 1 0:Nat):Int))) q bh e q ?_);have v:h.n.getD 1 0<18446744073709551616:=(gq g.2.2.2.2.2.2.2.1 1);refine st _ (tP (a:=(h.n.getD 0 0)) (b:=(h.n.getD 1 0)) 18446744073709551616 q q q q) (an q (aD (nm q (sf q oc (sl (u:=(.int .u64 ((h.n.getD 0 0:Nat):Int))) q bh e q (st _ (dN (a:=(((h.n.getD 0 0)+(h.n.getD 1 0))%18446744073709551616)) (b:=(h.n.getD 0 0)) q q) (nt ?_)))))));refine bJ q (fun D=>?_) (fun D=>?_)
 ·have d:=dT D;refine ns (ck q (ar q (aI ?_)));exact d8 (vs:=[(.int .u64 ((0:Nat):Int)),(.bool false)]) trivial q ⟨q,q,tV⟩ q ⟨0,false,q,c,Xx,(by rw[yo]<;>simp(disch:=first|omega|assumption|simp) only [SS,reduceIte,d])⟩
 have d:=dF D;refine aL (aj (nm q (ck q (ar q ?_))));exact d8 (vs:=[(.int .u64 ((((h.n.getD 0 0)+(h.n.getD 1 0))%18446744073709551616:Nat):Int)),(.bool true)]) trivial q ⟨q,q,tV⟩ q ⟨((h.n.getD 0 0)+(h.n.getD 1 0))%18446744073709551616,true,q,c,Xx,(by rw[yo]<;>simp(disch:=first|omega|assumption|simp) only [SS,reduceIte,d])⟩
theorem DO (y:Up w Q) (h:bF) (z:bF.ok h) (p:Nat) (L:p<18446744073709551616) (size:Nat) (M:size<18446744073709551616) (e:Nat) (N:e<18446744073709551616) :
  Calls Zp 104 #[.agg (bF.cells h).toArray,(.int .u64 p),(.int .u64 size),(.int .u64 e)] w fun A B=>∃x:Nat,A = .returned (.int .i64 x)/\Md [] w B/\x<9223372036854775808/\jX h p size e=x:=by
 have f:=Md.refl [] w;have I:=y;refine enter (n:=45) Tryz.func104 q q q fun E=>ns (dS (cs:=(bF.cells h)) q q ?_);intro F K o W V R;have T:=y _ o;have o:=lv f.size o;have f:=f.k V;refine an q (aD (aS (nm q (st _ (pP (a:=p) (b:=8) q q Xx) (st _ (eU (a:=(p%8)) (b:=0) q q) (ck q (nt ?_)))))));refine bJ q (fun s=>?_) (fun s=>?_)
 ·have g:=dT s;refine ns (ar q (aU (aI ?_)));exact bR (v:=(.int .i64 ((3:Nat):Int))) trivial q ⟨q,tV⟩ ⟨3,q,f,Xx,(by rw[jX]<;>simp(disch:=first|omega|assumption|simp) only [SS,reduceIte,g])⟩
 have g:=dF s;refine nm q (st _ (iQ (a:=size) (b:=0) q q) (mv q ?_));refine bX (t:=16) q (fun d=>?_) (fun d=>?_)
 ·have D:=dT d;refine sk d (sk d (sk d (st _ (bg q d q) (an q (gK q q (ns (ar q (aU (aI ?_)))))))));exact bR (v:=(.int .i64 ((5:Nat):Int))) trivial q ⟨q,tV⟩ ⟨5,q,f,Xx,(by rw[jX]<;>simp(disch:=first|omega|assumption|simp) only [SS,reduceIte,g,D])⟩
 have D:=dF d;refine sg d (aM q) (sg d (pP (a:=size) (b:=16) q q Xx) (sg d (eU (a:=(size%16)) (b:=0) q q) (st _ (aZ q d q) (an q ?_))));refine bJ q (fun r=>?_) (fun r=>?_)
 ·have i:=dT r;refine ns (ar q (aU (aI ?_)));exact bR (v:=(.int .i64 ((5:Nat):Int))) trivial q ⟨q,tV⟩ ⟨5,q,f,Xx,(by rw[jX]<;>simp(disch:=first|omega|assumption|simp) only [SS,reduceIte,g,D,i])⟩
 have i:=dF r;refine nm q (sf q oc (sl (u:=(.int .u64 ((h.n.getD 0 0:Nat):Int))) q bh R q ?_));have J:h.n.getD 0 0<18446744073709551616:=(gq z.2.2.2.2.2.2.2.1 0);refine st _ (dN (a:=p) (b:=(h.n.getD 0 0)) q q) (mv q ?_);refine bX (t:=26) q (fun c=>?_) (fun c=>?_)
 ·have H:=dT c;refine sk c (sk c (sk c (sk c (sk c (st _ (bg q c q) (mv q (sk q (sk q (sk q (st _ (bg q q q) (mv q (sk q (sk q ?_)))))))))))));refine sk q (sk q (sk q (st _ (bg q q q) (an q (gK q q (ns (ar q (aU (aI ?_)))))))));exact bR (v:=(.int .i64 ((2:Nat):Int))) trivial q ⟨q,tV⟩ ⟨2,q,f,Xx,(by rw[jX]<;>simp(disch:=first|omega|assumption|simp) only [SS,reduceIte,g,D,i,H])⟩
 have H:=dF c;refine sg c (aM q) (sg c (aJ q oc) (sg c ((aG q bh R q).to (b:=(.int .u64 ((h.n.getD 0 0:Nat):Int))) q) (sg c (qP (a:=p) (b:=(h.n.getD 0 0)) 18446744073709551616 q q q Xx) (sg c (dN (a:=(p-(h.n.getD 0 0))) (b:=16) q q) (st _ (aZ q c q) (mv q ?_))))));refine bX (t:=33) q (fun G=>?_) (fun G=>?_)
 ·have j:=dT G;refine sk G (sk G (sk G (st _ (bg q G q) (mv q (sk q (sk q (sk q (sk q (sk q (st _ (bg q q q) (an q (gK q q ?_))))))))))));refine ns (ar q (aU (aI ?_)));exact bR (v:=(.int .i64 ((2:Nat):Int))) trivial q ⟨q,tV⟩ ⟨2,q,f,Xx,(by rw[jX]<;>simp(disch:=first|omega|assumption|simp) only [SS,reduceIte,g,D,i,H,j])⟩
 have j:=dF G;refine sg G (aM q) (sg G (aM q) (sg G (kL (a:=p) (b:=e) q q) (st _ (aZ q G q) (mv q ?_))));refine bX (t:=38) q (fun C=>?_) (fun C=>?_)
 ·have l:=dT C;refine sk C (sk C (sk C (sk C (sk C (st _ (bg q C q) (an q (gK q q (ns (ar q (aU ?_))))))))));refine aI ?_;exact bR (v:=(.int .i64 ((2:Nat):Int))) trivial q ⟨q,tV⟩ ⟨2,q,f,Xx,(by rw[jX]<;>simp(disch:=first|omega|assumption|simp) only [SS,reduceIte,g,D,i,H,j,l])⟩
 have l:=dF C;refine sg C (aM q) (sg C (aM q) (sg C (aM q) (sg C (qP (a:=e) (b:=p) 18446744073709551616 q q q Xx) (sg C (kL (a:=size) (b:=(e-p)) q q) (st _ (aZ q C q) (an q ?_))))));refine bJ q (fun P=>?_) (fun P=>?_)
 ·have m:=dT P;refine ns (ar q (aU (aI ?_)));exact bR (v:=(.int .i64 ((2:Nat):Int))) trivial q ⟨q,tV⟩ ⟨2,q,f,Xx,(by rw[jX]<;>simp(disch:=first|omega|assumption|simp) only [SS,reduceIte,g,D,i,H,j,l,m])⟩
 have m:=dF P;refine aL (bE (aj (ns (ar q ?_))));exact bR (v:=(.int .i64 ((0:Nat):Int))) trivial q ⟨q,tV⟩ ⟨0,q,f,Xx,(by rw[jX]<;>simp(disch:=first|omega|assumption|simp) only [SS,reduceIte,g,D,i,H,j,l,m])⟩
end Go.Proofs.YtlleafgaeeneoaaGreat
