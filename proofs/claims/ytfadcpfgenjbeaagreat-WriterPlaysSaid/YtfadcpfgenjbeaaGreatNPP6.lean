/- Part 6 of the walk of a law. No statement is proved here. -/
import Derived.Test.YtfadcpfgenjbeaaGreatNPP5
import Derived.Test.YtfadcpfgenjbeaaGreatRows
set_option linter.unusedVariables false
set_option linter.unusedSimpArgs false
namespace Go.Wk
open Go Go.RowKit
structure vw (b:Ly) (l:List Ob) (k:aK) (ps:List Nat):Prop where
  cnt:k.aZ=ps.length
  word:d8 b (k.pos+56)=ps.length
  ent:d8 b (k.pos+40)=ps.getD 0 0
  chain:Chain b l (k.pos+48) k.aL (ps.drop 1)
theorem tY {b:Ly} {l:List Ob} {n:Nat} {k:aK} (h:s9 b l n k):Src l (k.pos+48):=by have:=ea<|64+k.bI.length;exact .inr ⟨_,h.ob,by simp,by simp only;omega,by simp only;omega⟩
theorem ny (l:List Ob):Src l 176:=.inl Xz
theorem vw.jU {b c:Ly} {l r:List Ob} {n:Nat} {k:aK} {ps:List Nat} {S:Nat->Prop} (h:vw b l k ps) (hs:s9 b l n k) (f:fF b 272 l b.length) (e:Eff S b c) (j:∀o∈l,o∈r)
    (h1:∀a,S a->a+8<=k.pos+40\/k.pos+64<=a) (h2:∀i x:Nat,k.aL[i]? = some x->∀a,S a->a+8<=x+16\/x+24+8*cB (i:Int)<=a):vw c r k ps:=by
  have g:=(f.mem hs.ob).le;have C:=ea<|64+k.bI.length;simp only at g;refine⟨h.cnt,(e.d8 Xx fun a d=>?_).trans h.word,(e.d8 Xx fun a d=>?_).trans h.ent,h.chain.jU f (tY hs) (Nat.le_refl _) e j (fun a d=>?_) h2⟩
  · have:=h1 a d;omega
  · have:=h1 a d;omega
  have:=h1 a d;omega
theorem Chain.KH {b f:Ly} {l c:List Ob} {src e:Nat} {d bg:List Nat} (h:Chain b l src d bg) (m:fF f 272 c e) (j:∀o∈l,o∈c) {i x a:Nat} (k:d[i]? = some x) (g:∀o∈c,o.kind=6->a+8<=o.pos\/o.pos+oe o.size<=a):a+8<=x+16\/x+24+8*cB (i:Int)<=a:=by have:=g _ (j _<|h.ob i x k) q;rw[gU]at this;simp only at this;omega
theorem vw.soft {b c:Ly} {l r:List Ob} {n:Nat} {k:aK} {ps:List Nat} (h:vw b l k ps) (hs:s9 b l n k) (j:fF b 272 l b.length) (d:fF c 272 r c.length) (m:Eff (oo r) b c) (e:∀o∈l,o∈r):vw c r k ps:=by
  have D:=ea<|64+k.bI.length;refine h.jU hs j m e (fun g a=>?_)<|fun i x C g a=>?_
  · have:=((a.at d).2.2 _<|e _ hs.ob).1 q
    simp only at this;omega
  exact h.chain.KH d e C fun o f hk=>((a.at d).2.2 o f).2 hk
theorem Z8 {b c:Ly} {l r:List Ob} {e bg:List Nat} (h:Chain b l 176 e bg) (j:fF b 272 l b.length) (d:fF c 272 r c.length) (k:Eff (oo r) b c) (f:∀o∈l,o∈r):Chain c r 176 e bg:=by
  refine h.jU j (ny l) (Nat.le_refl _) k f (fun g a=>?_)<|fun i x D g a=>?_
  · have:=(a.at d).1;omega
  exact h.KH d f D fun o C hk=>((a.at d).2.2 o C).2 hk
theorem vw.new {b:Ly} {l:List Ob} {k:aK} (h:zx b k.pos) (c:k.aZ=0) (a:k.aL=[]):vw b l k []:=by refine⟨c,h.cnt,h.ent,?_⟩;rw[a];exact⟨h.arr,by simp,by simp,by simp,by simp,Nat.le_refl _,Nat.le_refl _⟩
def aeI (k:aK) (av:List Nat) (a:Nat):Prop:=a=k.pos+40\/a=k.pos+56\/zy (k.pos+48) av a
structure aeJ (m m':Mk) (l l':List Ob) (i e:Nat) (k k':aK) (ps:List Nat):Prop where
  dY:fF m'.b 272 l' m'.b.length
  sub:∃t,l'=l ++ t/\∀o∈t,o.kind=6/\m.b.length<=o.pos
  dat:m'.ai=m.ai.set i k'
  pos:k'.pos=k.pos/\k'.bI=k.bI/\k'.bn=k.bn
  arr:k'.aL=k.aL\/k'.aL=k.aL ++ [m.b.length]
  more:vw m'.b l' k' (ps ++ [e])
  jU:Eff (aeI k k'.aL) m.b m'.b
  top:m'.b.length<=m.b.length+2100
  same:m'.c=m.c/\m'.aC=m.aC/\m'.main=m.main/\m'.depth=m.depth/\∀i,i≠6->i≠7->i≠18->m'.aT i=m.aT i
  cn:Cn m l->Cn m' l'
theorem VF {b:Ly} {l r:List Ob} {e n:Nat} {k:aK} (d:fF b 272 r e) (f:∀o∈l,o∈r) {c:Ly} (hs:s9 c l n k):∀o∈r,o.kind=6->k.pos+64<=o.pos\/o.pos+oe o.size<=k.pos:=fun o g a=>by
  have h:=ea<|64+k.bI.length
  rcases d.sep g (f _ hs.ob)with rfl|hh|hh
  · simp at a
  · exact .inr hh
  · simp only at hh;exact .inl Xx
theorem KN {b c:Ly} {l r:List Ob} {n:Nat} {k:aK} (hs:s9 c l n k) (f:∀o∈l,o∈r) (a:fF b 272 r b.length) {q:Nat} (v:Nat) (h:q=k.pos+40\/q=k.pos+56):fF (gq b q v) 272 r (gq b q v).length:=by have C:=ea<|64+k.bI.length;rw[dV];exact a.jU (Eff.put b q v) (Nat.le_refl _) fun o e g d=>by subst d;exact a.body (.inr ⟨_,f _ hs.ob,by simp only;omega,by simp only;omega⟩) e
theorem Zr {m:Mk} {l:List Ob} {i e n:Nat} {k:aK} {ps:List Nat} (f:fF m.b 272 l m.b.length) (hk:m.ai[i]? = some k) (hs:s9 m.b l n k) (hd:vw m.b l k ps) (hb:m.b.length<900000) (E:e<18446744073709551616) (A:k.aZ=0) :
    ∃I F,aeJ m (gO e i m) l I i e k F ps:=by
  have t:m.ai.getD i known0=k:=by simp[List.getD,hk]
  have V:=(f.mem hs.ob).le;have L:=ea<|64+k.bI.length;simp only at V;have J:=hd.cnt;unfold gO;simp only[t];rw[if_pos A];have u:ps=[]:=List.eq_nil_of_length_eq_zero Xx;subst u;have R:=KN hs (fun _ h=>h) f e (q:=k.pos+40)<|.inl rfl;have w:=KN hs (fun _ h=>h) R 1 (q:=k.pos+56)<|.inr rfl;have g:Eff (fun d=>d=k.pos+40\/d=k.pos+56) m.b (gq (gq m.b (k.pos+40) e) (k.pos+56) 1):=((Eff.put _ _ _).mono fun d a=>.inl a).trans<|(Eff.put _ _ _).mono fun d a=>.inr a;have K:(gq (gq m.b (k.pos+40) e) (k.pos+56) 1).length=m.b.length:=by rw[dV,dV]
  have D:((m.put (k.pos+40) e).put (k.pos+56) 1).b=gq (gq m.b (k.pos+40) e) (k.pos+56) 1:=rfl;have C:=ki m (k.pos+40) e;have z:=ki (m.put (k.pos+40) e) (k.pos+56) 1;generalize (m.put (k.pos+40) e).put (k.pos+56) 1=M at *;obtain⟨p,j,r,P,G,Q⟩:=z;rw[C.1]at p;rw[C.2.1]at j;rw[C.2.2.1]at r;rw[C.2.2.2.1]at P;rw[C.2.2.2.2.1]at G;rw[C.2.2.2.2.2]at Q;clear C;generalize hB:gq (gq m.b (k.pos+40) e) (k.pos+56) 1=B at *;subst D;have v:d8 M.b (k.pos+56)=1:=by rw[<- hB];exact iw (by rw[dV];omega) Xz
  have H:d8 M.b (k.pos+40)=e:=by rw[<- hB];exact(eU Xx).trans<|iw Xx E
  clear hB;refine⟨l,{k with aZ:=1},w,⟨[],(List.append_nil l).symm,by simp⟩,?_,⟨rfl,rfl,rfl⟩,.inl rfl,⟨rfl,v,H,?_⟩,g.mono fun d a=>a.elim .inl fun h=>.inr<|.inl h,?_,⟨p,r,P,Q,fun s _ _ _=>?_⟩,fun c=>c.same G⟩
  · show M.ai.set i _=_
    rw[j]
  · refine hd.chain.jU f (tY hs) (Nat.le_refl _) g (fun _ h=>h) (fun d a=>by omega)<|fun s x y d a=>?_
    exact hd.chain.KH f (fun _ h=>h) y fun o W T=>by have:=VF f (fun _ h=>h) hs o W T;omega
  · show M.b.length<=_
    omega
  show M.h.n.getD s 0=_;rw[G];rfl
theorem YZ {m:Mk} {l:List Ob} {i e n:Nat} {k:aK} {ps:List Nat} (w:fF m.b 272 l m.b.length) (hk:m.ai[i]? = some k) (hs:s9 m.b l n k) (hd:vw m.b l k ps) (hb:m.b.length<900000) (J:e<18446744073709551616) (N:ps.length<1000000) (u:¬k.aZ=0) :
    ∃g L,aeJ m (gO e i m) l g i e k L ps:=by
  have H:m.ai.getD i known0=k:=by simp[List.getD,hk]
  have P:=(w.mem hs.ob).le;have M:=ea<|64+k.bI.length;simp only at P;have j:=hd.cnt;unfold gO;simp only[H];rw[if_neg u];have F:k.aZ-1=(ps.drop 1).length:=by simp;omega
  rw[F];obtain⟨g,a⟩:=uD (x:=e) w hd.chain (tY hs) hb J;have I:=a.jU.len;have p:∀o∈l,o∈g:=by
    rcases a.sub with h|h
    · rw[h];exact fun _ h=>h
    · rw[h];exact fun o d=>List.mem_append_left _ d
  have R:=RJ m.b<|k.pos+40;generalize m.link k.aL (ps.drop 1).length (k.pos+48) e=r at *;obtain⟨s,t,f⟩:=r;simp only at a I ⊢;have B:=KN hs p a.dY (k.aZ+1) (q:=k.pos+56)<|.inr rfl;have v:Eff (fun s=>s=k.pos+56) f.b (gq f.b (k.pos+56)<|k.aZ+1):=Eff.put _ _ _;have Q:⟨k.pos,1,64+k.bI.length⟩∈g:=p _ hs.ob;have D:Src g (k.pos+48):=(tY hs).mono p;have z:=VF a.dY p hs;have G:d8 f.b (k.pos+40)=d8 m.b (k.pos+40):=a.jU.d8 Xx fun x C=>by
    rcases C with rfl|⟨A,c,K,S,T⟩
    · omega
    · have:=z _ (a.chain.ob A c K) rfl
      rw[gU]at this;simp only at this;omega
  refine⟨g,{k with aL:=s,aZ:=k.aZ+1},B,?_,?_,⟨rfl,rfl,rfl⟩,a.arr,⟨?_,?_,?_,?_⟩,?_,?_,⟨a.same.1,a.same.2.2.1,a.same.2.2.2.1,a.same.2.2.2.2.1,a.same.2.2.2.2.2⟩,fun c=>(a.cn c).same rfl⟩
  · rcases a.sub with h|h
    · exact⟨[],by simp[h],by simp⟩
    exact⟨_,h,by intro o d;simp at d;subst d;exact⟨rfl,Nat.le_refl _⟩⟩
  · show f.ai.set i _=_
    rw[a.same.2.1]
  · show k.aZ+1=_
    simp;omega
  · refine(iw Xx Xx).trans ?_
    simp;omega
  · show d8 (gq f.b (k.pos+56)<|k.aZ+1) (k.pos+40)=_
    rw[eU Xx,G,hd.ent];cases ps with
    | nil=>simp at j;exact absurd j u
    | cons y r=>rfl
  · have:(ps ++ [e]).drop 1=ps.drop 1 ++ [e]:=by
      cases ps with
      | nil=>simp at j;exact absurd j u
      | cons y r=>rfl
    rw[this];refine a.chain.jU a.dY D (Nat.le_refl _) v (fun _ h=>h) (fun x C=>by omega)<|fun A x C y V=>?_;exact a.chain.KH a.dY (fun _ h=>h) C fun o d E=>by have:=z o d E;omega
  · exact(a.jU.mono fun x C=>.inr<|.inr C).trans<|v.mono fun x C=>.inr<|.inl C
  show(gq f.b (k.pos+56)<|k.aZ+1).length<=_;rw[dV];exact a.top
theorem wM {m:Mk} {l:List Ob} {i e n:Nat} {k:aK} {ps:List Nat} (a:fF m.b 272 l m.b.length) (hk:m.ai[i]? = some k) (hs:s9 m.b l n k) (hd:vw m.b l k ps) (hb:m.b.length<900000) (c:e<18446744073709551616) (d:ps.length<1000000) :
    ∃g f,aeJ m (gO e i m) l g i e k f ps:=by
  by_cases h0:k.aZ=0
  · exact Zr a hk hs hd hb c h0
  exact YZ a hk hs hd hb c d h0
structure iK where
  pos:Nat
  ent:lu
  who:List Nat
structure aeG (b:Ly) (l:List Ob) (g:iK):Prop where
  ob:(⟨g.pos,3,64+16*g.ent.bg.length⟩:Ob)∈l
  seg:seg b g.pos (64+16*g.ent.bg.length)=bT g.ent
theorem aeG.jU {b c:Ly} {l r:List Ob} {g:iK} {S:Nat->Prop} (h:aeG b l g) (f:fF b 272 l b.length) (i:Eff S b c) (hs:∀a,S a->sD l a) (j:∀o∈l,o∈r):aeG c r g:=by have e:=(f.mem h.ob).le;have C:=ea<|64+16*g.ent.bg.length;refine⟨j _ h.ob,(i.seg _ _ (by simp only at e;omega) fun a d=>?_).trans h.seg⟩;have:=(hs a d _ h.ob).2.2.2 rfl;simp only at this;omega
structure akD (m:Mk):Prop where
  main:∀(i:Nat) (k:aK),m.ai[i]? = some k->∀a∈k.aL,a∉m.main
  one:∀(i j:Nat) (k k':aK) (a:Nat),m.ai[i]? = some k->m.ai[j]? = some k'->a∈k.aL->a∈k'.aL->i=j
structure om (m:Mk) (l:List Ob) (es:List iK) (mp:List Nat) (f:Nat->List Nat):Prop where
  fK:Stat m l
  main:Chain m.b l 176 m.main mp
  dat:∀(i:Nat) (k:aK),m.ai[i]? = some k->vw m.b l k (f i)
  own:akD m
  ent:∀g∈es,aeG m.b l g
  kin:(l.filter fun o=>decide (o.kind=3)).map Ob.pos=es.map iK.pos
theorem vJ {l t:List Ob} (h:∀o∈t,o.kind≠3):((l ++ t).filter fun o=>decide (o.kind=3))=l.filter fun o=>decide (o.kind=3):=by
  have e:(t.filter fun o=>decide (o.kind=3))=[]:=List.filter_eq_nil_iff.2 fun o A=>by simpa using h o A
  rw[List.filter_append,e,List.append_nil]
structure j7 (ds ds':List aK):Prop where
  len:ds'.length=ds.length
  get:∀(i:Nat) (k':aK),ds'[i]? = some k'->∃k,ds[i]? = some k/\k'.pos=k.pos/\k'.bI=k.bI
theorem j7.refl (ds:List aK):j7 ds ds:=⟨q,fun _ k h=>⟨k,h,q,q⟩⟩
theorem j7.set {ds:List aK} {i:Nat} {k b:aK} (h:ds[i]? = some k) (h1:b.pos=k.pos) (c:b.bI=k.bI):j7 ds (ds.set i b):=by
  refine⟨by simp,fun d y a=>?_⟩
  by_cases hj:i=d
  · subst hj
    rw[List.getElem?_set_self (List.getElem?_eq_some_iff.1 h).1]at a;cases a;exact⟨k,h,h1,c⟩
  rw[List.getElem?_set_ne hj]at a;exact⟨y,a,q,q⟩
theorem s9.congr {b:Ly} {l:List Ob} {n:Nat} {k a:aK} (h:s9 b l n k) (h1:a.pos=k.pos) (c:a.bI=k.bI):s9 b l n a:=by obtain⟨d,e,C⟩:=h;exact⟨by rw[h1,c];exact d,by rw[h1];exact e,by rw[h1,c];exact C⟩
theorem Stat.keep {m m':Mk} {l n:List Ob} {S:Nat->Prop} (h:Stat m l) (A:fF m'.b 272 n m'.b.length) (hl:∃t,n=l ++ t/\∀o∈t,o.kind≠1/\o.kind≠2) (w:Eff S m.b m'.b) (v:∀u,S u->sD l u) (f:m'.c=m.c) (hf:m'.aC=m.aC) (x:m'.aT 2=m.aT 2/\m'.aT 4=m.aT 4) (hd:j7 m.ai m'.ai) (B:Cn m' n):Stat m' n:=by
  obtain⟨t,rfl,P⟩:=hl;have g:∀o∈l,o∈l ++ t:=fun o a=>List.mem_append_left _ a;have s:∀t,bV m' t=bV m t:=fun t=>by unfold bV;rw[f]
  refine⟨A,by rw[f];exact g _ h.MH,by rw[f];exact g _ h.MI,x.1.trans h.n2,by rw[f];exact x.2.trans h.n4,by rw[f];exact h.slots,fun k hk=>?_,fun k hk=>?_,fun i y k e d Q R=>?_,fun o a C=>?_,fun o a C=>?_,B⟩
  · obtain⟨i,d⟩:=List.mem_iff_getElem?.1 hk
    obtain⟨j,p,C,D⟩:=hd.get i k d;rw[s,D];exact((h.data j<|List.mem_of_getElem? p).jU h.dY w v g).congr C D
  · rw[hf]at hk;rw[s]
    exact(h.fld k hk).jU h.dY w v g
  · obtain⟨j,p,C,D⟩:=hd.get i k d
    obtain⟨T,H,q,r⟩:=hd.get y e Q;exact h.one i y j T p H (by rw[<- C,<- q,<- D,<- r];exact R)
  · rcases List.mem_append.1 a with a|a
    · obtain⟨k,hk,D⟩:=h.all o a C
      obtain⟨i,d⟩:=List.mem_iff_getElem?.1 hk;have z:=(List.getElem?_eq_some_iff.1 d).1;obtain⟨e,G⟩:∃e,m'.ai[i]? = some e:=⟨_,List.getElem?_eq_getElem (by rw[hd.len];exact z)⟩;obtain⟨j,H,q,r⟩:=hd.get i e G;rw[d]at H;cases H;exact⟨e,List.mem_of_getElem? G,q.trans D⟩
    exact absurd C (P o a).1
  rcases List.mem_append.1 a with a|a
  · rw[hf];exact h.aaR o a C
  exact absurd C (P o a).2
theorem om.soft {m m':Mk} {l r:List Ob} {es:List iK} {z:List Nat} {f:Nat->List Nat} {i:Nat} {t:Ly} (h:om m l es z f) (d:BQ m m' l r i t) (hf:∀i,m.ai.length<=i->f i=[]):om m' r es z f:=by
  have H:=d.step.mem;have x:=d.step.dY;have v:=d.step.jU;have E:∀e,oo r e->sD l e:=fun e C=>(C.ZC x).mono H;have D:=d.step.same.2.1;have B:∀(c:Nat) (k:aK),m.ai[c]? = some k->vw m'.b r k (f c):=fun c k a=>(h.dat c k a).soft (h.fK.data k<|List.mem_of_getElem? a) h.fK.dY x v H;have n:∀(c:Nat) (k:aK),m'.ai[c]? = some k->m.ai[c]? = some k\/(m.ai.length<=c/\k.aZ=0/\k.aL=[]/\zx m'.b k.pos):=fun c k a=>by
    rcases d.new with j|⟨s,p,j,I,_⟩
    · rw[j]at a;exact .inl a
    · rw[j]at a
      rcases Nat.lt_or_ge c m.ai.length with F|F
      · rw[List.getElem?_append_left F]at a;exact .inl a
      · have A:=(List.getElem?_eq_some_iff.1 a).1
        simp at A;rw[List.getElem?_append_right F,show c-m.ai.length=0 by omega]at a;have:k={bI:=t,pos:=p,bn:=s,aZ:=0,aL:=[]}:=(by simpa using a.symm);subst this;exact .inr ⟨F,q,q,I⟩
  refine⟨d.fK,?_,fun c k a=>?_,⟨fun c k a e C=>?_,fun i c k y e w a C u=>?_⟩,fun g Q=>(h.ent g Q).jU h.fK.dY v E H,?_⟩
  · rw[D];exact Z8 h.main h.fK.dY x v H
  · rcases n c k a with a|⟨F,P,C,I⟩
    · exact B c k a
    rw[hf c F];exact vw.new I P C
  · rw[D]
    rcases n c k a with a|⟨_,_,G,_⟩
    · exact h.own.main c k a e C
    rw[G]at C;simp at C
  · rcases n i k w with w|⟨_,_,G,_⟩
    · rcases n c y a with a|⟨_,_,G,_⟩
      · exact h.own.one i c k y e w a C u
      rw[G]at u;simp at u
    rw[G]at C;simp at C
  obtain⟨K,j,J⟩:=d.step.sub;rw[j,vJ fun o R=>by have:=(J o R).1;omega];exact h.kin
theorem om.entry {m:Mk} {l:List Ob} {es:List iK} {v:List Nat} {f:Nat->List Nat} (h:om m l es v f) {E:lu} {who:List Nat} (hb:E.aR.length=16) (J:E.bg.length<=1000) :
    om (m.bJ<|bT E).2 (l ++ [⟨m.b.length,3,64+16*E.bg.length⟩]) (es ++ [⟨m.b.length,E,who⟩]) v f:=by
  have I:=iB E hb;have c:(m.bJ<|bT E).2.b=m.b ++ bT E:=rfl;have T:=dn m<|bT E;have C:∀i,i≠6->i≠7->(m.bJ<|bT E).2.aT i=m.aT i:=fun i V W=>by simp only[Mk.bJ];rw[cg Xx,cg Xx];rfl
  have w:=h.fK.cn.obj (bT E) (k:=3) (s:=64+16*E.bg.length) Xx;generalize (m.bJ<|bT E).2=m' at *;obtain⟨R,H,B,u⟩:=T;have P:oe (64+16*E.bg.length)=64+16*E.bg.length:=by unfold oe;omega
  have j:(bT E).length=64+16*E.bg.length:=by omega
  have G:Eff (fun _=>False) m.b m'.b:=by rw[c];exact Eff.app _ _ _
  have Q:∃r,bT E=SH 3 (64+16*E.bg.length) ++ r:=by unfold bT;rw[EV Xx];rw[show 16+(nums [E.seq,E.aY,E.mono] ++ E.aR ++ nums [E.xor] ++ nT E.bg).length=64+16*E.bg.length by simp[cP,HO,hb];omega];exact⟨_,List.append_assoc _ _ _⟩
  obtain⟨r,A⟩:=Q;have F:fF m'.b 272 (l ++ [⟨m.b.length,3,64+16*E.bg.length⟩]) m'.b.length:=by
    have:=(h.fK.dY.jU G (Nat.le_refl _)<|fun _ _ _ a=>a.elim).app (o:=⟨m.b.length,3,64+16*E.bg.length⟩) q Oj Oj Yx Yx ?_
    · simp only[P]at this;rw[c,List.length_append,j];rw[c]at this;exact this
    · have t:=me (x:=m.b) (y:=bT E) (p:=m.b.length) (n:=16)<|Nat.le_refl _
      rw[Nat.sub_self,abW A (kC _ _)]at t;rw[c];exact t
  have e:∀o∈l,o∈l ++ [(⟨m.b.length,3,64+16*E.bg.length⟩:Ob)]:=fun o z=>List.mem_append_left _ z;refine⟨h.fK.keep F ⟨_,q,by simp⟩ G (fun _ a=>a.elim) R B ⟨C 2 Xz Xz,C 4 Xz Xz⟩ (by rw[H];exact j7.refl _) w,?_,fun i k d=>?_,⟨by rw[H,u];exact h.own.main,by rw[H];exact h.own.one⟩,fun g D=>?_,?_⟩
  · rw[u];exact h.main.jU h.fK.dY (ny l) (Nat.le_refl _) G e (fun _ a=>a.elim)<|fun _ _ _ _ a=>a.elim
  · rw[H]at d
    exact(h.dat i k d).jU (h.fK.data k<|List.mem_of_getElem? d) h.fK.dY G e (fun _ a=>a.elim)<|fun _ _ _ _ a=>a.elim
  · rcases List.mem_append.1 D with D|D
    · exact(h.ent g D).jU h.fK.dY G (fun _ a=>a.elim) e
    simp at D;subst D;refine⟨by simp,?_⟩;simp only;rw[c,<- j];exact seg_new _ _
  rw[List.filter_append,List.map_append,h.kin];simp
theorem DY {b:Ly} {l:List Ob} {e src a:Nat} {d:List Nat} (f:fF b 272 l e) (h:zy src d a) (j:∀k c:Nat,d[k]? = some c->(⟨c,6,24+8*cB (k:Int)⟩:Ob)∈l) {o:Ob} (i:o∈l) (g:∀c∈d,c≠o.pos):a=src\/a+8<=o.pos\/o.pos+oe o.size<=a:=by
  rcases h with h|⟨k,c,B,C,D⟩
  · exact .inl h
  right
  rcases f.sep i (j k c B)with A|A|A
  · exact absurd (congrArg Ob.pos A).symm<|g c<|List.mem_of_getElem? B
  · simp only at A;omega
  rw[gU]at A;simp only at A;omega
theorem E1 {b:Ly} {l:List Ob} {e src a:Nat} {d:List Nat} (f:fF b 272 l e) (h:zy src d a) (g:∀k c:Nat,d[k]? = some c->(⟨c,6,24+8*cB (k:Int)⟩:Ob)∈l) (hs:sD l src):sD l a:=by
  rcases h with h|⟨k,c,A,B,C⟩
  · rw[h];exact hs
  exact AV f (g k c A) Yx (by rw[gU];simp only;omega) Oj Oj Oj
theorem wW {l:List Nat} {a:Nat} (h:a∈l):∃i:Nat,l[i]? = some a:=List.mem_iff_getElem?.1 h
theorem ait {m:Mk} {l a:List Ob} {n:Nat} (h:a=l\/a=l ++ [(⟨m.b.length,6,24+8*n⟩:Ob)]):∃t,a=l ++ t/\∀o∈t,o.kind=6/\m.b.length<=o.pos:=by
  rcases h with h|h
  · exact⟨[],by simp[h],by simp⟩
  exact⟨_,h,by intro o c;simp at c;subst c;exact⟨q,Nat.le_refl _⟩⟩
theorem om.link {m m':Mk} {l w:List Ob} {es:List iK} {I:List Nat} {f:Nat->List Nat} {x:Nat} {u:List Nat} {r:Mk} (h:om m l es I f) (L:Linked m r l w 176 m.main u I x)
    (hb:m'.b=r.b) (a:m'.c=r.c) (hd:m'.ai=r.ai) (hf:m'.aC=r.aC) (hm':m'.main=u) (hn:m'.aT 2=r.aT 2/\m'.aT 4=r.aT 4) (hcn:Cn r w->Cn m' w):om m' w es (I ++ [x]) f:=by
  obtain⟨X,Y,Z,n,p,T⟩:=L.same;obtain⟨t,E,M⟩:=ait L.sub;have s:=L.dY;have H:∀o∈l,o∈w:=fun o D=>by rw[E];exact List.mem_append_left _ D
  have F:=L.jU;have K:∀j,zy 176 u j->sD l j:=fun j C=>(E1 s C L.chain.ob<|ZD s Xz).mono H;have J:∀c∈u,c∈m.main\/c=m.b.length:=fun c a=>by
    rcases L.arr with v|v
    · rw[v]at a;exact .inl a
    · rw[v,List.mem_append,List.mem_singleton]at a;exact a
  have O:∀c∈u,∀o∈w,o.kind≠6->c≠o.pos:=fun c a o D hk v=>by
    obtain⟨i,e⟩:=wW a
    rcases s.sep D (L.chain.ob i c e)with G|G|G
    · subst G;exact hk q
    · have:=ea o.size;have:=(s.mem D).size.1;simp only at G;omega
    · rw[gU]at G;simp only at G;omega
  have B:m'.ai=m.ai:=hd.trans Y;refine⟨h.fK.keep (by rw[hb];exact s) ⟨t,E,fun o D=>by have:=(M o D).1;exact⟨by omega,by omega⟩⟩ (by rw[hb];exact F) K (a.trans X) (hf.trans Z) ⟨hn.1.trans<|T 2 Xz Xz Xz,hn.2.trans<|T 4 Xz Xz Xz⟩ (by rw[B];exact j7.refl _)<|hcn<|L.cn h.fK.cn,by rw[hb,hm'];exact L.chain,fun i k e=>?_,⟨fun i k e j C a=>?_,by rw[B];exact h.own.one⟩,fun g U=>by rw[hb];exact(h.ent g U).jU h.fK.dY F K H,by rw[E,vJ fun o D=>by have:=(M o D).1;omega];exact h.kin⟩
  · rw[B]at e
    have z:=h.fK.data k<|List.mem_of_getElem? e;have d:=ea<|64+k.bI.length;have V:272<=k.pos:=(h.fK.dY.mem z.ob).ge;rw[hb];refine(h.dat i k e).jU z h.fK.dY F H (fun j C=>?_)<|fun N y R j C=>?_
    · rcases DY s C L.chain.ob (H _ z.ob) (fun c a=>O c a _ (H _ z.ob) Oj)with A|A|A
      · omega
      · simp only at A;omega
      simp only at A;omega
    have Q:=(h.dat i k e).chain.ob N y R;have S:=(h.dat i k e).chain.le h.fK.dY R;have P:∀c∈u,c≠y:=fun c a v=>by
      subst v
      rcases J c a with A|A
      · exact h.own.main i k e c (List.mem_of_getElem? R) A
      · omega
    rcases DY s C L.chain.ob (H _ Q) P with A|A|A
    · omega
    · simp only at A;omega
    rw[gU]at A;simp only at A;omega
  rw[B]at e;rw[hm']at a
  rcases J j a with A|A
  · exact h.own.main i k e j C A
  obtain⟨N,W⟩:=wW C;have S:=(h.dat i k e).chain.le h.fK.dY W;omega
theorem qX {k:aK} {b:List Nat} {a:Nat} (h:aeI k b a):(k.pos+40<=a/\a+8<=k.pos+64)\/zy (k.pos+48) b a:=by
  rcases h with h|h|h
  · left;omega
  · left;omega
  exact .inr h
theorem om.hang {m m':Mk} {l L:List Ob} {es:List iK} {ag:List Nat} {f:Nat->List Nat} {i e:Nat} {k J:aK} (h:om m l es ag f) (hi:m.ai[i]? = some k) (H:aeJ m m' l L i e k J (f i)):om m' L es ag (fun j=>if j=i then f i ++ [e]else f j):=by
  obtain⟨an,ao,s4,s5,ah⟩:=H.same;obtain⟨t,aa,ae⟩:=H.sub;have E:=H.dY;have A:∀o∈l,o∈L:=fun o B=>by rw[aa];exact List.mem_append_left _ B
  have p:=H.jU;have T:=h.fK.data k<|List.mem_of_getElem? hi;have au:=ea<|64+k.bI.length;have ap:272<=k.pos:=(h.fK.dY.mem T.ob).ge;have v:j7 m.ai m'.ai:=by rw[H.dat];exact j7.set hi H.pos.1 H.pos.2.1
  have Z:=H.more.chain.ob;have N:∀c∈J.aL,c∈k.aL\/c=m.b.length:=fun c G=>by
    rcases H.arr with e|e
    · rw[e]at G;exact .inl G
    · rw[e,List.mem_append,List.mem_singleton]at G;exact G
  have Q:∀c∈J.aL,∀o∈L,o.kind≠6->c≠o.pos:=fun c G o B hk e=>by
    obtain⟨i,hi⟩:=wW G
    rcases E.sep B (Z i c hi)with C|C|C
    · subst C;exact hk rfl
    · have:=ea o.size;have:=(E.mem B).size.1;simp only at C;omega
    · rw[gU]at C;simp only at C;omega
  -- what is written stands X from another object's inside
  have X:∀o∈L,o.pos≠k.pos->(∀c∈J.aL,c≠o.pos)->∀s,aeI k J.aL s->s+8<=o.pos\/o.pos+oe o.size<=s:=fun o B x G s u=>by
    have aq:o.pos+oe o.size<=k.pos\/k.pos+oe (64+k.bI.length)<=o.pos:=by
      rcases E.sep B (A _ T.ob)with C|C|C
      · exact absurd (congrArg Ob.pos C) x
      · exact .inl C
      · exact .inr C
    rcases qX u with a|a
    · omega
    · rcases DY E a (by rw[<- H.pos.1]at *;exact Z) B G with d|d
      · omega
      · exact d
  have ab:∀s,aeI k J.aL s->sD l s:=fun s u=>by
    have af:∀q,k.pos+40<=q->q+8<=k.pos+64->sD L q:=fun q a d=>AV E (A _ T.ob) Yx Yx Oj Yx Oj
    rcases qX u with a|a
    · exact(af s a.1 a.2).mono A
    · exact(E1 E a Z<|af _ Xx Xx).mono A
  have M:∀(j:Nat) (y:aK),m'.ai[j]? = some y->(j=i/\y=J)\/(j≠i/\m.ai[j]? = some y):=fun j y D=>by
    rw[H.dat]at D
    by_cases I:i=j
    · subst I
      rw[List.getElem?_set_self (List.getElem?_eq_some_iff.1 hi).1]at D;exact .inl ⟨rfl,by simpa using D.symm⟩
    · rw[List.getElem?_set_ne I]at D
      exact .inr ⟨fun e=>I e.symm,D⟩
  have R:=h.fK.keep E ⟨t,aa,fun o B=>by have:=(ae o B).1;exact⟨by omega,by omega⟩⟩ p ab an ao ⟨ah 2 Xz Xz Xz,ah 4 Xz Xz Xz⟩ v<|H.cn h.fK.cn;refine⟨R,?_,fun j y D=>?_,⟨fun j y D s u G=>?_,fun j K y U s D F u P=>?_⟩,fun g ak=>(h.ent g ak).jU h.fK.dY p ab A,by rw[aa,vJ fun o B=>by have:=(ae o B).1;omega];exact h.kin⟩
  · rw[s4]
    refine h.main.jU h.fK.dY (ny l) (Nat.le_refl _) p A (fun s u=>?_)<|fun j y Y s u=>?_
    · rcases qX u with a|a|⟨j,c,a,d,h3⟩
      · omega
      · omega
      have:=H.more.chain.le E a;omega
    have O:=h.main.ob j y Y;have w:=h.main.le h.fK.dY Y;have:=X _ (A _ O) (fun e=>by
      have:=h.fK.dY.sep O T.ob
      rcases this with C|C|C
      · cases C
      · rw[gU]at C;simp only at C e;omega
      · simp only at C e;omega) (fun c G e=>by
      simp only at e;subst e
      rcases N c G with a|a
      · exact h.own.main i k hi c a (List.mem_of_getElem? Y)
      · omega) s u
    rw[gU]at this;simp only at this;omega
  · rcases M j y D with⟨rfl,rfl⟩|⟨I,D⟩
    · rw[if_pos rfl];exact H.more
    rw[if_neg I];have r:=h.fK.data y<|List.mem_of_getElem? D;have ar:=ea<|64+y.bI.length;have aj:y.pos≠k.pos:=fun e=>I<|h.fK.one j i y k D hi<|.inl e;refine(h.dat j y D).jU r h.fK.dY p A (fun s u=>?_)<|fun n z S s u=>?_
    · have:=X _ (A _ r.ob) aj (fun c G=>Q c G _ (A _ r.ob) Oj) s u
      simp only at this;omega
    have O:=(h.dat j y D).chain.ob n z S;have w:=(h.dat j y D).chain.le h.fK.dY S;have:=X _ (A _ O) (fun e=>by
      have:=h.fK.dY.sep O T.ob
      rcases this with C|C|C
      · cases C
      · rw[gU]at C;simp only at C e;omega
      · simp only at C e;omega) (fun c G e=>by
      simp only at e;subst e
      rcases N c G with a|a
      · exact I (h.own.one j i y k c D hi (List.mem_of_getElem? S) a)
      · omega) s u
    rw[gU]at this;simp only at this;omega
  · rw[s4]at G
    rcases M j y D with⟨rfl,rfl⟩|⟨I,D⟩
    · rcases N s u with a|a
      · exact h.own.main j k hi s a G
      obtain⟨n,al⟩:=wW G;have:=h.main.le h.fK.dY al;omega
    exact h.own.main j y D s u G
  have ad:∀(n:Nat) (z:aK),m.ai[n]? = some z->m.b.length∉z.aL:=fun n z S W=>by obtain⟨q,am⟩:=wW W;have:=(h.dat n z S).chain.le h.fK.dY am;omega
  rcases M j y D with⟨rfl,rfl⟩|⟨I,D⟩
  · rcases M K U F with⟨rfl,rfl⟩|⟨V,F⟩
    · rfl
    rcases N s u with a|a
    · exact h.own.one j K k U s hi F a P
    subst a;exact absurd P<|ad K U F
  rcases M K U F with⟨rfl,rfl⟩|⟨V,F⟩
  · rcases N s P with a|a
    · exact h.own.one j K y k s D hi u a
    subst a;exact absurd u<|ad j y D
  exact h.own.one j K y U s D F u P
end Go.Wk
namespace Go.Wk
open Go
abbrev TU (p q:Pr):Prop:=Op.bytesLess (whole p.pb) (whole q.pb)=true
theorem BH (p:Pr):¬TU p p:=by unfold TU;rw[KL];simp
theorem yW {p q r:Pr} (h:TU p q) (k:TU q r):TU p r:=qn h k
theorem WX {p q:Pr} (a:right p.pb=true) (b:right q.pb=true) (h:¬TU p q) (k:¬TU q p):p=q :=
  t7.1<|JR a b<|CF (by simpa [TU]using h) (by simpa [TU]using k)
abbrev Asc (l:List Pr):Prop:=l.Pairwise TU
theorem UW:∀{l m:List Pr},Asc l->Asc m->(∀p,p∈l↔p∈m)->l=m
  | [],[],_,_,_=>rfl
  | [],b :: m,_,_,h=>by have:=(h b).2 Oj;simp at this
  | a :: l,[],_,_,h=>by have:=(h a).1 Oj;simp at this
  | a :: l,b :: m,hl,hm,h=>by
    obtain⟨e,g⟩:=List.pairwise_cons.1 hl;obtain⟨f,i⟩:=List.pairwise_cons.1 hm;have d:a=b:=by
      rcases List.mem_cons.1 ((h a).1 Oj)with d|A
      · exact d
      · rcases List.mem_cons.1 ((h b).2 Oj)with d|C
        · exact d.symm
        · exact absurd (yW (e b C)<|f a A)<|BH a
    subst d;congr 1;refine UW g i fun p=>⟨fun c=>?_,fun c=>?_⟩
    · rcases List.mem_cons.1 ((h p).1 (by simp[c]))with rfl|A
      · exact absurd (e p c)<|BH p
      · exact A
    · rcases List.mem_cons.1 ((h p).2 (by simp[c]))with rfl|A
      · exact absurd (f p c)<|BH p
      · exact A
def wN (p:Pr):List Pr->List Pr
  | []=>[p]
  | q :: r=>if Op.bytesLess (ay q) (ay p)=true then q :: wN p r else if q.pb=p.pb then q :: r else p :: q :: r
theorem JC (t:Ly) (o:List Pr) (k:Nat):kJ t o (k+1)=kJ t o k+1:=by
  induction o generalizing k with
  | nil=>rfl
  | cons q r ih=>unfold kJ;split <;> simp[ih]
theorem afL (t:Ly) (o:List Pr):kJ t o 0<=o.length:=by
  induction o with
  | nil=>simp[kJ]
  | cons q r ih=>unfold kJ;split <;> simp[JC,ih]
theorem JJ:∀(n j:Nat) (o:List Pr),(kO n j o).length=o.length
  | 0,_,_=>rfl
  | n+1,j,o=>by unfold kO;rw[JJ n];simp
theorem JI:∀(n j:Nat) (o:List Pr),n<=j->j<o.length->∀i,i<o.length->(kO n j o)[i]? = if j-n<i/\i<=j then o[i-1]? else o[i]?
  | 0,j,o,_,_,i,_=>by simp[kO];intro a b;omega
  | n+1,j,o,hn,hj,i,hi=>by
    unfold kO;have hd:o.getD (j-1) {name:=[],value:=[]}=o[j-1]:=(by simp[List.getD,show j-1<o.length by omega]);rw[JI n (j-1) _ Xx Xh i (by simpa using hi),hd]
    by_cases a:j-1-n<i/\i<=j-1
    · rw[if_pos a,if_pos Xx,List.getElem?_set_ne Xx]
    · rw[if_neg a]
      by_cases b:i=j
      · subst b
        rw[if_pos Xx,List.getElem?_set_self hj,List.getElem?_eq_getElem (show i-1<o.length by omega)]
      · rw[if_neg Xx,List.getElem?_set_ne Xx]
theorem aam (o:List Pr) (k:Nat) (p d:Pr) (hk:k<=o.length):(kO (o.length-k) o.length<|o ++ [d]).set k p=o.take k ++ p :: o.drop k:=by
  apply List.ext_getElem?;intro i;have A:(kO (o.length-k) o.length<|o ++ [d]).length=o.length+1:=by rw[JJ];simp
  by_cases hi:i<o.length+1
  · by_cases h1:i=k
    · subst h1
      rw[List.getElem?_set_self Xx,List.getElem?_append_right Xh];simp[Nat.min_eq_left hk]
    rw[List.getElem?_set_ne (Ne.symm h1),JI _ _ _ Xx Oj i Xh]
    by_cases h2:o.length-(o.length-k)<i/\i<=o.length
    · rw[if_pos h2,List.getElem?_append_left Xx,List.getElem?_append_right Xh]
      simp only[List.length_take,Nat.min_eq_left hk];obtain⟨m,rfl⟩:∃m,i=k+1+m:=⟨i-(k+1),by omega⟩;rw[show k+1+m-k=m+1 by omega,List.getElem?_cons_succ,List.getElem?_drop];congr 1;omega
    rw[if_neg h2,List.getElem?_append_left Xx,List.getElem?_append_left Xh,List.getElem?_take,if_pos Xx]
  rw[List.getElem?_eq_none (by simp[A];omega),List.getElem?_eq_none Xh]
theorem acf (p:Pr) (o:List Pr):AA p o=wN p o:=by
  have A:∀o:List Pr,(kJ (ay p) o 0<o.length/\(o.getD (kJ (ay p) o 0) {name:=[],value:=[]}).pb=p.pb->wN p o=o) /\
      (¬(kJ (ay p) o 0<o.length/\(o.getD (kJ (ay p) o 0) {name:=[],value:=[]}).pb=p.pb)->wN p o=o.take (kJ (ay p) o 0) ++ p :: o.drop (kJ (ay p) o 0)):=by
    intro o
    induction o with
    | nil=>simp[kJ,wN]
    | cons q r ih =>
      unfold kJ wN
      by_cases h1:Op.bytesLess (ay q) (ay p)=true
      · rw[if_pos h1,if_pos h1,JC]
        simp only[List.length_cons,Nat.add_lt_add_iff_right,List.getD_cons_succ,List.take_succ_cons,List.drop_succ_cons,List.cons_append,List.cons.injEq,true_and];exact ih
      · rw[if_neg h1,if_neg h1]
        simp only[List.length_cons,Nat.zero_lt_succ,true_and,List.getD_cons_zero,List.take_zero,List.drop_zero,List.nil_append];exact⟨fun h=>if_pos h,fun h=>if_neg h⟩
  unfold AA;simp only;split
  · rename_i h;exact((A o).1 h).symm
  rename_i h;rw[aam _ _ _ _ (afL _ _)];exact((A o).2 h).symm
theorem wX {p q:Pr} {o:List Pr}:q∈wN p o↔q=p\/q∈o:=by
  induction o with
  | nil=>simp[wN]
  | cons x r ih =>
    unfold wN;split
    · simp[ih];constructor
      · rintro(h|h|h) <;> simp[h]
      · rintro(h|h|h) <;> simp[h]
    · split
      · rename_i h;rw[t7]at h;subst h;simp
      · simp
theorem UX {p:Pr} {o:List Pr} (d:right p.pb=true) (c:∀q∈o,right q.pb=true) (h:Asc o):Asc (wN p o):=by
  induction o with
  | nil=>simp[wN]
  | cons x r ih =>
    obtain⟨C,D⟩:=List.pairwise_cons.1 h;unfold wN;split
    · rename_i hx
      refine List.pairwise_cons.2 ⟨fun q a=>?_,ih (fun q a=>c q (by simp[a])) D⟩
      rcases wX.1 a with rfl|a
      · exact hx
      · exact C q a
    · rename_i hx
      split
      · exact h
      · rename_i hne
        have b:TU p x:=by
          cases hb:Op.bytesLess (whole p.pb) (whole x.pb)with
          | true=>exact hb
          | false=>exact absurd (t7.2<|WX (c x Oj) d hx (by simp[TU,hb])) hne
        refine List.pairwise_cons.2 ⟨fun q a=>?_,h⟩
        rcases List.mem_cons.1 a with rfl|a
        · exact b
        · exact yW b<|C q a
theorem VS:∀(l o x:List Pr),KU l o=(x,0)->(∀q∈o,right q.pb=true)->Asc o->Asc x/\(∀q∈x,right q.pb=true)/\(∀q,q∈x↔q∈o\/q∈l)/\x.length<=16
  | [],o,x,h,hr,ha=>by
    unfold KU at h;split at h
    · simp at h
    · rename_i hl
      obtain⟨rfl,_⟩:=Prod.mk.inj h;exact⟨ha,hr,by simp,by omega⟩
  | p :: r,o,x,h,hr,ha=>by
    unfold KU at h;split at h
    · rename_i h1;exact absurd (Prod.mk.inj h).2 h1
    · rename_i h1
      have b:right p.pb=true:=jX.1<|Classical.not_not.1 h1;rw[acf]at h;obtain⟨c,d,e,f⟩:=VS r _ x h (fun q a=>by
        rcases wX.1 a with rfl|a
        · exact b
        · exact hr q a)<|UX b hr ha
      refine⟨c,d,fun q=>?_,f⟩;rw[e,wX,List.mem_cons];constructor
      · rintro((h|h)|h)
        · exact .inr<|.inl h
        · exact .inl h
        · exact .inr<|.inr h
      · rintro(h|h|h)
        · exact .inl<|.inr h
        · exact .inl<|.inl h
        · exact .inr h
theorem oJ {l x:List Pr} (h:jN l=(x,0)):Asc x/\(∀q∈x,right q.pb=true)/\(∀q,q∈x↔q∈l)/\x.length<=16/\x≠[]:=by
  unfold jN at h;split at h
  · simp at h
  rename_i h0;obtain⟨B,C,A,D⟩:=VS l [] x h Oj List.Pairwise.nil;refine⟨B,C,by simpa using A,D,?_⟩;rintro rfl;cases l with
  | nil=>simp at h0
  | cons y r=>exact absurd ((A y).2 Oj) Oj
end Go.Wk
namespace Go.Wk
open Go Go.RowKit
def ku (ds:List aK) (i:Nat):List UInt8:=(ds.getD i known0).bI
def p8 (ds ds':List aK):Prop:=∀(i:Nat) (k:aK),ds[i]? = some k->∃k',ds'[i]? = some k'/\k'.pos=k.pos/\k'.bI=k.bI
theorem p8.refl (ds:List aK):p8 ds ds:=fun _ k h=>⟨k,h,q,q⟩
theorem p8.trans {a b c:List aK} (h:p8 a b) (k:p8 b c):p8 a c:=fun i x m=>by obtain⟨y,d,e,f⟩:=h i x m;obtain⟨z,g,j,l⟩:=k i y d;exact⟨z,g,j.trans e,l.trans f⟩
theorem j7.ext {a b:List aK} (h:j7 a b):p8 a b:=fun i k hk=>by have hl:=(List.getElem?_eq_some_iff.1 hk).1;obtain⟨c,e⟩:∃c,b[i]? = some c:=⟨_,List.getElem?_eq_getElem (by rw[h.len];exact hl)⟩;obtain⟨j,d,f,g⟩:=h.get i c e;rw[hk]at d;cases d;exact⟨c,e,f,g⟩
theorem p8.at {a b:List aK} (h:p8 a b) {i:Nat} (hi:i<a.length):i<b.length/\fR b i=fR a i/\ku b i=ku a i:=by
  obtain⟨D,A,B,C⟩:=h i _<|List.getElem?_eq_getElem hi;refine⟨(List.getElem?_eq_some_iff.1 A).1,?_,?_⟩
  · unfold fR;simp only[List.getD_eq_getElem?_getD,A,List.getElem?_eq_getElem hi,Option.getD_some];exact B
  unfold ku;simp only[List.getD_eq_getElem?_getD,A,List.getElem?_eq_getElem hi,Option.getD_some];exact C
theorem BQ.ext {m m':Mk} {l b:List Ob} {i:Nat} {t:Ly} (d:BQ m m' l b i t):p8 m.ai m'.ai:=by
  rcases d.new with e|⟨s,p,e,_⟩
  · rw[e];exact p8.refl _
  rw[e];exact fun c k a=>⟨k,by rw[List.getElem?_append_left (List.getElem?_eq_some_iff.1 a).1];exact a,q,q⟩
theorem mX {ds:List aK} {i:Nat} {k:aK} (h:ds[i]? = some k):ku ds i=k.bI/\fR ds i=k.pos:=by unfold ku fR;simp only[List.getD_eq_getElem?_getD,h,Option.getD_some,and_self]
theorem CC (ds:List aK) (p:Nat) (b:List Nat):∀n,n<=b.length->(∀a,kT ds p b n<=a->a<n->p<fR ds (b.getD a 0))/\(0<kT ds p b n->fR ds (b.getD (kT ds p b n-1) 0)<=p)
  | 0,_=>⟨fun a c d=>by omega,fun h=>by simp[kT]at h⟩
  | n+1,hn=>by
    rw[kT];split
    · rename_i hp
      obtain⟨e,f⟩:=CC ds p b n Xx;refine⟨fun a c d=>?_,f⟩
      by_cases hj:a=n
      · subst hj;exact hp
      · exact e a c Xx
    · rename_i hp
      exact⟨fun a c d=>by omega,fun _=>by simp only[Nat.add_sub_cancel];omega⟩
theorem ET {a:Type} {R:a->a->Prop} {l:List a} {n:Nat} {x:a} (h:l.Pairwise R) (h1:∀y∈l.take n,R y x) (f:∀y∈l.drop n,R x y):(l.take n ++ [x] ++ l.drop n).Pairwise R:=by
  rw[List.append_assoc,List.singleton_append];refine List.pairwise_append.2 ⟨h.take,List.pairwise_cons.2 ⟨f,h.drop⟩,fun e C b c=>?_⟩
  rcases List.mem_cons.1 c with rfl|c
  · exact h1 e C
  have d:=h;rw[<- List.take_append_drop n l]at d;exact(List.pairwise_append.1 d).2.2 e C b c
theorem LJ {ds:List aK} {k:Nat} {a:List Nat} (h:a.Pairwise fun e b=>fR ds e<fR ds b) (hk:∀i∈a,fR ds i≠fR ds k):(jK ds k a).Pairwise fun e b=>fR ds e<fR ds b:=by
  obtain⟨f,g⟩:=CC ds (fR ds k) a a.length<|Nat.le_refl _;have j:=CB ds (fR ds k) a a.length;unfold jK;simp only;generalize kT ds (fR ds k) a a.length=n at *;refine ET h (fun y D=>?_)<|fun y D=>?_
  · obtain⟨i,c⟩:=List.mem_iff_getElem?.1 D
    rw[List.getElem?_take]at c;split at c
    · rename_i hin
      have G:=hk y<|List.mem_of_getElem? c;have C:=(List.getElem?_eq_some_iff.1 c).1;have l:=g Xx;have d:a[n-1]? = some (a.getD (n-1) 0):=(by simp[List.getD,List.getElem?_eq_getElem (show n-1<a.length by omega)]);have:fR ds y<=fR ds (a.getD (n-1) 0):=by
        by_cases he:i=n-1
        · subst he;rw[c]at d;have:=Option.some.inj d;rw[<- this];exact Nat.le_refl _
        · have H:=List.pairwise_iff_getElem.1 h i (n-1) C Xx Xx
          rw[List.getElem?_eq_getElem C]at c;rw[List.getElem?_eq_getElem (show n-1<a.length by omega)]at d;rw[Option.some.inj c,Option.some.inj d]at H;omega
      omega
    cases c
  obtain⟨i,c⟩:=List.mem_iff_getElem?.1 D;rw[List.getElem?_drop]at c;have C:=(List.getElem?_eq_some_iff.1 c).1;have:=f (n+i) Xx C;rw[List.getD_eq_getElem?_getD,c]at this;exact this
theorem EU (ds:List aK) (k:Nat) (b:List Nat):(jK ds k b).Perm (k :: b):=by unfold jK;simp only;generalize kT ds (fR ds k) b b.length=n;rw[List.append_assoc,List.singleton_append];have:=List.perm_middle (a:=k) (l₁:=b.take n) (l₂:=b.drop n);rw[List.take_append_drop]at this;exact this
structure XR (m:Mk) (dl:List Pr) (ps:List (List UInt8)) (od:List Nat):Prop where
  eq:ps=dl.map ay
  lt:∀i∈od,i<m.ai.length
  perm:(od.map<|ku m.ai).Perm ps
  MP:od.Pairwise fun a b=>fR m.ai a<fR m.ai b
theorem PU {p q:Pr} (c:right p.pb=true) (d:right q.pb=true) (h:ay p=ay q):p=q:=by have a:=(pQ<|(nu _).2 c).2;have b:=(pQ<|(nu _).2 d).2;have C:whole p.pb=whole q.pb:=h;rw[C,b]at a;exact(t7.1 a).symm
theorem JS {m m':Mk} {l w:List Ob} {j:List Pr} {ps:List (List UInt8)} {e:List Nat} {i:Nat} {x:Pr} (h:XR m j ps e) (hs:Stat m l) (d:BQ m m' l w i (ay x)) (v:ay x∉j.map ay) :
    XR m' (j ++ [x]) (ps ++ [(m'.ai.getD i known0).bI]) (jK m'.ai i e):=by
  have C:=d.ext;obtain⟨k,hk,f⟩:=d.got;obtain⟨g,t⟩:=mX hk;have r:=(List.getElem?_eq_some_iff.1 hk).1;have G:(m'.ai.getD i known0).bI=ay x:=g.trans f;have n:e.map (ku m'.ai)=e.map (ku m.ai):=List.map_congr_left fun c a=>(C.at<|h.lt c a).2.2;have D:i∉e:=fun s=>by have H:ku m'.ai i∈e.map (ku m'.ai):=List.mem_map.2 ⟨i,s,q⟩;rw[n]at H;have:=h.perm.subset H;rw[h.eq,g,f]at this;exact v this
  refine⟨by rw[G,h.eq];simp,fun c a=>?_,?_,?_⟩
  · rcases IW a with rfl|a
    · exact r
    exact(C.at<|h.lt c a).1
  · refine((EU m'.ai i e).map _).trans ?_
    rw[List.map_cons,n,g,f,G];exact(List.Perm.cons _ h.perm).trans<|List.perm_append_comm (l₁:=[ay x])
  refine LJ ?_ fun c a p=>?_
  · refine List.Pairwise.imp_of_mem (fun {u b} ha hb hab=>?_) h.MP
    rw[(C.at<|h.lt u ha).2.1,(C.at<|h.lt b hb).2.1];exact hab
  obtain⟨y,o⟩:∃y,m'.ai[c]? = some y:=⟨_,List.getElem?_eq_getElem (C.at<|h.lt c a).1⟩;rw[(mX o).2,t]at p;have:=d.fK.one c i y k o hk<|.inl p;subst this;exact D a
def Rp (m:Mk) (l l':List Ob):Prop:=∃t,l'=l ++ t/\∀o∈t,m.b.length<=o.pos
theorem Rp.refl (m:Mk) (l:List Ob):Rp m l l:=⟨[],by simp,by simp⟩
theorem Rp.trans {m m':Mk} {l c d:List Ob} (h:Rp m l c) (k:Rp m' c d) (hl:m.b.length<=m'.b.length):Rp m l d:=by
  obtain⟨t,g,e⟩:=h;obtain⟨i,f,C⟩:=k;refine⟨t ++ i,by rw[f,g,List.append_assoc],fun o a=>?_⟩
  rcases List.mem_append.1 a with a|a
  · exact e o a
  have:=C o a;omega
def ql (ds ds':List aK):Prop:=∀(i:Nat) (k k':aK),ds[i]? = some k->ds'[i]? = some k'->∃t,k'.aL=k.aL ++ t
theorem ql.refl (ds:List aK):ql ds ds:=fun i k b h a=>⟨[],by rw[h]at a;cases a;simp⟩
theorem ql.trans {a b c:List aK} (h:ql a b) (k:ql b c) (e:p8 a b):ql a c:=fun i x z d l=>by obtain⟨y,f,_⟩:=e i x d;obtain⟨t,g⟩:=h i x y d f;obtain⟨m,j⟩:=k i y z f l;exact⟨t ++ m,by rw[j,g,List.append_assoc]⟩
theorem ql.app (ds t:List aK):ql ds (ds ++ t):=fun i k b h a=>by rw[List.getElem?_append_left (List.getElem?_eq_some_iff.1 h).1,h]at a;cases a;exact⟨[],by simp⟩
theorem ql.set {ds:List aK} {i:Nat} {k c:aK} (h:ds[i]? = some k) (d:c.aL=k.aL\/∃x,c.aL=k.aL ++ [x]):ql ds (ds.set i c):=fun f y z b a=>by
  by_cases e:i=f
  · subst e
    rw[List.getElem?_set_self (List.getElem?_eq_some_iff.1 h).1]at a;rw[h]at b;cases b;cases a
    rcases d with e|⟨x,e⟩
    · exact⟨[],by simp[e]⟩
    · exact⟨[x],e⟩
  · rw[List.getElem?_set_ne e,b]at a
    cases a;exact⟨[],by simp⟩
structure aeF (m m':Mk) (l l':List Ob) (es:List iK) (mp:List Nat) (f:Nat->List Nat):Prop where
  img:om m' l' es mp f
  ext:p8 m.ai m'.ai
  same:m'.c=m.c/\m'.main=m.main/\∀i,i≠6->i≠7->i<15->m'.aT i=m.aT i
  len:m.ai.length<=m'.ai.length
  sub:Rp m l l'
  ge:m.b.length<=m'.b.length
  arx:ql m.ai m'.ai
theorem qq:∀(fs dl:List Pr) (m:Mk) (l:List Ob) (ps:List (List UInt8)) (od:List Nat) (es:List iK) (mp:List Nat) (f:Nat->List Nat),om m l es mp f->(∀i,m.ai.length<=i->f i=[])->XR m dl ps od->(∀q∈fs,BD q)->((dl ++ fs).map ay).Nodup ->
    ∃c,aeF m (eN fs m ps od).2.2 l c es mp f/\XR (eN fs m ps od).2.2 (dl ++ fs) (eN fs m ps od).1 (eN fs m ps od).2.1
  | [],dl,m,l,ps,od,es,mp,f,h,hf,hw,_,_=>⟨l,⟨h,p8.refl _,⟨rfl,rfl,fun _ _ _ _=>rfl⟩,Nat.le_refl _,Rp.refl _ _,Nat.le_refl _,ql.refl _⟩,by rw[List.append_nil];exact hw⟩
  | x :: r,dl,m,l,ps,od,es,mp,f,h,hf,hw,hb,hnd=>by
    obtain⟨y,d⟩:=AO h.fK x<|hb x Oj;have v:ay x∉dl.map ay:=fun u=>by rw[List.map_append,List.map_cons]at hnd;exact(List.nodup_append.1 hnd).2.2 _ u _ Oj rfl
    have g:=h.soft d hf;have w:=JS hw h.fK d v;have n:m.ai.length<=(m.data x).2.ai.length:=(by rcases d.new with b|⟨s,p,b,_⟩ <;> rw[b] <;> simp);obtain⟨c,a,j⟩:=qq r (dl ++ [x]) (m.data x).2 y _ _ es mp f g (fun i z=>hf i Xx) w (fun q G=>hb q (by simp[G])) (by rw[List.append_assoc];exact hnd);rw[List.append_assoc]at j;refine⟨c,⟨a.img,d.ext.trans a.ext,⟨a.same.1.trans d.step.same.1,a.same.2.1.trans d.step.same.2.1,fun i e C D=>(a.same.2.2 i e C D).trans<|d.step.same.2.2 i e C D⟩,lv n a.len,Rp.trans (by obtain⟨t,b,H⟩:=d.step.sub;exact⟨t,b,fun o k=>(H o k).2⟩) a.sub d.step.jU.len,lv d.step.jU.len a.ge,ql.trans (by rcases d.new with b|⟨s,p,b,_⟩<;>rw[b];exact ql.refl _;exact ql.app _ _) a.arx d.ext⟩,j⟩
theorem aaB:∀{a b:List (List UInt8)},a.Perm b->∀v,lH v a=lH v b:=by
  intro a b h
  induction h with
  | nil=>exact fun _=>rfl
  | cons x _ ih=>exact fun v=>ih _
  | swap x y l=>intro v;simp only[lH];congr 1;rw[Nat.xor_assoc,Nat.xor_assoc,Nat.xor_comm (qD y)]
  | trans _ _ ih1 ih2=>exact fun v=>(ih1 v).trans<|ih2 v
theorem XO:∀(l:List (List UInt8)) (v:Nat),v<18446744073709551616->lH v l<18446744073709551616
  | [],_,h=>h
  | x :: r,v,h=>XO r _<|FM h<|EA x
structure aeH (m m':Mk) (l l':List Ob) (es:List iK) (mp:List Nat) (f:Nat->List Nat) (e n:Nat) (od:List Nat):Prop where
  img:om m' l' es mp (fun j=>if j∈od then f j ++ [e]else f j)
  ds:j7 m.ai m'.ai
  same:m'.c=m.c/\m'.aC=m.aC/\m'.main=m.main/\m'.depth=m.depth/\∀i,i≠6->i≠7->i≠18->m'.aT i=m.aT i
  top:m'.b.length<=m.b.length+2100*n
  ge:m.b.length<=m'.b.length
  sub:Rp m l l'
  arx:ql m.ai m'.ai
theorem j7.trans {a b c:List aK} (h:j7 a b) (k:j7 b c):j7 a c:=⟨k.len.trans h.len,fun i x m=>by
  obtain⟨y,d,e,f⟩:=k.get i x m;obtain⟨z,g,j,l⟩:=h.get i y d;exact⟨z,g,e.trans j,f.trans l⟩⟩
theorem wK {es:List iK} {w:List Nat} {e:Nat} (v:e<18446744073709551616):∀(j:List Nat) (m:Mk) (l:List Ob) (f:Nat->List Nat),om m l es w f->(∀i∈j,i<m.ai.length)->j.Nodup->(∀i∈j,(f i).length<900000)->m.b.length+2100*j.length<900000 ->
    ∃p,aeH m (iL e j m) l p es w f e j.length j
  | [],m,l,f,h,_,_,_,_=>⟨l,⟨by simp only[List.not_mem_nil,if_false];exact h,j7.refl _,⟨q,q,q,q,fun _ _ _ _=>rfl⟩,Nat.le_refl _,Nat.le_refl _,Rp.refl _ _,ql.refl _⟩⟩
  | i :: r,m,l,f,h,hi,hn,hl,hb=>by
    obtain⟨k,hk⟩:∃k,m.ai[i]? = some k:=⟨_,List.getElem?_eq_getElem<|hi i Oj⟩;simp only[List.length_cons]at hb;obtain⟨K,L,H⟩:=wM (e:=e) h.fK.dY hk (h.fK.data k<|List.mem_of_getElem? hk) (h.dat i k hk) Xx v (by have:=hl i Oj;omega);have g:=h.hang hk H;have n:j7 m.ai (gO e i m).ai:=(by rw[H.dat];exact j7.set hk H.pos.1 H.pos.2.1);have u:=H.top;obtain⟨A,B,E,F,P⟩:=H.same;rw[jW];rw[List.nodup_cons]at hn;have y:∀a∈r,(if a=i then f i ++ [e]else f a)=f a:=fun a c=>if_neg (by rintro rfl;exact hn.1 c);obtain⟨p,d⟩:=wK v r (gO e i m) K _ g (fun a c=>by rw[n.len];exact hi a (by simp[c])) hn.2 (fun a c=>by simp only[y a c];exact hl a (by simp[c])) Xx;obtain⟨Q,R,I,T,J⟩:=d.same;have G:=d.top;refine⟨p,⟨?_,n.trans d.ds,⟨Q.trans A,R.trans B,I.trans E,T.trans F,fun a D s C=>(J a D s C).trans<|P a D s C⟩,by simp only[List.length_cons];omega,lv H.jU.len d.ge,Rp.trans (by obtain⟨t,e,u⟩:=H.sub;exact⟨t,e,fun o z=>(u o z).2⟩) d.sub H.jU.len,ql.trans (by rw[H.dat];exact ql.set hk<|H.arr.elim .inl fun h=>.inr ⟨_,h⟩) d.arx n.ext⟩⟩;have x:(fun a=>if a∈i :: r then f a ++ [e]else f a)=fun a=>if a∈r then(if a=i then f i ++ [e]else f a) ++ [e]else if a=i then f i ++ [e]else f a:=by
      funext a
      by_cases c:a=i
      · subst c;simp[hn.1]
      · simp[c]
    rw[x];exact d.img
def places (es:List iK) (i:Nat):List Nat:=(es.filter fun g=>decide (i∈g.who)).map iK.pos
theorem TT (es:List iK) (g:iK) (i:Nat):places (es ++ [g]) i=if i∈g.who then places es i ++ [g.pos]else places es i:=by
  unfold places;rw[List.filter_append,List.map_append]
  by_cases h:i∈g.who
  · rw[if_pos h];simp[h]
  rw[if_neg h];simp[h]
theorem mO (es:List iK) (i:Nat):(places es i).length<=es.length:=by unfold places;rw[List.length_map];exact List.length_filter_le _ _
structure RA (m:Mk) (g:iK):Prop where
  lt:∀i∈g.who,i<m.ai.length
  bg:g.ent.bg=g.who.map fun i=>{pos:=fR m.ai i,bZ:=bV m (ku m.ai i)}
  MP:g.who.Pairwise fun a b=>fR m.ai a<fR m.ai b
  xor:g.ent.xor=lH 0 (g.who.map<|ku m.ai)
  ok:lu.ok g.ent/\g.ent.seq≠0
  len:1<=g.who.length/\g.who.length<=16
structure aaM (m:Mk) (g:iK) (r:Rec):Prop where
  seq:g.ent.seq=r.seq
  aY:g.ent.aY=r.aY
  mono:g.ent.mono=r.mono
  aR:g.ent.aR=r.aR
  aC:(g.who.map<|ku m.ai).Perm (r.aC.map ay)
  MP:Asc r.aC
  right:∀q∈r.aC,right q.pb=true
theorem RA.ext {m m':Mk} {g:iK} (h:RA m g) (hd:p8 m.ai m'.ai) (f:m'.c=m.c):RA m' g:=by
  have d:∀t,bV m' t=bV m t:=fun t=>by unfold bV;rw[f]
  refine⟨fun i a=>(hd.at<|h.lt i a).1,?_,?_,?_,h.ok,h.len⟩
  · rw[h.bg]
    exact List.map_congr_left fun i a=>by rw[(hd.at<|h.lt i a).2.1,(hd.at<|h.lt i a).2.2,d]
  · exact List.Pairwise.imp_of_mem (fun {e b} ha hb hab=>by rw[(hd.at<|h.lt e ha).2.1,(hd.at<|h.lt b hb).2.1];exact hab) h.MP
  rw[h.xor];congr 1;exact(List.map_congr_left fun i a=>(hd.at<|h.lt i a).2.2).symm
theorem aaM.ext {m m':Mk} {g:iK} {r:Rec} (h:aaM m g r) (w:RA m g) (hd:p8 m.ai m'.ai):aaM m' g r:=by refine⟨h.seq,h.aY,h.mono,h.aR,?_,h.MP,h.right⟩;have:g.who.map (ku m'.ai)=g.who.map (ku m.ai):=List.map_congr_left fun i A=>(hd.at<|w.lt i A).2.2;rw[this];exact h.aC
structure Img (m:Mk) (l:List Ob) (es:List iK):Prop where
  c:om m l es (es.map iK.pos) (places es)
  n8:m.aT 8=es.length
  n9:m.aT 9<18446744073709551616
  n11:m.aT 11=m.main.getD 0 0
  n10:m.aT 10=(es.head?.map fun g=>g.ent.seq).getD 0
  who:∀g∈es,RA m g
  txt:∀k∈m.ai,∃q:Pr,right q.pb=true/\k.bI=ay q
theorem rC {es:List iK} {m:Mk} (h:∀g∈es,RA m g) (i:Nat) (hi:m.ai.length<=i):places es i=[]:=by unfold places;rw[List.map_eq_nil_iff,List.filter_eq_nil_iff];intro g A;simp only[decide_eq_true_eq];intro B;have:=(h g A).lt i B;omega
theorem om.to {m m':Mk} {l:List Ob} {es:List iK} {g:List Nat} {f:Nat->List Nat} (h:om m l es g f) (hb:m'.b=m.b) (a:m'.c=m.c) (hd:m'.ai=m.ai) (hf:m'.aC=m.aC) (d:m'.main=m.main) (e:m'.aT 2=m.aT 2/\m'.aT 4=m.aT 4) (y:Cn m l->Cn m' l):om m' l es g f:=by
  have D:∀t,bV m' t=bV m t:=fun t=>by unfold bV;rw[a]
  obtain⟨⟨n,o,G,H,p,q,r,s,u,i,j,C⟩,v,w,⟨P,Q⟩,R,x⟩:=h;exact⟨⟨by rw[hb];exact n,by rw[a];exact o,by rw[a];exact G,e.1.trans H,by rw[a];exact e.2.trans p,by rw[a];exact q,fun k hk=>by rw[hb,D];exact r k<|hd ▸ hk,fun k hk=>by rw[hb,D];exact s k<|hf ▸ hk,by rw[hd];exact u,by rw[hd];exact i,by rw[hf];exact j,y C⟩,by rw[hb,d];exact v,by rw[hb,hd];exact w,⟨by rw[hd,d];exact P,by rw[hd];exact Q⟩,by rw[hb];exact R,x⟩
theorem qx (z:Mk) (n seq aY mono e:Nat) (aR:Ly) (i:Nat) (h:i≠8/\i≠9/\i≠10/\i≠12/\i≠13/\i≠14):(jV z n seq aY mono e aR).aT i=z.aT i:=by
  unfold jV;simp only;have A:(if n=0 then(z.bD 10 seq).bD 12 aY else z).aT i=z.aT i:=by
    split
    · rw[cg Xx,cg Xx]
    · rfl
  generalize (if n=0 then(z.bD 10 seq).bD 12 aY else z)=y at *;rw[<- A];show((((y.bD 8<|(y.aT 8+1)%18446744073709551616).bD 9 seq).bD 13 aY).bD 14 mono).aT i=y.aT i;rw[cg Xx,cg Xx,cg Xx,cg Xx]
theorem abB (z:Mk) (n seq aY mono e:Nat) (aR:Ly) (h:z.h.n.length=20):(jV z n seq aY mono e aR).aT 10=if n=0 then seq else z.aT 10:=by
  unfold jV;simp only;have A:(if n=0 then(z.bD 10 seq).bD 12 aY else z).aT 10=if n=0 then seq else z.aT 10:=by
    split
    · rw[cg Xx,AX Xx]
    · rfl
  generalize (if n=0 then(z.bD 10 seq).bD 12 aY else z)=y at *;rw[<- A];show((((y.bD 8<|(y.aT 8+1)%18446744073709551616).bD 9 seq).bD 13 aY).bD 14 mono).aT 10=y.aT 10;rw[cg Xx,cg Xx,cg Xx,cg Xx]
theorem tL {ds:List aK} {c:List Nat} (h:c.Pairwise fun a b=>fR ds a<fR ds b):c.Nodup :=
  List.Pairwise.imp (fun {a b} hab e=>by subst e;exact Nat.lt_irrefl _ hab) h
theorem pE {fs:List Pr} (h:Asc fs) (a:∀q∈fs,right q.pb=true):(fs.map ay).Nodup:=by
  unfold List.Nodup;rw[List.pairwise_map];exact List.Pairwise.imp_of_mem (fun {c b} ha hb hab e=>by
    have:=PU (a c ha) (a b hb) e;subst this;exact BH _ hab) h
theorem CQ:∀(fs:List Pr) (m:Mk) (ps:List (List UInt8)) (od:List Nat),∀k∈(eN fs m ps od).2.2.ai,k∈m.ai\/∃q∈fs,k.bI=ay q
  | [],m,_,_,k,hk=>.inl hk
  | x :: r,m,ps,od,k,hk=>by
    rcases CQ r (m.data x).2 _ _ k hk with h|⟨q,h1,h2⟩
    · rcases GW k h with h|h
      · exact .inl h
      · exact .inr ⟨x,by simp,h⟩
    · exact .inr ⟨q,by simp[h1],h2⟩
structure aiC (m m':Mk) (l l':List Ob) (es:List iK) (g:iK) (r:Rec):Prop where
  img:Img m' l' (es ++ [g])
  rcd:aaM m' g r
  ext:p8 m.ai m'.ai
  c:m'.c=m.c
  seq:r.seq=m.aT 9+1/\m'.aT 9=r.seq
  ge:m.b.length<=g.pos
  main:∃t,m'.main=m.main ++ t
  len:m.b.length<=m'.b.length
  aT:∀i,i<=5->m'.aT i=m.aT i
  sub:Rp m l l'
  arx:ql m.ai m'.ai
theorem xY {m m':Mk} {l:List Ob} {es:List iK} {raw:List Pr} {aY mono s:Nat} {aR:Ly} (h:Img m l es) (ok:xX m) (h20:m.h.n.length=20) (hb:aR.length=16) (ax:aY<18446744073709551616/\mono<18446744073709551616) (J:m.append raw aY mono aR=(s,0,m')) :
    ∃bl g fs,jN raw=(fs,0)/\aiC m m' l bl es g {seq:=s,aY:=aY,mono:=mono,aR:=aR,aC:=fs}:=by
  rcases hl:jN raw with⟨fs,c⟩
  by_cases A:c≠0
  · have e:m.append raw aY mono aR=(0,c,m):=by unfold Mk.append;simp only[hl];rw[if_pos A]
    rw[e]at J;exact absurd (congrArg (fun x=>x.2.1) J) A
  have a1:=Classical.not_not.1 A;subst a1
  by_cases Y:m.aT 9=18446744073709551615
  · have e:m.append raw aY mono aR=(0,1,m):=by unfold Mk.append;simp only[hl];rw[if_neg A,if_pos Y]
    rw[e]at J;have:=congrArg (fun x=>x.2.1) J;simp at this
  obtain⟨ap,af,bw,a7,aU⟩:=oJ hl;obtain⟨av,_⟩:=oV hl;have D:=oG fs m [] [] 0 (jT ok) av;obtain⟨ak,F,W⟩:=qq fs [] m l [] [] es (es.map iK.pos) (places es) h.c (fun i u=>rC h.who i u) ⟨q,by simp,by simp,List.Pairwise.nil⟩ av (by rw[List.nil_append];exact pE ap af);have aH:=uF fs m [] [];have am:=CQ fs m [] []
  rcases hd:eN fs m [] []with⟨ps,G,x⟩
  rw[hd,Nat.zero_add]at D;rw[hd]at F W aH am;rw[List.nil_append]at W;simp only at D F W aH am;have bK:=ok.small;have s4:=ok.nb;have bE:=D.app.le;have bd:=D.len.1;have aW:=D.app.ge;obtain⟨c1,c2,c3⟩:=F.same;have n9:x.aT 9=m.aT 9:=c3 9 Xz Xz Xz;have n8:x.aT 8=m.aT 8:=c3 8 Xz Xz Xz;have Q:=h.n8;have bA:=h.n9;have bz:es.length<=40000:=by have:m.n8=es.length:=Q;omega
  have a4:=tL W.MP;have M:(x.aT 9+1)%18446744073709551616=m.aT 9+1:=by rw[n9];exact Nat.mod_eq_of_lt Xx
  generalize hE:({seq:=(x.aT 9+1)%18446744073709551616,aY:=aY,mono:=mono,aR:=aR,xor:=lH 0 ps,bg:=dG x G}:lu)=E;have be:E.seq=m.aT 9+1/\E.aY=aY/\E.mono=mono/\E.aR=aR/\E.xor=lH 0 ps/\E.bg=dG x G:=by subst hE;exact⟨M,q,q,q,q,q⟩
  obtain⟨ab,aI,aJ,aK,aL,aM⟩:=be;have bF:E.bg.length=G.length:=by rw[aM];simp[dG]
  have ah:E.aR.length=16:=by rw[aK];exact hb
  have aO:RA x ⟨x.b.length,E,G⟩:=by
    refine⟨W.lt,aM,W.MP,?_,⟨⟨?_,?_,?_,ah,?_⟩,?_⟩,?_⟩
    · simp only;rw[aL];exact aaB W.perm.symm 0
    · simp only;rw[ab];omega
    · simp only;rw[aI];exact ax.1
    · simp only;rw[aJ];exact ax.2
    · simp only;rw[aL];exact XO _ _ Xz
    · simp only;rw[ab];omega
    · simp only;rw[bd];exact⟨List.length_pos_iff.2 aU,a7⟩
  have bn:aaM x ⟨x.b.length,E,G⟩ {seq:=m.aT 9+1,aY:=aY,mono:=mono,aR:=aR,aC:=fs}:=by refine⟨ab,aI,aJ,aK,?_,ap,af⟩;simp only;rw[<- W.eq];exact W.perm
  have V:=F.img.entry (E:=E) (who:=G) ah Xx;have w:=eW x<|bT E;have os:=dn x<|bT E;have L:∀i,i≠6->i≠7->(x.bJ<|bT E).2.aT i=x.aT i:=fun i bH bI=>by simp only[Mk.bJ];rw[cg Xx,cg Xx];rfl
  have aN:=oK x<|bT E;have bG:=iB E ah
  rcases I:x.bJ (bT E)with⟨e,C⟩
  rw[I]at V w os L aN;simp only at V w os L aN;have a2:e=x.b.length:=w.1;subst a2;have p:C.aT 8=(es.map iK.pos).length:=by rw[L 8 Xz Xz,n8,Q,List.length_map]
  have bB:x.b.length<100000:=by omega
  obtain⟨aF,B⟩:=uD (x:=x.b.length) V.fK.dY V.main (ny _) (by have:=w.2.1;omega) Xx;rw[<- p]at B;have v:=AW C C.main (C.aT 8) 176 x.b.length
  rcases hk:C.link C.main (C.aT 8) 176 x.b.length with⟨a,t,O⟩
  rw[hk]at B v;simp only at B v;have Z:=iU (aY:=aY) (mono:=mono) (aR:=aR) hl A Y hd (by rw[hE];exact I) hk q;obtain⟨j,N⟩:∃j,j=(let aG:=({O with main:=a}:Mk).bD 11<|a.getD 0 0;({aG with h:={aG.h with bP:=eY a%4294967296,bR:=t%4294967296}}:Mk)):=⟨_,q⟩;have K:∀i,i≠11->j.aT i=O.aT i:=fun i u=>by subst N;exact au Xx
  have aV:j.aT 11=a.getD 0 0:=by subst N;exact lR (by show 11<O.h.n.length;omega)
  have bc:j.b=O.b/\j.c=O.c/\j.ai=O.ai/\j.aC=O.aC/\j.main=a/\j.h.n.length=O.h.n.length:=by subst N;exact⟨q,q,q,q,q,by simp[Mk.bD]⟩
  rw[<- N]at Z;clear N;obtain⟨ae,aP,aQ,bs,an,bt⟩:=bc;have a8:=V.link B ae aP aQ bs an ⟨K 2 Xz,K 4 Xz⟩<|fun c=>c.to bt fun i u=>K i Xx;obtain⟨bq,br,bL,bM,bN,al⟩:=B.same;have Bk:=B.top;have U:j.ai=x.ai:=by rw[aQ,br,os.2.1]
  have a3:x.b.length<18446744073709551616:=by omega
  have bx:=w.2.1;obtain⟨bm,H⟩:=wK (e:=x.b.length) a3 G j aF _ a8 (fun i u=>by rw[U];exact W.lt i u) a4 (fun i _=>by have:=mO es i;omega) (by rw[ae];omega);have bC:=EC x.b.length G j;generalize iL x.b.length G j=z at *;have Z:m.append raw aY mono aR=if z.c.cK<z.b.length then(0,15,m)else((x.aT 9+1)%18446744073709551616,0,jV z (C.aT 8) ((x.aT 9+1)%18446744073709551616) aY mono x.b.length aR):=Z;rw[Z]at J;split at J
  · have:=congrArg (fun x=>x.2.1) J;simp at this
  obtain⟨aB,aD,aa,bk,aj,a9,ba,bj,aE⟩:=mI z (C.aT 8) ((x.aT 9+1)%18446744073709551616) aY mono x.b.length aR;have bh:=fun i (u:i<=5)=>qx z (C.aT 8) ((x.aT 9+1)%18446744073709551616) aY mono x.b.length aR i Xx;have bi:=fun i (u:i≠8/\i≠9/\i≠10/\i≠12/\i≠13/\i≠14)=>qx z (C.aT 8) ((x.aT 9+1)%18446744073709551616) aY mono x.b.length aR i u;have a5:=abB z (C.aT 8) ((x.aT 9+1)%18446744073709551616) aY mono x.b.length aR;have a6:=qx z (C.aT 8) ((x.aT 9+1)%18446744073709551616) aY mono x.b.length aR 11 Xz;obtain⟨d,aZ⟩:=Prod.mk.inj J;have a0:=(Prod.mk.inj aZ).2;rw[M]at d;generalize jV z (C.aT 8) ((x.aT 9+1)%18446744073709551616) aY mono x.b.length aR=R at *;subst a0;subst d;obtain⟨bu,bO,aS,bQ,z5⟩:=H.same;have ao:z.h.n.length=20:=by omega
  have bb:=(aE ao).1;have aq:=(aE ao).2;have bv:z.aT 8=es.length:=by rw[z5 8 Xz Xz Xz,K 8 Xz,al 8 Xz Xz Xz,L 8 Xz Xz,n8,Q]
  have aX:p8 x.ai z.ai:=by have:=H.ds.ext;rw[U]at this;exact this
  have P:p8 x.ai R.ai:=by rw[aa];exact aX
  have ag:R.c=x.c:=by rw[aD,bu,aP,bq,os.1]
  have ar:p8 m.ai R.ai:=F.ext.trans P;refine⟨bm,⟨x.b.length,E,G⟩,fs,q,⟨⟨?_,?_,?_,?_,?_,?_,?_⟩,bn.ext aO P,ar,by rw[ag,c1],⟨q,by rw[aq,M]⟩,aW,?_,?_,fun i u=>?_,?_,?_⟩⟩
  · have:=H.img.to (m':=R) aB aD aa bk aj ⟨a9,ba⟩<|fun c=>c.to bj fun i u=>bi i Xx
    rw[List.map_append];have bf:places (es ++ [⟨x.b.length,E,G⟩])=fun S=>if S∈G then places es S ++ [x.b.length]else places es S:=funext fun S=>TT es ⟨x.b.length,E,G⟩ S;rw[bf];exact this
  · show R.n8=_
    rw[bb,show z.n8=es.length from bv,List.length_append,Nat.mod_eq_of_lt Xx];rfl
  · rw[aq,M];omega
  · rw[a6,aj,z5 11 Xz Xz Xz,aV,aS,an]
  · rw[a5 ao,p,List.length_map,z5 10 Xz Xz Xz,K 10 Xz,al 10 Xz Xz Xz,L 10 Xz Xz,c3 10 Xz Xz Xz,h.n10]
    cases es with
    | nil=>simp only[List.length_nil,if_true,List.nil_append,List.head?_cons,Option.map_some,Option.getD_some];rw[ab,M]
    | cons y r=>simp
  · intro g T
    rcases List.mem_append.1 T with T|T
    · exact(h.who g T).ext ar (by rw[ag,c1])
    simp at T;subst T;exact aO.ext P ag
  · intro k hk
    rw[aa]at hk;obtain⟨i,u⟩:=List.mem_iff_getElem?.1 hk;obtain⟨aA,aw,_,ay⟩:=H.ds.get i k u;rw[U]at aw
    rcases am aA (List.mem_of_getElem? aw)with X|⟨ad,X,A⟩
    · obtain⟨ad,A,Y⟩:=h.txt aA X
      exact⟨ad,A,ay.trans Y⟩
    exact⟨ad,af ad X,ay.trans A⟩
  · rw[aj,aS,an]
    have f:C.main=m.main:=by rw[os.2.2.2,c2]
    rcases B.arr with e|e
    · exact⟨[],by rw[e,f,List.append_nil]⟩
    exact⟨_,by rw[e,f]⟩
  · rw[aB]
    have X:=B.jU.len;have A:=H.ge;rw[ae]at A;omega
  · rw[bh i u,z5 i Xx Xx Xx,K i Xx,al i Xx Xx Xx,L i Xx Xx,c3 i Xx Xx Xx]
  · have bo:Rp x ak (ak ++ [(⟨x.b.length,3,64+16*E.bg.length⟩:Ob)]):=⟨_,q,fun o I=>by simp at I;subst I;exact Nat.le_refl _⟩
    have bp:Rp C (ak ++ [(⟨x.b.length,3,64+16*E.bg.length⟩:Ob)]) aF:=by
      rcases B.sub with e|e
      · rw[e];exact Rp.refl _ _
      · exact⟨_,e,fun o I=>by simp at I;subst I;exact Nat.le_refl _⟩
    exact(F.sub.trans bo F.ge).trans (bp.trans H.sub (by rw[ae];exact B.jU.len)) Xx
  have az:=H.arx;rw[U]at az;rw[aa];exact F.arx.trans az F.ext
def hk (m:Mk):Nat × Nat × Nat × List UInt8:=(m.h.eS,m.h.cr,m.h.state,m.h.bE)
theorem ajM {m M:Mk} (h:M.h=m.h):hk M=hk m:=by unfold hk;rw[h]
theorem VT (m:Mk) (l:List aK) (t p s:Nat):hk (m.hang l t p s).2=hk m:=by unfold hk;rw[(AR m l t p s).1]
theorem abZ (m:Mk) (x:Ly):hk (m.field x).2=hk m:=by
  unfold Mk.field;split
  · rfl
  simp only;have B:hk (m.bJ<|dD {bZ:=cu m.c.bL m.c.bE x,bF:=0,dat:=0,ay:=x}).2=hk m:=rfl;generalize m.bJ (dD {bZ:=cu m.c.bL m.c.bE x,bF:=0,dat:=0,ay:=x})=r at *;obtain⟨p,A⟩:=r;simp only at B ⊢;have C:=VT A A.aC (A.aT 4) p<|cu m.c.bL m.c.bE x%A.c.ak;generalize A.hang A.aC (A.aT 4) p (cu m.c.bL m.c.bE x%A.c.ak)=r at *;obtain⟨n,D⟩:=r;exact C.trans B
theorem aft (m:Mk) (x:Pr):hk (m.data x).2=hk m:=by
  unfold Mk.data;split
  · rfl
  simp only;have C:hk (m.bJ<|ej {bZ:=cu m.c.bL m.c.bE (ay x),bF:=0,cH:=0,entry:=0,array:=0,aZ:=0,ay:=ay x}).2=hk m:=rfl;generalize m.bJ (ej {bZ:=cu m.c.bL m.c.bE (ay x),bF:=0,cH:=0,entry:=0,array:=0,aZ:=0,ay:=ay x})=r at *;obtain⟨p,A⟩:=r;simp only at C ⊢;have D:=VT A A.ai (A.aT 2) p<|cu m.c.bL m.c.bE (ay x)%A.c.aj;generalize A.hang A.ai (A.aT 2) p (cu m.c.bL m.c.bE (ay x)%A.c.aj)=r at *;obtain⟨n,B⟩:=r;simp only at D ⊢;generalize hx5:({(B.bD 19<|max (B.aT 19) n).bD 15 (((B.bD 19<|max (B.aT 19) n).aT 15+1)%18446744073709551616)with ai:=((B.bD 19<|max (B.aT 19) n).bD 15<|((B.bD 19<|max (B.aT 19) n).aT 15+1)%18446744073709551616).ai ++ [({bI:=ay x,pos:=p,bn:=cu m.c.bL m.c.bE (ay x)%A.c.aj,aZ:=0,aL:=[]}:aK)]}:Mk)=m5;have E:hk m5=hk B:=by subst hx5;rfl
  have F:=abZ m5 x.name;generalize m5.field x.name=r at *;obtain⟨k,G⟩:=r;exact F.trans<|E.trans<|D.trans C
theorem HN:∀(l:List Pr) (m:Mk) (ps:List (List UInt8)) (od:List Nat),hk (eN l m ps od).2.2=hk m
  | [],_,_,_=>rfl
  | x :: r,m,ps,od=>(HN r _ _ _).trans<|aft m x
theorem VU (m:Mk) (a:List Nat) (n src ij:Nat):hk (m.link a n src ij).2.2=hk m:=by
  unfold Mk.link;generalize eK a 0 0 0=r;obtain⟨A,C⟩:=r;simp only;split
  · have B:hk (m.bJ<|dw {next:=0,bg:=List.replicate (cB (a.length:Int)) 0}).2=hk m:=rfl
    generalize m.bJ (dw {next:=0,bg:=List.replicate (cB (a.length:Int)) 0})=r at *;obtain⟨p,D⟩:=r;simp only at B ⊢;split
    · exact B
    exact B
  rfl
theorem NX (e:Nat):∀(a:List Nat) (m:Mk),hk (iL e a m)=hk m
  | [],_=>rfl
  | i :: r,m=>by
    rw[jW,NX e r];unfold gO;simp only;split
    · exact ajM q
    · have g:=VU m (m.ai.getD i known0).aL ((m.ai.getD i known0).aZ-1) ((m.ai.getD i known0).pos+48) e
      generalize m.link (m.ai.getD i known0).aL ((m.ai.getD i known0).aZ-1) ((m.ai.getD i known0).pos+48) e=r at *;obtain⟨b,t,c⟩:=r;exact(ajM q).trans g
theorem afu (z:Mk) (n seq aY mono e:Nat) (aR:Ly):hk (jV z n seq aY mono e aR)=hk z:=by
  unfold jV;simp only;generalize hy:(if n=0 then(z.bD 10 seq).bD 12 aY else z)=y;have:hk y=hk z:=by subst hy;split <;> rfl
  exact this
theorem Zt (m:Mk) (raw:List Pr) (aY mono:Nat) (aR:Ly):hk (m.append raw aY mono aR).2.2=hk m/\((m.append raw aY mono aR).2.1≠0->(m.append raw aY mono aR).2.2=m):=by
  rcases hl:jN raw with⟨l,c⟩
  by_cases h2:c≠0
  · have d:m.append raw aY mono aR=(0,c,m):=by unfold Mk.append;simp only[hl];rw[if_pos h2]
    rw[d];exact⟨q,fun _=>rfl⟩
  by_cases h3:m.aT 9=18446744073709551615
  · have d:m.append raw aY mono aR=(0,1,m):=by unfold Mk.append;simp only[hl];rw[if_neg h2,if_pos h3]
    rw[d];exact⟨q,fun _=>rfl⟩
  have g:=HN l m [] []
  rcases hd:eN l m [] []with⟨I,D,x⟩
  rw[hd]at g;have i:hk (x.bJ<|bT {seq:=(x.aT 9+1)%18446744073709551616,aY:=aY,mono:=mono,aR:=aR,xor:=lH 0 I,bg:=dG x D}).2=hk x:=rfl
  rcases ho:x.bJ (bT {seq:=(x.aT 9+1)%18446744073709551616,aY:=aY,mono:=mono,aR:=aR,xor:=lH 0 I,bg:=dG x D})with⟨d,A⟩
  rw[ho]at i;have G:=VU A A.main (A.aT 8) 176 d
  rcases hk3:A.link A.main (A.aT 8) 176 d with⟨a,t,C⟩
  rw[hk3]at G;simp only at g i G;have f:m.append raw aY mono aR=_:=iU (aY:=aY) (mono:=mono) (aR:=aR) hl h2 h3 hd ho hk3 q;have H:=NX d D (let e:=({C with main:=a}:Mk).bD 11<|a.getD 0 0;{e with h:={e.h with bP:=eY a%4294967296,bR:=t%4294967296}});have j:hk (let e:=({C with main:=a}:Mk).bD 11<|a.getD 0 0;({e with h:={e.h with bP:=eY a%4294967296,bR:=t%4294967296}}:Mk))=hk C:=rfl;rw[j]at H;generalize iL d D (let e:=({C with main:=a}:Mk).bD 11<|a.getD 0 0;{e with h:={e.h with bP:=eY a%4294967296,bR:=t%4294967296}})=z at f H;have f:m.append raw aY mono aR=if z.c.cK<z.b.length then(0,15,m)else((x.aT 9+1)%18446744073709551616,0,jV z (A.aT 8) ((x.aT 9+1)%18446744073709551616) aY mono d aR):=f;rw[f];split
  · exact⟨q,fun _=>rfl⟩
  refine⟨?_,fun h=>absurd q h⟩;show hk (jV _ _ _ _ _ _ _)=_;rw[afu,H,G,i,g]
theorem Ux (n:Nat):mV (List.replicate n {first:=0,tail:=0})=nums (List.replicate (2*n) 0):=by
  induction n with
  | zero=>rfl
  | succ n ih =>
    rw[List.replicate_succ,mV,ih,show 2*(n+1)=(2*n+1)+1 by omega,List.replicate_succ,List.replicate_succ];simp[nums]
theorem agf {k:Nat} (hk:k=4\/k=5) (n:Nat):(∃r,dc k (List.replicate n {first:=0,tail:=0})=SH k (16+16*n) ++ r)/\(dc k<|List.replicate n {first:=0,tail:=0}).length=16+16*n /\
    ∀i,i<2*n->d8 (dc k<|List.replicate n {first:=0,tail:=0}) (16+8*i)=0:=by
  have e:dc k (List.replicate n {first:=0,tail:=0})=lW k (nums (List.replicate (2*n) 0) ++ []):=by unfold dc;rw[if_neg Xx,Ux,List.append_nil]
  obtain⟨A,B,C,_⟩:=ZJ (k:=k) Xx (List.replicate (2*n) 0) [] (fun v E=>by rw[(List.mem_replicate.1 E).2];decide);rw[<- e]at A B C;simp only[List.length_replicate,List.length_nil,Nat.add_zero]at A B;rw[show 16+8*(2*n)=16+16*n by omega]at A B;exact⟨A,by rw[B];unfold oe;omega,fun i D=>C i 0 (by rw[List.getElem?_replicate,if_pos D])⟩
def rX (c:gZ):List Ob:=[⟨272,4,16+16*c.aj⟩,⟨288+16*c.aj,5,16+16*c.ak⟩]
structure aiE (m:Mk):Prop where
  hk:hk m=(2,if m.c.bL then 4 else 0,1,m.c.bE)
  n0:m.aT 0=272
  n3:m.aT 3=16*m.c.aj
  n5:m.aT 5=16*m.c.ak
theorem ac9 {c:gZ} {t:Nat} (h:c.aj<=10/\c.ak<=10) (h1:1<=c.aj/\1<=c.ak) (v:t<1000000):Img (eC c t) (rX c) []/\aiE (eC c t)/\(eC c t).aT 9=t:=by
  obtain⟨⟨u,j⟩,l,_⟩:=agf (k:=4) (.inl q) c.aj;obtain⟨⟨T,m⟩,p,_⟩:=agf (k:=5) (.inr q) c.ak;have e:(eC c t).b=List.replicate 272 0 ++ dc 4 (List.replicate c.aj {first:=0,tail:=0}) ++ dc 5 (List.replicate c.ak {first:=0,tail:=0}):=rfl;have a:(eC c t).h.n=(((((((((List.replicate 20 0).set 0 272).set 2 288).set 3<|16*c.aj).set 4<|(List.replicate 272 (0:UInt8) ++ dc 4 (List.replicate c.aj {first:=0,tail:=0})).length+16).set 5<|16*c.ak).set 6<|(List.replicate 272 (0:UInt8) ++ dc 4 (List.replicate c.aj {first:=0,tail:=0})).length).set 7 2).set 9 t):=rfl;have D:(List.replicate 272 (0:UInt8) ++ dc 4 (List.replicate c.aj {first:=0,tail:=0})).length=288+16*c.aj:=by rw[List.length_append,List.length_replicate,l];omega
  have s:(eC c t).b.length=304+16*c.aj+16*c.ak:=by rw[e,List.length_append,D,p];omega
  rw[D]at a;have aT:∀i,(eC c t).aT i=(eC c t).h.n.getD i 0:=fun _=>rfl;generalize hT4:dc 4 (List.replicate c.aj {first:=0,tail:=0})=T4 at *;generalize hT5:dc 5 (List.replicate c.ak {first:=0,tail:=0})=T5 at *;have Q:seg (eC c t).b 272 16=SH 4 (16+16*c.aj):=by rw[e,List.append_assoc,me (by rw[List.length_replicate];exact Nat.le_refl _),List.length_replicate,Nat.sub_self,j,List.append_assoc];exact qN _ _ (kC _ _).symm
  have R:seg (eC c t).b (288+16*c.aj) 16=SH 5 (16+16*c.ak):=by rw[e,me Xx,D,Nat.sub_self,m];exact qN _ _ (kC _ _).symm
  have u4:oe (16+16*c.aj)=16+16*c.aj:=by unfold oe;omega
  have u5:oe (16+16*c.ak)=16+16*c.ak:=by unfold oe;omega
  have r:fF (eC c t).b 272 (rX c) (eC c t).b.length:=by refine⟨q,by simp,by simp,by simp only;omega,by simp only;omega,Q,?_⟩;simp only[u4];rw[show 272+(16+16*c.aj)=288+16*c.aj by omega];refine⟨q,by simp,by simp,by simp only;omega,by simp only;omega,R,?_⟩;simp only[u5,fF];rw[s];omega
  have d:(eC c t).ai=[]:=rfl;have P:(eC c t).aC=[]:=rfl;have H:(eC c t).main=[]:=rfl;have f:(eC c t).c=c:=rfl;have G:Cn (eC c t) (rX c):=by
    refine⟨by rw[a];simp,by rw[aT,a,rX];rfl,by rw[aT,a];rfl,by rw[aT,a];rfl,by rw[aT,a];simp[rX],fun o g=>?_⟩;simp[rX]at g
    rcases g with rfl|rfl
    · exact⟨by simp,by simp,fun _=>⟨c.aj,h1.1,q⟩⟩
    · exact⟨by simp,by simp,fun _=>⟨c.ak,h1.2,q⟩⟩
  have C:d8 (eC c t).b 176=0:=by rw[e,pF (by rw[D];omega),pF (by rw[List.length_replicate];omega)];show wT (((List.replicate 272 0).drop 176).take 8)=0;rw[List.drop_replicate,List.take_replicate];rfl
  refine⟨⟨⟨⟨r,by rw[f];simp[rX],by rw[f];simp[rX],by rw[aT,a];rfl,by rw[aT,a];simp only[f];show _+16=_;omega,by rw[f];exact h1,by rw[d];simp,by rw[P];simp,by rw[d];simp,by simp[rX],by simp[rX],G⟩,?_,by rw[d];simp,⟨by rw[d];simp,by rw[d];simp⟩,by simp,by simp[rX]⟩,by rw[aT,a];rfl,by rw[aT,a];show t<_;omega,by rw[aT,a,H];rfl,by rw[aT,a];rfl,by simp,by rw[d];simp⟩,⟨q,by rw[aT,a];rfl,by rw[aT,a];rfl,by rw[aT,a];rfl⟩,by rw[aT,a];rfl⟩;rw[H];exact⟨C,by simp,by simp,by simp,by simp,Nat.le_refl _,Nat.le_refl _⟩
section
variable {P:Program} {n:Nat} {A:Fr n} {D:List Deferred} {l:List (Nat × Value)} {w:World} {d:Option Tmp} {ty:TypeId} {ps:String} {af:Array Edge} {g:Option (Nat × Bool)}
end
section
variable {P:Program} {n:Nat} {A:Fr n} {D:List Deferred} {l:List (Nat × Value)} {w:World} {d:Option Tmp} {ty:TypeId} {ps:String} {af:Array Edge} {g:Option (Nat × Bool)}
end
section
variable {m:Mk} {B:Ly} {H:d9} {l:List Ob} {es:List iK} {rs:List Rec}
def n3 (l:List Ob):Nat:=(l.filter fun o=>decide (o.kind=3)).length
end
section
variable {m:Mk} {B:Ly} {H:d9} {l:List Ob} {es:List iK} {rs:List Rec}
end
def gC (ks:List aK) (s:Nat):List Nat:=(ks.filter fun k=>decide (k.bn=s)).map aK.pos
theorem uO (ks:List aK) (k:aK) (s:Nat):gC (ks ++ [k]) s=if k.bn=s then gC ks s ++ [k.pos]else gC ks s:=by
  unfold gC;rw[List.filter_append,List.map_append]
  by_cases h:k.bn=s
  · rw[if_pos h];simp[h]
  rw[if_neg h];simp[h]
theorem kE {ks:List aK} {s p:Nat} (h:p∈gC ks s):∃k∈ks,k.pos=p/\k.bn=s:=by obtain⟨k,hk,rfl⟩:=List.mem_map.1 h;obtain⟨A,B⟩:=List.mem_filter.1 hk;exact⟨k,A,q,dq B⟩
theorem aao (ks:List aK) (s:Nat):(gC ks s).Sublist (ks.map aK.pos):=List.filter_sublist.map _
theorem sR (s:Nat):∀(ks:List aK) (n q:Nat),iM s ks n q=(n+(gC ks s).length,(gC ks s).getLastD q)
  | [],_,_=>rfl
  | k :: r,n,q=>by
    rw[iM];unfold gC;rw[List.filter_cons]
    by_cases h:k.bn=s
    · rw[if_pos h,if_pos (decide_eq_true h),sR s r]
      simp only[List.map_cons,List.length_cons,List.getLastD_cons];unfold gC;congr 1;omega
    · rw[if_neg h,if_neg (by simpa using h),sR s r];rfl
theorem uq {l:List Nat} {p i:Nat} (h:i<l.length):(l ++ [p]).getD i 0=l.getD i 0:=by rw[List.getD_eq_getElem?_getD,List.getD_eq_getElem?_getD,List.getElem?_append_left h]
theorem YU (l:List Nat) (p:Nat):(l ++ [p]).getD l.length 0=p:=by rw[List.getD_eq_getElem?_getD,List.getElem?_append_right (Nat.le_refl _),Nat.sub_self];rfl
theorem HE {l:List Nat} {i:Nat} (h:l.length<=i):l.getD i 0=0:=by rw[List.getD_eq_getElem?_getD,List.getElem?_eq_none h];rfl
theorem u7 (l:List Nat) (h:l≠[]):l[l.length-1]? = some (l.getLastD 0):=by
  rw[<- List.getLast?_eq_getElem?,List.getLastD_eq_getLast?];cases hq:l.getLast? with
  | none=>exact absurd (List.getLast?_eq_none_iff.1 hq) h
  | some x=>rfl
theorem Zy (l:List Nat) (p:Nat):(l ++ [p]).getLastD 0=p:=by simp[List.getLastD_eq_getLast?]
structure iR (b:Ly) (tab n:Nat) (ks:List aK):Prop where
  bn:∀k∈ks,k.bn<n
  head:∀s:Nat,s<n->d8 b (tab+16*s)=(gC ks s).getD 0 0
  next:∀s j p:Nat,(gC ks s)[j]? = some p->d8 b (p+24)=(gC ks s).getD (j+1) 0
def aaG (tab n:Nat) (ks:List aK) (a:Nat):Prop:=(∃s:Nat,s<n/\a=tab+16*s)\/∃k∈ks,a=k.pos+24
theorem iR.keep {b c:Ly} {tab n:Nat} {ks:List aK} (h:iR b tab n ks) (f:∀a,aaG tab n ks a->d8 c a=d8 b a):iR c tab n ks:=by refine⟨h.bn,fun s e=>(f _<|.inl ⟨s,e,q⟩).trans<|h.head s e,fun s i p d=>?_⟩;obtain⟨k,hk,g,_⟩:=kE<|List.mem_of_getElem? d;exact(f _<|.inr ⟨k,hk,by rw[g]⟩).trans<|h.next s i p d
def mJ (k:aK):Nat × Nat × List UInt8:=(k.pos,k.bn,k.bI)
theorem JK {ks b:List aK} (h:b.map mJ=ks.map mJ) (s:Nat):gC b s=gC ks s:=by
  have a:∀ks:List aK,gC ks s=((ks.map mJ).filter fun q=>decide (q.2.1=s)).map Prod.fst:=fun ks=>by unfold gC;rw[List.filter_map,List.map_map];rfl
  rw[a,a,h]
theorem wY {ks b:List aK} (h:b.map mJ=ks.map mJ) {k:aK} (hk:k∈b):∃x∈ks,x.pos=k.pos/\x.bn=k.bn/\x.bI=k.bI:=by have:mJ k∈ks.map mJ:=h ▸ List.mem_map.2 ⟨k,hk,q⟩;obtain⟨x,D,d⟩:=List.mem_map.1 this;obtain⟨c,a⟩:=Prod.mk.inj d;obtain⟨a,C⟩:=Prod.mk.inj a;exact⟨x,D,c,a,C⟩
theorem iR.key {b:Ly} {tab n:Nat} {ks c:List aK} (h:iR b tab n ks) (hk:c.map mJ=ks.map mJ):iR b tab n c:=by refine⟨fun k d=>?_,fun s C=>by rw[JK hk];exact h.head s C,fun s f p a=>by rw[JK hk]at a ⊢;exact h.next s f p a⟩;obtain⟨x,D,_,e,_⟩:=wY hk d;rw[<- e];exact h.bn x D
def sP (b:Ly) (ks:List aK) (tab p s:Nat):List UInt8 :=
  gq (if(gC ks s).length=0 then gq b (tab+16*s) p else gq b ((gC ks s).getLastD 0+24) p) (tab+16*s+8) p
theorem SF (m:Mk) (ks:List aK) (tab p s:Nat):(m.hang ks tab p s).2.b=sP m.b ks tab p s:=by unfold Mk.hang;rw[sR];simp only[Nat.zero_add];unfold sP;split <;> rfl
theorem yt (b:Ly) (ks:List aK) (tab p s:Nat):(sP b ks tab p s).length=b.length:=by unfold sP;rw[dV];split <;> rw[dV]
section
variable {b:Ly} {tab n:Nat} {ks:List aK} {k:aK}
theorem RI {l:List Nat} (h:l.Pairwise (· < ·)) {i j a c:Nat} (e:l[i]? = some a) (f:l[j]? = some c) (g:i<j):a<c:=by obtain⟨b,rfl⟩:=List.getElem?_eq_some_iff.1 e;obtain⟨d,rfl⟩:=List.getElem?_eq_some_iff.1 f;exact List.pairwise_iff_getElem.1 h i j b d g
theorem LK (c:(ks.map aK.pos).Pairwise (· < ·)) {x y:aK} (e:x∈ks) (f:y∈ks) (g:x.pos=y.pos):x=y:=by
  obtain⟨i,b⟩:=List.mem_iff_getElem?.1 e;obtain⟨d,a⟩:=List.mem_iff_getElem?.1 f;have C:(ks.map aK.pos)[i]? = some x.pos:=by rw[List.getElem?_map,b];rfl
  have D:(ks.map aK.pos)[d]? = some y.pos:=by rw[List.getElem?_map,a];rfl
  rcases Nat.lt_trichotomy i d with A|rfl|A
  · have:=RI c C D A;omega
  · rw[b]at a;exact Option.some.inj a
  have:=RI c D C A;omega
theorem wJ (hs:k.bn<n) {a p:Nat} (h1:a+8<=tab+16*k.bn\/tab+16*k.bn+16<=a) (f:∀x∈ks,a+8<=x.pos+24\/x.pos+32<=a):d8 (sP b ks tab p k.bn) a=d8 b a:=by
  unfold sP;rw[eU Xx];split
  · exact eU Xx
  rename_i hne;have d:=u7 (gC ks k.bn)<|fun c=>hne (by rw[c];rfl);obtain⟨x,e,c,_⟩:=kE<|List.mem_of_getElem? d;have:=f x e;exact eU Xx
theorem iR.hang (h:iR b tab n ks) (hs:k.bn<n) (hf:∀x∈ks,tab+16*n<=x.pos) (B:tab+16*n<=k.pos) (A:∀x∈ks,x.pos+40<=k.pos) (pair:∀x∈ks,∀y∈ks,x.pos=y.pos\/x.pos+40<=y.pos\/y.pos+40<=x.pos)
    (nd:(ks.map aK.pos).Pairwise (· < ·)) (hn:d8 b (k.pos+24)=0) (hl:k.pos+40<=b.length) (hk:k.pos<18446744073709551616):iR (sP b ks tab k.pos k.bn) tab n (ks ++ [k]):=by
  have R:(gC ks k.bn).Pairwise (· < ·):=nd.sublist<|aao ks k.bn;have f:∀(c:Ly) (l:Nat),aaG tab n (ks ++ [k]) l->d8 (gq c (tab+16*k.bn+8) k.pos) l=d8 c l:=fun c l w=>by
    refine eU ?_
    rcases w with⟨s,X,rfl⟩|⟨x,a,rfl⟩
    · rcases Nat.lt_or_ge k.bn s with M|M <;> omega
    · rcases List.mem_append.1 a with a|a
      · have:=hf x a;omega
      · rw[List.mem_singleton]at a;subst a;omega
  have m:∀s:Nat,s<n->aaG tab n (ks ++ [k]) (tab+16*s):=fun s hs=>.inl ⟨s,hs,rfl⟩;have i:∀x∈ks,aaG tab n (ks ++ [k]) (x.pos+24):=fun x a=>.inr ⟨x,by simp[a],rfl⟩;have o:aaG tab n (ks ++ [k]) (k.pos+24):=.inr ⟨k,by simp,rfl⟩;have t:∀x∈ks ++ [k],x.bn<n:=fun x a=>by
    rcases List.mem_append.1 a with a|a
    · exact h.bn x a
    · rw[List.mem_singleton]at a;subst a;exact hs
  unfold sP
  by_cases h0:(gC ks k.bn).length=0
  · have r:gC ks k.bn=[]:=List.eq_nil_of_length_eq_zero h0
    rw[if_pos h0];refine⟨t,fun s C=>?_,fun s g p d=>?_⟩
    · rw[f _ _ (m s C),uO]
      by_cases e:k.bn=s
      · subst e
        rw[if_pos rfl,r,iw Xx hk];rfl
      rw[if_neg e,eU (by rcases Nat.lt_or_ge k.bn s with M|M<;>omega)];exact h.head s C
    rw[uO]at d ⊢
    by_cases e:k.bn=s
    · subst e
      rw[if_pos rfl,r]at d ⊢;obtain rfl:g=0:=by have:=(List.getElem?_eq_some_iff.1 d).1;simp at this;exact this
      obtain rfl:k.pos=p:=by simpa using d
      rw[f _ _ o,eU Xx,hn];rfl
    rw[if_neg e]at d ⊢;obtain⟨x,a,H,_⟩:=kE<|List.mem_of_getElem? d;have:=hf x a;subst H;rw[f _ _ (i x a),eU Xx];exact h.next s g _ d
  rw[if_neg h0];have v:gC ks k.bn≠[]:=fun e=>h0 (by rw[e];rfl);have j:=u7 _ v;generalize (gC ks k.bn).getLastD 0=q at j;obtain⟨y,G,Q,u⟩:=kE<|List.mem_of_getElem? j;have T:=hf y G;have V:=A y G;refine⟨t,fun s C=>?_,fun s g p d=>?_⟩
  · rw[f _ _ (m s C),eU Xx,h.head s C,uO]
    by_cases e:k.bn=s
    · subst e;rw[if_pos rfl,uq Xx]
    rw[if_neg e]
  rw[uO]at d ⊢
  by_cases e:k.bn=s
  · subst e
    rw[if_pos rfl]at d ⊢
    rcases Nat.lt_trichotomy g ((gC ks k.bn).length-1)with D|D|D
    · rw[List.getElem?_append_left Xx]at d
      obtain⟨x,a,H,_⟩:=kE<|List.mem_of_getElem? d;have:=RI R d j Xx;subst H;have:=pair x a y G;rw[f _ _ (i x a),eU Xx,h.next _ g _ d,uq Xx]
    · rw[List.getElem?_append_left Xx,D,j]at d
      cases d;rw[f _ _ (by rw[<- Q];exact i y G),iw Xx hk,D,show(gC ks k.bn).length-1+1=(gC ks k.bn).length by omega,YU]
    have:=(List.getElem?_eq_some_iff.1 d).1;simp only[List.length_append,List.length_singleton]at this;obtain rfl:g=(gC ks k.bn).length:=by omega
    rw[List.getElem?_append_right (Nat.le_refl _),Nat.sub_self]at d;obtain rfl:k.pos=p:=by simpa using d
    rw[f _ _ o,eU Xx,hn,HE Oj]
  rw[if_neg e]at d ⊢;obtain⟨x,a,H,P⟩:=kE<|List.mem_of_getElem? d;have W:x.pos≠y.pos:=fun z=>e (by rw[<- u,<- P,LK nd a G z]);have:=pair x a y G;subst H;rw[f _ _ (i x a),eU Xx];exact h.next s g _ d
end
def pK (t:Ly):List UInt8:=t.takeWhile fun c=>decide (c≠61)
theorem ZE {q:Pr} (h:∀c∈q.name,c≠61):pK (ay q)=q.name:=by unfold pK ay;rw[List.append_assoc,List.takeWhile_append_of_pos (fun c A=>decide_eq_true<|h c A)];simp
def mE (ds:List aK) (t:Ly):List Nat:=(ds.filter fun k=>decide (pK k.bI=t)).map aK.pos
theorem GU (ds:List aK) (k:aK) (t:Ly):mE (ds ++ [k]) t=if pK k.bI=t then mE ds t ++ [k.pos]else mE ds t:=by
  unfold mE;rw[List.filter_append,List.map_append]
  by_cases h:pK k.bI=t
  · rw[if_pos h];simp[h]
  rw[if_neg h];simp[h]
theorem yg {ds:List aK} {t:Ly} {p:Nat} (h:p∈mE ds t):∃k∈ds,k.pos=p/\pK k.bI=t:=by obtain⟨k,hk,rfl⟩:=List.mem_map.1 h;obtain⟨A,B⟩:=List.mem_filter.1 hk;exact⟨k,A,q,dq B⟩
theorem GV {ks b:List aK} (h:b.map mJ=ks.map mJ) (t:Ly):mE b t=mE ks t:=by
  have a:∀ks:List aK,mE ks t=((ks.map mJ).filter fun q=>decide (pK q.2.2=t)).map Prod.fst:=fun ks=>by unfold mE;rw[List.filter_map,List.map_map];rfl
  rw[a,a,h]
structure uV (b:Ly) (ds fs:List aK):Prop where
  head:∀f∈fs,d8 b (f.pos+32)=(mE ds f.bI).getLastD 0
  next:∀(t:Ly) (j p:Nat),(mE ds t)[j]? = some p->d8 b (p+32)=if j=0 then 0 else(mE ds t).getD (j-1) 0
theorem uV.keep {b c:Ly} {ds fs:List aK} (h:uV b ds fs) (h1:∀k∈ds,d8 c (k.pos+32)=d8 b (k.pos+32)) (g:∀f∈fs,d8 c (f.pos+32)=d8 b (f.pos+32)):uV c ds fs:=by refine⟨fun f a=>(g f a).trans<|h.head f a,fun t i p d=>?_⟩;obtain⟨k,hk,e,_⟩:=yg<|List.mem_of_getElem? d;subst e;exact(h1 k hk).trans<|h.next t i _ d
theorem uV.key {b:Ly} {ds a fs:List aK} (h:uV b ds fs) (hk:a.map mJ=ds.map mJ):uV b a fs :=
  ⟨fun f d=>by rw[GV hk];exact h.head f d,fun t e p c=>by rw[GV hk]at c ⊢;exact h.next t e p c⟩
theorem uV.field {b:Ly} {ds fs:List aK} {f:aK} (h:uV b ds fs) (c:d8 b (f.pos+32)=0) (d:∀k∈ds,pK k.bI≠f.bI):uV b ds (fs ++ [f]):=by
  refine⟨fun g a=>?_,h.next⟩
  rcases List.mem_append.1 a with a|a
  · exact h.head g a
  rw[List.mem_singleton]at a;subst a;rw[c];have:mE ds g.bI=[]:=by unfold mE;rw[List.map_eq_nil_iff,List.filter_eq_nil_iff];intro k hk;simpa using d k hk
  rw[this];rfl
theorem uV.put {b:Ly} {ds fs:List aK} {f k:aK} {v:Nat} (h:uV b ds fs) (hf:f∈fs) (i:f.bI=pK k.bI) (l:v=d8 b (f.pos+32)) (one:∀x∈fs,∀y∈fs,(x.bI=y.bI↔x.pos=y.pos))
    (ap1:∀x∈ds,(x.pos+40<=k.pos\/k.pos+40<=x.pos)/\(x.pos+40<=f.pos\/f.pos+40<=x.pos)) (ap2:∀g∈fs,(g.pos+40<=k.pos\/k.pos+40<=g.pos)/\(g.pos=f.pos\/g.pos+40<=f.pos\/f.pos+40<=g.pos)) (hk:k.pos<18446744073709551616) (l1:k.pos+40<=b.length) (l2:f.pos+40<=b.length) :
    uV (gq (gq b (k.pos+32) v) (f.pos+32) k.pos) (ds ++ [k]) fs:=by
  have q:=(ap2 f hf).1;refine⟨fun g C=>?_,fun t c p a=>?_⟩
  · rw[GU]
    by_cases e:pK k.bI=g.bI
    · rw[if_pos e,Zy,(one g C f hf).1 (by rw[i,e]),iw (by rw[dV];omega) hk]
    rw[if_neg e];have o:=ap2 g C;have n:g.pos≠f.pos:=fun m=>e (by rw[(one g C f hf).2 m,i]);rw[eU Xx,eU Xx];exact h.head g C
  rw[GU]at a ⊢
  by_cases e:pK k.bI=t
  · rw[if_pos e]at a ⊢
    rcases Nat.lt_or_ge c (mE ds t).length with F|F
    · rw[List.getElem?_append_left F]at a
      obtain⟨x,d,D,_⟩:=yg<|List.mem_of_getElem? a;have G:=ap1 x d;subst D;rw[eU Xx,eU Xx,h.next t c _ a];split
      · rfl
      rw[uq Xx]
    have:=(List.getElem?_eq_some_iff.1 a).1;simp only[List.length_append,List.length_singleton]at this;obtain rfl:c=(mE ds t).length:=by omega
    rw[List.getElem?_append_right (Nat.le_refl _),Nat.sub_self]at a;obtain rfl:k.pos=p:=by simpa using a
    have j:=h.head f hf;rw[i,e]at j;rw[eU Xx,iw Xx (by rw[l];exact RJ _ _),l,j];split
    · rename_i h0
      rw[List.eq_nil_of_length_eq_zero h0];rfl
    rename_i h0;have:=u7 (mE ds t)<|fun H=>h0 (by rw[H];rfl);rw[uq Xx,List.getD_eq_getElem?_getD,this];rfl
  rw[if_neg e]at a ⊢;obtain⟨x,d,D,_⟩:=yg<|List.mem_of_getElem? a;have G:=ap1 x d;subst D;rw[eU Xx,eU Xx];exact h.next t c _ a
structure Hs (m:Mk):Prop where
  r4:iR m.b 288 m.c.aj m.ai
  r5:iR m.b (304+16*m.c.aj) m.c.ak m.aC
  rd:uV m.b m.ai m.aC
  s4:∀k∈m.ai,k.bn=bV m k.bI%m.c.aj
  s5:∀k∈m.aC,k.bn=bV m k.bI%m.c.ak
  own:∀k∈m.ai,∃f∈m.aC,f.bI=pK k.bI
  bear:∀f∈m.aC,∃k∈m.ai,pK k.bI=f.bI
  one:∀x∈m.aC,∀y∈m.aC,x.bI=y.bI->x=y
  a4:(m.ai.map aK.pos).Pairwise (· < ·)
  a5:(m.aC.map aK.pos).Pairwise (· < ·)
  n15:m.aT 15=m.ai.length
  n16:m.aT 16=m.aC.length
  c15:m.ai.length<=m.b.length
  c16:m.aC.length<=m.b.length
  h20:m.h.n.length=20
theorem KT {b:Ly} {q:Nat} (h:q+8<=b.length):(mA b (q:Nat) 8).1=d8 b q:=by unfold mA d8;rw[if_pos ⟨by decide,by omega,by omega⟩];simp
theorem xf {m:Mk} {k v:Nat} (h:k<m.h.n.length):(m.bD k v).aT k=v:=by show(m.h.n.set k v).getD k 0=v;rw[List.getD_eq_getElem?_getD,List.getElem?_set_self h];rfl
def wF (h:Nat) (t:Ly):List UInt8:=dD {bZ:=h,bF:=0,dat:=0,ay:=t}
def vE (h:Nat) (t:Ly):List UInt8:=ej {bZ:=h,bF:=0,cH:=0,entry:=0,array:=0,aZ:=0,ay:=t}
theorem afl {h:Nat} (t:Ly) (e:h<18446744073709551616):(wF h t).length=oe (40+t.length)/\d8 (wF h t) 24=0/\d8 (wF h t) 32=0:=by have c:wF h t=lW 2 (nums [h,0,0] ++ t):=rfl;obtain⟨_,a,b,_⟩:=ZJ (k:=2) Xz [h,0,0] t (by intro v d;simp at d;omega);rw[<- c]at a b;simp only[List.length_cons,List.length_nil,Nat.zero_add,Nat.reduceAdd,Nat.reduceMul]at a;exact⟨a,b 1 _ q,b 2 _ q⟩
theorem aeZ {h:Nat} (t:Ly) (e:h<18446744073709551616):(vE h t).length=oe (64+t.length)/\d8 (vE h t) 24=0:=by have c:vE h t=lW 1 (nums [h,0,0,0,0,0] ++ t):=rfl;obtain⟨_,a,b,_⟩:=ZJ (k:=1) Xz [h,0,0,0,0,0] t (by intro v d;simp at d;omega);rw[<- c]at a b;simp only[List.length_cons,List.length_nil,Nat.zero_add,Nat.reduceAdd,Nat.reduceMul]at a;exact⟨a,b 1 _ q⟩
def kn (t:Ly) (p s:Nat):aK:={bI:=t,pos:=p,bn:=s,aZ:=0,aL:=[]}
theorem ru (m:Mk) (o:Ly) {i:Nat} (h:i≠6/\i≠7):(m.bJ o).2.aT i=m.aT i:=by simp only[Mk.bJ];rw[cg Xx,cg Xx];rfl
theorem acJ (m:Mk) (o:Ly):(m.bJ o).2.h.n.length=m.h.n.length:=by simp[Mk.bJ,Mk.bD]
theorem YI {m:Mk} {name:Ly} (hk:nk name m.aC=none) (h20:m.h.n.length=20) :
    ∃z,m.field name=(m.b.length,z)/\z.b=sP (m.b ++ wF (bV m name) name) m.aC (m.aT 4) m.b.length (bV m name%m.c.ak)/\z.aC=m.aC ++ [kn name m.b.length (bV m name%m.c.ak)]/\z.ai=m.ai/\z.c=m.c/\z.aT 15=m.aT 15/\z.aT 16=(m.aT 16+1)%18446744073709551616/\z.h.n.length=20:=by
  unfold Mk.field;rw[hk];simp only;have H:=eW m<|wF (bV m name) name;have I:=dn m<|wF (bV m name) name;have D:=fun i S=>ru m (wF (bV m name) name) (i:=i) S;have J:=acJ m<|wF (bV m name) name;have K:(m.bJ<|wF (bV m name) name).2.b=m.b ++ wF (bV m name) name:=rfl;rw[show dD {bZ:=cu m.c.bL m.c.bE name,bF:=0,dat:=0,ay:=name}=wF (bV m name) name from rfl];generalize m.bJ (wF (bV m name) name)=r at *;obtain⟨p,A⟩:=r;simp only at H I D J K ⊢;obtain⟨E,O,F,_⟩:=I;have L:=SF A A.aC (A.aT 4) p<|cu m.c.bL m.c.bE name%A.c.ak;have N:=gA A A.aC (A.aT 4) p<|cu m.c.bL m.c.bE name%A.c.ak;generalize A.hang A.aC (A.aT 4) p (cu m.c.bL m.c.bE name%A.c.ak)=r at *;obtain⟨n,B⟩:=r;simp only at L N ⊢;obtain⟨P,Q,R,U,V,G⟩:=N;have M:p=m.b.length:=H.1;have C:∀i,B.aT i=A.aT i:=fun i=>by show B.h.n.getD i 0=_;rw[G];rfl
  have T:({B with depth:=max A.depth n}:Mk).h.n.length=20:=by show B.h.n.length=20;rw[G,J,h20]
  refine⟨_,by rw[M],?_,?_,?_,?_,?_,?_,?_⟩
  · show B.b=_;rw[L,K,F,D 4 Xz,M,E];rfl
  · show B.aC ++ _=_;rw[R,F,E];rfl
  · show B.ai=_;rw[Q,O]
  · show B.c=_;rw[P,E]
  · show(Mk.bD _ 16 _).aT 15=_
    rw[cg Xz];show B.aT 15=_;rw[C,D 15 Xz]
  · show(Mk.bD _ 16 _).aT 16=_
    rw[xf Xx];show(B.aT 16+1)%_=_;rw[C,D 16 Xz]
  show(B.h.n.set 16 _).length=20;rw[List.length_set];exact T
theorem abn {m:Mk} {x:Pr} (hk:kU (ay x) m.ai 0=none) (h20:m.h.n.length=20) :
    ∃z:Mk,z.b=sP (m.b ++ vE (bV m<|ay x) (ay x)) m.ai (m.aT 2) m.b.length (bV m (ay x)%m.c.aj)/\z.ai=m.ai ++ [kn (ay x) m.b.length (bV m (ay x)%m.c.aj)]/\z.aC=m.aC/\z.c=m.c/\z.aT 15=(m.aT 15+1)%18446744073709551616/\z.aT 16=m.aT 16/\z.aT 4=m.aT 4/\z.h.n.length=20 /\
      (m.data x).2=(((z.field x.name).2.put (m.b.length+32) (mA (z.field x.name).2.b ((z.field x.name).1+32:Nat) 8).1).put ((z.field x.name).1+32) m.b.length):=by
  unfold Mk.data;rw[hk];simp only;have I:=eW m<|vE (bV m<|ay x)<|ay x;have J:=dn m<|vE (bV m<|ay x)<|ay x;have D:=fun i S=>ru m (vE (bV m<|ay x)<|ay x) (i:=i) S;have K:=acJ m<|vE (bV m<|ay x)<|ay x;have L:(m.bJ<|vE (bV m<|ay x)<|ay x).2.b=m.b ++ vE (bV m<|ay x) (ay x):=rfl;rw[show ej {bZ:=cu m.c.bL m.c.bE (ay x),bF:=0,cH:=0,entry:=0,array:=0,aZ:=0,ay:=ay x}=vE (bV m<|ay x) (ay x)from rfl];generalize m.bJ (vE (bV m<|ay x)<|ay x)=r at *;obtain⟨p,B⟩:=r;simp only at I J D K L ⊢;obtain⟨E,G,O,_⟩:=J;have M:=SF B B.ai (B.aT 2) p<|cu m.c.bL m.c.bE (ay x)%B.c.aj;have N:=gA B B.ai (B.aT 2) p<|cu m.c.bL m.c.bE (ay x)%B.c.aj;generalize B.hang B.ai (B.aT 2) p (cu m.c.bL m.c.bE (ay x)%B.c.aj)=r at *;obtain⟨n,A⟩:=r;simp only at M N ⊢;obtain⟨P,Q,R,V,W,H⟩:=N;have F:p=m.b.length:=I.1;have C:∀i,A.aT i=B.aT i:=fun i=>by show A.h.n.getD i 0=_;rw[H];rfl
  have T:A.h.n.length=20:=by rw[H,K,h20]
  have U:(A.bD 19<|max (A.aT 19) n).h.n.length=20:=by show(A.h.n.set 19 _).length=20;rw[List.length_set];exact T
  refine⟨({(A.bD 19<|max (A.aT 19) n).bD 15 (((A.bD 19<|max (A.aT 19) n).aT 15+1)%18446744073709551616)with ai:=A.ai ++ [kn (ay x) p (cu m.c.bL m.c.bE (ay x)%B.c.aj)]}:Mk),?_,?_,?_,?_,?_,?_,?_,?_,?_⟩
  · show A.b=_;rw[M,L,G,D 2 Xz,F,E];rfl
  · show A.ai ++ _=_;rw[Q,G,F,E];rfl
  · show A.aC=_;rw[R,O]
  · show A.c=_;rw[P,E]
  · show(Mk.bD _ 15 _).aT 15=_
    rw[xf Xx,cg Xz,C,D 15 Xz]
  · show(Mk.bD _ 15 _).aT 16=_
    rw[cg Xz,cg Xz,C,D 16 Xz]
  · show(Mk.bD _ 15 _).aT 4=_
    rw[cg Xz,cg Xz,C,D 4 Xz]
  · show(List.set _ 15 _).length=20;rw[List.length_set];exact U
  subst F;rfl
theorem adN (m:Mk) (p v:Nat):(m.put p v).ai=m.ai/\(m.put p v).aC=m.aC/\(m.put p v).c=m.c/\(m.put p v).h=m.h/\(m.put p v).b=gq m.b p v:=by unfold Mk.put;exact⟨q,q,q,q,q⟩
theorem WZ (m:Mk) (p v q u:Nat):∃R,(m.put p v).put q u=R/\R.ai=m.ai/\R.aC=m.aC/\R.c=m.c/\(∀i,R.aT i=m.aT i)/\R.h.n.length=m.h.n.length/\R.b=gq (gq m.b p v) q u:=by obtain⟨C,D,E,A,F⟩:=adN m p v;obtain⟨G,H,I,B,J⟩:=adN (m.put p v) q u;exact⟨_,rfl,G.trans C,H.trans D,I.trans E,fun i=>by unfold Mk.aT;rw[B,A],by rw[B,A],by rw[J,F]⟩
section
variable {m:Mk} {l:List Ob}
theorem Stat.far (h:Stat m l) {o:Ob} (a:o∈l) (hk:o.kind=1\/o.kind=2):304+16*m.c.aj+16*m.c.ak<=o.pos:=by
  have b:=h.dY.mem a;have g:=b.ge;have D:=ea o.size;have u4:oe (16+16*m.c.aj)=16+16*m.c.aj:=by unfold oe;omega
  have u5:oe (16+16*m.c.ak)=16+16*m.c.ak:=by unfold oe;omega
  have C:=b.size.1
  rcases h.dY.sep a h.MH with e|e|e
  · subst e;simp at hk
  · simp only at e;omega
  simp only[u4]at e
  rcases h.dY.sep a h.MI with A|A|A
  · subst A;simp at hk
  · simp only at A;omega
  simp only[u5]at A;omega
theorem Stat.two (h:Stat m l) {o x:Ob} (a:o∈l) (b:x∈l) (c:40<=o.size) (d:40<=x.size):o.pos=x.pos\/o.pos+40<=x.pos\/x.pos+40<=o.pos:=by
  have:=ea o.size;have:=ea x.size
  rcases h.dY.sep a b with e|e|e
  · exact .inl (by rw[e])
  · exact .inr<|.inl Xx
  exact .inr<|.inr Xx
theorem Stat.apart (h:Stat m l) {o x:Ob} (a:o∈l) (b:x∈l) (c:40<=o.size) (d:40<=x.size) (hk:o.kind≠x.kind):o.pos+40<=x.pos\/x.pos+40<=o.pos:=by
  have:=ea o.size;have:=ea x.size
  rcases h.dY.sep a b with e|e|e
  · exact absurd (congrArg Ob.kind e) hk
  · exact .inl Xx
  exact .inr Xx
theorem Stat.top (h:Stat m l) {o:Ob} (a:o∈l) (c:40<=o.size):o.pos+40<=m.b.length:=by have:=ea o.size;have:=(h.dY.mem a).le;omega
theorem Stat.dd (h:Stat m l):(∀x∈m.ai,304+16*m.c.aj+16*m.c.ak<=x.pos/\x.pos+40<=m.b.length)/\(∀x∈m.aC,304+16*m.c.aj+16*m.c.ak<=x.pos/\x.pos+40<=m.b.length) /\
    (∀x∈m.ai,∀y∈m.ai,x.pos=y.pos\/x.pos+40<=y.pos\/y.pos+40<=x.pos)/\(∀x∈m.aC,∀y∈m.aC,x.pos=y.pos\/x.pos+40<=y.pos\/y.pos+40<=x.pos)/\(∀x∈m.ai,∀y∈m.aC,x.pos+40<=y.pos\/y.pos+40<=x.pos):=by
  refine⟨fun x A=>?_,fun x A=>?_,fun x A y B=>?_,fun x A y B=>?_,fun x A y B=>?_⟩
  · have o:=(h.data x A).ob;exact⟨h.far o<|.inl q,h.top o Yx⟩
  · have o:=(h.fld x A).ob;exact⟨h.far o<|.inr q,h.top o Yx⟩
  · exact h.two (h.data x A).ob (h.data y B).ob Yx Yx
  · exact h.two (h.fld x A).ob (h.fld y B).ob Yx Yx
  exact h.apart (h.data x A).ob (h.fld y B).ob Yx Yx Oj
end
theorem NA {ks:List aK} {k:aK} (h:(ks.map aK.pos).Pairwise (· < ·)) (hk:∀x∈ks,x.pos<k.pos):((ks ++ [k]).map aK.pos).Pairwise (· < ·):=by rw[List.map_append,List.pairwise_append];refine⟨h,by simp,fun a B b A=>?_⟩;obtain⟨x,C,rfl⟩:=List.mem_map.1 B;simp only[List.map_cons,List.map_nil,List.mem_singleton]at A;subst A;exact hk x C
theorem vK:∀{l:List aK} {s:Ly},nk s l=none->∀k∈l,k.bI≠s
  | [],_,_,_,h=>by cases h
  | x :: l,s,h,k,hk=>by
    rw[nk]at h;split at h
    · cases h
    · rename_i hx
      rcases List.mem_cons.1 hk with rfl|hk
      · exact hx
      · exact vK h k hk
theorem iR.rV {b c:Ly} {tab n:Nat} {ks:List aK} (h:iR b tab n ks) (h1:∀s:Nat,s<n->d8 c (tab+16*s)=d8 b (tab+16*s)) (a:∀k∈ks,d8 c (k.pos+24)=d8 b (k.pos+24)):iR c tab n ks:=h.keep fun e d=>by
  rcases d with⟨s,hs,rfl⟩|⟨k,hk,rfl⟩
  · exact h1 s hs
  · exact a k hk
set_option maxHeartbeats 2000000 in
theorem VW {m:Mk} {l:List Ob} (h:Stat m l) (H:Hs m) (x:Pr) (a0:∀c∈x.name,c≠61) (hb:m.b.length<900000) (hl:(ay x).length<=1000/\x.name.length<=1000) :
    Hs (m.data x).2/\(m.data x).2.ai.map aK.bI=if ay x∈m.ai.map aK.bI then m.ai.map aK.bI else m.ai.map aK.bI ++ [ay x]:=by
  cases hk:kU (ay x) m.ai 0 with
  | some i =>
    obtain⟨k,e,F,_⟩:=ug hk;have u:(m.data x).2=m:=(by unfold Mk.data;rw[hk]);rw[u,if_pos (List.mem_map.2 ⟨k,List.mem_of_getElem? e,F⟩)];exact⟨H,q⟩
  | none =>
    have aV:=qW hk;obtain⟨z,av,T,C,L,z5,aQ,bf,aR,bg⟩:=abn (m:=m) (x:=x) hk H.h20;obtain⟨U,au,ab,ad,aN⟩:∃U:aK,U.pos=m.b.length/\U.bI=ay x/\U.bn=bV m (ay x)%m.c.aj/\kn (ay x) m.b.length (bV m (ay x)%m.c.aj)=U:=⟨_,q,q,q,q⟩;rw[aN]at T;clear aN;obtain⟨V,E,aL,ar,W⟩:=h.dd;have bj:=h.slots;have a1:=sU m<|ay x;obtain⟨bm,a6⟩:=aeZ (ay x) a1;have aG:bV m (ay x)%m.c.aj<m.c.aj:=Nat.mod_lt _ Xx;have bl:=ea<|64+(ay x).length;generalize ho:vE (bV m<|ay x) (ay x)=o at *;rw[h.n2]at av
    -- the datum stands in its chain
    have aS:(m.b ++ o).length=m.b.length+o.length:=List.length_append;have ax:∀a,a+8<=m.b.length->d8 (m.b ++ o) a=d8 m.b a:=fun a I=>pF I;have aJ:iR z.b 288 m.c.aj z.ai:=(by rw[av,T,<- au,<- ad];have e:iR (m.b ++ o) 288 m.c.aj m.ai:=H.r4.rV (fun s hs=>ax _ (by have:=h.dY.mem h.MH;have:=this.le;have:=ea<|16+16*m.c.aj;simp only at *;omega)) fun k hk=>ax _ (by have:=V k hk;omega);have a9:=h.dY.mem h.MH;have aX:=a9.le;have bh:=ea<|16+16*m.c.aj;simp only at aX;exact e.hang (k:=U) (by rw[ad];exact aG) (fun y J=>by have:=V y J;omega) Xx (fun y J=>by have:=V y J;omega) aL H.a4 (by rw[au,ot];exact a6) Xx Xx);have Bk:304+16*m.c.aj+16*m.c.ak<=m.b.length:=(by have:=h.dY.mem h.MI;have:=this.le;have:=ea<|16+16*m.c.ak;simp only at *;omega);have aq:∀a,a+8<=m.b.length->(a+8<=288+16*(bV m (ay x)%m.c.aj)\/288+16*(bV m (ay x)%m.c.aj)+16<=a)->(∀y∈m.ai,a+8<=y.pos+24\/y.pos+32<=a)->d8 z.b a=d8 m.b a:=fun a I e F=>by rw[av];rw[<- ad]at e ⊢;exact(wJ (n:=m.c.aj) (by rw[ad];exact aG) e F).trans<|ax a I
    have aI:iR z.b (304+16*m.c.aj) m.c.ak z.aC:=(by rw[C];exact H.r5.rV (fun s hs=>aq _ Xx Xx fun y J=>by have:=V y J;omega) fun k hk=>aq _ (by have:=E k hk;omega) (by have:=E k hk;omega) fun y J=>by have:=W y J k hk;omega);have D:uV z.b m.ai z.aC:=(by rw[C];exact H.rd.keep (fun k hk=>aq _ (by have:=V k hk;omega) (by have:=V k hk;omega) fun y J=>by have:=aL y J k hk;omega) fun f O=>aq _ (by have:=E f O;omega) (by have:=E f O;omega) fun y J=>by have:=W y J f O;omega);have aw:z.b.length=m.b.length+o.length:=(by rw[av,yt,aS]);have aW:∀t,bV z t=bV m t:=fun t=>by unfold bV;rw[L]
    rw[bg];have aF:∀(w:Mk),w.ai=z.ai->w.ai.map aK.bI=if ay x∈m.ai.map aK.bI then m.ai.map aK.bI else m.ai.map aK.bI ++ [ay x]:=fun w a3=>by rw[a3,T,if_neg (fun a2=>by obtain⟨k,e,F⟩:=List.mem_map.1 a2;exact aV k e F),List.map_append,List.map_cons,List.map_nil,ab]
    have a4:(z.ai.map aK.pos).Pairwise (· < ·):=(by rw[T];exact NA H.a4 fun y J=>by have:=V y J;omega);have aH:z.aT 15=z.ai.length:=(by have:=H.c15;rw[z5,T,H.n15,List.length_append];exact Nat.mod_eq_of_lt Xx);have af:pK (ay x)=x.name:=ZE a0;cases O:nk x.name z.aC with
    | some p =>
      obtain⟨f,f1,rfl,aO⟩:=uh O;have u:z.field x.name=(f.pos,z):=(by unfold Mk.field;rw[O]);rw[u];simp only;have al:f∈m.aC:=C ▸ f1;have bi:=E f al;have j:(mA z.b (f.pos+32:Nat) 8).1=d8 z.b (f.pos+32):=KT Xx;have N:∀a,(a+8<=m.b.length+32\/m.b.length+40<=a)->(a+8<=f.pos+32\/f.pos+40<=a)->d8 (gq (gq z.b (m.b.length+32) (mA z.b (f.pos+32:Nat) 8).1) (f.pos+32) m.b.length) a=d8 z.b a:=fun a e F=>by rw[eU Xx,eU Xx]
      have mk:∀y∈z.ai,y∈m.ai\/y=U:=fun y J=>by rw[T]at J;simpa using J
      obtain⟨aB,ah,B,A,S,ag,aA,d⟩:=WZ z (m.b.length+32) (mA z.b (f.pos+32:Nat) 8).1 (f.pos+32) m.b.length;rw[ah];clear ah;have R:∀t,bV aB t=bV m t:=fun t=>by unfold bV;rw[S,L]
      refine⟨⟨?_,?_,?_,?_,?_,?_,?_,?_,by rw[B];exact a4,?_,by rw[ag,B];exact aH,?_,?_,?_,aA.trans aR⟩,aF _ B⟩
      · rw[d,S,B,L]
        refine aJ.rV (fun s hs=>N _ Xx Xx) fun k hk=>?_
        rcases mk k hk with e|rfl
        · have:=V k e;have:=W k e f al;exact N _ Xx Xx
        · exact N _ Xx Xx
      · rw[d,S,A,L]
        exact aI.rV (fun s hs=>N _ Xx Xx) fun k hk=>by rw[C]at hk;have:=E k hk;have:=ar k hk f al;exact N _ Xx Xx
      · rw[d,B,A,T,<- au]
        refine D.put (k:=U) f1 (by rw[aO,ab];exact af.symm) j (fun a I c M=>?_) (fun y J=>?_) (fun g K=>?_) Xx Xx Xx
        · rw[C]at I M
          exact⟨fun u=>by rw[H.one a I c M u],fun u=>by rw[LK H.a5 I M u]⟩
        · have:=V y J;have:=W y J f al;omega
        · rw[C]at K;have:=E g K;have:=ar g K f al;omega
      · intro k hk
        rw[B]at hk;rw[R,S,L]
        rcases mk k hk with e|rfl
        · exact H.s4 k e
        · rw[ad,ab]
      · intro k hk
        rw[A]at hk;rw[R,S,L];exact H.s5 k<|C ▸ hk
      · intro k hk
        rw[B]at hk
        rcases mk k hk with e|rfl
        · obtain⟨g,an,ao⟩:=H.own k e;exact⟨g,by rw[A,C];exact an,ao⟩
        · exact⟨f,by rw[A];exact f1,by rw[aO,ab];exact af.symm⟩
      · intro g K
        rw[A]at K;obtain⟨k,aD,aE⟩:=H.bear g<|C ▸ K;exact⟨k,by rw[B,T];simp[aD],aE⟩
      · intro a I c M;rw[A]at I M;exact H.one a (C ▸ I) c<|C ▸ M
      · rw[A,C];exact H.a5
      · rw[ag,A,aQ,C];exact H.n16
      · rw[d,B,dV,dV,aw,T,List.length_append];have:=H.c15;simp only[List.length_singleton];omega
      · rw[d,A,dV,dV,aw,C];have:=H.c16;omega
    | none =>
      have Q:=vK O;obtain⟨y,ba,ap,aa,bb,ae,bc,bd,be⟩:=YI (m:=z) (name:=x.name) O aR;have K:=sU z x.name;obtain⟨bo,a7,a8⟩:=afl x.name K;have bk:=ea<|40+x.name.length;have az:bV z x.name%z.c.ak<m.c.ak:=(by rw[L];exact Nat.mod_lt _ Xx);generalize wF (bV z x.name) x.name=fo at *;obtain⟨fd,am,Z,fs,aM⟩:∃fd:aK,fd.pos=z.b.length/\fd.bI=x.name/\fd.bn=bV z x.name%z.c.ak/\kn x.name z.b.length (bV z x.name%z.c.ak)=fd:=⟨_,q,q,q,q⟩;rw[aM]at aa;clear aM;rw[ba];simp only;rw[bf,h.n4]at ap;have aU:(z.b ++ fo).length=z.b.length+fo.length:=List.length_append;have r:∀a,a+8<=z.b.length->d8 (z.b ++ fo) a=d8 z.b a:=fun a I=>pF I;have aP:y.b.length=z.b.length+fo.length:=(by rw[ap,yt,aU]);have mk:∀v∈z.ai,v∈m.ai\/v=U:=fun v j=>by rw[T]at j;simpa using j
      have G:iR y.b (304+16*m.c.aj) m.c.ak y.aC:=by
        rw[ap,aa,C,<- am,<- fs];have e:iR (z.b ++ fo) (304+16*m.c.aj) m.c.ak m.aC:=(by rw[<- C];exact aI.rV (fun s hs=>r _ Xx) fun k hk=>r _ (by rw[C]at hk;have:=E k hk;omega));exact e.hang (k:=fd) (by rw[fs];exact az) (fun v j=>by have:=E v j;omega) Xx (fun v j=>by have:=E v j;omega) ar H.a5 (by rw[am,ot];exact a7) Xx Xx
      have P:∀a,a+8<=z.b.length->(a+8<=304+16*m.c.aj+16*(bV z x.name%z.c.ak)\/304+16*m.c.aj+16*(bV z x.name%z.c.ak)+16<=a)->(∀v∈m.aC,a+8<=v.pos+24\/v.pos+32<=a)->d8 y.b a=d8 z.b a:=fun a I e F=>by rw[ap,C];rw[<- fs]at e ⊢;exact(wJ (n:=m.c.ak) (by rw[fs];exact az) e F).trans<|r a I
      have aZ:iR y.b 288 m.c.aj z.ai:=by
        refine aJ.rV (fun s hs=>P _ Xx Xx fun v j=>by have:=E v j;omega) fun k hk=>?_
        rcases mk k hk with e|rfl
        · have:=V k e;exact P _ Xx Xx fun v j=>by have:=W k e v j;omega
        · exact P _ Xx Xx fun v j=>by have:=E v j;omega
      have aY:uV y.b m.ai y.aC:=by
        have e:uV y.b m.ai z.aC:=D.keep (fun k hk=>by have:=V k hk;exact P _ Xx Xx fun v j=>by have:=W k hk v j;omega) fun f O=>by rw[C]at O;have:=E f O;exact P _ Xx Xx fun v j=>by have:=ar f O v j;omega
        rw[aa];refine e.field (f:=fd) ?_ fun k hk u=>?_
        · rw[ap,C,<- fs]
          refine(wJ (n:=m.c.ak) (by rw[fs];exact az) (by rw[fs];omega) (fun v j=>by have:=E v j;omega)).trans ?_;rw[am,ot];exact a8
        · obtain⟨g,an,ao⟩:=H.own k hk
          exact Q g (by rw[C];exact an) (by rw[ao,u,Z])
      have j:(mA y.b (z.b.length+32:Nat) 8).1=d8 y.b (z.b.length+32):=KT Xx;have N:∀a,(a+8<=m.b.length+32\/m.b.length+40<=a)->(a+8<=z.b.length+32\/z.b.length+40<=a)->d8 (gq (gq y.b (m.b.length+32) (mA y.b (z.b.length+32:Nat) 8).1) (z.b.length+32) m.b.length) a=d8 y.b a:=fun a e F=>by rw[eU Xx,eU Xx]
      have Y:y.ai=z.ai:=bb;have Bx:∀t,bV y t=bV m t:=fun t=>by unfold bV;rw[ae,L]
      have X:∀g∈y.aC,g∈m.aC\/g=fd:=fun g K=>by rw[aa,C]at K;simpa using K
      have f1:fd∈y.aC:=(by rw[aa];simp);obtain⟨aB,ah,B,A,S,ag,aA,d⟩:=WZ y (m.b.length+32) (mA y.b (z.b.length+32:Nat) 8).1 (z.b.length+32) m.b.length;rw[ah];clear ah;have R:∀t,bV aB t=bV m t:=fun t=>by unfold bV;rw[S,ae,L]
      refine⟨⟨?_,?_,?_,?_,?_,?_,?_,?_,by rw[B,Y];exact a4,?_,by rw[ag,B,bc,Y];exact aH,?_,?_,?_,aA.trans be⟩,aF _<|B.trans Y⟩
      · rw[d,S,B,ae,L,Y]
        refine aZ.rV (fun s hs=>N _ Xx Xx) fun k hk=>?_
        rcases mk k hk with e|rfl
        · have:=V k e;exact N _ Xx Xx
        · exact N _ Xx Xx
      · rw[d,S,A,ae,L]
        refine G.rV (fun s hs=>N _ Xx Xx) fun k hk=>?_
        rcases X k hk with e|rfl
        · have:=E k e;exact N _ Xx Xx
        · exact N _ Xx Xx
      · rw[d,B,A,Y,T,<- au,<- am]
        refine aY.put (f:=fd) (k:=U) f1 (by rw[Z,ab];exact af.symm) (by rw[am];exact j) (fun a I c M=>?_) (fun v j=>?_) (fun g K=>?_) Xx Xx Xx
        · rcases X a I with e|rfl
          · rcases X c M with F|rfl
            · exact⟨fun u=>by rw[H.one a e c F u],fun u=>by rw[LK H.a5 e F u]⟩
            · exact⟨fun u=>absurd (u.trans Z)<|Q a (by rw[C];exact e),fun u=>by have:=E a e;omega⟩
          · rcases X c M with F|rfl
            · exact⟨fun u=>absurd (u.symm.trans Z)<|Q c (by rw[C];exact F),fun u=>by have:=E c F;omega⟩
            · exact⟨fun _=>rfl,fun _=>rfl⟩
        · have:=V v j;omega
        · rcases X g K with e|rfl
          · have:=E g e;omega
          · omega
      · intro k hk
        rw[B]at hk;rw[R,S,ae,L]
        rcases mk k (Y ▸ hk)with e|rfl
        · exact H.s4 k e
        · rw[ad,ab]
      · intro k hk
        rw[A]at hk;rw[R,S,ae,L]
        rcases X k hk with e|rfl
        · exact H.s5 k e
        · rw[fs,Z,aW,L]
      · intro k hk
        rw[B]at hk
        rcases mk k (Y ▸ hk)with e|rfl
        · obtain⟨g,an,ao⟩:=H.own k e;exact⟨g,by rw[A,aa,C];simp[an],ao⟩
        · exact⟨_,by rw[A];exact f1,by rw[Z,ab];exact af.symm⟩
      · intro g K
        rw[A]at K
        rcases X g K with e|rfl
        · obtain⟨k,aD,aE⟩:=H.bear g e
          exact⟨k,by rw[B,Y,T];simp[aD],aE⟩
        · exact⟨U,by rw[B,Y,T];simp,by rw[ab,Z];exact af⟩
      · intro a I c M u
        rw[A]at I M
        rcases X a I with e|rfl
        · rcases X c M with F|rfl
          · exact H.one a e c F u
          · exact absurd (u.trans Z)<|Q a (by rw[C];exact e)
        · rcases X c M with F|rfl
          · exact absurd (u.symm.trans Z)<|Q c (by rw[C];exact F)
          · rfl
      · rw[A,aa,C];exact NA H.a5 fun v j=>by have:=E v j;omega
      · have:=H.c16
        rw[ag,A,bd,aa,aQ,C,H.n16,List.length_append];exact Nat.mod_eq_of_lt Xx
      · rw[d,B,dV,dV,aP,aw,Y,T,List.length_append];have:=H.c15;simp only[List.length_singleton];omega
      · rw[d,A,dV,dV,aP,aw,aa,C,List.length_append];have:=H.c16;simp only[List.length_singleton];omega
def BR (l:List Ob) (a:Nat):Prop:=∀o∈l,(o.kind=4\/o.kind=5->a+8<=o.pos\/o.pos+oe o.size<=a)/\((o.kind=1\/o.kind=2)->40<=o.size->a+8<=o.pos\/o.pos+40<=a)
theorem YN {b:Ly} {l:List Ob} {e a:Nat} (c:fF b 272 l e) (h:a+8<=272):BR l a:=fun o d=>by have:=(c.mem d).ge;exact⟨fun _=>.inl Xx,fun _ _=>.inl Xx⟩
theorem VN {b:Ly} {l:List Ob} {e a:Nat} (c:fF b 272 l e) {x:Ob} (f:x∈l) (h1:x.pos+16<=a) (g:a+8<=x.pos+oe x.size) (hk:x.kind=6\/x.kind=1/\x.pos+40<=a):BR l a:=fun o d=>by
  have i:=ea o.size;have j:=ea x.size
  rcases c.sep d f with e1|e1|e1
  · subst e1
    exact⟨fun h=>by omega,fun h _=>by omega⟩
  · exact⟨fun _=>.inr Xx,fun _ _=>.inr Xx⟩
  · exact⟨fun _=>.inl Xx,fun _ _=>.inl Xx⟩
theorem DZ {b:Ly} {l:List Ob} {e src a:Nat} {d:List Nat} (f:fF b 272 l e) (h:zy src d a) (g:∀k c:Nat,d[k]? = some c->(⟨c,6,24+8*cB (k:Int)⟩:Ob)∈l) (hs:BR l src):BR l a:=by
  rcases h with h|⟨k,c,A,B,C⟩
  · rw[h];exact hs
  exact VN f (g k c A) Yx (by rw[gU];simp only;omega)<|.inl q
theorem BR.mono {l r:List Ob} {a:Nat} (h:BR r a) (hs:∀o∈l,o∈r):BR l a:=fun o b=>h o<|hs o b
structure Kept (m m':Mk):Prop where
  c:m'.c=m.c
  ds:m'.ai.map mJ=m.ai.map mJ
  fs:m'.aC=m.aC
  n15:m'.aT 15=m.aT 15
  n16:m'.aT 16=m.aT 16
  len:m.b.length<=m'.b.length
  at4:∀s:Nat,s<m.c.aj->d8 m'.b (288+16*s)=d8 m.b (288+16*s)
  at5:∀s:Nat,s<m.c.ak->d8 m'.b (304+16*m.c.aj+16*s)=d8 m.b (304+16*m.c.aj+16*s)
  dd:∀k∈m.ai,d8 m'.b (k.pos+24)=d8 m.b (k.pos+24)/\d8 m'.b (k.pos+32)=d8 m.b (k.pos+32)
  ff:∀k∈m.aC,d8 m'.b (k.pos+24)=d8 m.b (k.pos+24)/\d8 m'.b (k.pos+32)=d8 m.b (k.pos+32)
theorem Kept.refl (m:Mk):Kept m m:=⟨q,q,q,q,q,Nat.le_refl _,fun _ _=>rfl,fun _ _=>rfl,fun _ _=>⟨q,q⟩,fun _ _=>⟨q,q⟩⟩
theorem Kept.trans {a b c:Mk} (h:Kept a b) (k:Kept b c):Kept a c:=by
  refine⟨k.c.trans h.c,k.ds.trans h.ds,k.fs.trans h.fs,k.n15.trans h.n15,k.n16.trans h.n16,lv h.len k.len,fun s B=>(k.at4 s (by rw[h.c];exact B)).trans<|h.at4 s B,fun s B=>?_,fun x A=>?_,fun x A=>?_⟩
  · have:=k.at5 s (by rw[h.c];exact B)
    rw[h.c]at this;exact this.trans<|h.at5 s B
  · obtain⟨y,C,e,_⟩:=wY h.ds.symm A
    have:=k.dd y C;rw[e]at this;exact⟨this.1.trans (h.dd x A).1,this.2.trans (h.dd x A).2⟩
  have:=k.ff x (by rw[h.fs];exact A);exact⟨this.1.trans (h.ff x A).1,this.2.trans (h.ff x A).2⟩
theorem Kept.same {m m':Mk} (hb:m'.b=m.b) (e:m'.c=m.c) (hd:m'.ai=m.ai) (hf:m'.aC=m.aC) (a:m'.aT 15=m.aT 15) (d:m'.aT 16=m.aT 16):Kept m m' :=
  ⟨e,by rw[hd],hf,a,d,by rw[hb];exact Nat.le_refl _,fun _ _=>by rw[hb],fun _ _=>by rw[hb],fun _ _=>by rw[hb];exact⟨q,q⟩,fun _ _=>by rw[hb];exact⟨q,q⟩⟩
theorem Kept.jU {m m':Mk} {l:List Ob} {S:Nat->Prop} (h:Stat m l) (g:Eff S m.b m'.b) (hs:∀a,S a->BR l a) (r:m'.c=m.c) (hd:m'.ai.map mJ=m.ai.map mJ) (hf:m'.aC=m.aC) (o:m'.aT 15=m.aT 15) (p:m'.aT 16=m.aT 16):Kept m m':=by
  have G:=h.dY.mem h.MH;have C:=G.le;have u4:oe (16+16*m.c.aj)=16+16*m.c.aj:=by unfold oe;omega
  have u5:oe (16+16*m.c.ak)=16+16*m.c.ak:=by unfold oe;omega
  have H:=h.dY.mem h.MI;have D:=H.le;simp only[u4]at C;simp only[u5]at D;obtain⟨j,n,_⟩:=h.dd;refine⟨r,hd,hf,o,p,g.len,fun s i=>g.d8 Xx fun a e=>?_,fun s i=>g.d8 Xx fun a e=>?_,fun k hk=>?_,fun k hk=>?_⟩
  · have:=((hs a e) _ h.MH).1<|.inl q;simp only[u4]at this;omega
  · have:=((hs a e) _ h.MI).1<|.inr q;simp only[u5]at this;omega
  · have d:=j k hk
    have f:∀a,S a->a+8<=k.pos\/k.pos+40<=a:=fun a e=>((hs a e) _ (h.data k hk).ob).2 (.inl q) Yx;exact⟨g.d8 Xx fun a e=>by have:=f a e;omega,g.d8 Xx fun a e=>by have:=f a e;omega⟩
  have d:=n k hk;have f:∀a,S a->a+8<=k.pos\/k.pos+40<=a:=fun a e=>((hs a e) _ (h.fld k hk).ob).2 (.inr q) Yx;exact⟨g.d8 Xx fun a e=>by have:=f a e;omega,g.d8 Xx fun a e=>by have:=f a e;omega⟩
theorem WY {ks a:List aK} (h:a.map mJ=ks.map mJ):a.map aK.pos=ks.map aK.pos/\a.map aK.bI=ks.map aK.bI/\a.length=ks.length:=by
  have b:∀ks:List aK,ks.map aK.pos=(ks.map mJ).map Prod.fst:=fun ks=>by rw[List.map_map];rfl
  have c:∀ks:List aK,ks.map aK.bI=(ks.map mJ).map fun q=>q.2.2:=fun ks=>by rw[List.map_map];rfl
  exact⟨by rw[b,b,h],by rw[c,c,h],by simpa using congrArg List.length h⟩
theorem Hs.kept {m m':Mk} (H:Hs m) (k:Kept m m') (h20:m'.h.n.length=20):Hs m':=by
  obtain⟨K,L,E⟩:=WY k.ds;have D:∀t,bV m' t=bV m t:=fun t=>by unfold bV;rw[k.c]
  refine⟨?_,?_,?_,fun x A=>?_,fun x A=>?_,fun x A=>?_,fun f J=>?_,?_,by rw[K];exact H.a4,by rw[k.fs];exact H.a5,by rw[k.n15,E];exact H.n15,by rw[k.n16,k.fs];exact H.n16,?_,?_,h20⟩
  · rw[k.c]
    exact(H.r4.rV k.at4 fun x A=>(k.dd x A).1).key k.ds
  · rw[k.c,k.fs]
    exact H.r5.rV k.at5 fun x A=>(k.ff x A).1
  · rw[k.fs]
    exact(H.rd.keep (fun x A=>(k.dd x A).2) fun x A=>(k.ff x A).2).key k.ds
  · obtain⟨y,C,_,F,B⟩:=wY k.ds A
    rw[D,k.c,<- F,<- B];exact H.s4 y C
  · rw[D,k.c];exact H.s5 x<|k.fs ▸ A
  · obtain⟨y,C,_,_,B⟩:=wY k.ds A
    obtain⟨f,G,I⟩:=H.own y C;exact⟨f,by rw[k.fs];exact G,by rw[I,B]⟩
  · obtain⟨y,C,e⟩:=H.bear f<|k.fs ▸ J
    obtain⟨x,A,_,_,B⟩:=wY k.ds.symm C;exact⟨x,A,by rw[B,e]⟩
  · rw[k.fs];exact H.one
  · rw[E];exact lv H.c15 k.len
  rw[k.fs];exact lv H.c16 k.len
theorem afQ {ds:List aK} {i:Nat} {k a:aK} (h:ds[i]? = some k) (hk:mJ a=mJ k):(ds.set i a).map mJ=ds.map mJ:=by
  apply List.ext_getElem?;intro b;rw[List.getElem?_map,List.getElem?_map]
  by_cases hj:i=b
  · subst hj
    rw[List.getElem?_set_self (List.getElem?_eq_some_iff.1 h).1,h];exact congrArg some hk
  rw[List.getElem?_set_ne hj]
theorem DF {es:List iK} {I:List Nat} {e:Nat} (v:e<18446744073709551616):∀(d:List Nat) (m:Mk) (l:List Ob) (f:Nat->List Nat),om m l es I f->(∀i∈d,i<m.ai.length)->d.Nodup->(∀i∈d,(f i).length<900000)->m.b.length+2100*d.length<900000->Kept m (iL e d m)
  | [],m,_,_,_,_,_,_,_=>Kept.refl m
  | i :: r,m,l,f,h,hi,hn,hl,hb=>by
    obtain⟨k,hk⟩:∃k,m.ai[i]? = some k:=⟨_,List.getElem?_eq_getElem<|hi i Oj⟩;simp only[List.length_cons]at hb;have u:=h.fK.data k<|List.mem_of_getElem? hk;obtain⟨j,K,H⟩:=wM (e:=e) h.fK.dY hk u (h.dat i k hk) Xx v (by have:=hl i Oj;omega);have g:=h.hang hk H;have F:j7 m.ai (gO e i m).ai:=(by rw[H.dat];exact j7.set hk H.pos.1 H.pos.2.1);have P:=H.top;obtain⟨B,E,Q,R,s⟩:=H.same;rw[List.nodup_cons]at hn;obtain⟨t,x,_⟩:=H.sub;have p:∀o∈l,o∈j:=fun o A=>by rw[x];exact List.mem_append_left _ A
    have w:=p _ u.ob;have L:=ea<|64+k.bI.length;have n:∀c,k.pos+40<=c->c+8<=k.pos+64->BR j c:=fun c C J=>VN H.dY w Yx Yx<|.inr ⟨q,C⟩;have G:Kept m (gO e i m):=Kept.jU h.fK H.jU (fun c y=>by
      refine BR.mono ?_ p
      rcases qX y with C|C
      · exact n c C.1 C.2
      · exact DZ H.dY C H.more.chain.ob<|n _ Xx Xx) B (by rw[H.dat];exact afQ hk (by unfold mJ;rw[H.pos.1,H.pos.2.1,H.pos.2.2])) E (s 15 Xz Xz Xz)<|s 16 Xz Xz Xz
    rw[jW];have z:∀a∈r,(if a=i then f i ++ [e]else f a)=f a:=fun a D=>if_neg (by rintro rfl;exact hn.1 D);exact G.trans<|DF v r (gO e i m) j _ g (fun a D=>by rw[F.len];exact hi a (by simp[D])) hn.2 (fun a D=>by simp only[z a D];exact hl a (by simp[D])) Xx
def aeL:List (List UInt8)->List (List UInt8)->List (List UInt8)
  | ts,[]=>ts
  | ts,p :: r=>aeL (if p∈ts then ts else ts ++ [p]) r
theorem GX:∀(fs:List Pr) (m:Mk) (l:List Ob) (ps:List (List UInt8)) (od:List Nat),Stat m l->(∀q∈fs,BD q)->m.b.length<=(eN fs m ps od).2.2.b.length
  | [],_,_,_,_,_,_=>Nat.le_refl _
  | x :: r,m,l,ps,od,h,hb=>by obtain⟨c,d⟩:=AO h x<|hb x Oj;exact lv d.step.jU.len<|GX r (m.data x).2 c _ _ d.fK fun q a=>hb q (by simp[a])
theorem GY:∀(fs:List Pr) (m:Mk) (l:List Ob) (ps:List (List UInt8)) (od:List Nat),Stat m l->Hs m->(∀q∈fs,BD q)->(∀q∈fs,∀c∈q.name,c≠61)->(eN fs m ps od).2.2.b.length<900000 ->
    Hs (eN fs m ps od).2.2/\(eN fs m ps od).2.2.ai.map aK.bI=aeL (m.ai.map aK.bI) (fs.map ay)
  | [],_,_,_,_,_,H,_,_,_=>⟨H,rfl⟩
  | x :: r,m,l,ps,od,h,H,hb,hn,hl=>by have bx:=hb x Oj;obtain⟨g,d⟩:=AO h x bx;have k:=GX (x :: r) m l ps od h hb;have n:=ga x;obtain⟨e,i⟩:=VW h H x (hn x Oj) Xx ⟨by have:=bx.1;have:=bx.2;omega,by have:=bx.1;omega⟩;obtain⟨f,j⟩:=GY r (m.data x).2 g (ps ++ [((m.data x).2.ai.getD (m.data x).1 known0).bI]) (jK (m.data x).2.ai (m.data x).1 od) d.fK e (fun q a=>hb q (by simp[a])) (fun q a=>hn q (by simp[a])) hl;exact⟨f,by rw[List.map_cons,aeL,<- i];exact j⟩
theorem WB {s:Ly} (h:eo s=true):∀c∈s,c≠61:=by intro c A e;subst e;unfold eo at h;simp only[Bool.and_eq_true]at h;have:=List.all_eq_true.1 h.2 61 A;revert this;decide
theorem XW {m m':Mk} {l:List Ob} {es:List iK} {raw fs:List Pr} {aY mono s:Nat} {aR:Ly} (h:Img m l es) (Z:Hs m) (ok:xX m) (hb:aR.length=16) (hl:jN raw=(fs,0)) (u:m.append raw aY mono aR=(s,0,m')) :
    Hs m'/\m'.ai.map aK.bI=aeL (m.ai.map aK.bI) (fs.map ay):=by
  by_cases h3:m.aT 9=18446744073709551615
  · have e:m.append raw aY mono aR=(0,1,m):=by unfold Mk.append;simp only[hl];rw[if_neg Oj,if_pos h3]
    rw[e]at u;have:=congrArg (fun x=>x.2.1) u;simp at this
  have aB:=Z.h20;have Q:=ZG m raw aY mono aR;rw[u]at Q;obtain⟨P,Y,aQ,aW,aX⟩:=oJ hl;obtain⟨g,_⟩:=oV hl;have D:=oG fs m [] [] 0 (jT ok) g;obtain⟨aH,A,W⟩:=qq fs [] m l [] [] es (es.map iK.pos) (places es) h.c (fun i I=>rC h.who i I) ⟨rfl,by simp,by simp,List.Pairwise.nil⟩ g (by rw[List.nil_append];exact pE P Y);have T:=GY fs m l [] [] h.c.fK Z g<|fun q aA=>WB (by have:=Y q aA;unfold right at this;simp only[Bool.and_eq_true]at this;exact this.1)
  rcases hd:eN fs m [] []with⟨ps,V,x⟩
  rw[hd,Nat.zero_add]at D;rw[hd]at A W T;rw[List.nil_append]at W;simp only at D A W T;have a3:=ok.small;have s4:=ok.nb;have aZ:=D.app.le;have a0:=D.len.1;have ab:=h.n8;have aV:es.length<=40000:=by have:m.n8=es.length:=ab;omega
  obtain⟨al,aL⟩:=T Xx;obtain⟨c1,c2,c3⟩:=A.same;have n8:x.aT 8=m.aT 8:=c3 8 Xz Xz Xz;have aM:=tL W.MP;generalize hE:({seq:=(x.aT 9+1)%18446744073709551616,aY:=aY,mono:=mono,aR:=aR,xor:=lH 0 ps,bg:=dG x V}:lu)=E;have ad:E.aR.length=16:=by subst hE;exact hb
  have a1:E.bg.length=V.length:=by subst hE;simp[dG]
  have G:=A.img.entry (E:=E) (who:=V) ad Xx;have K:=eW x<|bT E;have H:=dn x<|bT E;have L:∀i,i≠6->i≠7->(x.bJ<|bT E).2.aT i=x.aT i:=fun i aw ax=>ru x _ ⟨aw,ax⟩;have O:(x.bJ<|bT E).2.b=x.b ++ bT E:=rfl;have a2:=iB E ad
  rcases J:x.bJ (bT E)with⟨e,B⟩
  rw[J]at G K H L O;simp only at G K H L O;have r:e=x.b.length:=K.1;subst r;have an:Kept x B:=by refine Kept.jU A.img.fK (S:=fun _=>False) (by rw[O];exact Eff.app _ _ _) (fun _ az=>az.elim) H.1 (by rw[H.2.1]) H.2.2.1 (L 15 Xz Xz)<|L 16 Xz Xz
  have y:B.aT 8=(es.map iK.pos).length:=by rw[L 8 Xz Xz,n8,ab,List.length_map]
  have aP:x.b.length<100000:=by omega
  obtain⟨ae,j⟩:=uD (x:=x.b.length) G.fK.dY G.main (ny _) (by have:=K.2.1;omega) Xx;rw[<- y]at j
  rcases hk:B.link B.main (B.aT 8) 176 x.b.length with⟨M,t,C⟩
  rw[hk]at j;simp only at j;have d:=iU (aY:=aY) (mono:=mono) (aR:=aR) hl Oj h3 hd (by rw[hE];exact J) hk rfl;obtain⟨aI,ag,aJ,a4,a5,ah⟩:=j.same;have ao:Kept B C:=by
    have ar:∀o∈(aH ++ [(⟨x.b.length,3,64+16*E.bg.length⟩:Ob)]),o∈ae:=fun o J=>by
      rcases j.sub with e1|e1 <;> rw[e1]
      · exact J
      · exact List.mem_append_left _ J
    exact Kept.jU G.fK j.jU (fun M u=>BR.mono (DZ j.dY u j.chain.ob<|YN j.dY Xz) ar) aI (by rw[ag]) aJ (ah 15 Xz Xz Xz)<|ah 16 Xz Xz Xz
  obtain⟨a,N⟩:∃a,a=(let af:=({C with main:=M}:Mk).bD 11<|M.getD 0 0;({af with h:={af.h with bP:=eY M%4294967296,bR:=t%4294967296}}:Mk)):=⟨_,rfl⟩;have F:∀i,i≠11->a.aT i=C.aT i:=fun i I=>by subst N;exact au Xx
  have av:a.b=C.b/\a.c=C.c/\a.ai=C.ai/\a.aC=C.aC/\a.main=M/\a.h.n.length=C.h.n.length:=by subst N;exact⟨rfl,rfl,rfl,rfl,rfl,by simp[Mk.bD]⟩
  rw[<- N]at d;clear N;obtain⟨U,aj,X,ak,aN,aO⟩:=av;have ap:Kept C a:=Kept.same U aj X ak (F 15 Xz)<|F 16 Xz;have am:=G.link j U aj X ak aN ⟨F 2 Xz,F 4 Xz⟩<|fun c=>c.to aO fun i I=>F i Xx;have aS:=j.top;have f:a.ai=x.ai:=by rw[X,ag,H.2.1]
  have aU:=K.2.1;have aq:=DF (e:=x.b.length) Xx V a ae _ am (fun i I=>by rw[f];exact W.lt i I) aM (fun i _=>by have:=mO es i;omega) (by rw[U];omega);generalize iL x.b.length V a=z at *;have d:m.append raw aY mono aR=if z.c.cK<z.b.length then(0,15,m)else((x.aT 9+1)%18446744073709551616,0,jV z (B.aT 8) ((x.aT 9+1)%18446744073709551616) aY mono x.b.length aR):=d;rw[d]at u;split at u
  · have:=congrArg (fun x=>x.2.1) u;simp at this
  obtain⟨aD,aE,aF,aG,_⟩:=mI z (B.aT 8) ((x.aT 9+1)%18446744073709551616) aY mono x.b.length aR;have v:=qx z (B.aT 8) ((x.aT 9+1)%18446744073709551616) aY mono x.b.length aR 15 Xz;have w:=qx z (B.aT 8) ((x.aT 9+1)%18446744073709551616) aY mono x.b.length aR 16 Xz;obtain⟨_,k⟩:=Prod.mk.inj u;have p:=(Prod.mk.inj k).2;generalize jV z (B.aT 8) ((x.aT 9+1)%18446744073709551616) aY mono x.b.length aR=R at *;subst p;have aa:Kept x R:=an.trans<|ao.trans<|ap.trans<|aq.trans<|Kept.same aD aE aF aG v w;exact⟨al.kept aa<|Q.trans aB,by rw[(WY aa.ds).2.1];exact aL⟩
theorem ac8 {c:gZ} {t:Nat} (h1:1<=c.aj/\1<=c.ak):Hs (eC c t):=by
  obtain⟨_,G,H⟩:=agf (k:=4) (.inl q) c.aj;obtain⟨_,J,I⟩:=agf (k:=5) (.inr q) c.ak;have E:(eC c t).b=List.replicate 272 0 ++ dc 4 (List.replicate c.aj {first:=0,tail:=0}) ++ dc 5 (List.replicate c.ak {first:=0,tail:=0}):=rfl;have D:(List.replicate 272 (0:UInt8) ++ dc 4 (List.replicate c.aj {first:=0,tail:=0})).length=288+16*c.aj:=by rw[List.length_append,List.length_replicate,G];omega
  have B:(eC c t).ai=[]:=rfl;have A:(eC c t).aC=[]:=rfl;have F:(eC c t).c=c:=rfl;refine⟨⟨by rw[B];simp,fun s C=>?_,by rw[B];simp[gC]⟩,⟨by rw[A];simp,fun s C=>?_,by rw[A];simp[gC]⟩,⟨by rw[A];simp,by rw[B];simp[mE]⟩,by rw[B];simp,by rw[A];simp,by rw[B];simp,by rw[A];simp,by rw[A];simp,by rw[B];simp,by rw[A];simp,?_,?_,by rw[B];simp,by rw[A];simp,?_⟩
  · rw[F]at C
    rw[B,E,pF (by rw[D];omega),lN (by rw[List.length_replicate];omega),List.length_replicate,show 288+16*s-272=16+8*(2*s)by omega,H _ Xx];rfl
  · rw[F]at C ⊢
    rw[A,E,lN Xx,D,show 304+16*c.aj+16*s-(288+16*c.aj)=16+8*(2*s)by omega,I _ Xx];rfl
  · rw[B];show(((((((((List.replicate 20 0).set 0 272).set 2 288).set 3 _).set 4 _).set 5 _).set 6 _).set 7 2).set 9 _).getD 15 0=0;rw[au Xz,au Xz,au Xz,au Xz,au Xz,au Xz,au Xz,au Xz];rfl
  · rw[A];show(((((((((List.replicate 20 0).set 0 272).set 2 288).set 3 _).set 4 _).set 5 _).set 6 _).set 7 2).set 9 _).getD 16 0=0;rw[au Xz,au Xz,au Xz,au Xz,au Xz,au Xz,au Xz,au Xz];rfl
  show(((((((((List.replicate 20 0).set 0 272).set 2 288).set 3 _).set 4 _).set 5 _).set 6 _).set 7 2).set 9 _).length=20;simp only[List.length_set,List.length_replicate]
def Agr (b c:Ly):Prop:=b.length=c.length/\∀q,(176<=q/\q<184\/272<=q)->b[q]? = c[q]?
theorem Agr.put {b c:Ly} (h:Agr b c) (p v:Nat):Agr (gq b p v) (gq c p v) :=
  ⟨by rw[dV,dV];exact h.1,fun q a=>by rw[yX,yX,h.1,h.2 q a]⟩
theorem Agr.app {b c:Ly} (h:Agr b c) (o:Ly):Agr (b ++ o) (c ++ o) :=
  ⟨by rw[List.length_append,List.length_append,h.1],fun q d=>by
    have a:=h.1;by_cases hl:q<b.length
    · rw[List.getElem?_append_left hl,List.getElem?_append_left Xx,h.2 q d]
    · rw[List.getElem?_append_right Xx,List.getElem?_append_right Xx,a]⟩
theorem Agr.seg {b c:Ly} (h:Agr b c) {p n:Nat} (a:272<=p):seg b p n=seg c p n:=BJ fun i _=>h.2 (p+i) Xx
theorem Agr.d8 {b c:Ly} (h:Agr b c) {p:Nat} (d:p=176\/272<=p):d8 b p=d8 c p:=by rw[jL,jL];exact congrArg wT<|BJ fun i a=>h.2 (p+i) Xx
def Thr (b:Ly):Nat->List Nat->Prop
  | a,[]=>a=0
  | a,x :: r=>a=x/\x≠0/\Thr b (d8 b<|x+24) r
def Wp (b:Ly) (h:Nat) (t:Ly) (k:Nat):List Nat->Nat->Nat->Nat->Nat × Nat × Nat
  | [],f,l,m=>(f,l,m)
  | a :: r,f,l,m=>Wp b h t k r (if d8 b (a+16)=h/\(b.take<|a+d8 b (a+8)).drop (a+k)=t then a else f) a<|m+1
theorem E2 {b:Ly} {h:Nat} {t:Ly} {k:Nat}:∀(r:List Nat) (n a f l m:Nat),Thr b a r->r.length<=n->nv b h t k n a f l m=Wp b h t k r f l m
  | [],n,a,f,l,m,hr,_=>by rw[show a=0 from hr,yD];rfl
  | x :: r,n,a,f,l,m,⟨h1,h2,h3⟩,hn=>by subst h1;simp only[List.length_cons]at hn;rw[oZ Xx h2,E2 r _ _ _ _ _ h3 Xx];rfl
theorem PL {b:Ly} {k:Nat}:∀(r:List Nat) (n a:Nat),Thr b a r->r.length<=n->(∀x∈r,x+40<=b.length/\k<=d8 b (x+8)/\x+d8 b (x+8)<=b.length)->okG b k n a=true
  | [],n,a,hr,_,_=>by rw[show a=0 from hr];cases n<;>simp[okG]
  | x :: r,n,a,⟨h1,h2,h3⟩,hn,hx=>by
    subst h1;cases n with
    | zero=>simp at hn
    | succ n =>
      simp only[okG,Bool.or_eq_true,Bool.and_eq_true,decide_eq_true_eq];exact .inr ⟨hx _ Oj,PL r n _ h3 (by simpa using hn) fun y c=>hx y (by simp[c])⟩
theorem iR.ak1 {b:Ly} {tab n:Nat} {ks:List aK} (h:iR b tab n ks) (c:∀k∈ks,k.pos≠0) (s:Nat):∀(d j:Nat),j+d=(gC ks s).length->Thr b ((gC ks s).getD j 0) ((gC ks s).drop j)
  | 0,j,hj=>by rw[List.drop_eq_nil_of_le Xx,HE Xx];rfl
  | d+1,j,hj=>by obtain⟨p,a⟩:=gF (l:=gC ks s) (show j<(gC ks s).length by omega);rw[fP a,getD_some a];obtain⟨k,hk,e,_⟩:=kE<|List.mem_of_getElem? a;refine⟨q,by rw[<- e];exact c k hk,?_⟩;rw[h.next s j p a];exact iR.ak1 h c s d (j+1) Xx
theorem iR.thr {b:Ly} {tab n:Nat} {ks:List aK} (h:iR b tab n ks) (a:∀k∈ks,k.pos≠0) {s:Nat} (hs:s<n):Thr b (d8 b<|tab+16*s) (gC ks s):=by have:=h.ak1 a s _ 0<|Nat.zero_add _;rw[List.drop_zero]at this;rw[h.head s hs];exact this
theorem OE {b:Ly} {h:Nat} {t:Ly} {k:Nat}:∀(r:List aK) (f l m:Nat),(∀x∈r,(d8 b (x.pos+16)=h/\(b.take<|x.pos+d8 b (x.pos+8)).drop (x.pos+k)=t)↔x.bI=t) ->
    Wp b h t k (r.map aK.pos) f l m=(((r.filter fun x=>decide (x.bI=t)).map aK.pos).getLastD f,(r.map aK.pos).getLastD l,m+r.length)
  | [],_,_,_,_=>rfl
  | x :: r,f,l,m,hx=>by
    have a:=hx x Oj;rw[List.map_cons,Wp,OE r _ _ _ fun y c=>hx y (by simp[c]),List.getLastD_cons,List.length_cons,show m+1+r.length=m+(r.length+1)by omega];by_cases ht:x.bI=t
    · rw[if_pos (a.2 ht),List.filter_cons_of_pos (by simpa using ht),List.map_cons,List.getLastD_cons]
    · rw[if_neg (fun h=>ht<|a.1 h),List.filter_cons_of_neg (by simpa using ht)]
theorem Zx {L:List Nat} {f p:Nat} (h:∀x∈L,x=p) (a:L≠[]):L.getLastD f=p:=by rw[List.getLastD_eq_getLast?,List.getLast?_eq_some_getLast a];exact h _<|List.getLast_mem a
theorem fF.ahe {b:Ly} {l:List Ob} {p e:Nat} {o:Ob} (a:fF b p l e) (c:o∈l):d8 b (o.pos+8)=o.size:=by have h:=a.mem c;rw[abb h.hd Xx];unfold SH;rw[lN Oj];exact GK (l:=[o.size]) (i:=0) q h.size.2
theorem CY {t:Ly} {ks:List aK} (h:∀k∈ks,k.bI≠t) (s:Nat):(((ks.filter fun k=>decide (k.bn=s)).filter fun x=>decide (x.bI=t)).map aK.pos).getLastD 0=0:=by
  have:(ks.filter fun k=>decide (k.bn=s)).filter (fun x=>decide (x.bI=t))=[]:=by rw[List.filter_eq_nil_iff];intro x A;simpa using h x (List.mem_filter.1 A).1
  rw[this];rfl
theorem CZ {t:Ly} {ks:List aK} {k:aK} (hk:k∈ks) (d:k.bI=t) (h1:∀x∈ks,x.bI=t->x.pos=k.pos):(((ks.filter fun x=>decide (x.bn=k.bn)).filter fun x=>decide (x.bI=t)).map aK.pos).getLastD 0=k.pos:=by
  refine Zx (fun p D=>?_)<|fun c=>?_
  · obtain⟨x,b,rfl⟩:=List.mem_map.1 D
    obtain⟨a,C⟩:=List.mem_filter.1 b;exact h1 x (List.mem_filter.1 a).1 (by simpa using C)
  have:k.pos∈(((ks.filter fun x=>decide (x.bn=k.bn)).filter fun x=>decide (x.bI=t)).map aK.pos):=List.mem_map.2 ⟨k,List.mem_filter.2 ⟨List.mem_filter.2 ⟨hk,by simp⟩,by simpa using d⟩,q⟩;rw[c]at this;simp at this
theorem acs {b:Ly} {tab n k h:Nat} {ks:List aK} {t:Ly} (R:iR b tab n ks) {s:Nat} (hs:s<n)
    (hp:∀x∈ks,x.pos≠0/\d8 b (x.pos+8)=k+x.bI.length/\x.pos+(k+x.bI.length)<=b.length/\seg b (x.pos+k) x.bI.length=x.bI/\(x.bI=t->d8 b (x.pos+16)=h)) (h40:40<=k) (hl:ks.length<=b.length) :
    nv b h t k b.length (d8 b<|tab+16*s) 0 0 0=((((ks.filter fun x=>decide (x.bn=s)).filter fun x=>decide (x.bI=t)).map aK.pos).getLastD 0,(iM s ks 0 0).2,(iM s ks 0 0).1)/\okG b k b.length (d8 b<|tab+16*s)=true:=by
  have T:=R.thr (fun x B=>(hp x B).1) hs;have A:(gC ks s).length<=b.length:=(by unfold gC;rw[List.length_map];exact lv (List.length_filter_le _ _) hl);refine⟨?_,PL _ _ _ T A fun a G=>?_⟩
  · rw[E2 _ _ _ _ _ _ T A,sR]
    unfold gC;rw[OE _ _ _ _ fun x B=>?_]
    · simp[List.length_map]
    obtain⟨_,C,D,E,F⟩:=hp x (List.mem_filter.1 B).1;have e:(b.take<|x.pos+d8 b (x.pos+8)).drop (x.pos+k)=x.bI:=(by rw[List.drop_take,C,show x.pos+(k+x.bI.length)-(x.pos+k)=x.bI.length by omega];exact E);rw[e];exact⟨fun h=>h.2,fun h=>⟨F h,h⟩⟩
  obtain⟨x,B,e,_⟩:=kE G;subst e;obtain⟨_,C,D,_⟩:=hp x B;rw[C];exact⟨by omega,by omega,D⟩
def hdD (d:bw):Nat × Nat × Nat × List UInt8 × List UInt8 × List UInt8 × List UInt8 × Nat × Nat × Nat:=(d.h.eS,d.h.cr,d.h.state,d.h.bE,d.h.bO,d.h.aR,d.h.seq,d.h.bP,d.h.bR,d.h.cF)
def hdM (m:Mk):Nat × Nat × Nat × List UInt8 × List UInt8 × List UInt8 × List UInt8 × Nat × Nat × Nat:=(m.h.eS,m.h.cr,m.h.state,m.h.bE,m.h.bO,m.h.aR,m.h.seq,m.h.bP,m.h.bR,m.h.cF)
structure jG (s:Nat) (d:bw) (m:Mk):Prop where
  vz:Agr d.b m.b
  len:d.h.n.length=21
  VY:m.h.n.length=20
  n0:d.aT 0=272
  n1:d.aT 1=d.b.length-272
  n3:d.aT 3=16*m.c.aj
  n5:d.aT 5=16*m.c.ak
  aT:∀i,i≠1->i≠8/\i<20->d.aT i=m.aT i
  n8:d.aT 8=m.aT 8+s
  dep:d.aT 20=m.depth
  hd:hdD d=hdM m
  bE:m.h.bE=m.c.bE
  key:m.h.cr=if m.c.bL=true then 4 else 0
  hl:d.h.bE.length=16/\d.h.bO.length=16/\d.h.aR.length=16/\d.h.seq.length=16/\d.h.state<256
theorem fE {d:bw} {k v j:Nat} (h:k≠j):(d.bD k v).aT j=d.aT j:=k9 h
theorem AP {d:bw} {k v:Nat} (h:k<d.h.n.length):(d.bD k v).aT k=v:=by show(d.h.n.set k v).getD k 0=v;rw[List.getD_eq_getElem?_getD,List.getElem?_set_self h];rfl
theorem jG.bZ {s:Nat} {d:bw} {m:Mk} (S:jG s d m) (t:Ly):d.bZ t=bV m t:=by have h:=S.hd;unfold hdD hdM at h;simp only[Prod.mk.injEq]at h;obtain⟨_,A,_,B,_⟩:=h;unfold bw.bZ bV;rw[A,B,S.bE,S.key];cases m.c.bL <;> rfl
theorem jG.to {s:Nat} {d:bw} {m m':Mk} (S:jG s d m) (hb:m'.b=m.b) (e:m'.c=m.c) (a:m'.h=m.h) (j:m'.depth=m.depth):jG s d m':=by
  have f:∀i,m'.aT i=m.aT i:=fun i=>by show m'.h.n.getD i 0=_;rw[a];rfl
  exact⟨by rw[hb];exact S.vz,S.len,by rw[a];exact S.VY,S.n0,S.n1,by rw[e];exact S.n3,by rw[e];exact S.n5,fun i g C=>by rw[f];exact S.aT i g C,by rw[f];exact S.n8,by rw[j];exact S.dep,by unfold hdM;rw[a];exact S.hd,by rw[a,e];exact S.bE,by rw[a,e];exact S.key,S.hl⟩
theorem jG.put {s:Nat} {d:bw} {m:Mk} (S:jG s d m) (p v:Nat):jG s (d.put p v) (m.put p v) :=
  ⟨S.vz.put p v,S.len,S.VY,S.n0,by show d.aT 1=(gq d.b p v).length-272;rw[dV];exact S.n1,S.n3,S.n5,S.aT,S.n8,S.dep,S.hd,S.bE,S.key,S.hl⟩
theorem jG.bD {s:Nat} {d:bw} {m:Mk} (S:jG s d m) {k v:Nat} (hk:k≠0/\k≠1/\k≠3/\k≠5/\k≠8/\k<20):jG s (d.bD k v) (m.bD k v):=by
  refine⟨S.vz,by show(d.h.n.set k v).length=21;rw[List.length_set];exact S.len,by show(m.h.n.set k v).length=20;rw[List.length_set];exact S.VY,(fE Xx).trans S.n0,(fE Xx).trans S.n1,(fE Xx).trans S.n3,(fE Xx).trans S.n5,fun i B A=>?_,by rw[fE Xx,cg Xx];exact S.n8,(fE Xx).trans S.dep,S.hd,S.bE,S.key,S.hl⟩;by_cases e:k=i
  · subst e
    rw[AP (by rw[S.len];omega),xf (by rw[S.VY];exact A.2)]
  rw[fE e,cg e];exact S.aT i B A
theorem jG.al2 {s:Nat} {d:bw} {m:Mk} (S:jG s d m) (v:Nat):jG s (d.bD 20 v) {m with depth:=v} :=
  ⟨S.vz,by show(d.h.n.set 20 v).length=21;rw[List.length_set];exact S.len,S.VY,(fE Xx).trans S.n0,(fE Xx).trans S.n1,(fE Xx).trans S.n3,(fE Xx).trans S.n5,fun i a b=>(fE Xx).trans<|S.aT i a b,(fE Xx).trans S.n8,AP (by rw[S.len];omega),S.hd,S.bE,S.key,S.hl⟩
theorem jG.app {s:Nat} {d:bw} {m:Mk} (S:jG s d m) (o:Ly):jG s (({d with b:=d.b ++ o}:bw).bD 1<|(d.b ++ o).length-272) {m with b:=m.b ++ o} :=
  ⟨S.vz.app o,by show(d.h.n.set 1 _).length=21;rw[List.length_set];exact S.len,S.VY,(fE (d:={d with b:=d.b ++ o}) Xx).trans S.n0,AP (d:={d with b:=d.b ++ o}) (by show 1<d.h.n.length;rw[S.len];omega),(fE (d:={d with b:=d.b ++ o}) Xx).trans S.n3,(fE (d:={d with b:=d.b ++ o}) Xx).trans S.n5,fun i a c=>(fE (d:={d with b:=d.b ++ o}) Xx).trans<|S.aT i a c,(fE (d:={d with b:=d.b ++ o}) Xx).trans S.n8,(fE (d:={d with b:=d.b ++ o}) Xx).trans S.dep,S.hd,S.bE,S.key,S.hl⟩
theorem jG.add {s:Nat} {d:bw} {m:Mk} (S:jG s d m) (o:Ly):(d.add o).1=(m.bJ o).1/\(d.add o).1=d.b.length/\jG s (d.add o).2 (m.bJ o).2:=by refine⟨S.vz.1,q,?_⟩;have E:=S.app o;have B:=E.bD (k:=6) (v:=d.b.length) Xz;have G:=B.bD (k:=7) (v:=((({d with b:=d.b ++ o}:bw).bD 1<|(d.b ++ o).length-272).bD 6 d.b.length).aT 7+1%18446744073709551616) Xz;have C:=B.bD (k:=7) (v:=(((({d with b:=d.b ++ o}:bw).bD 1<|(d.b ++ o).length-272).bD 6 d.b.length).aT 7+1)%18446744073709551616) Xz;have A:((({d with b:=d.b ++ o}:bw).bD 1<|(d.b ++ o).length-272).bD 6 d.b.length).aT 7=(({m with b:=m.b ++ o}:Mk).bD 6 d.b.length).aT 7:=B.aT 7 Xz Xz;have F:({d with b:=d.b ++ o}:bw).aT 0=272:=S.n0;unfold bw.add Mk.bJ;simp only;rw[F];rw[A]at C;have D:=S.vz.1;rw[D]at C A;rw[show d.b.length=m.b.length from D,A];exact C
theorem jG.hang {s:Nat} {d:bw} {m:Mk} (S:jG s d m) {c:ja} {ks:List aK} {tab bn p:Nat} (h1:c.bn=tab+16*bn) (b:c.last=(iM bn ks 0 0).2) (a:c.last=0↔(iM bn ks 0 0).1=0):jG s (d.join c p) (m.hang ks tab p bn).2:=by
  unfold bw.join Mk.hang;generalize iM bn ks 0 0=r at *;obtain⟨n,q⟩:=r;simp only at b a ⊢;rw[h1];by_cases h0:n=0
  · rw[if_pos h0,if_pos (a.2 h0)]
    exact(S.put _ _).put _ _
  rw[if_neg h0,if_neg (fun h=>h0<|a.1 h),b];exact(S.put _ _).put _ _
theorem jG.look {s:Nat} {d:bw} {m:Mk} (S:jG s d m) {ks:List aK} {tab n k:Nat} (R:iR m.b tab n ks) (q:272<=tab) (r:1<=n) (l:tab+16*n<=m.b.length) (hk:40<=k) (hl:ks.length<=m.b.length)
    (ho:∀x∈ks,272<=x.pos/\d8 m.b (x.pos+8)=k+x.bI.length/\x.pos+(k+x.bI.length)<=m.b.length/\seg m.b (x.pos+k) x.bI.length=x.bI/\d8 m.b (x.pos+16)=bV m x.bI) (t:Ly) :
    d.okL tab (16*n) t k/\(d.look tab (16*n) t k).bn=tab+16*(bV m t%n)/\(d.look tab (16*n) t k).last=(iM (bV m t%n) ks 0 0).2/\(d.look tab (16*n) t k).many=(iM (bV m t%n) ks 0 0).1 /\
    ((d.look tab (16*n) t k).last=0↔(iM (bV m t%n) ks 0 0).1=0) /\
    (d.look tab (16*n) t k).found=(((ks.filter fun x=>decide (x.bn=bV m t%n)).filter fun x=>decide (x.bI=t)).map aK.pos).getLastD 0:=by
  have a:=S.vz;have f:bV m t%n<n:=Nat.mod_lt _ Xx;have j:iR d.b tab n ks:=R.rV (fun s f=>a.d8 Xx) fun x e=>a.d8 (by have:=ho x e;omega);have D:=acs (b:=d.b) (k:=k) (h:=bV m t) (t:=t) j f (fun x e=>by
    obtain⟨p,g,G,H,i⟩:=ho x e;refine⟨by omega,by rw[a.d8 Xx];exact g,by rw[a.1];exact G,by rw[a.seg Xx];exact H,fun c=>by rw[a.d8 Xx,i,c]⟩) hk (by rw[a.1];exact hl)
  have sl:d.bn tab (16*n) t=tab+16*(bV m t%n):=by unfold bw.bn;rw[S.bZ,Nat.mul_div_cancel_left _ Xz,Nat.mul_comm]
  have c:d.look tab (16*n) t k={bn:=tab+16*(bV m t%n),found:=(((ks.filter fun x=>decide (x.bn=bV m t%n)).filter fun x=>decide (x.bI=t)).map aK.pos).getLastD 0,last:=(iM (bV m t%n) ks 0 0).2,many:=(iM (bV m t%n) ks 0 0).1}:=by unfold bw.look;rw[sl,S.bZ,D.1]
  refine⟨⟨by omega,by rw[a.1];exact l,by rw[sl];exact D.2⟩,by rw[c],by rw[c],by rw[c],?_,by rw[c]⟩;rw[c];simp only;rw[sR];simp only[Nat.zero_add];constructor
  · intro C
    by_cases hne:gC ks (bV m t%n)=[]
    · rw[hne];rfl
    have:=u7 _ hne;rw[C]at this;obtain⟨x,e,o,_⟩:=kE<|List.mem_of_getElem? this;have:=ho x e;omega
  intro C;rw[List.eq_nil_of_length_eq_zero C];rfl
structure FOk (m:Mk) (l:List Ob):Prop where
  fK:Stat m l
  r5:iR m.b (304+16*m.c.aj) m.c.ak m.aC
  s5:∀k∈m.aC,k.bn=bV m k.bI%m.c.ak
  one:∀x∈m.aC,∀y∈m.aC,x.bI=y.bI->x=y
  c16:m.aC.length<=m.b.length
theorem Stat.tabs {m:Mk} {l:List Ob} (h:Stat m l):304+16*m.c.aj+16*m.c.ak<=m.b.length:=by have:=(h.dY.mem h.MI).le;have:=ea<|16+16*m.c.ak;simp only at *;omega
theorem Stat.ahF {m:Mk} {l:List Ob} (h:Stat m l):∀x∈m.aC,272<=x.pos/\d8 m.b (x.pos+8)=40+x.bI.length/\x.pos+(40+x.bI.length)<=m.b.length/\seg m.b (x.pos+40) x.bI.length=x.bI/\d8 m.b (x.pos+16)=bV m x.bI:=fun x a=>by have f:=h.fld x a;have o:=h.dY.mem f.ob;have:=o.ge;have:=o.le;have:=ea<|40+x.bI.length;simp only at *;exact⟨by omega,h.dY.ahe f.ob,by omega,f.bI,f.bZ⟩
theorem Stat.ah0 {m:Mk} {l:List Ob} (h:Stat m l):∀x∈m.ai,272<=x.pos/\d8 m.b (x.pos+8)=64+x.bI.length/\x.pos+(64+x.bI.length)<=m.b.length/\seg m.b (x.pos+64) x.bI.length=x.bI/\d8 m.b (x.pos+16)=bV m x.bI:=fun x a=>by have f:=h.data x a;have o:=h.dY.mem f.ob;have:=o.ge;have:=o.le;have:=ea<|64+x.bI.length;simp only at *;exact⟨by omega,h.dY.ahe f.ob,by omega,f.bI,f.bZ⟩
theorem jG.name {s:Nat} {d:bw} {m:Mk} {l:List Ob} (S:jG s d m) (F:FOk m l) (t:Ly):d.okL (d.aT 4) (d.aT 5) t 40/\(d.name t).1=(m.field t).1/\jG s (d.name t).2 (m.field t).2:=by
  have sl:=F.fK.slots;have T:d.aT 4=304+16*m.c.aj:=(S.aT 4 Xz Xz).trans F.fK.n4;obtain⟨L,M,N,D,O,E⟩:=S.look F.r5 Xx sl.2 F.fK.tabs Xx F.c16 F.fK.ahF t;rw[<- S.n5,<- T]at L M N D O E;refine⟨L,?_⟩;unfold bw.name Mk.field;simp only;generalize hc:d.look (d.aT 4) (d.aT 5) t 40=c at *;cases hk:nk t m.aC with
  | some p =>
    obtain⟨k,B,b,K⟩:=uh hk;have e:c.found=p:=by
      rw[E,<- b];have:=CZ (ks:=m.aC) B K fun x Z I=>by rw[F.one x Z k B (I.trans K.symm)]
      rw[F.s5 k B,K]at this;exact this
    have Y:c.found≠0:=(by have:=F.fK.ahF k B;omega);rw[if_pos Y];exact⟨e,S⟩
  | none =>
    have e:c.found=0:=(by rw[E];exact CY (vK hk) _);rw[if_neg Xx];simp only;rw[S.bZ];unfold bV;obtain⟨P,U,G⟩:=S.add<|dD {bZ:=cu m.c.bL m.c.bE t,bF:=0,dat:=0,ay:=t};have Q:=dn m<|dD {bZ:=cu m.c.bL m.c.bE t,bF:=0,dat:=0,ay:=t};have R:=ru m (dD {bZ:=cu m.c.bL m.c.bE t,bF:=0,dat:=0,ay:=t}) (i:=4) Xz;have X:(m.bJ<|dD {bZ:=cu m.c.bL m.c.bE t,bF:=0,dat:=0,ay:=t}).2.depth=m.depth:=rfl;generalize d.add (dD {bZ:=cu m.c.bL m.c.bE t,bF:=0,dat:=0,ay:=t})=r at *;generalize m.bJ (dD {bZ:=cu m.c.bL m.c.bE t,bF:=0,dat:=0,ay:=t})=r' at *;obtain⟨p,A⟩:=r;obtain⟨u,C⟩:=r';simp only at P U G Q R X ⊢;subst P;obtain⟨V,j,W,_⟩:=Q;rw[V,W,R,F.fK.n4];have J:=G.hang (c:=c) (ks:=m.aC) (tab:=304+16*m.c.aj) (bn:=bV m t%m.c.ak) (p:=p) (by rw[M,T]) N O;have H:(C.hang m.aC (304+16*m.c.aj) p<|bV m t%m.c.ak).1=(iM (bV m t%m.c.ak) m.aC 0 0).1:=(by unfold Mk.hang;rfl);unfold bV at J H D;generalize C.hang m.aC (304+16*m.c.aj) p (cu m.c.bL m.c.bE t%m.c.ak)=r at *;obtain⟨n,o⟩:=r;simp only at J H ⊢;rw[H,<- D];refine⟨trivial,?_⟩;have a:(A.join c p).aT 20=C.depth:=(by have:=(KX A c p).1;show(A.join c p).h.n.getD 20 0=_;rw[this];exact G.dep);have f:=J.bD (k:=16) (v:=((A.join c p).aT 16+1)%18446744073709551616) Xz;have g:=f.al2<|max (((A.join c p).bD 16<|((A.join c p).aT 16+1)%18446744073709551616).aT 20) c.many;refine g.to q q ?_ ?_
    · rw[J.aT 16 Xz Xz];rfl
    · show max C.depth c.many=max _ c.many
      rw[fE Xz,a]
def Mk.mid (m:Mk) (x:Pr):Mk :=
  match m.bJ (ej {bZ:=cu m.c.bL m.c.bE (ay x),bF:=0,cH:=0,entry:=0,array:=0,aZ:=0,ay:=ay x})with
  | (p,m1)=>match m1.hang m1.ai (m1.aT 2) p (cu m.c.bL m.c.bE (ay x)%m1.c.aj)with
    | (n,m29) =>
      let m3:=m29.bD 19<|max (m29.aT 19) n
      let m4:=m3.bD 15<|(m3.aT 15+1)%18446744073709551616
      {m4 with ai:=m4.ai ++ [({bI:=ay x,pos:=p,bn:=cu m.c.bL m.c.bE (ay x)%m1.c.aj,aZ:=0,aL:=[]}:aK)]}
def Mk.ahS (m:Mk) (p k:Nat):Mk:=(m.put (p+32) (mA m.b (k+32:Nat) 8).1).put (k+32) p
theorem abm {m:Mk} {x:Pr} (hk:kU (ay x) m.ai 0=none):m.data x=((((m.mid x).field x.name).2.ahS m.b.length ((m.mid x).field x.name).1).ai.length-1,((m.mid x).field x.name).2.ahS m.b.length ((m.mid x).field x.name).1):=by unfold Mk.data Mk.mid;rw[hk];rfl
theorem OQ {m:Mk} {l:List Ob} (h:Stat m l) {x:Pr} (an:∀k∈m.ai,k.bI≠ay x) (aA:x.name.length<=64/\x.value.length<=256) :
    Stat (m.mid x) (l ++ [⟨m.b.length,1,64+(ay x).length⟩])/\(m.mid x).aC=m.aC/\(m.mid x).c=m.c/\(m.mid x).ai=m.ai ++ [kn (ay x) m.b.length (bV m (ay x)%m.c.aj)] /\
    (m.mid x).b=sP (m.b ++ vE (bV m<|ay x) (ay x)) m.ai 288 m.b.length (bV m (ay x)%m.c.aj):=by
  obtain⟨A,j⟩:∃Z,Z=m.mid x:=⟨_,q⟩;rw[<- j];unfold Mk.mid at j;have aq:=ga x;have ae:vE (bV m<|ay x) (ay x)=ej {bZ:=cu m.c.bL m.c.bE (ay x),bF:=0,cH:=0,entry:=0,array:=0,aZ:=0,ay:=ay x}:=rfl;rw[ae];generalize hF:ej {bZ:=cu m.c.bL m.c.bE (ay x),bF:=0,cH:=0,entry:=0,array:=0,aZ:=0,ay:=ay x}=o at j ⊢;have g:o=lW 1 (nums [bV m (ay x),0,0,0,0,0] ++ ay x):=hF.symm;obtain⟨⟨r,d⟩,N,U,f⟩:=ZJ (k:=1) Xz [bV m (ay x),0,0,0,0,0] (ay x) (by have:=sU m<|ay x;intro v ao;simp at ao;omega);rw[<- g]at d N U f;simp only[List.length_cons,List.length_nil,Nat.zero_add,Nat.reduceAdd,Nat.reduceMul]at d N f;have B:=dA.obj (m:=m) (o:=o) h.dY (.inl q) d N Xx Xx;have W:(m.bJ o).2.b=m.b ++ o:=rfl;have X:(m.bJ o).1=m.b.length:=rfl;have s:=dn m o;have V:(m.bJ o).2.aT 2=m.aT 2:=(by simp only[Mk.bJ];rw[cg Xx,cg Xx];rfl);generalize m.bJ o=z at *;obtain⟨p,D⟩:=z;simp only at B W X s V j ⊢;subst X;have hs:cu m.c.bL m.c.bE (ay x)%D.c.aj<m.c.aj:=(by rw[s.1];exact Nat.mod_lt _ (by have:=h.slots;omega));have O:=ahf h hs;rw[<- V]at O;have Q:=dA.hang (m:=D) (p:=m.b.length) (ks:=D.ai) B.dY ⟨O.1.mono B.mem,O.2.mono B.mem⟩ (fun k hk=>by
    rw[s.2.1]at hk;have:=(h.data k hk).ob;exact⟨_,B.mem _ this,.inr ⟨.inl ⟨q,by simp only;omega⟩,.inl q⟩⟩)
  have C:=gA D D.ai (D.aT 2) m.b.length<|cu m.c.bL m.c.bE (ay x)%D.c.aj;have M:=SF D D.ai (D.aT 2) m.b.length<|cu m.c.bL m.c.bE (ay x)%D.c.aj;have af:cu m.c.bL m.c.bE (ay x)%D.c.aj=bV m (ay x)%m.c.aj:=(by rw[s.1];rfl);rw[V,h.n2,s.2.1,W]at M;rw[<- af];generalize hsl:cu m.c.bL m.c.bE (ay x)%D.c.aj=bn at *;rw[V,h.n2,s.2.1]at Q C j;generalize D.hang m.ai 288 m.b.length bn=z at *;obtain⟨n,P⟩:=z;simp only at Q C M j ⊢;obtain⟨ah,ak,al,av,aw,ax⟩:=C;have ab:=B.trans Q;have F:A.b=P.b/\A.c=P.c/\A.main=P.main/\A.aC=P.aC/\A.ai=P.ai ++ [({bI:=ay x,pos:=m.b.length,bn:=bn,aZ:=0,aL:=[]}:aK)]:=(by subst j;exact⟨q,q,q,q,q⟩);have ad:=ab.to (m'':=A) F.1 F.2.1 F.2.2.1 (fun i _ _ az=>by
    subst j;exact(cg (m:=P.bD 19<|max (P.aT 19) n) Xx).trans<|cg Xx) (by subst j;simp[Mk.bD])
  clear j;obtain⟨S,ag,au,a4,a5⟩:=F;have H:A.ai=m.ai ++ [({bI:=ay x,pos:=m.b.length,bn:=bn,aZ:=0,aL:=[]}:aK)]:=(by rw[a5,ak]);have L:A.aC=m.aC:=(by rw[a4,al,s.2.2.1]);have aa:(⟨m.b.length,1,64+(ay x).length⟩:Ob)∈l ++ [⟨m.b.length,1,64+(ay x).length⟩]:=Oj;refine⟨?_,L,by rw[ag,ah,s.1],H,by rw[S,M]⟩;refine h.step ad (fun k hk=>?_) (fun k hk=>.inl<|L ▸ hk) (fun i J k I G t e=>?_) (fun y a hk=>?_)<|fun y a hk=>?_
  · rw[H,List.mem_append,List.mem_singleton]at hk
    rcases hk with hk|rfl
    · exact .inl hk
    right;have ap:s9 D.b (l ++ [⟨m.b.length,1,64+(ay x).length⟩]) (bV m<|ay x) ({bI:=ay x,pos:=m.b.length,bn:=bn,aZ:=0,aL:=[]}:aK):=by
      refine⟨aa,?_,?_⟩
      · rw[W,ot];exact U 0 _ q
      · rw[W,FC];exact f
    rw[S];exact ap.jU B.dY Q.jU (fun ar am=>am.ZC Q.dY) fun _ h=>h
  · rw[H]at G t
    have T:∀(i:Nat) (k:aK),m.ai[i]? = some k->k.pos+16<=m.b.length/\k.bI≠ay x:=fun i k G=>by have Y:=List.mem_of_getElem? G;have:=(h.dY.mem (h.data k Y).ob).le;have:=ea<|64+k.bI.length;simp only at *;exact⟨by omega,an k Y⟩
    have K:∀(i:Nat) (k:aK),(m.ai ++ [({bI:=ay x,pos:=m.b.length,bn:=bn,aZ:=0,aL:=[]}:aK)])[i]? = some k->(m.ai[i]? = some k)\/i=m.ai.length/\k={bI:=ay x,pos:=m.b.length,bn:=bn,aZ:=0,aL:=[]}:=fun i k G=>by
      rcases Nat.lt_or_ge i m.ai.length with u|u
      · rw[List.getElem?_append_left u]at G;exact .inl G
      · have w:=(List.getElem?_eq_some_iff.1 G).1
        simp at w;rw[List.getElem?_append_right u,show i-m.ai.length=0 by omega]at G;exact .inr ⟨by omega,by simpa using G.symm⟩
    rcases K i k G with R|⟨R,rfl⟩
    · rcases K J I t with E|⟨E,rfl⟩
      · exact h.one i J k I R E e
      have:=T i k R
      rcases e with e|e
      · simp only at e;omega
      exact absurd e this.2
    rcases K J I t with E|⟨E,rfl⟩
    · have:=T J I E
      rcases e with e|e
      · simp only at e;omega
      exact absurd e.symm this.2
    omega
  · rw[H]
    rcases List.mem_append.1 a with a|a
    · obtain⟨k,R,E⟩:=h.all y a hk
      exact⟨k,List.mem_append_left _ R,E⟩
    simp at a;subst a;exact⟨({bI:=ay x,pos:=m.b.length,bn:=bn,aZ:=0,aL:=[]}:aK),List.mem_append_right _ Oj,q⟩
  rw[L]
  rcases List.mem_append.1 a with a|a
  · exact h.aaR y a hk
  simp at a;subst a;simp at hk
theorem af0 {m:Mk} {l:List Ob} (h:Stat m l) (H:Hs m) {x:Pr} (u:∀k∈m.ai,k.bI≠ay x) (v:x.name.length<=64/\x.value.length<=256):FOk (m.mid x) (l ++ [⟨m.b.length,1,64+(ay x).length⟩]):=by
  obtain⟨Q,C,G,A,j⟩:=OQ h u v;have P:∀t,bV (m.mid x) t=bV m t:=fun t=>by unfold bV;rw[G]
  obtain⟨p,g,R,z,D⟩:=h.dd;have o:bV m (ay x)%m.c.aj<m.c.aj:=Nat.mod_lt _ (by have:=h.slots;omega);have w:=h.tabs;have f:∀a,a+8<=m.b.length->(a+8<=288+16*(bV m (ay x)%m.c.aj)\/288+16*(bV m (ay x)%m.c.aj)+16<=a)->(∀y∈m.ai,a+8<=y.pos+24\/y.pos+32<=a)->d8 (m.mid x).b a=d8 m.b a:=fun a d q r=>by rw[j];exact(wJ (k:=kn (ay x) m.b.length<|bV m (ay x)%m.c.aj) (n:=m.c.aj) o q r).trans<|pF d
  refine⟨Q,?_,fun k hk=>?_,fun a d c i=>?_,?_⟩
  · rw[C,G]
    exact H.r5.rV (fun s T=>f _ Xx Xx fun y e=>by have:=p y e;omega) fun k hk=>f _ (by have:=g k hk;omega) (by have:=g k hk;omega) fun y e=>by have:=D y e k hk;omega
  · rw[C]at hk;rw[P,G];exact H.s5 k hk
  · rw[C]at d i;exact H.one a d c i
  rw[C,j,yt,List.length_append];have:=H.c16;omega
set_option maxRecDepth 4000 in
theorem jG.data {s:Nat} {d:bw} {m:Mk} {l:List Ob} (S:jG s d m) (h:Stat m l) (H:Hs m) {x:Pr} (A:(ez x).1=ay x) (Z:x.name.length<=64/\x.value.length<=256) (hb:m.b.length<=700000) :
    d.EO x/\(d.data x.name (ez x).1).1={pos:=fR (m.data x).2.ai (m.data x).1,bZ:=bV m (ay x)}/\jG s (d.data x.name (ez x).1).2 (m.data x).2:=by
  have sl:=h.slots;have aw:=h.tabs;have ax:=ga x;have n2:d.aT 2=288:=(S.aT 2 Xz Xz).trans h.n2;obtain⟨E,L,M,F,g,I⟩:=S.look H.r4 Xx sl.1 Xx Xx H.c15 h.ah0<|ay x;rw[<- S.n3,<- n2]at E L M F g I;have a:d.b.length<=800000/\d.h.n.getD 0 0<=d.b.length/\(ay x).length<=1000/\x.name.length<=1000:=by have:=S.vz.1;have Q:d.h.n.getD 0 0=272:=S.n0;exact⟨by omega,by omega,by omega,by omega⟩
  unfold bw.EO bw.data;simp only[A];cases hk:kU (ay x) m.ai 0 with
  | some i =>
    obtain⟨k,e,V,_⟩:=ug hk;have W:=List.mem_of_getElem? e;rw[Nat.sub_zero]at e;have O:(d.look (d.aT 2) (d.aT 3) (ay x) 64).found=k.pos:=by
      rw[I];have:=CZ (ks:=m.ai) W V fun y ao af=>by obtain⟨ap,A⟩:=List.mem_iff_getElem?.1 ao;have:=h.one ap i y k A e<|.inr<|af.trans V.symm;subst this;rw[A]at e;rw[Option.some.inj e]
      rw[H.s4 k W,V]at this;exact this
    have Q:(d.look (d.aT 2) (d.aT 3) (ay x) 64).found≠0:=(by have:=h.ah0 k W;omega);have em:m.data x=(i,m):=(by unfold Mk.data;rw[hk]);rw[em,if_pos Q];refine⟨⟨E,a.1,a.2.1,a.2.2.1,a.2.2.2,.inl Q⟩,?_,S⟩;simp only;rw[O,S.bZ,(mX e).2]
  | none =>
    have B:=qW hk;have O:(d.look (d.aT 2) (d.aT 3) (ay x) 64).found=0:=(by rw[I];exact CY B _);have ad:=af0 h H B Z;obtain⟨av,aD,aE,s4,s5⟩:=OQ h B Z;have ae:(d.kD<|ay x).1=m.b.length/\jG s (d.kD<|ay x).2 (m.mid x):=(by unfold bw.kD Mk.mid;simp only;generalize hc:d.look (d.aT 2) (d.aT 3) (ay x) 64=c at *;rw[S.bZ];unfold bV;obtain⟨w,ah,z⟩:=S.add<|ej {bZ:=cu m.c.bL m.c.bE (ay x),bF:=0,cH:=0,entry:=0,array:=0,aZ:=0,ay:=ay x};have U:(m.bJ<|ej {bZ:=cu m.c.bL m.c.bE (ay x),bF:=0,cH:=0,entry:=0,array:=0,aZ:=0,ay:=ay x}).1=m.b.length:=rfl;have X:=dn m<|ej {bZ:=cu m.c.bL m.c.bE (ay x),bF:=0,cH:=0,entry:=0,array:=0,aZ:=0,ay:=ay x};have Y:=ru m (ej {bZ:=cu m.c.bL m.c.bE (ay x),bF:=0,cH:=0,entry:=0,array:=0,aZ:=0,ay:=ay x}) (i:=2) Xz;generalize d.add (ej {bZ:=cu m.c.bL m.c.bE (ay x),bF:=0,cH:=0,entry:=0,array:=0,aZ:=0,ay:=ay x})=r at *;generalize m.bJ (ej {bZ:=cu m.c.bL m.c.bE (ay x),bF:=0,cH:=0,entry:=0,array:=0,aZ:=0,ay:=ay x})=r' at *;obtain⟨p,D⟩:=r;obtain⟨aC,aa⟩:=r';simp only at w ah z U X Y ⊢;subst w;obtain⟨c1,c2,c3,_⟩:=X;rw[c1,c2,Y,h.n2];have j:=z.hang (c:=c) (ks:=m.ai) (tab:=288) (bn:=bV m (ay x)%m.c.aj) (p:=p) (by rw[L,n2]) M g;have T:(aa.hang m.ai 288 p<|bV m (ay x)%m.c.aj).1=(iM (bV m (ay x)%m.c.aj) m.ai 0 0).1:=(by unfold Mk.hang;rfl);unfold bV at j T F;generalize aa.hang m.ai 288 p (cu m.c.bL m.c.bE (ay x)%m.c.aj)=r at *;obtain⟨n,C⟩:=r;simp only at j T ⊢;rw[T,<- F];refine⟨U,?_⟩;have ar:=j.bD (k:=15) (v:=((D.join c p).aT 15+1)%18446744073709551616) Xz;have au:=ar.bD (k:=19) (v:=max (((D.join c p).bD 15<|((D.join c p).aT 15+1)%18446744073709551616).aT 19) c.many) Xz;refine au.to q q ?_ rfl;show {C.h with n:=(C.h.n.set 19<|max (C.aT 19) c.many).set 15 (((C.bD 19<|max (C.aT 19) c.many).aT 15+1)%18446744073709551616)}={C.h with n:=(C.h.n.set 15<|((D.join c p).aT 15+1)%18446744073709551616).set 19 (max (((D.join c p).bD 15<|((D.join c p).aT 15+1)%18446744073709551616).aT 19) c.many)};rw[fE Xz,j.aT 15 Xz Xz,j.aT 19 Xz Xz,cg Xz,List.set_comm _ _ Xz]);rw[if_neg Xx];obtain⟨t,ab⟩:=ae;obtain⟨o,P,u⟩:=ab.name ad x.name;refine⟨⟨E,a.1,a.2.1,a.2.2.1,a.2.2.2,.inr o⟩,?_⟩;rw[abm hk];obtain⟨aB,az,ag,⟨aq,K,R⟩,G⟩:=NN av x.name Xx;have al:=ag.ahF aq K;generalize d.kD (ay x)=r at *;obtain⟨p,ak⟩:=r;simp only at t ab o P u ⊢;subst t;generalize ak.name x.name=r at *;generalize (m.mid x).field x.name=r' at *;obtain⟨f,N⟩:=r;obtain⟨aA,J⟩:=r';simp only at P u R al G K ⊢;subst P;have an:(mA J.b (f+32:Nat) 8).1=d8 N.b (f+32):=(by rw[KT Xx,u.vz.d8 Xx]);unfold Mk.ahS;rw[an];refine⟨?_,(u.put _ _).put _ _⟩;rw[S.bZ];have:((J.put (m.b.length+32)<|d8 N.b<|f+32).put (f+32) m.b.length).ai=m.ai ++ [kn (ay x) m.b.length (bV m (ay x)%m.c.aj)]:=(by show J.ai=_;rw[G,s4]);rw[this];have am:(m.ai ++ [kn (ay x) m.b.length (bV m (ay x)%m.c.aj)])[(m.ai ++ [kn (ay x) m.b.length (bV m (ay x)%m.c.aj)]).length-1]? = some (kn (ay x) m.b.length<|bV m (ay x)%m.c.aj):=Oj;rw[(mX am).2];rfl
theorem uz {p:Pr} (h:right p.pb=true):(ez p).1=ay p:=by
  have A:=jX.2 h;unfold ez at A ⊢;split at A
  · simp at A
  rename_i h1;split at A
  · simp at A
  rename_i h3;rw[if_neg h1,if_neg h3]
theorem vM {m m':Mk} {ks:List Nat} (hd:p8 m.ai m'.ai) (d:m'.c=m.c) (hl:∀i∈ks,i<m.ai.length):dG m' ks=dG m ks:=by unfold dG;refine List.map_congr_left fun i C=>?_;obtain⟨_,b,a⟩:=hd.at<|hl i C;unfold ku at a;rw[b,a,d]
theorem jG.jg {s:Nat} {p:Mk} (t:xX p):∀(fs b:List Pr) (d:bw) (m:Mk) (l:List Ob) (ps:List (List UInt8)) (a:List Nat) (o:List eG) (ks:List Nat) (n:Nat),jG s d m->Stat m l->Hs m->XR m b ps a->oh p m ps a n->a.Perm ks->o=dG m ks ->
    (∀q∈fs,BD q/\right q.pb=true)->((b ++ fs).map ay).Nodup->n+fs.length<=16 ->
    bw.yS fs d/\jG s (bw.jg fs d o).2 (eN fs m ps a).2.2/\∃j,(bw.jg fs d o).1=dG (eN fs m ps a).2.2 j/\(eN fs m ps a).2.1.Perm j
  | [],b,d,m,l,ps,a,o,ks,n,S,_,_,_,_,hp,ho,_,_,_=>⟨trivial,S,ks,ho,hp⟩
  | x :: r,b,d,m,l,ps,a,o,ks,n,S,h,H,W,D,hp,ho,hb,hnd,hn=>by
    obtain⟨bx,f⟩:=hb x Oj;have I:=uz f;simp only[List.length_cons]at hn;have O:=D.app.le;have Q:=t.small;have L:ay x∉b.map ay:=fun J=>by rw[List.map_append,List.map_cons]at hnd;exact(List.nodup_append.1 hnd).2.2 _ J _ Oj rfl
    obtain⟨B,A,E⟩:=S.data h H I bx Xx;obtain⟨M,e⟩:=AO h x bx;have n61:∀c∈x.name,c≠61:=WB (by unfold right at f;simp only[Bool.and_eq_true]at f;exact f.1);have P:=ga x;have z:=(VW h H x n61 Xx ⟨by have:=bx.1;have:=bx.2;omega,by have:=bx.1;omega⟩).1;have F:=JS W h e L;have w:=vD D bx;have g:=(tZ m x D.app.fit).c;obtain⟨k,hk,K⟩:=e.got;have N:(jK (m.data x).2.ai (m.data x).1 a).Perm (ks ++ [(m.data x).1]):=(EU _ _ _).trans<|(List.Perm.cons _ hp).trans<|List.perm_append_comm (l₁:=[(m.data x).1]);have lt:∀i∈ks,i<m.ai.length:=fun i hi=>W.lt i<|hp.mem_iff.2 hi;have G:o ++ [(d.data x.name (ez x).1).1]=dG (m.data x).2 (ks ++ [(m.data x).1]):=by
      rw[A,ho,<- vM e.ext g lt];unfold dG;rw[List.map_append,List.map_cons,List.map_nil];have:((m.data x).2.ai.getD (m.data x).1 known0).bI=ay x:=(by have:=(mX hk).1;unfold ku at this;rw[this,K]);rw[this,g];rfl
    have R:=jG.jg t r (b ++ [x]) (d.data x.name (ez x).1).2 (m.data x).2 M _ _ _ _ (n+1) E e.fK z F w N G (fun q y=>hb q (by simp[y])) (by rw[List.append_assoc];exact hnd) Xx;obtain⟨u,v,C⟩:=R;exact⟨⟨B,u⟩,v,C⟩
theorem qZ {x y:eG}:leI x y=true↔x.pos<=y.pos:=by unfold leI;simp
theorem QO {m:Mk} {d ks:List Nat} (t:d.Perm ks) (s:d.Pairwise fun a b=>fR m.ai a<fR m.ai b):kK (dG m ks)=dG m d:=by
  have l:(kK<|dG m ks).Pairwise fun a b=>leI a b=true:=List.pairwise_mergeSort (fun a b c=>by rw[qZ,qZ,qZ];omega) (fun a b=>by rw[Bool.or_eq_true,qZ,qZ];omega) _;have C:(dG m d).Pairwise fun a b=>a.pos<b.pos:=by unfold dG;rw[List.pairwise_map];exact s
  have f:(kK<|dG m ks).Perm (dG m d):=(wi _).trans<|(t.map _).symm;refine List.Perm.eq_of_pairwise (fun a b p q n o=>?_) l (C.imp fun {a b} h=>qZ.2<|Nat.le_of_lt h) f;have r:=f.subset p;rw[qZ]at n o;obtain⟨i,g⟩:=List.mem_iff_getElem?.1 r;obtain⟨e,D⟩:=List.mem_iff_getElem?.1 q;obtain⟨j,H⟩:=List.getElem?_eq_some_iff.1 g;obtain⟨G,k⟩:=List.getElem?_eq_some_iff.1 D;rw[List.pairwise_iff_getElem]at C;rcases Nat.lt_trichotomy i e with A|A|A
  · have:=C i e j G A;rw[H,k]at this;omega
  · subst A;rw[g]at D;exact Option.some.inj D
  have:=C e i G j A;rw[H,k]at this;omega
def lM (av:List Nat) (n:Nat):Prop:=av≠[]->lG (av.length-1)<n
def FP (src:Nat) (av:List Nat) (k:Nat):Nat:=if k=0 then src else av.getD (k-1) 0+16
theorem abk (k:Nat):4*k<=lG k:=by
  induction k with
  | zero=>simp[lG]
  | succ k ih=>have:=pu (k:=(k:Int)) Xx;simp only[lG];omega
theorem BX {b:Ly} {src n a:Nat} {c:List Nat} (g:∀k,k<a->d8 b (FP src c k)=c.getD k 0) (e:n<lG (a+1)) (hl:lG a<=n):∀(d k f:Nat),k+d=a->d<=f->vA b f k (FP src c k) (n-lG k)=(FP src c a,n-lG a,a)
  | 0,k,f,hk,hf=>by have h:k=a:=Xx;subst h;exact N3 (by simp only[lG]at e;omega)
  | d+1,k,f,hk,hf=>by have i:lG (k+1)<=lG a:=CK Xx;simp only[lG]at i;have j:=g k Xx;rw[GJ Xx Xx,j,Nat.sub_sub];have:=BX g e hl d (k+1) (f-1) Xx Xx;rw[show FP src c (k+1)=c.getD k 0+16 from rfl]at this;exact this
theorem II {b:Ly} {src n a:Nat} {c:List Nat} (g:∀k,k<a->d8 b (FP src c k)=c.getD k 0) (hb:∀k,k<=a->FP src c k+8<=b.length) (e:n<lG (a+1)) (hl:lG a<=n):∀(d k f:Nat),k+d=a->d<=f->TJ b f k (FP src c k) (n-lG k)=true
  | 0,k,f,hk,hf=>by
    have h:k=a:=Xx;subst h;have:=hb k<|Nat.le_refl _;simp only[lG]at e;cases f with
    | zero=>simp only[TJ,decide_eq_true_eq];exact⟨by omega,this⟩
    | succ f=>simp only[TJ,Bool.and_eq_true,Bool.or_eq_true,decide_eq_true_eq];exact⟨this,.inl Xx⟩
  | d+1,k,f,hk,hf=>by
    have i:=g k Xx;have:=II g hb e hl d (k+1) (f-1) Xx Xx;rw[show FP src c (k+1)=c.getD k 0+16 from rfl]at this;cases f with
    | zero=>omega
    | succ f =>
      simp only[TJ,Bool.and_eq_true,Bool.or_eq_true,decide_eq_true_eq];refine⟨hb k Xx,.inr ?_⟩;rw[i,Nat.sub_sub];exact this
theorem jG.list {s:Nat} {d:bw} {m:Mk} {l:List Ob} {src x:Nat} {a bg:List Nat} (S:jG s d m) (K:fF m.b 272 l m.b.length) (h:Chain m.b l src a bg) (hs:Src l src) (Y:src=176\/272<=src) (Z:lM a bg.length) (hb:m.b.length<900000) :
    d.nV src bg.length/\(d.list src bg.length x).1=eY (m.link a bg.length src x).1/\(d.list src bg.length x).2.1=(m.link a bg.length src x).2.1/\jG s (d.list src bg.length x).2.2 (m.link a bg.length src x).2.2/\lM (m.link a bg.length src x).1 (bg.length+1):=by
  have A:=S.vz;have R:=h.lo;have Q:=h.hi;have V:=hs.lt K;have B:∀k,k<=a.length->(FP src a k=176\/272<=FP src a k)/\FP src a k+8<=m.b.length:=fun k hk=>by
    unfold FP;by_cases u:k=0
    · rw[if_pos u];exact⟨Y,V⟩
    · rw[if_neg u]
      obtain⟨z,G⟩:∃z,a[k-1]? = some z:=⟨_,List.getElem?_eq_getElem Xx⟩;have:=h.le K G;rw[getD_some G];omega
  have C:∀k,k<=a.length->d8 d.b (FP src a k)=a.getD k 0:=fun k hk=>by
    rw[A.d8 (B k hk).1];unfold FP;by_cases u:k=0
    · subst u;rw[if_pos rfl];exact h.word
    · rw[if_neg u]
      obtain⟨z,G⟩:∃z,a[k-1]? = some z:=⟨_,List.getElem?_eq_getElem Xx⟩;rw[getD_some G,h.next _ _ G,show k-1+1=k by omega]
  have N:∀e,e<=a.length->lG e<=bg.length->bg.length<lG (e+1)->vA d.b bg.length 0 src bg.length=(FP src a e,bg.length-lG e,e)/\TJ d.b bg.length 0 src bg.length=true:=fun e o J P=>by
    have i:=abk e;have w:∀k,k<e->d8 d.b (FP src a k)=a.getD k 0:=fun k hk=>C k Xx;have b:∀k,k<=e->FP src a k+8<=d.b.length:=fun k hk=>by rw[A.1];exact(B k Xx).2
    exact⟨BX w P J e 0 bg.length Xx Xx,II w b P J e 0 bg.length Xx Xx⟩
  unfold bw.nV bw.list Mk.link;rw[zf];simp only;by_cases hn:bg.length=lG a.length
  · have aa:=pu (k:=(a.length:Int)) Xx
    obtain⟨F,I⟩:=N a.length (Nat.le_refl _) Xx (by simp only[lG];omega);rw[F,I];simp only;rw[if_pos hn,hn,Nat.sub_self,if_pos rfl];refine⟨⟨trivial,fun h=>absurd rfl h⟩,?_⟩;obtain⟨W,c,E⟩:=S.add<|dw {next:=0,bg:=List.replicate (cB (a.length:Int)) 0};have g:(m.bJ<|dw {next:=0,bg:=List.replicate (cB (a.length:Int)) 0}).1=m.b.length:=rfl;have M:(d.add<|dw {next:=0,bg:=List.replicate (cB (a.length:Int)) 0}).2.b=d.b ++ dw {next:=0,bg:=List.replicate (cB (a.length:Int)) 0}:=rfl;generalize d.add (dw {next:=0,bg:=List.replicate (cB (a.length:Int)) 0})=r at *;generalize m.bJ (dw {next:=0,bg:=List.replicate (cB (a.length:Int)) 0})=r' at *;obtain⟨p,j⟩:=r;obtain⟨t,D⟩:=r';simp only at W c E g M ⊢;subst W;have L:=E.bD (k:=18) (v:=(j.aT 18+1)%18446744073709551616) Xz;have ad:=(B a.length<|Nat.le_refl _).2;have ab:m.b.length<=j.b.length:=(by rw[M,List.length_append,A.1];omega);have X:d8 ((j.bD 18<|(j.aT 18+1)%18446744073709551616).put (FP src a a.length) p).b (FP src a a.length)=p:=NC (by show _<=j.b.length;omega) Xx;rw[X];have f:eY (a ++ [p])=p:=vN a p;rw[f];have U:(j.aT 18+1)%18446744073709551616=(D.aT 18+1)%18446744073709551616:=(by rw[E.aT 18 Xz Xz]);rw[U]at L ⊢;refine⟨rfl,trivial,?_,fun _=>?_⟩
    · have q:=(L.put (FP src a a.length) p).put (p+24+8*0) x
      have:(if a.length=0 then(D.bD 18<|(D.aT 18+1)%18446744073709551616).put src p else(D.bD 18<|(D.aT 18+1)%18446744073709551616).put (eY a+16) p)=(D.bD 18<|(D.aT 18+1)%18446744073709551616).put (FP src a a.length) p:=(by unfold FP eY;split <;> rfl);rw[this];exact q
    rw[List.length_append,List.length_singleton,Nat.add_sub_cancel];omega
  have H:a≠[]:=by rintro rfl;have J:bg.length<=0:=Q;have P:¬bg.length=0:=hn;omega
  have u:=List.length_pos_iff.2 H;have y:=Z H;have i:lG a.length=lG (a.length-1)+cB ((a.length-1:Nat):Int):=by have:a.length=(a.length-1)+1:=Xx;rw[this];rfl
  obtain⟨F,I⟩:=N (a.length-1) Xx R (by rw[show a.length-1+1=a.length by omega];omega);obtain⟨p,T⟩:∃p,a[a.length-1]? = some p:=⟨_,List.getElem?_eq_getElem Xx⟩;have n:=h.le K T;have O:=C (a.length-1) Xx;rw[getD_some T]at O;rw[F,I];simp only;rw[if_neg hn,if_neg Xx,O,jY T];exact⟨⟨trivial,fun _=>by rw[A.1];omega⟩,rfl,rfl,S.put _ _,fun _=>by simp only;omega⟩
def RD (m:Mk):Prop:=lM m.main (m.aT 8)/\∀k∈m.ai,lM k.aL (k.aZ-1)
theorem jG.ajN {s:Nat} {d:bw} {m:Mk} {l:List Ob} {es:List iK} {I:List Nat} {f:Nat->List Nat} {i e:Nat} {k:aK} (S:jG s d m) (h:om m l es I f) (hi:m.ai[i]? = some k) (g:lM k.aL (k.aZ-1)) (hb:m.b.length<700000) (hf:(f i).length<900000) :
    (k.pos+64<=d.b.length/\(d8 d.b (k.pos+56)≠0->d.nV (k.pos+48) (d8 d.b (k.pos+56)-1))/\d8 d.b (k.pos+56)<=1000000/\d.b.length<=800000/\d.h.n.getD 0 0<=d.b.length)/\jG s (d.sW e k.pos) (gO e i m) /\
    ∃j,(gO e i m).ai=m.ai.set i j/\lM j.aL (j.aZ-1):=by
  have a:=S.vz;have D:=h.dat i k hi;have z:=h.fK.data k<|List.mem_of_getElem? hi;have o:=h.fK.ah0 k<|List.mem_of_getElem? hi;have Q:d.h.n.getD 0 0=272:=S.n0;have p:d8 d.b (k.pos+56)=k.aZ:=(by rw[a.d8 Xx,D.word,D.cnt]);have B:m.ai.getD i known0=k:=(by simp[List.getD,hi]);have C:=D.cnt;have u:((f i).drop 1).length=k.aZ-1:=(by rw[List.length_drop,C]);have F:lM k.aL ((f i).drop 1).length:=(by rw[u];exact g);obtain⟨H,v,w,G,c⟩:=S.list (x:=e) h.fK.dY D.chain (tY z) (.inr Xx) F Xx;rw[u]at H v w G c;refine⟨⟨by rw[a.1];omega,fun _=>by rw[p];exact H,by omega,by rw[a.1];omega,by rw[a.1];omega⟩,?_⟩;unfold bw.sW Go.Wk.gO;simp only[B,p];by_cases h0:k.aZ=0
  · rw[if_pos h0,if_pos h0,h0]
    refine⟨((S.put (k.pos+40) e).put (k.pos+56) 1).to q q q q,{k with aZ:=1},q,?_⟩;rw[h0]at g;exact g
  rw[if_neg h0,if_neg h0,Nat.mod_eq_of_lt Xx];have y:(m.link k.aL (k.aZ-1) (k.pos+48) e).2.2.ai=m.ai:=by
    obtain⟨P,J⟩:=uD (x:=0) h.fK.dY D.chain (tY z) Xx Xx;unfold Mk.link;generalize eK k.aL 0 0 0=r;obtain⟨A,b⟩:=r;simp only;split
    · split <;> rfl
    · rfl
  generalize m.link k.aL (k.aZ-1) (k.pos+48) e=r at *;obtain⟨A,t,E⟩:=r;simp only at v w G c y ⊢;refine⟨(G.put (k.pos+56)<|k.aZ+1).to q q q q,{k with aL:=A,aZ:=k.aZ+1},?_,?_⟩
  · show E.ai.set i _=_
    rw[y]
  simp only[Nat.add_sub_cancel];rw[show k.aZ-1+1=k.aZ by omega]at c;exact c
theorem jG.rW {s:Nat} {es:List iK} {E:List Nat} {e:Nat} (p:e<18446744073709551616):∀(n:List Nat) (d:bw) (m:Mk) (l:List Ob) (f:Nat->List Nat),jG s d m->om m l es E f->(∀i∈n,i<m.ai.length)->n.Nodup->(∀i∈n,(f i).length<900000)->m.b.length+2100*n.length<700000->(∀k∈m.ai,lM k.aL (k.aZ-1)) ->
    bw.rB e (dG m n) d/\jG s (bw.rW e (dG m n) d) (iL e n m)/\∀k∈(iL e n m).ai,lM k.aL (k.aZ-1)
  | [],d,m,l,f,S,_,_,_,_,_,T=>⟨trivial,S,T⟩
  | i :: r,d,m,l,f,S,h,hi,hn,hl,hb,T=>by
    obtain⟨k,hk⟩:∃k,m.ai[i]? = some k:=⟨_,List.getElem?_eq_getElem<|hi i Oj⟩;simp only[List.length_cons]at hb;have C:=hl i Oj;obtain⟨t,u,I,v,S4⟩:=S.ajN (e:=e) h hk (T k<|List.mem_of_getElem? hk) Xx C;obtain⟨D,G,H⟩:=wM (e:=e) h.fK.dY hk (h.fK.data k<|List.mem_of_getElem? hk) (h.dat i k hk) Xx p Xx;have g:=h.hang hk H;have o:j7 m.ai (gO e i m).ai:=(by rw[H.dat];exact j7.set hk H.pos.1 H.pos.2.1);have F:=H.top;rw[jW];rw[List.nodup_cons]at hn;have B:∀a∈r,(if a=i then f i ++ [e]else f a)=f a:=fun a j=>if_neg (by rintro rfl;exact hn.1 j);have w:∀k∈(gO e i m).ai,lM k.aL (k.aZ-1):=fun y q=>by
      rw[v]at q;rcases List.mem_or_eq_of_mem_set q with h1|h1
      · exact T y h1
      · rw[h1];exact S4
    have z:dG (gO e i m) r=dG m r:=vM o.ext H.same.1 fun a j=>hi a (by simp[j]);have R:=jG.rW p r (d.sW e k.pos) (gO e i m) D _ u g (fun a j=>by rw[o.len];exact hi a (by simp[j])) hn.2 (fun a j=>by simp only[B a j];exact hl a (by simp[j])) Xx w;rw[z]at R;have A:fR m.ai i=k.pos:=(mX hk).2;have x:dG m (i :: r)={pos:=k.pos,bZ:=cu m.c.bL m.c.bE (m.ai.getD i known0).bI} :: dG m r:=(by unfold dG;rw[List.map_cons,A]);rw[x];exact⟨⟨t,R.1⟩,R.2.1,R.2.2⟩
theorem O2:∀{a b:Ly},a.length=b.length->wT a=wT b->a=b
  | [],[],_,_=>rfl
  | [],_ :: _,h,_=>by simp at h
  | _ :: _,[],h,_=>by simp at h
  | x :: a,y :: b,h,e=>by simp only[wT]at e;have f:=x.toNat_lt;have g:=y.toNat_lt;have c:x.toNat=y.toNat:=Xx;have d:wT a=wT b:=Xx;rw[UInt8.toNat_inj.1 c,O2 (by simpa using h) d]
theorem Yb {b c:Ly} {p:Nat} (hb:p+8<=b.length) (d:p+8<=c.length) (h:d8 b p=d8 c p) {q:Nat} (e:p<=q/\q<p+8):b[q]? = c[q]?:=by have a:(b.drop p).take 8=(c.drop p).take 8:=O2 Xh h;have:=congrArg (fun l=>l[q-p]?) a;simp only[List.getElem?_take,List.getElem?_drop]at this;rw[if_pos Xx,if_pos Xx,show p+(q-p)=q by omega]at this;exact this
theorem IZ {h:d9} (hl:h.bE.length=16/\h.bO.length=16/\h.aR.length=16/\h.seq.length=16/\h.state<256) (a:h.n.length=21):(rE h).length=272:=by have:zS.length=8:=rfl;simp only[rE,List.length_append,eM,cP,this,hl.1,hl.2.1,hl.2.2.1,hl.2.2.2.1,a,List.length_cons,List.length_nil]
theorem afG {h:d9} (hl:h.bE.length=16/\h.bO.length=16/\h.aR.length=16/\h.seq.length=16/\h.state<256) (e:h.n.length=21) (d:h.n.getD 11 0<18446744073709551616):d8 (rE h) 176=h.n.getD 11 0:=by
  have c:rE h=(zS ++ (low h.eS 4 ++ (low h.cr 4 ++ ([UInt8.ofNat h.state,0,0,0,0,0,0,0] ++ (h.bE ++ (h.bO ++ (h.aR ++ h.seq))))))) ++ (nums h.n ++ (low h.bP 4 ++ (low h.bR 4 ++ low h.cF 8))):=by unfold rE;simp only[List.append_assoc]
  have b:zS.length=8:=rfl;have a:(zS ++ (low h.eS 4 ++ (low h.cr 4 ++ ([UInt8.ofNat h.state,0,0,0,0,0,0,0] ++ (h.bE ++ (h.bO ++ (h.aR ++ h.seq))))))).length=88:=by simp only[List.length_append,eM,b,hl.1,hl.2.1,hl.2.2.1,hl.2.2.2.1,List.length_cons,List.length_nil]
  rw[c,lN (by rw[a];omega),a,show 176-88=8*11 by decide];exact wz (by rw[List.getD_eq_getElem?_getD];rw[List.getElem?_eq_getElem Xx];rfl) d
theorem jG.nums {d:bw} {m:Mk} (S:jG 0 d m):d.h.n=m.h.n.set 1 (m.b.length-272) ++ [m.depth]:=by
  have D:=S.len;have A:=S.VY;have hk:∀i,i<21->d.h.n[i]? = some (d.aT i):=fun i B=>by show _=some (d.h.n.getD i 0);rw[List.getD_eq_getElem?_getD,List.getElem?_eq_getElem Xx];rfl
  have C:∀i,i<20->m.h.n[i]? = some (m.aT i):=fun i B=>by show _=some (m.h.n.getD i 0);rw[List.getD_eq_getElem?_getD,List.getElem?_eq_getElem Xx];rfl
  apply List.ext_getElem?;intro i;by_cases h21:i<21
  · rw[hk i h21]
    by_cases h20:i<20
    · rw[List.getElem?_append_left (by rw[List.length_set];omega)]
      by_cases h11:i=1
      · subst h11
        rw[List.getElem?_set_self Xx,S.n1,S.vz.1]
      rw[List.getElem?_set_ne Xx,C i h20]
      by_cases h8:i=8
      · subst h8;rw[S.n8];rfl
      rw[S.aT i h11 ⟨h8,h20⟩]
    obtain rfl:i=20:=by omega
    rw[List.getElem?_append_right (by rw[List.length_set];omega),List.length_set,A,S.dep];rfl
  rw[List.getElem?_eq_none Xx,List.getElem?_eq_none Xh]
theorem jG.image {d:bw} {m:Mk} (S:jG 0 d m) (st:Nat):rE {d.h with state:=st} ++ d.b.drop 272=jl m st:=by
  have K:d.b.drop 272=m.b.drop 272:=by apply List.ext_getElem?;intro i;rw[List.getElem?_drop,List.getElem?_drop];exact S.vz.2 _<|.inr Xx
  have B:=S.hd;unfold hdD hdM at B;simp only[Prod.mk.injEq]at B;obtain⟨C,D,L,E,F,G,H,I,J,A⟩:=B;unfold jl;rw[K,EW (p:={d.h with state:=st}) (h:={m.h with state:=st,n:=m.h.n.set 1 (m.b.length-272)}) (depth:=m.depth) (by simp only[C,D,E,F,G,H,I,J,A]) S.nums]
theorem jG.hput {d:bw} {m:Mk} (S:jG 0 d m) (i:272<=m.b.length) (f:d8 m.b 176=m.aT 11):jG 0 d.hput m:=by
  have D:=IZ S.hl S.len;have e:d.h.n.getD 11 0=m.aT 11:=S.aT 11 Xz Xz;have G:d.h.n.getD 11 0<18446744073709551616:=(by rw[e,<- f];exact RJ _ _);have g:=afG S.hl S.len G;have a:=S.vz;have c:(rE d.h ++ d.b.drop 272).length=d.b.length:=(by rw[List.length_append,D,List.length_drop,a.1];omega);refine⟨⟨by show(rE d.h ++ d.b.drop 272).length=_;rw[c];exact a.1,fun q C=>?_⟩,S.len,S.VY,S.n0,by show d.aT 1=(rE d.h ++ d.b.drop 272).length-272;rw[c];exact S.n1,S.n3,S.n5,S.aT,S.n8,S.dep,S.hd,S.bE,S.key,S.hl⟩;show(rE d.h ++ d.b.drop 272)[q]? = _;rcases C with C|C
  · refine Yb (p:=176) (by rw[c,a.1];omega) Xx ?_ Xx
    rw[pF (by rw[D];omega),g,e,f]
  rw[List.getElem?_append_right (by rw[D];omega),D,List.getElem?_drop,show 272+(q-272)=q by omega];exact a.2 q<|.inr C
theorem jG.bump {d:bw} {m:Mk} (S:jG 1 d m) (h:m.aT 8<1000000):jG 0 d (m.bD 8<|(m.aT 8+1)%18446744073709551616):=by
  rw[Nat.mod_eq_of_lt Xx];refine⟨S.vz,S.len,by show(m.h.n.set 8 _).length=20;rw[List.length_set];exact S.VY,S.n0,S.n1,S.n3,S.n5,fun i A B=>?_,?_,S.dep,S.hd,S.bE,S.key,S.hl⟩
  · rw[cg Xx];exact S.aT i A B
  rw[xf (by rw[S.VY];omega),S.n8]
theorem jG.aR {s:Nat} {d:bw} {m:Mk} (S:jG s d m) {aR:Ly} (hb:aR.length=16) (p:Nat):jG s {d with h:={d.h with aR:=aR,cF:=p}} {m with h:={m.h with aR:=aR,cF:=p}}:=by refine⟨S.vz,S.len,S.VY,S.n0,S.n1,S.n3,S.n5,S.aT,S.n8,S.dep,?_,S.bE,S.key,S.hl.1,S.hl.2.1,hb,S.hl.2.2.2⟩;have A:=S.hd;unfold hdD hdM at A ⊢;simp only[Prod.mk.injEq]at A ⊢;obtain⟨B,D,E,F,G,K,H,I,J,C⟩:=A;exact⟨B,D,E,F,G,trivial,H,I,J,tV⟩
theorem jG.mark {d:bw} {z:Mk} {n seq aY mono e:Nat} {aR:Ly} (S:jG 1 d z) (f:z.aT 8=n) (s:n<1000000) (hb:aR.length=16) (o:272<=z.b.length) (p:d8 z.b 176=z.aT 11) :
    jG 0 (d.mark e seq aY mono aR) (jV z n seq aY mono e aR)/\∀st,st=(d.mark e seq aY mono aR).h.state->(d.mark e seq aY mono aR).b=jl (jV z n seq aY mono e aR) st:=by
  have g:=(mI z n seq aY mono e aR).1;have i:=qx z n seq aY mono e aR 11 Xz;have C:∃a:bw,d.mark e seq aY mono aR=a.hput/\jG 0 a (jV z n seq aY mono e aR):=by
    unfold bw.mark jV;simp only;have c:d.aT 8=1↔n=0:=(by rw[S.n8,f];omega);have j:jG 1 (if d.aT 8=1 then(d.bD 10 seq).bD 12 aY else d) (if n=0 then(z.bD 10 seq).bD 12 aY else z):=by
      by_cases h0:n=0
      · rw[if_pos h0,if_pos (c.2 h0)];exact(S.bD Xz).bD Xz
      · rw[if_neg h0,if_neg (fun h=>h0<|c.1 h)];exact S
    have r:(if n=0 then(z.bD 10 seq).bD 12 aY else z).aT 8=n:=by
      split
      · rw[cg Xz,cg Xz,f]
      · exact f
    generalize (if d.aT 8=1 then(d.bD 10 seq).bD 12 aY else d)=d4 at *;generalize (if n=0 then(z.bD 10 seq).bD 12 aY else z)=m7 at *;have G:=j.bump Xx;have H:=((G.bD (k:=9) (v:=seq) Xz).bD (k:=13) (v:=aY) Xz).bD (k:=14) (v:=mono) Xz;exact⟨_,q,H.aR hb e⟩
  obtain⟨a,l,D⟩:=C;rw[l];refine⟨D.hput (by rw[g];exact o) (by rw[g,i];exact p),fun st m=>?_⟩;have:=D.image st;rw[<- this,m];rfl
theorem jG.sX {d:bw} {m:Mk} {a:List Nat} {t:Nat} (S:jG 0 d m) (u:d8 m.b 176=a.getD 0 0) (x:m.aT 8<1000000):jG 1 (d.sX (eY a) t) (let e:=({m with main:=a}:Mk).bD 11<|a.getD 0 0;({e with h:={e.h with bP:=eY a%4294967296,bR:=t%4294967296}}:Mk)):=by
  have s:d8 d.b 176=a.getD 0 0:=(by rw[S.vz.d8 (.inl q),u]);have c:jG 0 (d.bD 11<|d8 d.b 176) (({m with main:=a}:Mk).bD 11<|a.getD 0 0):=by rw[s];exact(S.to (m':={m with main:=a}) q q q q).bD Xz
  have r:(d.bD 11<|d8 d.b 176).aT 8=m.aT 8:=(by rw[fE Xz,S.n8];rfl);refine⟨c.vz,?_,c.VY,?_,?_,?_,?_,fun i o p=>?_,?_,?_,?_,c.bE,c.key,c.hl⟩
  · show((d.h.n.set 11 _).set 8 _).length=21;rw[List.length_set,List.length_set];exact S.len
  · exact(fE (d:={d.bD 11 (d8 d.b 176)with h:={(d.bD 11<|d8 d.b 176).h with bP:=eY a%4294967296,bR:=t%4294967296}}) Xz).trans c.n0
  · exact(fE (d:={d.bD 11 (d8 d.b 176)with h:={(d.bD 11<|d8 d.b 176).h with bP:=eY a%4294967296,bR:=t%4294967296}}) Xz).trans c.n1
  · exact(fE (d:={d.bD 11 (d8 d.b 176)with h:={(d.bD 11<|d8 d.b 176).h with bP:=eY a%4294967296,bR:=t%4294967296}}) Xz).trans c.n3
  · exact(fE (d:={d.bD 11 (d8 d.b 176)with h:={(d.bD 11<|d8 d.b 176).h with bP:=eY a%4294967296,bR:=t%4294967296}}) Xz).trans c.n5
  · exact(fE (d:={d.bD 11 (d8 d.b 176)with h:={(d.bD 11<|d8 d.b 176).h with bP:=eY a%4294967296,bR:=t%4294967296}}) Xx).trans<|c.aT i o p
  · refine(AP (d:={d.bD 11 (d8 d.b 176)with h:={(d.bD 11<|d8 d.b 176).h with bP:=eY a%4294967296,bR:=t%4294967296}}) (by show 8<(d.h.n.set 11 _).length;rw[List.length_set,S.len];omega)).trans ?_
    show((d.bD 11<|d8 d.b 176).aT 8+1)%18446744073709551616=_;rw[r,Nat.mod_eq_of_lt Xx];show _=(({m with main:=a}:Mk).bD 11<|a.getD 0 0).aT 8+1;rw[cg Xz];rfl
  · exact(fE (d:={d.bD 11 (d8 d.b 176)with h:={(d.bD 11<|d8 d.b 176).h with bP:=eY a%4294967296,bR:=t%4294967296}}) Xz).trans c.dep
  have C:=S.hd;unfold hdD hdM at C ⊢;simp only[Prod.mk.injEq]at C;obtain⟨D,g,j,G,H,k,l,v,w,f⟩:=C;show(d.h.eS,d.h.cr,d.h.state,d.h.bE,d.h.bO,d.h.aR,d.h.seq,eY a%4294967296,t%4294967296,d.h.cF)=(m.h.eS,m.h.cr,m.h.state,m.h.bE,m.h.bO,m.h.aR,m.h.seq,eY a%4294967296,t%4294967296,m.h.cF);rw[D,g,j,G,H,k,l,f]
set_option maxHeartbeats 1000000 in
theorem jG.entry {d:bw} {m:Mk} {l:List Ob} {es:List iK} {raw fs:List Pr} {aY mono:Nat} {aR:Ly} {e:lu} (S:jG 0 d m) (h:Img m l es) (H:Hs m) (ok:xX m) (T:RD m) (hb:aR.length=16) (hl:jN raw=(fs,0)) (a8:¬m.aT 9=18446744073709551615)
    (he:e.seq=m.aT 9+1/\e.aY=aY/\e.mono=mono/\e.aR=aR) :
    d.IJ fs e/\∃z:Mk,(d.entry fs e).b.length=z.b.length/\m.append raw aY mono aR=(if m.c.cK<z.b.length then(0,15,m)else(m.aT 9+1,0,z))/\jG 0 (d.entry fs e) z/\RD z/\(d.entry fs e).b=jl z (d.entry fs e).h.state/\z.b.length<=300000:=by
  have bz:=H.h20;obtain⟨aU,al,bu,bE,bG⟩:=oJ hl;obtain⟨af,_⟩:=oV hl;have D:=oG fs m [] [] 0 (jT ok) af;have R:=pE aU al;have av:XR m [] [] []:=⟨rfl,by simp,by simp,List.Pairwise.nil⟩;obtain⟨bW,Z,W⟩:=qq fs [] m l [] [] es (es.map iK.pos) (places es) h.c (fun i I=>rC h.who i I) av af (by rw[List.nil_append];exact R);obtain⟨aQ,F,bV,v,ah⟩:=jG.jg ok fs [] d m l [] [] [] [] 0 S h.c.fK H av (jT ok) (List.Perm.refl _) rfl (fun q K=>⟨af q K,al q K⟩) (by rw[List.nil_append];exact R) Xx;have aG:=uF fs m [] [];have ao:∀k∈(eN fs m [] []).2.2.ai,lM k.aL (k.aZ-1):=by
    have:∀(fs:List Pr) (m:Mk) (J:List (List UInt8)) (C:List Nat),(∀k∈m.ai,lM k.aL (k.aZ-1))->m.fit->(∀q∈fs,BD q)->∀k∈(eN fs m J C).2.2.ai,lM k.aL (k.aZ-1):=by
      intro fs
      induction fs with
      | nil=>exact fun m J C h _ _=>h
      | cons x r ih =>
        intro m J C h bc hb;have g:=tZ m x bc;refine ih (m.data x).2 _ _ (fun k hk=>?_) g.fit<|fun q K=>hb q (by simp[K]);rcases g.pre with e|⟨y,e,_,Y,_⟩
        · rw[e]at hk;exact h k hk
        · rw[e,List.mem_append,List.mem_singleton]at hk
          rcases hk with hk|rfl
          · exact h k hk
          · exact fun aN=>absurd Y aN
    exact this fs m [] [] T.2 ok.fit af
  unfold bw.IJ bw.entry;rcases hd:eN fs m [] []with⟨J,C,x⟩;rw[hd,Nat.zero_add]at D;rw[hd]at Z W aG F v ah ao;rw[List.nil_append]at W;simp only at D Z W aG F v ah ao;rcases hdd:bw.jg fs d []with⟨o,d1⟩;rw[hdd]at F v;simp only at F v ⊢;have bZ:=ok.small;have s4:=ok.nb;have bL:=D.app.le;have bM:=D.len.1;have bs:=D.app.ge;obtain⟨c1,c2,c3⟩:=Z.same;have n9:x.aT 9=m.aT 9:=c3 9 Xz Xz Xz;have n8:x.aT 8=m.aT 8:=c3 8 Xz Xz Xz;have f:=h.n8;have bB:=h.n9
  have bA:es.length<=40000:=by have:m.n8=es.length:=f;omega
  have aq:=tL W.MP;have aB:(x.aT 9+1)%18446744073709551616=m.aT 9+1:=(by rw[n9];exact Nat.mod_eq_of_lt Xx);have ar:kK o=dG x C:=(by rw[v];exact QO ah W.MP);have aO:(fs.map fun q=>(ez q).1)=J:=(by rw[W.eq];exact List.map_congr_left fun q K=>uz<|al q K);have bb:bw.zC e fs o={seq:=(x.aT 9+1)%18446744073709551616,aY:=aY,mono:=mono,aR:=aR,xor:=lH 0 J,bg:=dG x C}:=by unfold bw.zC;rw[ar,aO,aB,he.1,he.2.1,he.2.2.1,he.2.2.2]
  rw[bb,ar,he.1,he.2.1,he.2.2.1,he.2.2.2];have aS:(o.map eG.pos).Nodup:=by
    have bd:(o.map eG.pos).Perm (C.map<|fR x.ai):=(by rw[v];unfold dG;rw[List.map_map];exact(ah.map _).symm);refine bd.nodup_iff.2 ?_;unfold List.Nodup;rw[List.pairwise_map];exact W.MP.imp fun {a b} h=>Nat.ne_of_lt h
  have bp:=F.vz.1;have bY:d1.h.n.getD 0 0=272:=F.n0;have bt:=ok.hd;generalize hEE:({seq:=(x.aT 9+1)%18446744073709551616,aY:=aY,mono:=mono,aR:=aR,xor:=lH 0 J,bg:=dG x C}:lu)=E;have bN:E.bg.length=C.length:=(by subst hEE;simp[dG]);have aD:E.aR.length=16:=(by subst hEE;exact hb);have V:=Z.img.entry (E:=E) (who:=C) aD Xx;have ob:=eW x<|bT E;have w:=dn x<|bT E;have on:∀i,i≠6->i≠7->(x.bJ<|bT E).2.aT i=x.aT i:=fun i a9 ba=>ru x _ ⟨a9,ba⟩;have aw:=oK x<|bT E;have bO:=iB E aD;obtain⟨U,bK,Q⟩:=F.add<|bT E;rcases ho:x.bJ (bT E)with⟨p,B⟩;rw[ho]at V ob w on aw U Q;simp only at V ob w on aw U Q;have aM:p=x.b.length:=ob.1;subst aM;rcases hoo:d1.add (bT E)with⟨p,M⟩;rw[hoo]at U Q;simp only at U Q ⊢;subst U;have L:B.aT 8=(es.map iK.pos).length:=(by rw[on 8 Xz Xz,n8,f,List.length_map]);have bC:x.b.length<100000:=Xx;have bx:=ob.2.1;obtain⟨aE,u⟩:=uD (x:=x.b.length) V.fK.dY V.main (ny _) Xx Xx
  have bh:lM B.main (es.map iK.pos).length:=by rw[w.2.2.2,c2,List.length_map,<- f];exact T.1
  obtain⟨am,A,s,P,ad⟩:=Q.list (x:=x.b.length) V.fK.dY V.main (ny _) (.inl rfl) bh Xx;have G:M.aT 8=B.aT 8:=(by rw[Q.n8];rfl);rw[<- L]at u am A s P ad;rw[<- G]at am;unfold bw.vR bw.link;rw[<- G]at A s P;have ax:=AW B B.main (B.aT 8) 176 x.b.length;have bq:=Q.vz.1;have bI:M.h.n.getD 0 0=272:=Q.n0;have aW:M.h.n.getD 8 0=B.aT 8:=G;rcases hk:B.link B.main (B.aT 8) 176 x.b.length with⟨a,t,N⟩;rw[G]at A s P;rw[hk]at u ax A s P ad;simp only at u ax A s P ad;rw[G];rcases hkk:M.list 176 (B.aT 8) x.b.length with⟨a',t',d3⟩;rw[hkk]at A s P;simp only at A s P ⊢;subst A;have s:=s.symm;subst s;have ag:=iU (aY:=aY) (mono:=mono) (aR:=aR) hl Oj a8 hd (by rw[hEE];exact ho) hk rfl;have aj:=u.same;obtain⟨aj,bf,b0,b1,b2,aH⟩:=aj;have bv:=u.top;have bF:=u.jU.len;have bH:N.aT 8=es.length:=(by rw[aH 8 Xz Xz Xz,L,List.length_map]);have aA:=P.sX (a:=a) (t:=t) u.chain.word Xx;obtain⟨j,X⟩:∃j,j=(let aF:=({N with main:=a}:Mk).bD 11<|a.getD 0 0;({aF with h:={aF.h with bP:=eY a%4294967296,bR:=t%4294967296}}:Mk)):=⟨_,rfl⟩;have ae:∀i,i≠11->j.aT i=N.aT i:=fun i I=>by subst X;exact au Xx
  have aV:j.aT 11=a.getD 0 0:=(by subst X;exact lR (by show 11<N.h.n.length;omega));have a2:j.b=N.b/\j.c=N.c/\j.ai=N.ai/\j.aC=N.aC/\j.main=a/\j.h.n.length=N.h.n.length:=(by subst X;exact⟨rfl,rfl,rfl,rfl,rfl,by simp[Mk.bD]⟩);rw[<- X]at ag aA;clear X;obtain⟨ak,Y,aI,bi,ap,bj⟩:=a2;have ay:=V.link u ak Y aI bi ap ⟨ae 2 Xz,ae 4 Xz⟩<|fun c=>c.to bj fun i I=>ae i Xx;have ab:j.ai=x.ai:=(by rw[aI,bf,w.2.1]);have be:dG j C=dG x C:=vM (by rw[ab];exact p8.refl _) (by rw[Y,aj,w.1]) W.lt;obtain⟨az,O,a1⟩:=jG.rW (e:=x.b.length) Xx C (d3.sX (eY a) t) j aE _ aA ay (fun i I=>by rw[ab];exact W.lt i I) aq (fun i _=>by have:=mO es i;omega) (by rw[ak];omega) (by rw[ab];exact ao);rw[be]at az O;obtain⟨bX,aa⟩:=wK (e:=x.b.length) Xx C j aE _ ay (fun i I=>by rw[ab];exact W.lt i I) aq (fun i _=>by have:=mO es i;omega) (by rw[ak];omega);have aP:(bw.rW x.b.length (dG x C)<|d3.sX (eY a) t).h.state<256:=O.hl.2.2.2.2;have br:=O.vz.1;generalize iL x.b.length C j=z at *;have ag:m.append raw aY mono aR=if z.c.cK<z.b.length then(0,15,m)else((x.aT 9+1)%18446744073709551616,0,jV z (B.aT 8) ((x.aT 9+1)%18446744073709551616) aY mono x.b.length aR):=ag;have bo:=aa.top;have bm:=aa.ge;rw[ak]at bo bm;obtain⟨bk,b3,aJ,b4,z5⟩:=aa.same;have aK:z.aT 8=B.aT 8:=(by rw[z5 8 Xz Xz Xz,ae 8 Xz,aH 8 Xz Xz Xz]);have aX:d8 z.b 176=z.aT 11:=by rw[aa.img.main.word,z5 11 Xz Xz Xz,aV,aJ,ap]
  have bl:z.c=m.c:=(by rw[bk,Y,aj,w.1,c1]);have an:=O.mark (n:=B.aT 8) (seq:=m.aT 9+1) (aY:=aY) (mono:=mono) (e:=x.b.length) (aR:=aR) aK (by rw[L,List.length_map];omega) hb Xx aX;have a0:=mI z (B.aT 8) (m.aT 9+1) aY mono x.b.length aR;obtain⟨f1,bQ,a4,bS,a5,_,_,bU,a6⟩:=a0;have bn:z.h.n.length=20:=O.VY;have a7:=an.1.vz.1;refine⟨⟨aQ,aS,by omega,by omega,⟨G ▸ am,by omega,az⟩,by omega,by omega,?_,by omega,by omega,aP⟩,jV z (B.aT 8) (m.aT 9+1) aY mono x.b.length aR,a7,?_,an.1,⟨?_,?_⟩,an.2 _ rfl,by rw[f1];omega⟩
  · rw[aW,L,List.length_map];omega
  · rw[ag,bl,aB,f1]
  · rw[a5,aJ,ap]
    have:=(a6 bn).1;have a3:(jV z (B.aT 8) (m.aT 9+1) aY mono x.b.length aR).aT 8=B.aT 8+1:=(by have e:z.n8=B.aT 8:=aK;rw[e,Nat.mod_eq_of_lt (by rw[L,List.length_map];omega)]at this;exact this);rw[a3];exact ad
  rw[a4];exact a1
theorem Z5 (a b c:Pr) (h:leP a b=true) (k:leP b c=true):leP a c=true:=by
  unfold leP at *;simp only[Bool.not_eq_true']at *;cases h3:Op.bytesLess (whole c.pb) (whole a.pb)with
  | false=>rfl
  | true =>
    cases h4:Op.bytesLess (whole a.pb) (whole b.pb)with
    | true=>have:=qn h3 h4;rw[k]at this;cases this
    | false=>have e:=CF h4 h;rw[e,k]at h3;cases h3
theorem Z4 (a b:Pr):(leP a b || leP b a)=true:=by
  unfold leP;cases h:Op.bytesLess (whole b.pb) (whole a.pb)with
  | false=>rfl
  | true=>rw[aeV h];rfl
theorem afV (l:List Pr):(nZ l).Pairwise fun a b=>leP a b=true:=List.pairwise_mergeSort Z5 Z4 l
theorem OO {p:Pr} {l:List Pr}:p∈nZ l↔p∈l:=List.mem_mergeSort
theorem ac0 {p:Pr}:∀{l:List Pr} {x:Pr},x∈KO p l\/x=p↔x∈l\/x=p
  | [],x=>by simp[KO]
  | q :: r,x=>by
    unfold KO;have a:=ac0 (p:=q) (l:=r) (x:=x);split
    · rename_i h;rw[t7]at h;subst h
      rw[a];simp;constructor
      · rintro(h|h)<;>simp[h]
      · rintro((h|h)|h)<;>simp[h]
    · simp only[List.mem_cons]
      constructor
      · rintro((h|h)|h)
        · simp[h]
        · rcases a.1 (.inl h)with h|h<;>simp[h]
        · simp[h]
      · rintro((h|h)|h)
        · simp[h]
        · rcases a.2 (.inl h)with h|h<;>simp[h]
        · simp[h]
theorem OL {x:Pr}:∀{l:List Pr},x∈iu l↔x∈l
  | []=>by simp[iu]
  | p :: r=>by
    have:=ac0 (p:=p) (l:=r) (x:=x);simp only[iu,List.mem_cons];constructor
    · rintro(h|h)
      · simp[h]
      · rcases this.1 (.inl h)with h|h<;>simp[h]
    · rintro(h|h)
      · simp[h]
      · rcases this.2 (.inl h)with h|h<;>simp[h]
theorem abo:∀{l:List Pr} {p:Pr},right p.pb=true->(∀q∈l,right q.pb=true)->(p :: l).Pairwise (fun i b=>leP i b=true)->Asc (p :: KO p l)
  | [],p,_,_,_=>by simp[KO]
  | q :: r,p,hp,hr,h=>by
    obtain⟨j,k⟩:=List.pairwise_cons.1 h;have g:=hr q Oj;have c:=abo g (fun x a=>hr x (by simp[a])) k;unfold KO;split
    · rename_i e;rw[t7]at e;subst e;exact c
    · rename_i e
      have f:TU p q:=by
        have d:=j q Oj;unfold leP at d;cases hb:Op.bytesLess (whole p.pb) (whole q.pb)with
        | true=>exact hb
        | false=>exact absurd (t7.2<|WX g hp (by simpa [TU]using d) (by simp[TU,hb])) e
      refine List.pairwise_cons.2 ⟨fun x a=>?_,c⟩
      rcases List.mem_cons.1 a with rfl|a
      · exact f
      · exact yW f<|(List.pairwise_cons.1 c).1 x a
theorem adE {l:List Pr} (h:∀q∈l,right q.pb=true):Asc (vp l):=by
  unfold vp;have C:=afV l;have B:∀q∈nZ l,right q.pb=true:=fun q A=>h q<|OO.1 A;cases hl:nZ l with
  | nil=>simp[iu]
  | cons p r=>rw[hl]at C B;exact abo (B p Oj) (fun q A=>B q (by simp[A])) C
theorem ac1 {x:Pr} {l:List Pr}:x∈vp l↔x∈l:=OL.trans OO
theorem HF:∀(l o:List Pr),(∀q∈l,right q.pb=true)->(∀q∈o,right q.pb=true)->Asc o ->
    ∃m,KU l o=(if 16<m.length then([],21)else(m,0))/\Asc m/\∀x,x∈m↔x∈l\/x∈o
  | [],o,_,_,ha=>⟨o,rfl,ha,by simp⟩
  | p :: r,o,hl,ho,ha=>by
    have b:=hl p Oj;have d:KU (p :: r) o=KU r (wN p o):=(by show(if(ez p).2≠0 then([],(ez p).2)else KU r (AA p o))=_;rw[if_neg (by simp[jX.2 b]),acf]);obtain⟨m,c,C,D⟩:=HF r (wN p o) (fun q a=>hl q (by simp[a])) (fun q a=>by rcases wX.1 a with rfl|a;exact b;exact ho q a)<|UX b ho ha;refine⟨m,by rw[d,c],C,fun x=>?_⟩;rw[D,wX];simp;constructor
    · rintro(h|h|h) <;> simp[h]
    · rintro((h|h)|h) <;> simp[h]
theorem GN:∀(l:List Pr) (r:List Pr × Nat),(∀q∈l,right q.pb=true)->CJ l r=r
  | [],_,_=>rfl
  | p :: t,r,h=>by show(if(ez p).2≠0 then([],(ez p).2)else CJ t r)=r;rw[if_neg (by simp[jX.2 (h p Oj)]),GN t r fun q a=>h q (by simp[a])]
theorem GP:∀(l o:List Pr) (r:List Pr × Nat),(¬∀q∈l,right q.pb=true)->CJ l r=KU l o
  | [],_,_,h=>absurd Oj h
  | p :: t,o,r,h=>by
    show(if(ez p).2≠0 then([],(ez p).2)else CJ t r)=(if(ez p).2≠0 then([],(ez p).2)else KU t (AA p o));split
    · rfl
    · rename_i h1
      have c:right p.pb=true:=jX.1 (by simpa using h1);exact GP t _ r fun b=>h fun q a=>by rcases List.mem_cons.1 a with rfl|a;exact c;exact b q a
theorem PV (l:List Pr):gX l=jN l:=by
  unfold gX jN;split
  · rfl
  by_cases h:∀q∈l,right q.pb=true
  · obtain⟨m,A,B,C⟩:=HF l [] h Oj Oj
    have e:m=vp l:=UW B (adE h) fun x=>by rw[C,ac1];simp
    rw[GN l _ h,A,e];rfl
  exact GP l [] _ h
theorem QE:∀a,a<6->∀b,b<10->(vP.getD a []).length<=8/\(rO.getD b []).length<=40:=by decide
theorem TQ (s:Sq):s.pair.1.name.length<=8/\s.pair.1.value.length<=40:=by have A:=s.lB 6;have B:=(s.aT 6).2.lB 10;exact QE (s.aT 6).1 Xx ((s.aT 6).2.aT 10).1 Xx
theorem LH (n:Nat):∀(s:Sq) (o:List Pr),(∀q∈o,q.name.length<=8/\q.value.length<=40)->∀q∈(lV n s o).1,q.name.length<=8/\q.value.length<=40:=by
  induction n with
  | zero=>exact fun s o h=>h
  | succ n ih =>
    intro s o h;refine ih s.pair.2 (o ++ [s.pair.1])<|fun q A=>?_
    rcases List.mem_append.1 A with A|A
    · exact h q A
    · rw[List.mem_singleton.1 A];exact TQ s
theorem OC (m:Mk) (a:List Nat) (n src x:Nat) (h:n<=8):(m.link a n src x).2.2.b.length<=m.b.length+88:=by
  unfold Mk.link;rw[zf];simp only;by_cases hn:n=lG a.length
  · rw[if_pos hn]
    have D:=abk a.length;have e:cB (a.length:Int)<=8\/2<=a.length:=by
      rcases hl:a.length with _|_|k
      · exact .inl Xz
      · exact .inl Xz
      · exact .inr Xx
    have C:2<=a.length->12<=lG a.length:=fun h=>CK (i:=2) h;have c:=(eW m<|dw {next:=0,bg:=List.replicate (cB (a.length:Int)) 0}).2.1;rw[kX]at c;simp only[List.length_replicate]at c;generalize m.bJ (dw {next:=0,bg:=List.replicate (cB (a.length:Int)) 0})=r at *;obtain⟨p,d⟩:=r;simp only at c ⊢;rw[gM];split
    · rw[gM];show d.b.length<=_;omega
    rw[gM];show d.b.length<=_;omega
  rw[if_neg hn];simp only;rw[gM];omega
theorem HJ {es:List iK} {u:List Nat} {e:Nat} (n:e<18446744073709551616):∀(d:List Nat) (m:Mk) (l:List Ob) (f:Nat->List Nat),om m l es u f->(∀i∈d,i<m.ai.length)->d.Nodup->(∀i∈d,(f i).length<=8)->m.b.length+2100*d.length<900000 ->
    (iL e d m).b.length<=m.b.length+88*d.length
  | [],m,l,f,_,_,_,_,_=>Nat.le_refl _
  | i :: r,m,l,f,h,hi,hn,hl,hb=>by
    obtain⟨k,hk⟩:∃k,m.ai[i]? = some k:=⟨_,List.getElem?_eq_getElem<|hi i Oj⟩;simp only[List.length_cons]at hb ⊢;have x:=hl i Oj;obtain⟨s,z,H⟩:=wM (e:=e) h.fK.dY hk (h.fK.data k<|List.mem_of_getElem? hk) (h.dat i k hk) Xx n Xx;have g:=h.hang hk H;have p:j7 m.ai (gO e i m).ai:=(by rw[H.dat];exact j7.set hk H.pos.1 H.pos.2.1);have y:=H.top;have A:(gO e i m).b.length<=m.b.length+88:=by
      have D:m.ai.getD i known0=k:=(by simp[List.getD,hk]);have v:=(h.dat i k hk).cnt;have j:=OC m k.aL (k.aZ-1) (k.pos+48) e Xx;unfold Go.Wk.gO;simp only[D];split
      · show((m.put (k.pos+40) e).put (k.pos+56) 1).b.length<=_
        rw[gM,gM];omega
      · generalize m.link k.aL (k.aZ-1) (k.pos+48) e=q at *
        obtain⟨w,t,o⟩:=q;simp only at j ⊢;show(o.put (k.pos+56)<|k.aZ+1).b.length<=_;rw[gM];exact j
    rw[jW];rw[List.nodup_cons]at hn;have C:∀a∈r,(if a=i then f i ++ [e]else f a)=f a:=fun a c=>if_neg (by rintro rfl;exact hn.1 c);have:=HJ n r (gO e i m) s _ g (fun a c=>by rw[p.len];exact hi a (by simp[c])) hn.2 (fun a c=>by simp only[C a c];exact hl a (by simp[c])) Xx;omega
theorem CP:∀(fs:List Pr) (m:Mk) (ps:List (List UInt8)) (od:List Nat),m.fit->(∀q∈fs,q.name.length<=8/\q.value.length<=40)->(eN fs m ps od).2.2.b.length<=m.b.length+460*fs.length
  | [],m,_,_,_,_=>Nat.le_refl _
  | x :: r,m,ps,od,h,hq=>by have g:=tZ m x h;have c:=g.le;have d:=ga x;have e:=hq x Oj;have:=CP r (m.data x).2 (ps ++ [((m.data x).2.ai.getD (m.data x).1 known0).bI]) (jK (m.data x).2.ai (m.data x).1 od) g.fit fun q h=>hq q (by simp[h]);have a:eN (x :: r) m ps od=eN r (m.data x).2 (ps ++ [((m.data x).2.ai.getD (m.data x).1 known0).bI]) (jK (m.data x).2.ai (m.data x).1 od):=rfl;rw[a,List.length_cons];omega
theorem KE {m:Mk} {l:List Ob} {es:List iK} {raw fs:List Pr} {aY mono:Nat} {aR:Ly} (h:Img m l es) (ok:xX m) (hb:aR.length=16) (hl:jN raw=(fs,0)) (ad:¬m.aT 9=18446744073709551615)
    (hfs:fs.length<=4) (hq:∀q∈fs,q.name.length<=8/\q.value.length<=40) (hn:es.length<=8) (hm:m.b.length+2420<=m.c.cK):∃N,m.append raw aY mono aR=(m.aT 9+1,0,N)/\N.b.length<=m.b.length+2420:=by
  obtain⟨Z,U,aF,ap,aq⟩:=oJ hl;obtain⟨M,_⟩:=oV hl;have D:=oG fs m [] [] 0 (jT ok) M;have o:=CP fs m [] [] ok.fit hq;obtain⟨ax,Q,W⟩:=qq fs [] m l [] [] es (es.map iK.pos) (places es) h.c (fun i s=>rC h.who i s) ⟨rfl,by simp,by simp,List.Pairwise.nil⟩ M (by rw[List.nil_append];exact pE Z U);rcases hd:eN fs m [] []with⟨ps,H,x⟩;rw[hd,Nat.zero_add]at D;rw[hd]at Q W o;rw[List.nil_append]at W;simp only at D Q W o;have az:=ok.small;have ar:=D.len.1;obtain⟨c1,c2,k⟩:=Q.same;have n9:x.aT 9=m.aT 9:=k 9 Xz Xz Xz;have n8:x.aT 8=m.aT 8:=k 8 Xz Xz Xz;have d:=h.n8;have ao:=h.n9;have L:=tL W.MP;have Y:(x.aT 9+1)%18446744073709551616=m.aT 9+1:=(by rw[n9];exact Nat.mod_eq_of_lt Xx)
  generalize hE:({seq:=(x.aT 9+1)%18446744073709551616,aY:=aY,mono:=mono,aR:=aR,xor:=lH 0 ps,bg:=dG x H}:lu)=E;have av:E.bg.length=H.length:=(by subst hE;simp[dG]);have p:E.aR.length=16:=(by subst hE;exact hb);have u:=Q.img.entry (E:=E) (who:=H) p Xx;have F:=eW x<|bT E;have I:=dn x<|bT E;have f:∀i,i≠6->i≠7->(x.bJ<|bT E).2.aT i=x.aT i:=fun i ae af=>ru x _ ⟨ae,af⟩;have aw:=iB E p;rcases ho:x.bJ (bT E)with⟨e,C⟩;rw[ho]at u F I f;simp only at u F I f;have ab:e=x.b.length:=F.1;subst ab;have P:C.aT 8=(es.map iK.pos).length:=(by rw[f 8 Xz Xz,n8,d,List.length_map]);have w:=F.2.1;obtain⟨r,A⟩:=uD (x:=x.b.length) u.fK.dY u.main (ny _) Xx Xx;rw[<- P]at A;have v:=OC C C.main (C.aT 8) 176 x.b.length (by rw[P,List.length_map];exact hn);rcases hk:C.link C.main (C.aT 8) 176 x.b.length with⟨a,t,G⟩;rw[hk]at A v;simp only at A v;have B:=iU (aY:=aY) (mono:=mono) (aR:=aR) hl Oj ad hd (by rw[hE];exact ho) hk rfl;obtain⟨ag,ah,aA,aB,aD,aE⟩:=A.same;obtain⟨j,R⟩:∃j,j=(let O:=({G with main:=a}:Mk).bD 11<|a.getD 0 0;({O with h:={O.h with bP:=eY a%4294967296,bR:=t%4294967296}}:Mk)):=⟨_,rfl⟩;have J:∀i,i≠11->j.aT i=G.aT i:=fun i s=>by subst R;exact au Xx
  have aa:j.b=G.b/\j.c=G.c/\j.ai=G.ai/\j.aC=G.aC/\j.main=a/\j.h.n.length=G.h.n.length:=(by subst R;exact⟨rfl,rfl,rfl,rfl,rfl,by simp[Mk.bD]⟩);rw[<- R]at B;obtain⟨V,y,S,aj,ak,al⟩:=aa;have g:=u.link A V y S aj ak ⟨J 2 Xz,J 4 Xz⟩<|fun c=>c.to al fun i s=>J i Xx;have K:j.ai=x.ai:=(by rw[S,ah,I.2.1]);have T:=HJ (e:=x.b.length) Xx H j r _ g (fun i s=>by rw[K];exact W.lt i s) L (fun i _=>by have:=mO es i;omega) (by rw[V];omega);obtain⟨ay,X⟩:=wK (e:=x.b.length) Xx H j r _ g (fun i s=>by rw[K];exact W.lt i s) L (fun i _=>by have:=mO es i;omega) (by rw[V];omega);generalize iL x.b.length H j=z at *;have B:m.append raw aY mono aR=if z.c.cK<z.b.length then(0,15,m)else((x.aT 9+1)%18446744073709551616,0,jV z (C.aT 8) ((x.aT 9+1)%18446744073709551616) aY mono x.b.length aR):=B;have am:z.c=m.c:=(by rw[X.same.1,y,ag,I.1,c1]);rw[V]at T;have an:z.b.length<=m.b.length+2420:=Xx;rw[if_neg (by rw[am];omega),Y]at B;exact⟨_,B,by rw[(mI z (C.aT 8) (m.aT 9+1) aY mono x.b.length aR).1];exact an⟩
structure Live (d:bw) (m:Mk) (n:Nat):Prop where
  img:∃l es,Img m l es/\es.length=n
  hs:Hs m
  ok:xX m
  tight:RD m
  GA:jG 0 d m
  im:d.b=jl m d.h.state
theorem Live.step {d:bw} {m:Mk} {n:Nat} (L:Live d m n) {raw fs:List Pr} {aY mono:Nat} {aR:Ly} {e:lu} (hb:aR.length=16) (u:aY<18446744073709551616/\mono<18446744073709551616) (hl:jN raw=(fs,0)) (t:¬m.aT 9=18446744073709551615)
    (he:e.seq=m.aT 9+1/\e.aY=aY/\e.mono=mono/\e.aR=aR) :
    d.IJ fs e/\∃z:Mk,m.append raw aY mono aR=(if m.c.cK<(d.entry fs e).b.length then(0,15,m)else(m.aT 9+1,0,z))/\(d.entry fs e).b.length<=300000/\(¬m.c.cK<(d.entry fs e).b.length->Live (d.entry fs e) z (n+1)/\z.aT 9=m.aT 9+1/\z.c=m.c):=by
  obtain⟨l,R,D,o⟩:=L.img;obtain⟨r,z,f,a,G,s,P,Q⟩:=L.GA.entry D L.hs L.ok L.tight hb hl t he;refine⟨r,z,by rw[f];exact a,by rw[f];exact Q,fun k=>?_⟩;rw[<- f,if_neg k]at a;obtain⟨p,g,j,h,C⟩:=xY D L.ok L.hs.h20 hb u a;rw[hl]at h;obtain rfl:fs=j:=(Prod.mk.inj h).1;have H:=XW D L.hs L.ok hb hl a;have i:=XY L.ok (raw:=raw) (aY:=aY) (mono:=mono) (aR:=aR) hb (by rw[a];exact G.VY);rw[a]at i;exact⟨⟨⟨p,_,C.img,by rw[List.length_append];simp[o]⟩,H.1,i,s,G,P⟩,C.seq.2.trans q,C.c⟩
end Go.Wk
namespace Go.Proofs.YtfadcpfgenjbeaaGreat
open Go Go.Wk Go.RowKit
set_option linter.unusedVariables false
set_option linter.unusedSimpArgs false
attribute [local irreducible] wpList wpQuiet wpStill eF Code.wp Calls bodyPost
theorem ZF {c:gZ} {t:Nat} (h:c.aj<=10/\c.ak<=10) (h1:1<=c.aj/\1<=c.ak) (b:t<18446744073709551616):Img (eC c t) (rX c) []/\(eC c t).aT 9=t:=by obtain⟨i,_,_⟩:=ac9 (t:=0) h h1 Xx;have a:(eC c t).aT 9=t:=rfl;exact⟨⟨i.c.to q q q q q ⟨q,q⟩ (fun c=>c.to q fun d C=>by rcases C with rfl|rfl|rfl|rfl<;>rfl),i.n8,by rw[a];exact b,i.n11,i.n10,by simp,fun k hk=>absurd hk List.not_mem_nil⟩,a⟩
theorem acG {d:bw} {m:Mk} {v:Nat} (h:d.h.n=m.h.n.set 1 v ++ [0]) (hl:m.h.n.length=20):d.h.n.length=21/\d.aT 1=v/\d.aT 20=0/\∀i,i≠1->i<20->d.aT i=m.aT i:=by
  unfold bw.aT Mk.aT;refine⟨by rw[h,List.length_append,List.length_set,hl];rfl,?_,?_,fun i A B=>?_⟩
  · rw[h,List.getD_eq_getElem?_getD,List.getElem?_append_left (by rw[List.length_set];omega),List.getElem?_set_self Xx];rfl
  · rw[h,List.getD_eq_getElem?_getD,List.getElem?_append_right (by rw[List.length_set];omega),List.length_set,hl];rfl
  rw[h,List.getD_eq_getElem?_getD,List.getElem?_append_left (by rw[List.length_set];omega),List.getElem?_set_ne Xx,List.getD_eq_getElem?_getD]
set_option maxRecDepth 100000 in
theorem Live.start {c:gZ} {t:Nat} (ok:gZ.ok c) (h:1<=c.aj/\c.aj<=10/\1<=c.ak/\c.ak<=10) (E:c.cK<=40000) (F:t<18446744073709551616):Live (iG c t) (eC c t) 0/\(eC c t).aT 9=t/\(eC c t).b.length=304+16*c.aj+16*c.ak:=by
  obtain⟨e,R⟩:=ZF (t:=t) ⟨h.2.1,h.2.2.2⟩ ⟨h.1,h.2.2.1⟩ F;have o:=acA (c:=c) (t:=t) ⟨h.2.1,h.2.2.2⟩ ⟨h.1,h.2.2.1⟩ E;have H:=ac8 (c:=c) (t:=t) ⟨h.1,h.2.2.1⟩;obtain⟨r,s⟩:=sI (t:=t) ok ⟨h.1,by omega,h.2.2.1,by omega⟩;have C:∃d:bw,iG c t=d.hput/\d.b=(eC c t).b/\d.h.n=(eC c t).h.n.set 1 ((eC c t).b.length-272) ++ [0]/\hdD d=hdM (eC c t)/\d.h.n.getD 3 0=16*c.aj/\d.h.n.getD 5 0=16*c.ak/\d.h.n.getD 0 0=272:=by unfold iG eC hdD hdM;generalize dc 4 (List.replicate c.aj Za)=T4;generalize dc 5 (List.replicate c.ak Za)=T5;exact⟨_,q,q,q,q,q,q,q⟩
  obtain⟨d,T,D,x,f,V,W,y⟩:=C;obtain⟨z,A,n3,g⟩:=acG x H.h20;have Q:d.h.bE.length=16/\d.h.bO.length=16/\d.h.aR.length=16/\d.h.seq.length=16/\d.h.state<256:=by have:=f;unfold hdD hdM eC at this;simp only[Prod.mk.injEq]at this;obtain⟨_,_,G,j,l,m,p,_⟩:=this;rw[G,j,l,m,p];exact⟨ok.1,ok.2.1,by simp,ok.2.2.1,by decide⟩
  have v:jG 0 d (eC c t):=⟨by rw[D];exact⟨q,fun _ _=>rfl⟩,z,H.h20,y,by rw[A,D],V,W,fun i u P=>g i u P.2,(g 8 Xz Xz),n3,f,q,q,Q⟩;have w:d8 (eC c t).b 176=(eC c t).aT 11:=by rw[e.c.main.word,e.n11]
  have B:=af5 (c:=c) (t:=t);have a:=jG.hput v B.1 w;rw[<- T]at a;refine⟨⟨⟨_,[],e,q⟩,H,o,⟨fun h=>absurd q h,fun k hk=>by simp[eC]at hk⟩,a,by rw[r];rfl⟩,R,by rw[<- a.vz.1];exact s⟩
theorem Live.put {x:js} {m:Mk} {n:Nat} (L:Live x.d m n) (u:x.dN=false) (v:x.cK=m.c.cK) {fs:List Pr} {aY mono:Nat} {aR:Ly} (hb:aR.length=16) (k:aY<18446744073709551616/\mono<18446744073709551616) (hl:jN fs=(fs,0)) (E:m.aT 9<=100)
    (hf:1<=fs.length/\fs.length<=4) (hq:∀q∈fs,right q.pb=true/\q.name.length<=8/\q.value.length<=40) (hn:n<=8) (hs:m.b.length+2420<=m.c.cK) :
    x.vn fs aY mono aR/\∃(z:Mk) (d:bw),x.append fs aY mono aR=(m.aT 9+1,0,{x with d:=d,waiting:=x.waiting+1})/\Live d z (n+1)/\z.aT 9=m.aT 9+1/\z.c=m.c/\z.b.length<=m.b.length+2420/\x.d.b.length<=d.b.length:=by
  have P:x.d.aT 9=m.aT 9:=L.GA.aT 9 Xz Xz;obtain⟨Q,z,a,V,R⟩:=L.step (e:=x.pA aY mono aR) hb k hl Xx ⟨by unfold js.pA;rw[P],rfl,rfl,rfl⟩;obtain⟨l,T,j,A⟩:=L.img;obtain⟨s,C,o⟩:=KE (aY:=aY) (mono:=mono) (aR:=aR) j L.ok hb hl Xx hf.2 (fun q h=>(hq q h).2) Xx hs;have f:¬m.c.cK<(x.d.entry fs<|x.pA aY mono aR).b.length:=fun h=>by rw[if_pos h,C]at a;have:=congrArg (fun y=>y.2.1) a;simp at this
  rw[if_neg f,C]at a;have i:s=z:=(by have:=congrArg (fun y=>y.2.2) a;exact this);obtain⟨D,G,t⟩:=R f;have H:gX fs=(fs,0):=(by rw[PV,hl]);have p:(x.d.entry fs<|x.pA aY mono aR).aT 9=m.aT 9+1:=(by rw[D.GA.aT 9 Xz Xz,G]);refine⟨fun _ _ _=>?_,z,x.d.entry fs<|x.pA aY mono aR,?_,D,G,t,by rw[<- i];exact o,?_⟩
  · rw[H]
    refine⟨Q,⟨hf.1,by simp only;omega⟩,fun q h=>?_⟩;rw[uz (hq q h).1,ga];have:=(hq q h).2;omega
  · unfold js.append
    rw[if_neg (by rw[u];simp),H];simp only;rw[if_neg Oj,if_neg Xx,if_neg (by rw[v];exact f),p]
  obtain⟨B,g,w,_,r⟩:=xY j L.ok L.hs.h20 hb k (by rw[C]);have:=r.len;rw[L.GA.vz.1,D.GA.vz.1,<- i];exact this
def nmN (c:Bool):List UInt8:=if c=true then[107]else[106]
theorem acD (c:Bool):gG (nmN c)=true:=by cases c<;>decide
structure XQ (f:ey) (c:Bool) (B:Ly):Prop where
  off:f.off=false
  iV:f.iV = -1
  room:f.room=1048576
  nodes:∃z r,f.nodes=z :: r/\z.no.there=true/\z.no.nm=nmN c/\z.fl.b=B/\(c=false/\r=[]\/c=true/\∃y,r=[y]/\y.no.there=true/\y.no.nm=[106]/\y.fl.b=[])
theorem XQ.tot {f:ey} {c:Bool} {B:Ly} (h:XQ f c B):(eV f.nodes).1<=2/\(eV f.nodes).2=B.length:=by
  obtain⟨z,r,A,C,G,D,⟨_,rfl⟩|⟨_,y,rfl,E,H,F⟩⟩:=h.nodes
  · rw[A];simp[eV,C,D]
  rw[A];simp[eV,C,D,E,F]
theorem XQ.hit {f:ey} {c:Bool} {B:Ly} (h:XQ f c B):∃z,dU f.nodes (nmN c)=some z/\z.fl.b=B:=by obtain⟨z,r,A,C,D,E,_⟩:=h.nodes;exact⟨z,by rw[A,dU,if_pos ⟨C,D⟩],E⟩
theorem XQ.start {d:ey} {b:Ly} {i j q r:Nat} (e:lQ {room:=1048576,iV:=-1,off:=false,nodes:=[],pend:=[]} [106] b i j q=(r,d)) (k:(d.nodes.map (·.id)).Nodup) (h:1<=b.length/\b.length<=32768):r=0/\XQ d false b:=by have c:=ye e rfl rfl Xz k h;obtain⟨C,z,D,f,g,a⟩:=(c.2 (by unfold nq;simp[eV];omega)).2 rfl Xz;exact⟨C,by rw[a],by rw[a],by rw[a],z,[],by rw[a];rfl,f,D,by rw[g],.inl ⟨rfl,rfl⟩⟩
theorem XQ.save {f m:ey} {c:Bool} {d x:Ly} {i j r:Nat} (h:XQ f c d) (nd:(f.nodes.map (·.id)).Nodup) (e:ko false f (nmN c) x i j=(r,m)) (t:1<=x.length/\x.length<=32768) (hl:d.length<=x.length):r=0/\XQ m c x:=by
  have n:=h.tot;obtain⟨z,q,C,D,k,l,H⟩:=h.nodes;have o:dU f.nodes (nmN c)=some z:=(by rw[C,dU,if_pos ⟨D,k⟩]);have G:(x.length:Int)-(z.fl.b.length:Int)<=nq f:=by
    by_cases h0:0<(x.length:Int)-(z.fl.b.length:Int)
    · rw[wG h.off h0,h.room,n.2,l];omega
    · unfold nq;rw[h.off];simp only[Bool.false_eq_true,if_false];split <;> omega
  obtain⟨p,a⟩:=(XC e h.off h.iV (acD c) nd o t (by rw[l];exact hl)).2 G;rw[C,List.map_cons,List.nodup_cons]at nd;generalize hg:(fun y:gJ=>({y with no:={y.no with kI:=j},fl:=⟨x,x⟩}:gJ))=g at a;have s:gY f.nodes z.id g=g z :: q:=by have:=JP (g:=g) nd.1;unfold gY at this ⊢;rw[C,List.map_cons,if_pos rfl,this]
  rw[s]at a;refine⟨p,by rw[a];exact h.off,by rw[a];exact h.iV,by rw[a];exact h.room,g z,q,by rw[a],?_,?_,?_,H⟩
  · rw[<- hg];exact D
  · rw[<- hg];exact k
  rw[<- hg]
theorem XQ.len {f:ey} {c:Bool} {B:Ly} (h:XQ f c B):AB f.off f.nodes [107]=(if c=true then(B.length,0)else(0,16))/\(c=true->AB f.off f.nodes [106]=(0,0))/\KB f.off f.nodes (nmN c)=(B,0):=by
  obtain⟨w,E,F⟩:=h.hit;refine⟨?_,fun I=>?_,UR (mZ h.off (acD c) E) F⟩
  · cases c with
    | true=>rw[if_pos rfl];exact AU (mZ h.off Xz E) (by rw[F])
    | false =>
      obtain⟨z,q,A,G,C,H,⟨_,rfl⟩|⟨D,_⟩⟩:=h.nodes
      · rw[if_neg Oj]
        exact VZ (NV h.off Xz (by rw[A,dU,if_neg (by rw[C];simp[nmN])];rfl)) Xz
      · cases D
  subst I;obtain⟨z,q,A,G,C,H,⟨D,_⟩|⟨_,y,rfl,J,K,L⟩⟩:=h.nodes
  · cases D
  exact AU (x:=y) (mZ h.off Xz (by rw[A,dU,if_neg (by rw[C];simp[nmN]),dU,if_pos ⟨J,K⟩])) (by rw[L];rfl)
theorem NK (s:Sq):s.config.1.cK=32768:=by rcases h1:s.aT 5 with⟨a,A⟩;rcases h2:A.aT 5 with⟨b,B⟩;rcases h3:B.aT 5 with⟨c,C⟩;rcases h4:C.aT 7 with⟨d,D⟩;rcases h5:D.aT 4 with⟨e,E⟩;rcases h6:E.aT 2 with⟨f,F⟩;simp only[Sq.config,h1,h2,h3,h4,h5,h6]
theorem RP (s:Sq):(1<=s.config.1.aj/\s.config.1.aj<=10/\1<=s.config.1.ak/\s.config.1.ak<=10)/\s.config.1.cK=32768:=by have:=Yo s;exact⟨⟨this.2.1.1,this.1.1,this.2.1.2,this.1.2⟩,NK s⟩
theorem Yl {s a:Sq} {c:gZ} (h:s.config=(c,a)):(1<=c.aj/\c.aj<=10/\1<=c.ak/\c.ak<=10)/\c.cK=32768:=by have:=RP s;rw[h]at this;exact this
def uW (d:bw):bw:=({d with h:={d.h with state:=2}}:bw).hput
theorem aaX {d:bw} (h:272<=d.b.length) (ok:bw.ok d):(uW d).b.length=d.b.length:=by have A:=EX (h:={d.h with state:=2}) ⟨ok.1,ok.2.1,(by decide:(2:Nat)<9223372036854775808),ok.2.2.2⟩;show(rE {d.h with state:=2} ++ d.b.drop 272).length=_;rw[List.length_append,A,List.length_drop];omega
theorem aid {ty:TypeId} {w:World} {Q:Nat->Prop} {v:Value} {d:bw} (h:Pt qP ty w Q v d):bw.ok d:=by obtain⟨_,_,_,_,_,h⟩:=h;obtain⟨_,_,o,_⟩:=pS h;exact o
theorem aa7 {w:World} {Q:Nat->Prop} (F:Up w Q) {E:Nat} {aO:Value} {J:List Nat} {k:Nat} {f:ey} (m:js) (B:lK k J w Q m.fs f) (j:bK w E (m.cells aO) 102) (n0:¬Q E) (nf:E∉J) (bq:m.ok) (M:Pt qP 107 w Q aO m.d) (bt:k<=90000) (bu:m.name.length<=1000000) (p2:272<=m.d.b.length/\m.d.b.length<=1000000) :
  Calls Zp 21 #[.pointer (some ⟨E,0,none⟩)] w fun av aj=>∃r:Nat,∃bd:ey,∃aJ:List Nat,∃au:Nat->Prop,∃aw:js,∃bg:Value,av = .returned (iZ r)/\r<9223372036854775808/\Md (E :: J) w aj/\iQ w aj Q au/\(∀y∈aJ,y∈E :: J\/w.heap.size<=y)/\lK (k+4) aJ aj au m.fs bd/\bK aj E (aw.cells bg) 102/\¬au E/\E∉aJ/\aw.ok/\Pt qP 107 aj au bg aw.d/\aw=(if r=0 then {m with d:=uW m.d,waiting:=0,dN:=true} else m)/\∃i bs,ko m.dN f m.name (uW m.d).b i bs=(r,bd):=by
 have aa:=nf;have ai:∀x∈J,aX (E :: J) w x:=fun x s=>.inl (by simp[s]);have L:=n0;have aD:aX (E :: J) w E:=.inl Oj;have I:=Md.refl (E :: J) w;have a7:=F;have X:∀b,Q b->Q b:=fun _ h=>h;have W:∀b,Q b->b<w.heap.size->Q b:=fun _ h _=>h;refine enter (n:=32) Tryz.func21 q q q fun bz=>ns<|an q<|nM q<|sn q<|sf q lS<|sl (u:=aO) q xF j q ?_;have ao:=M;obtain⟨aZ,bA,rfl,bi,ao,bn⟩:=ao;obtain⟨bV,rfl,bv,P⟩:=pS bn;refine Rz ajH q (CN F ⟨_,_,q,bi,ao,xR bv P⟩ (by exact p2.2)) ?_;rintro av bW ⟨K,aq,O,bb,rfl,e,⟨U,Z,ag⟩,G,o,c,D,A,a5⟩;have ba:∀x,ah aq=some x->x∉J:=fun x s aF=>by have bT:=(B.lt x aF).1;have bU:=(A.2 x s).1.elim (fun h=>by simp at h) id;omega
 have bD:E≠K:=(by have:=j.lt;omega);have bx:aZ≠K:=(by have:=ao.lt;omega);have C:K∉J:=fun s=>by have:=(B.lt _ s).1;omega
 have p:aX [] w K:=aX.new I _ c;have c:=lv I.size c;have L:=nQ L Z;have X:=tT X Z;have W:=Sx U W I.size;have A:=A.lower<|aX.lift (S':=[]) I;have M:=(M.sub U).o e;have j:=j.o e;have B:=(B.sub U Z).o e;have P:=(P.sub U).o e;have I:=I.k e;have F:=ag;refine an q<|nM q<|sn q<|sf q cG<|sf q OW<|aQ q q gQ q G (lq q) ?_;have aV:=G;intro bX e G;have V:∀b∈[K],¬bb b:=hI o;have M:=M.md e V;have j:=j.md e Zq;have B:=B.md e (fun x s=>by rw[List.mem_singleton];rintro rfl;exact C s) V;have P:=P.md e V;have A:=A.md e (aB aV A) V;have F:=F.md e;have I:=I.step e<|hI<|aX.wid p;obtain⟨S,R⟩:∃y,y=({O with h:={O.h with state:=2}}:bw):=⟨_,q⟩;have G:bK _ _ (bw.cells ({O with h:={O.h with state:=2}}) aq) _:=G;rw[<- R]at G;have bm:bw.ok S:=(by rw[R];exact(by unfold bw.ok;exact⟨D.1,D.2.1,Xm,D.2.2.2.1,D.2.2.2.2.1,D.2.2.2.2.2.1,D.2.2.2.2.2.2.1,D.2.2.2.2.2.2.2.1,D.2.2.2.2.2.2.2.2.1,D.2.2.2.2.2.2.2.2.2.1,D.2.2.2.2.2.2.2.2.2.2⟩));have bS:S.b.length=O.b.length:=(by rw[R]);have bB:S.h.n.getD 0 0=O.h.n.getD 0 0:=(by rw[R]);have bC:S.h.n.getD 2 0=O.h.n.getD 2 0:=(by rw[R]);have bG:S.h.n.getD 3 0=O.h.n.getD 3 0:=(by rw[R]);have bI:S.h.n.getD 4 0=O.h.n.getD 4 0:=(by rw[R]);have bJ:S.h.n.getD 5 0=O.h.n.getD 5 0:=(by rw[R]);rw[show O.b=S.b by rw[R]]at A;refine nt<|nM q ?_;have a9:S.b=m.d.b:=(by rw[R,a5]);have bp:S.h.state=2:=(by rw[R]);refine Rz afi q (tX F S G o A bm (by rw[a9];exact p2.2) (by rw[a9];exact p2.1) (by rw[bp];decide)) ?_;rintro av bo ⟨T,rfl,e,z,aU,bh,bl⟩;have V:∀b∈(ah aq).toList,¬bb b:=gL<|fun x s=>(A.2 x s).2;have ap:=A;have A:=aU.cT<|Sy ap;have G:=z;have M:=M.md e V;have j:=j.md e<|aW ap j;have B:=B.md e (fun x s aF=>ba x (by simpa using aF) s) V;have P:=P.md e V;have F:=F.md e;have I:=I.cE e<|fun b H=>aX.wid (ap.2 b H).1;have am:uW m.d=T:=(by unfold uW;rw[<- bl,R,a5]);have Bx:(uW m.d).b.length=m.d.b.length:=aaX p2.1<|aid M;refine nt<|aH<|ns<|m2 q q<|sn q<|sf q iI<|sl (u:=aq) q eH G q ?_;obtain⟨a4,N,Y,bc⟩:=A.freeze;have M:=M.sub<|fun b H _=>N b H;have L:=fun aK=>(Y _ aK).elim L<|OU<|aW A j;have B:=B.jd N Y ba;have P:=P.sub<|fun b H _=>N b H;have X:=fun b H=>(Y b H).elim (X b)<|fun aL=>aX.up a7 b (A.2 b aL).1;have W:=fun b H hl=>N b<|W b H hl;have F:Up bo a4:=fun b H=>N b<|F b H;have A:=bc;refine Rz ajJ q (JQ F m B j L aa bq M A (by exact bt) (by exact bu) (by rw[<- am,Bx];exact⟨by omega,p2.2⟩)) ?_;rintro av a8 ⟨l,bP,a0,ak,ab,rfl,bF,e,⟨U,Z,ag⟩,aE,a3,a2,aP,aR,aC,aT,az,a1⟩;have Bk:∀b∈(E :: J),¬a4 b:=fun b H=>(List.mem_cons.1 H).elim (fun aI=>aI ▸ L)<|fun H=>(B.lt b H).2;have V:∀b∈(E :: J),¬ak b:=fun b H br=>Bk b H<|Z b br;have aN:∀x∈(E :: J),aX (E :: J) w x:=fun x s=>(List.mem_cons.1 s).elim (fun aI=>aI ▸ aD)<|ai x;have P:=(P.sub U).md e V;have A:=(A.sub U).md e V;have a6:K∉a0:=fun h=>(aE _ h).elim (fun h=>(bH Xx C) h) (fun h=>by have:=G.lt;omega);have G:=G.md e<|bH Xx C;have C:=a6;have X:=tT X Z;have W:=Sx U W I.size;have bf:∀x∈a0,aX (E :: J) w x:=fun x s=>(aE x s).elim (aN x)<|aX.new I x;have I:=I.step e aN;clear F ai B V Bk aN aE e j L aa U Z;have F:=ag;have ai:=bf;have B:=a3;have j:=a2;have L:=aP;have aa:=aR;clear ag bf a3 a2 aP aR;have bE:ab.d=m.d:=(by rw[az]);have M:=aT;refine an q<|nM q<|su (fU (a:=l) (b:=0) q q)<|nt ?_;refine kS q ?_ ?_
 ·intro bk;refine nM q<|ar q<|aS ?_;exact gB (iZ l) q ⟨l,_,_,_,ab,(.pointer<|some ⟨aZ,0,none⟩),q,Xx,I,⟨W,X,F⟩,ai,B.up Xx,j,L,aa,aC,M,(by rw[if_neg Xx,az,if_neg Xx]),(by rw[am];exact a1)⟩
 intro bk;refine aM<|aA<|ns<|m2 q q<|mv q<|sn q<|sf q lS ?_;obtain⟨al,N,Y,be⟩:∃aG:Nat->Prop,(∀x,ak x->aG x)/\(∀x,aG x->ak x\/x=K)/\aG K:=⟨fun x=>ak x\/x=K,fun _ h=>.inl h,fun _ h=>h,.inr q⟩;have L:=fun aK=>(Y _ aK).elim L Xx;have B:=B.jd (v:=.slice (some ⟨K,0,none⟩) 0 0) N (fun b H=>(Y b H).imp id (fun h=>by rw[h];rfl)) (fun x s=>by simp[ah]at s;subst s;exact C);have A:=A.sub<|fun b H _=>N b H;have X:=fun b H=>(Y b H).elim (X b)<|fun aL=>aX.up a7 b<|aL ▸ p;have W:=fun b H hl=>N b<|W b H hl;have F:Up a8 al:=fun b H=>N b<|F b H;have t:Pt qP 107 a8 al (.pointer<|some ⟨K,0,none⟩) T:=⟨_,_,q,be,G,xR bh A⟩;refine aQ q q xF q j (lq q) ?_;have ay:=j;intro bQ e j;have V:∀b∈[E],¬al b:=hI L;have B:=B.md e (fun x s=>by rw[List.mem_singleton];rintro rfl;exact aa s) V;have t:=t.md e V;have F:=F.md e;have I:=I.step e<|hI aD;obtain⟨g,ad⟩:∃y,y=({ab with d:=T}:js):=⟨_,q⟩;have j:bK _ _ (js.cells ({ab with d:=T})<|.pointer<|some ⟨K,0,none⟩) _:=j;rw[<- ad]at j;have aY:js.ok g:=(by rw[ad];exact⟨aC.1,aC.2⟩);have bL:g.waiting=ab.waiting:=(by rw[ad]);have bM:g.cK=ab.cK:=(by rw[ad]);rw[show T=g.d by rw[ad]]at t;refine sn q<|sf q EF<|aQ q q vT q j (lq q) ?_;have ay:=j;intro bR e j;have V:∀b∈[E],¬al b:=hI L;have B:=B.md e (fun x s=>by rw[List.mem_singleton];rintro rfl;exact aa s) V;have t:=t.md e V;have F:=F.md e;have I:=I.step e<|hI aD;obtain⟨af,ae⟩:∃y,y=({g with dN:=true}:js):=⟨_,q⟩;have j:bK _ _ (js.cells ({g with dN:=true})<|.pointer<|some ⟨K,0,none⟩) _:=j;rw[<- ae]at j;have bj:js.ok af:=(by rw[ae];exact⟨aY.1,aY.2⟩);have bN:af.waiting=g.waiting:=(by rw[ae]);have bO:af.cK=g.cK:=(by rw[ae]);rw[show g.d=af.d by rw[ae]]at t;refine nt<|ns<|ar q ?_;exact gB (iN 0) q ⟨0,_,_,_,af,(.pointer<|some ⟨K,0,none⟩),q,Xx,I,⟨W,X,F⟩,ai,B.up Xx,j,L,aa,bj,t,(by rw[if_pos Xx];(try rw[ae,ad]);rw[az,if_pos Xx];rw[am]),(by rw[show(0:Nat)=l by omega,am];exact a1)⟩
end Go.Proofs.YtfadcpfgenjbeaaGreat
