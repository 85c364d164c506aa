/- Part 3 of what the walk of a law stands on: ImT8, ImT9, GoLP, ImT10, ImT11, ImT12, ImT13, ImT14, LinkP, LinkQ, ImT15, ImT16, ImT17, LwP, JfP, RefV, RefV2, RatP, LinkV, LastP, RecP, AtT, RawP, J15, SkP, SkQ, LdP, SkT, LkP, EqI, VLe. No statement is proved here. -/
import Derived.Test.YtbmmkbejcnalcaaGreatLAI2
import Derived.Test.YtbmmkbejcnalcaaGreatRows
set_option linter.unusedVariables false
set_option linter.unusedSimpArgs false
namespace Go.Wk
open Go Go.RowKit
structure gP where
  cC:Nat
  ent:eB
  who:List Nat
structure adk (b:Ly) (l:List Ob) (g:gP):Prop where
  ob:(⟨g.cC,3,64+16*g.ent.ax.length⟩:Ob)∈l
  seg:seg b g.cC (64+16*g.ent.ax.length)=dZ g.ent
theorem adk.mV {b c:Ly} {l r:List Ob} {g:gP} {S:Nat→Prop} (h:adk b l g) (hO:gu b 272 l b.length) (he:Eff S b c) (hs:∀a,S a→sB l a) (hr:∀o∈l,o∈r):adk c r g:=by
  have B:=(hO.mem h.ob).le
  have C:=fR (64+16*g.ent.ax.length)
  refine⟨hr _ h.ob,(he.seg _ _ (by simp only at B;omega) fun a A=>?_).trans h.seg⟩
  have:=(hs a A _ h.ob).2.2.2 rfl;simp only at this;omega
structure aiO (m:Mk):Prop where
  main:∀(i:Nat) (k:bT),m.ai[i]? = some k→∀a∈k.bh,a∉m.main
  one:∀(i j:Nat) (k k':bT) (a:Nat),m.ai[i]? = some k→m.ai[j]? = some k'→a∈k.bh→a∈k'.bh→i=j
structure mU (m:Mk) (l:List Ob) (es:List gP) (mp:List Nat) (f:Nat→List Nat):Prop where
  iB:Stat m l
  main:Chain m.b l 176 m.main mp
  dat:∀(i:Nat) (k:bT),m.ai[i]? = some k→uV m.b l k (f i)
  own:aiO m
  ent:∀g∈es,adk m.b l g
  kin:(l.filter fun o=>decide (o.kind=3)).map Ob.cC=es.map gP.cC
theorem vi {l t:List Ob} (h:∀o∈t,o.kind≠3):((l ++ t).filter fun o=>decide (o.kind=3))=l.filter fun o=>decide (o.kind=3):=by
  have e:(t.filter fun o=>decide (o.kind=3))=[]:=List.filter_eq_nil_iff.2 fun o A=>by simpa using h o A
  rw[List.filter_append,e,List.append_nil]
structure mO (ds ds':List bT):Prop where
  len:ds'.length=ds.length
  get:∀(i:Nat) (k':bT),ds'[i]? = some k'→∃k,ds[i]? = some k∧k'.cC=k.cC∧k'.dD=k.dD
theorem mO.refl (ds:List bT):mO ds ds:=⟨q,fun _ k h=>⟨k,h,q,q⟩⟩
theorem mO.set {ds:List bT} {i:Nat} {k k':bT} (h:ds[i]? = some k) (h1:k'.cC=k.cC) (h2:k'.dD=k.dD):mO ds (ds.set i k'):=by
  refine⟨by simp,fun j y A=>?_⟩
  by_cases hj:i=j
  · subst hj
    rw[List.getElem?_set_self (List.getElem?_eq_some_iff.1 h).1]at A
    cases A
    exact⟨k,h,h1,h2⟩
  rw[List.getElem?_set_ne hj]at A
  exact⟨y,A,q,q⟩
theorem sF.congr {b:Ly} {l:List Ob} {n:Nat} {k k':bT} (h:sF b l n k) (h1:k'.cC=k.cC) (h2:k'.dD=k.dD):sF b l n k':=by
  obtain⟨A,B,C⟩:=h
  exact⟨by rw[h1,h2];exact A,by rw[h1];exact B,by rw[h1,h2];exact C⟩
theorem Stat.keep {m m':Mk} {l l':List Ob} {S:Nat→Prop} (h:Stat m l) (hO':gu m'.b 272 l' m'.b.length) (hl:∃t,l'=l ++ t∧∀o∈t,o.kind≠1) (he:Eff S m.b m'.b) (hM:∀a,S a→sB l a) (hc:m'.c=m.c) (hf:m'.au=m.au) (hn:m'.dG 2=m.dG 2∧m'.dG 4=m.dG 4) (hd:mO m.ai m'.ai):Stat m' l':=by
  obtain⟨t,rfl,R⟩:=hl
  have I:∀o∈l,o∈l ++ t:=fun o B=>List.mem_append_left _ B
  have O:∀t,jM m' t=jM m t:=fun t=>by unfold jM;rw[hc]
  refine⟨hO',by rw[hc];exact I _ h.acT,by rw[hc];exact I _ h.acU,hn.1.trans h.n2,by rw[hc];exact hn.2.trans h.n4,by rw[hc];exact h.slots,fun k hk=>?_,fun k hk=>?_,fun i j k F E P Q=>?_,fun o B C=>?_⟩
  · obtain⟨i,E⟩:=List.mem_iff_getElem?.1 hk
    obtain⟨J,K,C,D⟩:=hd.get i k E
    rw[O,D]
    exact((h.data J (List.mem_of_getElem? K)).mV h.gy he hM I).congr C D
  · rw[hf]at hk;rw[O]
    exact(h.fld k hk).mV h.gy he hM I
  · obtain⟨J,K,C,D⟩:=hd.get i k E
    obtain⟨T,H,L,N⟩:=hd.get j F P
    exact h.one i j J T K H (by rw[← C,← L,← D,← N];exact Q)
  rcases List.mem_append.1 B with B|B
  · obtain⟨k,hk,D⟩:=h.all o B C
    obtain⟨i,E⟩:=List.mem_iff_getElem?.1 hk
    have M:=(List.getElem?_eq_some_iff.1 E).1
    obtain⟨F,G⟩:∃F,m'.ai[i]? = some F:=⟨_,List.getElem?_eq_getElem (by rw[hd.len];exact M)⟩
    obtain⟨J,H,L,N⟩:=hd.get i F G
    rw[E]at H;cases H
    exact⟨F,List.mem_of_getElem? G,L.trans D⟩
  exact absurd C (R o B)
theorem mU.soft {m m':Mk} {l l':List Ob} {es:List gP} {mp:List Nat} {f:Nat→List Nat} {i:Nat} {t:Ly} (h:mU m l es mp f) (d:zQ m m' l l' i t) (hf:∀i,m.ai.length≤i→f i=[]):mU m' l' es mp f:=by
  have H:=d.step.mem
  have hO':=d.step.gy
  have J:=d.step.mV
  have O:∀a,oW l' a→sB l a:=fun a C=>(C.abt hO').mono H
  have D:=d.step.same.2.1
  have M:∀(j:Nat) (k:bT),m.ai[j]? = some k→uV m'.b l' k (f j):=fun j k B=>(h.dat j k B).soft (h.iB.data k (List.mem_of_getElem? B)) h.iB.gy hO' J H
  have A:∀(j:Nat) (k:bT),m'.ai[j]? = some k→m.ai[j]? = some k∨(m.ai.length≤j∧k.ck=0∧k.bh=[]∧yD m'.b k.cC):=fun j k B=>by
    rcases d.new with e|⟨s,p,e,I,_⟩
    · rw[e]at B;exact .inl B
    · rw[e]at B
      rcases Nat.lt_or_ge j m.ai.length with F|F
      · rw[List.getElem?_append_left F]at B;exact .inl B
      · have L:=(List.getElem?_eq_some_iff.1 B).1
        simp at L
        rw[List.getElem?_append_right F,show j-m.ai.length=0 by omega]at B
        have:k={dD:=t,cC:=p,dS:=s,ck:=0,bh:=[]}:=by simpa using B.symm
        subst this
        exact .inr ⟨F,q,q,I⟩
  refine⟨d.iB,?_,fun j k B=>?_,⟨fun j k B a C=>?_,fun i j k N a K B C E=>?_⟩,fun g Q=>(h.ent g Q).mV h.iB.gy J O H,?_⟩
  · rw[D];exact XO h.main h.iB.gy hO' J H
  · rcases A j k B with B|⟨F,P,C,I⟩
    · exact M j k B
    rw[hf j F];exact uV.new I P C
  · rw[D]
    rcases A j k B with B|⟨_,_,G,_⟩
    · exact h.own.main j k B a C
    rw[G]at C;simp at C
  · rcases A i k K with K|⟨_,_,G,_⟩
    · rcases A j N B with B|⟨_,_,G,_⟩
      · exact h.own.one i j k N a K B C E
      rw[G]at E;simp at E
    rw[G]at C;simp at C
  obtain⟨u,e,S⟩:=d.step.sub
  rw[e,vi fun o R=>by have:=(S o R).1;omega]
  exact h.kin
theorem mU.entry {m:Mk} {l:List Ob} {es:List gP} {mp:List Nat} {f:Nat→List Nat} (h:mU m l es mp f) {E:eB} {who:List Nat} (hb:E.cg.length=16) (hn:E.ax.length≤1000) :
    mU (m.d9 (dZ E)).2 (l ++ [⟨m.b.length,3,64+16*E.ax.length⟩]) (es ++ [⟨m.b.length,E,who⟩]) mp f:=by
  have T:=mA E hb
  have B:(m.d9 (dZ E)).2.b=m.b ++ dZ E:=rfl
  have S:=eK m (dZ E)
  have C:∀i,i≠6→i≠7→(m.d9 (dZ E)).2.dG i=m.dG i:=fun i U V=>by
    simp only[Mk.d9]
    rw[fB Jy,fB Jy];rfl
  generalize (m.d9 (dZ E)).2=m' at *
  obtain⟨Q,H,R,L⟩:=S
  have O:sA (64+16*E.ax.length)=64+16*E.ax.length:=by unfold sA;omega
  have F:(dZ E).length=64+16*E.ax.length:=by omega
  have G:Eff (fun _=>False) m.b m'.b:=by rw[B];exact Eff.app _ _ _
  have P:∃r,dZ E=Pu 3 (64+16*E.ax.length) ++ r:=by
    unfold dZ
    rw[wP Jy]
    rw[show 16+(nums [E.seq,E.cK,E.mono] ++ E.cg ++ nums [E.xor] ++ lF E.ax).length=64+16*E.ax.length by simp[eR,ug,hb];omega]
    exact⟨_,List.append_assoc _ _ _⟩
  obtain⟨r,N⟩:=P
  have hO':gu m'.b 272 (l ++ [⟨m.b.length,3,64+16*E.ax.length⟩]) m'.b.length:=by
    have:=(h.iB.gy.mV G (Nat.le_refl _) (fun _ _ _ A=>A.elim)).app (o:=⟨m.b.length,3,64+16*E.ax.length⟩) q Oq Oq Zk Zk ?_
    · simp only[O]at this;rw[B,List.length_append,F];rw[B]at this;exact this
    · have K:=iN (x:=m.b) (y:=dZ E) (p:=m.b.length) (n:=16) (Nat.le_refl _)
      rw[Nat.sub_self,aaV N (kF _ _)]at K
      rw[B];exact K
  have J:∀o∈l,o∈l ++ [(⟨m.b.length,3,64+16*E.ax.length⟩:Ob)]:=fun o M=>List.mem_append_left _ M
  refine⟨h.iB.keep hO' ⟨_,q,by simp⟩ G (fun _ A=>A.elim) Q R ⟨C 2 Kq Kq,C 4 Kq Kq⟩ (by rw[H];exact mO.refl _),?_,fun i k I=>?_,⟨by rw[H,L];exact h.own.main,by rw[H];exact h.own.one⟩,fun g D=>?_,?_⟩
  · rw[L];exact h.main.mV h.iB.gy (vY l) (Nat.le_refl _) G J (fun _ A=>A.elim) (fun _ _ _ _ A=>A.elim)
  · rw[H]at I
    exact(h.dat i k I).mV (h.iB.data k (List.mem_of_getElem? I)) h.iB.gy G J (fun _ A=>A.elim) (fun _ _ _ _ A=>A.elim)
  · rcases List.mem_append.1 D with D|D
    · exact(h.ent g D).mV h.iB.gy G (fun _ A=>A.elim) J
    simp at D;subst D
    refine⟨by simp,?_⟩
    simp only
    rw[B,← F]
    exact seg_new _ _
  rw[List.filter_append,List.map_append,h.kin];simp
theorem BS {b:Ly} {l:List Ob} {e src a:Nat} {av:List Nat} (hO:gu b 272 l e) (h:zS src av a) (hob:∀k c:Nat,av[k]? = some c→(⟨c,6,24+8*ez (k:Int)⟩:Ob)∈l) {o:Ob} (ho:o∈l) (hne:∀c∈av,c≠o.cC):a=src∨a+8≤o.cC∨o.cC+sA o.size≤a:=by
  rcases h with h|⟨k,c,B,C,D⟩
  · exact .inl h
  right
  rcases hO.sep ho (hob k c B)with A|A|A
  · exact absurd (congrArg Ob.cC A).symm (hne c (List.mem_of_getElem? B))
  · simp only at A;omega
  rw[iW]at A;simp only at A;omega
theorem BU {b:Ly} {l:List Ob} {e src a:Nat} {av:List Nat} (hO:gu b 272 l e) (h:zS src av a) (hob:∀k c:Nat,av[k]? = some c→(⟨c,6,24+8*ez (k:Int)⟩:Ob)∈l) (hs:sB l src):sB l a:=by
  rcases h with h|⟨k,c,A,B,C⟩
  · rw[h];exact hs
  exact zy hO (hob k c A) Zk (by rw[iW];simp only;omega) Oq Oq Oq
end Go.Wk
namespace Go.Wk
open Go Go.RowKit
theorem vZ {l:List Nat} {a:Nat} (h:a∈l):∃i:Nat,l[i]? = some a:=List.mem_iff_getElem?.1 h
theorem agC {m:Mk} {l l':List Ob} {n:Nat} (h:l'=l∨l'=l ++ [(⟨m.b.length,6,24+8*n⟩:Ob)]):∃t,l'=l ++ t∧∀o∈t,o.kind=6∧m.b.length≤o.cC:=by
  rcases h with h|h
  · exact⟨[],by simp[h],by simp⟩
  exact⟨_,h,by intro o A;simp at A;subst A;exact⟨q,Nat.le_refl _⟩⟩
theorem mU.link {m m':Mk} {l l':List Ob} {es:List gP} {mp:List Nat} {f:Nat→List Nat} {x:Nat} {av:List Nat} {m1:Mk} (h:mU m l es mp f) (L:Linked m m1 l l' 176 m.main av mp x)
    (hb:m'.b=m1.b) (hc:m'.c=m1.c) (hd:m'.ai=m1.ai) (hf:m'.au=m1.au) (hm':m'.main=av) (hn:m'.dG 2=m1.dG 2∧m'.dG 4=m1.dG 4):mU m' l' es (mp ++ [x]) f:=by
  obtain⟨X,Y,Z,n,p,T⟩:=L.same
  obtain⟨t,M,S⟩:=agC L.sub
  have hO':=L.gy
  have H:∀o∈l,o∈l':=fun o D=>by rw[M];exact List.mem_append_left _ D
  have N:=L.mV
  have I:∀a,zS 176 av a→sB l a:=fun a C=>(BU hO' C L.chain.ob (GB hO' Kq)).mono H
  have E:∀c∈av,c∈m.main∨c=m.b.length:=fun c hc=>by
    rcases L.arr with e|e
    · rw[e]at hc;exact .inl hc
    · rw[e,List.mem_append,List.mem_singleton]at hc;exact hc
  have F:∀c∈av,∀o∈l',o.kind≠6→c≠o.cC:=fun c hc o D hk e=>by
    obtain⟨i,B⟩:=vZ hc
    rcases hO'.sep D (L.chain.ob i c B)with G|G|G
    · subst G;exact hk q
    · have:=fR o.size;have:=(hO'.mem D).size.1;simp only at G;omega
    · rw[iW]at G;simp only at G;omega
  have K:m'.ai=m.ai:=hd.trans Y
  refine⟨h.iB.keep (by rw[hb];exact hO') ⟨t,M,fun o D=>by have:=(S o D).1;omega⟩ (by rw[hb];exact N) I (hc.trans X) (hf.trans Z) ⟨hn.1.trans (T 2 Kq Kq Kq),hn.2.trans (T 4 Kq Kq Kq)⟩ (by rw[K];exact mO.refl _),by rw[hb,hm'];exact L.chain,fun i k B=>?_,⟨fun i k B a C hc=>?_,by rw[K];exact h.own.one⟩,fun g U=>by rw[hb];exact(h.ent g U).mV h.iB.gy N I H,by rw[M,vi fun o D=>by have:=(S o D).1;omega];exact h.kin⟩
  · rw[K]at B
    have J:=h.iB.data k (List.mem_of_getElem? B)
    have d:=fR (64+k.dD.length)
    have V:272≤k.cC:=(h.iB.gy.mem J.ob).ge
    rw[hb]
    refine(h.dat i k B).mV J h.iB.gy N H (fun a C=>?_) (fun j y R a C=>?_)
    · rcases BS hO' C L.chain.ob (H _ J.ob) (fun c hc=>F c hc _ (H _ J.ob) Oq)with A|A|A
      · omega
      · simp only at A;omega
      simp only at A;omega
    have Q:=(h.dat i k B).chain.ob j y R
    have O:=(h.dat i k B).chain.le h.iB.gy R
    have P:∀c∈av,c≠y:=fun c hc e=>by
      subst e
      rcases E c hc with A|A
      · exact h.own.main i k B c (List.mem_of_getElem? R) A
      · omega
    rcases BS hO' C L.chain.ob (H _ Q) P with A|A|A
    · omega
    · simp only at A;omega
    rw[iW]at A;simp only at A;omega
  rw[K]at B;rw[hm']at hc
  rcases E a hc with A|A
  · exact h.own.main i k B a C A
  obtain⟨j,W⟩:=vZ C
  have O:=(h.dat i k B).chain.le h.iB.gy W
  omega
theorem vl {k:bT} {av:List Nat} {a:Nat} (h:adm k av a):(k.cC+40≤a∧a+8≤k.cC+64)∨zS (k.cC+48) av a:=by
  rcases h with h|h|h
  · left;omega
  · left;omega
  exact .inr h
theorem mU.hang {m m':Mk} {l l':List Ob} {es:List gP} {mp:List Nat} {f:Nat→List Nat} {i e:Nat} {k k':bT} (h:mU m l es mp f) (hi:m.ai[i]? = some k) (H:adn m m' l l' i e k k' (f i)):mU m' l' es mp (fun j=>if j=i then f i ++ [e]else f j):=by
  obtain⟨s1,s3,s4,s5,s6⟩:=H.same
  obtain⟨t,u,ht⟩:=H.sub
  have J:=H.gy
  have M:∀o∈l,o∈l':=fun o N=>by rw[u];exact List.mem_append_left _ N
  have p:=H.mV
  have T:=h.iB.data k (List.mem_of_getElem? hi)
  have hu:=fR (64+k.dD.length)
  have Ah:272≤k.cC:=(h.iB.gy.mem T.ob).ge
  have v:mO m.ai m'.ai:=by rw[H.dat];exact mO.set hi H.cC.1 H.cC.2.1
  have ob':=H.more.chain.ob
  have K:∀c∈k'.bh,c∈k.bh∨c=m.b.length:=fun c G=>by
    rcases H.arr with e|e
    · rw[e]at G;exact .inl G
    · rw[e,List.mem_append,List.mem_singleton]at G;exact G
  have Q:∀c∈k'.bh,∀o∈l',o.kind≠6→c≠o.cC:=fun c G o N hk e=>by
    obtain⟨i,hi⟩:=vZ G
    rcases J.sep N (ob' i c hi)with C|C|C
    · subst C;exact hk rfl
    · have:=fR o.size;have:=(J.mem N).size.1;simp only at C;omega
    · rw[iW]at C;simp only at C;omega
  -- what is written stands E from another object's inside
  have E:∀o∈l',o.cC≠k.cC→(∀c∈k'.bh,c≠o.cC)→∀a,adm k k'.bh a→a+8≤o.cC∨o.cC+sA o.size≤a:=fun o N x G a F=>by
    have Ak:o.cC+sA o.size≤k.cC∨k.cC+sA (64+k.dD.length)≤o.cC:=by
      rcases J.sep N (M _ T.ob)with C|C|C
      · exact absurd (congrArg Ob.cC C) x
      · exact .inl C
      · exact .inr C
    rcases vl F with B|B
    · omega
    · rcases BS J B (by rw[← H.cC.1]at *;exact ob') N G with d|d
      · omega
      · exact d
  have U:∀a,adm k k'.bh a→sB l a:=fun a F=>by
    have hw:∀q,k.cC+40≤q→q+8≤k.cC+64→sB l' q:=fun q B d=>zy J (M _ T.ob) Zk Zk Oq Zk Oq
    rcases vl F with B|B
    · exact(hw a B.1 B.2).mono M
    · exact(BU J B ob' (hw _ Jy Jy)).mono M
  have A:∀(j:Nat) (y:bT),m'.ai[j]? = some y→(j=i∧y=k')∨(j≠i∧m.ai[j]? = some y):=fun j y D=>by
    rw[H.dat]at D
    by_cases I:i=j
    · subst I
      rw[List.getElem?_set_self (List.getElem?_eq_some_iff.1 hi).1]at D
      exact .inl ⟨rfl,by simpa using D.symm⟩
    · rw[List.getElem?_set_ne I]at D
      exact .inr ⟨fun e=>I e.symm,D⟩
  have R:=h.iB.keep J ⟨t,u,fun o N=>by have:=(ht o N).1;omega⟩ p U s1 s3 ⟨s6 2 Kq Kq Kq,s6 4 Kq Kq Kq⟩ v
  refine⟨R,?_,fun j y D=>?_,⟨fun j y D a F G=>?_,fun j S y Z a D L F P=>?_⟩,fun g hg=>(h.ent g hg).mV h.iB.gy p U M,by rw[u,vi fun o N=>by have:=(ht o N).1;omega];exact h.kin⟩
  · rw[s4]
    refine h.main.mV h.iB.gy (vY l) (Nat.le_refl _) p M (fun a F=>?_) (fun j y hy a F=>?_)
    · rcases vl F with B|B|⟨j,c,B,d,h3⟩
      · omega
      · omega
      have:=H.more.chain.le J B;omega
    have O:=h.main.ob j y hy
    have w:=h.main.le h.iB.gy hy
    have:=E _ (M _ O) (fun e=>by
      have:=h.iB.gy.sep O T.ob
      rcases this with C|C|C
      · cases C
      · rw[iW]at C;simp only at C e;omega
      · simp only at C e;omega) (fun c G e=>by
      simp only at e;subst e
      rcases K c G with B|B
      · exact h.own.main i k hi c B (List.mem_of_getElem? hy)
      · omega) a F
    rw[iW]at this
    simp only at this;omega
  · rcases A j y D with⟨rfl,rfl⟩|⟨I,D⟩
    · rw[if_pos rfl];exact H.more
    rw[if_neg I]
    have r:=h.iB.data y (List.mem_of_getElem? D)
    have Al:=fR (64+y.dD.length)
    have Aa:y.cC≠k.cC:=fun e=>I (h.iB.one j i y k D hi (.inl e))
    refine(h.dat j y D).mV r h.iB.gy p M (fun a F=>?_) (fun n z X a F=>?_)
    · have:=E _ (M _ r.ob) Aa (fun c G=>Q c G _ (M _ r.ob) Oq) a F
      simp only at this;omega
    have O:=(h.dat j y D).chain.ob n z X
    have w:=(h.dat j y D).chain.le h.iB.gy X
    have:=E _ (M _ O) (fun e=>by
      have:=h.iB.gy.sep O T.ob
      rcases this with C|C|C
      · cases C
      · rw[iW]at C;simp only at C e;omega
      · simp only at C e;omega) (fun c G e=>by
      simp only at e;subst e
      rcases K c G with B|B
      · exact I (h.own.one j i y k c D hi (List.mem_of_getElem? X) B)
      · omega) a F
    rw[iW]at this
    simp only at this;omega
  · rw[s4]at G
    rcases A j y D with⟨rfl,rfl⟩|⟨I,D⟩
    · rcases K a F with B|B
      · exact h.own.main j k hi a B G
      obtain⟨n,hn⟩:=vZ G
      have:=h.main.le h.iB.gy hn;omega
    exact h.own.main j y D a F G
  have Y:∀(n:Nat) (z:bT),m.ai[n]? = some z→m.b.length∉z.bh:=fun n z X W=>by
    obtain⟨q,hq⟩:=vZ W
    have:=(h.dat n z X).chain.le h.iB.gy hq;omega
  rcases A j y D with⟨rfl,rfl⟩|⟨I,D⟩
  · rcases A S Z L with⟨rfl,rfl⟩|⟨V,L⟩
    · rfl
    rcases K a F with B|B
    · exact h.own.one j S k Z a hi L B P
    subst B;exact absurd P (Y S Z L)
  rcases A S Z L with⟨rfl,rfl⟩|⟨V,L⟩
  · rcases K a P with B|B
    · exact h.own.one j S y k a D hi F B
    subst B;exact absurd F (Y j y D)
  exact h.own.one j S y Z a D L F P
end Go.Wk
namespace Go.Wk
open Go
abbrev ZU (p q:Pr):Prop:=Op.bytesLess (whole p.pb) (whole q.pb)=true
theorem zH (p:Pr):¬ZU p p:=by unfold ZU;rw[aap];simp
theorem GU {p q r:Pr} (h:ZU p q) (k:ZU q r):ZU p r:=LF h k
theorem ael {p q:Pr} (hp:right p.pb=true) (hq:right q.pb=true) (h:¬ZU p q) (k:¬ZU q p):p=q :=
  ye.1 (ZQ hp hq (aaq (by simpa [ZU]using h) (by simpa [ZU]using k)))
abbrev Asc (l:List Pr):Prop:=l.Pairwise ZU
theorem TB:∀{l m:List Pr},Asc l→Asc m→(∀p,p∈l↔p∈m)→l=m
  | [],[],_,_,_=>rfl
  | [],b :: m,_,_,h=>by have:=(h b).2 Oq;simp at this
  | a :: l,[],_,_,h=>by have:=(h a).1 Oq;simp at this
  | a :: l,b :: m,hl,hm,h=>by
    obtain⟨hl1,hl2⟩:=List.pairwise_cons.1 hl
    obtain⟨hm1,hm2⟩:=List.pairwise_cons.1 hm
    have e:a=b:=by
      rcases List.mem_cons.1 ((h a).1 Oq)with e|A
      · exact e
      · rcases List.mem_cons.1 ((h b).2 Oq)with e|C
        · exact e.symm
        · exact absurd (GU (hl1 b C) (hm1 a A)) (zH a)
    subst e
    congr 1
    refine TB hl2 hm2 fun p=>⟨fun B=>?_,fun B=>?_⟩
    · rcases List.mem_cons.1 ((h p).1 (by simp[B]))with rfl|A
      · exact absurd (hl1 p B) (zH p)
      · exact A
    · rcases List.mem_cons.1 ((h p).2 (by simp[B]))with rfl|A
      · exact absurd (hm1 p B) (zH p)
      · exact A
def ze (p:Pr):List Pr→List Pr
  | []=>[p]
  | q :: r=>if Op.bytesLess (aR q) (aR p)=true then q :: ze p r else if q.pb=p.pb then q :: r else p :: q :: r
theorem GZ (t:Ly) (o:List Pr) (k:Nat):lM t o (k+1)=lM t o k+1:=by
  induction o generalizing k with
  | nil=>rfl
  | cons q r ih=>unfold lM;split <;> simp[ih]
theorem ae2 (t:Ly) (o:List Pr):lM t o 0≤o.length:=by
  induction o with
  | nil=>simp[lM]
  | cons q r ih=>unfold lM;split <;> simp[GZ,ih]
theorem HV:∀(n j:Nat) (o:List Pr),(jA n j o).length=o.length
  | 0,_,_=>rfl
  | n+1,j,o=>by unfold jA;rw[HV n];simp
theorem HU:∀(n j:Nat) (o:List Pr),n≤j→j<o.length→∀i,i<o.length→(jA n j o)[i]? = if j-n<i∧i≤j then o[i-1]? else o[i]?
  | 0,j,o,_,_,i,_=>by simp[jA];intro h1 h2;omega
  | n+1,j,o,hn,hj,i,hi=>by
    unfold jA
    have hd:o.getD (j-1) {name:=[],value:=[]}=o[j-1]:=by simp[List.getD,show j-1<o.length by omega]
    rw[HU n (j-1) _ Jy Zy i (by simpa using hi),hd]
    by_cases h1:j-1-n<i∧i≤j-1
    · rw[if_pos h1,if_pos Jy,List.getElem?_set_ne Jy]
    · rw[if_neg h1]
      by_cases h2:i=j
      · subst h2
        rw[if_pos Jy,List.getElem?_set_self hj,List.getElem?_eq_getElem (show i-1<o.length by omega)]
      · rw[if_neg Jy,List.getElem?_set_ne Jy]
theorem Z9 (o:List Pr) (k:Nat) (p d:Pr) (hk:k≤o.length):(jA (o.length-k) o.length (o ++ [d])).set k p=o.take k ++ p :: o.drop k:=by
  apply List.ext_getElem?
  intro i
  have A:(jA (o.length-k) o.length (o ++ [d])).length=o.length+1:=by rw[HV];simp
  by_cases hi:i<o.length+1
  · by_cases h1:i=k
    · subst h1
      rw[List.getElem?_set_self Jy,List.getElem?_append_right Zy]
      simp[Nat.min_eq_left hk]
    rw[List.getElem?_set_ne (Ne.symm h1),HU _ _ _ Jy Oq i Zy]
    by_cases h2:o.length-(o.length-k)<i∧i≤o.length
    · rw[if_pos h2,List.getElem?_append_left Jy,List.getElem?_append_right Zy]
      simp only[List.length_take,Nat.min_eq_left hk]
      obtain⟨m,rfl⟩:∃m,i=k+1+m:=⟨i-(k+1),by omega⟩
      rw[show k+1+m-k=m+1 by omega,List.getElem?_cons_succ,List.getElem?_drop]
      congr 1;omega
    rw[if_neg h2,List.getElem?_append_left Jy,List.getElem?_append_left Zy,List.getElem?_take,if_pos Jy]
  rw[List.getElem?_eq_none (by simp[A];omega),List.getElem?_eq_none Zy]
theorem afU (p:Pr) (o:List Pr):sC p o=ze p o:=by
  have A:∀o:List Pr,(lM (aR p) o 0<o.length∧(o.getD (lM (aR p) o 0) {name:=[],value:=[]}).pb=p.pb→ze p o=o) ∧
      (¬(lM (aR p) o 0<o.length∧(o.getD (lM (aR p) o 0) {name:=[],value:=[]}).pb=p.pb)→ze p o=o.take (lM (aR p) o 0) ++ p :: o.drop (lM (aR p) o 0)):=by
    intro o
    induction o with
    | nil=>simp[lM,ze]
    | cons q r ih =>
      unfold lM ze
      by_cases h1:Op.bytesLess (aR q) (aR p)=true
      · rw[if_pos h1,if_pos h1,GZ]
        simp only[List.length_cons,Nat.add_lt_add_iff_right,List.getD_cons_succ,List.take_succ_cons,List.drop_succ_cons,List.cons_append,List.cons.injEq,true_and]
        exact ih
      · rw[if_neg h1,if_neg h1]
        simp only[List.length_cons,Nat.zero_lt_succ,true_and,List.getD_cons_zero,List.take_zero,List.drop_zero,List.nil_append]
        exact⟨fun h=>if_pos h,fun h=>if_neg h⟩
  unfold sC
  simp only
  split
  · rename_i h;exact((A o).1 h).symm
  rename_i h;rw[Z9 _ _ _ _ (ae2 _ _)];exact((A o).2 h).symm
theorem JN {p q:Pr} {o:List Pr}:q∈ze p o↔q=p∨q∈o:=by
  induction o with
  | nil=>simp[ze]
  | cons x r ih =>
    unfold ze
    split
    · simp[ih];constructor
      · rintro(h|h|h) <;> simp[h]
      · rintro(h|h|h) <;> simp[h]
    · split
      · rename_i h;rw[ye]at h;subst h;simp
      · simp
theorem adu {p:Pr} {o:List Pr} (hp:right p.pb=true) (ho:∀q∈o,right q.pb=true) (h:Asc o):Asc (ze p o):=by
  induction o with
  | nil=>simp[ze]
  | cons x r ih =>
    obtain⟨C,D⟩:=List.pairwise_cons.1 h
    unfold ze
    split
    · rename_i hx
      refine List.pairwise_cons.2 ⟨fun q A=>?_,ih (fun q A=>ho q (by simp[A])) D⟩
      rcases JN.1 A with rfl|A
      · exact hx
      · exact C q A
    · rename_i hx
      split
      · exact h
      · rename_i hne
        have B:ZU p x:=by
          cases hb:Op.bytesLess (whole p.pb) (whole x.pb)with
          | true=>exact hb
          | false=>exact absurd (ye.2 (ael (ho x Oq) hp hx (by simp[ZU,hb]))) hne
        refine List.pairwise_cons.2 ⟨fun q A=>?_,h⟩
        rcases List.mem_cons.1 A with rfl|A
        · exact B
        · exact GU B (C q A)
theorem TT:∀(l o x:List Pr),WU l o=(x,0)→(∀q∈o,right q.pb=true)→Asc o→Asc x∧(∀q∈x,right q.pb=true)∧(∀q,q∈x↔q∈o∨q∈l)∧x.length≤16
  | [],o,x,h,hr,ha=>by
    unfold WU at h
    split at h
    · simp at h
    · rename_i hl
      obtain⟨rfl,_⟩:=Prod.mk.inj h
      exact⟨ha,hr,by simp,by omega⟩
  | p :: r,o,x,h,hr,ha=>by
    unfold WU at h
    split at h
    · rename_i h1;exact absurd (Prod.mk.inj h).2 h1
    · rename_i h1
      have hp:right p.pb=true:=yL.1 (Classical.not_not.1 h1)
      rw[afU]at h
      obtain⟨g1,g2,g3,g4⟩:=TT r _ x h (fun q hq=>by
        rcases JN.1 hq with rfl|hq
        · exact hp
        · exact hr q hq) (adu hp hr ha)
      refine⟨g1,g2,fun q=>?_,g4⟩
      rw[g3,JN,List.mem_cons]
      constructor
      · rintro((h|h)|h)
        · exact .inr (.inl h)
        · exact .inl h
        · exact .inr (.inr h)
      · rintro(h|h|h)
        · exact .inl (.inr h)
        · exact .inl (.inl h)
        · exact .inr h
theorem FW {l x:List Pr} (h:kW l=(x,0)):Asc x∧(∀q∈x,right q.pb=true)∧(∀q,q∈x↔q∈l)∧x.length≤16∧x≠[]:=by
  unfold kW at h
  split at h
  · simp at h
  rename_i h0
  obtain⟨B,C,A,D⟩:=TT l [] x h Oq List.Pairwise.nil
  refine⟨B,C,by simpa using A,D,?_⟩
  rintro rfl
  cases l with
  | nil=>simp at h0
  | cons y r=>exact absurd ((A y).2 Oq) Oq
end Go.Wk
namespace Go.Wk
open Go Go.RowKit
def jC (ds:List bT) (i:Nat):List UInt8:=(ds.getD i known0).dD
def pW (ds ds':List bT):Prop:=∀(i:Nat) (k:bT),ds[i]? = some k→∃k',ds'[i]? = some k'∧k'.cC=k.cC∧k'.dD=k.dD
theorem pW.refl (ds:List bT):pW ds ds:=fun _ k h=>⟨k,h,q,q⟩
theorem pW.trans {a b c:List bT} (h:pW a b) (k:pW b c):pW a c:=fun i x hx=>by
  obtain⟨y,h1,h2,h3⟩:=h i x hx
  obtain⟨z,h4,h5,h6⟩:=k i y h1
  exact⟨z,h4,h5.trans h2,h6.trans h3⟩
theorem mO.ext {a b:List bT} (h:mO a b):pW a b:=fun i k hk=>by
  have hl:=(List.getElem?_eq_some_iff.1 hk).1
  obtain⟨k',hk'⟩:∃k',b[i]? = some k':=⟨_,List.getElem?_eq_getElem (by rw[h.len];exact hl)⟩
  obtain⟨k0,h1,h2,h3⟩:=h.get i k' hk'
  rw[hk]at h1;cases h1
  exact⟨k',hk',h2,h3⟩
theorem pW.at {a b:List bT} (h:pW a b) {i:Nat} (hi:i<a.length):i<b.length∧gQ b i=gQ a i∧jC b i=jC a i:=by
  obtain⟨D,A,B,C⟩:=h i _ (List.getElem?_eq_getElem hi)
  refine⟨(List.getElem?_eq_some_iff.1 A).1,?_,?_⟩
  · unfold gQ;simp only[List.getD_eq_getElem?_getD,A,List.getElem?_eq_getElem hi,Option.getD_some];exact B
  unfold jC;simp only[List.getD_eq_getElem?_getD,A,List.getElem?_eq_getElem hi,Option.getD_some];exact C
theorem zQ.ext {m m':Mk} {l l':List Ob} {i:Nat} {t:Ly} (d:zQ m m' l l' i t):pW m.ai m'.ai:=by
  rcases d.new with e|⟨s,p,e,_⟩
  · rw[e];exact pW.refl _
  rw[e];exact fun j k A=>⟨k,by rw[List.getElem?_append_left (List.getElem?_eq_some_iff.1 A).1];exact A,q,q⟩
theorem rR {ds:List bT} {i:Nat} {k:bT} (h:ds[i]? = some k):jC ds i=k.dD∧gQ ds i=k.cC:=by
  unfold jC gQ
  simp only[List.getD_eq_getElem?_getD,h,Option.getD_some,and_self]
theorem AE (ds:List bT) (p:Nat) (od:List Nat):∀n,n≤od.length→(∀j,lS ds p od n≤j→j<n→p<gQ ds (od.getD j 0))∧(0<lS ds p od n→gQ ds (od.getD (lS ds p od n-1) 0)≤p)
  | 0,_=>⟨fun j h1 h2=>by omega,fun h=>by simp[lS]at h⟩
  | n+1,hn=>by
    rw[lS]
    split
    · rename_i hp
      obtain⟨g1,g2⟩:=AE ds p od n Jy
      refine⟨fun j h1 h2=>?_,g2⟩
      by_cases hj:j=n
      · subst hj;exact hp
      · exact g1 j h1 Jy
    · rename_i hp
      exact⟨fun j h1 h2=>by omega,fun _=>by simp only[Nat.add_sub_cancel];omega⟩
theorem DG {α:Type} {R:α→α→Prop} {l:List α} {n:Nat} {x:α} (h:l.Pairwise R) (h1:∀y∈l.take n,R y x) (h2:∀y∈l.drop n,R x y):(l.take n ++ [x] ++ l.drop n).Pairwise R:=by
  rw[List.append_assoc,List.singleton_append]
  refine List.pairwise_append.2 ⟨h.take,List.pairwise_cons.2 ⟨h2,h.drop⟩,fun a C b A=>?_⟩
  rcases List.mem_cons.1 A with rfl|A
  · exact h1 a C
  have B:=h
  rw[← List.take_append_drop n l]at B
  exact(List.pairwise_append.1 B).2.2 a C b A
theorem K3 {ds:List bT} {k:Nat} {od:List Nat} (h:od.Pairwise fun a b=>gQ ds a<gQ ds b) (hk:∀i∈od,gQ ds i≠gQ ds k):(ni ds k od).Pairwise fun a b=>gQ ds a<gQ ds b:=by
  obtain⟨E,F⟩:=AE ds (gQ ds k) od od.length (Nat.le_refl _)
  have I:=AB ds (gQ ds k) od od.length
  unfold ni
  simp only
  generalize lS ds (gQ ds k) od od.length=n at *
  refine DG h (fun y D=>?_) (fun y D=>?_)
  · obtain⟨i,B⟩:=List.mem_iff_getElem?.1 D
    rw[List.getElem?_take]at B
    split at B
    · rename_i hin
      have G:=hk y (List.mem_of_getElem? B)
      have C:=(List.getElem?_eq_some_iff.1 B).1
      have J:=F Jy
      have A:od[n-1]? = some (od.getD (n-1) 0):=by simp[List.getD,List.getElem?_eq_getElem (show n-1<od.length by omega)]
      have:gQ ds y≤gQ ds (od.getD (n-1) 0):=by
        by_cases he:i=n-1
        · subst he;rw[B]at A;have:=Option.some.inj A;rw[← this];exact Nat.le_refl _
        · have H:=List.pairwise_iff_getElem.1 h i (n-1) C Jy Jy
          rw[List.getElem?_eq_getElem C]at B
          rw[List.getElem?_eq_getElem (show n-1<od.length by omega)]at A
          rw[Option.some.inj B,Option.some.inj A]at H
          omega
      omega
    cases B
  obtain⟨i,B⟩:=List.mem_iff_getElem?.1 D
  rw[List.getElem?_drop]at B
  have C:=(List.getElem?_eq_some_iff.1 B).1
  have:=E (n+i) Jy C
  rw[List.getD_eq_getElem?_getD,B]at this
  exact this
theorem QW (ds:List bT) (k:Nat) (od:List Nat):(ni ds k od).Perm (k :: od):=by
  unfold ni
  simp only
  generalize lS ds (gQ ds k) od od.length=n
  rw[List.append_assoc,List.singleton_append]
  have:=List.perm_middle (a:=k) (l₁:=od.take n) (l₂:=od.drop n)
  rw[List.take_append_drop]at this
  exact this
structure adq (m:Mk) (dl:List Pr) (ps:List (List UInt8)) (od:List Nat):Prop where
  eq:ps=dl.map aR
  lt:∀i∈od,i<m.ai.length
  perm:(od.map (jC m.ai)).Perm ps
  ES:od.Pairwise fun a b=>gQ m.ai a<gQ m.ai b
theorem NK {p q:Pr} (hp:right p.pb=true) (hq:right q.pb=true) (h:aR p=aR q):p=q:=by
  have A:=(o9 ((mR _).2 hp)).2
  have B:=(o9 ((mR _).2 hq)).2
  have C:whole p.pb=whole q.pb:=h
  rw[C,B]at A
  exact(ye.1 A).symm
theorem ZR {m m':Mk} {l l':List Ob} {dl:List Pr} {ps:List (List UInt8)} {od:List Nat} {i:Nat} {x:Pr} (h:adq m dl ps od) (hs:Stat m l) (d:zQ m m' l l' i (aR x)) (hn:aR x∉dl.map aR) :
    adq m' (dl ++ [x]) (ps ++ [(m'.ai.getD i known0).dD]) (ni m'.ai i od):=by
  have C:=d.ext
  obtain⟨k,hk,E⟩:=d.got
  obtain⟨F,L⟩:=rR hk
  have J:=(List.getElem?_eq_some_iff.1 hk).1
  have G:(m'.ai.getD i known0).dD=aR x:=F.trans E
  have A:od.map (jC m'.ai)=od.map (jC m.ai):=List.map_congr_left fun j B=>(C.at (h.lt j B)).2.2
  have D:i∉od:=fun K=>by
    have H:jC m'.ai i∈od.map (jC m'.ai):=List.mem_map.2 ⟨i,K,q⟩
    rw[A]at H
    have:=h.perm.subset H
    rw[h.eq,F,E]at this
    exact hn this
  refine⟨by rw[G,h.eq];simp,fun j B=>?_,?_,?_⟩
  · rcases GR B with rfl|B
    · exact J
    exact(C.at (h.lt j B)).1
  · refine((QW m'.ai i od).map _).trans ?_
    rw[List.map_cons,A,F,E,G]
    exact(List.Perm.cons _ h.perm).trans (List.perm_append_comm (l₁:=[aR x]))
  refine K3 ?_ fun j B e=>?_
  · refine List.Pairwise.imp_of_mem (fun {a b} ha hb hab=>?_) h.ES
    rw[(C.at (h.lt a ha)).2.1,(C.at (h.lt b hb)).2.1];exact hab
  obtain⟨y,I⟩:∃y,m'.ai[j]? = some y:=⟨_,List.getElem?_eq_getElem (C.at (h.lt j B)).1⟩
  rw[(rR I).2,L]at e
  have:=d.iB.one j i y k I hk (.inl e)
  subst this;exact D B
structure adj (m m':Mk) (l l':List Ob) (es:List gP) (mp:List Nat) (f:Nat→List Nat):Prop where
  img:mU m' l' es mp f
  ext:pW m.ai m'.ai
  same:m'.c=m.c∧m'.main=m.main∧∀i,i≠6→i≠7→i<15→m'.dG i=m.dG i
  len:m.ai.length≤m'.ai.length
theorem EZ:∀(fs dl:List Pr) (m:Mk) (l:List Ob) (ps:List (List UInt8)) (od:List Nat) (es:List gP) (mp:List Nat) (f:Nat→List Nat),mU m l es mp f→(∀i,m.ai.length≤i→f i=[])→adq m dl ps od→(∀q∈fs,BD q)→((dl ++ fs).map aR).Nodup →
    ∃l',adj m (iu fs m ps od).2.2 l l' es mp f∧adq (iu fs m ps od).2.2 (dl ++ fs) (iu fs m ps od).1 (iu fs m ps od).2.1
  | [],dl,m,l,ps,od,es,mp,f,h,hf,hw,_,_=>⟨l,⟨h,pW.refl _,⟨rfl,rfl,fun _ _ _ _=>rfl⟩,Nat.le_refl _⟩,by rw[List.append_nil];exact hw⟩
  | x :: r,dl,m,l,ps,od,es,mp,f,h,hf,hw,hb,hnd=>by
    obtain⟨l1,d⟩:=ad4 h.iB x (hb x Oq)
    have hx:aR x∉dl.map aR:=fun hm=>by
      rw[List.map_append,List.map_cons]at hnd
      exact(List.nodup_append.1 hnd).2.2 _ hm _ Oq rfl
    have g:=h.soft d hf
    have w:=ZR hw h.iB d hx
    have hle:m.ai.length≤(m.data x).2.ai.length:=by
      rcases d.new with e|⟨s,p,e,_⟩ <;> rw[e] <;> simp
    obtain⟨l',A,E⟩:=EZ r (dl ++ [x]) (m.data x).2 l1 _ _ es mp f g (fun i G=>hf i Jy) w (fun q F=>hb q (by simp[F])) (by rw[List.append_assoc];exact hnd)
    rw[List.append_assoc]at E
    refine⟨l',⟨A.img,d.ext.trans A.ext,⟨A.same.1.trans d.step.same.1,A.same.2.1.trans d.step.same.2.1,fun i B C D=>(A.same.2.2 i B C D).trans (d.step.same.2.2 i B C D)⟩,lj hle A.len⟩,E⟩
end Go.Wk
namespace Go.Wk
open Go Go.RowKit
theorem ZS:∀{a b:List (List UInt8)},a.Perm b→∀v,ny v a=ny v b:=by
  intro a b h
  induction h with
  | nil=>exact fun _=>rfl
  | cons x _ ih=>exact fun v=>ih _
  | swap x y l=>intro v;simp only[ny];congr 1;rw[Nat.xor_assoc,Nat.xor_assoc,Nat.xor_comm (qQ y)]
  | trans _ _ ih1 ih2=>exact fun v=>(ih1 v).trans (ih2 v)
theorem VX:∀(l:List (List UInt8)) (v:Nat),v<18446744073709551616→ny v l<18446744073709551616
  | [],_,h=>h
  | x :: r,v,h=>VX r _ (EC h (BX x))
structure adl (m m':Mk) (l':List Ob) (es:List gP) (mp:List Nat) (f:Nat→List Nat) (e n:Nat) (od:List Nat):Prop where
  img:mU m' l' es mp (fun j=>if j∈od then f j ++ [e]else f j)
  ds:mO m.ai m'.ai
  same:m'.c=m.c∧m'.au=m.au∧m'.main=m.main∧m'.depth=m.depth∧∀i,i≠6→i≠7→i≠18→m'.dG i=m.dG i
  top:m'.b.length≤m.b.length+2100*n
  ge:m.b.length≤m'.b.length
theorem mO.trans {a b c:List bT} (h:mO a b) (k:mO b c):mO a c:=⟨k.len.trans h.len,fun i x hx=>by
  obtain⟨y,h1,h2,h3⟩:=k.get i x hx
  obtain⟨z,h4,h5,h6⟩:=h.get i y h1
  exact⟨z,h4,h2.trans h5,h3.trans h6⟩⟩
theorem LY {es:List gP} {mp:List Nat} {e:Nat} (he:e<18446744073709551616):∀(od:List Nat) (m:Mk) (l:List Ob) (f:Nat→List Nat),mU m l es mp f→(∀i∈od,i<m.ai.length)→od.Nodup→(∀i∈od,(f i).length<900000)→m.b.length+2100*od.length<900000 →
    ∃l',adl m (jr e od m) l' es mp f e od.length od
  | [],m,l,f,h,_,_,_,_=>⟨l,⟨by simp only[List.not_mem_nil,if_false];exact h,mO.refl _,⟨q,q,q,q,fun _ _ _ _=>rfl⟩,Nat.le_refl _,Nat.le_refl _⟩⟩
  | i :: r,m,l,f,h,hi,hn,hl,hb=>by
    obtain⟨k,hk⟩:∃k,m.ai[i]? = some k:=⟨_,List.getElem?_eq_getElem (hi i Oq)⟩
    simp only[List.length_cons]at hb
    obtain⟨l1,k1,H⟩:=aaS (e:=e) h.iB.gy hk (h.iB.data k (List.mem_of_getElem? hk)) (h.dat i k hk) Jy he (by have:=hl i Oq;omega)
    have g:=h.hang hk H
    have hd1:mO m.ai (lD e i m).ai:=by rw[H.dat];exact mO.set hk H.cC.1 H.cC.2.1
    have T:=H.top
    obtain⟨J,K,L,M,N⟩:=H.same
    rw[pL]
    rw[List.nodup_cons]at hn
    have I:∀j∈r,(if j=i then f i ++ [e]else f j)=f j:=fun j A=>if_neg (by rintro rfl;exact hn.1 A)
    obtain⟨l',B⟩:=LY he r (lD e i m) l1 _ g (fun j A=>by rw[hd1.len];exact hi j (by simp[A])) hn.2 (fun j A=>by simp only[I j A];exact hl j (by simp[A])) Jy
    obtain⟨O,P,Q,R,S⟩:=B.same
    have F:=B.top
    refine⟨l',⟨?_,hd1.trans B.ds,⟨O.trans J,P.trans K,Q.trans L,R.trans M,fun j D E C=>(S j D E C).trans (N j D E C)⟩,by simp only[List.length_cons];omega,lj H.mV.len B.ge⟩⟩
    have G:(fun j=>if j∈i :: r then f j ++ [e]else f j)=fun j=>if j∈r then(if j=i then f i ++ [e]else f j) ++ [e]else if j=i then f i ++ [e]else f j:=by
      funext j
      by_cases A:j=i
      · subst A;simp[hn.1]
      · simp[A]
    rw[G]
    exact B.img
def places (es:List gP) (i:Nat):List Nat:=(es.filter fun g=>decide (i∈g.who)).map gP.cC
theorem QX (es:List gP) (g:gP) (i:Nat):places (es ++ [g]) i=if i∈g.who then places es i ++ [g.cC]else places es i:=by
  unfold places
  rw[List.filter_append,List.map_append]
  by_cases h:i∈g.who
  · rw[if_pos h];simp[h]
  rw[if_neg h];simp[h]
theorem QY (es:List gP) (i:Nat):(places es i).length≤es.length:=by unfold places;rw[List.length_map];exact List.length_filter_le _ _
structure vA (m:Mk) (g:gP):Prop where
  lt:∀i∈g.who,i<m.ai.length
  ax:g.ent.ax=g.who.map fun i=>{cC:=gQ m.ai i,dH:=jM m (jC m.ai i)}
  ES:g.who.Pairwise fun a b=>gQ m.ai a<gQ m.ai b
  xor:g.ent.xor=ny 0 (g.who.map (jC m.ai))
  ok:eB.ok g.ent∧g.ent.seq≠0
  len:1≤g.who.length∧g.who.length≤16
structure KW (m:Mk) (g:gP) (r:Rec):Prop where
  seq:g.ent.seq=r.seq
  cK:g.ent.cK=r.cK
  mono:g.ent.mono=r.mono
  cg:g.ent.cg=r.cg
  au:(g.who.map (jC m.ai)).Perm (r.au.map aR)
  ES:Asc r.au
  right:∀q∈r.au,right q.pb=true
theorem vA.ext {m m':Mk} {g:gP} (h:vA m g) (hd:pW m.ai m'.ai) (hc:m'.c=m.c):vA m' g:=by
  have B:∀t,jM m' t=jM m t:=fun t=>by unfold jM;rw[hc]
  refine⟨fun i A=>(hd.at (h.lt i A)).1,?_,?_,?_,h.ok,h.len⟩
  · rw[h.ax]
    exact List.map_congr_left fun i A=>by rw[(hd.at (h.lt i A)).2.1,(hd.at (h.lt i A)).2.2,B]
  · exact List.Pairwise.imp_of_mem (fun {a b} ha hb hab=>by rw[(hd.at (h.lt a ha)).2.1,(hd.at (h.lt b hb)).2.1];exact hab) h.ES
  rw[h.xor]
  congr 1
  exact(List.map_congr_left fun i A=>(hd.at (h.lt i A)).2.2).symm
theorem KW.ext {m m':Mk} {g:gP} {r:Rec} (h:KW m g r) (w:vA m g) (hd:pW m.ai m'.ai):KW m' g r:=by
  refine⟨h.seq,h.cK,h.mono,h.cg,?_,h.ES,h.right⟩
  have:g.who.map (jC m'.ai)=g.who.map (jC m.ai):=List.map_congr_left fun i A=>(hd.at (w.lt i A)).2.2
  rw[this];exact h.au
structure Img (m:Mk) (l:List Ob) (es:List gP):Prop where
  c:mU m l es (es.map gP.cC) (places es)
  n8:m.dG 8=es.length
  n9:m.dG 9<18446744073709551616
  n11:m.dG 11=m.main.getD 0 0
  who:∀g∈es,vA m g
  txt:∀k∈m.ai,∃q:Pr,right q.pb=true∧k.dD=aR q
theorem QZ {es:List gP} {m:Mk} (h:∀g∈es,vA m g) (i:Nat) (hi:m.ai.length≤i):places es i=[]:=by
  unfold places
  rw[List.map_eq_nil_iff,List.filter_eq_nil_iff]
  intro g A
  simp only[decide_eq_true_eq]
  intro B
  have:=(h g A).lt i B
  omega
theorem mU.to {m m':Mk} {l:List Ob} {es:List gP} {mp:List Nat} {f:Nat→List Nat} (h:mU m l es mp f) (hb:m'.b=m.b) (hc:m'.c=m.c) (hd:m'.ai=m.ai) (hf:m'.au=m.au) (hm:m'.main=m.main) (hn:m'.dG 2=m.dG 2∧m'.dG 4=m.dG 4):mU m' l es mp f:=by
  have B:∀t,jM m' t=jM m t:=fun t=>by unfold jM;rw[hc]
  obtain⟨⟨C,D,E,F,G,H,I,J,K,A⟩,L,M,⟨N,O⟩,P,Q⟩:=h
  exact⟨⟨by rw[hb];exact C,by rw[hc];exact D,by rw[hc];exact E,hn.1.trans F,by rw[hc];exact hn.2.trans G,by rw[hc];exact H,fun k hk=>by rw[hb,B];exact I k (hd ▸ hk),fun k hk=>by rw[hb,B];exact J k (hf ▸ hk),by rw[hd];exact K,by rw[hd];exact A⟩,by rw[hb,hm];exact L,by rw[hb,hd];exact M,⟨by rw[hd,hm];exact N,by rw[hd];exact O⟩,by rw[hb];exact P,Q⟩
end Go.Wk
namespace Go.Wk
open Go Go.RowKit
theorem LM (z:Mk) (n seq cK mono e:Nat) (cg:Ly) (i:Nat) (h:i≠8∧i≠9∧i≠10∧i≠12∧i≠13∧i≠14):(pn z n seq cK mono e cg).dG i=z.dG i:=by
  unfold pn
  simp only
  have A:(if n=0 then(z.ea 10 seq).ea 12 cK else z).dG i=z.dG i:=by
    split
    · rw[fB Jy,fB Jy]
    · rfl
  generalize (if n=0 then(z.ea 10 seq).ea 12 cK else z)=y at *
  rw[← A]
  show((((y.ea 8 ((y.dG 8+1)%18446744073709551616)).ea 9 seq).ea 13 cK).ea 14 mono).dG i=y.dG i
  rw[fB Jy,fB Jy,fB Jy,fB Jy]
theorem WE {ds:List bT} {od:List Nat} (h:od.Pairwise fun a b=>gQ ds a<gQ ds b):od.Nodup :=
  List.Pairwise.imp (fun {a b} hab e=>by subst e;exact Nat.lt_irrefl _ hab) h
theorem LB {fs:List Pr} (h:Asc fs) (hr:∀q∈fs,right q.pb=true):(fs.map aR).Nodup:=by
  unfold List.Nodup
  rw[List.pairwise_map]
  exact List.Pairwise.imp_of_mem (fun {a b} ha hb hab e=>by
    have:=NK (hr a ha) (hr b hb) e
    subst this;exact zH _ hab) h
theorem AK:∀(fs:List Pr) (m:Mk) (ps:List (List UInt8)) (od:List Nat),∀k∈(iu fs m ps od).2.2.ai,k∈m.ai∨∃q∈fs,k.dD=aR q
  | [],m,_,_,k,hk=>.inl hk
  | x :: r,m,ps,od,k,hk=>by
    rcases AK r (m.data x).2 _ _ k hk with h|⟨q,h1,h2⟩
    · rcases EY k h with h|h
      · exact .inl h
      · exact .inr ⟨x,by simp,h⟩
    · exact .inr ⟨q,by simp[h1],h2⟩
structure agM (m m':Mk) (l':List Ob) (es:List gP) (g:gP) (r:Rec):Prop where
  img:Img m' l' (es ++ [g])
  rcd:KW m' g r
  ext:pW m.ai m'.ai
  c:m'.c=m.c
  seq:r.seq=m.dG 9+1∧m'.dG 9=r.seq
  ge:m.b.length≤g.cC
  main:∃t,m'.main=m.main ++ t
  len:m.b.length≤m'.b.length
  dG:∀i,i≤5→m'.dG i=m.dG i
theorem ER {m m':Mk} {l:List Ob} {es:List gP} {raw:List Pr} {cK mono s:Nat} {cg:Ly} (h:Img m l es) (ok:vC m) (h20:m.h.n.length=20) (hb:cg.length=16) (hr:cK<18446744073709551616∧mono<18446744073709551616) (ha:m.append raw cK mono cg=(s,0,m')) :
    ∃l' g fs,kW raw=(fs,0)∧agM m m' l' es g {seq:=s,cK:=cK,mono:=mono,cg:=cg,au:=fs}:=by
  rcases hl:kW raw with⟨fs,c⟩
  by_cases G:c≠0
  · have e:m.append raw cK mono cg=(0,c,m):=by unfold Mk.append;simp only[hl];rw[if_pos G]
    rw[e]at ha
    exact absurd (congrArg (fun x=>x.2.1) ha) G
  have Ah:=Classical.not_not.1 G
  subst Ah
  by_cases v:m.dG 9=18446744073709551615
  · have e:m.append raw cK mono cg=(0,1,m):=by unfold Mk.append;simp only[hl];rw[if_neg G,if_pos v]
    rw[e]at ha
    have:=congrArg (fun x=>x.2.1) ha
    simp at this
  obtain⟨J,A,A6,Ap,Aq⟩:=FW hl
  obtain⟨bd,_⟩:=vX hl
  have D:=xq fs m [] [] 0 (sK ok) bd
  obtain⟨l1,Q,W⟩:=EZ fs [] m l [] [] es (es.map gP.cC) (places es) h.c (fun i I=>QZ h.who i I) ⟨q,by simp,by simp,List.Pairwise.nil⟩ bd (by rw[List.nil_append];exact LB J A)
  have nl:=xS fs m [] []
  have tx:=AK fs m [] []
  rcases hd:iu fs m [] []with⟨ps,F,x⟩
  rw[hd,Nat.zero_add]at D
  rw[hd]at Q W nl tx
  rw[List.nil_append]at W
  simp only at D Q W nl tx
  have s1:=ok.small
  have s4:=ok.nb
  have d2:=D.app.le
  have d5:=D.len.1
  have Ac:=D.app.ge
  obtain⟨c1,c2,c3⟩:=Q.same
  have n9:x.dG 9=m.dG 9:=c3 9 Kq Kq Kq
  have n8:x.dG 8=m.dG 8:=c3 8 Kq Kq Kq
  have O:=h.n8
  have Bw:=h.n9
  have Bv:es.length≤40000:=by
    have:m.n8=es.length:=O
    omega
  have Ak:=WE W.ES
  have B:(x.dG 9+1)%18446744073709551616=m.dG 9+1:=by rw[n9];exact Nat.mod_eq_of_lt Jy
  generalize hE:({seq:=(x.dG 9+1)%18446744073709551616,cK:=cK,mono:=mono,cg:=cg,xor:=ny 0 ps,ax:=js x F}:eB)=E
  have eE:E.seq=m.dG 9+1∧E.cK=cK∧E.mono=mono∧E.cg=cg∧E.xor=ny 0 ps∧E.ax=js x F:=by subst hE;exact⟨B,q,q,q,q,q⟩
  obtain⟨q1,q2,q3,q4,q5,q6⟩:=eE
  have ei:E.ax.length=F.length:=by rw[q6];simp[js]
  have eb:E.cg.length=16:=by rw[q4];exact hb
  have wx:vA x ⟨x.b.length,E,F⟩:=by
    refine⟨W.lt,q6,W.ES,?_,⟨⟨?_,?_,?_,eb,?_⟩,?_⟩,?_⟩
    · simp only;rw[q5];exact ZS W.perm.symm 0
    · simp only;rw[q1];omega
    · simp only;rw[q2];exact hr.1
    · simp only;rw[q3];exact hr.2
    · simp only;rw[q5];exact VX _ _ Kq
    · simp only;rw[q1];omega
    · simp only;rw[d5];exact⟨List.length_pos_iff.2 Aq,Ap⟩
  have rx:KW x ⟨x.b.length,E,F⟩ {seq:=m.dG 9+1,cK:=cK,mono:=mono,cg:=cg,au:=fs}:=by
    refine⟨q1,q2,q3,q4,?_,J,A⟩
    simp only;rw[← W.eq];exact W.perm
  have S:=Q.img.entry (E:=E) (who:=F) eb Jy
  have f:=(ir x (dZ E))
  have p:=eK x (dZ E)
  have o:∀i,i≠6→i≠7→(x.d9 (dZ E)).2.dG i=x.dG i:=fun i h6 h7=>by
    simp only[Mk.d9]
    rw[fB Jy,fB Jy];rfl
  have Z:=qS x (dZ E)
  have el:=mA E eb
  rcases ho:x.d9 (dZ E)with⟨e,C⟩
  rw[ho]at S f p o Z
  simp only at S f p o Z
  have Ai:e=x.b.length:=f.1
  subst Ai
  have Ar:C.dG 8=(es.map gP.cC).length:=by rw[o 8 Kq Kq,n8,O,List.length_map]
  have Bx:x.b.length<100000:=by omega
  obtain⟨l3,L⟩:=TX (x:=x.b.length) S.iB.gy S.main (vY _) (by have:=f.2.1;omega) Jy
  rw[← Ar]at L
  have d:=JP C C.main (C.dG 8) 176 x.b.length
  rcases hk:C.link C.main (C.dG 8) 176 x.b.length with⟨a,t,K⟩
  rw[hk]at L d
  simp only at L d
  have w:=ku (cK:=cK) (mono:=mono) (cg:=cg) hl G v hd (by rw[hE];exact ho) hk q
  obtain⟨Y,U⟩:∃Y,Y=(let m4:=({K with main:=a}:Mk).ea 11 (a.getD 0 0);({m4 with h:={m4.h with cT:=jU a%4294967296,cW:=t%4294967296}}:Mk)):=⟨_,q⟩
  have r:∀i,i≠11→Y.dG i=K.dG i:=fun i I=>by subst U;exact cu Jy
  have y:Y.dG 11=a.getD 0 0:=by subst U;exact pq (by show 11<K.h.n.length;omega)
  have Ys:Y.b=K.b∧Y.c=K.c∧Y.ai=K.ai∧Y.au=K.au∧Y.main=a∧Y.h.n.length=K.h.n.length:=by subst U;exact⟨q,q,q,q,q,by simp[Mk.ea]⟩
  rw[← U]at w
  clear U
  obtain⟨y1,y2,y3,y4,y5,y6⟩:=Ys
  have I3:=S.link L y1 y2 y3 y4 y5 ⟨r 2 Kq,r 4 Kq⟩
  obtain⟨t1,t2,t3,t4,t5,t6⟩:=L.same
  have A7:=L.top
  have M:Y.ai=x.ai:=by rw[y3,t2,p.2.1]
  have Aj:x.b.length<18446744073709551616:=by omega
  have Ba:=f.2.1
  obtain⟨l4,H⟩:=LY (e:=x.b.length) Aj F Y l3 _ I3 (fun i I=>by rw[M];exact W.lt i I) Ak (fun i _=>by have:=QY es i;omega) (by rw[y1];omega)
  have B5:=CJ x.b.length F Y
  generalize jr x.b.length F Y=z at *
  replace w:m.append raw cK mono cg=if z.c.cH<z.b.length then(0,15,m)else((x.dG 9+1)%18446744073709551616,0,pn z (C.dG 8) ((x.dG 9+1)%18446744073709551616) cK mono x.b.length cg):=w
  rw[w]at ha
  split at ha
  · have:=congrArg (fun x=>x.2.1) ha;simp at this
  obtain⟨k1,kz2,kz3,kz4,kz5,R2,R4,kl,kz8⟩:=uc z (C.dG 8) ((x.dG 9+1)%18446744073709551616) cK mono x.b.length cg
  have k5':=fun i (I:i≤5)=>LM z (C.dG 8) ((x.dG 9+1)%18446744073709551616) cK mono x.b.length cg i Jy
  have Al:=LM z (C.dG 8) ((x.dG 9+1)%18446744073709551616) cK mono x.b.length cg 11 Kq
  obtain⟨V,Af⟩:=Prod.mk.inj ha
  have Ag:=(Prod.mk.inj Af).2
  rw[B]at V
  generalize pn z (C.dG 8) ((x.dG 9+1)%18446744073709551616) cK mono x.b.length cg=R at *
  subst Ag
  subst V
  obtain⟨z1,z2,z3,z4,z5⟩:=H.same
  have zl:z.h.n.length=20:=by omega
  have R8:=(kz8 zl).1
  have R9:=(kz8 zl).2
  have z8:z.dG 8=es.length:=by rw[z5 8 Kq Kq Kq,r 8 Kq,t6 8 Kq Kq Kq,o 8 Kq Kq,n8,O]
  have Ad:pW x.ai z.ai:=by have:=H.ds.ext;rw[M]at this;exact this
  have N:pW x.ai R.ai:=by rw[kz3];exact Ad
  have cR:R.c=x.c:=by rw[kz2,z1,y2,t1,p.1]
  have T:pW m.ai R.ai:=Q.ext.trans N
  refine⟨l4,⟨x.b.length,E,F⟩,fs,q,⟨⟨?_,?_,?_,?_,?_,?_⟩,rx.ext wx N,T,by rw[cR,c1],⟨q,by rw[R9,B]⟩,Ac,?_,?_,fun i I=>?_⟩⟩
  · have:=H.img.to (m':=R) k1 kz2 kz3 kz4 kz5 ⟨R2,R4⟩
    rw[List.map_append]
    have ef:places (es ++ [⟨x.b.length,E,F⟩])=fun j=>if j∈F then places es j ++ [x.b.length]else places es j:=funext fun j=>QX es ⟨x.b.length,E,F⟩ j
    rw[ef]
    exact this
  · show R.n8=_
    rw[R8,show z.n8=es.length from z8,List.length_append,Nat.mod_eq_of_lt Jy]
    rfl
  · rw[R9,B];omega
  · rw[Al,kz5,z5 11 Kq Kq Kq,y,z3,y5]
  · intro g P
    rcases List.mem_append.1 P with P|P
    · exact(h.who g P).ext T (by rw[cR,c1])
    simp at P;subst P
    exact wx.ext N cR
  · intro k hk
    rw[kz3]at hk
    obtain⟨i,I⟩:=List.mem_iff_getElem?.1 hk
    obtain⟨k0,h0,_,ht⟩:=H.ds.get i k I
    rw[M]at h0
    rcases tx k0 (List.mem_of_getElem? h0)with u|⟨qv,u,G⟩
    · obtain⟨qv,G,v⟩:=h.txt k0 u
      exact⟨qv,G,ht.trans v⟩
    exact⟨qv,A qv u,ht.trans G⟩
  · rw[kz5,z3,y5]
    have X:C.main=m.main:=by rw[p.2.2.2,c2]
    rcases L.arr with e|e
    · exact⟨[],by rw[e,X,List.append_nil]⟩
    exact⟨_,by rw[e,X]⟩
  · rw[k1]
    have u:=L.mV.len
    have G:=H.ge
    rw[y1]at G
    omega
  rw[k5' i I,z5 i Jy Jy Jy,r i Jy,t6 i Jy Jy Jy,o i Jy Jy,c3 i Jy Jy Jy]
end Go.Wk
namespace Go.Wk
open Go Go.RowKit
def hk (m:Mk):Nat × Nat × Nat × List UInt8:=(m.h.eW,m.h.bY,m.h.state,m.h.cZ)
theorem aia {m M:Mk} (h:M.h=m.h):hk M=hk m:=by unfold hk;rw[h]
theorem TU (m:Mk) (l:List bT) (t p s:Nat):hk (m.hang l t p s).2=hk m:=by unfold hk;rw[(zw m l t p s).1]
theorem aaX (m:Mk) (x:Ly):hk (m.field x).2=hk m:=by
  unfold Mk.field
  split
  · rfl
  simp only
  have B:hk (m.d9 (iq {dH:=ej m.c.dO m.c.cZ x,cP:=0,dat:=0,aR:=x})).2=hk m:=rfl
  generalize m.d9 (iq {dH:=ej m.c.dO m.c.cZ x,cP:=0,dat:=0,aR:=x})=r at *
  obtain⟨p,A⟩:=r
  simp only at B ⊢
  have C:=TU A A.au (A.dG 4) p (ej m.c.dO m.c.cZ x%A.c.aS)
  generalize A.hang A.au (A.dG 4) p (ej m.c.dO m.c.cZ x%A.c.aS)=r at *
  obtain⟨n,D⟩:=r
  exact C.trans B
theorem adL (m:Mk) (x:Pr):hk (m.data x).2=hk m:=by
  unfold Mk.data
  split
  · rfl
  simp only
  have C:hk (m.d9 (jb {dH:=ej m.c.dO m.c.cZ (aR x),cP:=0,dR:=0,entry:=0,array:=0,ck:=0,aR:=aR x})).2=hk m:=rfl
  generalize m.d9 (jb {dH:=ej m.c.dO m.c.cZ (aR x),cP:=0,dR:=0,entry:=0,array:=0,ck:=0,aR:=aR x})=r at *
  obtain⟨p,A⟩:=r
  simp only at C ⊢
  have D:=TU A A.ai (A.dG 2) p (ej m.c.dO m.c.cZ (aR x)%A.c.aU)
  generalize A.hang A.ai (A.dG 2) p (ej m.c.dO m.c.cZ (aR x)%A.c.aU)=r at *
  obtain⟨n,B⟩:=r
  simp only at D ⊢
  generalize hx5:({(B.ea 19 (max (B.dG 19) n)).ea 15 (((B.ea 19 (max (B.dG 19) n)).dG 15+1)%18446744073709551616)with ai:=((B.ea 19 (max (B.dG 19) n)).ea 15 (((B.ea 19 (max (B.dG 19) n)).dG 15+1)%18446744073709551616)).ai ++ [({dD:=aR x,cC:=p,dS:=ej m.c.dO m.c.cZ (aR x)%A.c.aU,ck:=0,bh:=[]}:bT)]}:Mk)=m5
  have E:hk m5=hk B:=by subst hx5;rfl
  have F:=aaX m5 x.name
  generalize m5.field x.name=r at *
  obtain⟨k,G⟩:=r
  exact F.trans (E.trans (D.trans C))
theorem FN:∀(l:List Pr) (m:Mk) (ps:List (List UInt8)) (od:List Nat),hk (iu l m ps od).2.2=hk m
  | [],_,_,_=>rfl
  | x :: r,m,ps,od=>(FN r _ _ _).trans (adL m x)
theorem TV (m:Mk) (a:List Nat) (n src gL:Nat):hk (m.link a n src gL).2.2=hk m:=by
  unfold Mk.link
  generalize eM a 0 0 0=r
  obtain⟨A,C⟩:=r
  simp only
  split
  · have B:hk (m.d9 (fe {next:=0,ax:=List.replicate (ez (a.length:Int)) 0})).2=hk m:=rfl
    generalize m.d9 (fe {next:=0,ax:=List.replicate (ez (a.length:Int)) 0})=r at *
    obtain⟨p,D⟩:=r
    simp only at B ⊢
    split
    · exact B
    exact B
  rfl
theorem LZ (e:Nat):∀(od:List Nat) (m:Mk),hk (jr e od m)=hk m
  | [],_=>rfl
  | i :: r,m=>by
    rw[pL,LZ e r]
    unfold lD
    simp only
    split
    · exact aia q
    · have g:=TV m (m.ai.getD i known0).bh ((m.ai.getD i known0).ck-1) ((m.ai.getD i known0).cC+48) e
      generalize m.link (m.ai.getD i known0).bh ((m.ai.getD i known0).ck-1) ((m.ai.getD i known0).cC+48) e=r at *
      obtain⟨a,t,m1⟩:=r
      exact(aia q).trans g
theorem adM (z:Mk) (n seq cK mono e:Nat) (cg:Ly):hk (pn z n seq cK mono e cg)=hk z:=by
  unfold pn
  simp only
  generalize hy:(if n=0 then(z.ea 10 seq).ea 12 cK else z)=y
  have:hk y=hk z:=by subst hy;split <;> rfl
  exact this
theorem XF (m:Mk) (raw:List Pr) (cK mono:Nat) (cg:Ly):hk (m.append raw cK mono cg).2.2=hk m∧((m.append raw cK mono cg).2.1≠0→(m.append raw cK mono cg).2.2=m):=by
  rcases hl:kW raw with⟨l,c⟩
  by_cases h2:c≠0
  · have e:m.append raw cK mono cg=(0,c,m):=by unfold Mk.append;simp only[hl];rw[if_pos h2]
    rw[e];exact⟨q,fun _=>rfl⟩
  by_cases h3:m.dG 9=18446744073709551615
  · have e:m.append raw cK mono cg=(0,1,m):=by unfold Mk.append;simp only[hl];rw[if_neg h2,if_pos h3]
    rw[e];exact⟨q,fun _=>rfl⟩
  have E:=FN l m [] []
  rcases hd:iu l m [] []with⟨I,D,x⟩
  rw[hd]at E
  have F:hk (x.d9 (dZ {seq:=(x.dG 9+1)%18446744073709551616,cK:=cK,mono:=mono,cg:=cg,xor:=ny 0 I,ax:=js x D})).2=hk x:=rfl
  rcases ho:x.d9 (dZ {seq:=(x.dG 9+1)%18446744073709551616,cK:=cK,mono:=mono,cg:=cg,xor:=ny 0 I,ax:=js x D})with⟨e,A⟩
  rw[ho]at F
  have G:=TV A A.main (A.dG 8) 176 e
  rcases hk3:A.link A.main (A.dG 8) 176 e with⟨a,t,C⟩
  rw[hk3]at G
  simp only at E F G
  have B:m.append raw cK mono cg=_:=ku (cK:=cK) (mono:=mono) (cg:=cg) hl h2 h3 hd ho hk3 q
  have H:=LZ e D (let m4:=({C with main:=a}:Mk).ea 11 (a.getD 0 0);{m4 with h:={m4.h with cT:=jU a%4294967296,cW:=t%4294967296}})
  have J:hk (let m4:=({C with main:=a}:Mk).ea 11 (a.getD 0 0);({m4 with h:={m4.h with cT:=jU a%4294967296,cW:=t%4294967296}}:Mk))=hk C:=rfl
  rw[J]at H
  generalize jr e D (let m4:=({C with main:=a}:Mk).ea 11 (a.getD 0 0);{m4 with h:={m4.h with cT:=jU a%4294967296,cW:=t%4294967296}})=z at B H
  replace B:m.append raw cK mono cg=if z.c.cH<z.b.length then(0,15,m)else((x.dG 9+1)%18446744073709551616,0,pn z (A.dG 8) ((x.dG 9+1)%18446744073709551616) cK mono e cg):=B
  rw[B]
  split
  · exact⟨q,fun _=>rfl⟩
  refine⟨?_,fun h=>absurd q h⟩
  show hk (pn _ _ _ _ _ _ _)=_
  rw[adM,H,G,F,E]
theorem SD (n:Nat):pS (List.replicate n {first:=0,tail:=0})=nums (List.replicate (2*n) 0):=by
  induction n with
  | zero=>rfl
  | succ n ih =>
    rw[List.replicate_succ,pS,ih,show 2*(n+1)=(2*n+1)+1 by omega,List.replicate_succ,List.replicate_succ]
    simp[nums]
theorem aiB {k:Nat} (hk:k=4∨k=5) (n:Nat):(∃r,eU k (List.replicate n {first:=0,tail:=0})=Pu k (16+16*n) ++ r)∧(eU k (List.replicate n {first:=0,tail:=0})).length=16+16*n ∧
    ∀i,i<2*n→fJ (eU k (List.replicate n {first:=0,tail:=0})) (16+8*i)=0:=by
  have e:eU k (List.replicate n {first:=0,tail:=0})=rj k (nums (List.replicate (2*n) 0) ++ []):=by
    unfold eU;rw[if_neg Jy,SD,List.append_nil]
  obtain⟨A,B,C,_⟩:=agh (k:=k) Jy (List.replicate (2*n) 0) [] (fun v E=>by rw[(List.mem_replicate.1 E).2];decide)
  rw[← e]at A B C
  simp only[List.length_replicate,List.length_nil,Nat.add_zero]at A B
  rw[show 16+8*(2*n)=16+16*n by omega]at A B
  exact⟨A,by rw[B];unfold sA;omega,fun i D=>C i 0 (by rw[List.getElem?_replicate,if_pos D])⟩
def GI (c:nB):List Ob:=[⟨272,4,16+16*c.aU⟩,⟨288+16*c.aU,5,16+16*c.aS⟩]
structure aeW (m:Mk):Prop where
  hk:hk m=(2,if m.c.dO then 4 else 0,1,m.c.cZ)
  n0:m.dG 0=272
  n3:m.dG 3=16*m.c.aU
  n5:m.dG 5=16*m.c.aS
theorem ab1 {c:nB} {t:Nat} (h:c.aU≤10∧c.aS≤10) (h1:1≤c.aU∧1≤c.aS) (ht:t<1000000):Img (gZ c t) (GI c) []∧aeW (gZ c t)∧(gZ c t).dG 9=t:=by
  obtain⟨⟨R,H⟩,I,_⟩:=aiB (k:=4) (.inl q) c.aU
  obtain⟨⟨S,J⟩,K,_⟩:=aiB (k:=5) (.inr q) c.aS
  have E:(gZ c t).b=List.replicate 272 0 ++ eU 4 (List.replicate c.aU {first:=0,tail:=0}) ++ eU 5 (List.replicate c.aS {first:=0,tail:=0}):=rfl
  have A:(gZ c t).h.n=(((((((((List.replicate 20 0).set 0 272).set 2 288).set 3 (16*c.aU)).set 4 ((List.replicate 272 (0:UInt8) ++ eU 4 (List.replicate c.aU {first:=0,tail:=0})).length+16)).set 5 (16*c.aS)).set 6 ((List.replicate 272 (0:UInt8) ++ eU 4 (List.replicate c.aU {first:=0,tail:=0})).length)).set 7 2).set 9 t):=rfl
  have D:(List.replicate 272 (0:UInt8) ++ eU 4 (List.replicate c.aU {first:=0,tail:=0})).length=288+16*c.aU:=by rw[List.length_append,List.length_replicate,I];omega
  have M:(gZ c t).b.length=304+16*c.aU+16*c.aS:=by rw[E,List.length_append,D,K];omega
  rw[D]at A
  have dG:∀i,(gZ c t).dG i=(gZ c t).h.n.getD i 0:=fun _=>rfl
  generalize hT4:eU 4 (List.replicate c.aU {first:=0,tail:=0})=T4 at *
  generalize hT5:eU 5 (List.replicate c.aS {first:=0,tail:=0})=T5 at *
  have O:seg (gZ c t).b 272 16=Pu 4 (16+16*c.aU):=by
    rw[E,List.append_assoc,iN (by rw[List.length_replicate];exact Nat.le_refl _),List.length_replicate,Nat.sub_self,H,List.append_assoc]
    exact mE _ _ (kF _ _).symm
  have P:seg (gZ c t).b (288+16*c.aU) 16=Pu 5 (16+16*c.aS):=by
    rw[E,iN Jy,D,Nat.sub_self,J]
    exact mE _ _ (kF _ _).symm
  have Q:sA (16+16*c.aU)=16+16*c.aU:=by unfold sA;omega
  have u5:sA (16+16*c.aS)=16+16*c.aS:=by unfold sA;omega
  have L:gu (gZ c t).b 272 (GI c) (gZ c t).b.length:=by
    refine⟨q,by simp,by simp,by simp only;omega,by simp only;omega,O,?_⟩
    simp only[Q]
    rw[show 272+(16+16*c.aU)=288+16*c.aU by omega]
    refine⟨q,by simp,by simp,by simp only;omega,by simp only;omega,P,?_⟩
    simp only[u5,gu]
    rw[M];omega
  have B:(gZ c t).ai=[]:=rfl
  have N:(gZ c t).au=[]:=rfl
  have G:(gZ c t).main=[]:=rfl
  have F:(gZ c t).c=c:=rfl
  have C:fJ (gZ c t).b 176=0:=by
    rw[E,IY (by rw[D];omega),IY (by rw[List.length_replicate];omega)]
    show BP (((List.replicate 272 0).drop 176).take 8)=0
    rw[List.drop_replicate,List.take_replicate]
    rfl
  refine⟨⟨⟨⟨L,by rw[F];simp[GI],by rw[F];simp[GI],by rw[dG,A];rfl,by rw[dG,A];simp only[F];show _+16=_;omega,by rw[F];exact h1,by rw[B];simp,by rw[N];simp,by rw[B];simp,by simp[GI]⟩,?_,by rw[B];simp,⟨by rw[B];simp,by rw[B];simp⟩,by simp,by simp[GI]⟩,by rw[dG,A];rfl,by rw[dG,A];show t<_;omega,by rw[dG,A,G];rfl,by simp,by rw[B];simp⟩,⟨q,by rw[dG,A];rfl,by rw[dG,A];rfl,by rw[dG,A];rfl⟩,by rw[dG,A];rfl⟩
  rw[G]
  exact⟨C,by simp,by simp,by simp,by simp,Nat.le_refl _,Nat.le_refl _⟩
end Go.Wk
namespace Go.Wk
open Go Go.RowKit
structure zT (m:Mk) (l:List Ob) (es:List gP) (rs:List Rec):Prop where
  img:Img m l es
  ok:vC m
  h20:m.h.n.length=20
  hd:aeW m
  len:es.length=rs.length
  rcd:∀(i:Nat) (g:gP) (r:Rec),es[i]? = some g→rs[i]? = some r→KW m g r
  rise:rs.Pairwise fun a b=>a.seq<b.seq
  top:∀r∈rs,1≤r.seq∧r.seq≤m.dG 9
structure aiN (m m':Mk) (es es':List gP) (rs rs':List Rec):Prop where
  es:∃t,es'=es ++ t
  rs:∃t,rs'=rs ++ t
  main:∃t,m'.main=m.main ++ t
  ext:pW m.ai m'.ai
  c:m'.c=m.c
  len:m.b.length≤m'.b.length
  dG:∀i,i≤5→m'.dG i=m.dG i
theorem BV {x fs:List Pr} (h:kW x=(fs,0)) (ha:Asc x):fs=x:=by
  obtain⟨A,_,B,_⟩:=FW h
  exact TB A ha B
theorem zX {α:Type} {l:List α} {p a:α} {k:Nat} (h:(l ++ [p])[k]? = some a):(k<l.length∧l[k]? = some a)∨(k=l.length∧a=p):=by
  rcases Nat.lt_or_ge k l.length with hk|hk
  · rw[List.getElem?_append_left hk]at h;exact .inl ⟨hk,h⟩
  have B:=(List.getElem?_eq_some_iff.1 h).1
  simp at B
  rw[List.getElem?_append_right hk,show k-l.length=0 by omega]at h
  exact .inr ⟨by omega,by simpa using h.symm⟩
theorem aeL {m m':Mk} {l:List Ob} {es:List gP} {rs:List Rec} {r:Rec} {s:Nat} (h:zT m l es rs) (hr:r.seq=(m.dG 9+1)%18446744073709551616) (hb:r.cg.length=16) (hn:r.cK<18446744073709551616∧r.mono<18446744073709551616) (hf:Asc r.au) (ha:m.append r.au r.cK r.mono r.cg=(s,0,m')) :
    ∃l' es',zT m' l' es' (rs ++ [r])∧aiN m m' es es' rs (rs ++ [r]):=by
  have C:=GF m r.au r.cK r.mono r.cg
  have ok':=xh (raw:=r.au) (cK:=r.cK) (mono:=r.mono) h.ok hb (C.trans h.h20)
  have D:=(XF m r.au r.cK r.mono r.cg).1
  rw[ha]at C ok' D
  obtain⟨l',g,S,O,A⟩:=ER h.img h.ok h.h20 hb hn ha
  have H:=BV O hf
  subst H
  have T:=h.img.n9
  have P:s=m.dG 9+1:=A.seq.1
  have n9':m'.dG 9=s:=A.seq.2
  have R:=A.img.n9
  have F:r.seq=s:=by rw[hr,P];exact Nat.mod_eq_of_lt Jy
  have I:({seq:=s,cK:=r.cK,mono:=r.mono,cg:=r.cg,au:=r.au}:Rec)=r:=by cases r;simp only at F;subst F;rfl
  have A':=A.rcd
  rw[I]at A'
  refine⟨l',es ++ [g],⟨A.img,ok',C.trans h.h20,⟨?_,?_,?_,?_⟩,by simp[h.len],fun i J Q N E=>?_,?_,fun y B=>?_⟩,⟨⟨_,q⟩,⟨_,q⟩,A.main,A.ext,A.c,A.len,A.dG⟩⟩
  · rw[D,h.hd.hk,A.c]
  · rw[A.dG 0 Kq];exact h.hd.n0
  · rw[A.dG 3 Kq,A.c];exact h.hd.n3
  · rw[A.dG 5 Kq,A.c];exact h.hd.n5
  · rcases zX N with⟨M,K⟩|⟨M,rfl⟩
    · rcases zX E with⟨_,G⟩|⟨G,_⟩
      · exact(h.rcd i J Q K G).ext (h.img.who J (List.mem_of_getElem? K)) A.ext
      have:=h.len;omega
    rcases zX E with⟨G,_⟩|⟨_,rfl⟩
    · have:=h.len;omega
    exact A'
  · refine List.pairwise_append.2 ⟨h.rise,by simp,fun y B z L=>?_⟩
    simp at L;subst L
    have:=(h.top y B).2;omega
  rw[n9']
  rcases List.mem_append.1 B with B|B
  · have:=h.top y B;omega
  simp at B;subst B;omega
end Go.Wk
namespace Go.Wk
open Go Go.RowKit
def vH (P:Program) (s:TypeId) (f:Nat):Option Nat :=
  match P.underlying s with
  | some (.struct fs)=>match fs[f]? with
    | some x=>cond (iZ P x.type) (some x.offset) none
    | none=>none
  | _=>none
section
variable {P:Program} {n:Nat} {A:Fr n} {D:List Deferred} {l:List (Nat × Value)} {w:World} {d:Option Tmp} {ty:TypeId} {ps:String} {af:Array Edge} {g:Option (Nat × Bool)}
theorem NZ {x:Operand} {s:TypeId} {f off:Nat} {cs:List Value} {u:Value} (hf:vH P s f=some off) (hx:ev n l x=some (.agg cs.toArray)) (hc:cs[off]? = some u) :
    dr P ⟨d,.field s x f,ty,ps,af,g⟩ (b9 A D l).eval w u:=by
  unfold vH at hf
  split at hf
  · rename_i fs hu
    split at hf
    · rename_i y hy
      cases h1:iZ P y.type with
      | false=>rw[h1]at hf;cases hf
      | true =>
        rw[h1]at hf
        simp only[cond_true,Option.some.injEq]at hf
        subst hf
        simp[dr,execOp,cO hx,Instr.field,run_underlying hu,hy,part,nX h1,asAgg,hc]
    cases hf
  cases hf
end
structure lY where
  out:List Nat
  cur:Nat
  ahead:Nat
def lY.cells (x:lY) (v0:Value):List Value :=
  [v0] ++ ([(.int .u64 x.cur)] ++ ([(.int .u64 x.ahead)]))
def lY.ok (x:lY):Prop:=x.cur<18446744073709551616∧x.ahead<18446744073709551616
theorem lY.one {x:lY} {v0:Value} (h0:v0.oneCell'=true):(x.cells v0).all (fun u=>u.oneCell')=true:=(dn (qx h0) (dn q q))
theorem QR:(iE (nT [] 0)).2=0∧((iE (nT [] 0)).1.map fun y=>y.h.n.getD 8 0)=some 0:=by decide +kernel
theorem NJ {x:Option fp} {c:Nat} (h:iE (nT [] 0)=(x,c)):c=0∧∃y,x=some y∧y.h.n.getD 8 0=0:=by
  have A:=QR
  rw[h]at A
  obtain⟨C,B⟩:=A
  cases x with
  | none=>simp at B
  | some y=>exact⟨C,y,q,by simpa using B⟩
theorem adO:(nT [] 0).length≤1000:=by decide +kernel
section
variable {P:Program} {n:Nat} {A:Fr n} {D:List Deferred} {l:List (Nat × Value)} {w:World} {d:Option Tmp} {ty:TypeId} {ps:String} {af:Array Edge} {g:Option (Nat × Bool)}
end
end Go.Wk
namespace Go.Wk
open Go Go.RowKit
def qP (out:List Nat):Nat:=out.getLast?.getD 0
def mQ (out:List Nat) (x:Nat):Nat:=if out≠[]∧x≤qP out then 13 else 0
def jf (b:Ly) (cH:Nat):List Nat→List Nat→List Nat × Nat
  | [],out=>(out,0)
  | x :: r,out=>if cH≤out.length then(out,0)else if x=0∨b.length≤x then(out,2)else if mQ out x≠0 then(out,13)else jf b cH r (out ++ [x])
def me (s:Nat) (b:Ly) (cH p ahead:Nat) (out:List Nat):List Nat × Nat :=
  if cH≤out.length then(out,0)
  else if p=0∨b.length≤p then(out,14)
  else if p≤ahead then(out,12)
  else if(iO s b p).2≠0 then(out,(iO s b p).2)
  else if(jf b cH (iO s b p).1.ax out).2≠0 then jf b cH (iO s b p).1.ax out
  else me s b cH (iO s b p).1.next p (jf b cH (iO s b p).1.ax out).1
termination_by b.length-ahead
decreasing_by omega
def jV (b:Ly) (x:Nat):Bool:=decide (x=0∨b.length≤x)
def oF (s:Nat) (b:Ly) (l:lY):List Nat × Nat × lY :=
  if l.cur≤l.ahead then([],12,l)else((iO s b l.cur).1.ax,(iO s b l.cur).2,{l with cur:=(iO s b l.cur).1.next,ahead:=l.cur})
def itF (l:lY) (x:Nat):Nat × lY:=if mQ l.out x≠0 then(13,l)else(0,{l with out:=l.out ++ [x]})
theorem TW {out:List Nat} {x y:Nat} (h:out[out.length-1]? = some y) (hx:x≤y):mQ out x≠0:=by
  unfold mQ qP
  have A:out≠[]:=by rintro rfl;simp at h
  rw[List.getLast?_eq_getElem?,h,if_pos ⟨A,hx⟩]
  decide
theorem abe {out:List Nat} {x y:Nat} (h:out[out.length-1]? = some y) (hx:¬x≤y):mQ out x=0:=by
  unfold mQ qP
  rw[List.getLast?_eq_getElem?,h,if_neg (fun h=>hx h.2)]
theorem abf {out:List Nat} {x:Nat} (h:¬0<out.length):mQ out x=0:=by
  unfold mQ
  rw[if_neg (fun A=>A.1 (List.eq_nil_of_length_eq_zero Jy))]
def sG (b:Ly) (out:List Nat):Prop:=out.length≤qP out∧qP out<b.length+1
theorem DU (b:Ly):sG b []:=⟨Nat.le_refl _,Nat.succ_pos _⟩
theorem DT {b:Ly} {out:List Nat} (h:sG b out):out.length≤b.length:=by have:=h.1;have:=h.2;omega
theorem kY {b:Ly} {x:Nat} (h:jV b x=false):x≠0∧x<b.length:=by
  unfold jV at h
  have:=dF h
  omega
theorem MK (out:List Nat) (x:Nat):qP (out ++ [x])=x:=by simp[qP]
theorem HF {b:Ly} {l l':lY} {x c:Nat} (h:sG b l.out) (hi:itF l x=(c,l')) (hc:¬c≠0) (hn:jV b x=false):sG b l'.out∧l'.out=l.out ++ [x]∧l'.cur=l.cur∧l'.ahead=l.ahead∧mQ l.out x=0:=by
  have D:=kY hn
  unfold itF at hi
  split at hi
  · exact absurd (congrArg Prod.fst hi) Jy
  rename_i h2
  have e:=congrArg Prod.snd hi
  simp only at e
  subst e
  refine⟨⟨?_,?_⟩,q,q,q,by omega⟩
  · simp only[MK,List.length_append,List.length_singleton]
    have A:mQ l.out x=0:=by omega
    unfold mQ at A
    have C:=h.1
    by_cases hn:l.out=[]
    · rw[hn];simp;omega
    have:¬x≤qP l.out:=fun B=>by rw[if_pos ⟨hn,B⟩]at A;cases A
    omega
  simp only[MK];omega
theorem P8 {s c:Nat} {b:Ly} {l l':lY} {ax:List Nat} (ha:oF s b l=(ax,c,l')) (hc:¬c≠0):l.ahead<l.cur∧l'.out=l.out∧l'.ahead=l.cur∧l'.cur=(iO s b l.cur).1.next∧ax=(iO s b l.cur).1.ax∧(iO s b l.cur).2=0:=by
  unfold oF at ha
  split at ha
  · exact absurd (congrArg (fun x=>x.2.1) ha) Zy
  rename_i h
  simp only[Prod.mk.injEq]at ha
  obtain⟨rfl,A,rfl⟩:=ha
  exact⟨by omega,q,q,q,q,by omega⟩
theorem vD {s c:Nat} {b:Ly} {l l':lY} {ax:List Nat} (ha:oF s b l=(ax,c,l')):l'.out=l.out:=by
  unfold oF at ha
  split at ha <;> (simp only[Prod.mk.injEq]at ha;obtain⟨_,_,rfl⟩:=ha;rfl)
theorem AR {s cH p a:Nat} {b:Ly} {out:List Nat} (h:¬out.length<cH):me s b cH p a out=(out,0):=by rw[me,if_pos Jy]
theorem TL {s cH p a:Nat} {b:Ly} {out:List Nat} (h:out.length<cH) (hn:jV b p=true):me s b cH p a out=(out,14):=by
  rw[me,if_neg Jy,if_pos (by simpa [jV]using hn)]
theorem aa4 {s cH c:Nat} {b:Ly} {l l':lY} {ax:List Nat} (h:l.out.length<cH) (hn:jV b l.cur=false) (ha:oF s b l=(ax,c,l')) (hc:c≠0):me s b cH l.cur l.ahead l.out=(l'.out,c):=by
  have A:=kY hn
  rw[vD ha]
  rw[me,if_neg Jy,if_neg Jy]
  unfold oF at ha
  split at ha
  · rename_i h1;rw[if_pos h1];simp only[Prod.mk.injEq]at ha;rw[ha.2.1]
  rename_i h1;rw[if_neg h1];simp only[Prod.mk.injEq]at ha;rw[← ha.2.1]at hc ⊢;rw[if_pos hc]
theorem TM {s cH c:Nat} {b:Ly} {l l':lY} {ax:List Nat} (h:l.out.length<cH) (hn:jV b l.cur=false) (ha:oF s b l=(ax,c,l')) (hc:¬c≠0) :
    me s b cH l.cur l.ahead l.out=if(jf b cH ax l.out).2≠0 then jf b cH ax l.out else me s b cH l'.cur l'.ahead (jf b cH ax l.out).1:=by
  have G:=kY hn
  obtain⟨D,E,A,B,C,F⟩:=P8 ha hc
  rw[me,if_neg Jy,if_neg Jy,if_neg Jy,if_neg Jy,A,B,C]
theorem aa9 {s cH c i:Nat} {b:Ly} {l l':lY} {ax out2:List Nat} {r r1:List Nat × Nat} (h0:me s b cH l.cur l.ahead l.out=r) (h:l.out.length<cH) (hn:jV b l.cur=false) (ha:oF s b l=(ax,c,l')) (hc:¬c≠0)
    (h1o:jf b cH (ax.drop 0) l'.out=r1) (h1:jf b cH (ax.drop i) out2=r1) (he:jf b cH (ax.drop i) out2=(out2,0)):me s b cH l'.cur l'.ahead out2=r:=by
  have A:jf b cH ax l.out=(out2,0):=by rw[← vD ha];exact h1o.trans (h1.symm.trans he)
  rw[TM h hn ha hc,A,if_neg Oq]at h0
  exact h0
theorem LK {s cH c i k:Nat} {b:Ly} {l l':lY} {ax out2 out3:List Nat} {r r1:List Nat × Nat} (h0:me s b cH l.cur l.ahead l.out=r) (h:l.out.length<cH) (hn:jV b l.cur=false) (ha:oF s b l=(ax,c,l')) (hc:¬c≠0)
    (h1o:jf b cH (ax.drop 0) l'.out=r1) (h1:jf b cH (ax.drop i) out2=r1) (he:jf b cH (ax.drop i) out2=(out3,k)) (hk:k≠0):r=(out3,k):=by
  have A:jf b cH ax l.out=(out3,k):=by rw[← vD ha];exact h1o.trans (h1.symm.trans he)
  rw[TM h hn ha hc,A,if_pos hk]at h0
  exact h0.symm
theorem LJ {cH i:Nat} {b:Ly} {ax out:List Nat} (h:¬i<ax.length):jf b cH (ax.drop i) out=(out,0):=by rw[List.drop_eq_nil_of_le Jy];rfl
theorem FE {cH:Nat} {b:Ly} {ax out:List Nat} (h:cH≤out.length):jf b cH ax out=(out,0):=by
  cases ax with
  | nil=>rfl
  | cons x r=>unfold jf;rw[if_pos h]
theorem drop_cons {ax:List Nat} {i x:Nat} (h:ax[i]? = some x):ax.drop i=x :: ax.drop (i+1):=by
  obtain⟨A,B⟩:=List.getElem?_eq_some_iff.1 h
  rw[← B];exact(List.drop_eq_getElem_cons A)
theorem aa3 {cH i x:Nat} {b:Ly} {ax out:List Nat} (h:ax[i]? = some x) (hm:¬cH≤out.length) (hn:jV b x=true):jf b cH (ax.drop i) out=(out,2):=by
  rw[drop_cons h,jf,if_neg hm,if_pos (by simpa [jV]using hn)]
theorem ad6 {cH i x c:Nat} {b:Ly} {ax:List Nat} {l l':lY} (h:ax[i]? = some x) (hm:¬cH≤l.out.length) (hn:jV b x=false) (hi:itF l x=(c,l')) (hc:c≠0):jf b cH (ax.drop i) l.out=(l'.out,c):=by
  have A:=kY hn
  rw[drop_cons h,jf,if_neg hm,if_neg Jy]
  unfold itF at hi
  split at hi
  · rename_i h2;rw[if_pos h2];simp only[Prod.mk.injEq]at hi;rw[← hi.1,← hi.2]
  exact absurd (congrArg Prod.fst hi).symm hc
theorem WN {cH i x c:Nat} {b:Ly} {ax:List Nat} {l l':lY} (h:ax[i]? = some x) (hm:¬cH≤l.out.length) (hn:jV b x=false) (hi:itF l x=(c,l')) (hc:¬c≠0):jf b cH (ax.drop i) l.out=jf b cH (ax.drop (i+1)) l'.out:=by
  have A:=kY hn
  rw[drop_cons h,jf,if_neg hm,if_neg Jy]
  unfold itF at hi
  split at hi
  · exact absurd (congrArg Prod.fst hi) Jy
  rename_i h2;rw[if_neg h2];simp only[Prod.mk.injEq]at hi;rw[← hi.2]
def jS (s:Nat) (b:Ly) (cH p:Nat):List Nat × Nat:=me s b cH p 0 []
end Go.Wk
namespace Go.Wk
open Go Go.RowKit
def HK (ax:List Nat) (c r:Nat):List Nat:=(List.range r).map fun j=>ax.getD (c+j) 0
theorem RN (ax:List Nat) (c r:Nat):HK ax c (r+1)=ax.getD c 0 :: HK ax (c+1) r:=by
  unfold HK
  rw[List.range_succ_eq_map,List.map_cons,List.map_map]
  congr 1
  exact List.map_congr_left fun j _=>by simp only[Function.comp];congr 1;omega
theorem afB {b:Ly} {l:List Ob} {src:Nat} {av ax:List Nat} (h:Chain b l src av ax) (hO:gu b 272 l b.length) {k a:Nat} (ha:av[k]? = some a):iO 272 b a=({next:=av.getD (k+1) 0,ax:=HK ax (p7 k) (ez (k:Int))},0):=by
  have D:=hO.mem (h.ob k a ha)
  have C:=h.le hO ha
  have E:=tF (k:=(k:Int)) Jy
  have A:=AX D Kq Zk
  simp only at A
  unfold iO
  rw[if_neg Jy]
  unfold ig
  rw[A]
  simp only
  rw[if_neg Oq,if_neg Oq,if_neg Jy,show(24+8*ez (k:Int)-24)/8=ez (k:Int)by omega,h.next k a ha]
  congr 2
  unfold gg HK
  exact List.map_congr_left fun j B=>h.gL k a j ha (List.mem_range.1 B)
structure vB (b:Ly) (ax:List Nat):Prop where
  ok:∀x∈ax,x≠0∧x<b.length
  ES:ax.Pairwise (· < ·)
theorem vB.get {b:Ly} {ax:List Nat} (h:vB b ax) {i:Nat} (hi:i<ax.length):ax.getD i 0≠0∧ax.getD i 0<b.length:=by
  have:ax.getD i 0∈ax:=by rw[List.getD_eq_getElem?_getD,List.getElem?_eq_getElem hi];exact List.getElem_mem hi
  exact h.ok _ this
theorem vB.lt {b:Ly} {ax:List Nat} (h:vB b ax) {i j:Nat} (hij:i<j) (hj:j<ax.length):ax.getD i 0<ax.getD j 0:=by
  rw[List.getD_eq_getElem?_getD,List.getD_eq_getElem?_getD,List.getElem?_eq_getElem Jy,List.getElem?_eq_getElem hj]
  exact List.pairwise_iff_getElem.1 h.ES i j Jy hj hij
theorem ZI {ax:List Nat} {c:Nat} (h0:0<c) (hc:c≤ax.length):qP (ax.take c)=ax.getD (c-1) 0:=by
  unfold qP
  rw[List.getLast?_eq_getElem?,List.length_take,List.getElem?_take,Nat.min_eq_left hc,if_pos Jy,List.getD_eq_getElem?_getD]
theorem adP {b:Ly} {ax:List Nat} (h:vB b ax) {c:Nat} (hc:c<ax.length):mQ (ax.take c) (ax.getD c 0)=0:=by
  unfold mQ
  by_cases h0:c=0
  · subst h0;simp
  rw[ZI Jy Jy,if_neg]
  have:=h.lt (i:=c-1) (j:=c) Jy hc
  omega
theorem SK {ax:List Nat} {c:Nat} (hc:c<ax.length):ax.take c ++ [ax.getD c 0]=ax.take (c+1):=by
  rw[List.take_add_one,List.getD_eq_getElem?_getD,List.getElem?_eq_getElem hc];rfl
theorem LR {ax:List Nat} {c:Nat} (hc:ax.length≤c):ax.getD c 0=0:=by rw[List.getD_eq_getElem?_getD,List.getElem?_eq_none hc];rfl
theorem FG {b:Ly} {ax:List Nat} {cH:Nat} (h:vB b ax):∀(r c:Nat),c≤ax.length→c≤cH →
    jf b cH (HK ax c r) (ax.take c)=if cH≤ax.length∨c+r≤ax.length then(ax.take (min cH (c+r)),0)else(ax,2)
  | 0,c,hc,hm=>by
    show(ax.take c,0)=_
    rw[if_pos (.inr Jy),Nat.add_zero,Nat.min_eq_right hm]
  | r+1,c,hc,hm=>by
    have hl:(ax.take c).length=c:=by rw[List.length_take];omega
    rw[RN,jf,hl]
    by_cases h1:cH≤c
    · rw[if_pos h1,if_pos (.inl Jy),Nat.min_eq_left Jy,show cH=c by omega]
    · rw[if_neg h1]
      by_cases h2:c<ax.length
      · have A:=h.get h2
        rw[if_neg Jy,adP h h2,if_neg Oq,SK h2,FG h r (c+1) Jy Jy,show c+1+r=c+(r+1)by omega]
      · rw[LR Jy,if_pos (.inl q),if_neg Jy,List.take_of_length_le Jy]
theorem AQ {b:Ly} {l:List Ob} {src:Nat} {av ax:List Nat} {cH:Nat} (h:Chain b l src av ax) (hO:gu b 272 l b.length) (hi:vB b ax):∀(d k ahead:Nat),k+d=av.length→(k=0→ahead=0)→(∀j,k=j+1→av[j]? = some ahead)→min cH (p7 k)≤ax.length →
    ∃c,me 272 b cH (av.getD k 0) ahead (ax.take (min cH (p7 k)))=(ax.take (min cH ax.length),c)∧(c=0∧cH≤ax.length∨(c=2∨c=14)∧ax.length<cH)
  | d,k,ahead,hd,h0,h1,hk=>by
    have hl:(ax.take (min cH (p7 k))).length=min cH (p7 k):=by rw[List.length_take];omega
    have F:=h.hi
    rw[me,hl]
    by_cases hm:cH≤p7 k
    · rw[Nat.min_eq_left hm]at hk ⊢
      rw[if_pos (Nat.le_refl _),Nat.min_eq_left Jy]
      exact⟨0,q,.inl ⟨q,hk⟩⟩
    · rw[Nat.min_eq_right Jy]at hk ⊢
      rw[if_neg Jy]
      match d with
      | 0 =>
        have C:k=av.length:=by omega
        subst C
        have:ax.length=p7 av.length:=by omega
        rw[LR (Nat.le_refl _),if_pos (.inl q),← this,Nat.min_eq_right Jy]
        exact⟨14,q,.inr ⟨.inr q,by omega⟩⟩
      | d+1 =>
        obtain⟨a,A⟩:∃a,av[k]? = some a:=⟨_,List.getElem?_eq_getElem Jy⟩
        have G:=h.le hO A
        have D:=afB h hO A
        have E:ahead<a:=by
          by_cases hk0:k=0
          · have:=h0 hk0;omega
          · have:=h1 (k-1) Jy
            exact h.ES (k-1) ahead a this (by rw[show k-1+1=k by omega];exact A)
        rw[getD_some A,if_neg Jy,if_neg Jy,D]
        simp only
        rw[if_neg Oq,FG hi _ _ hk Jy]
        have B:p7 k+ez (k:Int)=p7 (k+1):=rfl
        by_cases hb:cH≤ax.length∨p7 k+ez (k:Int)≤ax.length
        · rw[if_pos hb]
          simp only
          rw[if_neg Oq,B]
          exact AQ h hO hi d (k+1) a Jy Jy (fun j H=>by rw[show j=k by omega];exact A) (by rw[← B];omega)
        · rw[if_neg hb]
          simp only
          rw[if_pos Oq,Nat.min_eq_right Jy,List.take_length]
          exact⟨2,q,.inr ⟨.inl q,by omega⟩⟩
theorem PN {b:Ly} {l:List Ob} {src cH:Nat} {av ax:List Nat} (h:Chain b l src av ax) (hO:gu b 272 l b.length) (hi:vB b ax) :
    ∃c,jS 272 b cH (av.getD 0 0)=(ax.take (min cH ax.length),c)∧(c=0∧cH≤ax.length∨(c=2∨c=14)∧ax.length<cH):=by
  have:=AQ (cH:=cH) h hO hi av.length 0 0 Jy (fun _=>rfl) (fun j A=>by omega) (by simp[p7])
  simp only[p7,Nat.min_zero,List.take_zero]at this
  exact this
end Go.Wk
namespace Go.Wk
open Go Go.RowKit
theorem acX {m:Mk} (h:∀k∈m.ai,∃q:Pr,right q.pb=true∧k.dD=aR q) {k:bT} (hk:k∈m.ai):1≤k.dD.length:=by
  obtain⟨q,_,A⟩:=h k hk
  have:=lI q
  rw[A];omega
def TG (m:Mk) (k:bT) (ps:List Nat):gq:={dH:=jM m k.dD,cP:=fJ m.b (k.cC+24),dR:=fJ m.b (k.cC+32),entry:=ps.getD 0 0,array:=k.bh.getD 0 0,ck:=ps.length,aR:=k.dD}
theorem afH {m:Mk} {l:List Ob} {es:List gP} {mp:List Nat} {f:Nat→List Nat} {i:Nat} {k:bT} (h:mU m l es mp f) (hk:m.ai[i]? = some k) (ht:1≤k.dD.length):kO 272 m.b k.cC=(TG m k (f i),0):=by
  have G:=h.iB.gy
  have C:=h.iB.data k (List.mem_of_getElem? hk)
  have A:=h.dat i k hk
  have B:=G.mem C.ob
  have H:=fR (64+k.dD.length)
  have E:=B.ge
  have F:=B.le
  simp only at E F
  unfold kO
  rw[if_neg Jy]
  have D:=agi (k:=1) (n:=6) B Kq Zk q Zk
  simp only at D
  rw[(vv D).2 Oq |>.2]
  rw[show k.cC+16+8*6=k.cC+64 by omega,show 64+k.dD.length-(16+8*6)=k.dD.length by omega,C.dD]
  congr 1
  have e:gg m.b (k.cC+16) 6=[fJ m.b (k.cC+16),fJ m.b (k.cC+24),fJ m.b (k.cC+32),fJ m.b (k.cC+40),fJ m.b (k.cC+48),fJ m.b (k.cC+56)]:=rfl
  rw[e,C.dH,A.ent,A.chain.word,A.word]
  rfl
theorem ago {m:Mk} {l:List Ob} {es:List gP} {mp:List Nat} {f:Nat→List Nat} {i:Nat} {k:bT} (h:mU m l es mp f) (hk:m.ai[i]? = some k) (ht:1≤k.dD.length):iK m.c.dO m.c.cZ 272 m.b k.cC=(TG m k (f i),0) :=
  Vb (afH h hk ht) (n:=jM m k.dD) q q
theorem MB:∀{l:List jO} {i:Nat} {x:jO},l[i]? = some x→x.cC<18446744073709551616→x.dH<18446744073709551616→fJ (lF l) (16*i)=x.cC∧fJ (lF l) (16*i+8)=x.dH
  | [],_,_,h,_,_=>by simp at h
  | y :: l,0,x,h,h1,h2=>by
    simp at h;subst h
    exact⟨mr (l:=[y.cC,y.dH]) (i:=0) q h1,mr (l:=[y.cC,y.dH]) (i:=1) q h2⟩
  | y :: l,i+1,x,h,h1,h2=>by
    have hl:(nums [y.cC,y.dH]).length=16:=rfl
    obtain⟨g1,g2⟩:=MB (l:=l) (i:=i) (by simpa using h) h1 h2
    rw[lF,iH Jy,iH Jy,hl,show 16*(i+1)-16=16*i by omega,show 16*(i+1)+8-16=16*i+8 by omega]
    exact⟨g1,g2⟩
theorem afW {m:Mk} {l:List Ob} {g:gP} (hs:Stat m l) (w:vA m g) (hb:m.b.length<1000000) {x:jO} (hx:x∈g.ent.ax):x.cC<18446744073709551616∧x.dH<18446744073709551616:=by
  rw[w.ax]at hx
  obtain⟨i,A,rfl⟩:=List.mem_map.1 hx
  have B:=w.lt i A
  have hk:m.ai[i]? = some m.ai[i]:=List.getElem?_eq_getElem B
  have:=(hs.gy.mem (hs.data _ (List.mem_of_getElem? hk)).ob).le
  have:=fR (64+(m.ai[i]).dD.length)
  simp only at this ⊢
  rw[(rR hk).2]
  exact⟨by simp only at *;omega,BI _ _⟩
theorem afN {m:Mk} {l:List Ob} {es:List gP} {mp:List Nat} {f:Nat→List Nat} {g:gP} (h:mU m l es mp f) (w:vA m g) (hg:g∈es) (hb:m.b.length<1000000):iJ 272 m.b g.cC=(g.ent,0):=by
  have Z:=h.iB.gy
  have O:=h.ent g hg
  have I:=Z.mem O.ob
  have hu:=fR (64+16*g.ent.ax.length)
  have V:=I.ge
  have W:=I.le
  have hn:g.ent.ax.length=g.who.length:=by rw[w.ax,List.length_map]
  have h3:=w.len
  obtain⟨⟨d,e,n,E,o⟩,p⟩:=w.ok
  simp only at V W
  unfold iJ
  rw[if_neg Jy]
  have G:=ad1 (k:=3) (ahead:=48) (gL:=16) I Kq Zk q Zk Zk
  simp only at G
  unfold ij
  rw[G]
  simp only
  rw[if_neg Oq]
  -- the body
  have Y:seg m.b (g.cC+16) (64+16*g.ent.ax.length-16)=nums [g.ent.seq,g.ent.cK,g.ent.mono] ++ g.ent.cg ++ nums [g.ent.xor] ++ lF g.ent.ax:=by
    rw[OI O.seg Jy]
    unfold dZ
    have H:(nums [g.ent.seq,g.ent.cK,g.ent.mono] ++ g.ent.cg ++ nums [g.ent.xor] ++ lF g.ent.ax).length=48+16*g.ent.ax.length:=by simp[eR,ug,E];omega
    rw[wP Jy,List.append_assoc (Pu _ _),iN (by rw[kF];omega),kF,Nat.sub_self]
    exact mE _ _ (by rw[H];omega)
  rw[Y]
  generalize hX:nums [g.ent.seq,g.ent.cK,g.ent.mono] ++ g.ent.cg ++ nums [g.ent.xor] ++ lF g.ent.ax=X
  have B:(nums [g.ent.seq,g.ent.cK,g.ent.mono]).length=24:=rfl
  have Q:(nums [g.ent.xor]).length=8:=rfl
  have z:X.length=48+16*g.ent.ax.length:=by rw[← hX];simp[eR,ug,E];omega
  have A:X=nums [g.ent.seq,g.ent.cK,g.ent.mono] ++ (g.ent.cg ++ (nums [g.ent.xor] ++ lF g.ent.ax)):=by rw[← hX];simp only[List.append_assoc]
  have R:fJ X 0=g.ent.seq:=by rw[A];exact mr (l:=[g.ent.seq,g.ent.cK,g.ent.mono]) (i:=0) q d
  have u:fJ X 8=g.ent.cK:=by rw[A];exact mr (l:=[g.ent.seq,g.ent.cK,g.ent.mono]) (i:=1) q e
  have J:fJ X 16=g.ent.mono:=by rw[A];exact mr (l:=[g.ent.seq,g.ent.cK,g.ent.mono]) (i:=2) q n
  have K:(X.drop 24).take 16=g.ent.cg:=by
    have:seg X 24 16=g.ent.cg:=by
      rw[A,iN Jy,B,Nat.sub_self]
      exact mE _ _ E.symm
    exact this
  have L:fJ X 40=g.ent.xor:=by
    rw[A,iH Jy,B,iH Jy,E]
    exact mr (l:=[g.ent.xor]) (i:=0) q o
  have v:j4 X 48 ((X.length-48)/16)=g.ent.ax:=by
    rw[z,show(48+16*g.ent.ax.length-48)/16=g.ent.ax.length by omega]
    apply List.ext_getElem?
    intro i
    unfold j4
    rw[List.getElem?_map]
    by_cases hi:i<g.ent.ax.length
    · rw[List.getElem?_range hi,List.getElem?_eq_getElem hi]
      have F:=afW h.iB w hb (List.getElem_mem hi)
      obtain⟨S,T⟩:=MB (List.getElem?_eq_getElem hi) F.1 F.2
      have r:fJ X (48+16*i)=(g.ent.ax[i]).cC:=by
        rw[A,iH Jy,B,iH Jy,E,iH Jy,Q,show 48+16*i-24-16-8=16*i by omega];exact S
      have t:fJ X (48+16*i+8)=(g.ent.ax[i]).dH:=by
        rw[A,iH Jy,B,iH Jy,E,iH Jy,Q,show 48+16*i+8-24-16-8=16*i+8 by omega];exact T
      simp only[Option.map_some,Option.some.injEq]
      rw[r,t]
    · rw[List.getElem?_eq_none (by simpa using hi),List.getElem?_eq_none Jy];rfl
  have U:vG X=g.ent:=by
    unfold vG
    rw[R,u,J,K,L,v]
  unfold vh
  rw[U,R,if_neg p,if_neg]
  intro P
  have:oU g.ent.ax=true:=by
    rw[pB]
    intro j x y C D
    rw[w.ax]at C D
    rw[List.getElem?_map]at C D
    cases hwx:g.who[j]? with
    | none=>rw[hwx]at C;cases C
    | some a =>
      cases hwy:g.who[j+1]? with
      | none=>rw[hwy]at D;cases D
      | some c =>
        rw[hwx]at C;rw[hwy]at D
        simp only[Option.map_some,Option.some.injEq]at C D
        subst C;subst D
        simp only
        have M:=(List.getElem?_eq_some_iff.1 hwx)
        have N:=(List.getElem?_eq_some_iff.1 hwy)
        have:=List.pairwise_iff_getElem.1 w.ES j (j+1) M.1 N.1 Jy
        rw[M.2,N.2]at this
        exact this
  rw[this]at P;cases P
theorem OQ {q:Pr} (h:right q.pb=true):lN (aR q)=(q,0):=by
  obtain⟨A,B⟩:=o9 ((mR _).2 h)
  have h1':gT (aR q)=0:=A
  have h2':nP (aR q)=q.pb:=B
  unfold lN
  rw[h1',h2']
  rfl
theorem O2 {m:Mk} {l:List Ob} {es:List gP} {mp:List Nat} {f:Nat→List Nat} (h:mU m l es mp f) (ht:∀k∈m.ai,∃q:Pr,right q.pb=true∧k.dD=aR q):∀(ws:List Nat) (fs:List Pr) (all:List (List UInt8)),(∀i∈ws,i<m.ai.length) →
    ∃qs:List Pr,jd m.c.dO m.c.cZ 272 m.b (ws.map fun i=>{cC:=gQ m.ai i,dH:=jM m (jC m.ai i)}) fs all=((fs ++ qs,all ++ ws.map (jC m.ai)),0)∧qs.map aR=ws.map (jC m.ai)∧∀q∈qs,right q.pb=true
  | [],fs,all,_=>⟨[],by simp[jd],rfl,by simp⟩
  | i :: r,fs,all,hw=>by
    have hl:=hw i Oq
    have hk:m.ai[i]? = some m.ai[i]:=List.getElem?_eq_getElem hl
    obtain⟨q,hq1,hq2⟩:=ht _ (List.mem_of_getElem? hk)
    have hp:=ago h hk (acX ht (List.mem_of_getElem? hk))
    obtain⟨t1,t2⟩:=rR hk
    obtain⟨qs,g1,g2,g3⟩:=O2 h ht r (fs ++ [q]) (all ++ [jC m.ai i]) (fun j hj=>hw j (by simp[hj]))
    refine⟨q :: qs,?_,by rw[List.map_cons,List.map_cons,g2,t1,hq2],fun y hy=>?_⟩
    · rw[List.map_cons,jd]
      simp only[t2,hp]
      have e1:(TG m m.ai[i] (f i)).aR=aR q:=hq2
      have e2:(TG m m.ai[i] (f i)).dH=jM m (jC m.ai i):=by rw[t1];rfl
      rw[if_neg Oq,if_neg (by rw[e2];simp),e1,OQ hq1]
      simp only
      rw[if_neg Oq,← hq2,← t1,g1]
      simp
    · rcases List.mem_cons.1 hy with rfl|hy
      · exact hq1
      · exact g3 y hy
theorem ag2 {m:Mk} {l:List Ob} {es:List gP} {mp:List Nat} {f:Nat→List Nat} {g:gP} {r:Rec} (h:mU m l es mp f) (ht:∀k∈m.ai,∃q:Pr,right q.pb=true∧k.dD=aR q) (w:vA m g) (hg:g∈es) (hb:m.b.length<1000000) (hr:KW m g r) :
    ∃fs,mD m.c.dO m.c.cZ 272 m.b g.cC=({seq:=r.seq,cK:=r.cK,mono:=r.mono,cg:=r.cg,au:=fs},0)∧fs.Perm r.au:=by
  obtain⟨E,C,F,G⟩:=O2 h ht g.who [] [] w.lt
  rw[List.nil_append,List.nil_append]at C
  have L:g.ent.ax.length=g.who.length:=by rw[w.ax,List.length_map]
  have K:=w.len
  refine⟨E,?_,?_⟩
  · exact RJ (all:=g.who.map (jC m.ai)) (n:=ny 0 (g.who.map (jC m.ai))) (afN h w hg hb) Jy ⟨hr.seq.symm,hr.cK.symm,hr.mono.symm,hr.cg.symm⟩ (by rw[w.ax];exact C) rfl w.xor
  have D:=hr.au
  rw[← F]at D
  -- payloads are told apart
  have B:∀(a b:List Pr),(∀q∈a,right q.pb=true)→(∀q∈b,right q.pb=true)→(a.map aR).Perm (b.map aR)→a.Perm b:=by
    intro a b H hb A
    have e:∀(c:List Pr),(∀q∈c,right q.pb=true)→c=(c.map aR).map fun t=>(lN t).1:=fun c I=>by
      rw[List.map_map]
      have:c.map ((fun t=>(lN t).1) ∘ aR)=c.map id:=List.map_congr_left fun q J=>by simp[Function.comp,OQ (I q J)]
      rw[this,List.map_id]
    rw[e a H,e b hb]
    exact A.map _
  exact B E r.au G hr.right D
end Go.Wk
namespace Go.Wk
open Go Go.RowKit
structure uY (m:Mk) (B:Ly) (H:cA) (l:List Ob) (es:List gP):Prop where
  len:B.length=m.b.length
  read:jJ B=(H,0)
  opn:iE B=(some {b:=B,h:=H},0)
  n:∀i,i<20→i≠1→H.n.getD i 0=m.dG i
  key:H.bY=if m.c.dO then 4 else 0
  cZ:H.cZ=m.c.cZ
  img:mU {m with b:=B} l es (es.map gP.cC) (places es)
theorem mU.bytes {m:Mk} {l:List Ob} {es:List gP} {f:Nat→List Nat} {mp:List Nat} {B:Ly} (h:mU m l es mp f) (hl:B.length=m.b.length) (hB:Eff (fun a=>a+8≤272) m.b B) (hw:fJ B 176=m.main.getD 0 0):mU {m with b:=B} l es mp f:=by
  have C:=h.iB.gy
  have H:∀a,a+8≤272→sB l a:=fun a A=>GB C A
  have hO':gu B 272 l B.length:=by
    rw[hl];exact C.mV hB (Nat.le_refl _) fun o L a A=>by have:=(C.mem L).ge;omega
  have D:∀o∈l,o∈l:=fun _ h=>h
  refine⟨h.iB.keep hO' ⟨[],by simp,by simp⟩ hB H q q ⟨q,q⟩ (mO.refl _),?_,fun i k E=>?_,⟨h.own.main,h.own.one⟩,fun g I=>(h.ent g I).mV C hB H D,h.kin⟩
  · refine⟨hw,h.main.ob,fun k a A=>?_,fun k a j A K=>?_,h.main.ES,h.main.lo,h.main.hi⟩
    · have:=h.main.le C A
      rw[hB.fJ Jy fun x F=>by omega];exact h.main.next k a A
    have:=h.main.le C A
    rw[hB.fJ Jy fun x F=>by omega];exact h.main.gL k a j A K
  have G:=h.iB.data k (List.mem_of_getElem? E)
  have J:272≤k.cC:=(C.mem G.ob).ge
  exact(h.dat i k E).mV G C hB D (fun a A=>by omega) fun j x F a A=>by
    have:=(h.dat i k E).chain.le C F;omega
structure ZW (B:Ly) (h:cr):Prop where
  sign:B.take 8=uT
  bY:at4 B 12=h.bY
  state:(B.getD 16 0).toNat=h.state
  cZ:(B.drop 24).take 16=h.cZ
  n:∀i,i<20→fJ B (88+8*i)=h.n.getD i 0
theorem LC {x y:Ly} {p:Nat} (h:x.length≤p):at4 (x ++ y) p=at4 y (p-x.length):=by
  show BP (seg (x ++ y) p 4)=BP (seg y (p-x.length) 4)
  rw[iN h]
theorem adv {v:Nat} (r:Ly) (h:v<4294967296):at4 (low v 4 ++ r) 0=v:=by
  show BP (seg (low v 4 ++ r) 0 4)=v
  rw[mE _ _ (by rw[iw]),JM]
  exact Nat.mod_eq_of_lt h
theorem sJ {x y:Ly} {p k:Nat} (hk:x.length=k) (h:k≤p):fJ (x ++ y) p=fJ y (p-k):=by rw[iH Jy,hk]
theorem PZ (h:cr) (depth:Nat) (r:Ly) (ok:cr.ok h) (hs:h.state<256):ZW (vO h depth ++ r) h:=by
  obtain⟨L,F,M,C,G,H,I,⟨N,J⟩,_⟩:=ok
  have e:vO h depth ++ r=[76,80,75,83,72,72,82,72] ++ (low h.eW 4 ++ (low h.bY 4 ++ ([UInt8.ofNat h.state,0,0,0,0,0,0,0] ++ (h.cZ ++ (h.dP ++ (h.cg ++ (h.seq ++ (nums h.n ++ (nums [depth] ++ (low h.cT 4 ++ (low h.cW 4 ++ (nums [h.dx] ++ r)))))))))))):=by
    unfold vO;simp only[List.append_assoc]
  rw[e]
  refine⟨q,?_,?_,?_,fun i K=>?_⟩
  · rw[LC Oq,LC (by simp[iw])]
    simp only[iw,List.length_cons,List.length_nil]
    exact adv _ F
  · have A:∀y:List UInt8,([76,80,75,83,72,72,82,72] ++ (low h.eW 4 ++ (low h.bY 4 ++ y))).getD 16 0=y.getD 0 0:=fun y=>by
      have D:(low h.eW 4).length=4:=iw _ _
      have E:(low h.bY 4).length=4:=iw _ _
      simp only[List.getD_eq_getElem?_getD]
      rw[List.getElem?_append_right Oq,List.getElem?_append_right Zy,List.getElem?_append_right Zy,D,E]
      rfl
    rw[A]
    show(UInt8.ofNat h.state).toNat=_
    rw[UInt8.toNat_ofNat',Nat.mod_eq_of_lt Jy]
  · show seg _ 24 16=_
    rw[iN Oq,iN (by simp[iw]),iN (by simp[iw]),iN (by simp[iw])]
    simp only[iw,List.length_cons,List.length_nil]
    exact mE _ _ C.symm
  rw[sJ (k:=8) q Jy,sJ (k:=4) (iw _ _) Jy,sJ (k:=4) (iw _ _) Jy,sJ (k:=8) q Jy,sJ (k:=16) C Jy,sJ (k:=16) G Jy,sJ (k:=16) H Jy,sJ (k:=16) I Jy,show 88+8*i-8-4-4-8-16-16-16-16=8*i by omega]
  have hi':i<h.n.length:=by omega
  have B:h.n[i]? = some (h.n.getD i 0):=by simp[List.getD,List.getElem?_eq_getElem hi']
  exact mr B (J _ (List.mem_of_getElem? B))
theorem UY {b:Ly} {i:Nat} (h:i<21):(gB b).n.getD i 0=fJ b (88+8*i):=by
  show(((List.range 21).map fun q=>if q<21 then fJ b (88+8*q)else 0)).getD i 0=_
  rw[List.getD_eq_getElem?_getD,List.getElem?_map,List.getElem?_range h]
  simp[h]
theorem M0 {m:Mk} {l:List Ob} {es:List gP} {rs:List Rec} {st:Nat} (h:zT m l es rs) (hok:cr.ok m.h) (hst:st≤2):ZW (mY m st) {m.h with state:=st,n:=m.h.n.set 1 (m.b.length-272)}∧(mY m st).length=m.b.length∧Eff (fun a=>a+8≤272) m.b (mY m st):=by
  have G:=h.img.c.iB.gy
  have J:=h.ok.small
  have D:=G.le
  have ok':cr.ok {m.h with state:=st,n:=m.h.n.set 1 (m.b.length-272)}:=⟨hok.1,hok.2.1,(by show st<_;omega),hok.2.2.2.1,hok.2.2.2.2.1,hok.2.2.2.2.2.1,hok.2.2.2.2.2.2.1,oh hok.2.2.2.2.2.2.2.1 Jy,hok.2.2.2.2.2.2.2.2⟩
  have F:=xK {m.h with state:=st,n:=m.h.n.set 1 (m.b.length-272)} m.depth ok'
  have E:=PZ {m.h with state:=st,n:=m.h.n.set 1 (m.b.length-272)} m.depth (m.b.drop 272) ok' (by show st<_;omega)
  have C:mY m st=vO {m.h with state:=st,n:=m.h.n.set 1 (m.b.length-272)} m.depth ++ m.b.drop 272:=rfl
  rw[← C]at E
  have A:(mY m st).length=m.b.length:=by rw[C,List.length_append,F,List.length_drop];omega
  have B:Eff (fun a=>a+8≤272) m.b (mY m st):=by
    refine⟨by rw[A];exact Nat.le_refl _,fun q n K I=>?_⟩
    by_cases hn:n=0
    · subst hn;simp[seg]
    · have H:272≤q:=by
        by_cases h1:272≤q
        · exact h1
        · exfalso
          have:=I (min q 264) Jy
          omega
      rw[C,iN Jy,F]
      unfold seg
      rw[List.drop_drop,show 272+(q-272)=q by omega]
  exact⟨E,A,B⟩
theorem YF {m:Mk} {l:List Ob} {es:List gP} {rs:List Rec} {st:Nat} {B:Ly} (h:zT m l es rs) (hst:st≤2) (hb:ZW B {m.h with state:=st,n:=m.h.n.set 1 (m.b.length-272)}) (hlen:B.length=m.b.length) (hEff:Eff (fun a=>a+8≤272) m.b B):uY m B (gB B) l es:=by
  have L:=h.img.c.iB.gy
  have S:=h.ok.small
  have O:=L.le
  have A:∀i,i<20→i≠1→(gB (B)).n.getD i 0=m.dG i:=fun i R Q=>by
    rw[UY Jy,hb.n i R]
    show(m.h.n.set 1 _).getD i 0=_
    rw[cu Jy];rfl
  have J:(gB (B)).n.getD 1 0=m.b.length-272:=by
    rw[UY Jy,hb.n 1 Jy]
    show(m.h.n.set 1 _).getD 1 0=_
    exact pq (by have:=h.h20;omega)
  have H:=h.hd.hk
  unfold hk at H
  simp only[Prod.mk.injEq]at H
  obtain⟨_,T,_,U⟩:=H
  have F:(gB (B)).bY=if m.c.dO then 4 else 0:=hb.bY.trans T
  have G:(gB (B)).cZ=m.c.cZ:=hb.cZ.trans U
  have D:(gB (B)).state=st:=hb.state
  have Y:=(L.mem h.img.c.iB.acT).le
  have Z:=(L.mem h.img.c.iB.acU).le
  have o:=fR (16+16*m.c.aU)
  have u5:=fR (16+16*m.c.aS)
  simp only at Y Z
  have sl:=h.img.c.iB.slots
  have N:(gB (B)).n.getD 0 0=272:=(A 0 Kq Kq).trans h.hd.n0
  have V:(gB (B)).n.getD 2 0=288:=(A 2 Kq Kq).trans h.img.c.iB.n2
  have n3:(gB (B)).n.getD 3 0=16*m.c.aU:=(A 3 Kq Kq).trans h.hd.n3
  have W:(gB (B)).n.getD 4 0=304+16*m.c.aU:=(A 4 Kq Kq).trans h.img.c.iB.n4
  have X:(gB (B)).n.getD 5 0=16*m.c.aS:=(A 5 Kq Kq).trans h.hd.n5
  have E:uE (gB (B))=(m.b.length,true):=by
    unfold uE
    rw[N,J,Nat.mod_eq_of_lt Jy,if_neg Jy,show 272+(m.b.length-272)=m.b.length by omega]
  have M:oE (gB (B)) (B).length=0:=by
    unfold oE
    rw[E,F,D,N,J,V,n3,W,X,hlen]
    have I:¬andNot (if m.c.dO=true then 4 else 0) 4≠0:=by cases m.c.dO <;> decide
    rw[if_neg I,if_neg Jy,if_neg Jy,if_neg Oq]
    have P:∀(p s e:Nat),p%8=0→s≠0→s%16=0→288≤p→p+s≤e→kU (gB (B)) p s e=0:=fun p s e Q d f g k=>by
      unfold kU
      rw[N,if_neg Jy,if_neg Jy,if_neg Jy]
    simp only
    rw[P 288 _ _ Jy Jy Jy Jy Jy,if_neg Oq]
    exact P _ _ _ Jy Jy Jy Jy Jy
  have C:jJ (B)=(gB (B),0):=by
    unfold jJ
    have K:ri (B) uT=true:=by
      unfold ri
      rw[if_pos (by show 8≤_;omega)]
      exact decide_eq_true hb.sign
    rw[if_neg Jy,if_neg (by rw[K];simp),M,if_neg Oq]
  refine⟨hlen,C,?_,A,F,G,h.img.c.bytes hlen hEff ?_⟩
  · unfold iE
    rw[C]
    simp only
    rw[if_neg Oq,E]
    simp only
    rw[← hlen,List.take_length]
  have:=hb.n 11 Kq
  rw[show 88+8*11=176 by rfl]at this
  rw[this]
  exact(cu (l:=m.h.n) (i:=1) (j:=11) (v:=m.b.length-272) Kq).trans h.img.n11
theorem opened {m:Mk} {l:List Ob} {es:List gP} {rs:List Rec} {st:Nat} (h:zT m l es rs) (hok:cr.ok m.h) (hst:st≤2):uY m (mY m st) (gB (mY m st)) l es:=by
  obtain⟨A,B,C⟩:=M0 h hok hst
  exact YF h hst A B C
end Go.Wk
namespace Go.Wk
open Go Go.RowKit
theorem ad9 {s p:Nat} {b:Ly}:jS s b 0 p=([],0):=by unfold jS;rw[AR Oq]
def wW (a b:Rec):Bool:=decide (a.seq=b.seq) && (decide (a.cK=b.cK) && (decide (a.mono=b.mono) && (decide (a.cg=b.cg) && (allIn b.au a.au && allIn a.au b.au))))
theorem KY {a b:List Pr} (h:∀q,q∈a→q∈b):allIn b a=true:=by
  induction a with
  | nil=>rfl
  | cons p r ih =>
    rw[allIn,if_pos (aaU.2 (h p Oq))]
    exact ih fun q A=>h q (by simp[A])
theorem S6 {a b:Rec} (h1:a.seq=b.seq) (h2:a.cK=b.cK) (h3:a.mono=b.mono) (h4:a.cg=b.cg) (h5:∀q,q∈a.au↔q∈b.au):wW a b=true:=by
  unfold wW
  rw[KY fun q A=>(h5 q).1 A,KY fun q A=>(h5 q).2 A]
  simp[h1,h2,h3,h4]
theorem abk {H:cA} {k:Bool} (h:H.bY=if k then 4 else 0):decide (H.bY &&& 4≠0)=k:=by rw[h];cases k<;>decide
section
variable {m:Mk} {B:Ly} {H:cA} {l:List Ob} {es:List gP} {rs:List Rec}
theorem VA:∀{l:List Ob} {p e:Nat},gu B p l e→(l.map Ob.cC).Pairwise (· < ·)
  | [],_,_,_=>List.Pairwise.nil
  | o :: r,p,e,h=>by
    obtain⟨h1,h2,h3,h4,h5,h6,h7⟩:=h
    have hu:=fR o.size
    rw[List.map_cons]
    refine List.pairwise_cons.2 ⟨fun x hx=>?_,VA h7⟩
    obtain⟨y,hy,rfl⟩:=List.mem_map.1 hx
    have:=(h7.mem hy).ge
    omega
theorem aaC {mp:List Nat} {f:Nat→List Nat} (h:mU m l es mp f):vB m.b (es.map gP.cC):=by
  have A:=h.iB.gy
  refine⟨fun x F=>?_,?_⟩
  · obtain⟨g,E,rfl⟩:=List.mem_map.1 F
    have B:=A.mem (h.ent g E).ob
    have C:=B.ge
    have D:=B.le
    have:=fR (64+16*g.ent.ax.length)
    simp only at C D
    omega
  rw[← h.kin]
  exact((VA A).sublist (List.filter_sublist.map _))
theorem aaB (im:zT m l es rs) (op:uY m B H l es):jS (H.n.getD 0 0) B (H.n.getD 8 0) (H.n.getD 11 0)=(es.map gP.cC,0):=by
  have E:H.n.getD 0 0=272:=(op.n 0 Kq Kq).trans im.hd.n0
  have F:H.n.getD 8 0=es.length:=(op.n 8 Kq Kq).trans im.img.n8
  have A:H.n.getD 11 0=m.main.getD 0 0:=(op.n 11 Kq Kq).trans im.img.n11
  rw[E,F,A]
  obtain⟨c,D,C⟩:=PN (cH:=es.length) op.img.main op.img.iB.gy (aaC op.img)
  rw[List.length_map,Nat.min_self,List.take_of_length_le (by rw[List.length_map];exact Nat.le_refl _)]at D
  rw[D]
  rcases C with⟨rfl,_⟩|⟨_,C⟩
  · rfl
  rw[List.length_map]at C;omega
theorem vA.bytes {m':Mk} {g:gP} (h:vA m g) (hd:m'.ai=m.ai) (hc:m'.c=m.c):vA m' g:=h.ext (by rw[hd];exact pW.refl _) hc
theorem VJ (im:zT m l es rs) (op:uY m B H l es) {i:Nat} {x:Nat} {r:Rec} (hx:(es.map gP.cC)[i]? = some x) (hr:rs[i]? = some r) :
    ∃y,mD (decide (H.bY &&& 4≠0)) H.cZ (H.n.getD 0 0) B x=(y,0)∧wW y r=true∧y.seq=r.seq∧y.cK=r.cK∧y.mono=r.mono∧y.cg=r.cg∧y.au.Perm r.au:=by
  have D:H.n.getD 0 0=272:=(op.n 0 Kq Kq).trans im.hd.n0
  rw[List.getElem?_map]at hx
  cases hg:es[i]? with
  | none=>rw[hg]at hx;cases hx
  | some g =>
    rw[hg]at hx
    simp only[Option.map_some,Option.some.injEq]at hx
    subst hx
    have A:=List.mem_of_getElem? hg
    have w:vA {m with b:=B} g:=(im.img.who g A).bytes rfl rfl
    have F:KW {m with b:=B} g r:=(im.rcd i g r hg hr).ext (m':={m with b:=B}) (im.img.who g A) (pW.refl _)
    obtain⟨G,E,C⟩:=ag2 op.img im.img.txt w A (by have:=im.ok.small;have:=op.len;show B.length<_;omega) F
    rw[abk op.key,op.cZ,D]
    exact⟨_,E,S6 rfl rfl rfl rfl fun q=>C.mem_iff,rfl,rfl,rfl,rfl,C⟩
def n3 (l:List Ob):Nat:=(l.filter fun o=>decide (o.kind=3)).length
end
end Go.Wk
namespace Go.Wk
open Go Go.RowKit
def qC (v:fp) (p:Nat):Rec × Nat:=mD (decide (v.h.bY &&& 4≠0)) v.h.cZ (v.h.n.getD 0 0) v.b p
def lU (v:fp):List Nat→Nat→Nat→List Nat→List Nat
  | [],_,_,o=>o
  | p :: r,i,last,o=>if(qC v p).2=0∧last<(qC v p).1.seq then lU v r (i+1) (qC v p).1.seq (o ++ [i])else lU v r (i+1) last o
def oe (v:fp) (at_:List Nat) (i:Nat):Rec × Nat:=if i<at_.length then qC v (at_.getD i 0)else(tE,2)
section
variable {v:fp} {at_ g o:List Nat} {i p last c:Nat} {r:Rec}
theorem xG (h:¬i<at_.length):lU v (at_.drop i) i last o=o:=by rw[iY Jy];rfl
theorem xH (h:at_[i]? = some p) (hr:qC v p=(r,c)) (hc:c=0) (hl:last<r.seq):lU v (at_.drop i) i last o=lU v (at_.drop (i+1)) (i+1) r.seq (o ++ [i]):=by
  subst hc;rw[gC h,lU,hr,if_pos ⟨q,hl⟩]
theorem BA (h:at_[i]? = some p) (hr:qC v p=(r,c)) (hc:¬(c=0∧last<r.seq)):lU v (at_.drop i) i last o=lU v (at_.drop (i+1)) (i+1) last o:=by
  rw[gC h,lU,hr,if_neg hc]
theorem JK (h:at_[i]? = some p):oe v at_ i=qC v p:=by
  have A:=(List.getElem?_eq_some_iff.1 h).1
  unfold oe;rw[if_pos A,List.getD_eq_getElem?_getD,h];rfl
def atF (at_:List Nat) (i:Nat):Nat × Nat:=if i<at_.length then(at_.getD i 0,0)else(0,2)
theorem agR (h:at_[i]? = some p):atF at_ i=(p,0):=by
  have A:=(List.getElem?_eq_some_iff.1 h).1
  unfold atF;rw[if_pos A,List.getD_eq_getElem?_getD,h];rfl
theorem afD (h:¬i<at_.length):atF at_ i=(0,2):=by unfold atF;rw[if_neg h]
theorem abj {x:Rec × Nat} (h:atF at_ i=(p,c)) (hc:c=0) (hr:qC v p=x):oe v at_ i=x:=by
  unfold atF at h
  unfold oe
  split at h
  · rename_i hi;cases h;rw[if_pos hi];exact hr
  cases h;cases hc
theorem XH (h:atF at_ i=(p,c)) (hc:c≠0):oe v at_ i=(tE,c):=by
  unfold atF at h
  unfold oe
  split at h
  · cases h;exact absurd q hc
  rename_i hi;cases h;rw[if_neg hi]
structure P5 (v:fp) (at_:List Nat) (g:List Nat) (last:Nat):Prop where
  ok:∀i∈g,i<at_.length∧(oe v at_ i).2=0∧0<(oe v at_ i).1.seq∧(oe v at_ i).1.seq≤last
  ES:g.Pairwise fun a b=>(oe v at_ a).1.seq<(oe v at_ b).1.seq
theorem RL:P5 v at_ [] 0:=⟨by simp,List.Pairwise.nil⟩
theorem sM:∀(n i last:Nat) (o:List Nat),i+n=at_.length→P5 v at_ o last→o.length≤i→∃last',P5 v at_ (lU v (at_.drop i) i last o) last'∧(lU v (at_.drop i) i last o).length≤at_.length
  | 0,i,last,o,h,hr,hl=>⟨last,by rw[xG Jy];exact⟨hr,by omega⟩⟩
  | n+1,i,last,o,h,hr,hl=>by
    obtain⟨p,hp⟩:∃p,at_[i]? = some p:=⟨_,List.getElem?_eq_getElem Jy⟩
    rcases hv:qC v p with⟨r,c⟩
    by_cases hc:c=0∧last<r.seq
    · rw[xH hp hv hc.1 hc.2]
      have hj:oe v at_ i=(r,c):=(JK hp).trans hv
      refine sM n (i+1) r.seq (o ++ [i]) Jy ⟨fun j hm=>?_,?_⟩ Zy
      · rcases List.mem_append.1 hm with hm|hm
        · obtain⟨h1,h2,h3,h4⟩:=hr.ok j hm
          exact⟨h1,h2,h3,by omega⟩
        · simp at hm;subst hm;rw[hj];exact⟨by omega,hc.1,by simp only;omega,Nat.le_refl _⟩
      · refine List.pairwise_append.2 ⟨hr.ES,by simp,fun a ha b hb=>?_⟩
        simp at hb;subst hb
        have:=(hr.ok a ha).2.2.2
        rw[hj];simp only;omega
    · rw[BA hp hv hc]
      exact sM n (i+1) last o Jy hr Jy
theorem HA {k:Bool} {f:Ly} {s:Nat} {b:Ly}:∀(l:List jO) (fs:List Pr) (all:List (List UInt8)) {x:List Pr × List (List UInt8)},jd k f s b l fs all=(x,0)→x.1.length=fs.length+l.length
  | [],fs,all,x,h=>by
    have:=congrArg (fun y=>y.1.1.length) h
    simp[jd]at this ⊢;omega
  | y :: l,fs,all,x,h=>by
    unfold jd at h
    split at h
    · rename_i h1;exact absurd (congrArg Prod.snd h) h1
    · split at h
      · have:=congrArg Prod.snd h;simp at this
      · split at h
        · rename_i h1;exact absurd (congrArg Prod.snd h) h1
        · have:=HA l _ _ h;simp at this ⊢;omega
theorem WM {s p:Nat} {b:Ly} {e:eB} (h:iJ s b p=(e,0)):1≤e.ax.length:=by
  unfold iJ at h
  split at h
  · have:=congrArg Prod.snd h;simp at this
  unfold ij at h
  split at h
  · rename_i h1;exact absurd (congrArg Prod.snd h) h1
  rename_i h1
  have A:kN b p 3 48 16=((kN b p 3 48 16).1,0):=by rw[← Classical.not_not.1 h1]
  generalize (kN b p 3 48 16).1=x at *
  have C:64≤x.length:=by
    unfold kN at A
    split at A
    · rename_i h2;exact absurd (congrArg Prod.snd A) h2
    · split at A
      · have:=congrArg Prod.snd A;simp at this
      · split at A
        · have:=congrArg Prod.snd A;simp at this
        · rename_i h2 h3 h4
          have B:=lC (f:=(d8 b p).1) (c:=(d8 b p).2) q (fun h=>h2 h)
          have:=congrArg (fun y=>y.1.length) A
          simp only[List.length_drop,List.length_take]at this
          omega
  unfold vh at h
  split at h
  · have:=congrArg Prod.snd h;simp at this
  split at h
  · have:=congrArg Prod.snd h;simp at this
  have:=congrArg (fun y=>y.1.ax.length) h
  simp only[vG,j4,List.length_map,List.length_range]at this
  omega
theorem ae5 {k:Bool} {f:Ly} {s:Nat} {b:Ly} {p:Nat} {r:Rec} (h:mD k f s b p=(r,0)):1≤r.au.length∧r.au.length≤16:=by
  unfold mD at h
  split at h
  · rename_i h1;exact absurd (congrArg Prod.snd h) h1
  rename_i h1
  have B:iJ s b p=((iJ s b p).1,0):=by rw[← Classical.not_not.1 h1]
  have C:=WM B
  split at h
  · have:=congrArg Prod.snd h;simp at this
  rename_i h2
  split at h
  · rename_i h3;exact absurd (congrArg Prod.snd h) h3
  rename_i h3
  have A:=HA (iJ s b p).1.ax [] [] (x:=(jd k f s b (iJ s b p).1.ax [] []).1) (by rw[← Classical.not_not.1 h3])
  split at h
  · have:=congrArg (fun y=>y.1.au.length) h
    simp only at this A
    rw[A]at this
    simp at this
    omega
  have:=congrArg Prod.snd h;simp at this
end
section
variable {m:Mk} {B:Ly} {H:cA} {l:List Ob} {es:List gP} {rs:List Rec}
theorem LW (im:zT m l es rs) (op:uY m B H l es):∀(n i last:Nat),i+n=es.length→(∀r,rs[i]? = some r→last<r.seq)→lU {b:=B,h:=H} ((es.map gP.cC).drop i) i last (List.range i)=List.range es.length
  | 0,i,last,h,_=>by rw[xG (by rw[List.length_map];omega),show i=es.length by omega]
  | n+1,i,last,h,hl=>by
    have ln:=im.len
    obtain⟨p,hp⟩:∃p,(es.map gP.cC)[i]? = some p:=⟨_,List.getElem?_eq_getElem (by rw[List.length_map];omega)⟩
    obtain⟨r,hr⟩:∃r,rs[i]? = some r:=⟨_,List.getElem?_eq_getElem Jy⟩
    obtain⟨y,y1,_,y3,_⟩:=VJ im op hp hr
    have hv:qC {b:=B,h:=H} p=(y,0):=y1
    rw[xH hp hv q (by rw[y3];exact hl r hr),← List.range_succ]
    refine LW im op n (i+1) y.seq Jy fun r' hr'=>?_
    have h1:=(List.getElem?_eq_some_iff.1 hr)
    have h2:=(List.getElem?_eq_some_iff.1 hr')
    have:=List.pairwise_iff_getElem.1 im.rise i (i+1) h1.1 h2.1 Jy
    rw[h1.2,h2.2]at this
    rw[y3];exact this
theorem WX (im:zT m l es rs) (op:uY m B H l es):lU {b:=B,h:=H} (es.map gP.cC) 0 0 []=List.range es.length :=
  LW im op es.length 0 0 Jy fun r hr=>(im.top r (List.mem_of_getElem? hr)).1
end
theorem aaQ (v:fp) (at_:List Nat):(lU v at_ 0 0 []).length≤at_.length:=by
  obtain⟨last,_,A⟩:=sM at_.length 0 0 [] Jy (RL (v:=v) (at_:=at_)) (Nat.le_refl _)
  rwa [List.drop_zero]at A
theorem acC {b:Ly} {out:List Nat} {x:Nat} (h:sG b out) (h0:¬(x=0∨b.length≤x)) (hi:mQ out x=0):sG b (out ++ [x]):=by
  have A:qP (out ++ [x])=x:=by unfold qP;simp
  unfold sG
  rw[A,List.length_append,List.length_singleton]
  have B:=h.1
  unfold mQ at hi
  by_cases he:out=[]
  · subst he;simp;omega
  by_cases hx:x≤qP out
  · rw[if_pos ⟨he,hx⟩]at hi;cases hi
  omega
theorem xw {b:Ly} {cH:Nat}:∀(ax out:List Nat),sG b out→sG b (jf b cH ax out).1
  | [],out,h=>h
  | x :: r,out,h=>by
    unfold jf
    split
    · exact h
    · split
      · exact h
      · rename_i h0
        split
        · exact h
        · rename_i hi
          exact xw r _ (acC h h0 (Classical.not_not.1 hi))
theorem FH {s cH:Nat} {b:Ly}:∀(k p a:Nat) (out:List Nat),b.length-a≤k→sG b out→sG b (me s b cH p a out).1
  | k,p,a,out,hk,h=>by
    rw[me]
    split
    · exact h
    · split
      · exact h
      · split
        · exact h
        · split
          · exact h
          · split
            · exact xw _ _ h
            · match k with
              | 0=>omega
              | k+1=>exact FH k _ p _ Jy (xw _ _ h)
theorem adA {s cH p c:Nat} {b:Ly} {a:List Nat} (h:jS s b cH p=(a,c)):a.length≤b.length:=by
  have:=DT (FH (s:=s) (cH:=cH) b.length p 0 [] Jy (DU b))
  have e:me s b cH p 0 []=(a,c):=h
  rw[e]at this;exact this
theorem Kn:∃y,iE (nT [] 0)=(some y,0)∧y.h.n.getD 8 0=0:=by
  rcases h:iE (nT [] 0)with⟨x,c⟩
  obtain⟨rfl,y,rfl,A⟩:=NJ h
  exact⟨y,q,A⟩
end Go.Wk
namespace Go.Wk
open Go Go.RowKit
theorem adN {x:Ly} {i:Nat} {c:UInt8} (h:x.length=16):(gH x).set i (b8 c)=gH (x.set i c):=by
  rw[lQ h,lQ (by simpa using h),List.map_set]
theorem take_set {x y:Ly} {k:Nat} {c:UInt8} (hx:x.length=16) (hk:k<16) (h:x.take k=y.take k) (hc:y[k]? = some c):(x.set k c).take (k+1)=y.take (k+1):=by
  rw[List.take_add_one,List.take_add_one,hc,← h]
  congr 1
  · apply List.ext_getElem?
    intro j
    simp only[List.getElem?_take]
    split
    · rw[List.getElem?_set_ne Jy]
    rfl
  simp[hx,hk]
def yV (h:cA):cr:={eW:=h.eW,bY:=h.bY,state:=h.state,cZ:=h.cZ,dP:=h.dP,cg:=h.cg,seq:=h.seq,n:=h.n.take 20,cT:=h.cT,cW:=h.cW,dx:=h.dx}
def su (v:fp):gJ:={h:=yV v.h,depth:=v.h.n.getD 20 0,b:=v.b}
theorem nW {h:cA} {i:Nat} (hi:i<20):(yV h).n.getD i 0=h.n.getD i 0:=by
  simp only[yV,List.getD_eq_getElem?_getD,List.getElem?_take,if_pos hi]
def rn (b:Ly) (j:Nat):List Nat:=(List.range 20).map fun q=>if q<j then fJ b (88+8*q)else 0
theorem VN (b:Ly):rn b 0=List.replicate 20 0:=by
  unfold rn
  simp only[Nat.not_lt_zero,if_false]
  rfl
theorem ae7 {b:Ly} {j:Nat} (hj:j<20):(rn b j).set j (fJ b (88+8*j))=rn b (j+1):=by
  apply List.ext_getElem
  · simp[rn]
  intro q A B
  simp[rn]at A
  by_cases h:q=j
  · subst h;simp[rn]
  rw[List.getElem_set_ne (Ne.symm h)]
  simp only[rn,List.getElem_map,List.getElem_range]
  by_cases h3:q<j
  · rw[if_pos h3,if_pos Jy]
  rw[if_neg h3,if_neg Jy]
theorem ae6 (b:Ly):rn b 20=(gB b).n.take 20:=by
  apply List.ext_getElem?
  intro i
  simp only[rn,gB,jK,List.getElem?_map,List.getElem?_take]
  by_cases h:i<20
  · rw[if_pos h,List.getElem?_range h,List.getElem?_range (show i<21 by omega)]
    simp[h,show i<21 by omega]
  rw[if_neg h,List.getElem?_eq_none (by simpa using h)];rfl
def rawH (b:Ly) (j:Nat):cr :=
  {eW:=at4 b 8,bY:=at4 b 12,state:=lZ b 16,cZ:=(b.drop 24).take 16,dP:=(b.drop 40).take 16,cg:=(b.drop 56).take 16,seq:=(b.drop 72).take 16,n:=rn b j,cT:=0,cW:=0,dx:=0}
def ac6 (b:Ly):cr:={rawH b 20 with cT:=at4 b 256,cW:=at4 b 260,dx:=fJ b 264}
theorem VH (b:Ly):ac6 b=yV (gB b):=by
  unfold ac6 rawH yV
  rw[ae6]
  rfl
theorem YX (b:Ly):(gB b).n.getD 20 0=fJ b 248:=by
  simp[gB,jK,List.getD]
theorem IX {b:Ly} {p v:Nat} {s:Bool} {i:Int} (h:pu b i 4=(v,s)) (hi:i=(p:Int)) (hb:p+4≤b.length):at4 b p=v∧v<4294967296:=by
  subst hi
  have A:=vM (k:=4) (.inl q) hb
  rw[show((4:Nat):Int)=4 from rfl]at A
  rw[A]at h
  have e:at4 b p=v:=congrArg Prod.fst h
  exact⟨e,e ▸ xj b p⟩
theorem KH {h:cr} {j v:Nat} (ok:cr.ok h) (hv:v<18446744073709551616):cr.ok {h with n:=h.n.set j v} :=
  ⟨ok.1,ok.2.1,ok.2.2.1,ok.2.2.2.1,ok.2.2.2.2.1,ok.2.2.2.2.2.1,ok.2.2.2.2.2.2.1,oh ok.2.2.2.2.2.2.2.1 hv,ok.2.2.2.2.2.2.2.2⟩
theorem YW {b:Ly} {j x:Nat} (hj:j<20) (hx:fJ b (88+8*j)=x):{rawH b j with n:=(rawH b j).n.set j x}=rawH b (j+1):=by
  subst hx
  unfold rawH
  simp only[ae7 hj]
def tC (b:Ly):cr:={rawH b 0 with eW:=0,bY:=0}
theorem wT {b:Ly} {k:Nat} (h:lZ b 16=k):tC b={eW:=0,bY:=0,state:=k,cZ:=(b.drop 24).take 16,dP:=(b.drop 40).take 16,cg:=(b.drop 56).take 16,seq:=(b.drop 72).take 16,n:=List.replicate 20 0,cT:=0,cW:=0,dx:=0}:=by
  subst h;unfold tC rawH;rw[VN]
theorem rQ {b:Ly} {o:Nat} (h:o+16≤b.length):((b.drop o).take 16).length=16:=by simp;omega
theorem nV {b:Ly} (h:272≤b.length):cr.ok (tC b):=by
  have:=EV b 16
  refine⟨show(0:Nat)<_ by decide,show(0:Nat)<_ by decide,?_,rQ Jy,rQ Jy,rQ Jy,rQ Jy,?_,show(0:Nat)<_ by decide,show(0:Nat)<_ by decide,show(0:Nat)<_ by decide⟩
  · show lZ b 16<_;omega
  show(rn b 0).length=20∧∀y∈rn b 0,y<18446744073709551616
  rw[VN];exact iQ 20
theorem ag1 {b:Ly} {s1 s2:cr} {x y:Nat} (e1:s1={tC b with eW:=x}) (e2:s2={s1 with bY:=y}) (hx:at4 b 8=x) (hy:at4 b 12=y):s2=rawH b 0:=by
  subst hx;subst hy;subst e1;subst e2;rfl
theorem ae3 {b:Ly} {h s1 s2 s3:cr} {i x y z:Nat} (h0:h=rawH b i) (hi:i=20) (e1:s1={h with cT:=x}) (e2:s2={s1 with cW:=y}) (e3:s3={s2 with dx:=z}) (hx:at4 b 256=x) (hy:at4 b 260=y) (hz:fJ b 264=z):ac6 b=s3:=by
  subst hx;subst hy;subst hz;subst hi;subst e3;subst e2;subst e1;subst h0;rfl
def si (h:cr):Nat × Bool:=if 18446744073709551615-h.n.getD 0 0<h.n.getD 1 0 then(0,false)else(h.n.getD 0 0+h.n.getD 1 0,true)
theorem VE {h:cA} (h0:h.n.getD 0 0<18446744073709551616) (h1:h.n.getD 1 0<18446744073709551616):si (yV h)=uE h:=by
  unfold si uE
  rw[nW Jy,nW Jy]
  by_cases hc:18446744073709551615-h.n.getD 0 0<h.n.getD 1 0
  · rw[if_pos hc,if_pos Jy]
  rw[if_neg hc,if_neg Jy,Nat.mod_eq_of_lt Jy]
def oS (p size o e:Nat):Nat:=if p%8≠0 then 3 else if size=0∨size%16≠0 then 5 else if p<o∨p-o<16∨e<p∨e-p<size then 2 else 0
theorem aey (h:cA) (p size e:Nat):oS p size (h.n.getD 0 0) e=kU h p size e:=rfl
def YO (h:cr) (len:Nat):Nat :=
  if andNot h.bY 4≠0 then 7
  else if 2<h.state then 8
  else if h.n.getD 0 0<272∨h.n.getD 0 0%8≠0∨h.n.getD 1 0%8≠0 then 5
  else if(si h).2=false∨len<(si h).1 then 2
  else if oS (h.n.getD 2 0) (h.n.getD 3 0) (h.n.getD 0 0) (si h).1≠0 then oS (h.n.getD 2 0) (h.n.getD 3 0) (h.n.getD 0 0) (si h).1
  else oS (h.n.getD 4 0) (h.n.getD 5 0) (h.n.getD 0 0) (si h).1
theorem agq {h:cA} (ok:cA.ok h) (len:Nat):YO (yV h) len=oE h len:=by
  have b:=eS ok.2.2.2.2.2.2.2.1
  unfold YO oE
  rw[VE (b 0) (b 1)]
  simp only[nW (h:=h) (show 0<20 by omega),nW (h:=h) (show 1<20 by omega),nW (h:=h) (show 2<20 by omega),nW (h:=h) (show 3<20 by omega),nW (h:=h) (show 4<20 by omega),nW (h:=h) (show 5<20 by omega),aey]
  rfl
theorem rG {h:cr} {len r:Nat} {s:Bool} (he:si h=(r,s)):YO h len=(if andNot h.bY 4≠0 then 7 else if 2<h.state then 8 else if h.n.getD 0 0<272∨h.n.getD 0 0%8≠0∨h.n.getD 1 0%8≠0 then 5
    else if s=false∨len<r then 2 else if oS (h.n.getD 2 0) (h.n.getD 3 0) (h.n.getD 0 0) r≠0 then oS (h.n.getD 2 0) (h.n.getD 3 0) (h.n.getD 0 0) r else oS (h.n.getD 4 0) (h.n.getD 5 0) (h.n.getD 0 0) r):=by
  unfold YO;rw[he]
def oK (b:Ly):cr × Nat × Nat:=(yV (jJ b).1,(jJ b).1.n.getD 20 0,(jJ b).2)
def nO:cr:={eW:=0,bY:=0,state:=0,cZ:=jT,dP:=jT,cg:=jT,seq:=jT,n:=List.replicate 20 0,cT:=0,cW:=0,dx:=0}
theorem NY {b:Ly} (h:b.length<272):oK b=(nO,0,22):=by unfold oK;rw[yR h];rfl
theorem VB {b:Ly} (h:¬b.length<272):ri b uT=decide (b.take 8=uT):=by
  unfold ri
  rw[if_pos (by show 8≤_;omega)];rfl
theorem Rv {b:Ly} (h:¬b.length<272) (h2:b.take 8≠[76,80,75,83,72,72,82,72]):oK b=(nO,0,6):=by
  unfold oK
  rw[DN h (by have e:=VB h;rw[show uT=[76,80,75,83,72,72,82,72]from rfl]at e;rw[e];exact decide_eq_false h2)];rfl
theorem NX {b:Ly} {x:cr} {d e:Nat} (h:¬b.length<272) (h2:b.take 8=[76,80,75,83,72,72,82,72]) (hr:(ac6 b,fJ b 248)=(x,d)) (he:YO x b.length=e):oK b=if e≠0 then(nO,0,e)else(x,d,0):=by
  have A:ri b [76,80,75,83,72,72,82,72]=true:=by have e:=VB h;rw[show uT=[76,80,75,83,72,72,82,72]from rfl]at e;rw[e];exact decide_eq_true h2
  simp only[Prod.mk.injEq]at hr
  have B:oE (gB b) b.length=e:=by rw[← agq (wK Jy),← VH,hr.1];exact he
  by_cases hc:e≠0
  · rw[if_pos hc]
    unfold oK
    rw[mC h A Oq q B hc];rfl
  rw[if_neg hc]
  unfold oK
  rw[Oo h A Oq q Jy,← hr.1,← hr.2,VH,YX]
end Go.Wk
namespace Go.Wk
open Go Go.RowKit
def mh (b:Ly):Option gJ × Nat:=((iE b).1.map su,(iE b).2)
theorem acr {b:Ly} {x:cr} {d e:Nat} (h:oK b=(x,d,e)) (he:e≠0):mh b=(none,e):=by
  simp only[oK,Prod.mk.injEq]at h
  unfold mh iE
  rw[if_pos (by rw[h.2.2];exact he),h.2.2]
  rfl
theorem acs {b:Ly} {x:cr} {d e r:Nat} {s:Bool} (h:oK b=(x,d,e)) (he:¬e≠0) (h2:si x=(r,s)):r≤b.length∧mh b=(some {h:=x,depth:=d,b:=b.take r},0):=by
  simp only[oK,Prod.mk.injEq]at h
  have A:jJ b=((jJ b).1,0):=by rw[← Classical.not_not.1 he,← h.2.2]
  obtain⟨C,D,_⟩:=yq A
  have E:cA.ok (jJ b).1:=by rw[← D];exact wK C
  have b':=eS E.2.2.2.2.2.2.2.1
  have B:uE (jJ b).1=(r,s):=by rw[← VE (b' 0) (b' 1),h.1];exact h2
  refine⟨(O1 A B).1,?_⟩
  unfold mh iE
  rw[if_neg (by rw[A];simp),B]
  simp only[Option.map_some,su,h.1,h.2.1]
def j9 (b:Ly) (p kind:Nat):List UInt8 × Nat :=
  if(d8 b p).2≠0 then([],(d8 b p).2)
  else if(d8 b p).1.kind≠kind then([],4)
  else((b.take (p+(d8 b p).1.size)).drop (p+16),0)
theorem pR {b x:Ly} {p kind c:Nat} (h:j9 b p kind=(x,c)) (hc:¬c≠0):(d8 b p).2=0∧(d8 b p).1.kind=kind∧x=(b.take (p+(d8 b p).1.size)).drop (p+16)∧x.length=(d8 b p).1.size-16∧p+(d8 b p).1.size≤b.length∧16≤(d8 b p).1.size:=by
  unfold j9 at h
  split at h
  · rename_i h1;have:=congrArg Prod.snd h;simp at this;omega
  rename_i h1
  have A:16≤(d8 b p).1.size∧p+(d8 b p).1.size≤b.length∧(d8 b p).1.kind<256∧(d8 b p).1.flags=0:=lC (f:=(d8 b p).1) (c:=(d8 b p).2) q h1
  split at h
  · have:=congrArg Prod.snd h;simp at this;omega
  rename_i h2
  have e:=congrArg Prod.fst h
  simp only at e
  subst e
  refine⟨by omega,by omega,q,?_,A.2.1,A.1⟩
  simp only[List.length_drop,List.length_take]
  omega
theorem aer {b x:Ly} {p c:Nat} (h:j9 b p 1=(x,c)) (hc:c≠0):iL b p=(ve,c):=by
  unfold j9 at h
  unfold iL
  split at h
  · rename_i h1;rw[if_pos h1,show(d8 b p).2=c from congrArg Prod.snd h]
  rename_i h1;rw[if_neg h1]
  split at h
  · rename_i h2;rw[if_pos h2,show 4=c from congrArg Prod.snd h]
  exact absurd (congrArg Prod.snd h).symm hc
theorem agr {b x:Ly} {p c:Nat} (h:j9 b p 1=(x,c)) (hc:¬c≠0) (hx:x.length≤48):iL b p=(ve,5):=by
  obtain⟨A,B,C,D,E,F⟩:=pR h hc
  unfold iL
  rw[if_neg Jy,if_neg Jy,if_pos Jy]
theorem aes {b x:Ly} {p c:Nat} (h:j9 b p 1=(x,c)) (hc:¬c≠0) (hx:¬x.length≤48):iL b p=({dH:=fJ x 0,cP:=fJ x 8,dR:=fJ x 16,entry:=fJ x 24,array:=fJ x 32,ck:=fJ x 40,aR:=x.drop 48},0):=by
  obtain⟨C,D,A,E,B,F⟩:=pR h hc
  have e:∀i,i+8≤48→fJ x i=fJ b (p+16+i):=fun i G=>by rw[A,IZ Jy B]
  unfold iL
  rw[if_neg Jy,if_neg Jy,if_neg Jy,e 0 Jy,e 8 Jy,e 16 Jy,e 24 Jy,e 32 Jy,e 40 Jy]
  refine Prod.ext ?_ q
  simp only[gq.mk.injEq,true_and]
  rw[A]
  apply List.ext_getElem?
  intro j
  simp only[List.getElem?_take,List.getElem?_drop]
  by_cases hj:j<(d8 b p).1.size-64
  · rw[if_pos hj,if_pos Jy];congr 1;omega
  rw[if_neg hj,if_neg Jy]
theorem aeo {b x:Ly} {p c:Nat} (h:j9 b p 6=(x,c)) (hc:c≠0):ig b p=(uD,c):=by
  unfold j9 at h
  unfold ig
  split at h
  · rename_i h1;rw[if_pos h1,show(d8 b p).2=c from congrArg Prod.snd h]
  rename_i h1;rw[if_neg h1]
  split at h
  · rename_i h2;rw[if_pos h2,show 4=c from congrArg Prod.snd h]
  exact absurd (congrArg Prod.snd h).symm hc
theorem aco {b x:Ly} {p c:Nat} (h:j9 b p 6=(x,c)) (hc:¬c≠0) (hx:x.length<16∨x.length%8≠0):ig b p=(uD,5):=by
  obtain⟨A,B,C,D,E,F⟩:=pR h hc
  unfold ig
  rw[if_neg Jy,if_neg Jy,if_pos Jy]
theorem aep {b x:Ly} {p c k:Nat} {o:fq} (h:j9 b p 6=(x,c)) (hc:¬c≠0) (hx:¬x.length<16∧¬x.length%8≠0) (hn:o.next=fJ x 0) (hi:o.ax=gg x 8 ((k-8)/8)) (hk:k=x.length):ig b p=(o,0):=by
  obtain⟨D,E,A,C,B,F⟩:=pR h hc
  subst hk
  unfold ig
  rw[if_neg Jy,if_neg Jy,if_neg Jy]
  refine Prod.ext ?_ q
  obtain⟨H,G⟩:=o
  simp only at hn hi
  simp only[fq.mk.injEq]
  refine⟨?_,?_⟩
  · rw[hn,A,IZ Jy B]
  rw[hi,C,show((d8 b p).1.size-16-8)/8=((d8 b p).1.size-24)/8 by omega,A,wj Jy B]
theorem YP {x:Ly} {l:List Nat} {k v:Nat} (hl:l=gg x 8 ((k-8)/8)) (hk:k%8=0) (h8:8≤k) (hv:fJ x k=v):l ++ [v]=gg x 8 ((k+8-8)/8):=by
  rw[show(k+8-8)/8=(k-8)/8+1 by omega,og,hl,show 8+8*((k-8)/8)=k by omega,hv]
end Go.Wk
namespace Go.Wk
open Go Go.RowKit
section
variable {b x:Ly} {p c:Nat}
theorem yh (h:j9 b p 3=(x,c)):kN b p 3 48 16=if c≠0 then([],c)else if x.length<64∨x.length%16≠0 then([],5)else(x,0):=by
  by_cases hc:c≠0
  · rw[if_pos hc]
    unfold j9 at h
    unfold kN
    split at h
    · rename_i A;rw[if_pos A];cases h;rfl
    rename_i A
    rw[if_neg A]
    split at h
    · rename_i B;rw[if_pos B];cases h;rfl
    cases h;exact absurd q hc
  rw[if_neg hc]
  obtain⟨A,B,C,D,E,F⟩:=pR h hc
  unfold kN
  rw[if_neg Jy,if_neg Jy]
  by_cases hx:x.length<64∨x.length%16≠0
  · rw[if_pos hx,if_pos Jy]
  rw[if_neg hx,if_neg Jy,← C]
theorem aew (h:j9 b p 3=(x,c)) (hc:c≠0):ij b p=(xu,c):=PL (by rw[yh h,if_pos hc]) hc
theorem acp (h:j9 b p 3=(x,c)) (hc:¬c≠0) (hx:x.length<64∨x.length%16≠0):ij b p=(xu,5):=PL (x:=[]) (by rw[yh h,if_neg hc,if_pos hx]) Kq
theorem Ra (h:j9 b p 3=(x,c)) (hc:¬c≠0) (hx:¬x.length<64∧¬x.length%16≠0):ij b p=vh x:=zu (c:=0) (by rw[yh h,if_neg hc,if_neg Jy]) Oq
theorem aev (h:j9 b p 3=(x,c)) (hc:¬c≠0) (hx:¬x.length<64∧¬x.length%16≠0) (h0:fJ x 0=0):ij b p=(xu,13):=by rw[Ra h hc hx,vh,if_pos h0]
theorem FP (x:Ly) (o:Nat) {n j:Nat}:(j4 x o n)[j]? = if j<n then some {cC:=fJ x (o+16*j),dH:=fJ x (o+16*j+8)} else none:=by
  unfold j4
  rw[List.getElem?_map]
  by_cases h:j<n
  · rw[if_pos h,List.getElem?_range h];rfl
  rw[if_neg h,List.getElem?_eq_none (by simpa using h)];rfl
theorem aeu {its:List jO} {n k:Nat} {u v:jO} (h:j9 b p 3=(x,c)) (hc:¬c≠0) (hx:¬x.length<64∧¬x.length%16≠0) (h0:¬fJ x 0=0) (hi:its=j4 x 48 ((k+16-48)/16)) (hk:k<x.length) (h8:k%16=0∧48≤k) (hu:its[n]? = some u) (hv:its[n-1]? = some v) (hn:0<n) (hle:u.cC≤v.cC):ij b p=(xu,11):=by
  rw[Ra h hc hx,vh,if_neg h0,if_pos]
  cases B:oU (vG x).ax with
  | false=>rfl
  | true =>
    have hr':=(pB _).1 B (n-1) v u
    have e:∀j y,its[j]? = some y→(vG x).ax[j]? = some y:=fun j y A=>by
      rw[hi,FP]at A
      split at A
      · rename_i hl
        show(j4 x 48 ((x.length-48)/16))[j]? = _
        rw[FP,if_pos Jy];exact A
      · cases A
    have:=hr' (e _ _ hv) (by rw[show n-1+1=n by omega];exact e _ _ hu)
    omega
theorem aex {o:eB} {k:Nat} (h:j9 b p 3=(x,c)) (hc:¬c≠0) (hx:¬x.length<64∧¬x.length%16≠0) (h0:¬fJ x 0=0) (e1:o.seq=fJ x 0) (e2:o.cK=fJ x 8) (e3:o.mono=fJ x 16) (e4:o.cg=(x.drop 24).take 16) (e5:o.xor=fJ x 40) (hi:o.ax=j4 x 48 ((k-48)/16)) (hk:k=x.length) (hr:oU o.ax=true):ij b p=(o,0):=by
  have A:vG x=o:=by
    obtain⟨B,C,D,E,F,G⟩:=o
    simp only at e1 e2 e3 e4 e5 hi
    subst e1;subst e2;subst e3;subst e4;subst e5;subst hi;subst hk
    rfl
  rw[Ra h hc hx,vh,if_neg h0,A,if_neg (by rw[hr];simp)]
theorem Zt {l:List jO} {y:jO} (h:oU l=true) (hl:∀n u,n+1=l.length→l[n]? = some u→u.cC<y.cC):oU (l ++ [y])=true:=by
  rw[pB]at h ⊢
  intro j u v B A
  rw[List.getElem?_append]at B A
  by_cases h2:j+1<l.length
  · rw[if_pos Jy]at B
    rw[if_pos h2]at A
    exact h j u v B A
  rw[if_neg h2]at A
  have C:j+1-l.length=0:=by
    have:=(List.getElem?_eq_some_iff.1 A).1
    simp at this;omega
  rw[C]at A
  simp at A
  subst A
  rw[if_pos Jy]at B
  exact hl j u Jy B
theorem tj {l:List jO} {k u v:Nat} (hl:l=j4 x 48 ((k-48)/16)) (hk:k%16=0∧48≤k) (hu:fJ x k=u) (hv:fJ x (k+8)=v):l ++ [{cC:=u,dH:=v}]=j4 x 48 ((k+16-48)/16):=by
  rw[show(k+16-48)/16=(k-48)/16+1 by omega,vQ,hl,show 48+16*((k-48)/16)=k by omega,hu,hv]
theorem VK {l m:List jO} {y:jO} (hs:m=l ++ [y]) (h:oU l=true) (hc:l.length=0∨∃a c:jO,m[l.length]? = some a∧m[l.length-1]? = some c∧0<l.length∧¬a.cC≤c.cC):oU m=true:=by
  subst hs
  refine Zt h fun n u F C=>?_
  rcases hc with hc|⟨a,c,A,B,D,E⟩
  · omega
  rw[List.getElem?_append_right (Nat.le_refl _),Nat.sub_self]at A
  simp at A
  subst A
  rw[List.getElem?_append_left Jy,show l.length-1=n by omega,C]at B
  cases B
  omega
theorem WH {e:Ly} {i:Nat} {y:UInt8} (he:e.length=16) (hi:i<16) (ht:e.take i=(x.drop 24).take i) (hy:x[24+i]? = some y):(e.set i y).take (i+1)=(x.drop 24).take (i+1):=by
  rw[List.take_add_one,List.take_add_one,List.getElem?_set_self Jy,List.getElem?_drop,hy,List.take_set_of_le (Nat.le_refl _),ht]
theorem aa7 {e:eB} {v:Value} {i:Nat} {y:UInt8} (he:e.cg.length=16) (hi:i<16):(eB.cells e v).set (3+i) (b8 y)=eB.cells {e with cg:=e.cg.set i y} v:=by
  have A:gH (e.cg.set i y)=(gH e.cg).set i (b8 y):=by rw[lQ he,lQ (by simpa using he),List.map_set]
  unfold eB.cells
  have B:(gH e.cg).length=16:=rfl
  rw[A,List.set_append_right _ _ (by simp<;>omega),List.set_append_right _ _ (by simp<;>omega),List.set_append_right _ _ (by simp<;>omega),List.set_append_left _ _ (by simp only[List.length_singleton,B];omega)]
  simp only[List.length_singleton,show 3+i-1-1-1=i by omega]
end
section
variable {k:Bool} {f b:Ly} {s p c n:Nat} {d:gq}
def ql (k:Bool) (f:Ly) (s:Nat) (b:Ly) (p:Nat):List UInt8 × Nat × Nat:=((iK k f s b p).1.aR,(iK k f s b p).1.dH,(iK k f s b p).2)
theorem ae9 (h:kO s b p=(d,c)) (hc:c≠0):ql k f s b p=([],0,c):=by
  unfold ql iK;rw[h];simp only;rw[if_pos hc];rfl
theorem ag4 (h:kO s b p=(d,c)) (hc:¬c≠0) (hh:ej k f d.aR=n) (e:¬d.dH=n):ql k f s b p=([],0,9):=by
  have A:c=0:=Classical.not_not.1 hc
  subst A;subst hh
  unfold ql iK;rw[h];simp only;rw[if_neg Oq,if_neg e];rfl
theorem acE (h:kO s b p=(d,c)) (hc:¬c≠0) (hh:ej k f d.aR=n) (e:d.dH=n):ql k f s b p=(d.aR,d.dH,0):=by
  have A:c=0:=Classical.not_not.1 hc
  subst A;subst hh
  unfold ql iK;rw[h];simp only;rw[if_neg Oq,if_pos e]
theorem KI {q:Ly} {h:Nat} (e:ql k f s b p=(q,h,c)):(iK k f s b p).1.aR=q∧(iK k f s b p).1.dH=h∧(iK k f s b p).2=c:=by
  unfold ql at e
  simp only[Prod.mk.injEq]at e
  exact e
end
section
variable {k:Bool} {f b:Ly} {s p i c n m:Nat} {l:List jO} {x:jO} {fs:List Pr} {all:List (List UInt8)} {q:Ly} {w:Pr}
theorem cz {α:Type} {x:α × Nat} {a:α} {c:Nat} (h:x=(a,c)) (hc:¬c≠0):x=(a,0):=by rw[h,Classical.not_not.1 hc]
theorem RX (e:ql k f s b p=(q,n,c)) (hc:¬c≠0):∃d:gq,iK k f s b p=(d,0)∧d.aR=q∧d.dH=n:=by
  obtain⟨A,B,C⟩:=KI e
  exact⟨(iK k f s b p).1,Prod.ext rfl (C.trans (Classical.not_not.1 hc)),A,B⟩
theorem ai6 (h:l[i]? = some x) (e:ql k f s b x.cC=(q,n,c)) (hc:¬c≠0) (hn:n≠x.dH):jd k f s b (l.drop i) fs all=(([],[]),9):=by
  obtain⟨d,A,C,B⟩:=RX e hc
  exact VI h A (by rw[B];exact hn)
theorem Zs (h:l[i]? = some x) (e:ql k f s b x.cC=(q,n,c)) (hc:¬c≠0) (hn:¬n≠x.dH) (hs:lN q=(w,m)) (hm:m≠0):jd k f s b (l.drop i) fs all=(([],[]),m):=by
  obtain⟨d,A,B,C⟩:=RX e hc
  subst B
  exact yT h A (by rw[C];exact Classical.not_not.1 hn) hs hm
theorem acB (h:l[i]? = some x) (e:ql k f s b x.cC=(q,n,c)) (hc:¬c≠0) (hn:¬n≠x.dH) (hs:lN q=(w,m)) (hm:¬m≠0):jd k f s b (l.drop i) fs all=jd k f s b (l.drop (i+1)) (fs ++ [w]) (all ++ [q]):=by
  obtain⟨d,A,B,C⟩:=RX e hc
  subst B
  exact DO h A (by rw[C];exact Classical.not_not.1 hn) (cz hs hm)
theorem OB (e:ql k f s b p=(q,n,c)):q.length≤b.length:=by
  rw[← (KI e).1];exact UZ (d:=(iK k f s b p).1) (c:=(iK k f s b p).2) rfl
end
end Go.Wk
namespace Go.Wk
open Go Go.RowKit
theorem ad7 {s cH p a:Nat} {b:Ly} {out:List Nat} (h:out.length<cH) (hn:jV b p=false) (ha:p≤a):me s b cH p a out=(out,12):=by
  have A:=kY hn
  rw[me,if_neg Jy,if_neg Jy,if_pos ha]
theorem afK {s cH p a c:Nat} {b:Ly} {out:List Nat} {x:fq} (h:out.length<cH) (hn:jV b p=false) (ha:¬p≤a) (hx:iO s b p=(x,c)) (hc:c≠0):me s b cH p a out=(out,c):=by
  have A:=kY hn
  rw[me,if_neg Jy,if_neg Jy,if_neg ha,hx,if_pos hc]
theorem aa5 {s cH p a c:Nat} {b:Ly} {out:List Nat} {x:fq} (h:out.length<cH) (hn:jV b p=false) (ha:¬p≤a) (hx:iO s b p=(x,c)) (hc:¬c≠0) :
    me s b cH p a out=if(jf b cH x.ax out).2≠0 then jf b cH x.ax out else me s b cH x.next p (jf b cH x.ax out).1:=by
  have A:=kY hn
  rw[me,if_neg Jy,if_neg Jy,if_neg ha,hx,if_neg hc]
theorem afi {s cH p a c i:Nat} {b:Ly} {out out2:List Nat} {x:fq} {r r1:List Nat × Nat} (h0:me s b cH p a out=r) (h:out.length<cH) (hn:jV b p=false) (ha:¬p≤a) (hx:iO s b p=(x,c)) (hc:¬c≠0)
    (h1o:jf b cH (x.ax.drop 0) out=r1) (h1:jf b cH (x.ax.drop i) out2=r1) (he:jf b cH (x.ax.drop i) out2=(out2,0)):me s b cH x.next p out2=r:=by
  have A:jf b cH x.ax out=(out2,0):=h1o.trans (h1.symm.trans he)
  rw[aa5 h hn ha hx hc,A,if_neg Oq]at h0
  exact h0
theorem TN {s cH p a c i k:Nat} {b:Ly} {out out2 out3:List Nat} {x:fq} {r r1:List Nat × Nat} (h0:me s b cH p a out=r) (h:out.length<cH) (hn:jV b p=false) (ha:¬p≤a) (hx:iO s b p=(x,c)) (hc:¬c≠0)
    (h1o:jf b cH (x.ax.drop 0) out=r1) (h1:jf b cH (x.ax.drop i) out2=r1) (he:jf b cH (x.ax.drop i) out2=(out3,k)) (hk:k≠0):r=(out3,k):=by
  have A:jf b cH x.ax out=(out3,k):=h1o.trans (h1.symm.trans he)
  rw[aa5 h hn ha hx hc,A,if_pos hk]at h0
  exact h0.symm
theorem aa2 {cH i x:Nat} {b:Ly} {ax out:List Nat} (h:ax[i]? = some x) (hm:¬cH≤out.length) (hn:jV b x=false) (hi:mQ out x≠0):jf b cH (ax.drop i) out=(out,13):=by
  have A:=kY hn
  rw[drop_cons h,jf,if_neg hm,if_neg Jy,if_pos hi]
theorem TK {cH i x:Nat} {b:Ly} {ax out:List Nat} (h:ax[i]? = some x) (hm:¬cH≤out.length) (hn:jV b x=false) (hi:mQ out x=0):jf b cH (ax.drop i) out=jf b cH (ax.drop (i+1)) (out ++ [x]):=by
  have A:=kY hn
  rw[drop_cons h,jf,if_neg hm,if_neg Jy,if_neg Jy]
theorem VL {b:Ly} {out:List Nat} {x:Nat} (h:sG b out) (hn:jV b x=false) (hi:mQ out x=0):sG b (out ++ [x]):=by
  have:=HF (l:={out:=out,cur:=0,ahead:=0}) (l':={out:=out ++ [x],cur:=0,ahead:=0}) (x:=x) (c:=0) h (by unfold itF;rw[if_neg (by simpa using hi)]) Oq hn
  exact this.1
end Go.Wk
namespace Go.Wk
open Go Go.RowKit
section
variable {P:Program} {n:Nat} {A:Fr n} {D:List Deferred} {l:List (Nat × Value)} {w:World} {d:Option Tmp} {ty:TypeId} {ps:String} {af:Array Edge} {g:Option (Nat × Bool)}
end
theorem xX {b:Ly} {x:Option fp} {z:Option gJ} {c d:Nat} (h:iE b=(x,c)) (h2:mh b=(z,d)):d=c∧z=x.map su:=by
  unfold mh at h2
  rw[h]at h2
  simp only[Prod.mk.injEq]at h2
  exact⟨h2.2.symm,h2.1.symm⟩
theorem YE {b:Ly} {x:Option fp} {z:Option gJ} {c d:Nat} (h:iE b=(x,c)) (h2:mh b=(z,d)) (hc:c=0):∃y q,x=some y∧z=some q∧q=su y∧y.b.length≤b.length:=by
  subst hc
  obtain⟨y,A,_,B⟩:=xY h
  obtain⟨_,C⟩:=xX h h2
  exact⟨y,su y,A,by rw[C,A];rfl,rfl,B⟩
theorem WQ {y:fp} {q:gJ} {a a2:List Nat} {c c2:Nat} (hq:q=su y) (h:jS (y.h.n.getD 0 0) y.b (y.h.n.getD 8 0) (y.h.n.getD 11 0)=(a,c)) (h2:jS (q.h.n.getD 0 0) q.b (q.h.n.getD 8 0) (q.h.n.getD 11 0)=(a2,c2)):a2=a∧c2=c:=by
  subst hq
  have e:∀i,i<20→(su y).h.n.getD i 0=y.h.n.getD i 0:=fun i B=>nW B
  rw[e 0 Jy,e 8 Jy,e 11 Jy]at h2
  have A:=h2.symm.trans h
  simp only[Prod.mk.injEq]at A
  exact A
theorem abZ {b:Ly} {x:Option fp} {c:Nat} {y:fp} (h:iE b=(x,c)) (e:x=some y):y.b.length≤b.length:=by
  subst e
  unfold iE at h
  split at h
  · cases congrArg Prod.fst h
  have:=Option.some.inj (congrArg Prod.fst h)
  rw[← this];simp;omega
theorem ada {z:Int} (h:(Lit.int .u64 z).wf=true):Value.int .u64 z = .int .u64 z.toNat∧z.toNat<18446744073709551616:=by
  simp[Lit.wf,IntKind.min,IntKind.max,IntKind.signed,IntKind.bits]at h
  exact⟨by rw[Int.toNat_of_nonneg Jy],by omega⟩
end Go.Wk
namespace Go.Wk
open Go Go.RowKit
end Go.Wk
namespace Go.Wk
open Go Go.RowKit
end Go.Wk
namespace Go.Wk
open Go Go.RowKit
theorem S5 {v:fp} {q:gJ} (h:q=su v):q.b=v.b∧q.h.n.getD 0 0=v.h.n.getD 0 0∧q.h.bY=v.h.bY∧q.h.cZ=v.h.cZ:=by
  subst h
  exact⟨rfl,nW Jy,rfl,rfl⟩
end Go.Wk
namespace Go.Wk
open Go Go.RowKit
theorem agp {α:Type} {T:Dt α} {ty:TypeId} {w:World} {Q:Nat→Prop} {v:Value} {x:α} (h:Pt T ty w Q v x):v.oneCell'=true:=by obtain⟨b,c,rfl,_⟩:=h;rfl
def zh (q:gJ) (p:Nat):Rec × Nat:=mD (decide (q.h.bY &&& 4≠0)) q.h.cZ (q.h.n.getD 0 0) q.b p
theorem ae4 {v:fp} {q:gJ} (h:q=su v):zh q=qC v:=by
  obtain⟨A,B,C,D⟩:=S5 h
  funext p;unfold zh qC;rw[A,B,C,D]
def lT (f:Nat→Rec × Nat):List Nat→Nat→Nat→List Nat→List Nat
  | [],_,_,o=>o
  | p :: r,i,last,o=>if(f p).2=0∧last<(f p).1.seq then lT f r (i+1) (f p).1.seq (o ++ [i])else lT f r (i+1) last o
theorem PW (v:fp):∀l i last o,lU v l i last o=lT (qC v) l i last o
  | [],_,_,_=>rfl
  | p :: r,i,last,o=>by
    unfold lU lT
    split<;>exact PW v r _ _ _
theorem xF (f:Nat→Rec × Nat):∀l i last o,(lT f l i last o).length≤o.length+l.length
  | [],_,_,_=>by simp[lT]
  | p :: r,i,last,o=>by
    unfold lT
    split
    · have:=xF f r (i+1) (f p).1.seq (o ++ [i]);simp at this ⊢;omega
    · have:=xF f r (i+1) last o;simp at this ⊢;omega
def vR (f:Nat→Rec × Nat) (at_:List Nat) (k:Int):Rec × Nat:=if 0≤k∧k.toNat<at_.length then f (at_.getD k.toNat 0)else(tE,2)
section
variable {f:Nat→Rec × Nat} {at_ g:List Nat} {i p last c:Nat} {k:Int} {r:Rec} {o:List Nat}
theorem WV (h:¬i<at_.length):lT f (at_.drop i) i last o=o:=by rw[iY Jy];rfl
theorem WW (h:at_[i]? = some p) (hr:f p=(r,c)) (hc:c=0) (hl:last<r.seq):lT f (at_.drop i) i last o=lT f (at_.drop (i+1)) (i+1) r.seq (o ++ [i]):=by
  subst hc;rw[gC h,lT,hr,if_pos ⟨q,hl⟩]
theorem LV (h:at_[i]? = some p) (hr:f p=(r,c)) (hc:¬(c=0∧last<r.seq)):lT f (at_.drop i) i last o=lT f (at_.drop (i+1)) (i+1) last o:=by
  rw[gC h,lT,hr,if_neg hc]
theorem MD (h0:0≤k) (h:at_[k.toNat]? = some p):vR f at_ k=f p:=by
  have A:=(List.getElem?_eq_some_iff.1 h).1
  unfold vR;rw[if_pos ⟨h0,A⟩,List.getD_eq_getElem?_getD,h];rfl
theorem FT (h:¬(0≤k∧k.toNat<at_.length)):vR f at_ k=(tE,2):=by unfold vR;rw[if_neg h]
theorem FR (n:Nat) (v:fp):vR (qC v) at_ ((n:Nat):Int)=oe v at_ n:=by
  unfold vR oe
  simp
def rq (f:Nat→Rec × Nat) (at_:List Nat) (g:List Nat):List Rec:=g.map fun i=>(vR f at_ ((i:Nat):Int)).1
theorem DR {x:Rec} {j:Nat} (h:g[j]? = some i) (hr:vR f at_ ((i:Nat):Int)=(x,c)):rq f at_ (g.take (j+1))=rq f at_ (g.take j) ++ [x]:=by
  unfold rq
  have A:=(List.getElem?_eq_some_iff.1 h).1
  rw[List.take_add_one,h]
  simp[hr]
theorem HC {j:Nat} (h:¬j<g.length):rq f at_ (g.take j)=rq f at_ g:=by rw[List.take_of_length_le Jy]
end
theorem RQ {b:Ly} {x:Option gJ} {c:Nat} (h:mh b=(x,c)) (hc:c≠0):x=none:=by
  rcases ho:iE b with⟨y,d⟩
  obtain⟨A,B⟩:=xX ho h
  subst A B
  unfold iE at ho
  split at ho
  · cases ho;rfl
  cases ho;exact absurd q hc
theorem Z5 {b:Ly} {x:Option gJ} {c:Nat} (h:mh b=(x,c)) (hc:c=0):∃q y,x=some q∧q=su y∧iE b=(some y,0)∧y.b.length≤b.length:=by
  rcases ho:iE b with⟨y,d⟩
  obtain⟨A,F⟩:=xX ho h
  obtain⟨y,q,B,C,D,E⟩:=YE ho h Jy
  exact⟨q,y,C,D,by rw[B,← A,hc],E⟩
end Go.Wk
namespace Go.Wk
open Go Go.RowKit
def EF (l:List Rec) (n:Nat):Nat→Nat→Nat→Nat→Nat × Nat
  | 0,low,_,looked=>(low,looked)
  | k+1,low,high,looked =>
    if low<high then
      if n≤(l.getD ((low+high)/2) tE).seq then EF l n k low ((low+high)/2) (looked+1)else EF l n k ((low+high)/2+1) high (looked+1)
    else(low,looked)
section
variable {l:List Rec} {p:Rec→Bool} {n low high looked k i:Nat} {r:Rec}
theorem JB:∀(k low high looked:Nat),high-low≤k→EF l n k low high looked=EF l n (k+1) low high looked
  | 0,low,high,looked,h=>by unfold EF;rw[if_neg Jy]
  | k+1,low,high,looked,h=>by
    rw[EF]
    conv=>rhs;rw[EF]
    split
    · split
      · exact JB k _ _ _ Jy
      · exact JB k _ _ _ Jy
    · rfl
theorem aar (k m low high looked:Nat) (h:high-low≤k):EF l n (k+m) low high looked=EF l n k low high looked:=by
 induction m with
 | zero=>rfl
 | succ m ih=>rw[← Nat.add_assoc,← JB _ _ _ _ Jy,ih]
def TF (l:List Rec) (n low high looked:Nat):Nat × Nat:=EF l n (high-low) low high looked
theorem afE (h:¬low<high):TF l n low high looked=(low,looked):=by
  unfold TF;rw[show high-low=0 by omega];rfl
theorem agU (h:low<high) (hr:l[(low+high)/2]? = some r) (hn:n≤r.seq):TF l n low high looked=TF l n low ((low+high)/2) (looked+1):=by
  unfold TF
  obtain⟨k,hk⟩:∃k,high-low=k+1:=⟨high-low-1,by omega⟩
  rw[hk,EF,if_pos h,List.getD_eq_getElem?_getD,hr,Option.getD_some,if_pos hn]
  obtain⟨m,A⟩:∃m,k=((low+high)/2-low)+m:=⟨k-((low+high)/2-low),by omega⟩
  rw[A,aar _ _ _ _ _ (Nat.le_refl _)]
theorem agT (h:low<high) (hr:l[(low+high)/2]? = some r) (hn:¬n≤r.seq):TF l n low high looked=TF l n ((low+high)/2+1) high (looked+1):=by
  unfold TF
  obtain⟨k,hk⟩:∃k,high-low=k+1:=⟨high-low-1,by omega⟩
  rw[hk,EF,if_pos h,List.getD_eq_getElem?_getD,hr,Option.getD_some,if_neg hn]
  obtain⟨m,A⟩:∃m,k=(high-((low+high)/2+1))+m:=⟨k-(high-((low+high)/2+1)),by omega⟩
  rw[A,aar _ _ _ _ _ (Nat.le_refl _)]
theorem JC (hs:l.Pairwise fun a b=>a.seq<b.seq):∀(k low high looked:Nat),high-low≤k→low≤high→high≤l.length→(∀q r,q<low→l[q]? = some r→r.seq<n)→(∀q r,high≤q→l[q]? = some r→n≤r.seq) →
    low≤(EF l n k low high looked).1∧(EF l n k low high looked).1≤high∧(∀q r,q<(EF l n k low high looked).1→l[q]? = some r→r.seq<n)∧(∀q r,(EF l n k low high looked).1≤q→l[q]? = some r→n≤r.seq)
  | 0,low,high,looked,h0,h1,h2,h3,h4=>by
    have:low=high:=by omega
    subst this
    exact⟨Nat.le_refl _,Nat.le_refl _,h3,h4⟩
  | k+1,low,high,looked,h0,h1,h2,h3,h4=>by
    rw[EF]
    split
    · rename_i hl
      obtain⟨x,C⟩:∃x,l[(low+high)/2]? = some x:=⟨_,List.getElem?_eq_getElem Jy⟩
      have hx':=List.getElem?_eq_some_iff.1 C
      rw[List.getD_eq_getElem?_getD,C,Option.getD_some]
      split
      · rename_i hn
        obtain⟨F,G,D,E⟩:=JC hs k low ((low+high)/2) (looked+1) Jy Jy Jy h3 (fun q r A B=>by
          rcases Nat.eq_or_lt_of_le A with rfl|A
          · rw[C]at B;cases B;exact hn
          · have hr':=List.getElem?_eq_some_iff.1 B
            have:=List.pairwise_iff_getElem.1 hs ((low+high)/2) q hx'.1 hr'.1 A
            rw[hx'.2,hr'.2]at this;omega)
        exact⟨F,by omega,D,E⟩
      · rename_i hn
        obtain⟨F,G,D,E⟩:=JC hs k ((low+high)/2+1) high (looked+1) Jy Jy Jy (fun q r A B=>by
          rcases Nat.eq_or_lt_of_le (Nat.le_of_lt_succ A)with rfl|A
          · rw[C]at B;cases B;omega
          · have hr':=List.getElem?_eq_some_iff.1 B
            have:=List.pairwise_iff_getElem.1 hs q ((low+high)/2) hr'.1 hx'.1 A
            rw[hx'.2,hr'.2]at this;omega) h4
        exact⟨by omega,G,D,E⟩
    · exact⟨Nat.le_refl _,h1,h3,fun q r A=>h4 q r Jy⟩
theorem AG:∀(k low high looked d:Nat),high-low≤k→low≤high→high-low<2 ^ d→(EF l n k low high looked).2≤looked+d
  | 0,low,high,looked,d,h0,h1,h2=>by unfold EF;exact Nat.le_add_right _ _
  | k+1,low,high,looked,d,h0,h1,h2=>by
    rw[EF]
    split
    · rename_i hl
      cases d with
      | zero=>simp at h2;omega
      | succ d =>
        rw[Nat.pow_succ]at h2
        split
        · have:=AG k low ((low+high)/2) (looked+1) d Jy Jy Jy;omega
        · have:=AG k ((low+high)/2+1) high (looked+1) d Jy Jy Jy;omega
    · exact Nat.le_add_right _ _
end
end Go.Wk
namespace Go.Wk
open Go Go.RowKit
def soF (b:Ly):List Rec :=
  match (iE b).1 with
  | some y=>rq (qC y) (jS (y.h.n.getD 0 0) y.b (y.h.n.getD 8 0) (y.h.n.getD 11 0)).1 (lT (qC y) (jS (y.h.n.getD 0 0) y.b (y.h.n.getD 8 0) (y.h.n.getD 11 0)).1 0 0 [])
  | none=>[]
theorem VS {b:Ly} {y:fp} (h:iE b=(some y,0)):soF b=rq (qC y) (jS (y.h.n.getD 0 0) y.b (y.h.n.getD 8 0) (y.h.n.getD 11 0)).1 (lT (qC y) (jS (y.h.n.getD 0 0) y.b (y.h.n.getD 8 0) (y.h.n.getD 11 0)).1 0 0 []):=by unfold soF;rw[h]
section
variable {p:Rec→Bool} {l:List Rec} {k:Int} {r:Rec} {n:Nat} {z:Int}
theorem ad2:TF [] n 0 ([]:List Rec).length 0=(0,0):=rfl
end
end Go.Wk
namespace Go.Wk
open Go Go.RowKit
section
variable {m:Mk} {B:Ly} {H:cA} {l:List Ob} {es:List gP} {rs:List Rec}
end
end Go.Wk
namespace Go.Wk
open Go Go.RowKit
theorem aeI {m:Mk} {B:Ly} {H:cA} {l:List Ob} {es:List gP} {rs:List Rec} (im:zT m l es rs) (op:uY m B H l es) :
    (soF B).length=rs.length∧∀(i:Nat) (y r:Rec),(soF B)[i]? = some y→rs[i]? = some r→wW y r=true∧y.seq=r.seq∧y.au.length≤16:=by
  have G:=im.len
  have e:soF B=(List.range es.length).map fun i=>(oe {b:=B,h:=H} (es.map gP.cC) i).1:=by
    rw[VS op.opn]
    show rq _ (jS (H.n.getD 0 0) B (H.n.getD 8 0) (H.n.getD 11 0)).1 (lT _ (jS (H.n.getD 0 0) B (H.n.getD 8 0) (H.n.getD 11 0)).1 0 0 [])=_
    rw[aaB im op]
    show rq _ (es.map gP.cC) (lT _ (es.map gP.cC) 0 0 [])=_
    rw[← PW,WX im op]
    exact List.map_congr_left fun i _=>by rw[FR]
  refine⟨by rw[e,List.length_map,List.length_range,G],fun i y r A D=>?_⟩
  have J:=(List.getElem?_eq_some_iff.1 D).1
  obtain⟨p,C⟩:∃p,(es.map gP.cC)[i]? = some p:=⟨_,List.getElem?_eq_getElem (by rw[List.length_map];omega)⟩
  obtain⟨z,E,I,z3,_⟩:=VJ im op C D
  have F:oe {b:=B,h:=H} (es.map gP.cC) i=(z,0):=(JK C).trans E
  rw[e,List.getElem?_map,List.getElem?_range Jy]at A
  simp only[Option.map_some,Option.some.injEq,F]at A
  subst A
  exact⟨I,z3,(ae5 E).2⟩
section
variable {l:List Rec} {k:Int} {r:Rec}
end
end Go.Wk
namespace Go.Wk
open Go Go.RowKit
def pA:Pr:={name:=[65],value:=[49]}
def AJ:nB:={cZ:=jT,dP:=jT,seq:=jT,aU:=3,aS:=1,cH:=32768,dO:=false}
def ac7 (k:Nat):Rec:={seq:=k+1,cK:=1,mono:=1,cg:=jT,au:=[pA]}
def wU (n:Nat):List Rec:=(List.range n).map ac7
def rmA (a:Nat):Nat:=(eM (List.replicate a 0) 0 0 0).2
theorem DV:∀(l l':List Nat) (k a r:Nat),l.length=l'.length→eM l k a r=eM l' k a r
  | [],[],_,_,_,_=>rfl
  | [],_ :: _,_,_,_,h=>by simp at h
  | _ :: _,[],_,_,_,h=>by simp at h
  | _ :: l,_ :: l',k,a,r,h=>by
    rw[eM,eM]
    exact DV l l' _ _ _ (by simpa using h)
theorem ag3 (l:List Nat):(eM l 0 0 0).2=rmA l.length:=by unfold rmA;rw[DV l (List.replicate l.length 0) 0 0 0 Oq]
def arA (n a:Nat):Nat:=if n=rmA a then 1 else 0
def abA (n a:Nat):Nat:=if n=rmA a then 24+8*ez (a:Int)else 0
def stA:Nat→Nat × Nat × Nat
  | 0=>(1,0,624)
  | n+1=>match stA n with
    | (a,d,l)=>(a+arA (n+1) a,d+arA n d,l+80+abA (n+1) a+abA n d)
theorem agA:∀n,n≤99→(stA n).2.2≤32768:=by
  have h:(List.range 100).all (fun n=>decide ((stA n).2.2≤32768))=true:=by decide +kernel
  intro n A
  exact dT (List.all_eq_true.1 h n (List.mem_range.2 Jy))
theorem MP (m:Mk) (bh:List Nat) (n src gL:Nat):(m.link bh n src gL).1.length=bh.length+arA n bh.length∧(m.link bh n src gL).2.2.b.length=m.b.length+abA n bh.length∧(m.link bh n src gL).2.2.c=m.c∧(m.link bh n src gL).2.2.ai=m.ai∧(m.link bh n src gL).2.2.main=m.main:=by
  have e:=ag3 bh
  unfold Mk.link
  rcases hq:eM bh 0 0 0 with⟨C,F⟩
  rw[hq]at e
  simp only at e ⊢
  split
  · rename_i hn
    have A:=(ir m (fe {next:=0,ax:=List.replicate (ez (bh.length:Int)) 0})).2.1
    have B:=eK m (fe {next:=0,ax:=List.replicate (ez (bh.length:Int)) 0})
    rw[qy]at A
    simp only[List.length_replicate]at A
    generalize m.d9 (fe {next:=0,ax:=List.replicate (ez (bh.length:Int)) 0})=r at *
    obtain⟨p,G⟩:=r
    simp only at A B ⊢
    have D:arA n bh.length=1:=if_pos Jy
    have E:abA n bh.length=24+8*ez (bh.length:Int):=if_pos Jy
    rw[D,E]
    refine⟨by simp,?_,?_,?_,?_⟩
    · rw[iR]
      split
      · rw[iR,(yw _ _ _).1,A];omega
      rw[iR,(yw _ _ _).1,A];omega
    · split <;> exact B.1
    · split <;> exact B.2.1
    split <;> exact B.2.2.2
  rename_i hn
  have D:arA n bh.length=0:=if_neg Jy
  have E:abA n bh.length=0:=if_neg Jy
  rw[D,E]
  exact⟨q,iR _ _ _,q,q,q⟩
theorem PI {m:Mk} {k:bT} (hd:m.ai=[k]) (ht:k.dD=aR pA):iu [pA] m [] []=([k.dD],[0],m):=by
  have e:m.data pA=(0,m):=by
    unfold Mk.data
    rw[hd,nG,if_pos ht]
  rw[iu]
  simp only[e,hd]
  rfl
theorem XC {e n:Nat} {Y:Mk} {k:bT} (hd:Y.ai=[k]) (hc:k.ck=n+1):(jr e [0] Y).c=Y.c∧(jr e [0] Y).main=Y.main∧(jr e [0] Y).b.length=Y.b.length+abA n k.bh.length∧∃k',(jr e [0] Y).ai=[k']∧k'.dD=k.dD∧k'.ck=n+2∧k'.bh.length=k.bh.length+arA n k.bh.length:=by
  have hk:Y.ai.getD 0 known0=k:=by rw[hd];rfl
  have h:=MP Y k.bh n (k.cC+48) e
  rw[jr]
  simp only[hk]
  rw[if_neg Jy,hc,Nat.add_sub_cancel]
  rcases hq:Y.link k.bh n (k.cC+48) e with⟨a,t,F⟩
  rw[hq]at h
  simp only at h ⊢
  obtain⟨A,B,C,D,E⟩:=h
  simp only[jr]
  exact⟨C,E,(iR _ _ _).trans B,{k with bh:=a,ck:=n+1+1},congrArg (fun l:List bT=>l.set 0 {k with bh:=a,ck:=n+1+1}) (D.trans hd),q,q,A⟩
structure SzA (n:Nat) (m:Mk):Prop where
  cH:m.c.cH=32768
  dat:∃k,m.ai=[k]∧k.dD=aR pA∧k.ck=n+1∧k.bh.length=(stA n).2.1
  main:m.main.length=(stA n).1
  len:m.b.length=(stA n).2.2
theorem aie:kW [pA]=([pA],0):=by
  have h:(kW [pA]).2=0:=by decide +kernel
  rcases hl:kW [pA]with⟨A,c⟩
  rw[hl]at h
  simp only at h
  subst h
  rw[BV hl (List.pairwise_singleton _ _)]
theorem acR {m:Mk} {n:Nat} (h9:m.dG 9=n+1) (h8:m.dG 8=n+1) (s:SzA n m) (hn:n≤98):∃m',m.append [pA] 1 1 jT=(n+2,0,m')∧SzA (n+1) m':=by
  obtain⟨k,I,J,R,H⟩:=s.dat
  have Q:=PI I J
  generalize hE:({seq:=(m.dG 9+1)%18446744073709551616,cK:=1,mono:=1,cg:=jT,xor:=ny 0 [k.dD],ax:=js m [0]}:eB)=E
  have P:(dZ E).length=80:=by rw[mA E (by subst hE;rfl)];subst hE;simp[js]
  have G:=(ir m (dZ E)).2.1
  have B:=eK m (dZ E)
  have F:(m.d9 (dZ E)).2.dG 8=m.dG 8:=by
    show((m.h.n.set 6 _).set 7 _).getD 8 0=_
    rw[cu Kq,cu Kq];rfl
  rcases ho:m.d9 (dZ E)with⟨e,A⟩
  rw[ho]at G B F
  simp only at G B F
  have lk:=MP A A.main (A.dG 8) 176 e
  rcases hk:A.link A.main (A.dG 8) 176 e with⟨a,t,D⟩
  rw[hk,B.2.2.2,F,h8,s.main]at lk
  simp only at lk
  obtain⟨X,Z,d,f,v⟩:=lk
  generalize hY:(let m4:=({D with main:=a}:Mk).ea 11 (a.getD 0 0);({m4 with h:={m4.h with cT:=jU a%4294967296,cW:=t%4294967296}}:Mk))=Y
  have K:Y.b=D.b:=by subst hY;rfl
  have M:Y.ai=D.ai:=by subst hY;rfl
  have N:Y.main=a:=by subst hY;rfl
  have L:Y.c=D.c:=by subst hY;rfl
  obtain⟨g,i,z3,S,j,z5,l,o⟩:=XC (e:=e) (Y:=Y) (M.trans (f.trans (B.2.1.trans I))) R
  have C:=ku (cK:=1) (mono:=1) (cg:=jT) aie Oq (by rw[h9];omega) Q (by rw[hE];exact ho) hk (z:=jr e [0] Y) (by rw[hY])
  generalize jr e [0] Y=z at *
  replace C:m.append [pA] 1 1 jT=if z.c.cH<z.b.length then(0,15,m)else((m.dG 9+1)%18446744073709551616,0,pn z (A.dG 8) ((m.dG 9+1)%18446744073709551616) 1 1 e jT):=C
  have sl:=agA (n+1) Jy
  have sn:stA (n+1)=((stA n).1+arA (n+1) (stA n).1,(stA n).2.1+arA n (stA n).2.1,(stA n).2.2+80+abA (n+1) (stA n).1+abA n (stA n).2.1):=rfl
  have p:z.b.length=(stA (n+1)).2.2:=by rw[z3,K,Z,G,P,s.len,H,sn]
  have r:z.c.cH=32768:=by rw[g,L,d,B.1,s.cH]
  have O:(m.dG 9+1)%18446744073709551616=n+2:=by rw[h9,Nat.mod_eq_of_lt Jy]
  rw[O]at C
  obtain⟨T,U,V,u,W,_⟩:=uc z (A.dG 8) (n+2) 1 1 e jT
  rw[if_neg Jy]at C
  refine⟨_,C,?_,⟨S,?_,z5.trans J,l,?_⟩,?_,?_⟩
  · rw[U,r]
  · rw[V,j]
  · rw[o,H,sn]
  · rw[W,i,N,X,sn]
  rw[T,p]
structure ado (n:Nat) (m:Mk):Prop where
  im:∃l es,zT m l es (wU n)
  n9:m.dG 9=n
  z:n=0→m=gZ AJ 0
  s:∀k,n=k+1→SzA k m
theorem adD:∃m',(gZ AJ 0).append [pA] 1 1 jT=(1,0,m')∧SzA 0 m':=by
  have C:((gZ AJ 0).append [pA] 1 1 jT).1=1∧((gZ AJ 0).append [pA] 1 1 jT).2.1=0:=by decide +kernel
  have A:((gZ AJ 0).append [pA] 1 1 jT).2.2.ai.map (fun k=>(k.dD,k.ck,k.bh.length))=[(aR pA,1,0)]:=by decide +kernel
  have B:((gZ AJ 0).append [pA] 1 1 jT).2.2.main.length=1∧((gZ AJ 0).append [pA] 1 1 jT).2.2.b.length=624∧((gZ AJ 0).append [pA] 1 1 jT).2.2.c.cH=32768:=by decide +kernel
  rcases ha:(gZ AJ 0).append [pA] 1 1 jT with⟨s,c,m'⟩
  rw[ha]at C A B
  simp only at C A B
  obtain⟨rfl,rfl⟩:=C
  refine⟨m',q,B.2.2,?_,B.1,B.2.1⟩
  cases hd:m'.ai with
  | nil=>rw[hd]at A;simp at A
  | cons k r =>
    rw[hd]at A
    simp only[List.map_cons,List.cons.injEq,List.map_eq_nil_iff,Prod.mk.injEq]at A
    obtain⟨⟨D,E,F⟩,rfl⟩:=A
    exact⟨k,q,D,E,F⟩
theorem aib:ado 0 (gZ AJ 0):=by
  obtain⟨A,B,C⟩:=ab1 (c:=AJ) (t:=0) Kq Kq Jy
  exact⟨⟨_,_,A,CI Kq Kq Kq,q,B,q,by simp,List.Pairwise.nil,by simp[wU]⟩,C,fun _=>rfl,fun k h=>by omega⟩
theorem RV (n:Nat):wU (n+1)=wU n ++ [ac7 n]:=by unfold wU;rw[List.range_succ,List.map_append];rfl
theorem HO (n:Nat):(wU n).length=n:=by simp[wU]
theorem Z7 {n i:Nat} (h:i<n):(wU n)[i]? = some (ac7 i):=by unfold wU;rw[List.getElem?_map,List.getElem?_range h];rfl
theorem abb {n:Nat} {m:Mk} (h:ado n m) (hn:n≤98):∃m',m.append [pA] 1 1 jT=(n+1,0,m')∧ado (n+1) m':=by
  obtain⟨l,L,B⟩:=h.im
  have G:=h.n9
  have F:∃m',m.append [pA] 1 1 jT=(n+1,0,m')∧SzA n m':=by
    cases n with
    | zero=>rw[h.z q];exact adD
    | succ k =>
      have I:m.dG 8=k+1:=B.img.n8.trans (B.len.trans (HO _))
      exact acR G I (h.s k q) Jy
  obtain⟨m',D,J⟩:=F
  have H:(ac7 n).cg.length=16:=rfl
  obtain⟨K,C,E,_⟩:=aeL (r:=ac7 n) B (by rw[G,Nat.mod_eq_of_lt Jy];rfl) H (show(1:Nat)<18446744073709551616∧(1:Nat)<18446744073709551616 from by decide) (show Asc [pA]from List.pairwise_singleton _ _) D
  obtain⟨_,_,_,_,A⟩:=ER B.img B.ok B.h20 H Kq D
  exact⟨m',D,⟨K,C,by rw[RV];exact E⟩,A.seq.2,fun h=>by omega,fun k hk=>by rw[show k=n by omega];exact J⟩
theorem acH {l:List Rec} {n s a b:Nat} (hl:l.length=n) (hs:∀i y,l[i]? = some y→y.seq=i+1) (h:TF l s 0 l.length 0=(a,b)):a=if s≤n then max s 1-1 else n:=by
  have D:l.Pairwise fun a b=>a.seq<b.seq:=List.pairwise_iff_getElem.2 fun i j J L K=>by
    rw[hs i _ (List.getElem?_eq_getElem J),hs j _ (List.getElem?_eq_getElem L)];omega
  obtain⟨_,I,E,F⟩:=JC D (l.length-0) 0 l.length 0 (Nat.le_refl _) (Nat.zero_le _) (Nat.le_refl _) (n:=s) (fun q r M _=>by omega) (fun q r M N=>by have:=(List.getElem?_eq_some_iff.1 N).1;omega)
  have e:(EF l s (l.length-0) 0 l.length 0).1=a:=congrArg Prod.fst h
  rw[e]at I E F
  have G:a<n→s≤a+1:=fun A=>by
    obtain⟨y,C⟩:∃y,l[a]? = some y:=⟨_,List.getElem?_eq_getElem Jy⟩
    have:=F a y (Nat.le_refl _) C
    rw[hs a y C]at this;exact this
  have H:0<a→a<s:=fun A=>by
    obtain⟨y,C⟩:∃y,l[a-1]? = some y:=⟨_,List.getElem?_eq_getElem Jy⟩
    have:=E (a-1) y Jy C
    rw[hs _ y C]at this;omega
  split
  · rcases Nat.lt_or_ge a n with A|A
    · have:=G A
      rcases Nat.eq_zero_or_pos a with B|B
      · omega
      have:=H B;omega
    rcases Nat.eq_zero_or_pos a with B|B
    · omega
    have:=H B;omega
  rcases Nat.lt_or_ge a n with A|A
  · have:=G A;omega
  omega
theorem abp {l:List Rec} {s d a b:Nat} (hl:l.length<2 ^ d) (h:TF l s 0 l.length 0=(a,b)):b≤d:=by
  have:=AG (l:=l) (n:=s) (l.length-0) 0 l.length 0 d (Nat.le_refl _) (Nat.zero_le _) hl
  rw[Nat.zero_add]at this
  have e:(EF l s (l.length-0) 0 l.length 0).2=b:=congrArg Prod.snd h
  rw[e]at this;exact this
theorem agV (n:Nat):n<(n+1)*2 ^ 0:=by omega
theorem aav {n k d:Nat} (h:n<(k+1)*2 ^ d):n<(k/2+1)*2 ^ (d+1):=by
  rw[Nat.pow_succ,← Nat.mul_assoc,Nat.mul_right_comm]
  exact lq h (Nat.mul_le_mul_right _ Jy)
theorem ad5 {n k d:Nat} (h:n<(k+1)*2 ^ d) (hk:k=0):n<2 ^ d:=by subst hk;omega
end Go.Wk
namespace Go.Wk
open Go Go.RowKit
section
variable {P:Program}
variable {n:Nat} {A:Fr n} {D:List Deferred} {l:List (Nat × Value)} {w:World} {d:Option Tmp} {ty:TypeId} {ps:String} {af:Array Edge} {g:Option (Nat × Bool)}
end
end Go.Wk
namespace Go.Proofs.YtbmmkbejcnalcaaGreat
open Go Go.Wk Go.RowKit
set_option linter.unusedVariables false
set_option linter.unusedSimpArgs false
attribute [local irreducible] wpList wpQuiet wpStill gw Code.wp Calls bodyPost
variable {w:World} {Q:Nat→Prop}
noncomputable abbrev Zp:=Tryz.prog
theorem mL:gX Zp 5 1=true:=Ym
theorem pX:iZ Zp 5=true:=Ym
theorem fE:Zp.underlying 31=some (.slice 5):=Ym
theorem lg:Zp.underlying 36=some (.int .u64):=Ym
theorem u5:Zp.underlying 5=some (.int .u8):=Ym
theorem QG (uQ:Up w Q) (n:Int) (a0:(-9223372036854775808≤n∧n<9223372036854775808)) :
  Calls Zp 99 #[(.int .i64 (n:Int))] w fun en w'=>∃r0:Bool,en = .returned (.bool r0)∧Md [] w w'∧oN n=r0:=by
 have M:=Md.refl [] w;have H:=uQ;refine enter (n:=17) Tryz.func99 q q q fun B=>ns (an q (nm q (st _ (nL (a:=n) (b:=1) q q) (mv q ?_))));refine cQ (t:=5) q (fun C=>?_) (fun C=>?_)
 ·(have F:=dT C);refine sk C (sk C (st _ (bR q C q) (mv q (sk q (sk q (st _ (bR q q q) (mv q (sk q (sk q (st _ (bR q q q) (ar q ?_)))))))))));exact dV (v:=(.bool true)) trivial q ⟨q,tV⟩ ⟨true,q,M,(by simp only[oN];exact decide_eq_true Jy)⟩
 (have F:=dF C);refine sg C (bg q) (sg C (nL (a:=n) (b:=2) q q) (st _ (bA q C q) (mv q ?_)));refine cQ (t:=9) q (fun D=>?_) (fun D=>?_)
 ·(have G:=dT D);refine sk D (sk D (st _ (bR q D q) (mv q (sk q (sk q (st _ (bR q q q) (ar q ?_)))))));exact dV (v:=(.bool true)) trivial q ⟨q,tV⟩ ⟨true,q,M,(by simp only[oN];exact decide_eq_true Jy)⟩
 (have G:=dF D);refine sg D (bg q) (sg D (nL (a:=n) (b:=4) q q) (st _ (bA q D q) (mv q ?_)));refine cQ (t:=13) q (fun A=>?_) (fun A=>?_)
 ·(have E:=dT A);refine sk A (sk A (st _ (bR q A q) (ar q ?_)));exact dV (v:=(.bool true)) trivial q ⟨q,tV⟩ ⟨true,q,M,(by simp only[oN];exact decide_eq_true Jy)⟩
 (have E:=dF A);refine sg A (bg q) (sg A (nL (a:=n) (b:=8) q q) (st _ (bA q A q) (ar q ?_)));exact dV (v:=(.bool ((decide (n=8))))) trivial q ⟨q,tV⟩ ⟨(decide (n=8)),q,M,(by simp only[oN];exact(decide_eq_decide.2 Jy))⟩
theorem nN (uQ:Up w Q) {v0:Value} {l:Ly} (h0:Ls eV w Q v0 l) (a:Int) (a1:(-9223372036854775808≤a∧a<9223372036854775808)) (n:Int) (a2:(-9223372036854775808≤n∧n<9223372036854775808)) :
  Calls Zp 87 #[v0,(.int .i64 (a:Int)),(.int .i64 (n:Int))] w fun en w'=>∃r0:Nat,∃r1:Bool,en = .returned (.tuple #[(.int .u64 r0),(.bool r1)])∧Md [] w w'∧r0<18446744073709551616∧pu l a n=(r0,r1):=by
 have u:=h0.eY;have M:=Md.refl [] w;have p:=uQ;have Z:∀b,Q b→Q b:=fun _ h=>h;have P:∀b,Q b→b<w.heap.size→Q b:=fun _ h _=>h;refine enter (n:=59) Tryz.func87 q q q fun B=>ns (di q (an q (aH (aH ?_))));refine PF (fun b=>[(41,.bool b),(0,v0),(1,(.int .i64 (a:Int))),(2,(.int .i64 (n:Int))),(6,(.int .u64 ((0:Nat):Int))),(7,(.bool false))]) (fun b w'=>w=w'∧(b=true↔¬(oN n=true∧0≤a∧a+n≤l.length))) ?_ ?_
 ·refine mv q (st _ (RF (a:=n) (b:=1) q q) (mv q ?_));refine cQ (t:=12) q (fun H=>?_) (fun H=>?_)
  ·(have T:=dT H);refine sg H (bg q) (sg H (RF (a:=n) (b:=2) q q) (st _ (bR q H q) (mv q ?_)));refine cQ (t:=16) q (fun I=>?_) (fun I=>?_)
   ·(have U:=dT I);refine sg I (bg q) (sg I (RF (a:=n) (b:=4) q q) (st _ (bR q I q) (mv q ?_)));refine cQ (t:=20) q (fun J=>?_) (fun J=>?_)
    ·(have V:=dT J);refine sg J (bg q) (sg J (RF (a:=n) (b:=8) q q) (st _ (bR q J q) (mv q ?_)));refine cQ (t:=24) q (fun K=>?_) (fun K=>?_)
     ·(have W:=dT K);refine sk K (sk K (st _ (bR q K q) (mv q (sk q (sk q (sk q (sk q (st _ (bR q q q) (mv q (sk q (sk q (sk q (sk q ?_)))))))))))));refine sk q (sk q (st _ (bR q q q) (ay ?_)));refine⟨q,jn true ?_ ?_⟩
      ·exact⟨q,q,q,q,q,q,tV⟩
      ·exact⟨q,by rw[fH];simp;omega⟩
     ·(have W:=dF K);refine sg K (bg q) (sg K (qB (a:=a) (b:=0) q q) (st _ (bA q K q) (mv q ?_)));refine cQ (t:=28) q (fun C=>?_) (fun C=>?_)
      ·(have E:=dT C);refine sk C (sk C (sk C (sk C (st _ (bR q C q) (mv q (sk q (sk q (sk q (sk q (sk q (sk q (st _ (bR q q q) (ay ?_)))))))))))));refine⟨q,jn true ?_ ?_⟩
       ·exact⟨q,q,q,q,q,q,tV⟩
       ·exact⟨q,by rw[fH];simp;omega⟩
      ·(have E:=dF C);refine sg C (bg q) (sg C (bg q) (sg C (ji q fE h0.ep) (sg C (uG (a:=a) (b:=((l.length:Nat):Int)) q q) (st _ (bA q C q) (mv q ?_)))));refine cQ (t:=34) q (fun A=>?_) (fun A=>?_)
       ·(have F:=dT A);refine sk A (sk A (sk A (sk A (sk A (sk A (st _ (bR q A q) (ay ?_)))))));refine⟨q,jn true ?_ ?_⟩
        ·exact⟨q,q,q,q,q,q,tV⟩
        ·exact⟨q,by rw[fH];simp;omega⟩
       ·(have F:=dF A);refine sg A (bg q) (sg A (ji q fE h0.ep) (sg A (bg q) (sg A (kJ (a:=((l.length:Nat):Int)) (b:=a) q q Jy) (sg A (bg q) (sg A (qB (a:=((l.length:Nat):Int)-a) (b:=n) q q) (st _ (bA q A q) ?_))))));refine cQ (t:=41) q (fun D=>?_) (fun D=>?_)
        ·(have G:=dT D);refine ay ?_;refine⟨q,jn true ?_ ?_⟩
         ·exact⟨za q D,q,q,q,q,q,tV⟩
         ·exact⟨q,by rw[fH];simp;omega⟩
        ·(have G:=dF D);refine ay ?_;refine⟨q,jn false ?_ ?_⟩
         ·exact⟨za q D,q,q,q,q,q,tV⟩
         ·exact⟨q,by rw[fH];simp;omega⟩
    ·(have V:=dF J);refine sk J (sk J (st _ (bA q J q) (mv q (sg q (bg q) (sg q (qB (a:=a) (b:=0) q q) (st _ (bA q q q) (mv q ?_)))))));refine cQ (t:=28) q (fun C=>?_) (fun C=>?_)
     ·(have E:=dT C);refine sk C (sk C (sk C (sk C (st _ (bR q C q) (mv q (sk q (sk q (sk q (sk q (sk q (sk q (st _ (bR q q q) (ay ?_)))))))))))));refine⟨q,jn true ?_ ?_⟩
      ·exact⟨q,q,q,q,q,q,tV⟩
      ·exact⟨q,by rw[fH];simp;omega⟩
     ·(have E:=dF C);refine sg C (bg q) (sg C (bg q) (sg C (ji q fE h0.ep) (sg C (uG (a:=a) (b:=((l.length:Nat):Int)) q q) (st _ (bA q C q) (mv q ?_)))));refine cQ (t:=34) q (fun A=>?_) (fun A=>?_)
      ·(have F:=dT A);refine sk A (sk A (sk A (sk A (sk A (sk A (st _ (bR q A q) (ay ?_)))))));refine⟨q,jn true ?_ ?_⟩
       ·exact⟨q,q,q,q,q,q,tV⟩
       ·exact⟨q,by rw[fH];simp;omega⟩
      ·(have F:=dF A);refine sg A (bg q) (sg A (ji q fE h0.ep) (sg A (bg q) (sg A (kJ (a:=((l.length:Nat):Int)) (b:=a) q q Jy) (sg A (bg q) (sg A (qB (a:=((l.length:Nat):Int)-a) (b:=n) q q) (st _ (bA q A q) ?_))))));refine cQ (t:=41) q (fun D=>?_) (fun D=>?_)
       ·(have G:=dT D);refine ay ?_;refine⟨q,jn true ?_ ?_⟩
        ·exact⟨za q D,q,q,q,q,q,tV⟩
        ·exact⟨q,by rw[fH];simp;omega⟩
       ·(have G:=dF D);refine ay ?_;refine⟨q,jn false ?_ ?_⟩
        ·exact⟨za q D,q,q,q,q,q,tV⟩
        ·exact⟨q,by rw[fH];simp;omega⟩
   ·(have U:=dF I);refine sk I (sk I (st _ (bA q I q) (mv q (sk q (sk q (st _ (bA q q q) (mv q (sg q (bg q) (sg q (qB (a:=a) (b:=0) q q) (st _ (bA q q q) (mv q ?_)))))))))));refine cQ (t:=28) q (fun C=>?_) (fun C=>?_)
    ·(have E:=dT C);refine sk C (sk C (sk C (sk C (st _ (bR q C q) (mv q (sk q (sk q (sk q (sk q (sk q (sk q (st _ (bR q q q) (ay ?_)))))))))))));refine⟨q,jn true ?_ ?_⟩
     ·exact⟨q,q,q,q,q,q,tV⟩
     ·exact⟨q,by rw[fH];simp;omega⟩
    ·(have E:=dF C);refine sg C (bg q) (sg C (bg q) (sg C (ji q fE h0.ep) (sg C (uG (a:=a) (b:=((l.length:Nat):Int)) q q) (st _ (bA q C q) (mv q ?_)))));refine cQ (t:=34) q (fun A=>?_) (fun A=>?_)
     ·(have F:=dT A);refine sk A (sk A (sk A (sk A (sk A (sk A (st _ (bR q A q) (ay ?_)))))));refine⟨q,jn true ?_ ?_⟩
      ·exact⟨q,q,q,q,q,q,tV⟩
      ·exact⟨q,by rw[fH];simp;omega⟩
     ·(have F:=dF A);refine sg A (bg q) (sg A (ji q fE h0.ep) (sg A (bg q) (sg A (kJ (a:=((l.length:Nat):Int)) (b:=a) q q Jy) (sg A (bg q) (sg A (qB (a:=((l.length:Nat):Int)-a) (b:=n) q q) (st _ (bA q A q) ?_))))));refine cQ (t:=41) q (fun D=>?_) (fun D=>?_)
      ·(have G:=dT D);refine ay ?_;refine⟨q,jn true ?_ ?_⟩
       ·exact⟨za q D,q,q,q,q,q,tV⟩
       ·exact⟨q,by rw[fH];simp;omega⟩
      ·(have G:=dF D);refine ay ?_;refine⟨q,jn false ?_ ?_⟩
       ·exact⟨za q D,q,q,q,q,q,tV⟩
       ·exact⟨q,by rw[fH];simp;omega⟩
  ·(have T:=dF H);refine sk H (sk H (st _ (bA q H q) (mv q (sk q (sk q (st _ (bA q q q) (mv q (sk q (sk q (st _ (bA q q q) (mv q (sg q (bg q) (sg q (qB (a:=a) (b:=0) q q) ?_)))))))))))));refine st _ (bA q q q) (mv q ?_);refine cQ (t:=28) q (fun C=>?_) (fun C=>?_)
   ·(have E:=dT C);refine sk C (sk C (sk C (sk C (st _ (bR q C q) (mv q (sk q (sk q (sk q (sk q (sk q (sk q (st _ (bR q q q) (ay ?_)))))))))))));refine⟨q,jn true ?_ ?_⟩
    ·exact⟨q,q,q,q,q,q,tV⟩
    ·exact⟨q,by rw[fH];simp;omega⟩
   ·(have E:=dF C);refine sg C (bg q) (sg C (bg q) (sg C (ji q fE h0.ep) (sg C (uG (a:=a) (b:=((l.length:Nat):Int)) q q) (st _ (bA q C q) (mv q ?_)))));refine cQ (t:=34) q (fun A=>?_) (fun A=>?_)
    ·(have F:=dT A);refine sk A (sk A (sk A (sk A (sk A (sk A (st _ (bR q A q) (ay ?_)))))));refine⟨q,jn true ?_ ?_⟩
     ·exact⟨q,q,q,q,q,q,tV⟩
     ·exact⟨q,by rw[fH];simp;omega⟩
    ·(have F:=dF A);refine sg A (bg q) (sg A (ji q fE h0.ep) (sg A (bg q) (sg A (kJ (a:=((l.length:Nat):Int)) (b:=a) q q Jy) (sg A (bg q) (sg A (qB (a:=((l.length:Nat):Int)-a) (b:=n) q q) (st _ (bA q A q) ?_))))));refine cQ (t:=41) q (fun D=>?_) (fun D=>?_)
     ·(have G:=dT D);refine ay ?_;refine⟨q,jn true ?_ ?_⟩
      ·exact⟨za q D,q,q,q,q,q,tV⟩
      ·exact⟨q,by rw[fH];simp;omega⟩
     ·(have G:=dF D);refine ay ?_;refine⟨q,jn false ?_ ?_⟩
      ·exact⟨za q D,q,q,q,q,q,tV⟩
      ·exact⟨q,by rw[fH];simp;omega⟩
 ·rintro c B _ ⟨rfl,L⟩
  refine uZ c (fun D=>?_) (fun D=>?_)
  ·replace L:=L.1 D;refine aj (fM q D (ns (di q (ar q (bf ?_)))));exact dQ (vs:=[(.int .u64 ((0:Nat):Int)),(.bool false)]) trivial q ⟨q,q,tV⟩ q ⟨0,false,q,M,Jy,(zv Jy)⟩
  ·replace L:=mt L.2 (by rw[D];simp);refine aj (iI q D (bn (aj (aH ?_))));replace L:=Classical.not_not.1 L;have y:=yx L.1;refine aQ (an q (aH (nm q (st _ (kJ (a:=n) (b:=1) q q Jy) (di q (nt (bK ?_)))))))
   refine qR (fun(v:Nat) (i:Int)=>[(8,(.int .u64 v)),(9,(.int .i64 (i:Int))),(0,v0),(1,(.int .i64 (a:Int))),(6,(.int .u64 ((0:Nat):Int))),(7,(.bool false))]) (fun(v:Nat) (i:Int) w'=>∃Q':Nat→Prop,(∀b,Q' b→Q b)∧(∀b,Q b→b<w.heap.size→Q' b)∧Up w' Q'∧Md [] w w'∧Ls eV w' Q' v0 l∧(-1≤i∧i<n)∧v=BP ((l.drop (a+(i+1)).toNat).take (n-1-i).toNat)∧v<18446744073709551616) (fun(v:Nat) (i:Int)=>(i+1).toNat) (x0:=0) (x1:=(n-1)) ?_ ?_ ?_
   ·exact⟨q,q,q,q,q,q,tV⟩
   ·exact⟨Q,Z,P,uQ,M,h0,Jy,(by simp[show n-1-(n-1)=0 by omega,BP]),Jy⟩
   ·clear M uQ Z P h0
    rintro v i B z ⟨g,Z,P,uQ,M,h0,e,N,f⟩;refine aH (nm q (st _ (rJ (a:=i) (b:=0) q q) (nt ?_)));refine cL q (fun R=>?_) (fun R=>?_)
    ·(have X:=dT R);have j:=uh (l:=(l.drop (a+(i+1)).toNat).take (n-1-i).toNat) (k:=7) Zy;rw[← N]at j;refine bn (aj (aH (bK (aQ (mv q (st _ (nq (a:=v) (b:=256) 18446744073709551616 q q q Jy) (m2 q q (mv q (st _ (eX (a:=a) (b:=i) q q Jy) (st _ (tq (i:=a+i) 1 q q fE mL h0.ep Jy) ?_))))))))));obtain⟨S,Y⟩:=eP (l:=l) (i:=(a+i).toNat) Jy;obtain⟨x,d,O⟩:=h0.get Y;obtain⟨rfl,_⟩:=d;have r:=UInt8.toNat_lt S;replace O:At _ v0 (((a+i).toNat)*1) [(b8 S)]:=O;refine st _ ((dh (kk:=((a+i).toNat)*1) 0 q q pX O q).to (b:=(b8 S)) q) (st _ (dI (a:=S.toNat) 18446744073709551616 q (by rw[u5];rfl) lg q (lq (UInt8.toNat_lt _) Kq)) (st _ (fK (a:=(v*256)) (b:=S.toNat) 18446744073709551616 q q q Jy) (di q (ay ?_))));clear O;refine cw (aj (aQ (mv q (st _ (kJ (a:=i) (b:=1) q q Jy) (an q ?_)))));refine pO (x0:=((v*256)+S.toNat)) (x1:=(i-1)) Jy ⟨(ew q (by rfl)),(ew q Jy),q,q,q,q,tV⟩ ⟨g,Z,P,uQ,M,h0,Jy,(by rw[N];have o:=MO (k:=(n-1-i).toNat) Y;rw[show(n-1-(i-1)).toNat=(n-1-i).toNat+1 by omega,show(a+(i-1+1)).toNat=(a+i).toNat by omega,o,show(a+i).toNat+1=(a+(i+1)).toNat by omega];omega),Jy⟩
    ·(have X:=dF R);refine dw (bW (bW (eu (aj (nm q (di q (ar q ?_)))))));exact dQ (vs:=[(.int .u64 v),(.bool true)]) trivial q ⟨q,q,tV⟩ q ⟨v,true,q,M,Zx,(by rw[pu,if_pos Jy,N,show i = -1 by omega];simp)⟩
end Go.Proofs.YtbmmkbejcnalcaaGreat
