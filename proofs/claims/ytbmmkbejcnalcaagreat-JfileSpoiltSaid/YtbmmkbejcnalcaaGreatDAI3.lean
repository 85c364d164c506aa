/- Part 3 of what the walk of a law stands on: ImT8, ImT9, GoLP, ImT10, ImT11, ImT12, ImT13, ImT14, LinkP, LinkQ, ImT15, ImT16, ImT17, LwP, JfP, LdP, RecP, BhP, RefV, RefV2, SpT, RatP, LinkV, LastP, AtT, RawP, J15, VLe. No statement is proved here. -/
import Derived.Test.YtbmmkbejcnalcaaGreatDAI2
import Derived.Test.YtbmmkbejcnalcaaGreatRows
set_option linter.unusedVariables false
set_option linter.unusedSimpArgs false
namespace Go.Wk
open Go Go.RowKit
structure fK where
  bX:Nat
  ent:gU
  who:List Nat
structure ab2 (b:Ly) (l:List Ob) (g:fK):Prop where
  ob:(⟨g.bX,3,64+16*g.ent.aH.length⟩:Ob)∈l
  seg:seg b g.bX (64+16*g.ent.aH.length)=er g.ent
theorem ab2.lZ {b c:Ly} {l r:List Ob} {g:fK} {S:Nat→Prop} (h:ab2 b l g) (hO:fH b 272 l b.length) (he:Eff S b c) (hs:∀a,S a→rG l a) (hr:∀o∈l,o∈r):ab2 c r g:=by
  have B:=(hO.mem h.ob).le
  have C:=eC (64+16*g.ent.aH.length)
  refine⟨hr _ h.ob,(he.seg _ _ (by simp only at B;omega) fun a A=>?_).trans h.seg⟩
  have:=(hs a A _ h.ob).2.2.2 rfl;simp only at this;omega
structure agS (m:Mk):Prop where
  main:∀(i:Nat) (k:bQ),m.ai[i]? = some k→∀a∈k.bg,a∉m.main
  one:∀(i j:Nat) (k k':bQ) (a:Nat),m.ai[i]? = some k→m.ai[j]? = some k'→a∈k.bg→a∈k'.bg→i=j
structure mj (m:Mk) (l:List Ob) (es:List fK) (mp:List Nat) (f:Nat→List Nat):Prop where
  fJ:Stat m l
  main:Chain m.b l 176 m.main mp
  dat:∀(i:Nat) (k:bQ),m.ai[i]? = some k→ud m.b l k (f i)
  own:agS m
  ent:∀g∈es,ab2 m.b l g
  kin:(l.filter fun o=>decide (o.kind=3)).map Ob.bX=es.map fK.bX
theorem um {l t:List Ob} (h:∀o∈t,o.kind≠3):((l ++ t).filter fun o=>decide (o.kind=3))=l.filter fun o=>decide (o.kind=3):=by
  have e:(t.filter fun o=>decide (o.kind=3))=[]:=List.filter_eq_nil_iff.2 fun o A=>by simpa using h o A
  rw[List.filter_append,e,List.append_nil]
structure lX (ds ds':List bQ):Prop where
  len:ds'.length=ds.length
  get:∀(i:Nat) (k':bQ),ds'[i]? = some k'→∃k,ds[i]? = some k∧k'.bX=k.bX∧k'.cM=k.cM
theorem lX.refl (ds:List bQ):lX ds ds:=⟨q,fun _ k h=>⟨k,h,q,q⟩⟩
theorem lX.set {ds:List bQ} {i:Nat} {k k':bQ} (h:ds[i]? = some k) (h1:k'.bX=k.bX) (h2:k'.cM=k.cM):lX ds (ds.set i k'):=by
  refine⟨by simp,fun j y A=>?_⟩
  by_cases hj:i=j
  · subst hj
    rw[List.getElem?_set_self (List.getElem?_eq_some_iff.1 h).1]at A
    cases A
    exact⟨k,h,h1,h2⟩
  rw[List.getElem?_set_ne hj]at A
  exact⟨y,A,q,q⟩
theorem rM.congr {b:Ly} {l:List Ob} {n:Nat} {k k':bQ} (h:rM b l n k) (h1:k'.bX=k.bX) (h2:k'.cM=k.cM):rM b l n k':=by
  obtain⟨A,B,C⟩:=h
  exact⟨by rw[h1,h2];exact A,by rw[h1];exact B,by rw[h1,h2];exact C⟩
theorem Stat.keep {m m':Mk} {l l':List Ob} {S:Nat→Prop} (h:Stat m l) (hO':fH m'.b 272 l' m'.b.length) (hl:∃t,l'=l ++ t∧∀o∈t,o.kind≠1) (he:Eff S m.b m'.b) (hM:∀a,S a→rG l a) (hc:m'.c=m.c) (hf:m'.aj=m.aj) (hn:m'.dD 2=m.dD 2∧m'.dD 4=m.dD 4) (hd:lX m.ai m'.ai):Stat m' l':=by
  obtain⟨t,rfl,R⟩:=hl
  have I:∀o∈l,o∈l ++ t:=fun o B=>List.mem_append_left _ B
  have O:∀t,ic m' t=ic m t:=fun t=>by unfold ic;rw[hc]
  refine⟨hO',by rw[hc];exact I _ h.XA,by rw[hc];exact I _ h.abo,hn.1.trans h.n2,by rw[hc];exact hn.2.trans h.n4,by rw[hc];exact h.slots,fun k hk=>?_,fun k hk=>?_,fun i j k F E P Q=>?_,fun o B C=>?_⟩
  · obtain⟨i,E⟩:=List.mem_iff_getElem?.1 hk
    obtain⟨J,K,C,D⟩:=hd.get i k E
    rw[O,D]
    exact((h.data J (List.mem_of_getElem? K)).lZ h.eS he hM I).congr C D
  · rw[hf]at hk;rw[O]
    exact(h.fld k hk).lZ h.eS he hM I
  · obtain⟨J,K,C,D⟩:=hd.get i k E
    obtain⟨T,H,L,N⟩:=hd.get j F P
    exact h.one i j J T K H (by rw[← C,← L,← D,← N];exact Q)
  rcases List.mem_append.1 B with B|B
  · obtain⟨k,hk,D⟩:=h.all o B C
    obtain⟨i,E⟩:=List.mem_iff_getElem?.1 hk
    have M:=(List.getElem?_eq_some_iff.1 E).1
    obtain⟨F,G⟩:∃F,m'.ai[i]? = some F:=⟨_,List.getElem?_eq_getElem (by rw[hd.len];exact M)⟩
    obtain⟨J,H,L,N⟩:=hd.get i F G
    rw[E]at H;cases H
    exact⟨F,List.mem_of_getElem? G,L.trans D⟩
  exact absurd C (R o B)
theorem mj.soft {m m':Mk} {l l':List Ob} {es:List fK} {mp:List Nat} {f:Nat→List Nat} {i:Nat} {t:Ly} (h:mj m l es mp f) (d:yX m m' l l' i t) (hf:∀i,m.ai.length≤i→f i=[]):mj m' l' es mp f:=by
  have H:=d.step.mem
  have hO':=d.step.eS
  have J:=d.step.lZ
  have O:∀a,oD l' a→rG l a:=fun a C=>(C.ZF hO').mono H
  have D:=d.step.same.2.1
  have M:∀(j:Nat) (k:bQ),m.ai[j]? = some k→ud m'.b l' k (f j):=fun j k B=>(h.dat j k B).soft (h.fJ.data k (List.mem_of_getElem? B)) h.fJ.eS hO' J H
  have A:∀(j:Nat) (k:bQ),m'.ai[j]? = some k→m.ai[j]? = some k∨(m.ai.length≤j∧k.cr=0∧k.bg=[]∧xH m'.b k.bX):=fun j k B=>by
    rcases d.new with e|⟨s,p,e,I,_⟩
    · rw[e]at B;exact .inl B
    · rw[e]at B
      rcases Nat.lt_or_ge j m.ai.length with F|F
      · rw[List.getElem?_append_left F]at B;exact .inl B
      · have L:=(List.getElem?_eq_some_iff.1 B).1
        simp at L
        rw[List.getElem?_append_right F,show j-m.ai.length=0 by omega]at B
        have:k={cM:=t,bX:=p,dI:=s,cr:=0,bg:=[]}:=by simpa using B.symm
        subst this
        exact .inr ⟨F,q,q,I⟩
  refine⟨d.fJ,?_,fun j k B=>?_,⟨fun j k B a C=>?_,fun i j k N a K B C E=>?_⟩,fun g Q=>(h.ent g Q).lZ h.fJ.eS J O H,?_⟩
  · rw[D];exact UD h.main h.fJ.eS hO' J H
  · rcases A j k B with B|⟨F,P,C,I⟩
    · exact M j k B
    rw[hf j F];exact ud.new I P C
  · rw[D]
    rcases A j k B with B|⟨_,_,G,_⟩
    · exact h.own.main j k B a C
    rw[G]at C;simp at C
  · rcases A i k K with K|⟨_,_,G,_⟩
    · rcases A j N B with B|⟨_,_,G,_⟩
      · exact h.own.one i j k N a K B C E
      rw[G]at E;simp at E
    rw[G]at C;simp at C
  obtain⟨u,e,S⟩:=d.step.sub
  rw[e,um fun o R=>by have:=(S o R).1;omega]
  exact h.kin
theorem mj.entry {m:Mk} {l:List Ob} {es:List fK} {mp:List Nat} {f:Nat→List Nat} (h:mj m l es mp f) {E:gU} {who:List Nat} (hb:E.ck.length=16) (hn:E.aH.length≤1000) :
    mj (m.d9 (er E)).2 (l ++ [⟨m.b.length,3,64+16*E.aH.length⟩]) (es ++ [⟨m.b.length,E,who⟩]) mp f:=by
  have T:=nA E hb
  have B:(m.d9 (er E)).2.b=m.b ++ er E:=rfl
  have S:=eO m (er E)
  have C:∀i,i≠6→i≠7→(m.d9 (er E)).2.dD i=m.dD i:=fun i U V=>by
    simp only[Mk.d9]
    rw[fw (by omega),fw (by omega)];rfl
  generalize (m.d9 (er E)).2=m' at *
  obtain⟨Q,H,R,L⟩:=S
  have O:nV (64+16*E.aH.length)=64+16*E.aH.length:=by unfold nV;omega
  have F:(er E).length=64+16*E.aH.length:=by omega
  have G:Eff (fun _=>False) m.b m'.b:=by rw[B];exact Eff.app _ _ _
  have P:∃r,er E=MQ 3 (64+16*E.aH.length) ++ r:=by
    unfold er
    rw[vN (by omega)]
    rw[show 16+(nums [E.seq,E.cF,E.mono] ++ E.ck ++ nums [E.xor] ++ kP E.aH).length=64+16*E.aH.length by simp[eI,sU,hb];omega]
    exact⟨_,List.append_assoc _ _ _⟩
  obtain⟨r,N⟩:=P
  have hO':fH m'.b 272 (l ++ [⟨m.b.length,3,64+16*E.aH.length⟩]) m'.b.length:=by
    have:=(h.fJ.eS.lZ G (Nat.le_refl _) (fun _ _ _ A=>A.elim)).app (o:=⟨m.b.length,3,64+16*E.aH.length⟩) q (by simp) (by simp) (by simp only;omega) (by simp only;omega) ?_
    · simp only[O]at this;rw[B,List.length_append,F];rw[B]at this;exact this
    · have K:=iv (x:=m.b) (y:=er E) (p:=m.b.length) (n:=16) (Nat.le_refl _)
      rw[Nat.sub_self,Zt N (jQ _ _)]at K
      rw[B];exact K
  have J:∀o∈l,o∈l ++ [(⟨m.b.length,3,64+16*E.aH.length⟩:Ob)]:=fun o M=>List.mem_append_left _ M
  refine⟨h.fJ.keep hO' ⟨_,q,by simp⟩ G (fun _ A=>A.elim) Q R ⟨C 2 (by decide) (by decide),C 4 (by decide) (by decide)⟩ (by rw[H];exact lX.refl _),?_,fun i k I=>?_,⟨by rw[H,L];exact h.own.main,by rw[H];exact h.own.one⟩,fun g D=>?_,?_⟩
  · rw[L];exact h.main.lZ h.fJ.eS (rX l) (Nat.le_refl _) G J (fun _ A=>A.elim) (fun _ _ _ _ A=>A.elim)
  · rw[H]at I
    exact(h.dat i k I).lZ (h.fJ.data k (List.mem_of_getElem? I)) h.fJ.eS G J (fun _ A=>A.elim) (fun _ _ _ _ A=>A.elim)
  · rcases List.mem_append.1 D with D|D
    · exact(h.ent g D).lZ h.fJ.eS G (fun _ A=>A.elim) J
    simp at D;subst D
    refine⟨by simp,?_⟩
    simp only
    rw[B,← F]
    exact seg_new _ _
  rw[List.filter_append,List.map_append,h.kin];simp
theorem zW {b:Ly} {l:List Ob} {e src a:Nat} {av:List Nat} (hO:fH b 272 l e) (h:yZ src av a) (hob:∀k c:Nat,av[k]? = some c→(⟨c,6,24+8*eu (k:Int)⟩:Ob)∈l) {o:Ob} (ho:o∈l) (hne:∀c∈av,c≠o.bX):a=src∨a+8≤o.bX∨o.bX+nV o.size≤a:=by
  rcases h with h|⟨k,c,B,C,D⟩
  · exact .inl h
  right
  rcases hO.sep ho (hob k c B)with A|A|A
  · exact absurd (congrArg Ob.bX A).symm (hne c (List.mem_of_getElem? B))
  · simp only at A;omega
  rw[iB]at A;simp only at A;omega
theorem zX {b:Ly} {l:List Ob} {e src a:Nat} {av:List Nat} (hO:fH b 272 l e) (h:yZ src av a) (hob:∀k c:Nat,av[k]? = some c→(⟨c,6,24+8*eu (k:Int)⟩:Ob)∈l) (hs:rG l src):rG l a:=by
  rcases h with h|⟨k,c,A,B,C⟩
  · rw[h];exact hs
  exact yL hO (hob k c A) (by simp only;omega) (by rw[iB];simp only;omega) (by simp) (by simp) (by simp)
end Go.Wk
namespace Go.Wk
open Go Go.RowKit
theorem vu {l:List Nat} {a:Nat} (h:a∈l):∃i:Nat,l[i]? = some a:=List.mem_iff_getElem?.1 h
theorem aeZ {m:Mk} {l l':List Ob} {n:Nat} (h:l'=l∨l'=l ++ [(⟨m.b.length,6,24+8*n⟩:Ob)]):∃t,l'=l ++ t∧∀o∈t,o.kind=6∧m.b.length≤o.bX:=by
  rcases h with h|h
  · exact⟨[],by simp[h],by simp⟩
  exact⟨_,h,by intro o A;simp at A;subst A;exact⟨q,Nat.le_refl _⟩⟩
theorem mj.link {m m':Mk} {l l':List Ob} {es:List fK} {mp:List Nat} {f:Nat→List Nat} {x:Nat} {av:List Nat} {m1:Mk} (h:mj m l es mp f) (L:Linked m m1 l l' 176 m.main av mp x)
    (hb:m'.b=m1.b) (hc:m'.c=m1.c) (hd:m'.ai=m1.ai) (hf:m'.aj=m1.aj) (hm':m'.main=av) (hn:m'.dD 2=m1.dD 2∧m'.dD 4=m1.dD 4):mj m' l' es (mp ++ [x]) f:=by
  obtain⟨X,Y,Z,n,p,T⟩:=L.same
  obtain⟨t,M,S⟩:=aeZ L.sub
  have hO':=L.eS
  have H:∀o∈l,o∈l':=fun o D=>by rw[M];exact List.mem_append_left _ D
  have N:=L.lZ
  have I:∀a,yZ 176 av a→rG l a:=fun a C=>(zX hO' C L.chain.ob (DN hO' (by decide))).mono H
  have E:∀c∈av,c∈m.main∨c=m.b.length:=fun c hc=>by
    rcases L.arr with e|e
    · rw[e]at hc;exact .inl hc
    · rw[e,List.mem_append,List.mem_singleton]at hc;exact hc
  have F:∀c∈av,∀o∈l',o.kind≠6→c≠o.bX:=fun c hc o D hk e=>by
    obtain⟨i,B⟩:=vu hc
    rcases hO'.sep D (L.chain.ob i c B)with G|G|G
    · subst G;exact hk q
    · have:=eC o.size;have:=(hO'.mem D).size.1;simp only at G;omega
    · rw[iB]at G;simp only at G;omega
  have K:m'.ai=m.ai:=hd.trans Y
  refine⟨h.fJ.keep (by rw[hb];exact hO') ⟨t,M,fun o D=>by have:=(S o D).1;omega⟩ (by rw[hb];exact N) I (hc.trans X) (hf.trans Z) ⟨hn.1.trans (T 2 (by decide) (by decide) (by decide)),hn.2.trans (T 4 (by decide) (by decide) (by decide))⟩ (by rw[K];exact lX.refl _),by rw[hb,hm'];exact L.chain,fun i k B=>?_,⟨fun i k B a C hc=>?_,by rw[K];exact h.own.one⟩,fun g U=>by rw[hb];exact(h.ent g U).lZ h.fJ.eS N I H,by rw[M,um fun o D=>by have:=(S o D).1;omega];exact h.kin⟩
  · rw[K]at B
    have J:=h.fJ.data k (List.mem_of_getElem? B)
    have d:=eC (64+k.cM.length)
    have V:272≤k.bX:=(h.fJ.eS.mem J.ob).ge
    rw[hb]
    refine(h.dat i k B).lZ J h.fJ.eS N H (fun a C=>?_) (fun j y R a C=>?_)
    · rcases zW hO' C L.chain.ob (H _ J.ob) (fun c hc=>F c hc _ (H _ J.ob) (by simp))with A|A|A
      · omega
      · simp only at A;omega
      simp only at A;omega
    have Q:=(h.dat i k B).chain.ob j y R
    have O:=(h.dat i k B).chain.le h.fJ.eS R
    have P:∀c∈av,c≠y:=fun c hc e=>by
      subst e
      rcases E c hc with A|A
      · exact h.own.main i k B c (List.mem_of_getElem? R) A
      · omega
    rcases zW hO' C L.chain.ob (H _ Q) P with A|A|A
    · omega
    · simp only at A;omega
    rw[iB]at A;simp only at A;omega
  rw[K]at B;rw[hm']at hc
  rcases E a hc with A|A
  · exact h.own.main i k B a C A
  obtain⟨j,W⟩:=vu C
  have O:=(h.dat i k B).chain.le h.fJ.eS W
  omega
theorem uq {k:bQ} {av:List Nat} {a:Nat} (h:ab4 k av a):(k.bX+40≤a∧a+8≤k.bX+64)∨yZ (k.bX+48) av a:=by
  rcases h with h|h|h
  · left;omega
  · left;omega
  exact .inr h
theorem mj.hang {m m':Mk} {l l':List Ob} {es:List fK} {mp:List Nat} {f:Nat→List Nat} {i e:Nat} {k k':bQ} (h:mj m l es mp f) (hi:m.ai[i]? = some k) (H:ab5 m m' l l' i e k k' (f i)):mj m' l' es mp (fun j=>if j=i then f i ++ [e]else f j):=by
  obtain⟨s1,s3,s4,s5,s6⟩:=H.same
  obtain⟨t,u,ht⟩:=H.sub
  have J:=H.eS
  have M:∀o∈l,o∈l':=fun o N=>by rw[u];exact List.mem_append_left _ N
  have p:=H.lZ
  have T:=h.fJ.data k (List.mem_of_getElem? hi)
  have hu:=eC (64+k.cM.length)
  have Ah:272≤k.bX:=(h.fJ.eS.mem T.ob).ge
  have v:lX m.ai m'.ai:=by rw[H.dat];exact lX.set hi H.bX.1 H.bX.2.1
  have ob':=H.more.chain.ob
  have K:∀c∈k'.bg,c∈k.bg∨c=m.b.length:=fun c G=>by
    rcases H.arr with e|e
    · rw[e]at G;exact .inl G
    · rw[e,List.mem_append,List.mem_singleton]at G;exact G
  have Q:∀c∈k'.bg,∀o∈l',o.kind≠6→c≠o.bX:=fun c G o N hk e=>by
    obtain⟨i,hi⟩:=vu G
    rcases J.sep N (ob' i c hi)with C|C|C
    · subst C;exact hk rfl
    · have:=eC o.size;have:=(J.mem N).size.1;simp only at C;omega
    · rw[iB]at C;simp only at C;omega
  -- what is written stands E from another object's inside
  have E:∀o∈l',o.bX≠k.bX→(∀c∈k'.bg,c≠o.bX)→∀a,ab4 k k'.bg a→a+8≤o.bX∨o.bX+nV o.size≤a:=fun o N x G a F=>by
    have Ak:o.bX+nV o.size≤k.bX∨k.bX+nV (64+k.cM.length)≤o.bX:=by
      rcases J.sep N (M _ T.ob)with C|C|C
      · exact absurd (congrArg Ob.bX C) x
      · exact .inl C
      · exact .inr C
    rcases uq F with B|B
    · omega
    · rcases zW J B (by rw[← H.bX.1]at *;exact ob') N G with d|d
      · omega
      · exact d
  have U:∀a,ab4 k k'.bg a→rG l a:=fun a F=>by
    have hw:∀q,k.bX+40≤q→q+8≤k.bX+64→rG l' q:=fun q B d=>yL J (M _ T.ob) (by simp only;omega) (by simp only;omega) (by simp) (by simp only;omega) (by simp)
    rcases uq F with B|B
    · exact(hw a B.1 B.2).mono M
    · exact(zX J B ob' (hw _ (by omega) (by omega))).mono M
  have A:∀(j:Nat) (y:bQ),m'.ai[j]? = some y→(j=i∧y=k')∨(j≠i∧m.ai[j]? = some y):=fun j y D=>by
    rw[H.dat]at D
    by_cases I:i=j
    · subst I
      rw[List.getElem?_set_self (List.getElem?_eq_some_iff.1 hi).1]at D
      exact .inl ⟨rfl,by simpa using D.symm⟩
    · rw[List.getElem?_set_ne I]at D
      exact .inr ⟨fun e=>I e.symm,D⟩
  have R:=h.fJ.keep J ⟨t,u,fun o N=>by have:=(ht o N).1;omega⟩ p U s1 s3 ⟨s6 2 (by decide) (by decide) (by decide),s6 4 (by decide) (by decide) (by decide)⟩ v
  refine⟨R,?_,fun j y D=>?_,⟨fun j y D a F G=>?_,fun j S y Z a D L F P=>?_⟩,fun g hg=>(h.ent g hg).lZ h.fJ.eS p U M,by rw[u,um fun o N=>by have:=(ht o N).1;omega];exact h.kin⟩
  · rw[s4]
    refine h.main.lZ h.fJ.eS (rX l) (Nat.le_refl _) p M (fun a F=>?_) (fun j y hy a F=>?_)
    · rcases uq F with B|B|⟨j,c,B,d,h3⟩
      · omega
      · omega
      have:=H.more.chain.le J B;omega
    have O:=h.main.ob j y hy
    have w:=h.main.le h.fJ.eS hy
    have:=E _ (M _ O) (fun e=>by
      have:=h.fJ.eS.sep O T.ob
      rcases this with C|C|C
      · cases C
      · rw[iB]at C;simp only at C e;omega
      · simp only at C e;omega) (fun c G e=>by
      simp only at e;subst e
      rcases K c G with B|B
      · exact h.own.main i k hi c B (List.mem_of_getElem? hy)
      · omega) a F
    rw[iB]at this
    simp only at this;omega
  · rcases A j y D with⟨rfl,rfl⟩|⟨I,D⟩
    · rw[if_pos rfl];exact H.more
    rw[if_neg I]
    have r:=h.fJ.data y (List.mem_of_getElem? D)
    have Al:=eC (64+y.cM.length)
    have Aa:y.bX≠k.bX:=fun e=>I (h.fJ.one j i y k D hi (.inl e))
    refine(h.dat j y D).lZ r h.fJ.eS p M (fun a F=>?_) (fun n z X a F=>?_)
    · have:=E _ (M _ r.ob) Aa (fun c G=>Q c G _ (M _ r.ob) (by simp)) a F
      simp only at this;omega
    have O:=(h.dat j y D).chain.ob n z X
    have w:=(h.dat j y D).chain.le h.fJ.eS X
    have:=E _ (M _ O) (fun e=>by
      have:=h.fJ.eS.sep O T.ob
      rcases this with C|C|C
      · cases C
      · rw[iB]at C;simp only at C e;omega
      · simp only at C e;omega) (fun c G e=>by
      simp only at e;subst e
      rcases K c G with B|B
      · exact I (h.own.one j i y k c D hi (List.mem_of_getElem? X) B)
      · omega) a F
    rw[iB]at this
    simp only at this;omega
  · rw[s4]at G
    rcases A j y D with⟨rfl,rfl⟩|⟨I,D⟩
    · rcases K a F with B|B
      · exact h.own.main j k hi a B G
      obtain⟨n,hn⟩:=vu G
      have:=h.main.le h.fJ.eS hn;omega
    exact h.own.main j y D a F G
  have Y:∀(n:Nat) (z:bQ),m.ai[n]? = some z→m.b.length∉z.bg:=fun n z X W=>by
    obtain⟨q,hq⟩:=vu W
    have:=(h.dat n z X).chain.le h.fJ.eS hq;omega
  rcases A j y D with⟨rfl,rfl⟩|⟨I,D⟩
  · rcases A S Z L with⟨rfl,rfl⟩|⟨V,L⟩
    · rfl
    rcases K a F with B|B
    · exact h.own.one j S k Z a hi L B P
    subst B;exact absurd P (Y S Z L)
  rcases A S Z L with⟨rfl,rfl⟩|⟨V,L⟩
  · rcases K a P with B|B
    · exact h.own.one j S y k a D hi F B
    subst B;exact absurd F (Y j y D)
  exact h.own.one j S y Z a D L F P
end Go.Wk
namespace Go.Wk
open Go
abbrev XM (p q:Pr):Prop:=Op.bytesLess (whole p.pb) (whole q.pb)=true
theorem yT (p:Pr):¬XM p p:=by unfold XM;rw[Y3];simp
theorem EB {p q r:Pr} (h:XM p q) (k:XM q r):XM p r:=JD h k
theorem ac6 {p q:Pr} (hp:right p.pb=true) (hq:right q.pb=true) (h:¬XM p q) (k:¬XM q p):p=q :=
  xq.1 (XI hp hq (Y4 (by simpa [XM]using h) (by simpa [XM]using k)))
abbrev Asc (l:List Pr):Prop:=l.Pairwise XM
theorem PU:∀{l m:List Pr},Asc l→Asc m→(∀p,p∈l↔p∈m)→l=m
  | [],[],_,_,_=>rfl
  | [],b :: m,_,_,h=>by have:=(h b).2 (by simp);simp at this
  | a :: l,[],_,_,h=>by have:=(h a).1 (by simp);simp at this
  | a :: l,b :: m,hl,hm,h=>by
    obtain⟨hl1,hl2⟩:=List.pairwise_cons.1 hl
    obtain⟨hm1,hm2⟩:=List.pairwise_cons.1 hm
    have e:a=b:=by
      rcases List.mem_cons.1 ((h a).1 (by simp))with e|A
      · exact e
      · rcases List.mem_cons.1 ((h b).2 (by simp))with e|C
        · exact e.symm
        · exact absurd (EB (hl1 b C) (hm1 a A)) (yT a)
    subst e
    congr 1
    refine PU hl2 hm2 fun p=>⟨fun B=>?_,fun B=>?_⟩
    · rcases List.mem_cons.1 ((h p).1 (by simp[B]))with rfl|A
      · exact absurd (hl1 p B) (yT p)
      · exact A
    · rcases List.mem_cons.1 ((h p).2 (by simp[B]))with rfl|A
      · exact absurd (hm1 p B) (yT p)
      · exact A
def yw (p:Pr):List Pr→List Pr
  | []=>[p]
  | q :: r=>if Op.bytesLess (aG q) (aG p)=true then q :: yw p r else if q.pb=p.pb then q :: r else p :: q :: r
theorem EH (t:Ly) (o:List Pr) (k:Nat):kV t o (k+1)=kV t o k+1:=by
  induction o generalizing k with
  | nil=>rfl
  | cons q r ih=>unfold kV;split <;> simp[ih]
theorem acG (t:Ly) (o:List Pr):kV t o 0≤o.length:=by
  induction o with
  | nil=>simp[kV]
  | cons q r ih=>unfold kV;split <;> simp[EH,ih]
theorem ET:∀(n j:Nat) (o:List Pr),(jl n j o).length=o.length
  | 0,_,_=>rfl
  | n+1,j,o=>by unfold jl;rw[ET n];simp
theorem ES:∀(n j:Nat) (o:List Pr),n≤j→j<o.length→∀i,i<o.length→(jl n j o)[i]? = if j-n<i∧i≤j then o[i-1]? else o[i]?
  | 0,j,o,_,_,i,_=>by simp[jl];intro h1 h2;omega
  | n+1,j,o,hn,hj,i,hi=>by
    unfold jl
    have hd:o.getD (j-1) {name:=[],value:=[]}=o[j-1]:=by simp[List.getD,show j-1<o.length by omega]
    rw[ES n (j-1) _ (by omega) (by simp;omega) i (by simpa using hi),hd]
    by_cases h1:j-1-n<i∧i≤j-1
    · rw[if_pos h1,if_pos (by omega),List.getElem?_set_ne (by omega)]
    · rw[if_neg h1]
      by_cases h2:i=j
      · subst h2
        rw[if_pos (by omega),List.getElem?_set_self hj,List.getElem?_eq_getElem (show i-1<o.length by omega)]
      · rw[if_neg (by omega),List.getElem?_set_ne (by omega)]
theorem WQ (o:List Pr) (k:Nat) (p d:Pr) (hk:k≤o.length):(jl (o.length-k) o.length (o ++ [d])).set k p=o.take k ++ p :: o.drop k:=by
  apply List.ext_getElem?
  intro i
  have A:(jl (o.length-k) o.length (o ++ [d])).length=o.length+1:=by rw[ET];simp
  by_cases hi:i<o.length+1
  · by_cases h1:i=k
    · subst h1
      rw[List.getElem?_set_self (by omega),List.getElem?_append_right (by simp;omega)]
      simp[Nat.min_eq_left hk]
    rw[List.getElem?_set_ne (Ne.symm h1),ES _ _ _ (by omega) (by simp) i (by simp;omega)]
    by_cases h2:o.length-(o.length-k)<i∧i≤o.length
    · rw[if_pos h2,List.getElem?_append_left (by omega),List.getElem?_append_right (by simp;omega)]
      simp only[List.length_take,Nat.min_eq_left hk]
      obtain⟨m,rfl⟩:∃m,i=k+1+m:=⟨i-(k+1),by omega⟩
      rw[show k+1+m-k=m+1 by omega,List.getElem?_cons_succ,List.getElem?_drop]
      congr 1;omega
    rw[if_neg h2,List.getElem?_append_left (by omega),List.getElem?_append_left (by simp;omega),List.getElem?_take,if_pos (by omega)]
  rw[List.getElem?_eq_none (by simp[A];omega),List.getElem?_eq_none (by simp;omega)]
theorem aem (p:Pr) (o:List Pr):rI p o=yw p o:=by
  have A:∀o:List Pr,(kV (aG p) o 0<o.length∧(o.getD (kV (aG p) o 0) {name:=[],value:=[]}).pb=p.pb→yw p o=o) ∧
      (¬(kV (aG p) o 0<o.length∧(o.getD (kV (aG p) o 0) {name:=[],value:=[]}).pb=p.pb)→yw p o=o.take (kV (aG p) o 0) ++ p :: o.drop (kV (aG p) o 0)):=by
    intro o
    induction o with
    | nil=>simp[kV,yw]
    | cons q r ih =>
      unfold kV yw
      by_cases h1:Op.bytesLess (aG q) (aG p)=true
      · rw[if_pos h1,if_pos h1,EH]
        simp only[List.length_cons,Nat.add_lt_add_iff_right,List.getD_cons_succ,List.take_succ_cons,List.drop_succ_cons,List.cons_append,List.cons.injEq,true_and]
        exact ih
      · rw[if_neg h1,if_neg h1]
        simp only[List.length_cons,Nat.zero_lt_succ,true_and,List.getD_cons_zero,List.take_zero,List.drop_zero,List.nil_append]
        exact⟨fun h=>if_pos h,fun h=>if_neg h⟩
  unfold rI
  simp only
  split
  · rename_i h;exact((A o).1 h).symm
  rename_i h;rw[WQ _ _ _ _ (acG _ _)];exact((A o).2 h).symm
theorem GJ {p q:Pr} {o:List Pr}:q∈yw p o↔q=p∨q∈o:=by
  induction o with
  | nil=>simp[yw]
  | cons x r ih =>
    unfold yw
    split
    · simp[ih];constructor
      · rintro(h|h|h) <;> simp[h]
      · rintro(h|h|h) <;> simp[h]
    · split
      · rename_i h;rw[xq]at h;subst h;simp
      · simp
theorem abC {p:Pr} {o:List Pr} (hp:right p.pb=true) (ho:∀q∈o,right q.pb=true) (h:Asc o):Asc (yw p o):=by
  induction o with
  | nil=>simp[yw]
  | cons x r ih =>
    obtain⟨C,D⟩:=List.pairwise_cons.1 h
    unfold yw
    split
    · rename_i hx
      refine List.pairwise_cons.2 ⟨fun q A=>?_,ih (fun q A=>ho q (by simp[A])) D⟩
      rcases GJ.1 A with rfl|A
      · exact hx
      · exact C q A
    · rename_i hx
      split
      · exact h
      · rename_i hne
        have B:XM p x:=by
          cases hb:Op.bytesLess (whole p.pb) (whole x.pb)with
          | true=>exact hb
          | false=>exact absurd (xq.2 (ac6 (ho x (by simp)) hp hx (by simp[XM,hb]))) hne
        refine List.pairwise_cons.2 ⟨fun q A=>?_,h⟩
        rcases List.mem_cons.1 A with rfl|A
        · exact B
        · exact EB B (C q A)
theorem QC:∀(l o x:List Pr),MP l o=(x,0)→(∀q∈o,right q.pb=true)→Asc o→Asc x∧(∀q∈x,right q.pb=true)∧(∀q,q∈x↔q∈o∨q∈l)∧x.length≤16
  | [],o,x,h,hr,ha=>by
    unfold MP at h
    split at h
    · simp at h
    · rename_i hl
      obtain⟨rfl,_⟩:=Prod.mk.inj h
      exact⟨ha,hr,by simp,by omega⟩
  | p :: r,o,x,h,hr,ha=>by
    unfold MP at h
    split at h
    · rename_i h1;exact absurd (Prod.mk.inj h).2 h1
    · rename_i h1
      have hp:right p.pb=true:=xR.1 (Classical.not_not.1 h1)
      rw[aem]at h
      obtain⟨g1,g2,g3,g4⟩:=QC r _ x h (fun q hq=>by
        rcases GJ.1 hq with rfl|hq
        · exact hp
        · exact hr q hq) (abC hp hr ha)
      refine⟨g1,g2,fun q=>?_,g4⟩
      rw[g3,GJ,List.mem_cons]
      constructor
      · rintro((h|h)|h)
        · exact .inr (.inl h)
        · exact .inl h
        · exact .inr (.inr h)
      · rintro(h|h|h)
        · exact .inl (.inr h)
        · exact .inl (.inl h)
        · exact .inr h
theorem wW {l x:List Pr} (h:kE l=(x,0)):Asc x∧(∀q∈x,right q.pb=true)∧(∀q,q∈x↔q∈l)∧x.length≤16∧x≠[]:=by
  unfold kE at h
  split at h
  · simp at h
  rename_i h0
  obtain⟨B,C,A,D⟩:=QC l [] x h (by simp) List.Pairwise.nil
  refine⟨B,C,by simpa using A,D,?_⟩
  rintro rfl
  cases l with
  | nil=>simp at h0
  | cons y r=>exact absurd ((A y).2 (by simp)) (by simp)
end Go.Wk
namespace Go.Wk
open Go Go.RowKit
def iZ (ds:List bQ) (i:Nat):List UInt8:=(ds.getD i known0).cM
def oU (ds ds':List bQ):Prop:=∀(i:Nat) (k:bQ),ds[i]? = some k→∃k',ds'[i]? = some k'∧k'.bX=k.bX∧k'.cM=k.cM
theorem oU.refl (ds:List bQ):oU ds ds:=fun _ k h=>⟨k,h,q,q⟩
theorem oU.trans {a b c:List bQ} (h:oU a b) (k:oU b c):oU a c:=fun i x hx=>by
  obtain⟨y,h1,h2,h3⟩:=h i x hx
  obtain⟨z,h4,h5,h6⟩:=k i y h1
  exact⟨z,h4,h5.trans h2,h6.trans h3⟩
theorem lX.ext {a b:List bQ} (h:lX a b):oU a b:=fun i k hk=>by
  have hl:=(List.getElem?_eq_some_iff.1 hk).1
  obtain⟨k',hk'⟩:∃k',b[i]? = some k':=⟨_,List.getElem?_eq_getElem (by rw[h.len];exact hl)⟩
  obtain⟨k0,h1,h2,h3⟩:=h.get i k' hk'
  rw[hk]at h1;cases h1
  exact⟨k',hk',h2,h3⟩
theorem oU.at {a b:List bQ} (h:oU a b) {i:Nat} (hi:i<a.length):i<b.length∧gB b i=gB a i∧iZ b i=iZ a i:=by
  obtain⟨D,A,B,C⟩:=h i _ (List.getElem?_eq_getElem hi)
  refine⟨(List.getElem?_eq_some_iff.1 A).1,?_,?_⟩
  · unfold gB;simp only[List.getD_eq_getElem?_getD,A,List.getElem?_eq_getElem hi,Option.getD_some];exact B
  unfold iZ;simp only[List.getD_eq_getElem?_getD,A,List.getElem?_eq_getElem hi,Option.getD_some];exact C
theorem yX.ext {m m':Mk} {l l':List Ob} {i:Nat} {t:Ly} (d:yX m m' l l' i t):oU m.ai m'.ai:=by
  rcases d.new with e|⟨s,p,e,_⟩
  · rw[e];exact oU.refl _
  rw[e];exact fun j k A=>⟨k,by rw[List.getElem?_append_left (List.getElem?_eq_some_iff.1 A).1];exact A,q,q⟩
theorem kX {ds:List bQ} {i:Nat} {k:bQ} (h:ds[i]? = some k):iZ ds i=k.cM∧gB ds i=k.bX:=by
  unfold iZ gB
  simp only[List.getD_eq_getElem?_getD,h,Option.getD_some,and_self]
theorem zo (ds:List bQ) (p:Nat) (od:List Nat):∀n,n≤od.length→(∀j,lu ds p od n≤j→j<n→p<gB ds (od.getD j 0))∧(0<lu ds p od n→gB ds (od.getD (lu ds p od n-1) 0)≤p)
  | 0,_=>⟨fun j h1 h2=>by omega,fun h=>by simp[lu]at h⟩
  | n+1,hn=>by
    rw[lu]
    split
    · rename_i hp
      obtain⟨g1,g2⟩:=zo ds p od n (by omega)
      refine⟨fun j h1 h2=>?_,g2⟩
      by_cases hj:j=n
      · subst hj;exact hp
      · exact g1 j h1 (by omega)
    · rename_i hp
      exact⟨fun j h1 h2=>by omega,fun _=>by simp only[Nat.add_sub_cancel];omega⟩
theorem AZ {α:Type} {R:α→α→Prop} {l:List α} {n:Nat} {x:α} (h:l.Pairwise R) (h1:∀y∈l.take n,R y x) (h2:∀y∈l.drop n,R x y):(l.take n ++ [x] ++ l.drop n).Pairwise R:=by
  rw[List.append_assoc,List.singleton_append]
  refine List.pairwise_append.2 ⟨h.take,List.pairwise_cons.2 ⟨h2,h.drop⟩,fun a C b A=>?_⟩
  rcases List.mem_cons.1 A with rfl|A
  · exact h1 a C
  have B:=h
  rw[← List.take_append_drop n l]at B
  exact(List.pairwise_append.1 B).2.2 a C b A
theorem HJ {ds:List bQ} {k:Nat} {od:List Nat} (h:od.Pairwise fun a b=>gB ds a<gB ds b) (hk:∀i∈od,gB ds i≠gB ds k):(mG ds k od).Pairwise fun a b=>gB ds a<gB ds b:=by
  obtain⟨E,F⟩:=zo ds (gB ds k) od od.length (Nat.le_refl _)
  have I:=zn ds (gB ds k) od od.length
  unfold mG
  simp only
  generalize lu ds (gB ds k) od od.length=n at *
  refine AZ h (fun y D=>?_) (fun y D=>?_)
  · obtain⟨i,B⟩:=List.mem_iff_getElem?.1 D
    rw[List.getElem?_take]at B
    split at B
    · rename_i hin
      have G:=hk y (List.mem_of_getElem? B)
      have C:=(List.getElem?_eq_some_iff.1 B).1
      have J:=F (by omega)
      have A:od[n-1]? = some (od.getD (n-1) 0):=by simp[List.getD,List.getElem?_eq_getElem (show n-1<od.length by omega)]
      have:gB ds y≤gB ds (od.getD (n-1) 0):=by
        by_cases he:i=n-1
        · subst he;rw[B]at A;have:=Option.some.inj A;rw[← this];exact Nat.le_refl _
        · have H:=List.pairwise_iff_getElem.1 h i (n-1) C (by omega) (by omega)
          rw[List.getElem?_eq_getElem C]at B
          rw[List.getElem?_eq_getElem (show n-1<od.length by omega)]at A
          rw[Option.some.inj B,Option.some.inj A]at H
          omega
      omega
    cases B
  obtain⟨i,B⟩:=List.mem_iff_getElem?.1 D
  rw[List.getElem?_drop]at B
  have C:=(List.getElem?_eq_some_iff.1 B).1
  have:=E (n+i) (by omega) C
  rw[List.getD_eq_getElem?_getD,B]at this
  exact this
theorem OD (ds:List bQ) (k:Nat) (od:List Nat):(mG ds k od).Perm (k :: od):=by
  unfold mG
  simp only
  generalize lu ds (gB ds k) od od.length=n
  rw[List.append_assoc,List.singleton_append]
  have:=List.perm_middle (a:=k) (l₁:=od.take n) (l₂:=od.drop n)
  rw[List.take_append_drop]at this
  exact this
structure ab7 (m:Mk) (dl:List Pr) (ps:List (List UInt8)) (od:List Nat):Prop where
  eq:ps=dl.map aG
  lt:∀i∈od,i<m.ai.length
  perm:(od.map (iZ m.ai)).Perm ps
  BO:od.Pairwise fun a b=>gB m.ai a<gB m.ai b
theorem KZ {p q:Pr} (hp:right p.pb=true) (hq:right q.pb=true) (h:aG p=aG q):p=q:=by
  have A:=(nS ((me _).2 hp)).2
  have B:=(nS ((me _).2 hq)).2
  have C:whole p.pb=whole q.pb:=h
  rw[C,B]at A
  exact(xq.1 A).symm
theorem XJ {m m':Mk} {l l':List Ob} {dl:List Pr} {ps:List (List UInt8)} {od:List Nat} {i:Nat} {x:Pr} (h:ab7 m dl ps od) (hs:Stat m l) (d:yX m m' l l' i (aG x)) (hn:aG x∉dl.map aG) :
    ab7 m' (dl ++ [x]) (ps ++ [(m'.ai.getD i known0).cM]) (mG m'.ai i od):=by
  have C:=d.ext
  obtain⟨k,hk,E⟩:=d.got
  obtain⟨F,L⟩:=kX hk
  have J:=(List.getElem?_eq_some_iff.1 hk).1
  have G:(m'.ai.getD i known0).cM=aG x:=F.trans E
  have A:od.map (iZ m'.ai)=od.map (iZ m.ai):=List.map_congr_left fun j B=>(C.at (h.lt j B)).2.2
  have D:i∉od:=fun K=>by
    have H:iZ m'.ai i∈od.map (iZ m'.ai):=List.mem_map.2 ⟨i,K,q⟩
    rw[A]at H
    have:=h.perm.subset H
    rw[h.eq,F,E]at this
    exact hn this
  refine⟨by rw[G,h.eq];simp,fun j B=>?_,?_,?_⟩
  · rcases EA B with rfl|B
    · exact J
    exact(C.at (h.lt j B)).1
  · refine((OD m'.ai i od).map _).trans ?_
    rw[List.map_cons,A,F,E,G]
    exact(List.Perm.cons _ h.perm).trans (List.perm_append_comm (l₁:=[aG x]))
  refine HJ ?_ fun j B e=>?_
  · refine List.Pairwise.imp_of_mem (fun {a b} ha hb hab=>?_) h.BO
    rw[(C.at (h.lt a ha)).2.1,(C.at (h.lt b hb)).2.1];exact hab
  obtain⟨y,I⟩:∃y,m'.ai[j]? = some y:=⟨_,List.getElem?_eq_getElem (C.at (h.lt j B)).1⟩
  rw[(kX I).2,L]at e
  have:=d.fJ.one j i y k I hk (.inl e)
  subst this;exact D B
structure ab1 (m m':Mk) (l l':List Ob) (es:List fK) (mp:List Nat) (f:Nat→List Nat):Prop where
  img:mj m' l' es mp f
  ext:oU m.ai m'.ai
  same:m'.c=m.c∧m'.main=m.main∧∀i,i≠6→i≠7→i<15→m'.dD i=m.dD i
  len:m.ai.length≤m'.ai.length
theorem CN:∀(fs dl:List Pr) (m:Mk) (l:List Ob) (ps:List (List UInt8)) (od:List Nat) (es:List fK) (mp:List Nat) (f:Nat→List Nat),mj m l es mp f→(∀i,m.ai.length≤i→f i=[])→ab7 m dl ps od→(∀q∈fs,BD q)→((dl ++ fs).map aG).Nodup →
    ∃l',ab1 m (ir fs m ps od).2.2 l l' es mp f∧ab7 (ir fs m ps od).2.2 (dl ++ fs) (ir fs m ps od).1 (ir fs m ps od).2.1
  | [],dl,m,l,ps,od,es,mp,f,h,hf,hw,_,_=>⟨l,⟨h,oU.refl _,⟨rfl,rfl,fun _ _ _ _=>rfl⟩,Nat.le_refl _⟩,by rw[List.append_nil];exact hw⟩
  | x :: r,dl,m,l,ps,od,es,mp,f,h,hf,hw,hb,hnd=>by
    obtain⟨l1,d⟩:=abK h.fJ x (hb x (by simp))
    have hx:aG x∉dl.map aG:=fun hm=>by
      rw[List.map_append,List.map_cons]at hnd
      exact(List.nodup_append.1 hnd).2.2 _ hm _ (by simp) rfl
    have g:=h.soft d hf
    have w:=XJ hw h.fJ d hx
    have hle:m.ai.length≤(m.data x).2.ai.length:=by
      rcases d.new with e|⟨s,p,e,_⟩ <;> rw[e] <;> simp
    obtain⟨l',A,E⟩:=CN r (dl ++ [x]) (m.data x).2 l1 _ _ es mp f g (fun i G=>hf i (by omega)) w (fun q F=>hb q (by simp[F])) (by rw[List.append_assoc];exact hnd)
    rw[List.append_assoc]at E
    refine⟨l',⟨A.img,d.ext.trans A.ext,⟨A.same.1.trans d.step.same.1,A.same.2.1.trans d.step.same.2.1,fun i B C D=>(A.same.2.2 i B C D).trans (d.step.same.2.2 i B C D)⟩,lj hle A.len⟩,E⟩
end Go.Wk
namespace Go.Wk
open Go Go.RowKit
theorem XK:∀{a b:List (List UInt8)},a.Perm b→∀v,mQ v a=mQ v b:=by
  intro a b h
  induction h with
  | nil=>exact fun _=>rfl
  | cons x _ ih=>exact fun v=>ih _
  | swap x y l=>intro v;simp only[mQ];congr 1;rw[Nat.xor_assoc,Nat.xor_assoc,Nat.xor_comm (qo y)]
  | trans _ _ ih1 ih2=>exact fun v=>(ih1 v).trans (ih2 v)
theorem SB:∀(l:List (List UInt8)) (v:Nat),v<18446744073709551616→mQ v l<18446744073709551616
  | [],_,h=>h
  | x :: r,v,h=>SB r _ (BN h (zZ x))
structure ab3 (m m':Mk) (l':List Ob) (es:List fK) (mp:List Nat) (f:Nat→List Nat) (e n:Nat) (od:List Nat):Prop where
  img:mj m' l' es mp (fun j=>if j∈od then f j ++ [e]else f j)
  ds:lX m.ai m'.ai
  same:m'.c=m.c∧m'.aj=m.aj∧m'.main=m.main∧m'.depth=m.depth∧∀i,i≠6→i≠7→i≠18→m'.dD i=m.dD i
  top:m'.b.length≤m.b.length+2100*n
  ge:m.b.length≤m'.b.length
theorem lX.trans {a b c:List bQ} (h:lX a b) (k:lX b c):lX a c:=⟨k.len.trans h.len,fun i x hx=>by
  obtain⟨y,h1,h2,h3⟩:=k.get i x hx
  obtain⟨z,h4,h5,h6⟩:=h.get i y h1
  exact⟨z,h4,h2.trans h5,h3.trans h6⟩⟩
theorem JP {es:List fK} {mp:List Nat} {e:Nat} (he:e<18446744073709551616):∀(od:List Nat) (m:Mk) (l:List Ob) (f:Nat→List Nat),mj m l es mp f→(∀i∈od,i<m.ai.length)→od.Nodup→(∀i∈od,(f i).length<900000)→m.b.length+2100*od.length<900000 →
    ∃l',ab3 m (kO e od m) l' es mp f e od.length od
  | [],m,l,f,h,_,_,_,_=>⟨l,⟨by simp only[List.not_mem_nil,if_false];exact h,lX.refl _,⟨q,q,q,q,fun _ _ _ _=>rfl⟩,Nat.le_refl _,Nat.le_refl _⟩⟩
  | i :: r,m,l,f,h,hi,hn,hl,hb=>by
    obtain⟨k,hk⟩:∃k,m.ai[i]? = some k:=⟨_,List.getElem?_eq_getElem (hi i (by simp))⟩
    simp only[List.length_cons]at hb
    obtain⟨l1,k1,H⟩:=Zn (e:=e) h.fJ.eS hk (h.fJ.data k (List.mem_of_getElem? hk)) (h.dat i k hk) (by omega) he (by have:=hl i (by simp);omega)
    have g:=h.hang hk H
    have hd1:lX m.ai (kN e i m).ai:=by rw[H.dat];exact lX.set hk H.bX.1 H.bX.2.1
    have T:=H.top
    obtain⟨J,K,L,M,N⟩:=H.same
    rw[pq]
    rw[List.nodup_cons]at hn
    have I:∀j∈r,(if j=i then f i ++ [e]else f j)=f j:=fun j A=>if_neg (by rintro rfl;exact hn.1 A)
    obtain⟨l',B⟩:=JP he r (kN e i m) l1 _ g (fun j A=>by rw[hd1.len];exact hi j (by simp[A])) hn.2 (fun j A=>by simp only[I j A];exact hl j (by simp[A])) (by omega)
    obtain⟨O,P,Q,R,S⟩:=B.same
    have F:=B.top
    refine⟨l',⟨?_,hd1.trans B.ds,⟨O.trans J,P.trans K,Q.trans L,R.trans M,fun j D E C=>(S j D E C).trans (N j D E C)⟩,by simp only[List.length_cons];omega,lj H.lZ.len B.ge⟩⟩
    have G:(fun j=>if j∈i :: r then f j ++ [e]else f j)=fun j=>if j∈r then(if j=i then f i ++ [e]else f j) ++ [e]else if j=i then f i ++ [e]else f j:=by
      funext j
      by_cases A:j=i
      · subst A;simp[hn.1]
      · simp[A]
    rw[G]
    exact B.img
def places (es:List fK) (i:Nat):List Nat:=(es.filter fun g=>decide (i∈g.who)).map fK.bX
theorem OE (es:List fK) (g:fK) (i:Nat):places (es ++ [g]) i=if i∈g.who then places es i ++ [g.bX]else places es i:=by
  unfold places
  rw[List.filter_append,List.map_append]
  by_cases h:i∈g.who
  · rw[if_pos h];simp[h]
  rw[if_neg h];simp[h]
theorem OG (es:List fK) (i:Nat):(places es i).length≤es.length:=by unfold places;rw[List.length_map];exact List.length_filter_le _ _
structure uL (m:Mk) (g:fK):Prop where
  lt:∀i∈g.who,i<m.ai.length
  aH:g.ent.aH=g.who.map fun i=>{bX:=gB m.ai i,dY:=ic m (iZ m.ai i)}
  BO:g.who.Pairwise fun a b=>gB m.ai a<gB m.ai b
  xor:g.ent.xor=mQ 0 (g.who.map (iZ m.ai))
  ok:gU.ok g.ent∧g.ent.seq≠0
  len:1≤g.who.length∧g.who.length≤16
structure IQ (m:Mk) (g:fK) (r:Rec):Prop where
  seq:g.ent.seq=r.seq
  cF:g.ent.cF=r.cF
  mono:g.ent.mono=r.mono
  ck:g.ent.ck=r.ck
  aj:(g.who.map (iZ m.ai)).Perm (r.aj.map aG)
  BO:Asc r.aj
  right:∀q∈r.aj,right q.pb=true
theorem uL.ext {m m':Mk} {g:fK} (h:uL m g) (hd:oU m.ai m'.ai) (hc:m'.c=m.c):uL m' g:=by
  have B:∀t,ic m' t=ic m t:=fun t=>by unfold ic;rw[hc]
  refine⟨fun i A=>(hd.at (h.lt i A)).1,?_,?_,?_,h.ok,h.len⟩
  · rw[h.aH]
    exact List.map_congr_left fun i A=>by rw[(hd.at (h.lt i A)).2.1,(hd.at (h.lt i A)).2.2,B]
  · exact List.Pairwise.imp_of_mem (fun {a b} ha hb hab=>by rw[(hd.at (h.lt a ha)).2.1,(hd.at (h.lt b hb)).2.1];exact hab) h.BO
  rw[h.xor]
  congr 1
  exact(List.map_congr_left fun i A=>(hd.at (h.lt i A)).2.2).symm
theorem IQ.ext {m m':Mk} {g:fK} {r:Rec} (h:IQ m g r) (w:uL m g) (hd:oU m.ai m'.ai):IQ m' g r:=by
  refine⟨h.seq,h.cF,h.mono,h.ck,?_,h.BO,h.right⟩
  have:g.who.map (iZ m'.ai)=g.who.map (iZ m.ai):=List.map_congr_left fun i A=>(hd.at (w.lt i A)).2.2
  rw[this];exact h.aj
structure Img (m:Mk) (l:List Ob) (es:List fK):Prop where
  c:mj m l es (es.map fK.bX) (places es)
  n8:m.dD 8=es.length
  n9:m.dD 9<18446744073709551616
  n11:m.dD 11=m.main.getD 0 0
  who:∀g∈es,uL m g
  txt:∀k∈m.ai,∃q:Pr,right q.pb=true∧k.cM=aG q
theorem OH {es:List fK} {m:Mk} (h:∀g∈es,uL m g) (i:Nat) (hi:m.ai.length≤i):places es i=[]:=by
  unfold places
  rw[List.map_eq_nil_iff,List.filter_eq_nil_iff]
  intro g A
  simp only[decide_eq_true_eq]
  intro B
  have:=(h g A).lt i B
  omega
theorem mj.to {m m':Mk} {l:List Ob} {es:List fK} {mp:List Nat} {f:Nat→List Nat} (h:mj m l es mp f) (hb:m'.b=m.b) (hc:m'.c=m.c) (hd:m'.ai=m.ai) (hf:m'.aj=m.aj) (hm:m'.main=m.main) (hn:m'.dD 2=m.dD 2∧m'.dD 4=m.dD 4):mj m' l es mp f:=by
  have B:∀t,ic m' t=ic m t:=fun t=>by unfold ic;rw[hc]
  obtain⟨⟨C,D,E,F,G,H,I,J,K,A⟩,L,M,⟨N,O⟩,P,Q⟩:=h
  exact⟨⟨by rw[hb];exact C,by rw[hc];exact D,by rw[hc];exact E,hn.1.trans F,by rw[hc];exact hn.2.trans G,by rw[hc];exact H,fun k hk=>by rw[hb,B];exact I k (hd ▸ hk),fun k hk=>by rw[hb,B];exact J k (hf ▸ hk),by rw[hd];exact K,by rw[hd];exact A⟩,by rw[hb,hm];exact L,by rw[hb,hd];exact M,⟨by rw[hd,hm];exact N,by rw[hd];exact O⟩,by rw[hb];exact P,Q⟩
end Go.Wk
namespace Go.Wk
open Go Go.RowKit
theorem JJ (z:Mk) (n seq cF mono e:Nat) (ck:Ly) (i:Nat) (h:i≠8∧i≠9∧i≠10∧i≠12∧i≠13∧i≠14):(pn z n seq cF mono e ck).dD i=z.dD i:=by
  unfold pn
  simp only
  have A:(if n=0 then(z.dW 10 seq).dW 12 cF else z).dD i=z.dD i:=by
    split
    · rw[fw (by omega),fw (by omega)]
    · rfl
  generalize (if n=0 then(z.dW 10 seq).dW 12 cF else z)=y at *
  rw[← A]
  show((((y.dW 8 ((y.dD 8+1)%18446744073709551616)).dW 9 seq).dW 13 cF).dW 14 mono).dD i=y.dD i
  rw[fw (by omega),fw (by omega),fw (by omega),fw (by omega)]
theorem SQ {ds:List bQ} {od:List Nat} (h:od.Pairwise fun a b=>gB ds a<gB ds b):od.Nodup :=
  List.Pairwise.imp (fun {a b} hab e=>by subst e;exact Nat.lt_irrefl _ hab) h
theorem JA {fs:List Pr} (h:Asc fs) (hr:∀q∈fs,right q.pb=true):(fs.map aG).Nodup:=by
  unfold List.Nodup
  rw[List.pairwise_map]
  exact List.Pairwise.imp_of_mem (fun {a b} ha hb hab e=>by
    have:=KZ (hr a ha) (hr b hb) e
    subst this;exact yT _ hab) h
theorem zw:∀(fs:List Pr) (m:Mk) (ps:List (List UInt8)) (od:List Nat),∀k∈(ir fs m ps od).2.2.ai,k∈m.ai∨∃q∈fs,k.cM=aG q
  | [],m,_,_,k,hk=>.inl hk
  | x :: r,m,ps,od,k,hk=>by
    rcases zw r (m.data x).2 _ _ k hk with h|⟨q,h1,h2⟩
    · rcases CK k h with h|h
      · exact .inl h
      · exact .inr ⟨x,by simp,h⟩
    · exact .inr ⟨q,by simp[h1],h2⟩
structure afj (m m':Mk) (l':List Ob) (es:List fK) (g:fK) (r:Rec):Prop where
  img:Img m' l' (es ++ [g])
  rcd:IQ m' g r
  ext:oU m.ai m'.ai
  c:m'.c=m.c
  seq:r.seq=m.dD 9+1∧m'.dD 9=r.seq
  ge:m.b.length≤g.bX
  main:∃t,m'.main=m.main ++ t
  len:m.b.length≤m'.b.length
  dD:∀i,i≤5→m'.dD i=m.dD i
theorem SK {m m':Mk} {l:List Ob} {es:List fK} {raw:List Pr} {cF mono s:Nat} {ck:Ly} (h:Img m l es) (ok:uN m) (h20:m.h.n.length=20) (hb:ck.length=16) (hr:cF<18446744073709551616∧mono<18446744073709551616) (ha:m.append raw cF mono ck=(s,0,m')) :
    ∃l' g fs,kE raw=(fs,0)∧afj m m' l' es g {seq:=s,cF:=cF,mono:=mono,ck:=ck,aj:=fs}:=by
  rcases hl:kE raw with⟨fs,c⟩
  by_cases G:c≠0
  · have e:m.append raw cF mono ck=(0,c,m):=by unfold Mk.append;simp only[hl];rw[if_pos G]
    rw[e]at ha
    exact absurd (congrArg (fun x=>x.2.1) ha) G
  have Ah:=Classical.not_not.1 G
  subst Ah
  by_cases v:m.dD 9=18446744073709551615
  · have e:m.append raw cF mono ck=(0,1,m):=by unfold Mk.append;simp only[hl];rw[if_neg G,if_pos v]
    rw[e]at ha
    have:=congrArg (fun x=>x.2.1) ha
    simp at this
  obtain⟨J,A,A6,Ap,Aq⟩:=wW hl
  obtain⟨bd,_⟩:=vt hl
  have D:=wG fs m [] [] 0 (rR ok) bd
  obtain⟨l1,Q,W⟩:=CN fs [] m l [] [] es (es.map fK.bX) (places es) h.c (fun i I=>OH h.who i I) ⟨rfl,by simp,by simp,List.Pairwise.nil⟩ bd (by rw[List.nil_append];exact JA J A)
  have nl:=xf fs m [] []
  have tx:=zw fs m [] []
  rcases hd:ir fs m [] []with⟨ps,F,x⟩
  rw[hd,Nat.zero_add]at D
  rw[hd]at Q W nl tx
  rw[List.nil_append]at W
  simp only at D Q W nl tx
  have s1:=ok.small
  have s4:=ok.nb
  have d2:=D.app.le
  have d5:=D.len.1
  have Ac:=D.app.ge
  obtain⟨c1,c2,c3⟩:=Q.same
  have n9:x.dD 9=m.dD 9:=c3 9 (by decide) (by decide) (by decide)
  have n8:x.dD 8=m.dD 8:=c3 8 (by decide) (by decide) (by decide)
  have O:=h.n8
  have Bw:=h.n9
  have Bv:es.length≤40000:=by
    have:m.n8=es.length:=O
    omega
  have Ak:=SQ W.BO
  have B:(x.dD 9+1)%18446744073709551616=m.dD 9+1:=by rw[n9];exact Nat.mod_eq_of_lt (by omega)
  generalize hE:({seq:=(x.dD 9+1)%18446744073709551616,cF:=cF,mono:=mono,ck:=ck,xor:=mQ 0 ps,aH:=j7 x F}:gU)=E
  have eE:E.seq=m.dD 9+1∧E.cF=cF∧E.mono=mono∧E.ck=ck∧E.xor=mQ 0 ps∧E.aH=j7 x F:=by subst hE;exact⟨B,rfl,rfl,rfl,rfl,rfl⟩
  obtain⟨q1,q2,q3,q4,q5,q6⟩:=eE
  have ei:E.aH.length=F.length:=by rw[q6];simp[j7]
  have eb:E.ck.length=16:=by rw[q4];exact hb
  have wx:uL x ⟨x.b.length,E,F⟩:=by
    refine⟨W.lt,q6,W.BO,?_,⟨⟨?_,?_,?_,eb,?_⟩,?_⟩,?_⟩
    · simp only;rw[q5];exact XK W.perm.symm 0
    · simp only;rw[q1];omega
    · simp only;rw[q2];exact hr.1
    · simp only;rw[q3];exact hr.2
    · simp only;rw[q5];exact SB _ _ (by decide)
    · simp only;rw[q1];omega
    · simp only;rw[d5];exact⟨List.length_pos_iff.2 Aq,Ap⟩
  have rx:IQ x ⟨x.b.length,E,F⟩ {seq:=m.dD 9+1,cF:=cF,mono:=mono,ck:=ck,aj:=fs}:=by
    refine⟨q1,q2,q3,q4,?_,J,A⟩
    simp only;rw[← W.eq];exact W.perm
  have S:=Q.img.entry (E:=E) (who:=F) eb (by omega)
  have f:=(iN x (er E))
  have p:=eO x (er E)
  have o:∀i,i≠6→i≠7→(x.d9 (er E)).2.dD i=x.dD i:=fun i h6 h7=>by
    simp only[Mk.d9]
    rw[fw (by omega),fw (by omega)];rfl
  have Z:=qq x (er E)
  have el:=nA E eb
  rcases ho:x.d9 (er E)with⟨e,C⟩
  rw[ho]at S f p o Z
  simp only at S f p o Z
  have Ai:e=x.b.length:=f.1
  subst Ai
  have Ar:C.dD 8=(es.map fK.bX).length:=by rw[o 8 (by decide) (by decide),n8,O,List.length_map]
  have Bx:x.b.length<100000:=by omega
  obtain⟨l3,L⟩:=QH (x:=x.b.length) S.fJ.eS S.main (rX _) (by have:=f.2.1;omega) (by omega)
  rw[← Ar]at L
  have d:=GN C C.main (C.dD 8) 176 x.b.length
  rcases hk:C.link C.main (C.dD 8) 176 x.b.length with⟨a,t,K⟩
  rw[hk]at L d
  simp only at L d
  have w:=kL (cF:=cF) (mono:=mono) (ck:=ck) hl G v hd (by rw[hE];exact ho) hk rfl
  obtain⟨Y,U⟩:∃Y,Y=(let m4:=({K with main:=a}:Mk).dW 11 (a.getD 0 0);({m4 with h:={m4.h with cT:=jK a%4294967296,cW:=t%4294967296}}:Mk)):=⟨_,rfl⟩
  have r:∀i,i≠11→Y.dD i=K.dD i:=fun i I=>by subst U;exact cg (by omega)
  have y:Y.dD 11=a.getD 0 0:=by subst U;exact oF (by show 11<K.h.n.length;omega)
  have Ys:Y.b=K.b∧Y.c=K.c∧Y.ai=K.ai∧Y.aj=K.aj∧Y.main=a∧Y.h.n.length=K.h.n.length:=by subst U;exact⟨rfl,rfl,rfl,rfl,rfl,by simp[Mk.dW]⟩
  rw[← U]at w
  clear U
  obtain⟨y1,y2,y3,y4,y5,y6⟩:=Ys
  have I3:=S.link L y1 y2 y3 y4 y5 ⟨r 2 (by decide),r 4 (by decide)⟩
  obtain⟨t1,t2,t3,t4,t5,t6⟩:=L.same
  have A7:=L.top
  have M:Y.ai=x.ai:=by rw[y3,t2,p.2.1]
  have Aj:x.b.length<18446744073709551616:=by omega
  have Ba:=f.2.1
  obtain⟨l4,H⟩:=JP (e:=x.b.length) Aj F Y l3 _ I3 (fun i I=>by rw[M];exact W.lt i I) Ak (fun i _=>by have:=OG es i;omega) (by rw[y1];omega)
  have B5:=AI x.b.length F Y
  generalize kO x.b.length F Y=z at *
  replace w:m.append raw cF mono ck=if z.c.cK<z.b.length then(0,15,m)else((x.dD 9+1)%18446744073709551616,0,pn z (C.dD 8) ((x.dD 9+1)%18446744073709551616) cF mono x.b.length ck):=w
  rw[w]at ha
  split at ha
  · have:=congrArg (fun x=>x.2.1) ha;simp at this
  obtain⟨k1,kz2,kz3,kz4,kz5,R2,R4,kl,kz8⟩:=wI z (C.dD 8) ((x.dD 9+1)%18446744073709551616) cF mono x.b.length ck
  have k5':=fun i (I:i≤5)=>JJ z (C.dD 8) ((x.dD 9+1)%18446744073709551616) cF mono x.b.length ck i (by omega)
  have Al:=JJ z (C.dD 8) ((x.dD 9+1)%18446744073709551616) cF mono x.b.length ck 11 (by decide)
  obtain⟨V,Af⟩:=Prod.mk.inj ha
  have Ag:=(Prod.mk.inj Af).2
  rw[B]at V
  generalize pn z (C.dD 8) ((x.dD 9+1)%18446744073709551616) cF mono x.b.length ck=R at *
  subst Ag
  subst V
  obtain⟨z1,z2,z3,z4,z5⟩:=H.same
  have zl:z.h.n.length=20:=by omega
  have R8:=(kz8 zl).1
  have R9:=(kz8 zl).2
  have z8:z.dD 8=es.length:=by rw[z5 8 (by decide) (by decide) (by decide),r 8 (by decide),t6 8 (by decide) (by decide) (by decide),o 8 (by decide) (by decide),n8,O]
  have Ad:oU x.ai z.ai:=by have:=H.ds.ext;rw[M]at this;exact this
  have N:oU x.ai R.ai:=by rw[kz3];exact Ad
  have cR:R.c=x.c:=by rw[kz2,z1,y2,t1,p.1]
  have T:oU m.ai R.ai:=Q.ext.trans N
  refine⟨l4,⟨x.b.length,E,F⟩,fs,rfl,⟨⟨?_,?_,?_,?_,?_,?_⟩,rx.ext wx N,T,by rw[cR,c1],⟨rfl,by rw[R9,B]⟩,Ac,?_,?_,fun i I=>?_⟩⟩
  · have:=H.img.to (m':=R) k1 kz2 kz3 kz4 kz5 ⟨R2,R4⟩
    rw[List.map_append]
    have ef:places (es ++ [⟨x.b.length,E,F⟩])=fun j=>if j∈F then places es j ++ [x.b.length]else places es j:=funext fun j=>OE es ⟨x.b.length,E,F⟩ j
    rw[ef]
    exact this
  · show R.n8=_
    rw[R8,show z.n8=es.length from z8,List.length_append,Nat.mod_eq_of_lt (by omega)]
    rfl
  · rw[R9,B];omega
  · rw[Al,kz5,z5 11 (by decide) (by decide) (by decide),y,z3,y5]
  · intro g P
    rcases List.mem_append.1 P with P|P
    · exact(h.who g P).ext T (by rw[cR,c1])
    simp at P;subst P
    exact wx.ext N cR
  · intro k hk
    rw[kz3]at hk
    obtain⟨i,I⟩:=List.mem_iff_getElem?.1 hk
    obtain⟨k0,h0,_,ht⟩:=H.ds.get i k I
    rw[M]at h0
    rcases tx k0 (List.mem_of_getElem? h0)with u|⟨q,u,G⟩
    · obtain⟨q,G,v⟩:=h.txt k0 u
      exact⟨q,G,ht.trans v⟩
    exact⟨q,A q u,ht.trans G⟩
  · rw[kz5,z3,y5]
    have X:C.main=m.main:=by rw[p.2.2.2,c2]
    rcases L.arr with e|e
    · exact⟨[],by rw[e,X,List.append_nil]⟩
    exact⟨_,by rw[e,X]⟩
  · rw[k1]
    have u:=L.lZ.len
    have G:=H.ge
    rw[y1]at G
    omega
  rw[k5' i I,z5 i (by omega) (by omega) (by omega),r i (by omega),t6 i (by omega) (by omega) (by omega),o i (by omega) (by omega),c3 i (by omega) (by omega) (by omega)]
end Go.Wk
namespace Go.Wk
open Go Go.RowKit
def hk (m:Mk):Nat × Nat × Nat × List UInt8:=(m.h.eN,m.h.cw,m.h.state,m.h.cV)
theorem agj {m M:Mk} (h:M.h=m.h):hk M=hk m:=by unfold hk;rw[h]
theorem QE (m:Mk) (l:List bQ) (t p s:Nat):hk (m.hang l t p s).2=hk m:=by unfold hk;rw[(yJ m l t p s).1]
theorem Zx (m:Mk) (x:Ly):hk (m.field x).2=hk m:=by
  unfold Mk.field
  split
  · rfl
  simp only
  have B:hk (m.d9 (gR {dY:=dS m.c.dx m.c.cV x,dc:=0,dat:=0,aG:=x})).2=hk m:=rfl
  generalize m.d9 (gR {dY:=dS m.c.dx m.c.cV x,dc:=0,dat:=0,aG:=x})=r at *
  obtain⟨p,A⟩:=r
  simp only at B ⊢
  have C:=QE A A.aj (A.dD 4) p (dS m.c.dx m.c.cV x%A.c.aP)
  generalize A.hang A.aj (A.dD 4) p (dS m.c.dx m.c.cV x%A.c.aP)=r at *
  obtain⟨n,D⟩:=r
  exact C.trans B
theorem abX (m:Mk) (x:Pr):hk (m.data x).2=hk m:=by
  unfold Mk.data
  split
  · rfl
  simp only
  have C:hk (m.d9 (iH {dY:=dS m.c.dx m.c.cV (aG x),dc:=0,ec:=0,entry:=0,array:=0,cr:=0,aG:=aG x})).2=hk m:=rfl
  generalize m.d9 (iH {dY:=dS m.c.dx m.c.cV (aG x),dc:=0,ec:=0,entry:=0,array:=0,cr:=0,aG:=aG x})=r at *
  obtain⟨p,A⟩:=r
  simp only at C ⊢
  have D:=QE A A.ai (A.dD 2) p (dS m.c.dx m.c.cV (aG x)%A.c.aQ)
  generalize A.hang A.ai (A.dD 2) p (dS m.c.dx m.c.cV (aG x)%A.c.aQ)=r at *
  obtain⟨n,B⟩:=r
  simp only at D ⊢
  generalize hx5:({(B.dW 19 (max (B.dD 19) n)).dW 15 (((B.dW 19 (max (B.dD 19) n)).dD 15+1)%18446744073709551616)with ai:=((B.dW 19 (max (B.dD 19) n)).dW 15 (((B.dW 19 (max (B.dD 19) n)).dD 15+1)%18446744073709551616)).ai ++ [({cM:=aG x,bX:=p,dI:=dS m.c.dx m.c.cV (aG x)%A.c.aQ,cr:=0,bg:=[]}:bQ)]}:Mk)=m5
  have E:hk m5=hk B:=by subst hx5;rfl
  have F:=Zx m5 x.name
  generalize m5.field x.name=r at *
  obtain⟨k,G⟩:=r
  exact F.trans (E.trans (D.trans C))
theorem CY:∀(l:List Pr) (m:Mk) (ps:List (List UInt8)) (od:List Nat),hk (ir l m ps od).2.2=hk m
  | [],_,_,_=>rfl
  | x :: r,m,ps,od=>(CY r _ _ _).trans (abX m x)
theorem QG (m:Mk) (a:List Nat) (n src gN:Nat):hk (m.link a n src gN).2.2=hk m:=by
  unfold Mk.link
  generalize fq a 0 0 0=r
  obtain⟨A,C⟩:=r
  simp only
  split
  · have B:hk (m.d9 (fI {next:=0,aH:=List.replicate (eu (a.length:Int)) 0})).2=hk m:=rfl
    generalize m.d9 (fI {next:=0,aH:=List.replicate (eu (a.length:Int)) 0})=r at *
    obtain⟨p,D⟩:=r
    simp only at B ⊢
    split
    · exact B
    exact B
  rfl
theorem JQ (e:Nat):∀(od:List Nat) (m:Mk),hk (kO e od m)=hk m
  | [],_=>rfl
  | i :: r,m=>by
    rw[pq,JQ e r]
    unfold kN
    simp only
    split
    · exact agj q
    · have g:=QG m (m.ai.getD i known0).bg ((m.ai.getD i known0).cr-1) ((m.ai.getD i known0).bX+48) e
      generalize m.link (m.ai.getD i known0).bg ((m.ai.getD i known0).cr-1) ((m.ai.getD i known0).bX+48) e=r at *
      obtain⟨a,t,m1⟩:=r
      exact(agj q).trans g
theorem abY (z:Mk) (n seq cF mono e:Nat) (ck:Ly):hk (pn z n seq cF mono e ck)=hk z:=by
  unfold pn
  simp only
  generalize hy:(if n=0 then(z.dW 10 seq).dW 12 cF else z)=y
  have:hk y=hk z:=by subst hy;split <;> rfl
  exact this
theorem CX (m:Mk) (raw:List Pr) (cF mono:Nat) (ck:Ly):hk (m.append raw cF mono ck).2.2=hk m∧((m.append raw cF mono ck).2.1≠0→(m.append raw cF mono ck).2.2=m):=by
  rcases hl:kE raw with⟨l,c⟩
  by_cases h2:c≠0
  · have e:m.append raw cF mono ck=(0,c,m):=by unfold Mk.append;simp only[hl];rw[if_pos h2]
    rw[e];exact⟨q,fun _=>rfl⟩
  by_cases h3:m.dD 9=18446744073709551615
  · have e:m.append raw cF mono ck=(0,1,m):=by unfold Mk.append;simp only[hl];rw[if_neg h2,if_pos h3]
    rw[e];exact⟨q,fun _=>rfl⟩
  have E:=CY l m [] []
  rcases hd:ir l m [] []with⟨I,D,x⟩
  rw[hd]at E
  have F:hk (x.d9 (er {seq:=(x.dD 9+1)%18446744073709551616,cF:=cF,mono:=mono,ck:=ck,xor:=mQ 0 I,aH:=j7 x D})).2=hk x:=rfl
  rcases ho:x.d9 (er {seq:=(x.dD 9+1)%18446744073709551616,cF:=cF,mono:=mono,ck:=ck,xor:=mQ 0 I,aH:=j7 x D})with⟨e,A⟩
  rw[ho]at F
  have G:=QG A A.main (A.dD 8) 176 e
  rcases hk3:A.link A.main (A.dD 8) 176 e with⟨a,t,C⟩
  rw[hk3]at G
  simp only at E F G
  have B:m.append raw cF mono ck=_:=kL (cF:=cF) (mono:=mono) (ck:=ck) hl h2 h3 hd ho hk3 q
  have H:=JQ e D (let m4:=({C with main:=a}:Mk).dW 11 (a.getD 0 0);{m4 with h:={m4.h with cT:=jK a%4294967296,cW:=t%4294967296}})
  have J:hk (let m4:=({C with main:=a}:Mk).dW 11 (a.getD 0 0);({m4 with h:={m4.h with cT:=jK a%4294967296,cW:=t%4294967296}}:Mk))=hk C:=rfl
  rw[J]at H
  generalize kO e D (let m4:=({C with main:=a}:Mk).dW 11 (a.getD 0 0);{m4 with h:={m4.h with cT:=jK a%4294967296,cW:=t%4294967296}})=z at B H
  replace B:m.append raw cF mono ck=if z.c.cK<z.b.length then(0,15,m)else((x.dD 9+1)%18446744073709551616,0,pn z (A.dD 8) ((x.dD 9+1)%18446744073709551616) cF mono e ck):=B
  rw[B]
  split
  · exact⟨q,fun _=>rfl⟩
  refine⟨?_,fun h=>absurd q h⟩
  show hk (pn _ _ _ _ _ _ _)=_
  rw[abY,H,G,F,E]
theorem P6 (n:Nat):p9 (List.replicate n {first:=0,tail:=0})=nums (List.replicate (2*n) 0):=by
  induction n with
  | zero=>rfl
  | succ n ih =>
    rw[List.replicate_succ,p9,ih,show 2*(n+1)=(2*n+1)+1 by omega,List.replicate_succ,List.replicate_succ]
    simp[nums]
theorem agF {k:Nat} (hk:k=4∨k=5) (n:Nat):(∃r,eL k (List.replicate n {first:=0,tail:=0})=MQ k (16+16*n) ++ r)∧(eL k (List.replicate n {first:=0,tail:=0})).length=16+16*n ∧
    ∀i,i<2*n→fR (eL k (List.replicate n {first:=0,tail:=0})) (16+8*i)=0:=by
  have e:eL k (List.replicate n {first:=0,tail:=0})=qD k (nums (List.replicate (2*n) 0) ++ []):=by
    unfold eL;rw[if_neg (by omega),P6,List.append_nil]
  obtain⟨A,B,C,_⟩:=ae3 (k:=k) (by omega) (List.replicate (2*n) 0) [] (fun v E=>by rw[(List.mem_replicate.1 E).2];decide)
  rw[← e]at A B C
  simp only[List.length_replicate,List.length_nil,Nat.add_zero]at A B
  rw[show 16+8*(2*n)=16+16*n by omega]at A B
  exact⟨A,by rw[B];unfold nV;omega,fun i D=>C i 0 (by rw[List.getElem?_replicate,if_pos D])⟩
def AO (c:nq):List Ob:=[⟨272,4,16+16*c.aQ⟩,⟨288+16*c.aQ,5,16+16*c.aP⟩]
structure adk (m:Mk):Prop where
  hk:hk m=(2,if m.c.dx then 4 else 0,1,m.c.cV)
  n0:m.dD 0=272
  n3:m.dD 3=16*m.c.aQ
  n5:m.dD 5=16*m.c.aP
theorem ZN {c:nq} {t:Nat} (h:c.aQ≤10∧c.aP≤10) (h1:1≤c.aQ∧1≤c.aP) (ht:t<1000000):Img (jd c t) (AO c) []∧adk (jd c t)∧(jd c t).dD 9=t:=by
  obtain⟨⟨R,H⟩,I,_⟩:=agF (k:=4) (.inl q) c.aQ
  obtain⟨⟨S,J⟩,K,_⟩:=agF (k:=5) (.inr q) c.aP
  have E:(jd c t).b=List.replicate 272 0 ++ eL 4 (List.replicate c.aQ {first:=0,tail:=0}) ++ eL 5 (List.replicate c.aP {first:=0,tail:=0}):=rfl
  have A:(jd c t).h.n=(((((((((List.replicate 20 0).set 0 272).set 2 288).set 3 (16*c.aQ)).set 4 ((List.replicate 272 (0:UInt8) ++ eL 4 (List.replicate c.aQ {first:=0,tail:=0})).length+16)).set 5 (16*c.aP)).set 6 ((List.replicate 272 (0:UInt8) ++ eL 4 (List.replicate c.aQ {first:=0,tail:=0})).length)).set 7 2).set 9 t):=rfl
  have D:(List.replicate 272 (0:UInt8) ++ eL 4 (List.replicate c.aQ {first:=0,tail:=0})).length=288+16*c.aQ:=by rw[List.length_append,List.length_replicate,I];omega
  have M:(jd c t).b.length=304+16*c.aQ+16*c.aP:=by rw[E,List.length_append,D,K];omega
  rw[D]at A
  have dD:∀i,(jd c t).dD i=(jd c t).h.n.getD i 0:=fun _=>rfl
  generalize hT4:eL 4 (List.replicate c.aQ {first:=0,tail:=0})=T4 at *
  generalize hT5:eL 5 (List.replicate c.aP {first:=0,tail:=0})=T5 at *
  have O:seg (jd c t).b 272 16=MQ 4 (16+16*c.aQ):=by
    rw[E,List.append_assoc,iv (by rw[List.length_replicate];exact Nat.le_refl _),List.length_replicate,Nat.sub_self,H,List.append_assoc]
    exact lO _ _ (jQ _ _).symm
  have P:seg (jd c t).b (288+16*c.aQ) 16=MQ 5 (16+16*c.aP):=by
    rw[E,iv (by omega),D,Nat.sub_self,J]
    exact lO _ _ (jQ _ _).symm
  have Q:nV (16+16*c.aQ)=16+16*c.aQ:=by unfold nV;omega
  have u5:nV (16+16*c.aP)=16+16*c.aP:=by unfold nV;omega
  have L:fH (jd c t).b 272 (AO c) (jd c t).b.length:=by
    refine⟨q,by simp,by simp,by simp only;omega,by simp only;omega,O,?_⟩
    simp only[Q]
    rw[show 272+(16+16*c.aQ)=288+16*c.aQ by omega]
    refine⟨q,by simp,by simp,by simp only;omega,by simp only;omega,P,?_⟩
    simp only[u5,fH]
    rw[M];omega
  have B:(jd c t).ai=[]:=rfl
  have N:(jd c t).aj=[]:=rfl
  have G:(jd c t).main=[]:=rfl
  have F:(jd c t).c=c:=rfl
  have C:fR (jd c t).b 176=0:=by
    rw[E,FO (by rw[D];omega),FO (by rw[List.length_replicate];omega)]
    show wV (((List.replicate 272 0).drop 176).take 8)=0
    rw[List.drop_replicate,List.take_replicate]
    rfl
  refine⟨⟨⟨⟨L,by rw[F];simp[AO],by rw[F];simp[AO],by rw[dD,A];rfl,by rw[dD,A];simp only[F];show _+16=_;omega,by rw[F];exact h1,by rw[B];simp,by rw[N];simp,by rw[B];simp,by simp[AO]⟩,?_,by rw[B];simp,⟨by rw[B];simp,by rw[B];simp⟩,by simp,by simp[AO]⟩,by rw[dD,A];rfl,by rw[dD,A];show t<_;omega,by rw[dD,A,G];rfl,by simp,by rw[B];simp⟩,⟨q,by rw[dD,A];rfl,by rw[dD,A];rfl,by rw[dD,A];rfl⟩,by rw[dD,A];rfl⟩
  rw[G]
  exact⟨C,by simp,by simp,by simp,by simp,Nat.le_refl _,Nat.le_refl _⟩
end Go.Wk
namespace Go.Wk
open Go Go.RowKit
structure pW (m:Mk) (l:List Ob) (es:List fK) (rs:List Rec):Prop where
  img:Img m l es
  ok:uN m
  h20:m.h.n.length=20
  hd:adk m
  len:es.length=rs.length
  rcd:∀(i:Nat) (g:fK) (r:Rec),es[i]? = some g→rs[i]? = some r→IQ m g r
  rise:rs.Pairwise fun a b=>a.seq<b.seq
  top:∀r∈rs,1≤r.seq∧r.seq≤m.dD 9
structure za (m m':Mk) (es es':List fK) (rs rs':List Rec):Prop where
  es:∃t,es'=es ++ t
  rs:∃t,rs'=rs ++ t
  main:∃t,m'.main=m.main ++ t
  ext:oU m.ai m'.ai
  c:m'.c=m.c
  len:m.b.length≤m'.b.length
  dD:∀i,i≤5→m'.dD i=m.dD i
theorem za.refl (m:Mk) (es:List fK) (rs:List Rec):za m m es es rs rs:=⟨⟨[],by simp⟩,⟨[],by simp⟩,⟨[],by simp⟩,oU.refl _,q,Nat.le_refl _,fun _ _=>rfl⟩
theorem za.trans {a b c:Mk} {es es' es'':List fK} {rs rs' rs'':List Rec} (h:za a b es es' rs rs') (k:za b c es' es'' rs' rs''):za a c es es'' rs rs'':=by
  obtain⟨H,B⟩:=h.es;obtain⟨K,E⟩:=k.es
  obtain⟨I,C⟩:=h.rs;obtain⟨L,F⟩:=k.rs
  obtain⟨J,D⟩:=h.main;obtain⟨u3,G⟩:=k.main
  exact⟨⟨H ++ K,by rw[E,B,List.append_assoc]⟩,⟨I ++ L,by rw[F,C,List.append_assoc]⟩,⟨J ++ u3,by rw[G,D,List.append_assoc]⟩,h.ext.trans k.ext,k.c.trans h.c,lj h.len k.len,fun i A=>(k.dD i A).trans (h.dD i A)⟩
theorem NV {x fs:List Pr} (h:kE x=(fs,0)) (ha:Asc x):fs=x:=by
  obtain⟨A,_,B,_⟩:=wW h
  exact PU A ha B
theorem QD:∀(l o x:List Pr) (c:Nat),MP l o=(x,c)→c≠0→x=[]
  | [],o,x,c,h,hc=>by
    unfold MP at h
    split at h
    · exact(Prod.mk.inj h).1.symm
    · exact absurd (Prod.mk.inj h).2.symm hc
  | p :: r,o,x,c,h,hc=>by
    unfold MP at h
    split at h
    · exact(Prod.mk.inj h).1.symm
    · exact QD r _ x c h hc
theorem UA (l:List Pr):Asc (kE l).1:=by
  rcases h:kE l with⟨x,c⟩
  by_cases hc:c=0
  · subst hc;exact(wW h).1
  unfold kE at h
  split at h
  · rw[← (Prod.mk.inj h).1];exact List.Pairwise.nil
  rw[QD _ _ _ _ h hc];exact List.Pairwise.nil
theorem zf {α:Type} {l:List α} {p a:α} {k:Nat} (h:(l ++ [p])[k]? = some a):(k<l.length∧l[k]? = some a)∨(k=l.length∧a=p):=by
  rcases Nat.lt_or_ge k l.length with hk|hk
  · rw[List.getElem?_append_left hk]at h;exact .inl ⟨hk,h⟩
  have B:=(List.getElem?_eq_some_iff.1 h).1
  simp at B
  rw[List.getElem?_append_right hk,show k-l.length=0 by omega]at h
  exact .inr ⟨by omega,by simpa using h.symm⟩
theorem acY {m m':Mk} {l:List Ob} {es:List fK} {rs:List Rec} {r:Rec} {s:Nat} (h:pW m l es rs) (hr:r.seq=(m.dD 9+1)%18446744073709551616) (hb:r.ck.length=16) (hn:r.cF<18446744073709551616∧r.mono<18446744073709551616) (hf:Asc r.aj) (ha:m.append r.aj r.cF r.mono r.ck=(s,0,m')) :
    ∃l' es',pW m' l' es' (rs ++ [r])∧za m m' es es' rs (rs ++ [r]):=by
  have C:=DR m r.aj r.cF r.mono r.ck
  have ok':=wB (raw:=r.aj) (cF:=r.cF) (mono:=r.mono) h.ok hb (C.trans h.h20)
  have D:=(CX m r.aj r.cF r.mono r.ck).1
  rw[ha]at C ok' D
  obtain⟨l',g,S,O,A⟩:=SK h.img h.ok h.h20 hb hn ha
  have H:=NV O hf
  subst H
  have T:=h.img.n9
  have P:s=m.dD 9+1:=A.seq.1
  have n9':m'.dD 9=s:=A.seq.2
  have R:=A.img.n9
  have F:r.seq=s:=by rw[hr,P];exact Nat.mod_eq_of_lt (by omega)
  have I:({seq:=s,cF:=r.cF,mono:=r.mono,ck:=r.ck,aj:=r.aj}:Rec)=r:=by cases r;simp only at F;subst F;rfl
  have A':=A.rcd
  rw[I]at A'
  refine⟨l',es ++ [g],⟨A.img,ok',C.trans h.h20,⟨?_,?_,?_,?_⟩,by simp[h.len],fun i J Q N E=>?_,?_,fun y B=>?_⟩,⟨⟨_,q⟩,⟨_,q⟩,A.main,A.ext,A.c,A.len,A.dD⟩⟩
  · rw[D,h.hd.hk,A.c]
  · rw[A.dD 0 (by decide)];exact h.hd.n0
  · rw[A.dD 3 (by decide),A.c];exact h.hd.n3
  · rw[A.dD 5 (by decide),A.c];exact h.hd.n5
  · rcases zf N with⟨M,K⟩|⟨M,rfl⟩
    · rcases zf E with⟨_,G⟩|⟨G,_⟩
      · exact(h.rcd i J Q K G).ext (h.img.who J (List.mem_of_getElem? K)) A.ext
      have:=h.len;omega
    rcases zf E with⟨G,_⟩|⟨_,rfl⟩
    · have:=h.len;omega
    exact A'
  · refine List.pairwise_append.2 ⟨h.rise,by simp,fun y B z L=>?_⟩
    simp at L;subst L
    have:=(h.top y B).2;omega
  rw[n9']
  rcases List.mem_append.1 B with B|B
  · have:=h.top y B;omega
  simp at B;subst B;omega
theorem OU (s:Sq) (n:Nat):(s.record n).1.seq=n∧(s.record n).1.ck.length=16∧((s.record n).1.cF<18446744073709551616∧(s.record n).1.mono<18446744073709551616)∧Asc (s.record n).1.aj:=by
  refine⟨?_,xZ s n,?_⟩
  · rcases h1:s.pairs 4 with⟨F,A⟩
    rcases h2:A.dD 40 with⟨a,B⟩
    rcases h3:B.dD 9 with⟨b,C⟩
    rcases h4:C.dD 3 with⟨c,G⟩
    simp only[Sq.record,h1,h2,h3,h4]
  rcases h1:s.pairs 4 with⟨F,A⟩
  rcases h2:A.dD 40 with⟨a,B⟩
  rcases h3:B.dD 9 with⟨b,C⟩
  rcases h4:C.dD 3 with⟨c,G⟩
  have D:=A.jS 40
  have E:=B.jS 9
  rw[h2]at D;rw[h3]at E
  simp only[Sq.record,h1,h2,h3,h4]
  simp only at D E
  exact⟨by omega,UA F⟩
theorem DI:∀(n:Nat) (s:Sq) (m:Mk) (l:List Ob) (es:List fK) (rs:List Rec),pW m l es rs →
    ∃l' es',pW (jR n s m rs).1 l' es' (jR n s m rs).2.1∧za m (jR n s m rs).1 es es' rs (jR n s m rs).2.1∧(jR n s m rs).2.1.length≤rs.length+n
  | 0,s,m,l,es,rs,h=>⟨l,es,h,za.refl _ _ _,Nat.le_refl _⟩
  | n+1,s,m,l,es,rs,h=>by
    unfold jR
    split
    · have hr:=OU s ((m.dD 9+1)%18446744073709551616)
      rcases hrec:s.record ((m.dD 9+1)%18446744073709551616)with⟨r,s1⟩
      rw[hrec]at hr
      have hk:=(CX m r.aj r.cF r.mono r.ck).2
      rcases ha:m.append r.aj r.cF r.mono r.ck with⟨e,c,m1⟩
      rw[ha]at hk
      simp only[ha]
      split
      · rename_i hc
        have:=hk hc
        simp only at this
        subst this
        exact⟨l,es,h,za.refl _ _ _,Nat.le_add_right _ _⟩
      · rename_i hc
        have hc0:c=0:=Classical.not_not.1 hc
        subst hc0
        obtain⟨l1,es1,g1,g2⟩:=acY h hr.1 hr.2.1 hr.2.2.1 hr.2.2.2 ha
        obtain⟨l',es',k1,kz2,kz3⟩:=DI n s1 m1 l1 es1 _ g1
        exact⟨l',es',k1,g2.trans kz2,by rw[List.length_append]at kz3;simp only[List.length_singleton]at kz3;omega⟩
    · exact⟨l,es,h,za.refl _ _ _,Nat.le_add_right _ _⟩
theorem ZE {s s':Sq} {cK:Nat} {m:Mk} {rs:List Rec} (h:s.qp cK=(m,rs,s')):∃l es,pW m l es rs∧rs.length≤cK:=by
  have A:=wF s
  rcases h1:s.config with⟨c,E⟩
  rcases h2:E.dD 6 with⟨t,H⟩
  rw[h1]at A
  have B:=E.jS 6
  rw[h2]at B
  simp only at B A
  simp only[Sq.qp,h1,h2]at h
  obtain⟨F,G,I⟩:=ZN (c:=c) (t:=t) A.1 A.2.1 (by omega)
  obtain⟨l,es,C,_,D⟩:=DI cK H (jd c t) (AO c) [] [] ⟨F,AH A.1 A.2.1 A.2.2,q,G,q,by simp,List.Pairwise.nil,by simp⟩
  rw[h]at C D
  exact⟨l,es,C,by simpa using D⟩
end Go.Wk
namespace Go.Wk
open Go Go.RowKit
def uV (P:Program) (s:TypeId) (f:Nat):Option Nat :=
  match P.underlying s with
  | some (.struct fs)=>match fs[f]? with
    | some x=>cond (iG P x.type) (some x.offset) none
    | none=>none
  | _=>none
section
variable {P:Program} {n:Nat} {A:Fr n} {D:List Deferred} {l:List (Nat × Value)} {w:World} {d:Option Tmp} {ty:TypeId} {ps:String} {af:Array Edge} {g:Option (Nat × Bool)}
theorem LI {x:Operand} {s:TypeId} {f off:Nat} {cs:List Value} {u:Value} (hf:uV P s f=some off) (hx:ev n l x=some (.agg cs.toArray)) (hc:cs[off]? = some u) :
    cZ P ⟨d,.field s x f,ty,ps,af,g⟩ (bh A D l).eval w u:=by
  unfold uV at hf
  split at hf
  · rename_i fs hu
    split at hf
    · rename_i y hy
      cases h1:iG P y.type with
      | false=>rw[h1]at hf;cases hf
      | true =>
        rw[h1]at hf
        simp only[cond_true,Option.some.injEq]at hf
        subst hf
        simp[cZ,execOp,cC hx,Instr.field,run_underlying hu,hy,part,lN h1,asAgg,hc]
    cases hf
  cases hf
end
structure lC where
  out:List Nat
  cur:Nat
  ahead:Nat
def lC.cells (x:lC) (v0:Value):List Value :=
  [v0] ++ ([(.int .u64 x.cur)] ++ ([(.int .u64 x.ahead)]))
def lC.ok (x:lC):Prop:=x.cur<18446744073709551616∧x.ahead<18446744073709551616
theorem lC.one {x:lC} {v0:Value} (h0:v0.oneCell'=true):(x.cells v0).all (fun u=>u.oneCell')=true:=(dh (pZ h0) (dh q q))
theorem O2:(jw (nu [] 0)).2=0∧((jw (nu [] 0)).1.map fun y=>y.h.n.getD 8 0)=some 0:=by decide +kernel
theorem KX {x:Option fE} {c:Nat} (h:jw (nu [] 0)=(x,c)):c=0∧∃y,x=some y∧y.h.n.getD 8 0=0:=by
  have A:=O2
  rw[h]at A
  obtain⟨C,B⟩:=A
  cases x with
  | none=>simp at B
  | some y=>exact⟨C,y,q,by simpa using B⟩
theorem ace:(nu [] 0).length≤1000:=by decide +kernel
section
variable {P:Program} {n:Nat} {A:Fr n} {D:List Deferred} {l:List (Nat × Value)} {w:World} {d:Option Tmp} {ty:TypeId} {ps:String} {af:Array Edge} {g:Option (Nat × Bool)}
end
end Go.Wk
namespace Go.Wk
open Go Go.RowKit
def tL (out:List Nat):Nat:=out.getLast?.getD 0
def qm (out:List Nat) (x:Nat):Nat:=if out≠[]∧x≤tL out then 13 else 0
def mB (b:Ly) (cK:Nat):List Nat→List Nat→List Nat × Nat
  | [],out=>(out,0)
  | x :: r,out=>if cK≤out.length then(out,0)else if x=0∨b.length≤x then(out,2)else if qm out x≠0 then(out,13)else mB b cK r (out ++ [x])
def rH (s:Nat) (b:Ly) (cK p ahead:Nat) (out:List Nat):List Nat × Nat :=
  if cK≤out.length then(out,0)
  else if p=0∨b.length≤p then(out,14)
  else if p≤ahead then(out,12)
  else if(jq s b p).2≠0 then(out,(jq s b p).2)
  else if(mB b cK (jq s b p).1.aH out).2≠0 then mB b cK (jq s b p).1.aH out
  else rH s b cK (jq s b p).1.next p (mB b cK (jq s b p).1.aH out).1
termination_by b.length-ahead
decreasing_by omega
def o8 (b:Ly) (x:Nat):Bool:=decide (x=0∨b.length≤x)
def nZ (s:Nat) (b:Ly) (l:lC):List Nat × Nat × lC :=
  if l.cur≤l.ahead then([],12,l)else((jq s b l.cur).1.aH,(jq s b l.cur).2,{l with cur:=(jq s b l.cur).1.next,ahead:=l.cur})
def itF (l:lC) (x:Nat):Nat × lC:=if qm l.out x≠0 then(13,l)else(0,{l with out:=l.out ++ [x]})
theorem acg {out:List Nat} {x y:Nat} (h:out[out.length-1]? = some y) (hx:x≤y):qm out x≠0:=by
  unfold qm tL
  have A:out≠[]:=by rintro rfl;simp at h
  rw[List.getLast?_eq_getElem?,h,if_pos ⟨A,hx⟩]
  decide
theorem aen {out:List Nat} {x y:Nat} (h:out[out.length-1]? = some y) (hx:¬x≤y):qm out x=0:=by
  unfold qm tL
  rw[List.getLast?_eq_getElem?,h,if_neg (fun h=>hx h.2)]
theorem aeo {out:List Nat} {x:Nat} (h:¬0<out.length):qm out x=0:=by
  unfold qm
  rw[if_neg (fun A=>A.1 (List.eq_nil_of_length_eq_zero (by omega)))]
def SC (b:Ly) (out:List Nat):Prop:=out.length≤tL out∧tL out<b.length+1
theorem aaX (b:Ly):SC b []:=⟨Nat.le_refl _,Nat.succ_pos _⟩
theorem aaW {b:Ly} {out:List Nat} (h:SC b out):out.length≤b.length:=by have:=h.1;have:=h.2;omega
theorem qM {b:Ly} {x:Nat} (h:o8 b x=false):x≠0∧x<b.length:=by
  unfold o8 at h
  have:=dF h
  omega
theorem K3 (out:List Nat) (x:Nat):tL (out ++ [x])=x:=by simp[tL]
theorem WH {b:Ly} {l l':lC} {x c:Nat} (h:SC b l.out) (hi:itF l x=(c,l')) (hc:¬c≠0) (hn:o8 b x=false):SC b l'.out∧l'.out=l.out ++ [x]∧l'.cur=l.cur∧l'.ahead=l.ahead∧qm l.out x=0:=by
  have D:=qM hn
  unfold itF at hi
  split at hi
  · exact absurd (congrArg Prod.fst hi) (by omega)
  rename_i h2
  have e:=congrArg Prod.snd hi
  simp only at e
  subst e
  refine⟨⟨?_,?_⟩,q,q,q,by omega⟩
  · simp only[K3,List.length_append,List.length_singleton]
    have A:qm l.out x=0:=by omega
    unfold qm at A
    have C:=h.1
    by_cases hn:l.out=[]
    · rw[hn];simp;omega
    have:¬x≤tL l.out:=fun B=>by rw[if_pos ⟨hn,B⟩]at A;cases A
    omega
  simp only[K3];omega
theorem MW {s c:Nat} {b:Ly} {l l':lC} {aH:List Nat} (ha:nZ s b l=(aH,c,l')) (hc:¬c≠0):l.ahead<l.cur∧l'.out=l.out∧l'.ahead=l.cur∧l'.cur=(jq s b l.cur).1.next∧aH=(jq s b l.cur).1.aH∧(jq s b l.cur).2=0:=by
  unfold nZ at ha
  split at ha
  · exact absurd (congrArg (fun x=>x.2.1) ha) (by simp;omega)
  rename_i h
  simp only[Prod.mk.injEq]at ha
  obtain⟨rfl,A,rfl⟩:=ha
  exact⟨by omega,q,q,q,q,by omega⟩
theorem uS {s c:Nat} {b:Ly} {l l':lC} {aH:List Nat} (ha:nZ s b l=(aH,c,l')):l'.out=l.out:=by
  unfold nZ at ha
  split at ha <;> (simp only[Prod.mk.injEq]at ha;obtain⟨_,_,rfl⟩:=ha;rfl)
theorem JH {s cK p a:Nat} {b:Ly} {out:List Nat} (h:¬out.length<cK):rH s b cK p a out=(out,0):=by rw[rH,if_pos (by omega)]
theorem abM {s cK p a:Nat} {b:Ly} {out:List Nat} (h:out.length<cK) (hn:o8 b p=true):rH s b cK p a out=(out,14):=by
  rw[rH,if_neg (by omega),if_pos (by simpa [o8]using hn)]
theorem YK {s cK c:Nat} {b:Ly} {l l':lC} {aH:List Nat} (h:l.out.length<cK) (hn:o8 b l.cur=false) (ha:nZ s b l=(aH,c,l')) (hc:c≠0):rH s b cK l.cur l.ahead l.out=(l'.out,c):=by
  have A:=qM hn
  rw[uS ha]
  rw[rH,if_neg (by omega),if_neg (by omega)]
  unfold nZ at ha
  split at ha
  · rename_i h1;rw[if_pos h1];simp only[Prod.mk.injEq]at ha;rw[ha.2.1]
  rename_i h1;rw[if_neg h1];simp only[Prod.mk.injEq]at ha;rw[← ha.2.1]at hc ⊢;rw[if_pos hc]
theorem Qp {s cK c:Nat} {b:Ly} {l l':lC} {aH:List Nat} (h:l.out.length<cK) (hn:o8 b l.cur=false) (ha:nZ s b l=(aH,c,l')) (hc:¬c≠0) :
    rH s b cK l.cur l.ahead l.out=if(mB b cK aH l.out).2≠0 then mB b cK aH l.out else rH s b cK l'.cur l'.ahead (mB b cK aH l.out).1:=by
  have G:=qM hn
  obtain⟨D,E,A,B,C,F⟩:=MW ha hc
  rw[rH,if_neg (by omega),if_neg (by omega),if_neg (by omega),if_neg (by omega),A,B,C]
theorem YO {s cK c i:Nat} {b:Ly} {l l':lC} {aH out2:List Nat} {r r1:List Nat × Nat} (h0:rH s b cK l.cur l.ahead l.out=r) (h:l.out.length<cK) (hn:o8 b l.cur=false) (ha:nZ s b l=(aH,c,l')) (hc:¬c≠0)
    (h1o:mB b cK (aH.drop 0) l'.out=r1) (h1:mB b cK (aH.drop i) out2=r1) (he:mB b cK (aH.drop i) out2=(out2,0)):rH s b cK l'.cur l'.ahead out2=r:=by
  have A:mB b cK aH l.out=(out2,0):=by rw[← uS ha];exact h1o.trans (h1.symm.trans he)
  rw[Qp h hn ha hc,A,if_neg (by simp)]at h0
  exact h0
theorem JI {s cK c i k:Nat} {b:Ly} {l l':lC} {aH out2 out3:List Nat} {r r1:List Nat × Nat} (h0:rH s b cK l.cur l.ahead l.out=r) (h:l.out.length<cK) (hn:o8 b l.cur=false) (ha:nZ s b l=(aH,c,l')) (hc:¬c≠0)
    (h1o:mB b cK (aH.drop 0) l'.out=r1) (h1:mB b cK (aH.drop i) out2=r1) (he:mB b cK (aH.drop i) out2=(out3,k)) (hk:k≠0):r=(out3,k):=by
  have A:mB b cK aH l.out=(out3,k):=by rw[← uS ha];exact h1o.trans (h1.symm.trans he)
  rw[Qp h hn ha hc,A,if_pos hk]at h0
  exact h0.symm
theorem YJ {cK i:Nat} {b:Ly} {aH out:List Nat} (h:¬i<aH.length):mB b cK (aH.drop i) out=(out,0):=by rw[List.drop_eq_nil_of_le (by omega)];rfl
theorem TA {cK:Nat} {b:Ly} {aH out:List Nat} (h:cK≤out.length):mB b cK aH out=(out,0):=by
  cases aH with
  | nil=>rfl
  | cons x r=>unfold mB;rw[if_pos h]
theorem drop_cons {aH:List Nat} {i x:Nat} (h:aH[i]? = some x):aH.drop i=x :: aH.drop (i+1):=by
  obtain⟨A,B⟩:=List.getElem?_eq_some_iff.1 h
  rw[← B];exact(List.drop_eq_getElem_cons A)
theorem aeb {cK i x:Nat} {b:Ly} {aH out:List Nat} (h:aH[i]? = some x) (hm:¬cK≤out.length) (hn:o8 b x=true):mB b cK (aH.drop i) out=(out,2):=by
  rw[drop_cons h,mB,if_neg hm,if_pos (by simpa [o8]using hn)]
theorem abL {cK i x c:Nat} {b:Ly} {aH:List Nat} {l l':lC} (h:aH[i]? = some x) (hm:¬cK≤l.out.length) (hn:o8 b x=false) (hi:itF l x=(c,l')) (hc:c≠0):mB b cK (aH.drop i) l.out=(l'.out,c):=by
  have A:=qM hn
  rw[drop_cons h,mB,if_neg hm,if_neg (by omega)]
  unfold itF at hi
  split at hi
  · rename_i h2;rw[if_pos h2];simp only[Prod.mk.injEq]at hi;rw[← hi.1,← hi.2]
  exact absurd (congrArg Prod.fst hi).symm hc
theorem TB {cK i x c:Nat} {b:Ly} {aH:List Nat} {l l':lC} (h:aH[i]? = some x) (hm:¬cK≤l.out.length) (hn:o8 b x=false) (hi:itF l x=(c,l')) (hc:¬c≠0):mB b cK (aH.drop i) l.out=mB b cK (aH.drop (i+1)) l'.out:=by
  have A:=qM hn
  rw[drop_cons h,mB,if_neg hm,if_neg (by omega)]
  unfold itF at hi
  split at hi
  · exact absurd (congrArg Prod.fst hi) (by omega)
  rename_i h2;rw[if_neg h2];simp only[Prod.mk.injEq]at hi;rw[← hi.2]
def xM (s:Nat) (b:Ly) (cK p:Nat):List Nat × Nat:=rH s b cK p 0 []
end Go.Wk
namespace Go.Wk
open Go Go.RowKit
def EO (aH:List Nat) (c r:Nat):List Nat:=(List.range r).map fun j=>aH.getD (c+j) 0
theorem OX (aH:List Nat) (c r:Nat):EO aH c (r+1)=aH.getD c 0 :: EO aH (c+1) r:=by
  unfold EO
  rw[List.range_succ_eq_map,List.map_cons,List.map_map]
  congr 1
  exact List.map_congr_left fun j _=>by simp only[Function.comp];congr 1;omega
theorem adU {b:Ly} {l:List Ob} {src:Nat} {av aH:List Nat} (h:Chain b l src av aH) (hO:fH b 272 l b.length) {k a:Nat} (ha:av[k]? = some a):jq 272 b a=({next:=av.getD (k+1) 0,aH:=EO aH (oO k) (eu (k:Int))},0):=by
  have D:=hO.mem (h.ob k a ha)
  have C:=h.le hO ha
  have E:=sB (k:=(k:Int)) (by omega)
  have A:=rT D (by decide) (by simp only;omega)
  simp only at A
  unfold jq
  rw[if_neg (by omega)]
  unfold kg
  rw[A]
  simp only
  rw[if_neg (by simp),if_neg (by simp),if_neg (by omega),show(24+8*eu (k:Int)-24)/8=eu (k:Int)by omega,h.next k a ha]
  congr 2
  unfold fW EO
  exact List.map_congr_left fun j B=>h.gN k a j ha (List.mem_range.1 B)
structure uM (b:Ly) (aH:List Nat):Prop where
  ok:∀x∈aH,x≠0∧x<b.length
  BO:aH.Pairwise (· < ·)
theorem uM.get {b:Ly} {aH:List Nat} (h:uM b aH) {i:Nat} (hi:i<aH.length):aH.getD i 0≠0∧aH.getD i 0<b.length:=by
  have:aH.getD i 0∈aH:=by rw[List.getD_eq_getElem?_getD,List.getElem?_eq_getElem hi];exact List.getElem_mem hi
  exact h.ok _ this
theorem uM.lt {b:Ly} {aH:List Nat} (h:uM b aH) {i j:Nat} (hij:i<j) (hj:j<aH.length):aH.getD i 0<aH.getD j 0:=by
  rw[List.getD_eq_getElem?_getD,List.getD_eq_getElem?_getD,List.getElem?_eq_getElem (by omega),List.getElem?_eq_getElem hj]
  exact List.pairwise_iff_getElem.1 h.BO i j (by omega) hj hij
theorem XB {aH:List Nat} {c:Nat} (h0:0<c) (hc:c≤aH.length):tL (aH.take c)=aH.getD (c-1) 0:=by
  unfold tL
  rw[List.getLast?_eq_getElem?,List.length_take,List.getElem?_take,Nat.min_eq_left hc,if_pos (by omega),List.getD_eq_getElem?_getD]
theorem ach {b:Ly} {aH:List Nat} (h:uM b aH) {c:Nat} (hc:c<aH.length):qm (aH.take c) (aH.getD c 0)=0:=by
  unfold qm
  by_cases h0:c=0
  · subst h0;simp
  rw[XB (by omega) (by omega),if_neg]
  have:=h.lt (i:=c-1) (j:=c) (by omega) hc
  omega
theorem PG {aH:List Nat} {c:Nat} (hc:c<aH.length):aH.take c ++ [aH.getD c 0]=aH.take (c+1):=by
  rw[List.take_add_one,List.getD_eq_getElem?_getD,List.getElem?_eq_getElem hc];rfl
theorem JM {aH:List Nat} {c:Nat} (hc:aH.length≤c):aH.getD c 0=0:=by rw[List.getD_eq_getElem?_getD,List.getElem?_eq_none hc];rfl
theorem CQ {b:Ly} {aH:List Nat} {cK:Nat} (h:uM b aH):∀(r c:Nat),c≤aH.length→c≤cK →
    mB b cK (EO aH c r) (aH.take c)=if cK≤aH.length∨c+r≤aH.length then(aH.take (min cK (c+r)),0)else(aH,2)
  | 0,c,hc,hm=>by
    show(aH.take c,0)=_
    rw[if_pos (.inr (by omega)),Nat.add_zero,Nat.min_eq_right hm]
  | r+1,c,hc,hm=>by
    have hl:(aH.take c).length=c:=by rw[List.length_take];omega
    rw[OX,mB,hl]
    by_cases h1:cK≤c
    · rw[if_pos h1,if_pos (.inl (by omega)),Nat.min_eq_left (by omega),show cK=c by omega]
    · rw[if_neg h1]
      by_cases h2:c<aH.length
      · have A:=h.get h2
        rw[if_neg (by omega),ach h h2,if_neg (by simp),PG h2,CQ h r (c+1) (by omega) (by omega),show c+1+r=c+(r+1)by omega]
      · rw[JM (by omega),if_pos (.inl q),if_neg (by omega),List.take_of_length_le (by omega)]
theorem zA {b:Ly} {l:List Ob} {src:Nat} {av aH:List Nat} {cK:Nat} (h:Chain b l src av aH) (hO:fH b 272 l b.length) (hi:uM b aH):∀(d k ahead:Nat),k+d=av.length→(k=0→ahead=0)→(∀j,k=j+1→av[j]? = some ahead)→min cK (oO k)≤aH.length →
    ∃c,rH 272 b cK (av.getD k 0) ahead (aH.take (min cK (oO k)))=(aH.take (min cK aH.length),c)∧(c=0∧cK≤aH.length∨(c=2∨c=14)∧aH.length<cK)
  | d,k,ahead,hd,h0,h1,hk=>by
    have hl:(aH.take (min cK (oO k))).length=min cK (oO k):=by rw[List.length_take];omega
    have F:=h.hi
    rw[rH,hl]
    by_cases hm:cK≤oO k
    · rw[Nat.min_eq_left hm]at hk ⊢
      rw[if_pos (Nat.le_refl _),Nat.min_eq_left (by omega)]
      exact⟨0,q,.inl ⟨q,hk⟩⟩
    · rw[Nat.min_eq_right (by omega)]at hk ⊢
      rw[if_neg (by omega)]
      match d with
      | 0 =>
        have C:k=av.length:=by omega
        subst C
        have:aH.length=oO av.length:=by omega
        rw[JM (Nat.le_refl _),if_pos (.inl q),← this,Nat.min_eq_right (by omega)]
        exact⟨14,q,.inr ⟨.inr q,by omega⟩⟩
      | d+1 =>
        obtain⟨a,A⟩:∃a,av[k]? = some a:=⟨_,List.getElem?_eq_getElem (by omega)⟩
        have G:=h.le hO A
        have D:=adU h hO A
        have E:ahead<a:=by
          by_cases hk0:k=0
          · have:=h0 hk0;omega
          · have:=h1 (k-1) (by omega)
            exact h.BO (k-1) ahead a this (by rw[show k-1+1=k by omega];exact A)
        rw[getD_some A,if_neg (by omega),if_neg (by omega),D]
        simp only
        rw[if_neg (by simp),CQ hi _ _ hk (by omega)]
        have B:oO k+eu (k:Int)=oO (k+1):=rfl
        by_cases hb:cK≤aH.length∨oO k+eu (k:Int)≤aH.length
        · rw[if_pos hb]
          simp only
          rw[if_neg (by simp),B]
          exact zA h hO hi d (k+1) a (by omega) (by omega) (fun j H=>by rw[show j=k by omega];exact A) (by rw[← B];omega)
        · rw[if_neg hb]
          simp only
          rw[if_pos (by simp),Nat.min_eq_right (by omega),List.take_length]
          exact⟨2,q,.inr ⟨.inl q,by omega⟩⟩
theorem Nv {b:Ly} {l:List Ob} {src cK:Nat} {av aH:List Nat} (h:Chain b l src av aH) (hO:fH b 272 l b.length) (hi:uM b aH) :
    ∃c,xM 272 b cK (av.getD 0 0)=(aH.take (min cK aH.length),c)∧(c=0∧cK≤aH.length∨(c=2∨c=14)∧aH.length<cK):=by
  have:=zA (cK:=cK) h hO hi av.length 0 0 (by omega) (fun _=>rfl) (fun j A=>by omega) (by simp[oO])
  simp only[oO,Nat.min_zero,List.take_zero]at this
  exact this
end Go.Wk
namespace Go.Wk
open Go Go.RowKit
theorem wj {m:Mk} (h:∀k∈m.ai,∃q:Pr,right q.pb=true∧k.cM=aG q) {k:bQ} (hk:k∈m.ai):1≤k.cM.length:=by
  obtain⟨q,_,A⟩:=h k hk
  have:=jN q
  rw[A];omega
def PW (m:Mk) (k:bQ) (ps:List Nat):iL:={dY:=ic m k.cM,dc:=fR m.b (k.bX+24),ec:=fR m.b (k.bX+32),entry:=ps.getD 0 0,array:=k.bg.getD 0 0,cr:=ps.length,aG:=k.cM}
theorem Y8 {m:Mk} {l:List Ob} {es:List fK} {mp:List Nat} {f:Nat→List Nat} {i:Nat} {k:bQ} (h:mj m l es mp f) (hk:m.ai[i]? = some k) (ht:1≤k.cM.length):jZ 272 m.b k.bX=(PW m k (f i),0):=by
  have G:=h.fJ.eS
  have C:=h.fJ.data k (List.mem_of_getElem? hk)
  have A:=h.dat i k hk
  have B:=G.mem C.ob
  have H:=eC (64+k.cM.length)
  have E:=B.ge
  have F:=B.le
  simp only at E F
  unfold jZ
  rw[if_neg (by omega)]
  have D:=GQ (k:=1) (n:=6) B (by decide) (by simp only;omega) q (by simp only;omega)
  simp only at D
  rw[(ng D).2 (by simp) |>.2]
  rw[show k.bX+16+8*6=k.bX+64 by omega,show 64+k.cM.length-(16+8*6)=k.cM.length by omega,C.cM]
  congr 1
  have e:fW m.b (k.bX+16) 6=[fR m.b (k.bX+16),fR m.b (k.bX+24),fR m.b (k.bX+32),fR m.b (k.bX+40),fR m.b (k.bX+48),fR m.b (k.bX+56)]:=rfl
  rw[e,C.dY,A.ent,A.chain.word,A.word]
  rfl
theorem ae9 {m:Mk} {l:List Ob} {es:List fK} {mp:List Nat} {f:Nat→List Nat} {i:Nat} {k:bQ} (h:mj m l es mp f) (hk:m.ai[i]? = some k) (ht:1≤k.cM.length):jM m.c.dx m.c.cV 272 m.b k.bX=(PW m k (f i),0) :=
  RI (Y8 h hk ht) (n:=ic m k.cM) q q
theorem JV:∀{l:List lI} {i:Nat} {x:lI},l[i]? = some x→x.bX<18446744073709551616→x.dY<18446744073709551616→fR (kP l) (16*i)=x.bX∧fR (kP l) (16*i+8)=x.dY
  | [],_,_,h,_,_=>by simp at h
  | y :: l,0,x,h,h1,h2=>by
    simp at h;subst h
    exact⟨lJ (l:=[y.bX,y.dY]) (i:=0) q h1,lJ (l:=[y.bX,y.dY]) (i:=1) q h2⟩
  | y :: l,i+1,x,h,h1,h2=>by
    have hl:(nums [y.bX,y.dY]).length=16:=rfl
    obtain⟨g1,g2⟩:=JV (l:=l) (i:=i) (by simpa using h) h1 h2
    rw[kP,iq (by omega),iq (by omega),hl,show 16*(i+1)-16=16*i by omega,show 16*(i+1)+8-16=16*i+8 by omega]
    exact⟨g1,g2⟩
theorem aep {m:Mk} {l:List Ob} {g:fK} (hs:Stat m l) (w:uL m g) (hb:m.b.length<1000000) {x:lI} (hx:x∈g.ent.aH):x.bX<18446744073709551616∧x.dY<18446744073709551616:=by
  rw[w.aH]at hx
  obtain⟨i,A,rfl⟩:=List.mem_map.1 hx
  have B:=w.lt i A
  have hk:m.ai[i]? = some m.ai[i]:=List.getElem?_eq_getElem B
  have:=(hs.eS.mem (hs.data _ (List.mem_of_getElem? hk)).ob).le
  have:=eC (64+(m.ai[i]).cM.length)
  simp only at this ⊢
  rw[(kX hk).2]
  exact⟨by simp only at *;omega,zN _ _⟩
theorem YP {m:Mk} {l:List Ob} {es:List fK} {mp:List Nat} {f:Nat→List Nat} {g:fK} (h:mj m l es mp f) (w:uL m g) (hg:g∈es) (hb:m.b.length<1000000):jr 272 m.b g.bX=(g.ent,0):=by
  have Z:=h.fJ.eS
  have O:=h.ent g hg
  have I:=Z.mem O.ob
  have hu:=eC (64+16*g.ent.aH.length)
  have V:=I.ge
  have W:=I.le
  have hn:g.ent.aH.length=g.who.length:=by rw[w.aH,List.length_map]
  have h3:=w.len
  obtain⟨⟨d,e,n,E,o⟩,p⟩:=w.ok
  simp only at V W
  unfold jr
  rw[if_neg (by omega)]
  have G:=FQ (k:=3) (ahead:=48) (gN:=16) I (by decide) (by simp only;omega) q (by simp only;omega) (by simp only;omega)
  simp only at G
  unfold mK
  rw[G]
  simp only
  rw[if_neg (by simp)]
  -- the body
  have Y:seg m.b (g.bX+16) (64+16*g.ent.aH.length-16)=nums [g.ent.seq,g.ent.cF,g.ent.mono] ++ g.ent.ck ++ nums [g.ent.xor] ++ kP g.ent.aH:=by
    rw[LX O.seg (by omega)]
    unfold er
    have H:(nums [g.ent.seq,g.ent.cF,g.ent.mono] ++ g.ent.ck ++ nums [g.ent.xor] ++ kP g.ent.aH).length=48+16*g.ent.aH.length:=by simp[eI,sU,E];omega
    rw[vN (by omega),List.append_assoc (MQ _ _),iv (by rw[jQ];omega),jQ,Nat.sub_self]
    exact lO _ _ (by rw[H];omega)
  rw[Y]
  generalize hX:nums [g.ent.seq,g.ent.cF,g.ent.mono] ++ g.ent.ck ++ nums [g.ent.xor] ++ kP g.ent.aH=X
  have B:(nums [g.ent.seq,g.ent.cF,g.ent.mono]).length=24:=rfl
  have Q:(nums [g.ent.xor]).length=8:=rfl
  have z:X.length=48+16*g.ent.aH.length:=by rw[← hX];simp[eI,sU,E];omega
  have A:X=nums [g.ent.seq,g.ent.cF,g.ent.mono] ++ (g.ent.ck ++ (nums [g.ent.xor] ++ kP g.ent.aH)):=by rw[← hX];simp only[List.append_assoc]
  have R:fR X 0=g.ent.seq:=by rw[A];exact lJ (l:=[g.ent.seq,g.ent.cF,g.ent.mono]) (i:=0) q d
  have u:fR X 8=g.ent.cF:=by rw[A];exact lJ (l:=[g.ent.seq,g.ent.cF,g.ent.mono]) (i:=1) q e
  have J:fR X 16=g.ent.mono:=by rw[A];exact lJ (l:=[g.ent.seq,g.ent.cF,g.ent.mono]) (i:=2) q n
  have K:(X.drop 24).take 16=g.ent.ck:=by
    have:seg X 24 16=g.ent.ck:=by
      rw[A,iv (by omega),B,Nat.sub_self]
      exact lO _ _ E.symm
    exact this
  have L:fR X 40=g.ent.xor:=by
    rw[A,iq (by omega),B,iq (by omega),E]
    exact lJ (l:=[g.ent.xor]) (i:=0) q o
  have v:oH X 48 ((X.length-48)/16)=g.ent.aH:=by
    rw[z,show(48+16*g.ent.aH.length-48)/16=g.ent.aH.length by omega]
    apply List.ext_getElem?
    intro i
    unfold oH
    rw[List.getElem?_map]
    by_cases hi:i<g.ent.aH.length
    · rw[List.getElem?_range hi,List.getElem?_eq_getElem hi]
      have F:=aep h.fJ w hb (List.getElem_mem hi)
      obtain⟨S,T⟩:=JV (List.getElem?_eq_getElem hi) F.1 F.2
      have r:fR X (48+16*i)=(g.ent.aH[i]).bX:=by
        rw[A,iq (by omega),B,iq (by omega),E,iq (by omega),Q,show 48+16*i-24-16-8=16*i by omega];exact S
      have t:fR X (48+16*i+8)=(g.ent.aH[i]).dY:=by
        rw[A,iq (by omega),B,iq (by omega),E,iq (by omega),Q,show 48+16*i+8-24-16-8=16*i+8 by omega];exact T
      simp only[Option.map_some,Option.some.injEq]
      rw[r,t]
    · rw[List.getElem?_eq_none (by simpa using hi),List.getElem?_eq_none (by omega)];rfl
  have U:BP X=g.ent:=by
    unfold BP
    rw[R,u,J,K,L,v]
  unfold FV
  rw[U,R,if_neg p,if_neg]
  intro P
  have:vW g.ent.aH=true:=by
    rw[tc]
    intro j x y C D
    rw[w.aH]at C D
    rw[List.getElem?_map]at C D
    cases hwx:g.who[j]? with
    | none=>rw[hwx]at C;cases C
    | some a =>
      cases hwy:g.who[j+1]? with
      | none=>rw[hwy]at D;cases D
      | some c =>
        rw[hwx]at C;rw[hwy]at D
        simp only[Option.map_some,Option.some.injEq]at C D
        subst C;subst D
        simp only
        have M:=(List.getElem?_eq_some_iff.1 hwx)
        have N:=(List.getElem?_eq_some_iff.1 hwy)
        have:=List.pairwise_iff_getElem.1 w.BO j (j+1) M.1 N.1 (by omega)
        rw[M.2,N.2]at this
        exact this
  rw[this]at P;cases P
theorem M1 {q:Pr} (h:right q.pb=true):ot (aG q)=(q,0):=by
  obtain⟨A,B⟩:=nS ((me _).2 h)
  have h1':jm (aG q)=0:=A
  have h2':qc (aG q)=q.pb:=B
  unfold ot
  rw[h1',h2']
  rfl
theorem LQ {m:Mk} {l:List Ob} {es:List fK} {mp:List Nat} {f:Nat→List Nat} (h:mj m l es mp f) (ht:∀k∈m.ai,∃q:Pr,right q.pb=true∧k.cM=aG q):∀(ws:List Nat) (fs:List Pr) (all:List (List UInt8)),(∀i∈ws,i<m.ai.length) →
    ∃qs:List Pr,iY m.c.dx m.c.cV 272 m.b (ws.map fun i=>{bX:=gB m.ai i,dY:=ic m (iZ m.ai i)}) fs all=((fs ++ qs,all ++ ws.map (iZ m.ai)),0)∧qs.map aG=ws.map (iZ m.ai)∧∀q∈qs,right q.pb=true
  | [],fs,all,_=>⟨[],by simp[iY],rfl,by simp⟩
  | i :: r,fs,all,hw=>by
    have hl:=hw i (by simp)
    have hk:m.ai[i]? = some m.ai[i]:=List.getElem?_eq_getElem hl
    obtain⟨q,hq1,hq2⟩:=ht _ (List.mem_of_getElem? hk)
    have hp:=ae9 h hk (wj ht (List.mem_of_getElem? hk))
    obtain⟨t1,t2⟩:=kX hk
    obtain⟨qs,g1,g2,g3⟩:=LQ h ht r (fs ++ [q]) (all ++ [iZ m.ai i]) (fun j hj=>hw j (by simp[hj]))
    refine⟨q :: qs,?_,by rw[List.map_cons,List.map_cons,g2,t1,hq2],fun y hy=>?_⟩
    · rw[List.map_cons,iY]
      simp only[t2,hp]
      have e1:(PW m m.ai[i] (f i)).aG=aG q:=hq2
      have e2:(PW m m.ai[i] (f i)).dY=ic m (iZ m.ai i):=by rw[t1];rfl
      rw[if_neg (by simp),if_neg (by rw[e2];simp),e1,M1 hq1]
      simp only
      rw[if_neg (by simp),← hq2,← t1,g1]
      simp
    · rcases List.mem_cons.1 hy with rfl|hy
      · exact hq1
      · exact g3 y hy
theorem aeT {m:Mk} {l:List Ob} {es:List fK} {mp:List Nat} {f:Nat→List Nat} {g:fK} {r:Rec} (h:mj m l es mp f) (ht:∀k∈m.ai,∃q:Pr,right q.pb=true∧k.cM=aG q) (w:uL m g) (hg:g∈es) (hb:m.b.length<1000000) (hr:IQ m g r) :
    ∃fs,lM m.c.dx m.c.cV 272 m.b g.bX=({seq:=r.seq,cF:=r.cF,mono:=r.mono,ck:=r.ck,aj:=fs},0)∧fs.Perm r.aj:=by
  obtain⟨E,C,F,G⟩:=LQ h ht g.who [] [] w.lt
  rw[List.nil_append,List.nil_append]at C
  have L:g.ent.aH.length=g.who.length:=by rw[w.aH,List.length_map]
  have K:=w.len
  refine⟨E,?_,?_⟩
  · exact aaU (all:=g.who.map (iZ m.ai)) (n:=mQ 0 (g.who.map (iZ m.ai))) (YP h w hg hb) (by omega) ⟨hr.seq.symm,hr.cF.symm,hr.mono.symm,hr.ck.symm⟩ (by rw[w.aH];exact C) rfl w.xor
  have D:=hr.aj
  rw[← F]at D
  -- payloads are told apart
  have B:∀(a b:List Pr),(∀q∈a,right q.pb=true)→(∀q∈b,right q.pb=true)→(a.map aG).Perm (b.map aG)→a.Perm b:=by
    intro a b H hb A
    have e:∀(c:List Pr),(∀q∈c,right q.pb=true)→c=(c.map aG).map fun t=>(ot t).1:=fun c I=>by
      rw[List.map_map]
      have:c.map ((fun t=>(ot t).1) ∘ aG)=c.map id:=List.map_congr_left fun q J=>by simp[Function.comp,M1 (I q J)]
      rw[this,List.map_id]
    rw[e a H,e b hb]
    exact A.map _
  exact B E r.aj G hr.right D
end Go.Wk
namespace Go.Wk
open Go Go.RowKit
structure iC (m:Mk) (B:Ly) (H:bY) (l:List Ob) (es:List fK):Prop where
  len:B.length=m.b.length
  read:iP B=(H,0)
  opn:jw B=(some {b:=B,h:=H},0)
  n:∀i,i<20→i≠1→H.n.getD i 0=m.dD i
  key:H.cw=if m.c.dx then 4 else 0
  cV:H.cV=m.c.cV
  img:mj {m with b:=B} l es (es.map fK.bX) (places es)
theorem mj.bytes {m:Mk} {l:List Ob} {es:List fK} {f:Nat→List Nat} {mp:List Nat} {B:Ly} (h:mj m l es mp f) (hl:B.length=m.b.length) (hB:Eff (fun a=>a+8≤272) m.b B) (hw:fR B 176=m.main.getD 0 0):mj {m with b:=B} l es mp f:=by
  have C:=h.fJ.eS
  have H:∀a,a+8≤272→rG l a:=fun a A=>DN C A
  have hO':fH B 272 l B.length:=by
    rw[hl];exact C.lZ hB (Nat.le_refl _) fun o L a A=>by have:=(C.mem L).ge;omega
  have D:∀o∈l,o∈l:=fun _ h=>h
  refine⟨h.fJ.keep hO' ⟨[],by simp,by simp⟩ hB H q q ⟨q,q⟩ (lX.refl _),?_,fun i k E=>?_,⟨h.own.main,h.own.one⟩,fun g I=>(h.ent g I).lZ C hB H D,h.kin⟩
  · refine⟨hw,h.main.ob,fun k a A=>?_,fun k a j A K=>?_,h.main.BO,h.main.lo,h.main.hi⟩
    · have:=h.main.le C A
      rw[hB.fR (by omega) fun x F=>by omega];exact h.main.next k a A
    have:=h.main.le C A
    rw[hB.fR (by omega) fun x F=>by omega];exact h.main.gN k a j A K
  have G:=h.fJ.data k (List.mem_of_getElem? E)
  have J:272≤k.bX:=(C.mem G.ob).ge
  exact(h.dat i k E).lZ G C hB D (fun a A=>by omega) fun j x F a A=>by
    have:=(h.dat i k E).chain.le C F;omega
structure XP (B:Ly) (h:bW):Prop where
  sign:B.take 8=pP
  cw:at4 B 12=h.cw
  state:(B.getD 16 0).toNat=h.state
  cV:(B.drop 24).take 16=h.cV
  n:∀i,i<20→fR B (88+8*i)=h.n.getD i 0
theorem JB {x y:Ly} {p:Nat} (h:x.length≤p):at4 (x ++ y) p=at4 y (p-x.length):=by
  show wV (seg (x ++ y) p 4)=wV (seg y (p-x.length) 4)
  rw[iv h]
theorem abD {v:Nat} (r:Ly) (h:v<4294967296):at4 (low v 4 ++ r) 0=v:=by
  show wV (seg (low v 4 ++ r) 0 4)=v
  rw[lO _ _ (by rw[gV]),GI]
  exact Nat.mod_eq_of_lt h
theorem rQ {x y:Ly} {p k:Nat} (hk:x.length=k) (h:k≤p):fR (x ++ y) p=fR y (p-k):=by rw[iq (by omega),hk]
theorem NE (h:bW) (depth:Nat) (r:Ly) (ok:bW.ok h) (hs:h.state<256):XP (vk h depth ++ r) h:=by
  obtain⟨L,F,M,C,G,H,I,⟨N,J⟩,_⟩:=ok
  have e:vk h depth ++ r=[76,80,75,83,72,72,82,72] ++ (low h.eN 4 ++ (low h.cw 4 ++ ([UInt8.ofNat h.state,0,0,0,0,0,0,0] ++ (h.cV ++ (h.dM ++ (h.ck ++ (h.seq ++ (nums h.n ++ (nums [depth] ++ (low h.cT 4 ++ (low h.cW 4 ++ (nums [h.dr] ++ r)))))))))))):=by
    unfold vk;simp only[List.append_assoc]
  rw[e]
  refine⟨q,?_,?_,?_,fun i K=>?_⟩
  · rw[JB (by simp),JB (by simp[gV])]
    simp only[gV,List.length_cons,List.length_nil]
    exact abD _ F
  · have A:∀y:List UInt8,([76,80,75,83,72,72,82,72] ++ (low h.eN 4 ++ (low h.cw 4 ++ y))).getD 16 0=y.getD 0 0:=fun y=>by
      have D:(low h.eN 4).length=4:=gV _ _
      have E:(low h.cw 4).length=4:=gV _ _
      simp only[List.getD_eq_getElem?_getD]
      rw[List.getElem?_append_right (by simp),List.getElem?_append_right (by simp;omega),List.getElem?_append_right (by simp;omega),D,E]
      rfl
    rw[A]
    show(UInt8.ofNat h.state).toNat=_
    rw[UInt8.toNat_ofNat',Nat.mod_eq_of_lt (by omega)]
  · show seg _ 24 16=_
    rw[iv (by simp),iv (by simp[gV]),iv (by simp[gV]),iv (by simp[gV])]
    simp only[gV,List.length_cons,List.length_nil]
    exact lO _ _ C.symm
  rw[rQ (k:=8) q (by omega),rQ (k:=4) (gV _ _) (by omega),rQ (k:=4) (gV _ _) (by omega),rQ (k:=8) q (by omega),rQ (k:=16) C (by omega),rQ (k:=16) G (by omega),rQ (k:=16) H (by omega),rQ (k:=16) I (by omega),show 88+8*i-8-4-4-8-16-16-16-16=8*i by omega]
  have hi':i<h.n.length:=by omega
  have B:h.n[i]? = some (h.n.getD i 0):=by simp[List.getD,List.getElem?_eq_getElem hi']
  exact lJ B (J _ (List.mem_of_getElem? B))
theorem RH {b:Ly} {i:Nat} (h:i<21):(fp b).n.getD i 0=fR b (88+8*i):=by
  show(((List.range 21).map fun q=>if q<21 then fR b (88+8*q)else 0)).getD i 0=_
  rw[List.getD_eq_getElem?_getD,List.getElem?_map,List.getElem?_range h]
  simp[h]
theorem JR {m:Mk} {l:List Ob} {es:List fK} {rs:List Rec} {st:Nat} (h:pW m l es rs) (hok:bW.ok m.h) (hst:st≤2):XP (mD m st) {m.h with state:=st,n:=m.h.n.set 1 (m.b.length-272)}∧(mD m st).length=m.b.length∧Eff (fun a=>a+8≤272) m.b (mD m st):=by
  have G:=h.img.c.fJ.eS
  have J:=h.ok.small
  have D:=G.le
  have ok':bW.ok {m.h with state:=st,n:=m.h.n.set 1 (m.b.length-272)}:=⟨hok.1,hok.2.1,(by show st<_;omega),hok.2.2.2.1,hok.2.2.2.2.1,hok.2.2.2.2.2.1,hok.2.2.2.2.2.2.1,nH hok.2.2.2.2.2.2.2.1 (by omega),hok.2.2.2.2.2.2.2.2⟩
  have F:=wR {m.h with state:=st,n:=m.h.n.set 1 (m.b.length-272)} m.depth ok'
  have E:=NE {m.h with state:=st,n:=m.h.n.set 1 (m.b.length-272)} m.depth (m.b.drop 272) ok' (by show st<_;omega)
  have C:mD m st=vk {m.h with state:=st,n:=m.h.n.set 1 (m.b.length-272)} m.depth ++ m.b.drop 272:=rfl
  rw[← C]at E
  have A:(mD m st).length=m.b.length:=by rw[C,List.length_append,F,List.length_drop];omega
  have B:Eff (fun a=>a+8≤272) m.b (mD m st):=by
    refine⟨by rw[A];exact Nat.le_refl _,fun q n K I=>?_⟩
    by_cases hn:n=0
    · subst hn;simp[seg]
    · have H:272≤q:=by
        by_cases h1:272≤q
        · exact h1
        · exfalso
          have:=I (min q 264) (by omega)
          omega
      rw[C,iv (by omega),F]
      unfold seg
      rw[List.drop_drop,show 272+(q-272)=q by omega]
  exact⟨E,A,B⟩
theorem VH {m:Mk} {l:List Ob} {es:List fK} {rs:List Rec} {st:Nat} {B:Ly} (h:pW m l es rs) (hst:st≤2) (hb:XP B {m.h with state:=st,n:=m.h.n.set 1 (m.b.length-272)}) (hlen:B.length=m.b.length) (hEff:Eff (fun a=>a+8≤272) m.b B):iC m B (fp B) l es:=by
  have L:=h.img.c.fJ.eS
  have S:=h.ok.small
  have O:=L.le
  have A:∀i,i<20→i≠1→(fp (B)).n.getD i 0=m.dD i:=fun i R Q=>by
    rw[RH (by omega),hb.n i R]
    show(m.h.n.set 1 _).getD i 0=_
    rw[cg (by omega)];rfl
  have J:(fp (B)).n.getD 1 0=m.b.length-272:=by
    rw[RH (by omega),hb.n 1 (by omega)]
    show(m.h.n.set 1 _).getD 1 0=_
    exact oF (by have:=h.h20;omega)
  have H:=h.hd.hk
  unfold hk at H
  simp only[Prod.mk.injEq]at H
  obtain⟨_,T,_,U⟩:=H
  have F:(fp (B)).cw=if m.c.dx then 4 else 0:=hb.cw.trans T
  have G:(fp (B)).cV=m.c.cV:=hb.cV.trans U
  have D:(fp (B)).state=st:=hb.state
  have Y:=(L.mem h.img.c.fJ.XA).le
  have Z:=(L.mem h.img.c.fJ.abo).le
  have o:=eC (16+16*m.c.aQ)
  have u5:=eC (16+16*m.c.aP)
  simp only at Y Z
  have sl:=h.img.c.fJ.slots
  have N:(fp (B)).n.getD 0 0=272:=(A 0 (by decide) (by decide)).trans h.hd.n0
  have V:(fp (B)).n.getD 2 0=288:=(A 2 (by decide) (by decide)).trans h.img.c.fJ.n2
  have n3:(fp (B)).n.getD 3 0=16*m.c.aQ:=(A 3 (by decide) (by decide)).trans h.hd.n3
  have W:(fp (B)).n.getD 4 0=304+16*m.c.aQ:=(A 4 (by decide) (by decide)).trans h.img.c.fJ.n4
  have X:(fp (B)).n.getD 5 0=16*m.c.aP:=(A 5 (by decide) (by decide)).trans h.hd.n5
  have E:qK (fp (B))=(m.b.length,true):=by
    unfold qK
    rw[N,J,Nat.mod_eq_of_lt (by omega),if_neg (by omega),show 272+(m.b.length-272)=m.b.length by omega]
  have M:nY (fp (B)) (B).length=0:=by
    unfold nY
    rw[E,F,D,N,J,V,n3,W,X,hlen]
    have I:¬andNot (if m.c.dx=true then 4 else 0) 4≠0:=by cases m.c.dx <;> decide
    rw[if_neg I,if_neg (by omega),if_neg (by omega),if_neg (by simp)]
    have P:∀(p s e:Nat),p%8=0→s≠0→s%16=0→288≤p→p+s≤e→kD (fp (B)) p s e=0:=fun p s e Q d f g k=>by
      unfold kD
      rw[N,if_neg (by omega),if_neg (by omega),if_neg (by omega)]
    simp only
    rw[P 288 _ _ (by omega) (by omega) (by omega) (by omega) (by omega),if_neg (by simp)]
    exact P _ _ _ (by omega) (by omega) (by omega) (by omega) (by omega)
  have C:iP (B)=(fp (B),0):=by
    unfold iP
    have K:nP (B) pP=true:=by
      unfold nP
      rw[if_pos (by show 8≤_;omega)]
      exact decide_eq_true hb.sign
    rw[if_neg (by omega),if_neg (by rw[K];simp),M,if_neg (by simp)]
  refine⟨hlen,C,?_,A,F,G,h.img.c.bytes hlen hEff ?_⟩
  · unfold jw
    rw[C]
    simp only
    rw[if_neg (by simp),E]
    simp only
    rw[← hlen,List.take_length]
  have:=hb.n 11 (by decide)
  rw[show 88+8*11=176 by rfl]at this
  rw[this]
  exact(cg (l:=m.h.n) (i:=1) (j:=11) (v:=m.b.length-272) (by decide)).trans h.img.n11
theorem opened {m:Mk} {l:List Ob} {es:List fK} {rs:List Rec} {st:Nat} (h:pW m l es rs) (hok:bW.ok m.h) (hst:st≤2):iC m (mD m st) (fp (mD m st)) l es:=by
  obtain⟨A,B,C⟩:=JR h hok hst
  exact VH h hst A B C
end Go.Wk
namespace Go.Wk
open Go Go.RowKit
theorem abN {s p:Nat} {b:Ly}:xM s b 0 p=([],0):=by unfold xM;rw[JH (by simp)]
def ki (a b:Rec):Bool:=decide (a.seq=b.seq) && (decide (a.cF=b.cF) && (decide (a.mono=b.mono) && (decide (a.ck=b.ck) && (allIn b.aj a.aj && allIn a.aj b.aj))))
theorem IV {a b:List Pr} (h:∀q,q∈a→q∈b):allIn b a=true:=by
  induction a with
  | nil=>rfl
  | cons p r ih =>
    rw[allIn,if_pos (Zs.2 (h p (by simp)))]
    exact ih fun q A=>h q (by simp[A])
theorem Pq {a b:Rec} (h1:a.seq=b.seq) (h2:a.cF=b.cF) (h3:a.mono=b.mono) (h4:a.ck=b.ck) (h5:∀q,q∈a.aj↔q∈b.aj):ki a b=true:=by
  unfold ki
  rw[IV fun q A=>(h5 q).1 A,IV fun q A=>(h5 q).2 A]
  simp[h1,h2,h3,h4]
theorem vm {H:bY} {k:Bool} (h:H.cw=if k then 4 else 0):decide (H.cw &&& 4≠0)=k:=by rw[h];cases k<;>decide
section
variable {m:Mk} {B:Ly} {H:bY} {l:List Ob} {es:List fK} {rs:List Rec}
theorem RL:∀{l:List Ob} {p e:Nat},fH B p l e→(l.map Ob.bX).Pairwise (· < ·)
  | [],_,_,_=>List.Pairwise.nil
  | o :: r,p,e,h=>by
    obtain⟨h1,h2,h3,h4,h5,h6,h7⟩:=h
    have hu:=eC o.size
    rw[List.map_cons]
    refine List.pairwise_cons.2 ⟨fun x hx=>?_,RL h7⟩
    obtain⟨y,hy,rfl⟩:=List.mem_map.1 hx
    have:=(h7.mem hy).ge
    omega
theorem YQ {mp:List Nat} {f:Nat→List Nat} (h:mj m l es mp f):uM m.b (es.map fK.bX):=by
  have A:=h.fJ.eS
  refine⟨fun x F=>?_,?_⟩
  · obtain⟨g,E,rfl⟩:=List.mem_map.1 F
    have B:=A.mem (h.ent g E).ob
    have C:=B.ge
    have D:=B.le
    have:=eC (64+16*g.ent.aH.length)
    simp only at C D
    omega
  rw[← h.kin]
  exact((RL A).sublist (List.filter_sublist.map _))
theorem uL.bytes {m':Mk} {g:fK} (h:uL m g) (hd:m'.ai=m.ai) (hc:m'.c=m.c):uL m' g:=h.ext (by rw[hd];exact oU.refl _) hc
theorem acJ (im:pW m l es rs) (op:iC m B H l es) {i:Nat} {x:Nat} {r:Rec} (hx:(es.map fK.bX)[i]? = some x) (hr:rs[i]? = some r) :
    ∃y,lM (decide (H.cw &&& 4≠0)) H.cV (H.n.getD 0 0) B x=(y,0)∧ki y r=true∧y.seq=r.seq∧y.cF=r.cF∧y.mono=r.mono∧y.ck=r.ck∧y.aj.Perm r.aj:=by
  have D:H.n.getD 0 0=272:=(op.n 0 (by decide) (by decide)).trans im.hd.n0
  rw[List.getElem?_map]at hx
  cases hg:es[i]? with
  | none=>rw[hg]at hx;cases hx
  | some g =>
    rw[hg]at hx
    simp only[Option.map_some,Option.some.injEq]at hx
    subst hx
    have A:=List.mem_of_getElem? hg
    have w:uL {m with b:=B} g:=(im.img.who g A).bytes rfl rfl
    have F:IQ {m with b:=B} g r:=(im.rcd i g r hg hr).ext (m':={m with b:=B}) (im.img.who g A) (oU.refl _)
    obtain⟨G,E,C⟩:=aeT op.img im.img.txt w A (by have:=im.ok.small;have:=op.len;show B.length<_;omega) F
    rw[vm op.key,op.cV,D]
    exact⟨_,E,Pq rfl rfl rfl rfl fun q=>C.mem_iff,rfl,rfl,rfl,rfl,C⟩
theorem agq (im:pW m l es rs) (op:iC m B H l es):H.n.getD 0 0=272:=(op.n 0 (by decide) (by decide)).trans im.hd.n0
def n3 (l:List Ob):Nat:=(l.filter fun o=>decide (o.kind=3)).length
end
def yo:List Rec→List Rec→Bool
  | [],_=>true
  | a :: r,b :: s=>if ki a b=true then yo r s else false
  | _ :: _,[]=>false
def mh (a b:List Rec):Bool:=if a.length≠b.length then false else yo a b
theorem xB {a b:List Rec} {i:Nat} (h:¬i<a.length):yo (a.drop i) b=true:=by rw[gI (by omega)];rfl
theorem qW {a b:List Rec} {i:Nat} {x y:Rec} (h:a[i]? = some x) (k:b[i]? = some y):yo (a.drop i) (b.drop i)=if ki x y=true then yo (a.drop (i+1)) (b.drop (i+1))else false:=by rw[eG h,eG k];rfl
end Go.Wk
namespace Go.Wk
open Go Go.RowKit
theorem acF {P:Program} {n:Nat} {A:Fr n} {D:List Deferred} {l:List (Nat × Value)} {w:World} {d:Tmp} {ty:TypeId} {ps:String} {af:Array Edge} {x:Operand} {t u e:TypeId} {p:Addr} {g:Option (Nat × Bool)} (hx:ev n l x=some (.pointer (some p))) (hT:P.underlying t=some (.pointer e)) :
    cZ P ⟨some d,.binOp .neq t x (.const (.pointer none)) u,ty,ps,af,g⟩ (bh A D l).eval w (.bool true):=by
  have E:P.underlying t=some (.pointer (P.pointee t)):=by rw[hT];simp[Program.pointee,hT]
  have h:=run_neq_pointer_nil (P:=P) w t (some p) E
  have B:(bh A D l).eval (.const (.pointer none)) = .pointer none:=rfl
  have C:(eqGuard .neq t x (.const (.pointer none)) (.pointer (some p)) (.pointer none)).run P w = .ok () w:=by unfold eqGuard;simp
  simp[cZ,execOp,cC hx,B,C,h]
def vV (v:fE) (p:Nat):Rec × Nat:=lM (decide (v.h.cw &&& 4≠0)) v.h.cV (v.h.n.getD 0 0) v.b p
def l7 (v:fE):List Nat→Nat→Nat→List Nat→List Nat
  | [],_,_,o=>o
  | p :: r,i,last,o=>if(vV v p).2=0∧last<(vV v p).1.seq then l7 v r (i+1) (vV v p).1.seq (o ++ [i])else l7 v r (i+1) last o
def kQ (v:fE) (at_:List Nat) (i:Nat):Rec × Nat:=if i<at_.length then vV v (at_.getD i 0)else(vU,2)
def oA (v:fE) (at_:List Nat):List Nat→List Rec→List Rec × Bool
  | [],o=>(o,true)
  | i :: r,o=>if(kQ v at_ i).2≠0 then([],false)else oA v at_ r (o ++ [(kQ v at_ i).1])
section
variable {v:fE} {at_ g o:List Nat} {i p last c:Nat} {r:Rec}
theorem wN (h:¬i<at_.length):l7 v (at_.drop i) i last o=o:=by rw[gI (by omega)];rfl
theorem wO (h:at_[i]? = some p) (hr:vV v p=(r,c)) (hc:c=0) (hl:last<r.seq):l7 v (at_.drop i) i last o=l7 v (at_.drop (i+1)) (i+1) r.seq (o ++ [i]):=by
  subst hc;rw[eG h,l7,hr,if_pos ⟨q,hl⟩]
theorem vg (h:at_[i]? = some p) (hr:vV v p=(r,c)) (hc:¬(c=0∧last<r.seq)):l7 v (at_.drop i) i last o=l7 v (at_.drop (i+1)) (i+1) last o:=by
  rw[eG h,l7,hr,if_neg hc]
theorem GC (h:at_[i]? = some p):kQ v at_ i=vV v p:=by
  have A:=(List.getElem?_eq_some_iff.1 h).1
  unfold kQ;rw[if_pos A,List.getD_eq_getElem?_getD,h];rfl
def atF (at_:List Nat) (i:Nat):Nat × Nat:=if i<at_.length then(at_.getD i 0,0)else(0,2)
theorem afn (h:at_[i]? = some p):atF at_ i=(p,0):=by
  have A:=(List.getElem?_eq_some_iff.1 h).1
  unfold atF;rw[if_pos A,List.getD_eq_getElem?_getD,h];rfl
theorem adW (h:¬i<at_.length):atF at_ i=(0,2):=by unfold atF;rw[if_neg h]
theorem Z9 {x:Rec × Nat} (h:atF at_ i=(p,c)) (hc:c=0) (hr:vV v p=x):kQ v at_ i=x:=by
  unfold atF at h
  unfold kQ
  split at h
  · rename_i hi;cases h;rw[if_pos hi];exact hr
  cases h;cases hc
theorem TU (h:atF at_ i=(p,c)) (hc:c≠0):kQ v at_ i=(vU,c):=by
  unfold atF at h
  unfold kQ
  split at h
  · cases h;exact absurd q hc
  rename_i hi;cases h;rw[if_neg hi]
theorem WE {os:List Rec} (h:¬i<g.length):oA v at_ (g.drop i) os=(os,true):=by rw[gI (by omega)];rfl
theorem aaV {os:List Rec} (h:g[i]? = some p) (hr:kQ v at_ p=(r,c)) (hc:c≠0):oA v at_ (g.drop i) os=([],false):=by rw[eG h,oA,hr,if_pos hc]
theorem OV {os:List Rec} (h:g[i]? = some p) (hr:kQ v at_ p=(r,c)) (hc:¬c≠0):oA v at_ (g.drop i) os=oA v at_ (g.drop (i+1)) (os ++ [r]):=by rw[eG h,oA,hr,if_neg hc]
structure MR (v:fE) (at_:List Nat) (g:List Nat) (last:Nat):Prop where
  ok:∀i∈g,i<at_.length∧(kQ v at_ i).2=0∧0<(kQ v at_ i).1.seq∧(kQ v at_ i).1.seq≤last
  BO:g.Pairwise fun a b=>(kQ v at_ a).1.seq<(kQ v at_ b).1.seq
theorem OW:MR v at_ [] 0:=⟨by simp,List.Pairwise.nil⟩
theorem rU:∀(n i last:Nat) (o:List Nat),i+n=at_.length→MR v at_ o last→o.length≤i→∃last',MR v at_ (l7 v (at_.drop i) i last o) last'∧(l7 v (at_.drop i) i last o).length≤at_.length
  | 0,i,last,o,h,hr,hl=>⟨last,by rw[wN (by omega)];exact⟨hr,by omega⟩⟩
  | n+1,i,last,o,h,hr,hl=>by
    obtain⟨p,hp⟩:∃p,at_[i]? = some p:=⟨_,List.getElem?_eq_getElem (by omega)⟩
    rcases hv:vV v p with⟨r,c⟩
    by_cases hc:c=0∧last<r.seq
    · rw[wO hp hv hc.1 hc.2]
      have hj:kQ v at_ i=(r,c):=(GC hp).trans hv
      refine rU n (i+1) r.seq (o ++ [i]) (by omega) ⟨fun j hm=>?_,?_⟩ (by simp;omega)
      · rcases List.mem_append.1 hm with hm|hm
        · obtain⟨h1,h2,h3,h4⟩:=hr.ok j hm
          exact⟨h1,h2,h3,by omega⟩
        · simp at hm;subst hm;rw[hj];exact⟨by omega,hc.1,by simp only;omega,Nat.le_refl _⟩
      · refine List.pairwise_append.2 ⟨hr.BO,by simp,fun a ha b hb=>?_⟩
        simp at hb;subst hb
        have:=(hr.ok a ha).2.2.2
        rw[hj];simp only;omega
    · rw[vg hp hv hc]
      exact rU n (i+1) last o (by omega) hr (by omega)
theorem EJ:∀(g:List Nat) (os:List Rec),(∀i∈g,(kQ v at_ i).2=0)→oA v at_ g os=(os ++ g.map fun i=>(kQ v at_ i).1,true)
  | [],os,_=>by simp[oA]
  | i :: r,os,h=>by
    rw[oA,if_neg (by simpa using h i (by simp)),EJ r _ fun j hj=>h j (by simp[hj])]
    simp
end
section
variable {m:Mk} {B:Ly} {H:bY} {l:List Ob} {es:List fK} {rs:List Rec}
end
theorem Zl (v:fE) (at_:List Nat):(l7 v at_ 0 0 []).length≤at_.length:=by
  obtain⟨last,_,A⟩:=rU at_.length 0 0 [] (by omega) (OW (v:=v) (at_:=at_)) (Nat.le_refl _)
  rwa [List.drop_zero]at A
theorem HE:∃y,jw (nu [] 0)=(some y,0)∧y.h.n.getD 8 0=0:=by
  rcases h:jw (nu [] 0)with⟨x,c⟩
  obtain⟨rfl,y,rfl,A⟩:=KX h
  exact⟨y,q,A⟩
end Go.Wk
namespace Go.Wk
open Go Go.RowKit
def rO (p:Ly) (l:List Pr):Bool:=l.any fun q=>decide (aG q=p)
theorem XW {p:Ly} {l:List Pr} {j:Nat} (h:¬j<l.length):rO p (l.drop j)=false:=by rw[gI (by omega)];rfl
theorem SI {p:Ly} {l:List Pr} {j:Nat} {q:Pr} (h:l[j]? = some q):rO p (l.drop j)=(decide (aG q=p) || rO p (l.drop (j+1))):=by rw[eG h];rfl
section
variable {m:Mk} {B:Ly} {H:bY} {l:List Ob} {es:List fK} {rs:List Rec}
theorem abW (im:pW m l es rs) (op:iC m B H l es) {i j:Nat} {g:fK} {r:Rec} {kd:bQ} (hg:es[i]? = some g) (hr:rs[i]? = some r) (hk:m.ai[j]? = some kd):rO kd.cM r.aj=true↔j∈g.who:=by
  have D:=List.mem_of_getElem? hg
  have I:=im.rcd i g r hg hr
  have w:=im.img.who g D
  have G:rO kd.cM r.aj=true↔kd.cM∈r.aj.map aG:=by
    unfold rO;rw[List.any_eq_true,List.mem_map]
    exact⟨fun⟨q,A,C⟩=>⟨q,A,dT C⟩,fun⟨q,A,C⟩=>⟨q,A,decide_eq_true C⟩⟩
  rw[G,← I.aj.mem_iff,List.mem_map]
  constructor
  · rintro⟨E,A,C⟩
    obtain⟨y,F⟩:∃y,m.ai[E]? = some y:=⟨_,List.getElem?_eq_getElem (w.lt E A)⟩
    rw[(kX F).1]at C
    have:=op.img.fJ.one E j y kd F hk (.inr C)
    subst this;exact A
  exact fun h=>⟨j,h,(kX hk).1⟩
theorem aeQ (im:pW m l es rs) {i:Nat} {g:fK} {r:Rec} (hg:es[i]? = some g) (hr:rs[i]? = some r):r.aj.length≤16:=by
  have w:=(im.img.who g (List.mem_of_getElem? hg)).len
  have h:=(im.rcd i g r hg hr).aj.length_eq
  rw[List.length_map,List.length_map]at h
  omega
end
end Go.Wk
namespace Go.Wk
open Go Go.RowKit
end Go.Wk
namespace Go.Wk
open Go Go.RowKit
section
variable {m:Mk} {B:Ly} {H:bY} {l:List Ob} {es:List fK} {rs:List Rec}
theorem aa7 (op:iC m B H l es):(qK H).1=B.length:=by
  obtain⟨C,_⟩:=BG (e:=(qK H).1) (s:=(qK H).2) op.read q
  have h:=op.opn
  unfold jw at h
  rw[op.read]at h
  simp only[ne_eq,not_true_eq_false,if_false,Prod.mk.injEq,Option.some.injEq,and_true]at h
  have A:=congrArg (fun v:fE=>v.b.length) h
  simp only[List.length_take]at A
  omega
end
end Go.Wk
namespace Go.Wk
open Go Go.RowKit
theorem acd {x:Ly} {i:Nat} {c:UInt8} (h:x.length=16):(gD x).set i (b8 c)=gD (x.set i c):=by
  rw[lg h,lg (by simpa using h),List.map_set]
theorem take_set {x y:Ly} {k:Nat} {c:UInt8} (hx:x.length=16) (hk:k<16) (h:x.take k=y.take k) (hc:y[k]? = some c):(x.set k c).take (k+1)=y.take (k+1):=by
  rw[List.take_add_one,List.take_add_one,hc,← h]
  congr 1
  · apply List.ext_getElem?
    intro j
    simp only[List.getElem?_take]
    split
    · rw[List.getElem?_set_ne (by omega)]
    rfl
  simp[hx,hk]
def yc (h:bY):bW:={eN:=h.eN,cw:=h.cw,state:=h.state,cV:=h.cV,dM:=h.dM,ck:=h.ck,seq:=h.seq,n:=h.n.take 20,cT:=h.cT,cW:=h.cW,dr:=h.dr}
def yj (v:fE):jX:={h:=yc v.h,depth:=v.h.n.getD 20 0,b:=v.b}
theorem oL {h:bY} {i:Nat} (hi:i<20):(yc h).n.getD i 0=h.n.getD i 0:=by
  simp only[yc,List.getD_eq_getElem?_getD,List.getElem?_take,if_pos hi]
def rn (b:Ly) (j:Nat):List Nat:=(List.range 20).map fun q=>if q<j then fR b (88+8*q)else 0
theorem RV (b:Ly):rn b 0=List.replicate 20 0:=by
  unfold rn
  simp only[Nat.not_lt_zero,if_false]
  rfl
theorem acM {b:Ly} {j:Nat} (hj:j<20):(rn b j).set j (fR b (88+8*j))=rn b (j+1):=by
  apply List.ext_getElem
  · simp[rn]
  intro q A B
  simp[rn]at A
  by_cases h:q=j
  · subst h;simp[rn]
  rw[List.getElem_set_ne (Ne.symm h)]
  simp only[rn,List.getElem_map,List.getElem_range]
  by_cases h3:q<j
  · rw[if_pos h3,if_pos (by omega)]
  rw[if_neg h3,if_neg (by omega)]
theorem acL (b:Ly):rn b 20=(fp b).n.take 20:=by
  apply List.ext_getElem?
  intro i
  simp only[rn,fp,jj,List.getElem?_map,List.getElem?_take]
  by_cases h:i<20
  · rw[if_pos h,List.getElem?_range h,List.getElem?_range (show i<21 by omega)]
    simp[h,show i<21 by omega]
  rw[if_neg h,List.getElem?_eq_none (by simpa using h)];rfl
def rawH (b:Ly) (j:Nat):bW :=
  {eN:=at4 b 8,cw:=at4 b 12,state:=lD b 16,cV:=(b.drop 24).take 16,dM:=(b.drop 40).take 16,ck:=(b.drop 56).take 16,seq:=(b.drop 72).take 16,n:=rn b j,cT:=0,cW:=0,dr:=0}
def aaS (b:Ly):bW:={rawH b 20 with cT:=at4 b 256,cW:=at4 b 260,dr:=fR b 264}
theorem RS (b:Ly):aaS b=yc (fp b):=by
  unfold aaS rawH yc
  rw[acL]
  rfl
theorem Wc (b:Ly):(fp b).n.getD 20 0=fR b 248:=by
  simp[fp,jj,List.getD]
theorem FN {b:Ly} {p v:Nat} {s:Bool} {i:Int} (h:oG b i 4=(v,s)) (hi:i=(p:Int)) (hb:p+4≤b.length):at4 b p=v∧v<4294967296:=by
  subst hi
  have A:=vf (k:=4) (.inl q) hb
  rw[show((4:Nat):Int)=4 from rfl]at A
  rw[A]at h
  have e:at4 b p=v:=congrArg Prod.fst h
  exact⟨e,e ▸ wC b p⟩
theorem HY {h:bW} {j v:Nat} (ok:bW.ok h) (hv:v<18446744073709551616):bW.ok {h with n:=h.n.set j v} :=
  ⟨ok.1,ok.2.1,ok.2.2.1,ok.2.2.2.1,ok.2.2.2.2.1,ok.2.2.2.2.2.1,ok.2.2.2.2.2.2.1,nH ok.2.2.2.2.2.2.2.1 hv,ok.2.2.2.2.2.2.2.2⟩
theorem VZ {b:Ly} {j x:Nat} (hj:j<20) (hx:fR b (88+8*j)=x):{rawH b j with n:=(rawH b j).n.set j x}=rawH b (j+1):=by
  subst hx
  unfold rawH
  simp only[acM hj]
def sA (b:Ly):bW:={rawH b 0 with eN:=0,cw:=0}
theorem vT {b:Ly} {k:Nat} (h:lD b 16=k):sA b={eN:=0,cw:=0,state:=k,cV:=(b.drop 24).take 16,dM:=(b.drop 40).take 16,ck:=(b.drop 56).take 16,seq:=(b.drop 72).take 16,n:=List.replicate 20 0,cT:=0,cW:=0,dr:=0}:=by
  subst h;unfold sA rawH;rw[RV]
theorem ri {b:Ly} {o:Nat} (h:o+16≤b.length):((b.drop o).take 16).length=16:=by simp;omega
theorem nB {b:Ly} (h:272≤b.length):bW.ok (sA b):=by
  have:=CG b 16
  refine⟨show(0:Nat)<_ by decide,show(0:Nat)<_ by decide,?_,ri (by omega),ri (by omega),ri (by omega),ri (by omega),?_,show(0:Nat)<_ by decide,show(0:Nat)<_ by decide,show(0:Nat)<_ by decide⟩
  · show lD b 16<_;omega
  show(rn b 0).length=20∧∀y∈rn b 0,y<18446744073709551616
  rw[RV];exact iy 20
theorem aeN {b:Ly} {s1 s2:bW} {x y:Nat} (e1:s1={sA b with eN:=x}) (e2:s2={s1 with cw:=y}) (hx:at4 b 8=x) (hy:at4 b 12=y):s2=rawH b 0:=by
  subst hx;subst hy;subst e1;subst e2;rfl
theorem acH {b:Ly} {h s1 s2 s3:bW} {i x y z:Nat} (h0:h=rawH b i) (hi:i=20) (e1:s1={h with cT:=x}) (e2:s2={s1 with cW:=y}) (e3:s3={s2 with dr:=z}) (hx:at4 b 256=x) (hy:at4 b 260=y) (hz:fR b 264=z):aaS b=s3:=by
  subst hx;subst hy;subst hz;subst hi;subst e3;subst e2;subst e1;subst h0;rfl
def rD (h:bW):Nat × Bool:=if 18446744073709551615-h.n.getD 0 0<h.n.getD 1 0 then(0,false)else(h.n.getD 0 0+h.n.getD 1 0,true)
theorem RP {h:bY} (h0:h.n.getD 0 0<18446744073709551616) (h1:h.n.getD 1 0<18446744073709551616):rD (yc h)=qK h:=by
  unfold rD qK
  rw[oL (by omega),oL (by omega)]
  by_cases hc:18446744073709551615-h.n.getD 0 0<h.n.getD 1 0
  · rw[if_pos hc,if_pos (by omega)]
  rw[if_neg hc,if_neg (by omega),Nat.mod_eq_of_lt (by omega)]
def o9 (p size o e:Nat):Nat:=if p%8≠0 then 3 else if size=0∨size%16≠0 then 5 else if p<o∨p-o<16∨e<p∨e-p<size then 2 else 0
theorem ac9 (h:bY) (p size e:Nat):o9 p size (h.n.getD 0 0) e=kD h p size e:=rfl
def VR (h:bW) (len:Nat):Nat :=
  if andNot h.cw 4≠0 then 7
  else if 2<h.state then 8
  else if h.n.getD 0 0<272∨h.n.getD 0 0%8≠0∨h.n.getD 1 0%8≠0 then 5
  else if(rD h).2=false∨len<(rD h).1 then 2
  else if o9 (h.n.getD 2 0) (h.n.getD 3 0) (h.n.getD 0 0) (rD h).1≠0 then o9 (h.n.getD 2 0) (h.n.getD 3 0) (h.n.getD 0 0) (rD h).1
  else o9 (h.n.getD 4 0) (h.n.getD 5 0) (h.n.getD 0 0) (rD h).1
theorem aeB {h:bY} (ok:bY.ok h) (len:Nat):VR (yc h) len=nY h len:=by
  have b:=eU ok.2.2.2.2.2.2.2.1
  unfold VR nY
  rw[RP (b 0) (b 1)]
  simp only[oL (h:=h) (show 0<20 by omega),oL (h:=h) (show 1<20 by omega),oL (h:=h) (show 2<20 by omega),oL (h:=h) (show 3<20 by omega),oL (h:=h) (show 4<20 by omega),oL (h:=h) (show 5<20 by omega),ac9]
  rfl
theorem qR {h:bW} {len r:Nat} {s:Bool} (he:rD h=(r,s)):VR h len=(if andNot h.cw 4≠0 then 7 else if 2<h.state then 8 else if h.n.getD 0 0<272∨h.n.getD 0 0%8≠0∨h.n.getD 1 0%8≠0 then 5
    else if s=false∨len<r then 2 else if o9 (h.n.getD 2 0) (h.n.getD 3 0) (h.n.getD 0 0) r≠0 then o9 (h.n.getD 2 0) (h.n.getD 3 0) (h.n.getD 0 0) r else o9 (h.n.getD 4 0) (h.n.getD 5 0) (h.n.getD 0 0) r):=by
  unfold VR;rw[he]
def oh (b:Ly):bW × Nat × Nat:=(yc (iP b).1,(iP b).1.n.getD 20 0,(iP b).2)
def tF:bW:={eN:=0,cw:=0,state:=0,cV:=pu,dM:=pu,ck:=pu,seq:=pu,n:=List.replicate 20 0,cT:=0,cW:=0,dr:=0}
theorem LH {b:Ly} (h:b.length<272):oh b=(tF,0,22):=by unfold oh;rw[xX h];rfl
theorem RN {b:Ly} (h:¬b.length<272):nP b pP=decide (b.take 8=pP):=by
  unfold nP
  rw[if_pos (by show 8≤_;omega)];rfl
theorem OJ {b:Ly} (h:¬b.length<272) (h2:b.take 8≠[76,80,75,83,72,72,82,72]):oh b=(tF,0,6):=by
  unfold oh
  rw[uI h (by have e:=RN h;rw[show pP=[76,80,75,83,72,72,82,72]from rfl]at e;rw[e];exact decide_eq_false h2)];rfl
theorem LG {b:Ly} {x:bW} {d e:Nat} (h:¬b.length<272) (h2:b.take 8=[76,80,75,83,72,72,82,72]) (hr:(aaS b,fR b 248)=(x,d)) (he:VR x b.length=e):oh b=if e≠0 then(tF,0,e)else(x,d,0):=by
  have A:nP b [76,80,75,83,72,72,82,72]=true:=by have e:=RN h;rw[show pP=[76,80,75,83,72,72,82,72]from rfl]at e;rw[e];exact decide_eq_true h2
  simp only[Prod.mk.injEq]at hr
  have B:nY (fp b) b.length=e:=by rw[← aeB (vJ (by omega)),← RS,hr.1];exact he
  by_cases hc:e≠0
  · rw[if_pos hc]
    unfold oh
    rw[lK h A (by simp) q B hc];rfl
  rw[if_neg hc]
  unfold oh
  rw[LP h A (by simp) q (by omega),← hr.1,← hr.2,RS,Wc]
end Go.Wk
namespace Go.Wk
open Go Go.RowKit
def lF (b:Ly):Option jX × Nat:=((jw b).1.map yj,(jw b).2)
theorem aaF {b:Ly} {x:bW} {d e:Nat} (h:oh b=(x,d,e)) (he:e≠0):lF b=(none,e):=by
  simp only[oh,Prod.mk.injEq]at h
  unfold lF jw
  rw[if_pos (by rw[h.2.2];exact he),h.2.2]
  rfl
theorem aaG {b:Ly} {x:bW} {d e r:Nat} {s:Bool} (h:oh b=(x,d,e)) (he:¬e≠0) (h2:rD x=(r,s)):r≤b.length∧lF b=(some {h:=x,depth:=d,b:=b.take r},0):=by
  simp only[oh,Prod.mk.injEq]at h
  have A:iP b=((iP b).1,0):=by rw[← Classical.not_not.1 he,← h.2.2]
  obtain⟨C,D,_⟩:=sZ A
  have E:bY.ok (iP b).1:=by rw[← D];exact vJ C
  have b':=eU E.2.2.2.2.2.2.2.1
  have B:qK (iP b).1=(r,s):=by rw[← RP (b' 0) (b' 1),h.1];exact h2
  refine⟨(BG A B).1,?_⟩
  unfold lF jw
  rw[if_neg (by rw[A];simp),B]
  simp only[Option.map_some,yj,h.1,h.2.1]
end Go.Wk
namespace Go.Wk
open Go Go.RowKit
theorem qX {b:Ly} {i q n:Nat} {v:UInt8} (h:i<q∨q+n≤i):seg (b.set i v) q n=seg b q n:=by
  apply List.ext_getElem?
  intro j
  by_cases hj:j<n
  · rw[td hj,td hj,List.getElem?_set_ne (by omega)]
  have e:∀c:List UInt8,(seg c q n)[j]? = none:=fun c=>List.getElem?_eq_none (by unfold seg;rw[List.length_take];omega)
  rw[e,e]
theorem PZ (b:Ly) (i:Nat) (v:UInt8):Eff (fun a=>a=8*(i/8)) b (b.set i v) :=
  ⟨by rw[List.length_set];exact Nat.le_refl _,fun q n _ hs=>qX (by have:=hs _ rfl;omega)⟩
theorem yE {b:Ly} {i p:Nat} {v:UInt8} (h:p+4≤i):at4 (b.set i v) p=at4 b p:=by
  show wV (seg (b.set i v) p 4)=wV (seg b p 4)
  rw[qX (.inr h)]
theorem yF {b:Ly} {i p:Nat} {v:UInt8} (h:i<p∨p+8≤i):fR (b.set i v) p=fR b p:=by
  show wV (seg (b.set i v) p 8)=wV (seg b p 8)
  rw[qX h]
theorem VO {b:Ly} {i:Nat} {v:UInt8} (h:272≤i):fp (b.set i v)=fp b:=by
  have A:(b.set i v).getD 16 0=b.getD 16 0:=by simp only[List.getD_eq_getElem?_getD];rw[List.getElem?_set_ne (by omega)]
  have s:∀p,p+16≤272→((b.set i v).drop p).take 16=(b.drop p).take 16:=fun p D=>qX (b:=b) (q:=p) (n:=16) (by omega)
  have B:((List.range 21).map fun q=>if q<21 then fR (b.set i v) (88+8*q)else 0)=(List.range 21).map fun q=>if q<21 then fR b (88+8*q)else 0:=List.map_congr_left fun q C=>by rw[yF (by have:=List.mem_range.1 C;omega)]
  simp only[fp,jj]
  rw[yE (by omega),yE (by omega),yE (by omega),yE (by omega),yF (by omega),A,s 24 (by omega),s 40 (by omega),s 56 (by omega),s 72 (by omega),B]
theorem aaT {b:Ly} {i:Nat} {v:UInt8} {h:bY} (hi:272≤i) (hr:iP b=(h,0)):iP (b.set i v)=(h,0):=by
  obtain⟨C,F,E⟩:=sZ hr
  have A:nP b pP=true:=by
    cases hh:nP b pP with
    | true=>rfl
    | false=>rw[uI (by omega) hh]at hr;have:=congrArg Prod.snd hr;simp at this
  have B:nP (b.set i v) pP=true:=by
    have e:pP.length=8:=rfl
    unfold nP at A ⊢
    rw[e,if_pos (by omega)]at A
    have D:(b.set i v).take 8=b.take 8:=by
      have:=qX (b:=b) (i:=i) (q:=0) (n:=8) (v:=v) (by omega)
      simpa [seg]using this
    rw[e,if_pos (by rw[List.length_set];omega),D];exact A
  unfold iP
  rw[if_neg (by rw[List.length_set];omega),if_neg (by rw[B];simp),VO hi,F,List.length_set,if_neg (by rw[E];simp)]
section
variable {m:Mk} {B:Ly} {H:bY} {l:List Ob} {es:List fK} {rs:List Rec} {jx i:Nat} {kd:bQ} {v:UInt8}
theorem KY (op:iC m B H l es) (hi:272≤i):jw (B.set i v)=(some {b:=B.set i v,h:=H},0):=by
  unfold jw
  rw[aaT hi op.read]
  simp only[ne_eq,not_true_eq_false,if_false]
  rw[aa7 op,List.take_of_length_le (by rw[List.length_set];exact Nat.le_refl _)]
structure tC (m:Mk) (jx:Nat) (kd:bQ) (i:Nat):Prop where
  k:m.ai[jx]? = some kd
  lo:kd.bX+64≤i
  hi:i<kd.bX+64+kd.cM.length
theorem tC.ob (s:tC m jx kd i) (op:iC m B H l es):(⟨kd.bX,1,64+kd.cM.length⟩:Ob)∈l:=(op.img.fJ.data kd (List.mem_of_getElem? s.k)).ob
theorem tC.al8 (s:tC m jx kd i) (op:iC m B H l es):kd.bX%8=0∧kd.bX+64≤8*(i/8)∧8*(i/8)+8≤kd.bX+nV (64+kd.cM.length)∧272≤kd.bX:=by
  have D:=op.img.fJ.eS.mem (s.ob op)
  have A:=D.al (by decide)
  have C:=D.ge
  have E:=s.lo
  have F:=s.hi
  simp only at A C
  refine⟨A,by omega,?_,C⟩
  have:nV (64+kd.cM.length)=(64+kd.cM.length+7)/8*8:=rfl
  omega
theorem tC.off (s:tC m jx kd i) (op:iC m B H l es) {o:Ob} (ho:o∈l) (hn:o.bX≠kd.bX):8*(i/8)+8≤o.bX∨o.bX+nV o.size≤8*(i/8):=by
  obtain⟨_,A,C,_⟩:=s.al8 op
  rcases op.img.fJ.eS.sep ho (s.ob op)with e|e|e
  · rw[e]at hn;exact absurd q hn
  · exact .inr (by simp only at e;omega)
  exact .inl (by simp only at e;omega)
theorem tC.kind (s:tC m jx kd i) (op:iC m B H l es) {o:Ob} (ho:o∈l) (hk:o.kind≠1):o.bX≠kd.bX:=fun e=>by
  have h1:=(op.img.fJ.eS.mem ho).size.1
  have h2:=eC o.size
  have h3:=eC (64+kd.cM.length)
  rcases op.img.fJ.eS.sep ho (s.ob op)with x|x|x
  · rw[x]at hk;exact hk q
  · simp only at x;omega
  · simp only at x;omega
theorem tC.eS (s:tC m jx kd i) (op:iC m B H l es):fH (B.set i v) 272 l (B.set i v).length:=by
  rw[List.length_set]
  refine op.img.fJ.eS.lZ (PZ B i v) (Nat.le_refl _) fun o A a C=>?_
  subst C
  obtain⟨_,D,E,_⟩:=s.al8 op
  by_cases hn:o.bX=kd.bX
  · exact .inr (by omega)
  have:=s.off op A hn
  have G:=(op.img.fJ.eS.mem A).size.1
  have F:=eC o.size
  omega
theorem tC.chain (s:tC m jx kd i) (op:iC m B H l es):Chain (B.set i v) l 176 m.main (es.map fK.bX):=by
  obtain⟨_,E,F,G⟩:=s.al8 op
  refine op.img.main.lZ op.img.fJ.eS (rX l) (Nat.le_refl _) (PZ B i v) (fun _ h=>h) (fun a A=>?_) fun k x D a A=>?_
  · subst A;exact .inr (by omega)
  subst A
  have C:=op.img.main.ob k x D
  have:=s.off op C (s.kind op C (by simp))
  have I:=eC (24+8*eu (k:Int))
  simp only at this
  omega
theorem tC.agV (s:tC m jx kd i) (im:pW m l es rs) (op:iC m B H l es):xM (H.n.getD 0 0) (B.set i v) (H.n.getD 8 0) (H.n.getD 11 0)=(es.map fK.bX,0):=by
  have F:H.n.getD 0 0=272:=(op.n 0 (by decide) (by decide)).trans im.hd.n0
  have G:H.n.getD 8 0=es.length:=(op.n 8 (by decide) (by decide)).trans im.img.n8
  have A:H.n.getD 11 0=m.main.getD 0 0:=(op.n 11 (by decide) (by decide)).trans im.img.n11
  rw[F,G,A]
  have E:=YQ op.img
  obtain⟨c,D,C⟩:=Nv (cK:=es.length) (s.chain op) (s.eS (v:=v) op) ⟨by rw[List.length_set];exact E.ok,E.BO⟩
  rw[List.length_map,Nat.min_self,List.take_of_length_le (by rw[List.length_map];exact Nat.le_refl _)]at D
  rw[D]
  rcases C with⟨rfl,_⟩|⟨_,C⟩
  · rfl
  rw[List.length_map]at C;omega
theorem tC.ent (s:tC m jx kd i) (op:iC m B H l es) {g:fK} (hg:g∈es) (hi:1≤g.ent.aH.length):jr 272 (B.set i v) g.bX=jr 272 B g.bX:=by
  have C:=(op.img.ent g hg).ob
  have I:=op.img.fJ.eS.mem C
  have D:=(s.eS (v:=v) op).mem C
  have A:=I.le
  have J:=eC (64+16*g.ent.aH.length)
  have E:=s.off op C (s.kind op C (by simp))
  simp only at A E
  have hle':g.bX+(64+16*g.ent.aH.length)≤B.length:=lj (by omega) A
  have F:=FQ (k:=3) (ahead:=48) (gN:=16) I (by decide) hle' q (by simp only;omega) (by simp only;omega)
  have G:=FQ (k:=3) (ahead:=48) (gN:=16) D (by decide) (by rw[List.length_set];exact hle') q (by simp only;omega) (by simp only;omega)
  simp only at F G
  unfold jr mK
  rw[F,G,List.length_set,qX (by omega)]
theorem tC.dat (s:tC m jx kd i) (op:iC m B H l es) {k:bQ} (hk:k∈m.ai) (hn:k.bX≠kd.bX) (ht:1≤k.cM.length):jZ 272 (B.set i v) k.bX=jZ 272 B k.bX:=by
  have D:=(op.img.fJ.data k hk).ob
  have F:=op.img.fJ.eS.mem D
  have C:=(s.eS (v:=v) op).mem D
  have A:=F.le
  have K:=eC (64+k.cM.length)
  have E:=s.off op D hn
  simp only at A E
  have hle':k.bX+(64+k.cM.length)≤B.length:=lj (by omega) A
  have G:=GQ (k:=1) (n:=6) F (by decide) hle' q (by simp only;omega)
  have I:=GQ (k:=1) (n:=6) C (by decide) (by rw[List.length_set];exact hle') q (by simp only;omega)
  simp only at G I
  unfold jZ
  rw[List.length_set,(ng G).2 (by simp) |>.2,(ng I).2 (by simp) |>.2,qX (by omega)]
  have e:fW (B.set i v) (k.bX+16) 6=fW B (k.bX+16) 6:=by
    unfold fW
    exact List.map_congr_left fun j J=>yF (by have:=List.mem_range.1 J;omega)
  rw[e]
theorem tC.this (s:tC m jx kd i) (op:iC m B H l es) (ht:1≤kd.cM.length):∃d:iL,jZ 272 (B.set i v) kd.bX=(d,0)∧d.dY=ic m kd.cM∧d.aG=seg (B.set i v) (kd.bX+64) kd.cM.length:=by
  have C:=op.img.fJ.data kd (List.mem_of_getElem? s.k)
  have F:=op.img.fJ.eS.mem C.ob
  have E:=(s.eS (v:=v) op).mem C.ob
  have A:=F.le
  have D:=F.ge
  have K:=eC (64+kd.cM.length)
  have J:=s.lo
  simp only at A D
  have hle':kd.bX+(64+kd.cM.length)≤B.length:=lj (by omega) A
  have G:=GQ (k:=1) (n:=6) E (by decide) (by rw[List.length_set];exact hle') q (by simp only;omega)
  simp only at G
  have I:¬(kd.bX<272∨(B.set i v).length≤kd.bX):=by
    have:kd.bX<B.length:=by omega
    rw[List.length_set];omega
  refine⟨_,by unfold jZ;rw[if_neg I,(ng G).2 (by simp) |>.2],?_,?_⟩
  · have e:fW (B.set i v) (kd.bX+16) 6=[fR (B.set i v) (kd.bX+16),fR (B.set i v) (kd.bX+24),fR (B.set i v) (kd.bX+32),fR (B.set i v) (kd.bX+40),fR (B.set i v) (kd.bX+48),fR (B.set i v) (kd.bX+56)]:=rfl
    rw[e]
    show fR (B.set i v) (kd.bX+16)=_
    rw[yF (by omega)]
    exact C.dY
  show seg _ _ _=_
  rw[show kd.bX+16+8*6=kd.bX+64 by omega,show 64+kd.cM.length-(16+8*6)=kd.cM.length by omega]
def NI (m:Mk) (ws:List Nat):List lI:=ws.map fun i=>{bX:=gB m.ai i,dY:=ic m (iZ m.ai i)}
theorem tC.pay (s:tC m jx kd i) (im:pW m l es rs) (op:iC m B H l es) {j:Nat} {k:bQ} (hk:m.ai[j]? = some k) (hj:j≠jx):jM m.c.dx m.c.cV 272 (B.set i v) k.bX=jM m.c.dx m.c.cV 272 B k.bX:=by
  have A:=List.mem_of_getElem? hk
  unfold jM
  rw[s.dat op A (fun e=>hj (op.img.fJ.one j jx k kd hk s.k (.inl e))) (wj im.img.txt A)]
theorem tC.go (s:tC m jx kd i) (im:pW m l es rs) (op:iC m B H l es):∀(ws:List Nat) (fs:List Pr) (all:List (List UInt8)),(∀j∈ws,j<m.ai.length)→jx∉ws→iY m.c.dx m.c.cV 272 (B.set i v) (NI m ws) fs all=iY m.c.dx m.c.cV 272 B (NI m ws) fs all
  | [],_,_,_,_=>rfl
  | j :: r,fs,all,hw,hn=>by
    have hl:=hw j (by simp)
    have hk:m.ai[j]? = some m.ai[j]:=List.getElem?_eq_getElem hl
    have hp:=s.pay (v:=v) im op hk (fun e=>hn (by rw[e];simp))
    have ih:=fun fs all=>s.go im op r fs all (fun x hx=>hw x (by simp[hx])) (fun h=>hn (by simp[h]))
    unfold NI at ih ⊢
    rw[List.map_cons,iY,iY]
    simp only[(kX hk).2,hp,ih]
theorem tC.bad (s:tC m jx kd i) (im:pW m l es rs) (op:iC m B H l es) (hh:dS m.c.dx m.c.cV (seg (B.set i v) (kd.bX+64) kd.cM.length)≠ic m kd.cM):∀(ws:List Nat) (fs:List Pr) (all:List (List UInt8)),(∀j∈ws,j<m.ai.length)→jx∈ws→(iY m.c.dx m.c.cV 272 (B.set i v) (NI m ws) fs all).2≠0
  | [],_,_,_,h=>by simp at h
  | j :: r,fs,all,hw,hm=>by
    have hl:=hw j (by simp)
    have hk:m.ai[j]? = some m.ai[j]:=List.getElem?_eq_getElem hl
    by_cases hj:j=jx
    · subst hj
      obtain⟨d,d1,d2,d3⟩:=s.this (v:=v) op (wj im.img.txt (List.mem_of_getElem? s.k))
      have e:gB m.ai j=kd.bX:=(kX s.k).2
      have h9:(jM m.c.dx m.c.cV 272 (B.set i v) (gB m.ai j)).2=9:=by
        rw[e];exact adG d1 q (by rw[d2,d3];exact fun h=>hh h.symm)
      unfold NI
      rw[List.map_cons,iY]
      simp only
      rw[h9,if_pos (by decide)]
      show(9:Nat)≠0
      decide
    · have A:=fun fs all=>s.bad im op hh r fs all (fun x C=>hw x (by simp[C])) ((List.mem_cons.1 hm).resolve_left fun e=>hj e.symm)
      unfold NI at A ⊢
      rw[List.map_cons,iY]
      split
      · assumption
      · split
        · show(9:Nat)≠0;decide
        · split
          · assumption
          · exact A _ _
theorem tC.ahI (s:tC m jx kd i) (im:pW m l es rs) (op:iC m B H l es) (hh:dS m.c.dx m.c.cV (seg (B.set i v) (kd.bX+64) kd.cM.length)≠ic m kd.cM) {e:Nat} {p:Nat} {r:Rec} (hx:(es.map fK.bX)[e]? = some p) (hr:rs[e]? = some r) :
    (rO kd.cM r.aj=true→(vV {b:=B.set i v,h:=H} p).2≠0)∧(rO kd.cM r.aj=false→vV {b:=B.set i v,h:=H} p=vV {b:=B,h:=H} p):=by
  have G:=agq im op
  rw[List.getElem?_map]at hx
  cases hg:es[e]? with
  | none=>rw[hg]at hx;cases hx
  | some g =>
    rw[hg]at hx
    simp only[Option.map_some,Option.some.injEq]at hx
    subst hx
    have C:=List.mem_of_getElem? hg
    have w:=im.img.who g C
    have A:=abW im op hg hr s.k
    have L:g.ent.aH.length=g.who.length:=by rw[w.aH,List.length_map]
    have M:=w.len
    have I:=s.ent (v:=v) op C (by omega)
    have J:=YP op.img (w.bytes (m':={m with b:=B}) q q) C (by have:=im.ok.small;have:=op.len;show B.length<_;omega)
    have eo':jr 272 B g.bX=(g.ent,0):=J
    have E:g.ent.aH=NI m g.who:=w.aH
    refine⟨fun h=>?_,fun h=>?_⟩
    · show(lM _ _ _ (B.set i v) g.bX).2≠0
      rw[vm op.key,op.cV,G]
      have F:=s.bad im op hh g.who [] [] w.lt (A.1 h)
      rw[← E]at F
      rw[HX (I.trans eo') (by omega) (Prod.eta (iY m.c.dx m.c.cV 272 (B.set i v) g.ent.aH [] [])).symm F]
      exact F
    · show lM _ _ _ (B.set i v) g.bX=lM _ _ _ B g.bX
      rw[vm op.key,op.cV,G]
      have D:=s.go (v:=v) im op g.who [] [] w.lt (fun K=>by rw[A.2 K]at h;cases h)
      rw[← E]at D
      unfold lM
      rw[I,eo',D]
theorem tC.reads (s:tC m jx kd i) (im:pW m l es rs) (op:iC m B H l es) (hh:dS m.c.dx m.c.cV (seg (B.set i v) (kd.bX+64) kd.cM.length)≠ic m kd.cM):∀(d e last:Nat) (o:List Nat),e+d=es.length→(∀r,rs[e]? = some r→last<r.seq) →
    ∃gs ys,l7 {b:=B.set i v,h:=H} ((es.map fK.bX).drop e) e last o=o ++ gs∧gs.map (kQ {b:=B.set i v,h:=H} (es.map fK.bX))=ys.map (fun y=>(y,0))∧mh ys ((rs.drop e).filter fun r=>!rO kd.cM r.aj)=true
  | 0,e,last,o,h,_=>⟨[],[],by rw[wN (by rw[List.length_map];omega)];simp,q,by
      have:=im.len
      rw[List.drop_of_length_le (by omega)];rfl⟩
  | d+1,e,last,o,h,hl=>by
    have ln:=im.len
    obtain⟨p,hp⟩:∃p,(es.map fK.bX)[e]? = some p:=⟨_,List.getElem?_eq_getElem (by rw[List.length_map];omega)⟩
    obtain⟨r,hr⟩:∃r,rs[e]? = some r:=⟨_,List.getElem?_eq_getElem (by omega)⟩
    obtain⟨y,y1,y2,y3,_⟩:=acJ im op hp hr
    have hv:vV {b:=B,h:=H} p=(y,0):=y1
    obtain⟨s1,s2⟩:=s.ahI (v:=v) im op hh hp hr
    have hd:rs.drop e=r :: rs.drop (e+1):=by
      obtain⟨F,G⟩:=List.getElem?_eq_some_iff.1 hr
      rw[List.drop_eq_getElem_cons F,G]
    have L:∀C,rs[e+1]? = some C→r.seq<C.seq:=fun C A=>by
      have F:=(List.getElem?_eq_some_iff.1 hr)
      have G:=(List.getElem?_eq_some_iff.1 A)
      have:=List.pairwise_iff_getElem.1 im.rise e (e+1) F.1 G.1 (by omega)
      rwa [F.2,G.2]at this
    by_cases K:rO kd.cM r.aj=true
    · have E:=s1 K
      obtain⟨gs,ys,I,J,D⟩:=s.reads im op hh d (e+1) last o (by omega) fun C A=>Nat.lt_trans (hl r hr) (L C A)
      refine⟨gs,ys,?_,J,by rw[hd,List.filter_cons,if_neg (by rw[K];simp)];exact D⟩
      rw[vg hp (Prod.eta (vV {b:=B.set i v,h:=H} p)).symm (fun c=>E c.1)];exact I
    · have ha':rO kd.cM r.aj=false:=by simpa using K
      have hv':=(s2 ha').trans hv
      obtain⟨gs,ys,I,J,D⟩:=s.reads im op hh d (e+1) y.seq (o ++ [e]) (by omega) fun C A=>by rw[y3];exact L C A
      refine⟨e :: gs,y :: ys,?_,?_,?_⟩
      · rw[wO hp hv' q (by rw[y3];exact hl r hr),I];simp
      · rw[List.map_cons,List.map_cons,J,GC hp,hv']
      · rw[hd,List.filter_cons,if_pos (by rw[ha'];rfl)]
        unfold mh at D ⊢
        split at D
        · cases D
        · rename_i hlen
          rw[if_neg (by simpa using hlen),yo,if_pos y2]
          exact D
theorem tC.told (s:tC m jx kd i) (im:pW m l es rs) (op:iC m B H l es) (hh:dS m.c.dx m.c.cV (seg (B.set i v) (kd.bX+64) kd.cM.length)≠ic m kd.cM) {w:fE} {at_:List Nat} (hw:{b:=B.set i v,h:=H}=w) (ha:es.map fK.bX=at_) :
    (oA w at_ (l7 w at_ 0 0 []) []).2=true∧mh (oA w at_ (l7 w at_ 0 0 []) []).1 (rs.filter fun r=>!rO kd.cM r.aj)=true:=by
  subst hw;subst ha
  obtain⟨A,F,C,D,E⟩:=s.reads im op hh es.length 0 0 [] (by omega) fun r I=>(im.top r (List.mem_of_getElem? I)).1
  rw[List.drop_zero]at C E
  rw[C,List.nil_append]
  have J:∀j∈A,(kQ {b:=B.set i v,h:=H} (es.map fK.bX) j).2=0:=fun j G=>by
    have:kQ {b:=B.set i v,h:=H} (es.map fK.bX) j∈F.map fun y=>(y,0):=by rw[← D];exact List.mem_map.2 ⟨j,G,q⟩
    obtain⟨y,_,e⟩:=List.mem_map.1 this
    rw[← e]
  rw[EJ A [] J,List.nil_append]
  refine⟨q,?_⟩
  have e:(A.map fun j=>(kQ {b:=B.set i v,h:=H} (es.map fK.bX) j).1)=F:=by
    have:=congrArg (List.map Prod.fst) D
    rw[List.map_map,List.map_map]at this
    simpa [Function.comp_def]using this
  simp only[e]
  exact E
end
def obL (b:Ly):Nat→Nat→List Nat→List Nat × Nat
  | 0,_,o=>(o,0)
  | k+1,a,o=>if b.length≤a then(o,0)else if(dQ b a).2≠0 then([],(dQ b a).2)else obL b k (a+nV (dQ b a).1.size) (o ++ [a])
def UJ (b:Ly) (a:Nat) (o:List Nat):List Nat × Nat:=obL b (b.length-a+1) a o
section
variable {b:Ly} {a c:Nat} {o:List Nat} {f:fo}
theorem QZ (m:Nat):∀(k a:Nat) (o:List Nat),b.length-a<k→obL b (k+m) a o=obL b k a o
 | 0,_,_,h=>by omega
 | k+1,a,o,h=>by
  rw[show k+1+m=(k+m)+1 by omega,obL,obL]
  split
  ·rfl
  ·split
   ·rfl
   ·rename_i h1 h2
    have ff:=kM (f:=(dQ b a).1) (c:=(dQ b a).2) q h2
    have hu:=eC (dQ b a).1.size
    exact QZ m k _ _ (by omega)
theorem ZR (h:b.length≤a):UJ b a o=(o,0):=by unfold UJ;rw[obL,if_pos h]
theorem ae2 (h:¬b.length≤a) (hf:dQ b a=(f,c)) (hc:c≠0):UJ b a o=([],c):=by
  unfold UJ;rw[obL,if_neg h,hf,if_pos hc]
theorem adE (h:¬b.length≤a) (hf:dQ b a=(f,c)) (hc:¬c≠0):UJ b a o=UJ b (a+nV f.size) (o ++ [a]):=by
  have A:=kM hf hc
  have B:=eC f.size
  unfold UJ
  rw[obL,if_neg h,hf,if_neg hc]
  simp only
  rw[show b.length-a=(b.length-(a+nV f.size)+1)+(b.length-a-(b.length-(a+nV f.size)+1))by omega]
  exact QZ _ _ _ _ (by omega)
end
theorem QY {b:Ly}:∀{l:List Ob} {p e:Nat} (o:List Nat),fH b p l e→p%8=0→e=b.length→UJ b p o=(o ++ l.map Ob.bX,0)
  | [],p,e,o,h,_,he=>by
    have:p=e:=h
    rw[ZR (by omega)];simp
  | x :: r,p,e,o,h,hp,he=>by
    have hm:=fH.mem h (List.mem_cons_self ..)
    have hle:=hm.le
    have hu:=eC x.size
    have hf:=rT hm hp (by omega)
    have hx:x.bX=p:=h.1
    rw[hx]at hf
    have h16:=hm.size.1
    have h2:fH b (p+nV x.size) r e:=h.2.2.2.2.2.2
    rw[adE (by omega) hf (by simp),QY _ h2 (by omega) he,List.map_cons,hx]
    simp
theorem KP {b:Ly}:∀{l:List Ob} {p e:Nat},fH b p l e→p+l.length≤e
  | [],p,e,h=>by have:p=e:=h;simp;omega
  | x :: r,p,e,h=>by
    have h2:fH b (p+nV x.size) r e:=h.2.2.2.2.2.2
    have:=KP h2
    have hu:=eC x.size
    have h16:=h.2.2.2.1
    simp only[List.length_cons];omega
def ZP (t:Ly) (rs:List Rec):List Rec:=rs.filter fun r=>!rO t r.aj
theorem aez {t:Ly} {rs o:List Rec} {i:Nat} (h:¬i<rs.length):o ++ ZP t (rs.drop i)=o:=by rw[gI (by omega)];simp[ZP]
theorem ae0 {t:Ly} {rs o:List Rec} {i:Nat} {r:Rec} (h:rs[i]? = some r) (ha:rO t r.aj=false):o ++ ZP t (rs.drop i)=(o ++ [r]) ++ ZP t (rs.drop (i+1)):=by
  rw[eG h];unfold ZP;rw[List.filter_cons,if_pos (by rw[ha];rfl)];simp
theorem agp {t:Ly} {rs o:List Rec} {i:Nat} {r:Rec} (h:rs[i]? = some r) (ha:rO t r.aj=true):o ++ ZP t (rs.drop i)=o ++ ZP t (rs.drop (i+1)):=by
  rw[eG h];unfold ZP;rw[List.filter_cons,if_neg (by rw[ha];simp)]
theorem WN (b:Ly) (p n:Nat):(b.take (p+n)).drop p=seg b p n:=by
  unfold seg;rw[List.drop_take,Nat.add_sub_cancel_left]
def DU (b:Ly):List Nat × Nat:=if(lF b).2≠0 then([],(lF b).2)else match (lF b).1 with|some v=>UJ v.b (v.h.n.getD 0 0) []|none=>([],0)
theorem acv {b:Ly} {x:Option jX} {c:Nat} (h:lF b=(x,c)) (hc:c≠0):DU b=([],c):=by unfold DU;rw[h,if_pos hc]
theorem Ra {b:Ly} {v:jX} {c:Nat} (h:lF b=(some v,c)) (hc:¬c≠0):DU b=UJ v.b (v.h.n.getD 0 0) []:=by unfold DU;rw[h,if_neg hc]
theorem UK {m:Mk} {B:Ly} {H:bY} {l:List Ob} {es:List fK} {rs:List Rec} (im:pW m l es rs) (op:iC m B H l es):DU B=(l.map Ob.bX,0):=by
  have D:lF B=(some (yj {b:=B,h:=H}),0):=by unfold lF;rw[op.opn];rfl
  rw[Ra D (by simp)]
  have C:(yj {b:=B,h:=H}).h.n.getD 0 0=272:=(oL (by decide)).trans (agq im op)
  rw[C]
  exact(QY [] op.img.fJ.eS (by decide) q).trans (by simp)
theorem YA {m:Mk} {B:Ly} {H:bY} {l:List Ob} {es:List fK} {rs:List Rec} (im:pW m l es rs) (op:iC m B H l es) {k:Nat} {d:iL} (hk:k∈l.map Ob.bX) (hr:mJ B k=(d,0)):∃(jx:Nat) (kd:bQ),m.ai[jx]? = some kd∧kd.bX=k∧d.aG=kd.cM∧d.dY=ic m kd.cM∧k+64+kd.cM.length≤B.length∧272≤k:=by
  obtain⟨o,J,rfl⟩:=List.mem_map.1 hk
  have F:=op.img.fJ.eS.mem J
  have R:=eC o.size
  have O:=F.le
  have E:=F.ge
  have N:=rT F (by decide) (by omega)
  have L:o.kind=1:=by
    unfold mJ at hr
    rw[N]at hr
    simp only at hr
    rw[if_neg (by simp)]at hr
    split at hr
    · have:=congrArg Prod.snd hr;simp at this
    · rename_i h;exact Classical.not_not.1 h
  obtain⟨kd,A,K⟩:=op.img.fJ.all o J L
  obtain⟨jx,I⟩:=List.mem_iff_getElem?.1 A
  have M:=Y8 op.img I (wj im.img.txt A)
  have P:=(op.img.fJ.data kd A).ob
  have G:=op.img.fJ.eS.mem P
  have C:=G.le
  have Q:=eC (64+kd.cM.length)
  simp only at C
  have e:jZ 272 B o.bX=(d,0):=by
    unfold jZ
    rw[if_neg (by omega)];exact hr
  rw[← K]at e
  have D:=congrArg Prod.fst (M.symm.trans e)
  simp only at D
  exact⟨jx,kd,I,K,by rw[← D];rfl,by rw[← D];rfl,by omega,E⟩
end Go.Wk
namespace Go.Wk
open Go Go.RowKit
section
variable {b x:Ly} {p c:Nat}
end
section
variable {k:Bool} {f b:Ly} {s p c n:Nat} {d:iL}
end
section
variable {k:Bool} {f b:Ly} {s p i c n m:Nat} {l:List lI} {x:lI} {fs:List Pr} {all:List (List UInt8)} {q:Ly} {w:Pr}
end
end Go.Wk
namespace Go.Wk
open Go Go.RowKit
end Go.Wk
namespace Go.Wk
open Go Go.RowKit
theorem afh (x y:UInt8):Value.int .u8 ((x.toNat ^^^ y.toNat:Nat):Int)=b8 (x ^^^ y):=by simp[b8,UInt8.toNat_xor]
section
variable {P:Program} {n:Nat} {A:Fr n} {D:List Deferred} {l:List (Nat × Value)} {w:World} {d:Option Tmp} {ty:TypeId} {ps:String} {af:Array Edge} {g:Option (Nat × Bool)}
end
theorem DY {b:Ly} {x:Option fE} {z:Option jX} {c d:Nat} (h:jw b=(x,c)) (h2:lF b=(z,d)):d=c∧z=x.map yj:=by
  unfold lF at h2
  rw[h]at h2
  simp only[Prod.mk.injEq]at h2
  exact⟨h2.2.symm,h2.1.symm⟩
theorem VF {b:Ly} {x:Option fE} {z:Option jX} {c d:Nat} (h:jw b=(x,c)) (h2:lF b=(z,d)) (hc:c=0):∃y q,x=some y∧z=some q∧q=yj y∧y.b.length≤b.length:=by
  subst hc
  obtain⟨y,A,_,B⟩:=DZ h
  obtain⟨_,C⟩:=DY h h2
  exact⟨y,yj y,A,by rw[C,A];rfl,rfl,B⟩
theorem agH {z:Int} (h:(Lit.int .u8 z).wf=true):Value.int .u8 z=b8 (UInt8.ofNat z.toNat):=by
  simp[Lit.wf,IntKind.min,IntKind.max,IntKind.signed,IntKind.bits]at h
  unfold b8
  rw[UInt8.toNat_ofNat',Nat.mod_eq_of_lt (by omega),Int.toNat_of_nonneg (by omega)]
end Go.Wk
namespace Go.Wk
open Go Go.RowKit
end Go.Wk
namespace Go.Wk
open Go Go.RowKit
end Go.Wk
namespace Go.Wk
open Go Go.RowKit
section
variable {f:Nat→Rec × Nat} {at_ g:List Nat} {i p last c:Nat} {k:Int} {r:Rec} {o:List Nat}
end
theorem WL {b:Ly} {x:Option jX} {c:Nat} (h:lF b=(x,c)) (hc:c=0):∃q y,x=some q∧q=yj y∧jw b=(some y,0)∧y.b.length≤b.length:=by
  rcases ho:jw b with⟨y,d⟩
  obtain⟨A,F⟩:=DY ho h
  obtain⟨y,q,B,C,D,E⟩:=VF ho h (by omega)
  exact⟨q,y,C,D,by rw[B,← A,hc],E⟩
end Go.Wk
namespace Go.Proofs.YtbmmkbejcnalcaaGreat
open Go Go.Wk Go.RowKit
set_option linter.unusedVariables false
set_option linter.unusedSimpArgs false
attribute [local irreducible] wpList wpQuiet wpStill gq Code.wp Calls bodyPost
variable {w:World} {Q:Nat→Prop}
noncomputable abbrev Zp:=Tryz.prog
theorem mO:gP Zp 5 1=true:=by kernel_rfl
theorem pY:iG Zp 5=true:=by kernel_rfl
theorem fP:Zp.underlying 31=some (.slice 5):=by kernel_rfl
theorem kY:Zp.underlying 36=some (.int .u64):=by kernel_rfl
theorem u5:Zp.underlying 5=some (.int .u8):=by kernel_rfl
theorem NU (uQ:Up w Q) (n:Int) (a0:(-9223372036854775808≤n∧n<9223372036854775808)) :
  Calls Zp 99 #[(.int .i64 (n:Int))] w fun en w'=>∃r0:Bool,en = .returned (.bool r0)∧Md [] w w'∧oq n=r0:=by
 have M:=Md.refl [] w;have H:=uQ;refine enter (n:=17) Tryz.func99 q q q fun B=>ns (an q (nm q (st _ (mX (a:=n) (b:=1) q q) (mv q ?_))));refine cP (t:=5) q (fun C=>?_) (fun C=>?_)
 ·(have F:=dT C);refine sk C (sk C (st _ (bE q C q) (mv q (sk q (sk q (st _ (bE q q q) (mv q (sk q (sk q (st _ (bE q q q) (ar q ?_)))))))))));exact dA (v:=(.bool true)) trivial q ⟨q,tV⟩ ⟨true,q,M,(by simp only[oq];exact decide_eq_true (by omega))⟩
 (have F:=dF C);refine sg C (aU q) (sg C (mX (a:=n) (b:=2) q q) (st _ (bn q C q) (mv q ?_)));refine cP (t:=9) q (fun D=>?_) (fun D=>?_)
 ·(have G:=dT D);refine sk D (sk D (st _ (bE q D q) (mv q (sk q (sk q (st _ (bE q q q) (ar q ?_)))))));exact dA (v:=(.bool true)) trivial q ⟨q,tV⟩ ⟨true,q,M,(by simp only[oq];exact decide_eq_true (by omega))⟩
 (have G:=dF D);refine sg D (aU q) (sg D (mX (a:=n) (b:=4) q q) (st _ (bn q D q) (mv q ?_)));refine cP (t:=13) q (fun A=>?_) (fun A=>?_)
 ·(have E:=dT A);refine sk A (sk A (st _ (bE q A q) (ar q ?_)));exact dA (v:=(.bool true)) trivial q ⟨q,tV⟩ ⟨true,q,M,(by simp only[oq];exact decide_eq_true (by omega))⟩
 (have E:=dF A);refine sg A (aU q) (sg A (mX (a:=n) (b:=8) q q) (st _ (bn q A q) (ar q ?_)));exact dA (v:=(.bool ((decide (n=8))))) trivial q ⟨q,tV⟩ ⟨(decide (n=8)),q,M,(by simp only[oq];exact(decide_eq_decide.2 (by omega)))⟩
theorem ni (uQ:Up w Q) {v0:Value} {l:Ly} (h0:Ls fe w Q v0 l) (a:Int) (a1:(-9223372036854775808≤a∧a<9223372036854775808)) (n:Int) (a2:(-9223372036854775808≤n∧n<9223372036854775808)) :
  Calls Zp 87 #[v0,(.int .i64 (a:Int)),(.int .i64 (n:Int))] w fun en w'=>∃r0:Nat,∃r1:Bool,en = .returned (.tuple #[(.int .u64 r0),(.bool r1)])∧Md [] w w'∧r0<18446744073709551616∧oG l a n=(r0,r1):=by
 have u:=h0.eZ;have M:=Md.refl [] w;have p:=uQ;have Z:∀b,Q b→Q b:=fun _ h=>h;have P:∀b,Q b→b<w.heap.size→Q b:=fun _ h _=>h;refine enter (n:=59) Tryz.func87 q q q fun B=>ns (dz q (an q (aS (aS ?_))));refine Nq (fun b=>[(41,.bool b),(0,v0),(1,(.int .i64 (a:Int))),(2,(.int .i64 (n:Int))),(6,(.int .u64 ((0:Nat):Int))),(7,(.bool false))]) (fun b w'=>w=w'∧(b=true↔¬(oq n=true∧0≤a∧a+n≤l.length))) ?_ ?_
 ·refine mv q (st _ (aaO (a:=n) (b:=1) q q) (mv q ?_));refine cP (t:=12) q (fun H=>?_) (fun H=>?_)
  ·(have T:=dT H);refine sg H (aU q) (sg H (aaO (a:=n) (b:=2) q q) (st _ (bE q H q) (mv q ?_)));refine cP (t:=16) q (fun I=>?_) (fun I=>?_)
   ·(have U:=dT I);refine sg I (aU q) (sg I (aaO (a:=n) (b:=4) q q) (st _ (bE q I q) (mv q ?_)));refine cP (t:=20) q (fun J=>?_) (fun J=>?_)
    ·(have V:=dT J);refine sg J (aU q) (sg J (aaO (a:=n) (b:=8) q q) (st _ (bE q J q) (mv q ?_)));refine cP (t:=24) q (fun K=>?_) (fun K=>?_)
     ·(have W:=dT K);refine sk K (sk K (st _ (bE q K q) (mv q (sk q (sk q (sk q (sk q (st _ (bE q q q) (mv q (sk q (sk q (sk q (sk q ?_)))))))))))));refine sk q (sk q (st _ (bE q q q) (ax ?_)));refine⟨q,jn true ?_ ?_⟩
      ·exact⟨q,q,q,q,q,q,tV⟩
      ·exact⟨q,by rw[fD];simp;omega⟩
     ·(have W:=dF K);refine sg K (aU q) (sg K (qU (a:=a) (b:=0) q q) (st _ (bn q K q) (mv q ?_)));refine cP (t:=28) q (fun C=>?_) (fun C=>?_)
      ·(have E:=dT C);refine sk C (sk C (sk C (sk C (st _ (bE q C q) (mv q (sk q (sk q (sk q (sk q (sk q (sk q (st _ (bE q q q) (ax ?_)))))))))))));refine⟨q,jn true ?_ ?_⟩
       ·exact⟨q,q,q,q,q,q,tV⟩
       ·exact⟨q,by rw[fD];simp;omega⟩
      ·(have E:=dF C);refine sg C (aU q) (sg C (aU q) (sg C (jC q fP h0.ej) (sg C (uG (a:=a) (b:=((l.length:Nat):Int)) q q) (st _ (bn q C q) (mv q ?_)))));refine cP (t:=34) q (fun A=>?_) (fun A=>?_)
       ·(have F:=dT A);refine sk A (sk A (sk A (sk A (sk A (sk A (st _ (bE q A q) (ax ?_)))))));refine⟨q,jn true ?_ ?_⟩
        ·exact⟨q,q,q,q,q,q,tV⟩
        ·exact⟨q,by rw[fD];simp;omega⟩
       ·(have F:=dF A);refine sg A (aU q) (sg A (jC q fP h0.ej) (sg A (aU q) (sg A (lG (a:=((l.length:Nat):Int)) (b:=a) q q (by omega)) (sg A (aU q) (sg A (qU (a:=((l.length:Nat):Int)-a) (b:=n) q q) (st _ (bn q A q) ?_))))));refine cP (t:=41) q (fun D=>?_) (fun D=>?_)
        ·(have G:=dT D);refine ax ?_;refine⟨q,jn true ?_ ?_⟩
         ·exact⟨yt q D,q,q,q,q,q,tV⟩
         ·exact⟨q,by rw[fD];simp;omega⟩
        ·(have G:=dF D);refine ax ?_;refine⟨q,jn false ?_ ?_⟩
         ·exact⟨yt q D,q,q,q,q,q,tV⟩
         ·exact⟨q,by rw[fD];simp;omega⟩
    ·(have V:=dF J);refine sk J (sk J (st _ (bn q J q) (mv q (sg q (aU q) (sg q (qU (a:=a) (b:=0) q q) (st _ (bn q q q) (mv q ?_)))))));refine cP (t:=28) q (fun C=>?_) (fun C=>?_)
     ·(have E:=dT C);refine sk C (sk C (sk C (sk C (st _ (bE q C q) (mv q (sk q (sk q (sk q (sk q (sk q (sk q (st _ (bE q q q) (ax ?_)))))))))))));refine⟨q,jn true ?_ ?_⟩
      ·exact⟨q,q,q,q,q,q,tV⟩
      ·exact⟨q,by rw[fD];simp;omega⟩
     ·(have E:=dF C);refine sg C (aU q) (sg C (aU q) (sg C (jC q fP h0.ej) (sg C (uG (a:=a) (b:=((l.length:Nat):Int)) q q) (st _ (bn q C q) (mv q ?_)))));refine cP (t:=34) q (fun A=>?_) (fun A=>?_)
      ·(have F:=dT A);refine sk A (sk A (sk A (sk A (sk A (sk A (st _ (bE q A q) (ax ?_)))))));refine⟨q,jn true ?_ ?_⟩
       ·exact⟨q,q,q,q,q,q,tV⟩
       ·exact⟨q,by rw[fD];simp;omega⟩
      ·(have F:=dF A);refine sg A (aU q) (sg A (jC q fP h0.ej) (sg A (aU q) (sg A (lG (a:=((l.length:Nat):Int)) (b:=a) q q (by omega)) (sg A (aU q) (sg A (qU (a:=((l.length:Nat):Int)-a) (b:=n) q q) (st _ (bn q A q) ?_))))));refine cP (t:=41) q (fun D=>?_) (fun D=>?_)
       ·(have G:=dT D);refine ax ?_;refine⟨q,jn true ?_ ?_⟩
        ·exact⟨yt q D,q,q,q,q,q,tV⟩
        ·exact⟨q,by rw[fD];simp;omega⟩
       ·(have G:=dF D);refine ax ?_;refine⟨q,jn false ?_ ?_⟩
        ·exact⟨yt q D,q,q,q,q,q,tV⟩
        ·exact⟨q,by rw[fD];simp;omega⟩
   ·(have U:=dF I);refine sk I (sk I (st _ (bn q I q) (mv q (sk q (sk q (st _ (bn q q q) (mv q (sg q (aU q) (sg q (qU (a:=a) (b:=0) q q) (st _ (bn q q q) (mv q ?_)))))))))));refine cP (t:=28) q (fun C=>?_) (fun C=>?_)
    ·(have E:=dT C);refine sk C (sk C (sk C (sk C (st _ (bE q C q) (mv q (sk q (sk q (sk q (sk q (sk q (sk q (st _ (bE q q q) (ax ?_)))))))))))));refine⟨q,jn true ?_ ?_⟩
     ·exact⟨q,q,q,q,q,q,tV⟩
     ·exact⟨q,by rw[fD];simp;omega⟩
    ·(have E:=dF C);refine sg C (aU q) (sg C (aU q) (sg C (jC q fP h0.ej) (sg C (uG (a:=a) (b:=((l.length:Nat):Int)) q q) (st _ (bn q C q) (mv q ?_)))));refine cP (t:=34) q (fun A=>?_) (fun A=>?_)
     ·(have F:=dT A);refine sk A (sk A (sk A (sk A (sk A (sk A (st _ (bE q A q) (ax ?_)))))));refine⟨q,jn true ?_ ?_⟩
      ·exact⟨q,q,q,q,q,q,tV⟩
      ·exact⟨q,by rw[fD];simp;omega⟩
     ·(have F:=dF A);refine sg A (aU q) (sg A (jC q fP h0.ej) (sg A (aU q) (sg A (lG (a:=((l.length:Nat):Int)) (b:=a) q q (by omega)) (sg A (aU q) (sg A (qU (a:=((l.length:Nat):Int)-a) (b:=n) q q) (st _ (bn q A q) ?_))))));refine cP (t:=41) q (fun D=>?_) (fun D=>?_)
      ·(have G:=dT D);refine ax ?_;refine⟨q,jn true ?_ ?_⟩
       ·exact⟨yt q D,q,q,q,q,q,tV⟩
       ·exact⟨q,by rw[fD];simp;omega⟩
      ·(have G:=dF D);refine ax ?_;refine⟨q,jn false ?_ ?_⟩
       ·exact⟨yt q D,q,q,q,q,q,tV⟩
       ·exact⟨q,by rw[fD];simp;omega⟩
  ·(have T:=dF H);refine sk H (sk H (st _ (bn q H q) (mv q (sk q (sk q (st _ (bn q q q) (mv q (sk q (sk q (st _ (bn q q q) (mv q (sg q (aU q) (sg q (qU (a:=a) (b:=0) q q) ?_)))))))))))));refine st _ (bn q q q) (mv q ?_);refine cP (t:=28) q (fun C=>?_) (fun C=>?_)
   ·(have E:=dT C);refine sk C (sk C (sk C (sk C (st _ (bE q C q) (mv q (sk q (sk q (sk q (sk q (sk q (sk q (st _ (bE q q q) (ax ?_)))))))))))));refine⟨q,jn true ?_ ?_⟩
    ·exact⟨q,q,q,q,q,q,tV⟩
    ·exact⟨q,by rw[fD];simp;omega⟩
   ·(have E:=dF C);refine sg C (aU q) (sg C (aU q) (sg C (jC q fP h0.ej) (sg C (uG (a:=a) (b:=((l.length:Nat):Int)) q q) (st _ (bn q C q) (mv q ?_)))));refine cP (t:=34) q (fun A=>?_) (fun A=>?_)
    ·(have F:=dT A);refine sk A (sk A (sk A (sk A (sk A (sk A (st _ (bE q A q) (ax ?_)))))));refine⟨q,jn true ?_ ?_⟩
     ·exact⟨q,q,q,q,q,q,tV⟩
     ·exact⟨q,by rw[fD];simp;omega⟩
    ·(have F:=dF A);refine sg A (aU q) (sg A (jC q fP h0.ej) (sg A (aU q) (sg A (lG (a:=((l.length:Nat):Int)) (b:=a) q q (by omega)) (sg A (aU q) (sg A (qU (a:=((l.length:Nat):Int)-a) (b:=n) q q) (st _ (bn q A q) ?_))))));refine cP (t:=41) q (fun D=>?_) (fun D=>?_)
     ·(have G:=dT D);refine ax ?_;refine⟨q,jn true ?_ ?_⟩
      ·exact⟨yt q D,q,q,q,q,q,tV⟩
      ·exact⟨q,by rw[fD];simp;omega⟩
     ·(have G:=dF D);refine ax ?_;refine⟨q,jn false ?_ ?_⟩
      ·exact⟨yt q D,q,q,q,q,q,tV⟩
      ·exact⟨q,by rw[fD];simp;omega⟩
 ·rintro c B _ ⟨rfl,L⟩
  refine uh c (fun D=>?_) (fun D=>?_)
  ·replace L:=L.1 D;refine ak (fV q D (ns (dz q (ar q (bw ?_)))));exact ez (vs:=[(.int .u64 ((0:Nat):Int)),(.bool false)]) trivial q ⟨q,q,tV⟩ q ⟨0,false,q,M,(by omega),(yI (by omega))⟩
  ·replace L:=mt L.2 (by rw[D];simp);refine ak (jE q D (bA (ak (aS ?_))));replace L:=Classical.not_not.1 L;have y:=xC L.1;refine aR (an q (aS (nm q (st _ (lG (a:=n) (b:=1) q q (by omega)) (dz q (nt (bS ?_)))))))
   refine r9 (fun(v:Nat) (i:Int)=>[(8,(.int .u64 v)),(9,(.int .i64 (i:Int))),(0,v0),(1,(.int .i64 (a:Int))),(6,(.int .u64 ((0:Nat):Int))),(7,(.bool false))]) (fun(v:Nat) (i:Int) w'=>∃Q':Nat→Prop,(∀b,Q' b→Q b)∧(∀b,Q b→b<w.heap.size→Q' b)∧Up w' Q'∧Md [] w w'∧Ls fe w' Q' v0 l∧(-1≤i∧i<n)∧v=wV ((l.drop (a+(i+1)).toNat).take (n-1-i).toNat)∧v<18446744073709551616) (fun(v:Nat) (i:Int)=>(i+1).toNat) (x0:=0) (x1:=(n-1)) ?_ ?_ ?_
   ·exact⟨q,q,q,q,q,q,tV⟩
   ·exact⟨Q,Z,P,uQ,M,h0,(by omega),(by simp[show n-1-(n-1)=0 by omega,wV]),(by omega)⟩
   ·clear M uQ Z P h0
    rintro v i B z ⟨g,Z,P,uQ,M,h0,e,N,f⟩;refine aS (nm q (st _ (rJ (a:=i) (b:=0) q q) (nt ?_)));refine cL q (fun R=>?_) (fun R=>?_)
    ·(have X:=dT R);have j:=sV (l:=(l.drop (a+(i+1)).toNat).take (n-1-i).toNat) (k:=7) (by simp;omega);rw[← N]at j;refine bA (ak (aS (bS (aR (mv q (st _ (mI (a:=v) (b:=256) 18446744073709551616 q q q (by omega)) (m2 q q (mv q (st _ (eW (a:=a) (b:=i) q q (by omega)) (st _ (vQ (i:=a+i) 1 q q fP mO h0.ej (by omega)) ?_))))))))));obtain⟨S,Y⟩:=eH (l:=l) (i:=(a+i).toNat) (by omega);obtain⟨x,d,O⟩:=h0.get Y;obtain⟨rfl,_⟩:=d;have r:=UInt8.toNat_lt S;replace O:At _ v0 (((a+i).toNat)*1) [(b8 S)]:=O;refine st _ ((d8 (kk:=((a+i).toNat)*1) 0 q q pY O q).to (b:=(b8 S)) q) (st _ (dJ (a:=S.toNat) 18446744073709551616 q (by rw[u5];rfl) kY q (lq (UInt8.toNat_lt _) (by decide))) (st _ (fM (a:=(v*256)) (b:=S.toNat) 18446744073709551616 q q q (by omega)) (dz q (ax ?_))));clear O;refine cA (ak (aR (mv q (st _ (lG (a:=i) (b:=1) q q (by omega)) (an q ?_)))));refine p5 (x0:=((v*256)+S.toNat)) (x1:=(i-1)) (by omega) ⟨(eA q (by rfl)),(eA q (by omega)),q,q,q,q,tV⟩ ⟨g,Z,P,uQ,M,h0,(by omega),(by rw[N];have o:=KC (k:=(n-1-i).toNat) Y;rw[show(n-1-(i-1)).toNat=(n-1-i).toNat+1 by omega,show(a+(i-1+1)).toNat=(a+i).toNat by omega,o,show(a+i).toNat+1=(a+(i+1)).toNat by omega];omega),(by omega)⟩
    ·(have X:=dF R);refine dG (bZ (bZ (ey (ak (nm q (dz q (ar q ?_)))))));exact ez (vs:=[(.int .u64 v),(.bool true)]) trivial q ⟨q,q,tV⟩ q ⟨v,true,q,M,(by assumption),(by rw[oG,if_pos (by omega),N,show i = -1 by omega];simp)⟩
end Go.Proofs.YtbmmkbejcnalcaaGreat
